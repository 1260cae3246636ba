/- The law: the functions that it reaches, each with the proof that the machine's call comes to its answer, what they answer, and the law's row; each theorem says its conditions itself. -/
import Derived.Test.YtilhcaofpfeioaaVFnDevs
import Derived.Test.YtilhcaofpfeioaaProg
import Derived.Below
import Derived.Deep.Draws
import Derived.Deep.AppendLies
import Derived.Maps.AppendAt
import Derived.OwnWalk
import Derived.Laws.BytesArg
import Derived.Laws.MakeOwn
import Derived.Laws.OwnMore
import Derived.Deep.OwnRows
import Derived.Tactics
import Derived.Lib.ConvBytes
import Derived.Laws.Slices
import Derived.WalkKit
import Derived.KernelRfl
import Derived.RowKit3
import Derived.Deep.LoopGhost
import Derived.Deep.QuietTactic
import Derived.BigQuiet
import Derived.WideLaws
import Derived.Deep.DeepCutAuto
import Derived.Deep.CutBlock
import Derived.Deep.RegionHeld3
import Derived.Laws.Rows
import Derived.Lib.AppendStr
import Derived.ArgAppend
import Derived.Laws.IdiomCopy
import Derived.OrdersHeld
import Derived.Laws.BitsLemmas
import Derived.RowKit
import Derived.IntWalk
namespace Go.Proofs.Ytilhcaofpfeioaa.PFnDevs
open Go.RowKit Go.Proofs.YtilhcaofpfeioaaW.PrintWords Go.Proofs.YtilhcaofpfeioaaW.PrintLast Go.Proofs.YtilhcaofpfeioaaW.PrintMore
attribute [local go_sem] max2_int min2_int max_two min_two max_three min_three max_four min_four   -- for this text's walks alone
set_option linter.unusedVariables false
set_option linter.unusedSimpArgs false
def errW : Option Int → Value
 | none => .nilIface
 | some c => .iface 0 (.int .i64 c)
theorem errW_none : errW none = .nilIface := rfl
theorem errW_some (c : Int) : errW (some c) = .iface 0 (.int .i64 c) := rfl
theorem info5 : (Try.prog.info? 5).map (fun i => (i.zero, i.size, i.bytes)) = some (some (.int .u8 0), 1, 1) := by kernel_rfl
theorem info37 : (Try.prog.info? 37).map (fun i => (i.zero, i.size, i.bytes)) = some (some (.slice none 0 0), 1, 24) := by kernel_rfl
theorem info50 : (Try.prog.info? 50).map (fun i => (i.zero, i.size, i.bytes)) = some (some (.agg #[(.int .i64 0), (.slice none 0 0)]), 2, 32) := by kernel_rfl
-- the values' own types
def rd_L1 (xs : List (List Int)) (i : Int) : (List Int) := xs.getD i.toNat ([] : List Int)
theorem at_L1 {w : World} {A : Option Addr} {n : Nat} {xs : List (List Int)} (h : Kd.C (Kd.slice 5 (Kd.int .u8)) w A n xs) (i : Int) (h0 : 0 ≤ i) (h1 : i < n) : ∃ ad A0 c0, A = some ad ∧ w.cell? (ad.add i.toNat) = some (.slice A0 (rd_L1 xs i).length c0) ∧ (rd_L1 xs i).length ≤ c0 ∧ (Kd.int .u8).C w A0 (rd_L1 xs i).length (rd_L1 xs i) := by
 obtain ⟨ad, c, e, _, hK, hc0⟩ := Kd.C_get h ([] : List Int) i h0 h1
 have hc : ∀ j u, c[j]? = some u → w.cell? (ad.add (i.toNat * 1 + j)) = some u := hc0
 obtain ⟨A0, c0, rfl, l0, g0⟩ := hK
 exact ⟨ad, A0, c0, e, by have hq := hc 0 _ rfl; rwa [Nat.mul_one, Nat.add_zero] at hq, l0, g0⟩
structure S50 where
 f0 : Int
 f1 : (List Int)
def z50 : S50 := ⟨(0 : Int), ([] : List Int)⟩
def k50 : Kd S50 := Kd.iso (Kd.pair (Kd.int .i64) (Kd.slice 5 (Kd.int .u8))) (fun x : S50 => (x.f0, x.f1))
theorem k50_open {w : World} {x : S50} {cs : List Value} (h : k50.K w x cs) : ∃ A1 c1, cs = [.int .i64 x.f0, .slice A1 x.f1.length c1] ∧ x.f1.length ≤ c1 ∧ (Kd.int .u8).C w A1 x.f1.length x.f1 := by
 obtain ⟨_, _, rfl, rfl, ⟨A1, c1, rfl, l1, g1⟩⟩ := h
 exact ⟨A1, c1, rfl, l1, g1⟩
theorem k50_mk (w : World) (x : S50) {A1 : Option Addr} {c1 : Nat} (l1 : x.f1.length ≤ c1) (g1 : (Kd.int .u8).C w A1 x.f1.length x.f1) : k50.K w x [.int .i64 x.f0, .slice A1 x.f1.length c1] := ⟨[.int .i64 x.f0], [.slice A1 x.f1.length c1], rfl, rfl, ⟨A1, c1, rfl, l1, g1⟩⟩
theorem k50_mkM (w : World) (base : Nat) (ok : Nat → Prop) (x : S50) {v1 : Value} (g1 : (Kd.int .u8).R 5 w base ok v1 x.f1) : k50.M w base ok x [.int .i64 x.f0, v1] := ⟨[.int .i64 x.f0], [v1], rfl, rfl, ⟨v1, rfl, g1⟩⟩
theorem k50_openF {W : World} {ok : Nat → Prop} {x : S50} {cs : List Value} (h : Kd.FK k50 W ok x cs) : ∃ A1 c1, cs = [.int .i64 x.f0, .slice A1 x.f1.length c1] ∧ x.f1.length ≤ c1 ∧ Kd.F (Kd.int .u8) W ok A1 x.f1.length x.f1 := by
 obtain ⟨A1, c1, rfl, l1, _⟩ := k50_open (Kd.FK_now h)
 exact ⟨A1, c1, rfl, l1, (fun W' hW => by obtain ⟨A1_, c1_, he, l1_, g1_⟩ := k50_open (h W' hW); injection (Option.some.inj (show some (Value.slice A1 x.f1.length c1) = some (Value.slice A1_ x.f1.length c1_) from congrArg (fun l => l[1]?) he)) with ha_ _ _; rw [ha_]; exact g1_)⟩
theorem k50_mkF (W : World) (ok : Nat → Prop) (x : S50) {A1 : Option Addr} {c1 : Nat} (l1 : x.f1.length ≤ c1) (g1 : Kd.F (Kd.int .u8) W ok A1 x.f1.length x.f1) : Kd.FK k50 W ok x [.int .i64 x.f0, .slice A1 x.f1.length c1] := fun W2 hW => k50_mk W2 x l1 (g1 W2 hW)
def rd_T50 (xs : List S50) (i : Int) : S50 := xs.getD i.toNat z50
theorem at_T50 {w : World} {A : Option Addr} {n : Nat} {xs : List S50} (h : Kd.C k50 w A n xs) (i : Int) (h0 : 0 ≤ i) (h1 : i < n) : ∃ ad A1 c1, A = some ad ∧ w.cell? (ad.add (i.toNat * 2)) = some (.int .i64 (rd_T50 xs i).f0) ∧ w.cell? ⟨(ad.add (i.toNat * 2)).block, (ad.add (i.toNat * 2)).off + 1, none⟩ = some (.slice A1 (rd_T50 xs i).f1.length c1) ∧ (rd_T50 xs i).f1.length ≤ c1 ∧ (Kd.int .u8).C w A1 (rd_T50 xs i).f1.length (rd_T50 xs i).f1 := by
 obtain ⟨ad, c, e, _, hK, hc0⟩ := Kd.C_get h z50 i h0 h1
 have hc : ∀ j u, c[j]? = some u → w.cell? (ad.add (i.toNat * 2 + j)) = some u := hc0
 obtain ⟨A1, c1, rfl, l1, g1⟩ := k50_open hK
 exact ⟨ad, A1, c1, e, hc 0 _ rfl, by rw [← add_field _ _ 1 (by omega)]; exact hc 1 _ rfl, l1, g1⟩
end Go.Proofs.Ytilhcaofpfeioaa.PFnDevs

namespace Go.Proofs.Ytilhcaofpfeioaa.PFnDevs
open Go.RowKit Go.Proofs.YtilhcaofpfeioaaW.PrintWords Go.Proofs.YtilhcaofpfeioaaW.PrintLast Go.Proofs.YtilhcaofpfeioaaW.PrintMore
attribute [local go_sem] max2_int min2_int max_two min_two max_three min_three max_four min_four   -- for this text's walks alone
set_option linter.unusedVariables false
set_option linter.unusedSimpArgs false
def impl_within.f (a0 : Int) (a1 : Int) (a2 : Int) : Option (Bool) := if a0 ≥ a1 then (some (decide (a0 ≤ a2))) else (some false)
set_option maxHeartbeats 8000000 in
set_option maxRecDepth 100000 in
theorem impl_within.calls (a0 : Int) (a1 : Int) (a2 : Int) (r : Bool) (w : World) (h : impl_within.f a0 a1 a2 = some r) :
  Calls Try.prog 44 #[.int .i64 a0, .int .i64 a1, .int .i64 a2] w fun e w' => e = .returned (.bool r) ∧ Drawn0 w w' := by
 have H : (if a0 ≥ a1 then (some (decide (a0 ≤ a2))) else (some false)) = some r := h
 clear h
 by_cases c4 : a0 ≥ a1
 ·rw [if_pos c4] at H
  have c4b0 : decide (a1 ≤ a0) = true := decide_eq_true c4
  clear c4
  obtain rfl := Option.some.inj H
  go_enter Try.func44, Try.ntmps44
  go_wp2
  go_ret
  exact ⟨by first | rfl | (simp; done) | (simp [*]; done), by repeat (first | exact Drawn0.refl _ | apply Drawn0.step)⟩
 ·rw [if_neg c4] at H
  have c4b0 : decide (a1 ≤ a0) = false := decide_eq_false c4
  clear c4
  obtain rfl := Option.some.inj H
  go_enter Try.func44, Try.ntmps44
  go_wp2
  go_ret
  exact ⟨by first | rfl | (simp; done) | (simp [*]; done), by repeat (first | exact Drawn0.refl _ | apply Drawn0.step)⟩
mutual
def impl_DevOk.j0 : Nat → Bool → List (List Int) → List (S50) → Int → Bool → Option (Bool)
 | 0, _, _, _, _, _ => none
 | k + 1, x23, x102000, x102001, x102002, x102003 => if x23 = true then (some false) else (impl_DevOk.l0 k x102000 (x102000.length : Int) 0 x102000 x102001 x102002 x102003)
def impl_DevOk.l0 : Nat → List (List Int) → Int → Int → List (List Int) → List (S50) → Int → Bool → Option (Bool)
 | 0, _, _, _, _, _, _, _ => none
 | k + 1, x25, x26, x27, x102000, x102001, x102002, x102003 => if x27 < x26 then (if 0 ≤ x27 then (if x27 < (x25.length : Int) then (if ((rd_L1 x25 x27).length : Int) > 80 then (some false) else (impl_DevOk.l0 k x25 x26 (wrap64 (x27 + 1)) x102000 x102001 x102002 x102003)) else (none)) else (none)) else (impl_DevOk.l1 k x102001 (x102001.length : Int) 0 x102000 x102001 x102002 x102003)
def impl_DevOk.l1 : Nat → List (S50) → Int → Int → List (List Int) → List (S50) → Int → Bool → Option (Bool)
 | 0, _, _, _, _, _, _, _ => none
 | k + 1, x36, x37, x38, x102000, x102001, x102002, x102003 => if x38 < x37 then (if 0 ≤ x38 then (if x38 < (x36.length : Int) then ((impl_within.f ((rd_T50 x36 x38).f0) 0 (wrap64 ((x102000.length : Int) - 1))).bind fun t107 => (if t107 = true then (if (((rd_T50 x36 x38).f1).length : Int) > 80 then (some false) else (impl_DevOk.l1 k x36 x37 (wrap64 (x38 + 1)) x102000 x102001 x102002 x102003)) else (some false))) else (none)) else (none)) else (some true)
end
def impl_DevOk.f (k : Nat) (l0_0 : List (List Int)) (l0_1 : List (S50)) (a0_2 : Int) (a0_3 : Bool) : Option (Bool) := (impl_within.f (l0_0.length : Int) 1 60).bind fun t102 => (if t102 = true then (if (l0_1.length : Int) > 60 then (impl_DevOk.j0 k true l0_0 l0_1 a0_2 a0_3) else ((impl_within.f a0_2 (-1) 1000).bind fun t103 => (impl_DevOk.j0 k (!t103) l0_0 l0_1 a0_2 a0_3))) else (impl_DevOk.j0 k true l0_0 l0_1 a0_2 a0_3))
set_option maxHeartbeats 8000000 in
set_option maxRecDepth 100000 in
theorem impl_DevOk.calls (k : Nat) (A0_0 : Option Addr) (c0_0 : Nat) (l0_0 : List (List Int)) (A0_1 : Option Addr) (c0_1 : Nat) (l0_1 : List (S50)) (a0_2 : Int) (a0_3 : Bool) (r : Bool) (w : World) (hr0_0 : Kd.C (Kd.slice 5 (Kd.int .u8)) w A0_0 l0_0.length l0_0) (hc0_0 : l0_0.length ≤ c0_0) (hr0_1 : Kd.C k50 w A0_1 l0_1.length l0_1) (hc0_1 : l0_1.length ≤ c0_1) (h : impl_DevOk.f k l0_0 l0_1 a0_2 a0_3 = some r) :
  Calls Try.prog 20 #[.agg #[.slice A0_0 l0_0.length c0_0, .slice A0_1 l0_1.length c0_1, .int .i64 a0_2, .bool a0_3]] w fun e w' => e = .returned (.bool r) ∧ Below w.heap.size w w' := by
 have hu25 := Try.underlying25
 have hu50 := Try.underlying50
 have HR0_0 := aD.mk hr0_0
 have HC0_0 := aD.mk hc0_0
 clear hr0_0 hc0_0
 have HR0_1 := aD.mk hr0_1
 have HC0_1 := aD.mk hc0_1
 clear hr0_1 hc0_1
 have HB := aD.mk (Below.refl w.heap.size w)
 have H : ((impl_within.f (l0_0.length : Int) 1 60).bind fun t102 => (if t102 = true then (if (l0_1.length : Int) > 60 then (impl_DevOk.j0 k true l0_0 l0_1 a0_2 a0_3) else ((impl_within.f a0_2 (-1) 1000).bind fun t103 => (impl_DevOk.j0 k (!t103) l0_0 l0_1 a0_2 a0_3))) else (impl_DevOk.j0 k true l0_0 l0_1 a0_2 a0_3))) = some r := h
 clear h
 have HC2 := aD.mk H
 clear H
 go_enter Try.func20, Try.ntmps20
 go_upto_region 1 with (first | ((with_reducible refine bE (N := 1) rfl ?_); (try (refine gate_guard (by rfl) ?_; dsimp only)); refine bD ?hg (N := 1) ?hd (cs := #[.slice A0_0 l0_0.length c0_0, .slice A0_1 l0_1.length c0_1, .int .i64 a0_2, .bool a0_3]) (t := 25) ?hr ?_; (case hd => rfl); (case hg => rfl); (case hr => first | (go_simp; done) | (go_simp; rfl)); intro gb101 hg w3 hbox hb; have n0_ := aD.mk (aQ (by repeat (first | (with_reducible first | exact HB.out | apply aM | apply aJ | apply aN) | exact HB.out)) hb); have n1_ := aD.mk (hbox); have n2_ := aD.mk ((by rw [hg]; exact (bM (by repeat (first | (with_reducible first | exact HB.out | apply aM | apply aJ | apply aN) | exact HB.out))) : w.heap.size ≤ gb101)); have n3_ := aD.mk ((by rw [hg]; exact (bM (by repeat (first | (with_reducible first | exact HB.out | apply aM | apply aJ | apply aN) | exact HB.out))) : w.heap.size ≤ gb101)); clear HB; have HB := n0_; have BK101 := n1_; have GW101 := n2_; have GE101 := n3_; clear n0_ n1_ n2_ n3_; clear hb hbox hg))
 (try simp only [Act.put, lA, lB, lC])
 go_cut [23] (fun v23 wc => ∃ (kq : Nat) (x23_1 : Bool), v23 = .bool x23_1 ∧ aD (impl_DevOk.j0 kq x23_1 l0_0 l0_1 a0_2 a0_3 = some r) ∧ aD (kq ≤ k) ∧ aD (wc.heap[gb101]? = some (.cells #[(.slice A0_0 l0_0.length c0_0), (.slice A0_1 l0_1.length c0_1), .int .i64 a0_2, .bool a0_3] 25 (0, 0))) ∧ aD (Below w.heap.size w wc))
 case first =>
  have H := HC2.out
  clear HC2
  replace H := lF H
  obtain ⟨t102, A40, H⟩ := H
  replace H : (if t102 = true then (if (l0_1.length : Int) > 60 then (impl_DevOk.j0 k true l0_0 l0_1 a0_2 a0_3) else ((impl_within.f a0_2 (-1) 1000).bind fun t103 => (impl_DevOk.j0 k (!t103) l0_0 l0_1 a0_2 a0_3))) else (impl_DevOk.j0 k true l0_0 l0_1 a0_2 a0_3)) = some r := H
  have A4 := aD.mk A40
  clear A40
  by_cases c5 : t102 = true
  ·subst c5
   have H1 : (if (l0_1.length : Int) > 60 then (impl_DevOk.j0 k true l0_0 l0_1 a0_2 a0_3) else ((impl_within.f a0_2 (-1) 1000).bind fun t103 => (impl_DevOk.j0 k (!t103) l0_0 l0_1 a0_2 a0_3))) = some r := by rw [if_pos rfl] at H; exact H
   clear H
   have H := H1
   clear H1
   by_cases c6 : (l0_1.length : Int) > 60
   ·rw [if_pos c6] at H
    have c6b0 : decide (60 < (l0_1.length : Int)) = true := decide_eq_true c6
    have c6b1 : decide (60 < l0_1.length) = true := decide_eq_true (by omega)
    clear c6
    (first | rw [c6b0] | (simp only [aW, aX]; rw [c6b0]) | skip)
    have H' := aD.mk H
    clear H
    have hcz7_0 : w3.cell? ⟨gb101, 0, none⟩ = some (.slice A0_0 l0_0.length c0_0) := (aC BK101.out 0).trans rfl
    have hcz7_1 : w3.cell? ⟨gb101, 1, none⟩ = some (.slice A0_1 l0_1.length c0_1) := (aC BK101.out 1).trans rfl
    have hcz7_2 : w3.cell? ⟨gb101, 2, none⟩ = some (.int .i64 a0_2) := (aC BK101.out 2).trans rfl
    have hcz7_3 : w3.cell? ⟨gb101, 3, none⟩ = some (.bool a0_3) := (aC BK101.out 3).trans rfl
    have hfz7_0 := aA BK101.out 0
    have hfz7_1 := aA BK101.out 1
    have hfz7_2 := aA BK101.out 2
    have hfz7_3 := aA BK101.out 3
    go_wp2_with (first | ((with_reducible refine aY (f := 44) rfl ?_); refine bL (some 10) rfl rfl Try.func44 (by kernel_rfl) rfl #[.int .i64 (l0_0.length : Int), .int .i64 1, .int .i64 60] rfl (by (try simp only [List.map_toArray, List.map_cons, List.map_nil]); first | done | rfl | (simp only [List.length_drop, List.length_take]; rfl)) ?_; (with_reducible refine (impl_within.calls (l0_0.length : Int) 1 60 true _ A4.out).mono ?_); rintro e w' ⟨rfl, ⟨nd, rfl⟩⟩; refine ⟨_, rfl, ?_⟩))
    go_meet
    case rel => exact ⟨_, (true), (by first | rfl | (simp; done) | (simp [*]; done)), H', ⟨by first | omega | exact Nat.le_refl _⟩, ⟨by (with_reducible repeat (first | refine bB ?_ _ | refine bA ?_ | refine aZ ?_ _)); exact BK101.out⟩, ⟨by repeat (first | (with_reducible first | exact HB.out | apply aM | apply aJ | apply aN | refine aG ?_ GE101.out) | exact HB.out)⟩⟩
   ·rw [if_neg c6] at H
    have c6b0 : decide (60 < (l0_1.length : Int)) = false := decide_eq_false c6
    have c6b1 : decide (60 < l0_1.length) = false := decide_eq_false (by omega)
    clear c6
    (first | rw [c6b0] | (simp only [aW, aX]; rw [c6b0]) | skip)
    replace H := lF H
    obtain ⟨t103, A80, H⟩ := H
    replace H : (impl_DevOk.j0 k (!t103) l0_0 l0_1 a0_2 a0_3) = some r := H
    have A8 := aD.mk A80
    clear A80
    have H' := aD.mk H
    clear H
    have hcz9_0 : w3.cell? ⟨gb101, 0, none⟩ = some (.slice A0_0 l0_0.length c0_0) := (aC BK101.out 0).trans rfl
    have hcz9_1 : w3.cell? ⟨gb101, 1, none⟩ = some (.slice A0_1 l0_1.length c0_1) := (aC BK101.out 1).trans rfl
    have hcz9_2 : w3.cell? ⟨gb101, 2, none⟩ = some (.int .i64 a0_2) := (aC BK101.out 2).trans rfl
    have hcz9_3 : w3.cell? ⟨gb101, 3, none⟩ = some (.bool a0_3) := (aC BK101.out 3).trans rfl
    have hfz9_0 := aA BK101.out 0
    have hfz9_1 := aA BK101.out 1
    have hfz9_2 := aA BK101.out 2
    have hfz9_3 := aA BK101.out 3
    go_wp2_with (first | ((with_reducible refine aY (f := 44) rfl ?_); refine bL (some 10) rfl rfl Try.func44 (by kernel_rfl) rfl #[.int .i64 (l0_0.length : Int), .int .i64 1, .int .i64 60] rfl (by (try simp only [List.map_toArray, List.map_cons, List.map_nil]); first | done | rfl | (simp only [List.length_drop, List.length_take]; rfl)) ?_; (with_reducible refine (impl_within.calls (l0_0.length : Int) 1 60 true _ A4.out).mono ?_); rintro e w' ⟨rfl, ⟨nd, rfl⟩⟩; refine ⟨_, rfl, ?_⟩) | (go_at_call 44; (with_reducible refine (impl_within.calls a0_2 (-1) 1000 t103 _ A8.out).mono ?_); rintro e w' ⟨rfl, ⟨nd, rfl⟩⟩))
    go_meet
    case rel => exact ⟨_, (!t103), (by first | rfl | (simp; done) | (simp [*]; done)), H', ⟨by first | omega | exact Nat.le_refl _⟩, ⟨by (with_reducible repeat (first | refine bB ?_ _ | refine bA ?_ | refine aZ ?_ _)); exact BK101.out⟩, ⟨by repeat (first | (with_reducible first | exact HB.out | apply aM | apply aJ | apply aN | refine aG ?_ GE101.out) | exact HB.out)⟩⟩
  ·replace c5 := Bool.eq_false_iff.mpr c5
   subst c5
   have H1 : (impl_DevOk.j0 k true l0_0 l0_1 a0_2 a0_3) = some r := by rw [if_neg (show ¬ (false = true) by decide)] at H; exact H
   clear H
   have H := H1
   clear H1
   have H' := aD.mk H
   clear H
   have hcz10_0 : w3.cell? ⟨gb101, 0, none⟩ = some (.slice A0_0 l0_0.length c0_0) := (aC BK101.out 0).trans rfl
   have hcz10_1 : w3.cell? ⟨gb101, 1, none⟩ = some (.slice A0_1 l0_1.length c0_1) := (aC BK101.out 1).trans rfl
   have hcz10_2 : w3.cell? ⟨gb101, 2, none⟩ = some (.int .i64 a0_2) := (aC BK101.out 2).trans rfl
   have hcz10_3 : w3.cell? ⟨gb101, 3, none⟩ = some (.bool a0_3) := (aC BK101.out 3).trans rfl
   have hfz10_0 := aA BK101.out 0
   have hfz10_1 := aA BK101.out 1
   have hfz10_2 := aA BK101.out 2
   have hfz10_3 := aA BK101.out 3
   go_wp2_with (first | ((with_reducible refine aY (f := 44) rfl ?_); refine bL (some 10) rfl rfl Try.func44 (by kernel_rfl) rfl #[.int .i64 (l0_0.length : Int), .int .i64 1, .int .i64 60] rfl (by (try simp only [List.map_toArray, List.map_cons, List.map_nil]); first | done | rfl | (simp only [List.length_drop, List.length_take]; rfl)) ?_; (with_reducible refine (impl_within.calls (l0_0.length : Int) 1 60 false _ A4.out).mono ?_); rintro e w' ⟨rfl, ⟨nd, rfl⟩⟩; refine ⟨_, rfl, ?_⟩))
   go_meet
   case rel => exact ⟨_, (true), (by first | rfl | (simp; done) | (simp [*]; done)), H', ⟨by first | omega | exact Nat.le_refl _⟩, ⟨by (with_reducible repeat (first | refine bB ?_ _ | refine bA ?_ | refine aZ ?_ _)); exact BK101.out⟩, ⟨by repeat (first | (with_reducible first | exact HB.out | apply aM | apply aJ | apply aN | refine aG ?_ GE101.out) | exact HB.out)⟩⟩
 case rest =>
  clear HC2
  try clear c2
  try clear p2
  try clear c4
  try clear c5
  try clear c6
  try clear c6b0
  try clear c6b1
  try clear hcz10_0
  try clear hcz10_1
  try clear hcz10_2
  try clear hcz10_3
  try clear hcz7_0
  try clear hcz7_1
  try clear hcz7_2
  try clear hcz7_3
  try clear hcz9_0
  try clear hcz9_1
  try clear hcz9_2
  try clear hcz9_3
  try clear hfz10_0
  try clear hfz10_1
  try clear hfz10_2
  try clear hfz10_3
  try clear hfz7_0
  try clear hfz7_1
  try clear hfz7_2
  try clear hfz7_3
  try clear hfz9_0
  try clear hfz9_1
  try clear hfz9_2
  try clear hfz9_3
  obtain ⟨kq, x23_1, rfl, HA, HJ1, BK101, HB⟩ := hcut
  cases kq with
  | zero => exact absurd HA.out (by simp [impl_DevOk.j0])
  | succ kj1 =>
   have H := HA.out
   clear HA
   simp only [impl_DevOk.j0] at H
   by_cases c11 : x23_1 = true
   ·subst c11
    have H1 : (some false) = some r := by rw [if_pos rfl] at H; exact H
    clear H
    have H := H1
    clear H1
    obtain rfl := Option.some.inj H
    go_wp2
    go_ret
    exact ⟨by first | rfl | (simp [errW_none, errW_some] <;> rfl) | (simp [*, errW_none, errW_some] <;> rfl), by repeat (first | (with_reducible first | exact HB.out | apply aM | apply aJ | apply aN | refine aG ?_ GE101.out) | exact HB.out)⟩
   ·replace c11 := Bool.eq_false_iff.mpr c11
    subst c11
    have H1 : (impl_DevOk.l0 kj1 l0_0 (l0_0.length : Int) 0 l0_0 l0_1 a0_2 a0_3) = some r := by rw [if_neg (show ¬ (false = true) by decide)] at H; exact H
    clear H
    have H := H1
    clear H1
    have H' := aD.mk H
    clear H
    have hcz12_0 : wc.cell? ⟨gb101, 0, none⟩ = some (.slice A0_0 l0_0.length c0_0) := (aC BK101.out 0).trans rfl
    have hcz12_1 : wc.cell? ⟨gb101, 1, none⟩ = some (.slice A0_1 l0_1.length c0_1) := (aC BK101.out 1).trans rfl
    have hcz12_2 : wc.cell? ⟨gb101, 2, none⟩ = some (.int .i64 a0_2) := (aC BK101.out 2).trans rfl
    have hcz12_3 : wc.cell? ⟨gb101, 3, none⟩ = some (.bool a0_3) := (aC BK101.out 3).trans rfl
    have hfz12_0 := aA BK101.out 0
    have hfz12_1 := aA BK101.out 1
    have hfz12_2 := aA BK101.out 2
    have hfz12_3 := aA BK101.out 3
    go_wp2
    go_loopg [27] kj1 (fun kq v27 w' => ∃ (x27_2 : Int), v27 = .int .i64 x27_2 ∧ aD (impl_DevOk.l0 kq l0_0 (l0_0.length : Int) x27_2 l0_0 l0_1 a0_2 a0_3 = some r) ∧ aD (kq ≤ kj1) ∧ aD (w'.heap[gb101]? = some (.cells #[(.slice A0_0 l0_0.length c0_0), (.slice A0_1 l0_1.length c0_1), .int .i64 a0_2, .bool a0_3] 25 (0, 0))) ∧ aD (Below w.heap.size w w'))
    case atStart => exact ⟨(0), (by first | rfl | (simp; done) | (simp [*]; done)), H', ⟨Nat.le_refl _⟩, ⟨by (with_reducible repeat (first | refine bB ?_ _ | refine bA ?_ | refine aZ ?_ _)); exact BK101.out⟩, ⟨by repeat (first | (with_reducible first | exact HB.out | apply aM | apply aJ | apply aN | refine aG ?_ GE101.out) | exact HB.out)⟩⟩
    case round =>
     clear H'
     try clear c1
     try clear c2
     try clear p2
     try clear c4
     try clear c5
     try clear c6
     try clear c6b0
     try clear c6b1
     try clear c11
     try clear hcz10_0
     try clear hcz10_1
     try clear hcz10_2
     try clear hcz10_3
     try clear hcz12_0
     try clear hcz12_1
     try clear hcz12_2
     try clear hcz12_3
     try clear hcz7_0
     try clear hcz7_1
     try clear hcz7_2
     try clear hcz7_3
     try clear hcz9_0
     try clear hcz9_1
     try clear hcz9_2
     try clear hcz9_3
     try clear hfz10_0
     try clear hfz10_1
     try clear hfz10_2
     try clear hfz10_3
     try clear hfz12_0
     try clear hfz12_1
     try clear hfz12_2
     try clear hfz12_3
     try clear hfz7_0
     try clear hfz7_1
     try clear hfz7_2
     try clear hfz7_3
     try clear hfz9_0
     try clear hfz9_1
     try clear hfz9_2
     try clear hfz9_3
     try clear p2
     obtain ⟨x27_2, rfl, HA, HK2, BK101, HB⟩ := hrel
     cases gk with
     | zero => exact absurd HA.out (by simp [impl_DevOk.l0])
     | succ k2 =>
      have H := HA.out
      clear HA
      simp only [impl_DevOk.l0] at H
      by_cases c13 : x27_2 < (l0_0.length : Int)
      ·rw [if_pos c13] at H
       have c13b0 : decide (x27_2 < (l0_0.length : Int)) = true := decide_eq_true c13
       clear c13
       by_cases c14 : 0 ≤ x27_2
       ·rw [if_pos c14] at H
        have c14b0 : decide (0 ≤ x27_2) = true := decide_eq_true c14
        clear c14
        by_cases c15 : x27_2 < (l0_0.length : Int)
        ·rw [if_pos c15] at H
         have c15b0 : decide (x27_2 < (l0_0.length : Int)) = true := decide_eq_true c15
         clear c15
         by_cases c16 : ((rd_L1 l0_0 x27_2).length : Int) > 80
         ·rw [if_pos c16] at H
          have c16b0 : decide (80 < ((rd_L1 l0_0 x27_2).length : Int)) = true := decide_eq_true c16
          have c16b1 : decide (80 < (rd_L1 l0_0 x27_2).length) = true := decide_eq_true (by omega)
          clear c16
          obtain rfl := Option.some.inj H
          have p104 : 0 ≤ (x27_2 : Int) := lE (by first | (with_reducible assumption) | assumption)
          have q104 : x27_2 < (l0_0.length : Int) := lE (by first | (with_reducible assumption) | assumption)
          obtain ⟨ad104, A104_0, c104_0, e104, hx104_0, hl104_0, hi104_0⟩ := at_L1 HR0_0.out x27_2 p104 q104
          cases e104
          replace hx104_0 := (HB.out.cell (lD w _ hx104_0)).trans hx104_0
          have HR104_0 := aD.mk hi104_0
          have HC104_0 := aD.mk hl104_0
          clear hi104_0 hl104_0
          replace p104 := eq_true p104
          replace q104 := eq_true q104
          go_wp2
          go_ret
          exact ⟨by first | rfl | (simp [errW_none, errW_some] <;> rfl) | (simp [*, errW_none, errW_some] <;> rfl), by repeat (first | (with_reducible first | exact HB.out | apply aM | apply aJ | apply aN | refine aG ?_ GE101.out) | exact HB.out)⟩
         ·rw [if_neg c16] at H
          have c16b0 : decide (80 < ((rd_L1 l0_0 x27_2).length : Int)) = false := decide_eq_false c16
          have c16b1 : decide (80 < (rd_L1 l0_0 x27_2).length) = false := decide_eq_false (by omega)
          clear c16
          have H' := aD.mk H
          clear H
          have p104 : 0 ≤ (x27_2 : Int) := lE (by first | (with_reducible assumption) | assumption)
          have q104 : x27_2 < (l0_0.length : Int) := lE (by first | (with_reducible assumption) | assumption)
          obtain ⟨ad104, A104_0, c104_0, e104, hx104_0, hl104_0, hi104_0⟩ := at_L1 HR0_0.out x27_2 p104 q104
          cases e104
          replace hx104_0 := (HB.out.cell (lD w _ hx104_0)).trans hx104_0
          have HR104_0 := aD.mk hi104_0
          have HC104_0 := aD.mk hl104_0
          clear hi104_0 hl104_0
          replace p104 := eq_true p104
          replace q104 := eq_true q104
          go_wp2
          go_roundg k2
          case measure => have := HJ1.out; have := HK2.out; omega
          case rel => exact ⟨(wrap64 (x27_2 + 1)), (by first | rfl | (simp; done) | (simp [*]; done)), H', ⟨by have := HJ1.out; have := HK2.out; omega⟩, ⟨by (with_reducible repeat (first | refine bB ?_ _ | refine bA ?_ | refine aZ ?_ _)); exact BK101.out⟩, ⟨by repeat (first | (with_reducible first | exact HB.out | apply aM | apply aJ | apply aN | refine aG ?_ GE101.out) | exact HB.out)⟩⟩
        ·rw [if_neg c15] at H
         exact absurd H (by simp)
       ·rw [if_neg c14] at H
        exact absurd H (by simp)
      ·rw [if_neg c13] at H
       have c13b0 : decide (x27_2 < (l0_0.length : Int)) = false := decide_eq_false c13
       clear c13
       have H' := aD.mk H
       clear H
       have hcz17_0 : wr.cell? ⟨gb101, 0, none⟩ = some (.slice A0_0 l0_0.length c0_0) := (aC BK101.out 0).trans rfl
       have hcz17_1 : wr.cell? ⟨gb101, 1, none⟩ = some (.slice A0_1 l0_1.length c0_1) := (aC BK101.out 1).trans rfl
       have hcz17_2 : wr.cell? ⟨gb101, 2, none⟩ = some (.int .i64 a0_2) := (aC BK101.out 2).trans rfl
       have hcz17_3 : wr.cell? ⟨gb101, 3, none⟩ = some (.bool a0_3) := (aC BK101.out 3).trans rfl
       have hfz17_0 := aA BK101.out 0
       have hfz17_1 := aA BK101.out 1
       have hfz17_2 := aA BK101.out 2
       have hfz17_3 := aA BK101.out 3
       go_wp2
       go_loopg [38] k2 (fun kq v38 w' => ∃ (x38_3 : Int), v38 = .int .i64 x38_3 ∧ aD (impl_DevOk.l1 kq l0_1 (l0_1.length : Int) x38_3 l0_0 l0_1 a0_2 a0_3 = some r) ∧ aD (kq ≤ k2) ∧ aD (w'.heap[gb101]? = some (.cells #[(.slice A0_0 l0_0.length c0_0), (.slice A0_1 l0_1.length c0_1), .int .i64 a0_2, .bool a0_3] 25 (0, 0))) ∧ aD (Below w.heap.size w w'))
       case atStart => exact ⟨(0), (by first | rfl | (simp; done) | (simp [*]; done)), H', ⟨Nat.le_refl _⟩, ⟨by (with_reducible repeat (first | refine bB ?_ _ | refine bA ?_ | refine aZ ?_ _)); exact BK101.out⟩, ⟨by repeat (first | (with_reducible first | exact HB.out | apply aM | apply aJ | apply aN | refine aG ?_ GE101.out) | exact HB.out)⟩⟩
       case round =>
        clear H'
        try clear c1
        try clear p1
        try clear q1
        try clear hx1
        try clear c2
        try clear p2
        try clear c4
        try clear c5
        try clear c6
        try clear c6b0
        try clear c6b1
        try clear p6
        try clear c10
        try clear p10
        try clear q10
        try clear hx10
        try clear c11
        try clear c13
        try clear c13b0
        try clear c14
        try clear c14b0
        try clear c15
        try clear c15b0
        try clear c16
        try clear c16b0
        try clear c16b1
        try clear hcz10_0
        try clear hcz10_1
        try clear hcz10_2
        try clear hcz10_3
        try clear hcz12_0
        try clear hcz12_1
        try clear hcz12_2
        try clear hcz12_3
        try clear hcz17_0
        try clear hcz17_1
        try clear hcz17_2
        try clear hcz17_3
        try clear hcz7_0
        try clear hcz7_1
        try clear hcz7_2
        try clear hcz7_3
        try clear hcz9_0
        try clear hcz9_1
        try clear hcz9_2
        try clear hcz9_3
        try clear hfz10_0
        try clear hfz10_1
        try clear hfz10_2
        try clear hfz10_3
        try clear hfz12_0
        try clear hfz12_1
        try clear hfz12_2
        try clear hfz12_3
        try clear hfz17_0
        try clear hfz17_1
        try clear hfz17_2
        try clear hfz17_3
        try clear hfz7_0
        try clear hfz7_1
        try clear hfz7_2
        try clear hfz7_3
        try clear hfz9_0
        try clear hfz9_1
        try clear hfz9_2
        try clear hfz9_3
        try clear hx104_0
        try clear p104
        try clear p2
        try clear q104
        obtain ⟨x38_3, rfl, HA, HK3, BK101, HB⟩ := hrel
        cases gk with
        | zero => exact absurd HA.out (by simp [impl_DevOk.l1])
        | succ k3 =>
         have H := HA.out
         clear HA
         simp only [impl_DevOk.l1] at H
         by_cases c18 : x38_3 < (l0_1.length : Int)
         ·rw [if_pos c18] at H
          have c18b0 : decide (x38_3 < (l0_1.length : Int)) = true := decide_eq_true c18
          clear c18
          by_cases c19 : 0 ≤ x38_3
          ·rw [if_pos c19] at H
           have c19b0 : decide (0 ≤ x38_3) = true := decide_eq_true c19
           clear c19
           by_cases c20 : x38_3 < (l0_1.length : Int)
           ·rw [if_pos c20] at H
            have c20b0 : decide (x38_3 < (l0_1.length : Int)) = true := decide_eq_true c20
            clear c20
            replace H := lF H
            obtain ⟨t107, A210, H⟩ := H
            replace H : (if t107 = true then (if (((rd_T50 l0_1 x38_3).f1).length : Int) > 80 then (some false) else (impl_DevOk.l1 k3 l0_1 (l0_1.length : Int) (wrap64 (x38_3 + 1)) l0_0 l0_1 a0_2 a0_3)) else (some false)) = some r := H
            have A21 := aD.mk A210
            clear A210
            by_cases c22 : t107 = true
            ·subst c22
             have H1 : (if (((rd_T50 l0_1 x38_3).f1).length : Int) > 80 then (some false) else (impl_DevOk.l1 k3 l0_1 (l0_1.length : Int) (wrap64 (x38_3 + 1)) l0_0 l0_1 a0_2 a0_3)) = some r := by rw [if_pos rfl] at H; exact H
             clear H
             have H := H1
             clear H1
             by_cases c23 : (((rd_T50 l0_1 x38_3).f1).length : Int) > 80
             ·rw [if_pos c23] at H
              have c23b0 : decide (80 < (((rd_T50 l0_1 x38_3).f1).length : Int)) = true := decide_eq_true c23
              have c23b1 : decide (80 < ((rd_T50 l0_1 x38_3).f1).length) = true := decide_eq_true (by omega)
              clear c23
              obtain rfl := Option.some.inj H
              have p105 : 0 ≤ (x38_3 : Int) := lE (by first | (with_reducible assumption) | assumption)
              have q105 : x38_3 < (l0_1.length : Int) := lE (by first | (with_reducible assumption) | assumption)
              obtain ⟨ad105, A105_1, c105_1, e105, hx105_0, hx105_1, hl105_1, hi105_1⟩ := at_T50 HR0_1.out x38_3 p105 q105
              cases e105
              replace hx105_0 := (HB.out.cell (lD w _ hx105_0)).trans hx105_0
              replace hx105_1 := (HB.out.cell (lD w _ hx105_1)).trans hx105_1
              have HR105_1 := aD.mk hi105_1
              have HC105_1 := aD.mk hl105_1
              clear hi105_1 hl105_1
              replace p105 := eq_true p105
              replace q105 := eq_true q105
              go_wp2_with (first | ((with_reducible refine bE (N := 6) rfl ?_); (try (refine gate_guard (by rfl) ?_; dsimp only)); refine bD ?hg (N := 6) ?hd (cs := #[.int .i64 0, .slice none 0 0]) (t := 50) ?hr ?_; (case hd => rfl); (case hg => rfl); (case hr => first | (go_simp; done) | (go_simp; rfl)); intro gb106 hg w24 hbox hb; have n0_ := aD.mk (aH (g := gb101) (o := .cells #[.slice A0_0 l0_0.length c0_0, .slice (some ad105) l0_1.length c0_1, .int .i64 a0_2, .bool a0_3] 25 (0, 0)) (by (with_reducible repeat (first | refine bB ?_ _ | refine bA ?_ | refine aZ ?_ _)); exact BK101.out) hb); have n1_ := aD.mk (aQ (by repeat (first | (with_reducible first | exact HB.out | apply aM | apply aJ | apply aN | refine aG ?_ GE101.out) | exact HB.out)) hb); have n2_ := aD.mk (hbox); have n3_ := aD.mk ((by rw [hg]; exact (bM (by repeat (first | (with_reducible first | exact HB.out | apply aM | apply aJ | apply aN | refine aG ?_ GE101.out) | exact HB.out))) : w.heap.size ≤ gb106)); have n4_ := aD.mk ((by rw [hg]; exact (bM (by repeat (first | (with_reducible first | exact HB.out | apply aM | apply aJ | apply aN | refine aG ?_ GE101.out) | exact HB.out))) : w.heap.size ≤ gb106)); have n5_ := aD.mk ((by rw [hg]; exact Nat.ne_of_lt (bJ (g := gb101) (o := .cells #[.slice A0_0 l0_0.length c0_0, .slice (some ad105) l0_1.length c0_1, .int .i64 a0_2, .bool a0_3] 25 (0, 0)) (by (with_reducible repeat (first | refine bB ?_ _ | refine bA ?_ | refine aZ ?_ _)); exact BK101.out)) : gb101 ≠ gb106)); have n6_ := aD.mk ((by rw [hg]; exact Nat.ne_of_gt (bJ (g := gb101) (o := .cells #[.slice A0_0 l0_0.length c0_0, .slice (some ad105) l0_1.length c0_1, .int .i64 a0_2, .bool a0_3] 25 (0, 0)) (by (with_reducible repeat (first | refine bB ?_ _ | refine bA ?_ | refine aZ ?_ _)); exact BK101.out)) : gb106 ≠ gb101)); clear BK101; clear HB; have BK101 := n0_; have HB := n1_; have BK106 := n2_; have GW106 := n3_; have GE106 := n4_; have NB101_106 := n5_; have NB106_101 := n6_; clear n0_ n1_ n2_ n3_ n4_ n5_ n6_; clear hb hbox hg; have hnb25 := NB106_101.out; have hnc25 := NB101_106.out; have hcz26_0 : w24.cell? ⟨gb106, 0, none⟩ = some (.int .i64 0) := (aC BK106.out 0).trans rfl; have hcz26_1 : w24.cell? ⟨gb106, 1, none⟩ = some (.slice none 0 0) := (aC BK106.out 1).trans rfl; have hfz26_0 := aA BK106.out 0; have hfz26_1 := aA BK106.out 1; have hcz27_0 : w24.cell? ⟨gb101, 0, none⟩ = some (.slice A0_0 l0_0.length c0_0) := (aC BK101.out 0).trans rfl; have hcz27_1 : w24.cell? ⟨gb101, 1, none⟩ = some (.slice (some ad105) l0_1.length c0_1) := (aC BK101.out 1).trans rfl; have hcz27_2 : w24.cell? ⟨gb101, 2, none⟩ = some (.int .i64 a0_2) := (aC BK101.out 2).trans rfl; have hcz27_3 : w24.cell? ⟨gb101, 3, none⟩ = some (.bool a0_3) := (aC BK101.out 3).trans rfl; have hfz27_0 := aA BK101.out 0; have hfz27_1 := aA BK101.out 1; have hfz27_2 := aA BK101.out 2; have hfz27_3 := aA BK101.out 3) | ((with_reducible refine aY (f := 44) rfl ?_); refine bL (some 48) rfl rfl Try.func44 (by kernel_rfl) rfl #[.int .i64 ((rd_T50 l0_1 x38_3).f0), .int .i64 0, .int .i64 (wrap64 ((l0_0.length : Int) - 1))] rfl (by (try simp only [List.map_toArray, List.map_cons, List.map_nil]); first | done | rfl | (simp only [List.length_drop, List.length_take]; rfl)) ?_; (with_reducible refine (impl_within.calls ((rd_T50 l0_1 x38_3).f0) 0 (wrap64 ((l0_0.length : Int) - 1)) true _ A21.out).mono ?_); rintro e w' ⟨rfl, ⟨nd, rfl⟩⟩; refine ⟨_, rfl, ?_⟩))
              go_ret
              exact ⟨by first | rfl | (simp [errW_none, errW_some] <;> rfl) | (simp [*, errW_none, errW_some] <;> rfl), by repeat (first | (with_reducible first | exact HB.out | apply aM | apply aJ | apply aN | refine aG ?_ GE101.out | refine aG ?_ GE106.out) | exact HB.out)⟩
             ·rw [if_neg c23] at H
              have c23b0 : decide (80 < (((rd_T50 l0_1 x38_3).f1).length : Int)) = false := decide_eq_false c23
              have c23b1 : decide (80 < ((rd_T50 l0_1 x38_3).f1).length) = false := decide_eq_false (by omega)
              clear c23
              have H' := aD.mk H
              clear H
              have p105 : 0 ≤ (x38_3 : Int) := lE (by first | (with_reducible assumption) | assumption)
              have q105 : x38_3 < (l0_1.length : Int) := lE (by first | (with_reducible assumption) | assumption)
              obtain ⟨ad105, A105_1, c105_1, e105, hx105_0, hx105_1, hl105_1, hi105_1⟩ := at_T50 HR0_1.out x38_3 p105 q105
              cases e105
              replace hx105_0 := (HB.out.cell (lD w _ hx105_0)).trans hx105_0
              replace hx105_1 := (HB.out.cell (lD w _ hx105_1)).trans hx105_1
              have HR105_1 := aD.mk hi105_1
              have HC105_1 := aD.mk hl105_1
              clear hi105_1 hl105_1
              replace p105 := eq_true p105
              replace q105 := eq_true q105
              go_wp2_with (first | ((with_reducible refine bE (N := 6) rfl ?_); (try (refine gate_guard (by rfl) ?_; dsimp only)); refine bD ?hg (N := 6) ?hd (cs := #[.int .i64 0, .slice none 0 0]) (t := 50) ?hr ?_; (case hd => rfl); (case hg => rfl); (case hr => first | (go_simp; done) | (go_simp; rfl)); intro gb106 hg w28 hbox hb; have n0_ := aD.mk (aH (g := gb101) (o := .cells #[.slice A0_0 l0_0.length c0_0, .slice (some ad105) l0_1.length c0_1, .int .i64 a0_2, .bool a0_3] 25 (0, 0)) (by (with_reducible repeat (first | refine bB ?_ _ | refine bA ?_ | refine aZ ?_ _)); exact BK101.out) hb); have n1_ := aD.mk (aQ (by repeat (first | (with_reducible first | exact HB.out | apply aM | apply aJ | apply aN | refine aG ?_ GE101.out) | exact HB.out)) hb); have n2_ := aD.mk (hbox); have n3_ := aD.mk ((by rw [hg]; exact (bM (by repeat (first | (with_reducible first | exact HB.out | apply aM | apply aJ | apply aN | refine aG ?_ GE101.out) | exact HB.out))) : w.heap.size ≤ gb106)); have n4_ := aD.mk ((by rw [hg]; exact (bM (by repeat (first | (with_reducible first | exact HB.out | apply aM | apply aJ | apply aN | refine aG ?_ GE101.out) | exact HB.out))) : w.heap.size ≤ gb106)); have n5_ := aD.mk ((by rw [hg]; exact Nat.ne_of_lt (bJ (g := gb101) (o := .cells #[.slice A0_0 l0_0.length c0_0, .slice (some ad105) l0_1.length c0_1, .int .i64 a0_2, .bool a0_3] 25 (0, 0)) (by (with_reducible repeat (first | refine bB ?_ _ | refine bA ?_ | refine aZ ?_ _)); exact BK101.out)) : gb101 ≠ gb106)); have n6_ := aD.mk ((by rw [hg]; exact Nat.ne_of_gt (bJ (g := gb101) (o := .cells #[.slice A0_0 l0_0.length c0_0, .slice (some ad105) l0_1.length c0_1, .int .i64 a0_2, .bool a0_3] 25 (0, 0)) (by (with_reducible repeat (first | refine bB ?_ _ | refine bA ?_ | refine aZ ?_ _)); exact BK101.out)) : gb106 ≠ gb101)); clear BK101; clear HB; have BK101 := n0_; have HB := n1_; have BK106 := n2_; have GW106 := n3_; have GE106 := n4_; have NB101_106 := n5_; have NB106_101 := n6_; clear n0_ n1_ n2_ n3_ n4_ n5_ n6_; clear hb hbox hg; have hnb29 := NB106_101.out; have hnc29 := NB101_106.out; have hcz30_0 : w28.cell? ⟨gb106, 0, none⟩ = some (.int .i64 0) := (aC BK106.out 0).trans rfl; have hcz30_1 : w28.cell? ⟨gb106, 1, none⟩ = some (.slice none 0 0) := (aC BK106.out 1).trans rfl; have hfz30_0 := aA BK106.out 0; have hfz30_1 := aA BK106.out 1; have hcz31_0 : w28.cell? ⟨gb101, 0, none⟩ = some (.slice A0_0 l0_0.length c0_0) := (aC BK101.out 0).trans rfl; have hcz31_1 : w28.cell? ⟨gb101, 1, none⟩ = some (.slice (some ad105) l0_1.length c0_1) := (aC BK101.out 1).trans rfl; have hcz31_2 : w28.cell? ⟨gb101, 2, none⟩ = some (.int .i64 a0_2) := (aC BK101.out 2).trans rfl; have hcz31_3 : w28.cell? ⟨gb101, 3, none⟩ = some (.bool a0_3) := (aC BK101.out 3).trans rfl; have hfz31_0 := aA BK101.out 0; have hfz31_1 := aA BK101.out 1; have hfz31_2 := aA BK101.out 2; have hfz31_3 := aA BK101.out 3) | ((with_reducible refine aY (f := 44) rfl ?_); refine bL (some 48) rfl rfl Try.func44 (by kernel_rfl) rfl #[.int .i64 ((rd_T50 l0_1 x38_3).f0), .int .i64 0, .int .i64 (wrap64 ((l0_0.length : Int) - 1))] rfl (by (try simp only [List.map_toArray, List.map_cons, List.map_nil]); first | done | rfl | (simp only [List.length_drop, List.length_take]; rfl)) ?_; (with_reducible refine (impl_within.calls ((rd_T50 l0_1 x38_3).f0) 0 (wrap64 ((l0_0.length : Int) - 1)) true _ A21.out).mono ?_); rintro e w' ⟨rfl, ⟨nd, rfl⟩⟩; refine ⟨_, rfl, ?_⟩))
              go_roundg k3
              case measure => have := HJ1.out; have := HK2.out; have := HK3.out; omega
              case rel => exact ⟨(wrap64 (x38_3 + 1)), (by first | rfl | (simp; done) | (simp [*]; done)), H', ⟨by have := HJ1.out; have := HK2.out; have := HK3.out; omega⟩, ⟨by (with_reducible repeat (first | refine bB ?_ _ | refine bA ?_ | refine aZ ?_ _)); refine blk_far ?_ NB101_106.out _; (with_reducible repeat (first | refine bB ?_ _ | refine bA ?_ | refine aZ ?_ _)); refine blk_far ?_ NB101_106.out _; (with_reducible repeat (first | refine bB ?_ _ | refine bA ?_ | refine aZ ?_ _)); exact BK101.out⟩, ⟨by repeat (first | (with_reducible first | exact HB.out | apply aM | apply aJ | apply aN | refine aG ?_ GE101.out | refine aG ?_ GE106.out) | exact HB.out)⟩⟩
            ·replace c22 := Bool.eq_false_iff.mpr c22
             subst c22
             have H1 : (some false) = some r := by rw [if_neg (show ¬ (false = true) by decide)] at H; exact H
             clear H
             have H := H1
             clear H1
             obtain rfl := Option.some.inj H
             have p105 : 0 ≤ (x38_3 : Int) := lE (by first | (with_reducible assumption) | assumption)
             have q105 : x38_3 < (l0_1.length : Int) := lE (by first | (with_reducible assumption) | assumption)
             obtain ⟨ad105, A105_1, c105_1, e105, hx105_0, hx105_1, hl105_1, hi105_1⟩ := at_T50 HR0_1.out x38_3 p105 q105
             cases e105
             replace hx105_0 := (HB.out.cell (lD w _ hx105_0)).trans hx105_0
             replace hx105_1 := (HB.out.cell (lD w _ hx105_1)).trans hx105_1
             have HR105_1 := aD.mk hi105_1
             have HC105_1 := aD.mk hl105_1
             clear hi105_1 hl105_1
             replace p105 := eq_true p105
             replace q105 := eq_true q105
             go_wp2_with (first | ((with_reducible refine bE (N := 6) rfl ?_); (try (refine gate_guard (by rfl) ?_; dsimp only)); refine bD ?hg (N := 6) ?hd (cs := #[.int .i64 0, .slice none 0 0]) (t := 50) ?hr ?_; (case hd => rfl); (case hg => rfl); (case hr => first | (go_simp; done) | (go_simp; rfl)); intro gb106 hg w32 hbox hb; have n0_ := aD.mk (aH (g := gb101) (o := .cells #[.slice A0_0 l0_0.length c0_0, .slice (some ad105) l0_1.length c0_1, .int .i64 a0_2, .bool a0_3] 25 (0, 0)) (by (with_reducible repeat (first | refine bB ?_ _ | refine bA ?_ | refine aZ ?_ _)); exact BK101.out) hb); have n1_ := aD.mk (aQ (by repeat (first | (with_reducible first | exact HB.out | apply aM | apply aJ | apply aN | refine aG ?_ GE101.out) | exact HB.out)) hb); have n2_ := aD.mk (hbox); have n3_ := aD.mk ((by rw [hg]; exact (bM (by repeat (first | (with_reducible first | exact HB.out | apply aM | apply aJ | apply aN | refine aG ?_ GE101.out) | exact HB.out))) : w.heap.size ≤ gb106)); have n4_ := aD.mk ((by rw [hg]; exact (bM (by repeat (first | (with_reducible first | exact HB.out | apply aM | apply aJ | apply aN | refine aG ?_ GE101.out) | exact HB.out))) : w.heap.size ≤ gb106)); have n5_ := aD.mk ((by rw [hg]; exact Nat.ne_of_lt (bJ (g := gb101) (o := .cells #[.slice A0_0 l0_0.length c0_0, .slice (some ad105) l0_1.length c0_1, .int .i64 a0_2, .bool a0_3] 25 (0, 0)) (by (with_reducible repeat (first | refine bB ?_ _ | refine bA ?_ | refine aZ ?_ _)); exact BK101.out)) : gb101 ≠ gb106)); have n6_ := aD.mk ((by rw [hg]; exact Nat.ne_of_gt (bJ (g := gb101) (o := .cells #[.slice A0_0 l0_0.length c0_0, .slice (some ad105) l0_1.length c0_1, .int .i64 a0_2, .bool a0_3] 25 (0, 0)) (by (with_reducible repeat (first | refine bB ?_ _ | refine bA ?_ | refine aZ ?_ _)); exact BK101.out)) : gb106 ≠ gb101)); clear BK101; clear HB; have BK101 := n0_; have HB := n1_; have BK106 := n2_; have GW106 := n3_; have GE106 := n4_; have NB101_106 := n5_; have NB106_101 := n6_; clear n0_ n1_ n2_ n3_ n4_ n5_ n6_; clear hb hbox hg; have hnb33 := NB106_101.out; have hnc33 := NB101_106.out; have hcz34_0 : w32.cell? ⟨gb106, 0, none⟩ = some (.int .i64 0) := (aC BK106.out 0).trans rfl; have hcz34_1 : w32.cell? ⟨gb106, 1, none⟩ = some (.slice none 0 0) := (aC BK106.out 1).trans rfl; have hfz34_0 := aA BK106.out 0; have hfz34_1 := aA BK106.out 1; have hcz35_0 : w32.cell? ⟨gb101, 0, none⟩ = some (.slice A0_0 l0_0.length c0_0) := (aC BK101.out 0).trans rfl; have hcz35_1 : w32.cell? ⟨gb101, 1, none⟩ = some (.slice (some ad105) l0_1.length c0_1) := (aC BK101.out 1).trans rfl; have hcz35_2 : w32.cell? ⟨gb101, 2, none⟩ = some (.int .i64 a0_2) := (aC BK101.out 2).trans rfl; have hcz35_3 : w32.cell? ⟨gb101, 3, none⟩ = some (.bool a0_3) := (aC BK101.out 3).trans rfl; have hfz35_0 := aA BK101.out 0; have hfz35_1 := aA BK101.out 1; have hfz35_2 := aA BK101.out 2; have hfz35_3 := aA BK101.out 3) | ((with_reducible refine aY (f := 44) rfl ?_); refine bL (some 48) rfl rfl Try.func44 (by kernel_rfl) rfl #[.int .i64 ((rd_T50 l0_1 x38_3).f0), .int .i64 0, .int .i64 (wrap64 ((l0_0.length : Int) - 1))] rfl (by (try simp only [List.map_toArray, List.map_cons, List.map_nil]); first | done | rfl | (simp only [List.length_drop, List.length_take]; rfl)) ?_; (with_reducible refine (impl_within.calls ((rd_T50 l0_1 x38_3).f0) 0 (wrap64 ((l0_0.length : Int) - 1)) false _ A21.out).mono ?_); rintro e w' ⟨rfl, ⟨nd, rfl⟩⟩; refine ⟨_, rfl, ?_⟩))
             go_ret
             exact ⟨by first | rfl | (simp [errW_none, errW_some] <;> rfl) | (simp [*, errW_none, errW_some] <;> rfl), by repeat (first | (with_reducible first | exact HB.out | apply aM | apply aJ | apply aN | refine aG ?_ GE101.out | refine aG ?_ GE106.out) | exact HB.out)⟩
           ·rw [if_neg c20] at H
            exact absurd H (by simp)
          ·rw [if_neg c19] at H
           exact absurd H (by simp)
         ·rw [if_neg c18] at H
          have c18b0 : decide (x38_3 < (l0_1.length : Int)) = false := decide_eq_false c18
          clear c18
          obtain rfl := Option.some.inj H
          go_wp2
          go_ret
          exact ⟨by first | rfl | (simp [errW_none, errW_some] <;> rfl) | (simp [*, errW_none, errW_some] <;> rfl), by repeat (first | (with_reducible first | exact HB.out | apply aM | apply aJ | apply aN | refine aG ?_ GE101.out) | exact HB.out)⟩
def impl_joined.l0 : Nat → List Int → List (List Int) → Int → Int → Option (List Int)
 | 0, _, _, _, _ => none
 | k + 1, x3, x7, x8, x9 => if x9 < x8 then (if 0 ≤ x9 then (if x9 < (x7.length : Int) then (if x3.length + (rd_L1 x7 x9).length < 140737488355328 then (impl_joined.l0 k (x3 ++ (rd_L1 x7 x9)) x7 x8 (wrap64 (x9 + 1))) else (none)) else (none)) else (none)) else (some x3)
def impl_joined.f (k : Nat) (l0 : List (List Int)) : Option (List Int) := impl_joined.l0 k (([] : List Int)) l0 (l0.length : Int) 0
set_option maxHeartbeats 8000000 in
set_option maxRecDepth 100000 in
theorem impl_joined.calls (k : Nat) (A0 : Option Addr) (c0 : Nat) (l0 : List (List Int)) (r : List Int) (w : World) (hr0 : Kd.C (Kd.slice 5 (Kd.int .u8)) w A0 l0.length l0) (hc0 : l0.length ≤ c0) (h : impl_joined.f k l0 = some r) :
  Calls Try.prog 55 #[.slice A0 l0.length c0] w fun e w' => ∃ v0_ : Value, e = .returned (v0_) ∧ Kd.R (Kd.int .u8) 5 w' w.heap.size (fun _ => True) v0_ r ∧ Below w.heap.size w w' := by
 have HR0 := aD.mk hr0
 have HC0 := aD.mk hc0
 clear hr0 hc0
 have HB := aD.mk (Below.refl w.heap.size w)
 have H : (impl_joined.l0 k (([] : List Int)) l0 (l0.length : Int) 0) = some r := h
 clear h
 obtain ⟨y108, hy108⟩ : ∃ y_ : List Int, y_ = (([] : List Int)) := ⟨_, rfl⟩
 replace H : (impl_joined.l0 k y108 l0 (l0.length : Int) 0) = some r := by first | (rw [hy108]; with_reducible exact H) | (have H2_ := (Option.bind_some _ _).symm.trans H; rw [hy108]; with_reducible exact H2_) | (have H2_ := (Option.bind_some _ _).symm.trans H; with_reducible exact H2_) | with_reducible exact H | (rw [hy108]; exact H) | exact H
 have Ny108 := aD.mk hy108
 clear hy108
 have H' := aD.mk H
 clear H
 go_enter Try.func55, Try.ntmps55
 go_wp2_with (first | ((with_reducible refine bE (N := 6) rfl ?_); refine Kd.R_lit (Kd.int .u8) _ 5 ?hg (N := 6) ?hd (xs := ([] : List Int)) (inner := []) (ok := fun _ => True) (okp := fun _ => True) ?hr ?hp (fun _ hk => hk) trivial (Below.refl _ _) (Nat.le_refl _) (by simp) ?_; (case hd => rfl); (case hg => rfl); (case hr => first | (go_simp; done) | (go_simp; rfl)); (case hp => exact (Reps.none _ _)); intro v109 w2 ho3 hb hg_ hnew_; clear hg_ hnew_; (first | rw [← Ny108.out] at ho3 | (simp only [Int.reduceToNat] at ho3; rw [← Ny108.out] at ho3)); have n0_ := aD.mk (Kd.R_lower ho3 (bM (by repeat (first | (with_reducible first | exact HB.out | apply aM | apply aJ | apply aN) | exact HB.out)))); have n1_ := aD.mk (aQ (by repeat (first | (with_reducible first | exact HB.out | apply aM | apply aJ | apply aN) | exact HB.out)) hb); clear HB; have HO110 := n0_; have HB := n1_; clear n0_ n1_; clear hb ho3))
 go_loopg [3, 9] k (fun kq v3 v9 w' => ∃ (x3_1 : List Int) (x9_1 : Int), v9 = .int .i64 x9_1 ∧ aD (impl_joined.l0 kq x3_1 l0 (l0.length : Int) x9_1 = some r) ∧ aD (kq ≤ k) ∧ aD (Kd.R (Kd.int .u8) 5 w' w.heap.size (fun _ => True) v3 x3_1) ∧ aD (Below w.heap.size w w'))
 case atStart => exact ⟨(y108), (0), (by first | rfl | (simp; done) | (simp [*]; done)), H', ⟨Nat.le_refl _⟩, ⟨by (with_reducible repeat (first | apply Kd.R_alloc | apply Kd.R_drewN | apply Kd.R_drew)); exact HO110.out⟩, ⟨by repeat (first | (with_reducible first | exact HB.out | apply aM | apply aJ | apply aN) | exact HB.out)⟩⟩
 case round =>
  clear H'
  try clear p2
  obtain ⟨x3_1, x9_1, rfl, HA, HK1, HO_3, HB⟩ := hrel
  cases gk with
  | zero => exact absurd HA.out (by simp [impl_joined.l0])
  | succ k1 =>
   have H := HA.out
   clear HA
   simp only [impl_joined.l0] at H
   by_cases c4 : x9_1 < (l0.length : Int)
   ·rw [if_pos c4] at H
    have c4b0 : decide (x9_1 < (l0.length : Int)) = true := decide_eq_true c4
    clear c4
    by_cases c5 : 0 ≤ x9_1
    ·rw [if_pos c5] at H
     have c5b0 : decide (0 ≤ x9_1) = true := decide_eq_true c5
     clear c5
     by_cases c6 : x9_1 < (l0.length : Int)
     ·rw [if_pos c6] at H
      have c6b0 : decide (x9_1 < (l0.length : Int)) = true := decide_eq_true c6
      clear c6
      by_cases c7 : x3_1.length + (rd_L1 l0 x9_1).length < 140737488355328
      ·rw [if_pos c7] at H
       have LMc7 := aD.mk c7
       clear c7
       obtain ⟨y112, hy112⟩ : ∃ y_ : List Int, y_ = (x3_1 ++ (rd_L1 l0 x9_1)) := ⟨_, rfl⟩
       replace H : (impl_joined.l0 k1 y112 l0 (l0.length : Int) (wrap64 (x9_1 + 1))) = some r := by first | (rw [hy112]; with_reducible exact H) | (have H2_ := (Option.bind_some _ _).symm.trans H; rw [hy112]; with_reducible exact H2_) | (have H2_ := (Option.bind_some _ _).symm.trans H; with_reducible exact H2_) | with_reducible exact H | (rw [hy112]; exact H) | exact H
       have Ny112 := aD.mk hy112
       clear hy112
       have H' := aD.mk H
       clear H
       have p111 : 0 ≤ (x9_1 : Int) := lE (by first | (with_reducible assumption) | assumption)
       have q111 : x9_1 < (l0.length : Int) := lE (by first | (with_reducible assumption) | assumption)
       obtain ⟨ad111, A111_0, c111_0, e111, hx111_0, hl111_0, hi111_0⟩ := at_L1 HR0.out x9_1 p111 q111
       cases e111
       replace hx111_0 := (HB.out.cell (lD w _ hx111_0)).trans hx111_0
       have HR111_0 := aD.mk hi111_0
       have HC111_0 := aD.mk hl111_0
       clear hi111_0 hl111_0
       replace p111 := eq_true p111
       replace q111 := eq_true q111
       go_wp2_with (first | ((with_reducible refine gate_builtin (b := .append) (xs := #[.tmp 13, .tmp 14]) rfl ?_); at_builtin; refine Kd.R_append_rows (Kd.int .u8) (w0 := w) w.heap.size rfl (.tmp 13) (.tmp 14) 37 5 (.int .u8 0) 1 rfl Try.underlying37 info5 rfl (by decide) (by omega) u3 x3_1 (rd_L1 l0 x9_1) _ _ _ (fun _ => True) (fun _ => False) rfl rfl ?aO ?aR (fun _ _ h => h) (fun _ h => h.elim) ?aF ?aB ?aS ?aL ?_; (case aR => repeat (first | exact (Kd.C_below HR111_0.out HB.out) | (with_reducible refine Kd.C_alloc ?_ _) | (with_reducible refine Kd.C_drewN ?_ _) | (with_reducible refine Kd.C_drew ?_))); (case aB => exact (by repeat (first | (with_reducible first | exact HB.out | apply aM | apply aJ | apply aN) | exact HB.out))); (case aF => exact (fun _ _ => trivial)); (case aO => exact (by (with_reducible repeat (first | apply Kd.R_alloc | apply Kd.R_drewN | apply Kd.R_drew)); exact HO_3.out)); (case aS => exact (bM (by repeat (first | (with_reducible first | exact HB.out | apply aM | apply aJ | apply aN) | exact HB.out)))); (case aL => have := LMc7.out; omega); intro v113 w8 ho hb hg hat; rw [← Ny112.out] at ho; have n0_ := aD.mk (hb); have n1_ := aD.mk (ho); clear HB; clear HO_3; have HB := n0_; have HO114 := n1_; clear n0_ n1_; clear ho hb hg hat))
       go_roundg k1
       case measure => have := HK1.out; omega
       case rel => exact ⟨(y112), (wrap64 (x9_1 + 1)), (by first | rfl | (simp; done) | (simp [*]; done)), H', ⟨by have := HK1.out; omega⟩, ⟨by (with_reducible repeat (first | apply Kd.R_alloc | apply Kd.R_drewN | apply Kd.R_drew)); exact HO114.out⟩, ⟨by repeat (first | (with_reducible first | exact HB.out | apply aM | apply aJ | apply aN) | exact HB.out)⟩⟩
      ·rw [if_neg c7] at H
       exact absurd H (by simp)
     ·rw [if_neg c6] at H
      exact absurd H (by simp)
    ·rw [if_neg c5] at H
     exact absurd H (by simp)
   ·rw [if_neg c4] at H
    have c4b0 : decide (x9_1 < (l0.length : Int)) = false := decide_eq_false c4
    clear c4
    obtain rfl := Option.some.inj H
    go_wp2
    go_ret
    exact ⟨_, by first | rfl | (simp [errW_none, errW_some] <;> rfl) | (simp [*, errW_none, errW_some] <;> rfl), by (with_reducible repeat (first | apply Kd.R_alloc | apply Kd.R_drewN | apply Kd.R_drew)); exact HO_3.out, by repeat (first | (with_reducible first | exact HB.out | apply aM | apply aJ | apply aN) | exact HB.out)⟩
end Go.Proofs.Ytilhcaofpfeioaa.PFnDevs

namespace Go.Proofs.Ytilhcaofpfeioaa.PFnDevs
open Go.RowKit Go.Proofs.YtilhcaofpfeioaaW.PrintWords Go.Proofs.YtilhcaofpfeioaaW.PrintLast Go.Proofs.YtilhcaofpfeioaaW.PrintMore
attribute [local go_sem] max2_int min2_int max_two min_two max_three min_three max_four min_four   -- for this text's walks alone
set_option linter.unusedVariables false
set_option linter.unusedSimpArgs false
mutual
def impl_ReadSec.j0 : Nat → Int → Bool → List (List Int) → List (S50) → Int → Bool → Option (List Int)
 | 0, _, _, _, _, _, _ => none
 | k + 1, x1, x17, x116000, x116001, x116002, x116003 => if x17 = true then (some ([] : List Int)) else (impl_ReadSec.l0 k x1 (wrap64 ((x116001.length : Int) - 1)) x116000 x116001 x116002 x116003)
def impl_ReadSec.l0 : Nat → Int → Int → List (List Int) → List (S50) → Int → Bool → Option (List Int)
 | 0, _, _, _, _, _, _ => none
 | k + 1, x1, x5, x116000, x116001, x116002, x116003 => if x5 ≥ 0 then (if 0 ≤ x5 then (if x5 < (x116001.length : Int) then (if ((rd_T50 x116001 x5).f0) = x1 then ((impl_joined.f k (([(rd_T50 x116001 x5).f1] : List (List Int)))).bind fun t123 => (some t123)) else (impl_ReadSec.l0 k x1 (wrap64 (x5 - 1)) x116000 x116001 x116002 x116003)) else (none)) else (none)) else (if 0 ≤ x1 then (if x1 < (x116000.length : Int) then ((impl_joined.f k (([rd_L1 x116000 x1] : List (List Int)))).bind fun t130 => (some t130)) else (none)) else (none))
end
def impl_ReadSec.f (k : Nat) (l0_0 : List (List Int)) (l0_1 : List (S50)) (a0_2 : Int) (a0_3 : Bool) (a1 : Int) : Option (List Int) := (impl_DevOk.f k l0_0 l0_1 a0_2 a0_3).bind fun t116 => (if t116 = true then ((impl_within.f a1 0 (wrap64 ((l0_0.length : Int) - 1))).bind fun t117 => (impl_ReadSec.j0 k a1 (!t117) l0_0 l0_1 a0_2 a0_3)) else (impl_ReadSec.j0 k a1 true l0_0 l0_1 a0_2 a0_3))
set_option maxHeartbeats 8000000 in
set_option maxRecDepth 100000 in
theorem impl_ReadSec.calls (k : Nat) (P0_0_ : Nat → Prop) (A0_0 : Option Addr) (c0_0 : Nat) (l0_0 : List (List Int)) (P0_1_ : Nat → Prop) (A0_1 : Option Addr) (c0_1 : Nat) (l0_1 : List (S50)) (a0_2 : Int) (a0_3 : Bool) (a1 : Int) (r : List Int) (w : World) (hs0_0 : Kd.V (Kd.slice 5 (Kd.int .u8)) 37 w w.heap.size (fun k_ => P0_0_ k_) (.slice A0_0 l0_0.length c0_0) l0_0) (hs0_1 : Kd.V k50 50 w w.heap.size (fun k_ => P0_1_ k_) (.slice A0_1 l0_1.length c0_1) l0_1) (h : impl_ReadSec.f k l0_0 l0_1 a0_2 a0_3 a1 = some r) :
  Calls Try.prog 22 #[.agg #[.slice A0_0 l0_0.length c0_0, .slice A0_1 l0_1.length c0_1, .int .i64 a0_2, .bool a0_3], .int .i64 a1] w fun e w' => ∃ v0_ : Value, e = .returned (v0_) ∧ Kd.R (Kd.int .u8) 5 w' w.heap.size (fun k_ => (w.heap.size ≤ k_)) v0_ r ∧ Below w.heap.size w w' := by
 have hu25 := Try.underlying25
 have HO0_0 := aD.mk (show Kd.V (Kd.slice 5 (Kd.int .u8)) 37 w w.heap.size (fun k_ => ((P0_0_ k_ ∨ P0_1_ k_) ∨ w.heap.size ≤ k_)) (.slice A0_0 l0_0.length c0_0) l0_0 from Kd.V_mono hs0_0 (fun k_ hk => .inl (.inl hk)))
 have HO0_1 := aD.mk (show Kd.V k50 50 w w.heap.size (fun k_ => ((P0_0_ k_ ∨ P0_1_ k_) ∨ w.heap.size ≤ k_)) (.slice A0_1 l0_1.length c0_1) l0_1 from Kd.V_mono hs0_1 (fun k_ hk => .inl (.inr hk)))
 have HB := aD.mk (Below.refl w.heap.size w)
 have H : ((impl_DevOk.f k l0_0 l0_1 a0_2 a0_3).bind fun t116 => (if t116 = true then ((impl_within.f a1 0 (wrap64 ((l0_0.length : Int) - 1))).bind fun t117 => (impl_ReadSec.j0 k a1 (!t117) l0_0 l0_1 a0_2 a0_3)) else (impl_ReadSec.j0 k a1 true l0_0 l0_1 a0_2 a0_3))) = some r := h
 clear h
 have HC3 := aD.mk H
 clear H
 go_enter Try.func22, Try.ntmps22
 go_upto_region 1 with (first | ((with_reducible refine bE (N := 2) rfl ?_); (try (refine gate_guard (by rfl) ?_; dsimp only)); refine bD ?hg (N := 2) ?hd (cs := #[.slice A0_0 l0_0.length c0_0, .slice A0_1 l0_1.length c0_1, .int .i64 a0_2, .bool a0_3]) (t := 25) ?hr ?_; (case hd => rfl); (case hg => rfl); (case hr => first | (go_simp; done) | (go_simp; rfl)); intro gb115 hg w4 hbox hb; have n0_ := aD.mk (Kd.V_below (Kd.V_elderB (by (with_reducible repeat (first | apply Kd.V_alloc | apply Kd.V_drewN | apply Kd.V_drew)); exact HO0_0.out) gb115 (Nat.le_of_eq hg.symm)) hb); have n1_ := aD.mk (Kd.V_below (Kd.V_elderB (by (with_reducible repeat (first | apply Kd.V_alloc | apply Kd.V_drewN | apply Kd.V_drew)); exact HO0_1.out) gb115 (Nat.le_of_eq hg.symm)) hb); have n2_ := aD.mk (aQ (by repeat (first | (with_reducible first | exact HB.out | apply aM | apply aJ | apply aN) | exact HB.out)) hb); have n3_ := aD.mk (hbox); have n4_ := aD.mk ((by rw [hg]; exact (bM (by repeat (first | (with_reducible first | exact HB.out | apply aM | apply aJ | apply aN) | exact HB.out))) : w.heap.size ≤ gb115)); have n5_ := aD.mk ((by rw [hg]; exact (bM (by repeat (first | (with_reducible first | exact HB.out | apply aM | apply aJ | apply aN) | exact HB.out))) : w.heap.size ≤ gb115)); clear HO0_0; clear HO0_1; clear HB; have HO0_0 := n0_; have HO0_1 := n1_; have HB := n2_; have BK115 := n3_; have GW115 := n4_; have GE115 := n5_; clear n0_ n1_ n2_ n3_ n4_ n5_; clear hb hbox hg))
 (try simp only [Act.put, lA, lB, lC])
 go_cut [17] (fun v17 wc => ∃ (kq : Nat) (x17_2 : Bool), v17 = .bool x17_2 ∧ aD (impl_ReadSec.j0 kq a1 x17_2 l0_0 l0_1 a0_2 a0_3 = some r) ∧ aD (kq ≤ k) ∧ aD (Kd.V (Kd.slice 5 (Kd.int .u8)) 37 wc w.heap.size (fun k_ => ((P0_0_ k_ ∨ P0_1_ k_) ∨ w.heap.size ≤ k_) ∧ k_ ≠ gb115) (.slice A0_0 l0_0.length c0_0) l0_0) ∧ aD (Kd.V k50 50 wc w.heap.size (fun k_ => ((P0_0_ k_ ∨ P0_1_ k_) ∨ w.heap.size ≤ k_) ∧ k_ ≠ gb115) (.slice A0_1 l0_1.length c0_1) l0_1) ∧ aD (wc.heap[gb115]? = some (.cells #[(.slice A0_0 l0_0.length c0_0), (.slice A0_1 l0_1.length c0_1), .int .i64 a0_2, .bool a0_3] 25 (0, 0))) ∧ aD (Below w.heap.size w wc))
 case first =>
  have H := HC3.out
  clear HC3
  replace H := lF H
  obtain ⟨t116, A50, H⟩ := H
  replace H : (if t116 = true then ((impl_within.f a1 0 (wrap64 ((l0_0.length : Int) - 1))).bind fun t117 => (impl_ReadSec.j0 k a1 (!t117) l0_0 l0_1 a0_2 a0_3)) else (impl_ReadSec.j0 k a1 true l0_0 l0_1 a0_2 a0_3)) = some r := H
  have A5 := aD.mk A50
  clear A50
  by_cases c6 : t116 = true
  ·subst c6
   have H1 : ((impl_within.f a1 0 (wrap64 ((l0_0.length : Int) - 1))).bind fun t117 => (impl_ReadSec.j0 k a1 (!t117) l0_0 l0_1 a0_2 a0_3)) = some r := by rw [if_pos rfl] at H; exact H
   clear H
   have H := H1
   clear H1
   replace H := lF H
   obtain ⟨t117, A70, H⟩ := H
   replace H : (impl_ReadSec.j0 k a1 (!t117) l0_0 l0_1 a0_2 a0_3) = some r := H
   have A7 := aD.mk A70
   clear A70
   have H' := aD.mk H
   clear H
   have hcz8_0 : w4.cell? ⟨gb115, 0, none⟩ = some (.slice A0_0 l0_0.length c0_0) := (aC BK115.out 0).trans rfl
   have hcz8_1 : w4.cell? ⟨gb115, 1, none⟩ = some (.slice A0_1 l0_1.length c0_1) := (aC BK115.out 1).trans rfl
   have hcz8_2 : w4.cell? ⟨gb115, 2, none⟩ = some (.int .i64 a0_2) := (aC BK115.out 2).trans rfl
   have hcz8_3 : w4.cell? ⟨gb115, 3, none⟩ = some (.bool a0_3) := (aC BK115.out 3).trans rfl
   have hfz8_0 := aA BK115.out 0
   have hfz8_1 := aA BK115.out 1
   have hfz8_2 := aA BK115.out 2
   have hfz8_3 := aA BK115.out 3
   go_wp2_with (first | ((with_reducible refine aY (f := 20) rfl ?_); refine bL (some 7) rfl rfl Try.func20 (by kernel_rfl) rfl #[.agg #[.slice A0_0 l0_0.length c0_0, .slice A0_1 l0_1.length c0_1, .int .i64 a0_2, .bool a0_3]] rfl (by (try simp only [List.map_toArray, List.map_cons, List.map_nil]); first | done | rfl | (simp only [List.length_drop, List.length_take]; rfl)) ?_; (with_reducible refine (impl_DevOk.calls k _ _ l0_0 _ _ l0_1 a0_2 a0_3 true _ ?side1 ?side2 ?side3 ?side4 A5.out).mono ?_); (case side1 => repeat (first | exact (Kd.V_reads' HO0_0.out).2.2 | (with_reducible refine Kd.C_alloc ?_ _) | (with_reducible refine Kd.C_drewN ?_ _) | (with_reducible refine Kd.C_drew ?_))); (case side2 => exact (Kd.V_reads' HO0_0.out).2.1); (case side3 => repeat (first | exact (Kd.V_reads' HO0_1.out).2.2 | (with_reducible refine Kd.C_alloc ?_ _) | (with_reducible refine Kd.C_drewN ?_ _) | (with_reducible refine Kd.C_drew ?_))); (case side4 => exact (Kd.V_reads' HO0_1.out).2.1); rintro e w9 ⟨rfl, hb⟩; refine ⟨_, rfl, ?_⟩; have n0_ := aD.mk (Kd.V_below (by (with_reducible repeat (first | apply Kd.V_alloc | apply Kd.V_drewN | apply Kd.V_drew)); exact HO0_0.out) hb); have n1_ := aD.mk (Kd.V_below (by (with_reducible repeat (first | apply Kd.V_alloc | apply Kd.V_drewN | apply Kd.V_drew)); exact HO0_1.out) hb); have n2_ := aD.mk (aH (g := gb115) (o := .cells #[.slice A0_0 l0_0.length c0_0, .slice A0_1 l0_1.length c0_1, .int .i64 a0_2, .bool a0_3] 25 (0, 0)) (by (with_reducible repeat (first | refine bB ?_ _ | refine bA ?_ | refine aZ ?_ _)); exact BK115.out) hb); have n3_ := aD.mk (aQ (by repeat (first | (with_reducible first | exact HB.out | apply aM | apply aJ | apply aN | refine aG ?_ GE115.out) | exact HB.out)) hb); clear HO0_0; clear HO0_1; clear BK115; clear HB; have HO0_0 := n0_; have HO0_1 := n1_; have BK115 := n2_; have HB := n3_; clear n0_ n1_ n2_ n3_; (try clear hb); have hcz10_0 : w9.cell? ⟨gb115, 0, none⟩ = some (.slice A0_0 l0_0.length c0_0) := (aC BK115.out 0).trans rfl; have hcz10_1 : w9.cell? ⟨gb115, 1, none⟩ = some (.slice A0_1 l0_1.length c0_1) := (aC BK115.out 1).trans rfl; have hcz10_2 : w9.cell? ⟨gb115, 2, none⟩ = some (.int .i64 a0_2) := (aC BK115.out 2).trans rfl; have hcz10_3 : w9.cell? ⟨gb115, 3, none⟩ = some (.bool a0_3) := (aC BK115.out 3).trans rfl; have hfz10_0 := aA BK115.out 0; have hfz10_1 := aA BK115.out 1; have hfz10_2 := aA BK115.out 2; have hfz10_3 := aA BK115.out 3) | (go_at_call 44; (with_reducible refine (impl_within.calls a1 0 (wrap64 ((l0_0.length : Int) - 1)) t117 _ A7.out).mono ?_); rintro e w' ⟨rfl, ⟨nd, rfl⟩⟩))
   go_meet
   case rel => exact ⟨_, (!t117), (by first | rfl | (simp; done) | (simp [*]; done)), H', ⟨by first | omega | exact Nat.le_refl _⟩, ⟨by (with_reducible repeat (first | apply Kd.V_alloc | apply Kd.V_drewN | apply Kd.V_drew)); exact HO0_0.out⟩, ⟨by (with_reducible repeat (first | apply Kd.V_alloc | apply Kd.V_drewN | apply Kd.V_drew)); exact HO0_1.out⟩, ⟨by (with_reducible repeat (first | refine bB ?_ _ | refine bA ?_ | refine aZ ?_ _)); exact BK115.out⟩, ⟨by repeat (first | (with_reducible first | exact HB.out | apply aM | apply aJ | apply aN | refine aG ?_ GE115.out) | exact HB.out)⟩⟩
  ·replace c6 := Bool.eq_false_iff.mpr c6
   subst c6
   have H1 : (impl_ReadSec.j0 k a1 true l0_0 l0_1 a0_2 a0_3) = some r := by rw [if_neg (show ¬ (false = true) by decide)] at H; exact H
   clear H
   have H := H1
   clear H1
   have H' := aD.mk H
   clear H
   have hcz11_0 : w4.cell? ⟨gb115, 0, none⟩ = some (.slice A0_0 l0_0.length c0_0) := (aC BK115.out 0).trans rfl
   have hcz11_1 : w4.cell? ⟨gb115, 1, none⟩ = some (.slice A0_1 l0_1.length c0_1) := (aC BK115.out 1).trans rfl
   have hcz11_2 : w4.cell? ⟨gb115, 2, none⟩ = some (.int .i64 a0_2) := (aC BK115.out 2).trans rfl
   have hcz11_3 : w4.cell? ⟨gb115, 3, none⟩ = some (.bool a0_3) := (aC BK115.out 3).trans rfl
   have hfz11_0 := aA BK115.out 0
   have hfz11_1 := aA BK115.out 1
   have hfz11_2 := aA BK115.out 2
   have hfz11_3 := aA BK115.out 3
   go_wp2_with (first | ((with_reducible refine aY (f := 20) rfl ?_); refine bL (some 7) rfl rfl Try.func20 (by kernel_rfl) rfl #[.agg #[.slice A0_0 l0_0.length c0_0, .slice A0_1 l0_1.length c0_1, .int .i64 a0_2, .bool a0_3]] rfl (by (try simp only [List.map_toArray, List.map_cons, List.map_nil]); first | done | rfl | (simp only [List.length_drop, List.length_take]; rfl)) ?_; (with_reducible refine (impl_DevOk.calls k _ _ l0_0 _ _ l0_1 a0_2 a0_3 false _ ?side1 ?side2 ?side3 ?side4 A5.out).mono ?_); (case side1 => repeat (first | exact (Kd.V_reads' HO0_0.out).2.2 | (with_reducible refine Kd.C_alloc ?_ _) | (with_reducible refine Kd.C_drewN ?_ _) | (with_reducible refine Kd.C_drew ?_))); (case side2 => exact (Kd.V_reads' HO0_0.out).2.1); (case side3 => repeat (first | exact (Kd.V_reads' HO0_1.out).2.2 | (with_reducible refine Kd.C_alloc ?_ _) | (with_reducible refine Kd.C_drewN ?_ _) | (with_reducible refine Kd.C_drew ?_))); (case side4 => exact (Kd.V_reads' HO0_1.out).2.1); rintro e w12 ⟨rfl, hb⟩; refine ⟨_, rfl, ?_⟩; have n0_ := aD.mk (Kd.V_below (by (with_reducible repeat (first | apply Kd.V_alloc | apply Kd.V_drewN | apply Kd.V_drew)); exact HO0_0.out) hb); have n1_ := aD.mk (Kd.V_below (by (with_reducible repeat (first | apply Kd.V_alloc | apply Kd.V_drewN | apply Kd.V_drew)); exact HO0_1.out) hb); have n2_ := aD.mk (aH (g := gb115) (o := .cells #[.slice A0_0 l0_0.length c0_0, .slice A0_1 l0_1.length c0_1, .int .i64 a0_2, .bool a0_3] 25 (0, 0)) (by (with_reducible repeat (first | refine bB ?_ _ | refine bA ?_ | refine aZ ?_ _)); exact BK115.out) hb); have n3_ := aD.mk (aQ (by repeat (first | (with_reducible first | exact HB.out | apply aM | apply aJ | apply aN | refine aG ?_ GE115.out) | exact HB.out)) hb); clear HO0_0; clear HO0_1; clear BK115; clear HB; have HO0_0 := n0_; have HO0_1 := n1_; have BK115 := n2_; have HB := n3_; clear n0_ n1_ n2_ n3_; (try clear hb)))
   go_meet
   case rel => exact ⟨_, (true), (by first | rfl | (simp; done) | (simp [*]; done)), H', ⟨by first | omega | exact Nat.le_refl _⟩, ⟨by (with_reducible repeat (first | apply Kd.V_alloc | apply Kd.V_drewN | apply Kd.V_drew)); exact HO0_0.out⟩, ⟨by (with_reducible repeat (first | apply Kd.V_alloc | apply Kd.V_drewN | apply Kd.V_drew)); exact HO0_1.out⟩, ⟨by (with_reducible repeat (first | refine bB ?_ _ | refine bA ?_ | refine aZ ?_ _)); exact BK115.out⟩, ⟨by repeat (first | (with_reducible first | exact HB.out | apply aM | apply aJ | apply aN | refine aG ?_ GE115.out) | exact HB.out)⟩⟩
 case rest =>
  clear HC3
  try clear c2
  try clear p2
  try clear c6
  try clear p6
  try clear hcz10_0
  try clear hcz10_1
  try clear hcz10_2
  try clear hcz10_3
  try clear hcz11_0
  try clear hcz11_1
  try clear hcz11_2
  try clear hcz11_3
  try clear hcz8_0
  try clear hcz8_1
  try clear hcz8_2
  try clear hcz8_3
  try clear hfz10_0
  try clear hfz10_1
  try clear hfz10_2
  try clear hfz10_3
  try clear hfz11_0
  try clear hfz11_1
  try clear hfz11_2
  try clear hfz11_3
  try clear hfz8_0
  try clear hfz8_1
  try clear hfz8_2
  try clear hfz8_3
  obtain ⟨kq, x17_2, rfl, HA, HJ2, HO_116000, HO_116001, BK115, HB⟩ := hcut
  cases kq with
  | zero => exact absurd HA.out (by simp [impl_ReadSec.j0])
  | succ kj2 =>
   have H := HA.out
   clear HA
   simp only [impl_ReadSec.j0] at H
   by_cases c13 : x17_2 = true
   ·subst c13
    have H1 : (some ([] : List Int)) = some r := by rw [if_pos rfl] at H; exact H
    clear H
    have H := H1
    clear H1
    obtain rfl := Option.some.inj H
    go_wp2
    go_ret
    exact ⟨_, by first | rfl | (simp [errW_none, errW_some] <;> rfl) | (simp [*, errW_none, errW_some] <;> rfl), by first | exact Kd.R_nil _ _ _ _ _ | exact Kd.N_nil _ _ _ _ _ | exact Kd.V_nil _ _ _ _ _ | exact Kd.Q_nil _ _ _ _ _ | exact Kd.S_nil _ _ _ _ _, by repeat (first | (with_reducible first | exact HB.out | apply aM | apply aJ | apply aN | refine aG ?_ GE115.out) | exact HB.out)⟩
   ·replace c13 := Bool.eq_false_iff.mpr c13
    subst c13
    have H1 : (impl_ReadSec.l0 kj2 a1 (wrap64 ((l0_1.length : Int) - 1)) l0_0 l0_1 a0_2 a0_3) = some r := by rw [if_neg (show ¬ (false = true) by decide)] at H; exact H
    clear H
    have H := H1
    clear H1
    have H' := aD.mk H
    clear H
    have hcz14_0 : wc.cell? ⟨gb115, 0, none⟩ = some (.slice A0_0 l0_0.length c0_0) := (aC BK115.out 0).trans rfl
    have hcz14_1 : wc.cell? ⟨gb115, 1, none⟩ = some (.slice A0_1 l0_1.length c0_1) := (aC BK115.out 1).trans rfl
    have hcz14_2 : wc.cell? ⟨gb115, 2, none⟩ = some (.int .i64 a0_2) := (aC BK115.out 2).trans rfl
    have hcz14_3 : wc.cell? ⟨gb115, 3, none⟩ = some (.bool a0_3) := (aC BK115.out 3).trans rfl
    have hfz14_0 := aA BK115.out 0
    have hfz14_1 := aA BK115.out 1
    have hfz14_2 := aA BK115.out 2
    have hfz14_3 := aA BK115.out 3
    go_wp2
    go_loopg [5] kj2 (fun kq v5 w' => ∃ (x5_2 : Int), v5 = .int .i64 x5_2 ∧ aD (impl_ReadSec.l0 kq a1 x5_2 l0_0 l0_1 a0_2 a0_3 = some r) ∧ aD (kq ≤ kj2) ∧ aD (Kd.V (Kd.slice 5 (Kd.int .u8)) 37 w' w.heap.size (fun k_ => ((P0_0_ k_ ∨ P0_1_ k_) ∨ w.heap.size ≤ k_) ∧ k_ ≠ gb115) (.slice A0_0 l0_0.length c0_0) l0_0) ∧ aD (Kd.V k50 50 w' w.heap.size (fun k_ => ((P0_0_ k_ ∨ P0_1_ k_) ∨ w.heap.size ≤ k_) ∧ k_ ≠ gb115) (.slice A0_1 l0_1.length c0_1) l0_1) ∧ aD (w'.heap[gb115]? = some (.cells #[(.slice A0_0 l0_0.length c0_0), (.slice A0_1 l0_1.length c0_1), .int .i64 a0_2, .bool a0_3] 25 (0, 0))) ∧ aD (Below w.heap.size w w'))
    case atStart => exact ⟨(wrap64 ((l0_1.length : Int) - 1)), (by first | rfl | (simp; done) | (simp [*]; done)), H', ⟨Nat.le_refl _⟩, ⟨by (with_reducible repeat (first | apply Kd.V_alloc | apply Kd.V_drewN | apply Kd.V_drew)); exact HO_116000.out⟩, ⟨by (with_reducible repeat (first | apply Kd.V_alloc | apply Kd.V_drewN | apply Kd.V_drew)); exact HO_116001.out⟩, ⟨by (with_reducible repeat (first | refine bB ?_ _ | refine bA ?_ | refine aZ ?_ _)); exact BK115.out⟩, ⟨by repeat (first | (with_reducible first | exact HB.out | apply aM | apply aJ | apply aN | refine aG ?_ GE115.out) | exact HB.out)⟩⟩
    case round =>
     clear H'
     try clear c1
     try clear c2
     try clear p2
     try clear c6
     try clear p6
     try clear c13
     try clear hcz10_0
     try clear hcz10_1
     try clear hcz10_2
     try clear hcz10_3
     try clear hcz11_0
     try clear hcz11_1
     try clear hcz11_2
     try clear hcz11_3
     try clear hcz14_0
     try clear hcz14_1
     try clear hcz14_2
     try clear hcz14_3
     try clear hcz8_0
     try clear hcz8_1
     try clear hcz8_2
     try clear hcz8_3
     try clear hfz10_0
     try clear hfz10_1
     try clear hfz10_2
     try clear hfz10_3
     try clear hfz11_0
     try clear hfz11_1
     try clear hfz11_2
     try clear hfz11_3
     try clear hfz14_0
     try clear hfz14_1
     try clear hfz14_2
     try clear hfz14_3
     try clear hfz8_0
     try clear hfz8_1
     try clear hfz8_2
     try clear hfz8_3
     try clear p2
     try clear p6
     obtain ⟨x5_2, rfl, HA, HK2, HO_116000, HO_116001, BK115, HB⟩ := hrel
     cases gk with
     | zero => exact absurd HA.out (by simp [impl_ReadSec.l0])
     | succ k2 =>
      have H := HA.out
      clear HA
      simp only [impl_ReadSec.l0] at H
      by_cases c15 : x5_2 ≥ 0
      ·rw [if_pos c15] at H
       have c15b0 : decide (0 ≤ x5_2) = true := decide_eq_true c15
       clear c15
       by_cases c16 : 0 ≤ x5_2
       ·rw [if_pos c16] at H
        have c16b0 : decide (0 ≤ x5_2) = true := decide_eq_true c16
        clear c16
        by_cases c17 : x5_2 < (l0_1.length : Int)
        ·rw [if_pos c17] at H
         have c17b0 : decide (x5_2 < (l0_1.length : Int)) = true := decide_eq_true c17
         clear c17
         by_cases c18 : ((rd_T50 l0_1 x5_2).f0) = a1
         ·rw [if_pos c18] at H
          have c18b0 : (((rd_T50 l0_1 x5_2).f0) == a1) = true := beq_iff_eq.mpr c18
          have c18b1 : (((rd_T50 l0_1 x5_2).f0) != a1) = false := bne_eq_false_iff_eq.mpr c18
          clear c18
          obtain ⟨y120, hy120⟩ : ∃ y_ : List (List Int), y_ = (([(rd_T50 l0_1 x5_2).f1] : List (List Int))) := ⟨_, rfl⟩
          replace H : ((impl_joined.f k2 y120).bind fun t123 => (some t123)) = some r := by first | (rw [hy120]; with_reducible exact H) | (have H2_ := (Option.bind_some _ _).symm.trans H; rw [hy120]; with_reducible exact H2_) | (have H2_ := (Option.bind_some _ _).symm.trans H; with_reducible exact H2_) | with_reducible exact H | (rw [hy120]; exact H) | exact H
          have Ny120 := aD.mk hy120
          clear hy120
          replace H := lF H
          obtain ⟨t123, A190, H⟩ := H
          replace H : (some t123) = some r := H
          have A19 := aD.mk A190
          clear A190
          obtain rfl := Option.some.inj H
          have hcz20_0 : wr.cell? ⟨gb115, 0, none⟩ = some (.slice A0_0 l0_0.length c0_0) := (aC BK115.out 0).trans rfl
          have hcz20_1 : wr.cell? ⟨gb115, 1, none⟩ = some (.slice A0_1 l0_1.length c0_1) := (aC BK115.out 1).trans rfl
          have hcz20_2 : wr.cell? ⟨gb115, 2, none⟩ = some (.int .i64 a0_2) := (aC BK115.out 2).trans rfl
          have hcz20_3 : wr.cell? ⟨gb115, 3, none⟩ = some (.bool a0_3) := (aC BK115.out 3).trans rfl
          have hfz20_0 := aA BK115.out 0
          have hfz20_1 := aA BK115.out 1
          have hfz20_2 := aA BK115.out 2
          have hfz20_3 := aA BK115.out 3
          have p118 : 0 ≤ (x5_2 : Int) := lE (by first | (with_reducible assumption) | assumption)
          have q118 : x5_2 < (l0_1.length : Int) := lE (by first | (with_reducible assumption) | assumption)
          obtain ⟨ad118, A118_1, c118_1, e118, hx118_0, hx118_1, hl118_1, hi118_1⟩ := at_T50 (Kd.V_reads' HO_116001.out).2.2 x5_2 p118 q118
          cases e118
          obtain ⟨ce118, hce118, hMe118, hcc118⟩ := Kd.V_get HO_116001.out z50 x5_2 p118 (by first | exact q118 | exact lE (by first | (with_reducible assumption) | assumption) | (have e_ := (Kd.V_reads' HO_116001.out).1; omega))
          obtain ⟨ua118_1, uc118_1, rfl, ul118_1, ge118_1⟩ := k50_openF hMe118
          have hv118_1 := hcc118 1 _ rfl
          rw [add_field _ _ 1 (by omega)] at hv118_1
          replace hv118_1 := Option.some.inj (hv118_1.symm.trans hx118_1)
          injection hv118_1 with hva_ hvn_ hvc_
          rw [hva_] at ge118_1
          rw [hvc_] at ul118_1
          have HL118_1 := aD.mk (show Kd.V (Kd.int .u8) 5 _ w.heap.size _ _ ((rd_T50 l0_1 x5_2).f1) from Kd.V_mk ul118_1 ge118_1)
          clear hva_ hvn_ hvc_ ge118_1 ul118_1
          clear hcc118 hce118
          have HR118_1 := aD.mk hi118_1
          have HC118_1 := aD.mk hl118_1
          clear hi118_1 hl118_1
          replace p118 := eq_true p118
          replace q118 := eq_true q118
          have p119 : 0 ≤ (x5_2 : Int) := lE (by first | (with_reducible assumption) | assumption)
          have q119 : x5_2 < (l0_1.length : Int) := lE (by first | (with_reducible assumption) | assumption)
          obtain ⟨ad119, A119_1, c119_1, e119, hx119_0, hx119_1, hl119_1, hi119_1⟩ := at_T50 (Kd.V_reads' HO_116001.out).2.2 x5_2 p119 q119
          obtain rfl : ad118 = ad119 := (by injection e119)
          obtain ⟨ce119, hce119, hMe119, hcc119⟩ := Kd.V_get HO_116001.out z50 x5_2 p119 (by first | exact q119 | exact lE (by first | (with_reducible assumption) | assumption) | (have e_ := (Kd.V_reads' HO_116001.out).1; omega))
          obtain ⟨ua119_1, uc119_1, rfl, ul119_1, ge119_1⟩ := k50_openF hMe119
          have hv119_1 := hcc119 1 _ rfl
          rw [add_field _ _ 1 (by omega)] at hv119_1
          replace hv119_1 := Option.some.inj (hv119_1.symm.trans hx119_1)
          injection hv119_1 with hva_ hvn_ hvc_
          rw [hva_] at ge119_1
          rw [hvc_] at ul119_1
          have HL119_1 := aD.mk (show Kd.V (Kd.int .u8) 5 _ w.heap.size _ _ ((rd_T50 l0_1 x5_2).f1) from Kd.V_mk ul119_1 ge119_1)
          clear hva_ hvn_ hvc_ ge119_1 ul119_1
          clear hcc119 hce119
          have HR119_1 := aD.mk hi119_1
          have HC119_1 := aD.mk hl119_1
          clear hi119_1 hl119_1
          replace p119 := eq_true p119
          replace q119 := eq_true q119
          have ea_ := Option.some.inj (hx118_1.symm.trans hx119_1)
          injection ea_ with ea_ en_ ec_
          subst ea_
          subst ec_
          clear en_
          go_wp2_with (first | ((with_reducible refine bE (N := 40) rfl ?_); (try (refine gate_guard (by rfl) ?_; dsimp only)); refine Kd.N_lit (Kd.slice 5 (Kd.int .u8)) _ 37 ?hg (N' := 40) ?hd (xs := ([(rd_T50 l0_1 x5_2).f1] : List (List Int))) (inner := [.slice A118_1 ((rd_T50 l0_1 x5_2).f1).length c118_1]) (ok := (fun k_ => ((P0_0_ k_ ∨ P0_1_ k_) ∨ w.heap.size ≤ k_) ∧ k_ ≠ gb115)) (okp := (fun k_ => ((P0_0_ k_ ∨ P0_1_ k_) ∨ w.heap.size ≤ k_) ∧ k_ ≠ gb115)) ?hr ?hp (fun _ hk => hk) ((show ∀ k_, wr.heap.size ≤ k_ → (fun k_ => ((P0_0_ k_ ∨ P0_1_ k_) ∨ w.heap.size ≤ k_) ∧ k_ ≠ gb115) k_ from fun k_ hk => ⟨(.inr (Nat.le_trans (bM (by repeat (first | (with_reducible first | exact HB.out | apply aM | apply aJ | apply aN | refine aG ?_ GE115.out) | exact HB.out))) hk)), Kd.freshB (g := gb115) (o := .cells #[.slice A0_0 l0_0.length c0_0, .slice (some ad118) l0_1.length c0_1, .int .i64 a0_2, .bool a0_3] 25 (0, 0)) (by (with_reducible repeat (first | refine bB ?_ _ | refine bA ?_ | refine aZ ?_ _)); exact BK115.out) k_ hk⟩) _ (Nat.le_refl _)) (Below.refl _ _) (Nat.le_refl _) (by simp) ?_; (case hd => rfl); (case hg => rfl); (case hr => first | (go_simp; done) | (go_simp; rfl)); (case hp => exact (Reps.one (show Kd.FK (Kd.slice 5 (Kd.int .u8)) _ _ ((rd_T50 l0_1 x5_2).f1) [.slice A118_1 ((rd_T50 l0_1 x5_2).f1).length c118_1] from (Kd.FK_slice_mk (Kd.V_reads' (Kd.V_mono (ok' := (fun k_ => ((P0_0_ k_ ∨ P0_1_ k_) ∨ w.heap.size ≤ k_) ∧ k_ ≠ gb115)) (HL119_1.out) (fun k_ hk => ⟨hk.1, hk.2⟩))).2.1 (Kd.V_F (Kd.V_mono (ok' := (fun k_ => ((P0_0_ k_ ∨ P0_1_ k_) ∨ w.heap.size ≤ k_) ∧ k_ ≠ gb115)) (HL119_1.out) (fun k_ hk => ⟨hk.1, hk.2⟩))))) (Reps.none _ _))); intro v121 w21 ho22 hb hg_ hnew_; clear hg_ hnew_; (first | rw [← Ny120.out] at ho22 | (simp only [Int.reduceToNat] at ho22; rw [← Ny120.out] at ho22)); have n0_ := aD.mk (Kd.V_elder' (by (with_reducible repeat (first | apply Kd.V_alloc | apply Kd.V_drewN | apply Kd.V_drew)); exact HO_116000.out) (Kd.N_base ho22) hb); have n1_ := aD.mk (Kd.V_elder' (by (with_reducible repeat (first | apply Kd.V_alloc | apply Kd.V_drewN | apply Kd.V_drew)); exact HO_116001.out) (Kd.N_base ho22) hb); have n2_ := aD.mk (Kd.V_elder' (by (with_reducible repeat (first | apply Kd.V_alloc | apply Kd.V_drewN | apply Kd.V_drew)); exact HL118_1.out) (Kd.N_base ho22) hb); have n3_ := aD.mk (Kd.V_elder' (by (with_reducible repeat (first | apply Kd.V_alloc | apply Kd.V_drewN | apply Kd.V_drew)); exact HL119_1.out) (Kd.N_base ho22) hb); have n4_ := aD.mk (Kd.N_lower ho22 (bM (by repeat (first | (with_reducible first | exact HB.out | apply aM | apply aJ | apply aN | refine aG ?_ GE115.out) | exact HB.out)))); have n5_ := aD.mk (aH (g := gb115) (o := .cells #[.slice A0_0 l0_0.length c0_0, .slice (some ad118) l0_1.length c0_1, .int .i64 a0_2, .bool a0_3] 25 (0, 0)) (by (with_reducible repeat (first | refine bB ?_ _ | refine bA ?_ | refine aZ ?_ _)); exact BK115.out) hb); have n6_ := aD.mk (Kd.C_below (by repeat (first | (with_reducible exact HR118_1.out) | (with_reducible refine Kd.C_alloc ?_ _) | (with_reducible refine Kd.C_drewN ?_ _) | (with_reducible refine Kd.C_drew ?_) | exact HR118_1.out)) hb); have n7_ := aD.mk (Kd.C_below (by repeat (first | (with_reducible exact HR119_1.out) | (with_reducible refine Kd.C_alloc ?_ _) | (with_reducible refine Kd.C_drewN ?_ _) | (with_reducible refine Kd.C_drew ?_) | exact HR119_1.out)) hb); have n8_ := aD.mk (aQ (by repeat (first | (with_reducible first | exact HB.out | apply aM | apply aJ | apply aN | refine aG ?_ GE115.out) | exact HB.out)) hb); clear HO_116000; clear HO_116001; clear HL118_1; clear HL119_1; clear BK115; clear HR118_1; clear HR119_1; clear HB; have HO_116000 := n0_; have HO_116001 := n1_; have HL118_1 := n2_; have HL119_1 := n3_; have HO122 := n4_; have BK115 := n5_; have HR118_1 := n6_; have HR119_1 := n7_; have HB := n8_; clear n0_ n1_ n2_ n3_ n4_ n5_ n6_ n7_ n8_; clear hb ho22; obtain ⟨Ao23, co23, eo23⟩ := Kd.N_slice HO122.out; subst eo23) | ((with_reducible refine aY (f := 55) rfl ?_); refine bL (some 41) rfl rfl Try.func55 (by kernel_rfl) rfl #[.slice Ao23 y120.length co23] rfl (by (try simp only [List.map_toArray, List.map_cons, List.map_nil]); first | done | rfl | (simp only [List.length_drop, List.length_take]; rfl)) ?_; (with_reducible refine (impl_joined.calls k2 _ _ y120 t123 _ ?side1 ?side2 A19.out).mono ?_); (case side1 => repeat (first | exact (Kd.N_reads' HO122.out).2.2 | (with_reducible refine Kd.C_alloc ?_ _) | (with_reducible refine Kd.C_drewN ?_ _) | (with_reducible refine Kd.C_drew ?_))); (case side2 => exact (Kd.N_reads' HO122.out).2.1); rintro e w24 ⟨v124, rfl, ho0, hb⟩; refine ⟨_, rfl, ?_⟩; have n0_ := aD.mk (Kd.V_elder' (by (with_reducible repeat (first | apply Kd.V_alloc | apply Kd.V_drewN | apply Kd.V_drew)); exact HO_116000.out) (Kd.R_base ho0) hb); have n1_ := aD.mk (Kd.V_elder' (by (with_reducible repeat (first | apply Kd.V_alloc | apply Kd.V_drewN | apply Kd.V_drew)); exact HO_116001.out) (Kd.R_base ho0) hb); have n2_ := aD.mk (Kd.V_elder' (by (with_reducible repeat (first | apply Kd.V_alloc | apply Kd.V_drewN | apply Kd.V_drew)); exact HL118_1.out) (Kd.R_base ho0) hb); have n3_ := aD.mk (Kd.V_elder' (by (with_reducible repeat (first | apply Kd.V_alloc | apply Kd.V_drewN | apply Kd.V_drew)); exact HL119_1.out) (Kd.R_base ho0) hb); have n4_ := aD.mk (Kd.N_elder' (by (with_reducible repeat (first | apply Kd.N_alloc | apply Kd.N_drewN | apply Kd.N_drew)); exact HO122.out) (Kd.R_base ho0) hb); have n5_ := aD.mk (Kd.R_lower (Kd.R_newM (M := fun k_ => (w.heap.size ≤ k_)) ho0 (bM (by repeat (first | (with_reducible first | exact HB.out | apply aM | apply aJ | apply aN | refine aG ?_ GE115.out) | exact HB.out))) (fun k_ h_ => h_)) (bM (by repeat (first | (with_reducible first | exact HB.out | apply aM | apply aJ | apply aN | refine aG ?_ GE115.out) | exact HB.out)))); have n6_ := aD.mk (aH (g := gb115) (o := .cells #[.slice A0_0 l0_0.length c0_0, .slice (some ad118) l0_1.length c0_1, .int .i64 a0_2, .bool a0_3] 25 (0, 0)) (by (with_reducible repeat (first | refine bB ?_ _ | refine bA ?_ | refine aZ ?_ _)); exact BK115.out) hb); have n7_ := aD.mk (Kd.C_below (by repeat (first | (with_reducible exact HR118_1.out) | (with_reducible refine Kd.C_alloc ?_ _) | (with_reducible refine Kd.C_drewN ?_ _) | (with_reducible refine Kd.C_drew ?_) | exact HR118_1.out)) hb); have n8_ := aD.mk (Kd.C_below (by repeat (first | (with_reducible exact HR119_1.out) | (with_reducible refine Kd.C_alloc ?_ _) | (with_reducible refine Kd.C_drewN ?_ _) | (with_reducible refine Kd.C_drew ?_) | exact HR119_1.out)) hb); have n9_ := aD.mk (aQ (by repeat (first | (with_reducible first | exact HB.out | apply aM | apply aJ | apply aN | refine aG ?_ GE115.out) | exact HB.out)) hb); clear HO_116000; clear HO_116001; clear HL118_1; clear HL119_1; clear HO122; clear BK115; clear HR118_1; clear HR119_1; clear HB; have HO_116000 := n0_; have HO_116001 := n1_; have HL118_1 := n2_; have HL119_1 := n3_; have HO122 := n4_; have HO125 := n5_; have BK115 := n6_; have HR118_1 := n7_; have HR119_1 := n8_; have HB := n9_; clear n0_ n1_ n2_ n3_ n4_ n5_ n6_ n7_ n8_ n9_; (try clear hb); (try clear hk); (try clear ho0)))
          go_ret
          exact ⟨_, by first | rfl | (simp [errW_none, errW_some] <;> rfl) | (simp [*, errW_none, errW_some] <;> rfl), by (with_reducible repeat (first | apply Kd.R_alloc | apply Kd.R_drewN | apply Kd.R_drew)); exact Kd.R_mono HO125.out (fun _ hk => hk.1), by repeat (first | (with_reducible first | exact HB.out | apply aM | apply aJ | apply aN | refine aG ?_ GE115.out) | exact HB.out)⟩
         ·rw [if_neg c18] at H
          have c18b0 : (((rd_T50 l0_1 x5_2).f0) == a1) = false := beq_eq_false_iff_ne.mpr c18
          have c18b1 : (((rd_T50 l0_1 x5_2).f0) != a1) = true := bne_iff_ne.mpr c18
          have H' := aD.mk H
          clear H
          have hcz25_0 : wr.cell? ⟨gb115, 0, none⟩ = some (.slice A0_0 l0_0.length c0_0) := (aC BK115.out 0).trans rfl
          have hcz25_1 : wr.cell? ⟨gb115, 1, none⟩ = some (.slice A0_1 l0_1.length c0_1) := (aC BK115.out 1).trans rfl
          have hcz25_2 : wr.cell? ⟨gb115, 2, none⟩ = some (.int .i64 a0_2) := (aC BK115.out 2).trans rfl
          have hcz25_3 : wr.cell? ⟨gb115, 3, none⟩ = some (.bool a0_3) := (aC BK115.out 3).trans rfl
          have hfz25_0 := aA BK115.out 0
          have hfz25_1 := aA BK115.out 1
          have hfz25_2 := aA BK115.out 2
          have hfz25_3 := aA BK115.out 3
          have p118 : 0 ≤ (x5_2 : Int) := lE (by first | (with_reducible assumption) | assumption)
          have q118 : x5_2 < (l0_1.length : Int) := lE (by first | (with_reducible assumption) | assumption)
          obtain ⟨ad118, A118_1, c118_1, e118, hx118_0, hx118_1, hl118_1, hi118_1⟩ := at_T50 (Kd.V_reads' HO_116001.out).2.2 x5_2 p118 q118
          cases e118
          obtain ⟨ce118, hce118, hMe118, hcc118⟩ := Kd.V_get HO_116001.out z50 x5_2 p118 (by first | exact q118 | exact lE (by first | (with_reducible assumption) | assumption) | (have e_ := (Kd.V_reads' HO_116001.out).1; omega))
          obtain ⟨ua118_1, uc118_1, rfl, ul118_1, ge118_1⟩ := k50_openF hMe118
          have hv118_1 := hcc118 1 _ rfl
          rw [add_field _ _ 1 (by omega)] at hv118_1
          replace hv118_1 := Option.some.inj (hv118_1.symm.trans hx118_1)
          injection hv118_1 with hva_ hvn_ hvc_
          rw [hva_] at ge118_1
          rw [hvc_] at ul118_1
          have HL118_1 := aD.mk (show Kd.V (Kd.int .u8) 5 _ w.heap.size _ _ ((rd_T50 l0_1 x5_2).f1) from Kd.V_mk ul118_1 ge118_1)
          clear hva_ hvn_ hvc_ ge118_1 ul118_1
          clear hcc118 hce118
          have HR118_1 := aD.mk hi118_1
          have HC118_1 := aD.mk hl118_1
          clear hi118_1 hl118_1
          replace p118 := eq_true p118
          replace q118 := eq_true q118
          go_wp2
          go_roundg k2
          case measure => have := HJ2.out; have := HK2.out; omega
          case rel => exact ⟨(wrap64 (x5_2 - 1)), (by first | rfl | (simp; done) | (simp [*]; done)), H', ⟨by have := HJ2.out; have := HK2.out; omega⟩, ⟨by (with_reducible repeat (first | apply Kd.V_alloc | apply Kd.V_drewN | apply Kd.V_drew)); exact HO_116000.out⟩, ⟨by (with_reducible repeat (first | apply Kd.V_alloc | apply Kd.V_drewN | apply Kd.V_drew)); exact HO_116001.out⟩, ⟨by (with_reducible repeat (first | refine bB ?_ _ | refine bA ?_ | refine aZ ?_ _)); exact BK115.out⟩, ⟨by repeat (first | (with_reducible first | exact HB.out | apply aM | apply aJ | apply aN | refine aG ?_ GE115.out) | exact HB.out)⟩⟩
        ·rw [if_neg c17] at H
         exact absurd H (by simp)
       ·rw [if_neg c16] at H
        exact absurd H (by simp)
      ·rw [if_neg c15] at H
       have c15b0 : decide (0 ≤ x5_2) = false := decide_eq_false c15
       clear c15
       by_cases c26 : 0 ≤ a1
       ·rw [if_pos c26] at H
        have c26b0 : decide (0 ≤ a1) = true := decide_eq_true c26
        clear c26
        by_cases c27 : a1 < (l0_0.length : Int)
        ·rw [if_pos c27] at H
         have c27b0 : decide (a1 < (l0_0.length : Int)) = true := decide_eq_true c27
         clear c27
         obtain ⟨y127, hy127⟩ : ∃ y_ : List (List Int), y_ = (([rd_L1 l0_0 a1] : List (List Int))) := ⟨_, rfl⟩
         replace H : ((impl_joined.f k2 y127).bind fun t130 => (some t130)) = some r := by first | (rw [hy127]; with_reducible exact H) | (have H2_ := (Option.bind_some _ _).symm.trans H; rw [hy127]; with_reducible exact H2_) | (have H2_ := (Option.bind_some _ _).symm.trans H; with_reducible exact H2_) | with_reducible exact H | (rw [hy127]; exact H) | exact H
         have Ny127 := aD.mk hy127
         clear hy127
         replace H := lF H
         obtain ⟨t130, A280, H⟩ := H
         replace H : (some t130) = some r := H
         have A28 := aD.mk A280
         clear A280
         obtain rfl := Option.some.inj H
         have hcz29_0 : wr.cell? ⟨gb115, 0, none⟩ = some (.slice A0_0 l0_0.length c0_0) := (aC BK115.out 0).trans rfl
         have hcz29_1 : wr.cell? ⟨gb115, 1, none⟩ = some (.slice A0_1 l0_1.length c0_1) := (aC BK115.out 1).trans rfl
         have hcz29_2 : wr.cell? ⟨gb115, 2, none⟩ = some (.int .i64 a0_2) := (aC BK115.out 2).trans rfl
         have hcz29_3 : wr.cell? ⟨gb115, 3, none⟩ = some (.bool a0_3) := (aC BK115.out 3).trans rfl
         have hfz29_0 := aA BK115.out 0
         have hfz29_1 := aA BK115.out 1
         have hfz29_2 := aA BK115.out 2
         have hfz29_3 := aA BK115.out 3
         have p126 : 0 ≤ (a1 : Int) := lE (by first | (with_reducible assumption) | assumption)
         have q126 : a1 < (l0_0.length : Int) := lE (by first | (with_reducible assumption) | assumption)
         obtain ⟨ad126, A126_0, c126_0, e126, hx126_0, hl126_0, hi126_0⟩ := at_L1 (Kd.V_reads' HO_116000.out).2.2 a1 p126 q126
         cases e126
         obtain ⟨ce126, hce126, hMe126, hcc126⟩ := Kd.V_get HO_116000.out [] a1 p126 (by first | exact q126 | exact lE (by first | (with_reducible assumption) | assumption) | (have e_ := (Kd.V_reads' HO_116000.out).1; omega))
         obtain ⟨ua126_0, uc126_0, rfl, ul126_0, ge126_0⟩ := Kd.FK_slice_open hMe126
         have hv126_0 := hcc126 0 _ rfl
         rw [Nat.add_zero, show ((Kd.slice 5 (Kd.int .u8))).sz = 1 from rfl, Nat.mul_one] at hv126_0
         replace hv126_0 := Option.some.inj (hv126_0.symm.trans hx126_0)
         injection hv126_0 with hva_ hvn_ hvc_
         rw [hva_] at ge126_0
         rw [hvc_] at ul126_0
         have HL126_0 := aD.mk (show Kd.V (Kd.int .u8) 5 _ w.heap.size _ _ (rd_L1 l0_0 a1) from Kd.V_mk ul126_0 ge126_0)
         clear hva_ hvn_ hvc_ ge126_0 ul126_0
         clear hcc126 hce126
         have HR126_0 := aD.mk hi126_0
         have HC126_0 := aD.mk hl126_0
         clear hi126_0 hl126_0
         replace p126 := eq_true p126
         replace q126 := eq_true q126
         go_wp2_with (first | ((with_reducible refine bE (N := 47) rfl ?_); (try (refine gate_guard (by rfl) ?_; dsimp only)); refine Kd.N_lit (Kd.slice 5 (Kd.int .u8)) _ 37 ?hg (N' := 47) ?hd (xs := ([rd_L1 l0_0 a1] : List (List Int))) (inner := [.slice A126_0 (rd_L1 l0_0 a1).length c126_0]) (ok := (fun k_ => ((P0_0_ k_ ∨ P0_1_ k_) ∨ w.heap.size ≤ k_) ∧ k_ ≠ gb115)) (okp := (fun k_ => ((P0_0_ k_ ∨ P0_1_ k_) ∨ w.heap.size ≤ k_) ∧ k_ ≠ gb115)) ?hr ?hp (fun _ hk => hk) ((show ∀ k_, wr.heap.size ≤ k_ → (fun k_ => ((P0_0_ k_ ∨ P0_1_ k_) ∨ w.heap.size ≤ k_) ∧ k_ ≠ gb115) k_ from fun k_ hk => ⟨(.inr (Nat.le_trans (bM (by repeat (first | (with_reducible first | exact HB.out | apply aM | apply aJ | apply aN | refine aG ?_ GE115.out) | exact HB.out))) hk)), Kd.freshB (g := gb115) (o := .cells #[.slice (some ad126) l0_0.length c0_0, .slice A0_1 l0_1.length c0_1, .int .i64 a0_2, .bool a0_3] 25 (0, 0)) (by (with_reducible repeat (first | refine bB ?_ _ | refine bA ?_ | refine aZ ?_ _)); exact BK115.out) k_ hk⟩) _ (Nat.le_refl _)) (Below.refl _ _) (Nat.le_refl _) (by simp) ?_; (case hd => rfl); (case hg => rfl); (case hr => first | (go_simp; done) | (go_simp; rfl)); (case hp => exact (Reps.one (show Kd.FK (Kd.slice 5 (Kd.int .u8)) _ _ (rd_L1 l0_0 a1) [.slice A126_0 (rd_L1 l0_0 a1).length c126_0] from (Kd.FK_slice_mk (Kd.V_reads' (Kd.V_mono (ok' := (fun k_ => ((P0_0_ k_ ∨ P0_1_ k_) ∨ w.heap.size ≤ k_) ∧ k_ ≠ gb115)) (HL126_0.out) (fun k_ hk => ⟨hk.1, hk.2⟩))).2.1 (Kd.V_F (Kd.V_mono (ok' := (fun k_ => ((P0_0_ k_ ∨ P0_1_ k_) ∨ w.heap.size ≤ k_) ∧ k_ ≠ gb115)) (HL126_0.out) (fun k_ hk => ⟨hk.1, hk.2⟩))))) (Reps.none _ _))); intro v128 w30 ho31 hb hg_ hnew_; clear hg_ hnew_; (first | rw [← Ny127.out] at ho31 | (simp only [Int.reduceToNat] at ho31; rw [← Ny127.out] at ho31)); have n0_ := aD.mk (Kd.V_elder' (by (with_reducible repeat (first | apply Kd.V_alloc | apply Kd.V_drewN | apply Kd.V_drew)); exact HO_116000.out) (Kd.N_base ho31) hb); have n1_ := aD.mk (Kd.V_elder' (by (with_reducible repeat (first | apply Kd.V_alloc | apply Kd.V_drewN | apply Kd.V_drew)); exact HO_116001.out) (Kd.N_base ho31) hb); have n2_ := aD.mk (Kd.V_elder' (by (with_reducible repeat (first | apply Kd.V_alloc | apply Kd.V_drewN | apply Kd.V_drew)); exact HL126_0.out) (Kd.N_base ho31) hb); have n3_ := aD.mk (Kd.N_lower ho31 (bM (by repeat (first | (with_reducible first | exact HB.out | apply aM | apply aJ | apply aN | refine aG ?_ GE115.out) | exact HB.out)))); have n4_ := aD.mk (aH (g := gb115) (o := .cells #[.slice (some ad126) l0_0.length c0_0, .slice A0_1 l0_1.length c0_1, .int .i64 a0_2, .bool a0_3] 25 (0, 0)) (by (with_reducible repeat (first | refine bB ?_ _ | refine bA ?_ | refine aZ ?_ _)); exact BK115.out) hb); have n5_ := aD.mk (Kd.C_below (by repeat (first | (with_reducible exact HR126_0.out) | (with_reducible refine Kd.C_alloc ?_ _) | (with_reducible refine Kd.C_drewN ?_ _) | (with_reducible refine Kd.C_drew ?_) | exact HR126_0.out)) hb); have n6_ := aD.mk (aQ (by repeat (first | (with_reducible first | exact HB.out | apply aM | apply aJ | apply aN | refine aG ?_ GE115.out) | exact HB.out)) hb); clear HO_116000; clear HO_116001; clear HL126_0; clear BK115; clear HR126_0; clear HB; have HO_116000 := n0_; have HO_116001 := n1_; have HL126_0 := n2_; have HO129 := n3_; have BK115 := n4_; have HR126_0 := n5_; have HB := n6_; clear n0_ n1_ n2_ n3_ n4_ n5_ n6_; clear hb ho31; obtain ⟨Ao32, co32, eo32⟩ := Kd.N_slice HO129.out; subst eo32) | ((with_reducible refine aY (f := 55) rfl ?_); refine bL (some 48) rfl rfl Try.func55 (by kernel_rfl) rfl #[.slice Ao32 y127.length co32] rfl (by (try simp only [List.map_toArray, List.map_cons, List.map_nil]); first | done | rfl | (simp only [List.length_drop, List.length_take]; rfl)) ?_; (with_reducible refine (impl_joined.calls k2 _ _ y127 t130 _ ?side1 ?side2 A28.out).mono ?_); (case side1 => repeat (first | exact (Kd.N_reads' HO129.out).2.2 | (with_reducible refine Kd.C_alloc ?_ _) | (with_reducible refine Kd.C_drewN ?_ _) | (with_reducible refine Kd.C_drew ?_))); (case side2 => exact (Kd.N_reads' HO129.out).2.1); rintro e w33 ⟨v131, rfl, ho0, hb⟩; refine ⟨_, rfl, ?_⟩; have n0_ := aD.mk (Kd.V_elder' (by (with_reducible repeat (first | apply Kd.V_alloc | apply Kd.V_drewN | apply Kd.V_drew)); exact HO_116000.out) (Kd.R_base ho0) hb); have n1_ := aD.mk (Kd.V_elder' (by (with_reducible repeat (first | apply Kd.V_alloc | apply Kd.V_drewN | apply Kd.V_drew)); exact HO_116001.out) (Kd.R_base ho0) hb); have n2_ := aD.mk (Kd.V_elder' (by (with_reducible repeat (first | apply Kd.V_alloc | apply Kd.V_drewN | apply Kd.V_drew)); exact HL126_0.out) (Kd.R_base ho0) hb); have n3_ := aD.mk (Kd.N_elder' (by (with_reducible repeat (first | apply Kd.N_alloc | apply Kd.N_drewN | apply Kd.N_drew)); exact HO129.out) (Kd.R_base ho0) hb); have n4_ := aD.mk (Kd.R_lower (Kd.R_newM (M := fun k_ => (w.heap.size ≤ k_)) ho0 (bM (by repeat (first | (with_reducible first | exact HB.out | apply aM | apply aJ | apply aN | refine aG ?_ GE115.out) | exact HB.out))) (fun k_ h_ => h_)) (bM (by repeat (first | (with_reducible first | exact HB.out | apply aM | apply aJ | apply aN | refine aG ?_ GE115.out) | exact HB.out)))); have n5_ := aD.mk (aH (g := gb115) (o := .cells #[.slice (some ad126) l0_0.length c0_0, .slice A0_1 l0_1.length c0_1, .int .i64 a0_2, .bool a0_3] 25 (0, 0)) (by (with_reducible repeat (first | refine bB ?_ _ | refine bA ?_ | refine aZ ?_ _)); exact BK115.out) hb); have n6_ := aD.mk (Kd.C_below (by repeat (first | (with_reducible exact HR126_0.out) | (with_reducible refine Kd.C_alloc ?_ _) | (with_reducible refine Kd.C_drewN ?_ _) | (with_reducible refine Kd.C_drew ?_) | exact HR126_0.out)) hb); have n7_ := aD.mk (aQ (by repeat (first | (with_reducible first | exact HB.out | apply aM | apply aJ | apply aN | refine aG ?_ GE115.out) | exact HB.out)) hb); clear HO_116000; clear HO_116001; clear HL126_0; clear HO129; clear BK115; clear HR126_0; clear HB; have HO_116000 := n0_; have HO_116001 := n1_; have HL126_0 := n2_; have HO129 := n3_; have HO132 := n4_; have BK115 := n5_; have HR126_0 := n6_; have HB := n7_; clear n0_ n1_ n2_ n3_ n4_ n5_ n6_ n7_; (try clear hb); (try clear hk); (try clear ho0)))
         go_ret
         exact ⟨_, by first | rfl | (simp [errW_none, errW_some] <;> rfl) | (simp [*, errW_none, errW_some] <;> rfl), by (with_reducible repeat (first | apply Kd.R_alloc | apply Kd.R_drewN | apply Kd.R_drew)); exact Kd.R_mono HO132.out (fun _ hk => hk.1), by repeat (first | (with_reducible first | exact HB.out | apply aM | apply aJ | apply aN | refine aG ?_ GE115.out) | exact HB.out)⟩
        ·rw [if_neg c27] at H
         exact absurd H (by simp)
       ·rw [if_neg c26] at H
        exact absurd H (by simp)
end Go.Proofs.Ytilhcaofpfeioaa.PFnDevs

namespace Go.Proofs.Ytilhcaofpfeioaa.Core
open Go.RowKit Go.Proofs.YtilhcaofpfeioaaW.PrintWords
theorem w64 {x : Int} (h0 : -9223372036854775808 ≤ x) (h1 : x ≤ 9223372036854775807) : wrap64 x = x := by unfold wrap64; omega
theorem w64s (n : Nat) (h : n ≤ 4611686018427387904) : wrap64 ((n : Int) + 1) = ((n + 1 : Nat) : Int) := by unfold wrap64; omega
theorem evOf {α : Type} {g : Nat → Option α} {r : α} (h : ∀ k, g k = some r) : Ev g r := ⟨0, fun k _ => h k⟩
theorem evGet {α : Type} {g : Nat → Option α} {r : α} (h : Ev g r) : ∃ k, g k = some r := by
 obtain ⟨K, h⟩ := h
 exact ⟨K, h K (Nat.le_refl _)⟩
theorem evSucc {α : Type} {g : Nat → Option α} {r : α} (h : ∃ K d, ∀ k, K ≤ k → g (k + d) = some r) : Ev g r := by
 obtain ⟨K, d, h⟩ := h
 refine ⟨K + d, fun k hk => ?_⟩
 obtain ⟨m, rfl⟩ : ∃ m, k = m + d := ⟨k - d, by omega⟩
 exact h m (by omega)
theorem evRange {σ ρ : Type} (n : Nat) (l : Nat → σ → Int → Option ρ) (Inv : Nat → σ → Prop) (M : Nat → σ → ρ)
  (step : ∀ i s, i < n → Inv i s → (∃ s', Inv (i + 1) s' ∧ M (i + 1) s' = M i s ∧ ∃ K d, ∀ k, K ≤ k → l (k + d) s (i : Int) = l k s' ((i + 1 : Nat) : Int)) ∨ (∃ K d, ∀ k, K ≤ k → l (k + d) s (i : Int) = some (M i s)))
  (done : ∀ s, Inv n s → ∃ K d, ∀ k, K ≤ k → l (k + d) s (n : Int) = some (M n s)) :
  ∀ i s, i ≤ n → Inv i s → Ev (fun k => l k s (i : Int)) (M i s) := by
 have key : ∀ d i s, n - i = d → i ≤ n → Inv i s → Ev (fun k => l k s (i : Int)) (M i s) := by
  intro d
  induction d with
  | zero =>
   intro i s hd hi hinv
   obtain rfl : i = n := by omega
   exact evSucc (done s hinv)
  | succ d ih =>
   intro i s hd hi hinv
   rcases step i s (by omega) hinv with ⟨s', hinv', hM, K, e, h⟩ | h
   ·obtain ⟨K', h'⟩ := ih (i + 1) s' (by omega) (by omega) hinv'
    refine evSucc ⟨K + K', e, fun k hk' => ?_⟩
    show l (k + e) s i = _
    rw [h k (by omega), ← hM]
    exact h' k (by omega)
   ·exact evSucc h
 exact fun i s hi => key _ i s rfl hi
theorem evRange0 {σ ρ : Type} (n : Nat) (l : Nat → σ → Int → Option ρ) (Inv : Nat → σ → Prop) (M : Nat → σ → ρ) (s : σ) (h0 : Inv 0 s)
  (step : ∀ i s, i < n → Inv i s → (∃ s', Inv (i + 1) s' ∧ M (i + 1) s' = M i s ∧ ∃ K d, ∀ k, K ≤ k → l (k + d) s (i : Int) = l k s' ((i + 1 : Nat) : Int)) ∨ (∃ K d, ∀ k, K ≤ k → l (k + d) s (i : Int) = some (M i s)))
  (done : ∀ s, Inv n s → ∃ K d, ∀ k, K ≤ k → l (k + d) s (n : Int) = some (M n s)) :
  Ev (fun k => l k s 0) (M 0 s) := evRange n l Inv M step done 0 s (Nat.zero_le _) h0
theorem evRangeEx {σ ρ : Type} (n : Nat) (l : Nat → σ → Int → Option ρ) (Inv : Nat → σ → Prop) (Post : ρ → Prop)
  (step : ∀ i s, i < n → Inv i s → (∃ s', Inv (i + 1) s' ∧ ∃ K d, ∀ k, K ≤ k → l (k + d) s (i : Int) = l k s' ((i + 1 : Nat) : Int)) ∨ (∃ r, Post r ∧ ∃ K d, ∀ k, K ≤ k → l (k + d) s (i : Int) = some r))
  (done : ∀ s, Inv n s → ∃ r, Post r ∧ ∃ K d, ∀ k, K ≤ k → l (k + d) s (n : Int) = some r) :
  ∀ i s, i ≤ n → Inv i s → ∃ r, Post r ∧ Ev (fun k => l k s (i : Int)) r := by
 have key : ∀ d i s, n - i = d → i ≤ n → Inv i s → ∃ r, Post r ∧ Ev (fun k => l k s (i : Int)) r := by
  intro d
  induction d with
  | zero =>
   intro i s hd hi hinv
   obtain rfl : i = n := by omega
   obtain ⟨r, hp, h⟩ := done s hinv
   exact ⟨r, hp, evSucc h⟩
  | succ d ih =>
   intro i s hd hi hinv
   rcases step i s (by omega) hinv with ⟨s', hinv', K, e, h⟩ | ⟨r, hp, h⟩
   ·obtain ⟨r, hp, K', h'⟩ := ih (i + 1) s' (by omega) (by omega) hinv'
    refine ⟨r, hp, evSucc ⟨K + K', e, fun k hk' => ?_⟩⟩
    show l (k + e) s i = _
    rw [h k (by omega)]
    exact h' k (by omega)
   ·exact ⟨r, hp, evSucc h⟩
 exact fun i s hi => key _ i s rfl hi
def allFrom (p : Nat → Bool) (n i : Nat) : Bool := (List.range' i (n - i)).all p
theorem allFrom_lt {p : Nat → Bool} {n i : Nat} (h : i < n) : allFrom p n i = (p i && allFrom p n (i + 1)) := by
 unfold allFrom
 rw [show n - i = (n - (i + 1)) + 1 by omega, List.range'_succ, List.all_cons]
theorem allFrom_end (p : Nat → Bool) (n : Nat) : allFrom p n n = true := by simp [allFrom]
theorem allFrom_iff {p : Nat → Bool} {n i : Nat} : allFrom p n i = true ↔ ∀ j, i ≤ j → j < n → p j = true := by
 simp only [allFrom, List.all_eq_true, List.mem_range'_1]
 constructor
 ·intro h j h1 h2; exact h j ⟨h1, by omega⟩
 ·intro h j hj; exact h j hj.1 (by omega)
theorem evAll (n : Nat) (l : Nat → Int → Option Bool) (p : Nat → Bool) (fin : Bool)
  (step : ∀ i, i < n → ∃ K d, ∀ k, K ≤ k → l (k + d) (i : Int) = if p i = true then l k ((i + 1 : Nat) : Int) else some false)
  (done : ∃ K d, ∀ k, K ≤ k → l (k + d) (n : Int) = some fin) (i : Nat) (hi : i ≤ n) : Ev (fun k => l k (i : Int)) (allFrom p n i && fin) := by
 refine evRange (σ := Unit) n (fun k _ i => l k i) (fun _ _ => True) (fun i _ => allFrom p n i && fin) ?_ ?_ i () hi trivial
 ·intro i _ hi _
  obtain ⟨K, d, h⟩ := step i hi
  cases hp : p i with
  | true => exact .inl ⟨(), trivial, by simp [allFrom_lt hi, hp], K, d, fun k hk => by simp only [h k hk, hp, if_true]⟩
  | false => exact .inr ⟨K, d, fun k hk => by simp only [h k hk, hp, allFrom_lt hi, Bool.false_and]; rfl⟩
 ·intro _ _
  obtain ⟨K, d, h⟩ := done
  exact ⟨K, d, fun k hk => by rw [h k hk, allFrom_end, Bool.true_and]⟩
def fill {β : Type} (c : Nat → β) (l : List β) (i : Nat) : List β := (List.range i).map c ++ l.drop i
theorem drop_getD {α : Type} (l : List α) (i : Nat) (z : α) (h : i < l.length) : l.drop i = l.getD i z :: l.drop (i + 1) := by
 rw [List.drop_eq_getElem_cons h, List.getD_eq_getElem?_getD, List.getElem?_eq_getElem h]; rfl
theorem take_getD {α : Type} (l : List α) (i : Nat) (z : α) (h : i < l.length) : l.take (i + 1) = l.take i ++ [l.getD i z] := by
 rw [List.take_succ_eq_append_getElem h, List.getD_eq_getElem?_getD, List.getElem?_eq_getElem h]; rfl
theorem getD_mem {α : Type} (l : List α) (i : Nat) (z : α) (h : i < l.length) : l.getD i z ∈ l := by
 rw [List.getD_eq_getElem?_getD, List.getElem?_eq_getElem h]; exact List.getElem_mem h
theorem and255 (x : Int) : Go.bits .and .i64 x 255 = x % 256 := by
 have e : (BitVec.ofInt IntKind.i64.bits x &&& BitVec.ofInt IntKind.i64.bits 255).toNat = (x % 256).toNat := by
  rw [BitVec.toNat_and, BitVec.toNat_ofInt, BitVec.toNat_ofInt]
  have h2 : ((255 : Int) % ((2 ^ IntKind.i64.bits : Nat) : Int)).toNat = 2 ^ 8 - 1 := by decide
  rw [h2, Nat.and_two_pow_sub_one_eq_mod]
  have h3 : ((2 ^ IntKind.i64.bits : Nat) : Int) = 18446744073709551616 := by decide
  rw [h3]
  omega
 unfold Go.bits
 simp only [e]
 rw [IntKind.wrap_i64]
 omega
theorem wf_u8 {x : Int} (h : (Lit.int .u8 x).wf = true) : 0 ≤ x ∧ x ≤ 255 := by
 simp only [Lit.wf, IntKind.min, IntKind.max, Bool.and_eq_true] at h
 simpa [IntKind.bits, IntKind.signed] using h
end Go.Proofs.Ytilhcaofpfeioaa.Core

namespace Go.Proofs.Ytilhcaofpfeioaa.Core
open Go.RowKit Go.Proofs.YtilhcaofpfeioaaW.PrintWords
section
variable {α : Type} (mk : α → Int → α) (cnt : α → Int)
def cntL : List α → Int
 | [] => 0
 | x :: xs => cnt x + cntL xs
def mkL : List α → Int → List α
 | [], _ => []
 | x :: xs, a => mk x a :: mkL xs (a + cnt x)
/-- The first i are marked. -/
def midL (l : List α) (a : Int) (i : Nat) : List α := (mkL mk cnt l a).take i ++ l.drop i
end
/-- The blocks from lo on, below hi. -/
def In (lo hi k : Nat) : Prop := lo ≤ k ∧ k < hi
theorem In.off {a b c d : Nat} (h : b ≤ c) : ∀ k, In a b k → ¬ In c d k := fun _ h1 h2 => by unfold In at *; omega
namespace Mem
open Kd
section
variable {α : Type} {d : Kd α} {e n m c base lo hi top : Nat} {w w1 W : World} {A : Option Addr} {v : Value} {xs : List α} {ok P : Nat → Prop}
theorem times (hs : top ≤ W.heap.size) (hb : Below W.heap.size W w1) : ∃ lo hi, lo = W.heap.size ∧ hi = w1.heap.size ∧ top ≤ lo ∧ lo ≤ hi := ⟨_, _, rfl, rfl, hs, hb.size⟩
theorem new_R (h : d.R e w1 lo ok v xs) (eh : hi = w1.heap.size) : ∃ A c, v = .slice A xs.length c ∧ xs.length ≤ c ∧ F d w1 (In lo hi) A xs.length xs ∧ d.R e w1 lo (In lo hi) (.slice A xs.length c) xs := by
 subst eh
 obtain ⟨A, c, rfl, hl, _⟩ := R_reads h
 have h2 : d.R e w1 lo (In lo w1.heap.size) (.slice A xs.length c) xs := R_mono (R_bound h) (fun k hk => ⟨hk.2.1, hk.2.2.1⟩)
 exact ⟨A, c, rfl, hl, R_F h2, h2⟩
theorem new_S (h : Kd.S d e w1 lo ok v xs) (eh : hi = w1.heap.size) : ∃ A c, v = .slice A xs.length c ∧ xs.length ≤ c ∧ F d w1 (In lo hi) A xs.length xs ∧ Kd.S d e w1 lo (In lo hi) (.slice A xs.length c) xs := by
 subst eh
 obtain ⟨A, c, rfl, hl, _⟩ := S_reads h
 have h2 : Kd.S d e w1 lo (In lo w1.heap.size) (.slice A xs.length c) xs := bP (S_bound h) (fun k hk => ⟨hk.2.1, hk.2.2.1⟩)
 exact ⟨A, c, rfl, hl, S_F h2, h2⟩
theorem new_N (h : Kd.N d e w1 lo (fun k_ => lo ≤ k_) v xs) (eh : hi = w1.heap.size) : ∃ A c, v = .slice A xs.length c ∧ xs.length ≤ c ∧ F d w1 (In lo hi) A xs.length xs := by
 subst eh
 obtain ⟨A, c, rfl, hl, _⟩ := N_reads h
 exact ⟨A, c, rfl, hl, F_mono (F_bound (N_F h)) (fun k hk => ⟨hk.1, hk.2⟩)⟩
end
theorem lent {α : Type} {d : Kd α} {e e2 g n cap base : Nat} {P : Nat → Prop} {W : World} {xs : List (List α)} (h : Kd.S (Kd.slice e d) e2 W base P (.slice (some ⟨g, 0, none⟩) n cap) xs) (i : Int) (h0 : 0 ≤ i) (h1 : i < n) (hnew : ∀ k, W.heap.size ≤ k → P k) :
  ∃ (oki : Nat → Prop) (v : Value), (∀ k, oki k → P k) ∧ d.R e W base oki v (xs.getD i.toNat []) ∧ W.cell? ⟨g, i.toNat, none⟩ = some v ∧
   ∀ (w1 : World) (x' : List α), Kept W w1 oki → d.R e w1 base (fun k => oki k ∨ W.heap.size ≤ k) v x' → Kd.S (Kd.slice e d) e2 w1 base P (.slice (some ⟨g, 0, none⟩) n cap) (xs.set i.toNat x') := by
 obtain ⟨oki, c, hcl, hM, hcc, hoki, hH⟩ := S_lend h [] i h0 h1
 obtain ⟨v, rfl, hR⟩ := hM
 refine ⟨oki, v, fun k hk => (hoki k hk).1, hR, ?_, fun w1 x' hk hR' => ?_⟩
 ·have := hcc 0 v rfl
  simpa [show (Kd.slice e d).sz = 1 from rfl] using this
 ·refine H_back (H_step (H_widen hH) (fun k ho hn hlt => hk.2 k hlt (fun h2 => hn (.inl h2)))) (okp := fun k => oki k ∨ W.heap.size ≤ k) ⟨v, rfl, hR'⟩ (fun k hk' => ?_)
  rcases hk' with hk' | hk'
  ·exact .inl hk'
  ·exact .inr ⟨hnew k hk', hk'⟩
end Mem
end Go.Proofs.Ytilhcaofpfeioaa.Core

namespace Go.Proofs.Ytilhcaofpfeioaa.Pure
open Go.RowKit Go.Proofs.Ytilhcaofpfeioaa.PFnDevs Go.Proofs.Ytilhcaofpfeioaa.Core Go.Proofs.YtilhcaofpfeioaaW.PrintWords Go.Proofs.YtilhcaofpfeioaaW.PrintLast Go.Proofs.YtilhcaofpfeioaaW.PrintMore
set_option linter.unusedSimpArgs false
set_option linter.unusedVariables false
def okByteS (l : List Int) : Prop := l.length ≤ 4194304
def cntByteS (l : List Int) : Int := l.length
def inByteS (l : List Int) : Prop := l.length ≤ 1048576
def sumByteS (l : List Int) : Int := l.length
def convByteSS (l : List (List Int)) : List (List Int) := l.map fun x => x
def sumByteSS : List (List Int) → Int
 | [] => 0
 | x :: xs => 1 + sumByteS x + sumByteSS xs
def inByteSS (l : List (List Int)) : Prop := sumByteSS l ≤ 1048576
/-- What the impl's side holds, all in all. -/
def bulkByteSS : List (List Int) → Nat
 | [] => 0
 | x :: xs => 1 + x.length + bulkByteSS xs
def okByteSS (l : List (List Int)) : Prop := bulkByteSS l ≤ 4194304
theorem bulkByteSS_len : ∀ l : List (List Int), l.length ≤ bulkByteSS l
 | [] => by simp [bulkByteSS]
 | x :: xs => by have := bulkByteSS_len xs; simp only [bulkByteSS, List.length_cons]; omega
theorem bulkByteSS_at : ∀ (l : List (List Int)) (i : Nat), i < l.length → (l.getD i []).length ≤ bulkByteSS l
 | x :: xs, 0, _ => by simp only [bulkByteSS, List.getD_cons_zero]; omega
 | x :: xs, i + 1, h => by
  have := bulkByteSS_at xs i (by simpa using h)
  simp only [bulkByteSS, List.getD_cons_succ]; omega
theorem okByteSS_at {l : List (List Int)} (h : okByteSS l) (i : Nat) (hi : i < l.length) : okByteS (l.getD i []) := by
 have h1 := bulkByteSS_at l i hi
 unfold okByteSS at h
 show (l.getD i []).length ≤ 4194304
 omega
theorem okByteSS_len {l : List (List Int)} (h : okByteSS l) : l.length ≤ 4194304 := by have := bulkByteSS_len l; unfold okByteSS at h; omega
/-- What the impl's side holds, all in all. -/
def bulkWrS : List (S50) → Nat
 | [] => 0
 | x :: xs => 1 + x.f1.length + bulkWrS xs
def okWrS (l : List (S50)) : Prop := bulkWrS l ≤ 4194304
theorem bulkWrS_len : ∀ l : List (S50), l.length ≤ bulkWrS l
 | [] => by simp [bulkWrS]
 | x :: xs => by have := bulkWrS_len xs; simp only [bulkWrS, List.length_cons]; omega
theorem bulkWrS_at : ∀ (l : List (S50)) (i : Nat), i < l.length → (l.getD i z50).f1.length ≤ bulkWrS l
 | x :: xs, 0, _ => by simp only [bulkWrS, List.getD_cons_zero]; omega
 | x :: xs, i + 1, h => by
  have := bulkWrS_at xs i (by simpa using h)
  simp only [bulkWrS, List.getD_cons_succ]; omega
theorem okWrS_at {l : List (S50)} (h : okWrS l) (i : Nat) (hi : i < l.length) : okByteS (l.getD i z50).f1 := by
 have h1 := bulkWrS_at l i hi
 unfold okWrS at h
 show (l.getD i z50).f1.length ≤ 4194304
 omega
theorem okWrS_len {l : List (S50)} (h : okWrS l) : l.length ≤ 4194304 := by have := bulkWrS_len l; unfold okWrS at h; omega
def wrOkB (n : Nat) (x : S50) : Bool := decide (0 ≤ x.f0 ∧ x.f0 ≤ (n : Int) - 1) && decide ((x.f1.length : Int) ≤ 80)
def devOkB (s : List (List Int)) (c : List S50) (f : Int) : Bool :=
 allFrom (fun i => decide (((s.getD i []).length : Int) ≤ 80)) s.length 0 && (allFrom (fun i => wrOkB s.length (c.getD i z50)) c.length 0 && (decide (1 ≤ (s.length : Int) ∧ (s.length : Int) ≤ 60) && (decide ((c.length : Int) ≤ 60) && decide (-1 ≤ f ∧ f ≤ 1000))))
def burnF (a : Int) (d : Bool) : Int × Bool × Bool := if a = 0 then (-1, true, false) else if 0 < a then (wrap64 (a - 1), d, true) else (a, d, true)
def putsB (s : List (List Int)) (c : List S50) (d : Bool) (n : Int) (b : List Int) : Bool := !d && (decide (0 ≤ n ∧ n ≤ wrap64 ((s.length : Int) - 1)) && (!decide (80 < (b.length : Int)) && !decide (60 ≤ (c.length : Int))))
def wrote (s : List (List Int)) (c : List S50) (f : Int) (d : Bool) (n : Int) (b : List Int) : List S50 × Int × Bool :=
 if putsB s c d n b = true then (if (burnF f false).2.2 = true then c ++ [⟨n, b⟩] else c, (burnF f false).1, (burnF f false).2.1) else (c, f, d)
def writeSec (s : List (List Int)) (c : List S50) (f : Int) (d : Bool) (n : Int) (b : List Int) : List (List Int) × List S50 × Int × Bool := if devOkB s c f = true then (s, wrote s c f d n b) else (s, c, f, d)
theorem devOk_cache {s : List (List Int)} {c : List S50} {f : Int} (h : devOkB s c f = true) : (c.length : Int) ≤ 60 := by
 unfold devOkB at h
 simp only [Bool.and_eq_true, decide_eq_true_eq] at h
 exact h.2.2.2.1
def bitB (k : Int) (i : Nat) : Bool := decide (i < 30) && decide (Go.bits .and .i64 (shr .i64 k (i : Int)) 1 = 1)
def fallSecs (s : List (List Int)) (c : List S50) (k : Int) : Nat → List (List Int)
 | 0 => s
 | i + 1 => if bitB k i = true then (fallSecs s c k i).set (c.getD i z50).f0.toNat (c.getD i z50).f1 else fallSecs s c k i
def keepOf (k : Int) : Int := if 0 ≤ k ∧ k ≤ 1073741823 then k else 0
def fallDev (s : List (List Int)) (c : List S50) (f : Int) (d : Bool) (k : Int) : List (List Int) × List S50 × Int × Bool := if devOkB s c f = true then (fallSecs s c (keepOf k) c.length, [], -1, false) else (s, c, f, d)
def flushSecs (s : List (List Int)) (c : List S50) : Nat → List (List Int)
 | 0 => s
 | i + 1 => (flushSecs s c i).set (c.getD i z50).f0.toNat (c.getD i z50).f1
theorem flushSecs_length (s : List (List Int)) (c : List S50) : ∀ i, (flushSecs s c i).length = s.length
 | 0 => rfl
 | i + 1 => by
  unfold flushSecs
  rw [List.length_set, flushSecs_length s c i]
def flushed (s : List (List Int)) (c : List S50) (f : Int) (d : Bool) : List (List Int) × List S50 × Int × Bool :=
 if d = true then (s, c, f, d) else if (burnF f false).2.2 = true then (flushSecs s c c.length, [], (burnF f false).1, (burnF f false).2.1) else (s, c, (burnF f false).1, (burnF f false).2.1)
def flushDev (s : List (List Int)) (c : List S50) (f : Int) (d : Bool) : List (List Int) × List S50 × Int × Bool := if devOkB s c f = true then flushed s c f d else (s, c, f, d)
theorem impl_joined_ev (ls : List (List Int)) (h : ls.flatten.length ≤ 4194304) (h2 : ls.length ≤ 4194304) : Ev (fun k => impl_joined.f k ls) ls.flatten := by
 obtain ⟨K, hk⟩ := evRange0 (σ := List Int) ls.length (fun k s i => impl_joined.l0 k s ls (ls.length : Int) i) (fun i s => s ++ (ls.drop i).flatten = ls.flatten) (fun _ _ => ls.flatten) [] (by simp)
  (by
   intro i s hi hs
   have hd := drop_getD ls i [] hi
   have hr : rd_L1 ls (i : Int) = ls.getD i [] := by simp [rd_L1]
   rw [hd, List.flatten_cons] at hs
   generalize ls.getD i [] = y at *
   have hl : s.length + y.length ≤ 4194304 := by
    have := congrArg List.length hs
    simp only [List.length_append] at this
    omega
   refine .inl ⟨s ++ y, by rw [List.append_assoc]; exact hs, rfl, 0, 1, fun k _ => ?_⟩
   simp only [impl_joined.l0, hr]
   rw [if_pos (by omega), if_pos (by omega), if_pos (by omega), if_pos (by omega), w64s i (by omega)])
  (by
   intro s hs
   refine ⟨0, 1, fun k _ => ?_⟩
   simp only [impl_joined.l0]
   rw [if_neg (by omega)]
   simpa using hs)
 exact ⟨K, fun k hk' => hk k hk'⟩
theorem impl_within_f (a b c : Int) : impl_within.f a b c = some (decide (b ≤ a ∧ a ≤ c)) := by
 unfold impl_within.f
 by_cases h : a ≥ b
 ·rw [if_pos h]; congr 1; rw [Bool.eq_iff_iff]; simp; omega
 ·rw [if_neg h]; congr 1; rw [Bool.eq_iff_iff]; simp; omega
theorem impl_DevOk_ev (s : List (List Int)) (c : List S50) (f : Int) (d : Bool) (h1 : okByteSS s) (h2 : okWrS c) : Ev (fun k => impl_DevOk.f k s c f d) (devOkB s c f) := by
 have hs := okByteSS_len h1
 have hc := okWrS_len h2
 obtain ⟨K0, e0⟩ := evAll c.length (fun k i => impl_DevOk.l1 k c (c.length : Int) i s c f d) (fun i => wrOkB s.length (c.getD i z50)) true
  (by
   intro i hi
   have hr : rd_T50 c (i : Int) = c.getD i z50 := by simp [rd_T50]
   refine ⟨0, 1, fun k _ => ?_⟩
   simp only [impl_DevOk.l1, hr, impl_within_f, Option.bind_some, wrOkB]
   rw [if_pos (by omega), if_pos (by omega), if_pos (by omega), w64 (x := (s.length : Int) - 1) (by omega) (by omega), w64s i (by omega)]
   generalize c.getD i z50 = y at *
   by_cases q0 : 0 ≤ y.f0 ∧ y.f0 ≤ (s.length : Int) - 1
   ·simp only [decide_eq_true q0, Bool.true_and, if_true, decide_eq_true_eq]
    by_cases q : (y.f1.length : Int) > 80
    ·rw [if_pos q, if_neg (by omega)]
    ·rw [if_neg q, if_pos (by omega)]
   ·simp only [decide_eq_false q0, Bool.false_and, Bool.false_eq_true, if_false])
  (by
   refine ⟨0, 1, fun k _ => ?_⟩
   simp only [impl_DevOk.l1]
   rw [if_neg (by omega)]) 0 (Nat.zero_le _)
 obtain ⟨K, e⟩ := evAll s.length (fun k i => impl_DevOk.l0 k s (s.length : Int) i s c f d) (fun i => decide (((s.getD i []).length : Int) ≤ 80)) (allFrom (fun i => wrOkB s.length (c.getD i z50)) c.length 0)
  (by
   intro i hi
   have hr : rd_L1 s (i : Int) = s.getD i [] := by simp [rd_L1]
   refine ⟨0, 1, fun k _ => ?_⟩
   simp only [impl_DevOk.l0, hr, decide_eq_true_eq]
   rw [if_pos (by omega), if_pos (by omega), if_pos (by omega), w64s i (by omega)]
   generalize s.getD i [] = y at *
   by_cases q : (y.length : Int) > 80
   ·rw [if_pos q, if_neg (by omega)]
   ·rw [if_neg q, if_pos (by omega)])
  (by
   refine ⟨K0, 1, fun k hk => ?_⟩
   have e1 := e0 k hk
   simp only [Bool.and_true] at e1
   simp only [impl_DevOk.l0]
   rw [if_neg (by omega)]
   exact e1) 0 (Nat.zero_le _)
 refine evSucc ⟨K, 1, fun k hk => ?_⟩
 have e1 : impl_DevOk.l0 k s (s.length : Int) 0 s c f d = _ := e k hk
 simp only [impl_DevOk.f, impl_within_f, Option.bind_some, impl_DevOk.j0, e1, devOkB]
 cases q1 : decide (1 ≤ (s.length : Int) ∧ (s.length : Int) ≤ 60) with
 | false => simp
 | true =>
  simp only [if_true, Bool.true_and]
  by_cases q2 : (c.length : Int) > 60
  ·rw [if_pos q2, decide_eq_false (by omega)]; simp
  ·rw [if_neg q2, decide_eq_true (show (c.length : Int) ≤ 60 by omega)]
   cases decide (-1 ≤ f ∧ f ≤ 1000) <;> simp
end Go.Proofs.Ytilhcaofpfeioaa.Pure

namespace Go.Proofs.Ytilhcaofpfeioaa.Law
open Go.RowKit Go.Proofs.Ytilhcaofpfeioaa.PFnDevs Go.Proofs.Ytilhcaofpfeioaa.Core Go.Proofs.YtilhcaofpfeioaaW.PrintWords Go.Proofs.YtilhcaofpfeioaaW.PrintLast Go.Proofs.YtilhcaofpfeioaaW.PrintMore Go.Proofs.Ytilhcaofpfeioaa.Pure
set_option linter.unusedSimpArgs false
set_option linter.unusedVariables false
def Ex (a x y k : Nat) : Prop := a ≤ k ∧ k ≠ x ∧ k ≠ y
def Exb (a x y t k : Nat) : Prop := Ex a x y k ∧ k < t
theorem ex_of {u : Value} {x k : Nat} (h4 : u.ownBlock = none → x = 0) (hC : ∀ k, u.ownBlock = some k → k = x) (h : some k ≠ u.ownBlock) (hg : 0 < k) : k ≠ x := by
 intro e
 subst e
 cases hu : u.ownBlock with
 | none => have := h4 hu; omega
 | some b => exact h (by rw [hu, hC b hu])
theorem own_num (u : Value) (n : Nat) (hn : 0 < n) (h : ∀ k, u.ownBlock = some k → k < n) : ∃ x, x < n ∧ (∀ k, u.ownBlock = some k → k = x) ∧ (u.ownBlock = none → x = 0) := by
 cases e : u.ownBlock with
 | none => exact ⟨0, hn, fun k hk => (by cases hk), fun _ => rfl⟩
 | some b => exact ⟨b, h b e, fun k hk => (by injection hk with hk; exact hk.symm), fun h => (by cases h)⟩
def In2 (a b c d k : Nat) : Prop := In a b k ∨ In c d k
def Up (a b c k : Nat) : Prop := In a b k ∨ c ≤ k
theorem kept_grown {W w1 : World} {row : Option Nat} {S : Nat → Prop} (hg : W.grownBy w1 row) (h : ∀ k, row = some k → S k) : Kept W w1 S := ⟨hg.size, fun k hlt hn => hg.block k hlt (fun he => hn (h k he.symm))⟩
def rdR (xs : List (List Int)) (i : Int) : List Int := xs.getD i.toNat []
def rdW (xs : List (S50)) (i : Int) : S50 := xs.getD i.toNat z50
theorem F_row {e n : Nat} {W : World} {ok : Nat → Prop} {A : Option Addr} {xs : List (List Int)} (h : Kd.F (Kd.slice e (Kd.int .u8)) W ok A n xs) (i : Int) (h0 : 0 ≤ i) (h1 : i < n) :
  ∃ ad A' c', A = some ad ∧ W.cell? (ad.add i.toNat) = some (.slice A' (rdR xs i).length c') ∧ (rdR xs i).length ≤ c' ∧ Kd.F (Kd.int .u8) W ok A' (rdR xs i).length (rdR xs i) := by
 obtain ⟨ad, c, e_, _, hK, hcc, _⟩ := Kd.F_get h [] i h0 h1
 obtain ⟨A', c', rfl, hl, hf⟩ := Kd.FK_slice_open hK
 exact ⟨ad, A', c', e_, by have := hcc 0 _ rfl; rwa [show (Kd.slice e (Kd.int .u8)).sz = 1 from rfl, Nat.mul_one, Nat.add_zero] at this, hl, hf⟩
theorem F_wr {n : Nat} {W : World} {ok : Nat → Prop} {A : Option Addr} {xs : List (S50)} (h : Kd.F k50 W ok A n xs) (i : Int) (h0 : 0 ≤ i) (h1 : i < n) :
  ∃ ad A' c', A = some ad ∧ W.cell? (ad.add (i.toNat * 2)) = some (.int .i64 (rdW xs i).f0) ∧ W.cell? ⟨(ad.add (i.toNat * 2)).block, (ad.add (i.toNat * 2)).off + 1, none⟩ = some (.slice A' (rdW xs i).f1.length c') ∧ (rdW xs i).f1.length ≤ c' ∧ Kd.F (Kd.int .u8) W ok A' (rdW xs i).f1.length (rdW xs i).f1 := by
 obtain ⟨ad, c, e_, _, hK, hcc0, _⟩ := Kd.F_get h z50 i h0 h1
 have hcc : ∀ j u, c[j]? = some u → W.cell? (ad.add (i.toNat * 2 + j)) = some u := hcc0
 obtain ⟨A', c', rfl, hl, hf⟩ := k50_openF hK
 exact ⟨ad, A', c', e_, hcc 0 _ rfl, by rw [← add_field _ _ 1 (by omega)]; exact hcc 1 _ rfl, hl, hf⟩
theorem joined1 (E : List Int) (h : E.length ≤ 4194304) : ∃ k, impl_joined.f k ([E] : List (List Int)) = some E := evGet (by have := impl_joined_ev [E] (by simpa using h) (by simp); simpa using this)
theorem getS_len {s : List (List Int)} (h : okByteSS s) (i : Nat) : (s.getD i []).length ≤ 4194304 := by
 by_cases c : i < s.length
 ·exact okByteSS_at h i c
 ·rw [List.getD_eq_getElem?_getD, List.getElem?_eq_none (by omega)]; simp
theorem getW_len {s : List (S50)} (h : okWrS s) (i : Nat) : (s.getD i z50).f1.length ≤ 4194304 := by
 by_cases c : i < s.length
 ·exact okWrS_at h i c
 ·rw [List.getD_eq_getElem?_getD, List.getElem?_eq_none (by omega)]; simp [z50]
def okDevB (l : List (List Int)) (m : List (S50)) : Bool := decide (bulkByteSS l ≤ 4194304) && decide (bulkWrS m ≤ 4194304)
theorem new_SI2 {α : Type} {d : Kd α} {e base lo hi : Nat} {w1 : World} {v : Value} {xs : List α} (h : Kd.S d e w1 base (In lo hi) v xs) : ∃ A c, v = .slice A xs.length c ∧ xs.length ≤ c ∧ Kd.F d w1 (In lo hi) A xs.length xs ∧ Kd.S d e w1 base (In lo hi) (.slice A xs.length c) xs := by
 obtain ⟨A, c, rfl, hl, _⟩ := Kd.S_reads h
 exact ⟨A, c, rfl, hl, Kd.S_F h, h⟩
theorem devOk_at {s : List (List Int)} {c : List S50} {f x : Int} {i : Nat} (h : devOkB s c f = true) (hx : x = (i : Int)) (hi : i < c.length) : 0 ≤ (rdW c x).f0 ∧ (rdW c x).f0 < (s.length : Int) := by
 subst hx
 unfold devOkB at h
 simp only [Bool.and_eq_true] at h
 have h2 := allFrom_iff.1 h.2.1 i (Nat.zero_le i) hi
 unfold wrOkB at h2
 simp only [Bool.and_eq_true, decide_eq_true_eq] at h2
 unfold rdW
 rw [Int.toNat_natCast]
 omega
theorem C_F {α : Type} {d : Kd α} (hd : Kd.Heap d) {w : World} {A : Option Addr} {n : Nat} {xs : List α} (h : d.C w A n xs) : Kd.F d w (In 0 w.heap.size) A n xs := fun _ hW => Kd.Heap.C hd (fun k hk => hW k ⟨Nat.zero_le k, hk⟩ hk) h
theorem N_raise {α : Type} {d : Kd α} {e base b2 : Nat} {w : World} {ok : Nat → Prop} {v : Value} {xs : List α} (h : Kd.N d e w base ok v xs) (hb : ∀ k, v.ownBlock = some k → b2 ≤ k) : Kd.N d e w b2 ok v xs := by
 obtain ⟨h0, rows, hl, ⟨hr0, inner, ⟨h1, h2⟩, hr⟩, hf⟩ := h
 refine ⟨h0, rows, hl, ⟨hr0, inner, ⟨h1, ?_⟩, hr.imp_ (fun _ _ hp => hp)⟩, hf⟩
 rcases h2 with h2 | ⟨g, cap, cur, rfl, hg, r⟩
 ·exact .inl h2
 ·exact .inr ⟨g, cap, cur, rfl, hb g (by simp [Value.ownBlock]), r⟩
theorem kept_keep {W w1 : World} {g : Nat} (h : KeepBut W w1 g none) : Kept W w1 (fun k => k = g) := ⟨h.1, fun i hlt hn => h.2 i hlt hn (by simp)⟩
theorem keep_kept {W w1 : World} {g : Nat} (h : Kept W w1 (fun k => k = g)) : KeepBut W w1 g none := ⟨h.1, fun i hlt hn _ => h.2 i hlt hn⟩
theorem flush_t {s : List (List Int)} {c : List S50} {x : Int} {i : Nat} (hx : x = (i : Int)) : flushSecs s c (i + 1) = (flushSecs s c i).set (rdW c x).f0.toNat (rdW c x).f1 := by
 subst hx
 unfold rdW
 rw [Int.toNat_natCast]
 rfl
end Go.Proofs.Ytilhcaofpfeioaa.Law

namespace Go.Proofs.Ytilhcaofpfeioaa.Law
open Go.RowKit Go.Proofs.Ytilhcaofpfeioaa.PFnDevs Go.Proofs.Ytilhcaofpfeioaa.Core Go.Proofs.YtilhcaofpfeioaaW.PrintWords Go.Proofs.YtilhcaofpfeioaaW.PrintLast Go.Proofs.YtilhcaofpfeioaaW.PrintMore Go.Proofs.Ytilhcaofpfeioaa.Pure
set_option linter.unusedSimpArgs false
set_option linter.unusedVariables false
set_option maxHeartbeats 8000000 in
set_option maxRecDepth 100000 in
theorem walk_copyDev (A0_0 : Option Addr) (c0_0 : Nat) (l0_0 : List (List (Int))) (A0_1 : Option Addr) (c0_1 : Nat) (l0_1 : List (S50)) (a0_2 : Int) (a0_3 : Bool) (w : World) (hf0_0 : Kd.F (Kd.slice 5 (Kd.int .u8)) w (In 0 w.heap.size) A0_0 l0_0.length l0_0) (hc0_0 : l0_0.length ≤ c0_0) (hf0_1 : Kd.F k50 w (In 0 w.heap.size) A0_1 l0_1.length l0_1) (hc0_1 : l0_1.length ≤ c0_1) (hok0 : okByteSS l0_0) (hok1 : okWrS l0_1) :
  Calls Try.prog 58 #[.agg #[.slice A0_0 l0_0.length c0_0, .slice A0_1 l0_1.length c0_1, .int .i64 a0_2, .bool a0_3]] w fun e w' => ∃ v0_ v1_ : Value, ∃ m_ : Nat, e = .returned (.agg #[v0_, v1_, .int .i64 a0_2, .bool a0_3]) ∧ w.heap.size ≤ m_ ∧ m_ ≤ w'.heap.size ∧ Kd.S (Kd.slice 5 (Kd.int .u8)) 37 w' w.heap.size (In w.heap.size m_) v0_ l0_0 ∧ Kd.S k50 50 w' w.heap.size (In m_ w'.heap.size) v1_ l0_1 ∧ Below w.heap.size w w' := by
 have hu25 := Try.underlying25
 have hu50 := Try.underlying50
 have HF0_0 := aD.mk hf0_0
 have HC0_0 := aD.mk hc0_0
 clear hf0_0 hc0_0
 have HF0_1 := aD.mk hf0_1
 have HC0_1 := aD.mk hc0_1
 clear hf0_1 hc0_1
 have HB := aD.mk (Below.refl w.heap.size w)
 have HORD := aD.mk (Nat.le_refl w.heap.size)
 have HT := aD.mk (Nat.le_refl w.heap.size)
 go_enter Try.func58, Try.ntmps58
 go_wp2_with (first | ((with_reducible refine bE (N := 1) rfl ?_); refine bD ?hg (N := 1) ?hd (cs := #[.slice A0_0 l0_0.length c0_0, .slice A0_1 l0_1.length c0_1, .int .i64 a0_2, .bool a0_3]) (t := 25) ?hr ?_; (case hd => rfl); (case hg => rfl); (case hr => first | (go_simp; done) | (go_simp; rfl)); intro gb1 hg_ w1 hbox hb; have hge_ : w.heap.size ≤ gb1 := (by rw [hg_]; exact HT.out); have hlt_ : gb1 + 1 ≤ w1.heap.size := bJ hbox; have n0_ := aD.mk (Kd.aE HF0_0.out hb); have n1_ := aD.mk (Kd.aE HF0_1.out hb); have n2_ := aD.mk (aQ HB.out hb); have n3_ := aD.mk (hbox); have n4_ := aD.mk (And.intro HORD.out (And.intro hge_ (Nat.le_succ gb1))); have n5_ := aD.mk (hlt_); (try clear HF0_0); (try clear HF0_1); (try clear HB); (try clear BK1); (try clear HORD); (try clear HT); have HF0_0 := n0_; have HF0_1 := n1_; have HB := n2_; have BK1 := n3_; have HORD := n4_; have HT := n5_; clear n0_ n1_ n2_ n3_ n4_ n5_; clear hb hbox hg_ hge_ hlt_; have hzgb1_0_1 : w1.cell? ⟨gb1, 0, none⟩ = some (.slice A0_0 l0_0.length c0_0) := (aC BK1.out 0).trans rfl; have hygb1_0_1 := aA BK1.out 0; have hzgb1_1_1 : w1.cell? ⟨gb1, 1, none⟩ = some (.slice A0_1 l0_1.length c0_1) := (aC BK1.out 1).trans rfl; have hygb1_1_1 := aA BK1.out 1; have hzgb1_2_1 : w1.cell? ⟨gb1, 2, none⟩ = some (.int .i64 a0_2) := (aC BK1.out 2).trans rfl; have hygb1_2_1 := aA BK1.out 2; have hzgb1_3_1 : w1.cell? ⟨gb1, 3, none⟩ = some (.bool a0_3) := (aC BK1.out 3).trans rfl; have hygb1_3_1 := aA BK1.out 3) | ((with_reducible refine bE (N := 2) rfl ?_); refine bD ?hg (N := 2) ?hd (cs := #[.slice none 0 0, .slice none 0 0, .int .i64 0, .bool false]) (t := 25) ?hr ?_; (case hd => rfl); (case hg => rfl); (case hr => first | (go_simp; done) | (go_simp; rfl)); intro gb2 hg_ w2 hbox hb; have hge_ : (gb1 + 1) ≤ gb2 := (by rw [hg_]; exact HT.out); have hlt_ : gb2 + 1 ≤ w2.heap.size := bJ hbox; have n0_ := aD.mk (Kd.aE HF0_0.out hb); have n1_ := aD.mk (Kd.aE HF0_1.out hb); have n2_ := aD.mk (aH BK1.out hb); have n3_ := aD.mk (aQ HB.out hb); have n4_ := aD.mk (hbox); have n5_ := aD.mk (And.intro HORD.out (And.intro hge_ (Nat.le_succ gb2))); have n6_ := aD.mk (hlt_); (try clear HF0_0); (try clear HF0_1); (try clear BK1); (try clear HB); (try clear BK2); (try clear HORD); (try clear HT); have HF0_0 := n0_; have HF0_1 := n1_; have BK1 := n2_; have HB := n3_; have BK2 := n4_; have HORD := n5_; have HT := n6_; clear n0_ n1_ n2_ n3_ n4_ n5_ n6_; clear hb hbox hg_ hge_ hlt_; have hzgb1_0_2 : w2.cell? ⟨gb1, 0, none⟩ = some (.slice A0_0 l0_0.length c0_0) := (aC BK1.out 0).trans rfl; have hygb1_0_2 := aA BK1.out 0; have hzgb1_1_2 : w2.cell? ⟨gb1, 1, none⟩ = some (.slice A0_1 l0_1.length c0_1) := (aC BK1.out 1).trans rfl; have hygb1_1_2 := aA BK1.out 1; have hzgb1_2_2 : w2.cell? ⟨gb1, 2, none⟩ = some (.int .i64 a0_2) := (aC BK1.out 2).trans rfl; have hygb1_2_2 := aA BK1.out 2; have hzgb1_3_2 : w2.cell? ⟨gb1, 3, none⟩ = some (.bool a0_3) := (aC BK1.out 3).trans rfl; have hygb1_3_2 := aA BK1.out 3; have hzgb2_0_2 : w2.cell? ⟨gb2, 0, none⟩ = some (.slice none 0 0) := (aC BK2.out 0).trans rfl; have hygb2_0_2 := aA BK2.out 0; have hzgb2_1_2 : w2.cell? ⟨gb2, 1, none⟩ = some (.slice none 0 0) := (aC BK2.out 1).trans rfl; have hygb2_1_2 := aA BK2.out 1; have hzgb2_2_2 : w2.cell? ⟨gb2, 2, none⟩ = some (.int .i64 0) := (aC BK2.out 2).trans rfl; have hygb2_2_2 := aA BK2.out 2; have hzgb2_3_2 : w2.cell? ⟨gb2, 3, none⟩ = some (.bool false) := (aC BK2.out 3).trans rfl; have hygb2_3_2 := aA BK2.out 3) | ((with_reducible refine bE (N := 3) rfl ?_); refine bD ?hg (N := 3) ?hd (cs := #[.slice none 0 0, .slice none 0 0, .int .i64 0, .bool false]) (t := 25) ?hr ?_; (case hd => rfl); (case hg => rfl); (case hr => first | (go_simp; done) | (go_simp; rfl)); intro gb3 hg_ w3 hbox hb; have hge_ : (gb2 + 1) ≤ gb3 := (by rw [hg_]; exact HT.out); have hlt_ : gb3 + 1 ≤ w3.heap.size := bJ hbox; have n0_ := aD.mk (Kd.aE HF0_0.out hb); have n1_ := aD.mk (Kd.aE HF0_1.out hb); have n2_ := aD.mk (aH BK1.out hb); have n3_ := aD.mk (aH BK2.out hb); have n4_ := aD.mk (aQ HB.out hb); have n5_ := aD.mk (hbox); have n6_ := aD.mk (And.intro HORD.out (And.intro hge_ (Nat.le_succ gb3))); have n7_ := aD.mk (hlt_); (try clear HF0_0); (try clear HF0_1); (try clear BK1); (try clear BK2); (try clear HB); (try clear BK3); (try clear HORD); (try clear HT); have HF0_0 := n0_; have HF0_1 := n1_; have BK1 := n2_; have BK2 := n3_; have HB := n4_; have BK3 := n5_; have HORD := n6_; have HT := n7_; clear n0_ n1_ n2_ n3_ n4_ n5_ n6_ n7_; clear hb hbox hg_ hge_ hlt_; have hzgb1_0_3 : w3.cell? ⟨gb1, 0, none⟩ = some (.slice A0_0 l0_0.length c0_0) := (aC BK1.out 0).trans rfl; have hygb1_0_3 := aA BK1.out 0; have hzgb1_1_3 : w3.cell? ⟨gb1, 1, none⟩ = some (.slice A0_1 l0_1.length c0_1) := (aC BK1.out 1).trans rfl; have hygb1_1_3 := aA BK1.out 1; have hzgb1_2_3 : w3.cell? ⟨gb1, 2, none⟩ = some (.int .i64 a0_2) := (aC BK1.out 2).trans rfl; have hygb1_2_3 := aA BK1.out 2; have hzgb1_3_3 : w3.cell? ⟨gb1, 3, none⟩ = some (.bool a0_3) := (aC BK1.out 3).trans rfl; have hygb1_3_3 := aA BK1.out 3; have hzgb2_0_3 : w3.cell? ⟨gb2, 0, none⟩ = some (.slice none 0 0) := (aC BK2.out 0).trans rfl; have hygb2_0_3 := aA BK2.out 0; have hzgb2_1_3 : w3.cell? ⟨gb2, 1, none⟩ = some (.slice none 0 0) := (aC BK2.out 1).trans rfl; have hygb2_1_3 := aA BK2.out 1; have hzgb2_2_3 : w3.cell? ⟨gb2, 2, none⟩ = some (.int .i64 0) := (aC BK2.out 2).trans rfl; have hygb2_2_3 := aA BK2.out 2; have hzgb2_3_3 : w3.cell? ⟨gb2, 3, none⟩ = some (.bool false) := (aC BK2.out 3).trans rfl; have hygb2_3_3 := aA BK2.out 3; have hzgb3_0_3 : w3.cell? ⟨gb3, 0, none⟩ = some (.slice none 0 0) := (aC BK3.out 0).trans rfl; have hygb3_0_3 := aA BK3.out 0; have hzgb3_1_3 : w3.cell? ⟨gb3, 1, none⟩ = some (.slice none 0 0) := (aC BK3.out 1).trans rfl; have hygb3_1_3 := aA BK3.out 1; have hzgb3_2_3 : w3.cell? ⟨gb3, 2, none⟩ = some (.int .i64 0) := (aC BK3.out 2).trans rfl; have hygb3_2_3 := aA BK3.out 2; have hzgb3_3_3 : w3.cell? ⟨gb3, 3, none⟩ = some (.bool false) := (aC BK3.out 3).trans rfl; have hygb3_3_3 := aA BK3.out 3) | ((with_reducible refine bK (t := 25) (p := 3) rfl ?_); refine bG (t := 25) (p := 3) (v := ?vo_w4) (w1 := ((((w3.setCell ⟨gb3, 0, none⟩ (.slice none 0 0)).setCell ⟨gb3, 1, none⟩ (.slice none 0 0)).setCell ⟨gb3, 2, none⟩ (.int .i64 a0_2)).setCell ⟨gb3, 3, none⟩ (.bool a0_3))) ?hg ?ho ?hn ?hr ?_; (case ho => rfl); (case hg => rfl); (case hn => rfl); (case hr => first | (go_simp; done) | (go_simp; rfl)); intro w4 hw_; have hkp : Kept w3 w4 (fun k_ => k_ = gb3) := (by rw [hw_]; exact Kept.setCell (Kept.setCell (Kept.setCell (Kept.setCell (Kept.refl w3 (fun k_ => k_ = gb3)) (.inl rfl) (.slice none 0 0)) (.inl rfl) (.slice none 0 0)) (.inl rfl) (.int .i64 a0_2)) (.inl rfl) (.bool a0_3)); have hge_ : w.heap.size ≤ gb3 := (by have o_ := HORD.out; (try unfold In at *); (try show _ ≠ _); omega); have hbn_ : Below w.heap.size w w4 := (by rw [hw_]; exact aG (aG (aG (aG (HB.out) hge_) hge_) hge_) hge_); have hbk_ : w4.heap[gb3]? = some (.cells #[.slice none 0 0, .slice none 0 0, .int .i64 a0_2, .bool a0_3] 25 (0, 0)) := (by rw [hw_]; exact aT (cs := #[.slice none 0 0, .slice none 0 0, .int .i64 a0_2, .bool false]) (cs' := #[.slice none 0 0, .slice none 0 0, .int .i64 a0_2, .bool a0_3]) (aT (cs := #[.slice none 0 0, .slice none 0 0, .int .i64 0, .bool false]) (cs' := #[.slice none 0 0, .slice none 0 0, .int .i64 a0_2, .bool false]) (aT (cs := #[.slice none 0 0, .slice none 0 0, .int .i64 0, .bool false]) (cs' := #[.slice none 0 0, .slice none 0 0, .int .i64 0, .bool false]) (aT (cs := #[.slice none 0 0, .slice none 0 0, .int .i64 0, .bool false]) (cs' := #[.slice none 0 0, .slice none 0 0, .int .i64 0, .bool false]) (BK3.out) 0 _ rfl) 1 _ rfl) 2 _ rfl) 3 _ rfl); have hsz_ : (gb3 + 1) ≤ w4.heap.size := Nat.le_trans HT.out hkp.1; have n0_ := aD.mk (Kd.aU HF0_0.out hkp (fun k_ h1_ h2_ => by have o_ := HORD.out; have t_ := HT.out; (try simp only [In2, Up, In, Ex, Exb] at h1_ h2_); omega)); have n1_ := aD.mk (Kd.aU HF0_1.out hkp (fun k_ h1_ h2_ => by have o_ := HORD.out; have t_ := HT.out; (try simp only [In2, Up, In, Ex, Exb] at h1_ h2_); omega)); have n2_ := aD.mk (aV BK1.out hkp (fun h2_ => by have o_ := HORD.out; have t_ := HT.out; (try simp only [In2, Up, In, Ex, Exb] at h2_); omega)); have n3_ := aD.mk (aV BK2.out hkp (fun h2_ => by have o_ := HORD.out; have t_ := HT.out; (try simp only [In2, Up, In, Ex, Exb] at h2_); omega)); have n4_ := aD.mk (hbn_); have n5_ := aD.mk (hbk_); have n6_ := aD.mk (hsz_); (try clear HF0_0); (try clear HF0_1); (try clear BK1); (try clear BK2); (try clear HB); (try clear BK3); (try clear HT); have HF0_0 := n0_; have HF0_1 := n1_; have BK1 := n2_; have BK2 := n3_; have HB := n4_; have BK3 := n5_; have HT := n6_; clear n0_ n1_ n2_ n3_ n4_ n5_ n6_; clear hw_ hkp hge_ hbn_ hbk_ hsz_; have hzgb1_0_4 : w4.cell? ⟨gb1, 0, none⟩ = some (.slice A0_0 l0_0.length c0_0) := (aC BK1.out 0).trans rfl; have hygb1_0_4 := aA BK1.out 0; have hzgb1_1_4 : w4.cell? ⟨gb1, 1, none⟩ = some (.slice A0_1 l0_1.length c0_1) := (aC BK1.out 1).trans rfl; have hygb1_1_4 := aA BK1.out 1; have hzgb1_2_4 : w4.cell? ⟨gb1, 2, none⟩ = some (.int .i64 a0_2) := (aC BK1.out 2).trans rfl; have hygb1_2_4 := aA BK1.out 2; have hzgb1_3_4 : w4.cell? ⟨gb1, 3, none⟩ = some (.bool a0_3) := (aC BK1.out 3).trans rfl; have hygb1_3_4 := aA BK1.out 3; have hzgb2_0_4 : w4.cell? ⟨gb2, 0, none⟩ = some (.slice none 0 0) := (aC BK2.out 0).trans rfl; have hygb2_0_4 := aA BK2.out 0; have hzgb2_1_4 : w4.cell? ⟨gb2, 1, none⟩ = some (.slice none 0 0) := (aC BK2.out 1).trans rfl; have hygb2_1_4 := aA BK2.out 1; have hzgb2_2_4 : w4.cell? ⟨gb2, 2, none⟩ = some (.int .i64 0) := (aC BK2.out 2).trans rfl; have hygb2_2_4 := aA BK2.out 2; have hzgb2_3_4 : w4.cell? ⟨gb2, 3, none⟩ = some (.bool false) := (aC BK2.out 3).trans rfl; have hygb2_3_4 := aA BK2.out 3; have hzgb3_0_4 : w4.cell? ⟨gb3, 0, none⟩ = some (.slice none 0 0) := (aC BK3.out 0).trans rfl; have hygb3_0_4 := aA BK3.out 0; have hzgb3_1_4 : w4.cell? ⟨gb3, 1, none⟩ = some (.slice none 0 0) := (aC BK3.out 1).trans rfl; have hygb3_1_4 := aA BK3.out 1; have hzgb3_2_4 : w4.cell? ⟨gb3, 2, none⟩ = some (.int .i64 a0_2) := (aC BK3.out 2).trans rfl; have hygb3_2_4 := aA BK3.out 2; have hzgb3_3_4 : w4.cell? ⟨gb3, 3, none⟩ = some (.bool a0_3) := (aC BK3.out 3).trans rfl; have hygb3_3_4 := aA BK3.out 3))
 go_loopg [16] (l0_0.length) (fun kq  v5 w' => ∃ (i5 : Nat) (x5 : Int) (u5 : Value), v5 = .int .i64 x5 ∧ aD (x5 = (i5 : Int)) ∧ aD (i5 + kq = l0_0.length) ∧ aD ((gb3 + 1) ≤ w'.heap.size) ∧ aD (Kd.S (Kd.slice 5 (Kd.int .u8)) 37 w' w.heap.size (Up 0 0 (gb3 + 1)) u5 (l0_0.take i5)) ∧ aD (Kd.F (Kd.slice 5 (Kd.int .u8)) w' (In 0 w.heap.size) A0_0 l0_0.length l0_0) ∧ aD (Kd.F k50 w' (In 0 w.heap.size) A0_1 l0_1.length l0_1) ∧ aD (w'.heap[gb1]? = some (.cells #[.slice A0_0 l0_0.length c0_0, .slice A0_1 l0_1.length c0_1, .int .i64 a0_2, .bool a0_3] 25 (0, 0))) ∧ aD (w'.heap[gb2]? = some (.cells #[.slice none 0 0, .slice none 0 0, .int .i64 0, .bool false] 25 (0, 0))) ∧ aD (w'.heap[gb3]? = some (.cells #[u5, .slice none 0 0, .int .i64 a0_2, .bool a0_3] 25 (0, 0))) ∧ aD (Below w.heap.size w w'))
 case atStart => exact ⟨0, 0, _, rfl, ⟨rfl⟩, ⟨Nat.zero_add _⟩, HT, ⟨by rw [show l0_0.take 0 = [] from rfl]; exact Kd.S_nil _ _ _ _ _⟩, HF0_0, HF0_1, BK1, BK2, BK3, HB⟩
 clear HF0_0 HF0_1 BK1 BK2 BK3 HB HT
 obtain ⟨i5, x5, u5, rfl, HI5, HK5, HT, HS5, HF0_0, HF0_1, BK1, BK2, BK3, HB⟩ := hrel
 obtain ⟨xs5, ex_⟩ : ∃ y_, y_ = l0_0.take i5 := ⟨_, rfl⟩
 rw [← ex_] at HS5
 have HX5 := aD.mk ex_
 clear ex_
 obtain ⟨A5, c5, ev_⟩ := Kd.S_slice HS5.out
 subst ev_
 obtain ⟨hi5, e2_⟩ : ∃ n_, n_ = wr.heap.size := ⟨_, rfl⟩
 have ol_ : (gb3 + 1) ≤ hi5 := (by rw [e2_]; exact HT.out)
 have hs_ := Kd.bP (ok' := In2 0 0 (gb3 + 1) hi5) (Kd.S_bound HS5.out) (fun k_ hk_ => by have h1_ := hk_.1; have h2_ := hk_.2.2.1; rw [← e2_] at h2_; (try simp only [In2, Up, In, Ex, Exb] at h1_ ⊢); omega)
 have n0_ := aD.mk (And.intro HORD.out ol_)
 have n1_ := aD.mk (Nat.le_of_eq e2_)
 clear HS5 HORD HT
 have HORD := n0_
 have HT := n1_
 have HS5 := aD.mk hs_
 have HF5 := aD.mk (Kd.S_F hs_)
 have HC5 := aD.mk (Kd.S_reads' hs_).2.1
 clear n0_ n1_ hs_ ol_ e2_
 rcases gk with _ | k1
 rotate_left
 ·have hp_ : 0 ≤ x5 := (by have := HI5.out; omega)
  have hq_ : x5 < (l0_0.length : Int) := (by have := HI5.out; have := HK5.out; omega)
  have hd_ : decide (x5 < (l0_0.length : Int)) = true := decide_eq_true hq_
  have hzgb1_0_5 : wr.cell? ⟨gb1, 0, none⟩ = some (.slice A0_0 l0_0.length c0_0) := (aC BK1.out 0).trans rfl
  have hygb1_0_5 := aA BK1.out 0
  have hzgb1_1_5 : wr.cell? ⟨gb1, 1, none⟩ = some (.slice A0_1 l0_1.length c0_1) := (aC BK1.out 1).trans rfl
  have hygb1_1_5 := aA BK1.out 1
  have hzgb1_2_5 : wr.cell? ⟨gb1, 2, none⟩ = some (.int .i64 a0_2) := (aC BK1.out 2).trans rfl
  have hygb1_2_5 := aA BK1.out 2
  have hzgb1_3_5 : wr.cell? ⟨gb1, 3, none⟩ = some (.bool a0_3) := (aC BK1.out 3).trans rfl
  have hygb1_3_5 := aA BK1.out 3
  have hzgb2_0_5 : wr.cell? ⟨gb2, 0, none⟩ = some (.slice none 0 0) := (aC BK2.out 0).trans rfl
  have hygb2_0_5 := aA BK2.out 0
  have hzgb2_1_5 : wr.cell? ⟨gb2, 1, none⟩ = some (.slice none 0 0) := (aC BK2.out 1).trans rfl
  have hygb2_1_5 := aA BK2.out 1
  have hzgb2_2_5 : wr.cell? ⟨gb2, 2, none⟩ = some (.int .i64 0) := (aC BK2.out 2).trans rfl
  have hygb2_2_5 := aA BK2.out 2
  have hzgb2_3_5 : wr.cell? ⟨gb2, 3, none⟩ = some (.bool false) := (aC BK2.out 3).trans rfl
  have hygb2_3_5 := aA BK2.out 3
  have hzgb3_0_5 : wr.cell? ⟨gb3, 0, none⟩ = some (.slice A5 xs5.length c5) := (aC BK3.out 0).trans rfl
  have hygb3_0_5 := aA BK3.out 0
  have hzgb3_1_5 : wr.cell? ⟨gb3, 1, none⟩ = some (.slice none 0 0) := (aC BK3.out 1).trans rfl
  have hygb3_1_5 := aA BK3.out 1
  have hzgb3_2_5 : wr.cell? ⟨gb3, 2, none⟩ = some (.int .i64 a0_2) := (aC BK3.out 2).trans rfl
  have hygb3_2_5 := aA BK3.out 2
  have hzgb3_3_5 : wr.cell? ⟨gb3, 3, none⟩ = some (.bool a0_3) := (aC BK3.out 3).trans rfl
  have hygb3_3_5 := aA BK3.out 3
  obtain ⟨ad6, Ae6, ce6, ee6, hx6_0, hl6, hf6⟩ := F_row HF0_0.out x5 hp_ hq_
  cases ee6
  have HF6 := aD.mk hf6
  have HC6 := aD.mk hl6
  clear hf6 hl6
  try go_wp2
  have n_ := aD.mk (Kd.F_drew HF0_0.out)
  clear HF0_0
  have HF0_0 := n_
  clear n_
  have n_ := aD.mk (Kd.F_drew HF0_1.out)
  clear HF0_1
  have HF0_1 := n_
  clear n_
  have n_ := aD.mk (Kd.F_drew HF5.out)
  clear HF5
  have HF5 := n_
  clear n_
  have n_ := aD.mk (Kd.S_drew HS5.out)
  clear HS5
  have HS5 := n_
  clear n_
  have n_ := aD.mk (Kd.F_drew HF6.out)
  clear HF6
  have HF6 := n_
  clear n_
  have n_ := aD.mk (bA BK1.out)
  clear BK1
  have BK1 := n_
  clear n_
  have n_ := aD.mk (bA BK2.out)
  clear BK2
  have BK2 := n_
  clear n_
  have n_ := aD.mk (bA BK3.out)
  clear BK3
  have BK3 := n_
  clear n_
  have n_ := aD.mk (aN HB.out)
  clear HB
  have HB := n_
  clear n_
  have n_ := aD.mk (show _ ≤ wr.drew.heap.size from HT.out)
  clear HT
  have HT := n_
  clear n_
  refine start_ (n := 9) (S := fun w' => w'.cell? ⟨gb3, 0, none⟩ = some (.slice A5 xs5.length c5) ∧ w'.cell? ⟨gb3, 1, none⟩ = some (.slice none 0 0) ∧ w'.cell? ⟨gb3, 2, none⟩ = some (.int .i64 a0_2) ∧ w'.cell? ⟨gb3, 3, none⟩ = some (.bool a0_3)) (ds := [8]) #[false, false, false, false, false, false, false, false, false] (by kernel_rfl) rfl rfl ⟨(aC BK3.out 0).trans rfl, (aC BK3.out 1).trans rfl, (aC BK3.out 2).trans rfl, (aC BK3.out 3).trans rfl⟩ (fun hHeld => ?_)
  generalize wr.drew = w7 at HF0_0 HF0_1 HF5 HS5 HF6 BK1 BK2 BK3 HB HT hHeld ⊢
  refine bF (i := 0) (N := some 20) (v := ?_) (a' := ?_) #[true, false, false, false, false, false, false, false, false] rfl rfl (by kernel_rfl) (fun _ _ _ h => h) (Or.inl ⟨by rfl, ?_⟩) ?_ ?_
  rotate_left
  ·intro w'
   go_simp
   with_reducible rfl
  rotate_left
  ·simp only [Act.put, lA, lB, lC, aW, aX]
   rfl
  refine take_ (i := 1) (N := some 21) (v := ?_) (a' := ?_) #[true, true, false, false, false, false, false, false, false] rfl rfl (by kernel_rfl) (fun _ _ _ h => h) (Or.inl ⟨by rfl, ?_⟩) hHeld ?_ ?_
  rotate_left
  ·rintro w' ⟨s0, s1, s2, s3⟩
   go_simp
   with_reducible rfl
  rotate_left
  ·simp only [Act.put, lA, lB, lC, aW, aX]
   rfl
  refine bF (i := 2) (N := some 22) (v := ?_) (a' := ?_) #[true, true, true, false, false, false, false, false, false] rfl rfl (by kernel_rfl) (fun _ _ _ h => h) (Or.inl ⟨by rfl, ?_⟩) ?_ ?_
  rotate_left
  ·intro w'
   go_simp
   with_reducible rfl
  rotate_left
  ·simp only [Act.put, lA, lB, lC, aW, aX]
   rfl
  refine one_ (i := 3) (N := some 23) #[true, true, true, true, false, false, false, false, false] rfl rfl (by kernel_rfl) (by decide) (fun K hK => ?_)
  refine Kd.N_lit_step (Kd.slice 5 (Kd.int .u8)) _ 37 ?hg (N' := 23) ?hd (xs := ([(rdR l0_0 x5)] : List (List (Int)))) (inner := [.slice Ae6 ((rdR l0_0 x5)).length ce6]) (ok := (fun k_ => (In 0 w.heap.size) k_ ∨ hi5 ≤ k_)) (okp := (In 0 w.heap.size)) ?hr ?hp (fun _ hk => .inl hk) (.inr HT.out) (Below.refl _ _) (Nat.le_refl _) (by simp) ?_
  (case hd => rfl)
  (case hg => rfl)
  (case hr => first | (go_simp; done) | (go_simp; rfl))
  (case hp => exact (Reps.one (Kd.FK_slice_mk HC6.out HF6.out) (Reps.none _ _)))
  intro vl8 w8 ho_ hb hg_ hat_
  obtain ⟨A8, c8, ev_⟩ := Kd.N_slice ho_
  subst ev_
  have n0_ := aD.mk (Kd.aE HF0_0.out hb)
  have n1_ := aD.mk (Kd.aE HF0_1.out hb)
  have n2_ := aD.mk (Kd.aE HF5.out hb)
  have n3_ := aD.mk (Kd.bC HS5.out hb)
  have n4_ := aD.mk (Kd.aE HF6.out hb)
  have n5_ := aD.mk (aH BK1.out hb)
  have n6_ := aD.mk (aH BK2.out hb)
  have n7_ := aD.mk (aH BK3.out hb)
  have n8_ := aD.mk (aQ HB.out hb)
  have n9_ := aD.mk (Nat.le_trans HT.out hb.size)
  have n10_ := aD.mk (Kd.N_F ho_)
  have n11_ := aD.mk ((Kd.N_reads' ho_).2.1)
  (try clear HF0_0)
  (try clear HF0_1)
  (try clear HF5)
  (try clear HS5)
  (try clear HF6)
  (try clear BK1)
  (try clear BK2)
  (try clear BK3)
  (try clear HB)
  (try clear HT)
  (try clear HF8)
  (try clear HC8)
  have HF0_0 := n0_
  have HF0_1 := n1_
  have HF5 := n2_
  have HS5 := n3_
  have HF6 := n4_
  have BK1 := n5_
  have BK2 := n6_
  have BK3 := n7_
  have HB := n8_
  have HT := n9_
  have HF8 := n10_
  have HC8 := n11_
  clear n0_ n1_ n2_ n3_ n4_ n5_ n6_ n7_ n8_ n9_ n10_ n11_
  clear hb ho_ hg_ hat_
  refine hK.out _ _ ⟨(aC BK3.out 0).trans rfl, (aC BK3.out 1).trans rfl, (aC BK3.out 2).trans rfl, (aC BK3.out 3).trans rfl⟩ (fun hHeld => ?_)
  clear hK K
  refine norm_ (a' := ?_) ?_ ?_
  rotate_left
  ·show Act.put _ (some 23) _ = _
   simp only [Act.put, lA, lB, lC, aW, aX]
   rfl
  refine one_ (i := 4) (N := some 24) #[true, true, true, true, true, false, false, false, false] rfl rfl (by kernel_rfl) (by decide) (fun K hK => ?_)
  obtain ⟨kj10, hj_⟩ := joined1 ((rdR l0_0 x5)) (by first | exact getS_len hok0 _ | exact getW_len hok1 _)
  have J10 := aD.mk hj_
  clear hj_
  refine goes_ Try.func55 (by kernel_rfl) rfl #[.slice A8 (([(rdR l0_0 x5)] : List (List (Int)))).length c8] (by rfl) rfl rfl (by (try simp only [List.map_toArray, List.map_cons, List.map_nil]); first | done | rfl | (simp only [List.length_drop, List.length_take]; rfl)) ?_
  (with_reducible refine (impl_joined.calls kj10 _ _ (([(rdR l0_0 x5)] : List (List (Int)))) ((rdR l0_0 x5)) _ ?s1 ?s2 J10.out).mono ?_)
  (case s1 => exact (Kd.bH HF8.out))
  (case s2 => exact HC8.out)
  rintro e_ w9 ⟨v0_, rfl, ho0, hb⟩
  refine ⟨_, rfl, ?_⟩
  obtain ⟨lo9, hi9, el_, eh_, ol_, oh_⟩ := Mem.times HT.out hb
  (try rw [← el_] at ho0)
  obtain ⟨A9_0, c9_0, ev_, hc0_, hf0_, hs0_⟩ := Mem.new_R ho0 eh_
  subst ev_
  have n0_ := aD.mk (Kd.aE HF0_0.out hb)
  have n1_ := aD.mk (Kd.aE HF0_1.out hb)
  have n2_ := aD.mk (Kd.aE HF5.out hb)
  have n3_ := aD.mk (Kd.bC HS5.out hb)
  have n4_ := aD.mk (Kd.aE HF6.out hb)
  have n5_ := aD.mk (Kd.aE HF8.out hb)
  have n6_ := aD.mk (aH BK1.out hb)
  have n7_ := aD.mk (aH BK2.out hb)
  have n8_ := aD.mk (aH BK3.out hb)
  have n9_ := aD.mk (aQ HB.out hb)
  have n10_ := aD.mk (hf0_)
  have n11_ := aD.mk (hc0_)
  have n12_ := aD.mk (hs0_)
  have n13_ := aD.mk (And.intro HORD.out (And.intro ol_ oh_))
  have n14_ := aD.mk (Nat.le_of_eq eh_)
  (try clear HF0_0)
  (try clear HF0_1)
  (try clear HF5)
  (try clear HS5)
  (try clear HF6)
  (try clear HF8)
  (try clear BK1)
  (try clear BK2)
  (try clear BK3)
  (try clear HB)
  (try clear HF9_0)
  (try clear HC9_0)
  (try clear HS9_0)
  (try clear HORD)
  (try clear HT)
  have HF0_0 := n0_
  have HF0_1 := n1_
  have HF5 := n2_
  have HS5 := n3_
  have HF6 := n4_
  have HF8 := n5_
  have BK1 := n6_
  have BK2 := n7_
  have BK3 := n8_
  have HB := n9_
  have HF9_0 := n10_
  have HC9_0 := n11_
  have HS9_0 := n12_
  have HORD := n13_
  have HT := n14_
  clear n0_ n1_ n2_ n3_ n4_ n5_ n6_ n7_ n8_ n9_ n10_ n11_ n12_ n13_ n14_
  clear ol_ oh_ el_ eh_ ho0 hf0_ hc0_ hs0_
  (try clear hb)
  refine hK.out _ _ ⟨(aC BK3.out 0).trans rfl, (aC BK3.out 1).trans rfl, (aC BK3.out 2).trans rfl, (aC BK3.out 3).trans rfl⟩ (fun hHeld => ?_)
  clear hK K
  refine norm_ (a' := ?_) ?_ ?_
  rotate_left
  ·show Act.put _ (some 24) _ = _
   simp only [Act.put, lA, lB, lC, aW, aX]
   rfl
  refine one_ (i := 5) (N := some 25) #[true, true, true, true, true, true, false, false, false] rfl rfl (by kernel_rfl) (by decide) (fun K hK => ?_)
  refine value_ (w1 := ?_) (v := ?_) (by rfl) rfl ?_ ?_
  rotate_left 2
  ·go_simp
   constructor
   ·rfl
   ·rfl
  refine hK.out _ _ ⟨(aC (aZ BK3.out _) 0).trans rfl, (aC (aZ BK3.out _) 1).trans rfl, (aC (aZ BK3.out _) 2).trans rfl, (aC (aZ BK3.out _) 3).trans rfl⟩ (fun hHeld => ?_)
  clear hK K
  refine norm_ (a' := ?_) ?_ ?_
  rotate_left
  ·show Act.put _ (some 25) _ = _
   simp only [Act.put, lA, lB, lC, aW, aX]
   rfl
  refine one_ (i := 6) (N := some 26) #[true, true, true, true, true, true, true, false, false] rfl rfl (by kernel_rfl) (by decide) (fun K hK => ?_)
  refine Kd.S_append_step (Kd.slice 5 (Kd.int .u8)) (w0 := w) w.heap.size (by rfl) (.tmp 21) (.tmp 25) 22 37 (.slice none 0 0) 24 rfl Try.underlying22 info37 rfl (by decide) (by omega) (.slice A5 xs5.length c5) xs5 ((rdR l0_0 x5)) [.slice A9_0 ((rdR l0_0 x5)).length c9_0] (Up 0 0 (gb3 + 1)) (In lo9 hi9) rfl rfl ?aP ?aK ?aF ?aO ?aB ?aS ?aL ?_
  (case aB => exact HB.out)
  (case aS => exact bM HB.out)
  (case aP => exact Kd.M_row (Kd.R_lower HS9_0.out (by have o_ := HORD.out; have t_ := HT.out; (try simp only [In2, Up, In, Ex, Exb] at *); omega)))
  (case aK => exact (fun k_ hk_ => ⟨(by have o_ := HORD.out; have t_ := HT.out; (try simp only [In2, Up, In, Ex, Exb] at hk_ ⊢); omega), (fun he_ => by have hz_ := (Kd.S_R HS5.out).1 k_ he_.symm; have o_ := HORD.out; have t_ := HT.out; (try simp only [In2, Up, In, Ex, Exb] at hk_ hz_); omega)⟩))
  (case aF => exact (fun k_ hk_ => by have o_ := HORD.out; have t_ := HT.out; (try simp only [In2, Up, In, Ex, Exb] at hk_ ⊢); omega))
  (case aO => exact Kd.bP (Kd.bQ HS5.out (by have o_ := HORD.out; omega)) (fun k_ hk_ => ⟨(by have o_ := HORD.out; have t_ := HT.out; (try simp only [In2, Up, In, Ex, Exb] at hk_ ⊢); omega), (fun h2_ => by have o_ := HORD.out; have t_ := HT.out; (try simp only [In2, Up, In, Ex, Exb] at hk_ h2_); omega)⟩))
  (case aL => (have hl1_ := okByteSS_len hok0; have h3_ := congrArg List.length HX5.out; rw [List.length_take] at h3_; omega))
  intro v11 w11 ho_ hbn_ hg_ hat_
  obtain ⟨ys11, ey_⟩ : ∃ y_, y_ = xs5 ++ [(rdR l0_0 x5)] := ⟨_, rfl⟩
  rw [← ey_] at ho_
  have HY11 := aD.mk ey_
  clear ey_
  have hkp := kept_grown (S := (In2 0 0 (gb3 + 1) hi5)) hg_ (fun k_ he_ => (Kd.S_R HS5.out).1 k_ he_)
  obtain ⟨A11, c11, ev_⟩ := Kd.S_slice ho_
  subst ev_
  obtain ⟨hi11, e2_⟩ : ∃ n_, n_ = w11.heap.size := ⟨_, rfl⟩
  have ol_ : hi9 ≤ hi11 := (by rw [e2_]; exact Nat.le_trans HT.out hkp.1)
  have hs_ := Kd.bP (ok' := In2 0 0 (gb3 + 1) hi11) (Kd.S_bound ho_) (fun k_ hk_ => by have h1_ := hk_.1; have h2_ := hk_.2.2.1; rw [← e2_] at h2_; (try simp only [In2, Up, In, Ex, Exb] at h1_ ⊢); omega)
  have n0_ := aD.mk (Kd.aU HF0_0.out hkp (fun k_ h1_ h2_ => by have o_ := HORD.out; have t_ := HT.out; (try simp only [In2, Up, In, Ex, Exb] at h1_ h2_); omega))
  have n1_ := aD.mk (Kd.aU HF0_1.out hkp (fun k_ h1_ h2_ => by have o_ := HORD.out; have t_ := HT.out; (try simp only [In2, Up, In, Ex, Exb] at h1_ h2_); omega))
  have n2_ := aD.mk (Kd.aU HF6.out hkp (fun k_ h1_ h2_ => by have o_ := HORD.out; have t_ := HT.out; (try simp only [In2, Up, In, Ex, Exb] at h1_ h2_); omega))
  have n3_ := aD.mk (aV BK1.out hkp (fun h2_ => by have o_ := HORD.out; have t_ := HT.out; (try simp only [In2, Up, In, Ex, Exb] at h2_); omega))
  have n4_ := aD.mk (aV BK2.out hkp (fun h2_ => by have o_ := HORD.out; have t_ := HT.out; (try simp only [In2, Up, In, Ex, Exb] at h2_); omega))
  have n5_ := aD.mk (aV BK3.out hkp (fun h2_ => by have o_ := HORD.out; have t_ := HT.out; (try simp only [In2, Up, In, Ex, Exb] at h2_); omega))
  have n6_ := aD.mk (hbn_)
  have n7_ := aD.mk (And.intro HORD.out ol_)
  have n8_ := aD.mk (Nat.le_of_eq e2_)
  have n9_ := aD.mk (hs_)
  have n10_ := aD.mk (Kd.S_F hs_)
  have n11_ := aD.mk ((Kd.S_reads' hs_).2.1)
  (try clear HF0_0)
  (try clear HF0_1)
  (try clear HF6)
  (try clear BK1)
  (try clear BK2)
  (try clear BK3)
  (try clear HB)
  (try clear HORD)
  (try clear HT)
  (try clear HS11)
  (try clear HF11)
  (try clear HC11)
  have HF0_0 := n0_
  have HF0_1 := n1_
  have HF6 := n2_
  have BK1 := n3_
  have BK2 := n4_
  have BK3 := n5_
  have HB := n6_
  have HORD := n7_
  have HT := n8_
  have HS11 := n9_
  have HF11 := n10_
  have HC11 := n11_
  clear n0_ n1_ n2_ n3_ n4_ n5_ n6_ n7_ n8_ n9_ n10_ n11_
  clear hs_ ho_ hbn_ hg_ hat_ hkp ol_ e2_
  refine hK.out _ _ ⟨(aC BK3.out 0).trans rfl, (aC BK3.out 1).trans rfl, (aC BK3.out 2).trans rfl, (aC BK3.out 3).trans rfl⟩ (fun hHeld => ?_)
  clear hK K
  refine norm_ (a' := ?_) ?_ ?_
  rotate_left
  ·show Act.put _ (some 26) _ = _
   simp only [Act.put, lA, lB, lC, aW, aX]
   rfl
  refine bF (i := 7) (N := some 27) (v := ?_) (a' := ?_) #[true, true, true, true, true, true, true, true, false] rfl rfl (by kernel_rfl) (fun _ _ _ h => h) (Or.inl ⟨by rfl, ?_⟩) ?_ ?_
  rotate_left
  ·intro w'
   go_simp
   with_reducible rfl
  rotate_left
  ·simp only [Act.put, lA, lB, lC, aW, aX]
   rfl
  refine last_ (i := 8) (N := none) #[true, true, true, true, true, true, true, true, true] rfl rfl (by kernel_rfl) (by decide) (fun K hK => ?_)
  have hzgb1_0_12 : w11.cell? ⟨gb1, 0, none⟩ = some (.slice (some ad6) l0_0.length c0_0) := (aC BK1.out 0).trans rfl
  have hygb1_0_12 := aA BK1.out 0
  have hzgb1_1_12 : w11.cell? ⟨gb1, 1, none⟩ = some (.slice A0_1 l0_1.length c0_1) := (aC BK1.out 1).trans rfl
  have hygb1_1_12 := aA BK1.out 1
  have hzgb1_2_12 : w11.cell? ⟨gb1, 2, none⟩ = some (.int .i64 a0_2) := (aC BK1.out 2).trans rfl
  have hygb1_2_12 := aA BK1.out 2
  have hzgb1_3_12 : w11.cell? ⟨gb1, 3, none⟩ = some (.bool a0_3) := (aC BK1.out 3).trans rfl
  have hygb1_3_12 := aA BK1.out 3
  have hzgb2_0_12 : w11.cell? ⟨gb2, 0, none⟩ = some (.slice none 0 0) := (aC BK2.out 0).trans rfl
  have hygb2_0_12 := aA BK2.out 0
  have hzgb2_1_12 : w11.cell? ⟨gb2, 1, none⟩ = some (.slice none 0 0) := (aC BK2.out 1).trans rfl
  have hygb2_1_12 := aA BK2.out 1
  have hzgb2_2_12 : w11.cell? ⟨gb2, 2, none⟩ = some (.int .i64 0) := (aC BK2.out 2).trans rfl
  have hygb2_2_12 := aA BK2.out 2
  have hzgb2_3_12 : w11.cell? ⟨gb2, 3, none⟩ = some (.bool false) := (aC BK2.out 3).trans rfl
  have hygb2_3_12 := aA BK2.out 3
  have hzgb3_0_12 : w11.cell? ⟨gb3, 0, none⟩ = some (.slice A5 xs5.length c5) := (aC BK3.out 0).trans rfl
  have hygb3_0_12 := aA BK3.out 0
  have hzgb3_1_12 : w11.cell? ⟨gb3, 1, none⟩ = some (.slice none 0 0) := (aC BK3.out 1).trans rfl
  have hygb3_1_12 := aA BK3.out 1
  have hzgb3_2_12 : w11.cell? ⟨gb3, 2, none⟩ = some (.int .i64 a0_2) := (aC BK3.out 2).trans rfl
  have hygb3_2_12 := aA BK3.out 2
  have hzgb3_3_12 : w11.cell? ⟨gb3, 3, none⟩ = some (.bool a0_3) := (aC BK3.out 3).trans rfl
  have hygb3_3_12 := aA BK3.out 3
  have hge_ : w.heap.size ≤ gb3 := (by have o_ := HORD.out; omega)
  refine skip_ (w1 := ?_) (by rfl) rfl ?_ ?_
  rotate_left
  ·go_simp
   rfl
  refine hK.out _ _ ?_
  clear hK K
  refine done_ (by kernel_rfl) ?_
  obtain ⟨w12, hw_⟩ : ∃ z_, z_ = (w11.setCell ⟨gb3, 0, none⟩ (.slice A11 ys11.length c11)) := ⟨_, rfl⟩
  (try rw [← hw_])
  have hkp : Kept w11 w12 (fun k_ => k_ = gb3) := (by rw [hw_]; exact Kept.setCell (Kept.refl w11 (fun k_ => k_ = gb3)) (.inl rfl) (.slice A11 ys11.length c11))
  have hbn_ : Below w.heap.size w w12 := (by rw [hw_]; exact aG (HB.out) hge_)
  have hbk_ : w12.heap[gb3]? = some (.cells #[.slice A11 ys11.length c11, .slice none 0 0, .int .i64 a0_2, .bool a0_3] 25 (0, 0)) := (by rw [hw_]; exact aT (cs := #[.slice A5 xs5.length c5, .slice none 0 0, .int .i64 a0_2, .bool a0_3]) (cs' := #[.slice A11 ys11.length c11, .slice none 0 0, .int .i64 a0_2, .bool a0_3]) (BK3.out) 0 _ rfl)
  have hsz_ : hi11 ≤ w12.heap.size := Nat.le_trans HT.out hkp.1
  have n0_ := aD.mk (Kd.aU HF0_0.out hkp (fun k_ h1_ h2_ => by have o_ := HORD.out; have t_ := HT.out; (try simp only [In2, Up, In, Ex, Exb] at h1_ h2_); omega))
  have n1_ := aD.mk (Kd.aU HF0_1.out hkp (fun k_ h1_ h2_ => by have o_ := HORD.out; have t_ := HT.out; (try simp only [In2, Up, In, Ex, Exb] at h1_ h2_); omega))
  have n2_ := aD.mk (Kd.aU HF6.out hkp (fun k_ h1_ h2_ => by have o_ := HORD.out; have t_ := HT.out; (try simp only [In2, Up, In, Ex, Exb] at h1_ h2_); omega))
  have n3_ := aD.mk (Kd.aU HF11.out hkp (fun k_ h1_ h2_ => by have o_ := HORD.out; have t_ := HT.out; (try simp only [In2, Up, In, Ex, Exb] at h1_ h2_); omega))
  have n4_ := aD.mk (Kd.bN HS11.out hkp (fun k_ h1_ h2_ => by have o_ := HORD.out; have t_ := HT.out; (try simp only [In2, Up, In, Ex, Exb] at h1_ h2_); omega))
  have n5_ := aD.mk (aV BK1.out hkp (fun h2_ => by have o_ := HORD.out; have t_ := HT.out; (try simp only [In2, Up, In, Ex, Exb] at h2_); omega))
  have n6_ := aD.mk (aV BK2.out hkp (fun h2_ => by have o_ := HORD.out; have t_ := HT.out; (try simp only [In2, Up, In, Ex, Exb] at h2_); omega))
  have n7_ := aD.mk (hbn_)
  have n8_ := aD.mk (hbk_)
  have n9_ := aD.mk (hsz_)
  (try clear HF0_0)
  (try clear HF0_1)
  (try clear HF6)
  (try clear HF11)
  (try clear HS11)
  (try clear BK1)
  (try clear BK2)
  (try clear HB)
  (try clear BK3)
  (try clear HT)
  have HF0_0 := n0_
  have HF0_1 := n1_
  have HF6 := n2_
  have HF11 := n3_
  have HS11 := n4_
  have BK1 := n5_
  have BK2 := n6_
  have HB := n7_
  have BK3 := n8_
  have HT := n9_
  clear n0_ n1_ n2_ n3_ n4_ n5_ n6_ n7_ n8_ n9_
  clear hw_ hkp hge_ hbn_ hbk_ hsz_
  have hzgb1_0_12 : w12.cell? ⟨gb1, 0, none⟩ = some (.slice (some ad6) l0_0.length c0_0) := (aC BK1.out 0).trans rfl
  have hygb1_0_12 := aA BK1.out 0
  have hzgb1_1_12 : w12.cell? ⟨gb1, 1, none⟩ = some (.slice A0_1 l0_1.length c0_1) := (aC BK1.out 1).trans rfl
  have hygb1_1_12 := aA BK1.out 1
  have hzgb1_2_12 : w12.cell? ⟨gb1, 2, none⟩ = some (.int .i64 a0_2) := (aC BK1.out 2).trans rfl
  have hygb1_2_12 := aA BK1.out 2
  have hzgb1_3_12 : w12.cell? ⟨gb1, 3, none⟩ = some (.bool a0_3) := (aC BK1.out 3).trans rfl
  have hygb1_3_12 := aA BK1.out 3
  have hzgb2_0_12 : w12.cell? ⟨gb2, 0, none⟩ = some (.slice none 0 0) := (aC BK2.out 0).trans rfl
  have hygb2_0_12 := aA BK2.out 0
  have hzgb2_1_12 : w12.cell? ⟨gb2, 1, none⟩ = some (.slice none 0 0) := (aC BK2.out 1).trans rfl
  have hygb2_1_12 := aA BK2.out 1
  have hzgb2_2_12 : w12.cell? ⟨gb2, 2, none⟩ = some (.int .i64 0) := (aC BK2.out 2).trans rfl
  have hygb2_2_12 := aA BK2.out 2
  have hzgb2_3_12 : w12.cell? ⟨gb2, 3, none⟩ = some (.bool false) := (aC BK2.out 3).trans rfl
  have hygb2_3_12 := aA BK2.out 3
  have hzgb3_0_12 : w12.cell? ⟨gb3, 0, none⟩ = some (.slice A11 ys11.length c11) := (aC BK3.out 0).trans rfl
  have hygb3_0_12 := aA BK3.out 0
  have hzgb3_1_12 : w12.cell? ⟨gb3, 1, none⟩ = some (.slice none 0 0) := (aC BK3.out 1).trans rfl
  have hygb3_1_12 := aA BK3.out 1
  have hzgb3_2_12 : w12.cell? ⟨gb3, 2, none⟩ = some (.int .i64 a0_2) := (aC BK3.out 2).trans rfl
  have hygb3_2_12 := aA BK3.out 2
  have hzgb3_3_12 : w12.cell? ⟨gb3, 3, none⟩ = some (.bool a0_3) := (aC BK3.out 3).trans rfl
  have hygb3_3_12 := aA BK3.out 3
  try go_wp2
  go_roundg k1
  case measure => omega
  case rel => exact ⟨i5 + 1, _, _, rfl, ⟨show _ = ((i5 + 1 : Nat) : Int) by have := HI5.out; have hm_ := Kd.F_max HF0_0.out; have := HK5.out; first | (rw [w64 (by omega) (by omega)]; omega) | omega⟩, ⟨by have := HK5.out; omega⟩, ⟨Nat.le_trans (by have o_ := HORD.out; omega) HT.out⟩, ⟨by rw [show l0_0.take (i5 + 1) = ys11 from (by rw [HY11.out, HX5.out]; unfold rdR; rw [show x5.toNat = i5 from by have := HI5.out; omega]; exact take_getD _ _ [] (by have := HK5.out; omega))]; exact Kd.bP (Kd.bQ HS11.out (by have o_ := HORD.out; omega)) (fun k_ hk_ => by have o_ := HORD.out; have t_ := HT.out; (try simp only [In2, Up, In, Ex, Exb] at hk_ ⊢); omega)⟩, HF0_0, HF0_1, BK1, BK2, BK3, HB⟩
 have hi0_ : i5 = l0_0.length := (by have := HK5.out; omega)
 have hd_ : decide (x5 < (l0_0.length : Int)) = false := decide_eq_false (by have := HI5.out; omega)
 have eall_ : xs5 = l0_0 := (by rw [HX5.out, hi0_, List.take_length])
 rw [eall_] at HS5 HF5 HC5 BK3
 have hzgb1_0_12 : wr.cell? ⟨gb1, 0, none⟩ = some (.slice A0_0 l0_0.length c0_0) := (aC BK1.out 0).trans rfl
 have hygb1_0_12 := aA BK1.out 0
 have hzgb1_1_12 : wr.cell? ⟨gb1, 1, none⟩ = some (.slice A0_1 l0_1.length c0_1) := (aC BK1.out 1).trans rfl
 have hygb1_1_12 := aA BK1.out 1
 have hzgb1_2_12 : wr.cell? ⟨gb1, 2, none⟩ = some (.int .i64 a0_2) := (aC BK1.out 2).trans rfl
 have hygb1_2_12 := aA BK1.out 2
 have hzgb1_3_12 : wr.cell? ⟨gb1, 3, none⟩ = some (.bool a0_3) := (aC BK1.out 3).trans rfl
 have hygb1_3_12 := aA BK1.out 3
 have hzgb2_0_12 : wr.cell? ⟨gb2, 0, none⟩ = some (.slice none 0 0) := (aC BK2.out 0).trans rfl
 have hygb2_0_12 := aA BK2.out 0
 have hzgb2_1_12 : wr.cell? ⟨gb2, 1, none⟩ = some (.slice none 0 0) := (aC BK2.out 1).trans rfl
 have hygb2_1_12 := aA BK2.out 1
 have hzgb2_2_12 : wr.cell? ⟨gb2, 2, none⟩ = some (.int .i64 0) := (aC BK2.out 2).trans rfl
 have hygb2_2_12 := aA BK2.out 2
 have hzgb2_3_12 : wr.cell? ⟨gb2, 3, none⟩ = some (.bool false) := (aC BK2.out 3).trans rfl
 have hygb2_3_12 := aA BK2.out 3
 have hzgb3_0_12 : wr.cell? ⟨gb3, 0, none⟩ = some (.slice A5 l0_0.length c5) := (aC BK3.out 0).trans rfl
 have hygb3_0_12 := aA BK3.out 0
 have hzgb3_1_12 : wr.cell? ⟨gb3, 1, none⟩ = some (.slice none 0 0) := (aC BK3.out 1).trans rfl
 have hygb3_1_12 := aA BK3.out 1
 have hzgb3_2_12 : wr.cell? ⟨gb3, 2, none⟩ = some (.int .i64 a0_2) := (aC BK3.out 2).trans rfl
 have hygb3_2_12 := aA BK3.out 2
 have hzgb3_3_12 : wr.cell? ⟨gb3, 3, none⟩ = some (.bool a0_3) := (aC BK3.out 3).trans rfl
 have hygb3_3_12 := aA BK3.out 3
 try go_wp2
 go_loopg [32] (l0_1.length) (fun kq  v13 w' => ∃ (i13 : Nat) (x13 : Int) (u13 : Value), v13 = .int .i64 x13 ∧ aD (x13 = (i13 : Int)) ∧ aD (i13 + kq = l0_1.length) ∧ aD (hi5 ≤ w'.heap.size) ∧ aD (Kd.S k50 50 w' w.heap.size (Up 0 0 hi5) u13 (l0_1.take i13)) ∧ aD (Kd.F (Kd.slice 5 (Kd.int .u8)) w' (In 0 w.heap.size) A0_0 l0_0.length l0_0) ∧ aD (Kd.F k50 w' (In 0 w.heap.size) A0_1 l0_1.length l0_1) ∧ aD (Kd.F (Kd.slice 5 (Kd.int .u8)) w' (In2 0 0 (gb3 + 1) hi5) A5 l0_0.length l0_0) ∧ aD (Kd.S (Kd.slice 5 (Kd.int .u8)) 37 w' w.heap.size (In2 0 0 (gb3 + 1) hi5) (.slice A5 l0_0.length c5) l0_0) ∧ aD (w'.heap[gb1]? = some (.cells #[.slice A0_0 l0_0.length c0_0, .slice A0_1 l0_1.length c0_1, .int .i64 a0_2, .bool a0_3] 25 (0, 0))) ∧ aD (w'.heap[gb2]? = some (.cells #[.slice none 0 0, .slice none 0 0, .int .i64 0, .bool false] 25 (0, 0))) ∧ aD (w'.heap[gb3]? = some (.cells #[.slice A5 l0_0.length c5, u13, .int .i64 a0_2, .bool a0_3] 25 (0, 0))) ∧ aD (Below w.heap.size w w'))
 case atStart => exact ⟨0, 0, _, rfl, ⟨rfl⟩, ⟨Nat.zero_add _⟩, HT, ⟨by rw [show l0_1.take 0 = [] from rfl]; exact Kd.S_nil _ _ _ _ _⟩, HF0_0, HF0_1, HF5, HS5, BK1, BK2, BK3, HB⟩
 clear HF0_0 HF0_1 HF5 HS5 BK1 BK2 BK3 HB HT
 obtain ⟨i13, x13, u13, rfl, HI13, HK13, HT, HS13, HF0_0, HF0_1, HF5, HS5, BK1, BK2, BK3, HB⟩ := hrel
 obtain ⟨xs13, ex_⟩ : ∃ y_, y_ = l0_1.take i13 := ⟨_, rfl⟩
 rw [← ex_] at HS13
 have HX13 := aD.mk ex_
 clear ex_
 obtain ⟨A13, c13, ev_⟩ := Kd.S_slice HS13.out
 subst ev_
 obtain ⟨hi13, e2_⟩ : ∃ n_, n_ = wr.heap.size := ⟨_, rfl⟩
 have ol_ : hi5 ≤ hi13 := (by rw [e2_]; exact HT.out)
 have hs_ := Kd.bP (ok' := In2 0 0 hi5 hi13) (Kd.S_bound HS13.out) (fun k_ hk_ => by have h1_ := hk_.1; have h2_ := hk_.2.2.1; rw [← e2_] at h2_; (try simp only [In2, Up, In, Ex, Exb] at h1_ ⊢); omega)
 have n0_ := aD.mk (And.intro HORD.out ol_)
 have n1_ := aD.mk (Nat.le_of_eq e2_)
 clear HS13 HORD HT
 have HORD := n0_
 have HT := n1_
 have HS13 := aD.mk hs_
 have HF13 := aD.mk (Kd.S_F hs_)
 have HC13 := aD.mk (Kd.S_reads' hs_).2.1
 clear n0_ n1_ hs_ ol_ e2_
 rcases gk with _ | k1
 rotate_left
 ·have hp_ : 0 ≤ x13 := (by have := HI13.out; omega)
  have hq_ : x13 < (l0_1.length : Int) := (by have := HI13.out; have := HK13.out; omega)
  have hd_ : decide (x13 < (l0_1.length : Int)) = true := decide_eq_true hq_
  have hzgb1_0_13 : wr.cell? ⟨gb1, 0, none⟩ = some (.slice A0_0 l0_0.length c0_0) := (aC BK1.out 0).trans rfl
  have hygb1_0_13 := aA BK1.out 0
  have hzgb1_1_13 : wr.cell? ⟨gb1, 1, none⟩ = some (.slice A0_1 l0_1.length c0_1) := (aC BK1.out 1).trans rfl
  have hygb1_1_13 := aA BK1.out 1
  have hzgb1_2_13 : wr.cell? ⟨gb1, 2, none⟩ = some (.int .i64 a0_2) := (aC BK1.out 2).trans rfl
  have hygb1_2_13 := aA BK1.out 2
  have hzgb1_3_13 : wr.cell? ⟨gb1, 3, none⟩ = some (.bool a0_3) := (aC BK1.out 3).trans rfl
  have hygb1_3_13 := aA BK1.out 3
  have hzgb2_0_13 : wr.cell? ⟨gb2, 0, none⟩ = some (.slice none 0 0) := (aC BK2.out 0).trans rfl
  have hygb2_0_13 := aA BK2.out 0
  have hzgb2_1_13 : wr.cell? ⟨gb2, 1, none⟩ = some (.slice none 0 0) := (aC BK2.out 1).trans rfl
  have hygb2_1_13 := aA BK2.out 1
  have hzgb2_2_13 : wr.cell? ⟨gb2, 2, none⟩ = some (.int .i64 0) := (aC BK2.out 2).trans rfl
  have hygb2_2_13 := aA BK2.out 2
  have hzgb2_3_13 : wr.cell? ⟨gb2, 3, none⟩ = some (.bool false) := (aC BK2.out 3).trans rfl
  have hygb2_3_13 := aA BK2.out 3
  have hzgb3_0_13 : wr.cell? ⟨gb3, 0, none⟩ = some (.slice A5 l0_0.length c5) := (aC BK3.out 0).trans rfl
  have hygb3_0_13 := aA BK3.out 0
  have hzgb3_1_13 : wr.cell? ⟨gb3, 1, none⟩ = some (.slice A13 xs13.length c13) := (aC BK3.out 1).trans rfl
  have hygb3_1_13 := aA BK3.out 1
  have hzgb3_2_13 : wr.cell? ⟨gb3, 2, none⟩ = some (.int .i64 a0_2) := (aC BK3.out 2).trans rfl
  have hygb3_2_13 := aA BK3.out 2
  have hzgb3_3_13 : wr.cell? ⟨gb3, 3, none⟩ = some (.bool a0_3) := (aC BK3.out 3).trans rfl
  have hygb3_3_13 := aA BK3.out 3
  obtain ⟨ad14, Ae14, ce14, ee14, hx14_0, hx14_1, hl14, hf14⟩ := F_wr HF0_1.out x13 hp_ hq_
  cases ee14
  have HF14 := aD.mk hf14
  have HC14 := aD.mk hl14
  clear hf14 hl14
  go_wp2_with (first | ((with_reducible refine bE (N := 7) rfl ?_); refine bD ?hg (N := 7) ?hd (cs := #[.int .i64 0, .slice none 0 0]) (t := 50) ?hr ?_; (case hd => rfl); (case hg => rfl); (case hr => first | (go_simp; done) | (go_simp; rfl)); intro gb15 hg_ w15 hbox hb; have hge_ : hi13 ≤ gb15 := (by rw [hg_]; exact HT.out); have hlt_ : gb15 + 1 ≤ w15.heap.size := bJ hbox; have n0_ := aD.mk (Kd.aE HF0_0.out hb); have n1_ := aD.mk (Kd.aE HF0_1.out hb); have n2_ := aD.mk (Kd.aE HF5.out hb); have n3_ := aD.mk (Kd.bC HS5.out hb); have n4_ := aD.mk (Kd.aE HF13.out hb); have n5_ := aD.mk (Kd.bC HS13.out hb); have n6_ := aD.mk (Kd.aE HF14.out hb); have n7_ := aD.mk (aH BK1.out hb); have n8_ := aD.mk (aH BK2.out hb); have n9_ := aD.mk (aH BK3.out hb); have n10_ := aD.mk (aQ HB.out hb); have n11_ := aD.mk (hbox); have n12_ := aD.mk (And.intro HORD.out (And.intro hge_ (Nat.le_succ gb15))); have n13_ := aD.mk (hlt_); (try clear HF0_0); (try clear HF0_1); (try clear HF5); (try clear HS5); (try clear HF13); (try clear HS13); (try clear HF14); (try clear BK1); (try clear BK2); (try clear BK3); (try clear HB); (try clear BK15); (try clear HORD); (try clear HT); have HF0_0 := n0_; have HF0_1 := n1_; have HF5 := n2_; have HS5 := n3_; have HF13 := n4_; have HS13 := n5_; have HF14 := n6_; have BK1 := n7_; have BK2 := n8_; have BK3 := n9_; have HB := n10_; have BK15 := n11_; have HORD := n12_; have HT := n13_; clear n0_ n1_ n2_ n3_ n4_ n5_ n6_ n7_ n8_ n9_ n10_ n11_ n12_ n13_; clear hb hbox hg_ hge_ hlt_; have hzgb1_0_15 : w15.cell? ⟨gb1, 0, none⟩ = some (.slice A0_0 l0_0.length c0_0) := (aC BK1.out 0).trans rfl; have hygb1_0_15 := aA BK1.out 0; have hzgb1_1_15 : w15.cell? ⟨gb1, 1, none⟩ = some (.slice (some ad14) l0_1.length c0_1) := (aC BK1.out 1).trans rfl; have hygb1_1_15 := aA BK1.out 1; have hzgb1_2_15 : w15.cell? ⟨gb1, 2, none⟩ = some (.int .i64 a0_2) := (aC BK1.out 2).trans rfl; have hygb1_2_15 := aA BK1.out 2; have hzgb1_3_15 : w15.cell? ⟨gb1, 3, none⟩ = some (.bool a0_3) := (aC BK1.out 3).trans rfl; have hygb1_3_15 := aA BK1.out 3; have hzgb2_0_15 : w15.cell? ⟨gb2, 0, none⟩ = some (.slice none 0 0) := (aC BK2.out 0).trans rfl; have hygb2_0_15 := aA BK2.out 0; have hzgb2_1_15 : w15.cell? ⟨gb2, 1, none⟩ = some (.slice none 0 0) := (aC BK2.out 1).trans rfl; have hygb2_1_15 := aA BK2.out 1; have hzgb2_2_15 : w15.cell? ⟨gb2, 2, none⟩ = some (.int .i64 0) := (aC BK2.out 2).trans rfl; have hygb2_2_15 := aA BK2.out 2; have hzgb2_3_15 : w15.cell? ⟨gb2, 3, none⟩ = some (.bool false) := (aC BK2.out 3).trans rfl; have hygb2_3_15 := aA BK2.out 3; have hzgb3_0_15 : w15.cell? ⟨gb3, 0, none⟩ = some (.slice A5 l0_0.length c5) := (aC BK3.out 0).trans rfl; have hygb3_0_15 := aA BK3.out 0; have hzgb3_1_15 : w15.cell? ⟨gb3, 1, none⟩ = some (.slice A13 xs13.length c13) := (aC BK3.out 1).trans rfl; have hygb3_1_15 := aA BK3.out 1; have hzgb3_2_15 : w15.cell? ⟨gb3, 2, none⟩ = some (.int .i64 a0_2) := (aC BK3.out 2).trans rfl; have hygb3_2_15 := aA BK3.out 2; have hzgb3_3_15 : w15.cell? ⟨gb3, 3, none⟩ = some (.bool a0_3) := (aC BK3.out 3).trans rfl; have hygb3_3_15 := aA BK3.out 3; have hzgb15_0_15 : w15.cell? ⟨gb15, 0, none⟩ = some (.int .i64 0) := (aC BK15.out 0).trans rfl; have hygb15_0_15 := aA BK15.out 0; have hzgb15_1_15 : w15.cell? ⟨gb15, 1, none⟩ = some (.slice none 0 0) := (aC BK15.out 1).trans rfl; have hygb15_1_15 := aA BK15.out 1) | ((with_reducible refine bK (t := 50) (p := 7) rfl ?_); refine bG (t := 50) (p := 7) (v := ?vo_w16) (w1 := ((w15.setCell ⟨gb15, 0, none⟩ (.int .i64 ((rdW l0_1 x13).f0))).setCell ⟨gb15, 1, none⟩ (.slice Ae14 ((rdW l0_1 x13).f1).length ce14))) ?hg ?ho ?hn ?hr ?_; (case ho => rfl); (case hg => rfl); (case hn => rfl); (case hr => first | (go_simp; done) | (go_simp; rfl)); intro w16 hw_; have hkp : Kept w15 w16 (fun k_ => k_ = gb15) := (by rw [hw_]; exact Kept.setCell (Kept.setCell (Kept.refl w15 (fun k_ => k_ = gb15)) (.inl rfl) (.int .i64 ((rdW l0_1 x13).f0))) (.inl rfl) (.slice Ae14 ((rdW l0_1 x13).f1).length ce14)); have hge_ : w.heap.size ≤ gb15 := (by have o_ := HORD.out; (try unfold In at *); (try show _ ≠ _); omega); have hbn_ : Below w.heap.size w w16 := (by rw [hw_]; exact aG (aG (HB.out) hge_) hge_); have hbk_ : w16.heap[gb15]? = some (.cells #[.int .i64 ((rdW l0_1 x13).f0), .slice Ae14 ((rdW l0_1 x13).f1).length ce14] 50 (0, 0)) := (by rw [hw_]; exact aT (cs := #[.int .i64 ((rdW l0_1 x13).f0), .slice none 0 0]) (cs' := #[.int .i64 ((rdW l0_1 x13).f0), .slice Ae14 ((rdW l0_1 x13).f1).length ce14]) (aT (cs := #[.int .i64 0, .slice none 0 0]) (cs' := #[.int .i64 ((rdW l0_1 x13).f0), .slice none 0 0]) (BK15.out) 0 _ rfl) 1 _ rfl); have hsz_ : (gb15 + 1) ≤ w16.heap.size := Nat.le_trans HT.out hkp.1; have n0_ := aD.mk (Kd.aU HF0_0.out hkp (fun k_ h1_ h2_ => by have o_ := HORD.out; have t_ := HT.out; (try simp only [In2, Up, In, Ex, Exb] at h1_ h2_); omega)); have n1_ := aD.mk (Kd.aU HF0_1.out hkp (fun k_ h1_ h2_ => by have o_ := HORD.out; have t_ := HT.out; (try simp only [In2, Up, In, Ex, Exb] at h1_ h2_); omega)); have n2_ := aD.mk (Kd.aU HF5.out hkp (fun k_ h1_ h2_ => by have o_ := HORD.out; have t_ := HT.out; (try simp only [In2, Up, In, Ex, Exb] at h1_ h2_); omega)); have n3_ := aD.mk (Kd.bN HS5.out hkp (fun k_ h1_ h2_ => by have o_ := HORD.out; have t_ := HT.out; (try simp only [In2, Up, In, Ex, Exb] at h1_ h2_); omega)); have n4_ := aD.mk (Kd.aU HF13.out hkp (fun k_ h1_ h2_ => by have o_ := HORD.out; have t_ := HT.out; (try simp only [In2, Up, In, Ex, Exb] at h1_ h2_); omega)); have n5_ := aD.mk (Kd.bN HS13.out hkp (fun k_ h1_ h2_ => by have o_ := HORD.out; have t_ := HT.out; (try simp only [In2, Up, In, Ex, Exb] at h1_ h2_); omega)); have n6_ := aD.mk (Kd.aU HF14.out hkp (fun k_ h1_ h2_ => by have o_ := HORD.out; have t_ := HT.out; (try simp only [In2, Up, In, Ex, Exb] at h1_ h2_); omega)); have n7_ := aD.mk (aV BK1.out hkp (fun h2_ => by have o_ := HORD.out; have t_ := HT.out; (try simp only [In2, Up, In, Ex, Exb] at h2_); omega)); have n8_ := aD.mk (aV BK2.out hkp (fun h2_ => by have o_ := HORD.out; have t_ := HT.out; (try simp only [In2, Up, In, Ex, Exb] at h2_); omega)); have n9_ := aD.mk (aV BK3.out hkp (fun h2_ => by have o_ := HORD.out; have t_ := HT.out; (try simp only [In2, Up, In, Ex, Exb] at h2_); omega)); have n10_ := aD.mk (hbn_); have n11_ := aD.mk (hbk_); have n12_ := aD.mk (hsz_); (try clear HF0_0); (try clear HF0_1); (try clear HF5); (try clear HS5); (try clear HF13); (try clear HS13); (try clear HF14); (try clear BK1); (try clear BK2); (try clear BK3); (try clear HB); (try clear BK15); (try clear HT); have HF0_0 := n0_; have HF0_1 := n1_; have HF5 := n2_; have HS5 := n3_; have HF13 := n4_; have HS13 := n5_; have HF14 := n6_; have BK1 := n7_; have BK2 := n8_; have BK3 := n9_; have HB := n10_; have BK15 := n11_; have HT := n12_; clear n0_ n1_ n2_ n3_ n4_ n5_ n6_ n7_ n8_ n9_ n10_ n11_ n12_; clear hw_ hkp hge_ hbn_ hbk_ hsz_; have hzgb1_0_16 : w16.cell? ⟨gb1, 0, none⟩ = some (.slice A0_0 l0_0.length c0_0) := (aC BK1.out 0).trans rfl; have hygb1_0_16 := aA BK1.out 0; have hzgb1_1_16 : w16.cell? ⟨gb1, 1, none⟩ = some (.slice (some ad14) l0_1.length c0_1) := (aC BK1.out 1).trans rfl; have hygb1_1_16 := aA BK1.out 1; have hzgb1_2_16 : w16.cell? ⟨gb1, 2, none⟩ = some (.int .i64 a0_2) := (aC BK1.out 2).trans rfl; have hygb1_2_16 := aA BK1.out 2; have hzgb1_3_16 : w16.cell? ⟨gb1, 3, none⟩ = some (.bool a0_3) := (aC BK1.out 3).trans rfl; have hygb1_3_16 := aA BK1.out 3; have hzgb2_0_16 : w16.cell? ⟨gb2, 0, none⟩ = some (.slice none 0 0) := (aC BK2.out 0).trans rfl; have hygb2_0_16 := aA BK2.out 0; have hzgb2_1_16 : w16.cell? ⟨gb2, 1, none⟩ = some (.slice none 0 0) := (aC BK2.out 1).trans rfl; have hygb2_1_16 := aA BK2.out 1; have hzgb2_2_16 : w16.cell? ⟨gb2, 2, none⟩ = some (.int .i64 0) := (aC BK2.out 2).trans rfl; have hygb2_2_16 := aA BK2.out 2; have hzgb2_3_16 : w16.cell? ⟨gb2, 3, none⟩ = some (.bool false) := (aC BK2.out 3).trans rfl; have hygb2_3_16 := aA BK2.out 3; have hzgb3_0_16 : w16.cell? ⟨gb3, 0, none⟩ = some (.slice A5 l0_0.length c5) := (aC BK3.out 0).trans rfl; have hygb3_0_16 := aA BK3.out 0; have hzgb3_1_16 : w16.cell? ⟨gb3, 1, none⟩ = some (.slice A13 xs13.length c13) := (aC BK3.out 1).trans rfl; have hygb3_1_16 := aA BK3.out 1; have hzgb3_2_16 : w16.cell? ⟨gb3, 2, none⟩ = some (.int .i64 a0_2) := (aC BK3.out 2).trans rfl; have hygb3_2_16 := aA BK3.out 2; have hzgb3_3_16 : w16.cell? ⟨gb3, 3, none⟩ = some (.bool a0_3) := (aC BK3.out 3).trans rfl; have hygb3_3_16 := aA BK3.out 3; have hzgb15_0_16 : w16.cell? ⟨gb15, 0, none⟩ = some (.int .i64 ((rdW l0_1 x13).f0)) := (aC BK15.out 0).trans rfl; have hygb15_0_16 := aA BK15.out 0; have hzgb15_1_16 : w16.cell? ⟨gb15, 1, none⟩ = some (.slice Ae14 ((rdW l0_1 x13).f1).length ce14) := (aC BK15.out 1).trans rfl; have hygb15_1_16 := aA BK15.out 1))
  have n_ := aD.mk (Kd.F_drew HF0_0.out)
  clear HF0_0
  have HF0_0 := n_
  clear n_
  have n_ := aD.mk (Kd.F_drew HF0_1.out)
  clear HF0_1
  have HF0_1 := n_
  clear n_
  have n_ := aD.mk (Kd.F_drew HF5.out)
  clear HF5
  have HF5 := n_
  clear n_
  have n_ := aD.mk (Kd.S_drew HS5.out)
  clear HS5
  have HS5 := n_
  clear n_
  have n_ := aD.mk (Kd.F_drew HF13.out)
  clear HF13
  have HF13 := n_
  clear n_
  have n_ := aD.mk (Kd.S_drew HS13.out)
  clear HS13
  have HS13 := n_
  clear n_
  have n_ := aD.mk (Kd.F_drew HF14.out)
  clear HF14
  have HF14 := n_
  clear n_
  have n_ := aD.mk (bA BK1.out)
  clear BK1
  have BK1 := n_
  clear n_
  have n_ := aD.mk (bA BK2.out)
  clear BK2
  have BK2 := n_
  clear n_
  have n_ := aD.mk (bA BK3.out)
  clear BK3
  have BK3 := n_
  clear n_
  have n_ := aD.mk (bA BK15.out)
  clear BK15
  have BK15 := n_
  clear n_
  have n_ := aD.mk (aN HB.out)
  clear HB
  have HB := n_
  clear n_
  have n_ := aD.mk (show _ ≤ w16.drew.heap.size from HT.out)
  clear HT
  have HT := n_
  clear n_
  refine start_ (n := 13) (S := fun w' => w'.cell? ⟨gb3, 0, none⟩ = some (.slice A5 l0_0.length c5) ∧ w'.cell? ⟨gb3, 1, none⟩ = some (.slice A13 xs13.length c13) ∧ w'.cell? ⟨gb3, 2, none⟩ = some (.int .i64 a0_2) ∧ w'.cell? ⟨gb3, 3, none⟩ = some (.bool a0_3) ∧ w'.cell? ⟨gb15, 0, none⟩ = some (.int .i64 ((rdW l0_1 x13).f0)) ∧ w'.cell? ⟨gb15, 1, none⟩ = some (.slice Ae14 ((rdW l0_1 x13).f1).length ce14)) (ds := [12]) #[false, false, false, false, false, false, false, false, false, false, false, false, false] (by kernel_rfl) rfl rfl ⟨(aC BK3.out 0).trans rfl, (aC BK3.out 1).trans rfl, (aC BK3.out 2).trans rfl, (aC BK3.out 3).trans rfl, (aC BK15.out 0).trans rfl, (aC BK15.out 1).trans rfl⟩ (fun hHeld => ?_)
  generalize w16.drew = w17 at HF0_0 HF0_1 HF5 HS5 HF13 HS13 HF14 BK1 BK2 BK3 BK15 HB HT hHeld ⊢
  refine bF (i := 0) (N := some 36) (v := ?_) (a' := ?_) #[true, false, false, false, false, false, false, false, false, false, false, false, false] rfl rfl (by kernel_rfl) (fun _ _ _ h => h) (Or.inl ⟨by rfl, ?_⟩) ?_ ?_
  rotate_left
  ·intro w'
   go_simp
   with_reducible rfl
  rotate_left
  ·simp only [Act.put, lA, lB, lC, aW, aX]
   rfl
  refine take_ (i := 1) (N := some 37) (v := ?_) (a' := ?_) #[true, true, false, false, false, false, false, false, false, false, false, false, false] rfl rfl (by kernel_rfl) (fun _ _ _ h => h) (Or.inl ⟨by rfl, ?_⟩) hHeld ?_ ?_
  rotate_left
  ·rintro w' ⟨s0, s1, s2, s3, s4, s5⟩
   go_simp
   with_reducible rfl
  rotate_left
  ·simp only [Act.put, lA, lB, lC, aW, aX]
   rfl
  refine bF (i := 2) (N := some 38) (v := ?_) (a' := ?_) #[true, true, true, false, false, false, false, false, false, false, false, false, false] rfl rfl (by kernel_rfl) (fun _ _ _ h => h) (Or.inl ⟨by rfl, ?_⟩) ?_ ?_
  rotate_left
  ·intro w'
   go_simp
   with_reducible rfl
  rotate_left
  ·simp only [Act.put, lA, lB, lC, aW, aX]
   rfl
  refine take_ (i := 3) (N := some 39) (v := ?_) (a' := ?_) #[true, true, true, true, false, false, false, false, false, false, false, false, false] rfl rfl (by kernel_rfl) (fun _ _ _ h => h) (Or.inl ⟨by rfl, ?_⟩) hHeld ?_ ?_
  rotate_left
  ·rintro w' ⟨s0, s1, s2, s3, s4, s5⟩
   go_simp
   with_reducible rfl
  rotate_left
  ·simp only [Act.put, lA, lB, lC, aW, aX]
   rfl
  refine bF (i := 4) (N := some 40) (v := ?_) (a' := ?_) #[true, true, true, true, true, false, false, false, false, false, false, false, false] rfl rfl (by kernel_rfl) (fun _ _ _ h => h) (Or.inl ⟨by rfl, ?_⟩) ?_ ?_
  rotate_left
  ·intro w'
   go_simp
   with_reducible rfl
  rotate_left
  ·simp only [Act.put, lA, lB, lC, aW, aX]
   rfl
  refine take_ (i := 5) (N := some 41) (v := ?_) (a' := ?_) #[true, true, true, true, true, true, false, false, false, false, false, false, false] rfl rfl (by kernel_rfl) (fun _ _ _ h => h) (Or.inl ⟨by rfl, ?_⟩) hHeld ?_ ?_
  rotate_left
  ·rintro w' ⟨s0, s1, s2, s3, s4, s5⟩
   go_simp
   with_reducible rfl
  rotate_left
  ·simp only [Act.put, lA, lB, lC, aW, aX]
   rfl
  refine one_ (i := 6) (N := some 42) #[true, true, true, true, true, true, true, false, false, false, false, false, false] rfl rfl (by kernel_rfl) (by decide) (fun K hK => ?_)
  refine Kd.N_lit_step (Kd.slice 5 (Kd.int .u8)) _ 37 ?hg (N' := 42) ?hd (xs := ([(rdW l0_1 x13).f1] : List (List (Int)))) (inner := [.slice Ae14 ((rdW l0_1 x13).f1).length ce14]) (ok := (fun k_ => (In 0 w.heap.size) k_ ∨ (gb15 + 1) ≤ k_)) (okp := (In 0 w.heap.size)) ?hr ?hp (fun _ hk => .inl hk) (.inr HT.out) (Below.refl _ _) (Nat.le_refl _) (by simp) ?_
  (case hd => rfl)
  (case hg => rfl)
  (case hr => first | (go_simp; done) | (go_simp; rfl))
  (case hp => exact (Reps.one (Kd.FK_slice_mk HC14.out HF14.out) (Reps.none _ _)))
  intro vl18 w18 ho_ hb hg_ hat_
  obtain ⟨A18, c18, ev_⟩ := Kd.N_slice ho_
  subst ev_
  have n0_ := aD.mk (Kd.aE HF0_0.out hb)
  have n1_ := aD.mk (Kd.aE HF0_1.out hb)
  have n2_ := aD.mk (Kd.aE HF5.out hb)
  have n3_ := aD.mk (Kd.bC HS5.out hb)
  have n4_ := aD.mk (Kd.aE HF13.out hb)
  have n5_ := aD.mk (Kd.bC HS13.out hb)
  have n6_ := aD.mk (Kd.aE HF14.out hb)
  have n7_ := aD.mk (aH BK1.out hb)
  have n8_ := aD.mk (aH BK2.out hb)
  have n9_ := aD.mk (aH BK3.out hb)
  have n10_ := aD.mk (aH BK15.out hb)
  have n11_ := aD.mk (aQ HB.out hb)
  have n12_ := aD.mk (Nat.le_trans HT.out hb.size)
  have n13_ := aD.mk (Kd.N_F ho_)
  have n14_ := aD.mk ((Kd.N_reads' ho_).2.1)
  (try clear HF0_0)
  (try clear HF0_1)
  (try clear HF5)
  (try clear HS5)
  (try clear HF13)
  (try clear HS13)
  (try clear HF14)
  (try clear BK1)
  (try clear BK2)
  (try clear BK3)
  (try clear BK15)
  (try clear HB)
  (try clear HT)
  (try clear HF18)
  (try clear HC18)
  have HF0_0 := n0_
  have HF0_1 := n1_
  have HF5 := n2_
  have HS5 := n3_
  have HF13 := n4_
  have HS13 := n5_
  have HF14 := n6_
  have BK1 := n7_
  have BK2 := n8_
  have BK3 := n9_
  have BK15 := n10_
  have HB := n11_
  have HT := n12_
  have HF18 := n13_
  have HC18 := n14_
  clear n0_ n1_ n2_ n3_ n4_ n5_ n6_ n7_ n8_ n9_ n10_ n11_ n12_ n13_ n14_
  clear hb ho_ hg_ hat_
  refine hK.out _ _ ⟨(aC BK3.out 0).trans rfl, (aC BK3.out 1).trans rfl, (aC BK3.out 2).trans rfl, (aC BK3.out 3).trans rfl, (aC BK15.out 0).trans rfl, (aC BK15.out 1).trans rfl⟩ (fun hHeld => ?_)
  clear hK K
  refine norm_ (a' := ?_) ?_ ?_
  rotate_left
  ·show Act.put _ (some 42) _ = _
   simp only [Act.put, lA, lB, lC, aW, aX]
   rfl
  refine one_ (i := 7) (N := some 43) #[true, true, true, true, true, true, true, true, false, false, false, false, false] rfl rfl (by kernel_rfl) (by decide) (fun K hK => ?_)
  obtain ⟨kj20, hj_⟩ := joined1 ((rdW l0_1 x13).f1) (by first | exact getS_len hok0 _ | exact getW_len hok1 _)
  have J20 := aD.mk hj_
  clear hj_
  refine goes_ Try.func55 (by kernel_rfl) rfl #[.slice A18 (([(rdW l0_1 x13).f1] : List (List (Int)))).length c18] (by rfl) rfl rfl (by (try simp only [List.map_toArray, List.map_cons, List.map_nil]); first | done | rfl | (simp only [List.length_drop, List.length_take]; rfl)) ?_
  (with_reducible refine (impl_joined.calls kj20 _ _ (([(rdW l0_1 x13).f1] : List (List (Int)))) ((rdW l0_1 x13).f1) _ ?s1 ?s2 J20.out).mono ?_)
  (case s1 => exact (Kd.bH HF18.out))
  (case s2 => exact HC18.out)
  rintro e_ w19 ⟨v0_, rfl, ho0, hb⟩
  refine ⟨_, rfl, ?_⟩
  obtain ⟨lo19, hi19, el_, eh_, ol_, oh_⟩ := Mem.times HT.out hb
  (try rw [← el_] at ho0)
  obtain ⟨A19_0, c19_0, ev_, hc0_, hf0_, hs0_⟩ := Mem.new_R ho0 eh_
  subst ev_
  have n0_ := aD.mk (Kd.aE HF0_0.out hb)
  have n1_ := aD.mk (Kd.aE HF0_1.out hb)
  have n2_ := aD.mk (Kd.aE HF5.out hb)
  have n3_ := aD.mk (Kd.bC HS5.out hb)
  have n4_ := aD.mk (Kd.aE HF13.out hb)
  have n5_ := aD.mk (Kd.bC HS13.out hb)
  have n6_ := aD.mk (Kd.aE HF14.out hb)
  have n7_ := aD.mk (Kd.aE HF18.out hb)
  have n8_ := aD.mk (aH BK1.out hb)
  have n9_ := aD.mk (aH BK2.out hb)
  have n10_ := aD.mk (aH BK3.out hb)
  have n11_ := aD.mk (aH BK15.out hb)
  have n12_ := aD.mk (aQ HB.out hb)
  have n13_ := aD.mk (hf0_)
  have n14_ := aD.mk (hc0_)
  have n15_ := aD.mk (hs0_)
  have n16_ := aD.mk (And.intro HORD.out (And.intro ol_ oh_))
  have n17_ := aD.mk (Nat.le_of_eq eh_)
  (try clear HF0_0)
  (try clear HF0_1)
  (try clear HF5)
  (try clear HS5)
  (try clear HF13)
  (try clear HS13)
  (try clear HF14)
  (try clear HF18)
  (try clear BK1)
  (try clear BK2)
  (try clear BK3)
  (try clear BK15)
  (try clear HB)
  (try clear HF19_0)
  (try clear HC19_0)
  (try clear HS19_0)
  (try clear HORD)
  (try clear HT)
  have HF0_0 := n0_
  have HF0_1 := n1_
  have HF5 := n2_
  have HS5 := n3_
  have HF13 := n4_
  have HS13 := n5_
  have HF14 := n6_
  have HF18 := n7_
  have BK1 := n8_
  have BK2 := n9_
  have BK3 := n10_
  have BK15 := n11_
  have HB := n12_
  have HF19_0 := n13_
  have HC19_0 := n14_
  have HS19_0 := n15_
  have HORD := n16_
  have HT := n17_
  clear n0_ n1_ n2_ n3_ n4_ n5_ n6_ n7_ n8_ n9_ n10_ n11_ n12_ n13_ n14_ n15_ n16_ n17_
  clear ol_ oh_ el_ eh_ ho0 hf0_ hc0_ hs0_
  (try clear hb)
  refine hK.out _ _ ⟨(aC BK3.out 0).trans rfl, (aC BK3.out 1).trans rfl, (aC BK3.out 2).trans rfl, (aC BK3.out 3).trans rfl, (aC BK15.out 0).trans rfl, (aC BK15.out 1).trans rfl⟩ (fun hHeld => ?_)
  clear hK K
  refine norm_ (a' := ?_) ?_ ?_
  rotate_left
  ·show Act.put _ (some 43) _ = _
   simp only [Act.put, lA, lB, lC, aW, aX]
   rfl
  refine bF (i := 8) (N := some 44) (v := ?_) (a' := ?_) #[true, true, true, true, true, true, true, true, true, false, false, false, false] rfl rfl (by kernel_rfl) (fun _ _ _ h => h) (Or.inl ⟨by rfl, ?_⟩) ?_ ?_
  rotate_left
  ·intro w'
   go_simp
   with_reducible rfl
  rotate_left
  ·simp only [Act.put, lA, lB, lC, aW, aX]
   rfl
  refine one_ (i := 9) (N := some 45) #[true, true, true, true, true, true, true, true, true, true, false, false, false] rfl rfl (by kernel_rfl) (by decide) (fun K hK => ?_)
  refine value_ (w1 := ?_) (v := ?_) (by rfl) rfl ?_ ?_
  rotate_left 2
  ·go_simp
   constructor
   ·rfl
   ·rfl
  refine hK.out _ _ ⟨(aC (aZ BK3.out _) 0).trans rfl, (aC (aZ BK3.out _) 1).trans rfl, (aC (aZ BK3.out _) 2).trans rfl, (aC (aZ BK3.out _) 3).trans rfl, (aC (aZ BK15.out _) 0).trans rfl, (aC (aZ BK15.out _) 1).trans rfl⟩ (fun hHeld => ?_)
  clear hK K
  refine norm_ (a' := ?_) ?_ ?_
  rotate_left
  ·show Act.put _ (some 45) _ = _
   simp only [Act.put, lA, lB, lC, aW, aX]
   rfl
  refine one_ (i := 10) (N := some 46) #[true, true, true, true, true, true, true, true, true, true, true, false, false] rfl rfl (by kernel_rfl) (by decide) (fun K hK => ?_)
  refine Kd.S_append_step k50 (w0 := w) w.heap.size (by rfl) (.tmp 37) (.tmp 45) 23 50 (.agg #[.int .i64 0, .slice none 0 0]) 32 rfl Try.underlying23 info50 rfl (by decide) (by omega) (.slice A13 xs13.length c13) xs13 ((⟨(rdW l0_1 x13).f0, (rdW l0_1 x13).f1⟩ : S50)) [.int .i64 ((rdW l0_1 x13).f0), .slice A19_0 ((rdW l0_1 x13).f1).length c19_0] (Up 0 0 hi5) (In lo19 hi19) rfl rfl ?aP ?aK ?aF ?aO ?aB ?aS ?aL ?_
  (case aB => exact HB.out)
  (case aS => exact bM HB.out)
  (case aP => exact k50_mkM _ _ _ _ (Kd.R_lower HS19_0.out (by have o_ := HORD.out; have t_ := HT.out; (try simp only [In2, Up, In, Ex, Exb] at *); omega)))
  (case aK => exact (fun k_ hk_ => ⟨(by have o_ := HORD.out; have t_ := HT.out; (try simp only [In2, Up, In, Ex, Exb] at hk_ ⊢); omega), (fun he_ => by have hz_ := (Kd.S_R HS13.out).1 k_ he_.symm; have o_ := HORD.out; have t_ := HT.out; (try simp only [In2, Up, In, Ex, Exb] at hk_ hz_); omega)⟩))
  (case aF => exact (fun k_ hk_ => by have o_ := HORD.out; have t_ := HT.out; (try simp only [In2, Up, In, Ex, Exb] at hk_ ⊢); omega))
  (case aO => exact Kd.bP (Kd.bQ HS13.out (by have o_ := HORD.out; omega)) (fun k_ hk_ => ⟨(by have o_ := HORD.out; have t_ := HT.out; (try simp only [In2, Up, In, Ex, Exb] at hk_ ⊢); omega), (fun h2_ => by have o_ := HORD.out; have t_ := HT.out; (try simp only [In2, Up, In, Ex, Exb] at hk_ h2_); omega)⟩))
  (case aL => (have hl1_ := okWrS_len hok1; have h3_ := congrArg List.length HX13.out; rw [List.length_take] at h3_; omega))
  intro v21 w21 ho_ hbn_ hg_ hat_
  obtain ⟨ys21, ey_⟩ : ∃ y_, y_ = xs13 ++ [(⟨(rdW l0_1 x13).f0, (rdW l0_1 x13).f1⟩ : S50)] := ⟨_, rfl⟩
  rw [← ey_] at ho_
  have HY21 := aD.mk ey_
  clear ey_
  have hkp := kept_grown (S := (In2 0 0 hi5 hi13)) hg_ (fun k_ he_ => (Kd.S_R HS13.out).1 k_ he_)
  obtain ⟨A21, c21, ev_⟩ := Kd.S_slice ho_
  subst ev_
  obtain ⟨hi21, e2_⟩ : ∃ n_, n_ = w21.heap.size := ⟨_, rfl⟩
  have ol_ : hi19 ≤ hi21 := (by rw [e2_]; exact Nat.le_trans HT.out hkp.1)
  have hs_ := Kd.bP (ok' := In2 0 0 hi5 hi21) (Kd.S_bound ho_) (fun k_ hk_ => by have h1_ := hk_.1; have h2_ := hk_.2.2.1; rw [← e2_] at h2_; (try simp only [In2, Up, In, Ex, Exb] at h1_ ⊢); omega)
  have n0_ := aD.mk (Kd.aU HF0_0.out hkp (fun k_ h1_ h2_ => by have o_ := HORD.out; have t_ := HT.out; (try simp only [In2, Up, In, Ex, Exb] at h1_ h2_); omega))
  have n1_ := aD.mk (Kd.aU HF0_1.out hkp (fun k_ h1_ h2_ => by have o_ := HORD.out; have t_ := HT.out; (try simp only [In2, Up, In, Ex, Exb] at h1_ h2_); omega))
  have n2_ := aD.mk (Kd.aU HF5.out hkp (fun k_ h1_ h2_ => by have o_ := HORD.out; have t_ := HT.out; (try simp only [In2, Up, In, Ex, Exb] at h1_ h2_); omega))
  have n3_ := aD.mk (Kd.bN HS5.out hkp (fun k_ h1_ h2_ => by have o_ := HORD.out; have t_ := HT.out; (try simp only [In2, Up, In, Ex, Exb] at h1_ h2_); omega))
  have n4_ := aD.mk (Kd.aU HF14.out hkp (fun k_ h1_ h2_ => by have o_ := HORD.out; have t_ := HT.out; (try simp only [In2, Up, In, Ex, Exb] at h1_ h2_); omega))
  have n5_ := aD.mk (aV BK1.out hkp (fun h2_ => by have o_ := HORD.out; have t_ := HT.out; (try simp only [In2, Up, In, Ex, Exb] at h2_); omega))
  have n6_ := aD.mk (aV BK2.out hkp (fun h2_ => by have o_ := HORD.out; have t_ := HT.out; (try simp only [In2, Up, In, Ex, Exb] at h2_); omega))
  have n7_ := aD.mk (aV BK3.out hkp (fun h2_ => by have o_ := HORD.out; have t_ := HT.out; (try simp only [In2, Up, In, Ex, Exb] at h2_); omega))
  have n8_ := aD.mk (aV BK15.out hkp (fun h2_ => by have o_ := HORD.out; have t_ := HT.out; (try simp only [In2, Up, In, Ex, Exb] at h2_); omega))
  have n9_ := aD.mk (hbn_)
  have n10_ := aD.mk (And.intro HORD.out ol_)
  have n11_ := aD.mk (Nat.le_of_eq e2_)
  have n12_ := aD.mk (hs_)
  have n13_ := aD.mk (Kd.S_F hs_)
  have n14_ := aD.mk ((Kd.S_reads' hs_).2.1)
  (try clear HF0_0)
  (try clear HF0_1)
  (try clear HF5)
  (try clear HS5)
  (try clear HF14)
  (try clear BK1)
  (try clear BK2)
  (try clear BK3)
  (try clear BK15)
  (try clear HB)
  (try clear HORD)
  (try clear HT)
  (try clear HS21)
  (try clear HF21)
  (try clear HC21)
  have HF0_0 := n0_
  have HF0_1 := n1_
  have HF5 := n2_
  have HS5 := n3_
  have HF14 := n4_
  have BK1 := n5_
  have BK2 := n6_
  have BK3 := n7_
  have BK15 := n8_
  have HB := n9_
  have HORD := n10_
  have HT := n11_
  have HS21 := n12_
  have HF21 := n13_
  have HC21 := n14_
  clear n0_ n1_ n2_ n3_ n4_ n5_ n6_ n7_ n8_ n9_ n10_ n11_ n12_ n13_ n14_
  clear hs_ ho_ hbn_ hg_ hat_ hkp ol_ e2_
  refine hK.out _ _ ⟨(aC BK3.out 0).trans rfl, (aC BK3.out 1).trans rfl, (aC BK3.out 2).trans rfl, (aC BK3.out 3).trans rfl, (aC BK15.out 0).trans rfl, (aC BK15.out 1).trans rfl⟩ (fun hHeld => ?_)
  clear hK K
  refine norm_ (a' := ?_) ?_ ?_
  rotate_left
  ·show Act.put _ (some 46) _ = _
   simp only [Act.put, lA, lB, lC, aW, aX]
   rfl
  refine bF (i := 11) (N := some 47) (v := ?_) (a' := ?_) #[true, true, true, true, true, true, true, true, true, true, true, true, false] rfl rfl (by kernel_rfl) (fun _ _ _ h => h) (Or.inl ⟨by rfl, ?_⟩) ?_ ?_
  rotate_left
  ·intro w'
   go_simp
   with_reducible rfl
  rotate_left
  ·simp only [Act.put, lA, lB, lC, aW, aX]
   rfl
  refine last_ (i := 12) (N := none) #[true, true, true, true, true, true, true, true, true, true, true, true, true] rfl rfl (by kernel_rfl) (by decide) (fun K hK => ?_)
  have hzgb1_0_22 : w21.cell? ⟨gb1, 0, none⟩ = some (.slice A0_0 l0_0.length c0_0) := (aC BK1.out 0).trans rfl
  have hygb1_0_22 := aA BK1.out 0
  have hzgb1_1_22 : w21.cell? ⟨gb1, 1, none⟩ = some (.slice (some ad14) l0_1.length c0_1) := (aC BK1.out 1).trans rfl
  have hygb1_1_22 := aA BK1.out 1
  have hzgb1_2_22 : w21.cell? ⟨gb1, 2, none⟩ = some (.int .i64 a0_2) := (aC BK1.out 2).trans rfl
  have hygb1_2_22 := aA BK1.out 2
  have hzgb1_3_22 : w21.cell? ⟨gb1, 3, none⟩ = some (.bool a0_3) := (aC BK1.out 3).trans rfl
  have hygb1_3_22 := aA BK1.out 3
  have hzgb2_0_22 : w21.cell? ⟨gb2, 0, none⟩ = some (.slice none 0 0) := (aC BK2.out 0).trans rfl
  have hygb2_0_22 := aA BK2.out 0
  have hzgb2_1_22 : w21.cell? ⟨gb2, 1, none⟩ = some (.slice none 0 0) := (aC BK2.out 1).trans rfl
  have hygb2_1_22 := aA BK2.out 1
  have hzgb2_2_22 : w21.cell? ⟨gb2, 2, none⟩ = some (.int .i64 0) := (aC BK2.out 2).trans rfl
  have hygb2_2_22 := aA BK2.out 2
  have hzgb2_3_22 : w21.cell? ⟨gb2, 3, none⟩ = some (.bool false) := (aC BK2.out 3).trans rfl
  have hygb2_3_22 := aA BK2.out 3
  have hzgb3_0_22 : w21.cell? ⟨gb3, 0, none⟩ = some (.slice A5 l0_0.length c5) := (aC BK3.out 0).trans rfl
  have hygb3_0_22 := aA BK3.out 0
  have hzgb3_1_22 : w21.cell? ⟨gb3, 1, none⟩ = some (.slice A13 xs13.length c13) := (aC BK3.out 1).trans rfl
  have hygb3_1_22 := aA BK3.out 1
  have hzgb3_2_22 : w21.cell? ⟨gb3, 2, none⟩ = some (.int .i64 a0_2) := (aC BK3.out 2).trans rfl
  have hygb3_2_22 := aA BK3.out 2
  have hzgb3_3_22 : w21.cell? ⟨gb3, 3, none⟩ = some (.bool a0_3) := (aC BK3.out 3).trans rfl
  have hygb3_3_22 := aA BK3.out 3
  have hzgb15_0_22 : w21.cell? ⟨gb15, 0, none⟩ = some (.int .i64 ((rdW l0_1 x13).f0)) := (aC BK15.out 0).trans rfl
  have hygb15_0_22 := aA BK15.out 0
  have hzgb15_1_22 : w21.cell? ⟨gb15, 1, none⟩ = some (.slice Ae14 ((rdW l0_1 x13).f1).length ce14) := (aC BK15.out 1).trans rfl
  have hygb15_1_22 := aA BK15.out 1
  have hge_ : w.heap.size ≤ gb3 := (by have o_ := HORD.out; omega)
  refine skip_ (w1 := ?_) (by rfl) rfl ?_ ?_
  rotate_left
  ·go_simp
   rfl
  refine hK.out _ _ ?_
  clear hK K
  refine done_ (by kernel_rfl) ?_
  obtain ⟨w22, hw_⟩ : ∃ z_, z_ = (w21.setCell ⟨gb3, 1, none⟩ (.slice A21 ys21.length c21)) := ⟨_, rfl⟩
  (try rw [← hw_])
  have hkp : Kept w21 w22 (fun k_ => k_ = gb3) := (by rw [hw_]; exact Kept.setCell (Kept.refl w21 (fun k_ => k_ = gb3)) (.inl rfl) (.slice A21 ys21.length c21))
  have hbn_ : Below w.heap.size w w22 := (by rw [hw_]; exact aG (HB.out) hge_)
  have hbk_ : w22.heap[gb3]? = some (.cells #[.slice A5 l0_0.length c5, .slice A21 ys21.length c21, .int .i64 a0_2, .bool a0_3] 25 (0, 0)) := (by rw [hw_]; exact aT (cs := #[.slice A5 l0_0.length c5, .slice A13 xs13.length c13, .int .i64 a0_2, .bool a0_3]) (cs' := #[.slice A5 l0_0.length c5, .slice A21 ys21.length c21, .int .i64 a0_2, .bool a0_3]) (BK3.out) 1 _ rfl)
  have hsz_ : hi21 ≤ w22.heap.size := Nat.le_trans HT.out hkp.1
  have n0_ := aD.mk (Kd.aU HF0_0.out hkp (fun k_ h1_ h2_ => by have o_ := HORD.out; have t_ := HT.out; (try simp only [In2, Up, In, Ex, Exb] at h1_ h2_); omega))
  have n1_ := aD.mk (Kd.aU HF0_1.out hkp (fun k_ h1_ h2_ => by have o_ := HORD.out; have t_ := HT.out; (try simp only [In2, Up, In, Ex, Exb] at h1_ h2_); omega))
  have n2_ := aD.mk (Kd.aU HF5.out hkp (fun k_ h1_ h2_ => by have o_ := HORD.out; have t_ := HT.out; (try simp only [In2, Up, In, Ex, Exb] at h1_ h2_); omega))
  have n3_ := aD.mk (Kd.bN HS5.out hkp (fun k_ h1_ h2_ => by have o_ := HORD.out; have t_ := HT.out; (try simp only [In2, Up, In, Ex, Exb] at h1_ h2_); omega))
  have n4_ := aD.mk (Kd.aU HF14.out hkp (fun k_ h1_ h2_ => by have o_ := HORD.out; have t_ := HT.out; (try simp only [In2, Up, In, Ex, Exb] at h1_ h2_); omega))
  have n5_ := aD.mk (Kd.aU HF21.out hkp (fun k_ h1_ h2_ => by have o_ := HORD.out; have t_ := HT.out; (try simp only [In2, Up, In, Ex, Exb] at h1_ h2_); omega))
  have n6_ := aD.mk (Kd.bN HS21.out hkp (fun k_ h1_ h2_ => by have o_ := HORD.out; have t_ := HT.out; (try simp only [In2, Up, In, Ex, Exb] at h1_ h2_); omega))
  have n7_ := aD.mk (aV BK1.out hkp (fun h2_ => by have o_ := HORD.out; have t_ := HT.out; (try simp only [In2, Up, In, Ex, Exb] at h2_); omega))
  have n8_ := aD.mk (aV BK2.out hkp (fun h2_ => by have o_ := HORD.out; have t_ := HT.out; (try simp only [In2, Up, In, Ex, Exb] at h2_); omega))
  have n9_ := aD.mk (aV BK15.out hkp (fun h2_ => by have o_ := HORD.out; have t_ := HT.out; (try simp only [In2, Up, In, Ex, Exb] at h2_); omega))
  have n10_ := aD.mk (hbn_)
  have n11_ := aD.mk (hbk_)
  have n12_ := aD.mk (hsz_)
  (try clear HF0_0)
  (try clear HF0_1)
  (try clear HF5)
  (try clear HS5)
  (try clear HF14)
  (try clear HF21)
  (try clear HS21)
  (try clear BK1)
  (try clear BK2)
  (try clear BK15)
  (try clear HB)
  (try clear BK3)
  (try clear HT)
  have HF0_0 := n0_
  have HF0_1 := n1_
  have HF5 := n2_
  have HS5 := n3_
  have HF14 := n4_
  have HF21 := n5_
  have HS21 := n6_
  have BK1 := n7_
  have BK2 := n8_
  have BK15 := n9_
  have HB := n10_
  have BK3 := n11_
  have HT := n12_
  clear n0_ n1_ n2_ n3_ n4_ n5_ n6_ n7_ n8_ n9_ n10_ n11_ n12_
  clear hw_ hkp hge_ hbn_ hbk_ hsz_
  have hzgb1_0_22 : w22.cell? ⟨gb1, 0, none⟩ = some (.slice A0_0 l0_0.length c0_0) := (aC BK1.out 0).trans rfl
  have hygb1_0_22 := aA BK1.out 0
  have hzgb1_1_22 : w22.cell? ⟨gb1, 1, none⟩ = some (.slice (some ad14) l0_1.length c0_1) := (aC BK1.out 1).trans rfl
  have hygb1_1_22 := aA BK1.out 1
  have hzgb1_2_22 : w22.cell? ⟨gb1, 2, none⟩ = some (.int .i64 a0_2) := (aC BK1.out 2).trans rfl
  have hygb1_2_22 := aA BK1.out 2
  have hzgb1_3_22 : w22.cell? ⟨gb1, 3, none⟩ = some (.bool a0_3) := (aC BK1.out 3).trans rfl
  have hygb1_3_22 := aA BK1.out 3
  have hzgb2_0_22 : w22.cell? ⟨gb2, 0, none⟩ = some (.slice none 0 0) := (aC BK2.out 0).trans rfl
  have hygb2_0_22 := aA BK2.out 0
  have hzgb2_1_22 : w22.cell? ⟨gb2, 1, none⟩ = some (.slice none 0 0) := (aC BK2.out 1).trans rfl
  have hygb2_1_22 := aA BK2.out 1
  have hzgb2_2_22 : w22.cell? ⟨gb2, 2, none⟩ = some (.int .i64 0) := (aC BK2.out 2).trans rfl
  have hygb2_2_22 := aA BK2.out 2
  have hzgb2_3_22 : w22.cell? ⟨gb2, 3, none⟩ = some (.bool false) := (aC BK2.out 3).trans rfl
  have hygb2_3_22 := aA BK2.out 3
  have hzgb3_0_22 : w22.cell? ⟨gb3, 0, none⟩ = some (.slice A5 l0_0.length c5) := (aC BK3.out 0).trans rfl
  have hygb3_0_22 := aA BK3.out 0
  have hzgb3_1_22 : w22.cell? ⟨gb3, 1, none⟩ = some (.slice A21 ys21.length c21) := (aC BK3.out 1).trans rfl
  have hygb3_1_22 := aA BK3.out 1
  have hzgb3_2_22 : w22.cell? ⟨gb3, 2, none⟩ = some (.int .i64 a0_2) := (aC BK3.out 2).trans rfl
  have hygb3_2_22 := aA BK3.out 2
  have hzgb3_3_22 : w22.cell? ⟨gb3, 3, none⟩ = some (.bool a0_3) := (aC BK3.out 3).trans rfl
  have hygb3_3_22 := aA BK3.out 3
  have hzgb15_0_22 : w22.cell? ⟨gb15, 0, none⟩ = some (.int .i64 ((rdW l0_1 x13).f0)) := (aC BK15.out 0).trans rfl
  have hygb15_0_22 := aA BK15.out 0
  have hzgb15_1_22 : w22.cell? ⟨gb15, 1, none⟩ = some (.slice Ae14 ((rdW l0_1 x13).f1).length ce14) := (aC BK15.out 1).trans rfl
  have hygb15_1_22 := aA BK15.out 1
  try go_wp2
  go_roundg k1
  case measure => omega
  case rel => exact ⟨i13 + 1, _, _, rfl, ⟨show _ = ((i13 + 1 : Nat) : Int) by have := HI13.out; have hm_ := Kd.F_max HF0_1.out; have := HK13.out; first | (rw [w64 (by omega) (by omega)]; omega) | omega⟩, ⟨by have := HK13.out; omega⟩, ⟨Nat.le_trans (by have o_ := HORD.out; omega) HT.out⟩, ⟨by rw [show l0_1.take (i13 + 1) = ys21 from (by rw [HY21.out, HX13.out]; unfold rdW; rw [show x13.toNat = i13 from by have := HI13.out; omega]; exact take_getD _ _ z50 (by have := HK13.out; omega))]; exact Kd.bP (Kd.bQ HS21.out (by have o_ := HORD.out; omega)) (fun k_ hk_ => by have o_ := HORD.out; have t_ := HT.out; (try simp only [In2, Up, In, Ex, Exb] at hk_ ⊢); omega)⟩, HF0_0, HF0_1, HF5, HS5, BK1, BK2, BK3, HB⟩
 have hi0_ : i13 = l0_1.length := (by have := HK13.out; omega)
 have hd_ : decide (x13 < (l0_1.length : Int)) = false := decide_eq_false (by have := HI13.out; omega)
 have eall_ : xs13 = l0_1 := (by rw [HX13.out, hi0_, List.take_length])
 rw [eall_] at HS13 HF13 HC13 BK3
 have hzgb1_0_22 : wr.cell? ⟨gb1, 0, none⟩ = some (.slice A0_0 l0_0.length c0_0) := (aC BK1.out 0).trans rfl
 have hygb1_0_22 := aA BK1.out 0
 have hzgb1_1_22 : wr.cell? ⟨gb1, 1, none⟩ = some (.slice A0_1 l0_1.length c0_1) := (aC BK1.out 1).trans rfl
 have hygb1_1_22 := aA BK1.out 1
 have hzgb1_2_22 : wr.cell? ⟨gb1, 2, none⟩ = some (.int .i64 a0_2) := (aC BK1.out 2).trans rfl
 have hygb1_2_22 := aA BK1.out 2
 have hzgb1_3_22 : wr.cell? ⟨gb1, 3, none⟩ = some (.bool a0_3) := (aC BK1.out 3).trans rfl
 have hygb1_3_22 := aA BK1.out 3
 have hzgb2_0_22 : wr.cell? ⟨gb2, 0, none⟩ = some (.slice none 0 0) := (aC BK2.out 0).trans rfl
 have hygb2_0_22 := aA BK2.out 0
 have hzgb2_1_22 : wr.cell? ⟨gb2, 1, none⟩ = some (.slice none 0 0) := (aC BK2.out 1).trans rfl
 have hygb2_1_22 := aA BK2.out 1
 have hzgb2_2_22 : wr.cell? ⟨gb2, 2, none⟩ = some (.int .i64 0) := (aC BK2.out 2).trans rfl
 have hygb2_2_22 := aA BK2.out 2
 have hzgb2_3_22 : wr.cell? ⟨gb2, 3, none⟩ = some (.bool false) := (aC BK2.out 3).trans rfl
 have hygb2_3_22 := aA BK2.out 3
 have hzgb3_0_22 : wr.cell? ⟨gb3, 0, none⟩ = some (.slice A5 l0_0.length c5) := (aC BK3.out 0).trans rfl
 have hygb3_0_22 := aA BK3.out 0
 have hzgb3_1_22 : wr.cell? ⟨gb3, 1, none⟩ = some (.slice A13 l0_1.length c13) := (aC BK3.out 1).trans rfl
 have hygb3_1_22 := aA BK3.out 1
 have hzgb3_2_22 : wr.cell? ⟨gb3, 2, none⟩ = some (.int .i64 a0_2) := (aC BK3.out 2).trans rfl
 have hygb3_2_22 := aA BK3.out 2
 have hzgb3_3_22 : wr.cell? ⟨gb3, 3, none⟩ = some (.bool a0_3) := (aC BK3.out 3).trans rfl
 have hygb3_3_22 := aA BK3.out 3
 go_wp2_with (first | ((with_reducible refine bK (t := 25) (p := 2) rfl ?_); refine bG (t := 25) (p := 2) (v := ?vo_w23) (w1 := ((((wr.setCell ⟨gb2, 0, none⟩ (.slice A5 l0_0.length c5)).setCell ⟨gb2, 1, none⟩ (.slice A13 l0_1.length c13)).setCell ⟨gb2, 2, none⟩ (.int .i64 a0_2)).setCell ⟨gb2, 3, none⟩ (.bool a0_3))) ?hg ?ho ?hn ?hr ?_; (case ho => rfl); (case hg => rfl); (case hn => rfl); (case hr => first | (go_simp; done) | (go_simp; rfl)); intro w23 hw_; have hkp : Kept wr w23 (fun k_ => k_ = gb2) := (by rw [hw_]; exact Kept.setCell (Kept.setCell (Kept.setCell (Kept.setCell (Kept.refl wr (fun k_ => k_ = gb2)) (.inl rfl) (.slice A5 l0_0.length c5)) (.inl rfl) (.slice A13 l0_1.length c13)) (.inl rfl) (.int .i64 a0_2)) (.inl rfl) (.bool a0_3)); have hge_ : w.heap.size ≤ gb2 := (by have o_ := HORD.out; (try unfold In at *); (try show _ ≠ _); omega); have hbn_ : Below w.heap.size w w23 := (by rw [hw_]; exact aG (aG (aG (aG (HB.out) hge_) hge_) hge_) hge_); have hbk_ : w23.heap[gb2]? = some (.cells #[.slice A5 l0_0.length c5, .slice A13 l0_1.length c13, .int .i64 a0_2, .bool a0_3] 25 (0, 0)) := (by rw [hw_]; exact aT (cs := #[.slice A5 l0_0.length c5, .slice A13 l0_1.length c13, .int .i64 a0_2, .bool false]) (cs' := #[.slice A5 l0_0.length c5, .slice A13 l0_1.length c13, .int .i64 a0_2, .bool a0_3]) (aT (cs := #[.slice A5 l0_0.length c5, .slice A13 l0_1.length c13, .int .i64 0, .bool false]) (cs' := #[.slice A5 l0_0.length c5, .slice A13 l0_1.length c13, .int .i64 a0_2, .bool false]) (aT (cs := #[.slice A5 l0_0.length c5, .slice none 0 0, .int .i64 0, .bool false]) (cs' := #[.slice A5 l0_0.length c5, .slice A13 l0_1.length c13, .int .i64 0, .bool false]) (aT (cs := #[.slice none 0 0, .slice none 0 0, .int .i64 0, .bool false]) (cs' := #[.slice A5 l0_0.length c5, .slice none 0 0, .int .i64 0, .bool false]) (BK2.out) 0 _ rfl) 1 _ rfl) 2 _ rfl) 3 _ rfl); have hsz_ : hi13 ≤ w23.heap.size := Nat.le_trans HT.out hkp.1; have n0_ := aD.mk (Kd.aU HF0_0.out hkp (fun k_ h1_ h2_ => by have o_ := HORD.out; have t_ := HT.out; (try simp only [In2, Up, In, Ex, Exb] at h1_ h2_); omega)); have n1_ := aD.mk (Kd.aU HF0_1.out hkp (fun k_ h1_ h2_ => by have o_ := HORD.out; have t_ := HT.out; (try simp only [In2, Up, In, Ex, Exb] at h1_ h2_); omega)); have n2_ := aD.mk (Kd.aU HF5.out hkp (fun k_ h1_ h2_ => by have o_ := HORD.out; have t_ := HT.out; (try simp only [In2, Up, In, Ex, Exb] at h1_ h2_); omega)); have n3_ := aD.mk (Kd.bN HS5.out hkp (fun k_ h1_ h2_ => by have o_ := HORD.out; have t_ := HT.out; (try simp only [In2, Up, In, Ex, Exb] at h1_ h2_); omega)); have n4_ := aD.mk (Kd.aU HF13.out hkp (fun k_ h1_ h2_ => by have o_ := HORD.out; have t_ := HT.out; (try simp only [In2, Up, In, Ex, Exb] at h1_ h2_); omega)); have n5_ := aD.mk (Kd.bN HS13.out hkp (fun k_ h1_ h2_ => by have o_ := HORD.out; have t_ := HT.out; (try simp only [In2, Up, In, Ex, Exb] at h1_ h2_); omega)); have n6_ := aD.mk (aV BK1.out hkp (fun h2_ => by have o_ := HORD.out; have t_ := HT.out; (try simp only [In2, Up, In, Ex, Exb] at h2_); omega)); have n7_ := aD.mk (aV BK3.out hkp (fun h2_ => by have o_ := HORD.out; have t_ := HT.out; (try simp only [In2, Up, In, Ex, Exb] at h2_); omega)); have n8_ := aD.mk (hbn_); have n9_ := aD.mk (hbk_); have n10_ := aD.mk (hsz_); (try clear HF0_0); (try clear HF0_1); (try clear HF5); (try clear HS5); (try clear HF13); (try clear HS13); (try clear BK1); (try clear BK3); (try clear HB); (try clear BK2); (try clear HT); have HF0_0 := n0_; have HF0_1 := n1_; have HF5 := n2_; have HS5 := n3_; have HF13 := n4_; have HS13 := n5_; have BK1 := n6_; have BK3 := n7_; have HB := n8_; have BK2 := n9_; have HT := n10_; clear n0_ n1_ n2_ n3_ n4_ n5_ n6_ n7_ n8_ n9_ n10_; clear hw_ hkp hge_ hbn_ hbk_ hsz_; have hzgb1_0_23 : w23.cell? ⟨gb1, 0, none⟩ = some (.slice A0_0 l0_0.length c0_0) := (aC BK1.out 0).trans rfl; have hygb1_0_23 := aA BK1.out 0; have hzgb1_1_23 : w23.cell? ⟨gb1, 1, none⟩ = some (.slice A0_1 l0_1.length c0_1) := (aC BK1.out 1).trans rfl; have hygb1_1_23 := aA BK1.out 1; have hzgb1_2_23 : w23.cell? ⟨gb1, 2, none⟩ = some (.int .i64 a0_2) := (aC BK1.out 2).trans rfl; have hygb1_2_23 := aA BK1.out 2; have hzgb1_3_23 : w23.cell? ⟨gb1, 3, none⟩ = some (.bool a0_3) := (aC BK1.out 3).trans rfl; have hygb1_3_23 := aA BK1.out 3; have hzgb2_0_23 : w23.cell? ⟨gb2, 0, none⟩ = some (.slice A5 l0_0.length c5) := (aC BK2.out 0).trans rfl; have hygb2_0_23 := aA BK2.out 0; have hzgb2_1_23 : w23.cell? ⟨gb2, 1, none⟩ = some (.slice A13 l0_1.length c13) := (aC BK2.out 1).trans rfl; have hygb2_1_23 := aA BK2.out 1; have hzgb2_2_23 : w23.cell? ⟨gb2, 2, none⟩ = some (.int .i64 a0_2) := (aC BK2.out 2).trans rfl; have hygb2_2_23 := aA BK2.out 2; have hzgb2_3_23 : w23.cell? ⟨gb2, 3, none⟩ = some (.bool a0_3) := (aC BK2.out 3).trans rfl; have hygb2_3_23 := aA BK2.out 3; have hzgb3_0_23 : w23.cell? ⟨gb3, 0, none⟩ = some (.slice A5 l0_0.length c5) := (aC BK3.out 0).trans rfl; have hygb3_0_23 := aA BK3.out 0; have hzgb3_1_23 : w23.cell? ⟨gb3, 1, none⟩ = some (.slice A13 l0_1.length c13) := (aC BK3.out 1).trans rfl; have hygb3_1_23 := aA BK3.out 1; have hzgb3_2_23 : w23.cell? ⟨gb3, 2, none⟩ = some (.int .i64 a0_2) := (aC BK3.out 2).trans rfl; have hygb3_2_23 := aA BK3.out 2; have hzgb3_3_23 : w23.cell? ⟨gb3, 3, none⟩ = some (.bool a0_3) := (aC BK3.out 3).trans rfl; have hygb3_3_23 := aA BK3.out 3))
 refine bodyPost_ret (fn := Try.f58) (P := Try.prog) (results_cell_row rfl _ _ gb2 25 #[.slice A5 l0_0.length c5, .slice A13 l0_1.length c13, .int .i64 a0_2, .bool a0_3] (0, 0) _ rfl BK2.out Try.underlying25 rfl (by kernel_rfl)) rfl ?_
 first | exact ⟨_, _, hi5, rfl, (by have o_ := HORD.out; omega), (by have o_ := HORD.out; have t_ := HT.out; omega), Kd.bP (Kd.bQ HS5.out (by have o_ := HORD.out; omega)) (fun k_ hk_ => by have o_ := HORD.out; have t_ := HT.out; (try simp only [In2, Up, In] at hk_ ⊢); omega), Kd.bP (Kd.bQ HS13.out (by have o_ := HORD.out; omega)) (fun k_ hk_ => by have o_ := HORD.out; have t_ := HT.out; (try simp only [In2, Up, In] at hk_ ⊢); omega), HB.out⟩ | exact ⟨_, _, rfl, hi5, (by have o_ := HORD.out; omega), (by have o_ := HORD.out; have t_ := HT.out; omega), Kd.bP (Kd.bQ HS5.out (by have o_ := HORD.out; omega)) (fun k_ hk_ => by have o_ := HORD.out; have t_ := HT.out; (try simp only [In2, Up, In] at hk_ ⊢); omega), Kd.bP (Kd.bQ HS13.out (by have o_ := HORD.out; omega)) (fun k_ hk_ => by have o_ := HORD.out; have t_ := HT.out; (try simp only [In2, Up, In] at hk_ ⊢); omega), HB.out⟩
def impl_copyDevS.f (l0_0 : List (List Int)) (l0_1 : List (S50)) (a0_2 : Int) (a0_3 : Bool) : Option (List (List Int) × List (S50) × Int × Bool) := if okDevB l0_0 l0_1 = true then some (l0_0, l0_1, a0_2, a0_3) else none
theorem impl_copyDevS.calls (P0_0_ : Nat → Prop) (A0_0 : Option Addr) (c0_0 : Nat) (l0_0 : List (List Int)) (P0_1_ : Nat → Prop) (A0_1 : Option Addr) (c0_1 : Nat) (l0_1 : List (S50)) (a0_2 : Int) (a0_3 : Bool) (r1 : List (List Int)) (r2 : List (S50)) (r3 : Int) (r4 : Bool) (w : World) (hs0_0 : Kd.V (Kd.slice 5 (Kd.int .u8)) 37 w w.heap.size (fun k_ => P0_0_ k_) (.slice A0_0 l0_0.length c0_0) l0_0) (hs0_1 : Kd.V k50 50 w w.heap.size (fun k_ => P0_1_ k_) (.slice A0_1 l0_1.length c0_1) l0_1) (h : impl_copyDevS.f l0_0 l0_1 a0_2 a0_3 = some (r1, r2, r3, r4)) :
  Calls Try.prog 58 #[.agg #[.slice A0_0 l0_0.length c0_0, .slice A0_1 l0_1.length c0_1, .int .i64 a0_2, .bool a0_3]] w fun e w' => ∃ v0_ v1_ : Value, ∃ m_ : Nat, e = .returned (.agg #[v0_, v1_, .int .i64 r3, .bool r4]) ∧ w.heap.size ≤ m_ ∧ m_ ≤ w'.heap.size ∧ Kd.S (Kd.slice 5 (Kd.int .u8)) 37 w' w.heap.size (In w.heap.size m_) v0_ r1 ∧ Kd.S k50 50 w' w.heap.size (In m_ w'.heap.size) v1_ r2 ∧ Below w.heap.size w w' := by
 obtain ⟨_, hc0_, hf0_⟩ := Kd.V_at hs0_0
 obtain ⟨_, hc1_, hf1_⟩ := Kd.V_at hs0_1
 replace hf0_ := Kd.F_mono (ok' := In 0 w.heap.size) (Kd.F_bound hf0_) (fun k hk => ⟨Nat.zero_le k, hk.2⟩)
 replace hf1_ := Kd.F_mono (ok' := In 0 w.heap.size) (Kd.F_bound hf1_) (fun k hk => ⟨Nat.zero_le k, hk.2⟩)
 unfold impl_copyDevS.f at h
 split at h
 ·rename_i hok
  unfold okDevB at hok
  simp only [Bool.and_eq_true, decide_eq_true_eq] at hok
  obtain ⟨hok0, hok1⟩ := hok
  injection h with h
  simp only [Prod.mk.injEq] at h
  obtain ⟨rfl, rfl, rfl, rfl⟩ := h
  exact walk_copyDev _ _ _ _ _ _ _ _ w hf0_ hc0_ hf1_ hc1_ hok0 hok1
 ·cases h
theorem copyDevS_f {l : List (List Int)} {m : List (S50)} (h : okByteSS l) (h2 : okWrS m) (a : Int) (b : Bool) : impl_copyDevS.f l m a b = some (l, m, a, b) := by
 unfold impl_copyDevS.f okDevB
 unfold okByteSS at h
 unfold okWrS at h2
 rw [if_pos (by simp [h, h2])]
set_option maxHeartbeats 8000000 in
set_option maxRecDepth 100000 in
theorem walk_burn0 (A0_0 : Option Addr) (c0_0 : Nat) (l0_0 : List (List (Int))) (A0_1 : Option Addr) (c0_1 : Nat) (l0_1 : List (S50)) (a0_3 : Bool) (w : World) :
  Calls Try.prog 59 #[.agg #[.slice A0_0 l0_0.length c0_0, .slice A0_1 l0_1.length c0_1, .int .i64 0, .bool a0_3]] w fun e w' => e = .returned (.tuple #[.agg #[.slice A0_0 l0_0.length c0_0, .slice A0_1 l0_1.length c0_1, .int .i64 (-1), .bool true], .bool false]) ∧ Below w.heap.size w w' := by
 have hu25 := Try.underlying25
 have HB := aD.mk (Below.refl w.heap.size w)
 have HORD := aD.mk (Nat.le_refl w.heap.size)
 have HT := aD.mk (Nat.le_refl w.heap.size)
 go_enter Try.func59, Try.ntmps59
 go_wp2_with (first | ((with_reducible refine bE (N := 1) rfl ?_); refine bD ?hg (N := 1) ?hd (cs := #[.slice A0_0 l0_0.length c0_0, .slice A0_1 l0_1.length c0_1, .int .i64 0, .bool a0_3]) (t := 25) ?hr ?_; (case hd => rfl); (case hg => rfl); (case hr => first | (go_simp; done) | (go_simp; rfl)); intro gb1 hg_ w1 hbox hb; have hge_ : w.heap.size ≤ gb1 := (by rw [hg_]; exact HT.out); have hlt_ : gb1 + 1 ≤ w1.heap.size := bJ hbox; have n0_ := aD.mk (aQ HB.out hb); have n1_ := aD.mk (hbox); have n2_ := aD.mk (And.intro HORD.out (And.intro hge_ (Nat.le_succ gb1))); have n3_ := aD.mk (hlt_); (try clear HB); (try clear BK1); (try clear HORD); (try clear HT); have HB := n0_; have BK1 := n1_; have HORD := n2_; have HT := n3_; clear n0_ n1_ n2_ n3_; clear hb hbox hg_ hge_ hlt_; have hzgb1_0_1 : w1.cell? ⟨gb1, 0, none⟩ = some (.slice A0_0 l0_0.length c0_0) := (aC BK1.out 0).trans rfl; have hygb1_0_1 := aA BK1.out 0; have hzgb1_1_1 : w1.cell? ⟨gb1, 1, none⟩ = some (.slice A0_1 l0_1.length c0_1) := (aC BK1.out 1).trans rfl; have hygb1_1_1 := aA BK1.out 1; have hzgb1_2_1 : w1.cell? ⟨gb1, 2, none⟩ = some (.int .i64 0) := (aC BK1.out 2).trans rfl; have hygb1_2_1 := aA BK1.out 2; have hzgb1_3_1 : w1.cell? ⟨gb1, 3, none⟩ = some (.bool a0_3) := (aC BK1.out 3).trans rfl; have hygb1_3_1 := aA BK1.out 3) | ((with_reducible refine bE (N := 2) rfl ?_); refine bD ?hg (N := 2) ?hd (cs := #[.slice none 0 0, .slice none 0 0, .int .i64 0, .bool false]) (t := 25) ?hr ?_; (case hd => rfl); (case hg => rfl); (case hr => first | (go_simp; done) | (go_simp; rfl)); intro gb2 hg_ w2 hbox hb; have hge_ : (gb1 + 1) ≤ gb2 := (by rw [hg_]; exact HT.out); have hlt_ : gb2 + 1 ≤ w2.heap.size := bJ hbox; have n0_ := aD.mk (aH BK1.out hb); have n1_ := aD.mk (aQ HB.out hb); have n2_ := aD.mk (hbox); have n3_ := aD.mk (And.intro HORD.out (And.intro hge_ (Nat.le_succ gb2))); have n4_ := aD.mk (hlt_); (try clear BK1); (try clear HB); (try clear BK2); (try clear HORD); (try clear HT); have BK1 := n0_; have HB := n1_; have BK2 := n2_; have HORD := n3_; have HT := n4_; clear n0_ n1_ n2_ n3_ n4_; clear hb hbox hg_ hge_ hlt_; have hzgb1_0_2 : w2.cell? ⟨gb1, 0, none⟩ = some (.slice A0_0 l0_0.length c0_0) := (aC BK1.out 0).trans rfl; have hygb1_0_2 := aA BK1.out 0; have hzgb1_1_2 : w2.cell? ⟨gb1, 1, none⟩ = some (.slice A0_1 l0_1.length c0_1) := (aC BK1.out 1).trans rfl; have hygb1_1_2 := aA BK1.out 1; have hzgb1_2_2 : w2.cell? ⟨gb1, 2, none⟩ = some (.int .i64 0) := (aC BK1.out 2).trans rfl; have hygb1_2_2 := aA BK1.out 2; have hzgb1_3_2 : w2.cell? ⟨gb1, 3, none⟩ = some (.bool a0_3) := (aC BK1.out 3).trans rfl; have hygb1_3_2 := aA BK1.out 3; have hzgb2_0_2 : w2.cell? ⟨gb2, 0, none⟩ = some (.slice none 0 0) := (aC BK2.out 0).trans rfl; have hygb2_0_2 := aA BK2.out 0; have hzgb2_1_2 : w2.cell? ⟨gb2, 1, none⟩ = some (.slice none 0 0) := (aC BK2.out 1).trans rfl; have hygb2_1_2 := aA BK2.out 1; have hzgb2_2_2 : w2.cell? ⟨gb2, 2, none⟩ = some (.int .i64 0) := (aC BK2.out 2).trans rfl; have hygb2_2_2 := aA BK2.out 2; have hzgb2_3_2 : w2.cell? ⟨gb2, 3, none⟩ = some (.bool false) := (aC BK2.out 3).trans rfl; have hygb2_3_2 := aA BK2.out 3) | ((with_reducible refine bK (t := 4) (p := 7) rfl ?_); refine bG (t := 4) (p := 7) (v := ?vo_w3) (w1 := (w2.setCell ⟨gb1, 3, none⟩ (.bool true))) ?hg ?ho ?hn ?hr ?_; (case ho => rfl); (case hg => rfl); (case hn => rfl); (case hr => first | (go_simp; done) | (go_simp; rfl)); intro w3 hw_; have hkp : Kept w2 w3 (fun k_ => k_ = gb1) := (by rw [hw_]; exact Kept.setCell (Kept.refl w2 (fun k_ => k_ = gb1)) (.inl rfl) (.bool true)); have hge_ : w.heap.size ≤ gb1 := (by have o_ := HORD.out; (try unfold In at *); (try show _ ≠ _); omega); have hbn_ : Below w.heap.size w w3 := (by rw [hw_]; exact aG (HB.out) hge_); have hbk_ : w3.heap[gb1]? = some (.cells #[.slice A0_0 l0_0.length c0_0, .slice A0_1 l0_1.length c0_1, .int .i64 0, .bool true] 25 (0, 0)) := (by rw [hw_]; exact aT (cs := #[.slice A0_0 l0_0.length c0_0, .slice A0_1 l0_1.length c0_1, .int .i64 0, .bool a0_3]) (cs' := #[.slice A0_0 l0_0.length c0_0, .slice A0_1 l0_1.length c0_1, .int .i64 0, .bool true]) (BK1.out) 3 _ rfl); have hsz_ : (gb2 + 1) ≤ w3.heap.size := Nat.le_trans HT.out hkp.1; have n0_ := aD.mk (aV BK2.out hkp (fun h2_ => by have o_ := HORD.out; have t_ := HT.out; (try simp only [In2, Up, In, Ex, Exb] at h2_); omega)); have n1_ := aD.mk (hbn_); have n2_ := aD.mk (hbk_); have n3_ := aD.mk (hsz_); (try clear BK2); (try clear HB); (try clear BK1); (try clear HT); have BK2 := n0_; have HB := n1_; have BK1 := n2_; have HT := n3_; clear n0_ n1_ n2_ n3_; clear hw_ hkp hge_ hbn_ hbk_ hsz_; have hzgb1_0_3 : w3.cell? ⟨gb1, 0, none⟩ = some (.slice A0_0 l0_0.length c0_0) := (aC BK1.out 0).trans rfl; have hygb1_0_3 := aA BK1.out 0; have hzgb1_1_3 : w3.cell? ⟨gb1, 1, none⟩ = some (.slice A0_1 l0_1.length c0_1) := (aC BK1.out 1).trans rfl; have hygb1_1_3 := aA BK1.out 1; have hzgb1_2_3 : w3.cell? ⟨gb1, 2, none⟩ = some (.int .i64 0) := (aC BK1.out 2).trans rfl; have hygb1_2_3 := aA BK1.out 2; have hzgb1_3_3 : w3.cell? ⟨gb1, 3, none⟩ = some (.bool true) := (aC BK1.out 3).trans rfl; have hygb1_3_3 := aA BK1.out 3; have hzgb2_0_3 : w3.cell? ⟨gb2, 0, none⟩ = some (.slice none 0 0) := (aC BK2.out 0).trans rfl; have hygb2_0_3 := aA BK2.out 0; have hzgb2_1_3 : w3.cell? ⟨gb2, 1, none⟩ = some (.slice none 0 0) := (aC BK2.out 1).trans rfl; have hygb2_1_3 := aA BK2.out 1; have hzgb2_2_3 : w3.cell? ⟨gb2, 2, none⟩ = some (.int .i64 0) := (aC BK2.out 2).trans rfl; have hygb2_2_3 := aA BK2.out 2; have hzgb2_3_3 : w3.cell? ⟨gb2, 3, none⟩ = some (.bool false) := (aC BK2.out 3).trans rfl; have hygb2_3_3 := aA BK2.out 3) | ((with_reducible refine bK (t := 3) (p := 8) rfl ?_); refine bG (t := 3) (p := 8) (v := ?vo_w4) (w1 := (w3.setCell ⟨gb1, 2, none⟩ (.int .i64 ((-1))))) ?hg ?ho ?hn ?hr ?_; (case ho => rfl); (case hg => rfl); (case hn => rfl); (case hr => first | (go_simp; done) | (go_simp; rfl)); intro w4 hw_; have hkp : Kept w3 w4 (fun k_ => k_ = gb1) := (by rw [hw_]; exact Kept.setCell (Kept.refl w3 (fun k_ => k_ = gb1)) (.inl rfl) (.int .i64 ((-1)))); have hge_ : w.heap.size ≤ gb1 := (by have o_ := HORD.out; (try unfold In at *); (try show _ ≠ _); omega); have hbn_ : Below w.heap.size w w4 := (by rw [hw_]; exact aG (HB.out) hge_); have hbk_ : w4.heap[gb1]? = some (.cells #[.slice A0_0 l0_0.length c0_0, .slice A0_1 l0_1.length c0_1, .int .i64 ((-1)), .bool true] 25 (0, 0)) := (by rw [hw_]; exact aT (cs := #[.slice A0_0 l0_0.length c0_0, .slice A0_1 l0_1.length c0_1, .int .i64 0, .bool true]) (cs' := #[.slice A0_0 l0_0.length c0_0, .slice A0_1 l0_1.length c0_1, .int .i64 ((-1)), .bool true]) (BK1.out) 2 _ rfl); have hsz_ : (gb2 + 1) ≤ w4.heap.size := Nat.le_trans HT.out hkp.1; have n0_ := aD.mk (aV BK2.out hkp (fun h2_ => by have o_ := HORD.out; have t_ := HT.out; (try simp only [In2, Up, In, Ex, Exb] at h2_); omega)); have n1_ := aD.mk (hbn_); have n2_ := aD.mk (hbk_); have n3_ := aD.mk (hsz_); (try clear BK2); (try clear HB); (try clear BK1); (try clear HT); have BK2 := n0_; have HB := n1_; have BK1 := n2_; have HT := n3_; clear n0_ n1_ n2_ n3_; clear hw_ hkp hge_ hbn_ hbk_ hsz_; have hzgb1_0_4 : w4.cell? ⟨gb1, 0, none⟩ = some (.slice A0_0 l0_0.length c0_0) := (aC BK1.out 0).trans rfl; have hygb1_0_4 := aA BK1.out 0; have hzgb1_1_4 : w4.cell? ⟨gb1, 1, none⟩ = some (.slice A0_1 l0_1.length c0_1) := (aC BK1.out 1).trans rfl; have hygb1_1_4 := aA BK1.out 1; have hzgb1_2_4 : w4.cell? ⟨gb1, 2, none⟩ = some (.int .i64 ((-1))) := (aC BK1.out 2).trans rfl; have hygb1_2_4 := aA BK1.out 2; have hzgb1_3_4 : w4.cell? ⟨gb1, 3, none⟩ = some (.bool true) := (aC BK1.out 3).trans rfl; have hygb1_3_4 := aA BK1.out 3; have hzgb2_0_4 : w4.cell? ⟨gb2, 0, none⟩ = some (.slice none 0 0) := (aC BK2.out 0).trans rfl; have hygb2_0_4 := aA BK2.out 0; have hzgb2_1_4 : w4.cell? ⟨gb2, 1, none⟩ = some (.slice none 0 0) := (aC BK2.out 1).trans rfl; have hygb2_1_4 := aA BK2.out 1; have hzgb2_2_4 : w4.cell? ⟨gb2, 2, none⟩ = some (.int .i64 0) := (aC BK2.out 2).trans rfl; have hygb2_2_4 := aA BK2.out 2; have hzgb2_3_4 : w4.cell? ⟨gb2, 3, none⟩ = some (.bool false) := (aC BK2.out 3).trans rfl; have hygb2_3_4 := aA BK2.out 3) | ((with_reducible refine bK (t := 25) (p := 2) rfl ?_); refine bG (t := 25) (p := 2) (v := ?vo_w5) (w1 := ((((w4.setCell ⟨gb2, 0, none⟩ (.slice A0_0 l0_0.length c0_0)).setCell ⟨gb2, 1, none⟩ (.slice A0_1 l0_1.length c0_1)).setCell ⟨gb2, 2, none⟩ (.int .i64 ((-1)))).setCell ⟨gb2, 3, none⟩ (.bool true))) ?hg ?ho ?hn ?hr ?_; (case ho => rfl); (case hg => rfl); (case hn => rfl); (case hr => first | (go_simp; done) | (go_simp; rfl)); intro w5 hw_; have hkp : Kept w4 w5 (fun k_ => k_ = gb2) := (by rw [hw_]; exact Kept.setCell (Kept.setCell (Kept.setCell (Kept.setCell (Kept.refl w4 (fun k_ => k_ = gb2)) (.inl rfl) (.slice A0_0 l0_0.length c0_0)) (.inl rfl) (.slice A0_1 l0_1.length c0_1)) (.inl rfl) (.int .i64 ((-1)))) (.inl rfl) (.bool true)); have hge_ : w.heap.size ≤ gb2 := (by have o_ := HORD.out; (try unfold In at *); (try show _ ≠ _); omega); have hbn_ : Below w.heap.size w w5 := (by rw [hw_]; exact aG (aG (aG (aG (HB.out) hge_) hge_) hge_) hge_); have hbk_ : w5.heap[gb2]? = some (.cells #[.slice A0_0 l0_0.length c0_0, .slice A0_1 l0_1.length c0_1, .int .i64 ((-1)), .bool true] 25 (0, 0)) := (by rw [hw_]; exact aT (cs := #[.slice A0_0 l0_0.length c0_0, .slice A0_1 l0_1.length c0_1, .int .i64 ((-1)), .bool false]) (cs' := #[.slice A0_0 l0_0.length c0_0, .slice A0_1 l0_1.length c0_1, .int .i64 ((-1)), .bool true]) (aT (cs := #[.slice A0_0 l0_0.length c0_0, .slice A0_1 l0_1.length c0_1, .int .i64 0, .bool false]) (cs' := #[.slice A0_0 l0_0.length c0_0, .slice A0_1 l0_1.length c0_1, .int .i64 ((-1)), .bool false]) (aT (cs := #[.slice A0_0 l0_0.length c0_0, .slice none 0 0, .int .i64 0, .bool false]) (cs' := #[.slice A0_0 l0_0.length c0_0, .slice A0_1 l0_1.length c0_1, .int .i64 0, .bool false]) (aT (cs := #[.slice none 0 0, .slice none 0 0, .int .i64 0, .bool false]) (cs' := #[.slice A0_0 l0_0.length c0_0, .slice none 0 0, .int .i64 0, .bool false]) (BK2.out) 0 _ rfl) 1 _ rfl) 2 _ rfl) 3 _ rfl); have hsz_ : (gb2 + 1) ≤ w5.heap.size := Nat.le_trans HT.out hkp.1; have n0_ := aD.mk (aV BK1.out hkp (fun h2_ => by have o_ := HORD.out; have t_ := HT.out; (try simp only [In2, Up, In, Ex, Exb] at h2_); omega)); have n1_ := aD.mk (hbn_); have n2_ := aD.mk (hbk_); have n3_ := aD.mk (hsz_); (try clear BK1); (try clear HB); (try clear BK2); (try clear HT); have BK1 := n0_; have HB := n1_; have BK2 := n2_; have HT := n3_; clear n0_ n1_ n2_ n3_; clear hw_ hkp hge_ hbn_ hbk_ hsz_; have hzgb1_0_5 : w5.cell? ⟨gb1, 0, none⟩ = some (.slice A0_0 l0_0.length c0_0) := (aC BK1.out 0).trans rfl; have hygb1_0_5 := aA BK1.out 0; have hzgb1_1_5 : w5.cell? ⟨gb1, 1, none⟩ = some (.slice A0_1 l0_1.length c0_1) := (aC BK1.out 1).trans rfl; have hygb1_1_5 := aA BK1.out 1; have hzgb1_2_5 : w5.cell? ⟨gb1, 2, none⟩ = some (.int .i64 ((-1))) := (aC BK1.out 2).trans rfl; have hygb1_2_5 := aA BK1.out 2; have hzgb1_3_5 : w5.cell? ⟨gb1, 3, none⟩ = some (.bool true) := (aC BK1.out 3).trans rfl; have hygb1_3_5 := aA BK1.out 3; have hzgb2_0_5 : w5.cell? ⟨gb2, 0, none⟩ = some (.slice A0_0 l0_0.length c0_0) := (aC BK2.out 0).trans rfl; have hygb2_0_5 := aA BK2.out 0; have hzgb2_1_5 : w5.cell? ⟨gb2, 1, none⟩ = some (.slice A0_1 l0_1.length c0_1) := (aC BK2.out 1).trans rfl; have hygb2_1_5 := aA BK2.out 1; have hzgb2_2_5 : w5.cell? ⟨gb2, 2, none⟩ = some (.int .i64 ((-1))) := (aC BK2.out 2).trans rfl; have hygb2_2_5 := aA BK2.out 2; have hzgb2_3_5 : w5.cell? ⟨gb2, 3, none⟩ = some (.bool true) := (aC BK2.out 3).trans rfl; have hygb2_3_5 := aA BK2.out 3))
 refine bodyPost_ret (results_ct rfl _ _ gb2 25 #[.slice A0_0 l0_0.length c0_0, .slice A0_1 l0_1.length c0_1, .int .i64 ((-1)), .bool true] (0, 0) _ rfl BK2.out Try.underlying25 rfl (by kernel_rfl)) rfl ?_
 exact ⟨rfl, HB.out⟩
set_option maxHeartbeats 8000000 in
set_option maxRecDepth 100000 in
theorem walk_burn1 (A0_0 : Option Addr) (c0_0 : Nat) (l0_0 : List (List (Int))) (A0_1 : Option Addr) (c0_1 : Nat) (l0_1 : List (S50)) (a0_2 : Int) (a0_3 : Bool) (w : World) (hp0 : 0 < a0_2) :
  Calls Try.prog 59 #[.agg #[.slice A0_0 l0_0.length c0_0, .slice A0_1 l0_1.length c0_1, .int .i64 a0_2, .bool a0_3]] w fun e w' => e = .returned (.tuple #[.agg #[.slice A0_0 l0_0.length c0_0, .slice A0_1 l0_1.length c0_1, .int .i64 (wrap64 (a0_2 - 1)), .bool a0_3], .bool true]) ∧ Below w.heap.size w w' := by
 have hu25 := Try.underlying25
 have HB := aD.mk (Below.refl w.heap.size w)
 have HORD := aD.mk (Nat.le_refl w.heap.size)
 have HT := aD.mk (Nat.le_refl w.heap.size)
 have d1_ : (a0_2 == 0) = false := beq_eq_false_iff_ne.mpr (by omega)
 have d2_ : decide (0 < a0_2) = true := decide_eq_true hp0
 go_enter Try.func59, Try.ntmps59
 go_wp2_with (first | ((with_reducible refine bE (N := 1) rfl ?_); refine bD ?hg (N := 1) ?hd (cs := #[.slice A0_0 l0_0.length c0_0, .slice A0_1 l0_1.length c0_1, .int .i64 a0_2, .bool a0_3]) (t := 25) ?hr ?_; (case hd => rfl); (case hg => rfl); (case hr => first | (go_simp; done) | (go_simp; rfl)); intro gb1 hg_ w1 hbox hb; have hge_ : w.heap.size ≤ gb1 := (by rw [hg_]; exact HT.out); have hlt_ : gb1 + 1 ≤ w1.heap.size := bJ hbox; have n0_ := aD.mk (aQ HB.out hb); have n1_ := aD.mk (hbox); have n2_ := aD.mk (And.intro HORD.out (And.intro hge_ (Nat.le_succ gb1))); have n3_ := aD.mk (hlt_); (try clear HB); (try clear BK1); (try clear HORD); (try clear HT); have HB := n0_; have BK1 := n1_; have HORD := n2_; have HT := n3_; clear n0_ n1_ n2_ n3_; clear hb hbox hg_ hge_ hlt_; have hzgb1_0_1 : w1.cell? ⟨gb1, 0, none⟩ = some (.slice A0_0 l0_0.length c0_0) := (aC BK1.out 0).trans rfl; have hygb1_0_1 := aA BK1.out 0; have hzgb1_1_1 : w1.cell? ⟨gb1, 1, none⟩ = some (.slice A0_1 l0_1.length c0_1) := (aC BK1.out 1).trans rfl; have hygb1_1_1 := aA BK1.out 1; have hzgb1_2_1 : w1.cell? ⟨gb1, 2, none⟩ = some (.int .i64 a0_2) := (aC BK1.out 2).trans rfl; have hygb1_2_1 := aA BK1.out 2; have hzgb1_3_1 : w1.cell? ⟨gb1, 3, none⟩ = some (.bool a0_3) := (aC BK1.out 3).trans rfl; have hygb1_3_1 := aA BK1.out 3) | ((with_reducible refine bE (N := 2) rfl ?_); refine bD ?hg (N := 2) ?hd (cs := #[.slice none 0 0, .slice none 0 0, .int .i64 0, .bool false]) (t := 25) ?hr ?_; (case hd => rfl); (case hg => rfl); (case hr => first | (go_simp; done) | (go_simp; rfl)); intro gb2 hg_ w2 hbox hb; have hge_ : (gb1 + 1) ≤ gb2 := (by rw [hg_]; exact HT.out); have hlt_ : gb2 + 1 ≤ w2.heap.size := bJ hbox; have n0_ := aD.mk (aH BK1.out hb); have n1_ := aD.mk (aQ HB.out hb); have n2_ := aD.mk (hbox); have n3_ := aD.mk (And.intro HORD.out (And.intro hge_ (Nat.le_succ gb2))); have n4_ := aD.mk (hlt_); (try clear BK1); (try clear HB); (try clear BK2); (try clear HORD); (try clear HT); have BK1 := n0_; have HB := n1_; have BK2 := n2_; have HORD := n3_; have HT := n4_; clear n0_ n1_ n2_ n3_ n4_; clear hb hbox hg_ hge_ hlt_; have hzgb1_0_2 : w2.cell? ⟨gb1, 0, none⟩ = some (.slice A0_0 l0_0.length c0_0) := (aC BK1.out 0).trans rfl; have hygb1_0_2 := aA BK1.out 0; have hzgb1_1_2 : w2.cell? ⟨gb1, 1, none⟩ = some (.slice A0_1 l0_1.length c0_1) := (aC BK1.out 1).trans rfl; have hygb1_1_2 := aA BK1.out 1; have hzgb1_2_2 : w2.cell? ⟨gb1, 2, none⟩ = some (.int .i64 a0_2) := (aC BK1.out 2).trans rfl; have hygb1_2_2 := aA BK1.out 2; have hzgb1_3_2 : w2.cell? ⟨gb1, 3, none⟩ = some (.bool a0_3) := (aC BK1.out 3).trans rfl; have hygb1_3_2 := aA BK1.out 3; have hzgb2_0_2 : w2.cell? ⟨gb2, 0, none⟩ = some (.slice none 0 0) := (aC BK2.out 0).trans rfl; have hygb2_0_2 := aA BK2.out 0; have hzgb2_1_2 : w2.cell? ⟨gb2, 1, none⟩ = some (.slice none 0 0) := (aC BK2.out 1).trans rfl; have hygb2_1_2 := aA BK2.out 1; have hzgb2_2_2 : w2.cell? ⟨gb2, 2, none⟩ = some (.int .i64 0) := (aC BK2.out 2).trans rfl; have hygb2_2_2 := aA BK2.out 2; have hzgb2_3_2 : w2.cell? ⟨gb2, 3, none⟩ = some (.bool false) := (aC BK2.out 3).trans rfl; have hygb2_3_2 := aA BK2.out 3) | ((with_reducible refine bK (t := 3) (p := 16) rfl ?_); refine bG (t := 3) (p := 16) (v := ?vo_w3) (w1 := (w2.setCell ⟨gb1, 2, none⟩ (.int .i64 ((wrap64 (a0_2 - 1)))))) ?hg ?ho ?hn ?hr ?_; (case ho => rfl); (case hg => rfl); (case hn => rfl); (case hr => first | (go_simp; done) | (go_simp; rfl)); intro w3 hw_; have hkp : Kept w2 w3 (fun k_ => k_ = gb1) := (by rw [hw_]; exact Kept.setCell (Kept.refl w2 (fun k_ => k_ = gb1)) (.inl rfl) (.int .i64 ((wrap64 (a0_2 - 1))))); have hge_ : w.heap.size ≤ gb1 := (by have o_ := HORD.out; (try unfold In at *); (try show _ ≠ _); omega); have hbn_ : Below w.heap.size w w3 := (by rw [hw_]; exact aG (HB.out) hge_); have hbk_ : w3.heap[gb1]? = some (.cells #[.slice A0_0 l0_0.length c0_0, .slice A0_1 l0_1.length c0_1, .int .i64 ((wrap64 (a0_2 - 1))), .bool a0_3] 25 (0, 0)) := (by rw [hw_]; exact aT (cs := #[.slice A0_0 l0_0.length c0_0, .slice A0_1 l0_1.length c0_1, .int .i64 a0_2, .bool a0_3]) (cs' := #[.slice A0_0 l0_0.length c0_0, .slice A0_1 l0_1.length c0_1, .int .i64 ((wrap64 (a0_2 - 1))), .bool a0_3]) (BK1.out) 2 _ rfl); have hsz_ : (gb2 + 1) ≤ w3.heap.size := Nat.le_trans HT.out hkp.1; have n0_ := aD.mk (aV BK2.out hkp (fun h2_ => by have o_ := HORD.out; have t_ := HT.out; (try simp only [In2, Up, In, Ex, Exb] at h2_); omega)); have n1_ := aD.mk (hbn_); have n2_ := aD.mk (hbk_); have n3_ := aD.mk (hsz_); (try clear BK2); (try clear HB); (try clear BK1); (try clear HT); have BK2 := n0_; have HB := n1_; have BK1 := n2_; have HT := n3_; clear n0_ n1_ n2_ n3_; clear hw_ hkp hge_ hbn_ hbk_ hsz_; have hzgb1_0_3 : w3.cell? ⟨gb1, 0, none⟩ = some (.slice A0_0 l0_0.length c0_0) := (aC BK1.out 0).trans rfl; have hygb1_0_3 := aA BK1.out 0; have hzgb1_1_3 : w3.cell? ⟨gb1, 1, none⟩ = some (.slice A0_1 l0_1.length c0_1) := (aC BK1.out 1).trans rfl; have hygb1_1_3 := aA BK1.out 1; have hzgb1_2_3 : w3.cell? ⟨gb1, 2, none⟩ = some (.int .i64 ((wrap64 (a0_2 - 1)))) := (aC BK1.out 2).trans rfl; have hygb1_2_3 := aA BK1.out 2; have hzgb1_3_3 : w3.cell? ⟨gb1, 3, none⟩ = some (.bool a0_3) := (aC BK1.out 3).trans rfl; have hygb1_3_3 := aA BK1.out 3; have hzgb2_0_3 : w3.cell? ⟨gb2, 0, none⟩ = some (.slice none 0 0) := (aC BK2.out 0).trans rfl; have hygb2_0_3 := aA BK2.out 0; have hzgb2_1_3 : w3.cell? ⟨gb2, 1, none⟩ = some (.slice none 0 0) := (aC BK2.out 1).trans rfl; have hygb2_1_3 := aA BK2.out 1; have hzgb2_2_3 : w3.cell? ⟨gb2, 2, none⟩ = some (.int .i64 0) := (aC BK2.out 2).trans rfl; have hygb2_2_3 := aA BK2.out 2; have hzgb2_3_3 : w3.cell? ⟨gb2, 3, none⟩ = some (.bool false) := (aC BK2.out 3).trans rfl; have hygb2_3_3 := aA BK2.out 3) | ((with_reducible refine bK (t := 25) (p := 2) rfl ?_); refine bG (t := 25) (p := 2) (v := ?vo_w4) (w1 := ((((w3.setCell ⟨gb2, 0, none⟩ (.slice A0_0 l0_0.length c0_0)).setCell ⟨gb2, 1, none⟩ (.slice A0_1 l0_1.length c0_1)).setCell ⟨gb2, 2, none⟩ (.int .i64 ((wrap64 (a0_2 - 1))))).setCell ⟨gb2, 3, none⟩ (.bool a0_3))) ?hg ?ho ?hn ?hr ?_; (case ho => rfl); (case hg => rfl); (case hn => rfl); (case hr => first | (go_simp; done) | (go_simp; rfl)); intro w4 hw_; have hkp : Kept w3 w4 (fun k_ => k_ = gb2) := (by rw [hw_]; exact Kept.setCell (Kept.setCell (Kept.setCell (Kept.setCell (Kept.refl w3 (fun k_ => k_ = gb2)) (.inl rfl) (.slice A0_0 l0_0.length c0_0)) (.inl rfl) (.slice A0_1 l0_1.length c0_1)) (.inl rfl) (.int .i64 ((wrap64 (a0_2 - 1))))) (.inl rfl) (.bool a0_3)); have hge_ : w.heap.size ≤ gb2 := (by have o_ := HORD.out; (try unfold In at *); (try show _ ≠ _); omega); have hbn_ : Below w.heap.size w w4 := (by rw [hw_]; exact aG (aG (aG (aG (HB.out) hge_) hge_) hge_) hge_); have hbk_ : w4.heap[gb2]? = some (.cells #[.slice A0_0 l0_0.length c0_0, .slice A0_1 l0_1.length c0_1, .int .i64 ((wrap64 (a0_2 - 1))), .bool a0_3] 25 (0, 0)) := (by rw [hw_]; exact aT (cs := #[.slice A0_0 l0_0.length c0_0, .slice A0_1 l0_1.length c0_1, .int .i64 ((wrap64 (a0_2 - 1))), .bool false]) (cs' := #[.slice A0_0 l0_0.length c0_0, .slice A0_1 l0_1.length c0_1, .int .i64 ((wrap64 (a0_2 - 1))), .bool a0_3]) (aT (cs := #[.slice A0_0 l0_0.length c0_0, .slice A0_1 l0_1.length c0_1, .int .i64 0, .bool false]) (cs' := #[.slice A0_0 l0_0.length c0_0, .slice A0_1 l0_1.length c0_1, .int .i64 ((wrap64 (a0_2 - 1))), .bool false]) (aT (cs := #[.slice A0_0 l0_0.length c0_0, .slice none 0 0, .int .i64 0, .bool false]) (cs' := #[.slice A0_0 l0_0.length c0_0, .slice A0_1 l0_1.length c0_1, .int .i64 0, .bool false]) (aT (cs := #[.slice none 0 0, .slice none 0 0, .int .i64 0, .bool false]) (cs' := #[.slice A0_0 l0_0.length c0_0, .slice none 0 0, .int .i64 0, .bool false]) (BK2.out) 0 _ rfl) 1 _ rfl) 2 _ rfl) 3 _ rfl); have hsz_ : (gb2 + 1) ≤ w4.heap.size := Nat.le_trans HT.out hkp.1; have n0_ := aD.mk (aV BK1.out hkp (fun h2_ => by have o_ := HORD.out; have t_ := HT.out; (try simp only [In2, Up, In, Ex, Exb] at h2_); omega)); have n1_ := aD.mk (hbn_); have n2_ := aD.mk (hbk_); have n3_ := aD.mk (hsz_); (try clear BK1); (try clear HB); (try clear BK2); (try clear HT); have BK1 := n0_; have HB := n1_; have BK2 := n2_; have HT := n3_; clear n0_ n1_ n2_ n3_; clear hw_ hkp hge_ hbn_ hbk_ hsz_; have hzgb1_0_4 : w4.cell? ⟨gb1, 0, none⟩ = some (.slice A0_0 l0_0.length c0_0) := (aC BK1.out 0).trans rfl; have hygb1_0_4 := aA BK1.out 0; have hzgb1_1_4 : w4.cell? ⟨gb1, 1, none⟩ = some (.slice A0_1 l0_1.length c0_1) := (aC BK1.out 1).trans rfl; have hygb1_1_4 := aA BK1.out 1; have hzgb1_2_4 : w4.cell? ⟨gb1, 2, none⟩ = some (.int .i64 ((wrap64 (a0_2 - 1)))) := (aC BK1.out 2).trans rfl; have hygb1_2_4 := aA BK1.out 2; have hzgb1_3_4 : w4.cell? ⟨gb1, 3, none⟩ = some (.bool a0_3) := (aC BK1.out 3).trans rfl; have hygb1_3_4 := aA BK1.out 3; have hzgb2_0_4 : w4.cell? ⟨gb2, 0, none⟩ = some (.slice A0_0 l0_0.length c0_0) := (aC BK2.out 0).trans rfl; have hygb2_0_4 := aA BK2.out 0; have hzgb2_1_4 : w4.cell? ⟨gb2, 1, none⟩ = some (.slice A0_1 l0_1.length c0_1) := (aC BK2.out 1).trans rfl; have hygb2_1_4 := aA BK2.out 1; have hzgb2_2_4 : w4.cell? ⟨gb2, 2, none⟩ = some (.int .i64 ((wrap64 (a0_2 - 1)))) := (aC BK2.out 2).trans rfl; have hygb2_2_4 := aA BK2.out 2; have hzgb2_3_4 : w4.cell? ⟨gb2, 3, none⟩ = some (.bool a0_3) := (aC BK2.out 3).trans rfl; have hygb2_3_4 := aA BK2.out 3))
 refine bodyPost_ret (results_ct rfl _ _ gb2 25 #[.slice A0_0 l0_0.length c0_0, .slice A0_1 l0_1.length c0_1, .int .i64 ((wrap64 (a0_2 - 1))), .bool a0_3] (0, 0) _ rfl BK2.out Try.underlying25 rfl (by kernel_rfl)) rfl ?_
 exact ⟨rfl, HB.out⟩
set_option maxHeartbeats 8000000 in
set_option maxRecDepth 100000 in
theorem walk_burn2 (A0_0 : Option Addr) (c0_0 : Nat) (l0_0 : List (List (Int))) (A0_1 : Option Addr) (c0_1 : Nat) (l0_1 : List (S50)) (a0_2 : Int) (a0_3 : Bool) (w : World) (hp0 : a0_2 < 0) :
  Calls Try.prog 59 #[.agg #[.slice A0_0 l0_0.length c0_0, .slice A0_1 l0_1.length c0_1, .int .i64 a0_2, .bool a0_3]] w fun e w' => e = .returned (.tuple #[.agg #[.slice A0_0 l0_0.length c0_0, .slice A0_1 l0_1.length c0_1, .int .i64 a0_2, .bool a0_3], .bool true]) ∧ Below w.heap.size w w' := by
 have hu25 := Try.underlying25
 have HB := aD.mk (Below.refl w.heap.size w)
 have HORD := aD.mk (Nat.le_refl w.heap.size)
 have HT := aD.mk (Nat.le_refl w.heap.size)
 have d1_ : (a0_2 == 0) = false := beq_eq_false_iff_ne.mpr (by omega)
 have d2_ : decide (0 < a0_2) = false := decide_eq_false (by omega)
 go_enter Try.func59, Try.ntmps59
 go_wp2_with (first | ((with_reducible refine bE (N := 1) rfl ?_); refine bD ?hg (N := 1) ?hd (cs := #[.slice A0_0 l0_0.length c0_0, .slice A0_1 l0_1.length c0_1, .int .i64 a0_2, .bool a0_3]) (t := 25) ?hr ?_; (case hd => rfl); (case hg => rfl); (case hr => first | (go_simp; done) | (go_simp; rfl)); intro gb1 hg_ w1 hbox hb; have hge_ : w.heap.size ≤ gb1 := (by rw [hg_]; exact HT.out); have hlt_ : gb1 + 1 ≤ w1.heap.size := bJ hbox; have n0_ := aD.mk (aQ HB.out hb); have n1_ := aD.mk (hbox); have n2_ := aD.mk (And.intro HORD.out (And.intro hge_ (Nat.le_succ gb1))); have n3_ := aD.mk (hlt_); (try clear HB); (try clear BK1); (try clear HORD); (try clear HT); have HB := n0_; have BK1 := n1_; have HORD := n2_; have HT := n3_; clear n0_ n1_ n2_ n3_; clear hb hbox hg_ hge_ hlt_; have hzgb1_0_1 : w1.cell? ⟨gb1, 0, none⟩ = some (.slice A0_0 l0_0.length c0_0) := (aC BK1.out 0).trans rfl; have hygb1_0_1 := aA BK1.out 0; have hzgb1_1_1 : w1.cell? ⟨gb1, 1, none⟩ = some (.slice A0_1 l0_1.length c0_1) := (aC BK1.out 1).trans rfl; have hygb1_1_1 := aA BK1.out 1; have hzgb1_2_1 : w1.cell? ⟨gb1, 2, none⟩ = some (.int .i64 a0_2) := (aC BK1.out 2).trans rfl; have hygb1_2_1 := aA BK1.out 2; have hzgb1_3_1 : w1.cell? ⟨gb1, 3, none⟩ = some (.bool a0_3) := (aC BK1.out 3).trans rfl; have hygb1_3_1 := aA BK1.out 3) | ((with_reducible refine bE (N := 2) rfl ?_); refine bD ?hg (N := 2) ?hd (cs := #[.slice none 0 0, .slice none 0 0, .int .i64 0, .bool false]) (t := 25) ?hr ?_; (case hd => rfl); (case hg => rfl); (case hr => first | (go_simp; done) | (go_simp; rfl)); intro gb2 hg_ w2 hbox hb; have hge_ : (gb1 + 1) ≤ gb2 := (by rw [hg_]; exact HT.out); have hlt_ : gb2 + 1 ≤ w2.heap.size := bJ hbox; have n0_ := aD.mk (aH BK1.out hb); have n1_ := aD.mk (aQ HB.out hb); have n2_ := aD.mk (hbox); have n3_ := aD.mk (And.intro HORD.out (And.intro hge_ (Nat.le_succ gb2))); have n4_ := aD.mk (hlt_); (try clear BK1); (try clear HB); (try clear BK2); (try clear HORD); (try clear HT); have BK1 := n0_; have HB := n1_; have BK2 := n2_; have HORD := n3_; have HT := n4_; clear n0_ n1_ n2_ n3_ n4_; clear hb hbox hg_ hge_ hlt_; have hzgb1_0_2 : w2.cell? ⟨gb1, 0, none⟩ = some (.slice A0_0 l0_0.length c0_0) := (aC BK1.out 0).trans rfl; have hygb1_0_2 := aA BK1.out 0; have hzgb1_1_2 : w2.cell? ⟨gb1, 1, none⟩ = some (.slice A0_1 l0_1.length c0_1) := (aC BK1.out 1).trans rfl; have hygb1_1_2 := aA BK1.out 1; have hzgb1_2_2 : w2.cell? ⟨gb1, 2, none⟩ = some (.int .i64 a0_2) := (aC BK1.out 2).trans rfl; have hygb1_2_2 := aA BK1.out 2; have hzgb1_3_2 : w2.cell? ⟨gb1, 3, none⟩ = some (.bool a0_3) := (aC BK1.out 3).trans rfl; have hygb1_3_2 := aA BK1.out 3; have hzgb2_0_2 : w2.cell? ⟨gb2, 0, none⟩ = some (.slice none 0 0) := (aC BK2.out 0).trans rfl; have hygb2_0_2 := aA BK2.out 0; have hzgb2_1_2 : w2.cell? ⟨gb2, 1, none⟩ = some (.slice none 0 0) := (aC BK2.out 1).trans rfl; have hygb2_1_2 := aA BK2.out 1; have hzgb2_2_2 : w2.cell? ⟨gb2, 2, none⟩ = some (.int .i64 0) := (aC BK2.out 2).trans rfl; have hygb2_2_2 := aA BK2.out 2; have hzgb2_3_2 : w2.cell? ⟨gb2, 3, none⟩ = some (.bool false) := (aC BK2.out 3).trans rfl; have hygb2_3_2 := aA BK2.out 3) | ((with_reducible refine bK (t := 25) (p := 2) rfl ?_); refine bG (t := 25) (p := 2) (v := ?vo_w3) (w1 := ((((w2.setCell ⟨gb2, 0, none⟩ (.slice A0_0 l0_0.length c0_0)).setCell ⟨gb2, 1, none⟩ (.slice A0_1 l0_1.length c0_1)).setCell ⟨gb2, 2, none⟩ (.int .i64 a0_2)).setCell ⟨gb2, 3, none⟩ (.bool a0_3))) ?hg ?ho ?hn ?hr ?_; (case ho => rfl); (case hg => rfl); (case hn => rfl); (case hr => first | (go_simp; done) | (go_simp; rfl)); intro w3 hw_; have hkp : Kept w2 w3 (fun k_ => k_ = gb2) := (by rw [hw_]; exact Kept.setCell (Kept.setCell (Kept.setCell (Kept.setCell (Kept.refl w2 (fun k_ => k_ = gb2)) (.inl rfl) (.slice A0_0 l0_0.length c0_0)) (.inl rfl) (.slice A0_1 l0_1.length c0_1)) (.inl rfl) (.int .i64 a0_2)) (.inl rfl) (.bool a0_3)); have hge_ : w.heap.size ≤ gb2 := (by have o_ := HORD.out; (try unfold In at *); (try show _ ≠ _); omega); have hbn_ : Below w.heap.size w w3 := (by rw [hw_]; exact aG (aG (aG (aG (HB.out) hge_) hge_) hge_) hge_); have hbk_ : w3.heap[gb2]? = some (.cells #[.slice A0_0 l0_0.length c0_0, .slice A0_1 l0_1.length c0_1, .int .i64 a0_2, .bool a0_3] 25 (0, 0)) := (by rw [hw_]; exact aT (cs := #[.slice A0_0 l0_0.length c0_0, .slice A0_1 l0_1.length c0_1, .int .i64 a0_2, .bool false]) (cs' := #[.slice A0_0 l0_0.length c0_0, .slice A0_1 l0_1.length c0_1, .int .i64 a0_2, .bool a0_3]) (aT (cs := #[.slice A0_0 l0_0.length c0_0, .slice A0_1 l0_1.length c0_1, .int .i64 0, .bool false]) (cs' := #[.slice A0_0 l0_0.length c0_0, .slice A0_1 l0_1.length c0_1, .int .i64 a0_2, .bool false]) (aT (cs := #[.slice A0_0 l0_0.length c0_0, .slice none 0 0, .int .i64 0, .bool false]) (cs' := #[.slice A0_0 l0_0.length c0_0, .slice A0_1 l0_1.length c0_1, .int .i64 0, .bool false]) (aT (cs := #[.slice none 0 0, .slice none 0 0, .int .i64 0, .bool false]) (cs' := #[.slice A0_0 l0_0.length c0_0, .slice none 0 0, .int .i64 0, .bool false]) (BK2.out) 0 _ rfl) 1 _ rfl) 2 _ rfl) 3 _ rfl); have hsz_ : (gb2 + 1) ≤ w3.heap.size := Nat.le_trans HT.out hkp.1; have n0_ := aD.mk (aV BK1.out hkp (fun h2_ => by have o_ := HORD.out; have t_ := HT.out; (try simp only [In2, Up, In, Ex, Exb] at h2_); omega)); have n1_ := aD.mk (hbn_); have n2_ := aD.mk (hbk_); have n3_ := aD.mk (hsz_); (try clear BK1); (try clear HB); (try clear BK2); (try clear HT); have BK1 := n0_; have HB := n1_; have BK2 := n2_; have HT := n3_; clear n0_ n1_ n2_ n3_; clear hw_ hkp hge_ hbn_ hbk_ hsz_; have hzgb1_0_3 : w3.cell? ⟨gb1, 0, none⟩ = some (.slice A0_0 l0_0.length c0_0) := (aC BK1.out 0).trans rfl; have hygb1_0_3 := aA BK1.out 0; have hzgb1_1_3 : w3.cell? ⟨gb1, 1, none⟩ = some (.slice A0_1 l0_1.length c0_1) := (aC BK1.out 1).trans rfl; have hygb1_1_3 := aA BK1.out 1; have hzgb1_2_3 : w3.cell? ⟨gb1, 2, none⟩ = some (.int .i64 a0_2) := (aC BK1.out 2).trans rfl; have hygb1_2_3 := aA BK1.out 2; have hzgb1_3_3 : w3.cell? ⟨gb1, 3, none⟩ = some (.bool a0_3) := (aC BK1.out 3).trans rfl; have hygb1_3_3 := aA BK1.out 3; have hzgb2_0_3 : w3.cell? ⟨gb2, 0, none⟩ = some (.slice A0_0 l0_0.length c0_0) := (aC BK2.out 0).trans rfl; have hygb2_0_3 := aA BK2.out 0; have hzgb2_1_3 : w3.cell? ⟨gb2, 1, none⟩ = some (.slice A0_1 l0_1.length c0_1) := (aC BK2.out 1).trans rfl; have hygb2_1_3 := aA BK2.out 1; have hzgb2_2_3 : w3.cell? ⟨gb2, 2, none⟩ = some (.int .i64 a0_2) := (aC BK2.out 2).trans rfl; have hygb2_2_3 := aA BK2.out 2; have hzgb2_3_3 : w3.cell? ⟨gb2, 3, none⟩ = some (.bool a0_3) := (aC BK2.out 3).trans rfl; have hygb2_3_3 := aA BK2.out 3))
 refine bodyPost_ret (results_ct rfl _ _ gb2 25 #[.slice A0_0 l0_0.length c0_0, .slice A0_1 l0_1.length c0_1, .int .i64 a0_2, .bool a0_3] (0, 0) _ rfl BK2.out Try.underlying25 rfl (by kernel_rfl)) rfl ?_
 exact ⟨rfl, HB.out⟩
def impl_burnS.f (a0_2 : Int) (a0_3 : Bool) : Option (Int × Bool × Bool) := some (burnF a0_2 a0_3)
theorem impl_burnS.calls (A0_0 : Option Addr) (c0_0 : Nat) (l0_0 : List (List Int)) (A0_1 : Option Addr) (c0_1 : Nat) (l0_1 : List (S50)) (a0_2 : Int) (a0_3 : Bool) (r1 : Int) (r2 : Bool) (r3 : Bool) (w : World) (h : impl_burnS.f a0_2 a0_3 = some (r1, r2, r3)) :
  Calls Try.prog 59 #[.agg #[.slice A0_0 l0_0.length c0_0, .slice A0_1 l0_1.length c0_1, .int .i64 a0_2, .bool a0_3]] w fun e w' => e = .returned (.tuple #[.agg #[.slice A0_0 l0_0.length c0_0, .slice A0_1 l0_1.length c0_1, .int .i64 r1, .bool r2], .bool r3]) ∧ Below w.heap.size w w' := by
 unfold impl_burnS.f burnF at h
 replace h := Option.some.inj h
 by_cases h0 : a0_2 = 0
 ·rw [if_pos h0] at h
  subst h0
  simp only [Prod.mk.injEq] at h
  obtain ⟨rfl, rfl, rfl⟩ := h
  exact walk_burn0 _ _ _ _ _ _ _ w
 ·rw [if_neg h0] at h
  by_cases h1 : 0 < a0_2
  ·rw [if_pos h1] at h
   simp only [Prod.mk.injEq] at h
   obtain ⟨rfl, rfl, rfl⟩ := h
   exact walk_burn1 _ _ _ _ _ _ _ _ w h1
  ·rw [if_neg h1] at h
   simp only [Prod.mk.injEq] at h
   obtain ⟨rfl, rfl, rfl⟩ := h
   exact walk_burn2 _ _ _ _ _ _ _ _ w (by omega)
end Go.Proofs.Ytilhcaofpfeioaa.Law
