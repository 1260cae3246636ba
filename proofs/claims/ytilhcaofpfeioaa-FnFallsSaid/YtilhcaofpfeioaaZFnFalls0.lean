/- The law: the functions that it reaches, each with the proof that the machine's call comes to its answer, what they answer, and the law's row; each theorem says its conditions itself. -/
import Derived.Test.YtilhcaofpfeioaaVFnFalls
import Derived.Test.YtilhcaofpfeioaaProg
import Derived.Below
import Derived.Deep.Draws
import Derived.Deep.AppendLies
import Derived.Maps.AppendAt
import Derived.OwnWalk
import Derived.Laws.BytesArg
import Derived.Laws.MakeOwn
import Derived.Laws.OwnMore
import Derived.Deep.OwnRows
import Derived.Tactics
import Derived.Lib.ConvBytes
import Derived.Laws.Slices
import Derived.WalkKit
import Derived.KernelRfl
import Derived.RowKit3
import Derived.Deep.LoopGhost
import Derived.Deep.QuietTactic
import Derived.BigQuiet
import Derived.WideLaws
import Derived.Deep.DeepCutAuto
import Derived.Deep.CutBlock
import Derived.Deep.RegionHeld3
import Derived.Laws.Rows
import Derived.Lib.AppendStr
import Derived.ArgAppend
import Derived.Laws.IdiomCopy
import Derived.OrdersHeld
import Derived.Laws.BitsLemmas
import Derived.RowKit
import Derived.IntWalk
namespace Go.Proofs.Ytilhcaofpfeioaa.PFnFalls
open Go.RowKit Go.Proofs.YtilhcaofpfeioaaW.PrintWords Go.Proofs.YtilhcaofpfeioaaW.PrintLast Go.Proofs.YtilhcaofpfeioaaW.PrintMore
attribute [local go_sem] max2_int min2_int max_two min_two max_three min_three max_four min_four   -- for this text's walks alone
set_option linter.unusedVariables false
set_option linter.unusedSimpArgs false
def errW : Option Int → Value
 | none => .nilIface
 | some c => .iface 0 (.int .i64 c)
theorem errW_none : errW none = .nilIface := rfl
theorem errW_some (c : Int) : errW (some c) = .iface 0 (.int .i64 c) := rfl
theorem info5 : (Try.prog.info? 5).map (fun i => (i.zero, i.size, i.bytes)) = some (some (.int .u8 0), 1, 1) := by kernel_rfl
theorem info37 : (Try.prog.info? 37).map (fun i => (i.zero, i.size, i.bytes)) = some (some (.slice none 0 0), 1, 24) := by kernel_rfl
theorem info50 : (Try.prog.info? 50).map (fun i => (i.zero, i.size, i.bytes)) = some (some (.agg #[(.int .i64 0), (.slice none 0 0)]), 2, 32) := by kernel_rfl
-- the values' own types
def rd_L1 (xs : List (List Int)) (i : Int) : (List Int) := xs.getD i.toNat ([] : List Int)
theorem at_L1 {w : World} {A : Option Addr} {n : Nat} {xs : List (List Int)} (h : Kd.C (Kd.slice 5 (Kd.int .u8)) w A n xs) (i : Int) (h0 : 0 ≤ i) (h1 : i < n) : ∃ ad A0 c0, A = some ad ∧ w.cell? (ad.add i.toNat) = some (.slice A0 (rd_L1 xs i).length c0) ∧ (rd_L1 xs i).length ≤ c0 ∧ (Kd.int .u8).C w A0 (rd_L1 xs i).length (rd_L1 xs i) := by
 obtain ⟨ad, c, e, _, hK, hc0⟩ := Kd.C_get h ([] : List Int) i h0 h1
 have hc : ∀ j u, c[j]? = some u → w.cell? (ad.add (i.toNat * 1 + j)) = some u := hc0
 obtain ⟨A0, c0, rfl, l0, g0⟩ := hK
 exact ⟨ad, A0, c0, e, by have hq := hc 0 _ rfl; rwa [Nat.mul_one, Nat.add_zero] at hq, l0, g0⟩
structure S50 where
 f0 : Int
 f1 : (List Int)
def z50 : S50 := ⟨(0 : Int), ([] : List Int)⟩
def k50 : Kd S50 := Kd.iso (Kd.pair (Kd.int .i64) (Kd.slice 5 (Kd.int .u8))) (fun x : S50 => (x.f0, x.f1))
theorem k50_open {w : World} {x : S50} {cs : List Value} (h : k50.K w x cs) : ∃ A1 c1, cs = [.int .i64 x.f0, .slice A1 x.f1.length c1] ∧ x.f1.length ≤ c1 ∧ (Kd.int .u8).C w A1 x.f1.length x.f1 := by
 obtain ⟨_, _, rfl, rfl, ⟨A1, c1, rfl, l1, g1⟩⟩ := h
 exact ⟨A1, c1, rfl, l1, g1⟩
theorem k50_mk (w : World) (x : S50) {A1 : Option Addr} {c1 : Nat} (l1 : x.f1.length ≤ c1) (g1 : (Kd.int .u8).C w A1 x.f1.length x.f1) : k50.K w x [.int .i64 x.f0, .slice A1 x.f1.length c1] := ⟨[.int .i64 x.f0], [.slice A1 x.f1.length c1], rfl, rfl, ⟨A1, c1, rfl, l1, g1⟩⟩
theorem k50_mkM (w : World) (base : Nat) (ok : Nat → Prop) (x : S50) {v1 : Value} (g1 : (Kd.int .u8).R 5 w base ok v1 x.f1) : k50.M w base ok x [.int .i64 x.f0, v1] := ⟨[.int .i64 x.f0], [v1], rfl, rfl, ⟨v1, rfl, g1⟩⟩
theorem k50_openF {W : World} {ok : Nat → Prop} {x : S50} {cs : List Value} (h : Kd.FK k50 W ok x cs) : ∃ A1 c1, cs = [.int .i64 x.f0, .slice A1 x.f1.length c1] ∧ x.f1.length ≤ c1 ∧ Kd.F (Kd.int .u8) W ok A1 x.f1.length x.f1 := by
 obtain ⟨A1, c1, rfl, l1, _⟩ := k50_open (Kd.FK_now h)
 exact ⟨A1, c1, rfl, l1, (fun W' hW => by obtain ⟨A1_, c1_, he, l1_, g1_⟩ := k50_open (h W' hW); injection (Option.some.inj (show some (Value.slice A1 x.f1.length c1) = some (Value.slice A1_ x.f1.length c1_) from congrArg (fun l => l[1]?) he)) with ha_ _ _; rw [ha_]; exact g1_)⟩
theorem k50_mkF (W : World) (ok : Nat → Prop) (x : S50) {A1 : Option Addr} {c1 : Nat} (l1 : x.f1.length ≤ c1) (g1 : Kd.F (Kd.int .u8) W ok A1 x.f1.length x.f1) : Kd.FK k50 W ok x [.int .i64 x.f0, .slice A1 x.f1.length c1] := fun W2 hW => k50_mk W2 x l1 (g1 W2 hW)
def rd_T50 (xs : List S50) (i : Int) : S50 := xs.getD i.toNat z50
theorem at_T50 {w : World} {A : Option Addr} {n : Nat} {xs : List S50} (h : Kd.C k50 w A n xs) (i : Int) (h0 : 0 ≤ i) (h1 : i < n) : ∃ ad A1 c1, A = some ad ∧ w.cell? (ad.add (i.toNat * 2)) = some (.int .i64 (rd_T50 xs i).f0) ∧ w.cell? ⟨(ad.add (i.toNat * 2)).block, (ad.add (i.toNat * 2)).off + 1, none⟩ = some (.slice A1 (rd_T50 xs i).f1.length c1) ∧ (rd_T50 xs i).f1.length ≤ c1 ∧ (Kd.int .u8).C w A1 (rd_T50 xs i).f1.length (rd_T50 xs i).f1 := by
 obtain ⟨ad, c, e, _, hK, hc0⟩ := Kd.C_get h z50 i h0 h1
 have hc : ∀ j u, c[j]? = some u → w.cell? (ad.add (i.toNat * 2 + j)) = some u := hc0
 obtain ⟨A1, c1, rfl, l1, g1⟩ := k50_open hK
 exact ⟨ad, A1, c1, e, hc 0 _ rfl, by rw [← add_field _ _ 1 (by omega)]; exact hc 1 _ rfl, l1, g1⟩
end Go.Proofs.Ytilhcaofpfeioaa.PFnFalls

namespace Go.Proofs.Ytilhcaofpfeioaa.PFnFalls
open Go.RowKit Go.Proofs.YtilhcaofpfeioaaW.PrintWords Go.Proofs.YtilhcaofpfeioaaW.PrintLast Go.Proofs.YtilhcaofpfeioaaW.PrintMore
attribute [local go_sem] max2_int min2_int max_two min_two max_three min_three max_four min_four   -- for this text's walks alone
set_option linter.unusedVariables false
set_option linter.unusedSimpArgs false
def impl_within.f (a0 : Int) (a1 : Int) (a2 : Int) : Option (Bool) := if a0 ≥ a1 then (some (decide (a0 ≤ a2))) else (some false)
set_option maxHeartbeats 8000000 in
set_option maxRecDepth 100000 in
theorem impl_within.calls (a0 : Int) (a1 : Int) (a2 : Int) (r : Bool) (w : World) (h : impl_within.f a0 a1 a2 = some r) :
  Calls Try.prog 44 #[.int .i64 a0, .int .i64 a1, .int .i64 a2] w fun e w' => e = .returned (.bool r) ∧ Drawn0 w w' := by
 have H : (if a0 ≥ a1 then (some (decide (a0 ≤ a2))) else (some false)) = some r := h
 clear h
 by_cases c4 : a0 ≥ a1
 ·rw [if_pos c4] at H
  have c4b0 : decide (a1 ≤ a0) = true := decide_eq_true c4
  clear c4
  obtain rfl := Option.some.inj H
  go_enter Try.func44, Try.ntmps44
  go_wp2
  go_ret
  exact ⟨by first | rfl | (simp; done) | (simp [*]; done), by repeat (first | exact Drawn0.refl _ | apply Drawn0.step)⟩
 ·rw [if_neg c4] at H
  have c4b0 : decide (a1 ≤ a0) = false := decide_eq_false c4
  clear c4
  obtain rfl := Option.some.inj H
  go_enter Try.func44, Try.ntmps44
  go_wp2
  go_ret
  exact ⟨by first | rfl | (simp; done) | (simp [*]; done), by repeat (first | exact Drawn0.refl _ | apply Drawn0.step)⟩
mutual
def impl_DevOk.j0 : Nat → Bool → List (List Int) → List (S50) → Int → Bool → Option (Bool)
 | 0, _, _, _, _, _ => none
 | k + 1, x23, x102000, x102001, x102002, x102003 => if x23 = true then (some false) else (impl_DevOk.l0 k x102000 (x102000.length : Int) 0 x102000 x102001 x102002 x102003)
def impl_DevOk.l0 : Nat → List (List Int) → Int → Int → List (List Int) → List (S50) → Int → Bool → Option (Bool)
 | 0, _, _, _, _, _, _, _ => none
 | k + 1, x25, x26, x27, x102000, x102001, x102002, x102003 => if x27 < x26 then (if 0 ≤ x27 then (if x27 < (x25.length : Int) then (if ((rd_L1 x25 x27).length : Int) > 80 then (some false) else (impl_DevOk.l0 k x25 x26 (wrap64 (x27 + 1)) x102000 x102001 x102002 x102003)) else (none)) else (none)) else (impl_DevOk.l1 k x102001 (x102001.length : Int) 0 x102000 x102001 x102002 x102003)
def impl_DevOk.l1 : Nat → List (S50) → Int → Int → List (List Int) → List (S50) → Int → Bool → Option (Bool)
 | 0, _, _, _, _, _, _, _ => none
 | k + 1, x36, x37, x38, x102000, x102001, x102002, x102003 => if x38 < x37 then (if 0 ≤ x38 then (if x38 < (x36.length : Int) then ((impl_within.f ((rd_T50 x36 x38).f0) 0 (wrap64 ((x102000.length : Int) - 1))).bind fun t107 => (if t107 = true then (if (((rd_T50 x36 x38).f1).length : Int) > 80 then (some false) else (impl_DevOk.l1 k x36 x37 (wrap64 (x38 + 1)) x102000 x102001 x102002 x102003)) else (some false))) else (none)) else (none)) else (some true)
end
def impl_DevOk.f (k : Nat) (l0_0 : List (List Int)) (l0_1 : List (S50)) (a0_2 : Int) (a0_3 : Bool) : Option (Bool) := (impl_within.f (l0_0.length : Int) 1 60).bind fun t102 => (if t102 = true then (if (l0_1.length : Int) > 60 then (impl_DevOk.j0 k true l0_0 l0_1 a0_2 a0_3) else ((impl_within.f a0_2 (-1) 1000).bind fun t103 => (impl_DevOk.j0 k (!t103) l0_0 l0_1 a0_2 a0_3))) else (impl_DevOk.j0 k true l0_0 l0_1 a0_2 a0_3))
set_option maxHeartbeats 8000000 in
set_option maxRecDepth 100000 in
theorem impl_DevOk.calls (k : Nat) (A0_0 : Option Addr) (c0_0 : Nat) (l0_0 : List (List Int)) (A0_1 : Option Addr) (c0_1 : Nat) (l0_1 : List (S50)) (a0_2 : Int) (a0_3 : Bool) (r : Bool) (w : World) (hr0_0 : Kd.C (Kd.slice 5 (Kd.int .u8)) w A0_0 l0_0.length l0_0) (hc0_0 : l0_0.length ≤ c0_0) (hr0_1 : Kd.C k50 w A0_1 l0_1.length l0_1) (hc0_1 : l0_1.length ≤ c0_1) (h : impl_DevOk.f k l0_0 l0_1 a0_2 a0_3 = some r) :
  Calls Try.prog 20 #[.agg #[.slice A0_0 l0_0.length c0_0, .slice A0_1 l0_1.length c0_1, .int .i64 a0_2, .bool a0_3]] w fun e w' => e = .returned (.bool r) ∧ Below w.heap.size w w' := by
 have hu25 := Try.underlying25
 have hu50 := Try.underlying50
 have HR0_0 := aA.mk hr0_0
 have HC0_0 := aA.mk hc0_0
 clear hr0_0 hc0_0
 have HR0_1 := aA.mk hr0_1
 have HC0_1 := aA.mk hc0_1
 clear hr0_1 hc0_1
 have HB := aA.mk (Below.refl w.heap.size w)
 have H : ((impl_within.f (l0_0.length : Int) 1 60).bind fun t102 => (if t102 = true then (if (l0_1.length : Int) > 60 then (impl_DevOk.j0 k true l0_0 l0_1 a0_2 a0_3) else ((impl_within.f a0_2 (-1) 1000).bind fun t103 => (impl_DevOk.j0 k (!t103) l0_0 l0_1 a0_2 a0_3))) else (impl_DevOk.j0 k true l0_0 l0_1 a0_2 a0_3))) = some r := h
 clear h
 have HC2 := aA.mk H
 clear H
 go_enter Try.func20, Try.ntmps20
 go_upto_region 1 with (first | ((with_reducible refine gate_dst (N := 1) rfl ?_); (try (refine gate_guard (by rfl) ?_; dsimp only)); refine box_event ?hg (N := 1) ?hd (cs := #[.slice A0_0 l0_0.length c0_0, .slice A0_1 l0_1.length c0_1, .int .i64 a0_2, .bool a0_3]) (t := 25) ?hr ?_; (case hd => rfl); (case hg => rfl); (case hr => first | (go_simp; done) | (go_simp; rfl)); intro gb101 hg w3 hbox hb; have n0_ := aA.mk (bD (by repeat (first | (with_reducible first | exact HB.out | apply aM | apply aG | apply aJ) | exact HB.out)) hb); have n1_ := aA.mk (hbox); have n2_ := aA.mk ((by rw [hg]; exact (bH (by repeat (first | (with_reducible first | exact HB.out | apply aM | apply aG | apply aJ) | exact HB.out))) : w.heap.size ≤ gb101)); have n3_ := aA.mk ((by rw [hg]; exact (bH (by repeat (first | (with_reducible first | exact HB.out | apply aM | apply aG | apply aJ) | exact HB.out))) : w.heap.size ≤ gb101)); clear HB; have HB := n0_; have BK101 := n1_; have GW101 := n2_; have GE101 := n3_; clear n0_ n1_ n2_ n3_; clear hb hbox hg))
 (try simp only [Act.put, lA, lB, lC])
 go_cut [23] (fun v23 wc => ∃ (kq : Nat) (x23_1 : Bool), v23 = .bool x23_1 ∧ aA (impl_DevOk.j0 kq x23_1 l0_0 l0_1 a0_2 a0_3 = some r) ∧ aA (kq ≤ k) ∧ aA (wc.heap[gb101]? = some (.cells #[(.slice A0_0 l0_0.length c0_0), (.slice A0_1 l0_1.length c0_1), .int .i64 a0_2, .bool a0_3] 25 (0, 0))) ∧ aA (Below w.heap.size w wc))
 case first =>
  have H := HC2.out
  clear HC2
  replace H := lF H
  obtain ⟨t102, A40, H⟩ := H
  replace H : (if t102 = true then (if (l0_1.length : Int) > 60 then (impl_DevOk.j0 k true l0_0 l0_1 a0_2 a0_3) else ((impl_within.f a0_2 (-1) 1000).bind fun t103 => (impl_DevOk.j0 k (!t103) l0_0 l0_1 a0_2 a0_3))) else (impl_DevOk.j0 k true l0_0 l0_1 a0_2 a0_3)) = some r := H
  have A4 := aA.mk A40
  clear A40
  by_cases c5 : t102 = true
  ·subst c5
   have H1 : (if (l0_1.length : Int) > 60 then (impl_DevOk.j0 k true l0_0 l0_1 a0_2 a0_3) else ((impl_within.f a0_2 (-1) 1000).bind fun t103 => (impl_DevOk.j0 k (!t103) l0_0 l0_1 a0_2 a0_3))) = some r := by rw [if_pos rfl] at H; exact H
   clear H
   have H := H1
   clear H1
   by_cases c6 : (l0_1.length : Int) > 60
   ·rw [if_pos c6] at H
    have c6b0 : decide (60 < (l0_1.length : Int)) = true := decide_eq_true c6
    have c6b1 : decide (60 < l0_1.length) = true := decide_eq_true (by omega)
    clear c6
    (first | rw [c6b0] | (simp only [aU, aT]; rw [c6b0]) | skip)
    have H' := aA.mk H
    clear H
    have hcz7_0 : w3.cell? ⟨gb101, 0, none⟩ = some (.slice A0_0 l0_0.length c0_0) := (aD BK101.out 0).trans rfl
    have hcz7_1 : w3.cell? ⟨gb101, 1, none⟩ = some (.slice A0_1 l0_1.length c0_1) := (aD BK101.out 1).trans rfl
    have hcz7_2 : w3.cell? ⟨gb101, 2, none⟩ = some (.int .i64 a0_2) := (aD BK101.out 2).trans rfl
    have hcz7_3 : w3.cell? ⟨gb101, 3, none⟩ = some (.bool a0_3) := (aD BK101.out 3).trans rfl
    have hfz7_0 := aC BK101.out 0
    have hfz7_1 := aC BK101.out 1
    have hfz7_2 := aC BK101.out 2
    have hfz7_3 := aC BK101.out 3
    go_wp2_with (first | ((with_reducible refine bJ (f := 44) rfl ?_); refine goesL_ (some 10) rfl rfl Try.func44 (by kernel_rfl) rfl #[.int .i64 (l0_0.length : Int), .int .i64 1, .int .i64 60] rfl (by (try simp only [List.map_toArray, List.map_cons, List.map_nil]); first | done | rfl | (simp only [List.length_drop, List.length_take]; rfl)) ?_; (with_reducible refine (impl_within.calls (l0_0.length : Int) 1 60 true _ A4.out).mono ?_); rintro e w' ⟨rfl, ⟨nd, rfl⟩⟩; refine ⟨_, rfl, ?_⟩))
    go_meet
    case rel => exact ⟨_, (true), (by first | rfl | (simp; done) | (simp [*]; done)), H', ⟨by first | omega | exact Nat.le_refl _⟩, ⟨by (with_reducible repeat (first | refine aQ ?_ _ | refine aN ?_ | refine aH ?_ _)); exact BK101.out⟩, ⟨by repeat (first | (with_reducible first | exact HB.out | apply aM | apply aG | apply aJ | refine aE ?_ GE101.out) | exact HB.out)⟩⟩
   ·rw [if_neg c6] at H
    have c6b0 : decide (60 < (l0_1.length : Int)) = false := decide_eq_false c6
    have c6b1 : decide (60 < l0_1.length) = false := decide_eq_false (by omega)
    clear c6
    (first | rw [c6b0] | (simp only [aU, aT]; rw [c6b0]) | skip)
    replace H := lF H
    obtain ⟨t103, A80, H⟩ := H
    replace H : (impl_DevOk.j0 k (!t103) l0_0 l0_1 a0_2 a0_3) = some r := H
    have A8 := aA.mk A80
    clear A80
    have H' := aA.mk H
    clear H
    have hcz9_0 : w3.cell? ⟨gb101, 0, none⟩ = some (.slice A0_0 l0_0.length c0_0) := (aD BK101.out 0).trans rfl
    have hcz9_1 : w3.cell? ⟨gb101, 1, none⟩ = some (.slice A0_1 l0_1.length c0_1) := (aD BK101.out 1).trans rfl
    have hcz9_2 : w3.cell? ⟨gb101, 2, none⟩ = some (.int .i64 a0_2) := (aD BK101.out 2).trans rfl
    have hcz9_3 : w3.cell? ⟨gb101, 3, none⟩ = some (.bool a0_3) := (aD BK101.out 3).trans rfl
    have hfz9_0 := aC BK101.out 0
    have hfz9_1 := aC BK101.out 1
    have hfz9_2 := aC BK101.out 2
    have hfz9_3 := aC BK101.out 3
    go_wp2_with (first | ((with_reducible refine bJ (f := 44) rfl ?_); refine goesL_ (some 10) rfl rfl Try.func44 (by kernel_rfl) rfl #[.int .i64 (l0_0.length : Int), .int .i64 1, .int .i64 60] rfl (by (try simp only [List.map_toArray, List.map_cons, List.map_nil]); first | done | rfl | (simp only [List.length_drop, List.length_take]; rfl)) ?_; (with_reducible refine (impl_within.calls (l0_0.length : Int) 1 60 true _ A4.out).mono ?_); rintro e w' ⟨rfl, ⟨nd, rfl⟩⟩; refine ⟨_, rfl, ?_⟩) | (go_at_call 44; (with_reducible refine (impl_within.calls a0_2 (-1) 1000 t103 _ A8.out).mono ?_); rintro e w' ⟨rfl, ⟨nd, rfl⟩⟩))
    go_meet
    case rel => exact ⟨_, (!t103), (by first | rfl | (simp; done) | (simp [*]; done)), H', ⟨by first | omega | exact Nat.le_refl _⟩, ⟨by (with_reducible repeat (first | refine aQ ?_ _ | refine aN ?_ | refine aH ?_ _)); exact BK101.out⟩, ⟨by repeat (first | (with_reducible first | exact HB.out | apply aM | apply aG | apply aJ | refine aE ?_ GE101.out) | exact HB.out)⟩⟩
  ·replace c5 := Bool.eq_false_iff.mpr c5
   subst c5
   have H1 : (impl_DevOk.j0 k true l0_0 l0_1 a0_2 a0_3) = some r := by rw [if_neg (show ¬ (false = true) by decide)] at H; exact H
   clear H
   have H := H1
   clear H1
   have H' := aA.mk H
   clear H
   have hcz10_0 : w3.cell? ⟨gb101, 0, none⟩ = some (.slice A0_0 l0_0.length c0_0) := (aD BK101.out 0).trans rfl
   have hcz10_1 : w3.cell? ⟨gb101, 1, none⟩ = some (.slice A0_1 l0_1.length c0_1) := (aD BK101.out 1).trans rfl
   have hcz10_2 : w3.cell? ⟨gb101, 2, none⟩ = some (.int .i64 a0_2) := (aD BK101.out 2).trans rfl
   have hcz10_3 : w3.cell? ⟨gb101, 3, none⟩ = some (.bool a0_3) := (aD BK101.out 3).trans rfl
   have hfz10_0 := aC BK101.out 0
   have hfz10_1 := aC BK101.out 1
   have hfz10_2 := aC BK101.out 2
   have hfz10_3 := aC BK101.out 3
   go_wp2_with (first | ((with_reducible refine bJ (f := 44) rfl ?_); refine goesL_ (some 10) rfl rfl Try.func44 (by kernel_rfl) rfl #[.int .i64 (l0_0.length : Int), .int .i64 1, .int .i64 60] rfl (by (try simp only [List.map_toArray, List.map_cons, List.map_nil]); first | done | rfl | (simp only [List.length_drop, List.length_take]; rfl)) ?_; (with_reducible refine (impl_within.calls (l0_0.length : Int) 1 60 false _ A4.out).mono ?_); rintro e w' ⟨rfl, ⟨nd, rfl⟩⟩; refine ⟨_, rfl, ?_⟩))
   go_meet
   case rel => exact ⟨_, (true), (by first | rfl | (simp; done) | (simp [*]; done)), H', ⟨by first | omega | exact Nat.le_refl _⟩, ⟨by (with_reducible repeat (first | refine aQ ?_ _ | refine aN ?_ | refine aH ?_ _)); exact BK101.out⟩, ⟨by repeat (first | (with_reducible first | exact HB.out | apply aM | apply aG | apply aJ | refine aE ?_ GE101.out) | exact HB.out)⟩⟩
 case rest =>
  clear HC2
  try clear c2
  try clear p2
  try clear c4
  try clear c5
  try clear c6
  try clear c6b0
  try clear c6b1
  try clear hcz10_0
  try clear hcz10_1
  try clear hcz10_2
  try clear hcz10_3
  try clear hcz7_0
  try clear hcz7_1
  try clear hcz7_2
  try clear hcz7_3
  try clear hcz9_0
  try clear hcz9_1
  try clear hcz9_2
  try clear hcz9_3
  try clear hfz10_0
  try clear hfz10_1
  try clear hfz10_2
  try clear hfz10_3
  try clear hfz7_0
  try clear hfz7_1
  try clear hfz7_2
  try clear hfz7_3
  try clear hfz9_0
  try clear hfz9_1
  try clear hfz9_2
  try clear hfz9_3
  obtain ⟨kq, x23_1, rfl, HA, HJ1, BK101, HB⟩ := hcut
  cases kq with
  | zero => exact absurd HA.out (by simp [impl_DevOk.j0])
  | succ kj1 =>
   have H := HA.out
   clear HA
   simp only [impl_DevOk.j0] at H
   by_cases c11 : x23_1 = true
   ·subst c11
    have H1 : (some false) = some r := by rw [if_pos rfl] at H; exact H
    clear H
    have H := H1
    clear H1
    obtain rfl := Option.some.inj H
    go_wp2
    go_ret
    exact ⟨by first | rfl | (simp [errW_none, errW_some] <;> rfl) | (simp [*, errW_none, errW_some] <;> rfl), by repeat (first | (with_reducible first | exact HB.out | apply aM | apply aG | apply aJ | refine aE ?_ GE101.out) | exact HB.out)⟩
   ·replace c11 := Bool.eq_false_iff.mpr c11
    subst c11
    have H1 : (impl_DevOk.l0 kj1 l0_0 (l0_0.length : Int) 0 l0_0 l0_1 a0_2 a0_3) = some r := by rw [if_neg (show ¬ (false = true) by decide)] at H; exact H
    clear H
    have H := H1
    clear H1
    have H' := aA.mk H
    clear H
    have hcz12_0 : wc.cell? ⟨gb101, 0, none⟩ = some (.slice A0_0 l0_0.length c0_0) := (aD BK101.out 0).trans rfl
    have hcz12_1 : wc.cell? ⟨gb101, 1, none⟩ = some (.slice A0_1 l0_1.length c0_1) := (aD BK101.out 1).trans rfl
    have hcz12_2 : wc.cell? ⟨gb101, 2, none⟩ = some (.int .i64 a0_2) := (aD BK101.out 2).trans rfl
    have hcz12_3 : wc.cell? ⟨gb101, 3, none⟩ = some (.bool a0_3) := (aD BK101.out 3).trans rfl
    have hfz12_0 := aC BK101.out 0
    have hfz12_1 := aC BK101.out 1
    have hfz12_2 := aC BK101.out 2
    have hfz12_3 := aC BK101.out 3
    go_wp2
    go_loopg [27] kj1 (fun kq v27 w' => ∃ (x27_2 : Int), v27 = .int .i64 x27_2 ∧ aA (impl_DevOk.l0 kq l0_0 (l0_0.length : Int) x27_2 l0_0 l0_1 a0_2 a0_3 = some r) ∧ aA (kq ≤ kj1) ∧ aA (w'.heap[gb101]? = some (.cells #[(.slice A0_0 l0_0.length c0_0), (.slice A0_1 l0_1.length c0_1), .int .i64 a0_2, .bool a0_3] 25 (0, 0))) ∧ aA (Below w.heap.size w w'))
    case atStart => exact ⟨(0), (by first | rfl | (simp; done) | (simp [*]; done)), H', ⟨Nat.le_refl _⟩, ⟨by (with_reducible repeat (first | refine aQ ?_ _ | refine aN ?_ | refine aH ?_ _)); exact BK101.out⟩, ⟨by repeat (first | (with_reducible first | exact HB.out | apply aM | apply aG | apply aJ | refine aE ?_ GE101.out) | exact HB.out)⟩⟩
    case round =>
     clear H'
     try clear c1
     try clear c2
     try clear p2
     try clear c4
     try clear c5
     try clear c6
     try clear c6b0
     try clear c6b1
     try clear c11
     try clear hcz10_0
     try clear hcz10_1
     try clear hcz10_2
     try clear hcz10_3
     try clear hcz12_0
     try clear hcz12_1
     try clear hcz12_2
     try clear hcz12_3
     try clear hcz7_0
     try clear hcz7_1
     try clear hcz7_2
     try clear hcz7_3
     try clear hcz9_0
     try clear hcz9_1
     try clear hcz9_2
     try clear hcz9_3
     try clear hfz10_0
     try clear hfz10_1
     try clear hfz10_2
     try clear hfz10_3
     try clear hfz12_0
     try clear hfz12_1
     try clear hfz12_2
     try clear hfz12_3
     try clear hfz7_0
     try clear hfz7_1
     try clear hfz7_2
     try clear hfz7_3
     try clear hfz9_0
     try clear hfz9_1
     try clear hfz9_2
     try clear hfz9_3
     try clear p2
     obtain ⟨x27_2, rfl, HA, HK2, BK101, HB⟩ := hrel
     cases gk with
     | zero => exact absurd HA.out (by simp [impl_DevOk.l0])
     | succ k2 =>
      have H := HA.out
      clear HA
      simp only [impl_DevOk.l0] at H
      by_cases c13 : x27_2 < (l0_0.length : Int)
      ·rw [if_pos c13] at H
       have c13b0 : decide (x27_2 < (l0_0.length : Int)) = true := decide_eq_true c13
       clear c13
       by_cases c14 : 0 ≤ x27_2
       ·rw [if_pos c14] at H
        have c14b0 : decide (0 ≤ x27_2) = true := decide_eq_true c14
        clear c14
        by_cases c15 : x27_2 < (l0_0.length : Int)
        ·rw [if_pos c15] at H
         have c15b0 : decide (x27_2 < (l0_0.length : Int)) = true := decide_eq_true c15
         clear c15
         by_cases c16 : ((rd_L1 l0_0 x27_2).length : Int) > 80
         ·rw [if_pos c16] at H
          have c16b0 : decide (80 < ((rd_L1 l0_0 x27_2).length : Int)) = true := decide_eq_true c16
          have c16b1 : decide (80 < (rd_L1 l0_0 x27_2).length) = true := decide_eq_true (by omega)
          clear c16
          obtain rfl := Option.some.inj H
          have p104 : 0 ≤ (x27_2 : Int) := lE (by first | (with_reducible assumption) | assumption)
          have q104 : x27_2 < (l0_0.length : Int) := lE (by first | (with_reducible assumption) | assumption)
          obtain ⟨ad104, A104_0, c104_0, e104, hx104_0, hl104_0, hi104_0⟩ := at_L1 HR0_0.out x27_2 p104 q104
          cases e104
          replace hx104_0 := (HB.out.cell (lD w _ hx104_0)).trans hx104_0
          have HR104_0 := aA.mk hi104_0
          have HC104_0 := aA.mk hl104_0
          clear hi104_0 hl104_0
          replace p104 := eq_true p104
          replace q104 := eq_true q104
          go_wp2
          go_ret
          exact ⟨by first | rfl | (simp [errW_none, errW_some] <;> rfl) | (simp [*, errW_none, errW_some] <;> rfl), by repeat (first | (with_reducible first | exact HB.out | apply aM | apply aG | apply aJ | refine aE ?_ GE101.out) | exact HB.out)⟩
         ·rw [if_neg c16] at H
          have c16b0 : decide (80 < ((rd_L1 l0_0 x27_2).length : Int)) = false := decide_eq_false c16
          have c16b1 : decide (80 < (rd_L1 l0_0 x27_2).length) = false := decide_eq_false (by omega)
          clear c16
          have H' := aA.mk H
          clear H
          have p104 : 0 ≤ (x27_2 : Int) := lE (by first | (with_reducible assumption) | assumption)
          have q104 : x27_2 < (l0_0.length : Int) := lE (by first | (with_reducible assumption) | assumption)
          obtain ⟨ad104, A104_0, c104_0, e104, hx104_0, hl104_0, hi104_0⟩ := at_L1 HR0_0.out x27_2 p104 q104
          cases e104
          replace hx104_0 := (HB.out.cell (lD w _ hx104_0)).trans hx104_0
          have HR104_0 := aA.mk hi104_0
          have HC104_0 := aA.mk hl104_0
          clear hi104_0 hl104_0
          replace p104 := eq_true p104
          replace q104 := eq_true q104
          go_wp2
          go_roundg k2
          case measure => have := HJ1.out; have := HK2.out; omega
          case rel => exact ⟨(wrap64 (x27_2 + 1)), (by first | rfl | (simp; done) | (simp [*]; done)), H', ⟨by have := HJ1.out; have := HK2.out; omega⟩, ⟨by (with_reducible repeat (first | refine aQ ?_ _ | refine aN ?_ | refine aH ?_ _)); exact BK101.out⟩, ⟨by repeat (first | (with_reducible first | exact HB.out | apply aM | apply aG | apply aJ | refine aE ?_ GE101.out) | exact HB.out)⟩⟩
        ·rw [if_neg c15] at H
         exact absurd H (by simp)
       ·rw [if_neg c14] at H
        exact absurd H (by simp)
      ·rw [if_neg c13] at H
       have c13b0 : decide (x27_2 < (l0_0.length : Int)) = false := decide_eq_false c13
       clear c13
       have H' := aA.mk H
       clear H
       have hcz17_0 : wr.cell? ⟨gb101, 0, none⟩ = some (.slice A0_0 l0_0.length c0_0) := (aD BK101.out 0).trans rfl
       have hcz17_1 : wr.cell? ⟨gb101, 1, none⟩ = some (.slice A0_1 l0_1.length c0_1) := (aD BK101.out 1).trans rfl
       have hcz17_2 : wr.cell? ⟨gb101, 2, none⟩ = some (.int .i64 a0_2) := (aD BK101.out 2).trans rfl
       have hcz17_3 : wr.cell? ⟨gb101, 3, none⟩ = some (.bool a0_3) := (aD BK101.out 3).trans rfl
       have hfz17_0 := aC BK101.out 0
       have hfz17_1 := aC BK101.out 1
       have hfz17_2 := aC BK101.out 2
       have hfz17_3 := aC BK101.out 3
       go_wp2
       go_loopg [38] k2 (fun kq v38 w' => ∃ (x38_3 : Int), v38 = .int .i64 x38_3 ∧ aA (impl_DevOk.l1 kq l0_1 (l0_1.length : Int) x38_3 l0_0 l0_1 a0_2 a0_3 = some r) ∧ aA (kq ≤ k2) ∧ aA (w'.heap[gb101]? = some (.cells #[(.slice A0_0 l0_0.length c0_0), (.slice A0_1 l0_1.length c0_1), .int .i64 a0_2, .bool a0_3] 25 (0, 0))) ∧ aA (Below w.heap.size w w'))
       case atStart => exact ⟨(0), (by first | rfl | (simp; done) | (simp [*]; done)), H', ⟨Nat.le_refl _⟩, ⟨by (with_reducible repeat (first | refine aQ ?_ _ | refine aN ?_ | refine aH ?_ _)); exact BK101.out⟩, ⟨by repeat (first | (with_reducible first | exact HB.out | apply aM | apply aG | apply aJ | refine aE ?_ GE101.out) | exact HB.out)⟩⟩
       case round =>
        clear H'
        try clear c1
        try clear p1
        try clear q1
        try clear hx1
        try clear c2
        try clear p2
        try clear c4
        try clear c5
        try clear c6
        try clear c6b0
        try clear c6b1
        try clear p6
        try clear c10
        try clear p10
        try clear q10
        try clear hx10
        try clear c11
        try clear c13
        try clear c13b0
        try clear c14
        try clear c14b0
        try clear c15
        try clear c15b0
        try clear c16
        try clear c16b0
        try clear c16b1
        try clear hcz10_0
        try clear hcz10_1
        try clear hcz10_2
        try clear hcz10_3
        try clear hcz12_0
        try clear hcz12_1
        try clear hcz12_2
        try clear hcz12_3
        try clear hcz17_0
        try clear hcz17_1
        try clear hcz17_2
        try clear hcz17_3
        try clear hcz7_0
        try clear hcz7_1
        try clear hcz7_2
        try clear hcz7_3
        try clear hcz9_0
        try clear hcz9_1
        try clear hcz9_2
        try clear hcz9_3
        try clear hfz10_0
        try clear hfz10_1
        try clear hfz10_2
        try clear hfz10_3
        try clear hfz12_0
        try clear hfz12_1
        try clear hfz12_2
        try clear hfz12_3
        try clear hfz17_0
        try clear hfz17_1
        try clear hfz17_2
        try clear hfz17_3
        try clear hfz7_0
        try clear hfz7_1
        try clear hfz7_2
        try clear hfz7_3
        try clear hfz9_0
        try clear hfz9_1
        try clear hfz9_2
        try clear hfz9_3
        try clear hx104_0
        try clear p104
        try clear p2
        try clear q104
        obtain ⟨x38_3, rfl, HA, HK3, BK101, HB⟩ := hrel
        cases gk with
        | zero => exact absurd HA.out (by simp [impl_DevOk.l1])
        | succ k3 =>
         have H := HA.out
         clear HA
         simp only [impl_DevOk.l1] at H
         by_cases c18 : x38_3 < (l0_1.length : Int)
         ·rw [if_pos c18] at H
          have c18b0 : decide (x38_3 < (l0_1.length : Int)) = true := decide_eq_true c18
          clear c18
          by_cases c19 : 0 ≤ x38_3
          ·rw [if_pos c19] at H
           have c19b0 : decide (0 ≤ x38_3) = true := decide_eq_true c19
           clear c19
           by_cases c20 : x38_3 < (l0_1.length : Int)
           ·rw [if_pos c20] at H
            have c20b0 : decide (x38_3 < (l0_1.length : Int)) = true := decide_eq_true c20
            clear c20
            replace H := lF H
            obtain ⟨t107, A210, H⟩ := H
            replace H : (if t107 = true then (if (((rd_T50 l0_1 x38_3).f1).length : Int) > 80 then (some false) else (impl_DevOk.l1 k3 l0_1 (l0_1.length : Int) (wrap64 (x38_3 + 1)) l0_0 l0_1 a0_2 a0_3)) else (some false)) = some r := H
            have A21 := aA.mk A210
            clear A210
            by_cases c22 : t107 = true
            ·subst c22
             have H1 : (if (((rd_T50 l0_1 x38_3).f1).length : Int) > 80 then (some false) else (impl_DevOk.l1 k3 l0_1 (l0_1.length : Int) (wrap64 (x38_3 + 1)) l0_0 l0_1 a0_2 a0_3)) = some r := by rw [if_pos rfl] at H; exact H
             clear H
             have H := H1
             clear H1
             by_cases c23 : (((rd_T50 l0_1 x38_3).f1).length : Int) > 80
             ·rw [if_pos c23] at H
              have c23b0 : decide (80 < (((rd_T50 l0_1 x38_3).f1).length : Int)) = true := decide_eq_true c23
              have c23b1 : decide (80 < ((rd_T50 l0_1 x38_3).f1).length) = true := decide_eq_true (by omega)
              clear c23
              obtain rfl := Option.some.inj H
              have p105 : 0 ≤ (x38_3 : Int) := lE (by first | (with_reducible assumption) | assumption)
              have q105 : x38_3 < (l0_1.length : Int) := lE (by first | (with_reducible assumption) | assumption)
              obtain ⟨ad105, A105_1, c105_1, e105, hx105_0, hx105_1, hl105_1, hi105_1⟩ := at_T50 HR0_1.out x38_3 p105 q105
              cases e105
              replace hx105_0 := (HB.out.cell (lD w _ hx105_0)).trans hx105_0
              replace hx105_1 := (HB.out.cell (lD w _ hx105_1)).trans hx105_1
              have HR105_1 := aA.mk hi105_1
              have HC105_1 := aA.mk hl105_1
              clear hi105_1 hl105_1
              replace p105 := eq_true p105
              replace q105 := eq_true q105
              go_wp2_with (first | ((with_reducible refine gate_dst (N := 6) rfl ?_); (try (refine gate_guard (by rfl) ?_; dsimp only)); refine box_event ?hg (N := 6) ?hd (cs := #[.int .i64 0, .slice none 0 0]) (t := 50) ?hr ?_; (case hd => rfl); (case hg => rfl); (case hr => first | (go_simp; done) | (go_simp; rfl)); intro gb106 hg w24 hbox hb; have n0_ := aA.mk (aW (g := gb101) (o := .cells #[.slice A0_0 l0_0.length c0_0, .slice (some ad105) l0_1.length c0_1, .int .i64 a0_2, .bool a0_3] 25 (0, 0)) (by (with_reducible repeat (first | refine aQ ?_ _ | refine aN ?_ | refine aH ?_ _)); exact BK101.out) hb); have n1_ := aA.mk (bD (by repeat (first | (with_reducible first | exact HB.out | apply aM | apply aG | apply aJ | refine aE ?_ GE101.out) | exact HB.out)) hb); have n2_ := aA.mk (hbox); have n3_ := aA.mk ((by rw [hg]; exact (bH (by repeat (first | (with_reducible first | exact HB.out | apply aM | apply aG | apply aJ | refine aE ?_ GE101.out) | exact HB.out))) : w.heap.size ≤ gb106)); have n4_ := aA.mk ((by rw [hg]; exact (bH (by repeat (first | (with_reducible first | exact HB.out | apply aM | apply aG | apply aJ | refine aE ?_ GE101.out) | exact HB.out))) : w.heap.size ≤ gb106)); have n5_ := aA.mk ((by rw [hg]; exact Nat.ne_of_lt (blk_lt (g := gb101) (o := .cells #[.slice A0_0 l0_0.length c0_0, .slice (some ad105) l0_1.length c0_1, .int .i64 a0_2, .bool a0_3] 25 (0, 0)) (by (with_reducible repeat (first | refine aQ ?_ _ | refine aN ?_ | refine aH ?_ _)); exact BK101.out)) : gb101 ≠ gb106)); have n6_ := aA.mk ((by rw [hg]; exact Nat.ne_of_gt (blk_lt (g := gb101) (o := .cells #[.slice A0_0 l0_0.length c0_0, .slice (some ad105) l0_1.length c0_1, .int .i64 a0_2, .bool a0_3] 25 (0, 0)) (by (with_reducible repeat (first | refine aQ ?_ _ | refine aN ?_ | refine aH ?_ _)); exact BK101.out)) : gb106 ≠ gb101)); clear BK101; clear HB; have BK101 := n0_; have HB := n1_; have BK106 := n2_; have GW106 := n3_; have GE106 := n4_; have NB101_106 := n5_; have NB106_101 := n6_; clear n0_ n1_ n2_ n3_ n4_ n5_ n6_; clear hb hbox hg; have hnb25 := NB106_101.out; have hnc25 := NB101_106.out; have hcz26_0 : w24.cell? ⟨gb106, 0, none⟩ = some (.int .i64 0) := (aD BK106.out 0).trans rfl; have hcz26_1 : w24.cell? ⟨gb106, 1, none⟩ = some (.slice none 0 0) := (aD BK106.out 1).trans rfl; have hfz26_0 := aC BK106.out 0; have hfz26_1 := aC BK106.out 1; have hcz27_0 : w24.cell? ⟨gb101, 0, none⟩ = some (.slice A0_0 l0_0.length c0_0) := (aD BK101.out 0).trans rfl; have hcz27_1 : w24.cell? ⟨gb101, 1, none⟩ = some (.slice (some ad105) l0_1.length c0_1) := (aD BK101.out 1).trans rfl; have hcz27_2 : w24.cell? ⟨gb101, 2, none⟩ = some (.int .i64 a0_2) := (aD BK101.out 2).trans rfl; have hcz27_3 : w24.cell? ⟨gb101, 3, none⟩ = some (.bool a0_3) := (aD BK101.out 3).trans rfl; have hfz27_0 := aC BK101.out 0; have hfz27_1 := aC BK101.out 1; have hfz27_2 := aC BK101.out 2; have hfz27_3 := aC BK101.out 3) | ((with_reducible refine bJ (f := 44) rfl ?_); refine goesL_ (some 48) rfl rfl Try.func44 (by kernel_rfl) rfl #[.int .i64 ((rd_T50 l0_1 x38_3).f0), .int .i64 0, .int .i64 (wrap64 ((l0_0.length : Int) - 1))] rfl (by (try simp only [List.map_toArray, List.map_cons, List.map_nil]); first | done | rfl | (simp only [List.length_drop, List.length_take]; rfl)) ?_; (with_reducible refine (impl_within.calls ((rd_T50 l0_1 x38_3).f0) 0 (wrap64 ((l0_0.length : Int) - 1)) true _ A21.out).mono ?_); rintro e w' ⟨rfl, ⟨nd, rfl⟩⟩; refine ⟨_, rfl, ?_⟩))
              go_ret
              exact ⟨by first | rfl | (simp [errW_none, errW_some] <;> rfl) | (simp [*, errW_none, errW_some] <;> rfl), by repeat (first | (with_reducible first | exact HB.out | apply aM | apply aG | apply aJ | refine aE ?_ GE101.out | refine aE ?_ GE106.out) | exact HB.out)⟩
             ·rw [if_neg c23] at H
              have c23b0 : decide (80 < (((rd_T50 l0_1 x38_3).f1).length : Int)) = false := decide_eq_false c23
              have c23b1 : decide (80 < ((rd_T50 l0_1 x38_3).f1).length) = false := decide_eq_false (by omega)
              clear c23
              have H' := aA.mk H
              clear H
              have p105 : 0 ≤ (x38_3 : Int) := lE (by first | (with_reducible assumption) | assumption)
              have q105 : x38_3 < (l0_1.length : Int) := lE (by first | (with_reducible assumption) | assumption)
              obtain ⟨ad105, A105_1, c105_1, e105, hx105_0, hx105_1, hl105_1, hi105_1⟩ := at_T50 HR0_1.out x38_3 p105 q105
              cases e105
              replace hx105_0 := (HB.out.cell (lD w _ hx105_0)).trans hx105_0
              replace hx105_1 := (HB.out.cell (lD w _ hx105_1)).trans hx105_1
              have HR105_1 := aA.mk hi105_1
              have HC105_1 := aA.mk hl105_1
              clear hi105_1 hl105_1
              replace p105 := eq_true p105
              replace q105 := eq_true q105
              go_wp2_with (first | ((with_reducible refine gate_dst (N := 6) rfl ?_); (try (refine gate_guard (by rfl) ?_; dsimp only)); refine box_event ?hg (N := 6) ?hd (cs := #[.int .i64 0, .slice none 0 0]) (t := 50) ?hr ?_; (case hd => rfl); (case hg => rfl); (case hr => first | (go_simp; done) | (go_simp; rfl)); intro gb106 hg w28 hbox hb; have n0_ := aA.mk (aW (g := gb101) (o := .cells #[.slice A0_0 l0_0.length c0_0, .slice (some ad105) l0_1.length c0_1, .int .i64 a0_2, .bool a0_3] 25 (0, 0)) (by (with_reducible repeat (first | refine aQ ?_ _ | refine aN ?_ | refine aH ?_ _)); exact BK101.out) hb); have n1_ := aA.mk (bD (by repeat (first | (with_reducible first | exact HB.out | apply aM | apply aG | apply aJ | refine aE ?_ GE101.out) | exact HB.out)) hb); have n2_ := aA.mk (hbox); have n3_ := aA.mk ((by rw [hg]; exact (bH (by repeat (first | (with_reducible first | exact HB.out | apply aM | apply aG | apply aJ | refine aE ?_ GE101.out) | exact HB.out))) : w.heap.size ≤ gb106)); have n4_ := aA.mk ((by rw [hg]; exact (bH (by repeat (first | (with_reducible first | exact HB.out | apply aM | apply aG | apply aJ | refine aE ?_ GE101.out) | exact HB.out))) : w.heap.size ≤ gb106)); have n5_ := aA.mk ((by rw [hg]; exact Nat.ne_of_lt (blk_lt (g := gb101) (o := .cells #[.slice A0_0 l0_0.length c0_0, .slice (some ad105) l0_1.length c0_1, .int .i64 a0_2, .bool a0_3] 25 (0, 0)) (by (with_reducible repeat (first | refine aQ ?_ _ | refine aN ?_ | refine aH ?_ _)); exact BK101.out)) : gb101 ≠ gb106)); have n6_ := aA.mk ((by rw [hg]; exact Nat.ne_of_gt (blk_lt (g := gb101) (o := .cells #[.slice A0_0 l0_0.length c0_0, .slice (some ad105) l0_1.length c0_1, .int .i64 a0_2, .bool a0_3] 25 (0, 0)) (by (with_reducible repeat (first | refine aQ ?_ _ | refine aN ?_ | refine aH ?_ _)); exact BK101.out)) : gb106 ≠ gb101)); clear BK101; clear HB; have BK101 := n0_; have HB := n1_; have BK106 := n2_; have GW106 := n3_; have GE106 := n4_; have NB101_106 := n5_; have NB106_101 := n6_; clear n0_ n1_ n2_ n3_ n4_ n5_ n6_; clear hb hbox hg; have hnb29 := NB106_101.out; have hnc29 := NB101_106.out; have hcz30_0 : w28.cell? ⟨gb106, 0, none⟩ = some (.int .i64 0) := (aD BK106.out 0).trans rfl; have hcz30_1 : w28.cell? ⟨gb106, 1, none⟩ = some (.slice none 0 0) := (aD BK106.out 1).trans rfl; have hfz30_0 := aC BK106.out 0; have hfz30_1 := aC BK106.out 1; have hcz31_0 : w28.cell? ⟨gb101, 0, none⟩ = some (.slice A0_0 l0_0.length c0_0) := (aD BK101.out 0).trans rfl; have hcz31_1 : w28.cell? ⟨gb101, 1, none⟩ = some (.slice (some ad105) l0_1.length c0_1) := (aD BK101.out 1).trans rfl; have hcz31_2 : w28.cell? ⟨gb101, 2, none⟩ = some (.int .i64 a0_2) := (aD BK101.out 2).trans rfl; have hcz31_3 : w28.cell? ⟨gb101, 3, none⟩ = some (.bool a0_3) := (aD BK101.out 3).trans rfl; have hfz31_0 := aC BK101.out 0; have hfz31_1 := aC BK101.out 1; have hfz31_2 := aC BK101.out 2; have hfz31_3 := aC BK101.out 3) | ((with_reducible refine bJ (f := 44) rfl ?_); refine goesL_ (some 48) rfl rfl Try.func44 (by kernel_rfl) rfl #[.int .i64 ((rd_T50 l0_1 x38_3).f0), .int .i64 0, .int .i64 (wrap64 ((l0_0.length : Int) - 1))] rfl (by (try simp only [List.map_toArray, List.map_cons, List.map_nil]); first | done | rfl | (simp only [List.length_drop, List.length_take]; rfl)) ?_; (with_reducible refine (impl_within.calls ((rd_T50 l0_1 x38_3).f0) 0 (wrap64 ((l0_0.length : Int) - 1)) true _ A21.out).mono ?_); rintro e w' ⟨rfl, ⟨nd, rfl⟩⟩; refine ⟨_, rfl, ?_⟩))
              go_roundg k3
              case measure => have := HJ1.out; have := HK2.out; have := HK3.out; omega
              case rel => exact ⟨(wrap64 (x38_3 + 1)), (by first | rfl | (simp; done) | (simp [*]; done)), H', ⟨by have := HJ1.out; have := HK2.out; have := HK3.out; omega⟩, ⟨by (with_reducible repeat (first | refine aQ ?_ _ | refine aN ?_ | refine aH ?_ _)); refine blk_far ?_ NB101_106.out _; (with_reducible repeat (first | refine aQ ?_ _ | refine aN ?_ | refine aH ?_ _)); refine blk_far ?_ NB101_106.out _; (with_reducible repeat (first | refine aQ ?_ _ | refine aN ?_ | refine aH ?_ _)); exact BK101.out⟩, ⟨by repeat (first | (with_reducible first | exact HB.out | apply aM | apply aG | apply aJ | refine aE ?_ GE101.out | refine aE ?_ GE106.out) | exact HB.out)⟩⟩
            ·replace c22 := Bool.eq_false_iff.mpr c22
             subst c22
             have H1 : (some false) = some r := by rw [if_neg (show ¬ (false = true) by decide)] at H; exact H
             clear H
             have H := H1
             clear H1
             obtain rfl := Option.some.inj H
             have p105 : 0 ≤ (x38_3 : Int) := lE (by first | (with_reducible assumption) | assumption)
             have q105 : x38_3 < (l0_1.length : Int) := lE (by first | (with_reducible assumption) | assumption)
             obtain ⟨ad105, A105_1, c105_1, e105, hx105_0, hx105_1, hl105_1, hi105_1⟩ := at_T50 HR0_1.out x38_3 p105 q105
             cases e105
             replace hx105_0 := (HB.out.cell (lD w _ hx105_0)).trans hx105_0
             replace hx105_1 := (HB.out.cell (lD w _ hx105_1)).trans hx105_1
             have HR105_1 := aA.mk hi105_1
             have HC105_1 := aA.mk hl105_1
             clear hi105_1 hl105_1
             replace p105 := eq_true p105
             replace q105 := eq_true q105
             go_wp2_with (first | ((with_reducible refine gate_dst (N := 6) rfl ?_); (try (refine gate_guard (by rfl) ?_; dsimp only)); refine box_event ?hg (N := 6) ?hd (cs := #[.int .i64 0, .slice none 0 0]) (t := 50) ?hr ?_; (case hd => rfl); (case hg => rfl); (case hr => first | (go_simp; done) | (go_simp; rfl)); intro gb106 hg w32 hbox hb; have n0_ := aA.mk (aW (g := gb101) (o := .cells #[.slice A0_0 l0_0.length c0_0, .slice (some ad105) l0_1.length c0_1, .int .i64 a0_2, .bool a0_3] 25 (0, 0)) (by (with_reducible repeat (first | refine aQ ?_ _ | refine aN ?_ | refine aH ?_ _)); exact BK101.out) hb); have n1_ := aA.mk (bD (by repeat (first | (with_reducible first | exact HB.out | apply aM | apply aG | apply aJ | refine aE ?_ GE101.out) | exact HB.out)) hb); have n2_ := aA.mk (hbox); have n3_ := aA.mk ((by rw [hg]; exact (bH (by repeat (first | (with_reducible first | exact HB.out | apply aM | apply aG | apply aJ | refine aE ?_ GE101.out) | exact HB.out))) : w.heap.size ≤ gb106)); have n4_ := aA.mk ((by rw [hg]; exact (bH (by repeat (first | (with_reducible first | exact HB.out | apply aM | apply aG | apply aJ | refine aE ?_ GE101.out) | exact HB.out))) : w.heap.size ≤ gb106)); have n5_ := aA.mk ((by rw [hg]; exact Nat.ne_of_lt (blk_lt (g := gb101) (o := .cells #[.slice A0_0 l0_0.length c0_0, .slice (some ad105) l0_1.length c0_1, .int .i64 a0_2, .bool a0_3] 25 (0, 0)) (by (with_reducible repeat (first | refine aQ ?_ _ | refine aN ?_ | refine aH ?_ _)); exact BK101.out)) : gb101 ≠ gb106)); have n6_ := aA.mk ((by rw [hg]; exact Nat.ne_of_gt (blk_lt (g := gb101) (o := .cells #[.slice A0_0 l0_0.length c0_0, .slice (some ad105) l0_1.length c0_1, .int .i64 a0_2, .bool a0_3] 25 (0, 0)) (by (with_reducible repeat (first | refine aQ ?_ _ | refine aN ?_ | refine aH ?_ _)); exact BK101.out)) : gb106 ≠ gb101)); clear BK101; clear HB; have BK101 := n0_; have HB := n1_; have BK106 := n2_; have GW106 := n3_; have GE106 := n4_; have NB101_106 := n5_; have NB106_101 := n6_; clear n0_ n1_ n2_ n3_ n4_ n5_ n6_; clear hb hbox hg; have hnb33 := NB106_101.out; have hnc33 := NB101_106.out; have hcz34_0 : w32.cell? ⟨gb106, 0, none⟩ = some (.int .i64 0) := (aD BK106.out 0).trans rfl; have hcz34_1 : w32.cell? ⟨gb106, 1, none⟩ = some (.slice none 0 0) := (aD BK106.out 1).trans rfl; have hfz34_0 := aC BK106.out 0; have hfz34_1 := aC BK106.out 1; have hcz35_0 : w32.cell? ⟨gb101, 0, none⟩ = some (.slice A0_0 l0_0.length c0_0) := (aD BK101.out 0).trans rfl; have hcz35_1 : w32.cell? ⟨gb101, 1, none⟩ = some (.slice (some ad105) l0_1.length c0_1) := (aD BK101.out 1).trans rfl; have hcz35_2 : w32.cell? ⟨gb101, 2, none⟩ = some (.int .i64 a0_2) := (aD BK101.out 2).trans rfl; have hcz35_3 : w32.cell? ⟨gb101, 3, none⟩ = some (.bool a0_3) := (aD BK101.out 3).trans rfl; have hfz35_0 := aC BK101.out 0; have hfz35_1 := aC BK101.out 1; have hfz35_2 := aC BK101.out 2; have hfz35_3 := aC BK101.out 3) | ((with_reducible refine bJ (f := 44) rfl ?_); refine goesL_ (some 48) rfl rfl Try.func44 (by kernel_rfl) rfl #[.int .i64 ((rd_T50 l0_1 x38_3).f0), .int .i64 0, .int .i64 (wrap64 ((l0_0.length : Int) - 1))] rfl (by (try simp only [List.map_toArray, List.map_cons, List.map_nil]); first | done | rfl | (simp only [List.length_drop, List.length_take]; rfl)) ?_; (with_reducible refine (impl_within.calls ((rd_T50 l0_1 x38_3).f0) 0 (wrap64 ((l0_0.length : Int) - 1)) false _ A21.out).mono ?_); rintro e w' ⟨rfl, ⟨nd, rfl⟩⟩; refine ⟨_, rfl, ?_⟩))
             go_ret
             exact ⟨by first | rfl | (simp [errW_none, errW_some] <;> rfl) | (simp [*, errW_none, errW_some] <;> rfl), by repeat (first | (with_reducible first | exact HB.out | apply aM | apply aG | apply aJ | refine aE ?_ GE101.out | refine aE ?_ GE106.out) | exact HB.out)⟩
           ·rw [if_neg c20] at H
            exact absurd H (by simp)
          ·rw [if_neg c19] at H
           exact absurd H (by simp)
         ·rw [if_neg c18] at H
          have c18b0 : decide (x38_3 < (l0_1.length : Int)) = false := decide_eq_false c18
          clear c18
          obtain rfl := Option.some.inj H
          go_wp2
          go_ret
          exact ⟨by first | rfl | (simp [errW_none, errW_some] <;> rfl) | (simp [*, errW_none, errW_some] <;> rfl), by repeat (first | (with_reducible first | exact HB.out | apply aM | apply aG | apply aJ | refine aE ?_ GE101.out) | exact HB.out)⟩
def impl_joined.l0 : Nat → List Int → List (List Int) → Int → Int → Option (List Int)
 | 0, _, _, _, _ => none
 | k + 1, x3, x7, x8, x9 => if x9 < x8 then (if 0 ≤ x9 then (if x9 < (x7.length : Int) then (if x3.length + (rd_L1 x7 x9).length < 140737488355328 then (impl_joined.l0 k (x3 ++ (rd_L1 x7 x9)) x7 x8 (wrap64 (x9 + 1))) else (none)) else (none)) else (none)) else (some x3)
def impl_joined.f (k : Nat) (l0 : List (List Int)) : Option (List Int) := impl_joined.l0 k (([] : List Int)) l0 (l0.length : Int) 0
set_option maxHeartbeats 8000000 in
set_option maxRecDepth 100000 in
theorem impl_joined.calls (k : Nat) (A0 : Option Addr) (c0 : Nat) (l0 : List (List Int)) (r : List Int) (w : World) (hr0 : Kd.C (Kd.slice 5 (Kd.int .u8)) w A0 l0.length l0) (hc0 : l0.length ≤ c0) (h : impl_joined.f k l0 = some r) :
  Calls Try.prog 55 #[.slice A0 l0.length c0] w fun e w' => ∃ v0_ : Value, e = .returned (v0_) ∧ Kd.R (Kd.int .u8) 5 w' w.heap.size (fun _ => True) v0_ r ∧ Below w.heap.size w w' := by
 have HR0 := aA.mk hr0
 have HC0 := aA.mk hc0
 clear hr0 hc0
 have HB := aA.mk (Below.refl w.heap.size w)
 have H : (impl_joined.l0 k (([] : List Int)) l0 (l0.length : Int) 0) = some r := h
 clear h
 obtain ⟨y108, hy108⟩ : ∃ y_ : List Int, y_ = (([] : List Int)) := ⟨_, rfl⟩
 replace H : (impl_joined.l0 k y108 l0 (l0.length : Int) 0) = some r := by first | (rw [hy108]; with_reducible exact H) | (have H2_ := (Option.bind_some _ _).symm.trans H; rw [hy108]; with_reducible exact H2_) | (have H2_ := (Option.bind_some _ _).symm.trans H; with_reducible exact H2_) | with_reducible exact H | (rw [hy108]; exact H) | exact H
 have Ny108 := aA.mk hy108
 clear hy108
 have H' := aA.mk H
 clear H
 go_enter Try.func55, Try.ntmps55
 go_wp2_with (first | ((with_reducible refine gate_dst (N := 6) rfl ?_); refine Kd.R_lit (Kd.int .u8) _ 5 ?hg (N := 6) ?hd (xs := ([] : List Int)) (inner := []) (ok := fun _ => True) (okp := fun _ => True) ?hr ?hp (fun _ hk => hk) trivial (Below.refl _ _) (Nat.le_refl _) (by simp) ?_; (case hd => rfl); (case hg => rfl); (case hr => first | (go_simp; done) | (go_simp; rfl)); (case hp => exact (Reps.none _ _)); intro v109 w2 ho3 hb hg_ hnew_; clear hg_ hnew_; (first | rw [← Ny108.out] at ho3 | (simp only [Int.reduceToNat] at ho3; rw [← Ny108.out] at ho3)); have n0_ := aA.mk (Kd.R_lower ho3 (bH (by repeat (first | (with_reducible first | exact HB.out | apply aM | apply aG | apply aJ) | exact HB.out)))); have n1_ := aA.mk (bD (by repeat (first | (with_reducible first | exact HB.out | apply aM | apply aG | apply aJ) | exact HB.out)) hb); clear HB; have HO110 := n0_; have HB := n1_; clear n0_ n1_; clear hb ho3))
 go_loopg [3, 9] k (fun kq v3 v9 w' => ∃ (x3_1 : List Int) (x9_1 : Int), v9 = .int .i64 x9_1 ∧ aA (impl_joined.l0 kq x3_1 l0 (l0.length : Int) x9_1 = some r) ∧ aA (kq ≤ k) ∧ aA (Kd.R (Kd.int .u8) 5 w' w.heap.size (fun _ => True) v3 x3_1) ∧ aA (Below w.heap.size w w'))
 case atStart => exact ⟨(y108), (0), (by first | rfl | (simp; done) | (simp [*]; done)), H', ⟨Nat.le_refl _⟩, ⟨by (with_reducible repeat (first | apply Kd.R_alloc | apply Kd.R_drewN | apply Kd.R_drew)); exact HO110.out⟩, ⟨by repeat (first | (with_reducible first | exact HB.out | apply aM | apply aG | apply aJ) | exact HB.out)⟩⟩
 case round =>
  clear H'
  try clear p2
  obtain ⟨x3_1, x9_1, rfl, HA, HK1, HO_3, HB⟩ := hrel
  cases gk with
  | zero => exact absurd HA.out (by simp [impl_joined.l0])
  | succ k1 =>
   have H := HA.out
   clear HA
   simp only [impl_joined.l0] at H
   by_cases c4 : x9_1 < (l0.length : Int)
   ·rw [if_pos c4] at H
    have c4b0 : decide (x9_1 < (l0.length : Int)) = true := decide_eq_true c4
    clear c4
    by_cases c5 : 0 ≤ x9_1
    ·rw [if_pos c5] at H
     have c5b0 : decide (0 ≤ x9_1) = true := decide_eq_true c5
     clear c5
     by_cases c6 : x9_1 < (l0.length : Int)
     ·rw [if_pos c6] at H
      have c6b0 : decide (x9_1 < (l0.length : Int)) = true := decide_eq_true c6
      clear c6
      by_cases c7 : x3_1.length + (rd_L1 l0 x9_1).length < 140737488355328
      ·rw [if_pos c7] at H
       have LMc7 := aA.mk c7
       clear c7
       obtain ⟨y112, hy112⟩ : ∃ y_ : List Int, y_ = (x3_1 ++ (rd_L1 l0 x9_1)) := ⟨_, rfl⟩
       replace H : (impl_joined.l0 k1 y112 l0 (l0.length : Int) (wrap64 (x9_1 + 1))) = some r := by first | (rw [hy112]; with_reducible exact H) | (have H2_ := (Option.bind_some _ _).symm.trans H; rw [hy112]; with_reducible exact H2_) | (have H2_ := (Option.bind_some _ _).symm.trans H; with_reducible exact H2_) | with_reducible exact H | (rw [hy112]; exact H) | exact H
       have Ny112 := aA.mk hy112
       clear hy112
       have H' := aA.mk H
       clear H
       have p111 : 0 ≤ (x9_1 : Int) := lE (by first | (with_reducible assumption) | assumption)
       have q111 : x9_1 < (l0.length : Int) := lE (by first | (with_reducible assumption) | assumption)
       obtain ⟨ad111, A111_0, c111_0, e111, hx111_0, hl111_0, hi111_0⟩ := at_L1 HR0.out x9_1 p111 q111
       cases e111
       replace hx111_0 := (HB.out.cell (lD w _ hx111_0)).trans hx111_0
       have HR111_0 := aA.mk hi111_0
       have HC111_0 := aA.mk hl111_0
       clear hi111_0 hl111_0
       replace p111 := eq_true p111
       replace q111 := eq_true q111
       go_wp2_with (first | ((with_reducible refine gate_builtin (b := .append) (xs := #[.tmp 13, .tmp 14]) rfl ?_); at_builtin; refine Kd.R_append_rows (Kd.int .u8) (w0 := w) w.heap.size rfl (.tmp 13) (.tmp 14) 37 5 (.int .u8 0) 1 rfl Try.underlying37 info5 rfl (by decide) (by omega) u3 x3_1 (rd_L1 l0 x9_1) _ _ _ (fun _ => True) (fun _ => False) rfl rfl ?aO ?aR (fun _ _ h => h) (fun _ h => h.elim) ?aF ?aB ?aS ?aL ?_; (case aR => repeat (first | exact (Kd.C_below HR111_0.out HB.out) | (with_reducible refine Kd.C_alloc ?_ _) | (with_reducible refine Kd.C_drewN ?_ _) | (with_reducible refine Kd.C_drew ?_))); (case aB => exact (by repeat (first | (with_reducible first | exact HB.out | apply aM | apply aG | apply aJ) | exact HB.out))); (case aF => exact (fun _ _ => trivial)); (case aO => exact (by (with_reducible repeat (first | apply Kd.R_alloc | apply Kd.R_drewN | apply Kd.R_drew)); exact HO_3.out)); (case aS => exact (bH (by repeat (first | (with_reducible first | exact HB.out | apply aM | apply aG | apply aJ) | exact HB.out)))); (case aL => have := LMc7.out; omega); intro v113 w8 ho hb hg hat; rw [← Ny112.out] at ho; have n0_ := aA.mk (hb); have n1_ := aA.mk (ho); clear HB; clear HO_3; have HB := n0_; have HO114 := n1_; clear n0_ n1_; clear ho hb hg hat))
       go_roundg k1
       case measure => have := HK1.out; omega
       case rel => exact ⟨(y112), (wrap64 (x9_1 + 1)), (by first | rfl | (simp; done) | (simp [*]; done)), H', ⟨by have := HK1.out; omega⟩, ⟨by (with_reducible repeat (first | apply Kd.R_alloc | apply Kd.R_drewN | apply Kd.R_drew)); exact HO114.out⟩, ⟨by repeat (first | (with_reducible first | exact HB.out | apply aM | apply aG | apply aJ) | exact HB.out)⟩⟩
      ·rw [if_neg c7] at H
       exact absurd H (by simp)
     ·rw [if_neg c6] at H
      exact absurd H (by simp)
    ·rw [if_neg c5] at H
     exact absurd H (by simp)
   ·rw [if_neg c4] at H
    have c4b0 : decide (x9_1 < (l0.length : Int)) = false := decide_eq_false c4
    clear c4
    obtain rfl := Option.some.inj H
    go_wp2
    go_ret
    exact ⟨_, by first | rfl | (simp [errW_none, errW_some] <;> rfl) | (simp [*, errW_none, errW_some] <;> rfl), by (with_reducible repeat (first | apply Kd.R_alloc | apply Kd.R_drewN | apply Kd.R_drew)); exact HO_3.out, by repeat (first | (with_reducible first | exact HB.out | apply aM | apply aG | apply aJ) | exact HB.out)⟩
end Go.Proofs.Ytilhcaofpfeioaa.PFnFalls

namespace Go.Proofs.Ytilhcaofpfeioaa.PFnFalls
open Go.RowKit Go.Proofs.YtilhcaofpfeioaaW.PrintWords Go.Proofs.YtilhcaofpfeioaaW.PrintLast Go.Proofs.YtilhcaofpfeioaaW.PrintMore
attribute [local go_sem] max2_int min2_int max_two min_two max_three min_three max_four min_four   -- for this text's walks alone
set_option linter.unusedVariables false
set_option linter.unusedSimpArgs false
mutual
def impl_copyDev.l0 : Nat → List (List Int) → Int → Int → List (List Int) → List (S50) → Int → Bool → List (List Int) → Int → Bool → Option ((List (List Int)) × (List (S50)) × Int × Bool)
 | 0, _, _, _, _, _, _, _, _, _, _ => none
 | k + 1, x14, x15, x16, x116000, x116001, x116002, x116003, x118000, x118002, x118003 => if x16 < x15 then (if 0 ≤ x16 then (if x16 < (x14.length : Int) then ((impl_joined.f k (([rd_L1 x14 x16] : List (List Int)))).bind fun t122 => (if x118000.length < 5864062014805 then (impl_copyDev.l0 k x14 x15 (wrap64 (x16 + 1)) x116000 x116001 x116002 x116003 (x118000 ++ [t122]) x118002 x118003) else (none))) else (none)) else (none)) else (impl_copyDev.l1 k x116001 (x116001.length : Int) 0 x118000 ([] : List (S50)) x118002 x118003)
def impl_copyDev.l1 : Nat → List (S50) → Int → Int → List (List Int) → List (S50) → Int → Bool → Option ((List (List Int)) × (List (S50)) × Int × Bool)
 | 0, _, _, _, _, _, _, _ => none
 | k + 1, x30, x31, x32, x118000, x118001, x118002, x118003 => if x32 < x31 then (if 0 ≤ x32 then (if x32 < (x30.length : Int) then ((impl_joined.f k (([(rd_T50 x30 x32).f1] : List (List Int)))).bind fun t133 => (if x118001.length < 4398046511104 then (impl_copyDev.l1 k x30 x31 (wrap64 (x32 + 1)) x118000 (x118001 ++ [(⟨(rd_T50 x30 x32).f0, t133⟩ : S50)]) x118002 x118003) else (none))) else (none)) else (none)) else (some (x118000, x118001, x118002, x118003))
end
def impl_copyDev.f (k : Nat) (l0_0 : List (List Int)) (l0_1 : List (S50)) (a0_2 : Int) (a0_3 : Bool) : Option ((List (List Int)) × (List (S50)) × Int × Bool) := impl_copyDev.l0 k l0_0 (l0_0.length : Int) 0 l0_0 l0_1 a0_2 a0_3 ([] : List (List Int)) a0_2 a0_3
def impl_copyDev.T5 : Bool × List (List Nat × List Nat) := (true, [([], []), ([0], [0]), ([], []), ([2], [2]), ([3], [3]), ([4], [4]), ([1, 5, 4], [1, 5]), ([0, 1, 2, 3, 4, 5, 6], []), ([7, 6, 6, 0, 1, 2, 3, 4, 5, 6], [6, 7])])
def impl_copyDev.B5 : List Nat := [0, 1, 0, 4, 12, 28, 63, 127, 255]
def impl_copyDev.T10 : Bool × List (List Nat × List Nat) := (true, [([], []), ([0], [0]), ([], []), ([2], [2]), ([], []), ([4], [4]), ([5], [5]), ([6], [6]), ([3, 7], [3, 7]), ([8], [8]), ([1, 9, 7], [1, 9]), ([0, 1, 2, 3, 4, 5, 6, 7, 8, 9, 10], []), ([11, 10, 10, 0, 1, 2, 3, 4, 5, 6, 7, 8, 9, 10], [10, 11])])
def impl_copyDev.B10 : List Nat := [0, 1, 0, 4, 0, 16, 48, 112, 252, 508, 1023, 2047, 4095]
end Go.Proofs.Ytilhcaofpfeioaa.PFnFalls

namespace Go.Proofs.Ytilhcaofpfeioaa.Core
open Go.RowKit Go.Proofs.YtilhcaofpfeioaaW.PrintWords
theorem w64 {x : Int} (h0 : -9223372036854775808 ≤ x) (h1 : x ≤ 9223372036854775807) : wrap64 x = x := by unfold wrap64; omega
theorem w64s (n : Nat) (h : n ≤ 4611686018427387904) : wrap64 ((n : Int) + 1) = ((n + 1 : Nat) : Int) := by unfold wrap64; omega
theorem evOf {α : Type} {g : Nat → Option α} {r : α} (h : ∀ k, g k = some r) : Ev g r := ⟨0, fun k _ => h k⟩
theorem evGet {α : Type} {g : Nat → Option α} {r : α} (h : Ev g r) : ∃ k, g k = some r := by
 obtain ⟨K, h⟩ := h
 exact ⟨K, h K (Nat.le_refl _)⟩
theorem evSucc {α : Type} {g : Nat → Option α} {r : α} (h : ∃ K d, ∀ k, K ≤ k → g (k + d) = some r) : Ev g r := by
 obtain ⟨K, d, h⟩ := h
 refine ⟨K + d, fun k hk => ?_⟩
 obtain ⟨m, rfl⟩ : ∃ m, k = m + d := ⟨k - d, by omega⟩
 exact h m (by omega)
theorem evRange {σ ρ : Type} (n : Nat) (l : Nat → σ → Int → Option ρ) (Inv : Nat → σ → Prop) (M : Nat → σ → ρ)
  (step : ∀ i s, i < n → Inv i s → (∃ s', Inv (i + 1) s' ∧ M (i + 1) s' = M i s ∧ ∃ K d, ∀ k, K ≤ k → l (k + d) s (i : Int) = l k s' ((i + 1 : Nat) : Int)) ∨ (∃ K d, ∀ k, K ≤ k → l (k + d) s (i : Int) = some (M i s)))
  (done : ∀ s, Inv n s → ∃ K d, ∀ k, K ≤ k → l (k + d) s (n : Int) = some (M n s)) :
  ∀ i s, i ≤ n → Inv i s → Ev (fun k => l k s (i : Int)) (M i s) := by
 have key : ∀ d i s, n - i = d → i ≤ n → Inv i s → Ev (fun k => l k s (i : Int)) (M i s) := by
  intro d
  induction d with
  | zero =>
   intro i s hd hi hinv
   obtain rfl : i = n := by omega
   exact evSucc (done s hinv)
  | succ d ih =>
   intro i s hd hi hinv
   rcases step i s (by omega) hinv with ⟨s', hinv', hM, K, e, h⟩ | h
   ·obtain ⟨K', h'⟩ := ih (i + 1) s' (by omega) (by omega) hinv'
    refine evSucc ⟨K + K', e, fun k hk' => ?_⟩
    show l (k + e) s i = _
    rw [h k (by omega), ← hM]
    exact h' k (by omega)
   ·exact evSucc h
 exact fun i s hi => key _ i s rfl hi
theorem evRange0 {σ ρ : Type} (n : Nat) (l : Nat → σ → Int → Option ρ) (Inv : Nat → σ → Prop) (M : Nat → σ → ρ) (s : σ) (h0 : Inv 0 s)
  (step : ∀ i s, i < n → Inv i s → (∃ s', Inv (i + 1) s' ∧ M (i + 1) s' = M i s ∧ ∃ K d, ∀ k, K ≤ k → l (k + d) s (i : Int) = l k s' ((i + 1 : Nat) : Int)) ∨ (∃ K d, ∀ k, K ≤ k → l (k + d) s (i : Int) = some (M i s)))
  (done : ∀ s, Inv n s → ∃ K d, ∀ k, K ≤ k → l (k + d) s (n : Int) = some (M n s)) :
  Ev (fun k => l k s 0) (M 0 s) := evRange n l Inv M step done 0 s (Nat.zero_le _) h0
theorem evRangeEx {σ ρ : Type} (n : Nat) (l : Nat → σ → Int → Option ρ) (Inv : Nat → σ → Prop) (Post : ρ → Prop)
  (step : ∀ i s, i < n → Inv i s → (∃ s', Inv (i + 1) s' ∧ ∃ K d, ∀ k, K ≤ k → l (k + d) s (i : Int) = l k s' ((i + 1 : Nat) : Int)) ∨ (∃ r, Post r ∧ ∃ K d, ∀ k, K ≤ k → l (k + d) s (i : Int) = some r))
  (done : ∀ s, Inv n s → ∃ r, Post r ∧ ∃ K d, ∀ k, K ≤ k → l (k + d) s (n : Int) = some r) :
  ∀ i s, i ≤ n → Inv i s → ∃ r, Post r ∧ Ev (fun k => l k s (i : Int)) r := by
 have key : ∀ d i s, n - i = d → i ≤ n → Inv i s → ∃ r, Post r ∧ Ev (fun k => l k s (i : Int)) r := by
  intro d
  induction d with
  | zero =>
   intro i s hd hi hinv
   obtain rfl : i = n := by omega
   obtain ⟨r, hp, h⟩ := done s hinv
   exact ⟨r, hp, evSucc h⟩
  | succ d ih =>
   intro i s hd hi hinv
   rcases step i s (by omega) hinv with ⟨s', hinv', K, e, h⟩ | ⟨r, hp, h⟩
   ·obtain ⟨r, hp, K', h'⟩ := ih (i + 1) s' (by omega) (by omega) hinv'
    refine ⟨r, hp, evSucc ⟨K + K', e, fun k hk' => ?_⟩⟩
    show l (k + e) s i = _
    rw [h k (by omega)]
    exact h' k (by omega)
   ·exact ⟨r, hp, evSucc h⟩
 exact fun i s hi => key _ i s rfl hi
def allFrom (p : Nat → Bool) (n i : Nat) : Bool := (List.range' i (n - i)).all p
theorem allFrom_lt {p : Nat → Bool} {n i : Nat} (h : i < n) : allFrom p n i = (p i && allFrom p n (i + 1)) := by
 unfold allFrom
 rw [show n - i = (n - (i + 1)) + 1 by omega, List.range'_succ, List.all_cons]
theorem allFrom_end (p : Nat → Bool) (n : Nat) : allFrom p n n = true := by simp [allFrom]
theorem allFrom_iff {p : Nat → Bool} {n i : Nat} : allFrom p n i = true ↔ ∀ j, i ≤ j → j < n → p j = true := by
 simp only [allFrom, List.all_eq_true, List.mem_range'_1]
 constructor
 ·intro h j h1 h2; exact h j ⟨h1, by omega⟩
 ·intro h j hj; exact h j hj.1 (by omega)
theorem evAll (n : Nat) (l : Nat → Int → Option Bool) (p : Nat → Bool) (fin : Bool)
  (step : ∀ i, i < n → ∃ K d, ∀ k, K ≤ k → l (k + d) (i : Int) = if p i = true then l k ((i + 1 : Nat) : Int) else some false)
  (done : ∃ K d, ∀ k, K ≤ k → l (k + d) (n : Int) = some fin) (i : Nat) (hi : i ≤ n) : Ev (fun k => l k (i : Int)) (allFrom p n i && fin) := by
 refine evRange (σ := Unit) n (fun k _ i => l k i) (fun _ _ => True) (fun i _ => allFrom p n i && fin) ?_ ?_ i () hi trivial
 ·intro i _ hi _
  obtain ⟨K, d, h⟩ := step i hi
  cases hp : p i with
  | true => exact .inl ⟨(), trivial, by simp [allFrom_lt hi, hp], K, d, fun k hk => by simp only [h k hk, hp, if_true]⟩
  | false => exact .inr ⟨K, d, fun k hk => by simp only [h k hk, hp, allFrom_lt hi, Bool.false_and]; rfl⟩
 ·intro _ _
  obtain ⟨K, d, h⟩ := done
  exact ⟨K, d, fun k hk => by rw [h k hk, allFrom_end, Bool.true_and]⟩
def fill {β : Type} (c : Nat → β) (l : List β) (i : Nat) : List β := (List.range i).map c ++ l.drop i
theorem drop_getD {α : Type} (l : List α) (i : Nat) (z : α) (h : i < l.length) : l.drop i = l.getD i z :: l.drop (i + 1) := by
 rw [List.drop_eq_getElem_cons h, List.getD_eq_getElem?_getD, List.getElem?_eq_getElem h]; rfl
theorem take_getD {α : Type} (l : List α) (i : Nat) (z : α) (h : i < l.length) : l.take (i + 1) = l.take i ++ [l.getD i z] := by
 rw [List.take_succ_eq_append_getElem h, List.getD_eq_getElem?_getD, List.getElem?_eq_getElem h]; rfl
theorem getD_mem {α : Type} (l : List α) (i : Nat) (z : α) (h : i < l.length) : l.getD i z ∈ l := by
 rw [List.getD_eq_getElem?_getD, List.getElem?_eq_getElem h]; exact List.getElem_mem h
theorem and255 (x : Int) : Go.bits .and .i64 x 255 = x % 256 := by
 have e : (BitVec.ofInt IntKind.i64.bits x &&& BitVec.ofInt IntKind.i64.bits 255).toNat = (x % 256).toNat := by
  rw [BitVec.toNat_and, BitVec.toNat_ofInt, BitVec.toNat_ofInt]
  have h2 : ((255 : Int) % ((2 ^ IntKind.i64.bits : Nat) : Int)).toNat = 2 ^ 8 - 1 := by decide
  rw [h2, Nat.and_two_pow_sub_one_eq_mod]
  have h3 : ((2 ^ IntKind.i64.bits : Nat) : Int) = 18446744073709551616 := by decide
  rw [h3]
  omega
 unfold Go.bits
 simp only [e]
 rw [IntKind.wrap_i64]
 omega
theorem wf_u8 {x : Int} (h : (Lit.int .u8 x).wf = true) : 0 ≤ x ∧ x ≤ 255 := by
 simp only [Lit.wf, IntKind.min, IntKind.max, Bool.and_eq_true] at h
 simpa [IntKind.bits, IntKind.signed] using h
end Go.Proofs.Ytilhcaofpfeioaa.Core

namespace Go.Proofs.Ytilhcaofpfeioaa.Core
open Go.RowKit Go.Proofs.YtilhcaofpfeioaaW.PrintWords
section
variable {α : Type} (mk : α → Int → α) (cnt : α → Int)
def cntL : List α → Int
 | [] => 0
 | x :: xs => cnt x + cntL xs
def mkL : List α → Int → List α
 | [], _ => []
 | x :: xs, a => mk x a :: mkL xs (a + cnt x)
/-- The first i are marked. -/
def midL (l : List α) (a : Int) (i : Nat) : List α := (mkL mk cnt l a).take i ++ l.drop i
end
/-- The blocks from lo on, below hi. -/
def In (lo hi k : Nat) : Prop := lo ≤ k ∧ k < hi
theorem In.off {a b c d : Nat} (h : b ≤ c) : ∀ k, In a b k → ¬ In c d k := fun _ h1 h2 => by unfold In at *; omega
namespace Mem
open Kd
section
variable {α : Type} {d : Kd α} {e n m c base lo hi top : Nat} {w w1 W : World} {A : Option Addr} {v : Value} {xs : List α} {ok P : Nat → Prop}
theorem times (hs : top ≤ W.heap.size) (hb : Below W.heap.size W w1) : ∃ lo hi, lo = W.heap.size ∧ hi = w1.heap.size ∧ top ≤ lo ∧ lo ≤ hi := ⟨_, _, rfl, rfl, hs, hb.size⟩
theorem new_R (h : d.R e w1 lo ok v xs) (eh : hi = w1.heap.size) : ∃ A c, v = .slice A xs.length c ∧ xs.length ≤ c ∧ F d w1 (In lo hi) A xs.length xs ∧ d.R e w1 lo (In lo hi) (.slice A xs.length c) xs := by
 subst eh
 obtain ⟨A, c, rfl, hl, _⟩ := R_reads h
 have h2 : d.R e w1 lo (In lo w1.heap.size) (.slice A xs.length c) xs := R_mono (R_bound h) (fun k hk => ⟨hk.2.1, hk.2.2.1⟩)
 exact ⟨A, c, rfl, hl, R_F h2, h2⟩
theorem new_S (h : Kd.S d e w1 lo ok v xs) (eh : hi = w1.heap.size) : ∃ A c, v = .slice A xs.length c ∧ xs.length ≤ c ∧ F d w1 (In lo hi) A xs.length xs ∧ Kd.S d e w1 lo (In lo hi) (.slice A xs.length c) xs := by
 subst eh
 obtain ⟨A, c, rfl, hl, _⟩ := S_reads h
 have h2 : Kd.S d e w1 lo (In lo w1.heap.size) (.slice A xs.length c) xs := S_mono (S_bound h) (fun k hk => ⟨hk.2.1, hk.2.2.1⟩)
 exact ⟨A, c, rfl, hl, S_F h2, h2⟩
end
theorem lent {α : Type} {d : Kd α} {e e2 g n cap base : Nat} {P : Nat → Prop} {W : World} {xs : List (List α)} (h : Kd.S (Kd.slice e d) e2 W base P (.slice (some ⟨g, 0, none⟩) n cap) xs) (i : Int) (h0 : 0 ≤ i) (h1 : i < n) (hnew : ∀ k, W.heap.size ≤ k → P k) :
  ∃ (oki : Nat → Prop) (v : Value), (∀ k, oki k → P k) ∧ d.R e W base oki v (xs.getD i.toNat []) ∧ W.cell? ⟨g, i.toNat, none⟩ = some v ∧
   ∀ (w1 : World) (x' : List α), Kept W w1 oki → d.R e w1 base (fun k => oki k ∨ W.heap.size ≤ k) v x' → Kd.S (Kd.slice e d) e2 w1 base P (.slice (some ⟨g, 0, none⟩) n cap) (xs.set i.toNat x') := by
 obtain ⟨oki, c, hcl, hM, hcc, hoki, hH⟩ := S_lend h [] i h0 h1
 obtain ⟨v, rfl, hR⟩ := hM
 refine ⟨oki, v, fun k hk => (hoki k hk).1, hR, ?_, fun w1 x' hk hR' => ?_⟩
 ·have := hcc 0 v rfl
  simpa [show (Kd.slice e d).sz = 1 from rfl] using this
 ·refine H_back (H_step (H_widen hH) (fun k ho hn hlt => hk.2 k hlt (fun h2 => hn (.inl h2)))) (okp := fun k => oki k ∨ W.heap.size ≤ k) ⟨v, rfl, hR'⟩ (fun k hk' => ?_)
  rcases hk' with hk' | hk'
  ·exact .inl hk'
  ·exact .inr ⟨hnew k hk', hk'⟩
end Mem
end Go.Proofs.Ytilhcaofpfeioaa.Core

namespace Go.Proofs.Ytilhcaofpfeioaa.Pure
open Go.RowKit Go.Proofs.Ytilhcaofpfeioaa.PFnFalls Go.Proofs.Ytilhcaofpfeioaa.Core Go.Proofs.YtilhcaofpfeioaaW.PrintWords Go.Proofs.YtilhcaofpfeioaaW.PrintLast Go.Proofs.YtilhcaofpfeioaaW.PrintMore
set_option linter.unusedSimpArgs false
set_option linter.unusedVariables false
def okByteS (l : List Int) : Prop := l.length ≤ 4194304
def cntByteS (l : List Int) : Int := l.length
def inByteS (l : List Int) : Prop := l.length ≤ 1048576
def sumByteS (l : List Int) : Int := l.length
def convByteSS (l : List (List Int)) : List (List Int) := l.map fun x => x
def sumByteSS : List (List Int) → Int
 | [] => 0
 | x :: xs => 1 + sumByteS x + sumByteSS xs
def inByteSS (l : List (List Int)) : Prop := sumByteSS l ≤ 1048576
/-- What the impl's side holds, all in all. -/
def bulkByteSS : List (List Int) → Nat
 | [] => 0
 | x :: xs => 1 + x.length + bulkByteSS xs
def okByteSS (l : List (List Int)) : Prop := bulkByteSS l ≤ 4194304
theorem bulkByteSS_len : ∀ l : List (List Int), l.length ≤ bulkByteSS l
 | [] => by simp [bulkByteSS]
 | x :: xs => by have := bulkByteSS_len xs; simp only [bulkByteSS, List.length_cons]; omega
theorem bulkByteSS_at : ∀ (l : List (List Int)) (i : Nat), i < l.length → (l.getD i []).length ≤ bulkByteSS l
 | x :: xs, 0, _ => by simp only [bulkByteSS, List.getD_cons_zero]; omega
 | x :: xs, i + 1, h => by
  have := bulkByteSS_at xs i (by simpa using h)
  simp only [bulkByteSS, List.getD_cons_succ]; omega
theorem okByteSS_at {l : List (List Int)} (h : okByteSS l) (i : Nat) (hi : i < l.length) : okByteS (l.getD i []) := by
 have h1 := bulkByteSS_at l i hi
 unfold okByteSS at h
 show (l.getD i []).length ≤ 4194304
 omega
theorem okByteSS_len {l : List (List Int)} (h : okByteSS l) : l.length ≤ 4194304 := by have := bulkByteSS_len l; unfold okByteSS at h; omega
/-- What the impl's side holds, all in all. -/
def bulkWrS : List (S50) → Nat
 | [] => 0
 | x :: xs => 1 + x.f1.length + bulkWrS xs
def okWrS (l : List (S50)) : Prop := bulkWrS l ≤ 4194304
theorem bulkWrS_len : ∀ l : List (S50), l.length ≤ bulkWrS l
 | [] => by simp [bulkWrS]
 | x :: xs => by have := bulkWrS_len xs; simp only [bulkWrS, List.length_cons]; omega
theorem bulkWrS_at : ∀ (l : List (S50)) (i : Nat), i < l.length → (l.getD i z50).f1.length ≤ bulkWrS l
 | x :: xs, 0, _ => by simp only [bulkWrS, List.getD_cons_zero]; omega
 | x :: xs, i + 1, h => by
  have := bulkWrS_at xs i (by simpa using h)
  simp only [bulkWrS, List.getD_cons_succ]; omega
theorem okWrS_at {l : List (S50)} (h : okWrS l) (i : Nat) (hi : i < l.length) : okByteS (l.getD i z50).f1 := by
 have h1 := bulkWrS_at l i hi
 unfold okWrS at h
 show (l.getD i z50).f1.length ≤ 4194304
 omega
theorem okWrS_len {l : List (S50)} (h : okWrS l) : l.length ≤ 4194304 := by have := bulkWrS_len l; unfold okWrS at h; omega
def wrOkB (n : Nat) (x : S50) : Bool := decide (0 ≤ x.f0 ∧ x.f0 ≤ (n : Int) - 1) && decide ((x.f1.length : Int) ≤ 80)
def devOkB (s : List (List Int)) (c : List S50) (f : Int) : Bool :=
 allFrom (fun i => decide (((s.getD i []).length : Int) ≤ 80)) s.length 0 && (allFrom (fun i => wrOkB s.length (c.getD i z50)) c.length 0 && (decide (1 ≤ (s.length : Int) ∧ (s.length : Int) ≤ 60) && (decide ((c.length : Int) ≤ 60) && decide (-1 ≤ f ∧ f ≤ 1000))))
def burnF (a : Int) (d : Bool) : Int × Bool × Bool := if a = 0 then (-1, true, false) else if 0 < a then (wrap64 (a - 1), d, true) else (a, d, true)
def putsB (s : List (List Int)) (c : List S50) (d : Bool) (n : Int) (b : List Int) : Bool := !d && (decide (0 ≤ n ∧ n ≤ wrap64 ((s.length : Int) - 1)) && (!decide (80 < (b.length : Int)) && !decide (60 ≤ (c.length : Int))))
def wrote (s : List (List Int)) (c : List S50) (f : Int) (d : Bool) (n : Int) (b : List Int) : List S50 × Int × Bool :=
 if putsB s c d n b = true then (if (burnF f false).2.2 = true then c ++ [⟨n, b⟩] else c, (burnF f false).1, (burnF f false).2.1) else (c, f, d)
def writeSec (s : List (List Int)) (c : List S50) (f : Int) (d : Bool) (n : Int) (b : List Int) : List (List Int) × List S50 × Int × Bool := if devOkB s c f = true then (s, wrote s c f d n b) else (s, c, f, d)
def bitB (k : Int) (i : Nat) : Bool := decide (i < 30) && decide (Go.bits .and .i64 (shr .i64 k (i : Int)) 1 = 1)
def fallSecs (s : List (List Int)) (c : List S50) (k : Int) : Nat → List (List Int)
 | 0 => s
 | i + 1 => if bitB k i = true then (fallSecs s c k i).set (c.getD i z50).f0.toNat (c.getD i z50).f1 else fallSecs s c k i
theorem fallSecs_length (s : List (List Int)) (c : List S50) (k : Int) : ∀ i, (fallSecs s c k i).length = s.length
 | 0 => rfl
 | i + 1 => by
  unfold fallSecs
  split
  ·rw [List.length_set, fallSecs_length s c k i]
  ·exact fallSecs_length s c k i
def keepOf (k : Int) : Int := if 0 ≤ k ∧ k ≤ 1073741823 then k else 0
def fallDev (s : List (List Int)) (c : List S50) (f : Int) (d : Bool) (k : Int) : List (List Int) × List S50 × Int × Bool := if devOkB s c f = true then (fallSecs s c (keepOf k) c.length, [], -1, false) else (s, c, f, d)
def flushSecs (s : List (List Int)) (c : List S50) : Nat → List (List Int)
 | 0 => s
 | i + 1 => (flushSecs s c i).set (c.getD i z50).f0.toNat (c.getD i z50).f1
theorem flushSecs_length (s : List (List Int)) (c : List S50) : ∀ i, (flushSecs s c i).length = s.length
 | 0 => rfl
 | i + 1 => by
  unfold flushSecs
  rw [List.length_set, flushSecs_length s c i]
def flushed (s : List (List Int)) (c : List S50) (f : Int) (d : Bool) : List (List Int) × List S50 × Int × Bool :=
 if d = true then (s, c, f, d) else if (burnF f false).2.2 = true then (flushSecs s c c.length, [], (burnF f false).1, (burnF f false).2.1) else (s, c, (burnF f false).1, (burnF f false).2.1)
def flushDev (s : List (List Int)) (c : List S50) (f : Int) (d : Bool) : List (List Int) × List S50 × Int × Bool := if devOkB s c f = true then flushed s c f d else (s, c, f, d)
theorem impl_joined_ev (ls : List (List Int)) (h : ls.flatten.length ≤ 4194304) (h2 : ls.length ≤ 4194304) : Ev (fun k => impl_joined.f k ls) ls.flatten := by
 obtain ⟨K, hk⟩ := evRange0 (σ := List Int) ls.length (fun k s i => impl_joined.l0 k s ls (ls.length : Int) i) (fun i s => s ++ (ls.drop i).flatten = ls.flatten) (fun _ _ => ls.flatten) [] (by simp)
  (by
   intro i s hi hs
   have hd := drop_getD ls i [] hi
   have hr : rd_L1 ls (i : Int) = ls.getD i [] := by simp [rd_L1]
   rw [hd, List.flatten_cons] at hs
   generalize ls.getD i [] = y at *
   have hl : s.length + y.length ≤ 4194304 := by
    have := congrArg List.length hs
    simp only [List.length_append] at this
    omega
   refine .inl ⟨s ++ y, by rw [List.append_assoc]; exact hs, rfl, 0, 1, fun k _ => ?_⟩
   simp only [impl_joined.l0, hr]
   rw [if_pos (by omega), if_pos (by omega), if_pos (by omega), if_pos (by omega), w64s i (by omega)])
  (by
   intro s hs
   refine ⟨0, 1, fun k _ => ?_⟩
   simp only [impl_joined.l0]
   rw [if_neg (by omega)]
   simpa using hs)
 exact ⟨K, fun k hk' => hk k hk'⟩
theorem impl_within_f (a b c : Int) : impl_within.f a b c = some (decide (b ≤ a ∧ a ≤ c)) := by
 unfold impl_within.f
 by_cases h : a ≥ b
 ·rw [if_pos h]; congr 1; rw [Bool.eq_iff_iff]; simp; omega
 ·rw [if_neg h]; congr 1; rw [Bool.eq_iff_iff]; simp; omega
theorem impl_DevOk_ev (s : List (List Int)) (c : List S50) (f : Int) (d : Bool) (h1 : okByteSS s) (h2 : okWrS c) : Ev (fun k => impl_DevOk.f k s c f d) (devOkB s c f) := by
 have hs := okByteSS_len h1
 have hc := okWrS_len h2
 obtain ⟨K0, e0⟩ := evAll c.length (fun k i => impl_DevOk.l1 k c (c.length : Int) i s c f d) (fun i => wrOkB s.length (c.getD i z50)) true
  (by
   intro i hi
   have hr : rd_T50 c (i : Int) = c.getD i z50 := by simp [rd_T50]
   refine ⟨0, 1, fun k _ => ?_⟩
   simp only [impl_DevOk.l1, hr, impl_within_f, Option.bind_some, wrOkB]
   rw [if_pos (by omega), if_pos (by omega), if_pos (by omega), w64 (x := (s.length : Int) - 1) (by omega) (by omega), w64s i (by omega)]
   generalize c.getD i z50 = y at *
   by_cases q0 : 0 ≤ y.f0 ∧ y.f0 ≤ (s.length : Int) - 1
   ·simp only [decide_eq_true q0, Bool.true_and, if_true, decide_eq_true_eq]
    by_cases q : (y.f1.length : Int) > 80
    ·rw [if_pos q, if_neg (by omega)]
    ·rw [if_neg q, if_pos (by omega)]
   ·simp only [decide_eq_false q0, Bool.false_and, Bool.false_eq_true, if_false])
  (by
   refine ⟨0, 1, fun k _ => ?_⟩
   simp only [impl_DevOk.l1]
   rw [if_neg (by omega)]) 0 (Nat.zero_le _)
 obtain ⟨K, e⟩ := evAll s.length (fun k i => impl_DevOk.l0 k s (s.length : Int) i s c f d) (fun i => decide (((s.getD i []).length : Int) ≤ 80)) (allFrom (fun i => wrOkB s.length (c.getD i z50)) c.length 0)
  (by
   intro i hi
   have hr : rd_L1 s (i : Int) = s.getD i [] := by simp [rd_L1]
   refine ⟨0, 1, fun k _ => ?_⟩
   simp only [impl_DevOk.l0, hr, decide_eq_true_eq]
   rw [if_pos (by omega), if_pos (by omega), if_pos (by omega), w64s i (by omega)]
   generalize s.getD i [] = y at *
   by_cases q : (y.length : Int) > 80
   ·rw [if_pos q, if_neg (by omega)]
   ·rw [if_neg q, if_pos (by omega)])
  (by
   refine ⟨K0, 1, fun k hk => ?_⟩
   have e1 := e0 k hk
   simp only [Bool.and_true] at e1
   simp only [impl_DevOk.l0]
   rw [if_neg (by omega)]
   exact e1) 0 (Nat.zero_le _)
 refine evSucc ⟨K, 1, fun k hk => ?_⟩
 have e1 : impl_DevOk.l0 k s (s.length : Int) 0 s c f d = _ := e k hk
 simp only [impl_DevOk.f, impl_within_f, Option.bind_some, impl_DevOk.j0, e1, devOkB]
 cases q1 : decide (1 ≤ (s.length : Int) ∧ (s.length : Int) ≤ 60) with
 | false => simp
 | true =>
  simp only [if_true, Bool.true_and]
  by_cases q2 : (c.length : Int) > 60
  ·rw [if_pos q2, decide_eq_false (by omega)]; simp
  ·rw [if_neg q2, decide_eq_true (show (c.length : Int) ≤ 60 by omega)]
   cases decide (-1 ≤ f ∧ f ≤ 1000) <;> simp
end Go.Proofs.Ytilhcaofpfeioaa.Pure

namespace Go.Proofs.Ytilhcaofpfeioaa.Law
open Go.RowKit Go.Proofs.Ytilhcaofpfeioaa.PFnFalls Go.Proofs.Ytilhcaofpfeioaa.Core Go.Proofs.YtilhcaofpfeioaaW.PrintWords Go.Proofs.YtilhcaofpfeioaaW.PrintLast Go.Proofs.YtilhcaofpfeioaaW.PrintMore Go.Proofs.Ytilhcaofpfeioaa.Pure
set_option linter.unusedSimpArgs false
set_option linter.unusedVariables false
def Ex (a x y k : Nat) : Prop := a ≤ k ∧ k ≠ x ∧ k ≠ y
def Exb (a x y t k : Nat) : Prop := Ex a x y k ∧ k < t
theorem ex_of {u : Value} {x k : Nat} (h4 : u.ownBlock = none → x = 0) (hC : ∀ k, u.ownBlock = some k → k = x) (h : some k ≠ u.ownBlock) (hg : 0 < k) : k ≠ x := by
 intro e
 subst e
 cases hu : u.ownBlock with
 | none => have := h4 hu; omega
 | some b => exact h (by rw [hu, hC b hu])
theorem own_num (u : Value) (n : Nat) (hn : 0 < n) (h : ∀ k, u.ownBlock = some k → k < n) : ∃ x, x < n ∧ (∀ k, u.ownBlock = some k → k = x) ∧ (u.ownBlock = none → x = 0) := by
 cases e : u.ownBlock with
 | none => exact ⟨0, hn, fun k hk => (by cases hk), fun _ => rfl⟩
 | some b => exact ⟨b, h b e, fun k hk => (by injection hk with hk; exact hk.symm), fun h => (by cases h)⟩
def In2 (a b c d k : Nat) : Prop := In a b k ∨ In c d k
def Up (a b c k : Nat) : Prop := In a b k ∨ c ≤ k
theorem kept_grown {W w1 : World} {row : Option Nat} {S : Nat → Prop} (hg : W.grownBy w1 row) (h : ∀ k, row = some k → S k) : Kept W w1 S := ⟨hg.size, fun k hlt hn => hg.block k hlt (fun he => hn (h k he.symm))⟩
def rdR (xs : List (List Int)) (i : Int) : List Int := xs.getD i.toNat []
def rdW (xs : List (S50)) (i : Int) : S50 := xs.getD i.toNat z50
theorem F_row {e n : Nat} {W : World} {ok : Nat → Prop} {A : Option Addr} {xs : List (List Int)} (h : Kd.F (Kd.slice e (Kd.int .u8)) W ok A n xs) (i : Int) (h0 : 0 ≤ i) (h1 : i < n) :
  ∃ ad A' c', A = some ad ∧ W.cell? (ad.add i.toNat) = some (.slice A' (rdR xs i).length c') ∧ (rdR xs i).length ≤ c' ∧ Kd.F (Kd.int .u8) W ok A' (rdR xs i).length (rdR xs i) := by
 obtain ⟨ad, c, e_, _, hK, hcc, _⟩ := Kd.F_get h [] i h0 h1
 obtain ⟨A', c', rfl, hl, hf⟩ := Kd.FK_slice_open hK
 exact ⟨ad, A', c', e_, by have := hcc 0 _ rfl; rwa [show (Kd.slice e (Kd.int .u8)).sz = 1 from rfl, Nat.mul_one, Nat.add_zero] at this, hl, hf⟩
theorem F_wr {n : Nat} {W : World} {ok : Nat → Prop} {A : Option Addr} {xs : List (S50)} (h : Kd.F k50 W ok A n xs) (i : Int) (h0 : 0 ≤ i) (h1 : i < n) :
  ∃ ad A' c', A = some ad ∧ W.cell? (ad.add (i.toNat * 2)) = some (.int .i64 (rdW xs i).f0) ∧ W.cell? ⟨(ad.add (i.toNat * 2)).block, (ad.add (i.toNat * 2)).off + 1, none⟩ = some (.slice A' (rdW xs i).f1.length c') ∧ (rdW xs i).f1.length ≤ c' ∧ Kd.F (Kd.int .u8) W ok A' (rdW xs i).f1.length (rdW xs i).f1 := by
 obtain ⟨ad, c, e_, _, hK, hcc0, _⟩ := Kd.F_get h z50 i h0 h1
 have hcc : ∀ j u, c[j]? = some u → W.cell? (ad.add (i.toNat * 2 + j)) = some u := hcc0
 obtain ⟨A', c', rfl, hl, hf⟩ := k50_openF hK
 exact ⟨ad, A', c', e_, hcc 0 _ rfl, by rw [← add_field _ _ 1 (by omega)]; exact hcc 1 _ rfl, hl, hf⟩
theorem joined1 (E : List Int) (h : E.length ≤ 4194304) : ∃ k, impl_joined.f k ([E] : List (List Int)) = some E := evGet (by have := impl_joined_ev [E] (by simpa using h) (by simp); simpa using this)
theorem getS_len {s : List (List Int)} (h : okByteSS s) (i : Nat) : (s.getD i []).length ≤ 4194304 := by
 by_cases c : i < s.length
 ·exact okByteSS_at h i c
 ·rw [List.getD_eq_getElem?_getD, List.getElem?_eq_none (by omega)]; simp
theorem getW_len {s : List (S50)} (h : okWrS s) (i : Nat) : (s.getD i z50).f1.length ≤ 4194304 := by
 by_cases c : i < s.length
 ·exact okWrS_at h i c
 ·rw [List.getD_eq_getElem?_getD, List.getElem?_eq_none (by omega)]; simp [z50]
def okDevB (l : List (List Int)) (m : List (S50)) : Bool := decide (bulkByteSS l ≤ 4194304) && decide (bulkWrS m ≤ 4194304)
theorem new_SI2 {α : Type} {d : Kd α} {e base lo hi : Nat} {w1 : World} {v : Value} {xs : List α} (h : Kd.S d e w1 base (In lo hi) v xs) : ∃ A c, v = .slice A xs.length c ∧ xs.length ≤ c ∧ Kd.F d w1 (In lo hi) A xs.length xs ∧ Kd.S d e w1 base (In lo hi) (.slice A xs.length c) xs := by
 obtain ⟨A, c, rfl, hl, _⟩ := Kd.S_reads h
 exact ⟨A, c, rfl, hl, Kd.S_F h, h⟩
theorem devOk_at {s : List (List Int)} {c : List S50} {f x : Int} {i : Nat} (h : devOkB s c f = true) (hx : x = (i : Int)) (hi : i < c.length) : 0 ≤ (rdW c x).f0 ∧ (rdW c x).f0 < (s.length : Int) := by
 subst hx
 unfold devOkB at h
 simp only [Bool.and_eq_true] at h
 have h2 := allFrom_iff.1 h.2.1 i (Nat.zero_le i) hi
 unfold wrOkB at h2
 simp only [Bool.and_eq_true, decide_eq_true_eq] at h2
 unfold rdW
 rw [Int.toNat_natCast]
 omega
theorem C_F {α : Type} {d : Kd α} (hd : Kd.Heap d) {w : World} {A : Option Addr} {n : Nat} {xs : List α} (h : d.C w A n xs) : Kd.F d w (In 0 w.heap.size) A n xs := fun _ hW => Kd.Heap.C hd (fun k hk => hW k ⟨Nat.zero_le k, hk⟩ hk) h
theorem N_raise {α : Type} {d : Kd α} {e base b2 : Nat} {w : World} {ok : Nat → Prop} {v : Value} {xs : List α} (h : Kd.N d e w base ok v xs) (hb : ∀ k, v.ownBlock = some k → b2 ≤ k) : Kd.N d e w b2 ok v xs := by
 obtain ⟨h0, rows, hl, ⟨hr0, inner, ⟨h1, h2⟩, hr⟩, hf⟩ := h
 refine ⟨h0, rows, hl, ⟨hr0, inner, ⟨h1, ?_⟩, hr.imp_ (fun _ _ hp => hp)⟩, hf⟩
 rcases h2 with h2 | ⟨g, cap, cur, rfl, hg, r⟩
 ·exact .inl h2
 ·exact .inr ⟨g, cap, cur, rfl, hb g (by simp [Value.ownBlock]), r⟩
theorem kept_keep {W w1 : World} {g : Nat} (h : KeepBut W w1 g none) : Kept W w1 (fun k => k = g) := ⟨h.1, fun i hlt hn => h.2 i hlt hn (by simp)⟩
theorem keep_kept {W w1 : World} {g : Nat} (h : Kept W w1 (fun k => k = g)) : KeepBut W w1 g none := ⟨h.1, fun i hlt hn _ => h.2 i hlt hn⟩
theorem flush_t {s : List (List Int)} {c : List S50} {x : Int} {i : Nat} (hx : x = (i : Int)) : flushSecs s c (i + 1) = (flushSecs s c i).set (rdW c x).f0.toNat (rdW c x).f1 := by
 subst hx
 unfold rdW
 rw [Int.toNat_natCast]
 rfl
theorem fall_t {s : List (List Int)} {c : List S50} {k x y j : Int} {i : Nat} (hv : y = k) (hx : x = (i : Int)) (hj : shr .i64 y x = j) (ha : x < 30) (hb : Go.bits .and .i64 j 1 = 1) : fallSecs s c k (i + 1) = (fallSecs s c k i).set (rdW c x).f0.toNat (rdW c x).f1 := by
 subst hv
 subst hx
 subst hj
 unfold fallSecs bitB rdW
 rw [if_pos (by rw [decide_eq_true hb, decide_eq_true (by omega)]; rfl), Int.toNat_natCast]
 cases i <;> rfl
theorem fall_f1 {s : List (List Int)} {c : List S50} {k x y j : Int} {i : Nat} (hv : y = k) (hx : x = (i : Int)) (hj : shr .i64 y x = j) (hb : ¬ Go.bits .and .i64 j 1 = 1) : fallSecs s c k (i + 1) = fallSecs s c k i := by
 subst hv
 subst hx
 subst hj
 show (if bitB y i = true then _ else _) = _
 unfold bitB
 rw [if_neg (by rw [decide_eq_false hb, Bool.and_false]; decide)]
theorem fall_f2 {s : List (List Int)} {c : List S50} {k x : Int} {i : Nat} (hx : x = (i : Int)) (ha : ¬ x < 30) : fallSecs s c k (i + 1) = fallSecs s c k i := by
 subst hx
 show (if bitB k i = true then _ else _) = _
 unfold bitB
 rw [if_neg (by rw [decide_eq_false (show ¬ i < 30 by omega), Bool.false_and]; decide)]
end Go.Proofs.Ytilhcaofpfeioaa.Law
