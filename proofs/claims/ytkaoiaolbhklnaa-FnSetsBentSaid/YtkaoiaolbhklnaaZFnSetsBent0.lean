/- The law: the functions that it reaches, each with the proof that the machine's call comes to its answer, what they answer, and the law's row; each theorem says its conditions itself. -/
import Derived.Test.YtkaoiaolbhklnaaVFnSetsBent
import Derived.Test.YtkaoiaolbhklnaaProg
import Derived.Below
import Derived.Deep.Draws
import Derived.Deep.AppendLies
import Derived.Maps.AppendAt
import Derived.OwnWalk
import Derived.Laws.BytesArg
import Derived.Laws.MakeOwn
import Derived.Laws.OwnMore
import Derived.Deep.OwnRows
import Derived.Tactics
import Derived.Lib.ConvBytes
import Derived.Laws.Slices
import Derived.WalkKit
import Derived.KernelRfl
import Derived.RowKit3
import Derived.Deep.LoopGhost
import Derived.Deep.QuietTactic
import Derived.BigQuiet
import Derived.WideLaws
import Derived.Deep.DeepCutAuto
import Derived.Deep.CutBlock
import Derived.Deep.RegionHeld3
import Derived.Laws.Rows
import Derived.Lib.AppendStr
import Derived.ArgAppend
import Derived.Laws.IdiomCopy
import Derived.OrdersHeld
import Derived.Laws.BitsLemmas
import Derived.RowKit
namespace Go.Proofs.Ytkaoiaolbhklnaa.PFnSetsBent
open Go.RowKit Go.Proofs.YtkaoiaolbhklnaaW.PrintWords Go.Proofs.YtkaoiaolbhklnaaW.PrintLast Go.Proofs.YtkaoiaolbhklnaaW.PrintMore
attribute [local go_sem] max2_int min2_int max_two min_two max_three min_three max_four min_four   -- for this text's walks alone
set_option linter.unusedVariables false
set_option linter.unusedSimpArgs false
def errW : Option Int → Value
 | none => .nilIface
 | some c => .iface 0 (.int .i64 c)
theorem errW_none : errW none = .nilIface := rfl
theorem errW_some (c : Int) : errW (some c) = .iface 0 (.int .i64 c) := rfl
theorem info27 : (Try.prog.info? 27).map (fun i => (i.zero, i.size, i.bytes)) = some (some (.agg #[(.int .i64 0), (.int .i64 0), (.int .i64 0), (.int .i64 0), (.int .i64 0)]), 5, 40) := by kernel_rfl
-- the values' own types
structure S27 where
 f0 : Int
 f1 : Int
 f2 : Int
 f3 : Int
 f4 : Int
def z27 : S27 := ⟨(0 : Int), (0 : Int), (0 : Int), (0 : Int), (0 : Int)⟩
def k27 : Kd S27 := Kd.iso (Kd.pair (Kd.int .i64) (Kd.pair (Kd.int .i64) (Kd.pair (Kd.int .i64) (Kd.pair (Kd.int .i64) (Kd.int .i64))))) (fun x : S27 => (x.f0, x.f1, x.f2, x.f3, x.f4))
theorem k27_open {w : World} {x : S27} {cs : List Value} (h : k27.K w x cs) : cs = [.int .i64 x.f0, .int .i64 x.f1, .int .i64 x.f2, .int .i64 x.f3, .int .i64 x.f4] := by
 obtain ⟨_, _, rfl, rfl, ⟨_, _, rfl, rfl, ⟨_, _, rfl, rfl, ⟨_, _, rfl, rfl, rfl⟩⟩⟩⟩ := h
 exact rfl
theorem k27_openM {w : World} {base : Nat} {ok : Nat → Prop} {x : S27} {cs : List Value} (h : k27.M w base ok x cs) : cs = [.int .i64 x.f0, .int .i64 x.f1, .int .i64 x.f2, .int .i64 x.f3, .int .i64 x.f4] := by
 obtain ⟨_, _, rfl, rfl, ⟨_, _, rfl, rfl, ⟨_, _, rfl, rfl, ⟨_, _, rfl, rfl, rfl⟩⟩⟩⟩ := h
 exact rfl
theorem k27_mkM (w : World) (base : Nat) (ok : Nat → Prop) (x : S27)  : k27.M w base ok x [.int .i64 x.f0, .int .i64 x.f1, .int .i64 x.f2, .int .i64 x.f3, .int .i64 x.f4] := ⟨[.int .i64 x.f0], [.int .i64 x.f1, .int .i64 x.f2, .int .i64 x.f3, .int .i64 x.f4], rfl, rfl, ⟨[.int .i64 x.f1], [.int .i64 x.f2, .int .i64 x.f3, .int .i64 x.f4], rfl, rfl, ⟨[.int .i64 x.f2], [.int .i64 x.f3, .int .i64 x.f4], rfl, rfl, ⟨[.int .i64 x.f3], [.int .i64 x.f4], rfl, rfl, rfl⟩⟩⟩⟩
def rd_T27 (xs : List S27) (i : Int) : S27 := xs.getD i.toNat z27
theorem at_T27 {w : World} {A : Option Addr} {n : Nat} {xs : List S27} (h : Kd.C k27 w A n xs) (i : Int) (h0 : 0 ≤ i) (h1 : i < n) : ∃ ad , A = some ad ∧ w.cell? (ad.add (i.toNat * 5)) = some (.int .i64 (rd_T27 xs i).f0) ∧ w.cell? ⟨(ad.add (i.toNat * 5)).block, (ad.add (i.toNat * 5)).off + 1, none⟩ = some (.int .i64 (rd_T27 xs i).f1) ∧ w.cell? ⟨(ad.add (i.toNat * 5)).block, (ad.add (i.toNat * 5)).off + 2, none⟩ = some (.int .i64 (rd_T27 xs i).f2) ∧ w.cell? ⟨(ad.add (i.toNat * 5)).block, (ad.add (i.toNat * 5)).off + 3, none⟩ = some (.int .i64 (rd_T27 xs i).f3) ∧ w.cell? ⟨(ad.add (i.toNat * 5)).block, (ad.add (i.toNat * 5)).off + 4, none⟩ = some (.int .i64 (rd_T27 xs i).f4) := by
 obtain ⟨ad, c, e, _, hK, hc0⟩ := Kd.C_get h z27 i h0 h1
 have hc : ∀ j u, c[j]? = some u → w.cell? (ad.add (i.toNat * 5 + j)) = some u := hc0
 obtain rfl := k27_open hK
 exact ⟨ad, e, hc 0 _ rfl, by rw [← add_field _ _ 1 (by omega)]; exact hc 1 _ rfl, by rw [← add_field _ _ 2 (by omega)]; exact hc 2 _ rfl, by rw [← add_field _ _ 3 (by omega)]; exact hc 3 _ rfl, by rw [← add_field _ _ 4 (by omega)]; exact hc 4 _ rfl⟩
end Go.Proofs.Ytkaoiaolbhklnaa.PFnSetsBent

namespace Go.Proofs.Ytkaoiaolbhklnaa.PFnSetsBent
open Go.RowKit Go.Proofs.YtkaoiaolbhklnaaW.PrintWords Go.Proofs.YtkaoiaolbhklnaaW.PrintLast Go.Proofs.YtkaoiaolbhklnaaW.PrintMore
attribute [local go_sem] max2_int min2_int max_two min_two max_three min_three max_four min_four   -- for this text's walks alone
set_option linter.unusedVariables false
set_option linter.unusedSimpArgs false
theorem eqA27 (d : Nat) (w : World) (x0 y0 : Int) (x1 y1 : Int) (x2 y2 : Int) (x3 y3 : Int) (x4 y4 : Int) :
  (Op.equalIn (d + 2) 27 (.agg #[.int .i64 x0, .int .i64 x1, .int .i64 x2, .int .i64 x3, .int .i64 x4]) (.agg #[.int .i64 y0, .int .i64 y1, .int .i64 y2, .int .i64 y3, .int .i64 y4])).run Try.prog w = .ok (x0 == y0 && (x1 == y1 && (x2 == y2 && (x3 == y3 && (x4 == y4))))) w := by
 refine eqA_of Try.underlying27 (by kernel_rfl) ?_
 refine eqf_cons (by rfl) (by go_simp; rfl) (by go_simp; rfl) (by go_simp) ?_
 refine eqf_cons (by rfl) (by go_simp; rfl) (by go_simp; rfl) (by go_simp) ?_
 refine eqf_cons (by rfl) (by go_simp; rfl) (by go_simp; rfl) (by go_simp) ?_
 refine eqf_cons (by rfl) (by go_simp; rfl) (by go_simp; rfl) (by go_simp) ?_
 exact eqf_last (by rfl) (by go_simp; rfl) (by go_simp; rfl) (by go_simp)
end Go.Proofs.Ytkaoiaolbhklnaa.PFnSetsBent

namespace Go.Proofs.Ytkaoiaolbhklnaa.PFnSetsBent
open Go.RowKit Go.Proofs.YtkaoiaolbhklnaaW.PrintWords Go.Proofs.YtkaoiaolbhklnaaW.PrintLast Go.Proofs.YtkaoiaolbhklnaaW.PrintMore
attribute [local go_sem] max2_int min2_int max_two min_two max_three min_three max_four min_four   -- for this text's walks alone
set_option linter.unusedVariables false
set_option linter.unusedSimpArgs false
def laws_big.f (l0 : List Int) : Option (Bool) := some (decide ((l0.length : Int) > 1048576))
set_option maxHeartbeats 8000000 in
set_option maxRecDepth 100000 in
theorem laws_big.calls (A0 : Option Addr) (c0 : Nat) (l0 : List Int) (r : Bool) (w : World) (hr0 : Kd.C (Kd.int .u8) w A0 l0.length l0) (hc0 : l0.length ≤ c0) (h : laws_big.f l0 = some r) :
  Calls Try.prog 24 #[.slice A0 l0.length c0] w fun e w' => e = .returned (.bool r) ∧ Drawn0 w w' := by
 have HR0 := aA.mk hr0
 have HC0 := aA.mk hc0
 clear hr0 hc0
 have H : (some (decide ((l0.length : Int) > 1048576))) = some r := h
 clear h
 obtain rfl := Option.some.inj H
 go_enter Try.func24, Try.ntmps24
 go_wp2
 go_ret
 exact ⟨by first | rfl | (simp; done) | (simp [*]; done), by repeat (first | exact Drawn0.refl _ | apply Drawn0.step)⟩
def spec_SetAt.l0 : Nat → List (S27) → Int → Int → Int → Option (Int × Int × Int × Int × Int × Bool)
 | 0, _, _, _, _ => none
 | k + 1, x0, x1, x2, x8 => if x8 < (x0.length : Int) then (if 0 ≤ x8 then (if ((rd_T27 x0 x8).f0) = x1 then (if ((rd_T27 x0 x8).f1) = x2 then (some ((rd_T27 x0 x8).f0, (rd_T27 x0 x8).f1, (rd_T27 x0 x8).f2, (rd_T27 x0 x8).f3, (rd_T27 x0 x8).f4, true)) else (spec_SetAt.l0 k x0 x1 x2 (wrap64 (x8 + 1)))) else (spec_SetAt.l0 k x0 x1 x2 (wrap64 (x8 + 1)))) else (none)) else (some (0, 0, 0, 0, 0, false))
def spec_SetAt.f (k : Nat) (l0 : List (S27)) (a1 : Int) (a2 : Int) : Option (Int × Int × Int × Int × Int × Bool) := spec_SetAt.l0 k l0 a1 a2 0
set_option maxHeartbeats 8000000 in
set_option maxRecDepth 100000 in
theorem spec_SetAt.calls (k : Nat) (A0 : Option Addr) (c0 : Nat) (l0 : List (S27)) (a1 : Int) (a2 : Int) (r1 : Int) (r2 : Int) (r3 : Int) (r4 : Int) (r5 : Int) (r6 : Bool) (w : World) (hr0 : Kd.C k27 w A0 l0.length l0) (hc0 : l0.length ≤ c0) (h : spec_SetAt.f k l0 a1 a2 = some (r1, r2, r3, r4, r5, r6)) :
  Calls Try.prog 42 #[.slice A0 l0.length c0, .int .i64 a1, .int .i64 a2] w fun e w' => e = .returned (.tuple #[.agg #[.int .i64 r1, .int .i64 r2, .int .i64 r3, .int .i64 r4, .int .i64 r5], .bool r6]) ∧ Below w.heap.size w w' := by
 have hu27 := Try.underlying27
 have HR0 := aA.mk hr0
 have HC0 := aA.mk hc0
 clear hr0 hc0
 have HB := aA.mk (Below.refl w.heap.size w)
 have H : (spec_SetAt.l0 k l0 a1 a2 0) = some (r1, r2, r3, r4, r5, r6) := h
 clear h
 have H' := aA.mk H
 clear H
 go_enter Try.func42, Try.ntmps42
 go_wp2_with (first | ((with_reducible refine bG (N := 6) rfl ?_); refine bJ ?hg (N := 6) ?hd (cs := #[.int .i64 0, .int .i64 0, .int .i64 0, .int .i64 0, .int .i64 0]) (t := 27) ?hr ?_; (case hd => rfl); (case hg => rfl); (case hr => first | (go_simp; done) | (go_simp; rfl)); intro gb101 hg w4 hbox hb; have n0_ := aA.mk (aV (by repeat (first | (with_reducible first | exact HB.out | apply aH | apply aE | apply aG) | exact HB.out)) hb); have n1_ := aA.mk (hbox); have n2_ := aA.mk ((by rw [hg]; exact (aW (by repeat (first | (with_reducible first | exact HB.out | apply aH | apply aE | apply aG) | exact HB.out))) : w.heap.size ≤ gb101)); have n3_ := aA.mk ((by rw [hg]; exact (aW (by repeat (first | (with_reducible first | exact HB.out | apply aH | apply aE | apply aG) | exact HB.out))) : w.heap.size ≤ gb101)); clear HB; have HB := n0_; have BK101 := n1_; have GW101 := n2_; have GE101 := n3_; clear n0_ n1_ n2_ n3_; clear hb hbox hg))
 go_loopg [8] k (fun kq v8 w' => ∃ (x8_1 : Int) (x102000_1 : Int) (x102001_1 : Int) (x102002_1 : Int) (x102003_1 : Int) (x102004_1 : Int), v8 = .int .i64 x8_1 ∧ aA (spec_SetAt.l0 kq l0 a1 a2 x8_1 = some (r1, r2, r3, r4, r5, r6)) ∧ aA (kq ≤ k) ∧ aA (w'.heap[gb101]? = some (.cells #[.int .i64 x102000_1, .int .i64 x102001_1, .int .i64 x102002_1, .int .i64 x102003_1, .int .i64 x102004_1] 27 (0, 0))) ∧ aA (Below w.heap.size w w'))
 case atStart => exact ⟨(0), (0), (0), (0), (0), (0), (by first | rfl | (simp; done) | (simp [*]; done)), H', ⟨Nat.le_refl _⟩, ⟨by (with_reducible repeat (first | refine aK ?_ _ | refine aM ?_ | refine aJ ?_ _)); exact BK101.out⟩, ⟨by repeat (first | (with_reducible first | exact HB.out | apply aH | apply aE | apply aG | refine aN ?_ GE101.out) | exact HB.out)⟩⟩
 case round =>
  clear H'
  try clear p2
  try clear c4
  obtain ⟨x8_1, x102000_1, x102001_1, x102002_1, x102003_1, x102004_1, rfl, HA, HK1, BK101, HB⟩ := hrel
  cases gk with
  | zero => exact absurd HA.out (by simp [spec_SetAt.l0])
  | succ k1 =>
   have H := HA.out
   clear HA
   simp only [spec_SetAt.l0] at H
   by_cases c5 : x8_1 < (l0.length : Int)
   ·rw [if_pos c5] at H
    have c5b0 : decide (x8_1 < (l0.length : Int)) = true := decide_eq_true c5
    clear c5
    by_cases c6 : 0 ≤ x8_1
    ·rw [if_pos c6] at H
     have c6b0 : decide (0 ≤ x8_1) = true := decide_eq_true c6
     clear c6
     by_cases c7 : ((rd_T27 l0 x8_1).f0) = a1
     ·rw [if_pos c7] at H
      have c7b0 : (((rd_T27 l0 x8_1).f0) == a1) = true := beq_iff_eq.mpr c7
      have c7b1 : (((rd_T27 l0 x8_1).f0) != a1) = false := bne_eq_false_iff_eq.mpr c7
      clear c7
      by_cases c8 : ((rd_T27 l0 x8_1).f1) = a2
      ·rw [if_pos c8] at H
       have c8b0 : (((rd_T27 l0 x8_1).f1) == a2) = true := beq_iff_eq.mpr c8
       have c8b1 : (((rd_T27 l0 x8_1).f1) != a2) = false := bne_eq_false_iff_eq.mpr c8
       clear c8
       simp only [Option.some.injEq, Prod.mk.injEq] at H
       obtain ⟨rfl, rfl, rfl, rfl, rfl, rfl⟩ := H
       have p102 : 0 ≤ (x8_1 : Int) := lE (by first | (with_reducible assumption) | assumption)
       have q102 : x8_1 < (l0.length : Int) := lE (by first | (with_reducible assumption) | assumption)
       obtain ⟨ad102, e102, hx102_0, hx102_1, hx102_2, hx102_3, hx102_4⟩ := at_T27 HR0.out x8_1 p102 q102
       cases e102
       replace hx102_0 := (HB.out.cell (lD w _ hx102_0)).trans hx102_0
       replace hx102_1 := (HB.out.cell (lD w _ hx102_1)).trans hx102_1
       replace hx102_2 := (HB.out.cell (lD w _ hx102_2)).trans hx102_2
       replace hx102_3 := (HB.out.cell (lD w _ hx102_3)).trans hx102_3
       replace hx102_4 := (HB.out.cell (lD w _ hx102_4)).trans hx102_4
       replace p102 := eq_true p102
       replace q102 := eq_true q102
       have p103 : 0 ≤ (x8_1 : Int) := lE (by first | (with_reducible assumption) | assumption)
       have q103 : x8_1 < (l0.length : Int) := lE (by first | (with_reducible assumption) | assumption)
       obtain ⟨ad103, e103, hx103_0, hx103_1, hx103_2, hx103_3, hx103_4⟩ := at_T27 HR0.out x8_1 p103 q103
       obtain rfl : ad102 = ad103 := (by injection e103)
       replace hx103_0 := (HB.out.cell (lD w _ hx103_0)).trans hx103_0
       replace hx103_1 := (HB.out.cell (lD w _ hx103_1)).trans hx103_1
       replace hx103_2 := (HB.out.cell (lD w _ hx103_2)).trans hx103_2
       replace hx103_3 := (HB.out.cell (lD w _ hx103_3)).trans hx103_3
       replace hx103_4 := (HB.out.cell (lD w _ hx103_4)).trans hx103_4
       replace p103 := eq_true p103
       replace q103 := eq_true q103
       have p104 : 0 ≤ (x8_1 : Int) := lE (by first | (with_reducible assumption) | assumption)
       have q104 : x8_1 < (l0.length : Int) := lE (by first | (with_reducible assumption) | assumption)
       obtain ⟨ad104, e104, hx104_0, hx104_1, hx104_2, hx104_3, hx104_4⟩ := at_T27 HR0.out x8_1 p104 q104
       obtain rfl : ad102 = ad104 := (by injection e104)
       replace hx104_0 := (HB.out.cell (lD w _ hx104_0)).trans hx104_0
       replace hx104_1 := (HB.out.cell (lD w _ hx104_1)).trans hx104_1
       replace hx104_2 := (HB.out.cell (lD w _ hx104_2)).trans hx104_2
       replace hx104_3 := (HB.out.cell (lD w _ hx104_3)).trans hx104_3
       replace hx104_4 := (HB.out.cell (lD w _ hx104_4)).trans hx104_4
       replace p104 := eq_true p104
       replace q104 := eq_true q104
       have hcz9_0 : wr.cell? ⟨gb101, 0, none⟩ = some (.int .i64 x102000_1) := (aC BK101.out 0).trans rfl
       have hcz9_1 : wr.cell? ⟨gb101, 1, none⟩ = some (.int .i64 x102001_1) := (aC BK101.out 1).trans rfl
       have hcz9_2 : wr.cell? ⟨gb101, 2, none⟩ = some (.int .i64 x102002_1) := (aC BK101.out 2).trans rfl
       have hcz9_3 : wr.cell? ⟨gb101, 3, none⟩ = some (.int .i64 x102003_1) := (aC BK101.out 3).trans rfl
       have hcz9_4 : wr.cell? ⟨gb101, 4, none⟩ = some (.int .i64 x102004_1) := (aC BK101.out 4).trans rfl
       have hfz9_0 := aD BK101.out 0
       have hfz9_1 := aD BK101.out 1
       have hfz9_2 := aD BK101.out 2
       have hfz9_3 := aD BK101.out 3
       have hfz9_4 := aD BK101.out 4
       go_wp2
       refine bodyPost_ret (results_ct rfl _ _ gb101 27 #[.int .i64 ((rd_T27 l0 x8_1).f0), .int .i64 ((rd_T27 l0 x8_1).f1), .int .i64 ((rd_T27 l0 x8_1).f2), .int .i64 ((rd_T27 l0 x8_1).f3), .int .i64 ((rd_T27 l0 x8_1).f4)] (0, 0) _ rfl (by (with_reducible repeat (first | refine aK ?_ _ | refine aM ?_ | refine aJ ?_ _)); refine aU (cs := #[.int .i64 ((rd_T27 l0 x8_1).f0), .int .i64 ((rd_T27 l0 x8_1).f1), .int .i64 ((rd_T27 l0 x8_1).f2), .int .i64 ((rd_T27 l0 x8_1).f3), .int .i64 x102004_1]) ?_ 4 _ rfl; (with_reducible repeat (first | refine aK ?_ _ | refine aM ?_ | refine aJ ?_ _)); refine aU (cs := #[.int .i64 ((rd_T27 l0 x8_1).f0), .int .i64 ((rd_T27 l0 x8_1).f1), .int .i64 ((rd_T27 l0 x8_1).f2), .int .i64 x102003_1, .int .i64 x102004_1]) ?_ 3 _ rfl; (with_reducible repeat (first | refine aK ?_ _ | refine aM ?_ | refine aJ ?_ _)); refine aU (cs := #[.int .i64 ((rd_T27 l0 x8_1).f0), .int .i64 ((rd_T27 l0 x8_1).f1), .int .i64 x102002_1, .int .i64 x102003_1, .int .i64 x102004_1]) ?_ 2 _ rfl; (with_reducible repeat (first | refine aK ?_ _ | refine aM ?_ | refine aJ ?_ _)); refine aU (cs := #[.int .i64 ((rd_T27 l0 x8_1).f0), .int .i64 x102001_1, .int .i64 x102002_1, .int .i64 x102003_1, .int .i64 x102004_1]) ?_ 1 _ rfl; (with_reducible repeat (first | refine aK ?_ _ | refine aM ?_ | refine aJ ?_ _)); refine aU (cs := #[.int .i64 x102000_1, .int .i64 x102001_1, .int .i64 x102002_1, .int .i64 x102003_1, .int .i64 x102004_1]) ?_ 0 _ rfl; (with_reducible repeat (first | refine aK ?_ _ | refine aM ?_ | refine aJ ?_ _)); exact BK101.out) Try.underlying27 rfl (by kernel_rfl)) rfl ?_
       exact ⟨by first | rfl | (simp [errW_none, errW_some] <;> rfl) | (simp [*, errW_none, errW_some] <;> rfl), by repeat (first | (with_reducible first | exact HB.out | apply aH | apply aE | apply aG | refine aN ?_ GE101.out) | exact HB.out)⟩
      ·rw [if_neg c8] at H
       have c8b0 : (((rd_T27 l0 x8_1).f1) == a2) = false := beq_eq_false_iff_ne.mpr c8
       have c8b1 : (((rd_T27 l0 x8_1).f1) != a2) = true := bne_iff_ne.mpr c8
       have H' := aA.mk H
       clear H
       have p102 : 0 ≤ (x8_1 : Int) := lE (by first | (with_reducible assumption) | assumption)
       have q102 : x8_1 < (l0.length : Int) := lE (by first | (with_reducible assumption) | assumption)
       obtain ⟨ad102, e102, hx102_0, hx102_1, hx102_2, hx102_3, hx102_4⟩ := at_T27 HR0.out x8_1 p102 q102
       cases e102
       replace hx102_0 := (HB.out.cell (lD w _ hx102_0)).trans hx102_0
       replace hx102_1 := (HB.out.cell (lD w _ hx102_1)).trans hx102_1
       replace hx102_2 := (HB.out.cell (lD w _ hx102_2)).trans hx102_2
       replace hx102_3 := (HB.out.cell (lD w _ hx102_3)).trans hx102_3
       replace hx102_4 := (HB.out.cell (lD w _ hx102_4)).trans hx102_4
       replace p102 := eq_true p102
       replace q102 := eq_true q102
       have p103 : 0 ≤ (x8_1 : Int) := lE (by first | (with_reducible assumption) | assumption)
       have q103 : x8_1 < (l0.length : Int) := lE (by first | (with_reducible assumption) | assumption)
       obtain ⟨ad103, e103, hx103_0, hx103_1, hx103_2, hx103_3, hx103_4⟩ := at_T27 HR0.out x8_1 p103 q103
       obtain rfl : ad102 = ad103 := (by injection e103)
       replace hx103_0 := (HB.out.cell (lD w _ hx103_0)).trans hx103_0
       replace hx103_1 := (HB.out.cell (lD w _ hx103_1)).trans hx103_1
       replace hx103_2 := (HB.out.cell (lD w _ hx103_2)).trans hx103_2
       replace hx103_3 := (HB.out.cell (lD w _ hx103_3)).trans hx103_3
       replace hx103_4 := (HB.out.cell (lD w _ hx103_4)).trans hx103_4
       replace p103 := eq_true p103
       replace q103 := eq_true q103
       go_wp2
       go_roundg k1
       case measure => have := HK1.out; omega
       case rel => exact ⟨(wrap64 (x8_1 + 1)), (x102000_1), (x102001_1), (x102002_1), (x102003_1), (x102004_1), (by first | rfl | (simp; done) | (simp [*]; done)), H', ⟨by have := HK1.out; omega⟩, ⟨by (with_reducible repeat (first | refine aK ?_ _ | refine aM ?_ | refine aJ ?_ _)); exact BK101.out⟩, ⟨by repeat (first | (with_reducible first | exact HB.out | apply aH | apply aE | apply aG | refine aN ?_ GE101.out) | exact HB.out)⟩⟩
     ·rw [if_neg c7] at H
      have c7b0 : (((rd_T27 l0 x8_1).f0) == a1) = false := beq_eq_false_iff_ne.mpr c7
      have c7b1 : (((rd_T27 l0 x8_1).f0) != a1) = true := bne_iff_ne.mpr c7
      have H' := aA.mk H
      clear H
      have p102 : 0 ≤ (x8_1 : Int) := lE (by first | (with_reducible assumption) | assumption)
      have q102 : x8_1 < (l0.length : Int) := lE (by first | (with_reducible assumption) | assumption)
      obtain ⟨ad102, e102, hx102_0, hx102_1, hx102_2, hx102_3, hx102_4⟩ := at_T27 HR0.out x8_1 p102 q102
      cases e102
      replace hx102_0 := (HB.out.cell (lD w _ hx102_0)).trans hx102_0
      replace hx102_1 := (HB.out.cell (lD w _ hx102_1)).trans hx102_1
      replace hx102_2 := (HB.out.cell (lD w _ hx102_2)).trans hx102_2
      replace hx102_3 := (HB.out.cell (lD w _ hx102_3)).trans hx102_3
      replace hx102_4 := (HB.out.cell (lD w _ hx102_4)).trans hx102_4
      replace p102 := eq_true p102
      replace q102 := eq_true q102
      go_wp2
      go_roundg k1
      case measure => have := HK1.out; omega
      case rel => exact ⟨(wrap64 (x8_1 + 1)), (x102000_1), (x102001_1), (x102002_1), (x102003_1), (x102004_1), (by first | rfl | (simp; done) | (simp [*]; done)), H', ⟨by have := HK1.out; omega⟩, ⟨by (with_reducible repeat (first | refine aK ?_ _ | refine aM ?_ | refine aJ ?_ _)); exact BK101.out⟩, ⟨by repeat (first | (with_reducible first | exact HB.out | apply aH | apply aE | apply aG | refine aN ?_ GE101.out) | exact HB.out)⟩⟩
    ·rw [if_neg c6] at H
     exact absurd H (by simp)
   ·rw [if_neg c5] at H
    have c5b0 : decide (x8_1 < (l0.length : Int)) = false := decide_eq_false c5
    clear c5
    simp only [Option.some.injEq, Prod.mk.injEq] at H
    obtain ⟨rfl, rfl, rfl, rfl, rfl, rfl⟩ := H
    have hcz10_0 : wr.cell? ⟨gb101, 0, none⟩ = some (.int .i64 x102000_1) := (aC BK101.out 0).trans rfl
    have hcz10_1 : wr.cell? ⟨gb101, 1, none⟩ = some (.int .i64 x102001_1) := (aC BK101.out 1).trans rfl
    have hcz10_2 : wr.cell? ⟨gb101, 2, none⟩ = some (.int .i64 x102002_1) := (aC BK101.out 2).trans rfl
    have hcz10_3 : wr.cell? ⟨gb101, 3, none⟩ = some (.int .i64 x102003_1) := (aC BK101.out 3).trans rfl
    have hcz10_4 : wr.cell? ⟨gb101, 4, none⟩ = some (.int .i64 x102004_1) := (aC BK101.out 4).trans rfl
    have hfz10_0 := aD BK101.out 0
    have hfz10_1 := aD BK101.out 1
    have hfz10_2 := aD BK101.out 2
    have hfz10_3 := aD BK101.out 3
    have hfz10_4 := aD BK101.out 4
    go_wp2
    refine bodyPost_ret (results_ct rfl _ _ gb101 27 #[.int .i64 0, .int .i64 0, .int .i64 0, .int .i64 0, .int .i64 0] (0, 0) _ rfl (by (with_reducible repeat (first | refine aK ?_ _ | refine aM ?_ | refine aJ ?_ _)); refine aU (cs := #[.int .i64 0, .int .i64 0, .int .i64 0, .int .i64 0, .int .i64 x102004_1]) ?_ 4 _ rfl; (with_reducible repeat (first | refine aK ?_ _ | refine aM ?_ | refine aJ ?_ _)); refine aU (cs := #[.int .i64 0, .int .i64 0, .int .i64 0, .int .i64 x102003_1, .int .i64 x102004_1]) ?_ 3 _ rfl; (with_reducible repeat (first | refine aK ?_ _ | refine aM ?_ | refine aJ ?_ _)); refine aU (cs := #[.int .i64 0, .int .i64 0, .int .i64 x102002_1, .int .i64 x102003_1, .int .i64 x102004_1]) ?_ 2 _ rfl; (with_reducible repeat (first | refine aK ?_ _ | refine aM ?_ | refine aJ ?_ _)); refine aU (cs := #[.int .i64 0, .int .i64 x102001_1, .int .i64 x102002_1, .int .i64 x102003_1, .int .i64 x102004_1]) ?_ 1 _ rfl; (with_reducible repeat (first | refine aK ?_ _ | refine aM ?_ | refine aJ ?_ _)); refine aU (cs := #[.int .i64 x102000_1, .int .i64 x102001_1, .int .i64 x102002_1, .int .i64 x102003_1, .int .i64 x102004_1]) ?_ 0 _ rfl; (with_reducible repeat (first | refine aK ?_ _ | refine aM ?_ | refine aJ ?_ _)); exact BK101.out) Try.underlying27 rfl (by kernel_rfl)) rfl ?_
    exact ⟨by first | rfl | (simp [errW_none, errW_some] <;> rfl) | (simp [*, errW_none, errW_some] <;> rfl), by repeat (first | (with_reducible first | exact HB.out | apply aH | apply aE | apply aG | refine aN ?_ GE101.out) | exact HB.out)⟩
def impl_SetAt.l0 : Nat → Int → Int → List (S27) → Int → Int → Option (Int × Int × Int × Int × Int × Bool)
 | 0, _, _, _, _, _ => none
 | k + 1, x1, x2, x10, x11, x12 => if x12 < x11 then (if 0 ≤ x12 then (if x12 < (x10.length : Int) then (if ((rd_T27 x10 x12).f0) = x1 then (if ((rd_T27 x10 x12).f1) = x2 then (some ((rd_T27 x10 x12).f0, (rd_T27 x10 x12).f1, (rd_T27 x10 x12).f2, (rd_T27 x10 x12).f3, (rd_T27 x10 x12).f4, true)) else (impl_SetAt.l0 k x1 x2 x10 x11 (wrap64 (x12 + 1)))) else (impl_SetAt.l0 k x1 x2 x10 x11 (wrap64 (x12 + 1)))) else (none)) else (none)) else (some (0, 0, 0, 0, 0, false))
def impl_SetAt.f (k : Nat) (l0 : List (S27)) (a1 : Int) (a2 : Int) : Option (Int × Int × Int × Int × Int × Bool) := impl_SetAt.l0 k a1 a2 l0 (l0.length : Int) 0
set_option maxHeartbeats 8000000 in
set_option maxRecDepth 100000 in
theorem impl_SetAt.calls (k : Nat) (A0 : Option Addr) (c0 : Nat) (l0 : List (S27)) (a1 : Int) (a2 : Int) (r1 : Int) (r2 : Int) (r3 : Int) (r4 : Int) (r5 : Int) (r6 : Bool) (w : World) (hr0 : Kd.C k27 w A0 l0.length l0) (hc0 : l0.length ≤ c0) (h : impl_SetAt.f k l0 a1 a2 = some (r1, r2, r3, r4, r5, r6)) :
  Calls Try.prog 44 #[.slice A0 l0.length c0, .int .i64 a1, .int .i64 a2] w fun e w' => e = .returned (.tuple #[.agg #[.int .i64 r1, .int .i64 r2, .int .i64 r3, .int .i64 r4, .int .i64 r5], .bool r6]) ∧ Below w.heap.size w w' := by
 have hu27 := Try.underlying27
 have HR0 := aA.mk hr0
 have HC0 := aA.mk hc0
 clear hr0 hc0
 have HB := aA.mk (Below.refl w.heap.size w)
 have H : (impl_SetAt.l0 k a1 a2 l0 (l0.length : Int) 0) = some (r1, r2, r3, r4, r5, r6) := h
 clear h
 have H' := aA.mk H
 clear H
 go_enter Try.func44, Try.ntmps44
 go_wp2_with (first | ((with_reducible refine bG (N := 6) rfl ?_); refine bJ ?hg (N := 6) ?hd (cs := #[.int .i64 0, .int .i64 0, .int .i64 0, .int .i64 0, .int .i64 0]) (t := 27) ?hr ?_; (case hd => rfl); (case hg => rfl); (case hr => first | (go_simp; done) | (go_simp; rfl)); intro gb105 hg w4 hbox hb; have n0_ := aA.mk (aV (by repeat (first | (with_reducible first | exact HB.out | apply aH | apply aE | apply aG) | exact HB.out)) hb); have n1_ := aA.mk (hbox); have n2_ := aA.mk ((by rw [hg]; exact (aW (by repeat (first | (with_reducible first | exact HB.out | apply aH | apply aE | apply aG) | exact HB.out))) : w.heap.size ≤ gb105)); have n3_ := aA.mk ((by rw [hg]; exact (aW (by repeat (first | (with_reducible first | exact HB.out | apply aH | apply aE | apply aG) | exact HB.out))) : w.heap.size ≤ gb105)); clear HB; have HB := n0_; have BK105 := n1_; have GW105 := n2_; have GE105 := n3_; clear n0_ n1_ n2_ n3_; clear hb hbox hg))
 go_loopg [12] k (fun kq v12 w' => ∃ (x12_1 : Int) (x106000_1 : Int) (x106001_1 : Int) (x106002_1 : Int) (x106003_1 : Int) (x106004_1 : Int), v12 = .int .i64 x12_1 ∧ aA (impl_SetAt.l0 kq a1 a2 l0 (l0.length : Int) x12_1 = some (r1, r2, r3, r4, r5, r6)) ∧ aA (kq ≤ k) ∧ aA (w'.heap[gb105]? = some (.cells #[.int .i64 x106000_1, .int .i64 x106001_1, .int .i64 x106002_1, .int .i64 x106003_1, .int .i64 x106004_1] 27 (0, 0))) ∧ aA (Below w.heap.size w w'))
 case atStart => exact ⟨(0), (0), (0), (0), (0), (0), (by first | rfl | (simp; done) | (simp [*]; done)), H', ⟨Nat.le_refl _⟩, ⟨by (with_reducible repeat (first | refine aK ?_ _ | refine aM ?_ | refine aJ ?_ _)); exact BK105.out⟩, ⟨by repeat (first | (with_reducible first | exact HB.out | apply aH | apply aE | apply aG | refine aN ?_ GE105.out) | exact HB.out)⟩⟩
 case round =>
  clear H'
  try clear p2
  try clear c4
  obtain ⟨x12_1, x106000_1, x106001_1, x106002_1, x106003_1, x106004_1, rfl, HA, HK1, BK105, HB⟩ := hrel
  cases gk with
  | zero => exact absurd HA.out (by simp [impl_SetAt.l0])
  | succ k1 =>
   have H := HA.out
   clear HA
   simp only [impl_SetAt.l0] at H
   by_cases c5 : x12_1 < (l0.length : Int)
   ·rw [if_pos c5] at H
    have c5b0 : decide (x12_1 < (l0.length : Int)) = true := decide_eq_true c5
    clear c5
    by_cases c6 : 0 ≤ x12_1
    ·rw [if_pos c6] at H
     have c6b0 : decide (0 ≤ x12_1) = true := decide_eq_true c6
     clear c6
     by_cases c7 : x12_1 < (l0.length : Int)
     ·rw [if_pos c7] at H
      have c7b0 : decide (x12_1 < (l0.length : Int)) = true := decide_eq_true c7
      clear c7
      by_cases c8 : ((rd_T27 l0 x12_1).f0) = a1
      ·rw [if_pos c8] at H
       have c8b0 : (((rd_T27 l0 x12_1).f0) == a1) = true := beq_iff_eq.mpr c8
       have c8b1 : (((rd_T27 l0 x12_1).f0) != a1) = false := bne_eq_false_iff_eq.mpr c8
       clear c8
       by_cases c9 : ((rd_T27 l0 x12_1).f1) = a2
       ·rw [if_pos c9] at H
        have c9b0 : (((rd_T27 l0 x12_1).f1) == a2) = true := beq_iff_eq.mpr c9
        have c9b1 : (((rd_T27 l0 x12_1).f1) != a2) = false := bne_eq_false_iff_eq.mpr c9
        clear c9
        simp only [Option.some.injEq, Prod.mk.injEq] at H
        obtain ⟨rfl, rfl, rfl, rfl, rfl, rfl⟩ := H
        have p106 : 0 ≤ (x12_1 : Int) := lE (by first | (with_reducible assumption) | assumption)
        have q106 : x12_1 < (l0.length : Int) := lE (by first | (with_reducible assumption) | assumption)
        obtain ⟨ad106, e106, hx106_0, hx106_1, hx106_2, hx106_3, hx106_4⟩ := at_T27 HR0.out x12_1 p106 q106
        cases e106
        replace hx106_0 := (HB.out.cell (lD w _ hx106_0)).trans hx106_0
        replace hx106_1 := (HB.out.cell (lD w _ hx106_1)).trans hx106_1
        replace hx106_2 := (HB.out.cell (lD w _ hx106_2)).trans hx106_2
        replace hx106_3 := (HB.out.cell (lD w _ hx106_3)).trans hx106_3
        replace hx106_4 := (HB.out.cell (lD w _ hx106_4)).trans hx106_4
        replace p106 := eq_true p106
        replace q106 := eq_true q106
        go_wp2_with (first | ((with_reducible refine bG (N := 9) rfl ?_); refine bJ ?hg (N := 9) ?hd (cs := #[.int .i64 0, .int .i64 0, .int .i64 0, .int .i64 0, .int .i64 0]) (t := 27) ?hr ?_; (case hd => rfl); (case hg => rfl); (case hr => first | (go_simp; done) | (go_simp; rfl)); intro gb107 hg w10 hbox hb; have n0_ := aA.mk (bB (g := gb105) (o := .cells #[.int .i64 x106000_1, .int .i64 x106001_1, .int .i64 x106002_1, .int .i64 x106003_1, .int .i64 x106004_1] 27 (0, 0)) (by (with_reducible repeat (first | refine aK ?_ _ | refine aM ?_ | refine aJ ?_ _)); exact BK105.out) hb); have n1_ := aA.mk (aV (by repeat (first | (with_reducible first | exact HB.out | apply aH | apply aE | apply aG | refine aN ?_ GE105.out) | exact HB.out)) hb); have n2_ := aA.mk (hbox); have n3_ := aA.mk ((by rw [hg]; exact (aW (by repeat (first | (with_reducible first | exact HB.out | apply aH | apply aE | apply aG | refine aN ?_ GE105.out) | exact HB.out))) : w.heap.size ≤ gb107)); have n4_ := aA.mk ((by rw [hg]; exact (aW (by repeat (first | (with_reducible first | exact HB.out | apply aH | apply aE | apply aG | refine aN ?_ GE105.out) | exact HB.out))) : w.heap.size ≤ gb107)); have n5_ := aA.mk ((by rw [hg]; exact Nat.ne_of_lt (blk_lt (g := gb105) (o := .cells #[.int .i64 x106000_1, .int .i64 x106001_1, .int .i64 x106002_1, .int .i64 x106003_1, .int .i64 x106004_1] 27 (0, 0)) (by (with_reducible repeat (first | refine aK ?_ _ | refine aM ?_ | refine aJ ?_ _)); exact BK105.out)) : gb105 ≠ gb107)); have n6_ := aA.mk ((by rw [hg]; exact Nat.ne_of_gt (blk_lt (g := gb105) (o := .cells #[.int .i64 x106000_1, .int .i64 x106001_1, .int .i64 x106002_1, .int .i64 x106003_1, .int .i64 x106004_1] 27 (0, 0)) (by (with_reducible repeat (first | refine aK ?_ _ | refine aM ?_ | refine aJ ?_ _)); exact BK105.out)) : gb107 ≠ gb105)); clear BK105; clear HB; have BK105 := n0_; have HB := n1_; have BK107 := n2_; have GW107 := n3_; have GE107 := n4_; have NB105_107 := n5_; have NB107_105 := n6_; clear n0_ n1_ n2_ n3_ n4_ n5_ n6_; clear hb hbox hg; have hnb11 := NB107_105.out; have hnc11 := NB105_107.out; have hcz12_0 : w10.cell? ⟨gb107, 0, none⟩ = some (.int .i64 0) := (aC BK107.out 0).trans rfl; have hcz12_1 : w10.cell? ⟨gb107, 1, none⟩ = some (.int .i64 0) := (aC BK107.out 1).trans rfl; have hcz12_2 : w10.cell? ⟨gb107, 2, none⟩ = some (.int .i64 0) := (aC BK107.out 2).trans rfl; have hcz12_3 : w10.cell? ⟨gb107, 3, none⟩ = some (.int .i64 0) := (aC BK107.out 3).trans rfl; have hcz12_4 : w10.cell? ⟨gb107, 4, none⟩ = some (.int .i64 0) := (aC BK107.out 4).trans rfl; have hfz12_0 := aD BK107.out 0; have hfz12_1 := aD BK107.out 1; have hfz12_2 := aD BK107.out 2; have hfz12_3 := aD BK107.out 3; have hfz12_4 := aD BK107.out 4; have hcz13_0 : w10.cell? ⟨gb105, 0, none⟩ = some (.int .i64 x106000_1) := (aC BK105.out 0).trans rfl; have hcz13_1 : w10.cell? ⟨gb105, 1, none⟩ = some (.int .i64 x106001_1) := (aC BK105.out 1).trans rfl; have hcz13_2 : w10.cell? ⟨gb105, 2, none⟩ = some (.int .i64 x106002_1) := (aC BK105.out 2).trans rfl; have hcz13_3 : w10.cell? ⟨gb105, 3, none⟩ = some (.int .i64 x106003_1) := (aC BK105.out 3).trans rfl; have hcz13_4 : w10.cell? ⟨gb105, 4, none⟩ = some (.int .i64 x106004_1) := (aC BK105.out 4).trans rfl; have hfz13_0 := aD BK105.out 0; have hfz13_1 := aD BK105.out 1; have hfz13_2 := aD BK105.out 2; have hfz13_3 := aD BK105.out 3; have hfz13_4 := aD BK105.out 4))
        refine bodyPost_ret (results_ct rfl _ _ gb105 27 #[.int .i64 ((rd_T27 l0 x12_1).f0), .int .i64 ((rd_T27 l0 x12_1).f1), .int .i64 ((rd_T27 l0 x12_1).f2), .int .i64 ((rd_T27 l0 x12_1).f3), .int .i64 ((rd_T27 l0 x12_1).f4)] (0, 0) _ rfl (by (with_reducible repeat (first | refine aK ?_ _ | refine aM ?_ | refine aJ ?_ _)); refine aU (cs := #[.int .i64 ((rd_T27 l0 x12_1).f0), .int .i64 ((rd_T27 l0 x12_1).f1), .int .i64 ((rd_T27 l0 x12_1).f2), .int .i64 ((rd_T27 l0 x12_1).f3), .int .i64 x106004_1]) ?_ 4 _ rfl; (with_reducible repeat (first | refine aK ?_ _ | refine aM ?_ | refine aJ ?_ _)); refine aU (cs := #[.int .i64 ((rd_T27 l0 x12_1).f0), .int .i64 ((rd_T27 l0 x12_1).f1), .int .i64 ((rd_T27 l0 x12_1).f2), .int .i64 x106003_1, .int .i64 x106004_1]) ?_ 3 _ rfl; (with_reducible repeat (first | refine aK ?_ _ | refine aM ?_ | refine aJ ?_ _)); refine aU (cs := #[.int .i64 ((rd_T27 l0 x12_1).f0), .int .i64 ((rd_T27 l0 x12_1).f1), .int .i64 x106002_1, .int .i64 x106003_1, .int .i64 x106004_1]) ?_ 2 _ rfl; (with_reducible repeat (first | refine aK ?_ _ | refine aM ?_ | refine aJ ?_ _)); refine aU (cs := #[.int .i64 ((rd_T27 l0 x12_1).f0), .int .i64 x106001_1, .int .i64 x106002_1, .int .i64 x106003_1, .int .i64 x106004_1]) ?_ 1 _ rfl; (with_reducible repeat (first | refine aK ?_ _ | refine aM ?_ | refine aJ ?_ _)); refine aU (cs := #[.int .i64 x106000_1, .int .i64 x106001_1, .int .i64 x106002_1, .int .i64 x106003_1, .int .i64 x106004_1]) ?_ 0 _ rfl; (with_reducible repeat (first | refine aK ?_ _ | refine aM ?_ | refine aJ ?_ _)); refine bK ?_ NB105_107.out _; (with_reducible repeat (first | refine aK ?_ _ | refine aM ?_ | refine aJ ?_ _)); refine bK ?_ NB105_107.out _; (with_reducible repeat (first | refine aK ?_ _ | refine aM ?_ | refine aJ ?_ _)); refine bK ?_ NB105_107.out _; (with_reducible repeat (first | refine aK ?_ _ | refine aM ?_ | refine aJ ?_ _)); refine bK ?_ NB105_107.out _; (with_reducible repeat (first | refine aK ?_ _ | refine aM ?_ | refine aJ ?_ _)); refine bK ?_ NB105_107.out _; (with_reducible repeat (first | refine aK ?_ _ | refine aM ?_ | refine aJ ?_ _)); exact BK105.out) Try.underlying27 rfl (by kernel_rfl)) rfl ?_
        exact ⟨by first | rfl | (simp [errW_none, errW_some] <;> rfl) | (simp [*, errW_none, errW_some] <;> rfl), by repeat (first | (with_reducible first | exact HB.out | apply aH | apply aE | apply aG | refine aN ?_ GE105.out | refine aN ?_ GE107.out) | exact HB.out)⟩
       ·rw [if_neg c9] at H
        have c9b0 : (((rd_T27 l0 x12_1).f1) == a2) = false := beq_eq_false_iff_ne.mpr c9
        have c9b1 : (((rd_T27 l0 x12_1).f1) != a2) = true := bne_iff_ne.mpr c9
        have H' := aA.mk H
        clear H
        have p106 : 0 ≤ (x12_1 : Int) := lE (by first | (with_reducible assumption) | assumption)
        have q106 : x12_1 < (l0.length : Int) := lE (by first | (with_reducible assumption) | assumption)
        obtain ⟨ad106, e106, hx106_0, hx106_1, hx106_2, hx106_3, hx106_4⟩ := at_T27 HR0.out x12_1 p106 q106
        cases e106
        replace hx106_0 := (HB.out.cell (lD w _ hx106_0)).trans hx106_0
        replace hx106_1 := (HB.out.cell (lD w _ hx106_1)).trans hx106_1
        replace hx106_2 := (HB.out.cell (lD w _ hx106_2)).trans hx106_2
        replace hx106_3 := (HB.out.cell (lD w _ hx106_3)).trans hx106_3
        replace hx106_4 := (HB.out.cell (lD w _ hx106_4)).trans hx106_4
        replace p106 := eq_true p106
        replace q106 := eq_true q106
        go_wp2_with (first | ((with_reducible refine bG (N := 9) rfl ?_); refine bJ ?hg (N := 9) ?hd (cs := #[.int .i64 0, .int .i64 0, .int .i64 0, .int .i64 0, .int .i64 0]) (t := 27) ?hr ?_; (case hd => rfl); (case hg => rfl); (case hr => first | (go_simp; done) | (go_simp; rfl)); intro gb107 hg w14 hbox hb; have n0_ := aA.mk (bB (g := gb105) (o := .cells #[.int .i64 x106000_1, .int .i64 x106001_1, .int .i64 x106002_1, .int .i64 x106003_1, .int .i64 x106004_1] 27 (0, 0)) (by (with_reducible repeat (first | refine aK ?_ _ | refine aM ?_ | refine aJ ?_ _)); exact BK105.out) hb); have n1_ := aA.mk (aV (by repeat (first | (with_reducible first | exact HB.out | apply aH | apply aE | apply aG | refine aN ?_ GE105.out) | exact HB.out)) hb); have n2_ := aA.mk (hbox); have n3_ := aA.mk ((by rw [hg]; exact (aW (by repeat (first | (with_reducible first | exact HB.out | apply aH | apply aE | apply aG | refine aN ?_ GE105.out) | exact HB.out))) : w.heap.size ≤ gb107)); have n4_ := aA.mk ((by rw [hg]; exact (aW (by repeat (first | (with_reducible first | exact HB.out | apply aH | apply aE | apply aG | refine aN ?_ GE105.out) | exact HB.out))) : w.heap.size ≤ gb107)); have n5_ := aA.mk ((by rw [hg]; exact Nat.ne_of_lt (blk_lt (g := gb105) (o := .cells #[.int .i64 x106000_1, .int .i64 x106001_1, .int .i64 x106002_1, .int .i64 x106003_1, .int .i64 x106004_1] 27 (0, 0)) (by (with_reducible repeat (first | refine aK ?_ _ | refine aM ?_ | refine aJ ?_ _)); exact BK105.out)) : gb105 ≠ gb107)); have n6_ := aA.mk ((by rw [hg]; exact Nat.ne_of_gt (blk_lt (g := gb105) (o := .cells #[.int .i64 x106000_1, .int .i64 x106001_1, .int .i64 x106002_1, .int .i64 x106003_1, .int .i64 x106004_1] 27 (0, 0)) (by (with_reducible repeat (first | refine aK ?_ _ | refine aM ?_ | refine aJ ?_ _)); exact BK105.out)) : gb107 ≠ gb105)); clear BK105; clear HB; have BK105 := n0_; have HB := n1_; have BK107 := n2_; have GW107 := n3_; have GE107 := n4_; have NB105_107 := n5_; have NB107_105 := n6_; clear n0_ n1_ n2_ n3_ n4_ n5_ n6_; clear hb hbox hg; have hnb15 := NB107_105.out; have hnc15 := NB105_107.out; have hcz16_0 : w14.cell? ⟨gb107, 0, none⟩ = some (.int .i64 0) := (aC BK107.out 0).trans rfl; have hcz16_1 : w14.cell? ⟨gb107, 1, none⟩ = some (.int .i64 0) := (aC BK107.out 1).trans rfl; have hcz16_2 : w14.cell? ⟨gb107, 2, none⟩ = some (.int .i64 0) := (aC BK107.out 2).trans rfl; have hcz16_3 : w14.cell? ⟨gb107, 3, none⟩ = some (.int .i64 0) := (aC BK107.out 3).trans rfl; have hcz16_4 : w14.cell? ⟨gb107, 4, none⟩ = some (.int .i64 0) := (aC BK107.out 4).trans rfl; have hfz16_0 := aD BK107.out 0; have hfz16_1 := aD BK107.out 1; have hfz16_2 := aD BK107.out 2; have hfz16_3 := aD BK107.out 3; have hfz16_4 := aD BK107.out 4))
        go_roundg k1
        case measure => have := HK1.out; omega
        case rel => exact ⟨(wrap64 (x12_1 + 1)), (x106000_1), (x106001_1), (x106002_1), (x106003_1), (x106004_1), (by first | rfl | (simp; done) | (simp [*]; done)), H', ⟨by have := HK1.out; omega⟩, ⟨by (with_reducible repeat (first | refine aK ?_ _ | refine aM ?_ | refine aJ ?_ _)); refine bK ?_ NB105_107.out _; (with_reducible repeat (first | refine aK ?_ _ | refine aM ?_ | refine aJ ?_ _)); refine bK ?_ NB105_107.out _; (with_reducible repeat (first | refine aK ?_ _ | refine aM ?_ | refine aJ ?_ _)); refine bK ?_ NB105_107.out _; (with_reducible repeat (first | refine aK ?_ _ | refine aM ?_ | refine aJ ?_ _)); refine bK ?_ NB105_107.out _; (with_reducible repeat (first | refine aK ?_ _ | refine aM ?_ | refine aJ ?_ _)); refine bK ?_ NB105_107.out _; (with_reducible repeat (first | refine aK ?_ _ | refine aM ?_ | refine aJ ?_ _)); exact BK105.out⟩, ⟨by repeat (first | (with_reducible first | exact HB.out | apply aH | apply aE | apply aG | refine aN ?_ GE105.out | refine aN ?_ GE107.out) | exact HB.out)⟩⟩
      ·rw [if_neg c8] at H
       have c8b0 : (((rd_T27 l0 x12_1).f0) == a1) = false := beq_eq_false_iff_ne.mpr c8
       have c8b1 : (((rd_T27 l0 x12_1).f0) != a1) = true := bne_iff_ne.mpr c8
       have H' := aA.mk H
       clear H
       have p106 : 0 ≤ (x12_1 : Int) := lE (by first | (with_reducible assumption) | assumption)
       have q106 : x12_1 < (l0.length : Int) := lE (by first | (with_reducible assumption) | assumption)
       obtain ⟨ad106, e106, hx106_0, hx106_1, hx106_2, hx106_3, hx106_4⟩ := at_T27 HR0.out x12_1 p106 q106
       cases e106
       replace hx106_0 := (HB.out.cell (lD w _ hx106_0)).trans hx106_0
       replace hx106_1 := (HB.out.cell (lD w _ hx106_1)).trans hx106_1
       replace hx106_2 := (HB.out.cell (lD w _ hx106_2)).trans hx106_2
       replace hx106_3 := (HB.out.cell (lD w _ hx106_3)).trans hx106_3
       replace hx106_4 := (HB.out.cell (lD w _ hx106_4)).trans hx106_4
       replace p106 := eq_true p106
       replace q106 := eq_true q106
       go_wp2_with (first | ((with_reducible refine bG (N := 9) rfl ?_); refine bJ ?hg (N := 9) ?hd (cs := #[.int .i64 0, .int .i64 0, .int .i64 0, .int .i64 0, .int .i64 0]) (t := 27) ?hr ?_; (case hd => rfl); (case hg => rfl); (case hr => first | (go_simp; done) | (go_simp; rfl)); intro gb107 hg w17 hbox hb; have n0_ := aA.mk (bB (g := gb105) (o := .cells #[.int .i64 x106000_1, .int .i64 x106001_1, .int .i64 x106002_1, .int .i64 x106003_1, .int .i64 x106004_1] 27 (0, 0)) (by (with_reducible repeat (first | refine aK ?_ _ | refine aM ?_ | refine aJ ?_ _)); exact BK105.out) hb); have n1_ := aA.mk (aV (by repeat (first | (with_reducible first | exact HB.out | apply aH | apply aE | apply aG | refine aN ?_ GE105.out) | exact HB.out)) hb); have n2_ := aA.mk (hbox); have n3_ := aA.mk ((by rw [hg]; exact (aW (by repeat (first | (with_reducible first | exact HB.out | apply aH | apply aE | apply aG | refine aN ?_ GE105.out) | exact HB.out))) : w.heap.size ≤ gb107)); have n4_ := aA.mk ((by rw [hg]; exact (aW (by repeat (first | (with_reducible first | exact HB.out | apply aH | apply aE | apply aG | refine aN ?_ GE105.out) | exact HB.out))) : w.heap.size ≤ gb107)); have n5_ := aA.mk ((by rw [hg]; exact Nat.ne_of_lt (blk_lt (g := gb105) (o := .cells #[.int .i64 x106000_1, .int .i64 x106001_1, .int .i64 x106002_1, .int .i64 x106003_1, .int .i64 x106004_1] 27 (0, 0)) (by (with_reducible repeat (first | refine aK ?_ _ | refine aM ?_ | refine aJ ?_ _)); exact BK105.out)) : gb105 ≠ gb107)); have n6_ := aA.mk ((by rw [hg]; exact Nat.ne_of_gt (blk_lt (g := gb105) (o := .cells #[.int .i64 x106000_1, .int .i64 x106001_1, .int .i64 x106002_1, .int .i64 x106003_1, .int .i64 x106004_1] 27 (0, 0)) (by (with_reducible repeat (first | refine aK ?_ _ | refine aM ?_ | refine aJ ?_ _)); exact BK105.out)) : gb107 ≠ gb105)); clear BK105; clear HB; have BK105 := n0_; have HB := n1_; have BK107 := n2_; have GW107 := n3_; have GE107 := n4_; have NB105_107 := n5_; have NB107_105 := n6_; clear n0_ n1_ n2_ n3_ n4_ n5_ n6_; clear hb hbox hg; have hnb18 := NB107_105.out; have hnc18 := NB105_107.out; have hcz19_0 : w17.cell? ⟨gb107, 0, none⟩ = some (.int .i64 0) := (aC BK107.out 0).trans rfl; have hcz19_1 : w17.cell? ⟨gb107, 1, none⟩ = some (.int .i64 0) := (aC BK107.out 1).trans rfl; have hcz19_2 : w17.cell? ⟨gb107, 2, none⟩ = some (.int .i64 0) := (aC BK107.out 2).trans rfl; have hcz19_3 : w17.cell? ⟨gb107, 3, none⟩ = some (.int .i64 0) := (aC BK107.out 3).trans rfl; have hcz19_4 : w17.cell? ⟨gb107, 4, none⟩ = some (.int .i64 0) := (aC BK107.out 4).trans rfl; have hfz19_0 := aD BK107.out 0; have hfz19_1 := aD BK107.out 1; have hfz19_2 := aD BK107.out 2; have hfz19_3 := aD BK107.out 3; have hfz19_4 := aD BK107.out 4))
       go_roundg k1
       case measure => have := HK1.out; omega
       case rel => exact ⟨(wrap64 (x12_1 + 1)), (x106000_1), (x106001_1), (x106002_1), (x106003_1), (x106004_1), (by first | rfl | (simp; done) | (simp [*]; done)), H', ⟨by have := HK1.out; omega⟩, ⟨by (with_reducible repeat (first | refine aK ?_ _ | refine aM ?_ | refine aJ ?_ _)); refine bK ?_ NB105_107.out _; (with_reducible repeat (first | refine aK ?_ _ | refine aM ?_ | refine aJ ?_ _)); refine bK ?_ NB105_107.out _; (with_reducible repeat (first | refine aK ?_ _ | refine aM ?_ | refine aJ ?_ _)); refine bK ?_ NB105_107.out _; (with_reducible repeat (first | refine aK ?_ _ | refine aM ?_ | refine aJ ?_ _)); refine bK ?_ NB105_107.out _; (with_reducible repeat (first | refine aK ?_ _ | refine aM ?_ | refine aJ ?_ _)); refine bK ?_ NB105_107.out _; (with_reducible repeat (first | refine aK ?_ _ | refine aM ?_ | refine aJ ?_ _)); exact BK105.out⟩, ⟨by repeat (first | (with_reducible first | exact HB.out | apply aH | apply aE | apply aG | refine aN ?_ GE105.out | refine aN ?_ GE107.out) | exact HB.out)⟩⟩
     ·rw [if_neg c7] at H
      exact absurd H (by simp)
    ·rw [if_neg c6] at H
     exact absurd H (by simp)
   ·rw [if_neg c5] at H
    have c5b0 : decide (x12_1 < (l0.length : Int)) = false := decide_eq_false c5
    clear c5
    simp only [Option.some.injEq, Prod.mk.injEq] at H
    obtain ⟨rfl, rfl, rfl, rfl, rfl, rfl⟩ := H
    have hcz20_0 : wr.cell? ⟨gb105, 0, none⟩ = some (.int .i64 x106000_1) := (aC BK105.out 0).trans rfl
    have hcz20_1 : wr.cell? ⟨gb105, 1, none⟩ = some (.int .i64 x106001_1) := (aC BK105.out 1).trans rfl
    have hcz20_2 : wr.cell? ⟨gb105, 2, none⟩ = some (.int .i64 x106002_1) := (aC BK105.out 2).trans rfl
    have hcz20_3 : wr.cell? ⟨gb105, 3, none⟩ = some (.int .i64 x106003_1) := (aC BK105.out 3).trans rfl
    have hcz20_4 : wr.cell? ⟨gb105, 4, none⟩ = some (.int .i64 x106004_1) := (aC BK105.out 4).trans rfl
    have hfz20_0 := aD BK105.out 0
    have hfz20_1 := aD BK105.out 1
    have hfz20_2 := aD BK105.out 2
    have hfz20_3 := aD BK105.out 3
    have hfz20_4 := aD BK105.out 4
    go_wp2
    refine bodyPost_ret (results_ct rfl _ _ gb105 27 #[.int .i64 0, .int .i64 0, .int .i64 0, .int .i64 0, .int .i64 0] (0, 0) _ rfl (by (with_reducible repeat (first | refine aK ?_ _ | refine aM ?_ | refine aJ ?_ _)); refine aU (cs := #[.int .i64 0, .int .i64 0, .int .i64 0, .int .i64 0, .int .i64 x106004_1]) ?_ 4 _ rfl; (with_reducible repeat (first | refine aK ?_ _ | refine aM ?_ | refine aJ ?_ _)); refine aU (cs := #[.int .i64 0, .int .i64 0, .int .i64 0, .int .i64 x106003_1, .int .i64 x106004_1]) ?_ 3 _ rfl; (with_reducible repeat (first | refine aK ?_ _ | refine aM ?_ | refine aJ ?_ _)); refine aU (cs := #[.int .i64 0, .int .i64 0, .int .i64 x106002_1, .int .i64 x106003_1, .int .i64 x106004_1]) ?_ 2 _ rfl; (with_reducible repeat (first | refine aK ?_ _ | refine aM ?_ | refine aJ ?_ _)); refine aU (cs := #[.int .i64 0, .int .i64 x106001_1, .int .i64 x106002_1, .int .i64 x106003_1, .int .i64 x106004_1]) ?_ 1 _ rfl; (with_reducible repeat (first | refine aK ?_ _ | refine aM ?_ | refine aJ ?_ _)); refine aU (cs := #[.int .i64 x106000_1, .int .i64 x106001_1, .int .i64 x106002_1, .int .i64 x106003_1, .int .i64 x106004_1]) ?_ 0 _ rfl; (with_reducible repeat (first | refine aK ?_ _ | refine aM ?_ | refine aJ ?_ _)); exact BK105.out) Try.underlying27 rfl (by kernel_rfl)) rfl ?_
    exact ⟨by first | rfl | (simp [errW_none, errW_some] <;> rfl) | (simp [*, errW_none, errW_some] <;> rfl), by repeat (first | (with_reducible first | exact HB.out | apply aH | apply aE | apply aG | refine aN ?_ GE105.out) | exact HB.out)⟩
def spec_l1In.f (a0 : Int) (a1 : Int) (a2 : Int) : Option (Bool) := if a0 ≥ a1 then (some (decide (a0 ≤ a2))) else (some false)
set_option maxHeartbeats 8000000 in
set_option maxRecDepth 100000 in
theorem spec_l1In.calls (a0 : Int) (a1 : Int) (a2 : Int) (r : Bool) (w : World) (h : spec_l1In.f a0 a1 a2 = some r) :
  Calls Try.prog 64 #[.int .i64 a0, .int .i64 a1, .int .i64 a2] w fun e w' => e = .returned (.bool r) ∧ Drawn0 w w' := by
 have H : (if a0 ≥ a1 then (some (decide (a0 ≤ a2))) else (some false)) = some r := h
 clear h
 by_cases c4 : a0 ≥ a1
 ·rw [if_pos c4] at H
  have c4b0 : decide (a1 ≤ a0) = true := decide_eq_true c4
  clear c4
  obtain rfl := Option.some.inj H
  go_enter Try.func64, Try.ntmps64
  go_wp2
  go_ret
  exact ⟨by first | rfl | (simp; done) | (simp [*]; done), by repeat (first | exact Drawn0.refl _ | apply Drawn0.step)⟩
 ·rw [if_neg c4] at H
  have c4b0 : decide (a1 ≤ a0) = false := decide_eq_false c4
  clear c4
  obtain rfl := Option.some.inj H
  go_enter Try.func64, Try.ntmps64
  go_wp2
  go_ret
  exact ⟨by first | rfl | (simp; done) | (simp [*]; done), by repeat (first | exact Drawn0.refl _ | apply Drawn0.step)⟩
def spec_KeyOk.j0 : Nat → Bool → Int → Int → Int → Int → Int → Option (Bool)
 | 0, _, _, _, _, _, _ => none
 | k + 1, x18, x109000, x109001, x109002, x109003, x109004 => if x18 = true then (some false) else (if x109002 = 1 then ((spec_l1In.f x109003 0 23).bind fun t112 => (if t112 = true then ((spec_l1In.f x109004 0 999).bind fun t113 => (some t113)) else (some false))) else (if x109003 = 0 then (some (x109004 == 0)) else (some false)))
def spec_KeyOk.f (k : Nat) (a0_0 : Int) (a0_1 : Int) (a0_2 : Int) (a0_3 : Int) (a0_4 : Int) : Option (Bool) := (spec_l1In.f a0_0 0 15).bind fun t109 => (if t109 = true then ((spec_l1In.f a0_1 1 60).bind fun t110 => (if t110 = true then ((spec_l1In.f a0_2 0 2).bind fun t111 => (spec_KeyOk.j0 k (!t111) a0_0 a0_1 a0_2 a0_3 a0_4)) else (spec_KeyOk.j0 k true a0_0 a0_1 a0_2 a0_3 a0_4))) else (spec_KeyOk.j0 k true a0_0 a0_1 a0_2 a0_3 a0_4))
set_option maxHeartbeats 8000000 in
set_option maxRecDepth 100000 in
theorem spec_KeyOk.calls (k : Nat) (a0_0 : Int) (a0_1 : Int) (a0_2 : Int) (a0_3 : Int) (a0_4 : Int) (r : Bool) (w : World) (h : spec_KeyOk.f k a0_0 a0_1 a0_2 a0_3 a0_4 = some r) :
  Calls Try.prog 31 #[.agg #[.int .i64 a0_0, .int .i64 a0_1, .int .i64 a0_2, .int .i64 a0_3, .int .i64 a0_4]] w fun e w' => e = .returned (.bool r) ∧ Below w.heap.size w w' := by
 have hu27 := Try.underlying27
 have HB := aA.mk (Below.refl w.heap.size w)
 have H : ((spec_l1In.f a0_0 0 15).bind fun t109 => (if t109 = true then ((spec_l1In.f a0_1 1 60).bind fun t110 => (if t110 = true then ((spec_l1In.f a0_2 0 2).bind fun t111 => (spec_KeyOk.j0 k (!t111) a0_0 a0_1 a0_2 a0_3 a0_4)) else (spec_KeyOk.j0 k true a0_0 a0_1 a0_2 a0_3 a0_4))) else (spec_KeyOk.j0 k true a0_0 a0_1 a0_2 a0_3 a0_4))) = some r := h
 clear h
 have HC2 := aA.mk H
 clear H
 go_enter Try.func31, Try.ntmps31
 go_upto_region 1 with (first | ((with_reducible refine bG (N := 1) rfl ?_); refine bJ ?hg (N := 1) ?hd (cs := #[.int .i64 a0_0, .int .i64 a0_1, .int .i64 a0_2, .int .i64 a0_3, .int .i64 a0_4]) (t := 27) ?hr ?_; (case hd => rfl); (case hg => rfl); (case hr => first | (go_simp; done) | (go_simp; rfl)); intro gb108 hg w3 hbox hb; have n0_ := aA.mk (aV (by repeat (first | (with_reducible first | exact HB.out | apply aH | apply aE | apply aG) | exact HB.out)) hb); have n1_ := aA.mk (hbox); have n2_ := aA.mk ((by rw [hg]; exact (aW (by repeat (first | (with_reducible first | exact HB.out | apply aH | apply aE | apply aG) | exact HB.out))) : w.heap.size ≤ gb108)); have n3_ := aA.mk ((by rw [hg]; exact (aW (by repeat (first | (with_reducible first | exact HB.out | apply aH | apply aE | apply aG) | exact HB.out))) : w.heap.size ≤ gb108)); clear HB; have HB := n0_; have BK108 := n1_; have GW108 := n2_; have GE108 := n3_; clear n0_ n1_ n2_ n3_; clear hb hbox hg))
 (try simp only [Act.put, lA, lB, lC])
 go_cut [18] (fun v18 wc => ∃ (kq : Nat) (x18_1 : Bool), v18 = .bool x18_1 ∧ aA (spec_KeyOk.j0 kq x18_1 a0_0 a0_1 a0_2 a0_3 a0_4 = some r) ∧ aA (kq ≤ k) ∧ aA (wc.heap[gb108]? = some (.cells #[.int .i64 a0_0, .int .i64 a0_1, .int .i64 a0_2, .int .i64 a0_3, .int .i64 a0_4] 27 (0, 0))) ∧ aA (Below w.heap.size w wc))
 case first =>
  have H := HC2.out
  clear HC2
  replace H := lF H
  obtain ⟨t109, A40, H⟩ := H
  replace H : (if t109 = true then ((spec_l1In.f a0_1 1 60).bind fun t110 => (if t110 = true then ((spec_l1In.f a0_2 0 2).bind fun t111 => (spec_KeyOk.j0 k (!t111) a0_0 a0_1 a0_2 a0_3 a0_4)) else (spec_KeyOk.j0 k true a0_0 a0_1 a0_2 a0_3 a0_4))) else (spec_KeyOk.j0 k true a0_0 a0_1 a0_2 a0_3 a0_4)) = some r := H
  have A4 := aA.mk A40
  clear A40
  by_cases c5 : t109 = true
  ·subst c5
   have H1 : ((spec_l1In.f a0_1 1 60).bind fun t110 => (if t110 = true then ((spec_l1In.f a0_2 0 2).bind fun t111 => (spec_KeyOk.j0 k (!t111) a0_0 a0_1 a0_2 a0_3 a0_4)) else (spec_KeyOk.j0 k true a0_0 a0_1 a0_2 a0_3 a0_4))) = some r := by rw [if_pos rfl] at H; exact H
   clear H
   have H := H1
   clear H1
   replace H := lF H
   obtain ⟨t110, A60, H⟩ := H
   replace H : (if t110 = true then ((spec_l1In.f a0_2 0 2).bind fun t111 => (spec_KeyOk.j0 k (!t111) a0_0 a0_1 a0_2 a0_3 a0_4)) else (spec_KeyOk.j0 k true a0_0 a0_1 a0_2 a0_3 a0_4)) = some r := H
   have A6 := aA.mk A60
   clear A60
   by_cases c7 : t110 = true
   ·subst c7
    have H1 : ((spec_l1In.f a0_2 0 2).bind fun t111 => (spec_KeyOk.j0 k (!t111) a0_0 a0_1 a0_2 a0_3 a0_4)) = some r := by rw [if_pos rfl] at H; exact H
    clear H
    have H := H1
    clear H1
    replace H := lF H
    obtain ⟨t111, A80, H⟩ := H
    replace H : (spec_KeyOk.j0 k (!t111) a0_0 a0_1 a0_2 a0_3 a0_4) = some r := H
    have A8 := aA.mk A80
    clear A80
    have H' := aA.mk H
    clear H
    have hcz9_0 : w3.cell? ⟨gb108, 0, none⟩ = some (.int .i64 a0_0) := (aC BK108.out 0).trans rfl
    have hcz9_1 : w3.cell? ⟨gb108, 1, none⟩ = some (.int .i64 a0_1) := (aC BK108.out 1).trans rfl
    have hcz9_2 : w3.cell? ⟨gb108, 2, none⟩ = some (.int .i64 a0_2) := (aC BK108.out 2).trans rfl
    have hcz9_3 : w3.cell? ⟨gb108, 3, none⟩ = some (.int .i64 a0_3) := (aC BK108.out 3).trans rfl
    have hcz9_4 : w3.cell? ⟨gb108, 4, none⟩ = some (.int .i64 a0_4) := (aC BK108.out 4).trans rfl
    have hfz9_0 := aD BK108.out 0
    have hfz9_1 := aD BK108.out 1
    have hfz9_2 := aD BK108.out 2
    have hfz9_3 := aD BK108.out 3
    have hfz9_4 := aD BK108.out 4
    go_wp2_with (first | ((with_reducible refine aX (f := 64) rfl ?_); refine bL (some 5) rfl rfl Try.func64 (by kernel_rfl) rfl #[.int .i64 a0_0, .int .i64 0, .int .i64 15] rfl (by (try simp only [List.map_toArray, List.map_cons, List.map_nil]); first | done | rfl | (simp only [List.length_drop, List.length_take]; rfl)) ?_; (with_reducible refine (spec_l1In.calls a0_0 0 15 true _ A4.out).mono ?_); rintro e w' ⟨rfl, ⟨nd, rfl⟩⟩; refine ⟨_, rfl, ?_⟩) | (go_at_call 64; (with_reducible refine (spec_l1In.calls a0_1 1 60 true _ A6.out).mono ?_); rintro e w' ⟨rfl, ⟨nd, rfl⟩⟩) | (go_at_call 64; (with_reducible refine (spec_l1In.calls a0_2 0 2 t111 _ A8.out).mono ?_); rintro e w' ⟨rfl, ⟨nd, rfl⟩⟩))
    go_meet
    case rel => exact ⟨_, (!t111), (by first | rfl | (simp; done) | (simp [*]; done)), H', ⟨by first | omega | exact Nat.le_refl _⟩, ⟨by (with_reducible repeat (first | refine aK ?_ _ | refine aM ?_ | refine aJ ?_ _)); exact BK108.out⟩, ⟨by repeat (first | (with_reducible first | exact HB.out | apply aH | apply aE | apply aG | refine aN ?_ GE108.out) | exact HB.out)⟩⟩
   ·replace c7 := Bool.eq_false_iff.mpr c7
    subst c7
    have H1 : (spec_KeyOk.j0 k true a0_0 a0_1 a0_2 a0_3 a0_4) = some r := by rw [if_neg (show ¬ (false = true) by decide)] at H; exact H
    clear H
    have H := H1
    clear H1
    have H' := aA.mk H
    clear H
    have hcz10_0 : w3.cell? ⟨gb108, 0, none⟩ = some (.int .i64 a0_0) := (aC BK108.out 0).trans rfl
    have hcz10_1 : w3.cell? ⟨gb108, 1, none⟩ = some (.int .i64 a0_1) := (aC BK108.out 1).trans rfl
    have hcz10_2 : w3.cell? ⟨gb108, 2, none⟩ = some (.int .i64 a0_2) := (aC BK108.out 2).trans rfl
    have hcz10_3 : w3.cell? ⟨gb108, 3, none⟩ = some (.int .i64 a0_3) := (aC BK108.out 3).trans rfl
    have hcz10_4 : w3.cell? ⟨gb108, 4, none⟩ = some (.int .i64 a0_4) := (aC BK108.out 4).trans rfl
    have hfz10_0 := aD BK108.out 0
    have hfz10_1 := aD BK108.out 1
    have hfz10_2 := aD BK108.out 2
    have hfz10_3 := aD BK108.out 3
    have hfz10_4 := aD BK108.out 4
    go_wp2_with (first | ((with_reducible refine aX (f := 64) rfl ?_); refine bL (some 5) rfl rfl Try.func64 (by kernel_rfl) rfl #[.int .i64 a0_0, .int .i64 0, .int .i64 15] rfl (by (try simp only [List.map_toArray, List.map_cons, List.map_nil]); first | done | rfl | (simp only [List.length_drop, List.length_take]; rfl)) ?_; (with_reducible refine (spec_l1In.calls a0_0 0 15 true _ A4.out).mono ?_); rintro e w' ⟨rfl, ⟨nd, rfl⟩⟩; refine ⟨_, rfl, ?_⟩) | (go_at_call 64; (with_reducible refine (spec_l1In.calls a0_1 1 60 false _ A6.out).mono ?_); rintro e w' ⟨rfl, ⟨nd, rfl⟩⟩))
    go_meet
    case rel => exact ⟨_, (true), (by first | rfl | (simp; done) | (simp [*]; done)), H', ⟨by first | omega | exact Nat.le_refl _⟩, ⟨by (with_reducible repeat (first | refine aK ?_ _ | refine aM ?_ | refine aJ ?_ _)); exact BK108.out⟩, ⟨by repeat (first | (with_reducible first | exact HB.out | apply aH | apply aE | apply aG | refine aN ?_ GE108.out) | exact HB.out)⟩⟩
  ·replace c5 := Bool.eq_false_iff.mpr c5
   subst c5
   have H1 : (spec_KeyOk.j0 k true a0_0 a0_1 a0_2 a0_3 a0_4) = some r := by rw [if_neg (show ¬ (false = true) by decide)] at H; exact H
   clear H
   have H := H1
   clear H1
   have H' := aA.mk H
   clear H
   have hcz11_0 : w3.cell? ⟨gb108, 0, none⟩ = some (.int .i64 a0_0) := (aC BK108.out 0).trans rfl
   have hcz11_1 : w3.cell? ⟨gb108, 1, none⟩ = some (.int .i64 a0_1) := (aC BK108.out 1).trans rfl
   have hcz11_2 : w3.cell? ⟨gb108, 2, none⟩ = some (.int .i64 a0_2) := (aC BK108.out 2).trans rfl
   have hcz11_3 : w3.cell? ⟨gb108, 3, none⟩ = some (.int .i64 a0_3) := (aC BK108.out 3).trans rfl
   have hcz11_4 : w3.cell? ⟨gb108, 4, none⟩ = some (.int .i64 a0_4) := (aC BK108.out 4).trans rfl
   have hfz11_0 := aD BK108.out 0
   have hfz11_1 := aD BK108.out 1
   have hfz11_2 := aD BK108.out 2
   have hfz11_3 := aD BK108.out 3
   have hfz11_4 := aD BK108.out 4
   go_wp2_with (first | ((with_reducible refine aX (f := 64) rfl ?_); refine bL (some 5) rfl rfl Try.func64 (by kernel_rfl) rfl #[.int .i64 a0_0, .int .i64 0, .int .i64 15] rfl (by (try simp only [List.map_toArray, List.map_cons, List.map_nil]); first | done | rfl | (simp only [List.length_drop, List.length_take]; rfl)) ?_; (with_reducible refine (spec_l1In.calls a0_0 0 15 false _ A4.out).mono ?_); rintro e w' ⟨rfl, ⟨nd, rfl⟩⟩; refine ⟨_, rfl, ?_⟩))
   go_meet
   case rel => exact ⟨_, (true), (by first | rfl | (simp; done) | (simp [*]; done)), H', ⟨by first | omega | exact Nat.le_refl _⟩, ⟨by (with_reducible repeat (first | refine aK ?_ _ | refine aM ?_ | refine aJ ?_ _)); exact BK108.out⟩, ⟨by repeat (first | (with_reducible first | exact HB.out | apply aH | apply aE | apply aG | refine aN ?_ GE108.out) | exact HB.out)⟩⟩
 case rest =>
  clear HC2
  try clear p2
  try clear c3
  try clear c5
  try clear c6
  try clear c7
  try clear hcz10_0
  try clear hcz10_1
  try clear hcz10_2
  try clear hcz10_3
  try clear hcz10_4
  try clear hcz11_0
  try clear hcz11_1
  try clear hcz11_2
  try clear hcz11_3
  try clear hcz11_4
  try clear hcz9_0
  try clear hcz9_1
  try clear hcz9_2
  try clear hcz9_3
  try clear hcz9_4
  try clear hfz10_0
  try clear hfz10_1
  try clear hfz10_2
  try clear hfz10_3
  try clear hfz10_4
  try clear hfz11_0
  try clear hfz11_1
  try clear hfz11_2
  try clear hfz11_3
  try clear hfz11_4
  try clear hfz9_0
  try clear hfz9_1
  try clear hfz9_2
  try clear hfz9_3
  try clear hfz9_4
  obtain ⟨kq, x18_1, rfl, HA, HJ1, BK108, HB⟩ := hcut
  cases kq with
  | zero => exact absurd HA.out (by simp [spec_KeyOk.j0])
  | succ kj1 =>
   have H := HA.out
   clear HA
   simp only [spec_KeyOk.j0] at H
   by_cases c12 : x18_1 = true
   ·subst c12
    have H1 : (some false) = some r := by rw [if_pos rfl] at H; exact H
    clear H
    have H := H1
    clear H1
    obtain rfl := Option.some.inj H
    go_wp2
    go_ret
    exact ⟨by first | rfl | (simp [errW_none, errW_some] <;> rfl) | (simp [*, errW_none, errW_some] <;> rfl), by repeat (first | (with_reducible first | exact HB.out | apply aH | apply aE | apply aG | refine aN ?_ GE108.out) | exact HB.out)⟩
   ·replace c12 := Bool.eq_false_iff.mpr c12
    subst c12
    have H1 : (if a0_2 = 1 then ((spec_l1In.f a0_3 0 23).bind fun t112 => (if t112 = true then ((spec_l1In.f a0_4 0 999).bind fun t113 => (some t113)) else (some false))) else (if a0_3 = 0 then (some (a0_4 == 0)) else (some false))) = some r := by rw [if_neg (show ¬ (false = true) by decide)] at H; exact H
    clear H
    have H := H1
    clear H1
    by_cases c13 : a0_2 = 1
    ·rw [if_pos c13] at H
     have c13b0 : (a0_2 == 1) = true := beq_iff_eq.mpr c13
     have c13b1 : (a0_2 != 1) = false := bne_eq_false_iff_eq.mpr c13
     clear c13
     replace H := lF H
     obtain ⟨t112, A140, H⟩ := H
     replace H : (if t112 = true then ((spec_l1In.f a0_4 0 999).bind fun t113 => (some t113)) else (some false)) = some r := H
     have A14 := aA.mk A140
     clear A140
     by_cases c15 : t112 = true
     ·subst c15
      have H1 : ((spec_l1In.f a0_4 0 999).bind fun t113 => (some t113)) = some r := by rw [if_pos rfl] at H; exact H
      clear H
      have H := H1
      clear H1
      replace H := lF H
      obtain ⟨t113, A160, H⟩ := H
      replace H : (some t113) = some r := H
      have A16 := aA.mk A160
      clear A160
      obtain rfl := Option.some.inj H
      have hcz17_0 : wc.cell? ⟨gb108, 0, none⟩ = some (.int .i64 a0_0) := (aC BK108.out 0).trans rfl
      have hcz17_1 : wc.cell? ⟨gb108, 1, none⟩ = some (.int .i64 a0_1) := (aC BK108.out 1).trans rfl
      have hcz17_2 : wc.cell? ⟨gb108, 2, none⟩ = some (.int .i64 a0_2) := (aC BK108.out 2).trans rfl
      have hcz17_3 : wc.cell? ⟨gb108, 3, none⟩ = some (.int .i64 a0_3) := (aC BK108.out 3).trans rfl
      have hcz17_4 : wc.cell? ⟨gb108, 4, none⟩ = some (.int .i64 a0_4) := (aC BK108.out 4).trans rfl
      have hfz17_0 := aD BK108.out 0
      have hfz17_1 := aD BK108.out 1
      have hfz17_2 := aD BK108.out 2
      have hfz17_3 := aD BK108.out 3
      have hfz17_4 := aD BK108.out 4
      go_wp2_with (first | ((with_reducible refine aX (f := 64) rfl ?_); refine bL (some 24) rfl rfl Try.func64 (by kernel_rfl) rfl #[.int .i64 a0_3, .int .i64 0, .int .i64 23] rfl (by (try simp only [List.map_toArray, List.map_cons, List.map_nil]); first | done | rfl | (simp only [List.length_drop, List.length_take]; rfl)) ?_; (with_reducible refine (spec_l1In.calls a0_3 0 23 true _ A14.out).mono ?_); rintro e w' ⟨rfl, ⟨nd, rfl⟩⟩; refine ⟨_, rfl, ?_⟩) | (go_at_call 64; (with_reducible refine (spec_l1In.calls a0_4 0 999 t113 _ A16.out).mono ?_); rintro e w' ⟨rfl, ⟨nd, rfl⟩⟩))
      go_ret
      exact ⟨by first | rfl | (simp [errW_none, errW_some] <;> rfl) | (simp [*, errW_none, errW_some] <;> rfl), by repeat (first | (with_reducible first | exact HB.out | apply aH | apply aE | apply aG | refine aN ?_ GE108.out) | exact HB.out)⟩
     ·replace c15 := Bool.eq_false_iff.mpr c15
      subst c15
      have H1 : (some false) = some r := by rw [if_neg (show ¬ (false = true) by decide)] at H; exact H
      clear H
      have H := H1
      clear H1
      obtain rfl := Option.some.inj H
      have hcz18_0 : wc.cell? ⟨gb108, 0, none⟩ = some (.int .i64 a0_0) := (aC BK108.out 0).trans rfl
      have hcz18_1 : wc.cell? ⟨gb108, 1, none⟩ = some (.int .i64 a0_1) := (aC BK108.out 1).trans rfl
      have hcz18_2 : wc.cell? ⟨gb108, 2, none⟩ = some (.int .i64 a0_2) := (aC BK108.out 2).trans rfl
      have hcz18_3 : wc.cell? ⟨gb108, 3, none⟩ = some (.int .i64 a0_3) := (aC BK108.out 3).trans rfl
      have hcz18_4 : wc.cell? ⟨gb108, 4, none⟩ = some (.int .i64 a0_4) := (aC BK108.out 4).trans rfl
      have hfz18_0 := aD BK108.out 0
      have hfz18_1 := aD BK108.out 1
      have hfz18_2 := aD BK108.out 2
      have hfz18_3 := aD BK108.out 3
      have hfz18_4 := aD BK108.out 4
      go_wp2_with (first | ((with_reducible refine aX (f := 64) rfl ?_); refine bL (some 24) rfl rfl Try.func64 (by kernel_rfl) rfl #[.int .i64 a0_3, .int .i64 0, .int .i64 23] rfl (by (try simp only [List.map_toArray, List.map_cons, List.map_nil]); first | done | rfl | (simp only [List.length_drop, List.length_take]; rfl)) ?_; (with_reducible refine (spec_l1In.calls a0_3 0 23 false _ A14.out).mono ?_); rintro e w' ⟨rfl, ⟨nd, rfl⟩⟩; refine ⟨_, rfl, ?_⟩))
      go_ret
      exact ⟨by first | rfl | (simp [errW_none, errW_some] <;> rfl) | (simp [*, errW_none, errW_some] <;> rfl), by repeat (first | (with_reducible first | exact HB.out | apply aH | apply aE | apply aG | refine aN ?_ GE108.out) | exact HB.out)⟩
    ·rw [if_neg c13] at H
     have c13b0 : (a0_2 == 1) = false := beq_eq_false_iff_ne.mpr c13
     have c13b1 : (a0_2 != 1) = true := bne_iff_ne.mpr c13
     by_cases c19 : a0_3 = 0
     ·rw [if_pos c19] at H
      have c19b0 : (a0_3 == 0) = true := beq_iff_eq.mpr c19
      have c19b1 : (a0_3 != 0) = false := bne_eq_false_iff_eq.mpr c19
      clear c19
      obtain rfl := Option.some.inj H
      have hcz20_0 : wc.cell? ⟨gb108, 0, none⟩ = some (.int .i64 a0_0) := (aC BK108.out 0).trans rfl
      have hcz20_1 : wc.cell? ⟨gb108, 1, none⟩ = some (.int .i64 a0_1) := (aC BK108.out 1).trans rfl
      have hcz20_2 : wc.cell? ⟨gb108, 2, none⟩ = some (.int .i64 a0_2) := (aC BK108.out 2).trans rfl
      have hcz20_3 : wc.cell? ⟨gb108, 3, none⟩ = some (.int .i64 a0_3) := (aC BK108.out 3).trans rfl
      have hcz20_4 : wc.cell? ⟨gb108, 4, none⟩ = some (.int .i64 a0_4) := (aC BK108.out 4).trans rfl
      have hfz20_0 := aD BK108.out 0
      have hfz20_1 := aD BK108.out 1
      have hfz20_2 := aD BK108.out 2
      have hfz20_3 := aD BK108.out 3
      have hfz20_4 := aD BK108.out 4
      go_wp2
      go_ret
      exact ⟨by first | rfl | (simp [errW_none, errW_some] <;> rfl) | (simp [*, errW_none, errW_some] <;> rfl), by repeat (first | (with_reducible first | exact HB.out | apply aH | apply aE | apply aG | refine aN ?_ GE108.out) | exact HB.out)⟩
     ·rw [if_neg c19] at H
      have c19b0 : (a0_3 == 0) = false := beq_eq_false_iff_ne.mpr c19
      have c19b1 : (a0_3 != 0) = true := bne_iff_ne.mpr c19
      obtain rfl := Option.some.inj H
      have hcz21_0 : wc.cell? ⟨gb108, 0, none⟩ = some (.int .i64 a0_0) := (aC BK108.out 0).trans rfl
      have hcz21_1 : wc.cell? ⟨gb108, 1, none⟩ = some (.int .i64 a0_1) := (aC BK108.out 1).trans rfl
      have hcz21_2 : wc.cell? ⟨gb108, 2, none⟩ = some (.int .i64 a0_2) := (aC BK108.out 2).trans rfl
      have hcz21_3 : wc.cell? ⟨gb108, 3, none⟩ = some (.int .i64 a0_3) := (aC BK108.out 3).trans rfl
      have hcz21_4 : wc.cell? ⟨gb108, 4, none⟩ = some (.int .i64 a0_4) := (aC BK108.out 4).trans rfl
      have hfz21_0 := aD BK108.out 0
      have hfz21_1 := aD BK108.out 1
      have hfz21_2 := aD BK108.out 2
      have hfz21_3 := aD BK108.out 3
      have hfz21_4 := aD BK108.out 4
      go_wp2
      go_ret
      exact ⟨by first | rfl | (simp [errW_none, errW_some] <;> rfl) | (simp [*, errW_none, errW_some] <;> rfl), by repeat (first | (with_reducible first | exact HB.out | apply aH | apply aE | apply aG | refine aN ?_ GE108.out) | exact HB.out)⟩
def spec_LessKey.f (a0_0 : Int) (a0_1 : Int) (a0_2 : Int) (a0_3 : Int) (a0_4 : Int) (a1_0 : Int) (a1_1 : Int) (a1_2 : Int) (a1_3 : Int) (a1_4 : Int) : Option (Bool) := if a0_0 = a1_0 then (some (decide (a0_1 < a1_1))) else (some (decide (a0_0 < a1_0)))
set_option maxHeartbeats 8000000 in
set_option maxRecDepth 100000 in
theorem spec_LessKey.calls (a0_0 : Int) (a0_1 : Int) (a0_2 : Int) (a0_3 : Int) (a0_4 : Int) (a1_0 : Int) (a1_1 : Int) (a1_2 : Int) (a1_3 : Int) (a1_4 : Int) (r : Bool) (w : World) (h : spec_LessKey.f a0_0 a0_1 a0_2 a0_3 a0_4 a1_0 a1_1 a1_2 a1_3 a1_4 = some r) :
  Calls Try.prog 79 #[.agg #[.int .i64 a0_0, .int .i64 a0_1, .int .i64 a0_2, .int .i64 a0_3, .int .i64 a0_4], .agg #[.int .i64 a1_0, .int .i64 a1_1, .int .i64 a1_2, .int .i64 a1_3, .int .i64 a1_4]] w fun e w' => e = .returned (.bool r) ∧ Below w.heap.size w w' := by
 have hu27 := Try.underlying27
 have HB := aA.mk (Below.refl w.heap.size w)
 have H : (if a0_0 = a1_0 then (some (decide (a0_1 < a1_1))) else (some (decide (a0_0 < a1_0)))) = some r := h
 clear h
 by_cases c3 : a0_0 = a1_0
 ·rw [if_pos c3] at H
  have c3b0 : (a0_0 == a1_0) = true := beq_iff_eq.mpr c3
  have c3b1 : (a0_0 != a1_0) = false := bne_eq_false_iff_eq.mpr c3
  clear c3
  obtain rfl := Option.some.inj H
  go_enter Try.func79, Try.ntmps79
  go_wp2_with (first | ((with_reducible refine bG (N := 2) rfl ?_); refine bJ ?hg (N := 2) ?hd (cs := #[.int .i64 a0_0, .int .i64 a0_1, .int .i64 a0_2, .int .i64 a0_3, .int .i64 a0_4]) (t := 27) ?hr ?_; (case hd => rfl); (case hg => rfl); (case hr => first | (go_simp; done) | (go_simp; rfl)); intro gb114 hg w4 hbox hb; have n0_ := aA.mk (aV (by repeat (first | (with_reducible first | exact HB.out | apply aH | apply aE | apply aG) | exact HB.out)) hb); have n1_ := aA.mk (hbox); have n2_ := aA.mk ((by rw [hg]; exact (aW (by repeat (first | (with_reducible first | exact HB.out | apply aH | apply aE | apply aG) | exact HB.out))) : w.heap.size ≤ gb114)); have n3_ := aA.mk ((by rw [hg]; exact (aW (by repeat (first | (with_reducible first | exact HB.out | apply aH | apply aE | apply aG) | exact HB.out))) : w.heap.size ≤ gb114)); clear HB; have HB := n0_; have BK114 := n1_; have GW114 := n2_; have GE114 := n3_; clear n0_ n1_ n2_ n3_; clear hb hbox hg) | ((with_reducible refine bG (N := 3) rfl ?_); refine bJ ?hg (N := 3) ?hd (cs := #[.int .i64 a1_0, .int .i64 a1_1, .int .i64 a1_2, .int .i64 a1_3, .int .i64 a1_4]) (t := 27) ?hr ?_; (case hd => rfl); (case hg => rfl); (case hr => first | (go_simp; done) | (go_simp; rfl)); intro gb115 hg w5 hbox hb; have n0_ := aA.mk (bB (g := gb114) (o := .cells #[.int .i64 a0_0, .int .i64 a0_1, .int .i64 a0_2, .int .i64 a0_3, .int .i64 a0_4] 27 (0, 0)) (by (with_reducible repeat (first | refine aK ?_ _ | refine aM ?_ | refine aJ ?_ _)); exact BK114.out) hb); have n1_ := aA.mk (aV (by repeat (first | (with_reducible first | exact HB.out | apply aH | apply aE | apply aG | refine aN ?_ GE114.out) | exact HB.out)) hb); have n2_ := aA.mk (hbox); have n3_ := aA.mk ((by rw [hg]; exact (aW (by repeat (first | (with_reducible first | exact HB.out | apply aH | apply aE | apply aG | refine aN ?_ GE114.out) | exact HB.out))) : w.heap.size ≤ gb115)); have n4_ := aA.mk ((by rw [hg]; exact (aW (by repeat (first | (with_reducible first | exact HB.out | apply aH | apply aE | apply aG | refine aN ?_ GE114.out) | exact HB.out))) : w.heap.size ≤ gb115)); have n5_ := aA.mk ((by rw [hg]; exact Nat.ne_of_lt (blk_lt (g := gb114) (o := .cells #[.int .i64 a0_0, .int .i64 a0_1, .int .i64 a0_2, .int .i64 a0_3, .int .i64 a0_4] 27 (0, 0)) (by (with_reducible repeat (first | refine aK ?_ _ | refine aM ?_ | refine aJ ?_ _)); exact BK114.out)) : gb114 ≠ gb115)); have n6_ := aA.mk ((by rw [hg]; exact Nat.ne_of_gt (blk_lt (g := gb114) (o := .cells #[.int .i64 a0_0, .int .i64 a0_1, .int .i64 a0_2, .int .i64 a0_3, .int .i64 a0_4] 27 (0, 0)) (by (with_reducible repeat (first | refine aK ?_ _ | refine aM ?_ | refine aJ ?_ _)); exact BK114.out)) : gb115 ≠ gb114)); clear BK114; clear HB; have BK114 := n0_; have HB := n1_; have BK115 := n2_; have GW115 := n3_; have GE115 := n4_; have NB114_115 := n5_; have NB115_114 := n6_; clear n0_ n1_ n2_ n3_ n4_ n5_ n6_; clear hb hbox hg; have hnb6 := NB114_115.out; have hnc6 := NB115_114.out; have hcz7_0 : w5.cell? ⟨gb114, 0, none⟩ = some (.int .i64 a0_0) := (aC BK114.out 0).trans rfl; have hcz7_1 : w5.cell? ⟨gb114, 1, none⟩ = some (.int .i64 a0_1) := (aC BK114.out 1).trans rfl; have hcz7_2 : w5.cell? ⟨gb114, 2, none⟩ = some (.int .i64 a0_2) := (aC BK114.out 2).trans rfl; have hcz7_3 : w5.cell? ⟨gb114, 3, none⟩ = some (.int .i64 a0_3) := (aC BK114.out 3).trans rfl; have hcz7_4 : w5.cell? ⟨gb114, 4, none⟩ = some (.int .i64 a0_4) := (aC BK114.out 4).trans rfl; have hfz7_0 := aD BK114.out 0; have hfz7_1 := aD BK114.out 1; have hfz7_2 := aD BK114.out 2; have hfz7_3 := aD BK114.out 3; have hfz7_4 := aD BK114.out 4; have hcz8_0 : w5.cell? ⟨gb115, 0, none⟩ = some (.int .i64 a1_0) := (aC BK115.out 0).trans rfl; have hcz8_1 : w5.cell? ⟨gb115, 1, none⟩ = some (.int .i64 a1_1) := (aC BK115.out 1).trans rfl; have hcz8_2 : w5.cell? ⟨gb115, 2, none⟩ = some (.int .i64 a1_2) := (aC BK115.out 2).trans rfl; have hcz8_3 : w5.cell? ⟨gb115, 3, none⟩ = some (.int .i64 a1_3) := (aC BK115.out 3).trans rfl; have hcz8_4 : w5.cell? ⟨gb115, 4, none⟩ = some (.int .i64 a1_4) := (aC BK115.out 4).trans rfl; have hfz8_0 := aD BK115.out 0; have hfz8_1 := aD BK115.out 1; have hfz8_2 := aD BK115.out 2; have hfz8_3 := aD BK115.out 3; have hfz8_4 := aD BK115.out 4))
  go_ret
  exact ⟨by first | rfl | (simp [errW_none, errW_some] <;> rfl) | (simp [*, errW_none, errW_some] <;> rfl), by repeat (first | (with_reducible first | exact HB.out | apply aH | apply aE | apply aG | refine aN ?_ GE114.out | refine aN ?_ GE115.out) | exact HB.out)⟩
 ·rw [if_neg c3] at H
  have c3b0 : (a0_0 == a1_0) = false := beq_eq_false_iff_ne.mpr c3
  have c3b1 : (a0_0 != a1_0) = true := bne_iff_ne.mpr c3
  obtain rfl := Option.some.inj H
  go_enter Try.func79, Try.ntmps79
  go_wp2_with (first | ((with_reducible refine bG (N := 2) rfl ?_); refine bJ ?hg (N := 2) ?hd (cs := #[.int .i64 a0_0, .int .i64 a0_1, .int .i64 a0_2, .int .i64 a0_3, .int .i64 a0_4]) (t := 27) ?hr ?_; (case hd => rfl); (case hg => rfl); (case hr => first | (go_simp; done) | (go_simp; rfl)); intro gb114 hg w9 hbox hb; have n0_ := aA.mk (aV (by repeat (first | (with_reducible first | exact HB.out | apply aH | apply aE | apply aG) | exact HB.out)) hb); have n1_ := aA.mk (hbox); have n2_ := aA.mk ((by rw [hg]; exact (aW (by repeat (first | (with_reducible first | exact HB.out | apply aH | apply aE | apply aG) | exact HB.out))) : w.heap.size ≤ gb114)); have n3_ := aA.mk ((by rw [hg]; exact (aW (by repeat (first | (with_reducible first | exact HB.out | apply aH | apply aE | apply aG) | exact HB.out))) : w.heap.size ≤ gb114)); clear HB; have HB := n0_; have BK114 := n1_; have GW114 := n2_; have GE114 := n3_; clear n0_ n1_ n2_ n3_; clear hb hbox hg) | ((with_reducible refine bG (N := 3) rfl ?_); refine bJ ?hg (N := 3) ?hd (cs := #[.int .i64 a1_0, .int .i64 a1_1, .int .i64 a1_2, .int .i64 a1_3, .int .i64 a1_4]) (t := 27) ?hr ?_; (case hd => rfl); (case hg => rfl); (case hr => first | (go_simp; done) | (go_simp; rfl)); intro gb115 hg w10 hbox hb; have n0_ := aA.mk (bB (g := gb114) (o := .cells #[.int .i64 a0_0, .int .i64 a0_1, .int .i64 a0_2, .int .i64 a0_3, .int .i64 a0_4] 27 (0, 0)) (by (with_reducible repeat (first | refine aK ?_ _ | refine aM ?_ | refine aJ ?_ _)); exact BK114.out) hb); have n1_ := aA.mk (aV (by repeat (first | (with_reducible first | exact HB.out | apply aH | apply aE | apply aG | refine aN ?_ GE114.out) | exact HB.out)) hb); have n2_ := aA.mk (hbox); have n3_ := aA.mk ((by rw [hg]; exact (aW (by repeat (first | (with_reducible first | exact HB.out | apply aH | apply aE | apply aG | refine aN ?_ GE114.out) | exact HB.out))) : w.heap.size ≤ gb115)); have n4_ := aA.mk ((by rw [hg]; exact (aW (by repeat (first | (with_reducible first | exact HB.out | apply aH | apply aE | apply aG | refine aN ?_ GE114.out) | exact HB.out))) : w.heap.size ≤ gb115)); have n5_ := aA.mk ((by rw [hg]; exact Nat.ne_of_lt (blk_lt (g := gb114) (o := .cells #[.int .i64 a0_0, .int .i64 a0_1, .int .i64 a0_2, .int .i64 a0_3, .int .i64 a0_4] 27 (0, 0)) (by (with_reducible repeat (first | refine aK ?_ _ | refine aM ?_ | refine aJ ?_ _)); exact BK114.out)) : gb114 ≠ gb115)); have n6_ := aA.mk ((by rw [hg]; exact Nat.ne_of_gt (blk_lt (g := gb114) (o := .cells #[.int .i64 a0_0, .int .i64 a0_1, .int .i64 a0_2, .int .i64 a0_3, .int .i64 a0_4] 27 (0, 0)) (by (with_reducible repeat (first | refine aK ?_ _ | refine aM ?_ | refine aJ ?_ _)); exact BK114.out)) : gb115 ≠ gb114)); clear BK114; clear HB; have BK114 := n0_; have HB := n1_; have BK115 := n2_; have GW115 := n3_; have GE115 := n4_; have NB114_115 := n5_; have NB115_114 := n6_; clear n0_ n1_ n2_ n3_ n4_ n5_ n6_; clear hb hbox hg; have hnb11 := NB114_115.out; have hnc11 := NB115_114.out; have hcz12_0 : w10.cell? ⟨gb114, 0, none⟩ = some (.int .i64 a0_0) := (aC BK114.out 0).trans rfl; have hcz12_1 : w10.cell? ⟨gb114, 1, none⟩ = some (.int .i64 a0_1) := (aC BK114.out 1).trans rfl; have hcz12_2 : w10.cell? ⟨gb114, 2, none⟩ = some (.int .i64 a0_2) := (aC BK114.out 2).trans rfl; have hcz12_3 : w10.cell? ⟨gb114, 3, none⟩ = some (.int .i64 a0_3) := (aC BK114.out 3).trans rfl; have hcz12_4 : w10.cell? ⟨gb114, 4, none⟩ = some (.int .i64 a0_4) := (aC BK114.out 4).trans rfl; have hfz12_0 := aD BK114.out 0; have hfz12_1 := aD BK114.out 1; have hfz12_2 := aD BK114.out 2; have hfz12_3 := aD BK114.out 3; have hfz12_4 := aD BK114.out 4; have hcz13_0 : w10.cell? ⟨gb115, 0, none⟩ = some (.int .i64 a1_0) := (aC BK115.out 0).trans rfl; have hcz13_1 : w10.cell? ⟨gb115, 1, none⟩ = some (.int .i64 a1_1) := (aC BK115.out 1).trans rfl; have hcz13_2 : w10.cell? ⟨gb115, 2, none⟩ = some (.int .i64 a1_2) := (aC BK115.out 2).trans rfl; have hcz13_3 : w10.cell? ⟨gb115, 3, none⟩ = some (.int .i64 a1_3) := (aC BK115.out 3).trans rfl; have hcz13_4 : w10.cell? ⟨gb115, 4, none⟩ = some (.int .i64 a1_4) := (aC BK115.out 4).trans rfl; have hfz13_0 := aD BK115.out 0; have hfz13_1 := aD BK115.out 1; have hfz13_2 := aD BK115.out 2; have hfz13_3 := aD BK115.out 3; have hfz13_4 := aD BK115.out 4))
  go_ret
  exact ⟨by first | rfl | (simp [errW_none, errW_some] <;> rfl) | (simp [*, errW_none, errW_some] <;> rfl), by repeat (first | (with_reducible first | exact HB.out | apply aH | apply aE | apply aG | refine aN ?_ GE114.out | refine aN ?_ GE115.out) | exact HB.out)⟩
end Go.Proofs.Ytkaoiaolbhklnaa.PFnSetsBent

namespace Go.Proofs.Ytkaoiaolbhklnaa.PFnSetsBent
open Go.RowKit Go.Proofs.YtkaoiaolbhklnaaW.PrintWords Go.Proofs.YtkaoiaolbhklnaaW.PrintLast Go.Proofs.YtkaoiaolbhklnaaW.PrintMore
attribute [local go_sem] max2_int min2_int max_two min_two max_three min_three max_four min_four   -- for this text's walks alone
set_option linter.unusedVariables false
set_option linter.unusedSimpArgs false
def spec_l4Rises.l0 : Nat → List (S27) → Int → Option (Bool)
 | 0, _, _ => none
 | k + 1, x0, x3 => if x3 < (x0.length : Int) then (if 0 ≤ (wrap64 (x3 - 1)) then (if (wrap64 (x3 - 1)) < (x0.length : Int) then (if 0 ≤ x3 then ((spec_LessKey.f ((rd_T27 x0 (wrap64 (x3 - 1))).f0) ((rd_T27 x0 (wrap64 (x3 - 1))).f1) ((rd_T27 x0 (wrap64 (x3 - 1))).f2) ((rd_T27 x0 (wrap64 (x3 - 1))).f3) ((rd_T27 x0 (wrap64 (x3 - 1))).f4) ((rd_T27 x0 x3).f0) ((rd_T27 x0 x3).f1) ((rd_T27 x0 x3).f2) ((rd_T27 x0 x3).f3) ((rd_T27 x0 x3).f4)).bind fun t118 => (if t118 = true then (spec_l4Rises.l0 k x0 (wrap64 (x3 + 1))) else (some false))) else (none)) else (none)) else (none)) else (some true)
def spec_l4Rises.f (k : Nat) (l0 : List (S27)) : Option (Bool) := spec_l4Rises.l0 k l0 1
def spec_l4Rises.T4 : Bool × List (List Nat × List Nat) := (true, [([], []), ([], []), ([1], [1]), ([0, 2], [0, 2]), ([3], [3]), ([], []), ([], []), ([5, 6], [5, 6]), ([7], [7]), ([4, 8], [4, 8]), ([9], [9])])
def spec_l4Rises.B4 : List Nat := [0, 0, 2, 7, 15, 0, 0, 96, 224, 511, 1023]
theorem spec_l4Rises.tab4 : rtab .any (opsOf Try.f78 4) = spec_l4Rises.T4 := by kernel_rfl
theorem spec_l4Rises.bits4 : waitsOk spec_l4Rises.T4.2 spec_l4Rises.B4 = true := by kernel_rfl
set_option maxHeartbeats 8000000 in
set_option maxRecDepth 100000 in
theorem spec_l4Rises.calls (k : Nat) (A0 : Option Addr) (c0 : Nat) (l0 : List (S27)) (r : Bool) (w : World) (hr0 : Kd.C k27 w A0 l0.length l0) (hc0 : l0.length ≤ c0) (h : spec_l4Rises.f k l0 = some r) :
  Calls Try.prog 78 #[.slice A0 l0.length c0] w fun e w' => e = .returned (.bool r) ∧ Below w.heap.size w w' := by
 have hu27 := Try.underlying27
 have HR0 := aA.mk hr0
 have HC0 := aA.mk hc0
 clear hr0 hc0
 have HB := aA.mk (Below.refl w.heap.size w)
 have H : (spec_l4Rises.l0 k l0 1) = some r := h
 clear h
 have H' := aA.mk H
 clear H
 go_enter Try.func78, Try.ntmps78
 go_wp2
 go_loopg [3] k (fun kq v3 w' => ∃ (x3_1 : Int), v3 = .int .i64 x3_1 ∧ aA (spec_l4Rises.l0 kq l0 x3_1 = some r) ∧ aA (kq ≤ k) ∧ aA (Below w.heap.size w w'))
 case atStart => exact ⟨(1), (by first | rfl | (simp; done) | (simp [*]; done)), H', ⟨Nat.le_refl _⟩, ⟨by repeat (first | (with_reducible first | exact HB.out | apply aH | apply aE | apply aG) | exact HB.out)⟩⟩
 case round =>
  clear H'
  obtain ⟨x3_1, rfl, HA, HK1, HB⟩ := hrel
  cases gk with
  | zero => exact absurd HA.out (by simp [spec_l4Rises.l0])
  | succ k1 =>
   have H := HA.out
   clear HA
   simp only [spec_l4Rises.l0] at H
   by_cases c2 : x3_1 < (l0.length : Int)
   ·rw [if_pos c2] at H
    have c2b0 : decide (x3_1 < (l0.length : Int)) = true := decide_eq_true c2
    clear c2
    obtain ⟨ji3, hji3⟩ : ∃ j_ : Int, (wrap64 (x3_1 - 1)) = j_ := ⟨_, rfl⟩
    replace H : (if 0 ≤ (ji3) then (if (ji3) < (l0.length : Int) then (if 0 ≤ x3_1 then ((spec_LessKey.f ((rd_T27 l0 (ji3)).f0) ((rd_T27 l0 (ji3)).f1) ((rd_T27 l0 (ji3)).f2) ((rd_T27 l0 (ji3)).f3) ((rd_T27 l0 (ji3)).f4) ((rd_T27 l0 x3_1).f0) ((rd_T27 l0 x3_1).f1) ((rd_T27 l0 x3_1).f2) ((rd_T27 l0 x3_1).f3) ((rd_T27 l0 x3_1).f4)).bind fun t118 => (if t118 = true then (spec_l4Rises.l0 k1 l0 (wrap64 (x3_1 + 1))) else (some false))) else (none)) else (none)) else (none)) = some r := by first | (rw [hji3] at H; exact H) | (simp only [hji3] at H ⊢; exact H)
    have hji3w : (IntKind.i64.wrap (x3_1 - 1)) = ji3 := (aZ _).trans hji3
    by_cases c4 : 0 ≤ (ji3)
    ·rw [if_pos c4] at H
     have c4b0 : decide (0 ≤ (ji3)) = true := decide_eq_true c4
     clear c4
     by_cases c5 : (ji3) < (l0.length : Int)
     ·rw [if_pos c5] at H
      have c5b0 : decide ((ji3) < (l0.length : Int)) = true := decide_eq_true c5
      clear c5
      by_cases c6 : 0 ≤ x3_1
      ·rw [if_pos c6] at H
       have c6b0 : decide (0 ≤ x3_1) = true := decide_eq_true c6
       clear c6
       replace H := lF H
       obtain ⟨t118, A70, H⟩ := H
       replace H : (if t118 = true then (spec_l4Rises.l0 k1 l0 (wrap64 (x3_1 + 1))) else (some false)) = some r := H
       have A7 := aA.mk A70
       clear A70
       by_cases c8 : t118 = true
       ·subst c8
        have H1 : (spec_l4Rises.l0 k1 l0 (wrap64 (x3_1 + 1))) = some r := by rw [if_pos rfl] at H; exact H
        clear H
        have H := H1
        clear H1
        have H' := aA.mk H
        clear H
        try go_wp2
        have n0_ := aA.mk (aG HB.out)
        clear HB
        have HB := n0_
        clear n0_
        have p116 : 0 ≤ ((ji3) : Int) := lE (by first | (with_reducible assumption) | assumption)
        have q116 : (ji3) < (l0.length : Int) := lE (by first | (with_reducible assumption) | assumption)
        obtain ⟨ad116, e116, hx116_0, hx116_1, hx116_2, hx116_3, hx116_4⟩ := at_T27 HR0.out (ji3) p116 q116
        have hw116_4 := hx116_4
        have hw116_3 := hx116_3
        have hw116_2 := hx116_2
        have hw116_1 := hx116_1
        have hw116_0 := hx116_0
        cases e116
        replace hx116_0 := (HB.out.cell (lD w _ hx116_0)).trans hx116_0
        replace hx116_1 := (HB.out.cell (lD w _ hx116_1)).trans hx116_1
        replace hx116_2 := (HB.out.cell (lD w _ hx116_2)).trans hx116_2
        replace hx116_3 := (HB.out.cell (lD w _ hx116_3)).trans hx116_3
        replace hx116_4 := (HB.out.cell (lD w _ hx116_4)).trans hx116_4
        replace p116 := eq_true p116
        replace q116 := eq_true q116
        have p117 : 0 ≤ (x3_1 : Int) := lE (by first | (with_reducible assumption) | assumption)
        have q117 : x3_1 < (l0.length : Int) := lE (by first | (with_reducible assumption) | assumption)
        obtain ⟨ad117, e117, hx117_0, hx117_1, hx117_2, hx117_3, hx117_4⟩ := at_T27 HR0.out x3_1 p117 q117
        have hw117_4 := hx117_4
        have hw117_3 := hx117_3
        have hw117_2 := hx117_2
        have hw117_1 := hx117_1
        have hw117_0 := hx117_0
        obtain rfl : ad116 = ad117 := (by injection e117)
        replace hx117_0 := (HB.out.cell (lD w _ hx117_0)).trans hx117_0
        replace hx117_1 := (HB.out.cell (lD w _ hx117_1)).trans hx117_1
        replace hx117_2 := (HB.out.cell (lD w _ hx117_2)).trans hx117_2
        replace hx117_3 := (HB.out.cell (lD w _ hx117_3)).trans hx117_3
        replace hx117_4 := (HB.out.cell (lD w _ hx117_4)).trans hx117_4
        replace p117 := eq_true p117
        replace q117 := eq_true q117
        refine start_ (n := 11) (S := fun w' => w'.cell? (ad116.add (((ji3)).toNat * 5)) = some (.int .i64 ((rd_T27 l0 (ji3)).f0)) ∧ w'.cell? ⟨(ad116.add (((ji3)).toNat * 5)).block, (ad116.add (((ji3)).toNat * 5)).off + 1, none⟩ = some (.int .i64 ((rd_T27 l0 (ji3)).f1)) ∧ w'.cell? ⟨(ad116.add (((ji3)).toNat * 5)).block, (ad116.add (((ji3)).toNat * 5)).off + 2, none⟩ = some (.int .i64 ((rd_T27 l0 (ji3)).f2)) ∧ w'.cell? ⟨(ad116.add (((ji3)).toNat * 5)).block, (ad116.add (((ji3)).toNat * 5)).off + 3, none⟩ = some (.int .i64 ((rd_T27 l0 (ji3)).f3)) ∧ w'.cell? ⟨(ad116.add (((ji3)).toNat * 5)).block, (ad116.add (((ji3)).toNat * 5)).off + 4, none⟩ = some (.int .i64 ((rd_T27 l0 (ji3)).f4)) ∧ w'.cell? (ad116.add ((x3_1).toNat * 5)) = some (.int .i64 ((rd_T27 l0 x3_1).f0)) ∧ w'.cell? ⟨(ad116.add ((x3_1).toNat * 5)).block, (ad116.add ((x3_1).toNat * 5)).off + 1, none⟩ = some (.int .i64 ((rd_T27 l0 x3_1).f1)) ∧ w'.cell? ⟨(ad116.add ((x3_1).toNat * 5)).block, (ad116.add ((x3_1).toNat * 5)).off + 2, none⟩ = some (.int .i64 ((rd_T27 l0 x3_1).f2)) ∧ w'.cell? ⟨(ad116.add ((x3_1).toNat * 5)).block, (ad116.add ((x3_1).toNat * 5)).off + 3, none⟩ = some (.int .i64 ((rd_T27 l0 x3_1).f3)) ∧ w'.cell? ⟨(ad116.add ((x3_1).toNat * 5)).block, (ad116.add ((x3_1).toNat * 5)).off + 4, none⟩ = some (.int .i64 ((rd_T27 l0 x3_1).f4))) (ds := []) #[false, false, false, false, false, false, false, false, false, false, false] (by kernel_rfl) rfl rfl ⟨((HB.out.cell (lD w _ hw116_0)).trans hw116_0), ((HB.out.cell (lD w _ hw116_1)).trans hw116_1), ((HB.out.cell (lD w _ hw116_2)).trans hw116_2), ((HB.out.cell (lD w _ hw116_3)).trans hw116_3), ((HB.out.cell (lD w _ hw116_4)).trans hw116_4), ((HB.out.cell (lD w _ hw117_0)).trans hw117_0), ((HB.out.cell (lD w _ hw117_1)).trans hw117_1), ((HB.out.cell (lD w _ hw117_2)).trans hw117_2), ((HB.out.cell (lD w _ hw117_3)).trans hw117_3), ((HB.out.cell (lD w _ hw117_4)).trans hw117_4)⟩ (fun hHeld => ?_); refine with_tabW spec_l4Rises.tab4 spec_l4Rises.bits4 (fun HT_ HW_ => ?_)
        generalize wr.drew = w9 at HB hx116_0 hx116_1 hx116_2 hx116_3 hx116_4 hx117_0 hx117_1 hx117_2 hx117_3 hx117_4 hHeld ⊢
        refine bF (i := 0) (N := some 10) (v := ?_) (a' := ?_) #[true, false, false, false, false, false, false, false, false, false, false] rfl rfl (bH HT_.out (by kernel_rfl)) (fun _ _ _ h => h) (Or.inl ⟨by rfl, ?_⟩) ?_ ?_
        rotate_left
        ·intro w'
         go_simp
         with_reducible rfl
        rotate_left
        ·simp only [Act.put, lA, lB, lC, aZ, bA]
         rfl
        refine bF (i := 1) (N := some 11) (v := ?_) (a' := ?_) #[true, true, false, false, false, false, false, false, false, false, false] rfl rfl (bH HT_.out (by kernel_rfl)) (fun _ _ _ h => h) (Or.inl ⟨by rfl, ?_⟩) ?_ ?_
        rotate_left
        ·intro w'
         go_simp
         with_reducible rfl
        rotate_left
        ·simp only [Act.put, lA, lB, lC, aZ, bA]
         rfl
        refine bF (i := 2) (N := some 12) (v := ?_) (a' := ?_) #[true, true, true, false, false, false, false, false, false, false, false] rfl rfl (bH HT_.out (by kernel_rfl)) (fun _ _ _ h => h) (Or.inl ⟨by rfl, ?_⟩) ?_ ?_
        rotate_left
        ·intro w'
         go_simp
         with_reducible rfl
        rotate_left
        ·simp only [Act.put, lA, lB, lC, aZ, bA]
         rfl
        refine bF (i := 3) (N := some 13) (v := ?_) (a' := ?_) #[true, true, true, true, false, false, false, false, false, false, false] rfl rfl (bH HT_.out (by kernel_rfl)) (fun _ _ _ h => h) (Or.inl ⟨by rfl, ?_⟩) ?_ ?_
        rotate_left
        ·intro w'
         go_simp
         with_reducible rfl
        rotate_left
        ·simp only [Act.put, lA, lB, lC, aZ, bA]
         rfl
        refine bF (i := 5) (N := some 15) (v := ?_) (a' := ?_) #[true, true, true, true, false, true, false, false, false, false, false] rfl rfl (bH HT_.out (by kernel_rfl)) (fun _ _ _ h => h) (Or.inl ⟨by rfl, ?_⟩) ?_ ?_
        rotate_left
        ·intro w'
         go_simp
         with_reducible rfl
        rotate_left
        ·simp only [Act.put, lA, lB, lC, aZ, bA]
         rfl
        refine bF (i := 6) (N := some 16) (v := ?_) (a' := ?_) #[true, true, true, true, false, true, true, false, false, false, false] rfl rfl (bH HT_.out (by kernel_rfl)) (fun _ _ _ h => h) (Or.inl ⟨by rfl, ?_⟩) ?_ ?_
        rotate_left
        ·intro w'
         go_simp
         with_reducible rfl
        rotate_left
        ·simp only [Act.put, lA, lB, lC, aZ, bA]
         rfl
        refine bF (i := 7) (N := some 17) (v := ?_) (a' := ?_) #[true, true, true, true, false, true, true, true, false, false, false] rfl rfl (bH HT_.out (by kernel_rfl)) (fun _ _ _ h => h) (Or.inl ⟨by rfl, ?_⟩) ?_ ?_
        rotate_left
        ·intro w'
         go_simp
         with_reducible rfl
        rotate_left
        ·simp only [Act.put, lA, lB, lC, aZ, bA]
         rfl
        refine take_ (i := 4) (N := some 14) (v := ?_) (a' := ?_) #[true, true, true, true, true, true, true, true, false, false, false] rfl rfl (take_ofW HT_.out HW_.out (by kernel_rfl)) (fun _ _ _ h => h) (Or.inl ⟨by rfl, ?_⟩) hHeld ?_ ?_
        rotate_left
        ·rintro w' ⟨s0, s1, s2, s3, s4, s5, s6, s7, s8, s9⟩
         go_simp
         with_reducible rfl
        rotate_left
        ·simp only [Act.put, lA, lB, lC, aZ, bA]
         rfl
        refine take_ (i := 8) (N := some 18) (v := ?_) (a' := ?_) #[true, true, true, true, true, true, true, true, true, false, false] rfl rfl (take_ofW HT_.out HW_.out (by kernel_rfl)) (fun _ _ _ h => h) (Or.inl ⟨by rfl, ?_⟩) hHeld ?_ ?_
        rotate_left
        ·rintro w' ⟨s0, s1, s2, s3, s4, s5, s6, s7, s8, s9⟩
         go_simp
         with_reducible rfl
        rotate_left
        ·simp only [Act.put, lA, lB, lC, aZ, bA]
         rfl
        refine one_ (i := 9) (N := some 19) #[true, true, true, true, true, true, true, true, true, true, false] rfl rfl (one_of HT_.out (by kernel_rfl)) (by decide) (fun K hK => ?_)
        refine goes_ Try.func79 (by kernel_rfl) rfl #[.agg #[.int .i64 ((rd_T27 l0 (ji3)).f0), .int .i64 ((rd_T27 l0 (ji3)).f1), .int .i64 ((rd_T27 l0 (ji3)).f2), .int .i64 ((rd_T27 l0 (ji3)).f3), .int .i64 ((rd_T27 l0 (ji3)).f4)], .agg #[.int .i64 ((rd_T27 l0 x3_1).f0), .int .i64 ((rd_T27 l0 x3_1).f1), .int .i64 ((rd_T27 l0 x3_1).f2), .int .i64 ((rd_T27 l0 x3_1).f3), .int .i64 ((rd_T27 l0 x3_1).f4)]] (by rfl) rfl rfl (by (try simp only [List.map_toArray, List.map_cons, List.map_nil]); first | done | (simp only [hji3]; rfl) | rfl | (simp only [List.length_drop, List.length_take]; rfl)) ?_
        with_reducible refine (spec_LessKey.calls ((rd_T27 l0 (ji3)).f0) ((rd_T27 l0 (ji3)).f1) ((rd_T27 l0 (ji3)).f2) ((rd_T27 l0 (ji3)).f3) ((rd_T27 l0 (ji3)).f4) ((rd_T27 l0 x3_1).f0) ((rd_T27 l0 x3_1).f1) ((rd_T27 l0 x3_1).f2) ((rd_T27 l0 x3_1).f3) ((rd_T27 l0 x3_1).f4) true _ A7.out).mono ?_
        rintro e w10 ⟨rfl, hb⟩
        refine ⟨_, rfl, ?_⟩
        have n0_ := aA.mk (aV (by repeat (first | (with_reducible first | exact HB.out | apply aH | apply aE | apply aG) | exact HB.out)) hb)
        clear HB
        have HB := n0_
        clear n0_
        (try clear hb)
        (try clear hb2)
        (try clear hk)
        (try clear hi)
        refine hK.out _ _ ⟨((HB.out.cell (lD w _ hw116_0)).trans hw116_0), ((HB.out.cell (lD w _ hw116_1)).trans hw116_1), ((HB.out.cell (lD w _ hw116_2)).trans hw116_2), ((HB.out.cell (lD w _ hw116_3)).trans hw116_3), ((HB.out.cell (lD w _ hw116_4)).trans hw116_4), ((HB.out.cell (lD w _ hw117_0)).trans hw117_0), ((HB.out.cell (lD w _ hw117_1)).trans hw117_1), ((HB.out.cell (lD w _ hw117_2)).trans hw117_2), ((HB.out.cell (lD w _ hw117_3)).trans hw117_3), ((HB.out.cell (lD w _ hw117_4)).trans hw117_4)⟩ (fun hHeld => ?_)
        clear hK K
        refine norm_ (a' := ?_) ?_ ?_
        rotate_left
        ·show Act.put _ (some 19) _ = _
         simp only [Act.put, lA, lB, lC, aZ, bA]
         rfl
        refine bF (i := 10) (N := some 20) (v := ?_) (a' := ?_) #[true, true, true, true, true, true, true, true, true, true, true] rfl rfl (bH HT_.out (by kernel_rfl)) (fun _ _ _ h => h) (Or.inl ⟨by rfl, ?_⟩) ?_ ?_
        rotate_left
        ·intro w'
         go_simp
         with_reducible rfl
        rotate_left
        ·simp only [Act.put, lA, lB, lC, aZ, bA]
         rfl
        refine done_ (done_of HT_.out (by kernel_rfl)) ?_
        try go_wp2
        go_roundg k1
        case measure => have := HK1.out; omega
        case rel => exact ⟨(wrap64 (x3_1 + 1)), (by first | rfl | (simp; done) | (simp [*]; done)), H', ⟨by have := HK1.out; omega⟩, ⟨by repeat (first | (with_reducible first | exact HB.out | apply aH | apply aE | apply aG) | exact HB.out)⟩⟩
       ·replace c8 := Bool.eq_false_iff.mpr c8
        subst c8
        have H1 : (some false) = some r := by rw [if_neg (show ¬ (false = true) by decide)] at H; exact H
        clear H
        have H := H1
        clear H1
        obtain rfl := Option.some.inj H
        try go_wp2
        have n0_ := aA.mk (aG HB.out)
        clear HB
        have HB := n0_
        clear n0_
        have p116 : 0 ≤ ((ji3) : Int) := lE (by first | (with_reducible assumption) | assumption)
        have q116 : (ji3) < (l0.length : Int) := lE (by first | (with_reducible assumption) | assumption)
        obtain ⟨ad116, e116, hx116_0, hx116_1, hx116_2, hx116_3, hx116_4⟩ := at_T27 HR0.out (ji3) p116 q116
        have hw116_4 := hx116_4
        have hw116_3 := hx116_3
        have hw116_2 := hx116_2
        have hw116_1 := hx116_1
        have hw116_0 := hx116_0
        cases e116
        replace hx116_0 := (HB.out.cell (lD w _ hx116_0)).trans hx116_0
        replace hx116_1 := (HB.out.cell (lD w _ hx116_1)).trans hx116_1
        replace hx116_2 := (HB.out.cell (lD w _ hx116_2)).trans hx116_2
        replace hx116_3 := (HB.out.cell (lD w _ hx116_3)).trans hx116_3
        replace hx116_4 := (HB.out.cell (lD w _ hx116_4)).trans hx116_4
        replace p116 := eq_true p116
        replace q116 := eq_true q116
        have p117 : 0 ≤ (x3_1 : Int) := lE (by first | (with_reducible assumption) | assumption)
        have q117 : x3_1 < (l0.length : Int) := lE (by first | (with_reducible assumption) | assumption)
        obtain ⟨ad117, e117, hx117_0, hx117_1, hx117_2, hx117_3, hx117_4⟩ := at_T27 HR0.out x3_1 p117 q117
        have hw117_4 := hx117_4
        have hw117_3 := hx117_3
        have hw117_2 := hx117_2
        have hw117_1 := hx117_1
        have hw117_0 := hx117_0
        obtain rfl : ad116 = ad117 := (by injection e117)
        replace hx117_0 := (HB.out.cell (lD w _ hx117_0)).trans hx117_0
        replace hx117_1 := (HB.out.cell (lD w _ hx117_1)).trans hx117_1
        replace hx117_2 := (HB.out.cell (lD w _ hx117_2)).trans hx117_2
        replace hx117_3 := (HB.out.cell (lD w _ hx117_3)).trans hx117_3
        replace hx117_4 := (HB.out.cell (lD w _ hx117_4)).trans hx117_4
        replace p117 := eq_true p117
        replace q117 := eq_true q117
        refine start_ (n := 11) (S := fun w' => w'.cell? (ad116.add (((ji3)).toNat * 5)) = some (.int .i64 ((rd_T27 l0 (ji3)).f0)) ∧ w'.cell? ⟨(ad116.add (((ji3)).toNat * 5)).block, (ad116.add (((ji3)).toNat * 5)).off + 1, none⟩ = some (.int .i64 ((rd_T27 l0 (ji3)).f1)) ∧ w'.cell? ⟨(ad116.add (((ji3)).toNat * 5)).block, (ad116.add (((ji3)).toNat * 5)).off + 2, none⟩ = some (.int .i64 ((rd_T27 l0 (ji3)).f2)) ∧ w'.cell? ⟨(ad116.add (((ji3)).toNat * 5)).block, (ad116.add (((ji3)).toNat * 5)).off + 3, none⟩ = some (.int .i64 ((rd_T27 l0 (ji3)).f3)) ∧ w'.cell? ⟨(ad116.add (((ji3)).toNat * 5)).block, (ad116.add (((ji3)).toNat * 5)).off + 4, none⟩ = some (.int .i64 ((rd_T27 l0 (ji3)).f4)) ∧ w'.cell? (ad116.add ((x3_1).toNat * 5)) = some (.int .i64 ((rd_T27 l0 x3_1).f0)) ∧ w'.cell? ⟨(ad116.add ((x3_1).toNat * 5)).block, (ad116.add ((x3_1).toNat * 5)).off + 1, none⟩ = some (.int .i64 ((rd_T27 l0 x3_1).f1)) ∧ w'.cell? ⟨(ad116.add ((x3_1).toNat * 5)).block, (ad116.add ((x3_1).toNat * 5)).off + 2, none⟩ = some (.int .i64 ((rd_T27 l0 x3_1).f2)) ∧ w'.cell? ⟨(ad116.add ((x3_1).toNat * 5)).block, (ad116.add ((x3_1).toNat * 5)).off + 3, none⟩ = some (.int .i64 ((rd_T27 l0 x3_1).f3)) ∧ w'.cell? ⟨(ad116.add ((x3_1).toNat * 5)).block, (ad116.add ((x3_1).toNat * 5)).off + 4, none⟩ = some (.int .i64 ((rd_T27 l0 x3_1).f4))) (ds := []) #[false, false, false, false, false, false, false, false, false, false, false] (by kernel_rfl) rfl rfl ⟨((HB.out.cell (lD w _ hw116_0)).trans hw116_0), ((HB.out.cell (lD w _ hw116_1)).trans hw116_1), ((HB.out.cell (lD w _ hw116_2)).trans hw116_2), ((HB.out.cell (lD w _ hw116_3)).trans hw116_3), ((HB.out.cell (lD w _ hw116_4)).trans hw116_4), ((HB.out.cell (lD w _ hw117_0)).trans hw117_0), ((HB.out.cell (lD w _ hw117_1)).trans hw117_1), ((HB.out.cell (lD w _ hw117_2)).trans hw117_2), ((HB.out.cell (lD w _ hw117_3)).trans hw117_3), ((HB.out.cell (lD w _ hw117_4)).trans hw117_4)⟩ (fun hHeld => ?_); refine with_tabW spec_l4Rises.tab4 spec_l4Rises.bits4 (fun HT_ HW_ => ?_)
        generalize wr.drew = w11 at HB hx116_0 hx116_1 hx116_2 hx116_3 hx116_4 hx117_0 hx117_1 hx117_2 hx117_3 hx117_4 hHeld ⊢
        refine bF (i := 0) (N := some 10) (v := ?_) (a' := ?_) #[true, false, false, false, false, false, false, false, false, false, false] rfl rfl (bH HT_.out (by kernel_rfl)) (fun _ _ _ h => h) (Or.inl ⟨by rfl, ?_⟩) ?_ ?_
        rotate_left
        ·intro w'
         go_simp
         with_reducible rfl
        rotate_left
        ·simp only [Act.put, lA, lB, lC, aZ, bA]
         rfl
        refine bF (i := 1) (N := some 11) (v := ?_) (a' := ?_) #[true, true, false, false, false, false, false, false, false, false, false] rfl rfl (bH HT_.out (by kernel_rfl)) (fun _ _ _ h => h) (Or.inl ⟨by rfl, ?_⟩) ?_ ?_
        rotate_left
        ·intro w'
         go_simp
         with_reducible rfl
        rotate_left
        ·simp only [Act.put, lA, lB, lC, aZ, bA]
         rfl
        refine bF (i := 2) (N := some 12) (v := ?_) (a' := ?_) #[true, true, true, false, false, false, false, false, false, false, false] rfl rfl (bH HT_.out (by kernel_rfl)) (fun _ _ _ h => h) (Or.inl ⟨by rfl, ?_⟩) ?_ ?_
        rotate_left
        ·intro w'
         go_simp
         with_reducible rfl
        rotate_left
        ·simp only [Act.put, lA, lB, lC, aZ, bA]
         rfl
        refine bF (i := 3) (N := some 13) (v := ?_) (a' := ?_) #[true, true, true, true, false, false, false, false, false, false, false] rfl rfl (bH HT_.out (by kernel_rfl)) (fun _ _ _ h => h) (Or.inl ⟨by rfl, ?_⟩) ?_ ?_
        rotate_left
        ·intro w'
         go_simp
         with_reducible rfl
        rotate_left
        ·simp only [Act.put, lA, lB, lC, aZ, bA]
         rfl
        refine bF (i := 5) (N := some 15) (v := ?_) (a' := ?_) #[true, true, true, true, false, true, false, false, false, false, false] rfl rfl (bH HT_.out (by kernel_rfl)) (fun _ _ _ h => h) (Or.inl ⟨by rfl, ?_⟩) ?_ ?_
        rotate_left
        ·intro w'
         go_simp
         with_reducible rfl
        rotate_left
        ·simp only [Act.put, lA, lB, lC, aZ, bA]
         rfl
        refine bF (i := 6) (N := some 16) (v := ?_) (a' := ?_) #[true, true, true, true, false, true, true, false, false, false, false] rfl rfl (bH HT_.out (by kernel_rfl)) (fun _ _ _ h => h) (Or.inl ⟨by rfl, ?_⟩) ?_ ?_
        rotate_left
        ·intro w'
         go_simp
         with_reducible rfl
        rotate_left
        ·simp only [Act.put, lA, lB, lC, aZ, bA]
         rfl
        refine bF (i := 7) (N := some 17) (v := ?_) (a' := ?_) #[true, true, true, true, false, true, true, true, false, false, false] rfl rfl (bH HT_.out (by kernel_rfl)) (fun _ _ _ h => h) (Or.inl ⟨by rfl, ?_⟩) ?_ ?_
        rotate_left
        ·intro w'
         go_simp
         with_reducible rfl
        rotate_left
        ·simp only [Act.put, lA, lB, lC, aZ, bA]
         rfl
        refine take_ (i := 4) (N := some 14) (v := ?_) (a' := ?_) #[true, true, true, true, true, true, true, true, false, false, false] rfl rfl (take_ofW HT_.out HW_.out (by kernel_rfl)) (fun _ _ _ h => h) (Or.inl ⟨by rfl, ?_⟩) hHeld ?_ ?_
        rotate_left
        ·rintro w' ⟨s0, s1, s2, s3, s4, s5, s6, s7, s8, s9⟩
         go_simp
         with_reducible rfl
        rotate_left
        ·simp only [Act.put, lA, lB, lC, aZ, bA]
         rfl
        refine take_ (i := 8) (N := some 18) (v := ?_) (a' := ?_) #[true, true, true, true, true, true, true, true, true, false, false] rfl rfl (take_ofW HT_.out HW_.out (by kernel_rfl)) (fun _ _ _ h => h) (Or.inl ⟨by rfl, ?_⟩) hHeld ?_ ?_
        rotate_left
        ·rintro w' ⟨s0, s1, s2, s3, s4, s5, s6, s7, s8, s9⟩
         go_simp
         with_reducible rfl
        rotate_left
        ·simp only [Act.put, lA, lB, lC, aZ, bA]
         rfl
        refine one_ (i := 9) (N := some 19) #[true, true, true, true, true, true, true, true, true, true, false] rfl rfl (one_of HT_.out (by kernel_rfl)) (by decide) (fun K hK => ?_)
        refine goes_ Try.func79 (by kernel_rfl) rfl #[.agg #[.int .i64 ((rd_T27 l0 (ji3)).f0), .int .i64 ((rd_T27 l0 (ji3)).f1), .int .i64 ((rd_T27 l0 (ji3)).f2), .int .i64 ((rd_T27 l0 (ji3)).f3), .int .i64 ((rd_T27 l0 (ji3)).f4)], .agg #[.int .i64 ((rd_T27 l0 x3_1).f0), .int .i64 ((rd_T27 l0 x3_1).f1), .int .i64 ((rd_T27 l0 x3_1).f2), .int .i64 ((rd_T27 l0 x3_1).f3), .int .i64 ((rd_T27 l0 x3_1).f4)]] (by rfl) rfl rfl (by (try simp only [List.map_toArray, List.map_cons, List.map_nil]); first | done | (simp only [hji3]; rfl) | rfl | (simp only [List.length_drop, List.length_take]; rfl)) ?_
        with_reducible refine (spec_LessKey.calls ((rd_T27 l0 (ji3)).f0) ((rd_T27 l0 (ji3)).f1) ((rd_T27 l0 (ji3)).f2) ((rd_T27 l0 (ji3)).f3) ((rd_T27 l0 (ji3)).f4) ((rd_T27 l0 x3_1).f0) ((rd_T27 l0 x3_1).f1) ((rd_T27 l0 x3_1).f2) ((rd_T27 l0 x3_1).f3) ((rd_T27 l0 x3_1).f4) false _ A7.out).mono ?_
        rintro e w12 ⟨rfl, hb⟩
        refine ⟨_, rfl, ?_⟩
        have n0_ := aA.mk (aV (by repeat (first | (with_reducible first | exact HB.out | apply aH | apply aE | apply aG) | exact HB.out)) hb)
        clear HB
        have HB := n0_
        clear n0_
        (try clear hb)
        (try clear hb2)
        (try clear hk)
        (try clear hi)
        refine hK.out _ _ ⟨((HB.out.cell (lD w _ hw116_0)).trans hw116_0), ((HB.out.cell (lD w _ hw116_1)).trans hw116_1), ((HB.out.cell (lD w _ hw116_2)).trans hw116_2), ((HB.out.cell (lD w _ hw116_3)).trans hw116_3), ((HB.out.cell (lD w _ hw116_4)).trans hw116_4), ((HB.out.cell (lD w _ hw117_0)).trans hw117_0), ((HB.out.cell (lD w _ hw117_1)).trans hw117_1), ((HB.out.cell (lD w _ hw117_2)).trans hw117_2), ((HB.out.cell (lD w _ hw117_3)).trans hw117_3), ((HB.out.cell (lD w _ hw117_4)).trans hw117_4)⟩ (fun hHeld => ?_)
        clear hK K
        refine norm_ (a' := ?_) ?_ ?_
        rotate_left
        ·show Act.put _ (some 19) _ = _
         simp only [Act.put, lA, lB, lC, aZ, bA]
         rfl
        refine bF (i := 10) (N := some 20) (v := ?_) (a' := ?_) #[true, true, true, true, true, true, true, true, true, true, true] rfl rfl (bH HT_.out (by kernel_rfl)) (fun _ _ _ h => h) (Or.inl ⟨by rfl, ?_⟩) ?_ ?_
        rotate_left
        ·intro w'
         go_simp
         with_reducible rfl
        rotate_left
        ·simp only [Act.put, lA, lB, lC, aZ, bA]
         rfl
        refine done_ (done_of HT_.out (by kernel_rfl)) ?_
        try go_wp2
        go_ret
        exact ⟨by first | rfl | (simp [errW_none, errW_some] <;> rfl) | (simp only [← hji3]; first | rfl | (simp [errW_none, errW_some] <;> rfl)) | (simp [*, errW_none, errW_some] <;> rfl), by repeat (first | (with_reducible first | exact HB.out | apply aH | apply aE | apply aG) | exact HB.out)⟩
      ·rw [if_neg c6] at H
       exact absurd H (by simp)
     ·rw [if_neg c5] at H
      exact absurd H (by simp)
    ·rw [if_neg c4] at H
     exact absurd H (by simp)
   ·rw [if_neg c2] at H
    have c2b0 : decide (x3_1 < (l0.length : Int)) = false := decide_eq_false c2
    clear c2
    obtain rfl := Option.some.inj H
    go_wp2
    go_ret
    exact ⟨by first | rfl | (simp [errW_none, errW_some] <;> rfl) | (simp [*, errW_none, errW_some] <;> rfl), by repeat (first | (with_reducible first | exact HB.out | apply aH | apply aE | apply aG) | exact HB.out)⟩
def spec_SetOk.l0 : Nat → List (S27) → Int → Option (Bool)
 | 0, _, _ => none
 | k + 1, x0, x3 => if x3 < (x0.length : Int) then (if 0 ≤ x3 then ((spec_KeyOk.f k ((rd_T27 x0 x3).f0) ((rd_T27 x0 x3).f1) ((rd_T27 x0 x3).f2) ((rd_T27 x0 x3).f3) ((rd_T27 x0 x3).f4)).bind fun t120 => (if t120 = true then (spec_SetOk.l0 k x0 (wrap64 (x3 + 1))) else (some false))) else (none)) else ((spec_l4Rises.f k x0).bind fun t121 => (if t121 = true then (some (decide ((x0.length : Int) ≤ 60))) else (some false)))
def spec_SetOk.f (k : Nat) (l0 : List (S27)) : Option (Bool) := spec_SetOk.l0 k l0 0
set_option maxHeartbeats 8000000 in
set_option maxRecDepth 100000 in
theorem spec_SetOk.calls (k : Nat) (A0 : Option Addr) (c0 : Nat) (l0 : List (S27)) (r : Bool) (w : World) (hr0 : Kd.C k27 w A0 l0.length l0) (hc0 : l0.length ≤ c0) (h : spec_SetOk.f k l0 = some r) :
  Calls Try.prog 46 #[.slice A0 l0.length c0] w fun e w' => e = .returned (.bool r) ∧ Below w.heap.size w w' := by
 have hu27 := Try.underlying27
 have HR0 := aA.mk hr0
 have HC0 := aA.mk hc0
 clear hr0 hc0
 have HB := aA.mk (Below.refl w.heap.size w)
 have H : (spec_SetOk.l0 k l0 0) = some r := h
 clear h
 have H' := aA.mk H
 clear H
 go_enter Try.func46, Try.ntmps46
 go_wp2
 go_loopg [3] k (fun kq v3 w' => ∃ (x3_1 : Int), v3 = .int .i64 x3_1 ∧ aA (spec_SetOk.l0 kq l0 x3_1 = some r) ∧ aA (kq ≤ k) ∧ aA (Below w.heap.size w w'))
 case atStart => exact ⟨(0), (by first | rfl | (simp; done) | (simp [*]; done)), H', ⟨Nat.le_refl _⟩, ⟨by repeat (first | (with_reducible first | exact HB.out | apply aH | apply aE | apply aG) | exact HB.out)⟩⟩
 case round =>
  clear H'
  obtain ⟨x3_1, rfl, HA, HK1, HB⟩ := hrel
  cases gk with
  | zero => exact absurd HA.out (by simp [spec_SetOk.l0])
  | succ k1 =>
   have H := HA.out
   clear HA
   simp only [spec_SetOk.l0] at H
   by_cases c2 : x3_1 < (l0.length : Int)
   ·rw [if_pos c2] at H
    have c2b0 : decide (x3_1 < (l0.length : Int)) = true := decide_eq_true c2
    clear c2
    by_cases c3 : 0 ≤ x3_1
    ·rw [if_pos c3] at H
     have c3b0 : decide (0 ≤ x3_1) = true := decide_eq_true c3
     clear c3
     replace H := lF H
     obtain ⟨t120, A40, H⟩ := H
     replace H : (if t120 = true then (spec_SetOk.l0 k1 l0 (wrap64 (x3_1 + 1))) else (some false)) = some r := H
     have A4 := aA.mk A40
     clear A40
     by_cases c5 : t120 = true
     ·subst c5
      have H1 : (spec_SetOk.l0 k1 l0 (wrap64 (x3_1 + 1))) = some r := by rw [if_pos rfl] at H; exact H
      clear H
      have H := H1
      clear H1
      have H' := aA.mk H
      clear H
      have p119 : 0 ≤ (x3_1 : Int) := lE (by first | (with_reducible assumption) | assumption)
      have q119 : x3_1 < (l0.length : Int) := lE (by first | (with_reducible assumption) | assumption)
      obtain ⟨ad119, e119, hx119_0, hx119_1, hx119_2, hx119_3, hx119_4⟩ := at_T27 HR0.out x3_1 p119 q119
      cases e119
      replace hx119_0 := (HB.out.cell (lD w _ hx119_0)).trans hx119_0
      replace hx119_1 := (HB.out.cell (lD w _ hx119_1)).trans hx119_1
      replace hx119_2 := (HB.out.cell (lD w _ hx119_2)).trans hx119_2
      replace hx119_3 := (HB.out.cell (lD w _ hx119_3)).trans hx119_3
      replace hx119_4 := (HB.out.cell (lD w _ hx119_4)).trans hx119_4
      replace p119 := eq_true p119
      replace q119 := eq_true q119
      go_wp2_with (first | ((with_reducible refine aX (f := 31) rfl ?_); refine bL (some 14) rfl rfl Try.func31 (by kernel_rfl) rfl #[.agg #[.int .i64 ((rd_T27 l0 x3_1).f0), .int .i64 ((rd_T27 l0 x3_1).f1), .int .i64 ((rd_T27 l0 x3_1).f2), .int .i64 ((rd_T27 l0 x3_1).f3), .int .i64 ((rd_T27 l0 x3_1).f4)]] rfl (by (try simp only [List.map_toArray, List.map_cons, List.map_nil]); first | done | rfl | (simp only [List.length_drop, List.length_take]; rfl)) ?_; (with_reducible refine (spec_KeyOk.calls k1 ((rd_T27 l0 x3_1).f0) ((rd_T27 l0 x3_1).f1) ((rd_T27 l0 x3_1).f2) ((rd_T27 l0 x3_1).f3) ((rd_T27 l0 x3_1).f4) true _ A4.out).mono ?_); rintro e w6 ⟨rfl, hb⟩; refine ⟨_, rfl, ?_⟩; have n0_ := aA.mk (aV (by repeat (first | (with_reducible first | exact HB.out | apply aH | apply aE | apply aG) | exact HB.out)) hb); clear HB; have HB := n0_; clear n0_; (try clear hb)))
      go_roundg k1
      case measure => have := HK1.out; omega
      case rel => exact ⟨(wrap64 (x3_1 + 1)), (by first | rfl | (simp; done) | (simp [*]; done)), H', ⟨by have := HK1.out; omega⟩, ⟨by repeat (first | (with_reducible first | exact HB.out | apply aH | apply aE | apply aG) | exact HB.out)⟩⟩
     ·replace c5 := Bool.eq_false_iff.mpr c5
      subst c5
      have H1 : (some false) = some r := by rw [if_neg (show ¬ (false = true) by decide)] at H; exact H
      clear H
      have H := H1
      clear H1
      obtain rfl := Option.some.inj H
      have p119 : 0 ≤ (x3_1 : Int) := lE (by first | (with_reducible assumption) | assumption)
      have q119 : x3_1 < (l0.length : Int) := lE (by first | (with_reducible assumption) | assumption)
      obtain ⟨ad119, e119, hx119_0, hx119_1, hx119_2, hx119_3, hx119_4⟩ := at_T27 HR0.out x3_1 p119 q119
      cases e119
      replace hx119_0 := (HB.out.cell (lD w _ hx119_0)).trans hx119_0
      replace hx119_1 := (HB.out.cell (lD w _ hx119_1)).trans hx119_1
      replace hx119_2 := (HB.out.cell (lD w _ hx119_2)).trans hx119_2
      replace hx119_3 := (HB.out.cell (lD w _ hx119_3)).trans hx119_3
      replace hx119_4 := (HB.out.cell (lD w _ hx119_4)).trans hx119_4
      replace p119 := eq_true p119
      replace q119 := eq_true q119
      go_wp2_with (first | ((with_reducible refine aX (f := 31) rfl ?_); refine bL (some 14) rfl rfl Try.func31 (by kernel_rfl) rfl #[.agg #[.int .i64 ((rd_T27 l0 x3_1).f0), .int .i64 ((rd_T27 l0 x3_1).f1), .int .i64 ((rd_T27 l0 x3_1).f2), .int .i64 ((rd_T27 l0 x3_1).f3), .int .i64 ((rd_T27 l0 x3_1).f4)]] rfl (by (try simp only [List.map_toArray, List.map_cons, List.map_nil]); first | done | rfl | (simp only [List.length_drop, List.length_take]; rfl)) ?_; (with_reducible refine (spec_KeyOk.calls k1 ((rd_T27 l0 x3_1).f0) ((rd_T27 l0 x3_1).f1) ((rd_T27 l0 x3_1).f2) ((rd_T27 l0 x3_1).f3) ((rd_T27 l0 x3_1).f4) false _ A4.out).mono ?_); rintro e w7 ⟨rfl, hb⟩; refine ⟨_, rfl, ?_⟩; have n0_ := aA.mk (aV (by repeat (first | (with_reducible first | exact HB.out | apply aH | apply aE | apply aG) | exact HB.out)) hb); clear HB; have HB := n0_; clear n0_; (try clear hb)))
      go_ret
      exact ⟨by first | rfl | (simp [errW_none, errW_some] <;> rfl) | (simp [*, errW_none, errW_some] <;> rfl), by repeat (first | (with_reducible first | exact HB.out | apply aH | apply aE | apply aG) | exact HB.out)⟩
    ·rw [if_neg c3] at H
     exact absurd H (by simp)
   ·rw [if_neg c2] at H
    have c2b0 : decide (x3_1 < (l0.length : Int)) = false := decide_eq_false c2
    clear c2
    replace H := lF H
    obtain ⟨t121, A80, H⟩ := H
    replace H : (if t121 = true then (some (decide ((l0.length : Int) ≤ 60))) else (some false)) = some r := H
    have A8 := aA.mk A80
    clear A80
    by_cases c9 : t121 = true
    ·subst c9
     have H1 : (some (decide ((l0.length : Int) ≤ 60))) = some r := by rw [if_pos rfl] at H; exact H
     clear H
     have H := H1
     clear H1
     obtain rfl := Option.some.inj H
     go_wp2_with (first | ((with_reducible refine aX (f := 78) rfl ?_); refine bL (some 17) rfl rfl Try.func78 (by kernel_rfl) rfl #[.slice A0 l0.length c0] rfl (by (try simp only [List.map_toArray, List.map_cons, List.map_nil]); first | done | rfl | (simp only [List.length_drop, List.length_take]; rfl)) ?_; (with_reducible refine (spec_l4Rises.calls k1 _ _ l0 true _ ?side1 ?side2 A8.out).mono ?_); (case side1 => repeat (first | exact (Kd.C_below HR0.out HB.out) | (with_reducible refine Kd.C_alloc ?_ _) | (with_reducible refine Kd.C_drewN ?_ _) | (with_reducible refine Kd.C_drew ?_))); (case side2 => exact HC0.out); rintro e w10 ⟨rfl, hb⟩; refine ⟨_, rfl, ?_⟩; have n0_ := aA.mk (aV (by repeat (first | (with_reducible first | exact HB.out | apply aH | apply aE | apply aG) | exact HB.out)) hb); clear HB; have HB := n0_; clear n0_; (try clear hb)))
     go_ret
     exact ⟨by first | rfl | (simp [errW_none, errW_some] <;> rfl) | (simp [*, errW_none, errW_some] <;> rfl), by repeat (first | (with_reducible first | exact HB.out | apply aH | apply aE | apply aG) | exact HB.out)⟩
    ·replace c9 := Bool.eq_false_iff.mpr c9
     subst c9
     have H1 : (some false) = some r := by rw [if_neg (show ¬ (false = true) by decide)] at H; exact H
     clear H
     have H := H1
     clear H1
     obtain rfl := Option.some.inj H
     go_wp2_with (first | ((with_reducible refine aX (f := 78) rfl ?_); refine bL (some 17) rfl rfl Try.func78 (by kernel_rfl) rfl #[.slice A0 l0.length c0] rfl (by (try simp only [List.map_toArray, List.map_cons, List.map_nil]); first | done | rfl | (simp only [List.length_drop, List.length_take]; rfl)) ?_; (with_reducible refine (spec_l4Rises.calls k1 _ _ l0 false _ ?side1 ?side2 A8.out).mono ?_); (case side1 => repeat (first | exact (Kd.C_below HR0.out HB.out) | (with_reducible refine Kd.C_alloc ?_ _) | (with_reducible refine Kd.C_drewN ?_ _) | (with_reducible refine Kd.C_drew ?_))); (case side2 => exact HC0.out); rintro e w11 ⟨rfl, hb⟩; refine ⟨_, rfl, ?_⟩; have n0_ := aA.mk (aV (by repeat (first | (with_reducible first | exact HB.out | apply aH | apply aE | apply aG) | exact HB.out)) hb); clear HB; have HB := n0_; clear n0_; (try clear hb)))
     go_ret
     exact ⟨by first | rfl | (simp [errW_none, errW_some] <;> rfl) | (simp [*, errW_none, errW_some] <;> rfl), by repeat (first | (with_reducible first | exact HB.out | apply aH | apply aE | apply aG) | exact HB.out)⟩
def impl_LessKey.f (a0_0 : Int) (a0_1 : Int) (a0_2 : Int) (a0_3 : Int) (a0_4 : Int) (a1_0 : Int) (a1_1 : Int) (a1_2 : Int) (a1_3 : Int) (a1_4 : Int) : Option (Bool) := if a0_0 < a1_0 then (some true) else (if a0_0 = a1_0 then (some (decide (a0_1 < a1_1))) else (some false))
set_option maxHeartbeats 8000000 in
set_option maxRecDepth 100000 in
theorem impl_LessKey.calls (a0_0 : Int) (a0_1 : Int) (a0_2 : Int) (a0_3 : Int) (a0_4 : Int) (a1_0 : Int) (a1_1 : Int) (a1_2 : Int) (a1_3 : Int) (a1_4 : Int) (r : Bool) (w : World) (h : impl_LessKey.f a0_0 a0_1 a0_2 a0_3 a0_4 a1_0 a1_1 a1_2 a1_3 a1_4 = some r) :
  Calls Try.prog 28 #[.agg #[.int .i64 a0_0, .int .i64 a0_1, .int .i64 a0_2, .int .i64 a0_3, .int .i64 a0_4], .agg #[.int .i64 a1_0, .int .i64 a1_1, .int .i64 a1_2, .int .i64 a1_3, .int .i64 a1_4]] w fun e w' => e = .returned (.bool r) ∧ Below w.heap.size w w' := by
 have hu27 := Try.underlying27
 have HB := aA.mk (Below.refl w.heap.size w)
 have H : (if a0_0 < a1_0 then (some true) else (if a0_0 = a1_0 then (some (decide (a0_1 < a1_1))) else (some false))) = some r := h
 clear h
 by_cases c3 : a0_0 < a1_0
 ·rw [if_pos c3] at H
  have c3b0 : decide (a0_0 < a1_0) = true := decide_eq_true c3
  clear c3
  obtain rfl := Option.some.inj H
  go_enter Try.func28, Try.ntmps28
  go_wp2_with (first | ((with_reducible refine bG (N := 2) rfl ?_); refine bJ ?hg (N := 2) ?hd (cs := #[.int .i64 a0_0, .int .i64 a0_1, .int .i64 a0_2, .int .i64 a0_3, .int .i64 a0_4]) (t := 27) ?hr ?_; (case hd => rfl); (case hg => rfl); (case hr => first | (go_simp; done) | (go_simp; rfl)); intro gb122 hg w4 hbox hb; have n0_ := aA.mk (aV (by repeat (first | (with_reducible first | exact HB.out | apply aH | apply aE | apply aG) | exact HB.out)) hb); have n1_ := aA.mk (hbox); have n2_ := aA.mk ((by rw [hg]; exact (aW (by repeat (first | (with_reducible first | exact HB.out | apply aH | apply aE | apply aG) | exact HB.out))) : w.heap.size ≤ gb122)); have n3_ := aA.mk ((by rw [hg]; exact (aW (by repeat (first | (with_reducible first | exact HB.out | apply aH | apply aE | apply aG) | exact HB.out))) : w.heap.size ≤ gb122)); clear HB; have HB := n0_; have BK122 := n1_; have GW122 := n2_; have GE122 := n3_; clear n0_ n1_ n2_ n3_; clear hb hbox hg) | ((with_reducible refine bG (N := 3) rfl ?_); refine bJ ?hg (N := 3) ?hd (cs := #[.int .i64 a1_0, .int .i64 a1_1, .int .i64 a1_2, .int .i64 a1_3, .int .i64 a1_4]) (t := 27) ?hr ?_; (case hd => rfl); (case hg => rfl); (case hr => first | (go_simp; done) | (go_simp; rfl)); intro gb123 hg w5 hbox hb; have n0_ := aA.mk (bB (g := gb122) (o := .cells #[.int .i64 a0_0, .int .i64 a0_1, .int .i64 a0_2, .int .i64 a0_3, .int .i64 a0_4] 27 (0, 0)) (by (with_reducible repeat (first | refine aK ?_ _ | refine aM ?_ | refine aJ ?_ _)); exact BK122.out) hb); have n1_ := aA.mk (aV (by repeat (first | (with_reducible first | exact HB.out | apply aH | apply aE | apply aG | refine aN ?_ GE122.out) | exact HB.out)) hb); have n2_ := aA.mk (hbox); have n3_ := aA.mk ((by rw [hg]; exact (aW (by repeat (first | (with_reducible first | exact HB.out | apply aH | apply aE | apply aG | refine aN ?_ GE122.out) | exact HB.out))) : w.heap.size ≤ gb123)); have n4_ := aA.mk ((by rw [hg]; exact (aW (by repeat (first | (with_reducible first | exact HB.out | apply aH | apply aE | apply aG | refine aN ?_ GE122.out) | exact HB.out))) : w.heap.size ≤ gb123)); have n5_ := aA.mk ((by rw [hg]; exact Nat.ne_of_lt (blk_lt (g := gb122) (o := .cells #[.int .i64 a0_0, .int .i64 a0_1, .int .i64 a0_2, .int .i64 a0_3, .int .i64 a0_4] 27 (0, 0)) (by (with_reducible repeat (first | refine aK ?_ _ | refine aM ?_ | refine aJ ?_ _)); exact BK122.out)) : gb122 ≠ gb123)); have n6_ := aA.mk ((by rw [hg]; exact Nat.ne_of_gt (blk_lt (g := gb122) (o := .cells #[.int .i64 a0_0, .int .i64 a0_1, .int .i64 a0_2, .int .i64 a0_3, .int .i64 a0_4] 27 (0, 0)) (by (with_reducible repeat (first | refine aK ?_ _ | refine aM ?_ | refine aJ ?_ _)); exact BK122.out)) : gb123 ≠ gb122)); clear BK122; clear HB; have BK122 := n0_; have HB := n1_; have BK123 := n2_; have GW123 := n3_; have GE123 := n4_; have NB122_123 := n5_; have NB123_122 := n6_; clear n0_ n1_ n2_ n3_ n4_ n5_ n6_; clear hb hbox hg; have hnb6 := NB122_123.out; have hnc6 := NB123_122.out; have hcz7_0 : w5.cell? ⟨gb122, 0, none⟩ = some (.int .i64 a0_0) := (aC BK122.out 0).trans rfl; have hcz7_1 : w5.cell? ⟨gb122, 1, none⟩ = some (.int .i64 a0_1) := (aC BK122.out 1).trans rfl; have hcz7_2 : w5.cell? ⟨gb122, 2, none⟩ = some (.int .i64 a0_2) := (aC BK122.out 2).trans rfl; have hcz7_3 : w5.cell? ⟨gb122, 3, none⟩ = some (.int .i64 a0_3) := (aC BK122.out 3).trans rfl; have hcz7_4 : w5.cell? ⟨gb122, 4, none⟩ = some (.int .i64 a0_4) := (aC BK122.out 4).trans rfl; have hfz7_0 := aD BK122.out 0; have hfz7_1 := aD BK122.out 1; have hfz7_2 := aD BK122.out 2; have hfz7_3 := aD BK122.out 3; have hfz7_4 := aD BK122.out 4; have hcz8_0 : w5.cell? ⟨gb123, 0, none⟩ = some (.int .i64 a1_0) := (aC BK123.out 0).trans rfl; have hcz8_1 : w5.cell? ⟨gb123, 1, none⟩ = some (.int .i64 a1_1) := (aC BK123.out 1).trans rfl; have hcz8_2 : w5.cell? ⟨gb123, 2, none⟩ = some (.int .i64 a1_2) := (aC BK123.out 2).trans rfl; have hcz8_3 : w5.cell? ⟨gb123, 3, none⟩ = some (.int .i64 a1_3) := (aC BK123.out 3).trans rfl; have hcz8_4 : w5.cell? ⟨gb123, 4, none⟩ = some (.int .i64 a1_4) := (aC BK123.out 4).trans rfl; have hfz8_0 := aD BK123.out 0; have hfz8_1 := aD BK123.out 1; have hfz8_2 := aD BK123.out 2; have hfz8_3 := aD BK123.out 3; have hfz8_4 := aD BK123.out 4))
  go_ret
  exact ⟨by first | rfl | (simp [errW_none, errW_some] <;> rfl) | (simp [*, errW_none, errW_some] <;> rfl), by repeat (first | (with_reducible first | exact HB.out | apply aH | apply aE | apply aG | refine aN ?_ GE122.out | refine aN ?_ GE123.out) | exact HB.out)⟩
 ·rw [if_neg c3] at H
  have c3b0 : decide (a0_0 < a1_0) = false := decide_eq_false c3
  clear c3
  by_cases c9 : a0_0 = a1_0
  ·rw [if_pos c9] at H
   have c9b0 : (a0_0 == a1_0) = true := beq_iff_eq.mpr c9
   have c9b1 : (a0_0 != a1_0) = false := bne_eq_false_iff_eq.mpr c9
   clear c9
   obtain rfl := Option.some.inj H
   go_enter Try.func28, Try.ntmps28
   go_wp2_with (first | ((with_reducible refine bG (N := 2) rfl ?_); refine bJ ?hg (N := 2) ?hd (cs := #[.int .i64 a0_0, .int .i64 a0_1, .int .i64 a0_2, .int .i64 a0_3, .int .i64 a0_4]) (t := 27) ?hr ?_; (case hd => rfl); (case hg => rfl); (case hr => first | (go_simp; done) | (go_simp; rfl)); intro gb122 hg w10 hbox hb; have n0_ := aA.mk (aV (by repeat (first | (with_reducible first | exact HB.out | apply aH | apply aE | apply aG) | exact HB.out)) hb); have n1_ := aA.mk (hbox); have n2_ := aA.mk ((by rw [hg]; exact (aW (by repeat (first | (with_reducible first | exact HB.out | apply aH | apply aE | apply aG) | exact HB.out))) : w.heap.size ≤ gb122)); have n3_ := aA.mk ((by rw [hg]; exact (aW (by repeat (first | (with_reducible first | exact HB.out | apply aH | apply aE | apply aG) | exact HB.out))) : w.heap.size ≤ gb122)); clear HB; have HB := n0_; have BK122 := n1_; have GW122 := n2_; have GE122 := n3_; clear n0_ n1_ n2_ n3_; clear hb hbox hg) | ((with_reducible refine bG (N := 3) rfl ?_); refine bJ ?hg (N := 3) ?hd (cs := #[.int .i64 a1_0, .int .i64 a1_1, .int .i64 a1_2, .int .i64 a1_3, .int .i64 a1_4]) (t := 27) ?hr ?_; (case hd => rfl); (case hg => rfl); (case hr => first | (go_simp; done) | (go_simp; rfl)); intro gb123 hg w11 hbox hb; have n0_ := aA.mk (bB (g := gb122) (o := .cells #[.int .i64 a0_0, .int .i64 a0_1, .int .i64 a0_2, .int .i64 a0_3, .int .i64 a0_4] 27 (0, 0)) (by (with_reducible repeat (first | refine aK ?_ _ | refine aM ?_ | refine aJ ?_ _)); exact BK122.out) hb); have n1_ := aA.mk (aV (by repeat (first | (with_reducible first | exact HB.out | apply aH | apply aE | apply aG | refine aN ?_ GE122.out) | exact HB.out)) hb); have n2_ := aA.mk (hbox); have n3_ := aA.mk ((by rw [hg]; exact (aW (by repeat (first | (with_reducible first | exact HB.out | apply aH | apply aE | apply aG | refine aN ?_ GE122.out) | exact HB.out))) : w.heap.size ≤ gb123)); have n4_ := aA.mk ((by rw [hg]; exact (aW (by repeat (first | (with_reducible first | exact HB.out | apply aH | apply aE | apply aG | refine aN ?_ GE122.out) | exact HB.out))) : w.heap.size ≤ gb123)); have n5_ := aA.mk ((by rw [hg]; exact Nat.ne_of_lt (blk_lt (g := gb122) (o := .cells #[.int .i64 a0_0, .int .i64 a0_1, .int .i64 a0_2, .int .i64 a0_3, .int .i64 a0_4] 27 (0, 0)) (by (with_reducible repeat (first | refine aK ?_ _ | refine aM ?_ | refine aJ ?_ _)); exact BK122.out)) : gb122 ≠ gb123)); have n6_ := aA.mk ((by rw [hg]; exact Nat.ne_of_gt (blk_lt (g := gb122) (o := .cells #[.int .i64 a0_0, .int .i64 a0_1, .int .i64 a0_2, .int .i64 a0_3, .int .i64 a0_4] 27 (0, 0)) (by (with_reducible repeat (first | refine aK ?_ _ | refine aM ?_ | refine aJ ?_ _)); exact BK122.out)) : gb123 ≠ gb122)); clear BK122; clear HB; have BK122 := n0_; have HB := n1_; have BK123 := n2_; have GW123 := n3_; have GE123 := n4_; have NB122_123 := n5_; have NB123_122 := n6_; clear n0_ n1_ n2_ n3_ n4_ n5_ n6_; clear hb hbox hg; have hnb12 := NB122_123.out; have hnc12 := NB123_122.out; have hcz13_0 : w11.cell? ⟨gb122, 0, none⟩ = some (.int .i64 a0_0) := (aC BK122.out 0).trans rfl; have hcz13_1 : w11.cell? ⟨gb122, 1, none⟩ = some (.int .i64 a0_1) := (aC BK122.out 1).trans rfl; have hcz13_2 : w11.cell? ⟨gb122, 2, none⟩ = some (.int .i64 a0_2) := (aC BK122.out 2).trans rfl; have hcz13_3 : w11.cell? ⟨gb122, 3, none⟩ = some (.int .i64 a0_3) := (aC BK122.out 3).trans rfl; have hcz13_4 : w11.cell? ⟨gb122, 4, none⟩ = some (.int .i64 a0_4) := (aC BK122.out 4).trans rfl; have hfz13_0 := aD BK122.out 0; have hfz13_1 := aD BK122.out 1; have hfz13_2 := aD BK122.out 2; have hfz13_3 := aD BK122.out 3; have hfz13_4 := aD BK122.out 4; have hcz14_0 : w11.cell? ⟨gb123, 0, none⟩ = some (.int .i64 a1_0) := (aC BK123.out 0).trans rfl; have hcz14_1 : w11.cell? ⟨gb123, 1, none⟩ = some (.int .i64 a1_1) := (aC BK123.out 1).trans rfl; have hcz14_2 : w11.cell? ⟨gb123, 2, none⟩ = some (.int .i64 a1_2) := (aC BK123.out 2).trans rfl; have hcz14_3 : w11.cell? ⟨gb123, 3, none⟩ = some (.int .i64 a1_3) := (aC BK123.out 3).trans rfl; have hcz14_4 : w11.cell? ⟨gb123, 4, none⟩ = some (.int .i64 a1_4) := (aC BK123.out 4).trans rfl; have hfz14_0 := aD BK123.out 0; have hfz14_1 := aD BK123.out 1; have hfz14_2 := aD BK123.out 2; have hfz14_3 := aD BK123.out 3; have hfz14_4 := aD BK123.out 4))
   go_ret
   exact ⟨by first | rfl | (simp [errW_none, errW_some] <;> rfl) | (simp [*, errW_none, errW_some] <;> rfl), by repeat (first | (with_reducible first | exact HB.out | apply aH | apply aE | apply aG | refine aN ?_ GE122.out | refine aN ?_ GE123.out) | exact HB.out)⟩
  ·rw [if_neg c9] at H
   have c9b0 : (a0_0 == a1_0) = false := beq_eq_false_iff_ne.mpr c9
   have c9b1 : (a0_0 != a1_0) = true := bne_iff_ne.mpr c9
   obtain rfl := Option.some.inj H
   go_enter Try.func28, Try.ntmps28
   go_wp2_with (first | ((with_reducible refine bG (N := 2) rfl ?_); refine bJ ?hg (N := 2) ?hd (cs := #[.int .i64 a0_0, .int .i64 a0_1, .int .i64 a0_2, .int .i64 a0_3, .int .i64 a0_4]) (t := 27) ?hr ?_; (case hd => rfl); (case hg => rfl); (case hr => first | (go_simp; done) | (go_simp; rfl)); intro gb122 hg w15 hbox hb; have n0_ := aA.mk (aV (by repeat (first | (with_reducible first | exact HB.out | apply aH | apply aE | apply aG) | exact HB.out)) hb); have n1_ := aA.mk (hbox); have n2_ := aA.mk ((by rw [hg]; exact (aW (by repeat (first | (with_reducible first | exact HB.out | apply aH | apply aE | apply aG) | exact HB.out))) : w.heap.size ≤ gb122)); have n3_ := aA.mk ((by rw [hg]; exact (aW (by repeat (first | (with_reducible first | exact HB.out | apply aH | apply aE | apply aG) | exact HB.out))) : w.heap.size ≤ gb122)); clear HB; have HB := n0_; have BK122 := n1_; have GW122 := n2_; have GE122 := n3_; clear n0_ n1_ n2_ n3_; clear hb hbox hg) | ((with_reducible refine bG (N := 3) rfl ?_); refine bJ ?hg (N := 3) ?hd (cs := #[.int .i64 a1_0, .int .i64 a1_1, .int .i64 a1_2, .int .i64 a1_3, .int .i64 a1_4]) (t := 27) ?hr ?_; (case hd => rfl); (case hg => rfl); (case hr => first | (go_simp; done) | (go_simp; rfl)); intro gb123 hg w16 hbox hb; have n0_ := aA.mk (bB (g := gb122) (o := .cells #[.int .i64 a0_0, .int .i64 a0_1, .int .i64 a0_2, .int .i64 a0_3, .int .i64 a0_4] 27 (0, 0)) (by (with_reducible repeat (first | refine aK ?_ _ | refine aM ?_ | refine aJ ?_ _)); exact BK122.out) hb); have n1_ := aA.mk (aV (by repeat (first | (with_reducible first | exact HB.out | apply aH | apply aE | apply aG | refine aN ?_ GE122.out) | exact HB.out)) hb); have n2_ := aA.mk (hbox); have n3_ := aA.mk ((by rw [hg]; exact (aW (by repeat (first | (with_reducible first | exact HB.out | apply aH | apply aE | apply aG | refine aN ?_ GE122.out) | exact HB.out))) : w.heap.size ≤ gb123)); have n4_ := aA.mk ((by rw [hg]; exact (aW (by repeat (first | (with_reducible first | exact HB.out | apply aH | apply aE | apply aG | refine aN ?_ GE122.out) | exact HB.out))) : w.heap.size ≤ gb123)); have n5_ := aA.mk ((by rw [hg]; exact Nat.ne_of_lt (blk_lt (g := gb122) (o := .cells #[.int .i64 a0_0, .int .i64 a0_1, .int .i64 a0_2, .int .i64 a0_3, .int .i64 a0_4] 27 (0, 0)) (by (with_reducible repeat (first | refine aK ?_ _ | refine aM ?_ | refine aJ ?_ _)); exact BK122.out)) : gb122 ≠ gb123)); have n6_ := aA.mk ((by rw [hg]; exact Nat.ne_of_gt (blk_lt (g := gb122) (o := .cells #[.int .i64 a0_0, .int .i64 a0_1, .int .i64 a0_2, .int .i64 a0_3, .int .i64 a0_4] 27 (0, 0)) (by (with_reducible repeat (first | refine aK ?_ _ | refine aM ?_ | refine aJ ?_ _)); exact BK122.out)) : gb123 ≠ gb122)); clear BK122; clear HB; have BK122 := n0_; have HB := n1_; have BK123 := n2_; have GW123 := n3_; have GE123 := n4_; have NB122_123 := n5_; have NB123_122 := n6_; clear n0_ n1_ n2_ n3_ n4_ n5_ n6_; clear hb hbox hg; have hnb17 := NB122_123.out; have hnc17 := NB123_122.out; have hcz18_0 : w16.cell? ⟨gb122, 0, none⟩ = some (.int .i64 a0_0) := (aC BK122.out 0).trans rfl; have hcz18_1 : w16.cell? ⟨gb122, 1, none⟩ = some (.int .i64 a0_1) := (aC BK122.out 1).trans rfl; have hcz18_2 : w16.cell? ⟨gb122, 2, none⟩ = some (.int .i64 a0_2) := (aC BK122.out 2).trans rfl; have hcz18_3 : w16.cell? ⟨gb122, 3, none⟩ = some (.int .i64 a0_3) := (aC BK122.out 3).trans rfl; have hcz18_4 : w16.cell? ⟨gb122, 4, none⟩ = some (.int .i64 a0_4) := (aC BK122.out 4).trans rfl; have hfz18_0 := aD BK122.out 0; have hfz18_1 := aD BK122.out 1; have hfz18_2 := aD BK122.out 2; have hfz18_3 := aD BK122.out 3; have hfz18_4 := aD BK122.out 4; have hcz19_0 : w16.cell? ⟨gb123, 0, none⟩ = some (.int .i64 a1_0) := (aC BK123.out 0).trans rfl; have hcz19_1 : w16.cell? ⟨gb123, 1, none⟩ = some (.int .i64 a1_1) := (aC BK123.out 1).trans rfl; have hcz19_2 : w16.cell? ⟨gb123, 2, none⟩ = some (.int .i64 a1_2) := (aC BK123.out 2).trans rfl; have hcz19_3 : w16.cell? ⟨gb123, 3, none⟩ = some (.int .i64 a1_3) := (aC BK123.out 3).trans rfl; have hcz19_4 : w16.cell? ⟨gb123, 4, none⟩ = some (.int .i64 a1_4) := (aC BK123.out 4).trans rfl; have hfz19_0 := aD BK123.out 0; have hfz19_1 := aD BK123.out 1; have hfz19_2 := aD BK123.out 2; have hfz19_3 := aD BK123.out 3; have hfz19_4 := aD BK123.out 4))
   go_ret
   exact ⟨by first | rfl | (simp [errW_none, errW_some] <;> rfl) | (simp [*, errW_none, errW_some] <;> rfl), by repeat (first | (with_reducible first | exact HB.out | apply aH | apply aE | apply aG | refine aN ?_ GE122.out | refine aN ?_ GE123.out) | exact HB.out)⟩
def impl_within.f (a0 : Int) (a1 : Int) (a2 : Int) : Option (Bool) := if a0 ≥ a1 then (some (decide (a0 ≤ a2))) else (some false)
set_option maxHeartbeats 8000000 in
set_option maxRecDepth 100000 in
theorem impl_within.calls (a0 : Int) (a1 : Int) (a2 : Int) (r : Bool) (w : World) (h : impl_within.f a0 a1 a2 = some r) :
  Calls Try.prog 74 #[.int .i64 a0, .int .i64 a1, .int .i64 a2] w fun e w' => e = .returned (.bool r) ∧ Drawn0 w w' := by
 have H : (if a0 ≥ a1 then (some (decide (a0 ≤ a2))) else (some false)) = some r := h
 clear h
 by_cases c4 : a0 ≥ a1
 ·rw [if_pos c4] at H
  have c4b0 : decide (a1 ≤ a0) = true := decide_eq_true c4
  clear c4
  obtain rfl := Option.some.inj H
  go_enter Try.func74, Try.ntmps74
  go_wp2
  go_ret
  exact ⟨by first | rfl | (simp; done) | (simp [*]; done), by repeat (first | exact Drawn0.refl _ | apply Drawn0.step)⟩
 ·rw [if_neg c4] at H
  have c4b0 : decide (a1 ≤ a0) = false := decide_eq_false c4
  clear c4
  obtain rfl := Option.some.inj H
  go_enter Try.func74, Try.ntmps74
  go_wp2
  go_ret
  exact ⟨by first | rfl | (simp; done) | (simp [*]; done), by repeat (first | exact Drawn0.refl _ | apply Drawn0.step)⟩
end Go.Proofs.Ytkaoiaolbhklnaa.PFnSetsBent

namespace Go.Proofs.Ytkaoiaolbhklnaa.PFnSetsBent
open Go.RowKit Go.Proofs.YtkaoiaolbhklnaaW.PrintWords Go.Proofs.YtkaoiaolbhklnaaW.PrintLast Go.Proofs.YtkaoiaolbhklnaaW.PrintMore
attribute [local go_sem] max2_int min2_int max_two min_two max_three min_three max_four min_four   -- for this text's walks alone
set_option linter.unusedVariables false
set_option linter.unusedSimpArgs false
def impl_KeyOk.j0 : Nat → Bool → Int → Int → Int → Int → Int → Option (Bool)
 | 0, _, _, _, _, _, _ => none
 | k + 1, x18, x125000, x125001, x125002, x125003, x125004 => if x18 = true then (some false) else (if x125002 = 1 then ((impl_within.f x125003 0 23).bind fun t128 => (if t128 = true then ((impl_within.f x125004 0 999).bind fun t129 => (some t129)) else (some false))) else (if x125003 = 0 then (some (x125004 == 0)) else (some false)))
def impl_KeyOk.f (k : Nat) (a0_0 : Int) (a0_1 : Int) (a0_2 : Int) (a0_3 : Int) (a0_4 : Int) : Option (Bool) := (impl_within.f a0_0 0 15).bind fun t125 => (if t125 = true then ((impl_within.f a0_1 1 60).bind fun t126 => (if t126 = true then ((impl_within.f a0_2 0 2).bind fun t127 => (impl_KeyOk.j0 k (!t127) a0_0 a0_1 a0_2 a0_3 a0_4)) else (impl_KeyOk.j0 k true a0_0 a0_1 a0_2 a0_3 a0_4))) else (impl_KeyOk.j0 k true a0_0 a0_1 a0_2 a0_3 a0_4))
set_option maxHeartbeats 8000000 in
set_option maxRecDepth 100000 in
theorem impl_KeyOk.calls (k : Nat) (a0_0 : Int) (a0_1 : Int) (a0_2 : Int) (a0_3 : Int) (a0_4 : Int) (r : Bool) (w : World) (h : impl_KeyOk.f k a0_0 a0_1 a0_2 a0_3 a0_4 = some r) :
  Calls Try.prog 30 #[.agg #[.int .i64 a0_0, .int .i64 a0_1, .int .i64 a0_2, .int .i64 a0_3, .int .i64 a0_4]] w fun e w' => e = .returned (.bool r) ∧ Below w.heap.size w w' := by
 have hu27 := Try.underlying27
 have HB := aA.mk (Below.refl w.heap.size w)
 have H : ((impl_within.f a0_0 0 15).bind fun t125 => (if t125 = true then ((impl_within.f a0_1 1 60).bind fun t126 => (if t126 = true then ((impl_within.f a0_2 0 2).bind fun t127 => (impl_KeyOk.j0 k (!t127) a0_0 a0_1 a0_2 a0_3 a0_4)) else (impl_KeyOk.j0 k true a0_0 a0_1 a0_2 a0_3 a0_4))) else (impl_KeyOk.j0 k true a0_0 a0_1 a0_2 a0_3 a0_4))) = some r := h
 clear h
 have HC2 := aA.mk H
 clear H
 go_enter Try.func30, Try.ntmps30
 go_upto_region 1 with (first | ((with_reducible refine bG (N := 1) rfl ?_); refine bJ ?hg (N := 1) ?hd (cs := #[.int .i64 a0_0, .int .i64 a0_1, .int .i64 a0_2, .int .i64 a0_3, .int .i64 a0_4]) (t := 27) ?hr ?_; (case hd => rfl); (case hg => rfl); (case hr => first | (go_simp; done) | (go_simp; rfl)); intro gb124 hg w3 hbox hb; have n0_ := aA.mk (aV (by repeat (first | (with_reducible first | exact HB.out | apply aH | apply aE | apply aG) | exact HB.out)) hb); have n1_ := aA.mk (hbox); have n2_ := aA.mk ((by rw [hg]; exact (aW (by repeat (first | (with_reducible first | exact HB.out | apply aH | apply aE | apply aG) | exact HB.out))) : w.heap.size ≤ gb124)); have n3_ := aA.mk ((by rw [hg]; exact (aW (by repeat (first | (with_reducible first | exact HB.out | apply aH | apply aE | apply aG) | exact HB.out))) : w.heap.size ≤ gb124)); clear HB; have HB := n0_; have BK124 := n1_; have GW124 := n2_; have GE124 := n3_; clear n0_ n1_ n2_ n3_; clear hb hbox hg))
 (try simp only [Act.put, lA, lB, lC])
 go_cut [18] (fun v18 wc => ∃ (kq : Nat) (x18_1 : Bool), v18 = .bool x18_1 ∧ aA (impl_KeyOk.j0 kq x18_1 a0_0 a0_1 a0_2 a0_3 a0_4 = some r) ∧ aA (kq ≤ k) ∧ aA (wc.heap[gb124]? = some (.cells #[.int .i64 a0_0, .int .i64 a0_1, .int .i64 a0_2, .int .i64 a0_3, .int .i64 a0_4] 27 (0, 0))) ∧ aA (Below w.heap.size w wc))
 case first =>
  have H := HC2.out
  clear HC2
  replace H := lF H
  obtain ⟨t125, A40, H⟩ := H
  replace H : (if t125 = true then ((impl_within.f a0_1 1 60).bind fun t126 => (if t126 = true then ((impl_within.f a0_2 0 2).bind fun t127 => (impl_KeyOk.j0 k (!t127) a0_0 a0_1 a0_2 a0_3 a0_4)) else (impl_KeyOk.j0 k true a0_0 a0_1 a0_2 a0_3 a0_4))) else (impl_KeyOk.j0 k true a0_0 a0_1 a0_2 a0_3 a0_4)) = some r := H
  have A4 := aA.mk A40
  clear A40
  by_cases c5 : t125 = true
  ·subst c5
   have H1 : ((impl_within.f a0_1 1 60).bind fun t126 => (if t126 = true then ((impl_within.f a0_2 0 2).bind fun t127 => (impl_KeyOk.j0 k (!t127) a0_0 a0_1 a0_2 a0_3 a0_4)) else (impl_KeyOk.j0 k true a0_0 a0_1 a0_2 a0_3 a0_4))) = some r := by rw [if_pos rfl] at H; exact H
   clear H
   have H := H1
   clear H1
   replace H := lF H
   obtain ⟨t126, A60, H⟩ := H
   replace H : (if t126 = true then ((impl_within.f a0_2 0 2).bind fun t127 => (impl_KeyOk.j0 k (!t127) a0_0 a0_1 a0_2 a0_3 a0_4)) else (impl_KeyOk.j0 k true a0_0 a0_1 a0_2 a0_3 a0_4)) = some r := H
   have A6 := aA.mk A60
   clear A60
   by_cases c7 : t126 = true
   ·subst c7
    have H1 : ((impl_within.f a0_2 0 2).bind fun t127 => (impl_KeyOk.j0 k (!t127) a0_0 a0_1 a0_2 a0_3 a0_4)) = some r := by rw [if_pos rfl] at H; exact H
    clear H
    have H := H1
    clear H1
    replace H := lF H
    obtain ⟨t127, A80, H⟩ := H
    replace H : (impl_KeyOk.j0 k (!t127) a0_0 a0_1 a0_2 a0_3 a0_4) = some r := H
    have A8 := aA.mk A80
    clear A80
    have H' := aA.mk H
    clear H
    have hcz9_0 : w3.cell? ⟨gb124, 0, none⟩ = some (.int .i64 a0_0) := (aC BK124.out 0).trans rfl
    have hcz9_1 : w3.cell? ⟨gb124, 1, none⟩ = some (.int .i64 a0_1) := (aC BK124.out 1).trans rfl
    have hcz9_2 : w3.cell? ⟨gb124, 2, none⟩ = some (.int .i64 a0_2) := (aC BK124.out 2).trans rfl
    have hcz9_3 : w3.cell? ⟨gb124, 3, none⟩ = some (.int .i64 a0_3) := (aC BK124.out 3).trans rfl
    have hcz9_4 : w3.cell? ⟨gb124, 4, none⟩ = some (.int .i64 a0_4) := (aC BK124.out 4).trans rfl
    have hfz9_0 := aD BK124.out 0
    have hfz9_1 := aD BK124.out 1
    have hfz9_2 := aD BK124.out 2
    have hfz9_3 := aD BK124.out 3
    have hfz9_4 := aD BK124.out 4
    go_wp2_with (first | ((with_reducible refine aX (f := 74) rfl ?_); refine bL (some 5) rfl rfl Try.func74 (by kernel_rfl) rfl #[.int .i64 a0_0, .int .i64 0, .int .i64 15] rfl (by (try simp only [List.map_toArray, List.map_cons, List.map_nil]); first | done | rfl | (simp only [List.length_drop, List.length_take]; rfl)) ?_; (with_reducible refine (impl_within.calls a0_0 0 15 true _ A4.out).mono ?_); rintro e w' ⟨rfl, ⟨nd, rfl⟩⟩; refine ⟨_, rfl, ?_⟩) | (go_at_call 74; (with_reducible refine (impl_within.calls a0_1 1 60 true _ A6.out).mono ?_); rintro e w' ⟨rfl, ⟨nd, rfl⟩⟩) | (go_at_call 74; (with_reducible refine (impl_within.calls a0_2 0 2 t127 _ A8.out).mono ?_); rintro e w' ⟨rfl, ⟨nd, rfl⟩⟩))
    go_meet
    case rel => exact ⟨_, (!t127), (by first | rfl | (simp; done) | (simp [*]; done)), H', ⟨by first | omega | exact Nat.le_refl _⟩, ⟨by (with_reducible repeat (first | refine aK ?_ _ | refine aM ?_ | refine aJ ?_ _)); exact BK124.out⟩, ⟨by repeat (first | (with_reducible first | exact HB.out | apply aH | apply aE | apply aG | refine aN ?_ GE124.out) | exact HB.out)⟩⟩
   ·replace c7 := Bool.eq_false_iff.mpr c7
    subst c7
    have H1 : (impl_KeyOk.j0 k true a0_0 a0_1 a0_2 a0_3 a0_4) = some r := by rw [if_neg (show ¬ (false = true) by decide)] at H; exact H
    clear H
    have H := H1
    clear H1
    have H' := aA.mk H
    clear H
    have hcz10_0 : w3.cell? ⟨gb124, 0, none⟩ = some (.int .i64 a0_0) := (aC BK124.out 0).trans rfl
    have hcz10_1 : w3.cell? ⟨gb124, 1, none⟩ = some (.int .i64 a0_1) := (aC BK124.out 1).trans rfl
    have hcz10_2 : w3.cell? ⟨gb124, 2, none⟩ = some (.int .i64 a0_2) := (aC BK124.out 2).trans rfl
    have hcz10_3 : w3.cell? ⟨gb124, 3, none⟩ = some (.int .i64 a0_3) := (aC BK124.out 3).trans rfl
    have hcz10_4 : w3.cell? ⟨gb124, 4, none⟩ = some (.int .i64 a0_4) := (aC BK124.out 4).trans rfl
    have hfz10_0 := aD BK124.out 0
    have hfz10_1 := aD BK124.out 1
    have hfz10_2 := aD BK124.out 2
    have hfz10_3 := aD BK124.out 3
    have hfz10_4 := aD BK124.out 4
    go_wp2_with (first | ((with_reducible refine aX (f := 74) rfl ?_); refine bL (some 5) rfl rfl Try.func74 (by kernel_rfl) rfl #[.int .i64 a0_0, .int .i64 0, .int .i64 15] rfl (by (try simp only [List.map_toArray, List.map_cons, List.map_nil]); first | done | rfl | (simp only [List.length_drop, List.length_take]; rfl)) ?_; (with_reducible refine (impl_within.calls a0_0 0 15 true _ A4.out).mono ?_); rintro e w' ⟨rfl, ⟨nd, rfl⟩⟩; refine ⟨_, rfl, ?_⟩) | (go_at_call 74; (with_reducible refine (impl_within.calls a0_1 1 60 false _ A6.out).mono ?_); rintro e w' ⟨rfl, ⟨nd, rfl⟩⟩))
    go_meet
    case rel => exact ⟨_, (true), (by first | rfl | (simp; done) | (simp [*]; done)), H', ⟨by first | omega | exact Nat.le_refl _⟩, ⟨by (with_reducible repeat (first | refine aK ?_ _ | refine aM ?_ | refine aJ ?_ _)); exact BK124.out⟩, ⟨by repeat (first | (with_reducible first | exact HB.out | apply aH | apply aE | apply aG | refine aN ?_ GE124.out) | exact HB.out)⟩⟩
  ·replace c5 := Bool.eq_false_iff.mpr c5
   subst c5
   have H1 : (impl_KeyOk.j0 k true a0_0 a0_1 a0_2 a0_3 a0_4) = some r := by rw [if_neg (show ¬ (false = true) by decide)] at H; exact H
   clear H
   have H := H1
   clear H1
   have H' := aA.mk H
   clear H
   have hcz11_0 : w3.cell? ⟨gb124, 0, none⟩ = some (.int .i64 a0_0) := (aC BK124.out 0).trans rfl
   have hcz11_1 : w3.cell? ⟨gb124, 1, none⟩ = some (.int .i64 a0_1) := (aC BK124.out 1).trans rfl
   have hcz11_2 : w3.cell? ⟨gb124, 2, none⟩ = some (.int .i64 a0_2) := (aC BK124.out 2).trans rfl
   have hcz11_3 : w3.cell? ⟨gb124, 3, none⟩ = some (.int .i64 a0_3) := (aC BK124.out 3).trans rfl
   have hcz11_4 : w3.cell? ⟨gb124, 4, none⟩ = some (.int .i64 a0_4) := (aC BK124.out 4).trans rfl
   have hfz11_0 := aD BK124.out 0
   have hfz11_1 := aD BK124.out 1
   have hfz11_2 := aD BK124.out 2
   have hfz11_3 := aD BK124.out 3
   have hfz11_4 := aD BK124.out 4
   go_wp2_with (first | ((with_reducible refine aX (f := 74) rfl ?_); refine bL (some 5) rfl rfl Try.func74 (by kernel_rfl) rfl #[.int .i64 a0_0, .int .i64 0, .int .i64 15] rfl (by (try simp only [List.map_toArray, List.map_cons, List.map_nil]); first | done | rfl | (simp only [List.length_drop, List.length_take]; rfl)) ?_; (with_reducible refine (impl_within.calls a0_0 0 15 false _ A4.out).mono ?_); rintro e w' ⟨rfl, ⟨nd, rfl⟩⟩; refine ⟨_, rfl, ?_⟩))
   go_meet
   case rel => exact ⟨_, (true), (by first | rfl | (simp; done) | (simp [*]; done)), H', ⟨by first | omega | exact Nat.le_refl _⟩, ⟨by (with_reducible repeat (first | refine aK ?_ _ | refine aM ?_ | refine aJ ?_ _)); exact BK124.out⟩, ⟨by repeat (first | (with_reducible first | exact HB.out | apply aH | apply aE | apply aG | refine aN ?_ GE124.out) | exact HB.out)⟩⟩
 case rest =>
  clear HC2
  try clear p2
  try clear c3
  try clear c5
  try clear c7
  try clear hcz10_0
  try clear hcz10_1
  try clear hcz10_2
  try clear hcz10_3
  try clear hcz10_4
  try clear hcz11_0
  try clear hcz11_1
  try clear hcz11_2
  try clear hcz11_3
  try clear hcz11_4
  try clear hcz9_0
  try clear hcz9_1
  try clear hcz9_2
  try clear hcz9_3
  try clear hcz9_4
  try clear hfz10_0
  try clear hfz10_1
  try clear hfz10_2
  try clear hfz10_3
  try clear hfz10_4
  try clear hfz11_0
  try clear hfz11_1
  try clear hfz11_2
  try clear hfz11_3
  try clear hfz11_4
  try clear hfz9_0
  try clear hfz9_1
  try clear hfz9_2
  try clear hfz9_3
  try clear hfz9_4
  obtain ⟨kq, x18_1, rfl, HA, HJ1, BK124, HB⟩ := hcut
  cases kq with
  | zero => exact absurd HA.out (by simp [impl_KeyOk.j0])
  | succ kj1 =>
   have H := HA.out
   clear HA
   simp only [impl_KeyOk.j0] at H
   by_cases c12 : x18_1 = true
   ·subst c12
    have H1 : (some false) = some r := by rw [if_pos rfl] at H; exact H
    clear H
    have H := H1
    clear H1
    obtain rfl := Option.some.inj H
    go_wp2
    go_ret
    exact ⟨by first | rfl | (simp [errW_none, errW_some] <;> rfl) | (simp [*, errW_none, errW_some] <;> rfl), by repeat (first | (with_reducible first | exact HB.out | apply aH | apply aE | apply aG | refine aN ?_ GE124.out) | exact HB.out)⟩
   ·replace c12 := Bool.eq_false_iff.mpr c12
    subst c12
    have H1 : (if a0_2 = 1 then ((impl_within.f a0_3 0 23).bind fun t128 => (if t128 = true then ((impl_within.f a0_4 0 999).bind fun t129 => (some t129)) else (some false))) else (if a0_3 = 0 then (some (a0_4 == 0)) else (some false))) = some r := by rw [if_neg (show ¬ (false = true) by decide)] at H; exact H
    clear H
    have H := H1
    clear H1
    by_cases c13 : a0_2 = 1
    ·rw [if_pos c13] at H
     have c13b0 : (a0_2 == 1) = true := beq_iff_eq.mpr c13
     have c13b1 : (a0_2 != 1) = false := bne_eq_false_iff_eq.mpr c13
     clear c13
     replace H := lF H
     obtain ⟨t128, A140, H⟩ := H
     replace H : (if t128 = true then ((impl_within.f a0_4 0 999).bind fun t129 => (some t129)) else (some false)) = some r := H
     have A14 := aA.mk A140
     clear A140
     by_cases c15 : t128 = true
     ·subst c15
      have H1 : ((impl_within.f a0_4 0 999).bind fun t129 => (some t129)) = some r := by rw [if_pos rfl] at H; exact H
      clear H
      have H := H1
      clear H1
      replace H := lF H
      obtain ⟨t129, A160, H⟩ := H
      replace H : (some t129) = some r := H
      have A16 := aA.mk A160
      clear A160
      obtain rfl := Option.some.inj H
      have hcz17_0 : wc.cell? ⟨gb124, 0, none⟩ = some (.int .i64 a0_0) := (aC BK124.out 0).trans rfl
      have hcz17_1 : wc.cell? ⟨gb124, 1, none⟩ = some (.int .i64 a0_1) := (aC BK124.out 1).trans rfl
      have hcz17_2 : wc.cell? ⟨gb124, 2, none⟩ = some (.int .i64 a0_2) := (aC BK124.out 2).trans rfl
      have hcz17_3 : wc.cell? ⟨gb124, 3, none⟩ = some (.int .i64 a0_3) := (aC BK124.out 3).trans rfl
      have hcz17_4 : wc.cell? ⟨gb124, 4, none⟩ = some (.int .i64 a0_4) := (aC BK124.out 4).trans rfl
      have hfz17_0 := aD BK124.out 0
      have hfz17_1 := aD BK124.out 1
      have hfz17_2 := aD BK124.out 2
      have hfz17_3 := aD BK124.out 3
      have hfz17_4 := aD BK124.out 4
      go_wp2_with (first | ((with_reducible refine aX (f := 74) rfl ?_); refine bL (some 32) rfl rfl Try.func74 (by kernel_rfl) rfl #[.int .i64 a0_3, .int .i64 0, .int .i64 23] rfl (by (try simp only [List.map_toArray, List.map_cons, List.map_nil]); first | done | rfl | (simp only [List.length_drop, List.length_take]; rfl)) ?_; (with_reducible refine (impl_within.calls a0_3 0 23 true _ A14.out).mono ?_); rintro e w' ⟨rfl, ⟨nd, rfl⟩⟩; refine ⟨_, rfl, ?_⟩) | (go_at_call 74; (with_reducible refine (impl_within.calls a0_4 0 999 t129 _ A16.out).mono ?_); rintro e w' ⟨rfl, ⟨nd, rfl⟩⟩))
      go_ret
      exact ⟨by first | rfl | (simp [errW_none, errW_some] <;> rfl) | (simp [*, errW_none, errW_some] <;> rfl), by repeat (first | (with_reducible first | exact HB.out | apply aH | apply aE | apply aG | refine aN ?_ GE124.out) | exact HB.out)⟩
     ·replace c15 := Bool.eq_false_iff.mpr c15
      subst c15
      have H1 : (some false) = some r := by rw [if_neg (show ¬ (false = true) by decide)] at H; exact H
      clear H
      have H := H1
      clear H1
      obtain rfl := Option.some.inj H
      have hcz18_0 : wc.cell? ⟨gb124, 0, none⟩ = some (.int .i64 a0_0) := (aC BK124.out 0).trans rfl
      have hcz18_1 : wc.cell? ⟨gb124, 1, none⟩ = some (.int .i64 a0_1) := (aC BK124.out 1).trans rfl
      have hcz18_2 : wc.cell? ⟨gb124, 2, none⟩ = some (.int .i64 a0_2) := (aC BK124.out 2).trans rfl
      have hcz18_3 : wc.cell? ⟨gb124, 3, none⟩ = some (.int .i64 a0_3) := (aC BK124.out 3).trans rfl
      have hcz18_4 : wc.cell? ⟨gb124, 4, none⟩ = some (.int .i64 a0_4) := (aC BK124.out 4).trans rfl
      have hfz18_0 := aD BK124.out 0
      have hfz18_1 := aD BK124.out 1
      have hfz18_2 := aD BK124.out 2
      have hfz18_3 := aD BK124.out 3
      have hfz18_4 := aD BK124.out 4
      go_wp2_with (first | ((with_reducible refine aX (f := 74) rfl ?_); refine bL (some 32) rfl rfl Try.func74 (by kernel_rfl) rfl #[.int .i64 a0_3, .int .i64 0, .int .i64 23] rfl (by (try simp only [List.map_toArray, List.map_cons, List.map_nil]); first | done | rfl | (simp only [List.length_drop, List.length_take]; rfl)) ?_; (with_reducible refine (impl_within.calls a0_3 0 23 false _ A14.out).mono ?_); rintro e w' ⟨rfl, ⟨nd, rfl⟩⟩; refine ⟨_, rfl, ?_⟩))
      go_ret
      exact ⟨by first | rfl | (simp [errW_none, errW_some] <;> rfl) | (simp [*, errW_none, errW_some] <;> rfl), by repeat (first | (with_reducible first | exact HB.out | apply aH | apply aE | apply aG | refine aN ?_ GE124.out) | exact HB.out)⟩
    ·rw [if_neg c13] at H
     have c13b0 : (a0_2 == 1) = false := beq_eq_false_iff_ne.mpr c13
     have c13b1 : (a0_2 != 1) = true := bne_iff_ne.mpr c13
     by_cases c19 : a0_3 = 0
     ·rw [if_pos c19] at H
      have c19b0 : (a0_3 == 0) = true := beq_iff_eq.mpr c19
      have c19b1 : (a0_3 != 0) = false := bne_eq_false_iff_eq.mpr c19
      clear c19
      obtain rfl := Option.some.inj H
      have hcz20_0 : wc.cell? ⟨gb124, 0, none⟩ = some (.int .i64 a0_0) := (aC BK124.out 0).trans rfl
      have hcz20_1 : wc.cell? ⟨gb124, 1, none⟩ = some (.int .i64 a0_1) := (aC BK124.out 1).trans rfl
      have hcz20_2 : wc.cell? ⟨gb124, 2, none⟩ = some (.int .i64 a0_2) := (aC BK124.out 2).trans rfl
      have hcz20_3 : wc.cell? ⟨gb124, 3, none⟩ = some (.int .i64 a0_3) := (aC BK124.out 3).trans rfl
      have hcz20_4 : wc.cell? ⟨gb124, 4, none⟩ = some (.int .i64 a0_4) := (aC BK124.out 4).trans rfl
      have hfz20_0 := aD BK124.out 0
      have hfz20_1 := aD BK124.out 1
      have hfz20_2 := aD BK124.out 2
      have hfz20_3 := aD BK124.out 3
      have hfz20_4 := aD BK124.out 4
      go_wp2
      go_ret
      exact ⟨by first | rfl | (simp [errW_none, errW_some] <;> rfl) | (simp [*, errW_none, errW_some] <;> rfl), by repeat (first | (with_reducible first | exact HB.out | apply aH | apply aE | apply aG | refine aN ?_ GE124.out) | exact HB.out)⟩
     ·rw [if_neg c19] at H
      have c19b0 : (a0_3 == 0) = false := beq_eq_false_iff_ne.mpr c19
      have c19b1 : (a0_3 != 0) = true := bne_iff_ne.mpr c19
      obtain rfl := Option.some.inj H
      have hcz21_0 : wc.cell? ⟨gb124, 0, none⟩ = some (.int .i64 a0_0) := (aC BK124.out 0).trans rfl
      have hcz21_1 : wc.cell? ⟨gb124, 1, none⟩ = some (.int .i64 a0_1) := (aC BK124.out 1).trans rfl
      have hcz21_2 : wc.cell? ⟨gb124, 2, none⟩ = some (.int .i64 a0_2) := (aC BK124.out 2).trans rfl
      have hcz21_3 : wc.cell? ⟨gb124, 3, none⟩ = some (.int .i64 a0_3) := (aC BK124.out 3).trans rfl
      have hcz21_4 : wc.cell? ⟨gb124, 4, none⟩ = some (.int .i64 a0_4) := (aC BK124.out 4).trans rfl
      have hfz21_0 := aD BK124.out 0
      have hfz21_1 := aD BK124.out 1
      have hfz21_2 := aD BK124.out 2
      have hfz21_3 := aD BK124.out 3
      have hfz21_4 := aD BK124.out 4
      go_wp2
      go_ret
      exact ⟨by first | rfl | (simp [errW_none, errW_some] <;> rfl) | (simp [*, errW_none, errW_some] <;> rfl), by repeat (first | (with_reducible first | exact HB.out | apply aH | apply aE | apply aG | refine aN ?_ GE124.out) | exact HB.out)⟩
end Go.Proofs.Ytkaoiaolbhklnaa.PFnSetsBent

namespace Go.Proofs.Ytkaoiaolbhklnaa.PFnSetsBent
open Go.RowKit Go.Proofs.YtkaoiaolbhklnaaW.PrintWords Go.Proofs.YtkaoiaolbhklnaaW.PrintLast Go.Proofs.YtkaoiaolbhklnaaW.PrintMore
attribute [local go_sem] max2_int min2_int max_two min_two max_three min_three max_four min_four   -- for this text's walks alone
set_option linter.unusedVariables false
set_option linter.unusedSimpArgs false
def impl_SetOk.l0 : Nat → List (S27) → List (S27) → Int → Int → Option (Bool)
 | 0, _, _, _, _ => none
 | k + 1, x0, x5, x6, x7 => if x7 < x6 then (if 0 ≤ x7 then (if x7 < (x5.length : Int) then ((impl_KeyOk.f k ((rd_T27 x5 x7).f0) ((rd_T27 x5 x7).f1) ((rd_T27 x5 x7).f2) ((rd_T27 x5 x7).f3) ((rd_T27 x5 x7).f4)).bind fun t132 => (if t132 = true then (if x7 > 0 then (if 0 ≤ (wrap64 (x7 - 1)) then (if (wrap64 (x7 - 1)) < (x0.length : Int) then ((impl_LessKey.f ((rd_T27 x0 (wrap64 (x7 - 1))).f0) ((rd_T27 x0 (wrap64 (x7 - 1))).f1) ((rd_T27 x0 (wrap64 (x7 - 1))).f2) ((rd_T27 x0 (wrap64 (x7 - 1))).f3) ((rd_T27 x0 (wrap64 (x7 - 1))).f4) ((rd_T27 x5 x7).f0) ((rd_T27 x5 x7).f1) ((rd_T27 x5 x7).f2) ((rd_T27 x5 x7).f3) ((rd_T27 x5 x7).f4)).bind fun t134 => (if t134 = true then (impl_SetOk.l0 k x0 x5 x6 (wrap64 (x7 + 1))) else (some false))) else (none)) else (none)) else (impl_SetOk.l0 k x0 x5 x6 (wrap64 (x7 + 1)))) else (some false))) else (none)) else (none)) else (some (decide ((x0.length : Int) ≤ 60)))
def impl_SetOk.f (k : Nat) (l0 : List (S27)) : Option (Bool) := impl_SetOk.l0 k l0 l0 (l0.length : Int) 0
def impl_SetOk.T4 : Bool × List (List Nat × List Nat) := (true, [([], []), ([0], [0]), ([1], [1]), ([2, 1], [2]), ([3], [3]), ([4, 3], [3, 4]), ([5, 3, 3], [3, 5]), ([6], [6]), ([6], [6]), ([8, 6], [6, 8]), ([7, 9, 6], [6, 7, 9]), ([10, 6], [6, 10]), ([6], [6]), ([11, 12, 6, 6], [6, 11, 12]), ([13, 6], [6, 13]), ([6, 14, 3], [3, 6, 14]), ([3, 15], [3, 15])])
def impl_SetOk.B4 : List Nat := [0, 1, 3, 7, 15, 31, 63, 127, 127, 383, 1023, 2047, 127, 8191, 16383, 32767, 65535]
theorem impl_SetOk.tab4 : rtab .any (opsOf Try.f47 4) = impl_SetOk.T4 := by kernel_rfl
theorem impl_SetOk.bits4 : waitsOk impl_SetOk.T4.2 impl_SetOk.B4 = true := by kernel_rfl
set_option maxHeartbeats 8000000 in
set_option maxRecDepth 100000 in
theorem impl_SetOk.calls (k : Nat) (A0 : Option Addr) (c0 : Nat) (l0 : List (S27)) (r : Bool) (w : World) (hr0 : Kd.C k27 w A0 l0.length l0) (hc0 : l0.length ≤ c0) (h : impl_SetOk.f k l0 = some r) :
  Calls Try.prog 47 #[.slice A0 l0.length c0] w fun e w' => e = .returned (.bool r) ∧ Below w.heap.size w w' := by
 have hu27 := Try.underlying27
 have HR0 := aA.mk hr0
 have HC0 := aA.mk hc0
 clear hr0 hc0
 have HB := aA.mk (Below.refl w.heap.size w)
 have H : (impl_SetOk.l0 k l0 l0 (l0.length : Int) 0) = some r := h
 clear h
 have H' := aA.mk H
 clear H
 go_enter Try.func47, Try.ntmps47
 go_wp2
 go_loopg [7] k (fun kq v7 w' => ∃ (x7_1 : Int), v7 = .int .i64 x7_1 ∧ aA (impl_SetOk.l0 kq l0 l0 (l0.length : Int) x7_1 = some r) ∧ aA (kq ≤ k) ∧ aA (Below w.heap.size w w'))
 case atStart => exact ⟨(0), (by first | rfl | (simp; done) | (simp [*]; done)), H', ⟨Nat.le_refl _⟩, ⟨by repeat (first | (with_reducible first | exact HB.out | apply aH | apply aE | apply aG) | exact HB.out)⟩⟩
 case round =>
  clear H'
  obtain ⟨x7_1, rfl, HA, HK1, HB⟩ := hrel
  cases gk with
  | zero => exact absurd HA.out (by simp [impl_SetOk.l0])
  | succ k1 =>
   have H := HA.out
   clear HA
   simp only [impl_SetOk.l0] at H
   by_cases c2 : x7_1 < (l0.length : Int)
   ·rw [if_pos c2] at H
    have c2b0 : decide (x7_1 < (l0.length : Int)) = true := decide_eq_true c2
    clear c2
    by_cases c3 : 0 ≤ x7_1
    ·rw [if_pos c3] at H
     have c3b0 : decide (0 ≤ x7_1) = true := decide_eq_true c3
     clear c3
     by_cases c4 : x7_1 < (l0.length : Int)
     ·rw [if_pos c4] at H
      have c4b0 : decide (x7_1 < (l0.length : Int)) = true := decide_eq_true c4
      clear c4
      replace H := lF H
      obtain ⟨t132, A50, H⟩ := H
      replace H : (if t132 = true then (if x7_1 > 0 then (if 0 ≤ (wrap64 (x7_1 - 1)) then (if (wrap64 (x7_1 - 1)) < (l0.length : Int) then ((impl_LessKey.f ((rd_T27 l0 (wrap64 (x7_1 - 1))).f0) ((rd_T27 l0 (wrap64 (x7_1 - 1))).f1) ((rd_T27 l0 (wrap64 (x7_1 - 1))).f2) ((rd_T27 l0 (wrap64 (x7_1 - 1))).f3) ((rd_T27 l0 (wrap64 (x7_1 - 1))).f4) ((rd_T27 l0 x7_1).f0) ((rd_T27 l0 x7_1).f1) ((rd_T27 l0 x7_1).f2) ((rd_T27 l0 x7_1).f3) ((rd_T27 l0 x7_1).f4)).bind fun t134 => (if t134 = true then (impl_SetOk.l0 k1 l0 l0 (l0.length : Int) (wrap64 (x7_1 + 1))) else (some false))) else (none)) else (none)) else (impl_SetOk.l0 k1 l0 l0 (l0.length : Int) (wrap64 (x7_1 + 1)))) else (some false)) = some r := H
      have A5 := aA.mk A50
      clear A50
      by_cases c6 : t132 = true
      ·subst c6
       have H1 : (if x7_1 > 0 then (if 0 ≤ (wrap64 (x7_1 - 1)) then (if (wrap64 (x7_1 - 1)) < (l0.length : Int) then ((impl_LessKey.f ((rd_T27 l0 (wrap64 (x7_1 - 1))).f0) ((rd_T27 l0 (wrap64 (x7_1 - 1))).f1) ((rd_T27 l0 (wrap64 (x7_1 - 1))).f2) ((rd_T27 l0 (wrap64 (x7_1 - 1))).f3) ((rd_T27 l0 (wrap64 (x7_1 - 1))).f4) ((rd_T27 l0 x7_1).f0) ((rd_T27 l0 x7_1).f1) ((rd_T27 l0 x7_1).f2) ((rd_T27 l0 x7_1).f3) ((rd_T27 l0 x7_1).f4)).bind fun t134 => (if t134 = true then (impl_SetOk.l0 k1 l0 l0 (l0.length : Int) (wrap64 (x7_1 + 1))) else (some false))) else (none)) else (none)) else (impl_SetOk.l0 k1 l0 l0 (l0.length : Int) (wrap64 (x7_1 + 1)))) = some r := by rw [if_pos rfl] at H; exact H
       clear H
       have H := H1
       clear H1
       by_cases c7 : x7_1 > 0
       ·rw [if_pos c7] at H
        have c7b0 : decide (0 < x7_1) = true := decide_eq_true c7
        clear c7
        obtain ⟨ji8, hji8⟩ : ∃ j_ : Int, (wrap64 (x7_1 - 1)) = j_ := ⟨_, rfl⟩
        replace H : (if 0 ≤ (ji8) then (if (ji8) < (l0.length : Int) then ((impl_LessKey.f ((rd_T27 l0 (ji8)).f0) ((rd_T27 l0 (ji8)).f1) ((rd_T27 l0 (ji8)).f2) ((rd_T27 l0 (ji8)).f3) ((rd_T27 l0 (ji8)).f4) ((rd_T27 l0 x7_1).f0) ((rd_T27 l0 x7_1).f1) ((rd_T27 l0 x7_1).f2) ((rd_T27 l0 x7_1).f3) ((rd_T27 l0 x7_1).f4)).bind fun t134 => (if t134 = true then (impl_SetOk.l0 k1 l0 l0 (l0.length : Int) (wrap64 (x7_1 + 1))) else (some false))) else (none)) else (none)) = some r := by first | (rw [hji8] at H; exact H) | (simp only [hji8] at H ⊢; exact H)
        (try rw [hji8] at A5)
        have hji8w : (IntKind.i64.wrap (x7_1 - 1)) = ji8 := (aZ _).trans hji8
        by_cases c9 : 0 ≤ (ji8)
        ·rw [if_pos c9] at H
         have c9b0 : decide (0 ≤ (ji8)) = true := decide_eq_true c9
         clear c9
         by_cases c10 : (ji8) < (l0.length : Int)
         ·rw [if_pos c10] at H
          have c10b0 : decide ((ji8) < (l0.length : Int)) = true := decide_eq_true c10
          clear c10
          replace H := lF H
          obtain ⟨t134, A110, H⟩ := H
          replace H : (if t134 = true then (impl_SetOk.l0 k1 l0 l0 (l0.length : Int) (wrap64 (x7_1 + 1))) else (some false)) = some r := H
          have A11 := aA.mk A110
          clear A110
          by_cases c12 : t134 = true
          ·subst c12
           have H1 : (impl_SetOk.l0 k1 l0 l0 (l0.length : Int) (wrap64 (x7_1 + 1))) = some r := by rw [if_pos rfl] at H; exact H
           clear H
           have H := H1
           clear H1
           have H' := aA.mk H
           clear H
           have p130 : 0 ≤ (x7_1 : Int) := lE (by first | (with_reducible assumption) | assumption)
           have q130 : x7_1 < (l0.length : Int) := lE (by first | (with_reducible assumption) | assumption)
           obtain ⟨ad130, e130, hx130_0, hx130_1, hx130_2, hx130_3, hx130_4⟩ := at_T27 HR0.out x7_1 p130 q130
           cases e130
           replace hx130_0 := (HB.out.cell (lD w _ hx130_0)).trans hx130_0
           replace hx130_1 := (HB.out.cell (lD w _ hx130_1)).trans hx130_1
           replace hx130_2 := (HB.out.cell (lD w _ hx130_2)).trans hx130_2
           replace hx130_3 := (HB.out.cell (lD w _ hx130_3)).trans hx130_3
           replace hx130_4 := (HB.out.cell (lD w _ hx130_4)).trans hx130_4
           replace p130 := eq_true p130
           replace q130 := eq_true q130
           try go_wp2_with (first | ((with_reducible refine bG (N := 4) rfl ?_); refine bJ ?hg (N := 4) ?hd (cs := #[.int .i64 0, .int .i64 0, .int .i64 0, .int .i64 0, .int .i64 0]) (t := 27) ?hr ?_; (case hd => rfl); (case hg => rfl); (case hr => first | (go_simp; done) | (go_simp; rfl)); intro gb131 hg w13 hbox hb; have n0_ := aA.mk (aV (by repeat (first | (with_reducible first | exact HB.out | apply aH | apply aE | apply aG) | exact HB.out)) hb); have n1_ := aA.mk (hbox); have n2_ := aA.mk ((by rw [hg]; exact (aW (by repeat (first | (with_reducible first | exact HB.out | apply aH | apply aE | apply aG) | exact HB.out))) : w.heap.size ≤ gb131)); have n3_ := aA.mk ((by rw [hg]; exact (aW (by repeat (first | (with_reducible first | exact HB.out | apply aH | apply aE | apply aG) | exact HB.out))) : w.heap.size ≤ gb131)); clear HB; have HB := n0_; have BK131 := n1_; have GW131 := n2_; have GE131 := n3_; clear n0_ n1_ n2_ n3_; clear hb hbox hg; have hcz14_0 : w13.cell? ⟨gb131, 0, none⟩ = some (.int .i64 0) := (aC BK131.out 0).trans rfl; have hcz14_1 : w13.cell? ⟨gb131, 1, none⟩ = some (.int .i64 0) := (aC BK131.out 1).trans rfl; have hcz14_2 : w13.cell? ⟨gb131, 2, none⟩ = some (.int .i64 0) := (aC BK131.out 2).trans rfl; have hcz14_3 : w13.cell? ⟨gb131, 3, none⟩ = some (.int .i64 0) := (aC BK131.out 3).trans rfl; have hcz14_4 : w13.cell? ⟨gb131, 4, none⟩ = some (.int .i64 0) := (aC BK131.out 4).trans rfl; have hfz14_0 := aD BK131.out 0; have hfz14_1 := aD BK131.out 1; have hfz14_2 := aD BK131.out 2; have hfz14_3 := aD BK131.out 3; have hfz14_4 := aD BK131.out 4))
           have n0_ : aA ((((((w13.setCell ⟨gb131, 0, none⟩ (.int .i64 ((rd_T27 l0 x7_1).f0))).setCell ⟨gb131, 1, none⟩ (.int .i64 ((rd_T27 l0 x7_1).f1))).setCell ⟨gb131, 2, none⟩ (.int .i64 ((rd_T27 l0 x7_1).f2))).setCell ⟨gb131, 3, none⟩ (.int .i64 ((rd_T27 l0 x7_1).f3))).setCell ⟨gb131, 4, none⟩ (.int .i64 ((rd_T27 l0 x7_1).f4))).heap[gb131]? = some (.cells #[.int .i64 ((rd_T27 l0 x7_1).f0), .int .i64 ((rd_T27 l0 x7_1).f1), .int .i64 ((rd_T27 l0 x7_1).f2), .int .i64 ((rd_T27 l0 x7_1).f3), .int .i64 ((rd_T27 l0 x7_1).f4)] 27 (0, 0))) := ⟨by (with_reducible repeat (first | refine aK ?_ _ | refine aM ?_ | refine aJ ?_ _)); refine aU (cs := #[.int .i64 ((rd_T27 l0 x7_1).f0), .int .i64 ((rd_T27 l0 x7_1).f1), .int .i64 ((rd_T27 l0 x7_1).f2), .int .i64 ((rd_T27 l0 x7_1).f3), .int .i64 0]) ?_ 4 _ rfl; (with_reducible repeat (first | refine aK ?_ _ | refine aM ?_ | refine aJ ?_ _)); refine aU (cs := #[.int .i64 ((rd_T27 l0 x7_1).f0), .int .i64 ((rd_T27 l0 x7_1).f1), .int .i64 ((rd_T27 l0 x7_1).f2), .int .i64 0, .int .i64 0]) ?_ 3 _ rfl; (with_reducible repeat (first | refine aK ?_ _ | refine aM ?_ | refine aJ ?_ _)); refine aU (cs := #[.int .i64 ((rd_T27 l0 x7_1).f0), .int .i64 ((rd_T27 l0 x7_1).f1), .int .i64 0, .int .i64 0, .int .i64 0]) ?_ 2 _ rfl; (with_reducible repeat (first | refine aK ?_ _ | refine aM ?_ | refine aJ ?_ _)); refine aU (cs := #[.int .i64 ((rd_T27 l0 x7_1).f0), .int .i64 0, .int .i64 0, .int .i64 0, .int .i64 0]) ?_ 1 _ rfl; (with_reducible repeat (first | refine aK ?_ _ | refine aM ?_ | refine aJ ?_ _)); refine aU (cs := #[.int .i64 0, .int .i64 0, .int .i64 0, .int .i64 0, .int .i64 0]) ?_ 0 _ rfl; (with_reducible repeat (first | refine aK ?_ _ | refine aM ?_ | refine aJ ?_ _)); exact BK131.out⟩
           have n1_ : aA (Below w.heap.size w (((((w13.setCell ⟨gb131, 0, none⟩ (.int .i64 ((rd_T27 l0 x7_1).f0))).setCell ⟨gb131, 1, none⟩ (.int .i64 ((rd_T27 l0 x7_1).f1))).setCell ⟨gb131, 2, none⟩ (.int .i64 ((rd_T27 l0 x7_1).f2))).setCell ⟨gb131, 3, none⟩ (.int .i64 ((rd_T27 l0 x7_1).f3))).setCell ⟨gb131, 4, none⟩ (.int .i64 ((rd_T27 l0 x7_1).f4)))) := ⟨by repeat (first | (with_reducible first | exact HB.out | apply aH | apply aE | apply aG | refine aN ?_ GE131.out) | exact HB.out)⟩
           (try clear BK131)
           (try clear HB)
           generalize (((((w13.setCell ⟨gb131, 0, none⟩ (.int .i64 ((rd_T27 l0 x7_1).f0))).setCell ⟨gb131, 1, none⟩ (.int .i64 ((rd_T27 l0 x7_1).f1))).setCell ⟨gb131, 2, none⟩ (.int .i64 ((rd_T27 l0 x7_1).f2))).setCell ⟨gb131, 3, none⟩ (.int .i64 ((rd_T27 l0 x7_1).f3))).setCell ⟨gb131, 4, none⟩ (.int .i64 ((rd_T27 l0 x7_1).f4))) = w15 at n0_ n1_ ⊢
           have BK131 := n0_
           have HB := n1_
           clear n0_ n1_
           have n0_ := aA.mk (aM BK131.out)
           have n1_ := aA.mk (aG HB.out)
           clear BK131
           clear HB
           have BK131 := n0_
           have HB := n1_
           clear n0_ n1_
           have p133 : 0 ≤ ((ji8) : Int) := lE (by first | (with_reducible assumption) | assumption)
           have q133 : (ji8) < (l0.length : Int) := lE (by first | (with_reducible assumption) | assumption)
           obtain ⟨ad133, e133, hx133_0, hx133_1, hx133_2, hx133_3, hx133_4⟩ := at_T27 HR0.out (ji8) p133 q133
           have hw133_4 := hx133_4
           have hw133_3 := hx133_3
           have hw133_2 := hx133_2
           have hw133_1 := hx133_1
           have hw133_0 := hx133_0
           obtain rfl : ad130 = ad133 := (by injection e133)
           replace hx133_0 := (HB.out.cell (lD w _ hx133_0)).trans hx133_0
           replace hx133_1 := (HB.out.cell (lD w _ hx133_1)).trans hx133_1
           replace hx133_2 := (HB.out.cell (lD w _ hx133_2)).trans hx133_2
           replace hx133_3 := (HB.out.cell (lD w _ hx133_3)).trans hx133_3
           replace hx133_4 := (HB.out.cell (lD w _ hx133_4)).trans hx133_4
           replace p133 := eq_true p133
           replace q133 := eq_true q133
           refine start_ (n := 17) (S := fun w' => w'.cell? ⟨gb131, 0, none⟩ = some (.int .i64 ((rd_T27 l0 x7_1).f0)) ∧ w'.cell? ⟨gb131, 1, none⟩ = some (.int .i64 ((rd_T27 l0 x7_1).f1)) ∧ w'.cell? ⟨gb131, 2, none⟩ = some (.int .i64 ((rd_T27 l0 x7_1).f2)) ∧ w'.cell? ⟨gb131, 3, none⟩ = some (.int .i64 ((rd_T27 l0 x7_1).f3)) ∧ w'.cell? ⟨gb131, 4, none⟩ = some (.int .i64 ((rd_T27 l0 x7_1).f4)) ∧ w'.cell? (ad130.add (((ji8)).toNat * 5)) = some (.int .i64 ((rd_T27 l0 (ji8)).f0)) ∧ w'.cell? ⟨(ad130.add (((ji8)).toNat * 5)).block, (ad130.add (((ji8)).toNat * 5)).off + 1, none⟩ = some (.int .i64 ((rd_T27 l0 (ji8)).f1)) ∧ w'.cell? ⟨(ad130.add (((ji8)).toNat * 5)).block, (ad130.add (((ji8)).toNat * 5)).off + 2, none⟩ = some (.int .i64 ((rd_T27 l0 (ji8)).f2)) ∧ w'.cell? ⟨(ad130.add (((ji8)).toNat * 5)).block, (ad130.add (((ji8)).toNat * 5)).off + 3, none⟩ = some (.int .i64 ((rd_T27 l0 (ji8)).f3)) ∧ w'.cell? ⟨(ad130.add (((ji8)).toNat * 5)).block, (ad130.add (((ji8)).toNat * 5)).off + 4, none⟩ = some (.int .i64 ((rd_T27 l0 (ji8)).f4))) (ds := []) #[false, false, false, false, false, false, false, false, false, false, false, false, false, false, false, false, false] (by kernel_rfl) rfl rfl ⟨(aC BK131.out 0).trans rfl, (aC BK131.out 1).trans rfl, (aC BK131.out 2).trans rfl, (aC BK131.out 3).trans rfl, (aC BK131.out 4).trans rfl, ((HB.out.cell (lD w _ hw133_0)).trans hw133_0), ((HB.out.cell (lD w _ hw133_1)).trans hw133_1), ((HB.out.cell (lD w _ hw133_2)).trans hw133_2), ((HB.out.cell (lD w _ hw133_3)).trans hw133_3), ((HB.out.cell (lD w _ hw133_4)).trans hw133_4)⟩ (fun hHeld => ?_); refine with_tabW impl_SetOk.tab4 impl_SetOk.bits4 (fun HT_ HW_ => ?_)
           generalize w15.drew = w16 at BK131 HB hx133_0 hx133_1 hx133_2 hx133_3 hx133_4 hHeld ⊢
           refine take_ (i := 0) (N := some 12) (v := ?_) (a' := ?_) #[true, false, false, false, false, false, false, false, false, false, false, false, false, false, false, false, false] rfl rfl (take_ofW HT_.out HW_.out (by kernel_rfl)) (fun _ _ _ h => h) (Or.inl ⟨by rfl, ?_⟩) hHeld ?_ ?_
           rotate_left
           ·rintro w' ⟨s0, s1, s2, s3, s4, s5, s6, s7, s8, s9⟩
            go_simp
            with_reducible rfl
           rotate_left
           ·simp only [Act.put, lA, lB, lC, aZ, bA]
            rfl
           refine one_ (i := 1) (N := some 13) #[true, true, false, false, false, false, false, false, false, false, false, false, false, false, false, false, false] rfl rfl (one_of HT_.out (by kernel_rfl)) (by decide) (fun K hK => ?_)
           refine goes_ Try.func30 (by kernel_rfl) rfl #[.agg #[.int .i64 ((rd_T27 l0 x7_1).f0), .int .i64 ((rd_T27 l0 x7_1).f1), .int .i64 ((rd_T27 l0 x7_1).f2), .int .i64 ((rd_T27 l0 x7_1).f3), .int .i64 ((rd_T27 l0 x7_1).f4)]] (by rfl) rfl rfl (by (try simp only [List.map_toArray, List.map_cons, List.map_nil]); first | done | rfl | (simp only [List.length_drop, List.length_take]; rfl)) ?_
           with_reducible refine (impl_KeyOk.calls k1 ((rd_T27 l0 x7_1).f0) ((rd_T27 l0 x7_1).f1) ((rd_T27 l0 x7_1).f2) ((rd_T27 l0 x7_1).f3) ((rd_T27 l0 x7_1).f4) true _ A5.out).mono ?_
           rintro e w17 ⟨rfl, hb⟩
           refine ⟨_, rfl, ?_⟩
           have n0_ := aA.mk (bB (g := gb131) (o := .cells #[.int .i64 ((rd_T27 l0 x7_1).f0), .int .i64 ((rd_T27 l0 x7_1).f1), .int .i64 ((rd_T27 l0 x7_1).f2), .int .i64 ((rd_T27 l0 x7_1).f3), .int .i64 ((rd_T27 l0 x7_1).f4)] 27 (0, 0)) (by (with_reducible repeat (first | refine aK ?_ _ | refine aM ?_ | refine aJ ?_ _)); exact BK131.out) hb)
           have n1_ := aA.mk (aV (by repeat (first | (with_reducible first | exact HB.out | apply aH | apply aE | apply aG | refine aN ?_ GE131.out) | exact HB.out)) hb)
           clear BK131
           clear HB
           have BK131 := n0_
           have HB := n1_
           clear n0_ n1_
           (try clear hb)
           (try clear hb2)
           (try clear hk)
           (try clear hi)
           refine hK.out _ _ ⟨(aC BK131.out 0).trans rfl, (aC BK131.out 1).trans rfl, (aC BK131.out 2).trans rfl, (aC BK131.out 3).trans rfl, (aC BK131.out 4).trans rfl, ((HB.out.cell (lD w _ hw133_0)).trans hw133_0), ((HB.out.cell (lD w _ hw133_1)).trans hw133_1), ((HB.out.cell (lD w _ hw133_2)).trans hw133_2), ((HB.out.cell (lD w _ hw133_3)).trans hw133_3), ((HB.out.cell (lD w _ hw133_4)).trans hw133_4)⟩ (fun hHeld => ?_)
           clear hK K
           refine norm_ (a' := ?_) ?_ ?_
           rotate_left
           ·show Act.put _ (some 13) _ = _
            simp only [Act.put, lA, lB, lC, aZ, bA]
            rfl
           refine bF (i := 2) (N := some 14) (v := ?_) (a' := ?_) #[true, true, true, false, false, false, false, false, false, false, false, false, false, false, false, false, false] rfl rfl (bH HT_.out (by kernel_rfl)) (fun _ _ _ h => h) (Or.inl ⟨by rfl, ?_⟩) ?_ ?_
           rotate_left
           ·intro w'
            go_simp
            with_reducible rfl
           rotate_left
           ·simp only [Act.put, lA, lB, lC, aZ, bA]
            rfl
           refine bF (i := 3) (N := some 15) (v := ?_) (a' := ?_) #[true, true, true, true, false, false, false, false, false, false, false, false, false, false, false, false, false] rfl rfl (bH HT_.out (by kernel_rfl)) (fun _ _ _ h => h) (Or.inl ⟨by rfl, ?_⟩) ?_ ?_
           rotate_left
           ·intro w'
            go_simp
            with_reducible rfl
           rotate_left
           ·simp only [Act.put, lA, lB, lC, aZ, bA]
            rfl
           refine bF (i := 4) (N := some 16) (v := ?_) (a' := ?_) #[true, true, true, true, true, false, false, false, false, false, false, false, false, false, false, false, false] rfl rfl (bH HT_.out (by kernel_rfl)) (fun _ _ _ h => h) (Or.inl ⟨by rfl, ?_⟩) ?_ ?_
           rotate_left
           ·intro w'
            go_simp
            with_reducible rfl
           rotate_left
           ·simp only [Act.put, lA, lB, lC, aZ, bA]
            rfl
           refine bF (i := 5) (N := some 17) (v := ?_) (a' := ?_) #[true, true, true, true, true, true, false, false, false, false, false, false, false, false, false, false, false] rfl rfl (bH HT_.out (by kernel_rfl)) (fun _ _ _ h => h) (Or.inl ⟨by rfl, ?_⟩) ?_ ?_
           rotate_left
           ·intro w'
            go_simp
            with_reducible rfl
           rotate_left
           ·simp only [Act.put, lA, lB, lC, aZ, bA]
            rfl
           refine bF (i := 6) (N := some 18) (v := ?_) (a' := ?_) #[true, true, true, true, true, true, true, false, false, false, false, false, false, false, false, false, false] rfl rfl (bH HT_.out (by kernel_rfl)) (fun _ _ _ h => h) (Or.inl ⟨by rfl, ?_⟩) ?_ ?_
           rotate_left
           ·intro w'
            go_simp
            with_reducible rfl
           rotate_left
           ·simp only [Act.put, lA, lB, lC, aZ, bA]
            rfl
           refine bF (i := 7) (N := some 19) (v := ?_) (a' := ?_) #[true, true, true, true, true, true, true, true, false, false, false, false, false, false, false, false, false] rfl rfl (bH HT_.out (by kernel_rfl)) (fun _ _ _ h => h) (Or.inl ⟨by rfl, ?_⟩) ?_ ?_
           rotate_left
           ·intro w'
            go_simp
            with_reducible rfl
           rotate_left
           ·simp only [Act.put, lA, lB, lC, aZ, bA]
            rfl
           refine bF (i := 8) (N := some 20) (v := ?_) (a' := ?_) #[true, true, true, true, true, true, true, true, true, false, false, false, false, false, false, false, false] rfl rfl (bH HT_.out (by kernel_rfl)) (fun _ _ _ h => h) (Or.inl ⟨by rfl, ?_⟩) ?_ ?_
           rotate_left
           ·intro w'
            go_simp
            with_reducible rfl
           rotate_left
           ·simp only [Act.put, lA, lB, lC, aZ, bA]
            rfl
           refine bF (i := 9) (N := some 21) (v := ?_) (a' := ?_) #[true, true, true, true, true, true, true, true, true, true, false, false, false, false, false, false, false] rfl rfl (bH HT_.out (by kernel_rfl)) (fun _ _ _ h => h) (Or.inl ⟨by rfl, ?_⟩) ?_ ?_
           rotate_left
           ·intro w'
            go_simp
            with_reducible rfl
           rotate_left
           ·simp only [Act.put, lA, lB, lC, aZ, bA]
            rfl
           refine bF (i := 10) (N := some 22) (v := ?_) (a' := ?_) #[true, true, true, true, true, true, true, true, true, true, true, false, false, false, false, false, false] rfl rfl (bH HT_.out (by kernel_rfl)) (fun _ _ _ h => h) (Or.inl ⟨by rfl, ?_⟩) ?_ ?_
           rotate_left
           ·intro w'
            go_simp
            with_reducible rfl
           rotate_left
           ·simp only [Act.put, lA, lB, lC, aZ, bA]
            rfl
           refine take_ (i := 11) (N := some 23) (v := ?_) (a' := ?_) #[true, true, true, true, true, true, true, true, true, true, true, true, false, false, false, false, false] rfl rfl (take_ofW HT_.out HW_.out (by kernel_rfl)) (fun _ _ _ h => h) (Or.inl ⟨by rfl, ?_⟩) hHeld ?_ ?_
           rotate_left
           ·rintro w' ⟨s0, s1, s2, s3, s4, s5, s6, s7, s8, s9⟩
            go_simp
            with_reducible rfl
           rotate_left
           ·simp only [Act.put, lA, lB, lC, aZ, bA]
            rfl
           refine take_ (i := 12) (N := some 24) (v := ?_) (a' := ?_) #[true, true, true, true, true, true, true, true, true, true, true, true, true, false, false, false, false] rfl rfl (take_ofW HT_.out HW_.out (by kernel_rfl)) (fun _ _ _ h => h) (Or.inl ⟨by rfl, ?_⟩) hHeld ?_ ?_
           rotate_left
           ·rintro w' ⟨s0, s1, s2, s3, s4, s5, s6, s7, s8, s9⟩
            go_simp
            with_reducible rfl
           rotate_left
           ·simp only [Act.put, lA, lB, lC, aZ, bA]
            rfl
           refine one_ (i := 13) (N := some 25) #[true, true, true, true, true, true, true, true, true, true, true, true, true, true, false, false, false] rfl rfl (one_of HT_.out (by kernel_rfl)) (by decide) (fun K hK => ?_)
           refine goes_ Try.func28 (by kernel_rfl) rfl #[.agg #[.int .i64 ((rd_T27 l0 (ji8)).f0), .int .i64 ((rd_T27 l0 (ji8)).f1), .int .i64 ((rd_T27 l0 (ji8)).f2), .int .i64 ((rd_T27 l0 (ji8)).f3), .int .i64 ((rd_T27 l0 (ji8)).f4)], .agg #[.int .i64 ((rd_T27 l0 x7_1).f0), .int .i64 ((rd_T27 l0 x7_1).f1), .int .i64 ((rd_T27 l0 x7_1).f2), .int .i64 ((rd_T27 l0 x7_1).f3), .int .i64 ((rd_T27 l0 x7_1).f4)]] (by rfl) rfl rfl (by (try simp only [List.map_toArray, List.map_cons, List.map_nil]); first | done | (simp only [hji8]; rfl) | rfl | (simp only [List.length_drop, List.length_take]; rfl)) ?_
           with_reducible refine (impl_LessKey.calls ((rd_T27 l0 (ji8)).f0) ((rd_T27 l0 (ji8)).f1) ((rd_T27 l0 (ji8)).f2) ((rd_T27 l0 (ji8)).f3) ((rd_T27 l0 (ji8)).f4) ((rd_T27 l0 x7_1).f0) ((rd_T27 l0 x7_1).f1) ((rd_T27 l0 x7_1).f2) ((rd_T27 l0 x7_1).f3) ((rd_T27 l0 x7_1).f4) true _ A11.out).mono ?_
           rintro e w18 ⟨rfl, hb⟩
           refine ⟨_, rfl, ?_⟩
           have n0_ := aA.mk (bB (g := gb131) (o := .cells #[.int .i64 ((rd_T27 l0 x7_1).f0), .int .i64 ((rd_T27 l0 x7_1).f1), .int .i64 ((rd_T27 l0 x7_1).f2), .int .i64 ((rd_T27 l0 x7_1).f3), .int .i64 ((rd_T27 l0 x7_1).f4)] 27 (0, 0)) (by (with_reducible repeat (first | refine aK ?_ _ | refine aM ?_ | refine aJ ?_ _)); exact BK131.out) hb)
           have n1_ := aA.mk (aV (by repeat (first | (with_reducible first | exact HB.out | apply aH | apply aE | apply aG | refine aN ?_ GE131.out) | exact HB.out)) hb)
           clear BK131
           clear HB
           have BK131 := n0_
           have HB := n1_
           clear n0_ n1_
           (try clear hb)
           (try clear hb2)
           (try clear hk)
           (try clear hi)
           refine hK.out _ _ ⟨(aC BK131.out 0).trans rfl, (aC BK131.out 1).trans rfl, (aC BK131.out 2).trans rfl, (aC BK131.out 3).trans rfl, (aC BK131.out 4).trans rfl, ((HB.out.cell (lD w _ hw133_0)).trans hw133_0), ((HB.out.cell (lD w _ hw133_1)).trans hw133_1), ((HB.out.cell (lD w _ hw133_2)).trans hw133_2), ((HB.out.cell (lD w _ hw133_3)).trans hw133_3), ((HB.out.cell (lD w _ hw133_4)).trans hw133_4)⟩ (fun hHeld => ?_)
           clear hK K
           refine norm_ (a' := ?_) ?_ ?_
           rotate_left
           ·show Act.put _ (some 25) _ = _
            simp only [Act.put, lA, lB, lC, aZ, bA]
            rfl
           refine bF (i := 14) (N := some 26) (v := ?_) (a' := ?_) #[true, true, true, true, true, true, true, true, true, true, true, true, true, true, true, false, false] rfl rfl (bH HT_.out (by kernel_rfl)) (fun _ _ _ h => h) (Or.inl ⟨by rfl, ?_⟩) ?_ ?_
           rotate_left
           ·intro w'
            go_simp
            with_reducible rfl
           rotate_left
           ·simp only [Act.put, lA, lB, lC, aZ, bA]
            rfl
           refine bF (i := 15) (N := some 27) (v := ?_) (a' := ?_) #[true, true, true, true, true, true, true, true, true, true, true, true, true, true, true, true, false] rfl rfl (bH HT_.out (by kernel_rfl)) (fun _ _ _ h => h) (Or.inl ⟨by rfl, ?_⟩) ?_ ?_
           rotate_left
           ·intro w'
            go_simp
            with_reducible rfl
           rotate_left
           ·simp only [Act.put, lA, lB, lC, aZ, bA]
            rfl
           refine bF (i := 16) (N := some 28) (v := ?_) (a' := ?_) #[true, true, true, true, true, true, true, true, true, true, true, true, true, true, true, true, true] rfl rfl (bH HT_.out (by kernel_rfl)) (fun _ _ _ h => h) (Or.inl ⟨by rfl, ?_⟩) ?_ ?_
           rotate_left
           ·intro w'
            go_simp
            with_reducible rfl
           rotate_left
           ·simp only [Act.put, lA, lB, lC, aZ, bA]
            rfl
           refine done_ (done_of HT_.out (by kernel_rfl)) ?_
           try go_wp2
           go_roundg k1
           case measure => have := HK1.out; omega
           case rel => exact ⟨(wrap64 (x7_1 + 1)), (by first | rfl | (simp; done) | (simp [*]; done)), H', ⟨by have := HK1.out; omega⟩, ⟨by repeat (first | (with_reducible first | exact HB.out | apply aH | apply aE | apply aG | refine aN ?_ GE131.out) | exact HB.out)⟩⟩
          ·replace c12 := Bool.eq_false_iff.mpr c12
           subst c12
           have H1 : (some false) = some r := by rw [if_neg (show ¬ (false = true) by decide)] at H; exact H
           clear H
           have H := H1
           clear H1
           obtain rfl := Option.some.inj H
           have p130 : 0 ≤ (x7_1 : Int) := lE (by first | (with_reducible assumption) | assumption)
           have q130 : x7_1 < (l0.length : Int) := lE (by first | (with_reducible assumption) | assumption)
           obtain ⟨ad130, e130, hx130_0, hx130_1, hx130_2, hx130_3, hx130_4⟩ := at_T27 HR0.out x7_1 p130 q130
           cases e130
           replace hx130_0 := (HB.out.cell (lD w _ hx130_0)).trans hx130_0
           replace hx130_1 := (HB.out.cell (lD w _ hx130_1)).trans hx130_1
           replace hx130_2 := (HB.out.cell (lD w _ hx130_2)).trans hx130_2
           replace hx130_3 := (HB.out.cell (lD w _ hx130_3)).trans hx130_3
           replace hx130_4 := (HB.out.cell (lD w _ hx130_4)).trans hx130_4
           replace p130 := eq_true p130
           replace q130 := eq_true q130
           try go_wp2_with (first | ((with_reducible refine bG (N := 4) rfl ?_); refine bJ ?hg (N := 4) ?hd (cs := #[.int .i64 0, .int .i64 0, .int .i64 0, .int .i64 0, .int .i64 0]) (t := 27) ?hr ?_; (case hd => rfl); (case hg => rfl); (case hr => first | (go_simp; done) | (go_simp; rfl)); intro gb131 hg w19 hbox hb; have n0_ := aA.mk (aV (by repeat (first | (with_reducible first | exact HB.out | apply aH | apply aE | apply aG) | exact HB.out)) hb); have n1_ := aA.mk (hbox); have n2_ := aA.mk ((by rw [hg]; exact (aW (by repeat (first | (with_reducible first | exact HB.out | apply aH | apply aE | apply aG) | exact HB.out))) : w.heap.size ≤ gb131)); have n3_ := aA.mk ((by rw [hg]; exact (aW (by repeat (first | (with_reducible first | exact HB.out | apply aH | apply aE | apply aG) | exact HB.out))) : w.heap.size ≤ gb131)); clear HB; have HB := n0_; have BK131 := n1_; have GW131 := n2_; have GE131 := n3_; clear n0_ n1_ n2_ n3_; clear hb hbox hg; have hcz20_0 : w19.cell? ⟨gb131, 0, none⟩ = some (.int .i64 0) := (aC BK131.out 0).trans rfl; have hcz20_1 : w19.cell? ⟨gb131, 1, none⟩ = some (.int .i64 0) := (aC BK131.out 1).trans rfl; have hcz20_2 : w19.cell? ⟨gb131, 2, none⟩ = some (.int .i64 0) := (aC BK131.out 2).trans rfl; have hcz20_3 : w19.cell? ⟨gb131, 3, none⟩ = some (.int .i64 0) := (aC BK131.out 3).trans rfl; have hcz20_4 : w19.cell? ⟨gb131, 4, none⟩ = some (.int .i64 0) := (aC BK131.out 4).trans rfl; have hfz20_0 := aD BK131.out 0; have hfz20_1 := aD BK131.out 1; have hfz20_2 := aD BK131.out 2; have hfz20_3 := aD BK131.out 3; have hfz20_4 := aD BK131.out 4))
           have n0_ : aA ((((((w19.setCell ⟨gb131, 0, none⟩ (.int .i64 ((rd_T27 l0 x7_1).f0))).setCell ⟨gb131, 1, none⟩ (.int .i64 ((rd_T27 l0 x7_1).f1))).setCell ⟨gb131, 2, none⟩ (.int .i64 ((rd_T27 l0 x7_1).f2))).setCell ⟨gb131, 3, none⟩ (.int .i64 ((rd_T27 l0 x7_1).f3))).setCell ⟨gb131, 4, none⟩ (.int .i64 ((rd_T27 l0 x7_1).f4))).heap[gb131]? = some (.cells #[.int .i64 ((rd_T27 l0 x7_1).f0), .int .i64 ((rd_T27 l0 x7_1).f1), .int .i64 ((rd_T27 l0 x7_1).f2), .int .i64 ((rd_T27 l0 x7_1).f3), .int .i64 ((rd_T27 l0 x7_1).f4)] 27 (0, 0))) := ⟨by (with_reducible repeat (first | refine aK ?_ _ | refine aM ?_ | refine aJ ?_ _)); refine aU (cs := #[.int .i64 ((rd_T27 l0 x7_1).f0), .int .i64 ((rd_T27 l0 x7_1).f1), .int .i64 ((rd_T27 l0 x7_1).f2), .int .i64 ((rd_T27 l0 x7_1).f3), .int .i64 0]) ?_ 4 _ rfl; (with_reducible repeat (first | refine aK ?_ _ | refine aM ?_ | refine aJ ?_ _)); refine aU (cs := #[.int .i64 ((rd_T27 l0 x7_1).f0), .int .i64 ((rd_T27 l0 x7_1).f1), .int .i64 ((rd_T27 l0 x7_1).f2), .int .i64 0, .int .i64 0]) ?_ 3 _ rfl; (with_reducible repeat (first | refine aK ?_ _ | refine aM ?_ | refine aJ ?_ _)); refine aU (cs := #[.int .i64 ((rd_T27 l0 x7_1).f0), .int .i64 ((rd_T27 l0 x7_1).f1), .int .i64 0, .int .i64 0, .int .i64 0]) ?_ 2 _ rfl; (with_reducible repeat (first | refine aK ?_ _ | refine aM ?_ | refine aJ ?_ _)); refine aU (cs := #[.int .i64 ((rd_T27 l0 x7_1).f0), .int .i64 0, .int .i64 0, .int .i64 0, .int .i64 0]) ?_ 1 _ rfl; (with_reducible repeat (first | refine aK ?_ _ | refine aM ?_ | refine aJ ?_ _)); refine aU (cs := #[.int .i64 0, .int .i64 0, .int .i64 0, .int .i64 0, .int .i64 0]) ?_ 0 _ rfl; (with_reducible repeat (first | refine aK ?_ _ | refine aM ?_ | refine aJ ?_ _)); exact BK131.out⟩
           have n1_ : aA (Below w.heap.size w (((((w19.setCell ⟨gb131, 0, none⟩ (.int .i64 ((rd_T27 l0 x7_1).f0))).setCell ⟨gb131, 1, none⟩ (.int .i64 ((rd_T27 l0 x7_1).f1))).setCell ⟨gb131, 2, none⟩ (.int .i64 ((rd_T27 l0 x7_1).f2))).setCell ⟨gb131, 3, none⟩ (.int .i64 ((rd_T27 l0 x7_1).f3))).setCell ⟨gb131, 4, none⟩ (.int .i64 ((rd_T27 l0 x7_1).f4)))) := ⟨by repeat (first | (with_reducible first | exact HB.out | apply aH | apply aE | apply aG | refine aN ?_ GE131.out) | exact HB.out)⟩
           (try clear BK131)
           (try clear HB)
           generalize (((((w19.setCell ⟨gb131, 0, none⟩ (.int .i64 ((rd_T27 l0 x7_1).f0))).setCell ⟨gb131, 1, none⟩ (.int .i64 ((rd_T27 l0 x7_1).f1))).setCell ⟨gb131, 2, none⟩ (.int .i64 ((rd_T27 l0 x7_1).f2))).setCell ⟨gb131, 3, none⟩ (.int .i64 ((rd_T27 l0 x7_1).f3))).setCell ⟨gb131, 4, none⟩ (.int .i64 ((rd_T27 l0 x7_1).f4))) = w21 at n0_ n1_ ⊢
           have BK131 := n0_
           have HB := n1_
           clear n0_ n1_
           have n0_ := aA.mk (aM BK131.out)
           have n1_ := aA.mk (aG HB.out)
           clear BK131
           clear HB
           have BK131 := n0_
           have HB := n1_
           clear n0_ n1_
           have p133 : 0 ≤ ((ji8) : Int) := lE (by first | (with_reducible assumption) | assumption)
           have q133 : (ji8) < (l0.length : Int) := lE (by first | (with_reducible assumption) | assumption)
           obtain ⟨ad133, e133, hx133_0, hx133_1, hx133_2, hx133_3, hx133_4⟩ := at_T27 HR0.out (ji8) p133 q133
           have hw133_4 := hx133_4
           have hw133_3 := hx133_3
           have hw133_2 := hx133_2
           have hw133_1 := hx133_1
           have hw133_0 := hx133_0
           obtain rfl : ad130 = ad133 := (by injection e133)
           replace hx133_0 := (HB.out.cell (lD w _ hx133_0)).trans hx133_0
           replace hx133_1 := (HB.out.cell (lD w _ hx133_1)).trans hx133_1
           replace hx133_2 := (HB.out.cell (lD w _ hx133_2)).trans hx133_2
           replace hx133_3 := (HB.out.cell (lD w _ hx133_3)).trans hx133_3
           replace hx133_4 := (HB.out.cell (lD w _ hx133_4)).trans hx133_4
           replace p133 := eq_true p133
           replace q133 := eq_true q133
           refine start_ (n := 17) (S := fun w' => w'.cell? ⟨gb131, 0, none⟩ = some (.int .i64 ((rd_T27 l0 x7_1).f0)) ∧ w'.cell? ⟨gb131, 1, none⟩ = some (.int .i64 ((rd_T27 l0 x7_1).f1)) ∧ w'.cell? ⟨gb131, 2, none⟩ = some (.int .i64 ((rd_T27 l0 x7_1).f2)) ∧ w'.cell? ⟨gb131, 3, none⟩ = some (.int .i64 ((rd_T27 l0 x7_1).f3)) ∧ w'.cell? ⟨gb131, 4, none⟩ = some (.int .i64 ((rd_T27 l0 x7_1).f4)) ∧ w'.cell? (ad130.add (((ji8)).toNat * 5)) = some (.int .i64 ((rd_T27 l0 (ji8)).f0)) ∧ w'.cell? ⟨(ad130.add (((ji8)).toNat * 5)).block, (ad130.add (((ji8)).toNat * 5)).off + 1, none⟩ = some (.int .i64 ((rd_T27 l0 (ji8)).f1)) ∧ w'.cell? ⟨(ad130.add (((ji8)).toNat * 5)).block, (ad130.add (((ji8)).toNat * 5)).off + 2, none⟩ = some (.int .i64 ((rd_T27 l0 (ji8)).f2)) ∧ w'.cell? ⟨(ad130.add (((ji8)).toNat * 5)).block, (ad130.add (((ji8)).toNat * 5)).off + 3, none⟩ = some (.int .i64 ((rd_T27 l0 (ji8)).f3)) ∧ w'.cell? ⟨(ad130.add (((ji8)).toNat * 5)).block, (ad130.add (((ji8)).toNat * 5)).off + 4, none⟩ = some (.int .i64 ((rd_T27 l0 (ji8)).f4))) (ds := []) #[false, false, false, false, false, false, false, false, false, false, false, false, false, false, false, false, false] (by kernel_rfl) rfl rfl ⟨(aC BK131.out 0).trans rfl, (aC BK131.out 1).trans rfl, (aC BK131.out 2).trans rfl, (aC BK131.out 3).trans rfl, (aC BK131.out 4).trans rfl, ((HB.out.cell (lD w _ hw133_0)).trans hw133_0), ((HB.out.cell (lD w _ hw133_1)).trans hw133_1), ((HB.out.cell (lD w _ hw133_2)).trans hw133_2), ((HB.out.cell (lD w _ hw133_3)).trans hw133_3), ((HB.out.cell (lD w _ hw133_4)).trans hw133_4)⟩ (fun hHeld => ?_); refine with_tabW impl_SetOk.tab4 impl_SetOk.bits4 (fun HT_ HW_ => ?_)
           generalize w21.drew = w22 at BK131 HB hx133_0 hx133_1 hx133_2 hx133_3 hx133_4 hHeld ⊢
           refine take_ (i := 0) (N := some 12) (v := ?_) (a' := ?_) #[true, false, false, false, false, false, false, false, false, false, false, false, false, false, false, false, false] rfl rfl (take_ofW HT_.out HW_.out (by kernel_rfl)) (fun _ _ _ h => h) (Or.inl ⟨by rfl, ?_⟩) hHeld ?_ ?_
           rotate_left
           ·rintro w' ⟨s0, s1, s2, s3, s4, s5, s6, s7, s8, s9⟩
            go_simp
            with_reducible rfl
           rotate_left
           ·simp only [Act.put, lA, lB, lC, aZ, bA]
            rfl
           refine one_ (i := 1) (N := some 13) #[true, true, false, false, false, false, false, false, false, false, false, false, false, false, false, false, false] rfl rfl (one_of HT_.out (by kernel_rfl)) (by decide) (fun K hK => ?_)
           refine goes_ Try.func30 (by kernel_rfl) rfl #[.agg #[.int .i64 ((rd_T27 l0 x7_1).f0), .int .i64 ((rd_T27 l0 x7_1).f1), .int .i64 ((rd_T27 l0 x7_1).f2), .int .i64 ((rd_T27 l0 x7_1).f3), .int .i64 ((rd_T27 l0 x7_1).f4)]] (by rfl) rfl rfl (by (try simp only [List.map_toArray, List.map_cons, List.map_nil]); first | done | rfl | (simp only [List.length_drop, List.length_take]; rfl)) ?_
           with_reducible refine (impl_KeyOk.calls k1 ((rd_T27 l0 x7_1).f0) ((rd_T27 l0 x7_1).f1) ((rd_T27 l0 x7_1).f2) ((rd_T27 l0 x7_1).f3) ((rd_T27 l0 x7_1).f4) true _ A5.out).mono ?_
           rintro e w23 ⟨rfl, hb⟩
           refine ⟨_, rfl, ?_⟩
           have n0_ := aA.mk (bB (g := gb131) (o := .cells #[.int .i64 ((rd_T27 l0 x7_1).f0), .int .i64 ((rd_T27 l0 x7_1).f1), .int .i64 ((rd_T27 l0 x7_1).f2), .int .i64 ((rd_T27 l0 x7_1).f3), .int .i64 ((rd_T27 l0 x7_1).f4)] 27 (0, 0)) (by (with_reducible repeat (first | refine aK ?_ _ | refine aM ?_ | refine aJ ?_ _)); exact BK131.out) hb)
           have n1_ := aA.mk (aV (by repeat (first | (with_reducible first | exact HB.out | apply aH | apply aE | apply aG | refine aN ?_ GE131.out) | exact HB.out)) hb)
           clear BK131
           clear HB
           have BK131 := n0_
           have HB := n1_
           clear n0_ n1_
           (try clear hb)
           (try clear hb2)
           (try clear hk)
           (try clear hi)
           refine hK.out _ _ ⟨(aC BK131.out 0).trans rfl, (aC BK131.out 1).trans rfl, (aC BK131.out 2).trans rfl, (aC BK131.out 3).trans rfl, (aC BK131.out 4).trans rfl, ((HB.out.cell (lD w _ hw133_0)).trans hw133_0), ((HB.out.cell (lD w _ hw133_1)).trans hw133_1), ((HB.out.cell (lD w _ hw133_2)).trans hw133_2), ((HB.out.cell (lD w _ hw133_3)).trans hw133_3), ((HB.out.cell (lD w _ hw133_4)).trans hw133_4)⟩ (fun hHeld => ?_)
           clear hK K
           refine norm_ (a' := ?_) ?_ ?_
           rotate_left
           ·show Act.put _ (some 13) _ = _
            simp only [Act.put, lA, lB, lC, aZ, bA]
            rfl
           refine bF (i := 2) (N := some 14) (v := ?_) (a' := ?_) #[true, true, true, false, false, false, false, false, false, false, false, false, false, false, false, false, false] rfl rfl (bH HT_.out (by kernel_rfl)) (fun _ _ _ h => h) (Or.inl ⟨by rfl, ?_⟩) ?_ ?_
           rotate_left
           ·intro w'
            go_simp
            with_reducible rfl
           rotate_left
           ·simp only [Act.put, lA, lB, lC, aZ, bA]
            rfl
           refine bF (i := 3) (N := some 15) (v := ?_) (a' := ?_) #[true, true, true, true, false, false, false, false, false, false, false, false, false, false, false, false, false] rfl rfl (bH HT_.out (by kernel_rfl)) (fun _ _ _ h => h) (Or.inl ⟨by rfl, ?_⟩) ?_ ?_
           rotate_left
           ·intro w'
            go_simp
            with_reducible rfl
           rotate_left
           ·simp only [Act.put, lA, lB, lC, aZ, bA]
            rfl
           refine bF (i := 4) (N := some 16) (v := ?_) (a' := ?_) #[true, true, true, true, true, false, false, false, false, false, false, false, false, false, false, false, false] rfl rfl (bH HT_.out (by kernel_rfl)) (fun _ _ _ h => h) (Or.inl ⟨by rfl, ?_⟩) ?_ ?_
           rotate_left
           ·intro w'
            go_simp
            with_reducible rfl
           rotate_left
           ·simp only [Act.put, lA, lB, lC, aZ, bA]
            rfl
           refine bF (i := 5) (N := some 17) (v := ?_) (a' := ?_) #[true, true, true, true, true, true, false, false, false, false, false, false, false, false, false, false, false] rfl rfl (bH HT_.out (by kernel_rfl)) (fun _ _ _ h => h) (Or.inl ⟨by rfl, ?_⟩) ?_ ?_
           rotate_left
           ·intro w'
            go_simp
            with_reducible rfl
           rotate_left
           ·simp only [Act.put, lA, lB, lC, aZ, bA]
            rfl
           refine bF (i := 6) (N := some 18) (v := ?_) (a' := ?_) #[true, true, true, true, true, true, true, false, false, false, false, false, false, false, false, false, false] rfl rfl (bH HT_.out (by kernel_rfl)) (fun _ _ _ h => h) (Or.inl ⟨by rfl, ?_⟩) ?_ ?_
           rotate_left
           ·intro w'
            go_simp
            with_reducible rfl
           rotate_left
           ·simp only [Act.put, lA, lB, lC, aZ, bA]
            rfl
           refine bF (i := 7) (N := some 19) (v := ?_) (a' := ?_) #[true, true, true, true, true, true, true, true, false, false, false, false, false, false, false, false, false] rfl rfl (bH HT_.out (by kernel_rfl)) (fun _ _ _ h => h) (Or.inl ⟨by rfl, ?_⟩) ?_ ?_
           rotate_left
           ·intro w'
            go_simp
            with_reducible rfl
           rotate_left
           ·simp only [Act.put, lA, lB, lC, aZ, bA]
            rfl
           refine bF (i := 8) (N := some 20) (v := ?_) (a' := ?_) #[true, true, true, true, true, true, true, true, true, false, false, false, false, false, false, false, false] rfl rfl (bH HT_.out (by kernel_rfl)) (fun _ _ _ h => h) (Or.inl ⟨by rfl, ?_⟩) ?_ ?_
           rotate_left
           ·intro w'
            go_simp
            with_reducible rfl
           rotate_left
           ·simp only [Act.put, lA, lB, lC, aZ, bA]
            rfl
           refine bF (i := 9) (N := some 21) (v := ?_) (a' := ?_) #[true, true, true, true, true, true, true, true, true, true, false, false, false, false, false, false, false] rfl rfl (bH HT_.out (by kernel_rfl)) (fun _ _ _ h => h) (Or.inl ⟨by rfl, ?_⟩) ?_ ?_
           rotate_left
           ·intro w'
            go_simp
            with_reducible rfl
           rotate_left
           ·simp only [Act.put, lA, lB, lC, aZ, bA]
            rfl
           refine bF (i := 10) (N := some 22) (v := ?_) (a' := ?_) #[true, true, true, true, true, true, true, true, true, true, true, false, false, false, false, false, false] rfl rfl (bH HT_.out (by kernel_rfl)) (fun _ _ _ h => h) (Or.inl ⟨by rfl, ?_⟩) ?_ ?_
           rotate_left
           ·intro w'
            go_simp
            with_reducible rfl
           rotate_left
           ·simp only [Act.put, lA, lB, lC, aZ, bA]
            rfl
           refine take_ (i := 11) (N := some 23) (v := ?_) (a' := ?_) #[true, true, true, true, true, true, true, true, true, true, true, true, false, false, false, false, false] rfl rfl (take_ofW HT_.out HW_.out (by kernel_rfl)) (fun _ _ _ h => h) (Or.inl ⟨by rfl, ?_⟩) hHeld ?_ ?_
           rotate_left
           ·rintro w' ⟨s0, s1, s2, s3, s4, s5, s6, s7, s8, s9⟩
            go_simp
            with_reducible rfl
           rotate_left
           ·simp only [Act.put, lA, lB, lC, aZ, bA]
            rfl
           refine take_ (i := 12) (N := some 24) (v := ?_) (a' := ?_) #[true, true, true, true, true, true, true, true, true, true, true, true, true, false, false, false, false] rfl rfl (take_ofW HT_.out HW_.out (by kernel_rfl)) (fun _ _ _ h => h) (Or.inl ⟨by rfl, ?_⟩) hHeld ?_ ?_
           rotate_left
           ·rintro w' ⟨s0, s1, s2, s3, s4, s5, s6, s7, s8, s9⟩
            go_simp
            with_reducible rfl
           rotate_left
           ·simp only [Act.put, lA, lB, lC, aZ, bA]
            rfl
           refine one_ (i := 13) (N := some 25) #[true, true, true, true, true, true, true, true, true, true, true, true, true, true, false, false, false] rfl rfl (one_of HT_.out (by kernel_rfl)) (by decide) (fun K hK => ?_)
           refine goes_ Try.func28 (by kernel_rfl) rfl #[.agg #[.int .i64 ((rd_T27 l0 (ji8)).f0), .int .i64 ((rd_T27 l0 (ji8)).f1), .int .i64 ((rd_T27 l0 (ji8)).f2), .int .i64 ((rd_T27 l0 (ji8)).f3), .int .i64 ((rd_T27 l0 (ji8)).f4)], .agg #[.int .i64 ((rd_T27 l0 x7_1).f0), .int .i64 ((rd_T27 l0 x7_1).f1), .int .i64 ((rd_T27 l0 x7_1).f2), .int .i64 ((rd_T27 l0 x7_1).f3), .int .i64 ((rd_T27 l0 x7_1).f4)]] (by rfl) rfl rfl (by (try simp only [List.map_toArray, List.map_cons, List.map_nil]); first | done | (simp only [hji8]; rfl) | rfl | (simp only [List.length_drop, List.length_take]; rfl)) ?_
           with_reducible refine (impl_LessKey.calls ((rd_T27 l0 (ji8)).f0) ((rd_T27 l0 (ji8)).f1) ((rd_T27 l0 (ji8)).f2) ((rd_T27 l0 (ji8)).f3) ((rd_T27 l0 (ji8)).f4) ((rd_T27 l0 x7_1).f0) ((rd_T27 l0 x7_1).f1) ((rd_T27 l0 x7_1).f2) ((rd_T27 l0 x7_1).f3) ((rd_T27 l0 x7_1).f4) false _ A11.out).mono ?_
           rintro e w24 ⟨rfl, hb⟩
           refine ⟨_, rfl, ?_⟩
           have n0_ := aA.mk (bB (g := gb131) (o := .cells #[.int .i64 ((rd_T27 l0 x7_1).f0), .int .i64 ((rd_T27 l0 x7_1).f1), .int .i64 ((rd_T27 l0 x7_1).f2), .int .i64 ((rd_T27 l0 x7_1).f3), .int .i64 ((rd_T27 l0 x7_1).f4)] 27 (0, 0)) (by (with_reducible repeat (first | refine aK ?_ _ | refine aM ?_ | refine aJ ?_ _)); exact BK131.out) hb)
           have n1_ := aA.mk (aV (by repeat (first | (with_reducible first | exact HB.out | apply aH | apply aE | apply aG | refine aN ?_ GE131.out) | exact HB.out)) hb)
           clear BK131
           clear HB
           have BK131 := n0_
           have HB := n1_
           clear n0_ n1_
           (try clear hb)
           (try clear hb2)
           (try clear hk)
           (try clear hi)
           refine hK.out _ _ ⟨(aC BK131.out 0).trans rfl, (aC BK131.out 1).trans rfl, (aC BK131.out 2).trans rfl, (aC BK131.out 3).trans rfl, (aC BK131.out 4).trans rfl, ((HB.out.cell (lD w _ hw133_0)).trans hw133_0), ((HB.out.cell (lD w _ hw133_1)).trans hw133_1), ((HB.out.cell (lD w _ hw133_2)).trans hw133_2), ((HB.out.cell (lD w _ hw133_3)).trans hw133_3), ((HB.out.cell (lD w _ hw133_4)).trans hw133_4)⟩ (fun hHeld => ?_)
           clear hK K
           refine norm_ (a' := ?_) ?_ ?_
           rotate_left
           ·show Act.put _ (some 25) _ = _
            simp only [Act.put, lA, lB, lC, aZ, bA]
            rfl
           refine bF (i := 14) (N := some 26) (v := ?_) (a' := ?_) #[true, true, true, true, true, true, true, true, true, true, true, true, true, true, true, false, false] rfl rfl (bH HT_.out (by kernel_rfl)) (fun _ _ _ h => h) (Or.inl ⟨by rfl, ?_⟩) ?_ ?_
           rotate_left
           ·intro w'
            go_simp
            with_reducible rfl
           rotate_left
           ·simp only [Act.put, lA, lB, lC, aZ, bA]
            rfl
           refine bF (i := 15) (N := some 27) (v := ?_) (a' := ?_) #[true, true, true, true, true, true, true, true, true, true, true, true, true, true, true, true, false] rfl rfl (bH HT_.out (by kernel_rfl)) (fun _ _ _ h => h) (Or.inl ⟨by rfl, ?_⟩) ?_ ?_
           rotate_left
           ·intro w'
            go_simp
            with_reducible rfl
           rotate_left
           ·simp only [Act.put, lA, lB, lC, aZ, bA]
            rfl
           refine bF (i := 16) (N := some 28) (v := ?_) (a' := ?_) #[true, true, true, true, true, true, true, true, true, true, true, true, true, true, true, true, true] rfl rfl (bH HT_.out (by kernel_rfl)) (fun _ _ _ h => h) (Or.inl ⟨by rfl, ?_⟩) ?_ ?_
           rotate_left
           ·intro w'
            go_simp
            with_reducible rfl
           rotate_left
           ·simp only [Act.put, lA, lB, lC, aZ, bA]
            rfl
           refine done_ (done_of HT_.out (by kernel_rfl)) ?_
           try go_wp2
           go_ret
           exact ⟨by first | rfl | (simp [errW_none, errW_some] <;> rfl) | (simp only [← hji8]; first | rfl | (simp [errW_none, errW_some] <;> rfl)) | (simp [*, errW_none, errW_some] <;> rfl), by repeat (first | (with_reducible first | exact HB.out | apply aH | apply aE | apply aG | refine aN ?_ GE131.out) | exact HB.out)⟩
         ·rw [if_neg c10] at H
          exact absurd H (by simp)
        ·rw [if_neg c9] at H
         exact absurd H (by simp)
       ·rw [if_neg c7] at H
        have c7b0 : decide (0 < x7_1) = false := decide_eq_false c7
        clear c7
        have H' := aA.mk H
        clear H
        have p130 : 0 ≤ (x7_1 : Int) := lE (by first | (with_reducible assumption) | assumption)
        have q130 : x7_1 < (l0.length : Int) := lE (by first | (with_reducible assumption) | assumption)
        obtain ⟨ad130, e130, hx130_0, hx130_1, hx130_2, hx130_3, hx130_4⟩ := at_T27 HR0.out x7_1 p130 q130
        cases e130
        replace hx130_0 := (HB.out.cell (lD w _ hx130_0)).trans hx130_0
        replace hx130_1 := (HB.out.cell (lD w _ hx130_1)).trans hx130_1
        replace hx130_2 := (HB.out.cell (lD w _ hx130_2)).trans hx130_2
        replace hx130_3 := (HB.out.cell (lD w _ hx130_3)).trans hx130_3
        replace hx130_4 := (HB.out.cell (lD w _ hx130_4)).trans hx130_4
        replace p130 := eq_true p130
        replace q130 := eq_true q130
        try go_wp2_with (first | ((with_reducible refine bG (N := 4) rfl ?_); refine bJ ?hg (N := 4) ?hd (cs := #[.int .i64 0, .int .i64 0, .int .i64 0, .int .i64 0, .int .i64 0]) (t := 27) ?hr ?_; (case hd => rfl); (case hg => rfl); (case hr => first | (go_simp; done) | (go_simp; rfl)); intro gb131 hg w25 hbox hb; have n0_ := aA.mk (aV (by repeat (first | (with_reducible first | exact HB.out | apply aH | apply aE | apply aG) | exact HB.out)) hb); have n1_ := aA.mk (hbox); have n2_ := aA.mk ((by rw [hg]; exact (aW (by repeat (first | (with_reducible first | exact HB.out | apply aH | apply aE | apply aG) | exact HB.out))) : w.heap.size ≤ gb131)); have n3_ := aA.mk ((by rw [hg]; exact (aW (by repeat (first | (with_reducible first | exact HB.out | apply aH | apply aE | apply aG) | exact HB.out))) : w.heap.size ≤ gb131)); clear HB; have HB := n0_; have BK131 := n1_; have GW131 := n2_; have GE131 := n3_; clear n0_ n1_ n2_ n3_; clear hb hbox hg; have hcz26_0 : w25.cell? ⟨gb131, 0, none⟩ = some (.int .i64 0) := (aC BK131.out 0).trans rfl; have hcz26_1 : w25.cell? ⟨gb131, 1, none⟩ = some (.int .i64 0) := (aC BK131.out 1).trans rfl; have hcz26_2 : w25.cell? ⟨gb131, 2, none⟩ = some (.int .i64 0) := (aC BK131.out 2).trans rfl; have hcz26_3 : w25.cell? ⟨gb131, 3, none⟩ = some (.int .i64 0) := (aC BK131.out 3).trans rfl; have hcz26_4 : w25.cell? ⟨gb131, 4, none⟩ = some (.int .i64 0) := (aC BK131.out 4).trans rfl; have hfz26_0 := aD BK131.out 0; have hfz26_1 := aD BK131.out 1; have hfz26_2 := aD BK131.out 2; have hfz26_3 := aD BK131.out 3; have hfz26_4 := aD BK131.out 4))
        have n0_ : aA ((((((w25.setCell ⟨gb131, 0, none⟩ (.int .i64 ((rd_T27 l0 x7_1).f0))).setCell ⟨gb131, 1, none⟩ (.int .i64 ((rd_T27 l0 x7_1).f1))).setCell ⟨gb131, 2, none⟩ (.int .i64 ((rd_T27 l0 x7_1).f2))).setCell ⟨gb131, 3, none⟩ (.int .i64 ((rd_T27 l0 x7_1).f3))).setCell ⟨gb131, 4, none⟩ (.int .i64 ((rd_T27 l0 x7_1).f4))).heap[gb131]? = some (.cells #[.int .i64 ((rd_T27 l0 x7_1).f0), .int .i64 ((rd_T27 l0 x7_1).f1), .int .i64 ((rd_T27 l0 x7_1).f2), .int .i64 ((rd_T27 l0 x7_1).f3), .int .i64 ((rd_T27 l0 x7_1).f4)] 27 (0, 0))) := ⟨by (with_reducible repeat (first | refine aK ?_ _ | refine aM ?_ | refine aJ ?_ _)); refine aU (cs := #[.int .i64 ((rd_T27 l0 x7_1).f0), .int .i64 ((rd_T27 l0 x7_1).f1), .int .i64 ((rd_T27 l0 x7_1).f2), .int .i64 ((rd_T27 l0 x7_1).f3), .int .i64 0]) ?_ 4 _ rfl; (with_reducible repeat (first | refine aK ?_ _ | refine aM ?_ | refine aJ ?_ _)); refine aU (cs := #[.int .i64 ((rd_T27 l0 x7_1).f0), .int .i64 ((rd_T27 l0 x7_1).f1), .int .i64 ((rd_T27 l0 x7_1).f2), .int .i64 0, .int .i64 0]) ?_ 3 _ rfl; (with_reducible repeat (first | refine aK ?_ _ | refine aM ?_ | refine aJ ?_ _)); refine aU (cs := #[.int .i64 ((rd_T27 l0 x7_1).f0), .int .i64 ((rd_T27 l0 x7_1).f1), .int .i64 0, .int .i64 0, .int .i64 0]) ?_ 2 _ rfl; (with_reducible repeat (first | refine aK ?_ _ | refine aM ?_ | refine aJ ?_ _)); refine aU (cs := #[.int .i64 ((rd_T27 l0 x7_1).f0), .int .i64 0, .int .i64 0, .int .i64 0, .int .i64 0]) ?_ 1 _ rfl; (with_reducible repeat (first | refine aK ?_ _ | refine aM ?_ | refine aJ ?_ _)); refine aU (cs := #[.int .i64 0, .int .i64 0, .int .i64 0, .int .i64 0, .int .i64 0]) ?_ 0 _ rfl; (with_reducible repeat (first | refine aK ?_ _ | refine aM ?_ | refine aJ ?_ _)); exact BK131.out⟩
        have n1_ : aA (Below w.heap.size w (((((w25.setCell ⟨gb131, 0, none⟩ (.int .i64 ((rd_T27 l0 x7_1).f0))).setCell ⟨gb131, 1, none⟩ (.int .i64 ((rd_T27 l0 x7_1).f1))).setCell ⟨gb131, 2, none⟩ (.int .i64 ((rd_T27 l0 x7_1).f2))).setCell ⟨gb131, 3, none⟩ (.int .i64 ((rd_T27 l0 x7_1).f3))).setCell ⟨gb131, 4, none⟩ (.int .i64 ((rd_T27 l0 x7_1).f4)))) := ⟨by repeat (first | (with_reducible first | exact HB.out | apply aH | apply aE | apply aG | refine aN ?_ GE131.out) | exact HB.out)⟩
        (try clear BK131)
        (try clear HB)
        generalize (((((w25.setCell ⟨gb131, 0, none⟩ (.int .i64 ((rd_T27 l0 x7_1).f0))).setCell ⟨gb131, 1, none⟩ (.int .i64 ((rd_T27 l0 x7_1).f1))).setCell ⟨gb131, 2, none⟩ (.int .i64 ((rd_T27 l0 x7_1).f2))).setCell ⟨gb131, 3, none⟩ (.int .i64 ((rd_T27 l0 x7_1).f3))).setCell ⟨gb131, 4, none⟩ (.int .i64 ((rd_T27 l0 x7_1).f4))) = w27 at n0_ n1_ ⊢
        have BK131 := n0_
        have HB := n1_
        clear n0_ n1_
        have n0_ := aA.mk (aM BK131.out)
        have n1_ := aA.mk (aG HB.out)
        clear BK131
        clear HB
        have BK131 := n0_
        have HB := n1_
        clear n0_ n1_
        refine start_ (n := 17) (S := fun w' => w'.cell? ⟨gb131, 0, none⟩ = some (.int .i64 ((rd_T27 l0 x7_1).f0)) ∧ w'.cell? ⟨gb131, 1, none⟩ = some (.int .i64 ((rd_T27 l0 x7_1).f1)) ∧ w'.cell? ⟨gb131, 2, none⟩ = some (.int .i64 ((rd_T27 l0 x7_1).f2)) ∧ w'.cell? ⟨gb131, 3, none⟩ = some (.int .i64 ((rd_T27 l0 x7_1).f3)) ∧ w'.cell? ⟨gb131, 4, none⟩ = some (.int .i64 ((rd_T27 l0 x7_1).f4))) (ds := []) #[false, false, false, false, false, false, false, false, false, false, false, false, false, false, false, false, false] (by kernel_rfl) rfl rfl ⟨(aC BK131.out 0).trans rfl, (aC BK131.out 1).trans rfl, (aC BK131.out 2).trans rfl, (aC BK131.out 3).trans rfl, (aC BK131.out 4).trans rfl⟩ (fun hHeld => ?_); refine with_tabW impl_SetOk.tab4 impl_SetOk.bits4 (fun HT_ HW_ => ?_)
        generalize w27.drew = w28 at BK131 HB hHeld ⊢
        refine take_ (i := 0) (N := some 12) (v := ?_) (a' := ?_) #[true, false, false, false, false, false, false, false, false, false, false, false, false, false, false, false, false] rfl rfl (take_ofW HT_.out HW_.out (by kernel_rfl)) (fun _ _ _ h => h) (Or.inl ⟨by rfl, ?_⟩) hHeld ?_ ?_
        rotate_left
        ·rintro w' ⟨s0, s1, s2, s3, s4⟩
         go_simp
         with_reducible rfl
        rotate_left
        ·simp only [Act.put, lA, lB, lC, aZ, bA]
         rfl
        refine one_ (i := 1) (N := some 13) #[true, true, false, false, false, false, false, false, false, false, false, false, false, false, false, false, false] rfl rfl (one_of HT_.out (by kernel_rfl)) (by decide) (fun K hK => ?_)
        refine goes_ Try.func30 (by kernel_rfl) rfl #[.agg #[.int .i64 ((rd_T27 l0 x7_1).f0), .int .i64 ((rd_T27 l0 x7_1).f1), .int .i64 ((rd_T27 l0 x7_1).f2), .int .i64 ((rd_T27 l0 x7_1).f3), .int .i64 ((rd_T27 l0 x7_1).f4)]] (by rfl) rfl rfl (by (try simp only [List.map_toArray, List.map_cons, List.map_nil]); first | done | rfl | (simp only [List.length_drop, List.length_take]; rfl)) ?_
        with_reducible refine (impl_KeyOk.calls k1 ((rd_T27 l0 x7_1).f0) ((rd_T27 l0 x7_1).f1) ((rd_T27 l0 x7_1).f2) ((rd_T27 l0 x7_1).f3) ((rd_T27 l0 x7_1).f4) true _ A5.out).mono ?_
        rintro e w29 ⟨rfl, hb⟩
        refine ⟨_, rfl, ?_⟩
        have n0_ := aA.mk (bB (g := gb131) (o := .cells #[.int .i64 ((rd_T27 l0 x7_1).f0), .int .i64 ((rd_T27 l0 x7_1).f1), .int .i64 ((rd_T27 l0 x7_1).f2), .int .i64 ((rd_T27 l0 x7_1).f3), .int .i64 ((rd_T27 l0 x7_1).f4)] 27 (0, 0)) (by (with_reducible repeat (first | refine aK ?_ _ | refine aM ?_ | refine aJ ?_ _)); exact BK131.out) hb)
        have n1_ := aA.mk (aV (by repeat (first | (with_reducible first | exact HB.out | apply aH | apply aE | apply aG | refine aN ?_ GE131.out) | exact HB.out)) hb)
        clear BK131
        clear HB
        have BK131 := n0_
        have HB := n1_
        clear n0_ n1_
        (try clear hb)
        (try clear hb2)
        (try clear hk)
        (try clear hi)
        refine hK.out _ _ ⟨(aC BK131.out 0).trans rfl, (aC BK131.out 1).trans rfl, (aC BK131.out 2).trans rfl, (aC BK131.out 3).trans rfl, (aC BK131.out 4).trans rfl⟩ (fun hHeld => ?_)
        clear hK K
        refine norm_ (a' := ?_) ?_ ?_
        rotate_left
        ·show Act.put _ (some 13) _ = _
         simp only [Act.put, lA, lB, lC, aZ, bA]
         rfl
        refine bF (i := 2) (N := some 14) (v := ?_) (a' := ?_) #[true, true, true, false, false, false, false, false, false, false, false, false, false, false, false, false, false] rfl rfl (bH HT_.out (by kernel_rfl)) (fun _ _ _ h => h) (Or.inl ⟨by rfl, ?_⟩) ?_ ?_
        rotate_left
        ·intro w'
         go_simp
         with_reducible rfl
        rotate_left
        ·simp only [Act.put, lA, lB, lC, aZ, bA]
         rfl
        refine bF (i := 3) (N := some 15) (v := ?_) (a' := ?_) #[true, true, true, true, false, false, false, false, false, false, false, false, false, false, false, false, false] rfl rfl (bH HT_.out (by kernel_rfl)) (fun _ _ _ h => h) (Or.inl ⟨by rfl, ?_⟩) ?_ ?_
        rotate_left
        ·intro w'
         go_simp
         with_reducible rfl
        rotate_left
        ·simp only [Act.put, lA, lB, lC, aZ, bA]
         rfl
        refine bF (i := 4) (N := some 16) (v := ?_) (a' := ?_) #[true, true, true, true, true, false, false, false, false, false, false, false, false, false, false, false, false] rfl rfl (bH HT_.out (by kernel_rfl)) (fun _ _ _ h => h) (Or.inl ⟨by rfl, ?_⟩) ?_ ?_
        rotate_left
        ·intro w'
         go_simp
         with_reducible rfl
        rotate_left
        ·simp only [Act.put, lA, lB, lC, aZ, bA]
         rfl
        refine bF (i := 5) (N := some 17) (v := ?_) (a' := ?_) #[true, true, true, true, true, true, false, false, false, false, false, false, false, false, false, false, false] rfl rfl (bH HT_.out (by kernel_rfl)) (fun _ _ _ h => h) (Or.inl ⟨by rfl, ?_⟩) ?_ ?_
        rotate_left
        ·intro w'
         go_simp
         with_reducible rfl
        rotate_left
        ·simp only [Act.put, lA, lB, lC, aZ, bA]
         rfl
        refine bF (i := 6) (N := some 18) (v := ?_) (a' := ?_) #[true, true, true, true, true, true, true, false, false, false, false, false, false, false, false, false, false] rfl rfl (bH HT_.out (by kernel_rfl)) (fun _ _ _ h => h) (Or.inl ⟨by rfl, ?_⟩) ?_ ?_
        rotate_left
        ·intro w'
         go_simp
         with_reducible rfl
        rotate_left
        ·simp only [Act.put, lA, lB, lC, aZ, bA]
         rfl
        refine bF (i := 7) (N := some 19) (v := undef) (a' := ?_) #[true, true, true, true, true, true, true, true, false, false, false, false, false, false, false, false, false] rfl rfl (bH HT_.out (by kernel_rfl)) (fun _ _ _ h => h) (Or.inr ⟨by rfl, rfl⟩) ?_ ?_
        rotate_left
        ·simp only [Act.put, lA, lB, lC, aZ, bA]
         rfl
        refine bF (i := 8) (N := some 20) (v := undef) (a' := ?_) #[true, true, true, true, true, true, true, true, true, false, false, false, false, false, false, false, false] rfl rfl (bH HT_.out (by kernel_rfl)) (fun _ _ _ h => h) (Or.inr ⟨by rfl, rfl⟩) ?_ ?_
        rotate_left
        ·simp only [Act.put, lA, lB, lC, aZ, bA]
         rfl
        refine bF (i := 9) (N := some 21) (v := undef) (a' := ?_) #[true, true, true, true, true, true, true, true, true, true, false, false, false, false, false, false, false] rfl rfl (bH HT_.out (by kernel_rfl)) (fun _ _ _ h => h) (Or.inr ⟨by rfl, rfl⟩) ?_ ?_
        rotate_left
        ·simp only [Act.put, lA, lB, lC, aZ, bA]
         rfl
        refine bF (i := 10) (N := some 22) (v := undef) (a' := ?_) #[true, true, true, true, true, true, true, true, true, true, true, false, false, false, false, false, false] rfl rfl (bH HT_.out (by kernel_rfl)) (fun _ _ _ h => h) (Or.inr ⟨by rfl, rfl⟩) ?_ ?_
        rotate_left
        ·simp only [Act.put, lA, lB, lC, aZ, bA]
         rfl
        refine bF (i := 11) (N := some 23) (v := undef) (a' := ?_) #[true, true, true, true, true, true, true, true, true, true, true, true, false, false, false, false, false] rfl rfl (bH HT_.out (by kernel_rfl)) (fun _ _ _ h => h) (Or.inr ⟨by rfl, rfl⟩) ?_ ?_
        rotate_left
        ·simp only [Act.put, lA, lB, lC, aZ, bA]
         rfl
        refine bF (i := 12) (N := some 24) (v := undef) (a' := ?_) #[true, true, true, true, true, true, true, true, true, true, true, true, true, false, false, false, false] rfl rfl (bH HT_.out (by kernel_rfl)) (fun _ _ _ h => h) (Or.inr ⟨by rfl, rfl⟩) ?_ ?_
        rotate_left
        ·simp only [Act.put, lA, lB, lC, aZ, bA]
         rfl
        refine bF (i := 13) (N := some 25) (v := undef) (a' := ?_) #[true, true, true, true, true, true, true, true, true, true, true, true, true, true, false, false, false] rfl rfl (bH HT_.out (by kernel_rfl)) (fun _ _ _ h => h) (Or.inr ⟨by rfl, rfl⟩) ?_ ?_
        rotate_left
        ·simp only [Act.put, lA, lB, lC, aZ, bA]
         rfl
        refine bF (i := 14) (N := some 26) (v := undef) (a' := ?_) #[true, true, true, true, true, true, true, true, true, true, true, true, true, true, true, false, false] rfl rfl (bH HT_.out (by kernel_rfl)) (fun _ _ _ h => h) (Or.inr ⟨by rfl, rfl⟩) ?_ ?_
        rotate_left
        ·simp only [Act.put, lA, lB, lC, aZ, bA]
         rfl
        refine bF (i := 15) (N := some 27) (v := ?_) (a' := ?_) #[true, true, true, true, true, true, true, true, true, true, true, true, true, true, true, true, false] rfl rfl (bH HT_.out (by kernel_rfl)) (fun _ _ _ h => h) (Or.inl ⟨by rfl, ?_⟩) ?_ ?_
        rotate_left
        ·intro w'
         go_simp
         with_reducible rfl
        rotate_left
        ·simp only [Act.put, lA, lB, lC, aZ, bA]
         rfl
        refine bF (i := 16) (N := some 28) (v := ?_) (a' := ?_) #[true, true, true, true, true, true, true, true, true, true, true, true, true, true, true, true, true] rfl rfl (bH HT_.out (by kernel_rfl)) (fun _ _ _ h => h) (Or.inl ⟨by rfl, ?_⟩) ?_ ?_
        rotate_left
        ·intro w'
         go_simp
         with_reducible rfl
        rotate_left
        ·simp only [Act.put, lA, lB, lC, aZ, bA]
         rfl
        refine done_ (done_of HT_.out (by kernel_rfl)) ?_
        try go_wp2
        go_roundg k1
        case measure => have := HK1.out; omega
        case rel => exact ⟨(wrap64 (x7_1 + 1)), (by first | rfl | (simp; done) | (simp [*]; done)), H', ⟨by have := HK1.out; omega⟩, ⟨by repeat (first | (with_reducible first | exact HB.out | apply aH | apply aE | apply aG | refine aN ?_ GE131.out) | exact HB.out)⟩⟩
      ·replace c6 := Bool.eq_false_iff.mpr c6
       subst c6
       have H1 : (some false) = some r := by rw [if_neg (show ¬ (false = true) by decide)] at H; exact H
       clear H
       have H := H1
       clear H1
       obtain rfl := Option.some.inj H
       have p130 : 0 ≤ (x7_1 : Int) := lE (by first | (with_reducible assumption) | assumption)
       have q130 : x7_1 < (l0.length : Int) := lE (by first | (with_reducible assumption) | assumption)
       obtain ⟨ad130, e130, hx130_0, hx130_1, hx130_2, hx130_3, hx130_4⟩ := at_T27 HR0.out x7_1 p130 q130
       cases e130
       replace hx130_0 := (HB.out.cell (lD w _ hx130_0)).trans hx130_0
       replace hx130_1 := (HB.out.cell (lD w _ hx130_1)).trans hx130_1
       replace hx130_2 := (HB.out.cell (lD w _ hx130_2)).trans hx130_2
       replace hx130_3 := (HB.out.cell (lD w _ hx130_3)).trans hx130_3
       replace hx130_4 := (HB.out.cell (lD w _ hx130_4)).trans hx130_4
       replace p130 := eq_true p130
       replace q130 := eq_true q130
       try go_wp2_with (first | ((with_reducible refine bG (N := 4) rfl ?_); refine bJ ?hg (N := 4) ?hd (cs := #[.int .i64 0, .int .i64 0, .int .i64 0, .int .i64 0, .int .i64 0]) (t := 27) ?hr ?_; (case hd => rfl); (case hg => rfl); (case hr => first | (go_simp; done) | (go_simp; rfl)); intro gb131 hg w30 hbox hb; have n0_ := aA.mk (aV (by repeat (first | (with_reducible first | exact HB.out | apply aH | apply aE | apply aG) | exact HB.out)) hb); have n1_ := aA.mk (hbox); have n2_ := aA.mk ((by rw [hg]; exact (aW (by repeat (first | (with_reducible first | exact HB.out | apply aH | apply aE | apply aG) | exact HB.out))) : w.heap.size ≤ gb131)); have n3_ := aA.mk ((by rw [hg]; exact (aW (by repeat (first | (with_reducible first | exact HB.out | apply aH | apply aE | apply aG) | exact HB.out))) : w.heap.size ≤ gb131)); clear HB; have HB := n0_; have BK131 := n1_; have GW131 := n2_; have GE131 := n3_; clear n0_ n1_ n2_ n3_; clear hb hbox hg; have hcz31_0 : w30.cell? ⟨gb131, 0, none⟩ = some (.int .i64 0) := (aC BK131.out 0).trans rfl; have hcz31_1 : w30.cell? ⟨gb131, 1, none⟩ = some (.int .i64 0) := (aC BK131.out 1).trans rfl; have hcz31_2 : w30.cell? ⟨gb131, 2, none⟩ = some (.int .i64 0) := (aC BK131.out 2).trans rfl; have hcz31_3 : w30.cell? ⟨gb131, 3, none⟩ = some (.int .i64 0) := (aC BK131.out 3).trans rfl; have hcz31_4 : w30.cell? ⟨gb131, 4, none⟩ = some (.int .i64 0) := (aC BK131.out 4).trans rfl; have hfz31_0 := aD BK131.out 0; have hfz31_1 := aD BK131.out 1; have hfz31_2 := aD BK131.out 2; have hfz31_3 := aD BK131.out 3; have hfz31_4 := aD BK131.out 4))
       have n0_ : aA ((((((w30.setCell ⟨gb131, 0, none⟩ (.int .i64 ((rd_T27 l0 x7_1).f0))).setCell ⟨gb131, 1, none⟩ (.int .i64 ((rd_T27 l0 x7_1).f1))).setCell ⟨gb131, 2, none⟩ (.int .i64 ((rd_T27 l0 x7_1).f2))).setCell ⟨gb131, 3, none⟩ (.int .i64 ((rd_T27 l0 x7_1).f3))).setCell ⟨gb131, 4, none⟩ (.int .i64 ((rd_T27 l0 x7_1).f4))).heap[gb131]? = some (.cells #[.int .i64 ((rd_T27 l0 x7_1).f0), .int .i64 ((rd_T27 l0 x7_1).f1), .int .i64 ((rd_T27 l0 x7_1).f2), .int .i64 ((rd_T27 l0 x7_1).f3), .int .i64 ((rd_T27 l0 x7_1).f4)] 27 (0, 0))) := ⟨by (with_reducible repeat (first | refine aK ?_ _ | refine aM ?_ | refine aJ ?_ _)); refine aU (cs := #[.int .i64 ((rd_T27 l0 x7_1).f0), .int .i64 ((rd_T27 l0 x7_1).f1), .int .i64 ((rd_T27 l0 x7_1).f2), .int .i64 ((rd_T27 l0 x7_1).f3), .int .i64 0]) ?_ 4 _ rfl; (with_reducible repeat (first | refine aK ?_ _ | refine aM ?_ | refine aJ ?_ _)); refine aU (cs := #[.int .i64 ((rd_T27 l0 x7_1).f0), .int .i64 ((rd_T27 l0 x7_1).f1), .int .i64 ((rd_T27 l0 x7_1).f2), .int .i64 0, .int .i64 0]) ?_ 3 _ rfl; (with_reducible repeat (first | refine aK ?_ _ | refine aM ?_ | refine aJ ?_ _)); refine aU (cs := #[.int .i64 ((rd_T27 l0 x7_1).f0), .int .i64 ((rd_T27 l0 x7_1).f1), .int .i64 0, .int .i64 0, .int .i64 0]) ?_ 2 _ rfl; (with_reducible repeat (first | refine aK ?_ _ | refine aM ?_ | refine aJ ?_ _)); refine aU (cs := #[.int .i64 ((rd_T27 l0 x7_1).f0), .int .i64 0, .int .i64 0, .int .i64 0, .int .i64 0]) ?_ 1 _ rfl; (with_reducible repeat (first | refine aK ?_ _ | refine aM ?_ | refine aJ ?_ _)); refine aU (cs := #[.int .i64 0, .int .i64 0, .int .i64 0, .int .i64 0, .int .i64 0]) ?_ 0 _ rfl; (with_reducible repeat (first | refine aK ?_ _ | refine aM ?_ | refine aJ ?_ _)); exact BK131.out⟩
       have n1_ : aA (Below w.heap.size w (((((w30.setCell ⟨gb131, 0, none⟩ (.int .i64 ((rd_T27 l0 x7_1).f0))).setCell ⟨gb131, 1, none⟩ (.int .i64 ((rd_T27 l0 x7_1).f1))).setCell ⟨gb131, 2, none⟩ (.int .i64 ((rd_T27 l0 x7_1).f2))).setCell ⟨gb131, 3, none⟩ (.int .i64 ((rd_T27 l0 x7_1).f3))).setCell ⟨gb131, 4, none⟩ (.int .i64 ((rd_T27 l0 x7_1).f4)))) := ⟨by repeat (first | (with_reducible first | exact HB.out | apply aH | apply aE | apply aG | refine aN ?_ GE131.out) | exact HB.out)⟩
       (try clear BK131)
       (try clear HB)
       generalize (((((w30.setCell ⟨gb131, 0, none⟩ (.int .i64 ((rd_T27 l0 x7_1).f0))).setCell ⟨gb131, 1, none⟩ (.int .i64 ((rd_T27 l0 x7_1).f1))).setCell ⟨gb131, 2, none⟩ (.int .i64 ((rd_T27 l0 x7_1).f2))).setCell ⟨gb131, 3, none⟩ (.int .i64 ((rd_T27 l0 x7_1).f3))).setCell ⟨gb131, 4, none⟩ (.int .i64 ((rd_T27 l0 x7_1).f4))) = w32 at n0_ n1_ ⊢
       have BK131 := n0_
       have HB := n1_
       clear n0_ n1_
       have n0_ := aA.mk (aM BK131.out)
       have n1_ := aA.mk (aG HB.out)
       clear BK131
       clear HB
       have BK131 := n0_
       have HB := n1_
       clear n0_ n1_
       refine start_ (n := 17) (S := fun w' => w'.cell? ⟨gb131, 0, none⟩ = some (.int .i64 ((rd_T27 l0 x7_1).f0)) ∧ w'.cell? ⟨gb131, 1, none⟩ = some (.int .i64 ((rd_T27 l0 x7_1).f1)) ∧ w'.cell? ⟨gb131, 2, none⟩ = some (.int .i64 ((rd_T27 l0 x7_1).f2)) ∧ w'.cell? ⟨gb131, 3, none⟩ = some (.int .i64 ((rd_T27 l0 x7_1).f3)) ∧ w'.cell? ⟨gb131, 4, none⟩ = some (.int .i64 ((rd_T27 l0 x7_1).f4))) (ds := []) #[false, false, false, false, false, false, false, false, false, false, false, false, false, false, false, false, false] (by kernel_rfl) rfl rfl ⟨(aC BK131.out 0).trans rfl, (aC BK131.out 1).trans rfl, (aC BK131.out 2).trans rfl, (aC BK131.out 3).trans rfl, (aC BK131.out 4).trans rfl⟩ (fun hHeld => ?_); refine with_tabW impl_SetOk.tab4 impl_SetOk.bits4 (fun HT_ HW_ => ?_)
       generalize w32.drew = w33 at BK131 HB hHeld ⊢
       refine take_ (i := 0) (N := some 12) (v := ?_) (a' := ?_) #[true, false, false, false, false, false, false, false, false, false, false, false, false, false, false, false, false] rfl rfl (take_ofW HT_.out HW_.out (by kernel_rfl)) (fun _ _ _ h => h) (Or.inl ⟨by rfl, ?_⟩) hHeld ?_ ?_
       rotate_left
       ·rintro w' ⟨s0, s1, s2, s3, s4⟩
        go_simp
        with_reducible rfl
       rotate_left
       ·simp only [Act.put, lA, lB, lC, aZ, bA]
        rfl
       refine one_ (i := 1) (N := some 13) #[true, true, false, false, false, false, false, false, false, false, false, false, false, false, false, false, false] rfl rfl (one_of HT_.out (by kernel_rfl)) (by decide) (fun K hK => ?_)
       refine goes_ Try.func30 (by kernel_rfl) rfl #[.agg #[.int .i64 ((rd_T27 l0 x7_1).f0), .int .i64 ((rd_T27 l0 x7_1).f1), .int .i64 ((rd_T27 l0 x7_1).f2), .int .i64 ((rd_T27 l0 x7_1).f3), .int .i64 ((rd_T27 l0 x7_1).f4)]] (by rfl) rfl rfl (by (try simp only [List.map_toArray, List.map_cons, List.map_nil]); first | done | rfl | (simp only [List.length_drop, List.length_take]; rfl)) ?_
       with_reducible refine (impl_KeyOk.calls k1 ((rd_T27 l0 x7_1).f0) ((rd_T27 l0 x7_1).f1) ((rd_T27 l0 x7_1).f2) ((rd_T27 l0 x7_1).f3) ((rd_T27 l0 x7_1).f4) false _ A5.out).mono ?_
       rintro e w34 ⟨rfl, hb⟩
       refine ⟨_, rfl, ?_⟩
       have n0_ := aA.mk (bB (g := gb131) (o := .cells #[.int .i64 ((rd_T27 l0 x7_1).f0), .int .i64 ((rd_T27 l0 x7_1).f1), .int .i64 ((rd_T27 l0 x7_1).f2), .int .i64 ((rd_T27 l0 x7_1).f3), .int .i64 ((rd_T27 l0 x7_1).f4)] 27 (0, 0)) (by (with_reducible repeat (first | refine aK ?_ _ | refine aM ?_ | refine aJ ?_ _)); exact BK131.out) hb)
       have n1_ := aA.mk (aV (by repeat (first | (with_reducible first | exact HB.out | apply aH | apply aE | apply aG | refine aN ?_ GE131.out) | exact HB.out)) hb)
       clear BK131
       clear HB
       have BK131 := n0_
       have HB := n1_
       clear n0_ n1_
       (try clear hb)
       (try clear hb2)
       (try clear hk)
       (try clear hi)
       refine hK.out _ _ ⟨(aC BK131.out 0).trans rfl, (aC BK131.out 1).trans rfl, (aC BK131.out 2).trans rfl, (aC BK131.out 3).trans rfl, (aC BK131.out 4).trans rfl⟩ (fun hHeld => ?_)
       clear hK K
       refine norm_ (a' := ?_) ?_ ?_
       rotate_left
       ·show Act.put _ (some 13) _ = _
        simp only [Act.put, lA, lB, lC, aZ, bA]
        rfl
       refine bF (i := 2) (N := some 14) (v := ?_) (a' := ?_) #[true, true, true, false, false, false, false, false, false, false, false, false, false, false, false, false, false] rfl rfl (bH HT_.out (by kernel_rfl)) (fun _ _ _ h => h) (Or.inl ⟨by rfl, ?_⟩) ?_ ?_
       rotate_left
       ·intro w'
        go_simp
        with_reducible rfl
       rotate_left
       ·simp only [Act.put, lA, lB, lC, aZ, bA]
        rfl
       refine bF (i := 3) (N := some 15) (v := ?_) (a' := ?_) #[true, true, true, true, false, false, false, false, false, false, false, false, false, false, false, false, false] rfl rfl (bH HT_.out (by kernel_rfl)) (fun _ _ _ h => h) (Or.inl ⟨by rfl, ?_⟩) ?_ ?_
       rotate_left
       ·intro w'
        go_simp
        with_reducible rfl
       rotate_left
       ·simp only [Act.put, lA, lB, lC, aZ, bA]
        rfl
       refine bF (i := 4) (N := some 16) (v := undef) (a' := ?_) #[true, true, true, true, true, false, false, false, false, false, false, false, false, false, false, false, false] rfl rfl (bH HT_.out (by kernel_rfl)) (fun _ _ _ h => h) (Or.inr ⟨by rfl, rfl⟩) ?_ ?_
       rotate_left
       ·simp only [Act.put, lA, lB, lC, aZ, bA]
        rfl
       refine bF (i := 5) (N := some 17) (v := undef) (a' := ?_) #[true, true, true, true, true, true, false, false, false, false, false, false, false, false, false, false, false] rfl rfl (bH HT_.out (by kernel_rfl)) (fun _ _ _ h => h) (Or.inr ⟨by rfl, rfl⟩) ?_ ?_
       rotate_left
       ·simp only [Act.put, lA, lB, lC, aZ, bA]
        rfl
       refine bF (i := 6) (N := some 18) (v := undef) (a' := ?_) #[true, true, true, true, true, true, true, false, false, false, false, false, false, false, false, false, false] rfl rfl (bH HT_.out (by kernel_rfl)) (fun _ _ _ h => h) (Or.inr ⟨by rfl, rfl⟩) ?_ ?_
       rotate_left
       ·simp only [Act.put, lA, lB, lC, aZ, bA]
        rfl
       refine bF (i := 7) (N := some 19) (v := undef) (a' := ?_) #[true, true, true, true, true, true, true, true, false, false, false, false, false, false, false, false, false] rfl rfl (bH HT_.out (by kernel_rfl)) (fun _ _ _ h => h) (Or.inr ⟨by rfl, rfl⟩) ?_ ?_
       rotate_left
       ·simp only [Act.put, lA, lB, lC, aZ, bA]
        rfl
       refine bF (i := 8) (N := some 20) (v := undef) (a' := ?_) #[true, true, true, true, true, true, true, true, true, false, false, false, false, false, false, false, false] rfl rfl (bH HT_.out (by kernel_rfl)) (fun _ _ _ h => h) (Or.inr ⟨by rfl, rfl⟩) ?_ ?_
       rotate_left
       ·simp only [Act.put, lA, lB, lC, aZ, bA]
        rfl
       refine bF (i := 9) (N := some 21) (v := undef) (a' := ?_) #[true, true, true, true, true, true, true, true, true, true, false, false, false, false, false, false, false] rfl rfl (bH HT_.out (by kernel_rfl)) (fun _ _ _ h => h) (Or.inr ⟨by rfl, rfl⟩) ?_ ?_
       rotate_left
       ·simp only [Act.put, lA, lB, lC, aZ, bA]
        rfl
       refine bF (i := 10) (N := some 22) (v := undef) (a' := ?_) #[true, true, true, true, true, true, true, true, true, true, true, false, false, false, false, false, false] rfl rfl (bH HT_.out (by kernel_rfl)) (fun _ _ _ h => h) (Or.inr ⟨by rfl, rfl⟩) ?_ ?_
       rotate_left
       ·simp only [Act.put, lA, lB, lC, aZ, bA]
        rfl
       refine bF (i := 11) (N := some 23) (v := undef) (a' := ?_) #[true, true, true, true, true, true, true, true, true, true, true, true, false, false, false, false, false] rfl rfl (bH HT_.out (by kernel_rfl)) (fun _ _ _ h => h) (Or.inr ⟨by rfl, rfl⟩) ?_ ?_
       rotate_left
       ·simp only [Act.put, lA, lB, lC, aZ, bA]
        rfl
       refine bF (i := 12) (N := some 24) (v := undef) (a' := ?_) #[true, true, true, true, true, true, true, true, true, true, true, true, true, false, false, false, false] rfl rfl (bH HT_.out (by kernel_rfl)) (fun _ _ _ h => h) (Or.inr ⟨by rfl, rfl⟩) ?_ ?_
       rotate_left
       ·simp only [Act.put, lA, lB, lC, aZ, bA]
        rfl
       refine bF (i := 13) (N := some 25) (v := undef) (a' := ?_) #[true, true, true, true, true, true, true, true, true, true, true, true, true, true, false, false, false] rfl rfl (bH HT_.out (by kernel_rfl)) (fun _ _ _ h => h) (Or.inr ⟨by rfl, rfl⟩) ?_ ?_
       rotate_left
       ·simp only [Act.put, lA, lB, lC, aZ, bA]
        rfl
       refine bF (i := 14) (N := some 26) (v := undef) (a' := ?_) #[true, true, true, true, true, true, true, true, true, true, true, true, true, true, true, false, false] rfl rfl (bH HT_.out (by kernel_rfl)) (fun _ _ _ h => h) (Or.inr ⟨by rfl, rfl⟩) ?_ ?_
       rotate_left
       ·simp only [Act.put, lA, lB, lC, aZ, bA]
        rfl
       refine bF (i := 15) (N := some 27) (v := undef) (a' := ?_) #[true, true, true, true, true, true, true, true, true, true, true, true, true, true, true, true, false] rfl rfl (bH HT_.out (by kernel_rfl)) (fun _ _ _ h => h) (Or.inr ⟨by rfl, rfl⟩) ?_ ?_
       rotate_left
       ·simp only [Act.put, lA, lB, lC, aZ, bA]
        rfl
       refine bF (i := 16) (N := some 28) (v := ?_) (a' := ?_) #[true, true, true, true, true, true, true, true, true, true, true, true, true, true, true, true, true] rfl rfl (bH HT_.out (by kernel_rfl)) (fun _ _ _ h => h) (Or.inl ⟨by rfl, ?_⟩) ?_ ?_
       rotate_left
       ·intro w'
        go_simp
        with_reducible rfl
       rotate_left
       ·simp only [Act.put, lA, lB, lC, aZ, bA]
        rfl
       refine done_ (done_of HT_.out (by kernel_rfl)) ?_
       try go_wp2
       go_ret
       exact ⟨by first | rfl | (simp [errW_none, errW_some] <;> rfl) | (simp [*, errW_none, errW_some] <;> rfl), by repeat (first | (with_reducible first | exact HB.out | apply aH | apply aE | apply aG | refine aN ?_ GE131.out) | exact HB.out)⟩
     ·rw [if_neg c4] at H
      exact absurd H (by simp)
    ·rw [if_neg c3] at H
     exact absurd H (by simp)
   ·rw [if_neg c2] at H
    have c2b0 : decide (x7_1 < (l0.length : Int)) = false := decide_eq_false c2
    clear c2
    obtain rfl := Option.some.inj H
    go_wp2
    go_ret
    exact ⟨by first | rfl | (simp [errW_none, errW_some] <;> rfl) | (simp [*, errW_none, errW_some] <;> rfl), by repeat (first | (with_reducible first | exact HB.out | apply aH | apply aE | apply aG) | exact HB.out)⟩
end Go.Proofs.Ytkaoiaolbhklnaa.PFnSetsBent
