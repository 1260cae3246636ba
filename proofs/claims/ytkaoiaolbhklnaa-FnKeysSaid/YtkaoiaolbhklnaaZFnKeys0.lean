/- The law: the functions that it reaches, each with the proof that the machine's call comes to its answer, what they answer, and the law's row; each theorem says its conditions itself. -/
import Derived.Test.YtkaoiaolbhklnaaVFnKeys
import Derived.Test.YtkaoiaolbhklnaaProg
import Derived.Below
import Derived.Deep.Draws
import Derived.Deep.AppendLies
import Derived.Maps.AppendAt
import Derived.OwnWalk
import Derived.Laws.BytesArg
import Derived.Laws.MakeOwn
import Derived.Laws.OwnMore
import Derived.Deep.OwnRows
import Derived.Tactics
import Derived.Lib.ConvBytes
import Derived.Laws.Slices
import Derived.WalkKit
import Derived.KernelRfl
import Derived.RowKit3
import Derived.Deep.LoopGhost
import Derived.Deep.QuietTactic
import Derived.BigQuiet
import Derived.WideLaws
import Derived.Deep.DeepCutAuto
import Derived.Deep.CutBlock
import Derived.Deep.RegionHeld3
import Derived.Laws.Rows
import Derived.Lib.AppendStr
import Derived.ArgAppend
import Derived.Laws.IdiomCopy
import Derived.OrdersHeld
import Derived.Laws.BitsLemmas
import Derived.RowKit
namespace Go.Proofs.Ytkaoiaolbhklnaa.PFnKeys
open Go.RowKit Go.Proofs.YtkaoiaolbhklnaaW.PrintWords Go.Proofs.YtkaoiaolbhklnaaW.PrintLast Go.Proofs.YtkaoiaolbhklnaaW.PrintMore
attribute [local go_sem] max2_int min2_int max_two min_two max_three min_three max_four min_four   -- for this text's walks alone
set_option linter.unusedVariables false
set_option linter.unusedSimpArgs false
def errW : Option Int → Value
 | none => .nilIface
 | some c => .iface 0 (.int .i64 c)
theorem errW_none : errW none = .nilIface := rfl
theorem errW_some (c : Int) : errW (some c) = .iface 0 (.int .i64 c) := rfl
theorem info5 : (Try.prog.info? 5).map (fun i => (i.zero, i.size, i.bytes)) = some (some (.int .u8 0), 1, 1) := by kernel_rfl
-- the values' own types
def rd_L1 (xs : List (List Int)) (i : Int) : (List Int) := xs.getD i.toNat ([] : List Int)
theorem at_L1 {w : World} {A : Option Addr} {n : Nat} {xs : List (List Int)} (h : Kd.C (Kd.slice 5 (Kd.int .u8)) w A n xs) (i : Int) (h0 : 0 ≤ i) (h1 : i < n) : ∃ ad A0 c0, A = some ad ∧ w.cell? (ad.add i.toNat) = some (.slice A0 (rd_L1 xs i).length c0) ∧ (rd_L1 xs i).length ≤ c0 ∧ (Kd.int .u8).C w A0 (rd_L1 xs i).length (rd_L1 xs i) := by
 obtain ⟨ad, c, e, _, hK, hc0⟩ := Kd.C_get h ([] : List Int) i h0 h1
 have hc : ∀ j u, c[j]? = some u → w.cell? (ad.add (i.toNat * 1 + j)) = some u := hc0
 obtain ⟨A0, c0, rfl, l0, g0⟩ := hK
 exact ⟨ad, A0, c0, e, by have hq := hc 0 _ rfl; rwa [Nat.mul_one, Nat.add_zero] at hq, l0, g0⟩
end Go.Proofs.Ytkaoiaolbhklnaa.PFnKeys

namespace Go.Proofs.Ytkaoiaolbhklnaa.PFnKeys
open Go.RowKit Go.Proofs.YtkaoiaolbhklnaaW.PrintWords Go.Proofs.YtkaoiaolbhklnaaW.PrintLast Go.Proofs.YtkaoiaolbhklnaaW.PrintMore
attribute [local go_sem] max2_int min2_int max_two min_two max_three min_three max_four min_four   -- for this text's walks alone
set_option linter.unusedVariables false
set_option linter.unusedSimpArgs false
theorem eqA27 (d : Nat) (w : World) (x0 y0 : Int) (x1 y1 : Int) (x2 y2 : Int) (x3 y3 : Int) (x4 y4 : Int) :
  (Op.equalIn (d + 2) 27 (.agg #[.int .i64 x0, .int .i64 x1, .int .i64 x2, .int .i64 x3, .int .i64 x4]) (.agg #[.int .i64 y0, .int .i64 y1, .int .i64 y2, .int .i64 y3, .int .i64 y4])).run Try.prog w = .ok (x0 == y0 && (x1 == y1 && (x2 == y2 && (x3 == y3 && (x4 == y4))))) w := by
 refine eqA_of Try.underlying27 (by kernel_rfl) ?_
 refine eqf_cons (by rfl) (by go_simp; rfl) (by go_simp; rfl) (by go_simp) ?_
 refine eqf_cons (by rfl) (by go_simp; rfl) (by go_simp; rfl) (by go_simp) ?_
 refine eqf_cons (by rfl) (by go_simp; rfl) (by go_simp; rfl) (by go_simp) ?_
 refine eqf_cons (by rfl) (by go_simp; rfl) (by go_simp; rfl) (by go_simp) ?_
 exact eqf_last (by rfl) (by go_simp; rfl) (by go_simp; rfl) (by go_simp)
end Go.Proofs.Ytkaoiaolbhklnaa.PFnKeys

namespace Go.Proofs.Ytkaoiaolbhklnaa.PFnKeys
open Go.RowKit Go.Proofs.YtkaoiaolbhklnaaW.PrintWords Go.Proofs.YtkaoiaolbhklnaaW.PrintLast Go.Proofs.YtkaoiaolbhklnaaW.PrintMore
attribute [local go_sem] max2_int min2_int max_two min_two max_three min_three max_four min_four   -- for this text's walks alone
set_option linter.unusedVariables false
set_option linter.unusedSimpArgs false
def impl_within.f (a0 : Int) (a1 : Int) (a2 : Int) : Option (Bool) := if a0 ≥ a1 then (some (decide (a0 ≤ a2))) else (some false)
set_option maxHeartbeats 8000000 in
set_option maxRecDepth 100000 in
theorem impl_within.calls (a0 : Int) (a1 : Int) (a2 : Int) (r : Bool) (w : World) (h : impl_within.f a0 a1 a2 = some r) :
  Calls Try.prog 74 #[.int .i64 a0, .int .i64 a1, .int .i64 a2] w fun e w' => e = .returned (.bool r) ∧ Drawn0 w w' := by
 have H : (if a0 ≥ a1 then (some (decide (a0 ≤ a2))) else (some false)) = some r := h
 clear h
 by_cases c4 : a0 ≥ a1
 ·rw [if_pos c4] at H
  have c4b0 : decide (a1 ≤ a0) = true := decide_eq_true c4
  clear c4
  obtain rfl := Option.some.inj H
  go_enter Try.func74, Try.ntmps74
  go_wp2
  go_ret
  exact ⟨by first | rfl | (simp; done) | (simp [*]; done), by repeat (first | exact Drawn0.refl _ | apply Drawn0.step)⟩
 ·rw [if_neg c4] at H
  have c4b0 : decide (a1 ≤ a0) = false := decide_eq_false c4
  clear c4
  obtain rfl := Option.some.inj H
  go_enter Try.func74, Try.ntmps74
  go_wp2
  go_ret
  exact ⟨by first | rfl | (simp; done) | (simp [*]; done), by repeat (first | exact Drawn0.refl _ | apply Drawn0.step)⟩
def impl_KeyOk.j0 : Nat → Bool → Int → Int → Int → Int → Int → Option (Bool)
 | 0, _, _, _, _, _, _ => none
 | k + 1, x18, x102000, x102001, x102002, x102003, x102004 => if x18 = true then (some false) else (if x102002 = 1 then ((impl_within.f x102003 0 23).bind fun t105 => (if t105 = true then ((impl_within.f x102004 0 999).bind fun t106 => (some t106)) else (some false))) else (if x102003 = 0 then (some (x102004 == 0)) else (some false)))
def impl_KeyOk.f (k : Nat) (a0_0 : Int) (a0_1 : Int) (a0_2 : Int) (a0_3 : Int) (a0_4 : Int) : Option (Bool) := (impl_within.f a0_0 0 15).bind fun t102 => (if t102 = true then ((impl_within.f a0_1 1 60).bind fun t103 => (if t103 = true then ((impl_within.f a0_2 0 2).bind fun t104 => (impl_KeyOk.j0 k (!t104) a0_0 a0_1 a0_2 a0_3 a0_4)) else (impl_KeyOk.j0 k true a0_0 a0_1 a0_2 a0_3 a0_4))) else (impl_KeyOk.j0 k true a0_0 a0_1 a0_2 a0_3 a0_4))
set_option maxHeartbeats 8000000 in
set_option maxRecDepth 100000 in
theorem impl_KeyOk.calls (k : Nat) (a0_0 : Int) (a0_1 : Int) (a0_2 : Int) (a0_3 : Int) (a0_4 : Int) (r : Bool) (w : World) (h : impl_KeyOk.f k a0_0 a0_1 a0_2 a0_3 a0_4 = some r) :
  Calls Try.prog 30 #[.agg #[.int .i64 a0_0, .int .i64 a0_1, .int .i64 a0_2, .int .i64 a0_3, .int .i64 a0_4]] w fun e w' => e = .returned (.bool r) ∧ Below w.heap.size w w' := by
 have hu27 := Try.underlying27
 have HB := aK.mk (Below.refl w.heap.size w)
 have H : ((impl_within.f a0_0 0 15).bind fun t102 => (if t102 = true then ((impl_within.f a0_1 1 60).bind fun t103 => (if t103 = true then ((impl_within.f a0_2 0 2).bind fun t104 => (impl_KeyOk.j0 k (!t104) a0_0 a0_1 a0_2 a0_3 a0_4)) else (impl_KeyOk.j0 k true a0_0 a0_1 a0_2 a0_3 a0_4))) else (impl_KeyOk.j0 k true a0_0 a0_1 a0_2 a0_3 a0_4))) = some r := h
 clear h
 have HC2 := aK.mk H
 clear H
 go_enter Try.func30, Try.ntmps30
 go_upto_region 1 with (first | ((with_reducible refine bV (N := 1) rfl ?_); refine bZ ?hg (N := 1) ?hd (cs := #[.int .i64 a0_0, .int .i64 a0_1, .int .i64 a0_2, .int .i64 a0_3, .int .i64 a0_4]) (t := 27) ?hr ?_; (case hd => rfl); (case hg => rfl); (case hr => first | (go_simp; done) | (go_simp; rfl)); intro gb101 hg w3 hbox hb; have n0_ := aK.mk (bL (by repeat (first | (with_reducible first | exact HB.out | apply aU | apply aM | apply aT) | exact HB.out)) hb); have n1_ := aK.mk (hbox); have n2_ := aK.mk ((by rw [hg]; exact (bN (by repeat (first | (with_reducible first | exact HB.out | apply aU | apply aM | apply aT) | exact HB.out))) : w.heap.size ≤ gb101)); have n3_ := aK.mk ((by rw [hg]; exact (bN (by repeat (first | (with_reducible first | exact HB.out | apply aU | apply aM | apply aT) | exact HB.out))) : w.heap.size ≤ gb101)); clear HB; have HB := n0_; have BK101 := n1_; have GW101 := n2_; have GE101 := n3_; clear n0_ n1_ n2_ n3_; clear hb hbox hg))
 (try simp only [Act.put, lA, lB, lC])
 go_cut [18] (fun v18 wc => ∃ (kq : Nat) (x18_1 : Bool), v18 = .bool x18_1 ∧ aK (impl_KeyOk.j0 kq x18_1 a0_0 a0_1 a0_2 a0_3 a0_4 = some r) ∧ aK (kq ≤ k) ∧ aK (wc.heap[gb101]? = some (.cells #[.int .i64 a0_0, .int .i64 a0_1, .int .i64 a0_2, .int .i64 a0_3, .int .i64 a0_4] 27 (0, 0))) ∧ aK (Below w.heap.size w wc))
 case first =>
  have H := HC2.out
  clear HC2
  replace H := lF H
  obtain ⟨t102, A40, H⟩ := H
  replace H : (if t102 = true then ((impl_within.f a0_1 1 60).bind fun t103 => (if t103 = true then ((impl_within.f a0_2 0 2).bind fun t104 => (impl_KeyOk.j0 k (!t104) a0_0 a0_1 a0_2 a0_3 a0_4)) else (impl_KeyOk.j0 k true a0_0 a0_1 a0_2 a0_3 a0_4))) else (impl_KeyOk.j0 k true a0_0 a0_1 a0_2 a0_3 a0_4)) = some r := H
  have A4 := aK.mk A40
  clear A40
  by_cases c5 : t102 = true
  ·subst c5
   have H1 : ((impl_within.f a0_1 1 60).bind fun t103 => (if t103 = true then ((impl_within.f a0_2 0 2).bind fun t104 => (impl_KeyOk.j0 k (!t104) a0_0 a0_1 a0_2 a0_3 a0_4)) else (impl_KeyOk.j0 k true a0_0 a0_1 a0_2 a0_3 a0_4))) = some r := by rw [if_pos rfl] at H; exact H
   clear H
   have H := H1
   clear H1
   replace H := lF H
   obtain ⟨t103, A60, H⟩ := H
   replace H : (if t103 = true then ((impl_within.f a0_2 0 2).bind fun t104 => (impl_KeyOk.j0 k (!t104) a0_0 a0_1 a0_2 a0_3 a0_4)) else (impl_KeyOk.j0 k true a0_0 a0_1 a0_2 a0_3 a0_4)) = some r := H
   have A6 := aK.mk A60
   clear A60
   by_cases c7 : t103 = true
   ·subst c7
    have H1 : ((impl_within.f a0_2 0 2).bind fun t104 => (impl_KeyOk.j0 k (!t104) a0_0 a0_1 a0_2 a0_3 a0_4)) = some r := by rw [if_pos rfl] at H; exact H
    clear H
    have H := H1
    clear H1
    replace H := lF H
    obtain ⟨t104, A80, H⟩ := H
    replace H : (impl_KeyOk.j0 k (!t104) a0_0 a0_1 a0_2 a0_3 a0_4) = some r := H
    have A8 := aK.mk A80
    clear A80
    have H' := aK.mk H
    clear H
    have hcz9_0 : w3.cell? ⟨gb101, 0, none⟩ = some (.int .i64 a0_0) := (aQ BK101.out 0).trans rfl
    have hcz9_1 : w3.cell? ⟨gb101, 1, none⟩ = some (.int .i64 a0_1) := (aQ BK101.out 1).trans rfl
    have hcz9_2 : w3.cell? ⟨gb101, 2, none⟩ = some (.int .i64 a0_2) := (aQ BK101.out 2).trans rfl
    have hcz9_3 : w3.cell? ⟨gb101, 3, none⟩ = some (.int .i64 a0_3) := (aQ BK101.out 3).trans rfl
    have hcz9_4 : w3.cell? ⟨gb101, 4, none⟩ = some (.int .i64 a0_4) := (aQ BK101.out 4).trans rfl
    have hfz9_0 := aN BK101.out 0
    have hfz9_1 := aN BK101.out 1
    have hfz9_2 := aN BK101.out 2
    have hfz9_3 := aN BK101.out 3
    have hfz9_4 := aN BK101.out 4
    go_wp2_with (first | ((with_reducible refine bR (f := 74) rfl ?_); refine bX (some 5) rfl rfl Try.func74 (by kernel_rfl) rfl #[.int .i64 a0_0, .int .i64 0, .int .i64 15] rfl (by (try simp only [List.map_toArray, List.map_cons, List.map_nil]); first | done | rfl | (simp only [List.length_drop, List.length_take]; rfl)) ?_; (with_reducible refine (impl_within.calls a0_0 0 15 true _ A4.out).mono ?_); rintro e w' ⟨rfl, ⟨nd, rfl⟩⟩; refine ⟨_, rfl, ?_⟩) | (go_at_call 74; (with_reducible refine (impl_within.calls a0_1 1 60 true _ A6.out).mono ?_); rintro e w' ⟨rfl, ⟨nd, rfl⟩⟩) | (go_at_call 74; (with_reducible refine (impl_within.calls a0_2 0 2 t104 _ A8.out).mono ?_); rintro e w' ⟨rfl, ⟨nd, rfl⟩⟩))
    go_meet
    case rel => exact ⟨_, (!t104), (by first | rfl | (simp; done) | (simp [*]; done)), H', ⟨by first | omega | exact Nat.le_refl _⟩, ⟨by (with_reducible repeat (first | refine aW ?_ _ | refine aX ?_ | refine aV ?_ _)); exact BK101.out⟩, ⟨by repeat (first | (with_reducible first | exact HB.out | apply aU | apply aM | apply aT | refine aY ?_ GE101.out) | exact HB.out)⟩⟩
   ·replace c7 := Bool.eq_false_iff.mpr c7
    subst c7
    have H1 : (impl_KeyOk.j0 k true a0_0 a0_1 a0_2 a0_3 a0_4) = some r := by rw [if_neg (show ¬ (false = true) by decide)] at H; exact H
    clear H
    have H := H1
    clear H1
    have H' := aK.mk H
    clear H
    have hcz10_0 : w3.cell? ⟨gb101, 0, none⟩ = some (.int .i64 a0_0) := (aQ BK101.out 0).trans rfl
    have hcz10_1 : w3.cell? ⟨gb101, 1, none⟩ = some (.int .i64 a0_1) := (aQ BK101.out 1).trans rfl
    have hcz10_2 : w3.cell? ⟨gb101, 2, none⟩ = some (.int .i64 a0_2) := (aQ BK101.out 2).trans rfl
    have hcz10_3 : w3.cell? ⟨gb101, 3, none⟩ = some (.int .i64 a0_3) := (aQ BK101.out 3).trans rfl
    have hcz10_4 : w3.cell? ⟨gb101, 4, none⟩ = some (.int .i64 a0_4) := (aQ BK101.out 4).trans rfl
    have hfz10_0 := aN BK101.out 0
    have hfz10_1 := aN BK101.out 1
    have hfz10_2 := aN BK101.out 2
    have hfz10_3 := aN BK101.out 3
    have hfz10_4 := aN BK101.out 4
    go_wp2_with (first | ((with_reducible refine bR (f := 74) rfl ?_); refine bX (some 5) rfl rfl Try.func74 (by kernel_rfl) rfl #[.int .i64 a0_0, .int .i64 0, .int .i64 15] rfl (by (try simp only [List.map_toArray, List.map_cons, List.map_nil]); first | done | rfl | (simp only [List.length_drop, List.length_take]; rfl)) ?_; (with_reducible refine (impl_within.calls a0_0 0 15 true _ A4.out).mono ?_); rintro e w' ⟨rfl, ⟨nd, rfl⟩⟩; refine ⟨_, rfl, ?_⟩) | (go_at_call 74; (with_reducible refine (impl_within.calls a0_1 1 60 false _ A6.out).mono ?_); rintro e w' ⟨rfl, ⟨nd, rfl⟩⟩))
    go_meet
    case rel => exact ⟨_, (true), (by first | rfl | (simp; done) | (simp [*]; done)), H', ⟨by first | omega | exact Nat.le_refl _⟩, ⟨by (with_reducible repeat (first | refine aW ?_ _ | refine aX ?_ | refine aV ?_ _)); exact BK101.out⟩, ⟨by repeat (first | (with_reducible first | exact HB.out | apply aU | apply aM | apply aT | refine aY ?_ GE101.out) | exact HB.out)⟩⟩
  ·replace c5 := Bool.eq_false_iff.mpr c5
   subst c5
   have H1 : (impl_KeyOk.j0 k true a0_0 a0_1 a0_2 a0_3 a0_4) = some r := by rw [if_neg (show ¬ (false = true) by decide)] at H; exact H
   clear H
   have H := H1
   clear H1
   have H' := aK.mk H
   clear H
   have hcz11_0 : w3.cell? ⟨gb101, 0, none⟩ = some (.int .i64 a0_0) := (aQ BK101.out 0).trans rfl
   have hcz11_1 : w3.cell? ⟨gb101, 1, none⟩ = some (.int .i64 a0_1) := (aQ BK101.out 1).trans rfl
   have hcz11_2 : w3.cell? ⟨gb101, 2, none⟩ = some (.int .i64 a0_2) := (aQ BK101.out 2).trans rfl
   have hcz11_3 : w3.cell? ⟨gb101, 3, none⟩ = some (.int .i64 a0_3) := (aQ BK101.out 3).trans rfl
   have hcz11_4 : w3.cell? ⟨gb101, 4, none⟩ = some (.int .i64 a0_4) := (aQ BK101.out 4).trans rfl
   have hfz11_0 := aN BK101.out 0
   have hfz11_1 := aN BK101.out 1
   have hfz11_2 := aN BK101.out 2
   have hfz11_3 := aN BK101.out 3
   have hfz11_4 := aN BK101.out 4
   go_wp2_with (first | ((with_reducible refine bR (f := 74) rfl ?_); refine bX (some 5) rfl rfl Try.func74 (by kernel_rfl) rfl #[.int .i64 a0_0, .int .i64 0, .int .i64 15] rfl (by (try simp only [List.map_toArray, List.map_cons, List.map_nil]); first | done | rfl | (simp only [List.length_drop, List.length_take]; rfl)) ?_; (with_reducible refine (impl_within.calls a0_0 0 15 false _ A4.out).mono ?_); rintro e w' ⟨rfl, ⟨nd, rfl⟩⟩; refine ⟨_, rfl, ?_⟩))
   go_meet
   case rel => exact ⟨_, (true), (by first | rfl | (simp; done) | (simp [*]; done)), H', ⟨by first | omega | exact Nat.le_refl _⟩, ⟨by (with_reducible repeat (first | refine aW ?_ _ | refine aX ?_ | refine aV ?_ _)); exact BK101.out⟩, ⟨by repeat (first | (with_reducible first | exact HB.out | apply aU | apply aM | apply aT | refine aY ?_ GE101.out) | exact HB.out)⟩⟩
 case rest =>
  clear HC2
  try clear p2
  try clear c3
  try clear c5
  try clear c7
  try clear hcz10_0
  try clear hcz10_1
  try clear hcz10_2
  try clear hcz10_3
  try clear hcz10_4
  try clear hcz11_0
  try clear hcz11_1
  try clear hcz11_2
  try clear hcz11_3
  try clear hcz11_4
  try clear hcz9_0
  try clear hcz9_1
  try clear hcz9_2
  try clear hcz9_3
  try clear hcz9_4
  try clear hfz10_0
  try clear hfz10_1
  try clear hfz10_2
  try clear hfz10_3
  try clear hfz10_4
  try clear hfz11_0
  try clear hfz11_1
  try clear hfz11_2
  try clear hfz11_3
  try clear hfz11_4
  try clear hfz9_0
  try clear hfz9_1
  try clear hfz9_2
  try clear hfz9_3
  try clear hfz9_4
  obtain ⟨kq, x18_1, rfl, HA, HJ1, BK101, HB⟩ := hcut
  cases kq with
  | zero => exact absurd HA.out (by simp [impl_KeyOk.j0])
  | succ kj1 =>
   have H := HA.out
   clear HA
   simp only [impl_KeyOk.j0] at H
   by_cases c12 : x18_1 = true
   ·subst c12
    have H1 : (some false) = some r := by rw [if_pos rfl] at H; exact H
    clear H
    have H := H1
    clear H1
    obtain rfl := Option.some.inj H
    go_wp2
    go_ret
    exact ⟨by first | rfl | (simp [errW_none, errW_some] <;> rfl) | (simp [*, errW_none, errW_some] <;> rfl), by repeat (first | (with_reducible first | exact HB.out | apply aU | apply aM | apply aT | refine aY ?_ GE101.out) | exact HB.out)⟩
   ·replace c12 := Bool.eq_false_iff.mpr c12
    subst c12
    have H1 : (if a0_2 = 1 then ((impl_within.f a0_3 0 23).bind fun t105 => (if t105 = true then ((impl_within.f a0_4 0 999).bind fun t106 => (some t106)) else (some false))) else (if a0_3 = 0 then (some (a0_4 == 0)) else (some false))) = some r := by rw [if_neg (show ¬ (false = true) by decide)] at H; exact H
    clear H
    have H := H1
    clear H1
    by_cases c13 : a0_2 = 1
    ·rw [if_pos c13] at H
     have c13b0 : (a0_2 == 1) = true := beq_iff_eq.mpr c13
     have c13b1 : (a0_2 != 1) = false := bne_eq_false_iff_eq.mpr c13
     clear c13
     replace H := lF H
     obtain ⟨t105, A140, H⟩ := H
     replace H : (if t105 = true then ((impl_within.f a0_4 0 999).bind fun t106 => (some t106)) else (some false)) = some r := H
     have A14 := aK.mk A140
     clear A140
     by_cases c15 : t105 = true
     ·subst c15
      have H1 : ((impl_within.f a0_4 0 999).bind fun t106 => (some t106)) = some r := by rw [if_pos rfl] at H; exact H
      clear H
      have H := H1
      clear H1
      replace H := lF H
      obtain ⟨t106, A160, H⟩ := H
      replace H : (some t106) = some r := H
      have A16 := aK.mk A160
      clear A160
      obtain rfl := Option.some.inj H
      have hcz17_0 : wc.cell? ⟨gb101, 0, none⟩ = some (.int .i64 a0_0) := (aQ BK101.out 0).trans rfl
      have hcz17_1 : wc.cell? ⟨gb101, 1, none⟩ = some (.int .i64 a0_1) := (aQ BK101.out 1).trans rfl
      have hcz17_2 : wc.cell? ⟨gb101, 2, none⟩ = some (.int .i64 a0_2) := (aQ BK101.out 2).trans rfl
      have hcz17_3 : wc.cell? ⟨gb101, 3, none⟩ = some (.int .i64 a0_3) := (aQ BK101.out 3).trans rfl
      have hcz17_4 : wc.cell? ⟨gb101, 4, none⟩ = some (.int .i64 a0_4) := (aQ BK101.out 4).trans rfl
      have hfz17_0 := aN BK101.out 0
      have hfz17_1 := aN BK101.out 1
      have hfz17_2 := aN BK101.out 2
      have hfz17_3 := aN BK101.out 3
      have hfz17_4 := aN BK101.out 4
      go_wp2_with (first | ((with_reducible refine bR (f := 74) rfl ?_); refine bX (some 32) rfl rfl Try.func74 (by kernel_rfl) rfl #[.int .i64 a0_3, .int .i64 0, .int .i64 23] rfl (by (try simp only [List.map_toArray, List.map_cons, List.map_nil]); first | done | rfl | (simp only [List.length_drop, List.length_take]; rfl)) ?_; (with_reducible refine (impl_within.calls a0_3 0 23 true _ A14.out).mono ?_); rintro e w' ⟨rfl, ⟨nd, rfl⟩⟩; refine ⟨_, rfl, ?_⟩) | (go_at_call 74; (with_reducible refine (impl_within.calls a0_4 0 999 t106 _ A16.out).mono ?_); rintro e w' ⟨rfl, ⟨nd, rfl⟩⟩))
      go_ret
      exact ⟨by first | rfl | (simp [errW_none, errW_some] <;> rfl) | (simp [*, errW_none, errW_some] <;> rfl), by repeat (first | (with_reducible first | exact HB.out | apply aU | apply aM | apply aT | refine aY ?_ GE101.out) | exact HB.out)⟩
     ·replace c15 := Bool.eq_false_iff.mpr c15
      subst c15
      have H1 : (some false) = some r := by rw [if_neg (show ¬ (false = true) by decide)] at H; exact H
      clear H
      have H := H1
      clear H1
      obtain rfl := Option.some.inj H
      have hcz18_0 : wc.cell? ⟨gb101, 0, none⟩ = some (.int .i64 a0_0) := (aQ BK101.out 0).trans rfl
      have hcz18_1 : wc.cell? ⟨gb101, 1, none⟩ = some (.int .i64 a0_1) := (aQ BK101.out 1).trans rfl
      have hcz18_2 : wc.cell? ⟨gb101, 2, none⟩ = some (.int .i64 a0_2) := (aQ BK101.out 2).trans rfl
      have hcz18_3 : wc.cell? ⟨gb101, 3, none⟩ = some (.int .i64 a0_3) := (aQ BK101.out 3).trans rfl
      have hcz18_4 : wc.cell? ⟨gb101, 4, none⟩ = some (.int .i64 a0_4) := (aQ BK101.out 4).trans rfl
      have hfz18_0 := aN BK101.out 0
      have hfz18_1 := aN BK101.out 1
      have hfz18_2 := aN BK101.out 2
      have hfz18_3 := aN BK101.out 3
      have hfz18_4 := aN BK101.out 4
      go_wp2_with (first | ((with_reducible refine bR (f := 74) rfl ?_); refine bX (some 32) rfl rfl Try.func74 (by kernel_rfl) rfl #[.int .i64 a0_3, .int .i64 0, .int .i64 23] rfl (by (try simp only [List.map_toArray, List.map_cons, List.map_nil]); first | done | rfl | (simp only [List.length_drop, List.length_take]; rfl)) ?_; (with_reducible refine (impl_within.calls a0_3 0 23 false _ A14.out).mono ?_); rintro e w' ⟨rfl, ⟨nd, rfl⟩⟩; refine ⟨_, rfl, ?_⟩))
      go_ret
      exact ⟨by first | rfl | (simp [errW_none, errW_some] <;> rfl) | (simp [*, errW_none, errW_some] <;> rfl), by repeat (first | (with_reducible first | exact HB.out | apply aU | apply aM | apply aT | refine aY ?_ GE101.out) | exact HB.out)⟩
    ·rw [if_neg c13] at H
     have c13b0 : (a0_2 == 1) = false := beq_eq_false_iff_ne.mpr c13
     have c13b1 : (a0_2 != 1) = true := bne_iff_ne.mpr c13
     by_cases c19 : a0_3 = 0
     ·rw [if_pos c19] at H
      have c19b0 : (a0_3 == 0) = true := beq_iff_eq.mpr c19
      have c19b1 : (a0_3 != 0) = false := bne_eq_false_iff_eq.mpr c19
      clear c19
      obtain rfl := Option.some.inj H
      have hcz20_0 : wc.cell? ⟨gb101, 0, none⟩ = some (.int .i64 a0_0) := (aQ BK101.out 0).trans rfl
      have hcz20_1 : wc.cell? ⟨gb101, 1, none⟩ = some (.int .i64 a0_1) := (aQ BK101.out 1).trans rfl
      have hcz20_2 : wc.cell? ⟨gb101, 2, none⟩ = some (.int .i64 a0_2) := (aQ BK101.out 2).trans rfl
      have hcz20_3 : wc.cell? ⟨gb101, 3, none⟩ = some (.int .i64 a0_3) := (aQ BK101.out 3).trans rfl
      have hcz20_4 : wc.cell? ⟨gb101, 4, none⟩ = some (.int .i64 a0_4) := (aQ BK101.out 4).trans rfl
      have hfz20_0 := aN BK101.out 0
      have hfz20_1 := aN BK101.out 1
      have hfz20_2 := aN BK101.out 2
      have hfz20_3 := aN BK101.out 3
      have hfz20_4 := aN BK101.out 4
      go_wp2
      go_ret
      exact ⟨by first | rfl | (simp [errW_none, errW_some] <;> rfl) | (simp [*, errW_none, errW_some] <;> rfl), by repeat (first | (with_reducible first | exact HB.out | apply aU | apply aM | apply aT | refine aY ?_ GE101.out) | exact HB.out)⟩
     ·rw [if_neg c19] at H
      have c19b0 : (a0_3 == 0) = false := beq_eq_false_iff_ne.mpr c19
      have c19b1 : (a0_3 != 0) = true := bne_iff_ne.mpr c19
      obtain rfl := Option.some.inj H
      have hcz21_0 : wc.cell? ⟨gb101, 0, none⟩ = some (.int .i64 a0_0) := (aQ BK101.out 0).trans rfl
      have hcz21_1 : wc.cell? ⟨gb101, 1, none⟩ = some (.int .i64 a0_1) := (aQ BK101.out 1).trans rfl
      have hcz21_2 : wc.cell? ⟨gb101, 2, none⟩ = some (.int .i64 a0_2) := (aQ BK101.out 2).trans rfl
      have hcz21_3 : wc.cell? ⟨gb101, 3, none⟩ = some (.int .i64 a0_3) := (aQ BK101.out 3).trans rfl
      have hcz21_4 : wc.cell? ⟨gb101, 4, none⟩ = some (.int .i64 a0_4) := (aQ BK101.out 4).trans rfl
      have hfz21_0 := aN BK101.out 0
      have hfz21_1 := aN BK101.out 1
      have hfz21_2 := aN BK101.out 2
      have hfz21_3 := aN BK101.out 3
      have hfz21_4 := aN BK101.out 4
      go_wp2
      go_ret
      exact ⟨by first | rfl | (simp [errW_none, errW_some] <;> rfl) | (simp [*, errW_none, errW_some] <;> rfl), by repeat (first | (with_reducible first | exact HB.out | apply aU | apply aM | apply aT | refine aY ?_ GE101.out) | exact HB.out)⟩
def impl_joined.l0 : Nat → List Int → List (List Int) → Int → Int → Option (List Int)
 | 0, _, _, _, _ => none
 | k + 1, x3, x7, x8, x9 => if x9 < x8 then (if 0 ≤ x9 then (if x9 < (x7.length : Int) then (if x3.length + (rd_L1 x7 x9).length < 140737488355328 then (impl_joined.l0 k (x3 ++ (rd_L1 x7 x9)) x7 x8 (wrap64 (x9 + 1))) else (none)) else (none)) else (none)) else (some x3)
def impl_joined.f (k : Nat) (l0 : List (List Int)) : Option (List Int) := impl_joined.l0 k (([] : List Int)) l0 (l0.length : Int) 0
set_option maxHeartbeats 8000000 in
set_option maxRecDepth 100000 in
theorem impl_joined.calls (k : Nat) (A0 : Option Addr) (c0 : Nat) (l0 : List (List Int)) (r : List Int) (w : World) (hr0 : Kd.C (Kd.slice 5 (Kd.int .u8)) w A0 l0.length l0) (hc0 : l0.length ≤ c0) (h : impl_joined.f k l0 = some r) :
  Calls Try.prog 63 #[.slice A0 l0.length c0] w fun e w' => ∃ v0_ : Value, e = .returned (v0_) ∧ Kd.R (Kd.int .u8) 5 w' w.heap.size (fun _ => True) v0_ r ∧ Below w.heap.size w w' := by
 have HR0 := aK.mk hr0
 have HC0 := aK.mk hc0
 clear hr0 hc0
 have HB := aK.mk (Below.refl w.heap.size w)
 have H : (impl_joined.l0 k (([] : List Int)) l0 (l0.length : Int) 0) = some r := h
 clear h
 obtain ⟨y107, hy107⟩ : ∃ y_ : List Int, y_ = (([] : List Int)) := ⟨_, rfl⟩
 replace H : (impl_joined.l0 k y107 l0 (l0.length : Int) 0) = some r := by first | (rw [hy107]; with_reducible exact H) | (have H2_ := (Option.bind_some _ _).symm.trans H; rw [hy107]; with_reducible exact H2_) | (have H2_ := (Option.bind_some _ _).symm.trans H; with_reducible exact H2_) | with_reducible exact H | (rw [hy107]; exact H) | exact H
 have Ny107 := aK.mk hy107
 clear hy107
 have H' := aK.mk H
 clear H
 go_enter Try.func63, Try.ntmps63
 go_wp2_with (first | ((with_reducible refine bV (N := 6) rfl ?_); refine Kd.R_lit (Kd.int .u8) _ 5 ?hg (N := 6) ?hd (xs := ([] : List Int)) (inner := []) (ok := fun _ => True) (okp := fun _ => True) ?hr ?hp (fun _ hk => hk) trivial (Below.refl _ _) (Nat.le_refl _) (by simp) ?_; (case hd => rfl); (case hg => rfl); (case hr => first | (go_simp; done) | (go_simp; rfl)); (case hp => exact (Reps.none _ _)); intro v108 w2 ho3 hb hg_ hnew_; clear hg_ hnew_; (first | rw [← Ny107.out] at ho3 | (simp only [Int.reduceToNat] at ho3; rw [← Ny107.out] at ho3)); have n0_ := aK.mk (Kd.R_lower ho3 (bN (by repeat (first | (with_reducible first | exact HB.out | apply aU | apply aM | apply aT) | exact HB.out)))); have n1_ := aK.mk (bL (by repeat (first | (with_reducible first | exact HB.out | apply aU | apply aM | apply aT) | exact HB.out)) hb); clear HB; have HO109 := n0_; have HB := n1_; clear n0_ n1_; clear hb ho3))
 go_loopg [3, 9] k (fun kq v3 v9 w' => ∃ (x3_1 : List Int) (x9_1 : Int), v9 = .int .i64 x9_1 ∧ aK (impl_joined.l0 kq x3_1 l0 (l0.length : Int) x9_1 = some r) ∧ aK (kq ≤ k) ∧ aK (Kd.R (Kd.int .u8) 5 w' w.heap.size (fun _ => True) v3 x3_1) ∧ aK (Below w.heap.size w w'))
 case atStart => exact ⟨(y107), (0), (by first | rfl | (simp; done) | (simp [*]; done)), H', ⟨Nat.le_refl _⟩, ⟨by (with_reducible repeat (first | apply Kd.bE | apply Kd.bF | apply Kd.bG)); exact HO109.out⟩, ⟨by repeat (first | (with_reducible first | exact HB.out | apply aU | apply aM | apply aT) | exact HB.out)⟩⟩
 case round =>
  clear H'
  try clear p2
  obtain ⟨x3_1, x9_1, rfl, HA, HK1, HO_3, HB⟩ := hrel
  cases gk with
  | zero => exact absurd HA.out (by simp [impl_joined.l0])
  | succ k1 =>
   have H := HA.out
   clear HA
   simp only [impl_joined.l0] at H
   by_cases c4 : x9_1 < (l0.length : Int)
   ·rw [if_pos c4] at H
    have c4b0 : decide (x9_1 < (l0.length : Int)) = true := decide_eq_true c4
    clear c4
    by_cases c5 : 0 ≤ x9_1
    ·rw [if_pos c5] at H
     have c5b0 : decide (0 ≤ x9_1) = true := decide_eq_true c5
     clear c5
     by_cases c6 : x9_1 < (l0.length : Int)
     ·rw [if_pos c6] at H
      have c6b0 : decide (x9_1 < (l0.length : Int)) = true := decide_eq_true c6
      clear c6
      by_cases c7 : x3_1.length + (rd_L1 l0 x9_1).length < 140737488355328
      ·rw [if_pos c7] at H
       have LMc7 := aK.mk c7
       clear c7
       obtain ⟨y111, hy111⟩ : ∃ y_ : List Int, y_ = (x3_1 ++ (rd_L1 l0 x9_1)) := ⟨_, rfl⟩
       replace H : (impl_joined.l0 k1 y111 l0 (l0.length : Int) (wrap64 (x9_1 + 1))) = some r := by first | (rw [hy111]; with_reducible exact H) | (have H2_ := (Option.bind_some _ _).symm.trans H; rw [hy111]; with_reducible exact H2_) | (have H2_ := (Option.bind_some _ _).symm.trans H; with_reducible exact H2_) | with_reducible exact H | (rw [hy111]; exact H) | exact H
       have Ny111 := aK.mk hy111
       clear hy111
       have H' := aK.mk H
       clear H
       have p110 : 0 ≤ (x9_1 : Int) := lE (by first | (with_reducible assumption) | assumption)
       have q110 : x9_1 < (l0.length : Int) := lE (by first | (with_reducible assumption) | assumption)
       obtain ⟨ad110, A110_0, c110_0, e110, hx110_0, hl110_0, hi110_0⟩ := at_L1 HR0.out x9_1 p110 q110
       cases e110
       replace hx110_0 := (HB.out.cell (lD w _ hx110_0)).trans hx110_0
       have HR110_0 := aK.mk hi110_0
       have HC110_0 := aK.mk hl110_0
       clear hi110_0 hl110_0
       replace p110 := eq_true p110
       replace q110 := eq_true q110
       go_wp2_with (first | ((with_reducible refine gate_builtin (b := .append) (xs := #[.tmp 13, .tmp 14]) rfl ?_); at_builtin; refine Kd.R_append_rows (Kd.int .u8) (w0 := w) w.heap.size rfl (.tmp 13) (.tmp 14) 22 5 (.int .u8 0) 1 rfl Try.underlying22 info5 rfl (by decide) (by omega) u3 x3_1 (rd_L1 l0 x9_1) _ _ _ (fun _ => True) (fun _ => False) rfl rfl ?aO ?aR (fun _ _ h => h) (fun _ h => h.elim) ?aF ?aB ?aS ?aL ?_; (case aR => repeat (first | exact (Kd.C_below HR110_0.out HB.out) | (with_reducible refine Kd.cD ?_ _) | (with_reducible refine Kd.cC ?_ _) | (with_reducible refine Kd.C_drew ?_))); (case aB => exact (by repeat (first | (with_reducible first | exact HB.out | apply aU | apply aM | apply aT) | exact HB.out))); (case aF => exact (fun _ _ => trivial)); (case aO => exact (by (with_reducible repeat (first | apply Kd.bE | apply Kd.bF | apply Kd.bG)); exact HO_3.out)); (case aS => exact (bN (by repeat (first | (with_reducible first | exact HB.out | apply aU | apply aM | apply aT) | exact HB.out)))); (case aL => have := LMc7.out; omega); intro v112 w8 ho hb hg hat; rw [← Ny111.out] at ho; have n0_ := aK.mk (hb); have n1_ := aK.mk (ho); clear HB; clear HO_3; have HB := n0_; have HO113 := n1_; clear n0_ n1_; clear ho hb hg hat))
       go_roundg k1
       case measure => have := HK1.out; omega
       case rel => exact ⟨(y111), (wrap64 (x9_1 + 1)), (by first | rfl | (simp; done) | (simp [*]; done)), H', ⟨by have := HK1.out; omega⟩, ⟨by (with_reducible repeat (first | apply Kd.bE | apply Kd.bF | apply Kd.bG)); exact HO113.out⟩, ⟨by repeat (first | (with_reducible first | exact HB.out | apply aU | apply aM | apply aT) | exact HB.out)⟩⟩
      ·rw [if_neg c7] at H
       exact absurd H (by simp)
     ·rw [if_neg c6] at H
      exact absurd H (by simp)
    ·rw [if_neg c5] at H
     exact absurd H (by simp)
   ·rw [if_neg c4] at H
    have c4b0 : decide (x9_1 < (l0.length : Int)) = false := decide_eq_false c4
    clear c4
    obtain rfl := Option.some.inj H
    go_wp2
    go_ret
    exact ⟨_, by first | rfl | (simp [errW_none, errW_some] <;> rfl) | (simp [*, errW_none, errW_some] <;> rfl), by (with_reducible repeat (first | apply Kd.bE | apply Kd.bF | apply Kd.bG)); exact HO_3.out, by repeat (first | (with_reducible first | exact HB.out | apply aU | apply aM | apply aT) | exact HB.out)⟩
def impl_PutW.f (k : Nat) (l0 : List Int) (a1 : Int) : Option (List Int) := (impl_joined.f k (([l0, (([(Go.bits .and .i64 (a1 / 256) 255) % 256, (Go.bits .and .i64 a1 255) % 256] : List Int))] : List (List Int)))).bind fun t120 => (some t120)
set_option maxHeartbeats 8000000 in
set_option maxRecDepth 100000 in
theorem impl_PutW.calls (k : Nat) (P0_ : Nat → Prop) (A0 : Option Addr) (c0 : Nat) (l0 : List Int) (a1 : Int) (r : List Int) (w : World) (hs0 : Kd.V (Kd.int .u8) 5 w w.heap.size (fun k_ => P0_ k_) (.slice A0 l0.length c0) l0) (h : impl_PutW.f k l0 a1 = some r) :
  Calls Try.prog 33 #[.slice A0 l0.length c0, .int .i64 a1] w fun e w' => ∃ v0_ : Value, e = .returned (v0_) ∧ Kd.R (Kd.int .u8) 5 w' w.heap.size (fun k_ => (w.heap.size ≤ k_)) v0_ r ∧ Below w.heap.size w w' := by
 have HO0 := aK.mk (show Kd.V (Kd.int .u8) 5 w w.heap.size (fun k_ => (P0_ k_ ∨ w.heap.size ≤ k_)) (.slice A0 l0.length c0) l0 from Kd.V_mono hs0 (fun k_ hk => .inl hk))
 have HB := aK.mk (Below.refl w.heap.size w)
 have H : ((impl_joined.f k (([l0, (([(Go.bits .and .i64 (a1 / 256) 255) % 256, (Go.bits .and .i64 a1 255) % 256] : List Int))] : List (List Int)))).bind fun t120 => (some t120)) = some r := h
 clear h
 obtain ⟨y114, hy114⟩ : ∃ y_ : List Int, y_ = (([(Go.bits .and .i64 (a1 / 256) 255) % 256, (Go.bits .and .i64 a1 255) % 256] : List Int)) := ⟨_, rfl⟩
 replace H : ((impl_joined.f k (([l0, y114] : List (List Int)))).bind fun t120 => (some t120)) = some r := by first | (rw [hy114]; with_reducible exact H) | (have H2_ := (Option.bind_some _ _).symm.trans H; rw [hy114]; with_reducible exact H2_) | (have H2_ := (Option.bind_some _ _).symm.trans H; with_reducible exact H2_) | with_reducible exact H | (rw [hy114]; exact H) | exact H
 have Ny114 := aK.mk hy114
 clear hy114
 obtain ⟨y117, hy117⟩ : ∃ y_ : List (List Int), y_ = (([l0, y114] : List (List Int))) := ⟨_, rfl⟩
 replace H : ((impl_joined.f k y117).bind fun t120 => (some t120)) = some r := by first | (rw [hy117]; with_reducible exact H) | (have H2_ := (Option.bind_some _ _).symm.trans H; rw [hy117]; with_reducible exact H2_) | (have H2_ := (Option.bind_some _ _).symm.trans H; with_reducible exact H2_) | with_reducible exact H | (rw [hy117]; exact H) | exact H
 have Ny117 := aK.mk hy117
 clear hy117
 replace H := lF H
 obtain ⟨t120, A30, H⟩ := H
 replace H : (some t120) = some r := H
 have A3 := aK.mk A30
 clear A30
 obtain rfl := Option.some.inj H
 go_enter Try.func33, Try.ntmps33
 go_wp2_with (first | ((with_reducible refine bV (N := 13) rfl ?_); refine Kd.R_lit (Kd.int .u8) _ 5 ?hg (N := 13) ?hd (xs := ([(Go.bits .and .i64 (a1 / 256) 255) % 256, (Go.bits .and .i64 a1 255) % 256] : List Int)) (inner := [.int .u8 ((Go.bits .and .i64 (a1 / 256) 255) % 256), .int .u8 ((Go.bits .and .i64 a1 255) % 256)]) (ok := fun _ => True) (okp := fun _ => True) ?hr ?hp (fun _ hk => hk) trivial (Below.refl _ _) (Nat.le_refl _) (by simp) ?_; (case hd => rfl); (case hg => rfl); (case hr => first | (go_simp; done) | (go_simp; rfl)); (case hp => exact (Reps.one (show Kd.M (Kd.int .u8) _ _ _ ((Go.bits .and .i64 (a1 / 256) 255) % 256) [.int .u8 ((Go.bits .and .i64 (a1 / 256) 255) % 256)] from rfl) (Reps.one (show Kd.M (Kd.int .u8) _ _ _ ((Go.bits .and .i64 a1 255) % 256) [.int .u8 ((Go.bits .and .i64 a1 255) % 256)] from rfl) (Reps.none _ _)))); intro v115 w4 ho5 hb hg_ hnew_; clear hg_ hnew_; (first | rw [← Ny114.out] at ho5 | (simp only [Int.reduceToNat] at ho5; rw [← Ny114.out] at ho5)); have n0_ := aK.mk (Kd.V_elder' (by (with_reducible repeat (first | apply Kd.V_alloc | apply Kd.V_drewN | apply Kd.V_drew)); exact HO0.out) (Kd.R_base ho5) hb); have n1_ := aK.mk (Kd.R_lower (Kd.R_newM (M := fun k_ => (w.heap.size ≤ k_)) ho5 (bN (by repeat (first | (with_reducible first | exact HB.out | apply aU | apply aM | apply aT) | exact HB.out))) (fun k_ h_ => h_)) (bN (by repeat (first | (with_reducible first | exact HB.out | apply aU | apply aM | apply aT) | exact HB.out)))); have n2_ := aK.mk (bL (by repeat (first | (with_reducible first | exact HB.out | apply aU | apply aM | apply aT) | exact HB.out)) hb); clear HO0; clear HB; have HO0 := n0_; have HO116 := n1_; have HB := n2_; clear n0_ n1_ n2_; clear hb ho5; obtain ⟨Ao6, co6, eo6⟩ := Kd.R_slice HO116.out; subst eo6) | ((with_reducible refine bV (N := 14) rfl ?_); refine Kd.N_lit (Kd.slice 5 (Kd.int .u8)) _ 22 ?hg (N' := 14) ?hd (xs := ([l0, y114] : List (List Int))) (inner := [.slice A0 l0.length c0, .slice Ao6 y114.length co6]) (ok := (fun k_ => (P0_ k_ ∨ w.heap.size ≤ k_))) (okp := (fun k_ => (P0_ k_ ∨ w.heap.size ≤ k_))) ?hr ?hp (fun _ hk => hk) ((show ∀ k_, w4.heap.size ≤ k_ → (fun k_ => (P0_ k_ ∨ w.heap.size ≤ k_)) k_ from fun k_ hk => (.inr (Nat.le_trans (bN (by repeat (first | (with_reducible first | exact HB.out | apply aU | apply aM | apply aT) | exact HB.out))) hk))) _ (Nat.le_refl _)) (Below.refl _ _) (Nat.le_refl _) (by simp) ?_; (case hd => rfl); (case hg => rfl); (case hr => first | (go_simp; done) | (go_simp; rfl)); (case hp => exact (Reps.one (show Kd.FK (Kd.slice 5 (Kd.int .u8)) _ _ l0 [.slice A0 l0.length c0] from (Kd.FK_slice_mk (Kd.V_reads' (Kd.V_mono (ok' := (fun k_ => (P0_ k_ ∨ w.heap.size ≤ k_))) (HO0.out) (fun k_ hk => hk.1))).2.1 (Kd.V_F (Kd.V_mono (ok' := (fun k_ => (P0_ k_ ∨ w.heap.size ≤ k_))) (HO0.out) (fun k_ hk => hk.1))))) (Reps.one (show Kd.FK (Kd.slice 5 (Kd.int .u8)) _ _ y114 [.slice Ao6 y114.length co6] from (Kd.FK_slice_mk (Kd.R_reads' (Kd.cA (ok' := (fun k_ => (P0_ k_ ∨ w.heap.size ≤ k_))) (HO116.out) (fun k_ hk => (.inr (hk.1))))).2.1 (Kd.R_F (Kd.cA (ok' := (fun k_ => (P0_ k_ ∨ w.heap.size ≤ k_))) (HO116.out) (fun k_ hk => (.inr (hk.1))))))) (Reps.none _ _)))); intro v118 w7 ho8 hb hg_ hnew_; clear hg_ hnew_; (first | rw [← Ny117.out] at ho8 | (simp only [Int.reduceToNat] at ho8; rw [← Ny117.out] at ho8)); have n0_ := aK.mk (Kd.V_elder' (by (with_reducible repeat (first | apply Kd.V_alloc | apply Kd.V_drewN | apply Kd.V_drew)); exact HO0.out) (Kd.N_base ho8) hb); have n1_ := aK.mk (Kd.N_lower ho8 (bN (by repeat (first | (with_reducible first | exact HB.out | apply aU | apply aM | apply aT) | exact HB.out)))); have n2_ := aK.mk (bL (by repeat (first | (with_reducible first | exact HB.out | apply aU | apply aM | apply aT) | exact HB.out)) hb); clear HO0; clear HB; clear HO116; have HO0 := n0_; have HO119 := n1_; have HB := n2_; clear n0_ n1_ n2_; clear hb ho8; obtain ⟨Ao9, co9, eo9⟩ := Kd.N_slice HO119.out; subst eo9) | ((with_reducible refine bR (f := 63) rfl ?_); refine bX (some 15) rfl rfl Try.func63 (by kernel_rfl) rfl #[.slice Ao9 y117.length co9] rfl (by (try simp only [List.map_toArray, List.map_cons, List.map_nil]); first | done | rfl | (simp only [List.length_drop, List.length_take]; rfl)) ?_; (with_reducible refine (impl_joined.calls k _ _ y117 t120 _ ?side1 ?side2 A3.out).mono ?_); (case side1 => repeat (first | exact (Kd.N_reads' HO119.out).2.2 | (with_reducible refine Kd.cD ?_ _) | (with_reducible refine Kd.cC ?_ _) | (with_reducible refine Kd.C_drew ?_))); (case side2 => exact (Kd.N_reads' HO119.out).2.1); rintro e w10 ⟨v121, rfl, ho0, hb⟩; refine ⟨_, rfl, ?_⟩; have n0_ := aK.mk (Kd.V_elder' (by (with_reducible repeat (first | apply Kd.V_alloc | apply Kd.V_drewN | apply Kd.V_drew)); exact HO0.out) (Kd.R_base ho0) hb); have n1_ := aK.mk (Kd.N_elder' (by (with_reducible repeat (first | apply Kd.N_alloc | apply Kd.N_drewN | apply Kd.N_drew)); exact HO119.out) (Kd.R_base ho0) hb); have n2_ := aK.mk (Kd.R_lower (Kd.R_newM (M := fun k_ => (w.heap.size ≤ k_)) ho0 (bN (by repeat (first | (with_reducible first | exact HB.out | apply aU | apply aM | apply aT) | exact HB.out))) (fun k_ h_ => h_)) (bN (by repeat (first | (with_reducible first | exact HB.out | apply aU | apply aM | apply aT) | exact HB.out)))); have n3_ := aK.mk (bL (by repeat (first | (with_reducible first | exact HB.out | apply aU | apply aM | apply aT) | exact HB.out)) hb); clear HO0; clear HO119; clear HB; have HO0 := n0_; have HO119 := n1_; have HO122 := n2_; have HB := n3_; clear n0_ n1_ n2_ n3_; (try clear hb); (try clear hk); (try clear ho0)))
 go_ret
 exact ⟨_, by first | rfl | (simp [errW_none, errW_some] <;> rfl) | (simp [*, errW_none, errW_some] <;> rfl), by (with_reducible repeat (first | apply Kd.bE | apply Kd.bF | apply Kd.bG)); exact Kd.cA HO122.out (fun _ hk => hk.1), by repeat (first | (with_reducible first | exact HB.out | apply aU | apply aM | apply aT) | exact HB.out)⟩
def impl_PutKey.f (k : Nat) (l0 : List Int) (a1_0 : Int) (a1_1 : Int) (a1_2 : Int) (a1_3 : Int) (a1_4 : Int) : Option (List Int) := (impl_joined.f k (([l0] : List (List Int)))).bind fun t127 => ((impl_KeyOk.f k a1_0 a1_1 a1_2 a1_3 a1_4).bind fun t130 => (if t130 = true then ((some (([(a1_0) % 256, (a1_1) % 256, (a1_2) % 256, (a1_3) % 256] : List Int) : List Int)).bind fun y131 => (if t127.length + y131.length < 140737488355328 then ((impl_PutW.f k (t127 ++ y131) a1_4).bind fun t137 => (some t137)) else (none))) else (some t127)))
set_option maxHeartbeats 8000000 in
set_option maxRecDepth 100000 in
theorem impl_PutKey.calls (k : Nat) (P0_ : Nat → Prop) (A0 : Option Addr) (c0 : Nat) (l0 : List Int) (a1_0 : Int) (a1_1 : Int) (a1_2 : Int) (a1_3 : Int) (a1_4 : Int) (r : List Int) (w : World) (hs0 : Kd.V (Kd.int .u8) 5 w w.heap.size (fun k_ => P0_ k_) (.slice A0 l0.length c0) l0) (h : impl_PutKey.f k l0 a1_0 a1_1 a1_2 a1_3 a1_4 = some r) :
  Calls Try.prog 17 #[.slice A0 l0.length c0, .agg #[.int .i64 a1_0, .int .i64 a1_1, .int .i64 a1_2, .int .i64 a1_3, .int .i64 a1_4]] w fun e w' => ∃ v0_ : Value, e = .returned (v0_) ∧ Kd.R (Kd.int .u8) 5 w' w.heap.size (fun k_ => (w.heap.size ≤ k_)) v0_ r ∧ Below w.heap.size w w' := by
 have hu27 := Try.underlying27
 have HO0 := aK.mk (show Kd.V (Kd.int .u8) 5 w w.heap.size (fun k_ => (P0_ k_ ∨ w.heap.size ≤ k_)) (.slice A0 l0.length c0) l0 from Kd.V_mono hs0 (fun k_ hk => .inl hk))
 have HB := aK.mk (Below.refl w.heap.size w)
 have H : ((impl_joined.f k (([l0] : List (List Int)))).bind fun t127 => ((impl_KeyOk.f k a1_0 a1_1 a1_2 a1_3 a1_4).bind fun t130 => (if t130 = true then ((some (([(a1_0) % 256, (a1_1) % 256, (a1_2) % 256, (a1_3) % 256] : List Int) : List Int)).bind fun y131 => (if t127.length + y131.length < 140737488355328 then ((impl_PutW.f k (t127 ++ y131) a1_4).bind fun t137 => (some t137)) else (none))) else (some t127)))) = some r := h
 clear h
 obtain ⟨y124, hy124⟩ : ∃ y_ : List (List Int), y_ = (([l0] : List (List Int))) := ⟨_, rfl⟩
 replace H : ((impl_joined.f k y124).bind fun t127 => ((impl_KeyOk.f k a1_0 a1_1 a1_2 a1_3 a1_4).bind fun t130 => (if t130 = true then ((some (([(a1_0) % 256, (a1_1) % 256, (a1_2) % 256, (a1_3) % 256] : List Int) : List Int)).bind fun y131 => (if t127.length + y131.length < 140737488355328 then ((impl_PutW.f k (t127 ++ y131) a1_4).bind fun t137 => (some t137)) else (none))) else (some t127)))) = some r := by first | (rw [hy124]; with_reducible exact H) | (have H2_ := (Option.bind_some _ _).symm.trans H; rw [hy124]; with_reducible exact H2_) | (have H2_ := (Option.bind_some _ _).symm.trans H; with_reducible exact H2_) | with_reducible exact H | (rw [hy124]; exact H) | exact H
 have Ny124 := aK.mk hy124
 clear hy124
 replace H := lF H
 obtain ⟨t127, A30, H⟩ := H
 replace H : ((impl_KeyOk.f k a1_0 a1_1 a1_2 a1_3 a1_4).bind fun t130 => (if t130 = true then ((some (([(a1_0) % 256, (a1_1) % 256, (a1_2) % 256, (a1_3) % 256] : List Int) : List Int)).bind fun y131 => (if t127.length + y131.length < 140737488355328 then ((impl_PutW.f k (t127 ++ y131) a1_4).bind fun t137 => (some t137)) else (none))) else (some t127))) = some r := H
 have A3 := aK.mk A30
 clear A30
 replace H := lF H
 obtain ⟨t130, A40, H⟩ := H
 replace H : (if t130 = true then ((some (([(a1_0) % 256, (a1_1) % 256, (a1_2) % 256, (a1_3) % 256] : List Int) : List Int)).bind fun y131 => (if t127.length + y131.length < 140737488355328 then ((impl_PutW.f k (t127 ++ y131) a1_4).bind fun t137 => (some t137)) else (none))) else (some t127)) = some r := H
 have A4 := aK.mk A40
 clear A40
 by_cases c5 : t130 = true
 ·subst c5
  have H1 : ((some (([(a1_0) % 256, (a1_1) % 256, (a1_2) % 256, (a1_3) % 256] : List Int) : List Int)).bind fun y131 => (if t127.length + y131.length < 140737488355328 then ((impl_PutW.f k (t127 ++ y131) a1_4).bind fun t137 => (some t137)) else (none))) = some r := by rw [if_pos rfl] at H; exact H
  clear H
  have H := H1
  clear H1
  obtain ⟨y131, hy131⟩ : ∃ y_ : List Int, y_ = (([(a1_0) % 256, (a1_1) % 256, (a1_2) % 256, (a1_3) % 256] : List Int)) := ⟨_, rfl⟩
  replace H : (if t127.length + y131.length < 140737488355328 then ((impl_PutW.f k (t127 ++ y131) a1_4).bind fun t137 => (some t137)) else (none)) = some r := by first | (rw [hy131]; with_reducible exact H) | (have H2_ := (Option.bind_some _ _).symm.trans H; rw [hy131]; with_reducible exact H2_) | (have H2_ := (Option.bind_some _ _).symm.trans H; with_reducible exact H2_) | with_reducible exact H | (rw [hy131]; exact H) | exact H
  have Ny131 := aK.mk hy131
  clear hy131
  by_cases c6 : t127.length + y131.length < 140737488355328
  ·rw [if_pos c6] at H
   have LMc6 := aK.mk c6
   clear c6
   obtain ⟨y134, hy134⟩ : ∃ y_ : List Int, y_ = (t127 ++ y131) := ⟨_, rfl⟩
   replace H : ((impl_PutW.f k y134 a1_4).bind fun t137 => (some t137)) = some r := by first | (rw [hy134]; with_reducible exact H) | (have H2_ := (Option.bind_some _ _).symm.trans H; rw [hy134]; with_reducible exact H2_) | (have H2_ := (Option.bind_some _ _).symm.trans H; with_reducible exact H2_) | with_reducible exact H | (rw [hy134]; exact H) | exact H
   have Ny134 := aK.mk hy134
   clear hy134
   replace H := lF H
   obtain ⟨t137, A70, H⟩ := H
   replace H : (some t137) = some r := H
   have A7 := aK.mk A70
   clear A70
   obtain rfl := Option.some.inj H
   go_enter Try.func17, Try.ntmps17
   go_wp2_with (first | ((with_reducible refine bV (N := 3) rfl ?_); refine bZ ?hg (N := 3) ?hd (cs := #[.int .i64 a1_0, .int .i64 a1_1, .int .i64 a1_2, .int .i64 a1_3, .int .i64 a1_4]) (t := 27) ?hr ?_; (case hd => rfl); (case hg => rfl); (case hr => first | (go_simp; done) | (go_simp; rfl)); intro gb123 hg w8 hbox hb; have n0_ := aK.mk (Kd.V_below (Kd.V_elderB (by (with_reducible repeat (first | apply Kd.V_alloc | apply Kd.V_drewN | apply Kd.V_drew)); exact HO0.out) gb123 (Nat.le_of_eq hg.symm)) hb); have n1_ := aK.mk (bL (by repeat (first | (with_reducible first | exact HB.out | apply aU | apply aM | apply aT) | exact HB.out)) hb); have n2_ := aK.mk (hbox); have n3_ := aK.mk ((by rw [hg]; exact (bN (by repeat (first | (with_reducible first | exact HB.out | apply aU | apply aM | apply aT) | exact HB.out))) : w.heap.size ≤ gb123)); have n4_ := aK.mk ((by rw [hg]; exact (bN (by repeat (first | (with_reducible first | exact HB.out | apply aU | apply aM | apply aT) | exact HB.out))) : w.heap.size ≤ gb123)); clear HO0; clear HB; have HO0 := n0_; have HB := n1_; have BK123 := n2_; have GW123 := n3_; have GE123 := n4_; clear n0_ n1_ n2_ n3_ n4_; clear hb hbox hg) | ((with_reducible refine bV (N := 7) rfl ?_); refine Kd.N_lit (Kd.slice 5 (Kd.int .u8)) _ 22 ?hg (N' := 7) ?hd (xs := ([l0] : List (List Int))) (inner := [.slice A0 l0.length c0]) (ok := (fun k_ => (P0_ k_ ∨ w.heap.size ≤ k_) ∧ k_ ≠ gb123)) (okp := (fun k_ => (P0_ k_ ∨ w.heap.size ≤ k_) ∧ k_ ≠ gb123)) ?hr ?hp (fun _ hk => hk) ((show ∀ k_, w8.heap.size ≤ k_ → (fun k_ => (P0_ k_ ∨ w.heap.size ≤ k_) ∧ k_ ≠ gb123) k_ from fun k_ hk => ⟨(.inr (Nat.le_trans (bN (by repeat (first | (with_reducible first | exact HB.out | apply aU | apply aM | apply aT | refine aY ?_ GE123.out) | exact HB.out))) hk)), Kd.freshB (g := gb123) (o := .cells #[.int .i64 a1_0, .int .i64 a1_1, .int .i64 a1_2, .int .i64 a1_3, .int .i64 a1_4] 27 (0, 0)) (by (with_reducible repeat (first | refine aW ?_ _ | refine aX ?_ | refine aV ?_ _)); exact BK123.out) k_ hk⟩) _ (Nat.le_refl _)) (Below.refl _ _) (Nat.le_refl _) (by simp) ?_; (case hd => rfl); (case hg => rfl); (case hr => first | (go_simp; done) | (go_simp; rfl)); (case hp => exact (Reps.one (show Kd.FK (Kd.slice 5 (Kd.int .u8)) _ _ l0 [.slice A0 l0.length c0] from (Kd.FK_slice_mk (Kd.V_reads' (Kd.V_mono (ok' := (fun k_ => (P0_ k_ ∨ w.heap.size ≤ k_) ∧ k_ ≠ gb123)) (HO0.out) (fun k_ hk => ⟨hk.1, hk.2⟩))).2.1 (Kd.V_F (Kd.V_mono (ok' := (fun k_ => (P0_ k_ ∨ w.heap.size ≤ k_) ∧ k_ ≠ gb123)) (HO0.out) (fun k_ hk => ⟨hk.1, hk.2⟩))))) (Reps.none _ _))); intro v125 w9 ho10 hb hg_ hnew_; clear hg_ hnew_; (first | rw [← Ny124.out] at ho10 | (simp only [Int.reduceToNat] at ho10; rw [← Ny124.out] at ho10)); have n0_ := aK.mk (Kd.V_elder' (by (with_reducible repeat (first | apply Kd.V_alloc | apply Kd.V_drewN | apply Kd.V_drew)); exact HO0.out) (Kd.N_base ho10) hb); have n1_ := aK.mk (Kd.N_lower ho10 (bN (by repeat (first | (with_reducible first | exact HB.out | apply aU | apply aM | apply aT | refine aY ?_ GE123.out) | exact HB.out)))); have n2_ := aK.mk (bC (g := gb123) (o := .cells #[.int .i64 a1_0, .int .i64 a1_1, .int .i64 a1_2, .int .i64 a1_3, .int .i64 a1_4] 27 (0, 0)) (by (with_reducible repeat (first | refine aW ?_ _ | refine aX ?_ | refine aV ?_ _)); exact BK123.out) hb); have n3_ := aK.mk (bL (by repeat (first | (with_reducible first | exact HB.out | apply aU | apply aM | apply aT | refine aY ?_ GE123.out) | exact HB.out)) hb); clear HO0; clear BK123; clear HB; have HO0 := n0_; have HO126 := n1_; have BK123 := n2_; have HB := n3_; clear n0_ n1_ n2_ n3_; clear hb ho10; obtain ⟨Ao11, co11, eo11⟩ := Kd.N_slice HO126.out; subst eo11) | ((with_reducible refine bR (f := 63) rfl ?_); refine bX (some 8) rfl rfl Try.func63 (by kernel_rfl) rfl #[.slice Ao11 y124.length co11] rfl (by (try simp only [List.map_toArray, List.map_cons, List.map_nil]); first | done | rfl | (simp only [List.length_drop, List.length_take]; rfl)) ?_; (with_reducible refine (impl_joined.calls k _ _ y124 t127 _ ?side1 ?side2 A3.out).mono ?_); (case side1 => repeat (first | exact (Kd.N_reads' HO126.out).2.2 | (with_reducible refine Kd.cD ?_ _) | (with_reducible refine Kd.cC ?_ _) | (with_reducible refine Kd.C_drew ?_))); (case side2 => exact (Kd.N_reads' HO126.out).2.1); rintro e w12 ⟨v128, rfl, ho0, hb⟩; refine ⟨_, rfl, ?_⟩; have n0_ := aK.mk (Kd.V_elder' (by (with_reducible repeat (first | apply Kd.V_alloc | apply Kd.V_drewN | apply Kd.V_drew)); exact HO0.out) (Kd.R_base ho0) hb); have n1_ := aK.mk (Kd.N_elder' (by (with_reducible repeat (first | apply Kd.N_alloc | apply Kd.N_drewN | apply Kd.N_drew)); exact HO126.out) (Kd.R_base ho0) hb); have n2_ := aK.mk (Kd.R_lower (Kd.R_newM (M := fun k_ => (w.heap.size ≤ k_)) ho0 (bN (by repeat (first | (with_reducible first | exact HB.out | apply aU | apply aM | apply aT | refine aY ?_ GE123.out) | exact HB.out))) (fun k_ h_ => h_)) (bN (by repeat (first | (with_reducible first | exact HB.out | apply aU | apply aM | apply aT | refine aY ?_ GE123.out) | exact HB.out)))); have n3_ := aK.mk (bC (g := gb123) (o := .cells #[.int .i64 a1_0, .int .i64 a1_1, .int .i64 a1_2, .int .i64 a1_3, .int .i64 a1_4] 27 (0, 0)) (by (with_reducible repeat (first | refine aW ?_ _ | refine aX ?_ | refine aV ?_ _)); exact BK123.out) hb); have n4_ := aK.mk (bL (by repeat (first | (with_reducible first | exact HB.out | apply aU | apply aM | apply aT | refine aY ?_ GE123.out) | exact HB.out)) hb); clear HO0; clear HO126; clear BK123; clear HB; have HO0 := n0_; have HO126 := n1_; have HO129 := n2_; have BK123 := n3_; have HB := n4_; clear n0_ n1_ n2_ n3_ n4_; (try clear hb); (try clear hk); (try clear ho0); have hcz13_0 : w12.cell? ⟨gb123, 0, none⟩ = some (.int .i64 a1_0) := (aQ BK123.out 0).trans rfl; have hcz13_1 : w12.cell? ⟨gb123, 1, none⟩ = some (.int .i64 a1_1) := (aQ BK123.out 1).trans rfl; have hcz13_2 : w12.cell? ⟨gb123, 2, none⟩ = some (.int .i64 a1_2) := (aQ BK123.out 2).trans rfl; have hcz13_3 : w12.cell? ⟨gb123, 3, none⟩ = some (.int .i64 a1_3) := (aQ BK123.out 3).trans rfl; have hcz13_4 : w12.cell? ⟨gb123, 4, none⟩ = some (.int .i64 a1_4) := (aQ BK123.out 4).trans rfl; have hfz13_0 := aN BK123.out 0; have hfz13_1 := aN BK123.out 1; have hfz13_2 := aN BK123.out 2; have hfz13_3 := aN BK123.out 3; have hfz13_4 := aN BK123.out 4) | ((with_reducible refine bR (f := 30) rfl ?_); refine bX (some 10) rfl rfl Try.func30 (by kernel_rfl) rfl #[.agg #[.int .i64 a1_0, .int .i64 a1_1, .int .i64 a1_2, .int .i64 a1_3, .int .i64 a1_4]] rfl (by (try simp only [List.map_toArray, List.map_cons, List.map_nil]); first | done | rfl | (simp only [List.length_drop, List.length_take]; rfl)) ?_; (with_reducible refine (impl_KeyOk.calls k a1_0 a1_1 a1_2 a1_3 a1_4 true _ A4.out).mono ?_); rintro e w14 ⟨rfl, hb⟩; refine ⟨_, rfl, ?_⟩; have n0_ := aK.mk (Kd.V_below (by (with_reducible repeat (first | apply Kd.V_alloc | apply Kd.V_drewN | apply Kd.V_drew)); exact HO0.out) hb); have n1_ := aK.mk (Kd.N_below (by (with_reducible repeat (first | apply Kd.N_alloc | apply Kd.N_drewN | apply Kd.N_drew)); exact HO126.out) hb); have n2_ := aK.mk (Kd.cB (by (with_reducible repeat (first | apply Kd.bE | apply Kd.bF | apply Kd.bG)); exact HO129.out) hb); have n3_ := aK.mk (bC (g := gb123) (o := .cells #[.int .i64 a1_0, .int .i64 a1_1, .int .i64 a1_2, .int .i64 a1_3, .int .i64 a1_4] 27 (0, 0)) (by (with_reducible repeat (first | refine aW ?_ _ | refine aX ?_ | refine aV ?_ _)); exact BK123.out) hb); have n4_ := aK.mk (bL (by repeat (first | (with_reducible first | exact HB.out | apply aU | apply aM | apply aT | refine aY ?_ GE123.out) | exact HB.out)) hb); clear HO0; clear HO126; clear HO129; clear BK123; clear HB; have HO0 := n0_; have HO126 := n1_; have HO129 := n2_; have BK123 := n3_; have HB := n4_; clear n0_ n1_ n2_ n3_ n4_; (try clear hb); (try clear hk); have hcz15_0 : w14.cell? ⟨gb123, 0, none⟩ = some (.int .i64 a1_0) := (aQ BK123.out 0).trans rfl; have hcz15_1 : w14.cell? ⟨gb123, 1, none⟩ = some (.int .i64 a1_1) := (aQ BK123.out 1).trans rfl; have hcz15_2 : w14.cell? ⟨gb123, 2, none⟩ = some (.int .i64 a1_2) := (aQ BK123.out 2).trans rfl; have hcz15_3 : w14.cell? ⟨gb123, 3, none⟩ = some (.int .i64 a1_3) := (aQ BK123.out 3).trans rfl; have hcz15_4 : w14.cell? ⟨gb123, 4, none⟩ = some (.int .i64 a1_4) := (aQ BK123.out 4).trans rfl; have hfz15_0 := aN BK123.out 0; have hfz15_1 := aN BK123.out 1; have hfz15_2 := aN BK123.out 2; have hfz15_3 := aN BK123.out 3; have hfz15_4 := aN BK123.out 4) | ((with_reducible refine bV (N := 26) rfl ?_); refine Kd.R_lit (Kd.int .u8) _ 5 ?hg (N := 26) ?hd (xs := ([(a1_0) % 256, (a1_1) % 256, (a1_2) % 256, (a1_3) % 256] : List Int)) (inner := [.int .u8 ((a1_0) % 256), .int .u8 ((a1_1) % 256), .int .u8 ((a1_2) % 256), .int .u8 ((a1_3) % 256)]) (ok := fun _ => True) (okp := fun _ => True) ?hr ?hp (fun _ hk => hk) trivial (Below.refl _ _) (Nat.le_refl _) (by simp) ?_; (case hd => rfl); (case hg => rfl); (case hr => first | (go_simp; done) | (go_simp; rfl)); (case hp => exact (Reps.one (show Kd.M (Kd.int .u8) _ _ _ ((a1_0) % 256) [.int .u8 ((a1_0) % 256)] from rfl) (Reps.one (show Kd.M (Kd.int .u8) _ _ _ ((a1_1) % 256) [.int .u8 ((a1_1) % 256)] from rfl) (Reps.one (show Kd.M (Kd.int .u8) _ _ _ ((a1_2) % 256) [.int .u8 ((a1_2) % 256)] from rfl) (Reps.one (show Kd.M (Kd.int .u8) _ _ _ ((a1_3) % 256) [.int .u8 ((a1_3) % 256)] from rfl) (Reps.none _ _)))))); intro v132 w16 ho17 hb hg_ hnew_; clear hg_ hnew_; (first | rw [← Ny131.out] at ho17 | (simp only [Int.reduceToNat] at ho17; rw [← Ny131.out] at ho17)); have n0_ := aK.mk (Kd.V_elder' (by (with_reducible repeat (first | apply Kd.V_alloc | apply Kd.V_drewN | apply Kd.V_drew)); exact HO0.out) (Kd.R_base ho17) hb); have n1_ := aK.mk (Kd.N_elder' (by (with_reducible repeat (first | apply Kd.N_alloc | apply Kd.N_drewN | apply Kd.N_drew)); exact HO126.out) (Kd.R_base ho17) hb); have n2_ := aK.mk (Kd.R_elder' (by (with_reducible repeat (first | apply Kd.bE | apply Kd.bF | apply Kd.bG)); exact HO129.out) (Kd.R_base ho17) hb); have n3_ := aK.mk (Kd.R_lower (Kd.R_new' (Kd.R_newM (M := fun k_ => (w.heap.size ≤ k_)) ho17 (bN (by repeat (first | (with_reducible first | exact HB.out | apply aU | apply aM | apply aT | refine aY ?_ GE123.out) | exact HB.out))) (fun k_ h_ => h_)) (Kd.R_lt (by (with_reducible repeat (first | apply Kd.bE | apply Kd.bF | apply Kd.bG)); exact HO129.out))) (bN (by repeat (first | (with_reducible first | exact HB.out | apply aU | apply aM | apply aT | refine aY ?_ GE123.out) | exact HB.out)))); have n4_ := aK.mk (bC (g := gb123) (o := .cells #[.int .i64 a1_0, .int .i64 a1_1, .int .i64 a1_2, .int .i64 a1_3, .int .i64 a1_4] 27 (0, 0)) (by (with_reducible repeat (first | refine aW ?_ _ | refine aX ?_ | refine aV ?_ _)); exact BK123.out) hb); have n5_ := aK.mk (bL (by repeat (first | (with_reducible first | exact HB.out | apply aU | apply aM | apply aT | refine aY ?_ GE123.out) | exact HB.out)) hb); clear HO0; clear HO126; clear HO129; clear BK123; clear HB; have HO0 := n0_; have HO126 := n1_; have HO129 := n2_; have HO133 := n3_; have BK123 := n4_; have HB := n5_; clear n0_ n1_ n2_ n3_ n4_ n5_; clear hb ho17; obtain ⟨Ao19, co19, eo19⟩ := Kd.R_slice HO133.out; subst eo19) | ((with_reducible refine gate_builtin (b := .append) (xs := #[.tmp 13, .tmp 26]) rfl ?_); at_builtin; refine Kd.R_append_rows (Kd.int .u8) (w0 := w) w.heap.size rfl (.tmp 13) (.tmp 26) 22 5 (.int .u8 0) 1 rfl Try.underlying22 info5 rfl (by decide) (by omega) v128 t127 y131 _ _ _ (fun k_ => (w.heap.size ≤ k_) ∧ some k_ ≠ (.slice Ao19 y131.length co19 : Value).ownBlock) (fun _ => False) rfl rfl ?aO ?aR (fun _ _ h => h) (fun _ h => h.elim) ?aF ?aB ?aS ?aL ?_; (case aR => repeat (first | exact (Kd.R_reads' HO133.out).2.2 | (with_reducible refine Kd.cD ?_ _) | (with_reducible refine Kd.cC ?_ _) | (with_reducible refine Kd.C_drew ?_))); (case aB => exact (by repeat (first | (with_reducible first | exact HB.out | apply aU | apply aM | apply aT | refine aY ?_ GE123.out) | exact HB.out))); (case aF => exact (fun k_ hk => ⟨(Nat.le_trans (bN (by repeat (first | (with_reducible first | exact HB.out | apply aU | apply aM | apply aT | refine aY ?_ GE123.out) | exact HB.out))) hk), Kd.fresh' (Kd.R_lt (by (with_reducible repeat (first | apply Kd.bE | apply Kd.bF | apply Kd.bG)); exact HO133.out)) k_ hk⟩)); (case aO => exact (by (with_reducible repeat (first | apply Kd.bE | apply Kd.bF | apply Kd.bG)); exact Kd.cA HO129.out (fun _ hk => ⟨hk.1.1, hk.2⟩))); (case aS => exact (bN (by repeat (first | (with_reducible first | exact HB.out | apply aU | apply aM | apply aT | refine aY ?_ GE123.out) | exact HB.out)))); (case aL => have := LMc6.out; omega); intro v135 w18 ho hb hg hat; rw [← Ny134.out] at ho; have n0_ := aK.mk (Kd.V_afterv (ok := (fun k_ => (P0_ k_ ∨ w.heap.size ≤ k_) ∧ some k_ ≠ (.slice Ao11 y124.length co11 : Value).ownBlock ∧ some k_ ≠ (.slice Ao19 y131.length co19 : Value).ownBlock ∧ k_ ≠ gb123)) (by (with_reducible repeat (first | apply Kd.V_alloc | apply Kd.V_drewN | apply Kd.V_drew)); exact Kd.V_mono HO0.out (fun _ hk => ⟨⟨hk.1.1.1.1, ⟨hk.1.1.2, ⟨hk.2, hk.1.1.1.2⟩⟩⟩, hk.1.2⟩)) hg hat); have n1_ := aK.mk (blk_grown (g := gb123) (o := .cells #[.int .i64 a1_0, .int .i64 a1_1, .int .i64 a1_2, .int .i64 a1_3, .int .i64 a1_4] 27 (0, 0)) (by (with_reducible repeat (first | refine aW ?_ _ | refine aX ?_ | refine aV ?_ _)); exact BK123.out) hg (Kd.R_ne HO129.out BK123.out (by decide))); have n2_ := aK.mk (Kd.N_afterv (ok := (fun k_ => (P0_ k_ ∨ w.heap.size ≤ k_) ∧ some k_ ≠ (.slice Ao19 y131.length co19 : Value).ownBlock ∧ k_ ≠ gb123)) (by (with_reducible repeat (first | apply Kd.N_alloc | apply Kd.N_drewN | apply Kd.N_drew)); exact Kd.N_mono HO126.out (fun _ hk => ⟨⟨hk.1.1.1, ⟨hk.2, hk.1.1.2⟩⟩, hk.1.2⟩)) hg hat); have n3_ := aK.mk (Kd.R_after (ok := (fun k_ => (w.heap.size ≤ k_))) (by (with_reducible repeat (first | apply Kd.bE | apply Kd.bF | apply Kd.bG)); exact Kd.cA HO133.out (fun _ hk => ⟨hk.1.1, hk.2⟩)) hg hat); have n4_ := aK.mk (hb); have n5_ := aK.mk (ho); clear HO0; clear BK123; clear HO126; clear HO133; clear HB; clear HO129; have HO0 := n0_; have BK123 := n1_; have HO126 := n2_; have HO133 := n3_; have HB := n4_; have HO136 := n5_; clear n0_ n1_ n2_ n3_ n4_ n5_; clear ho hb hg hat; have hcz20_0 : w18.cell? ⟨gb123, 0, none⟩ = some (.int .i64 a1_0) := (aQ BK123.out 0).trans rfl; have hcz20_1 : w18.cell? ⟨gb123, 1, none⟩ = some (.int .i64 a1_1) := (aQ BK123.out 1).trans rfl; have hcz20_2 : w18.cell? ⟨gb123, 2, none⟩ = some (.int .i64 a1_2) := (aQ BK123.out 2).trans rfl; have hcz20_3 : w18.cell? ⟨gb123, 3, none⟩ = some (.int .i64 a1_3) := (aQ BK123.out 3).trans rfl; have hcz20_4 : w18.cell? ⟨gb123, 4, none⟩ = some (.int .i64 a1_4) := (aQ BK123.out 4).trans rfl; have hfz20_0 := aN BK123.out 0; have hfz20_1 := aN BK123.out 1; have hfz20_2 := aN BK123.out 2; have hfz20_3 := aN BK123.out 3; have hfz20_4 := aN BK123.out 4; obtain ⟨Ao21, co21, eo21⟩ := Kd.R_slice HO136.out; subst eo21) | ((with_reducible refine bR (f := 33) rfl ?_); refine bX (some 31) rfl rfl Try.func33 (by kernel_rfl) rfl #[.slice Ao21 y134.length co21, .int .i64 a1_4] rfl (by (try simp only [List.map_toArray, List.map_cons, List.map_nil]); first | done | rfl | (simp only [List.length_drop, List.length_take]; rfl)) ?_; (with_reducible refine (impl_PutW.calls k (fun k_ => some k_ = (.slice Ao21 y134.length co21 : Value).ownBlock) _ _ y134 a1_4 t137 _ ?side1 A7.out).mono ?_); (case side1 => exact Kd.R_V (Kd.R_tight rfl (Kd.R_types (Kd.R_apart' (HO136.out) (Kd.N_typed HO126.out) (by decide)) BK123.out (by decide)))); rintro e w22 ⟨v138, rfl, ho0, hb⟩; refine ⟨_, rfl, ?_⟩; have n0_ := aK.mk (Kd.V_elder' (by (with_reducible repeat (first | apply Kd.V_alloc | apply Kd.V_drewN | apply Kd.V_drew)); exact HO0.out) (Kd.R_base ho0) hb); have n1_ := aK.mk (Kd.N_elder' (by (with_reducible repeat (first | apply Kd.N_alloc | apply Kd.N_drewN | apply Kd.N_drew)); exact HO126.out) (Kd.R_base ho0) hb); have n2_ := aK.mk (Kd.R_elder' (by (with_reducible repeat (first | apply Kd.bE | apply Kd.bF | apply Kd.bG)); exact HO133.out) (Kd.R_base ho0) hb); have n3_ := aK.mk (Kd.R_elder' (by (with_reducible repeat (first | apply Kd.bE | apply Kd.bF | apply Kd.bG)); exact HO136.out) (Kd.R_base ho0) hb); have n4_ := aK.mk (Kd.R_lower (Kd.R_new' (Kd.R_new' (Kd.R_newM (M := fun k_ => (w.heap.size ≤ k_)) (Kd.cA (ok' := fun k_ => True) ho0 (fun _ hk_ => trivial)) (bN (by repeat (first | (with_reducible first | exact HB.out | apply aU | apply aM | apply aT | refine aY ?_ GE123.out) | exact HB.out))) (fun k_ h_ => h_)) (Kd.R_lt (by (with_reducible repeat (first | apply Kd.bE | apply Kd.bF | apply Kd.bG)); exact HO133.out))) (Kd.R_lt (by (with_reducible repeat (first | apply Kd.bE | apply Kd.bF | apply Kd.bG)); exact HO136.out))) (bN (by repeat (first | (with_reducible first | exact HB.out | apply aU | apply aM | apply aT | refine aY ?_ GE123.out) | exact HB.out)))); have n5_ := aK.mk (bC (g := gb123) (o := .cells #[.int .i64 a1_0, .int .i64 a1_1, .int .i64 a1_2, .int .i64 a1_3, .int .i64 a1_4] 27 (0, 0)) (by (with_reducible repeat (first | refine aW ?_ _ | refine aX ?_ | refine aV ?_ _)); exact BK123.out) hb); have n6_ := aK.mk (bL (by repeat (first | (with_reducible first | exact HB.out | apply aU | apply aM | apply aT | refine aY ?_ GE123.out) | exact HB.out)) hb); clear HO0; clear HO126; clear HO133; clear HO136; clear BK123; clear HB; have HO0 := n0_; have HO126 := n1_; have HO133 := n2_; have HO136 := n3_; have HO139 := n4_; have BK123 := n5_; have HB := n6_; clear n0_ n1_ n2_ n3_ n4_ n5_ n6_; (try clear hb); (try clear hk); (try clear ho0)))
   go_ret
   exact ⟨_, by first | rfl | (simp [errW_none, errW_some] <;> rfl) | (simp [*, errW_none, errW_some] <;> rfl), by (with_reducible repeat (first | apply Kd.bE | apply Kd.bF | apply Kd.bG)); exact Kd.cA HO139.out (fun _ hk => hk.1.1.1), by repeat (first | (with_reducible first | exact HB.out | apply aU | apply aM | apply aT | refine aY ?_ GE123.out) | exact HB.out)⟩
  ·rw [if_neg c6] at H
   exact absurd H (by simp)
 ·replace c5 := Bool.eq_false_iff.mpr c5
  subst c5
  have H1 : (some t127) = some r := by rw [if_neg (show ¬ (false = true) by decide)] at H; exact H
  clear H
  have H := H1
  clear H1
  obtain rfl := Option.some.inj H
  go_enter Try.func17, Try.ntmps17
  go_wp2_with (first | ((with_reducible refine bV (N := 3) rfl ?_); refine bZ ?hg (N := 3) ?hd (cs := #[.int .i64 a1_0, .int .i64 a1_1, .int .i64 a1_2, .int .i64 a1_3, .int .i64 a1_4]) (t := 27) ?hr ?_; (case hd => rfl); (case hg => rfl); (case hr => first | (go_simp; done) | (go_simp; rfl)); intro gb123 hg w23 hbox hb; have n0_ := aK.mk (Kd.V_below (Kd.V_elderB (by (with_reducible repeat (first | apply Kd.V_alloc | apply Kd.V_drewN | apply Kd.V_drew)); exact HO0.out) gb123 (Nat.le_of_eq hg.symm)) hb); have n1_ := aK.mk (bL (by repeat (first | (with_reducible first | exact HB.out | apply aU | apply aM | apply aT) | exact HB.out)) hb); have n2_ := aK.mk (hbox); have n3_ := aK.mk ((by rw [hg]; exact (bN (by repeat (first | (with_reducible first | exact HB.out | apply aU | apply aM | apply aT) | exact HB.out))) : w.heap.size ≤ gb123)); have n4_ := aK.mk ((by rw [hg]; exact (bN (by repeat (first | (with_reducible first | exact HB.out | apply aU | apply aM | apply aT) | exact HB.out))) : w.heap.size ≤ gb123)); clear HO0; clear HB; have HO0 := n0_; have HB := n1_; have BK123 := n2_; have GW123 := n3_; have GE123 := n4_; clear n0_ n1_ n2_ n3_ n4_; clear hb hbox hg) | ((with_reducible refine bV (N := 7) rfl ?_); refine Kd.N_lit (Kd.slice 5 (Kd.int .u8)) _ 22 ?hg (N' := 7) ?hd (xs := ([l0] : List (List Int))) (inner := [.slice A0 l0.length c0]) (ok := (fun k_ => (P0_ k_ ∨ w.heap.size ≤ k_) ∧ k_ ≠ gb123)) (okp := (fun k_ => (P0_ k_ ∨ w.heap.size ≤ k_) ∧ k_ ≠ gb123)) ?hr ?hp (fun _ hk => hk) ((show ∀ k_, w23.heap.size ≤ k_ → (fun k_ => (P0_ k_ ∨ w.heap.size ≤ k_) ∧ k_ ≠ gb123) k_ from fun k_ hk => ⟨(.inr (Nat.le_trans (bN (by repeat (first | (with_reducible first | exact HB.out | apply aU | apply aM | apply aT | refine aY ?_ GE123.out) | exact HB.out))) hk)), Kd.freshB (g := gb123) (o := .cells #[.int .i64 a1_0, .int .i64 a1_1, .int .i64 a1_2, .int .i64 a1_3, .int .i64 a1_4] 27 (0, 0)) (by (with_reducible repeat (first | refine aW ?_ _ | refine aX ?_ | refine aV ?_ _)); exact BK123.out) k_ hk⟩) _ (Nat.le_refl _)) (Below.refl _ _) (Nat.le_refl _) (by simp) ?_; (case hd => rfl); (case hg => rfl); (case hr => first | (go_simp; done) | (go_simp; rfl)); (case hp => exact (Reps.one (show Kd.FK (Kd.slice 5 (Kd.int .u8)) _ _ l0 [.slice A0 l0.length c0] from (Kd.FK_slice_mk (Kd.V_reads' (Kd.V_mono (ok' := (fun k_ => (P0_ k_ ∨ w.heap.size ≤ k_) ∧ k_ ≠ gb123)) (HO0.out) (fun k_ hk => ⟨hk.1, hk.2⟩))).2.1 (Kd.V_F (Kd.V_mono (ok' := (fun k_ => (P0_ k_ ∨ w.heap.size ≤ k_) ∧ k_ ≠ gb123)) (HO0.out) (fun k_ hk => ⟨hk.1, hk.2⟩))))) (Reps.none _ _))); intro v125 w24 ho25 hb hg_ hnew_; clear hg_ hnew_; (first | rw [← Ny124.out] at ho25 | (simp only [Int.reduceToNat] at ho25; rw [← Ny124.out] at ho25)); have n0_ := aK.mk (Kd.V_elder' (by (with_reducible repeat (first | apply Kd.V_alloc | apply Kd.V_drewN | apply Kd.V_drew)); exact HO0.out) (Kd.N_base ho25) hb); have n1_ := aK.mk (Kd.N_lower ho25 (bN (by repeat (first | (with_reducible first | exact HB.out | apply aU | apply aM | apply aT | refine aY ?_ GE123.out) | exact HB.out)))); have n2_ := aK.mk (bC (g := gb123) (o := .cells #[.int .i64 a1_0, .int .i64 a1_1, .int .i64 a1_2, .int .i64 a1_3, .int .i64 a1_4] 27 (0, 0)) (by (with_reducible repeat (first | refine aW ?_ _ | refine aX ?_ | refine aV ?_ _)); exact BK123.out) hb); have n3_ := aK.mk (bL (by repeat (first | (with_reducible first | exact HB.out | apply aU | apply aM | apply aT | refine aY ?_ GE123.out) | exact HB.out)) hb); clear HO0; clear BK123; clear HB; have HO0 := n0_; have HO126 := n1_; have BK123 := n2_; have HB := n3_; clear n0_ n1_ n2_ n3_; clear hb ho25; obtain ⟨Ao26, co26, eo26⟩ := Kd.N_slice HO126.out; subst eo26) | ((with_reducible refine bR (f := 63) rfl ?_); refine bX (some 8) rfl rfl Try.func63 (by kernel_rfl) rfl #[.slice Ao26 y124.length co26] rfl (by (try simp only [List.map_toArray, List.map_cons, List.map_nil]); first | done | rfl | (simp only [List.length_drop, List.length_take]; rfl)) ?_; (with_reducible refine (impl_joined.calls k _ _ y124 t127 _ ?side1 ?side2 A3.out).mono ?_); (case side1 => repeat (first | exact (Kd.N_reads' HO126.out).2.2 | (with_reducible refine Kd.cD ?_ _) | (with_reducible refine Kd.cC ?_ _) | (with_reducible refine Kd.C_drew ?_))); (case side2 => exact (Kd.N_reads' HO126.out).2.1); rintro e w27 ⟨v128, rfl, ho0, hb⟩; refine ⟨_, rfl, ?_⟩; have n0_ := aK.mk (Kd.V_elder' (by (with_reducible repeat (first | apply Kd.V_alloc | apply Kd.V_drewN | apply Kd.V_drew)); exact HO0.out) (Kd.R_base ho0) hb); have n1_ := aK.mk (Kd.N_elder' (by (with_reducible repeat (first | apply Kd.N_alloc | apply Kd.N_drewN | apply Kd.N_drew)); exact HO126.out) (Kd.R_base ho0) hb); have n2_ := aK.mk (Kd.R_lower (Kd.R_newM (M := fun k_ => (w.heap.size ≤ k_)) ho0 (bN (by repeat (first | (with_reducible first | exact HB.out | apply aU | apply aM | apply aT | refine aY ?_ GE123.out) | exact HB.out))) (fun k_ h_ => h_)) (bN (by repeat (first | (with_reducible first | exact HB.out | apply aU | apply aM | apply aT | refine aY ?_ GE123.out) | exact HB.out)))); have n3_ := aK.mk (bC (g := gb123) (o := .cells #[.int .i64 a1_0, .int .i64 a1_1, .int .i64 a1_2, .int .i64 a1_3, .int .i64 a1_4] 27 (0, 0)) (by (with_reducible repeat (first | refine aW ?_ _ | refine aX ?_ | refine aV ?_ _)); exact BK123.out) hb); have n4_ := aK.mk (bL (by repeat (first | (with_reducible first | exact HB.out | apply aU | apply aM | apply aT | refine aY ?_ GE123.out) | exact HB.out)) hb); clear HO0; clear HO126; clear BK123; clear HB; have HO0 := n0_; have HO126 := n1_; have HO129 := n2_; have BK123 := n3_; have HB := n4_; clear n0_ n1_ n2_ n3_ n4_; (try clear hb); (try clear hk); (try clear ho0); have hcz28_0 : w27.cell? ⟨gb123, 0, none⟩ = some (.int .i64 a1_0) := (aQ BK123.out 0).trans rfl; have hcz28_1 : w27.cell? ⟨gb123, 1, none⟩ = some (.int .i64 a1_1) := (aQ BK123.out 1).trans rfl; have hcz28_2 : w27.cell? ⟨gb123, 2, none⟩ = some (.int .i64 a1_2) := (aQ BK123.out 2).trans rfl; have hcz28_3 : w27.cell? ⟨gb123, 3, none⟩ = some (.int .i64 a1_3) := (aQ BK123.out 3).trans rfl; have hcz28_4 : w27.cell? ⟨gb123, 4, none⟩ = some (.int .i64 a1_4) := (aQ BK123.out 4).trans rfl; have hfz28_0 := aN BK123.out 0; have hfz28_1 := aN BK123.out 1; have hfz28_2 := aN BK123.out 2; have hfz28_3 := aN BK123.out 3; have hfz28_4 := aN BK123.out 4) | ((with_reducible refine bR (f := 30) rfl ?_); refine bX (some 10) rfl rfl Try.func30 (by kernel_rfl) rfl #[.agg #[.int .i64 a1_0, .int .i64 a1_1, .int .i64 a1_2, .int .i64 a1_3, .int .i64 a1_4]] rfl (by (try simp only [List.map_toArray, List.map_cons, List.map_nil]); first | done | rfl | (simp only [List.length_drop, List.length_take]; rfl)) ?_; (with_reducible refine (impl_KeyOk.calls k a1_0 a1_1 a1_2 a1_3 a1_4 false _ A4.out).mono ?_); rintro e w29 ⟨rfl, hb⟩; refine ⟨_, rfl, ?_⟩; have n0_ := aK.mk (Kd.V_below (by (with_reducible repeat (first | apply Kd.V_alloc | apply Kd.V_drewN | apply Kd.V_drew)); exact HO0.out) hb); have n1_ := aK.mk (Kd.N_below (by (with_reducible repeat (first | apply Kd.N_alloc | apply Kd.N_drewN | apply Kd.N_drew)); exact HO126.out) hb); have n2_ := aK.mk (Kd.cB (by (with_reducible repeat (first | apply Kd.bE | apply Kd.bF | apply Kd.bG)); exact HO129.out) hb); have n3_ := aK.mk (bC (g := gb123) (o := .cells #[.int .i64 a1_0, .int .i64 a1_1, .int .i64 a1_2, .int .i64 a1_3, .int .i64 a1_4] 27 (0, 0)) (by (with_reducible repeat (first | refine aW ?_ _ | refine aX ?_ | refine aV ?_ _)); exact BK123.out) hb); have n4_ := aK.mk (bL (by repeat (first | (with_reducible first | exact HB.out | apply aU | apply aM | apply aT | refine aY ?_ GE123.out) | exact HB.out)) hb); clear HO0; clear HO126; clear HO129; clear BK123; clear HB; have HO0 := n0_; have HO126 := n1_; have HO129 := n2_; have BK123 := n3_; have HB := n4_; clear n0_ n1_ n2_ n3_ n4_; (try clear hb); (try clear hk)))
  go_ret
  exact ⟨_, by first | rfl | (simp [errW_none, errW_some] <;> rfl) | (simp [*, errW_none, errW_some] <;> rfl), by (with_reducible repeat (first | apply Kd.bE | apply Kd.bF | apply Kd.bG)); exact Kd.cA HO129.out (fun _ hk => hk.1), by repeat (first | (with_reducible first | exact HB.out | apply aU | apply aM | apply aT | refine aY ?_ GE123.out) | exact HB.out)⟩
def spec_l1In.f (a0 : Int) (a1 : Int) (a2 : Int) : Option (Bool) := if a0 ≥ a1 then (some (decide (a0 ≤ a2))) else (some false)
set_option maxHeartbeats 8000000 in
set_option maxRecDepth 100000 in
theorem spec_l1In.calls (a0 : Int) (a1 : Int) (a2 : Int) (r : Bool) (w : World) (h : spec_l1In.f a0 a1 a2 = some r) :
  Calls Try.prog 64 #[.int .i64 a0, .int .i64 a1, .int .i64 a2] w fun e w' => e = .returned (.bool r) ∧ Drawn0 w w' := by
 have H : (if a0 ≥ a1 then (some (decide (a0 ≤ a2))) else (some false)) = some r := h
 clear h
 by_cases c4 : a0 ≥ a1
 ·rw [if_pos c4] at H
  have c4b0 : decide (a1 ≤ a0) = true := decide_eq_true c4
  clear c4
  obtain rfl := Option.some.inj H
  go_enter Try.func64, Try.ntmps64
  go_wp2
  go_ret
  exact ⟨by first | rfl | (simp; done) | (simp [*]; done), by repeat (first | exact Drawn0.refl _ | apply Drawn0.step)⟩
 ·rw [if_neg c4] at H
  have c4b0 : decide (a1 ≤ a0) = false := decide_eq_false c4
  clear c4
  obtain rfl := Option.some.inj H
  go_enter Try.func64, Try.ntmps64
  go_wp2
  go_ret
  exact ⟨by first | rfl | (simp; done) | (simp [*]; done), by repeat (first | exact Drawn0.refl _ | apply Drawn0.step)⟩
def spec_KeyOk.j0 : Nat → Bool → Int → Int → Int → Int → Int → Option (Bool)
 | 0, _, _, _, _, _, _ => none
 | k + 1, x18, x141000, x141001, x141002, x141003, x141004 => if x18 = true then (some false) else (if x141002 = 1 then ((spec_l1In.f x141003 0 23).bind fun t144 => (if t144 = true then ((spec_l1In.f x141004 0 999).bind fun t145 => (some t145)) else (some false))) else (if x141003 = 0 then (some (x141004 == 0)) else (some false)))
def spec_KeyOk.f (k : Nat) (a0_0 : Int) (a0_1 : Int) (a0_2 : Int) (a0_3 : Int) (a0_4 : Int) : Option (Bool) := (spec_l1In.f a0_0 0 15).bind fun t141 => (if t141 = true then ((spec_l1In.f a0_1 1 60).bind fun t142 => (if t142 = true then ((spec_l1In.f a0_2 0 2).bind fun t143 => (spec_KeyOk.j0 k (!t143) a0_0 a0_1 a0_2 a0_3 a0_4)) else (spec_KeyOk.j0 k true a0_0 a0_1 a0_2 a0_3 a0_4))) else (spec_KeyOk.j0 k true a0_0 a0_1 a0_2 a0_3 a0_4))
set_option maxHeartbeats 8000000 in
set_option maxRecDepth 100000 in
theorem spec_KeyOk.calls (k : Nat) (a0_0 : Int) (a0_1 : Int) (a0_2 : Int) (a0_3 : Int) (a0_4 : Int) (r : Bool) (w : World) (h : spec_KeyOk.f k a0_0 a0_1 a0_2 a0_3 a0_4 = some r) :
  Calls Try.prog 31 #[.agg #[.int .i64 a0_0, .int .i64 a0_1, .int .i64 a0_2, .int .i64 a0_3, .int .i64 a0_4]] w fun e w' => e = .returned (.bool r) ∧ Below w.heap.size w w' := by
 have hu27 := Try.underlying27
 have HB := aK.mk (Below.refl w.heap.size w)
 have H : ((spec_l1In.f a0_0 0 15).bind fun t141 => (if t141 = true then ((spec_l1In.f a0_1 1 60).bind fun t142 => (if t142 = true then ((spec_l1In.f a0_2 0 2).bind fun t143 => (spec_KeyOk.j0 k (!t143) a0_0 a0_1 a0_2 a0_3 a0_4)) else (spec_KeyOk.j0 k true a0_0 a0_1 a0_2 a0_3 a0_4))) else (spec_KeyOk.j0 k true a0_0 a0_1 a0_2 a0_3 a0_4))) = some r := h
 clear h
 have HC2 := aK.mk H
 clear H
 go_enter Try.func31, Try.ntmps31
 go_upto_region 1 with (first | ((with_reducible refine bV (N := 1) rfl ?_); refine bZ ?hg (N := 1) ?hd (cs := #[.int .i64 a0_0, .int .i64 a0_1, .int .i64 a0_2, .int .i64 a0_3, .int .i64 a0_4]) (t := 27) ?hr ?_; (case hd => rfl); (case hg => rfl); (case hr => first | (go_simp; done) | (go_simp; rfl)); intro gb140 hg w3 hbox hb; have n0_ := aK.mk (bL (by repeat (first | (with_reducible first | exact HB.out | apply aU | apply aM | apply aT) | exact HB.out)) hb); have n1_ := aK.mk (hbox); have n2_ := aK.mk ((by rw [hg]; exact (bN (by repeat (first | (with_reducible first | exact HB.out | apply aU | apply aM | apply aT) | exact HB.out))) : w.heap.size ≤ gb140)); have n3_ := aK.mk ((by rw [hg]; exact (bN (by repeat (first | (with_reducible first | exact HB.out | apply aU | apply aM | apply aT) | exact HB.out))) : w.heap.size ≤ gb140)); clear HB; have HB := n0_; have BK140 := n1_; have GW140 := n2_; have GE140 := n3_; clear n0_ n1_ n2_ n3_; clear hb hbox hg))
 (try simp only [Act.put, lA, lB, lC])
 go_cut [18] (fun v18 wc => ∃ (kq : Nat) (x18_1 : Bool), v18 = .bool x18_1 ∧ aK (spec_KeyOk.j0 kq x18_1 a0_0 a0_1 a0_2 a0_3 a0_4 = some r) ∧ aK (kq ≤ k) ∧ aK (wc.heap[gb140]? = some (.cells #[.int .i64 a0_0, .int .i64 a0_1, .int .i64 a0_2, .int .i64 a0_3, .int .i64 a0_4] 27 (0, 0))) ∧ aK (Below w.heap.size w wc))
 case first =>
  have H := HC2.out
  clear HC2
  replace H := lF H
  obtain ⟨t141, A40, H⟩ := H
  replace H : (if t141 = true then ((spec_l1In.f a0_1 1 60).bind fun t142 => (if t142 = true then ((spec_l1In.f a0_2 0 2).bind fun t143 => (spec_KeyOk.j0 k (!t143) a0_0 a0_1 a0_2 a0_3 a0_4)) else (spec_KeyOk.j0 k true a0_0 a0_1 a0_2 a0_3 a0_4))) else (spec_KeyOk.j0 k true a0_0 a0_1 a0_2 a0_3 a0_4)) = some r := H
  have A4 := aK.mk A40
  clear A40
  by_cases c5 : t141 = true
  ·subst c5
   have H1 : ((spec_l1In.f a0_1 1 60).bind fun t142 => (if t142 = true then ((spec_l1In.f a0_2 0 2).bind fun t143 => (spec_KeyOk.j0 k (!t143) a0_0 a0_1 a0_2 a0_3 a0_4)) else (spec_KeyOk.j0 k true a0_0 a0_1 a0_2 a0_3 a0_4))) = some r := by rw [if_pos rfl] at H; exact H
   clear H
   have H := H1
   clear H1
   replace H := lF H
   obtain ⟨t142, A60, H⟩ := H
   replace H : (if t142 = true then ((spec_l1In.f a0_2 0 2).bind fun t143 => (spec_KeyOk.j0 k (!t143) a0_0 a0_1 a0_2 a0_3 a0_4)) else (spec_KeyOk.j0 k true a0_0 a0_1 a0_2 a0_3 a0_4)) = some r := H
   have A6 := aK.mk A60
   clear A60
   by_cases c7 : t142 = true
   ·subst c7
    have H1 : ((spec_l1In.f a0_2 0 2).bind fun t143 => (spec_KeyOk.j0 k (!t143) a0_0 a0_1 a0_2 a0_3 a0_4)) = some r := by rw [if_pos rfl] at H; exact H
    clear H
    have H := H1
    clear H1
    replace H := lF H
    obtain ⟨t143, A80, H⟩ := H
    replace H : (spec_KeyOk.j0 k (!t143) a0_0 a0_1 a0_2 a0_3 a0_4) = some r := H
    have A8 := aK.mk A80
    clear A80
    have H' := aK.mk H
    clear H
    have hcz9_0 : w3.cell? ⟨gb140, 0, none⟩ = some (.int .i64 a0_0) := (aQ BK140.out 0).trans rfl
    have hcz9_1 : w3.cell? ⟨gb140, 1, none⟩ = some (.int .i64 a0_1) := (aQ BK140.out 1).trans rfl
    have hcz9_2 : w3.cell? ⟨gb140, 2, none⟩ = some (.int .i64 a0_2) := (aQ BK140.out 2).trans rfl
    have hcz9_3 : w3.cell? ⟨gb140, 3, none⟩ = some (.int .i64 a0_3) := (aQ BK140.out 3).trans rfl
    have hcz9_4 : w3.cell? ⟨gb140, 4, none⟩ = some (.int .i64 a0_4) := (aQ BK140.out 4).trans rfl
    have hfz9_0 := aN BK140.out 0
    have hfz9_1 := aN BK140.out 1
    have hfz9_2 := aN BK140.out 2
    have hfz9_3 := aN BK140.out 3
    have hfz9_4 := aN BK140.out 4
    go_wp2_with (first | ((with_reducible refine bR (f := 64) rfl ?_); refine bX (some 5) rfl rfl Try.func64 (by kernel_rfl) rfl #[.int .i64 a0_0, .int .i64 0, .int .i64 15] rfl (by (try simp only [List.map_toArray, List.map_cons, List.map_nil]); first | done | rfl | (simp only [List.length_drop, List.length_take]; rfl)) ?_; (with_reducible refine (spec_l1In.calls a0_0 0 15 true _ A4.out).mono ?_); rintro e w' ⟨rfl, ⟨nd, rfl⟩⟩; refine ⟨_, rfl, ?_⟩) | (go_at_call 64; (with_reducible refine (spec_l1In.calls a0_1 1 60 true _ A6.out).mono ?_); rintro e w' ⟨rfl, ⟨nd, rfl⟩⟩) | (go_at_call 64; (with_reducible refine (spec_l1In.calls a0_2 0 2 t143 _ A8.out).mono ?_); rintro e w' ⟨rfl, ⟨nd, rfl⟩⟩))
    go_meet
    case rel => exact ⟨_, (!t143), (by first | rfl | (simp; done) | (simp [*]; done)), H', ⟨by first | omega | exact Nat.le_refl _⟩, ⟨by (with_reducible repeat (first | refine aW ?_ _ | refine aX ?_ | refine aV ?_ _)); exact BK140.out⟩, ⟨by repeat (first | (with_reducible first | exact HB.out | apply aU | apply aM | apply aT | refine aY ?_ GE140.out) | exact HB.out)⟩⟩
   ·replace c7 := Bool.eq_false_iff.mpr c7
    subst c7
    have H1 : (spec_KeyOk.j0 k true a0_0 a0_1 a0_2 a0_3 a0_4) = some r := by rw [if_neg (show ¬ (false = true) by decide)] at H; exact H
    clear H
    have H := H1
    clear H1
    have H' := aK.mk H
    clear H
    have hcz10_0 : w3.cell? ⟨gb140, 0, none⟩ = some (.int .i64 a0_0) := (aQ BK140.out 0).trans rfl
    have hcz10_1 : w3.cell? ⟨gb140, 1, none⟩ = some (.int .i64 a0_1) := (aQ BK140.out 1).trans rfl
    have hcz10_2 : w3.cell? ⟨gb140, 2, none⟩ = some (.int .i64 a0_2) := (aQ BK140.out 2).trans rfl
    have hcz10_3 : w3.cell? ⟨gb140, 3, none⟩ = some (.int .i64 a0_3) := (aQ BK140.out 3).trans rfl
    have hcz10_4 : w3.cell? ⟨gb140, 4, none⟩ = some (.int .i64 a0_4) := (aQ BK140.out 4).trans rfl
    have hfz10_0 := aN BK140.out 0
    have hfz10_1 := aN BK140.out 1
    have hfz10_2 := aN BK140.out 2
    have hfz10_3 := aN BK140.out 3
    have hfz10_4 := aN BK140.out 4
    go_wp2_with (first | ((with_reducible refine bR (f := 64) rfl ?_); refine bX (some 5) rfl rfl Try.func64 (by kernel_rfl) rfl #[.int .i64 a0_0, .int .i64 0, .int .i64 15] rfl (by (try simp only [List.map_toArray, List.map_cons, List.map_nil]); first | done | rfl | (simp only [List.length_drop, List.length_take]; rfl)) ?_; (with_reducible refine (spec_l1In.calls a0_0 0 15 true _ A4.out).mono ?_); rintro e w' ⟨rfl, ⟨nd, rfl⟩⟩; refine ⟨_, rfl, ?_⟩) | (go_at_call 64; (with_reducible refine (spec_l1In.calls a0_1 1 60 false _ A6.out).mono ?_); rintro e w' ⟨rfl, ⟨nd, rfl⟩⟩))
    go_meet
    case rel => exact ⟨_, (true), (by first | rfl | (simp; done) | (simp [*]; done)), H', ⟨by first | omega | exact Nat.le_refl _⟩, ⟨by (with_reducible repeat (first | refine aW ?_ _ | refine aX ?_ | refine aV ?_ _)); exact BK140.out⟩, ⟨by repeat (first | (with_reducible first | exact HB.out | apply aU | apply aM | apply aT | refine aY ?_ GE140.out) | exact HB.out)⟩⟩
  ·replace c5 := Bool.eq_false_iff.mpr c5
   subst c5
   have H1 : (spec_KeyOk.j0 k true a0_0 a0_1 a0_2 a0_3 a0_4) = some r := by rw [if_neg (show ¬ (false = true) by decide)] at H; exact H
   clear H
   have H := H1
   clear H1
   have H' := aK.mk H
   clear H
   have hcz11_0 : w3.cell? ⟨gb140, 0, none⟩ = some (.int .i64 a0_0) := (aQ BK140.out 0).trans rfl
   have hcz11_1 : w3.cell? ⟨gb140, 1, none⟩ = some (.int .i64 a0_1) := (aQ BK140.out 1).trans rfl
   have hcz11_2 : w3.cell? ⟨gb140, 2, none⟩ = some (.int .i64 a0_2) := (aQ BK140.out 2).trans rfl
   have hcz11_3 : w3.cell? ⟨gb140, 3, none⟩ = some (.int .i64 a0_3) := (aQ BK140.out 3).trans rfl
   have hcz11_4 : w3.cell? ⟨gb140, 4, none⟩ = some (.int .i64 a0_4) := (aQ BK140.out 4).trans rfl
   have hfz11_0 := aN BK140.out 0
   have hfz11_1 := aN BK140.out 1
   have hfz11_2 := aN BK140.out 2
   have hfz11_3 := aN BK140.out 3
   have hfz11_4 := aN BK140.out 4
   go_wp2_with (first | ((with_reducible refine bR (f := 64) rfl ?_); refine bX (some 5) rfl rfl Try.func64 (by kernel_rfl) rfl #[.int .i64 a0_0, .int .i64 0, .int .i64 15] rfl (by (try simp only [List.map_toArray, List.map_cons, List.map_nil]); first | done | rfl | (simp only [List.length_drop, List.length_take]; rfl)) ?_; (with_reducible refine (spec_l1In.calls a0_0 0 15 false _ A4.out).mono ?_); rintro e w' ⟨rfl, ⟨nd, rfl⟩⟩; refine ⟨_, rfl, ?_⟩))
   go_meet
   case rel => exact ⟨_, (true), (by first | rfl | (simp; done) | (simp [*]; done)), H', ⟨by first | omega | exact Nat.le_refl _⟩, ⟨by (with_reducible repeat (first | refine aW ?_ _ | refine aX ?_ | refine aV ?_ _)); exact BK140.out⟩, ⟨by repeat (first | (with_reducible first | exact HB.out | apply aU | apply aM | apply aT | refine aY ?_ GE140.out) | exact HB.out)⟩⟩
 case rest =>
  clear HC2
  try clear p2
  try clear c3
  try clear c5
  try clear c6
  try clear c7
  try clear hcz10_0
  try clear hcz10_1
  try clear hcz10_2
  try clear hcz10_3
  try clear hcz10_4
  try clear hcz11_0
  try clear hcz11_1
  try clear hcz11_2
  try clear hcz11_3
  try clear hcz11_4
  try clear hcz9_0
  try clear hcz9_1
  try clear hcz9_2
  try clear hcz9_3
  try clear hcz9_4
  try clear hfz10_0
  try clear hfz10_1
  try clear hfz10_2
  try clear hfz10_3
  try clear hfz10_4
  try clear hfz11_0
  try clear hfz11_1
  try clear hfz11_2
  try clear hfz11_3
  try clear hfz11_4
  try clear hfz9_0
  try clear hfz9_1
  try clear hfz9_2
  try clear hfz9_3
  try clear hfz9_4
  obtain ⟨kq, x18_1, rfl, HA, HJ1, BK140, HB⟩ := hcut
  cases kq with
  | zero => exact absurd HA.out (by simp [spec_KeyOk.j0])
  | succ kj1 =>
   have H := HA.out
   clear HA
   simp only [spec_KeyOk.j0] at H
   by_cases c12 : x18_1 = true
   ·subst c12
    have H1 : (some false) = some r := by rw [if_pos rfl] at H; exact H
    clear H
    have H := H1
    clear H1
    obtain rfl := Option.some.inj H
    go_wp2
    go_ret
    exact ⟨by first | rfl | (simp [errW_none, errW_some] <;> rfl) | (simp [*, errW_none, errW_some] <;> rfl), by repeat (first | (with_reducible first | exact HB.out | apply aU | apply aM | apply aT | refine aY ?_ GE140.out) | exact HB.out)⟩
   ·replace c12 := Bool.eq_false_iff.mpr c12
    subst c12
    have H1 : (if a0_2 = 1 then ((spec_l1In.f a0_3 0 23).bind fun t144 => (if t144 = true then ((spec_l1In.f a0_4 0 999).bind fun t145 => (some t145)) else (some false))) else (if a0_3 = 0 then (some (a0_4 == 0)) else (some false))) = some r := by rw [if_neg (show ¬ (false = true) by decide)] at H; exact H
    clear H
    have H := H1
    clear H1
    by_cases c13 : a0_2 = 1
    ·rw [if_pos c13] at H
     have c13b0 : (a0_2 == 1) = true := beq_iff_eq.mpr c13
     have c13b1 : (a0_2 != 1) = false := bne_eq_false_iff_eq.mpr c13
     clear c13
     replace H := lF H
     obtain ⟨t144, A140, H⟩ := H
     replace H : (if t144 = true then ((spec_l1In.f a0_4 0 999).bind fun t145 => (some t145)) else (some false)) = some r := H
     have A14 := aK.mk A140
     clear A140
     by_cases c15 : t144 = true
     ·subst c15
      have H1 : ((spec_l1In.f a0_4 0 999).bind fun t145 => (some t145)) = some r := by rw [if_pos rfl] at H; exact H
      clear H
      have H := H1
      clear H1
      replace H := lF H
      obtain ⟨t145, A160, H⟩ := H
      replace H : (some t145) = some r := H
      have A16 := aK.mk A160
      clear A160
      obtain rfl := Option.some.inj H
      have hcz17_0 : wc.cell? ⟨gb140, 0, none⟩ = some (.int .i64 a0_0) := (aQ BK140.out 0).trans rfl
      have hcz17_1 : wc.cell? ⟨gb140, 1, none⟩ = some (.int .i64 a0_1) := (aQ BK140.out 1).trans rfl
      have hcz17_2 : wc.cell? ⟨gb140, 2, none⟩ = some (.int .i64 a0_2) := (aQ BK140.out 2).trans rfl
      have hcz17_3 : wc.cell? ⟨gb140, 3, none⟩ = some (.int .i64 a0_3) := (aQ BK140.out 3).trans rfl
      have hcz17_4 : wc.cell? ⟨gb140, 4, none⟩ = some (.int .i64 a0_4) := (aQ BK140.out 4).trans rfl
      have hfz17_0 := aN BK140.out 0
      have hfz17_1 := aN BK140.out 1
      have hfz17_2 := aN BK140.out 2
      have hfz17_3 := aN BK140.out 3
      have hfz17_4 := aN BK140.out 4
      go_wp2_with (first | ((with_reducible refine bR (f := 64) rfl ?_); refine bX (some 24) rfl rfl Try.func64 (by kernel_rfl) rfl #[.int .i64 a0_3, .int .i64 0, .int .i64 23] rfl (by (try simp only [List.map_toArray, List.map_cons, List.map_nil]); first | done | rfl | (simp only [List.length_drop, List.length_take]; rfl)) ?_; (with_reducible refine (spec_l1In.calls a0_3 0 23 true _ A14.out).mono ?_); rintro e w' ⟨rfl, ⟨nd, rfl⟩⟩; refine ⟨_, rfl, ?_⟩) | (go_at_call 64; (with_reducible refine (spec_l1In.calls a0_4 0 999 t145 _ A16.out).mono ?_); rintro e w' ⟨rfl, ⟨nd, rfl⟩⟩))
      go_ret
      exact ⟨by first | rfl | (simp [errW_none, errW_some] <;> rfl) | (simp [*, errW_none, errW_some] <;> rfl), by repeat (first | (with_reducible first | exact HB.out | apply aU | apply aM | apply aT | refine aY ?_ GE140.out) | exact HB.out)⟩
     ·replace c15 := Bool.eq_false_iff.mpr c15
      subst c15
      have H1 : (some false) = some r := by rw [if_neg (show ¬ (false = true) by decide)] at H; exact H
      clear H
      have H := H1
      clear H1
      obtain rfl := Option.some.inj H
      have hcz18_0 : wc.cell? ⟨gb140, 0, none⟩ = some (.int .i64 a0_0) := (aQ BK140.out 0).trans rfl
      have hcz18_1 : wc.cell? ⟨gb140, 1, none⟩ = some (.int .i64 a0_1) := (aQ BK140.out 1).trans rfl
      have hcz18_2 : wc.cell? ⟨gb140, 2, none⟩ = some (.int .i64 a0_2) := (aQ BK140.out 2).trans rfl
      have hcz18_3 : wc.cell? ⟨gb140, 3, none⟩ = some (.int .i64 a0_3) := (aQ BK140.out 3).trans rfl
      have hcz18_4 : wc.cell? ⟨gb140, 4, none⟩ = some (.int .i64 a0_4) := (aQ BK140.out 4).trans rfl
      have hfz18_0 := aN BK140.out 0
      have hfz18_1 := aN BK140.out 1
      have hfz18_2 := aN BK140.out 2
      have hfz18_3 := aN BK140.out 3
      have hfz18_4 := aN BK140.out 4
      go_wp2_with (first | ((with_reducible refine bR (f := 64) rfl ?_); refine bX (some 24) rfl rfl Try.func64 (by kernel_rfl) rfl #[.int .i64 a0_3, .int .i64 0, .int .i64 23] rfl (by (try simp only [List.map_toArray, List.map_cons, List.map_nil]); first | done | rfl | (simp only [List.length_drop, List.length_take]; rfl)) ?_; (with_reducible refine (spec_l1In.calls a0_3 0 23 false _ A14.out).mono ?_); rintro e w' ⟨rfl, ⟨nd, rfl⟩⟩; refine ⟨_, rfl, ?_⟩))
      go_ret
      exact ⟨by first | rfl | (simp [errW_none, errW_some] <;> rfl) | (simp [*, errW_none, errW_some] <;> rfl), by repeat (first | (with_reducible first | exact HB.out | apply aU | apply aM | apply aT | refine aY ?_ GE140.out) | exact HB.out)⟩
    ·rw [if_neg c13] at H
     have c13b0 : (a0_2 == 1) = false := beq_eq_false_iff_ne.mpr c13
     have c13b1 : (a0_2 != 1) = true := bne_iff_ne.mpr c13
     by_cases c19 : a0_3 = 0
     ·rw [if_pos c19] at H
      have c19b0 : (a0_3 == 0) = true := beq_iff_eq.mpr c19
      have c19b1 : (a0_3 != 0) = false := bne_eq_false_iff_eq.mpr c19
      clear c19
      obtain rfl := Option.some.inj H
      have hcz20_0 : wc.cell? ⟨gb140, 0, none⟩ = some (.int .i64 a0_0) := (aQ BK140.out 0).trans rfl
      have hcz20_1 : wc.cell? ⟨gb140, 1, none⟩ = some (.int .i64 a0_1) := (aQ BK140.out 1).trans rfl
      have hcz20_2 : wc.cell? ⟨gb140, 2, none⟩ = some (.int .i64 a0_2) := (aQ BK140.out 2).trans rfl
      have hcz20_3 : wc.cell? ⟨gb140, 3, none⟩ = some (.int .i64 a0_3) := (aQ BK140.out 3).trans rfl
      have hcz20_4 : wc.cell? ⟨gb140, 4, none⟩ = some (.int .i64 a0_4) := (aQ BK140.out 4).trans rfl
      have hfz20_0 := aN BK140.out 0
      have hfz20_1 := aN BK140.out 1
      have hfz20_2 := aN BK140.out 2
      have hfz20_3 := aN BK140.out 3
      have hfz20_4 := aN BK140.out 4
      go_wp2
      go_ret
      exact ⟨by first | rfl | (simp [errW_none, errW_some] <;> rfl) | (simp [*, errW_none, errW_some] <;> rfl), by repeat (first | (with_reducible first | exact HB.out | apply aU | apply aM | apply aT | refine aY ?_ GE140.out) | exact HB.out)⟩
     ·rw [if_neg c19] at H
      have c19b0 : (a0_3 == 0) = false := beq_eq_false_iff_ne.mpr c19
      have c19b1 : (a0_3 != 0) = true := bne_iff_ne.mpr c19
      obtain rfl := Option.some.inj H
      have hcz21_0 : wc.cell? ⟨gb140, 0, none⟩ = some (.int .i64 a0_0) := (aQ BK140.out 0).trans rfl
      have hcz21_1 : wc.cell? ⟨gb140, 1, none⟩ = some (.int .i64 a0_1) := (aQ BK140.out 1).trans rfl
      have hcz21_2 : wc.cell? ⟨gb140, 2, none⟩ = some (.int .i64 a0_2) := (aQ BK140.out 2).trans rfl
      have hcz21_3 : wc.cell? ⟨gb140, 3, none⟩ = some (.int .i64 a0_3) := (aQ BK140.out 3).trans rfl
      have hcz21_4 : wc.cell? ⟨gb140, 4, none⟩ = some (.int .i64 a0_4) := (aQ BK140.out 4).trans rfl
      have hfz21_0 := aN BK140.out 0
      have hfz21_1 := aN BK140.out 1
      have hfz21_2 := aN BK140.out 2
      have hfz21_3 := aN BK140.out 3
      have hfz21_4 := aN BK140.out 4
      go_wp2
      go_ret
      exact ⟨by first | rfl | (simp [errW_none, errW_some] <;> rfl) | (simp [*, errW_none, errW_some] <;> rfl), by repeat (first | (with_reducible first | exact HB.out | apply aU | apply aM | apply aT | refine aY ?_ GE140.out) | exact HB.out)⟩
end Go.Proofs.Ytkaoiaolbhklnaa.PFnKeys

namespace Go.Proofs.Ytkaoiaolbhklnaa.PFnKeys
open Go.RowKit Go.Proofs.YtkaoiaolbhklnaaW.PrintWords Go.Proofs.YtkaoiaolbhklnaaW.PrintLast Go.Proofs.YtkaoiaolbhklnaaW.PrintMore
attribute [local go_sem] max2_int min2_int max_two min_two max_three min_three max_four min_four   -- for this text's walks alone
set_option linter.unusedVariables false
set_option linter.unusedSimpArgs false
def spec_GetW.f (l0 : List Int) (a1 : Int) : Option (Int × Int × Bool) := (spec_l1In.f a1 0 (wrap64 ((l0.length : Int) - 2))).bind fun t146 => (if t146 = true then (if 0 ≤ a1 then (if a1 < (l0.length : Int) then (if 0 ≤ (wrap64 (a1 + 1)) then (if (wrap64 (a1 + 1)) < (l0.length : Int) then (some (Go.bits .or .i64 (wrap64 ((wrap64 (rd l0 a1)) * 256)) (wrap64 (rd l0 (wrap64 (a1 + 1)))), wrap64 (a1 + 2), true)) else (none)) else (none)) else (none)) else (none)) else (some (0, 0, false)))
set_option maxHeartbeats 8000000 in
set_option maxRecDepth 100000 in
theorem spec_GetW.calls (A0 : Option Addr) (c0 : Nat) (l0 : List Int) (a1 : Int) (r1 : Int) (r2 : Int) (r3 : Bool) (w : World) (hr0 : Kd.C (Kd.int .u8) w A0 l0.length l0) (hc0 : l0.length ≤ c0) (h : spec_GetW.f l0 a1 = some (r1, r2, r3)) :
  Calls Try.prog 65 #[.slice A0 l0.length c0, .int .i64 a1] w fun e w' => e = .returned (.tuple #[.int .i64 r1, .int .i64 r2, .bool r3]) ∧ Drawn0 w w' := by
 have HR0 := aK.mk hr0
 have HC0 := aK.mk hc0
 clear hr0 hc0
 have H : ((spec_l1In.f a1 0 (wrap64 ((l0.length : Int) - 2))).bind fun t146 => (if t146 = true then (if 0 ≤ a1 then (if a1 < (l0.length : Int) then (if 0 ≤ (wrap64 (a1 + 1)) then (if (wrap64 (a1 + 1)) < (l0.length : Int) then (some (Go.bits .or .i64 (wrap64 ((wrap64 (rd l0 a1)) * 256)) (wrap64 (rd l0 (wrap64 (a1 + 1)))), wrap64 (a1 + 2), true)) else (none)) else (none)) else (none)) else (none)) else (some (0, 0, false)))) = some (r1, r2, r3) := h
 clear h
 replace H := lF H
 obtain ⟨t146, A30, H⟩ := H
 replace H : (if t146 = true then (if 0 ≤ a1 then (if a1 < (l0.length : Int) then (if 0 ≤ (wrap64 (a1 + 1)) then (if (wrap64 (a1 + 1)) < (l0.length : Int) then (some (Go.bits .or .i64 (wrap64 ((wrap64 (rd l0 a1)) * 256)) (wrap64 (rd l0 (wrap64 (a1 + 1)))), wrap64 (a1 + 2), true)) else (none)) else (none)) else (none)) else (none)) else (some (0, 0, false))) = some (r1, r2, r3) := H
 have A3 := aK.mk A30
 clear A30
 by_cases c4 : t146 = true
 ·subst c4
  have H1 : (if 0 ≤ a1 then (if a1 < (l0.length : Int) then (if 0 ≤ (wrap64 (a1 + 1)) then (if (wrap64 (a1 + 1)) < (l0.length : Int) then (some (Go.bits .or .i64 (wrap64 ((wrap64 (rd l0 a1)) * 256)) (wrap64 (rd l0 (wrap64 (a1 + 1)))), wrap64 (a1 + 2), true)) else (none)) else (none)) else (none)) else (none)) = some (r1, r2, r3) := by rw [if_pos rfl] at H; exact H
  clear H
  have H := H1
  clear H1
  by_cases c5 : 0 ≤ a1
  ·rw [if_pos c5] at H
   have c5b0 : decide (0 ≤ a1) = true := decide_eq_true c5
   clear c5
   by_cases c6 : a1 < (l0.length : Int)
   ·rw [if_pos c6] at H
    have c6b0 : decide (a1 < (l0.length : Int)) = true := decide_eq_true c6
    clear c6
    obtain ⟨ji7, hji7⟩ : ∃ j_ : Int, (wrap64 (a1 + 1)) = j_ := ⟨_, rfl⟩
    replace H : (if 0 ≤ (ji7) then (if (ji7) < (l0.length : Int) then (some (Go.bits .or .i64 (wrap64 ((wrap64 (rd l0 a1)) * 256)) (wrap64 (rd l0 (ji7))), wrap64 (a1 + 2), true)) else (none)) else (none)) = some (r1, r2, r3) := by first | (rw [hji7] at H; exact H) | (simp only [hji7] at H ⊢; exact H)
    (try rw [hji7] at A3)
    have hji7w : (IntKind.i64.wrap (a1 + 1)) = ji7 := (bJ _).trans hji7
    by_cases c8 : 0 ≤ (ji7)
    ·rw [if_pos c8] at H
     have c8b0 : decide (0 ≤ (ji7)) = true := decide_eq_true c8
     clear c8
     by_cases c9 : (ji7) < (l0.length : Int)
     ·rw [if_pos c9] at H
      have c9b0 : decide ((ji7) < (l0.length : Int)) = true := decide_eq_true c9
      clear c9
      simp only [Option.some.injEq, Prod.mk.injEq] at H
      obtain ⟨rfl, rfl, rfl⟩ := H
      go_enter Try.func65, Try.ntmps65
      have hwq0_ : IntKind.i64.wrap ((l0.length : Int) - 2) = wrap64 ((l0.length : Int) - 2) := by rw [IntKind.wrap_i64]; unfold wrap64; rfl
      go_wp2_with (first | (go_at_call 64; (with_reducible refine (spec_l1In.calls a1 0 (wrap64 ((l0.length : Int) - 2)) true _ A3.out).mono ?_); rintro e w' ⟨rfl, ⟨nd, rfl⟩⟩; (try first | exact ⟨rfl, _, World.drewN_drewN _ _ _⟩ | exact ⟨rfl, _, Eq.trans (World.drewN_drewN _ _ _) (congrArg (World.drewN _) (Nat.add_assoc _ _ _))⟩); have p147 : 0 ≤ (a1 : Int) := lE (by first | (with_reducible assumption) | assumption); have q147 : a1 < (l0.length : Int) := lE (by first | (with_reducible assumption) | assumption); obtain ⟨ad147, e147, hx147_0⟩ := Kd.at_int HR0.out a1 p147 q147; cases e147; replace p147 := eq_true p147; replace q147 := eq_true q147; have p148 : 0 ≤ ((ji7) : Int) := lE (by first | (with_reducible assumption) | assumption); have q148 : (ji7) < (l0.length : Int) := lE (by first | (with_reducible assumption) | assumption); obtain ⟨ad148, e148, hx148_0⟩ := Kd.at_int HR0.out (ji7) p148 q148; obtain rfl : ad147 = ad148 := (by injection e148); replace p148 := eq_true p148; replace q148 := eq_true q148))
      repeat (go_quiet (first | (go_at_call 64; (with_reducible refine (spec_l1In.calls a1 0 (wrap64 ((l0.length : Int) - 2)) true _ A3.out).mono ?_); rintro e w' ⟨rfl, ⟨nd, rfl⟩⟩; (try first | exact ⟨rfl, _, World.drewN_drewN _ _ _⟩ | exact ⟨rfl, _, Eq.trans (World.drewN_drewN _ _ _) (congrArg (World.drewN _) (Nat.add_assoc _ _ _))⟩); have p147 : 0 ≤ (a1 : Int) := lE (by first | (with_reducible assumption) | assumption); have q147 : a1 < (l0.length : Int) := lE (by first | (with_reducible assumption) | assumption); obtain ⟨ad147, e147, hx147_0⟩ := Kd.at_int HR0.out a1 p147 q147; cases e147; replace p147 := eq_true p147; replace q147 := eq_true q147; have p148 : 0 ≤ ((ji7) : Int) := lE (by first | (with_reducible assumption) | assumption); have q148 : (ji7) < (l0.length : Int) := lE (by first | (with_reducible assumption) | assumption); obtain ⟨ad148, e148, hx148_0⟩ := Kd.at_int HR0.out (ji7) p148 q148; obtain rfl : ad147 = ad148 := (by injection e148); replace p148 := eq_true p148; replace q148 := eq_true q148)); try go_wp2_with (first | (go_at_call 64; (with_reducible refine (spec_l1In.calls a1 0 (wrap64 ((l0.length : Int) - 2)) true _ A3.out).mono ?_); rintro e w' ⟨rfl, ⟨nd, rfl⟩⟩; (try first | exact ⟨rfl, _, World.drewN_drewN _ _ _⟩ | exact ⟨rfl, _, Eq.trans (World.drewN_drewN _ _ _) (congrArg (World.drewN _) (Nat.add_assoc _ _ _))⟩); have p147 : 0 ≤ (a1 : Int) := lE (by first | (with_reducible assumption) | assumption); have q147 : a1 < (l0.length : Int) := lE (by first | (with_reducible assumption) | assumption); obtain ⟨ad147, e147, hx147_0⟩ := Kd.at_int HR0.out a1 p147 q147; cases e147; replace p147 := eq_true p147; replace q147 := eq_true q147; have p148 : 0 ≤ ((ji7) : Int) := lE (by first | (with_reducible assumption) | assumption); have q148 : (ji7) < (l0.length : Int) := lE (by first | (with_reducible assumption) | assumption); obtain ⟨ad148, e148, hx148_0⟩ := Kd.at_int HR0.out (ji7) p148 q148; obtain rfl : ad147 = ad148 := (by injection e148); replace p148 := eq_true p148; replace q148 := eq_true q148)))
      go_ret3
      exact ⟨by first | rfl | (simp; done) | (simp only [← hji7] <;> (first | rfl | simp)) | (simp [*]; done), by repeat (first | exact Drawn0.refl _ | apply Drawn0.step)⟩
     ·rw [if_neg c9] at H
      exact absurd H (by simp)
    ·rw [if_neg c8] at H
     exact absurd H (by simp)
   ·rw [if_neg c6] at H
    exact absurd H (by simp)
  ·rw [if_neg c5] at H
   exact absurd H (by simp)
 ·replace c4 := Bool.eq_false_iff.mpr c4
  subst c4
  have H1 : (some (0, 0, false)) = some (r1, r2, r3) := by rw [if_neg (show ¬ (false = true) by decide)] at H; exact H
  clear H
  have H := H1
  clear H1
  simp only [Option.some.injEq, Prod.mk.injEq] at H
  obtain ⟨rfl, rfl, rfl⟩ := H
  go_enter Try.func65, Try.ntmps65
  have hwq0_ : IntKind.i64.wrap ((l0.length : Int) - 2) = wrap64 ((l0.length : Int) - 2) := by rw [IntKind.wrap_i64]; unfold wrap64; rfl
  go_wp2_with (first | (go_at_call 64; (with_reducible refine (spec_l1In.calls a1 0 (wrap64 ((l0.length : Int) - 2)) false _ A3.out).mono ?_); rintro e w' ⟨rfl, ⟨nd, rfl⟩⟩; (try first | exact ⟨rfl, _, World.drewN_drewN _ _ _⟩ | exact ⟨rfl, _, Eq.trans (World.drewN_drewN _ _ _) (congrArg (World.drewN _) (Nat.add_assoc _ _ _))⟩)))
  repeat (go_quiet (first | (go_at_call 64; (with_reducible refine (spec_l1In.calls a1 0 (wrap64 ((l0.length : Int) - 2)) false _ A3.out).mono ?_); rintro e w' ⟨rfl, ⟨nd, rfl⟩⟩; (try first | exact ⟨rfl, _, World.drewN_drewN _ _ _⟩ | exact ⟨rfl, _, Eq.trans (World.drewN_drewN _ _ _) (congrArg (World.drewN _) (Nat.add_assoc _ _ _))⟩))); try go_wp2_with (first | (go_at_call 64; (with_reducible refine (spec_l1In.calls a1 0 (wrap64 ((l0.length : Int) - 2)) false _ A3.out).mono ?_); rintro e w' ⟨rfl, ⟨nd, rfl⟩⟩; (try first | exact ⟨rfl, _, World.drewN_drewN _ _ _⟩ | exact ⟨rfl, _, Eq.trans (World.drewN_drewN _ _ _) (congrArg (World.drewN _) (Nat.add_assoc _ _ _))⟩))))
  go_ret3
  exact ⟨by first | rfl | (simp; done) | (simp [*]; done), by repeat (first | exact Drawn0.refl _ | apply Drawn0.step)⟩
def spec_GetKey.f (k : Nat) (l0 : List Int) (a1 : Int) : Option (Int × Int × Int × Int × Int × Int × Bool) := (spec_l1In.f a1 0 (wrap64 ((l0.length : Int) - 6))).bind fun t150 => (if t150 = true then ((spec_GetW.f l0 (wrap64 (a1 + 4))).bind fun bt151 => (if 0 ≤ a1 then (if a1 < (l0.length : Int) then (if 0 ≤ (wrap64 (a1 + 1)) then (if (wrap64 (a1 + 1)) < (l0.length : Int) then (if 0 ≤ (wrap64 (a1 + 2)) then (if (wrap64 (a1 + 2)) < (l0.length : Int) then (if 0 ≤ (wrap64 (a1 + 3)) then (if (wrap64 (a1 + 3)) < (l0.length : Int) then ((spec_KeyOk.f k (wrap64 (rd l0 a1)) (wrap64 (rd l0 (wrap64 (a1 + 1)))) (wrap64 (rd l0 (wrap64 (a1 + 2)))) (wrap64 (rd l0 (wrap64 (a1 + 3)))) bt151.1).bind fun t159 => (if t159 = true then (some (wrap64 (rd l0 a1), wrap64 (rd l0 (wrap64 (a1 + 1))), wrap64 (rd l0 (wrap64 (a1 + 2))), wrap64 (rd l0 (wrap64 (a1 + 3))), bt151.1, bt151.2.1, true)) else (some (0, 0, 0, 0, 0, 0, false)))) else (none)) else (none)) else (none)) else (none)) else (none)) else (none)) else (none)) else (none))) else (some (0, 0, 0, 0, 0, 0, false)))
def spec_GetKey.T4 : Bool × List (List Nat × List Nat) := (true, [([], []), ([], []), ([0, 1], [0, 1]), ([2], [2]), ([3], [3]), ([], []), ([], []), ([6], [6]), ([5, 7], [5, 7]), ([8], [8]), ([9], [9]), ([], []), ([], []), ([12], [12]), ([11, 13], [11, 13]), ([14], [14]), ([15], [15]), ([], []), ([], []), ([18], [18]), ([17, 19], [17, 19]), ([20], [20]), ([21], [21]), ([], []), ([4, 10, 16, 22, 23], [4, 10, 16, 22, 23]), ([], []), ([25, 24, 0, 1, 2, 3, 4, 5, 6, 7, 8, 9, 10, 11, 12, 13, 14, 15, 16, 17, 18, 19, 20, 21, 22, 23, 24, 25], [24, 25])])
def spec_GetKey.B4 : List Nat := [0, 0, 3, 7, 15, 0, 0, 64, 224, 480, 992, 0, 0, 4096, 14336, 30720, 63488, 0, 0, 262144, 917504, 1966080, 4063232, 0, 16777215, 0, 67108863]
theorem spec_GetKey.tab4 : rtab .any (opsOf Try.f21 4) = spec_GetKey.T4 := by kernel_rfl
theorem spec_GetKey.bits4 : waitsOk spec_GetKey.T4.2 spec_GetKey.B4 = true := by kernel_rfl
set_option maxHeartbeats 8000000 in
set_option maxRecDepth 100000 in
theorem spec_GetKey.calls (k : Nat) (A0 : Option Addr) (c0 : Nat) (l0 : List Int) (a1 : Int) (r1 : Int) (r2 : Int) (r3 : Int) (r4 : Int) (r5 : Int) (r6 : Int) (r7 : Bool) (w : World) (hr0 : Kd.C (Kd.int .u8) w A0 l0.length l0) (hc0 : l0.length ≤ c0) (h : spec_GetKey.f k l0 a1 = some (r1, r2, r3, r4, r5, r6, r7)) :
  Calls Try.prog 21 #[.slice A0 l0.length c0, .int .i64 a1] w fun e w' => e = .returned (.tuple #[.agg #[.int .i64 r1, .int .i64 r2, .int .i64 r3, .int .i64 r4, .int .i64 r5], .int .i64 r6, .bool r7]) ∧ Below w.heap.size w w' := by
 have hu27 := Try.underlying27
 have HR0 := aK.mk hr0
 have HC0 := aK.mk hc0
 clear hr0 hc0
 have HB := aK.mk (Below.refl w.heap.size w)
 have H : ((spec_l1In.f a1 0 (wrap64 ((l0.length : Int) - 6))).bind fun t150 => (if t150 = true then ((spec_GetW.f l0 (wrap64 (a1 + 4))).bind fun bt151 => (if 0 ≤ a1 then (if a1 < (l0.length : Int) then (if 0 ≤ (wrap64 (a1 + 1)) then (if (wrap64 (a1 + 1)) < (l0.length : Int) then (if 0 ≤ (wrap64 (a1 + 2)) then (if (wrap64 (a1 + 2)) < (l0.length : Int) then (if 0 ≤ (wrap64 (a1 + 3)) then (if (wrap64 (a1 + 3)) < (l0.length : Int) then ((spec_KeyOk.f k (wrap64 (rd l0 a1)) (wrap64 (rd l0 (wrap64 (a1 + 1)))) (wrap64 (rd l0 (wrap64 (a1 + 2)))) (wrap64 (rd l0 (wrap64 (a1 + 3)))) bt151.1).bind fun t159 => (if t159 = true then (some (wrap64 (rd l0 a1), wrap64 (rd l0 (wrap64 (a1 + 1))), wrap64 (rd l0 (wrap64 (a1 + 2))), wrap64 (rd l0 (wrap64 (a1 + 3))), bt151.1, bt151.2.1, true)) else (some (0, 0, 0, 0, 0, 0, false)))) else (none)) else (none)) else (none)) else (none)) else (none)) else (none)) else (none)) else (none))) else (some (0, 0, 0, 0, 0, 0, false)))) = some (r1, r2, r3, r4, r5, r6, r7) := h
 clear h
 replace H := lF H
 obtain ⟨t150, A30, H⟩ := H
 replace H : (if t150 = true then ((spec_GetW.f l0 (wrap64 (a1 + 4))).bind fun bt151 => (if 0 ≤ a1 then (if a1 < (l0.length : Int) then (if 0 ≤ (wrap64 (a1 + 1)) then (if (wrap64 (a1 + 1)) < (l0.length : Int) then (if 0 ≤ (wrap64 (a1 + 2)) then (if (wrap64 (a1 + 2)) < (l0.length : Int) then (if 0 ≤ (wrap64 (a1 + 3)) then (if (wrap64 (a1 + 3)) < (l0.length : Int) then ((spec_KeyOk.f k (wrap64 (rd l0 a1)) (wrap64 (rd l0 (wrap64 (a1 + 1)))) (wrap64 (rd l0 (wrap64 (a1 + 2)))) (wrap64 (rd l0 (wrap64 (a1 + 3)))) bt151.1).bind fun t159 => (if t159 = true then (some (wrap64 (rd l0 a1), wrap64 (rd l0 (wrap64 (a1 + 1))), wrap64 (rd l0 (wrap64 (a1 + 2))), wrap64 (rd l0 (wrap64 (a1 + 3))), bt151.1, bt151.2.1, true)) else (some (0, 0, 0, 0, 0, 0, false)))) else (none)) else (none)) else (none)) else (none)) else (none)) else (none)) else (none)) else (none))) else (some (0, 0, 0, 0, 0, 0, false))) = some (r1, r2, r3, r4, r5, r6, r7) := H
 have A3 := aK.mk A30
 clear A30
 by_cases c4 : t150 = true
 ·subst c4
  have H1 : ((spec_GetW.f l0 (wrap64 (a1 + 4))).bind fun bt151 => (if 0 ≤ a1 then (if a1 < (l0.length : Int) then (if 0 ≤ (wrap64 (a1 + 1)) then (if (wrap64 (a1 + 1)) < (l0.length : Int) then (if 0 ≤ (wrap64 (a1 + 2)) then (if (wrap64 (a1 + 2)) < (l0.length : Int) then (if 0 ≤ (wrap64 (a1 + 3)) then (if (wrap64 (a1 + 3)) < (l0.length : Int) then ((spec_KeyOk.f k (wrap64 (rd l0 a1)) (wrap64 (rd l0 (wrap64 (a1 + 1)))) (wrap64 (rd l0 (wrap64 (a1 + 2)))) (wrap64 (rd l0 (wrap64 (a1 + 3)))) bt151.1).bind fun t159 => (if t159 = true then (some (wrap64 (rd l0 a1), wrap64 (rd l0 (wrap64 (a1 + 1))), wrap64 (rd l0 (wrap64 (a1 + 2))), wrap64 (rd l0 (wrap64 (a1 + 3))), bt151.1, bt151.2.1, true)) else (some (0, 0, 0, 0, 0, 0, false)))) else (none)) else (none)) else (none)) else (none)) else (none)) else (none)) else (none)) else (none))) = some (r1, r2, r3, r4, r5, r6, r7) := by rw [if_pos rfl] at H; exact H
  clear H
  have H := H1
  clear H1
  replace H := lF H
  obtain ⟨⟨t151, t152, t153⟩, A50, H⟩ := H
  replace H : (if 0 ≤ a1 then (if a1 < (l0.length : Int) then (if 0 ≤ (wrap64 (a1 + 1)) then (if (wrap64 (a1 + 1)) < (l0.length : Int) then (if 0 ≤ (wrap64 (a1 + 2)) then (if (wrap64 (a1 + 2)) < (l0.length : Int) then (if 0 ≤ (wrap64 (a1 + 3)) then (if (wrap64 (a1 + 3)) < (l0.length : Int) then ((spec_KeyOk.f k (wrap64 (rd l0 a1)) (wrap64 (rd l0 (wrap64 (a1 + 1)))) (wrap64 (rd l0 (wrap64 (a1 + 2)))) (wrap64 (rd l0 (wrap64 (a1 + 3)))) t151).bind fun t159 => (if t159 = true then (some (wrap64 (rd l0 a1), wrap64 (rd l0 (wrap64 (a1 + 1))), wrap64 (rd l0 (wrap64 (a1 + 2))), wrap64 (rd l0 (wrap64 (a1 + 3))), t151, t152, true)) else (some (0, 0, 0, 0, 0, 0, false)))) else (none)) else (none)) else (none)) else (none)) else (none)) else (none)) else (none)) else (none)) = some (r1, r2, r3, r4, r5, r6, r7) := H
  have A5 := aK.mk A50
  clear A50
  by_cases c6 : 0 ≤ a1
  ·rw [if_pos c6] at H
   have c6b0 : decide (0 ≤ a1) = true := decide_eq_true c6
   clear c6
   by_cases c7 : a1 < (l0.length : Int)
   ·rw [if_pos c7] at H
    have c7b0 : decide (a1 < (l0.length : Int)) = true := decide_eq_true c7
    clear c7
    obtain ⟨ji8, hji8⟩ : ∃ j_ : Int, (wrap64 (a1 + 1)) = j_ := ⟨_, rfl⟩
    replace H : (if 0 ≤ (ji8) then (if (ji8) < (l0.length : Int) then (if 0 ≤ (wrap64 (a1 + 2)) then (if (wrap64 (a1 + 2)) < (l0.length : Int) then (if 0 ≤ (wrap64 (a1 + 3)) then (if (wrap64 (a1 + 3)) < (l0.length : Int) then ((spec_KeyOk.f k (wrap64 (rd l0 a1)) (wrap64 (rd l0 (ji8))) (wrap64 (rd l0 (wrap64 (a1 + 2)))) (wrap64 (rd l0 (wrap64 (a1 + 3)))) t151).bind fun t159 => (if t159 = true then (some (wrap64 (rd l0 a1), wrap64 (rd l0 (ji8)), wrap64 (rd l0 (wrap64 (a1 + 2))), wrap64 (rd l0 (wrap64 (a1 + 3))), t151, t152, true)) else (some (0, 0, 0, 0, 0, 0, false)))) else (none)) else (none)) else (none)) else (none)) else (none)) else (none)) = some (r1, r2, r3, r4, r5, r6, r7) := by first | (rw [hji8] at H; exact H) | (simp only [hji8] at H ⊢; exact H)
    (try rw [hji8] at A3)
    (try rw [hji8] at A5)
    have hji8w : (IntKind.i64.wrap (a1 + 1)) = ji8 := (bJ _).trans hji8
    by_cases c9 : 0 ≤ (ji8)
    ·rw [if_pos c9] at H
     have c9b0 : decide (0 ≤ (ji8)) = true := decide_eq_true c9
     clear c9
     by_cases c10 : (ji8) < (l0.length : Int)
     ·rw [if_pos c10] at H
      have c10b0 : decide ((ji8) < (l0.length : Int)) = true := decide_eq_true c10
      clear c10
      obtain ⟨ji11, hji11⟩ : ∃ j_ : Int, (wrap64 (a1 + 2)) = j_ := ⟨_, rfl⟩
      replace H : (if 0 ≤ (ji11) then (if (ji11) < (l0.length : Int) then (if 0 ≤ (wrap64 (a1 + 3)) then (if (wrap64 (a1 + 3)) < (l0.length : Int) then ((spec_KeyOk.f k (wrap64 (rd l0 a1)) (wrap64 (rd l0 (ji8))) (wrap64 (rd l0 (ji11))) (wrap64 (rd l0 (wrap64 (a1 + 3)))) t151).bind fun t159 => (if t159 = true then (some (wrap64 (rd l0 a1), wrap64 (rd l0 (ji8)), wrap64 (rd l0 (ji11)), wrap64 (rd l0 (wrap64 (a1 + 3))), t151, t152, true)) else (some (0, 0, 0, 0, 0, 0, false)))) else (none)) else (none)) else (none)) else (none)) = some (r1, r2, r3, r4, r5, r6, r7) := by first | (rw [hji11] at H; exact H) | (simp only [hji11] at H ⊢; exact H)
      (try rw [hji11] at A3)
      (try rw [hji11] at A5)
      have hji11w : (IntKind.i64.wrap (a1 + 2)) = ji11 := (bJ _).trans hji11
      by_cases c12 : 0 ≤ (ji11)
      ·rw [if_pos c12] at H
       have c12b0 : decide (0 ≤ (ji11)) = true := decide_eq_true c12
       clear c12
       by_cases c13 : (ji11) < (l0.length : Int)
       ·rw [if_pos c13] at H
        have c13b0 : decide ((ji11) < (l0.length : Int)) = true := decide_eq_true c13
        clear c13
        obtain ⟨ji14, hji14⟩ : ∃ j_ : Int, (wrap64 (a1 + 3)) = j_ := ⟨_, rfl⟩
        replace H : (if 0 ≤ (ji14) then (if (ji14) < (l0.length : Int) then ((spec_KeyOk.f k (wrap64 (rd l0 a1)) (wrap64 (rd l0 (ji8))) (wrap64 (rd l0 (ji11))) (wrap64 (rd l0 (ji14))) t151).bind fun t159 => (if t159 = true then (some (wrap64 (rd l0 a1), wrap64 (rd l0 (ji8)), wrap64 (rd l0 (ji11)), wrap64 (rd l0 (ji14)), t151, t152, true)) else (some (0, 0, 0, 0, 0, 0, false)))) else (none)) else (none)) = some (r1, r2, r3, r4, r5, r6, r7) := by first | (rw [hji14] at H; exact H) | (simp only [hji14] at H ⊢; exact H)
        (try rw [hji14] at A3)
        (try rw [hji14] at A5)
        have hji14w : (IntKind.i64.wrap (a1 + 3)) = ji14 := (bJ _).trans hji14
        by_cases c15 : 0 ≤ (ji14)
        ·rw [if_pos c15] at H
         have c15b0 : decide (0 ≤ (ji14)) = true := decide_eq_true c15
         clear c15
         by_cases c16 : (ji14) < (l0.length : Int)
         ·rw [if_pos c16] at H
          have c16b0 : decide ((ji14) < (l0.length : Int)) = true := decide_eq_true c16
          clear c16
          replace H := lF H
          obtain ⟨t159, A170, H⟩ := H
          replace H : (if t159 = true then (some (wrap64 (rd l0 a1), wrap64 (rd l0 (ji8)), wrap64 (rd l0 (ji11)), wrap64 (rd l0 (ji14)), t151, t152, true)) else (some (0, 0, 0, 0, 0, 0, false))) = some (r1, r2, r3, r4, r5, r6, r7) := H
          have A17 := aK.mk A170
          clear A170
          by_cases c18 : t159 = true
          ·subst c18
           have H1 : (some (wrap64 (rd l0 a1), wrap64 (rd l0 (ji8)), wrap64 (rd l0 (ji11)), wrap64 (rd l0 (ji14)), t151, t152, true)) = some (r1, r2, r3, r4, r5, r6, r7) := by rw [if_pos rfl] at H; exact H
           clear H
           have H := H1
           clear H1
           simp only [Option.some.injEq, Prod.mk.injEq] at H
           obtain ⟨rfl, rfl, rfl, rfl, rfl, rfl, rfl⟩ := H
           go_enter Try.func21, Try.ntmps21
           try go_wp2_with (first | ((with_reducible refine bV (N := 4) rfl ?_); refine bZ ?hg (N := 4) ?hd (cs := #[.int .i64 0, .int .i64 0, .int .i64 0, .int .i64 0, .int .i64 0]) (t := 27) ?hr ?_; (case hd => rfl); (case hg => rfl); (case hr => first | (go_simp; done) | (go_simp; rfl)); intro gb149 hg w19 hbox hb; have n0_ := aK.mk (bL (by repeat (first | (with_reducible first | exact HB.out | apply aU | apply aM | apply aT) | exact HB.out)) hb); have n1_ := aK.mk (hbox); have n2_ := aK.mk ((by rw [hg]; exact (bN (by repeat (first | (with_reducible first | exact HB.out | apply aU | apply aM | apply aT) | exact HB.out))) : w.heap.size ≤ gb149)); have n3_ := aK.mk ((by rw [hg]; exact (bN (by repeat (first | (with_reducible first | exact HB.out | apply aU | apply aM | apply aT) | exact HB.out))) : w.heap.size ≤ gb149)); clear HB; have HB := n0_; have BK149 := n1_; have GW149 := n2_; have GE149 := n3_; clear n0_ n1_ n2_ n3_; clear hb hbox hg) | ((with_reducible refine bR (f := 64) rfl ?_); refine bX (some 15) rfl rfl Try.func64 (by kernel_rfl) rfl #[.int .i64 a1, .int .i64 0, .int .i64 (wrap64 ((l0.length : Int) - 6))] rfl (by (try simp only [List.map_toArray, List.map_cons, List.map_nil]); first | done | rfl | (simp only [List.length_drop, List.length_take]; rfl)) ?_; (with_reducible refine (spec_l1In.calls a1 0 (wrap64 ((l0.length : Int) - 6)) true _ A3.out).mono ?_); rintro e w' ⟨rfl, ⟨nd, rfl⟩⟩; refine ⟨_, rfl, ?_⟩; (try (rw [drewN_self w19]; generalize hq_ : World.drewN w19 _ = w19; have n0_ : aK (w19.heap[gb149]? = some (.cells #[.int .i64 0, .int .i64 0, .int .i64 0, .int .i64 0, .int .i64 0] 27 (0, 0))) := ⟨by rw [← hq_]; exact (by (with_reducible repeat (first | refine aW ?_ _ | refine aX ?_ | refine aV ?_ _)); exact BK149.out)⟩; have n1_ : aK (Below w.heap.size w w19) := ⟨by rw [← hq_]; exact (by repeat (first | (with_reducible first | exact HB.out | apply aU | apply aM | apply aT | refine aY ?_ GE149.out) | exact HB.out))⟩; clear BK149 HB hq_; have BK149 := n0_; have HB := n1_; clear n0_ n1_))) | ((with_reducible refine bR (f := 65) rfl ?_); refine bX (some 22) rfl rfl Try.func65 (by kernel_rfl) rfl #[.slice A0 l0.length c0, .int .i64 (wrap64 (a1 + 4))] rfl (by (try simp only [List.map_toArray, List.map_cons, List.map_nil]); first | done | rfl | (simp only [List.length_drop, List.length_take]; rfl)) ?_; (with_reducible refine (spec_GetW.calls _ _ l0 (wrap64 (a1 + 4)) t151 t152 t153 _ ?side1 ?side2 A5.out).mono ?_); (case side1 => repeat (first | exact (Kd.C_below HR0.out HB.out) | (with_reducible refine Kd.cD ?_ _) | (with_reducible refine Kd.cC ?_ _) | (with_reducible refine Kd.C_drew ?_))); (case side2 => exact HC0.out); rintro e w' ⟨rfl, ⟨nd, rfl⟩⟩; refine ⟨_, rfl, ?_⟩; (try (rw [drewN_self w19]; generalize hq_ : World.drewN w19 _ = w19; have n0_ : aK (w19.heap[gb149]? = some (.cells #[.int .i64 0, .int .i64 0, .int .i64 0, .int .i64 0, .int .i64 0] 27 (0, 0))) := ⟨by rw [← hq_]; exact (by (with_reducible repeat (first | refine aW ?_ _ | refine aX ?_ | refine aV ?_ _)); exact BK149.out)⟩; have n1_ : aK (Below w.heap.size w w19) := ⟨by rw [← hq_]; exact (by repeat (first | (with_reducible first | exact HB.out | apply aU | apply aM | apply aT | refine aY ?_ GE149.out) | exact HB.out))⟩; clear BK149 HB hq_; have BK149 := n0_; have HB := n1_; clear n0_ n1_))))
           have n0_ := aK.mk (aX BK149.out)
           have n1_ := aK.mk (aT HB.out)
           clear BK149
           clear HB
           have BK149 := n0_
           have HB := n1_
           clear n0_ n1_
           have p154 : 0 ≤ (a1 : Int) := lE (by first | (with_reducible assumption) | assumption)
           have q154 : a1 < (l0.length : Int) := lE (by first | (with_reducible assumption) | assumption)
           obtain ⟨ad154, e154, hx154_0⟩ := Kd.at_int HR0.out a1 p154 q154
           have hw154_0 := hx154_0
           cases e154
           replace hx154_0 := (HB.out.cell (lD w _ hx154_0)).trans hx154_0
           replace p154 := eq_true p154
           replace q154 := eq_true q154
           have p155 : 0 ≤ ((ji8) : Int) := lE (by first | (with_reducible assumption) | assumption)
           have q155 : (ji8) < (l0.length : Int) := lE (by first | (with_reducible assumption) | assumption)
           obtain ⟨ad155, e155, hx155_0⟩ := Kd.at_int HR0.out (ji8) p155 q155
           have hw155_0 := hx155_0
           obtain rfl : ad154 = ad155 := (by injection e155)
           replace hx155_0 := (HB.out.cell (lD w _ hx155_0)).trans hx155_0
           replace p155 := eq_true p155
           replace q155 := eq_true q155
           have p156 : 0 ≤ ((ji11) : Int) := lE (by first | (with_reducible assumption) | assumption)
           have q156 : (ji11) < (l0.length : Int) := lE (by first | (with_reducible assumption) | assumption)
           obtain ⟨ad156, e156, hx156_0⟩ := Kd.at_int HR0.out (ji11) p156 q156
           have hw156_0 := hx156_0
           obtain rfl : ad154 = ad156 := (by injection e156)
           replace hx156_0 := (HB.out.cell (lD w _ hx156_0)).trans hx156_0
           replace p156 := eq_true p156
           replace q156 := eq_true q156
           have p157 : 0 ≤ ((ji14) : Int) := lE (by first | (with_reducible assumption) | assumption)
           have q157 : (ji14) < (l0.length : Int) := lE (by first | (with_reducible assumption) | assumption)
           obtain ⟨ad157, e157, hx157_0⟩ := Kd.at_int HR0.out (ji14) p157 q157
           have hw157_0 := hx157_0
           obtain rfl : ad154 = ad157 := (by injection e157)
           replace hx157_0 := (HB.out.cell (lD w _ hx157_0)).trans hx157_0
           replace p157 := eq_true p157
           replace q157 := eq_true q157
           refine start_ (n := 27) (S := fun w' => w'.cell? (ad154.add (a1).toNat) = some (.int .u8 (rd l0 a1)) ∧ w'.cell? (ad154.add ((ji8)).toNat) = some (.int .u8 (rd l0 (ji8))) ∧ w'.cell? (ad154.add ((ji11)).toNat) = some (.int .u8 (rd l0 (ji11))) ∧ w'.cell? (ad154.add ((ji14)).toNat) = some (.int .u8 (rd l0 (ji14)))) (ds := []) #[false, false, false, false, false, false, false, false, false, false, false, false, false, false, false, false, false, false, false, false, false, false, false, false, false, false, false] (by kernel_rfl) rfl rfl ⟨((HB.out.cell (lD w _ hw154_0)).trans hw154_0), ((HB.out.cell (lD w _ hw155_0)).trans hw155_0), ((HB.out.cell (lD w _ hw156_0)).trans hw156_0), ((HB.out.cell (lD w _ hw157_0)).trans hw157_0)⟩ (fun hHeld => ?_); refine with_tabW spec_GetKey.tab4 spec_GetKey.bits4 (fun HT_ HW_ => ?_)
           generalize w19.drew = w20 at BK149 HB hx154_0 hx155_0 hx156_0 hx157_0 hHeld ⊢
           refine bT (i := 0) (N := some 26) (v := ?_) (a' := ?_) #[true, false, false, false, false, false, false, false, false, false, false, false, false, false, false, false, false, false, false, false, false, false, false, false, false, false, false] rfl rfl (bM HT_.out (by kernel_rfl)) (fun _ _ _ h => h) (Or.inl ⟨by rfl, ?_⟩) ?_ ?_
           rotate_left
           ·intro w'
            go_simp
            with_reducible rfl
           rotate_left
           ·simp only [Act.put, lA, lB, lC, bJ, bK]
            rfl
           refine bT (i := 1) (N := some 27) (v := ?_) (a' := ?_) #[true, true, false, false, false, false, false, false, false, false, false, false, false, false, false, false, false, false, false, false, false, false, false, false, false, false, false] rfl rfl (bM HT_.out (by kernel_rfl)) (fun _ _ _ h => h) (Or.inl ⟨by rfl, ?_⟩) ?_ ?_
           rotate_left
           ·intro w'
            go_simp
            with_reducible rfl
           rotate_left
           ·simp only [Act.put, lA, lB, lC, bJ, bK]
            rfl
           refine bT (i := 2) (N := some 28) (v := ?_) (a' := ?_) #[true, true, true, false, false, false, false, false, false, false, false, false, false, false, false, false, false, false, false, false, false, false, false, false, false, false, false] rfl rfl (bM HT_.out (by kernel_rfl)) (fun _ _ _ h => h) (Or.inl ⟨by rfl, ?_⟩) ?_ ?_
           rotate_left
           ·intro w'
            go_simp
            with_reducible rfl
           rotate_left
           ·simp only [Act.put, lA, lB, lC, bJ, bK]
            rfl
           refine bT (i := 5) (N := some 31) (v := ?_) (a' := ?_) #[true, true, true, false, false, true, false, false, false, false, false, false, false, false, false, false, false, false, false, false, false, false, false, false, false, false, false] rfl rfl (bM HT_.out (by kernel_rfl)) (fun _ _ _ h => h) (Or.inl ⟨by rfl, ?_⟩) ?_ ?_
           rotate_left
           ·intro w'
            go_simp
            with_reducible rfl
           rotate_left
           ·simp only [Act.put, lA, lB, lC, bJ, bK]
            rfl
           refine bT (i := 6) (N := some 32) (v := ?_) (a' := ?_) #[true, true, true, false, false, true, true, false, false, false, false, false, false, false, false, false, false, false, false, false, false, false, false, false, false, false, false] rfl rfl (bM HT_.out (by kernel_rfl)) (fun _ _ _ h => h) (Or.inl ⟨by rfl, ?_⟩) ?_ ?_
           rotate_left
           ·intro w'
            go_simp
            with_reducible rfl
           rotate_left
           ·simp only [Act.put, lA, lB, lC, bJ, bK]
            rfl
           refine bT (i := 7) (N := some 33) (v := ?_) (a' := ?_) #[true, true, true, false, false, true, true, true, false, false, false, false, false, false, false, false, false, false, false, false, false, false, false, false, false, false, false] rfl rfl (bM HT_.out (by kernel_rfl)) (fun _ _ _ h => h) (Or.inl ⟨by rfl, ?_⟩) ?_ ?_
           rotate_left
           ·intro w'
            go_simp
            with_reducible rfl
           rotate_left
           ·simp only [Act.put, lA, lB, lC, bJ, bK]
            rfl
           refine bT (i := 8) (N := some 34) (v := ?_) (a' := ?_) #[true, true, true, false, false, true, true, true, true, false, false, false, false, false, false, false, false, false, false, false, false, false, false, false, false, false, false] rfl rfl (bM HT_.out (by kernel_rfl)) (fun _ _ _ h => h) (Or.inl ⟨by rfl, ?_⟩) ?_ ?_
           rotate_left
           ·intro w'
            go_simp
            with_reducible rfl
           rotate_left
           ·simp only [Act.put, lA, lB, lC, bJ, bK]
            rfl
           refine bT (i := 11) (N := some 37) (v := ?_) (a' := ?_) #[true, true, true, false, false, true, true, true, true, false, false, true, false, false, false, false, false, false, false, false, false, false, false, false, false, false, false] rfl rfl (bM HT_.out (by kernel_rfl)) (fun _ _ _ h => h) (Or.inl ⟨by rfl, ?_⟩) ?_ ?_
           rotate_left
           ·intro w'
            go_simp
            with_reducible rfl
           rotate_left
           ·simp only [Act.put, lA, lB, lC, bJ, bK]
            rfl
           refine bT (i := 12) (N := some 38) (v := ?_) (a' := ?_) #[true, true, true, false, false, true, true, true, true, false, false, true, true, false, false, false, false, false, false, false, false, false, false, false, false, false, false] rfl rfl (bM HT_.out (by kernel_rfl)) (fun _ _ _ h => h) (Or.inl ⟨by rfl, ?_⟩) ?_ ?_
           rotate_left
           ·intro w'
            go_simp
            with_reducible rfl
           rotate_left
           ·simp only [Act.put, lA, lB, lC, bJ, bK]
            rfl
           refine bT (i := 13) (N := some 39) (v := ?_) (a' := ?_) #[true, true, true, false, false, true, true, true, true, false, false, true, true, true, false, false, false, false, false, false, false, false, false, false, false, false, false] rfl rfl (bM HT_.out (by kernel_rfl)) (fun _ _ _ h => h) (Or.inl ⟨by rfl, ?_⟩) ?_ ?_
           rotate_left
           ·intro w'
            go_simp
            with_reducible rfl
           rotate_left
           ·simp only [Act.put, lA, lB, lC, bJ, bK]
            rfl
           refine bT (i := 14) (N := some 40) (v := ?_) (a' := ?_) #[true, true, true, false, false, true, true, true, true, false, false, true, true, true, true, false, false, false, false, false, false, false, false, false, false, false, false] rfl rfl (bM HT_.out (by kernel_rfl)) (fun _ _ _ h => h) (Or.inl ⟨by rfl, ?_⟩) ?_ ?_
           rotate_left
           ·intro w'
            go_simp
            with_reducible rfl
           rotate_left
           ·simp only [Act.put, lA, lB, lC, bJ, bK]
            rfl
           refine bT (i := 17) (N := some 43) (v := ?_) (a' := ?_) #[true, true, true, false, false, true, true, true, true, false, false, true, true, true, true, false, false, true, false, false, false, false, false, false, false, false, false] rfl rfl (bM HT_.out (by kernel_rfl)) (fun _ _ _ h => h) (Or.inl ⟨by rfl, ?_⟩) ?_ ?_
           rotate_left
           ·intro w'
            go_simp
            with_reducible rfl
           rotate_left
           ·simp only [Act.put, lA, lB, lC, bJ, bK]
            rfl
           refine bT (i := 18) (N := some 44) (v := ?_) (a' := ?_) #[true, true, true, false, false, true, true, true, true, false, false, true, true, true, true, false, false, true, true, false, false, false, false, false, false, false, false] rfl rfl (bM HT_.out (by kernel_rfl)) (fun _ _ _ h => h) (Or.inl ⟨by rfl, ?_⟩) ?_ ?_
           rotate_left
           ·intro w'
            go_simp
            with_reducible rfl
           rotate_left
           ·simp only [Act.put, lA, lB, lC, bJ, bK]
            rfl
           refine bT (i := 19) (N := some 45) (v := ?_) (a' := ?_) #[true, true, true, false, false, true, true, true, true, false, false, true, true, true, true, false, false, true, true, true, false, false, false, false, false, false, false] rfl rfl (bM HT_.out (by kernel_rfl)) (fun _ _ _ h => h) (Or.inl ⟨by rfl, ?_⟩) ?_ ?_
           rotate_left
           ·intro w'
            go_simp
            with_reducible rfl
           rotate_left
           ·simp only [Act.put, lA, lB, lC, bJ, bK]
            rfl
           refine bT (i := 20) (N := some 46) (v := ?_) (a' := ?_) #[true, true, true, false, false, true, true, true, true, false, false, true, true, true, true, false, false, true, true, true, true, false, false, false, false, false, false] rfl rfl (bM HT_.out (by kernel_rfl)) (fun _ _ _ h => h) (Or.inl ⟨by rfl, ?_⟩) ?_ ?_
           rotate_left
           ·intro w'
            go_simp
            with_reducible rfl
           rotate_left
           ·simp only [Act.put, lA, lB, lC, bJ, bK]
            rfl
           refine bT (i := 23) (N := some 49) (v := ?_) (a' := ?_) #[true, true, true, false, false, true, true, true, true, false, false, true, true, true, true, false, false, true, true, true, true, false, false, true, false, false, false] rfl rfl (bM HT_.out (by kernel_rfl)) (fun _ _ _ h => h) (Or.inl ⟨by rfl, ?_⟩) ?_ ?_
           rotate_left
           ·intro w'
            go_simp
            with_reducible rfl
           rotate_left
           ·simp only [Act.put, lA, lB, lC, bJ, bK]
            rfl
           refine take_ (i := 3) (N := some 29) (v := ?_) (a' := ?_) #[true, true, true, true, false, true, true, true, true, false, false, true, true, true, true, false, false, true, true, true, true, false, false, true, false, false, false] rfl rfl (take_ofW HT_.out HW_.out (by kernel_rfl)) (fun _ _ _ h => h) (Or.inl ⟨by rfl, ?_⟩) hHeld ?_ ?_
           rotate_left
           ·rintro w' ⟨s0, s1, s2, s3⟩
            go_simp
            with_reducible rfl
           rotate_left
           ·simp only [Act.put, lA, lB, lC, bJ, bK]
            rfl
           refine bT (i := 4) (N := some 30) (v := ?_) (a' := ?_) #[true, true, true, true, true, true, true, true, true, false, false, true, true, true, true, false, false, true, true, true, true, false, false, true, false, false, false] rfl rfl (bM HT_.out (by kernel_rfl)) (fun _ _ _ h => h) (Or.inl ⟨by rfl, ?_⟩) ?_ ?_
           rotate_left
           ·intro w'
            go_simp
            with_reducible rfl
           rotate_left
           ·simp only [Act.put, lA, lB, lC, bJ, bK]
            rfl
           refine take_ (i := 9) (N := some 35) (v := ?_) (a' := ?_) #[true, true, true, true, true, true, true, true, true, true, false, true, true, true, true, false, false, true, true, true, true, false, false, true, false, false, false] rfl rfl (take_ofW HT_.out HW_.out (by kernel_rfl)) (fun _ _ _ h => h) (Or.inl ⟨by rfl, ?_⟩) hHeld ?_ ?_
           rotate_left
           ·rintro w' ⟨s0, s1, s2, s3⟩
            go_simp
            with_reducible rfl
           rotate_left
           ·simp only [Act.put, lA, lB, lC, bJ, bK]
            rfl
           refine bT (i := 10) (N := some 36) (v := ?_) (a' := ?_) #[true, true, true, true, true, true, true, true, true, true, true, true, true, true, true, false, false, true, true, true, true, false, false, true, false, false, false] rfl rfl (bM HT_.out (by kernel_rfl)) (fun _ _ _ h => h) (Or.inl ⟨by rfl, ?_⟩) ?_ ?_
           rotate_left
           ·intro w'
            go_simp
            with_reducible rfl
           rotate_left
           ·simp only [Act.put, lA, lB, lC, bJ, bK]
            rfl
           refine take_ (i := 15) (N := some 41) (v := ?_) (a' := ?_) #[true, true, true, true, true, true, true, true, true, true, true, true, true, true, true, true, false, true, true, true, true, false, false, true, false, false, false] rfl rfl (take_ofW HT_.out HW_.out (by kernel_rfl)) (fun _ _ _ h => h) (Or.inl ⟨by rfl, ?_⟩) hHeld ?_ ?_
           rotate_left
           ·rintro w' ⟨s0, s1, s2, s3⟩
            go_simp
            with_reducible rfl
           rotate_left
           ·simp only [Act.put, lA, lB, lC, bJ, bK]
            rfl
           refine bT (i := 16) (N := some 42) (v := ?_) (a' := ?_) #[true, true, true, true, true, true, true, true, true, true, true, true, true, true, true, true, true, true, true, true, true, false, false, true, false, false, false] rfl rfl (bM HT_.out (by kernel_rfl)) (fun _ _ _ h => h) (Or.inl ⟨by rfl, ?_⟩) ?_ ?_
           rotate_left
           ·intro w'
            go_simp
            with_reducible rfl
           rotate_left
           ·simp only [Act.put, lA, lB, lC, bJ, bK]
            rfl
           refine take_ (i := 21) (N := some 47) (v := ?_) (a' := ?_) #[true, true, true, true, true, true, true, true, true, true, true, true, true, true, true, true, true, true, true, true, true, true, false, true, false, false, false] rfl rfl (take_ofW HT_.out HW_.out (by kernel_rfl)) (fun _ _ _ h => h) (Or.inl ⟨by rfl, ?_⟩) hHeld ?_ ?_
           rotate_left
           ·rintro w' ⟨s0, s1, s2, s3⟩
            go_simp
            with_reducible rfl
           rotate_left
           ·simp only [Act.put, lA, lB, lC, bJ, bK]
            rfl
           refine bT (i := 22) (N := some 48) (v := ?_) (a' := ?_) #[true, true, true, true, true, true, true, true, true, true, true, true, true, true, true, true, true, true, true, true, true, true, true, true, false, false, false] rfl rfl (bM HT_.out (by kernel_rfl)) (fun _ _ _ h => h) (Or.inl ⟨by rfl, ?_⟩) ?_ ?_
           rotate_left
           ·intro w'
            go_simp
            with_reducible rfl
           rotate_left
           ·simp only [Act.put, lA, lB, lC, bJ, bK]
            rfl
           refine bT (i := 24) (N := some 50) (v := ?_) (a' := ?_) #[true, true, true, true, true, true, true, true, true, true, true, true, true, true, true, true, true, true, true, true, true, true, true, true, true, false, false] rfl rfl (bM HT_.out (by kernel_rfl)) (fun _ _ _ h => h) (Or.inl ⟨by rfl, ?_⟩) ?_ ?_
           rotate_left
           ·intro w'
            go_simp
            with_reducible rfl
           rotate_left
           ·simp only [Act.put, lA, lB, lC, bJ, bK]
            rfl
           refine one_ (i := 25) (N := some 10) #[true, true, true, true, true, true, true, true, true, true, true, true, true, true, true, true, true, true, true, true, true, true, true, true, true, true, false] rfl rfl (one_of HT_.out (by kernel_rfl)) (by decide) (fun K hK => ?_)
           refine box_step ?hg (N := 10) ?hd (cs := #[.int .i64 0, .int .i64 0, .int .i64 0, .int .i64 0, .int .i64 0]) (t := 27) ?hr ?_; (case hd => rfl); (case hg => rfl); (case hr => first | (go_simp; done) | (go_simp; rfl))
           intro gb158 hg w21 hbox hb
           have n0_ := aK.mk (bC (g := gb149) (o := .cells #[.int .i64 0, .int .i64 0, .int .i64 0, .int .i64 0, .int .i64 0] 27 (0, 0)) (by (with_reducible repeat (first | refine aW ?_ _ | refine aX ?_ | refine aV ?_ _)); exact BK149.out) hb)
           have n1_ := aK.mk (bL (by repeat (first | (with_reducible first | exact HB.out | apply aU | apply aM | apply aT | refine aY ?_ GE149.out) | exact HB.out)) hb)
           have n2_ := aK.mk (hbox)
           have n3_ := aK.mk ((by rw [hg]; exact (bN (by repeat (first | (with_reducible first | exact HB.out | apply aU | apply aM | apply aT | refine aY ?_ GE149.out) | exact HB.out))) : w.heap.size ≤ gb158))
           have n4_ := aK.mk ((by rw [hg]; exact (bN (by repeat (first | (with_reducible first | exact HB.out | apply aU | apply aM | apply aT | refine aY ?_ GE149.out) | exact HB.out))) : w.heap.size ≤ gb158))
           have n5_ := aK.mk ((by rw [hg]; exact Nat.ne_of_lt (bW (g := gb149) (o := .cells #[.int .i64 0, .int .i64 0, .int .i64 0, .int .i64 0, .int .i64 0] 27 (0, 0)) (by (with_reducible repeat (first | refine aW ?_ _ | refine aX ?_ | refine aV ?_ _)); exact BK149.out)) : gb149 ≠ gb158))
           have n6_ := aK.mk ((by rw [hg]; exact Nat.ne_of_gt (bW (g := gb149) (o := .cells #[.int .i64 0, .int .i64 0, .int .i64 0, .int .i64 0, .int .i64 0] 27 (0, 0)) (by (with_reducible repeat (first | refine aW ?_ _ | refine aX ?_ | refine aV ?_ _)); exact BK149.out)) : gb158 ≠ gb149))
           clear BK149
           clear HB
           have BK149 := n0_
           have HB := n1_
           have BK158 := n2_
           have GW158 := n3_
           have GE158 := n4_
           have NB149_158 := n5_
           have NB158_149 := n6_
           clear n0_ n1_ n2_ n3_ n4_ n5_ n6_
           clear hb hbox hg
           refine hK.out _ _ ⟨((HB.out.cell (lD w _ hw154_0)).trans hw154_0), ((HB.out.cell (lD w _ hw155_0)).trans hw155_0), ((HB.out.cell (lD w _ hw156_0)).trans hw156_0), ((HB.out.cell (lD w _ hw157_0)).trans hw157_0)⟩ (fun hHeld => ?_)
           clear hK K
           refine norm_ (a' := ?_) ?_ ?_
           rotate_left
           ·show Act.put _ (some 10) _ = _
            simp only [Act.put, lA, lB, lC, bJ, bK]
            rfl
           refine one_ (i := 26) (N := none) #[true, true, true, true, true, true, true, true, true, true, true, true, true, true, true, true, true, true, true, true, true, true, true, true, true, true, true] rfl rfl (one_of HT_.out (by kernel_rfl)) (by decide) (fun K hK => ?_)
           have hs22 : w21.cell? ⟨gb158, 0, none⟩ = some (.int .i64 0) := (aQ BK158.out 0).trans rfl
           have hfs22 := aN BK158.out 0
           have hns22_0 := NB149_158.out
           have hms22_0 := NB158_149.out
           have hs23 : w21.cell? ⟨gb158, 1, none⟩ = some (.int .i64 0) := (aQ BK158.out 1).trans rfl
           have hfs23 := aN BK158.out 1
           have hns23_0 := NB149_158.out
           have hms23_0 := NB158_149.out
           have hs24 : w21.cell? ⟨gb158, 2, none⟩ = some (.int .i64 0) := (aQ BK158.out 2).trans rfl
           have hfs24 := aN BK158.out 2
           have hns24_0 := NB149_158.out
           have hms24_0 := NB158_149.out
           have hs25 : w21.cell? ⟨gb158, 3, none⟩ = some (.int .i64 0) := (aQ BK158.out 3).trans rfl
           have hfs25 := aN BK158.out 3
           have hns25_0 := NB149_158.out
           have hms25_0 := NB158_149.out
           have hs26 : w21.cell? ⟨gb158, 4, none⟩ = some (.int .i64 0) := (aQ BK158.out 4).trans rfl
           have hfs26 := aN BK158.out 4
           have hns26_0 := NB149_158.out
           have hms26_0 := NB158_149.out
           refine skip_ (w1 := ?_) (by rfl) rfl ?_ ?_
           rotate_left
           ·go_simp
            rfl
           refine hK.out _ _ ⟨((bU (p := ⟨gb158, _, none⟩) (by first | exact Nat.ne_of_lt (Nat.lt_of_lt_of_le (by have := lD _ _ hw154_0; first | rwa [aZ] at this | exact this) GW158.out) | (rw [aZ]; exact Nat.ne_of_lt (Nat.lt_of_lt_of_le (by have := lD _ _ hw154_0; first | rwa [aZ] at this | exact this) GW158.out)) | (show (Addr.add _ _).block ≠ _; rw [aZ]; exact Nat.ne_of_lt (Nat.lt_of_lt_of_le (by have := lD _ _ hw154_0; first | rwa [aZ] at this | exact this) GW158.out)) | (dsimp only; exact Nat.ne_of_lt (Nat.lt_of_lt_of_le (by have := lD _ _ hw154_0; first | rwa [aZ] at this | exact this) GW158.out))) _).trans (((bU (p := ⟨gb158, _, none⟩) (by first | exact Nat.ne_of_lt (Nat.lt_of_lt_of_le (by have := lD _ _ hw154_0; first | rwa [aZ] at this | exact this) GW158.out) | (rw [aZ]; exact Nat.ne_of_lt (Nat.lt_of_lt_of_le (by have := lD _ _ hw154_0; first | rwa [aZ] at this | exact this) GW158.out)) | (show (Addr.add _ _).block ≠ _; rw [aZ]; exact Nat.ne_of_lt (Nat.lt_of_lt_of_le (by have := lD _ _ hw154_0; first | rwa [aZ] at this | exact this) GW158.out)) | (dsimp only; exact Nat.ne_of_lt (Nat.lt_of_lt_of_le (by have := lD _ _ hw154_0; first | rwa [aZ] at this | exact this) GW158.out))) _).trans (((bU (p := ⟨gb158, _, none⟩) (by first | exact Nat.ne_of_lt (Nat.lt_of_lt_of_le (by have := lD _ _ hw154_0; first | rwa [aZ] at this | exact this) GW158.out) | (rw [aZ]; exact Nat.ne_of_lt (Nat.lt_of_lt_of_le (by have := lD _ _ hw154_0; first | rwa [aZ] at this | exact this) GW158.out)) | (show (Addr.add _ _).block ≠ _; rw [aZ]; exact Nat.ne_of_lt (Nat.lt_of_lt_of_le (by have := lD _ _ hw154_0; first | rwa [aZ] at this | exact this) GW158.out)) | (dsimp only; exact Nat.ne_of_lt (Nat.lt_of_lt_of_le (by have := lD _ _ hw154_0; first | rwa [aZ] at this | exact this) GW158.out))) _).trans (((bU (p := ⟨gb158, _, none⟩) (by first | exact Nat.ne_of_lt (Nat.lt_of_lt_of_le (by have := lD _ _ hw154_0; first | rwa [aZ] at this | exact this) GW158.out) | (rw [aZ]; exact Nat.ne_of_lt (Nat.lt_of_lt_of_le (by have := lD _ _ hw154_0; first | rwa [aZ] at this | exact this) GW158.out)) | (show (Addr.add _ _).block ≠ _; rw [aZ]; exact Nat.ne_of_lt (Nat.lt_of_lt_of_le (by have := lD _ _ hw154_0; first | rwa [aZ] at this | exact this) GW158.out)) | (dsimp only; exact Nat.ne_of_lt (Nat.lt_of_lt_of_le (by have := lD _ _ hw154_0; first | rwa [aZ] at this | exact this) GW158.out))) _).trans (((bU (p := ⟨gb158, _, none⟩) (by first | exact Nat.ne_of_lt (Nat.lt_of_lt_of_le (by have := lD _ _ hw154_0; first | rwa [aZ] at this | exact this) GW158.out) | (rw [aZ]; exact Nat.ne_of_lt (Nat.lt_of_lt_of_le (by have := lD _ _ hw154_0; first | rwa [aZ] at this | exact this) GW158.out)) | (show (Addr.add _ _).block ≠ _; rw [aZ]; exact Nat.ne_of_lt (Nat.lt_of_lt_of_le (by have := lD _ _ hw154_0; first | rwa [aZ] at this | exact this) GW158.out)) | (dsimp only; exact Nat.ne_of_lt (Nat.lt_of_lt_of_le (by have := lD _ _ hw154_0; first | rwa [aZ] at this | exact this) GW158.out))) _).trans (hHeld.1)))))))))), ((bU (p := ⟨gb158, _, none⟩) (by first | exact Nat.ne_of_lt (Nat.lt_of_lt_of_le (by have := lD _ _ hw155_0; first | rwa [aZ] at this | exact this) GW158.out) | (rw [aZ]; exact Nat.ne_of_lt (Nat.lt_of_lt_of_le (by have := lD _ _ hw155_0; first | rwa [aZ] at this | exact this) GW158.out)) | (show (Addr.add _ _).block ≠ _; rw [aZ]; exact Nat.ne_of_lt (Nat.lt_of_lt_of_le (by have := lD _ _ hw155_0; first | rwa [aZ] at this | exact this) GW158.out)) | (dsimp only; exact Nat.ne_of_lt (Nat.lt_of_lt_of_le (by have := lD _ _ hw155_0; first | rwa [aZ] at this | exact this) GW158.out))) _).trans (((bU (p := ⟨gb158, _, none⟩) (by first | exact Nat.ne_of_lt (Nat.lt_of_lt_of_le (by have := lD _ _ hw155_0; first | rwa [aZ] at this | exact this) GW158.out) | (rw [aZ]; exact Nat.ne_of_lt (Nat.lt_of_lt_of_le (by have := lD _ _ hw155_0; first | rwa [aZ] at this | exact this) GW158.out)) | (show (Addr.add _ _).block ≠ _; rw [aZ]; exact Nat.ne_of_lt (Nat.lt_of_lt_of_le (by have := lD _ _ hw155_0; first | rwa [aZ] at this | exact this) GW158.out)) | (dsimp only; exact Nat.ne_of_lt (Nat.lt_of_lt_of_le (by have := lD _ _ hw155_0; first | rwa [aZ] at this | exact this) GW158.out))) _).trans (((bU (p := ⟨gb158, _, none⟩) (by first | exact Nat.ne_of_lt (Nat.lt_of_lt_of_le (by have := lD _ _ hw155_0; first | rwa [aZ] at this | exact this) GW158.out) | (rw [aZ]; exact Nat.ne_of_lt (Nat.lt_of_lt_of_le (by have := lD _ _ hw155_0; first | rwa [aZ] at this | exact this) GW158.out)) | (show (Addr.add _ _).block ≠ _; rw [aZ]; exact Nat.ne_of_lt (Nat.lt_of_lt_of_le (by have := lD _ _ hw155_0; first | rwa [aZ] at this | exact this) GW158.out)) | (dsimp only; exact Nat.ne_of_lt (Nat.lt_of_lt_of_le (by have := lD _ _ hw155_0; first | rwa [aZ] at this | exact this) GW158.out))) _).trans (((bU (p := ⟨gb158, _, none⟩) (by first | exact Nat.ne_of_lt (Nat.lt_of_lt_of_le (by have := lD _ _ hw155_0; first | rwa [aZ] at this | exact this) GW158.out) | (rw [aZ]; exact Nat.ne_of_lt (Nat.lt_of_lt_of_le (by have := lD _ _ hw155_0; first | rwa [aZ] at this | exact this) GW158.out)) | (show (Addr.add _ _).block ≠ _; rw [aZ]; exact Nat.ne_of_lt (Nat.lt_of_lt_of_le (by have := lD _ _ hw155_0; first | rwa [aZ] at this | exact this) GW158.out)) | (dsimp only; exact Nat.ne_of_lt (Nat.lt_of_lt_of_le (by have := lD _ _ hw155_0; first | rwa [aZ] at this | exact this) GW158.out))) _).trans (((bU (p := ⟨gb158, _, none⟩) (by first | exact Nat.ne_of_lt (Nat.lt_of_lt_of_le (by have := lD _ _ hw155_0; first | rwa [aZ] at this | exact this) GW158.out) | (rw [aZ]; exact Nat.ne_of_lt (Nat.lt_of_lt_of_le (by have := lD _ _ hw155_0; first | rwa [aZ] at this | exact this) GW158.out)) | (show (Addr.add _ _).block ≠ _; rw [aZ]; exact Nat.ne_of_lt (Nat.lt_of_lt_of_le (by have := lD _ _ hw155_0; first | rwa [aZ] at this | exact this) GW158.out)) | (dsimp only; exact Nat.ne_of_lt (Nat.lt_of_lt_of_le (by have := lD _ _ hw155_0; first | rwa [aZ] at this | exact this) GW158.out))) _).trans (hHeld.2.1)))))))))), ((bU (p := ⟨gb158, _, none⟩) (by first | exact Nat.ne_of_lt (Nat.lt_of_lt_of_le (by have := lD _ _ hw156_0; first | rwa [aZ] at this | exact this) GW158.out) | (rw [aZ]; exact Nat.ne_of_lt (Nat.lt_of_lt_of_le (by have := lD _ _ hw156_0; first | rwa [aZ] at this | exact this) GW158.out)) | (show (Addr.add _ _).block ≠ _; rw [aZ]; exact Nat.ne_of_lt (Nat.lt_of_lt_of_le (by have := lD _ _ hw156_0; first | rwa [aZ] at this | exact this) GW158.out)) | (dsimp only; exact Nat.ne_of_lt (Nat.lt_of_lt_of_le (by have := lD _ _ hw156_0; first | rwa [aZ] at this | exact this) GW158.out))) _).trans (((bU (p := ⟨gb158, _, none⟩) (by first | exact Nat.ne_of_lt (Nat.lt_of_lt_of_le (by have := lD _ _ hw156_0; first | rwa [aZ] at this | exact this) GW158.out) | (rw [aZ]; exact Nat.ne_of_lt (Nat.lt_of_lt_of_le (by have := lD _ _ hw156_0; first | rwa [aZ] at this | exact this) GW158.out)) | (show (Addr.add _ _).block ≠ _; rw [aZ]; exact Nat.ne_of_lt (Nat.lt_of_lt_of_le (by have := lD _ _ hw156_0; first | rwa [aZ] at this | exact this) GW158.out)) | (dsimp only; exact Nat.ne_of_lt (Nat.lt_of_lt_of_le (by have := lD _ _ hw156_0; first | rwa [aZ] at this | exact this) GW158.out))) _).trans (((bU (p := ⟨gb158, _, none⟩) (by first | exact Nat.ne_of_lt (Nat.lt_of_lt_of_le (by have := lD _ _ hw156_0; first | rwa [aZ] at this | exact this) GW158.out) | (rw [aZ]; exact Nat.ne_of_lt (Nat.lt_of_lt_of_le (by have := lD _ _ hw156_0; first | rwa [aZ] at this | exact this) GW158.out)) | (show (Addr.add _ _).block ≠ _; rw [aZ]; exact Nat.ne_of_lt (Nat.lt_of_lt_of_le (by have := lD _ _ hw156_0; first | rwa [aZ] at this | exact this) GW158.out)) | (dsimp only; exact Nat.ne_of_lt (Nat.lt_of_lt_of_le (by have := lD _ _ hw156_0; first | rwa [aZ] at this | exact this) GW158.out))) _).trans (((bU (p := ⟨gb158, _, none⟩) (by first | exact Nat.ne_of_lt (Nat.lt_of_lt_of_le (by have := lD _ _ hw156_0; first | rwa [aZ] at this | exact this) GW158.out) | (rw [aZ]; exact Nat.ne_of_lt (Nat.lt_of_lt_of_le (by have := lD _ _ hw156_0; first | rwa [aZ] at this | exact this) GW158.out)) | (show (Addr.add _ _).block ≠ _; rw [aZ]; exact Nat.ne_of_lt (Nat.lt_of_lt_of_le (by have := lD _ _ hw156_0; first | rwa [aZ] at this | exact this) GW158.out)) | (dsimp only; exact Nat.ne_of_lt (Nat.lt_of_lt_of_le (by have := lD _ _ hw156_0; first | rwa [aZ] at this | exact this) GW158.out))) _).trans (((bU (p := ⟨gb158, _, none⟩) (by first | exact Nat.ne_of_lt (Nat.lt_of_lt_of_le (by have := lD _ _ hw156_0; first | rwa [aZ] at this | exact this) GW158.out) | (rw [aZ]; exact Nat.ne_of_lt (Nat.lt_of_lt_of_le (by have := lD _ _ hw156_0; first | rwa [aZ] at this | exact this) GW158.out)) | (show (Addr.add _ _).block ≠ _; rw [aZ]; exact Nat.ne_of_lt (Nat.lt_of_lt_of_le (by have := lD _ _ hw156_0; first | rwa [aZ] at this | exact this) GW158.out)) | (dsimp only; exact Nat.ne_of_lt (Nat.lt_of_lt_of_le (by have := lD _ _ hw156_0; first | rwa [aZ] at this | exact this) GW158.out))) _).trans (hHeld.2.2.1)))))))))), ((bU (p := ⟨gb158, _, none⟩) (by first | exact Nat.ne_of_lt (Nat.lt_of_lt_of_le (by have := lD _ _ hw157_0; first | rwa [aZ] at this | exact this) GW158.out) | (rw [aZ]; exact Nat.ne_of_lt (Nat.lt_of_lt_of_le (by have := lD _ _ hw157_0; first | rwa [aZ] at this | exact this) GW158.out)) | (show (Addr.add _ _).block ≠ _; rw [aZ]; exact Nat.ne_of_lt (Nat.lt_of_lt_of_le (by have := lD _ _ hw157_0; first | rwa [aZ] at this | exact this) GW158.out)) | (dsimp only; exact Nat.ne_of_lt (Nat.lt_of_lt_of_le (by have := lD _ _ hw157_0; first | rwa [aZ] at this | exact this) GW158.out))) _).trans (((bU (p := ⟨gb158, _, none⟩) (by first | exact Nat.ne_of_lt (Nat.lt_of_lt_of_le (by have := lD _ _ hw157_0; first | rwa [aZ] at this | exact this) GW158.out) | (rw [aZ]; exact Nat.ne_of_lt (Nat.lt_of_lt_of_le (by have := lD _ _ hw157_0; first | rwa [aZ] at this | exact this) GW158.out)) | (show (Addr.add _ _).block ≠ _; rw [aZ]; exact Nat.ne_of_lt (Nat.lt_of_lt_of_le (by have := lD _ _ hw157_0; first | rwa [aZ] at this | exact this) GW158.out)) | (dsimp only; exact Nat.ne_of_lt (Nat.lt_of_lt_of_le (by have := lD _ _ hw157_0; first | rwa [aZ] at this | exact this) GW158.out))) _).trans (((bU (p := ⟨gb158, _, none⟩) (by first | exact Nat.ne_of_lt (Nat.lt_of_lt_of_le (by have := lD _ _ hw157_0; first | rwa [aZ] at this | exact this) GW158.out) | (rw [aZ]; exact Nat.ne_of_lt (Nat.lt_of_lt_of_le (by have := lD _ _ hw157_0; first | rwa [aZ] at this | exact this) GW158.out)) | (show (Addr.add _ _).block ≠ _; rw [aZ]; exact Nat.ne_of_lt (Nat.lt_of_lt_of_le (by have := lD _ _ hw157_0; first | rwa [aZ] at this | exact this) GW158.out)) | (dsimp only; exact Nat.ne_of_lt (Nat.lt_of_lt_of_le (by have := lD _ _ hw157_0; first | rwa [aZ] at this | exact this) GW158.out))) _).trans (((bU (p := ⟨gb158, _, none⟩) (by first | exact Nat.ne_of_lt (Nat.lt_of_lt_of_le (by have := lD _ _ hw157_0; first | rwa [aZ] at this | exact this) GW158.out) | (rw [aZ]; exact Nat.ne_of_lt (Nat.lt_of_lt_of_le (by have := lD _ _ hw157_0; first | rwa [aZ] at this | exact this) GW158.out)) | (show (Addr.add _ _).block ≠ _; rw [aZ]; exact Nat.ne_of_lt (Nat.lt_of_lt_of_le (by have := lD _ _ hw157_0; first | rwa [aZ] at this | exact this) GW158.out)) | (dsimp only; exact Nat.ne_of_lt (Nat.lt_of_lt_of_le (by have := lD _ _ hw157_0; first | rwa [aZ] at this | exact this) GW158.out))) _).trans (((bU (p := ⟨gb158, _, none⟩) (by first | exact Nat.ne_of_lt (Nat.lt_of_lt_of_le (by have := lD _ _ hw157_0; first | rwa [aZ] at this | exact this) GW158.out) | (rw [aZ]; exact Nat.ne_of_lt (Nat.lt_of_lt_of_le (by have := lD _ _ hw157_0; first | rwa [aZ] at this | exact this) GW158.out)) | (show (Addr.add _ _).block ≠ _; rw [aZ]; exact Nat.ne_of_lt (Nat.lt_of_lt_of_le (by have := lD _ _ hw157_0; first | rwa [aZ] at this | exact this) GW158.out)) | (dsimp only; exact Nat.ne_of_lt (Nat.lt_of_lt_of_le (by have := lD _ _ hw157_0; first | rwa [aZ] at this | exact this) GW158.out))) _).trans (hHeld.2.2.2))))))))))⟩ (fun hHeld => ?_)
           clear hK K
           refine done_ (done_of HT_.out (by kernel_rfl)) ?_
           have hnb27 := NB158_149.out
           have hnc27 := NB149_158.out
           have hcz28_0 : w21.cell? ⟨gb158, 0, none⟩ = some (.int .i64 0) := (aQ BK158.out 0).trans rfl
           have hcz28_1 : w21.cell? ⟨gb158, 1, none⟩ = some (.int .i64 0) := (aQ BK158.out 1).trans rfl
           have hcz28_2 : w21.cell? ⟨gb158, 2, none⟩ = some (.int .i64 0) := (aQ BK158.out 2).trans rfl
           have hcz28_3 : w21.cell? ⟨gb158, 3, none⟩ = some (.int .i64 0) := (aQ BK158.out 3).trans rfl
           have hcz28_4 : w21.cell? ⟨gb158, 4, none⟩ = some (.int .i64 0) := (aQ BK158.out 4).trans rfl
           have hfz28_0 := aN BK158.out 0
           have hfz28_1 := aN BK158.out 1
           have hfz28_2 := aN BK158.out 2
           have hfz28_3 := aN BK158.out 3
           have hfz28_4 := aN BK158.out 4
           try go_wp2_with (first | ((with_reducible refine bR (f := 31) rfl ?_); refine bX (some 52) rfl rfl Try.func31 (by kernel_rfl) rfl #[.agg #[.int .i64 (wrap64 (rd l0 a1)), .int .i64 (wrap64 (rd l0 (ji8))), .int .i64 (wrap64 (rd l0 (ji11))), .int .i64 (wrap64 (rd l0 (ji14))), .int .i64 t151]] rfl (by (try simp only [List.map_toArray, List.map_cons, List.map_nil]); first | done | (simp only [hji11, hji14, hji8]; rfl) | rfl | (simp only [List.length_drop, List.length_take]; rfl)) ?_; (with_reducible refine (spec_KeyOk.calls k (wrap64 (rd l0 a1)) (wrap64 (rd l0 (ji8))) (wrap64 (rd l0 (ji11))) (wrap64 (rd l0 (ji14))) t151 true _ A17.out).mono ?_); rintro e w29 ⟨rfl, hb⟩; refine ⟨_, rfl, ?_⟩; have n0_ := aK.mk (bC (g := gb149) (o := .cells #[.int .i64 0, .int .i64 0, .int .i64 0, .int .i64 0, .int .i64 0] 27 (0, 0)) (by (with_reducible repeat (first | refine aW ?_ _ | refine aX ?_ | refine aV ?_ _)); refine bP ?_ NB149_158.out _; (with_reducible repeat (first | refine aW ?_ _ | refine aX ?_ | refine aV ?_ _)); refine bP ?_ NB149_158.out _; (with_reducible repeat (first | refine aW ?_ _ | refine aX ?_ | refine aV ?_ _)); refine bP ?_ NB149_158.out _; (with_reducible repeat (first | refine aW ?_ _ | refine aX ?_ | refine aV ?_ _)); refine bP ?_ NB149_158.out _; (with_reducible repeat (first | refine aW ?_ _ | refine aX ?_ | refine aV ?_ _)); refine bP ?_ NB149_158.out _; (with_reducible repeat (first | refine aW ?_ _ | refine aX ?_ | refine aV ?_ _)); exact BK149.out) hb); have n1_ := aK.mk (bC (g := gb158) (o := .cells #[.int .i64 (wrap64 (rd l0 a1)), .int .i64 (wrap64 (rd l0 (ji8))), .int .i64 (wrap64 (rd l0 (ji11))), .int .i64 (wrap64 (rd l0 (ji14))), .int .i64 t151] 27 (0, 0)) (by (with_reducible repeat (first | refine aW ?_ _ | refine aX ?_ | refine aV ?_ _)); refine bH (cs := #[.int .i64 (wrap64 (rd l0 a1)), .int .i64 (wrap64 (rd l0 (ji8))), .int .i64 (wrap64 (rd l0 (ji11))), .int .i64 (wrap64 (rd l0 (ji14))), .int .i64 0]) ?_ 4 _ rfl; (with_reducible repeat (first | refine aW ?_ _ | refine aX ?_ | refine aV ?_ _)); refine bH (cs := #[.int .i64 (wrap64 (rd l0 a1)), .int .i64 (wrap64 (rd l0 (ji8))), .int .i64 (wrap64 (rd l0 (ji11))), .int .i64 0, .int .i64 0]) ?_ 3 _ rfl; (with_reducible repeat (first | refine aW ?_ _ | refine aX ?_ | refine aV ?_ _)); refine bH (cs := #[.int .i64 (wrap64 (rd l0 a1)), .int .i64 (wrap64 (rd l0 (ji8))), .int .i64 0, .int .i64 0, .int .i64 0]) ?_ 2 _ rfl; (with_reducible repeat (first | refine aW ?_ _ | refine aX ?_ | refine aV ?_ _)); refine bH (cs := #[.int .i64 (wrap64 (rd l0 a1)), .int .i64 0, .int .i64 0, .int .i64 0, .int .i64 0]) ?_ 1 _ rfl; (with_reducible repeat (first | refine aW ?_ _ | refine aX ?_ | refine aV ?_ _)); refine bH (cs := #[.int .i64 0, .int .i64 0, .int .i64 0, .int .i64 0, .int .i64 0]) ?_ 0 _ rfl; (with_reducible repeat (first | refine aW ?_ _ | refine aX ?_ | refine aV ?_ _)); exact BK158.out) hb); have n2_ := aK.mk (bL (by repeat (first | (with_reducible first | exact HB.out | apply aU | apply aM | apply aT | refine aY ?_ GE149.out | refine aY ?_ GE158.out) | exact HB.out)) hb); clear BK149; clear BK158; clear HB; have BK149 := n0_; have BK158 := n1_; have HB := n2_; clear n0_ n1_ n2_; (try clear hb); have hcz30_0 : w29.cell? ⟨gb158, 0, none⟩ = some (.int .i64 (wrap64 (rd l0 a1))) := (aQ BK158.out 0).trans rfl; have hcz30_1 : w29.cell? ⟨gb158, 1, none⟩ = some (.int .i64 (wrap64 (rd l0 (ji8)))) := (aQ BK158.out 1).trans rfl; have hcz30_2 : w29.cell? ⟨gb158, 2, none⟩ = some (.int .i64 (wrap64 (rd l0 (ji11)))) := (aQ BK158.out 2).trans rfl; have hcz30_3 : w29.cell? ⟨gb158, 3, none⟩ = some (.int .i64 (wrap64 (rd l0 (ji14)))) := (aQ BK158.out 3).trans rfl; have hcz30_4 : w29.cell? ⟨gb158, 4, none⟩ = some (.int .i64 t151) := (aQ BK158.out 4).trans rfl; have hfz30_0 := aN BK158.out 0; have hfz30_1 := aN BK158.out 1; have hfz30_2 := aN BK158.out 2; have hfz30_3 := aN BK158.out 3; have hfz30_4 := aN BK158.out 4; have hcz31_0 : w29.cell? ⟨gb149, 0, none⟩ = some (.int .i64 0) := (aQ BK149.out 0).trans rfl; have hcz31_1 : w29.cell? ⟨gb149, 1, none⟩ = some (.int .i64 0) := (aQ BK149.out 1).trans rfl; have hcz31_2 : w29.cell? ⟨gb149, 2, none⟩ = some (.int .i64 0) := (aQ BK149.out 2).trans rfl; have hcz31_3 : w29.cell? ⟨gb149, 3, none⟩ = some (.int .i64 0) := (aQ BK149.out 3).trans rfl; have hcz31_4 : w29.cell? ⟨gb149, 4, none⟩ = some (.int .i64 0) := (aQ BK149.out 4).trans rfl; have hfz31_0 := aN BK149.out 0; have hfz31_1 := aN BK149.out 1; have hfz31_2 := aN BK149.out 2; have hfz31_3 := aN BK149.out 3; have hfz31_4 := aN BK149.out 4))
           refine bodyPost_ret (results_ctt rfl _ _ gb149 27 #[.int .i64 (wrap64 (rd l0 a1)), .int .i64 (wrap64 (rd l0 (ji8))), .int .i64 (wrap64 (rd l0 (ji11))), .int .i64 (wrap64 (rd l0 (ji14))), .int .i64 t151] (0, 0) _ rfl (by (with_reducible repeat (first | refine aW ?_ _ | refine aX ?_ | refine aV ?_ _)); refine bH (cs := #[.int .i64 (wrap64 (rd l0 a1)), .int .i64 (wrap64 (rd l0 (ji8))), .int .i64 (wrap64 (rd l0 (ji11))), .int .i64 (wrap64 (rd l0 (ji14))), .int .i64 0]) ?_ 4 _ rfl; (with_reducible repeat (first | refine aW ?_ _ | refine aX ?_ | refine aV ?_ _)); refine bH (cs := #[.int .i64 (wrap64 (rd l0 a1)), .int .i64 (wrap64 (rd l0 (ji8))), .int .i64 (wrap64 (rd l0 (ji11))), .int .i64 0, .int .i64 0]) ?_ 3 _ rfl; (with_reducible repeat (first | refine aW ?_ _ | refine aX ?_ | refine aV ?_ _)); refine bH (cs := #[.int .i64 (wrap64 (rd l0 a1)), .int .i64 (wrap64 (rd l0 (ji8))), .int .i64 0, .int .i64 0, .int .i64 0]) ?_ 2 _ rfl; (with_reducible repeat (first | refine aW ?_ _ | refine aX ?_ | refine aV ?_ _)); refine bH (cs := #[.int .i64 (wrap64 (rd l0 a1)), .int .i64 0, .int .i64 0, .int .i64 0, .int .i64 0]) ?_ 1 _ rfl; (with_reducible repeat (first | refine aW ?_ _ | refine aX ?_ | refine aV ?_ _)); refine bH (cs := #[.int .i64 0, .int .i64 0, .int .i64 0, .int .i64 0, .int .i64 0]) ?_ 0 _ rfl; (with_reducible repeat (first | refine aW ?_ _ | refine aX ?_ | refine aV ?_ _)); exact BK149.out) Try.underlying27 rfl (by kernel_rfl)) rfl ?_
           exact ⟨by first | rfl | (simp [errW_none, errW_some] <;> rfl) | (simp only [← hji8, ← hji11, ← hji14]; first | rfl | (simp [errW_none, errW_some] <;> rfl)) | (simp [*, errW_none, errW_some] <;> rfl), by repeat (first | (with_reducible first | exact HB.out | apply aU | apply aM | apply aT | refine aY ?_ GE149.out | refine aY ?_ GE158.out) | exact HB.out)⟩
          ·replace c18 := Bool.eq_false_iff.mpr c18
           subst c18
           have H1 : (some (0, 0, 0, 0, 0, 0, false)) = some (r1, r2, r3, r4, r5, r6, r7) := by rw [if_neg (show ¬ (false = true) by decide)] at H; exact H
           clear H
           have H := H1
           clear H1
           simp only [Option.some.injEq, Prod.mk.injEq] at H
           obtain ⟨rfl, rfl, rfl, rfl, rfl, rfl, rfl⟩ := H
           go_enter Try.func21, Try.ntmps21
           try go_wp2_with (first | ((with_reducible refine bV (N := 4) rfl ?_); refine bZ ?hg (N := 4) ?hd (cs := #[.int .i64 0, .int .i64 0, .int .i64 0, .int .i64 0, .int .i64 0]) (t := 27) ?hr ?_; (case hd => rfl); (case hg => rfl); (case hr => first | (go_simp; done) | (go_simp; rfl)); intro gb149 hg w32 hbox hb; have n0_ := aK.mk (bL (by repeat (first | (with_reducible first | exact HB.out | apply aU | apply aM | apply aT) | exact HB.out)) hb); have n1_ := aK.mk (hbox); have n2_ := aK.mk ((by rw [hg]; exact (bN (by repeat (first | (with_reducible first | exact HB.out | apply aU | apply aM | apply aT) | exact HB.out))) : w.heap.size ≤ gb149)); have n3_ := aK.mk ((by rw [hg]; exact (bN (by repeat (first | (with_reducible first | exact HB.out | apply aU | apply aM | apply aT) | exact HB.out))) : w.heap.size ≤ gb149)); clear HB; have HB := n0_; have BK149 := n1_; have GW149 := n2_; have GE149 := n3_; clear n0_ n1_ n2_ n3_; clear hb hbox hg) | ((with_reducible refine bR (f := 64) rfl ?_); refine bX (some 15) rfl rfl Try.func64 (by kernel_rfl) rfl #[.int .i64 a1, .int .i64 0, .int .i64 (wrap64 ((l0.length : Int) - 6))] rfl (by (try simp only [List.map_toArray, List.map_cons, List.map_nil]); first | done | rfl | (simp only [List.length_drop, List.length_take]; rfl)) ?_; (with_reducible refine (spec_l1In.calls a1 0 (wrap64 ((l0.length : Int) - 6)) true _ A3.out).mono ?_); rintro e w' ⟨rfl, ⟨nd, rfl⟩⟩; refine ⟨_, rfl, ?_⟩; (try (rw [drewN_self w32]; generalize hq_ : World.drewN w32 _ = w32; have n0_ : aK (w32.heap[gb149]? = some (.cells #[.int .i64 0, .int .i64 0, .int .i64 0, .int .i64 0, .int .i64 0] 27 (0, 0))) := ⟨by rw [← hq_]; exact (by (with_reducible repeat (first | refine aW ?_ _ | refine aX ?_ | refine aV ?_ _)); exact BK149.out)⟩; have n1_ : aK (Below w.heap.size w w32) := ⟨by rw [← hq_]; exact (by repeat (first | (with_reducible first | exact HB.out | apply aU | apply aM | apply aT | refine aY ?_ GE149.out) | exact HB.out))⟩; clear BK149 HB hq_; have BK149 := n0_; have HB := n1_; clear n0_ n1_))) | ((with_reducible refine bR (f := 65) rfl ?_); refine bX (some 22) rfl rfl Try.func65 (by kernel_rfl) rfl #[.slice A0 l0.length c0, .int .i64 (wrap64 (a1 + 4))] rfl (by (try simp only [List.map_toArray, List.map_cons, List.map_nil]); first | done | rfl | (simp only [List.length_drop, List.length_take]; rfl)) ?_; (with_reducible refine (spec_GetW.calls _ _ l0 (wrap64 (a1 + 4)) t151 t152 t153 _ ?side1 ?side2 A5.out).mono ?_); (case side1 => repeat (first | exact (Kd.C_below HR0.out HB.out) | (with_reducible refine Kd.cD ?_ _) | (with_reducible refine Kd.cC ?_ _) | (with_reducible refine Kd.C_drew ?_))); (case side2 => exact HC0.out); rintro e w' ⟨rfl, ⟨nd, rfl⟩⟩; refine ⟨_, rfl, ?_⟩; (try (rw [drewN_self w32]; generalize hq_ : World.drewN w32 _ = w32; have n0_ : aK (w32.heap[gb149]? = some (.cells #[.int .i64 0, .int .i64 0, .int .i64 0, .int .i64 0, .int .i64 0] 27 (0, 0))) := ⟨by rw [← hq_]; exact (by (with_reducible repeat (first | refine aW ?_ _ | refine aX ?_ | refine aV ?_ _)); exact BK149.out)⟩; have n1_ : aK (Below w.heap.size w w32) := ⟨by rw [← hq_]; exact (by repeat (first | (with_reducible first | exact HB.out | apply aU | apply aM | apply aT | refine aY ?_ GE149.out) | exact HB.out))⟩; clear BK149 HB hq_; have BK149 := n0_; have HB := n1_; clear n0_ n1_))))
           have n0_ := aK.mk (aX BK149.out)
           have n1_ := aK.mk (aT HB.out)
           clear BK149
           clear HB
           have BK149 := n0_
           have HB := n1_
           clear n0_ n1_
           have p154 : 0 ≤ (a1 : Int) := lE (by first | (with_reducible assumption) | assumption)
           have q154 : a1 < (l0.length : Int) := lE (by first | (with_reducible assumption) | assumption)
           obtain ⟨ad154, e154, hx154_0⟩ := Kd.at_int HR0.out a1 p154 q154
           have hw154_0 := hx154_0
           cases e154
           replace hx154_0 := (HB.out.cell (lD w _ hx154_0)).trans hx154_0
           replace p154 := eq_true p154
           replace q154 := eq_true q154
           have p155 : 0 ≤ ((ji8) : Int) := lE (by first | (with_reducible assumption) | assumption)
           have q155 : (ji8) < (l0.length : Int) := lE (by first | (with_reducible assumption) | assumption)
           obtain ⟨ad155, e155, hx155_0⟩ := Kd.at_int HR0.out (ji8) p155 q155
           have hw155_0 := hx155_0
           obtain rfl : ad154 = ad155 := (by injection e155)
           replace hx155_0 := (HB.out.cell (lD w _ hx155_0)).trans hx155_0
           replace p155 := eq_true p155
           replace q155 := eq_true q155
           have p156 : 0 ≤ ((ji11) : Int) := lE (by first | (with_reducible assumption) | assumption)
           have q156 : (ji11) < (l0.length : Int) := lE (by first | (with_reducible assumption) | assumption)
           obtain ⟨ad156, e156, hx156_0⟩ := Kd.at_int HR0.out (ji11) p156 q156
           have hw156_0 := hx156_0
           obtain rfl : ad154 = ad156 := (by injection e156)
           replace hx156_0 := (HB.out.cell (lD w _ hx156_0)).trans hx156_0
           replace p156 := eq_true p156
           replace q156 := eq_true q156
           have p157 : 0 ≤ ((ji14) : Int) := lE (by first | (with_reducible assumption) | assumption)
           have q157 : (ji14) < (l0.length : Int) := lE (by first | (with_reducible assumption) | assumption)
           obtain ⟨ad157, e157, hx157_0⟩ := Kd.at_int HR0.out (ji14) p157 q157
           have hw157_0 := hx157_0
           obtain rfl : ad154 = ad157 := (by injection e157)
           replace hx157_0 := (HB.out.cell (lD w _ hx157_0)).trans hx157_0
           replace p157 := eq_true p157
           replace q157 := eq_true q157
           refine start_ (n := 27) (S := fun w' => w'.cell? (ad154.add (a1).toNat) = some (.int .u8 (rd l0 a1)) ∧ w'.cell? (ad154.add ((ji8)).toNat) = some (.int .u8 (rd l0 (ji8))) ∧ w'.cell? (ad154.add ((ji11)).toNat) = some (.int .u8 (rd l0 (ji11))) ∧ w'.cell? (ad154.add ((ji14)).toNat) = some (.int .u8 (rd l0 (ji14)))) (ds := []) #[false, false, false, false, false, false, false, false, false, false, false, false, false, false, false, false, false, false, false, false, false, false, false, false, false, false, false] (by kernel_rfl) rfl rfl ⟨((HB.out.cell (lD w _ hw154_0)).trans hw154_0), ((HB.out.cell (lD w _ hw155_0)).trans hw155_0), ((HB.out.cell (lD w _ hw156_0)).trans hw156_0), ((HB.out.cell (lD w _ hw157_0)).trans hw157_0)⟩ (fun hHeld => ?_); refine with_tabW spec_GetKey.tab4 spec_GetKey.bits4 (fun HT_ HW_ => ?_)
           generalize w32.drew = w33 at BK149 HB hx154_0 hx155_0 hx156_0 hx157_0 hHeld ⊢
           refine bT (i := 0) (N := some 26) (v := ?_) (a' := ?_) #[true, false, false, false, false, false, false, false, false, false, false, false, false, false, false, false, false, false, false, false, false, false, false, false, false, false, false] rfl rfl (bM HT_.out (by kernel_rfl)) (fun _ _ _ h => h) (Or.inl ⟨by rfl, ?_⟩) ?_ ?_
           rotate_left
           ·intro w'
            go_simp
            with_reducible rfl
           rotate_left
           ·simp only [Act.put, lA, lB, lC, bJ, bK]
            rfl
           refine bT (i := 1) (N := some 27) (v := ?_) (a' := ?_) #[true, true, false, false, false, false, false, false, false, false, false, false, false, false, false, false, false, false, false, false, false, false, false, false, false, false, false] rfl rfl (bM HT_.out (by kernel_rfl)) (fun _ _ _ h => h) (Or.inl ⟨by rfl, ?_⟩) ?_ ?_
           rotate_left
           ·intro w'
            go_simp
            with_reducible rfl
           rotate_left
           ·simp only [Act.put, lA, lB, lC, bJ, bK]
            rfl
           refine bT (i := 2) (N := some 28) (v := ?_) (a' := ?_) #[true, true, true, false, false, false, false, false, false, false, false, false, false, false, false, false, false, false, false, false, false, false, false, false, false, false, false] rfl rfl (bM HT_.out (by kernel_rfl)) (fun _ _ _ h => h) (Or.inl ⟨by rfl, ?_⟩) ?_ ?_
           rotate_left
           ·intro w'
            go_simp
            with_reducible rfl
           rotate_left
           ·simp only [Act.put, lA, lB, lC, bJ, bK]
            rfl
           refine bT (i := 5) (N := some 31) (v := ?_) (a' := ?_) #[true, true, true, false, false, true, false, false, false, false, false, false, false, false, false, false, false, false, false, false, false, false, false, false, false, false, false] rfl rfl (bM HT_.out (by kernel_rfl)) (fun _ _ _ h => h) (Or.inl ⟨by rfl, ?_⟩) ?_ ?_
           rotate_left
           ·intro w'
            go_simp
            with_reducible rfl
           rotate_left
           ·simp only [Act.put, lA, lB, lC, bJ, bK]
            rfl
           refine bT (i := 6) (N := some 32) (v := ?_) (a' := ?_) #[true, true, true, false, false, true, true, false, false, false, false, false, false, false, false, false, false, false, false, false, false, false, false, false, false, false, false] rfl rfl (bM HT_.out (by kernel_rfl)) (fun _ _ _ h => h) (Or.inl ⟨by rfl, ?_⟩) ?_ ?_
           rotate_left
           ·intro w'
            go_simp
            with_reducible rfl
           rotate_left
           ·simp only [Act.put, lA, lB, lC, bJ, bK]
            rfl
           refine bT (i := 7) (N := some 33) (v := ?_) (a' := ?_) #[true, true, true, false, false, true, true, true, false, false, false, false, false, false, false, false, false, false, false, false, false, false, false, false, false, false, false] rfl rfl (bM HT_.out (by kernel_rfl)) (fun _ _ _ h => h) (Or.inl ⟨by rfl, ?_⟩) ?_ ?_
           rotate_left
           ·intro w'
            go_simp
            with_reducible rfl
           rotate_left
           ·simp only [Act.put, lA, lB, lC, bJ, bK]
            rfl
           refine bT (i := 8) (N := some 34) (v := ?_) (a' := ?_) #[true, true, true, false, false, true, true, true, true, false, false, false, false, false, false, false, false, false, false, false, false, false, false, false, false, false, false] rfl rfl (bM HT_.out (by kernel_rfl)) (fun _ _ _ h => h) (Or.inl ⟨by rfl, ?_⟩) ?_ ?_
           rotate_left
           ·intro w'
            go_simp
            with_reducible rfl
           rotate_left
           ·simp only [Act.put, lA, lB, lC, bJ, bK]
            rfl
           refine bT (i := 11) (N := some 37) (v := ?_) (a' := ?_) #[true, true, true, false, false, true, true, true, true, false, false, true, false, false, false, false, false, false, false, false, false, false, false, false, false, false, false] rfl rfl (bM HT_.out (by kernel_rfl)) (fun _ _ _ h => h) (Or.inl ⟨by rfl, ?_⟩) ?_ ?_
           rotate_left
           ·intro w'
            go_simp
            with_reducible rfl
           rotate_left
           ·simp only [Act.put, lA, lB, lC, bJ, bK]
            rfl
           refine bT (i := 12) (N := some 38) (v := ?_) (a' := ?_) #[true, true, true, false, false, true, true, true, true, false, false, true, true, false, false, false, false, false, false, false, false, false, false, false, false, false, false] rfl rfl (bM HT_.out (by kernel_rfl)) (fun _ _ _ h => h) (Or.inl ⟨by rfl, ?_⟩) ?_ ?_
           rotate_left
           ·intro w'
            go_simp
            with_reducible rfl
           rotate_left
           ·simp only [Act.put, lA, lB, lC, bJ, bK]
            rfl
           refine bT (i := 13) (N := some 39) (v := ?_) (a' := ?_) #[true, true, true, false, false, true, true, true, true, false, false, true, true, true, false, false, false, false, false, false, false, false, false, false, false, false, false] rfl rfl (bM HT_.out (by kernel_rfl)) (fun _ _ _ h => h) (Or.inl ⟨by rfl, ?_⟩) ?_ ?_
           rotate_left
           ·intro w'
            go_simp
            with_reducible rfl
           rotate_left
           ·simp only [Act.put, lA, lB, lC, bJ, bK]
            rfl
           refine bT (i := 14) (N := some 40) (v := ?_) (a' := ?_) #[true, true, true, false, false, true, true, true, true, false, false, true, true, true, true, false, false, false, false, false, false, false, false, false, false, false, false] rfl rfl (bM HT_.out (by kernel_rfl)) (fun _ _ _ h => h) (Or.inl ⟨by rfl, ?_⟩) ?_ ?_
           rotate_left
           ·intro w'
            go_simp
            with_reducible rfl
           rotate_left
           ·simp only [Act.put, lA, lB, lC, bJ, bK]
            rfl
           refine bT (i := 17) (N := some 43) (v := ?_) (a' := ?_) #[true, true, true, false, false, true, true, true, true, false, false, true, true, true, true, false, false, true, false, false, false, false, false, false, false, false, false] rfl rfl (bM HT_.out (by kernel_rfl)) (fun _ _ _ h => h) (Or.inl ⟨by rfl, ?_⟩) ?_ ?_
           rotate_left
           ·intro w'
            go_simp
            with_reducible rfl
           rotate_left
           ·simp only [Act.put, lA, lB, lC, bJ, bK]
            rfl
           refine bT (i := 18) (N := some 44) (v := ?_) (a' := ?_) #[true, true, true, false, false, true, true, true, true, false, false, true, true, true, true, false, false, true, true, false, false, false, false, false, false, false, false] rfl rfl (bM HT_.out (by kernel_rfl)) (fun _ _ _ h => h) (Or.inl ⟨by rfl, ?_⟩) ?_ ?_
           rotate_left
           ·intro w'
            go_simp
            with_reducible rfl
           rotate_left
           ·simp only [Act.put, lA, lB, lC, bJ, bK]
            rfl
           refine bT (i := 19) (N := some 45) (v := ?_) (a' := ?_) #[true, true, true, false, false, true, true, true, true, false, false, true, true, true, true, false, false, true, true, true, false, false, false, false, false, false, false] rfl rfl (bM HT_.out (by kernel_rfl)) (fun _ _ _ h => h) (Or.inl ⟨by rfl, ?_⟩) ?_ ?_
           rotate_left
           ·intro w'
            go_simp
            with_reducible rfl
           rotate_left
           ·simp only [Act.put, lA, lB, lC, bJ, bK]
            rfl
           refine bT (i := 20) (N := some 46) (v := ?_) (a' := ?_) #[true, true, true, false, false, true, true, true, true, false, false, true, true, true, true, false, false, true, true, true, true, false, false, false, false, false, false] rfl rfl (bM HT_.out (by kernel_rfl)) (fun _ _ _ h => h) (Or.inl ⟨by rfl, ?_⟩) ?_ ?_
           rotate_left
           ·intro w'
            go_simp
            with_reducible rfl
           rotate_left
           ·simp only [Act.put, lA, lB, lC, bJ, bK]
            rfl
           refine bT (i := 23) (N := some 49) (v := ?_) (a' := ?_) #[true, true, true, false, false, true, true, true, true, false, false, true, true, true, true, false, false, true, true, true, true, false, false, true, false, false, false] rfl rfl (bM HT_.out (by kernel_rfl)) (fun _ _ _ h => h) (Or.inl ⟨by rfl, ?_⟩) ?_ ?_
           rotate_left
           ·intro w'
            go_simp
            with_reducible rfl
           rotate_left
           ·simp only [Act.put, lA, lB, lC, bJ, bK]
            rfl
           refine take_ (i := 3) (N := some 29) (v := ?_) (a' := ?_) #[true, true, true, true, false, true, true, true, true, false, false, true, true, true, true, false, false, true, true, true, true, false, false, true, false, false, false] rfl rfl (take_ofW HT_.out HW_.out (by kernel_rfl)) (fun _ _ _ h => h) (Or.inl ⟨by rfl, ?_⟩) hHeld ?_ ?_
           rotate_left
           ·rintro w' ⟨s0, s1, s2, s3⟩
            go_simp
            with_reducible rfl
           rotate_left
           ·simp only [Act.put, lA, lB, lC, bJ, bK]
            rfl
           refine bT (i := 4) (N := some 30) (v := ?_) (a' := ?_) #[true, true, true, true, true, true, true, true, true, false, false, true, true, true, true, false, false, true, true, true, true, false, false, true, false, false, false] rfl rfl (bM HT_.out (by kernel_rfl)) (fun _ _ _ h => h) (Or.inl ⟨by rfl, ?_⟩) ?_ ?_
           rotate_left
           ·intro w'
            go_simp
            with_reducible rfl
           rotate_left
           ·simp only [Act.put, lA, lB, lC, bJ, bK]
            rfl
           refine take_ (i := 9) (N := some 35) (v := ?_) (a' := ?_) #[true, true, true, true, true, true, true, true, true, true, false, true, true, true, true, false, false, true, true, true, true, false, false, true, false, false, false] rfl rfl (take_ofW HT_.out HW_.out (by kernel_rfl)) (fun _ _ _ h => h) (Or.inl ⟨by rfl, ?_⟩) hHeld ?_ ?_
           rotate_left
           ·rintro w' ⟨s0, s1, s2, s3⟩
            go_simp
            with_reducible rfl
           rotate_left
           ·simp only [Act.put, lA, lB, lC, bJ, bK]
            rfl
           refine bT (i := 10) (N := some 36) (v := ?_) (a' := ?_) #[true, true, true, true, true, true, true, true, true, true, true, true, true, true, true, false, false, true, true, true, true, false, false, true, false, false, false] rfl rfl (bM HT_.out (by kernel_rfl)) (fun _ _ _ h => h) (Or.inl ⟨by rfl, ?_⟩) ?_ ?_
           rotate_left
           ·intro w'
            go_simp
            with_reducible rfl
           rotate_left
           ·simp only [Act.put, lA, lB, lC, bJ, bK]
            rfl
           refine take_ (i := 15) (N := some 41) (v := ?_) (a' := ?_) #[true, true, true, true, true, true, true, true, true, true, true, true, true, true, true, true, false, true, true, true, true, false, false, true, false, false, false] rfl rfl (take_ofW HT_.out HW_.out (by kernel_rfl)) (fun _ _ _ h => h) (Or.inl ⟨by rfl, ?_⟩) hHeld ?_ ?_
           rotate_left
           ·rintro w' ⟨s0, s1, s2, s3⟩
            go_simp
            with_reducible rfl
           rotate_left
           ·simp only [Act.put, lA, lB, lC, bJ, bK]
            rfl
           refine bT (i := 16) (N := some 42) (v := ?_) (a' := ?_) #[true, true, true, true, true, true, true, true, true, true, true, true, true, true, true, true, true, true, true, true, true, false, false, true, false, false, false] rfl rfl (bM HT_.out (by kernel_rfl)) (fun _ _ _ h => h) (Or.inl ⟨by rfl, ?_⟩) ?_ ?_
           rotate_left
           ·intro w'
            go_simp
            with_reducible rfl
           rotate_left
           ·simp only [Act.put, lA, lB, lC, bJ, bK]
            rfl
           refine take_ (i := 21) (N := some 47) (v := ?_) (a' := ?_) #[true, true, true, true, true, true, true, true, true, true, true, true, true, true, true, true, true, true, true, true, true, true, false, true, false, false, false] rfl rfl (take_ofW HT_.out HW_.out (by kernel_rfl)) (fun _ _ _ h => h) (Or.inl ⟨by rfl, ?_⟩) hHeld ?_ ?_
           rotate_left
           ·rintro w' ⟨s0, s1, s2, s3⟩
            go_simp
            with_reducible rfl
           rotate_left
           ·simp only [Act.put, lA, lB, lC, bJ, bK]
            rfl
           refine bT (i := 22) (N := some 48) (v := ?_) (a' := ?_) #[true, true, true, true, true, true, true, true, true, true, true, true, true, true, true, true, true, true, true, true, true, true, true, true, false, false, false] rfl rfl (bM HT_.out (by kernel_rfl)) (fun _ _ _ h => h) (Or.inl ⟨by rfl, ?_⟩) ?_ ?_
           rotate_left
           ·intro w'
            go_simp
            with_reducible rfl
           rotate_left
           ·simp only [Act.put, lA, lB, lC, bJ, bK]
            rfl
           refine bT (i := 24) (N := some 50) (v := ?_) (a' := ?_) #[true, true, true, true, true, true, true, true, true, true, true, true, true, true, true, true, true, true, true, true, true, true, true, true, true, false, false] rfl rfl (bM HT_.out (by kernel_rfl)) (fun _ _ _ h => h) (Or.inl ⟨by rfl, ?_⟩) ?_ ?_
           rotate_left
           ·intro w'
            go_simp
            with_reducible rfl
           rotate_left
           ·simp only [Act.put, lA, lB, lC, bJ, bK]
            rfl
           refine one_ (i := 25) (N := some 10) #[true, true, true, true, true, true, true, true, true, true, true, true, true, true, true, true, true, true, true, true, true, true, true, true, true, true, false] rfl rfl (one_of HT_.out (by kernel_rfl)) (by decide) (fun K hK => ?_)
           refine box_step ?hg (N := 10) ?hd (cs := #[.int .i64 0, .int .i64 0, .int .i64 0, .int .i64 0, .int .i64 0]) (t := 27) ?hr ?_; (case hd => rfl); (case hg => rfl); (case hr => first | (go_simp; done) | (go_simp; rfl))
           intro gb158 hg w34 hbox hb
           have n0_ := aK.mk (bC (g := gb149) (o := .cells #[.int .i64 0, .int .i64 0, .int .i64 0, .int .i64 0, .int .i64 0] 27 (0, 0)) (by (with_reducible repeat (first | refine aW ?_ _ | refine aX ?_ | refine aV ?_ _)); exact BK149.out) hb)
           have n1_ := aK.mk (bL (by repeat (first | (with_reducible first | exact HB.out | apply aU | apply aM | apply aT | refine aY ?_ GE149.out) | exact HB.out)) hb)
           have n2_ := aK.mk (hbox)
           have n3_ := aK.mk ((by rw [hg]; exact (bN (by repeat (first | (with_reducible first | exact HB.out | apply aU | apply aM | apply aT | refine aY ?_ GE149.out) | exact HB.out))) : w.heap.size ≤ gb158))
           have n4_ := aK.mk ((by rw [hg]; exact (bN (by repeat (first | (with_reducible first | exact HB.out | apply aU | apply aM | apply aT | refine aY ?_ GE149.out) | exact HB.out))) : w.heap.size ≤ gb158))
           have n5_ := aK.mk ((by rw [hg]; exact Nat.ne_of_lt (bW (g := gb149) (o := .cells #[.int .i64 0, .int .i64 0, .int .i64 0, .int .i64 0, .int .i64 0] 27 (0, 0)) (by (with_reducible repeat (first | refine aW ?_ _ | refine aX ?_ | refine aV ?_ _)); exact BK149.out)) : gb149 ≠ gb158))
           have n6_ := aK.mk ((by rw [hg]; exact Nat.ne_of_gt (bW (g := gb149) (o := .cells #[.int .i64 0, .int .i64 0, .int .i64 0, .int .i64 0, .int .i64 0] 27 (0, 0)) (by (with_reducible repeat (first | refine aW ?_ _ | refine aX ?_ | refine aV ?_ _)); exact BK149.out)) : gb158 ≠ gb149))
           clear BK149
           clear HB
           have BK149 := n0_
           have HB := n1_
           have BK158 := n2_
           have GW158 := n3_
           have GE158 := n4_
           have NB149_158 := n5_
           have NB158_149 := n6_
           clear n0_ n1_ n2_ n3_ n4_ n5_ n6_
           clear hb hbox hg
           refine hK.out _ _ ⟨((HB.out.cell (lD w _ hw154_0)).trans hw154_0), ((HB.out.cell (lD w _ hw155_0)).trans hw155_0), ((HB.out.cell (lD w _ hw156_0)).trans hw156_0), ((HB.out.cell (lD w _ hw157_0)).trans hw157_0)⟩ (fun hHeld => ?_)
           clear hK K
           refine norm_ (a' := ?_) ?_ ?_
           rotate_left
           ·show Act.put _ (some 10) _ = _
            simp only [Act.put, lA, lB, lC, bJ, bK]
            rfl
           refine one_ (i := 26) (N := none) #[true, true, true, true, true, true, true, true, true, true, true, true, true, true, true, true, true, true, true, true, true, true, true, true, true, true, true] rfl rfl (one_of HT_.out (by kernel_rfl)) (by decide) (fun K hK => ?_)
           have hs35 : w34.cell? ⟨gb158, 0, none⟩ = some (.int .i64 0) := (aQ BK158.out 0).trans rfl
           have hfs35 := aN BK158.out 0
           have hns35_0 := NB149_158.out
           have hms35_0 := NB158_149.out
           have hs36 : w34.cell? ⟨gb158, 1, none⟩ = some (.int .i64 0) := (aQ BK158.out 1).trans rfl
           have hfs36 := aN BK158.out 1
           have hns36_0 := NB149_158.out
           have hms36_0 := NB158_149.out
           have hs37 : w34.cell? ⟨gb158, 2, none⟩ = some (.int .i64 0) := (aQ BK158.out 2).trans rfl
           have hfs37 := aN BK158.out 2
           have hns37_0 := NB149_158.out
           have hms37_0 := NB158_149.out
           have hs38 : w34.cell? ⟨gb158, 3, none⟩ = some (.int .i64 0) := (aQ BK158.out 3).trans rfl
           have hfs38 := aN BK158.out 3
           have hns38_0 := NB149_158.out
           have hms38_0 := NB158_149.out
           have hs39 : w34.cell? ⟨gb158, 4, none⟩ = some (.int .i64 0) := (aQ BK158.out 4).trans rfl
           have hfs39 := aN BK158.out 4
           have hns39_0 := NB149_158.out
           have hms39_0 := NB158_149.out
           refine skip_ (w1 := ?_) (by rfl) rfl ?_ ?_
           rotate_left
           ·go_simp
            rfl
           refine hK.out _ _ ⟨((bU (p := ⟨gb158, _, none⟩) (by first | exact Nat.ne_of_lt (Nat.lt_of_lt_of_le (by have := lD _ _ hw154_0; first | rwa [aZ] at this | exact this) GW158.out) | (rw [aZ]; exact Nat.ne_of_lt (Nat.lt_of_lt_of_le (by have := lD _ _ hw154_0; first | rwa [aZ] at this | exact this) GW158.out)) | (show (Addr.add _ _).block ≠ _; rw [aZ]; exact Nat.ne_of_lt (Nat.lt_of_lt_of_le (by have := lD _ _ hw154_0; first | rwa [aZ] at this | exact this) GW158.out)) | (dsimp only; exact Nat.ne_of_lt (Nat.lt_of_lt_of_le (by have := lD _ _ hw154_0; first | rwa [aZ] at this | exact this) GW158.out))) _).trans (((bU (p := ⟨gb158, _, none⟩) (by first | exact Nat.ne_of_lt (Nat.lt_of_lt_of_le (by have := lD _ _ hw154_0; first | rwa [aZ] at this | exact this) GW158.out) | (rw [aZ]; exact Nat.ne_of_lt (Nat.lt_of_lt_of_le (by have := lD _ _ hw154_0; first | rwa [aZ] at this | exact this) GW158.out)) | (show (Addr.add _ _).block ≠ _; rw [aZ]; exact Nat.ne_of_lt (Nat.lt_of_lt_of_le (by have := lD _ _ hw154_0; first | rwa [aZ] at this | exact this) GW158.out)) | (dsimp only; exact Nat.ne_of_lt (Nat.lt_of_lt_of_le (by have := lD _ _ hw154_0; first | rwa [aZ] at this | exact this) GW158.out))) _).trans (((bU (p := ⟨gb158, _, none⟩) (by first | exact Nat.ne_of_lt (Nat.lt_of_lt_of_le (by have := lD _ _ hw154_0; first | rwa [aZ] at this | exact this) GW158.out) | (rw [aZ]; exact Nat.ne_of_lt (Nat.lt_of_lt_of_le (by have := lD _ _ hw154_0; first | rwa [aZ] at this | exact this) GW158.out)) | (show (Addr.add _ _).block ≠ _; rw [aZ]; exact Nat.ne_of_lt (Nat.lt_of_lt_of_le (by have := lD _ _ hw154_0; first | rwa [aZ] at this | exact this) GW158.out)) | (dsimp only; exact Nat.ne_of_lt (Nat.lt_of_lt_of_le (by have := lD _ _ hw154_0; first | rwa [aZ] at this | exact this) GW158.out))) _).trans (((bU (p := ⟨gb158, _, none⟩) (by first | exact Nat.ne_of_lt (Nat.lt_of_lt_of_le (by have := lD _ _ hw154_0; first | rwa [aZ] at this | exact this) GW158.out) | (rw [aZ]; exact Nat.ne_of_lt (Nat.lt_of_lt_of_le (by have := lD _ _ hw154_0; first | rwa [aZ] at this | exact this) GW158.out)) | (show (Addr.add _ _).block ≠ _; rw [aZ]; exact Nat.ne_of_lt (Nat.lt_of_lt_of_le (by have := lD _ _ hw154_0; first | rwa [aZ] at this | exact this) GW158.out)) | (dsimp only; exact Nat.ne_of_lt (Nat.lt_of_lt_of_le (by have := lD _ _ hw154_0; first | rwa [aZ] at this | exact this) GW158.out))) _).trans (((bU (p := ⟨gb158, _, none⟩) (by first | exact Nat.ne_of_lt (Nat.lt_of_lt_of_le (by have := lD _ _ hw154_0; first | rwa [aZ] at this | exact this) GW158.out) | (rw [aZ]; exact Nat.ne_of_lt (Nat.lt_of_lt_of_le (by have := lD _ _ hw154_0; first | rwa [aZ] at this | exact this) GW158.out)) | (show (Addr.add _ _).block ≠ _; rw [aZ]; exact Nat.ne_of_lt (Nat.lt_of_lt_of_le (by have := lD _ _ hw154_0; first | rwa [aZ] at this | exact this) GW158.out)) | (dsimp only; exact Nat.ne_of_lt (Nat.lt_of_lt_of_le (by have := lD _ _ hw154_0; first | rwa [aZ] at this | exact this) GW158.out))) _).trans (hHeld.1)))))))))), ((bU (p := ⟨gb158, _, none⟩) (by first | exact Nat.ne_of_lt (Nat.lt_of_lt_of_le (by have := lD _ _ hw155_0; first | rwa [aZ] at this | exact this) GW158.out) | (rw [aZ]; exact Nat.ne_of_lt (Nat.lt_of_lt_of_le (by have := lD _ _ hw155_0; first | rwa [aZ] at this | exact this) GW158.out)) | (show (Addr.add _ _).block ≠ _; rw [aZ]; exact Nat.ne_of_lt (Nat.lt_of_lt_of_le (by have := lD _ _ hw155_0; first | rwa [aZ] at this | exact this) GW158.out)) | (dsimp only; exact Nat.ne_of_lt (Nat.lt_of_lt_of_le (by have := lD _ _ hw155_0; first | rwa [aZ] at this | exact this) GW158.out))) _).trans (((bU (p := ⟨gb158, _, none⟩) (by first | exact Nat.ne_of_lt (Nat.lt_of_lt_of_le (by have := lD _ _ hw155_0; first | rwa [aZ] at this | exact this) GW158.out) | (rw [aZ]; exact Nat.ne_of_lt (Nat.lt_of_lt_of_le (by have := lD _ _ hw155_0; first | rwa [aZ] at this | exact this) GW158.out)) | (show (Addr.add _ _).block ≠ _; rw [aZ]; exact Nat.ne_of_lt (Nat.lt_of_lt_of_le (by have := lD _ _ hw155_0; first | rwa [aZ] at this | exact this) GW158.out)) | (dsimp only; exact Nat.ne_of_lt (Nat.lt_of_lt_of_le (by have := lD _ _ hw155_0; first | rwa [aZ] at this | exact this) GW158.out))) _).trans (((bU (p := ⟨gb158, _, none⟩) (by first | exact Nat.ne_of_lt (Nat.lt_of_lt_of_le (by have := lD _ _ hw155_0; first | rwa [aZ] at this | exact this) GW158.out) | (rw [aZ]; exact Nat.ne_of_lt (Nat.lt_of_lt_of_le (by have := lD _ _ hw155_0; first | rwa [aZ] at this | exact this) GW158.out)) | (show (Addr.add _ _).block ≠ _; rw [aZ]; exact Nat.ne_of_lt (Nat.lt_of_lt_of_le (by have := lD _ _ hw155_0; first | rwa [aZ] at this | exact this) GW158.out)) | (dsimp only; exact Nat.ne_of_lt (Nat.lt_of_lt_of_le (by have := lD _ _ hw155_0; first | rwa [aZ] at this | exact this) GW158.out))) _).trans (((bU (p := ⟨gb158, _, none⟩) (by first | exact Nat.ne_of_lt (Nat.lt_of_lt_of_le (by have := lD _ _ hw155_0; first | rwa [aZ] at this | exact this) GW158.out) | (rw [aZ]; exact Nat.ne_of_lt (Nat.lt_of_lt_of_le (by have := lD _ _ hw155_0; first | rwa [aZ] at this | exact this) GW158.out)) | (show (Addr.add _ _).block ≠ _; rw [aZ]; exact Nat.ne_of_lt (Nat.lt_of_lt_of_le (by have := lD _ _ hw155_0; first | rwa [aZ] at this | exact this) GW158.out)) | (dsimp only; exact Nat.ne_of_lt (Nat.lt_of_lt_of_le (by have := lD _ _ hw155_0; first | rwa [aZ] at this | exact this) GW158.out))) _).trans (((bU (p := ⟨gb158, _, none⟩) (by first | exact Nat.ne_of_lt (Nat.lt_of_lt_of_le (by have := lD _ _ hw155_0; first | rwa [aZ] at this | exact this) GW158.out) | (rw [aZ]; exact Nat.ne_of_lt (Nat.lt_of_lt_of_le (by have := lD _ _ hw155_0; first | rwa [aZ] at this | exact this) GW158.out)) | (show (Addr.add _ _).block ≠ _; rw [aZ]; exact Nat.ne_of_lt (Nat.lt_of_lt_of_le (by have := lD _ _ hw155_0; first | rwa [aZ] at this | exact this) GW158.out)) | (dsimp only; exact Nat.ne_of_lt (Nat.lt_of_lt_of_le (by have := lD _ _ hw155_0; first | rwa [aZ] at this | exact this) GW158.out))) _).trans (hHeld.2.1)))))))))), ((bU (p := ⟨gb158, _, none⟩) (by first | exact Nat.ne_of_lt (Nat.lt_of_lt_of_le (by have := lD _ _ hw156_0; first | rwa [aZ] at this | exact this) GW158.out) | (rw [aZ]; exact Nat.ne_of_lt (Nat.lt_of_lt_of_le (by have := lD _ _ hw156_0; first | rwa [aZ] at this | exact this) GW158.out)) | (show (Addr.add _ _).block ≠ _; rw [aZ]; exact Nat.ne_of_lt (Nat.lt_of_lt_of_le (by have := lD _ _ hw156_0; first | rwa [aZ] at this | exact this) GW158.out)) | (dsimp only; exact Nat.ne_of_lt (Nat.lt_of_lt_of_le (by have := lD _ _ hw156_0; first | rwa [aZ] at this | exact this) GW158.out))) _).trans (((bU (p := ⟨gb158, _, none⟩) (by first | exact Nat.ne_of_lt (Nat.lt_of_lt_of_le (by have := lD _ _ hw156_0; first | rwa [aZ] at this | exact this) GW158.out) | (rw [aZ]; exact Nat.ne_of_lt (Nat.lt_of_lt_of_le (by have := lD _ _ hw156_0; first | rwa [aZ] at this | exact this) GW158.out)) | (show (Addr.add _ _).block ≠ _; rw [aZ]; exact Nat.ne_of_lt (Nat.lt_of_lt_of_le (by have := lD _ _ hw156_0; first | rwa [aZ] at this | exact this) GW158.out)) | (dsimp only; exact Nat.ne_of_lt (Nat.lt_of_lt_of_le (by have := lD _ _ hw156_0; first | rwa [aZ] at this | exact this) GW158.out))) _).trans (((bU (p := ⟨gb158, _, none⟩) (by first | exact Nat.ne_of_lt (Nat.lt_of_lt_of_le (by have := lD _ _ hw156_0; first | rwa [aZ] at this | exact this) GW158.out) | (rw [aZ]; exact Nat.ne_of_lt (Nat.lt_of_lt_of_le (by have := lD _ _ hw156_0; first | rwa [aZ] at this | exact this) GW158.out)) | (show (Addr.add _ _).block ≠ _; rw [aZ]; exact Nat.ne_of_lt (Nat.lt_of_lt_of_le (by have := lD _ _ hw156_0; first | rwa [aZ] at this | exact this) GW158.out)) | (dsimp only; exact Nat.ne_of_lt (Nat.lt_of_lt_of_le (by have := lD _ _ hw156_0; first | rwa [aZ] at this | exact this) GW158.out))) _).trans (((bU (p := ⟨gb158, _, none⟩) (by first | exact Nat.ne_of_lt (Nat.lt_of_lt_of_le (by have := lD _ _ hw156_0; first | rwa [aZ] at this | exact this) GW158.out) | (rw [aZ]; exact Nat.ne_of_lt (Nat.lt_of_lt_of_le (by have := lD _ _ hw156_0; first | rwa [aZ] at this | exact this) GW158.out)) | (show (Addr.add _ _).block ≠ _; rw [aZ]; exact Nat.ne_of_lt (Nat.lt_of_lt_of_le (by have := lD _ _ hw156_0; first | rwa [aZ] at this | exact this) GW158.out)) | (dsimp only; exact Nat.ne_of_lt (Nat.lt_of_lt_of_le (by have := lD _ _ hw156_0; first | rwa [aZ] at this | exact this) GW158.out))) _).trans (((bU (p := ⟨gb158, _, none⟩) (by first | exact Nat.ne_of_lt (Nat.lt_of_lt_of_le (by have := lD _ _ hw156_0; first | rwa [aZ] at this | exact this) GW158.out) | (rw [aZ]; exact Nat.ne_of_lt (Nat.lt_of_lt_of_le (by have := lD _ _ hw156_0; first | rwa [aZ] at this | exact this) GW158.out)) | (show (Addr.add _ _).block ≠ _; rw [aZ]; exact Nat.ne_of_lt (Nat.lt_of_lt_of_le (by have := lD _ _ hw156_0; first | rwa [aZ] at this | exact this) GW158.out)) | (dsimp only; exact Nat.ne_of_lt (Nat.lt_of_lt_of_le (by have := lD _ _ hw156_0; first | rwa [aZ] at this | exact this) GW158.out))) _).trans (hHeld.2.2.1)))))))))), ((bU (p := ⟨gb158, _, none⟩) (by first | exact Nat.ne_of_lt (Nat.lt_of_lt_of_le (by have := lD _ _ hw157_0; first | rwa [aZ] at this | exact this) GW158.out) | (rw [aZ]; exact Nat.ne_of_lt (Nat.lt_of_lt_of_le (by have := lD _ _ hw157_0; first | rwa [aZ] at this | exact this) GW158.out)) | (show (Addr.add _ _).block ≠ _; rw [aZ]; exact Nat.ne_of_lt (Nat.lt_of_lt_of_le (by have := lD _ _ hw157_0; first | rwa [aZ] at this | exact this) GW158.out)) | (dsimp only; exact Nat.ne_of_lt (Nat.lt_of_lt_of_le (by have := lD _ _ hw157_0; first | rwa [aZ] at this | exact this) GW158.out))) _).trans (((bU (p := ⟨gb158, _, none⟩) (by first | exact Nat.ne_of_lt (Nat.lt_of_lt_of_le (by have := lD _ _ hw157_0; first | rwa [aZ] at this | exact this) GW158.out) | (rw [aZ]; exact Nat.ne_of_lt (Nat.lt_of_lt_of_le (by have := lD _ _ hw157_0; first | rwa [aZ] at this | exact this) GW158.out)) | (show (Addr.add _ _).block ≠ _; rw [aZ]; exact Nat.ne_of_lt (Nat.lt_of_lt_of_le (by have := lD _ _ hw157_0; first | rwa [aZ] at this | exact this) GW158.out)) | (dsimp only; exact Nat.ne_of_lt (Nat.lt_of_lt_of_le (by have := lD _ _ hw157_0; first | rwa [aZ] at this | exact this) GW158.out))) _).trans (((bU (p := ⟨gb158, _, none⟩) (by first | exact Nat.ne_of_lt (Nat.lt_of_lt_of_le (by have := lD _ _ hw157_0; first | rwa [aZ] at this | exact this) GW158.out) | (rw [aZ]; exact Nat.ne_of_lt (Nat.lt_of_lt_of_le (by have := lD _ _ hw157_0; first | rwa [aZ] at this | exact this) GW158.out)) | (show (Addr.add _ _).block ≠ _; rw [aZ]; exact Nat.ne_of_lt (Nat.lt_of_lt_of_le (by have := lD _ _ hw157_0; first | rwa [aZ] at this | exact this) GW158.out)) | (dsimp only; exact Nat.ne_of_lt (Nat.lt_of_lt_of_le (by have := lD _ _ hw157_0; first | rwa [aZ] at this | exact this) GW158.out))) _).trans (((bU (p := ⟨gb158, _, none⟩) (by first | exact Nat.ne_of_lt (Nat.lt_of_lt_of_le (by have := lD _ _ hw157_0; first | rwa [aZ] at this | exact this) GW158.out) | (rw [aZ]; exact Nat.ne_of_lt (Nat.lt_of_lt_of_le (by have := lD _ _ hw157_0; first | rwa [aZ] at this | exact this) GW158.out)) | (show (Addr.add _ _).block ≠ _; rw [aZ]; exact Nat.ne_of_lt (Nat.lt_of_lt_of_le (by have := lD _ _ hw157_0; first | rwa [aZ] at this | exact this) GW158.out)) | (dsimp only; exact Nat.ne_of_lt (Nat.lt_of_lt_of_le (by have := lD _ _ hw157_0; first | rwa [aZ] at this | exact this) GW158.out))) _).trans (((bU (p := ⟨gb158, _, none⟩) (by first | exact Nat.ne_of_lt (Nat.lt_of_lt_of_le (by have := lD _ _ hw157_0; first | rwa [aZ] at this | exact this) GW158.out) | (rw [aZ]; exact Nat.ne_of_lt (Nat.lt_of_lt_of_le (by have := lD _ _ hw157_0; first | rwa [aZ] at this | exact this) GW158.out)) | (show (Addr.add _ _).block ≠ _; rw [aZ]; exact Nat.ne_of_lt (Nat.lt_of_lt_of_le (by have := lD _ _ hw157_0; first | rwa [aZ] at this | exact this) GW158.out)) | (dsimp only; exact Nat.ne_of_lt (Nat.lt_of_lt_of_le (by have := lD _ _ hw157_0; first | rwa [aZ] at this | exact this) GW158.out))) _).trans (hHeld.2.2.2))))))))))⟩ (fun hHeld => ?_)
           clear hK K
           refine done_ (done_of HT_.out (by kernel_rfl)) ?_
           have hnb40 := NB158_149.out
           have hnc40 := NB149_158.out
           have hcz41_0 : w34.cell? ⟨gb158, 0, none⟩ = some (.int .i64 0) := (aQ BK158.out 0).trans rfl
           have hcz41_1 : w34.cell? ⟨gb158, 1, none⟩ = some (.int .i64 0) := (aQ BK158.out 1).trans rfl
           have hcz41_2 : w34.cell? ⟨gb158, 2, none⟩ = some (.int .i64 0) := (aQ BK158.out 2).trans rfl
           have hcz41_3 : w34.cell? ⟨gb158, 3, none⟩ = some (.int .i64 0) := (aQ BK158.out 3).trans rfl
           have hcz41_4 : w34.cell? ⟨gb158, 4, none⟩ = some (.int .i64 0) := (aQ BK158.out 4).trans rfl
           have hfz41_0 := aN BK158.out 0
           have hfz41_1 := aN BK158.out 1
           have hfz41_2 := aN BK158.out 2
           have hfz41_3 := aN BK158.out 3
           have hfz41_4 := aN BK158.out 4
           try go_wp2_with (first | ((with_reducible refine bR (f := 31) rfl ?_); refine bX (some 52) rfl rfl Try.func31 (by kernel_rfl) rfl #[.agg #[.int .i64 (wrap64 (rd l0 a1)), .int .i64 (wrap64 (rd l0 (ji8))), .int .i64 (wrap64 (rd l0 (ji11))), .int .i64 (wrap64 (rd l0 (ji14))), .int .i64 t151]] rfl (by (try simp only [List.map_toArray, List.map_cons, List.map_nil]); first | done | (simp only [hji11, hji14, hji8]; rfl) | rfl | (simp only [List.length_drop, List.length_take]; rfl)) ?_; (with_reducible refine (spec_KeyOk.calls k (wrap64 (rd l0 a1)) (wrap64 (rd l0 (ji8))) (wrap64 (rd l0 (ji11))) (wrap64 (rd l0 (ji14))) t151 false _ A17.out).mono ?_); rintro e w42 ⟨rfl, hb⟩; refine ⟨_, rfl, ?_⟩; have n0_ := aK.mk (bC (g := gb149) (o := .cells #[.int .i64 0, .int .i64 0, .int .i64 0, .int .i64 0, .int .i64 0] 27 (0, 0)) (by (with_reducible repeat (first | refine aW ?_ _ | refine aX ?_ | refine aV ?_ _)); refine bP ?_ NB149_158.out _; (with_reducible repeat (first | refine aW ?_ _ | refine aX ?_ | refine aV ?_ _)); refine bP ?_ NB149_158.out _; (with_reducible repeat (first | refine aW ?_ _ | refine aX ?_ | refine aV ?_ _)); refine bP ?_ NB149_158.out _; (with_reducible repeat (first | refine aW ?_ _ | refine aX ?_ | refine aV ?_ _)); refine bP ?_ NB149_158.out _; (with_reducible repeat (first | refine aW ?_ _ | refine aX ?_ | refine aV ?_ _)); refine bP ?_ NB149_158.out _; (with_reducible repeat (first | refine aW ?_ _ | refine aX ?_ | refine aV ?_ _)); exact BK149.out) hb); have n1_ := aK.mk (bC (g := gb158) (o := .cells #[.int .i64 (wrap64 (rd l0 a1)), .int .i64 (wrap64 (rd l0 (ji8))), .int .i64 (wrap64 (rd l0 (ji11))), .int .i64 (wrap64 (rd l0 (ji14))), .int .i64 t151] 27 (0, 0)) (by (with_reducible repeat (first | refine aW ?_ _ | refine aX ?_ | refine aV ?_ _)); refine bH (cs := #[.int .i64 (wrap64 (rd l0 a1)), .int .i64 (wrap64 (rd l0 (ji8))), .int .i64 (wrap64 (rd l0 (ji11))), .int .i64 (wrap64 (rd l0 (ji14))), .int .i64 0]) ?_ 4 _ rfl; (with_reducible repeat (first | refine aW ?_ _ | refine aX ?_ | refine aV ?_ _)); refine bH (cs := #[.int .i64 (wrap64 (rd l0 a1)), .int .i64 (wrap64 (rd l0 (ji8))), .int .i64 (wrap64 (rd l0 (ji11))), .int .i64 0, .int .i64 0]) ?_ 3 _ rfl; (with_reducible repeat (first | refine aW ?_ _ | refine aX ?_ | refine aV ?_ _)); refine bH (cs := #[.int .i64 (wrap64 (rd l0 a1)), .int .i64 (wrap64 (rd l0 (ji8))), .int .i64 0, .int .i64 0, .int .i64 0]) ?_ 2 _ rfl; (with_reducible repeat (first | refine aW ?_ _ | refine aX ?_ | refine aV ?_ _)); refine bH (cs := #[.int .i64 (wrap64 (rd l0 a1)), .int .i64 0, .int .i64 0, .int .i64 0, .int .i64 0]) ?_ 1 _ rfl; (with_reducible repeat (first | refine aW ?_ _ | refine aX ?_ | refine aV ?_ _)); refine bH (cs := #[.int .i64 0, .int .i64 0, .int .i64 0, .int .i64 0, .int .i64 0]) ?_ 0 _ rfl; (with_reducible repeat (first | refine aW ?_ _ | refine aX ?_ | refine aV ?_ _)); exact BK158.out) hb); have n2_ := aK.mk (bL (by repeat (first | (with_reducible first | exact HB.out | apply aU | apply aM | apply aT | refine aY ?_ GE149.out | refine aY ?_ GE158.out) | exact HB.out)) hb); clear BK149; clear BK158; clear HB; have BK149 := n0_; have BK158 := n1_; have HB := n2_; clear n0_ n1_ n2_; (try clear hb); have hcz43_0 : w42.cell? ⟨gb149, 0, none⟩ = some (.int .i64 0) := (aQ BK149.out 0).trans rfl; have hcz43_1 : w42.cell? ⟨gb149, 1, none⟩ = some (.int .i64 0) := (aQ BK149.out 1).trans rfl; have hcz43_2 : w42.cell? ⟨gb149, 2, none⟩ = some (.int .i64 0) := (aQ BK149.out 2).trans rfl; have hcz43_3 : w42.cell? ⟨gb149, 3, none⟩ = some (.int .i64 0) := (aQ BK149.out 3).trans rfl; have hcz43_4 : w42.cell? ⟨gb149, 4, none⟩ = some (.int .i64 0) := (aQ BK149.out 4).trans rfl; have hfz43_0 := aN BK149.out 0; have hfz43_1 := aN BK149.out 1; have hfz43_2 := aN BK149.out 2; have hfz43_3 := aN BK149.out 3; have hfz43_4 := aN BK149.out 4))
           refine bodyPost_ret (results_ctt rfl _ _ gb149 27 #[.int .i64 0, .int .i64 0, .int .i64 0, .int .i64 0, .int .i64 0] (0, 0) _ rfl (by (with_reducible repeat (first | refine aW ?_ _ | refine aX ?_ | refine aV ?_ _)); refine bH (cs := #[.int .i64 0, .int .i64 0, .int .i64 0, .int .i64 0, .int .i64 0]) ?_ 4 _ rfl; (with_reducible repeat (first | refine aW ?_ _ | refine aX ?_ | refine aV ?_ _)); refine bH (cs := #[.int .i64 0, .int .i64 0, .int .i64 0, .int .i64 0, .int .i64 0]) ?_ 3 _ rfl; (with_reducible repeat (first | refine aW ?_ _ | refine aX ?_ | refine aV ?_ _)); refine bH (cs := #[.int .i64 0, .int .i64 0, .int .i64 0, .int .i64 0, .int .i64 0]) ?_ 2 _ rfl; (with_reducible repeat (first | refine aW ?_ _ | refine aX ?_ | refine aV ?_ _)); refine bH (cs := #[.int .i64 0, .int .i64 0, .int .i64 0, .int .i64 0, .int .i64 0]) ?_ 1 _ rfl; (with_reducible repeat (first | refine aW ?_ _ | refine aX ?_ | refine aV ?_ _)); refine bH (cs := #[.int .i64 0, .int .i64 0, .int .i64 0, .int .i64 0, .int .i64 0]) ?_ 0 _ rfl; (with_reducible repeat (first | refine aW ?_ _ | refine aX ?_ | refine aV ?_ _)); exact BK149.out) Try.underlying27 rfl (by kernel_rfl)) rfl ?_
           exact ⟨by first | rfl | (simp [errW_none, errW_some] <;> rfl) | (simp only [← hji8, ← hji11, ← hji14]; first | rfl | (simp [errW_none, errW_some] <;> rfl)) | (simp [*, errW_none, errW_some] <;> rfl), by repeat (first | (with_reducible first | exact HB.out | apply aU | apply aM | apply aT | refine aY ?_ GE149.out | refine aY ?_ GE158.out) | exact HB.out)⟩
         ·rw [if_neg c16] at H
          exact absurd H (by simp)
        ·rw [if_neg c15] at H
         exact absurd H (by simp)
       ·rw [if_neg c13] at H
        exact absurd H (by simp)
      ·rw [if_neg c12] at H
       exact absurd H (by simp)
     ·rw [if_neg c10] at H
      exact absurd H (by simp)
    ·rw [if_neg c9] at H
     exact absurd H (by simp)
   ·rw [if_neg c7] at H
    exact absurd H (by simp)
  ·rw [if_neg c6] at H
   exact absurd H (by simp)
 ·replace c4 := Bool.eq_false_iff.mpr c4
  subst c4
  have H1 : (some (0, 0, 0, 0, 0, 0, false)) = some (r1, r2, r3, r4, r5, r6, r7) := by rw [if_neg (show ¬ (false = true) by decide)] at H; exact H
  clear H
  have H := H1
  clear H1
  simp only [Option.some.injEq, Prod.mk.injEq] at H
  obtain ⟨rfl, rfl, rfl, rfl, rfl, rfl, rfl⟩ := H
  go_enter Try.func21, Try.ntmps21
  go_wp2_with (first | ((with_reducible refine bV (N := 4) rfl ?_); refine bZ ?hg (N := 4) ?hd (cs := #[.int .i64 0, .int .i64 0, .int .i64 0, .int .i64 0, .int .i64 0]) (t := 27) ?hr ?_; (case hd => rfl); (case hg => rfl); (case hr => first | (go_simp; done) | (go_simp; rfl)); intro gb149 hg w44 hbox hb; have n0_ := aK.mk (bL (by repeat (first | (with_reducible first | exact HB.out | apply aU | apply aM | apply aT) | exact HB.out)) hb); have n1_ := aK.mk (hbox); have n2_ := aK.mk ((by rw [hg]; exact (bN (by repeat (first | (with_reducible first | exact HB.out | apply aU | apply aM | apply aT) | exact HB.out))) : w.heap.size ≤ gb149)); have n3_ := aK.mk ((by rw [hg]; exact (bN (by repeat (first | (with_reducible first | exact HB.out | apply aU | apply aM | apply aT) | exact HB.out))) : w.heap.size ≤ gb149)); clear HB; have HB := n0_; have BK149 := n1_; have GW149 := n2_; have GE149 := n3_; clear n0_ n1_ n2_ n3_; clear hb hbox hg) | ((with_reducible refine bR (f := 64) rfl ?_); refine bX (some 15) rfl rfl Try.func64 (by kernel_rfl) rfl #[.int .i64 a1, .int .i64 0, .int .i64 (wrap64 ((l0.length : Int) - 6))] rfl (by (try simp only [List.map_toArray, List.map_cons, List.map_nil]); first | done | rfl | (simp only [List.length_drop, List.length_take]; rfl)) ?_; (with_reducible refine (spec_l1In.calls a1 0 (wrap64 ((l0.length : Int) - 6)) false _ A3.out).mono ?_); rintro e w' ⟨rfl, ⟨nd, rfl⟩⟩; refine ⟨_, rfl, ?_⟩; (try (rw [drewN_self w44]; generalize hq_ : World.drewN w44 _ = w44; have n0_ : aK (w44.heap[gb149]? = some (.cells #[.int .i64 0, .int .i64 0, .int .i64 0, .int .i64 0, .int .i64 0] 27 (0, 0))) := ⟨by rw [← hq_]; exact (by (with_reducible repeat (first | refine aW ?_ _ | refine aX ?_ | refine aV ?_ _)); exact BK149.out)⟩; have n1_ : aK (Below w.heap.size w w44) := ⟨by rw [← hq_]; exact (by repeat (first | (with_reducible first | exact HB.out | apply aU | apply aM | apply aT | refine aY ?_ GE149.out) | exact HB.out))⟩; clear BK149 HB hq_; have BK149 := n0_; have HB := n1_; clear n0_ n1_)); (try have hcz45_0 : w44.cell? ⟨gb149, 0, none⟩ = some (.int .i64 0) := (aQ BK149.out 0).trans rfl); (try have hfz45_0 := aN BK149.out 0); (try have hcz45_1 : w44.cell? ⟨gb149, 1, none⟩ = some (.int .i64 0) := (aQ BK149.out 1).trans rfl); (try have hfz45_1 := aN BK149.out 1); (try have hcz45_2 : w44.cell? ⟨gb149, 2, none⟩ = some (.int .i64 0) := (aQ BK149.out 2).trans rfl); (try have hfz45_2 := aN BK149.out 2); (try have hcz45_3 : w44.cell? ⟨gb149, 3, none⟩ = some (.int .i64 0) := (aQ BK149.out 3).trans rfl); (try have hfz45_3 := aN BK149.out 3); (try have hcz45_4 : w44.cell? ⟨gb149, 4, none⟩ = some (.int .i64 0) := (aQ BK149.out 4).trans rfl); (try have hfz45_4 := aN BK149.out 4); have hcz45_0 : w44.cell? ⟨gb149, 0, none⟩ = some (.int .i64 0) := (aQ BK149.out 0).trans rfl; have hcz45_1 : w44.cell? ⟨gb149, 1, none⟩ = some (.int .i64 0) := (aQ BK149.out 1).trans rfl; have hcz45_2 : w44.cell? ⟨gb149, 2, none⟩ = some (.int .i64 0) := (aQ BK149.out 2).trans rfl; have hcz45_3 : w44.cell? ⟨gb149, 3, none⟩ = some (.int .i64 0) := (aQ BK149.out 3).trans rfl; have hcz45_4 : w44.cell? ⟨gb149, 4, none⟩ = some (.int .i64 0) := (aQ BK149.out 4).trans rfl; have hfz45_0 := aN BK149.out 0; have hfz45_1 := aN BK149.out 1; have hfz45_2 := aN BK149.out 2; have hfz45_3 := aN BK149.out 3; have hfz45_4 := aN BK149.out 4))
  refine bodyPost_ret (results_ctt rfl _ _ gb149 27 #[.int .i64 0, .int .i64 0, .int .i64 0, .int .i64 0, .int .i64 0] (0, 0) _ rfl (by (with_reducible repeat (first | refine aW ?_ _ | refine aX ?_ | refine aV ?_ _)); refine bH (cs := #[.int .i64 0, .int .i64 0, .int .i64 0, .int .i64 0, .int .i64 0]) ?_ 4 _ rfl; (with_reducible repeat (first | refine aW ?_ _ | refine aX ?_ | refine aV ?_ _)); refine bH (cs := #[.int .i64 0, .int .i64 0, .int .i64 0, .int .i64 0, .int .i64 0]) ?_ 3 _ rfl; (with_reducible repeat (first | refine aW ?_ _ | refine aX ?_ | refine aV ?_ _)); refine bH (cs := #[.int .i64 0, .int .i64 0, .int .i64 0, .int .i64 0, .int .i64 0]) ?_ 2 _ rfl; (with_reducible repeat (first | refine aW ?_ _ | refine aX ?_ | refine aV ?_ _)); refine bH (cs := #[.int .i64 0, .int .i64 0, .int .i64 0, .int .i64 0, .int .i64 0]) ?_ 1 _ rfl; (with_reducible repeat (first | refine aW ?_ _ | refine aX ?_ | refine aV ?_ _)); refine bH (cs := #[.int .i64 0, .int .i64 0, .int .i64 0, .int .i64 0, .int .i64 0]) ?_ 0 _ rfl; (with_reducible repeat (first | refine aW ?_ _ | refine aX ?_ | refine aV ?_ _)); exact BK149.out) Try.underlying27 rfl (by kernel_rfl)) rfl ?_
  exact ⟨by first | rfl | (simp [errW_none, errW_some] <;> rfl) | (simp [*, errW_none, errW_some] <;> rfl), by repeat (first | (with_reducible first | exact HB.out | apply aU | apply aM | apply aT | refine aY ?_ GE149.out) | exact HB.out)⟩
end Go.Proofs.Ytkaoiaolbhklnaa.PFnKeys
