/- The law: the functions that it reaches, each with the proof that the machine's call comes to its answer, what they answer, and the law's row; each theorem says its conditions itself. -/
import Derived.Test.YtilhcaofpfeioaaVFnExactFlushDev
import Derived.Test.YtilhcaofpfeioaaProg
import Derived.Below
import Derived.Deep.Draws
import Derived.Deep.AppendLies
import Derived.Maps.AppendAt
import Derived.OwnWalk
import Derived.Laws.BytesArg
import Derived.Laws.MakeOwn
import Derived.Laws.OwnMore
import Derived.Deep.OwnRows
import Derived.Tactics
import Derived.Lib.ConvBytes
import Derived.Laws.Slices
import Derived.WalkKit
import Derived.KernelRfl
import Derived.RowKit3
import Derived.Deep.LoopGhost
import Derived.Deep.QuietTactic
import Derived.BigQuiet
import Derived.WideLaws
import Derived.Deep.DeepCutAuto
import Derived.Deep.CutBlock
import Derived.Deep.RegionHeld3
import Derived.Laws.Rows
import Derived.Lib.AppendStr
import Derived.ArgAppend
import Derived.Laws.IdiomCopy
import Derived.OrdersHeld
import Derived.Laws.BitsLemmas
import Derived.RowKit
namespace Go.Proofs.Ytilhcaofpfeioaa.PFnExactFlushDev
open Go.RowKit Go.Proofs.YtilhcaofpfeioaaW.PrintWords Go.Proofs.YtilhcaofpfeioaaW.PrintLast Go.Proofs.YtilhcaofpfeioaaW.PrintMore
attribute [local go_sem] max2_int min2_int max_two min_two max_three min_three max_four min_four   -- for this text's walks alone
set_option linter.unusedVariables false
set_option linter.unusedSimpArgs false
def errW : Option Int → Value
 | none => .nilIface
 | some c => .iface 0 (.int .i64 c)
theorem errW_none : errW none = .nilIface := rfl
theorem errW_some (c : Int) : errW (some c) = .iface 0 (.int .i64 c) := rfl
theorem info5 : (Try.prog.info? 5).map (fun i => (i.zero, i.size, i.bytes)) = some (some (.int .u8 0), 1, 1) := by kernel_rfl
theorem info37 : (Try.prog.info? 37).map (fun i => (i.zero, i.size, i.bytes)) = some (some (.slice none 0 0), 1, 24) := by kernel_rfl
theorem info50 : (Try.prog.info? 50).map (fun i => (i.zero, i.size, i.bytes)) = some (some (.agg #[(.int .i64 0), (.slice none 0 0)]), 2, 32) := by kernel_rfl
-- the values' own types
def rd_L1 (xs : List (List Int)) (i : Int) : (List Int) := xs.getD i.toNat ([] : List Int)
theorem at_L1 {w : World} {A : Option Addr} {n : Nat} {xs : List (List Int)} (h : Kd.C (Kd.slice 5 (Kd.int .u8)) w A n xs) (i : Int) (h0 : 0 ≤ i) (h1 : i < n) : ∃ ad A0 c0, A = some ad ∧ w.cell? (ad.add i.toNat) = some (.slice A0 (rd_L1 xs i).length c0) ∧ (rd_L1 xs i).length ≤ c0 ∧ (Kd.int .u8).C w A0 (rd_L1 xs i).length (rd_L1 xs i) := by
 obtain ⟨ad, c, e, _, hK, hc0⟩ := Kd.C_get h ([] : List Int) i h0 h1
 have hc : ∀ j u, c[j]? = some u → w.cell? (ad.add (i.toNat * 1 + j)) = some u := hc0
 obtain ⟨A0, c0, rfl, l0, g0⟩ := hK
 exact ⟨ad, A0, c0, e, by have hq := hc 0 _ rfl; rwa [Nat.mul_one, Nat.add_zero] at hq, l0, g0⟩
structure S50 where
 f0 : Int
 f1 : (List Int)
def z50 : S50 := ⟨(0 : Int), ([] : List Int)⟩
def k50 : Kd S50 := Kd.iso (Kd.pair (Kd.int .i64) (Kd.slice 5 (Kd.int .u8))) (fun x : S50 => (x.f0, x.f1))
theorem k50_open {w : World} {x : S50} {cs : List Value} (h : k50.K w x cs) : ∃ A1 c1, cs = [.int .i64 x.f0, .slice A1 x.f1.length c1] ∧ x.f1.length ≤ c1 ∧ (Kd.int .u8).C w A1 x.f1.length x.f1 := by
 obtain ⟨_, _, rfl, rfl, ⟨A1, c1, rfl, l1, g1⟩⟩ := h
 exact ⟨A1, c1, rfl, l1, g1⟩
theorem k50_openM {w : World} {base : Nat} {ok : Nat → Prop} {x : S50} {cs : List Value} (h : k50.M w base ok x cs) : ∃ v1, cs = [.int .i64 x.f0, v1] ∧ (Kd.int .u8).R 5 w base ok v1 x.f1 := by
 obtain ⟨_, _, rfl, rfl, ⟨v1, rfl, g1⟩⟩ := h
 exact ⟨v1, rfl, g1⟩
theorem k50_mkM (w : World) (base : Nat) (ok : Nat → Prop) (x : S50) {v1 : Value} (g1 : (Kd.int .u8).R 5 w base ok v1 x.f1) : k50.M w base ok x [.int .i64 x.f0, v1] := ⟨[.int .i64 x.f0], [v1], rfl, rfl, ⟨v1, rfl, g1⟩⟩
theorem k50_openF {W : World} {ok : Nat → Prop} {x : S50} {cs : List Value} (h : Kd.FK k50 W ok x cs) : ∃ A1 c1, cs = [.int .i64 x.f0, .slice A1 x.f1.length c1] ∧ x.f1.length ≤ c1 ∧ Kd.F (Kd.int .u8) W ok A1 x.f1.length x.f1 := by
 obtain ⟨A1, c1, rfl, l1, _⟩ := k50_open (Kd.FK_now h)
 exact ⟨A1, c1, rfl, l1, (fun W' hW => by obtain ⟨A1_, c1_, he, l1_, g1_⟩ := k50_open (h W' hW); injection (Option.some.inj (show some (Value.slice A1 x.f1.length c1) = some (Value.slice A1_ x.f1.length c1_) from congrArg (fun l => l[1]?) he)) with ha_ _ _; rw [ha_]; exact g1_)⟩
def rd_T50 (xs : List S50) (i : Int) : S50 := xs.getD i.toNat z50
theorem at_T50 {w : World} {A : Option Addr} {n : Nat} {xs : List S50} (h : Kd.C k50 w A n xs) (i : Int) (h0 : 0 ≤ i) (h1 : i < n) : ∃ ad A1 c1, A = some ad ∧ w.cell? (ad.add (i.toNat * 2)) = some (.int .i64 (rd_T50 xs i).f0) ∧ w.cell? ⟨(ad.add (i.toNat * 2)).block, (ad.add (i.toNat * 2)).off + 1, none⟩ = some (.slice A1 (rd_T50 xs i).f1.length c1) ∧ (rd_T50 xs i).f1.length ≤ c1 ∧ (Kd.int .u8).C w A1 (rd_T50 xs i).f1.length (rd_T50 xs i).f1 := by
 obtain ⟨ad, c, e, _, hK, hc0⟩ := Kd.C_get h z50 i h0 h1
 have hc : ∀ j u, c[j]? = some u → w.cell? (ad.add (i.toNat * 2 + j)) = some u := hc0
 obtain ⟨A1, c1, rfl, l1, g1⟩ := k50_open hK
 exact ⟨ad, A1, c1, e, hc 0 _ rfl, by rw [← add_field _ _ 1 (by omega)]; exact hc 1 _ rfl, l1, g1⟩
structure S81 where
 f0 : Int
 f1 : (List Int)
def z81 : S81 := ⟨(0 : Int), ([] : List Int)⟩
def k81 : Kd S81 := Kd.iso (Kd.pair (Kd.int .i64) (Kd.slice 5 (Kd.int .u8))) (fun x : S81 => (x.f0, x.f1))
theorem k81_open {w : World} {x : S81} {cs : List Value} (h : k81.K w x cs) : ∃ A1 c1, cs = [.int .i64 x.f0, .slice A1 x.f1.length c1] ∧ x.f1.length ≤ c1 ∧ (Kd.int .u8).C w A1 x.f1.length x.f1 := by
 obtain ⟨_, _, rfl, rfl, ⟨A1, c1, rfl, l1, g1⟩⟩ := h
 exact ⟨A1, c1, rfl, l1, g1⟩
def rd_T81 (xs : List S81) (i : Int) : S81 := xs.getD i.toNat z81
theorem at_T81 {w : World} {A : Option Addr} {n : Nat} {xs : List S81} (h : Kd.C k81 w A n xs) (i : Int) (h0 : 0 ≤ i) (h1 : i < n) : ∃ ad A1 c1, A = some ad ∧ w.cell? (ad.add (i.toNat * 2)) = some (.int .i64 (rd_T81 xs i).f0) ∧ w.cell? ⟨(ad.add (i.toNat * 2)).block, (ad.add (i.toNat * 2)).off + 1, none⟩ = some (.slice A1 (rd_T81 xs i).f1.length c1) ∧ (rd_T81 xs i).f1.length ≤ c1 ∧ (Kd.int .u8).C w A1 (rd_T81 xs i).f1.length (rd_T81 xs i).f1 := by
 obtain ⟨ad, c, e, _, hK, hc0⟩ := Kd.C_get h z81 i h0 h1
 have hc : ∀ j u, c[j]? = some u → w.cell? (ad.add (i.toNat * 2 + j)) = some u := hc0
 obtain ⟨A1, c1, rfl, l1, g1⟩ := k81_open hK
 exact ⟨ad, A1, c1, e, hc 0 _ rfl, by rw [← add_field _ _ 1 (by omega)]; exact hc 1 _ rfl, l1, g1⟩
end Go.Proofs.Ytilhcaofpfeioaa.PFnExactFlushDev

namespace Go.Proofs.Ytilhcaofpfeioaa.PFnExactFlushDev
open Go.RowKit Go.Proofs.YtilhcaofpfeioaaW.PrintWords Go.Proofs.YtilhcaofpfeioaaW.PrintLast Go.Proofs.YtilhcaofpfeioaaW.PrintMore
attribute [local go_sem] max2_int min2_int max_two min_two max_three min_three max_four min_four   -- for this text's walks alone
set_option linter.unusedVariables false
set_option linter.unusedSimpArgs false
def laws_eqByteS.l0 : Nat → List Int → List Int → Int → Option (Bool)
 | 0, _, _, _ => none
 | k + 1, x0, x1, x5 => if x5 < (x0.length : Int) then (if 0 ≤ x5 then (if x5 < (x1.length : Int) then (if (rd x0 x5) = (rd x1 x5) then (laws_eqByteS.l0 k x0 x1 (wrap64 (x5 + 1))) else (some false)) else (none)) else (none)) else (some true)
def laws_eqByteS.f (k : Nat) (l0 : List Int) (l1 : List Int) : Option (Bool) := if (l0.length : Int) = (l1.length : Int) then (laws_eqByteS.l0 k l0 l1 0) else (some false)
set_option maxHeartbeats 8000000 in
set_option maxRecDepth 100000 in
theorem laws_eqByteS.calls (k : Nat) (A0 : Option Addr) (c0 : Nat) (l0 : List Int) (A1 : Option Addr) (c1 : Nat) (l1 : List Int) (r : Bool) (w : World) (hr0 : Kd.C (Kd.int .u8) w A0 l0.length l0) (hc0 : l0.length ≤ c0) (hr1 : Kd.C (Kd.int .u8) w A1 l1.length l1) (hc1 : l1.length ≤ c1) (h : laws_eqByteS.f k l0 l1 = some r) :
  Calls Try.prog 23 #[.slice A0 l0.length c0, .slice A1 l1.length c1] w fun e w' => e = .returned (.bool r) ∧ bD w w' := by
 have HR0 := aC.mk hr0
 have HC0 := aC.mk hc0
 clear hr0 hc0
 have HR1 := aC.mk hr1
 have HC1 := aC.mk hc1
 clear hr1 hc1
 have H : (if (l0.length : Int) = (l1.length : Int) then (laws_eqByteS.l0 k l0 l1 0) else (some false)) = some r := h
 clear h
 by_cases c3 : (l0.length : Int) = (l1.length : Int)
 ·rw [if_pos c3] at H
  have c3b0 : ((l0.length : Int) == (l1.length : Int)) = true := beq_iff_eq.mpr c3
  have c3b1 : ((l0.length : Int) != (l1.length : Int)) = false := bne_eq_false_iff_eq.mpr c3
  have c3b2 : (l0.length == l1.length) = true := by first | simpa using c3 | (simp at c3 ⊢; omega)
  clear c3
  have H' := aC.mk H
  clear H
  go_enter Try.func23, Try.ntmps23
  go_wp2
  repeat (go_quiet (fail); try go_wp2)
  go_loopg [5] k (fun kq v5 w' => ∃ (x5_1 : Int), v5 = .int .i64 x5_1 ∧ aC (laws_eqByteS.l0 kq l0 l1 x5_1 = some r) ∧ aC (kq ≤ k) ∧ bD w w')
  case atStart => exact ⟨(0), (by first | rfl | (simp; done) | (simp [*]; done)), H', ⟨Nat.le_refl _⟩, by repeat (first | exact bD.refl _ | apply bD.step)⟩
  case round =>
   clear H'
   try clear c1
   try clear c2
   try clear p2
   try clear c3
   try clear c3b0
   try clear c3b1
   try clear c3b2
   obtain ⟨x5_1, rfl, HA, HK1, ⟨m1, rfl⟩⟩ := hrel
   cases gk with
   | zero => exact absurd HA.out (by simp [laws_eqByteS.l0])
   | succ k1 =>
    have H := HA.out
    clear HA
    simp only [laws_eqByteS.l0] at H
    by_cases c4 : x5_1 < (l0.length : Int)
    ·rw [if_pos c4] at H
     have c4b0 : decide (x5_1 < (l0.length : Int)) = true := decide_eq_true c4
     clear c4
     by_cases c5 : 0 ≤ x5_1
     ·rw [if_pos c5] at H
      have c5b0 : decide (0 ≤ x5_1) = true := decide_eq_true c5
      clear c5
      by_cases c6 : x5_1 < (l1.length : Int)
      ·rw [if_pos c6] at H
       have c6b0 : decide (x5_1 < (l1.length : Int)) = true := decide_eq_true c6
       clear c6
       by_cases c7 : (rd l0 x5_1) = (rd l1 x5_1)
       ·rw [if_pos c7] at H
        have c7b0 : ((rd l0 x5_1) == (rd l1 x5_1)) = true := beq_iff_eq.mpr c7
        have c7b1 : ((rd l0 x5_1) != (rd l1 x5_1)) = false := bne_eq_false_iff_eq.mpr c7
        clear c7
        have H' := aC.mk H
        clear H
        have p101 : 0 ≤ (x5_1 : Int) := lE (by first | (with_reducible assumption) | assumption)
        have q101 : x5_1 < (l0.length : Int) := lE (by first | (with_reducible assumption) | assumption)
        obtain ⟨ad101, e101, hx101_0⟩ := Kd.at_int HR0.out x5_1 p101 q101
        cases e101
        replace p101 := eq_true p101
        replace q101 := eq_true q101
        have p102 : 0 ≤ (x5_1 : Int) := lE (by first | (with_reducible assumption) | assumption)
        have q102 : x5_1 < (l1.length : Int) := lE (by first | (with_reducible assumption) | assumption)
        obtain ⟨ad102, e102, hx102_0⟩ := Kd.at_int HR1.out x5_1 p102 q102
        cases e102
        replace p102 := eq_true p102
        replace q102 := eq_true q102
        go_wp2
        repeat (go_quiet (fail); try go_wp2)
        go_roundg k1
        case measure => have := HK1.out; omega
        case rel => exact ⟨(wrap64 (x5_1 + 1)), (by first | rfl | (simp; done) | (simp [*]; done)), H', ⟨by have := HK1.out; omega⟩, by repeat (first | exact bD.refl _ | apply bD.step)⟩
       ·rw [if_neg c7] at H
        have c7b0 : ((rd l0 x5_1) == (rd l1 x5_1)) = false := beq_eq_false_iff_ne.mpr c7
        have c7b1 : ((rd l0 x5_1) != (rd l1 x5_1)) = true := bne_iff_ne.mpr c7
        obtain rfl := Option.some.inj H
        have p101 : 0 ≤ (x5_1 : Int) := lE (by first | (with_reducible assumption) | assumption)
        have q101 : x5_1 < (l0.length : Int) := lE (by first | (with_reducible assumption) | assumption)
        obtain ⟨ad101, e101, hx101_0⟩ := Kd.at_int HR0.out x5_1 p101 q101
        cases e101
        replace p101 := eq_true p101
        replace q101 := eq_true q101
        have p102 : 0 ≤ (x5_1 : Int) := lE (by first | (with_reducible assumption) | assumption)
        have q102 : x5_1 < (l1.length : Int) := lE (by first | (with_reducible assumption) | assumption)
        obtain ⟨ad102, e102, hx102_0⟩ := Kd.at_int HR1.out x5_1 p102 q102
        cases e102
        replace p102 := eq_true p102
        replace q102 := eq_true q102
        go_wp2
        repeat (go_quiet (fail); try go_wp2)
        go_ret
        exact ⟨by first | rfl | (simp; done) | (simp [*]; done), by repeat (first | exact bD.refl _ | apply bD.step)⟩
      ·rw [if_neg c6] at H
       exact absurd H (by simp)
     ·rw [if_neg c5] at H
      exact absurd H (by simp)
    ·rw [if_neg c4] at H
     have c4b0 : decide (x5_1 < (l0.length : Int)) = false := decide_eq_false c4
     clear c4
     obtain rfl := Option.some.inj H
     go_wp2
     repeat (go_quiet (fail); try go_wp2)
     go_ret
     exact ⟨by first | rfl | (simp; done) | (simp [*]; done), by repeat (first | exact bD.refl _ | apply bD.step)⟩
 ·rw [if_neg c3] at H
  have c3b0 : ((l0.length : Int) == (l1.length : Int)) = false := beq_eq_false_iff_ne.mpr c3
  have c3b1 : ((l0.length : Int) != (l1.length : Int)) = true := bne_iff_ne.mpr c3
  have c3b2 : (l0.length == l1.length) = false := by first | simpa using c3 | (simp at c3 ⊢; omega)
  obtain rfl := Option.some.inj H
  go_enter Try.func23, Try.ntmps23
  go_wp2
  repeat (go_quiet (fail); try go_wp2)
  go_ret
  exact ⟨by first | rfl | (simp; done) | (simp [*]; done), by repeat (first | exact bD.refl _ | apply bD.step)⟩
def laws_eqByteSS.l0 : Nat → List (List Int) → List (List Int) → Int → Option (Bool)
 | 0, _, _, _ => none
 | k + 1, x0, x1, x5 => if x5 < (x0.length : Int) then (if 0 ≤ x5 then (if x5 < (x1.length : Int) then ((laws_eqByteS.f k (rd_L1 x0 x5) (rd_L1 x1 x5)).bind fun t105 => (if t105 = true then (laws_eqByteSS.l0 k x0 x1 (wrap64 (x5 + 1))) else (some false))) else (none)) else (none)) else (some true)
def laws_eqByteSS.f (k : Nat) (l0 : List (List Int)) (l1 : List (List Int)) : Option (Bool) := if (l0.length : Int) = (l1.length : Int) then (laws_eqByteSS.l0 k l0 l1 0) else (some false)
set_option maxHeartbeats 8000000 in
set_option maxRecDepth 100000 in
theorem laws_eqByteSS.calls (k : Nat) (A0 : Option Addr) (c0 : Nat) (l0 : List (List Int)) (A1 : Option Addr) (c1 : Nat) (l1 : List (List Int)) (r : Bool) (w : World) (hr0 : Kd.C (Kd.slice 5 (Kd.int .u8)) w A0 l0.length l0) (hc0 : l0.length ≤ c0) (hr1 : Kd.C (Kd.slice 5 (Kd.int .u8)) w A1 l1.length l1) (hc1 : l1.length ≤ c1) (h : laws_eqByteSS.f k l0 l1 = some r) :
  Calls Try.prog 45 #[.slice A0 l0.length c0, .slice A1 l1.length c1] w fun e w' => e = .returned (.bool r) ∧ bD w w' := by
 have HR0 := aC.mk hr0
 have HC0 := aC.mk hc0
 clear hr0 hc0
 have HR1 := aC.mk hr1
 have HC1 := aC.mk hc1
 clear hr1 hc1
 have H : (if (l0.length : Int) = (l1.length : Int) then (laws_eqByteSS.l0 k l0 l1 0) else (some false)) = some r := h
 clear h
 by_cases c3 : (l0.length : Int) = (l1.length : Int)
 ·rw [if_pos c3] at H
  have c3b0 : ((l0.length : Int) == (l1.length : Int)) = true := beq_iff_eq.mpr c3
  have c3b1 : ((l0.length : Int) != (l1.length : Int)) = false := bne_eq_false_iff_eq.mpr c3
  have c3b2 : (l0.length == l1.length) = true := by first | simpa using c3 | (simp at c3 ⊢; omega)
  clear c3
  have H' := aC.mk H
  clear H
  go_enter Try.func45, Try.ntmps45
  go_wp2
  repeat (go_quiet (fail); try go_wp2)
  go_loopg [5] k (fun kq v5 w' => ∃ (x5_1 : Int), v5 = .int .i64 x5_1 ∧ aC (laws_eqByteSS.l0 kq l0 l1 x5_1 = some r) ∧ aC (kq ≤ k) ∧ bD w w')
  case atStart => exact ⟨(0), (by first | rfl | (simp; done) | (simp [*]; done)), H', ⟨Nat.le_refl _⟩, by repeat (first | exact bD.refl _ | apply bD.step)⟩
  case round =>
   clear H'
   try clear c1
   try clear p2
   try clear c3
   try clear c3b0
   try clear c3b1
   try clear c3b2
   obtain ⟨x5_1, rfl, HA, HK1, ⟨m1, rfl⟩⟩ := hrel
   cases gk with
   | zero => exact absurd HA.out (by simp [laws_eqByteSS.l0])
   | succ k1 =>
    have H := HA.out
    clear HA
    simp only [laws_eqByteSS.l0] at H
    by_cases c4 : x5_1 < (l0.length : Int)
    ·rw [if_pos c4] at H
     have c4b0 : decide (x5_1 < (l0.length : Int)) = true := decide_eq_true c4
     clear c4
     by_cases c5 : 0 ≤ x5_1
     ·rw [if_pos c5] at H
      have c5b0 : decide (0 ≤ x5_1) = true := decide_eq_true c5
      clear c5
      by_cases c6 : x5_1 < (l1.length : Int)
      ·rw [if_pos c6] at H
       have c6b0 : decide (x5_1 < (l1.length : Int)) = true := decide_eq_true c6
       clear c6
       replace H := lF H
       obtain ⟨t105, A70, H⟩ := H
       replace H : (if t105 = true then (laws_eqByteSS.l0 k1 l0 l1 (wrap64 (x5_1 + 1))) else (some false)) = some r := H
       have A7 := aC.mk A70
       clear A70
       by_cases c8 : t105 = true
       ·subst c8
        have H1 : (laws_eqByteSS.l0 k1 l0 l1 (wrap64 (x5_1 + 1))) = some r := by rw [if_pos rfl] at H; exact H
        clear H
        have H := H1
        clear H1
        have H' := aC.mk H
        clear H
        have p103 : 0 ≤ (x5_1 : Int) := lE (by first | (with_reducible assumption) | assumption)
        have q103 : x5_1 < (l0.length : Int) := lE (by first | (with_reducible assumption) | assumption)
        obtain ⟨ad103, A103_0, c103_0, e103, hx103_0, hl103_0, hi103_0⟩ := at_L1 HR0.out x5_1 p103 q103
        cases e103
        have HR103_0 := aC.mk hi103_0
        have HC103_0 := aC.mk hl103_0
        clear hi103_0 hl103_0
        replace p103 := eq_true p103
        replace q103 := eq_true q103
        have p104 : 0 ≤ (x5_1 : Int) := lE (by first | (with_reducible assumption) | assumption)
        have q104 : x5_1 < (l1.length : Int) := lE (by first | (with_reducible assumption) | assumption)
        obtain ⟨ad104, A104_0, c104_0, e104, hx104_0, hl104_0, hi104_0⟩ := at_L1 HR1.out x5_1 p104 q104
        cases e104
        have HR104_0 := aC.mk hi104_0
        have HC104_0 := aC.mk hl104_0
        clear hi104_0 hl104_0
        replace p104 := eq_true p104
        replace q104 := eq_true q104
        go_wp2_with (first | (go_at_call 23; (with_reducible refine (laws_eqByteS.calls k1 _ _ (rd_L1 l0 x5_1) _ _ (rd_L1 l1 x5_1) true _ ?side1 ?side2 ?side3 ?side4 A7.out).mono ?_); (case side1 => repeat (first | exact HR103_0.out | (with_reducible refine Kd.bN ?_ _) | (with_reducible refine Kd.bM ?_ _) | (with_reducible refine Kd.bQ ?_))); (case side2 => exact HC103_0.out); (case side3 => repeat (first | exact HR104_0.out | (with_reducible refine Kd.bN ?_ _) | (with_reducible refine Kd.bM ?_ _) | (with_reducible refine Kd.bQ ?_))); (case side4 => exact HC104_0.out); rintro e w' ⟨rfl, ⟨nd, rfl⟩⟩; (try first | exact ⟨rfl, _, World.drewN_drewN _ _ _⟩ | exact ⟨rfl, _, Eq.trans (World.drewN_drewN _ _ _) (congrArg (World.drewN _) (Nat.add_assoc _ _ _))⟩)))
        repeat (go_quiet (first | (go_at_call 23; (with_reducible refine (laws_eqByteS.calls k1 _ _ (rd_L1 l0 x5_1) _ _ (rd_L1 l1 x5_1) true _ ?side1 ?side2 ?side3 ?side4 A7.out).mono ?_); (case side1 => repeat (first | exact HR103_0.out | (with_reducible refine Kd.bN ?_ _) | (with_reducible refine Kd.bM ?_ _) | (with_reducible refine Kd.bQ ?_))); (case side2 => exact HC103_0.out); (case side3 => repeat (first | exact HR104_0.out | (with_reducible refine Kd.bN ?_ _) | (with_reducible refine Kd.bM ?_ _) | (with_reducible refine Kd.bQ ?_))); (case side4 => exact HC104_0.out); rintro e w' ⟨rfl, ⟨nd, rfl⟩⟩; (try first | exact ⟨rfl, _, World.drewN_drewN _ _ _⟩ | exact ⟨rfl, _, Eq.trans (World.drewN_drewN _ _ _) (congrArg (World.drewN _) (Nat.add_assoc _ _ _))⟩))); try go_wp2_with (first | (go_at_call 23; (with_reducible refine (laws_eqByteS.calls k1 _ _ (rd_L1 l0 x5_1) _ _ (rd_L1 l1 x5_1) true _ ?side1 ?side2 ?side3 ?side4 A7.out).mono ?_); (case side1 => repeat (first | exact HR103_0.out | (with_reducible refine Kd.bN ?_ _) | (with_reducible refine Kd.bM ?_ _) | (with_reducible refine Kd.bQ ?_))); (case side2 => exact HC103_0.out); (case side3 => repeat (first | exact HR104_0.out | (with_reducible refine Kd.bN ?_ _) | (with_reducible refine Kd.bM ?_ _) | (with_reducible refine Kd.bQ ?_))); (case side4 => exact HC104_0.out); rintro e w' ⟨rfl, ⟨nd, rfl⟩⟩; (try first | exact ⟨rfl, _, World.drewN_drewN _ _ _⟩ | exact ⟨rfl, _, Eq.trans (World.drewN_drewN _ _ _) (congrArg (World.drewN _) (Nat.add_assoc _ _ _))⟩))))
        go_roundg k1
        case measure => have := HK1.out; omega
        case rel => exact ⟨(wrap64 (x5_1 + 1)), (by first | rfl | (simp; done) | (simp [*]; done)), H', ⟨by have := HK1.out; omega⟩, by repeat (first | exact bD.refl _ | apply bD.step)⟩
       ·replace c8 := Bool.eq_false_iff.mpr c8
        subst c8
        have H1 : (some false) = some r := by rw [if_neg (show ¬ (false = true) by decide)] at H; exact H
        clear H
        have H := H1
        clear H1
        obtain rfl := Option.some.inj H
        have p103 : 0 ≤ (x5_1 : Int) := lE (by first | (with_reducible assumption) | assumption)
        have q103 : x5_1 < (l0.length : Int) := lE (by first | (with_reducible assumption) | assumption)
        obtain ⟨ad103, A103_0, c103_0, e103, hx103_0, hl103_0, hi103_0⟩ := at_L1 HR0.out x5_1 p103 q103
        cases e103
        have HR103_0 := aC.mk hi103_0
        have HC103_0 := aC.mk hl103_0
        clear hi103_0 hl103_0
        replace p103 := eq_true p103
        replace q103 := eq_true q103
        have p104 : 0 ≤ (x5_1 : Int) := lE (by first | (with_reducible assumption) | assumption)
        have q104 : x5_1 < (l1.length : Int) := lE (by first | (with_reducible assumption) | assumption)
        obtain ⟨ad104, A104_0, c104_0, e104, hx104_0, hl104_0, hi104_0⟩ := at_L1 HR1.out x5_1 p104 q104
        cases e104
        have HR104_0 := aC.mk hi104_0
        have HC104_0 := aC.mk hl104_0
        clear hi104_0 hl104_0
        replace p104 := eq_true p104
        replace q104 := eq_true q104
        go_wp2_with (first | (go_at_call 23; (with_reducible refine (laws_eqByteS.calls k1 _ _ (rd_L1 l0 x5_1) _ _ (rd_L1 l1 x5_1) false _ ?side1 ?side2 ?side3 ?side4 A7.out).mono ?_); (case side1 => repeat (first | exact HR103_0.out | (with_reducible refine Kd.bN ?_ _) | (with_reducible refine Kd.bM ?_ _) | (with_reducible refine Kd.bQ ?_))); (case side2 => exact HC103_0.out); (case side3 => repeat (first | exact HR104_0.out | (with_reducible refine Kd.bN ?_ _) | (with_reducible refine Kd.bM ?_ _) | (with_reducible refine Kd.bQ ?_))); (case side4 => exact HC104_0.out); rintro e w' ⟨rfl, ⟨nd, rfl⟩⟩; (try first | exact ⟨rfl, _, World.drewN_drewN _ _ _⟩ | exact ⟨rfl, _, Eq.trans (World.drewN_drewN _ _ _) (congrArg (World.drewN _) (Nat.add_assoc _ _ _))⟩)))
        repeat (go_quiet (first | (go_at_call 23; (with_reducible refine (laws_eqByteS.calls k1 _ _ (rd_L1 l0 x5_1) _ _ (rd_L1 l1 x5_1) false _ ?side1 ?side2 ?side3 ?side4 A7.out).mono ?_); (case side1 => repeat (first | exact HR103_0.out | (with_reducible refine Kd.bN ?_ _) | (with_reducible refine Kd.bM ?_ _) | (with_reducible refine Kd.bQ ?_))); (case side2 => exact HC103_0.out); (case side3 => repeat (first | exact HR104_0.out | (with_reducible refine Kd.bN ?_ _) | (with_reducible refine Kd.bM ?_ _) | (with_reducible refine Kd.bQ ?_))); (case side4 => exact HC104_0.out); rintro e w' ⟨rfl, ⟨nd, rfl⟩⟩; (try first | exact ⟨rfl, _, World.drewN_drewN _ _ _⟩ | exact ⟨rfl, _, Eq.trans (World.drewN_drewN _ _ _) (congrArg (World.drewN _) (Nat.add_assoc _ _ _))⟩))); try go_wp2_with (first | (go_at_call 23; (with_reducible refine (laws_eqByteS.calls k1 _ _ (rd_L1 l0 x5_1) _ _ (rd_L1 l1 x5_1) false _ ?side1 ?side2 ?side3 ?side4 A7.out).mono ?_); (case side1 => repeat (first | exact HR103_0.out | (with_reducible refine Kd.bN ?_ _) | (with_reducible refine Kd.bM ?_ _) | (with_reducible refine Kd.bQ ?_))); (case side2 => exact HC103_0.out); (case side3 => repeat (first | exact HR104_0.out | (with_reducible refine Kd.bN ?_ _) | (with_reducible refine Kd.bM ?_ _) | (with_reducible refine Kd.bQ ?_))); (case side4 => exact HC104_0.out); rintro e w' ⟨rfl, ⟨nd, rfl⟩⟩; (try first | exact ⟨rfl, _, World.drewN_drewN _ _ _⟩ | exact ⟨rfl, _, Eq.trans (World.drewN_drewN _ _ _) (congrArg (World.drewN _) (Nat.add_assoc _ _ _))⟩))))
        go_ret
        exact ⟨by first | rfl | (simp; done) | (simp [*]; done), by repeat (first | exact bD.refl _ | apply bD.step)⟩
      ·rw [if_neg c6] at H
       exact absurd H (by simp)
     ·rw [if_neg c5] at H
      exact absurd H (by simp)
    ·rw [if_neg c4] at H
     have c4b0 : decide (x5_1 < (l0.length : Int)) = false := decide_eq_false c4
     clear c4
     obtain rfl := Option.some.inj H
     go_wp2
     repeat (go_quiet (fail); try go_wp2)
     go_ret
     exact ⟨by first | rfl | (simp; done) | (simp [*]; done), by repeat (first | exact bD.refl _ | apply bD.step)⟩
 ·rw [if_neg c3] at H
  have c3b0 : ((l0.length : Int) == (l1.length : Int)) = false := beq_eq_false_iff_ne.mpr c3
  have c3b1 : ((l0.length : Int) != (l1.length : Int)) = true := bne_iff_ne.mpr c3
  have c3b2 : (l0.length == l1.length) = false := by first | simpa using c3 | (simp at c3 ⊢; omega)
  obtain rfl := Option.some.inj H
  go_enter Try.func45, Try.ntmps45
  go_wp2
  repeat (go_quiet (fail); try go_wp2)
  go_ret
  exact ⟨by first | rfl | (simp; done) | (simp [*]; done), by repeat (first | exact bD.refl _ | apply bD.step)⟩
def laws_eqWr.f (k : Nat) (a0_0 : Int) (l0_1 : List Int) (a1_0 : Int) (l1_1 : List Int) : Option (Bool) := if a0_0 = a1_0 then ((laws_eqByteS.f k l0_1 l1_1).bind fun t108 => (if t108 = true then (some true) else (some false))) else (some false)
set_option maxHeartbeats 8000000 in
set_option maxRecDepth 100000 in
theorem laws_eqWr.calls (k : Nat) (a0_0 : Int) (A0_1 : Option Addr) (c0_1 : Nat) (l0_1 : List Int) (a1_0 : Int) (A1_1 : Option Addr) (c1_1 : Nat) (l1_1 : List Int) (r : Bool) (w : World) (hr0_1 : Kd.C (Kd.int .u8) w A0_1 l0_1.length l0_1) (hc0_1 : l0_1.length ≤ c0_1) (hr1_1 : Kd.C (Kd.int .u8) w A1_1 l1_1.length l1_1) (hc1_1 : l1_1.length ≤ c1_1) (h : laws_eqWr.f k a0_0 l0_1 a1_0 l1_1 = some r) :
  Calls Try.prog 68 #[.agg #[.int .i64 a0_0, .slice A0_1 l0_1.length c0_1], .agg #[.int .i64 a1_0, .slice A1_1 l1_1.length c1_1]] w fun e w' => e = .returned (.bool r) ∧ Below w.heap.size w w' := by
 have hu50 := Try.underlying50
 have HR0_1 := aC.mk hr0_1
 have HC0_1 := aC.mk hc0_1
 clear hr0_1 hc0_1
 have HR1_1 := aC.mk hr1_1
 have HC1_1 := aC.mk hc1_1
 clear hr1_1 hc1_1
 have HB := aC.mk (Below.refl w.heap.size w)
 have H : (if a0_0 = a1_0 then ((laws_eqByteS.f k l0_1 l1_1).bind fun t108 => (if t108 = true then (some true) else (some false))) else (some false)) = some r := h
 clear h
 by_cases c3 : a0_0 = a1_0
 ·rw [if_pos c3] at H
  have c3b0 : (a0_0 == a1_0) = true := beq_iff_eq.mpr c3
  have c3b1 : (a0_0 != a1_0) = false := bne_eq_false_iff_eq.mpr c3
  clear c3
  replace H := lF H
  obtain ⟨t108, A40, H⟩ := H
  replace H : (if t108 = true then (some true) else (some false)) = some r := H
  have A4 := aC.mk A40
  clear A40
  by_cases c5 : t108 = true
  ·subst c5
   have H1 : (some true) = some r := by rw [if_pos rfl] at H; exact H
   clear H
   have H := H1
   clear H1
   obtain rfl := Option.some.inj H
   go_enter Try.func68, Try.ntmps68
   go_wp2_with (first | ((with_reducible refine bC (N := 2) rfl ?_); refine bB ?hg (N := 2) ?hd (cs := #[.int .i64 a0_0, .slice A0_1 l0_1.length c0_1]) (t := 50) ?hr ?_; (case hd => rfl); (case hg => rfl); (case hr => first | (go_simp; done) | (go_simp; rfl)); intro gb106 hg w6 hbox hb; have n0_ := aC.mk (aV (by repeat (first | (with_reducible first | exact HB.out | apply aJ | apply aE | apply aH) | exact HB.out)) hb); have n1_ := aC.mk (hbox); have n2_ := aC.mk ((by rw [hg]; exact (aW (by repeat (first | (with_reducible first | exact HB.out | apply aJ | apply aE | apply aH) | exact HB.out))) : w.heap.size ≤ gb106)); have n3_ := aC.mk ((by rw [hg]; exact (aW (by repeat (first | (with_reducible first | exact HB.out | apply aJ | apply aE | apply aH) | exact HB.out))) : w.heap.size ≤ gb106)); clear HB; have HB := n0_; have BK106 := n1_; have GW106 := n2_; have GE106 := n3_; clear n0_ n1_ n2_ n3_; clear hb hbox hg) | ((with_reducible refine bC (N := 3) rfl ?_); refine bB ?hg (N := 3) ?hd (cs := #[.int .i64 a1_0, .slice A1_1 l1_1.length c1_1]) (t := 50) ?hr ?_; (case hd => rfl); (case hg => rfl); (case hr => first | (go_simp; done) | (go_simp; rfl)); intro gb107 hg w7 hbox hb; have n0_ := aC.mk (aM (g := gb106) (o := .cells #[.int .i64 a0_0, .slice A0_1 l0_1.length c0_1] 50 (0, 0)) (by (with_reducible repeat (first | refine aT ?_ _ | refine aQ ?_ | refine aN ?_ _)); exact BK106.out) hb); have n1_ := aC.mk (aV (by repeat (first | (with_reducible first | exact HB.out | apply aJ | apply aE | apply aH | refine aG ?_ GE106.out) | exact HB.out)) hb); have n2_ := aC.mk (hbox); have n3_ := aC.mk ((by rw [hg]; exact (aW (by repeat (first | (with_reducible first | exact HB.out | apply aJ | apply aE | apply aH | refine aG ?_ GE106.out) | exact HB.out))) : w.heap.size ≤ gb107)); have n4_ := aC.mk ((by rw [hg]; exact (aW (by repeat (first | (with_reducible first | exact HB.out | apply aJ | apply aE | apply aH | refine aG ?_ GE106.out) | exact HB.out))) : w.heap.size ≤ gb107)); have n5_ := aC.mk ((by rw [hg]; exact Nat.ne_of_lt (bG (g := gb106) (o := .cells #[.int .i64 a0_0, .slice A0_1 l0_1.length c0_1] 50 (0, 0)) (by (with_reducible repeat (first | refine aT ?_ _ | refine aQ ?_ | refine aN ?_ _)); exact BK106.out)) : gb106 ≠ gb107)); have n6_ := aC.mk ((by rw [hg]; exact Nat.ne_of_gt (bG (g := gb106) (o := .cells #[.int .i64 a0_0, .slice A0_1 l0_1.length c0_1] 50 (0, 0)) (by (with_reducible repeat (first | refine aT ?_ _ | refine aQ ?_ | refine aN ?_ _)); exact BK106.out)) : gb107 ≠ gb106)); clear BK106; clear HB; have BK106 := n0_; have HB := n1_; have BK107 := n2_; have GW107 := n3_; have GE107 := n4_; have NB106_107 := n5_; have NB107_106 := n6_; clear n0_ n1_ n2_ n3_ n4_ n5_ n6_; clear hb hbox hg; have hnb8 := NB106_107.out; have hnc8 := NB107_106.out; have hcz9_0 : w7.cell? ⟨gb106, 0, none⟩ = some (.int .i64 a0_0) := (aD BK106.out 0).trans rfl; have hcz9_1 : w7.cell? ⟨gb106, 1, none⟩ = some (.slice A0_1 l0_1.length c0_1) := (aD BK106.out 1).trans rfl; have hfz9_0 := aA BK106.out 0; have hfz9_1 := aA BK106.out 1; have hcz10_0 : w7.cell? ⟨gb107, 0, none⟩ = some (.int .i64 a1_0) := (aD BK107.out 0).trans rfl; have hcz10_1 : w7.cell? ⟨gb107, 1, none⟩ = some (.slice A1_1 l1_1.length c1_1) := (aD BK107.out 1).trans rfl; have hfz10_0 := aA BK107.out 0; have hfz10_1 := aA BK107.out 1) | ((with_reducible refine aY (f := 23) rfl ?_); refine bJ (some 14) rfl rfl Try.func23 (by kernel_rfl) rfl #[.slice A0_1 l0_1.length c0_1, .slice A1_1 l1_1.length c1_1] rfl (by (try simp only [List.map_toArray, List.map_cons, List.map_nil]); first | done | rfl | (simp only [List.length_drop, List.length_take]; rfl)) ?_; (with_reducible refine (laws_eqByteS.calls k _ _ l0_1 _ _ l1_1 true _ ?side1 ?side2 ?side3 ?side4 A4.out).mono ?_); (case side1 => repeat (first | exact (Kd.bL HR0_1.out HB.out) | (with_reducible refine Kd.bN ?_ _) | (with_reducible refine Kd.bM ?_ _) | (with_reducible refine Kd.bQ ?_))); (case side2 => exact HC0_1.out); (case side3 => repeat (first | exact (Kd.bL HR1_1.out HB.out) | (with_reducible refine Kd.bN ?_ _) | (with_reducible refine Kd.bM ?_ _) | (with_reducible refine Kd.bQ ?_))); (case side4 => exact HC1_1.out); rintro e w' ⟨rfl, ⟨nd, rfl⟩⟩; refine ⟨_, rfl, ?_⟩))
   go_ret
   exact ⟨by first | rfl | (simp [errW_none, errW_some] <;> rfl) | (simp [*, errW_none, errW_some] <;> rfl), by repeat (first | (with_reducible first | exact HB.out | apply aJ | apply aE | apply aH | refine aG ?_ GE106.out | refine aG ?_ GE107.out) | exact HB.out)⟩
  ·replace c5 := Bool.eq_false_iff.mpr c5
   subst c5
   have H1 : (some false) = some r := by rw [if_neg (show ¬ (false = true) by decide)] at H; exact H
   clear H
   have H := H1
   clear H1
   obtain rfl := Option.some.inj H
   go_enter Try.func68, Try.ntmps68
   go_wp2_with (first | ((with_reducible refine bC (N := 2) rfl ?_); refine bB ?hg (N := 2) ?hd (cs := #[.int .i64 a0_0, .slice A0_1 l0_1.length c0_1]) (t := 50) ?hr ?_; (case hd => rfl); (case hg => rfl); (case hr => first | (go_simp; done) | (go_simp; rfl)); intro gb106 hg w11 hbox hb; have n0_ := aC.mk (aV (by repeat (first | (with_reducible first | exact HB.out | apply aJ | apply aE | apply aH) | exact HB.out)) hb); have n1_ := aC.mk (hbox); have n2_ := aC.mk ((by rw [hg]; exact (aW (by repeat (first | (with_reducible first | exact HB.out | apply aJ | apply aE | apply aH) | exact HB.out))) : w.heap.size ≤ gb106)); have n3_ := aC.mk ((by rw [hg]; exact (aW (by repeat (first | (with_reducible first | exact HB.out | apply aJ | apply aE | apply aH) | exact HB.out))) : w.heap.size ≤ gb106)); clear HB; have HB := n0_; have BK106 := n1_; have GW106 := n2_; have GE106 := n3_; clear n0_ n1_ n2_ n3_; clear hb hbox hg) | ((with_reducible refine bC (N := 3) rfl ?_); refine bB ?hg (N := 3) ?hd (cs := #[.int .i64 a1_0, .slice A1_1 l1_1.length c1_1]) (t := 50) ?hr ?_; (case hd => rfl); (case hg => rfl); (case hr => first | (go_simp; done) | (go_simp; rfl)); intro gb107 hg w12 hbox hb; have n0_ := aC.mk (aM (g := gb106) (o := .cells #[.int .i64 a0_0, .slice A0_1 l0_1.length c0_1] 50 (0, 0)) (by (with_reducible repeat (first | refine aT ?_ _ | refine aQ ?_ | refine aN ?_ _)); exact BK106.out) hb); have n1_ := aC.mk (aV (by repeat (first | (with_reducible first | exact HB.out | apply aJ | apply aE | apply aH | refine aG ?_ GE106.out) | exact HB.out)) hb); have n2_ := aC.mk (hbox); have n3_ := aC.mk ((by rw [hg]; exact (aW (by repeat (first | (with_reducible first | exact HB.out | apply aJ | apply aE | apply aH | refine aG ?_ GE106.out) | exact HB.out))) : w.heap.size ≤ gb107)); have n4_ := aC.mk ((by rw [hg]; exact (aW (by repeat (first | (with_reducible first | exact HB.out | apply aJ | apply aE | apply aH | refine aG ?_ GE106.out) | exact HB.out))) : w.heap.size ≤ gb107)); have n5_ := aC.mk ((by rw [hg]; exact Nat.ne_of_lt (bG (g := gb106) (o := .cells #[.int .i64 a0_0, .slice A0_1 l0_1.length c0_1] 50 (0, 0)) (by (with_reducible repeat (first | refine aT ?_ _ | refine aQ ?_ | refine aN ?_ _)); exact BK106.out)) : gb106 ≠ gb107)); have n6_ := aC.mk ((by rw [hg]; exact Nat.ne_of_gt (bG (g := gb106) (o := .cells #[.int .i64 a0_0, .slice A0_1 l0_1.length c0_1] 50 (0, 0)) (by (with_reducible repeat (first | refine aT ?_ _ | refine aQ ?_ | refine aN ?_ _)); exact BK106.out)) : gb107 ≠ gb106)); clear BK106; clear HB; have BK106 := n0_; have HB := n1_; have BK107 := n2_; have GW107 := n3_; have GE107 := n4_; have NB106_107 := n5_; have NB107_106 := n6_; clear n0_ n1_ n2_ n3_ n4_ n5_ n6_; clear hb hbox hg; have hnb13 := NB106_107.out; have hnc13 := NB107_106.out; have hcz14_0 : w12.cell? ⟨gb106, 0, none⟩ = some (.int .i64 a0_0) := (aD BK106.out 0).trans rfl; have hcz14_1 : w12.cell? ⟨gb106, 1, none⟩ = some (.slice A0_1 l0_1.length c0_1) := (aD BK106.out 1).trans rfl; have hfz14_0 := aA BK106.out 0; have hfz14_1 := aA BK106.out 1; have hcz15_0 : w12.cell? ⟨gb107, 0, none⟩ = some (.int .i64 a1_0) := (aD BK107.out 0).trans rfl; have hcz15_1 : w12.cell? ⟨gb107, 1, none⟩ = some (.slice A1_1 l1_1.length c1_1) := (aD BK107.out 1).trans rfl; have hfz15_0 := aA BK107.out 0; have hfz15_1 := aA BK107.out 1) | ((with_reducible refine aY (f := 23) rfl ?_); refine bJ (some 14) rfl rfl Try.func23 (by kernel_rfl) rfl #[.slice A0_1 l0_1.length c0_1, .slice A1_1 l1_1.length c1_1] rfl (by (try simp only [List.map_toArray, List.map_cons, List.map_nil]); first | done | rfl | (simp only [List.length_drop, List.length_take]; rfl)) ?_; (with_reducible refine (laws_eqByteS.calls k _ _ l0_1 _ _ l1_1 false _ ?side1 ?side2 ?side3 ?side4 A4.out).mono ?_); (case side1 => repeat (first | exact (Kd.bL HR0_1.out HB.out) | (with_reducible refine Kd.bN ?_ _) | (with_reducible refine Kd.bM ?_ _) | (with_reducible refine Kd.bQ ?_))); (case side2 => exact HC0_1.out); (case side3 => repeat (first | exact (Kd.bL HR1_1.out HB.out) | (with_reducible refine Kd.bN ?_ _) | (with_reducible refine Kd.bM ?_ _) | (with_reducible refine Kd.bQ ?_))); (case side4 => exact HC1_1.out); rintro e w' ⟨rfl, ⟨nd, rfl⟩⟩; refine ⟨_, rfl, ?_⟩))
   go_ret
   exact ⟨by first | rfl | (simp [errW_none, errW_some] <;> rfl) | (simp [*, errW_none, errW_some] <;> rfl), by repeat (first | (with_reducible first | exact HB.out | apply aJ | apply aE | apply aH | refine aG ?_ GE106.out | refine aG ?_ GE107.out) | exact HB.out)⟩
 ·rw [if_neg c3] at H
  have c3b0 : (a0_0 == a1_0) = false := beq_eq_false_iff_ne.mpr c3
  have c3b1 : (a0_0 != a1_0) = true := bne_iff_ne.mpr c3
  obtain rfl := Option.some.inj H
  go_enter Try.func68, Try.ntmps68
  go_wp2_with (first | ((with_reducible refine bC (N := 2) rfl ?_); refine bB ?hg (N := 2) ?hd (cs := #[.int .i64 a0_0, .slice A0_1 l0_1.length c0_1]) (t := 50) ?hr ?_; (case hd => rfl); (case hg => rfl); (case hr => first | (go_simp; done) | (go_simp; rfl)); intro gb106 hg w16 hbox hb; have n0_ := aC.mk (aV (by repeat (first | (with_reducible first | exact HB.out | apply aJ | apply aE | apply aH) | exact HB.out)) hb); have n1_ := aC.mk (hbox); have n2_ := aC.mk ((by rw [hg]; exact (aW (by repeat (first | (with_reducible first | exact HB.out | apply aJ | apply aE | apply aH) | exact HB.out))) : w.heap.size ≤ gb106)); have n3_ := aC.mk ((by rw [hg]; exact (aW (by repeat (first | (with_reducible first | exact HB.out | apply aJ | apply aE | apply aH) | exact HB.out))) : w.heap.size ≤ gb106)); clear HB; have HB := n0_; have BK106 := n1_; have GW106 := n2_; have GE106 := n3_; clear n0_ n1_ n2_ n3_; clear hb hbox hg) | ((with_reducible refine bC (N := 3) rfl ?_); refine bB ?hg (N := 3) ?hd (cs := #[.int .i64 a1_0, .slice A1_1 l1_1.length c1_1]) (t := 50) ?hr ?_; (case hd => rfl); (case hg => rfl); (case hr => first | (go_simp; done) | (go_simp; rfl)); intro gb107 hg w17 hbox hb; have n0_ := aC.mk (aM (g := gb106) (o := .cells #[.int .i64 a0_0, .slice A0_1 l0_1.length c0_1] 50 (0, 0)) (by (with_reducible repeat (first | refine aT ?_ _ | refine aQ ?_ | refine aN ?_ _)); exact BK106.out) hb); have n1_ := aC.mk (aV (by repeat (first | (with_reducible first | exact HB.out | apply aJ | apply aE | apply aH | refine aG ?_ GE106.out) | exact HB.out)) hb); have n2_ := aC.mk (hbox); have n3_ := aC.mk ((by rw [hg]; exact (aW (by repeat (first | (with_reducible first | exact HB.out | apply aJ | apply aE | apply aH | refine aG ?_ GE106.out) | exact HB.out))) : w.heap.size ≤ gb107)); have n4_ := aC.mk ((by rw [hg]; exact (aW (by repeat (first | (with_reducible first | exact HB.out | apply aJ | apply aE | apply aH | refine aG ?_ GE106.out) | exact HB.out))) : w.heap.size ≤ gb107)); have n5_ := aC.mk ((by rw [hg]; exact Nat.ne_of_lt (bG (g := gb106) (o := .cells #[.int .i64 a0_0, .slice A0_1 l0_1.length c0_1] 50 (0, 0)) (by (with_reducible repeat (first | refine aT ?_ _ | refine aQ ?_ | refine aN ?_ _)); exact BK106.out)) : gb106 ≠ gb107)); have n6_ := aC.mk ((by rw [hg]; exact Nat.ne_of_gt (bG (g := gb106) (o := .cells #[.int .i64 a0_0, .slice A0_1 l0_1.length c0_1] 50 (0, 0)) (by (with_reducible repeat (first | refine aT ?_ _ | refine aQ ?_ | refine aN ?_ _)); exact BK106.out)) : gb107 ≠ gb106)); clear BK106; clear HB; have BK106 := n0_; have HB := n1_; have BK107 := n2_; have GW107 := n3_; have GE107 := n4_; have NB106_107 := n5_; have NB107_106 := n6_; clear n0_ n1_ n2_ n3_ n4_ n5_ n6_; clear hb hbox hg; have hnb18 := NB106_107.out; have hnc18 := NB107_106.out; have hcz19_0 : w17.cell? ⟨gb106, 0, none⟩ = some (.int .i64 a0_0) := (aD BK106.out 0).trans rfl; have hcz19_1 : w17.cell? ⟨gb106, 1, none⟩ = some (.slice A0_1 l0_1.length c0_1) := (aD BK106.out 1).trans rfl; have hfz19_0 := aA BK106.out 0; have hfz19_1 := aA BK106.out 1; have hcz20_0 : w17.cell? ⟨gb107, 0, none⟩ = some (.int .i64 a1_0) := (aD BK107.out 0).trans rfl; have hcz20_1 : w17.cell? ⟨gb107, 1, none⟩ = some (.slice A1_1 l1_1.length c1_1) := (aD BK107.out 1).trans rfl; have hfz20_0 := aA BK107.out 0; have hfz20_1 := aA BK107.out 1))
  go_ret
  exact ⟨by first | rfl | (simp [errW_none, errW_some] <;> rfl) | (simp [*, errW_none, errW_some] <;> rfl), by repeat (first | (with_reducible first | exact HB.out | apply aJ | apply aE | apply aH | refine aG ?_ GE106.out | refine aG ?_ GE107.out) | exact HB.out)⟩
def laws_eqWrS.l0 : Nat → List (S50) → List (S50) → Int → Option (Bool)
 | 0, _, _, _ => none
 | k + 1, x0, x1, x5 => if x5 < (x0.length : Int) then (if 0 ≤ x5 then (if x5 < (x1.length : Int) then ((laws_eqWr.f k ((rd_T50 x0 x5).f0) ((rd_T50 x0 x5).f1) ((rd_T50 x1 x5).f0) ((rd_T50 x1 x5).f1)).bind fun t111 => (if t111 = true then (laws_eqWrS.l0 k x0 x1 (wrap64 (x5 + 1))) else (some false))) else (none)) else (none)) else (some true)
def laws_eqWrS.f (k : Nat) (l0 : List (S50)) (l1 : List (S50)) : Option (Bool) := if (l0.length : Int) = (l1.length : Int) then (laws_eqWrS.l0 k l0 l1 0) else (some false)
def laws_eqWrS.T6 : Bool × List (List Nat × List Nat) := (true, [([], []), ([], []), ([0, 1], [0, 1]), ([2], [2]), ([], []), ([], []), ([4, 5], [4, 5]), ([6], [6]), ([3, 7], [3, 7]), ([8], [8])])
def laws_eqWrS.B6 : List Nat := [0, 0, 3, 7, 0, 0, 48, 112, 255, 511]
theorem laws_eqWrS.tab6 : rtab .any (opsOf Try.f46 6) = laws_eqWrS.T6 := by kernel_rfl
theorem laws_eqWrS.bits6 : waitsOk laws_eqWrS.T6.2 laws_eqWrS.B6 = true := by kernel_rfl
set_option maxHeartbeats 8000000 in
set_option maxRecDepth 100000 in
theorem laws_eqWrS.calls (k : Nat) (A0 : Option Addr) (c0 : Nat) (l0 : List (S50)) (A1 : Option Addr) (c1 : Nat) (l1 : List (S50)) (r : Bool) (w : World) (hr0 : Kd.C k50 w A0 l0.length l0) (hc0 : l0.length ≤ c0) (hr1 : Kd.C k50 w A1 l1.length l1) (hc1 : l1.length ≤ c1) (h : laws_eqWrS.f k l0 l1 = some r) :
  Calls Try.prog 46 #[.slice A0 l0.length c0, .slice A1 l1.length c1] w fun e w' => e = .returned (.bool r) ∧ Below w.heap.size w w' := by
 have hu50 := Try.underlying50
 have HR0 := aC.mk hr0
 have HC0 := aC.mk hc0
 clear hr0 hc0
 have HR1 := aC.mk hr1
 have HC1 := aC.mk hc1
 clear hr1 hc1
 have HB := aC.mk (Below.refl w.heap.size w)
 have H : (if (l0.length : Int) = (l1.length : Int) then (laws_eqWrS.l0 k l0 l1 0) else (some false)) = some r := h
 clear h
 by_cases c3 : (l0.length : Int) = (l1.length : Int)
 ·rw [if_pos c3] at H
  have c3b0 : ((l0.length : Int) == (l1.length : Int)) = true := beq_iff_eq.mpr c3
  have c3b1 : ((l0.length : Int) != (l1.length : Int)) = false := bne_eq_false_iff_eq.mpr c3
  have c3b2 : (l0.length == l1.length) = true := by first | simpa using c3 | (simp at c3 ⊢; omega)
  clear c3
  have H' := aC.mk H
  clear H
  go_enter Try.func46, Try.ntmps46
  go_wp2
  go_loopg [5] k (fun kq v5 w' => ∃ (x5_1 : Int), v5 = .int .i64 x5_1 ∧ aC (laws_eqWrS.l0 kq l0 l1 x5_1 = some r) ∧ aC (kq ≤ k) ∧ aC (Below w.heap.size w w'))
  case atStart => exact ⟨(0), (by first | rfl | (simp; done) | (simp [*]; done)), H', ⟨Nat.le_refl _⟩, ⟨by repeat (first | (with_reducible first | exact HB.out | apply aJ | apply aE | apply aH) | exact HB.out)⟩⟩
  case round =>
   clear H'
   try clear c1
   try clear p2
   try clear c3
   try clear c3b0
   try clear c3b1
   try clear c3b2
   obtain ⟨x5_1, rfl, HA, HK1, HB⟩ := hrel
   cases gk with
   | zero => exact absurd HA.out (by simp [laws_eqWrS.l0])
   | succ k1 =>
    have H := HA.out
    clear HA
    simp only [laws_eqWrS.l0] at H
    by_cases c4 : x5_1 < (l0.length : Int)
    ·rw [if_pos c4] at H
     have c4b0 : decide (x5_1 < (l0.length : Int)) = true := decide_eq_true c4
     clear c4
     by_cases c5 : 0 ≤ x5_1
     ·rw [if_pos c5] at H
      have c5b0 : decide (0 ≤ x5_1) = true := decide_eq_true c5
      clear c5
      by_cases c6 : x5_1 < (l1.length : Int)
      ·rw [if_pos c6] at H
       have c6b0 : decide (x5_1 < (l1.length : Int)) = true := decide_eq_true c6
       clear c6
       replace H := lF H
       obtain ⟨t111, A70, H⟩ := H
       replace H : (if t111 = true then (laws_eqWrS.l0 k1 l0 l1 (wrap64 (x5_1 + 1))) else (some false)) = some r := H
       have A7 := aC.mk A70
       clear A70
       by_cases c8 : t111 = true
       ·subst c8
        have H1 : (laws_eqWrS.l0 k1 l0 l1 (wrap64 (x5_1 + 1))) = some r := by rw [if_pos rfl] at H; exact H
        clear H
        have H := H1
        clear H1
        have H' := aC.mk H
        clear H
        try go_wp2
        have n0_ := aC.mk (aH HB.out)
        clear HB
        have HB := n0_
        clear n0_
        have p109 : 0 ≤ (x5_1 : Int) := lE (by first | (with_reducible assumption) | assumption)
        have q109 : x5_1 < (l0.length : Int) := lE (by first | (with_reducible assumption) | assumption)
        obtain ⟨ad109, A109_1, c109_1, e109, hx109_0, hx109_1, hl109_1, hi109_1⟩ := at_T50 HR0.out x5_1 p109 q109
        have hw109_1 := hx109_1
        have hw109_0 := hx109_0
        cases e109
        replace hx109_0 := (HB.out.cell (lD w _ hx109_0)).trans hx109_0
        replace hx109_1 := (HB.out.cell (lD w _ hx109_1)).trans hx109_1
        have HR109_1 := aC.mk hi109_1
        have HC109_1 := aC.mk hl109_1
        clear hi109_1 hl109_1
        replace p109 := eq_true p109
        replace q109 := eq_true q109
        have p110 : 0 ≤ (x5_1 : Int) := lE (by first | (with_reducible assumption) | assumption)
        have q110 : x5_1 < (l1.length : Int) := lE (by first | (with_reducible assumption) | assumption)
        obtain ⟨ad110, A110_1, c110_1, e110, hx110_0, hx110_1, hl110_1, hi110_1⟩ := at_T50 HR1.out x5_1 p110 q110
        have hw110_1 := hx110_1
        have hw110_0 := hx110_0
        cases e110
        replace hx110_0 := (HB.out.cell (lD w _ hx110_0)).trans hx110_0
        replace hx110_1 := (HB.out.cell (lD w _ hx110_1)).trans hx110_1
        have HR110_1 := aC.mk hi110_1
        have HC110_1 := aC.mk hl110_1
        clear hi110_1 hl110_1
        replace p110 := eq_true p110
        replace q110 := eq_true q110
        refine start_ (n := 10) (S := fun w' => w'.cell? (ad109.add ((x5_1).toNat * 2)) = some (.int .i64 ((rd_T50 l0 x5_1).f0)) ∧ w'.cell? ⟨(ad109.add ((x5_1).toNat * 2)).block, (ad109.add ((x5_1).toNat * 2)).off + 1, none⟩ = some (.slice A109_1 ((rd_T50 l0 x5_1).f1).length c109_1) ∧ w'.cell? (ad110.add ((x5_1).toNat * 2)) = some (.int .i64 ((rd_T50 l1 x5_1).f0)) ∧ w'.cell? ⟨(ad110.add ((x5_1).toNat * 2)).block, (ad110.add ((x5_1).toNat * 2)).off + 1, none⟩ = some (.slice A110_1 ((rd_T50 l1 x5_1).f1).length c110_1)) (ds := []) #[false, false, false, false, false, false, false, false, false, false] (by kernel_rfl) rfl rfl ⟨((HB.out.cell (lD w _ hw109_0)).trans hw109_0), ((HB.out.cell (lD w _ hw109_1)).trans hw109_1), ((HB.out.cell (lD w _ hw110_0)).trans hw110_0), ((HB.out.cell (lD w _ hw110_1)).trans hw110_1)⟩ (fun hHeld => ?_); refine with_tabW laws_eqWrS.tab6 laws_eqWrS.bits6 (fun HT_ HW_ => ?_)
        generalize wr.drew = w9 at HB HR109_1 HR110_1 hx109_0 hx109_1 hx110_0 hx110_1 hHeld ⊢
        refine pure_ (i := 0) (N := some 17) (v := ?_) (a' := ?_) #[true, false, false, false, false, false, false, false, false, false] rfl rfl (any_of HT_.out (by kernel_rfl)) (fun _ _ _ h => h) (Or.inl ⟨by rfl, ?_⟩) ?_ ?_
        rotate_left
        ·intro w'
         go_simp
         with_reducible rfl
        rotate_left
        ·simp only [Act.put, lA, lB, lC, bE, bF]
         rfl
        refine pure_ (i := 1) (N := some 18) (v := ?_) (a' := ?_) #[true, true, false, false, false, false, false, false, false, false] rfl rfl (any_of HT_.out (by kernel_rfl)) (fun _ _ _ h => h) (Or.inl ⟨by rfl, ?_⟩) ?_ ?_
        rotate_left
        ·intro w'
         go_simp
         with_reducible rfl
        rotate_left
        ·simp only [Act.put, lA, lB, lC, bE, bF]
         rfl
        refine pure_ (i := 2) (N := some 19) (v := ?_) (a' := ?_) #[true, true, true, false, false, false, false, false, false, false] rfl rfl (any_of HT_.out (by kernel_rfl)) (fun _ _ _ h => h) (Or.inl ⟨by rfl, ?_⟩) ?_ ?_
        rotate_left
        ·intro w'
         go_simp
         with_reducible rfl
        rotate_left
        ·simp only [Act.put, lA, lB, lC, bE, bF]
         rfl
        refine pure_ (i := 4) (N := some 21) (v := ?_) (a' := ?_) #[true, true, true, false, true, false, false, false, false, false] rfl rfl (any_of HT_.out (by kernel_rfl)) (fun _ _ _ h => h) (Or.inl ⟨by rfl, ?_⟩) ?_ ?_
        rotate_left
        ·intro w'
         go_simp
         with_reducible rfl
        rotate_left
        ·simp only [Act.put, lA, lB, lC, bE, bF]
         rfl
        refine pure_ (i := 5) (N := some 22) (v := ?_) (a' := ?_) #[true, true, true, false, true, true, false, false, false, false] rfl rfl (any_of HT_.out (by kernel_rfl)) (fun _ _ _ h => h) (Or.inl ⟨by rfl, ?_⟩) ?_ ?_
        rotate_left
        ·intro w'
         go_simp
         with_reducible rfl
        rotate_left
        ·simp only [Act.put, lA, lB, lC, bE, bF]
         rfl
        refine pure_ (i := 6) (N := some 23) (v := ?_) (a' := ?_) #[true, true, true, false, true, true, true, false, false, false] rfl rfl (any_of HT_.out (by kernel_rfl)) (fun _ _ _ h => h) (Or.inl ⟨by rfl, ?_⟩) ?_ ?_
        rotate_left
        ·intro w'
         go_simp
         with_reducible rfl
        rotate_left
        ·simp only [Act.put, lA, lB, lC, bE, bF]
         rfl
        refine take_ (i := 3) (N := some 20) (v := ?_) (a' := ?_) #[true, true, true, true, true, true, true, false, false, false] rfl rfl (take_ofW HT_.out HW_.out (by kernel_rfl)) (fun _ _ _ h => h) (Or.inl ⟨by rfl, ?_⟩) hHeld ?_ ?_
        rotate_left
        ·rintro w' ⟨s0, s1, s2, s3⟩
         go_simp
         with_reducible rfl
        rotate_left
        ·simp only [Act.put, lA, lB, lC, bE, bF]
         rfl
        refine take_ (i := 7) (N := some 24) (v := ?_) (a' := ?_) #[true, true, true, true, true, true, true, true, false, false] rfl rfl (take_ofW HT_.out HW_.out (by kernel_rfl)) (fun _ _ _ h => h) (Or.inl ⟨by rfl, ?_⟩) hHeld ?_ ?_
        rotate_left
        ·rintro w' ⟨s0, s1, s2, s3⟩
         go_simp
         with_reducible rfl
        rotate_left
        ·simp only [Act.put, lA, lB, lC, bE, bF]
         rfl
        refine one_ (i := 8) (N := some 25) #[true, true, true, true, true, true, true, true, true, false] rfl rfl (one_of HT_.out (by kernel_rfl)) (by decide) (fun K hK => ?_)
        refine goes_ Try.func68 (by kernel_rfl) rfl #[.agg #[.int .i64 ((rd_T50 l0 x5_1).f0), .slice A109_1 ((rd_T50 l0 x5_1).f1).length c109_1], .agg #[.int .i64 ((rd_T50 l1 x5_1).f0), .slice A110_1 ((rd_T50 l1 x5_1).f1).length c110_1]] (by rfl) rfl rfl (by (try simp only [List.map_toArray, List.map_cons, List.map_nil]); first | done | rfl | (simp only [List.length_drop, List.length_take]; rfl)) ?_
        with_reducible refine (laws_eqWr.calls k1 ((rd_T50 l0 x5_1).f0) _ _ ((rd_T50 l0 x5_1).f1) ((rd_T50 l1 x5_1).f0) _ _ ((rd_T50 l1 x5_1).f1) true _ ?side1 ?side2 ?side3 ?side4 A7.out).mono ?_
        (case side1 => repeat (first | exact (Kd.bL HR109_1.out HB.out) | (with_reducible refine Kd.bN ?_ _) | (with_reducible refine Kd.bM ?_ _) | (with_reducible refine Kd.bQ ?_)))
        (case side2 => exact HC109_1.out)
        (case side3 => repeat (first | exact (Kd.bL HR110_1.out HB.out) | (with_reducible refine Kd.bN ?_ _) | (with_reducible refine Kd.bM ?_ _) | (with_reducible refine Kd.bQ ?_)))
        (case side4 => exact HC110_1.out)
        rintro e w10 ⟨rfl, hb⟩
        refine ⟨_, rfl, ?_⟩
        have n0_ := aC.mk (aV (by repeat (first | (with_reducible first | exact HB.out | apply aJ | apply aE | apply aH) | exact HB.out)) hb)
        clear HB
        have HB := n0_
        clear n0_
        (try clear hb)
        (try clear hb2)
        (try clear hk)
        (try clear hi)
        refine hK.out _ _ ⟨((HB.out.cell (lD w _ hw109_0)).trans hw109_0), ((HB.out.cell (lD w _ hw109_1)).trans hw109_1), ((HB.out.cell (lD w _ hw110_0)).trans hw110_0), ((HB.out.cell (lD w _ hw110_1)).trans hw110_1)⟩ (fun hHeld => ?_)
        clear hK K
        refine norm_ (a' := ?_) ?_ ?_
        rotate_left
        ·show Act.put _ (some 25) _ = _
         simp only [Act.put, lA, lB, lC, bE, bF]
         rfl
        refine pure_ (i := 9) (N := some 26) (v := ?_) (a' := ?_) #[true, true, true, true, true, true, true, true, true, true] rfl rfl (any_of HT_.out (by kernel_rfl)) (fun _ _ _ h => h) (Or.inl ⟨by rfl, ?_⟩) ?_ ?_
        rotate_left
        ·intro w'
         go_simp
         with_reducible rfl
        rotate_left
        ·simp only [Act.put, lA, lB, lC, bE, bF]
         rfl
        refine done_ (done_of HT_.out (by kernel_rfl)) ?_
        try go_wp2
        go_roundg k1
        case measure => have := HK1.out; omega
        case rel => exact ⟨(wrap64 (x5_1 + 1)), (by first | rfl | (simp; done) | (simp [*]; done)), H', ⟨by have := HK1.out; omega⟩, ⟨by repeat (first | (with_reducible first | exact HB.out | apply aJ | apply aE | apply aH) | exact HB.out)⟩⟩
       ·replace c8 := Bool.eq_false_iff.mpr c8
        subst c8
        have H1 : (some false) = some r := by rw [if_neg (show ¬ (false = true) by decide)] at H; exact H
        clear H
        have H := H1
        clear H1
        obtain rfl := Option.some.inj H
        try go_wp2
        have n0_ := aC.mk (aH HB.out)
        clear HB
        have HB := n0_
        clear n0_
        have p109 : 0 ≤ (x5_1 : Int) := lE (by first | (with_reducible assumption) | assumption)
        have q109 : x5_1 < (l0.length : Int) := lE (by first | (with_reducible assumption) | assumption)
        obtain ⟨ad109, A109_1, c109_1, e109, hx109_0, hx109_1, hl109_1, hi109_1⟩ := at_T50 HR0.out x5_1 p109 q109
        have hw109_1 := hx109_1
        have hw109_0 := hx109_0
        cases e109
        replace hx109_0 := (HB.out.cell (lD w _ hx109_0)).trans hx109_0
        replace hx109_1 := (HB.out.cell (lD w _ hx109_1)).trans hx109_1
        have HR109_1 := aC.mk hi109_1
        have HC109_1 := aC.mk hl109_1
        clear hi109_1 hl109_1
        replace p109 := eq_true p109
        replace q109 := eq_true q109
        have p110 : 0 ≤ (x5_1 : Int) := lE (by first | (with_reducible assumption) | assumption)
        have q110 : x5_1 < (l1.length : Int) := lE (by first | (with_reducible assumption) | assumption)
        obtain ⟨ad110, A110_1, c110_1, e110, hx110_0, hx110_1, hl110_1, hi110_1⟩ := at_T50 HR1.out x5_1 p110 q110
        have hw110_1 := hx110_1
        have hw110_0 := hx110_0
        cases e110
        replace hx110_0 := (HB.out.cell (lD w _ hx110_0)).trans hx110_0
        replace hx110_1 := (HB.out.cell (lD w _ hx110_1)).trans hx110_1
        have HR110_1 := aC.mk hi110_1
        have HC110_1 := aC.mk hl110_1
        clear hi110_1 hl110_1
        replace p110 := eq_true p110
        replace q110 := eq_true q110
        refine start_ (n := 10) (S := fun w' => w'.cell? (ad109.add ((x5_1).toNat * 2)) = some (.int .i64 ((rd_T50 l0 x5_1).f0)) ∧ w'.cell? ⟨(ad109.add ((x5_1).toNat * 2)).block, (ad109.add ((x5_1).toNat * 2)).off + 1, none⟩ = some (.slice A109_1 ((rd_T50 l0 x5_1).f1).length c109_1) ∧ w'.cell? (ad110.add ((x5_1).toNat * 2)) = some (.int .i64 ((rd_T50 l1 x5_1).f0)) ∧ w'.cell? ⟨(ad110.add ((x5_1).toNat * 2)).block, (ad110.add ((x5_1).toNat * 2)).off + 1, none⟩ = some (.slice A110_1 ((rd_T50 l1 x5_1).f1).length c110_1)) (ds := []) #[false, false, false, false, false, false, false, false, false, false] (by kernel_rfl) rfl rfl ⟨((HB.out.cell (lD w _ hw109_0)).trans hw109_0), ((HB.out.cell (lD w _ hw109_1)).trans hw109_1), ((HB.out.cell (lD w _ hw110_0)).trans hw110_0), ((HB.out.cell (lD w _ hw110_1)).trans hw110_1)⟩ (fun hHeld => ?_); refine with_tabW laws_eqWrS.tab6 laws_eqWrS.bits6 (fun HT_ HW_ => ?_)
        generalize wr.drew = w11 at HB HR109_1 HR110_1 hx109_0 hx109_1 hx110_0 hx110_1 hHeld ⊢
        refine pure_ (i := 0) (N := some 17) (v := ?_) (a' := ?_) #[true, false, false, false, false, false, false, false, false, false] rfl rfl (any_of HT_.out (by kernel_rfl)) (fun _ _ _ h => h) (Or.inl ⟨by rfl, ?_⟩) ?_ ?_
        rotate_left
        ·intro w'
         go_simp
         with_reducible rfl
        rotate_left
        ·simp only [Act.put, lA, lB, lC, bE, bF]
         rfl
        refine pure_ (i := 1) (N := some 18) (v := ?_) (a' := ?_) #[true, true, false, false, false, false, false, false, false, false] rfl rfl (any_of HT_.out (by kernel_rfl)) (fun _ _ _ h => h) (Or.inl ⟨by rfl, ?_⟩) ?_ ?_
        rotate_left
        ·intro w'
         go_simp
         with_reducible rfl
        rotate_left
        ·simp only [Act.put, lA, lB, lC, bE, bF]
         rfl
        refine pure_ (i := 2) (N := some 19) (v := ?_) (a' := ?_) #[true, true, true, false, false, false, false, false, false, false] rfl rfl (any_of HT_.out (by kernel_rfl)) (fun _ _ _ h => h) (Or.inl ⟨by rfl, ?_⟩) ?_ ?_
        rotate_left
        ·intro w'
         go_simp
         with_reducible rfl
        rotate_left
        ·simp only [Act.put, lA, lB, lC, bE, bF]
         rfl
        refine pure_ (i := 4) (N := some 21) (v := ?_) (a' := ?_) #[true, true, true, false, true, false, false, false, false, false] rfl rfl (any_of HT_.out (by kernel_rfl)) (fun _ _ _ h => h) (Or.inl ⟨by rfl, ?_⟩) ?_ ?_
        rotate_left
        ·intro w'
         go_simp
         with_reducible rfl
        rotate_left
        ·simp only [Act.put, lA, lB, lC, bE, bF]
         rfl
        refine pure_ (i := 5) (N := some 22) (v := ?_) (a' := ?_) #[true, true, true, false, true, true, false, false, false, false] rfl rfl (any_of HT_.out (by kernel_rfl)) (fun _ _ _ h => h) (Or.inl ⟨by rfl, ?_⟩) ?_ ?_
        rotate_left
        ·intro w'
         go_simp
         with_reducible rfl
        rotate_left
        ·simp only [Act.put, lA, lB, lC, bE, bF]
         rfl
        refine pure_ (i := 6) (N := some 23) (v := ?_) (a' := ?_) #[true, true, true, false, true, true, true, false, false, false] rfl rfl (any_of HT_.out (by kernel_rfl)) (fun _ _ _ h => h) (Or.inl ⟨by rfl, ?_⟩) ?_ ?_
        rotate_left
        ·intro w'
         go_simp
         with_reducible rfl
        rotate_left
        ·simp only [Act.put, lA, lB, lC, bE, bF]
         rfl
        refine take_ (i := 3) (N := some 20) (v := ?_) (a' := ?_) #[true, true, true, true, true, true, true, false, false, false] rfl rfl (take_ofW HT_.out HW_.out (by kernel_rfl)) (fun _ _ _ h => h) (Or.inl ⟨by rfl, ?_⟩) hHeld ?_ ?_
        rotate_left
        ·rintro w' ⟨s0, s1, s2, s3⟩
         go_simp
         with_reducible rfl
        rotate_left
        ·simp only [Act.put, lA, lB, lC, bE, bF]
         rfl
        refine take_ (i := 7) (N := some 24) (v := ?_) (a' := ?_) #[true, true, true, true, true, true, true, true, false, false] rfl rfl (take_ofW HT_.out HW_.out (by kernel_rfl)) (fun _ _ _ h => h) (Or.inl ⟨by rfl, ?_⟩) hHeld ?_ ?_
        rotate_left
        ·rintro w' ⟨s0, s1, s2, s3⟩
         go_simp
         with_reducible rfl
        rotate_left
        ·simp only [Act.put, lA, lB, lC, bE, bF]
         rfl
        refine one_ (i := 8) (N := some 25) #[true, true, true, true, true, true, true, true, true, false] rfl rfl (one_of HT_.out (by kernel_rfl)) (by decide) (fun K hK => ?_)
        refine goes_ Try.func68 (by kernel_rfl) rfl #[.agg #[.int .i64 ((rd_T50 l0 x5_1).f0), .slice A109_1 ((rd_T50 l0 x5_1).f1).length c109_1], .agg #[.int .i64 ((rd_T50 l1 x5_1).f0), .slice A110_1 ((rd_T50 l1 x5_1).f1).length c110_1]] (by rfl) rfl rfl (by (try simp only [List.map_toArray, List.map_cons, List.map_nil]); first | done | rfl | (simp only [List.length_drop, List.length_take]; rfl)) ?_
        with_reducible refine (laws_eqWr.calls k1 ((rd_T50 l0 x5_1).f0) _ _ ((rd_T50 l0 x5_1).f1) ((rd_T50 l1 x5_1).f0) _ _ ((rd_T50 l1 x5_1).f1) false _ ?side1 ?side2 ?side3 ?side4 A7.out).mono ?_
        (case side1 => repeat (first | exact (Kd.bL HR109_1.out HB.out) | (with_reducible refine Kd.bN ?_ _) | (with_reducible refine Kd.bM ?_ _) | (with_reducible refine Kd.bQ ?_)))
        (case side2 => exact HC109_1.out)
        (case side3 => repeat (first | exact (Kd.bL HR110_1.out HB.out) | (with_reducible refine Kd.bN ?_ _) | (with_reducible refine Kd.bM ?_ _) | (with_reducible refine Kd.bQ ?_)))
        (case side4 => exact HC110_1.out)
        rintro e w12 ⟨rfl, hb⟩
        refine ⟨_, rfl, ?_⟩
        have n0_ := aC.mk (aV (by repeat (first | (with_reducible first | exact HB.out | apply aJ | apply aE | apply aH) | exact HB.out)) hb)
        clear HB
        have HB := n0_
        clear n0_
        (try clear hb)
        (try clear hb2)
        (try clear hk)
        (try clear hi)
        refine hK.out _ _ ⟨((HB.out.cell (lD w _ hw109_0)).trans hw109_0), ((HB.out.cell (lD w _ hw109_1)).trans hw109_1), ((HB.out.cell (lD w _ hw110_0)).trans hw110_0), ((HB.out.cell (lD w _ hw110_1)).trans hw110_1)⟩ (fun hHeld => ?_)
        clear hK K
        refine norm_ (a' := ?_) ?_ ?_
        rotate_left
        ·show Act.put _ (some 25) _ = _
         simp only [Act.put, lA, lB, lC, bE, bF]
         rfl
        refine pure_ (i := 9) (N := some 26) (v := ?_) (a' := ?_) #[true, true, true, true, true, true, true, true, true, true] rfl rfl (any_of HT_.out (by kernel_rfl)) (fun _ _ _ h => h) (Or.inl ⟨by rfl, ?_⟩) ?_ ?_
        rotate_left
        ·intro w'
         go_simp
         with_reducible rfl
        rotate_left
        ·simp only [Act.put, lA, lB, lC, bE, bF]
         rfl
        refine done_ (done_of HT_.out (by kernel_rfl)) ?_
        try go_wp2
        go_ret
        exact ⟨by first | rfl | (simp [errW_none, errW_some] <;> rfl) | (simp [*, errW_none, errW_some] <;> rfl), by repeat (first | (with_reducible first | exact HB.out | apply aJ | apply aE | apply aH) | exact HB.out)⟩
      ·rw [if_neg c6] at H
       exact absurd H (by simp)
     ·rw [if_neg c5] at H
      exact absurd H (by simp)
    ·rw [if_neg c4] at H
     have c4b0 : decide (x5_1 < (l0.length : Int)) = false := decide_eq_false c4
     clear c4
     obtain rfl := Option.some.inj H
     go_wp2
     go_ret
     exact ⟨by first | rfl | (simp [errW_none, errW_some] <;> rfl) | (simp [*, errW_none, errW_some] <;> rfl), by repeat (first | (with_reducible first | exact HB.out | apply aJ | apply aE | apply aH) | exact HB.out)⟩
 ·rw [if_neg c3] at H
  have c3b0 : ((l0.length : Int) == (l1.length : Int)) = false := beq_eq_false_iff_ne.mpr c3
  have c3b1 : ((l0.length : Int) != (l1.length : Int)) = true := bne_iff_ne.mpr c3
  have c3b2 : (l0.length == l1.length) = false := by first | simpa using c3 | (simp at c3 ⊢; omega)
  obtain rfl := Option.some.inj H
  go_enter Try.func46, Try.ntmps46
  go_wp2
  go_ret
  exact ⟨by first | rfl | (simp [errW_none, errW_some] <;> rfl) | (simp [*, errW_none, errW_some] <;> rfl), by repeat (first | (with_reducible first | exact HB.out | apply aJ | apply aE | apply aH) | exact HB.out)⟩
end Go.Proofs.Ytilhcaofpfeioaa.PFnExactFlushDev

namespace Go.Proofs.Ytilhcaofpfeioaa.PFnExactFlushDev
open Go.RowKit Go.Proofs.YtilhcaofpfeioaaW.PrintWords Go.Proofs.YtilhcaofpfeioaaW.PrintLast Go.Proofs.YtilhcaofpfeioaaW.PrintMore
attribute [local go_sem] max2_int min2_int max_two min_two max_three min_three max_four min_four   -- for this text's walks alone
set_option linter.unusedVariables false
set_option linter.unusedSimpArgs false
def laws_eqDev.f (k : Nat) (l0_0 : List (List Int)) (l0_1 : List (S50)) (a0_2 : Int) (a0_3 : Bool) (l1_0 : List (List Int)) (l1_1 : List (S50)) (a1_2 : Int) (a1_3 : Bool) : Option (Bool) := (laws_eqByteSS.f k l0_0 l1_0).bind fun t114 => (if t114 = true then ((laws_eqWrS.f k l0_1 l1_1).bind fun t115 => (if t115 = true then (if a0_2 = a1_2 then (if (a0_3 != a1_3) = true then (some false) else (some true)) else (some false)) else (some false))) else (some false))
set_option maxHeartbeats 8000000 in
set_option maxRecDepth 100000 in
theorem laws_eqDev.calls (k : Nat) (A0_0 : Option Addr) (c0_0 : Nat) (l0_0 : List (List Int)) (A0_1 : Option Addr) (c0_1 : Nat) (l0_1 : List (S50)) (a0_2 : Int) (a0_3 : Bool) (A1_0 : Option Addr) (c1_0 : Nat) (l1_0 : List (List Int)) (A1_1 : Option Addr) (c1_1 : Nat) (l1_1 : List (S50)) (a1_2 : Int) (a1_3 : Bool) (r : Bool) (w : World) (hr0_0 : Kd.C (Kd.slice 5 (Kd.int .u8)) w A0_0 l0_0.length l0_0) (hc0_0 : l0_0.length ≤ c0_0) (hr0_1 : Kd.C k50 w A0_1 l0_1.length l0_1) (hc0_1 : l0_1.length ≤ c0_1) (hr1_0 : Kd.C (Kd.slice 5 (Kd.int .u8)) w A1_0 l1_0.length l1_0) (hc1_0 : l1_0.length ≤ c1_0) (hr1_1 : Kd.C k50 w A1_1 l1_1.length l1_1) (hc1_1 : l1_1.length ≤ c1_1) (h : laws_eqDev.f k l0_0 l0_1 a0_2 a0_3 l1_0 l1_1 a1_2 a1_3 = some r) :
  Calls Try.prog 14 #[.agg #[.slice A0_0 l0_0.length c0_0, .slice A0_1 l0_1.length c0_1, .int .i64 a0_2, .bool a0_3], .agg #[.slice A1_0 l1_0.length c1_0, .slice A1_1 l1_1.length c1_1, .int .i64 a1_2, .bool a1_3]] w fun e w' => e = .returned (.bool r) ∧ Below w.heap.size w w' := by
 have hu25 := Try.underlying25
 have HR0_0 := aC.mk hr0_0
 have HC0_0 := aC.mk hc0_0
 clear hr0_0 hc0_0
 have HR0_1 := aC.mk hr0_1
 have HC0_1 := aC.mk hc0_1
 clear hr0_1 hc0_1
 have HR1_0 := aC.mk hr1_0
 have HC1_0 := aC.mk hc1_0
 clear hr1_0 hc1_0
 have HR1_1 := aC.mk hr1_1
 have HC1_1 := aC.mk hc1_1
 clear hr1_1 hc1_1
 have HB := aC.mk (Below.refl w.heap.size w)
 have H : ((laws_eqByteSS.f k l0_0 l1_0).bind fun t114 => (if t114 = true then ((laws_eqWrS.f k l0_1 l1_1).bind fun t115 => (if t115 = true then (if a0_2 = a1_2 then (if (a0_3 != a1_3) = true then (some false) else (some true)) else (some false)) else (some false))) else (some false))) = some r := h
 clear h
 replace H := lF H
 obtain ⟨t114, A30, H⟩ := H
 replace H : (if t114 = true then ((laws_eqWrS.f k l0_1 l1_1).bind fun t115 => (if t115 = true then (if a0_2 = a1_2 then (if (a0_3 != a1_3) = true then (some false) else (some true)) else (some false)) else (some false))) else (some false)) = some r := H
 have A3 := aC.mk A30
 clear A30
 by_cases c4 : t114 = true
 ·subst c4
  have H1 : ((laws_eqWrS.f k l0_1 l1_1).bind fun t115 => (if t115 = true then (if a0_2 = a1_2 then (if (a0_3 != a1_3) = true then (some false) else (some true)) else (some false)) else (some false))) = some r := by rw [if_pos rfl] at H; exact H
  clear H
  have H := H1
  clear H1
  replace H := lF H
  obtain ⟨t115, A50, H⟩ := H
  replace H : (if t115 = true then (if a0_2 = a1_2 then (if (a0_3 != a1_3) = true then (some false) else (some true)) else (some false)) else (some false)) = some r := H
  have A5 := aC.mk A50
  clear A50
  by_cases c6 : t115 = true
  ·subst c6
   have H1 : (if a0_2 = a1_2 then (if (a0_3 != a1_3) = true then (some false) else (some true)) else (some false)) = some r := by rw [if_pos rfl] at H; exact H
   clear H
   have H := H1
   clear H1
   by_cases c7 : a0_2 = a1_2
   ·rw [if_pos c7] at H
    have c7b0 : (a0_2 == a1_2) = true := beq_iff_eq.mpr c7
    have c7b1 : (a0_2 != a1_2) = false := bne_eq_false_iff_eq.mpr c7
    clear c7
    by_cases c8 : (a0_3 != a1_3) = true
    ·rw [if_pos c8] at H
     have c8b0 : (a0_3 != a1_3) = true := c8
     (try (have c8b1 : decide (a0_3 = a1_3) = false := by simpa using c8))
     (try (have c8b2 : (a0_3 == a1_3) = false := by simpa using c8))
     (try (have c8b3 : ¬ (a0_3 = a1_3) := by simpa using c8))
     clear c8
     obtain rfl := Option.some.inj H
     go_enter Try.func14, Try.ntmps14
     go_wp2_with (first | ((with_reducible refine bC (N := 2) rfl ?_); refine bB ?hg (N := 2) ?hd (cs := #[.slice A0_0 l0_0.length c0_0, .slice A0_1 l0_1.length c0_1, .int .i64 a0_2, .bool a0_3]) (t := 25) ?hr ?_; (case hd => rfl); (case hg => rfl); (case hr => first | (go_simp; done) | (go_simp; rfl)); intro gb112 hg w9 hbox hb; have n0_ := aC.mk (aV (by repeat (first | (with_reducible first | exact HB.out | apply aJ | apply aE | apply aH) | exact HB.out)) hb); have n1_ := aC.mk (hbox); have n2_ := aC.mk ((by rw [hg]; exact (aW (by repeat (first | (with_reducible first | exact HB.out | apply aJ | apply aE | apply aH) | exact HB.out))) : w.heap.size ≤ gb112)); have n3_ := aC.mk ((by rw [hg]; exact (aW (by repeat (first | (with_reducible first | exact HB.out | apply aJ | apply aE | apply aH) | exact HB.out))) : w.heap.size ≤ gb112)); clear HB; have HB := n0_; have BK112 := n1_; have GW112 := n2_; have GE112 := n3_; clear n0_ n1_ n2_ n3_; clear hb hbox hg) | ((with_reducible refine bC (N := 3) rfl ?_); refine bB ?hg (N := 3) ?hd (cs := #[.slice A1_0 l1_0.length c1_0, .slice A1_1 l1_1.length c1_1, .int .i64 a1_2, .bool a1_3]) (t := 25) ?hr ?_; (case hd => rfl); (case hg => rfl); (case hr => first | (go_simp; done) | (go_simp; rfl)); intro gb113 hg w10 hbox hb; have n0_ := aC.mk (aM (g := gb112) (o := .cells #[.slice A0_0 l0_0.length c0_0, .slice A0_1 l0_1.length c0_1, .int .i64 a0_2, .bool a0_3] 25 (0, 0)) (by (with_reducible repeat (first | refine aT ?_ _ | refine aQ ?_ | refine aN ?_ _)); exact BK112.out) hb); have n1_ := aC.mk (aV (by repeat (first | (with_reducible first | exact HB.out | apply aJ | apply aE | apply aH | refine aG ?_ GE112.out) | exact HB.out)) hb); have n2_ := aC.mk (hbox); have n3_ := aC.mk ((by rw [hg]; exact (aW (by repeat (first | (with_reducible first | exact HB.out | apply aJ | apply aE | apply aH | refine aG ?_ GE112.out) | exact HB.out))) : w.heap.size ≤ gb113)); have n4_ := aC.mk ((by rw [hg]; exact (aW (by repeat (first | (with_reducible first | exact HB.out | apply aJ | apply aE | apply aH | refine aG ?_ GE112.out) | exact HB.out))) : w.heap.size ≤ gb113)); have n5_ := aC.mk ((by rw [hg]; exact Nat.ne_of_lt (bG (g := gb112) (o := .cells #[.slice A0_0 l0_0.length c0_0, .slice A0_1 l0_1.length c0_1, .int .i64 a0_2, .bool a0_3] 25 (0, 0)) (by (with_reducible repeat (first | refine aT ?_ _ | refine aQ ?_ | refine aN ?_ _)); exact BK112.out)) : gb112 ≠ gb113)); have n6_ := aC.mk ((by rw [hg]; exact Nat.ne_of_gt (bG (g := gb112) (o := .cells #[.slice A0_0 l0_0.length c0_0, .slice A0_1 l0_1.length c0_1, .int .i64 a0_2, .bool a0_3] 25 (0, 0)) (by (with_reducible repeat (first | refine aT ?_ _ | refine aQ ?_ | refine aN ?_ _)); exact BK112.out)) : gb113 ≠ gb112)); clear BK112; clear HB; have BK112 := n0_; have HB := n1_; have BK113 := n2_; have GW113 := n3_; have GE113 := n4_; have NB112_113 := n5_; have NB113_112 := n6_; clear n0_ n1_ n2_ n3_ n4_ n5_ n6_; clear hb hbox hg; have hnb11 := NB112_113.out; have hnc11 := NB113_112.out; have hcz12_0 : w10.cell? ⟨gb112, 0, none⟩ = some (.slice A0_0 l0_0.length c0_0) := (aD BK112.out 0).trans rfl; have hcz12_1 : w10.cell? ⟨gb112, 1, none⟩ = some (.slice A0_1 l0_1.length c0_1) := (aD BK112.out 1).trans rfl; have hcz12_2 : w10.cell? ⟨gb112, 2, none⟩ = some (.int .i64 a0_2) := (aD BK112.out 2).trans rfl; have hcz12_3 : w10.cell? ⟨gb112, 3, none⟩ = some (.bool a0_3) := (aD BK112.out 3).trans rfl; have hfz12_0 := aA BK112.out 0; have hfz12_1 := aA BK112.out 1; have hfz12_2 := aA BK112.out 2; have hfz12_3 := aA BK112.out 3; have hcz13_0 : w10.cell? ⟨gb113, 0, none⟩ = some (.slice A1_0 l1_0.length c1_0) := (aD BK113.out 0).trans rfl; have hcz13_1 : w10.cell? ⟨gb113, 1, none⟩ = some (.slice A1_1 l1_1.length c1_1) := (aD BK113.out 1).trans rfl; have hcz13_2 : w10.cell? ⟨gb113, 2, none⟩ = some (.int .i64 a1_2) := (aD BK113.out 2).trans rfl; have hcz13_3 : w10.cell? ⟨gb113, 3, none⟩ = some (.bool a1_3) := (aD BK113.out 3).trans rfl; have hfz13_0 := aA BK113.out 0; have hfz13_1 := aA BK113.out 1; have hfz13_2 := aA BK113.out 2; have hfz13_3 := aA BK113.out 3) | ((with_reducible refine aY (f := 45) rfl ?_); refine bJ (some 9) rfl rfl Try.func45 (by kernel_rfl) rfl #[.slice A0_0 l0_0.length c0_0, .slice A1_0 l1_0.length c1_0] rfl (by (try simp only [List.map_toArray, List.map_cons, List.map_nil]); first | done | rfl | (simp only [List.length_drop, List.length_take]; rfl)) ?_; (with_reducible refine (laws_eqByteSS.calls k _ _ l0_0 _ _ l1_0 true _ ?side1 ?side2 ?side3 ?side4 A3.out).mono ?_); (case side1 => repeat (first | exact (Kd.bL HR0_0.out HB.out) | (with_reducible refine Kd.bN ?_ _) | (with_reducible refine Kd.bM ?_ _) | (with_reducible refine Kd.bQ ?_))); (case side2 => exact HC0_0.out); (case side3 => repeat (first | exact (Kd.bL HR1_0.out HB.out) | (with_reducible refine Kd.bN ?_ _) | (with_reducible refine Kd.bM ?_ _) | (with_reducible refine Kd.bQ ?_))); (case side4 => exact HC1_0.out); rintro e w' ⟨rfl, ⟨nd, rfl⟩⟩; refine ⟨_, rfl, ?_⟩) | ((with_reducible refine aY (f := 46) rfl ?_); refine bJ (some 15) rfl rfl Try.func46 (by kernel_rfl) rfl #[.slice A0_1 l0_1.length c0_1, .slice A1_1 l1_1.length c1_1] rfl (by (try simp only [List.map_toArray, List.map_cons, List.map_nil]); first | done | rfl | (simp only [List.length_drop, List.length_take]; rfl)) ?_; (with_reducible refine (laws_eqWrS.calls k _ _ l0_1 _ _ l1_1 true _ ?side1 ?side2 ?side3 ?side4 A5.out).mono ?_); (case side1 => repeat (first | exact (Kd.bL HR0_1.out (by repeat (first | (with_reducible first | exact HB.out | apply aJ | apply aE | apply aH | refine aG ?_ GE112.out | refine aG ?_ GE113.out) | exact HB.out))) | (with_reducible refine Kd.bN ?_ _) | (with_reducible refine Kd.bM ?_ _) | (with_reducible refine Kd.bQ ?_))); (case side2 => exact HC0_1.out); (case side3 => repeat (first | exact (Kd.bL HR1_1.out (by repeat (first | (with_reducible first | exact HB.out | apply aJ | apply aE | apply aH | refine aG ?_ GE112.out | refine aG ?_ GE113.out) | exact HB.out))) | (with_reducible refine Kd.bN ?_ _) | (with_reducible refine Kd.bM ?_ _) | (with_reducible refine Kd.bQ ?_))); (case side4 => exact HC1_1.out); rintro e w14 ⟨rfl, hb⟩; refine ⟨_, rfl, ?_⟩; have n0_ := aC.mk (aM (g := gb112) (o := .cells #[.slice A0_0 l0_0.length c0_0, .slice A0_1 l0_1.length c0_1, .int .i64 a0_2, .bool a0_3] 25 (0, 0)) (by (with_reducible repeat (first | refine aT ?_ _ | refine aQ ?_ | refine aN ?_ _)); exact BK112.out) hb); have n1_ := aC.mk (aM (g := gb113) (o := .cells #[.slice A1_0 l1_0.length c1_0, .slice A1_1 l1_1.length c1_1, .int .i64 a1_2, .bool a1_3] 25 (0, 0)) (by (with_reducible repeat (first | refine aT ?_ _ | refine aQ ?_ | refine aN ?_ _)); exact BK113.out) hb); have n2_ := aC.mk (aV (by repeat (first | (with_reducible first | exact HB.out | apply aJ | apply aE | apply aH | refine aG ?_ GE112.out | refine aG ?_ GE113.out) | exact HB.out)) hb); clear BK112; clear BK113; clear HB; have BK112 := n0_; have BK113 := n1_; have HB := n2_; clear n0_ n1_ n2_; (try clear hb); have hcz15_0 : w14.cell? ⟨gb112, 0, none⟩ = some (.slice A0_0 l0_0.length c0_0) := (aD BK112.out 0).trans rfl; have hcz15_1 : w14.cell? ⟨gb112, 1, none⟩ = some (.slice A0_1 l0_1.length c0_1) := (aD BK112.out 1).trans rfl; have hcz15_2 : w14.cell? ⟨gb112, 2, none⟩ = some (.int .i64 a0_2) := (aD BK112.out 2).trans rfl; have hcz15_3 : w14.cell? ⟨gb112, 3, none⟩ = some (.bool a0_3) := (aD BK112.out 3).trans rfl; have hfz15_0 := aA BK112.out 0; have hfz15_1 := aA BK112.out 1; have hfz15_2 := aA BK112.out 2; have hfz15_3 := aA BK112.out 3; have hcz16_0 : w14.cell? ⟨gb113, 0, none⟩ = some (.slice A1_0 l1_0.length c1_0) := (aD BK113.out 0).trans rfl; have hcz16_1 : w14.cell? ⟨gb113, 1, none⟩ = some (.slice A1_1 l1_1.length c1_1) := (aD BK113.out 1).trans rfl; have hcz16_2 : w14.cell? ⟨gb113, 2, none⟩ = some (.int .i64 a1_2) := (aD BK113.out 2).trans rfl; have hcz16_3 : w14.cell? ⟨gb113, 3, none⟩ = some (.bool a1_3) := (aD BK113.out 3).trans rfl; have hfz16_0 := aA BK113.out 0; have hfz16_1 := aA BK113.out 1; have hfz16_2 := aA BK113.out 2; have hfz16_3 := aA BK113.out 3))
     go_ret
     exact ⟨by first | rfl | (simp [errW_none, errW_some] <;> rfl) | (simp [*, errW_none, errW_some] <;> rfl), by repeat (first | (with_reducible first | exact HB.out | apply aJ | apply aE | apply aH | refine aG ?_ GE112.out | refine aG ?_ GE113.out) | exact HB.out)⟩
    ·rw [if_neg c8] at H
     have c8b0 : (a0_3 != a1_3) = false := by simpa using c8
     (try (have c8b1 : decide (a0_3 = a1_3) = true := by simpa using c8))
     (try (have c8b2 : (a0_3 == a1_3) = true := by simpa using c8))
     clear c8
     obtain rfl := Option.some.inj H
     go_enter Try.func14, Try.ntmps14
     go_wp2_with (first | ((with_reducible refine bC (N := 2) rfl ?_); refine bB ?hg (N := 2) ?hd (cs := #[.slice A0_0 l0_0.length c0_0, .slice A0_1 l0_1.length c0_1, .int .i64 a0_2, .bool a0_3]) (t := 25) ?hr ?_; (case hd => rfl); (case hg => rfl); (case hr => first | (go_simp; done) | (go_simp; rfl)); intro gb112 hg w17 hbox hb; have n0_ := aC.mk (aV (by repeat (first | (with_reducible first | exact HB.out | apply aJ | apply aE | apply aH) | exact HB.out)) hb); have n1_ := aC.mk (hbox); have n2_ := aC.mk ((by rw [hg]; exact (aW (by repeat (first | (with_reducible first | exact HB.out | apply aJ | apply aE | apply aH) | exact HB.out))) : w.heap.size ≤ gb112)); have n3_ := aC.mk ((by rw [hg]; exact (aW (by repeat (first | (with_reducible first | exact HB.out | apply aJ | apply aE | apply aH) | exact HB.out))) : w.heap.size ≤ gb112)); clear HB; have HB := n0_; have BK112 := n1_; have GW112 := n2_; have GE112 := n3_; clear n0_ n1_ n2_ n3_; clear hb hbox hg) | ((with_reducible refine bC (N := 3) rfl ?_); refine bB ?hg (N := 3) ?hd (cs := #[.slice A1_0 l1_0.length c1_0, .slice A1_1 l1_1.length c1_1, .int .i64 a1_2, .bool a1_3]) (t := 25) ?hr ?_; (case hd => rfl); (case hg => rfl); (case hr => first | (go_simp; done) | (go_simp; rfl)); intro gb113 hg w18 hbox hb; have n0_ := aC.mk (aM (g := gb112) (o := .cells #[.slice A0_0 l0_0.length c0_0, .slice A0_1 l0_1.length c0_1, .int .i64 a0_2, .bool a0_3] 25 (0, 0)) (by (with_reducible repeat (first | refine aT ?_ _ | refine aQ ?_ | refine aN ?_ _)); exact BK112.out) hb); have n1_ := aC.mk (aV (by repeat (first | (with_reducible first | exact HB.out | apply aJ | apply aE | apply aH | refine aG ?_ GE112.out) | exact HB.out)) hb); have n2_ := aC.mk (hbox); have n3_ := aC.mk ((by rw [hg]; exact (aW (by repeat (first | (with_reducible first | exact HB.out | apply aJ | apply aE | apply aH | refine aG ?_ GE112.out) | exact HB.out))) : w.heap.size ≤ gb113)); have n4_ := aC.mk ((by rw [hg]; exact (aW (by repeat (first | (with_reducible first | exact HB.out | apply aJ | apply aE | apply aH | refine aG ?_ GE112.out) | exact HB.out))) : w.heap.size ≤ gb113)); have n5_ := aC.mk ((by rw [hg]; exact Nat.ne_of_lt (bG (g := gb112) (o := .cells #[.slice A0_0 l0_0.length c0_0, .slice A0_1 l0_1.length c0_1, .int .i64 a0_2, .bool a0_3] 25 (0, 0)) (by (with_reducible repeat (first | refine aT ?_ _ | refine aQ ?_ | refine aN ?_ _)); exact BK112.out)) : gb112 ≠ gb113)); have n6_ := aC.mk ((by rw [hg]; exact Nat.ne_of_gt (bG (g := gb112) (o := .cells #[.slice A0_0 l0_0.length c0_0, .slice A0_1 l0_1.length c0_1, .int .i64 a0_2, .bool a0_3] 25 (0, 0)) (by (with_reducible repeat (first | refine aT ?_ _ | refine aQ ?_ | refine aN ?_ _)); exact BK112.out)) : gb113 ≠ gb112)); clear BK112; clear HB; have BK112 := n0_; have HB := n1_; have BK113 := n2_; have GW113 := n3_; have GE113 := n4_; have NB112_113 := n5_; have NB113_112 := n6_; clear n0_ n1_ n2_ n3_ n4_ n5_ n6_; clear hb hbox hg; have hnb19 := NB112_113.out; have hnc19 := NB113_112.out; have hcz20_0 : w18.cell? ⟨gb112, 0, none⟩ = some (.slice A0_0 l0_0.length c0_0) := (aD BK112.out 0).trans rfl; have hcz20_1 : w18.cell? ⟨gb112, 1, none⟩ = some (.slice A0_1 l0_1.length c0_1) := (aD BK112.out 1).trans rfl; have hcz20_2 : w18.cell? ⟨gb112, 2, none⟩ = some (.int .i64 a0_2) := (aD BK112.out 2).trans rfl; have hcz20_3 : w18.cell? ⟨gb112, 3, none⟩ = some (.bool a0_3) := (aD BK112.out 3).trans rfl; have hfz20_0 := aA BK112.out 0; have hfz20_1 := aA BK112.out 1; have hfz20_2 := aA BK112.out 2; have hfz20_3 := aA BK112.out 3; have hcz21_0 : w18.cell? ⟨gb113, 0, none⟩ = some (.slice A1_0 l1_0.length c1_0) := (aD BK113.out 0).trans rfl; have hcz21_1 : w18.cell? ⟨gb113, 1, none⟩ = some (.slice A1_1 l1_1.length c1_1) := (aD BK113.out 1).trans rfl; have hcz21_2 : w18.cell? ⟨gb113, 2, none⟩ = some (.int .i64 a1_2) := (aD BK113.out 2).trans rfl; have hcz21_3 : w18.cell? ⟨gb113, 3, none⟩ = some (.bool a1_3) := (aD BK113.out 3).trans rfl; have hfz21_0 := aA BK113.out 0; have hfz21_1 := aA BK113.out 1; have hfz21_2 := aA BK113.out 2; have hfz21_3 := aA BK113.out 3) | ((with_reducible refine aY (f := 45) rfl ?_); refine bJ (some 9) rfl rfl Try.func45 (by kernel_rfl) rfl #[.slice A0_0 l0_0.length c0_0, .slice A1_0 l1_0.length c1_0] rfl (by (try simp only [List.map_toArray, List.map_cons, List.map_nil]); first | done | rfl | (simp only [List.length_drop, List.length_take]; rfl)) ?_; (with_reducible refine (laws_eqByteSS.calls k _ _ l0_0 _ _ l1_0 true _ ?side1 ?side2 ?side3 ?side4 A3.out).mono ?_); (case side1 => repeat (first | exact (Kd.bL HR0_0.out HB.out) | (with_reducible refine Kd.bN ?_ _) | (with_reducible refine Kd.bM ?_ _) | (with_reducible refine Kd.bQ ?_))); (case side2 => exact HC0_0.out); (case side3 => repeat (first | exact (Kd.bL HR1_0.out HB.out) | (with_reducible refine Kd.bN ?_ _) | (with_reducible refine Kd.bM ?_ _) | (with_reducible refine Kd.bQ ?_))); (case side4 => exact HC1_0.out); rintro e w' ⟨rfl, ⟨nd, rfl⟩⟩; refine ⟨_, rfl, ?_⟩) | ((with_reducible refine aY (f := 46) rfl ?_); refine bJ (some 15) rfl rfl Try.func46 (by kernel_rfl) rfl #[.slice A0_1 l0_1.length c0_1, .slice A1_1 l1_1.length c1_1] rfl (by (try simp only [List.map_toArray, List.map_cons, List.map_nil]); first | done | rfl | (simp only [List.length_drop, List.length_take]; rfl)) ?_; (with_reducible refine (laws_eqWrS.calls k _ _ l0_1 _ _ l1_1 true _ ?side1 ?side2 ?side3 ?side4 A5.out).mono ?_); (case side1 => repeat (first | exact (Kd.bL HR0_1.out (by repeat (first | (with_reducible first | exact HB.out | apply aJ | apply aE | apply aH | refine aG ?_ GE112.out | refine aG ?_ GE113.out) | exact HB.out))) | (with_reducible refine Kd.bN ?_ _) | (with_reducible refine Kd.bM ?_ _) | (with_reducible refine Kd.bQ ?_))); (case side2 => exact HC0_1.out); (case side3 => repeat (first | exact (Kd.bL HR1_1.out (by repeat (first | (with_reducible first | exact HB.out | apply aJ | apply aE | apply aH | refine aG ?_ GE112.out | refine aG ?_ GE113.out) | exact HB.out))) | (with_reducible refine Kd.bN ?_ _) | (with_reducible refine Kd.bM ?_ _) | (with_reducible refine Kd.bQ ?_))); (case side4 => exact HC1_1.out); rintro e w22 ⟨rfl, hb⟩; refine ⟨_, rfl, ?_⟩; have n0_ := aC.mk (aM (g := gb112) (o := .cells #[.slice A0_0 l0_0.length c0_0, .slice A0_1 l0_1.length c0_1, .int .i64 a0_2, .bool a0_3] 25 (0, 0)) (by (with_reducible repeat (first | refine aT ?_ _ | refine aQ ?_ | refine aN ?_ _)); exact BK112.out) hb); have n1_ := aC.mk (aM (g := gb113) (o := .cells #[.slice A1_0 l1_0.length c1_0, .slice A1_1 l1_1.length c1_1, .int .i64 a1_2, .bool a1_3] 25 (0, 0)) (by (with_reducible repeat (first | refine aT ?_ _ | refine aQ ?_ | refine aN ?_ _)); exact BK113.out) hb); have n2_ := aC.mk (aV (by repeat (first | (with_reducible first | exact HB.out | apply aJ | apply aE | apply aH | refine aG ?_ GE112.out | refine aG ?_ GE113.out) | exact HB.out)) hb); clear BK112; clear BK113; clear HB; have BK112 := n0_; have BK113 := n1_; have HB := n2_; clear n0_ n1_ n2_; (try clear hb); have hcz23_0 : w22.cell? ⟨gb112, 0, none⟩ = some (.slice A0_0 l0_0.length c0_0) := (aD BK112.out 0).trans rfl; have hcz23_1 : w22.cell? ⟨gb112, 1, none⟩ = some (.slice A0_1 l0_1.length c0_1) := (aD BK112.out 1).trans rfl; have hcz23_2 : w22.cell? ⟨gb112, 2, none⟩ = some (.int .i64 a0_2) := (aD BK112.out 2).trans rfl; have hcz23_3 : w22.cell? ⟨gb112, 3, none⟩ = some (.bool a0_3) := (aD BK112.out 3).trans rfl; have hfz23_0 := aA BK112.out 0; have hfz23_1 := aA BK112.out 1; have hfz23_2 := aA BK112.out 2; have hfz23_3 := aA BK112.out 3; have hcz24_0 : w22.cell? ⟨gb113, 0, none⟩ = some (.slice A1_0 l1_0.length c1_0) := (aD BK113.out 0).trans rfl; have hcz24_1 : w22.cell? ⟨gb113, 1, none⟩ = some (.slice A1_1 l1_1.length c1_1) := (aD BK113.out 1).trans rfl; have hcz24_2 : w22.cell? ⟨gb113, 2, none⟩ = some (.int .i64 a1_2) := (aD BK113.out 2).trans rfl; have hcz24_3 : w22.cell? ⟨gb113, 3, none⟩ = some (.bool a1_3) := (aD BK113.out 3).trans rfl; have hfz24_0 := aA BK113.out 0; have hfz24_1 := aA BK113.out 1; have hfz24_2 := aA BK113.out 2; have hfz24_3 := aA BK113.out 3))
     go_ret
     exact ⟨by first | rfl | (simp [errW_none, errW_some] <;> rfl) | (simp [*, errW_none, errW_some] <;> rfl), by repeat (first | (with_reducible first | exact HB.out | apply aJ | apply aE | apply aH | refine aG ?_ GE112.out | refine aG ?_ GE113.out) | exact HB.out)⟩
   ·rw [if_neg c7] at H
    have c7b0 : (a0_2 == a1_2) = false := beq_eq_false_iff_ne.mpr c7
    have c7b1 : (a0_2 != a1_2) = true := bne_iff_ne.mpr c7
    obtain rfl := Option.some.inj H
    go_enter Try.func14, Try.ntmps14
    go_wp2_with (first | ((with_reducible refine bC (N := 2) rfl ?_); refine bB ?hg (N := 2) ?hd (cs := #[.slice A0_0 l0_0.length c0_0, .slice A0_1 l0_1.length c0_1, .int .i64 a0_2, .bool a0_3]) (t := 25) ?hr ?_; (case hd => rfl); (case hg => rfl); (case hr => first | (go_simp; done) | (go_simp; rfl)); intro gb112 hg w25 hbox hb; have n0_ := aC.mk (aV (by repeat (first | (with_reducible first | exact HB.out | apply aJ | apply aE | apply aH) | exact HB.out)) hb); have n1_ := aC.mk (hbox); have n2_ := aC.mk ((by rw [hg]; exact (aW (by repeat (first | (with_reducible first | exact HB.out | apply aJ | apply aE | apply aH) | exact HB.out))) : w.heap.size ≤ gb112)); have n3_ := aC.mk ((by rw [hg]; exact (aW (by repeat (first | (with_reducible first | exact HB.out | apply aJ | apply aE | apply aH) | exact HB.out))) : w.heap.size ≤ gb112)); clear HB; have HB := n0_; have BK112 := n1_; have GW112 := n2_; have GE112 := n3_; clear n0_ n1_ n2_ n3_; clear hb hbox hg) | ((with_reducible refine bC (N := 3) rfl ?_); refine bB ?hg (N := 3) ?hd (cs := #[.slice A1_0 l1_0.length c1_0, .slice A1_1 l1_1.length c1_1, .int .i64 a1_2, .bool a1_3]) (t := 25) ?hr ?_; (case hd => rfl); (case hg => rfl); (case hr => first | (go_simp; done) | (go_simp; rfl)); intro gb113 hg w26 hbox hb; have n0_ := aC.mk (aM (g := gb112) (o := .cells #[.slice A0_0 l0_0.length c0_0, .slice A0_1 l0_1.length c0_1, .int .i64 a0_2, .bool a0_3] 25 (0, 0)) (by (with_reducible repeat (first | refine aT ?_ _ | refine aQ ?_ | refine aN ?_ _)); exact BK112.out) hb); have n1_ := aC.mk (aV (by repeat (first | (with_reducible first | exact HB.out | apply aJ | apply aE | apply aH | refine aG ?_ GE112.out) | exact HB.out)) hb); have n2_ := aC.mk (hbox); have n3_ := aC.mk ((by rw [hg]; exact (aW (by repeat (first | (with_reducible first | exact HB.out | apply aJ | apply aE | apply aH | refine aG ?_ GE112.out) | exact HB.out))) : w.heap.size ≤ gb113)); have n4_ := aC.mk ((by rw [hg]; exact (aW (by repeat (first | (with_reducible first | exact HB.out | apply aJ | apply aE | apply aH | refine aG ?_ GE112.out) | exact HB.out))) : w.heap.size ≤ gb113)); have n5_ := aC.mk ((by rw [hg]; exact Nat.ne_of_lt (bG (g := gb112) (o := .cells #[.slice A0_0 l0_0.length c0_0, .slice A0_1 l0_1.length c0_1, .int .i64 a0_2, .bool a0_3] 25 (0, 0)) (by (with_reducible repeat (first | refine aT ?_ _ | refine aQ ?_ | refine aN ?_ _)); exact BK112.out)) : gb112 ≠ gb113)); have n6_ := aC.mk ((by rw [hg]; exact Nat.ne_of_gt (bG (g := gb112) (o := .cells #[.slice A0_0 l0_0.length c0_0, .slice A0_1 l0_1.length c0_1, .int .i64 a0_2, .bool a0_3] 25 (0, 0)) (by (with_reducible repeat (first | refine aT ?_ _ | refine aQ ?_ | refine aN ?_ _)); exact BK112.out)) : gb113 ≠ gb112)); clear BK112; clear HB; have BK112 := n0_; have HB := n1_; have BK113 := n2_; have GW113 := n3_; have GE113 := n4_; have NB112_113 := n5_; have NB113_112 := n6_; clear n0_ n1_ n2_ n3_ n4_ n5_ n6_; clear hb hbox hg; have hnb27 := NB112_113.out; have hnc27 := NB113_112.out; have hcz28_0 : w26.cell? ⟨gb112, 0, none⟩ = some (.slice A0_0 l0_0.length c0_0) := (aD BK112.out 0).trans rfl; have hcz28_1 : w26.cell? ⟨gb112, 1, none⟩ = some (.slice A0_1 l0_1.length c0_1) := (aD BK112.out 1).trans rfl; have hcz28_2 : w26.cell? ⟨gb112, 2, none⟩ = some (.int .i64 a0_2) := (aD BK112.out 2).trans rfl; have hcz28_3 : w26.cell? ⟨gb112, 3, none⟩ = some (.bool a0_3) := (aD BK112.out 3).trans rfl; have hfz28_0 := aA BK112.out 0; have hfz28_1 := aA BK112.out 1; have hfz28_2 := aA BK112.out 2; have hfz28_3 := aA BK112.out 3; have hcz29_0 : w26.cell? ⟨gb113, 0, none⟩ = some (.slice A1_0 l1_0.length c1_0) := (aD BK113.out 0).trans rfl; have hcz29_1 : w26.cell? ⟨gb113, 1, none⟩ = some (.slice A1_1 l1_1.length c1_1) := (aD BK113.out 1).trans rfl; have hcz29_2 : w26.cell? ⟨gb113, 2, none⟩ = some (.int .i64 a1_2) := (aD BK113.out 2).trans rfl; have hcz29_3 : w26.cell? ⟨gb113, 3, none⟩ = some (.bool a1_3) := (aD BK113.out 3).trans rfl; have hfz29_0 := aA BK113.out 0; have hfz29_1 := aA BK113.out 1; have hfz29_2 := aA BK113.out 2; have hfz29_3 := aA BK113.out 3) | ((with_reducible refine aY (f := 45) rfl ?_); refine bJ (some 9) rfl rfl Try.func45 (by kernel_rfl) rfl #[.slice A0_0 l0_0.length c0_0, .slice A1_0 l1_0.length c1_0] rfl (by (try simp only [List.map_toArray, List.map_cons, List.map_nil]); first | done | rfl | (simp only [List.length_drop, List.length_take]; rfl)) ?_; (with_reducible refine (laws_eqByteSS.calls k _ _ l0_0 _ _ l1_0 true _ ?side1 ?side2 ?side3 ?side4 A3.out).mono ?_); (case side1 => repeat (first | exact (Kd.bL HR0_0.out HB.out) | (with_reducible refine Kd.bN ?_ _) | (with_reducible refine Kd.bM ?_ _) | (with_reducible refine Kd.bQ ?_))); (case side2 => exact HC0_0.out); (case side3 => repeat (first | exact (Kd.bL HR1_0.out HB.out) | (with_reducible refine Kd.bN ?_ _) | (with_reducible refine Kd.bM ?_ _) | (with_reducible refine Kd.bQ ?_))); (case side4 => exact HC1_0.out); rintro e w' ⟨rfl, ⟨nd, rfl⟩⟩; refine ⟨_, rfl, ?_⟩) | ((with_reducible refine aY (f := 46) rfl ?_); refine bJ (some 15) rfl rfl Try.func46 (by kernel_rfl) rfl #[.slice A0_1 l0_1.length c0_1, .slice A1_1 l1_1.length c1_1] rfl (by (try simp only [List.map_toArray, List.map_cons, List.map_nil]); first | done | rfl | (simp only [List.length_drop, List.length_take]; rfl)) ?_; (with_reducible refine (laws_eqWrS.calls k _ _ l0_1 _ _ l1_1 true _ ?side1 ?side2 ?side3 ?side4 A5.out).mono ?_); (case side1 => repeat (first | exact (Kd.bL HR0_1.out (by repeat (first | (with_reducible first | exact HB.out | apply aJ | apply aE | apply aH | refine aG ?_ GE112.out | refine aG ?_ GE113.out) | exact HB.out))) | (with_reducible refine Kd.bN ?_ _) | (with_reducible refine Kd.bM ?_ _) | (with_reducible refine Kd.bQ ?_))); (case side2 => exact HC0_1.out); (case side3 => repeat (first | exact (Kd.bL HR1_1.out (by repeat (first | (with_reducible first | exact HB.out | apply aJ | apply aE | apply aH | refine aG ?_ GE112.out | refine aG ?_ GE113.out) | exact HB.out))) | (with_reducible refine Kd.bN ?_ _) | (with_reducible refine Kd.bM ?_ _) | (with_reducible refine Kd.bQ ?_))); (case side4 => exact HC1_1.out); rintro e w30 ⟨rfl, hb⟩; refine ⟨_, rfl, ?_⟩; have n0_ := aC.mk (aM (g := gb112) (o := .cells #[.slice A0_0 l0_0.length c0_0, .slice A0_1 l0_1.length c0_1, .int .i64 a0_2, .bool a0_3] 25 (0, 0)) (by (with_reducible repeat (first | refine aT ?_ _ | refine aQ ?_ | refine aN ?_ _)); exact BK112.out) hb); have n1_ := aC.mk (aM (g := gb113) (o := .cells #[.slice A1_0 l1_0.length c1_0, .slice A1_1 l1_1.length c1_1, .int .i64 a1_2, .bool a1_3] 25 (0, 0)) (by (with_reducible repeat (first | refine aT ?_ _ | refine aQ ?_ | refine aN ?_ _)); exact BK113.out) hb); have n2_ := aC.mk (aV (by repeat (first | (with_reducible first | exact HB.out | apply aJ | apply aE | apply aH | refine aG ?_ GE112.out | refine aG ?_ GE113.out) | exact HB.out)) hb); clear BK112; clear BK113; clear HB; have BK112 := n0_; have BK113 := n1_; have HB := n2_; clear n0_ n1_ n2_; (try clear hb); have hcz31_0 : w30.cell? ⟨gb112, 0, none⟩ = some (.slice A0_0 l0_0.length c0_0) := (aD BK112.out 0).trans rfl; have hcz31_1 : w30.cell? ⟨gb112, 1, none⟩ = some (.slice A0_1 l0_1.length c0_1) := (aD BK112.out 1).trans rfl; have hcz31_2 : w30.cell? ⟨gb112, 2, none⟩ = some (.int .i64 a0_2) := (aD BK112.out 2).trans rfl; have hcz31_3 : w30.cell? ⟨gb112, 3, none⟩ = some (.bool a0_3) := (aD BK112.out 3).trans rfl; have hfz31_0 := aA BK112.out 0; have hfz31_1 := aA BK112.out 1; have hfz31_2 := aA BK112.out 2; have hfz31_3 := aA BK112.out 3; have hcz32_0 : w30.cell? ⟨gb113, 0, none⟩ = some (.slice A1_0 l1_0.length c1_0) := (aD BK113.out 0).trans rfl; have hcz32_1 : w30.cell? ⟨gb113, 1, none⟩ = some (.slice A1_1 l1_1.length c1_1) := (aD BK113.out 1).trans rfl; have hcz32_2 : w30.cell? ⟨gb113, 2, none⟩ = some (.int .i64 a1_2) := (aD BK113.out 2).trans rfl; have hcz32_3 : w30.cell? ⟨gb113, 3, none⟩ = some (.bool a1_3) := (aD BK113.out 3).trans rfl; have hfz32_0 := aA BK113.out 0; have hfz32_1 := aA BK113.out 1; have hfz32_2 := aA BK113.out 2; have hfz32_3 := aA BK113.out 3))
    go_ret
    exact ⟨by first | rfl | (simp [errW_none, errW_some] <;> rfl) | (simp [*, errW_none, errW_some] <;> rfl), by repeat (first | (with_reducible first | exact HB.out | apply aJ | apply aE | apply aH | refine aG ?_ GE112.out | refine aG ?_ GE113.out) | exact HB.out)⟩
  ·replace c6 := Bool.eq_false_iff.mpr c6
   subst c6
   have H1 : (some false) = some r := by rw [if_neg (show ¬ (false = true) by decide)] at H; exact H
   clear H
   have H := H1
   clear H1
   obtain rfl := Option.some.inj H
   go_enter Try.func14, Try.ntmps14
   go_wp2_with (first | ((with_reducible refine bC (N := 2) rfl ?_); refine bB ?hg (N := 2) ?hd (cs := #[.slice A0_0 l0_0.length c0_0, .slice A0_1 l0_1.length c0_1, .int .i64 a0_2, .bool a0_3]) (t := 25) ?hr ?_; (case hd => rfl); (case hg => rfl); (case hr => first | (go_simp; done) | (go_simp; rfl)); intro gb112 hg w33 hbox hb; have n0_ := aC.mk (aV (by repeat (first | (with_reducible first | exact HB.out | apply aJ | apply aE | apply aH) | exact HB.out)) hb); have n1_ := aC.mk (hbox); have n2_ := aC.mk ((by rw [hg]; exact (aW (by repeat (first | (with_reducible first | exact HB.out | apply aJ | apply aE | apply aH) | exact HB.out))) : w.heap.size ≤ gb112)); have n3_ := aC.mk ((by rw [hg]; exact (aW (by repeat (first | (with_reducible first | exact HB.out | apply aJ | apply aE | apply aH) | exact HB.out))) : w.heap.size ≤ gb112)); clear HB; have HB := n0_; have BK112 := n1_; have GW112 := n2_; have GE112 := n3_; clear n0_ n1_ n2_ n3_; clear hb hbox hg) | ((with_reducible refine bC (N := 3) rfl ?_); refine bB ?hg (N := 3) ?hd (cs := #[.slice A1_0 l1_0.length c1_0, .slice A1_1 l1_1.length c1_1, .int .i64 a1_2, .bool a1_3]) (t := 25) ?hr ?_; (case hd => rfl); (case hg => rfl); (case hr => first | (go_simp; done) | (go_simp; rfl)); intro gb113 hg w34 hbox hb; have n0_ := aC.mk (aM (g := gb112) (o := .cells #[.slice A0_0 l0_0.length c0_0, .slice A0_1 l0_1.length c0_1, .int .i64 a0_2, .bool a0_3] 25 (0, 0)) (by (with_reducible repeat (first | refine aT ?_ _ | refine aQ ?_ | refine aN ?_ _)); exact BK112.out) hb); have n1_ := aC.mk (aV (by repeat (first | (with_reducible first | exact HB.out | apply aJ | apply aE | apply aH | refine aG ?_ GE112.out) | exact HB.out)) hb); have n2_ := aC.mk (hbox); have n3_ := aC.mk ((by rw [hg]; exact (aW (by repeat (first | (with_reducible first | exact HB.out | apply aJ | apply aE | apply aH | refine aG ?_ GE112.out) | exact HB.out))) : w.heap.size ≤ gb113)); have n4_ := aC.mk ((by rw [hg]; exact (aW (by repeat (first | (with_reducible first | exact HB.out | apply aJ | apply aE | apply aH | refine aG ?_ GE112.out) | exact HB.out))) : w.heap.size ≤ gb113)); have n5_ := aC.mk ((by rw [hg]; exact Nat.ne_of_lt (bG (g := gb112) (o := .cells #[.slice A0_0 l0_0.length c0_0, .slice A0_1 l0_1.length c0_1, .int .i64 a0_2, .bool a0_3] 25 (0, 0)) (by (with_reducible repeat (first | refine aT ?_ _ | refine aQ ?_ | refine aN ?_ _)); exact BK112.out)) : gb112 ≠ gb113)); have n6_ := aC.mk ((by rw [hg]; exact Nat.ne_of_gt (bG (g := gb112) (o := .cells #[.slice A0_0 l0_0.length c0_0, .slice A0_1 l0_1.length c0_1, .int .i64 a0_2, .bool a0_3] 25 (0, 0)) (by (with_reducible repeat (first | refine aT ?_ _ | refine aQ ?_ | refine aN ?_ _)); exact BK112.out)) : gb113 ≠ gb112)); clear BK112; clear HB; have BK112 := n0_; have HB := n1_; have BK113 := n2_; have GW113 := n3_; have GE113 := n4_; have NB112_113 := n5_; have NB113_112 := n6_; clear n0_ n1_ n2_ n3_ n4_ n5_ n6_; clear hb hbox hg; have hnb35 := NB112_113.out; have hnc35 := NB113_112.out; have hcz36_0 : w34.cell? ⟨gb112, 0, none⟩ = some (.slice A0_0 l0_0.length c0_0) := (aD BK112.out 0).trans rfl; have hcz36_1 : w34.cell? ⟨gb112, 1, none⟩ = some (.slice A0_1 l0_1.length c0_1) := (aD BK112.out 1).trans rfl; have hcz36_2 : w34.cell? ⟨gb112, 2, none⟩ = some (.int .i64 a0_2) := (aD BK112.out 2).trans rfl; have hcz36_3 : w34.cell? ⟨gb112, 3, none⟩ = some (.bool a0_3) := (aD BK112.out 3).trans rfl; have hfz36_0 := aA BK112.out 0; have hfz36_1 := aA BK112.out 1; have hfz36_2 := aA BK112.out 2; have hfz36_3 := aA BK112.out 3; have hcz37_0 : w34.cell? ⟨gb113, 0, none⟩ = some (.slice A1_0 l1_0.length c1_0) := (aD BK113.out 0).trans rfl; have hcz37_1 : w34.cell? ⟨gb113, 1, none⟩ = some (.slice A1_1 l1_1.length c1_1) := (aD BK113.out 1).trans rfl; have hcz37_2 : w34.cell? ⟨gb113, 2, none⟩ = some (.int .i64 a1_2) := (aD BK113.out 2).trans rfl; have hcz37_3 : w34.cell? ⟨gb113, 3, none⟩ = some (.bool a1_3) := (aD BK113.out 3).trans rfl; have hfz37_0 := aA BK113.out 0; have hfz37_1 := aA BK113.out 1; have hfz37_2 := aA BK113.out 2; have hfz37_3 := aA BK113.out 3) | ((with_reducible refine aY (f := 45) rfl ?_); refine bJ (some 9) rfl rfl Try.func45 (by kernel_rfl) rfl #[.slice A0_0 l0_0.length c0_0, .slice A1_0 l1_0.length c1_0] rfl (by (try simp only [List.map_toArray, List.map_cons, List.map_nil]); first | done | rfl | (simp only [List.length_drop, List.length_take]; rfl)) ?_; (with_reducible refine (laws_eqByteSS.calls k _ _ l0_0 _ _ l1_0 true _ ?side1 ?side2 ?side3 ?side4 A3.out).mono ?_); (case side1 => repeat (first | exact (Kd.bL HR0_0.out HB.out) | (with_reducible refine Kd.bN ?_ _) | (with_reducible refine Kd.bM ?_ _) | (with_reducible refine Kd.bQ ?_))); (case side2 => exact HC0_0.out); (case side3 => repeat (first | exact (Kd.bL HR1_0.out HB.out) | (with_reducible refine Kd.bN ?_ _) | (with_reducible refine Kd.bM ?_ _) | (with_reducible refine Kd.bQ ?_))); (case side4 => exact HC1_0.out); rintro e w' ⟨rfl, ⟨nd, rfl⟩⟩; refine ⟨_, rfl, ?_⟩) | ((with_reducible refine aY (f := 46) rfl ?_); refine bJ (some 15) rfl rfl Try.func46 (by kernel_rfl) rfl #[.slice A0_1 l0_1.length c0_1, .slice A1_1 l1_1.length c1_1] rfl (by (try simp only [List.map_toArray, List.map_cons, List.map_nil]); first | done | rfl | (simp only [List.length_drop, List.length_take]; rfl)) ?_; (with_reducible refine (laws_eqWrS.calls k _ _ l0_1 _ _ l1_1 false _ ?side1 ?side2 ?side3 ?side4 A5.out).mono ?_); (case side1 => repeat (first | exact (Kd.bL HR0_1.out (by repeat (first | (with_reducible first | exact HB.out | apply aJ | apply aE | apply aH | refine aG ?_ GE112.out | refine aG ?_ GE113.out) | exact HB.out))) | (with_reducible refine Kd.bN ?_ _) | (with_reducible refine Kd.bM ?_ _) | (with_reducible refine Kd.bQ ?_))); (case side2 => exact HC0_1.out); (case side3 => repeat (first | exact (Kd.bL HR1_1.out (by repeat (first | (with_reducible first | exact HB.out | apply aJ | apply aE | apply aH | refine aG ?_ GE112.out | refine aG ?_ GE113.out) | exact HB.out))) | (with_reducible refine Kd.bN ?_ _) | (with_reducible refine Kd.bM ?_ _) | (with_reducible refine Kd.bQ ?_))); (case side4 => exact HC1_1.out); rintro e w38 ⟨rfl, hb⟩; refine ⟨_, rfl, ?_⟩; have n0_ := aC.mk (aM (g := gb112) (o := .cells #[.slice A0_0 l0_0.length c0_0, .slice A0_1 l0_1.length c0_1, .int .i64 a0_2, .bool a0_3] 25 (0, 0)) (by (with_reducible repeat (first | refine aT ?_ _ | refine aQ ?_ | refine aN ?_ _)); exact BK112.out) hb); have n1_ := aC.mk (aM (g := gb113) (o := .cells #[.slice A1_0 l1_0.length c1_0, .slice A1_1 l1_1.length c1_1, .int .i64 a1_2, .bool a1_3] 25 (0, 0)) (by (with_reducible repeat (first | refine aT ?_ _ | refine aQ ?_ | refine aN ?_ _)); exact BK113.out) hb); have n2_ := aC.mk (aV (by repeat (first | (with_reducible first | exact HB.out | apply aJ | apply aE | apply aH | refine aG ?_ GE112.out | refine aG ?_ GE113.out) | exact HB.out)) hb); clear BK112; clear BK113; clear HB; have BK112 := n0_; have BK113 := n1_; have HB := n2_; clear n0_ n1_ n2_; (try clear hb)))
   go_ret
   exact ⟨by first | rfl | (simp [errW_none, errW_some] <;> rfl) | (simp [*, errW_none, errW_some] <;> rfl), by repeat (first | (with_reducible first | exact HB.out | apply aJ | apply aE | apply aH | refine aG ?_ GE112.out | refine aG ?_ GE113.out) | exact HB.out)⟩
 ·replace c4 := Bool.eq_false_iff.mpr c4
  subst c4
  have H1 : (some false) = some r := by rw [if_neg (show ¬ (false = true) by decide)] at H; exact H
  clear H
  have H := H1
  clear H1
  obtain rfl := Option.some.inj H
  go_enter Try.func14, Try.ntmps14
  go_wp2_with (first | ((with_reducible refine bC (N := 2) rfl ?_); refine bB ?hg (N := 2) ?hd (cs := #[.slice A0_0 l0_0.length c0_0, .slice A0_1 l0_1.length c0_1, .int .i64 a0_2, .bool a0_3]) (t := 25) ?hr ?_; (case hd => rfl); (case hg => rfl); (case hr => first | (go_simp; done) | (go_simp; rfl)); intro gb112 hg w39 hbox hb; have n0_ := aC.mk (aV (by repeat (first | (with_reducible first | exact HB.out | apply aJ | apply aE | apply aH) | exact HB.out)) hb); have n1_ := aC.mk (hbox); have n2_ := aC.mk ((by rw [hg]; exact (aW (by repeat (first | (with_reducible first | exact HB.out | apply aJ | apply aE | apply aH) | exact HB.out))) : w.heap.size ≤ gb112)); have n3_ := aC.mk ((by rw [hg]; exact (aW (by repeat (first | (with_reducible first | exact HB.out | apply aJ | apply aE | apply aH) | exact HB.out))) : w.heap.size ≤ gb112)); clear HB; have HB := n0_; have BK112 := n1_; have GW112 := n2_; have GE112 := n3_; clear n0_ n1_ n2_ n3_; clear hb hbox hg) | ((with_reducible refine bC (N := 3) rfl ?_); refine bB ?hg (N := 3) ?hd (cs := #[.slice A1_0 l1_0.length c1_0, .slice A1_1 l1_1.length c1_1, .int .i64 a1_2, .bool a1_3]) (t := 25) ?hr ?_; (case hd => rfl); (case hg => rfl); (case hr => first | (go_simp; done) | (go_simp; rfl)); intro gb113 hg w40 hbox hb; have n0_ := aC.mk (aM (g := gb112) (o := .cells #[.slice A0_0 l0_0.length c0_0, .slice A0_1 l0_1.length c0_1, .int .i64 a0_2, .bool a0_3] 25 (0, 0)) (by (with_reducible repeat (first | refine aT ?_ _ | refine aQ ?_ | refine aN ?_ _)); exact BK112.out) hb); have n1_ := aC.mk (aV (by repeat (first | (with_reducible first | exact HB.out | apply aJ | apply aE | apply aH | refine aG ?_ GE112.out) | exact HB.out)) hb); have n2_ := aC.mk (hbox); have n3_ := aC.mk ((by rw [hg]; exact (aW (by repeat (first | (with_reducible first | exact HB.out | apply aJ | apply aE | apply aH | refine aG ?_ GE112.out) | exact HB.out))) : w.heap.size ≤ gb113)); have n4_ := aC.mk ((by rw [hg]; exact (aW (by repeat (first | (with_reducible first | exact HB.out | apply aJ | apply aE | apply aH | refine aG ?_ GE112.out) | exact HB.out))) : w.heap.size ≤ gb113)); have n5_ := aC.mk ((by rw [hg]; exact Nat.ne_of_lt (bG (g := gb112) (o := .cells #[.slice A0_0 l0_0.length c0_0, .slice A0_1 l0_1.length c0_1, .int .i64 a0_2, .bool a0_3] 25 (0, 0)) (by (with_reducible repeat (first | refine aT ?_ _ | refine aQ ?_ | refine aN ?_ _)); exact BK112.out)) : gb112 ≠ gb113)); have n6_ := aC.mk ((by rw [hg]; exact Nat.ne_of_gt (bG (g := gb112) (o := .cells #[.slice A0_0 l0_0.length c0_0, .slice A0_1 l0_1.length c0_1, .int .i64 a0_2, .bool a0_3] 25 (0, 0)) (by (with_reducible repeat (first | refine aT ?_ _ | refine aQ ?_ | refine aN ?_ _)); exact BK112.out)) : gb113 ≠ gb112)); clear BK112; clear HB; have BK112 := n0_; have HB := n1_; have BK113 := n2_; have GW113 := n3_; have GE113 := n4_; have NB112_113 := n5_; have NB113_112 := n6_; clear n0_ n1_ n2_ n3_ n4_ n5_ n6_; clear hb hbox hg; have hnb41 := NB112_113.out; have hnc41 := NB113_112.out; have hcz42_0 : w40.cell? ⟨gb112, 0, none⟩ = some (.slice A0_0 l0_0.length c0_0) := (aD BK112.out 0).trans rfl; have hcz42_1 : w40.cell? ⟨gb112, 1, none⟩ = some (.slice A0_1 l0_1.length c0_1) := (aD BK112.out 1).trans rfl; have hcz42_2 : w40.cell? ⟨gb112, 2, none⟩ = some (.int .i64 a0_2) := (aD BK112.out 2).trans rfl; have hcz42_3 : w40.cell? ⟨gb112, 3, none⟩ = some (.bool a0_3) := (aD BK112.out 3).trans rfl; have hfz42_0 := aA BK112.out 0; have hfz42_1 := aA BK112.out 1; have hfz42_2 := aA BK112.out 2; have hfz42_3 := aA BK112.out 3; have hcz43_0 : w40.cell? ⟨gb113, 0, none⟩ = some (.slice A1_0 l1_0.length c1_0) := (aD BK113.out 0).trans rfl; have hcz43_1 : w40.cell? ⟨gb113, 1, none⟩ = some (.slice A1_1 l1_1.length c1_1) := (aD BK113.out 1).trans rfl; have hcz43_2 : w40.cell? ⟨gb113, 2, none⟩ = some (.int .i64 a1_2) := (aD BK113.out 2).trans rfl; have hcz43_3 : w40.cell? ⟨gb113, 3, none⟩ = some (.bool a1_3) := (aD BK113.out 3).trans rfl; have hfz43_0 := aA BK113.out 0; have hfz43_1 := aA BK113.out 1; have hfz43_2 := aA BK113.out 2; have hfz43_3 := aA BK113.out 3) | ((with_reducible refine aY (f := 45) rfl ?_); refine bJ (some 9) rfl rfl Try.func45 (by kernel_rfl) rfl #[.slice A0_0 l0_0.length c0_0, .slice A1_0 l1_0.length c1_0] rfl (by (try simp only [List.map_toArray, List.map_cons, List.map_nil]); first | done | rfl | (simp only [List.length_drop, List.length_take]; rfl)) ?_; (with_reducible refine (laws_eqByteSS.calls k _ _ l0_0 _ _ l1_0 false _ ?side1 ?side2 ?side3 ?side4 A3.out).mono ?_); (case side1 => repeat (first | exact (Kd.bL HR0_0.out HB.out) | (with_reducible refine Kd.bN ?_ _) | (with_reducible refine Kd.bM ?_ _) | (with_reducible refine Kd.bQ ?_))); (case side2 => exact HC0_0.out); (case side3 => repeat (first | exact (Kd.bL HR1_0.out HB.out) | (with_reducible refine Kd.bN ?_ _) | (with_reducible refine Kd.bM ?_ _) | (with_reducible refine Kd.bQ ?_))); (case side4 => exact HC1_0.out); rintro e w' ⟨rfl, ⟨nd, rfl⟩⟩; refine ⟨_, rfl, ?_⟩))
  go_ret
  exact ⟨by first | rfl | (simp [errW_none, errW_some] <;> rfl) | (simp [*, errW_none, errW_some] <;> rfl), by repeat (first | (with_reducible first | exact HB.out | apply aJ | apply aE | apply aH | refine aG ?_ GE112.out | refine aG ?_ GE113.out) | exact HB.out)⟩
def laws_markByteS.l0 : Nat → List Int → Int → Int → Option (Int × List Int)
 | 0, _, _, _ => none
 | k + 1, x0, x1, x5 => if x5 < (x0.length : Int) then (if 0 ≤ x5 then (laws_markByteS.l0 k (x0.set (x5 : Int).toNat ((x1) % 256)) (wrap64 (x1 + 1)) (wrap64 (x5 + 1))) else (none)) else (some (x1, x0))
def laws_markByteS.f (k : Nat) (l0 : List Int) (a1 : Int) : Option (Int × List Int) := laws_markByteS.l0 k l0 a1 0
set_option maxHeartbeats 8000000 in
set_option maxRecDepth 100000 in
theorem laws_markByteS.calls (k : Nat) (P0_ : Nat → Prop) (u9000_ : Value) (l0 : List Int) (a1 : Int) (r1 : Int) (r2 : List Int) (w0 w : World) (hB : Below w0.heap.size w0 w) (ho0 : Kd.R (Kd.int .u8) 5 w w0.heap.size P0_ u9000_ l0) (h : laws_markByteS.f k l0 a1 = some (r1, r2)) :
  Calls Try.prog 24 #[u9000_, .int .i64 a1] w fun e w' => e = .returned (.int .i64 r1) ∧ Kd.R (Kd.int .u8) 5 w' w0.heap.size (fun k_ => (P0_ k_ ∨ w.heap.size ≤ k_)) u9000_ r2 ∧ Below w0.heap.size w0 w' ∧ Kept w w' (fun k_ => P0_ k_) := by
 have HO0 := aC.mk (show Kd.R (Kd.int .u8) 5 w w0.heap.size (fun k_ => (P0_ k_ ∨ w.heap.size ≤ k_)) u9000_ l0 from Kd.R_mono ho0 (fun k_ hk => (.inl hk)))
 have HK := aC.mk (Kept.refl w (fun k_ => P0_ k_))
 have HW0 := aC.mk hB.size
 have HB := aC.mk hB
 clear hB
 have H : (laws_markByteS.l0 k l0 a1 0) = some (r1, r2) := h
 clear h
 have H' := aC.mk H
 clear H
 go_enter Try.func24, Try.ntmps24
 go_wp2
 go_loopg [1, 5] k (fun kq v1 v5 w' => ∃ (x0_1 : List Int) (x1_1 : Int) (x5_1 : Int), v1 = .int .i64 x1_1 ∧ v5 = .int .i64 x5_1 ∧ aC (laws_markByteS.l0 kq x0_1 x1_1 x5_1 = some (r1, r2)) ∧ aC (kq ≤ k) ∧ aC (Kd.R (Kd.int .u8) 5 w' w0.heap.size (fun k_ => (P0_ k_ ∨ w.heap.size ≤ k_)) u9000_ x0_1) ∧ aC (Kept w w' (fun k_ => P0_ k_)) ∧ aC (Below w0.heap.size w0 w'))
 case atStart => exact ⟨(l0), (a1), (0), (by first | rfl | (simp; done) | (simp [*]; done)), (by first | rfl | (simp; done) | (simp [*]; done)), H', ⟨Nat.le_refl _⟩, ⟨by (with_reducible repeat (first | apply Kd.R_alloc | apply Kd.R_drewN | apply Kd.R_drew)); exact HO0.out⟩, ⟨by repeat (first | (with_reducible first | exact HK.out | apply Kept.alloc | apply Kept.drewN | apply Kept.drew) | exact HK.out)⟩, ⟨by repeat (first | (with_reducible first | exact HB.out | apply aJ | apply aE | apply aH) | exact HB.out)⟩⟩
 case round =>
  clear H'
  try clear c2
  try clear p2
  obtain ⟨x0_1, x1_1, x5_1, rfl, rfl, HA, HK1, HO_0, HK, HB⟩ := hrel
  cases gk with
  | zero => exact absurd HA.out (by simp [laws_markByteS.l0])
  | succ k1 =>
   have H := HA.out
   clear HA
   simp only [laws_markByteS.l0] at H
   by_cases c3 : x5_1 < (x0_1.length : Int)
   ·rw [if_pos c3] at H
    have c3b0 : decide (x5_1 < (x0_1.length : Int)) = true := decide_eq_true c3
    clear c3
    by_cases c4 : 0 ≤ x5_1
    ·rw [if_pos c4] at H
     have c4b0 : decide (0 ≤ x5_1) = true := decide_eq_true c4
     clear c4
     obtain ⟨y116, hy116⟩ : ∃ y_ : List Int, y_ = (x0_1.set (x5_1 : Int).toNat ((x1_1) % 256)) := ⟨_, rfl⟩
     replace H : (laws_markByteS.l0 k1 y116 (wrap64 (x1_1 + 1)) (wrap64 (x5_1 + 1))) = some (r1, r2) := by first | (rw [hy116]; with_reducible exact H) | (have H2_ := (Option.bind_some _ _).symm.trans H; rw [hy116]; with_reducible exact H2_) | (have H2_ := (Option.bind_some _ _).symm.trans H; with_reducible exact H2_) | with_reducible exact H | (rw [hy116]; exact H) | exact H
     have Ny116 := aC.mk hy116
     clear hy116
     have H' := aC.mk H
     clear H
     obtain ⟨Ao6, co6, eo6⟩ := Kd.R_slice HO_0.out
     subst eo6
     have p5 : 0 ≤ (x5_1 : Int) := lE (by first | (with_reducible assumption) | assumption)
     have q5 : (x5_1 : Int) < ((x0_1.length : Int) : Int) := lE (by first | (with_reducible assumption) | assumption)
     obtain ⟨go5, co5, eo5, gb5, gl5, cl5, HG5⟩ := Kd.R_form HO_0.out (by omega)
     (first | cases eo5 | (injection eo5 with ea_ en_ ec_; (first | subst ea_ | (injection ea_ with ea_; subst ea_)); subst ec_; clear en_))
     have GB5 := aC.mk gb5
     have GG5 := aC.mk HG5
     clear gb5 gl5 HG5
     have HMgo5 := aC.mk (show (P0_ go5 ∨ w.heap.size ≤ go5) from (HO_0.out.1 _ rfl))
     obtain ⟨hx5_0, hf5_0⟩ := Kd.R_celln 0 HO_0.out (x5_1 : Int) p5 q5
     replace p5 := eq_true p5
     replace q5 := eq_true q5
     have HP7 := Kd.R_putg HO_0.out (x5_1 : Int) ((x1_1) % 256)
     go_wp2_with (first | ((with_reducible refine bP (t := 5) (p := 16) rfl ?_); refine bK (t := 5) (p := 16) (v := ?vo_w8) (w1 := (wr.setCell ⟨go5, (x5_1 : Int).toNat, none⟩ (.int .u8 ((x1_1) % 256)))) ?hg ?ho ?hn ?hr ?_; (case ho => rfl); (case hg => rfl); (case hn => rfl); (case hr => first | (go_simp; done) | (go_simp; rfl)); intro w8 hw; have hg : wr.grownBy w8 (some go5) := (by rw [hw]; exact HP7.2); have hp_ : Kd.R (Kd.int .u8) 5 w8 w0.heap.size (fun k_ => (P0_ k_ ∨ w.heap.size ≤ k_)) (.slice (some ⟨go5, 0, none⟩) x0_1.length co6) y116 := (by rw [hw, Ny116.out]; exact HP7.1); clear HP7; have n0_ := aC.mk (hp_); have n1_ := aC.mk ((by rw [hw]; exact aG (HB.out) GB5.out : Below w0.heap.size w0 w8)); have n2_ := aC.mk (Kept.of_grown (S := (fun k_ => P0_ k_)) hg (by repeat (first | (with_reducible first | exact HK.out | apply Kept.alloc | apply Kept.drewN | apply Kept.drew) | exact HK.out)) (fun k_ e_ => (HO_0.out.1 k_ e_))); clear HO_0; clear HB; clear HK; have HO_0 := n0_; have HB := n1_; have HK := n2_; clear n0_ n1_ n2_; clear hg hw hp_))
     go_roundg k1
     case measure => have := HK1.out; omega
     case rel => exact ⟨(y116), (wrap64 (x1_1 + 1)), (wrap64 (x5_1 + 1)), (by first | rfl | (simp; done) | (simp [*]; done)), (by first | rfl | (simp; done) | (simp [*]; done)), H', ⟨by have := HK1.out; omega⟩, ⟨by (with_reducible repeat (first | apply Kd.R_alloc | apply Kd.R_drewN | apply Kd.R_drew)); exact HO_0.out⟩, ⟨by repeat (first | (with_reducible first | exact HK.out | apply Kept.alloc | apply Kept.drewN | apply Kept.drew) | exact HK.out)⟩, ⟨by repeat (first | (with_reducible first | exact HB.out | apply aJ | apply aE | apply aH) | exact HB.out)⟩⟩
    ·rw [if_neg c4] at H
     exact absurd H (by simp)
   ·rw [if_neg c3] at H
    have c3b0 : decide (x5_1 < (x0_1.length : Int)) = false := decide_eq_false c3
    clear c3
    simp only [Option.some.injEq, Prod.mk.injEq] at H
    obtain ⟨rfl, rfl⟩ := H
    obtain ⟨Ao9, co9, eo9⟩ := Kd.R_slice HO_0.out
    subst eo9
    go_wp2
    go_ret
    exact ⟨by first | rfl | (simp [errW_none, errW_some] <;> rfl) | (simp [*, errW_none, errW_some] <;> rfl), by (with_reducible repeat (first | apply Kd.R_alloc | apply Kd.R_drewN | apply Kd.R_drew)); exact HO_0.out, by repeat (first | (with_reducible first | exact HB.out | apply aJ | apply aE | apply aH) | exact HB.out), by repeat (first | (with_reducible first | exact HK.out | apply Kept.alloc | apply Kept.drewN | apply Kept.drew) | exact HK.out)⟩
-- NOT PRINTED: function 47 (laws_markByteSS)
-- NOT PRINTED: function 48 (laws_markWrS)
-- NOT PRINTED: function 15 (laws_markDev)
def laws_heldByteS.l0 : Nat → List Int → Int → Int → Option (Int)
 | 0, _, _, _ => none
 | k + 1, x0, x1, x5 => if x5 < (x0.length : Int) then (if 0 ≤ x5 then (if (rd x0 x5) = ((x1) % 256) then (laws_heldByteS.l0 k x0 (wrap64 (x1 + 1)) (wrap64 (x5 + 1))) else (some (-1))) else (none)) else (some x1)
def laws_heldByteS.f (k : Nat) (l0 : List Int) (a1 : Int) : Option (Int) := laws_heldByteS.l0 k l0 a1 0
set_option maxHeartbeats 8000000 in
set_option maxRecDepth 100000 in
theorem laws_heldByteS.calls (k : Nat) (A0 : Option Addr) (c0 : Nat) (l0 : List Int) (a1 : Int) (r : Int) (w : World) (hr0 : Kd.C (Kd.int .u8) w A0 l0.length l0) (hc0 : l0.length ≤ c0) (h : laws_heldByteS.f k l0 a1 = some r) :
  Calls Try.prog 25 #[.slice A0 l0.length c0, .int .i64 a1] w fun e w' => e = .returned (.int .i64 r) ∧ bD w w' := by
 have HR0 := aC.mk hr0
 have HC0 := aC.mk hc0
 clear hr0 hc0
 have H : (laws_heldByteS.l0 k l0 a1 0) = some r := h
 clear h
 have H' := aC.mk H
 clear H
 go_enter Try.func25, Try.ntmps25
 go_wp2
 go_loopg [1, 5] k (fun kq v1 v5 w' => ∃ (x1_1 : Int) (x5_1 : Int), v1 = .int .i64 x1_1 ∧ v5 = .int .i64 x5_1 ∧ aC (laws_heldByteS.l0 kq l0 x1_1 x5_1 = some r) ∧ aC (kq ≤ k) ∧ bD w w')
 case atStart => exact ⟨(a1), (0), (by first | rfl | (simp; done) | (simp [*]; done)), (by first | rfl | (simp; done) | (simp [*]; done)), H', ⟨Nat.le_refl _⟩, by repeat (first | exact bD.refl _ | apply bD.step)⟩
 case round =>
  clear H'
  try clear c2
  try clear p2
  obtain ⟨x1_1, x5_1, rfl, rfl, HA, HK1, ⟨m1, rfl⟩⟩ := hrel
  cases gk with
  | zero => exact absurd HA.out (by simp [laws_heldByteS.l0])
  | succ k1 =>
   have H := HA.out
   clear HA
   simp only [laws_heldByteS.l0] at H
   by_cases c3 : x5_1 < (l0.length : Int)
   ·rw [if_pos c3] at H
    have c3b0 : decide (x5_1 < (l0.length : Int)) = true := decide_eq_true c3
    clear c3
    by_cases c4 : 0 ≤ x5_1
    ·rw [if_pos c4] at H
     have c4b0 : decide (0 ≤ x5_1) = true := decide_eq_true c4
     clear c4
     by_cases c5 : (rd l0 x5_1) = ((x1_1) % 256)
     ·rw [if_pos c5] at H
      have c5b0 : ((rd l0 x5_1) == ((x1_1) % 256)) = true := beq_iff_eq.mpr c5
      have c5b1 : ((rd l0 x5_1) != ((x1_1) % 256)) = false := bne_eq_false_iff_eq.mpr c5
      clear c5
      have H' := aC.mk H
      clear H
      have p119 : 0 ≤ (x5_1 : Int) := lE (by first | (with_reducible assumption) | assumption)
      have q119 : x5_1 < (l0.length : Int) := lE (by first | (with_reducible assumption) | assumption)
      obtain ⟨ad119, e119, hx119_0⟩ := Kd.at_int HR0.out x5_1 p119 q119
      cases e119
      replace p119 := eq_true p119
      replace q119 := eq_true q119
      go_wp2
      go_roundg k1
      case measure => have := HK1.out; omega
      case rel => exact ⟨(wrap64 (x1_1 + 1)), (wrap64 (x5_1 + 1)), (by first | rfl | (simp; done) | (simp [*]; done)), (by first | rfl | (simp; done) | (simp [*]; done)), H', ⟨by have := HK1.out; omega⟩, by repeat (first | exact bD.refl _ | apply bD.step)⟩
     ·rw [if_neg c5] at H
      have c5b0 : ((rd l0 x5_1) == ((x1_1) % 256)) = false := beq_eq_false_iff_ne.mpr c5
      have c5b1 : ((rd l0 x5_1) != ((x1_1) % 256)) = true := bne_iff_ne.mpr c5
      obtain rfl := Option.some.inj H
      have p119 : 0 ≤ (x5_1 : Int) := lE (by first | (with_reducible assumption) | assumption)
      have q119 : x5_1 < (l0.length : Int) := lE (by first | (with_reducible assumption) | assumption)
      obtain ⟨ad119, e119, hx119_0⟩ := Kd.at_int HR0.out x5_1 p119 q119
      cases e119
      replace p119 := eq_true p119
      replace q119 := eq_true q119
      go_wp2
      go_ret
      exact ⟨by first | rfl | (simp; done) | (simp [*]; done), by repeat (first | exact bD.refl _ | apply bD.step)⟩
    ·rw [if_neg c4] at H
     exact absurd H (by simp)
   ·rw [if_neg c3] at H
    have c3b0 : decide (x5_1 < (l0.length : Int)) = false := decide_eq_false c3
    clear c3
    obtain rfl := Option.some.inj H
    go_wp2
    go_ret
    exact ⟨by first | rfl | (simp; done) | (simp [*]; done), by repeat (first | exact bD.refl _ | apply bD.step)⟩
def laws_heldByteSS.l0 : Nat → List (List Int) → Int → Int → Option (Int)
 | 0, _, _, _ => none
 | k + 1, x0, x1, x5 => if x5 < (x0.length : Int) then (if 0 ≤ x5 then ((laws_heldByteS.f k (rd_L1 x0 x5) x1).bind fun t121 => (if t121 < 0 then (some (-1)) else (laws_heldByteSS.l0 k x0 t121 (wrap64 (x5 + 1))))) else (none)) else (some x1)
def laws_heldByteSS.f (k : Nat) (l0 : List (List Int)) (a1 : Int) : Option (Int) := laws_heldByteSS.l0 k l0 a1 0
set_option maxHeartbeats 8000000 in
set_option maxRecDepth 100000 in
theorem laws_heldByteSS.calls (k : Nat) (A0 : Option Addr) (c0 : Nat) (l0 : List (List Int)) (a1 : Int) (r : Int) (w : World) (hr0 : Kd.C (Kd.slice 5 (Kd.int .u8)) w A0 l0.length l0) (hc0 : l0.length ≤ c0) (h : laws_heldByteSS.f k l0 a1 = some r) :
  Calls Try.prog 49 #[.slice A0 l0.length c0, .int .i64 a1] w fun e w' => e = .returned (.int .i64 r) ∧ bD w w' := by
 have HR0 := aC.mk hr0
 have HC0 := aC.mk hc0
 clear hr0 hc0
 have H : (laws_heldByteSS.l0 k l0 a1 0) = some r := h
 clear h
 have H' := aC.mk H
 clear H
 go_enter Try.func49, Try.ntmps49
 go_wp2
 go_loopg [1, 5] k (fun kq v1 v5 w' => ∃ (x1_1 : Int) (x5_1 : Int), v1 = .int .i64 x1_1 ∧ v5 = .int .i64 x5_1 ∧ aC (laws_heldByteSS.l0 kq l0 x1_1 x5_1 = some r) ∧ aC (kq ≤ k) ∧ bD w w')
 case atStart => exact ⟨(a1), (0), (by first | rfl | (simp; done) | (simp [*]; done)), (by first | rfl | (simp; done) | (simp [*]; done)), H', ⟨Nat.le_refl _⟩, by repeat (first | exact bD.refl _ | apply bD.step)⟩
 case round =>
  clear H'
  try clear p2
  obtain ⟨x1_1, x5_1, rfl, rfl, HA, HK1, ⟨m1, rfl⟩⟩ := hrel
  cases gk with
  | zero => exact absurd HA.out (by simp [laws_heldByteSS.l0])
  | succ k1 =>
   have H := HA.out
   clear HA
   simp only [laws_heldByteSS.l0] at H
   by_cases c3 : x5_1 < (l0.length : Int)
   ·rw [if_pos c3] at H
    have c3b0 : decide (x5_1 < (l0.length : Int)) = true := decide_eq_true c3
    clear c3
    by_cases c4 : 0 ≤ x5_1
    ·rw [if_pos c4] at H
     have c4b0 : decide (0 ≤ x5_1) = true := decide_eq_true c4
     clear c4
     replace H := lF H
     obtain ⟨t121, A50, H⟩ := H
     replace H : (if t121 < 0 then (some (-1)) else (laws_heldByteSS.l0 k1 l0 t121 (wrap64 (x5_1 + 1)))) = some r := H
     have A5 := aC.mk A50
     clear A50
     by_cases c6 : t121 < 0
     ·rw [if_pos c6] at H
      have c6b0 : decide (t121 < 0) = true := decide_eq_true c6
      clear c6
      obtain rfl := Option.some.inj H
      have p120 : 0 ≤ (x5_1 : Int) := lE (by first | (with_reducible assumption) | assumption)
      have q120 : x5_1 < (l0.length : Int) := lE (by first | (with_reducible assumption) | assumption)
      obtain ⟨ad120, A120_0, c120_0, e120, hx120_0, hl120_0, hi120_0⟩ := at_L1 HR0.out x5_1 p120 q120
      cases e120
      have HR120_0 := aC.mk hi120_0
      have HC120_0 := aC.mk hl120_0
      clear hi120_0 hl120_0
      replace p120 := eq_true p120
      replace q120 := eq_true q120
      go_wp2_with (first | ((with_reducible refine aY (f := 25) rfl ?_); refine bJ (some 17) rfl rfl Try.func25 (by kernel_rfl) rfl #[.slice A120_0 (rd_L1 l0 x5_1).length c120_0, .int .i64 x1_1] rfl (by (try simp only [List.map_toArray, List.map_cons, List.map_nil]); first | done | rfl | (simp only [List.length_drop, List.length_take]; rfl)) ?_; (with_reducible refine (laws_heldByteS.calls k1 _ _ (rd_L1 l0 x5_1) x1_1 t121 _ ?side1 ?side2 A5.out).mono ?_); (case side1 => repeat (first | exact HR120_0.out | (with_reducible refine Kd.bN ?_ _) | (with_reducible refine Kd.bM ?_ _) | (with_reducible refine Kd.bQ ?_))); (case side2 => exact HC120_0.out); rintro e w' ⟨rfl, ⟨nd, rfl⟩⟩; refine ⟨_, rfl, ?_⟩))
      go_ret
      exact ⟨by first | rfl | (simp; done) | (simp [*]; done), by repeat (first | exact bD.refl _ | apply bD.step)⟩
     ·rw [if_neg c6] at H
      have c6b0 : decide (t121 < 0) = false := decide_eq_false c6
      clear c6
      have H' := aC.mk H
      clear H
      have p120 : 0 ≤ (x5_1 : Int) := lE (by first | (with_reducible assumption) | assumption)
      have q120 : x5_1 < (l0.length : Int) := lE (by first | (with_reducible assumption) | assumption)
      obtain ⟨ad120, A120_0, c120_0, e120, hx120_0, hl120_0, hi120_0⟩ := at_L1 HR0.out x5_1 p120 q120
      cases e120
      have HR120_0 := aC.mk hi120_0
      have HC120_0 := aC.mk hl120_0
      clear hi120_0 hl120_0
      replace p120 := eq_true p120
      replace q120 := eq_true q120
      go_wp2_with (first | ((with_reducible refine aY (f := 25) rfl ?_); refine bJ (some 17) rfl rfl Try.func25 (by kernel_rfl) rfl #[.slice A120_0 (rd_L1 l0 x5_1).length c120_0, .int .i64 x1_1] rfl (by (try simp only [List.map_toArray, List.map_cons, List.map_nil]); first | done | rfl | (simp only [List.length_drop, List.length_take]; rfl)) ?_; (with_reducible refine (laws_heldByteS.calls k1 _ _ (rd_L1 l0 x5_1) x1_1 t121 _ ?side1 ?side2 A5.out).mono ?_); (case side1 => repeat (first | exact HR120_0.out | (with_reducible refine Kd.bN ?_ _) | (with_reducible refine Kd.bM ?_ _) | (with_reducible refine Kd.bQ ?_))); (case side2 => exact HC120_0.out); rintro e w' ⟨rfl, ⟨nd, rfl⟩⟩; refine ⟨_, rfl, ?_⟩))
      go_roundg k1
      case measure => have := HK1.out; omega
      case rel => exact ⟨(t121), (wrap64 (x5_1 + 1)), (by first | rfl | (simp; done) | (simp [*]; done)), (by first | rfl | (simp; done) | (simp [*]; done)), H', ⟨by have := HK1.out; omega⟩, by repeat (first | exact bD.refl _ | apply bD.step)⟩
    ·rw [if_neg c4] at H
     exact absurd H (by simp)
   ·rw [if_neg c3] at H
    have c3b0 : decide (x5_1 < (l0.length : Int)) = false := decide_eq_false c3
    clear c3
    obtain rfl := Option.some.inj H
    go_wp2
    go_ret
    exact ⟨by first | rfl | (simp; done) | (simp [*]; done), by repeat (first | exact bD.refl _ | apply bD.step)⟩
def laws_heldWrS.l0 : Nat → List (S50) → Int → Int → Option (Int)
 | 0, _, _, _ => none
 | k + 1, x0, x1, x5 => if x5 < (x0.length : Int) then (if 0 ≤ x5 then (if ((rd_T50 x0 x5).f0) = x1 then ((laws_heldByteS.f k ((rd_T50 x0 x5).f1) (wrap64 (x1 + 1))).bind fun t124 => (if t124 < 0 then (some (-1)) else (laws_heldWrS.l0 k x0 t124 (wrap64 (x5 + 1))))) else (some (-1))) else (none)) else (some x1)
def laws_heldWrS.f (k : Nat) (l0 : List (S50)) (a1 : Int) : Option (Int) := laws_heldWrS.l0 k l0 a1 0
set_option maxHeartbeats 8000000 in
set_option maxRecDepth 100000 in
theorem laws_heldWrS.calls (k : Nat) (A0 : Option Addr) (c0 : Nat) (l0 : List (S50)) (a1 : Int) (r : Int) (w : World) (hr0 : Kd.C k50 w A0 l0.length l0) (hc0 : l0.length ≤ c0) (h : laws_heldWrS.f k l0 a1 = some r) :
  Calls Try.prog 50 #[.slice A0 l0.length c0, .int .i64 a1] w fun e w' => e = .returned (.int .i64 r) ∧ bD w w' := by
 have HR0 := aC.mk hr0
 have HC0 := aC.mk hc0
 clear hr0 hc0
 have H : (laws_heldWrS.l0 k l0 a1 0) = some r := h
 clear h
 have H' := aC.mk H
 clear H
 go_enter Try.func50, Try.ntmps50
 go_wp2
 go_loopg [1, 5] k (fun kq v1 v5 w' => ∃ (x1_1 : Int) (x5_1 : Int), v1 = .int .i64 x1_1 ∧ v5 = .int .i64 x5_1 ∧ aC (laws_heldWrS.l0 kq l0 x1_1 x5_1 = some r) ∧ aC (kq ≤ k) ∧ bD w w')
 case atStart => exact ⟨(a1), (0), (by first | rfl | (simp; done) | (simp [*]; done)), (by first | rfl | (simp; done) | (simp [*]; done)), H', ⟨Nat.le_refl _⟩, by repeat (first | exact bD.refl _ | apply bD.step)⟩
 case round =>
  clear H'
  try clear p2
  obtain ⟨x1_1, x5_1, rfl, rfl, HA, HK1, ⟨m1, rfl⟩⟩ := hrel
  cases gk with
  | zero => exact absurd HA.out (by simp [laws_heldWrS.l0])
  | succ k1 =>
   have H := HA.out
   clear HA
   simp only [laws_heldWrS.l0] at H
   by_cases c3 : x5_1 < (l0.length : Int)
   ·rw [if_pos c3] at H
    have c3b0 : decide (x5_1 < (l0.length : Int)) = true := decide_eq_true c3
    clear c3
    by_cases c4 : 0 ≤ x5_1
    ·rw [if_pos c4] at H
     have c4b0 : decide (0 ≤ x5_1) = true := decide_eq_true c4
     clear c4
     by_cases c5 : ((rd_T50 l0 x5_1).f0) = x1_1
     ·rw [if_pos c5] at H
      have c5b0 : (((rd_T50 l0 x5_1).f0) == x1_1) = true := beq_iff_eq.mpr c5
      have c5b1 : (((rd_T50 l0 x5_1).f0) != x1_1) = false := bne_eq_false_iff_eq.mpr c5
      clear c5
      replace H := lF H
      obtain ⟨t124, A60, H⟩ := H
      replace H : (if t124 < 0 then (some (-1)) else (laws_heldWrS.l0 k1 l0 t124 (wrap64 (x5_1 + 1)))) = some r := H
      have A6 := aC.mk A60
      clear A60
      by_cases c7 : t124 < 0
      ·rw [if_pos c7] at H
       have c7b0 : decide (t124 < 0) = true := decide_eq_true c7
       clear c7
       obtain rfl := Option.some.inj H
       have p122 : 0 ≤ (x5_1 : Int) := lE (by first | (with_reducible assumption) | assumption)
       have q122 : x5_1 < (l0.length : Int) := lE (by first | (with_reducible assumption) | assumption)
       obtain ⟨ad122, A122_1, c122_1, e122, hx122_0, hx122_1, hl122_1, hi122_1⟩ := at_T50 HR0.out x5_1 p122 q122
       cases e122
       have HR122_1 := aC.mk hi122_1
       have HC122_1 := aC.mk hl122_1
       clear hi122_1 hl122_1
       replace p122 := eq_true p122
       replace q122 := eq_true q122
       have p123 : 0 ≤ (x5_1 : Int) := lE (by first | (with_reducible assumption) | assumption)
       have q123 : x5_1 < (l0.length : Int) := lE (by first | (with_reducible assumption) | assumption)
       obtain ⟨ad123, A123_1, c123_1, e123, hx123_0, hx123_1, hl123_1, hi123_1⟩ := at_T50 HR0.out x5_1 p123 q123
       obtain rfl : ad122 = ad123 := (by injection e123)
       have HR123_1 := aC.mk hi123_1
       have HC123_1 := aC.mk hl123_1
       clear hi123_1 hl123_1
       replace p123 := eq_true p123
       replace q123 := eq_true q123
       have ea_ := Option.some.inj (hx122_1.symm.trans hx123_1)
       injection ea_ with ea_ en_ ec_
       subst ea_
       subst ec_
       clear en_
       go_wp2_with (first | ((with_reducible refine aY (f := 25) rfl ?_); refine bJ (some 27) rfl rfl Try.func25 (by kernel_rfl) rfl #[.slice A122_1 ((rd_T50 l0 x5_1).f1).length c122_1, .int .i64 (wrap64 (x1_1 + 1))] rfl (by (try simp only [List.map_toArray, List.map_cons, List.map_nil]); first | done | rfl | (simp only [List.length_drop, List.length_take]; rfl)) ?_; (with_reducible refine (laws_heldByteS.calls k1 _ _ ((rd_T50 l0 x5_1).f1) (wrap64 (x1_1 + 1)) t124 _ ?side1 ?side2 A6.out).mono ?_); (case side1 => repeat (first | exact HR123_1.out | (with_reducible refine Kd.bN ?_ _) | (with_reducible refine Kd.bM ?_ _) | (with_reducible refine Kd.bQ ?_))); (case side2 => exact HC123_1.out); rintro e w' ⟨rfl, ⟨nd, rfl⟩⟩; refine ⟨_, rfl, ?_⟩))
       go_ret
       exact ⟨by first | rfl | (simp; done) | (simp [*]; done), by repeat (first | exact bD.refl _ | apply bD.step)⟩
      ·rw [if_neg c7] at H
       have c7b0 : decide (t124 < 0) = false := decide_eq_false c7
       clear c7
       have H' := aC.mk H
       clear H
       have p122 : 0 ≤ (x5_1 : Int) := lE (by first | (with_reducible assumption) | assumption)
       have q122 : x5_1 < (l0.length : Int) := lE (by first | (with_reducible assumption) | assumption)
       obtain ⟨ad122, A122_1, c122_1, e122, hx122_0, hx122_1, hl122_1, hi122_1⟩ := at_T50 HR0.out x5_1 p122 q122
       cases e122
       have HR122_1 := aC.mk hi122_1
       have HC122_1 := aC.mk hl122_1
       clear hi122_1 hl122_1
       replace p122 := eq_true p122
       replace q122 := eq_true q122
       have p123 : 0 ≤ (x5_1 : Int) := lE (by first | (with_reducible assumption) | assumption)
       have q123 : x5_1 < (l0.length : Int) := lE (by first | (with_reducible assumption) | assumption)
       obtain ⟨ad123, A123_1, c123_1, e123, hx123_0, hx123_1, hl123_1, hi123_1⟩ := at_T50 HR0.out x5_1 p123 q123
       obtain rfl : ad122 = ad123 := (by injection e123)
       have HR123_1 := aC.mk hi123_1
       have HC123_1 := aC.mk hl123_1
       clear hi123_1 hl123_1
       replace p123 := eq_true p123
       replace q123 := eq_true q123
       have ea_ := Option.some.inj (hx122_1.symm.trans hx123_1)
       injection ea_ with ea_ en_ ec_
       subst ea_
       subst ec_
       clear en_
       go_wp2_with (first | ((with_reducible refine aY (f := 25) rfl ?_); refine bJ (some 27) rfl rfl Try.func25 (by kernel_rfl) rfl #[.slice A122_1 ((rd_T50 l0 x5_1).f1).length c122_1, .int .i64 (wrap64 (x1_1 + 1))] rfl (by (try simp only [List.map_toArray, List.map_cons, List.map_nil]); first | done | rfl | (simp only [List.length_drop, List.length_take]; rfl)) ?_; (with_reducible refine (laws_heldByteS.calls k1 _ _ ((rd_T50 l0 x5_1).f1) (wrap64 (x1_1 + 1)) t124 _ ?side1 ?side2 A6.out).mono ?_); (case side1 => repeat (first | exact HR123_1.out | (with_reducible refine Kd.bN ?_ _) | (with_reducible refine Kd.bM ?_ _) | (with_reducible refine Kd.bQ ?_))); (case side2 => exact HC123_1.out); rintro e w' ⟨rfl, ⟨nd, rfl⟩⟩; refine ⟨_, rfl, ?_⟩))
       go_roundg k1
       case measure => have := HK1.out; omega
       case rel => exact ⟨(t124), (wrap64 (x5_1 + 1)), (by first | rfl | (simp; done) | (simp [*]; done)), (by first | rfl | (simp; done) | (simp [*]; done)), H', ⟨by have := HK1.out; omega⟩, by repeat (first | exact bD.refl _ | apply bD.step)⟩
     ·rw [if_neg c5] at H
      have c5b0 : (((rd_T50 l0 x5_1).f0) == x1_1) = false := beq_eq_false_iff_ne.mpr c5
      have c5b1 : (((rd_T50 l0 x5_1).f0) != x1_1) = true := bne_iff_ne.mpr c5
      obtain rfl := Option.some.inj H
      have p122 : 0 ≤ (x5_1 : Int) := lE (by first | (with_reducible assumption) | assumption)
      have q122 : x5_1 < (l0.length : Int) := lE (by first | (with_reducible assumption) | assumption)
      obtain ⟨ad122, A122_1, c122_1, e122, hx122_0, hx122_1, hl122_1, hi122_1⟩ := at_T50 HR0.out x5_1 p122 q122
      cases e122
      have HR122_1 := aC.mk hi122_1
      have HC122_1 := aC.mk hl122_1
      clear hi122_1 hl122_1
      replace p122 := eq_true p122
      replace q122 := eq_true q122
      go_wp2
      go_ret
      exact ⟨by first | rfl | (simp; done) | (simp [*]; done), by repeat (first | exact bD.refl _ | apply bD.step)⟩
    ·rw [if_neg c4] at H
     exact absurd H (by simp)
   ·rw [if_neg c3] at H
    have c3b0 : decide (x5_1 < (l0.length : Int)) = false := decide_eq_false c3
    clear c3
    obtain rfl := Option.some.inj H
    go_wp2
    go_ret
    exact ⟨by first | rfl | (simp; done) | (simp [*]; done), by repeat (first | exact bD.refl _ | apply bD.step)⟩
def laws_heldDev.f (k : Nat) (l0_0 : List (List Int)) (l0_1 : List (S50)) (a0_2 : Int) (a0_3 : Bool) (a1 : Int) : Option (Int) := (laws_heldByteSS.f k l0_0 a1).bind fun t126 => (if t126 < 0 then (some (-1)) else ((laws_heldWrS.f k l0_1 t126).bind fun t127 => (if t127 < 0 then (some (-1)) else (some t127))))
set_option maxHeartbeats 8000000 in
set_option maxRecDepth 100000 in
theorem laws_heldDev.calls (k : Nat) (A0_0 : Option Addr) (c0_0 : Nat) (l0_0 : List (List Int)) (A0_1 : Option Addr) (c0_1 : Nat) (l0_1 : List (S50)) (a0_2 : Int) (a0_3 : Bool) (a1 : Int) (r : Int) (w : World) (hr0_0 : Kd.C (Kd.slice 5 (Kd.int .u8)) w A0_0 l0_0.length l0_0) (hc0_0 : l0_0.length ≤ c0_0) (hr0_1 : Kd.C k50 w A0_1 l0_1.length l0_1) (hc0_1 : l0_1.length ≤ c0_1) (h : laws_heldDev.f k l0_0 l0_1 a0_2 a0_3 a1 = some r) :
  Calls Try.prog 16 #[.agg #[.slice A0_0 l0_0.length c0_0, .slice A0_1 l0_1.length c0_1, .int .i64 a0_2, .bool a0_3], .int .i64 a1] w fun e w' => e = .returned (.int .i64 r) ∧ Below w.heap.size w w' := by
 have hu25 := Try.underlying25
 have HR0_0 := aC.mk hr0_0
 have HC0_0 := aC.mk hc0_0
 clear hr0_0 hc0_0
 have HR0_1 := aC.mk hr0_1
 have HC0_1 := aC.mk hc0_1
 clear hr0_1 hc0_1
 have HB := aC.mk (Below.refl w.heap.size w)
 have H : ((laws_heldByteSS.f k l0_0 a1).bind fun t126 => (if t126 < 0 then (some (-1)) else ((laws_heldWrS.f k l0_1 t126).bind fun t127 => (if t127 < 0 then (some (-1)) else (some t127))))) = some r := h
 clear h
 replace H := lF H
 obtain ⟨t126, A30, H⟩ := H
 replace H : (if t126 < 0 then (some (-1)) else ((laws_heldWrS.f k l0_1 t126).bind fun t127 => (if t127 < 0 then (some (-1)) else (some t127)))) = some r := H
 have A3 := aC.mk A30
 clear A30
 by_cases c4 : t126 < 0
 ·rw [if_pos c4] at H
  have c4b0 : decide (t126 < 0) = true := decide_eq_true c4
  clear c4
  obtain rfl := Option.some.inj H
  go_enter Try.func16, Try.ntmps16
  go_wp2_with (first | ((with_reducible refine bC (N := 2) rfl ?_); refine bB ?hg (N := 2) ?hd (cs := #[.slice A0_0 l0_0.length c0_0, .slice A0_1 l0_1.length c0_1, .int .i64 a0_2, .bool a0_3]) (t := 25) ?hr ?_; (case hd => rfl); (case hg => rfl); (case hr => first | (go_simp; done) | (go_simp; rfl)); intro gb125 hg w5 hbox hb; have n0_ := aC.mk (aV (by repeat (first | (with_reducible first | exact HB.out | apply aJ | apply aE | apply aH) | exact HB.out)) hb); have n1_ := aC.mk (hbox); have n2_ := aC.mk ((by rw [hg]; exact (aW (by repeat (first | (with_reducible first | exact HB.out | apply aJ | apply aE | apply aH) | exact HB.out))) : w.heap.size ≤ gb125)); have n3_ := aC.mk ((by rw [hg]; exact (aW (by repeat (first | (with_reducible first | exact HB.out | apply aJ | apply aE | apply aH) | exact HB.out))) : w.heap.size ≤ gb125)); clear HB; have HB := n0_; have BK125 := n1_; have GW125 := n2_; have GE125 := n3_; clear n0_ n1_ n2_ n3_; clear hb hbox hg; have hcz6_0 : w5.cell? ⟨gb125, 0, none⟩ = some (.slice A0_0 l0_0.length c0_0) := (aD BK125.out 0).trans rfl; have hcz6_1 : w5.cell? ⟨gb125, 1, none⟩ = some (.slice A0_1 l0_1.length c0_1) := (aD BK125.out 1).trans rfl; have hcz6_2 : w5.cell? ⟨gb125, 2, none⟩ = some (.int .i64 a0_2) := (aD BK125.out 2).trans rfl; have hcz6_3 : w5.cell? ⟨gb125, 3, none⟩ = some (.bool a0_3) := (aD BK125.out 3).trans rfl; have hfz6_0 := aA BK125.out 0; have hfz6_1 := aA BK125.out 1; have hfz6_2 := aA BK125.out 2; have hfz6_3 := aA BK125.out 3) | ((with_reducible refine aY (f := 49) rfl ?_); refine bJ (some 8) rfl rfl Try.func49 (by kernel_rfl) rfl #[.slice A0_0 l0_0.length c0_0, .int .i64 a1] rfl (by (try simp only [List.map_toArray, List.map_cons, List.map_nil]); first | done | rfl | (simp only [List.length_drop, List.length_take]; rfl)) ?_; (with_reducible refine (laws_heldByteSS.calls k _ _ l0_0 a1 t126 _ ?side1 ?side2 A3.out).mono ?_); (case side1 => repeat (first | exact (Kd.bL HR0_0.out HB.out) | (with_reducible refine Kd.bN ?_ _) | (with_reducible refine Kd.bM ?_ _) | (with_reducible refine Kd.bQ ?_))); (case side2 => exact HC0_0.out); rintro e w' ⟨rfl, ⟨nd, rfl⟩⟩; refine ⟨_, rfl, ?_⟩))
  go_ret
  exact ⟨by first | rfl | (simp [errW_none, errW_some] <;> rfl) | (simp [*, errW_none, errW_some] <;> rfl), by repeat (first | (with_reducible first | exact HB.out | apply aJ | apply aE | apply aH | refine aG ?_ GE125.out) | exact HB.out)⟩
 ·rw [if_neg c4] at H
  have c4b0 : decide (t126 < 0) = false := decide_eq_false c4
  clear c4
  replace H := lF H
  obtain ⟨t127, A70, H⟩ := H
  replace H : (if t127 < 0 then (some (-1)) else (some t127)) = some r := H
  have A7 := aC.mk A70
  clear A70
  by_cases c8 : t127 < 0
  ·rw [if_pos c8] at H
   have c8b0 : decide (t127 < 0) = true := decide_eq_true c8
   clear c8
   obtain rfl := Option.some.inj H
   go_enter Try.func16, Try.ntmps16
   go_wp2_with (first | ((with_reducible refine bC (N := 2) rfl ?_); refine bB ?hg (N := 2) ?hd (cs := #[.slice A0_0 l0_0.length c0_0, .slice A0_1 l0_1.length c0_1, .int .i64 a0_2, .bool a0_3]) (t := 25) ?hr ?_; (case hd => rfl); (case hg => rfl); (case hr => first | (go_simp; done) | (go_simp; rfl)); intro gb125 hg w9 hbox hb; have n0_ := aC.mk (aV (by repeat (first | (with_reducible first | exact HB.out | apply aJ | apply aE | apply aH) | exact HB.out)) hb); have n1_ := aC.mk (hbox); have n2_ := aC.mk ((by rw [hg]; exact (aW (by repeat (first | (with_reducible first | exact HB.out | apply aJ | apply aE | apply aH) | exact HB.out))) : w.heap.size ≤ gb125)); have n3_ := aC.mk ((by rw [hg]; exact (aW (by repeat (first | (with_reducible first | exact HB.out | apply aJ | apply aE | apply aH) | exact HB.out))) : w.heap.size ≤ gb125)); clear HB; have HB := n0_; have BK125 := n1_; have GW125 := n2_; have GE125 := n3_; clear n0_ n1_ n2_ n3_; clear hb hbox hg; have hcz10_0 : w9.cell? ⟨gb125, 0, none⟩ = some (.slice A0_0 l0_0.length c0_0) := (aD BK125.out 0).trans rfl; have hcz10_1 : w9.cell? ⟨gb125, 1, none⟩ = some (.slice A0_1 l0_1.length c0_1) := (aD BK125.out 1).trans rfl; have hcz10_2 : w9.cell? ⟨gb125, 2, none⟩ = some (.int .i64 a0_2) := (aD BK125.out 2).trans rfl; have hcz10_3 : w9.cell? ⟨gb125, 3, none⟩ = some (.bool a0_3) := (aD BK125.out 3).trans rfl; have hfz10_0 := aA BK125.out 0; have hfz10_1 := aA BK125.out 1; have hfz10_2 := aA BK125.out 2; have hfz10_3 := aA BK125.out 3) | ((with_reducible refine aY (f := 49) rfl ?_); refine bJ (some 8) rfl rfl Try.func49 (by kernel_rfl) rfl #[.slice A0_0 l0_0.length c0_0, .int .i64 a1] rfl (by (try simp only [List.map_toArray, List.map_cons, List.map_nil]); first | done | rfl | (simp only [List.length_drop, List.length_take]; rfl)) ?_; (with_reducible refine (laws_heldByteSS.calls k _ _ l0_0 a1 t126 _ ?side1 ?side2 A3.out).mono ?_); (case side1 => repeat (first | exact (Kd.bL HR0_0.out HB.out) | (with_reducible refine Kd.bN ?_ _) | (with_reducible refine Kd.bM ?_ _) | (with_reducible refine Kd.bQ ?_))); (case side2 => exact HC0_0.out); rintro e w' ⟨rfl, ⟨nd, rfl⟩⟩; refine ⟨_, rfl, ?_⟩) | ((with_reducible refine aY (f := 50) rfl ?_); refine bJ (some 14) rfl rfl Try.func50 (by kernel_rfl) rfl #[.slice A0_1 l0_1.length c0_1, .int .i64 t126] rfl (by (try simp only [List.map_toArray, List.map_cons, List.map_nil]); first | done | rfl | (simp only [List.length_drop, List.length_take]; rfl)) ?_; (with_reducible refine (laws_heldWrS.calls k _ _ l0_1 t126 t127 _ ?side1 ?side2 A7.out).mono ?_); (case side1 => repeat (first | exact (Kd.bL HR0_1.out (by repeat (first | (with_reducible first | exact HB.out | apply aJ | apply aE | apply aH | refine aG ?_ GE125.out) | exact HB.out))) | (with_reducible refine Kd.bN ?_ _) | (with_reducible refine Kd.bM ?_ _) | (with_reducible refine Kd.bQ ?_))); (case side2 => exact HC0_1.out); rintro e w' ⟨rfl, ⟨nd, rfl⟩⟩; refine ⟨_, rfl, ?_⟩))
   go_ret
   exact ⟨by first | rfl | (simp [errW_none, errW_some] <;> rfl) | (simp [*, errW_none, errW_some] <;> rfl), by repeat (first | (with_reducible first | exact HB.out | apply aJ | apply aE | apply aH | refine aG ?_ GE125.out) | exact HB.out)⟩
  ·rw [if_neg c8] at H
   have c8b0 : decide (t127 < 0) = false := decide_eq_false c8
   clear c8
   obtain rfl := Option.some.inj H
   go_enter Try.func16, Try.ntmps16
   go_wp2_with (first | ((with_reducible refine bC (N := 2) rfl ?_); refine bB ?hg (N := 2) ?hd (cs := #[.slice A0_0 l0_0.length c0_0, .slice A0_1 l0_1.length c0_1, .int .i64 a0_2, .bool a0_3]) (t := 25) ?hr ?_; (case hd => rfl); (case hg => rfl); (case hr => first | (go_simp; done) | (go_simp; rfl)); intro gb125 hg w11 hbox hb; have n0_ := aC.mk (aV (by repeat (first | (with_reducible first | exact HB.out | apply aJ | apply aE | apply aH) | exact HB.out)) hb); have n1_ := aC.mk (hbox); have n2_ := aC.mk ((by rw [hg]; exact (aW (by repeat (first | (with_reducible first | exact HB.out | apply aJ | apply aE | apply aH) | exact HB.out))) : w.heap.size ≤ gb125)); have n3_ := aC.mk ((by rw [hg]; exact (aW (by repeat (first | (with_reducible first | exact HB.out | apply aJ | apply aE | apply aH) | exact HB.out))) : w.heap.size ≤ gb125)); clear HB; have HB := n0_; have BK125 := n1_; have GW125 := n2_; have GE125 := n3_; clear n0_ n1_ n2_ n3_; clear hb hbox hg; have hcz12_0 : w11.cell? ⟨gb125, 0, none⟩ = some (.slice A0_0 l0_0.length c0_0) := (aD BK125.out 0).trans rfl; have hcz12_1 : w11.cell? ⟨gb125, 1, none⟩ = some (.slice A0_1 l0_1.length c0_1) := (aD BK125.out 1).trans rfl; have hcz12_2 : w11.cell? ⟨gb125, 2, none⟩ = some (.int .i64 a0_2) := (aD BK125.out 2).trans rfl; have hcz12_3 : w11.cell? ⟨gb125, 3, none⟩ = some (.bool a0_3) := (aD BK125.out 3).trans rfl; have hfz12_0 := aA BK125.out 0; have hfz12_1 := aA BK125.out 1; have hfz12_2 := aA BK125.out 2; have hfz12_3 := aA BK125.out 3) | ((with_reducible refine aY (f := 49) rfl ?_); refine bJ (some 8) rfl rfl Try.func49 (by kernel_rfl) rfl #[.slice A0_0 l0_0.length c0_0, .int .i64 a1] rfl (by (try simp only [List.map_toArray, List.map_cons, List.map_nil]); first | done | rfl | (simp only [List.length_drop, List.length_take]; rfl)) ?_; (with_reducible refine (laws_heldByteSS.calls k _ _ l0_0 a1 t126 _ ?side1 ?side2 A3.out).mono ?_); (case side1 => repeat (first | exact (Kd.bL HR0_0.out HB.out) | (with_reducible refine Kd.bN ?_ _) | (with_reducible refine Kd.bM ?_ _) | (with_reducible refine Kd.bQ ?_))); (case side2 => exact HC0_0.out); rintro e w' ⟨rfl, ⟨nd, rfl⟩⟩; refine ⟨_, rfl, ?_⟩) | ((with_reducible refine aY (f := 50) rfl ?_); refine bJ (some 14) rfl rfl Try.func50 (by kernel_rfl) rfl #[.slice A0_1 l0_1.length c0_1, .int .i64 t126] rfl (by (try simp only [List.map_toArray, List.map_cons, List.map_nil]); first | done | rfl | (simp only [List.length_drop, List.length_take]; rfl)) ?_; (with_reducible refine (laws_heldWrS.calls k _ _ l0_1 t126 t127 _ ?side1 ?side2 A7.out).mono ?_); (case side1 => repeat (first | exact (Kd.bL HR0_1.out (by repeat (first | (with_reducible first | exact HB.out | apply aJ | apply aE | apply aH | refine aG ?_ GE125.out) | exact HB.out))) | (with_reducible refine Kd.bN ?_ _) | (with_reducible refine Kd.bM ?_ _) | (with_reducible refine Kd.bQ ?_))); (case side2 => exact HC0_1.out); rintro e w' ⟨rfl, ⟨nd, rfl⟩⟩; refine ⟨_, rfl, ?_⟩))
   go_ret
   exact ⟨by first | rfl | (simp [errW_none, errW_some] <;> rfl) | (simp [*, errW_none, errW_some] <;> rfl), by repeat (first | (with_reducible first | exact HB.out | apply aJ | apply aE | apply aH | refine aG ?_ GE125.out) | exact HB.out)⟩
def laws_szByteS.f (l0 : List Int) (a1 : Int) : Option (Int) := if (wrap64 (a1 - (l0.length : Int))) < 0 then (some (-1)) else (some (wrap64 (a1 - (l0.length : Int))))
set_option maxHeartbeats 8000000 in
set_option maxRecDepth 100000 in
theorem laws_szByteS.calls (A0 : Option Addr) (c0 : Nat) (l0 : List Int) (a1 : Int) (r : Int) (w : World) (hr0 : Kd.C (Kd.int .u8) w A0 l0.length l0) (hc0 : l0.length ≤ c0) (h : laws_szByteS.f l0 a1 = some r) :
  Calls Try.prog 69 #[.slice A0 l0.length c0, .int .i64 a1] w fun e w' => e = .returned (.int .i64 r) ∧ bD w w' := by
 have HR0 := aC.mk hr0
 have HC0 := aC.mk hc0
 clear hr0 hc0
 have H : (if (wrap64 (a1 - (l0.length : Int))) < 0 then (some (-1)) else (some (wrap64 (a1 - (l0.length : Int))))) = some r := h
 clear h
 by_cases c3 : (wrap64 (a1 - (l0.length : Int))) < 0
 ·rw [if_pos c3] at H
  have c3b0 : decide ((wrap64 (a1 - (l0.length : Int))) < 0) = true := decide_eq_true c3
  clear c3
  obtain rfl := Option.some.inj H
  go_enter Try.func69, Try.ntmps69
  go_wp2
  go_ret
  exact ⟨by first | rfl | (simp; done) | (simp [*]; done), by repeat (first | exact bD.refl _ | apply bD.step)⟩
 ·rw [if_neg c3] at H
  have c3b0 : decide ((wrap64 (a1 - (l0.length : Int))) < 0) = false := decide_eq_false c3
  clear c3
  obtain rfl := Option.some.inj H
  go_enter Try.func69, Try.ntmps69
  go_wp2
  go_ret
  exact ⟨by first | rfl | (simp; done) | (simp [*]; done), by repeat (first | exact bD.refl _ | apply bD.step)⟩
def laws_szByteSS.l0 : Nat → List (List Int) → Int → Int → Option (Int)
 | 0, _, _, _ => none
 | k + 1, x0, x1, x5 => if x5 < (x0.length : Int) then (if 0 ≤ x5 then ((laws_szByteS.f (rd_L1 x0 x5) x1).bind fun t129 => (if t129 < 0 then (some (-1)) else (laws_szByteSS.l0 k x0 t129 (wrap64 (x5 + 1))))) else (none)) else (some x1)
def laws_szByteSS.f (k : Nat) (l0 : List (List Int)) (a1 : Int) : Option (Int) := if (wrap64 (a1 - (l0.length : Int))) < 0 then (some (-1)) else (laws_szByteSS.l0 k l0 (wrap64 (a1 - (l0.length : Int))) 0)
set_option maxHeartbeats 8000000 in
set_option maxRecDepth 100000 in
theorem laws_szByteSS.calls (k : Nat) (A0 : Option Addr) (c0 : Nat) (l0 : List (List Int)) (a1 : Int) (r : Int) (w : World) (hr0 : Kd.C (Kd.slice 5 (Kd.int .u8)) w A0 l0.length l0) (hc0 : l0.length ≤ c0) (h : laws_szByteSS.f k l0 a1 = some r) :
  Calls Try.prog 51 #[.slice A0 l0.length c0, .int .i64 a1] w fun e w' => e = .returned (.int .i64 r) ∧ bD w w' := by
 have HR0 := aC.mk hr0
 have HC0 := aC.mk hc0
 clear hr0 hc0
 have H : (if (wrap64 (a1 - (l0.length : Int))) < 0 then (some (-1)) else (laws_szByteSS.l0 k l0 (wrap64 (a1 - (l0.length : Int))) 0)) = some r := h
 clear h
 by_cases c3 : (wrap64 (a1 - (l0.length : Int))) < 0
 ·rw [if_pos c3] at H
  have c3b0 : decide ((wrap64 (a1 - (l0.length : Int))) < 0) = true := decide_eq_true c3
  clear c3
  obtain rfl := Option.some.inj H
  go_enter Try.func51, Try.ntmps51
  go_wp2
  go_ret
  exact ⟨by first | rfl | (simp; done) | (simp [*]; done), by repeat (first | exact bD.refl _ | apply bD.step)⟩
 ·rw [if_neg c3] at H
  have c3b0 : decide ((wrap64 (a1 - (l0.length : Int))) < 0) = false := decide_eq_false c3
  clear c3
  have H' := aC.mk H
  clear H
  go_enter Try.func51, Try.ntmps51
  go_wp2
  go_loopg [1, 5] k (fun kq v1 v5 w' => ∃ (x1_1 : Int) (x5_1 : Int), v1 = .int .i64 x1_1 ∧ v5 = .int .i64 x5_1 ∧ aC (laws_szByteSS.l0 kq l0 x1_1 x5_1 = some r) ∧ aC (kq ≤ k) ∧ bD w w')
  case atStart => exact ⟨(wrap64 (a1 - (l0.length : Int))), (0), (by first | rfl | (simp; done) | (simp [*]; done)), (by first | rfl | (simp; done) | (simp [*]; done)), H', ⟨Nat.le_refl _⟩, by repeat (first | exact bD.refl _ | apply bD.step)⟩
  case round =>
   clear H'
   try clear p2
   try clear c3
   try clear c3b0
   obtain ⟨x1_1, x5_1, rfl, rfl, HA, HK1, ⟨m1, rfl⟩⟩ := hrel
   cases gk with
   | zero => exact absurd HA.out (by simp [laws_szByteSS.l0])
   | succ k1 =>
    have H := HA.out
    clear HA
    simp only [laws_szByteSS.l0] at H
    by_cases c4 : x5_1 < (l0.length : Int)
    ·rw [if_pos c4] at H
     have c4b0 : decide (x5_1 < (l0.length : Int)) = true := decide_eq_true c4
     clear c4
     by_cases c5 : 0 ≤ x5_1
     ·rw [if_pos c5] at H
      have c5b0 : decide (0 ≤ x5_1) = true := decide_eq_true c5
      clear c5
      replace H := lF H
      obtain ⟨t129, A60, H⟩ := H
      replace H : (if t129 < 0 then (some (-1)) else (laws_szByteSS.l0 k1 l0 t129 (wrap64 (x5_1 + 1)))) = some r := H
      have A6 := aC.mk A60
      clear A60
      by_cases c7 : t129 < 0
      ·rw [if_pos c7] at H
       have c7b0 : decide (t129 < 0) = true := decide_eq_true c7
       clear c7
       obtain rfl := Option.some.inj H
       have p128 : 0 ≤ (x5_1 : Int) := lE (by first | (with_reducible assumption) | assumption)
       have q128 : x5_1 < (l0.length : Int) := lE (by first | (with_reducible assumption) | assumption)
       obtain ⟨ad128, A128_0, c128_0, e128, hx128_0, hl128_0, hi128_0⟩ := at_L1 HR0.out x5_1 p128 q128
       cases e128
       have HR128_0 := aC.mk hi128_0
       have HC128_0 := aC.mk hl128_0
       clear hi128_0 hl128_0
       replace p128 := eq_true p128
       replace q128 := eq_true q128
       go_wp2_with (first | ((with_reducible refine aY (f := 69) rfl ?_); refine bJ (some 23) rfl rfl Try.func69 (by kernel_rfl) rfl #[.slice A128_0 (rd_L1 l0 x5_1).length c128_0, .int .i64 x1_1] rfl (by (try simp only [List.map_toArray, List.map_cons, List.map_nil]); first | done | rfl | (simp only [List.length_drop, List.length_take]; rfl)) ?_; (with_reducible refine (laws_szByteS.calls _ _ (rd_L1 l0 x5_1) x1_1 t129 _ ?side1 ?side2 A6.out).mono ?_); (case side1 => repeat (first | exact HR128_0.out | (with_reducible refine Kd.bN ?_ _) | (with_reducible refine Kd.bM ?_ _) | (with_reducible refine Kd.bQ ?_))); (case side2 => exact HC128_0.out); rintro e w' ⟨rfl, ⟨nd, rfl⟩⟩; refine ⟨_, rfl, ?_⟩))
       go_ret
       exact ⟨by first | rfl | (simp; done) | (simp [*]; done), by repeat (first | exact bD.refl _ | apply bD.step)⟩
      ·rw [if_neg c7] at H
       have c7b0 : decide (t129 < 0) = false := decide_eq_false c7
       clear c7
       have H' := aC.mk H
       clear H
       have p128 : 0 ≤ (x5_1 : Int) := lE (by first | (with_reducible assumption) | assumption)
       have q128 : x5_1 < (l0.length : Int) := lE (by first | (with_reducible assumption) | assumption)
       obtain ⟨ad128, A128_0, c128_0, e128, hx128_0, hl128_0, hi128_0⟩ := at_L1 HR0.out x5_1 p128 q128
       cases e128
       have HR128_0 := aC.mk hi128_0
       have HC128_0 := aC.mk hl128_0
       clear hi128_0 hl128_0
       replace p128 := eq_true p128
       replace q128 := eq_true q128
       go_wp2_with (first | ((with_reducible refine aY (f := 69) rfl ?_); refine bJ (some 23) rfl rfl Try.func69 (by kernel_rfl) rfl #[.slice A128_0 (rd_L1 l0 x5_1).length c128_0, .int .i64 x1_1] rfl (by (try simp only [List.map_toArray, List.map_cons, List.map_nil]); first | done | rfl | (simp only [List.length_drop, List.length_take]; rfl)) ?_; (with_reducible refine (laws_szByteS.calls _ _ (rd_L1 l0 x5_1) x1_1 t129 _ ?side1 ?side2 A6.out).mono ?_); (case side1 => repeat (first | exact HR128_0.out | (with_reducible refine Kd.bN ?_ _) | (with_reducible refine Kd.bM ?_ _) | (with_reducible refine Kd.bQ ?_))); (case side2 => exact HC128_0.out); rintro e w' ⟨rfl, ⟨nd, rfl⟩⟩; refine ⟨_, rfl, ?_⟩))
       go_roundg k1
       case measure => have := HK1.out; omega
       case rel => exact ⟨(t129), (wrap64 (x5_1 + 1)), (by first | rfl | (simp; done) | (simp [*]; done)), (by first | rfl | (simp; done) | (simp [*]; done)), H', ⟨by have := HK1.out; omega⟩, by repeat (first | exact bD.refl _ | apply bD.step)⟩
     ·rw [if_neg c5] at H
      exact absurd H (by simp)
    ·rw [if_neg c4] at H
     have c4b0 : decide (x5_1 < (l0.length : Int)) = false := decide_eq_false c4
     clear c4
     obtain rfl := Option.some.inj H
     go_wp2
     go_ret
     exact ⟨by first | rfl | (simp; done) | (simp [*]; done), by repeat (first | exact bD.refl _ | apply bD.step)⟩
def laws_szWr.f (a0_0 : Int) (l0_1 : List Int) (a1 : Int) : Option (Int) := (laws_szByteS.f l0_1 a1).bind fun t131 => (if t131 < 0 then (some (-1)) else (some t131))
set_option maxHeartbeats 8000000 in
set_option maxRecDepth 100000 in
theorem laws_szWr.calls (a0_0 : Int) (A0_1 : Option Addr) (c0_1 : Nat) (l0_1 : List Int) (a1 : Int) (r : Int) (w : World) (hr0_1 : Kd.C (Kd.int .u8) w A0_1 l0_1.length l0_1) (hc0_1 : l0_1.length ≤ c0_1) (h : laws_szWr.f a0_0 l0_1 a1 = some r) :
  Calls Try.prog 70 #[.agg #[.int .i64 a0_0, .slice A0_1 l0_1.length c0_1], .int .i64 a1] w fun e w' => e = .returned (.int .i64 r) ∧ Below w.heap.size w w' := by
 have hu81 := Try.underlying81
 have HR0_1 := aC.mk hr0_1
 have HC0_1 := aC.mk hc0_1
 clear hr0_1 hc0_1
 have HB := aC.mk (Below.refl w.heap.size w)
 have H : ((laws_szByteS.f l0_1 a1).bind fun t131 => (if t131 < 0 then (some (-1)) else (some t131))) = some r := h
 clear h
 replace H := lF H
 obtain ⟨t131, A30, H⟩ := H
 replace H : (if t131 < 0 then (some (-1)) else (some t131)) = some r := H
 have A3 := aC.mk A30
 clear A30
 by_cases c4 : t131 < 0
 ·rw [if_pos c4] at H
  have c4b0 : decide (t131 < 0) = true := decide_eq_true c4
  clear c4
  obtain rfl := Option.some.inj H
  go_enter Try.func70, Try.ntmps70
  go_wp2_with (first | ((with_reducible refine bC (N := 2) rfl ?_); refine bB ?hg (N := 2) ?hd (cs := #[.int .i64 a0_0, .slice A0_1 l0_1.length c0_1]) (t := 81) ?hr ?_; (case hd => rfl); (case hg => rfl); (case hr => first | (go_simp; done) | (go_simp; rfl)); intro gb130 hg w5 hbox hb; have n0_ := aC.mk (aV (by repeat (first | (with_reducible first | exact HB.out | apply aJ | apply aE | apply aH) | exact HB.out)) hb); have n1_ := aC.mk (hbox); have n2_ := aC.mk ((by rw [hg]; exact (aW (by repeat (first | (with_reducible first | exact HB.out | apply aJ | apply aE | apply aH) | exact HB.out))) : w.heap.size ≤ gb130)); have n3_ := aC.mk ((by rw [hg]; exact (aW (by repeat (first | (with_reducible first | exact HB.out | apply aJ | apply aE | apply aH) | exact HB.out))) : w.heap.size ≤ gb130)); clear HB; have HB := n0_; have BK130 := n1_; have GW130 := n2_; have GE130 := n3_; clear n0_ n1_ n2_ n3_; clear hb hbox hg; have hcz6_0 : w5.cell? ⟨gb130, 0, none⟩ = some (.int .i64 a0_0) := (aD BK130.out 0).trans rfl; have hcz6_1 : w5.cell? ⟨gb130, 1, none⟩ = some (.slice A0_1 l0_1.length c0_1) := (aD BK130.out 1).trans rfl; have hfz6_0 := aA BK130.out 0; have hfz6_1 := aA BK130.out 1) | ((with_reducible refine aY (f := 69) rfl ?_); refine bJ (some 8) rfl rfl Try.func69 (by kernel_rfl) rfl #[.slice A0_1 l0_1.length c0_1, .int .i64 a1] rfl (by (try simp only [List.map_toArray, List.map_cons, List.map_nil]); first | done | rfl | (simp only [List.length_drop, List.length_take]; rfl)) ?_; (with_reducible refine (laws_szByteS.calls _ _ l0_1 a1 t131 _ ?side1 ?side2 A3.out).mono ?_); (case side1 => repeat (first | exact (Kd.bL HR0_1.out HB.out) | (with_reducible refine Kd.bN ?_ _) | (with_reducible refine Kd.bM ?_ _) | (with_reducible refine Kd.bQ ?_))); (case side2 => exact HC0_1.out); rintro e w' ⟨rfl, ⟨nd, rfl⟩⟩; refine ⟨_, rfl, ?_⟩))
  go_ret
  exact ⟨by first | rfl | (simp [errW_none, errW_some] <;> rfl) | (simp [*, errW_none, errW_some] <;> rfl), by repeat (first | (with_reducible first | exact HB.out | apply aJ | apply aE | apply aH | refine aG ?_ GE130.out) | exact HB.out)⟩
 ·rw [if_neg c4] at H
  have c4b0 : decide (t131 < 0) = false := decide_eq_false c4
  clear c4
  obtain rfl := Option.some.inj H
  go_enter Try.func70, Try.ntmps70
  go_wp2_with (first | ((with_reducible refine bC (N := 2) rfl ?_); refine bB ?hg (N := 2) ?hd (cs := #[.int .i64 a0_0, .slice A0_1 l0_1.length c0_1]) (t := 81) ?hr ?_; (case hd => rfl); (case hg => rfl); (case hr => first | (go_simp; done) | (go_simp; rfl)); intro gb130 hg w7 hbox hb; have n0_ := aC.mk (aV (by repeat (first | (with_reducible first | exact HB.out | apply aJ | apply aE | apply aH) | exact HB.out)) hb); have n1_ := aC.mk (hbox); have n2_ := aC.mk ((by rw [hg]; exact (aW (by repeat (first | (with_reducible first | exact HB.out | apply aJ | apply aE | apply aH) | exact HB.out))) : w.heap.size ≤ gb130)); have n3_ := aC.mk ((by rw [hg]; exact (aW (by repeat (first | (with_reducible first | exact HB.out | apply aJ | apply aE | apply aH) | exact HB.out))) : w.heap.size ≤ gb130)); clear HB; have HB := n0_; have BK130 := n1_; have GW130 := n2_; have GE130 := n3_; clear n0_ n1_ n2_ n3_; clear hb hbox hg; have hcz8_0 : w7.cell? ⟨gb130, 0, none⟩ = some (.int .i64 a0_0) := (aD BK130.out 0).trans rfl; have hcz8_1 : w7.cell? ⟨gb130, 1, none⟩ = some (.slice A0_1 l0_1.length c0_1) := (aD BK130.out 1).trans rfl; have hfz8_0 := aA BK130.out 0; have hfz8_1 := aA BK130.out 1) | ((with_reducible refine aY (f := 69) rfl ?_); refine bJ (some 8) rfl rfl Try.func69 (by kernel_rfl) rfl #[.slice A0_1 l0_1.length c0_1, .int .i64 a1] rfl (by (try simp only [List.map_toArray, List.map_cons, List.map_nil]); first | done | rfl | (simp only [List.length_drop, List.length_take]; rfl)) ?_; (with_reducible refine (laws_szByteS.calls _ _ l0_1 a1 t131 _ ?side1 ?side2 A3.out).mono ?_); (case side1 => repeat (first | exact (Kd.bL HR0_1.out HB.out) | (with_reducible refine Kd.bN ?_ _) | (with_reducible refine Kd.bM ?_ _) | (with_reducible refine Kd.bQ ?_))); (case side2 => exact HC0_1.out); rintro e w' ⟨rfl, ⟨nd, rfl⟩⟩; refine ⟨_, rfl, ?_⟩))
  go_ret
  exact ⟨by first | rfl | (simp [errW_none, errW_some] <;> rfl) | (simp [*, errW_none, errW_some] <;> rfl), by repeat (first | (with_reducible first | exact HB.out | apply aJ | apply aE | apply aH | refine aG ?_ GE130.out) | exact HB.out)⟩
end Go.Proofs.Ytilhcaofpfeioaa.PFnExactFlushDev

namespace Go.Proofs.Ytilhcaofpfeioaa.PFnExactFlushDev
open Go.RowKit Go.Proofs.YtilhcaofpfeioaaW.PrintWords Go.Proofs.YtilhcaofpfeioaaW.PrintLast Go.Proofs.YtilhcaofpfeioaaW.PrintMore
attribute [local go_sem] max2_int min2_int max_two min_two max_three min_three max_four min_four   -- for this text's walks alone
set_option linter.unusedVariables false
set_option linter.unusedSimpArgs false
def laws_szWrS.l0 : Nat → List (S81) → Int → Int → Option (Int)
 | 0, _, _, _ => none
 | k + 1, x0, x1, x5 => if x5 < (x0.length : Int) then (if 0 ≤ x5 then ((laws_szWr.f ((rd_T81 x0 x5).f0) ((rd_T81 x0 x5).f1) x1).bind fun t133 => (if t133 < 0 then (some (-1)) else (laws_szWrS.l0 k x0 t133 (wrap64 (x5 + 1))))) else (none)) else (some x1)
def laws_szWrS.f (k : Nat) (l0 : List (S81)) (a1 : Int) : Option (Int) := if (wrap64 (a1 - (l0.length : Int))) < 0 then (some (-1)) else (laws_szWrS.l0 k l0 (wrap64 (a1 - (l0.length : Int))) 0)
set_option maxHeartbeats 8000000 in
set_option maxRecDepth 100000 in
theorem laws_szWrS.calls (k : Nat) (A0 : Option Addr) (c0 : Nat) (l0 : List (S81)) (a1 : Int) (r : Int) (w : World) (hr0 : Kd.C k81 w A0 l0.length l0) (hc0 : l0.length ≤ c0) (h : laws_szWrS.f k l0 a1 = some r) :
  Calls Try.prog 52 #[.slice A0 l0.length c0, .int .i64 a1] w fun e w' => e = .returned (.int .i64 r) ∧ Below w.heap.size w w' := by
 have hu81 := Try.underlying81
 have HR0 := aC.mk hr0
 have HC0 := aC.mk hc0
 clear hr0 hc0
 have HB := aC.mk (Below.refl w.heap.size w)
 have H : (if (wrap64 (a1 - (l0.length : Int))) < 0 then (some (-1)) else (laws_szWrS.l0 k l0 (wrap64 (a1 - (l0.length : Int))) 0)) = some r := h
 clear h
 by_cases c3 : (wrap64 (a1 - (l0.length : Int))) < 0
 ·rw [if_pos c3] at H
  have c3b0 : decide ((wrap64 (a1 - (l0.length : Int))) < 0) = true := decide_eq_true c3
  clear c3
  obtain rfl := Option.some.inj H
  go_enter Try.func52, Try.ntmps52
  go_wp2
  go_ret
  exact ⟨by first | rfl | (simp [errW_none, errW_some] <;> rfl) | (simp [*, errW_none, errW_some] <;> rfl), by repeat (first | (with_reducible first | exact HB.out | apply aJ | apply aE | apply aH) | exact HB.out)⟩
 ·rw [if_neg c3] at H
  have c3b0 : decide ((wrap64 (a1 - (l0.length : Int))) < 0) = false := decide_eq_false c3
  clear c3
  have H' := aC.mk H
  clear H
  go_enter Try.func52, Try.ntmps52
  go_wp2
  go_loopg [1, 5] k (fun kq v1 v5 w' => ∃ (x1_1 : Int) (x5_1 : Int), v1 = .int .i64 x1_1 ∧ v5 = .int .i64 x5_1 ∧ aC (laws_szWrS.l0 kq l0 x1_1 x5_1 = some r) ∧ aC (kq ≤ k) ∧ aC (Below w.heap.size w w'))
  case atStart => exact ⟨(wrap64 (a1 - (l0.length : Int))), (0), (by first | rfl | (simp; done) | (simp [*]; done)), (by first | rfl | (simp; done) | (simp [*]; done)), H', ⟨Nat.le_refl _⟩, ⟨by repeat (first | (with_reducible first | exact HB.out | apply aJ | apply aE | apply aH) | exact HB.out)⟩⟩
  case round =>
   clear H'
   try clear p2
   try clear c3
   try clear c3b0
   obtain ⟨x1_1, x5_1, rfl, rfl, HA, HK1, HB⟩ := hrel
   cases gk with
   | zero => exact absurd HA.out (by simp [laws_szWrS.l0])
   | succ k1 =>
    have H := HA.out
    clear HA
    simp only [laws_szWrS.l0] at H
    by_cases c4 : x5_1 < (l0.length : Int)
    ·rw [if_pos c4] at H
     have c4b0 : decide (x5_1 < (l0.length : Int)) = true := decide_eq_true c4
     clear c4
     by_cases c5 : 0 ≤ x5_1
     ·rw [if_pos c5] at H
      have c5b0 : decide (0 ≤ x5_1) = true := decide_eq_true c5
      clear c5
      replace H := lF H
      obtain ⟨t133, A60, H⟩ := H
      replace H : (if t133 < 0 then (some (-1)) else (laws_szWrS.l0 k1 l0 t133 (wrap64 (x5_1 + 1)))) = some r := H
      have A6 := aC.mk A60
      clear A60
      by_cases c7 : t133 < 0
      ·rw [if_pos c7] at H
       have c7b0 : decide (t133 < 0) = true := decide_eq_true c7
       clear c7
       obtain rfl := Option.some.inj H
       have p132 : 0 ≤ (x5_1 : Int) := lE (by first | (with_reducible assumption) | assumption)
       have q132 : x5_1 < (l0.length : Int) := lE (by first | (with_reducible assumption) | assumption)
       obtain ⟨ad132, A132_1, c132_1, e132, hx132_0, hx132_1, hl132_1, hi132_1⟩ := at_T81 HR0.out x5_1 p132 q132
       cases e132
       replace hx132_0 := (HB.out.cell (lD w _ hx132_0)).trans hx132_0
       replace hx132_1 := (HB.out.cell (lD w _ hx132_1)).trans hx132_1
       have HR132_1 := aC.mk hi132_1
       have HC132_1 := aC.mk hl132_1
       clear hi132_1 hl132_1
       replace p132 := eq_true p132
       replace q132 := eq_true q132
       go_wp2_with (first | ((with_reducible refine aY (f := 70) rfl ?_); refine bJ (some 23) rfl rfl Try.func70 (by kernel_rfl) rfl #[.agg #[.int .i64 ((rd_T81 l0 x5_1).f0), .slice A132_1 ((rd_T81 l0 x5_1).f1).length c132_1], .int .i64 x1_1] rfl (by (try simp only [List.map_toArray, List.map_cons, List.map_nil]); first | done | rfl | (simp only [List.length_drop, List.length_take]; rfl)) ?_; (with_reducible refine (laws_szWr.calls ((rd_T81 l0 x5_1).f0) _ _ ((rd_T81 l0 x5_1).f1) x1_1 t133 _ ?side1 ?side2 A6.out).mono ?_); (case side1 => repeat (first | exact (Kd.bL HR132_1.out HB.out) | (with_reducible refine Kd.bN ?_ _) | (with_reducible refine Kd.bM ?_ _) | (with_reducible refine Kd.bQ ?_))); (case side2 => exact HC132_1.out); rintro e w8 ⟨rfl, hb⟩; refine ⟨_, rfl, ?_⟩; have n0_ := aC.mk (aV (by repeat (first | (with_reducible first | exact HB.out | apply aJ | apply aE | apply aH) | exact HB.out)) hb); clear HB; have HB := n0_; clear n0_; (try clear hb)))
       go_ret
       exact ⟨by first | rfl | (simp [errW_none, errW_some] <;> rfl) | (simp [*, errW_none, errW_some] <;> rfl), by repeat (first | (with_reducible first | exact HB.out | apply aJ | apply aE | apply aH) | exact HB.out)⟩
      ·rw [if_neg c7] at H
       have c7b0 : decide (t133 < 0) = false := decide_eq_false c7
       clear c7
       have H' := aC.mk H
       clear H
       have p132 : 0 ≤ (x5_1 : Int) := lE (by first | (with_reducible assumption) | assumption)
       have q132 : x5_1 < (l0.length : Int) := lE (by first | (with_reducible assumption) | assumption)
       obtain ⟨ad132, A132_1, c132_1, e132, hx132_0, hx132_1, hl132_1, hi132_1⟩ := at_T81 HR0.out x5_1 p132 q132
       cases e132
       replace hx132_0 := (HB.out.cell (lD w _ hx132_0)).trans hx132_0
       replace hx132_1 := (HB.out.cell (lD w _ hx132_1)).trans hx132_1
       have HR132_1 := aC.mk hi132_1
       have HC132_1 := aC.mk hl132_1
       clear hi132_1 hl132_1
       replace p132 := eq_true p132
       replace q132 := eq_true q132
       go_wp2_with (first | ((with_reducible refine aY (f := 70) rfl ?_); refine bJ (some 23) rfl rfl Try.func70 (by kernel_rfl) rfl #[.agg #[.int .i64 ((rd_T81 l0 x5_1).f0), .slice A132_1 ((rd_T81 l0 x5_1).f1).length c132_1], .int .i64 x1_1] rfl (by (try simp only [List.map_toArray, List.map_cons, List.map_nil]); first | done | rfl | (simp only [List.length_drop, List.length_take]; rfl)) ?_; (with_reducible refine (laws_szWr.calls ((rd_T81 l0 x5_1).f0) _ _ ((rd_T81 l0 x5_1).f1) x1_1 t133 _ ?side1 ?side2 A6.out).mono ?_); (case side1 => repeat (first | exact (Kd.bL HR132_1.out HB.out) | (with_reducible refine Kd.bN ?_ _) | (with_reducible refine Kd.bM ?_ _) | (with_reducible refine Kd.bQ ?_))); (case side2 => exact HC132_1.out); rintro e w9 ⟨rfl, hb⟩; refine ⟨_, rfl, ?_⟩; have n0_ := aC.mk (aV (by repeat (first | (with_reducible first | exact HB.out | apply aJ | apply aE | apply aH) | exact HB.out)) hb); clear HB; have HB := n0_; clear n0_; (try clear hb)))
       go_roundg k1
       case measure => have := HK1.out; omega
       case rel => exact ⟨(t133), (wrap64 (x5_1 + 1)), (by first | rfl | (simp; done) | (simp [*]; done)), (by first | rfl | (simp; done) | (simp [*]; done)), H', ⟨by have := HK1.out; omega⟩, ⟨by repeat (first | (with_reducible first | exact HB.out | apply aJ | apply aE | apply aH) | exact HB.out)⟩⟩
     ·rw [if_neg c5] at H
      exact absurd H (by simp)
    ·rw [if_neg c4] at H
     have c4b0 : decide (x5_1 < (l0.length : Int)) = false := decide_eq_false c4
     clear c4
     obtain rfl := Option.some.inj H
     go_wp2
     go_ret
     exact ⟨by first | rfl | (simp [errW_none, errW_some] <;> rfl) | (simp [*, errW_none, errW_some] <;> rfl), by repeat (first | (with_reducible first | exact HB.out | apply aJ | apply aE | apply aH) | exact HB.out)⟩
def laws_szDev.f (k : Nat) (l0_0 : List (List Int)) (l0_1 : List (S81)) (a0_2 : Int) (a0_3 : Bool) (a1 : Int) : Option (Int) := (laws_szByteSS.f k l0_0 a1).bind fun t135 => (if t135 < 0 then (some (-1)) else ((laws_szWrS.f k l0_1 t135).bind fun t136 => (if t136 < 0 then (some (-1)) else (some t136))))
set_option maxHeartbeats 8000000 in
set_option maxRecDepth 100000 in
theorem laws_szDev.calls (k : Nat) (A0_0 : Option Addr) (c0_0 : Nat) (l0_0 : List (List Int)) (A0_1 : Option Addr) (c0_1 : Nat) (l0_1 : List (S81)) (a0_2 : Int) (a0_3 : Bool) (a1 : Int) (r : Int) (w : World) (hr0_0 : Kd.C (Kd.slice 5 (Kd.int .u8)) w A0_0 l0_0.length l0_0) (hc0_0 : l0_0.length ≤ c0_0) (hr0_1 : Kd.C k81 w A0_1 l0_1.length l0_1) (hc0_1 : l0_1.length ≤ c0_1) (h : laws_szDev.f k l0_0 l0_1 a0_2 a0_3 a1 = some r) :
  Calls Try.prog 17 #[.agg #[.slice A0_0 l0_0.length c0_0, .slice A0_1 l0_1.length c0_1, .int .i64 a0_2, .bool a0_3], .int .i64 a1] w fun e w' => e = .returned (.int .i64 r) ∧ Below w.heap.size w w' := by
 have hu32 := Try.underlying32
 have HR0_0 := aC.mk hr0_0
 have HC0_0 := aC.mk hc0_0
 clear hr0_0 hc0_0
 have HR0_1 := aC.mk hr0_1
 have HC0_1 := aC.mk hc0_1
 clear hr0_1 hc0_1
 have HB := aC.mk (Below.refl w.heap.size w)
 have H : ((laws_szByteSS.f k l0_0 a1).bind fun t135 => (if t135 < 0 then (some (-1)) else ((laws_szWrS.f k l0_1 t135).bind fun t136 => (if t136 < 0 then (some (-1)) else (some t136))))) = some r := h
 clear h
 replace H := lF H
 obtain ⟨t135, A30, H⟩ := H
 replace H : (if t135 < 0 then (some (-1)) else ((laws_szWrS.f k l0_1 t135).bind fun t136 => (if t136 < 0 then (some (-1)) else (some t136)))) = some r := H
 have A3 := aC.mk A30
 clear A30
 by_cases c4 : t135 < 0
 ·rw [if_pos c4] at H
  have c4b0 : decide (t135 < 0) = true := decide_eq_true c4
  clear c4
  obtain rfl := Option.some.inj H
  go_enter Try.func17, Try.ntmps17
  go_wp2_with (first | ((with_reducible refine bC (N := 2) rfl ?_); refine bB ?hg (N := 2) ?hd (cs := #[.slice A0_0 l0_0.length c0_0, .slice A0_1 l0_1.length c0_1, .int .i64 a0_2, .bool a0_3]) (t := 32) ?hr ?_; (case hd => rfl); (case hg => rfl); (case hr => first | (go_simp; done) | (go_simp; rfl)); intro gb134 hg w5 hbox hb; have n0_ := aC.mk (aV (by repeat (first | (with_reducible first | exact HB.out | apply aJ | apply aE | apply aH) | exact HB.out)) hb); have n1_ := aC.mk (hbox); have n2_ := aC.mk ((by rw [hg]; exact (aW (by repeat (first | (with_reducible first | exact HB.out | apply aJ | apply aE | apply aH) | exact HB.out))) : w.heap.size ≤ gb134)); have n3_ := aC.mk ((by rw [hg]; exact (aW (by repeat (first | (with_reducible first | exact HB.out | apply aJ | apply aE | apply aH) | exact HB.out))) : w.heap.size ≤ gb134)); clear HB; have HB := n0_; have BK134 := n1_; have GW134 := n2_; have GE134 := n3_; clear n0_ n1_ n2_ n3_; clear hb hbox hg; have hcz6_0 : w5.cell? ⟨gb134, 0, none⟩ = some (.slice A0_0 l0_0.length c0_0) := (aD BK134.out 0).trans rfl; have hcz6_1 : w5.cell? ⟨gb134, 1, none⟩ = some (.slice A0_1 l0_1.length c0_1) := (aD BK134.out 1).trans rfl; have hcz6_2 : w5.cell? ⟨gb134, 2, none⟩ = some (.int .i64 a0_2) := (aD BK134.out 2).trans rfl; have hcz6_3 : w5.cell? ⟨gb134, 3, none⟩ = some (.bool a0_3) := (aD BK134.out 3).trans rfl; have hfz6_0 := aA BK134.out 0; have hfz6_1 := aA BK134.out 1; have hfz6_2 := aA BK134.out 2; have hfz6_3 := aA BK134.out 3) | ((with_reducible refine aY (f := 51) rfl ?_); refine bJ (some 8) rfl rfl Try.func51 (by kernel_rfl) rfl #[.slice A0_0 l0_0.length c0_0, .int .i64 a1] rfl (by (try simp only [List.map_toArray, List.map_cons, List.map_nil]); first | done | rfl | (simp only [List.length_drop, List.length_take]; rfl)) ?_; (with_reducible refine (laws_szByteSS.calls k _ _ l0_0 a1 t135 _ ?side1 ?side2 A3.out).mono ?_); (case side1 => repeat (first | exact (Kd.bL HR0_0.out HB.out) | (with_reducible refine Kd.bN ?_ _) | (with_reducible refine Kd.bM ?_ _) | (with_reducible refine Kd.bQ ?_))); (case side2 => exact HC0_0.out); rintro e w' ⟨rfl, ⟨nd, rfl⟩⟩; refine ⟨_, rfl, ?_⟩))
  go_ret
  exact ⟨by first | rfl | (simp [errW_none, errW_some] <;> rfl) | (simp [*, errW_none, errW_some] <;> rfl), by repeat (first | (with_reducible first | exact HB.out | apply aJ | apply aE | apply aH | refine aG ?_ GE134.out) | exact HB.out)⟩
 ·rw [if_neg c4] at H
  have c4b0 : decide (t135 < 0) = false := decide_eq_false c4
  clear c4
  replace H := lF H
  obtain ⟨t136, A70, H⟩ := H
  replace H : (if t136 < 0 then (some (-1)) else (some t136)) = some r := H
  have A7 := aC.mk A70
  clear A70
  by_cases c8 : t136 < 0
  ·rw [if_pos c8] at H
   have c8b0 : decide (t136 < 0) = true := decide_eq_true c8
   clear c8
   obtain rfl := Option.some.inj H
   go_enter Try.func17, Try.ntmps17
   go_wp2_with (first | ((with_reducible refine bC (N := 2) rfl ?_); refine bB ?hg (N := 2) ?hd (cs := #[.slice A0_0 l0_0.length c0_0, .slice A0_1 l0_1.length c0_1, .int .i64 a0_2, .bool a0_3]) (t := 32) ?hr ?_; (case hd => rfl); (case hg => rfl); (case hr => first | (go_simp; done) | (go_simp; rfl)); intro gb134 hg w9 hbox hb; have n0_ := aC.mk (aV (by repeat (first | (with_reducible first | exact HB.out | apply aJ | apply aE | apply aH) | exact HB.out)) hb); have n1_ := aC.mk (hbox); have n2_ := aC.mk ((by rw [hg]; exact (aW (by repeat (first | (with_reducible first | exact HB.out | apply aJ | apply aE | apply aH) | exact HB.out))) : w.heap.size ≤ gb134)); have n3_ := aC.mk ((by rw [hg]; exact (aW (by repeat (first | (with_reducible first | exact HB.out | apply aJ | apply aE | apply aH) | exact HB.out))) : w.heap.size ≤ gb134)); clear HB; have HB := n0_; have BK134 := n1_; have GW134 := n2_; have GE134 := n3_; clear n0_ n1_ n2_ n3_; clear hb hbox hg; have hcz10_0 : w9.cell? ⟨gb134, 0, none⟩ = some (.slice A0_0 l0_0.length c0_0) := (aD BK134.out 0).trans rfl; have hcz10_1 : w9.cell? ⟨gb134, 1, none⟩ = some (.slice A0_1 l0_1.length c0_1) := (aD BK134.out 1).trans rfl; have hcz10_2 : w9.cell? ⟨gb134, 2, none⟩ = some (.int .i64 a0_2) := (aD BK134.out 2).trans rfl; have hcz10_3 : w9.cell? ⟨gb134, 3, none⟩ = some (.bool a0_3) := (aD BK134.out 3).trans rfl; have hfz10_0 := aA BK134.out 0; have hfz10_1 := aA BK134.out 1; have hfz10_2 := aA BK134.out 2; have hfz10_3 := aA BK134.out 3) | ((with_reducible refine aY (f := 51) rfl ?_); refine bJ (some 8) rfl rfl Try.func51 (by kernel_rfl) rfl #[.slice A0_0 l0_0.length c0_0, .int .i64 a1] rfl (by (try simp only [List.map_toArray, List.map_cons, List.map_nil]); first | done | rfl | (simp only [List.length_drop, List.length_take]; rfl)) ?_; (with_reducible refine (laws_szByteSS.calls k _ _ l0_0 a1 t135 _ ?side1 ?side2 A3.out).mono ?_); (case side1 => repeat (first | exact (Kd.bL HR0_0.out HB.out) | (with_reducible refine Kd.bN ?_ _) | (with_reducible refine Kd.bM ?_ _) | (with_reducible refine Kd.bQ ?_))); (case side2 => exact HC0_0.out); rintro e w' ⟨rfl, ⟨nd, rfl⟩⟩; refine ⟨_, rfl, ?_⟩) | ((with_reducible refine aY (f := 52) rfl ?_); refine bJ (some 14) rfl rfl Try.func52 (by kernel_rfl) rfl #[.slice A0_1 l0_1.length c0_1, .int .i64 t135] rfl (by (try simp only [List.map_toArray, List.map_cons, List.map_nil]); first | done | rfl | (simp only [List.length_drop, List.length_take]; rfl)) ?_; (with_reducible refine (laws_szWrS.calls k _ _ l0_1 t135 t136 _ ?side1 ?side2 A7.out).mono ?_); (case side1 => repeat (first | exact (Kd.bL HR0_1.out (by repeat (first | (with_reducible first | exact HB.out | apply aJ | apply aE | apply aH | refine aG ?_ GE134.out) | exact HB.out))) | (with_reducible refine Kd.bN ?_ _) | (with_reducible refine Kd.bM ?_ _) | (with_reducible refine Kd.bQ ?_))); (case side2 => exact HC0_1.out); rintro e w11 ⟨rfl, hb⟩; refine ⟨_, rfl, ?_⟩; have n0_ := aC.mk (aM (g := gb134) (o := .cells #[.slice A0_0 l0_0.length c0_0, .slice A0_1 l0_1.length c0_1, .int .i64 a0_2, .bool a0_3] 32 (0, 0)) (by (with_reducible repeat (first | refine aT ?_ _ | refine aQ ?_ | refine aN ?_ _)); exact BK134.out) hb); have n1_ := aC.mk (aV (by repeat (first | (with_reducible first | exact HB.out | apply aJ | apply aE | apply aH | refine aG ?_ GE134.out) | exact HB.out)) hb); clear BK134; clear HB; have BK134 := n0_; have HB := n1_; clear n0_ n1_; (try clear hb)))
   go_ret
   exact ⟨by first | rfl | (simp [errW_none, errW_some] <;> rfl) | (simp [*, errW_none, errW_some] <;> rfl), by repeat (first | (with_reducible first | exact HB.out | apply aJ | apply aE | apply aH | refine aG ?_ GE134.out) | exact HB.out)⟩
  ·rw [if_neg c8] at H
   have c8b0 : decide (t136 < 0) = false := decide_eq_false c8
   clear c8
   obtain rfl := Option.some.inj H
   go_enter Try.func17, Try.ntmps17
   go_wp2_with (first | ((with_reducible refine bC (N := 2) rfl ?_); refine bB ?hg (N := 2) ?hd (cs := #[.slice A0_0 l0_0.length c0_0, .slice A0_1 l0_1.length c0_1, .int .i64 a0_2, .bool a0_3]) (t := 32) ?hr ?_; (case hd => rfl); (case hg => rfl); (case hr => first | (go_simp; done) | (go_simp; rfl)); intro gb134 hg w12 hbox hb; have n0_ := aC.mk (aV (by repeat (first | (with_reducible first | exact HB.out | apply aJ | apply aE | apply aH) | exact HB.out)) hb); have n1_ := aC.mk (hbox); have n2_ := aC.mk ((by rw [hg]; exact (aW (by repeat (first | (with_reducible first | exact HB.out | apply aJ | apply aE | apply aH) | exact HB.out))) : w.heap.size ≤ gb134)); have n3_ := aC.mk ((by rw [hg]; exact (aW (by repeat (first | (with_reducible first | exact HB.out | apply aJ | apply aE | apply aH) | exact HB.out))) : w.heap.size ≤ gb134)); clear HB; have HB := n0_; have BK134 := n1_; have GW134 := n2_; have GE134 := n3_; clear n0_ n1_ n2_ n3_; clear hb hbox hg; have hcz13_0 : w12.cell? ⟨gb134, 0, none⟩ = some (.slice A0_0 l0_0.length c0_0) := (aD BK134.out 0).trans rfl; have hcz13_1 : w12.cell? ⟨gb134, 1, none⟩ = some (.slice A0_1 l0_1.length c0_1) := (aD BK134.out 1).trans rfl; have hcz13_2 : w12.cell? ⟨gb134, 2, none⟩ = some (.int .i64 a0_2) := (aD BK134.out 2).trans rfl; have hcz13_3 : w12.cell? ⟨gb134, 3, none⟩ = some (.bool a0_3) := (aD BK134.out 3).trans rfl; have hfz13_0 := aA BK134.out 0; have hfz13_1 := aA BK134.out 1; have hfz13_2 := aA BK134.out 2; have hfz13_3 := aA BK134.out 3) | ((with_reducible refine aY (f := 51) rfl ?_); refine bJ (some 8) rfl rfl Try.func51 (by kernel_rfl) rfl #[.slice A0_0 l0_0.length c0_0, .int .i64 a1] rfl (by (try simp only [List.map_toArray, List.map_cons, List.map_nil]); first | done | rfl | (simp only [List.length_drop, List.length_take]; rfl)) ?_; (with_reducible refine (laws_szByteSS.calls k _ _ l0_0 a1 t135 _ ?side1 ?side2 A3.out).mono ?_); (case side1 => repeat (first | exact (Kd.bL HR0_0.out HB.out) | (with_reducible refine Kd.bN ?_ _) | (with_reducible refine Kd.bM ?_ _) | (with_reducible refine Kd.bQ ?_))); (case side2 => exact HC0_0.out); rintro e w' ⟨rfl, ⟨nd, rfl⟩⟩; refine ⟨_, rfl, ?_⟩) | ((with_reducible refine aY (f := 52) rfl ?_); refine bJ (some 14) rfl rfl Try.func52 (by kernel_rfl) rfl #[.slice A0_1 l0_1.length c0_1, .int .i64 t135] rfl (by (try simp only [List.map_toArray, List.map_cons, List.map_nil]); first | done | rfl | (simp only [List.length_drop, List.length_take]; rfl)) ?_; (with_reducible refine (laws_szWrS.calls k _ _ l0_1 t135 t136 _ ?side1 ?side2 A7.out).mono ?_); (case side1 => repeat (first | exact (Kd.bL HR0_1.out (by repeat (first | (with_reducible first | exact HB.out | apply aJ | apply aE | apply aH | refine aG ?_ GE134.out) | exact HB.out))) | (with_reducible refine Kd.bN ?_ _) | (with_reducible refine Kd.bM ?_ _) | (with_reducible refine Kd.bQ ?_))); (case side2 => exact HC0_1.out); rintro e w14 ⟨rfl, hb⟩; refine ⟨_, rfl, ?_⟩; have n0_ := aC.mk (aM (g := gb134) (o := .cells #[.slice A0_0 l0_0.length c0_0, .slice A0_1 l0_1.length c0_1, .int .i64 a0_2, .bool a0_3] 32 (0, 0)) (by (with_reducible repeat (first | refine aT ?_ _ | refine aQ ?_ | refine aN ?_ _)); exact BK134.out) hb); have n1_ := aC.mk (aV (by repeat (first | (with_reducible first | exact HB.out | apply aJ | apply aE | apply aH | refine aG ?_ GE134.out) | exact HB.out)) hb); clear BK134; clear HB; have BK134 := n0_; have HB := n1_; clear n0_ n1_; (try clear hb)))
   go_ret
   exact ⟨by first | rfl | (simp [errW_none, errW_some] <;> rfl) | (simp [*, errW_none, errW_some] <;> rfl), by repeat (first | (with_reducible first | exact HB.out | apply aJ | apply aE | apply aH | refine aG ?_ GE134.out) | exact HB.out)⟩
def laws_toByteS.l0 : Nat → List Int → List Int → Int → Option (List Int)
 | 0, _, _, _ => none
 | k + 1, x0, x3, x4 => if x4 < (x0.length : Int) then (if 0 ≤ x4 then (if x4 < (x3.length : Int) then (laws_toByteS.l0 k x0 (x3.set (x4 : Int).toNat (rd x0 x4)) (wrap64 (x4 + 1))) else (none)) else (none)) else (some x3)
def laws_toByteS.f (k : Nat) (l0 : List Int) : Option (List Int) := if 0 ≤ (l0.length : Int) then (if ((l0.length : Int) : Int).toNat ≤ 281474976710656 then (laws_toByteS.l0 k l0 (List.replicate ((l0.length : Int) : Int).toNat 0) 0) else (none)) else (none)
set_option maxHeartbeats 8000000 in
set_option maxRecDepth 100000 in
theorem laws_toByteS.calls (k : Nat) (A0 : Option Addr) (c0 : Nat) (l0 : List Int) (r : List Int) (w : World) (hr0 : Kd.C (Kd.int .u8) w A0 l0.length l0) (hc0 : l0.length ≤ c0) (h : laws_toByteS.f k l0 = some r) :
  Calls Try.prog 27 #[.slice A0 l0.length c0] w fun e w' => ∃ v0_ : Value, e = .returned (v0_) ∧ Kd.R (Kd.int .u8) 5 w' w.heap.size (fun _ => True) v0_ r ∧ Below w.heap.size w w' := by
 have HR0 := aC.mk hr0
 have HC0 := aC.mk hc0
 clear hr0 hc0
 have HB := aC.mk (Below.refl w.heap.size w)
 have H : (if 0 ≤ (l0.length : Int) then (if ((l0.length : Int) : Int).toNat ≤ 281474976710656 then (laws_toByteS.l0 k l0 (List.replicate ((l0.length : Int) : Int).toNat 0) 0) else (none)) else (none)) = some r := h
 clear h
 by_cases c2 : 0 ≤ (l0.length : Int)
 ·rw [if_pos c2] at H
  have c2b0 := eq_true c2
  have c2b1 : decide (0 ≤ (l0.length : Int)) = true := decide_eq_true c2
  clear c2
  by_cases c3 : ((l0.length : Int) : Int).toNat ≤ 281474976710656
  ·rw [if_pos c3] at H
   have c3b0 := eq_true c3
   have c3b1 : decide (((l0.length : Int) : Int).toNat ≤ 281474976710656) = true := decide_eq_true c3
   clear c3
   obtain ⟨y137, hy137⟩ : ∃ y_ : List Int, y_ = (List.replicate ((l0.length : Int) : Int).toNat 0) := ⟨_, rfl⟩
   replace H : (laws_toByteS.l0 k l0 y137 0) = some r := by first | (rw [hy137]; with_reducible exact H) | (have H2_ := (Option.bind_some _ _).symm.trans H; rw [hy137]; with_reducible exact H2_) | (have H2_ := (Option.bind_some _ _).symm.trans H; with_reducible exact H2_) | with_reducible exact H | (rw [hy137]; exact H) | exact H
   have Ny137 := aC.mk hy137
   clear hy137
   have H' := aC.mk H
   clear H
   go_enter Try.func27, Try.ntmps27
   go_wp2_with (first | ((with_reducible refine bC (N := 7) rfl ?_); refine Kd.R_make (Kd.int .u8) _ 5 rfl (N := 7) rfl 37 _ _ rfl (l0.length : Int) rfl rfl Try.underlying37 (.int .u8 0) 1 info5 rfl (by decide) (by omega) 0 (ok := fun _ => True) (okp := fun _ => True) rfl (fun _ hk => hk) trivial (lE (by first | (with_reducible assumption) | assumption)) (Nat.le_trans (Nat.mul_le_mul_right _ (lE (by first | (with_reducible assumption) | assumption) : (l0.length : Int).toNat ≤ 281474976710656)) (by omega)) (Below.refl _ _) (Nat.le_refl _) ?_; intro v138 w4 ho5 hb hg_ hnew_; clear hg_ hnew_; (first | rw [← Ny137.out] at ho5 | (simp only [Int.reduceToNat] at ho5; rw [← Ny137.out] at ho5)); have n0_ := aC.mk (Kd.R_lower ho5 (aW (by repeat (first | (with_reducible first | exact HB.out | apply aJ | apply aE | apply aH) | exact HB.out)))); have n1_ := aC.mk (aV (by repeat (first | (with_reducible first | exact HB.out | apply aJ | apply aE | apply aH) | exact HB.out)) hb); clear HB; have HO139 := n0_; have HB := n1_; clear n0_ n1_; clear hb ho5))
   go_loopg [4] k (fun kq v4 w' => ∃ (x3_1 : List Int) (x4_1 : Int), v4 = .int .i64 x4_1 ∧ aC (laws_toByteS.l0 kq l0 x3_1 x4_1 = some r) ∧ aC (kq ≤ k) ∧ aC (Kd.R (Kd.int .u8) 5 w' w.heap.size (fun _ => True) v138 x3_1) ∧ aC (Below w.heap.size w w'))
   case atStart => exact ⟨(y137), (0), (by first | rfl | (simp; done) | (simp [*]; done)), H', ⟨Nat.le_refl _⟩, ⟨by (with_reducible repeat (first | apply Kd.R_alloc | apply Kd.R_drewN | apply Kd.R_drew)); exact HO139.out⟩, ⟨by repeat (first | (with_reducible first | exact HB.out | apply aJ | apply aE | apply aH) | exact HB.out)⟩⟩
   case round =>
    clear H'
    try clear c2
    try clear c2b0
    try clear c2b1
    try clear p2
    try clear c3
    try clear c3b0
    try clear c3b1
    obtain ⟨x3_1, x4_1, rfl, HA, HK1, HO_3, HB⟩ := hrel
    cases gk with
    | zero => exact absurd HA.out (by simp [laws_toByteS.l0])
    | succ k1 =>
     have H := HA.out
     clear HA
     simp only [laws_toByteS.l0] at H
     by_cases c6 : x4_1 < (l0.length : Int)
     ·rw [if_pos c6] at H
      have c6b0 : decide (x4_1 < (l0.length : Int)) = true := decide_eq_true c6
      clear c6
      by_cases c7 : 0 ≤ x4_1
      ·rw [if_pos c7] at H
       have c7b0 : decide (0 ≤ x4_1) = true := decide_eq_true c7
       clear c7
       by_cases c8 : x4_1 < (x3_1.length : Int)
       ·rw [if_pos c8] at H
        have c8b0 : decide (x4_1 < (x3_1.length : Int)) = true := decide_eq_true c8
        clear c8
        obtain ⟨y141, hy141⟩ : ∃ y_ : List Int, y_ = (x3_1.set (x4_1 : Int).toNat (rd l0 x4_1)) := ⟨_, rfl⟩
        replace H : (laws_toByteS.l0 k1 l0 y141 (wrap64 (x4_1 + 1))) = some r := by first | (rw [hy141]; with_reducible exact H) | (have H2_ := (Option.bind_some _ _).symm.trans H; rw [hy141]; with_reducible exact H2_) | (have H2_ := (Option.bind_some _ _).symm.trans H; with_reducible exact H2_) | with_reducible exact H | (rw [hy141]; exact H) | exact H
        have Ny141 := aC.mk hy141
        clear hy141
        have H' := aC.mk H
        clear H
        have p140 : 0 ≤ (x4_1 : Int) := lE (by first | (with_reducible assumption) | assumption)
        have q140 : x4_1 < (l0.length : Int) := lE (by first | (with_reducible assumption) | assumption)
        obtain ⟨ad140, e140, hx140_0⟩ := Kd.at_int HR0.out x4_1 p140 q140
        cases e140
        replace hx140_0 := (HB.out.cell (lD w _ hx140_0)).trans hx140_0
        replace p140 := eq_true p140
        replace q140 := eq_true q140
        have p9 : 0 ≤ (x4_1 : Int) := lE (by first | (with_reducible assumption) | assumption)
        have q9 : (x4_1 : Int) < ((x3_1.length : Int) : Int) := lE (by first | (with_reducible assumption) | assumption)
        obtain ⟨go9, co9, eo9, gb9, gl9, cl9, HG9⟩ := Kd.R_form HO_3.out (by omega)
        (first | cases eo9 | (injection eo9 with ea_ en_ ec_; (first | subst ea_ | (injection ea_ with ea_; subst ea_)); subst ec_; clear en_))
        have GB9 := aC.mk gb9
        have GG9 := aC.mk HG9
        clear gb9 gl9 HG9
        obtain ⟨hx9_0, hf9_0⟩ := Kd.R_celln 0 HO_3.out (x4_1 : Int) p9 q9
        replace p9 := eq_true p9
        replace q9 := eq_true q9
        have HP10 := Kd.R_putg HO_3.out (x4_1 : Int) (rd l0 x4_1)
        go_wp2_with (first | ((with_reducible refine bP (t := 5) (p := 20) rfl ?_); refine bK (t := 5) (p := 20) (v := ?vo_w11) (w1 := (wr.setCell ⟨go9, (x4_1 : Int).toNat, none⟩ (.int .u8 (rd l0 x4_1)))) ?hg ?ho ?hn ?hr ?_; (case ho => rfl); (case hg => rfl); (case hn => rfl); (case hr => first | (go_simp; done) | (go_simp; rfl)); intro w11 hw; have hg : wr.grownBy w11 (some go9) := (by rw [hw]; exact HP10.2); have hp_ : Kd.R (Kd.int .u8) 5 w11 w.heap.size (fun _ => True) (.slice (some ⟨go9, 0, none⟩) x3_1.length co9) y141 := (by rw [hw, Ny141.out]; exact HP10.1); clear HP10; have n0_ := aC.mk (hp_); have n1_ := aC.mk ((by rw [hw]; exact aG (HB.out) GB9.out : Below w.heap.size w w11)); clear HO_3; clear HB; have HO_3 := n0_; have HB := n1_; clear n0_ n1_; clear hg hw hp_))
        go_roundg k1
        case measure => have := HK1.out; omega
        case rel => exact ⟨(y141), (wrap64 (x4_1 + 1)), (by first | rfl | (simp; done) | (simp [*]; done)), H', ⟨by have := HK1.out; omega⟩, ⟨by (with_reducible repeat (first | apply Kd.R_alloc | apply Kd.R_drewN | apply Kd.R_drew)); exact HO_3.out⟩, ⟨by repeat (first | (with_reducible first | exact HB.out | apply aJ | apply aE | apply aH) | exact HB.out)⟩⟩
       ·rw [if_neg c8] at H
        exact absurd H (by simp)
      ·rw [if_neg c7] at H
       exact absurd H (by simp)
     ·rw [if_neg c6] at H
      have c6b0 : decide (x4_1 < (l0.length : Int)) = false := decide_eq_false c6
      clear c6
      obtain rfl := Option.some.inj H
      go_wp2
      go_ret
      exact ⟨_, by first | rfl | (simp [errW_none, errW_some] <;> rfl) | (simp [*, errW_none, errW_some] <;> rfl), by (with_reducible repeat (first | apply Kd.R_alloc | apply Kd.R_drewN | apply Kd.R_drew)); exact HO_3.out, by repeat (first | (with_reducible first | exact HB.out | apply aJ | apply aE | apply aH) | exact HB.out)⟩
  ·rw [if_neg c3] at H
   exact absurd H (by simp)
 ·rw [if_neg c2] at H
  exact absurd H (by simp)
def laws_toByteSS.l0 : Nat → List (List Int) → List (List Int) → Int → Option ((List (List Int)))
 | 0, _, _, _ => none
 | k + 1, x0, x3, x4 => if x4 < (x0.length : Int) then (if 0 ≤ x4 then ((laws_toByteS.f k (rd_L1 x0 x4)).bind fun t146 => (if x4 < (x3.length : Int) then (laws_toByteSS.l0 k x0 (x3.set (x4 : Int).toNat t146) (wrap64 (x4 + 1))) else (none))) else (none)) else (some x3)
def laws_toByteSS.f (k : Nat) (l0 : List (List Int)) : Option ((List (List Int))) := if 0 ≤ (l0.length : Int) then (if ((l0.length : Int) : Int).toNat ≤ 11728124029610 then (laws_toByteSS.l0 k l0 (List.replicate ((l0.length : Int) : Int).toNat []) 0) else (none)) else (none)
set_option maxHeartbeats 8000000 in
set_option maxRecDepth 100000 in
theorem laws_toByteSS.calls (k : Nat) (A0 : Option Addr) (c0 : Nat) (l0 : List (List Int)) (r : List (List Int)) (w : World) (hr0 : Kd.C (Kd.slice 5 (Kd.int .u8)) w A0 l0.length l0) (hc0 : l0.length ≤ c0) (h : laws_toByteSS.f k l0 = some r) :
  Calls Try.prog 53 #[.slice A0 l0.length c0] w fun e w' => ∃ v0_ : Value, e = .returned (v0_) ∧ Kd.S (Kd.slice 5 (Kd.int .u8)) 37 w' w.heap.size (fun _ => True) v0_ r ∧ Below w.heap.size w w' := by
 have HR0 := aC.mk hr0
 have HC0 := aC.mk hc0
 clear hr0 hc0
 have HB := aC.mk (Below.refl w.heap.size w)
 have H : (if 0 ≤ (l0.length : Int) then (if ((l0.length : Int) : Int).toNat ≤ 11728124029610 then (laws_toByteSS.l0 k l0 (List.replicate ((l0.length : Int) : Int).toNat []) 0) else (none)) else (none)) = some r := h
 clear h
 by_cases c2 : 0 ≤ (l0.length : Int)
 ·rw [if_pos c2] at H
  have c2b0 := eq_true c2
  have c2b1 : decide (0 ≤ (l0.length : Int)) = true := decide_eq_true c2
  clear c2
  by_cases c3 : ((l0.length : Int) : Int).toNat ≤ 11728124029610
  ·rw [if_pos c3] at H
   have c3b0 := eq_true c3
   have c3b1 : decide (((l0.length : Int) : Int).toNat ≤ 11728124029610) = true := decide_eq_true c3
   clear c3
   obtain ⟨y142, hy142⟩ : ∃ y_ : List (List Int), y_ = (List.replicate ((l0.length : Int) : Int).toNat []) := ⟨_, rfl⟩
   replace H : (laws_toByteSS.l0 k l0 y142 0) = some r := by first | (rw [hy142]; with_reducible exact H) | (have H2_ := (Option.bind_some _ _).symm.trans H; rw [hy142]; with_reducible exact H2_) | (have H2_ := (Option.bind_some _ _).symm.trans H; with_reducible exact H2_) | with_reducible exact H | (rw [hy142]; exact H) | exact H
   have Ny142 := aC.mk hy142
   clear hy142
   have H' := aC.mk H
   clear H
   go_enter Try.func53, Try.ntmps53
   go_wp2_with (first | ((with_reducible refine bC (N := 7) rfl ?_); refine Kd.S_make (Kd.slice 5 (Kd.int .u8)) _ 37 rfl (N := 7) rfl 22 _ _ rfl (l0.length : Int) rfl rfl Try.underlying22 (.slice none 0 0) 24 info37 rfl (by decide) (by omega) [] (ok := fun _ => True) (okp := fun _ => True) ⟨_, rfl, Kd.R_nil _ _ _ _ _⟩ (fun _ hk => hk) trivial (lE (by first | (with_reducible assumption) | assumption)) (Nat.le_trans (Nat.mul_le_mul_right _ (lE (by first | (with_reducible assumption) | assumption) : (l0.length : Int).toNat ≤ 11728124029610)) (by omega)) (Below.refl _ _) (Nat.le_refl _) ?_; intro v143 w4 ho5 hb hg_ hnew_; clear hg_ hnew_; (first | rw [← Ny142.out] at ho5 | (simp only [Int.reduceToNat] at ho5; rw [← Ny142.out] at ho5)); have n0_ := aC.mk (Kd.S_lower ho5 (aW (by repeat (first | (with_reducible first | exact HB.out | apply aJ | apply aE | apply aH) | exact HB.out)))); have n1_ := aC.mk (aV (by repeat (first | (with_reducible first | exact HB.out | apply aJ | apply aE | apply aH) | exact HB.out)) hb); clear HB; have HO144 := n0_; have HB := n1_; clear n0_ n1_; clear hb ho5))
   go_loopg [4] k (fun kq v4 w' => ∃ (x3_1 : List (List Int)) (x4_1 : Int), v4 = .int .i64 x4_1 ∧ aC (laws_toByteSS.l0 kq l0 x3_1 x4_1 = some r) ∧ aC (kq ≤ k) ∧ aC (Kd.S (Kd.slice 5 (Kd.int .u8)) 37 w' w.heap.size (fun _ => True) v143 x3_1) ∧ aC (Below w.heap.size w w'))
   case atStart => exact ⟨(y142), (0), (by first | rfl | (simp; done) | (simp [*]; done)), H', ⟨Nat.le_refl _⟩, ⟨by (with_reducible repeat (first | apply Kd.S_alloc | apply Kd.S_drewN | apply Kd.S_drew)); exact HO144.out⟩, ⟨by repeat (first | (with_reducible first | exact HB.out | apply aJ | apply aE | apply aH) | exact HB.out)⟩⟩
   case round =>
    clear H'
    try clear c2
    try clear c2b0
    try clear c2b1
    try clear p2
    try clear c3
    try clear c3b0
    try clear c3b1
    try clear c5
    obtain ⟨x3_1, x4_1, rfl, HA, HK1, HO_3, HB⟩ := hrel
    cases gk with
    | zero => exact absurd HA.out (by simp [laws_toByteSS.l0])
    | succ k1 =>
     have H := HA.out
     clear HA
     simp only [laws_toByteSS.l0] at H
     by_cases c6 : x4_1 < (l0.length : Int)
     ·rw [if_pos c6] at H
      have c6b0 : decide (x4_1 < (l0.length : Int)) = true := decide_eq_true c6
      clear c6
      by_cases c7 : 0 ≤ x4_1
      ·rw [if_pos c7] at H
       have c7b0 : decide (0 ≤ x4_1) = true := decide_eq_true c7
       clear c7
       replace H := lF H
       obtain ⟨t146, A80, H⟩ := H
       replace H : (if x4_1 < (x3_1.length : Int) then (laws_toByteSS.l0 k1 l0 (x3_1.set (x4_1 : Int).toNat t146) (wrap64 (x4_1 + 1))) else (none)) = some r := H
       have A8 := aC.mk A80
       clear A80
       by_cases c9 : x4_1 < (x3_1.length : Int)
       ·rw [if_pos c9] at H
        have c9b0 : decide (x4_1 < (x3_1.length : Int)) = true := decide_eq_true c9
        clear c9
        obtain ⟨y149, hy149⟩ : ∃ y_ : List (List Int), y_ = (x3_1.set (x4_1 : Int).toNat t146) := ⟨_, rfl⟩
        replace H : (laws_toByteSS.l0 k1 l0 y149 (wrap64 (x4_1 + 1))) = some r := by first | (rw [hy149]; with_reducible exact H) | (have H2_ := (Option.bind_some _ _).symm.trans H; rw [hy149]; with_reducible exact H2_) | (have H2_ := (Option.bind_some _ _).symm.trans H; with_reducible exact H2_) | with_reducible exact H | (rw [hy149]; exact H) | exact H
        have Ny149 := aC.mk hy149
        clear hy149
        have H' := aC.mk H
        clear H
        have p145 : 0 ≤ (x4_1 : Int) := lE (by first | (with_reducible assumption) | assumption)
        have q145 : x4_1 < (l0.length : Int) := lE (by first | (with_reducible assumption) | assumption)
        obtain ⟨ad145, A145_0, c145_0, e145, hx145_0, hl145_0, hi145_0⟩ := at_L1 HR0.out x4_1 p145 q145
        cases e145
        replace hx145_0 := (HB.out.cell (lD w _ hx145_0)).trans hx145_0
        have HR145_0 := aC.mk hi145_0
        have HC145_0 := aC.mk hl145_0
        clear hi145_0 hl145_0
        replace p145 := eq_true p145
        replace q145 := eq_true q145
        go_wp2_with (first | ((with_reducible refine aY (f := 27) rfl ?_); refine bJ (some 20) rfl rfl Try.func27 (by kernel_rfl) rfl #[.slice A145_0 (rd_L1 l0 x4_1).length c145_0] rfl (by (try simp only [List.map_toArray, List.map_cons, List.map_nil]); first | done | rfl | (simp only [List.length_drop, List.length_take]; rfl)) ?_; (with_reducible refine (laws_toByteS.calls k1 _ _ (rd_L1 l0 x4_1) t146 _ ?side1 ?side2 A8.out).mono ?_); (case side1 => repeat (first | exact (Kd.bL HR145_0.out HB.out) | (with_reducible refine Kd.bN ?_ _) | (with_reducible refine Kd.bM ?_ _) | (with_reducible refine Kd.bQ ?_))); (case side2 => exact HC145_0.out); rintro e w11 ⟨v147, rfl, ho0, hb⟩; refine ⟨_, rfl, ?_⟩; have n0_ := aC.mk (Kd.S_elder' (by (with_reducible repeat (first | apply Kd.S_alloc | apply Kd.S_drewN | apply Kd.S_drew)); exact HO_3.out) (Kd.R_base ho0) hb); have n1_ := aC.mk (Kd.R_lower ho0 (aW (by repeat (first | (with_reducible first | exact HB.out | apply aJ | apply aE | apply aH) | exact HB.out)))); have n2_ := aC.mk (aV (by repeat (first | (with_reducible first | exact HB.out | apply aJ | apply aE | apply aH) | exact HB.out)) hb); clear HO_3; clear HB; have HO_3 := n0_; have HO148 := n1_; have HB := n2_; clear n0_ n1_ n2_; (try clear hb); (try clear hk); (try clear ho0); have p10 : 0 ≤ (x4_1 : Int) := lE (by first | (with_reducible assumption) | assumption); have q10 : (x4_1 : Int) < ((x3_1.length : Int) : Int) := lE (by first | (with_reducible assumption) | assumption); obtain ⟨go10, co10, eo10, gb10, gl10, cl10, HG10⟩ := Kd.S_form HO_3.out (by omega); (first | cases eo10 | (injection eo10 with ea_ en_ ec_; (first | subst ea_ | (injection ea_ with ea_; subst ea_)); subst ec_; clear en_)); have GB10 := aC.mk gb10; have GG10 := aC.mk HG10; clear gb10 gl10 HG10; obtain ⟨_, ce10, hcl10, hM10, hcc10, hfr10, _, _⟩ := Kd.S_elem HO_3.out [] (x4_1 : Int) p10 q10; obtain ⟨ve10_0, rfl, ge10_0⟩ := hM10; have hx10_0 := hcc10 0 _ rfl; have hf10_0 := hfr10 0; (try simp only [show ((Kd.slice 5 (Kd.int .u8))).sz = 1 from rfl, Nat.mul_one, Nat.add_zero] at hx10_0); (try simp only [show ((Kd.slice 5 (Kd.int .u8))).sz = 1 from rfl, Nat.mul_one, Nat.add_zero] at hf10_0); (try clear hcl10); (try clear hcc10); (try clear hfr10); (try clear hM10); replace p10 := eq_true p10; replace q10 := eq_true q10; have n_ := aC.mk (Kd.S_mono (ok' := (fun k_ => some k_ ≠ (v147 : Value).ownBlock)) HO_3.out (fun k_ hk => hk.2)); clear HO_3; have HO_3 := n_; clear n_; have HX12 := aC.mk (show Kd.S (Kd.slice 5 (Kd.int .u8)) 37 w11 w.heap.size (fun k_ => ((fun _ => True)) k_ ∧ ¬ ((fun k_ => some k_ = (v147 : Value).ownBlock)) k_) (.slice (some ⟨go10, 0, none⟩) x3_1.length co10) x3_1 from (by (with_reducible repeat (first | apply Kd.S_alloc | apply Kd.S_drewN | apply Kd.S_drew)); exact Kd.S_mono HO_3.out (fun k_ hk => ⟨trivial, fun e_ => hk e_⟩))); obtain ⟨oki12, ce12, hcl12, hM12, hcc12, hfr12, hoki12, hH12⟩ := Kd.S_elem HX12.out [] (x4_1 : Int) (lE (by first | (with_reducible assumption) | assumption)) (by have h_ : (x4_1 : Int) < ((x3_1.length : Int) : Int) := lE (by first | (with_reducible assumption) | assumption); first | exact h_ | (have e_ := (Kd.S_reads' HO_3.out).1; omega) | simpa using h_); obtain ⟨ve12_0, rfl, ge12_0⟩ := hM12; have HP12 := Kd.S_seg hH12 (lE (by first | (with_reducible assumption) | assumption)) (by have h_ : (x4_1 : Int) < ((x3_1.length : Int) : Int) := lE (by first | (with_reducible assumption) | assumption); first | exact h_ | (have e_ := (Kd.S_reads' HO_3.out).1; omega) | simpa using h_) (seg := [v147]) (j := 0) (show 1 ≤ 1 from by decide) (x' := t146) (Kd.M_row (Kd.R_mono (Kd.R_tight rfl (Kd.R_mono (ok' := fun k_ => ((fun _ => True)) k_ ∧ k_ ≠ go10) (Kd.R_apart' (HO148.out) (Kd.S_typed HO_3.out) (by decide)) (fun k_ hk => ⟨trivial, fun e_ => (hk.2) (by rw [e_]; rfl)⟩))) (fun _ h_ => Or.inr (h_)))) (fun _ hk => hk) (fun k_ hk_ => ((Kd.R_mono (ok' := fun k_ => ((fun _ => True)) k_ ∧ k_ ≠ go10) (Kd.R_apart' (HO148.out) (Kd.S_typed HO_3.out) (by decide)) (fun k_ hk => ⟨trivial, fun e_ => (hk.2) (by rw [e_]; rfl)⟩))).1 k_ hk_.symm); have hx12_0 := hcc12 0 _ rfl; (try simp only [show ((Kd.slice 5 (Kd.int .u8))).sz = 1 from rfl, Nat.mul_one, Nat.add_zero] at hx12_0); have hf12_0 := hfr12 0; (try simp only [show ((Kd.slice 5 (Kd.int .u8))).sz = 1 from rfl, Nat.mul_one, Nat.add_zero] at hf12_0); (try clear hcl12); (try clear hcc12); (try clear hfr12); (try clear hM12); (try clear hoki12); (try clear hH12); (try simp only [show ((Kd.slice 5 (Kd.int .u8))).sz = 1 from rfl, Nat.mul_one, Nat.add_zero] at HP12)) | ((with_reducible refine bP (t := 37) (p := 21) rfl ?_); refine bK (t := 37) (p := 21) (v := ?vo_w13) (w1 := (w11.setCell ⟨go10, (x4_1 : Int).toNat, none⟩ (v147))) ?hg ?ho ?hn ?hr ?_; (case ho => rfl); (case hg => rfl); (case hn => rfl); (case hr => first | (go_simp; done) | (go_simp; rfl) | (obtain ⟨Az_, cz_, ez_, _⟩ := Kd.R_reads HO148.out; subst ez_; go_simp; done) | (obtain ⟨Az_, cz_, ez_, _⟩ := Kd.R_reads HO148.out; subst ez_; go_simp; rfl) | (obtain ⟨Az_, cz_, ez_, _⟩ := Kd.S_reads HO148.out; subst ez_; go_simp; done) | (obtain ⟨Az_, cz_, ez_, _⟩ := Kd.S_reads HO148.out; subst ez_; go_simp; rfl) | (obtain ⟨Az_, cz_, ez_, _⟩ := Kd.N_reads HO148.out; subst ez_; go_simp; done) | (obtain ⟨Az_, cz_, ez_, _⟩ := Kd.N_reads HO148.out; subst ez_; go_simp; rfl) | (obtain ⟨Az_, cz_, ez_, _⟩ := Kd.Q_reads HO148.out; subst ez_; go_simp; done) | (obtain ⟨Az_, cz_, ez_, _⟩ := Kd.Q_reads HO148.out; subst ez_; go_simp; rfl) | (obtain ⟨Az_, cz_, ez_⟩ := Kd.V_slice HO148.out; subst ez_; go_simp; done)); intro w13 hw; have hg : w11.grownBy w13 (some go10) := (by rw [hw]; exact HP12.2); have hp_ : Kd.S (Kd.slice 5 (Kd.int .u8)) 37 w13 w.heap.size (fun _ => True) (.slice (some ⟨go10, 0, none⟩) x3_1.length co10) y149 := (by rw [hw, Ny149.out]; exact HP12.1); clear HP12; have n0_ := aC.mk (hp_); have n1_ := aC.mk ((by rw [hw]; exact aG (HB.out) GB10.out : Below w.heap.size w w13)); clear HO_3; clear HB; clear HO148; have HO_3 := n0_; have HB := n1_; clear n0_ n1_; clear hg hw hp_))
        go_roundg k1
        case measure => have := HK1.out; omega
        case rel => exact ⟨(y149), (wrap64 (x4_1 + 1)), (by first | rfl | (simp; done) | (simp [*]; done)), H', ⟨by have := HK1.out; omega⟩, ⟨by (with_reducible repeat (first | apply Kd.S_alloc | apply Kd.S_drewN | apply Kd.S_drew)); exact HO_3.out⟩, ⟨by repeat (first | (with_reducible first | exact HB.out | apply aJ | apply aE | apply aH) | exact HB.out)⟩⟩
       ·rw [if_neg c9] at H
        exact absurd H (by simp)
      ·rw [if_neg c7] at H
       exact absurd H (by simp)
     ·rw [if_neg c6] at H
      have c6b0 : decide (x4_1 < (l0.length : Int)) = false := decide_eq_false c6
      clear c6
      obtain rfl := Option.some.inj H
      go_wp2
      go_ret
      exact ⟨_, by first | rfl | (simp [errW_none, errW_some] <;> rfl) | (simp [*, errW_none, errW_some] <;> rfl), by (with_reducible repeat (first | apply Kd.S_alloc | apply Kd.S_drewN | apply Kd.S_drew)); exact HO_3.out, by repeat (first | (with_reducible first | exact HB.out | apply aJ | apply aE | apply aH) | exact HB.out)⟩
  ·rw [if_neg c3] at H
   exact absurd H (by simp)
 ·rw [if_neg c2] at H
  exact absurd H (by simp)
def laws_toWr.f (k : Nat) (a0_0 : Int) (l0_1 : List Int) : Option (Int × List Int) := (laws_toByteS.f k l0_1).bind fun t153 => (some (a0_0, t153))
set_option maxHeartbeats 8000000 in
set_option maxRecDepth 100000 in
theorem laws_toWr.calls (k : Nat) (a0_0 : Int) (A0_1 : Option Addr) (c0_1 : Nat) (l0_1 : List Int) (r1 : Int) (r2 : List Int) (w : World) (hr0_1 : Kd.C (Kd.int .u8) w A0_1 l0_1.length l0_1) (hc0_1 : l0_1.length ≤ c0_1) (h : laws_toWr.f k a0_0 l0_1 = some (r1, r2)) :
  Calls Try.prog 71 #[.agg #[.int .i64 a0_0, .slice A0_1 l0_1.length c0_1]] w fun e w' => ∃ v1_ : Value, e = .returned (.agg #[.int .i64 r1, v1_]) ∧ Kd.R (Kd.int .u8) 5 w' w.heap.size (fun _ => True) v1_ r2 ∧ Below w.heap.size w w' := by
 have hu81 := Try.underlying81
 have hu50 := Try.underlying50
 have HR0_1 := aC.mk hr0_1
 have HC0_1 := aC.mk hc0_1
 clear hr0_1 hc0_1
 have HB := aC.mk (Below.refl w.heap.size w)
 have H : ((laws_toByteS.f k l0_1).bind fun t153 => (some (a0_0, t153))) = some (r1, r2) := h
 clear h
 replace H := lF H
 obtain ⟨t153, A20, H⟩ := H
 replace H : (some (a0_0, t153)) = some (r1, r2) := H
 have A2 := aC.mk A20
 clear A20
 simp only [Option.some.injEq, Prod.mk.injEq] at H
 obtain ⟨rfl, rfl⟩ := H
 go_enter Try.func71, Try.ntmps71
 go_wp2_with (first | ((with_reducible refine bC (N := 1) rfl ?_); refine bB ?hg (N := 1) ?hd (cs := #[.int .i64 a0_0, .slice A0_1 l0_1.length c0_1]) (t := 81) ?hr ?_; (case hd => rfl); (case hg => rfl); (case hr => first | (go_simp; done) | (go_simp; rfl)); intro gb150 hg w3 hbox hb; have n0_ := aC.mk (aV (by repeat (first | (with_reducible first | exact HB.out | apply aJ | apply aE | apply aH) | exact HB.out)) hb); have n1_ := aC.mk (hbox); have n2_ := aC.mk ((by rw [hg]; exact (aW (by repeat (first | (with_reducible first | exact HB.out | apply aJ | apply aE | apply aH) | exact HB.out))) : w.heap.size ≤ gb150)); have n3_ := aC.mk ((by rw [hg]; exact (aW (by repeat (first | (with_reducible first | exact HB.out | apply aJ | apply aE | apply aH) | exact HB.out))) : w.heap.size ≤ gb150)); clear HB; have HB := n0_; have BK150 := n1_; have GW150 := n2_; have GE150 := n3_; clear n0_ n1_ n2_ n3_; clear hb hbox hg) | ((with_reducible refine bC (N := 2) rfl ?_); refine bB ?hg (N := 2) ?hd (cs := #[.int .i64 0, .slice none 0 0]) (t := 50) ?hr ?_; (case hd => rfl); (case hg => rfl); (case hr => first | (go_simp; done) | (go_simp; rfl)); intro gb151 hg w4 hbox hb; have n0_ := aC.mk (aM (g := gb150) (o := .cells #[.int .i64 a0_0, .slice A0_1 l0_1.length c0_1] 81 (0, 0)) (by (with_reducible repeat (first | refine aT ?_ _ | refine aQ ?_ | refine aN ?_ _)); exact BK150.out) hb); have n1_ := aC.mk (aV (by repeat (first | (with_reducible first | exact HB.out | apply aJ | apply aE | apply aH | refine aG ?_ GE150.out) | exact HB.out)) hb); have n2_ := aC.mk (hbox); have n3_ := aC.mk ((by rw [hg]; exact (aW (by repeat (first | (with_reducible first | exact HB.out | apply aJ | apply aE | apply aH | refine aG ?_ GE150.out) | exact HB.out))) : w.heap.size ≤ gb151)); have n4_ := aC.mk ((by rw [hg]; exact (aW (by repeat (first | (with_reducible first | exact HB.out | apply aJ | apply aE | apply aH | refine aG ?_ GE150.out) | exact HB.out))) : w.heap.size ≤ gb151)); have n5_ := aC.mk ((by rw [hg]; exact Nat.ne_of_lt (bG (g := gb150) (o := .cells #[.int .i64 a0_0, .slice A0_1 l0_1.length c0_1] 81 (0, 0)) (by (with_reducible repeat (first | refine aT ?_ _ | refine aQ ?_ | refine aN ?_ _)); exact BK150.out)) : gb150 ≠ gb151)); have n6_ := aC.mk ((by rw [hg]; exact Nat.ne_of_gt (bG (g := gb150) (o := .cells #[.int .i64 a0_0, .slice A0_1 l0_1.length c0_1] 81 (0, 0)) (by (with_reducible repeat (first | refine aT ?_ _ | refine aQ ?_ | refine aN ?_ _)); exact BK150.out)) : gb151 ≠ gb150)); clear BK150; clear HB; have BK150 := n0_; have HB := n1_; have BK151 := n2_; have GW151 := n3_; have GE151 := n4_; have NB150_151 := n5_; have NB151_150 := n6_; clear n0_ n1_ n2_ n3_ n4_ n5_ n6_; clear hb hbox hg) | ((with_reducible refine bC (N := 3) rfl ?_); refine bB ?hg (N := 3) ?hd (cs := #[.int .i64 0, .slice none 0 0]) (t := 50) ?hr ?_; (case hd => rfl); (case hg => rfl); (case hr => first | (go_simp; done) | (go_simp; rfl)); intro gb152 hg w5 hbox hb; have n0_ := aC.mk (aM (g := gb150) (o := .cells #[.int .i64 a0_0, .slice A0_1 l0_1.length c0_1] 81 (0, 0)) (by (with_reducible repeat (first | refine aT ?_ _ | refine aQ ?_ | refine aN ?_ _)); exact BK150.out) hb); have n1_ := aC.mk (aM (g := gb151) (o := .cells #[.int .i64 0, .slice none 0 0] 50 (0, 0)) (by (with_reducible repeat (first | refine aT ?_ _ | refine aQ ?_ | refine aN ?_ _)); exact BK151.out) hb); have n2_ := aC.mk (aV (by repeat (first | (with_reducible first | exact HB.out | apply aJ | apply aE | apply aH | refine aG ?_ GE150.out | refine aG ?_ GE151.out) | exact HB.out)) hb); have n3_ := aC.mk (hbox); have n4_ := aC.mk ((by rw [hg]; exact (aW (by repeat (first | (with_reducible first | exact HB.out | apply aJ | apply aE | apply aH | refine aG ?_ GE150.out | refine aG ?_ GE151.out) | exact HB.out))) : w.heap.size ≤ gb152)); have n5_ := aC.mk ((by rw [hg]; exact (aW (by repeat (first | (with_reducible first | exact HB.out | apply aJ | apply aE | apply aH | refine aG ?_ GE150.out | refine aG ?_ GE151.out) | exact HB.out))) : w.heap.size ≤ gb152)); have n6_ := aC.mk ((by rw [hg]; exact Nat.ne_of_lt (bG (g := gb150) (o := .cells #[.int .i64 a0_0, .slice A0_1 l0_1.length c0_1] 81 (0, 0)) (by (with_reducible repeat (first | refine aT ?_ _ | refine aQ ?_ | refine aN ?_ _)); exact BK150.out)) : gb150 ≠ gb152)); have n7_ := aC.mk ((by rw [hg]; exact Nat.ne_of_gt (bG (g := gb150) (o := .cells #[.int .i64 a0_0, .slice A0_1 l0_1.length c0_1] 81 (0, 0)) (by (with_reducible repeat (first | refine aT ?_ _ | refine aQ ?_ | refine aN ?_ _)); exact BK150.out)) : gb152 ≠ gb150)); have n8_ := aC.mk ((by rw [hg]; exact Nat.ne_of_lt (bG (g := gb151) (o := .cells #[.int .i64 0, .slice none 0 0] 50 (0, 0)) (by (with_reducible repeat (first | refine aT ?_ _ | refine aQ ?_ | refine aN ?_ _)); exact BK151.out)) : gb151 ≠ gb152)); have n9_ := aC.mk ((by rw [hg]; exact Nat.ne_of_gt (bG (g := gb151) (o := .cells #[.int .i64 0, .slice none 0 0] 50 (0, 0)) (by (with_reducible repeat (first | refine aT ?_ _ | refine aQ ?_ | refine aN ?_ _)); exact BK151.out)) : gb152 ≠ gb151)); clear BK150; clear BK151; clear HB; have BK150 := n0_; have BK151 := n1_; have HB := n2_; have BK152 := n3_; have GW152 := n4_; have GE152 := n5_; have NB150_152 := n6_; have NB152_150 := n7_; have NB151_152 := n8_; have NB152_151 := n9_; clear n0_ n1_ n2_ n3_ n4_ n5_ n6_ n7_ n8_ n9_; clear hb hbox hg; have hnb6 := NB150_151.out; have hnc6 := NB151_150.out; have hnb7 := NB150_152.out; have hnc7 := NB152_150.out; have hcz8_0 : w5.cell? ⟨gb150, 0, none⟩ = some (.int .i64 a0_0) := (aD BK150.out 0).trans rfl; have hcz8_1 : w5.cell? ⟨gb150, 1, none⟩ = some (.slice A0_1 l0_1.length c0_1) := (aD BK150.out 1).trans rfl; have hfz8_0 := aA BK150.out 0; have hfz8_1 := aA BK150.out 1; have hnb9 := NB152_151.out; have hnc9 := NB151_152.out; have hcz10_0 : w5.cell? ⟨gb152, 0, none⟩ = some (.int .i64 0) := (aD BK152.out 0).trans rfl; have hcz10_1 : w5.cell? ⟨gb152, 1, none⟩ = some (.slice none 0 0) := (aD BK152.out 1).trans rfl; have hfz10_0 := aA BK152.out 0; have hfz10_1 := aA BK152.out 1) | ((with_reducible refine aY (f := 27) rfl ?_); refine bJ (some 9) rfl rfl Try.func27 (by kernel_rfl) rfl #[.slice A0_1 l0_1.length c0_1] rfl (by (try simp only [List.map_toArray, List.map_cons, List.map_nil]); first | done | rfl | (simp only [List.length_drop, List.length_take]; rfl)) ?_; (with_reducible refine (laws_toByteS.calls k _ _ l0_1 t153 _ ?side1 ?side2 A2.out).mono ?_); (case side1 => exact Kd.bL HR0_1.out (by repeat (first | (with_reducible first | exact HB.out | apply aJ | apply aE | apply aH | refine aG ?_ GE150.out | refine aG ?_ GE151.out | refine aG ?_ GE152.out) | exact HB.out))); (case side2 => exact HC0_1.out); rintro e w11 ⟨v154, rfl, ho0, hb⟩; refine ⟨_, rfl, ?_⟩; have n0_ := aC.mk (Kd.R_lower ho0 (aW (by repeat (first | (with_reducible first | exact HB.out | apply aJ | apply aE | apply aH | refine aG ?_ GE150.out | refine aG ?_ GE151.out | refine aG ?_ GE152.out) | exact HB.out)))); have n1_ := aC.mk (aM (g := gb150) (o := .cells #[.int .i64 a0_0, .slice A0_1 l0_1.length c0_1] 81 (0, 0)) (by (with_reducible repeat (first | refine aT ?_ _ | refine aQ ?_ | refine aN ?_ _)); refine blk_far ?_ NB150_152.out _; (with_reducible repeat (first | refine aT ?_ _ | refine aQ ?_ | refine aN ?_ _)); exact BK150.out) hb); have n2_ := aC.mk (aM (g := gb151) (o := .cells #[.int .i64 0, .slice none 0 0] 50 (0, 0)) (by (with_reducible repeat (first | refine aT ?_ _ | refine aQ ?_ | refine aN ?_ _)); refine blk_far ?_ NB151_152.out _; (with_reducible repeat (first | refine aT ?_ _ | refine aQ ?_ | refine aN ?_ _)); exact BK151.out) hb); have n3_ := aC.mk (aM (g := gb152) (o := .cells #[.int .i64 a0_0, .slice none 0 0] 50 (0, 0)) (by (with_reducible repeat (first | refine aT ?_ _ | refine aQ ?_ | refine aN ?_ _)); refine aX (cs := #[.int .i64 0, .slice none 0 0]) ?_ 0 _ rfl; (with_reducible repeat (first | refine aT ?_ _ | refine aQ ?_ | refine aN ?_ _)); exact BK152.out) hb); have n4_ := aC.mk (aV (by repeat (first | (with_reducible first | exact HB.out | apply aJ | apply aE | apply aH | refine aG ?_ GE150.out | refine aG ?_ GE151.out | refine aG ?_ GE152.out) | exact HB.out)) hb); clear BK150; clear BK151; clear BK152; clear HB; have HO155 := n0_; have BK150 := n1_; have BK151 := n2_; have BK152 := n3_; have HB := n4_; clear n0_ n1_ n2_ n3_ n4_; (try clear hb); (try clear ho0); obtain ⟨Ao12, co12, eo12⟩ := Kd.R_slice HO155.out; subst eo12; have hcz13_0 : w11.cell? ⟨gb152, 0, none⟩ = some (.int .i64 a0_0) := (aD BK152.out 0).trans rfl; have hcz13_1 : w11.cell? ⟨gb152, 1, none⟩ = some (.slice none 0 0) := (aD BK152.out 1).trans rfl; have hfz13_0 := aA BK152.out 0; have hfz13_1 := aA BK152.out 1; have hcz14_0 : w11.cell? ⟨gb151, 0, none⟩ = some (.int .i64 0) := (aD BK151.out 0).trans rfl; have hcz14_1 : w11.cell? ⟨gb151, 1, none⟩ = some (.slice none 0 0) := (aD BK151.out 1).trans rfl; have hfz14_0 := aA BK151.out 0; have hfz14_1 := aA BK151.out 1))
 refine bodyPost_ret (results_cell_row rfl _ _ gb151 50 #[.int .i64 a0_0, .slice Ao12 t153.length co12] (0, 0) _ rfl (by (with_reducible repeat (first | refine aT ?_ _ | refine aQ ?_ | refine aN ?_ _)); refine aX (cs := #[.int .i64 a0_0, .slice none 0 0]) ?_ 1 _ rfl; (with_reducible repeat (first | refine aT ?_ _ | refine aQ ?_ | refine aN ?_ _)); refine aX (cs := #[.int .i64 0, .slice none 0 0]) ?_ 0 _ rfl; (with_reducible repeat (first | refine aT ?_ _ | refine aQ ?_ | refine aN ?_ _)); refine blk_far ?_ NB151_152.out _; (with_reducible repeat (first | refine aT ?_ _ | refine aQ ?_ | refine aN ?_ _)); exact BK151.out) Try.underlying50 rfl (by kernel_rfl)) rfl ?_
 exact ⟨_, by first | rfl | (simp [errW_none, errW_some] <;> rfl) | (simp [*, errW_none, errW_some] <;> rfl), by (with_reducible repeat (first | apply Kd.R_alloc | apply Kd.R_drewN | apply Kd.R_drew)); exact Kd.R_mono (Kd.R_far (p := ⟨gb151, 1, none⟩) (Kd.R_far (p := ⟨gb151, 0, none⟩) (Kd.R_far (p := ⟨gb152, 1, none⟩) (Kd.R_types (Kd.R_types HO155.out BK152.out (by decide)) BK151.out (by decide)) (fun _ hk => hk.1.2) (.slice Ao12 t153.length co12)) (fun _ hk => hk.2) (.int .i64 a0_0)) (fun _ hk => hk.2) (.slice Ao12 t153.length co12)) (fun _ hk => trivial), by repeat (first | (with_reducible first | exact HB.out | apply aJ | apply aE | apply aH | refine aG ?_ GE150.out | refine aG ?_ GE151.out | refine aG ?_ GE152.out) | exact HB.out)⟩
def laws_toWrS.l0 : Nat → List (S81) → List (S50) → Int → Option ((List (S50)))
 | 0, _, _, _ => none
 | k + 1, x0, x3, x4 => if x4 < (x0.length : Int) then (if 0 ≤ x4 then ((laws_toWr.f k ((rd_T81 x0 x4).f0) ((rd_T81 x0 x4).f1)).bind fun bt160 => (if x4 < (x3.length : Int) then (laws_toWrS.l0 k x0 (x3.set (x4 : Int).toNat (⟨bt160.1, bt160.2⟩ : S50)) (wrap64 (x4 + 1))) else (none))) else (none)) else (some x3)
def laws_toWrS.f (k : Nat) (l0 : List (S81)) : Option ((List (S50))) := if 0 ≤ (l0.length : Int) then (if ((l0.length : Int) : Int).toNat ≤ 8796093022208 then (laws_toWrS.l0 k l0 (List.replicate ((l0.length : Int) : Int).toNat z50) 0) else (none)) else (none)
set_option maxHeartbeats 8000000 in
set_option maxRecDepth 100000 in
theorem laws_toWrS.calls (k : Nat) (A0 : Option Addr) (c0 : Nat) (l0 : List (S81)) (r : List (S50)) (w : World) (hr0 : Kd.C k81 w A0 l0.length l0) (hc0 : l0.length ≤ c0) (h : laws_toWrS.f k l0 = some r) :
  Calls Try.prog 54 #[.slice A0 l0.length c0] w fun e w' => ∃ v0_ : Value, e = .returned (v0_) ∧ Kd.S k50 50 w' w.heap.size (fun _ => True) v0_ r ∧ Below w.heap.size w w' := by
 have hu81 := Try.underlying81
 have hu50 := Try.underlying50
 have HR0 := aC.mk hr0
 have HC0 := aC.mk hc0
 clear hr0 hc0
 have HB := aC.mk (Below.refl w.heap.size w)
 have H : (if 0 ≤ (l0.length : Int) then (if ((l0.length : Int) : Int).toNat ≤ 8796093022208 then (laws_toWrS.l0 k l0 (List.replicate ((l0.length : Int) : Int).toNat z50) 0) else (none)) else (none)) = some r := h
 clear h
 by_cases c2 : 0 ≤ (l0.length : Int)
 ·rw [if_pos c2] at H
  have c2b0 := eq_true c2
  have c2b1 : decide (0 ≤ (l0.length : Int)) = true := decide_eq_true c2
  clear c2
  by_cases c3 : ((l0.length : Int) : Int).toNat ≤ 8796093022208
  ·rw [if_pos c3] at H
   have c3b0 := eq_true c3
   have c3b1 : decide (((l0.length : Int) : Int).toNat ≤ 8796093022208) = true := decide_eq_true c3
   clear c3
   obtain ⟨y156, hy156⟩ : ∃ y_ : List (S50), y_ = (List.replicate ((l0.length : Int) : Int).toNat z50) := ⟨_, rfl⟩
   replace H : (laws_toWrS.l0 k l0 y156 0) = some r := by first | (rw [hy156]; with_reducible exact H) | (have H2_ := (Option.bind_some _ _).symm.trans H; rw [hy156]; with_reducible exact H2_) | (have H2_ := (Option.bind_some _ _).symm.trans H; with_reducible exact H2_) | with_reducible exact H | (rw [hy156]; exact H) | exact H
   have Ny156 := aC.mk hy156
   clear hy156
   have H' := aC.mk H
   clear H
   go_enter Try.func54, Try.ntmps54
   go_wp2_with (first | ((with_reducible refine bC (N := 7) rfl ?_); refine Kd.S_make k50 _ 50 rfl (N := 7) rfl 23 _ _ rfl (l0.length : Int) rfl rfl Try.underlying23 (.agg #[(.int .i64 0), (.slice none 0 0)]) 32 info50 rfl (by decide) (by omega) z50 (ok := fun _ => True) (okp := fun _ => True) (k50_mkM _ _ _ z50 (Kd.R_nil _ _ _ _ _)) (fun _ hk => hk) trivial (lE (by first | (with_reducible assumption) | assumption)) (Nat.le_trans (Nat.mul_le_mul_right _ (lE (by first | (with_reducible assumption) | assumption) : (l0.length : Int).toNat ≤ 8796093022208)) (by omega)) (Below.refl _ _) (Nat.le_refl _) ?_; intro v157 w4 ho5 hb hg_ hnew_; clear hg_ hnew_; (first | rw [← Ny156.out] at ho5 | (simp only [Int.reduceToNat] at ho5; rw [← Ny156.out] at ho5)); have n0_ := aC.mk (Kd.S_lower ho5 (aW (by repeat (first | (with_reducible first | exact HB.out | apply aJ | apply aE | apply aH) | exact HB.out)))); have n1_ := aC.mk (aV (by repeat (first | (with_reducible first | exact HB.out | apply aJ | apply aE | apply aH) | exact HB.out)) hb); clear HB; have HO158 := n0_; have HB := n1_; clear n0_ n1_; clear hb ho5))
   go_loopg [4] k (fun kq v4 w' => ∃ (x3_1 : List (S50)) (x4_1 : Int), v4 = .int .i64 x4_1 ∧ aC (laws_toWrS.l0 kq l0 x3_1 x4_1 = some r) ∧ aC (kq ≤ k) ∧ aC (Kd.S k50 50 w' w.heap.size (fun _ => True) v157 x3_1) ∧ aC (Below w.heap.size w w'))
   case atStart => exact ⟨(y156), (0), (by first | rfl | (simp; done) | (simp [*]; done)), H', ⟨Nat.le_refl _⟩, ⟨by (with_reducible repeat (first | apply Kd.S_alloc | apply Kd.S_drewN | apply Kd.S_drew)); exact HO158.out⟩, ⟨by repeat (first | (with_reducible first | exact HB.out | apply aJ | apply aE | apply aH) | exact HB.out)⟩⟩
   case round =>
    clear H'
    try clear c2
    try clear c2b0
    try clear c2b1
    try clear p2
    try clear c3
    try clear c3b0
    try clear c3b1
    try clear c5
    obtain ⟨x3_1, x4_1, rfl, HA, HK1, HO_3, HB⟩ := hrel
    cases gk with
    | zero => exact absurd HA.out (by simp [laws_toWrS.l0])
    | succ k1 =>
     have H := HA.out
     clear HA
     simp only [laws_toWrS.l0] at H
     by_cases c6 : x4_1 < (l0.length : Int)
     ·rw [if_pos c6] at H
      have c6b0 : decide (x4_1 < (l0.length : Int)) = true := decide_eq_true c6
      clear c6
      by_cases c7 : 0 ≤ x4_1
      ·rw [if_pos c7] at H
       have c7b0 : decide (0 ≤ x4_1) = true := decide_eq_true c7
       clear c7
       replace H := lF H
       obtain ⟨⟨t160, t161⟩, A80, H⟩ := H
       replace H : (if x4_1 < (x3_1.length : Int) then (laws_toWrS.l0 k1 l0 (x3_1.set (x4_1 : Int).toNat (⟨t160, t161⟩ : S50)) (wrap64 (x4_1 + 1))) else (none)) = some r := H
       have A8 := aC.mk A80
       clear A80
       by_cases c9 : x4_1 < (x3_1.length : Int)
       ·rw [if_pos c9] at H
        have c9b0 : decide (x4_1 < (x3_1.length : Int)) = true := decide_eq_true c9
        clear c9
        obtain ⟨y164, hy164⟩ : ∃ y_ : List (S50), y_ = (x3_1.set (x4_1 : Int).toNat (⟨t160, t161⟩ : S50)) := ⟨_, rfl⟩
        replace H : (laws_toWrS.l0 k1 l0 y164 (wrap64 (x4_1 + 1))) = some r := by first | (rw [hy164]; with_reducible exact H) | (have H2_ := (Option.bind_some _ _).symm.trans H; rw [hy164]; with_reducible exact H2_) | (have H2_ := (Option.bind_some _ _).symm.trans H; with_reducible exact H2_) | with_reducible exact H | (rw [hy164]; exact H) | exact H
        have Ny164 := aC.mk hy164
        clear hy164
        have H' := aC.mk H
        clear H
        have p159 : 0 ≤ (x4_1 : Int) := lE (by first | (with_reducible assumption) | assumption)
        have q159 : x4_1 < (l0.length : Int) := lE (by first | (with_reducible assumption) | assumption)
        obtain ⟨ad159, A159_1, c159_1, e159, hx159_0, hx159_1, hl159_1, hi159_1⟩ := at_T81 HR0.out x4_1 p159 q159
        cases e159
        replace hx159_0 := (HB.out.cell (lD w _ hx159_0)).trans hx159_0
        replace hx159_1 := (HB.out.cell (lD w _ hx159_1)).trans hx159_1
        have HR159_1 := aC.mk hi159_1
        have HC159_1 := aC.mk hl159_1
        clear hi159_1 hl159_1
        replace p159 := eq_true p159
        replace q159 := eq_true q159
        go_wp2_with (first | ((with_reducible refine aY (f := 71) rfl ?_); refine bJ (some 20) rfl rfl Try.func71 (by kernel_rfl) rfl #[.agg #[.int .i64 ((rd_T81 l0 x4_1).f0), .slice A159_1 ((rd_T81 l0 x4_1).f1).length c159_1]] rfl (by (try simp only [List.map_toArray, List.map_cons, List.map_nil]); first | done | rfl | (simp only [List.length_drop, List.length_take]; rfl)) ?_; (with_reducible refine (laws_toWr.calls k1 ((rd_T81 l0 x4_1).f0) _ _ ((rd_T81 l0 x4_1).f1) t160 t161 _ ?side1 ?side2 A8.out).mono ?_); (case side1 => repeat (first | exact (Kd.bL HR159_1.out HB.out) | (with_reducible refine Kd.bN ?_ _) | (with_reducible refine Kd.bM ?_ _) | (with_reducible refine Kd.bQ ?_))); (case side2 => exact HC159_1.out); rintro e w11 ⟨v162, rfl, ho0, hb⟩; refine ⟨_, rfl, ?_⟩; have n0_ := aC.mk (Kd.S_elder' (by (with_reducible repeat (first | apply Kd.S_alloc | apply Kd.S_drewN | apply Kd.S_drew)); exact HO_3.out) (Kd.R_base ho0) hb); have n1_ := aC.mk (Kd.R_lower ho0 (aW (by repeat (first | (with_reducible first | exact HB.out | apply aJ | apply aE | apply aH) | exact HB.out)))); have n2_ := aC.mk (aV (by repeat (first | (with_reducible first | exact HB.out | apply aJ | apply aE | apply aH) | exact HB.out)) hb); clear HO_3; clear HB; have HO_3 := n0_; have HO163 := n1_; have HB := n2_; clear n0_ n1_ n2_; (try clear hb); (try clear hk); (try clear ho0); have p10 : 0 ≤ (x4_1 : Int) := lE (by first | (with_reducible assumption) | assumption); have q10 : (x4_1 : Int) < ((x3_1.length : Int) : Int) := lE (by first | (with_reducible assumption) | assumption); obtain ⟨go10, co10, eo10, gb10, gl10, cl10, HG10⟩ := Kd.S_form HO_3.out (by omega); (first | cases eo10 | (injection eo10 with ea_ en_ ec_; (first | subst ea_ | (injection ea_ with ea_; subst ea_)); subst ec_; clear en_)); have GB10 := aC.mk gb10; have GG10 := aC.mk HG10; clear gb10 gl10 HG10; obtain ⟨_, ce10, hcl10, hM10, hcc10, hfr10, _, _⟩ := Kd.S_elem HO_3.out z50 (x4_1 : Int) p10 q10; obtain ⟨ve10_1, rfl, ge10_1⟩ := k50_openM hM10; have hx10_0 : w11.cell? ⟨go10, (x4_1 : Int).toNat * 2, none⟩ = some (.int .i64 ((rd_T50 x3_1 x4_1).f0)) := hcc10 0 _ rfl; have hx10_1 : w11.cell? ⟨go10, (x4_1 : Int).toNat * 2 + 1, none⟩ = some (ve10_1) := hcc10 1 _ rfl; have hf10_0 : w11.frozen? ⟨go10, (x4_1 : Int).toNat * 2, none⟩ = false := hfr10 0; have hf10_1 : w11.frozen? ⟨go10, (x4_1 : Int).toNat * 2 + 1, none⟩ = false := hfr10 1; (try clear hcl10); (try clear hcc10); (try clear hfr10); (try clear hM10); replace p10 := eq_true p10; replace q10 := eq_true q10; have n_ := aC.mk (Kd.S_mono (ok' := (fun k_ => some k_ ≠ (v162 : Value).ownBlock)) HO_3.out (fun k_ hk => hk.2)); clear HO_3; have HO_3 := n_; clear n_; have HX12 := aC.mk (show Kd.S k50 50 w11 w.heap.size (fun k_ => ((fun _ => True)) k_ ∧ ¬ ((fun k_ => some k_ = (v162 : Value).ownBlock)) k_) (.slice (some ⟨go10, 0, none⟩) x3_1.length co10) x3_1 from (by (with_reducible repeat (first | apply Kd.S_alloc | apply Kd.S_drewN | apply Kd.S_drew)); exact Kd.S_mono HO_3.out (fun k_ hk => ⟨trivial, fun e_ => hk e_⟩))); obtain ⟨oki12, ce12, hcl12, hM12, hcc12, hfr12, hoki12, hH12⟩ := Kd.S_elem HX12.out z50 (x4_1 : Int) (lE (by first | (with_reducible assumption) | assumption)) (by have h_ : (x4_1 : Int) < ((x3_1.length : Int) : Int) := lE (by first | (with_reducible assumption) | assumption); first | exact h_ | (have e_ := (Kd.S_reads' HO_3.out).1; omega) | simpa using h_); obtain ⟨ve12_1, rfl, ge12_1⟩ := k50_openM hM12; have HP12 := Kd.S_seg hH12 (lE (by first | (with_reducible assumption) | assumption)) (by have h_ : (x4_1 : Int) < ((x3_1.length : Int) : Int) := lE (by first | (with_reducible assumption) | assumption); first | exact h_ | (have e_ := (Kd.S_reads' HO_3.out).1; omega) | simpa using h_) (seg := [.int .i64 t160, v162]) (j := 0) (show 2 ≤ 2 from by decide) (x' := (⟨t160, t161⟩ : S50)) (k50_mkM _ _ _ (⟨t160, t161⟩ : S50) (Kd.R_mono (Kd.R_tight rfl (Kd.R_mono (ok' := fun k_ => ((fun _ => True)) k_ ∧ k_ ≠ go10) (Kd.R_apart' (HO163.out) (Kd.S_typed HO_3.out) (by decide)) (fun k_ hk => ⟨trivial, fun e_ => (hk.2) (by rw [e_]; rfl)⟩))) (fun _ h_ => Or.inr (h_)))) (fun _ hk => hk) (fun k_ hk_ => ((Kd.R_mono (ok' := fun k_ => ((fun _ => True)) k_ ∧ k_ ≠ go10) (Kd.R_apart' (HO163.out) (Kd.S_typed HO_3.out) (by decide)) (fun k_ hk => ⟨trivial, fun e_ => (hk.2) (by rw [e_]; rfl)⟩))).1 k_ hk_.symm); have hx12_0 := hcc12 0 _ rfl; (try simp only [show (k50).sz = 2 from rfl, Nat.mul_one, Nat.add_zero] at hx12_0); have hf12_0 := hfr12 0; (try simp only [show (k50).sz = 2 from rfl, Nat.mul_one, Nat.add_zero] at hf12_0); have hx12_1 := hcc12 1 _ rfl; (try simp only [show (k50).sz = 2 from rfl, Nat.mul_one, Nat.add_zero] at hx12_1); have hf12_1 := hfr12 1; (try simp only [show (k50).sz = 2 from rfl, Nat.mul_one, Nat.add_zero] at hf12_1); (try clear hcl12); (try clear hcc12); (try clear hfr12); (try clear hM12); (try clear hoki12); (try clear hH12)) | ((with_reducible refine bP (t := 50) (p := 21) rfl ?_); refine bK (t := 50) (p := 21) (v := ?vo_w13) (w1 := ((w11.setCell ⟨go10, (x4_1 : Int).toNat * 2, none⟩ (.int .i64 t160)).setCell ⟨go10, (x4_1 : Int).toNat * 2 + 1, none⟩ (v162))) ?hg ?ho ?hn ?hr ?_; (case ho => rfl); (case hg => rfl); (case hn => rfl); (case hr => first | (go_simp; done) | (go_simp; rfl) | (obtain ⟨Az_, cz_, ez_, _⟩ := Kd.R_reads HO163.out; subst ez_; go_simp; done) | (obtain ⟨Az_, cz_, ez_, _⟩ := Kd.R_reads HO163.out; subst ez_; go_simp; rfl) | (obtain ⟨Az_, cz_, ez_, _⟩ := Kd.S_reads HO163.out; subst ez_; go_simp; done) | (obtain ⟨Az_, cz_, ez_, _⟩ := Kd.S_reads HO163.out; subst ez_; go_simp; rfl) | (obtain ⟨Az_, cz_, ez_, _⟩ := Kd.N_reads HO163.out; subst ez_; go_simp; done) | (obtain ⟨Az_, cz_, ez_, _⟩ := Kd.N_reads HO163.out; subst ez_; go_simp; rfl) | (obtain ⟨Az_, cz_, ez_, _⟩ := Kd.Q_reads HO163.out; subst ez_; go_simp; done) | (obtain ⟨Az_, cz_, ez_, _⟩ := Kd.Q_reads HO163.out; subst ez_; go_simp; rfl) | (obtain ⟨Az_, cz_, ez_⟩ := Kd.V_slice HO163.out; subst ez_; go_simp; done)); intro w13 hw; have hg : w11.grownBy w13 (some go10) := (by rw [hw]; exact HP12.2); have hp_ : Kd.S k50 50 w13 w.heap.size (fun _ => True) (.slice (some ⟨go10, 0, none⟩) x3_1.length co10) y164 := (by rw [hw, Ny164.out]; exact HP12.1); clear HP12; have n0_ := aC.mk (hp_); have n1_ := aC.mk ((by rw [hw]; exact aG (aG (HB.out) GB10.out) GB10.out : Below w.heap.size w w13)); clear HO_3; clear HB; clear HO163; have HO_3 := n0_; have HB := n1_; clear n0_ n1_; clear hg hw hp_))
        go_roundg k1
        case measure => have := HK1.out; omega
        case rel => exact ⟨(y164), (wrap64 (x4_1 + 1)), (by first | rfl | (simp; done) | (simp [*]; done)), H', ⟨by have := HK1.out; omega⟩, ⟨by (with_reducible repeat (first | apply Kd.S_alloc | apply Kd.S_drewN | apply Kd.S_drew)); exact HO_3.out⟩, ⟨by repeat (first | (with_reducible first | exact HB.out | apply aJ | apply aE | apply aH) | exact HB.out)⟩⟩
       ·rw [if_neg c9] at H
        exact absurd H (by simp)
      ·rw [if_neg c7] at H
       exact absurd H (by simp)
     ·rw [if_neg c6] at H
      have c6b0 : decide (x4_1 < (l0.length : Int)) = false := decide_eq_false c6
      clear c6
      obtain rfl := Option.some.inj H
      go_wp2
      go_ret
      exact ⟨_, by first | rfl | (simp [errW_none, errW_some] <;> rfl) | (simp [*, errW_none, errW_some] <;> rfl), by (with_reducible repeat (first | apply Kd.S_alloc | apply Kd.S_drewN | apply Kd.S_drew)); exact HO_3.out, by repeat (first | (with_reducible first | exact HB.out | apply aJ | apply aE | apply aH) | exact HB.out)⟩
  ·rw [if_neg c3] at H
   exact absurd H (by simp)
 ·rw [if_neg c2] at H
  exact absurd H (by simp)
def laws_toDev.f (k : Nat) (l0_0 : List (List Int)) (l0_1 : List (S81)) (a0_2 : Int) (a0_3 : Bool) : Option ((List (List Int)) × (List (S50)) × Int × Bool) := (laws_toByteSS.f k l0_0).bind fun t168 => ((laws_toWrS.f k l0_1).bind fun t171 => (some (t168, t171, a0_2, a0_3)))
set_option maxHeartbeats 8000000 in
set_option maxRecDepth 100000 in
theorem laws_toDev.calls (k : Nat) (A0_0 : Option Addr) (c0_0 : Nat) (l0_0 : List (List Int)) (A0_1 : Option Addr) (c0_1 : Nat) (l0_1 : List (S81)) (a0_2 : Int) (a0_3 : Bool) (r1 : List (List Int)) (r2 : List (S50)) (r3 : Int) (r4 : Bool) (w : World) (hr0_0 : Kd.C (Kd.slice 5 (Kd.int .u8)) w A0_0 l0_0.length l0_0) (hc0_0 : l0_0.length ≤ c0_0) (hr0_1 : Kd.C k81 w A0_1 l0_1.length l0_1) (hc0_1 : l0_1.length ≤ c0_1) (h : laws_toDev.f k l0_0 l0_1 a0_2 a0_3 = some (r1, r2, r3, r4)) :
  Calls Try.prog 19 #[.agg #[.slice A0_0 l0_0.length c0_0, .slice A0_1 l0_1.length c0_1, .int .i64 a0_2, .bool a0_3]] w fun e w' => ∃ v0_ v1_ : Value, e = .returned (.agg #[v0_, v1_, .int .i64 r3, .bool r4]) ∧ Kd.S (Kd.slice 5 (Kd.int .u8)) 37 w' w.heap.size (fun _ => True) v0_ r1 ∧ Kd.S k50 50 w' w.heap.size (fun _ => True) v1_ r2 ∧ Below w.heap.size w w' := by
 have hu32 := Try.underlying32
 have hu25 := Try.underlying25
 have HR0_0 := aC.mk hr0_0
 have HC0_0 := aC.mk hc0_0
 clear hr0_0 hc0_0
 have HR0_1 := aC.mk hr0_1
 have HC0_1 := aC.mk hc0_1
 clear hr0_1 hc0_1
 have HB := aC.mk (Below.refl w.heap.size w)
 have H : ((laws_toByteSS.f k l0_0).bind fun t168 => ((laws_toWrS.f k l0_1).bind fun t171 => (some (t168, t171, a0_2, a0_3)))) = some (r1, r2, r3, r4) := h
 clear h
 replace H := lF H
 obtain ⟨t168, A20, H⟩ := H
 replace H : ((laws_toWrS.f k l0_1).bind fun t171 => (some (t168, t171, a0_2, a0_3))) = some (r1, r2, r3, r4) := H
 have A2 := aC.mk A20
 clear A20
 replace H := lF H
 obtain ⟨t171, A30, H⟩ := H
 replace H : (some (t168, t171, a0_2, a0_3)) = some (r1, r2, r3, r4) := H
 have A3 := aC.mk A30
 clear A30
 simp only [Option.some.injEq, Prod.mk.injEq] at H
 obtain ⟨rfl, rfl, rfl, rfl⟩ := H
 go_enter Try.func19, Try.ntmps19
 go_wp2_with (first | ((with_reducible refine bC (N := 1) rfl ?_); refine bB ?hg (N := 1) ?hd (cs := #[.slice A0_0 l0_0.length c0_0, .slice A0_1 l0_1.length c0_1, .int .i64 a0_2, .bool a0_3]) (t := 32) ?hr ?_; (case hd => rfl); (case hg => rfl); (case hr => first | (go_simp; done) | (go_simp; rfl)); intro gb165 hg w4 hbox hb; have n0_ := aC.mk (aV (by repeat (first | (with_reducible first | exact HB.out | apply aJ | apply aE | apply aH) | exact HB.out)) hb); have n1_ := aC.mk (hbox); have n2_ := aC.mk ((by rw [hg]; exact (aW (by repeat (first | (with_reducible first | exact HB.out | apply aJ | apply aE | apply aH) | exact HB.out))) : w.heap.size ≤ gb165)); have n3_ := aC.mk ((by rw [hg]; exact (aW (by repeat (first | (with_reducible first | exact HB.out | apply aJ | apply aE | apply aH) | exact HB.out))) : w.heap.size ≤ gb165)); clear HB; have HB := n0_; have BK165 := n1_; have GW165 := n2_; have GE165 := n3_; clear n0_ n1_ n2_ n3_; clear hb hbox hg) | ((with_reducible refine bC (N := 2) rfl ?_); refine bB ?hg (N := 2) ?hd (cs := #[.slice none 0 0, .slice none 0 0, .int .i64 0, .bool false]) (t := 25) ?hr ?_; (case hd => rfl); (case hg => rfl); (case hr => first | (go_simp; done) | (go_simp; rfl)); intro gb166 hg w5 hbox hb; have n0_ := aC.mk (aM (g := gb165) (o := .cells #[.slice A0_0 l0_0.length c0_0, .slice A0_1 l0_1.length c0_1, .int .i64 a0_2, .bool a0_3] 32 (0, 0)) (by (with_reducible repeat (first | refine aT ?_ _ | refine aQ ?_ | refine aN ?_ _)); exact BK165.out) hb); have n1_ := aC.mk (aV (by repeat (first | (with_reducible first | exact HB.out | apply aJ | apply aE | apply aH | refine aG ?_ GE165.out) | exact HB.out)) hb); have n2_ := aC.mk (hbox); have n3_ := aC.mk ((by rw [hg]; exact (aW (by repeat (first | (with_reducible first | exact HB.out | apply aJ | apply aE | apply aH | refine aG ?_ GE165.out) | exact HB.out))) : w.heap.size ≤ gb166)); have n4_ := aC.mk ((by rw [hg]; exact (aW (by repeat (first | (with_reducible first | exact HB.out | apply aJ | apply aE | apply aH | refine aG ?_ GE165.out) | exact HB.out))) : w.heap.size ≤ gb166)); have n5_ := aC.mk ((by rw [hg]; exact Nat.ne_of_lt (bG (g := gb165) (o := .cells #[.slice A0_0 l0_0.length c0_0, .slice A0_1 l0_1.length c0_1, .int .i64 a0_2, .bool a0_3] 32 (0, 0)) (by (with_reducible repeat (first | refine aT ?_ _ | refine aQ ?_ | refine aN ?_ _)); exact BK165.out)) : gb165 ≠ gb166)); have n6_ := aC.mk ((by rw [hg]; exact Nat.ne_of_gt (bG (g := gb165) (o := .cells #[.slice A0_0 l0_0.length c0_0, .slice A0_1 l0_1.length c0_1, .int .i64 a0_2, .bool a0_3] 32 (0, 0)) (by (with_reducible repeat (first | refine aT ?_ _ | refine aQ ?_ | refine aN ?_ _)); exact BK165.out)) : gb166 ≠ gb165)); clear BK165; clear HB; have BK165 := n0_; have HB := n1_; have BK166 := n2_; have GW166 := n3_; have GE166 := n4_; have NB165_166 := n5_; have NB166_165 := n6_; clear n0_ n1_ n2_ n3_ n4_ n5_ n6_; clear hb hbox hg) | ((with_reducible refine bC (N := 3) rfl ?_); refine bB ?hg (N := 3) ?hd (cs := #[.slice none 0 0, .slice none 0 0, .int .i64 0, .bool false]) (t := 25) ?hr ?_; (case hd => rfl); (case hg => rfl); (case hr => first | (go_simp; done) | (go_simp; rfl)); intro gb167 hg w6 hbox hb; have n0_ := aC.mk (aM (g := gb165) (o := .cells #[.slice A0_0 l0_0.length c0_0, .slice A0_1 l0_1.length c0_1, .int .i64 a0_2, .bool a0_3] 32 (0, 0)) (by (with_reducible repeat (first | refine aT ?_ _ | refine aQ ?_ | refine aN ?_ _)); exact BK165.out) hb); have n1_ := aC.mk (aM (g := gb166) (o := .cells #[.slice none 0 0, .slice none 0 0, .int .i64 0, .bool false] 25 (0, 0)) (by (with_reducible repeat (first | refine aT ?_ _ | refine aQ ?_ | refine aN ?_ _)); exact BK166.out) hb); have n2_ := aC.mk (aV (by repeat (first | (with_reducible first | exact HB.out | apply aJ | apply aE | apply aH | refine aG ?_ GE165.out | refine aG ?_ GE166.out) | exact HB.out)) hb); have n3_ := aC.mk (hbox); have n4_ := aC.mk ((by rw [hg]; exact (aW (by repeat (first | (with_reducible first | exact HB.out | apply aJ | apply aE | apply aH | refine aG ?_ GE165.out | refine aG ?_ GE166.out) | exact HB.out))) : w.heap.size ≤ gb167)); have n5_ := aC.mk ((by rw [hg]; exact (aW (by repeat (first | (with_reducible first | exact HB.out | apply aJ | apply aE | apply aH | refine aG ?_ GE165.out | refine aG ?_ GE166.out) | exact HB.out))) : w.heap.size ≤ gb167)); have n6_ := aC.mk ((by rw [hg]; exact Nat.ne_of_lt (bG (g := gb165) (o := .cells #[.slice A0_0 l0_0.length c0_0, .slice A0_1 l0_1.length c0_1, .int .i64 a0_2, .bool a0_3] 32 (0, 0)) (by (with_reducible repeat (first | refine aT ?_ _ | refine aQ ?_ | refine aN ?_ _)); exact BK165.out)) : gb165 ≠ gb167)); have n7_ := aC.mk ((by rw [hg]; exact Nat.ne_of_gt (bG (g := gb165) (o := .cells #[.slice A0_0 l0_0.length c0_0, .slice A0_1 l0_1.length c0_1, .int .i64 a0_2, .bool a0_3] 32 (0, 0)) (by (with_reducible repeat (first | refine aT ?_ _ | refine aQ ?_ | refine aN ?_ _)); exact BK165.out)) : gb167 ≠ gb165)); have n8_ := aC.mk ((by rw [hg]; exact Nat.ne_of_lt (bG (g := gb166) (o := .cells #[.slice none 0 0, .slice none 0 0, .int .i64 0, .bool false] 25 (0, 0)) (by (with_reducible repeat (first | refine aT ?_ _ | refine aQ ?_ | refine aN ?_ _)); exact BK166.out)) : gb166 ≠ gb167)); have n9_ := aC.mk ((by rw [hg]; exact Nat.ne_of_gt (bG (g := gb166) (o := .cells #[.slice none 0 0, .slice none 0 0, .int .i64 0, .bool false] 25 (0, 0)) (by (with_reducible repeat (first | refine aT ?_ _ | refine aQ ?_ | refine aN ?_ _)); exact BK166.out)) : gb167 ≠ gb166)); clear BK165; clear BK166; clear HB; have BK165 := n0_; have BK166 := n1_; have HB := n2_; have BK167 := n3_; have GW167 := n4_; have GE167 := n5_; have NB165_167 := n6_; have NB167_165 := n7_; have NB166_167 := n8_; have NB167_166 := n9_; clear n0_ n1_ n2_ n3_ n4_ n5_ n6_ n7_ n8_ n9_; clear hb hbox hg; have hnb7 := NB165_166.out; have hnc7 := NB166_165.out; have hnb8 := NB165_167.out; have hnc8 := NB167_165.out; have hcz9_0 : w6.cell? ⟨gb165, 0, none⟩ = some (.slice A0_0 l0_0.length c0_0) := (aD BK165.out 0).trans rfl; have hcz9_1 : w6.cell? ⟨gb165, 1, none⟩ = some (.slice A0_1 l0_1.length c0_1) := (aD BK165.out 1).trans rfl; have hcz9_2 : w6.cell? ⟨gb165, 2, none⟩ = some (.int .i64 a0_2) := (aD BK165.out 2).trans rfl; have hcz9_3 : w6.cell? ⟨gb165, 3, none⟩ = some (.bool a0_3) := (aD BK165.out 3).trans rfl; have hfz9_0 := aA BK165.out 0; have hfz9_1 := aA BK165.out 1; have hfz9_2 := aA BK165.out 2; have hfz9_3 := aA BK165.out 3) | ((with_reducible refine aY (f := 53) rfl ?_); refine bJ (some 6) rfl rfl Try.func53 (by kernel_rfl) rfl #[.slice A0_0 l0_0.length c0_0] rfl (by (try simp only [List.map_toArray, List.map_cons, List.map_nil]); first | done | rfl | (simp only [List.length_drop, List.length_take]; rfl)) ?_; (with_reducible refine (laws_toByteSS.calls k _ _ l0_0 t168 _ ?side1 ?side2 A2.out).mono ?_); (case side1 => repeat (first | exact (Kd.bL HR0_0.out HB.out) | (with_reducible refine Kd.bN ?_ _) | (with_reducible refine Kd.bM ?_ _) | (with_reducible refine Kd.bQ ?_))); (case side2 => exact HC0_0.out); rintro e w10 ⟨v169, rfl, ho0, hb⟩; refine ⟨_, rfl, ?_⟩; have n0_ := aC.mk (Kd.S_lower ho0 (aW (by repeat (first | (with_reducible first | exact HB.out | apply aJ | apply aE | apply aH | refine aG ?_ GE165.out | refine aG ?_ GE166.out | refine aG ?_ GE167.out) | exact HB.out)))); have n1_ := aC.mk (aM (g := gb165) (o := .cells #[.slice A0_0 l0_0.length c0_0, .slice A0_1 l0_1.length c0_1, .int .i64 a0_2, .bool a0_3] 32 (0, 0)) (by (with_reducible repeat (first | refine aT ?_ _ | refine aQ ?_ | refine aN ?_ _)); exact BK165.out) hb); have n2_ := aC.mk (aM (g := gb166) (o := .cells #[.slice none 0 0, .slice none 0 0, .int .i64 0, .bool false] 25 (0, 0)) (by (with_reducible repeat (first | refine aT ?_ _ | refine aQ ?_ | refine aN ?_ _)); exact BK166.out) hb); have n3_ := aC.mk (aM (g := gb167) (o := .cells #[.slice none 0 0, .slice none 0 0, .int .i64 0, .bool false] 25 (0, 0)) (by (with_reducible repeat (first | refine aT ?_ _ | refine aQ ?_ | refine aN ?_ _)); exact BK167.out) hb); have n4_ := aC.mk (aV (by repeat (first | (with_reducible first | exact HB.out | apply aJ | apply aE | apply aH | refine aG ?_ GE165.out | refine aG ?_ GE166.out | refine aG ?_ GE167.out) | exact HB.out)) hb); clear BK165; clear BK166; clear BK167; clear HB; have HO170 := n0_; have BK165 := n1_; have BK166 := n2_; have BK167 := n3_; have HB := n4_; clear n0_ n1_ n2_ n3_ n4_; (try clear hb); (try clear hk); (try clear ho0); obtain ⟨Ao11, co11, eo11⟩ := Kd.S_slice HO170.out; subst eo11; have hnb12 := NB167_166.out; have hnc12 := NB166_167.out; have hcz13_0 : w10.cell? ⟨gb167, 0, none⟩ = some (.slice none 0 0) := (aD BK167.out 0).trans rfl; have hcz13_1 : w10.cell? ⟨gb167, 1, none⟩ = some (.slice none 0 0) := (aD BK167.out 1).trans rfl; have hcz13_2 : w10.cell? ⟨gb167, 2, none⟩ = some (.int .i64 0) := (aD BK167.out 2).trans rfl; have hcz13_3 : w10.cell? ⟨gb167, 3, none⟩ = some (.bool false) := (aD BK167.out 3).trans rfl; have hfz13_0 := aA BK167.out 0; have hfz13_1 := aA BK167.out 1; have hfz13_2 := aA BK167.out 2; have hfz13_3 := aA BK167.out 3; have hcz14_0 : w10.cell? ⟨gb165, 0, none⟩ = some (.slice A0_0 l0_0.length c0_0) := (aD BK165.out 0).trans rfl; have hcz14_1 : w10.cell? ⟨gb165, 1, none⟩ = some (.slice A0_1 l0_1.length c0_1) := (aD BK165.out 1).trans rfl; have hcz14_2 : w10.cell? ⟨gb165, 2, none⟩ = some (.int .i64 a0_2) := (aD BK165.out 2).trans rfl; have hcz14_3 : w10.cell? ⟨gb165, 3, none⟩ = some (.bool a0_3) := (aD BK165.out 3).trans rfl; have hfz14_0 := aA BK165.out 0; have hfz14_1 := aA BK165.out 1; have hfz14_2 := aA BK165.out 2; have hfz14_3 := aA BK165.out 3) | ((with_reducible refine aY (f := 54) rfl ?_); refine bJ (some 10) rfl rfl Try.func54 (by kernel_rfl) rfl #[.slice A0_1 l0_1.length c0_1] rfl (by (try simp only [List.map_toArray, List.map_cons, List.map_nil]); first | done | rfl | (simp only [List.length_drop, List.length_take]; rfl)) ?_; (with_reducible refine (laws_toWrS.calls k _ _ l0_1 t171 _ ?side1 ?side2 A3.out).mono ?_); (case side1 => exact Kd.bL HR0_1.out (by repeat (first | (with_reducible first | exact HB.out | apply aJ | apply aE | apply aH | refine aG ?_ GE165.out | refine aG ?_ GE166.out | refine aG ?_ GE167.out) | exact HB.out))); (case side2 => exact HC0_1.out); rintro e w15 ⟨v172, rfl, ho0, hb⟩; refine ⟨_, rfl, ?_⟩; have n0_ := aC.mk (Kd.bH (by (with_reducible repeat (first | apply Kd.S_alloc | apply Kd.S_drewN | apply Kd.S_drew)); exact (Kd.S_mono (Kd.S_far (p := ⟨gb167, 0, none⟩) (Kd.S_types HO170.out BK167.out (by decide)) (fun _ hk => hk.2) (.slice Ao11 t168.length co11)) (fun _ h_ => h_.1))) hb); have n1_ := aC.mk (Kd.S_lower ho0 (aW (by repeat (first | (with_reducible first | exact HB.out | apply aJ | apply aE | apply aH | refine aG ?_ GE165.out | refine aG ?_ GE166.out | refine aG ?_ GE167.out) | exact HB.out)))); have n2_ := aC.mk (aM (g := gb165) (o := .cells #[.slice A0_0 l0_0.length c0_0, .slice A0_1 l0_1.length c0_1, .int .i64 a0_2, .bool a0_3] 32 (0, 0)) (by (with_reducible repeat (first | refine aT ?_ _ | refine aQ ?_ | refine aN ?_ _)); refine blk_far ?_ NB165_167.out _; (with_reducible repeat (first | refine aT ?_ _ | refine aQ ?_ | refine aN ?_ _)); exact BK165.out) hb); have n3_ := aC.mk (aM (g := gb166) (o := .cells #[.slice none 0 0, .slice none 0 0, .int .i64 0, .bool false] 25 (0, 0)) (by (with_reducible repeat (first | refine aT ?_ _ | refine aQ ?_ | refine aN ?_ _)); refine blk_far ?_ NB166_167.out _; (with_reducible repeat (first | refine aT ?_ _ | refine aQ ?_ | refine aN ?_ _)); exact BK166.out) hb); have n4_ := aC.mk (aM (g := gb167) (o := .cells #[.slice Ao11 t168.length co11, .slice none 0 0, .int .i64 0, .bool false] 25 (0, 0)) (by (with_reducible repeat (first | refine aT ?_ _ | refine aQ ?_ | refine aN ?_ _)); refine aX (cs := #[.slice none 0 0, .slice none 0 0, .int .i64 0, .bool false]) ?_ 0 _ rfl; (with_reducible repeat (first | refine aT ?_ _ | refine aQ ?_ | refine aN ?_ _)); exact BK167.out) hb); have n5_ := aC.mk (aV (by repeat (first | (with_reducible first | exact HB.out | apply aJ | apply aE | apply aH | refine aG ?_ GE165.out | refine aG ?_ GE166.out | refine aG ?_ GE167.out) | exact HB.out)) hb); clear HO170; clear BK165; clear BK166; clear BK167; clear HB; have HO170 := n0_; have HO173 := n1_; have BK165 := n2_; have BK166 := n3_; have BK167 := n4_; have HB := n5_; clear n0_ n1_ n2_ n3_ n4_ n5_; (try clear hb); (try clear hk); (try clear ho0); obtain ⟨Ao16, co16, eo16⟩ := Kd.S_slice HO173.out; subst eo16; have hcz17_0 : w15.cell? ⟨gb167, 0, none⟩ = some (.slice Ao11 t168.length co11) := (aD BK167.out 0).trans rfl; have hcz17_1 : w15.cell? ⟨gb167, 1, none⟩ = some (.slice none 0 0) := (aD BK167.out 1).trans rfl; have hcz17_2 : w15.cell? ⟨gb167, 2, none⟩ = some (.int .i64 0) := (aD BK167.out 2).trans rfl; have hcz17_3 : w15.cell? ⟨gb167, 3, none⟩ = some (.bool false) := (aD BK167.out 3).trans rfl; have hfz17_0 := aA BK167.out 0; have hfz17_1 := aA BK167.out 1; have hfz17_2 := aA BK167.out 2; have hfz17_3 := aA BK167.out 3; have hcz18_0 : w15.cell? ⟨gb165, 0, none⟩ = some (.slice A0_0 l0_0.length c0_0) := (aD BK165.out 0).trans rfl; have hcz18_1 : w15.cell? ⟨gb165, 1, none⟩ = some (.slice A0_1 l0_1.length c0_1) := (aD BK165.out 1).trans rfl; have hcz18_2 : w15.cell? ⟨gb165, 2, none⟩ = some (.int .i64 a0_2) := (aD BK165.out 2).trans rfl; have hcz18_3 : w15.cell? ⟨gb165, 3, none⟩ = some (.bool a0_3) := (aD BK165.out 3).trans rfl; have hfz18_0 := aA BK165.out 0; have hfz18_1 := aA BK165.out 1; have hfz18_2 := aA BK165.out 2; have hfz18_3 := aA BK165.out 3; have hcz19_0 : w15.cell? ⟨gb166, 0, none⟩ = some (.slice none 0 0) := (aD BK166.out 0).trans rfl; have hcz19_1 : w15.cell? ⟨gb166, 1, none⟩ = some (.slice none 0 0) := (aD BK166.out 1).trans rfl; have hcz19_2 : w15.cell? ⟨gb166, 2, none⟩ = some (.int .i64 0) := (aD BK166.out 2).trans rfl; have hcz19_3 : w15.cell? ⟨gb166, 3, none⟩ = some (.bool false) := (aD BK166.out 3).trans rfl; have hfz19_0 := aA BK166.out 0; have hfz19_1 := aA BK166.out 1; have hfz19_2 := aA BK166.out 2; have hfz19_3 := aA BK166.out 3))
 refine bodyPost_ret (results_cell_row rfl _ _ gb166 25 #[.slice Ao11 t168.length co11, .slice Ao16 t171.length co16, .int .i64 a0_2, .bool a0_3] (0, 0) _ rfl (by (with_reducible repeat (first | refine aT ?_ _ | refine aQ ?_ | refine aN ?_ _)); refine aX (cs := #[.slice Ao11 t168.length co11, .slice Ao16 t171.length co16, .int .i64 a0_2, .bool false]) ?_ 3 _ rfl; (with_reducible repeat (first | refine aT ?_ _ | refine aQ ?_ | refine aN ?_ _)); refine aX (cs := #[.slice Ao11 t168.length co11, .slice Ao16 t171.length co16, .int .i64 0, .bool false]) ?_ 2 _ rfl; (with_reducible repeat (first | refine aT ?_ _ | refine aQ ?_ | refine aN ?_ _)); refine aX (cs := #[.slice Ao11 t168.length co11, .slice none 0 0, .int .i64 0, .bool false]) ?_ 1 _ rfl; (with_reducible repeat (first | refine aT ?_ _ | refine aQ ?_ | refine aN ?_ _)); refine aX (cs := #[.slice none 0 0, .slice none 0 0, .int .i64 0, .bool false]) ?_ 0 _ rfl; (with_reducible repeat (first | refine aT ?_ _ | refine aQ ?_ | refine aN ?_ _)); refine blk_far ?_ NB166_167.out _; (with_reducible repeat (first | refine aT ?_ _ | refine aQ ?_ | refine aN ?_ _)); refine blk_far ?_ NB166_167.out _; (with_reducible repeat (first | refine aT ?_ _ | refine aQ ?_ | refine aN ?_ _)); refine blk_far ?_ NB166_167.out _; (with_reducible repeat (first | refine aT ?_ _ | refine aQ ?_ | refine aN ?_ _)); exact BK166.out) Try.underlying25 rfl (by kernel_rfl)) rfl ?_
 exact ⟨_, _, by first | rfl | (simp [errW_none, errW_some] <;> rfl) | (simp [*, errW_none, errW_some] <;> rfl), by (with_reducible repeat (first | apply Kd.S_alloc | apply Kd.S_drewN | apply Kd.S_drew)); exact Kd.S_mono (Kd.S_far (p := ⟨gb166, 3, none⟩) (Kd.S_far (p := ⟨gb166, 2, none⟩) (Kd.S_far (p := ⟨gb166, 1, none⟩) (Kd.S_far (p := ⟨gb166, 0, none⟩) (Kd.S_far (p := ⟨gb167, 3, none⟩) (Kd.S_far (p := ⟨gb167, 2, none⟩) (Kd.S_far (p := ⟨gb167, 1, none⟩) (Kd.S_types (Kd.S_types HO170.out BK167.out (by decide)) BK166.out (by decide)) (fun _ hk => hk.1.2) (.slice Ao16 t171.length co16)) (fun _ hk => hk.1.2) (.int .i64 a0_2)) (fun _ hk => hk.1.2) (.bool a0_3)) (fun _ hk => hk.2) (.slice Ao11 t168.length co11)) (fun _ hk => hk.2) (.slice Ao16 t171.length co16)) (fun _ hk => hk.2) (.int .i64 a0_2)) (fun _ hk => hk.2) (.bool a0_3)) (fun _ hk => trivial), by (with_reducible repeat (first | apply Kd.S_alloc | apply Kd.S_drewN | apply Kd.S_drew)); exact Kd.S_mono (Kd.S_far (p := ⟨gb166, 3, none⟩) (Kd.S_far (p := ⟨gb166, 2, none⟩) (Kd.S_far (p := ⟨gb166, 1, none⟩) (Kd.S_far (p := ⟨gb166, 0, none⟩) (Kd.S_far (p := ⟨gb167, 3, none⟩) (Kd.S_far (p := ⟨gb167, 2, none⟩) (Kd.S_far (p := ⟨gb167, 1, none⟩) (Kd.S_types (Kd.S_types HO173.out BK167.out (by decide)) BK166.out (by decide)) (fun _ hk => hk.1.2) (.slice Ao16 t171.length co16)) (fun _ hk => hk.1.2) (.int .i64 a0_2)) (fun _ hk => hk.1.2) (.bool a0_3)) (fun _ hk => hk.2) (.slice Ao11 t168.length co11)) (fun _ hk => hk.2) (.slice Ao16 t171.length co16)) (fun _ hk => hk.2) (.int .i64 a0_2)) (fun _ hk => hk.2) (.bool a0_3)) (fun _ hk => trivial), by repeat (first | (with_reducible first | exact HB.out | apply aJ | apply aE | apply aH | refine aG ?_ GE165.out | refine aG ?_ GE166.out | refine aG ?_ GE167.out) | exact HB.out)⟩
def spec_l1In.f (a0 : Int) (a1 : Int) (a2 : Int) : Option (Bool) := if a0 ≥ a1 then (some (decide (a0 ≤ a2))) else (some false)
set_option maxHeartbeats 8000000 in
set_option maxRecDepth 100000 in
theorem spec_l1In.calls (a0 : Int) (a1 : Int) (a2 : Int) (r : Bool) (w : World) (h : spec_l1In.f a0 a1 a2 = some r) :
  Calls Try.prog 43 #[.int .i64 a0, .int .i64 a1, .int .i64 a2] w fun e w' => e = .returned (.bool r) ∧ bD w w' := by
 have H : (if a0 ≥ a1 then (some (decide (a0 ≤ a2))) else (some false)) = some r := h
 clear h
 by_cases c4 : a0 ≥ a1
 ·rw [if_pos c4] at H
  have c4b0 : decide (a1 ≤ a0) = true := decide_eq_true c4
  clear c4
  obtain rfl := Option.some.inj H
  go_enter Try.func43, Try.ntmps43
  go_wp2
  go_ret
  exact ⟨by first | rfl | (simp; done) | (simp [*]; done), by repeat (first | exact bD.refl _ | apply bD.step)⟩
 ·rw [if_neg c4] at H
  have c4b0 : decide (a1 ≤ a0) = false := decide_eq_false c4
  clear c4
  obtain rfl := Option.some.inj H
  go_enter Try.func43, Try.ntmps43
  go_wp2
  go_ret
  exact ⟨by first | rfl | (simp; done) | (simp [*]; done), by repeat (first | exact bD.refl _ | apply bD.step)⟩
end Go.Proofs.Ytilhcaofpfeioaa.PFnExactFlushDev
