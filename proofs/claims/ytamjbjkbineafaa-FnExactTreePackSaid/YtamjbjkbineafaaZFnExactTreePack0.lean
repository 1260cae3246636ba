/- The law: the functions that it reaches, each with the proof that the machine's call comes to its answer, what they answer, and the law's row; each theorem says its conditions itself. -/
import Derived.Test.YtamjbjkbineafaaVFnExactTreePack
import Derived.Test.YtamjbjkbineafaaProg
import Derived.Below
import Derived.Deep.Draws
import Derived.Deep.AppendLies
import Derived.Maps.AppendAt
import Derived.OwnWalk
import Derived.Laws.BytesArg
import Derived.Laws.MakeOwn
import Derived.Laws.OwnMore
import Derived.Deep.OwnRows
import Derived.Tactics
import Derived.Lib.ConvBytes
import Derived.Laws.Slices
import Derived.WalkKit
import Derived.KernelRfl
import Derived.RowKit3
import Derived.Deep.LoopGhost
import Derived.Deep.QuietTactic
import Derived.BigQuiet
import Derived.WideLaws
import Derived.Deep.DeepCutAuto
import Derived.Deep.CutBlock
import Derived.Deep.RegionHeld3
import Derived.Laws.Rows
import Derived.Lib.AppendStr
import Derived.ArgAppend
import Derived.Laws.IdiomCopy
import Derived.OrdersHeld
import Derived.Laws.BitsLemmas
import Derived.RowKit
namespace Go.Proofs.Ytamjbjkbineafaa.PFnExactTreePack
open Go.RowKit Go.Proofs.YtamjbjkbineafaaW.PrintWords Go.Proofs.YtamjbjkbineafaaW.PrintLast Go.Proofs.YtamjbjkbineafaaW.PrintMore
attribute [local go_sem] max2_int min2_int max_two min_two max_three min_three max_four min_four   -- for this text's walks alone
set_option linter.unusedVariables false
set_option linter.unusedSimpArgs false
def errW : Option Int → Value
 | none => .nilIface
 | some c => .iface 0 (.int .i64 c)
theorem errW_none : errW none = .nilIface := rfl
theorem errW_some (c : Int) : errW (some c) = .iface 0 (.int .i64 c) := rfl
theorem info3 : (Try.prog.info? 3).map (fun i => (i.zero, i.size, i.bytes)) = some (some (.int .i64 0), 1, 8) := by kernel_rfl
theorem info38 : (Try.prog.info? 38).map (fun i => (i.zero, i.size, i.bytes)) = some (some (.agg #[(.int .i64 0), (.int .i64 0), (.int .i64 0), (.int .i64 0), (.int .i64 0)]), 5, 40) := by kernel_rfl
theorem info45 : (Try.prog.info? 45).map (fun i => (i.zero, i.size, i.bytes)) = some (some (.slice none 0 0), 1, 24) := by kernel_rfl
theorem info59 : (Try.prog.info? 59).map (fun i => (i.zero, i.size, i.bytes)) = some (some (.agg #[(.slice none 0 0)]), 1, 24) := by kernel_rfl
-- the values' own types
structure S48 where
 f0 : Int
 f1 : Int
 f2 : Int
 f3 : Int
 f4 : Int
def z48 : S48 := ⟨(0 : Int), (0 : Int), (0 : Int), (0 : Int), (0 : Int)⟩
def k48 : Kd S48 := Kd.iso (Kd.pair (Kd.int .i64) (Kd.pair (Kd.int .i64) (Kd.pair (Kd.int .i64) (Kd.pair (Kd.int .i64) (Kd.int .i64))))) (fun x : S48 => (x.f0, x.f1, x.f2, x.f3, x.f4))
theorem k48_open {w : World} {x : S48} {cs : List Value} (h : k48.K w x cs) : cs = [.int .i64 x.f0, .int .i64 x.f1, .int .i64 x.f2, .int .i64 x.f3, .int .i64 x.f4] := by
 obtain ⟨_, _, rfl, rfl, ⟨_, _, rfl, rfl, ⟨_, _, rfl, rfl, ⟨_, _, rfl, rfl, rfl⟩⟩⟩⟩ := h
 exact rfl
def rd_T48 (xs : List S48) (i : Int) : S48 := xs.getD i.toNat z48
theorem at_T48 {w : World} {A : Option Addr} {n : Nat} {xs : List S48} (h : Kd.C k48 w A n xs) (i : Int) (h0 : 0 ≤ i) (h1 : i < n) : ∃ ad , A = some ad ∧ w.cell? (ad.add (i.toNat * 5)) = some (.int .i64 (rd_T48 xs i).f0) ∧ w.cell? ⟨(ad.add (i.toNat * 5)).block, (ad.add (i.toNat * 5)).off + 1, none⟩ = some (.int .i64 (rd_T48 xs i).f1) ∧ w.cell? ⟨(ad.add (i.toNat * 5)).block, (ad.add (i.toNat * 5)).off + 2, none⟩ = some (.int .i64 (rd_T48 xs i).f2) ∧ w.cell? ⟨(ad.add (i.toNat * 5)).block, (ad.add (i.toNat * 5)).off + 3, none⟩ = some (.int .i64 (rd_T48 xs i).f3) ∧ w.cell? ⟨(ad.add (i.toNat * 5)).block, (ad.add (i.toNat * 5)).off + 4, none⟩ = some (.int .i64 (rd_T48 xs i).f4) := by
 obtain ⟨ad, c, e, _, hK, hc0⟩ := Kd.C_get h z48 i h0 h1
 have hc : ∀ j u, c[j]? = some u → w.cell? (ad.add (i.toNat * 5 + j)) = some u := hc0
 obtain rfl := k48_open hK
 exact ⟨ad, e, hc 0 _ rfl, by rw [← add_field _ _ 1 (by omega)]; exact hc 1 _ rfl, by rw [← add_field _ _ 2 (by omega)]; exact hc 2 _ rfl, by rw [← add_field _ _ 3 (by omega)]; exact hc 3 _ rfl, by rw [← add_field _ _ 4 (by omega)]; exact hc 4 _ rfl⟩
def rd_L2 (xs : List (List S48)) (i : Int) : (List S48) := xs.getD i.toNat ([] : List S48)
theorem at_L2 {w : World} {A : Option Addr} {n : Nat} {xs : List (List S48)} (h : Kd.C (Kd.slice 48 k48) w A n xs) (i : Int) (h0 : 0 ≤ i) (h1 : i < n) : ∃ ad A0 c0, A = some ad ∧ w.cell? (ad.add i.toNat) = some (.slice A0 (rd_L2 xs i).length c0) ∧ (rd_L2 xs i).length ≤ c0 ∧ k48.C w A0 (rd_L2 xs i).length (rd_L2 xs i) := by
 obtain ⟨ad, c, e, _, hK, hc0⟩ := Kd.C_get h ([] : List S48) i h0 h1
 have hc : ∀ j u, c[j]? = some u → w.cell? (ad.add (i.toNat * 1 + j)) = some u := hc0
 obtain ⟨A0, c0, rfl, l0, g0⟩ := hK
 exact ⟨ad, A0, c0, e, by have hq := hc 0 _ rfl; rwa [Nat.mul_one, Nat.add_zero] at hq, l0, g0⟩
def rd_L3 (xs : List (List (List S48))) (i : Int) : (List (List S48)) := xs.getD i.toNat ([] : List (List S48))
structure S87 where
 f0 : (List (List S48))
def z87 : S87 := ⟨([] : List (List S48))⟩
def k87 : Kd S87 := Kd.iso (Kd.slice 108 (Kd.slice 48 k48)) (fun x : S87 => x.f0)
theorem k87_open {w : World} {x : S87} {cs : List Value} (h : k87.K w x cs) : ∃ A0 c0, cs = [.slice A0 x.f0.length c0] ∧ x.f0.length ≤ c0 ∧ (Kd.slice 48 k48).C w A0 x.f0.length x.f0 := by
 obtain ⟨A0, c0, rfl, l0, g0⟩ := h
 exact ⟨A0, c0, rfl, l0, g0⟩
def rd_T87 (xs : List S87) (i : Int) : S87 := xs.getD i.toNat z87
theorem at_T87 {w : World} {A : Option Addr} {n : Nat} {xs : List S87} (h : Kd.C k87 w A n xs) (i : Int) (h0 : 0 ≤ i) (h1 : i < n) : ∃ ad A0 c0, A = some ad ∧ w.cell? (ad.add i.toNat) = some (.slice A0 (rd_T87 xs i).f0.length c0) ∧ (rd_T87 xs i).f0.length ≤ c0 ∧ (Kd.slice 48 k48).C w A0 (rd_T87 xs i).f0.length (rd_T87 xs i).f0 := by
 obtain ⟨ad, c, e, _, hK, hc0⟩ := Kd.C_get h z87 i h0 h1
 have hc : ∀ j u, c[j]? = some u → w.cell? (ad.add (i.toNat * 1 + j)) = some u := hc0
 obtain ⟨A0, c0, rfl, l0, g0⟩ := k87_open hK
 exact ⟨ad, A0, c0, e, by have hq := hc 0 _ rfl; rwa [Nat.mul_one, Nat.add_zero] at hq, l0, g0⟩
structure S38 where
 f0 : Int
 f1 : Int
 f2 : Int
 f3 : Int
 f4 : Int
def z38 : S38 := ⟨(0 : Int), (0 : Int), (0 : Int), (0 : Int), (0 : Int)⟩
def k38 : Kd S38 := Kd.iso (Kd.pair (Kd.int .i64) (Kd.pair (Kd.int .i64) (Kd.pair (Kd.int .i64) (Kd.pair (Kd.int .i64) (Kd.int .i64))))) (fun x : S38 => (x.f0, x.f1, x.f2, x.f3, x.f4))
theorem k38_open {w : World} {x : S38} {cs : List Value} (h : k38.K w x cs) : cs = [.int .i64 x.f0, .int .i64 x.f1, .int .i64 x.f2, .int .i64 x.f3, .int .i64 x.f4] := by
 obtain ⟨_, _, rfl, rfl, ⟨_, _, rfl, rfl, ⟨_, _, rfl, rfl, ⟨_, _, rfl, rfl, rfl⟩⟩⟩⟩ := h
 exact rfl
theorem k38_openM {w : World} {base : Nat} {ok : Nat → Prop} {x : S38} {cs : List Value} (h : k38.M w base ok x cs) : cs = [.int .i64 x.f0, .int .i64 x.f1, .int .i64 x.f2, .int .i64 x.f3, .int .i64 x.f4] := by
 obtain ⟨_, _, rfl, rfl, ⟨_, _, rfl, rfl, ⟨_, _, rfl, rfl, ⟨_, _, rfl, rfl, rfl⟩⟩⟩⟩ := h
 exact rfl
theorem k38_mkM (w : World) (base : Nat) (ok : Nat → Prop) (x : S38)  : k38.M w base ok x [.int .i64 x.f0, .int .i64 x.f1, .int .i64 x.f2, .int .i64 x.f3, .int .i64 x.f4] := ⟨[.int .i64 x.f0], [.int .i64 x.f1, .int .i64 x.f2, .int .i64 x.f3, .int .i64 x.f4], rfl, rfl, ⟨[.int .i64 x.f1], [.int .i64 x.f2, .int .i64 x.f3, .int .i64 x.f4], rfl, rfl, ⟨[.int .i64 x.f2], [.int .i64 x.f3, .int .i64 x.f4], rfl, rfl, ⟨[.int .i64 x.f3], [.int .i64 x.f4], rfl, rfl, rfl⟩⟩⟩⟩
def rd_T38 (xs : List S38) (i : Int) : S38 := xs.getD i.toNat z38
theorem at_T38 {w : World} {A : Option Addr} {n : Nat} {xs : List S38} (h : Kd.C k38 w A n xs) (i : Int) (h0 : 0 ≤ i) (h1 : i < n) : ∃ ad , A = some ad ∧ w.cell? (ad.add (i.toNat * 5)) = some (.int .i64 (rd_T38 xs i).f0) ∧ w.cell? ⟨(ad.add (i.toNat * 5)).block, (ad.add (i.toNat * 5)).off + 1, none⟩ = some (.int .i64 (rd_T38 xs i).f1) ∧ w.cell? ⟨(ad.add (i.toNat * 5)).block, (ad.add (i.toNat * 5)).off + 2, none⟩ = some (.int .i64 (rd_T38 xs i).f2) ∧ w.cell? ⟨(ad.add (i.toNat * 5)).block, (ad.add (i.toNat * 5)).off + 3, none⟩ = some (.int .i64 (rd_T38 xs i).f3) ∧ w.cell? ⟨(ad.add (i.toNat * 5)).block, (ad.add (i.toNat * 5)).off + 4, none⟩ = some (.int .i64 (rd_T38 xs i).f4) := by
 obtain ⟨ad, c, e, _, hK, hc0⟩ := Kd.C_get h z38 i h0 h1
 have hc : ∀ j u, c[j]? = some u → w.cell? (ad.add (i.toNat * 5 + j)) = some u := hc0
 obtain rfl := k38_open hK
 exact ⟨ad, e, hc 0 _ rfl, by rw [← add_field _ _ 1 (by omega)]; exact hc 1 _ rfl, by rw [← add_field _ _ 2 (by omega)]; exact hc 2 _ rfl, by rw [← add_field _ _ 3 (by omega)]; exact hc 3 _ rfl, by rw [← add_field _ _ 4 (by omega)]; exact hc 4 _ rfl⟩
def rd_L6 (xs : List (List S38)) (i : Int) : (List S38) := xs.getD i.toNat ([] : List S38)
theorem at_L6 {w : World} {A : Option Addr} {n : Nat} {xs : List (List S38)} (h : Kd.C (Kd.slice 38 k38) w A n xs) (i : Int) (h0 : 0 ≤ i) (h1 : i < n) : ∃ ad A0 c0, A = some ad ∧ w.cell? (ad.add i.toNat) = some (.slice A0 (rd_L6 xs i).length c0) ∧ (rd_L6 xs i).length ≤ c0 ∧ k38.C w A0 (rd_L6 xs i).length (rd_L6 xs i) := by
 obtain ⟨ad, c, e, _, hK, hc0⟩ := Kd.C_get h ([] : List S38) i h0 h1
 have hc : ∀ j u, c[j]? = some u → w.cell? (ad.add (i.toNat * 1 + j)) = some u := hc0
 obtain ⟨A0, c0, rfl, l0, g0⟩ := hK
 exact ⟨ad, A0, c0, e, by have hq := hc 0 _ rfl; rwa [Nat.mul_one, Nat.add_zero] at hq, l0, g0⟩
def rd_L7 (xs : List (List (List S38))) (i : Int) : (List (List S38)) := xs.getD i.toNat ([] : List (List S38))
structure S59 where
 f0 : (List (List S38))
def z59 : S59 := ⟨([] : List (List S38))⟩
def k59 : Kd S59 := Kd.iso (Kd.slice 45 (Kd.slice 38 k38)) (fun x : S59 => x.f0)
theorem k59_open {w : World} {x : S59} {cs : List Value} (h : k59.K w x cs) : ∃ A0 c0, cs = [.slice A0 x.f0.length c0] ∧ x.f0.length ≤ c0 ∧ (Kd.slice 38 k38).C w A0 x.f0.length x.f0 := by
 obtain ⟨A0, c0, rfl, l0, g0⟩ := h
 exact ⟨A0, c0, rfl, l0, g0⟩
theorem k59_openM {w : World} {base : Nat} {ok : Nat → Prop} {x : S59} {cs : List Value} (h : k59.M w base ok x cs) : ∃ v0, cs = [v0] ∧ (Kd.slice 38 k38).R 45 w base ok v0 x.f0 := by
 obtain ⟨v0, rfl, g0⟩ := h
 exact ⟨v0, rfl, g0⟩
theorem k59_mk (w : World) (x : S59) {A0 : Option Addr} {c0 : Nat} (l0 : x.f0.length ≤ c0) (g0 : (Kd.slice 38 k38).C w A0 x.f0.length x.f0) : k59.K w x [.slice A0 x.f0.length c0] := ⟨A0, c0, rfl, l0, g0⟩
theorem k59_mkM (w : World) (base : Nat) (ok : Nat → Prop) (x : S59) {v0 : Value} (g0 : (Kd.slice 38 k38).R 45 w base ok v0 x.f0) : k59.M w base ok x [v0] := ⟨v0, rfl, g0⟩
theorem k59_openF {W : World} {ok : Nat → Prop} {x : S59} {cs : List Value} (h : Kd.FK k59 W ok x cs) : ∃ A0 c0, cs = [.slice A0 x.f0.length c0] ∧ x.f0.length ≤ c0 ∧ Kd.F (Kd.slice 38 k38) W ok A0 x.f0.length x.f0 := by
 obtain ⟨A0, c0, rfl, l0, _⟩ := k59_open (Kd.FK_now h)
 exact ⟨A0, c0, rfl, l0, (fun W' hW => by obtain ⟨A0_, c0_, he, l0_, g0_⟩ := k59_open (h W' hW); injection (Option.some.inj (show some (Value.slice A0 x.f0.length c0) = some (Value.slice A0_ x.f0.length c0_) from congrArg (fun l => l[0]?) he)) with ha_ _ _; rw [ha_]; exact g0_)⟩
theorem k59_mkF (W : World) (ok : Nat → Prop) (x : S59) {A0 : Option Addr} {c0 : Nat} (l0 : x.f0.length ≤ c0) (g0 : Kd.F (Kd.slice 38 k38) W ok A0 x.f0.length x.f0) : Kd.FK k59 W ok x [.slice A0 x.f0.length c0] := fun W2 hW => k59_mk W2 x l0 (g0 W2 hW)
def rd_T59 (xs : List S59) (i : Int) : S59 := xs.getD i.toNat z59
theorem at_T59 {w : World} {A : Option Addr} {n : Nat} {xs : List S59} (h : Kd.C k59 w A n xs) (i : Int) (h0 : 0 ≤ i) (h1 : i < n) : ∃ ad A0 c0, A = some ad ∧ w.cell? (ad.add i.toNat) = some (.slice A0 (rd_T59 xs i).f0.length c0) ∧ (rd_T59 xs i).f0.length ≤ c0 ∧ (Kd.slice 38 k38).C w A0 (rd_T59 xs i).f0.length (rd_T59 xs i).f0 := by
 obtain ⟨ad, c, e, _, hK, hc0⟩ := Kd.C_get h z59 i h0 h1
 have hc : ∀ j u, c[j]? = some u → w.cell? (ad.add (i.toNat * 1 + j)) = some u := hc0
 obtain ⟨A0, c0, rfl, l0, g0⟩ := k59_open hK
 exact ⟨ad, A0, c0, e, by have hq := hc 0 _ rfl; rwa [Nat.mul_one, Nat.add_zero] at hq, l0, g0⟩
end Go.Proofs.Ytamjbjkbineafaa.PFnExactTreePack

namespace Go.Proofs.Ytamjbjkbineafaa.PFnExactTreePack
open Go.RowKit Go.Proofs.YtamjbjkbineafaaW.PrintWords Go.Proofs.YtamjbjkbineafaaW.PrintLast Go.Proofs.YtamjbjkbineafaaW.PrintMore
attribute [local go_sem] max2_int min2_int max_two min_two max_three min_three max_four min_four   -- for this text's walks alone
set_option linter.unusedVariables false
set_option linter.unusedSimpArgs false
def laws_szIntS.f (l0 : List Int) (a1 : Int) : Option (Int) := if (wrap64 (a1 - (l0.length : Int))) < 0 then (some (-1)) else (some (wrap64 (a1 - (l0.length : Int))))
set_option maxHeartbeats 8000000 in
set_option maxRecDepth 100000 in
theorem laws_szIntS.calls (A0 : Option Addr) (c0 : Nat) (l0 : List Int) (a1 : Int) (r : Int) (w : World) (hr0 : Kd.C (Kd.int .i64) w A0 l0.length l0) (hc0 : l0.length ≤ c0) (h : laws_szIntS.f l0 a1 = some r) :
  Calls Try.prog 24 #[.slice A0 l0.length c0, .int .i64 a1] w fun e w' => e = .returned (.int .i64 r) ∧ bH w w' := by
 have HR0 := aA.mk hr0
 have HC0 := aA.mk hc0
 clear hr0 hc0
 have H : (if (wrap64 (a1 - (l0.length : Int))) < 0 then (some (-1)) else (some (wrap64 (a1 - (l0.length : Int))))) = some r := h
 clear h
 by_cases c3 : (wrap64 (a1 - (l0.length : Int))) < 0
 ·rw [if_pos c3] at H
  have c3b0 : decide ((wrap64 (a1 - (l0.length : Int))) < 0) = true := decide_eq_true c3
  clear c3
  obtain rfl := Option.some.inj H
  go_enter Try.func24, Try.ntmps24
  go_wp2
  go_ret
  exact ⟨by first | rfl | (simp; done) | (simp [*]; done), by repeat (first | exact bH.refl _ | apply bH.step)⟩
 ·rw [if_neg c3] at H
  have c3b0 : decide ((wrap64 (a1 - (l0.length : Int))) < 0) = false := decide_eq_false c3
  clear c3
  obtain rfl := Option.some.inj H
  go_enter Try.func24, Try.ntmps24
  go_wp2
  go_ret
  exact ⟨by first | rfl | (simp; done) | (simp [*]; done), by repeat (first | exact bH.refl _ | apply bH.step)⟩
def laws_szKeyS.f (l0 : List (S48)) (a1 : Int) : Option (Int) := if (wrap64 (a1 - (l0.length : Int))) < 0 then (some (-1)) else (some (wrap64 (a1 - (l0.length : Int))))
set_option maxHeartbeats 8000000 in
set_option maxRecDepth 100000 in
theorem laws_szKeyS.calls (A0 : Option Addr) (c0 : Nat) (l0 : List (S48)) (a1 : Int) (r : Int) (w : World) (hr0 : Kd.C k48 w A0 l0.length l0) (hc0 : l0.length ≤ c0) (h : laws_szKeyS.f l0 a1 = some r) :
  Calls Try.prog 103 #[.slice A0 l0.length c0, .int .i64 a1] w fun e w' => e = .returned (.int .i64 r) ∧ bH w w' := by
 have HR0 := aA.mk hr0
 have HC0 := aA.mk hc0
 clear hr0 hc0
 have H : (if (wrap64 (a1 - (l0.length : Int))) < 0 then (some (-1)) else (some (wrap64 (a1 - (l0.length : Int))))) = some r := h
 clear h
 by_cases c3 : (wrap64 (a1 - (l0.length : Int))) < 0
 ·rw [if_pos c3] at H
  have c3b0 : decide ((wrap64 (a1 - (l0.length : Int))) < 0) = true := decide_eq_true c3
  clear c3
  obtain rfl := Option.some.inj H
  go_enter Try.func103, Try.ntmps103
  go_wp2
  go_ret
  exact ⟨by first | rfl | (simp; done) | (simp [*]; done), by repeat (first | exact bH.refl _ | apply bH.step)⟩
 ·rw [if_neg c3] at H
  have c3b0 : decide ((wrap64 (a1 - (l0.length : Int))) < 0) = false := decide_eq_false c3
  clear c3
  obtain rfl := Option.some.inj H
  go_enter Try.func103, Try.ntmps103
  go_wp2
  go_ret
  exact ⟨by first | rfl | (simp; done) | (simp [*]; done), by repeat (first | exact bH.refl _ | apply bH.step)⟩
def laws_szKeySS.l0 : Nat → List (List (S48)) → Int → Int → Option (Int)
 | 0, _, _, _ => none
 | k + 1, x0, x1, x5 => if x5 < (x0.length : Int) then (if 0 ≤ x5 then ((laws_szKeyS.f (rd_L2 x0 x5) x1).bind fun t102 => (if t102 < 0 then (some (-1)) else (laws_szKeySS.l0 k x0 t102 (wrap64 (x5 + 1))))) else (none)) else (some x1)
def laws_szKeySS.f (k : Nat) (l0 : List (List (S48))) (a1 : Int) : Option (Int) := if (wrap64 (a1 - (l0.length : Int))) < 0 then (some (-1)) else (laws_szKeySS.l0 k l0 (wrap64 (a1 - (l0.length : Int))) 0)
set_option maxHeartbeats 8000000 in
set_option maxRecDepth 100000 in
theorem laws_szKeySS.calls (k : Nat) (A0 : Option Addr) (c0 : Nat) (l0 : List (List (S48))) (a1 : Int) (r : Int) (w : World) (hr0 : Kd.C (Kd.slice 48 k48) w A0 l0.length l0) (hc0 : l0.length ≤ c0) (h : laws_szKeySS.f k l0 a1 = some r) :
  Calls Try.prog 92 #[.slice A0 l0.length c0, .int .i64 a1] w fun e w' => e = .returned (.int .i64 r) ∧ bH w w' := by
 have HR0 := aA.mk hr0
 have HC0 := aA.mk hc0
 clear hr0 hc0
 have H : (if (wrap64 (a1 - (l0.length : Int))) < 0 then (some (-1)) else (laws_szKeySS.l0 k l0 (wrap64 (a1 - (l0.length : Int))) 0)) = some r := h
 clear h
 by_cases c3 : (wrap64 (a1 - (l0.length : Int))) < 0
 ·rw [if_pos c3] at H
  have c3b0 : decide ((wrap64 (a1 - (l0.length : Int))) < 0) = true := decide_eq_true c3
  clear c3
  obtain rfl := Option.some.inj H
  go_enter Try.func92, Try.ntmps92
  go_wp2
  go_ret
  exact ⟨by first | rfl | (simp; done) | (simp [*]; done), by repeat (first | exact bH.refl _ | apply bH.step)⟩
 ·rw [if_neg c3] at H
  have c3b0 : decide ((wrap64 (a1 - (l0.length : Int))) < 0) = false := decide_eq_false c3
  clear c3
  have H' := aA.mk H
  clear H
  go_enter Try.func92, Try.ntmps92
  go_wp2
  go_loopg [1, 5] k (fun kq v1 v5 w' => ∃ (x1_1 : Int) (x5_1 : Int), v1 = .int .i64 x1_1 ∧ v5 = .int .i64 x5_1 ∧ aA (laws_szKeySS.l0 kq l0 x1_1 x5_1 = some r) ∧ aA (kq ≤ k) ∧ bH w w')
  case atStart => exact ⟨(wrap64 (a1 - (l0.length : Int))), (0), (by first | rfl | (simp; done) | (simp [*]; done)), (by first | rfl | (simp; done) | (simp [*]; done)), H', ⟨Nat.le_refl _⟩, by repeat (first | exact bH.refl _ | apply bH.step)⟩
  case round =>
   clear H'
   try clear p2
   try clear c3
   try clear c3b0
   obtain ⟨x1_1, x5_1, rfl, rfl, HA, HK1, ⟨m1, rfl⟩⟩ := hrel
   cases gk with
   | zero => exact absurd HA.out (by simp [laws_szKeySS.l0])
   | succ k1 =>
    have H := HA.out
    clear HA
    simp only [laws_szKeySS.l0] at H
    by_cases c4 : x5_1 < (l0.length : Int)
    ·rw [if_pos c4] at H
     have c4b0 : decide (x5_1 < (l0.length : Int)) = true := decide_eq_true c4
     clear c4
     by_cases c5 : 0 ≤ x5_1
     ·rw [if_pos c5] at H
      have c5b0 : decide (0 ≤ x5_1) = true := decide_eq_true c5
      clear c5
      replace H := lF H
      obtain ⟨t102, A60, H⟩ := H
      replace H : (if t102 < 0 then (some (-1)) else (laws_szKeySS.l0 k1 l0 t102 (wrap64 (x5_1 + 1)))) = some r := H
      have A6 := aA.mk A60
      clear A60
      by_cases c7 : t102 < 0
      ·rw [if_pos c7] at H
       have c7b0 : decide (t102 < 0) = true := decide_eq_true c7
       clear c7
       obtain rfl := Option.some.inj H
       have p101 : 0 ≤ (x5_1 : Int) := lE (by first | (with_reducible assumption) | assumption)
       have q101 : x5_1 < (l0.length : Int) := lE (by first | (with_reducible assumption) | assumption)
       obtain ⟨ad101, A101_0, c101_0, e101, hx101_0, hl101_0, hi101_0⟩ := at_L2 HR0.out x5_1 p101 q101
       cases e101
       have HR101_0 := aA.mk hi101_0
       have HC101_0 := aA.mk hl101_0
       clear hi101_0 hl101_0
       replace p101 := eq_true p101
       replace q101 := eq_true q101
       go_wp2_with (first | ((with_reducible refine bB (f := 103) rfl ?_); refine bP (some 23) rfl rfl Try.func103 (by kernel_rfl) rfl #[.slice A101_0 (rd_L2 l0 x5_1).length c101_0, .int .i64 x1_1] rfl (by (try simp only [List.map_toArray, List.map_cons, List.map_nil]); first | done | rfl | (simp only [List.length_drop, List.length_take]; rfl)) ?_; (with_reducible refine (laws_szKeyS.calls _ _ (rd_L2 l0 x5_1) x1_1 t102 _ ?side1 ?side2 A6.out).mono ?_); (case side1 => repeat (first | exact HR101_0.out | (with_reducible refine Kd.bM ?_ _) | (with_reducible refine Kd.bN ?_ _) | (with_reducible refine Kd.bR ?_))); (case side2 => exact HC101_0.out); rintro e w' ⟨rfl, ⟨nd, rfl⟩⟩; refine ⟨_, rfl, ?_⟩))
       go_ret
       exact ⟨by first | rfl | (simp; done) | (simp [*]; done), by repeat (first | exact bH.refl _ | apply bH.step)⟩
      ·rw [if_neg c7] at H
       have c7b0 : decide (t102 < 0) = false := decide_eq_false c7
       clear c7
       have H' := aA.mk H
       clear H
       have p101 : 0 ≤ (x5_1 : Int) := lE (by first | (with_reducible assumption) | assumption)
       have q101 : x5_1 < (l0.length : Int) := lE (by first | (with_reducible assumption) | assumption)
       obtain ⟨ad101, A101_0, c101_0, e101, hx101_0, hl101_0, hi101_0⟩ := at_L2 HR0.out x5_1 p101 q101
       cases e101
       have HR101_0 := aA.mk hi101_0
       have HC101_0 := aA.mk hl101_0
       clear hi101_0 hl101_0
       replace p101 := eq_true p101
       replace q101 := eq_true q101
       go_wp2_with (first | ((with_reducible refine bB (f := 103) rfl ?_); refine bP (some 23) rfl rfl Try.func103 (by kernel_rfl) rfl #[.slice A101_0 (rd_L2 l0 x5_1).length c101_0, .int .i64 x1_1] rfl (by (try simp only [List.map_toArray, List.map_cons, List.map_nil]); first | done | rfl | (simp only [List.length_drop, List.length_take]; rfl)) ?_; (with_reducible refine (laws_szKeyS.calls _ _ (rd_L2 l0 x5_1) x1_1 t102 _ ?side1 ?side2 A6.out).mono ?_); (case side1 => repeat (first | exact HR101_0.out | (with_reducible refine Kd.bM ?_ _) | (with_reducible refine Kd.bN ?_ _) | (with_reducible refine Kd.bR ?_))); (case side2 => exact HC101_0.out); rintro e w' ⟨rfl, ⟨nd, rfl⟩⟩; refine ⟨_, rfl, ?_⟩))
       go_roundg k1
       case measure => have := HK1.out; omega
       case rel => exact ⟨(t102), (wrap64 (x5_1 + 1)), (by first | rfl | (simp; done) | (simp [*]; done)), (by first | rfl | (simp; done) | (simp [*]; done)), H', ⟨by have := HK1.out; omega⟩, by repeat (first | exact bH.refl _ | apply bH.step)⟩
     ·rw [if_neg c5] at H
      exact absurd H (by simp)
    ·rw [if_neg c4] at H
     have c4b0 : decide (x5_1 < (l0.length : Int)) = false := decide_eq_false c4
     clear c4
     obtain rfl := Option.some.inj H
     go_wp2
     go_ret
     exact ⟨by first | rfl | (simp; done) | (simp [*]; done), by repeat (first | exact bH.refl _ | apply bH.step)⟩
def laws_szNode.f (k : Nat) (l0_0 : List (List (S48))) (a1 : Int) : Option (Int) := (laws_szKeySS.f k l0_0 a1).bind fun t104 => (if t104 < 0 then (some (-1)) else (some t104))
set_option maxHeartbeats 8000000 in
set_option maxRecDepth 100000 in
theorem laws_szNode.calls (k : Nat) (A0_0 : Option Addr) (c0_0 : Nat) (l0_0 : List (List (S48))) (a1 : Int) (r : Int) (w : World) (hr0_0 : Kd.C (Kd.slice 48 k48) w A0_0 l0_0.length l0_0) (hc0_0 : l0_0.length ≤ c0_0) (h : laws_szNode.f k l0_0 a1 = some r) :
  Calls Try.prog 66 #[.agg #[.slice A0_0 l0_0.length c0_0], .int .i64 a1] w fun e w' => e = .returned (.int .i64 r) ∧ Below w.heap.size w w' := by
 have hu87 := Try.underlying87
 have HR0_0 := aA.mk hr0_0
 have HC0_0 := aA.mk hc0_0
 clear hr0_0 hc0_0
 have HB := aA.mk (Below.refl w.heap.size w)
 have H : ((laws_szKeySS.f k l0_0 a1).bind fun t104 => (if t104 < 0 then (some (-1)) else (some t104))) = some r := h
 clear h
 replace H := lF H
 obtain ⟨t104, A30, H⟩ := H
 replace H : (if t104 < 0 then (some (-1)) else (some t104)) = some r := H
 have A3 := aA.mk A30
 clear A30
 by_cases c4 : t104 < 0
 ·rw [if_pos c4] at H
  have c4b0 : decide (t104 < 0) = true := decide_eq_true c4
  clear c4
  obtain rfl := Option.some.inj H
  go_enter Try.func66, Try.ntmps66
  go_wp2_with (first | ((with_reducible refine aW (N := 2) rfl ?_); refine aX ?hg (N := 2) ?hd (cs := #[.slice A0_0 l0_0.length c0_0]) (t := 87) ?hr ?_; (case hd => rfl); (case hg => rfl); (case hr => first | (go_simp; done) | (go_simp; rfl)); intro gb103 hg w5 hbox hb; have n0_ := aA.mk (aU (by repeat (first | (with_reducible first | exact HB.out | apply aH | apply aC | apply aG) | exact HB.out)) hb); have n1_ := aA.mk (hbox); have n2_ := aA.mk ((by rw [hg]; exact (aT (by repeat (first | (with_reducible first | exact HB.out | apply aH | apply aC | apply aG) | exact HB.out))) : w.heap.size ≤ gb103)); have n3_ := aA.mk ((by rw [hg]; exact (aT (by repeat (first | (with_reducible first | exact HB.out | apply aH | apply aC | apply aG) | exact HB.out))) : w.heap.size ≤ gb103)); clear HB; have HB := n0_; have BK103 := n1_; have GW103 := n2_; have GE103 := n3_; clear n0_ n1_ n2_ n3_; clear hb hbox hg; have hcz6_0 : w5.cell? ⟨gb103, 0, none⟩ = some (.slice A0_0 l0_0.length c0_0) := (aE BK103.out 0).trans rfl; have hfz6_0 := aD BK103.out 0) | ((with_reducible refine bB (f := 92) rfl ?_); refine bP (some 8) rfl rfl Try.func92 (by kernel_rfl) rfl #[.slice A0_0 l0_0.length c0_0, .int .i64 a1] rfl (by (try simp only [List.map_toArray, List.map_cons, List.map_nil]); first | done | rfl | (simp only [List.length_drop, List.length_take]; rfl)) ?_; (with_reducible refine (laws_szKeySS.calls k _ _ l0_0 a1 t104 _ ?side1 ?side2 A3.out).mono ?_); (case side1 => repeat (first | exact (Kd.bJ HR0_0.out HB.out) | (with_reducible refine Kd.bM ?_ _) | (with_reducible refine Kd.bN ?_ _) | (with_reducible refine Kd.bR ?_))); (case side2 => exact HC0_0.out); rintro e w' ⟨rfl, ⟨nd, rfl⟩⟩; refine ⟨_, rfl, ?_⟩))
  go_ret
  exact ⟨by first | rfl | (simp [errW_none, errW_some] <;> rfl) | (simp [*, errW_none, errW_some] <;> rfl), by repeat (first | (with_reducible first | exact HB.out | apply aH | apply aC | apply aG | refine aJ ?_ GE103.out) | exact HB.out)⟩
 ·rw [if_neg c4] at H
  have c4b0 : decide (t104 < 0) = false := decide_eq_false c4
  clear c4
  obtain rfl := Option.some.inj H
  go_enter Try.func66, Try.ntmps66
  go_wp2_with (first | ((with_reducible refine aW (N := 2) rfl ?_); refine aX ?hg (N := 2) ?hd (cs := #[.slice A0_0 l0_0.length c0_0]) (t := 87) ?hr ?_; (case hd => rfl); (case hg => rfl); (case hr => first | (go_simp; done) | (go_simp; rfl)); intro gb103 hg w7 hbox hb; have n0_ := aA.mk (aU (by repeat (first | (with_reducible first | exact HB.out | apply aH | apply aC | apply aG) | exact HB.out)) hb); have n1_ := aA.mk (hbox); have n2_ := aA.mk ((by rw [hg]; exact (aT (by repeat (first | (with_reducible first | exact HB.out | apply aH | apply aC | apply aG) | exact HB.out))) : w.heap.size ≤ gb103)); have n3_ := aA.mk ((by rw [hg]; exact (aT (by repeat (first | (with_reducible first | exact HB.out | apply aH | apply aC | apply aG) | exact HB.out))) : w.heap.size ≤ gb103)); clear HB; have HB := n0_; have BK103 := n1_; have GW103 := n2_; have GE103 := n3_; clear n0_ n1_ n2_ n3_; clear hb hbox hg; have hcz8_0 : w7.cell? ⟨gb103, 0, none⟩ = some (.slice A0_0 l0_0.length c0_0) := (aE BK103.out 0).trans rfl; have hfz8_0 := aD BK103.out 0) | ((with_reducible refine bB (f := 92) rfl ?_); refine bP (some 8) rfl rfl Try.func92 (by kernel_rfl) rfl #[.slice A0_0 l0_0.length c0_0, .int .i64 a1] rfl (by (try simp only [List.map_toArray, List.map_cons, List.map_nil]); first | done | rfl | (simp only [List.length_drop, List.length_take]; rfl)) ?_; (with_reducible refine (laws_szKeySS.calls k _ _ l0_0 a1 t104 _ ?side1 ?side2 A3.out).mono ?_); (case side1 => repeat (first | exact (Kd.bJ HR0_0.out HB.out) | (with_reducible refine Kd.bM ?_ _) | (with_reducible refine Kd.bN ?_ _) | (with_reducible refine Kd.bR ?_))); (case side2 => exact HC0_0.out); rintro e w' ⟨rfl, ⟨nd, rfl⟩⟩; refine ⟨_, rfl, ?_⟩))
  go_ret
  exact ⟨by first | rfl | (simp [errW_none, errW_some] <;> rfl) | (simp [*, errW_none, errW_some] <;> rfl), by repeat (first | (with_reducible first | exact HB.out | apply aH | apply aC | apply aG | refine aJ ?_ GE103.out) | exact HB.out)⟩
def laws_szNodeS.l0 : Nat → List (S87) → Int → Int → Option (Int)
 | 0, _, _, _ => none
 | k + 1, x0, x1, x5 => if x5 < (x0.length : Int) then (if 0 ≤ x5 then ((laws_szNode.f k ((rd_T87 x0 x5).f0) x1).bind fun t106 => (if t106 < 0 then (some (-1)) else (laws_szNodeS.l0 k x0 t106 (wrap64 (x5 + 1))))) else (none)) else (some x1)
def laws_szNodeS.f (k : Nat) (l0 : List (S87)) (a1 : Int) : Option (Int) := if (wrap64 (a1 - (l0.length : Int))) < 0 then (some (-1)) else (laws_szNodeS.l0 k l0 (wrap64 (a1 - (l0.length : Int))) 0)
set_option maxHeartbeats 8000000 in
set_option maxRecDepth 100000 in
theorem laws_szNodeS.calls (k : Nat) (A0 : Option Addr) (c0 : Nat) (l0 : List (S87)) (a1 : Int) (r : Int) (w : World) (hr0 : Kd.C k87 w A0 l0.length l0) (hc0 : l0.length ≤ c0) (h : laws_szNodeS.f k l0 a1 = some r) :
  Calls Try.prog 25 #[.slice A0 l0.length c0, .int .i64 a1] w fun e w' => e = .returned (.int .i64 r) ∧ Below w.heap.size w w' := by
 have hu87 := Try.underlying87
 have HR0 := aA.mk hr0
 have HC0 := aA.mk hc0
 clear hr0 hc0
 have HB := aA.mk (Below.refl w.heap.size w)
 have H : (if (wrap64 (a1 - (l0.length : Int))) < 0 then (some (-1)) else (laws_szNodeS.l0 k l0 (wrap64 (a1 - (l0.length : Int))) 0)) = some r := h
 clear h
 by_cases c3 : (wrap64 (a1 - (l0.length : Int))) < 0
 ·rw [if_pos c3] at H
  have c3b0 : decide ((wrap64 (a1 - (l0.length : Int))) < 0) = true := decide_eq_true c3
  clear c3
  obtain rfl := Option.some.inj H
  go_enter Try.func25, Try.ntmps25
  go_wp2
  go_ret
  exact ⟨by first | rfl | (simp [errW_none, errW_some] <;> rfl) | (simp [*, errW_none, errW_some] <;> rfl), by repeat (first | (with_reducible first | exact HB.out | apply aH | apply aC | apply aG) | exact HB.out)⟩
 ·rw [if_neg c3] at H
  have c3b0 : decide ((wrap64 (a1 - (l0.length : Int))) < 0) = false := decide_eq_false c3
  clear c3
  have H' := aA.mk H
  clear H
  go_enter Try.func25, Try.ntmps25
  go_wp2
  go_loopg [1, 5] k (fun kq v1 v5 w' => ∃ (x1_1 : Int) (x5_1 : Int), v1 = .int .i64 x1_1 ∧ v5 = .int .i64 x5_1 ∧ aA (laws_szNodeS.l0 kq l0 x1_1 x5_1 = some r) ∧ aA (kq ≤ k) ∧ aA (Below w.heap.size w w'))
  case atStart => exact ⟨(wrap64 (a1 - (l0.length : Int))), (0), (by first | rfl | (simp; done) | (simp [*]; done)), (by first | rfl | (simp; done) | (simp [*]; done)), H', ⟨Nat.le_refl _⟩, ⟨by repeat (first | (with_reducible first | exact HB.out | apply aH | apply aC | apply aG) | exact HB.out)⟩⟩
  case round =>
   clear H'
   try clear c2
   try clear p2
   try clear c3
   try clear c3b0
   obtain ⟨x1_1, x5_1, rfl, rfl, HA, HK1, HB⟩ := hrel
   cases gk with
   | zero => exact absurd HA.out (by simp [laws_szNodeS.l0])
   | succ k1 =>
    have H := HA.out
    clear HA
    simp only [laws_szNodeS.l0] at H
    by_cases c4 : x5_1 < (l0.length : Int)
    ·rw [if_pos c4] at H
     have c4b0 : decide (x5_1 < (l0.length : Int)) = true := decide_eq_true c4
     clear c4
     by_cases c5 : 0 ≤ x5_1
     ·rw [if_pos c5] at H
      have c5b0 : decide (0 ≤ x5_1) = true := decide_eq_true c5
      clear c5
      replace H := lF H
      obtain ⟨t106, A60, H⟩ := H
      replace H : (if t106 < 0 then (some (-1)) else (laws_szNodeS.l0 k1 l0 t106 (wrap64 (x5_1 + 1)))) = some r := H
      have A6 := aA.mk A60
      clear A60
      by_cases c7 : t106 < 0
      ·rw [if_pos c7] at H
       have c7b0 : decide (t106 < 0) = true := decide_eq_true c7
       clear c7
       obtain rfl := Option.some.inj H
       have p105 : 0 ≤ (x5_1 : Int) := lE (by first | (with_reducible assumption) | assumption)
       have q105 : x5_1 < (l0.length : Int) := lE (by first | (with_reducible assumption) | assumption)
       obtain ⟨ad105, A105_0, c105_0, e105, hx105_0, hl105_0, hi105_0⟩ := at_T87 HR0.out x5_1 p105 q105
       cases e105
       replace hx105_0 := (HB.out.cell (lD w _ hx105_0)).trans hx105_0
       have HR105_0 := aA.mk hi105_0
       have HC105_0 := aA.mk hl105_0
       clear hi105_0 hl105_0
       replace p105 := eq_true p105
       replace q105 := eq_true q105
       go_wp2_with (first | ((with_reducible refine bB (f := 66) rfl ?_); refine bP (some 23) rfl rfl Try.func66 (by kernel_rfl) rfl #[.agg #[.slice A105_0 ((rd_T87 l0 x5_1).f0).length c105_0], .int .i64 x1_1] rfl (by (try simp only [List.map_toArray, List.map_cons, List.map_nil]); first | done | rfl | (simp only [List.length_drop, List.length_take]; rfl)) ?_; (with_reducible refine (laws_szNode.calls k1 _ _ ((rd_T87 l0 x5_1).f0) x1_1 t106 _ ?side1 ?side2 A6.out).mono ?_); (case side1 => repeat (first | exact (Kd.bJ HR105_0.out HB.out) | (with_reducible refine Kd.bM ?_ _) | (with_reducible refine Kd.bN ?_ _) | (with_reducible refine Kd.bR ?_))); (case side2 => exact HC105_0.out); rintro e w8 ⟨rfl, hb⟩; refine ⟨_, rfl, ?_⟩; have n0_ := aA.mk (aU (by repeat (first | (with_reducible first | exact HB.out | apply aH | apply aC | apply aG) | exact HB.out)) hb); clear HB; have HB := n0_; clear n0_; (try clear hb)))
       go_ret
       exact ⟨by first | rfl | (simp [errW_none, errW_some] <;> rfl) | (simp [*, errW_none, errW_some] <;> rfl), by repeat (first | (with_reducible first | exact HB.out | apply aH | apply aC | apply aG) | exact HB.out)⟩
      ·rw [if_neg c7] at H
       have c7b0 : decide (t106 < 0) = false := decide_eq_false c7
       clear c7
       have H' := aA.mk H
       clear H
       have p105 : 0 ≤ (x5_1 : Int) := lE (by first | (with_reducible assumption) | assumption)
       have q105 : x5_1 < (l0.length : Int) := lE (by first | (with_reducible assumption) | assumption)
       obtain ⟨ad105, A105_0, c105_0, e105, hx105_0, hl105_0, hi105_0⟩ := at_T87 HR0.out x5_1 p105 q105
       cases e105
       replace hx105_0 := (HB.out.cell (lD w _ hx105_0)).trans hx105_0
       have HR105_0 := aA.mk hi105_0
       have HC105_0 := aA.mk hl105_0
       clear hi105_0 hl105_0
       replace p105 := eq_true p105
       replace q105 := eq_true q105
       go_wp2_with (first | ((with_reducible refine bB (f := 66) rfl ?_); refine bP (some 23) rfl rfl Try.func66 (by kernel_rfl) rfl #[.agg #[.slice A105_0 ((rd_T87 l0 x5_1).f0).length c105_0], .int .i64 x1_1] rfl (by (try simp only [List.map_toArray, List.map_cons, List.map_nil]); first | done | rfl | (simp only [List.length_drop, List.length_take]; rfl)) ?_; (with_reducible refine (laws_szNode.calls k1 _ _ ((rd_T87 l0 x5_1).f0) x1_1 t106 _ ?side1 ?side2 A6.out).mono ?_); (case side1 => repeat (first | exact (Kd.bJ HR105_0.out HB.out) | (with_reducible refine Kd.bM ?_ _) | (with_reducible refine Kd.bN ?_ _) | (with_reducible refine Kd.bR ?_))); (case side2 => exact HC105_0.out); rintro e w9 ⟨rfl, hb⟩; refine ⟨_, rfl, ?_⟩; have n0_ := aA.mk (aU (by repeat (first | (with_reducible first | exact HB.out | apply aH | apply aC | apply aG) | exact HB.out)) hb); clear HB; have HB := n0_; clear n0_; (try clear hb)))
       go_roundg k1
       case measure => have := HK1.out; omega
       case rel => exact ⟨(t106), (wrap64 (x5_1 + 1)), (by first | rfl | (simp; done) | (simp [*]; done)), (by first | rfl | (simp; done) | (simp [*]; done)), H', ⟨by have := HK1.out; omega⟩, ⟨by repeat (first | (with_reducible first | exact HB.out | apply aH | apply aC | apply aG) | exact HB.out)⟩⟩
     ·rw [if_neg c5] at H
      exact absurd H (by simp)
    ·rw [if_neg c4] at H
     have c4b0 : decide (x5_1 < (l0.length : Int)) = false := decide_eq_false c4
     clear c4
     obtain rfl := Option.some.inj H
     go_wp2
     go_ret
     exact ⟨by first | rfl | (simp [errW_none, errW_some] <;> rfl) | (simp [*, errW_none, errW_some] <;> rfl), by repeat (first | (with_reducible first | exact HB.out | apply aH | apply aC | apply aG) | exact HB.out)⟩
def laws_szTree.f (k : Nat) (l0_0 : List Int) (l0_1 : List (S87)) (a1 : Int) : Option (Int) := (laws_szIntS.f l0_0 a1).bind fun t108 => (if t108 < 0 then (some (-1)) else ((laws_szNodeS.f k l0_1 t108).bind fun t109 => (if t109 < 0 then (some (-1)) else (some t109))))
set_option maxHeartbeats 8000000 in
set_option maxRecDepth 100000 in
theorem laws_szTree.calls (k : Nat) (A0_0 : Option Addr) (c0_0 : Nat) (l0_0 : List Int) (A0_1 : Option Addr) (c0_1 : Nat) (l0_1 : List (S87)) (a1 : Int) (r : Int) (w : World) (hr0_0 : Kd.C (Kd.int .i64) w A0_0 l0_0.length l0_0) (hc0_0 : l0_0.length ≤ c0_0) (hr0_1 : Kd.C k87 w A0_1 l0_1.length l0_1) (hc0_1 : l0_1.length ≤ c0_1) (h : laws_szTree.f k l0_0 l0_1 a1 = some r) :
  Calls Try.prog 6 #[.agg #[.slice A0_0 l0_0.length c0_0, .slice A0_1 l0_1.length c0_1], .int .i64 a1] w fun e w' => e = .returned (.int .i64 r) ∧ Below w.heap.size w w' := by
 have hu25 := Try.underlying25
 have HR0_0 := aA.mk hr0_0
 have HC0_0 := aA.mk hc0_0
 clear hr0_0 hc0_0
 have HR0_1 := aA.mk hr0_1
 have HC0_1 := aA.mk hc0_1
 clear hr0_1 hc0_1
 have HB := aA.mk (Below.refl w.heap.size w)
 have H : ((laws_szIntS.f l0_0 a1).bind fun t108 => (if t108 < 0 then (some (-1)) else ((laws_szNodeS.f k l0_1 t108).bind fun t109 => (if t109 < 0 then (some (-1)) else (some t109))))) = some r := h
 clear h
 replace H := lF H
 obtain ⟨t108, A30, H⟩ := H
 replace H : (if t108 < 0 then (some (-1)) else ((laws_szNodeS.f k l0_1 t108).bind fun t109 => (if t109 < 0 then (some (-1)) else (some t109)))) = some r := H
 have A3 := aA.mk A30
 clear A30
 by_cases c4 : t108 < 0
 ·rw [if_pos c4] at H
  have c4b0 : decide (t108 < 0) = true := decide_eq_true c4
  clear c4
  obtain rfl := Option.some.inj H
  go_enter Try.func6, Try.ntmps6
  go_wp2_with (first | ((with_reducible refine aW (N := 2) rfl ?_); refine aX ?hg (N := 2) ?hd (cs := #[.slice A0_0 l0_0.length c0_0, .slice A0_1 l0_1.length c0_1]) (t := 25) ?hr ?_; (case hd => rfl); (case hg => rfl); (case hr => first | (go_simp; done) | (go_simp; rfl)); intro gb107 hg w5 hbox hb; have n0_ := aA.mk (aU (by repeat (first | (with_reducible first | exact HB.out | apply aH | apply aC | apply aG) | exact HB.out)) hb); have n1_ := aA.mk (hbox); have n2_ := aA.mk ((by rw [hg]; exact (aT (by repeat (first | (with_reducible first | exact HB.out | apply aH | apply aC | apply aG) | exact HB.out))) : w.heap.size ≤ gb107)); have n3_ := aA.mk ((by rw [hg]; exact (aT (by repeat (first | (with_reducible first | exact HB.out | apply aH | apply aC | apply aG) | exact HB.out))) : w.heap.size ≤ gb107)); clear HB; have HB := n0_; have BK107 := n1_; have GW107 := n2_; have GE107 := n3_; clear n0_ n1_ n2_ n3_; clear hb hbox hg; have hcz6_0 : w5.cell? ⟨gb107, 0, none⟩ = some (.slice A0_0 l0_0.length c0_0) := (aE BK107.out 0).trans rfl; have hcz6_1 : w5.cell? ⟨gb107, 1, none⟩ = some (.slice A0_1 l0_1.length c0_1) := (aE BK107.out 1).trans rfl; have hfz6_0 := aD BK107.out 0; have hfz6_1 := aD BK107.out 1) | ((with_reducible refine bB (f := 24) rfl ?_); refine bP (some 8) rfl rfl Try.func24 (by kernel_rfl) rfl #[.slice A0_0 l0_0.length c0_0, .int .i64 a1] rfl (by (try simp only [List.map_toArray, List.map_cons, List.map_nil]); first | done | rfl | (simp only [List.length_drop, List.length_take]; rfl)) ?_; (with_reducible refine (laws_szIntS.calls _ _ l0_0 a1 t108 _ ?side1 ?side2 A3.out).mono ?_); (case side1 => repeat (first | exact (Kd.bJ HR0_0.out HB.out) | (with_reducible refine Kd.bM ?_ _) | (with_reducible refine Kd.bN ?_ _) | (with_reducible refine Kd.bR ?_))); (case side2 => exact HC0_0.out); rintro e w' ⟨rfl, ⟨nd, rfl⟩⟩; refine ⟨_, rfl, ?_⟩))
  go_ret
  exact ⟨by first | rfl | (simp [errW_none, errW_some] <;> rfl) | (simp [*, errW_none, errW_some] <;> rfl), by repeat (first | (with_reducible first | exact HB.out | apply aH | apply aC | apply aG | refine aJ ?_ GE107.out) | exact HB.out)⟩
 ·rw [if_neg c4] at H
  have c4b0 : decide (t108 < 0) = false := decide_eq_false c4
  clear c4
  replace H := lF H
  obtain ⟨t109, A70, H⟩ := H
  replace H : (if t109 < 0 then (some (-1)) else (some t109)) = some r := H
  have A7 := aA.mk A70
  clear A70
  by_cases c8 : t109 < 0
  ·rw [if_pos c8] at H
   have c8b0 : decide (t109 < 0) = true := decide_eq_true c8
   clear c8
   obtain rfl := Option.some.inj H
   go_enter Try.func6, Try.ntmps6
   go_wp2_with (first | ((with_reducible refine aW (N := 2) rfl ?_); refine aX ?hg (N := 2) ?hd (cs := #[.slice A0_0 l0_0.length c0_0, .slice A0_1 l0_1.length c0_1]) (t := 25) ?hr ?_; (case hd => rfl); (case hg => rfl); (case hr => first | (go_simp; done) | (go_simp; rfl)); intro gb107 hg w9 hbox hb; have n0_ := aA.mk (aU (by repeat (first | (with_reducible first | exact HB.out | apply aH | apply aC | apply aG) | exact HB.out)) hb); have n1_ := aA.mk (hbox); have n2_ := aA.mk ((by rw [hg]; exact (aT (by repeat (first | (with_reducible first | exact HB.out | apply aH | apply aC | apply aG) | exact HB.out))) : w.heap.size ≤ gb107)); have n3_ := aA.mk ((by rw [hg]; exact (aT (by repeat (first | (with_reducible first | exact HB.out | apply aH | apply aC | apply aG) | exact HB.out))) : w.heap.size ≤ gb107)); clear HB; have HB := n0_; have BK107 := n1_; have GW107 := n2_; have GE107 := n3_; clear n0_ n1_ n2_ n3_; clear hb hbox hg; have hcz10_0 : w9.cell? ⟨gb107, 0, none⟩ = some (.slice A0_0 l0_0.length c0_0) := (aE BK107.out 0).trans rfl; have hcz10_1 : w9.cell? ⟨gb107, 1, none⟩ = some (.slice A0_1 l0_1.length c0_1) := (aE BK107.out 1).trans rfl; have hfz10_0 := aD BK107.out 0; have hfz10_1 := aD BK107.out 1) | ((with_reducible refine bB (f := 24) rfl ?_); refine bP (some 8) rfl rfl Try.func24 (by kernel_rfl) rfl #[.slice A0_0 l0_0.length c0_0, .int .i64 a1] rfl (by (try simp only [List.map_toArray, List.map_cons, List.map_nil]); first | done | rfl | (simp only [List.length_drop, List.length_take]; rfl)) ?_; (with_reducible refine (laws_szIntS.calls _ _ l0_0 a1 t108 _ ?side1 ?side2 A3.out).mono ?_); (case side1 => repeat (first | exact (Kd.bJ HR0_0.out HB.out) | (with_reducible refine Kd.bM ?_ _) | (with_reducible refine Kd.bN ?_ _) | (with_reducible refine Kd.bR ?_))); (case side2 => exact HC0_0.out); rintro e w' ⟨rfl, ⟨nd, rfl⟩⟩; refine ⟨_, rfl, ?_⟩) | ((with_reducible refine bB (f := 25) rfl ?_); refine bP (some 14) rfl rfl Try.func25 (by kernel_rfl) rfl #[.slice A0_1 l0_1.length c0_1, .int .i64 t108] rfl (by (try simp only [List.map_toArray, List.map_cons, List.map_nil]); first | done | rfl | (simp only [List.length_drop, List.length_take]; rfl)) ?_; (with_reducible refine (laws_szNodeS.calls k _ _ l0_1 t108 t109 _ ?side1 ?side2 A7.out).mono ?_); (case side1 => repeat (first | exact (Kd.bJ HR0_1.out (by repeat (first | (with_reducible first | exact HB.out | apply aH | apply aC | apply aG | refine aJ ?_ GE107.out) | exact HB.out))) | (with_reducible refine Kd.bM ?_ _) | (with_reducible refine Kd.bN ?_ _) | (with_reducible refine Kd.bR ?_))); (case side2 => exact HC0_1.out); rintro e w11 ⟨rfl, hb⟩; refine ⟨_, rfl, ?_⟩; have n0_ := aA.mk (aV (g := gb107) (o := .cells #[.slice A0_0 l0_0.length c0_0, .slice A0_1 l0_1.length c0_1] 25 (0, 0)) (by (with_reducible repeat (first | refine aN ?_ _ | refine aQ ?_ | refine aM ?_ _)); exact BK107.out) hb); have n1_ := aA.mk (aU (by repeat (first | (with_reducible first | exact HB.out | apply aH | apply aC | apply aG | refine aJ ?_ GE107.out) | exact HB.out)) hb); clear BK107; clear HB; have BK107 := n0_; have HB := n1_; clear n0_ n1_; (try clear hb)))
   go_ret
   exact ⟨by first | rfl | (simp [errW_none, errW_some] <;> rfl) | (simp [*, errW_none, errW_some] <;> rfl), by repeat (first | (with_reducible first | exact HB.out | apply aH | apply aC | apply aG | refine aJ ?_ GE107.out) | exact HB.out)⟩
  ·rw [if_neg c8] at H
   have c8b0 : decide (t109 < 0) = false := decide_eq_false c8
   clear c8
   obtain rfl := Option.some.inj H
   go_enter Try.func6, Try.ntmps6
   go_wp2_with (first | ((with_reducible refine aW (N := 2) rfl ?_); refine aX ?hg (N := 2) ?hd (cs := #[.slice A0_0 l0_0.length c0_0, .slice A0_1 l0_1.length c0_1]) (t := 25) ?hr ?_; (case hd => rfl); (case hg => rfl); (case hr => first | (go_simp; done) | (go_simp; rfl)); intro gb107 hg w12 hbox hb; have n0_ := aA.mk (aU (by repeat (first | (with_reducible first | exact HB.out | apply aH | apply aC | apply aG) | exact HB.out)) hb); have n1_ := aA.mk (hbox); have n2_ := aA.mk ((by rw [hg]; exact (aT (by repeat (first | (with_reducible first | exact HB.out | apply aH | apply aC | apply aG) | exact HB.out))) : w.heap.size ≤ gb107)); have n3_ := aA.mk ((by rw [hg]; exact (aT (by repeat (first | (with_reducible first | exact HB.out | apply aH | apply aC | apply aG) | exact HB.out))) : w.heap.size ≤ gb107)); clear HB; have HB := n0_; have BK107 := n1_; have GW107 := n2_; have GE107 := n3_; clear n0_ n1_ n2_ n3_; clear hb hbox hg; have hcz13_0 : w12.cell? ⟨gb107, 0, none⟩ = some (.slice A0_0 l0_0.length c0_0) := (aE BK107.out 0).trans rfl; have hcz13_1 : w12.cell? ⟨gb107, 1, none⟩ = some (.slice A0_1 l0_1.length c0_1) := (aE BK107.out 1).trans rfl; have hfz13_0 := aD BK107.out 0; have hfz13_1 := aD BK107.out 1) | ((with_reducible refine bB (f := 24) rfl ?_); refine bP (some 8) rfl rfl Try.func24 (by kernel_rfl) rfl #[.slice A0_0 l0_0.length c0_0, .int .i64 a1] rfl (by (try simp only [List.map_toArray, List.map_cons, List.map_nil]); first | done | rfl | (simp only [List.length_drop, List.length_take]; rfl)) ?_; (with_reducible refine (laws_szIntS.calls _ _ l0_0 a1 t108 _ ?side1 ?side2 A3.out).mono ?_); (case side1 => repeat (first | exact (Kd.bJ HR0_0.out HB.out) | (with_reducible refine Kd.bM ?_ _) | (with_reducible refine Kd.bN ?_ _) | (with_reducible refine Kd.bR ?_))); (case side2 => exact HC0_0.out); rintro e w' ⟨rfl, ⟨nd, rfl⟩⟩; refine ⟨_, rfl, ?_⟩) | ((with_reducible refine bB (f := 25) rfl ?_); refine bP (some 14) rfl rfl Try.func25 (by kernel_rfl) rfl #[.slice A0_1 l0_1.length c0_1, .int .i64 t108] rfl (by (try simp only [List.map_toArray, List.map_cons, List.map_nil]); first | done | rfl | (simp only [List.length_drop, List.length_take]; rfl)) ?_; (with_reducible refine (laws_szNodeS.calls k _ _ l0_1 t108 t109 _ ?side1 ?side2 A7.out).mono ?_); (case side1 => repeat (first | exact (Kd.bJ HR0_1.out (by repeat (first | (with_reducible first | exact HB.out | apply aH | apply aC | apply aG | refine aJ ?_ GE107.out) | exact HB.out))) | (with_reducible refine Kd.bM ?_ _) | (with_reducible refine Kd.bN ?_ _) | (with_reducible refine Kd.bR ?_))); (case side2 => exact HC0_1.out); rintro e w14 ⟨rfl, hb⟩; refine ⟨_, rfl, ?_⟩; have n0_ := aA.mk (aV (g := gb107) (o := .cells #[.slice A0_0 l0_0.length c0_0, .slice A0_1 l0_1.length c0_1] 25 (0, 0)) (by (with_reducible repeat (first | refine aN ?_ _ | refine aQ ?_ | refine aM ?_ _)); exact BK107.out) hb); have n1_ := aA.mk (aU (by repeat (first | (with_reducible first | exact HB.out | apply aH | apply aC | apply aG | refine aJ ?_ GE107.out) | exact HB.out)) hb); clear BK107; clear HB; have BK107 := n0_; have HB := n1_; clear n0_ n1_; (try clear hb)))
   go_ret
   exact ⟨by first | rfl | (simp [errW_none, errW_some] <;> rfl) | (simp [*, errW_none, errW_some] <;> rfl), by repeat (first | (with_reducible first | exact HB.out | apply aH | apply aC | apply aG | refine aJ ?_ GE107.out) | exact HB.out)⟩
def spec_l5Copy.l0 : Nat → Int → List (List (S38)) → List (List (S38)) → Option ((List (List (S38))))
 | 0, _, _, _ => none
 | k + 1, x4, x111000, x113000 => if x4 < (x111000.length : Int) then ((some (([] : List (S38)) : List (S38))).bind fun y113 => (if 0 ≤ x4 then (if y113.length + (rd_L6 x111000 x4).length < 3518437208883 then (if x113000.length < 5864062014805 then (spec_l5Copy.l0 k (wrap64 (x4 + 1)) x111000 (x113000 ++ [(y113 ++ (rd_L6 x111000 x4))])) else (none)) else (none)) else (none))) else (some x113000)
def spec_l5Copy.f (k : Nat) (l0_0 : List (List (S38))) : Option ((List (List (S38)))) := spec_l5Copy.l0 k 0 l0_0 ([] : List (List (S38)))
def spec_l5Copy.T5 : Bool × List (List Nat × List Nat) := (true, [([], []), ([0], [0]), ([], []), ([], []), ([3], [3]), ([], []), ([4, 5], [4, 5]), ([6], [6]), ([2, 7], [2, 7]), ([8], [8]), ([1, 9, 8], [1, 9]), ([0, 1, 2, 3, 4, 5, 6, 7, 8, 9, 10], []), ([11, 10, 10, 0, 1, 2, 3, 4, 5, 6, 7, 8, 9, 10], [10, 11])])
def spec_l5Copy.B5 : List Nat := [0, 1, 0, 0, 8, 0, 56, 120, 252, 508, 1023, 2047, 4095]
theorem spec_l5Copy.tab5 : rtab .any (opsOf Try.f67 5) = spec_l5Copy.T5 := by kernel_rfl
theorem spec_l5Copy.bits5 : waitsOk spec_l5Copy.T5.2 spec_l5Copy.B5 = true := by kernel_rfl
set_option maxHeartbeats 8000000 in
set_option maxRecDepth 100000 in
theorem spec_l5Copy.calls (k : Nat) (A0_0 : Option Addr) (c0_0 : Nat) (l0_0 : List (List (S38))) (r : List (List (S38))) (w : World) (hr0_0 : Kd.C (Kd.slice 38 k38) w A0_0 l0_0.length l0_0) (hc0_0 : l0_0.length ≤ c0_0) (h : spec_l5Copy.f k l0_0 = some r) :
  Calls Try.prog 67 #[.agg #[.slice A0_0 l0_0.length c0_0]] w fun e w' => ∃ v0_ : Value, e = .returned (.agg #[v0_]) ∧ Kd.S (Kd.slice 38 k38) 45 w' w.heap.size (fun _ => True) v0_ r ∧ Below w.heap.size w w' := by
 have hu59 := Try.underlying59
 have HR0_0 := aA.mk hr0_0
 have HC0_0 := aA.mk hc0_0
 clear hr0_0 hc0_0
 have HB := aA.mk (Below.refl w.heap.size w)
 have H : (spec_l5Copy.l0 k 0 l0_0 ([] : List (List (S38)))) = some r := h
 clear h
 have H' := aA.mk H
 clear H
 go_enter Try.func67, Try.ntmps67
 go_wp2_with (first | ((with_reducible refine aW (N := 1) rfl ?_); refine aX ?hg (N := 1) ?hd (cs := #[.slice A0_0 l0_0.length c0_0]) (t := 59) ?hr ?_; (case hd => rfl); (case hg => rfl); (case hr => first | (go_simp; done) | (go_simp; rfl)); intro gb110 hg w2 hbox hb; have n0_ := aA.mk (aU (by repeat (first | (with_reducible first | exact HB.out | apply aH | apply aC | apply aG) | exact HB.out)) hb); have n1_ := aA.mk (hbox); have n2_ := aA.mk ((by rw [hg]; exact (aT (by repeat (first | (with_reducible first | exact HB.out | apply aH | apply aC | apply aG) | exact HB.out))) : w.heap.size ≤ gb110)); have n3_ := aA.mk ((by rw [hg]; exact (aT (by repeat (first | (with_reducible first | exact HB.out | apply aH | apply aC | apply aG) | exact HB.out))) : w.heap.size ≤ gb110)); clear HB; have HB := n0_; have BK110 := n1_; have GW110 := n2_; have GE110 := n3_; clear n0_ n1_ n2_ n3_; clear hb hbox hg) | ((with_reducible refine aW (N := 2) rfl ?_); refine aX ?hg (N := 2) ?hd (cs := #[.slice none 0 0]) (t := 59) ?hr ?_; (case hd => rfl); (case hg => rfl); (case hr => first | (go_simp; done) | (go_simp; rfl)); intro gb111 hg w3 hbox hb; have n0_ := aA.mk (aV (g := gb110) (o := .cells #[.slice A0_0 l0_0.length c0_0] 59 (0, 0)) (by (with_reducible repeat (first | refine aN ?_ _ | refine aQ ?_ | refine aM ?_ _)); exact BK110.out) hb); have n1_ := aA.mk (aU (by repeat (first | (with_reducible first | exact HB.out | apply aH | apply aC | apply aG | refine aJ ?_ GE110.out) | exact HB.out)) hb); have n2_ := aA.mk (hbox); have n3_ := aA.mk ((by rw [hg]; exact (aT (by repeat (first | (with_reducible first | exact HB.out | apply aH | apply aC | apply aG | refine aJ ?_ GE110.out) | exact HB.out))) : w.heap.size ≤ gb111)); have n4_ := aA.mk ((by rw [hg]; exact (aT (by repeat (first | (with_reducible first | exact HB.out | apply aH | apply aC | apply aG | refine aJ ?_ GE110.out) | exact HB.out))) : w.heap.size ≤ gb111)); have n5_ := aA.mk ((by rw [hg]; exact Nat.ne_of_lt (bF (g := gb110) (o := .cells #[.slice A0_0 l0_0.length c0_0] 59 (0, 0)) (by (with_reducible repeat (first | refine aN ?_ _ | refine aQ ?_ | refine aM ?_ _)); exact BK110.out)) : gb110 ≠ gb111)); have n6_ := aA.mk ((by rw [hg]; exact Nat.ne_of_gt (bF (g := gb110) (o := .cells #[.slice A0_0 l0_0.length c0_0] 59 (0, 0)) (by (with_reducible repeat (first | refine aN ?_ _ | refine aQ ?_ | refine aM ?_ _)); exact BK110.out)) : gb111 ≠ gb110)); clear BK110; clear HB; have BK110 := n0_; have HB := n1_; have BK111 := n2_; have GW111 := n3_; have GE111 := n4_; have NB110_111 := n5_; have NB111_110 := n6_; clear n0_ n1_ n2_ n3_ n4_ n5_ n6_; clear hb hbox hg) | ((with_reducible refine aW (N := 3) rfl ?_); refine aX ?hg (N := 3) ?hd (cs := #[.slice none 0 0]) (t := 59) ?hr ?_; (case hd => rfl); (case hg => rfl); (case hr => first | (go_simp; done) | (go_simp; rfl)); intro gb112 hg w4 hbox hb; have n0_ := aA.mk (aV (g := gb110) (o := .cells #[.slice A0_0 l0_0.length c0_0] 59 (0, 0)) (by (with_reducible repeat (first | refine aN ?_ _ | refine aQ ?_ | refine aM ?_ _)); exact BK110.out) hb); have n1_ := aA.mk (aV (g := gb111) (o := .cells #[.slice none 0 0] 59 (0, 0)) (by (with_reducible repeat (first | refine aN ?_ _ | refine aQ ?_ | refine aM ?_ _)); exact BK111.out) hb); have n2_ := aA.mk (aU (by repeat (first | (with_reducible first | exact HB.out | apply aH | apply aC | apply aG | refine aJ ?_ GE110.out | refine aJ ?_ GE111.out) | exact HB.out)) hb); have n3_ := aA.mk (hbox); have n4_ := aA.mk ((by rw [hg]; exact (aT (by repeat (first | (with_reducible first | exact HB.out | apply aH | apply aC | apply aG | refine aJ ?_ GE110.out | refine aJ ?_ GE111.out) | exact HB.out))) : w.heap.size ≤ gb112)); have n5_ := aA.mk ((by rw [hg]; exact (aT (by repeat (first | (with_reducible first | exact HB.out | apply aH | apply aC | apply aG | refine aJ ?_ GE110.out | refine aJ ?_ GE111.out) | exact HB.out))) : w.heap.size ≤ gb112)); have n6_ := aA.mk ((by rw [hg]; exact Nat.ne_of_lt (bF (g := gb110) (o := .cells #[.slice A0_0 l0_0.length c0_0] 59 (0, 0)) (by (with_reducible repeat (first | refine aN ?_ _ | refine aQ ?_ | refine aM ?_ _)); exact BK110.out)) : gb110 ≠ gb112)); have n7_ := aA.mk ((by rw [hg]; exact Nat.ne_of_gt (bF (g := gb110) (o := .cells #[.slice A0_0 l0_0.length c0_0] 59 (0, 0)) (by (with_reducible repeat (first | refine aN ?_ _ | refine aQ ?_ | refine aM ?_ _)); exact BK110.out)) : gb112 ≠ gb110)); have n8_ := aA.mk ((by rw [hg]; exact Nat.ne_of_lt (bF (g := gb111) (o := .cells #[.slice none 0 0] 59 (0, 0)) (by (with_reducible repeat (first | refine aN ?_ _ | refine aQ ?_ | refine aM ?_ _)); exact BK111.out)) : gb111 ≠ gb112)); have n9_ := aA.mk ((by rw [hg]; exact Nat.ne_of_gt (bF (g := gb111) (o := .cells #[.slice none 0 0] 59 (0, 0)) (by (with_reducible repeat (first | refine aN ?_ _ | refine aQ ?_ | refine aM ?_ _)); exact BK111.out)) : gb112 ≠ gb111)); clear BK110; clear BK111; clear HB; have BK110 := n0_; have BK111 := n1_; have HB := n2_; have BK112 := n3_; have GW112 := n4_; have GE112 := n5_; have NB110_112 := n6_; have NB112_110 := n7_; have NB111_112 := n8_; have NB112_111 := n9_; clear n0_ n1_ n2_ n3_ n4_ n5_ n6_ n7_ n8_ n9_; clear hb hbox hg; have hnb5 := NB112_110.out; have hnc5 := NB110_112.out; have hnb6 := NB112_111.out; have hnc6 := NB111_112.out; have hcz7_0 : w4.cell? ⟨gb112, 0, none⟩ = some (.slice none 0 0) := (aE BK112.out 0).trans rfl; have hfz7_0 := aD BK112.out 0))
 go_loopg [4] k (fun kq v4 w' => ∃ (x4_1 : Int) (x113000_1 : List (List (S38))) (u113000 : Value), v4 = .int .i64 x4_1 ∧ aA (spec_l5Copy.l0 kq x4_1 l0_0 x113000_1 = some r) ∧ aA (kq ≤ k) ∧ aA (Kd.S (Kd.slice 38 k38) 45 w' w.heap.size (fun _ => True) u113000 x113000_1) ∧ aA (w'.heap[gb110]? = some (.cells #[(.slice A0_0 l0_0.length c0_0)] 59 (0, 0))) ∧ aA (w'.heap[gb111]? = some (.cells #[(.slice none 0 0)] 59 (0, 0))) ∧ aA (w'.heap[gb112]? = some (.cells #[u113000] 59 (0, 0))) ∧ aA (Below w.heap.size w w'))
 case atStart => exact ⟨(0), (([] : List (List (S38)))), (.slice none 0 0), (by first | rfl | (simp; done) | (simp [*]; done)), H', ⟨Nat.le_refl _⟩, ⟨by first | exact Kd.S_nil _ _ _ _ _ | exact Kd.N_nil _ _ _ _ _ | exact Kd.V_nil _ _ _ _ _ | exact Kd.Q_nil _ _ _ _ _ | exact Kd.R_nil _ _ _ _ _⟩, ⟨by (with_reducible repeat (first | refine aN ?_ _ | refine aQ ?_ | refine aM ?_ _)); refine blk_far ?_ NB110_112.out _; (with_reducible repeat (first | refine aN ?_ _ | refine aQ ?_ | refine aM ?_ _)); exact BK110.out⟩, ⟨by (with_reducible repeat (first | refine aN ?_ _ | refine aQ ?_ | refine aM ?_ _)); refine blk_far ?_ NB111_112.out _; (with_reducible repeat (first | refine aN ?_ _ | refine aQ ?_ | refine aM ?_ _)); exact BK111.out⟩, ⟨by (with_reducible repeat (first | refine aN ?_ _ | refine aQ ?_ | refine aM ?_ _)); refine bG (cs := #[.slice none 0 0]) ?_ 0 _ rfl; (with_reducible repeat (first | refine aN ?_ _ | refine aQ ?_ | refine aM ?_ _)); exact BK112.out⟩, ⟨by repeat (first | (with_reducible first | exact HB.out | apply aH | apply aC | apply aG | refine aJ ?_ GE110.out | refine aJ ?_ GE111.out | refine aJ ?_ GE112.out) | exact HB.out)⟩⟩
 case round =>
  clear H'
  try clear p2
  try clear c5
  try clear c6
  try clear hcz7_0
  try clear hfz7_0
  obtain ⟨x4_1, x113000_1, u113000, rfl, HA, HK1, HO_113000, BK110, BK111, BK112, HB⟩ := hrel
  cases gk with
  | zero => exact absurd HA.out (by simp [spec_l5Copy.l0])
  | succ k1 =>
   have H := HA.out
   clear HA
   simp only [spec_l5Copy.l0] at H
   by_cases c8 : x4_1 < (l0_0.length : Int)
   ·rw [if_pos c8] at H
    have c8b0 : decide (x4_1 < (l0_0.length : Int)) = true := decide_eq_true c8
    clear c8
    obtain ⟨y113, hy113⟩ : ∃ y_ : List (S38), y_ = (([] : List (S38))) := ⟨_, rfl⟩
    replace H : (if 0 ≤ x4_1 then (if y113.length + (rd_L6 l0_0 x4_1).length < 3518437208883 then (if x113000_1.length < 5864062014805 then (spec_l5Copy.l0 k1 (wrap64 (x4_1 + 1)) l0_0 (x113000_1 ++ [(y113 ++ (rd_L6 l0_0 x4_1))])) else (none)) else (none)) else (none)) = some r := by first | (rw [hy113]; with_reducible exact H) | (have H2_ := (Option.bind_some _ _).symm.trans H; rw [hy113]; with_reducible exact H2_) | (have H2_ := (Option.bind_some _ _).symm.trans H; with_reducible exact H2_) | with_reducible exact H | (rw [hy113]; exact H) | exact H
    have Ny113 := aA.mk hy113
    clear hy113
    by_cases c9 : 0 ≤ x4_1
    ·rw [if_pos c9] at H
     have c9b0 : decide (0 ≤ x4_1) = true := decide_eq_true c9
     clear c9
     by_cases c10 : y113.length + (rd_L6 l0_0 x4_1).length < 3518437208883
     ·rw [if_pos c10] at H
      have LMc10 := aA.mk c10
      clear c10
      obtain ⟨y117, hy117⟩ : ∃ y_ : List (S38), y_ = (y113 ++ (rd_L6 l0_0 x4_1)) := ⟨_, rfl⟩
      replace H : (if x113000_1.length < 5864062014805 then (spec_l5Copy.l0 k1 (wrap64 (x4_1 + 1)) l0_0 (x113000_1 ++ [y117])) else (none)) = some r := by first | (rw [hy117]; with_reducible exact H) | (have H2_ := (Option.bind_some _ _).symm.trans H; rw [hy117]; with_reducible exact H2_) | (have H2_ := (Option.bind_some _ _).symm.trans H; with_reducible exact H2_) | with_reducible exact H | (rw [hy117]; exact H) | exact H
      have Ny117 := aA.mk hy117
      clear hy117
      by_cases c11 : x113000_1.length < 5864062014805
      ·rw [if_pos c11] at H
       have LMc11 := aA.mk c11
       clear c11
       obtain ⟨y120, hy120⟩ : ∃ y_ : List (List (S38)), y_ = (x113000_1 ++ [y117]) := ⟨_, rfl⟩
       replace H : (spec_l5Copy.l0 k1 (wrap64 (x4_1 + 1)) l0_0 y120) = some r := by first | (rw [hy120]; with_reducible exact H) | (have H2_ := (Option.bind_some _ _).symm.trans H; rw [hy120]; with_reducible exact H2_) | (have H2_ := (Option.bind_some _ _).symm.trans H; with_reducible exact H2_) | with_reducible exact H | (rw [hy120]; exact H) | exact H
       have Ny120 := aA.mk hy120
       clear hy120
       have H' := aA.mk H
       clear H
       have hnb12 := NB110_111.out
       have hnc12 := NB111_110.out
       have hnb13 := NB110_112.out
       have hnc13 := NB112_110.out
       have hcz14_0 : wr.cell? ⟨gb110, 0, none⟩ = some (.slice A0_0 l0_0.length c0_0) := (aE BK110.out 0).trans rfl
       have hfz14_0 := aD BK110.out 0
       try go_wp2
       have n0_ := aA.mk (Kd.S_drew HO_113000.out)
       have n1_ := aA.mk (aQ BK110.out)
       have n2_ := aA.mk (aQ BK111.out)
       have n3_ := aA.mk (aQ BK112.out)
       have n4_ := aA.mk (aG HB.out)
       clear HO_113000
       clear BK110
       clear BK111
       clear BK112
       clear HB
       have HO_113000 := n0_
       have BK110 := n1_
       have BK111 := n2_
       have BK112 := n3_
       have HB := n4_
       clear n0_ n1_ n2_ n3_ n4_
       have p116 : 0 ≤ (x4_1 : Int) := lE (by first | (with_reducible assumption) | assumption)
       have q116 : x4_1 < (l0_0.length : Int) := lE (by first | (with_reducible assumption) | assumption)
       obtain ⟨ad116, A116_0, c116_0, e116, hx116_0, hl116_0, hi116_0⟩ := at_L6 HR0_0.out x4_1 p116 q116
       have hw116_0 := hx116_0
       cases e116
       replace hx116_0 := (HB.out.cell (lD w _ hx116_0)).trans hx116_0
       have HR116_0 := aA.mk hi116_0
       have HC116_0 := aA.mk hl116_0
       clear hi116_0 hl116_0
       replace p116 := eq_true p116
       replace q116 := eq_true q116
       refine start_ (n := 13) (S := fun w' => w'.cell? ⟨gb112, 0, none⟩ = some (u113000) ∧ w'.cell? ⟨gb110, 0, none⟩ = some (.slice (some ad116) l0_0.length c0_0) ∧ w'.cell? (ad116.add (x4_1).toNat) = some (.slice A116_0 (rd_L6 l0_0 x4_1).length c116_0)) (ds := [12]) #[false, false, false, false, false, false, false, false, false, false, false, false, false] (by kernel_rfl) rfl rfl ⟨(aE BK112.out 0).trans rfl, (aE BK110.out 0).trans rfl, ((HB.out.cell (lD w _ hw116_0)).trans hw116_0)⟩ (fun hHeld => ?_); refine with_tabW spec_l5Copy.tab5 spec_l5Copy.bits5 (fun HT_ HW_ => ?_)
       generalize wr.drew = w15 at HO_113000 BK110 BK111 BK112 HB HR116_0 hx116_0 hHeld ⊢
       refine bL (i := 0) (N := some 13) (v := ?_) (a' := ?_) #[true, false, false, false, false, false, false, false, false, false, false, false, false] rfl rfl (bQ HT_.out (by kernel_rfl)) (fun _ _ _ h => h) (Or.inl ⟨by rfl, ?_⟩) ?_ ?_
       rotate_left
       ·intro w'
        go_simp
        with_reducible rfl
       rotate_left
       ·simp only [Act.put, lA, lB, lC, bD, bC]
        rfl
       refine bL (i := 3) (N := some 16) (v := ?_) (a' := ?_) #[true, false, false, true, false, false, false, false, false, false, false, false, false] rfl rfl (bQ HT_.out (by kernel_rfl)) (fun _ _ _ h => h) (Or.inl ⟨by rfl, ?_⟩) ?_ ?_
       rotate_left
       ·intro w'
        go_simp
        with_reducible rfl
       rotate_left
       ·simp only [Act.put, lA, lB, lC, bD, bC]
        rfl
       refine bL (i := 5) (N := some 18) (v := ?_) (a' := ?_) #[true, false, false, true, false, true, false, false, false, false, false, false, false] rfl rfl (bQ HT_.out (by kernel_rfl)) (fun _ _ _ h => h) (Or.inl ⟨by rfl, ?_⟩) ?_ ?_
       rotate_left
       ·intro w'
        go_simp
        with_reducible rfl
       rotate_left
       ·simp only [Act.put, lA, lB, lC, bD, bC]
        rfl
       refine take_ (i := 1) (N := some 14) (v := ?_) (a' := ?_) #[true, true, false, true, false, true, false, false, false, false, false, false, false] rfl rfl (take_ofW HT_.out HW_.out (by kernel_rfl)) (fun _ _ _ h => h) (Or.inl ⟨by rfl, ?_⟩) hHeld ?_ ?_
       rotate_left
       ·rintro w' ⟨s0, s1, s2⟩
        go_simp
        with_reducible rfl
       rotate_left
       ·simp only [Act.put, lA, lB, lC, bD, bC]
        rfl
       refine take_ (i := 4) (N := some 17) (v := ?_) (a' := ?_) #[true, true, false, true, true, true, false, false, false, false, false, false, false] rfl rfl (take_ofW HT_.out HW_.out (by kernel_rfl)) (fun _ _ _ h => h) (Or.inl ⟨by rfl, ?_⟩) hHeld ?_ ?_
       rotate_left
       ·rintro w' ⟨s0, s1, s2⟩
        go_simp
        with_reducible rfl
       rotate_left
       ·simp only [Act.put, lA, lB, lC, bD, bC]
        rfl
       refine bL (i := 6) (N := some 19) (v := ?_) (a' := ?_) #[true, true, false, true, true, true, true, false, false, false, false, false, false] rfl rfl (bQ HT_.out (by kernel_rfl)) (fun _ _ _ h => h) (Or.inl ⟨by rfl, ?_⟩) ?_ ?_
       rotate_left
       ·intro w'
        go_simp
        with_reducible rfl
       rotate_left
       ·simp only [Act.put, lA, lB, lC, bD, bC]
        rfl
       refine take_ (i := 7) (N := some 20) (v := ?_) (a' := ?_) #[true, true, false, true, true, true, true, true, false, false, false, false, false] rfl rfl (take_ofW HT_.out HW_.out (by kernel_rfl)) (fun _ _ _ h => h) (Or.inl ⟨by rfl, ?_⟩) hHeld ?_ ?_
       rotate_left
       ·rintro w' ⟨s0, s1, s2⟩
        go_simp
        with_reducible rfl
       rotate_left
       ·simp only [Act.put, lA, lB, lC, bD, bC]
        rfl
       refine one_ (i := 2) (N := some 15) #[true, true, true, true, true, true, true, true, false, false, false, false, false] rfl rfl (one_of HT_.out (by kernel_rfl)) (by decide) (fun K hK => ?_)
       refine Kd.R_lit_step k38 _ 38 ?hg (N := 15) ?hd (xs := ([] : List (S38))) (inner := []) (ok := fun _ => True) (okp := fun _ => True) ?hr ?hp (fun _ hk => hk) trivial (Below.refl _ _) (Nat.le_refl _) (by simp) ?_; (case hd => rfl); (case hg => rfl); (case hr => first | (go_simp; done) | (go_simp; rfl)); (case hp => exact (Reps.none _ _))
       intro v114 w16 ho17 hb hg_ hnew_
       clear hg_ hnew_
       (first | rw [← Ny113.out] at ho17 | (simp only [Int.reduceToNat] at ho17; rw [← Ny113.out] at ho17))
       have n0_ := aA.mk (Kd.S_elder' (by (with_reducible repeat (first | apply Kd.S_alloc | apply Kd.S_drewN | apply Kd.S_drew)); exact HO_113000.out) (Kd.R_base ho17) hb)
       have n1_ := aA.mk (Kd.R_lower ho17 (aT (by repeat (first | (with_reducible first | exact HB.out | apply aH | apply aC | apply aG | refine aJ ?_ GE110.out | refine aJ ?_ GE111.out | refine aJ ?_ GE112.out) | exact HB.out))))
       have n2_ := aA.mk (aV (g := gb110) (o := .cells #[.slice (some ad116) l0_0.length c0_0] 59 (0, 0)) (by (with_reducible repeat (first | refine aN ?_ _ | refine aQ ?_ | refine aM ?_ _)); exact BK110.out) hb)
       have n3_ := aA.mk (aV (g := gb111) (o := .cells #[.slice none 0 0] 59 (0, 0)) (by (with_reducible repeat (first | refine aN ?_ _ | refine aQ ?_ | refine aM ?_ _)); exact BK111.out) hb)
       have n4_ := aA.mk (aV (g := gb112) (o := .cells #[u113000] 59 (0, 0)) (by (with_reducible repeat (first | refine aN ?_ _ | refine aQ ?_ | refine aM ?_ _)); exact BK112.out) hb)
       have n5_ := aA.mk (aU (by repeat (first | (with_reducible first | exact HB.out | apply aH | apply aC | apply aG | refine aJ ?_ GE110.out | refine aJ ?_ GE111.out | refine aJ ?_ GE112.out) | exact HB.out)) hb)
       clear HO_113000
       clear BK110
       clear BK111
       clear BK112
       clear HB
       have HO_113000 := n0_
       have HO115 := n1_
       have BK110 := n2_
       have BK111 := n3_
       have BK112 := n4_
       have HB := n5_
       clear n0_ n1_ n2_ n3_ n4_ n5_
       clear hb ho17
       refine hK.out _ _ ⟨(aE BK112.out 0).trans rfl, (aE BK110.out 0).trans rfl, ((HB.out.cell (lD w _ hw116_0)).trans hw116_0)⟩ (fun hHeld => ?_)
       clear hK K
       refine norm_ (a' := ?_) ?_ ?_
       rotate_left
       ·show Act.put _ (some 15) _ = _
        simp only [Act.put, lA, lB, lC, bD, bC]
        rfl
       refine one_ (i := 8) (N := some 21) #[true, true, true, true, true, true, true, true, true, false, false, false, false] rfl rfl (one_of HT_.out (by kernel_rfl)) (by decide) (fun K hK => ?_)
       refine Kd.R_append_rows_step k38 (w0 := w) w.heap.size (by rfl) (.tmp 15) (.tmp 20) 45 38 (.agg #[(.int .i64 0), (.int .i64 0), (.int .i64 0), (.int .i64 0), (.int .i64 0)]) 40 rfl Try.underlying45 info38 rfl (by decide) (by omega) v114 y113 (rd_L6 l0_0 x4_1) _ _ _ (fun _ => True) (fun _ => False) rfl rfl ?aO ?aR (fun _ _ h => h) (fun _ h => h.elim) ?aF ?aB ?aS ?aL ?_
       (case aR => repeat (first | exact (Kd.bJ HR116_0.out HB.out) | (with_reducible refine Kd.bM ?_ _) | (with_reducible refine Kd.bN ?_ _) | (with_reducible refine Kd.bR ?_)))
       (case aB => exact (by repeat (first | (with_reducible first | exact HB.out | apply aH | apply aC | apply aG | refine aJ ?_ GE110.out | refine aJ ?_ GE111.out | refine aJ ?_ GE112.out) | exact HB.out)))
       (case aF => exact (fun _ _ => trivial))
       (case aO => exact (by (with_reducible repeat (first | apply Kd.aY | apply Kd.aZ | apply Kd.bA)); exact HO115.out))
       (case aS => exact (aT (by repeat (first | (with_reducible first | exact HB.out | apply aH | apply aC | apply aG | refine aJ ?_ GE110.out | refine aJ ?_ GE111.out | refine aJ ?_ GE112.out) | exact HB.out))))
       (case aL => have := LMc10.out; omega)
       intro v118 w18 ho hb hg hat
       rw [← Ny117.out] at ho
       have n0_ := aA.mk (Kd.S_after (ok := (fun _ => True)) (by (with_reducible repeat (first | apply Kd.S_alloc | apply Kd.S_drewN | apply Kd.S_drew)); exact HO_113000.out) hg hat)
       have n1_ := aA.mk (blk_grown (g := gb110) (o := .cells #[.slice (some ad116) l0_0.length c0_0] 59 (0, 0)) (by (with_reducible repeat (first | refine aN ?_ _ | refine aQ ?_ | refine aM ?_ _)); exact BK110.out) hg (Kd.R_ne HO115.out BK110.out (by decide)))
       have n2_ := aA.mk (blk_grown (g := gb111) (o := .cells #[.slice none 0 0] 59 (0, 0)) (by (with_reducible repeat (first | refine aN ?_ _ | refine aQ ?_ | refine aM ?_ _)); exact BK111.out) hg (Kd.R_ne HO115.out BK111.out (by decide)))
       have n3_ := aA.mk (blk_grown (g := gb112) (o := .cells #[u113000] 59 (0, 0)) (by (with_reducible repeat (first | refine aN ?_ _ | refine aQ ?_ | refine aM ?_ _)); exact BK112.out) hg (Kd.R_ne HO115.out BK112.out (by decide)))
       have n4_ := aA.mk (hb)
       have n5_ := aA.mk (ho)
       clear HO_113000
       clear BK110
       clear BK111
       clear BK112
       clear HB
       clear HO115
       have HO_113000 := n0_
       have BK110 := n1_
       have BK111 := n2_
       have BK112 := n3_
       have HB := n4_
       have HO119 := n5_
       clear n0_ n1_ n2_ n3_ n4_ n5_
       clear ho hb hg hat
       obtain ⟨Ao20, co20, eo20⟩ := Kd.R_slice HO119.out
       (first | subst eo20 | (injection eo20 with f1_ f2_ f3_; have f4_ := f1_.symm; have f5_ := f3_.symm; clear f1_ f2_ f3_; subst f4_; subst f5_))
       refine hK.out _ _ ⟨(aE BK112.out 0).trans rfl, (aE BK110.out 0).trans rfl, ((HB.out.cell (lD w _ hw116_0)).trans hw116_0)⟩ (fun hHeld => ?_)
       clear hK K
       refine norm_ (a' := ?_) ?_ ?_
       rotate_left
       ·show Act.put _ (some 21) _ = _
        simp only [Act.put, lA, lB, lC, bD, bC]
        rfl
       refine one_ (i := 9) (N := some 22) #[true, true, true, true, true, true, true, true, true, true, false, false, false] rfl rfl (one_of HT_.out (by kernel_rfl)) (by decide) (fun K hK => ?_)
       refine value_ (w1 := ?_) (v := ?_) (by rfl) rfl ?_ ?_
       rotate_left 2
       ·go_simp
        constructor
        ·rfl
        ·rfl
       refine hK.out _ _ ⟨(aE (aM BK112.out _) 0).trans rfl, (aE (aM BK110.out _) 0).trans rfl, (World.cell?_alloc_lt _ _ _ (lD _ _ (((HB.out.cell (lD w _ hw116_0)).trans hw116_0)))).trans (((HB.out.cell (lD w _ hw116_0)).trans hw116_0))⟩ (fun hHeld => ?_)
       clear hK K
       refine norm_ (a' := ?_) ?_ ?_
       rotate_left
       ·show Act.put _ (some 22) _ = _
        simp only [Act.put, lA, lB, lC, bD, bC]
        rfl
       refine one_ (i := 10) (N := some 23) #[true, true, true, true, true, true, true, true, true, true, true, false, false] rfl rfl (one_of HT_.out (by kernel_rfl)) (by decide) (fun K hK => ?_)
       refine Kd.S_append_step (Kd.slice 38 k38) (w0 := w) w.heap.size (by rfl) (.tmp 14) (.tmp 22) 57 45 (.slice none 0 0) 24 rfl Try.underlying57 info45 rfl (by decide) (by omega) u113000 x113000_1 y117 [.slice Ao20 y117.length co20] (fun _ => True) (fun k_ => some k_ = (.slice Ao20 y117.length co20 : Value).ownBlock) rfl rfl ?aP (fun k_ hk_ => ((Kd.bK (ok' := fun k_ => ((fun _ => True)) k_ ∧ some k_ ≠ (u113000 : Value).ownBlock) (Kd.R_apart' (HO119.out) (Kd.S_typed HO_113000.out) (by decide)) (fun k_ hk => ⟨trivial, hk.2⟩))).1 k_ hk_.symm) ?aF ?aO ?aB ?aS ?aL ?_
       (case aP => exact Kd.M_row (Kd.bK (Kd.R_tight rfl (Kd.bK (ok' := fun k_ => ((fun _ => True)) k_ ∧ some k_ ≠ (u113000 : Value).ownBlock) (Kd.R_apart' (HO119.out) (Kd.S_typed HO_113000.out) (by decide)) (fun k_ hk => ⟨trivial, hk.2⟩))) (fun _ h_ => h_)))
       (case aB => exact (by repeat (first | (with_reducible first | exact HB.out | apply aH | apply aC | apply aG | refine aJ ?_ GE110.out | refine aJ ?_ GE111.out | refine aJ ?_ GE112.out) | exact HB.out)))
       (case aF => exact (fun _ _ => trivial))
       (case aO => exact (by (with_reducible repeat (first | apply Kd.S_alloc | apply Kd.S_drewN | apply Kd.S_drew)); exact Kd.S_mono HO_113000.out (fun k_ hk => ⟨trivial, fun e_ => hk.2 e_⟩)))
       (case aS => exact (aT (by repeat (first | (with_reducible first | exact HB.out | apply aH | apply aC | apply aG | refine aJ ?_ GE110.out | refine aJ ?_ GE111.out | refine aJ ?_ GE112.out) | exact HB.out))))
       (case aL => have := LMc11.out; omega)
       intro v121 w19 ho hb hg hat
       rw [← Ny120.out] at ho
       have n0_ := aA.mk (blk_grown (g := gb110) (o := .cells #[.slice (some ad116) l0_0.length c0_0] 59 (0, 0)) (by (with_reducible repeat (first | refine aN ?_ _ | refine aQ ?_ | refine aM ?_ _)); exact BK110.out) hg (Kd.S_ne HO_113000.out BK110.out (by decide)))
       have n1_ := aA.mk (blk_grown (g := gb111) (o := .cells #[.slice none 0 0] 59 (0, 0)) (by (with_reducible repeat (first | refine aN ?_ _ | refine aQ ?_ | refine aM ?_ _)); exact BK111.out) hg (Kd.S_ne HO_113000.out BK111.out (by decide)))
       have n2_ := aA.mk (blk_grown (g := gb112) (o := .cells #[u113000] 59 (0, 0)) (by (with_reducible repeat (first | refine aN ?_ _ | refine aQ ?_ | refine aM ?_ _)); exact BK112.out) hg (Kd.S_ne HO_113000.out BK112.out (by decide)))
       have n3_ := aA.mk (hb)
       have n4_ := aA.mk (ho)
       clear BK110
       clear BK111
       clear BK112
       clear HB
       clear HO_113000
       clear HO119
       have BK110 := n0_
       have BK111 := n1_
       have BK112 := n2_
       have HB := n3_
       have HO122 := n4_
       clear n0_ n1_ n2_ n3_ n4_
       clear ho hb hg hat
       obtain ⟨Ao21, co21, eo21⟩ := Kd.S_slice HO122.out
       (first | subst eo21 | (injection eo21 with f1_ f2_ f3_; have f4_ := f1_.symm; have f5_ := f3_.symm; clear f1_ f2_ f3_; subst f4_; subst f5_))
       refine hK.out _ _ ⟨(aE BK112.out 0).trans rfl, (aE BK110.out 0).trans rfl, ((HB.out.cell (lD w _ hw116_0)).trans hw116_0)⟩ (fun hHeld => ?_)
       clear hK K
       refine norm_ (a' := ?_) ?_ ?_
       rotate_left
       ·show Act.put _ (some 23) _ = _
        simp only [Act.put, lA, lB, lC, bD, bC]
        rfl
       refine bL (i := 11) (N := some 24) (v := ?_) (a' := ?_) #[true, true, true, true, true, true, true, true, true, true, true, true, false] rfl rfl (bQ HT_.out (by kernel_rfl)) (fun _ _ _ h => h) (Or.inl ⟨by rfl, ?_⟩) ?_ ?_
       rotate_left
       ·intro w'
        go_simp
        with_reducible rfl
       rotate_left
       ·simp only [Act.put, lA, lB, lC, bD, bC]
        rfl
       refine last_ (i := 12) (N := none) #[true, true, true, true, true, true, true, true, true, true, true, true, true] rfl rfl (one_of HT_.out (by kernel_rfl)) (by decide) (fun K hK => ?_)
       have hs22 : w19.cell? ⟨gb112, 0, none⟩ = some (u113000) := (aE BK112.out 0).trans rfl
       have hfs22 := aD BK112.out 0
       have hns22_0 := NB110_112.out
       have hns22_1 := NB111_112.out
       have hms22_0 := NB112_110.out
       have hms22_1 := NB112_111.out
       refine skip_ (w1 := ?_) (by rfl) rfl ?_ ?_
       rotate_left
       ·go_simp
        rfl
       refine hK.out _ _ ?_
       clear hK K
       refine done_ (done_of HT_.out (by kernel_rfl)) ?_
       try go_wp2
       go_roundg k1
       case measure => have := HK1.out; omega
       case rel => exact ⟨(wrap64 (x4_1 + 1)), (y120), (.slice Ao21 y120.length co21), (by first | rfl | (simp; done) | (simp [*]; done)), H', ⟨by have := HK1.out; omega⟩, ⟨by (with_reducible repeat (first | apply Kd.S_alloc | apply Kd.S_drewN | apply Kd.S_drew)); exact Kd.S_mono (Kd.S_far (p := ⟨gb112, 0, none⟩) (Kd.S_types HO122.out BK112.out (by decide)) (fun _ hk => hk.2) (.slice Ao21 y120.length co21)) (fun _ hk => trivial)⟩, ⟨by (with_reducible repeat (first | refine aN ?_ _ | refine aQ ?_ | refine aM ?_ _)); refine blk_far ?_ NB110_112.out _; (with_reducible repeat (first | refine aN ?_ _ | refine aQ ?_ | refine aM ?_ _)); exact BK110.out⟩, ⟨by (with_reducible repeat (first | refine aN ?_ _ | refine aQ ?_ | refine aM ?_ _)); refine blk_far ?_ NB111_112.out _; (with_reducible repeat (first | refine aN ?_ _ | refine aQ ?_ | refine aM ?_ _)); exact BK111.out⟩, ⟨by (with_reducible repeat (first | refine aN ?_ _ | refine aQ ?_ | refine aM ?_ _)); refine bG (cs := #[u113000]) ?_ 0 _ rfl; (with_reducible repeat (first | refine aN ?_ _ | refine aQ ?_ | refine aM ?_ _)); exact BK112.out⟩, ⟨by repeat (first | (with_reducible first | exact HB.out | apply aH | apply aC | apply aG | refine aJ ?_ GE110.out | refine aJ ?_ GE111.out | refine aJ ?_ GE112.out) | exact HB.out)⟩⟩
      ·rw [if_neg c11] at H
       exact absurd H (by simp)
     ·rw [if_neg c10] at H
      exact absurd H (by simp)
    ·rw [if_neg c9] at H
     exact absurd H (by simp)
   ·rw [if_neg c8] at H
    have c8b0 : decide (x4_1 < (l0_0.length : Int)) = false := decide_eq_false c8
    clear c8
    obtain rfl := Option.some.inj H
    have hnb23 := NB110_111.out
    have hnc23 := NB111_110.out
    have hnb24 := NB110_112.out
    have hnc24 := NB112_110.out
    have hcz25_0 : wr.cell? ⟨gb110, 0, none⟩ = some (.slice A0_0 l0_0.length c0_0) := (aE BK110.out 0).trans rfl
    have hfz25_0 := aD BK110.out 0
    have hnb26 := NB112_111.out
    have hnc26 := NB111_112.out
    have hcz27_0 : wr.cell? ⟨gb112, 0, none⟩ = some (u113000) := (aE BK112.out 0).trans rfl
    have hfz27_0 := aD BK112.out 0
    obtain ⟨Ao28, co28, eo28⟩ := Kd.S_slice HO_113000.out
    subst eo28
    have hcz29_0 : wr.cell? ⟨gb111, 0, none⟩ = some (.slice none 0 0) := (aE BK111.out 0).trans rfl
    have hfz29_0 := aD BK111.out 0
    go_wp2
    refine bodyPost_ret (results_cell_row rfl _ _ gb111 59 #[.slice Ao28 x113000_1.length co28] (0, 0) _ rfl (by (with_reducible repeat (first | refine aN ?_ _ | refine aQ ?_ | refine aM ?_ _)); refine bG (cs := #[.slice none 0 0]) ?_ 0 _ rfl; (with_reducible repeat (first | refine aN ?_ _ | refine aQ ?_ | refine aM ?_ _)); exact BK111.out) Try.underlying59 rfl (by kernel_rfl)) rfl ?_
    exact ⟨_, by first | rfl | (simp [errW_none, errW_some] <;> rfl) | (simp [*, errW_none, errW_some] <;> rfl), by (with_reducible repeat (first | apply Kd.S_alloc | apply Kd.S_drewN | apply Kd.S_drew)); exact Kd.S_mono (Kd.S_far (p := ⟨gb111, 0, none⟩) (Kd.S_types HO_113000.out BK111.out (by decide)) (fun _ hk => hk.2) (.slice Ao28 x113000_1.length co28)) (fun _ hk => trivial), by repeat (first | (with_reducible first | exact HB.out | apply aH | apply aC | apply aG | refine aJ ?_ GE110.out | refine aJ ?_ GE111.out | refine aJ ?_ GE112.out) | exact HB.out)⟩
end Go.Proofs.Ytamjbjkbineafaa.PFnExactTreePack

namespace Go.Proofs.Ytamjbjkbineafaa.PFnExactTreePack
open Go.RowKit Go.Proofs.YtamjbjkbineafaaW.PrintWords Go.Proofs.YtamjbjkbineafaaW.PrintLast Go.Proofs.YtamjbjkbineafaaW.PrintMore
attribute [local go_sem] max2_int min2_int max_two min_two max_three min_three max_four min_four   -- for this text's walks alone
set_option linter.unusedVariables false
set_option linter.unusedSimpArgs false
def spec_l6Copy.l0 : Nat → Int → List Int → List (S59) → List Int → List (S59) → Option (List Int × (List (S59)))
 | 0, _, _, _, _, _ => none
 | k + 1, x4, x124000, x124001, x132000, x132001 => if x4 < (x124001.length : Int) then (if 0 ≤ x4 then ((spec_l5Copy.f k ((rd_T59 x124001 x4).f0)).bind fun t133 => (if x132001.length < 5864062014805 then (spec_l6Copy.l0 k (wrap64 (x4 + 1)) x124000 x124001 x132000 (x132001 ++ [(⟨t133⟩ : S59)])) else (none))) else (none)) else (some (x132000, x132001))
def spec_l6Copy.f (k : Nat) (l0_0 : List Int) (l0_1 : List (S59)) : Option (List Int × (List (S59))) := (some (([] : List Int) : List Int)).bind fun y125 => (if y125.length + l0_0.length < 17592186044416 then (spec_l6Copy.l0 k 0 l0_0 l0_1 (y125 ++ l0_0) ([] : List (S59))) else (none))
def spec_l6Copy.T5 : Bool × List (List Nat × List Nat) := (true, [([], []), ([0], [0]), ([], []), ([2], [2]), ([], []), ([3, 4], [3, 4]), ([5], [5]), ([6], [6]), ([7], [7]), ([1, 8, 7], [1, 8]), ([0, 1, 2, 3, 4, 5, 6, 7, 8, 9], []), ([10, 9, 9, 0, 1, 2, 3, 4, 5, 6, 7, 8, 9], [9, 10])])
def spec_l6Copy.B5 : List Nat := [0, 1, 0, 4, 0, 28, 60, 124, 252, 511, 1023, 2047]
theorem spec_l6Copy.tab5 : rtab .any (opsOf Try.f26 5) = spec_l6Copy.T5 := by kernel_rfl
theorem spec_l6Copy.bits5 : waitsOk spec_l6Copy.T5.2 spec_l6Copy.B5 = true := by kernel_rfl
set_option maxHeartbeats 8000000 in
set_option maxRecDepth 100000 in
theorem spec_l6Copy.calls (k : Nat) (A0_0 : Option Addr) (c0_0 : Nat) (l0_0 : List Int) (A0_1 : Option Addr) (c0_1 : Nat) (l0_1 : List (S59)) (r1 : List Int) (r2 : List (S59)) (w : World) (hr0_0 : Kd.C (Kd.int .i64) w A0_0 l0_0.length l0_0) (hc0_0 : l0_0.length ≤ c0_0) (hr0_1 : Kd.C k59 w A0_1 l0_1.length l0_1) (hc0_1 : l0_1.length ≤ c0_1) (h : spec_l6Copy.f k l0_0 l0_1 = some (r1, r2)) :
  Calls Try.prog 26 #[.agg #[.slice A0_0 l0_0.length c0_0, .slice A0_1 l0_1.length c0_1]] w fun e w' => ∃ v0_ v1_ : Value, e = .returned (.agg #[v0_, v1_]) ∧ Kd.R (Kd.int .i64) 3 w' w.heap.size (fun _ => True) v0_ r1 ∧ Kd.R k59 59 w' w.heap.size (fun _ => True) v1_ r2 ∧ Below w.heap.size w w' := by
 have hu29 := Try.underlying29
 have hu59 := Try.underlying59
 have HR0_0 := aA.mk hr0_0
 have HC0_0 := aA.mk hc0_0
 clear hr0_0 hc0_0
 have HR0_1 := aA.mk hr0_1
 have HC0_1 := aA.mk hc0_1
 clear hr0_1 hc0_1
 have HB := aA.mk (Below.refl w.heap.size w)
 have H : ((some (([] : List Int) : List Int)).bind fun y125 => (if y125.length + l0_0.length < 17592186044416 then (spec_l6Copy.l0 k 0 l0_0 l0_1 (y125 ++ l0_0) ([] : List (S59))) else (none))) = some (r1, r2) := h
 clear h
 obtain ⟨y125, hy125⟩ : ∃ y_ : List Int, y_ = (([] : List Int)) := ⟨_, rfl⟩
 replace H : (if y125.length + l0_0.length < 17592186044416 then (spec_l6Copy.l0 k 0 l0_0 l0_1 (y125 ++ l0_0) ([] : List (S59))) else (none)) = some (r1, r2) := by first | (rw [hy125]; with_reducible exact H) | (have H2_ := (Option.bind_some _ _).symm.trans H; rw [hy125]; with_reducible exact H2_) | (have H2_ := (Option.bind_some _ _).symm.trans H; with_reducible exact H2_) | with_reducible exact H | (rw [hy125]; exact H) | exact H
 have Ny125 := aA.mk hy125
 clear hy125
 by_cases c2 : y125.length + l0_0.length < 17592186044416
 ·rw [if_pos c2] at H
  have LMc2 := aA.mk c2
  clear c2
  obtain ⟨y128, hy128⟩ : ∃ y_ : List Int, y_ = (y125 ++ l0_0) := ⟨_, rfl⟩
  replace H : (spec_l6Copy.l0 k 0 l0_0 l0_1 y128 ([] : List (S59))) = some (r1, r2) := by first | (rw [hy128]; with_reducible exact H) | (have H2_ := (Option.bind_some _ _).symm.trans H; rw [hy128]; with_reducible exact H2_) | (have H2_ := (Option.bind_some _ _).symm.trans H; with_reducible exact H2_) | with_reducible exact H | (rw [hy128]; exact H) | exact H
  have Ny128 := aA.mk hy128
  clear hy128
  have H' := aA.mk H
  clear H
  go_enter Try.func26, Try.ntmps26
  go_wp2_with (first | ((with_reducible refine aW (N := 1) rfl ?_); refine aX ?hg (N := 1) ?hd (cs := #[.slice A0_0 l0_0.length c0_0, .slice A0_1 l0_1.length c0_1]) (t := 29) ?hr ?_; (case hd => rfl); (case hg => rfl); (case hr => first | (go_simp; done) | (go_simp; rfl)); intro gb123 hg w3 hbox hb; have n0_ := aA.mk (aU (by repeat (first | (with_reducible first | exact HB.out | apply aH | apply aC | apply aG) | exact HB.out)) hb); have n1_ := aA.mk (hbox); have n2_ := aA.mk ((by rw [hg]; exact (aT (by repeat (first | (with_reducible first | exact HB.out | apply aH | apply aC | apply aG) | exact HB.out))) : w.heap.size ≤ gb123)); have n3_ := aA.mk ((by rw [hg]; exact (aT (by repeat (first | (with_reducible first | exact HB.out | apply aH | apply aC | apply aG) | exact HB.out))) : w.heap.size ≤ gb123)); clear HB; have HB := n0_; have BK123 := n1_; have GW123 := n2_; have GE123 := n3_; clear n0_ n1_ n2_ n3_; clear hb hbox hg) | ((with_reducible refine aW (N := 2) rfl ?_); refine aX ?hg (N := 2) ?hd (cs := #[.slice none 0 0, .slice none 0 0]) (t := 29) ?hr ?_; (case hd => rfl); (case hg => rfl); (case hr => first | (go_simp; done) | (go_simp; rfl)); intro gb124 hg w4 hbox hb; have n0_ := aA.mk (aV (g := gb123) (o := .cells #[.slice A0_0 l0_0.length c0_0, .slice A0_1 l0_1.length c0_1] 29 (0, 0)) (by (with_reducible repeat (first | refine aN ?_ _ | refine aQ ?_ | refine aM ?_ _)); exact BK123.out) hb); have n1_ := aA.mk (aU (by repeat (first | (with_reducible first | exact HB.out | apply aH | apply aC | apply aG | refine aJ ?_ GE123.out) | exact HB.out)) hb); have n2_ := aA.mk (hbox); have n3_ := aA.mk ((by rw [hg]; exact (aT (by repeat (first | (with_reducible first | exact HB.out | apply aH | apply aC | apply aG | refine aJ ?_ GE123.out) | exact HB.out))) : w.heap.size ≤ gb124)); have n4_ := aA.mk ((by rw [hg]; exact (aT (by repeat (first | (with_reducible first | exact HB.out | apply aH | apply aC | apply aG | refine aJ ?_ GE123.out) | exact HB.out))) : w.heap.size ≤ gb124)); have n5_ := aA.mk ((by rw [hg]; exact Nat.ne_of_lt (bF (g := gb123) (o := .cells #[.slice A0_0 l0_0.length c0_0, .slice A0_1 l0_1.length c0_1] 29 (0, 0)) (by (with_reducible repeat (first | refine aN ?_ _ | refine aQ ?_ | refine aM ?_ _)); exact BK123.out)) : gb123 ≠ gb124)); have n6_ := aA.mk ((by rw [hg]; exact Nat.ne_of_gt (bF (g := gb123) (o := .cells #[.slice A0_0 l0_0.length c0_0, .slice A0_1 l0_1.length c0_1] 29 (0, 0)) (by (with_reducible repeat (first | refine aN ?_ _ | refine aQ ?_ | refine aM ?_ _)); exact BK123.out)) : gb124 ≠ gb123)); clear BK123; clear HB; have BK123 := n0_; have HB := n1_; have BK124 := n2_; have GW124 := n3_; have GE124 := n4_; have NB123_124 := n5_; have NB124_123 := n6_; clear n0_ n1_ n2_ n3_ n4_ n5_ n6_; clear hb hbox hg) | ((with_reducible refine aW (N := 5) rfl ?_); refine Kd.R_lit (Kd.int .i64) _ 3 ?hg (N := 5) ?hd (xs := ([] : List Int)) (inner := []) (ok := fun _ => True) (okp := fun _ => True) ?hr ?hp (fun _ hk => hk) trivial (Below.refl _ _) (Nat.le_refl _) (by simp) ?_; (case hd => rfl); (case hg => rfl); (case hr => first | (go_simp; done) | (go_simp; rfl)); (case hp => exact (Reps.none _ _)); intro v126 w5 ho6 hb hg_ hnew_; clear hg_ hnew_; (first | rw [← Ny125.out] at ho6 | (simp only [Int.reduceToNat] at ho6; rw [← Ny125.out] at ho6)); have n0_ := aA.mk (Kd.R_lower ho6 (aT (by repeat (first | (with_reducible first | exact HB.out | apply aH | apply aC | apply aG | refine aJ ?_ GE123.out | refine aJ ?_ GE124.out) | exact HB.out)))); have n1_ := aA.mk (aV (g := gb123) (o := .cells #[.slice A0_0 l0_0.length c0_0, .slice A0_1 l0_1.length c0_1] 29 (0, 0)) (by (with_reducible repeat (first | refine aN ?_ _ | refine aQ ?_ | refine aM ?_ _)); exact BK123.out) hb); have n2_ := aA.mk (aV (g := gb124) (o := .cells #[.slice none 0 0, .slice none 0 0] 29 (0, 0)) (by (with_reducible repeat (first | refine aN ?_ _ | refine aQ ?_ | refine aM ?_ _)); exact BK124.out) hb); have n3_ := aA.mk (aU (by repeat (first | (with_reducible first | exact HB.out | apply aH | apply aC | apply aG | refine aJ ?_ GE123.out | refine aJ ?_ GE124.out) | exact HB.out)) hb); clear BK123; clear BK124; clear HB; have HO127 := n0_; have BK123 := n1_; have BK124 := n2_; have HB := n3_; clear n0_ n1_ n2_ n3_; clear hb ho6; have hnb7 := NB123_124.out; have hnc7 := NB124_123.out; have hcz8_0 : w5.cell? ⟨gb123, 0, none⟩ = some (.slice A0_0 l0_0.length c0_0) := (aE BK123.out 0).trans rfl; have hcz8_1 : w5.cell? ⟨gb123, 1, none⟩ = some (.slice A0_1 l0_1.length c0_1) := (aE BK123.out 1).trans rfl; have hfz8_0 := aD BK123.out 0; have hfz8_1 := aD BK123.out 1) | ((with_reducible refine gate_builtin (b := .append) (xs := #[.tmp 5, .tmp 7]) rfl ?_); at_builtin; refine Kd.R_append_rows (Kd.int .i64) (w0 := w) w.heap.size rfl (.tmp 5) (.tmp 7) 22 3 (.int .i64 0) 8 rfl Try.underlying22 info3 rfl (by decide) (by omega) v126 y125 l0_0 _ _ _ (fun _ => True) (fun _ => False) rfl rfl ?aO ?aR (fun _ _ h => h) (fun _ h => h.elim) ?aF ?aB ?aS ?aL ?_; (case aR => repeat (first | exact (Kd.bJ HR0_0.out HB.out) | (with_reducible refine Kd.bM ?_ _) | (with_reducible refine Kd.bN ?_ _) | (with_reducible refine Kd.bR ?_))); (case aB => exact (by repeat (first | (with_reducible first | exact HB.out | apply aH | apply aC | apply aG | refine aJ ?_ GE123.out | refine aJ ?_ GE124.out) | exact HB.out))); (case aF => exact (fun _ _ => trivial)); (case aO => exact (by (with_reducible repeat (first | apply Kd.aY | apply Kd.aZ | apply Kd.bA)); exact HO127.out)); (case aS => exact (aT (by repeat (first | (with_reducible first | exact HB.out | apply aH | apply aC | apply aG | refine aJ ?_ GE123.out | refine aJ ?_ GE124.out) | exact HB.out)))); (case aL => have := LMc2.out; omega); intro v129 w9 ho hb hg hat; rw [← Ny128.out] at ho; have n0_ := aA.mk (blk_grown (g := gb123) (o := .cells #[.slice A0_0 l0_0.length c0_0, .slice A0_1 l0_1.length c0_1] 29 (0, 0)) (by (with_reducible repeat (first | refine aN ?_ _ | refine aQ ?_ | refine aM ?_ _)); exact BK123.out) hg (Kd.R_ne HO127.out BK123.out (by decide))); have n1_ := aA.mk (blk_grown (g := gb124) (o := .cells #[.slice none 0 0, .slice none 0 0] 29 (0, 0)) (by (with_reducible repeat (first | refine aN ?_ _ | refine aQ ?_ | refine aM ?_ _)); exact BK124.out) hg (Kd.R_ne HO127.out BK124.out (by decide))); have n2_ := aA.mk (hb); have n3_ := aA.mk (ho); clear BK123; clear BK124; clear HB; clear HO127; have BK123 := n0_; have BK124 := n1_; have HB := n2_; have HO130 := n3_; clear n0_ n1_ n2_ n3_; clear ho hb hg hat; obtain ⟨Ao10, co10, eo10⟩ := Kd.R_slice HO130.out; subst eo10) | ((with_reducible refine aW (N := 3) rfl ?_); refine aX ?hg (N := 3) ?hd (cs := #[.slice none 0 0, .slice none 0 0]) (t := 29) ?hr ?_; (case hd => rfl); (case hg => rfl); (case hr => first | (go_simp; done) | (go_simp; rfl)); intro gb131 hg w11 hbox hb; have n0_ := aA.mk (Kd.bU (by (with_reducible repeat (first | apply Kd.aY | apply Kd.aZ | apply Kd.bA)); exact HO130.out) hb); have n1_ := aA.mk (aV (g := gb123) (o := .cells #[.slice A0_0 l0_0.length c0_0, .slice A0_1 l0_1.length c0_1] 29 (0, 0)) (by (with_reducible repeat (first | refine aN ?_ _ | refine aQ ?_ | refine aM ?_ _)); exact BK123.out) hb); have n2_ := aA.mk (aV (g := gb124) (o := .cells #[.slice none 0 0, .slice none 0 0] 29 (0, 0)) (by (with_reducible repeat (first | refine aN ?_ _ | refine aQ ?_ | refine aM ?_ _)); exact BK124.out) hb); have n3_ := aA.mk (aU (by repeat (first | (with_reducible first | exact HB.out | apply aH | apply aC | apply aG | refine aJ ?_ GE123.out | refine aJ ?_ GE124.out) | exact HB.out)) hb); have n4_ := aA.mk (hbox); have n5_ := aA.mk ((by rw [hg]; exact (aT (by repeat (first | (with_reducible first | exact HB.out | apply aH | apply aC | apply aG | refine aJ ?_ GE123.out | refine aJ ?_ GE124.out) | exact HB.out))) : w.heap.size ≤ gb131)); have n6_ := aA.mk ((by rw [hg]; exact (aT (by repeat (first | (with_reducible first | exact HB.out | apply aH | apply aC | apply aG | refine aJ ?_ GE123.out | refine aJ ?_ GE124.out) | exact HB.out))) : w.heap.size ≤ gb131)); have n7_ := aA.mk ((by rw [hg]; exact Nat.ne_of_lt (bF (g := gb123) (o := .cells #[.slice A0_0 l0_0.length c0_0, .slice A0_1 l0_1.length c0_1] 29 (0, 0)) (by (with_reducible repeat (first | refine aN ?_ _ | refine aQ ?_ | refine aM ?_ _)); exact BK123.out)) : gb123 ≠ gb131)); have n8_ := aA.mk ((by rw [hg]; exact Nat.ne_of_gt (bF (g := gb123) (o := .cells #[.slice A0_0 l0_0.length c0_0, .slice A0_1 l0_1.length c0_1] 29 (0, 0)) (by (with_reducible repeat (first | refine aN ?_ _ | refine aQ ?_ | refine aM ?_ _)); exact BK123.out)) : gb131 ≠ gb123)); have n9_ := aA.mk ((by rw [hg]; exact Nat.ne_of_lt (bF (g := gb124) (o := .cells #[.slice none 0 0, .slice none 0 0] 29 (0, 0)) (by (with_reducible repeat (first | refine aN ?_ _ | refine aQ ?_ | refine aM ?_ _)); exact BK124.out)) : gb124 ≠ gb131)); have n10_ := aA.mk ((by rw [hg]; exact Nat.ne_of_gt (bF (g := gb124) (o := .cells #[.slice none 0 0, .slice none 0 0] 29 (0, 0)) (by (with_reducible repeat (first | refine aN ?_ _ | refine aQ ?_ | refine aM ?_ _)); exact BK124.out)) : gb131 ≠ gb124)); clear HO130; clear BK123; clear BK124; clear HB; have HO130 := n0_; have BK123 := n1_; have BK124 := n2_; have HB := n3_; have BK131 := n4_; have GW131 := n5_; have GE131 := n6_; have NB123_131 := n7_; have NB131_123 := n8_; have NB124_131 := n9_; have NB131_124 := n10_; clear n0_ n1_ n2_ n3_ n4_ n5_ n6_ n7_ n8_ n9_ n10_; clear hb hbox hg; have hnb12 := NB131_123.out; have hnc12 := NB123_131.out; have hnb13 := NB131_124.out; have hnc13 := NB124_131.out; have hcz14_0 : w11.cell? ⟨gb131, 0, none⟩ = some (.slice none 0 0) := (aE BK131.out 0).trans rfl; have hcz14_1 : w11.cell? ⟨gb131, 1, none⟩ = some (.slice none 0 0) := (aE BK131.out 1).trans rfl; have hfz14_0 := aD BK131.out 0; have hfz14_1 := aD BK131.out 1))
  go_loopg [4] k (fun kq v4 w' => ∃ (x4_1 : Int) (x132001_1 : List (S59)) (u132001 : Value), v4 = .int .i64 x4_1 ∧ aA (spec_l6Copy.l0 kq x4_1 l0_0 l0_1 y128 x132001_1 = some (r1, r2)) ∧ aA (kq ≤ k) ∧ aA (Kd.R (Kd.int .i64) 3 w' w.heap.size (fun _ => True) (.slice Ao10 y128.length co10) y128) ∧ aA (Kd.R k59 59 w' w.heap.size (fun _ => True) u132001 x132001_1) ∧ aA (w'.heap[gb123]? = some (.cells #[(.slice A0_0 l0_0.length c0_0), (.slice A0_1 l0_1.length c0_1)] 29 (0, 0))) ∧ aA (w'.heap[gb124]? = some (.cells #[(.slice none 0 0), (.slice none 0 0)] 29 (0, 0))) ∧ aA (w'.heap[gb131]? = some (.cells #[(.slice Ao10 y128.length co10), u132001] 29 (0, 0))) ∧ aA (Below w.heap.size w w'))
  case atStart => exact ⟨(0), (([] : List (S59))), (.slice none 0 0), (by first | rfl | (simp; done) | (simp [*]; done)), H', ⟨Nat.le_refl _⟩, ⟨by (with_reducible repeat (first | apply Kd.aY | apply Kd.aZ | apply Kd.bA)); exact Kd.bK (Kd.R_far (p := ⟨gb131, 1, none⟩) (Kd.R_far (p := ⟨gb131, 0, none⟩) (Kd.R_types HO130.out BK131.out (by decide)) (fun _ hk => hk.2) (.slice Ao10 y128.length co10)) (fun _ hk => hk.2) (.slice none 0 0)) (fun _ hk => trivial)⟩, ⟨by first | exact Kd.R_nil _ _ _ _ _ | exact Kd.N_nil _ _ _ _ _ | exact Kd.V_nil _ _ _ _ _ | exact Kd.Q_nil _ _ _ _ _ | exact Kd.S_nil _ _ _ _ _⟩, ⟨by (with_reducible repeat (first | refine aN ?_ _ | refine aQ ?_ | refine aM ?_ _)); refine blk_far ?_ NB123_131.out _; (with_reducible repeat (first | refine aN ?_ _ | refine aQ ?_ | refine aM ?_ _)); refine blk_far ?_ NB123_131.out _; (with_reducible repeat (first | refine aN ?_ _ | refine aQ ?_ | refine aM ?_ _)); exact BK123.out⟩, ⟨by (with_reducible repeat (first | refine aN ?_ _ | refine aQ ?_ | refine aM ?_ _)); refine blk_far ?_ NB124_131.out _; (with_reducible repeat (first | refine aN ?_ _ | refine aQ ?_ | refine aM ?_ _)); refine blk_far ?_ NB124_131.out _; (with_reducible repeat (first | refine aN ?_ _ | refine aQ ?_ | refine aM ?_ _)); exact BK124.out⟩, ⟨by (with_reducible repeat (first | refine aN ?_ _ | refine aQ ?_ | refine aM ?_ _)); refine bG (cs := #[.slice Ao10 y128.length co10, .slice none 0 0]) ?_ 1 _ rfl; (with_reducible repeat (first | refine aN ?_ _ | refine aQ ?_ | refine aM ?_ _)); refine bG (cs := #[.slice none 0 0, .slice none 0 0]) ?_ 0 _ rfl; (with_reducible repeat (first | refine aN ?_ _ | refine aQ ?_ | refine aM ?_ _)); exact BK131.out⟩, ⟨by repeat (first | (with_reducible first | exact HB.out | apply aH | apply aC | apply aG | refine aJ ?_ GE123.out | refine aJ ?_ GE124.out | refine aJ ?_ GE131.out) | exact HB.out)⟩⟩
  case round =>
   clear H'
   try clear c1
   try clear c2
   try clear p2
   try clear c7
   try clear c12
   try clear c13
   try clear hcz14_0
   try clear hcz14_1
   try clear hcz8_0
   try clear hcz8_1
   try clear hfz14_0
   try clear hfz14_1
   try clear hfz8_0
   try clear hfz8_1
   obtain ⟨x4_1, x132001_1, u132001, rfl, HA, HK1, HO_132000, HO_132001, BK123, BK124, BK131, HB⟩ := hrel
   cases gk with
   | zero => exact absurd HA.out (by simp [spec_l6Copy.l0])
   | succ k1 =>
    have H := HA.out
    clear HA
    simp only [spec_l6Copy.l0] at H
    by_cases c15 : x4_1 < (l0_1.length : Int)
    ·rw [if_pos c15] at H
     have c15b0 : decide (x4_1 < (l0_1.length : Int)) = true := decide_eq_true c15
     clear c15
     by_cases c16 : 0 ≤ x4_1
     ·rw [if_pos c16] at H
      have c16b0 : decide (0 ≤ x4_1) = true := decide_eq_true c16
      clear c16
      replace H := lF H
      obtain ⟨t133, A170, H⟩ := H
      replace H : (if x132001_1.length < 5864062014805 then (spec_l6Copy.l0 k1 (wrap64 (x4_1 + 1)) l0_0 l0_1 y128 (x132001_1 ++ [(⟨t133⟩ : S59)])) else (none)) = some (r1, r2) := H
      have A17 := aA.mk A170
      clear A170
      by_cases c18 : x132001_1.length < 5864062014805
      ·rw [if_pos c18] at H
       have LMc18 := aA.mk c18
       clear c18
       obtain ⟨y136, hy136⟩ : ∃ y_ : List (S59), y_ = (x132001_1 ++ [(⟨t133⟩ : S59)]) := ⟨_, rfl⟩
       replace H : (spec_l6Copy.l0 k1 (wrap64 (x4_1 + 1)) l0_0 l0_1 y128 y136) = some (r1, r2) := by first | (rw [hy136]; with_reducible exact H) | (have H2_ := (Option.bind_some _ _).symm.trans H; rw [hy136]; with_reducible exact H2_) | (have H2_ := (Option.bind_some _ _).symm.trans H; with_reducible exact H2_) | with_reducible exact H | (rw [hy136]; exact H) | exact H
       have Ny136 := aA.mk hy136
       clear hy136
       have H' := aA.mk H
       clear H
       have hnb19 := NB123_124.out
       have hnc19 := NB124_123.out
       have hnb20 := NB123_131.out
       have hnc20 := NB131_123.out
       have hcz21_0 : wr.cell? ⟨gb123, 0, none⟩ = some (.slice A0_0 l0_0.length c0_0) := (aE BK123.out 0).trans rfl
       have hcz21_1 : wr.cell? ⟨gb123, 1, none⟩ = some (.slice A0_1 l0_1.length c0_1) := (aE BK123.out 1).trans rfl
       have hfz21_0 := aD BK123.out 0
       have hfz21_1 := aD BK123.out 1
       try go_wp2
       have n0_ := aA.mk (Kd.bA HO_132000.out)
       have n1_ := aA.mk (Kd.bA HO_132001.out)
       have n2_ := aA.mk (aQ BK123.out)
       have n3_ := aA.mk (aQ BK124.out)
       have n4_ := aA.mk (aQ BK131.out)
       have n5_ := aA.mk (aG HB.out)
       clear HO_132000
       clear HO_132001
       clear BK123
       clear BK124
       clear BK131
       clear HB
       have HO_132000 := n0_
       have HO_132001 := n1_
       have BK123 := n2_
       have BK124 := n3_
       have BK131 := n4_
       have HB := n5_
       clear n0_ n1_ n2_ n3_ n4_ n5_
       have p132 : 0 ≤ (x4_1 : Int) := lE (by first | (with_reducible assumption) | assumption)
       have q132 : x4_1 < (l0_1.length : Int) := lE (by first | (with_reducible assumption) | assumption)
       obtain ⟨ad132, A132_0, c132_0, e132, hx132_0, hl132_0, hi132_0⟩ := at_T59 HR0_1.out x4_1 p132 q132
       have hw132_0 := hx132_0
       cases e132
       replace hx132_0 := (HB.out.cell (lD w _ hx132_0)).trans hx132_0
       have HR132_0 := aA.mk hi132_0
       have HC132_0 := aA.mk hl132_0
       clear hi132_0 hl132_0
       replace p132 := eq_true p132
       replace q132 := eq_true q132
       refine start_ (n := 12) (S := fun w' => w'.cell? ⟨gb131, 0, none⟩ = some (.slice Ao10 y128.length co10) ∧ w'.cell? ⟨gb131, 1, none⟩ = some (u132001) ∧ w'.cell? ⟨gb123, 0, none⟩ = some (.slice A0_0 l0_0.length c0_0) ∧ w'.cell? ⟨gb123, 1, none⟩ = some (.slice (some ad132) l0_1.length c0_1) ∧ w'.cell? (ad132.add (x4_1).toNat) = some (.slice A132_0 ((rd_T59 l0_1 x4_1).f0).length c132_0)) (ds := [11]) #[false, false, false, false, false, false, false, false, false, false, false, false] (by kernel_rfl) rfl rfl ⟨(aE BK131.out 0).trans rfl, (aE BK131.out 1).trans rfl, (aE BK123.out 0).trans rfl, (aE BK123.out 1).trans rfl, ((HB.out.cell (lD w _ hw132_0)).trans hw132_0)⟩ (fun hHeld => ?_); refine with_tabW spec_l6Copy.tab5 spec_l6Copy.bits5 (fun HT_ HW_ => ?_)
       generalize wr.drew = w22 at HO_132000 HO_132001 BK123 BK124 BK131 HB HR132_0 hx132_0 hHeld ⊢
       refine bL (i := 0) (N := some 17) (v := ?_) (a' := ?_) #[true, false, false, false, false, false, false, false, false, false, false, false] rfl rfl (bQ HT_.out (by kernel_rfl)) (fun _ _ _ h => h) (Or.inl ⟨by rfl, ?_⟩) ?_ ?_
       rotate_left
       ·intro w'
        go_simp
        with_reducible rfl
       rotate_left
       ·simp only [Act.put, lA, lB, lC, bD, bC]
        rfl
       refine bL (i := 2) (N := some 19) (v := ?_) (a' := ?_) #[true, false, true, false, false, false, false, false, false, false, false, false] rfl rfl (bQ HT_.out (by kernel_rfl)) (fun _ _ _ h => h) (Or.inl ⟨by rfl, ?_⟩) ?_ ?_
       rotate_left
       ·intro w'
        go_simp
        with_reducible rfl
       rotate_left
       ·simp only [Act.put, lA, lB, lC, bD, bC]
        rfl
       refine bL (i := 4) (N := some 21) (v := ?_) (a' := ?_) #[true, false, true, false, true, false, false, false, false, false, false, false] rfl rfl (bQ HT_.out (by kernel_rfl)) (fun _ _ _ h => h) (Or.inl ⟨by rfl, ?_⟩) ?_ ?_
       rotate_left
       ·intro w'
        go_simp
        with_reducible rfl
       rotate_left
       ·simp only [Act.put, lA, lB, lC, bD, bC]
        rfl
       refine take_ (i := 1) (N := some 18) (v := ?_) (a' := ?_) #[true, true, true, false, true, false, false, false, false, false, false, false] rfl rfl (take_ofW HT_.out HW_.out (by kernel_rfl)) (fun _ _ _ h => h) (Or.inl ⟨by rfl, ?_⟩) hHeld ?_ ?_
       rotate_left
       ·rintro w' ⟨s0, s1, s2, s3, s4⟩
        go_simp
        with_reducible rfl
       rotate_left
       ·simp only [Act.put, lA, lB, lC, bD, bC]
        rfl
       refine take_ (i := 3) (N := some 20) (v := ?_) (a' := ?_) #[true, true, true, true, true, false, false, false, false, false, false, false] rfl rfl (take_ofW HT_.out HW_.out (by kernel_rfl)) (fun _ _ _ h => h) (Or.inl ⟨by rfl, ?_⟩) hHeld ?_ ?_
       rotate_left
       ·rintro w' ⟨s0, s1, s2, s3, s4⟩
        go_simp
        with_reducible rfl
       rotate_left
       ·simp only [Act.put, lA, lB, lC, bD, bC]
        rfl
       refine bL (i := 5) (N := some 22) (v := ?_) (a' := ?_) #[true, true, true, true, true, true, false, false, false, false, false, false] rfl rfl (bQ HT_.out (by kernel_rfl)) (fun _ _ _ h => h) (Or.inl ⟨by rfl, ?_⟩) ?_ ?_
       rotate_left
       ·intro w'
        go_simp
        with_reducible rfl
       rotate_left
       ·simp only [Act.put, lA, lB, lC, bD, bC]
        rfl
       refine take_ (i := 6) (N := some 23) (v := ?_) (a' := ?_) #[true, true, true, true, true, true, true, false, false, false, false, false] rfl rfl (take_ofW HT_.out HW_.out (by kernel_rfl)) (fun _ _ _ h => h) (Or.inl ⟨by rfl, ?_⟩) hHeld ?_ ?_
       rotate_left
       ·rintro w' ⟨s0, s1, s2, s3, s4⟩
        go_simp
        with_reducible rfl
       rotate_left
       ·simp only [Act.put, lA, lB, lC, bD, bC]
        rfl
       refine one_ (i := 7) (N := some 24) #[true, true, true, true, true, true, true, true, false, false, false, false] rfl rfl (one_of HT_.out (by kernel_rfl)) (by decide) (fun K hK => ?_)
       refine goes_ Try.func67 (by kernel_rfl) rfl #[.agg #[.slice A132_0 ((rd_T59 l0_1 x4_1).f0).length c132_0]] (by rfl) rfl rfl (by (try simp only [List.map_toArray, List.map_cons, List.map_nil]); first | done | rfl | (simp only [List.length_drop, List.length_take]; rfl)) ?_
       with_reducible refine (spec_l5Copy.calls k1 _ _ ((rd_T59 l0_1 x4_1).f0) t133 _ ?side1 ?side2 A17.out).mono ?_
       (case side1 => repeat (first | exact (Kd.bJ HR132_0.out HB.out) | (with_reducible refine Kd.bM ?_ _) | (with_reducible refine Kd.bN ?_ _) | (with_reducible refine Kd.bR ?_)))
       (case side2 => exact HC132_0.out)
       rintro e w23 ⟨v134, rfl, ho0, hb⟩
       refine ⟨_, rfl, ?_⟩
       have n0_ := aA.mk (Kd.bU (by (with_reducible repeat (first | apply Kd.aY | apply Kd.aZ | apply Kd.bA)); exact HO_132000.out) hb)
       have n1_ := aA.mk (Kd.R_elder' (by (with_reducible repeat (first | apply Kd.aY | apply Kd.aZ | apply Kd.bA)); exact HO_132001.out) (Kd.S_base ho0) hb)
       have n2_ := aA.mk (Kd.S_lower ho0 (aT (by repeat (first | (with_reducible first | exact HB.out | apply aH | apply aC | apply aG | refine aJ ?_ GE123.out | refine aJ ?_ GE124.out | refine aJ ?_ GE131.out) | exact HB.out))))
       have n3_ := aA.mk (aV (g := gb123) (o := .cells #[.slice A0_0 l0_0.length c0_0, .slice (some ad132) l0_1.length c0_1] 29 (0, 0)) (by (with_reducible repeat (first | refine aN ?_ _ | refine aQ ?_ | refine aM ?_ _)); exact BK123.out) hb)
       have n4_ := aA.mk (aV (g := gb124) (o := .cells #[.slice none 0 0, .slice none 0 0] 29 (0, 0)) (by (with_reducible repeat (first | refine aN ?_ _ | refine aQ ?_ | refine aM ?_ _)); exact BK124.out) hb)
       have n5_ := aA.mk (aV (g := gb131) (o := .cells #[.slice Ao10 y128.length co10, u132001] 29 (0, 0)) (by (with_reducible repeat (first | refine aN ?_ _ | refine aQ ?_ | refine aM ?_ _)); exact BK131.out) hb)
       have n6_ := aA.mk (aU (by repeat (first | (with_reducible first | exact HB.out | apply aH | apply aC | apply aG | refine aJ ?_ GE123.out | refine aJ ?_ GE124.out | refine aJ ?_ GE131.out) | exact HB.out)) hb)
       clear HO_132000
       clear HO_132001
       clear BK123
       clear BK124
       clear BK131
       clear HB
       have HO_132000 := n0_
       have HO_132001 := n1_
       have HO135 := n2_
       have BK123 := n3_
       have BK124 := n4_
       have BK131 := n5_
       have HB := n6_
       clear n0_ n1_ n2_ n3_ n4_ n5_ n6_
       (try clear hb)
       (try clear hb2)
       (try clear hk)
       (try clear hi)
       (try clear ho0)
       obtain ⟨Ao25, co25, eo25⟩ := Kd.S_slice HO135.out
       (first | subst eo25 | (injection eo25 with f1_ f2_ f3_; have f4_ := f1_.symm; have f5_ := f3_.symm; clear f1_ f2_ f3_; subst f4_; subst f5_))
       refine hK.out _ _ ⟨(aE BK131.out 0).trans rfl, (aE BK131.out 1).trans rfl, (aE BK123.out 0).trans rfl, (aE BK123.out 1).trans rfl, ((HB.out.cell (lD w _ hw132_0)).trans hw132_0)⟩ (fun hHeld => ?_)
       clear hK K
       refine norm_ (a' := ?_) ?_ ?_
       rotate_left
       ·show Act.put _ (some 24) _ = _
        simp only [Act.put, lA, lB, lC, bD, bC]
        rfl
       refine one_ (i := 8) (N := some 25) #[true, true, true, true, true, true, true, true, true, false, false, false] rfl rfl (one_of HT_.out (by kernel_rfl)) (by decide) (fun K hK => ?_)
       refine value_ (w1 := ?_) (v := ?_) (by rfl) rfl ?_ ?_
       rotate_left 2
       ·go_simp
        constructor
        ·rfl
        ·rfl
       refine hK.out _ _ ⟨(aE (aM BK131.out _) 0).trans rfl, (aE (aM BK131.out _) 1).trans rfl, (aE (aM BK123.out _) 0).trans rfl, (aE (aM BK123.out _) 1).trans rfl, (World.cell?_alloc_lt _ _ _ (lD _ _ (((HB.out.cell (lD w _ hw132_0)).trans hw132_0)))).trans (((HB.out.cell (lD w _ hw132_0)).trans hw132_0))⟩ (fun hHeld => ?_)
       clear hK K
       refine norm_ (a' := ?_) ?_ ?_
       rotate_left
       ·show Act.put _ (some 25) _ = _
        simp only [Act.put, lA, lB, lC, bD, bC]
        rfl
       refine one_ (i := 9) (N := some 26) #[true, true, true, true, true, true, true, true, true, true, false, false] rfl rfl (one_of HT_.out (by kernel_rfl)) (by decide) (fun K hK => ?_)
       refine Kd.R_append_step k59 (w0 := w) w.heap.size (by rfl) (.tmp 18) (.tmp 25) 27 59 (.agg #[(.slice none 0 0)]) 24 rfl Try.underlying27 info59 rfl (by decide) (by omega) u132001 x132001_1 (⟨t133⟩ : S59) [.slice Ao25 t133.length co25] (fun _ => True) (fun k_ => ((fun _ => True)) k_ ∧ some k_ ≠ (u132001 : Value).ownBlock) rfl rfl ?aP (fun _ hk => hk) ?aF ?aO ?aB ?aS ?aL ?_
       (case aP => exact k59_mkM _ _ _ (⟨t133⟩ : S59) (Kd.bK (Kd.R_apart' ((Kd.S_R HO135.out)) (Kd.R_typed HO_132001.out) (by decide)) (fun k_ hk => ⟨trivial, hk.2⟩)))
       (case aB => exact (by repeat (first | (with_reducible first | exact HB.out | apply aH | apply aC | apply aG | refine aJ ?_ GE123.out | refine aJ ?_ GE124.out | refine aJ ?_ GE131.out) | exact HB.out)))
       (case aF => exact (fun _ _ => trivial))
       (case aO => exact (by (with_reducible repeat (first | apply Kd.aY | apply Kd.aZ | apply Kd.bA)); exact Kd.bK HO_132001.out (fun _ hk => trivial)))
       (case aS => exact (aT (by repeat (first | (with_reducible first | exact HB.out | apply aH | apply aC | apply aG | refine aJ ?_ GE123.out | refine aJ ?_ GE124.out | refine aJ ?_ GE131.out) | exact HB.out))))
       (case aL => have := LMc18.out; omega)
       intro v137 w24 ho hb hg hat
       rw [← Ny136.out] at ho
       have n0_ := aA.mk (Kd.R_over' (by (with_reducible repeat (first | apply Kd.aY | apply Kd.aZ | apply Kd.bA)); exact HO_132000.out) (Kd.R_typed (by (with_reducible repeat (first | apply Kd.aY | apply Kd.aZ | apply Kd.bA)); exact HO_132001.out)) (by decide) hg)
       have n1_ := aA.mk (blk_grown (g := gb123) (o := .cells #[.slice A0_0 l0_0.length c0_0, .slice (some ad132) l0_1.length c0_1] 29 (0, 0)) (by (with_reducible repeat (first | refine aN ?_ _ | refine aQ ?_ | refine aM ?_ _)); exact BK123.out) hg (Kd.R_ne HO_132001.out BK123.out (by decide)))
       have n2_ := aA.mk (blk_grown (g := gb124) (o := .cells #[.slice none 0 0, .slice none 0 0] 29 (0, 0)) (by (with_reducible repeat (first | refine aN ?_ _ | refine aQ ?_ | refine aM ?_ _)); exact BK124.out) hg (Kd.R_ne HO_132001.out BK124.out (by decide)))
       have n3_ := aA.mk (blk_grown (g := gb131) (o := .cells #[.slice Ao10 y128.length co10, u132001] 29 (0, 0)) (by (with_reducible repeat (first | refine aN ?_ _ | refine aQ ?_ | refine aM ?_ _)); exact BK131.out) hg (Kd.R_ne HO_132001.out BK131.out (by decide)))
       have n4_ := aA.mk (hb)
       have n5_ := aA.mk (ho)
       clear HO_132000
       clear BK123
       clear BK124
       clear BK131
       clear HB
       clear HO_132001
       clear HO135
       have HO_132000 := n0_
       have BK123 := n1_
       have BK124 := n2_
       have BK131 := n3_
       have HB := n4_
       have HO138 := n5_
       clear n0_ n1_ n2_ n3_ n4_ n5_
       clear ho hb hg hat
       obtain ⟨Ao26, co26, eo26⟩ := Kd.R_slice HO138.out
       (first | subst eo26 | (injection eo26 with f1_ f2_ f3_; have f4_ := f1_.symm; have f5_ := f3_.symm; clear f1_ f2_ f3_; subst f4_; subst f5_))
       refine hK.out _ _ ⟨(aE BK131.out 0).trans rfl, (aE BK131.out 1).trans rfl, (aE BK123.out 0).trans rfl, (aE BK123.out 1).trans rfl, ((HB.out.cell (lD w _ hw132_0)).trans hw132_0)⟩ (fun hHeld => ?_)
       clear hK K
       refine norm_ (a' := ?_) ?_ ?_
       rotate_left
       ·show Act.put _ (some 26) _ = _
        simp only [Act.put, lA, lB, lC, bD, bC]
        rfl
       refine bL (i := 10) (N := some 27) (v := ?_) (a' := ?_) #[true, true, true, true, true, true, true, true, true, true, true, false] rfl rfl (bQ HT_.out (by kernel_rfl)) (fun _ _ _ h => h) (Or.inl ⟨by rfl, ?_⟩) ?_ ?_
       rotate_left
       ·intro w'
        go_simp
        with_reducible rfl
       rotate_left
       ·simp only [Act.put, lA, lB, lC, bD, bC]
        rfl
       refine last_ (i := 11) (N := none) #[true, true, true, true, true, true, true, true, true, true, true, true] rfl rfl (one_of HT_.out (by kernel_rfl)) (by decide) (fun K hK => ?_)
       have hs27 : w24.cell? ⟨gb131, 1, none⟩ = some (u132001) := (aE BK131.out 1).trans rfl
       have hfs27 := aD BK131.out 1
       have hns27_0 := NB123_131.out
       have hns27_1 := NB124_131.out
       have hms27_0 := NB131_123.out
       have hms27_1 := NB131_124.out
       refine skip_ (w1 := ?_) (by rfl) rfl ?_ ?_
       rotate_left
       ·go_simp
        rfl
       refine hK.out _ _ ?_
       clear hK K
       refine done_ (done_of HT_.out (by kernel_rfl)) ?_
       try go_wp2
       go_roundg k1
       case measure => have := HK1.out; omega
       case rel => exact ⟨(wrap64 (x4_1 + 1)), (y136), (.slice Ao26 y136.length co26), (by first | rfl | (simp; done) | (simp [*]; done)), H', ⟨by have := HK1.out; omega⟩, ⟨by (with_reducible repeat (first | apply Kd.aY | apply Kd.aZ | apply Kd.bA)); exact Kd.bK (Kd.R_far (p := ⟨gb131, 1, none⟩) (Kd.R_types HO_132000.out BK131.out (by decide)) (fun _ hk => hk.2) (.slice Ao26 y136.length co26)) (fun _ hk => trivial)⟩, ⟨by (with_reducible repeat (first | apply Kd.aY | apply Kd.aZ | apply Kd.bA)); exact Kd.bK (Kd.R_far (p := ⟨gb131, 1, none⟩) (Kd.R_types HO138.out BK131.out (by decide)) (fun _ hk => hk.2) (.slice Ao26 y136.length co26)) (fun _ hk => trivial)⟩, ⟨by (with_reducible repeat (first | refine aN ?_ _ | refine aQ ?_ | refine aM ?_ _)); refine blk_far ?_ NB123_131.out _; (with_reducible repeat (first | refine aN ?_ _ | refine aQ ?_ | refine aM ?_ _)); exact BK123.out⟩, ⟨by (with_reducible repeat (first | refine aN ?_ _ | refine aQ ?_ | refine aM ?_ _)); refine blk_far ?_ NB124_131.out _; (with_reducible repeat (first | refine aN ?_ _ | refine aQ ?_ | refine aM ?_ _)); exact BK124.out⟩, ⟨by (with_reducible repeat (first | refine aN ?_ _ | refine aQ ?_ | refine aM ?_ _)); refine bG (cs := #[.slice Ao10 y128.length co10, u132001]) ?_ 1 _ rfl; (with_reducible repeat (first | refine aN ?_ _ | refine aQ ?_ | refine aM ?_ _)); exact BK131.out⟩, ⟨by repeat (first | (with_reducible first | exact HB.out | apply aH | apply aC | apply aG | refine aJ ?_ GE123.out | refine aJ ?_ GE124.out | refine aJ ?_ GE131.out) | exact HB.out)⟩⟩
      ·rw [if_neg c18] at H
       exact absurd H (by simp)
     ·rw [if_neg c16] at H
      exact absurd H (by simp)
    ·rw [if_neg c15] at H
     have c15b0 : decide (x4_1 < (l0_1.length : Int)) = false := decide_eq_false c15
     clear c15
     simp only [Option.some.injEq, Prod.mk.injEq] at H
     obtain ⟨rfl, rfl⟩ := H
     have hnb28 := NB123_124.out
     have hnc28 := NB124_123.out
     have hnb29 := NB123_131.out
     have hnc29 := NB131_123.out
     have hcz30_0 : wr.cell? ⟨gb123, 0, none⟩ = some (.slice A0_0 l0_0.length c0_0) := (aE BK123.out 0).trans rfl
     have hcz30_1 : wr.cell? ⟨gb123, 1, none⟩ = some (.slice A0_1 l0_1.length c0_1) := (aE BK123.out 1).trans rfl
     have hfz30_0 := aD BK123.out 0
     have hfz30_1 := aD BK123.out 1
     have hnb31 := NB131_124.out
     have hnc31 := NB124_131.out
     have hcz32_0 : wr.cell? ⟨gb131, 0, none⟩ = some (.slice Ao10 y128.length co10) := (aE BK131.out 0).trans rfl
     have hcz32_1 : wr.cell? ⟨gb131, 1, none⟩ = some (u132001) := (aE BK131.out 1).trans rfl
     have hfz32_0 := aD BK131.out 0
     have hfz32_1 := aD BK131.out 1
     have hcz33_0 : wr.cell? ⟨gb124, 0, none⟩ = some (.slice none 0 0) := (aE BK124.out 0).trans rfl
     have hcz33_1 : wr.cell? ⟨gb124, 1, none⟩ = some (.slice none 0 0) := (aE BK124.out 1).trans rfl
     have hfz33_0 := aD BK124.out 0
     have hfz33_1 := aD BK124.out 1
     obtain ⟨Ao34, co34, eo34⟩ := Kd.R_slice HO_132001.out
     subst eo34
     go_wp2
     refine bodyPost_ret (results_cell_row rfl _ _ gb124 29 #[.slice Ao10 y128.length co10, .slice Ao34 x132001_1.length co34] (0, 0) _ rfl (by (with_reducible repeat (first | refine aN ?_ _ | refine aQ ?_ | refine aM ?_ _)); refine bG (cs := #[.slice Ao10 y128.length co10, .slice none 0 0]) ?_ 1 _ rfl; (with_reducible repeat (first | refine aN ?_ _ | refine aQ ?_ | refine aM ?_ _)); refine bG (cs := #[.slice none 0 0, .slice none 0 0]) ?_ 0 _ rfl; (with_reducible repeat (first | refine aN ?_ _ | refine aQ ?_ | refine aM ?_ _)); exact BK124.out) Try.underlying29 rfl (by kernel_rfl)) rfl ?_
     exact ⟨_, _, by first | rfl | (simp [errW_none, errW_some] <;> rfl) | (simp [*, errW_none, errW_some] <;> rfl), by (with_reducible repeat (first | apply Kd.aY | apply Kd.aZ | apply Kd.bA)); exact Kd.bK (Kd.R_far (p := ⟨gb124, 1, none⟩) (Kd.R_far (p := ⟨gb124, 0, none⟩) (Kd.R_types HO_132000.out BK124.out (by decide)) (fun _ hk => hk.2) (.slice Ao10 y128.length co10)) (fun _ hk => hk.2) (.slice Ao34 x132001_1.length co34)) (fun _ hk => trivial), by (with_reducible repeat (first | apply Kd.aY | apply Kd.aZ | apply Kd.bA)); exact Kd.bK (Kd.R_far (p := ⟨gb124, 1, none⟩) (Kd.R_far (p := ⟨gb124, 0, none⟩) (Kd.R_types HO_132001.out BK124.out (by decide)) (fun _ hk => hk.2) (.slice Ao10 y128.length co10)) (fun _ hk => hk.2) (.slice Ao34 x132001_1.length co34)) (fun _ hk => trivial), by repeat (first | (with_reducible first | exact HB.out | apply aH | apply aC | apply aG | refine aJ ?_ GE123.out | refine aJ ?_ GE124.out | refine aJ ?_ GE131.out) | exact HB.out)⟩
 ·rw [if_neg c2] at H
  exact absurd H (by simp)
def spec_l1In.f (a0 : Int) (a1 : Int) (a2 : Int) : Option (Bool) := if a0 ≥ a1 then (some (decide (a0 ≤ a2))) else (some false)
set_option maxHeartbeats 8000000 in
set_option maxRecDepth 100000 in
theorem spec_l1In.calls (a0 : Int) (a1 : Int) (a2 : Int) (r : Bool) (w : World) (h : spec_l1In.f a0 a1 a2 = some r) :
  Calls Try.prog 27 #[.int .i64 a0, .int .i64 a1, .int .i64 a2] w fun e w' => e = .returned (.bool r) ∧ bH w w' := by
 have H : (if a0 ≥ a1 then (some (decide (a0 ≤ a2))) else (some false)) = some r := h
 clear h
 by_cases c4 : a0 ≥ a1
 ·rw [if_pos c4] at H
  have c4b0 : decide (a1 ≤ a0) = true := decide_eq_true c4
  clear c4
  obtain rfl := Option.some.inj H
  go_enter Try.func27, Try.ntmps27
  go_wp2
  go_ret
  exact ⟨by first | rfl | (simp; done) | (simp [*]; done), by repeat (first | exact bH.refl _ | apply bH.step)⟩
 ·rw [if_neg c4] at H
  have c4b0 : decide (a1 ≤ a0) = false := decide_eq_false c4
  clear c4
  obtain rfl := Option.some.inj H
  go_enter Try.func27, Try.ntmps27
  go_wp2
  go_ret
  exact ⟨by first | rfl | (simp; done) | (simp [*]; done), by repeat (first | exact bH.refl _ | apply bH.step)⟩
def spec_Drop.l0 : Nat → List (S38) → List (S38) → Int → Option ((List (S38)))
 | 0, _, _, _ => none
 | k + 1, x0, x3, x4 => if x4 < (x0.length : Int) then (if 0 ≤ x4 then (if ((rd_T38 x0 x4).f2) = 0 then (spec_Drop.l0 k x0 x3 (wrap64 (x4 + 1))) else (if x3.length < 3518437208883 then (spec_Drop.l0 k x0 (x3 ++ [(⟨(rd_T38 x0 x4).f0, (rd_T38 x0 x4).f1, (rd_T38 x0 x4).f2, (rd_T38 x0 x4).f3, (rd_T38 x0 x4).f4⟩ : S38)]) (wrap64 (x4 + 1))) else (none))) else (none)) else (some x3)
def spec_Drop.f (k : Nat) (l0 : List (S38)) : Option ((List (S38))) := spec_Drop.l0 k l0 (([] : List (S38))) 0
set_option maxHeartbeats 8000000 in
set_option maxRecDepth 100000 in
theorem spec_Drop.calls (k : Nat) (A0 : Option Addr) (c0 : Nat) (l0 : List (S38)) (r : List (S38)) (w : World) (hr0 : Kd.C k38 w A0 l0.length l0) (hc0 : l0.length ≤ c0) (h : spec_Drop.f k l0 = some r) :
  Calls Try.prog 52 #[.slice A0 l0.length c0] w fun e w' => ∃ v0_ : Value, e = .returned (v0_) ∧ Kd.R k38 38 w' w.heap.size (fun _ => True) v0_ r ∧ Below w.heap.size w w' := by
 have hu38 := Try.underlying38
 have HR0 := aA.mk hr0
 have HC0 := aA.mk hc0
 clear hr0 hc0
 have HB := aA.mk (Below.refl w.heap.size w)
 have H : (spec_Drop.l0 k l0 (([] : List (S38))) 0) = some r := h
 clear h
 obtain ⟨y139, hy139⟩ : ∃ y_ : List (S38), y_ = (([] : List (S38))) := ⟨_, rfl⟩
 replace H : (spec_Drop.l0 k l0 y139 0) = some r := by first | (rw [hy139]; with_reducible exact H) | (have H2_ := (Option.bind_some _ _).symm.trans H; rw [hy139]; with_reducible exact H2_) | (have H2_ := (Option.bind_some _ _).symm.trans H; with_reducible exact H2_) | with_reducible exact H | (rw [hy139]; exact H) | exact H
 have Ny139 := aA.mk hy139
 clear hy139
 have H' := aA.mk H
 clear H
 go_enter Try.func52, Try.ntmps52
 go_wp2_with (first | ((with_reducible refine aW (N := 5) rfl ?_); refine Kd.R_lit k38 _ 38 ?hg (N := 5) ?hd (xs := ([] : List (S38))) (inner := []) (ok := fun _ => True) (okp := fun _ => True) ?hr ?hp (fun _ hk => hk) trivial (Below.refl _ _) (Nat.le_refl _) (by simp) ?_; (case hd => rfl); (case hg => rfl); (case hr => first | (go_simp; done) | (go_simp; rfl)); (case hp => exact (Reps.none _ _)); intro v140 w2 ho3 hb hg_ hnew_; clear hg_ hnew_; (first | rw [← Ny139.out] at ho3 | (simp only [Int.reduceToNat] at ho3; rw [← Ny139.out] at ho3)); have n0_ := aA.mk (Kd.R_lower ho3 (aT (by repeat (first | (with_reducible first | exact HB.out | apply aH | apply aC | apply aG) | exact HB.out)))); have n1_ := aA.mk (aU (by repeat (first | (with_reducible first | exact HB.out | apply aH | apply aC | apply aG) | exact HB.out)) hb); clear HB; have HO141 := n0_; have HB := n1_; clear n0_ n1_; clear hb ho3))
 go_loopg [3, 4] k (fun kq v3 v4 w' => ∃ (x3_1 : List (S38)) (x4_1 : Int), v4 = .int .i64 x4_1 ∧ aA (spec_Drop.l0 kq l0 x3_1 x4_1 = some r) ∧ aA (kq ≤ k) ∧ aA (Kd.R k38 38 w' w.heap.size (fun _ => True) v3 x3_1) ∧ aA (Below w.heap.size w w'))
 case atStart => exact ⟨(y139), (0), (by first | rfl | (simp; done) | (simp [*]; done)), H', ⟨Nat.le_refl _⟩, ⟨by (with_reducible repeat (first | apply Kd.aY | apply Kd.aZ | apply Kd.bA)); exact HO141.out⟩, ⟨by repeat (first | (with_reducible first | exact HB.out | apply aH | apply aC | apply aG) | exact HB.out)⟩⟩
 case round =>
  clear H'
  try clear p2
  obtain ⟨x3_1, x4_1, rfl, HA, HK1, HO_3, HB⟩ := hrel
  cases gk with
  | zero => exact absurd HA.out (by simp [spec_Drop.l0])
  | succ k1 =>
   have H := HA.out
   clear HA
   simp only [spec_Drop.l0] at H
   by_cases c4 : x4_1 < (l0.length : Int)
   ·rw [if_pos c4] at H
    have c4b0 : decide (x4_1 < (l0.length : Int)) = true := decide_eq_true c4
    clear c4
    by_cases c5 : 0 ≤ x4_1
    ·rw [if_pos c5] at H
     have c5b0 : decide (0 ≤ x4_1) = true := decide_eq_true c5
     clear c5
     by_cases c6 : ((rd_T38 l0 x4_1).f2) = 0
     ·rw [if_pos c6] at H
      have c6b0 : (((rd_T38 l0 x4_1).f2) == 0) = true := beq_iff_eq.mpr c6
      have c6b1 : (((rd_T38 l0 x4_1).f2) != 0) = false := bne_eq_false_iff_eq.mpr c6
      clear c6
      have H' := aA.mk H
      clear H
      have p142 : 0 ≤ (x4_1 : Int) := lE (by first | (with_reducible assumption) | assumption)
      have q142 : x4_1 < (l0.length : Int) := lE (by first | (with_reducible assumption) | assumption)
      obtain ⟨ad142, e142, hx142_0, hx142_1, hx142_2, hx142_3, hx142_4⟩ := at_T38 HR0.out x4_1 p142 q142
      cases e142
      replace hx142_0 := (HB.out.cell (lD w _ hx142_0)).trans hx142_0
      replace hx142_1 := (HB.out.cell (lD w _ hx142_1)).trans hx142_1
      replace hx142_2 := (HB.out.cell (lD w _ hx142_2)).trans hx142_2
      replace hx142_3 := (HB.out.cell (lD w _ hx142_3)).trans hx142_3
      replace hx142_4 := (HB.out.cell (lD w _ hx142_4)).trans hx142_4
      replace p142 := eq_true p142
      replace q142 := eq_true q142
      go_wp2
      go_roundg k1
      case measure => have := HK1.out; omega
      case rel => exact ⟨(x3_1), (wrap64 (x4_1 + 1)), (by first | rfl | (simp; done) | (simp [*]; done)), H', ⟨by have := HK1.out; omega⟩, ⟨by (with_reducible repeat (first | apply Kd.aY | apply Kd.aZ | apply Kd.bA)); exact HO_3.out⟩, ⟨by repeat (first | (with_reducible first | exact HB.out | apply aH | apply aC | apply aG) | exact HB.out)⟩⟩
     ·rw [if_neg c6] at H
      have c6b0 : (((rd_T38 l0 x4_1).f2) == 0) = false := beq_eq_false_iff_ne.mpr c6
      have c6b1 : (((rd_T38 l0 x4_1).f2) != 0) = true := bne_iff_ne.mpr c6
      by_cases c7 : x3_1.length < 3518437208883
      ·rw [if_pos c7] at H
       have LMc7 := aA.mk c7
       clear c7
       obtain ⟨y144, hy144⟩ : ∃ y_ : List (S38), y_ = (x3_1 ++ [(⟨(rd_T38 l0 x4_1).f0, (rd_T38 l0 x4_1).f1, (rd_T38 l0 x4_1).f2, (rd_T38 l0 x4_1).f3, (rd_T38 l0 x4_1).f4⟩ : S38)]) := ⟨_, rfl⟩
       replace H : (spec_Drop.l0 k1 l0 y144 (wrap64 (x4_1 + 1))) = some r := by first | (rw [hy144]; with_reducible exact H) | (have H2_ := (Option.bind_some _ _).symm.trans H; rw [hy144]; with_reducible exact H2_) | (have H2_ := (Option.bind_some _ _).symm.trans H; with_reducible exact H2_) | with_reducible exact H | (rw [hy144]; exact H) | exact H
       have Ny144 := aA.mk hy144
       clear hy144
       have H' := aA.mk H
       clear H
       have p142 : 0 ≤ (x4_1 : Int) := lE (by first | (with_reducible assumption) | assumption)
       have q142 : x4_1 < (l0.length : Int) := lE (by first | (with_reducible assumption) | assumption)
       obtain ⟨ad142, e142, hx142_0, hx142_1, hx142_2, hx142_3, hx142_4⟩ := at_T38 HR0.out x4_1 p142 q142
       cases e142
       replace hx142_0 := (HB.out.cell (lD w _ hx142_0)).trans hx142_0
       replace hx142_1 := (HB.out.cell (lD w _ hx142_1)).trans hx142_1
       replace hx142_2 := (HB.out.cell (lD w _ hx142_2)).trans hx142_2
       replace hx142_3 := (HB.out.cell (lD w _ hx142_3)).trans hx142_3
       replace hx142_4 := (HB.out.cell (lD w _ hx142_4)).trans hx142_4
       replace p142 := eq_true p142
       replace q142 := eq_true q142
       have p143 : 0 ≤ (x4_1 : Int) := lE (by first | (with_reducible assumption) | assumption)
       have q143 : x4_1 < (l0.length : Int) := lE (by first | (with_reducible assumption) | assumption)
       obtain ⟨ad143, e143, hx143_0, hx143_1, hx143_2, hx143_3, hx143_4⟩ := at_T38 HR0.out x4_1 p143 q143
       obtain rfl : ad142 = ad143 := (by injection e143)
       replace hx143_0 := (HB.out.cell (lD w _ hx143_0)).trans hx143_0
       replace hx143_1 := (HB.out.cell (lD w _ hx143_1)).trans hx143_1
       replace hx143_2 := (HB.out.cell (lD w _ hx143_2)).trans hx143_2
       replace hx143_3 := (HB.out.cell (lD w _ hx143_3)).trans hx143_3
       replace hx143_4 := (HB.out.cell (lD w _ hx143_4)).trans hx143_4
       replace p143 := eq_true p143
       replace q143 := eq_true q143
       go_wp2_with (first | ((with_reducible refine gate_builtin (b := .append) (xs := #[.tmp 18, .tmp 23]) rfl ?_); at_builtin; refine Kd.R_append k38 (w0 := w) w.heap.size rfl (.tmp 18) (.tmp 23) 45 38 (.agg #[(.int .i64 0), (.int .i64 0), (.int .i64 0), (.int .i64 0), (.int .i64 0)]) 40 rfl Try.underlying45 info38 rfl (by decide) (by omega) u3 x3_1 (⟨(rd_T38 l0 x4_1).f0, (rd_T38 l0 x4_1).f1, (rd_T38 l0 x4_1).f2, (rd_T38 l0 x4_1).f3, (rd_T38 l0 x4_1).f4⟩ : S38) [.int .i64 ((rd_T38 l0 x4_1).f0), .int .i64 ((rd_T38 l0 x4_1).f1), .int .i64 ((rd_T38 l0 x4_1).f2), .int .i64 ((rd_T38 l0 x4_1).f3), .int .i64 ((rd_T38 l0 x4_1).f4)] (fun _ => True) (fun _ => False) rfl rfl ?aP (fun _ hk => hk.elim) ?aF ?aO ?aB ?aS ?aL ?_; (case aP => exact k38_mkM _ _ _ (⟨(rd_T38 l0 x4_1).f0, (rd_T38 l0 x4_1).f1, (rd_T38 l0 x4_1).f2, (rd_T38 l0 x4_1).f3, (rd_T38 l0 x4_1).f4⟩ : S38)); (case aB => exact (by repeat (first | (with_reducible first | exact HB.out | apply aH | apply aC | apply aG) | exact HB.out))); (case aF => exact (fun _ _ => trivial)); (case aO => exact (by (with_reducible repeat (first | apply Kd.aY | apply Kd.aZ | apply Kd.bA)); exact HO_3.out)); (case aS => exact (aT (by repeat (first | (with_reducible first | exact HB.out | apply aH | apply aC | apply aG) | exact HB.out)))); (case aL => have := LMc7.out; omega); intro v145 w8 ho hb hg hat; rw [← Ny144.out] at ho; have n0_ := aA.mk (hb); have n1_ := aA.mk (ho); clear HB; clear HO_3; have HB := n0_; have HO146 := n1_; clear n0_ n1_; clear ho hb hg hat))
       go_roundg k1
       case measure => have := HK1.out; omega
       case rel => exact ⟨(y144), (wrap64 (x4_1 + 1)), (by first | rfl | (simp; done) | (simp [*]; done)), H', ⟨by have := HK1.out; omega⟩, ⟨by (with_reducible repeat (first | apply Kd.aY | apply Kd.aZ | apply Kd.bA)); exact HO146.out⟩, ⟨by repeat (first | (with_reducible first | exact HB.out | apply aH | apply aC | apply aG) | exact HB.out)⟩⟩
      ·rw [if_neg c7] at H
       exact absurd H (by simp)
    ·rw [if_neg c5] at H
     exact absurd H (by simp)
   ·rw [if_neg c4] at H
    have c4b0 : decide (x4_1 < (l0.length : Int)) = false := decide_eq_false c4
    clear c4
    obtain rfl := Option.some.inj H
    go_wp2
    go_ret
    exact ⟨_, by first | rfl | (simp [errW_none, errW_some] <;> rfl) | (simp [*, errW_none, errW_some] <;> rfl), by (with_reducible repeat (first | apply Kd.aY | apply Kd.aZ | apply Kd.bA)); exact HO_3.out, by repeat (first | (with_reducible first | exact HB.out | apply aH | apply aC | apply aG) | exact HB.out)⟩
def spec_LessKey.f (a0_0 : Int) (a0_1 : Int) (a0_2 : Int) (a0_3 : Int) (a0_4 : Int) (a1_0 : Int) (a1_1 : Int) (a1_2 : Int) (a1_3 : Int) (a1_4 : Int) : Option (Bool) := if a0_0 = a1_0 then (some (decide (a0_1 < a1_1))) else (some (decide (a0_0 < a1_0)))
set_option maxHeartbeats 8000000 in
set_option maxRecDepth 100000 in
theorem spec_LessKey.calls (a0_0 : Int) (a0_1 : Int) (a0_2 : Int) (a0_3 : Int) (a0_4 : Int) (a1_0 : Int) (a1_1 : Int) (a1_2 : Int) (a1_3 : Int) (a1_4 : Int) (r : Bool) (w : World) (h : spec_LessKey.f a0_0 a0_1 a0_2 a0_3 a0_4 a1_0 a1_1 a1_2 a1_3 a1_4 = some r) :
  Calls Try.prog 85 #[.agg #[.int .i64 a0_0, .int .i64 a0_1, .int .i64 a0_2, .int .i64 a0_3, .int .i64 a0_4], .agg #[.int .i64 a1_0, .int .i64 a1_1, .int .i64 a1_2, .int .i64 a1_3, .int .i64 a1_4]] w fun e w' => e = .returned (.bool r) ∧ Below w.heap.size w w' := by
 have hu38 := Try.underlying38
 have HB := aA.mk (Below.refl w.heap.size w)
 have H : (if a0_0 = a1_0 then (some (decide (a0_1 < a1_1))) else (some (decide (a0_0 < a1_0)))) = some r := h
 clear h
 by_cases c3 : a0_0 = a1_0
 ·rw [if_pos c3] at H
  have c3b0 : (a0_0 == a1_0) = true := beq_iff_eq.mpr c3
  have c3b1 : (a0_0 != a1_0) = false := bne_eq_false_iff_eq.mpr c3
  clear c3
  obtain rfl := Option.some.inj H
  go_enter Try.func85, Try.ntmps85
  go_wp2_with (first | ((with_reducible refine aW (N := 2) rfl ?_); refine aX ?hg (N := 2) ?hd (cs := #[.int .i64 a0_0, .int .i64 a0_1, .int .i64 a0_2, .int .i64 a0_3, .int .i64 a0_4]) (t := 38) ?hr ?_; (case hd => rfl); (case hg => rfl); (case hr => first | (go_simp; done) | (go_simp; rfl)); intro gb147 hg w4 hbox hb; have n0_ := aA.mk (aU (by repeat (first | (with_reducible first | exact HB.out | apply aH | apply aC | apply aG) | exact HB.out)) hb); have n1_ := aA.mk (hbox); have n2_ := aA.mk ((by rw [hg]; exact (aT (by repeat (first | (with_reducible first | exact HB.out | apply aH | apply aC | apply aG) | exact HB.out))) : w.heap.size ≤ gb147)); have n3_ := aA.mk ((by rw [hg]; exact (aT (by repeat (first | (with_reducible first | exact HB.out | apply aH | apply aC | apply aG) | exact HB.out))) : w.heap.size ≤ gb147)); clear HB; have HB := n0_; have BK147 := n1_; have GW147 := n2_; have GE147 := n3_; clear n0_ n1_ n2_ n3_; clear hb hbox hg) | ((with_reducible refine aW (N := 3) rfl ?_); refine aX ?hg (N := 3) ?hd (cs := #[.int .i64 a1_0, .int .i64 a1_1, .int .i64 a1_2, .int .i64 a1_3, .int .i64 a1_4]) (t := 38) ?hr ?_; (case hd => rfl); (case hg => rfl); (case hr => first | (go_simp; done) | (go_simp; rfl)); intro gb148 hg w5 hbox hb; have n0_ := aA.mk (aV (g := gb147) (o := .cells #[.int .i64 a0_0, .int .i64 a0_1, .int .i64 a0_2, .int .i64 a0_3, .int .i64 a0_4] 38 (0, 0)) (by (with_reducible repeat (first | refine aN ?_ _ | refine aQ ?_ | refine aM ?_ _)); exact BK147.out) hb); have n1_ := aA.mk (aU (by repeat (first | (with_reducible first | exact HB.out | apply aH | apply aC | apply aG | refine aJ ?_ GE147.out) | exact HB.out)) hb); have n2_ := aA.mk (hbox); have n3_ := aA.mk ((by rw [hg]; exact (aT (by repeat (first | (with_reducible first | exact HB.out | apply aH | apply aC | apply aG | refine aJ ?_ GE147.out) | exact HB.out))) : w.heap.size ≤ gb148)); have n4_ := aA.mk ((by rw [hg]; exact (aT (by repeat (first | (with_reducible first | exact HB.out | apply aH | apply aC | apply aG | refine aJ ?_ GE147.out) | exact HB.out))) : w.heap.size ≤ gb148)); have n5_ := aA.mk ((by rw [hg]; exact Nat.ne_of_lt (bF (g := gb147) (o := .cells #[.int .i64 a0_0, .int .i64 a0_1, .int .i64 a0_2, .int .i64 a0_3, .int .i64 a0_4] 38 (0, 0)) (by (with_reducible repeat (first | refine aN ?_ _ | refine aQ ?_ | refine aM ?_ _)); exact BK147.out)) : gb147 ≠ gb148)); have n6_ := aA.mk ((by rw [hg]; exact Nat.ne_of_gt (bF (g := gb147) (o := .cells #[.int .i64 a0_0, .int .i64 a0_1, .int .i64 a0_2, .int .i64 a0_3, .int .i64 a0_4] 38 (0, 0)) (by (with_reducible repeat (first | refine aN ?_ _ | refine aQ ?_ | refine aM ?_ _)); exact BK147.out)) : gb148 ≠ gb147)); clear BK147; clear HB; have BK147 := n0_; have HB := n1_; have BK148 := n2_; have GW148 := n3_; have GE148 := n4_; have NB147_148 := n5_; have NB148_147 := n6_; clear n0_ n1_ n2_ n3_ n4_ n5_ n6_; clear hb hbox hg; have hnb6 := NB147_148.out; have hnc6 := NB148_147.out; have hcz7_0 : w5.cell? ⟨gb147, 0, none⟩ = some (.int .i64 a0_0) := (aE BK147.out 0).trans rfl; have hcz7_1 : w5.cell? ⟨gb147, 1, none⟩ = some (.int .i64 a0_1) := (aE BK147.out 1).trans rfl; have hcz7_2 : w5.cell? ⟨gb147, 2, none⟩ = some (.int .i64 a0_2) := (aE BK147.out 2).trans rfl; have hcz7_3 : w5.cell? ⟨gb147, 3, none⟩ = some (.int .i64 a0_3) := (aE BK147.out 3).trans rfl; have hcz7_4 : w5.cell? ⟨gb147, 4, none⟩ = some (.int .i64 a0_4) := (aE BK147.out 4).trans rfl; have hfz7_0 := aD BK147.out 0; have hfz7_1 := aD BK147.out 1; have hfz7_2 := aD BK147.out 2; have hfz7_3 := aD BK147.out 3; have hfz7_4 := aD BK147.out 4; have hcz8_0 : w5.cell? ⟨gb148, 0, none⟩ = some (.int .i64 a1_0) := (aE BK148.out 0).trans rfl; have hcz8_1 : w5.cell? ⟨gb148, 1, none⟩ = some (.int .i64 a1_1) := (aE BK148.out 1).trans rfl; have hcz8_2 : w5.cell? ⟨gb148, 2, none⟩ = some (.int .i64 a1_2) := (aE BK148.out 2).trans rfl; have hcz8_3 : w5.cell? ⟨gb148, 3, none⟩ = some (.int .i64 a1_3) := (aE BK148.out 3).trans rfl; have hcz8_4 : w5.cell? ⟨gb148, 4, none⟩ = some (.int .i64 a1_4) := (aE BK148.out 4).trans rfl; have hfz8_0 := aD BK148.out 0; have hfz8_1 := aD BK148.out 1; have hfz8_2 := aD BK148.out 2; have hfz8_3 := aD BK148.out 3; have hfz8_4 := aD BK148.out 4))
  go_ret
  exact ⟨by first | rfl | (simp [errW_none, errW_some] <;> rfl) | (simp [*, errW_none, errW_some] <;> rfl), by repeat (first | (with_reducible first | exact HB.out | apply aH | apply aC | apply aG | refine aJ ?_ GE147.out | refine aJ ?_ GE148.out) | exact HB.out)⟩
 ·rw [if_neg c3] at H
  have c3b0 : (a0_0 == a1_0) = false := beq_eq_false_iff_ne.mpr c3
  have c3b1 : (a0_0 != a1_0) = true := bne_iff_ne.mpr c3
  obtain rfl := Option.some.inj H
  go_enter Try.func85, Try.ntmps85
  go_wp2_with (first | ((with_reducible refine aW (N := 2) rfl ?_); refine aX ?hg (N := 2) ?hd (cs := #[.int .i64 a0_0, .int .i64 a0_1, .int .i64 a0_2, .int .i64 a0_3, .int .i64 a0_4]) (t := 38) ?hr ?_; (case hd => rfl); (case hg => rfl); (case hr => first | (go_simp; done) | (go_simp; rfl)); intro gb147 hg w9 hbox hb; have n0_ := aA.mk (aU (by repeat (first | (with_reducible first | exact HB.out | apply aH | apply aC | apply aG) | exact HB.out)) hb); have n1_ := aA.mk (hbox); have n2_ := aA.mk ((by rw [hg]; exact (aT (by repeat (first | (with_reducible first | exact HB.out | apply aH | apply aC | apply aG) | exact HB.out))) : w.heap.size ≤ gb147)); have n3_ := aA.mk ((by rw [hg]; exact (aT (by repeat (first | (with_reducible first | exact HB.out | apply aH | apply aC | apply aG) | exact HB.out))) : w.heap.size ≤ gb147)); clear HB; have HB := n0_; have BK147 := n1_; have GW147 := n2_; have GE147 := n3_; clear n0_ n1_ n2_ n3_; clear hb hbox hg) | ((with_reducible refine aW (N := 3) rfl ?_); refine aX ?hg (N := 3) ?hd (cs := #[.int .i64 a1_0, .int .i64 a1_1, .int .i64 a1_2, .int .i64 a1_3, .int .i64 a1_4]) (t := 38) ?hr ?_; (case hd => rfl); (case hg => rfl); (case hr => first | (go_simp; done) | (go_simp; rfl)); intro gb148 hg w10 hbox hb; have n0_ := aA.mk (aV (g := gb147) (o := .cells #[.int .i64 a0_0, .int .i64 a0_1, .int .i64 a0_2, .int .i64 a0_3, .int .i64 a0_4] 38 (0, 0)) (by (with_reducible repeat (first | refine aN ?_ _ | refine aQ ?_ | refine aM ?_ _)); exact BK147.out) hb); have n1_ := aA.mk (aU (by repeat (first | (with_reducible first | exact HB.out | apply aH | apply aC | apply aG | refine aJ ?_ GE147.out) | exact HB.out)) hb); have n2_ := aA.mk (hbox); have n3_ := aA.mk ((by rw [hg]; exact (aT (by repeat (first | (with_reducible first | exact HB.out | apply aH | apply aC | apply aG | refine aJ ?_ GE147.out) | exact HB.out))) : w.heap.size ≤ gb148)); have n4_ := aA.mk ((by rw [hg]; exact (aT (by repeat (first | (with_reducible first | exact HB.out | apply aH | apply aC | apply aG | refine aJ ?_ GE147.out) | exact HB.out))) : w.heap.size ≤ gb148)); have n5_ := aA.mk ((by rw [hg]; exact Nat.ne_of_lt (bF (g := gb147) (o := .cells #[.int .i64 a0_0, .int .i64 a0_1, .int .i64 a0_2, .int .i64 a0_3, .int .i64 a0_4] 38 (0, 0)) (by (with_reducible repeat (first | refine aN ?_ _ | refine aQ ?_ | refine aM ?_ _)); exact BK147.out)) : gb147 ≠ gb148)); have n6_ := aA.mk ((by rw [hg]; exact Nat.ne_of_gt (bF (g := gb147) (o := .cells #[.int .i64 a0_0, .int .i64 a0_1, .int .i64 a0_2, .int .i64 a0_3, .int .i64 a0_4] 38 (0, 0)) (by (with_reducible repeat (first | refine aN ?_ _ | refine aQ ?_ | refine aM ?_ _)); exact BK147.out)) : gb148 ≠ gb147)); clear BK147; clear HB; have BK147 := n0_; have HB := n1_; have BK148 := n2_; have GW148 := n3_; have GE148 := n4_; have NB147_148 := n5_; have NB148_147 := n6_; clear n0_ n1_ n2_ n3_ n4_ n5_ n6_; clear hb hbox hg; have hnb11 := NB147_148.out; have hnc11 := NB148_147.out; have hcz12_0 : w10.cell? ⟨gb147, 0, none⟩ = some (.int .i64 a0_0) := (aE BK147.out 0).trans rfl; have hcz12_1 : w10.cell? ⟨gb147, 1, none⟩ = some (.int .i64 a0_1) := (aE BK147.out 1).trans rfl; have hcz12_2 : w10.cell? ⟨gb147, 2, none⟩ = some (.int .i64 a0_2) := (aE BK147.out 2).trans rfl; have hcz12_3 : w10.cell? ⟨gb147, 3, none⟩ = some (.int .i64 a0_3) := (aE BK147.out 3).trans rfl; have hcz12_4 : w10.cell? ⟨gb147, 4, none⟩ = some (.int .i64 a0_4) := (aE BK147.out 4).trans rfl; have hfz12_0 := aD BK147.out 0; have hfz12_1 := aD BK147.out 1; have hfz12_2 := aD BK147.out 2; have hfz12_3 := aD BK147.out 3; have hfz12_4 := aD BK147.out 4; have hcz13_0 : w10.cell? ⟨gb148, 0, none⟩ = some (.int .i64 a1_0) := (aE BK148.out 0).trans rfl; have hcz13_1 : w10.cell? ⟨gb148, 1, none⟩ = some (.int .i64 a1_1) := (aE BK148.out 1).trans rfl; have hcz13_2 : w10.cell? ⟨gb148, 2, none⟩ = some (.int .i64 a1_2) := (aE BK148.out 2).trans rfl; have hcz13_3 : w10.cell? ⟨gb148, 3, none⟩ = some (.int .i64 a1_3) := (aE BK148.out 3).trans rfl; have hcz13_4 : w10.cell? ⟨gb148, 4, none⟩ = some (.int .i64 a1_4) := (aE BK148.out 4).trans rfl; have hfz13_0 := aD BK148.out 0; have hfz13_1 := aD BK148.out 1; have hfz13_2 := aD BK148.out 2; have hfz13_3 := aD BK148.out 3; have hfz13_4 := aD BK148.out 4))
  go_ret
  exact ⟨by first | rfl | (simp [errW_none, errW_some] <;> rfl) | (simp [*, errW_none, errW_some] <;> rfl), by repeat (first | (with_reducible first | exact HB.out | apply aH | apply aC | apply aG | refine aJ ?_ GE147.out | refine aJ ?_ GE148.out) | exact HB.out)⟩
def spec_SameSpot.f (a0_0 : Int) (a0_1 : Int) (a0_2 : Int) (a0_3 : Int) (a0_4 : Int) (a1_0 : Int) (a1_1 : Int) (a1_2 : Int) (a1_3 : Int) (a1_4 : Int) : Option (Bool) := if a0_0 = a1_0 then (some (a0_1 == a1_1)) else (some false)
set_option maxHeartbeats 8000000 in
set_option maxRecDepth 100000 in
theorem spec_SameSpot.calls (a0_0 : Int) (a0_1 : Int) (a0_2 : Int) (a0_3 : Int) (a0_4 : Int) (a1_0 : Int) (a1_1 : Int) (a1_2 : Int) (a1_3 : Int) (a1_4 : Int) (r : Bool) (w : World) (h : spec_SameSpot.f a0_0 a0_1 a0_2 a0_3 a0_4 a1_0 a1_1 a1_2 a1_3 a1_4 = some r) :
  Calls Try.prog 86 #[.agg #[.int .i64 a0_0, .int .i64 a0_1, .int .i64 a0_2, .int .i64 a0_3, .int .i64 a0_4], .agg #[.int .i64 a1_0, .int .i64 a1_1, .int .i64 a1_2, .int .i64 a1_3, .int .i64 a1_4]] w fun e w' => e = .returned (.bool r) ∧ Below w.heap.size w w' := by
 have hu38 := Try.underlying38
 have HB := aA.mk (Below.refl w.heap.size w)
 have H : (if a0_0 = a1_0 then (some (a0_1 == a1_1)) else (some false)) = some r := h
 clear h
 by_cases c3 : a0_0 = a1_0
 ·rw [if_pos c3] at H
  have c3b0 : (a0_0 == a1_0) = true := beq_iff_eq.mpr c3
  have c3b1 : (a0_0 != a1_0) = false := bne_eq_false_iff_eq.mpr c3
  clear c3
  obtain rfl := Option.some.inj H
  go_enter Try.func86, Try.ntmps86
  go_wp2_with (first | ((with_reducible refine aW (N := 2) rfl ?_); refine aX ?hg (N := 2) ?hd (cs := #[.int .i64 a0_0, .int .i64 a0_1, .int .i64 a0_2, .int .i64 a0_3, .int .i64 a0_4]) (t := 38) ?hr ?_; (case hd => rfl); (case hg => rfl); (case hr => first | (go_simp; done) | (go_simp; rfl)); intro gb149 hg w4 hbox hb; have n0_ := aA.mk (aU (by repeat (first | (with_reducible first | exact HB.out | apply aH | apply aC | apply aG) | exact HB.out)) hb); have n1_ := aA.mk (hbox); have n2_ := aA.mk ((by rw [hg]; exact (aT (by repeat (first | (with_reducible first | exact HB.out | apply aH | apply aC | apply aG) | exact HB.out))) : w.heap.size ≤ gb149)); have n3_ := aA.mk ((by rw [hg]; exact (aT (by repeat (first | (with_reducible first | exact HB.out | apply aH | apply aC | apply aG) | exact HB.out))) : w.heap.size ≤ gb149)); clear HB; have HB := n0_; have BK149 := n1_; have GW149 := n2_; have GE149 := n3_; clear n0_ n1_ n2_ n3_; clear hb hbox hg) | ((with_reducible refine aW (N := 3) rfl ?_); refine aX ?hg (N := 3) ?hd (cs := #[.int .i64 a1_0, .int .i64 a1_1, .int .i64 a1_2, .int .i64 a1_3, .int .i64 a1_4]) (t := 38) ?hr ?_; (case hd => rfl); (case hg => rfl); (case hr => first | (go_simp; done) | (go_simp; rfl)); intro gb150 hg w5 hbox hb; have n0_ := aA.mk (aV (g := gb149) (o := .cells #[.int .i64 a0_0, .int .i64 a0_1, .int .i64 a0_2, .int .i64 a0_3, .int .i64 a0_4] 38 (0, 0)) (by (with_reducible repeat (first | refine aN ?_ _ | refine aQ ?_ | refine aM ?_ _)); exact BK149.out) hb); have n1_ := aA.mk (aU (by repeat (first | (with_reducible first | exact HB.out | apply aH | apply aC | apply aG | refine aJ ?_ GE149.out) | exact HB.out)) hb); have n2_ := aA.mk (hbox); have n3_ := aA.mk ((by rw [hg]; exact (aT (by repeat (first | (with_reducible first | exact HB.out | apply aH | apply aC | apply aG | refine aJ ?_ GE149.out) | exact HB.out))) : w.heap.size ≤ gb150)); have n4_ := aA.mk ((by rw [hg]; exact (aT (by repeat (first | (with_reducible first | exact HB.out | apply aH | apply aC | apply aG | refine aJ ?_ GE149.out) | exact HB.out))) : w.heap.size ≤ gb150)); have n5_ := aA.mk ((by rw [hg]; exact Nat.ne_of_lt (bF (g := gb149) (o := .cells #[.int .i64 a0_0, .int .i64 a0_1, .int .i64 a0_2, .int .i64 a0_3, .int .i64 a0_4] 38 (0, 0)) (by (with_reducible repeat (first | refine aN ?_ _ | refine aQ ?_ | refine aM ?_ _)); exact BK149.out)) : gb149 ≠ gb150)); have n6_ := aA.mk ((by rw [hg]; exact Nat.ne_of_gt (bF (g := gb149) (o := .cells #[.int .i64 a0_0, .int .i64 a0_1, .int .i64 a0_2, .int .i64 a0_3, .int .i64 a0_4] 38 (0, 0)) (by (with_reducible repeat (first | refine aN ?_ _ | refine aQ ?_ | refine aM ?_ _)); exact BK149.out)) : gb150 ≠ gb149)); clear BK149; clear HB; have BK149 := n0_; have HB := n1_; have BK150 := n2_; have GW150 := n3_; have GE150 := n4_; have NB149_150 := n5_; have NB150_149 := n6_; clear n0_ n1_ n2_ n3_ n4_ n5_ n6_; clear hb hbox hg; have hnb6 := NB149_150.out; have hnc6 := NB150_149.out; have hcz7_0 : w5.cell? ⟨gb149, 0, none⟩ = some (.int .i64 a0_0) := (aE BK149.out 0).trans rfl; have hcz7_1 : w5.cell? ⟨gb149, 1, none⟩ = some (.int .i64 a0_1) := (aE BK149.out 1).trans rfl; have hcz7_2 : w5.cell? ⟨gb149, 2, none⟩ = some (.int .i64 a0_2) := (aE BK149.out 2).trans rfl; have hcz7_3 : w5.cell? ⟨gb149, 3, none⟩ = some (.int .i64 a0_3) := (aE BK149.out 3).trans rfl; have hcz7_4 : w5.cell? ⟨gb149, 4, none⟩ = some (.int .i64 a0_4) := (aE BK149.out 4).trans rfl; have hfz7_0 := aD BK149.out 0; have hfz7_1 := aD BK149.out 1; have hfz7_2 := aD BK149.out 2; have hfz7_3 := aD BK149.out 3; have hfz7_4 := aD BK149.out 4; have hcz8_0 : w5.cell? ⟨gb150, 0, none⟩ = some (.int .i64 a1_0) := (aE BK150.out 0).trans rfl; have hcz8_1 : w5.cell? ⟨gb150, 1, none⟩ = some (.int .i64 a1_1) := (aE BK150.out 1).trans rfl; have hcz8_2 : w5.cell? ⟨gb150, 2, none⟩ = some (.int .i64 a1_2) := (aE BK150.out 2).trans rfl; have hcz8_3 : w5.cell? ⟨gb150, 3, none⟩ = some (.int .i64 a1_3) := (aE BK150.out 3).trans rfl; have hcz8_4 : w5.cell? ⟨gb150, 4, none⟩ = some (.int .i64 a1_4) := (aE BK150.out 4).trans rfl; have hfz8_0 := aD BK150.out 0; have hfz8_1 := aD BK150.out 1; have hfz8_2 := aD BK150.out 2; have hfz8_3 := aD BK150.out 3; have hfz8_4 := aD BK150.out 4))
  go_ret
  exact ⟨by first | rfl | (simp [errW_none, errW_some] <;> rfl) | (simp [*, errW_none, errW_some] <;> rfl), by repeat (first | (with_reducible first | exact HB.out | apply aH | apply aC | apply aG | refine aJ ?_ GE149.out | refine aJ ?_ GE150.out) | exact HB.out)⟩
 ·rw [if_neg c3] at H
  have c3b0 : (a0_0 == a1_0) = false := beq_eq_false_iff_ne.mpr c3
  have c3b1 : (a0_0 != a1_0) = true := bne_iff_ne.mpr c3
  obtain rfl := Option.some.inj H
  go_enter Try.func86, Try.ntmps86
  go_wp2_with (first | ((with_reducible refine aW (N := 2) rfl ?_); refine aX ?hg (N := 2) ?hd (cs := #[.int .i64 a0_0, .int .i64 a0_1, .int .i64 a0_2, .int .i64 a0_3, .int .i64 a0_4]) (t := 38) ?hr ?_; (case hd => rfl); (case hg => rfl); (case hr => first | (go_simp; done) | (go_simp; rfl)); intro gb149 hg w9 hbox hb; have n0_ := aA.mk (aU (by repeat (first | (with_reducible first | exact HB.out | apply aH | apply aC | apply aG) | exact HB.out)) hb); have n1_ := aA.mk (hbox); have n2_ := aA.mk ((by rw [hg]; exact (aT (by repeat (first | (with_reducible first | exact HB.out | apply aH | apply aC | apply aG) | exact HB.out))) : w.heap.size ≤ gb149)); have n3_ := aA.mk ((by rw [hg]; exact (aT (by repeat (first | (with_reducible first | exact HB.out | apply aH | apply aC | apply aG) | exact HB.out))) : w.heap.size ≤ gb149)); clear HB; have HB := n0_; have BK149 := n1_; have GW149 := n2_; have GE149 := n3_; clear n0_ n1_ n2_ n3_; clear hb hbox hg) | ((with_reducible refine aW (N := 3) rfl ?_); refine aX ?hg (N := 3) ?hd (cs := #[.int .i64 a1_0, .int .i64 a1_1, .int .i64 a1_2, .int .i64 a1_3, .int .i64 a1_4]) (t := 38) ?hr ?_; (case hd => rfl); (case hg => rfl); (case hr => first | (go_simp; done) | (go_simp; rfl)); intro gb150 hg w10 hbox hb; have n0_ := aA.mk (aV (g := gb149) (o := .cells #[.int .i64 a0_0, .int .i64 a0_1, .int .i64 a0_2, .int .i64 a0_3, .int .i64 a0_4] 38 (0, 0)) (by (with_reducible repeat (first | refine aN ?_ _ | refine aQ ?_ | refine aM ?_ _)); exact BK149.out) hb); have n1_ := aA.mk (aU (by repeat (first | (with_reducible first | exact HB.out | apply aH | apply aC | apply aG | refine aJ ?_ GE149.out) | exact HB.out)) hb); have n2_ := aA.mk (hbox); have n3_ := aA.mk ((by rw [hg]; exact (aT (by repeat (first | (with_reducible first | exact HB.out | apply aH | apply aC | apply aG | refine aJ ?_ GE149.out) | exact HB.out))) : w.heap.size ≤ gb150)); have n4_ := aA.mk ((by rw [hg]; exact (aT (by repeat (first | (with_reducible first | exact HB.out | apply aH | apply aC | apply aG | refine aJ ?_ GE149.out) | exact HB.out))) : w.heap.size ≤ gb150)); have n5_ := aA.mk ((by rw [hg]; exact Nat.ne_of_lt (bF (g := gb149) (o := .cells #[.int .i64 a0_0, .int .i64 a0_1, .int .i64 a0_2, .int .i64 a0_3, .int .i64 a0_4] 38 (0, 0)) (by (with_reducible repeat (first | refine aN ?_ _ | refine aQ ?_ | refine aM ?_ _)); exact BK149.out)) : gb149 ≠ gb150)); have n6_ := aA.mk ((by rw [hg]; exact Nat.ne_of_gt (bF (g := gb149) (o := .cells #[.int .i64 a0_0, .int .i64 a0_1, .int .i64 a0_2, .int .i64 a0_3, .int .i64 a0_4] 38 (0, 0)) (by (with_reducible repeat (first | refine aN ?_ _ | refine aQ ?_ | refine aM ?_ _)); exact BK149.out)) : gb150 ≠ gb149)); clear BK149; clear HB; have BK149 := n0_; have HB := n1_; have BK150 := n2_; have GW150 := n3_; have GE150 := n4_; have NB149_150 := n5_; have NB150_149 := n6_; clear n0_ n1_ n2_ n3_ n4_ n5_ n6_; clear hb hbox hg; have hnb11 := NB149_150.out; have hnc11 := NB150_149.out; have hcz12_0 : w10.cell? ⟨gb149, 0, none⟩ = some (.int .i64 a0_0) := (aE BK149.out 0).trans rfl; have hcz12_1 : w10.cell? ⟨gb149, 1, none⟩ = some (.int .i64 a0_1) := (aE BK149.out 1).trans rfl; have hcz12_2 : w10.cell? ⟨gb149, 2, none⟩ = some (.int .i64 a0_2) := (aE BK149.out 2).trans rfl; have hcz12_3 : w10.cell? ⟨gb149, 3, none⟩ = some (.int .i64 a0_3) := (aE BK149.out 3).trans rfl; have hcz12_4 : w10.cell? ⟨gb149, 4, none⟩ = some (.int .i64 a0_4) := (aE BK149.out 4).trans rfl; have hfz12_0 := aD BK149.out 0; have hfz12_1 := aD BK149.out 1; have hfz12_2 := aD BK149.out 2; have hfz12_3 := aD BK149.out 3; have hfz12_4 := aD BK149.out 4; have hcz13_0 : w10.cell? ⟨gb150, 0, none⟩ = some (.int .i64 a1_0) := (aE BK150.out 0).trans rfl; have hcz13_1 : w10.cell? ⟨gb150, 1, none⟩ = some (.int .i64 a1_1) := (aE BK150.out 1).trans rfl; have hcz13_2 : w10.cell? ⟨gb150, 2, none⟩ = some (.int .i64 a1_2) := (aE BK150.out 2).trans rfl; have hcz13_3 : w10.cell? ⟨gb150, 3, none⟩ = some (.int .i64 a1_3) := (aE BK150.out 3).trans rfl; have hcz13_4 : w10.cell? ⟨gb150, 4, none⟩ = some (.int .i64 a1_4) := (aE BK150.out 4).trans rfl; have hfz13_0 := aD BK150.out 0; have hfz13_1 := aD BK150.out 1; have hfz13_2 := aD BK150.out 2; have hfz13_3 := aD BK150.out 3; have hfz13_4 := aD BK150.out 4))
  go_ret
  exact ⟨by first | rfl | (simp [errW_none, errW_some] <;> rfl) | (simp [*, errW_none, errW_some] <;> rfl), by repeat (first | (with_reducible first | exact HB.out | apply aH | apply aC | apply aG | refine aJ ?_ GE149.out | refine aJ ?_ GE150.out) | exact HB.out)⟩
end Go.Proofs.Ytamjbjkbineafaa.PFnExactTreePack

namespace Go.Proofs.Ytamjbjkbineafaa.PFnExactTreePack
open Go.RowKit Go.Proofs.YtamjbjkbineafaaW.PrintWords Go.Proofs.YtamjbjkbineafaaW.PrintLast Go.Proofs.YtamjbjkbineafaaW.PrintMore
attribute [local go_sem] max2_int min2_int max_two min_two max_three min_three max_four min_four   -- for this text's walks alone
set_option linter.unusedVariables false
set_option linter.unusedSimpArgs false
mutual
def spec_SetPut.l0 : Nat → List (S38) → List (S38) → Bool → Int → Int → Int → Int → Int → Int → Option ((List (S38)))
 | 0, _, _, _, _, _, _, _, _, _ => none
 | k + 1, x0, x5, x6, x7, x152000, x152001, x152002, x152003, x152004 => if x7 < (x0.length : Int) then (if x6 = true then (spec_SetPut.j1 k x0 x5 x6 x7 false x152000 x152001 x152002 x152003 x152004) else (if 0 ≤ x7 then ((spec_LessKey.f ((rd_T38 x0 x7).f0) ((rd_T38 x0 x7).f1) ((rd_T38 x0 x7).f2) ((rd_T38 x0 x7).f3) ((rd_T38 x0 x7).f4) x152000 x152001 x152002 x152003 x152004).bind fun t159 => (spec_SetPut.j1 k x0 x5 x6 x7 (!t159) x152000 x152001 x152002 x152003 x152004)) else (none))) else (if x6 = true then (some x5) else (if x5.length < 3518437208883 then (some (x5 ++ [(⟨x152000, x152001, x152002, x152003, x152004⟩ : S38)])) else (none)))
def spec_SetPut.j1 : Nat → List (S38) → List (S38) → Bool → Int → Bool → Int → Int → Int → Int → Int → Option ((List (S38)))
 | 0, _, _, _, _, _, _, _, _, _, _ => none
 | k + 1, x0, x5, x6, x7, x25, x152000, x152001, x152002, x152003, x152004 => if x25 = true then (if x5.length < 3518437208883 then ((some (x5 ++ [(⟨x152000, x152001, x152002, x152003, x152004⟩ : S38)] : List (S38))).bind fun y160 => (if 0 ≤ x7 then (if x7 < (x0.length : Int) then ((spec_SameSpot.f ((rd_T38 x0 x7).f0) ((rd_T38 x0 x7).f1) ((rd_T38 x0 x7).f2) ((rd_T38 x0 x7).f3) ((rd_T38 x0 x7).f4) x152000 x152001 x152002 x152003 x152004).bind fun t164 => (if t164 = true then (spec_SetPut.l0 k x0 y160 true (wrap64 (x7 + 1)) x152000 x152001 x152002 x152003 x152004) else (if y160.length < 3518437208883 then (spec_SetPut.l0 k x0 (y160 ++ [(⟨(rd_T38 x0 x7).f0, (rd_T38 x0 x7).f1, (rd_T38 x0 x7).f2, (rd_T38 x0 x7).f3, (rd_T38 x0 x7).f4⟩ : S38)]) true (wrap64 (x7 + 1)) x152000 x152001 x152002 x152003 x152004) else (none)))) else (none)) else (none))) else (none)) else (if 0 ≤ x7 then (if x7 < (x0.length : Int) then ((spec_SameSpot.f ((rd_T38 x0 x7).f0) ((rd_T38 x0 x7).f1) ((rd_T38 x0 x7).f2) ((rd_T38 x0 x7).f3) ((rd_T38 x0 x7).f4) x152000 x152001 x152002 x152003 x152004).bind fun t170 => (if t170 = true then (spec_SetPut.l0 k x0 x5 x6 (wrap64 (x7 + 1)) x152000 x152001 x152002 x152003 x152004) else (if x5.length < 3518437208883 then (spec_SetPut.l0 k x0 (x5 ++ [(⟨(rd_T38 x0 x7).f0, (rd_T38 x0 x7).f1, (rd_T38 x0 x7).f2, (rd_T38 x0 x7).f3, (rd_T38 x0 x7).f4⟩ : S38)]) x6 (wrap64 (x7 + 1)) x152000 x152001 x152002 x152003 x152004) else (none)))) else (none)) else (none))
end
def spec_SetPut.f (k : Nat) (l0 : List (S38)) (a1_0 : Int) (a1_1 : Int) (a1_2 : Int) (a1_3 : Int) (a1_4 : Int) : Option ((List (S38))) := spec_SetPut.l0 k l0 (([] : List (S38))) false 0 a1_0 a1_1 a1_2 a1_3 a1_4
def spec_SetPut.T6 : Bool × List (List Nat × List Nat) := (true, [([], []), ([0], [0]), ([1], [1]), ([2], [2]), ([2], [2]), ([3, 4, 2], [2, 3, 4]), ([5, 2], [2, 5]), ([2], [2]), ([6, 7, 2, 2], [2, 6, 7]), ([8, 2], [2, 8]), ([2, 9], [2, 9])])
def spec_SetPut.B6 : List Nat := [0, 1, 3, 7, 7, 31, 63, 7, 255, 511, 1023]
theorem spec_SetPut.tab6 : rtab .any (opsOf Try.f53 6) = spec_SetPut.T6 := by kernel_rfl
theorem spec_SetPut.bits6 : waitsOk spec_SetPut.T6.2 spec_SetPut.B6 = true := by kernel_rfl
set_option maxHeartbeats 8000000 in
set_option maxRecDepth 100000 in
theorem spec_SetPut.calls (k : Nat) (A0 : Option Addr) (c0 : Nat) (l0 : List (S38)) (a1_0 : Int) (a1_1 : Int) (a1_2 : Int) (a1_3 : Int) (a1_4 : Int) (r : List (S38)) (w : World) (hr0 : Kd.C k38 w A0 l0.length l0) (hc0 : l0.length ≤ c0) (h : spec_SetPut.f k l0 a1_0 a1_1 a1_2 a1_3 a1_4 = some r) :
  Calls Try.prog 53 #[.slice A0 l0.length c0, .agg #[.int .i64 a1_0, .int .i64 a1_1, .int .i64 a1_2, .int .i64 a1_3, .int .i64 a1_4]] w fun e w' => ∃ v0_ : Value, e = .returned (v0_) ∧ Kd.R k38 38 w' w.heap.size (fun _ => True) v0_ r ∧ Below w.heap.size w w' := by
 have hu38 := Try.underlying38
 have HR0 := aA.mk hr0
 have HC0 := aA.mk hc0
 clear hr0 hc0
 have HB := aA.mk (Below.refl w.heap.size w)
 have H : (spec_SetPut.l0 k l0 (([] : List (S38))) false 0 a1_0 a1_1 a1_2 a1_3 a1_4) = some r := h
 clear h
 obtain ⟨y152, hy152⟩ : ∃ y_ : List (S38), y_ = (([] : List (S38))) := ⟨_, rfl⟩
 replace H : (spec_SetPut.l0 k l0 y152 false 0 a1_0 a1_1 a1_2 a1_3 a1_4) = some r := by first | (rw [hy152]; with_reducible exact H) | (have H2_ := (Option.bind_some _ _).symm.trans H; rw [hy152]; with_reducible exact H2_) | (have H2_ := (Option.bind_some _ _).symm.trans H; with_reducible exact H2_) | with_reducible exact H | (rw [hy152]; exact H) | exact H
 have Ny152 := aA.mk hy152
 clear hy152
 have H' := aA.mk H
 clear H
 go_enter Try.func53, Try.ntmps53
 go_wp2_with (first | ((with_reducible refine aW (N := 3) rfl ?_); refine aX ?hg (N := 3) ?hd (cs := #[.int .i64 a1_0, .int .i64 a1_1, .int .i64 a1_2, .int .i64 a1_3, .int .i64 a1_4]) (t := 38) ?hr ?_; (case hd => rfl); (case hg => rfl); (case hr => first | (go_simp; done) | (go_simp; rfl)); intro gb151 hg w3 hbox hb; have n0_ := aA.mk (aU (by repeat (first | (with_reducible first | exact HB.out | apply aH | apply aC | apply aG) | exact HB.out)) hb); have n1_ := aA.mk (hbox); have n2_ := aA.mk ((by rw [hg]; exact (aT (by repeat (first | (with_reducible first | exact HB.out | apply aH | apply aC | apply aG) | exact HB.out))) : w.heap.size ≤ gb151)); have n3_ := aA.mk ((by rw [hg]; exact (aT (by repeat (first | (with_reducible first | exact HB.out | apply aH | apply aC | apply aG) | exact HB.out))) : w.heap.size ≤ gb151)); clear HB; have HB := n0_; have BK151 := n1_; have GW151 := n2_; have GE151 := n3_; clear n0_ n1_ n2_ n3_; clear hb hbox hg) | ((with_reducible refine aW (N := 8) rfl ?_); refine Kd.R_lit k38 _ 38 ?hg (N := 8) ?hd (xs := ([] : List (S38))) (inner := []) (ok := fun _ => True) (okp := fun _ => True) ?hr ?hp (fun _ hk => hk) trivial (Below.refl _ _) (Nat.le_refl _) (by simp) ?_; (case hd => rfl); (case hg => rfl); (case hr => first | (go_simp; done) | (go_simp; rfl)); (case hp => exact (Reps.none _ _)); intro v153 w4 ho5 hb hg_ hnew_; clear hg_ hnew_; (first | rw [← Ny152.out] at ho5 | (simp only [Int.reduceToNat] at ho5; rw [← Ny152.out] at ho5)); have n0_ := aA.mk (Kd.R_lower (Kd.R_newB ho5 (g := gb151) (o := .cells #[.int .i64 a1_0, .int .i64 a1_1, .int .i64 a1_2, .int .i64 a1_3, .int .i64 a1_4] 38 (0, 0)) (by (with_reducible repeat (first | refine aN ?_ _ | refine aQ ?_ | refine aM ?_ _)); exact BK151.out)) (aT (by repeat (first | (with_reducible first | exact HB.out | apply aH | apply aC | apply aG | refine aJ ?_ GE151.out) | exact HB.out)))); have n1_ := aA.mk (aV (g := gb151) (o := .cells #[.int .i64 a1_0, .int .i64 a1_1, .int .i64 a1_2, .int .i64 a1_3, .int .i64 a1_4] 38 (0, 0)) (by (with_reducible repeat (first | refine aN ?_ _ | refine aQ ?_ | refine aM ?_ _)); exact BK151.out) hb); have n2_ := aA.mk (aU (by repeat (first | (with_reducible first | exact HB.out | apply aH | apply aC | apply aG | refine aJ ?_ GE151.out) | exact HB.out)) hb); clear BK151; clear HB; have HO154 := n0_; have BK151 := n1_; have HB := n2_; clear n0_ n1_ n2_; clear hb ho5))
 go_loopg [5, 6, 7] k (fun kq v5 v6 v7 w' => ∃ (x5_1 : List (S38)) (x6_1 : Bool) (x7_1 : Int), v6 = .bool x6_1 ∧ v7 = .int .i64 x7_1 ∧ aA (spec_SetPut.l0 kq l0 x5_1 x6_1 x7_1 a1_0 a1_1 a1_2 a1_3 a1_4 = some r) ∧ aA (kq ≤ k) ∧ aA (Kd.R k38 38 w' w.heap.size (fun k_ => k_ ≠ gb151) v5 x5_1) ∧ aA (w'.heap[gb151]? = some (.cells #[.int .i64 a1_0, .int .i64 a1_1, .int .i64 a1_2, .int .i64 a1_3, .int .i64 a1_4] 38 (0, 0))) ∧ aA (Below w.heap.size w w'))
 case atStart => exact ⟨(y152), (false), (0), (by first | rfl | (simp; done) | (simp [*]; done)), (by first | rfl | (simp; done) | (simp [*]; done)), H', ⟨Nat.le_refl _⟩, ⟨by (with_reducible repeat (first | apply Kd.aY | apply Kd.aZ | apply Kd.bA)); exact Kd.bK HO154.out (fun _ hk => hk.2)⟩, ⟨by (with_reducible repeat (first | refine aN ?_ _ | refine aQ ?_ | refine aM ?_ _)); exact BK151.out⟩, ⟨by repeat (first | (with_reducible first | exact HB.out | apply aH | apply aC | apply aG | refine aJ ?_ GE151.out) | exact HB.out)⟩⟩
 case round =>
  clear H'
  try clear p2
  try clear c5
  obtain ⟨x5_1, x6_1, x7_1, rfl, rfl, HA, HK1, HO_5, BK151, HB⟩ := hrel
  cases gk with
  | zero => exact absurd HA.out (by simp [spec_SetPut.l0])
  | succ k1 =>
   have H := HA.out
   clear HA
   simp only [spec_SetPut.l0] at H
   by_cases c6 : x7_1 < (l0.length : Int)
   ·rw [if_pos c6] at H
    have c6b0 : decide (x7_1 < (l0.length : Int)) = true := decide_eq_true c6
    clear c6
    have HC7 := aA.mk H
    clear H
    go_upto_region 6 with (fail)
    go_cut [25] (fun v25 wc => ∃ (kq : Nat) (x25_6 : Bool), v25 = .bool x25_6 ∧ aA (spec_SetPut.j1 kq l0 x5_1 x6_1 x7_1 x25_6 a1_0 a1_1 a1_2 a1_3 a1_4 = some r) ∧ aA (kq ≤ k1) ∧ aA (Kd.R k38 38 wc w.heap.size (fun k_ => k_ ≠ gb151) u5 x5_1) ∧ aA (wc.heap[gb151]? = some (.cells #[.int .i64 a1_0, .int .i64 a1_1, .int .i64 a1_2, .int .i64 a1_3, .int .i64 a1_4] 38 (0, 0))) ∧ aA (Below w.heap.size w wc))
    case first =>
     have H := HC7.out
     clear HC7
     by_cases c8 : x6_1 = true
     ·subst c8
      have H1 : (spec_SetPut.j1 k1 l0 x5_1 true x7_1 false a1_0 a1_1 a1_2 a1_3 a1_4) = some r := by rw [if_pos rfl] at H; exact H
      clear H
      have H := H1
      clear H1
      have H' := aA.mk H
      clear H
      try go_wp2
      have n0_ := aA.mk (Kd.bA HO_5.out)
      have n1_ := aA.mk (aQ BK151.out)
      have n2_ := aA.mk (aG HB.out)
      clear HO_5
      clear BK151
      clear HB
      have HO_5 := n0_
      have BK151 := n1_
      have HB := n2_
      clear n0_ n1_ n2_
      refine start_ (n := 11) (S := fun w' => True) (ds := []) #[false, false, false, false, false, false, false, false, false, false, false] (by kernel_rfl) rfl rfl trivial (fun hHeld => ?_); refine with_tabW spec_SetPut.tab6 spec_SetPut.bits6 (fun HT_ HW_ => ?_)
      generalize wr.drew = w9 at HO_5 BK151 HB hHeld ⊢
      refine bL (i := 0) (N := some 15) (v := ?_) (a' := ?_) #[true, false, false, false, false, false, false, false, false, false, false] rfl rfl (bQ HT_.out (by kernel_rfl)) (fun _ _ _ h => h) (Or.inl ⟨by rfl, ?_⟩) ?_ ?_
      rotate_left
      ·intro w'
       go_simp
       with_reducible rfl
      rotate_left
      ·simp only [Act.put, lA, lB, lC, bD, bC]
       rfl
      refine bL (i := 1) (N := some 16) (v := ?_) (a' := ?_) #[true, true, false, false, false, false, false, false, false, false, false] rfl rfl (bQ HT_.out (by kernel_rfl)) (fun _ _ _ h => h) (Or.inl ⟨by rfl, ?_⟩) ?_ ?_
      rotate_left
      ·intro w'
       go_simp
       with_reducible rfl
      rotate_left
      ·simp only [Act.put, lA, lB, lC, bD, bC]
       rfl
      refine bL (i := 2) (N := some 17) (v := ?_) (a' := ?_) #[true, true, true, false, false, false, false, false, false, false, false] rfl rfl (bQ HT_.out (by kernel_rfl)) (fun _ _ _ h => h) (Or.inl ⟨by rfl, ?_⟩) ?_ ?_
      rotate_left
      ·intro w'
       go_simp
       with_reducible rfl
      rotate_left
      ·simp only [Act.put, lA, lB, lC, bD, bC]
       rfl
      refine bL (i := 3) (N := some 18) (v := undef) (a' := ?_) #[true, true, true, true, false, false, false, false, false, false, false] rfl rfl (bQ HT_.out (by kernel_rfl)) (fun _ _ _ h => h) (Or.inr ⟨by rfl, rfl⟩) ?_ ?_
      rotate_left
      ·simp only [Act.put, lA, lB, lC, bD, bC]
       rfl
      refine bL (i := 4) (N := some 19) (v := undef) (a' := ?_) #[true, true, true, true, true, false, false, false, false, false, false] rfl rfl (bQ HT_.out (by kernel_rfl)) (fun _ _ _ h => h) (Or.inr ⟨by rfl, rfl⟩) ?_ ?_
      rotate_left
      ·simp only [Act.put, lA, lB, lC, bD, bC]
       rfl
      refine bL (i := 5) (N := some 20) (v := undef) (a' := ?_) #[true, true, true, true, true, true, false, false, false, false, false] rfl rfl (bQ HT_.out (by kernel_rfl)) (fun _ _ _ h => h) (Or.inr ⟨by rfl, rfl⟩) ?_ ?_
      rotate_left
      ·simp only [Act.put, lA, lB, lC, bD, bC]
       rfl
      refine bL (i := 6) (N := some 21) (v := undef) (a' := ?_) #[true, true, true, true, true, true, true, false, false, false, false] rfl rfl (bQ HT_.out (by kernel_rfl)) (fun _ _ _ h => h) (Or.inr ⟨by rfl, rfl⟩) ?_ ?_
      rotate_left
      ·simp only [Act.put, lA, lB, lC, bD, bC]
       rfl
      refine bL (i := 7) (N := some 22) (v := undef) (a' := ?_) #[true, true, true, true, true, true, true, true, false, false, false] rfl rfl (bQ HT_.out (by kernel_rfl)) (fun _ _ _ h => h) (Or.inr ⟨by rfl, rfl⟩) ?_ ?_
      rotate_left
      ·simp only [Act.put, lA, lB, lC, bD, bC]
       rfl
      refine bL (i := 8) (N := some 23) (v := undef) (a' := ?_) #[true, true, true, true, true, true, true, true, true, false, false] rfl rfl (bQ HT_.out (by kernel_rfl)) (fun _ _ _ h => h) (Or.inr ⟨by rfl, rfl⟩) ?_ ?_
      rotate_left
      ·simp only [Act.put, lA, lB, lC, bD, bC]
       rfl
      refine bL (i := 9) (N := some 24) (v := undef) (a' := ?_) #[true, true, true, true, true, true, true, true, true, true, false] rfl rfl (bQ HT_.out (by kernel_rfl)) (fun _ _ _ h => h) (Or.inr ⟨by rfl, rfl⟩) ?_ ?_
      rotate_left
      ·simp only [Act.put, lA, lB, lC, bD, bC]
       rfl
      refine bL (i := 10) (N := some 25) (v := ?_) (a' := ?_) #[true, true, true, true, true, true, true, true, true, true, true] rfl rfl (bQ HT_.out (by kernel_rfl)) (fun _ _ _ h => h) (Or.inl ⟨by rfl, ?_⟩) ?_ ?_
      rotate_left
      ·intro w'
       go_simp
       with_reducible rfl
      rotate_left
      ·simp only [Act.put, lA, lB, lC, bD, bC]
       rfl
      refine done_ (done_of HT_.out (by kernel_rfl)) ?_
      try go_wp2
      go_meet
      case rel => exact ⟨_, (false), (by first | rfl | (simp; done) | (simp [*]; done)), H', ⟨by have := HK1.out; first | omega | exact Nat.le_refl _⟩, ⟨by (with_reducible repeat (first | apply Kd.aY | apply Kd.aZ | apply Kd.bA)); exact HO_5.out⟩, ⟨by (with_reducible repeat (first | refine aN ?_ _ | refine aQ ?_ | refine aM ?_ _)); exact BK151.out⟩, ⟨by repeat (first | (with_reducible first | exact HB.out | apply aH | apply aC | apply aG | refine aJ ?_ GE151.out) | exact HB.out)⟩⟩
     ·replace c8 := Bool.eq_false_iff.mpr c8
      subst c8
      have H1 : (if 0 ≤ x7_1 then ((spec_LessKey.f ((rd_T38 l0 x7_1).f0) ((rd_T38 l0 x7_1).f1) ((rd_T38 l0 x7_1).f2) ((rd_T38 l0 x7_1).f3) ((rd_T38 l0 x7_1).f4) a1_0 a1_1 a1_2 a1_3 a1_4).bind fun t159 => (spec_SetPut.j1 k1 l0 x5_1 false x7_1 (!t159) a1_0 a1_1 a1_2 a1_3 a1_4)) else (none)) = some r := by rw [if_neg (show ¬ (false = true) by decide)] at H; exact H
      clear H
      have H := H1
      clear H1
      by_cases c10 : 0 ≤ x7_1
      ·rw [if_pos c10] at H
       have c10b0 : decide (0 ≤ x7_1) = true := decide_eq_true c10
       clear c10
       (first | rw [c10b0] | (simp only [bD, bC]; rw [c10b0]) | skip)
       replace H := lF H
       obtain ⟨t159, A110, H⟩ := H
       replace H : (spec_SetPut.j1 k1 l0 x5_1 false x7_1 (!t159) a1_0 a1_1 a1_2 a1_3 a1_4) = some r := H
       have A11 := aA.mk A110
       clear A110
       have H' := aA.mk H
       clear H
       try go_wp2
       have n0_ := aA.mk (Kd.bA HO_5.out)
       have n1_ := aA.mk (aQ BK151.out)
       have n2_ := aA.mk (aG HB.out)
       clear HO_5
       clear BK151
       clear HB
       have HO_5 := n0_
       have BK151 := n1_
       have HB := n2_
       clear n0_ n1_ n2_
       have p158 : 0 ≤ (x7_1 : Int) := lE (by first | (with_reducible assumption) | assumption)
       have q158 : x7_1 < (l0.length : Int) := lE (by first | (with_reducible assumption) | assumption)
       obtain ⟨ad158, e158, hx158_0, hx158_1, hx158_2, hx158_3, hx158_4⟩ := at_T38 HR0.out x7_1 p158 q158
       have hw158_4 := hx158_4
       have hw158_3 := hx158_3
       have hw158_2 := hx158_2
       have hw158_1 := hx158_1
       have hw158_0 := hx158_0
       cases e158
       replace hx158_0 := (HB.out.cell (lD w _ hx158_0)).trans hx158_0
       replace hx158_1 := (HB.out.cell (lD w _ hx158_1)).trans hx158_1
       replace hx158_2 := (HB.out.cell (lD w _ hx158_2)).trans hx158_2
       replace hx158_3 := (HB.out.cell (lD w _ hx158_3)).trans hx158_3
       replace hx158_4 := (HB.out.cell (lD w _ hx158_4)).trans hx158_4
       replace p158 := eq_true p158
       replace q158 := eq_true q158
       refine start_ (n := 11) (S := fun w' => w'.cell? ⟨gb151, 0, none⟩ = some (.int .i64 a1_0) ∧ w'.cell? ⟨gb151, 1, none⟩ = some (.int .i64 a1_1) ∧ w'.cell? ⟨gb151, 2, none⟩ = some (.int .i64 a1_2) ∧ w'.cell? ⟨gb151, 3, none⟩ = some (.int .i64 a1_3) ∧ w'.cell? ⟨gb151, 4, none⟩ = some (.int .i64 a1_4) ∧ w'.cell? (ad158.add ((x7_1).toNat * 5)) = some (.int .i64 ((rd_T38 l0 x7_1).f0)) ∧ w'.cell? ⟨(ad158.add ((x7_1).toNat * 5)).block, (ad158.add ((x7_1).toNat * 5)).off + 1, none⟩ = some (.int .i64 ((rd_T38 l0 x7_1).f1)) ∧ w'.cell? ⟨(ad158.add ((x7_1).toNat * 5)).block, (ad158.add ((x7_1).toNat * 5)).off + 2, none⟩ = some (.int .i64 ((rd_T38 l0 x7_1).f2)) ∧ w'.cell? ⟨(ad158.add ((x7_1).toNat * 5)).block, (ad158.add ((x7_1).toNat * 5)).off + 3, none⟩ = some (.int .i64 ((rd_T38 l0 x7_1).f3)) ∧ w'.cell? ⟨(ad158.add ((x7_1).toNat * 5)).block, (ad158.add ((x7_1).toNat * 5)).off + 4, none⟩ = some (.int .i64 ((rd_T38 l0 x7_1).f4))) (ds := []) #[false, false, false, false, false, false, false, false, false, false, false] (by kernel_rfl) rfl rfl ⟨(aE BK151.out 0).trans rfl, (aE BK151.out 1).trans rfl, (aE BK151.out 2).trans rfl, (aE BK151.out 3).trans rfl, (aE BK151.out 4).trans rfl, ((HB.out.cell (lD w _ hw158_0)).trans hw158_0), ((HB.out.cell (lD w _ hw158_1)).trans hw158_1), ((HB.out.cell (lD w _ hw158_2)).trans hw158_2), ((HB.out.cell (lD w _ hw158_3)).trans hw158_3), ((HB.out.cell (lD w _ hw158_4)).trans hw158_4)⟩ (fun hHeld => ?_); refine with_tabW spec_SetPut.tab6 spec_SetPut.bits6 (fun HT_ HW_ => ?_)
       generalize wr.drew = w12 at HO_5 BK151 HB hx158_0 hx158_1 hx158_2 hx158_3 hx158_4 hHeld ⊢
       refine bL (i := 0) (N := some 15) (v := ?_) (a' := ?_) #[true, false, false, false, false, false, false, false, false, false, false] rfl rfl (bQ HT_.out (by kernel_rfl)) (fun _ _ _ h => h) (Or.inl ⟨by rfl, ?_⟩) ?_ ?_
       rotate_left
       ·intro w'
        go_simp
        with_reducible rfl
       rotate_left
       ·simp only [Act.put, lA, lB, lC, bD, bC]
        rfl
       refine bL (i := 1) (N := some 16) (v := ?_) (a' := ?_) #[true, true, false, false, false, false, false, false, false, false, false] rfl rfl (bQ HT_.out (by kernel_rfl)) (fun _ _ _ h => h) (Or.inl ⟨by rfl, ?_⟩) ?_ ?_
       rotate_left
       ·intro w'
        go_simp
        with_reducible rfl
       rotate_left
       ·simp only [Act.put, lA, lB, lC, bD, bC]
        rfl
       refine bL (i := 2) (N := some 17) (v := ?_) (a' := ?_) #[true, true, true, false, false, false, false, false, false, false, false] rfl rfl (bQ HT_.out (by kernel_rfl)) (fun _ _ _ h => h) (Or.inl ⟨by rfl, ?_⟩) ?_ ?_
       rotate_left
       ·intro w'
        go_simp
        with_reducible rfl
       rotate_left
       ·simp only [Act.put, lA, lB, lC, bD, bC]
        rfl
       refine bL (i := 3) (N := some 18) (v := ?_) (a' := ?_) #[true, true, true, true, false, false, false, false, false, false, false] rfl rfl (bQ HT_.out (by kernel_rfl)) (fun _ _ _ h => h) (Or.inl ⟨by rfl, ?_⟩) ?_ ?_
       rotate_left
       ·intro w'
        go_simp
        with_reducible rfl
       rotate_left
       ·simp only [Act.put, lA, lB, lC, bD, bC]
        rfl
       refine bL (i := 4) (N := some 19) (v := ?_) (a' := ?_) #[true, true, true, true, true, false, false, false, false, false, false] rfl rfl (bQ HT_.out (by kernel_rfl)) (fun _ _ _ h => h) (Or.inl ⟨by rfl, ?_⟩) ?_ ?_
       rotate_left
       ·intro w'
        go_simp
        with_reducible rfl
       rotate_left
       ·simp only [Act.put, lA, lB, lC, bD, bC]
        rfl
       refine bL (i := 5) (N := some 20) (v := ?_) (a' := ?_) #[true, true, true, true, true, true, false, false, false, false, false] rfl rfl (bQ HT_.out (by kernel_rfl)) (fun _ _ _ h => h) (Or.inl ⟨by rfl, ?_⟩) ?_ ?_
       rotate_left
       ·intro w'
        go_simp
        with_reducible rfl
       rotate_left
       ·simp only [Act.put, lA, lB, lC, bD, bC]
        rfl
       refine take_ (i := 6) (N := some 21) (v := ?_) (a' := ?_) #[true, true, true, true, true, true, true, false, false, false, false] rfl rfl (take_ofW HT_.out HW_.out (by kernel_rfl)) (fun _ _ _ h => h) (Or.inl ⟨by rfl, ?_⟩) hHeld ?_ ?_
       rotate_left
       ·rintro w' ⟨s0, s1, s2, s3, s4, s5, s6, s7, s8, s9⟩
        go_simp
        with_reducible rfl
       rotate_left
       ·simp only [Act.put, lA, lB, lC, bD, bC]
        rfl
       refine take_ (i := 7) (N := some 22) (v := ?_) (a' := ?_) #[true, true, true, true, true, true, true, true, false, false, false] rfl rfl (take_ofW HT_.out HW_.out (by kernel_rfl)) (fun _ _ _ h => h) (Or.inl ⟨by rfl, ?_⟩) hHeld ?_ ?_
       rotate_left
       ·rintro w' ⟨s0, s1, s2, s3, s4, s5, s6, s7, s8, s9⟩
        go_simp
        with_reducible rfl
       rotate_left
       ·simp only [Act.put, lA, lB, lC, bD, bC]
        rfl
       refine one_ (i := 8) (N := some 23) #[true, true, true, true, true, true, true, true, true, false, false] rfl rfl (one_of HT_.out (by kernel_rfl)) (by decide) (fun K hK => ?_)
       refine goes_ Try.func85 (by kernel_rfl) rfl #[.agg #[.int .i64 ((rd_T38 l0 x7_1).f0), .int .i64 ((rd_T38 l0 x7_1).f1), .int .i64 ((rd_T38 l0 x7_1).f2), .int .i64 ((rd_T38 l0 x7_1).f3), .int .i64 ((rd_T38 l0 x7_1).f4)], .agg #[.int .i64 a1_0, .int .i64 a1_1, .int .i64 a1_2, .int .i64 a1_3, .int .i64 a1_4]] (by rfl) rfl rfl (by (try simp only [List.map_toArray, List.map_cons, List.map_nil]); first | done | rfl | (simp only [List.length_drop, List.length_take]; rfl)) ?_
       with_reducible refine (spec_LessKey.calls ((rd_T38 l0 x7_1).f0) ((rd_T38 l0 x7_1).f1) ((rd_T38 l0 x7_1).f2) ((rd_T38 l0 x7_1).f3) ((rd_T38 l0 x7_1).f4) a1_0 a1_1 a1_2 a1_3 a1_4 t159 _ A11.out).mono ?_
       rintro e w13 ⟨rfl, hb⟩
       refine ⟨_, rfl, ?_⟩
       have n0_ := aA.mk (Kd.bU (by (with_reducible repeat (first | apply Kd.aY | apply Kd.aZ | apply Kd.bA)); exact HO_5.out) hb)
       have n1_ := aA.mk (aV (g := gb151) (o := .cells #[.int .i64 a1_0, .int .i64 a1_1, .int .i64 a1_2, .int .i64 a1_3, .int .i64 a1_4] 38 (0, 0)) (by (with_reducible repeat (first | refine aN ?_ _ | refine aQ ?_ | refine aM ?_ _)); exact BK151.out) hb)
       have n2_ := aA.mk (aU (by repeat (first | (with_reducible first | exact HB.out | apply aH | apply aC | apply aG | refine aJ ?_ GE151.out) | exact HB.out)) hb)
       clear HO_5
       clear BK151
       clear HB
       have HO_5 := n0_
       have BK151 := n1_
       have HB := n2_
       clear n0_ n1_ n2_
       (try clear hb)
       (try clear hb2)
       (try clear hk)
       (try clear hi)
       refine hK.out _ _ ⟨(aE BK151.out 0).trans rfl, (aE BK151.out 1).trans rfl, (aE BK151.out 2).trans rfl, (aE BK151.out 3).trans rfl, (aE BK151.out 4).trans rfl, ((HB.out.cell (lD w _ hw158_0)).trans hw158_0), ((HB.out.cell (lD w _ hw158_1)).trans hw158_1), ((HB.out.cell (lD w _ hw158_2)).trans hw158_2), ((HB.out.cell (lD w _ hw158_3)).trans hw158_3), ((HB.out.cell (lD w _ hw158_4)).trans hw158_4)⟩ (fun hHeld => ?_)
       clear hK K
       refine norm_ (a' := ?_) ?_ ?_
       rotate_left
       ·show Act.put _ (some 23) _ = _
        simp only [Act.put, lA, lB, lC, bD, bC]
        rfl
       refine bL (i := 9) (N := some 24) (v := ?_) (a' := ?_) #[true, true, true, true, true, true, true, true, true, true, false] rfl rfl (bQ HT_.out (by kernel_rfl)) (fun _ _ _ h => h) (Or.inl ⟨by rfl, ?_⟩) ?_ ?_
       rotate_left
       ·intro w'
        go_simp
        with_reducible rfl
       rotate_left
       ·simp only [Act.put, lA, lB, lC, bD, bC]
        rfl
       refine bL (i := 10) (N := some 25) (v := ?_) (a' := ?_) #[true, true, true, true, true, true, true, true, true, true, true] rfl rfl (bQ HT_.out (by kernel_rfl)) (fun _ _ _ h => h) (Or.inl ⟨by rfl, ?_⟩) ?_ ?_
       rotate_left
       ·intro w'
        go_simp
        with_reducible rfl
       rotate_left
       ·simp only [Act.put, lA, lB, lC, bD, bC]
        rfl
       refine done_ (done_of HT_.out (by kernel_rfl)) ?_
       try go_wp2
       go_meet
       case rel => exact ⟨_, (!t159), (by first | rfl | (simp; done) | (simp [*]; done)), H', ⟨by have := HK1.out; first | omega | exact Nat.le_refl _⟩, ⟨by (with_reducible repeat (first | apply Kd.aY | apply Kd.aZ | apply Kd.bA)); exact HO_5.out⟩, ⟨by (with_reducible repeat (first | refine aN ?_ _ | refine aQ ?_ | refine aM ?_ _)); exact BK151.out⟩, ⟨by repeat (first | (with_reducible first | exact HB.out | apply aH | apply aC | apply aG | refine aJ ?_ GE151.out) | exact HB.out)⟩⟩
      ·rw [if_neg c10] at H
       exact absurd H (by simp)
    case rest =>
     clear HC7
     try clear c1
     try clear p1
     try clear q1
     try clear hx1
     try clear p2
     try clear c5
     try clear c6
     try clear c6b0
     try clear c8
     try clear c10
     try clear c10b0
     try clear hx158_0
     try clear hx158_1
     try clear hx158_2
     try clear hx158_3
     try clear hx158_4
     try clear p158
     try clear p2
     try clear q158
     obtain ⟨kq, x25_6, rfl, HA, HJ6, HO_5, BK151, HB⟩ := hcut
     cases kq with
     | zero => exact absurd HA.out (by simp [spec_SetPut.j1])
     | succ kj6 =>
      have H := HA.out
      clear HA
      simp only [spec_SetPut.j1] at H
      by_cases c14 : x25_6 = true
      ·subst c14
       have H1 : (if x5_1.length < 3518437208883 then ((some (x5_1 ++ [(⟨a1_0, a1_1, a1_2, a1_3, a1_4⟩ : S38)] : List (S38))).bind fun y160 => (if 0 ≤ x7_1 then (if x7_1 < (l0.length : Int) then ((spec_SameSpot.f ((rd_T38 l0 x7_1).f0) ((rd_T38 l0 x7_1).f1) ((rd_T38 l0 x7_1).f2) ((rd_T38 l0 x7_1).f3) ((rd_T38 l0 x7_1).f4) a1_0 a1_1 a1_2 a1_3 a1_4).bind fun t164 => (if t164 = true then (spec_SetPut.l0 kj6 l0 y160 true (wrap64 (x7_1 + 1)) a1_0 a1_1 a1_2 a1_3 a1_4) else (if y160.length < 3518437208883 then (spec_SetPut.l0 kj6 l0 (y160 ++ [(⟨(rd_T38 l0 x7_1).f0, (rd_T38 l0 x7_1).f1, (rd_T38 l0 x7_1).f2, (rd_T38 l0 x7_1).f3, (rd_T38 l0 x7_1).f4⟩ : S38)]) true (wrap64 (x7_1 + 1)) a1_0 a1_1 a1_2 a1_3 a1_4) else (none)))) else (none)) else (none))) else (none)) = some r := by rw [if_pos rfl] at H; exact H
       clear H
       have H := H1
       clear H1
       by_cases c15 : x5_1.length < 3518437208883
       ·rw [if_pos c15] at H
        have LMc15 := aA.mk c15
        clear c15
        obtain ⟨y160, hy160⟩ : ∃ y_ : List (S38), y_ = (x5_1 ++ [(⟨a1_0, a1_1, a1_2, a1_3, a1_4⟩ : S38)]) := ⟨_, rfl⟩
        replace H : (if 0 ≤ x7_1 then (if x7_1 < (l0.length : Int) then ((spec_SameSpot.f ((rd_T38 l0 x7_1).f0) ((rd_T38 l0 x7_1).f1) ((rd_T38 l0 x7_1).f2) ((rd_T38 l0 x7_1).f3) ((rd_T38 l0 x7_1).f4) a1_0 a1_1 a1_2 a1_3 a1_4).bind fun t164 => (if t164 = true then (spec_SetPut.l0 kj6 l0 y160 true (wrap64 (x7_1 + 1)) a1_0 a1_1 a1_2 a1_3 a1_4) else (if y160.length < 3518437208883 then (spec_SetPut.l0 kj6 l0 (y160 ++ [(⟨(rd_T38 l0 x7_1).f0, (rd_T38 l0 x7_1).f1, (rd_T38 l0 x7_1).f2, (rd_T38 l0 x7_1).f3, (rd_T38 l0 x7_1).f4⟩ : S38)]) true (wrap64 (x7_1 + 1)) a1_0 a1_1 a1_2 a1_3 a1_4) else (none)))) else (none)) else (none)) = some r := by first | (rw [hy160]; with_reducible exact H) | (have H2_ := (Option.bind_some _ _).symm.trans H; rw [hy160]; with_reducible exact H2_) | (have H2_ := (Option.bind_some _ _).symm.trans H; with_reducible exact H2_) | with_reducible exact H | (rw [hy160]; exact H) | exact H
        have Ny160 := aA.mk hy160
        clear hy160
        by_cases c16 : 0 ≤ x7_1
        ·rw [if_pos c16] at H
         have c16b0 : decide (0 ≤ x7_1) = true := decide_eq_true c16
         clear c16
         by_cases c17 : x7_1 < (l0.length : Int)
         ·rw [if_pos c17] at H
          have c17b0 : decide (x7_1 < (l0.length : Int)) = true := decide_eq_true c17
          clear c17
          replace H := lF H
          obtain ⟨t164, A180, H⟩ := H
          replace H : (if t164 = true then (spec_SetPut.l0 kj6 l0 y160 true (wrap64 (x7_1 + 1)) a1_0 a1_1 a1_2 a1_3 a1_4) else (if y160.length < 3518437208883 then (spec_SetPut.l0 kj6 l0 (y160 ++ [(⟨(rd_T38 l0 x7_1).f0, (rd_T38 l0 x7_1).f1, (rd_T38 l0 x7_1).f2, (rd_T38 l0 x7_1).f3, (rd_T38 l0 x7_1).f4⟩ : S38)]) true (wrap64 (x7_1 + 1)) a1_0 a1_1 a1_2 a1_3 a1_4) else (none))) = some r := H
          have A18 := aA.mk A180
          clear A180
          by_cases c19 : t164 = true
          ·subst c19
           have H1 : (spec_SetPut.l0 kj6 l0 y160 true (wrap64 (x7_1 + 1)) a1_0 a1_1 a1_2 a1_3 a1_4) = some r := by rw [if_pos rfl] at H; exact H
           clear H
           have H := H1
           clear H1
           have H' := aA.mk H
           clear H
           have hcz20_0 : wc.cell? ⟨gb151, 0, none⟩ = some (.int .i64 a1_0) := (aE BK151.out 0).trans rfl
           have hcz20_1 : wc.cell? ⟨gb151, 1, none⟩ = some (.int .i64 a1_1) := (aE BK151.out 1).trans rfl
           have hcz20_2 : wc.cell? ⟨gb151, 2, none⟩ = some (.int .i64 a1_2) := (aE BK151.out 2).trans rfl
           have hcz20_3 : wc.cell? ⟨gb151, 3, none⟩ = some (.int .i64 a1_3) := (aE BK151.out 3).trans rfl
           have hcz20_4 : wc.cell? ⟨gb151, 4, none⟩ = some (.int .i64 a1_4) := (aE BK151.out 4).trans rfl
           have hfz20_0 := aD BK151.out 0
           have hfz20_1 := aD BK151.out 1
           have hfz20_2 := aD BK151.out 2
           have hfz20_3 := aD BK151.out 3
           have hfz20_4 := aD BK151.out 4
           try go_wp2_with (first | ((with_reducible refine gate_builtin (b := .append) (xs := #[.tmp 26, .tmp 28]) rfl ?_); at_builtin; refine Kd.R_append k38 (w0 := w) w.heap.size rfl (.tmp 26) (.tmp 28) 45 38 (.agg #[(.int .i64 0), (.int .i64 0), (.int .i64 0), (.int .i64 0), (.int .i64 0)]) 40 rfl Try.underlying45 info38 rfl (by decide) (by omega) u5 x5_1 (⟨a1_0, a1_1, a1_2, a1_3, a1_4⟩ : S38) [.int .i64 a1_0, .int .i64 a1_1, .int .i64 a1_2, .int .i64 a1_3, .int .i64 a1_4] (fun k_ => k_ ≠ gb151) (fun _ => False) rfl rfl ?aP (fun _ hk => hk.elim) ?aF ?aO ?aB ?aS ?aL ?_; (case aP => exact k38_mkM _ _ _ (⟨a1_0, a1_1, a1_2, a1_3, a1_4⟩ : S38)); (case aB => exact (by repeat (first | (with_reducible first | exact HB.out | apply aH | apply aC | apply aG | refine aJ ?_ GE151.out) | exact HB.out))); (case aF => exact (fun k_ hk => Kd.freshB (g := gb151) (o := .cells #[.int .i64 a1_0, .int .i64 a1_1, .int .i64 a1_2, .int .i64 a1_3, .int .i64 a1_4] 38 (0, 0)) (by (with_reducible repeat (first | refine aN ?_ _ | refine aQ ?_ | refine aM ?_ _)); exact BK151.out) k_ hk)); (case aO => exact (by (with_reducible repeat (first | apply Kd.aY | apply Kd.aZ | apply Kd.bA)); exact HO_5.out)); (case aS => exact (aT (by repeat (first | (with_reducible first | exact HB.out | apply aH | apply aC | apply aG | refine aJ ?_ GE151.out) | exact HB.out)))); (case aL => have := LMc15.out; omega); intro v161 w21 ho hb hg hat; rw [← Ny160.out] at ho; have n0_ := aA.mk (blk_grown (g := gb151) (o := .cells #[.int .i64 a1_0, .int .i64 a1_1, .int .i64 a1_2, .int .i64 a1_3, .int .i64 a1_4] 38 (0, 0)) (by (with_reducible repeat (first | refine aN ?_ _ | refine aQ ?_ | refine aM ?_ _)); exact BK151.out) hg (Kd.R_away HO_5.out (fun _ hk => hk))); have n1_ := aA.mk (hb); have n2_ := aA.mk (ho); clear BK151; clear HB; clear HO_5; have BK151 := n0_; have HB := n1_; have HO162 := n2_; clear n0_ n1_ n2_; clear ho hb hg hat))
           have n0_ := aA.mk (Kd.bA HO162.out)
           have n1_ := aA.mk (aQ BK151.out)
           have n2_ := aA.mk (aG HB.out)
           clear HO162
           clear BK151
           clear HB
           have HO162 := n0_
           have BK151 := n1_
           have HB := n2_
           clear n0_ n1_ n2_
           have p163 : 0 ≤ (x7_1 : Int) := lE (by first | (with_reducible assumption) | assumption)
           have q163 : x7_1 < (l0.length : Int) := lE (by first | (with_reducible assumption) | assumption)
           obtain ⟨ad163, e163, hx163_0, hx163_1, hx163_2, hx163_3, hx163_4⟩ := at_T38 HR0.out x7_1 p163 q163
           have hw163_4 := hx163_4
           have hw163_3 := hx163_3
           have hw163_2 := hx163_2
           have hw163_1 := hx163_1
           have hw163_0 := hx163_0
           cases e163
           replace hx163_0 := (HB.out.cell (lD w _ hx163_0)).trans hx163_0
           replace hx163_1 := (HB.out.cell (lD w _ hx163_1)).trans hx163_1
           replace hx163_2 := (HB.out.cell (lD w _ hx163_2)).trans hx163_2
           replace hx163_3 := (HB.out.cell (lD w _ hx163_3)).trans hx163_3
           replace hx163_4 := (HB.out.cell (lD w _ hx163_4)).trans hx163_4
           replace p163 := eq_true p163
           replace q163 := eq_true q163
           refine start_ (n := 7) (S := fun w' => w'.cell? ⟨gb151, 0, none⟩ = some (.int .i64 a1_0) ∧ w'.cell? ⟨gb151, 1, none⟩ = some (.int .i64 a1_1) ∧ w'.cell? ⟨gb151, 2, none⟩ = some (.int .i64 a1_2) ∧ w'.cell? ⟨gb151, 3, none⟩ = some (.int .i64 a1_3) ∧ w'.cell? ⟨gb151, 4, none⟩ = some (.int .i64 a1_4) ∧ w'.cell? (ad163.add ((x7_1).toNat * 5)) = some (.int .i64 ((rd_T38 l0 x7_1).f0)) ∧ w'.cell? ⟨(ad163.add ((x7_1).toNat * 5)).block, (ad163.add ((x7_1).toNat * 5)).off + 1, none⟩ = some (.int .i64 ((rd_T38 l0 x7_1).f1)) ∧ w'.cell? ⟨(ad163.add ((x7_1).toNat * 5)).block, (ad163.add ((x7_1).toNat * 5)).off + 2, none⟩ = some (.int .i64 ((rd_T38 l0 x7_1).f2)) ∧ w'.cell? ⟨(ad163.add ((x7_1).toNat * 5)).block, (ad163.add ((x7_1).toNat * 5)).off + 3, none⟩ = some (.int .i64 ((rd_T38 l0 x7_1).f3)) ∧ w'.cell? ⟨(ad163.add ((x7_1).toNat * 5)).block, (ad163.add ((x7_1).toNat * 5)).off + 4, none⟩ = some (.int .i64 ((rd_T38 l0 x7_1).f4))) (ds := []) #[false, false, false, false, false, false, false] (by kernel_rfl) rfl rfl ⟨(aE BK151.out 0).trans rfl, (aE BK151.out 1).trans rfl, (aE BK151.out 2).trans rfl, (aE BK151.out 3).trans rfl, (aE BK151.out 4).trans rfl, ((HB.out.cell (lD w _ hw163_0)).trans hw163_0), ((HB.out.cell (lD w _ hw163_1)).trans hw163_1), ((HB.out.cell (lD w _ hw163_2)).trans hw163_2), ((HB.out.cell (lD w _ hw163_3)).trans hw163_3), ((HB.out.cell (lD w _ hw163_4)).trans hw163_4)⟩ (fun hHeld => ?_)
           generalize w21.drew = w22 at HO162 BK151 HB hx163_0 hx163_1 hx163_2 hx163_3 hx163_4 hHeld ⊢
           refine bL (i := 0) (N := some 30) (v := ?_) (a' := ?_) #[true, false, false, false, false, false, false] rfl rfl (by kernel_rfl) (fun _ _ _ h => h) (Or.inl ⟨by rfl, ?_⟩) ?_ ?_
           rotate_left
           ·intro w'
            go_simp
            with_reducible rfl
           rotate_left
           ·simp only [Act.put, lA, lB, lC, bD, bC]
            rfl
           refine bL (i := 1) (N := some 31) (v := ?_) (a' := ?_) #[true, true, false, false, false, false, false] rfl rfl (by kernel_rfl) (fun _ _ _ h => h) (Or.inl ⟨by rfl, ?_⟩) ?_ ?_
           rotate_left
           ·intro w'
            go_simp
            with_reducible rfl
           rotate_left
           ·simp only [Act.put, lA, lB, lC, bD, bC]
            rfl
           refine bL (i := 2) (N := some 32) (v := ?_) (a' := ?_) #[true, true, true, false, false, false, false] rfl rfl (by kernel_rfl) (fun _ _ _ h => h) (Or.inl ⟨by rfl, ?_⟩) ?_ ?_
           rotate_left
           ·intro w'
            go_simp
            with_reducible rfl
           rotate_left
           ·simp only [Act.put, lA, lB, lC, bD, bC]
            rfl
           refine take_ (i := 3) (N := some 33) (v := ?_) (a' := ?_) #[true, true, true, true, false, false, false] rfl rfl (by kernel_rfl) (fun _ _ _ h => h) (Or.inl ⟨by rfl, ?_⟩) hHeld ?_ ?_
           rotate_left
           ·rintro w' ⟨s0, s1, s2, s3, s4, s5, s6, s7, s8, s9⟩
            go_simp
            with_reducible rfl
           rotate_left
           ·simp only [Act.put, lA, lB, lC, bD, bC]
            rfl
           refine take_ (i := 4) (N := some 34) (v := ?_) (a' := ?_) #[true, true, true, true, true, false, false] rfl rfl (by kernel_rfl) (fun _ _ _ h => h) (Or.inl ⟨by rfl, ?_⟩) hHeld ?_ ?_
           rotate_left
           ·rintro w' ⟨s0, s1, s2, s3, s4, s5, s6, s7, s8, s9⟩
            go_simp
            with_reducible rfl
           rotate_left
           ·simp only [Act.put, lA, lB, lC, bD, bC]
            rfl
           refine one_ (i := 5) (N := some 35) #[true, true, true, true, true, true, false] rfl rfl (by kernel_rfl) (by decide) (fun K hK => ?_)
           refine goes_ Try.func86 (by kernel_rfl) rfl #[.agg #[.int .i64 ((rd_T38 l0 x7_1).f0), .int .i64 ((rd_T38 l0 x7_1).f1), .int .i64 ((rd_T38 l0 x7_1).f2), .int .i64 ((rd_T38 l0 x7_1).f3), .int .i64 ((rd_T38 l0 x7_1).f4)], .agg #[.int .i64 a1_0, .int .i64 a1_1, .int .i64 a1_2, .int .i64 a1_3, .int .i64 a1_4]] (by rfl) rfl rfl (by (try simp only [List.map_toArray, List.map_cons, List.map_nil]); first | done | rfl | (simp only [List.length_drop, List.length_take]; rfl)) ?_
           with_reducible refine (spec_SameSpot.calls ((rd_T38 l0 x7_1).f0) ((rd_T38 l0 x7_1).f1) ((rd_T38 l0 x7_1).f2) ((rd_T38 l0 x7_1).f3) ((rd_T38 l0 x7_1).f4) a1_0 a1_1 a1_2 a1_3 a1_4 true _ A18.out).mono ?_
           rintro e w23 ⟨rfl, hb⟩
           refine ⟨_, rfl, ?_⟩
           have n0_ := aA.mk (Kd.bU (by (with_reducible repeat (first | apply Kd.aY | apply Kd.aZ | apply Kd.bA)); exact HO162.out) hb)
           have n1_ := aA.mk (aV (g := gb151) (o := .cells #[.int .i64 a1_0, .int .i64 a1_1, .int .i64 a1_2, .int .i64 a1_3, .int .i64 a1_4] 38 (0, 0)) (by (with_reducible repeat (first | refine aN ?_ _ | refine aQ ?_ | refine aM ?_ _)); exact BK151.out) hb)
           have n2_ := aA.mk (aU (by repeat (first | (with_reducible first | exact HB.out | apply aH | apply aC | apply aG | refine aJ ?_ GE151.out) | exact HB.out)) hb)
           clear HO162
           clear BK151
           clear HB
           have HO162 := n0_
           have BK151 := n1_
           have HB := n2_
           clear n0_ n1_ n2_
           (try clear hb)
           (try clear hb2)
           (try clear hk)
           (try clear hi)
           refine hK.out _ _ ⟨(aE BK151.out 0).trans rfl, (aE BK151.out 1).trans rfl, (aE BK151.out 2).trans rfl, (aE BK151.out 3).trans rfl, (aE BK151.out 4).trans rfl, ((HB.out.cell (lD w _ hw163_0)).trans hw163_0), ((HB.out.cell (lD w _ hw163_1)).trans hw163_1), ((HB.out.cell (lD w _ hw163_2)).trans hw163_2), ((HB.out.cell (lD w _ hw163_3)).trans hw163_3), ((HB.out.cell (lD w _ hw163_4)).trans hw163_4)⟩ (fun hHeld => ?_)
           clear hK K
           refine norm_ (a' := ?_) ?_ ?_
           rotate_left
           ·show Act.put _ (some 35) _ = _
            simp only [Act.put, lA, lB, lC, bD, bC]
            rfl
           refine bL (i := 6) (N := some 36) (v := ?_) (a' := ?_) #[true, true, true, true, true, true, true] rfl rfl (by kernel_rfl) (fun _ _ _ h => h) (Or.inl ⟨by rfl, ?_⟩) ?_ ?_
           rotate_left
           ·intro w'
            go_simp
            with_reducible rfl
           rotate_left
           ·simp only [Act.put, lA, lB, lC, bD, bC]
            rfl
           refine done_ (by kernel_rfl) ?_
           try go_wp2
           go_roundg kj6
           case measure => have := HK1.out; have := HJ6.out; omega
           case rel => exact ⟨(y160), (true), (wrap64 (x7_1 + 1)), (by first | rfl | (simp; done) | (simp [*]; done)), (by first | rfl | (simp; done) | (simp [*]; done)), H', ⟨by have := HK1.out; have := HJ6.out; omega⟩, ⟨by (with_reducible repeat (first | apply Kd.aY | apply Kd.aZ | apply Kd.bA)); exact HO162.out⟩, ⟨by (with_reducible repeat (first | refine aN ?_ _ | refine aQ ?_ | refine aM ?_ _)); exact BK151.out⟩, ⟨by repeat (first | (with_reducible first | exact HB.out | apply aH | apply aC | apply aG | refine aJ ?_ GE151.out) | exact HB.out)⟩⟩
          ·replace c19 := Bool.eq_false_iff.mpr c19
           subst c19
           have H1 : (if y160.length < 3518437208883 then (spec_SetPut.l0 kj6 l0 (y160 ++ [(⟨(rd_T38 l0 x7_1).f0, (rd_T38 l0 x7_1).f1, (rd_T38 l0 x7_1).f2, (rd_T38 l0 x7_1).f3, (rd_T38 l0 x7_1).f4⟩ : S38)]) true (wrap64 (x7_1 + 1)) a1_0 a1_1 a1_2 a1_3 a1_4) else (none)) = some r := by rw [if_neg (show ¬ (false = true) by decide)] at H; exact H
           clear H
           have H := H1
           clear H1
           by_cases c24 : y160.length < 3518437208883
           ·rw [if_pos c24] at H
            have LMc24 := aA.mk c24
            clear c24
            obtain ⟨y166, hy166⟩ : ∃ y_ : List (S38), y_ = (y160 ++ [(⟨(rd_T38 l0 x7_1).f0, (rd_T38 l0 x7_1).f1, (rd_T38 l0 x7_1).f2, (rd_T38 l0 x7_1).f3, (rd_T38 l0 x7_1).f4⟩ : S38)]) := ⟨_, rfl⟩
            replace H : (spec_SetPut.l0 kj6 l0 y166 true (wrap64 (x7_1 + 1)) a1_0 a1_1 a1_2 a1_3 a1_4) = some r := by first | (rw [hy166]; with_reducible exact H) | (have H2_ := (Option.bind_some _ _).symm.trans H; rw [hy166]; with_reducible exact H2_) | (have H2_ := (Option.bind_some _ _).symm.trans H; with_reducible exact H2_) | with_reducible exact H | (rw [hy166]; exact H) | exact H
            have Ny166 := aA.mk hy166
            clear hy166
            have H' := aA.mk H
            clear H
            have hcz25_0 : wc.cell? ⟨gb151, 0, none⟩ = some (.int .i64 a1_0) := (aE BK151.out 0).trans rfl
            have hcz25_1 : wc.cell? ⟨gb151, 1, none⟩ = some (.int .i64 a1_1) := (aE BK151.out 1).trans rfl
            have hcz25_2 : wc.cell? ⟨gb151, 2, none⟩ = some (.int .i64 a1_2) := (aE BK151.out 2).trans rfl
            have hcz25_3 : wc.cell? ⟨gb151, 3, none⟩ = some (.int .i64 a1_3) := (aE BK151.out 3).trans rfl
            have hcz25_4 : wc.cell? ⟨gb151, 4, none⟩ = some (.int .i64 a1_4) := (aE BK151.out 4).trans rfl
            have hfz25_0 := aD BK151.out 0
            have hfz25_1 := aD BK151.out 1
            have hfz25_2 := aD BK151.out 2
            have hfz25_3 := aD BK151.out 3
            have hfz25_4 := aD BK151.out 4
            try go_wp2_with (first | ((with_reducible refine gate_builtin (b := .append) (xs := #[.tmp 26, .tmp 28]) rfl ?_); at_builtin; refine Kd.R_append k38 (w0 := w) w.heap.size rfl (.tmp 26) (.tmp 28) 45 38 (.agg #[(.int .i64 0), (.int .i64 0), (.int .i64 0), (.int .i64 0), (.int .i64 0)]) 40 rfl Try.underlying45 info38 rfl (by decide) (by omega) u5 x5_1 (⟨a1_0, a1_1, a1_2, a1_3, a1_4⟩ : S38) [.int .i64 a1_0, .int .i64 a1_1, .int .i64 a1_2, .int .i64 a1_3, .int .i64 a1_4] (fun k_ => k_ ≠ gb151) (fun _ => False) rfl rfl ?aP (fun _ hk => hk.elim) ?aF ?aO ?aB ?aS ?aL ?_; (case aP => exact k38_mkM _ _ _ (⟨a1_0, a1_1, a1_2, a1_3, a1_4⟩ : S38)); (case aB => exact (by repeat (first | (with_reducible first | exact HB.out | apply aH | apply aC | apply aG | refine aJ ?_ GE151.out) | exact HB.out))); (case aF => exact (fun k_ hk => Kd.freshB (g := gb151) (o := .cells #[.int .i64 a1_0, .int .i64 a1_1, .int .i64 a1_2, .int .i64 a1_3, .int .i64 a1_4] 38 (0, 0)) (by (with_reducible repeat (first | refine aN ?_ _ | refine aQ ?_ | refine aM ?_ _)); exact BK151.out) k_ hk)); (case aO => exact (by (with_reducible repeat (first | apply Kd.aY | apply Kd.aZ | apply Kd.bA)); exact HO_5.out)); (case aS => exact (aT (by repeat (first | (with_reducible first | exact HB.out | apply aH | apply aC | apply aG | refine aJ ?_ GE151.out) | exact HB.out)))); (case aL => have := LMc15.out; omega); intro v161 w26 ho hb hg hat; rw [← Ny160.out] at ho; have n0_ := aA.mk (blk_grown (g := gb151) (o := .cells #[.int .i64 a1_0, .int .i64 a1_1, .int .i64 a1_2, .int .i64 a1_3, .int .i64 a1_4] 38 (0, 0)) (by (with_reducible repeat (first | refine aN ?_ _ | refine aQ ?_ | refine aM ?_ _)); exact BK151.out) hg (Kd.R_away HO_5.out (fun _ hk => hk))); have n1_ := aA.mk (hb); have n2_ := aA.mk (ho); clear BK151; clear HB; clear HO_5; have BK151 := n0_; have HB := n1_; have HO162 := n2_; clear n0_ n1_ n2_; clear ho hb hg hat))
            have n0_ := aA.mk (Kd.bA HO162.out)
            have n1_ := aA.mk (aQ BK151.out)
            have n2_ := aA.mk (aG HB.out)
            clear HO162
            clear BK151
            clear HB
            have HO162 := n0_
            have BK151 := n1_
            have HB := n2_
            clear n0_ n1_ n2_
            have p163 : 0 ≤ (x7_1 : Int) := lE (by first | (with_reducible assumption) | assumption)
            have q163 : x7_1 < (l0.length : Int) := lE (by first | (with_reducible assumption) | assumption)
            obtain ⟨ad163, e163, hx163_0, hx163_1, hx163_2, hx163_3, hx163_4⟩ := at_T38 HR0.out x7_1 p163 q163
            have hw163_4 := hx163_4
            have hw163_3 := hx163_3
            have hw163_2 := hx163_2
            have hw163_1 := hx163_1
            have hw163_0 := hx163_0
            cases e163
            replace hx163_0 := (HB.out.cell (lD w _ hx163_0)).trans hx163_0
            replace hx163_1 := (HB.out.cell (lD w _ hx163_1)).trans hx163_1
            replace hx163_2 := (HB.out.cell (lD w _ hx163_2)).trans hx163_2
            replace hx163_3 := (HB.out.cell (lD w _ hx163_3)).trans hx163_3
            replace hx163_4 := (HB.out.cell (lD w _ hx163_4)).trans hx163_4
            replace p163 := eq_true p163
            replace q163 := eq_true q163
            refine start_ (n := 7) (S := fun w' => w'.cell? ⟨gb151, 0, none⟩ = some (.int .i64 a1_0) ∧ w'.cell? ⟨gb151, 1, none⟩ = some (.int .i64 a1_1) ∧ w'.cell? ⟨gb151, 2, none⟩ = some (.int .i64 a1_2) ∧ w'.cell? ⟨gb151, 3, none⟩ = some (.int .i64 a1_3) ∧ w'.cell? ⟨gb151, 4, none⟩ = some (.int .i64 a1_4) ∧ w'.cell? (ad163.add ((x7_1).toNat * 5)) = some (.int .i64 ((rd_T38 l0 x7_1).f0)) ∧ w'.cell? ⟨(ad163.add ((x7_1).toNat * 5)).block, (ad163.add ((x7_1).toNat * 5)).off + 1, none⟩ = some (.int .i64 ((rd_T38 l0 x7_1).f1)) ∧ w'.cell? ⟨(ad163.add ((x7_1).toNat * 5)).block, (ad163.add ((x7_1).toNat * 5)).off + 2, none⟩ = some (.int .i64 ((rd_T38 l0 x7_1).f2)) ∧ w'.cell? ⟨(ad163.add ((x7_1).toNat * 5)).block, (ad163.add ((x7_1).toNat * 5)).off + 3, none⟩ = some (.int .i64 ((rd_T38 l0 x7_1).f3)) ∧ w'.cell? ⟨(ad163.add ((x7_1).toNat * 5)).block, (ad163.add ((x7_1).toNat * 5)).off + 4, none⟩ = some (.int .i64 ((rd_T38 l0 x7_1).f4))) (ds := []) #[false, false, false, false, false, false, false] (by kernel_rfl) rfl rfl ⟨(aE BK151.out 0).trans rfl, (aE BK151.out 1).trans rfl, (aE BK151.out 2).trans rfl, (aE BK151.out 3).trans rfl, (aE BK151.out 4).trans rfl, ((HB.out.cell (lD w _ hw163_0)).trans hw163_0), ((HB.out.cell (lD w _ hw163_1)).trans hw163_1), ((HB.out.cell (lD w _ hw163_2)).trans hw163_2), ((HB.out.cell (lD w _ hw163_3)).trans hw163_3), ((HB.out.cell (lD w _ hw163_4)).trans hw163_4)⟩ (fun hHeld => ?_)
            generalize w26.drew = w27 at HO162 BK151 HB hx163_0 hx163_1 hx163_2 hx163_3 hx163_4 hHeld ⊢
            refine bL (i := 0) (N := some 30) (v := ?_) (a' := ?_) #[true, false, false, false, false, false, false] rfl rfl (by kernel_rfl) (fun _ _ _ h => h) (Or.inl ⟨by rfl, ?_⟩) ?_ ?_
            rotate_left
            ·intro w'
             go_simp
             with_reducible rfl
            rotate_left
            ·simp only [Act.put, lA, lB, lC, bD, bC]
             rfl
            refine bL (i := 1) (N := some 31) (v := ?_) (a' := ?_) #[true, true, false, false, false, false, false] rfl rfl (by kernel_rfl) (fun _ _ _ h => h) (Or.inl ⟨by rfl, ?_⟩) ?_ ?_
            rotate_left
            ·intro w'
             go_simp
             with_reducible rfl
            rotate_left
            ·simp only [Act.put, lA, lB, lC, bD, bC]
             rfl
            refine bL (i := 2) (N := some 32) (v := ?_) (a' := ?_) #[true, true, true, false, false, false, false] rfl rfl (by kernel_rfl) (fun _ _ _ h => h) (Or.inl ⟨by rfl, ?_⟩) ?_ ?_
            rotate_left
            ·intro w'
             go_simp
             with_reducible rfl
            rotate_left
            ·simp only [Act.put, lA, lB, lC, bD, bC]
             rfl
            refine take_ (i := 3) (N := some 33) (v := ?_) (a' := ?_) #[true, true, true, true, false, false, false] rfl rfl (by kernel_rfl) (fun _ _ _ h => h) (Or.inl ⟨by rfl, ?_⟩) hHeld ?_ ?_
            rotate_left
            ·rintro w' ⟨s0, s1, s2, s3, s4, s5, s6, s7, s8, s9⟩
             go_simp
             with_reducible rfl
            rotate_left
            ·simp only [Act.put, lA, lB, lC, bD, bC]
             rfl
            refine take_ (i := 4) (N := some 34) (v := ?_) (a' := ?_) #[true, true, true, true, true, false, false] rfl rfl (by kernel_rfl) (fun _ _ _ h => h) (Or.inl ⟨by rfl, ?_⟩) hHeld ?_ ?_
            rotate_left
            ·rintro w' ⟨s0, s1, s2, s3, s4, s5, s6, s7, s8, s9⟩
             go_simp
             with_reducible rfl
            rotate_left
            ·simp only [Act.put, lA, lB, lC, bD, bC]
             rfl
            refine one_ (i := 5) (N := some 35) #[true, true, true, true, true, true, false] rfl rfl (by kernel_rfl) (by decide) (fun K hK => ?_)
            refine goes_ Try.func86 (by kernel_rfl) rfl #[.agg #[.int .i64 ((rd_T38 l0 x7_1).f0), .int .i64 ((rd_T38 l0 x7_1).f1), .int .i64 ((rd_T38 l0 x7_1).f2), .int .i64 ((rd_T38 l0 x7_1).f3), .int .i64 ((rd_T38 l0 x7_1).f4)], .agg #[.int .i64 a1_0, .int .i64 a1_1, .int .i64 a1_2, .int .i64 a1_3, .int .i64 a1_4]] (by rfl) rfl rfl (by (try simp only [List.map_toArray, List.map_cons, List.map_nil]); first | done | rfl | (simp only [List.length_drop, List.length_take]; rfl)) ?_
            with_reducible refine (spec_SameSpot.calls ((rd_T38 l0 x7_1).f0) ((rd_T38 l0 x7_1).f1) ((rd_T38 l0 x7_1).f2) ((rd_T38 l0 x7_1).f3) ((rd_T38 l0 x7_1).f4) a1_0 a1_1 a1_2 a1_3 a1_4 false _ A18.out).mono ?_
            rintro e w28 ⟨rfl, hb⟩
            refine ⟨_, rfl, ?_⟩
            have n0_ := aA.mk (Kd.bU (by (with_reducible repeat (first | apply Kd.aY | apply Kd.aZ | apply Kd.bA)); exact HO162.out) hb)
            have n1_ := aA.mk (aV (g := gb151) (o := .cells #[.int .i64 a1_0, .int .i64 a1_1, .int .i64 a1_2, .int .i64 a1_3, .int .i64 a1_4] 38 (0, 0)) (by (with_reducible repeat (first | refine aN ?_ _ | refine aQ ?_ | refine aM ?_ _)); exact BK151.out) hb)
            have n2_ := aA.mk (aU (by repeat (first | (with_reducible first | exact HB.out | apply aH | apply aC | apply aG | refine aJ ?_ GE151.out) | exact HB.out)) hb)
            clear HO162
            clear BK151
            clear HB
            have HO162 := n0_
            have BK151 := n1_
            have HB := n2_
            clear n0_ n1_ n2_
            (try clear hb)
            (try clear hb2)
            (try clear hk)
            (try clear hi)
            refine hK.out _ _ ⟨(aE BK151.out 0).trans rfl, (aE BK151.out 1).trans rfl, (aE BK151.out 2).trans rfl, (aE BK151.out 3).trans rfl, (aE BK151.out 4).trans rfl, ((HB.out.cell (lD w _ hw163_0)).trans hw163_0), ((HB.out.cell (lD w _ hw163_1)).trans hw163_1), ((HB.out.cell (lD w _ hw163_2)).trans hw163_2), ((HB.out.cell (lD w _ hw163_3)).trans hw163_3), ((HB.out.cell (lD w _ hw163_4)).trans hw163_4)⟩ (fun hHeld => ?_)
            clear hK K
            refine norm_ (a' := ?_) ?_ ?_
            rotate_left
            ·show Act.put _ (some 35) _ = _
             simp only [Act.put, lA, lB, lC, bD, bC]
             rfl
            refine bL (i := 6) (N := some 36) (v := ?_) (a' := ?_) #[true, true, true, true, true, true, true] rfl rfl (by kernel_rfl) (fun _ _ _ h => h) (Or.inl ⟨by rfl, ?_⟩) ?_ ?_
            rotate_left
            ·intro w'
             go_simp
             with_reducible rfl
            rotate_left
            ·simp only [Act.put, lA, lB, lC, bD, bC]
             rfl
            refine done_ (by kernel_rfl) ?_
            have p165 : 0 ≤ (x7_1 : Int) := lE (by first | (with_reducible assumption) | assumption)
            have q165 : x7_1 < (l0.length : Int) := lE (by first | (with_reducible assumption) | assumption)
            obtain ⟨ad165, e165, hx165_0, hx165_1, hx165_2, hx165_3, hx165_4⟩ := at_T38 HR0.out x7_1 p165 q165
            obtain rfl : ad163 = ad165 := (by injection e165)
            replace hx165_0 := (HB.out.cell (lD w _ hx165_0)).trans hx165_0
            replace hx165_1 := (HB.out.cell (lD w _ hx165_1)).trans hx165_1
            replace hx165_2 := (HB.out.cell (lD w _ hx165_2)).trans hx165_2
            replace hx165_3 := (HB.out.cell (lD w _ hx165_3)).trans hx165_3
            replace hx165_4 := (HB.out.cell (lD w _ hx165_4)).trans hx165_4
            replace p165 := eq_true p165
            replace q165 := eq_true q165
            try go_wp2_with (first | ((with_reducible refine gate_builtin (b := .append) (xs := #[.tmp 37, .tmp 42]) rfl ?_); at_builtin; refine Kd.R_append k38 (w0 := w) w.heap.size rfl (.tmp 37) (.tmp 42) 45 38 (.agg #[(.int .i64 0), (.int .i64 0), (.int .i64 0), (.int .i64 0), (.int .i64 0)]) 40 rfl Try.underlying45 info38 rfl (by decide) (by omega) v161 y160 (⟨(rd_T38 l0 x7_1).f0, (rd_T38 l0 x7_1).f1, (rd_T38 l0 x7_1).f2, (rd_T38 l0 x7_1).f3, (rd_T38 l0 x7_1).f4⟩ : S38) [.int .i64 ((rd_T38 l0 x7_1).f0), .int .i64 ((rd_T38 l0 x7_1).f1), .int .i64 ((rd_T38 l0 x7_1).f2), .int .i64 ((rd_T38 l0 x7_1).f3), .int .i64 ((rd_T38 l0 x7_1).f4)] (fun k_ => k_ ≠ gb151) (fun _ => False) rfl rfl ?aP (fun _ hk => hk.elim) ?aF ?aO ?aB ?aS ?aL ?_; (case aP => exact k38_mkM _ _ _ (⟨(rd_T38 l0 x7_1).f0, (rd_T38 l0 x7_1).f1, (rd_T38 l0 x7_1).f2, (rd_T38 l0 x7_1).f3, (rd_T38 l0 x7_1).f4⟩ : S38)); (case aB => exact (by repeat (first | (with_reducible first | exact HB.out | apply aH | apply aC | apply aG | refine aJ ?_ GE151.out) | exact HB.out))); (case aF => exact (fun k_ hk => Kd.freshB (g := gb151) (o := .cells #[.int .i64 a1_0, .int .i64 a1_1, .int .i64 a1_2, .int .i64 a1_3, .int .i64 a1_4] 38 (0, 0)) (by (with_reducible repeat (first | refine aN ?_ _ | refine aQ ?_ | refine aM ?_ _)); exact BK151.out) k_ hk)); (case aO => exact (by (with_reducible repeat (first | apply Kd.aY | apply Kd.aZ | apply Kd.bA)); exact HO162.out)); (case aS => exact (aT (by repeat (first | (with_reducible first | exact HB.out | apply aH | apply aC | apply aG | refine aJ ?_ GE151.out) | exact HB.out)))); (case aL => have := LMc24.out; omega); intro v167 w29 ho hb hg hat; rw [← Ny166.out] at ho; have n0_ := aA.mk (blk_grown (g := gb151) (o := .cells #[.int .i64 a1_0, .int .i64 a1_1, .int .i64 a1_2, .int .i64 a1_3, .int .i64 a1_4] 38 (0, 0)) (by (with_reducible repeat (first | refine aN ?_ _ | refine aQ ?_ | refine aM ?_ _)); exact BK151.out) hg (Kd.R_away HO162.out (fun _ hk => hk))); have n1_ := aA.mk (hb); have n2_ := aA.mk (ho); clear BK151; clear HB; clear HO162; have BK151 := n0_; have HB := n1_; have HO168 := n2_; clear n0_ n1_ n2_; clear ho hb hg hat))
            go_roundg kj6
            case measure => have := HK1.out; have := HJ6.out; omega
            case rel => exact ⟨(y166), (true), (wrap64 (x7_1 + 1)), (by first | rfl | (simp; done) | (simp [*]; done)), (by first | rfl | (simp; done) | (simp [*]; done)), H', ⟨by have := HK1.out; have := HJ6.out; omega⟩, ⟨by (with_reducible repeat (first | apply Kd.aY | apply Kd.aZ | apply Kd.bA)); exact HO168.out⟩, ⟨by (with_reducible repeat (first | refine aN ?_ _ | refine aQ ?_ | refine aM ?_ _)); exact BK151.out⟩, ⟨by repeat (first | (with_reducible first | exact HB.out | apply aH | apply aC | apply aG | refine aJ ?_ GE151.out) | exact HB.out)⟩⟩
           ·rw [if_neg c24] at H
            exact absurd H (by simp)
         ·rw [if_neg c17] at H
          exact absurd H (by simp)
        ·rw [if_neg c16] at H
         exact absurd H (by simp)
       ·rw [if_neg c15] at H
        exact absurd H (by simp)
      ·replace c14 := Bool.eq_false_iff.mpr c14
       subst c14
       have H1 : (if 0 ≤ x7_1 then (if x7_1 < (l0.length : Int) then ((spec_SameSpot.f ((rd_T38 l0 x7_1).f0) ((rd_T38 l0 x7_1).f1) ((rd_T38 l0 x7_1).f2) ((rd_T38 l0 x7_1).f3) ((rd_T38 l0 x7_1).f4) a1_0 a1_1 a1_2 a1_3 a1_4).bind fun t170 => (if t170 = true then (spec_SetPut.l0 kj6 l0 x5_1 x6_1 (wrap64 (x7_1 + 1)) a1_0 a1_1 a1_2 a1_3 a1_4) else (if x5_1.length < 3518437208883 then (spec_SetPut.l0 kj6 l0 (x5_1 ++ [(⟨(rd_T38 l0 x7_1).f0, (rd_T38 l0 x7_1).f1, (rd_T38 l0 x7_1).f2, (rd_T38 l0 x7_1).f3, (rd_T38 l0 x7_1).f4⟩ : S38)]) x6_1 (wrap64 (x7_1 + 1)) a1_0 a1_1 a1_2 a1_3 a1_4) else (none)))) else (none)) else (none)) = some r := by rw [if_neg (show ¬ (false = true) by decide)] at H; exact H
       clear H
       have H := H1
       clear H1
       by_cases c30 : 0 ≤ x7_1
       ·rw [if_pos c30] at H
        have c30b0 : decide (0 ≤ x7_1) = true := decide_eq_true c30
        clear c30
        by_cases c31 : x7_1 < (l0.length : Int)
        ·rw [if_pos c31] at H
         have c31b0 : decide (x7_1 < (l0.length : Int)) = true := decide_eq_true c31
         clear c31
         replace H := lF H
         obtain ⟨t170, A320, H⟩ := H
         replace H : (if t170 = true then (spec_SetPut.l0 kj6 l0 x5_1 x6_1 (wrap64 (x7_1 + 1)) a1_0 a1_1 a1_2 a1_3 a1_4) else (if x5_1.length < 3518437208883 then (spec_SetPut.l0 kj6 l0 (x5_1 ++ [(⟨(rd_T38 l0 x7_1).f0, (rd_T38 l0 x7_1).f1, (rd_T38 l0 x7_1).f2, (rd_T38 l0 x7_1).f3, (rd_T38 l0 x7_1).f4⟩ : S38)]) x6_1 (wrap64 (x7_1 + 1)) a1_0 a1_1 a1_2 a1_3 a1_4) else (none))) = some r := H
         have A32 := aA.mk A320
         clear A320
         by_cases c33 : t170 = true
         ·subst c33
          have H1 : (spec_SetPut.l0 kj6 l0 x5_1 x6_1 (wrap64 (x7_1 + 1)) a1_0 a1_1 a1_2 a1_3 a1_4) = some r := by rw [if_pos rfl] at H; exact H
          clear H
          have H := H1
          clear H1
          have H' := aA.mk H
          clear H
          try go_wp2
          have n0_ := aA.mk (Kd.bA HO_5.out)
          have n1_ := aA.mk (aQ BK151.out)
          have n2_ := aA.mk (aG HB.out)
          clear HO_5
          clear BK151
          clear HB
          have HO_5 := n0_
          have BK151 := n1_
          have HB := n2_
          clear n0_ n1_ n2_
          have p169 : 0 ≤ (x7_1 : Int) := lE (by first | (with_reducible assumption) | assumption)
          have q169 : x7_1 < (l0.length : Int) := lE (by first | (with_reducible assumption) | assumption)
          obtain ⟨ad169, e169, hx169_0, hx169_1, hx169_2, hx169_3, hx169_4⟩ := at_T38 HR0.out x7_1 p169 q169
          have hw169_4 := hx169_4
          have hw169_3 := hx169_3
          have hw169_2 := hx169_2
          have hw169_1 := hx169_1
          have hw169_0 := hx169_0
          cases e169
          replace hx169_0 := (HB.out.cell (lD w _ hx169_0)).trans hx169_0
          replace hx169_1 := (HB.out.cell (lD w _ hx169_1)).trans hx169_1
          replace hx169_2 := (HB.out.cell (lD w _ hx169_2)).trans hx169_2
          replace hx169_3 := (HB.out.cell (lD w _ hx169_3)).trans hx169_3
          replace hx169_4 := (HB.out.cell (lD w _ hx169_4)).trans hx169_4
          replace p169 := eq_true p169
          replace q169 := eq_true q169
          refine start_ (n := 7) (S := fun w' => w'.cell? ⟨gb151, 0, none⟩ = some (.int .i64 a1_0) ∧ w'.cell? ⟨gb151, 1, none⟩ = some (.int .i64 a1_1) ∧ w'.cell? ⟨gb151, 2, none⟩ = some (.int .i64 a1_2) ∧ w'.cell? ⟨gb151, 3, none⟩ = some (.int .i64 a1_3) ∧ w'.cell? ⟨gb151, 4, none⟩ = some (.int .i64 a1_4) ∧ w'.cell? (ad169.add ((x7_1).toNat * 5)) = some (.int .i64 ((rd_T38 l0 x7_1).f0)) ∧ w'.cell? ⟨(ad169.add ((x7_1).toNat * 5)).block, (ad169.add ((x7_1).toNat * 5)).off + 1, none⟩ = some (.int .i64 ((rd_T38 l0 x7_1).f1)) ∧ w'.cell? ⟨(ad169.add ((x7_1).toNat * 5)).block, (ad169.add ((x7_1).toNat * 5)).off + 2, none⟩ = some (.int .i64 ((rd_T38 l0 x7_1).f2)) ∧ w'.cell? ⟨(ad169.add ((x7_1).toNat * 5)).block, (ad169.add ((x7_1).toNat * 5)).off + 3, none⟩ = some (.int .i64 ((rd_T38 l0 x7_1).f3)) ∧ w'.cell? ⟨(ad169.add ((x7_1).toNat * 5)).block, (ad169.add ((x7_1).toNat * 5)).off + 4, none⟩ = some (.int .i64 ((rd_T38 l0 x7_1).f4))) (ds := []) #[false, false, false, false, false, false, false] (by kernel_rfl) rfl rfl ⟨(aE BK151.out 0).trans rfl, (aE BK151.out 1).trans rfl, (aE BK151.out 2).trans rfl, (aE BK151.out 3).trans rfl, (aE BK151.out 4).trans rfl, ((HB.out.cell (lD w _ hw169_0)).trans hw169_0), ((HB.out.cell (lD w _ hw169_1)).trans hw169_1), ((HB.out.cell (lD w _ hw169_2)).trans hw169_2), ((HB.out.cell (lD w _ hw169_3)).trans hw169_3), ((HB.out.cell (lD w _ hw169_4)).trans hw169_4)⟩ (fun hHeld => ?_)
          generalize wc.drew = w34 at HO_5 BK151 HB hx169_0 hx169_1 hx169_2 hx169_3 hx169_4 hHeld ⊢
          refine bL (i := 0) (N := some 30) (v := ?_) (a' := ?_) #[true, false, false, false, false, false, false] rfl rfl (by kernel_rfl) (fun _ _ _ h => h) (Or.inl ⟨by rfl, ?_⟩) ?_ ?_
          rotate_left
          ·intro w'
           go_simp
           with_reducible rfl
          rotate_left
          ·simp only [Act.put, lA, lB, lC, bD, bC]
           rfl
          refine bL (i := 1) (N := some 31) (v := ?_) (a' := ?_) #[true, true, false, false, false, false, false] rfl rfl (by kernel_rfl) (fun _ _ _ h => h) (Or.inl ⟨by rfl, ?_⟩) ?_ ?_
          rotate_left
          ·intro w'
           go_simp
           with_reducible rfl
          rotate_left
          ·simp only [Act.put, lA, lB, lC, bD, bC]
           rfl
          refine bL (i := 2) (N := some 32) (v := ?_) (a' := ?_) #[true, true, true, false, false, false, false] rfl rfl (by kernel_rfl) (fun _ _ _ h => h) (Or.inl ⟨by rfl, ?_⟩) ?_ ?_
          rotate_left
          ·intro w'
           go_simp
           with_reducible rfl
          rotate_left
          ·simp only [Act.put, lA, lB, lC, bD, bC]
           rfl
          refine take_ (i := 3) (N := some 33) (v := ?_) (a' := ?_) #[true, true, true, true, false, false, false] rfl rfl (by kernel_rfl) (fun _ _ _ h => h) (Or.inl ⟨by rfl, ?_⟩) hHeld ?_ ?_
          rotate_left
          ·rintro w' ⟨s0, s1, s2, s3, s4, s5, s6, s7, s8, s9⟩
           go_simp
           with_reducible rfl
          rotate_left
          ·simp only [Act.put, lA, lB, lC, bD, bC]
           rfl
          refine take_ (i := 4) (N := some 34) (v := ?_) (a' := ?_) #[true, true, true, true, true, false, false] rfl rfl (by kernel_rfl) (fun _ _ _ h => h) (Or.inl ⟨by rfl, ?_⟩) hHeld ?_ ?_
          rotate_left
          ·rintro w' ⟨s0, s1, s2, s3, s4, s5, s6, s7, s8, s9⟩
           go_simp
           with_reducible rfl
          rotate_left
          ·simp only [Act.put, lA, lB, lC, bD, bC]
           rfl
          refine one_ (i := 5) (N := some 35) #[true, true, true, true, true, true, false] rfl rfl (by kernel_rfl) (by decide) (fun K hK => ?_)
          refine goes_ Try.func86 (by kernel_rfl) rfl #[.agg #[.int .i64 ((rd_T38 l0 x7_1).f0), .int .i64 ((rd_T38 l0 x7_1).f1), .int .i64 ((rd_T38 l0 x7_1).f2), .int .i64 ((rd_T38 l0 x7_1).f3), .int .i64 ((rd_T38 l0 x7_1).f4)], .agg #[.int .i64 a1_0, .int .i64 a1_1, .int .i64 a1_2, .int .i64 a1_3, .int .i64 a1_4]] (by rfl) rfl rfl (by (try simp only [List.map_toArray, List.map_cons, List.map_nil]); first | done | rfl | (simp only [List.length_drop, List.length_take]; rfl)) ?_
          with_reducible refine (spec_SameSpot.calls ((rd_T38 l0 x7_1).f0) ((rd_T38 l0 x7_1).f1) ((rd_T38 l0 x7_1).f2) ((rd_T38 l0 x7_1).f3) ((rd_T38 l0 x7_1).f4) a1_0 a1_1 a1_2 a1_3 a1_4 true _ A32.out).mono ?_
          rintro e w35 ⟨rfl, hb⟩
          refine ⟨_, rfl, ?_⟩
          have n0_ := aA.mk (Kd.bU (by (with_reducible repeat (first | apply Kd.aY | apply Kd.aZ | apply Kd.bA)); exact HO_5.out) hb)
          have n1_ := aA.mk (aV (g := gb151) (o := .cells #[.int .i64 a1_0, .int .i64 a1_1, .int .i64 a1_2, .int .i64 a1_3, .int .i64 a1_4] 38 (0, 0)) (by (with_reducible repeat (first | refine aN ?_ _ | refine aQ ?_ | refine aM ?_ _)); exact BK151.out) hb)
          have n2_ := aA.mk (aU (by repeat (first | (with_reducible first | exact HB.out | apply aH | apply aC | apply aG | refine aJ ?_ GE151.out) | exact HB.out)) hb)
          clear HO_5
          clear BK151
          clear HB
          have HO_5 := n0_
          have BK151 := n1_
          have HB := n2_
          clear n0_ n1_ n2_
          (try clear hb)
          (try clear hb2)
          (try clear hk)
          (try clear hi)
          refine hK.out _ _ ⟨(aE BK151.out 0).trans rfl, (aE BK151.out 1).trans rfl, (aE BK151.out 2).trans rfl, (aE BK151.out 3).trans rfl, (aE BK151.out 4).trans rfl, ((HB.out.cell (lD w _ hw169_0)).trans hw169_0), ((HB.out.cell (lD w _ hw169_1)).trans hw169_1), ((HB.out.cell (lD w _ hw169_2)).trans hw169_2), ((HB.out.cell (lD w _ hw169_3)).trans hw169_3), ((HB.out.cell (lD w _ hw169_4)).trans hw169_4)⟩ (fun hHeld => ?_)
          clear hK K
          refine norm_ (a' := ?_) ?_ ?_
          rotate_left
          ·show Act.put _ (some 35) _ = _
           simp only [Act.put, lA, lB, lC, bD, bC]
           rfl
          refine bL (i := 6) (N := some 36) (v := ?_) (a' := ?_) #[true, true, true, true, true, true, true] rfl rfl (by kernel_rfl) (fun _ _ _ h => h) (Or.inl ⟨by rfl, ?_⟩) ?_ ?_
          rotate_left
          ·intro w'
           go_simp
           with_reducible rfl
          rotate_left
          ·simp only [Act.put, lA, lB, lC, bD, bC]
           rfl
          refine done_ (by kernel_rfl) ?_
          try go_wp2
          go_roundg kj6
          case measure => have := HK1.out; have := HJ6.out; omega
          case rel => exact ⟨(x5_1), (x6_1), (wrap64 (x7_1 + 1)), (by first | rfl | (simp; done) | (simp [*]; done)), (by first | rfl | (simp; done) | (simp [*]; done)), H', ⟨by have := HK1.out; have := HJ6.out; omega⟩, ⟨by (with_reducible repeat (first | apply Kd.aY | apply Kd.aZ | apply Kd.bA)); exact HO_5.out⟩, ⟨by (with_reducible repeat (first | refine aN ?_ _ | refine aQ ?_ | refine aM ?_ _)); exact BK151.out⟩, ⟨by repeat (first | (with_reducible first | exact HB.out | apply aH | apply aC | apply aG | refine aJ ?_ GE151.out) | exact HB.out)⟩⟩
         ·replace c33 := Bool.eq_false_iff.mpr c33
          subst c33
          have H1 : (if x5_1.length < 3518437208883 then (spec_SetPut.l0 kj6 l0 (x5_1 ++ [(⟨(rd_T38 l0 x7_1).f0, (rd_T38 l0 x7_1).f1, (rd_T38 l0 x7_1).f2, (rd_T38 l0 x7_1).f3, (rd_T38 l0 x7_1).f4⟩ : S38)]) x6_1 (wrap64 (x7_1 + 1)) a1_0 a1_1 a1_2 a1_3 a1_4) else (none)) = some r := by rw [if_neg (show ¬ (false = true) by decide)] at H; exact H
          clear H
          have H := H1
          clear H1
          by_cases c36 : x5_1.length < 3518437208883
          ·rw [if_pos c36] at H
           have LMc36 := aA.mk c36
           clear c36
           obtain ⟨y172, hy172⟩ : ∃ y_ : List (S38), y_ = (x5_1 ++ [(⟨(rd_T38 l0 x7_1).f0, (rd_T38 l0 x7_1).f1, (rd_T38 l0 x7_1).f2, (rd_T38 l0 x7_1).f3, (rd_T38 l0 x7_1).f4⟩ : S38)]) := ⟨_, rfl⟩
           replace H : (spec_SetPut.l0 kj6 l0 y172 x6_1 (wrap64 (x7_1 + 1)) a1_0 a1_1 a1_2 a1_3 a1_4) = some r := by first | (rw [hy172]; with_reducible exact H) | (have H2_ := (Option.bind_some _ _).symm.trans H; rw [hy172]; with_reducible exact H2_) | (have H2_ := (Option.bind_some _ _).symm.trans H; with_reducible exact H2_) | with_reducible exact H | (rw [hy172]; exact H) | exact H
           have Ny172 := aA.mk hy172
           clear hy172
           have H' := aA.mk H
           clear H
           try go_wp2
           have n0_ := aA.mk (Kd.bA HO_5.out)
           have n1_ := aA.mk (aQ BK151.out)
           have n2_ := aA.mk (aG HB.out)
           clear HO_5
           clear BK151
           clear HB
           have HO_5 := n0_
           have BK151 := n1_
           have HB := n2_
           clear n0_ n1_ n2_
           have p169 : 0 ≤ (x7_1 : Int) := lE (by first | (with_reducible assumption) | assumption)
           have q169 : x7_1 < (l0.length : Int) := lE (by first | (with_reducible assumption) | assumption)
           obtain ⟨ad169, e169, hx169_0, hx169_1, hx169_2, hx169_3, hx169_4⟩ := at_T38 HR0.out x7_1 p169 q169
           have hw169_4 := hx169_4
           have hw169_3 := hx169_3
           have hw169_2 := hx169_2
           have hw169_1 := hx169_1
           have hw169_0 := hx169_0
           cases e169
           replace hx169_0 := (HB.out.cell (lD w _ hx169_0)).trans hx169_0
           replace hx169_1 := (HB.out.cell (lD w _ hx169_1)).trans hx169_1
           replace hx169_2 := (HB.out.cell (lD w _ hx169_2)).trans hx169_2
           replace hx169_3 := (HB.out.cell (lD w _ hx169_3)).trans hx169_3
           replace hx169_4 := (HB.out.cell (lD w _ hx169_4)).trans hx169_4
           replace p169 := eq_true p169
           replace q169 := eq_true q169
           refine start_ (n := 7) (S := fun w' => w'.cell? ⟨gb151, 0, none⟩ = some (.int .i64 a1_0) ∧ w'.cell? ⟨gb151, 1, none⟩ = some (.int .i64 a1_1) ∧ w'.cell? ⟨gb151, 2, none⟩ = some (.int .i64 a1_2) ∧ w'.cell? ⟨gb151, 3, none⟩ = some (.int .i64 a1_3) ∧ w'.cell? ⟨gb151, 4, none⟩ = some (.int .i64 a1_4) ∧ w'.cell? (ad169.add ((x7_1).toNat * 5)) = some (.int .i64 ((rd_T38 l0 x7_1).f0)) ∧ w'.cell? ⟨(ad169.add ((x7_1).toNat * 5)).block, (ad169.add ((x7_1).toNat * 5)).off + 1, none⟩ = some (.int .i64 ((rd_T38 l0 x7_1).f1)) ∧ w'.cell? ⟨(ad169.add ((x7_1).toNat * 5)).block, (ad169.add ((x7_1).toNat * 5)).off + 2, none⟩ = some (.int .i64 ((rd_T38 l0 x7_1).f2)) ∧ w'.cell? ⟨(ad169.add ((x7_1).toNat * 5)).block, (ad169.add ((x7_1).toNat * 5)).off + 3, none⟩ = some (.int .i64 ((rd_T38 l0 x7_1).f3)) ∧ w'.cell? ⟨(ad169.add ((x7_1).toNat * 5)).block, (ad169.add ((x7_1).toNat * 5)).off + 4, none⟩ = some (.int .i64 ((rd_T38 l0 x7_1).f4))) (ds := []) #[false, false, false, false, false, false, false] (by kernel_rfl) rfl rfl ⟨(aE BK151.out 0).trans rfl, (aE BK151.out 1).trans rfl, (aE BK151.out 2).trans rfl, (aE BK151.out 3).trans rfl, (aE BK151.out 4).trans rfl, ((HB.out.cell (lD w _ hw169_0)).trans hw169_0), ((HB.out.cell (lD w _ hw169_1)).trans hw169_1), ((HB.out.cell (lD w _ hw169_2)).trans hw169_2), ((HB.out.cell (lD w _ hw169_3)).trans hw169_3), ((HB.out.cell (lD w _ hw169_4)).trans hw169_4)⟩ (fun hHeld => ?_)
           generalize wc.drew = w37 at HO_5 BK151 HB hx169_0 hx169_1 hx169_2 hx169_3 hx169_4 hHeld ⊢
           refine bL (i := 0) (N := some 30) (v := ?_) (a' := ?_) #[true, false, false, false, false, false, false] rfl rfl (by kernel_rfl) (fun _ _ _ h => h) (Or.inl ⟨by rfl, ?_⟩) ?_ ?_
           rotate_left
           ·intro w'
            go_simp
            with_reducible rfl
           rotate_left
           ·simp only [Act.put, lA, lB, lC, bD, bC]
            rfl
           refine bL (i := 1) (N := some 31) (v := ?_) (a' := ?_) #[true, true, false, false, false, false, false] rfl rfl (by kernel_rfl) (fun _ _ _ h => h) (Or.inl ⟨by rfl, ?_⟩) ?_ ?_
           rotate_left
           ·intro w'
            go_simp
            with_reducible rfl
           rotate_left
           ·simp only [Act.put, lA, lB, lC, bD, bC]
            rfl
           refine bL (i := 2) (N := some 32) (v := ?_) (a' := ?_) #[true, true, true, false, false, false, false] rfl rfl (by kernel_rfl) (fun _ _ _ h => h) (Or.inl ⟨by rfl, ?_⟩) ?_ ?_
           rotate_left
           ·intro w'
            go_simp
            with_reducible rfl
           rotate_left
           ·simp only [Act.put, lA, lB, lC, bD, bC]
            rfl
           refine take_ (i := 3) (N := some 33) (v := ?_) (a' := ?_) #[true, true, true, true, false, false, false] rfl rfl (by kernel_rfl) (fun _ _ _ h => h) (Or.inl ⟨by rfl, ?_⟩) hHeld ?_ ?_
           rotate_left
           ·rintro w' ⟨s0, s1, s2, s3, s4, s5, s6, s7, s8, s9⟩
            go_simp
            with_reducible rfl
           rotate_left
           ·simp only [Act.put, lA, lB, lC, bD, bC]
            rfl
           refine take_ (i := 4) (N := some 34) (v := ?_) (a' := ?_) #[true, true, true, true, true, false, false] rfl rfl (by kernel_rfl) (fun _ _ _ h => h) (Or.inl ⟨by rfl, ?_⟩) hHeld ?_ ?_
           rotate_left
           ·rintro w' ⟨s0, s1, s2, s3, s4, s5, s6, s7, s8, s9⟩
            go_simp
            with_reducible rfl
           rotate_left
           ·simp only [Act.put, lA, lB, lC, bD, bC]
            rfl
           refine one_ (i := 5) (N := some 35) #[true, true, true, true, true, true, false] rfl rfl (by kernel_rfl) (by decide) (fun K hK => ?_)
           refine goes_ Try.func86 (by kernel_rfl) rfl #[.agg #[.int .i64 ((rd_T38 l0 x7_1).f0), .int .i64 ((rd_T38 l0 x7_1).f1), .int .i64 ((rd_T38 l0 x7_1).f2), .int .i64 ((rd_T38 l0 x7_1).f3), .int .i64 ((rd_T38 l0 x7_1).f4)], .agg #[.int .i64 a1_0, .int .i64 a1_1, .int .i64 a1_2, .int .i64 a1_3, .int .i64 a1_4]] (by rfl) rfl rfl (by (try simp only [List.map_toArray, List.map_cons, List.map_nil]); first | done | rfl | (simp only [List.length_drop, List.length_take]; rfl)) ?_
           with_reducible refine (spec_SameSpot.calls ((rd_T38 l0 x7_1).f0) ((rd_T38 l0 x7_1).f1) ((rd_T38 l0 x7_1).f2) ((rd_T38 l0 x7_1).f3) ((rd_T38 l0 x7_1).f4) a1_0 a1_1 a1_2 a1_3 a1_4 false _ A32.out).mono ?_
           rintro e w38 ⟨rfl, hb⟩
           refine ⟨_, rfl, ?_⟩
           have n0_ := aA.mk (Kd.bU (by (with_reducible repeat (first | apply Kd.aY | apply Kd.aZ | apply Kd.bA)); exact HO_5.out) hb)
           have n1_ := aA.mk (aV (g := gb151) (o := .cells #[.int .i64 a1_0, .int .i64 a1_1, .int .i64 a1_2, .int .i64 a1_3, .int .i64 a1_4] 38 (0, 0)) (by (with_reducible repeat (first | refine aN ?_ _ | refine aQ ?_ | refine aM ?_ _)); exact BK151.out) hb)
           have n2_ := aA.mk (aU (by repeat (first | (with_reducible first | exact HB.out | apply aH | apply aC | apply aG | refine aJ ?_ GE151.out) | exact HB.out)) hb)
           clear HO_5
           clear BK151
           clear HB
           have HO_5 := n0_
           have BK151 := n1_
           have HB := n2_
           clear n0_ n1_ n2_
           (try clear hb)
           (try clear hb2)
           (try clear hk)
           (try clear hi)
           refine hK.out _ _ ⟨(aE BK151.out 0).trans rfl, (aE BK151.out 1).trans rfl, (aE BK151.out 2).trans rfl, (aE BK151.out 3).trans rfl, (aE BK151.out 4).trans rfl, ((HB.out.cell (lD w _ hw169_0)).trans hw169_0), ((HB.out.cell (lD w _ hw169_1)).trans hw169_1), ((HB.out.cell (lD w _ hw169_2)).trans hw169_2), ((HB.out.cell (lD w _ hw169_3)).trans hw169_3), ((HB.out.cell (lD w _ hw169_4)).trans hw169_4)⟩ (fun hHeld => ?_)
           clear hK K
           refine norm_ (a' := ?_) ?_ ?_
           rotate_left
           ·show Act.put _ (some 35) _ = _
            simp only [Act.put, lA, lB, lC, bD, bC]
            rfl
           refine bL (i := 6) (N := some 36) (v := ?_) (a' := ?_) #[true, true, true, true, true, true, true] rfl rfl (by kernel_rfl) (fun _ _ _ h => h) (Or.inl ⟨by rfl, ?_⟩) ?_ ?_
           rotate_left
           ·intro w'
            go_simp
            with_reducible rfl
           rotate_left
           ·simp only [Act.put, lA, lB, lC, bD, bC]
            rfl
           refine done_ (by kernel_rfl) ?_
           have p171 : 0 ≤ (x7_1 : Int) := lE (by first | (with_reducible assumption) | assumption)
           have q171 : x7_1 < (l0.length : Int) := lE (by first | (with_reducible assumption) | assumption)
           obtain ⟨ad171, e171, hx171_0, hx171_1, hx171_2, hx171_3, hx171_4⟩ := at_T38 HR0.out x7_1 p171 q171
           obtain rfl : ad169 = ad171 := (by injection e171)
           replace hx171_0 := (HB.out.cell (lD w _ hx171_0)).trans hx171_0
           replace hx171_1 := (HB.out.cell (lD w _ hx171_1)).trans hx171_1
           replace hx171_2 := (HB.out.cell (lD w _ hx171_2)).trans hx171_2
           replace hx171_3 := (HB.out.cell (lD w _ hx171_3)).trans hx171_3
           replace hx171_4 := (HB.out.cell (lD w _ hx171_4)).trans hx171_4
           replace p171 := eq_true p171
           replace q171 := eq_true q171
           try go_wp2_with (first | ((with_reducible refine gate_builtin (b := .append) (xs := #[.tmp 37, .tmp 42]) rfl ?_); at_builtin; refine Kd.R_append k38 (w0 := w) w.heap.size rfl (.tmp 37) (.tmp 42) 45 38 (.agg #[(.int .i64 0), (.int .i64 0), (.int .i64 0), (.int .i64 0), (.int .i64 0)]) 40 rfl Try.underlying45 info38 rfl (by decide) (by omega) u5 x5_1 (⟨(rd_T38 l0 x7_1).f0, (rd_T38 l0 x7_1).f1, (rd_T38 l0 x7_1).f2, (rd_T38 l0 x7_1).f3, (rd_T38 l0 x7_1).f4⟩ : S38) [.int .i64 ((rd_T38 l0 x7_1).f0), .int .i64 ((rd_T38 l0 x7_1).f1), .int .i64 ((rd_T38 l0 x7_1).f2), .int .i64 ((rd_T38 l0 x7_1).f3), .int .i64 ((rd_T38 l0 x7_1).f4)] (fun k_ => k_ ≠ gb151) (fun _ => False) rfl rfl ?aP (fun _ hk => hk.elim) ?aF ?aO ?aB ?aS ?aL ?_; (case aP => exact k38_mkM _ _ _ (⟨(rd_T38 l0 x7_1).f0, (rd_T38 l0 x7_1).f1, (rd_T38 l0 x7_1).f2, (rd_T38 l0 x7_1).f3, (rd_T38 l0 x7_1).f4⟩ : S38)); (case aB => exact (by repeat (first | (with_reducible first | exact HB.out | apply aH | apply aC | apply aG | refine aJ ?_ GE151.out) | exact HB.out))); (case aF => exact (fun k_ hk => Kd.freshB (g := gb151) (o := .cells #[.int .i64 a1_0, .int .i64 a1_1, .int .i64 a1_2, .int .i64 a1_3, .int .i64 a1_4] 38 (0, 0)) (by (with_reducible repeat (first | refine aN ?_ _ | refine aQ ?_ | refine aM ?_ _)); exact BK151.out) k_ hk)); (case aO => exact (by (with_reducible repeat (first | apply Kd.aY | apply Kd.aZ | apply Kd.bA)); exact HO_5.out)); (case aS => exact (aT (by repeat (first | (with_reducible first | exact HB.out | apply aH | apply aC | apply aG | refine aJ ?_ GE151.out) | exact HB.out)))); (case aL => have := LMc36.out; omega); intro v173 w39 ho hb hg hat; rw [← Ny172.out] at ho; have n0_ := aA.mk (blk_grown (g := gb151) (o := .cells #[.int .i64 a1_0, .int .i64 a1_1, .int .i64 a1_2, .int .i64 a1_3, .int .i64 a1_4] 38 (0, 0)) (by (with_reducible repeat (first | refine aN ?_ _ | refine aQ ?_ | refine aM ?_ _)); exact BK151.out) hg (Kd.R_away HO_5.out (fun _ hk => hk))); have n1_ := aA.mk (hb); have n2_ := aA.mk (ho); clear BK151; clear HB; clear HO_5; have BK151 := n0_; have HB := n1_; have HO174 := n2_; clear n0_ n1_ n2_; clear ho hb hg hat))
           go_roundg kj6
           case measure => have := HK1.out; have := HJ6.out; omega
           case rel => exact ⟨(y172), (x6_1), (wrap64 (x7_1 + 1)), (by first | rfl | (simp; done) | (simp [*]; done)), (by first | rfl | (simp; done) | (simp [*]; done)), H', ⟨by have := HK1.out; have := HJ6.out; omega⟩, ⟨by (with_reducible repeat (first | apply Kd.aY | apply Kd.aZ | apply Kd.bA)); exact HO174.out⟩, ⟨by (with_reducible repeat (first | refine aN ?_ _ | refine aQ ?_ | refine aM ?_ _)); exact BK151.out⟩, ⟨by repeat (first | (with_reducible first | exact HB.out | apply aH | apply aC | apply aG | refine aJ ?_ GE151.out) | exact HB.out)⟩⟩
          ·rw [if_neg c36] at H
           exact absurd H (by simp)
        ·rw [if_neg c31] at H
         exact absurd H (by simp)
       ·rw [if_neg c30] at H
        exact absurd H (by simp)
   ·rw [if_neg c6] at H
    have c6b0 : decide (x7_1 < (l0.length : Int)) = false := decide_eq_false c6
    clear c6
    by_cases c40 : x6_1 = true
    ·subst c40
     have H1 : (some x5_1) = some r := by rw [if_pos rfl] at H; exact H
     clear H
     have H := H1
     clear H1
     obtain rfl := Option.some.inj H
     go_wp2
     go_ret
     exact ⟨_, by first | rfl | (simp [errW_none, errW_some] <;> rfl) | (simp [*, errW_none, errW_some] <;> rfl), by (with_reducible repeat (first | apply Kd.aY | apply Kd.aZ | apply Kd.bA)); exact Kd.bK HO_5.out (fun _ hk => trivial), by repeat (first | (with_reducible first | exact HB.out | apply aH | apply aC | apply aG | refine aJ ?_ GE151.out) | exact HB.out)⟩
    ·replace c40 := Bool.eq_false_iff.mpr c40
     subst c40
     have H1 : (if x5_1.length < 3518437208883 then (some (x5_1 ++ [(⟨a1_0, a1_1, a1_2, a1_3, a1_4⟩ : S38)])) else (none)) = some r := by rw [if_neg (show ¬ (false = true) by decide)] at H; exact H
     clear H
     have H := H1
     clear H1
     by_cases c41 : x5_1.length < 3518437208883
     ·rw [if_pos c41] at H
      have LMc41 := aA.mk c41
      clear c41
      obtain ⟨y155, hy155⟩ : ∃ y_ : List (S38), y_ = (x5_1 ++ [(⟨a1_0, a1_1, a1_2, a1_3, a1_4⟩ : S38)]) := ⟨_, rfl⟩
      replace H : (some y155) = some r := by first | (rw [hy155]; with_reducible exact H) | (have H2_ := (Option.bind_some _ _).symm.trans H; rw [hy155]; with_reducible exact H2_) | (have H2_ := (Option.bind_some _ _).symm.trans H; with_reducible exact H2_) | with_reducible exact H | (rw [hy155]; exact H) | exact H
      have Ny155 := aA.mk hy155
      clear hy155
      obtain rfl := Option.some.inj H
      have hcz42_0 : wr.cell? ⟨gb151, 0, none⟩ = some (.int .i64 a1_0) := (aE BK151.out 0).trans rfl
      have hcz42_1 : wr.cell? ⟨gb151, 1, none⟩ = some (.int .i64 a1_1) := (aE BK151.out 1).trans rfl
      have hcz42_2 : wr.cell? ⟨gb151, 2, none⟩ = some (.int .i64 a1_2) := (aE BK151.out 2).trans rfl
      have hcz42_3 : wr.cell? ⟨gb151, 3, none⟩ = some (.int .i64 a1_3) := (aE BK151.out 3).trans rfl
      have hcz42_4 : wr.cell? ⟨gb151, 4, none⟩ = some (.int .i64 a1_4) := (aE BK151.out 4).trans rfl
      have hfz42_0 := aD BK151.out 0
      have hfz42_1 := aD BK151.out 1
      have hfz42_2 := aD BK151.out 2
      have hfz42_3 := aD BK151.out 3
      have hfz42_4 := aD BK151.out 4
      go_wp2_with (first | ((with_reducible refine gate_builtin (b := .append) (xs := #[.tmp 46, .tmp 48]) rfl ?_); at_builtin; refine Kd.R_append k38 (w0 := w) w.heap.size rfl (.tmp 46) (.tmp 48) 45 38 (.agg #[(.int .i64 0), (.int .i64 0), (.int .i64 0), (.int .i64 0), (.int .i64 0)]) 40 rfl Try.underlying45 info38 rfl (by decide) (by omega) u5 x5_1 (⟨a1_0, a1_1, a1_2, a1_3, a1_4⟩ : S38) [.int .i64 a1_0, .int .i64 a1_1, .int .i64 a1_2, .int .i64 a1_3, .int .i64 a1_4] (fun k_ => k_ ≠ gb151) (fun _ => False) rfl rfl ?aP (fun _ hk => hk.elim) ?aF ?aO ?aB ?aS ?aL ?_; (case aP => exact k38_mkM _ _ _ (⟨a1_0, a1_1, a1_2, a1_3, a1_4⟩ : S38)); (case aB => exact (by repeat (first | (with_reducible first | exact HB.out | apply aH | apply aC | apply aG | refine aJ ?_ GE151.out) | exact HB.out))); (case aF => exact (fun k_ hk => Kd.freshB (g := gb151) (o := .cells #[.int .i64 a1_0, .int .i64 a1_1, .int .i64 a1_2, .int .i64 a1_3, .int .i64 a1_4] 38 (0, 0)) (by (with_reducible repeat (first | refine aN ?_ _ | refine aQ ?_ | refine aM ?_ _)); exact BK151.out) k_ hk)); (case aO => exact (by (with_reducible repeat (first | apply Kd.aY | apply Kd.aZ | apply Kd.bA)); exact HO_5.out)); (case aS => exact (aT (by repeat (first | (with_reducible first | exact HB.out | apply aH | apply aC | apply aG | refine aJ ?_ GE151.out) | exact HB.out)))); (case aL => have := LMc41.out; omega); intro v156 w43 ho hb hg hat; rw [← Ny155.out] at ho; have n0_ := aA.mk (blk_grown (g := gb151) (o := .cells #[.int .i64 a1_0, .int .i64 a1_1, .int .i64 a1_2, .int .i64 a1_3, .int .i64 a1_4] 38 (0, 0)) (by (with_reducible repeat (first | refine aN ?_ _ | refine aQ ?_ | refine aM ?_ _)); exact BK151.out) hg (Kd.R_away HO_5.out (fun _ hk => hk))); have n1_ := aA.mk (hb); have n2_ := aA.mk (ho); clear BK151; clear HB; clear HO_5; have BK151 := n0_; have HB := n1_; have HO157 := n2_; clear n0_ n1_ n2_; clear ho hb hg hat))
      go_ret
      exact ⟨_, by first | rfl | (simp [errW_none, errW_some] <;> rfl) | (simp [*, errW_none, errW_some] <;> rfl), by (with_reducible repeat (first | apply Kd.aY | apply Kd.aZ | apply Kd.bA)); exact Kd.bK HO157.out (fun _ hk => trivial), by repeat (first | (with_reducible first | exact HB.out | apply aH | apply aC | apply aG | refine aJ ?_ GE151.out) | exact HB.out)⟩
     ·rw [if_neg c41] at H
      exact absurd H (by simp)
end Go.Proofs.Ytamjbjkbineafaa.PFnExactTreePack
