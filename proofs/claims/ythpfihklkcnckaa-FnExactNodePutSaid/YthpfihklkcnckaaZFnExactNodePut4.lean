/- The law: the functions that it reaches, each with the proof that the machine's call comes to its answer, what they answer, and the law's row; each theorem says its conditions itself. -/
import Derived.Test.YthpfihklkcnckaaZFnExactNodePut3
import Derived.IntWalk
import Derived.Laws.BitsLemmas
namespace Go.Proofs.Ythpfihklkcnckaa.PFnExactNodePut
open Go.RowKit Go.Proofs.YthpfihklkcnckaaW.PrintWords Go.Proofs.YthpfihklkcnckaaW.PrintLast Go.Proofs.YthpfihklkcnckaaW.PrintMore
attribute [local go_sem] max2_int min2_int max_two min_two max_three min_three max_four min_four   -- for this text's walks alone
set_option linter.unusedVariables false
set_option linter.unusedSimpArgs false
mutual
def impl_NodePut.j0 : Nat → Int → Bool → List (List (S27)) → Int → Int → Int → Int → Int → List (List (S27)) → Option ((List (List (S27))) × Bool)
 | 0, _, _, _, _, _, _, _, _, _ => none
 | k + 1, x7, x8, x405000, x406000, x406001, x406002, x406003, x406004, x411000 => if x8 = true then (if 0 ≤ x7 then (if x7 < (x405000.length : Int) then ((impl_SetPut.f k (rd_L4 x405000 x7) x406000 x406001 x406002 x406003 x406004).bind fun t421 => (if x7 < (x411000.length : Int) then (impl_NodePut.j1 k x405000 x406000 x406001 x406002 x406003 x406004 (x411000.set (x7 : Int).toNat t421)) else (none))) else (none)) else (none)) else (if x411000.length < 5864062014805 then (impl_NodePut.j1 k x405000 x406000 x406001 x406002 x406003 x406004 (x411000 ++ [(([(⟨x406000, x406001, x406002, x406003, x406004⟩ : S27)] : List (S27)))])) else (none))
def impl_NodePut.j1 : Nat → List (List (S27)) → Int → Int → Int → Int → Int → List (List (S27)) → Option ((List (List (S27))) × Bool)
 | 0, _, _, _, _, _, _, _ => none
 | k + 1, x405000, x406000, x406001, x406002, x406003, x406004, x411000 => (impl_NodeOk.f k x411000).bind fun t431 => (if t431 = true then (some (x411000, true)) else ((impl_keysWith.f k x405000 x406000 x406001 x406002 x406003 x406004).bind fun t432 => ((impl_NodeNew.f t432).bind fun t435 => (if (t432.length : Int) > 8 then ((impl_copyNode.f k x405000).bind fun t439 => (some (t439, false))) else ((impl_NodeOk.f k t435).bind fun t442 => (if t442 = true then (some (t435, true)) else ((impl_copyNode.f k x405000).bind fun t443 => (some (t443, false)))))))))
end
def impl_NodePut.f (k : Nat) (l0_0 : List (List (S27))) (a1_0 : Int) (a1_1 : Int) (a1_2 : Int) (a1_3 : Int) (a1_4 : Int) : Option ((List (List (S27))) × Bool) := (impl_copyNode.f k l0_0).bind fun t407 => (if (wrap64 ((l0_0.length : Int) - 1)) ≥ 0 then (if 0 ≤ (wrap64 ((l0_0.length : Int) - 1)) then (if (wrap64 ((l0_0.length : Int) - 1)) < (l0_0.length : Int) then ((impl_SetAt.f k (rd_L4 l0_0 (wrap64 ((l0_0.length : Int) - 1))) a1_0 a1_1).bind fun bt412 => (if bt412.2.2.2.2.2 = true then (impl_NodePut.j0 k (wrap64 ((l0_0.length : Int) - 1)) true l0_0 a1_0 a1_1 a1_2 a1_3 a1_4 t407) else (impl_NodePut.j0 k (wrap64 ((l0_0.length : Int) - 1)) (decide (((rd_L4 l0_0 (wrap64 ((l0_0.length : Int) - 1))).length : Int) < 4)) l0_0 a1_0 a1_1 a1_2 a1_3 a1_4 t407))) else (none)) else (none)) else (impl_NodePut.j0 k (wrap64 ((l0_0.length : Int) - 1)) false l0_0 a1_0 a1_1 a1_2 a1_3 a1_4 t407))
def impl_NodePut.T5 : Bool × List (List Nat × List Nat) := (true, [([], []), ([0], [0]), ([], []), ([1, 2], [1, 2]), ([3], [3]), ([], []), ([5], [5]), ([], []), ([7], [7]), ([4, 6, 8], [4, 6, 8]), ([9], [9]), ([10], [10]), ([10], [10]), ([], []), ([13, 11, 9, 0, 1, 2, 3, 4, 5, 6, 7, 8, 9, 10, 11, 13], [11, 13]), ([12, 14, 0, 1, 2, 3, 4, 5, 6, 7, 8, 9, 10, 11, 12, 13, 14], [12])])
def impl_NodePut.B5 : List Nat := [0, 1, 0, 7, 15, 0, 32, 0, 128, 511, 1023, 2047, 2047, 0, 12287, 32767]
theorem impl_NodePut.tab5 : rtab .any (opsOf Try.f37 5) = impl_NodePut.T5 := by kernel_rfl
theorem impl_NodePut.bits5 : waitsOk impl_NodePut.T5.2 impl_NodePut.B5 = true := by kernel_rfl
def impl_NodePut.T8 : Bool × List (List Nat × List Nat) := (true, [([], []), ([0], [0]), ([], []), ([], []), ([3], [3]), ([], []), ([4, 5], [4, 5]), ([6], [6]), ([], []), ([7, 8], [7, 8]), ([1, 2, 0, 1, 2, 3, 4, 5, 6, 7, 8, 9], [1, 2]), ([10, 9, 9, 0, 1, 2, 3, 4, 5, 6, 7, 8, 9], [9, 10])])
def impl_NodePut.B8 : List Nat := [0, 1, 0, 0, 8, 0, 56, 120, 0, 504, 1023, 2047]
theorem impl_NodePut.tab8 : rtab .any (opsOf Try.f37 8) = impl_NodePut.T8 := by kernel_rfl
theorem impl_NodePut.bits8 : waitsOk impl_NodePut.T8.2 impl_NodePut.B8 = true := by kernel_rfl
set_option maxHeartbeats 8000000 in
set_option maxRecDepth 100000 in
theorem impl_NodePut.calls (k : Nat) (A0_0 : Option Addr) (c0_0 : Nat) (l0_0 : List (List (S27))) (a1_0 : Int) (a1_1 : Int) (a1_2 : Int) (a1_3 : Int) (a1_4 : Int) (r1 : List (List (S27))) (r2 : Bool) (w : World) (hr0_0 : Kd.C (Kd.slice 27 k27) w A0_0 l0_0.length l0_0) (hc0_0 : l0_0.length ≤ c0_0) (h : impl_NodePut.f k l0_0 a1_0 a1_1 a1_2 a1_3 a1_4 = some (r1, r2)) :
  Calls Try.prog 37 #[.agg #[.slice A0_0 l0_0.length c0_0], .agg #[.int .i64 a1_0, .int .i64 a1_1, .int .i64 a1_2, .int .i64 a1_3, .int .i64 a1_4]] w fun e w' => ∃ v0_ : Value, e = .returned (.tuple #[.agg #[v0_], .bool r2]) ∧ Kd.S (Kd.slice 27 k27) 40 w' w.heap.size (fun k_ => (w.heap.size ≤ k_)) v0_ r1 ∧ Below w.heap.size w w' := by
 have hu32 := Try.underlying32
 have hu27 := Try.underlying27
 have HR0_0 := aA.mk hr0_0
 have HC0_0 := aA.mk hc0_0
 clear hr0_0 hc0_0
 have HB := aA.mk (Below.refl w.heap.size w)
 have H : ((impl_copyNode.f k l0_0).bind fun t407 => (if (wrap64 ((l0_0.length : Int) - 1)) ≥ 0 then (if 0 ≤ (wrap64 ((l0_0.length : Int) - 1)) then (if (wrap64 ((l0_0.length : Int) - 1)) < (l0_0.length : Int) then ((impl_SetAt.f k (rd_L4 l0_0 (wrap64 ((l0_0.length : Int) - 1))) a1_0 a1_1).bind fun bt412 => (if bt412.2.2.2.2.2 = true then (impl_NodePut.j0 k (wrap64 ((l0_0.length : Int) - 1)) true l0_0 a1_0 a1_1 a1_2 a1_3 a1_4 t407) else (impl_NodePut.j0 k (wrap64 ((l0_0.length : Int) - 1)) (decide (((rd_L4 l0_0 (wrap64 ((l0_0.length : Int) - 1))).length : Int) < 4)) l0_0 a1_0 a1_1 a1_2 a1_3 a1_4 t407))) else (none)) else (none)) else (impl_NodePut.j0 k (wrap64 ((l0_0.length : Int) - 1)) false l0_0 a1_0 a1_1 a1_2 a1_3 a1_4 t407))) = some (r1, r2) := h
 clear h
 replace H := lF H
 obtain ⟨t407, A30, H⟩ := H
 replace H : (if (wrap64 ((l0_0.length : Int) - 1)) ≥ 0 then (if 0 ≤ (wrap64 ((l0_0.length : Int) - 1)) then (if (wrap64 ((l0_0.length : Int) - 1)) < (l0_0.length : Int) then ((impl_SetAt.f k (rd_L4 l0_0 (wrap64 ((l0_0.length : Int) - 1))) a1_0 a1_1).bind fun bt412 => (if bt412.2.2.2.2.2 = true then (impl_NodePut.j0 k (wrap64 ((l0_0.length : Int) - 1)) true l0_0 a1_0 a1_1 a1_2 a1_3 a1_4 t407) else (impl_NodePut.j0 k (wrap64 ((l0_0.length : Int) - 1)) (decide (((rd_L4 l0_0 (wrap64 ((l0_0.length : Int) - 1))).length : Int) < 4)) l0_0 a1_0 a1_1 a1_2 a1_3 a1_4 t407))) else (none)) else (none)) else (impl_NodePut.j0 k (wrap64 ((l0_0.length : Int) - 1)) false l0_0 a1_0 a1_1 a1_2 a1_3 a1_4 t407)) = some (r1, r2) := H
 have A3 := aA.mk A30
 clear A30
 have HC4 := aA.mk H
 clear H
 go_enter Try.func37, Try.ntmps37
 go_upto_if 20 with (first | ((with_reducible refine bA (N := 2) rfl ?_); (try (refine gate_guard (by rfl) ?_; dsimp only)); refine bC ?hg (N := 2) ?hd (cs := #[.slice A0_0 l0_0.length c0_0]) (t := 32) ?hr ?_; (case hd => rfl); (case hg => rfl); (case hr => first | (go_simp; done) | (go_simp; rfl)); intro gb404 hg w5 hbox hb; have BK404 := aA.mk (hbox); have GW404 := aA.mk ((by rw [hg]; exact (aQ (by repeat (first | (with_reducible first | exact HB.out | apply aN | apply aE | apply aH) | exact HB.out))) : w.heap.size ≤ gb404)); have GE404 := aA.mk ((by rw [hg]; exact (aQ (by repeat (first | (with_reducible first | exact HB.out | apply aN | apply aE | apply aH) | exact HB.out))) : w.heap.size ≤ gb404)); replace HB := aA.mk (aT (by repeat (first | (with_reducible first | exact HB.out | apply aN | apply aE | apply aH) | exact HB.out)) hb); clear hb hbox hg) | ((with_reducible refine bA (N := 3) rfl ?_); (try (refine gate_guard (by rfl) ?_; dsimp only)); refine bC ?hg (N := 3) ?hd (cs := #[.int .i64 a1_0, .int .i64 a1_1, .int .i64 a1_2, .int .i64 a1_3, .int .i64 a1_4]) (t := 27) ?hr ?_; (case hd => rfl); (case hg => rfl); (case hr => first | (go_simp; done) | (go_simp; rfl)); intro gb405 hg w6 hbox hb; have BK405 := aA.mk (hbox); have GW405 := aA.mk ((by rw [hg]; exact (aQ (by repeat (first | (with_reducible first | exact HB.out | apply aN | apply aE | apply aH | refine aC ?_ GE404.out) | exact HB.out))) : w.heap.size ≤ gb405)); have GE405 := aA.mk ((by rw [hg]; exact (aQ (by repeat (first | (with_reducible first | exact HB.out | apply aN | apply aE | apply aH | refine aC ?_ GE404.out) | exact HB.out))) : w.heap.size ≤ gb405)); replace HB := aA.mk (aT (by repeat (first | (with_reducible first | exact HB.out | apply aN | apply aE | apply aH | refine aC ?_ GE404.out) | exact HB.out)) hb); have NB404_405 := aA.mk ((by rw [hg]; exact Nat.ne_of_lt (aY (g := gb404) (o := .cells #[.slice A0_0 l0_0.length c0_0] 32 (0, 0)) BK404.out) : gb404 ≠ gb405)); have NB405_404 := aA.mk ((by rw [hg]; exact Nat.ne_of_gt (aY (g := gb404) (o := .cells #[.slice A0_0 l0_0.length c0_0] 32 (0, 0)) BK404.out) : gb405 ≠ gb404)); replace BK404 := aA.mk (aG (g := gb404) (o := .cells #[.slice A0_0 l0_0.length c0_0] 32 (0, 0)) BK404.out hb); clear hb hbox hg) | ((with_reducible refine bA (N := 4) rfl ?_); (try (refine gate_guard (by rfl) ?_; dsimp only)); refine bC ?hg (N := 4) ?hd (cs := #[.slice none 0 0]) (t := 32) ?hr ?_; (case hd => rfl); (case hg => rfl); (case hr => first | (go_simp; done) | (go_simp; rfl)); intro gb406 hg w7 hbox hb; have BK406 := aA.mk (hbox); have GW406 := aA.mk ((by rw [hg]; exact (aQ (by repeat (first | (with_reducible first | exact HB.out | apply aN | apply aE | apply aH | refine aC ?_ GE404.out | refine aC ?_ GE405.out) | exact HB.out))) : w.heap.size ≤ gb406)); have GE406 := aA.mk ((by rw [hg]; exact (aQ (by repeat (first | (with_reducible first | exact HB.out | apply aN | apply aE | apply aH | refine aC ?_ GE404.out | refine aC ?_ GE405.out) | exact HB.out))) : w.heap.size ≤ gb406)); replace HB := aA.mk (aT (by repeat (first | (with_reducible first | exact HB.out | apply aN | apply aE | apply aH | refine aC ?_ GE404.out | refine aC ?_ GE405.out) | exact HB.out)) hb); have NB404_406 := aA.mk ((by rw [hg]; exact Nat.ne_of_lt (aY (g := gb404) (o := .cells #[.slice A0_0 l0_0.length c0_0] 32 (0, 0)) BK404.out) : gb404 ≠ gb406)); have NB406_404 := aA.mk ((by rw [hg]; exact Nat.ne_of_gt (aY (g := gb404) (o := .cells #[.slice A0_0 l0_0.length c0_0] 32 (0, 0)) BK404.out) : gb406 ≠ gb404)); replace BK404 := aA.mk (aG (g := gb404) (o := .cells #[.slice A0_0 l0_0.length c0_0] 32 (0, 0)) BK404.out hb); have NB405_406 := aA.mk ((by rw [hg]; exact Nat.ne_of_lt (aY (g := gb405) (o := .cells #[.int .i64 a1_0, .int .i64 a1_1, .int .i64 a1_2, .int .i64 a1_3, .int .i64 a1_4] 27 (0, 0)) BK405.out) : gb405 ≠ gb406)); have NB406_405 := aA.mk ((by rw [hg]; exact Nat.ne_of_gt (aY (g := gb405) (o := .cells #[.int .i64 a1_0, .int .i64 a1_1, .int .i64 a1_2, .int .i64 a1_3, .int .i64 a1_4] 27 (0, 0)) BK405.out) : gb406 ≠ gb405)); replace BK405 := aA.mk (aG (g := gb405) (o := .cells #[.int .i64 a1_0, .int .i64 a1_1, .int .i64 a1_2, .int .i64 a1_3, .int .i64 a1_4] 27 (0, 0)) BK405.out hb); clear hb hbox hg; have hnb8 := NB404_405.out; have hnc8 := NB405_404.out; have hnb9 := NB404_406.out; have hnc9 := NB406_404.out; have hcz10_0 := cs1 BK404.out; have hfz10_0 := fs1 BK404.out) | ((with_reducible refine bD (f := 70) rfl ?_); refine bL (some 14) rfl rfl Try.func70 (by kernel_rfl) rfl #[.agg #[.slice A0_0 l0_0.length c0_0]] rfl (by (try simp only [List.map_toArray, List.map_cons, List.map_nil]); first | done | rfl) ?_; (with_reducible refine (impl_copyNode.calls k _ _ l0_0 t407 _ ?side1 ?side2 A3.out).mono ?_); (case side1 => exact (Kd.bN HR0_0.out HB.out)); (case side2 => exact HC0_0.out); rintro e w11 ⟨v408, rfl, ho0, hb⟩; refine ⟨_, rfl, ?_⟩; have HO409 := aA.mk (Kd.S_lower (Kd.bP (ok' := fun k_ => (w.heap.size ≤ k_) ∧ k_ ≠ gb404 ∧ k_ ≠ gb405 ∧ k_ ≠ gb406) (id (Kd.S_bound ho0)) (fun k_ hk_ => ⟨(Nat.le_trans (aQ (by repeat (first | (with_reducible first | exact HB.out | apply aN | apply aE | apply aH | refine aC ?_ GE404.out | refine aC ?_ GE405.out | refine aC ?_ GE406.out) | exact HB.out))) hk_.2.1), (Kd.freshB (g := gb404) (o := .cells #[.slice A0_0 l0_0.length c0_0] 32 (0, 0)) BK404.out k_ hk_.2.1), (Kd.freshB (g := gb405) (o := .cells #[.int .i64 a1_0, .int .i64 a1_1, .int .i64 a1_2, .int .i64 a1_3, .int .i64 a1_4] 27 (0, 0)) BK405.out k_ hk_.2.1), (Kd.freshB (g := gb406) (o := .cells #[.slice none 0 0] 32 (0, 0)) BK406.out k_ hk_.2.1)⟩)) (aQ (by repeat (first | (with_reducible first | exact HB.out | apply aN | apply aE | apply aH | refine aC ?_ GE404.out | refine aC ?_ GE405.out | refine aC ?_ GE406.out) | exact HB.out)))); replace BK404 := aA.mk (aG (g := gb404) (o := .cells #[.slice A0_0 l0_0.length c0_0] 32 (0, 0)) BK404.out hb); replace BK405 := aA.mk (aG (g := gb405) (o := .cells #[.int .i64 a1_0, .int .i64 a1_1, .int .i64 a1_2, .int .i64 a1_3, .int .i64 a1_4] 27 (0, 0)) BK405.out hb); replace BK406 := aA.mk (aG (g := gb406) (o := .cells #[.slice none 0 0] 32 (0, 0)) BK406.out hb); replace HB := aA.mk (aT (by repeat (first | (with_reducible first | exact HB.out | apply aN | apply aE | apply aH | refine aC ?_ GE404.out | refine aC ?_ GE405.out | refine aC ?_ GE406.out) | exact HB.out)) hb); (try clear hb); (try clear ho0)) | ((with_reducible refine bA (N := 6) rfl ?_); (try (refine gate_guard (by rfl) ?_; dsimp only)); refine bC ?hg (N := 6) ?hd (cs := #[.slice none 0 0]) (t := 32) ?hr ?_; (case hd => rfl); (case hg => rfl); (case hr => first | (go_simp; done) | (go_simp; rfl)); intro gb410 hg w12 hbox hb; replace HO409 := aA.mk (Kd.bM (Kd.S_elderB HO409.out gb410 (Nat.le_of_eq hg.symm)) hb); have BK410 := aA.mk (hbox); have GW410 := aA.mk ((by rw [hg]; exact (aQ (by repeat (first | (with_reducible first | exact HB.out | apply aN | apply aE | apply aH | refine aC ?_ GE404.out | refine aC ?_ GE405.out | refine aC ?_ GE406.out) | exact HB.out))) : w.heap.size ≤ gb410)); have GE410 := aA.mk ((by rw [hg]; exact (aQ (by repeat (first | (with_reducible first | exact HB.out | apply aN | apply aE | apply aH | refine aC ?_ GE404.out | refine aC ?_ GE405.out | refine aC ?_ GE406.out) | exact HB.out))) : w.heap.size ≤ gb410)); replace HB := aA.mk (aT (by repeat (first | (with_reducible first | exact HB.out | apply aN | apply aE | apply aH | refine aC ?_ GE404.out | refine aC ?_ GE405.out | refine aC ?_ GE406.out) | exact HB.out)) hb); have NB404_410 := aA.mk ((by rw [hg]; exact Nat.ne_of_lt (aY (g := gb404) (o := .cells #[.slice A0_0 l0_0.length c0_0] 32 (0, 0)) BK404.out) : gb404 ≠ gb410)); have NB410_404 := aA.mk ((by rw [hg]; exact Nat.ne_of_gt (aY (g := gb404) (o := .cells #[.slice A0_0 l0_0.length c0_0] 32 (0, 0)) BK404.out) : gb410 ≠ gb404)); replace BK404 := aA.mk (aG (g := gb404) (o := .cells #[.slice A0_0 l0_0.length c0_0] 32 (0, 0)) BK404.out hb); have NB405_410 := aA.mk ((by rw [hg]; exact Nat.ne_of_lt (aY (g := gb405) (o := .cells #[.int .i64 a1_0, .int .i64 a1_1, .int .i64 a1_2, .int .i64 a1_3, .int .i64 a1_4] 27 (0, 0)) BK405.out) : gb405 ≠ gb410)); have NB410_405 := aA.mk ((by rw [hg]; exact Nat.ne_of_gt (aY (g := gb405) (o := .cells #[.int .i64 a1_0, .int .i64 a1_1, .int .i64 a1_2, .int .i64 a1_3, .int .i64 a1_4] 27 (0, 0)) BK405.out) : gb410 ≠ gb405)); replace BK405 := aA.mk (aG (g := gb405) (o := .cells #[.int .i64 a1_0, .int .i64 a1_1, .int .i64 a1_2, .int .i64 a1_3, .int .i64 a1_4] 27 (0, 0)) BK405.out hb); have NB406_410 := aA.mk ((by rw [hg]; exact Nat.ne_of_lt (aY (g := gb406) (o := .cells #[.slice none 0 0] 32 (0, 0)) BK406.out) : gb406 ≠ gb410)); have NB410_406 := aA.mk ((by rw [hg]; exact Nat.ne_of_gt (aY (g := gb406) (o := .cells #[.slice none 0 0] 32 (0, 0)) BK406.out) : gb410 ≠ gb406)); replace BK406 := aA.mk (aG (g := gb406) (o := .cells #[.slice none 0 0] 32 (0, 0)) BK406.out hb); clear hb hbox hg; obtain ⟨Ao13, co13, eo13⟩ := Kd.S_slice HO409.out; subst eo13; have hnb14 := NB410_404.out; have hnc14 := NB404_410.out; have hnb15 := NB410_405.out; have hnc15 := NB405_410.out; have hnb16 := NB410_406.out; have hnc16 := NB406_410.out; have hcz17_0 := cs1 BK410.out; have hfz17_0 := fs1 BK410.out; have hcz18_0 := cs1 BK404.out; have hfz18_0 := fs1 BK404.out))
 (try simp only [Act.put, lA, lB, lC])
 go_cut [8] (fun v8 wc => ∃ (kq : Nat) (x8_3 : Bool), v8 = .bool x8_3 ∧ aA (impl_NodePut.j0 kq (wrap64 ((l0_0.length : Int) - 1)) x8_3 l0_0 a1_0 a1_1 a1_2 a1_3 a1_4 t407 = some (r1, r2)) ∧ aA (kq ≤ k) ∧ aA (Kd.S (Kd.slice 27 k27) 40 wc w.heap.size (fun k_ => (w.heap.size ≤ k_) ∧ k_ ≠ gb404 ∧ k_ ≠ gb405 ∧ k_ ≠ gb406 ∧ k_ ≠ gb410) (.slice Ao13 t407.length co13) t407) ∧ aA (wc.heap[gb404]? = some (.cells #[(.slice A0_0 l0_0.length c0_0)] 32 (0, 0))) ∧ aA (wc.heap[gb405]? = some (.cells #[.int .i64 a1_0, .int .i64 a1_1, .int .i64 a1_2, .int .i64 a1_3, .int .i64 a1_4] 27 (0, 0))) ∧ aA (wc.heap[gb406]? = some (.cells #[(.slice none 0 0)] 32 (0, 0))) ∧ aA (wc.heap[gb410]? = some (.cells #[(.slice Ao13 t407.length co13)] 32 (0, 0))) ∧ aA (Below w.heap.size w wc))
 case first =>
  have H := HC4.out
  clear HC4
  by_cases c19 : (wrap64 ((l0_0.length : Int) - 1)) ≥ 0
  ·rw [if_pos c19] at H
   have c19b0 : decide (0 ≤ (wrap64 ((l0_0.length : Int) - 1))) = true := decide_eq_true c19
   clear c19
   (first | rw [c19b0] | (simp only [aU, aV]; rw [c19b0]) | skip)
   obtain ⟨ji20, hji20⟩ : ∃ j_ : Int, (wrap64 ((l0_0.length : Int) - 1)) = j_ := ⟨_, rfl⟩
   replace H : (if 0 ≤ (ji20) then (if (ji20) < (l0_0.length : Int) then ((impl_SetAt.f k (rd_L4 l0_0 (ji20)) a1_0 a1_1).bind fun bt412 => (if bt412.2.2.2.2.2 = true then (impl_NodePut.j0 k ji20 true l0_0 a1_0 a1_1 a1_2 a1_3 a1_4 t407) else (impl_NodePut.j0 k ji20 (decide (((rd_L4 l0_0 (ji20)).length : Int) < 4)) l0_0 a1_0 a1_1 a1_2 a1_3 a1_4 t407))) else (none)) else (none)) = some (r1, r2) := by first | (rw [hji20] at H; exact H) | (simp only [hji20] at H ⊢; exact H)
   (try rw [hji20] at c19b0)
   have hji20w : (IntKind.i64.wrap ((l0_0.length : Int) - 1)) = ji20 := (aU _).trans hji20
   by_cases c21 : 0 ≤ (ji20)
   ·rw [if_pos c21] at H
    have c21b0 : decide (0 ≤ (ji20)) = true := decide_eq_true c21
    clear c21
    by_cases c22 : (ji20) < (l0_0.length : Int)
    ·rw [if_pos c22] at H
     have c22b0 : decide ((ji20) < (l0_0.length : Int)) = true := decide_eq_true c22
     clear c22
     replace H := lF H
     obtain ⟨⟨t412, t413, t414, t415, t416, t417⟩, A230, H⟩ := H
     replace H : (if t417 = true then (impl_NodePut.j0 k ji20 true l0_0 a1_0 a1_1 a1_2 a1_3 a1_4 t407) else (impl_NodePut.j0 k ji20 (decide (((rd_L4 l0_0 (ji20)).length : Int) < 4)) l0_0 a1_0 a1_1 a1_2 a1_3 a1_4 t407)) = some (r1, r2) := H
     have A23 := aA.mk A230
     clear A230
     by_cases c24 : t417 = true
     ·subst c24
      have H1 : (impl_NodePut.j0 k ji20 true l0_0 a1_0 a1_1 a1_2 a1_3 a1_4 t407) = some (r1, r2) := by rw [if_pos rfl] at H; exact H
      clear H
      have H := H1
      clear H1
      have H' := aA.mk H
      clear H
      try go_wp2
      have n0_ : aA (Kd.S (Kd.slice 27 k27) 40 (w12.setCell ⟨gb410, 0, none⟩ (.slice Ao13 t407.length co13)) w.heap.size (fun k_ => (w.heap.size ≤ k_) ∧ k_ ≠ gb404 ∧ k_ ≠ gb405 ∧ k_ ≠ gb406 ∧ k_ ≠ gb410) (.slice Ao13 t407.length co13) t407) := ⟨by (with_reducible repeat (first | apply Kd.S_alloc | apply Kd.S_drewN | apply Kd.S_drew)); exact Kd.bP (Kd.S_far (p := ⟨gb410, 0, none⟩) (Kd.bP HO409.out (fun k_ hk => (⟨hk, hk.2⟩ : _ ∧ k_ ≠ gb410))) (fun _ hk => hk.2) (.slice Ao13 t407.length co13)) (fun _ hk => ⟨hk.1.1.1, ⟨hk.1.1.2.1, ⟨hk.1.1.2.2.1, ⟨hk.1.1.2.2.2, hk.1.2⟩⟩⟩⟩)⟩
      have n1_ : aA ((w12.setCell ⟨gb410, 0, none⟩ (.slice Ao13 t407.length co13)).heap[gb404]? = some (.cells #[.slice A0_0 l0_0.length c0_0] 32 (0, 0))) := ⟨by (with_reducible repeat (first | refine aM ?_ _ | refine aJ ?_ | refine aK ?_ _)); refine bB ?_ NB404_410.out _; (with_reducible repeat (first | refine aM ?_ _ | refine aJ ?_ | refine aK ?_ _)); exact BK404.out⟩
      have n2_ : aA ((w12.setCell ⟨gb410, 0, none⟩ (.slice Ao13 t407.length co13)).heap[gb405]? = some (.cells #[.int .i64 a1_0, .int .i64 a1_1, .int .i64 a1_2, .int .i64 a1_3, .int .i64 a1_4] 27 (0, 0))) := ⟨by (with_reducible repeat (first | refine aM ?_ _ | refine aJ ?_ | refine aK ?_ _)); refine bB ?_ NB405_410.out _; (with_reducible repeat (first | refine aM ?_ _ | refine aJ ?_ | refine aK ?_ _)); exact BK405.out⟩
      have n3_ : aA ((w12.setCell ⟨gb410, 0, none⟩ (.slice Ao13 t407.length co13)).heap[gb406]? = some (.cells #[.slice none 0 0] 32 (0, 0))) := ⟨by (with_reducible repeat (first | refine aM ?_ _ | refine aJ ?_ | refine aK ?_ _)); refine bB ?_ NB406_410.out _; (with_reducible repeat (first | refine aM ?_ _ | refine aJ ?_ | refine aK ?_ _)); exact BK406.out⟩
      have n4_ : aA ((w12.setCell ⟨gb410, 0, none⟩ (.slice Ao13 t407.length co13)).heap[gb410]? = some (.cells #[.slice Ao13 t407.length co13] 32 (0, 0))) := ⟨by (with_reducible repeat (first | refine aM ?_ _ | refine aJ ?_ | refine aK ?_ _)); refine bE (cs := #[.slice none 0 0]) ?_ 0 _ rfl; (with_reducible repeat (first | refine aM ?_ _ | refine aJ ?_ | refine aK ?_ _)); exact BK410.out⟩
      have n5_ : aA (Below w.heap.size w (w12.setCell ⟨gb410, 0, none⟩ (.slice Ao13 t407.length co13))) := ⟨by repeat (first | (with_reducible first | exact HB.out | apply aN | apply aE | apply aH | refine aC ?_ GE404.out | refine aC ?_ GE405.out | refine aC ?_ GE406.out | refine aC ?_ GE410.out) | exact HB.out)⟩
      (try clear HO409)
      (try clear BK404)
      (try clear BK405)
      (try clear BK406)
      (try clear BK410)
      (try clear HB)
      generalize (w12.setCell ⟨gb410, 0, none⟩ (.slice Ao13 t407.length co13)) = w25 at n0_ n1_ n2_ n3_ n4_ n5_ ⊢
      have HO409 := n0_
      have BK404 := n1_
      have BK405 := n2_
      have BK406 := n3_
      have BK410 := n4_
      have HB := n5_
      clear n0_ n1_ n2_ n3_ n4_ n5_
      replace HO409 := aA.mk (Kd.S_drew HO409.out)
      replace BK404 := aA.mk (aJ BK404.out)
      replace BK405 := aA.mk (aJ BK405.out)
      replace BK406 := aA.mk (aJ BK406.out)
      replace BK410 := aA.mk (aJ BK410.out)
      replace HB := aA.mk (aH HB.out)
      have p411 : 0 ≤ ((ji20) : Int) := lE (by assumption)
      have q411 : (ji20) < (l0_0.length : Int) := lE (by assumption)
      obtain ⟨ad411, A411_0, c411_0, e411, hx411_0, hl411_0, hi411_0⟩ := at_L4 HR0_0.out (ji20) p411 q411
      have hw411_0 := hx411_0
      cases e411
      replace hx411_0 := (HB.out.cell (lD w _ hx411_0)).trans hx411_0
      have HR411_0 := aA.mk hi411_0
      have HC411_0 := aA.mk hl411_0
      clear hi411_0 hl411_0
      replace p411 := eq_true p411
      replace q411 := eq_true q411
      refine start_ (n := 16) (S := fun w' => w'.cell? ⟨gb404, 0, none⟩ = some (.slice (some ad411) l0_0.length c0_0) ∧ w'.cell? ⟨gb405, 0, none⟩ = some (.int .i64 a1_0) ∧ w'.cell? ⟨gb405, 1, none⟩ = some (.int .i64 a1_1) ∧ w'.cell? ⟨gb405, 2, none⟩ = some (.int .i64 a1_2) ∧ w'.cell? ⟨gb405, 3, none⟩ = some (.int .i64 a1_3) ∧ w'.cell? ⟨gb405, 4, none⟩ = some (.int .i64 a1_4) ∧ w'.cell? (ad411.add ((ji20)).toNat) = some (.slice A411_0 (rd_L4 l0_0 (ji20)).length c411_0)) (ds := []) #[false, false, false, false, false, false, false, false, false, false, false, false, false, false, false, false] (by kernel_rfl) rfl rfl ⟨(aD BK404.out 0).trans rfl, (aD BK405.out 0).trans rfl, (aD BK405.out 1).trans rfl, (aD BK405.out 2).trans rfl, (aD BK405.out 3).trans rfl, (aD BK405.out 4).trans rfl, ((HB.out.cell (lD w _ hw411_0)).trans hw411_0)⟩ (fun hHeld => ?_); refine with_tabW impl_NodePut.tab5 impl_NodePut.bits5 (fun HT_ HW_ => ?_)
      generalize w25.drew = w26 at HO409 BK404 BK405 BK406 BK410 HB HR411_0 hx411_0 hHeld ⊢
      refine aW (i := 0) (N := some 22) (v := ?_) (a' := ?_) #[true, false, false, false, false, false, false, false, false, false, false, false, false, false, false, false] rfl rfl (aZ HT_.out (by kernel_rfl)) (fun _ _ _ h => h) (Or.inl ⟨by rfl, ?_⟩) ?_ ?_
      rotate_left
      ·intro w'
       go_simp
       with_reducible rfl
      rotate_left
      ·simp only [Act.put, lA, lB, lC, aU, aV]
       rfl
      refine aW (i := 2) (N := some 24) (v := ?_) (a' := ?_) #[true, false, true, false, false, false, false, false, false, false, false, false, false, false, false, false] rfl rfl (aZ HT_.out (by kernel_rfl)) (fun _ _ _ h => h) (Or.inl ⟨by rfl, ?_⟩) ?_ ?_
      rotate_left
      ·intro w'
       go_simp
       with_reducible rfl
      rotate_left
      ·simp only [Act.put, lA, lB, lC, aU, aV]
       rfl
      refine aW (i := 5) (N := some 27) (v := ?_) (a' := ?_) #[true, false, true, false, false, true, false, false, false, false, false, false, false, false, false, false] rfl rfl (aZ HT_.out (by kernel_rfl)) (fun _ _ _ h => h) (Or.inl ⟨by rfl, ?_⟩) ?_ ?_
      rotate_left
      ·intro w'
       go_simp
       with_reducible rfl
      rotate_left
      ·simp only [Act.put, lA, lB, lC, aU, aV]
       rfl
      refine aW (i := 7) (N := some 29) (v := ?_) (a' := ?_) #[true, false, true, false, false, true, false, true, false, false, false, false, false, false, false, false] rfl rfl (aZ HT_.out (by kernel_rfl)) (fun _ _ _ h => h) (Or.inl ⟨by rfl, ?_⟩) ?_ ?_
      rotate_left
      ·intro w'
       go_simp
       with_reducible rfl
      rotate_left
      ·simp only [Act.put, lA, lB, lC, aU, aV]
       rfl
      refine take_ (i := 1) (N := some 23) (v := ?_) (a' := ?_) #[true, true, true, false, false, true, false, true, false, false, false, false, false, false, false, false] rfl rfl (bV HT_.out HW_.out (by kernel_rfl)) (fun _ _ _ h => h) (Or.inl ⟨by rfl, ?_⟩) hHeld ?_ ?_
      rotate_left
      ·rintro w' ⟨s0, s1, s2, s3, s4, s5, s6⟩
       go_simp
       with_reducible rfl
      rotate_left
      ·simp only [Act.put, lA, lB, lC, aU, aV]
       rfl
      refine aW (i := 3) (N := some 25) (v := ?_) (a' := ?_) #[true, true, true, true, false, true, false, true, false, false, false, false, false, false, false, false] rfl rfl (aZ HT_.out (by kernel_rfl)) (fun _ _ _ h => h) (Or.inl ⟨by rfl, ?_⟩) ?_ ?_
      rotate_left
      ·intro w'
       go_simp
       with_reducible rfl
      rotate_left
      ·simp only [Act.put, lA, lB, lC, aU, aV]
       rfl
      refine take_ (i := 4) (N := some 26) (v := ?_) (a' := ?_) #[true, true, true, true, true, true, false, true, false, false, false, false, false, false, false, false] rfl rfl (bV HT_.out HW_.out (by kernel_rfl)) (fun _ _ _ h => h) (Or.inl ⟨by rfl, ?_⟩) hHeld ?_ ?_
      rotate_left
      ·rintro w' ⟨s0, s1, s2, s3, s4, s5, s6⟩
       go_simp
       with_reducible rfl
      rotate_left
      ·simp only [Act.put, lA, lB, lC, aU, aV]
       rfl
      refine take_ (i := 6) (N := some 28) (v := ?_) (a' := ?_) #[true, true, true, true, true, true, true, true, false, false, false, false, false, false, false, false] rfl rfl (bV HT_.out HW_.out (by kernel_rfl)) (fun _ _ _ h => h) (Or.inl ⟨by rfl, ?_⟩) hHeld ?_ ?_
      rotate_left
      ·rintro w' ⟨s0, s1, s2, s3, s4, s5, s6⟩
       go_simp
       with_reducible rfl
      rotate_left
      ·simp only [Act.put, lA, lB, lC, aU, aV]
       rfl
      refine take_ (i := 8) (N := some 30) (v := ?_) (a' := ?_) #[true, true, true, true, true, true, true, true, true, false, false, false, false, false, false, false] rfl rfl (bV HT_.out HW_.out (by kernel_rfl)) (fun _ _ _ h => h) (Or.inl ⟨by rfl, ?_⟩) hHeld ?_ ?_
      rotate_left
      ·rintro w' ⟨s0, s1, s2, s3, s4, s5, s6⟩
       go_simp
       with_reducible rfl
      rotate_left
      ·simp only [Act.put, lA, lB, lC, aU, aV]
       rfl
      refine join_ (σ := Nat) 2 #[true, true, true, true, true, true, true, true, true, true, true, true, true, true, false, false] (fun s_ => [(31, .tuple #[.agg #[.int .i64 t412, .int .i64 t413, .int .i64 t414, .int .i64 t415, .int .i64 t416], .bool true]), (9, .pointer (some ⟨s_, 0, none⟩)), (21, .tuple #[.agg #[.int .i64 t412, .int .i64 t413, .int .i64 t414, .int .i64 t415, .int .i64 t416], .bool true]), (32, .agg #[.int .i64 t412, .int .i64 t413, .int .i64 t414, .int .i64 t415, .int .i64 t416]), (33, .bool true)]) (fun s_ w' => (w'.cell? ⟨gb404, 0, none⟩ = some (.slice (some ad411) l0_0.length c0_0) ∧ w'.cell? ⟨gb405, 0, none⟩ = some (.int .i64 a1_0) ∧ w'.cell? ⟨gb405, 1, none⟩ = some (.int .i64 a1_1) ∧ w'.cell? ⟨gb405, 2, none⟩ = some (.int .i64 a1_2) ∧ w'.cell? ⟨gb405, 3, none⟩ = some (.int .i64 a1_3) ∧ w'.cell? ⟨gb405, 4, none⟩ = some (.int .i64 a1_4) ∧ w'.cell? (ad411.add ((ji20)).toNat) = some (.slice A411_0 (rd_L4 l0_0 (ji20)).length c411_0)) ∧ (Kd.S (Kd.slice 27 k27) 40 w' w.heap.size (fun k_ => (w.heap.size ≤ k_) ∧ k_ ≠ gb404 ∧ k_ ≠ gb405 ∧ k_ ≠ gb406 ∧ k_ ≠ gb410 ∧ k_ ≠ s_) (.slice Ao13 t407.length co13) t407) ∧ (w'.heap[gb404]? = some (.cells #[.slice (some ad411) l0_0.length c0_0] 32 (0, 0))) ∧ (w'.heap[gb405]? = some (.cells #[.int .i64 a1_0, .int .i64 a1_1, .int .i64 a1_2, .int .i64 a1_3, .int .i64 a1_4] 27 (0, 0))) ∧ (w'.heap[gb406]? = some (.cells #[.slice none 0 0] 32 (0, 0))) ∧ (w'.heap[gb410]? = some (.cells #[.slice Ao13 t407.length co13] 32 (0, 0))) ∧ (w'.heap[s_]? = some (.cells #[.int .i64 0, .int .i64 0, .int .i64 0, .int .i64 0, .int .i64 0] 27 (0, 0))) ∧ (w.heap.size ≤ s_) ∧ (w.heap.size ≤ s_) ∧ (gb404 ≠ s_) ∧ (s_ ≠ gb404) ∧ (gb405 ≠ s_) ∧ (s_ ≠ gb405) ∧ (gb406 ≠ s_) ∧ (s_ ≠ gb406) ∧ (gb410 ≠ s_) ∧ (s_ ≠ gb410) ∧ (Below w.heap.size w w')) ?_ ?_
      rotate_left
      ·intro hCont
       refine two_ (i := 9) (j := 13) (Ni := some 31) (Nj := some 9) #[true, true, true, true, true, true, true, true, true, true, false, false, false, false, false, false] #[true, true, true, true, true, true, true, true, true, false, false, false, false, true, false, false] rfl rfl rfl rfl (two_of HT_.out (by kernel_rfl)) (by decide) (by decide) (fun K hK => ?_) (fun K hK => ?_)
       ·skip
        refine goes_ Try.func56 (by kernel_rfl) rfl #[.slice A411_0 (rd_L4 l0_0 (ji20)).length c411_0, .int .i64 a1_0, .int .i64 a1_1] (by rfl) rfl rfl (by (try simp only [List.map_toArray, List.map_cons, List.map_nil]); first | done | (simp only [hji20]; rfl) | rfl | (simp only [List.length_drop, List.length_take]; rfl)) ?_
        with_reducible refine (impl_SetAt.calls k _ _ (rd_L4 l0_0 (ji20)) a1_0 a1_1 t412 t413 t414 t415 t416 true _ ?side1 ?side2 A23.out).mono ?_
        (case side1 => exact (Kd.bN HR411_0.out HB.out))
        (case side2 => exact HC411_0.out)
        rintro e w27 ⟨rfl, hb⟩
        refine ⟨_, rfl, ?_⟩
        replace HO409 := aA.mk (Kd.bM HO409.out hb)
        replace BK404 := aA.mk (aG (g := gb404) (o := .cells #[.slice (some ad411) l0_0.length c0_0] 32 (0, 0)) BK404.out hb)
        replace BK405 := aA.mk (aG (g := gb405) (o := .cells #[.int .i64 a1_0, .int .i64 a1_1, .int .i64 a1_2, .int .i64 a1_3, .int .i64 a1_4] 27 (0, 0)) BK405.out hb)
        replace BK406 := aA.mk (aG (g := gb406) (o := .cells #[.slice none 0 0] 32 (0, 0)) BK406.out hb)
        replace BK410 := aA.mk (aG (g := gb410) (o := .cells #[.slice Ao13 t407.length co13] 32 (0, 0)) BK410.out hb)
        replace HB := aA.mk (aT (by repeat (first | (with_reducible first | exact HB.out | apply aN | apply aE | apply aH | refine aC ?_ GE404.out | refine aC ?_ GE405.out | refine aC ?_ GE406.out | refine aC ?_ GE410.out) | exact HB.out)) hb)
        (try clear hb)
        (try clear hb2)
        (try clear hk)
        (try clear hi)
        refine hK.out _ _ ⟨(aD BK404.out 0).trans rfl, (aD BK405.out 0).trans rfl, (aD BK405.out 1).trans rfl, (aD BK405.out 2).trans rfl, (aD BK405.out 3).trans rfl, (aD BK405.out 4).trans rfl, ((HB.out.cell (lD w _ hw411_0)).trans hw411_0)⟩ (fun hHeld => ?_)
        clear hK K
        refine bJ (a' := ?_) ?_ ?_
        rotate_left
        ·show Act.put _ (some 31) _ = _
         simp only [Act.put, lA, lB, lC, aU, aV]
         rfl
        refine aW (i := 10) (N := some 21) (v := ?_) (a' := ?_) #[true, true, true, true, true, true, true, true, true, true, true, false, false, false, false, false] rfl rfl (aZ HT_.out (by kernel_rfl)) (fun _ _ _ h => h) (Or.inl ⟨by rfl, ?_⟩) ?_ ?_
        rotate_left
        ·intro w'
         go_simp
         with_reducible rfl
        rotate_left
        ·simp only [Act.put, lA, lB, lC, aU, aV]
         rfl
        refine aW (i := 11) (N := some 32) (v := ?_) (a' := ?_) #[true, true, true, true, true, true, true, true, true, true, true, true, false, false, false, false] rfl rfl (aZ HT_.out (by kernel_rfl)) (fun _ _ _ h => h) (Or.inl ⟨by rfl, ?_⟩) ?_ ?_
        rotate_left
        ·intro w'
         go_simp
         with_reducible rfl
        rotate_left
        ·simp only [Act.put, lA, lB, lC, aU, aV]
         rfl
        refine aW (i := 12) (N := some 33) (v := ?_) (a' := ?_) #[true, true, true, true, true, true, true, true, true, true, true, true, true, false, false, false] rfl rfl (aZ HT_.out (by kernel_rfl)) (fun _ _ _ h => h) (Or.inl ⟨by rfl, ?_⟩) ?_ ?_
        rotate_left
        ·intro w'
         go_simp
         with_reducible rfl
        rotate_left
        ·simp only [Act.put, lA, lB, lC, aU, aV]
         rfl
        refine one_ (i := 13) (N := some 9) #[true, true, true, true, true, true, true, true, true, true, true, true, true, true, false, false] rfl rfl (one_of HT_.out (by kernel_rfl)) (by decide) (fun K hK => ?_)
        refine box_step ?hg (N := 9) ?hd (cs := #[.int .i64 0, .int .i64 0, .int .i64 0, .int .i64 0, .int .i64 0]) (t := 27) ?hr ?_; (case hd => rfl); (case hg => rfl); (case hr => first | (go_simp; done) | (go_simp; rfl))
        intro gb418 hg w28 hbox hb
        replace HO409 := aA.mk (Kd.bM (Kd.S_elderB HO409.out gb418 (Nat.le_of_eq hg.symm)) hb)
        have BK418 := aA.mk (hbox)
        have GW418 := aA.mk ((by rw [hg]; exact (aQ (by repeat (first | (with_reducible first | exact HB.out | apply aN | apply aE | apply aH | refine aC ?_ GE404.out | refine aC ?_ GE405.out | refine aC ?_ GE406.out | refine aC ?_ GE410.out) | exact HB.out))) : w.heap.size ≤ gb418))
        have GE418 := aA.mk ((by rw [hg]; exact (aQ (by repeat (first | (with_reducible first | exact HB.out | apply aN | apply aE | apply aH | refine aC ?_ GE404.out | refine aC ?_ GE405.out | refine aC ?_ GE406.out | refine aC ?_ GE410.out) | exact HB.out))) : w.heap.size ≤ gb418))
        replace HB := aA.mk (aT (by repeat (first | (with_reducible first | exact HB.out | apply aN | apply aE | apply aH | refine aC ?_ GE404.out | refine aC ?_ GE405.out | refine aC ?_ GE406.out | refine aC ?_ GE410.out) | exact HB.out)) hb)
        have NB404_418 := aA.mk ((by rw [hg]; exact Nat.ne_of_lt (aY (g := gb404) (o := .cells #[.slice (some ad411) l0_0.length c0_0] 32 (0, 0)) BK404.out) : gb404 ≠ gb418))
        have NB418_404 := aA.mk ((by rw [hg]; exact Nat.ne_of_gt (aY (g := gb404) (o := .cells #[.slice (some ad411) l0_0.length c0_0] 32 (0, 0)) BK404.out) : gb418 ≠ gb404))
        replace BK404 := aA.mk (aG (g := gb404) (o := .cells #[.slice (some ad411) l0_0.length c0_0] 32 (0, 0)) BK404.out hb)
        have NB405_418 := aA.mk ((by rw [hg]; exact Nat.ne_of_lt (aY (g := gb405) (o := .cells #[.int .i64 a1_0, .int .i64 a1_1, .int .i64 a1_2, .int .i64 a1_3, .int .i64 a1_4] 27 (0, 0)) BK405.out) : gb405 ≠ gb418))
        have NB418_405 := aA.mk ((by rw [hg]; exact Nat.ne_of_gt (aY (g := gb405) (o := .cells #[.int .i64 a1_0, .int .i64 a1_1, .int .i64 a1_2, .int .i64 a1_3, .int .i64 a1_4] 27 (0, 0)) BK405.out) : gb418 ≠ gb405))
        replace BK405 := aA.mk (aG (g := gb405) (o := .cells #[.int .i64 a1_0, .int .i64 a1_1, .int .i64 a1_2, .int .i64 a1_3, .int .i64 a1_4] 27 (0, 0)) BK405.out hb)
        have NB406_418 := aA.mk ((by rw [hg]; exact Nat.ne_of_lt (aY (g := gb406) (o := .cells #[.slice none 0 0] 32 (0, 0)) BK406.out) : gb406 ≠ gb418))
        have NB418_406 := aA.mk ((by rw [hg]; exact Nat.ne_of_gt (aY (g := gb406) (o := .cells #[.slice none 0 0] 32 (0, 0)) BK406.out) : gb418 ≠ gb406))
        replace BK406 := aA.mk (aG (g := gb406) (o := .cells #[.slice none 0 0] 32 (0, 0)) BK406.out hb)
        have NB410_418 := aA.mk ((by rw [hg]; exact Nat.ne_of_lt (aY (g := gb410) (o := .cells #[.slice Ao13 t407.length co13] 32 (0, 0)) BK410.out) : gb410 ≠ gb418))
        have NB418_410 := aA.mk ((by rw [hg]; exact Nat.ne_of_gt (aY (g := gb410) (o := .cells #[.slice Ao13 t407.length co13] 32 (0, 0)) BK410.out) : gb418 ≠ gb410))
        replace BK410 := aA.mk (aG (g := gb410) (o := .cells #[.slice Ao13 t407.length co13] 32 (0, 0)) BK410.out hb)
        clear hb hbox hg
        refine hK.out _ _ ⟨(aD BK404.out 0).trans rfl, (aD BK405.out 0).trans rfl, (aD BK405.out 1).trans rfl, (aD BK405.out 2).trans rfl, (aD BK405.out 3).trans rfl, (aD BK405.out 4).trans rfl, ((HB.out.cell (lD w _ hw411_0)).trans hw411_0)⟩ (fun hHeld => ?_)
        clear hK K
        refine bJ (a' := ?_) ?_ ?_
        rotate_left
        ·show Act.put _ (some 9) _ = _
         simp only [Act.put, lA, lB, lC, aU, aV]
         rfl
        exact bJ (by simp only [putAll, Act.put, lA, lB, lC]) (hCont (gb418) _ ⟨hHeld, (by (with_reducible repeat (first | apply Kd.S_alloc | apply Kd.S_drewN | apply Kd.S_drew)); exact Kd.bP HO409.out (fun _ hk => ⟨hk.1.1, ⟨hk.1.2.1, ⟨hk.1.2.2.1, ⟨hk.1.2.2.2.1, ⟨hk.1.2.2.2.2, hk.2⟩⟩⟩⟩⟩)), BK404.out, BK405.out, BK406.out, BK410.out, BK418.out, GW418.out, GE418.out, NB404_418.out, NB418_404.out, NB405_418.out, NB418_405.out, NB406_418.out, NB418_406.out, NB410_418.out, NB418_410.out, (by repeat (first | (with_reducible first | exact HB.out | apply aN | apply aE | apply aH | refine aC ?_ GE404.out | refine aC ?_ GE405.out | refine aC ?_ GE406.out | refine aC ?_ GE410.out | refine aC ?_ GE418.out) | exact HB.out))⟩)
       ·skip
        refine box_step ?hg (N := 9) ?hd (cs := #[.int .i64 0, .int .i64 0, .int .i64 0, .int .i64 0, .int .i64 0]) (t := 27) ?hr ?_; (case hd => rfl); (case hg => rfl); (case hr => first | (go_simp; done) | (go_simp; rfl))
        intro gb418 hg w27 hbox hb
        replace HO409 := aA.mk (Kd.bM (Kd.S_elderB HO409.out gb418 (Nat.le_of_eq hg.symm)) hb)
        have BK418 := aA.mk (hbox)
        have GW418 := aA.mk ((by rw [hg]; exact (aQ (by repeat (first | (with_reducible first | exact HB.out | apply aN | apply aE | apply aH | refine aC ?_ GE404.out | refine aC ?_ GE405.out | refine aC ?_ GE406.out | refine aC ?_ GE410.out) | exact HB.out))) : w.heap.size ≤ gb418))
        have GE418 := aA.mk ((by rw [hg]; exact (aQ (by repeat (first | (with_reducible first | exact HB.out | apply aN | apply aE | apply aH | refine aC ?_ GE404.out | refine aC ?_ GE405.out | refine aC ?_ GE406.out | refine aC ?_ GE410.out) | exact HB.out))) : w.heap.size ≤ gb418))
        replace HB := aA.mk (aT (by repeat (first | (with_reducible first | exact HB.out | apply aN | apply aE | apply aH | refine aC ?_ GE404.out | refine aC ?_ GE405.out | refine aC ?_ GE406.out | refine aC ?_ GE410.out) | exact HB.out)) hb)
        have NB404_418 := aA.mk ((by rw [hg]; exact Nat.ne_of_lt (aY (g := gb404) (o := .cells #[.slice (some ad411) l0_0.length c0_0] 32 (0, 0)) BK404.out) : gb404 ≠ gb418))
        have NB418_404 := aA.mk ((by rw [hg]; exact Nat.ne_of_gt (aY (g := gb404) (o := .cells #[.slice (some ad411) l0_0.length c0_0] 32 (0, 0)) BK404.out) : gb418 ≠ gb404))
        replace BK404 := aA.mk (aG (g := gb404) (o := .cells #[.slice (some ad411) l0_0.length c0_0] 32 (0, 0)) BK404.out hb)
        have NB405_418 := aA.mk ((by rw [hg]; exact Nat.ne_of_lt (aY (g := gb405) (o := .cells #[.int .i64 a1_0, .int .i64 a1_1, .int .i64 a1_2, .int .i64 a1_3, .int .i64 a1_4] 27 (0, 0)) BK405.out) : gb405 ≠ gb418))
        have NB418_405 := aA.mk ((by rw [hg]; exact Nat.ne_of_gt (aY (g := gb405) (o := .cells #[.int .i64 a1_0, .int .i64 a1_1, .int .i64 a1_2, .int .i64 a1_3, .int .i64 a1_4] 27 (0, 0)) BK405.out) : gb418 ≠ gb405))
        replace BK405 := aA.mk (aG (g := gb405) (o := .cells #[.int .i64 a1_0, .int .i64 a1_1, .int .i64 a1_2, .int .i64 a1_3, .int .i64 a1_4] 27 (0, 0)) BK405.out hb)
        have NB406_418 := aA.mk ((by rw [hg]; exact Nat.ne_of_lt (aY (g := gb406) (o := .cells #[.slice none 0 0] 32 (0, 0)) BK406.out) : gb406 ≠ gb418))
        have NB418_406 := aA.mk ((by rw [hg]; exact Nat.ne_of_gt (aY (g := gb406) (o := .cells #[.slice none 0 0] 32 (0, 0)) BK406.out) : gb418 ≠ gb406))
        replace BK406 := aA.mk (aG (g := gb406) (o := .cells #[.slice none 0 0] 32 (0, 0)) BK406.out hb)
        have NB410_418 := aA.mk ((by rw [hg]; exact Nat.ne_of_lt (aY (g := gb410) (o := .cells #[.slice Ao13 t407.length co13] 32 (0, 0)) BK410.out) : gb410 ≠ gb418))
        have NB418_410 := aA.mk ((by rw [hg]; exact Nat.ne_of_gt (aY (g := gb410) (o := .cells #[.slice Ao13 t407.length co13] 32 (0, 0)) BK410.out) : gb418 ≠ gb410))
        replace BK410 := aA.mk (aG (g := gb410) (o := .cells #[.slice Ao13 t407.length co13] 32 (0, 0)) BK410.out hb)
        clear hb hbox hg
        refine hK.out _ _ ⟨(aD BK404.out 0).trans rfl, (aD BK405.out 0).trans rfl, (aD BK405.out 1).trans rfl, (aD BK405.out 2).trans rfl, (aD BK405.out 3).trans rfl, (aD BK405.out 4).trans rfl, ((HB.out.cell (lD w _ hw411_0)).trans hw411_0)⟩ (fun hHeld => ?_)
        clear hK K
        refine bJ (a' := ?_) ?_ ?_
        rotate_left
        ·show Act.put _ (some 9) _ = _
         simp only [Act.put, lA, lB, lC, aU, aV]
         rfl
        refine one_ (i := 9) (N := some 31) #[true, true, true, true, true, true, true, true, true, true, false, false, false, true, false, false] rfl rfl (one_of HT_.out (by kernel_rfl)) (by decide) (fun K hK => ?_)
        refine goes_ Try.func56 (by kernel_rfl) rfl #[.slice A411_0 (rd_L4 l0_0 (ji20)).length c411_0, .int .i64 a1_0, .int .i64 a1_1] (by rfl) rfl rfl (by (try simp only [List.map_toArray, List.map_cons, List.map_nil]); first | done | (simp only [hji20]; rfl) | rfl | (simp only [List.length_drop, List.length_take]; rfl)) ?_
        with_reducible refine (impl_SetAt.calls k _ _ (rd_L4 l0_0 (ji20)) a1_0 a1_1 t412 t413 t414 t415 t416 true _ ?side1 ?side2 A23.out).mono ?_
        (case side1 => exact (Kd.bN HR411_0.out HB.out))
        (case side2 => exact HC411_0.out)
        rintro e w28 ⟨rfl, hb⟩
        refine ⟨_, rfl, ?_⟩
        replace HO409 := aA.mk (Kd.bM HO409.out hb)
        replace BK404 := aA.mk (aG (g := gb404) (o := .cells #[.slice (some ad411) l0_0.length c0_0] 32 (0, 0)) BK404.out hb)
        replace BK405 := aA.mk (aG (g := gb405) (o := .cells #[.int .i64 a1_0, .int .i64 a1_1, .int .i64 a1_2, .int .i64 a1_3, .int .i64 a1_4] 27 (0, 0)) BK405.out hb)
        replace BK406 := aA.mk (aG (g := gb406) (o := .cells #[.slice none 0 0] 32 (0, 0)) BK406.out hb)
        replace BK410 := aA.mk (aG (g := gb410) (o := .cells #[.slice Ao13 t407.length co13] 32 (0, 0)) BK410.out hb)
        replace BK418 := aA.mk (aG (g := gb418) (o := .cells #[.int .i64 0, .int .i64 0, .int .i64 0, .int .i64 0, .int .i64 0] 27 (0, 0)) BK418.out hb)
        replace HB := aA.mk (aT (by repeat (first | (with_reducible first | exact HB.out | apply aN | apply aE | apply aH | refine aC ?_ GE404.out | refine aC ?_ GE405.out | refine aC ?_ GE406.out | refine aC ?_ GE410.out | refine aC ?_ GE418.out) | exact HB.out)) hb)
        (try clear hb)
        (try clear hb2)
        (try clear hk)
        (try clear hi)
        refine hK.out _ _ ⟨(aD BK404.out 0).trans rfl, (aD BK405.out 0).trans rfl, (aD BK405.out 1).trans rfl, (aD BK405.out 2).trans rfl, (aD BK405.out 3).trans rfl, (aD BK405.out 4).trans rfl, ((HB.out.cell (lD w _ hw411_0)).trans hw411_0)⟩ (fun hHeld => ?_)
        clear hK K
        refine bJ (a' := ?_) ?_ ?_
        rotate_left
        ·show Act.put _ (some 31) _ = _
         simp only [Act.put, lA, lB, lC, aU, aV]
         rfl
        refine aW (i := 10) (N := some 21) (v := ?_) (a' := ?_) #[true, true, true, true, true, true, true, true, true, true, true, false, false, true, false, false] rfl rfl (aZ HT_.out (by kernel_rfl)) (fun _ _ _ h => h) (Or.inl ⟨by rfl, ?_⟩) ?_ ?_
        rotate_left
        ·intro w'
         go_simp
         with_reducible rfl
        rotate_left
        ·simp only [Act.put, lA, lB, lC, aU, aV]
         rfl
        refine aW (i := 11) (N := some 32) (v := ?_) (a' := ?_) #[true, true, true, true, true, true, true, true, true, true, true, true, false, true, false, false] rfl rfl (aZ HT_.out (by kernel_rfl)) (fun _ _ _ h => h) (Or.inl ⟨by rfl, ?_⟩) ?_ ?_
        rotate_left
        ·intro w'
         go_simp
         with_reducible rfl
        rotate_left
        ·simp only [Act.put, lA, lB, lC, aU, aV]
         rfl
        refine aW (i := 12) (N := some 33) (v := ?_) (a' := ?_) #[true, true, true, true, true, true, true, true, true, true, true, true, true, true, false, false] rfl rfl (aZ HT_.out (by kernel_rfl)) (fun _ _ _ h => h) (Or.inl ⟨by rfl, ?_⟩) ?_ ?_
        rotate_left
        ·intro w'
         go_simp
         with_reducible rfl
        rotate_left
        ·simp only [Act.put, lA, lB, lC, aU, aV]
         rfl
        exact bJ (by simp only [putAll, Act.put, lA, lB, lC]) (hCont (gb418) _ ⟨hHeld, (by (with_reducible repeat (first | apply Kd.S_alloc | apply Kd.S_drewN | apply Kd.S_drew)); exact Kd.bP HO409.out (fun _ hk => ⟨hk.1.1, ⟨hk.1.2.1, ⟨hk.1.2.2.1, ⟨hk.1.2.2.2.1, ⟨hk.1.2.2.2.2, hk.2⟩⟩⟩⟩⟩)), BK404.out, BK405.out, BK406.out, BK410.out, BK418.out, GW418.out, GE418.out, NB404_418.out, NB418_404.out, NB405_418.out, NB418_405.out, NB406_418.out, NB418_406.out, NB410_418.out, NB418_410.out, (by repeat (first | (with_reducible first | exact HB.out | apply aN | apply aE | apply aH | refine aC ?_ GE404.out | refine aC ?_ GE405.out | refine aC ?_ GE406.out | refine aC ?_ GE410.out | refine aC ?_ GE418.out) | exact HB.out))⟩)
      rintro gb418 w29 ⟨hS_, h0_, h1_, h2_, h3_, h4_, h5_, h6_, h7_, h8_, h9_, h10_, h11_, h12_, h13_, h14_, h15_, h16_⟩
      have n0_ : aA (Kd.S (Kd.slice 27 k27) 40 w29 w.heap.size (fun k_ => (w.heap.size ≤ k_) ∧ k_ ≠ gb404 ∧ k_ ≠ gb405 ∧ k_ ≠ gb406 ∧ k_ ≠ gb410 ∧ k_ ≠ gb418) (.slice Ao13 t407.length co13) t407) := ⟨h0_⟩
      have n1_ : aA (w29.heap[gb404]? = some (.cells #[.slice (some ad411) l0_0.length c0_0] 32 (0, 0))) := ⟨h1_⟩
      have n2_ : aA (w29.heap[gb405]? = some (.cells #[.int .i64 a1_0, .int .i64 a1_1, .int .i64 a1_2, .int .i64 a1_3, .int .i64 a1_4] 27 (0, 0))) := ⟨h2_⟩
      have n3_ : aA (w29.heap[gb406]? = some (.cells #[.slice none 0 0] 32 (0, 0))) := ⟨h3_⟩
      have n4_ : aA (w29.heap[gb410]? = some (.cells #[.slice Ao13 t407.length co13] 32 (0, 0))) := ⟨h4_⟩
      have n5_ : aA (w29.heap[gb418]? = some (.cells #[.int .i64 0, .int .i64 0, .int .i64 0, .int .i64 0, .int .i64 0] 27 (0, 0))) := ⟨h5_⟩
      have n6_ : aA (w.heap.size ≤ gb418) := ⟨h6_⟩
      have n7_ : aA (w.heap.size ≤ gb418) := ⟨h7_⟩
      have n8_ : aA (gb404 ≠ gb418) := ⟨h8_⟩
      have n9_ : aA (gb418 ≠ gb404) := ⟨h9_⟩
      have n10_ : aA (gb405 ≠ gb418) := ⟨h10_⟩
      have n11_ : aA (gb418 ≠ gb405) := ⟨h11_⟩
      have n12_ : aA (gb406 ≠ gb418) := ⟨h12_⟩
      have n13_ : aA (gb418 ≠ gb406) := ⟨h13_⟩
      have n14_ : aA (gb410 ≠ gb418) := ⟨h14_⟩
      have n15_ : aA (gb418 ≠ gb410) := ⟨h15_⟩
      have n16_ : aA (Below w.heap.size w w29) := ⟨h16_⟩
      clear HO409
      clear BK404
      clear BK405
      clear BK406
      clear BK410
      clear HB
      clear h0_ h1_ h2_ h3_ h4_ h5_ h6_ h7_ h8_ h9_ h10_ h11_ h12_ h13_ h14_ h15_ h16_
      have HO409 := n0_
      have BK404 := n1_
      have BK405 := n2_
      have BK406 := n3_
      have BK410 := n4_
      have BK418 := n5_
      have GW418 := n6_
      have GE418 := n7_
      have NB404_418 := n8_
      have NB418_404 := n9_
      have NB405_418 := n10_
      have NB418_405 := n11_
      have NB406_418 := n12_
      have NB418_406 := n13_
      have NB410_418 := n14_
      have NB418_410 := n15_
      have HB := n16_
      clear n0_ n1_ n2_ n3_ n4_ n5_ n6_ n7_ n8_ n9_ n10_ n11_ n12_ n13_ n14_ n15_ n16_
      have hHeld : w29.cell? ⟨gb404, 0, none⟩ = some (.slice (some ad411) l0_0.length c0_0) ∧ w29.cell? ⟨gb405, 0, none⟩ = some (.int .i64 a1_0) ∧ w29.cell? ⟨gb405, 1, none⟩ = some (.int .i64 a1_1) ∧ w29.cell? ⟨gb405, 2, none⟩ = some (.int .i64 a1_2) ∧ w29.cell? ⟨gb405, 3, none⟩ = some (.int .i64 a1_3) ∧ w29.cell? ⟨gb405, 4, none⟩ = some (.int .i64 a1_4) ∧ w29.cell? (ad411.add ((ji20)).toNat) = some (.slice A411_0 (rd_L4 l0_0 (ji20)).length c411_0) := hS_
      refine bJ (a' := ?_) ?_ ?_
      rotate_left
      ·simp only [putAll, Act.put, lA, lB, lC]
       rfl
      refine one_ (i := 14) (N := none) #[true, true, true, true, true, true, true, true, true, true, true, true, true, true, true, false] rfl rfl (one_of HT_.out (by kernel_rfl)) (by decide) (fun K hK => ?_)
      have hs30 : w29.cell? ⟨gb418, 0, none⟩ = some (.int .i64 0) := (aD BK418.out 0).trans rfl
      have hfs30 := aX BK418.out 0
      have hns30_0 := NB404_418.out
      have hns30_1 := NB405_418.out
      have hns30_2 := NB406_418.out
      have hns30_3 := NB410_418.out
      have hms30_0 := NB418_404.out
      have hms30_1 := NB418_405.out
      have hms30_2 := NB418_406.out
      have hms30_3 := NB418_410.out
      have hs31 : w29.cell? ⟨gb418, 1, none⟩ = some (.int .i64 0) := (aD BK418.out 1).trans rfl
      have hfs31 := aX BK418.out 1
      have hns31_0 := NB404_418.out
      have hns31_1 := NB405_418.out
      have hns31_2 := NB406_418.out
      have hns31_3 := NB410_418.out
      have hms31_0 := NB418_404.out
      have hms31_1 := NB418_405.out
      have hms31_2 := NB418_406.out
      have hms31_3 := NB418_410.out
      have hs32 : w29.cell? ⟨gb418, 2, none⟩ = some (.int .i64 0) := (aD BK418.out 2).trans rfl
      have hfs32 := aX BK418.out 2
      have hns32_0 := NB404_418.out
      have hns32_1 := NB405_418.out
      have hns32_2 := NB406_418.out
      have hns32_3 := NB410_418.out
      have hms32_0 := NB418_404.out
      have hms32_1 := NB418_405.out
      have hms32_2 := NB418_406.out
      have hms32_3 := NB418_410.out
      have hs33 : w29.cell? ⟨gb418, 3, none⟩ = some (.int .i64 0) := (aD BK418.out 3).trans rfl
      have hfs33 := aX BK418.out 3
      have hns33_0 := NB404_418.out
      have hns33_1 := NB405_418.out
      have hns33_2 := NB406_418.out
      have hns33_3 := NB410_418.out
      have hms33_0 := NB418_404.out
      have hms33_1 := NB418_405.out
      have hms33_2 := NB418_406.out
      have hms33_3 := NB418_410.out
      have hs34 : w29.cell? ⟨gb418, 4, none⟩ = some (.int .i64 0) := (aD BK418.out 4).trans rfl
      have hfs34 := aX BK418.out 4
      have hns34_0 := NB404_418.out
      have hns34_1 := NB405_418.out
      have hns34_2 := NB406_418.out
      have hns34_3 := NB410_418.out
      have hms34_0 := NB418_404.out
      have hms34_1 := NB418_405.out
      have hms34_2 := NB418_406.out
      have hms34_3 := NB418_410.out
      refine skip_ (w1 := ?_) (by rfl) rfl ?_ ?_
      rotate_left
      ·go_simp
       rfl
      refine hK.out _ _ ⟨((bG (p := ⟨gb418, _, none⟩) NB404_418.out _).trans (((bG (p := ⟨gb418, _, none⟩) NB404_418.out _).trans (((bG (p := ⟨gb418, _, none⟩) NB404_418.out _).trans (((bG (p := ⟨gb418, _, none⟩) NB404_418.out _).trans (((bG (p := ⟨gb418, _, none⟩) NB404_418.out _).trans (hHeld.1)))))))))), ((bG (p := ⟨gb418, _, none⟩) NB405_418.out _).trans (((bG (p := ⟨gb418, _, none⟩) NB405_418.out _).trans (((bG (p := ⟨gb418, _, none⟩) NB405_418.out _).trans (((bG (p := ⟨gb418, _, none⟩) NB405_418.out _).trans (((bG (p := ⟨gb418, _, none⟩) NB405_418.out _).trans (hHeld.2.1)))))))))), ((bG (p := ⟨gb418, _, none⟩) NB405_418.out _).trans (((bG (p := ⟨gb418, _, none⟩) NB405_418.out _).trans (((bG (p := ⟨gb418, _, none⟩) NB405_418.out _).trans (((bG (p := ⟨gb418, _, none⟩) NB405_418.out _).trans (((bG (p := ⟨gb418, _, none⟩) NB405_418.out _).trans (hHeld.2.2.1)))))))))), ((bG (p := ⟨gb418, _, none⟩) NB405_418.out _).trans (((bG (p := ⟨gb418, _, none⟩) NB405_418.out _).trans (((bG (p := ⟨gb418, _, none⟩) NB405_418.out _).trans (((bG (p := ⟨gb418, _, none⟩) NB405_418.out _).trans (((bG (p := ⟨gb418, _, none⟩) NB405_418.out _).trans (hHeld.2.2.2.1)))))))))), ((bG (p := ⟨gb418, _, none⟩) NB405_418.out _).trans (((bG (p := ⟨gb418, _, none⟩) NB405_418.out _).trans (((bG (p := ⟨gb418, _, none⟩) NB405_418.out _).trans (((bG (p := ⟨gb418, _, none⟩) NB405_418.out _).trans (((bG (p := ⟨gb418, _, none⟩) NB405_418.out _).trans (hHeld.2.2.2.2.1)))))))))), ((bG (p := ⟨gb418, _, none⟩) NB405_418.out _).trans (((bG (p := ⟨gb418, _, none⟩) NB405_418.out _).trans (((bG (p := ⟨gb418, _, none⟩) NB405_418.out _).trans (((bG (p := ⟨gb418, _, none⟩) NB405_418.out _).trans (((bG (p := ⟨gb418, _, none⟩) NB405_418.out _).trans (hHeld.2.2.2.2.2.1)))))))))), ((bG (p := ⟨gb418, _, none⟩) (by first | exact Nat.ne_of_lt (Nat.lt_of_lt_of_le (by have := lD _ _ hw411_0; first | rwa [bF] at this | exact this) GW418.out) | (rw [bF]; exact Nat.ne_of_lt (Nat.lt_of_lt_of_le (by have := lD _ _ hw411_0; first | rwa [bF] at this | exact this) GW418.out)) | (show (Addr.add _ _).block ≠ _; rw [bF]; exact Nat.ne_of_lt (Nat.lt_of_lt_of_le (by have := lD _ _ hw411_0; first | rwa [bF] at this | exact this) GW418.out)) | (dsimp only; exact Nat.ne_of_lt (Nat.lt_of_lt_of_le (by have := lD _ _ hw411_0; first | rwa [bF] at this | exact this) GW418.out))) _).trans (((bG (p := ⟨gb418, _, none⟩) (by first | exact Nat.ne_of_lt (Nat.lt_of_lt_of_le (by have := lD _ _ hw411_0; first | rwa [bF] at this | exact this) GW418.out) | (rw [bF]; exact Nat.ne_of_lt (Nat.lt_of_lt_of_le (by have := lD _ _ hw411_0; first | rwa [bF] at this | exact this) GW418.out)) | (show (Addr.add _ _).block ≠ _; rw [bF]; exact Nat.ne_of_lt (Nat.lt_of_lt_of_le (by have := lD _ _ hw411_0; first | rwa [bF] at this | exact this) GW418.out)) | (dsimp only; exact Nat.ne_of_lt (Nat.lt_of_lt_of_le (by have := lD _ _ hw411_0; first | rwa [bF] at this | exact this) GW418.out))) _).trans (((bG (p := ⟨gb418, _, none⟩) (by first | exact Nat.ne_of_lt (Nat.lt_of_lt_of_le (by have := lD _ _ hw411_0; first | rwa [bF] at this | exact this) GW418.out) | (rw [bF]; exact Nat.ne_of_lt (Nat.lt_of_lt_of_le (by have := lD _ _ hw411_0; first | rwa [bF] at this | exact this) GW418.out)) | (show (Addr.add _ _).block ≠ _; rw [bF]; exact Nat.ne_of_lt (Nat.lt_of_lt_of_le (by have := lD _ _ hw411_0; first | rwa [bF] at this | exact this) GW418.out)) | (dsimp only; exact Nat.ne_of_lt (Nat.lt_of_lt_of_le (by have := lD _ _ hw411_0; first | rwa [bF] at this | exact this) GW418.out))) _).trans (((bG (p := ⟨gb418, _, none⟩) (by first | exact Nat.ne_of_lt (Nat.lt_of_lt_of_le (by have := lD _ _ hw411_0; first | rwa [bF] at this | exact this) GW418.out) | (rw [bF]; exact Nat.ne_of_lt (Nat.lt_of_lt_of_le (by have := lD _ _ hw411_0; first | rwa [bF] at this | exact this) GW418.out)) | (show (Addr.add _ _).block ≠ _; rw [bF]; exact Nat.ne_of_lt (Nat.lt_of_lt_of_le (by have := lD _ _ hw411_0; first | rwa [bF] at this | exact this) GW418.out)) | (dsimp only; exact Nat.ne_of_lt (Nat.lt_of_lt_of_le (by have := lD _ _ hw411_0; first | rwa [bF] at this | exact this) GW418.out))) _).trans (((bG (p := ⟨gb418, _, none⟩) (by first | exact Nat.ne_of_lt (Nat.lt_of_lt_of_le (by have := lD _ _ hw411_0; first | rwa [bF] at this | exact this) GW418.out) | (rw [bF]; exact Nat.ne_of_lt (Nat.lt_of_lt_of_le (by have := lD _ _ hw411_0; first | rwa [bF] at this | exact this) GW418.out)) | (show (Addr.add _ _).block ≠ _; rw [bF]; exact Nat.ne_of_lt (Nat.lt_of_lt_of_le (by have := lD _ _ hw411_0; first | rwa [bF] at this | exact this) GW418.out)) | (dsimp only; exact Nat.ne_of_lt (Nat.lt_of_lt_of_le (by have := lD _ _ hw411_0; first | rwa [bF] at this | exact this) GW418.out))) _).trans (hHeld.2.2.2.2.2.2))))))))))⟩ (fun hHeld => ?_)
      clear hK K
      refine aW (i := 15) (N := some 10) (v := ?_) (a' := ?_) #[true, true, true, true, true, true, true, true, true, true, true, true, true, true, true, true] rfl rfl (aZ HT_.out (by kernel_rfl)) (fun _ _ _ h => h) (Or.inl ⟨by rfl, ?_⟩) ?_ ?_
      rotate_left
      ·intro w'
       go_simp
       with_reducible rfl
      rotate_left
      ·simp only [Act.put, lA, lB, lC, aU, aV]
       rfl
      refine done_ (done_of HT_.out (by kernel_rfl)) ?_
      try go_wp2
      subst hji20
      go_meet
      case rel => exact ⟨_, (true), (by first | rfl | (simp; done) | (simp [*]; done)), H', ⟨by first | omega | exact Nat.le_refl _⟩, ⟨by (with_reducible repeat (first | apply Kd.S_alloc | apply Kd.S_drewN | apply Kd.S_drew)); exact Kd.bP (Kd.S_far (p := ⟨gb418, 4, none⟩) (Kd.S_far (p := ⟨gb418, 3, none⟩) (Kd.S_far (p := ⟨gb418, 2, none⟩) (Kd.S_far (p := ⟨gb418, 1, none⟩) (Kd.S_far (p := ⟨gb418, 0, none⟩) (Kd.bP HO409.out (fun k_ hk => (⟨hk, hk.2.2.2.2.2⟩ : _ ∧ k_ ≠ gb418))) (fun _ hk => hk.2) (.int .i64 t412)) (fun _ hk => hk.2) (.int .i64 t413)) (fun _ hk => hk.2) (.int .i64 t414)) (fun _ hk => hk.2) (.int .i64 t415)) (fun _ hk => hk.2) (.int .i64 t416)) (fun _ hk => ⟨hk.1.1, ⟨hk.1.2.1, ⟨hk.1.2.2.1, ⟨hk.1.2.2.2.1, hk.1.2.2.2.2.1⟩⟩⟩⟩)⟩, ⟨by (with_reducible repeat (first | refine aM ?_ _ | refine aJ ?_ | refine aK ?_ _)); refine bB ?_ NB404_418.out _; (with_reducible repeat (first | refine aM ?_ _ | refine aJ ?_ | refine aK ?_ _)); refine bB ?_ NB404_418.out _; (with_reducible repeat (first | refine aM ?_ _ | refine aJ ?_ | refine aK ?_ _)); refine bB ?_ NB404_418.out _; (with_reducible repeat (first | refine aM ?_ _ | refine aJ ?_ | refine aK ?_ _)); refine bB ?_ NB404_418.out _; (with_reducible repeat (first | refine aM ?_ _ | refine aJ ?_ | refine aK ?_ _)); refine bB ?_ NB404_418.out _; (with_reducible repeat (first | refine aM ?_ _ | refine aJ ?_ | refine aK ?_ _)); exact BK404.out⟩, ⟨by (with_reducible repeat (first | refine aM ?_ _ | refine aJ ?_ | refine aK ?_ _)); refine bB ?_ NB405_418.out _; (with_reducible repeat (first | refine aM ?_ _ | refine aJ ?_ | refine aK ?_ _)); refine bB ?_ NB405_418.out _; (with_reducible repeat (first | refine aM ?_ _ | refine aJ ?_ | refine aK ?_ _)); refine bB ?_ NB405_418.out _; (with_reducible repeat (first | refine aM ?_ _ | refine aJ ?_ | refine aK ?_ _)); refine bB ?_ NB405_418.out _; (with_reducible repeat (first | refine aM ?_ _ | refine aJ ?_ | refine aK ?_ _)); refine bB ?_ NB405_418.out _; (with_reducible repeat (first | refine aM ?_ _ | refine aJ ?_ | refine aK ?_ _)); exact BK405.out⟩, ⟨by (with_reducible repeat (first | refine aM ?_ _ | refine aJ ?_ | refine aK ?_ _)); refine bB ?_ NB406_418.out _; (with_reducible repeat (first | refine aM ?_ _ | refine aJ ?_ | refine aK ?_ _)); refine bB ?_ NB406_418.out _; (with_reducible repeat (first | refine aM ?_ _ | refine aJ ?_ | refine aK ?_ _)); refine bB ?_ NB406_418.out _; (with_reducible repeat (first | refine aM ?_ _ | refine aJ ?_ | refine aK ?_ _)); refine bB ?_ NB406_418.out _; (with_reducible repeat (first | refine aM ?_ _ | refine aJ ?_ | refine aK ?_ _)); refine bB ?_ NB406_418.out _; (with_reducible repeat (first | refine aM ?_ _ | refine aJ ?_ | refine aK ?_ _)); exact BK406.out⟩, ⟨by (with_reducible repeat (first | refine aM ?_ _ | refine aJ ?_ | refine aK ?_ _)); refine bB ?_ NB410_418.out _; (with_reducible repeat (first | refine aM ?_ _ | refine aJ ?_ | refine aK ?_ _)); refine bB ?_ NB410_418.out _; (with_reducible repeat (first | refine aM ?_ _ | refine aJ ?_ | refine aK ?_ _)); refine bB ?_ NB410_418.out _; (with_reducible repeat (first | refine aM ?_ _ | refine aJ ?_ | refine aK ?_ _)); refine bB ?_ NB410_418.out _; (with_reducible repeat (first | refine aM ?_ _ | refine aJ ?_ | refine aK ?_ _)); refine bB ?_ NB410_418.out _; (with_reducible repeat (first | refine aM ?_ _ | refine aJ ?_ | refine aK ?_ _)); exact BK410.out⟩, ⟨by repeat (first | (with_reducible first | exact HB.out | apply aN | apply aE | apply aH | refine aC ?_ GE404.out | refine aC ?_ GE405.out | refine aC ?_ GE406.out | refine aC ?_ GE410.out | refine aC ?_ GE418.out) | exact HB.out)⟩⟩
     ·replace c24 := Bool.eq_false_iff.mpr c24
      subst c24
      have H1 : (impl_NodePut.j0 k ji20 (decide (((rd_L4 l0_0 (ji20)).length : Int) < 4)) l0_0 a1_0 a1_1 a1_2 a1_3 a1_4 t407) = some (r1, r2) := by rw [if_neg (show ¬ (false = true) by decide)] at H; exact H
      clear H
      have H := H1
      clear H1
      have H' := aA.mk H
      clear H
      try go_wp2
      have n0_ : aA (Kd.S (Kd.slice 27 k27) 40 (w12.setCell ⟨gb410, 0, none⟩ (.slice Ao13 t407.length co13)) w.heap.size (fun k_ => (w.heap.size ≤ k_) ∧ k_ ≠ gb404 ∧ k_ ≠ gb405 ∧ k_ ≠ gb406 ∧ k_ ≠ gb410) (.slice Ao13 t407.length co13) t407) := ⟨by (with_reducible repeat (first | apply Kd.S_alloc | apply Kd.S_drewN | apply Kd.S_drew)); exact Kd.bP (Kd.S_far (p := ⟨gb410, 0, none⟩) (Kd.bP HO409.out (fun k_ hk => (⟨hk, hk.2⟩ : _ ∧ k_ ≠ gb410))) (fun _ hk => hk.2) (.slice Ao13 t407.length co13)) (fun _ hk => ⟨hk.1.1.1, ⟨hk.1.1.2.1, ⟨hk.1.1.2.2.1, ⟨hk.1.1.2.2.2, hk.1.2⟩⟩⟩⟩)⟩
      have n1_ : aA ((w12.setCell ⟨gb410, 0, none⟩ (.slice Ao13 t407.length co13)).heap[gb404]? = some (.cells #[.slice A0_0 l0_0.length c0_0] 32 (0, 0))) := ⟨by (with_reducible repeat (first | refine aM ?_ _ | refine aJ ?_ | refine aK ?_ _)); refine bB ?_ NB404_410.out _; (with_reducible repeat (first | refine aM ?_ _ | refine aJ ?_ | refine aK ?_ _)); exact BK404.out⟩
      have n2_ : aA ((w12.setCell ⟨gb410, 0, none⟩ (.slice Ao13 t407.length co13)).heap[gb405]? = some (.cells #[.int .i64 a1_0, .int .i64 a1_1, .int .i64 a1_2, .int .i64 a1_3, .int .i64 a1_4] 27 (0, 0))) := ⟨by (with_reducible repeat (first | refine aM ?_ _ | refine aJ ?_ | refine aK ?_ _)); refine bB ?_ NB405_410.out _; (with_reducible repeat (first | refine aM ?_ _ | refine aJ ?_ | refine aK ?_ _)); exact BK405.out⟩
      have n3_ : aA ((w12.setCell ⟨gb410, 0, none⟩ (.slice Ao13 t407.length co13)).heap[gb406]? = some (.cells #[.slice none 0 0] 32 (0, 0))) := ⟨by (with_reducible repeat (first | refine aM ?_ _ | refine aJ ?_ | refine aK ?_ _)); refine bB ?_ NB406_410.out _; (with_reducible repeat (first | refine aM ?_ _ | refine aJ ?_ | refine aK ?_ _)); exact BK406.out⟩
      have n4_ : aA ((w12.setCell ⟨gb410, 0, none⟩ (.slice Ao13 t407.length co13)).heap[gb410]? = some (.cells #[.slice Ao13 t407.length co13] 32 (0, 0))) := ⟨by (with_reducible repeat (first | refine aM ?_ _ | refine aJ ?_ | refine aK ?_ _)); refine bE (cs := #[.slice none 0 0]) ?_ 0 _ rfl; (with_reducible repeat (first | refine aM ?_ _ | refine aJ ?_ | refine aK ?_ _)); exact BK410.out⟩
      have n5_ : aA (Below w.heap.size w (w12.setCell ⟨gb410, 0, none⟩ (.slice Ao13 t407.length co13))) := ⟨by repeat (first | (with_reducible first | exact HB.out | apply aN | apply aE | apply aH | refine aC ?_ GE404.out | refine aC ?_ GE405.out | refine aC ?_ GE406.out | refine aC ?_ GE410.out) | exact HB.out)⟩
      (try clear HO409)
      (try clear BK404)
      (try clear BK405)
      (try clear BK406)
      (try clear BK410)
      (try clear HB)
      generalize (w12.setCell ⟨gb410, 0, none⟩ (.slice Ao13 t407.length co13)) = w35 at n0_ n1_ n2_ n3_ n4_ n5_ ⊢
      have HO409 := n0_
      have BK404 := n1_
      have BK405 := n2_
      have BK406 := n3_
      have BK410 := n4_
      have HB := n5_
      clear n0_ n1_ n2_ n3_ n4_ n5_
      replace HO409 := aA.mk (Kd.S_drew HO409.out)
      replace BK404 := aA.mk (aJ BK404.out)
      replace BK405 := aA.mk (aJ BK405.out)
      replace BK406 := aA.mk (aJ BK406.out)
      replace BK410 := aA.mk (aJ BK410.out)
      replace HB := aA.mk (aH HB.out)
      have p411 : 0 ≤ ((ji20) : Int) := lE (by assumption)
      have q411 : (ji20) < (l0_0.length : Int) := lE (by assumption)
      obtain ⟨ad411, A411_0, c411_0, e411, hx411_0, hl411_0, hi411_0⟩ := at_L4 HR0_0.out (ji20) p411 q411
      have hw411_0 := hx411_0
      cases e411
      replace hx411_0 := (HB.out.cell (lD w _ hx411_0)).trans hx411_0
      have HR411_0 := aA.mk hi411_0
      have HC411_0 := aA.mk hl411_0
      clear hi411_0 hl411_0
      replace p411 := eq_true p411
      replace q411 := eq_true q411
      refine start_ (n := 16) (S := fun w' => w'.cell? ⟨gb404, 0, none⟩ = some (.slice (some ad411) l0_0.length c0_0) ∧ w'.cell? ⟨gb405, 0, none⟩ = some (.int .i64 a1_0) ∧ w'.cell? ⟨gb405, 1, none⟩ = some (.int .i64 a1_1) ∧ w'.cell? ⟨gb405, 2, none⟩ = some (.int .i64 a1_2) ∧ w'.cell? ⟨gb405, 3, none⟩ = some (.int .i64 a1_3) ∧ w'.cell? ⟨gb405, 4, none⟩ = some (.int .i64 a1_4) ∧ w'.cell? (ad411.add ((ji20)).toNat) = some (.slice A411_0 (rd_L4 l0_0 (ji20)).length c411_0)) (ds := []) #[false, false, false, false, false, false, false, false, false, false, false, false, false, false, false, false] (by kernel_rfl) rfl rfl ⟨(aD BK404.out 0).trans rfl, (aD BK405.out 0).trans rfl, (aD BK405.out 1).trans rfl, (aD BK405.out 2).trans rfl, (aD BK405.out 3).trans rfl, (aD BK405.out 4).trans rfl, ((HB.out.cell (lD w _ hw411_0)).trans hw411_0)⟩ (fun hHeld => ?_); refine with_tabW impl_NodePut.tab5 impl_NodePut.bits5 (fun HT_ HW_ => ?_)
      generalize w35.drew = w36 at HO409 BK404 BK405 BK406 BK410 HB HR411_0 hx411_0 hHeld ⊢
      refine aW (i := 0) (N := some 22) (v := ?_) (a' := ?_) #[true, false, false, false, false, false, false, false, false, false, false, false, false, false, false, false] rfl rfl (aZ HT_.out (by kernel_rfl)) (fun _ _ _ h => h) (Or.inl ⟨by rfl, ?_⟩) ?_ ?_
      rotate_left
      ·intro w'
       go_simp
       with_reducible rfl
      rotate_left
      ·simp only [Act.put, lA, lB, lC, aU, aV]
       rfl
      refine aW (i := 2) (N := some 24) (v := ?_) (a' := ?_) #[true, false, true, false, false, false, false, false, false, false, false, false, false, false, false, false] rfl rfl (aZ HT_.out (by kernel_rfl)) (fun _ _ _ h => h) (Or.inl ⟨by rfl, ?_⟩) ?_ ?_
      rotate_left
      ·intro w'
       go_simp
       with_reducible rfl
      rotate_left
      ·simp only [Act.put, lA, lB, lC, aU, aV]
       rfl
      refine aW (i := 5) (N := some 27) (v := ?_) (a' := ?_) #[true, false, true, false, false, true, false, false, false, false, false, false, false, false, false, false] rfl rfl (aZ HT_.out (by kernel_rfl)) (fun _ _ _ h => h) (Or.inl ⟨by rfl, ?_⟩) ?_ ?_
      rotate_left
      ·intro w'
       go_simp
       with_reducible rfl
      rotate_left
      ·simp only [Act.put, lA, lB, lC, aU, aV]
       rfl
      refine aW (i := 7) (N := some 29) (v := ?_) (a' := ?_) #[true, false, true, false, false, true, false, true, false, false, false, false, false, false, false, false] rfl rfl (aZ HT_.out (by kernel_rfl)) (fun _ _ _ h => h) (Or.inl ⟨by rfl, ?_⟩) ?_ ?_
      rotate_left
      ·intro w'
       go_simp
       with_reducible rfl
      rotate_left
      ·simp only [Act.put, lA, lB, lC, aU, aV]
       rfl
      refine take_ (i := 1) (N := some 23) (v := ?_) (a' := ?_) #[true, true, true, false, false, true, false, true, false, false, false, false, false, false, false, false] rfl rfl (bV HT_.out HW_.out (by kernel_rfl)) (fun _ _ _ h => h) (Or.inl ⟨by rfl, ?_⟩) hHeld ?_ ?_
      rotate_left
      ·rintro w' ⟨s0, s1, s2, s3, s4, s5, s6⟩
       go_simp
       with_reducible rfl
      rotate_left
      ·simp only [Act.put, lA, lB, lC, aU, aV]
       rfl
      refine aW (i := 3) (N := some 25) (v := ?_) (a' := ?_) #[true, true, true, true, false, true, false, true, false, false, false, false, false, false, false, false] rfl rfl (aZ HT_.out (by kernel_rfl)) (fun _ _ _ h => h) (Or.inl ⟨by rfl, ?_⟩) ?_ ?_
      rotate_left
      ·intro w'
       go_simp
       with_reducible rfl
      rotate_left
      ·simp only [Act.put, lA, lB, lC, aU, aV]
       rfl
      refine take_ (i := 4) (N := some 26) (v := ?_) (a' := ?_) #[true, true, true, true, true, true, false, true, false, false, false, false, false, false, false, false] rfl rfl (bV HT_.out HW_.out (by kernel_rfl)) (fun _ _ _ h => h) (Or.inl ⟨by rfl, ?_⟩) hHeld ?_ ?_
      rotate_left
      ·rintro w' ⟨s0, s1, s2, s3, s4, s5, s6⟩
       go_simp
       with_reducible rfl
      rotate_left
      ·simp only [Act.put, lA, lB, lC, aU, aV]
       rfl
      refine take_ (i := 6) (N := some 28) (v := ?_) (a' := ?_) #[true, true, true, true, true, true, true, true, false, false, false, false, false, false, false, false] rfl rfl (bV HT_.out HW_.out (by kernel_rfl)) (fun _ _ _ h => h) (Or.inl ⟨by rfl, ?_⟩) hHeld ?_ ?_
      rotate_left
      ·rintro w' ⟨s0, s1, s2, s3, s4, s5, s6⟩
       go_simp
       with_reducible rfl
      rotate_left
      ·simp only [Act.put, lA, lB, lC, aU, aV]
       rfl
      refine take_ (i := 8) (N := some 30) (v := ?_) (a' := ?_) #[true, true, true, true, true, true, true, true, true, false, false, false, false, false, false, false] rfl rfl (bV HT_.out HW_.out (by kernel_rfl)) (fun _ _ _ h => h) (Or.inl ⟨by rfl, ?_⟩) hHeld ?_ ?_
      rotate_left
      ·rintro w' ⟨s0, s1, s2, s3, s4, s5, s6⟩
       go_simp
       with_reducible rfl
      rotate_left
      ·simp only [Act.put, lA, lB, lC, aU, aV]
       rfl
      refine join_ (σ := Nat) 2 #[true, true, true, true, true, true, true, true, true, true, true, true, true, true, false, false] (fun s_ => [(31, .tuple #[.agg #[.int .i64 t412, .int .i64 t413, .int .i64 t414, .int .i64 t415, .int .i64 t416], .bool false]), (9, .pointer (some ⟨s_, 0, none⟩)), (21, .tuple #[.agg #[.int .i64 t412, .int .i64 t413, .int .i64 t414, .int .i64 t415, .int .i64 t416], .bool false]), (32, .agg #[.int .i64 t412, .int .i64 t413, .int .i64 t414, .int .i64 t415, .int .i64 t416]), (33, .bool false)]) (fun s_ w' => (w'.cell? ⟨gb404, 0, none⟩ = some (.slice (some ad411) l0_0.length c0_0) ∧ w'.cell? ⟨gb405, 0, none⟩ = some (.int .i64 a1_0) ∧ w'.cell? ⟨gb405, 1, none⟩ = some (.int .i64 a1_1) ∧ w'.cell? ⟨gb405, 2, none⟩ = some (.int .i64 a1_2) ∧ w'.cell? ⟨gb405, 3, none⟩ = some (.int .i64 a1_3) ∧ w'.cell? ⟨gb405, 4, none⟩ = some (.int .i64 a1_4) ∧ w'.cell? (ad411.add ((ji20)).toNat) = some (.slice A411_0 (rd_L4 l0_0 (ji20)).length c411_0)) ∧ (Kd.S (Kd.slice 27 k27) 40 w' w.heap.size (fun k_ => (w.heap.size ≤ k_) ∧ k_ ≠ gb404 ∧ k_ ≠ gb405 ∧ k_ ≠ gb406 ∧ k_ ≠ gb410 ∧ k_ ≠ s_) (.slice Ao13 t407.length co13) t407) ∧ (w'.heap[gb404]? = some (.cells #[.slice (some ad411) l0_0.length c0_0] 32 (0, 0))) ∧ (w'.heap[gb405]? = some (.cells #[.int .i64 a1_0, .int .i64 a1_1, .int .i64 a1_2, .int .i64 a1_3, .int .i64 a1_4] 27 (0, 0))) ∧ (w'.heap[gb406]? = some (.cells #[.slice none 0 0] 32 (0, 0))) ∧ (w'.heap[gb410]? = some (.cells #[.slice Ao13 t407.length co13] 32 (0, 0))) ∧ (w'.heap[s_]? = some (.cells #[.int .i64 0, .int .i64 0, .int .i64 0, .int .i64 0, .int .i64 0] 27 (0, 0))) ∧ (w.heap.size ≤ s_) ∧ (w.heap.size ≤ s_) ∧ (gb404 ≠ s_) ∧ (s_ ≠ gb404) ∧ (gb405 ≠ s_) ∧ (s_ ≠ gb405) ∧ (gb406 ≠ s_) ∧ (s_ ≠ gb406) ∧ (gb410 ≠ s_) ∧ (s_ ≠ gb410) ∧ (Below w.heap.size w w')) ?_ ?_
      rotate_left
      ·intro hCont
       refine two_ (i := 9) (j := 13) (Ni := some 31) (Nj := some 9) #[true, true, true, true, true, true, true, true, true, true, false, false, false, false, false, false] #[true, true, true, true, true, true, true, true, true, false, false, false, false, true, false, false] rfl rfl rfl rfl (two_of HT_.out (by kernel_rfl)) (by decide) (by decide) (fun K hK => ?_) (fun K hK => ?_)
       ·skip
        refine goes_ Try.func56 (by kernel_rfl) rfl #[.slice A411_0 (rd_L4 l0_0 (ji20)).length c411_0, .int .i64 a1_0, .int .i64 a1_1] (by rfl) rfl rfl (by (try simp only [List.map_toArray, List.map_cons, List.map_nil]); first | done | (simp only [hji20]; rfl) | rfl | (simp only [List.length_drop, List.length_take]; rfl)) ?_
        with_reducible refine (impl_SetAt.calls k _ _ (rd_L4 l0_0 (ji20)) a1_0 a1_1 t412 t413 t414 t415 t416 false _ ?side1 ?side2 A23.out).mono ?_
        (case side1 => exact (Kd.bN HR411_0.out HB.out))
        (case side2 => exact HC411_0.out)
        rintro e w37 ⟨rfl, hb⟩
        refine ⟨_, rfl, ?_⟩
        replace HO409 := aA.mk (Kd.bM HO409.out hb)
        replace BK404 := aA.mk (aG (g := gb404) (o := .cells #[.slice (some ad411) l0_0.length c0_0] 32 (0, 0)) BK404.out hb)
        replace BK405 := aA.mk (aG (g := gb405) (o := .cells #[.int .i64 a1_0, .int .i64 a1_1, .int .i64 a1_2, .int .i64 a1_3, .int .i64 a1_4] 27 (0, 0)) BK405.out hb)
        replace BK406 := aA.mk (aG (g := gb406) (o := .cells #[.slice none 0 0] 32 (0, 0)) BK406.out hb)
        replace BK410 := aA.mk (aG (g := gb410) (o := .cells #[.slice Ao13 t407.length co13] 32 (0, 0)) BK410.out hb)
        replace HB := aA.mk (aT (by repeat (first | (with_reducible first | exact HB.out | apply aN | apply aE | apply aH | refine aC ?_ GE404.out | refine aC ?_ GE405.out | refine aC ?_ GE406.out | refine aC ?_ GE410.out) | exact HB.out)) hb)
        (try clear hb)
        (try clear hb2)
        (try clear hk)
        (try clear hi)
        refine hK.out _ _ ⟨(aD BK404.out 0).trans rfl, (aD BK405.out 0).trans rfl, (aD BK405.out 1).trans rfl, (aD BK405.out 2).trans rfl, (aD BK405.out 3).trans rfl, (aD BK405.out 4).trans rfl, ((HB.out.cell (lD w _ hw411_0)).trans hw411_0)⟩ (fun hHeld => ?_)
        clear hK K
        refine bJ (a' := ?_) ?_ ?_
        rotate_left
        ·show Act.put _ (some 31) _ = _
         simp only [Act.put, lA, lB, lC, aU, aV]
         rfl
        refine aW (i := 10) (N := some 21) (v := ?_) (a' := ?_) #[true, true, true, true, true, true, true, true, true, true, true, false, false, false, false, false] rfl rfl (aZ HT_.out (by kernel_rfl)) (fun _ _ _ h => h) (Or.inl ⟨by rfl, ?_⟩) ?_ ?_
        rotate_left
        ·intro w'
         go_simp
         with_reducible rfl
        rotate_left
        ·simp only [Act.put, lA, lB, lC, aU, aV]
         rfl
        refine aW (i := 11) (N := some 32) (v := ?_) (a' := ?_) #[true, true, true, true, true, true, true, true, true, true, true, true, false, false, false, false] rfl rfl (aZ HT_.out (by kernel_rfl)) (fun _ _ _ h => h) (Or.inl ⟨by rfl, ?_⟩) ?_ ?_
        rotate_left
        ·intro w'
         go_simp
         with_reducible rfl
        rotate_left
        ·simp only [Act.put, lA, lB, lC, aU, aV]
         rfl
        refine aW (i := 12) (N := some 33) (v := ?_) (a' := ?_) #[true, true, true, true, true, true, true, true, true, true, true, true, true, false, false, false] rfl rfl (aZ HT_.out (by kernel_rfl)) (fun _ _ _ h => h) (Or.inl ⟨by rfl, ?_⟩) ?_ ?_
        rotate_left
        ·intro w'
         go_simp
         with_reducible rfl
        rotate_left
        ·simp only [Act.put, lA, lB, lC, aU, aV]
         rfl
        refine one_ (i := 13) (N := some 9) #[true, true, true, true, true, true, true, true, true, true, true, true, true, true, false, false] rfl rfl (one_of HT_.out (by kernel_rfl)) (by decide) (fun K hK => ?_)
        refine box_step ?hg (N := 9) ?hd (cs := #[.int .i64 0, .int .i64 0, .int .i64 0, .int .i64 0, .int .i64 0]) (t := 27) ?hr ?_; (case hd => rfl); (case hg => rfl); (case hr => first | (go_simp; done) | (go_simp; rfl))
        intro gb418 hg w38 hbox hb
        replace HO409 := aA.mk (Kd.bM (Kd.S_elderB HO409.out gb418 (Nat.le_of_eq hg.symm)) hb)
        have BK418 := aA.mk (hbox)
        have GW418 := aA.mk ((by rw [hg]; exact (aQ (by repeat (first | (with_reducible first | exact HB.out | apply aN | apply aE | apply aH | refine aC ?_ GE404.out | refine aC ?_ GE405.out | refine aC ?_ GE406.out | refine aC ?_ GE410.out) | exact HB.out))) : w.heap.size ≤ gb418))
        have GE418 := aA.mk ((by rw [hg]; exact (aQ (by repeat (first | (with_reducible first | exact HB.out | apply aN | apply aE | apply aH | refine aC ?_ GE404.out | refine aC ?_ GE405.out | refine aC ?_ GE406.out | refine aC ?_ GE410.out) | exact HB.out))) : w.heap.size ≤ gb418))
        replace HB := aA.mk (aT (by repeat (first | (with_reducible first | exact HB.out | apply aN | apply aE | apply aH | refine aC ?_ GE404.out | refine aC ?_ GE405.out | refine aC ?_ GE406.out | refine aC ?_ GE410.out) | exact HB.out)) hb)
        have NB404_418 := aA.mk ((by rw [hg]; exact Nat.ne_of_lt (aY (g := gb404) (o := .cells #[.slice (some ad411) l0_0.length c0_0] 32 (0, 0)) BK404.out) : gb404 ≠ gb418))
        have NB418_404 := aA.mk ((by rw [hg]; exact Nat.ne_of_gt (aY (g := gb404) (o := .cells #[.slice (some ad411) l0_0.length c0_0] 32 (0, 0)) BK404.out) : gb418 ≠ gb404))
        replace BK404 := aA.mk (aG (g := gb404) (o := .cells #[.slice (some ad411) l0_0.length c0_0] 32 (0, 0)) BK404.out hb)
        have NB405_418 := aA.mk ((by rw [hg]; exact Nat.ne_of_lt (aY (g := gb405) (o := .cells #[.int .i64 a1_0, .int .i64 a1_1, .int .i64 a1_2, .int .i64 a1_3, .int .i64 a1_4] 27 (0, 0)) BK405.out) : gb405 ≠ gb418))
        have NB418_405 := aA.mk ((by rw [hg]; exact Nat.ne_of_gt (aY (g := gb405) (o := .cells #[.int .i64 a1_0, .int .i64 a1_1, .int .i64 a1_2, .int .i64 a1_3, .int .i64 a1_4] 27 (0, 0)) BK405.out) : gb418 ≠ gb405))
        replace BK405 := aA.mk (aG (g := gb405) (o := .cells #[.int .i64 a1_0, .int .i64 a1_1, .int .i64 a1_2, .int .i64 a1_3, .int .i64 a1_4] 27 (0, 0)) BK405.out hb)
        have NB406_418 := aA.mk ((by rw [hg]; exact Nat.ne_of_lt (aY (g := gb406) (o := .cells #[.slice none 0 0] 32 (0, 0)) BK406.out) : gb406 ≠ gb418))
        have NB418_406 := aA.mk ((by rw [hg]; exact Nat.ne_of_gt (aY (g := gb406) (o := .cells #[.slice none 0 0] 32 (0, 0)) BK406.out) : gb418 ≠ gb406))
        replace BK406 := aA.mk (aG (g := gb406) (o := .cells #[.slice none 0 0] 32 (0, 0)) BK406.out hb)
        have NB410_418 := aA.mk ((by rw [hg]; exact Nat.ne_of_lt (aY (g := gb410) (o := .cells #[.slice Ao13 t407.length co13] 32 (0, 0)) BK410.out) : gb410 ≠ gb418))
        have NB418_410 := aA.mk ((by rw [hg]; exact Nat.ne_of_gt (aY (g := gb410) (o := .cells #[.slice Ao13 t407.length co13] 32 (0, 0)) BK410.out) : gb418 ≠ gb410))
        replace BK410 := aA.mk (aG (g := gb410) (o := .cells #[.slice Ao13 t407.length co13] 32 (0, 0)) BK410.out hb)
        clear hb hbox hg
        refine hK.out _ _ ⟨(aD BK404.out 0).trans rfl, (aD BK405.out 0).trans rfl, (aD BK405.out 1).trans rfl, (aD BK405.out 2).trans rfl, (aD BK405.out 3).trans rfl, (aD BK405.out 4).trans rfl, ((HB.out.cell (lD w _ hw411_0)).trans hw411_0)⟩ (fun hHeld => ?_)
        clear hK K
        refine bJ (a' := ?_) ?_ ?_
        rotate_left
        ·show Act.put _ (some 9) _ = _
         simp only [Act.put, lA, lB, lC, aU, aV]
         rfl
        exact bJ (by simp only [putAll, Act.put, lA, lB, lC]) (hCont (gb418) _ ⟨hHeld, (by (with_reducible repeat (first | apply Kd.S_alloc | apply Kd.S_drewN | apply Kd.S_drew)); exact Kd.bP HO409.out (fun _ hk => ⟨hk.1.1, ⟨hk.1.2.1, ⟨hk.1.2.2.1, ⟨hk.1.2.2.2.1, ⟨hk.1.2.2.2.2, hk.2⟩⟩⟩⟩⟩)), BK404.out, BK405.out, BK406.out, BK410.out, BK418.out, GW418.out, GE418.out, NB404_418.out, NB418_404.out, NB405_418.out, NB418_405.out, NB406_418.out, NB418_406.out, NB410_418.out, NB418_410.out, (by repeat (first | (with_reducible first | exact HB.out | apply aN | apply aE | apply aH | refine aC ?_ GE404.out | refine aC ?_ GE405.out | refine aC ?_ GE406.out | refine aC ?_ GE410.out | refine aC ?_ GE418.out) | exact HB.out))⟩)
       ·skip
        refine box_step ?hg (N := 9) ?hd (cs := #[.int .i64 0, .int .i64 0, .int .i64 0, .int .i64 0, .int .i64 0]) (t := 27) ?hr ?_; (case hd => rfl); (case hg => rfl); (case hr => first | (go_simp; done) | (go_simp; rfl))
        intro gb418 hg w37 hbox hb
        replace HO409 := aA.mk (Kd.bM (Kd.S_elderB HO409.out gb418 (Nat.le_of_eq hg.symm)) hb)
        have BK418 := aA.mk (hbox)
        have GW418 := aA.mk ((by rw [hg]; exact (aQ (by repeat (first | (with_reducible first | exact HB.out | apply aN | apply aE | apply aH | refine aC ?_ GE404.out | refine aC ?_ GE405.out | refine aC ?_ GE406.out | refine aC ?_ GE410.out) | exact HB.out))) : w.heap.size ≤ gb418))
        have GE418 := aA.mk ((by rw [hg]; exact (aQ (by repeat (first | (with_reducible first | exact HB.out | apply aN | apply aE | apply aH | refine aC ?_ GE404.out | refine aC ?_ GE405.out | refine aC ?_ GE406.out | refine aC ?_ GE410.out) | exact HB.out))) : w.heap.size ≤ gb418))
        replace HB := aA.mk (aT (by repeat (first | (with_reducible first | exact HB.out | apply aN | apply aE | apply aH | refine aC ?_ GE404.out | refine aC ?_ GE405.out | refine aC ?_ GE406.out | refine aC ?_ GE410.out) | exact HB.out)) hb)
        have NB404_418 := aA.mk ((by rw [hg]; exact Nat.ne_of_lt (aY (g := gb404) (o := .cells #[.slice (some ad411) l0_0.length c0_0] 32 (0, 0)) BK404.out) : gb404 ≠ gb418))
        have NB418_404 := aA.mk ((by rw [hg]; exact Nat.ne_of_gt (aY (g := gb404) (o := .cells #[.slice (some ad411) l0_0.length c0_0] 32 (0, 0)) BK404.out) : gb418 ≠ gb404))
        replace BK404 := aA.mk (aG (g := gb404) (o := .cells #[.slice (some ad411) l0_0.length c0_0] 32 (0, 0)) BK404.out hb)
        have NB405_418 := aA.mk ((by rw [hg]; exact Nat.ne_of_lt (aY (g := gb405) (o := .cells #[.int .i64 a1_0, .int .i64 a1_1, .int .i64 a1_2, .int .i64 a1_3, .int .i64 a1_4] 27 (0, 0)) BK405.out) : gb405 ≠ gb418))
        have NB418_405 := aA.mk ((by rw [hg]; exact Nat.ne_of_gt (aY (g := gb405) (o := .cells #[.int .i64 a1_0, .int .i64 a1_1, .int .i64 a1_2, .int .i64 a1_3, .int .i64 a1_4] 27 (0, 0)) BK405.out) : gb418 ≠ gb405))
        replace BK405 := aA.mk (aG (g := gb405) (o := .cells #[.int .i64 a1_0, .int .i64 a1_1, .int .i64 a1_2, .int .i64 a1_3, .int .i64 a1_4] 27 (0, 0)) BK405.out hb)
        have NB406_418 := aA.mk ((by rw [hg]; exact Nat.ne_of_lt (aY (g := gb406) (o := .cells #[.slice none 0 0] 32 (0, 0)) BK406.out) : gb406 ≠ gb418))
        have NB418_406 := aA.mk ((by rw [hg]; exact Nat.ne_of_gt (aY (g := gb406) (o := .cells #[.slice none 0 0] 32 (0, 0)) BK406.out) : gb418 ≠ gb406))
        replace BK406 := aA.mk (aG (g := gb406) (o := .cells #[.slice none 0 0] 32 (0, 0)) BK406.out hb)
        have NB410_418 := aA.mk ((by rw [hg]; exact Nat.ne_of_lt (aY (g := gb410) (o := .cells #[.slice Ao13 t407.length co13] 32 (0, 0)) BK410.out) : gb410 ≠ gb418))
        have NB418_410 := aA.mk ((by rw [hg]; exact Nat.ne_of_gt (aY (g := gb410) (o := .cells #[.slice Ao13 t407.length co13] 32 (0, 0)) BK410.out) : gb418 ≠ gb410))
        replace BK410 := aA.mk (aG (g := gb410) (o := .cells #[.slice Ao13 t407.length co13] 32 (0, 0)) BK410.out hb)
        clear hb hbox hg
        refine hK.out _ _ ⟨(aD BK404.out 0).trans rfl, (aD BK405.out 0).trans rfl, (aD BK405.out 1).trans rfl, (aD BK405.out 2).trans rfl, (aD BK405.out 3).trans rfl, (aD BK405.out 4).trans rfl, ((HB.out.cell (lD w _ hw411_0)).trans hw411_0)⟩ (fun hHeld => ?_)
        clear hK K
        refine bJ (a' := ?_) ?_ ?_
        rotate_left
        ·show Act.put _ (some 9) _ = _
         simp only [Act.put, lA, lB, lC, aU, aV]
         rfl
        refine one_ (i := 9) (N := some 31) #[true, true, true, true, true, true, true, true, true, true, false, false, false, true, false, false] rfl rfl (one_of HT_.out (by kernel_rfl)) (by decide) (fun K hK => ?_)
        refine goes_ Try.func56 (by kernel_rfl) rfl #[.slice A411_0 (rd_L4 l0_0 (ji20)).length c411_0, .int .i64 a1_0, .int .i64 a1_1] (by rfl) rfl rfl (by (try simp only [List.map_toArray, List.map_cons, List.map_nil]); first | done | (simp only [hji20]; rfl) | rfl | (simp only [List.length_drop, List.length_take]; rfl)) ?_
        with_reducible refine (impl_SetAt.calls k _ _ (rd_L4 l0_0 (ji20)) a1_0 a1_1 t412 t413 t414 t415 t416 false _ ?side1 ?side2 A23.out).mono ?_
        (case side1 => exact (Kd.bN HR411_0.out HB.out))
        (case side2 => exact HC411_0.out)
        rintro e w38 ⟨rfl, hb⟩
        refine ⟨_, rfl, ?_⟩
        replace HO409 := aA.mk (Kd.bM HO409.out hb)
        replace BK404 := aA.mk (aG (g := gb404) (o := .cells #[.slice (some ad411) l0_0.length c0_0] 32 (0, 0)) BK404.out hb)
        replace BK405 := aA.mk (aG (g := gb405) (o := .cells #[.int .i64 a1_0, .int .i64 a1_1, .int .i64 a1_2, .int .i64 a1_3, .int .i64 a1_4] 27 (0, 0)) BK405.out hb)
        replace BK406 := aA.mk (aG (g := gb406) (o := .cells #[.slice none 0 0] 32 (0, 0)) BK406.out hb)
        replace BK410 := aA.mk (aG (g := gb410) (o := .cells #[.slice Ao13 t407.length co13] 32 (0, 0)) BK410.out hb)
        replace BK418 := aA.mk (aG (g := gb418) (o := .cells #[.int .i64 0, .int .i64 0, .int .i64 0, .int .i64 0, .int .i64 0] 27 (0, 0)) BK418.out hb)
        replace HB := aA.mk (aT (by repeat (first | (with_reducible first | exact HB.out | apply aN | apply aE | apply aH | refine aC ?_ GE404.out | refine aC ?_ GE405.out | refine aC ?_ GE406.out | refine aC ?_ GE410.out | refine aC ?_ GE418.out) | exact HB.out)) hb)
        (try clear hb)
        (try clear hb2)
        (try clear hk)
        (try clear hi)
        refine hK.out _ _ ⟨(aD BK404.out 0).trans rfl, (aD BK405.out 0).trans rfl, (aD BK405.out 1).trans rfl, (aD BK405.out 2).trans rfl, (aD BK405.out 3).trans rfl, (aD BK405.out 4).trans rfl, ((HB.out.cell (lD w _ hw411_0)).trans hw411_0)⟩ (fun hHeld => ?_)
        clear hK K
        refine bJ (a' := ?_) ?_ ?_
        rotate_left
        ·show Act.put _ (some 31) _ = _
         simp only [Act.put, lA, lB, lC, aU, aV]
         rfl
        refine aW (i := 10) (N := some 21) (v := ?_) (a' := ?_) #[true, true, true, true, true, true, true, true, true, true, true, false, false, true, false, false] rfl rfl (aZ HT_.out (by kernel_rfl)) (fun _ _ _ h => h) (Or.inl ⟨by rfl, ?_⟩) ?_ ?_
        rotate_left
        ·intro w'
         go_simp
         with_reducible rfl
        rotate_left
        ·simp only [Act.put, lA, lB, lC, aU, aV]
         rfl
        refine aW (i := 11) (N := some 32) (v := ?_) (a' := ?_) #[true, true, true, true, true, true, true, true, true, true, true, true, false, true, false, false] rfl rfl (aZ HT_.out (by kernel_rfl)) (fun _ _ _ h => h) (Or.inl ⟨by rfl, ?_⟩) ?_ ?_
        rotate_left
        ·intro w'
         go_simp
         with_reducible rfl
        rotate_left
        ·simp only [Act.put, lA, lB, lC, aU, aV]
         rfl
        refine aW (i := 12) (N := some 33) (v := ?_) (a' := ?_) #[true, true, true, true, true, true, true, true, true, true, true, true, true, true, false, false] rfl rfl (aZ HT_.out (by kernel_rfl)) (fun _ _ _ h => h) (Or.inl ⟨by rfl, ?_⟩) ?_ ?_
        rotate_left
        ·intro w'
         go_simp
         with_reducible rfl
        rotate_left
        ·simp only [Act.put, lA, lB, lC, aU, aV]
         rfl
        exact bJ (by simp only [putAll, Act.put, lA, lB, lC]) (hCont (gb418) _ ⟨hHeld, (by (with_reducible repeat (first | apply Kd.S_alloc | apply Kd.S_drewN | apply Kd.S_drew)); exact Kd.bP HO409.out (fun _ hk => ⟨hk.1.1, ⟨hk.1.2.1, ⟨hk.1.2.2.1, ⟨hk.1.2.2.2.1, ⟨hk.1.2.2.2.2, hk.2⟩⟩⟩⟩⟩)), BK404.out, BK405.out, BK406.out, BK410.out, BK418.out, GW418.out, GE418.out, NB404_418.out, NB418_404.out, NB405_418.out, NB418_405.out, NB406_418.out, NB418_406.out, NB410_418.out, NB418_410.out, (by repeat (first | (with_reducible first | exact HB.out | apply aN | apply aE | apply aH | refine aC ?_ GE404.out | refine aC ?_ GE405.out | refine aC ?_ GE406.out | refine aC ?_ GE410.out | refine aC ?_ GE418.out) | exact HB.out))⟩)
      rintro gb418 w39 ⟨hS_, h0_, h1_, h2_, h3_, h4_, h5_, h6_, h7_, h8_, h9_, h10_, h11_, h12_, h13_, h14_, h15_, h16_⟩
      have n0_ : aA (Kd.S (Kd.slice 27 k27) 40 w39 w.heap.size (fun k_ => (w.heap.size ≤ k_) ∧ k_ ≠ gb404 ∧ k_ ≠ gb405 ∧ k_ ≠ gb406 ∧ k_ ≠ gb410 ∧ k_ ≠ gb418) (.slice Ao13 t407.length co13) t407) := ⟨h0_⟩
      have n1_ : aA (w39.heap[gb404]? = some (.cells #[.slice (some ad411) l0_0.length c0_0] 32 (0, 0))) := ⟨h1_⟩
      have n2_ : aA (w39.heap[gb405]? = some (.cells #[.int .i64 a1_0, .int .i64 a1_1, .int .i64 a1_2, .int .i64 a1_3, .int .i64 a1_4] 27 (0, 0))) := ⟨h2_⟩
      have n3_ : aA (w39.heap[gb406]? = some (.cells #[.slice none 0 0] 32 (0, 0))) := ⟨h3_⟩
      have n4_ : aA (w39.heap[gb410]? = some (.cells #[.slice Ao13 t407.length co13] 32 (0, 0))) := ⟨h4_⟩
      have n5_ : aA (w39.heap[gb418]? = some (.cells #[.int .i64 0, .int .i64 0, .int .i64 0, .int .i64 0, .int .i64 0] 27 (0, 0))) := ⟨h5_⟩
      have n6_ : aA (w.heap.size ≤ gb418) := ⟨h6_⟩
      have n7_ : aA (w.heap.size ≤ gb418) := ⟨h7_⟩
      have n8_ : aA (gb404 ≠ gb418) := ⟨h8_⟩
      have n9_ : aA (gb418 ≠ gb404) := ⟨h9_⟩
      have n10_ : aA (gb405 ≠ gb418) := ⟨h10_⟩
      have n11_ : aA (gb418 ≠ gb405) := ⟨h11_⟩
      have n12_ : aA (gb406 ≠ gb418) := ⟨h12_⟩
      have n13_ : aA (gb418 ≠ gb406) := ⟨h13_⟩
      have n14_ : aA (gb410 ≠ gb418) := ⟨h14_⟩
      have n15_ : aA (gb418 ≠ gb410) := ⟨h15_⟩
      have n16_ : aA (Below w.heap.size w w39) := ⟨h16_⟩
      clear HO409
      clear BK404
      clear BK405
      clear BK406
      clear BK410
      clear HB
      clear h0_ h1_ h2_ h3_ h4_ h5_ h6_ h7_ h8_ h9_ h10_ h11_ h12_ h13_ h14_ h15_ h16_
      have HO409 := n0_
      have BK404 := n1_
      have BK405 := n2_
      have BK406 := n3_
      have BK410 := n4_
      have BK418 := n5_
      have GW418 := n6_
      have GE418 := n7_
      have NB404_418 := n8_
      have NB418_404 := n9_
      have NB405_418 := n10_
      have NB418_405 := n11_
      have NB406_418 := n12_
      have NB418_406 := n13_
      have NB410_418 := n14_
      have NB418_410 := n15_
      have HB := n16_
      clear n0_ n1_ n2_ n3_ n4_ n5_ n6_ n7_ n8_ n9_ n10_ n11_ n12_ n13_ n14_ n15_ n16_
      have hHeld : w39.cell? ⟨gb404, 0, none⟩ = some (.slice (some ad411) l0_0.length c0_0) ∧ w39.cell? ⟨gb405, 0, none⟩ = some (.int .i64 a1_0) ∧ w39.cell? ⟨gb405, 1, none⟩ = some (.int .i64 a1_1) ∧ w39.cell? ⟨gb405, 2, none⟩ = some (.int .i64 a1_2) ∧ w39.cell? ⟨gb405, 3, none⟩ = some (.int .i64 a1_3) ∧ w39.cell? ⟨gb405, 4, none⟩ = some (.int .i64 a1_4) ∧ w39.cell? (ad411.add ((ji20)).toNat) = some (.slice A411_0 (rd_L4 l0_0 (ji20)).length c411_0) := hS_
      refine bJ (a' := ?_) ?_ ?_
      rotate_left
      ·simp only [putAll, Act.put, lA, lB, lC]
       rfl
      refine one_ (i := 14) (N := none) #[true, true, true, true, true, true, true, true, true, true, true, true, true, true, true, false] rfl rfl (one_of HT_.out (by kernel_rfl)) (by decide) (fun K hK => ?_)
      have hs40 : w39.cell? ⟨gb418, 0, none⟩ = some (.int .i64 0) := (aD BK418.out 0).trans rfl
      have hfs40 := aX BK418.out 0
      have hns40_0 := NB404_418.out
      have hns40_1 := NB405_418.out
      have hns40_2 := NB406_418.out
      have hns40_3 := NB410_418.out
      have hms40_0 := NB418_404.out
      have hms40_1 := NB418_405.out
      have hms40_2 := NB418_406.out
      have hms40_3 := NB418_410.out
      have hs41 : w39.cell? ⟨gb418, 1, none⟩ = some (.int .i64 0) := (aD BK418.out 1).trans rfl
      have hfs41 := aX BK418.out 1
      have hns41_0 := NB404_418.out
      have hns41_1 := NB405_418.out
      have hns41_2 := NB406_418.out
      have hns41_3 := NB410_418.out
      have hms41_0 := NB418_404.out
      have hms41_1 := NB418_405.out
      have hms41_2 := NB418_406.out
      have hms41_3 := NB418_410.out
      have hs42 : w39.cell? ⟨gb418, 2, none⟩ = some (.int .i64 0) := (aD BK418.out 2).trans rfl
      have hfs42 := aX BK418.out 2
      have hns42_0 := NB404_418.out
      have hns42_1 := NB405_418.out
      have hns42_2 := NB406_418.out
      have hns42_3 := NB410_418.out
      have hms42_0 := NB418_404.out
      have hms42_1 := NB418_405.out
      have hms42_2 := NB418_406.out
      have hms42_3 := NB418_410.out
      have hs43 : w39.cell? ⟨gb418, 3, none⟩ = some (.int .i64 0) := (aD BK418.out 3).trans rfl
      have hfs43 := aX BK418.out 3
      have hns43_0 := NB404_418.out
      have hns43_1 := NB405_418.out
      have hns43_2 := NB406_418.out
      have hns43_3 := NB410_418.out
      have hms43_0 := NB418_404.out
      have hms43_1 := NB418_405.out
      have hms43_2 := NB418_406.out
      have hms43_3 := NB418_410.out
      have hs44 : w39.cell? ⟨gb418, 4, none⟩ = some (.int .i64 0) := (aD BK418.out 4).trans rfl
      have hfs44 := aX BK418.out 4
      have hns44_0 := NB404_418.out
      have hns44_1 := NB405_418.out
      have hns44_2 := NB406_418.out
      have hns44_3 := NB410_418.out
      have hms44_0 := NB418_404.out
      have hms44_1 := NB418_405.out
      have hms44_2 := NB418_406.out
      have hms44_3 := NB418_410.out
      refine skip_ (w1 := ?_) (by rfl) rfl ?_ ?_
      rotate_left
      ·go_simp
       rfl
      refine hK.out _ _ ⟨((bG (p := ⟨gb418, _, none⟩) NB404_418.out _).trans (((bG (p := ⟨gb418, _, none⟩) NB404_418.out _).trans (((bG (p := ⟨gb418, _, none⟩) NB404_418.out _).trans (((bG (p := ⟨gb418, _, none⟩) NB404_418.out _).trans (((bG (p := ⟨gb418, _, none⟩) NB404_418.out _).trans (hHeld.1)))))))))), ((bG (p := ⟨gb418, _, none⟩) NB405_418.out _).trans (((bG (p := ⟨gb418, _, none⟩) NB405_418.out _).trans (((bG (p := ⟨gb418, _, none⟩) NB405_418.out _).trans (((bG (p := ⟨gb418, _, none⟩) NB405_418.out _).trans (((bG (p := ⟨gb418, _, none⟩) NB405_418.out _).trans (hHeld.2.1)))))))))), ((bG (p := ⟨gb418, _, none⟩) NB405_418.out _).trans (((bG (p := ⟨gb418, _, none⟩) NB405_418.out _).trans (((bG (p := ⟨gb418, _, none⟩) NB405_418.out _).trans (((bG (p := ⟨gb418, _, none⟩) NB405_418.out _).trans (((bG (p := ⟨gb418, _, none⟩) NB405_418.out _).trans (hHeld.2.2.1)))))))))), ((bG (p := ⟨gb418, _, none⟩) NB405_418.out _).trans (((bG (p := ⟨gb418, _, none⟩) NB405_418.out _).trans (((bG (p := ⟨gb418, _, none⟩) NB405_418.out _).trans (((bG (p := ⟨gb418, _, none⟩) NB405_418.out _).trans (((bG (p := ⟨gb418, _, none⟩) NB405_418.out _).trans (hHeld.2.2.2.1)))))))))), ((bG (p := ⟨gb418, _, none⟩) NB405_418.out _).trans (((bG (p := ⟨gb418, _, none⟩) NB405_418.out _).trans (((bG (p := ⟨gb418, _, none⟩) NB405_418.out _).trans (((bG (p := ⟨gb418, _, none⟩) NB405_418.out _).trans (((bG (p := ⟨gb418, _, none⟩) NB405_418.out _).trans (hHeld.2.2.2.2.1)))))))))), ((bG (p := ⟨gb418, _, none⟩) NB405_418.out _).trans (((bG (p := ⟨gb418, _, none⟩) NB405_418.out _).trans (((bG (p := ⟨gb418, _, none⟩) NB405_418.out _).trans (((bG (p := ⟨gb418, _, none⟩) NB405_418.out _).trans (((bG (p := ⟨gb418, _, none⟩) NB405_418.out _).trans (hHeld.2.2.2.2.2.1)))))))))), ((bG (p := ⟨gb418, _, none⟩) (by first | exact Nat.ne_of_lt (Nat.lt_of_lt_of_le (by have := lD _ _ hw411_0; first | rwa [bF] at this | exact this) GW418.out) | (rw [bF]; exact Nat.ne_of_lt (Nat.lt_of_lt_of_le (by have := lD _ _ hw411_0; first | rwa [bF] at this | exact this) GW418.out)) | (show (Addr.add _ _).block ≠ _; rw [bF]; exact Nat.ne_of_lt (Nat.lt_of_lt_of_le (by have := lD _ _ hw411_0; first | rwa [bF] at this | exact this) GW418.out)) | (dsimp only; exact Nat.ne_of_lt (Nat.lt_of_lt_of_le (by have := lD _ _ hw411_0; first | rwa [bF] at this | exact this) GW418.out))) _).trans (((bG (p := ⟨gb418, _, none⟩) (by first | exact Nat.ne_of_lt (Nat.lt_of_lt_of_le (by have := lD _ _ hw411_0; first | rwa [bF] at this | exact this) GW418.out) | (rw [bF]; exact Nat.ne_of_lt (Nat.lt_of_lt_of_le (by have := lD _ _ hw411_0; first | rwa [bF] at this | exact this) GW418.out)) | (show (Addr.add _ _).block ≠ _; rw [bF]; exact Nat.ne_of_lt (Nat.lt_of_lt_of_le (by have := lD _ _ hw411_0; first | rwa [bF] at this | exact this) GW418.out)) | (dsimp only; exact Nat.ne_of_lt (Nat.lt_of_lt_of_le (by have := lD _ _ hw411_0; first | rwa [bF] at this | exact this) GW418.out))) _).trans (((bG (p := ⟨gb418, _, none⟩) (by first | exact Nat.ne_of_lt (Nat.lt_of_lt_of_le (by have := lD _ _ hw411_0; first | rwa [bF] at this | exact this) GW418.out) | (rw [bF]; exact Nat.ne_of_lt (Nat.lt_of_lt_of_le (by have := lD _ _ hw411_0; first | rwa [bF] at this | exact this) GW418.out)) | (show (Addr.add _ _).block ≠ _; rw [bF]; exact Nat.ne_of_lt (Nat.lt_of_lt_of_le (by have := lD _ _ hw411_0; first | rwa [bF] at this | exact this) GW418.out)) | (dsimp only; exact Nat.ne_of_lt (Nat.lt_of_lt_of_le (by have := lD _ _ hw411_0; first | rwa [bF] at this | exact this) GW418.out))) _).trans (((bG (p := ⟨gb418, _, none⟩) (by first | exact Nat.ne_of_lt (Nat.lt_of_lt_of_le (by have := lD _ _ hw411_0; first | rwa [bF] at this | exact this) GW418.out) | (rw [bF]; exact Nat.ne_of_lt (Nat.lt_of_lt_of_le (by have := lD _ _ hw411_0; first | rwa [bF] at this | exact this) GW418.out)) | (show (Addr.add _ _).block ≠ _; rw [bF]; exact Nat.ne_of_lt (Nat.lt_of_lt_of_le (by have := lD _ _ hw411_0; first | rwa [bF] at this | exact this) GW418.out)) | (dsimp only; exact Nat.ne_of_lt (Nat.lt_of_lt_of_le (by have := lD _ _ hw411_0; first | rwa [bF] at this | exact this) GW418.out))) _).trans (((bG (p := ⟨gb418, _, none⟩) (by first | exact Nat.ne_of_lt (Nat.lt_of_lt_of_le (by have := lD _ _ hw411_0; first | rwa [bF] at this | exact this) GW418.out) | (rw [bF]; exact Nat.ne_of_lt (Nat.lt_of_lt_of_le (by have := lD _ _ hw411_0; first | rwa [bF] at this | exact this) GW418.out)) | (show (Addr.add _ _).block ≠ _; rw [bF]; exact Nat.ne_of_lt (Nat.lt_of_lt_of_le (by have := lD _ _ hw411_0; first | rwa [bF] at this | exact this) GW418.out)) | (dsimp only; exact Nat.ne_of_lt (Nat.lt_of_lt_of_le (by have := lD _ _ hw411_0; first | rwa [bF] at this | exact this) GW418.out))) _).trans (hHeld.2.2.2.2.2.2))))))))))⟩ (fun hHeld => ?_)
      clear hK K
      refine aW (i := 15) (N := some 10) (v := ?_) (a' := ?_) #[true, true, true, true, true, true, true, true, true, true, true, true, true, true, true, true] rfl rfl (aZ HT_.out (by kernel_rfl)) (fun _ _ _ h => h) (Or.inl ⟨by rfl, ?_⟩) ?_ ?_
      rotate_left
      ·intro w'
       go_simp
       with_reducible rfl
      rotate_left
      ·simp only [Act.put, lA, lB, lC, aU, aV]
       rfl
      refine done_ (done_of HT_.out (by kernel_rfl)) ?_
      have hnb45 := NB404_405.out
      have hnc45 := NB405_404.out
      have hnb46 := NB404_406.out
      have hnc46 := NB406_404.out
      have hnb47 := NB404_410.out
      have hnc47 := NB410_404.out
      have hnb48 := NB404_418.out
      have hnc48 := NB418_404.out
      have hcz49_0 := cs1 BK404.out
      have hfz49_0 := fs1 BK404.out
      have p419 : 0 ≤ ((ji20) : Int) := lE (by assumption)
      have q419 : (ji20) < (l0_0.length : Int) := lE (by assumption)
      obtain ⟨ad419, A419_0, c419_0, e419, hx419_0, hl419_0, hi419_0⟩ := at_L4 HR0_0.out (ji20) p419 q419
      obtain rfl : ad411 = ad419 := (by injection e419)
      have hn419_0 : ad411.block ≠ gb418 := Nat.ne_of_lt (Nat.lt_of_lt_of_le (by have := lD _ _ hx419_0; first | rwa [bF] at this | exact this) GW418.out)
      have hn419_1 : ad411.block ≠ gb418 := Nat.ne_of_lt (Nat.lt_of_lt_of_le (by have := lD _ _ hx419_0; first | rwa [bF] at this | exact this) GW418.out)
      have hn419_2 : ad411.block ≠ gb418 := Nat.ne_of_lt (Nat.lt_of_lt_of_le (by have := lD _ _ hx419_0; first | rwa [bF] at this | exact this) GW418.out)
      have hn419_3 : ad411.block ≠ gb418 := Nat.ne_of_lt (Nat.lt_of_lt_of_le (by have := lD _ _ hx419_0; first | rwa [bF] at this | exact this) GW418.out)
      have hn419_4 : ad411.block ≠ gb418 := Nat.ne_of_lt (Nat.lt_of_lt_of_le (by have := lD _ _ hx419_0; first | rwa [bF] at this | exact this) GW418.out)
      replace hx419_0 := (HB.out.cell (lD w _ hx419_0)).trans hx419_0
      have HR419_0 := aA.mk hi419_0
      have HC419_0 := aA.mk hl419_0
      clear hi419_0 hl419_0
      replace hx419_0 := (bG (p := ⟨gb418, 0, none⟩) (by first | (rw [bF]; exact hn419_0) | (show (Addr.add _ _).block ≠ _; rw [bF]; exact hn419_0) | exact hn419_0) (.int .i64 t412)).trans hx419_0
      replace hx419_0 := (bG (p := ⟨gb418, 1, none⟩) (by first | (rw [bF]; exact hn419_1) | (show (Addr.add _ _).block ≠ _; rw [bF]; exact hn419_1) | exact hn419_1) (.int .i64 t413)).trans hx419_0
      replace hx419_0 := (bG (p := ⟨gb418, 2, none⟩) (by first | (rw [bF]; exact hn419_2) | (show (Addr.add _ _).block ≠ _; rw [bF]; exact hn419_2) | exact hn419_2) (.int .i64 t414)).trans hx419_0
      replace hx419_0 := (bG (p := ⟨gb418, 3, none⟩) (by first | (rw [bF]; exact hn419_3) | (show (Addr.add _ _).block ≠ _; rw [bF]; exact hn419_3) | exact hn419_3) (.int .i64 t415)).trans hx419_0
      replace hx419_0 := (bG (p := ⟨gb418, 4, none⟩) (by first | (rw [bF]; exact hn419_4) | (show (Addr.add _ _).block ≠ _; rw [bF]; exact hn419_4) | exact hn419_4) (.int .i64 t416)).trans hx419_0
      clear hn419_0
      clear hn419_1
      clear hn419_2
      clear hn419_3
      clear hn419_4
      replace p419 := eq_true p419
      replace q419 := eq_true q419
      try go_wp2
      subst hji20
      go_meet
      case rel => exact ⟨_, (decide (((rd_L4 l0_0 (((wrap64 ((l0_0.length : Int) - 1))))).length : Int) < 4)), (by first | rfl | (simp; done) | (simp only [← hji20] <;> (first | rfl | simp)) | (simp [*]; done)), H', ⟨by first | omega | exact Nat.le_refl _⟩, ⟨by (with_reducible repeat (first | apply Kd.S_alloc | apply Kd.S_drewN | apply Kd.S_drew)); exact Kd.bP (Kd.S_far (p := ⟨gb418, 4, none⟩) (Kd.S_far (p := ⟨gb418, 3, none⟩) (Kd.S_far (p := ⟨gb418, 2, none⟩) (Kd.S_far (p := ⟨gb418, 1, none⟩) (Kd.S_far (p := ⟨gb418, 0, none⟩) (Kd.bP HO409.out (fun k_ hk => (⟨hk, hk.2.2.2.2.2⟩ : _ ∧ k_ ≠ gb418))) (fun _ hk => hk.2) (.int .i64 t412)) (fun _ hk => hk.2) (.int .i64 t413)) (fun _ hk => hk.2) (.int .i64 t414)) (fun _ hk => hk.2) (.int .i64 t415)) (fun _ hk => hk.2) (.int .i64 t416)) (fun _ hk => ⟨hk.1.1, ⟨hk.1.2.1, ⟨hk.1.2.2.1, ⟨hk.1.2.2.2.1, hk.1.2.2.2.2.1⟩⟩⟩⟩)⟩, ⟨by (with_reducible repeat (first | refine aM ?_ _ | refine aJ ?_ | refine aK ?_ _)); refine bB ?_ NB404_418.out _; (with_reducible repeat (first | refine aM ?_ _ | refine aJ ?_ | refine aK ?_ _)); refine bB ?_ NB404_418.out _; (with_reducible repeat (first | refine aM ?_ _ | refine aJ ?_ | refine aK ?_ _)); refine bB ?_ NB404_418.out _; (with_reducible repeat (first | refine aM ?_ _ | refine aJ ?_ | refine aK ?_ _)); refine bB ?_ NB404_418.out _; (with_reducible repeat (first | refine aM ?_ _ | refine aJ ?_ | refine aK ?_ _)); refine bB ?_ NB404_418.out _; (with_reducible repeat (first | refine aM ?_ _ | refine aJ ?_ | refine aK ?_ _)); exact BK404.out⟩, ⟨by (with_reducible repeat (first | refine aM ?_ _ | refine aJ ?_ | refine aK ?_ _)); refine bB ?_ NB405_418.out _; (with_reducible repeat (first | refine aM ?_ _ | refine aJ ?_ | refine aK ?_ _)); refine bB ?_ NB405_418.out _; (with_reducible repeat (first | refine aM ?_ _ | refine aJ ?_ | refine aK ?_ _)); refine bB ?_ NB405_418.out _; (with_reducible repeat (first | refine aM ?_ _ | refine aJ ?_ | refine aK ?_ _)); refine bB ?_ NB405_418.out _; (with_reducible repeat (first | refine aM ?_ _ | refine aJ ?_ | refine aK ?_ _)); refine bB ?_ NB405_418.out _; (with_reducible repeat (first | refine aM ?_ _ | refine aJ ?_ | refine aK ?_ _)); exact BK405.out⟩, ⟨by (with_reducible repeat (first | refine aM ?_ _ | refine aJ ?_ | refine aK ?_ _)); refine bB ?_ NB406_418.out _; (with_reducible repeat (first | refine aM ?_ _ | refine aJ ?_ | refine aK ?_ _)); refine bB ?_ NB406_418.out _; (with_reducible repeat (first | refine aM ?_ _ | refine aJ ?_ | refine aK ?_ _)); refine bB ?_ NB406_418.out _; (with_reducible repeat (first | refine aM ?_ _ | refine aJ ?_ | refine aK ?_ _)); refine bB ?_ NB406_418.out _; (with_reducible repeat (first | refine aM ?_ _ | refine aJ ?_ | refine aK ?_ _)); refine bB ?_ NB406_418.out _; (with_reducible repeat (first | refine aM ?_ _ | refine aJ ?_ | refine aK ?_ _)); exact BK406.out⟩, ⟨by (with_reducible repeat (first | refine aM ?_ _ | refine aJ ?_ | refine aK ?_ _)); refine bB ?_ NB410_418.out _; (with_reducible repeat (first | refine aM ?_ _ | refine aJ ?_ | refine aK ?_ _)); refine bB ?_ NB410_418.out _; (with_reducible repeat (first | refine aM ?_ _ | refine aJ ?_ | refine aK ?_ _)); refine bB ?_ NB410_418.out _; (with_reducible repeat (first | refine aM ?_ _ | refine aJ ?_ | refine aK ?_ _)); refine bB ?_ NB410_418.out _; (with_reducible repeat (first | refine aM ?_ _ | refine aJ ?_ | refine aK ?_ _)); refine bB ?_ NB410_418.out _; (with_reducible repeat (first | refine aM ?_ _ | refine aJ ?_ | refine aK ?_ _)); exact BK410.out⟩, ⟨by repeat (first | (with_reducible first | exact HB.out | apply aN | apply aE | apply aH | refine aC ?_ GE404.out | refine aC ?_ GE405.out | refine aC ?_ GE406.out | refine aC ?_ GE410.out | refine aC ?_ GE418.out) | exact HB.out)⟩⟩
    ·rw [if_neg c22] at H
     exact absurd H (by simp)
   ·rw [if_neg c21] at H
    exact absurd H (by simp)
  ·rw [if_neg c19] at H
   have c19b0 : decide (0 ≤ (wrap64 ((l0_0.length : Int) - 1))) = false := decide_eq_false c19
   clear c19
   (first | rw [c19b0] | (simp only [aU, aV]; rw [c19b0]) | skip)
   have H' := aA.mk H
   clear H
   go_wp2
   go_meet
   case rel => exact ⟨_, (false), (by first | rfl | (simp; done) | (simp [*]; done)), H', ⟨by first | omega | exact Nat.le_refl _⟩, ⟨by (with_reducible repeat (first | apply Kd.S_alloc | apply Kd.S_drewN | apply Kd.S_drew)); exact Kd.bP (Kd.S_far (p := ⟨gb410, 0, none⟩) (Kd.bP HO409.out (fun k_ hk => (⟨hk, hk.2⟩ : _ ∧ k_ ≠ gb410))) (fun _ hk => hk.2) (.slice Ao13 t407.length co13)) (fun _ hk => ⟨hk.1.1.1, ⟨hk.1.1.2.1, ⟨hk.1.1.2.2.1, ⟨hk.1.1.2.2.2, hk.1.2⟩⟩⟩⟩)⟩, ⟨by (with_reducible repeat (first | refine aM ?_ _ | refine aJ ?_ | refine aK ?_ _)); refine bB ?_ NB404_410.out _; (with_reducible repeat (first | refine aM ?_ _ | refine aJ ?_ | refine aK ?_ _)); exact BK404.out⟩, ⟨by (with_reducible repeat (first | refine aM ?_ _ | refine aJ ?_ | refine aK ?_ _)); refine bB ?_ NB405_410.out _; (with_reducible repeat (first | refine aM ?_ _ | refine aJ ?_ | refine aK ?_ _)); exact BK405.out⟩, ⟨by (with_reducible repeat (first | refine aM ?_ _ | refine aJ ?_ | refine aK ?_ _)); refine bB ?_ NB406_410.out _; (with_reducible repeat (first | refine aM ?_ _ | refine aJ ?_ | refine aK ?_ _)); exact BK406.out⟩, ⟨by (with_reducible repeat (first | refine aM ?_ _ | refine aJ ?_ | refine aK ?_ _)); refine bE (cs := #[.slice none 0 0]) ?_ 0 _ rfl; (with_reducible repeat (first | refine aM ?_ _ | refine aJ ?_ | refine aK ?_ _)); exact BK410.out⟩, ⟨by repeat (first | (with_reducible first | exact HB.out | apply aN | apply aE | apply aH | refine aC ?_ GE404.out | refine aC ?_ GE405.out | refine aC ?_ GE406.out | refine aC ?_ GE410.out) | exact HB.out)⟩⟩
 case rest =>
  clear HC4
  try clear c1
  try clear c2
  try clear p2
  try clear c4
  try clear p4
  try clear q4
  try clear hx4
  try clear c5
  try clear p6
  try clear c19
  try clear c19b0
  try clear c21
  try clear c22
  try clear c24
  try clear c41
  try clear p41
  try clear q41
  try clear hx41
  try clear c45
  try clear c46
  try clear c47
  try clear c48
  try clear hcz49_0
  try clear hfz49_0
  try clear hx411_0
  try clear hx419_0
  try clear p411
  try clear p419
  try clear q411
  try clear q419
  obtain ⟨kq, x8_3, rfl, HA, HJ3, HO_411000, BK404, BK405, BK406, BK410, HB⟩ := hcut
  cases kq with
  | zero => exact absurd HA.out (by simp [impl_NodePut.j0])
  | succ kj3 =>
   have H := HA.out
   clear HA
   simp only [impl_NodePut.j0] at H
   have HC50 := aA.mk H
   clear H
   go_upto_if 44 with (fail)
   go_cut [] (fun wc => ∃ (kq : Nat) (x411000_49 : List (List (S27))) (u411000 : Value), aA (impl_NodePut.j1 kq l0_0 a1_0 a1_1 a1_2 a1_3 a1_4 x411000_49 = some (r1, r2)) ∧ aA (kq ≤ kj3) ∧ aA (Kd.S (Kd.slice 27 k27) 40 wc w.heap.size (fun k_ => (w.heap.size ≤ k_) ∧ k_ ≠ gb404 ∧ k_ ≠ gb405 ∧ k_ ≠ gb406 ∧ k_ ≠ gb410) u411000 x411000_49) ∧ aA (wc.heap[gb404]? = some (.cells #[(.slice A0_0 l0_0.length c0_0)] 32 (0, 0))) ∧ aA (wc.heap[gb405]? = some (.cells #[.int .i64 a1_0, .int .i64 a1_1, .int .i64 a1_2, .int .i64 a1_3, .int .i64 a1_4] 27 (0, 0))) ∧ aA (wc.heap[gb406]? = some (.cells #[(.slice none 0 0)] 32 (0, 0))) ∧ aA (wc.heap[gb410]? = some (.cells #[u411000] 32 (0, 0))) ∧ aA (Below w.heap.size w wc))
   case first =>
    have H := HC50.out
    clear HC50
    by_cases c51 : x8_3 = true
    ·subst c51
     have H1 : (if 0 ≤ (wrap64 ((l0_0.length : Int) - 1)) then (if (wrap64 ((l0_0.length : Int) - 1)) < (l0_0.length : Int) then ((impl_SetPut.f kj3 (rd_L4 l0_0 (wrap64 ((l0_0.length : Int) - 1))) a1_0 a1_1 a1_2 a1_3 a1_4).bind fun t421 => (if (wrap64 ((l0_0.length : Int) - 1)) < (t407.length : Int) then (impl_NodePut.j1 kj3 l0_0 a1_0 a1_1 a1_2 a1_3 a1_4 (t407.set ((wrap64 ((l0_0.length : Int) - 1)) : Int).toNat t421)) else (none))) else (none)) else (none)) = some (r1, r2) := by rw [if_pos rfl] at H; exact H
     clear H
     have H := H1
     clear H1
     obtain ⟨ji52, hji52⟩ : ∃ j_ : Int, (wrap64 ((l0_0.length : Int) - 1)) = j_ := ⟨_, rfl⟩
     replace H : (if 0 ≤ (ji52) then (if (ji52) < (l0_0.length : Int) then ((impl_SetPut.f kj3 (rd_L4 l0_0 (ji52)) a1_0 a1_1 a1_2 a1_3 a1_4).bind fun t421 => (if (ji52) < (t407.length : Int) then (impl_NodePut.j1 kj3 l0_0 a1_0 a1_1 a1_2 a1_3 a1_4 (t407.set ((ji52) : Int).toNat t421)) else (none))) else (none)) else (none)) = some (r1, r2) := by first | (rw [hji52] at H; exact H) | (simp only [hji52] at H ⊢; exact H)
     have hji52w : (IntKind.i64.wrap ((l0_0.length : Int) - 1)) = ji52 := (aU _).trans hji52
     by_cases c53 : 0 ≤ (ji52)
     ·rw [if_pos c53] at H
      have c53b0 : decide (0 ≤ (ji52)) = true := decide_eq_true c53
      clear c53
      (first | rw [c53b0] | (simp only [aU, aV]; rw [c53b0]) | skip)
      by_cases c54 : (ji52) < (l0_0.length : Int)
      ·rw [if_pos c54] at H
       have c54b0 : decide ((ji52) < (l0_0.length : Int)) = true := decide_eq_true c54
       clear c54
       replace H := lF H
       obtain ⟨t421, A550, H⟩ := H
       replace H : (if (ji52) < (t407.length : Int) then (impl_NodePut.j1 kj3 l0_0 a1_0 a1_1 a1_2 a1_3 a1_4 (t407.set ((ji52) : Int).toNat t421)) else (none)) = some (r1, r2) := H
       have A55 := aA.mk A550
       clear A550
       by_cases c56 : (ji52) < (t407.length : Int)
       ·rw [if_pos c56] at H
        have c56b0 : decide ((ji52) < (t407.length : Int)) = true := decide_eq_true c56
        clear c56
        obtain ⟨y424, hy424⟩ : ∃ y_ : List (List (S27)), y_ = (t407.set ((ji52) : Int).toNat t421) := ⟨_, rfl⟩
        replace H : (impl_NodePut.j1 kj3 l0_0 a1_0 a1_1 a1_2 a1_3 a1_4 y424) = some (r1, r2) := by first | (rw [hy424]; with_reducible exact H) | (have H2_ := (Option.bind_some _ _).symm.trans H; rw [hy424]; with_reducible exact H2_) | (have H2_ := (Option.bind_some _ _).symm.trans H; with_reducible exact H2_) | with_reducible exact H | (rw [hy424]; exact H) | exact H
        have Ny424 := aA.mk hy424
        clear hy424
        have H' := aA.mk H
        clear H
        try go_wp2
        replace HO_411000 := aA.mk (Kd.S_drew HO_411000.out)
        replace BK404 := aA.mk (aJ BK404.out)
        replace BK405 := aA.mk (aJ BK405.out)
        replace BK406 := aA.mk (aJ BK406.out)
        replace BK410 := aA.mk (aJ BK410.out)
        replace HB := aA.mk (aH HB.out)
        have p420 : 0 ≤ ((ji52) : Int) := lE (by assumption)
        have q420 : (ji52) < (l0_0.length : Int) := lE (by assumption)
        obtain ⟨ad420, A420_0, c420_0, e420, hx420_0, hl420_0, hi420_0⟩ := at_L4 HR0_0.out (ji52) p420 q420
        have hw420_0 := hx420_0
        cases e420
        replace hx420_0 := (HB.out.cell (lD w _ hx420_0)).trans hx420_0
        have HR420_0 := aA.mk hi420_0
        have HC420_0 := aA.mk hl420_0
        clear hi420_0 hl420_0
        replace p420 := eq_true p420
        replace q420 := eq_true q420
        refine start_ (n := 12) (S := fun w' => w'.cell? ⟨gb410, 0, none⟩ = some (.slice Ao13 t407.length co13) ∧ w'.cell? ⟨gb404, 0, none⟩ = some (.slice (some ad420) l0_0.length c0_0) ∧ w'.cell? ⟨gb405, 0, none⟩ = some (.int .i64 a1_0) ∧ w'.cell? ⟨gb405, 1, none⟩ = some (.int .i64 a1_1) ∧ w'.cell? ⟨gb405, 2, none⟩ = some (.int .i64 a1_2) ∧ w'.cell? ⟨gb405, 3, none⟩ = some (.int .i64 a1_3) ∧ w'.cell? ⟨gb405, 4, none⟩ = some (.int .i64 a1_4) ∧ w'.cell? (ad420.add ((ji52)).toNat) = some (.slice A420_0 (rd_L4 l0_0 (ji52)).length c420_0)) (ds := [11]) #[false, false, false, false, false, false, false, false, false, false, false, false] (by kernel_rfl) rfl rfl ⟨(aD BK410.out 0).trans rfl, (aD BK404.out 0).trans rfl, (aD BK405.out 0).trans rfl, (aD BK405.out 1).trans rfl, (aD BK405.out 2).trans rfl, (aD BK405.out 3).trans rfl, (aD BK405.out 4).trans rfl, ((HB.out.cell (lD w _ hw420_0)).trans hw420_0)⟩ (fun hHeld => ?_); refine with_tabW impl_NodePut.tab8 impl_NodePut.bits8 (fun HT_ HW_ => ?_)
        generalize wc.drew = w58 at HO_411000 BK404 BK405 BK406 BK410 HB HR420_0 hx420_0 hHeld ⊢
        refine aW (i := 0) (N := some 45) (v := ?_) (a' := ?_) #[true, false, false, false, false, false, false, false, false, false, false, false] rfl rfl (aZ HT_.out (by kernel_rfl)) (fun _ _ _ h => h) (Or.inl ⟨by rfl, ?_⟩) ?_ ?_
        rotate_left
        ·intro w'
         go_simp
         with_reducible rfl
        rotate_left
        ·simp only [Act.put, lA, lB, lC, aU, aV]
         rfl
        refine aW (i := 2) (N := some 47) (v := ?_) (a' := ?_) #[true, false, true, false, false, false, false, false, false, false, false, false] rfl rfl (aZ HT_.out (by kernel_rfl)) (fun _ _ _ h => h) (Or.inl ⟨by rfl, ?_⟩) ?_ ?_
        rotate_left
        ·intro w'
         go_simp
         with_reducible rfl
        rotate_left
        ·simp only [Act.put, lA, lB, lC, aU, aV]
         rfl
        refine aW (i := 3) (N := some 48) (v := ?_) (a' := ?_) #[true, false, true, true, false, false, false, false, false, false, false, false] rfl rfl (aZ HT_.out (by kernel_rfl)) (fun _ _ _ h => h) (Or.inl ⟨by rfl, ?_⟩) ?_ ?_
        rotate_left
        ·intro w'
         go_simp
         with_reducible rfl
        rotate_left
        ·simp only [Act.put, lA, lB, lC, aU, aV]
         rfl
        refine aW (i := 5) (N := some 50) (v := ?_) (a' := ?_) #[true, false, true, true, false, true, false, false, false, false, false, false] rfl rfl (aZ HT_.out (by kernel_rfl)) (fun _ _ _ h => h) (Or.inl ⟨by rfl, ?_⟩) ?_ ?_
        rotate_left
        ·intro w'
         go_simp
         with_reducible rfl
        rotate_left
        ·simp only [Act.put, lA, lB, lC, aU, aV]
         rfl
        refine take_ (i := 1) (N := some 46) (v := ?_) (a' := ?_) #[true, true, true, true, false, true, false, false, false, false, false, false] rfl rfl (bV HT_.out HW_.out (by kernel_rfl)) (fun _ _ _ h => h) (Or.inl ⟨by rfl, ?_⟩) hHeld ?_ ?_
        rotate_left
        ·rintro w' ⟨s0, s1, s2, s3, s4, s5, s6, s7⟩
         go_simp
         with_reducible rfl
        rotate_left
        ·simp only [Act.put, lA, lB, lC, aU, aV]
         rfl
        refine take_ (i := 4) (N := some 49) (v := ?_) (a' := ?_) #[true, true, true, true, true, true, false, false, false, false, false, false] rfl rfl (bV HT_.out HW_.out (by kernel_rfl)) (fun _ _ _ h => h) (Or.inl ⟨by rfl, ?_⟩) hHeld ?_ ?_
        rotate_left
        ·rintro w' ⟨s0, s1, s2, s3, s4, s5, s6, s7⟩
         go_simp
         with_reducible rfl
        rotate_left
        ·simp only [Act.put, lA, lB, lC, aU, aV]
         rfl
        refine aW (i := 6) (N := some 51) (v := ?_) (a' := ?_) #[true, true, true, true, true, true, true, false, false, false, false, false] rfl rfl (aZ HT_.out (by kernel_rfl)) (fun _ _ _ h => h) (Or.inl ⟨by rfl, ?_⟩) ?_ ?_
        rotate_left
        ·intro w'
         go_simp
         with_reducible rfl
        rotate_left
        ·simp only [Act.put, lA, lB, lC, aU, aV]
         rfl
        refine take_ (i := 7) (N := some 52) (v := ?_) (a' := ?_) #[true, true, true, true, true, true, true, true, false, false, false, false] rfl rfl (bV HT_.out HW_.out (by kernel_rfl)) (fun _ _ _ h => h) (Or.inl ⟨by rfl, ?_⟩) hHeld ?_ ?_
        rotate_left
        ·rintro w' ⟨s0, s1, s2, s3, s4, s5, s6, s7⟩
         go_simp
         with_reducible rfl
        rotate_left
        ·simp only [Act.put, lA, lB, lC, aU, aV]
         rfl
        refine take_ (i := 8) (N := some 53) (v := ?_) (a' := ?_) #[true, true, true, true, true, true, true, true, true, false, false, false] rfl rfl (bV HT_.out HW_.out (by kernel_rfl)) (fun _ _ _ h => h) (Or.inl ⟨by rfl, ?_⟩) hHeld ?_ ?_
        rotate_left
        ·rintro w' ⟨s0, s1, s2, s3, s4, s5, s6, s7⟩
         go_simp
         with_reducible rfl
        rotate_left
        ·simp only [Act.put, lA, lB, lC, aU, aV]
         rfl
        refine one_ (i := 9) (N := some 54) #[true, true, true, true, true, true, true, true, true, true, false, false] rfl rfl (one_of HT_.out (by kernel_rfl)) (by decide) (fun K hK => ?_)
        refine goes_ Try.func71 (by kernel_rfl) rfl #[.slice A420_0 (rd_L4 l0_0 (ji52)).length c420_0, .agg #[.int .i64 a1_0, .int .i64 a1_1, .int .i64 a1_2, .int .i64 a1_3, .int .i64 a1_4]] (by rfl) rfl rfl (by (try simp only [List.map_toArray, List.map_cons, List.map_nil]); first | done | (simp only [hji52]; rfl) | rfl | (simp only [List.length_drop, List.length_take]; rfl)) ?_
        with_reducible refine (impl_SetPut.calls kj3 _ _ (rd_L4 l0_0 (ji52)) a1_0 a1_1 a1_2 a1_3 a1_4 t421 _ ?side1 ?side2 A55.out).mono ?_
        (case side1 => exact (Kd.bN HR420_0.out HB.out))
        (case side2 => exact HC420_0.out)
        rintro e w59 ⟨v422, rfl, ho0, hb⟩
        refine ⟨_, rfl, ?_⟩
        replace HO_411000 := aA.mk (Kd.S_elder' HO_411000.out (Kd.R_base ho0) hb)
        have HO423 := aA.mk (Kd.R_lower (Kd.R_newB (Kd.R_newM (M := fun k_ => (w.heap.size ≤ k_)) ho0 (aQ (by repeat (first | (with_reducible first | exact HB.out | apply aN | apply aE | apply aH | refine aC ?_ GE404.out | refine aC ?_ GE405.out | refine aC ?_ GE406.out | refine aC ?_ GE410.out) | exact HB.out))) (fun k_ h_ => h_)) (g := gb405) (o := .cells #[.int .i64 a1_0, .int .i64 a1_1, .int .i64 a1_2, .int .i64 a1_3, .int .i64 a1_4] 27 (0, 0)) BK405.out) (aQ (by repeat (first | (with_reducible first | exact HB.out | apply aN | apply aE | apply aH | refine aC ?_ GE404.out | refine aC ?_ GE405.out | refine aC ?_ GE406.out | refine aC ?_ GE410.out) | exact HB.out))))
        replace BK404 := aA.mk (aG (g := gb404) (o := .cells #[.slice (some ad420) l0_0.length c0_0] 32 (0, 0)) BK404.out hb)
        replace BK405 := aA.mk (aG (g := gb405) (o := .cells #[.int .i64 a1_0, .int .i64 a1_1, .int .i64 a1_2, .int .i64 a1_3, .int .i64 a1_4] 27 (0, 0)) BK405.out hb)
        replace BK406 := aA.mk (aG (g := gb406) (o := .cells #[.slice none 0 0] 32 (0, 0)) BK406.out hb)
        replace BK410 := aA.mk (aG (g := gb410) (o := .cells #[.slice Ao13 t407.length co13] 32 (0, 0)) BK410.out hb)
        replace HB := aA.mk (aT (by repeat (first | (with_reducible first | exact HB.out | apply aN | apply aE | apply aH | refine aC ?_ GE404.out | refine aC ?_ GE405.out | refine aC ?_ GE406.out | refine aC ?_ GE410.out) | exact HB.out)) hb)
        (try clear hb)
        (try clear hb2)
        (try clear hk)
        (try clear hi)
        (try clear ho0)
        have p57 : 0 ≤ ((ji52) : Int) := lE (by assumption)
        have q57 : ((ji52) : Int) < ((t407.length : Int) : Int) := lE (by assumption)
        obtain ⟨go57, co57, eo57, gb57, gl57, cl57, HG57⟩ := Kd.S_form HO_411000.out (by omega)
        (first | cases eo57 | (injection eo57 with ea_ en_ ec_; (first | subst ea_ | (injection ea_ with ea_; subst ea_)); subst ec_; clear en_))
        have GB57 := aA.mk gb57
        have GG57 := aA.mk HG57
        clear gb57 gl57 HG57
        obtain ⟨_, ce57, hcl57, hM57, hcc57, hfr57, _, _⟩ := Kd.S_elem HO_411000.out [] ((ji52) : Int) p57 q57
        obtain ⟨ve57_0, rfl, ge57_0⟩ := (id hM57)
        have hx57_0 := hcc57 0 _ rfl
        have hf57_0 := hfr57 0
        (try simp only [show ((Kd.slice 27 k27)).sz = 1 from rfl, Nat.mul_one, Nat.add_zero] at hx57_0)
        (try simp only [show ((Kd.slice 27 k27)).sz = 1 from rfl, Nat.mul_one, Nat.add_zero] at hf57_0)
        clear hcl57 hcc57 hfr57 hM57
        replace p57 := eq_true p57
        replace q57 := eq_true q57
        have HX60 := aA.mk (show Kd.S (Kd.slice 27 k27) 40 _ w.heap.size (fun k_ => (w.heap.size ≤ k_) ∧ some k_ ≠ (v422 : Value).ownBlock ∧ k_ ≠ gb404 ∧ k_ ≠ gb405 ∧ k_ ≠ gb406 ∧ k_ ≠ gb410) (.slice (some ⟨go57, 0, none⟩) t407.length co13) t407 from (Kd.bP (HO_411000.out) (fun k_ hk => ⟨hk.1.1, ⟨hk.2, ⟨hk.1.2.1, ⟨hk.1.2.2.1, ⟨hk.1.2.2.2.1, hk.1.2.2.2.2⟩⟩⟩⟩⟩)))
        replace HX60 := aA.mk (show Kd.S (Kd.slice 27 k27) 40 _ w.heap.size (fun k_ => ((fun k_ => (w.heap.size ≤ k_) ∧ k_ ≠ gb404 ∧ k_ ≠ gb405 ∧ k_ ≠ gb406 ∧ k_ ≠ gb410)) k_ ∧ ¬ ((fun k_ => some k_ = (v422 : Value).ownBlock)) k_) (.slice (some ⟨go57, 0, none⟩) t407.length co13) t407 from Kd.bP HX60.out (fun k_ hk => ⟨⟨hk.1, ⟨hk.2.2.1, ⟨hk.2.2.2.1, ⟨hk.2.2.2.2.1, hk.2.2.2.2.2⟩⟩⟩⟩, fun e_ => hk.2.1 e_⟩))
        obtain ⟨oki60, ce60, hcl60, hM60, hcc60, hfr60, hoki60, hH60⟩ := Kd.S_elem HX60.out [] ((ji52) : Int) (lE (by assumption)) (by have h_ : ((ji52) : Int) < ((t407.length : Int) : Int) := lE (by assumption); first | exact h_ | (have e_ := (Kd.S_reads' HO_411000.out).1; omega) | simpa using h_)
        obtain ⟨ve60_0, rfl, ge60_0⟩ := (id hM60)
        have HP60 := (Kd.S_seg hH60 (lE (by assumption)) (by have h_ : ((ji52) : Int) < ((t407.length : Int) : Int) := lE (by assumption); first | exact h_ | (have e_ := (Kd.S_reads' HO_411000.out).1; omega) | simpa using h_) (seg := [v422]) (j := 0) (show 1 ≤ 1 from by decide) (x' := t421) (Kd.M_row (Kd.bK (Kd.R_tight rfl (Kd.bK (ok' := (fun k_ => ((fun k_ => (w.heap.size ≤ k_) ∧ k_ ≠ gb404 ∧ k_ ≠ gb405 ∧ k_ ≠ gb406 ∧ k_ ≠ gb410)) k_ ∧ k_ ≠ go57)) (Kd.R_types (Kd.R_types (Kd.R_types (Kd.R_apart' (HO423.out) (Kd.S_typed HO_411000.out) (by decide)) BK404.out (by decide)) BK406.out (by decide)) BK410.out (by decide)) (fun k_ hk => ⟨⟨hk.1.1.1.1.1.1, ⟨hk.1.1.2, ⟨hk.1.1.1.1.2, ⟨hk.1.2, hk.2⟩⟩⟩⟩, fun e_ => (hk.1.1.1.2) (by rw [e_]; rfl)⟩))) (fun _ h_ => Or.inr (h_)))) (fun _ hk => hk) (fun k_ hk_ => ((Kd.bK (ok' := (fun k_ => ((fun k_ => (w.heap.size ≤ k_) ∧ k_ ≠ gb404 ∧ k_ ≠ gb405 ∧ k_ ≠ gb406 ∧ k_ ≠ gb410)) k_ ∧ k_ ≠ go57)) (Kd.R_types (Kd.R_types (Kd.R_types (Kd.R_apart' (HO423.out) (Kd.S_typed HO_411000.out) (by decide)) BK404.out (by decide)) BK406.out (by decide)) BK410.out (by decide)) (fun k_ hk => ⟨⟨hk.1.1.1.1.1.1, ⟨hk.1.1.2, ⟨hk.1.1.1.1.2, ⟨hk.1.2, hk.2⟩⟩⟩⟩, fun e_ => (hk.1.1.1.2) (by rw [e_]; rfl)⟩))).1 k_ hk_.symm)).1
        (try simp only [show ((Kd.slice 27 k27)).sz = 1 from rfl, Nat.mul_one, Nat.add_zero] at HP60)
        rw [← Ny424.out] at HP60
        have HQ60 := aA.mk HP60
        clear hcl60 hcc60 hfr60 hM60 HP60
        refine hK.out _ _ ⟨(aD BK410.out 0).trans rfl, (aD BK404.out 0).trans rfl, (aD BK405.out 0).trans rfl, (aD BK405.out 1).trans rfl, (aD BK405.out 2).trans rfl, (aD BK405.out 3).trans rfl, (aD BK405.out 4).trans rfl, ((HB.out.cell (lD w _ hw420_0)).trans hw420_0)⟩ (fun hHeld => ?_)
        clear hK K
        refine bJ (a' := ?_) ?_ ?_
        rotate_left
        ·show Act.put _ (some 54) _ = _
         simp only [Act.put, lA, lB, lC, aU, aV]
         rfl
        refine aW (i := 10) (N := some 55) (v := ?_) (a' := ?_) #[true, true, true, true, true, true, true, true, true, true, true, false] rfl rfl (aZ HT_.out (by kernel_rfl)) (fun _ _ _ h => h) (Or.inl ⟨by rfl, ?_⟩) ?_ ?_
        rotate_left
        ·intro w'
         go_simp
         with_reducible rfl
        rotate_left
        ·simp only [Act.put, lA, lB, lC, aU, aV]
         rfl
        refine last_ (i := 11) (N := none) #[true, true, true, true, true, true, true, true, true, true, true, true] rfl rfl (one_of HT_.out (by kernel_rfl)) (by decide) (fun K hK => ?_)
        (obtain ⟨Az_, cz_, ez_, _⟩ := Kd.R_reads HO423.out; subst ez_)
        refine skip_ (w1 := ?_) (by rfl) rfl ?_ ?_
        rotate_left
        ·go_simp
         rfl
        refine hK.out _ _ ?_
        clear hK K
        refine done_ (done_of HT_.out (by kernel_rfl)) ?_
        try go_wp2
        subst hji52
        go_meet
        case rel => exact ⟨_, (y424), (.slice (some ⟨go57, 0, none⟩) t407.length co13), H', ⟨by have := HJ3.out; first | omega | exact Nat.le_refl _⟩, ⟨by (with_reducible repeat (first | apply Kd.S_alloc | apply Kd.S_drewN | apply Kd.S_drew)); exact HQ60.out⟩, ⟨by (with_reducible repeat (first | refine aM ?_ _ | refine aJ ?_ | refine aK ?_ _)); refine bB ?_ (by have h_ := Kd.S_away HO_411000.out (fun _ hk => hk.1.2.1); intro e_; exact h_ (by rw [e_]; rfl)) _; (with_reducible repeat (first | refine aM ?_ _ | refine aJ ?_ | refine aK ?_ _)); exact BK404.out⟩, ⟨by (with_reducible repeat (first | refine aM ?_ _ | refine aJ ?_ | refine aK ?_ _)); refine bB ?_ (by have h_ := Kd.S_away HO_411000.out (fun _ hk => hk.1.2.2.1); intro e_; exact h_ (by rw [e_]; rfl)) _; (with_reducible repeat (first | refine aM ?_ _ | refine aJ ?_ | refine aK ?_ _)); exact BK405.out⟩, ⟨by (with_reducible repeat (first | refine aM ?_ _ | refine aJ ?_ | refine aK ?_ _)); refine bB ?_ (by have h_ := Kd.S_away HO_411000.out (fun _ hk => hk.1.2.2.2.1); intro e_; exact h_ (by rw [e_]; rfl)) _; (with_reducible repeat (first | refine aM ?_ _ | refine aJ ?_ | refine aK ?_ _)); exact BK406.out⟩, ⟨by (with_reducible repeat (first | refine aM ?_ _ | refine aJ ?_ | refine aK ?_ _)); refine bB ?_ (by have h_ := Kd.S_away HO_411000.out (fun _ hk => hk.1.2.2.2.2); intro e_; exact h_ (by rw [e_]; rfl)) _; (with_reducible repeat (first | refine aM ?_ _ | refine aJ ?_ | refine aK ?_ _)); exact BK410.out⟩, ⟨by repeat (first | (with_reducible first | exact HB.out | apply aN | apply aE | apply aH | refine aC ?_ GB57.out | refine aC ?_ GE404.out | refine aC ?_ GE405.out | refine aC ?_ GE406.out | refine aC ?_ GE410.out) | exact HB.out)⟩⟩
       ·rw [if_neg c56] at H
        exact absurd H (by simp)
      ·rw [if_neg c54] at H
       exact absurd H (by simp)
     ·rw [if_neg c53] at H
      exact absurd H (by simp)
    ·replace c51 := Bool.eq_false_iff.mpr c51
     subst c51
     have H1 : (if t407.length < 5864062014805 then (impl_NodePut.j1 kj3 l0_0 a1_0 a1_1 a1_2 a1_3 a1_4 (t407 ++ [(([(⟨a1_0, a1_1, a1_2, a1_3, a1_4⟩ : S27)] : List (S27)))])) else (none)) = some (r1, r2) := by rw [if_neg (show ¬ (false = true) by decide)] at H; exact H
     clear H
     have H := H1
     clear H1
     obtain ⟨y425, hy425⟩ : ∃ y_ : List (S27), y_ = (([(⟨a1_0, a1_1, a1_2, a1_3, a1_4⟩ : S27)] : List (S27))) := ⟨_, rfl⟩
     replace H : (if t407.length < 5864062014805 then (impl_NodePut.j1 kj3 l0_0 a1_0 a1_1 a1_2 a1_3 a1_4 (t407 ++ [y425])) else (none)) = some (r1, r2) := by first | (rw [hy425]; with_reducible exact H) | (have H2_ := (Option.bind_some _ _).symm.trans H; rw [hy425]; with_reducible exact H2_) | (have H2_ := (Option.bind_some _ _).symm.trans H; with_reducible exact H2_) | with_reducible exact H | (rw [hy425]; exact H) | exact H
     have Ny425 := aA.mk hy425
     clear hy425
     by_cases c61 : t407.length < 5864062014805
     ·rw [if_pos c61] at H
      have LMc61 := aA.mk c61
      clear c61
      obtain ⟨y428, hy428⟩ : ∃ y_ : List (List (S27)), y_ = (t407 ++ [y425]) := ⟨_, rfl⟩
      replace H : (impl_NodePut.j1 kj3 l0_0 a1_0 a1_1 a1_2 a1_3 a1_4 y428) = some (r1, r2) := by first | (rw [hy428]; with_reducible exact H) | (have H2_ := (Option.bind_some _ _).symm.trans H; rw [hy428]; with_reducible exact H2_) | (have H2_ := (Option.bind_some _ _).symm.trans H; with_reducible exact H2_) | with_reducible exact H | (rw [hy428]; exact H) | exact H
      have Ny428 := aA.mk hy428
      clear hy428
      have H' := aA.mk H
      clear H
      have hnb62 := NB410_404.out
      have hnc62 := NB404_410.out
      have hnb63 := NB410_405.out
      have hnc63 := NB405_410.out
      have hnb64 := NB410_406.out
      have hnc64 := NB406_410.out
      have hcz65_0 := cs1 BK410.out
      have hfz65_0 := fs1 BK410.out
      have hnb66 := NB405_404.out
      have hnc66 := NB404_405.out
      have hnb67 := NB405_406.out
      have hnc67 := NB406_405.out
      obtain ⟨hcz68_0, hcz68_1, hcz68_2, hcz68_3, hcz68_4⟩ := cs5 BK405.out
      obtain ⟨hfz68_0, hfz68_1, hfz68_2, hfz68_3, hfz68_4⟩ := fs5 BK405.out
      go_wp2_with (first | ((with_reducible refine bA (N := 59) rfl ?_); (try (refine gate_guard (by rfl) ?_; dsimp only)); refine Kd.R_lit k27 _ 27 ?hg (N := 59) ?hd (xs := ([(⟨a1_0, a1_1, a1_2, a1_3, a1_4⟩ : S27)] : List (S27))) (inner := [.int .i64 a1_0, .int .i64 a1_1, .int .i64 a1_2, .int .i64 a1_3, .int .i64 a1_4]) (ok := fun _ => True) (okp := fun _ => True) ?hr ?hp (fun _ hk => hk) trivial (Below.refl _ _) (Nat.le_refl _) (by simp) ?_; (case hd => rfl); (case hg => rfl); (case hr => first | (go_simp; done) | (go_simp; rfl)); (case hp => exact (Reps.c5 (show Kd.M k27 _ _ _ (⟨a1_0, a1_1, a1_2, a1_3, a1_4⟩ : S27) [.int .i64 a1_0, .int .i64 a1_1, .int .i64 a1_2, .int .i64 a1_3, .int .i64 a1_4] from (k27_mkM _ _ _ (⟨a1_0, a1_1, a1_2, a1_3, a1_4⟩ : S27) )) (Reps.none _ _))); intro v426 w69 ho70 hb hg_ hnew_; clear hg_ hnew_; (first | rw [← Ny425.out] at ho70 | (simp only [Int.reduceToNat] at ho70; rw [← Ny425.out] at ho70)); replace HO_411000 := aA.mk (Kd.S_elder' HO_411000.out (Kd.R_base ho70) hb); have HO427 := aA.mk (Kd.R_lower (Kd.R_newB (Kd.R_newM (M := fun k_ => (w.heap.size ≤ k_)) ho70 (aQ (by repeat (first | (with_reducible first | exact HB.out | apply aN | apply aE | apply aH | refine aC ?_ GE404.out | refine aC ?_ GE405.out | refine aC ?_ GE406.out | refine aC ?_ GE410.out) | exact HB.out))) (fun k_ h_ => h_)) (g := gb405) (o := .cells #[.int .i64 a1_0, .int .i64 a1_1, .int .i64 a1_2, .int .i64 a1_3, .int .i64 a1_4] 27 (0, 0)) BK405.out) (aQ (by repeat (first | (with_reducible first | exact HB.out | apply aN | apply aE | apply aH | refine aC ?_ GE404.out | refine aC ?_ GE405.out | refine aC ?_ GE406.out | refine aC ?_ GE410.out) | exact HB.out)))); replace BK404 := aA.mk (aG (g := gb404) (o := .cells #[.slice A0_0 l0_0.length c0_0] 32 (0, 0)) BK404.out hb); replace BK405 := aA.mk (aG (g := gb405) (o := .cells #[.int .i64 a1_0, .int .i64 a1_1, .int .i64 a1_2, .int .i64 a1_3, .int .i64 a1_4] 27 (0, 0)) BK405.out hb); replace BK406 := aA.mk (aG (g := gb406) (o := .cells #[.slice none 0 0] 32 (0, 0)) BK406.out hb); replace BK410 := aA.mk (aG (g := gb410) (o := .cells #[.slice Ao13 t407.length co13] 32 (0, 0)) BK410.out hb); replace HB := aA.mk (aT (by repeat (first | (with_reducible first | exact HB.out | apply aN | apply aE | apply aH | refine aC ?_ GE404.out | refine aC ?_ GE405.out | refine aC ?_ GE406.out | refine aC ?_ GE410.out) | exact HB.out)) hb); clear hb ho70; obtain ⟨Ao72, co72, eo72⟩ := Kd.R_slice HO427.out; subst eo72) | ((with_reducible refine gate_builtin (b := .append) (xs := #[.tmp 57, .tmp 60]) rfl ?_); (try (refine gate_guard (by rfl) ?_; dsimp only)); at_builtin; refine Kd.S_append (Kd.slice 27 k27) (w0 := w) w.heap.size rfl (.tmp 57) (.tmp 60) 30 40 (.slice none 0 0) 24 rfl Try.underlying30 info40 rfl (by decide) (by omega) (.slice Ao13 t407.length co13) t407 y425 [.slice Ao72 y425.length co72] (fun k_ => (w.heap.size ≤ k_) ∧ k_ ≠ gb404 ∧ k_ ≠ gb405 ∧ k_ ≠ gb406 ∧ k_ ≠ gb410) (fun k_ => some k_ = (.slice Ao72 y425.length co72 : Value).ownBlock) rfl rfl ?aP (fun k_ hk_ => ((Kd.bK (ok' := (fun k_ => ((fun k_ => (w.heap.size ≤ k_) ∧ k_ ≠ gb404 ∧ k_ ≠ gb405 ∧ k_ ≠ gb406 ∧ k_ ≠ gb410)) k_ ∧ some k_ ≠ (.slice Ao13 t407.length co13 : Value).ownBlock)) (Kd.R_types (Kd.R_types (Kd.R_types (Kd.R_apart' (HO427.out) (Kd.S_typed HO_411000.out) (by decide)) BK404.out (by decide)) BK406.out (by decide)) BK410.out (by decide)) (fun k_ hk => ⟨⟨hk.1.1.1.1.1.1, ⟨hk.1.1.2, ⟨hk.1.1.1.1.2, ⟨hk.1.2, hk.2⟩⟩⟩⟩, hk.1.1.1.2⟩))).1 k_ hk_.symm) ?aF ?aO ?aB ?aS ?aL ?_; (case aP => exact ⟨_, rfl, Kd.R_tight rfl HO427.out⟩); (case aB => exact (by repeat (first | (with_reducible first | exact HB.out | apply aN | apply aE | apply aH | refine aC ?_ GE404.out | refine aC ?_ GE405.out | refine aC ?_ GE406.out | refine aC ?_ GE410.out) | exact HB.out))); (case aF => exact (fun k_ hk => ⟨(Nat.le_trans (aQ (by repeat (first | (with_reducible first | exact HB.out | apply aN | apply aE | apply aH | refine aC ?_ GE404.out | refine aC ?_ GE405.out | refine aC ?_ GE406.out | refine aC ?_ GE410.out) | exact HB.out))) hk), Kd.freshB (g := gb404) (o := .cells #[.slice A0_0 l0_0.length c0_0] 32 (0, 0)) BK404.out k_ hk, Kd.freshB (g := gb405) (o := .cells #[.int .i64 a1_0, .int .i64 a1_1, .int .i64 a1_2, .int .i64 a1_3, .int .i64 a1_4] 27 (0, 0)) BK405.out k_ hk, Kd.freshB (g := gb406) (o := .cells #[.slice none 0 0] 32 (0, 0)) BK406.out k_ hk, Kd.freshB (g := gb410) (o := .cells #[.slice Ao13 t407.length co13] 32 (0, 0)) BK410.out k_ hk⟩)); (case aO => exact (by (with_reducible repeat (first | apply Kd.S_alloc | apply Kd.S_drewN | apply Kd.S_drew)); exact Kd.bP HO_411000.out (fun _ hk => ⟨⟨hk.1.1, ⟨hk.1.2.1, ⟨hk.1.2.2.1, ⟨hk.1.2.2.2.1, hk.1.2.2.2.2⟩⟩⟩⟩, fun e_ => hk.2 e_⟩))); (case aS => exact (aQ (by repeat (first | (with_reducible first | exact HB.out | apply aN | apply aE | apply aH | refine aC ?_ GE404.out | refine aC ?_ GE405.out | refine aC ?_ GE406.out | refine aC ?_ GE410.out) | exact HB.out)))); (case aL => have := LMc61.out; omega); intro v429 w71 ho hb hg hat; rw [← Ny428.out] at ho; replace BK404 := aA.mk (blk_grown (g := gb404) (o := .cells #[.slice A0_0 l0_0.length c0_0] 32 (0, 0)) BK404.out hg (Kd.S_ne HO_411000.out BK404.out (by decide))); replace BK405 := aA.mk (blk_grown (g := gb405) (o := .cells #[.int .i64 a1_0, .int .i64 a1_1, .int .i64 a1_2, .int .i64 a1_3, .int .i64 a1_4] 27 (0, 0)) BK405.out hg (Kd.S_ne HO_411000.out BK405.out (by decide))); replace BK406 := aA.mk (blk_grown (g := gb406) (o := .cells #[.slice none 0 0] 32 (0, 0)) BK406.out hg (Kd.S_ne HO_411000.out BK406.out (by decide))); replace BK410 := aA.mk (blk_grown (g := gb410) (o := .cells #[.slice Ao13 t407.length co13] 32 (0, 0)) BK410.out hg (Kd.S_ne HO_411000.out BK410.out (by decide))); replace HB := aA.mk (hb); have HO430 := aA.mk (ho); clear HO_411000; clear HO427; clear ho hb hg hat; obtain ⟨Ao73, co73, eo73⟩ := Kd.S_slice HO430.out; subst eo73; have hcz74_0 := cs1 BK410.out; have hfz74_0 := fs1 BK410.out))
      go_meet
      case rel => exact ⟨_, (y428), (.slice Ao73 y428.length co73), H', ⟨by have := HJ3.out; first | omega | exact Nat.le_refl _⟩, ⟨by (with_reducible repeat (first | apply Kd.S_alloc | apply Kd.S_drewN | apply Kd.S_drew)); exact Kd.bP (Kd.S_far (p := ⟨gb410, 0, none⟩) (Kd.bP HO430.out (fun k_ hk => (⟨hk, hk.2.2.2.2⟩ : _ ∧ k_ ≠ gb410))) (fun _ hk => hk.2) (.slice Ao73 y428.length co73)) (fun _ hk => ⟨hk.1.1, ⟨hk.1.2.1, ⟨hk.1.2.2.1, ⟨hk.1.2.2.2.1, hk.1.2.2.2.2⟩⟩⟩⟩)⟩, ⟨by (with_reducible repeat (first | refine aM ?_ _ | refine aJ ?_ | refine aK ?_ _)); refine bB ?_ NB404_410.out _; (with_reducible repeat (first | refine aM ?_ _ | refine aJ ?_ | refine aK ?_ _)); exact BK404.out⟩, ⟨by (with_reducible repeat (first | refine aM ?_ _ | refine aJ ?_ | refine aK ?_ _)); refine bB ?_ NB405_410.out _; (with_reducible repeat (first | refine aM ?_ _ | refine aJ ?_ | refine aK ?_ _)); exact BK405.out⟩, ⟨by (with_reducible repeat (first | refine aM ?_ _ | refine aJ ?_ | refine aK ?_ _)); refine bB ?_ NB406_410.out _; (with_reducible repeat (first | refine aM ?_ _ | refine aJ ?_ | refine aK ?_ _)); exact BK406.out⟩, ⟨by (with_reducible repeat (first | refine aM ?_ _ | refine aJ ?_ | refine aK ?_ _)); refine bE (cs := #[.slice Ao13 t407.length co13]) ?_ 0 _ rfl; (with_reducible repeat (first | refine aM ?_ _ | refine aJ ?_ | refine aK ?_ _)); exact BK410.out⟩, ⟨by repeat (first | (with_reducible first | exact HB.out | apply aN | apply aE | apply aH | refine aC ?_ GE404.out | refine aC ?_ GE405.out | refine aC ?_ GE406.out | refine aC ?_ GE410.out) | exact HB.out)⟩⟩
     ·rw [if_neg c61] at H
      exact absurd H (by simp)
   case rest =>
    clear HC50
    try clear c1
    try clear c2
    try clear p2
    try clear c4
    try clear p4
    try clear q4
    try clear hx4
    try clear c5
    try clear p5
    try clear q5
    try clear hx5
    try clear hf5
    try clear c6
    try clear p6
    try clear c7
    try clear c19
    try clear c19b0
    try clear c21
    try clear c22
    try clear c24
    try clear c41
    try clear p41
    try clear q41
    try clear hx41
    try clear c42
    try clear p42
    try clear q42
    try clear hx42
    try clear c45
    try clear c46
    try clear c47
    try clear c48
    try clear c51
    try clear c53
    try clear c53b0
    try clear c54
    try clear c54b0
    try clear c56
    try clear c56b0
    try clear c57
    try clear p57
    try clear q57
    try clear hx57
    try clear hf57
    try clear c60
    try clear c61
    try clear c62
    try clear c63
    try clear c64
    try clear p64
    try clear c66
    try clear c67
    try clear c71
    try clear hcz49_0
    try clear hcz65_0
    try clear hcz68_0
    try clear hcz68_1
    try clear hcz68_2
    try clear hcz68_3
    try clear hcz68_4
    try clear hcz74_0
    try clear hfz49_0
    try clear hfz65_0
    try clear hfz68_0
    try clear hfz68_1
    try clear hfz68_2
    try clear hfz68_3
    try clear hfz68_4
    try clear hfz74_0
    try clear hx411_0
    try clear hx419_0
    try clear hx420_0
    try clear hx57_0
    try clear p2
    try clear p4
    try clear p41
    try clear p411
    try clear p419
    try clear p420
    try clear p57
    try clear p6
    try clear q4
    try clear q41
    try clear q411
    try clear q419
    try clear q420
    try clear q57
    obtain ⟨kq, x411000_49, u411000, HA, HJ49, HO_411000, BK404, BK405, BK406, BK410, HB⟩ := hcut
    cases kq with
    | zero => exact absurd HA.out (by simp [impl_NodePut.j1])
    | succ kj49 =>
     have H := HA.out
     clear HA
     simp only [impl_NodePut.j1] at H
     replace H := lF H
     obtain ⟨t431, A750, H⟩ := H
     replace H : (if t431 = true then (some (x411000_49, true)) else ((impl_keysWith.f kj49 l0_0 a1_0 a1_1 a1_2 a1_3 a1_4).bind fun t432 => ((impl_NodeNew.f t432).bind fun t435 => (if (t432.length : Int) > 8 then ((impl_copyNode.f kj49 l0_0).bind fun t439 => (some (t439, false))) else ((impl_NodeOk.f kj49 t435).bind fun t442 => (if t442 = true then (some (t435, true)) else ((impl_copyNode.f kj49 l0_0).bind fun t443 => (some (t443, false))))))))) = some (r1, r2) := H
     have A75 := aA.mk A750
     clear A750
     by_cases c76 : t431 = true
     ·subst c76
      have H1 : (some (x411000_49, true)) = some (r1, r2) := by rw [if_pos rfl] at H; exact H
      clear H
      have H := H1
      clear H1
      simp only [Option.some.injEq, Prod.mk.injEq] at H
      obtain ⟨rfl, rfl⟩ := H
      have hnb77 := NB410_404.out
      have hnc77 := NB404_410.out
      have hnb78 := NB410_405.out
      have hnc78 := NB405_410.out
      have hnb79 := NB410_406.out
      have hnc79 := NB406_410.out
      have hcz80_0 := cs1 BK410.out
      have hfz80_0 := fs1 BK410.out
      obtain ⟨Ao81, co81, eo81⟩ := Kd.S_slice HO_411000.out
      subst eo81
      go_wp2_with (first | ((with_reducible refine bD (f := 29) rfl ?_); refine bL (some 64) rfl rfl Try.func29 (by kernel_rfl) rfl #[.agg #[.slice Ao81 x411000_49.length co81]] rfl (by (try simp only [List.map_toArray, List.map_cons, List.map_nil]); first | done | rfl) ?_; (with_reducible refine (impl_NodeOk.calls kj49 _ _ x411000_49 true _ ?side1 ?side2 A75.out).mono ?_); (case side1 => repeat (first | exact (Kd.S_reads' HO_411000.out).2.2 | (with_reducible refine Kd.C_alloc ?_ _) | (with_reducible refine Kd.C_drewN ?_ _) | (with_reducible refine Kd.C_drew ?_))); (case side2 => exact (Kd.S_reads' HO_411000.out).2.1); rintro e w82 ⟨rfl, hb⟩; refine ⟨_, rfl, ?_⟩; replace HO_411000 := aA.mk (Kd.bM HO_411000.out hb); replace BK404 := aA.mk (aG (g := gb404) (o := .cells #[.slice A0_0 l0_0.length c0_0] 32 (0, 0)) BK404.out hb); replace BK405 := aA.mk (aG (g := gb405) (o := .cells #[.int .i64 a1_0, .int .i64 a1_1, .int .i64 a1_2, .int .i64 a1_3, .int .i64 a1_4] 27 (0, 0)) BK405.out hb); replace BK406 := aA.mk (aG (g := gb406) (o := .cells #[.slice none 0 0] 32 (0, 0)) BK406.out hb); replace BK410 := aA.mk (aG (g := gb410) (o := .cells #[.slice Ao81 x411000_49.length co81] 32 (0, 0)) BK410.out hb); replace HB := aA.mk (aT (by repeat (first | (with_reducible first | exact HB.out | apply aN | apply aE | apply aH | refine aC ?_ GE404.out | refine aC ?_ GE405.out | refine aC ?_ GE406.out | refine aC ?_ GE410.out) | exact HB.out)) hb); (try clear hb); have hcz83_0 := cs1 BK410.out; have hfz83_0 := fs1 BK410.out; have hnb84 := NB406_404.out; have hnc84 := NB404_406.out; have hnb85 := NB406_405.out; have hnc85 := NB405_406.out; have hcz86_0 := cs1 BK406.out; have hfz86_0 := fs1 BK406.out))
      refine bodyPost_ret (results_ct rfl _ _ gb406 32 #[.slice Ao81 x411000_49.length co81] (0, 0) _ rfl (by (with_reducible repeat (first | refine aM ?_ _ | refine aJ ?_ | refine aK ?_ _)); refine bE (cs := #[.slice none 0 0]) ?_ 0 _ rfl; (with_reducible repeat (first | refine aM ?_ _ | refine aJ ?_ | refine aK ?_ _)); exact BK406.out) Try.underlying32 rfl (by kernel_rfl)) rfl ?_
      exact ⟨_, by first | rfl | (simp [errW_none, errW_some] <;> rfl) | (simp [*, errW_none, errW_some] <;> rfl), by (with_reducible repeat (first | apply Kd.S_alloc | apply Kd.S_drewN | apply Kd.S_drew)); exact Kd.bP (Kd.S_far (p := ⟨gb406, 0, none⟩) (Kd.bP HO_411000.out (fun k_ hk => (⟨hk, hk.2.2.2.1⟩ : _ ∧ k_ ≠ gb406))) (fun _ hk => hk.2) (.slice Ao81 x411000_49.length co81)) (fun _ hk => hk.1.1), by repeat (first | (with_reducible first | exact HB.out | apply aN | apply aE | apply aH | refine aC ?_ GE404.out | refine aC ?_ GE405.out | refine aC ?_ GE406.out | refine aC ?_ GE410.out) | exact HB.out)⟩
     ·replace c76 := Bool.eq_false_iff.mpr c76
      subst c76
      have H1 : ((impl_keysWith.f kj49 l0_0 a1_0 a1_1 a1_2 a1_3 a1_4).bind fun t432 => ((impl_NodeNew.f t432).bind fun t435 => (if (t432.length : Int) > 8 then ((impl_copyNode.f kj49 l0_0).bind fun t439 => (some (t439, false))) else ((impl_NodeOk.f kj49 t435).bind fun t442 => (if t442 = true then (some (t435, true)) else ((impl_copyNode.f kj49 l0_0).bind fun t443 => (some (t443, false)))))))) = some (r1, r2) := by rw [if_neg (show ¬ (false = true) by decide)] at H; exact H
      clear H
      have H := H1
      clear H1
      replace H := lF H
      obtain ⟨t432, A870, H⟩ := H
      replace H : ((impl_NodeNew.f t432).bind fun t435 => (if (t432.length : Int) > 8 then ((impl_copyNode.f kj49 l0_0).bind fun t439 => (some (t439, false))) else ((impl_NodeOk.f kj49 t435).bind fun t442 => (if t442 = true then (some (t435, true)) else ((impl_copyNode.f kj49 l0_0).bind fun t443 => (some (t443, false))))))) = some (r1, r2) := H
      have A87 := aA.mk A870
      clear A870
      replace H := lF H
      obtain ⟨t435, A880, H⟩ := H
      replace H : (if (t432.length : Int) > 8 then ((impl_copyNode.f kj49 l0_0).bind fun t439 => (some (t439, false))) else ((impl_NodeOk.f kj49 t435).bind fun t442 => (if t442 = true then (some (t435, true)) else ((impl_copyNode.f kj49 l0_0).bind fun t443 => (some (t443, false)))))) = some (r1, r2) := H
      have A88 := aA.mk A880
      clear A880
      by_cases c89 : (t432.length : Int) > 8
      ·rw [if_pos c89] at H
       have c89b0 : decide (8 < (t432.length : Int)) = true := decide_eq_true c89
       have c89b1 : decide (8 < t432.length) = true := decide_eq_true (by omega)
       clear c89
       replace H := lF H
       obtain ⟨t439, A900, H⟩ := H
       replace H : (some (t439, false)) = some (r1, r2) := H
       have A90 := aA.mk A900
       clear A900
       simp only [Option.some.injEq, Prod.mk.injEq] at H
       obtain ⟨rfl, rfl⟩ := H
       have hnb91 := NB410_404.out
       have hnc91 := NB404_410.out
       have hnb92 := NB410_405.out
       have hnc92 := NB405_410.out
       have hnb93 := NB410_406.out
       have hnc93 := NB406_410.out
       have hcz94_0 := cs1 BK410.out
       have hfz94_0 := fs1 BK410.out
       obtain ⟨Ao95, co95, eo95⟩ := Kd.S_slice HO_411000.out
       subst eo95
       go_wp2_with (first | ((with_reducible refine bD (f := 29) rfl ?_); refine bL (some 64) rfl rfl Try.func29 (by kernel_rfl) rfl #[.agg #[.slice Ao95 x411000_49.length co95]] rfl (by (try simp only [List.map_toArray, List.map_cons, List.map_nil]); first | done | rfl) ?_; (with_reducible refine (impl_NodeOk.calls kj49 _ _ x411000_49 false _ ?side1 ?side2 A75.out).mono ?_); (case side1 => repeat (first | exact (Kd.S_reads' HO_411000.out).2.2 | (with_reducible refine Kd.C_alloc ?_ _) | (with_reducible refine Kd.C_drewN ?_ _) | (with_reducible refine Kd.C_drew ?_))); (case side2 => exact (Kd.S_reads' HO_411000.out).2.1); rintro e w96 ⟨rfl, hb⟩; refine ⟨_, rfl, ?_⟩; replace HO_411000 := aA.mk (Kd.bM HO_411000.out hb); replace BK404 := aA.mk (aG (g := gb404) (o := .cells #[.slice A0_0 l0_0.length c0_0] 32 (0, 0)) BK404.out hb); replace BK405 := aA.mk (aG (g := gb405) (o := .cells #[.int .i64 a1_0, .int .i64 a1_1, .int .i64 a1_2, .int .i64 a1_3, .int .i64 a1_4] 27 (0, 0)) BK405.out hb); replace BK406 := aA.mk (aG (g := gb406) (o := .cells #[.slice none 0 0] 32 (0, 0)) BK406.out hb); replace BK410 := aA.mk (aG (g := gb410) (o := .cells #[.slice Ao95 x411000_49.length co95] 32 (0, 0)) BK410.out hb); replace HB := aA.mk (aT (by repeat (first | (with_reducible first | exact HB.out | apply aN | apply aE | apply aH | refine aC ?_ GE404.out | refine aC ?_ GE405.out | refine aC ?_ GE406.out | refine aC ?_ GE410.out) | exact HB.out)) hb); (try clear hb); (try clear hk); have hnb97 := NB404_405.out; have hnc97 := NB405_404.out; have hnb98 := NB404_406.out; have hnc98 := NB406_404.out; have hcz99_0 := cs1 BK404.out; have hfz99_0 := fs1 BK404.out; have hnb100 := NB405_406.out; have hnc100 := NB406_405.out; obtain ⟨hcz101_0, hcz101_1, hcz101_2, hcz101_3, hcz101_4⟩ := cs5 BK405.out; obtain ⟨hfz101_0, hfz101_1, hfz101_2, hfz101_3, hfz101_4⟩ := fs5 BK405.out) | ((with_reducible refine bD (f := 72) rfl ?_); refine bL (some 68) rfl rfl Try.func72 (by kernel_rfl) rfl #[.agg #[.slice A0_0 l0_0.length c0_0], .agg #[.int .i64 a1_0, .int .i64 a1_1, .int .i64 a1_2, .int .i64 a1_3, .int .i64 a1_4]] rfl (by (try simp only [List.map_toArray, List.map_cons, List.map_nil]); first | done | rfl) ?_; (with_reducible refine (impl_keysWith.calls kj49 _ _ l0_0 a1_0 a1_1 a1_2 a1_3 a1_4 t432 _ ?side1 ?side2 A87.out).mono ?_); (case side1 => exact (Kd.bN HR0_0.out HB.out)); (case side2 => exact HC0_0.out); rintro e w102 ⟨v433, rfl, ho0, hb⟩; refine ⟨_, rfl, ?_⟩; replace HO_411000 := aA.mk (Kd.S_elder' HO_411000.out (Kd.R_base ho0) hb); have HO434 := aA.mk (Kd.R_lower (Kd.R_newB (Kd.R_newM (M := fun k_ => (w.heap.size ≤ k_)) ho0 (aQ (by repeat (first | (with_reducible first | exact HB.out | apply aN | apply aE | apply aH | refine aC ?_ GE404.out | refine aC ?_ GE405.out | refine aC ?_ GE406.out | refine aC ?_ GE410.out) | exact HB.out))) (fun k_ h_ => h_)) (g := gb405) (o := .cells #[.int .i64 a1_0, .int .i64 a1_1, .int .i64 a1_2, .int .i64 a1_3, .int .i64 a1_4] 27 (0, 0)) BK405.out) (aQ (by repeat (first | (with_reducible first | exact HB.out | apply aN | apply aE | apply aH | refine aC ?_ GE404.out | refine aC ?_ GE405.out | refine aC ?_ GE406.out | refine aC ?_ GE410.out) | exact HB.out)))); replace BK404 := aA.mk (aG (g := gb404) (o := .cells #[.slice A0_0 l0_0.length c0_0] 32 (0, 0)) BK404.out hb); replace BK405 := aA.mk (aG (g := gb405) (o := .cells #[.int .i64 a1_0, .int .i64 a1_1, .int .i64 a1_2, .int .i64 a1_3, .int .i64 a1_4] 27 (0, 0)) BK405.out hb); replace BK406 := aA.mk (aG (g := gb406) (o := .cells #[.slice none 0 0] 32 (0, 0)) BK406.out hb); replace BK410 := aA.mk (aG (g := gb410) (o := .cells #[.slice Ao95 x411000_49.length co95] 32 (0, 0)) BK410.out hb); replace HB := aA.mk (aT (by repeat (first | (with_reducible first | exact HB.out | apply aN | apply aE | apply aH | refine aC ?_ GE404.out | refine aC ?_ GE405.out | refine aC ?_ GE406.out | refine aC ?_ GE410.out) | exact HB.out)) hb); (try clear hb); (try clear hk); (try clear ho0); obtain ⟨Ao103, co103, eo103⟩ := Kd.R_slice HO434.out; subst eo103) | ((with_reducible refine bD (f := 23) rfl ?_); refine bL (some 70) rfl rfl Try.func23 (by kernel_rfl) rfl #[.slice Ao103 t432.length co103] rfl (by (try simp only [List.map_toArray, List.map_cons, List.map_nil]); first | done | rfl) ?_; (with_reducible refine (impl_NodeNew.calls _ _ t432 t435 _ ?side1 ?side2 A88.out).mono ?_); (case side1 => repeat (first | exact (Kd.R_reads' HO434.out).2.2 | (with_reducible refine Kd.C_alloc ?_ _) | (with_reducible refine Kd.C_drewN ?_ _) | (with_reducible refine Kd.C_drew ?_))); (case side2 => exact (Kd.R_reads' HO434.out).2.1); rintro e w104 ⟨v436, rfl, ho0, hb⟩; refine ⟨_, rfl, ?_⟩; have HO437 := aA.mk (Kd.S_lower (Kd.bP (ok' := fun k_ => (w.heap.size ≤ k_) ∧ some k_ ≠ (.slice Ao95 x411000_49.length co95 : Value).ownBlock ∧ some k_ ≠ (.slice Ao103 t432.length co103 : Value).ownBlock ∧ k_ ≠ gb404 ∧ k_ ≠ gb405 ∧ k_ ≠ gb406 ∧ k_ ≠ gb410) (id (Kd.S_bound ho0)) (fun k_ hk_ => ⟨(Nat.le_trans (aQ (by repeat (first | (with_reducible first | exact HB.out | apply aN | apply aE | apply aH | refine aC ?_ GE404.out | refine aC ?_ GE405.out | refine aC ?_ GE406.out | refine aC ?_ GE410.out) | exact HB.out))) hk_.2.1), (Kd.fresh' (Kd.S_lt HO_411000.out) k_ hk_.2.1), (Kd.fresh' (Kd.R_lt HO434.out) k_ hk_.2.1), (Kd.freshB (g := gb404) (o := .cells #[.slice A0_0 l0_0.length c0_0] 32 (0, 0)) BK404.out k_ hk_.2.1), (Kd.freshB (g := gb405) (o := .cells #[.int .i64 a1_0, .int .i64 a1_1, .int .i64 a1_2, .int .i64 a1_3, .int .i64 a1_4] 27 (0, 0)) BK405.out k_ hk_.2.1), (Kd.freshB (g := gb406) (o := .cells #[.slice none 0 0] 32 (0, 0)) BK406.out k_ hk_.2.1), (Kd.freshB (g := gb410) (o := .cells #[.slice Ao95 x411000_49.length co95] 32 (0, 0)) BK410.out k_ hk_.2.1)⟩)) (aQ (by repeat (first | (with_reducible first | exact HB.out | apply aN | apply aE | apply aH | refine aC ?_ GE404.out | refine aC ?_ GE405.out | refine aC ?_ GE406.out | refine aC ?_ GE410.out) | exact HB.out)))); replace HO_411000 := aA.mk (Kd.S_elder' HO_411000.out (Kd.S_base ho0) hb); replace HO434 := aA.mk (Kd.R_below HO434.out hb); replace BK404 := aA.mk (aG (g := gb404) (o := .cells #[.slice A0_0 l0_0.length c0_0] 32 (0, 0)) BK404.out hb); replace BK405 := aA.mk (aG (g := gb405) (o := .cells #[.int .i64 a1_0, .int .i64 a1_1, .int .i64 a1_2, .int .i64 a1_3, .int .i64 a1_4] 27 (0, 0)) BK405.out hb); replace BK406 := aA.mk (aG (g := gb406) (o := .cells #[.slice none 0 0] 32 (0, 0)) BK406.out hb); replace BK410 := aA.mk (aG (g := gb410) (o := .cells #[.slice Ao95 x411000_49.length co95] 32 (0, 0)) BK410.out hb); replace HB := aA.mk (aT (by repeat (first | (with_reducible first | exact HB.out | apply aN | apply aE | apply aH | refine aC ?_ GE404.out | refine aC ?_ GE405.out | refine aC ?_ GE406.out | refine aC ?_ GE410.out) | exact HB.out)) hb); (try clear hb); (try clear hk); (try clear ho0)) | ((with_reducible refine bA (N := 12) rfl ?_); (try (refine gate_guard (by rfl) ?_; dsimp only)); refine bC ?hg (N := 12) ?hd (cs := #[.slice none 0 0]) (t := 32) ?hr ?_; (case hd => rfl); (case hg => rfl); (case hr => first | (go_simp; done) | (go_simp; rfl)); intro gb438 hg w105 hbox hb; replace HO_411000 := aA.mk (Kd.bM (Kd.S_elderB HO_411000.out gb438 (Nat.le_of_eq hg.symm)) hb); replace HO434 := aA.mk (Kd.R_below HO434.out hb); replace HO437 := aA.mk (Kd.bM (Kd.S_elderB HO437.out gb438 (Nat.le_of_eq hg.symm)) hb); have BK438 := aA.mk (hbox); have GW438 := aA.mk ((by rw [hg]; exact (aQ (by repeat (first | (with_reducible first | exact HB.out | apply aN | apply aE | apply aH | refine aC ?_ GE404.out | refine aC ?_ GE405.out | refine aC ?_ GE406.out | refine aC ?_ GE410.out) | exact HB.out))) : w.heap.size ≤ gb438)); have GE438 := aA.mk ((by rw [hg]; exact (aQ (by repeat (first | (with_reducible first | exact HB.out | apply aN | apply aE | apply aH | refine aC ?_ GE404.out | refine aC ?_ GE405.out | refine aC ?_ GE406.out | refine aC ?_ GE410.out) | exact HB.out))) : w.heap.size ≤ gb438)); replace HB := aA.mk (aT (by repeat (first | (with_reducible first | exact HB.out | apply aN | apply aE | apply aH | refine aC ?_ GE404.out | refine aC ?_ GE405.out | refine aC ?_ GE406.out | refine aC ?_ GE410.out) | exact HB.out)) hb); have NB404_438 := aA.mk ((by rw [hg]; exact Nat.ne_of_lt (aY (g := gb404) (o := .cells #[.slice A0_0 l0_0.length c0_0] 32 (0, 0)) BK404.out) : gb404 ≠ gb438)); have NB438_404 := aA.mk ((by rw [hg]; exact Nat.ne_of_gt (aY (g := gb404) (o := .cells #[.slice A0_0 l0_0.length c0_0] 32 (0, 0)) BK404.out) : gb438 ≠ gb404)); replace BK404 := aA.mk (aG (g := gb404) (o := .cells #[.slice A0_0 l0_0.length c0_0] 32 (0, 0)) BK404.out hb); have NB405_438 := aA.mk ((by rw [hg]; exact Nat.ne_of_lt (aY (g := gb405) (o := .cells #[.int .i64 a1_0, .int .i64 a1_1, .int .i64 a1_2, .int .i64 a1_3, .int .i64 a1_4] 27 (0, 0)) BK405.out) : gb405 ≠ gb438)); have NB438_405 := aA.mk ((by rw [hg]; exact Nat.ne_of_gt (aY (g := gb405) (o := .cells #[.int .i64 a1_0, .int .i64 a1_1, .int .i64 a1_2, .int .i64 a1_3, .int .i64 a1_4] 27 (0, 0)) BK405.out) : gb438 ≠ gb405)); replace BK405 := aA.mk (aG (g := gb405) (o := .cells #[.int .i64 a1_0, .int .i64 a1_1, .int .i64 a1_2, .int .i64 a1_3, .int .i64 a1_4] 27 (0, 0)) BK405.out hb); have NB406_438 := aA.mk ((by rw [hg]; exact Nat.ne_of_lt (aY (g := gb406) (o := .cells #[.slice none 0 0] 32 (0, 0)) BK406.out) : gb406 ≠ gb438)); have NB438_406 := aA.mk ((by rw [hg]; exact Nat.ne_of_gt (aY (g := gb406) (o := .cells #[.slice none 0 0] 32 (0, 0)) BK406.out) : gb438 ≠ gb406)); replace BK406 := aA.mk (aG (g := gb406) (o := .cells #[.slice none 0 0] 32 (0, 0)) BK406.out hb); have NB410_438 := aA.mk ((by rw [hg]; exact Nat.ne_of_lt (aY (g := gb410) (o := .cells #[.slice Ao95 x411000_49.length co95] 32 (0, 0)) BK410.out) : gb410 ≠ gb438)); have NB438_410 := aA.mk ((by rw [hg]; exact Nat.ne_of_gt (aY (g := gb410) (o := .cells #[.slice Ao95 x411000_49.length co95] 32 (0, 0)) BK410.out) : gb438 ≠ gb410)); replace BK410 := aA.mk (aG (g := gb410) (o := .cells #[.slice Ao95 x411000_49.length co95] 32 (0, 0)) BK410.out hb); clear hb hbox hg; obtain ⟨Ao106, co106, eo106⟩ := Kd.S_slice HO437.out; subst eo106; have hnb107 := NB438_404.out; have hnc107 := NB404_438.out; have hnb108 := NB438_405.out; have hnc108 := NB405_438.out; have hnb109 := NB438_406.out; have hnc109 := NB406_438.out; have hnb110 := NB438_410.out; have hnc110 := NB410_438.out; have hcz111_0 := cs1 BK438.out; have hfz111_0 := fs1 BK438.out; have hcz112_0 := cs1 BK404.out; have hfz112_0 := fs1 BK404.out) | ((with_reducible refine bD (f := 70) rfl ?_); refine bL (some 80) rfl rfl Try.func70 (by kernel_rfl) rfl #[.agg #[.slice A0_0 l0_0.length c0_0]] rfl (by (try simp only [List.map_toArray, List.map_cons, List.map_nil]); first | done | rfl) ?_; (with_reducible refine (impl_copyNode.calls kj49 _ _ l0_0 t439 _ ?side1 ?side2 A90.out).mono ?_); (case side1 => exact Kd.bN HR0_0.out (by repeat (first | (with_reducible first | exact HB.out | apply aN | apply aE | apply aH | refine aC ?_ GE404.out | refine aC ?_ GE405.out | refine aC ?_ GE406.out | refine aC ?_ GE410.out | refine aC ?_ GE438.out) | exact HB.out))); (case side2 => exact HC0_0.out); rintro e w113 ⟨v440, rfl, ho0, hb⟩; refine ⟨_, rfl, ?_⟩; have HO441 := aA.mk (Kd.S_lower (Kd.bP (ok' := fun k_ => (w.heap.size ≤ k_) ∧ some k_ ≠ (.slice Ao95 x411000_49.length co95 : Value).ownBlock ∧ some k_ ≠ (.slice Ao103 t432.length co103 : Value).ownBlock ∧ some k_ ≠ (.slice Ao106 t435.length co106 : Value).ownBlock ∧ k_ ≠ gb404 ∧ k_ ≠ gb405 ∧ k_ ≠ gb406 ∧ k_ ≠ gb410 ∧ k_ ≠ gb438) (id (Kd.S_bound ho0)) (fun k_ hk_ => ⟨(Nat.le_trans (aQ (by repeat (first | (with_reducible first | exact HB.out | apply aN | apply aE | apply aH | refine aC ?_ GE404.out | refine aC ?_ GE405.out | refine aC ?_ GE406.out | refine aC ?_ GE410.out | refine aC ?_ GE438.out) | exact HB.out))) hk_.2.1), (Kd.fresh' (Kd.S_lt (by (with_reducible repeat (first | apply Kd.S_alloc | apply Kd.S_drewN | apply Kd.S_drew)); exact (Kd.bP (Kd.S_far (p := ⟨gb438, 0, none⟩) (Kd.bP HO_411000.out (fun k_ hk => (⟨hk, hk.2⟩ : _ ∧ k_ ≠ gb438))) (fun _ hk => hk.2) (.slice Ao106 t435.length co106)) (fun _ h_ => h_.1)))) k_ hk_.2.1), (Kd.fresh' (Kd.R_lt (by (with_reducible repeat (first | apply Kd.bQ | apply Kd.bR | apply Kd.bU)); exact (Kd.bK (Kd.R_far (p := ⟨gb438, 0, none⟩) (Kd.R_types HO434.out BK438.out (by decide)) (fun _ hk => hk.2) (.slice Ao106 t435.length co106)) (fun _ h_ => h_.1)))) k_ hk_.2.1), (Kd.fresh' (Kd.S_lt (by (with_reducible repeat (first | apply Kd.S_alloc | apply Kd.S_drewN | apply Kd.S_drew)); exact (Kd.bP (Kd.S_far (p := ⟨gb438, 0, none⟩) (Kd.bP HO437.out (fun k_ hk => (⟨hk, hk.2⟩ : _ ∧ k_ ≠ gb438))) (fun _ hk => hk.2) (.slice Ao106 t435.length co106)) (fun _ h_ => h_.1)))) k_ hk_.2.1), (Kd.freshB (g := gb404) (o := .cells #[.slice A0_0 l0_0.length c0_0] 32 (0, 0)) (by (with_reducible repeat (first | refine aM ?_ _ | refine aJ ?_ | refine aK ?_ _)); refine bB ?_ NB404_438.out _; (with_reducible repeat (first | refine aM ?_ _ | refine aJ ?_ | refine aK ?_ _)); exact BK404.out) k_ hk_.2.1), (Kd.freshB (g := gb405) (o := .cells #[.int .i64 a1_0, .int .i64 a1_1, .int .i64 a1_2, .int .i64 a1_3, .int .i64 a1_4] 27 (0, 0)) (by (with_reducible repeat (first | refine aM ?_ _ | refine aJ ?_ | refine aK ?_ _)); refine bB ?_ NB405_438.out _; (with_reducible repeat (first | refine aM ?_ _ | refine aJ ?_ | refine aK ?_ _)); exact BK405.out) k_ hk_.2.1), (Kd.freshB (g := gb406) (o := .cells #[.slice none 0 0] 32 (0, 0)) (by (with_reducible repeat (first | refine aM ?_ _ | refine aJ ?_ | refine aK ?_ _)); refine bB ?_ NB406_438.out _; (with_reducible repeat (first | refine aM ?_ _ | refine aJ ?_ | refine aK ?_ _)); exact BK406.out) k_ hk_.2.1), (Kd.freshB (g := gb410) (o := .cells #[.slice Ao95 x411000_49.length co95] 32 (0, 0)) (by (with_reducible repeat (first | refine aM ?_ _ | refine aJ ?_ | refine aK ?_ _)); refine bB ?_ NB410_438.out _; (with_reducible repeat (first | refine aM ?_ _ | refine aJ ?_ | refine aK ?_ _)); exact BK410.out) k_ hk_.2.1), (Kd.freshB (g := gb438) (o := .cells #[.slice Ao106 t435.length co106] 32 (0, 0)) (by (with_reducible repeat (first | refine aM ?_ _ | refine aJ ?_ | refine aK ?_ _)); refine bE (cs := #[.slice none 0 0]) ?_ 0 _ rfl; (with_reducible repeat (first | refine aM ?_ _ | refine aJ ?_ | refine aK ?_ _)); exact BK438.out) k_ hk_.2.1)⟩)) (aQ (by repeat (first | (with_reducible first | exact HB.out | apply aN | apply aE | apply aH | refine aC ?_ GE404.out | refine aC ?_ GE405.out | refine aC ?_ GE406.out | refine aC ?_ GE410.out | refine aC ?_ GE438.out) | exact HB.out)))); replace HO_411000 := aA.mk (Kd.S_elder' (by (with_reducible repeat (first | apply Kd.S_alloc | apply Kd.S_drewN | apply Kd.S_drew)); exact (Kd.bP (Kd.S_far (p := ⟨gb438, 0, none⟩) (Kd.bP HO_411000.out (fun k_ hk => (⟨hk, hk.2⟩ : _ ∧ k_ ≠ gb438))) (fun _ hk => hk.2) (.slice Ao106 t435.length co106)) (fun _ h_ => h_.1))) (Kd.S_base ho0) hb); replace HO434 := aA.mk (Kd.R_below (by (with_reducible repeat (first | apply Kd.bQ | apply Kd.bR | apply Kd.bU)); exact (Kd.bK (Kd.R_far (p := ⟨gb438, 0, none⟩) (Kd.R_types HO434.out BK438.out (by decide)) (fun _ hk => hk.2) (.slice Ao106 t435.length co106)) (fun _ h_ => h_.1))) hb); replace HO437 := aA.mk (Kd.S_elder' (by (with_reducible repeat (first | apply Kd.S_alloc | apply Kd.S_drewN | apply Kd.S_drew)); exact (Kd.bP (Kd.S_far (p := ⟨gb438, 0, none⟩) (Kd.bP HO437.out (fun k_ hk => (⟨hk, hk.2⟩ : _ ∧ k_ ≠ gb438))) (fun _ hk => hk.2) (.slice Ao106 t435.length co106)) (fun _ h_ => h_.1))) (Kd.S_base ho0) hb); replace BK404 := aA.mk (aG (g := gb404) (o := .cells #[.slice A0_0 l0_0.length c0_0] 32 (0, 0)) (by (with_reducible repeat (first | refine aM ?_ _ | refine aJ ?_ | refine aK ?_ _)); refine bB ?_ NB404_438.out _; (with_reducible repeat (first | refine aM ?_ _ | refine aJ ?_ | refine aK ?_ _)); exact BK404.out) hb); replace BK405 := aA.mk (aG (g := gb405) (o := .cells #[.int .i64 a1_0, .int .i64 a1_1, .int .i64 a1_2, .int .i64 a1_3, .int .i64 a1_4] 27 (0, 0)) (by (with_reducible repeat (first | refine aM ?_ _ | refine aJ ?_ | refine aK ?_ _)); refine bB ?_ NB405_438.out _; (with_reducible repeat (first | refine aM ?_ _ | refine aJ ?_ | refine aK ?_ _)); exact BK405.out) hb); replace BK406 := aA.mk (aG (g := gb406) (o := .cells #[.slice none 0 0] 32 (0, 0)) (by (with_reducible repeat (first | refine aM ?_ _ | refine aJ ?_ | refine aK ?_ _)); refine bB ?_ NB406_438.out _; (with_reducible repeat (first | refine aM ?_ _ | refine aJ ?_ | refine aK ?_ _)); exact BK406.out) hb); replace BK410 := aA.mk (aG (g := gb410) (o := .cells #[.slice Ao95 x411000_49.length co95] 32 (0, 0)) (by (with_reducible repeat (first | refine aM ?_ _ | refine aJ ?_ | refine aK ?_ _)); refine bB ?_ NB410_438.out _; (with_reducible repeat (first | refine aM ?_ _ | refine aJ ?_ | refine aK ?_ _)); exact BK410.out) hb); replace BK438 := aA.mk (aG (g := gb438) (o := .cells #[.slice Ao106 t435.length co106] 32 (0, 0)) (by (with_reducible repeat (first | refine aM ?_ _ | refine aJ ?_ | refine aK ?_ _)); refine bE (cs := #[.slice none 0 0]) ?_ 0 _ rfl; (with_reducible repeat (first | refine aM ?_ _ | refine aJ ?_ | refine aK ?_ _)); exact BK438.out) hb); replace HB := aA.mk (aT (by repeat (first | (with_reducible first | exact HB.out | apply aN | apply aE | apply aH | refine aC ?_ GE404.out | refine aC ?_ GE405.out | refine aC ?_ GE406.out | refine aC ?_ GE410.out | refine aC ?_ GE438.out) | exact HB.out)) hb); (try clear hb); (try clear hk); (try clear ho0); obtain ⟨Ao114, co114, eo114⟩ := Kd.S_slice HO441.out; subst eo114; have hcz115_0 := cs1 BK406.out; have hfz115_0 := fs1 BK406.out))
       refine bodyPost_ret (results_ct rfl _ _ gb406 32 #[.slice Ao114 t439.length co114] (0, 0) _ rfl (by (with_reducible repeat (first | refine aM ?_ _ | refine aJ ?_ | refine aK ?_ _)); refine bE (cs := #[.slice none 0 0]) ?_ 0 _ rfl; (with_reducible repeat (first | refine aM ?_ _ | refine aJ ?_ | refine aK ?_ _)); exact BK406.out) Try.underlying32 rfl (by kernel_rfl)) rfl ?_
       exact ⟨_, by first | rfl | (simp [errW_none, errW_some] <;> rfl) | (simp [*, errW_none, errW_some] <;> rfl), by (with_reducible repeat (first | apply Kd.S_alloc | apply Kd.S_drewN | apply Kd.S_drew)); exact Kd.bP (Kd.S_far (p := ⟨gb406, 0, none⟩) (Kd.bP HO441.out (fun k_ hk => (⟨hk, hk.2.2.2.2.2.2.1⟩ : _ ∧ k_ ≠ gb406))) (fun _ hk => hk.2) (.slice Ao114 t439.length co114)) (fun _ hk => hk.1.1), by repeat (first | (with_reducible first | exact HB.out | apply aN | apply aE | apply aH | refine aC ?_ GE404.out | refine aC ?_ GE405.out | refine aC ?_ GE406.out | refine aC ?_ GE410.out | refine aC ?_ GE438.out) | exact HB.out)⟩
      ·rw [if_neg c89] at H
       have c89b0 : decide (8 < (t432.length : Int)) = false := decide_eq_false c89
       have c89b1 : decide (8 < t432.length) = false := decide_eq_false (by omega)
       clear c89
       replace H := lF H
       obtain ⟨t442, A1160, H⟩ := H
       replace H : (if t442 = true then (some (t435, true)) else ((impl_copyNode.f kj49 l0_0).bind fun t443 => (some (t443, false)))) = some (r1, r2) := H
       have A116 := aA.mk A1160
       clear A1160
       by_cases c117 : t442 = true
       ·subst c117
        have H1 : (some (t435, true)) = some (r1, r2) := by rw [if_pos rfl] at H; exact H
        clear H
        have H := H1
        clear H1
        simp only [Option.some.injEq, Prod.mk.injEq] at H
        obtain ⟨rfl, rfl⟩ := H
        have hnb118 := NB410_404.out
        have hnc118 := NB404_410.out
        have hnb119 := NB410_405.out
        have hnc119 := NB405_410.out
        have hnb120 := NB410_406.out
        have hnc120 := NB406_410.out
        have hcz121_0 := cs1 BK410.out
        have hfz121_0 := fs1 BK410.out
        obtain ⟨Ao122, co122, eo122⟩ := Kd.S_slice HO_411000.out
        subst eo122
        go_wp2_with (first | ((with_reducible refine bD (f := 29) rfl ?_); refine bL (some 64) rfl rfl Try.func29 (by kernel_rfl) rfl #[.agg #[.slice Ao122 x411000_49.length co122]] rfl (by (try simp only [List.map_toArray, List.map_cons, List.map_nil]); first | done | rfl) ?_; (with_reducible refine (impl_NodeOk.calls kj49 _ _ x411000_49 false _ ?side1 ?side2 A75.out).mono ?_); (case side1 => repeat (first | exact (Kd.S_reads' HO_411000.out).2.2 | (with_reducible refine Kd.C_alloc ?_ _) | (with_reducible refine Kd.C_drewN ?_ _) | (with_reducible refine Kd.C_drew ?_))); (case side2 => exact (Kd.S_reads' HO_411000.out).2.1); rintro e w123 ⟨rfl, hb⟩; refine ⟨_, rfl, ?_⟩; replace HO_411000 := aA.mk (Kd.bM HO_411000.out hb); replace BK404 := aA.mk (aG (g := gb404) (o := .cells #[.slice A0_0 l0_0.length c0_0] 32 (0, 0)) BK404.out hb); replace BK405 := aA.mk (aG (g := gb405) (o := .cells #[.int .i64 a1_0, .int .i64 a1_1, .int .i64 a1_2, .int .i64 a1_3, .int .i64 a1_4] 27 (0, 0)) BK405.out hb); replace BK406 := aA.mk (aG (g := gb406) (o := .cells #[.slice none 0 0] 32 (0, 0)) BK406.out hb); replace BK410 := aA.mk (aG (g := gb410) (o := .cells #[.slice Ao122 x411000_49.length co122] 32 (0, 0)) BK410.out hb); replace HB := aA.mk (aT (by repeat (first | (with_reducible first | exact HB.out | apply aN | apply aE | apply aH | refine aC ?_ GE404.out | refine aC ?_ GE405.out | refine aC ?_ GE406.out | refine aC ?_ GE410.out) | exact HB.out)) hb); (try clear hb); (try clear hk); have hnb124 := NB404_405.out; have hnc124 := NB405_404.out; have hnb125 := NB404_406.out; have hnc125 := NB406_404.out; have hcz126_0 := cs1 BK404.out; have hfz126_0 := fs1 BK404.out; have hnb127 := NB405_406.out; have hnc127 := NB406_405.out; obtain ⟨hcz128_0, hcz128_1, hcz128_2, hcz128_3, hcz128_4⟩ := cs5 BK405.out; obtain ⟨hfz128_0, hfz128_1, hfz128_2, hfz128_3, hfz128_4⟩ := fs5 BK405.out) | ((with_reducible refine bD (f := 72) rfl ?_); refine bL (some 68) rfl rfl Try.func72 (by kernel_rfl) rfl #[.agg #[.slice A0_0 l0_0.length c0_0], .agg #[.int .i64 a1_0, .int .i64 a1_1, .int .i64 a1_2, .int .i64 a1_3, .int .i64 a1_4]] rfl (by (try simp only [List.map_toArray, List.map_cons, List.map_nil]); first | done | rfl) ?_; (with_reducible refine (impl_keysWith.calls kj49 _ _ l0_0 a1_0 a1_1 a1_2 a1_3 a1_4 t432 _ ?side1 ?side2 A87.out).mono ?_); (case side1 => exact (Kd.bN HR0_0.out HB.out)); (case side2 => exact HC0_0.out); rintro e w129 ⟨v433, rfl, ho0, hb⟩; refine ⟨_, rfl, ?_⟩; replace HO_411000 := aA.mk (Kd.S_elder' HO_411000.out (Kd.R_base ho0) hb); have HO434 := aA.mk (Kd.R_lower (Kd.R_newB (Kd.R_newM (M := fun k_ => (w.heap.size ≤ k_)) ho0 (aQ (by repeat (first | (with_reducible first | exact HB.out | apply aN | apply aE | apply aH | refine aC ?_ GE404.out | refine aC ?_ GE405.out | refine aC ?_ GE406.out | refine aC ?_ GE410.out) | exact HB.out))) (fun k_ h_ => h_)) (g := gb405) (o := .cells #[.int .i64 a1_0, .int .i64 a1_1, .int .i64 a1_2, .int .i64 a1_3, .int .i64 a1_4] 27 (0, 0)) BK405.out) (aQ (by repeat (first | (with_reducible first | exact HB.out | apply aN | apply aE | apply aH | refine aC ?_ GE404.out | refine aC ?_ GE405.out | refine aC ?_ GE406.out | refine aC ?_ GE410.out) | exact HB.out)))); replace BK404 := aA.mk (aG (g := gb404) (o := .cells #[.slice A0_0 l0_0.length c0_0] 32 (0, 0)) BK404.out hb); replace BK405 := aA.mk (aG (g := gb405) (o := .cells #[.int .i64 a1_0, .int .i64 a1_1, .int .i64 a1_2, .int .i64 a1_3, .int .i64 a1_4] 27 (0, 0)) BK405.out hb); replace BK406 := aA.mk (aG (g := gb406) (o := .cells #[.slice none 0 0] 32 (0, 0)) BK406.out hb); replace BK410 := aA.mk (aG (g := gb410) (o := .cells #[.slice Ao122 x411000_49.length co122] 32 (0, 0)) BK410.out hb); replace HB := aA.mk (aT (by repeat (first | (with_reducible first | exact HB.out | apply aN | apply aE | apply aH | refine aC ?_ GE404.out | refine aC ?_ GE405.out | refine aC ?_ GE406.out | refine aC ?_ GE410.out) | exact HB.out)) hb); (try clear hb); (try clear hk); (try clear ho0); obtain ⟨Ao130, co130, eo130⟩ := Kd.R_slice HO434.out; subst eo130) | ((with_reducible refine bD (f := 23) rfl ?_); refine bL (some 70) rfl rfl Try.func23 (by kernel_rfl) rfl #[.slice Ao130 t432.length co130] rfl (by (try simp only [List.map_toArray, List.map_cons, List.map_nil]); first | done | rfl) ?_; (with_reducible refine (impl_NodeNew.calls _ _ t432 t435 _ ?side1 ?side2 A88.out).mono ?_); (case side1 => repeat (first | exact (Kd.R_reads' HO434.out).2.2 | (with_reducible refine Kd.C_alloc ?_ _) | (with_reducible refine Kd.C_drewN ?_ _) | (with_reducible refine Kd.C_drew ?_))); (case side2 => exact (Kd.R_reads' HO434.out).2.1); rintro e w131 ⟨v436, rfl, ho0, hb⟩; refine ⟨_, rfl, ?_⟩; have HO437 := aA.mk (Kd.S_lower (Kd.bP (ok' := fun k_ => (w.heap.size ≤ k_) ∧ some k_ ≠ (.slice Ao122 x411000_49.length co122 : Value).ownBlock ∧ some k_ ≠ (.slice Ao130 t432.length co130 : Value).ownBlock ∧ k_ ≠ gb404 ∧ k_ ≠ gb405 ∧ k_ ≠ gb406 ∧ k_ ≠ gb410) (id (Kd.S_bound ho0)) (fun k_ hk_ => ⟨(Nat.le_trans (aQ (by repeat (first | (with_reducible first | exact HB.out | apply aN | apply aE | apply aH | refine aC ?_ GE404.out | refine aC ?_ GE405.out | refine aC ?_ GE406.out | refine aC ?_ GE410.out) | exact HB.out))) hk_.2.1), (Kd.fresh' (Kd.S_lt HO_411000.out) k_ hk_.2.1), (Kd.fresh' (Kd.R_lt HO434.out) k_ hk_.2.1), (Kd.freshB (g := gb404) (o := .cells #[.slice A0_0 l0_0.length c0_0] 32 (0, 0)) BK404.out k_ hk_.2.1), (Kd.freshB (g := gb405) (o := .cells #[.int .i64 a1_0, .int .i64 a1_1, .int .i64 a1_2, .int .i64 a1_3, .int .i64 a1_4] 27 (0, 0)) BK405.out k_ hk_.2.1), (Kd.freshB (g := gb406) (o := .cells #[.slice none 0 0] 32 (0, 0)) BK406.out k_ hk_.2.1), (Kd.freshB (g := gb410) (o := .cells #[.slice Ao122 x411000_49.length co122] 32 (0, 0)) BK410.out k_ hk_.2.1)⟩)) (aQ (by repeat (first | (with_reducible first | exact HB.out | apply aN | apply aE | apply aH | refine aC ?_ GE404.out | refine aC ?_ GE405.out | refine aC ?_ GE406.out | refine aC ?_ GE410.out) | exact HB.out)))); replace HO_411000 := aA.mk (Kd.S_elder' HO_411000.out (Kd.S_base ho0) hb); replace HO434 := aA.mk (Kd.R_below HO434.out hb); replace BK404 := aA.mk (aG (g := gb404) (o := .cells #[.slice A0_0 l0_0.length c0_0] 32 (0, 0)) BK404.out hb); replace BK405 := aA.mk (aG (g := gb405) (o := .cells #[.int .i64 a1_0, .int .i64 a1_1, .int .i64 a1_2, .int .i64 a1_3, .int .i64 a1_4] 27 (0, 0)) BK405.out hb); replace BK406 := aA.mk (aG (g := gb406) (o := .cells #[.slice none 0 0] 32 (0, 0)) BK406.out hb); replace BK410 := aA.mk (aG (g := gb410) (o := .cells #[.slice Ao122 x411000_49.length co122] 32 (0, 0)) BK410.out hb); replace HB := aA.mk (aT (by repeat (first | (with_reducible first | exact HB.out | apply aN | apply aE | apply aH | refine aC ?_ GE404.out | refine aC ?_ GE405.out | refine aC ?_ GE406.out | refine aC ?_ GE410.out) | exact HB.out)) hb); (try clear hb); (try clear hk); (try clear ho0)) | ((with_reducible refine bA (N := 12) rfl ?_); (try (refine gate_guard (by rfl) ?_; dsimp only)); refine bC ?hg (N := 12) ?hd (cs := #[.slice none 0 0]) (t := 32) ?hr ?_; (case hd => rfl); (case hg => rfl); (case hr => first | (go_simp; done) | (go_simp; rfl)); intro gb438 hg w132 hbox hb; replace HO_411000 := aA.mk (Kd.bM (Kd.S_elderB HO_411000.out gb438 (Nat.le_of_eq hg.symm)) hb); replace HO434 := aA.mk (Kd.R_below HO434.out hb); replace HO437 := aA.mk (Kd.bM (Kd.S_elderB HO437.out gb438 (Nat.le_of_eq hg.symm)) hb); have BK438 := aA.mk (hbox); have GW438 := aA.mk ((by rw [hg]; exact (aQ (by repeat (first | (with_reducible first | exact HB.out | apply aN | apply aE | apply aH | refine aC ?_ GE404.out | refine aC ?_ GE405.out | refine aC ?_ GE406.out | refine aC ?_ GE410.out) | exact HB.out))) : w.heap.size ≤ gb438)); have GE438 := aA.mk ((by rw [hg]; exact (aQ (by repeat (first | (with_reducible first | exact HB.out | apply aN | apply aE | apply aH | refine aC ?_ GE404.out | refine aC ?_ GE405.out | refine aC ?_ GE406.out | refine aC ?_ GE410.out) | exact HB.out))) : w.heap.size ≤ gb438)); replace HB := aA.mk (aT (by repeat (first | (with_reducible first | exact HB.out | apply aN | apply aE | apply aH | refine aC ?_ GE404.out | refine aC ?_ GE405.out | refine aC ?_ GE406.out | refine aC ?_ GE410.out) | exact HB.out)) hb); have NB404_438 := aA.mk ((by rw [hg]; exact Nat.ne_of_lt (aY (g := gb404) (o := .cells #[.slice A0_0 l0_0.length c0_0] 32 (0, 0)) BK404.out) : gb404 ≠ gb438)); have NB438_404 := aA.mk ((by rw [hg]; exact Nat.ne_of_gt (aY (g := gb404) (o := .cells #[.slice A0_0 l0_0.length c0_0] 32 (0, 0)) BK404.out) : gb438 ≠ gb404)); replace BK404 := aA.mk (aG (g := gb404) (o := .cells #[.slice A0_0 l0_0.length c0_0] 32 (0, 0)) BK404.out hb); have NB405_438 := aA.mk ((by rw [hg]; exact Nat.ne_of_lt (aY (g := gb405) (o := .cells #[.int .i64 a1_0, .int .i64 a1_1, .int .i64 a1_2, .int .i64 a1_3, .int .i64 a1_4] 27 (0, 0)) BK405.out) : gb405 ≠ gb438)); have NB438_405 := aA.mk ((by rw [hg]; exact Nat.ne_of_gt (aY (g := gb405) (o := .cells #[.int .i64 a1_0, .int .i64 a1_1, .int .i64 a1_2, .int .i64 a1_3, .int .i64 a1_4] 27 (0, 0)) BK405.out) : gb438 ≠ gb405)); replace BK405 := aA.mk (aG (g := gb405) (o := .cells #[.int .i64 a1_0, .int .i64 a1_1, .int .i64 a1_2, .int .i64 a1_3, .int .i64 a1_4] 27 (0, 0)) BK405.out hb); have NB406_438 := aA.mk ((by rw [hg]; exact Nat.ne_of_lt (aY (g := gb406) (o := .cells #[.slice none 0 0] 32 (0, 0)) BK406.out) : gb406 ≠ gb438)); have NB438_406 := aA.mk ((by rw [hg]; exact Nat.ne_of_gt (aY (g := gb406) (o := .cells #[.slice none 0 0] 32 (0, 0)) BK406.out) : gb438 ≠ gb406)); replace BK406 := aA.mk (aG (g := gb406) (o := .cells #[.slice none 0 0] 32 (0, 0)) BK406.out hb); have NB410_438 := aA.mk ((by rw [hg]; exact Nat.ne_of_lt (aY (g := gb410) (o := .cells #[.slice Ao122 x411000_49.length co122] 32 (0, 0)) BK410.out) : gb410 ≠ gb438)); have NB438_410 := aA.mk ((by rw [hg]; exact Nat.ne_of_gt (aY (g := gb410) (o := .cells #[.slice Ao122 x411000_49.length co122] 32 (0, 0)) BK410.out) : gb438 ≠ gb410)); replace BK410 := aA.mk (aG (g := gb410) (o := .cells #[.slice Ao122 x411000_49.length co122] 32 (0, 0)) BK410.out hb); clear hb hbox hg; obtain ⟨Ao133, co133, eo133⟩ := Kd.S_slice HO437.out; subst eo133; have hnb134 := NB438_404.out; have hnc134 := NB404_438.out; have hnb135 := NB438_405.out; have hnc135 := NB405_438.out; have hnb136 := NB438_406.out; have hnc136 := NB406_438.out; have hnb137 := NB438_410.out; have hnc137 := NB410_438.out; have hcz138_0 := cs1 BK438.out; have hfz138_0 := fs1 BK438.out) | (go_at_call 29; (with_reducible refine (impl_NodeOk.calls kj49 _ _ t435 true _ ?side1 ?side2 A116.out).mono ?_); (case side1 => refine (Kd.S_reads' (e := 40) (base := w.heap.size) (ok := fun k_ => (((w.heap.size ≤ k_) ∧ (some k_ ≠ (.slice Ao122 x411000_49.length co122 : Value).ownBlock ∧ (some k_ ≠ (.slice Ao130 t432.length co130 : Value).ownBlock ∧ (k_ ≠ gb404 ∧ (k_ ≠ gb405 ∧ (k_ ≠ gb406 ∧ k_ ≠ gb410)))))) ∧ k_ ≠ gb438)) (n := t435.length) (c := co133) ?_).2.2; exact (by (with_reducible repeat (first | apply Kd.S_alloc | apply Kd.S_drewN | apply Kd.S_drew)); exact (Kd.bP (Kd.S_far (p := ⟨gb438, 0, none⟩) (Kd.bP HO437.out (fun k_ hk => (⟨hk, hk.2⟩ : _ ∧ k_ ≠ gb438))) (fun _ hk => hk.2) (.slice Ao133 t435.length co133)) (fun _ h_ => h_.1)))); (case side2 => exact (Kd.S_reads' HO437.out).2.1); rintro e w139 ⟨rfl, hb⟩; have n0_ := aA.mk (Kd.bM (by (with_reducible repeat (first | apply Kd.S_alloc | apply Kd.S_drewN | apply Kd.S_drew)); exact (Kd.bP (Kd.S_far (p := ⟨gb438, 0, none⟩) (Kd.bP HO_411000.out (fun k_ hk => (⟨hk, hk.2⟩ : _ ∧ k_ ≠ gb438))) (fun _ hk => hk.2) (.slice Ao133 t435.length co133)) (fun _ h_ => h_.1))) hb); have n1_ := aA.mk (Kd.R_below (by (with_reducible repeat (first | apply Kd.bQ | apply Kd.bR | apply Kd.bU)); exact (Kd.bK (Kd.R_far (p := ⟨gb438, 0, none⟩) (Kd.R_types HO434.out BK438.out (by decide)) (fun _ hk => hk.2) (.slice Ao133 t435.length co133)) (fun _ h_ => h_.1))) hb); have n2_ := aA.mk (Kd.bM (by (with_reducible repeat (first | apply Kd.S_alloc | apply Kd.S_drewN | apply Kd.S_drew)); exact (Kd.bP (Kd.S_far (p := ⟨gb438, 0, none⟩) (Kd.bP HO437.out (fun k_ hk => (⟨hk, hk.2⟩ : _ ∧ k_ ≠ gb438))) (fun _ hk => hk.2) (.slice Ao133 t435.length co133)) (fun _ h_ => h_.1))) hb); have n3_ := aA.mk (aG (g := gb404) (o := .cells #[.slice A0_0 l0_0.length c0_0] 32 (0, 0)) (by (with_reducible repeat (first | refine aM ?_ _ | refine aJ ?_ | refine aK ?_ _)); refine bB ?_ NB404_438.out _; (with_reducible repeat (first | refine aM ?_ _ | refine aJ ?_ | refine aK ?_ _)); exact BK404.out) hb); have n4_ := aA.mk (aG (g := gb405) (o := .cells #[.int .i64 a1_0, .int .i64 a1_1, .int .i64 a1_2, .int .i64 a1_3, .int .i64 a1_4] 27 (0, 0)) (by (with_reducible repeat (first | refine aM ?_ _ | refine aJ ?_ | refine aK ?_ _)); refine bB ?_ NB405_438.out _; (with_reducible repeat (first | refine aM ?_ _ | refine aJ ?_ | refine aK ?_ _)); exact BK405.out) hb); have n5_ := aA.mk (aG (g := gb406) (o := .cells #[.slice none 0 0] 32 (0, 0)) (by (with_reducible repeat (first | refine aM ?_ _ | refine aJ ?_ | refine aK ?_ _)); refine bB ?_ NB406_438.out _; (with_reducible repeat (first | refine aM ?_ _ | refine aJ ?_ | refine aK ?_ _)); exact BK406.out) hb); have n6_ := aA.mk (aG (g := gb410) (o := .cells #[.slice Ao122 x411000_49.length co122] 32 (0, 0)) (by (with_reducible repeat (first | refine aM ?_ _ | refine aJ ?_ | refine aK ?_ _)); refine bB ?_ NB410_438.out _; (with_reducible repeat (first | refine aM ?_ _ | refine aJ ?_ | refine aK ?_ _)); exact BK410.out) hb); have n7_ := aA.mk (aG (g := gb438) (o := .cells #[.slice Ao133 t435.length co133] 32 (0, 0)) (by (with_reducible repeat (first | refine aM ?_ _ | refine aJ ?_ | refine aK ?_ _)); refine bE (cs := #[.slice none 0 0]) ?_ 0 _ rfl; (with_reducible repeat (first | refine aM ?_ _ | refine aJ ?_ | refine aK ?_ _)); exact BK438.out) hb); have n8_ := aA.mk (aT (by repeat (first | (with_reducible first | exact HB.out | apply aN | apply aE | apply aH | refine aC ?_ GE404.out | refine aC ?_ GE405.out | refine aC ?_ GE406.out | refine aC ?_ GE410.out | refine aC ?_ GE438.out) | exact HB.out)) hb); clear HO_411000; clear HO434; clear HO437; clear BK404; clear BK405; clear BK406; clear BK410; clear BK438; clear HB; have HO_411000 := n0_; have HO434 := n1_; have HO437 := n2_; have BK404 := n3_; have BK405 := n4_; have BK406 := n5_; have BK410 := n6_; have BK438 := n7_; have HB := n8_; clear n0_ n1_ n2_ n3_ n4_ n5_ n6_ n7_ n8_; (try clear hb); (try clear hk); have hcz140_0 : w139.cell? ⟨gb438, 0, none⟩ = some (.slice Ao133 t435.length co133) := (aD BK438.out 0).trans rfl; have hfz140_0 := aX BK438.out 0; have hcz141_0 : w139.cell? ⟨gb406, 0, none⟩ = some (.slice none 0 0) := (aD BK406.out 0).trans rfl; have hfz141_0 := aX BK406.out 0))
        refine bodyPost_ret (results_ct rfl _ _ gb406 32 #[.slice Ao133 t435.length co133] (0, 0) _ rfl (by (with_reducible repeat (first | refine aM ?_ _ | refine aJ ?_ | refine aK ?_ _)); refine bE (cs := #[.slice none 0 0]) ?_ 0 _ rfl; (with_reducible repeat (first | refine aM ?_ _ | refine aJ ?_ | refine aK ?_ _)); exact BK406.out) Try.underlying32 rfl (by kernel_rfl)) rfl ?_
        exact ⟨_, by first | rfl | (simp [errW_none, errW_some] <;> rfl) | (simp [*, errW_none, errW_some] <;> rfl), by (with_reducible repeat (first | apply Kd.S_alloc | apply Kd.S_drewN | apply Kd.S_drew)); exact Kd.bP (Kd.S_far (p := ⟨gb406, 0, none⟩) (Kd.bP HO437.out (fun k_ hk => (⟨hk, hk.1.2.2.2.2.2.1⟩ : _ ∧ k_ ≠ gb406))) (fun _ hk => hk.2) (.slice Ao133 t435.length co133)) (fun _ hk => hk.1.1.1), by repeat (first | (with_reducible first | exact HB.out | apply aN | apply aE | apply aH | refine aC ?_ GE404.out | refine aC ?_ GE405.out | refine aC ?_ GE406.out | refine aC ?_ GE410.out | refine aC ?_ GE438.out) | exact HB.out)⟩
       ·replace c117 := Bool.eq_false_iff.mpr c117
        subst c117
        have H1 : ((impl_copyNode.f kj49 l0_0).bind fun t443 => (some (t443, false))) = some (r1, r2) := by rw [if_neg (show ¬ (false = true) by decide)] at H; exact H
        clear H
        have H := H1
        clear H1
        replace H := lF H
        obtain ⟨t443, A1420, H⟩ := H
        replace H : (some (t443, false)) = some (r1, r2) := H
        have A142 := aA.mk A1420
        clear A1420
        simp only [Option.some.injEq, Prod.mk.injEq] at H
        obtain ⟨rfl, rfl⟩ := H
        have hnb143 := NB410_404.out
        have hnc143 := NB404_410.out
        have hnb144 := NB410_405.out
        have hnc144 := NB405_410.out
        have hnb145 := NB410_406.out
        have hnc145 := NB406_410.out
        have hcz146_0 := cs1 BK410.out
        have hfz146_0 := fs1 BK410.out
        obtain ⟨Ao147, co147, eo147⟩ := Kd.S_slice HO_411000.out
        subst eo147
        go_wp2_with (first | ((with_reducible refine bD (f := 29) rfl ?_); refine bL (some 64) rfl rfl Try.func29 (by kernel_rfl) rfl #[.agg #[.slice Ao147 x411000_49.length co147]] rfl (by (try simp only [List.map_toArray, List.map_cons, List.map_nil]); first | done | rfl) ?_; (with_reducible refine (impl_NodeOk.calls kj49 _ _ x411000_49 false _ ?side1 ?side2 A75.out).mono ?_); (case side1 => repeat (first | exact (Kd.S_reads' HO_411000.out).2.2 | (with_reducible refine Kd.C_alloc ?_ _) | (with_reducible refine Kd.C_drewN ?_ _) | (with_reducible refine Kd.C_drew ?_))); (case side2 => exact (Kd.S_reads' HO_411000.out).2.1); rintro e w148 ⟨rfl, hb⟩; refine ⟨_, rfl, ?_⟩; replace HO_411000 := aA.mk (Kd.bM HO_411000.out hb); replace BK404 := aA.mk (aG (g := gb404) (o := .cells #[.slice A0_0 l0_0.length c0_0] 32 (0, 0)) BK404.out hb); replace BK405 := aA.mk (aG (g := gb405) (o := .cells #[.int .i64 a1_0, .int .i64 a1_1, .int .i64 a1_2, .int .i64 a1_3, .int .i64 a1_4] 27 (0, 0)) BK405.out hb); replace BK406 := aA.mk (aG (g := gb406) (o := .cells #[.slice none 0 0] 32 (0, 0)) BK406.out hb); replace BK410 := aA.mk (aG (g := gb410) (o := .cells #[.slice Ao147 x411000_49.length co147] 32 (0, 0)) BK410.out hb); replace HB := aA.mk (aT (by repeat (first | (with_reducible first | exact HB.out | apply aN | apply aE | apply aH | refine aC ?_ GE404.out | refine aC ?_ GE405.out | refine aC ?_ GE406.out | refine aC ?_ GE410.out) | exact HB.out)) hb); (try clear hb); (try clear hk); have hnb149 := NB404_405.out; have hnc149 := NB405_404.out; have hnb150 := NB404_406.out; have hnc150 := NB406_404.out; have hcz151_0 := cs1 BK404.out; have hfz151_0 := fs1 BK404.out; have hnb152 := NB405_406.out; have hnc152 := NB406_405.out; obtain ⟨hcz153_0, hcz153_1, hcz153_2, hcz153_3, hcz153_4⟩ := cs5 BK405.out; obtain ⟨hfz153_0, hfz153_1, hfz153_2, hfz153_3, hfz153_4⟩ := fs5 BK405.out) | ((with_reducible refine bD (f := 72) rfl ?_); refine bL (some 68) rfl rfl Try.func72 (by kernel_rfl) rfl #[.agg #[.slice A0_0 l0_0.length c0_0], .agg #[.int .i64 a1_0, .int .i64 a1_1, .int .i64 a1_2, .int .i64 a1_3, .int .i64 a1_4]] rfl (by (try simp only [List.map_toArray, List.map_cons, List.map_nil]); first | done | rfl) ?_; (with_reducible refine (impl_keysWith.calls kj49 _ _ l0_0 a1_0 a1_1 a1_2 a1_3 a1_4 t432 _ ?side1 ?side2 A87.out).mono ?_); (case side1 => exact (Kd.bN HR0_0.out HB.out)); (case side2 => exact HC0_0.out); rintro e w154 ⟨v433, rfl, ho0, hb⟩; refine ⟨_, rfl, ?_⟩; replace HO_411000 := aA.mk (Kd.S_elder' HO_411000.out (Kd.R_base ho0) hb); have HO434 := aA.mk (Kd.R_lower (Kd.R_newB (Kd.R_newM (M := fun k_ => (w.heap.size ≤ k_)) ho0 (aQ (by repeat (first | (with_reducible first | exact HB.out | apply aN | apply aE | apply aH | refine aC ?_ GE404.out | refine aC ?_ GE405.out | refine aC ?_ GE406.out | refine aC ?_ GE410.out) | exact HB.out))) (fun k_ h_ => h_)) (g := gb405) (o := .cells #[.int .i64 a1_0, .int .i64 a1_1, .int .i64 a1_2, .int .i64 a1_3, .int .i64 a1_4] 27 (0, 0)) BK405.out) (aQ (by repeat (first | (with_reducible first | exact HB.out | apply aN | apply aE | apply aH | refine aC ?_ GE404.out | refine aC ?_ GE405.out | refine aC ?_ GE406.out | refine aC ?_ GE410.out) | exact HB.out)))); replace BK404 := aA.mk (aG (g := gb404) (o := .cells #[.slice A0_0 l0_0.length c0_0] 32 (0, 0)) BK404.out hb); replace BK405 := aA.mk (aG (g := gb405) (o := .cells #[.int .i64 a1_0, .int .i64 a1_1, .int .i64 a1_2, .int .i64 a1_3, .int .i64 a1_4] 27 (0, 0)) BK405.out hb); replace BK406 := aA.mk (aG (g := gb406) (o := .cells #[.slice none 0 0] 32 (0, 0)) BK406.out hb); replace BK410 := aA.mk (aG (g := gb410) (o := .cells #[.slice Ao147 x411000_49.length co147] 32 (0, 0)) BK410.out hb); replace HB := aA.mk (aT (by repeat (first | (with_reducible first | exact HB.out | apply aN | apply aE | apply aH | refine aC ?_ GE404.out | refine aC ?_ GE405.out | refine aC ?_ GE406.out | refine aC ?_ GE410.out) | exact HB.out)) hb); (try clear hb); (try clear hk); (try clear ho0); obtain ⟨Ao155, co155, eo155⟩ := Kd.R_slice HO434.out; subst eo155) | ((with_reducible refine bD (f := 23) rfl ?_); refine bL (some 70) rfl rfl Try.func23 (by kernel_rfl) rfl #[.slice Ao155 t432.length co155] rfl (by (try simp only [List.map_toArray, List.map_cons, List.map_nil]); first | done | rfl) ?_; (with_reducible refine (impl_NodeNew.calls _ _ t432 t435 _ ?side1 ?side2 A88.out).mono ?_); (case side1 => repeat (first | exact (Kd.R_reads' HO434.out).2.2 | (with_reducible refine Kd.C_alloc ?_ _) | (with_reducible refine Kd.C_drewN ?_ _) | (with_reducible refine Kd.C_drew ?_))); (case side2 => exact (Kd.R_reads' HO434.out).2.1); rintro e w156 ⟨v436, rfl, ho0, hb⟩; refine ⟨_, rfl, ?_⟩; have HO437 := aA.mk (Kd.S_lower (Kd.bP (ok' := fun k_ => (w.heap.size ≤ k_) ∧ some k_ ≠ (.slice Ao147 x411000_49.length co147 : Value).ownBlock ∧ some k_ ≠ (.slice Ao155 t432.length co155 : Value).ownBlock ∧ k_ ≠ gb404 ∧ k_ ≠ gb405 ∧ k_ ≠ gb406 ∧ k_ ≠ gb410) (id (Kd.S_bound ho0)) (fun k_ hk_ => ⟨(Nat.le_trans (aQ (by repeat (first | (with_reducible first | exact HB.out | apply aN | apply aE | apply aH | refine aC ?_ GE404.out | refine aC ?_ GE405.out | refine aC ?_ GE406.out | refine aC ?_ GE410.out) | exact HB.out))) hk_.2.1), (Kd.fresh' (Kd.S_lt HO_411000.out) k_ hk_.2.1), (Kd.fresh' (Kd.R_lt HO434.out) k_ hk_.2.1), (Kd.freshB (g := gb404) (o := .cells #[.slice A0_0 l0_0.length c0_0] 32 (0, 0)) BK404.out k_ hk_.2.1), (Kd.freshB (g := gb405) (o := .cells #[.int .i64 a1_0, .int .i64 a1_1, .int .i64 a1_2, .int .i64 a1_3, .int .i64 a1_4] 27 (0, 0)) BK405.out k_ hk_.2.1), (Kd.freshB (g := gb406) (o := .cells #[.slice none 0 0] 32 (0, 0)) BK406.out k_ hk_.2.1), (Kd.freshB (g := gb410) (o := .cells #[.slice Ao147 x411000_49.length co147] 32 (0, 0)) BK410.out k_ hk_.2.1)⟩)) (aQ (by repeat (first | (with_reducible first | exact HB.out | apply aN | apply aE | apply aH | refine aC ?_ GE404.out | refine aC ?_ GE405.out | refine aC ?_ GE406.out | refine aC ?_ GE410.out) | exact HB.out)))); replace HO_411000 := aA.mk (Kd.S_elder' HO_411000.out (Kd.S_base ho0) hb); replace HO434 := aA.mk (Kd.R_below HO434.out hb); replace BK404 := aA.mk (aG (g := gb404) (o := .cells #[.slice A0_0 l0_0.length c0_0] 32 (0, 0)) BK404.out hb); replace BK405 := aA.mk (aG (g := gb405) (o := .cells #[.int .i64 a1_0, .int .i64 a1_1, .int .i64 a1_2, .int .i64 a1_3, .int .i64 a1_4] 27 (0, 0)) BK405.out hb); replace BK406 := aA.mk (aG (g := gb406) (o := .cells #[.slice none 0 0] 32 (0, 0)) BK406.out hb); replace BK410 := aA.mk (aG (g := gb410) (o := .cells #[.slice Ao147 x411000_49.length co147] 32 (0, 0)) BK410.out hb); replace HB := aA.mk (aT (by repeat (first | (with_reducible first | exact HB.out | apply aN | apply aE | apply aH | refine aC ?_ GE404.out | refine aC ?_ GE405.out | refine aC ?_ GE406.out | refine aC ?_ GE410.out) | exact HB.out)) hb); (try clear hb); (try clear hk); (try clear ho0)) | ((with_reducible refine bA (N := 12) rfl ?_); (try (refine gate_guard (by rfl) ?_; dsimp only)); refine bC ?hg (N := 12) ?hd (cs := #[.slice none 0 0]) (t := 32) ?hr ?_; (case hd => rfl); (case hg => rfl); (case hr => first | (go_simp; done) | (go_simp; rfl)); intro gb438 hg w157 hbox hb; replace HO_411000 := aA.mk (Kd.bM (Kd.S_elderB HO_411000.out gb438 (Nat.le_of_eq hg.symm)) hb); replace HO434 := aA.mk (Kd.R_below HO434.out hb); replace HO437 := aA.mk (Kd.bM (Kd.S_elderB HO437.out gb438 (Nat.le_of_eq hg.symm)) hb); have BK438 := aA.mk (hbox); have GW438 := aA.mk ((by rw [hg]; exact (aQ (by repeat (first | (with_reducible first | exact HB.out | apply aN | apply aE | apply aH | refine aC ?_ GE404.out | refine aC ?_ GE405.out | refine aC ?_ GE406.out | refine aC ?_ GE410.out) | exact HB.out))) : w.heap.size ≤ gb438)); have GE438 := aA.mk ((by rw [hg]; exact (aQ (by repeat (first | (with_reducible first | exact HB.out | apply aN | apply aE | apply aH | refine aC ?_ GE404.out | refine aC ?_ GE405.out | refine aC ?_ GE406.out | refine aC ?_ GE410.out) | exact HB.out))) : w.heap.size ≤ gb438)); replace HB := aA.mk (aT (by repeat (first | (with_reducible first | exact HB.out | apply aN | apply aE | apply aH | refine aC ?_ GE404.out | refine aC ?_ GE405.out | refine aC ?_ GE406.out | refine aC ?_ GE410.out) | exact HB.out)) hb); have NB404_438 := aA.mk ((by rw [hg]; exact Nat.ne_of_lt (aY (g := gb404) (o := .cells #[.slice A0_0 l0_0.length c0_0] 32 (0, 0)) BK404.out) : gb404 ≠ gb438)); have NB438_404 := aA.mk ((by rw [hg]; exact Nat.ne_of_gt (aY (g := gb404) (o := .cells #[.slice A0_0 l0_0.length c0_0] 32 (0, 0)) BK404.out) : gb438 ≠ gb404)); replace BK404 := aA.mk (aG (g := gb404) (o := .cells #[.slice A0_0 l0_0.length c0_0] 32 (0, 0)) BK404.out hb); have NB405_438 := aA.mk ((by rw [hg]; exact Nat.ne_of_lt (aY (g := gb405) (o := .cells #[.int .i64 a1_0, .int .i64 a1_1, .int .i64 a1_2, .int .i64 a1_3, .int .i64 a1_4] 27 (0, 0)) BK405.out) : gb405 ≠ gb438)); have NB438_405 := aA.mk ((by rw [hg]; exact Nat.ne_of_gt (aY (g := gb405) (o := .cells #[.int .i64 a1_0, .int .i64 a1_1, .int .i64 a1_2, .int .i64 a1_3, .int .i64 a1_4] 27 (0, 0)) BK405.out) : gb438 ≠ gb405)); replace BK405 := aA.mk (aG (g := gb405) (o := .cells #[.int .i64 a1_0, .int .i64 a1_1, .int .i64 a1_2, .int .i64 a1_3, .int .i64 a1_4] 27 (0, 0)) BK405.out hb); have NB406_438 := aA.mk ((by rw [hg]; exact Nat.ne_of_lt (aY (g := gb406) (o := .cells #[.slice none 0 0] 32 (0, 0)) BK406.out) : gb406 ≠ gb438)); have NB438_406 := aA.mk ((by rw [hg]; exact Nat.ne_of_gt (aY (g := gb406) (o := .cells #[.slice none 0 0] 32 (0, 0)) BK406.out) : gb438 ≠ gb406)); replace BK406 := aA.mk (aG (g := gb406) (o := .cells #[.slice none 0 0] 32 (0, 0)) BK406.out hb); have NB410_438 := aA.mk ((by rw [hg]; exact Nat.ne_of_lt (aY (g := gb410) (o := .cells #[.slice Ao147 x411000_49.length co147] 32 (0, 0)) BK410.out) : gb410 ≠ gb438)); have NB438_410 := aA.mk ((by rw [hg]; exact Nat.ne_of_gt (aY (g := gb410) (o := .cells #[.slice Ao147 x411000_49.length co147] 32 (0, 0)) BK410.out) : gb438 ≠ gb410)); replace BK410 := aA.mk (aG (g := gb410) (o := .cells #[.slice Ao147 x411000_49.length co147] 32 (0, 0)) BK410.out hb); clear hb hbox hg; obtain ⟨Ao158, co158, eo158⟩ := Kd.S_slice HO437.out; subst eo158; have hnb159 := NB438_404.out; have hnc159 := NB404_438.out; have hnb160 := NB438_405.out; have hnc160 := NB405_438.out; have hnb161 := NB438_406.out; have hnc161 := NB406_438.out; have hnb162 := NB438_410.out; have hnc162 := NB410_438.out; have hcz163_0 := cs1 BK438.out; have hfz163_0 := fs1 BK438.out) | (go_at_call 29; (with_reducible refine (impl_NodeOk.calls kj49 _ _ t435 false _ ?side1 ?side2 A116.out).mono ?_); (case side1 => refine (Kd.S_reads' (e := 40) (base := w.heap.size) (ok := fun k_ => (((w.heap.size ≤ k_) ∧ (some k_ ≠ (.slice Ao147 x411000_49.length co147 : Value).ownBlock ∧ (some k_ ≠ (.slice Ao155 t432.length co155 : Value).ownBlock ∧ (k_ ≠ gb404 ∧ (k_ ≠ gb405 ∧ (k_ ≠ gb406 ∧ k_ ≠ gb410)))))) ∧ k_ ≠ gb438)) (n := t435.length) (c := co158) ?_).2.2; exact (by (with_reducible repeat (first | apply Kd.S_alloc | apply Kd.S_drewN | apply Kd.S_drew)); exact (Kd.bP (Kd.S_far (p := ⟨gb438, 0, none⟩) (Kd.bP HO437.out (fun k_ hk => (⟨hk, hk.2⟩ : _ ∧ k_ ≠ gb438))) (fun _ hk => hk.2) (.slice Ao158 t435.length co158)) (fun _ h_ => h_.1)))); (case side2 => exact (Kd.S_reads' HO437.out).2.1); rintro e w164 ⟨rfl, hb⟩; have n0_ := aA.mk (Kd.bM (by (with_reducible repeat (first | apply Kd.S_alloc | apply Kd.S_drewN | apply Kd.S_drew)); exact (Kd.bP (Kd.S_far (p := ⟨gb438, 0, none⟩) (Kd.bP HO_411000.out (fun k_ hk => (⟨hk, hk.2⟩ : _ ∧ k_ ≠ gb438))) (fun _ hk => hk.2) (.slice Ao158 t435.length co158)) (fun _ h_ => h_.1))) hb); have n1_ := aA.mk (Kd.R_below (by (with_reducible repeat (first | apply Kd.bQ | apply Kd.bR | apply Kd.bU)); exact (Kd.bK (Kd.R_far (p := ⟨gb438, 0, none⟩) (Kd.R_types HO434.out BK438.out (by decide)) (fun _ hk => hk.2) (.slice Ao158 t435.length co158)) (fun _ h_ => h_.1))) hb); have n2_ := aA.mk (Kd.bM (by (with_reducible repeat (first | apply Kd.S_alloc | apply Kd.S_drewN | apply Kd.S_drew)); exact (Kd.bP (Kd.S_far (p := ⟨gb438, 0, none⟩) (Kd.bP HO437.out (fun k_ hk => (⟨hk, hk.2⟩ : _ ∧ k_ ≠ gb438))) (fun _ hk => hk.2) (.slice Ao158 t435.length co158)) (fun _ h_ => h_.1))) hb); have n3_ := aA.mk (aG (g := gb404) (o := .cells #[.slice A0_0 l0_0.length c0_0] 32 (0, 0)) (by (with_reducible repeat (first | refine aM ?_ _ | refine aJ ?_ | refine aK ?_ _)); refine bB ?_ NB404_438.out _; (with_reducible repeat (first | refine aM ?_ _ | refine aJ ?_ | refine aK ?_ _)); exact BK404.out) hb); have n4_ := aA.mk (aG (g := gb405) (o := .cells #[.int .i64 a1_0, .int .i64 a1_1, .int .i64 a1_2, .int .i64 a1_3, .int .i64 a1_4] 27 (0, 0)) (by (with_reducible repeat (first | refine aM ?_ _ | refine aJ ?_ | refine aK ?_ _)); refine bB ?_ NB405_438.out _; (with_reducible repeat (first | refine aM ?_ _ | refine aJ ?_ | refine aK ?_ _)); exact BK405.out) hb); have n5_ := aA.mk (aG (g := gb406) (o := .cells #[.slice none 0 0] 32 (0, 0)) (by (with_reducible repeat (first | refine aM ?_ _ | refine aJ ?_ | refine aK ?_ _)); refine bB ?_ NB406_438.out _; (with_reducible repeat (first | refine aM ?_ _ | refine aJ ?_ | refine aK ?_ _)); exact BK406.out) hb); have n6_ := aA.mk (aG (g := gb410) (o := .cells #[.slice Ao147 x411000_49.length co147] 32 (0, 0)) (by (with_reducible repeat (first | refine aM ?_ _ | refine aJ ?_ | refine aK ?_ _)); refine bB ?_ NB410_438.out _; (with_reducible repeat (first | refine aM ?_ _ | refine aJ ?_ | refine aK ?_ _)); exact BK410.out) hb); have n7_ := aA.mk (aG (g := gb438) (o := .cells #[.slice Ao158 t435.length co158] 32 (0, 0)) (by (with_reducible repeat (first | refine aM ?_ _ | refine aJ ?_ | refine aK ?_ _)); refine bE (cs := #[.slice none 0 0]) ?_ 0 _ rfl; (with_reducible repeat (first | refine aM ?_ _ | refine aJ ?_ | refine aK ?_ _)); exact BK438.out) hb); have n8_ := aA.mk (aT (by repeat (first | (with_reducible first | exact HB.out | apply aN | apply aE | apply aH | refine aC ?_ GE404.out | refine aC ?_ GE405.out | refine aC ?_ GE406.out | refine aC ?_ GE410.out | refine aC ?_ GE438.out) | exact HB.out)) hb); clear HO_411000; clear HO434; clear HO437; clear BK404; clear BK405; clear BK406; clear BK410; clear BK438; clear HB; have HO_411000 := n0_; have HO434 := n1_; have HO437 := n2_; have BK404 := n3_; have BK405 := n4_; have BK406 := n5_; have BK410 := n6_; have BK438 := n7_; have HB := n8_; clear n0_ n1_ n2_ n3_ n4_ n5_ n6_ n7_ n8_; (try clear hb); (try clear hk); have hcz165_0 : w164.cell? ⟨gb404, 0, none⟩ = some (.slice A0_0 l0_0.length c0_0) := (aD BK404.out 0).trans rfl; have hfz165_0 := aX BK404.out 0) | ((with_reducible refine bD (f := 70) rfl ?_); refine bL (some 80) rfl rfl Try.func70 (by kernel_rfl) rfl #[.agg #[.slice A0_0 l0_0.length c0_0]] rfl (by (try simp only [List.map_toArray, List.map_cons, List.map_nil]); first | done | rfl) ?_; (with_reducible refine (impl_copyNode.calls kj49 _ _ l0_0 t443 _ ?side1 ?side2 A142.out).mono ?_); (case side1 => exact (Kd.bN HR0_0.out HB.out)); (case side2 => exact HC0_0.out); rintro e w166 ⟨v444, rfl, ho0, hb⟩; refine ⟨_, rfl, ?_⟩; have HO445 := aA.mk (Kd.S_lower (Kd.bP (ok' := fun k_ => (w.heap.size ≤ k_) ∧ some k_ ≠ (.slice Ao147 x411000_49.length co147 : Value).ownBlock ∧ some k_ ≠ (.slice Ao155 t432.length co155 : Value).ownBlock ∧ some k_ ≠ (.slice Ao158 t435.length co158 : Value).ownBlock ∧ k_ ≠ gb404 ∧ k_ ≠ gb405 ∧ k_ ≠ gb406 ∧ k_ ≠ gb410 ∧ k_ ≠ gb438) (id (Kd.S_bound ho0)) (fun k_ hk_ => ⟨(Nat.le_trans (aQ (by repeat (first | (with_reducible first | exact HB.out | apply aN | apply aE | apply aH | refine aC ?_ GE404.out | refine aC ?_ GE405.out | refine aC ?_ GE406.out | refine aC ?_ GE410.out | refine aC ?_ GE438.out) | exact HB.out))) hk_.2.1), (Kd.fresh' (Kd.S_lt HO_411000.out) k_ hk_.2.1), (Kd.fresh' (Kd.R_lt HO434.out) k_ hk_.2.1), (Kd.fresh' (Kd.S_lt HO437.out) k_ hk_.2.1), (Kd.freshB (g := gb404) (o := .cells #[.slice A0_0 l0_0.length c0_0] 32 (0, 0)) BK404.out k_ hk_.2.1), (Kd.freshB (g := gb405) (o := .cells #[.int .i64 a1_0, .int .i64 a1_1, .int .i64 a1_2, .int .i64 a1_3, .int .i64 a1_4] 27 (0, 0)) BK405.out k_ hk_.2.1), (Kd.freshB (g := gb406) (o := .cells #[.slice none 0 0] 32 (0, 0)) BK406.out k_ hk_.2.1), (Kd.freshB (g := gb410) (o := .cells #[.slice Ao147 x411000_49.length co147] 32 (0, 0)) BK410.out k_ hk_.2.1), (Kd.freshB (g := gb438) (o := .cells #[.slice Ao158 t435.length co158] 32 (0, 0)) BK438.out k_ hk_.2.1)⟩)) (aQ (by repeat (first | (with_reducible first | exact HB.out | apply aN | apply aE | apply aH | refine aC ?_ GE404.out | refine aC ?_ GE405.out | refine aC ?_ GE406.out | refine aC ?_ GE410.out | refine aC ?_ GE438.out) | exact HB.out)))); replace HO_411000 := aA.mk (Kd.S_elder' HO_411000.out (Kd.S_base ho0) hb); replace HO434 := aA.mk (Kd.R_below HO434.out hb); replace HO437 := aA.mk (Kd.S_elder' HO437.out (Kd.S_base ho0) hb); replace BK404 := aA.mk (aG (g := gb404) (o := .cells #[.slice A0_0 l0_0.length c0_0] 32 (0, 0)) BK404.out hb); replace BK405 := aA.mk (aG (g := gb405) (o := .cells #[.int .i64 a1_0, .int .i64 a1_1, .int .i64 a1_2, .int .i64 a1_3, .int .i64 a1_4] 27 (0, 0)) BK405.out hb); replace BK406 := aA.mk (aG (g := gb406) (o := .cells #[.slice none 0 0] 32 (0, 0)) BK406.out hb); replace BK410 := aA.mk (aG (g := gb410) (o := .cells #[.slice Ao147 x411000_49.length co147] 32 (0, 0)) BK410.out hb); replace BK438 := aA.mk (aG (g := gb438) (o := .cells #[.slice Ao158 t435.length co158] 32 (0, 0)) BK438.out hb); replace HB := aA.mk (aT (by repeat (first | (with_reducible first | exact HB.out | apply aN | apply aE | apply aH | refine aC ?_ GE404.out | refine aC ?_ GE405.out | refine aC ?_ GE406.out | refine aC ?_ GE410.out | refine aC ?_ GE438.out) | exact HB.out)) hb); (try clear hb); (try clear hk); (try clear ho0); obtain ⟨Ao167, co167, eo167⟩ := Kd.S_slice HO445.out; subst eo167; have hcz168_0 := cs1 BK406.out; have hfz168_0 := fs1 BK406.out))
        refine bodyPost_ret (results_ct rfl _ _ gb406 32 #[.slice Ao167 t443.length co167] (0, 0) _ rfl (by (with_reducible repeat (first | refine aM ?_ _ | refine aJ ?_ | refine aK ?_ _)); refine bE (cs := #[.slice none 0 0]) ?_ 0 _ rfl; (with_reducible repeat (first | refine aM ?_ _ | refine aJ ?_ | refine aK ?_ _)); exact BK406.out) Try.underlying32 rfl (by kernel_rfl)) rfl ?_
        exact ⟨_, by first | rfl | (simp [errW_none, errW_some] <;> rfl) | (simp [*, errW_none, errW_some] <;> rfl), by (with_reducible repeat (first | apply Kd.S_alloc | apply Kd.S_drewN | apply Kd.S_drew)); exact Kd.bP (Kd.S_far (p := ⟨gb406, 0, none⟩) (Kd.bP HO445.out (fun k_ hk => (⟨hk, hk.2.2.2.2.2.2.1⟩ : _ ∧ k_ ≠ gb406))) (fun _ hk => hk.2) (.slice Ao167 t443.length co167)) (fun _ hk => hk.1.1), by repeat (first | (with_reducible first | exact HB.out | apply aN | apply aE | apply aH | refine aC ?_ GE404.out | refine aC ?_ GE405.out | refine aC ?_ GE406.out | refine aC ?_ GE410.out | refine aC ?_ GE438.out) | exact HB.out)⟩
end Go.Proofs.Ythpfihklkcnckaa.PFnExactNodePut

namespace Go.Proofs.Ythpfihklkcnckaa.PFnExactNodePut
open Go.RowKit Go.Proofs.YthpfihklkcnckaaW.PrintWords Go.Proofs.YthpfihklkcnckaaW.PrintLast Go.Proofs.YthpfihklkcnckaaW.PrintMore
attribute [local go_sem] max2_int min2_int max_two min_two max_three min_three max_four min_four   -- for this text's walks alone
set_option linter.unusedVariables false
set_option linter.unusedSimpArgs false
-- NOT PRINTED: function 8 (laws_FnExactNodePut)
end Go.Proofs.Ythpfihklkcnckaa.PFnExactNodePut

namespace Go.Proofs.Ythpfihklkcnckaa.Core
open Go.RowKit Go.Proofs.YthpfihklkcnckaaW.PrintWords
theorem w64 {x : Int} (h0 : -9223372036854775808 ≤ x) (h1 : x ≤ 9223372036854775807) : wrap64 x = x := by unfold wrap64; omega
theorem w64s (n : Nat) (h : n ≤ 4611686018427387904) : wrap64 ((n : Int) + 1) = ((n + 1 : Nat) : Int) := by unfold wrap64; omega
theorem evOf {α : Type} {g : Nat → Option α} {r : α} (h : ∀ k, g k = some r) : Ev g r := ⟨0, fun k _ => h k⟩
theorem evGet {α : Type} {g : Nat → Option α} {r : α} (h : Ev g r) : ∃ k, g k = some r := by
 obtain ⟨K, h⟩ := h
 exact ⟨K, h K (Nat.le_refl _)⟩
theorem evSucc {α : Type} {g : Nat → Option α} {r : α} (h : ∃ K d, ∀ k, K ≤ k → g (k + d) = some r) : Ev g r := by
 obtain ⟨K, d, h⟩ := h
 refine ⟨K + d, fun k hk => ?_⟩
 obtain ⟨m, rfl⟩ : ∃ m, k = m + d := ⟨k - d, by omega⟩
 exact h m (by omega)
theorem evRange {σ ρ : Type} (n : Nat) (l : Nat → σ → Int → Option ρ) (Inv : Nat → σ → Prop) (M : Nat → σ → ρ)
  (step : ∀ i s, i < n → Inv i s → (∃ s', Inv (i + 1) s' ∧ M (i + 1) s' = M i s ∧ ∃ K d, ∀ k, K ≤ k → l (k + d) s (i : Int) = l k s' ((i + 1 : Nat) : Int)) ∨ (∃ K d, ∀ k, K ≤ k → l (k + d) s (i : Int) = some (M i s)))
  (done : ∀ s, Inv n s → ∃ K d, ∀ k, K ≤ k → l (k + d) s (n : Int) = some (M n s)) :
  ∀ i s, i ≤ n → Inv i s → Ev (fun k => l k s (i : Int)) (M i s) := by
 have key : ∀ d i s, n - i = d → i ≤ n → Inv i s → Ev (fun k => l k s (i : Int)) (M i s) := by
  intro d
  induction d with
  | zero =>
   intro i s hd hi hinv
   obtain rfl : i = n := by omega
   exact evSucc (done s hinv)
  | succ d ih =>
   intro i s hd hi hinv
   rcases step i s (by omega) hinv with ⟨s', hinv', hM, K, e, h⟩ | h
   ·obtain ⟨K', h'⟩ := ih (i + 1) s' (by omega) (by omega) hinv'
    refine evSucc ⟨K + K', e, fun k hk' => ?_⟩
    show l (k + e) s i = _
    rw [h k (by omega), ← hM]
    exact h' k (by omega)
   ·exact evSucc h
 exact fun i s hi => key _ i s rfl hi
theorem evRange0 {σ ρ : Type} (n : Nat) (l : Nat → σ → Int → Option ρ) (Inv : Nat → σ → Prop) (M : Nat → σ → ρ) (s : σ) (h0 : Inv 0 s)
  (step : ∀ i s, i < n → Inv i s → (∃ s', Inv (i + 1) s' ∧ M (i + 1) s' = M i s ∧ ∃ K d, ∀ k, K ≤ k → l (k + d) s (i : Int) = l k s' ((i + 1 : Nat) : Int)) ∨ (∃ K d, ∀ k, K ≤ k → l (k + d) s (i : Int) = some (M i s)))
  (done : ∀ s, Inv n s → ∃ K d, ∀ k, K ≤ k → l (k + d) s (n : Int) = some (M n s)) :
  Ev (fun k => l k s 0) (M 0 s) := evRange n l Inv M step done 0 s (Nat.zero_le _) h0
def allFrom (p : Nat → Bool) (n i : Nat) : Bool := (List.range' i (n - i)).all p
theorem allFrom_lt {p : Nat → Bool} {n i : Nat} (h : i < n) : allFrom p n i = (p i && allFrom p n (i + 1)) := by
 unfold allFrom
 rw [show n - i = (n - (i + 1)) + 1 by omega, List.range'_succ, List.all_cons]
theorem allFrom_end (p : Nat → Bool) (n : Nat) : allFrom p n n = true := by simp [allFrom]
theorem allFrom_iff {p : Nat → Bool} {n i : Nat} : allFrom p n i = true ↔ ∀ j, i ≤ j → j < n → p j = true := by
 simp only [allFrom, List.all_eq_true, List.mem_range'_1]
 constructor
 ·intro h j h1 h2; exact h j ⟨h1, by omega⟩
 ·intro h j hj; exact h j hj.1 (by omega)
theorem evAll (n : Nat) (l : Nat → Int → Option Bool) (p : Nat → Bool) (fin : Bool)
  (step : ∀ i, i < n → ∃ K d, ∀ k, K ≤ k → l (k + d) (i : Int) = if p i = true then l k ((i + 1 : Nat) : Int) else some false)
  (done : ∃ K d, ∀ k, K ≤ k → l (k + d) (n : Int) = some fin) (i : Nat) (hi : i ≤ n) : Ev (fun k => l k (i : Int)) (allFrom p n i && fin) := by
 refine evRange (σ := Unit) n (fun k _ i => l k i) (fun _ _ => True) (fun i _ => allFrom p n i && fin) ?_ ?_ i () hi trivial
 ·intro i _ hi _
  obtain ⟨K, d, h⟩ := step i hi
  cases hp : p i with
  | true => exact .inl ⟨(), trivial, by simp [allFrom_lt hi, hp], K, d, fun k hk => by simp only [h k hk, hp, if_true]⟩
  | false => exact .inr ⟨K, d, fun k hk => by simp only [h k hk, hp, allFrom_lt hi, Bool.false_and]; rfl⟩
 ·intro _ _
  obtain ⟨K, d, h⟩ := done
  exact ⟨K, d, fun k hk => by rw [h k hk, allFrom_end, Bool.true_and]⟩
def fill {β : Type} (c : Nat → β) (l : List β) (i : Nat) : List β := (List.range i).map c ++ l.drop i
theorem fill_zero {β : Type} (c : Nat → β) (l : List β) : fill c l 0 = l := by simp [fill]
theorem fill_length {β : Type} (c : Nat → β) (l : List β) (i : Nat) (h : i ≤ l.length) : (fill c l i).length = l.length := by simp [fill]; omega
theorem fill_all {β : Type} (c : Nat → β) (l : List β) : fill c l l.length = (List.range l.length).map c := by simp [fill]
theorem fill_getElem? {β : Type} (c : Nat → β) (l : List β) (i j : Nat) : (fill c l i)[j]? = if j < i then some (c j) else l[j]? := by
 unfold fill
 by_cases h : j < i
 ·rw [if_pos h, List.getElem?_append_left (by simpa using h)]; simp [h]
 ·rw [if_neg h, List.getElem?_append_right (by simp; omega), List.getElem?_drop]; simp; congr 1; omega
theorem fill_set {β : Type} (c : Nat → β) (l : List β) (i : Nat) (h : i < l.length) {v : β} (hv : v = c i) : (fill c l i).set i v = fill c l (i + 1) := by
 subst hv
 apply List.ext_getElem?
 intro j
 rw [List.getElem?_set, fill_getElem?, fill_getElem?, fill_length c l i (by omega)]
 by_cases e : i = j
 ·subst e; simp [h]
 ·rw [if_neg e]
  by_cases h1 : j < i
  ·rw [if_pos h1, if_pos (by omega)]
  ·rw [if_neg h1, if_neg (by omega)]
theorem range_getD {β : Type} (c : Nat → β) (n i : Nat) (z : β) (h : i < n) : ((List.range n).map c).getD i z = c i := by
 rw [List.getD_eq_getElem?_getD]; simp [h]
theorem range_map {α β : Type} (f : α → β) (l : List α) (z : α) : (List.range l.length).map (fun i => f (l.getD i z)) = l.map f := by
 apply List.ext_getElem?
 intro j
 by_cases h : j < l.length
 ·simp [h]
 ·simp [h]
theorem drop_getD {α : Type} (l : List α) (i : Nat) (z : α) (h : i < l.length) : l.drop i = l.getD i z :: l.drop (i + 1) := by
 rw [List.drop_eq_getElem_cons h, List.getD_eq_getElem?_getD, List.getElem?_eq_getElem h]; rfl
theorem take_getD {α : Type} (l : List α) (i : Nat) (z : α) (h : i < l.length) : l.take (i + 1) = l.take i ++ [l.getD i z] := by
 rw [List.take_succ_eq_append_getElem h, List.getD_eq_getElem?_getD, List.getElem?_eq_getElem h]; rfl
theorem getD_mem {α : Type} (l : List α) (i : Nat) (z : α) (h : i < l.length) : l.getD i z ∈ l := by
 rw [List.getD_eq_getElem?_getD, List.getElem?_eq_getElem h]; exact List.getElem_mem h
end Go.Proofs.Ythpfihklkcnckaa.Core

namespace Go.Proofs.Ythpfihklkcnckaa.Core
open Go.RowKit Go.Proofs.YthpfihklkcnckaaW.PrintWords
section
variable {α : Type} (mk : α → Int → α) (cnt : α → Int)
def cntL : List α → Int
 | [] => 0
 | x :: xs => cnt x + cntL xs
def mkL : List α → Int → List α
 | [], _ => []
 | x :: xs, a => mk x a :: mkL xs (a + cnt x)
theorem mkL_length : ∀ (l : List α) (a : Int), (mkL mk cnt l a).length = l.length
 | [], _ => rfl
 | x :: xs, a => by simp only [mkL, List.length_cons, mkL_length xs]
theorem cntL_take (z : α) : ∀ (l : List α) (i : Nat), i < l.length → cntL cnt (l.take (i + 1)) = cntL cnt (l.take i) + cnt (l.getD i z)
 | x :: xs, 0, _ => by simp [cntL]
 | x :: xs, i + 1, h => by
  have := cntL_take z xs i (by simpa using h)
  simp only [List.take_succ_cons, cntL, List.getD_cons_succ, this]
  omega
theorem cntL_nn (h : ∀ x, 0 ≤ cnt x) : ∀ l : List α, 0 ≤ cntL cnt l
 | [] => by simp [cntL]
 | x :: xs => by have := cntL_nn h xs; have := h x; simp only [cntL]; omega
theorem cntL_take_le (h : ∀ x, 0 ≤ cnt x) : ∀ (l : List α) (i : Nat), cntL cnt (l.take i) ≤ cntL cnt l
 | [], i => by simp [cntL]
 | x :: xs, 0 => by have := cntL_nn cnt h xs; have := h x; simp only [List.take_zero, cntL]; omega
 | x :: xs, i + 1 => by have := cntL_take_le h xs i; simp only [List.take_succ_cons, cntL]; omega
theorem mkL_getD (z : α) : ∀ (l : List α) (a : Int) (i : Nat), i < l.length → (mkL mk cnt l a).getD i z = mk (l.getD i z) (a + cntL cnt (l.take i))
 | x :: xs, a, 0, _ => by simp [mkL, cntL]
 | x :: xs, a, i + 1, h => by
  have := mkL_getD z xs (a + cnt x) i (by simpa using h)
  simp only [mkL, List.getD_cons_succ, List.take_succ_cons, cntL]
  rw [this]
  congr 1
  omega
/-- The first i are marked. -/
def midL (l : List α) (a : Int) (i : Nat) : List α := (mkL mk cnt l a).take i ++ l.drop i
theorem midL_zero (l : List α) (a : Int) : midL mk cnt l a 0 = l := by simp [midL]
theorem midL_all (l : List α) (a : Int) : midL mk cnt l a l.length = mkL mk cnt l a := by
 simp only [midL, List.drop_length, List.append_nil]
 rw [List.take_of_length_le (by rw [mkL_length]; omega)]
theorem midL_length (l : List α) (a : Int) (i : Nat) (h : i ≤ l.length) : (midL mk cnt l a i).length = l.length := by
 simp only [midL, List.length_append, List.length_take, List.length_drop, mkL_length]
 omega
theorem midL_getElem? (l : List α) (a : Int) (i j : Nat) (h : i ≤ l.length) : (midL mk cnt l a i)[j]? = if j < i then (mkL mk cnt l a)[j]? else l[j]? := by
 have hl : ((mkL mk cnt l a).take i).length = i := by rw [List.length_take, mkL_length]; omega
 unfold midL
 by_cases hj : j < i
 ·rw [if_pos hj, List.getElem?_append_left (by omega), List.getElem?_take, if_pos hj]
 ·rw [if_neg hj, List.getElem?_append_right (by omega), List.getElem?_drop, hl]
  congr 1
  omega
theorem midL_getD (z : α) (l : List α) (a : Int) (i : Nat) (h : i < l.length) : (midL mk cnt l a i).getD i z = l.getD i z := by
 rw [List.getD_eq_getElem?_getD, List.getD_eq_getElem?_getD, midL_getElem? mk cnt l a i i (by omega), if_neg (by omega)]
theorem midL_set (z : α) (l : List α) (a : Int) (i : Nat) (h : i < l.length) : (midL mk cnt l a i).set i (mk (l.getD i z) (a + cntL cnt (l.take i))) = midL mk cnt l a (i + 1) := by
 apply List.ext_getElem?
 intro j
 rw [List.getElem?_set, midL_length mk cnt l a i (by omega), midL_getElem? mk cnt l a i j (by omega), midL_getElem? mk cnt l a (i + 1) j (by omega)]
 by_cases hj : i = j
 ·subst hj
  rw [if_pos rfl, if_pos h, if_pos (by omega), ← mkL_getD mk cnt z l a i h, List.getD_eq_getElem?_getD, List.getElem?_eq_getElem (by rw [mkL_length]; exact h)]
  rfl
 ·rw [if_neg hj]
  by_cases h1 : j < i
  ·rw [if_pos h1, if_pos (by omega)]
  ·rw [if_neg h1, if_neg (by omega)]
end
/-- The blocks from lo on, below hi. -/
def In (lo hi k : Nat) : Prop := lo ≤ k ∧ k < hi
theorem In.off {a b c d : Nat} (h : b ≤ c) : ∀ k, In a b k → ¬ In c d k := fun _ h1 h2 => by unfold In at *; omega
namespace Mem
open Kd
section
variable {α : Type} {d : Kd α} {e n m c base lo hi top : Nat} {w w1 W : World} {A : Option Addr} {v : Value} {xs : List α} {ok P : Nat → Prop}
theorem times (hs : top ≤ W.heap.size) (hb : Below W.heap.size W w1) : ∃ lo hi, lo = W.heap.size ∧ hi = w1.heap.size ∧ top ≤ lo ∧ lo ≤ hi := ⟨_, _, rfl, rfl, hs, hb.size⟩
theorem new_S (h : Kd.S d e w1 lo ok v xs) (eh : hi = w1.heap.size) : ∃ A c, v = .slice A xs.length c ∧ xs.length ≤ c ∧ F d w1 (In lo hi) A xs.length xs ∧ Kd.S d e w1 lo (In lo hi) (.slice A xs.length c) xs := by
 subst eh
 obtain ⟨A, c, rfl, hl, _⟩ := S_reads h
 have h2 : Kd.S d e w1 lo (In lo w1.heap.size) (.slice A xs.length c) xs := bP (S_bound h) (fun k hk => ⟨hk.2.1, hk.2.2.1⟩)
 exact ⟨A, c, rfl, hl, S_F h2, h2⟩
theorem new_N (h : Kd.N d e w1 lo (fun k_ => lo ≤ k_) v xs) (eh : hi = w1.heap.size) : ∃ A c, v = .slice A xs.length c ∧ xs.length ≤ c ∧ F d w1 (In lo hi) A xs.length xs := by
 subst eh
 obtain ⟨A, c, rfl, hl, _⟩ := N_reads h
 exact ⟨A, c, rfl, hl, F_mono (F_bound (N_F h)) (fun k hk => ⟨hk.1, hk.2⟩)⟩
theorem back_R {h2 : Nat} (h : d.R e w1 base (fun k => In lo hi k ∨ n ≤ k) (.slice A m c) xs) (hl : lo ≤ n) (eh : h2 = w1.heap.size) : m = xs.length ∧ xs.length ≤ c ∧ F d w1 (In lo h2) A xs.length xs := by
 subst eh
 obtain ⟨h1, h3, _⟩ := R_reads' h
 subst h1
 exact ⟨rfl, h3, F_mono (F_bound (R_F h)) (fun k hk => ⟨hk.1.elim (fun h4 => h4.1) (fun h4 => Nat.le_trans hl h4), hk.2⟩)⟩
theorem back_S {h2 : Nat} (h : Kd.S d e w1 base (fun k => In lo hi k ∨ n ≤ k) (.slice A m c) xs) (hl : lo ≤ n) (eh : h2 = w1.heap.size) : m = xs.length ∧ xs.length ≤ c ∧ F d w1 (In lo h2) A xs.length xs := back_R (S_R h) hl eh
end
theorem lent {α : Type} {d : Kd α} {e e2 g n cap base : Nat} {P : Nat → Prop} {W : World} {xs : List (List α)} (h : Kd.S (Kd.slice e d) e2 W base P (.slice (some ⟨g, 0, none⟩) n cap) xs) (i : Int) (h0 : 0 ≤ i) (h1 : i < n) (hnew : ∀ k, W.heap.size ≤ k → P k) :
  ∃ (oki : Nat → Prop) (v : Value), (∀ k, oki k → P k) ∧ d.R e W base oki v (xs.getD i.toNat []) ∧ W.cell? ⟨g, i.toNat, none⟩ = some v ∧
   ∀ (w1 : World) (x' : List α), Kept W w1 oki → d.R e w1 base (fun k => oki k ∨ W.heap.size ≤ k) v x' → Kd.S (Kd.slice e d) e2 w1 base P (.slice (some ⟨g, 0, none⟩) n cap) (xs.set i.toNat x') := by
 obtain ⟨oki, c, hcl, hM, hcc, hoki, hH⟩ := S_lend h [] i h0 h1
 obtain ⟨v, rfl, hR⟩ := hM
 refine ⟨oki, v, fun k hk => (hoki k hk).1, hR, ?_, fun w1 x' hk hR' => ?_⟩
 ·have := hcc 0 v rfl
  simpa [show (Kd.slice e d).sz = 1 from rfl] using this
 ·refine H_back (H_step (H_widen hH) (fun k ho hn hlt => hk.2 k hlt (fun h2 => hn (.inl h2)))) (okp := fun k => oki k ∨ W.heap.size ≤ k) ⟨v, rfl, hR'⟩ (fun k hk' => ?_)
  rcases hk' with hk' | hk'
  ·exact .inl hk'
  ·exact .inr ⟨hnew k hk', hk'⟩
end Mem
end Go.Proofs.Ythpfihklkcnckaa.Core
