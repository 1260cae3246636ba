/- The law: the functions that it reaches, each with the proof that the machine's call comes to its answer, what they answer, and the law's row; each theorem says its conditions itself. -/
import Derived.Test.YtilhcaofpfeioaaZFnFalls2
namespace Go.Proofs.Ytilhcaofpfeioaa.PFnFalls
open Go.RowKit Go.Proofs.YtilhcaofpfeioaaW.PrintWords Go.Proofs.YtilhcaofpfeioaaW.PrintLast Go.Proofs.YtilhcaofpfeioaaW.PrintMore
attribute [local go_sem] max2_int min2_int max_two min_two max_three min_three max_four min_four   -- for this text's walks alone
set_option linter.unusedVariables false
set_option linter.unusedSimpArgs false
mutual
def laws_FnFalls.l0 : Nat → Int → List (List Int) → List (S50) → Int → Bool → List (List Int) → List (S50) → Int → Bool → List (List Int) → List (S50) → Int → Bool → Option (Bool)
 | 0, _, _, _, _, _, _, _, _, _, _, _, _, _ => none
 | k + 1, x6, x217000, x217001, x217002, x217003, x228000, x228001, x228002, x228003, x237000, x237001, x237002, x237003 => if x6 < (x217000.length : Int) then (if 0 ≤ x6 then (if x6 < (x228000.length : Int) then (laws_FnFalls.l1 k x6 ((strOfNums (rd_L1 x228000 x6)).toList == (strOfNums (rd_L1 x217000 x6)).toList) 0 x217000 x217001 x217002 x217003 x228000 x228001 x228002 x228003 x237000 x237001 x237002 x237003) else (none)) else (none)) else ((impl_DevOk.f k x228000 x228001 x228002 x228003).bind fun t237 => (if t237 = true then (if (x228001.length : Int) = 0 then (if x228003 = true then (some false) else (some (x228002 == (-1)))) else (some false)) else (some false)))
def laws_FnFalls.l1 : Nat → Int → Bool → Int → List (List Int) → List (S50) → Int → Bool → List (List Int) → List (S50) → Int → Bool → List (List Int) → List (S50) → Int → Bool → Option (Bool)
 | 0, _, _, _, _, _, _, _, _, _, _, _, _, _, _, _ => none
 | k + 1, x6, x7, x8, x217000, x217001, x217002, x217003, x228000, x228001, x228002, x228003, x237000, x237001, x237002, x237003 => if x8 < (x217001.length : Int) then (if x7 = true then (laws_FnFalls.l1 k x6 true (wrap64 (x8 + 1)) x217000 x217001 x217002 x217003 x228000 x228001 x228002 x228003 x237000 x237001 x237002 x237003) else (if 0 ≤ x8 then (if ((rd_T50 x217001 x8).f0) = x6 then (if 0 ≤ x6 then (if x6 < (x228000.length : Int) then (laws_FnFalls.l1 k x6 ((strOfNums ((rd_T50 x217001 x8).f1)).toList == (strOfNums (rd_L1 x228000 x6)).toList) (wrap64 (x8 + 1)) x217000 x217001 x217002 x217003 x228000 x228001 x228002 x228003 x237000 x237001 x237002 x237003) else (none)) else (none)) else (laws_FnFalls.l1 k x6 false (wrap64 (x8 + 1)) x217000 x217001 x217002 x217003 x228000 x228001 x228002 x228003 x237000 x237001 x237002 x237003)) else (none))) else (if x7 = true then (if 0 ≤ x6 then (if x6 < (x237000.length : Int) then (if x6 < (x217000.length : Int) then (if (strOfNums (rd_L1 x237000 x6)).toList = (strOfNums (rd_L1 x217000 x6)).toList then (laws_FnFalls.l0 k (wrap64 (x6 + 1)) x217000 x217001 x217002 x217003 x228000 x228001 x228002 x228003 x237000 x237001 x237002 x237003) else (some false)) else (none)) else (none)) else (none)) else (some false))
end
def laws_FnFalls.f (k : Nat) (l0 : List Int) : Option (Bool) := (laws_big.f l0).bind fun t207 => (if t207 = true then (some true) else ((spec_DrawDev.f k l0).bind fun bt208 => ((laws_at.f l0 2).bind fun t217 => ((laws_at.f l0 3).bind fun t218 => ((impl_FallDev.f bt208.1 bt208.2.1 bt208.2.2.1 bt208.2.2.2 (wrap64 ((wrap64 (t217 * 256)) + t218))).bind fun bt219 => ((impl_FallDev.f bt208.1 bt208.2.1 bt208.2.2.1 bt208.2.2.2 0).bind fun bt228 => (laws_FnFalls.l0 k 0 bt208.1 bt208.2.1 bt208.2.2.1 bt208.2.2.2 bt219.1 bt219.2.1 bt219.2.2.1 bt219.2.2.2 bt228.1 bt228.2.1 bt228.2.2.1 bt228.2.2.2)))))))
def laws_FnFalls.T4 : Bool × List (List Nat × List Nat) := (true, [([], []), ([], []), ([1], [1]), ([2], [2]), ([], []), ([4, 2], [4]), ([3, 5], [3, 5]), ([0, 6, 5], [0, 6]), ([], []), ([8, 7, 7, 0, 1, 2, 3, 4, 5, 6, 7, 8], [7, 8])])
def laws_FnFalls.B4 : List Nat := [0, 0, 2, 6, 0, 22, 62, 127, 0, 511]
theorem laws_FnFalls.tab4 : rtab .any (opsOf Try.f10 4) = laws_FnFalls.T4 := by kernel_rfl
theorem laws_FnFalls.bits4 : waitsOk laws_FnFalls.T4.2 laws_FnFalls.B4 = true := by kernel_rfl
def laws_FnFalls.T9 : Bool × List (List Nat × List Nat) := (true, [([], []), ([0], [0]), ([], []), ([1, 2], [1, 2]), ([3], [3]), ([4], [4]), ([], []), ([6], [6]), ([], []), ([7, 8], [7, 8]), ([9], [9]), ([10], [10]), ([5, 11], [5, 11]), ([12, 0, 1, 2, 3, 4, 5, 6, 7, 8, 9, 10, 11, 12], [12])])
def laws_FnFalls.B9 : List Nat := [0, 1, 0, 7, 15, 31, 0, 64, 0, 448, 960, 1984, 4095, 8191]
theorem laws_FnFalls.tab9 : rtab .any (opsOf Try.f10 9) = laws_FnFalls.T9 := by kernel_rfl
theorem laws_FnFalls.bits9 : waitsOk laws_FnFalls.T9.2 laws_FnFalls.B9 = true := by kernel_rfl
def laws_FnFalls.T13 : Bool × List (List Nat × List Nat) := (true, [([], []), ([0], [0]), ([1], [1]), ([2, 1], [1, 2]), ([1], [1]), ([3, 4, 1], [1, 3, 4]), ([5, 1], [1, 5]), ([6, 1], [1, 6]), ([1], [1]), ([7, 8, 1], [1, 7, 8]), ([9, 1, 1], [1, 9]), ([10], [10]), ([11, 10], [10, 11]), ([10], [10]), ([12, 13, 10], [10, 12, 13]), ([14, 10], [10, 14]), ([15, 10], [10, 15]), ([16, 10], [10, 16]), ([10], [10]), ([18, 10], [10, 18]), ([10], [10]), ([19, 20, 10], [10, 19, 20]), ([21, 10], [10, 21]), ([22, 10], [10, 22]), ([17, 23, 10], [10, 17, 23]), ([10, 24, 1], [1, 10, 24]), ([1, 25], [1, 25]), ([26, 10, 0, 1, 2, 3, 4, 5, 6, 7, 8, 9, 10, 11, 12, 13, 14, 15, 16, 17, 18, 19, 20, 21, 22, 23, 24, 25, 26], [0, 26])])
def laws_FnFalls.B13 : List Nat := [0, 1, 3, 7, 3, 31, 63, 127, 3, 511, 1023, 2047, 4095, 2047, 16383, 32767, 65535, 131071, 2047, 264191, 2047, 1837055, 3934207, 8128511, 16777215, 33554431, 67108863, 134217727]
theorem laws_FnFalls.tab13 : rtab .any (opsOf Try.f10 13) = laws_FnFalls.T13 := by kernel_rfl
theorem laws_FnFalls.bits13 : waitsOk laws_FnFalls.T13.2 laws_FnFalls.B13 = true := by kernel_rfl
def laws_FnFalls.T14 : Bool × List (List Nat × List Nat) := (true, [([], []), ([0], [0]), ([1], [1]), ([2], [2]), ([3, 2], [2, 3]), ([2], [2]), ([4, 5, 2], [2, 4, 5]), ([6, 2], [2, 6]), ([7, 2], [2, 7]), ([2], [2]), ([9, 2], [2, 9]), ([2], [2]), ([10, 11, 2], [2, 10, 11]), ([12, 2], [2, 12]), ([13, 2], [2, 13]), ([8, 14, 2], [2, 8, 14]), ([2, 15], [2, 15])])
def laws_FnFalls.B14 : List Nat := [0, 1, 3, 7, 15, 7, 63, 127, 255, 7, 519, 7, 3591, 7687, 15879, 32767, 65535]
theorem laws_FnFalls.tab14 : rtab .any (opsOf Try.f10 14) = laws_FnFalls.T14 := by kernel_rfl
theorem laws_FnFalls.bits14 : waitsOk laws_FnFalls.T14.2 laws_FnFalls.B14 = true := by kernel_rfl
set_option maxHeartbeats 8000000 in
set_option maxRecDepth 100000 in
theorem laws_FnFalls.calls (k : Nat) (A0 : Option Addr) (c0 : Nat) (l0 : List Int) (r : Bool) (w : World) (hr0 : Kd.C (Kd.int .u8) w A0 l0.length l0) (hc0 : l0.length ≤ c0) (h : laws_FnFalls.f k l0 = some r) :
  Calls Try.prog 10 #[.slice A0 l0.length c0] w fun e w' => e = .returned (.bool r) ∧ Below w.heap.size w w' := by
 have hu25 := Try.underlying25
 have HR0 := aA.mk hr0
 have HC0 := aA.mk hc0
 clear hr0 hc0
 have HB := aA.mk (Below.refl w.heap.size w)
 have H : ((laws_big.f l0).bind fun t207 => (if t207 = true then (some true) else ((spec_DrawDev.f k l0).bind fun bt208 => ((laws_at.f l0 2).bind fun t217 => ((laws_at.f l0 3).bind fun t218 => ((impl_FallDev.f bt208.1 bt208.2.1 bt208.2.2.1 bt208.2.2.2 (wrap64 ((wrap64 (t217 * 256)) + t218))).bind fun bt219 => ((impl_FallDev.f bt208.1 bt208.2.1 bt208.2.2.1 bt208.2.2.2 0).bind fun bt228 => (laws_FnFalls.l0 k 0 bt208.1 bt208.2.1 bt208.2.2.1 bt208.2.2.2 bt219.1 bt219.2.1 bt219.2.2.1 bt219.2.2.2 bt228.1 bt228.2.1 bt228.2.2.1 bt228.2.2.2)))))))) = some r := h
 clear h
 replace H := lF H
 obtain ⟨t207, A20, H⟩ := H
 replace H : (if t207 = true then (some true) else ((spec_DrawDev.f k l0).bind fun bt208 => ((laws_at.f l0 2).bind fun t217 => ((laws_at.f l0 3).bind fun t218 => ((impl_FallDev.f bt208.1 bt208.2.1 bt208.2.2.1 bt208.2.2.2 (wrap64 ((wrap64 (t217 * 256)) + t218))).bind fun bt219 => ((impl_FallDev.f bt208.1 bt208.2.1 bt208.2.2.1 bt208.2.2.2 0).bind fun bt228 => (laws_FnFalls.l0 k 0 bt208.1 bt208.2.1 bt208.2.2.1 bt208.2.2.2 bt219.1 bt219.2.1 bt219.2.2.1 bt219.2.2.2 bt228.1 bt228.2.1 bt228.2.2.1 bt228.2.2.2))))))) = some r := H
 have A2 := aA.mk A20
 clear A20
 by_cases c3 : t207 = true
 ·subst c3
  have H1 : (some true) = some r := by rw [if_pos rfl] at H; exact H
  clear H
  have H := H1
  clear H1
  obtain rfl := Option.some.inj H
  go_enter Try.func10, Try.ntmps10
  go_wp2_with (first | ((with_reducible refine bJ (f := 33) rfl ?_); refine goesL_ (some 10) rfl rfl Try.func33 (by kernel_rfl) rfl #[.slice A0 l0.length c0] rfl (by (try simp only [List.map_toArray, List.map_cons, List.map_nil]); first | done | rfl | (simp only [List.length_drop, List.length_take]; rfl)) ?_; (with_reducible refine (laws_big.calls _ _ l0 true _ ?side1 ?side2 A2.out).mono ?_); (case side1 => repeat (first | exact HR0.out | (with_reducible refine Kd.C_alloc ?_ _) | (with_reducible refine Kd.C_drewN ?_ _) | (with_reducible refine Kd.C_drew ?_))); (case side2 => exact HC0.out); rintro e w' ⟨rfl, ⟨nd, rfl⟩⟩; refine ⟨_, rfl, ?_⟩))
  go_ret
  exact ⟨by first | rfl | (simp [errW_none, errW_some] <;> rfl) | (simp [*, errW_none, errW_some] <;> rfl), by repeat (first | (with_reducible first | exact HB.out | apply aM | apply aG | apply aJ) | exact HB.out)⟩
 ·replace c3 := Bool.eq_false_iff.mpr c3
  subst c3
  have H1 : ((spec_DrawDev.f k l0).bind fun bt208 => ((laws_at.f l0 2).bind fun t217 => ((laws_at.f l0 3).bind fun t218 => ((impl_FallDev.f bt208.1 bt208.2.1 bt208.2.2.1 bt208.2.2.2 (wrap64 ((wrap64 (t217 * 256)) + t218))).bind fun bt219 => ((impl_FallDev.f bt208.1 bt208.2.1 bt208.2.2.1 bt208.2.2.2 0).bind fun bt228 => (laws_FnFalls.l0 k 0 bt208.1 bt208.2.1 bt208.2.2.1 bt208.2.2.2 bt219.1 bt219.2.1 bt219.2.2.1 bt219.2.2.2 bt228.1 bt228.2.1 bt228.2.2.1 bt228.2.2.2)))))) = some r := by rw [if_neg (show ¬ (false = true) by decide)] at H; exact H
  clear H
  have H := H1
  clear H1
  replace H := lF H
  obtain ⟨⟨t208, t211, t214, t215⟩, A40, H⟩ := H
  replace H : ((laws_at.f l0 2).bind fun t217 => ((laws_at.f l0 3).bind fun t218 => ((impl_FallDev.f t208 t211 t214 t215 (wrap64 ((wrap64 (t217 * 256)) + t218))).bind fun bt219 => ((impl_FallDev.f t208 t211 t214 t215 0).bind fun bt228 => (laws_FnFalls.l0 k 0 t208 t211 t214 t215 bt219.1 bt219.2.1 bt219.2.2.1 bt219.2.2.2 bt228.1 bt228.2.1 bt228.2.2.1 bt228.2.2.2))))) = some r := H
  have A4 := aA.mk A40
  clear A40
  replace H := lF H
  obtain ⟨t217, A50, H⟩ := H
  replace H : ((laws_at.f l0 3).bind fun t218 => ((impl_FallDev.f t208 t211 t214 t215 (wrap64 ((wrap64 (t217 * 256)) + t218))).bind fun bt219 => ((impl_FallDev.f t208 t211 t214 t215 0).bind fun bt228 => (laws_FnFalls.l0 k 0 t208 t211 t214 t215 bt219.1 bt219.2.1 bt219.2.2.1 bt219.2.2.2 bt228.1 bt228.2.1 bt228.2.2.1 bt228.2.2.2)))) = some r := H
  have A5 := aA.mk A50
  clear A50
  replace H := lF H
  obtain ⟨t218, A60, H⟩ := H
  replace H : ((impl_FallDev.f t208 t211 t214 t215 (wrap64 ((wrap64 (t217 * 256)) + t218))).bind fun bt219 => ((impl_FallDev.f t208 t211 t214 t215 0).bind fun bt228 => (laws_FnFalls.l0 k 0 t208 t211 t214 t215 bt219.1 bt219.2.1 bt219.2.2.1 bt219.2.2.2 bt228.1 bt228.2.1 bt228.2.2.1 bt228.2.2.2))) = some r := H
  have A6 := aA.mk A60
  clear A60
  replace H := lF H
  obtain ⟨⟨t219, t222, t225, t226⟩, A70, H⟩ := H
  replace H : ((impl_FallDev.f t208 t211 t214 t215 0).bind fun bt228 => (laws_FnFalls.l0 k 0 t208 t211 t214 t215 t219 t222 t225 t226 bt228.1 bt228.2.1 bt228.2.2.1 bt228.2.2.2)) = some r := H
  have A7 := aA.mk A70
  clear A70
  replace H := lF H
  obtain ⟨⟨t228, t231, t234, t235⟩, A80, H⟩ := H
  replace H : (laws_FnFalls.l0 k 0 t208 t211 t214 t215 t219 t222 t225 t226 t228 t231 t234 t235) = some r := H
  have A8 := aA.mk A80
  clear A80
  have H' := aA.mk H
  clear H
  go_enter Try.func10, Try.ntmps10
  try go_wp2_with (first | ((with_reducible refine bJ (f := 33) rfl ?_); refine goesL_ (some 10) rfl rfl Try.func33 (by kernel_rfl) rfl #[.slice A0 l0.length c0] rfl (by (try simp only [List.map_toArray, List.map_cons, List.map_nil]); first | done | rfl | (simp only [List.length_drop, List.length_take]; rfl)) ?_; (with_reducible refine (laws_big.calls _ _ l0 false _ ?side1 ?side2 A2.out).mono ?_); (case side1 => repeat (first | exact HR0.out | (with_reducible refine Kd.C_alloc ?_ _) | (with_reducible refine Kd.C_drewN ?_ _) | (with_reducible refine Kd.C_drew ?_))); (case side2 => exact HC0.out); rintro e w' ⟨rfl, ⟨nd, rfl⟩⟩; refine ⟨_, rfl, ?_⟩) | ((with_reducible refine bJ (f := 34) rfl ?_); refine goesL_ (some 12) rfl rfl Try.func34 (by kernel_rfl) rfl #[.slice A0 l0.length c0] rfl (by (try simp only [List.map_toArray, List.map_cons, List.map_nil]); first | done | rfl | (simp only [List.length_drop, List.length_take]; rfl)) ?_; (with_reducible refine (spec_DrawDev.calls k _ _ l0 t208 t211 t214 t215 _ ?side1 ?side2 A4.out).mono ?_); (case side1 => repeat (first | exact HR0.out | (with_reducible refine Kd.C_alloc ?_ _) | (with_reducible refine Kd.C_drewN ?_ _) | (with_reducible refine Kd.C_drew ?_))); (case side2 => exact HC0.out); rintro e w9 ⟨v209, v212, rfl, ho0, ho1, hb⟩; refine ⟨_, rfl, ?_⟩; have n0_ := aA.mk (Kd.N_lower (Kd.bA (ok' := fun k_ => some k_ ≠ (v212 : Value).ownBlock) ho0 (fun k_ hk_ => hk_.2)) (bH (by repeat (first | (with_reducible first | exact HB.out | apply aM | apply aG | apply aJ) | exact HB.out)))); have n1_ := aA.mk (Kd.N_lower (Kd.bA (ok' := fun k_ => some k_ ≠ (v209 : Value).ownBlock) ho1 (fun k_ hk_ => hk_.2)) (bH (by repeat (first | (with_reducible first | exact HB.out | apply aM | apply aG | apply aJ) | exact HB.out)))); have n2_ := aA.mk (bD (by repeat (first | (with_reducible first | exact HB.out | apply aM | apply aG | apply aJ) | exact HB.out)) hb); clear HB; have HO210 := n0_; have HO213 := n1_; have HB := n2_; clear n0_ n1_ n2_; (try clear hb); (try clear ho0); (try clear ho1)) | ((with_reducible refine gate_dst (N := 3) rfl ?_); (try (refine gate_guard (by rfl) ?_; dsimp only)); refine box_event ?hg (N := 3) ?hd (cs := #[.slice none 0 0, .slice none 0 0, .int .i64 0, .bool false]) (t := 25) ?hr ?_; (case hd => rfl); (case hg => rfl); (case hr => first | (go_simp; done) | (go_simp; rfl)); intro gb216 hg w10 hbox hb; have n0_ := aA.mk (Kd.bL (Kd.N_elderB (by (with_reducible repeat (first | apply Kd.aY | apply Kd.aX | apply Kd.aV)); exact HO210.out) gb216 (Nat.le_of_eq hg.symm)) hb); have n1_ := aA.mk (Kd.bL (Kd.N_elderB (by (with_reducible repeat (first | apply Kd.aY | apply Kd.aX | apply Kd.aV)); exact HO213.out) gb216 (Nat.le_of_eq hg.symm)) hb); have n2_ := aA.mk (bD (by repeat (first | (with_reducible first | exact HB.out | apply aM | apply aG | apply aJ) | exact HB.out)) hb); have n3_ := aA.mk (hbox); have n4_ := aA.mk ((by rw [hg]; exact (bH (by repeat (first | (with_reducible first | exact HB.out | apply aM | apply aG | apply aJ) | exact HB.out))) : w.heap.size ≤ gb216)); have n5_ := aA.mk ((by rw [hg]; exact (bH (by repeat (first | (with_reducible first | exact HB.out | apply aM | apply aG | apply aJ) | exact HB.out))) : w.heap.size ≤ gb216)); clear HO210; clear HO213; clear HB; have HO210 := n0_; have HO213 := n1_; have HB := n2_; have BK216 := n3_; have GW216 := n4_; have GE216 := n5_; clear n0_ n1_ n2_ n3_ n4_ n5_; clear hb hbox hg; obtain ⟨Ao11, co11, eo11⟩ := Kd.N_slice HO210.out; subst eo11; have hcz12_0 : w10.cell? ⟨gb216, 0, none⟩ = some (.slice none 0 0) := (aD BK216.out 0).trans rfl; have hcz12_1 : w10.cell? ⟨gb216, 1, none⟩ = some (.slice none 0 0) := (aD BK216.out 1).trans rfl; have hcz12_2 : w10.cell? ⟨gb216, 2, none⟩ = some (.int .i64 0) := (aD BK216.out 2).trans rfl; have hcz12_3 : w10.cell? ⟨gb216, 3, none⟩ = some (.bool false) := (aD BK216.out 3).trans rfl; have hfz12_0 := aC BK216.out 0; have hfz12_1 := aC BK216.out 1; have hfz12_2 := aC BK216.out 2; have hfz12_3 := aC BK216.out 3; obtain ⟨Ao13, co13, eo13⟩ := Kd.N_slice HO213.out; subst eo13))
  have n0_ : aA (Kd.N (Kd.slice 5 (Kd.int .u8)) 37 ((((w10.setCell ⟨gb216, 0, none⟩ (.slice Ao11 t208.length co11)).setCell ⟨gb216, 1, none⟩ (.slice Ao13 t211.length co13)).setCell ⟨gb216, 2, none⟩ (.int .i64 t214)).setCell ⟨gb216, 3, none⟩ (.bool t215)) w.heap.size (fun k_ => some k_ ≠ (.slice Ao13 t211.length co13 : Value).ownBlock ∧ k_ ≠ gb216) (.slice Ao11 t208.length co11) t208) := ⟨by (with_reducible repeat (first | apply Kd.aY | apply Kd.aX | apply Kd.aV)); exact Kd.bA (Kd.bK (p := ⟨gb216, 3, none⟩) (Kd.bK (p := ⟨gb216, 2, none⟩) (Kd.bK (p := ⟨gb216, 1, none⟩) (Kd.bK (p := ⟨gb216, 0, none⟩) (Kd.bA HO210.out (fun k_ hk => (⟨hk, hk.2⟩ : _ ∧ k_ ≠ gb216))) (fun _ hk => hk.2) (.slice Ao11 t208.length co11)) (fun _ hk => hk.2) (.slice Ao13 t211.length co13)) (fun _ hk => hk.2) (.int .i64 t214)) (fun _ hk => hk.2) (.bool t215)) (fun _ hk => ⟨hk.1.1, hk.1.2⟩)⟩
  have n1_ : aA (Kd.N k50 50 ((((w10.setCell ⟨gb216, 0, none⟩ (.slice Ao11 t208.length co11)).setCell ⟨gb216, 1, none⟩ (.slice Ao13 t211.length co13)).setCell ⟨gb216, 2, none⟩ (.int .i64 t214)).setCell ⟨gb216, 3, none⟩ (.bool t215)) w.heap.size (fun k_ => some k_ ≠ (.slice Ao11 t208.length co11 : Value).ownBlock ∧ k_ ≠ gb216) (.slice Ao13 t211.length co13) t211) := ⟨by (with_reducible repeat (first | apply Kd.aY | apply Kd.aX | apply Kd.aV)); exact Kd.bA (Kd.bK (p := ⟨gb216, 3, none⟩) (Kd.bK (p := ⟨gb216, 2, none⟩) (Kd.bK (p := ⟨gb216, 1, none⟩) (Kd.bK (p := ⟨gb216, 0, none⟩) (Kd.bA HO213.out (fun k_ hk => (⟨hk, hk.2⟩ : _ ∧ k_ ≠ gb216))) (fun _ hk => hk.2) (.slice Ao11 t208.length co11)) (fun _ hk => hk.2) (.slice Ao13 t211.length co13)) (fun _ hk => hk.2) (.int .i64 t214)) (fun _ hk => hk.2) (.bool t215)) (fun _ hk => ⟨hk.1.1, hk.1.2⟩)⟩
  have n2_ : aA (((((w10.setCell ⟨gb216, 0, none⟩ (.slice Ao11 t208.length co11)).setCell ⟨gb216, 1, none⟩ (.slice Ao13 t211.length co13)).setCell ⟨gb216, 2, none⟩ (.int .i64 t214)).setCell ⟨gb216, 3, none⟩ (.bool t215)).heap[gb216]? = some (.cells #[.slice Ao11 t208.length co11, .slice Ao13 t211.length co13, .int .i64 t214, .bool t215] 25 (0, 0))) := ⟨by (with_reducible repeat (first | refine aQ ?_ _ | refine aN ?_ | refine aH ?_ _)); refine bE (cs := #[.slice Ao11 t208.length co11, .slice Ao13 t211.length co13, .int .i64 t214, .bool false]) ?_ 3 _ rfl; (with_reducible repeat (first | refine aQ ?_ _ | refine aN ?_ | refine aH ?_ _)); refine bE (cs := #[.slice Ao11 t208.length co11, .slice Ao13 t211.length co13, .int .i64 0, .bool false]) ?_ 2 _ rfl; (with_reducible repeat (first | refine aQ ?_ _ | refine aN ?_ | refine aH ?_ _)); refine bE (cs := #[.slice Ao11 t208.length co11, .slice none 0 0, .int .i64 0, .bool false]) ?_ 1 _ rfl; (with_reducible repeat (first | refine aQ ?_ _ | refine aN ?_ | refine aH ?_ _)); refine bE (cs := #[.slice none 0 0, .slice none 0 0, .int .i64 0, .bool false]) ?_ 0 _ rfl; (with_reducible repeat (first | refine aQ ?_ _ | refine aN ?_ | refine aH ?_ _)); exact BK216.out⟩
  have n3_ : aA (Below w.heap.size w ((((w10.setCell ⟨gb216, 0, none⟩ (.slice Ao11 t208.length co11)).setCell ⟨gb216, 1, none⟩ (.slice Ao13 t211.length co13)).setCell ⟨gb216, 2, none⟩ (.int .i64 t214)).setCell ⟨gb216, 3, none⟩ (.bool t215))) := ⟨by repeat (first | (with_reducible first | exact HB.out | apply aM | apply aG | apply aJ | refine aE ?_ GE216.out) | exact HB.out)⟩
  (try clear HO210)
  (try clear HO213)
  (try clear BK216)
  (try clear HB)
  generalize ((((w10.setCell ⟨gb216, 0, none⟩ (.slice Ao11 t208.length co11)).setCell ⟨gb216, 1, none⟩ (.slice Ao13 t211.length co13)).setCell ⟨gb216, 2, none⟩ (.int .i64 t214)).setCell ⟨gb216, 3, none⟩ (.bool t215)) = w14 at n0_ n1_ n2_ n3_ ⊢
  have HO210 := n0_
  have HO213 := n1_
  have BK216 := n2_
  have HB := n3_
  clear n0_ n1_ n2_ n3_
  have n0_ := aA.mk (Kd.aV HO210.out)
  have n1_ := aA.mk (Kd.aV HO213.out)
  have n2_ := aA.mk (aN BK216.out)
  have n3_ := aA.mk (aJ HB.out)
  clear HO210
  clear HO213
  clear BK216
  clear HB
  have HO210 := n0_
  have HO213 := n1_
  have BK216 := n2_
  have HB := n3_
  clear n0_ n1_ n2_ n3_
  refine start_ (n := 10) (S := fun w' => w'.cell? ⟨gb216, 0, none⟩ = some (.slice Ao11 t208.length co11) ∧ w'.cell? ⟨gb216, 1, none⟩ = some (.slice Ao13 t211.length co13) ∧ w'.cell? ⟨gb216, 2, none⟩ = some (.int .i64 t214) ∧ w'.cell? ⟨gb216, 3, none⟩ = some (.bool t215)) (ds := []) #[false, false, false, false, false, false, false, false, false, false] (by kernel_rfl) rfl rfl ⟨(aD BK216.out 0).trans rfl, (aD BK216.out 1).trans rfl, (aD BK216.out 2).trans rfl, (aD BK216.out 3).trans rfl⟩ (fun hHeld => ?_); refine with_tabW laws_FnFalls.tab4 laws_FnFalls.bits4 (fun HT_ HW_ => ?_)
  generalize w14.drew = w15 at HO210 HO213 BK216 HB hHeld ⊢
  refine bB (i := 1) (N := some 14) (v := ?_) (a' := ?_) #[false, true, false, false, false, false, false, false, false, false] rfl rfl (bC HT_.out (by kernel_rfl)) (fun _ _ _ h => h) (Or.inl ⟨by rfl, ?_⟩) ?_ ?_
  rotate_left
  ·intro w'
   go_simp
   with_reducible rfl
  rotate_left
  ·simp only [Act.put, lA, lB, lC, aU, aT]
   rfl
  refine bB (i := 4) (N := some 17) (v := ?_) (a' := ?_) #[false, true, false, false, true, false, false, false, false, false] rfl rfl (bC HT_.out (by kernel_rfl)) (fun _ _ _ h => h) (Or.inl ⟨by rfl, ?_⟩) ?_ ?_
  rotate_left
  ·intro w'
   go_simp
   with_reducible rfl
  rotate_left
  ·simp only [Act.put, lA, lB, lC, aU, aT]
   rfl
  refine take_ (i := 0) (N := some 13) (v := ?_) (a' := ?_) #[true, true, false, false, true, false, false, false, false, false] rfl rfl (take_ofW HT_.out HW_.out (by kernel_rfl)) (fun _ _ _ h => h) (Or.inl ⟨by rfl, ?_⟩) hHeld ?_ ?_
  rotate_left
  ·rintro w' ⟨s0, s1, s2, s3⟩
   go_simp
   with_reducible rfl
  rotate_left
  ·simp only [Act.put, lA, lB, lC, aU, aT]
   rfl
  refine join_ (σ := Value × Value × Nat) 1 #[true, true, true, true, true, true, true, true, true, false] (fun s_ => [(15, .int .i64 t217), (18, .int .i64 t218), (20, .agg #[s_.1, s_.2.1, .int .i64 t225, .bool t226]), (4, .pointer (some ⟨s_.2.2, 0, none⟩)), (16, .int .i64 (wrap64 (t217 * 256))), (19, .int .i64 (wrap64 ((wrap64 (t217 * 256)) + t218)))]) (fun s_ w' => (w'.cell? ⟨gb216, 0, none⟩ = some (.slice Ao11 t208.length co11) ∧ w'.cell? ⟨gb216, 1, none⟩ = some (.slice Ao13 t211.length co13) ∧ w'.cell? ⟨gb216, 2, none⟩ = some (.int .i64 t214) ∧ w'.cell? ⟨gb216, 3, none⟩ = some (.bool t215)) ∧ (Kd.N (Kd.slice 5 (Kd.int .u8)) 37 w' w.heap.size (fun k_ => some k_ ≠ (.slice Ao13 t211.length co13 : Value).ownBlock ∧ some k_ ≠ (s_.1 : Value).ownBlock ∧ some k_ ≠ (s_.2.1 : Value).ownBlock ∧ k_ ≠ gb216 ∧ k_ ≠ s_.2.2) (.slice Ao11 t208.length co11) t208) ∧ (Kd.N k50 50 w' w.heap.size (fun k_ => some k_ ≠ (.slice Ao11 t208.length co11 : Value).ownBlock ∧ some k_ ≠ (s_.1 : Value).ownBlock ∧ some k_ ≠ (s_.2.1 : Value).ownBlock ∧ k_ ≠ gb216 ∧ k_ ≠ s_.2.2) (.slice Ao13 t211.length co13) t211) ∧ (Kd.N (Kd.slice 5 (Kd.int .u8)) 37 w' w.heap.size (fun k_ => some k_ ≠ (.slice Ao11 t208.length co11 : Value).ownBlock ∧ some k_ ≠ (.slice Ao13 t211.length co13 : Value).ownBlock ∧ some k_ ≠ (s_.2.1 : Value).ownBlock ∧ k_ ≠ gb216 ∧ k_ ≠ s_.2.2) s_.1 t219) ∧ (Kd.N k50 50 w' w.heap.size (fun k_ => some k_ ≠ (.slice Ao11 t208.length co11 : Value).ownBlock ∧ some k_ ≠ (.slice Ao13 t211.length co13 : Value).ownBlock ∧ some k_ ≠ (s_.1 : Value).ownBlock ∧ k_ ≠ gb216 ∧ k_ ≠ s_.2.2) s_.2.1 t222) ∧ (w'.heap[gb216]? = some (.cells #[.slice Ao11 t208.length co11, .slice Ao13 t211.length co13, .int .i64 t214, .bool t215] 25 (0, 0))) ∧ (w'.heap[s_.2.2]? = some (.cells #[.slice none 0 0, .slice none 0 0, .int .i64 0, .bool false] 25 (0, 0))) ∧ (w.heap.size ≤ s_.2.2) ∧ (w.heap.size ≤ s_.2.2) ∧ (gb216 ≠ s_.2.2) ∧ (s_.2.2 ≠ gb216) ∧ (Below w.heap.size w w')) ?_ ?_
  rotate_left
  ·intro hCont
   refine two_ (i := 2) (j := 8) (Ni := some 15) (Nj := some 4) #[true, true, true, false, true, false, false, false, false, false] #[true, true, false, false, true, false, false, false, true, false] rfl rfl rfl rfl (two_of HT_.out (by kernel_rfl)) (by decide) (by decide) (fun K hK => ?_) (fun K hK => ?_)
   ·skip
    refine goes_ Try.func35 (by kernel_rfl) rfl #[.slice A0 l0.length c0, .int .i64 2] (by rfl) rfl rfl (by (try simp only [List.map_toArray, List.map_cons, List.map_nil]); first | done | rfl | (simp only [List.length_drop, List.length_take]; rfl)) ?_
    with_reducible refine (laws_at.calls _ _ l0 2 t217 _ ?side1 ?side2 A5.out).mono ?_
    (case side1 => repeat (first | exact (Kd.C_below HR0.out HB.out) | (with_reducible refine Kd.C_alloc ?_ _) | (with_reducible refine Kd.C_drewN ?_ _) | (with_reducible refine Kd.C_drew ?_)))
    (case side2 => exact HC0.out)
    rintro e w' ⟨rfl, ⟨nd, rfl⟩⟩
    refine ⟨_, rfl, ?_⟩
    refine hK.out _ _ ⟨(aD BK216.out 0).trans rfl, (aD BK216.out 1).trans rfl, (aD BK216.out 2).trans rfl, (aD BK216.out 3).trans rfl⟩ (fun hHeld => ?_)
    clear hK K
    refine norm_ (a' := ?_) ?_ ?_
    rotate_left
    ·show Act.put _ (some 15) _ = _
     simp only [Act.put, lA, lB, lC, aU, aT]
     rfl
    refine bB (i := 3) (N := some 16) (v := ?_) (a' := ?_) #[true, true, true, true, true, false, false, false, false, false] rfl rfl (bC HT_.out (by kernel_rfl)) (fun _ _ _ h => h) (Or.inl ⟨by rfl, ?_⟩) ?_ ?_
    rotate_left
    ·intro w'
     go_simp
     with_reducible rfl
    rotate_left
    ·simp only [Act.put, lA, lB, lC, aU, aT]
     rfl
    refine two_ (i := 5) (j := 8) (Ni := some 18) (Nj := some 4) #[true, true, true, true, true, true, false, false, false, false] #[true, true, true, true, true, false, false, false, true, false] rfl rfl rfl rfl (two_of HT_.out (by kernel_rfl)) (by decide) (by decide) (fun K hK => ?_) (fun K hK => ?_)
    ·skip
     refine goes_ Try.func35 (by kernel_rfl) rfl #[.slice A0 l0.length c0, .int .i64 3] (by rfl) rfl rfl (by (try simp only [List.map_toArray, List.map_cons, List.map_nil]); first | done | rfl | (simp only [List.length_drop, List.length_take]; rfl)) ?_
     with_reducible refine (laws_at.calls _ _ l0 3 t218 _ ?side1 ?side2 A6.out).mono ?_
     (case side1 => repeat (first | exact (Kd.C_below HR0.out (by repeat (first | (with_reducible first | exact HB.out | apply aM | apply aG | apply aJ | refine aE ?_ GE216.out) | exact HB.out))) | (with_reducible refine Kd.C_alloc ?_ _) | (with_reducible refine Kd.C_drewN ?_ _) | (with_reducible refine Kd.C_drew ?_)))
     (case side2 => exact HC0.out)
     rintro e w' ⟨rfl, ⟨nd, rfl⟩⟩
     refine ⟨_, rfl, ?_⟩
     refine hK.out _ _ ⟨(aD BK216.out 0).trans rfl, (aD BK216.out 1).trans rfl, (aD BK216.out 2).trans rfl, (aD BK216.out 3).trans rfl⟩ (fun hHeld => ?_)
     clear hK K
     refine norm_ (a' := ?_) ?_ ?_
     rotate_left
     ·show Act.put _ (some 18) _ = _
      simp only [Act.put, lA, lB, lC, aU, aT]
      rfl
     refine bB (i := 6) (N := some 19) (v := ?_) (a' := ?_) #[true, true, true, true, true, true, true, false, false, false] rfl rfl (bC HT_.out (by kernel_rfl)) (fun _ _ _ h => h) (Or.inl ⟨by rfl, ?_⟩) ?_ ?_
     rotate_left
     ·intro w'
      go_simp
      with_reducible rfl
     rotate_left
     ·simp only [Act.put, lA, lB, lC, aU, aT]
      rfl
     refine two_ (i := 7) (j := 8) (Ni := some 20) (Nj := some 4) #[true, true, true, true, true, true, true, true, false, false] #[true, true, true, true, true, true, true, false, true, false] rfl rfl rfl rfl (two_of HT_.out (by kernel_rfl)) (by decide) (by decide) (fun K hK => ?_) (fun K hK => ?_)
     ·skip
      refine goes_ Try.func32 (by kernel_rfl) rfl #[.agg #[.slice Ao11 t208.length co11, .slice Ao13 t211.length co13, .int .i64 t214, .bool t215], .int .i64 (wrap64 ((wrap64 (t217 * 256)) + t218))] (by rfl) rfl rfl (by (try simp only [List.map_toArray, List.map_cons, List.map_nil]); first | done | rfl | (simp only [List.length_drop, List.length_take]; rfl)) ?_
      with_reducible refine (impl_FallDev.calls _ _ t208 _ _ t211 t214 t215 (wrap64 ((wrap64 (t217 * 256)) + t218)) t219 t222 t225 t226 _ ?side1 ?side2 ?side3 ?side4 A7.out).mono ?_
      (case side1 => repeat (first | exact (Kd.N_reads' HO210.out).2.2 | (with_reducible refine Kd.C_alloc ?_ _) | (with_reducible refine Kd.C_drewN ?_ _) | (with_reducible refine Kd.C_drew ?_)))
      (case side2 => exact (Kd.N_reads' HO210.out).2.1)
      (case side3 => repeat (first | exact (Kd.N_reads' HO213.out).2.2 | (with_reducible refine Kd.C_alloc ?_ _) | (with_reducible refine Kd.C_drewN ?_ _) | (with_reducible refine Kd.C_drew ?_)))
      (case side4 => exact (Kd.N_reads' HO213.out).2.1)
      rintro e w16 ⟨v220, v223, rfl, ho0, ho1, hb⟩
      refine ⟨_, rfl, ?_⟩
      have n0_ := aA.mk (Kd.bA (Kd.N_told (Kd.N_told (Kd.N_old (by (with_reducible repeat (first | apply Kd.aY | apply Kd.aX | apply Kd.aV)); exact HO210.out) hb) (Kd.N_base ho0)) (Kd.N_base ho1)) (fun _ h_ => h_.1))
      have n1_ := aA.mk (Kd.bA (Kd.N_told (Kd.N_told (Kd.N_old (by (with_reducible repeat (first | apply Kd.aY | apply Kd.aX | apply Kd.aV)); exact HO213.out) hb) (Kd.N_base ho0)) (Kd.N_base ho1)) (fun _ h_ => h_.1))
      have n2_ := aA.mk (Kd.N_lower (Kd.bA (ok' := fun k_ => some k_ ≠ (v223 : Value).ownBlock ∧ some k_ ≠ (.slice Ao11 t208.length co11 : Value).ownBlock ∧ some k_ ≠ (.slice Ao13 t211.length co13 : Value).ownBlock ∧ k_ ≠ gb216) ho0 (fun k_ hk_ => ⟨hk_.2, (Kd.fresh' (Kd.N_lt (by (with_reducible repeat (first | apply Kd.aY | apply Kd.aX | apply Kd.aV)); exact HO210.out)) k_ hk_.1), (Kd.fresh' (Kd.N_lt (by (with_reducible repeat (first | apply Kd.aY | apply Kd.aX | apply Kd.aV)); exact HO213.out)) k_ hk_.1), (Kd.freshB (g := gb216) (o := .cells #[.slice Ao11 t208.length co11, .slice Ao13 t211.length co13, .int .i64 t214, .bool t215] 25 (0, 0)) (by (with_reducible repeat (first | refine aQ ?_ _ | refine aN ?_ | refine aH ?_ _)); exact BK216.out) k_ hk_.1)⟩)) (bH (by repeat (first | (with_reducible first | exact HB.out | apply aM | apply aG | apply aJ | refine aE ?_ GE216.out) | exact HB.out))))
      have n3_ := aA.mk (Kd.N_lower (Kd.bA (ok' := fun k_ => some k_ ≠ (v220 : Value).ownBlock ∧ some k_ ≠ (.slice Ao11 t208.length co11 : Value).ownBlock ∧ some k_ ≠ (.slice Ao13 t211.length co13 : Value).ownBlock ∧ k_ ≠ gb216) ho1 (fun k_ hk_ => ⟨hk_.2, (Kd.fresh' (Kd.N_lt (by (with_reducible repeat (first | apply Kd.aY | apply Kd.aX | apply Kd.aV)); exact HO210.out)) k_ hk_.1), (Kd.fresh' (Kd.N_lt (by (with_reducible repeat (first | apply Kd.aY | apply Kd.aX | apply Kd.aV)); exact HO213.out)) k_ hk_.1), (Kd.freshB (g := gb216) (o := .cells #[.slice Ao11 t208.length co11, .slice Ao13 t211.length co13, .int .i64 t214, .bool t215] 25 (0, 0)) (by (with_reducible repeat (first | refine aQ ?_ _ | refine aN ?_ | refine aH ?_ _)); exact BK216.out) k_ hk_.1)⟩)) (bH (by repeat (first | (with_reducible first | exact HB.out | apply aM | apply aG | apply aJ | refine aE ?_ GE216.out) | exact HB.out))))
      have n4_ := aA.mk (aW (g := gb216) (o := .cells #[.slice Ao11 t208.length co11, .slice Ao13 t211.length co13, .int .i64 t214, .bool t215] 25 (0, 0)) (by (with_reducible repeat (first | refine aQ ?_ _ | refine aN ?_ | refine aH ?_ _)); exact BK216.out) hb)
      have n5_ := aA.mk (bD (by repeat (first | (with_reducible first | exact HB.out | apply aM | apply aG | apply aJ | refine aE ?_ GE216.out) | exact HB.out)) hb)
      clear HO210
      clear HO213
      clear BK216
      clear HB
      have HO210 := n0_
      have HO213 := n1_
      have HO221 := n2_
      have HO224 := n3_
      have BK216 := n4_
      have HB := n5_
      clear n0_ n1_ n2_ n3_ n4_ n5_
      (try clear hb)
      (try clear hb2)
      (try clear hk)
      (try clear hi)
      (try clear ho0)
      (try clear ho1)
      refine hK.out _ _ ⟨(aD BK216.out 0).trans rfl, (aD BK216.out 1).trans rfl, (aD BK216.out 2).trans rfl, (aD BK216.out 3).trans rfl⟩ (fun hHeld => ?_)
      clear hK K
      refine norm_ (a' := ?_) ?_ ?_
      rotate_left
      ·show Act.put _ (some 20) _ = _
       simp only [Act.put, lA, lB, lC, aU, aT]
       rfl
      refine one_ (i := 8) (N := some 4) #[true, true, true, true, true, true, true, true, true, false] rfl rfl (one_of HT_.out (by kernel_rfl)) (by decide) (fun K hK => ?_)
      refine box_step ?hg (N := 4) ?hd (cs := #[.slice none 0 0, .slice none 0 0, .int .i64 0, .bool false]) (t := 25) ?hr ?_; (case hd => rfl); (case hg => rfl); (case hr => first | (go_simp; done) | (go_simp; rfl))
      intro gb227 hg w17 hbox hb
      have n0_ := aA.mk (Kd.bL (Kd.N_elderB (by (with_reducible repeat (first | apply Kd.aY | apply Kd.aX | apply Kd.aV)); exact HO210.out) gb227 (Nat.le_of_eq hg.symm)) hb)
      have n1_ := aA.mk (Kd.bL (Kd.N_elderB (by (with_reducible repeat (first | apply Kd.aY | apply Kd.aX | apply Kd.aV)); exact HO213.out) gb227 (Nat.le_of_eq hg.symm)) hb)
      have n2_ := aA.mk (Kd.bL (Kd.N_elderB (by (with_reducible repeat (first | apply Kd.aY | apply Kd.aX | apply Kd.aV)); exact HO221.out) gb227 (Nat.le_of_eq hg.symm)) hb)
      have n3_ := aA.mk (Kd.bL (Kd.N_elderB (by (with_reducible repeat (first | apply Kd.aY | apply Kd.aX | apply Kd.aV)); exact HO224.out) gb227 (Nat.le_of_eq hg.symm)) hb)
      have n4_ := aA.mk (aW (g := gb216) (o := .cells #[.slice Ao11 t208.length co11, .slice Ao13 t211.length co13, .int .i64 t214, .bool t215] 25 (0, 0)) (by (with_reducible repeat (first | refine aQ ?_ _ | refine aN ?_ | refine aH ?_ _)); exact BK216.out) hb)
      have n5_ := aA.mk (bD (by repeat (first | (with_reducible first | exact HB.out | apply aM | apply aG | apply aJ | refine aE ?_ GE216.out) | exact HB.out)) hb)
      have n6_ := aA.mk (hbox)
      have n7_ := aA.mk ((by rw [hg]; exact (bH (by repeat (first | (with_reducible first | exact HB.out | apply aM | apply aG | apply aJ | refine aE ?_ GE216.out) | exact HB.out))) : w.heap.size ≤ gb227))
      have n8_ := aA.mk ((by rw [hg]; exact (bH (by repeat (first | (with_reducible first | exact HB.out | apply aM | apply aG | apply aJ | refine aE ?_ GE216.out) | exact HB.out))) : w.heap.size ≤ gb227))
      have n9_ := aA.mk ((by rw [hg]; exact Nat.ne_of_lt (blk_lt (g := gb216) (o := .cells #[.slice Ao11 t208.length co11, .slice Ao13 t211.length co13, .int .i64 t214, .bool t215] 25 (0, 0)) (by (with_reducible repeat (first | refine aQ ?_ _ | refine aN ?_ | refine aH ?_ _)); exact BK216.out)) : gb216 ≠ gb227))
      have n10_ := aA.mk ((by rw [hg]; exact Nat.ne_of_gt (blk_lt (g := gb216) (o := .cells #[.slice Ao11 t208.length co11, .slice Ao13 t211.length co13, .int .i64 t214, .bool t215] 25 (0, 0)) (by (with_reducible repeat (first | refine aQ ?_ _ | refine aN ?_ | refine aH ?_ _)); exact BK216.out)) : gb227 ≠ gb216))
      clear HO210
      clear HO213
      clear HO221
      clear HO224
      clear BK216
      clear HB
      have HO210 := n0_
      have HO213 := n1_
      have HO221 := n2_
      have HO224 := n3_
      have BK216 := n4_
      have HB := n5_
      have BK227 := n6_
      have GW227 := n7_
      have GE227 := n8_
      have NB216_227 := n9_
      have NB227_216 := n10_
      clear n0_ n1_ n2_ n3_ n4_ n5_ n6_ n7_ n8_ n9_ n10_
      clear hb hbox hg
      refine hK.out _ _ ⟨(aD BK216.out 0).trans rfl, (aD BK216.out 1).trans rfl, (aD BK216.out 2).trans rfl, (aD BK216.out 3).trans rfl⟩ (fun hHeld => ?_)
      clear hK K
      refine norm_ (a' := ?_) ?_ ?_
      rotate_left
      ·show Act.put _ (some 4) _ = _
       simp only [Act.put, lA, lB, lC, aU, aT]
       rfl
      exact norm_ (by simp only [putAll, Act.put, lA, lB, lC]) (hCont (v220, v223, gb227) _ ⟨hHeld, (by (with_reducible repeat (first | apply Kd.aY | apply Kd.aX | apply Kd.aV)); exact Kd.bA HO210.out (fun _ hk => ⟨hk.1.1.1.1, ⟨hk.1.1.2, ⟨hk.1.2, ⟨hk.1.1.1.2, hk.2⟩⟩⟩⟩)), (by (with_reducible repeat (first | apply Kd.aY | apply Kd.aX | apply Kd.aV)); exact Kd.bA HO213.out (fun _ hk => ⟨hk.1.1.1.1, ⟨hk.1.1.2, ⟨hk.1.2, ⟨hk.1.1.1.2, hk.2⟩⟩⟩⟩)), (by (with_reducible repeat (first | apply Kd.aY | apply Kd.aX | apply Kd.aV)); exact Kd.bA HO221.out (fun _ hk => ⟨hk.1.2.1, ⟨hk.1.2.2.1, ⟨hk.1.1, ⟨hk.1.2.2.2, hk.2⟩⟩⟩⟩)), (by (with_reducible repeat (first | apply Kd.aY | apply Kd.aX | apply Kd.aV)); exact Kd.bA HO224.out (fun _ hk => ⟨hk.1.2.1, ⟨hk.1.2.2.1, ⟨hk.1.1, ⟨hk.1.2.2.2, hk.2⟩⟩⟩⟩)), (by (with_reducible repeat (first | refine aQ ?_ _ | refine aN ?_ | refine aH ?_ _)); exact BK216.out), (by (with_reducible repeat (first | refine aQ ?_ _ | refine aN ?_ | refine aH ?_ _)); exact BK227.out), GW227.out, GE227.out, NB216_227.out, NB227_216.out, (by repeat (first | (with_reducible first | exact HB.out | apply aM | apply aG | apply aJ | refine aE ?_ GE216.out | refine aE ?_ GE227.out) | exact HB.out))⟩)
     ·skip
      refine box_step ?hg (N := 4) ?hd (cs := #[.slice none 0 0, .slice none 0 0, .int .i64 0, .bool false]) (t := 25) ?hr ?_; (case hd => rfl); (case hg => rfl); (case hr => first | (go_simp; done) | (go_simp; rfl))
      intro gb227 hg w16 hbox hb
      have n0_ := aA.mk (Kd.bL (Kd.N_elderB (by (with_reducible repeat (first | apply Kd.aY | apply Kd.aX | apply Kd.aV)); exact HO210.out) gb227 (Nat.le_of_eq hg.symm)) hb)
      have n1_ := aA.mk (Kd.bL (Kd.N_elderB (by (with_reducible repeat (first | apply Kd.aY | apply Kd.aX | apply Kd.aV)); exact HO213.out) gb227 (Nat.le_of_eq hg.symm)) hb)
      have n2_ := aA.mk (aW (g := gb216) (o := .cells #[.slice Ao11 t208.length co11, .slice Ao13 t211.length co13, .int .i64 t214, .bool t215] 25 (0, 0)) (by (with_reducible repeat (first | refine aQ ?_ _ | refine aN ?_ | refine aH ?_ _)); exact BK216.out) hb)
      have n3_ := aA.mk (bD (by repeat (first | (with_reducible first | exact HB.out | apply aM | apply aG | apply aJ | refine aE ?_ GE216.out) | exact HB.out)) hb)
      have n4_ := aA.mk (hbox)
      have n5_ := aA.mk ((by rw [hg]; exact (bH (by repeat (first | (with_reducible first | exact HB.out | apply aM | apply aG | apply aJ | refine aE ?_ GE216.out) | exact HB.out))) : w.heap.size ≤ gb227))
      have n6_ := aA.mk ((by rw [hg]; exact (bH (by repeat (first | (with_reducible first | exact HB.out | apply aM | apply aG | apply aJ | refine aE ?_ GE216.out) | exact HB.out))) : w.heap.size ≤ gb227))
      have n7_ := aA.mk ((by rw [hg]; exact Nat.ne_of_lt (blk_lt (g := gb216) (o := .cells #[.slice Ao11 t208.length co11, .slice Ao13 t211.length co13, .int .i64 t214, .bool t215] 25 (0, 0)) (by (with_reducible repeat (first | refine aQ ?_ _ | refine aN ?_ | refine aH ?_ _)); exact BK216.out)) : gb216 ≠ gb227))
      have n8_ := aA.mk ((by rw [hg]; exact Nat.ne_of_gt (blk_lt (g := gb216) (o := .cells #[.slice Ao11 t208.length co11, .slice Ao13 t211.length co13, .int .i64 t214, .bool t215] 25 (0, 0)) (by (with_reducible repeat (first | refine aQ ?_ _ | refine aN ?_ | refine aH ?_ _)); exact BK216.out)) : gb227 ≠ gb216))
      clear HO210
      clear HO213
      clear BK216
      clear HB
      have HO210 := n0_
      have HO213 := n1_
      have BK216 := n2_
      have HB := n3_
      have BK227 := n4_
      have GW227 := n5_
      have GE227 := n6_
      have NB216_227 := n7_
      have NB227_216 := n8_
      clear n0_ n1_ n2_ n3_ n4_ n5_ n6_ n7_ n8_
      clear hb hbox hg
      refine hK.out _ _ ⟨(aD BK216.out 0).trans rfl, (aD BK216.out 1).trans rfl, (aD BK216.out 2).trans rfl, (aD BK216.out 3).trans rfl⟩ (fun hHeld => ?_)
      clear hK K
      refine norm_ (a' := ?_) ?_ ?_
      rotate_left
      ·show Act.put _ (some 4) _ = _
       simp only [Act.put, lA, lB, lC, aU, aT]
       rfl
      refine one_ (i := 7) (N := some 20) #[true, true, true, true, true, true, true, true, true, false] rfl rfl (one_of HT_.out (by kernel_rfl)) (by decide) (fun K hK => ?_)
      refine goes_ Try.func32 (by kernel_rfl) rfl #[.agg #[.slice Ao11 t208.length co11, .slice Ao13 t211.length co13, .int .i64 t214, .bool t215], .int .i64 (wrap64 ((wrap64 (t217 * 256)) + t218))] (by rfl) rfl rfl (by (try simp only [List.map_toArray, List.map_cons, List.map_nil]); first | done | rfl | (simp only [List.length_drop, List.length_take]; rfl)) ?_
      with_reducible refine (impl_FallDev.calls _ _ t208 _ _ t211 t214 t215 (wrap64 ((wrap64 (t217 * 256)) + t218)) t219 t222 t225 t226 _ ?side1 ?side2 ?side3 ?side4 A7.out).mono ?_
      (case side1 => repeat (first | exact (Kd.N_reads' HO210.out).2.2 | (with_reducible refine Kd.C_alloc ?_ _) | (with_reducible refine Kd.C_drewN ?_ _) | (with_reducible refine Kd.C_drew ?_)))
      (case side2 => exact (Kd.N_reads' HO210.out).2.1)
      (case side3 => repeat (first | exact (Kd.N_reads' HO213.out).2.2 | (with_reducible refine Kd.C_alloc ?_ _) | (with_reducible refine Kd.C_drewN ?_ _) | (with_reducible refine Kd.C_drew ?_)))
      (case side4 => exact (Kd.N_reads' HO213.out).2.1)
      rintro e w17 ⟨v220, v223, rfl, ho0, ho1, hb⟩
      refine ⟨_, rfl, ?_⟩
      have n0_ := aA.mk (Kd.bA (Kd.N_told (Kd.N_told (Kd.N_old (by (with_reducible repeat (first | apply Kd.aY | apply Kd.aX | apply Kd.aV)); exact HO210.out) hb) (Kd.N_base ho0)) (Kd.N_base ho1)) (fun _ h_ => h_.1))
      have n1_ := aA.mk (Kd.bA (Kd.N_told (Kd.N_told (Kd.N_old (by (with_reducible repeat (first | apply Kd.aY | apply Kd.aX | apply Kd.aV)); exact HO213.out) hb) (Kd.N_base ho0)) (Kd.N_base ho1)) (fun _ h_ => h_.1))
      have n2_ := aA.mk (Kd.N_lower (Kd.bA (ok' := fun k_ => some k_ ≠ (v223 : Value).ownBlock ∧ some k_ ≠ (.slice Ao11 t208.length co11 : Value).ownBlock ∧ some k_ ≠ (.slice Ao13 t211.length co13 : Value).ownBlock ∧ k_ ≠ gb216 ∧ k_ ≠ gb227) ho0 (fun k_ hk_ => ⟨hk_.2, (Kd.fresh' (Kd.N_lt (by (with_reducible repeat (first | apply Kd.aY | apply Kd.aX | apply Kd.aV)); exact HO210.out)) k_ hk_.1), (Kd.fresh' (Kd.N_lt (by (with_reducible repeat (first | apply Kd.aY | apply Kd.aX | apply Kd.aV)); exact HO213.out)) k_ hk_.1), (Kd.freshB (g := gb216) (o := .cells #[.slice Ao11 t208.length co11, .slice Ao13 t211.length co13, .int .i64 t214, .bool t215] 25 (0, 0)) (by (with_reducible repeat (first | refine aQ ?_ _ | refine aN ?_ | refine aH ?_ _)); exact BK216.out) k_ hk_.1), (Kd.freshB (g := gb227) (o := .cells #[.slice none 0 0, .slice none 0 0, .int .i64 0, .bool false] 25 (0, 0)) (by (with_reducible repeat (first | refine aQ ?_ _ | refine aN ?_ | refine aH ?_ _)); exact BK227.out) k_ hk_.1)⟩)) (bH (by repeat (first | (with_reducible first | exact HB.out | apply aM | apply aG | apply aJ | refine aE ?_ GE216.out | refine aE ?_ GE227.out) | exact HB.out))))
      have n3_ := aA.mk (Kd.N_lower (Kd.bA (ok' := fun k_ => some k_ ≠ (v220 : Value).ownBlock ∧ some k_ ≠ (.slice Ao11 t208.length co11 : Value).ownBlock ∧ some k_ ≠ (.slice Ao13 t211.length co13 : Value).ownBlock ∧ k_ ≠ gb216 ∧ k_ ≠ gb227) ho1 (fun k_ hk_ => ⟨hk_.2, (Kd.fresh' (Kd.N_lt (by (with_reducible repeat (first | apply Kd.aY | apply Kd.aX | apply Kd.aV)); exact HO210.out)) k_ hk_.1), (Kd.fresh' (Kd.N_lt (by (with_reducible repeat (first | apply Kd.aY | apply Kd.aX | apply Kd.aV)); exact HO213.out)) k_ hk_.1), (Kd.freshB (g := gb216) (o := .cells #[.slice Ao11 t208.length co11, .slice Ao13 t211.length co13, .int .i64 t214, .bool t215] 25 (0, 0)) (by (with_reducible repeat (first | refine aQ ?_ _ | refine aN ?_ | refine aH ?_ _)); exact BK216.out) k_ hk_.1), (Kd.freshB (g := gb227) (o := .cells #[.slice none 0 0, .slice none 0 0, .int .i64 0, .bool false] 25 (0, 0)) (by (with_reducible repeat (first | refine aQ ?_ _ | refine aN ?_ | refine aH ?_ _)); exact BK227.out) k_ hk_.1)⟩)) (bH (by repeat (first | (with_reducible first | exact HB.out | apply aM | apply aG | apply aJ | refine aE ?_ GE216.out | refine aE ?_ GE227.out) | exact HB.out))))
      have n4_ := aA.mk (aW (g := gb216) (o := .cells #[.slice Ao11 t208.length co11, .slice Ao13 t211.length co13, .int .i64 t214, .bool t215] 25 (0, 0)) (by (with_reducible repeat (first | refine aQ ?_ _ | refine aN ?_ | refine aH ?_ _)); exact BK216.out) hb)
      have n5_ := aA.mk (aW (g := gb227) (o := .cells #[.slice none 0 0, .slice none 0 0, .int .i64 0, .bool false] 25 (0, 0)) (by (with_reducible repeat (first | refine aQ ?_ _ | refine aN ?_ | refine aH ?_ _)); exact BK227.out) hb)
      have n6_ := aA.mk (bD (by repeat (first | (with_reducible first | exact HB.out | apply aM | apply aG | apply aJ | refine aE ?_ GE216.out | refine aE ?_ GE227.out) | exact HB.out)) hb)
      clear HO210
      clear HO213
      clear BK216
      clear BK227
      clear HB
      have HO210 := n0_
      have HO213 := n1_
      have HO221 := n2_
      have HO224 := n3_
      have BK216 := n4_
      have BK227 := n5_
      have HB := n6_
      clear n0_ n1_ n2_ n3_ n4_ n5_ n6_
      (try clear hb)
      (try clear hb2)
      (try clear hk)
      (try clear hi)
      (try clear ho0)
      (try clear ho1)
      refine hK.out _ _ ⟨(aD BK216.out 0).trans rfl, (aD BK216.out 1).trans rfl, (aD BK216.out 2).trans rfl, (aD BK216.out 3).trans rfl⟩ (fun hHeld => ?_)
      clear hK K
      refine norm_ (a' := ?_) ?_ ?_
      rotate_left
      ·show Act.put _ (some 20) _ = _
       simp only [Act.put, lA, lB, lC, aU, aT]
       rfl
      exact norm_ (by simp only [putAll, Act.put, lA, lB, lC]) (hCont (v220, v223, gb227) _ ⟨hHeld, (by (with_reducible repeat (first | apply Kd.aY | apply Kd.aX | apply Kd.aV)); exact Kd.bA HO210.out (fun _ hk => ⟨hk.1.1.1.1, ⟨hk.1.2, ⟨hk.2, ⟨hk.1.1.1.2, hk.1.1.2⟩⟩⟩⟩)), (by (with_reducible repeat (first | apply Kd.aY | apply Kd.aX | apply Kd.aV)); exact Kd.bA HO213.out (fun _ hk => ⟨hk.1.1.1.1, ⟨hk.1.2, ⟨hk.2, ⟨hk.1.1.1.2, hk.1.1.2⟩⟩⟩⟩)), (by (with_reducible repeat (first | apply Kd.aY | apply Kd.aX | apply Kd.aV)); exact Kd.bA HO221.out (fun _ hk => ⟨hk.2.1, ⟨hk.2.2.1, ⟨hk.1, ⟨hk.2.2.2.1, hk.2.2.2.2⟩⟩⟩⟩)), (by (with_reducible repeat (first | apply Kd.aY | apply Kd.aX | apply Kd.aV)); exact Kd.bA HO224.out (fun _ hk => ⟨hk.2.1, ⟨hk.2.2.1, ⟨hk.1, ⟨hk.2.2.2.1, hk.2.2.2.2⟩⟩⟩⟩)), (by (with_reducible repeat (first | refine aQ ?_ _ | refine aN ?_ | refine aH ?_ _)); exact BK216.out), (by (with_reducible repeat (first | refine aQ ?_ _ | refine aN ?_ | refine aH ?_ _)); exact BK227.out), GW227.out, GE227.out, NB216_227.out, NB227_216.out, (by repeat (first | (with_reducible first | exact HB.out | apply aM | apply aG | apply aJ | refine aE ?_ GE216.out | refine aE ?_ GE227.out) | exact HB.out))⟩)
    ·skip
     refine box_step ?hg (N := 4) ?hd (cs := #[.slice none 0 0, .slice none 0 0, .int .i64 0, .bool false]) (t := 25) ?hr ?_; (case hd => rfl); (case hg => rfl); (case hr => first | (go_simp; done) | (go_simp; rfl))
     intro gb227 hg w16 hbox hb
     have n0_ := aA.mk (Kd.bL (Kd.N_elderB (by (with_reducible repeat (first | apply Kd.aY | apply Kd.aX | apply Kd.aV)); exact HO210.out) gb227 (Nat.le_of_eq hg.symm)) hb)
     have n1_ := aA.mk (Kd.bL (Kd.N_elderB (by (with_reducible repeat (first | apply Kd.aY | apply Kd.aX | apply Kd.aV)); exact HO213.out) gb227 (Nat.le_of_eq hg.symm)) hb)
     have n2_ := aA.mk (aW (g := gb216) (o := .cells #[.slice Ao11 t208.length co11, .slice Ao13 t211.length co13, .int .i64 t214, .bool t215] 25 (0, 0)) (by (with_reducible repeat (first | refine aQ ?_ _ | refine aN ?_ | refine aH ?_ _)); exact BK216.out) hb)
     have n3_ := aA.mk (bD (by repeat (first | (with_reducible first | exact HB.out | apply aM | apply aG | apply aJ | refine aE ?_ GE216.out) | exact HB.out)) hb)
     have n4_ := aA.mk (hbox)
     have n5_ := aA.mk ((by rw [hg]; exact (bH (by repeat (first | (with_reducible first | exact HB.out | apply aM | apply aG | apply aJ | refine aE ?_ GE216.out) | exact HB.out))) : w.heap.size ≤ gb227))
     have n6_ := aA.mk ((by rw [hg]; exact (bH (by repeat (first | (with_reducible first | exact HB.out | apply aM | apply aG | apply aJ | refine aE ?_ GE216.out) | exact HB.out))) : w.heap.size ≤ gb227))
     have n7_ := aA.mk ((by rw [hg]; exact Nat.ne_of_lt (blk_lt (g := gb216) (o := .cells #[.slice Ao11 t208.length co11, .slice Ao13 t211.length co13, .int .i64 t214, .bool t215] 25 (0, 0)) (by (with_reducible repeat (first | refine aQ ?_ _ | refine aN ?_ | refine aH ?_ _)); exact BK216.out)) : gb216 ≠ gb227))
     have n8_ := aA.mk ((by rw [hg]; exact Nat.ne_of_gt (blk_lt (g := gb216) (o := .cells #[.slice Ao11 t208.length co11, .slice Ao13 t211.length co13, .int .i64 t214, .bool t215] 25 (0, 0)) (by (with_reducible repeat (first | refine aQ ?_ _ | refine aN ?_ | refine aH ?_ _)); exact BK216.out)) : gb227 ≠ gb216))
     clear HO210
     clear HO213
     clear BK216
     clear HB
     have HO210 := n0_
     have HO213 := n1_
     have BK216 := n2_
     have HB := n3_
     have BK227 := n4_
     have GW227 := n5_
     have GE227 := n6_
     have NB216_227 := n7_
     have NB227_216 := n8_
     clear n0_ n1_ n2_ n3_ n4_ n5_ n6_ n7_ n8_
     clear hb hbox hg
     refine hK.out _ _ ⟨(aD BK216.out 0).trans rfl, (aD BK216.out 1).trans rfl, (aD BK216.out 2).trans rfl, (aD BK216.out 3).trans rfl⟩ (fun hHeld => ?_)
     clear hK K
     refine norm_ (a' := ?_) ?_ ?_
     rotate_left
     ·show Act.put _ (some 4) _ = _
      simp only [Act.put, lA, lB, lC, aU, aT]
      rfl
     refine one_ (i := 5) (N := some 18) #[true, true, true, true, true, true, false, false, true, false] rfl rfl (one_of HT_.out (by kernel_rfl)) (by decide) (fun K hK => ?_)
     refine goes_ Try.func35 (by kernel_rfl) rfl #[.slice A0 l0.length c0, .int .i64 3] (by rfl) rfl rfl (by (try simp only [List.map_toArray, List.map_cons, List.map_nil]); first | done | rfl | (simp only [List.length_drop, List.length_take]; rfl)) ?_
     with_reducible refine (laws_at.calls _ _ l0 3 t218 _ ?side1 ?side2 A6.out).mono ?_
     (case side1 => repeat (first | exact (Kd.C_below HR0.out HB.out) | (with_reducible refine Kd.C_alloc ?_ _) | (with_reducible refine Kd.C_drewN ?_ _) | (with_reducible refine Kd.C_drew ?_)))
     (case side2 => exact HC0.out)
     rintro e w' ⟨rfl, ⟨nd, rfl⟩⟩
     refine ⟨_, rfl, ?_⟩
     refine hK.out _ _ ⟨(aD BK216.out 0).trans rfl, (aD BK216.out 1).trans rfl, (aD BK216.out 2).trans rfl, (aD BK216.out 3).trans rfl⟩ (fun hHeld => ?_)
     clear hK K
     refine norm_ (a' := ?_) ?_ ?_
     rotate_left
     ·show Act.put _ (some 18) _ = _
      simp only [Act.put, lA, lB, lC, aU, aT]
      rfl
     refine bB (i := 6) (N := some 19) (v := ?_) (a' := ?_) #[true, true, true, true, true, true, true, false, true, false] rfl rfl (bC HT_.out (by kernel_rfl)) (fun _ _ _ h => h) (Or.inl ⟨by rfl, ?_⟩) ?_ ?_
     rotate_left
     ·intro w'
      go_simp
      with_reducible rfl
     rotate_left
     ·simp only [Act.put, lA, lB, lC, aU, aT]
      rfl
     refine one_ (i := 7) (N := some 20) #[true, true, true, true, true, true, true, true, true, false] rfl rfl (one_of HT_.out (by kernel_rfl)) (by decide) (fun K hK => ?_)
     refine goes_ Try.func32 (by kernel_rfl) rfl #[.agg #[.slice Ao11 t208.length co11, .slice Ao13 t211.length co13, .int .i64 t214, .bool t215], .int .i64 (wrap64 ((wrap64 (t217 * 256)) + t218))] (by rfl) rfl rfl (by (try simp only [List.map_toArray, List.map_cons, List.map_nil]); first | done | rfl | (simp only [List.length_drop, List.length_take]; rfl)) ?_
     with_reducible refine (impl_FallDev.calls _ _ t208 _ _ t211 t214 t215 (wrap64 ((wrap64 (t217 * 256)) + t218)) t219 t222 t225 t226 _ ?side1 ?side2 ?side3 ?side4 A7.out).mono ?_
     (case side1 => repeat (first | exact (Kd.N_reads' HO210.out).2.2 | (with_reducible refine Kd.C_alloc ?_ _) | (with_reducible refine Kd.C_drewN ?_ _) | (with_reducible refine Kd.C_drew ?_)))
     (case side2 => exact (Kd.N_reads' HO210.out).2.1)
     (case side3 => repeat (first | exact (Kd.N_reads' HO213.out).2.2 | (with_reducible refine Kd.C_alloc ?_ _) | (with_reducible refine Kd.C_drewN ?_ _) | (with_reducible refine Kd.C_drew ?_)))
     (case side4 => exact (Kd.N_reads' HO213.out).2.1)
     rintro e w17 ⟨v220, v223, rfl, ho0, ho1, hb⟩
     refine ⟨_, rfl, ?_⟩
     have n0_ := aA.mk (Kd.bA (Kd.N_told (Kd.N_told (Kd.N_old (by (with_reducible repeat (first | apply Kd.aY | apply Kd.aX | apply Kd.aV)); exact HO210.out) hb) (Kd.N_base ho0)) (Kd.N_base ho1)) (fun _ h_ => h_.1))
     have n1_ := aA.mk (Kd.bA (Kd.N_told (Kd.N_told (Kd.N_old (by (with_reducible repeat (first | apply Kd.aY | apply Kd.aX | apply Kd.aV)); exact HO213.out) hb) (Kd.N_base ho0)) (Kd.N_base ho1)) (fun _ h_ => h_.1))
     have n2_ := aA.mk (Kd.N_lower (Kd.bA (ok' := fun k_ => some k_ ≠ (v223 : Value).ownBlock ∧ some k_ ≠ (.slice Ao11 t208.length co11 : Value).ownBlock ∧ some k_ ≠ (.slice Ao13 t211.length co13 : Value).ownBlock ∧ k_ ≠ gb216 ∧ k_ ≠ gb227) ho0 (fun k_ hk_ => ⟨hk_.2, (Kd.fresh' (Kd.N_lt (by (with_reducible repeat (first | apply Kd.aY | apply Kd.aX | apply Kd.aV)); exact HO210.out)) k_ hk_.1), (Kd.fresh' (Kd.N_lt (by (with_reducible repeat (first | apply Kd.aY | apply Kd.aX | apply Kd.aV)); exact HO213.out)) k_ hk_.1), (Kd.freshB (g := gb216) (o := .cells #[.slice Ao11 t208.length co11, .slice Ao13 t211.length co13, .int .i64 t214, .bool t215] 25 (0, 0)) (by (with_reducible repeat (first | refine aQ ?_ _ | refine aN ?_ | refine aH ?_ _)); exact BK216.out) k_ hk_.1), (Kd.freshB (g := gb227) (o := .cells #[.slice none 0 0, .slice none 0 0, .int .i64 0, .bool false] 25 (0, 0)) (by (with_reducible repeat (first | refine aQ ?_ _ | refine aN ?_ | refine aH ?_ _)); exact BK227.out) k_ hk_.1)⟩)) (bH (by repeat (first | (with_reducible first | exact HB.out | apply aM | apply aG | apply aJ | refine aE ?_ GE216.out | refine aE ?_ GE227.out) | exact HB.out))))
     have n3_ := aA.mk (Kd.N_lower (Kd.bA (ok' := fun k_ => some k_ ≠ (v220 : Value).ownBlock ∧ some k_ ≠ (.slice Ao11 t208.length co11 : Value).ownBlock ∧ some k_ ≠ (.slice Ao13 t211.length co13 : Value).ownBlock ∧ k_ ≠ gb216 ∧ k_ ≠ gb227) ho1 (fun k_ hk_ => ⟨hk_.2, (Kd.fresh' (Kd.N_lt (by (with_reducible repeat (first | apply Kd.aY | apply Kd.aX | apply Kd.aV)); exact HO210.out)) k_ hk_.1), (Kd.fresh' (Kd.N_lt (by (with_reducible repeat (first | apply Kd.aY | apply Kd.aX | apply Kd.aV)); exact HO213.out)) k_ hk_.1), (Kd.freshB (g := gb216) (o := .cells #[.slice Ao11 t208.length co11, .slice Ao13 t211.length co13, .int .i64 t214, .bool t215] 25 (0, 0)) (by (with_reducible repeat (first | refine aQ ?_ _ | refine aN ?_ | refine aH ?_ _)); exact BK216.out) k_ hk_.1), (Kd.freshB (g := gb227) (o := .cells #[.slice none 0 0, .slice none 0 0, .int .i64 0, .bool false] 25 (0, 0)) (by (with_reducible repeat (first | refine aQ ?_ _ | refine aN ?_ | refine aH ?_ _)); exact BK227.out) k_ hk_.1)⟩)) (bH (by repeat (first | (with_reducible first | exact HB.out | apply aM | apply aG | apply aJ | refine aE ?_ GE216.out | refine aE ?_ GE227.out) | exact HB.out))))
     have n4_ := aA.mk (aW (g := gb216) (o := .cells #[.slice Ao11 t208.length co11, .slice Ao13 t211.length co13, .int .i64 t214, .bool t215] 25 (0, 0)) (by (with_reducible repeat (first | refine aQ ?_ _ | refine aN ?_ | refine aH ?_ _)); exact BK216.out) hb)
     have n5_ := aA.mk (aW (g := gb227) (o := .cells #[.slice none 0 0, .slice none 0 0, .int .i64 0, .bool false] 25 (0, 0)) (by (with_reducible repeat (first | refine aQ ?_ _ | refine aN ?_ | refine aH ?_ _)); exact BK227.out) hb)
     have n6_ := aA.mk (bD (by repeat (first | (with_reducible first | exact HB.out | apply aM | apply aG | apply aJ | refine aE ?_ GE216.out | refine aE ?_ GE227.out) | exact HB.out)) hb)
     clear HO210
     clear HO213
     clear BK216
     clear BK227
     clear HB
     have HO210 := n0_
     have HO213 := n1_
     have HO221 := n2_
     have HO224 := n3_
     have BK216 := n4_
     have BK227 := n5_
     have HB := n6_
     clear n0_ n1_ n2_ n3_ n4_ n5_ n6_
     (try clear hb)
     (try clear hb2)
     (try clear hk)
     (try clear hi)
     (try clear ho0)
     (try clear ho1)
     refine hK.out _ _ ⟨(aD BK216.out 0).trans rfl, (aD BK216.out 1).trans rfl, (aD BK216.out 2).trans rfl, (aD BK216.out 3).trans rfl⟩ (fun hHeld => ?_)
     clear hK K
     refine norm_ (a' := ?_) ?_ ?_
     rotate_left
     ·show Act.put _ (some 20) _ = _
      simp only [Act.put, lA, lB, lC, aU, aT]
      rfl
     exact norm_ (by simp only [putAll, Act.put, lA, lB, lC]) (hCont (v220, v223, gb227) _ ⟨hHeld, (by (with_reducible repeat (first | apply Kd.aY | apply Kd.aX | apply Kd.aV)); exact Kd.bA HO210.out (fun _ hk => ⟨hk.1.1.1.1, ⟨hk.1.2, ⟨hk.2, ⟨hk.1.1.1.2, hk.1.1.2⟩⟩⟩⟩)), (by (with_reducible repeat (first | apply Kd.aY | apply Kd.aX | apply Kd.aV)); exact Kd.bA HO213.out (fun _ hk => ⟨hk.1.1.1.1, ⟨hk.1.2, ⟨hk.2, ⟨hk.1.1.1.2, hk.1.1.2⟩⟩⟩⟩)), (by (with_reducible repeat (first | apply Kd.aY | apply Kd.aX | apply Kd.aV)); exact Kd.bA HO221.out (fun _ hk => ⟨hk.2.1, ⟨hk.2.2.1, ⟨hk.1, ⟨hk.2.2.2.1, hk.2.2.2.2⟩⟩⟩⟩)), (by (with_reducible repeat (first | apply Kd.aY | apply Kd.aX | apply Kd.aV)); exact Kd.bA HO224.out (fun _ hk => ⟨hk.2.1, ⟨hk.2.2.1, ⟨hk.1, ⟨hk.2.2.2.1, hk.2.2.2.2⟩⟩⟩⟩)), (by (with_reducible repeat (first | refine aQ ?_ _ | refine aN ?_ | refine aH ?_ _)); exact BK216.out), (by (with_reducible repeat (first | refine aQ ?_ _ | refine aN ?_ | refine aH ?_ _)); exact BK227.out), GW227.out, GE227.out, NB216_227.out, NB227_216.out, (by repeat (first | (with_reducible first | exact HB.out | apply aM | apply aG | apply aJ | refine aE ?_ GE216.out | refine aE ?_ GE227.out) | exact HB.out))⟩)
   ·skip
    refine box_step ?hg (N := 4) ?hd (cs := #[.slice none 0 0, .slice none 0 0, .int .i64 0, .bool false]) (t := 25) ?hr ?_; (case hd => rfl); (case hg => rfl); (case hr => first | (go_simp; done) | (go_simp; rfl))
    intro gb227 hg w16 hbox hb
    have n0_ := aA.mk (Kd.bL (Kd.N_elderB (by (with_reducible repeat (first | apply Kd.aY | apply Kd.aX | apply Kd.aV)); exact HO210.out) gb227 (Nat.le_of_eq hg.symm)) hb)
    have n1_ := aA.mk (Kd.bL (Kd.N_elderB (by (with_reducible repeat (first | apply Kd.aY | apply Kd.aX | apply Kd.aV)); exact HO213.out) gb227 (Nat.le_of_eq hg.symm)) hb)
    have n2_ := aA.mk (aW (g := gb216) (o := .cells #[.slice Ao11 t208.length co11, .slice Ao13 t211.length co13, .int .i64 t214, .bool t215] 25 (0, 0)) (by (with_reducible repeat (first | refine aQ ?_ _ | refine aN ?_ | refine aH ?_ _)); exact BK216.out) hb)
    have n3_ := aA.mk (bD (by repeat (first | (with_reducible first | exact HB.out | apply aM | apply aG | apply aJ | refine aE ?_ GE216.out) | exact HB.out)) hb)
    have n4_ := aA.mk (hbox)
    have n5_ := aA.mk ((by rw [hg]; exact (bH (by repeat (first | (with_reducible first | exact HB.out | apply aM | apply aG | apply aJ | refine aE ?_ GE216.out) | exact HB.out))) : w.heap.size ≤ gb227))
    have n6_ := aA.mk ((by rw [hg]; exact (bH (by repeat (first | (with_reducible first | exact HB.out | apply aM | apply aG | apply aJ | refine aE ?_ GE216.out) | exact HB.out))) : w.heap.size ≤ gb227))
    have n7_ := aA.mk ((by rw [hg]; exact Nat.ne_of_lt (blk_lt (g := gb216) (o := .cells #[.slice Ao11 t208.length co11, .slice Ao13 t211.length co13, .int .i64 t214, .bool t215] 25 (0, 0)) (by (with_reducible repeat (first | refine aQ ?_ _ | refine aN ?_ | refine aH ?_ _)); exact BK216.out)) : gb216 ≠ gb227))
    have n8_ := aA.mk ((by rw [hg]; exact Nat.ne_of_gt (blk_lt (g := gb216) (o := .cells #[.slice Ao11 t208.length co11, .slice Ao13 t211.length co13, .int .i64 t214, .bool t215] 25 (0, 0)) (by (with_reducible repeat (first | refine aQ ?_ _ | refine aN ?_ | refine aH ?_ _)); exact BK216.out)) : gb227 ≠ gb216))
    clear HO210
    clear HO213
    clear BK216
    clear HB
    have HO210 := n0_
    have HO213 := n1_
    have BK216 := n2_
    have HB := n3_
    have BK227 := n4_
    have GW227 := n5_
    have GE227 := n6_
    have NB216_227 := n7_
    have NB227_216 := n8_
    clear n0_ n1_ n2_ n3_ n4_ n5_ n6_ n7_ n8_
    clear hb hbox hg
    refine hK.out _ _ ⟨(aD BK216.out 0).trans rfl, (aD BK216.out 1).trans rfl, (aD BK216.out 2).trans rfl, (aD BK216.out 3).trans rfl⟩ (fun hHeld => ?_)
    clear hK K
    refine norm_ (a' := ?_) ?_ ?_
    rotate_left
    ·show Act.put _ (some 4) _ = _
     simp only [Act.put, lA, lB, lC, aU, aT]
     rfl
    refine one_ (i := 2) (N := some 15) #[true, true, true, false, true, false, false, false, true, false] rfl rfl (one_of HT_.out (by kernel_rfl)) (by decide) (fun K hK => ?_)
    refine goes_ Try.func35 (by kernel_rfl) rfl #[.slice A0 l0.length c0, .int .i64 2] (by rfl) rfl rfl (by (try simp only [List.map_toArray, List.map_cons, List.map_nil]); first | done | rfl | (simp only [List.length_drop, List.length_take]; rfl)) ?_
    with_reducible refine (laws_at.calls _ _ l0 2 t217 _ ?side1 ?side2 A5.out).mono ?_
    (case side1 => repeat (first | exact (Kd.C_below HR0.out HB.out) | (with_reducible refine Kd.C_alloc ?_ _) | (with_reducible refine Kd.C_drewN ?_ _) | (with_reducible refine Kd.C_drew ?_)))
    (case side2 => exact HC0.out)
    rintro e w' ⟨rfl, ⟨nd, rfl⟩⟩
    refine ⟨_, rfl, ?_⟩
    refine hK.out _ _ ⟨(aD BK216.out 0).trans rfl, (aD BK216.out 1).trans rfl, (aD BK216.out 2).trans rfl, (aD BK216.out 3).trans rfl⟩ (fun hHeld => ?_)
    clear hK K
    refine norm_ (a' := ?_) ?_ ?_
    rotate_left
    ·show Act.put _ (some 15) _ = _
     simp only [Act.put, lA, lB, lC, aU, aT]
     rfl
    refine bB (i := 3) (N := some 16) (v := ?_) (a' := ?_) #[true, true, true, true, true, false, false, false, true, false] rfl rfl (bC HT_.out (by kernel_rfl)) (fun _ _ _ h => h) (Or.inl ⟨by rfl, ?_⟩) ?_ ?_
    rotate_left
    ·intro w'
     go_simp
     with_reducible rfl
    rotate_left
    ·simp only [Act.put, lA, lB, lC, aU, aT]
     rfl
    refine one_ (i := 5) (N := some 18) #[true, true, true, true, true, true, false, false, true, false] rfl rfl (one_of HT_.out (by kernel_rfl)) (by decide) (fun K hK => ?_)
    refine goes_ Try.func35 (by kernel_rfl) rfl #[.slice A0 l0.length c0, .int .i64 3] (by rfl) rfl rfl (by (try simp only [List.map_toArray, List.map_cons, List.map_nil]); first | done | rfl | (simp only [List.length_drop, List.length_take]; rfl)) ?_
    with_reducible refine (laws_at.calls _ _ l0 3 t218 _ ?side1 ?side2 A6.out).mono ?_
    (case side1 => repeat (first | exact (Kd.C_below HR0.out (by repeat (first | (with_reducible first | exact HB.out | apply aM | apply aG | apply aJ | refine aE ?_ GE216.out | refine aE ?_ GE227.out) | exact HB.out))) | (with_reducible refine Kd.C_alloc ?_ _) | (with_reducible refine Kd.C_drewN ?_ _) | (with_reducible refine Kd.C_drew ?_)))
    (case side2 => exact HC0.out)
    rintro e w' ⟨rfl, ⟨nd, rfl⟩⟩
    refine ⟨_, rfl, ?_⟩
    refine hK.out _ _ ⟨(aD BK216.out 0).trans rfl, (aD BK216.out 1).trans rfl, (aD BK216.out 2).trans rfl, (aD BK216.out 3).trans rfl⟩ (fun hHeld => ?_)
    clear hK K
    refine norm_ (a' := ?_) ?_ ?_
    rotate_left
    ·show Act.put _ (some 18) _ = _
     simp only [Act.put, lA, lB, lC, aU, aT]
     rfl
    refine bB (i := 6) (N := some 19) (v := ?_) (a' := ?_) #[true, true, true, true, true, true, true, false, true, false] rfl rfl (bC HT_.out (by kernel_rfl)) (fun _ _ _ h => h) (Or.inl ⟨by rfl, ?_⟩) ?_ ?_
    rotate_left
    ·intro w'
     go_simp
     with_reducible rfl
    rotate_left
    ·simp only [Act.put, lA, lB, lC, aU, aT]
     rfl
    refine one_ (i := 7) (N := some 20) #[true, true, true, true, true, true, true, true, true, false] rfl rfl (one_of HT_.out (by kernel_rfl)) (by decide) (fun K hK => ?_)
    refine goes_ Try.func32 (by kernel_rfl) rfl #[.agg #[.slice Ao11 t208.length co11, .slice Ao13 t211.length co13, .int .i64 t214, .bool t215], .int .i64 (wrap64 ((wrap64 (t217 * 256)) + t218))] (by rfl) rfl rfl (by (try simp only [List.map_toArray, List.map_cons, List.map_nil]); first | done | rfl | (simp only [List.length_drop, List.length_take]; rfl)) ?_
    with_reducible refine (impl_FallDev.calls _ _ t208 _ _ t211 t214 t215 (wrap64 ((wrap64 (t217 * 256)) + t218)) t219 t222 t225 t226 _ ?side1 ?side2 ?side3 ?side4 A7.out).mono ?_
    (case side1 => repeat (first | exact (Kd.N_reads' HO210.out).2.2 | (with_reducible refine Kd.C_alloc ?_ _) | (with_reducible refine Kd.C_drewN ?_ _) | (with_reducible refine Kd.C_drew ?_)))
    (case side2 => exact (Kd.N_reads' HO210.out).2.1)
    (case side3 => repeat (first | exact (Kd.N_reads' HO213.out).2.2 | (with_reducible refine Kd.C_alloc ?_ _) | (with_reducible refine Kd.C_drewN ?_ _) | (with_reducible refine Kd.C_drew ?_)))
    (case side4 => exact (Kd.N_reads' HO213.out).2.1)
    rintro e w17 ⟨v220, v223, rfl, ho0, ho1, hb⟩
    refine ⟨_, rfl, ?_⟩
    have n0_ := aA.mk (Kd.bA (Kd.N_told (Kd.N_told (Kd.N_old (by (with_reducible repeat (first | apply Kd.aY | apply Kd.aX | apply Kd.aV)); exact HO210.out) hb) (Kd.N_base ho0)) (Kd.N_base ho1)) (fun _ h_ => h_.1))
    have n1_ := aA.mk (Kd.bA (Kd.N_told (Kd.N_told (Kd.N_old (by (with_reducible repeat (first | apply Kd.aY | apply Kd.aX | apply Kd.aV)); exact HO213.out) hb) (Kd.N_base ho0)) (Kd.N_base ho1)) (fun _ h_ => h_.1))
    have n2_ := aA.mk (Kd.N_lower (Kd.bA (ok' := fun k_ => some k_ ≠ (v223 : Value).ownBlock ∧ some k_ ≠ (.slice Ao11 t208.length co11 : Value).ownBlock ∧ some k_ ≠ (.slice Ao13 t211.length co13 : Value).ownBlock ∧ k_ ≠ gb216 ∧ k_ ≠ gb227) ho0 (fun k_ hk_ => ⟨hk_.2, (Kd.fresh' (Kd.N_lt (by (with_reducible repeat (first | apply Kd.aY | apply Kd.aX | apply Kd.aV)); exact HO210.out)) k_ hk_.1), (Kd.fresh' (Kd.N_lt (by (with_reducible repeat (first | apply Kd.aY | apply Kd.aX | apply Kd.aV)); exact HO213.out)) k_ hk_.1), (Kd.freshB (g := gb216) (o := .cells #[.slice Ao11 t208.length co11, .slice Ao13 t211.length co13, .int .i64 t214, .bool t215] 25 (0, 0)) (by (with_reducible repeat (first | refine aQ ?_ _ | refine aN ?_ | refine aH ?_ _)); exact BK216.out) k_ hk_.1), (Kd.freshB (g := gb227) (o := .cells #[.slice none 0 0, .slice none 0 0, .int .i64 0, .bool false] 25 (0, 0)) (by (with_reducible repeat (first | refine aQ ?_ _ | refine aN ?_ | refine aH ?_ _)); exact BK227.out) k_ hk_.1)⟩)) (bH (by repeat (first | (with_reducible first | exact HB.out | apply aM | apply aG | apply aJ | refine aE ?_ GE216.out | refine aE ?_ GE227.out) | exact HB.out))))
    have n3_ := aA.mk (Kd.N_lower (Kd.bA (ok' := fun k_ => some k_ ≠ (v220 : Value).ownBlock ∧ some k_ ≠ (.slice Ao11 t208.length co11 : Value).ownBlock ∧ some k_ ≠ (.slice Ao13 t211.length co13 : Value).ownBlock ∧ k_ ≠ gb216 ∧ k_ ≠ gb227) ho1 (fun k_ hk_ => ⟨hk_.2, (Kd.fresh' (Kd.N_lt (by (with_reducible repeat (first | apply Kd.aY | apply Kd.aX | apply Kd.aV)); exact HO210.out)) k_ hk_.1), (Kd.fresh' (Kd.N_lt (by (with_reducible repeat (first | apply Kd.aY | apply Kd.aX | apply Kd.aV)); exact HO213.out)) k_ hk_.1), (Kd.freshB (g := gb216) (o := .cells #[.slice Ao11 t208.length co11, .slice Ao13 t211.length co13, .int .i64 t214, .bool t215] 25 (0, 0)) (by (with_reducible repeat (first | refine aQ ?_ _ | refine aN ?_ | refine aH ?_ _)); exact BK216.out) k_ hk_.1), (Kd.freshB (g := gb227) (o := .cells #[.slice none 0 0, .slice none 0 0, .int .i64 0, .bool false] 25 (0, 0)) (by (with_reducible repeat (first | refine aQ ?_ _ | refine aN ?_ | refine aH ?_ _)); exact BK227.out) k_ hk_.1)⟩)) (bH (by repeat (first | (with_reducible first | exact HB.out | apply aM | apply aG | apply aJ | refine aE ?_ GE216.out | refine aE ?_ GE227.out) | exact HB.out))))
    have n4_ := aA.mk (aW (g := gb216) (o := .cells #[.slice Ao11 t208.length co11, .slice Ao13 t211.length co13, .int .i64 t214, .bool t215] 25 (0, 0)) (by (with_reducible repeat (first | refine aQ ?_ _ | refine aN ?_ | refine aH ?_ _)); exact BK216.out) hb)
    have n5_ := aA.mk (aW (g := gb227) (o := .cells #[.slice none 0 0, .slice none 0 0, .int .i64 0, .bool false] 25 (0, 0)) (by (with_reducible repeat (first | refine aQ ?_ _ | refine aN ?_ | refine aH ?_ _)); exact BK227.out) hb)
    have n6_ := aA.mk (bD (by repeat (first | (with_reducible first | exact HB.out | apply aM | apply aG | apply aJ | refine aE ?_ GE216.out | refine aE ?_ GE227.out) | exact HB.out)) hb)
    clear HO210
    clear HO213
    clear BK216
    clear BK227
    clear HB
    have HO210 := n0_
    have HO213 := n1_
    have HO221 := n2_
    have HO224 := n3_
    have BK216 := n4_
    have BK227 := n5_
    have HB := n6_
    clear n0_ n1_ n2_ n3_ n4_ n5_ n6_
    (try clear hb)
    (try clear hb2)
    (try clear hk)
    (try clear hi)
    (try clear ho0)
    (try clear ho1)
    refine hK.out _ _ ⟨(aD BK216.out 0).trans rfl, (aD BK216.out 1).trans rfl, (aD BK216.out 2).trans rfl, (aD BK216.out 3).trans rfl⟩ (fun hHeld => ?_)
    clear hK K
    refine norm_ (a' := ?_) ?_ ?_
    rotate_left
    ·show Act.put _ (some 20) _ = _
     simp only [Act.put, lA, lB, lC, aU, aT]
     rfl
    exact norm_ (by simp only [putAll, Act.put, lA, lB, lC]) (hCont (v220, v223, gb227) _ ⟨hHeld, (by (with_reducible repeat (first | apply Kd.aY | apply Kd.aX | apply Kd.aV)); exact Kd.bA HO210.out (fun _ hk => ⟨hk.1.1.1.1, ⟨hk.1.2, ⟨hk.2, ⟨hk.1.1.1.2, hk.1.1.2⟩⟩⟩⟩)), (by (with_reducible repeat (first | apply Kd.aY | apply Kd.aX | apply Kd.aV)); exact Kd.bA HO213.out (fun _ hk => ⟨hk.1.1.1.1, ⟨hk.1.2, ⟨hk.2, ⟨hk.1.1.1.2, hk.1.1.2⟩⟩⟩⟩)), (by (with_reducible repeat (first | apply Kd.aY | apply Kd.aX | apply Kd.aV)); exact Kd.bA HO221.out (fun _ hk => ⟨hk.2.1, ⟨hk.2.2.1, ⟨hk.1, ⟨hk.2.2.2.1, hk.2.2.2.2⟩⟩⟩⟩)), (by (with_reducible repeat (first | apply Kd.aY | apply Kd.aX | apply Kd.aV)); exact Kd.bA HO224.out (fun _ hk => ⟨hk.2.1, ⟨hk.2.2.1, ⟨hk.1, ⟨hk.2.2.2.1, hk.2.2.2.2⟩⟩⟩⟩)), (by (with_reducible repeat (first | refine aQ ?_ _ | refine aN ?_ | refine aH ?_ _)); exact BK216.out), (by (with_reducible repeat (first | refine aQ ?_ _ | refine aN ?_ | refine aH ?_ _)); exact BK227.out), GW227.out, GE227.out, NB216_227.out, NB227_216.out, (by repeat (first | (with_reducible first | exact HB.out | apply aM | apply aG | apply aJ | refine aE ?_ GE216.out | refine aE ?_ GE227.out) | exact HB.out))⟩)
  rintro ⟨v220, v223, gb227⟩ w18 ⟨hS_, h0_, h1_, h2_, h3_, h4_, h5_, h6_, h7_, h8_, h9_, h10_⟩
  have n0_ : aA (Kd.N (Kd.slice 5 (Kd.int .u8)) 37 w18 w.heap.size (fun k_ => some k_ ≠ (.slice Ao13 t211.length co13 : Value).ownBlock ∧ some k_ ≠ (v220 : Value).ownBlock ∧ some k_ ≠ (v223 : Value).ownBlock ∧ k_ ≠ gb216 ∧ k_ ≠ gb227) (.slice Ao11 t208.length co11) t208) := ⟨h0_⟩
  have n1_ : aA (Kd.N k50 50 w18 w.heap.size (fun k_ => some k_ ≠ (.slice Ao11 t208.length co11 : Value).ownBlock ∧ some k_ ≠ (v220 : Value).ownBlock ∧ some k_ ≠ (v223 : Value).ownBlock ∧ k_ ≠ gb216 ∧ k_ ≠ gb227) (.slice Ao13 t211.length co13) t211) := ⟨h1_⟩
  have n2_ : aA (Kd.N (Kd.slice 5 (Kd.int .u8)) 37 w18 w.heap.size (fun k_ => some k_ ≠ (.slice Ao11 t208.length co11 : Value).ownBlock ∧ some k_ ≠ (.slice Ao13 t211.length co13 : Value).ownBlock ∧ some k_ ≠ (v223 : Value).ownBlock ∧ k_ ≠ gb216 ∧ k_ ≠ gb227) v220 t219) := ⟨h2_⟩
  have n3_ : aA (Kd.N k50 50 w18 w.heap.size (fun k_ => some k_ ≠ (.slice Ao11 t208.length co11 : Value).ownBlock ∧ some k_ ≠ (.slice Ao13 t211.length co13 : Value).ownBlock ∧ some k_ ≠ (v220 : Value).ownBlock ∧ k_ ≠ gb216 ∧ k_ ≠ gb227) v223 t222) := ⟨h3_⟩
  have n4_ : aA (w18.heap[gb216]? = some (.cells #[.slice Ao11 t208.length co11, .slice Ao13 t211.length co13, .int .i64 t214, .bool t215] 25 (0, 0))) := ⟨h4_⟩
  have n5_ : aA (w18.heap[gb227]? = some (.cells #[.slice none 0 0, .slice none 0 0, .int .i64 0, .bool false] 25 (0, 0))) := ⟨h5_⟩
  have n6_ : aA (w.heap.size ≤ gb227) := ⟨h6_⟩
  have n7_ : aA (w.heap.size ≤ gb227) := ⟨h7_⟩
  have n8_ : aA (gb216 ≠ gb227) := ⟨h8_⟩
  have n9_ : aA (gb227 ≠ gb216) := ⟨h9_⟩
  have n10_ : aA (Below w.heap.size w w18) := ⟨h10_⟩
  clear HO210
  clear HO213
  clear BK216
  clear HB
  clear h0_ h1_ h2_ h3_ h4_ h5_ h6_ h7_ h8_ h9_ h10_
  have HO210 := n0_
  have HO213 := n1_
  have HO221 := n2_
  have HO224 := n3_
  have BK216 := n4_
  have BK227 := n5_
  have GW227 := n6_
  have GE227 := n7_
  have NB216_227 := n8_
  have NB227_216 := n9_
  have HB := n10_
  clear n0_ n1_ n2_ n3_ n4_ n5_ n6_ n7_ n8_ n9_ n10_
  have hHeld : w18.cell? ⟨gb216, 0, none⟩ = some (.slice Ao11 t208.length co11) ∧ w18.cell? ⟨gb216, 1, none⟩ = some (.slice Ao13 t211.length co13) ∧ w18.cell? ⟨gb216, 2, none⟩ = some (.int .i64 t214) ∧ w18.cell? ⟨gb216, 3, none⟩ = some (.bool t215) := hS_
  obtain ⟨Ao19, co19, eo19⟩ := Kd.N_slice HO221.out
  (first | subst eo19 | (injection eo19 with f1_ f2_ f3_; have f4_ := f1_.symm; have f5_ := f3_.symm; clear f1_ f2_ f3_; subst f4_; subst f5_))
  obtain ⟨Ao21, co21, eo21⟩ := Kd.N_slice HO224.out
  (first | subst eo21 | (injection eo21 with f1_ f2_ f3_; have f4_ := f1_.symm; have f5_ := f3_.symm; clear f1_ f2_ f3_; subst f4_; subst f5_))
  refine norm_ (a' := ?_) ?_ ?_
  rotate_left
  ·simp only [putAll, Act.put, lA, lB, lC]
   rfl
  refine one_ (i := 9) (N := none) #[true, true, true, true, true, true, true, true, true, true] rfl rfl (one_of HT_.out (by kernel_rfl)) (by decide) (fun K hK => ?_)
  have hs20 : w18.cell? ⟨gb227, 0, none⟩ = some (.slice none 0 0) := (aD BK227.out 0).trans rfl
  have hfs20 := aC BK227.out 0
  have hns20_0 := NB216_227.out
  have hms20_0 := NB227_216.out
  have hs22 : w18.cell? ⟨gb227, 1, none⟩ = some (.slice none 0 0) := (aD BK227.out 1).trans rfl
  have hfs22 := aC BK227.out 1
  have hns22_0 := NB216_227.out
  have hms22_0 := NB227_216.out
  have hs23 : w18.cell? ⟨gb227, 2, none⟩ = some (.int .i64 0) := (aD BK227.out 2).trans rfl
  have hfs23 := aC BK227.out 2
  have hns23_0 := NB216_227.out
  have hms23_0 := NB227_216.out
  have hs24 : w18.cell? ⟨gb227, 3, none⟩ = some (.bool false) := (aD BK227.out 3).trans rfl
  have hfs24 := aC BK227.out 3
  have hns24_0 := NB216_227.out
  have hms24_0 := NB227_216.out
  refine skip_ (w1 := ?_) (by rfl) rfl ?_ ?_
  rotate_left
  ·go_simp
   rfl
  refine hK.out _ _ ⟨((cell_far (p := ⟨gb227, _, none⟩) NB216_227.out _).trans (((cell_far (p := ⟨gb227, _, none⟩) NB216_227.out _).trans (((cell_far (p := ⟨gb227, _, none⟩) NB216_227.out _).trans (((cell_far (p := ⟨gb227, _, none⟩) NB216_227.out _).trans (hHeld.1)))))))), ((cell_far (p := ⟨gb227, _, none⟩) NB216_227.out _).trans (((cell_far (p := ⟨gb227, _, none⟩) NB216_227.out _).trans (((cell_far (p := ⟨gb227, _, none⟩) NB216_227.out _).trans (((cell_far (p := ⟨gb227, _, none⟩) NB216_227.out _).trans (hHeld.2.1)))))))), ((cell_far (p := ⟨gb227, _, none⟩) NB216_227.out _).trans (((cell_far (p := ⟨gb227, _, none⟩) NB216_227.out _).trans (((cell_far (p := ⟨gb227, _, none⟩) NB216_227.out _).trans (((cell_far (p := ⟨gb227, _, none⟩) NB216_227.out _).trans (hHeld.2.2.1)))))))), ((cell_far (p := ⟨gb227, _, none⟩) NB216_227.out _).trans (((cell_far (p := ⟨gb227, _, none⟩) NB216_227.out _).trans (((cell_far (p := ⟨gb227, _, none⟩) NB216_227.out _).trans (((cell_far (p := ⟨gb227, _, none⟩) NB216_227.out _).trans (hHeld.2.2.2))))))))⟩ (fun hHeld => ?_)
  clear hK K
  refine done_ (done_of HT_.out (by kernel_rfl)) ?_
  have hnb25 := NB216_227.out
  have hnc25 := NB227_216.out
  have hcz26_0 : w18.cell? ⟨gb216, 0, none⟩ = some (.slice Ao11 t208.length co11) := (aD BK216.out 0).trans rfl
  have hcz26_1 : w18.cell? ⟨gb216, 1, none⟩ = some (.slice Ao13 t211.length co13) := (aD BK216.out 1).trans rfl
  have hcz26_2 : w18.cell? ⟨gb216, 2, none⟩ = some (.int .i64 t214) := (aD BK216.out 2).trans rfl
  have hcz26_3 : w18.cell? ⟨gb216, 3, none⟩ = some (.bool t215) := (aD BK216.out 3).trans rfl
  have hfz26_0 := aC BK216.out 0
  have hfz26_1 := aC BK216.out 1
  have hfz26_2 := aC BK216.out 2
  have hfz26_3 := aC BK216.out 3
  try go_wp2_with (first | ((with_reducible refine bJ (f := 32) rfl ?_); refine goesL_ (some 22) rfl rfl Try.func32 (by kernel_rfl) rfl #[.agg #[.slice Ao11 t208.length co11, .slice Ao13 t211.length co13, .int .i64 t214, .bool t215], .int .i64 0] rfl (by (try simp only [List.map_toArray, List.map_cons, List.map_nil]); first | done | rfl | (simp only [List.length_drop, List.length_take]; rfl)) ?_; (with_reducible refine (impl_FallDev.calls _ _ t208 _ _ t211 t214 t215 0 t228 t231 t234 t235 _ ?side1 ?side2 ?side3 ?side4 A8.out).mono ?_); (case side1 => refine (Kd.N_reads' (e := 37) (base := w.heap.size) (ok := fun k_ => (some k_ ≠ (.slice Ao13 t211.length co13 : Value).ownBlock ∧ (some k_ ≠ (.slice Ao19 t219.length co19 : Value).ownBlock ∧ (some k_ ≠ (.slice Ao21 t222.length co21 : Value).ownBlock ∧ (k_ ≠ gb216 ∧ k_ ≠ gb227))))) (n := t208.length) (c := co11) ?_).2.2; exact (by (with_reducible repeat (first | apply Kd.aY | apply Kd.aX | apply Kd.aV)); exact (Kd.bA (Kd.bK (p := ⟨gb227, 3, none⟩) (Kd.bK (p := ⟨gb227, 2, none⟩) (Kd.bK (p := ⟨gb227, 1, none⟩) (Kd.bK (p := ⟨gb227, 0, none⟩) (Kd.bA HO210.out (fun k_ hk => (⟨hk, hk.2.2.2.2⟩ : _ ∧ k_ ≠ gb227))) (fun _ hk => hk.2) (.slice Ao19 t219.length co19)) (fun _ hk => hk.2) (.slice Ao21 t222.length co21)) (fun _ hk => hk.2) (.int .i64 t225)) (fun _ hk => hk.2) (.bool t226)) (fun _ h_ => h_.1)))); (case side2 => exact (Kd.N_reads' HO210.out).2.1); (case side3 => refine (Kd.N_reads' (e := 50) (base := w.heap.size) (ok := fun k_ => (some k_ ≠ (.slice Ao11 t208.length co11 : Value).ownBlock ∧ (some k_ ≠ (.slice Ao19 t219.length co19 : Value).ownBlock ∧ (some k_ ≠ (.slice Ao21 t222.length co21 : Value).ownBlock ∧ (k_ ≠ gb216 ∧ k_ ≠ gb227))))) (n := t211.length) (c := co13) ?_).2.2; exact (by (with_reducible repeat (first | apply Kd.aY | apply Kd.aX | apply Kd.aV)); exact (Kd.bA (Kd.bK (p := ⟨gb227, 3, none⟩) (Kd.bK (p := ⟨gb227, 2, none⟩) (Kd.bK (p := ⟨gb227, 1, none⟩) (Kd.bK (p := ⟨gb227, 0, none⟩) (Kd.bA HO213.out (fun k_ hk => (⟨hk, hk.2.2.2.2⟩ : _ ∧ k_ ≠ gb227))) (fun _ hk => hk.2) (.slice Ao19 t219.length co19)) (fun _ hk => hk.2) (.slice Ao21 t222.length co21)) (fun _ hk => hk.2) (.int .i64 t225)) (fun _ hk => hk.2) (.bool t226)) (fun _ h_ => h_.1)))); (case side4 => exact (Kd.N_reads' HO213.out).2.1); rintro e w27 ⟨v229, v232, rfl, ho0, ho1, hb⟩; refine ⟨_, rfl, ?_⟩; have n0_ := aA.mk (Kd.bA (Kd.N_told (Kd.N_told (Kd.N_old (by (with_reducible repeat (first | apply Kd.aY | apply Kd.aX | apply Kd.aV)); exact (Kd.bA (Kd.bK (p := ⟨gb227, 3, none⟩) (Kd.bK (p := ⟨gb227, 2, none⟩) (Kd.bK (p := ⟨gb227, 1, none⟩) (Kd.bK (p := ⟨gb227, 0, none⟩) (Kd.bA HO210.out (fun k_ hk => (⟨hk, hk.2.2.2.2⟩ : _ ∧ k_ ≠ gb227))) (fun _ hk => hk.2) (.slice Ao19 t219.length co19)) (fun _ hk => hk.2) (.slice Ao21 t222.length co21)) (fun _ hk => hk.2) (.int .i64 t225)) (fun _ hk => hk.2) (.bool t226)) (fun _ h_ => h_.1))) hb) (Kd.N_base ho0)) (Kd.N_base ho1)) (fun _ h_ => h_.1)); have n1_ := aA.mk (Kd.bA (Kd.N_told (Kd.N_told (Kd.N_old (by (with_reducible repeat (first | apply Kd.aY | apply Kd.aX | apply Kd.aV)); exact (Kd.bA (Kd.bK (p := ⟨gb227, 3, none⟩) (Kd.bK (p := ⟨gb227, 2, none⟩) (Kd.bK (p := ⟨gb227, 1, none⟩) (Kd.bK (p := ⟨gb227, 0, none⟩) (Kd.bA HO213.out (fun k_ hk => (⟨hk, hk.2.2.2.2⟩ : _ ∧ k_ ≠ gb227))) (fun _ hk => hk.2) (.slice Ao19 t219.length co19)) (fun _ hk => hk.2) (.slice Ao21 t222.length co21)) (fun _ hk => hk.2) (.int .i64 t225)) (fun _ hk => hk.2) (.bool t226)) (fun _ h_ => h_.1))) hb) (Kd.N_base ho0)) (Kd.N_base ho1)) (fun _ h_ => h_.1)); have n2_ := aA.mk (Kd.bA (Kd.N_told (Kd.N_told (Kd.N_old (by (with_reducible repeat (first | apply Kd.aY | apply Kd.aX | apply Kd.aV)); exact (Kd.bA (Kd.bK (p := ⟨gb227, 3, none⟩) (Kd.bK (p := ⟨gb227, 2, none⟩) (Kd.bK (p := ⟨gb227, 1, none⟩) (Kd.bK (p := ⟨gb227, 0, none⟩) (Kd.bA HO221.out (fun k_ hk => (⟨hk, hk.2.2.2.2⟩ : _ ∧ k_ ≠ gb227))) (fun _ hk => hk.2) (.slice Ao19 t219.length co19)) (fun _ hk => hk.2) (.slice Ao21 t222.length co21)) (fun _ hk => hk.2) (.int .i64 t225)) (fun _ hk => hk.2) (.bool t226)) (fun _ h_ => h_.1))) hb) (Kd.N_base ho0)) (Kd.N_base ho1)) (fun _ h_ => h_.1)); have n3_ := aA.mk (Kd.bA (Kd.N_told (Kd.N_told (Kd.N_old (by (with_reducible repeat (first | apply Kd.aY | apply Kd.aX | apply Kd.aV)); exact (Kd.bA (Kd.bK (p := ⟨gb227, 3, none⟩) (Kd.bK (p := ⟨gb227, 2, none⟩) (Kd.bK (p := ⟨gb227, 1, none⟩) (Kd.bK (p := ⟨gb227, 0, none⟩) (Kd.bA HO224.out (fun k_ hk => (⟨hk, hk.2.2.2.2⟩ : _ ∧ k_ ≠ gb227))) (fun _ hk => hk.2) (.slice Ao19 t219.length co19)) (fun _ hk => hk.2) (.slice Ao21 t222.length co21)) (fun _ hk => hk.2) (.int .i64 t225)) (fun _ hk => hk.2) (.bool t226)) (fun _ h_ => h_.1))) hb) (Kd.N_base ho0)) (Kd.N_base ho1)) (fun _ h_ => h_.1)); have n4_ := aA.mk (Kd.N_lower (Kd.bA (ok' := fun k_ => some k_ ≠ (v232 : Value).ownBlock ∧ some k_ ≠ (.slice Ao11 t208.length co11 : Value).ownBlock ∧ some k_ ≠ (.slice Ao13 t211.length co13 : Value).ownBlock ∧ some k_ ≠ (.slice Ao19 t219.length co19 : Value).ownBlock ∧ some k_ ≠ (.slice Ao21 t222.length co21 : Value).ownBlock ∧ k_ ≠ gb216 ∧ k_ ≠ gb227) ho0 (fun k_ hk_ => ⟨hk_.2, (Kd.fresh' (Kd.N_lt (by (with_reducible repeat (first | apply Kd.aY | apply Kd.aX | apply Kd.aV)); exact (Kd.bA (Kd.bK (p := ⟨gb227, 3, none⟩) (Kd.bK (p := ⟨gb227, 2, none⟩) (Kd.bK (p := ⟨gb227, 1, none⟩) (Kd.bK (p := ⟨gb227, 0, none⟩) (Kd.bA HO210.out (fun k_ hk => (⟨hk, hk.2.2.2.2⟩ : _ ∧ k_ ≠ gb227))) (fun _ hk => hk.2) (.slice Ao19 t219.length co19)) (fun _ hk => hk.2) (.slice Ao21 t222.length co21)) (fun _ hk => hk.2) (.int .i64 t225)) (fun _ hk => hk.2) (.bool t226)) (fun _ h_ => h_.1)))) k_ hk_.1), (Kd.fresh' (Kd.N_lt (by (with_reducible repeat (first | apply Kd.aY | apply Kd.aX | apply Kd.aV)); exact (Kd.bA (Kd.bK (p := ⟨gb227, 3, none⟩) (Kd.bK (p := ⟨gb227, 2, none⟩) (Kd.bK (p := ⟨gb227, 1, none⟩) (Kd.bK (p := ⟨gb227, 0, none⟩) (Kd.bA HO213.out (fun k_ hk => (⟨hk, hk.2.2.2.2⟩ : _ ∧ k_ ≠ gb227))) (fun _ hk => hk.2) (.slice Ao19 t219.length co19)) (fun _ hk => hk.2) (.slice Ao21 t222.length co21)) (fun _ hk => hk.2) (.int .i64 t225)) (fun _ hk => hk.2) (.bool t226)) (fun _ h_ => h_.1)))) k_ hk_.1), (Kd.fresh' (Kd.N_lt (by (with_reducible repeat (first | apply Kd.aY | apply Kd.aX | apply Kd.aV)); exact (Kd.bA (Kd.bK (p := ⟨gb227, 3, none⟩) (Kd.bK (p := ⟨gb227, 2, none⟩) (Kd.bK (p := ⟨gb227, 1, none⟩) (Kd.bK (p := ⟨gb227, 0, none⟩) (Kd.bA HO221.out (fun k_ hk => (⟨hk, hk.2.2.2.2⟩ : _ ∧ k_ ≠ gb227))) (fun _ hk => hk.2) (.slice Ao19 t219.length co19)) (fun _ hk => hk.2) (.slice Ao21 t222.length co21)) (fun _ hk => hk.2) (.int .i64 t225)) (fun _ hk => hk.2) (.bool t226)) (fun _ h_ => h_.1)))) k_ hk_.1), (Kd.fresh' (Kd.N_lt (by (with_reducible repeat (first | apply Kd.aY | apply Kd.aX | apply Kd.aV)); exact (Kd.bA (Kd.bK (p := ⟨gb227, 3, none⟩) (Kd.bK (p := ⟨gb227, 2, none⟩) (Kd.bK (p := ⟨gb227, 1, none⟩) (Kd.bK (p := ⟨gb227, 0, none⟩) (Kd.bA HO224.out (fun k_ hk => (⟨hk, hk.2.2.2.2⟩ : _ ∧ k_ ≠ gb227))) (fun _ hk => hk.2) (.slice Ao19 t219.length co19)) (fun _ hk => hk.2) (.slice Ao21 t222.length co21)) (fun _ hk => hk.2) (.int .i64 t225)) (fun _ hk => hk.2) (.bool t226)) (fun _ h_ => h_.1)))) k_ hk_.1), (Kd.freshB (g := gb216) (o := .cells #[.slice Ao11 t208.length co11, .slice Ao13 t211.length co13, .int .i64 t214, .bool t215] 25 (0, 0)) (by (with_reducible repeat (first | refine aQ ?_ _ | refine aN ?_ | refine aH ?_ _)); refine blk_far ?_ NB216_227.out _; (with_reducible repeat (first | refine aQ ?_ _ | refine aN ?_ | refine aH ?_ _)); refine blk_far ?_ NB216_227.out _; (with_reducible repeat (first | refine aQ ?_ _ | refine aN ?_ | refine aH ?_ _)); refine blk_far ?_ NB216_227.out _; (with_reducible repeat (first | refine aQ ?_ _ | refine aN ?_ | refine aH ?_ _)); refine blk_far ?_ NB216_227.out _; (with_reducible repeat (first | refine aQ ?_ _ | refine aN ?_ | refine aH ?_ _)); exact BK216.out) k_ hk_.1), (Kd.freshB (g := gb227) (o := .cells #[.slice Ao19 t219.length co19, .slice Ao21 t222.length co21, .int .i64 t225, .bool t226] 25 (0, 0)) (by (with_reducible repeat (first | refine aQ ?_ _ | refine aN ?_ | refine aH ?_ _)); refine bE (cs := #[.slice Ao19 t219.length co19, .slice Ao21 t222.length co21, .int .i64 t225, .bool false]) ?_ 3 _ rfl; (with_reducible repeat (first | refine aQ ?_ _ | refine aN ?_ | refine aH ?_ _)); refine bE (cs := #[.slice Ao19 t219.length co19, .slice Ao21 t222.length co21, .int .i64 0, .bool false]) ?_ 2 _ rfl; (with_reducible repeat (first | refine aQ ?_ _ | refine aN ?_ | refine aH ?_ _)); refine bE (cs := #[.slice Ao19 t219.length co19, .slice none 0 0, .int .i64 0, .bool false]) ?_ 1 _ rfl; (with_reducible repeat (first | refine aQ ?_ _ | refine aN ?_ | refine aH ?_ _)); refine bE (cs := #[.slice none 0 0, .slice none 0 0, .int .i64 0, .bool false]) ?_ 0 _ rfl; (with_reducible repeat (first | refine aQ ?_ _ | refine aN ?_ | refine aH ?_ _)); exact BK227.out) k_ hk_.1)⟩)) (bH (by repeat (first | (with_reducible first | exact HB.out | apply aM | apply aG | apply aJ | refine aE ?_ GE216.out | refine aE ?_ GE227.out) | exact HB.out)))); have n5_ := aA.mk (Kd.N_lower (Kd.bA (ok' := fun k_ => some k_ ≠ (v229 : Value).ownBlock ∧ some k_ ≠ (.slice Ao11 t208.length co11 : Value).ownBlock ∧ some k_ ≠ (.slice Ao13 t211.length co13 : Value).ownBlock ∧ some k_ ≠ (.slice Ao19 t219.length co19 : Value).ownBlock ∧ some k_ ≠ (.slice Ao21 t222.length co21 : Value).ownBlock ∧ k_ ≠ gb216 ∧ k_ ≠ gb227) ho1 (fun k_ hk_ => ⟨hk_.2, (Kd.fresh' (Kd.N_lt (by (with_reducible repeat (first | apply Kd.aY | apply Kd.aX | apply Kd.aV)); exact (Kd.bA (Kd.bK (p := ⟨gb227, 3, none⟩) (Kd.bK (p := ⟨gb227, 2, none⟩) (Kd.bK (p := ⟨gb227, 1, none⟩) (Kd.bK (p := ⟨gb227, 0, none⟩) (Kd.bA HO210.out (fun k_ hk => (⟨hk, hk.2.2.2.2⟩ : _ ∧ k_ ≠ gb227))) (fun _ hk => hk.2) (.slice Ao19 t219.length co19)) (fun _ hk => hk.2) (.slice Ao21 t222.length co21)) (fun _ hk => hk.2) (.int .i64 t225)) (fun _ hk => hk.2) (.bool t226)) (fun _ h_ => h_.1)))) k_ hk_.1), (Kd.fresh' (Kd.N_lt (by (with_reducible repeat (first | apply Kd.aY | apply Kd.aX | apply Kd.aV)); exact (Kd.bA (Kd.bK (p := ⟨gb227, 3, none⟩) (Kd.bK (p := ⟨gb227, 2, none⟩) (Kd.bK (p := ⟨gb227, 1, none⟩) (Kd.bK (p := ⟨gb227, 0, none⟩) (Kd.bA HO213.out (fun k_ hk => (⟨hk, hk.2.2.2.2⟩ : _ ∧ k_ ≠ gb227))) (fun _ hk => hk.2) (.slice Ao19 t219.length co19)) (fun _ hk => hk.2) (.slice Ao21 t222.length co21)) (fun _ hk => hk.2) (.int .i64 t225)) (fun _ hk => hk.2) (.bool t226)) (fun _ h_ => h_.1)))) k_ hk_.1), (Kd.fresh' (Kd.N_lt (by (with_reducible repeat (first | apply Kd.aY | apply Kd.aX | apply Kd.aV)); exact (Kd.bA (Kd.bK (p := ⟨gb227, 3, none⟩) (Kd.bK (p := ⟨gb227, 2, none⟩) (Kd.bK (p := ⟨gb227, 1, none⟩) (Kd.bK (p := ⟨gb227, 0, none⟩) (Kd.bA HO221.out (fun k_ hk => (⟨hk, hk.2.2.2.2⟩ : _ ∧ k_ ≠ gb227))) (fun _ hk => hk.2) (.slice Ao19 t219.length co19)) (fun _ hk => hk.2) (.slice Ao21 t222.length co21)) (fun _ hk => hk.2) (.int .i64 t225)) (fun _ hk => hk.2) (.bool t226)) (fun _ h_ => h_.1)))) k_ hk_.1), (Kd.fresh' (Kd.N_lt (by (with_reducible repeat (first | apply Kd.aY | apply Kd.aX | apply Kd.aV)); exact (Kd.bA (Kd.bK (p := ⟨gb227, 3, none⟩) (Kd.bK (p := ⟨gb227, 2, none⟩) (Kd.bK (p := ⟨gb227, 1, none⟩) (Kd.bK (p := ⟨gb227, 0, none⟩) (Kd.bA HO224.out (fun k_ hk => (⟨hk, hk.2.2.2.2⟩ : _ ∧ k_ ≠ gb227))) (fun _ hk => hk.2) (.slice Ao19 t219.length co19)) (fun _ hk => hk.2) (.slice Ao21 t222.length co21)) (fun _ hk => hk.2) (.int .i64 t225)) (fun _ hk => hk.2) (.bool t226)) (fun _ h_ => h_.1)))) k_ hk_.1), (Kd.freshB (g := gb216) (o := .cells #[.slice Ao11 t208.length co11, .slice Ao13 t211.length co13, .int .i64 t214, .bool t215] 25 (0, 0)) (by (with_reducible repeat (first | refine aQ ?_ _ | refine aN ?_ | refine aH ?_ _)); refine blk_far ?_ NB216_227.out _; (with_reducible repeat (first | refine aQ ?_ _ | refine aN ?_ | refine aH ?_ _)); refine blk_far ?_ NB216_227.out _; (with_reducible repeat (first | refine aQ ?_ _ | refine aN ?_ | refine aH ?_ _)); refine blk_far ?_ NB216_227.out _; (with_reducible repeat (first | refine aQ ?_ _ | refine aN ?_ | refine aH ?_ _)); refine blk_far ?_ NB216_227.out _; (with_reducible repeat (first | refine aQ ?_ _ | refine aN ?_ | refine aH ?_ _)); exact BK216.out) k_ hk_.1), (Kd.freshB (g := gb227) (o := .cells #[.slice Ao19 t219.length co19, .slice Ao21 t222.length co21, .int .i64 t225, .bool t226] 25 (0, 0)) (by (with_reducible repeat (first | refine aQ ?_ _ | refine aN ?_ | refine aH ?_ _)); refine bE (cs := #[.slice Ao19 t219.length co19, .slice Ao21 t222.length co21, .int .i64 t225, .bool false]) ?_ 3 _ rfl; (with_reducible repeat (first | refine aQ ?_ _ | refine aN ?_ | refine aH ?_ _)); refine bE (cs := #[.slice Ao19 t219.length co19, .slice Ao21 t222.length co21, .int .i64 0, .bool false]) ?_ 2 _ rfl; (with_reducible repeat (first | refine aQ ?_ _ | refine aN ?_ | refine aH ?_ _)); refine bE (cs := #[.slice Ao19 t219.length co19, .slice none 0 0, .int .i64 0, .bool false]) ?_ 1 _ rfl; (with_reducible repeat (first | refine aQ ?_ _ | refine aN ?_ | refine aH ?_ _)); refine bE (cs := #[.slice none 0 0, .slice none 0 0, .int .i64 0, .bool false]) ?_ 0 _ rfl; (with_reducible repeat (first | refine aQ ?_ _ | refine aN ?_ | refine aH ?_ _)); exact BK227.out) k_ hk_.1)⟩)) (bH (by repeat (first | (with_reducible first | exact HB.out | apply aM | apply aG | apply aJ | refine aE ?_ GE216.out | refine aE ?_ GE227.out) | exact HB.out)))); have n6_ := aA.mk (aW (g := gb216) (o := .cells #[.slice Ao11 t208.length co11, .slice Ao13 t211.length co13, .int .i64 t214, .bool t215] 25 (0, 0)) (by (with_reducible repeat (first | refine aQ ?_ _ | refine aN ?_ | refine aH ?_ _)); refine blk_far ?_ NB216_227.out _; (with_reducible repeat (first | refine aQ ?_ _ | refine aN ?_ | refine aH ?_ _)); refine blk_far ?_ NB216_227.out _; (with_reducible repeat (first | refine aQ ?_ _ | refine aN ?_ | refine aH ?_ _)); refine blk_far ?_ NB216_227.out _; (with_reducible repeat (first | refine aQ ?_ _ | refine aN ?_ | refine aH ?_ _)); refine blk_far ?_ NB216_227.out _; (with_reducible repeat (first | refine aQ ?_ _ | refine aN ?_ | refine aH ?_ _)); exact BK216.out) hb); have n7_ := aA.mk (aW (g := gb227) (o := .cells #[.slice Ao19 t219.length co19, .slice Ao21 t222.length co21, .int .i64 t225, .bool t226] 25 (0, 0)) (by (with_reducible repeat (first | refine aQ ?_ _ | refine aN ?_ | refine aH ?_ _)); refine bE (cs := #[.slice Ao19 t219.length co19, .slice Ao21 t222.length co21, .int .i64 t225, .bool false]) ?_ 3 _ rfl; (with_reducible repeat (first | refine aQ ?_ _ | refine aN ?_ | refine aH ?_ _)); refine bE (cs := #[.slice Ao19 t219.length co19, .slice Ao21 t222.length co21, .int .i64 0, .bool false]) ?_ 2 _ rfl; (with_reducible repeat (first | refine aQ ?_ _ | refine aN ?_ | refine aH ?_ _)); refine bE (cs := #[.slice Ao19 t219.length co19, .slice none 0 0, .int .i64 0, .bool false]) ?_ 1 _ rfl; (with_reducible repeat (first | refine aQ ?_ _ | refine aN ?_ | refine aH ?_ _)); refine bE (cs := #[.slice none 0 0, .slice none 0 0, .int .i64 0, .bool false]) ?_ 0 _ rfl; (with_reducible repeat (first | refine aQ ?_ _ | refine aN ?_ | refine aH ?_ _)); exact BK227.out) hb); have n8_ := aA.mk (bD (by repeat (first | (with_reducible first | exact HB.out | apply aM | apply aG | apply aJ | refine aE ?_ GE216.out | refine aE ?_ GE227.out) | exact HB.out)) hb); clear HO210; clear HO213; clear HO221; clear HO224; clear BK216; clear BK227; clear HB; have HO210 := n0_; have HO213 := n1_; have HO221 := n2_; have HO224 := n3_; have HO230 := n4_; have HO233 := n5_; have BK216 := n6_; have BK227 := n7_; have HB := n8_; clear n0_ n1_ n2_ n3_ n4_ n5_ n6_ n7_ n8_; (try clear hb); (try clear hk); (try clear ho0); (try clear ho1)) | ((with_reducible refine gate_dst (N := 5) rfl ?_); (try (refine gate_guard (by rfl) ?_; dsimp only)); refine box_event ?hg (N := 5) ?hd (cs := #[.slice none 0 0, .slice none 0 0, .int .i64 0, .bool false]) (t := 25) ?hr ?_; (case hd => rfl); (case hg => rfl); (case hr => first | (go_simp; done) | (go_simp; rfl)); intro gb236 hg w28 hbox hb; have n0_ := aA.mk (Kd.bL (Kd.N_elderB (by (with_reducible repeat (first | apply Kd.aY | apply Kd.aX | apply Kd.aV)); exact HO210.out) gb236 (Nat.le_of_eq hg.symm)) hb); have n1_ := aA.mk (Kd.bL (Kd.N_elderB (by (with_reducible repeat (first | apply Kd.aY | apply Kd.aX | apply Kd.aV)); exact HO213.out) gb236 (Nat.le_of_eq hg.symm)) hb); have n2_ := aA.mk (Kd.bL (Kd.N_elderB (by (with_reducible repeat (first | apply Kd.aY | apply Kd.aX | apply Kd.aV)); exact HO221.out) gb236 (Nat.le_of_eq hg.symm)) hb); have n3_ := aA.mk (Kd.bL (Kd.N_elderB (by (with_reducible repeat (first | apply Kd.aY | apply Kd.aX | apply Kd.aV)); exact HO224.out) gb236 (Nat.le_of_eq hg.symm)) hb); have n4_ := aA.mk (Kd.bL (Kd.N_elderB (by (with_reducible repeat (first | apply Kd.aY | apply Kd.aX | apply Kd.aV)); exact HO230.out) gb236 (Nat.le_of_eq hg.symm)) hb); have n5_ := aA.mk (Kd.bL (Kd.N_elderB (by (with_reducible repeat (first | apply Kd.aY | apply Kd.aX | apply Kd.aV)); exact HO233.out) gb236 (Nat.le_of_eq hg.symm)) hb); have n6_ := aA.mk (aW (g := gb216) (o := .cells #[.slice Ao11 t208.length co11, .slice Ao13 t211.length co13, .int .i64 t214, .bool t215] 25 (0, 0)) (by (with_reducible repeat (first | refine aQ ?_ _ | refine aN ?_ | refine aH ?_ _)); exact BK216.out) hb); have n7_ := aA.mk (aW (g := gb227) (o := .cells #[.slice Ao19 t219.length co19, .slice Ao21 t222.length co21, .int .i64 t225, .bool t226] 25 (0, 0)) (by (with_reducible repeat (first | refine aQ ?_ _ | refine aN ?_ | refine aH ?_ _)); exact BK227.out) hb); have n8_ := aA.mk (bD (by repeat (first | (with_reducible first | exact HB.out | apply aM | apply aG | apply aJ | refine aE ?_ GE216.out | refine aE ?_ GE227.out) | exact HB.out)) hb); have n9_ := aA.mk (hbox); have n10_ := aA.mk ((by rw [hg]; exact (bH (by repeat (first | (with_reducible first | exact HB.out | apply aM | apply aG | apply aJ | refine aE ?_ GE216.out | refine aE ?_ GE227.out) | exact HB.out))) : w.heap.size ≤ gb236)); have n11_ := aA.mk ((by rw [hg]; exact (bH (by repeat (first | (with_reducible first | exact HB.out | apply aM | apply aG | apply aJ | refine aE ?_ GE216.out | refine aE ?_ GE227.out) | exact HB.out))) : w.heap.size ≤ gb236)); have n12_ := aA.mk ((by rw [hg]; exact Nat.ne_of_lt (blk_lt (g := gb216) (o := .cells #[.slice Ao11 t208.length co11, .slice Ao13 t211.length co13, .int .i64 t214, .bool t215] 25 (0, 0)) (by (with_reducible repeat (first | refine aQ ?_ _ | refine aN ?_ | refine aH ?_ _)); exact BK216.out)) : gb216 ≠ gb236)); have n13_ := aA.mk ((by rw [hg]; exact Nat.ne_of_gt (blk_lt (g := gb216) (o := .cells #[.slice Ao11 t208.length co11, .slice Ao13 t211.length co13, .int .i64 t214, .bool t215] 25 (0, 0)) (by (with_reducible repeat (first | refine aQ ?_ _ | refine aN ?_ | refine aH ?_ _)); exact BK216.out)) : gb236 ≠ gb216)); have n14_ := aA.mk ((by rw [hg]; exact Nat.ne_of_lt (blk_lt (g := gb227) (o := .cells #[.slice Ao19 t219.length co19, .slice Ao21 t222.length co21, .int .i64 t225, .bool t226] 25 (0, 0)) (by (with_reducible repeat (first | refine aQ ?_ _ | refine aN ?_ | refine aH ?_ _)); exact BK227.out)) : gb227 ≠ gb236)); have n15_ := aA.mk ((by rw [hg]; exact Nat.ne_of_gt (blk_lt (g := gb227) (o := .cells #[.slice Ao19 t219.length co19, .slice Ao21 t222.length co21, .int .i64 t225, .bool t226] 25 (0, 0)) (by (with_reducible repeat (first | refine aQ ?_ _ | refine aN ?_ | refine aH ?_ _)); exact BK227.out)) : gb236 ≠ gb227)); clear HO210; clear HO213; clear HO221; clear HO224; clear HO230; clear HO233; clear BK216; clear BK227; clear HB; have HO210 := n0_; have HO213 := n1_; have HO221 := n2_; have HO224 := n3_; have HO230 := n4_; have HO233 := n5_; have BK216 := n6_; have BK227 := n7_; have HB := n8_; have BK236 := n9_; have GW236 := n10_; have GE236 := n11_; have NB216_236 := n12_; have NB236_216 := n13_; have NB227_236 := n14_; have NB236_227 := n15_; clear n0_ n1_ n2_ n3_ n4_ n5_ n6_ n7_ n8_ n9_ n10_ n11_ n12_ n13_ n14_ n15_; clear hb hbox hg; obtain ⟨Ao29, co29, eo29⟩ := Kd.N_slice HO230.out; subst eo29; have hnb30 := NB236_216.out; have hnc30 := NB216_236.out; have hnb31 := NB236_227.out; have hnc31 := NB227_236.out; have hcz32_0 : w28.cell? ⟨gb236, 0, none⟩ = some (.slice none 0 0) := (aD BK236.out 0).trans rfl; have hcz32_1 : w28.cell? ⟨gb236, 1, none⟩ = some (.slice none 0 0) := (aD BK236.out 1).trans rfl; have hcz32_2 : w28.cell? ⟨gb236, 2, none⟩ = some (.int .i64 0) := (aD BK236.out 2).trans rfl; have hcz32_3 : w28.cell? ⟨gb236, 3, none⟩ = some (.bool false) := (aD BK236.out 3).trans rfl; have hfz32_0 := aC BK236.out 0; have hfz32_1 := aC BK236.out 1; have hfz32_2 := aC BK236.out 2; have hfz32_3 := aC BK236.out 3; obtain ⟨Ao33, co33, eo33⟩ := Kd.N_slice HO233.out; subst eo33))
  go_loopg [6] k (fun kq v6 w' => ∃ (x6_1 : Int), v6 = .int .i64 x6_1 ∧ aA (laws_FnFalls.l0 kq x6_1 t208 t211 t214 t215 t219 t222 t225 t226 t228 t231 t234 t235 = some r) ∧ aA (kq ≤ k) ∧ aA (Kd.N (Kd.slice 5 (Kd.int .u8)) 37 w' w.heap.size (fun k_ => some k_ ≠ ((.slice Ao13 t211.length co13) : Value).ownBlock ∧ some k_ ≠ ((.slice Ao19 t219.length co19) : Value).ownBlock ∧ some k_ ≠ ((.slice Ao21 t222.length co21) : Value).ownBlock ∧ some k_ ≠ ((.slice Ao29 t228.length co29) : Value).ownBlock ∧ some k_ ≠ ((.slice Ao33 t231.length co33) : Value).ownBlock ∧ k_ ≠ gb216 ∧ k_ ≠ gb227 ∧ k_ ≠ gb236) (.slice Ao11 t208.length co11) t208) ∧ aA (Kd.N k50 50 w' w.heap.size (fun k_ => some k_ ≠ ((.slice Ao11 t208.length co11) : Value).ownBlock ∧ some k_ ≠ ((.slice Ao19 t219.length co19) : Value).ownBlock ∧ some k_ ≠ ((.slice Ao21 t222.length co21) : Value).ownBlock ∧ some k_ ≠ ((.slice Ao29 t228.length co29) : Value).ownBlock ∧ some k_ ≠ ((.slice Ao33 t231.length co33) : Value).ownBlock ∧ k_ ≠ gb216 ∧ k_ ≠ gb227 ∧ k_ ≠ gb236) (.slice Ao13 t211.length co13) t211) ∧ aA (Kd.N (Kd.slice 5 (Kd.int .u8)) 37 w' w.heap.size (fun k_ => some k_ ≠ ((.slice Ao11 t208.length co11) : Value).ownBlock ∧ some k_ ≠ ((.slice Ao13 t211.length co13) : Value).ownBlock ∧ some k_ ≠ ((.slice Ao21 t222.length co21) : Value).ownBlock ∧ some k_ ≠ ((.slice Ao29 t228.length co29) : Value).ownBlock ∧ some k_ ≠ ((.slice Ao33 t231.length co33) : Value).ownBlock ∧ k_ ≠ gb216 ∧ k_ ≠ gb227 ∧ k_ ≠ gb236) (.slice Ao19 t219.length co19) t219) ∧ aA (Kd.N k50 50 w' w.heap.size (fun k_ => some k_ ≠ ((.slice Ao11 t208.length co11) : Value).ownBlock ∧ some k_ ≠ ((.slice Ao13 t211.length co13) : Value).ownBlock ∧ some k_ ≠ ((.slice Ao19 t219.length co19) : Value).ownBlock ∧ some k_ ≠ ((.slice Ao29 t228.length co29) : Value).ownBlock ∧ some k_ ≠ ((.slice Ao33 t231.length co33) : Value).ownBlock ∧ k_ ≠ gb216 ∧ k_ ≠ gb227 ∧ k_ ≠ gb236) (.slice Ao21 t222.length co21) t222) ∧ aA (Kd.N (Kd.slice 5 (Kd.int .u8)) 37 w' w.heap.size (fun k_ => some k_ ≠ ((.slice Ao11 t208.length co11) : Value).ownBlock ∧ some k_ ≠ ((.slice Ao13 t211.length co13) : Value).ownBlock ∧ some k_ ≠ ((.slice Ao19 t219.length co19) : Value).ownBlock ∧ some k_ ≠ ((.slice Ao21 t222.length co21) : Value).ownBlock ∧ some k_ ≠ ((.slice Ao33 t231.length co33) : Value).ownBlock ∧ k_ ≠ gb216 ∧ k_ ≠ gb227 ∧ k_ ≠ gb236) (.slice Ao29 t228.length co29) t228) ∧ aA (Kd.N k50 50 w' w.heap.size (fun k_ => some k_ ≠ ((.slice Ao11 t208.length co11) : Value).ownBlock ∧ some k_ ≠ ((.slice Ao13 t211.length co13) : Value).ownBlock ∧ some k_ ≠ ((.slice Ao19 t219.length co19) : Value).ownBlock ∧ some k_ ≠ ((.slice Ao21 t222.length co21) : Value).ownBlock ∧ some k_ ≠ ((.slice Ao29 t228.length co29) : Value).ownBlock ∧ k_ ≠ gb216 ∧ k_ ≠ gb227 ∧ k_ ≠ gb236) (.slice Ao33 t231.length co33) t231) ∧ aA (w'.heap[gb216]? = some (.cells #[(.slice Ao11 t208.length co11), (.slice Ao13 t211.length co13), .int .i64 t214, .bool t215] 25 (0, 0))) ∧ aA (w'.heap[gb227]? = some (.cells #[(.slice Ao19 t219.length co19), (.slice Ao21 t222.length co21), .int .i64 t225, .bool t226] 25 (0, 0))) ∧ aA (w'.heap[gb236]? = some (.cells #[(.slice Ao29 t228.length co29), (.slice Ao33 t231.length co33), .int .i64 t234, .bool t235] 25 (0, 0))) ∧ aA (Below w.heap.size w w'))
  case atStart => exact ⟨(0), (by first | rfl | (simp; done) | (simp [*]; done)), H', ⟨Nat.le_refl _⟩, ⟨by (with_reducible repeat (first | apply Kd.aY | apply Kd.aX | apply Kd.aV)); exact Kd.bA (Kd.bK (p := ⟨gb236, 3, none⟩) (Kd.bK (p := ⟨gb236, 2, none⟩) (Kd.bK (p := ⟨gb236, 1, none⟩) (Kd.bK (p := ⟨gb236, 0, none⟩) (Kd.bA HO210.out (fun k_ hk => (⟨hk, hk.2⟩ : _ ∧ k_ ≠ gb236))) (fun _ hk => hk.2) (.slice Ao29 t228.length co29)) (fun _ hk => hk.2) (.slice Ao33 t231.length co33)) (fun _ hk => hk.2) (.int .i64 t234)) (fun _ hk => hk.2) (.bool t235)) (fun _ hk => ⟨hk.1.1.1.1.1, ⟨hk.1.1.1.1.2.1, ⟨hk.1.1.1.1.2.2.1, ⟨hk.1.1.1.2, ⟨hk.1.1.2, ⟨hk.1.1.1.1.2.2.2.1, ⟨hk.1.1.1.1.2.2.2.2, hk.1.2⟩⟩⟩⟩⟩⟩⟩)⟩, ⟨by (with_reducible repeat (first | apply Kd.aY | apply Kd.aX | apply Kd.aV)); exact Kd.bA (Kd.bK (p := ⟨gb236, 3, none⟩) (Kd.bK (p := ⟨gb236, 2, none⟩) (Kd.bK (p := ⟨gb236, 1, none⟩) (Kd.bK (p := ⟨gb236, 0, none⟩) (Kd.bA HO213.out (fun k_ hk => (⟨hk, hk.2⟩ : _ ∧ k_ ≠ gb236))) (fun _ hk => hk.2) (.slice Ao29 t228.length co29)) (fun _ hk => hk.2) (.slice Ao33 t231.length co33)) (fun _ hk => hk.2) (.int .i64 t234)) (fun _ hk => hk.2) (.bool t235)) (fun _ hk => ⟨hk.1.1.1.1.1, ⟨hk.1.1.1.1.2.1, ⟨hk.1.1.1.1.2.2.1, ⟨hk.1.1.1.2, ⟨hk.1.1.2, ⟨hk.1.1.1.1.2.2.2.1, ⟨hk.1.1.1.1.2.2.2.2, hk.1.2⟩⟩⟩⟩⟩⟩⟩)⟩, ⟨by (with_reducible repeat (first | apply Kd.aY | apply Kd.aX | apply Kd.aV)); exact Kd.bA (Kd.bK (p := ⟨gb236, 3, none⟩) (Kd.bK (p := ⟨gb236, 2, none⟩) (Kd.bK (p := ⟨gb236, 1, none⟩) (Kd.bK (p := ⟨gb236, 0, none⟩) (Kd.bA HO221.out (fun k_ hk => (⟨hk, hk.2⟩ : _ ∧ k_ ≠ gb236))) (fun _ hk => hk.2) (.slice Ao29 t228.length co29)) (fun _ hk => hk.2) (.slice Ao33 t231.length co33)) (fun _ hk => hk.2) (.int .i64 t234)) (fun _ hk => hk.2) (.bool t235)) (fun _ hk => ⟨hk.1.1.1.1.1, ⟨hk.1.1.1.1.2.1, ⟨hk.1.1.1.1.2.2.1, ⟨hk.1.1.1.2, ⟨hk.1.1.2, ⟨hk.1.1.1.1.2.2.2.1, ⟨hk.1.1.1.1.2.2.2.2, hk.1.2⟩⟩⟩⟩⟩⟩⟩)⟩, ⟨by (with_reducible repeat (first | apply Kd.aY | apply Kd.aX | apply Kd.aV)); exact Kd.bA (Kd.bK (p := ⟨gb236, 3, none⟩) (Kd.bK (p := ⟨gb236, 2, none⟩) (Kd.bK (p := ⟨gb236, 1, none⟩) (Kd.bK (p := ⟨gb236, 0, none⟩) (Kd.bA HO224.out (fun k_ hk => (⟨hk, hk.2⟩ : _ ∧ k_ ≠ gb236))) (fun _ hk => hk.2) (.slice Ao29 t228.length co29)) (fun _ hk => hk.2) (.slice Ao33 t231.length co33)) (fun _ hk => hk.2) (.int .i64 t234)) (fun _ hk => hk.2) (.bool t235)) (fun _ hk => ⟨hk.1.1.1.1.1, ⟨hk.1.1.1.1.2.1, ⟨hk.1.1.1.1.2.2.1, ⟨hk.1.1.1.2, ⟨hk.1.1.2, ⟨hk.1.1.1.1.2.2.2.1, ⟨hk.1.1.1.1.2.2.2.2, hk.1.2⟩⟩⟩⟩⟩⟩⟩)⟩, ⟨by (with_reducible repeat (first | apply Kd.aY | apply Kd.aX | apply Kd.aV)); exact Kd.bA (Kd.bK (p := ⟨gb236, 3, none⟩) (Kd.bK (p := ⟨gb236, 2, none⟩) (Kd.bK (p := ⟨gb236, 1, none⟩) (Kd.bK (p := ⟨gb236, 0, none⟩) (Kd.bA HO230.out (fun k_ hk => (⟨hk, hk.2⟩ : _ ∧ k_ ≠ gb236))) (fun _ hk => hk.2) (.slice Ao29 t228.length co29)) (fun _ hk => hk.2) (.slice Ao33 t231.length co33)) (fun _ hk => hk.2) (.int .i64 t234)) (fun _ hk => hk.2) (.bool t235)) (fun _ hk => ⟨hk.1.1.2.1, ⟨hk.1.1.2.2.1, ⟨hk.1.1.2.2.2.1, ⟨hk.1.1.2.2.2.2.1, ⟨hk.1.1.1, ⟨hk.1.1.2.2.2.2.2.1, ⟨hk.1.1.2.2.2.2.2.2, hk.1.2⟩⟩⟩⟩⟩⟩⟩)⟩, ⟨by (with_reducible repeat (first | apply Kd.aY | apply Kd.aX | apply Kd.aV)); exact Kd.bA (Kd.bK (p := ⟨gb236, 3, none⟩) (Kd.bK (p := ⟨gb236, 2, none⟩) (Kd.bK (p := ⟨gb236, 1, none⟩) (Kd.bK (p := ⟨gb236, 0, none⟩) (Kd.bA HO233.out (fun k_ hk => (⟨hk, hk.2⟩ : _ ∧ k_ ≠ gb236))) (fun _ hk => hk.2) (.slice Ao29 t228.length co29)) (fun _ hk => hk.2) (.slice Ao33 t231.length co33)) (fun _ hk => hk.2) (.int .i64 t234)) (fun _ hk => hk.2) (.bool t235)) (fun _ hk => ⟨hk.1.1.2.1, ⟨hk.1.1.2.2.1, ⟨hk.1.1.2.2.2.1, ⟨hk.1.1.2.2.2.2.1, ⟨hk.1.1.1, ⟨hk.1.1.2.2.2.2.2.1, ⟨hk.1.1.2.2.2.2.2.2, hk.1.2⟩⟩⟩⟩⟩⟩⟩)⟩, ⟨by (with_reducible repeat (first | refine aQ ?_ _ | refine aN ?_ | refine aH ?_ _)); refine blk_far ?_ NB216_236.out _; (with_reducible repeat (first | refine aQ ?_ _ | refine aN ?_ | refine aH ?_ _)); refine blk_far ?_ NB216_236.out _; (with_reducible repeat (first | refine aQ ?_ _ | refine aN ?_ | refine aH ?_ _)); refine blk_far ?_ NB216_236.out _; (with_reducible repeat (first | refine aQ ?_ _ | refine aN ?_ | refine aH ?_ _)); refine blk_far ?_ NB216_236.out _; (with_reducible repeat (first | refine aQ ?_ _ | refine aN ?_ | refine aH ?_ _)); exact BK216.out⟩, ⟨by (with_reducible repeat (first | refine aQ ?_ _ | refine aN ?_ | refine aH ?_ _)); refine blk_far ?_ NB227_236.out _; (with_reducible repeat (first | refine aQ ?_ _ | refine aN ?_ | refine aH ?_ _)); refine blk_far ?_ NB227_236.out _; (with_reducible repeat (first | refine aQ ?_ _ | refine aN ?_ | refine aH ?_ _)); refine blk_far ?_ NB227_236.out _; (with_reducible repeat (first | refine aQ ?_ _ | refine aN ?_ | refine aH ?_ _)); refine blk_far ?_ NB227_236.out _; (with_reducible repeat (first | refine aQ ?_ _ | refine aN ?_ | refine aH ?_ _)); exact BK227.out⟩, ⟨by (with_reducible repeat (first | refine aQ ?_ _ | refine aN ?_ | refine aH ?_ _)); refine bE (cs := #[.slice Ao29 t228.length co29, .slice Ao33 t231.length co33, .int .i64 t234, .bool false]) ?_ 3 _ rfl; (with_reducible repeat (first | refine aQ ?_ _ | refine aN ?_ | refine aH ?_ _)); refine bE (cs := #[.slice Ao29 t228.length co29, .slice Ao33 t231.length co33, .int .i64 0, .bool false]) ?_ 2 _ rfl; (with_reducible repeat (first | refine aQ ?_ _ | refine aN ?_ | refine aH ?_ _)); refine bE (cs := #[.slice Ao29 t228.length co29, .slice none 0 0, .int .i64 0, .bool false]) ?_ 1 _ rfl; (with_reducible repeat (first | refine aQ ?_ _ | refine aN ?_ | refine aH ?_ _)); refine bE (cs := #[.slice none 0 0, .slice none 0 0, .int .i64 0, .bool false]) ?_ 0 _ rfl; (with_reducible repeat (first | refine aQ ?_ _ | refine aN ?_ | refine aH ?_ _)); exact BK236.out⟩, ⟨by repeat (first | (with_reducible first | exact HB.out | apply aM | apply aG | apply aJ | refine aE ?_ GE216.out | refine aE ?_ GE227.out | refine aE ?_ GE236.out) | exact HB.out)⟩⟩
  case round =>
   clear H'
   try clear c1
   try clear c2
   try clear p2
   try clear c3
   try clear p6
   try clear c10
   try clear c25
   try clear c30
   try clear c31
   try clear c32
   try clear c33
   try clear hcz12_0
   try clear hcz12_1
   try clear hcz12_2
   try clear hcz12_3
   try clear hcz26_0
   try clear hcz26_1
   try clear hcz26_2
   try clear hcz26_3
   try clear hcz32_0
   try clear hcz32_1
   try clear hcz32_2
   try clear hcz32_3
   try clear hfz12_0
   try clear hfz12_1
   try clear hfz12_2
   try clear hfz12_3
   try clear hfz26_0
   try clear hfz26_1
   try clear hfz26_2
   try clear hfz26_3
   try clear hfz32_0
   try clear hfz32_1
   try clear hfz32_2
   try clear hfz32_3
   obtain ⟨x6_1, rfl, HA, HK1, HO_217000, HO_217001, HO_228000, HO_228001, HO_237000, HO_237001, BK216, BK227, BK236, HB⟩ := hrel
   cases gk with
   | zero => exact absurd HA.out (by simp [laws_FnFalls.l0])
   | succ k1 =>
    have H := HA.out
    clear HA
    simp only [laws_FnFalls.l0] at H
    by_cases c34 : x6_1 < (t208.length : Int)
    ·rw [if_pos c34] at H
     have c34b0 : decide (x6_1 < (t208.length : Int)) = true := decide_eq_true c34
     clear c34
     by_cases c35 : 0 ≤ x6_1
     ·rw [if_pos c35] at H
      have c35b0 : decide (0 ≤ x6_1) = true := decide_eq_true c35
      clear c35
      by_cases c36 : x6_1 < (t219.length : Int)
      ·rw [if_pos c36] at H
       have c36b0 : decide (x6_1 < (t219.length : Int)) = true := decide_eq_true c36
       clear c36
       have H' := aA.mk H
       clear H
       have hnb37 := NB216_227.out
       have hnc37 := NB227_216.out
       have hnb38 := NB216_236.out
       have hnc38 := NB236_216.out
       have hcz39_0 : wr.cell? ⟨gb216, 0, none⟩ = some (.slice Ao11 t208.length co11) := (aD BK216.out 0).trans rfl
       have hcz39_1 : wr.cell? ⟨gb216, 1, none⟩ = some (.slice Ao13 t211.length co13) := (aD BK216.out 1).trans rfl
       have hcz39_2 : wr.cell? ⟨gb216, 2, none⟩ = some (.int .i64 t214) := (aD BK216.out 2).trans rfl
       have hcz39_3 : wr.cell? ⟨gb216, 3, none⟩ = some (.bool t215) := (aD BK216.out 3).trans rfl
       have hfz39_0 := aC BK216.out 0
       have hfz39_1 := aC BK216.out 1
       have hfz39_2 := aC BK216.out 2
       have hfz39_3 := aC BK216.out 3
       try go_wp2
       have n0_ := aA.mk (Kd.aV HO_217000.out)
       have n1_ := aA.mk (Kd.aV HO_217001.out)
       have n2_ := aA.mk (Kd.aV HO_228000.out)
       have n3_ := aA.mk (Kd.aV HO_228001.out)
       have n4_ := aA.mk (Kd.aV HO_237000.out)
       have n5_ := aA.mk (Kd.aV HO_237001.out)
       have n6_ := aA.mk (aN BK216.out)
       have n7_ := aA.mk (aN BK227.out)
       have n8_ := aA.mk (aN BK236.out)
       have n9_ := aA.mk (aJ HB.out)
       clear HO_217000
       clear HO_217001
       clear HO_228000
       clear HO_228001
       clear HO_237000
       clear HO_237001
       clear BK216
       clear BK227
       clear BK236
       clear HB
       have HO_217000 := n0_
       have HO_217001 := n1_
       have HO_228000 := n2_
       have HO_228001 := n3_
       have HO_237000 := n4_
       have HO_237001 := n5_
       have BK216 := n6_
       have BK227 := n7_
       have BK236 := n8_
       have HB := n9_
       clear n0_ n1_ n2_ n3_ n4_ n5_ n6_ n7_ n8_ n9_
       have p238 : 0 ≤ (x6_1 : Int) := lE (by first | (with_reducible assumption) | assumption)
       have q238 : x6_1 < (t219.length : Int) := lE (by first | (with_reducible assumption) | assumption)
       obtain ⟨ad238, A238_0, c238_0, e238, hx238_0, hl238_0, hi238_0⟩ := at_L1 (Kd.N_reads' HO_228000.out).2.2 x6_1 p238 q238
       cases e238
       obtain ⟨ce238, hce238, hMe238, hcc238⟩ := Kd.N_get HO_228000.out [] x6_1 p238 (by first | exact q238 | exact lE (by first | (with_reducible assumption) | assumption) | (have e_ := (Kd.N_reads' HO_228000.out).1; omega))
       obtain ⟨ua238_0, uc238_0, rfl, ul238_0, ge238_0⟩ := Kd.FK_slice_open hMe238
       have hv238_0 := hcc238 0 _ rfl
       rw [Nat.add_zero, show ((Kd.slice 5 (Kd.int .u8))).sz = 1 from rfl, Nat.mul_one] at hv238_0
       replace hv238_0 := Option.some.inj (hv238_0.symm.trans hx238_0)
       injection hv238_0 with hva_ hvn_ hvc_
       rw [hva_] at ge238_0
       rw [hvc_] at ul238_0
       have HL238_0 := aA.mk (show Kd.V (Kd.int .u8) 5 _ w.heap.size _ _ (rd_L1 t219 x6_1) from Kd.V_mk ul238_0 ge238_0)
       clear hva_ hvn_ hvc_ ge238_0 ul238_0
       clear hcc238 hce238
       have HR238_0 := aA.mk hi238_0
       have HC238_0 := aA.mk hl238_0
       clear hi238_0 hl238_0
       replace p238 := eq_true p238
       replace q238 := eq_true q238
       have p239 : 0 ≤ (x6_1 : Int) := lE (by first | (with_reducible assumption) | assumption)
       have q239 : x6_1 < (t208.length : Int) := lE (by first | (with_reducible assumption) | assumption)
       obtain ⟨ad239, A239_0, c239_0, e239, hx239_0, hl239_0, hi239_0⟩ := at_L1 (Kd.N_reads' HO_217000.out).2.2 x6_1 p239 q239
       cases e239
       obtain ⟨ce239, hce239, hMe239, hcc239⟩ := Kd.N_get HO_217000.out [] x6_1 p239 (by first | exact q239 | exact lE (by first | (with_reducible assumption) | assumption) | (have e_ := (Kd.N_reads' HO_217000.out).1; omega))
       obtain ⟨ua239_0, uc239_0, rfl, ul239_0, ge239_0⟩ := Kd.FK_slice_open hMe239
       have hv239_0 := hcc239 0 _ rfl
       rw [Nat.add_zero, show ((Kd.slice 5 (Kd.int .u8))).sz = 1 from rfl, Nat.mul_one] at hv239_0
       replace hv239_0 := Option.some.inj (hv239_0.symm.trans hx239_0)
       injection hv239_0 with hva_ hvn_ hvc_
       rw [hva_] at ge239_0
       rw [hvc_] at ul239_0
       have HL239_0 := aA.mk (show Kd.V (Kd.int .u8) 5 _ w.heap.size _ _ (rd_L1 t208 x6_1) from Kd.V_mk ul239_0 ge239_0)
       clear hva_ hvn_ hvc_ ge239_0 ul239_0
       clear hcc239 hce239
       have HR239_0 := aA.mk hi239_0
       have HC239_0 := aA.mk hl239_0
       clear hi239_0 hl239_0
       replace p239 := eq_true p239
       replace q239 := eq_true q239
       have hcv41 := Kd.C_string (P := Try.prog) (A := A238_0) (c := c238_0) Try.underlying37 Try.underlying5 Try.underlying9 (by repeat (first | (with_reducible exact HR238_0.out) | (with_reducible refine Kd.C_alloc ?_ _) | (with_reducible refine Kd.C_drewN ?_ _) | (with_reducible refine Kd.C_drew ?_) | exact HR238_0.out))
       have hcv42 := Kd.C_string (P := Try.prog) (A := A239_0) (c := c239_0) Try.underlying37 Try.underlying5 Try.underlying9 (by repeat (first | (with_reducible exact HR239_0.out) | (with_reducible refine Kd.C_alloc ?_ _) | (with_reducible refine Kd.C_drewN ?_ _) | (with_reducible refine Kd.C_drew ?_) | exact HR239_0.out))
       refine start_ (n := 14) (S := fun w' => w'.cell? ⟨gb227, 0, none⟩ = some (.slice (some ad238) t219.length co19) ∧ w'.cell? ⟨gb227, 1, none⟩ = some (.slice Ao21 t222.length co21) ∧ w'.cell? ⟨gb227, 2, none⟩ = some (.int .i64 t225) ∧ w'.cell? ⟨gb227, 3, none⟩ = some (.bool t226) ∧ w'.cell? ⟨gb216, 0, none⟩ = some (.slice (some ad239) t208.length co11) ∧ w'.cell? ⟨gb216, 1, none⟩ = some (.slice Ao13 t211.length co13) ∧ w'.cell? ⟨gb216, 2, none⟩ = some (.int .i64 t214) ∧ w'.cell? ⟨gb216, 3, none⟩ = some (.bool t215) ∧ w'.cell? (ad238.add (x6_1).toNat) = some (.slice A238_0 (rd_L1 t219 x6_1).length c238_0) ∧ w'.cell? (ad239.add (x6_1).toNat) = some (.slice A239_0 (rd_L1 t208 x6_1).length c239_0) ∧ Kd.C (Kd.int .u8) w' A238_0 _ _ ∧ Kd.C (Kd.int .u8) w' A239_0 _ _) (ds := []) #[false, false, false, false, false, false, false, false, false, false, false, false, false, false] (by kernel_rfl) rfl rfl ⟨(aD BK227.out 0).trans rfl, (aD BK227.out 1).trans rfl, (aD BK227.out 2).trans rfl, (aD BK227.out 3).trans rfl, (aD BK216.out 0).trans rfl, (aD BK216.out 1).trans rfl, (aD BK216.out 2).trans rfl, (aD BK216.out 3).trans rfl, hx238_0, hx239_0, (by repeat (first | (with_reducible exact HR238_0.out) | (with_reducible refine Kd.C_alloc ?_ _) | (with_reducible refine Kd.C_drewN ?_ _) | (with_reducible refine Kd.C_drew ?_) | exact HR238_0.out)), (by repeat (first | (with_reducible exact HR239_0.out) | (with_reducible refine Kd.C_alloc ?_ _) | (with_reducible refine Kd.C_drewN ?_ _) | (with_reducible refine Kd.C_drew ?_) | exact HR239_0.out))⟩ (fun hHeld => ?_); refine with_tabW laws_FnFalls.tab9 laws_FnFalls.bits9 (fun HT_ HW_ => ?_)
       generalize wr.drew = w40 at HO_217000 HO_217001 HO_228000 HO_228001 HO_237000 HO_237001 BK216 BK227 BK236 HB HL238_0 HL239_0 HR238_0 HR239_0 hx238_0 hx239_0 hHeld ⊢
       refine bB (i := 0) (N := some 30) (v := ?_) (a' := ?_) #[true, false, false, false, false, false, false, false, false, false, false, false, false, false] rfl rfl (bC HT_.out (by kernel_rfl)) (fun _ _ _ h => h) (Or.inl ⟨by rfl, ?_⟩) ?_ ?_
       rotate_left
       ·intro w'
        go_simp
        with_reducible rfl
       rotate_left
       ·simp only [Act.put, lA, lB, lC, aU, aT]
        rfl
       refine bB (i := 2) (N := some 32) (v := ?_) (a' := ?_) #[true, false, true, false, false, false, false, false, false, false, false, false, false, false] rfl rfl (bC HT_.out (by kernel_rfl)) (fun _ _ _ h => h) (Or.inl ⟨by rfl, ?_⟩) ?_ ?_
       rotate_left
       ·intro w'
        go_simp
        with_reducible rfl
       rotate_left
       ·simp only [Act.put, lA, lB, lC, aU, aT]
        rfl
       refine bB (i := 6) (N := some 36) (v := ?_) (a' := ?_) #[true, false, true, false, false, false, true, false, false, false, false, false, false, false] rfl rfl (bC HT_.out (by kernel_rfl)) (fun _ _ _ h => h) (Or.inl ⟨by rfl, ?_⟩) ?_ ?_
       rotate_left
       ·intro w'
        go_simp
        with_reducible rfl
       rotate_left
       ·simp only [Act.put, lA, lB, lC, aU, aT]
        rfl
       refine bB (i := 8) (N := some 38) (v := ?_) (a' := ?_) #[true, false, true, false, false, false, true, false, true, false, false, false, false, false] rfl rfl (bC HT_.out (by kernel_rfl)) (fun _ _ _ h => h) (Or.inl ⟨by rfl, ?_⟩) ?_ ?_
       rotate_left
       ·intro w'
        go_simp
        with_reducible rfl
       rotate_left
       ·simp only [Act.put, lA, lB, lC, aU, aT]
        rfl
       refine take_ (i := 1) (N := some 31) (v := ?_) (a' := ?_) #[true, true, true, false, false, false, true, false, true, false, false, false, false, false] rfl rfl (take_ofW HT_.out HW_.out (by kernel_rfl)) (fun _ _ _ h => h) (Or.inl ⟨by rfl, ?_⟩) hHeld ?_ ?_
       rotate_left
       ·rintro w' ⟨s0, s1, s2, s3, s4, s5, s6, s7, s8, s9, sC0_, sC1_⟩
        go_simp
        with_reducible rfl
       rotate_left
       ·simp only [Act.put, lA, lB, lC, aU, aT]
        rfl
       refine bB (i := 3) (N := some 33) (v := ?_) (a' := ?_) #[true, true, true, true, false, false, true, false, true, false, false, false, false, false] rfl rfl (bC HT_.out (by kernel_rfl)) (fun _ _ _ h => h) (Or.inl ⟨by rfl, ?_⟩) ?_ ?_
       rotate_left
       ·intro w'
        go_simp
        with_reducible rfl
       rotate_left
       ·simp only [Act.put, lA, lB, lC, aU, aT]
        rfl
       refine take_ (i := 4) (N := some 34) (v := ?_) (a' := ?_) #[true, true, true, true, true, false, true, false, true, false, false, false, false, false] rfl rfl (take_ofW HT_.out HW_.out (by kernel_rfl)) (fun _ _ _ h => h) (Or.inl ⟨by rfl, ?_⟩) hHeld ?_ ?_
       rotate_left
       ·rintro w' ⟨s0, s1, s2, s3, s4, s5, s6, s7, s8, s9, sC0_, sC1_⟩
        go_simp
        with_reducible rfl
       rotate_left
       ·simp only [Act.put, lA, lB, lC, aU, aT]
        rfl
       refine take_ (i := 5) (N := some 35) (v := ?_) (a' := ?_) #[true, true, true, true, true, true, true, false, true, false, false, false, false, false] rfl rfl (take_ofW HT_.out HW_.out (by kernel_rfl)) (fun _ _ _ h => h) (Or.inl ⟨by rfl, ?_⟩) hHeld ?_ ?_
       rotate_left
       ·rintro w' ⟨s0, s1, s2, s3, s4, s5, s6, s7, s8, s9, sC0_, sC1_⟩
        have hcv_ := Kd.C_string (P := Try.prog) (A := A238_0) (c := c238_0) Try.underlying37 Try.underlying5 Try.underlying9 sC0_
        go_simp
        with_reducible rfl
       rotate_left
       ·simp only [Act.put, lA, lB, lC, aU, aT]
        rfl
       refine take_ (i := 7) (N := some 37) (v := ?_) (a' := ?_) #[true, true, true, true, true, true, true, true, true, false, false, false, false, false] rfl rfl (take_ofW HT_.out HW_.out (by kernel_rfl)) (fun _ _ _ h => h) (Or.inl ⟨by rfl, ?_⟩) hHeld ?_ ?_
       rotate_left
       ·rintro w' ⟨s0, s1, s2, s3, s4, s5, s6, s7, s8, s9, sC0_, sC1_⟩
        go_simp
        with_reducible rfl
       rotate_left
       ·simp only [Act.put, lA, lB, lC, aU, aT]
        rfl
       refine bB (i := 9) (N := some 39) (v := ?_) (a' := ?_) #[true, true, true, true, true, true, true, true, true, true, false, false, false, false] rfl rfl (bC HT_.out (by kernel_rfl)) (fun _ _ _ h => h) (Or.inl ⟨by rfl, ?_⟩) ?_ ?_
       rotate_left
       ·intro w'
        go_simp
        with_reducible rfl
       rotate_left
       ·simp only [Act.put, lA, lB, lC, aU, aT]
        rfl
       refine take_ (i := 10) (N := some 40) (v := ?_) (a' := ?_) #[true, true, true, true, true, true, true, true, true, true, true, false, false, false] rfl rfl (take_ofW HT_.out HW_.out (by kernel_rfl)) (fun _ _ _ h => h) (Or.inl ⟨by rfl, ?_⟩) hHeld ?_ ?_
       rotate_left
       ·rintro w' ⟨s0, s1, s2, s3, s4, s5, s6, s7, s8, s9, sC0_, sC1_⟩
        go_simp
        with_reducible rfl
       rotate_left
       ·simp only [Act.put, lA, lB, lC, aU, aT]
        rfl
       refine take_ (i := 11) (N := some 41) (v := ?_) (a' := ?_) #[true, true, true, true, true, true, true, true, true, true, true, true, false, false] rfl rfl (take_ofW HT_.out HW_.out (by kernel_rfl)) (fun _ _ _ h => h) (Or.inl ⟨by rfl, ?_⟩) hHeld ?_ ?_
       rotate_left
       ·rintro w' ⟨s0, s1, s2, s3, s4, s5, s6, s7, s8, s9, sC0_, sC1_⟩
        have hcv_ := Kd.C_string (P := Try.prog) (A := A239_0) (c := c239_0) Try.underlying37 Try.underlying5 Try.underlying9 sC1_
        go_simp
        with_reducible rfl
       rotate_left
       ·simp only [Act.put, lA, lB, lC, aU, aT]
        rfl
       refine bB (i := 12) (N := some 42) (v := ?_) (a' := ?_) #[true, true, true, true, true, true, true, true, true, true, true, true, true, false] rfl rfl (bC HT_.out (by kernel_rfl)) (fun _ _ _ h => h) (Or.inl ⟨by rfl, ?_⟩) ?_ ?_
       rotate_left
       ·intro w'
        go_simp
        with_reducible rfl
       rotate_left
       ·simp only [Act.put, lA, lB, lC, aU, aT]
        rfl
       refine bB (i := 13) (N := some 7) (v := ?_) (a' := ?_) #[true, true, true, true, true, true, true, true, true, true, true, true, true, true] rfl rfl (bC HT_.out (by kernel_rfl)) (fun _ _ _ h => h) (Or.inl ⟨by rfl, ?_⟩) ?_ ?_
       rotate_left
       ·intro w'
        go_simp
        with_reducible rfl
       rotate_left
       ·simp only [Act.put, lA, lB, lC, aU, aT]
        rfl
       refine done_ (done_of HT_.out (by kernel_rfl)) ?_
       try go_wp2
       go_loopg [7, 8] k1 (fun kq v7 v8 w' => ∃ (x7_2 : Bool) (x8_2 : Int), v7 = .bool x7_2 ∧ v8 = .int .i64 x8_2 ∧ aA (laws_FnFalls.l1 kq x6_1 x7_2 x8_2 t208 t211 t214 t215 t219 t222 t225 t226 t228 t231 t234 t235 = some r) ∧ aA (kq ≤ k1) ∧ aA (Kd.N (Kd.slice 5 (Kd.int .u8)) 37 w' w.heap.size (fun k_ => some k_ ≠ ((.slice Ao13 t211.length co13) : Value).ownBlock ∧ some k_ ≠ ((.slice (some ad238) t219.length co19) : Value).ownBlock ∧ some k_ ≠ ((.slice Ao21 t222.length co21) : Value).ownBlock ∧ some k_ ≠ ((.slice Ao29 t228.length co29) : Value).ownBlock ∧ some k_ ≠ ((.slice Ao33 t231.length co33) : Value).ownBlock ∧ k_ ≠ gb216 ∧ k_ ≠ gb227 ∧ k_ ≠ gb236) (.slice (some ad239) t208.length co11) t208) ∧ aA (Kd.N k50 50 w' w.heap.size (fun k_ => some k_ ≠ ((.slice (some ad239) t208.length co11) : Value).ownBlock ∧ some k_ ≠ ((.slice (some ad238) t219.length co19) : Value).ownBlock ∧ some k_ ≠ ((.slice Ao21 t222.length co21) : Value).ownBlock ∧ some k_ ≠ ((.slice Ao29 t228.length co29) : Value).ownBlock ∧ some k_ ≠ ((.slice Ao33 t231.length co33) : Value).ownBlock ∧ k_ ≠ gb216 ∧ k_ ≠ gb227 ∧ k_ ≠ gb236) (.slice Ao13 t211.length co13) t211) ∧ aA (Kd.N (Kd.slice 5 (Kd.int .u8)) 37 w' w.heap.size (fun k_ => some k_ ≠ ((.slice (some ad239) t208.length co11) : Value).ownBlock ∧ some k_ ≠ ((.slice Ao13 t211.length co13) : Value).ownBlock ∧ some k_ ≠ ((.slice Ao21 t222.length co21) : Value).ownBlock ∧ some k_ ≠ ((.slice Ao29 t228.length co29) : Value).ownBlock ∧ some k_ ≠ ((.slice Ao33 t231.length co33) : Value).ownBlock ∧ k_ ≠ gb216 ∧ k_ ≠ gb227 ∧ k_ ≠ gb236) (.slice (some ad238) t219.length co19) t219) ∧ aA (Kd.N k50 50 w' w.heap.size (fun k_ => some k_ ≠ ((.slice (some ad239) t208.length co11) : Value).ownBlock ∧ some k_ ≠ ((.slice Ao13 t211.length co13) : Value).ownBlock ∧ some k_ ≠ ((.slice (some ad238) t219.length co19) : Value).ownBlock ∧ some k_ ≠ ((.slice Ao29 t228.length co29) : Value).ownBlock ∧ some k_ ≠ ((.slice Ao33 t231.length co33) : Value).ownBlock ∧ k_ ≠ gb216 ∧ k_ ≠ gb227 ∧ k_ ≠ gb236) (.slice Ao21 t222.length co21) t222) ∧ aA (Kd.N (Kd.slice 5 (Kd.int .u8)) 37 w' w.heap.size (fun k_ => some k_ ≠ ((.slice (some ad239) t208.length co11) : Value).ownBlock ∧ some k_ ≠ ((.slice Ao13 t211.length co13) : Value).ownBlock ∧ some k_ ≠ ((.slice (some ad238) t219.length co19) : Value).ownBlock ∧ some k_ ≠ ((.slice Ao21 t222.length co21) : Value).ownBlock ∧ some k_ ≠ ((.slice Ao33 t231.length co33) : Value).ownBlock ∧ k_ ≠ gb216 ∧ k_ ≠ gb227 ∧ k_ ≠ gb236) (.slice Ao29 t228.length co29) t228) ∧ aA (Kd.N k50 50 w' w.heap.size (fun k_ => some k_ ≠ ((.slice (some ad239) t208.length co11) : Value).ownBlock ∧ some k_ ≠ ((.slice Ao13 t211.length co13) : Value).ownBlock ∧ some k_ ≠ ((.slice (some ad238) t219.length co19) : Value).ownBlock ∧ some k_ ≠ ((.slice Ao21 t222.length co21) : Value).ownBlock ∧ some k_ ≠ ((.slice Ao29 t228.length co29) : Value).ownBlock ∧ k_ ≠ gb216 ∧ k_ ≠ gb227 ∧ k_ ≠ gb236) (.slice Ao33 t231.length co33) t231) ∧ aA (w'.heap[gb216]? = some (.cells #[(.slice (some ad239) t208.length co11), (.slice Ao13 t211.length co13), .int .i64 t214, .bool t215] 25 (0, 0))) ∧ aA (w'.heap[gb227]? = some (.cells #[(.slice (some ad238) t219.length co19), (.slice Ao21 t222.length co21), .int .i64 t225, .bool t226] 25 (0, 0))) ∧ aA (w'.heap[gb236]? = some (.cells #[(.slice Ao29 t228.length co29), (.slice Ao33 t231.length co33), .int .i64 t234, .bool t235] 25 (0, 0))) ∧ aA (Below w.heap.size w w'))
       case atStart => exact ⟨(((strOfNums (rd_L1 t219 x6_1)).toList == (strOfNums (rd_L1 t208 x6_1)).toList)), (0), (by first | rfl | (simp; done) | (simp [*]; done)), (by first | rfl | (simp; done) | (simp [*]; done)), H', ⟨Nat.le_refl _⟩, ⟨by (with_reducible repeat (first | apply Kd.aY | apply Kd.aX | apply Kd.aV)); exact HO_217000.out⟩, ⟨by (with_reducible repeat (first | apply Kd.aY | apply Kd.aX | apply Kd.aV)); exact HO_217001.out⟩, ⟨by (with_reducible repeat (first | apply Kd.aY | apply Kd.aX | apply Kd.aV)); exact HO_228000.out⟩, ⟨by (with_reducible repeat (first | apply Kd.aY | apply Kd.aX | apply Kd.aV)); exact HO_228001.out⟩, ⟨by (with_reducible repeat (first | apply Kd.aY | apply Kd.aX | apply Kd.aV)); exact HO_237000.out⟩, ⟨by (with_reducible repeat (first | apply Kd.aY | apply Kd.aX | apply Kd.aV)); exact HO_237001.out⟩, ⟨by (with_reducible repeat (first | refine aQ ?_ _ | refine aN ?_ | refine aH ?_ _)); exact BK216.out⟩, ⟨by (with_reducible repeat (first | refine aQ ?_ _ | refine aN ?_ | refine aH ?_ _)); exact BK227.out⟩, ⟨by (with_reducible repeat (first | refine aQ ?_ _ | refine aN ?_ | refine aH ?_ _)); exact BK236.out⟩, ⟨by repeat (first | (with_reducible first | exact HB.out | apply aM | apply aG | apply aJ | refine aE ?_ GE216.out | refine aE ?_ GE227.out | refine aE ?_ GE236.out) | exact HB.out)⟩⟩
       case round =>
        clear H'
        try clear c1
        try clear c2
        try clear p2
        try clear q2
        try clear hx2
        try clear c3
        try clear hcv4
        try clear p6
        try clear c10
        try clear c23
        try clear p23
        try clear q23
        try clear hx23
        try clear c25
        try clear c30
        try clear c31
        try clear c32
        try clear c33
        try clear c34
        try clear c34b0
        try clear c35
        try clear c35b0
        try clear c36
        try clear c36b0
        try clear c37
        try clear c38
        try clear hcv41
        try clear hcv42
        try clear hcz12_0
        try clear hcz12_1
        try clear hcz12_2
        try clear hcz12_3
        try clear hcz26_0
        try clear hcz26_1
        try clear hcz26_2
        try clear hcz26_3
        try clear hcz32_0
        try clear hcz32_1
        try clear hcz32_2
        try clear hcz32_3
        try clear hcz39_0
        try clear hcz39_1
        try clear hcz39_2
        try clear hcz39_3
        try clear hfz12_0
        try clear hfz12_1
        try clear hfz12_2
        try clear hfz12_3
        try clear hfz26_0
        try clear hfz26_1
        try clear hfz26_2
        try clear hfz26_3
        try clear hfz32_0
        try clear hfz32_1
        try clear hfz32_2
        try clear hfz32_3
        try clear hfz39_0
        try clear hfz39_1
        try clear hfz39_2
        try clear hfz39_3
        try clear hx238_0
        try clear hx239_0
        try clear p2
        try clear p238
        try clear p239
        try clear p6
        try clear q238
        try clear q239
        obtain ⟨x7_2, x8_2, rfl, rfl, HA, HK2, HO_217000, HO_217001, HO_228000, HO_228001, HO_237000, HO_237001, BK216, BK227, BK236, HB⟩ := hrel
        cases gk with
        | zero => exact absurd HA.out (by simp [laws_FnFalls.l1])
        | succ k2 =>
         have H := HA.out
         clear HA
         simp only [laws_FnFalls.l1] at H
         by_cases c44 : x8_2 < (t211.length : Int)
         ·rw [if_pos c44] at H
          have c44b0 : decide (x8_2 < (t211.length : Int)) = true := decide_eq_true c44
          clear c44
          by_cases c45 : x7_2 = true
          ·subst c45
           have H1 : (laws_FnFalls.l1 k2 x6_1 true (wrap64 (x8_2 + 1)) t208 t211 t214 t215 t219 t222 t225 t226 t228 t231 t234 t235) = some r := by rw [if_pos rfl] at H; exact H
           clear H
           have H := H1
           clear H1
           have H' := aA.mk H
           clear H
           have hnb46 := NB216_227.out
           have hnc46 := NB227_216.out
           have hnb47 := NB216_236.out
           have hnc47 := NB236_216.out
           have hcz48_0 : wr.cell? ⟨gb216, 0, none⟩ = some (.slice (some ad239) t208.length co11) := (aD BK216.out 0).trans rfl
           have hcz48_1 : wr.cell? ⟨gb216, 1, none⟩ = some (.slice Ao13 t211.length co13) := (aD BK216.out 1).trans rfl
           have hcz48_2 : wr.cell? ⟨gb216, 2, none⟩ = some (.int .i64 t214) := (aD BK216.out 2).trans rfl
           have hcz48_3 : wr.cell? ⟨gb216, 3, none⟩ = some (.bool t215) := (aD BK216.out 3).trans rfl
           have hfz48_0 := aC BK216.out 0
           have hfz48_1 := aC BK216.out 1
           have hfz48_2 := aC BK216.out 2
           have hfz48_3 := aC BK216.out 3
           try go_wp2
           have n0_ := aA.mk (Kd.aV HO_217000.out)
           have n1_ := aA.mk (Kd.aV HO_217001.out)
           have n2_ := aA.mk (Kd.aV HO_228000.out)
           have n3_ := aA.mk (Kd.aV HO_228001.out)
           have n4_ := aA.mk (Kd.aV HO_237000.out)
           have n5_ := aA.mk (Kd.aV HO_237001.out)
           have n6_ := aA.mk (aN BK216.out)
           have n7_ := aA.mk (aN BK227.out)
           have n8_ := aA.mk (aN BK236.out)
           have n9_ := aA.mk (aJ HB.out)
           clear HO_217000
           clear HO_217001
           clear HO_228000
           clear HO_228001
           clear HO_237000
           clear HO_237001
           clear BK216
           clear BK227
           clear BK236
           clear HB
           have HO_217000 := n0_
           have HO_217001 := n1_
           have HO_228000 := n2_
           have HO_228001 := n3_
           have HO_237000 := n4_
           have HO_237001 := n5_
           have BK216 := n6_
           have BK227 := n7_
           have BK236 := n8_
           have HB := n9_
           clear n0_ n1_ n2_ n3_ n4_ n5_ n6_ n7_ n8_ n9_
           refine start_ (n := 28) (S := fun w' => True) (ds := []) #[false, false, false, false, false, false, false, false, false, false, false, false, false, false, false, false, false, false, false, false, false, false, false, false, false, false, false, false] (by kernel_rfl) rfl rfl trivial (fun hHeld => ?_); refine with_tabW laws_FnFalls.tab13 laws_FnFalls.bits13 (fun HT_ HW_ => ?_)
           generalize wr.drew = w49 at HO_217000 HO_217001 HO_228000 HO_228001 HO_237000 HO_237001 BK216 BK227 BK236 HB hHeld ⊢
           refine bB (i := 0) (N := some 50) (v := ?_) (a' := ?_) #[true, false, false, false, false, false, false, false, false, false, false, false, false, false, false, false, false, false, false, false, false, false, false, false, false, false, false, false] rfl rfl (bC HT_.out (by kernel_rfl)) (fun _ _ _ h => h) (Or.inl ⟨by rfl, ?_⟩) ?_ ?_
           rotate_left
           ·intro w'
            go_simp
            with_reducible rfl
           rotate_left
           ·simp only [Act.put, lA, lB, lC, aU, aT]
            rfl
           refine bB (i := 1) (N := some 51) (v := ?_) (a' := ?_) #[true, true, false, false, false, false, false, false, false, false, false, false, false, false, false, false, false, false, false, false, false, false, false, false, false, false, false, false] rfl rfl (bC HT_.out (by kernel_rfl)) (fun _ _ _ h => h) (Or.inl ⟨by rfl, ?_⟩) ?_ ?_
           rotate_left
           ·intro w'
            go_simp
            with_reducible rfl
           rotate_left
           ·simp only [Act.put, lA, lB, lC, aU, aT]
            rfl
           refine bB (i := 2) (N := some 52) (v := undef) (a' := ?_) #[true, true, true, false, false, false, false, false, false, false, false, false, false, false, false, false, false, false, false, false, false, false, false, false, false, false, false, false] rfl rfl (bC HT_.out (by kernel_rfl)) (fun _ _ _ h => h) (Or.inr ⟨by rfl, rfl⟩) ?_ ?_
           rotate_left
           ·simp only [Act.put, lA, lB, lC, aU, aT]
            rfl
           refine bB (i := 3) (N := some 53) (v := undef) (a' := ?_) #[true, true, true, true, false, false, false, false, false, false, false, false, false, false, false, false, false, false, false, false, false, false, false, false, false, false, false, false] rfl rfl (bC HT_.out (by kernel_rfl)) (fun _ _ _ h => h) (Or.inr ⟨by rfl, rfl⟩) ?_ ?_
           rotate_left
           ·simp only [Act.put, lA, lB, lC, aU, aT]
            rfl
           refine bB (i := 4) (N := some 54) (v := undef) (a' := ?_) #[true, true, true, true, true, false, false, false, false, false, false, false, false, false, false, false, false, false, false, false, false, false, false, false, false, false, false, false] rfl rfl (bC HT_.out (by kernel_rfl)) (fun _ _ _ h => h) (Or.inr ⟨by rfl, rfl⟩) ?_ ?_
           rotate_left
           ·simp only [Act.put, lA, lB, lC, aU, aT]
            rfl
           refine bB (i := 5) (N := some 55) (v := undef) (a' := ?_) #[true, true, true, true, true, true, false, false, false, false, false, false, false, false, false, false, false, false, false, false, false, false, false, false, false, false, false, false] rfl rfl (bC HT_.out (by kernel_rfl)) (fun _ _ _ h => h) (Or.inr ⟨by rfl, rfl⟩) ?_ ?_
           rotate_left
           ·simp only [Act.put, lA, lB, lC, aU, aT]
            rfl
           refine bB (i := 6) (N := some 56) (v := undef) (a' := ?_) #[true, true, true, true, true, true, true, false, false, false, false, false, false, false, false, false, false, false, false, false, false, false, false, false, false, false, false, false] rfl rfl (bC HT_.out (by kernel_rfl)) (fun _ _ _ h => h) (Or.inr ⟨by rfl, rfl⟩) ?_ ?_
           rotate_left
           ·simp only [Act.put, lA, lB, lC, aU, aT]
            rfl
           refine bB (i := 7) (N := some 57) (v := undef) (a' := ?_) #[true, true, true, true, true, true, true, true, false, false, false, false, false, false, false, false, false, false, false, false, false, false, false, false, false, false, false, false] rfl rfl (bC HT_.out (by kernel_rfl)) (fun _ _ _ h => h) (Or.inr ⟨by rfl, rfl⟩) ?_ ?_
           rotate_left
           ·simp only [Act.put, lA, lB, lC, aU, aT]
            rfl
           refine bB (i := 8) (N := some 58) (v := undef) (a' := ?_) #[true, true, true, true, true, true, true, true, true, false, false, false, false, false, false, false, false, false, false, false, false, false, false, false, false, false, false, false] rfl rfl (bC HT_.out (by kernel_rfl)) (fun _ _ _ h => h) (Or.inr ⟨by rfl, rfl⟩) ?_ ?_
           rotate_left
           ·simp only [Act.put, lA, lB, lC, aU, aT]
            rfl
           refine bB (i := 9) (N := some 59) (v := undef) (a' := ?_) #[true, true, true, true, true, true, true, true, true, true, false, false, false, false, false, false, false, false, false, false, false, false, false, false, false, false, false, false] rfl rfl (bC HT_.out (by kernel_rfl)) (fun _ _ _ h => h) (Or.inr ⟨by rfl, rfl⟩) ?_ ?_
           rotate_left
           ·simp only [Act.put, lA, lB, lC, aU, aT]
            rfl
           refine bB (i := 10) (N := some 60) (v := undef) (a' := ?_) #[true, true, true, true, true, true, true, true, true, true, true, false, false, false, false, false, false, false, false, false, false, false, false, false, false, false, false, false] rfl rfl (bC HT_.out (by kernel_rfl)) (fun _ _ _ h => h) (Or.inr ⟨by rfl, rfl⟩) ?_ ?_
           rotate_left
           ·simp only [Act.put, lA, lB, lC, aU, aT]
            rfl
           refine bB (i := 11) (N := some 61) (v := undef) (a' := ?_) #[true, true, true, true, true, true, true, true, true, true, true, true, false, false, false, false, false, false, false, false, false, false, false, false, false, false, false, false] rfl rfl (bC HT_.out (by kernel_rfl)) (fun _ _ _ h => h) (Or.inr ⟨by rfl, rfl⟩) ?_ ?_
           rotate_left
           ·simp only [Act.put, lA, lB, lC, aU, aT]
            rfl
           refine bB (i := 12) (N := some 62) (v := undef) (a' := ?_) #[true, true, true, true, true, true, true, true, true, true, true, true, true, false, false, false, false, false, false, false, false, false, false, false, false, false, false, false] rfl rfl (bC HT_.out (by kernel_rfl)) (fun _ _ _ h => h) (Or.inr ⟨by rfl, rfl⟩) ?_ ?_
           rotate_left
           ·simp only [Act.put, lA, lB, lC, aU, aT]
            rfl
           refine bB (i := 13) (N := some 63) (v := undef) (a' := ?_) #[true, true, true, true, true, true, true, true, true, true, true, true, true, true, false, false, false, false, false, false, false, false, false, false, false, false, false, false] rfl rfl (bC HT_.out (by kernel_rfl)) (fun _ _ _ h => h) (Or.inr ⟨by rfl, rfl⟩) ?_ ?_
           rotate_left
           ·simp only [Act.put, lA, lB, lC, aU, aT]
            rfl
           refine bB (i := 14) (N := some 64) (v := undef) (a' := ?_) #[true, true, true, true, true, true, true, true, true, true, true, true, true, true, true, false, false, false, false, false, false, false, false, false, false, false, false, false] rfl rfl (bC HT_.out (by kernel_rfl)) (fun _ _ _ h => h) (Or.inr ⟨by rfl, rfl⟩) ?_ ?_
           rotate_left
           ·simp only [Act.put, lA, lB, lC, aU, aT]
            rfl
           refine bB (i := 15) (N := some 65) (v := undef) (a' := ?_) #[true, true, true, true, true, true, true, true, true, true, true, true, true, true, true, true, false, false, false, false, false, false, false, false, false, false, false, false] rfl rfl (bC HT_.out (by kernel_rfl)) (fun _ _ _ h => h) (Or.inr ⟨by rfl, rfl⟩) ?_ ?_
           rotate_left
           ·simp only [Act.put, lA, lB, lC, aU, aT]
            rfl
           refine bB (i := 16) (N := some 66) (v := undef) (a' := ?_) #[true, true, true, true, true, true, true, true, true, true, true, true, true, true, true, true, true, false, false, false, false, false, false, false, false, false, false, false] rfl rfl (bC HT_.out (by kernel_rfl)) (fun _ _ _ h => h) (Or.inr ⟨by rfl, rfl⟩) ?_ ?_
           rotate_left
           ·simp only [Act.put, lA, lB, lC, aU, aT]
            rfl
           refine bB (i := 17) (N := some 67) (v := undef) (a' := ?_) #[true, true, true, true, true, true, true, true, true, true, true, true, true, true, true, true, true, true, false, false, false, false, false, false, false, false, false, false] rfl rfl (bC HT_.out (by kernel_rfl)) (fun _ _ _ h => h) (Or.inr ⟨by rfl, rfl⟩) ?_ ?_
           rotate_left
           ·simp only [Act.put, lA, lB, lC, aU, aT]
            rfl
           refine bB (i := 18) (N := some 68) (v := undef) (a' := ?_) #[true, true, true, true, true, true, true, true, true, true, true, true, true, true, true, true, true, true, true, false, false, false, false, false, false, false, false, false] rfl rfl (bC HT_.out (by kernel_rfl)) (fun _ _ _ h => h) (Or.inr ⟨by rfl, rfl⟩) ?_ ?_
           rotate_left
           ·simp only [Act.put, lA, lB, lC, aU, aT]
            rfl
           refine bB (i := 19) (N := some 69) (v := undef) (a' := ?_) #[true, true, true, true, true, true, true, true, true, true, true, true, true, true, true, true, true, true, true, true, false, false, false, false, false, false, false, false] rfl rfl (bC HT_.out (by kernel_rfl)) (fun _ _ _ h => h) (Or.inr ⟨by rfl, rfl⟩) ?_ ?_
           rotate_left
           ·simp only [Act.put, lA, lB, lC, aU, aT]
            rfl
           refine bB (i := 20) (N := some 70) (v := undef) (a' := ?_) #[true, true, true, true, true, true, true, true, true, true, true, true, true, true, true, true, true, true, true, true, true, false, false, false, false, false, false, false] rfl rfl (bC HT_.out (by kernel_rfl)) (fun _ _ _ h => h) (Or.inr ⟨by rfl, rfl⟩) ?_ ?_
           rotate_left
           ·simp only [Act.put, lA, lB, lC, aU, aT]
            rfl
           refine bB (i := 21) (N := some 71) (v := undef) (a' := ?_) #[true, true, true, true, true, true, true, true, true, true, true, true, true, true, true, true, true, true, true, true, true, true, false, false, false, false, false, false] rfl rfl (bC HT_.out (by kernel_rfl)) (fun _ _ _ h => h) (Or.inr ⟨by rfl, rfl⟩) ?_ ?_
           rotate_left
           ·simp only [Act.put, lA, lB, lC, aU, aT]
            rfl
           refine bB (i := 22) (N := some 72) (v := undef) (a' := ?_) #[true, true, true, true, true, true, true, true, true, true, true, true, true, true, true, true, true, true, true, true, true, true, true, false, false, false, false, false] rfl rfl (bC HT_.out (by kernel_rfl)) (fun _ _ _ h => h) (Or.inr ⟨by rfl, rfl⟩) ?_ ?_
           rotate_left
           ·simp only [Act.put, lA, lB, lC, aU, aT]
            rfl
           refine bB (i := 23) (N := some 73) (v := undef) (a' := ?_) #[true, true, true, true, true, true, true, true, true, true, true, true, true, true, true, true, true, true, true, true, true, true, true, true, false, false, false, false] rfl rfl (bC HT_.out (by kernel_rfl)) (fun _ _ _ h => h) (Or.inr ⟨by rfl, rfl⟩) ?_ ?_
           rotate_left
           ·simp only [Act.put, lA, lB, lC, aU, aT]
            rfl
           refine bB (i := 24) (N := some 74) (v := undef) (a' := ?_) #[true, true, true, true, true, true, true, true, true, true, true, true, true, true, true, true, true, true, true, true, true, true, true, true, true, false, false, false] rfl rfl (bC HT_.out (by kernel_rfl)) (fun _ _ _ h => h) (Or.inr ⟨by rfl, rfl⟩) ?_ ?_
           rotate_left
           ·simp only [Act.put, lA, lB, lC, aU, aT]
            rfl
           refine bB (i := 25) (N := some 75) (v := undef) (a' := ?_) #[true, true, true, true, true, true, true, true, true, true, true, true, true, true, true, true, true, true, true, true, true, true, true, true, true, true, false, false] rfl rfl (bC HT_.out (by kernel_rfl)) (fun _ _ _ h => h) (Or.inr ⟨by rfl, rfl⟩) ?_ ?_
           rotate_left
           ·simp only [Act.put, lA, lB, lC, aU, aT]
            rfl
           refine bB (i := 26) (N := some 76) (v := ?_) (a' := ?_) #[true, true, true, true, true, true, true, true, true, true, true, true, true, true, true, true, true, true, true, true, true, true, true, true, true, true, true, false] rfl rfl (bC HT_.out (by kernel_rfl)) (fun _ _ _ h => h) (Or.inl ⟨by rfl, ?_⟩) ?_ ?_
           rotate_left
           ·intro w'
            go_simp
            with_reducible rfl
           rotate_left
           ·simp only [Act.put, lA, lB, lC, aU, aT]
            rfl
           refine bB (i := 27) (N := some 7) (v := ?_) (a' := ?_) #[true, true, true, true, true, true, true, true, true, true, true, true, true, true, true, true, true, true, true, true, true, true, true, true, true, true, true, true] rfl rfl (bC HT_.out (by kernel_rfl)) (fun _ _ _ h => h) (Or.inl ⟨by rfl, ?_⟩) ?_ ?_
           rotate_left
           ·intro w'
            go_simp
            with_reducible rfl
           rotate_left
           ·simp only [Act.put, lA, lB, lC, aU, aT]
            rfl
           refine done_ (done_of HT_.out (by kernel_rfl)) ?_
           try go_wp2
           go_roundg k2
           case measure => have := HK1.out; have := HK2.out; omega
           case rel => exact ⟨(true), (wrap64 (x8_2 + 1)), (by first | rfl | (simp; done) | (simp [*]; done)), (by first | rfl | (simp; done) | (simp [*]; done)), H', ⟨by have := HK1.out; have := HK2.out; omega⟩, ⟨by (with_reducible repeat (first | apply Kd.aY | apply Kd.aX | apply Kd.aV)); exact HO_217000.out⟩, ⟨by (with_reducible repeat (first | apply Kd.aY | apply Kd.aX | apply Kd.aV)); exact HO_217001.out⟩, ⟨by (with_reducible repeat (first | apply Kd.aY | apply Kd.aX | apply Kd.aV)); exact HO_228000.out⟩, ⟨by (with_reducible repeat (first | apply Kd.aY | apply Kd.aX | apply Kd.aV)); exact HO_228001.out⟩, ⟨by (with_reducible repeat (first | apply Kd.aY | apply Kd.aX | apply Kd.aV)); exact HO_237000.out⟩, ⟨by (with_reducible repeat (first | apply Kd.aY | apply Kd.aX | apply Kd.aV)); exact HO_237001.out⟩, ⟨by (with_reducible repeat (first | refine aQ ?_ _ | refine aN ?_ | refine aH ?_ _)); exact BK216.out⟩, ⟨by (with_reducible repeat (first | refine aQ ?_ _ | refine aN ?_ | refine aH ?_ _)); exact BK227.out⟩, ⟨by (with_reducible repeat (first | refine aQ ?_ _ | refine aN ?_ | refine aH ?_ _)); exact BK236.out⟩, ⟨by repeat (first | (with_reducible first | exact HB.out | apply aM | apply aG | apply aJ | refine aE ?_ GE216.out | refine aE ?_ GE227.out | refine aE ?_ GE236.out) | exact HB.out)⟩⟩
          ·replace c45 := Bool.eq_false_iff.mpr c45
           subst c45
           have H1 : (if 0 ≤ x8_2 then (if ((rd_T50 t211 x8_2).f0) = x6_1 then (if 0 ≤ x6_1 then (if x6_1 < (t219.length : Int) then (laws_FnFalls.l1 k2 x6_1 ((strOfNums ((rd_T50 t211 x8_2).f1)).toList == (strOfNums (rd_L1 t219 x6_1)).toList) (wrap64 (x8_2 + 1)) t208 t211 t214 t215 t219 t222 t225 t226 t228 t231 t234 t235) else (none)) else (none)) else (laws_FnFalls.l1 k2 x6_1 false (wrap64 (x8_2 + 1)) t208 t211 t214 t215 t219 t222 t225 t226 t228 t231 t234 t235)) else (none)) = some r := by rw [if_neg (show ¬ (false = true) by decide)] at H; exact H
           clear H
           have H := H1
           clear H1
           by_cases c50 : 0 ≤ x8_2
           ·rw [if_pos c50] at H
            have c50b0 : decide (0 ≤ x8_2) = true := decide_eq_true c50
            clear c50
            by_cases c51 : ((rd_T50 t211 x8_2).f0) = x6_1
            ·rw [if_pos c51] at H
             have c51b0 : (((rd_T50 t211 x8_2).f0) == x6_1) = true := beq_iff_eq.mpr c51
             have c51b1 : (((rd_T50 t211 x8_2).f0) != x6_1) = false := bne_eq_false_iff_eq.mpr c51
             clear c51
             by_cases c52 : 0 ≤ x6_1
             ·rw [if_pos c52] at H
              have c52b0 : decide (0 ≤ x6_1) = true := decide_eq_true c52
              clear c52
              by_cases c53 : x6_1 < (t219.length : Int)
              ·rw [if_pos c53] at H
               have c53b0 : decide (x6_1 < (t219.length : Int)) = true := decide_eq_true c53
               clear c53
               have H' := aA.mk H
               clear H
               have hnb54 := NB216_227.out
               have hnc54 := NB227_216.out
               have hnb55 := NB216_236.out
               have hnc55 := NB236_216.out
               have hcz56_0 : wr.cell? ⟨gb216, 0, none⟩ = some (.slice (some ad239) t208.length co11) := (aD BK216.out 0).trans rfl
               have hcz56_1 : wr.cell? ⟨gb216, 1, none⟩ = some (.slice Ao13 t211.length co13) := (aD BK216.out 1).trans rfl
               have hcz56_2 : wr.cell? ⟨gb216, 2, none⟩ = some (.int .i64 t214) := (aD BK216.out 2).trans rfl
               have hcz56_3 : wr.cell? ⟨gb216, 3, none⟩ = some (.bool t215) := (aD BK216.out 3).trans rfl
               have hfz56_0 := aC BK216.out 0
               have hfz56_1 := aC BK216.out 1
               have hfz56_2 := aC BK216.out 2
               have hfz56_3 := aC BK216.out 3
               try go_wp2
               have n0_ := aA.mk (Kd.aV HO_217000.out)
               have n1_ := aA.mk (Kd.aV HO_217001.out)
               have n2_ := aA.mk (Kd.aV HO_228000.out)
               have n3_ := aA.mk (Kd.aV HO_228001.out)
               have n4_ := aA.mk (Kd.aV HO_237000.out)
               have n5_ := aA.mk (Kd.aV HO_237001.out)
               have n6_ := aA.mk (aN BK216.out)
               have n7_ := aA.mk (aN BK227.out)
               have n8_ := aA.mk (aN BK236.out)
               have n9_ := aA.mk (aJ HB.out)
               clear HO_217000
               clear HO_217001
               clear HO_228000
               clear HO_228001
               clear HO_237000
               clear HO_237001
               clear BK216
               clear BK227
               clear BK236
               clear HB
               have HO_217000 := n0_
               have HO_217001 := n1_
               have HO_228000 := n2_
               have HO_228001 := n3_
               have HO_237000 := n4_
               have HO_237001 := n5_
               have BK216 := n6_
               have BK227 := n7_
               have BK236 := n8_
               have HB := n9_
               clear n0_ n1_ n2_ n3_ n4_ n5_ n6_ n7_ n8_ n9_
               have p240 : 0 ≤ (x8_2 : Int) := lE (by first | (with_reducible assumption) | assumption)
               have q240 : x8_2 < (t211.length : Int) := lE (by first | (with_reducible assumption) | assumption)
               obtain ⟨ad240, A240_1, c240_1, e240, hx240_0, hx240_1, hl240_1, hi240_1⟩ := at_T50 (Kd.N_reads' HO_217001.out).2.2 x8_2 p240 q240
               cases e240
               obtain ⟨ce240, hce240, hMe240, hcc240⟩ := Kd.N_get HO_217001.out z50 x8_2 p240 (by first | exact q240 | exact lE (by first | (with_reducible assumption) | assumption) | (have e_ := (Kd.N_reads' HO_217001.out).1; omega))
               obtain ⟨ua240_1, uc240_1, rfl, ul240_1, ge240_1⟩ := k50_openF hMe240
               have hv240_1 := hcc240 1 _ rfl
               rw [add_field _ _ 1 (by omega)] at hv240_1
               replace hv240_1 := Option.some.inj (hv240_1.symm.trans hx240_1)
               injection hv240_1 with hva_ hvn_ hvc_
               rw [hva_] at ge240_1
               rw [hvc_] at ul240_1
               have HL240_1 := aA.mk (show Kd.V (Kd.int .u8) 5 _ w.heap.size _ _ ((rd_T50 t211 x8_2).f1) from Kd.V_mk ul240_1 ge240_1)
               clear hva_ hvn_ hvc_ ge240_1 ul240_1
               clear hcc240 hce240
               have HR240_1 := aA.mk hi240_1
               have HC240_1 := aA.mk hl240_1
               clear hi240_1 hl240_1
               replace p240 := eq_true p240
               replace q240 := eq_true q240
               have p241 : 0 ≤ (x8_2 : Int) := lE (by first | (with_reducible assumption) | assumption)
               have q241 : x8_2 < (t211.length : Int) := lE (by first | (with_reducible assumption) | assumption)
               obtain ⟨ad241, A241_1, c241_1, e241, hx241_0, hx241_1, hl241_1, hi241_1⟩ := at_T50 (Kd.N_reads' HO_217001.out).2.2 x8_2 p241 q241
               obtain rfl : ad240 = ad241 := (by injection e241)
               obtain ⟨ce241, hce241, hMe241, hcc241⟩ := Kd.N_get HO_217001.out z50 x8_2 p241 (by first | exact q241 | exact lE (by first | (with_reducible assumption) | assumption) | (have e_ := (Kd.N_reads' HO_217001.out).1; omega))
               obtain ⟨ua241_1, uc241_1, rfl, ul241_1, ge241_1⟩ := k50_openF hMe241
               have hv241_1 := hcc241 1 _ rfl
               rw [add_field _ _ 1 (by omega)] at hv241_1
               replace hv241_1 := Option.some.inj (hv241_1.symm.trans hx241_1)
               injection hv241_1 with hva_ hvn_ hvc_
               rw [hva_] at ge241_1
               rw [hvc_] at ul241_1
               have HL241_1 := aA.mk (show Kd.V (Kd.int .u8) 5 _ w.heap.size _ _ ((rd_T50 t211 x8_2).f1) from Kd.V_mk ul241_1 ge241_1)
               clear hva_ hvn_ hvc_ ge241_1 ul241_1
               clear hcc241 hce241
               have HR241_1 := aA.mk hi241_1
               have HC241_1 := aA.mk hl241_1
               clear hi241_1 hl241_1
               replace p241 := eq_true p241
               replace q241 := eq_true q241
               have ea_ := Option.some.inj (hx240_1.symm.trans hx241_1)
               injection ea_ with ea_ en_ ec_
               subst ea_
               subst ec_
               clear en_
               have p242 : 0 ≤ (x6_1 : Int) := lE (by first | (with_reducible assumption) | assumption)
               have q242 : x6_1 < (t219.length : Int) := lE (by first | (with_reducible assumption) | assumption)
               obtain ⟨ad242, A242_0, c242_0, e242, hx242_0, hl242_0, hi242_0⟩ := at_L1 (Kd.N_reads' HO_228000.out).2.2 x6_1 p242 q242
               obtain rfl : ad238 = ad242 := (by injection e242)
               obtain ⟨ce242, hce242, hMe242, hcc242⟩ := Kd.N_get HO_228000.out [] x6_1 p242 (by first | exact q242 | exact lE (by first | (with_reducible assumption) | assumption) | (have e_ := (Kd.N_reads' HO_228000.out).1; omega))
               obtain ⟨ua242_0, uc242_0, rfl, ul242_0, ge242_0⟩ := Kd.FK_slice_open hMe242
               have hv242_0 := hcc242 0 _ rfl
               rw [Nat.add_zero, show ((Kd.slice 5 (Kd.int .u8))).sz = 1 from rfl, Nat.mul_one] at hv242_0
               replace hv242_0 := Option.some.inj (hv242_0.symm.trans hx242_0)
               injection hv242_0 with hva_ hvn_ hvc_
               rw [hva_] at ge242_0
               rw [hvc_] at ul242_0
               have HL242_0 := aA.mk (show Kd.V (Kd.int .u8) 5 _ w.heap.size _ _ (rd_L1 t219 x6_1) from Kd.V_mk ul242_0 ge242_0)
               clear hva_ hvn_ hvc_ ge242_0 ul242_0
               clear hcc242 hce242
               have HR242_0 := aA.mk hi242_0
               have HC242_0 := aA.mk hl242_0
               clear hi242_0 hl242_0
               replace p242 := eq_true p242
               replace q242 := eq_true q242
               have hcv58 := Kd.C_string (P := Try.prog) (A := A240_1) (c := c240_1) Try.underlying37 Try.underlying5 Try.underlying9 (by repeat (first | (with_reducible exact HR241_1.out) | (with_reducible refine Kd.C_alloc ?_ _) | (with_reducible refine Kd.C_drewN ?_ _) | (with_reducible refine Kd.C_drew ?_) | exact HR241_1.out))
               have hcv59 := Kd.C_string (P := Try.prog) (A := A242_0) (c := c242_0) Try.underlying37 Try.underlying5 Try.underlying9 (by repeat (first | (with_reducible exact HR242_0.out) | (with_reducible refine Kd.C_alloc ?_ _) | (with_reducible refine Kd.C_drewN ?_ _) | (with_reducible refine Kd.C_drew ?_) | exact HR242_0.out))
               refine start_ (n := 28) (S := fun w' => w'.cell? ⟨gb216, 0, none⟩ = some (.slice (some ad239) t208.length co11) ∧ w'.cell? ⟨gb216, 1, none⟩ = some (.slice (some ad240) t211.length co13) ∧ w'.cell? ⟨gb216, 2, none⟩ = some (.int .i64 t214) ∧ w'.cell? ⟨gb216, 3, none⟩ = some (.bool t215) ∧ w'.cell? ⟨gb227, 0, none⟩ = some (.slice (some ad238) t219.length co19) ∧ w'.cell? ⟨gb227, 1, none⟩ = some (.slice Ao21 t222.length co21) ∧ w'.cell? ⟨gb227, 2, none⟩ = some (.int .i64 t225) ∧ w'.cell? ⟨gb227, 3, none⟩ = some (.bool t226) ∧ w'.cell? (ad240.add ((x8_2).toNat * 2)) = some (.int .i64 ((rd_T50 t211 x8_2).f0)) ∧ w'.cell? ⟨(ad240.add ((x8_2).toNat * 2)).block, (ad240.add ((x8_2).toNat * 2)).off + 1, none⟩ = some (.slice A240_1 ((rd_T50 t211 x8_2).f1).length c240_1) ∧ w'.cell? (ad240.add ((x8_2).toNat * 2)) = some (.int .i64 ((rd_T50 t211 x8_2).f0)) ∧ w'.cell? ⟨(ad240.add ((x8_2).toNat * 2)).block, (ad240.add ((x8_2).toNat * 2)).off + 1, none⟩ = some (.slice A240_1 ((rd_T50 t211 x8_2).f1).length c240_1) ∧ w'.cell? (ad238.add (x6_1).toNat) = some (.slice A242_0 (rd_L1 t219 x6_1).length c242_0) ∧ Kd.C (Kd.int .u8) w' A240_1 _ _ ∧ Kd.C (Kd.int .u8) w' A242_0 _ _) (ds := []) #[false, false, false, false, false, false, false, false, false, false, false, false, false, false, false, false, false, false, false, false, false, false, false, false, false, false, false, false] (by kernel_rfl) rfl rfl ⟨(aD BK216.out 0).trans rfl, (aD BK216.out 1).trans rfl, (aD BK216.out 2).trans rfl, (aD BK216.out 3).trans rfl, (aD BK227.out 0).trans rfl, (aD BK227.out 1).trans rfl, (aD BK227.out 2).trans rfl, (aD BK227.out 3).trans rfl, hx240_0, hx240_1, hx241_0, hx241_1, hx242_0, (by repeat (first | (with_reducible exact HR241_1.out) | (with_reducible refine Kd.C_alloc ?_ _) | (with_reducible refine Kd.C_drewN ?_ _) | (with_reducible refine Kd.C_drew ?_) | exact HR241_1.out)), (by repeat (first | (with_reducible exact HR242_0.out) | (with_reducible refine Kd.C_alloc ?_ _) | (with_reducible refine Kd.C_drewN ?_ _) | (with_reducible refine Kd.C_drew ?_) | exact HR242_0.out))⟩ (fun hHeld => ?_); refine with_tabW laws_FnFalls.tab13 laws_FnFalls.bits13 (fun HT_ HW_ => ?_)
               generalize wr.drew = w57 at HO_217000 HO_217001 HO_228000 HO_228001 HO_237000 HO_237001 BK216 BK227 BK236 HB HL240_1 HL241_1 HL242_0 HR240_1 HR241_1 HR242_0 hx240_0 hx240_1 hx241_0 hx241_1 hx242_0 hHeld ⊢
               refine bB (i := 0) (N := some 50) (v := ?_) (a' := ?_) #[true, false, false, false, false, false, false, false, false, false, false, false, false, false, false, false, false, false, false, false, false, false, false, false, false, false, false, false] rfl rfl (bC HT_.out (by kernel_rfl)) (fun _ _ _ h => h) (Or.inl ⟨by rfl, ?_⟩) ?_ ?_
               rotate_left
               ·intro w'
                go_simp
                with_reducible rfl
               rotate_left
               ·simp only [Act.put, lA, lB, lC, aU, aT]
                rfl
               refine bB (i := 1) (N := some 51) (v := ?_) (a' := ?_) #[true, true, false, false, false, false, false, false, false, false, false, false, false, false, false, false, false, false, false, false, false, false, false, false, false, false, false, false] rfl rfl (bC HT_.out (by kernel_rfl)) (fun _ _ _ h => h) (Or.inl ⟨by rfl, ?_⟩) ?_ ?_
               rotate_left
               ·intro w'
                go_simp
                with_reducible rfl
               rotate_left
               ·simp only [Act.put, lA, lB, lC, aU, aT]
                rfl
               refine bB (i := 2) (N := some 52) (v := ?_) (a' := ?_) #[true, true, true, false, false, false, false, false, false, false, false, false, false, false, false, false, false, false, false, false, false, false, false, false, false, false, false, false] rfl rfl (bC HT_.out (by kernel_rfl)) (fun _ _ _ h => h) (Or.inl ⟨by rfl, ?_⟩) ?_ ?_
               rotate_left
               ·intro w'
                go_simp
                with_reducible rfl
               rotate_left
               ·simp only [Act.put, lA, lB, lC, aU, aT]
                rfl
               refine bB (i := 4) (N := some 54) (v := ?_) (a' := ?_) #[true, true, true, false, true, false, false, false, false, false, false, false, false, false, false, false, false, false, false, false, false, false, false, false, false, false, false, false] rfl rfl (bC HT_.out (by kernel_rfl)) (fun _ _ _ h => h) (Or.inl ⟨by rfl, ?_⟩) ?_ ?_
               rotate_left
               ·intro w'
                go_simp
                with_reducible rfl
               rotate_left
               ·simp only [Act.put, lA, lB, lC, aU, aT]
                rfl
               refine bB (i := 8) (N := some 58) (v := ?_) (a' := ?_) #[true, true, true, false, true, false, false, false, true, false, false, false, false, false, false, false, false, false, false, false, false, false, false, false, false, false, false, false] rfl rfl (bC HT_.out (by kernel_rfl)) (fun _ _ _ h => h) (Or.inl ⟨by rfl, ?_⟩) ?_ ?_
               rotate_left
               ·intro w'
                go_simp
                with_reducible rfl
               rotate_left
               ·simp only [Act.put, lA, lB, lC, aU, aT]
                rfl
               refine take_ (i := 3) (N := some 53) (v := ?_) (a' := ?_) #[true, true, true, true, true, false, false, false, true, false, false, false, false, false, false, false, false, false, false, false, false, false, false, false, false, false, false, false] rfl rfl (take_ofW HT_.out HW_.out (by kernel_rfl)) (fun _ _ _ h => h) (Or.inl ⟨by rfl, ?_⟩) hHeld ?_ ?_
               rotate_left
               ·rintro w' ⟨s0, s1, s2, s3, s4, s5, s6, s7, s8, s9, s10, s11, s12, sC0_, sC1_⟩
                go_simp
                with_reducible rfl
               rotate_left
               ·simp only [Act.put, lA, lB, lC, aU, aT]
                rfl
               refine bB (i := 5) (N := some 55) (v := ?_) (a' := ?_) #[true, true, true, true, true, true, false, false, true, false, false, false, false, false, false, false, false, false, false, false, false, false, false, false, false, false, false, false] rfl rfl (bC HT_.out (by kernel_rfl)) (fun _ _ _ h => h) (Or.inl ⟨by rfl, ?_⟩) ?_ ?_
               rotate_left
               ·intro w'
                go_simp
                with_reducible rfl
               rotate_left
               ·simp only [Act.put, lA, lB, lC, aU, aT]
                rfl
               refine bB (i := 6) (N := some 56) (v := ?_) (a' := ?_) #[true, true, true, true, true, true, true, false, true, false, false, false, false, false, false, false, false, false, false, false, false, false, false, false, false, false, false, false] rfl rfl (bC HT_.out (by kernel_rfl)) (fun _ _ _ h => h) (Or.inl ⟨by rfl, ?_⟩) ?_ ?_
               rotate_left
               ·intro w'
                go_simp
                with_reducible rfl
               rotate_left
               ·simp only [Act.put, lA, lB, lC, aU, aT]
                rfl
               refine take_ (i := 7) (N := some 57) (v := ?_) (a' := ?_) #[true, true, true, true, true, true, true, true, true, false, false, false, false, false, false, false, false, false, false, false, false, false, false, false, false, false, false, false] rfl rfl (take_ofW HT_.out HW_.out (by kernel_rfl)) (fun _ _ _ h => h) (Or.inl ⟨by rfl, ?_⟩) hHeld ?_ ?_
               rotate_left
               ·rintro w' ⟨s0, s1, s2, s3, s4, s5, s6, s7, s8, s9, s10, s11, s12, sC0_, sC1_⟩
                go_simp
                with_reducible rfl
               rotate_left
               ·simp only [Act.put, lA, lB, lC, aU, aT]
                rfl
               refine bB (i := 9) (N := some 59) (v := ?_) (a' := ?_) #[true, true, true, true, true, true, true, true, true, true, false, false, false, false, false, false, false, false, false, false, false, false, false, false, false, false, false, false] rfl rfl (bC HT_.out (by kernel_rfl)) (fun _ _ _ h => h) (Or.inl ⟨by rfl, ?_⟩) ?_ ?_
               rotate_left
               ·intro w'
                go_simp
                with_reducible rfl
               rotate_left
               ·simp only [Act.put, lA, lB, lC, aU, aT]
                rfl
               refine bB (i := 10) (N := some 60) (v := ?_) (a' := ?_) #[true, true, true, true, true, true, true, true, true, true, true, false, false, false, false, false, false, false, false, false, false, false, false, false, false, false, false, false] rfl rfl (bC HT_.out (by kernel_rfl)) (fun _ _ _ h => h) (Or.inl ⟨by rfl, ?_⟩) ?_ ?_
               rotate_left
               ·intro w'
                go_simp
                with_reducible rfl
               rotate_left
               ·simp only [Act.put, lA, lB, lC, aU, aT]
                rfl
               refine bB (i := 11) (N := some 61) (v := ?_) (a' := ?_) #[true, true, true, true, true, true, true, true, true, true, true, true, false, false, false, false, false, false, false, false, false, false, false, false, false, false, false, false] rfl rfl (bC HT_.out (by kernel_rfl)) (fun _ _ _ h => h) (Or.inl ⟨by rfl, ?_⟩) ?_ ?_
               rotate_left
               ·intro w'
                go_simp
                with_reducible rfl
               rotate_left
               ·simp only [Act.put, lA, lB, lC, aU, aT]
                rfl
               refine bB (i := 13) (N := some 63) (v := ?_) (a' := ?_) #[true, true, true, true, true, true, true, true, true, true, true, true, false, true, false, false, false, false, false, false, false, false, false, false, false, false, false, false] rfl rfl (bC HT_.out (by kernel_rfl)) (fun _ _ _ h => h) (Or.inl ⟨by rfl, ?_⟩) ?_ ?_
               rotate_left
               ·intro w'
                go_simp
                with_reducible rfl
               rotate_left
               ·simp only [Act.put, lA, lB, lC, aU, aT]
                rfl
               refine bB (i := 18) (N := some 68) (v := ?_) (a' := ?_) #[true, true, true, true, true, true, true, true, true, true, true, true, false, true, false, false, false, false, true, false, false, false, false, false, false, false, false, false] rfl rfl (bC HT_.out (by kernel_rfl)) (fun _ _ _ h => h) (Or.inl ⟨by rfl, ?_⟩) ?_ ?_
               rotate_left
               ·intro w'
                go_simp
                with_reducible rfl
               rotate_left
               ·simp only [Act.put, lA, lB, lC, aU, aT]
                rfl
               refine bB (i := 20) (N := some 70) (v := ?_) (a' := ?_) #[true, true, true, true, true, true, true, true, true, true, true, true, false, true, false, false, false, false, true, false, true, false, false, false, false, false, false, false] rfl rfl (bC HT_.out (by kernel_rfl)) (fun _ _ _ h => h) (Or.inl ⟨by rfl, ?_⟩) ?_ ?_
               rotate_left
               ·intro w'
                go_simp
                with_reducible rfl
               rotate_left
               ·simp only [Act.put, lA, lB, lC, aU, aT]
                rfl
               refine take_ (i := 12) (N := some 62) (v := ?_) (a' := ?_) #[true, true, true, true, true, true, true, true, true, true, true, true, true, true, false, false, false, false, true, false, true, false, false, false, false, false, false, false] rfl rfl (take_ofW HT_.out HW_.out (by kernel_rfl)) (fun _ _ _ h => h) (Or.inl ⟨by rfl, ?_⟩) hHeld ?_ ?_
               rotate_left
               ·rintro w' ⟨s0, s1, s2, s3, s4, s5, s6, s7, s8, s9, s10, s11, s12, sC0_, sC1_⟩
                go_simp
                with_reducible rfl
               rotate_left
               ·simp only [Act.put, lA, lB, lC, aU, aT]
                rfl
               refine bB (i := 14) (N := some 64) (v := ?_) (a' := ?_) #[true, true, true, true, true, true, true, true, true, true, true, true, true, true, true, false, false, false, true, false, true, false, false, false, false, false, false, false] rfl rfl (bC HT_.out (by kernel_rfl)) (fun _ _ _ h => h) (Or.inl ⟨by rfl, ?_⟩) ?_ ?_
               rotate_left
               ·intro w'
                go_simp
                with_reducible rfl
               rotate_left
               ·simp only [Act.put, lA, lB, lC, aU, aT]
                rfl
               refine bB (i := 15) (N := some 65) (v := ?_) (a' := ?_) #[true, true, true, true, true, true, true, true, true, true, true, true, true, true, true, true, false, false, true, false, true, false, false, false, false, false, false, false] rfl rfl (bC HT_.out (by kernel_rfl)) (fun _ _ _ h => h) (Or.inl ⟨by rfl, ?_⟩) ?_ ?_
               rotate_left
               ·intro w'
                go_simp
                with_reducible rfl
               rotate_left
               ·simp only [Act.put, lA, lB, lC, aU, aT]
                rfl
               refine take_ (i := 16) (N := some 66) (v := ?_) (a' := ?_) #[true, true, true, true, true, true, true, true, true, true, true, true, true, true, true, true, true, false, true, false, true, false, false, false, false, false, false, false] rfl rfl (take_ofW HT_.out HW_.out (by kernel_rfl)) (fun _ _ _ h => h) (Or.inl ⟨by rfl, ?_⟩) hHeld ?_ ?_
               rotate_left
               ·rintro w' ⟨s0, s1, s2, s3, s4, s5, s6, s7, s8, s9, s10, s11, s12, sC0_, sC1_⟩
                go_simp
                with_reducible rfl
               rotate_left
               ·simp only [Act.put, lA, lB, lC, aU, aT]
                rfl
               refine take_ (i := 17) (N := some 67) (v := ?_) (a' := ?_) #[true, true, true, true, true, true, true, true, true, true, true, true, true, true, true, true, true, true, true, false, true, false, false, false, false, false, false, false] rfl rfl (take_ofW HT_.out HW_.out (by kernel_rfl)) (fun _ _ _ h => h) (Or.inl ⟨by rfl, ?_⟩) hHeld ?_ ?_
               rotate_left
               ·rintro w' ⟨s0, s1, s2, s3, s4, s5, s6, s7, s8, s9, s10, s11, s12, sC0_, sC1_⟩
                have hcv_ := Kd.C_string (P := Try.prog) (A := A240_1) (c := c240_1) Try.underlying37 Try.underlying5 Try.underlying9 sC0_
                go_simp
                with_reducible rfl
               rotate_left
               ·simp only [Act.put, lA, lB, lC, aU, aT]
                rfl
               refine take_ (i := 19) (N := some 69) (v := ?_) (a' := ?_) #[true, true, true, true, true, true, true, true, true, true, true, true, true, true, true, true, true, true, true, true, true, false, false, false, false, false, false, false] rfl rfl (take_ofW HT_.out HW_.out (by kernel_rfl)) (fun _ _ _ h => h) (Or.inl ⟨by rfl, ?_⟩) hHeld ?_ ?_
               rotate_left
               ·rintro w' ⟨s0, s1, s2, s3, s4, s5, s6, s7, s8, s9, s10, s11, s12, sC0_, sC1_⟩
                go_simp
                with_reducible rfl
               rotate_left
               ·simp only [Act.put, lA, lB, lC, aU, aT]
                rfl
               refine bB (i := 21) (N := some 71) (v := ?_) (a' := ?_) #[true, true, true, true, true, true, true, true, true, true, true, true, true, true, true, true, true, true, true, true, true, true, false, false, false, false, false, false] rfl rfl (bC HT_.out (by kernel_rfl)) (fun _ _ _ h => h) (Or.inl ⟨by rfl, ?_⟩) ?_ ?_
               rotate_left
               ·intro w'
                go_simp
                with_reducible rfl
               rotate_left
               ·simp only [Act.put, lA, lB, lC, aU, aT]
                rfl
               refine take_ (i := 22) (N := some 72) (v := ?_) (a' := ?_) #[true, true, true, true, true, true, true, true, true, true, true, true, true, true, true, true, true, true, true, true, true, true, true, false, false, false, false, false] rfl rfl (take_ofW HT_.out HW_.out (by kernel_rfl)) (fun _ _ _ h => h) (Or.inl ⟨by rfl, ?_⟩) hHeld ?_ ?_
               rotate_left
               ·rintro w' ⟨s0, s1, s2, s3, s4, s5, s6, s7, s8, s9, s10, s11, s12, sC0_, sC1_⟩
                go_simp
                with_reducible rfl
               rotate_left
               ·simp only [Act.put, lA, lB, lC, aU, aT]
                rfl
               refine take_ (i := 23) (N := some 73) (v := ?_) (a' := ?_) #[true, true, true, true, true, true, true, true, true, true, true, true, true, true, true, true, true, true, true, true, true, true, true, true, false, false, false, false] rfl rfl (take_ofW HT_.out HW_.out (by kernel_rfl)) (fun _ _ _ h => h) (Or.inl ⟨by rfl, ?_⟩) hHeld ?_ ?_
               rotate_left
               ·rintro w' ⟨s0, s1, s2, s3, s4, s5, s6, s7, s8, s9, s10, s11, s12, sC0_, sC1_⟩
                have hcv_ := Kd.C_string (P := Try.prog) (A := A242_0) (c := c242_0) Try.underlying37 Try.underlying5 Try.underlying9 sC1_
                go_simp
                with_reducible rfl
               rotate_left
               ·simp only [Act.put, lA, lB, lC, aU, aT]
                rfl
               refine bB (i := 24) (N := some 74) (v := ?_) (a' := ?_) #[true, true, true, true, true, true, true, true, true, true, true, true, true, true, true, true, true, true, true, true, true, true, true, true, true, false, false, false] rfl rfl (bC HT_.out (by kernel_rfl)) (fun _ _ _ h => h) (Or.inl ⟨by rfl, ?_⟩) ?_ ?_
               rotate_left
               ·intro w'
                go_simp
                with_reducible rfl
               rotate_left
               ·simp only [Act.put, lA, lB, lC, aU, aT]
                rfl
               refine bB (i := 25) (N := some 75) (v := ?_) (a' := ?_) #[true, true, true, true, true, true, true, true, true, true, true, true, true, true, true, true, true, true, true, true, true, true, true, true, true, true, false, false] rfl rfl (bC HT_.out (by kernel_rfl)) (fun _ _ _ h => h) (Or.inl ⟨by rfl, ?_⟩) ?_ ?_
               rotate_left
               ·intro w'
                go_simp
                with_reducible rfl
               rotate_left
               ·simp only [Act.put, lA, lB, lC, aU, aT]
                rfl
               refine bB (i := 26) (N := some 76) (v := ?_) (a' := ?_) #[true, true, true, true, true, true, true, true, true, true, true, true, true, true, true, true, true, true, true, true, true, true, true, true, true, true, true, false] rfl rfl (bC HT_.out (by kernel_rfl)) (fun _ _ _ h => h) (Or.inl ⟨by rfl, ?_⟩) ?_ ?_
               rotate_left
               ·intro w'
                go_simp
                with_reducible rfl
               rotate_left
               ·simp only [Act.put, lA, lB, lC, aU, aT]
                rfl
               refine bB (i := 27) (N := some 7) (v := ?_) (a' := ?_) #[true, true, true, true, true, true, true, true, true, true, true, true, true, true, true, true, true, true, true, true, true, true, true, true, true, true, true, true] rfl rfl (bC HT_.out (by kernel_rfl)) (fun _ _ _ h => h) (Or.inl ⟨by rfl, ?_⟩) ?_ ?_
               rotate_left
               ·intro w'
                go_simp
                with_reducible rfl
               rotate_left
               ·simp only [Act.put, lA, lB, lC, aU, aT]
                rfl
               refine done_ (done_of HT_.out (by kernel_rfl)) ?_
               try go_wp2
               go_roundg k2
               case measure => have := HK1.out; have := HK2.out; omega
               case rel => exact ⟨(((strOfNums ((rd_T50 t211 x8_2).f1)).toList == (strOfNums (rd_L1 t219 x6_1)).toList)), (wrap64 (x8_2 + 1)), (by first | rfl | (simp; done) | (simp [*]; done)), (by first | rfl | (simp; done) | (simp [*]; done)), H', ⟨by have := HK1.out; have := HK2.out; omega⟩, ⟨by (with_reducible repeat (first | apply Kd.aY | apply Kd.aX | apply Kd.aV)); exact HO_217000.out⟩, ⟨by (with_reducible repeat (first | apply Kd.aY | apply Kd.aX | apply Kd.aV)); exact HO_217001.out⟩, ⟨by (with_reducible repeat (first | apply Kd.aY | apply Kd.aX | apply Kd.aV)); exact HO_228000.out⟩, ⟨by (with_reducible repeat (first | apply Kd.aY | apply Kd.aX | apply Kd.aV)); exact HO_228001.out⟩, ⟨by (with_reducible repeat (first | apply Kd.aY | apply Kd.aX | apply Kd.aV)); exact HO_237000.out⟩, ⟨by (with_reducible repeat (first | apply Kd.aY | apply Kd.aX | apply Kd.aV)); exact HO_237001.out⟩, ⟨by (with_reducible repeat (first | refine aQ ?_ _ | refine aN ?_ | refine aH ?_ _)); exact BK216.out⟩, ⟨by (with_reducible repeat (first | refine aQ ?_ _ | refine aN ?_ | refine aH ?_ _)); exact BK227.out⟩, ⟨by (with_reducible repeat (first | refine aQ ?_ _ | refine aN ?_ | refine aH ?_ _)); exact BK236.out⟩, ⟨by repeat (first | (with_reducible first | exact HB.out | apply aM | apply aG | apply aJ | refine aE ?_ GE216.out | refine aE ?_ GE227.out | refine aE ?_ GE236.out) | exact HB.out)⟩⟩
              ·rw [if_neg c53] at H
               exact absurd H (by simp)
             ·rw [if_neg c52] at H
              exact absurd H (by simp)
            ·rw [if_neg c51] at H
             have c51b0 : (((rd_T50 t211 x8_2).f0) == x6_1) = false := beq_eq_false_iff_ne.mpr c51
             have c51b1 : (((rd_T50 t211 x8_2).f0) != x6_1) = true := bne_iff_ne.mpr c51
             have H' := aA.mk H
             clear H
             have hnb61 := NB216_227.out
             have hnc61 := NB227_216.out
             have hnb62 := NB216_236.out
             have hnc62 := NB236_216.out
             have hcz63_0 : wr.cell? ⟨gb216, 0, none⟩ = some (.slice (some ad239) t208.length co11) := (aD BK216.out 0).trans rfl
             have hcz63_1 : wr.cell? ⟨gb216, 1, none⟩ = some (.slice Ao13 t211.length co13) := (aD BK216.out 1).trans rfl
             have hcz63_2 : wr.cell? ⟨gb216, 2, none⟩ = some (.int .i64 t214) := (aD BK216.out 2).trans rfl
             have hcz63_3 : wr.cell? ⟨gb216, 3, none⟩ = some (.bool t215) := (aD BK216.out 3).trans rfl
             have hfz63_0 := aC BK216.out 0
             have hfz63_1 := aC BK216.out 1
             have hfz63_2 := aC BK216.out 2
             have hfz63_3 := aC BK216.out 3
             try go_wp2
             have n0_ := aA.mk (Kd.aV HO_217000.out)
             have n1_ := aA.mk (Kd.aV HO_217001.out)
             have n2_ := aA.mk (Kd.aV HO_228000.out)
             have n3_ := aA.mk (Kd.aV HO_228001.out)
             have n4_ := aA.mk (Kd.aV HO_237000.out)
             have n5_ := aA.mk (Kd.aV HO_237001.out)
             have n6_ := aA.mk (aN BK216.out)
             have n7_ := aA.mk (aN BK227.out)
             have n8_ := aA.mk (aN BK236.out)
             have n9_ := aA.mk (aJ HB.out)
             clear HO_217000
             clear HO_217001
             clear HO_228000
             clear HO_228001
             clear HO_237000
             clear HO_237001
             clear BK216
             clear BK227
             clear BK236
             clear HB
             have HO_217000 := n0_
             have HO_217001 := n1_
             have HO_228000 := n2_
             have HO_228001 := n3_
             have HO_237000 := n4_
             have HO_237001 := n5_
             have BK216 := n6_
             have BK227 := n7_
             have BK236 := n8_
             have HB := n9_
             clear n0_ n1_ n2_ n3_ n4_ n5_ n6_ n7_ n8_ n9_
             have p240 : 0 ≤ (x8_2 : Int) := lE (by first | (with_reducible assumption) | assumption)
             have q240 : x8_2 < (t211.length : Int) := lE (by first | (with_reducible assumption) | assumption)
             obtain ⟨ad240, A240_1, c240_1, e240, hx240_0, hx240_1, hl240_1, hi240_1⟩ := at_T50 (Kd.N_reads' HO_217001.out).2.2 x8_2 p240 q240
             cases e240
             obtain ⟨ce240, hce240, hMe240, hcc240⟩ := Kd.N_get HO_217001.out z50 x8_2 p240 (by first | exact q240 | exact lE (by first | (with_reducible assumption) | assumption) | (have e_ := (Kd.N_reads' HO_217001.out).1; omega))
             obtain ⟨ua240_1, uc240_1, rfl, ul240_1, ge240_1⟩ := k50_openF hMe240
             have hv240_1 := hcc240 1 _ rfl
             rw [add_field _ _ 1 (by omega)] at hv240_1
             replace hv240_1 := Option.some.inj (hv240_1.symm.trans hx240_1)
             injection hv240_1 with hva_ hvn_ hvc_
             rw [hva_] at ge240_1
             rw [hvc_] at ul240_1
             have HL240_1 := aA.mk (show Kd.V (Kd.int .u8) 5 _ w.heap.size _ _ ((rd_T50 t211 x8_2).f1) from Kd.V_mk ul240_1 ge240_1)
             clear hva_ hvn_ hvc_ ge240_1 ul240_1
             clear hcc240 hce240
             have HR240_1 := aA.mk hi240_1
             have HC240_1 := aA.mk hl240_1
             clear hi240_1 hl240_1
             replace p240 := eq_true p240
             replace q240 := eq_true q240
             refine start_ (n := 28) (S := fun w' => w'.cell? ⟨gb216, 0, none⟩ = some (.slice (some ad239) t208.length co11) ∧ w'.cell? ⟨gb216, 1, none⟩ = some (.slice (some ad240) t211.length co13) ∧ w'.cell? ⟨gb216, 2, none⟩ = some (.int .i64 t214) ∧ w'.cell? ⟨gb216, 3, none⟩ = some (.bool t215) ∧ w'.cell? (ad240.add ((x8_2).toNat * 2)) = some (.int .i64 ((rd_T50 t211 x8_2).f0)) ∧ w'.cell? ⟨(ad240.add ((x8_2).toNat * 2)).block, (ad240.add ((x8_2).toNat * 2)).off + 1, none⟩ = some (.slice A240_1 ((rd_T50 t211 x8_2).f1).length c240_1)) (ds := []) #[false, false, false, false, false, false, false, false, false, false, false, false, false, false, false, false, false, false, false, false, false, false, false, false, false, false, false, false] (by kernel_rfl) rfl rfl ⟨(aD BK216.out 0).trans rfl, (aD BK216.out 1).trans rfl, (aD BK216.out 2).trans rfl, (aD BK216.out 3).trans rfl, hx240_0, hx240_1⟩ (fun hHeld => ?_); refine with_tabW laws_FnFalls.tab13 laws_FnFalls.bits13 (fun HT_ HW_ => ?_)
             generalize wr.drew = w64 at HO_217000 HO_217001 HO_228000 HO_228001 HO_237000 HO_237001 BK216 BK227 BK236 HB HL240_1 HR240_1 hx240_0 hx240_1 hHeld ⊢
             refine bB (i := 0) (N := some 50) (v := ?_) (a' := ?_) #[true, false, false, false, false, false, false, false, false, false, false, false, false, false, false, false, false, false, false, false, false, false, false, false, false, false, false, false] rfl rfl (bC HT_.out (by kernel_rfl)) (fun _ _ _ h => h) (Or.inl ⟨by rfl, ?_⟩) ?_ ?_
             rotate_left
             ·intro w'
              go_simp
              with_reducible rfl
             rotate_left
             ·simp only [Act.put, lA, lB, lC, aU, aT]
              rfl
             refine bB (i := 1) (N := some 51) (v := ?_) (a' := ?_) #[true, true, false, false, false, false, false, false, false, false, false, false, false, false, false, false, false, false, false, false, false, false, false, false, false, false, false, false] rfl rfl (bC HT_.out (by kernel_rfl)) (fun _ _ _ h => h) (Or.inl ⟨by rfl, ?_⟩) ?_ ?_
             rotate_left
             ·intro w'
              go_simp
              with_reducible rfl
             rotate_left
             ·simp only [Act.put, lA, lB, lC, aU, aT]
              rfl
             refine bB (i := 2) (N := some 52) (v := ?_) (a' := ?_) #[true, true, true, false, false, false, false, false, false, false, false, false, false, false, false, false, false, false, false, false, false, false, false, false, false, false, false, false] rfl rfl (bC HT_.out (by kernel_rfl)) (fun _ _ _ h => h) (Or.inl ⟨by rfl, ?_⟩) ?_ ?_
             rotate_left
             ·intro w'
              go_simp
              with_reducible rfl
             rotate_left
             ·simp only [Act.put, lA, lB, lC, aU, aT]
              rfl
             refine bB (i := 4) (N := some 54) (v := ?_) (a' := ?_) #[true, true, true, false, true, false, false, false, false, false, false, false, false, false, false, false, false, false, false, false, false, false, false, false, false, false, false, false] rfl rfl (bC HT_.out (by kernel_rfl)) (fun _ _ _ h => h) (Or.inl ⟨by rfl, ?_⟩) ?_ ?_
             rotate_left
             ·intro w'
              go_simp
              with_reducible rfl
             rotate_left
             ·simp only [Act.put, lA, lB, lC, aU, aT]
              rfl
             refine bB (i := 8) (N := some 58) (v := ?_) (a' := ?_) #[true, true, true, false, true, false, false, false, true, false, false, false, false, false, false, false, false, false, false, false, false, false, false, false, false, false, false, false] rfl rfl (bC HT_.out (by kernel_rfl)) (fun _ _ _ h => h) (Or.inl ⟨by rfl, ?_⟩) ?_ ?_
             rotate_left
             ·intro w'
              go_simp
              with_reducible rfl
             rotate_left
             ·simp only [Act.put, lA, lB, lC, aU, aT]
              rfl
             refine take_ (i := 3) (N := some 53) (v := ?_) (a' := ?_) #[true, true, true, true, true, false, false, false, true, false, false, false, false, false, false, false, false, false, false, false, false, false, false, false, false, false, false, false] rfl rfl (take_ofW HT_.out HW_.out (by kernel_rfl)) (fun _ _ _ h => h) (Or.inl ⟨by rfl, ?_⟩) hHeld ?_ ?_
             rotate_left
             ·rintro w' ⟨s0, s1, s2, s3, s4, s5⟩
              go_simp
              with_reducible rfl
             rotate_left
             ·simp only [Act.put, lA, lB, lC, aU, aT]
              rfl
             refine bB (i := 5) (N := some 55) (v := ?_) (a' := ?_) #[true, true, true, true, true, true, false, false, true, false, false, false, false, false, false, false, false, false, false, false, false, false, false, false, false, false, false, false] rfl rfl (bC HT_.out (by kernel_rfl)) (fun _ _ _ h => h) (Or.inl ⟨by rfl, ?_⟩) ?_ ?_
             rotate_left
             ·intro w'
              go_simp
              with_reducible rfl
             rotate_left
             ·simp only [Act.put, lA, lB, lC, aU, aT]
              rfl
             refine bB (i := 6) (N := some 56) (v := ?_) (a' := ?_) #[true, true, true, true, true, true, true, false, true, false, false, false, false, false, false, false, false, false, false, false, false, false, false, false, false, false, false, false] rfl rfl (bC HT_.out (by kernel_rfl)) (fun _ _ _ h => h) (Or.inl ⟨by rfl, ?_⟩) ?_ ?_
             rotate_left
             ·intro w'
              go_simp
              with_reducible rfl
             rotate_left
             ·simp only [Act.put, lA, lB, lC, aU, aT]
              rfl
             refine take_ (i := 7) (N := some 57) (v := ?_) (a' := ?_) #[true, true, true, true, true, true, true, true, true, false, false, false, false, false, false, false, false, false, false, false, false, false, false, false, false, false, false, false] rfl rfl (take_ofW HT_.out HW_.out (by kernel_rfl)) (fun _ _ _ h => h) (Or.inl ⟨by rfl, ?_⟩) hHeld ?_ ?_
             rotate_left
             ·rintro w' ⟨s0, s1, s2, s3, s4, s5⟩
              go_simp
              with_reducible rfl
             rotate_left
             ·simp only [Act.put, lA, lB, lC, aU, aT]
              rfl
             refine bB (i := 9) (N := some 59) (v := ?_) (a' := ?_) #[true, true, true, true, true, true, true, true, true, true, false, false, false, false, false, false, false, false, false, false, false, false, false, false, false, false, false, false] rfl rfl (bC HT_.out (by kernel_rfl)) (fun _ _ _ h => h) (Or.inl ⟨by rfl, ?_⟩) ?_ ?_
             rotate_left
             ·intro w'
              go_simp
              with_reducible rfl
             rotate_left
             ·simp only [Act.put, lA, lB, lC, aU, aT]
              rfl
             refine bB (i := 10) (N := some 60) (v := ?_) (a' := ?_) #[true, true, true, true, true, true, true, true, true, true, true, false, false, false, false, false, false, false, false, false, false, false, false, false, false, false, false, false] rfl rfl (bC HT_.out (by kernel_rfl)) (fun _ _ _ h => h) (Or.inl ⟨by rfl, ?_⟩) ?_ ?_
             rotate_left
             ·intro w'
              go_simp
              with_reducible rfl
             rotate_left
             ·simp only [Act.put, lA, lB, lC, aU, aT]
              rfl
             refine bB (i := 11) (N := some 61) (v := undef) (a' := ?_) #[true, true, true, true, true, true, true, true, true, true, true, true, false, false, false, false, false, false, false, false, false, false, false, false, false, false, false, false] rfl rfl (bC HT_.out (by kernel_rfl)) (fun _ _ _ h => h) (Or.inr ⟨by rfl, rfl⟩) ?_ ?_
             rotate_left
             ·simp only [Act.put, lA, lB, lC, aU, aT]
              rfl
             refine bB (i := 12) (N := some 62) (v := undef) (a' := ?_) #[true, true, true, true, true, true, true, true, true, true, true, true, true, false, false, false, false, false, false, false, false, false, false, false, false, false, false, false] rfl rfl (bC HT_.out (by kernel_rfl)) (fun _ _ _ h => h) (Or.inr ⟨by rfl, rfl⟩) ?_ ?_
             rotate_left
             ·simp only [Act.put, lA, lB, lC, aU, aT]
              rfl
             refine bB (i := 13) (N := some 63) (v := undef) (a' := ?_) #[true, true, true, true, true, true, true, true, true, true, true, true, true, true, false, false, false, false, false, false, false, false, false, false, false, false, false, false] rfl rfl (bC HT_.out (by kernel_rfl)) (fun _ _ _ h => h) (Or.inr ⟨by rfl, rfl⟩) ?_ ?_
             rotate_left
             ·simp only [Act.put, lA, lB, lC, aU, aT]
              rfl
             refine bB (i := 14) (N := some 64) (v := undef) (a' := ?_) #[true, true, true, true, true, true, true, true, true, true, true, true, true, true, true, false, false, false, false, false, false, false, false, false, false, false, false, false] rfl rfl (bC HT_.out (by kernel_rfl)) (fun _ _ _ h => h) (Or.inr ⟨by rfl, rfl⟩) ?_ ?_
             rotate_left
             ·simp only [Act.put, lA, lB, lC, aU, aT]
              rfl
             refine bB (i := 15) (N := some 65) (v := undef) (a' := ?_) #[true, true, true, true, true, true, true, true, true, true, true, true, true, true, true, true, false, false, false, false, false, false, false, false, false, false, false, false] rfl rfl (bC HT_.out (by kernel_rfl)) (fun _ _ _ h => h) (Or.inr ⟨by rfl, rfl⟩) ?_ ?_
             rotate_left
             ·simp only [Act.put, lA, lB, lC, aU, aT]
              rfl
             refine bB (i := 16) (N := some 66) (v := undef) (a' := ?_) #[true, true, true, true, true, true, true, true, true, true, true, true, true, true, true, true, true, false, false, false, false, false, false, false, false, false, false, false] rfl rfl (bC HT_.out (by kernel_rfl)) (fun _ _ _ h => h) (Or.inr ⟨by rfl, rfl⟩) ?_ ?_
             rotate_left
             ·simp only [Act.put, lA, lB, lC, aU, aT]
              rfl
             refine bB (i := 17) (N := some 67) (v := undef) (a' := ?_) #[true, true, true, true, true, true, true, true, true, true, true, true, true, true, true, true, true, true, false, false, false, false, false, false, false, false, false, false] rfl rfl (bC HT_.out (by kernel_rfl)) (fun _ _ _ h => h) (Or.inr ⟨by rfl, rfl⟩) ?_ ?_
             rotate_left
             ·simp only [Act.put, lA, lB, lC, aU, aT]
              rfl
             refine bB (i := 18) (N := some 68) (v := undef) (a' := ?_) #[true, true, true, true, true, true, true, true, true, true, true, true, true, true, true, true, true, true, true, false, false, false, false, false, false, false, false, false] rfl rfl (bC HT_.out (by kernel_rfl)) (fun _ _ _ h => h) (Or.inr ⟨by rfl, rfl⟩) ?_ ?_
             rotate_left
             ·simp only [Act.put, lA, lB, lC, aU, aT]
              rfl
             refine bB (i := 19) (N := some 69) (v := undef) (a' := ?_) #[true, true, true, true, true, true, true, true, true, true, true, true, true, true, true, true, true, true, true, true, false, false, false, false, false, false, false, false] rfl rfl (bC HT_.out (by kernel_rfl)) (fun _ _ _ h => h) (Or.inr ⟨by rfl, rfl⟩) ?_ ?_
             rotate_left
             ·simp only [Act.put, lA, lB, lC, aU, aT]
              rfl
             refine bB (i := 20) (N := some 70) (v := undef) (a' := ?_) #[true, true, true, true, true, true, true, true, true, true, true, true, true, true, true, true, true, true, true, true, true, false, false, false, false, false, false, false] rfl rfl (bC HT_.out (by kernel_rfl)) (fun _ _ _ h => h) (Or.inr ⟨by rfl, rfl⟩) ?_ ?_
             rotate_left
             ·simp only [Act.put, lA, lB, lC, aU, aT]
              rfl
             refine bB (i := 21) (N := some 71) (v := undef) (a' := ?_) #[true, true, true, true, true, true, true, true, true, true, true, true, true, true, true, true, true, true, true, true, true, true, false, false, false, false, false, false] rfl rfl (bC HT_.out (by kernel_rfl)) (fun _ _ _ h => h) (Or.inr ⟨by rfl, rfl⟩) ?_ ?_
             rotate_left
             ·simp only [Act.put, lA, lB, lC, aU, aT]
              rfl
             refine bB (i := 22) (N := some 72) (v := undef) (a' := ?_) #[true, true, true, true, true, true, true, true, true, true, true, true, true, true, true, true, true, true, true, true, true, true, true, false, false, false, false, false] rfl rfl (bC HT_.out (by kernel_rfl)) (fun _ _ _ h => h) (Or.inr ⟨by rfl, rfl⟩) ?_ ?_
             rotate_left
             ·simp only [Act.put, lA, lB, lC, aU, aT]
              rfl
             refine bB (i := 23) (N := some 73) (v := undef) (a' := ?_) #[true, true, true, true, true, true, true, true, true, true, true, true, true, true, true, true, true, true, true, true, true, true, true, true, false, false, false, false] rfl rfl (bC HT_.out (by kernel_rfl)) (fun _ _ _ h => h) (Or.inr ⟨by rfl, rfl⟩) ?_ ?_
             rotate_left
             ·simp only [Act.put, lA, lB, lC, aU, aT]
              rfl
             refine bB (i := 24) (N := some 74) (v := undef) (a' := ?_) #[true, true, true, true, true, true, true, true, true, true, true, true, true, true, true, true, true, true, true, true, true, true, true, true, true, false, false, false] rfl rfl (bC HT_.out (by kernel_rfl)) (fun _ _ _ h => h) (Or.inr ⟨by rfl, rfl⟩) ?_ ?_
             rotate_left
             ·simp only [Act.put, lA, lB, lC, aU, aT]
              rfl
             refine bB (i := 25) (N := some 75) (v := ?_) (a' := ?_) #[true, true, true, true, true, true, true, true, true, true, true, true, true, true, true, true, true, true, true, true, true, true, true, true, true, true, false, false] rfl rfl (bC HT_.out (by kernel_rfl)) (fun _ _ _ h => h) (Or.inl ⟨by rfl, ?_⟩) ?_ ?_
             rotate_left
             ·intro w'
              go_simp
              with_reducible rfl
             rotate_left
             ·simp only [Act.put, lA, lB, lC, aU, aT]
              rfl
             refine bB (i := 26) (N := some 76) (v := ?_) (a' := ?_) #[true, true, true, true, true, true, true, true, true, true, true, true, true, true, true, true, true, true, true, true, true, true, true, true, true, true, true, false] rfl rfl (bC HT_.out (by kernel_rfl)) (fun _ _ _ h => h) (Or.inl ⟨by rfl, ?_⟩) ?_ ?_
             rotate_left
             ·intro w'
              go_simp
              with_reducible rfl
             rotate_left
             ·simp only [Act.put, lA, lB, lC, aU, aT]
              rfl
             refine bB (i := 27) (N := some 7) (v := ?_) (a' := ?_) #[true, true, true, true, true, true, true, true, true, true, true, true, true, true, true, true, true, true, true, true, true, true, true, true, true, true, true, true] rfl rfl (bC HT_.out (by kernel_rfl)) (fun _ _ _ h => h) (Or.inl ⟨by rfl, ?_⟩) ?_ ?_
             rotate_left
             ·intro w'
              go_simp
              with_reducible rfl
             rotate_left
             ·simp only [Act.put, lA, lB, lC, aU, aT]
              rfl
             refine done_ (done_of HT_.out (by kernel_rfl)) ?_
             try go_wp2
             go_roundg k2
             case measure => have := HK1.out; have := HK2.out; omega
             case rel => exact ⟨(false), (wrap64 (x8_2 + 1)), (by first | rfl | (simp; done) | (simp [*]; done)), (by first | rfl | (simp; done) | (simp [*]; done)), H', ⟨by have := HK1.out; have := HK2.out; omega⟩, ⟨by (with_reducible repeat (first | apply Kd.aY | apply Kd.aX | apply Kd.aV)); exact HO_217000.out⟩, ⟨by (with_reducible repeat (first | apply Kd.aY | apply Kd.aX | apply Kd.aV)); exact HO_217001.out⟩, ⟨by (with_reducible repeat (first | apply Kd.aY | apply Kd.aX | apply Kd.aV)); exact HO_228000.out⟩, ⟨by (with_reducible repeat (first | apply Kd.aY | apply Kd.aX | apply Kd.aV)); exact HO_228001.out⟩, ⟨by (with_reducible repeat (first | apply Kd.aY | apply Kd.aX | apply Kd.aV)); exact HO_237000.out⟩, ⟨by (with_reducible repeat (first | apply Kd.aY | apply Kd.aX | apply Kd.aV)); exact HO_237001.out⟩, ⟨by (with_reducible repeat (first | refine aQ ?_ _ | refine aN ?_ | refine aH ?_ _)); exact BK216.out⟩, ⟨by (with_reducible repeat (first | refine aQ ?_ _ | refine aN ?_ | refine aH ?_ _)); exact BK227.out⟩, ⟨by (with_reducible repeat (first | refine aQ ?_ _ | refine aN ?_ | refine aH ?_ _)); exact BK236.out⟩, ⟨by repeat (first | (with_reducible first | exact HB.out | apply aM | apply aG | apply aJ | refine aE ?_ GE216.out | refine aE ?_ GE227.out | refine aE ?_ GE236.out) | exact HB.out)⟩⟩
           ·rw [if_neg c50] at H
            exact absurd H (by simp)
         ·rw [if_neg c44] at H
          have c44b0 : decide (x8_2 < (t211.length : Int)) = false := decide_eq_false c44
          clear c44
          by_cases c65 : x7_2 = true
          ·subst c65
           have H1 : (if 0 ≤ x6_1 then (if x6_1 < (t228.length : Int) then (if x6_1 < (t208.length : Int) then (if (strOfNums (rd_L1 t228 x6_1)).toList = (strOfNums (rd_L1 t208 x6_1)).toList then (laws_FnFalls.l0 k2 (wrap64 (x6_1 + 1)) t208 t211 t214 t215 t219 t222 t225 t226 t228 t231 t234 t235) else (some false)) else (none)) else (none)) else (none)) = some r := by rw [if_pos rfl] at H; exact H
           clear H
           have H := H1
           clear H1
           by_cases c66 : 0 ≤ x6_1
           ·rw [if_pos c66] at H
            have c66b0 : decide (0 ≤ x6_1) = true := decide_eq_true c66
            clear c66
            by_cases c67 : x6_1 < (t228.length : Int)
            ·rw [if_pos c67] at H
             have c67b0 : decide (x6_1 < (t228.length : Int)) = true := decide_eq_true c67
             clear c67
             by_cases c68 : x6_1 < (t208.length : Int)
             ·rw [if_pos c68] at H
              have c68b0 : decide (x6_1 < (t208.length : Int)) = true := decide_eq_true c68
              clear c68
              by_cases c69 : (strOfNums (rd_L1 t228 x6_1)).toList = (strOfNums (rd_L1 t208 x6_1)).toList
              ·rw [if_pos c69] at H
               have c69b0 : ((strOfNums (rd_L1 t228 x6_1)).toList == (strOfNums (rd_L1 t208 x6_1)).toList) = true := beq_iff_eq.mpr c69
               have c69b1 : ((strOfNums (rd_L1 t228 x6_1)).toList != (strOfNums (rd_L1 t208 x6_1)).toList) = false := bne_eq_false_iff_eq.mpr c69
               clear c69
               have H' := aA.mk H
               clear H
               have hnb70 := NB216_227.out
               have hnc70 := NB227_216.out
               have hnb71 := NB216_236.out
               have hnc71 := NB236_216.out
               have hcz72_0 : wr.cell? ⟨gb216, 0, none⟩ = some (.slice (some ad239) t208.length co11) := (aD BK216.out 0).trans rfl
               have hcz72_1 : wr.cell? ⟨gb216, 1, none⟩ = some (.slice Ao13 t211.length co13) := (aD BK216.out 1).trans rfl
               have hcz72_2 : wr.cell? ⟨gb216, 2, none⟩ = some (.int .i64 t214) := (aD BK216.out 2).trans rfl
               have hcz72_3 : wr.cell? ⟨gb216, 3, none⟩ = some (.bool t215) := (aD BK216.out 3).trans rfl
               have hfz72_0 := aC BK216.out 0
               have hfz72_1 := aC BK216.out 1
               have hfz72_2 := aC BK216.out 2
               have hfz72_3 := aC BK216.out 3
               try go_wp2
               have n0_ := aA.mk (Kd.aV HO_217000.out)
               have n1_ := aA.mk (Kd.aV HO_217001.out)
               have n2_ := aA.mk (Kd.aV HO_228000.out)
               have n3_ := aA.mk (Kd.aV HO_228001.out)
               have n4_ := aA.mk (Kd.aV HO_237000.out)
               have n5_ := aA.mk (Kd.aV HO_237001.out)
               have n6_ := aA.mk (aN BK216.out)
               have n7_ := aA.mk (aN BK227.out)
               have n8_ := aA.mk (aN BK236.out)
               have n9_ := aA.mk (aJ HB.out)
               clear HO_217000
               clear HO_217001
               clear HO_228000
               clear HO_228001
               clear HO_237000
               clear HO_237001
               clear BK216
               clear BK227
               clear BK236
               clear HB
               have HO_217000 := n0_
               have HO_217001 := n1_
               have HO_228000 := n2_
               have HO_228001 := n3_
               have HO_237000 := n4_
               have HO_237001 := n5_
               have BK216 := n6_
               have BK227 := n7_
               have BK236 := n8_
               have HB := n9_
               clear n0_ n1_ n2_ n3_ n4_ n5_ n6_ n7_ n8_ n9_
               have p243 : 0 ≤ (x6_1 : Int) := lE (by first | (with_reducible assumption) | assumption)
               have q243 : x6_1 < (t228.length : Int) := lE (by first | (with_reducible assumption) | assumption)
               obtain ⟨ad243, A243_0, c243_0, e243, hx243_0, hl243_0, hi243_0⟩ := at_L1 (Kd.N_reads' HO_237000.out).2.2 x6_1 p243 q243
               cases e243
               obtain ⟨ce243, hce243, hMe243, hcc243⟩ := Kd.N_get HO_237000.out [] x6_1 p243 (by first | exact q243 | exact lE (by first | (with_reducible assumption) | assumption) | (have e_ := (Kd.N_reads' HO_237000.out).1; omega))
               obtain ⟨ua243_0, uc243_0, rfl, ul243_0, ge243_0⟩ := Kd.FK_slice_open hMe243
               have hv243_0 := hcc243 0 _ rfl
               rw [Nat.add_zero, show ((Kd.slice 5 (Kd.int .u8))).sz = 1 from rfl, Nat.mul_one] at hv243_0
               replace hv243_0 := Option.some.inj (hv243_0.symm.trans hx243_0)
               injection hv243_0 with hva_ hvn_ hvc_
               rw [hva_] at ge243_0
               rw [hvc_] at ul243_0
               have HL243_0 := aA.mk (show Kd.V (Kd.int .u8) 5 _ w.heap.size _ _ (rd_L1 t228 x6_1) from Kd.V_mk ul243_0 ge243_0)
               clear hva_ hvn_ hvc_ ge243_0 ul243_0
               clear hcc243 hce243
               have HR243_0 := aA.mk hi243_0
               have HC243_0 := aA.mk hl243_0
               clear hi243_0 hl243_0
               replace p243 := eq_true p243
               replace q243 := eq_true q243
               have p244 : 0 ≤ (x6_1 : Int) := lE (by first | (with_reducible assumption) | assumption)
               have q244 : x6_1 < (t208.length : Int) := lE (by first | (with_reducible assumption) | assumption)
               obtain ⟨ad244, A244_0, c244_0, e244, hx244_0, hl244_0, hi244_0⟩ := at_L1 (Kd.N_reads' HO_217000.out).2.2 x6_1 p244 q244
               obtain rfl : ad239 = ad244 := (by injection e244)
               obtain ⟨ce244, hce244, hMe244, hcc244⟩ := Kd.N_get HO_217000.out [] x6_1 p244 (by first | exact q244 | exact lE (by first | (with_reducible assumption) | assumption) | (have e_ := (Kd.N_reads' HO_217000.out).1; omega))
               obtain ⟨ua244_0, uc244_0, rfl, ul244_0, ge244_0⟩ := Kd.FK_slice_open hMe244
               have hv244_0 := hcc244 0 _ rfl
               rw [Nat.add_zero, show ((Kd.slice 5 (Kd.int .u8))).sz = 1 from rfl, Nat.mul_one] at hv244_0
               replace hv244_0 := Option.some.inj (hv244_0.symm.trans hx244_0)
               injection hv244_0 with hva_ hvn_ hvc_
               rw [hva_] at ge244_0
               rw [hvc_] at ul244_0
               have HL244_0 := aA.mk (show Kd.V (Kd.int .u8) 5 _ w.heap.size _ _ (rd_L1 t208 x6_1) from Kd.V_mk ul244_0 ge244_0)
               clear hva_ hvn_ hvc_ ge244_0 ul244_0
               clear hcc244 hce244
               have HR244_0 := aA.mk hi244_0
               have HC244_0 := aA.mk hl244_0
               clear hi244_0 hl244_0
               replace p244 := eq_true p244
               replace q244 := eq_true q244
               have hcv74 := Kd.C_string (P := Try.prog) (A := A243_0) (c := c243_0) Try.underlying37 Try.underlying5 Try.underlying9 (by repeat (first | (with_reducible exact HR243_0.out) | (with_reducible refine Kd.C_alloc ?_ _) | (with_reducible refine Kd.C_drewN ?_ _) | (with_reducible refine Kd.C_drew ?_) | exact HR243_0.out))
               have hcv75 := Kd.C_string (P := Try.prog) (A := A244_0) (c := c244_0) Try.underlying37 Try.underlying5 Try.underlying9 (by repeat (first | (with_reducible exact HR244_0.out) | (with_reducible refine Kd.C_alloc ?_ _) | (with_reducible refine Kd.C_drewN ?_ _) | (with_reducible refine Kd.C_drew ?_) | exact HR244_0.out))
               refine start_ (n := 17) (S := fun w' => w'.cell? ⟨gb236, 0, none⟩ = some (.slice (some ad243) t228.length co29) ∧ w'.cell? ⟨gb236, 1, none⟩ = some (.slice Ao33 t231.length co33) ∧ w'.cell? ⟨gb236, 2, none⟩ = some (.int .i64 t234) ∧ w'.cell? ⟨gb236, 3, none⟩ = some (.bool t235) ∧ w'.cell? ⟨gb216, 0, none⟩ = some (.slice (some ad239) t208.length co11) ∧ w'.cell? ⟨gb216, 1, none⟩ = some (.slice Ao13 t211.length co13) ∧ w'.cell? ⟨gb216, 2, none⟩ = some (.int .i64 t214) ∧ w'.cell? ⟨gb216, 3, none⟩ = some (.bool t215) ∧ w'.cell? (ad243.add (x6_1).toNat) = some (.slice A243_0 (rd_L1 t228 x6_1).length c243_0) ∧ w'.cell? (ad239.add (x6_1).toNat) = some (.slice A244_0 (rd_L1 t208 x6_1).length c244_0) ∧ Kd.C (Kd.int .u8) w' A243_0 _ _ ∧ Kd.C (Kd.int .u8) w' A244_0 _ _) (ds := []) #[false, false, false, false, false, false, false, false, false, false, false, false, false, false, false, false, false] (by kernel_rfl) rfl rfl ⟨(aD BK236.out 0).trans rfl, (aD BK236.out 1).trans rfl, (aD BK236.out 2).trans rfl, (aD BK236.out 3).trans rfl, (aD BK216.out 0).trans rfl, (aD BK216.out 1).trans rfl, (aD BK216.out 2).trans rfl, (aD BK216.out 3).trans rfl, hx243_0, hx244_0, (by repeat (first | (with_reducible exact HR243_0.out) | (with_reducible refine Kd.C_alloc ?_ _) | (with_reducible refine Kd.C_drewN ?_ _) | (with_reducible refine Kd.C_drew ?_) | exact HR243_0.out)), (by repeat (first | (with_reducible exact HR244_0.out) | (with_reducible refine Kd.C_alloc ?_ _) | (with_reducible refine Kd.C_drewN ?_ _) | (with_reducible refine Kd.C_drew ?_) | exact HR244_0.out))⟩ (fun hHeld => ?_); refine with_tabW laws_FnFalls.tab14 laws_FnFalls.bits14 (fun HT_ HW_ => ?_)
               generalize wr.drew = w73 at HO_217000 HO_217001 HO_228000 HO_228001 HO_237000 HO_237001 BK216 BK227 BK236 HB HL243_0 HL244_0 HR243_0 HR244_0 hx243_0 hx244_0 hHeld ⊢
               refine bB (i := 0) (N := some 77) (v := ?_) (a' := ?_) #[true, false, false, false, false, false, false, false, false, false, false, false, false, false, false, false, false] rfl rfl (bC HT_.out (by kernel_rfl)) (fun _ _ _ h => h) (Or.inl ⟨by rfl, ?_⟩) ?_ ?_
               rotate_left
               ·intro w'
                go_simp
                with_reducible rfl
               rotate_left
               ·simp only [Act.put, lA, lB, lC, aU, aT]
                rfl
               refine bB (i := 1) (N := some 78) (v := ?_) (a' := ?_) #[true, true, false, false, false, false, false, false, false, false, false, false, false, false, false, false, false] rfl rfl (bC HT_.out (by kernel_rfl)) (fun _ _ _ h => h) (Or.inl ⟨by rfl, ?_⟩) ?_ ?_
               rotate_left
               ·intro w'
                go_simp
                with_reducible rfl
               rotate_left
               ·simp only [Act.put, lA, lB, lC, aU, aT]
                rfl
               refine bB (i := 2) (N := some 79) (v := ?_) (a' := ?_) #[true, true, true, false, false, false, false, false, false, false, false, false, false, false, false, false, false] rfl rfl (bC HT_.out (by kernel_rfl)) (fun _ _ _ h => h) (Or.inl ⟨by rfl, ?_⟩) ?_ ?_
               rotate_left
               ·intro w'
                go_simp
                with_reducible rfl
               rotate_left
               ·simp only [Act.put, lA, lB, lC, aU, aT]
                rfl
               refine bB (i := 3) (N := some 80) (v := ?_) (a' := ?_) #[true, true, true, true, false, false, false, false, false, false, false, false, false, false, false, false, false] rfl rfl (bC HT_.out (by kernel_rfl)) (fun _ _ _ h => h) (Or.inl ⟨by rfl, ?_⟩) ?_ ?_
               rotate_left
               ·intro w'
                go_simp
                with_reducible rfl
               rotate_left
               ·simp only [Act.put, lA, lB, lC, aU, aT]
                rfl
               refine bB (i := 5) (N := some 82) (v := ?_) (a' := ?_) #[true, true, true, true, false, true, false, false, false, false, false, false, false, false, false, false, false] rfl rfl (bC HT_.out (by kernel_rfl)) (fun _ _ _ h => h) (Or.inl ⟨by rfl, ?_⟩) ?_ ?_
               rotate_left
               ·intro w'
                go_simp
                with_reducible rfl
               rotate_left
               ·simp only [Act.put, lA, lB, lC, aU, aT]
                rfl
               refine bB (i := 9) (N := some 86) (v := ?_) (a' := ?_) #[true, true, true, true, false, true, false, false, false, true, false, false, false, false, false, false, false] rfl rfl (bC HT_.out (by kernel_rfl)) (fun _ _ _ h => h) (Or.inl ⟨by rfl, ?_⟩) ?_ ?_
               rotate_left
               ·intro w'
                go_simp
                with_reducible rfl
               rotate_left
               ·simp only [Act.put, lA, lB, lC, aU, aT]
                rfl
               refine bB (i := 11) (N := some 88) (v := ?_) (a' := ?_) #[true, true, true, true, false, true, false, false, false, true, false, true, false, false, false, false, false] rfl rfl (bC HT_.out (by kernel_rfl)) (fun _ _ _ h => h) (Or.inl ⟨by rfl, ?_⟩) ?_ ?_
               rotate_left
               ·intro w'
                go_simp
                with_reducible rfl
               rotate_left
               ·simp only [Act.put, lA, lB, lC, aU, aT]
                rfl
               refine take_ (i := 4) (N := some 81) (v := ?_) (a' := ?_) #[true, true, true, true, true, true, false, false, false, true, false, true, false, false, false, false, false] rfl rfl (take_ofW HT_.out HW_.out (by kernel_rfl)) (fun _ _ _ h => h) (Or.inl ⟨by rfl, ?_⟩) hHeld ?_ ?_
               rotate_left
               ·rintro w' ⟨s0, s1, s2, s3, s4, s5, s6, s7, s8, s9, sC0_, sC1_⟩
                go_simp
                with_reducible rfl
               rotate_left
               ·simp only [Act.put, lA, lB, lC, aU, aT]
                rfl
               refine bB (i := 6) (N := some 83) (v := ?_) (a' := ?_) #[true, true, true, true, true, true, true, false, false, true, false, true, false, false, false, false, false] rfl rfl (bC HT_.out (by kernel_rfl)) (fun _ _ _ h => h) (Or.inl ⟨by rfl, ?_⟩) ?_ ?_
               rotate_left
               ·intro w'
                go_simp
                with_reducible rfl
               rotate_left
               ·simp only [Act.put, lA, lB, lC, aU, aT]
                rfl
               refine take_ (i := 7) (N := some 84) (v := ?_) (a' := ?_) #[true, true, true, true, true, true, true, true, false, true, false, true, false, false, false, false, false] rfl rfl (take_ofW HT_.out HW_.out (by kernel_rfl)) (fun _ _ _ h => h) (Or.inl ⟨by rfl, ?_⟩) hHeld ?_ ?_
               rotate_left
               ·rintro w' ⟨s0, s1, s2, s3, s4, s5, s6, s7, s8, s9, sC0_, sC1_⟩
                go_simp
                with_reducible rfl
               rotate_left
               ·simp only [Act.put, lA, lB, lC, aU, aT]
                rfl
               refine take_ (i := 8) (N := some 85) (v := ?_) (a' := ?_) #[true, true, true, true, true, true, true, true, true, true, false, true, false, false, false, false, false] rfl rfl (take_ofW HT_.out HW_.out (by kernel_rfl)) (fun _ _ _ h => h) (Or.inl ⟨by rfl, ?_⟩) hHeld ?_ ?_
               rotate_left
               ·rintro w' ⟨s0, s1, s2, s3, s4, s5, s6, s7, s8, s9, sC0_, sC1_⟩
                have hcv_ := Kd.C_string (P := Try.prog) (A := A243_0) (c := c243_0) Try.underlying37 Try.underlying5 Try.underlying9 sC0_
                go_simp
                with_reducible rfl
               rotate_left
               ·simp only [Act.put, lA, lB, lC, aU, aT]
                rfl
               refine take_ (i := 10) (N := some 87) (v := ?_) (a' := ?_) #[true, true, true, true, true, true, true, true, true, true, true, true, false, false, false, false, false] rfl rfl (take_ofW HT_.out HW_.out (by kernel_rfl)) (fun _ _ _ h => h) (Or.inl ⟨by rfl, ?_⟩) hHeld ?_ ?_
               rotate_left
               ·rintro w' ⟨s0, s1, s2, s3, s4, s5, s6, s7, s8, s9, sC0_, sC1_⟩
                go_simp
                with_reducible rfl
               rotate_left
               ·simp only [Act.put, lA, lB, lC, aU, aT]
                rfl
               refine bB (i := 12) (N := some 89) (v := ?_) (a' := ?_) #[true, true, true, true, true, true, true, true, true, true, true, true, true, false, false, false, false] rfl rfl (bC HT_.out (by kernel_rfl)) (fun _ _ _ h => h) (Or.inl ⟨by rfl, ?_⟩) ?_ ?_
               rotate_left
               ·intro w'
                go_simp
                with_reducible rfl
               rotate_left
               ·simp only [Act.put, lA, lB, lC, aU, aT]
                rfl
               refine take_ (i := 13) (N := some 90) (v := ?_) (a' := ?_) #[true, true, true, true, true, true, true, true, true, true, true, true, true, true, false, false, false] rfl rfl (take_ofW HT_.out HW_.out (by kernel_rfl)) (fun _ _ _ h => h) (Or.inl ⟨by rfl, ?_⟩) hHeld ?_ ?_
               rotate_left
               ·rintro w' ⟨s0, s1, s2, s3, s4, s5, s6, s7, s8, s9, sC0_, sC1_⟩
                go_simp
                with_reducible rfl
               rotate_left
               ·simp only [Act.put, lA, lB, lC, aU, aT]
                rfl
               refine take_ (i := 14) (N := some 91) (v := ?_) (a' := ?_) #[true, true, true, true, true, true, true, true, true, true, true, true, true, true, true, false, false] rfl rfl (take_ofW HT_.out HW_.out (by kernel_rfl)) (fun _ _ _ h => h) (Or.inl ⟨by rfl, ?_⟩) hHeld ?_ ?_
               rotate_left
               ·rintro w' ⟨s0, s1, s2, s3, s4, s5, s6, s7, s8, s9, sC0_, sC1_⟩
                have hcv_ := Kd.C_string (P := Try.prog) (A := A244_0) (c := c244_0) Try.underlying37 Try.underlying5 Try.underlying9 sC1_
                go_simp
                with_reducible rfl
               rotate_left
               ·simp only [Act.put, lA, lB, lC, aU, aT]
                rfl
               refine bB (i := 15) (N := some 92) (v := ?_) (a' := ?_) #[true, true, true, true, true, true, true, true, true, true, true, true, true, true, true, true, false] rfl rfl (bC HT_.out (by kernel_rfl)) (fun _ _ _ h => h) (Or.inl ⟨by rfl, ?_⟩) ?_ ?_
               rotate_left
               ·intro w'
                go_simp
                with_reducible rfl
               rotate_left
               ·simp only [Act.put, lA, lB, lC, aU, aT]
                rfl
               refine bB (i := 16) (N := some 93) (v := ?_) (a' := ?_) #[true, true, true, true, true, true, true, true, true, true, true, true, true, true, true, true, true] rfl rfl (bC HT_.out (by kernel_rfl)) (fun _ _ _ h => h) (Or.inl ⟨by rfl, ?_⟩) ?_ ?_
               rotate_left
               ·intro w'
                go_simp
                with_reducible rfl
               rotate_left
               ·simp only [Act.put, lA, lB, lC, aU, aT]
                rfl
               refine done_ (done_of HT_.out (by kernel_rfl)) ?_
               try go_wp2
               go_roundg k2
               case measure => have := HK1.out; have := HK2.out; omega
               case rel => exact ⟨(wrap64 (x6_1 + 1)), (by first | rfl | (simp; done) | (simp [*]; done)), H', ⟨by have := HK1.out; have := HK2.out; omega⟩, ⟨by (with_reducible repeat (first | apply Kd.aY | apply Kd.aX | apply Kd.aV)); exact HO_217000.out⟩, ⟨by (with_reducible repeat (first | apply Kd.aY | apply Kd.aX | apply Kd.aV)); exact HO_217001.out⟩, ⟨by (with_reducible repeat (first | apply Kd.aY | apply Kd.aX | apply Kd.aV)); exact HO_228000.out⟩, ⟨by (with_reducible repeat (first | apply Kd.aY | apply Kd.aX | apply Kd.aV)); exact HO_228001.out⟩, ⟨by (with_reducible repeat (first | apply Kd.aY | apply Kd.aX | apply Kd.aV)); exact HO_237000.out⟩, ⟨by (with_reducible repeat (first | apply Kd.aY | apply Kd.aX | apply Kd.aV)); exact HO_237001.out⟩, ⟨by (with_reducible repeat (first | refine aQ ?_ _ | refine aN ?_ | refine aH ?_ _)); exact BK216.out⟩, ⟨by (with_reducible repeat (first | refine aQ ?_ _ | refine aN ?_ | refine aH ?_ _)); exact BK227.out⟩, ⟨by (with_reducible repeat (first | refine aQ ?_ _ | refine aN ?_ | refine aH ?_ _)); exact BK236.out⟩, ⟨by repeat (first | (with_reducible first | exact HB.out | apply aM | apply aG | apply aJ | refine aE ?_ GE216.out | refine aE ?_ GE227.out | refine aE ?_ GE236.out) | exact HB.out)⟩⟩
              ·rw [if_neg c69] at H
               have c69b0 : ((strOfNums (rd_L1 t228 x6_1)).toList == (strOfNums (rd_L1 t208 x6_1)).toList) = false := beq_eq_false_iff_ne.mpr c69
               have c69b1 : ((strOfNums (rd_L1 t228 x6_1)).toList != (strOfNums (rd_L1 t208 x6_1)).toList) = true := bne_iff_ne.mpr c69
               obtain rfl := Option.some.inj H
               have hnb77 := NB216_227.out
               have hnc77 := NB227_216.out
               have hnb78 := NB216_236.out
               have hnc78 := NB236_216.out
               have hcz79_0 : wr.cell? ⟨gb216, 0, none⟩ = some (.slice (some ad239) t208.length co11) := (aD BK216.out 0).trans rfl
               have hcz79_1 : wr.cell? ⟨gb216, 1, none⟩ = some (.slice Ao13 t211.length co13) := (aD BK216.out 1).trans rfl
               have hcz79_2 : wr.cell? ⟨gb216, 2, none⟩ = some (.int .i64 t214) := (aD BK216.out 2).trans rfl
               have hcz79_3 : wr.cell? ⟨gb216, 3, none⟩ = some (.bool t215) := (aD BK216.out 3).trans rfl
               have hfz79_0 := aC BK216.out 0
               have hfz79_1 := aC BK216.out 1
               have hfz79_2 := aC BK216.out 2
               have hfz79_3 := aC BK216.out 3
               try go_wp2
               have n0_ := aA.mk (Kd.aV HO_217000.out)
               have n1_ := aA.mk (Kd.aV HO_217001.out)
               have n2_ := aA.mk (Kd.aV HO_228000.out)
               have n3_ := aA.mk (Kd.aV HO_228001.out)
               have n4_ := aA.mk (Kd.aV HO_237000.out)
               have n5_ := aA.mk (Kd.aV HO_237001.out)
               have n6_ := aA.mk (aN BK216.out)
               have n7_ := aA.mk (aN BK227.out)
               have n8_ := aA.mk (aN BK236.out)
               have n9_ := aA.mk (aJ HB.out)
               clear HO_217000
               clear HO_217001
               clear HO_228000
               clear HO_228001
               clear HO_237000
               clear HO_237001
               clear BK216
               clear BK227
               clear BK236
               clear HB
               have HO_217000 := n0_
               have HO_217001 := n1_
               have HO_228000 := n2_
               have HO_228001 := n3_
               have HO_237000 := n4_
               have HO_237001 := n5_
               have BK216 := n6_
               have BK227 := n7_
               have BK236 := n8_
               have HB := n9_
               clear n0_ n1_ n2_ n3_ n4_ n5_ n6_ n7_ n8_ n9_
               have p243 : 0 ≤ (x6_1 : Int) := lE (by first | (with_reducible assumption) | assumption)
               have q243 : x6_1 < (t228.length : Int) := lE (by first | (with_reducible assumption) | assumption)
               obtain ⟨ad243, A243_0, c243_0, e243, hx243_0, hl243_0, hi243_0⟩ := at_L1 (Kd.N_reads' HO_237000.out).2.2 x6_1 p243 q243
               cases e243
               obtain ⟨ce243, hce243, hMe243, hcc243⟩ := Kd.N_get HO_237000.out [] x6_1 p243 (by first | exact q243 | exact lE (by first | (with_reducible assumption) | assumption) | (have e_ := (Kd.N_reads' HO_237000.out).1; omega))
               obtain ⟨ua243_0, uc243_0, rfl, ul243_0, ge243_0⟩ := Kd.FK_slice_open hMe243
               have hv243_0 := hcc243 0 _ rfl
               rw [Nat.add_zero, show ((Kd.slice 5 (Kd.int .u8))).sz = 1 from rfl, Nat.mul_one] at hv243_0
               replace hv243_0 := Option.some.inj (hv243_0.symm.trans hx243_0)
               injection hv243_0 with hva_ hvn_ hvc_
               rw [hva_] at ge243_0
               rw [hvc_] at ul243_0
               have HL243_0 := aA.mk (show Kd.V (Kd.int .u8) 5 _ w.heap.size _ _ (rd_L1 t228 x6_1) from Kd.V_mk ul243_0 ge243_0)
               clear hva_ hvn_ hvc_ ge243_0 ul243_0
               clear hcc243 hce243
               have HR243_0 := aA.mk hi243_0
               have HC243_0 := aA.mk hl243_0
               clear hi243_0 hl243_0
               replace p243 := eq_true p243
               replace q243 := eq_true q243
               have p244 : 0 ≤ (x6_1 : Int) := lE (by first | (with_reducible assumption) | assumption)
               have q244 : x6_1 < (t208.length : Int) := lE (by first | (with_reducible assumption) | assumption)
               obtain ⟨ad244, A244_0, c244_0, e244, hx244_0, hl244_0, hi244_0⟩ := at_L1 (Kd.N_reads' HO_217000.out).2.2 x6_1 p244 q244
               obtain rfl : ad239 = ad244 := (by injection e244)
               obtain ⟨ce244, hce244, hMe244, hcc244⟩ := Kd.N_get HO_217000.out [] x6_1 p244 (by first | exact q244 | exact lE (by first | (with_reducible assumption) | assumption) | (have e_ := (Kd.N_reads' HO_217000.out).1; omega))
               obtain ⟨ua244_0, uc244_0, rfl, ul244_0, ge244_0⟩ := Kd.FK_slice_open hMe244
               have hv244_0 := hcc244 0 _ rfl
               rw [Nat.add_zero, show ((Kd.slice 5 (Kd.int .u8))).sz = 1 from rfl, Nat.mul_one] at hv244_0
               replace hv244_0 := Option.some.inj (hv244_0.symm.trans hx244_0)
               injection hv244_0 with hva_ hvn_ hvc_
               rw [hva_] at ge244_0
               rw [hvc_] at ul244_0
               have HL244_0 := aA.mk (show Kd.V (Kd.int .u8) 5 _ w.heap.size _ _ (rd_L1 t208 x6_1) from Kd.V_mk ul244_0 ge244_0)
               clear hva_ hvn_ hvc_ ge244_0 ul244_0
               clear hcc244 hce244
               have HR244_0 := aA.mk hi244_0
               have HC244_0 := aA.mk hl244_0
               clear hi244_0 hl244_0
               replace p244 := eq_true p244
               replace q244 := eq_true q244
               have hcv81 := Kd.C_string (P := Try.prog) (A := A243_0) (c := c243_0) Try.underlying37 Try.underlying5 Try.underlying9 (by repeat (first | (with_reducible exact HR243_0.out) | (with_reducible refine Kd.C_alloc ?_ _) | (with_reducible refine Kd.C_drewN ?_ _) | (with_reducible refine Kd.C_drew ?_) | exact HR243_0.out))
               have hcv82 := Kd.C_string (P := Try.prog) (A := A244_0) (c := c244_0) Try.underlying37 Try.underlying5 Try.underlying9 (by repeat (first | (with_reducible exact HR244_0.out) | (with_reducible refine Kd.C_alloc ?_ _) | (with_reducible refine Kd.C_drewN ?_ _) | (with_reducible refine Kd.C_drew ?_) | exact HR244_0.out))
               refine start_ (n := 17) (S := fun w' => w'.cell? ⟨gb236, 0, none⟩ = some (.slice (some ad243) t228.length co29) ∧ w'.cell? ⟨gb236, 1, none⟩ = some (.slice Ao33 t231.length co33) ∧ w'.cell? ⟨gb236, 2, none⟩ = some (.int .i64 t234) ∧ w'.cell? ⟨gb236, 3, none⟩ = some (.bool t235) ∧ w'.cell? ⟨gb216, 0, none⟩ = some (.slice (some ad239) t208.length co11) ∧ w'.cell? ⟨gb216, 1, none⟩ = some (.slice Ao13 t211.length co13) ∧ w'.cell? ⟨gb216, 2, none⟩ = some (.int .i64 t214) ∧ w'.cell? ⟨gb216, 3, none⟩ = some (.bool t215) ∧ w'.cell? (ad243.add (x6_1).toNat) = some (.slice A243_0 (rd_L1 t228 x6_1).length c243_0) ∧ w'.cell? (ad239.add (x6_1).toNat) = some (.slice A244_0 (rd_L1 t208 x6_1).length c244_0) ∧ Kd.C (Kd.int .u8) w' A243_0 _ _ ∧ Kd.C (Kd.int .u8) w' A244_0 _ _) (ds := []) #[false, false, false, false, false, false, false, false, false, false, false, false, false, false, false, false, false] (by kernel_rfl) rfl rfl ⟨(aD BK236.out 0).trans rfl, (aD BK236.out 1).trans rfl, (aD BK236.out 2).trans rfl, (aD BK236.out 3).trans rfl, (aD BK216.out 0).trans rfl, (aD BK216.out 1).trans rfl, (aD BK216.out 2).trans rfl, (aD BK216.out 3).trans rfl, hx243_0, hx244_0, (by repeat (first | (with_reducible exact HR243_0.out) | (with_reducible refine Kd.C_alloc ?_ _) | (with_reducible refine Kd.C_drewN ?_ _) | (with_reducible refine Kd.C_drew ?_) | exact HR243_0.out)), (by repeat (first | (with_reducible exact HR244_0.out) | (with_reducible refine Kd.C_alloc ?_ _) | (with_reducible refine Kd.C_drewN ?_ _) | (with_reducible refine Kd.C_drew ?_) | exact HR244_0.out))⟩ (fun hHeld => ?_); refine with_tabW laws_FnFalls.tab14 laws_FnFalls.bits14 (fun HT_ HW_ => ?_)
               generalize wr.drew = w80 at HO_217000 HO_217001 HO_228000 HO_228001 HO_237000 HO_237001 BK216 BK227 BK236 HB HL243_0 HL244_0 HR243_0 HR244_0 hx243_0 hx244_0 hHeld ⊢
               refine bB (i := 0) (N := some 77) (v := ?_) (a' := ?_) #[true, false, false, false, false, false, false, false, false, false, false, false, false, false, false, false, false] rfl rfl (bC HT_.out (by kernel_rfl)) (fun _ _ _ h => h) (Or.inl ⟨by rfl, ?_⟩) ?_ ?_
               rotate_left
               ·intro w'
                go_simp
                with_reducible rfl
               rotate_left
               ·simp only [Act.put, lA, lB, lC, aU, aT]
                rfl
               refine bB (i := 1) (N := some 78) (v := ?_) (a' := ?_) #[true, true, false, false, false, false, false, false, false, false, false, false, false, false, false, false, false] rfl rfl (bC HT_.out (by kernel_rfl)) (fun _ _ _ h => h) (Or.inl ⟨by rfl, ?_⟩) ?_ ?_
               rotate_left
               ·intro w'
                go_simp
                with_reducible rfl
               rotate_left
               ·simp only [Act.put, lA, lB, lC, aU, aT]
                rfl
               refine bB (i := 2) (N := some 79) (v := ?_) (a' := ?_) #[true, true, true, false, false, false, false, false, false, false, false, false, false, false, false, false, false] rfl rfl (bC HT_.out (by kernel_rfl)) (fun _ _ _ h => h) (Or.inl ⟨by rfl, ?_⟩) ?_ ?_
               rotate_left
               ·intro w'
                go_simp
                with_reducible rfl
               rotate_left
               ·simp only [Act.put, lA, lB, lC, aU, aT]
                rfl
               refine bB (i := 3) (N := some 80) (v := ?_) (a' := ?_) #[true, true, true, true, false, false, false, false, false, false, false, false, false, false, false, false, false] rfl rfl (bC HT_.out (by kernel_rfl)) (fun _ _ _ h => h) (Or.inl ⟨by rfl, ?_⟩) ?_ ?_
               rotate_left
               ·intro w'
                go_simp
                with_reducible rfl
               rotate_left
               ·simp only [Act.put, lA, lB, lC, aU, aT]
                rfl
               refine bB (i := 5) (N := some 82) (v := ?_) (a' := ?_) #[true, true, true, true, false, true, false, false, false, false, false, false, false, false, false, false, false] rfl rfl (bC HT_.out (by kernel_rfl)) (fun _ _ _ h => h) (Or.inl ⟨by rfl, ?_⟩) ?_ ?_
               rotate_left
               ·intro w'
                go_simp
                with_reducible rfl
               rotate_left
               ·simp only [Act.put, lA, lB, lC, aU, aT]
                rfl
               refine bB (i := 9) (N := some 86) (v := ?_) (a' := ?_) #[true, true, true, true, false, true, false, false, false, true, false, false, false, false, false, false, false] rfl rfl (bC HT_.out (by kernel_rfl)) (fun _ _ _ h => h) (Or.inl ⟨by rfl, ?_⟩) ?_ ?_
               rotate_left
               ·intro w'
                go_simp
                with_reducible rfl
               rotate_left
               ·simp only [Act.put, lA, lB, lC, aU, aT]
                rfl
               refine bB (i := 11) (N := some 88) (v := ?_) (a' := ?_) #[true, true, true, true, false, true, false, false, false, true, false, true, false, false, false, false, false] rfl rfl (bC HT_.out (by kernel_rfl)) (fun _ _ _ h => h) (Or.inl ⟨by rfl, ?_⟩) ?_ ?_
               rotate_left
               ·intro w'
                go_simp
                with_reducible rfl
               rotate_left
               ·simp only [Act.put, lA, lB, lC, aU, aT]
                rfl
               refine take_ (i := 4) (N := some 81) (v := ?_) (a' := ?_) #[true, true, true, true, true, true, false, false, false, true, false, true, false, false, false, false, false] rfl rfl (take_ofW HT_.out HW_.out (by kernel_rfl)) (fun _ _ _ h => h) (Or.inl ⟨by rfl, ?_⟩) hHeld ?_ ?_
               rotate_left
               ·rintro w' ⟨s0, s1, s2, s3, s4, s5, s6, s7, s8, s9, sC0_, sC1_⟩
                go_simp
                with_reducible rfl
               rotate_left
               ·simp only [Act.put, lA, lB, lC, aU, aT]
                rfl
               refine bB (i := 6) (N := some 83) (v := ?_) (a' := ?_) #[true, true, true, true, true, true, true, false, false, true, false, true, false, false, false, false, false] rfl rfl (bC HT_.out (by kernel_rfl)) (fun _ _ _ h => h) (Or.inl ⟨by rfl, ?_⟩) ?_ ?_
               rotate_left
               ·intro w'
                go_simp
                with_reducible rfl
               rotate_left
               ·simp only [Act.put, lA, lB, lC, aU, aT]
                rfl
               refine take_ (i := 7) (N := some 84) (v := ?_) (a' := ?_) #[true, true, true, true, true, true, true, true, false, true, false, true, false, false, false, false, false] rfl rfl (take_ofW HT_.out HW_.out (by kernel_rfl)) (fun _ _ _ h => h) (Or.inl ⟨by rfl, ?_⟩) hHeld ?_ ?_
               rotate_left
               ·rintro w' ⟨s0, s1, s2, s3, s4, s5, s6, s7, s8, s9, sC0_, sC1_⟩
                go_simp
                with_reducible rfl
               rotate_left
               ·simp only [Act.put, lA, lB, lC, aU, aT]
                rfl
               refine take_ (i := 8) (N := some 85) (v := ?_) (a' := ?_) #[true, true, true, true, true, true, true, true, true, true, false, true, false, false, false, false, false] rfl rfl (take_ofW HT_.out HW_.out (by kernel_rfl)) (fun _ _ _ h => h) (Or.inl ⟨by rfl, ?_⟩) hHeld ?_ ?_
               rotate_left
               ·rintro w' ⟨s0, s1, s2, s3, s4, s5, s6, s7, s8, s9, sC0_, sC1_⟩
                have hcv_ := Kd.C_string (P := Try.prog) (A := A243_0) (c := c243_0) Try.underlying37 Try.underlying5 Try.underlying9 sC0_
                go_simp
                with_reducible rfl
               rotate_left
               ·simp only [Act.put, lA, lB, lC, aU, aT]
                rfl
               refine take_ (i := 10) (N := some 87) (v := ?_) (a' := ?_) #[true, true, true, true, true, true, true, true, true, true, true, true, false, false, false, false, false] rfl rfl (take_ofW HT_.out HW_.out (by kernel_rfl)) (fun _ _ _ h => h) (Or.inl ⟨by rfl, ?_⟩) hHeld ?_ ?_
               rotate_left
               ·rintro w' ⟨s0, s1, s2, s3, s4, s5, s6, s7, s8, s9, sC0_, sC1_⟩
                go_simp
                with_reducible rfl
               rotate_left
               ·simp only [Act.put, lA, lB, lC, aU, aT]
                rfl
               refine bB (i := 12) (N := some 89) (v := ?_) (a' := ?_) #[true, true, true, true, true, true, true, true, true, true, true, true, true, false, false, false, false] rfl rfl (bC HT_.out (by kernel_rfl)) (fun _ _ _ h => h) (Or.inl ⟨by rfl, ?_⟩) ?_ ?_
               rotate_left
               ·intro w'
                go_simp
                with_reducible rfl
               rotate_left
               ·simp only [Act.put, lA, lB, lC, aU, aT]
                rfl
               refine take_ (i := 13) (N := some 90) (v := ?_) (a' := ?_) #[true, true, true, true, true, true, true, true, true, true, true, true, true, true, false, false, false] rfl rfl (take_ofW HT_.out HW_.out (by kernel_rfl)) (fun _ _ _ h => h) (Or.inl ⟨by rfl, ?_⟩) hHeld ?_ ?_
               rotate_left
               ·rintro w' ⟨s0, s1, s2, s3, s4, s5, s6, s7, s8, s9, sC0_, sC1_⟩
                go_simp
                with_reducible rfl
               rotate_left
               ·simp only [Act.put, lA, lB, lC, aU, aT]
                rfl
               refine take_ (i := 14) (N := some 91) (v := ?_) (a' := ?_) #[true, true, true, true, true, true, true, true, true, true, true, true, true, true, true, false, false] rfl rfl (take_ofW HT_.out HW_.out (by kernel_rfl)) (fun _ _ _ h => h) (Or.inl ⟨by rfl, ?_⟩) hHeld ?_ ?_
               rotate_left
               ·rintro w' ⟨s0, s1, s2, s3, s4, s5, s6, s7, s8, s9, sC0_, sC1_⟩
                have hcv_ := Kd.C_string (P := Try.prog) (A := A244_0) (c := c244_0) Try.underlying37 Try.underlying5 Try.underlying9 sC1_
                go_simp
                with_reducible rfl
               rotate_left
               ·simp only [Act.put, lA, lB, lC, aU, aT]
                rfl
               refine bB (i := 15) (N := some 92) (v := ?_) (a' := ?_) #[true, true, true, true, true, true, true, true, true, true, true, true, true, true, true, true, false] rfl rfl (bC HT_.out (by kernel_rfl)) (fun _ _ _ h => h) (Or.inl ⟨by rfl, ?_⟩) ?_ ?_
               rotate_left
               ·intro w'
                go_simp
                with_reducible rfl
               rotate_left
               ·simp only [Act.put, lA, lB, lC, aU, aT]
                rfl
               refine bB (i := 16) (N := some 93) (v := ?_) (a' := ?_) #[true, true, true, true, true, true, true, true, true, true, true, true, true, true, true, true, true] rfl rfl (bC HT_.out (by kernel_rfl)) (fun _ _ _ h => h) (Or.inl ⟨by rfl, ?_⟩) ?_ ?_
               rotate_left
               ·intro w'
                go_simp
                with_reducible rfl
               rotate_left
               ·simp only [Act.put, lA, lB, lC, aU, aT]
                rfl
               refine done_ (done_of HT_.out (by kernel_rfl)) ?_
               try go_wp2
               go_ret
               exact ⟨by first | rfl | (simp [errW_none, errW_some] <;> rfl) | (simp [*, errW_none, errW_some] <;> rfl), by repeat (first | (with_reducible first | exact HB.out | apply aM | apply aG | apply aJ | refine aE ?_ GE216.out | refine aE ?_ GE227.out | refine aE ?_ GE236.out) | exact HB.out)⟩
             ·rw [if_neg c68] at H
              exact absurd H (by simp)
            ·rw [if_neg c67] at H
             exact absurd H (by simp)
           ·rw [if_neg c66] at H
            exact absurd H (by simp)
          ·replace c65 := Bool.eq_false_iff.mpr c65
           subst c65
           have H1 : (some false) = some r := by rw [if_neg (show ¬ (false = true) by decide)] at H; exact H
           clear H
           have H := H1
           clear H1
           obtain rfl := Option.some.inj H
           have hnb84 := NB216_227.out
           have hnc84 := NB227_216.out
           have hnb85 := NB216_236.out
           have hnc85 := NB236_216.out
           have hcz86_0 : wr.cell? ⟨gb216, 0, none⟩ = some (.slice (some ad239) t208.length co11) := (aD BK216.out 0).trans rfl
           have hcz86_1 : wr.cell? ⟨gb216, 1, none⟩ = some (.slice Ao13 t211.length co13) := (aD BK216.out 1).trans rfl
           have hcz86_2 : wr.cell? ⟨gb216, 2, none⟩ = some (.int .i64 t214) := (aD BK216.out 2).trans rfl
           have hcz86_3 : wr.cell? ⟨gb216, 3, none⟩ = some (.bool t215) := (aD BK216.out 3).trans rfl
           have hfz86_0 := aC BK216.out 0
           have hfz86_1 := aC BK216.out 1
           have hfz86_2 := aC BK216.out 2
           have hfz86_3 := aC BK216.out 3
           try go_wp2
           have n0_ := aA.mk (Kd.aV HO_217000.out)
           have n1_ := aA.mk (Kd.aV HO_217001.out)
           have n2_ := aA.mk (Kd.aV HO_228000.out)
           have n3_ := aA.mk (Kd.aV HO_228001.out)
           have n4_ := aA.mk (Kd.aV HO_237000.out)
           have n5_ := aA.mk (Kd.aV HO_237001.out)
           have n6_ := aA.mk (aN BK216.out)
           have n7_ := aA.mk (aN BK227.out)
           have n8_ := aA.mk (aN BK236.out)
           have n9_ := aA.mk (aJ HB.out)
           clear HO_217000
           clear HO_217001
           clear HO_228000
           clear HO_228001
           clear HO_237000
           clear HO_237001
           clear BK216
           clear BK227
           clear BK236
           clear HB
           have HO_217000 := n0_
           have HO_217001 := n1_
           have HO_228000 := n2_
           have HO_228001 := n3_
           have HO_237000 := n4_
           have HO_237001 := n5_
           have BK216 := n6_
           have BK227 := n7_
           have BK236 := n8_
           have HB := n9_
           clear n0_ n1_ n2_ n3_ n4_ n5_ n6_ n7_ n8_ n9_
           refine start_ (n := 17) (S := fun w' => True) (ds := []) #[false, false, false, false, false, false, false, false, false, false, false, false, false, false, false, false, false] (by kernel_rfl) rfl rfl trivial (fun hHeld => ?_); refine with_tabW laws_FnFalls.tab14 laws_FnFalls.bits14 (fun HT_ HW_ => ?_)
           generalize wr.drew = w87 at HO_217000 HO_217001 HO_228000 HO_228001 HO_237000 HO_237001 BK216 BK227 BK236 HB hHeld ⊢
           refine bB (i := 0) (N := some 77) (v := ?_) (a' := ?_) #[true, false, false, false, false, false, false, false, false, false, false, false, false, false, false, false, false] rfl rfl (bC HT_.out (by kernel_rfl)) (fun _ _ _ h => h) (Or.inl ⟨by rfl, ?_⟩) ?_ ?_
           rotate_left
           ·intro w'
            go_simp
            with_reducible rfl
           rotate_left
           ·simp only [Act.put, lA, lB, lC, aU, aT]
            rfl
           refine bB (i := 1) (N := some 78) (v := ?_) (a' := ?_) #[true, true, false, false, false, false, false, false, false, false, false, false, false, false, false, false, false] rfl rfl (bC HT_.out (by kernel_rfl)) (fun _ _ _ h => h) (Or.inl ⟨by rfl, ?_⟩) ?_ ?_
           rotate_left
           ·intro w'
            go_simp
            with_reducible rfl
           rotate_left
           ·simp only [Act.put, lA, lB, lC, aU, aT]
            rfl
           refine bB (i := 2) (N := some 79) (v := ?_) (a' := ?_) #[true, true, true, false, false, false, false, false, false, false, false, false, false, false, false, false, false] rfl rfl (bC HT_.out (by kernel_rfl)) (fun _ _ _ h => h) (Or.inl ⟨by rfl, ?_⟩) ?_ ?_
           rotate_left
           ·intro w'
            go_simp
            with_reducible rfl
           rotate_left
           ·simp only [Act.put, lA, lB, lC, aU, aT]
            rfl
           refine bB (i := 3) (N := some 80) (v := undef) (a' := ?_) #[true, true, true, true, false, false, false, false, false, false, false, false, false, false, false, false, false] rfl rfl (bC HT_.out (by kernel_rfl)) (fun _ _ _ h => h) (Or.inr ⟨by rfl, rfl⟩) ?_ ?_
           rotate_left
           ·simp only [Act.put, lA, lB, lC, aU, aT]
            rfl
           refine bB (i := 4) (N := some 81) (v := undef) (a' := ?_) #[true, true, true, true, true, false, false, false, false, false, false, false, false, false, false, false, false] rfl rfl (bC HT_.out (by kernel_rfl)) (fun _ _ _ h => h) (Or.inr ⟨by rfl, rfl⟩) ?_ ?_
           rotate_left
           ·simp only [Act.put, lA, lB, lC, aU, aT]
            rfl
           refine bB (i := 5) (N := some 82) (v := undef) (a' := ?_) #[true, true, true, true, true, true, false, false, false, false, false, false, false, false, false, false, false] rfl rfl (bC HT_.out (by kernel_rfl)) (fun _ _ _ h => h) (Or.inr ⟨by rfl, rfl⟩) ?_ ?_
           rotate_left
           ·simp only [Act.put, lA, lB, lC, aU, aT]
            rfl
           refine bB (i := 6) (N := some 83) (v := undef) (a' := ?_) #[true, true, true, true, true, true, true, false, false, false, false, false, false, false, false, false, false] rfl rfl (bC HT_.out (by kernel_rfl)) (fun _ _ _ h => h) (Or.inr ⟨by rfl, rfl⟩) ?_ ?_
           rotate_left
           ·simp only [Act.put, lA, lB, lC, aU, aT]
            rfl
           refine bB (i := 7) (N := some 84) (v := undef) (a' := ?_) #[true, true, true, true, true, true, true, true, false, false, false, false, false, false, false, false, false] rfl rfl (bC HT_.out (by kernel_rfl)) (fun _ _ _ h => h) (Or.inr ⟨by rfl, rfl⟩) ?_ ?_
           rotate_left
           ·simp only [Act.put, lA, lB, lC, aU, aT]
            rfl
           refine bB (i := 8) (N := some 85) (v := undef) (a' := ?_) #[true, true, true, true, true, true, true, true, true, false, false, false, false, false, false, false, false] rfl rfl (bC HT_.out (by kernel_rfl)) (fun _ _ _ h => h) (Or.inr ⟨by rfl, rfl⟩) ?_ ?_
           rotate_left
           ·simp only [Act.put, lA, lB, lC, aU, aT]
            rfl
           refine bB (i := 9) (N := some 86) (v := undef) (a' := ?_) #[true, true, true, true, true, true, true, true, true, true, false, false, false, false, false, false, false] rfl rfl (bC HT_.out (by kernel_rfl)) (fun _ _ _ h => h) (Or.inr ⟨by rfl, rfl⟩) ?_ ?_
           rotate_left
           ·simp only [Act.put, lA, lB, lC, aU, aT]
            rfl
           refine bB (i := 10) (N := some 87) (v := undef) (a' := ?_) #[true, true, true, true, true, true, true, true, true, true, true, false, false, false, false, false, false] rfl rfl (bC HT_.out (by kernel_rfl)) (fun _ _ _ h => h) (Or.inr ⟨by rfl, rfl⟩) ?_ ?_
           rotate_left
           ·simp only [Act.put, lA, lB, lC, aU, aT]
            rfl
           refine bB (i := 11) (N := some 88) (v := undef) (a' := ?_) #[true, true, true, true, true, true, true, true, true, true, true, true, false, false, false, false, false] rfl rfl (bC HT_.out (by kernel_rfl)) (fun _ _ _ h => h) (Or.inr ⟨by rfl, rfl⟩) ?_ ?_
           rotate_left
           ·simp only [Act.put, lA, lB, lC, aU, aT]
            rfl
           refine bB (i := 12) (N := some 89) (v := undef) (a' := ?_) #[true, true, true, true, true, true, true, true, true, true, true, true, true, false, false, false, false] rfl rfl (bC HT_.out (by kernel_rfl)) (fun _ _ _ h => h) (Or.inr ⟨by rfl, rfl⟩) ?_ ?_
           rotate_left
           ·simp only [Act.put, lA, lB, lC, aU, aT]
            rfl
           refine bB (i := 13) (N := some 90) (v := undef) (a' := ?_) #[true, true, true, true, true, true, true, true, true, true, true, true, true, true, false, false, false] rfl rfl (bC HT_.out (by kernel_rfl)) (fun _ _ _ h => h) (Or.inr ⟨by rfl, rfl⟩) ?_ ?_
           rotate_left
           ·simp only [Act.put, lA, lB, lC, aU, aT]
            rfl
           refine bB (i := 14) (N := some 91) (v := undef) (a' := ?_) #[true, true, true, true, true, true, true, true, true, true, true, true, true, true, true, false, false] rfl rfl (bC HT_.out (by kernel_rfl)) (fun _ _ _ h => h) (Or.inr ⟨by rfl, rfl⟩) ?_ ?_
           rotate_left
           ·simp only [Act.put, lA, lB, lC, aU, aT]
            rfl
           refine bB (i := 15) (N := some 92) (v := undef) (a' := ?_) #[true, true, true, true, true, true, true, true, true, true, true, true, true, true, true, true, false] rfl rfl (bC HT_.out (by kernel_rfl)) (fun _ _ _ h => h) (Or.inr ⟨by rfl, rfl⟩) ?_ ?_
           rotate_left
           ·simp only [Act.put, lA, lB, lC, aU, aT]
            rfl
           refine bB (i := 16) (N := some 93) (v := ?_) (a' := ?_) #[true, true, true, true, true, true, true, true, true, true, true, true, true, true, true, true, true] rfl rfl (bC HT_.out (by kernel_rfl)) (fun _ _ _ h => h) (Or.inl ⟨by rfl, ?_⟩) ?_ ?_
           rotate_left
           ·intro w'
            go_simp
            with_reducible rfl
           rotate_left
           ·simp only [Act.put, lA, lB, lC, aU, aT]
            rfl
           refine done_ (done_of HT_.out (by kernel_rfl)) ?_
           try go_wp2
           go_ret
           exact ⟨by first | rfl | (simp [errW_none, errW_some] <;> rfl) | (simp [*, errW_none, errW_some] <;> rfl), by repeat (first | (with_reducible first | exact HB.out | apply aM | apply aG | apply aJ | refine aE ?_ GE216.out | refine aE ?_ GE227.out | refine aE ?_ GE236.out) | exact HB.out)⟩
      ·rw [if_neg c36] at H
       exact absurd H (by simp)
     ·rw [if_neg c35] at H
      exact absurd H (by simp)
    ·rw [if_neg c34] at H
     have c34b0 : decide (x6_1 < (t208.length : Int)) = false := decide_eq_false c34
     clear c34
     replace H := lF H
     obtain ⟨t237, A880, H⟩ := H
     replace H : (if t237 = true then (if (t222.length : Int) = 0 then (if t226 = true then (some false) else (some (t225 == (-1)))) else (some false)) else (some false)) = some r := H
     have A88 := aA.mk A880
     clear A880
     by_cases c89 : t237 = true
     ·subst c89
      have H1 : (if (t222.length : Int) = 0 then (if t226 = true then (some false) else (some (t225 == (-1)))) else (some false)) = some r := by rw [if_pos rfl] at H; exact H
      clear H
      have H := H1
      clear H1
      by_cases c90 : (t222.length : Int) = 0
      ·rw [if_pos c90] at H
       have c90b0 : ((t222.length : Int) == 0) = true := beq_iff_eq.mpr c90
       have c90b1 : ((t222.length : Int) != 0) = false := bne_eq_false_iff_eq.mpr c90
       clear c90
       by_cases c91 : t226 = true
       ·subst c91
        have H1 : (some false) = some r := by rw [if_pos rfl] at H; exact H
        clear H
        have H := H1
        clear H1
        obtain rfl := Option.some.inj H
        have hnb92 := NB216_227.out
        have hnc92 := NB227_216.out
        have hnb93 := NB216_236.out
        have hnc93 := NB236_216.out
        have hcz94_0 : wr.cell? ⟨gb216, 0, none⟩ = some (.slice Ao11 t208.length co11) := (aD BK216.out 0).trans rfl
        have hcz94_1 : wr.cell? ⟨gb216, 1, none⟩ = some (.slice Ao13 t211.length co13) := (aD BK216.out 1).trans rfl
        have hcz94_2 : wr.cell? ⟨gb216, 2, none⟩ = some (.int .i64 t214) := (aD BK216.out 2).trans rfl
        have hcz94_3 : wr.cell? ⟨gb216, 3, none⟩ = some (.bool t215) := (aD BK216.out 3).trans rfl
        have hfz94_0 := aC BK216.out 0
        have hfz94_1 := aC BK216.out 1
        have hfz94_2 := aC BK216.out 2
        have hfz94_3 := aC BK216.out 3
        have hnb95 := NB227_236.out
        have hnc95 := NB236_227.out
        have hcz96_0 : wr.cell? ⟨gb227, 0, none⟩ = some (.slice Ao19 t219.length co19) := (aD BK227.out 0).trans rfl
        have hcz96_1 : wr.cell? ⟨gb227, 1, none⟩ = some (.slice Ao21 t222.length co21) := (aD BK227.out 1).trans rfl
        have hcz96_2 : wr.cell? ⟨gb227, 2, none⟩ = some (.int .i64 t225) := (aD BK227.out 2).trans rfl
        have hcz96_3 : wr.cell? ⟨gb227, 3, none⟩ = some (.bool true) := (aD BK227.out 3).trans rfl
        have hfz96_0 := aC BK227.out 0
        have hfz96_1 := aC BK227.out 1
        have hfz96_2 := aC BK227.out 2
        have hfz96_3 := aC BK227.out 3
        go_wp2_with (first | ((with_reducible refine bJ (f := 20) rfl ?_); refine goesL_ (some 95) rfl rfl Try.func20 (by kernel_rfl) rfl #[.agg #[.slice Ao19 t219.length co19, .slice Ao21 t222.length co21, .int .i64 t225, .bool true]] rfl (by (try simp only [List.map_toArray, List.map_cons, List.map_nil]); first | done | rfl | (simp only [List.length_drop, List.length_take]; rfl)) ?_; (with_reducible refine (impl_DevOk.calls k1 _ _ t219 _ _ t222 t225 true true _ ?side1 ?side2 ?side3 ?side4 A88.out).mono ?_); (case side1 => repeat (first | exact (Kd.N_reads' HO_228000.out).2.2 | (with_reducible refine Kd.C_alloc ?_ _) | (with_reducible refine Kd.C_drewN ?_ _) | (with_reducible refine Kd.C_drew ?_))); (case side2 => exact (Kd.N_reads' HO_228000.out).2.1); (case side3 => repeat (first | exact (Kd.N_reads' HO_228001.out).2.2 | (with_reducible refine Kd.C_alloc ?_ _) | (with_reducible refine Kd.C_drewN ?_ _) | (with_reducible refine Kd.C_drew ?_))); (case side4 => exact (Kd.N_reads' HO_228001.out).2.1); rintro e w97 ⟨rfl, hb⟩; refine ⟨_, rfl, ?_⟩; have n0_ := aA.mk (Kd.bL (by (with_reducible repeat (first | apply Kd.aY | apply Kd.aX | apply Kd.aV)); exact HO_217000.out) hb); have n1_ := aA.mk (Kd.bL (by (with_reducible repeat (first | apply Kd.aY | apply Kd.aX | apply Kd.aV)); exact HO_217001.out) hb); have n2_ := aA.mk (Kd.bL (by (with_reducible repeat (first | apply Kd.aY | apply Kd.aX | apply Kd.aV)); exact HO_228000.out) hb); have n3_ := aA.mk (Kd.bL (by (with_reducible repeat (first | apply Kd.aY | apply Kd.aX | apply Kd.aV)); exact HO_228001.out) hb); have n4_ := aA.mk (Kd.bL (by (with_reducible repeat (first | apply Kd.aY | apply Kd.aX | apply Kd.aV)); exact HO_237000.out) hb); have n5_ := aA.mk (Kd.bL (by (with_reducible repeat (first | apply Kd.aY | apply Kd.aX | apply Kd.aV)); exact HO_237001.out) hb); have n6_ := aA.mk (aW (g := gb216) (o := .cells #[.slice Ao11 t208.length co11, .slice Ao13 t211.length co13, .int .i64 t214, .bool t215] 25 (0, 0)) (by (with_reducible repeat (first | refine aQ ?_ _ | refine aN ?_ | refine aH ?_ _)); exact BK216.out) hb); have n7_ := aA.mk (aW (g := gb227) (o := .cells #[.slice Ao19 t219.length co19, .slice Ao21 t222.length co21, .int .i64 t225, .bool true] 25 (0, 0)) (by (with_reducible repeat (first | refine aQ ?_ _ | refine aN ?_ | refine aH ?_ _)); exact BK227.out) hb); have n8_ := aA.mk (aW (g := gb236) (o := .cells #[.slice Ao29 t228.length co29, .slice Ao33 t231.length co33, .int .i64 t234, .bool t235] 25 (0, 0)) (by (with_reducible repeat (first | refine aQ ?_ _ | refine aN ?_ | refine aH ?_ _)); exact BK236.out) hb); have n9_ := aA.mk (bD (by repeat (first | (with_reducible first | exact HB.out | apply aM | apply aG | apply aJ | refine aE ?_ GE216.out | refine aE ?_ GE227.out | refine aE ?_ GE236.out) | exact HB.out)) hb); clear HO_217000; clear HO_217001; clear HO_228000; clear HO_228001; clear HO_237000; clear HO_237001; clear BK216; clear BK227; clear BK236; clear HB; have HO_217000 := n0_; have HO_217001 := n1_; have HO_228000 := n2_; have HO_228001 := n3_; have HO_237000 := n4_; have HO_237001 := n5_; have BK216 := n6_; have BK227 := n7_; have BK236 := n8_; have HB := n9_; clear n0_ n1_ n2_ n3_ n4_ n5_ n6_ n7_ n8_ n9_; (try clear hb); have hcz98_0 : w97.cell? ⟨gb227, 0, none⟩ = some (.slice Ao19 t219.length co19) := (aD BK227.out 0).trans rfl; have hcz98_1 : w97.cell? ⟨gb227, 1, none⟩ = some (.slice Ao21 t222.length co21) := (aD BK227.out 1).trans rfl; have hcz98_2 : w97.cell? ⟨gb227, 2, none⟩ = some (.int .i64 t225) := (aD BK227.out 2).trans rfl; have hcz98_3 : w97.cell? ⟨gb227, 3, none⟩ = some (.bool true) := (aD BK227.out 3).trans rfl; have hfz98_0 := aC BK227.out 0; have hfz98_1 := aC BK227.out 1; have hfz98_2 := aC BK227.out 2; have hfz98_3 := aC BK227.out 3))
        go_ret
        exact ⟨by first | rfl | (simp [errW_none, errW_some] <;> rfl) | (simp [*, errW_none, errW_some] <;> rfl), by repeat (first | (with_reducible first | exact HB.out | apply aM | apply aG | apply aJ | refine aE ?_ GE216.out | refine aE ?_ GE227.out | refine aE ?_ GE236.out) | exact HB.out)⟩
       ·replace c91 := Bool.eq_false_iff.mpr c91
        subst c91
        have H1 : (some (t225 == (-1))) = some r := by rw [if_neg (show ¬ (false = true) by decide)] at H; exact H
        clear H
        have H := H1
        clear H1
        obtain rfl := Option.some.inj H
        have hnb99 := NB216_227.out
        have hnc99 := NB227_216.out
        have hnb100 := NB216_236.out
        have hnc100 := NB236_216.out
        have hcz101_0 : wr.cell? ⟨gb216, 0, none⟩ = some (.slice Ao11 t208.length co11) := (aD BK216.out 0).trans rfl
        have hcz101_1 : wr.cell? ⟨gb216, 1, none⟩ = some (.slice Ao13 t211.length co13) := (aD BK216.out 1).trans rfl
        have hcz101_2 : wr.cell? ⟨gb216, 2, none⟩ = some (.int .i64 t214) := (aD BK216.out 2).trans rfl
        have hcz101_3 : wr.cell? ⟨gb216, 3, none⟩ = some (.bool t215) := (aD BK216.out 3).trans rfl
        have hfz101_0 := aC BK216.out 0
        have hfz101_1 := aC BK216.out 1
        have hfz101_2 := aC BK216.out 2
        have hfz101_3 := aC BK216.out 3
        have hnb102 := NB227_236.out
        have hnc102 := NB236_227.out
        have hcz103_0 : wr.cell? ⟨gb227, 0, none⟩ = some (.slice Ao19 t219.length co19) := (aD BK227.out 0).trans rfl
        have hcz103_1 : wr.cell? ⟨gb227, 1, none⟩ = some (.slice Ao21 t222.length co21) := (aD BK227.out 1).trans rfl
        have hcz103_2 : wr.cell? ⟨gb227, 2, none⟩ = some (.int .i64 t225) := (aD BK227.out 2).trans rfl
        have hcz103_3 : wr.cell? ⟨gb227, 3, none⟩ = some (.bool false) := (aD BK227.out 3).trans rfl
        have hfz103_0 := aC BK227.out 0
        have hfz103_1 := aC BK227.out 1
        have hfz103_2 := aC BK227.out 2
        have hfz103_3 := aC BK227.out 3
        go_wp2_with (first | ((with_reducible refine bJ (f := 20) rfl ?_); refine goesL_ (some 95) rfl rfl Try.func20 (by kernel_rfl) rfl #[.agg #[.slice Ao19 t219.length co19, .slice Ao21 t222.length co21, .int .i64 t225, .bool false]] rfl (by (try simp only [List.map_toArray, List.map_cons, List.map_nil]); first | done | rfl | (simp only [List.length_drop, List.length_take]; rfl)) ?_; (with_reducible refine (impl_DevOk.calls k1 _ _ t219 _ _ t222 t225 false true _ ?side1 ?side2 ?side3 ?side4 A88.out).mono ?_); (case side1 => repeat (first | exact (Kd.N_reads' HO_228000.out).2.2 | (with_reducible refine Kd.C_alloc ?_ _) | (with_reducible refine Kd.C_drewN ?_ _) | (with_reducible refine Kd.C_drew ?_))); (case side2 => exact (Kd.N_reads' HO_228000.out).2.1); (case side3 => repeat (first | exact (Kd.N_reads' HO_228001.out).2.2 | (with_reducible refine Kd.C_alloc ?_ _) | (with_reducible refine Kd.C_drewN ?_ _) | (with_reducible refine Kd.C_drew ?_))); (case side4 => exact (Kd.N_reads' HO_228001.out).2.1); rintro e w104 ⟨rfl, hb⟩; refine ⟨_, rfl, ?_⟩; have n0_ := aA.mk (Kd.bL (by (with_reducible repeat (first | apply Kd.aY | apply Kd.aX | apply Kd.aV)); exact HO_217000.out) hb); have n1_ := aA.mk (Kd.bL (by (with_reducible repeat (first | apply Kd.aY | apply Kd.aX | apply Kd.aV)); exact HO_217001.out) hb); have n2_ := aA.mk (Kd.bL (by (with_reducible repeat (first | apply Kd.aY | apply Kd.aX | apply Kd.aV)); exact HO_228000.out) hb); have n3_ := aA.mk (Kd.bL (by (with_reducible repeat (first | apply Kd.aY | apply Kd.aX | apply Kd.aV)); exact HO_228001.out) hb); have n4_ := aA.mk (Kd.bL (by (with_reducible repeat (first | apply Kd.aY | apply Kd.aX | apply Kd.aV)); exact HO_237000.out) hb); have n5_ := aA.mk (Kd.bL (by (with_reducible repeat (first | apply Kd.aY | apply Kd.aX | apply Kd.aV)); exact HO_237001.out) hb); have n6_ := aA.mk (aW (g := gb216) (o := .cells #[.slice Ao11 t208.length co11, .slice Ao13 t211.length co13, .int .i64 t214, .bool t215] 25 (0, 0)) (by (with_reducible repeat (first | refine aQ ?_ _ | refine aN ?_ | refine aH ?_ _)); exact BK216.out) hb); have n7_ := aA.mk (aW (g := gb227) (o := .cells #[.slice Ao19 t219.length co19, .slice Ao21 t222.length co21, .int .i64 t225, .bool false] 25 (0, 0)) (by (with_reducible repeat (first | refine aQ ?_ _ | refine aN ?_ | refine aH ?_ _)); exact BK227.out) hb); have n8_ := aA.mk (aW (g := gb236) (o := .cells #[.slice Ao29 t228.length co29, .slice Ao33 t231.length co33, .int .i64 t234, .bool t235] 25 (0, 0)) (by (with_reducible repeat (first | refine aQ ?_ _ | refine aN ?_ | refine aH ?_ _)); exact BK236.out) hb); have n9_ := aA.mk (bD (by repeat (first | (with_reducible first | exact HB.out | apply aM | apply aG | apply aJ | refine aE ?_ GE216.out | refine aE ?_ GE227.out | refine aE ?_ GE236.out) | exact HB.out)) hb); clear HO_217000; clear HO_217001; clear HO_228000; clear HO_228001; clear HO_237000; clear HO_237001; clear BK216; clear BK227; clear BK236; clear HB; have HO_217000 := n0_; have HO_217001 := n1_; have HO_228000 := n2_; have HO_228001 := n3_; have HO_237000 := n4_; have HO_237001 := n5_; have BK216 := n6_; have BK227 := n7_; have BK236 := n8_; have HB := n9_; clear n0_ n1_ n2_ n3_ n4_ n5_ n6_ n7_ n8_ n9_; (try clear hb); have hcz105_0 : w104.cell? ⟨gb227, 0, none⟩ = some (.slice Ao19 t219.length co19) := (aD BK227.out 0).trans rfl; have hcz105_1 : w104.cell? ⟨gb227, 1, none⟩ = some (.slice Ao21 t222.length co21) := (aD BK227.out 1).trans rfl; have hcz105_2 : w104.cell? ⟨gb227, 2, none⟩ = some (.int .i64 t225) := (aD BK227.out 2).trans rfl; have hcz105_3 : w104.cell? ⟨gb227, 3, none⟩ = some (.bool false) := (aD BK227.out 3).trans rfl; have hfz105_0 := aC BK227.out 0; have hfz105_1 := aC BK227.out 1; have hfz105_2 := aC BK227.out 2; have hfz105_3 := aC BK227.out 3))
        go_ret
        exact ⟨by first | rfl | (simp [errW_none, errW_some] <;> rfl) | (simp [*, errW_none, errW_some] <;> rfl), by repeat (first | (with_reducible first | exact HB.out | apply aM | apply aG | apply aJ | refine aE ?_ GE216.out | refine aE ?_ GE227.out | refine aE ?_ GE236.out) | exact HB.out)⟩
      ·rw [if_neg c90] at H
       have c90b0 : ((t222.length : Int) == 0) = false := beq_eq_false_iff_ne.mpr c90
       have c90b1 : ((t222.length : Int) != 0) = true := bne_iff_ne.mpr c90
       have c90b2 : ¬ (t222 = []) := fun h_ => c90 (by rw [h_]; rfl)
       obtain rfl := Option.some.inj H
       have hnb106 := NB216_227.out
       have hnc106 := NB227_216.out
       have hnb107 := NB216_236.out
       have hnc107 := NB236_216.out
       have hcz108_0 : wr.cell? ⟨gb216, 0, none⟩ = some (.slice Ao11 t208.length co11) := (aD BK216.out 0).trans rfl
       have hcz108_1 : wr.cell? ⟨gb216, 1, none⟩ = some (.slice Ao13 t211.length co13) := (aD BK216.out 1).trans rfl
       have hcz108_2 : wr.cell? ⟨gb216, 2, none⟩ = some (.int .i64 t214) := (aD BK216.out 2).trans rfl
       have hcz108_3 : wr.cell? ⟨gb216, 3, none⟩ = some (.bool t215) := (aD BK216.out 3).trans rfl
       have hfz108_0 := aC BK216.out 0
       have hfz108_1 := aC BK216.out 1
       have hfz108_2 := aC BK216.out 2
       have hfz108_3 := aC BK216.out 3
       have hnb109 := NB227_236.out
       have hnc109 := NB236_227.out
       have hcz110_0 : wr.cell? ⟨gb227, 0, none⟩ = some (.slice Ao19 t219.length co19) := (aD BK227.out 0).trans rfl
       have hcz110_1 : wr.cell? ⟨gb227, 1, none⟩ = some (.slice Ao21 t222.length co21) := (aD BK227.out 1).trans rfl
       have hcz110_2 : wr.cell? ⟨gb227, 2, none⟩ = some (.int .i64 t225) := (aD BK227.out 2).trans rfl
       have hcz110_3 : wr.cell? ⟨gb227, 3, none⟩ = some (.bool t226) := (aD BK227.out 3).trans rfl
       have hfz110_0 := aC BK227.out 0
       have hfz110_1 := aC BK227.out 1
       have hfz110_2 := aC BK227.out 2
       have hfz110_3 := aC BK227.out 3
       go_wp2_with (first | ((with_reducible refine bJ (f := 20) rfl ?_); refine goesL_ (some 95) rfl rfl Try.func20 (by kernel_rfl) rfl #[.agg #[.slice Ao19 t219.length co19, .slice Ao21 t222.length co21, .int .i64 t225, .bool t226]] rfl (by (try simp only [List.map_toArray, List.map_cons, List.map_nil]); first | done | rfl | (simp only [List.length_drop, List.length_take]; rfl)) ?_; (with_reducible refine (impl_DevOk.calls k1 _ _ t219 _ _ t222 t225 t226 true _ ?side1 ?side2 ?side3 ?side4 A88.out).mono ?_); (case side1 => repeat (first | exact (Kd.N_reads' HO_228000.out).2.2 | (with_reducible refine Kd.C_alloc ?_ _) | (with_reducible refine Kd.C_drewN ?_ _) | (with_reducible refine Kd.C_drew ?_))); (case side2 => exact (Kd.N_reads' HO_228000.out).2.1); (case side3 => repeat (first | exact (Kd.N_reads' HO_228001.out).2.2 | (with_reducible refine Kd.C_alloc ?_ _) | (with_reducible refine Kd.C_drewN ?_ _) | (with_reducible refine Kd.C_drew ?_))); (case side4 => exact (Kd.N_reads' HO_228001.out).2.1); rintro e w111 ⟨rfl, hb⟩; refine ⟨_, rfl, ?_⟩; have n0_ := aA.mk (Kd.bL (by (with_reducible repeat (first | apply Kd.aY | apply Kd.aX | apply Kd.aV)); exact HO_217000.out) hb); have n1_ := aA.mk (Kd.bL (by (with_reducible repeat (first | apply Kd.aY | apply Kd.aX | apply Kd.aV)); exact HO_217001.out) hb); have n2_ := aA.mk (Kd.bL (by (with_reducible repeat (first | apply Kd.aY | apply Kd.aX | apply Kd.aV)); exact HO_228000.out) hb); have n3_ := aA.mk (Kd.bL (by (with_reducible repeat (first | apply Kd.aY | apply Kd.aX | apply Kd.aV)); exact HO_228001.out) hb); have n4_ := aA.mk (Kd.bL (by (with_reducible repeat (first | apply Kd.aY | apply Kd.aX | apply Kd.aV)); exact HO_237000.out) hb); have n5_ := aA.mk (Kd.bL (by (with_reducible repeat (first | apply Kd.aY | apply Kd.aX | apply Kd.aV)); exact HO_237001.out) hb); have n6_ := aA.mk (aW (g := gb216) (o := .cells #[.slice Ao11 t208.length co11, .slice Ao13 t211.length co13, .int .i64 t214, .bool t215] 25 (0, 0)) (by (with_reducible repeat (first | refine aQ ?_ _ | refine aN ?_ | refine aH ?_ _)); exact BK216.out) hb); have n7_ := aA.mk (aW (g := gb227) (o := .cells #[.slice Ao19 t219.length co19, .slice Ao21 t222.length co21, .int .i64 t225, .bool t226] 25 (0, 0)) (by (with_reducible repeat (first | refine aQ ?_ _ | refine aN ?_ | refine aH ?_ _)); exact BK227.out) hb); have n8_ := aA.mk (aW (g := gb236) (o := .cells #[.slice Ao29 t228.length co29, .slice Ao33 t231.length co33, .int .i64 t234, .bool t235] 25 (0, 0)) (by (with_reducible repeat (first | refine aQ ?_ _ | refine aN ?_ | refine aH ?_ _)); exact BK236.out) hb); have n9_ := aA.mk (bD (by repeat (first | (with_reducible first | exact HB.out | apply aM | apply aG | apply aJ | refine aE ?_ GE216.out | refine aE ?_ GE227.out | refine aE ?_ GE236.out) | exact HB.out)) hb); clear HO_217000; clear HO_217001; clear HO_228000; clear HO_228001; clear HO_237000; clear HO_237001; clear BK216; clear BK227; clear BK236; clear HB; have HO_217000 := n0_; have HO_217001 := n1_; have HO_228000 := n2_; have HO_228001 := n3_; have HO_237000 := n4_; have HO_237001 := n5_; have BK216 := n6_; have BK227 := n7_; have BK236 := n8_; have HB := n9_; clear n0_ n1_ n2_ n3_ n4_ n5_ n6_ n7_ n8_ n9_; (try clear hb); have hcz112_0 : w111.cell? ⟨gb227, 0, none⟩ = some (.slice Ao19 t219.length co19) := (aD BK227.out 0).trans rfl; have hcz112_1 : w111.cell? ⟨gb227, 1, none⟩ = some (.slice Ao21 t222.length co21) := (aD BK227.out 1).trans rfl; have hcz112_2 : w111.cell? ⟨gb227, 2, none⟩ = some (.int .i64 t225) := (aD BK227.out 2).trans rfl; have hcz112_3 : w111.cell? ⟨gb227, 3, none⟩ = some (.bool t226) := (aD BK227.out 3).trans rfl; have hfz112_0 := aC BK227.out 0; have hfz112_1 := aC BK227.out 1; have hfz112_2 := aC BK227.out 2; have hfz112_3 := aC BK227.out 3))
       go_ret
       exact ⟨by first | rfl | (simp [errW_none, errW_some] <;> rfl) | (simp [*, errW_none, errW_some] <;> rfl), by repeat (first | (with_reducible first | exact HB.out | apply aM | apply aG | apply aJ | refine aE ?_ GE216.out | refine aE ?_ GE227.out | refine aE ?_ GE236.out) | exact HB.out)⟩
     ·replace c89 := Bool.eq_false_iff.mpr c89
      subst c89
      have H1 : (some false) = some r := by rw [if_neg (show ¬ (false = true) by decide)] at H; exact H
      clear H
      have H := H1
      clear H1
      obtain rfl := Option.some.inj H
      have hnb113 := NB216_227.out
      have hnc113 := NB227_216.out
      have hnb114 := NB216_236.out
      have hnc114 := NB236_216.out
      have hcz115_0 : wr.cell? ⟨gb216, 0, none⟩ = some (.slice Ao11 t208.length co11) := (aD BK216.out 0).trans rfl
      have hcz115_1 : wr.cell? ⟨gb216, 1, none⟩ = some (.slice Ao13 t211.length co13) := (aD BK216.out 1).trans rfl
      have hcz115_2 : wr.cell? ⟨gb216, 2, none⟩ = some (.int .i64 t214) := (aD BK216.out 2).trans rfl
      have hcz115_3 : wr.cell? ⟨gb216, 3, none⟩ = some (.bool t215) := (aD BK216.out 3).trans rfl
      have hfz115_0 := aC BK216.out 0
      have hfz115_1 := aC BK216.out 1
      have hfz115_2 := aC BK216.out 2
      have hfz115_3 := aC BK216.out 3
      have hnb116 := NB227_236.out
      have hnc116 := NB236_227.out
      have hcz117_0 : wr.cell? ⟨gb227, 0, none⟩ = some (.slice Ao19 t219.length co19) := (aD BK227.out 0).trans rfl
      have hcz117_1 : wr.cell? ⟨gb227, 1, none⟩ = some (.slice Ao21 t222.length co21) := (aD BK227.out 1).trans rfl
      have hcz117_2 : wr.cell? ⟨gb227, 2, none⟩ = some (.int .i64 t225) := (aD BK227.out 2).trans rfl
      have hcz117_3 : wr.cell? ⟨gb227, 3, none⟩ = some (.bool t226) := (aD BK227.out 3).trans rfl
      have hfz117_0 := aC BK227.out 0
      have hfz117_1 := aC BK227.out 1
      have hfz117_2 := aC BK227.out 2
      have hfz117_3 := aC BK227.out 3
      go_wp2_with (first | ((with_reducible refine bJ (f := 20) rfl ?_); refine goesL_ (some 95) rfl rfl Try.func20 (by kernel_rfl) rfl #[.agg #[.slice Ao19 t219.length co19, .slice Ao21 t222.length co21, .int .i64 t225, .bool t226]] rfl (by (try simp only [List.map_toArray, List.map_cons, List.map_nil]); first | done | rfl | (simp only [List.length_drop, List.length_take]; rfl)) ?_; (with_reducible refine (impl_DevOk.calls k1 _ _ t219 _ _ t222 t225 t226 false _ ?side1 ?side2 ?side3 ?side4 A88.out).mono ?_); (case side1 => repeat (first | exact (Kd.N_reads' HO_228000.out).2.2 | (with_reducible refine Kd.C_alloc ?_ _) | (with_reducible refine Kd.C_drewN ?_ _) | (with_reducible refine Kd.C_drew ?_))); (case side2 => exact (Kd.N_reads' HO_228000.out).2.1); (case side3 => repeat (first | exact (Kd.N_reads' HO_228001.out).2.2 | (with_reducible refine Kd.C_alloc ?_ _) | (with_reducible refine Kd.C_drewN ?_ _) | (with_reducible refine Kd.C_drew ?_))); (case side4 => exact (Kd.N_reads' HO_228001.out).2.1); rintro e w118 ⟨rfl, hb⟩; refine ⟨_, rfl, ?_⟩; have n0_ := aA.mk (Kd.bL (by (with_reducible repeat (first | apply Kd.aY | apply Kd.aX | apply Kd.aV)); exact HO_217000.out) hb); have n1_ := aA.mk (Kd.bL (by (with_reducible repeat (first | apply Kd.aY | apply Kd.aX | apply Kd.aV)); exact HO_217001.out) hb); have n2_ := aA.mk (Kd.bL (by (with_reducible repeat (first | apply Kd.aY | apply Kd.aX | apply Kd.aV)); exact HO_228000.out) hb); have n3_ := aA.mk (Kd.bL (by (with_reducible repeat (first | apply Kd.aY | apply Kd.aX | apply Kd.aV)); exact HO_228001.out) hb); have n4_ := aA.mk (Kd.bL (by (with_reducible repeat (first | apply Kd.aY | apply Kd.aX | apply Kd.aV)); exact HO_237000.out) hb); have n5_ := aA.mk (Kd.bL (by (with_reducible repeat (first | apply Kd.aY | apply Kd.aX | apply Kd.aV)); exact HO_237001.out) hb); have n6_ := aA.mk (aW (g := gb216) (o := .cells #[.slice Ao11 t208.length co11, .slice Ao13 t211.length co13, .int .i64 t214, .bool t215] 25 (0, 0)) (by (with_reducible repeat (first | refine aQ ?_ _ | refine aN ?_ | refine aH ?_ _)); exact BK216.out) hb); have n7_ := aA.mk (aW (g := gb227) (o := .cells #[.slice Ao19 t219.length co19, .slice Ao21 t222.length co21, .int .i64 t225, .bool t226] 25 (0, 0)) (by (with_reducible repeat (first | refine aQ ?_ _ | refine aN ?_ | refine aH ?_ _)); exact BK227.out) hb); have n8_ := aA.mk (aW (g := gb236) (o := .cells #[.slice Ao29 t228.length co29, .slice Ao33 t231.length co33, .int .i64 t234, .bool t235] 25 (0, 0)) (by (with_reducible repeat (first | refine aQ ?_ _ | refine aN ?_ | refine aH ?_ _)); exact BK236.out) hb); have n9_ := aA.mk (bD (by repeat (first | (with_reducible first | exact HB.out | apply aM | apply aG | apply aJ | refine aE ?_ GE216.out | refine aE ?_ GE227.out | refine aE ?_ GE236.out) | exact HB.out)) hb); clear HO_217000; clear HO_217001; clear HO_228000; clear HO_228001; clear HO_237000; clear HO_237001; clear BK216; clear BK227; clear BK236; clear HB; have HO_217000 := n0_; have HO_217001 := n1_; have HO_228000 := n2_; have HO_228001 := n3_; have HO_237000 := n4_; have HO_237001 := n5_; have BK216 := n6_; have BK227 := n7_; have BK236 := n8_; have HB := n9_; clear n0_ n1_ n2_ n3_ n4_ n5_ n6_ n7_ n8_ n9_; (try clear hb)))
      go_ret
      exact ⟨by first | rfl | (simp [errW_none, errW_some] <;> rfl) | (simp [*, errW_none, errW_some] <;> rfl), by repeat (first | (with_reducible first | exact HB.out | apply aM | apply aG | apply aJ | refine aE ?_ GE216.out | refine aE ?_ GE227.out | refine aE ?_ GE236.out) | exact HB.out)⟩
/-- THE ONE PURE STATEMENT of laws_FnFalls: yours. -/
def laws_FnFalls.Pure : Prop := ∀ (l0 : List Int), l0.length ≤ maxLen → l0.length * 1 ≤ 140737488351232 → (∀ x ∈ l0, (Lit.int .u8 x).wf = true) → ∃ k, laws_FnFalls.f k l0 = some true
end Go.Proofs.Ytilhcaofpfeioaa.PFnFalls
