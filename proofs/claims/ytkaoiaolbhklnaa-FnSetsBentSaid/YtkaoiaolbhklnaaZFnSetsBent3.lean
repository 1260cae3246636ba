/- The law: the functions that it reaches, each with the proof that the machine's call comes to its answer, what they answer, and the law's row; each theorem says its conditions itself. -/
import Derived.Test.YtkaoiaolbhklnaaZFnSetsBent2
import Derived.IntWalk
import Derived.Laws.BitsLemmas
import Derived.ChangeArms
import Derived.ChangeShapes
import Derived.WideShapes
import Derived.Test.YtkaoiaolbhklnaaRows
import Derived.WalkKit
import Derived.ProofKit
import Derived.OpenShut
import Derived.ShutString
import Derived.ChangeOld
import Derived.Below
import Derived.SizedLaws
namespace Go.Proofs.Ytkaoiaolbhklnaa.PFnSetsBent
open Go.RowKit Go.Proofs.YtkaoiaolbhklnaaW.PrintWords Go.Proofs.YtkaoiaolbhklnaaW.PrintLast Go.Proofs.YtkaoiaolbhklnaaW.PrintMore
attribute [local go_sem] max2_int min2_int max_two min_two max_three min_three max_four min_four   -- for this text's walks alone
set_option linter.unusedVariables false
set_option linter.unusedSimpArgs false
attribute [local go_sem high] eqA27
def spec_DrawSetAt.f (k : Nat) (l0 : List Int) : Option ((List (S27)) × Int × Int) := (spec_l1New.f k l0).bind fun bt342 => ((spec_l4Any.f k bt342.1 bt342.2.1 bt342.2.2 8).bind fun bt346 => ((spec_l1Below.f bt342.1 bt346.2.1 bt346.2.2 4).bind fun bt351 => ((spec_l1Below.f bt342.1 bt351.2.1 bt351.2.2 5).bind fun bt354 => (some (bt346.1, bt351.1, wrap64 (1 + bt354.1))))))
set_option maxHeartbeats 8000000 in
set_option maxRecDepth 100000 in
theorem spec_DrawSetAt.calls (k : Nat) (A0 : Option Addr) (c0 : Nat) (l0 : List Int) (r1 : List (S27)) (r2 : Int) (r3 : Int) (w : World) (hr0 : Kd.C (Kd.int .u8) w A0 l0.length l0) (hc0 : l0.length ≤ c0) (h : spec_DrawSetAt.f k l0 = some (r1, r2, r3)) :
  Calls Try.prog 58 #[.slice A0 l0.length c0] w fun e w' => ∃ v0_ : Value, e = .returned (.tuple #[v0_, .int .i64 r2, .int .i64 r3]) ∧ Kd.R k27 27 w' w.heap.size (fun _ => True) v0_ r1 ∧ Below w.heap.size w w' := by
 have HR0 := aA.mk hr0
 have HC0 := aA.mk hc0
 clear hr0 hc0
 have HB := aA.mk (Below.refl w.heap.size w)
 have H : ((spec_l1New.f k l0).bind fun bt342 => ((spec_l4Any.f k bt342.1 bt342.2.1 bt342.2.2 8).bind fun bt346 => ((spec_l1Below.f bt342.1 bt346.2.1 bt346.2.2 4).bind fun bt351 => ((spec_l1Below.f bt342.1 bt351.2.1 bt351.2.2 5).bind fun bt354 => (some (bt346.1, bt351.1, wrap64 (1 + bt354.1))))))) = some (r1, r2, r3) := h
 clear h
 replace H := lF H
 obtain ⟨⟨t342, t343, t344⟩, A20, H⟩ := H
 replace H : ((spec_l4Any.f k t342 t343 t344 8).bind fun bt346 => ((spec_l1Below.f t342 bt346.2.1 bt346.2.2 4).bind fun bt351 => ((spec_l1Below.f t342 bt351.2.1 bt351.2.2 5).bind fun bt354 => (some (bt346.1, bt351.1, wrap64 (1 + bt354.1)))))) = some (r1, r2, r3) := H
 have A2 := aA.mk A20
 clear A20
 replace H := lF H
 obtain ⟨⟨t346, t349, t350⟩, A30, H⟩ := H
 replace H : ((spec_l1Below.f t342 t349 t350 4).bind fun bt351 => ((spec_l1Below.f t342 bt351.2.1 bt351.2.2 5).bind fun bt354 => (some (t346, bt351.1, wrap64 (1 + bt354.1))))) = some (r1, r2, r3) := H
 have A3 := aA.mk A30
 clear A30
 replace H := lF H
 obtain ⟨⟨t351, t352, t353⟩, A40, H⟩ := H
 replace H : ((spec_l1Below.f t342 t352 t353 5).bind fun bt354 => (some (t346, t351, wrap64 (1 + bt354.1)))) = some (r1, r2, r3) := H
 have A4 := aA.mk A40
 clear A40
 replace H := lF H
 obtain ⟨⟨t354, t355, t356⟩, A50, H⟩ := H
 replace H : (some (t346, t351, wrap64 (1 + t354))) = some (r1, r2, r3) := H
 have A5 := aA.mk A50
 clear A50
 simp only [Option.some.injEq, Prod.mk.injEq] at H
 obtain ⟨rfl, rfl, rfl⟩ := H
 go_enter Try.func58, Try.ntmps58
 go_wp2_with (first | ((with_reducible refine aX (f := 67) rfl ?_); refine bL (some 7) rfl rfl Try.func67 (by kernel_rfl) rfl #[.slice A0 l0.length c0] rfl (by (try simp only [List.map_toArray, List.map_cons, List.map_nil]); first | done | rfl | (simp only [List.length_drop, List.length_take]; rfl)) ?_; (with_reducible refine (spec_l1New.calls k _ _ l0 t342 t343 t344 w _ ?side1 ?side2 ?side3 A2.out).mono ?_); (case side1 => repeat (first | (with_reducible first | exact HB.out | apply aH | apply aE | apply aG) | exact HB.out)); (case side2 => exact HR0.out); (case side3 => exact HC0.out); rintro e w6 ⟨g345, rfl, hi, hb, hb2⟩; refine ⟨_, rfl, ?_⟩; have n0_ := aA.mk (hb); have n1_ := aA.mk (hi); clear HB; have HB := n0_; have HI345 := n1_; clear n0_ n1_; (try clear hb); (try clear hb2); (try clear hk); (try clear hi)) | ((with_reducible refine aX (f := 83) rfl ?_); refine bL (some 9) rfl rfl Try.func83 (by kernel_rfl) rfl #[.pointer (some ⟨g345, 0, none⟩), .int .i64 8] rfl (by (try simp only [List.map_toArray, List.map_cons, List.map_nil]); first | done | rfl | (simp only [List.length_drop, List.length_take]; rfl)) ?_; (with_reducible refine (spec_l4Any.calls k g345 t342 t343 t344 8 t346 t349 t350 w _ ?side1 ?side2 A3.out).mono ?_); (case side1 => repeat (first | (with_reducible first | exact HI345.out | apply IsS98.alloc | apply IsS98.drewN | apply IsS98.drew | apply IsS98.set_1 | apply IsS98.set_2) | exact HI345.out)); (case side2 => repeat (first | (with_reducible first | exact HB.out | apply aH | apply aE | apply aG | refine aN ?_ (IsS98.ge HI345.out)) | exact HB.out)); rintro e w7 ⟨v347, rfl, ho0, hi, hb, hk⟩; refine ⟨_, rfl, ?_⟩; have n0_ := aA.mk (Kd.R_lower ho0 (aW (by repeat (first | (with_reducible first | exact HB.out | apply aH | apply aE | apply aG | refine aN ?_ (IsS98.ge HI345.out)) | exact HB.out)))); have n1_ := aA.mk (hb); have n2_ := aA.mk (hi); clear HB; clear HI345; have HO348 := n0_; have HB := n1_; have HI345 := n2_; clear n0_ n1_ n2_; (try clear hb); (try clear hb2); (try clear hk); (try clear hi); (try clear ho0)) | ((with_reducible refine aX (f := 69) rfl ?_); refine bL (some 11) rfl rfl Try.func69 (by kernel_rfl) rfl #[.pointer (some ⟨g345, 0, none⟩), .int .i64 4] rfl (by (try simp only [List.map_toArray, List.map_cons, List.map_nil]); first | done | rfl | (simp only [List.length_drop, List.length_take]; rfl)) ?_; (with_reducible refine (spec_l1Below.calls g345 t342 t349 t350 4 t351 t352 t353 w _ ?side1 ?side2 A4.out).mono ?_); (case side1 => repeat (first | (with_reducible first | exact HI345.out | apply IsS98.alloc | apply IsS98.drewN | apply IsS98.drew | apply IsS98.set_1 | apply IsS98.set_2) | exact HI345.out)); (case side2 => repeat (first | (with_reducible first | exact HB.out | apply aH | apply aE | apply aG | refine aN ?_ (IsS98.ge HI345.out)) | exact HB.out)); rintro e w8 ⟨rfl, hi, hb, hk⟩; refine ⟨_, rfl, ?_⟩; have n0_ := aA.mk (Kd.R_mono (Kd.R_keep (IsS98.apart (show IsS98 w _ g345 t342 t349 t350 from by repeat (first | (with_reducible first | exact HI345.out | apply IsS98.alloc | apply IsS98.drewN | apply IsS98.drew | apply IsS98.set_1 | apply IsS98.set_2) | exact HI345.out)) (by (with_reducible repeat (first | apply Kd.bD | apply Kd.bC | apply Kd.bE)); exact HO348.out) (by decide)) hk (fun _ h => h.2)) (fun _ h => h.1)); have n1_ := aA.mk (hb); have n2_ := aA.mk (hi); clear HO348; clear HB; clear HI345; have HO348 := n0_; have HB := n1_; have HI345 := n2_; clear n0_ n1_ n2_; (try clear hb); (try clear hb2); (try clear hk); (try clear hi)) | ((with_reducible refine aX (f := 69) rfl ?_); refine bL (some 13) rfl rfl Try.func69 (by kernel_rfl) rfl #[.pointer (some ⟨g345, 0, none⟩), .int .i64 5] rfl (by (try simp only [List.map_toArray, List.map_cons, List.map_nil]); first | done | rfl | (simp only [List.length_drop, List.length_take]; rfl)) ?_; (with_reducible refine (spec_l1Below.calls g345 t342 t352 t353 5 t354 t355 t356 w _ ?side1 ?side2 A5.out).mono ?_); (case side1 => repeat (first | (with_reducible first | exact HI345.out | apply IsS98.alloc | apply IsS98.drewN | apply IsS98.drew | apply IsS98.set_1 | apply IsS98.set_2) | exact HI345.out)); (case side2 => repeat (first | (with_reducible first | exact HB.out | apply aH | apply aE | apply aG | refine aN ?_ (IsS98.ge HI345.out)) | exact HB.out)); rintro e w9 ⟨rfl, hi, hb, hk⟩; refine ⟨_, rfl, ?_⟩; have n0_ := aA.mk (Kd.R_mono (Kd.R_keep (IsS98.apart (show IsS98 w _ g345 t342 t352 t353 from by repeat (first | (with_reducible first | exact HI345.out | apply IsS98.alloc | apply IsS98.drewN | apply IsS98.drew | apply IsS98.set_1 | apply IsS98.set_2) | exact HI345.out)) (by (with_reducible repeat (first | apply Kd.bD | apply Kd.bC | apply Kd.bE)); exact HO348.out) (by decide)) hk (fun _ h => h.2)) (fun _ h => h.1)); have n1_ := aA.mk (hb); have n2_ := aA.mk (hi); clear HO348; clear HB; clear HI345; have HO348 := n0_; have HB := n1_; have HI345 := n2_; clear n0_ n1_ n2_; (try clear hb); (try clear hb2); (try clear hk); (try clear hi)))
 go_ret3
 exact ⟨_, by first | rfl | (simp [errW_none, errW_some] <;> rfl) | (simp [*, errW_none, errW_some] <;> rfl), by (with_reducible repeat (first | apply Kd.bD | apply Kd.bC | apply Kd.bE)); exact HO348.out, by repeat (first | (with_reducible first | exact HB.out | apply aH | apply aE | apply aG | refine aN ?_ (IsS98.ge HI345.out)) | exact HB.out)⟩
def spec_DrawSetPut.f (k : Nat) (l0 : List Int) : Option ((List (S27)) × Int × Int × Int × Int × Int) := (spec_l1New.f k l0).bind fun bt358 => ((spec_l4Any.f k bt358.1 bt358.2.1 bt358.2.2 8).bind fun bt362 => ((spec_l3Any.f bt358.1 bt362.2.1 bt362.2.2).bind fun bt367 => (some (bt362.1, bt367.1, bt367.2.1, bt367.2.2.1, bt367.2.2.2.1, bt367.2.2.2.2.1))))
set_option maxHeartbeats 8000000 in
set_option maxRecDepth 100000 in
theorem spec_DrawSetPut.calls (k : Nat) (A0 : Option Addr) (c0 : Nat) (l0 : List Int) (r1 : List (S27)) (r2 : Int) (r3 : Int) (r4 : Int) (r5 : Int) (r6 : Int) (w : World) (hr0 : Kd.C (Kd.int .u8) w A0 l0.length l0) (hc0 : l0.length ≤ c0) (h : spec_DrawSetPut.f k l0 = some (r1, r2, r3, r4, r5, r6)) :
  Calls Try.prog 59 #[.slice A0 l0.length c0] w fun e w' => ∃ v0_ : Value, e = .returned (.tuple #[v0_, .agg #[.int .i64 r2, .int .i64 r3, .int .i64 r4, .int .i64 r5, .int .i64 r6]]) ∧ Kd.R k27 27 w' w.heap.size (fun _ => True) v0_ r1 ∧ Below w.heap.size w w' := by
 have hu27 := Try.underlying27
 have HR0 := aA.mk hr0
 have HC0 := aA.mk hc0
 clear hr0 hc0
 have HB := aA.mk (Below.refl w.heap.size w)
 have H : ((spec_l1New.f k l0).bind fun bt358 => ((spec_l4Any.f k bt358.1 bt358.2.1 bt358.2.2 8).bind fun bt362 => ((spec_l3Any.f bt358.1 bt362.2.1 bt362.2.2).bind fun bt367 => (some (bt362.1, bt367.1, bt367.2.1, bt367.2.2.1, bt367.2.2.2.1, bt367.2.2.2.2.1))))) = some (r1, r2, r3, r4, r5, r6) := h
 clear h
 replace H := lF H
 obtain ⟨⟨t358, t359, t360⟩, A20, H⟩ := H
 replace H : ((spec_l4Any.f k t358 t359 t360 8).bind fun bt362 => ((spec_l3Any.f t358 bt362.2.1 bt362.2.2).bind fun bt367 => (some (bt362.1, bt367.1, bt367.2.1, bt367.2.2.1, bt367.2.2.2.1, bt367.2.2.2.2.1)))) = some (r1, r2, r3, r4, r5, r6) := H
 have A2 := aA.mk A20
 clear A20
 replace H := lF H
 obtain ⟨⟨t362, t365, t366⟩, A30, H⟩ := H
 replace H : ((spec_l3Any.f t358 t365 t366).bind fun bt367 => (some (t362, bt367.1, bt367.2.1, bt367.2.2.1, bt367.2.2.2.1, bt367.2.2.2.2.1))) = some (r1, r2, r3, r4, r5, r6) := H
 have A3 := aA.mk A30
 clear A30
 replace H := lF H
 obtain ⟨⟨t367, t368, t369, t370, t371, t372, t373⟩, A40, H⟩ := H
 replace H : (some (t362, t367, t368, t369, t370, t371)) = some (r1, r2, r3, r4, r5, r6) := H
 have A4 := aA.mk A40
 clear A40
 simp only [Option.some.injEq, Prod.mk.injEq] at H
 obtain ⟨rfl, rfl, rfl, rfl, rfl, rfl⟩ := H
 go_enter Try.func59, Try.ntmps59
 go_wp2_with (first | ((with_reducible refine bG (N := 3) rfl ?_); refine bJ ?hg (N := 3) ?hd (cs := #[.int .i64 0, .int .i64 0, .int .i64 0, .int .i64 0, .int .i64 0]) (t := 27) ?hr ?_; (case hd => rfl); (case hg => rfl); (case hr => first | (go_simp; done) | (go_simp; rfl)); intro gb357 hg w5 hbox hb; have n0_ := aA.mk (aV (by repeat (first | (with_reducible first | exact HB.out | apply aH | apply aE | apply aG) | exact HB.out)) hb); have n1_ := aA.mk (hbox); have n2_ := aA.mk ((by rw [hg]; exact (aW (by repeat (first | (with_reducible first | exact HB.out | apply aH | apply aE | apply aG) | exact HB.out))) : w.heap.size ≤ gb357)); have n3_ := aA.mk ((by rw [hg]; exact (aW (by repeat (first | (with_reducible first | exact HB.out | apply aH | apply aE | apply aG) | exact HB.out))) : w.heap.size ≤ gb357)); clear HB; have HB := n0_; have BK357 := n1_; have GW357 := n2_; have GE357 := n3_; clear n0_ n1_ n2_ n3_; clear hb hbox hg) | ((with_reducible refine aX (f := 67) rfl ?_); refine bL (some 6) rfl rfl Try.func67 (by kernel_rfl) rfl #[.slice A0 l0.length c0] rfl (by (try simp only [List.map_toArray, List.map_cons, List.map_nil]); first | done | rfl | (simp only [List.length_drop, List.length_take]; rfl)) ?_; (with_reducible refine (spec_l1New.calls k _ _ l0 t358 t359 t360 w _ ?side1 ?side2 ?side3 A2.out).mono ?_); (case side1 => repeat (first | (with_reducible first | exact HB.out | apply aH | apply aE | apply aG | refine aN ?_ GE357.out) | exact HB.out)); (case side2 => exact HR0.out); (case side3 => exact HC0.out); rintro e w6 ⟨g361, rfl, hi, hb, hb2⟩; refine ⟨_, rfl, ?_⟩; have n0_ := aA.mk (bB (g := gb357) (o := .cells #[.int .i64 0, .int .i64 0, .int .i64 0, .int .i64 0, .int .i64 0] 27 (0, 0)) (by (with_reducible repeat (first | refine aK ?_ _ | refine aM ?_ | refine aJ ?_ _)); exact BK357.out) hb2); have n1_ := aA.mk (hb); have n2_ := aA.mk (hi); have n3_ := aA.mk (IsS98.ne_blk hi (bB (g := gb357) (o := .cells #[.int .i64 0, .int .i64 0, .int .i64 0, .int .i64 0, .int .i64 0] 27 (0, 0)) (by (with_reducible repeat (first | refine aK ?_ _ | refine aM ?_ | refine aJ ?_ _)); exact BK357.out) hb2) (by decide)); have n4_ := aA.mk (Ne.symm (IsS98.ne_blk hi (bB (g := gb357) (o := .cells #[.int .i64 0, .int .i64 0, .int .i64 0, .int .i64 0, .int .i64 0] 27 (0, 0)) (by (with_reducible repeat (first | refine aK ?_ _ | refine aM ?_ | refine aJ ?_ _)); exact BK357.out) hb2) (by decide))); clear BK357; clear HB; have BK357 := n0_; have HB := n1_; have HI361 := n2_; have NB361_357 := n3_; have NB357_361 := n4_; clear n0_ n1_ n2_ n3_ n4_; (try clear hb); (try clear hb2); (try clear hk); (try clear hi)) | ((with_reducible refine aX (f := 83) rfl ?_); refine bL (some 8) rfl rfl Try.func83 (by kernel_rfl) rfl #[.pointer (some ⟨g361, 0, none⟩), .int .i64 8] rfl (by (try simp only [List.map_toArray, List.map_cons, List.map_nil]); first | done | rfl | (simp only [List.length_drop, List.length_take]; rfl)) ?_; (with_reducible refine (spec_l4Any.calls k g361 t358 t359 t360 8 t362 t365 t366 w _ ?side1 ?side2 A3.out).mono ?_); (case side1 => repeat (first | (with_reducible first | exact HI361.out | apply IsS98.alloc | apply IsS98.drewN | apply IsS98.drew | apply IsS98.set_1 | apply IsS98.set_2 | apply IsS98.far (hne := NB361_357.out)) | exact HI361.out)); (case side2 => repeat (first | (with_reducible first | exact HB.out | apply aH | apply aE | apply aG | refine aN ?_ (IsS98.ge HI361.out) | refine aN ?_ GE357.out) | exact HB.out)); rintro e w7 ⟨v363, rfl, ho0, hi, hb, hk⟩; refine ⟨_, rfl, ?_⟩; have n0_ := aA.mk (KeepBut.blk hk (g' := gb357) (o := .cells #[.int .i64 0, .int .i64 0, .int .i64 0, .int .i64 0, .int .i64 0] 27 (0, 0)) (by (with_reducible repeat (first | refine aK ?_ _ | refine aM ?_ | refine aJ ?_ _)); exact BK357.out) NB357_361.out (by simp)); have n1_ := aA.mk (Kd.R_lower (Kd.R_newB ho0 (g := gb357) (o := .cells #[.int .i64 0, .int .i64 0, .int .i64 0, .int .i64 0, .int .i64 0] 27 (0, 0)) (by (with_reducible repeat (first | refine aK ?_ _ | refine aM ?_ | refine aJ ?_ _)); exact BK357.out)) (aW (by repeat (first | (with_reducible first | exact HB.out | apply aH | apply aE | apply aG | refine aN ?_ (IsS98.ge HI361.out) | refine aN ?_ GE357.out) | exact HB.out)))); have n2_ := aA.mk (hb); have n3_ := aA.mk (hi); clear BK357; clear HB; clear HI361; have BK357 := n0_; have HO364 := n1_; have HB := n2_; have HI361 := n3_; clear n0_ n1_ n2_ n3_; (try clear hb); (try clear hb2); (try clear hk); (try clear hi); (try clear ho0)) | ((with_reducible refine aX (f := 70) rfl ?_); refine bL (some 10) rfl rfl Try.func70 (by kernel_rfl) rfl #[.pointer (some ⟨g361, 0, none⟩)] rfl (by (try simp only [List.map_toArray, List.map_cons, List.map_nil]); first | done | rfl | (simp only [List.length_drop, List.length_take]; rfl)) ?_; (with_reducible refine (spec_l3Any.calls g361 t358 t365 t366 t367 t368 t369 t370 t371 t372 t373 w _ ?side1 ?side2 A4.out).mono ?_); (case side1 => repeat (first | (with_reducible first | exact HI361.out | apply IsS98.alloc | apply IsS98.drewN | apply IsS98.drew | apply IsS98.set_1 | apply IsS98.set_2 | apply IsS98.far (hne := NB361_357.out)) | exact HI361.out)); (case side2 => repeat (first | (with_reducible first | exact HB.out | apply aH | apply aE | apply aG | refine aN ?_ (IsS98.ge HI361.out) | refine aN ?_ GE357.out) | exact HB.out)); rintro e w8 ⟨rfl, hi, hb, hk⟩; refine ⟨_, rfl, ?_⟩; have n0_ := aA.mk (KeepBut.blk hk (g' := gb357) (o := .cells #[.int .i64 0, .int .i64 0, .int .i64 0, .int .i64 0, .int .i64 0] 27 (0, 0)) (by (with_reducible repeat (first | refine aK ?_ _ | refine aM ?_ | refine aJ ?_ _)); exact BK357.out) NB357_361.out (by simp)); have n1_ := aA.mk (Kd.R_mono (Kd.R_keep (IsS98.apart (show IsS98 w _ g361 t358 t365 t366 from by repeat (first | (with_reducible first | exact HI361.out | apply IsS98.alloc | apply IsS98.drewN | apply IsS98.drew | apply IsS98.set_1 | apply IsS98.set_2 | apply IsS98.far (hne := NB361_357.out)) | exact HI361.out)) (by (with_reducible repeat (first | apply Kd.bD | apply Kd.bC | apply Kd.bE)); exact HO364.out) (by decide)) hk (fun _ h => h.2)) (fun _ h => h.1)); have n2_ := aA.mk (hb); have n3_ := aA.mk (hi); clear BK357; clear HO364; clear HB; clear HI361; have BK357 := n0_; have HO364 := n1_; have HB := n2_; have HI361 := n3_; clear n0_ n1_ n2_ n3_; (try clear hb); (try clear hb2); (try clear hk); (try clear hi); have hnb9 := NB357_361.out; have hnc9 := NB361_357.out; have hcz10_0 : w8.cell? ⟨gb357, 0, none⟩ = some (.int .i64 0) := (aC BK357.out 0).trans rfl; have hcz10_1 : w8.cell? ⟨gb357, 1, none⟩ = some (.int .i64 0) := (aC BK357.out 1).trans rfl; have hcz10_2 : w8.cell? ⟨gb357, 2, none⟩ = some (.int .i64 0) := (aC BK357.out 2).trans rfl; have hcz10_3 : w8.cell? ⟨gb357, 3, none⟩ = some (.int .i64 0) := (aC BK357.out 3).trans rfl; have hcz10_4 : w8.cell? ⟨gb357, 4, none⟩ = some (.int .i64 0) := (aC BK357.out 4).trans rfl; have hfz10_0 := aD BK357.out 0; have hfz10_1 := aD BK357.out 1; have hfz10_2 := aD BK357.out 2; have hfz10_3 := aD BK357.out 3; have hfz10_4 := aD BK357.out 4))
 refine bodyPost_ret (results_tc rfl _ _ gb357 27 #[.int .i64 t367, .int .i64 t368, .int .i64 t369, .int .i64 t370, .int .i64 t371] (0, 0) _ rfl (by (with_reducible repeat (first | refine aK ?_ _ | refine aM ?_ | refine aJ ?_ _)); refine aU (cs := #[.int .i64 t367, .int .i64 t368, .int .i64 t369, .int .i64 t370, .int .i64 0]) ?_ 4 _ rfl; (with_reducible repeat (first | refine aK ?_ _ | refine aM ?_ | refine aJ ?_ _)); refine aU (cs := #[.int .i64 t367, .int .i64 t368, .int .i64 t369, .int .i64 0, .int .i64 0]) ?_ 3 _ rfl; (with_reducible repeat (first | refine aK ?_ _ | refine aM ?_ | refine aJ ?_ _)); refine aU (cs := #[.int .i64 t367, .int .i64 t368, .int .i64 0, .int .i64 0, .int .i64 0]) ?_ 2 _ rfl; (with_reducible repeat (first | refine aK ?_ _ | refine aM ?_ | refine aJ ?_ _)); refine aU (cs := #[.int .i64 t367, .int .i64 0, .int .i64 0, .int .i64 0, .int .i64 0]) ?_ 1 _ rfl; (with_reducible repeat (first | refine aK ?_ _ | refine aM ?_ | refine aJ ?_ _)); refine aU (cs := #[.int .i64 0, .int .i64 0, .int .i64 0, .int .i64 0, .int .i64 0]) ?_ 0 _ rfl; (with_reducible repeat (first | refine aK ?_ _ | refine aM ?_ | refine aJ ?_ _)); exact BK357.out) Try.underlying27 rfl (by kernel_rfl)) rfl ?_
 exact ⟨_, by first | rfl | (simp [errW_none, errW_some] <;> rfl) | (simp [*, errW_none, errW_some] <;> rfl), by (with_reducible repeat (first | apply Kd.bD | apply Kd.bC | apply Kd.bE)); exact Kd.R_mono (Kd.R_far (p := ⟨gb357, 4, none⟩) (Kd.R_far (p := ⟨gb357, 3, none⟩) (Kd.R_far (p := ⟨gb357, 2, none⟩) (Kd.R_far (p := ⟨gb357, 1, none⟩) (Kd.R_far (p := ⟨gb357, 0, none⟩) (Kd.R_mono HO364.out (fun k_ hk => (⟨hk, hk.2⟩ : _ ∧ k_ ≠ gb357))) (fun _ hk => hk.2) (.int .i64 t367)) (fun _ hk => hk.2) (.int .i64 t368)) (fun _ hk => hk.2) (.int .i64 t369)) (fun _ hk => hk.2) (.int .i64 t370)) (fun _ hk => hk.2) (.int .i64 t371)) (fun _ hk => trivial), by repeat (first | (with_reducible first | exact HB.out | apply aH | apply aE | apply aG | refine aN ?_ (IsS98.ge HI361.out) | refine aN ?_ GE357.out) | exact HB.out)⟩
def spec_DrawDrop.f (k : Nat) (l0 : List Int) : Option ((List (S27))) := (spec_l1New.f k l0).bind fun bt374 => ((spec_l4Any.f k bt374.1 bt374.2.1 bt374.2.2 8).bind fun bt378 => (some bt378.1))
set_option maxHeartbeats 8000000 in
set_option maxRecDepth 100000 in
theorem spec_DrawDrop.calls (k : Nat) (A0 : Option Addr) (c0 : Nat) (l0 : List Int) (r : List (S27)) (w : World) (hr0 : Kd.C (Kd.int .u8) w A0 l0.length l0) (hc0 : l0.length ≤ c0) (h : spec_DrawDrop.f k l0 = some r) :
  Calls Try.prog 60 #[.slice A0 l0.length c0] w fun e w' => ∃ v0_ : Value, e = .returned (v0_) ∧ Kd.R k27 27 w' w.heap.size (fun _ => True) v0_ r ∧ Below w.heap.size w w' := by
 have HR0 := aA.mk hr0
 have HC0 := aA.mk hc0
 clear hr0 hc0
 have HB := aA.mk (Below.refl w.heap.size w)
 have H : ((spec_l1New.f k l0).bind fun bt374 => ((spec_l4Any.f k bt374.1 bt374.2.1 bt374.2.2 8).bind fun bt378 => (some bt378.1))) = some r := h
 clear h
 replace H := lF H
 obtain ⟨⟨t374, t375, t376⟩, A20, H⟩ := H
 replace H : ((spec_l4Any.f k t374 t375 t376 8).bind fun bt378 => (some bt378.1)) = some r := H
 have A2 := aA.mk A20
 clear A20
 replace H := lF H
 obtain ⟨⟨t378, t381, t382⟩, A30, H⟩ := H
 replace H : (some t378) = some r := H
 have A3 := aA.mk A30
 clear A30
 obtain rfl := Option.some.inj H
 go_enter Try.func60, Try.ntmps60
 go_wp2_with (first | ((with_reducible refine aX (f := 67) rfl ?_); refine bL (some 5) rfl rfl Try.func67 (by kernel_rfl) rfl #[.slice A0 l0.length c0] rfl (by (try simp only [List.map_toArray, List.map_cons, List.map_nil]); first | done | rfl | (simp only [List.length_drop, List.length_take]; rfl)) ?_; (with_reducible refine (spec_l1New.calls k _ _ l0 t374 t375 t376 w _ ?side1 ?side2 ?side3 A2.out).mono ?_); (case side1 => repeat (first | (with_reducible first | exact HB.out | apply aH | apply aE | apply aG) | exact HB.out)); (case side2 => exact HR0.out); (case side3 => exact HC0.out); rintro e w4 ⟨g377, rfl, hi, hb, hb2⟩; refine ⟨_, rfl, ?_⟩; have n0_ := aA.mk (hb); have n1_ := aA.mk (hi); clear HB; have HB := n0_; have HI377 := n1_; clear n0_ n1_; (try clear hb); (try clear hb2); (try clear hk); (try clear hi)) | ((with_reducible refine aX (f := 83) rfl ?_); refine bL (some 7) rfl rfl Try.func83 (by kernel_rfl) rfl #[.pointer (some ⟨g377, 0, none⟩), .int .i64 8] rfl (by (try simp only [List.map_toArray, List.map_cons, List.map_nil]); first | done | rfl | (simp only [List.length_drop, List.length_take]; rfl)) ?_; (with_reducible refine (spec_l4Any.calls k g377 t374 t375 t376 8 t378 t381 t382 w _ ?side1 ?side2 A3.out).mono ?_); (case side1 => repeat (first | (with_reducible first | exact HI377.out | apply IsS98.alloc | apply IsS98.drewN | apply IsS98.drew | apply IsS98.set_1 | apply IsS98.set_2) | exact HI377.out)); (case side2 => repeat (first | (with_reducible first | exact HB.out | apply aH | apply aE | apply aG | refine aN ?_ (IsS98.ge HI377.out)) | exact HB.out)); rintro e w5 ⟨v379, rfl, ho0, hi, hb, hk⟩; refine ⟨_, rfl, ?_⟩; have n0_ := aA.mk (Kd.R_lower ho0 (aW (by repeat (first | (with_reducible first | exact HB.out | apply aH | apply aE | apply aG | refine aN ?_ (IsS98.ge HI377.out)) | exact HB.out)))); have n1_ := aA.mk (hb); have n2_ := aA.mk (hi); clear HB; clear HI377; have HO380 := n0_; have HB := n1_; have HI377 := n2_; clear n0_ n1_ n2_; (try clear hb); (try clear hb2); (try clear hk); (try clear hi); (try clear ho0)))
 go_ret
 exact ⟨_, by first | rfl | (simp [errW_none, errW_some] <;> rfl) | (simp [*, errW_none, errW_some] <;> rfl), by (with_reducible repeat (first | apply Kd.bD | apply Kd.bC | apply Kd.bE)); exact HO380.out, by repeat (first | (with_reducible first | exact HB.out | apply aH | apply aE | apply aG | refine aN ?_ (IsS98.ge HI377.out)) | exact HB.out)⟩
def laws_sameKeys.l0 : Nat → List (S27) → List (S27) → Int → Option (Bool)
 | 0, _, _, _ => none
 | k + 1, x0, x1, x5 => if x5 < (x0.length : Int) then (if 0 ≤ x5 then (if x5 < (x1.length : Int) then (if (!(((rd_T27 x0 x5).f0) == ((rd_T27 x1 x5).f0)) || (!(((rd_T27 x0 x5).f1) == ((rd_T27 x1 x5).f1)) || (!(((rd_T27 x0 x5).f2) == ((rd_T27 x1 x5).f2)) || (!(((rd_T27 x0 x5).f3) == ((rd_T27 x1 x5).f3)) || (!(((rd_T27 x0 x5).f4) == ((rd_T27 x1 x5).f4))))))) = true then (some false) else (laws_sameKeys.l0 k x0 x1 (wrap64 (x5 + 1)))) else (none)) else (none)) else (some true)
def laws_sameKeys.f (k : Nat) (l0 : List (S27)) (l1 : List (S27)) : Option (Bool) := if (l0.length : Int) = (l1.length : Int) then (laws_sameKeys.l0 k l0 l1 0) else (some false)
set_option maxHeartbeats 8000000 in
set_option maxRecDepth 100000 in
theorem laws_sameKeys.calls (k : Nat) (A0 : Option Addr) (c0 : Nat) (l0 : List (S27)) (A1 : Option Addr) (c1 : Nat) (l1 : List (S27)) (r : Bool) (w : World) (hr0 : Kd.C k27 w A0 l0.length l0) (hc0 : l0.length ≤ c0) (hr1 : Kd.C k27 w A1 l1.length l1) (hc1 : l1.length ≤ c1) (h : laws_sameKeys.f k l0 l1 = some r) :
  Calls Try.prog 61 #[.slice A0 l0.length c0, .slice A1 l1.length c1] w fun e w' => e = .returned (.bool r) ∧ Drawn0 w w' := by
 have hu27 := Try.underlying27
 have HR0 := aA.mk hr0
 have HC0 := aA.mk hc0
 clear hr0 hc0
 have HR1 := aA.mk hr1
 have HC1 := aA.mk hc1
 clear hr1 hc1
 have H : (if (l0.length : Int) = (l1.length : Int) then (laws_sameKeys.l0 k l0 l1 0) else (some false)) = some r := h
 clear h
 by_cases c3 : (l0.length : Int) = (l1.length : Int)
 ·rw [if_pos c3] at H
  have c3b0 : ((l0.length : Int) == (l1.length : Int)) = true := beq_iff_eq.mpr c3
  have c3b1 : ((l0.length : Int) != (l1.length : Int)) = false := bne_eq_false_iff_eq.mpr c3
  have c3b2 : (l0.length == l1.length) = true := by first | simpa using c3 | (simp at c3 ⊢; omega)
  clear c3
  have H' := aA.mk H
  clear H
  go_enter Try.func61, Try.ntmps61
  go_wp2
  repeat (go_quiet (fail); try go_wp2)
  go_loopg [5] k (fun kq v5 w' => ∃ (x5_1 : Int), v5 = .int .i64 x5_1 ∧ aA (laws_sameKeys.l0 kq l0 l1 x5_1 = some r) ∧ aA (kq ≤ k) ∧ Drawn0 w w')
  case atStart => exact ⟨(0), (by first | rfl | (simp; done) | (simp [*]; done)), H', ⟨Nat.le_refl _⟩, by repeat (first | exact Drawn0.refl _ | apply Drawn0.step)⟩
  case round =>
   clear H'
   try clear c1
   try clear p2
   try clear c3
   try clear c3b0
   try clear c3b1
   try clear c3b2
   obtain ⟨x5_1, rfl, HA, HK1, ⟨m1, rfl⟩⟩ := hrel
   cases gk with
   | zero => exact absurd HA.out (by simp [laws_sameKeys.l0])
   | succ k1 =>
    have H := HA.out
    clear HA
    simp only [laws_sameKeys.l0] at H
    by_cases c4 : x5_1 < (l0.length : Int)
    ·rw [if_pos c4] at H
     have c4b0 : decide (x5_1 < (l0.length : Int)) = true := decide_eq_true c4
     clear c4
     by_cases c5 : 0 ≤ x5_1
     ·rw [if_pos c5] at H
      have c5b0 : decide (0 ≤ x5_1) = true := decide_eq_true c5
      clear c5
      by_cases c6 : x5_1 < (l1.length : Int)
      ·rw [if_pos c6] at H
       have c6b0 : decide (x5_1 < (l1.length : Int)) = true := decide_eq_true c6
       clear c6
       by_cases c7 : (!(((rd_T27 l0 x5_1).f0) == ((rd_T27 l1 x5_1).f0)) || (!(((rd_T27 l0 x5_1).f1) == ((rd_T27 l1 x5_1).f1)) || (!(((rd_T27 l0 x5_1).f2) == ((rd_T27 l1 x5_1).f2)) || (!(((rd_T27 l0 x5_1).f3) == ((rd_T27 l1 x5_1).f3)) || (!(((rd_T27 l0 x5_1).f4) == ((rd_T27 l1 x5_1).f4))))))) = true
       ·rw [if_pos c7] at H
        have c7b0 : (!(((rd_T27 l0 x5_1).f0) == ((rd_T27 l1 x5_1).f0)) || (!(((rd_T27 l0 x5_1).f1) == ((rd_T27 l1 x5_1).f1)) || (!(((rd_T27 l0 x5_1).f2) == ((rd_T27 l1 x5_1).f2)) || (!(((rd_T27 l0 x5_1).f3) == ((rd_T27 l1 x5_1).f3)) || (!(((rd_T27 l0 x5_1).f4) == ((rd_T27 l1 x5_1).f4))))))) = true := c7
        clear c7
        obtain rfl := Option.some.inj H
        have p383 : 0 ≤ (x5_1 : Int) := lE (by first | (with_reducible assumption) | assumption)
        have q383 : x5_1 < (l0.length : Int) := lE (by first | (with_reducible assumption) | assumption)
        obtain ⟨ad383, e383, hx383_0, hx383_1, hx383_2, hx383_3, hx383_4⟩ := at_T27 HR0.out x5_1 p383 q383
        cases e383
        replace p383 := eq_true p383
        replace q383 := eq_true q383
        have p384 : 0 ≤ (x5_1 : Int) := lE (by first | (with_reducible assumption) | assumption)
        have q384 : x5_1 < (l1.length : Int) := lE (by first | (with_reducible assumption) | assumption)
        obtain ⟨ad384, e384, hx384_0, hx384_1, hx384_2, hx384_3, hx384_4⟩ := at_T27 HR1.out x5_1 p384 q384
        cases e384
        replace p384 := eq_true p384
        replace q384 := eq_true q384
        go_wp2
        repeat (go_quiet (fail); try go_wp2)
        go_ret
        exact ⟨by first | rfl | (simp; done) | (simp [*]; done), by repeat (first | exact Drawn0.refl _ | apply Drawn0.step)⟩
       ·rw [if_neg c7] at H
        have c7b0 : (!(((rd_T27 l0 x5_1).f0) == ((rd_T27 l1 x5_1).f0)) || (!(((rd_T27 l0 x5_1).f1) == ((rd_T27 l1 x5_1).f1)) || (!(((rd_T27 l0 x5_1).f2) == ((rd_T27 l1 x5_1).f2)) || (!(((rd_T27 l0 x5_1).f3) == ((rd_T27 l1 x5_1).f3)) || (!(((rd_T27 l0 x5_1).f4) == ((rd_T27 l1 x5_1).f4))))))) = false := by simpa using c7
        clear c7
        have H' := aA.mk H
        clear H
        have p383 : 0 ≤ (x5_1 : Int) := lE (by first | (with_reducible assumption) | assumption)
        have q383 : x5_1 < (l0.length : Int) := lE (by first | (with_reducible assumption) | assumption)
        obtain ⟨ad383, e383, hx383_0, hx383_1, hx383_2, hx383_3, hx383_4⟩ := at_T27 HR0.out x5_1 p383 q383
        cases e383
        replace p383 := eq_true p383
        replace q383 := eq_true q383
        have p384 : 0 ≤ (x5_1 : Int) := lE (by first | (with_reducible assumption) | assumption)
        have q384 : x5_1 < (l1.length : Int) := lE (by first | (with_reducible assumption) | assumption)
        obtain ⟨ad384, e384, hx384_0, hx384_1, hx384_2, hx384_3, hx384_4⟩ := at_T27 HR1.out x5_1 p384 q384
        cases e384
        replace p384 := eq_true p384
        replace q384 := eq_true q384
        go_wp2
        repeat (go_quiet (fail); try go_wp2)
        go_roundg k1
        case measure => have := HK1.out; omega
        case rel => exact ⟨(wrap64 (x5_1 + 1)), (by first | rfl | (simp; done) | (simp [*]; done)), H', ⟨by have := HK1.out; omega⟩, by repeat (first | exact Drawn0.refl _ | apply Drawn0.step)⟩
      ·rw [if_neg c6] at H
       exact absurd H (by simp)
     ·rw [if_neg c5] at H
      exact absurd H (by simp)
    ·rw [if_neg c4] at H
     have c4b0 : decide (x5_1 < (l0.length : Int)) = false := decide_eq_false c4
     clear c4
     obtain rfl := Option.some.inj H
     go_wp2
     repeat (go_quiet (fail); try go_wp2)
     go_ret
     exact ⟨by first | rfl | (simp; done) | (simp [*]; done), by repeat (first | exact Drawn0.refl _ | apply Drawn0.step)⟩
 ·rw [if_neg c3] at H
  have c3b0 : ((l0.length : Int) == (l1.length : Int)) = false := beq_eq_false_iff_ne.mpr c3
  have c3b1 : ((l0.length : Int) != (l1.length : Int)) = true := bne_iff_ne.mpr c3
  have c3b2 : (l0.length == l1.length) = false := by first | simpa using c3 | (simp at c3 ⊢; omega)
  obtain rfl := Option.some.inj H
  go_enter Try.func61, Try.ntmps61
  go_wp2
  repeat (go_quiet (fail); try go_wp2)
  go_ret
  exact ⟨by first | rfl | (simp; done) | (simp [*]; done), by repeat (first | exact Drawn0.refl _ | apply Drawn0.step)⟩
-- NOT PRINTED: function 13 (laws_FnSetsBent)
end Go.Proofs.Ytkaoiaolbhklnaa.PFnSetsBent

namespace Go.Proofs.Ytkaoiaolbhklnaa.Core
open Go.RowKit Go.Proofs.YtkaoiaolbhklnaaW.PrintWords
theorem w64 {x : Int} (h0 : -9223372036854775808 ≤ x) (h1 : x ≤ 9223372036854775807) : wrap64 x = x := by unfold wrap64; omega
theorem w64s (n : Nat) (h : n ≤ 4611686018427387904) : wrap64 ((n : Int) + 1) = ((n + 1 : Nat) : Int) := by unfold wrap64; omega
theorem evGet {α : Type} {g : Nat → Option α} {r : α} (h : Ev g r) : ∃ k, g k = some r := by
 obtain ⟨K, h⟩ := h
 exact ⟨K, h K (Nat.le_refl _)⟩
theorem evSucc {α : Type} {g : Nat → Option α} {r : α} (h : ∃ K d, ∀ k, K ≤ k → g (k + d) = some r) : Ev g r := by
 obtain ⟨K, d, h⟩ := h
 refine ⟨K + d, fun k hk => ?_⟩
 obtain ⟨m, rfl⟩ : ∃ m, k = m + d := ⟨k - d, by omega⟩
 exact h m (by omega)
theorem evRange {σ ρ : Type} (n : Nat) (l : Nat → σ → Int → Option ρ) (Inv : Nat → σ → Prop) (M : Nat → σ → ρ)
  (step : ∀ i s, i < n → Inv i s → (∃ s', Inv (i + 1) s' ∧ M (i + 1) s' = M i s ∧ ∃ K d, ∀ k, K ≤ k → l (k + d) s (i : Int) = l k s' ((i + 1 : Nat) : Int)) ∨ (∃ K d, ∀ k, K ≤ k → l (k + d) s (i : Int) = some (M i s)))
  (done : ∀ s, Inv n s → ∃ K d, ∀ k, K ≤ k → l (k + d) s (n : Int) = some (M n s)) :
  ∀ i s, i ≤ n → Inv i s → Ev (fun k => l k s (i : Int)) (M i s) := by
 have key : ∀ d i s, n - i = d → i ≤ n → Inv i s → Ev (fun k => l k s (i : Int)) (M i s) := by
  intro d
  induction d with
  | zero =>
   intro i s hd hi hinv
   obtain rfl : i = n := by omega
   exact evSucc (done s hinv)
  | succ d ih =>
   intro i s hd hi hinv
   rcases step i s (by omega) hinv with ⟨s', hinv', hM, K, e, h⟩ | h
   ·obtain ⟨K', h'⟩ := ih (i + 1) s' (by omega) (by omega) hinv'
    refine evSucc ⟨K + K', e, fun k hk' => ?_⟩
    show l (k + e) s i = _
    rw [h k (by omega), ← hM]
    exact h' k (by omega)
   ·exact evSucc h
 exact fun i s hi => key _ i s rfl hi
theorem evRange0 {σ ρ : Type} (n : Nat) (l : Nat → σ → Int → Option ρ) (Inv : Nat → σ → Prop) (M : Nat → σ → ρ) (s : σ) (h0 : Inv 0 s)
  (step : ∀ i s, i < n → Inv i s → (∃ s', Inv (i + 1) s' ∧ M (i + 1) s' = M i s ∧ ∃ K d, ∀ k, K ≤ k → l (k + d) s (i : Int) = l k s' ((i + 1 : Nat) : Int)) ∨ (∃ K d, ∀ k, K ≤ k → l (k + d) s (i : Int) = some (M i s)))
  (done : ∀ s, Inv n s → ∃ K d, ∀ k, K ≤ k → l (k + d) s (n : Int) = some (M n s)) :
  Ev (fun k => l k s 0) (M 0 s) := evRange n l Inv M step done 0 s (Nat.zero_le _) h0
theorem evRangeEx {σ ρ : Type} (n : Nat) (l : Nat → σ → Int → Option ρ) (Inv : Nat → σ → Prop) (Post : ρ → Prop)
  (step : ∀ i s, i < n → Inv i s → (∃ s', Inv (i + 1) s' ∧ ∃ K d, ∀ k, K ≤ k → l (k + d) s (i : Int) = l k s' ((i + 1 : Nat) : Int)) ∨ (∃ r, Post r ∧ ∃ K d, ∀ k, K ≤ k → l (k + d) s (i : Int) = some r))
  (done : ∀ s, Inv n s → ∃ r, Post r ∧ ∃ K d, ∀ k, K ≤ k → l (k + d) s (n : Int) = some r) :
  ∀ i s, i ≤ n → Inv i s → ∃ r, Post r ∧ Ev (fun k => l k s (i : Int)) r := by
 have key : ∀ d i s, n - i = d → i ≤ n → Inv i s → ∃ r, Post r ∧ Ev (fun k => l k s (i : Int)) r := by
  intro d
  induction d with
  | zero =>
   intro i s hd hi hinv
   obtain rfl : i = n := by omega
   obtain ⟨r, hp, h⟩ := done s hinv
   exact ⟨r, hp, evSucc h⟩
  | succ d ih =>
   intro i s hd hi hinv
   rcases step i s (by omega) hinv with ⟨s', hinv', K, e, h⟩ | ⟨r, hp, h⟩
   ·obtain ⟨r, hp, K', h'⟩ := ih (i + 1) s' (by omega) (by omega) hinv'
    refine ⟨r, hp, evSucc ⟨K + K', e, fun k hk' => ?_⟩⟩
    show l (k + e) s i = _
    rw [h k (by omega)]
    exact h' k (by omega)
   ·exact ⟨r, hp, evSucc h⟩
 exact fun i s hi => key _ i s rfl hi
def allFrom (p : Nat → Bool) (n i : Nat) : Bool := (List.range' i (n - i)).all p
theorem allFrom_lt {p : Nat → Bool} {n i : Nat} (h : i < n) : allFrom p n i = (p i && allFrom p n (i + 1)) := by
 unfold allFrom
 rw [show n - i = (n - (i + 1)) + 1 by omega, List.range'_succ, List.all_cons]
theorem allFrom_end (p : Nat → Bool) (n : Nat) : allFrom p n n = true := by simp [allFrom]
theorem allFrom_iff {p : Nat → Bool} {n i : Nat} : allFrom p n i = true ↔ ∀ j, i ≤ j → j < n → p j = true := by
 simp only [allFrom, List.all_eq_true, List.mem_range'_1]
 constructor
 ·intro h j h1 h2; exact h j ⟨h1, by omega⟩
 ·intro h j hj; exact h j hj.1 (by omega)
theorem evAll (n : Nat) (l : Nat → Int → Option Bool) (p : Nat → Bool) (fin : Bool)
  (step : ∀ i, i < n → ∃ K d, ∀ k, K ≤ k → l (k + d) (i : Int) = if p i = true then l k ((i + 1 : Nat) : Int) else some false)
  (done : ∃ K d, ∀ k, K ≤ k → l (k + d) (n : Int) = some fin) (i : Nat) (hi : i ≤ n) : Ev (fun k => l k (i : Int)) (allFrom p n i && fin) := by
 refine evRange (σ := Unit) n (fun k _ i => l k i) (fun _ _ => True) (fun i _ => allFrom p n i && fin) ?_ ?_ i () hi trivial
 ·intro i _ hi _
  obtain ⟨K, d, h⟩ := step i hi
  cases hp : p i with
  | true => exact .inl ⟨(), trivial, by simp [allFrom_lt hi, hp], K, d, fun k hk => by simp only [h k hk, hp, if_true]⟩
  | false => exact .inr ⟨K, d, fun k hk => by simp only [h k hk, hp, allFrom_lt hi, Bool.false_and]; rfl⟩
 ·intro _ _
  obtain ⟨K, d, h⟩ := done
  exact ⟨K, d, fun k hk => by rw [h k hk, allFrom_end, Bool.true_and]⟩
def fill {β : Type} (c : Nat → β) (l : List β) (i : Nat) : List β := (List.range i).map c ++ l.drop i
theorem drop_getD {α : Type} (l : List α) (i : Nat) (z : α) (h : i < l.length) : l.drop i = l.getD i z :: l.drop (i + 1) := by
 rw [List.drop_eq_getElem_cons h, List.getD_eq_getElem?_getD, List.getElem?_eq_getElem h]; rfl
theorem getD_mem {α : Type} (l : List α) (i : Nat) (z : α) (h : i < l.length) : l.getD i z ∈ l := by
 rw [List.getD_eq_getElem?_getD, List.getElem?_eq_getElem h]; exact List.getElem_mem h
theorem and255 (x : Int) : Go.bits .and .i64 x 255 = x % 256 := by
 have e : (BitVec.ofInt IntKind.i64.bits x &&& BitVec.ofInt IntKind.i64.bits 255).toNat = (x % 256).toNat := by
  rw [BitVec.toNat_and, BitVec.toNat_ofInt, BitVec.toNat_ofInt]
  have h2 : ((255 : Int) % ((2 ^ IntKind.i64.bits : Nat) : Int)).toNat = 2 ^ 8 - 1 := by decide
  rw [h2, Nat.and_two_pow_sub_one_eq_mod]
  have h3 : ((2 ^ IntKind.i64.bits : Nat) : Int) = 18446744073709551616 := by decide
  rw [h3]
  omega
 unfold Go.bits
 simp only [e]
 rw [IntKind.wrap_i64]
 omega
theorem wf_u8 {x : Int} (h : (Lit.int .u8 x).wf = true) : 0 ≤ x ∧ x ≤ 255 := by
 simp only [Lit.wf, IntKind.min, IntKind.max, Bool.and_eq_true] at h
 simpa [IntKind.bits, IntKind.signed] using h
end Go.Proofs.Ytkaoiaolbhklnaa.Core

namespace Go.Proofs.Ytkaoiaolbhklnaa.Core
open Go.RowKit Go.Proofs.YtkaoiaolbhklnaaW.PrintWords
section
variable {α : Type} (mk : α → Int → α) (cnt : α → Int)
def cntL : List α → Int
 | [] => 0
 | x :: xs => cnt x + cntL xs
def mkL : List α → Int → List α
 | [], _ => []
 | x :: xs, a => mk x a :: mkL xs (a + cnt x)
/-- The first i are marked. -/
def midL (l : List α) (a : Int) (i : Nat) : List α := (mkL mk cnt l a).take i ++ l.drop i
end
/-- The blocks from lo on, below hi. -/
def In (lo hi k : Nat) : Prop := lo ≤ k ∧ k < hi
theorem In.off {a b c d : Nat} (h : b ≤ c) : ∀ k, In a b k → ¬ In c d k := fun _ h1 h2 => by unfold In at *; omega
namespace Mem
open Kd
section
variable {α : Type} {d : Kd α} {e n m c base lo hi top : Nat} {w w1 W : World} {A : Option Addr} {v : Value} {xs : List α} {ok P : Nat → Prop}
theorem times (hs : top ≤ W.heap.size) (hb : Below W.heap.size W w1) : ∃ lo hi, lo = W.heap.size ∧ hi = w1.heap.size ∧ top ≤ lo ∧ lo ≤ hi := ⟨_, _, rfl, rfl, hs, hb.size⟩
theorem new_R (h : d.R e w1 lo ok v xs) (eh : hi = w1.heap.size) : ∃ A c, v = .slice A xs.length c ∧ xs.length ≤ c ∧ F d w1 (In lo hi) A xs.length xs ∧ d.R e w1 lo (In lo hi) (.slice A xs.length c) xs := by
 subst eh
 obtain ⟨A, c, rfl, hl, _⟩ := R_reads h
 have h2 : d.R e w1 lo (In lo w1.heap.size) (.slice A xs.length c) xs := R_mono (R_bound h) (fun k hk => ⟨hk.2.1, hk.2.2.1⟩)
 exact ⟨A, c, rfl, hl, R_F h2, h2⟩
end
theorem lent {α : Type} {d : Kd α} {e e2 g n cap base : Nat} {P : Nat → Prop} {W : World} {xs : List (List α)} (h : Kd.S (Kd.slice e d) e2 W base P (.slice (some ⟨g, 0, none⟩) n cap) xs) (i : Int) (h0 : 0 ≤ i) (h1 : i < n) (hnew : ∀ k, W.heap.size ≤ k → P k) :
  ∃ (oki : Nat → Prop) (v : Value), (∀ k, oki k → P k) ∧ d.R e W base oki v (xs.getD i.toNat []) ∧ W.cell? ⟨g, i.toNat, none⟩ = some v ∧
   ∀ (w1 : World) (x' : List α), Kept W w1 oki → d.R e w1 base (fun k => oki k ∨ W.heap.size ≤ k) v x' → Kd.S (Kd.slice e d) e2 w1 base P (.slice (some ⟨g, 0, none⟩) n cap) (xs.set i.toNat x') := by
 obtain ⟨oki, c, hcl, hM, hcc, hoki, hH⟩ := S_lend h [] i h0 h1
 obtain ⟨v, rfl, hR⟩ := hM
 refine ⟨oki, v, fun k hk => (hoki k hk).1, hR, ?_, fun w1 x' hk hR' => ?_⟩
 ·have := hcc 0 v rfl
  simpa [show (Kd.slice e d).sz = 1 from rfl] using this
 ·refine H_back (H_step (H_widen hH) (fun k ho hn hlt => hk.2 k hlt (fun h2 => hn (.inl h2)))) (okp := fun k => oki k ∨ W.heap.size ≤ k) ⟨v, rfl, hR'⟩ (fun k hk' => ?_)
  rcases hk' with hk' | hk'
  ·exact .inl hk'
  ·exact .inr ⟨hnew k hk', hk'⟩
end Mem
end Go.Proofs.Ytkaoiaolbhklnaa.Core

namespace Go.Proofs.Ytkaoiaolbhklnaa.Pure
open Go.RowKit Go.Proofs.Ytkaoiaolbhklnaa.PFnSetsBent Go.Proofs.Ytkaoiaolbhklnaa.Core Go.Proofs.YtkaoiaolbhklnaaW.PrintWords Go.Proofs.YtkaoiaolbhklnaaW.PrintLast Go.Proofs.YtkaoiaolbhklnaaW.PrintMore
set_option linter.unusedSimpArgs false
set_option linter.unusedVariables false
def at6 : Option S27 → Int × Int × Int × Int × Int × Bool
 | some x => (x.f0, x.f1, x.f2, x.f3, x.f4, true)
 | none => (0, 0, 0, 0, 0, false)
def setAt (l : List S27) (a b : Int) : Option S27 := l.find? fun x => decide (x.f0 = a) && decide (x.f1 = b)
theorem spec_SetAt_ev (l : List S27) (a b : Int) (h : l.length ≤ 4194304) : Ev (fun k => spec_SetAt.f k l a b) (at6 (setAt l a b)) := by
 obtain ⟨K, hk⟩ := evRange0 (σ := Unit) l.length (fun k _ i => spec_SetAt.l0 k l a b i) (fun _ _ => True) (fun i _ => at6 (setAt (l.drop i) a b)) () trivial
  (by
   intro i _ hi _
   have hd := drop_getD l i z27 hi
   have hr : rd_T27 l (i : Int) = l.getD i z27 := by simp [rd_T27]
   generalize l.getD i z27 = y at *
   by_cases h1 : y.f0 = a ∧ y.f1 = b
   ·refine .inr ⟨0, 1, fun k _ => ?_⟩
    simp only [spec_SetAt.l0, hr]
    rw [if_pos (by omega), if_pos (by omega), if_pos h1.1, if_pos h1.2, hd, setAt, List.find?_cons_of_pos (by simp [h1])]
    rfl
   ·refine .inl ⟨(), trivial, ?_, 0, 1, fun k _ => ?_⟩
    ·rw [hd, setAt, setAt, List.find?_cons_of_neg (by simpa using h1)]
    ·simp only [spec_SetAt.l0, hr]
     rw [if_pos (by omega), if_pos (by omega), w64s i (by omega)]
     by_cases h2 : y.f0 = a
     ·rw [if_pos h2, if_neg (fun h3 => h1 ⟨h2, h3⟩)]
     ·rw [if_neg h2])
  (by
   intro _ _
   refine ⟨0, 1, fun k _ => ?_⟩
   simp only [spec_SetAt.l0]
   rw [if_neg (by omega)]
   simp [setAt, at6])
 exact ⟨K, fun k hk' => hk k hk'⟩
theorem impl_SetAt_ev (l : List S27) (a b : Int) (h : l.length ≤ 4194304) : Ev (fun k => impl_SetAt.f k l a b) (at6 (setAt l a b)) := by
 obtain ⟨K, hk⟩ := evRange0 (σ := Unit) l.length (fun k _ i => impl_SetAt.l0 k a b l (l.length : Int) i) (fun _ _ => True) (fun i _ => at6 (setAt (l.drop i) a b)) () trivial
  (by
   intro i _ hi _
   have hd := drop_getD l i z27 hi
   have hr : rd_T27 l (i : Int) = l.getD i z27 := by simp [rd_T27]
   generalize l.getD i z27 = y at *
   by_cases h1 : y.f0 = a ∧ y.f1 = b
   ·refine .inr ⟨0, 1, fun k _ => ?_⟩
    simp only [impl_SetAt.l0, hr]
    rw [if_pos (by omega), if_pos (by omega), if_pos (by omega), if_pos h1.1, if_pos h1.2, hd, setAt, List.find?_cons_of_pos (by simp [h1])]
    rfl
   ·refine .inl ⟨(), trivial, ?_, 0, 1, fun k _ => ?_⟩
    ·rw [hd, setAt, setAt, List.find?_cons_of_neg (by simpa using h1)]
    ·simp only [impl_SetAt.l0, hr]
     rw [if_pos (by omega), if_pos (by omega), if_pos (by omega), w64s i (by omega)]
     by_cases h2 : y.f0 = a
     ·rw [if_pos h2, if_neg (fun h3 => h1 ⟨h2, h3⟩)]
     ·rw [if_neg h2])
  (by
   intro _ _
   refine ⟨0, 1, fun k _ => ?_⟩
   simp only [impl_SetAt.l0]
   rw [if_neg (by omega)]
   simp [setAt, at6])
 exact ⟨K, fun k hk' => hk k hk'⟩
theorem spec_l1In_f (a b c : Int) : spec_l1In.f a b c = some (decide (b ≤ a ∧ a ≤ c)) := by
 unfold spec_l1In.f
 by_cases h : a ≥ b
 ·rw [if_pos h]; congr 1; rw [Bool.eq_iff_iff]; simp; omega
 ·rw [if_neg h]; congr 1; rw [Bool.eq_iff_iff]; simp; omega
def keyOk5 (a b c d e : Int) : Bool := decide (0 ≤ a ∧ a ≤ 15) && (decide (1 ≤ b ∧ b ≤ 60) && (decide (0 ≤ c ∧ c ≤ 2) && if c = 1 then decide (0 ≤ d ∧ d ≤ 23) && decide (0 ≤ e ∧ e ≤ 999) else decide (d = 0) && decide (e = 0)))
theorem spec_KeyOk_ev (a b c d e : Int) : Ev (fun k => spec_KeyOk.f k a b c d e) (keyOk5 a b c d e) := by
 refine evSucc ⟨0, 1, fun k _ => ?_⟩
 simp only [spec_KeyOk.f, spec_l1In_f, Option.bind_some, spec_KeyOk.j0, keyOk5]
 cases h0 : decide (0 ≤ a ∧ a ≤ 15) <;> cases h1 : decide (1 ≤ b ∧ b ≤ 60) <;> cases h2 : decide (0 ≤ c ∧ c ≤ 2) <;> simp only [Bool.false_and, Bool.true_and, Bool.false_eq_true, if_true, if_false, Bool.not_true, Bool.not_false]
 by_cases h3 : c = 1
 ·rw [if_pos h3, if_pos h3]
  cases h4 : decide (0 ≤ d ∧ d ≤ 23) <;> simp only [Bool.false_and, Bool.true_and, Bool.false_eq_true, if_true, if_false]
 ·rw [if_neg h3, if_neg h3]
  by_cases h4 : d = 0
  ·rw [if_pos h4]; simp [h4]; rw [Bool.eq_iff_iff]; simp
  ·rw [if_neg h4]; simp [h4]
def less (a b : S27) : Bool := decide (a.f0 < b.f0 ∨ a.f0 = b.f0 ∧ a.f1 < b.f1)
def same (a b : S27) : Bool := decide (a.f0 = b.f0 ∧ a.f1 = b.f1)
def putGo (k : S27) : List S27 → Bool → List S27
 | [], p => if p then [] else [k]
 | x :: xs, p => (if p || less x k then [] else [k]) ++ ((if same x k then [] else [x]) ++ putGo k xs (p || !less x k))
def setPut (l : List S27) (k : S27) : List S27 := putGo k l false
def mergeSets (a b : List S27) : List S27 := b.foldl setPut a
def dropNone (l : List S27) : List S27 := l.filter fun x => x.f2 != 0
theorem putGo_length (k : S27) : ∀ (l : List S27) (p : Bool), (putGo k l p).length ≤ l.length + 1
 | [], p => by cases p <;> simp [putGo]
 | x :: xs, p => by
  have ih := putGo_length k xs
  have ih1 : p = true → (putGo k xs true).length ≤ xs.length := fun _ => by
   clear ih
   induction xs with
   | nil => simp [putGo]
   | cons y ys ih => simp only [putGo, Bool.true_or, if_true, List.nil_append, List.length_append, List.length_cons]; split <;> simp <;> omega
  simp only [putGo, List.length_append, List.length_cons]
  cases p with
  | true => simp only [Bool.true_or, if_true, List.length_nil]; have := ih1 rfl; split <;> simp <;> omega
  | false =>
   cases hx : less x k with
   | true => simp only [Bool.false_or, if_true, Bool.not_true, List.length_nil]; have := ih false; split <;> simp <;> omega
   | false =>
    simp only [Bool.false_or, Bool.not_false, if_false, Bool.false_eq_true, List.length_cons, List.length_nil]
    have h2 : (putGo k xs true).length ≤ xs.length := by
     clear ih ih1
     induction xs with
     | nil => simp [putGo]
     | cons y ys ih => simp only [putGo, Bool.true_or, if_true, List.nil_append, List.length_append, List.length_cons]; split <;> simp <;> omega
    split <;> simp <;> omega
theorem setPut_length (l : List S27) (k : S27) : (setPut l k).length ≤ l.length + 1 := putGo_length k l false
theorem spec_LessKey_f (a b : S27) : spec_LessKey.f a.f0 a.f1 a.f2 a.f3 a.f4 b.f0 b.f1 b.f2 b.f3 b.f4 = some (less a b) := by
 unfold spec_LessKey.f less
 split
 ·simp [*]
 ·simp [*]
def keyOkB (x : S27) : Bool := keyOk5 x.f0 x.f1 x.f2 x.f3 x.f4
def risesAt (l : List S27) (j : Nat) : Bool := less (l.getD (j - 1) z27) (l.getD j z27)
def setOkB (l : List S27) : Bool := allFrom (fun j => keyOkB (l.getD j z27) && (j == 0 || risesAt l j)) l.length 0 && decide (l.length ≤ 60)
theorem spec_l4Rises_ev (l : List S27) (h : l.length ≤ 4194304) : Ev (fun k => spec_l4Rises.f k l) (allFrom (risesAt l) l.length 1) := by
 by_cases h0 : l.length = 0
 ·refine evSucc ⟨0, 1, fun k _ => ?_⟩
  simp only [spec_l4Rises.f, spec_l4Rises.l0]
  rw [if_neg (by omega)]
  simp [allFrom, h0]
 have := evAll l.length (fun k i => spec_l4Rises.l0 k l (if i = 0 then 1 else i)) (fun j => j == 0 || risesAt l j) true
  (by
   intro i hi
   by_cases hz : i = 0
   ·subst hz
    exact ⟨0, 0, fun k _ => by simp⟩
   have hr : rd_T27 l (i : Int) = l.getD i z27 := by simp [rd_T27]
   have hw := w64s i (by omega)
   have hw1 : wrap64 ((i : Int) - 1) = ((i - 1 : Nat) : Int) := by rw [w64 (by omega) (by omega)]; omega
   have hr1 : rd_T27 l ((i - 1 : Nat) : Int) = l.getD (i - 1) z27 := by simp [rd_T27]
   refine ⟨0, 1, fun k _ => ?_⟩
   rw [if_neg (show ¬ (i : Int) = 0 by omega), if_neg (show ¬ ((i + 1 : Nat) : Int) = 0 by omega)]
   simp only [spec_l4Rises.l0]
   rw [if_pos (by omega), hw1, if_pos (by omega), if_pos (by omega), if_pos (by omega), hr, hr1, spec_LessKey_f, hw]
   simp only [Option.bind_some, beq_eq_false_iff_ne.mpr hz, Bool.false_or]
   rfl)
  (by
   refine ⟨0, 1, fun k _ => ?_⟩
   rw [if_neg (show ¬ (l.length : Int) = 0 by omega)]
   simp only [spec_l4Rises.l0]
   rw [if_neg (by omega)]) 1 (by omega)
 obtain ⟨K, hk⟩ := this
 refine ⟨K, fun k hk' => ?_⟩
 have e := hk k hk'
 simp only [Bool.and_true] at e
 have e2 : allFrom (fun j => j == 0 || risesAt l j) l.length 1 = allFrom (risesAt l) l.length 1 := by
  rw [Bool.eq_iff_iff, allFrom_iff, allFrom_iff]
  constructor
  ·intro hh j h1 h2; have := hh j h1 h2; simp only [Bool.or_eq_true, beq_iff_eq] at this; rcases this with h | h; omega; exact h
  ·intro hh j h1 h2; simp [hh j h1 h2]
 rw [e2] at e
 rw [← e]
 rfl
theorem spec_SetOk_ev (l : List S27) (h : l.length ≤ 4194304) : Ev (fun k => spec_SetOk.f k l) (setOkB l) := by
 obtain ⟨K0, e0⟩ := spec_l4Rises_ev l h
 have := evAll l.length (fun k i => spec_SetOk.l0 k l i) (fun j => keyOkB (l.getD j z27)) (allFrom (risesAt l) l.length 1 && decide (l.length ≤ 60))
  (by
   intro i hi
   have hr : rd_T27 l (i : Int) = l.getD i z27 := by simp [rd_T27]
   obtain ⟨K, e⟩ := spec_KeyOk_ev (l.getD i z27).f0 (l.getD i z27).f1 (l.getD i z27).f2 (l.getD i z27).f3 (l.getD i z27).f4
   refine ⟨K, 1, fun k hk => ?_⟩
   have e1 : spec_KeyOk.f k (l.getD i z27).f0 (l.getD i z27).f1 (l.getD i z27).f2 (l.getD i z27).f3 (l.getD i z27).f4 = some (keyOkB (l.getD i z27)) := e k hk
   simp only [spec_SetOk.l0, hr, e1, Option.bind_some]
   rw [if_pos (by omega), if_pos (by omega), w64s i (by omega)])
  (by
   refine ⟨K0, 1, fun k hk => ?_⟩
   have e1 : spec_l4Rises.f k l = some (allFrom (risesAt l) l.length 1) := e0 k hk
   simp only [spec_SetOk.l0, e1, Option.bind_some]
   rw [if_neg (by omega)]
   have e2 : decide ((l.length : Int) ≤ 60) = decide (l.length ≤ 60) := by rw [Bool.eq_iff_iff]; simp; omega
   cases allFrom (risesAt l) l.length 1 <;> simp [e2]) 0 (Nat.zero_le _)
 obtain ⟨K, hk⟩ := this
 refine ⟨K, fun k hk' => ?_⟩
 have e := hk k hk'
 simp only [Int.natCast_zero] at e
 show spec_SetOk.l0 k l 0 = _
 have e' : spec_SetOk.l0 k l 0 = some (allFrom (fun j => keyOkB (l.getD j z27)) l.length 0 && (allFrom (risesAt l) l.length 1 && decide (l.length ≤ 60))) := e
 rw [e', setOkB, ← Bool.and_assoc]
 congr 2
 rw [Bool.eq_iff_iff, Bool.and_eq_true, allFrom_iff, allFrom_iff, allFrom_iff]
 constructor
 ·rintro ⟨h1, h2⟩ j hj hlt
  rw [h1 j hj hlt, Bool.true_and]
  by_cases hz : j = 0
  ·simp [hz]
  ·rw [h2 j (by omega) hlt, Bool.or_true]
 ·intro h
  refine ⟨fun j hj hlt => ?_, fun j hj hlt => ?_⟩
  ·have := h j hj hlt; simp only [Bool.and_eq_true] at this; exact this.1
  ·have := h j (by omega) hlt; simp only [Bool.and_eq_true, Bool.or_eq_true, beq_iff_eq] at this; rcases this.2 with h | h; omega; exact h
theorem impl_LessKey_f (a b : S27) : impl_LessKey.f a.f0 a.f1 a.f2 a.f3 a.f4 b.f0 b.f1 b.f2 b.f3 b.f4 = some (less a b) := by
 unfold impl_LessKey.f less
 split
 ·simp [*]
 ·split
  ·simp [*]
  ·simp [*]
theorem impl_within_f (a b c : Int) : impl_within.f a b c = some (decide (b ≤ a ∧ a ≤ c)) := by
 unfold impl_within.f
 by_cases h : a ≥ b
 ·rw [if_pos h]; congr 1; rw [Bool.eq_iff_iff]; simp; omega
 ·rw [if_neg h]; congr 1; rw [Bool.eq_iff_iff]; simp; omega
theorem impl_KeyOk_ev (a b c d e : Int) : Ev (fun k => impl_KeyOk.f k a b c d e) (keyOk5 a b c d e) := by
 refine evSucc ⟨0, 1, fun k _ => ?_⟩
 simp only [impl_KeyOk.f, impl_within_f, Option.bind_some, impl_KeyOk.j0, keyOk5]
 cases h0 : decide (0 ≤ a ∧ a ≤ 15) <;> cases h1 : decide (1 ≤ b ∧ b ≤ 60) <;> cases h2 : decide (0 ≤ c ∧ c ≤ 2) <;> simp only [Bool.false_and, Bool.true_and, Bool.false_eq_true, if_true, if_false, Bool.not_true, Bool.not_false]
 by_cases h3 : c = 1
 ·rw [if_pos h3, if_pos h3]
  cases h4 : decide (0 ≤ d ∧ d ≤ 23) <;> simp only [Bool.false_and, Bool.true_and, Bool.false_eq_true, if_true, if_false]
 ·rw [if_neg h3, if_neg h3]
  by_cases h4 : d = 0
  ·rw [if_pos h4]; simp [h4]; rw [Bool.eq_iff_iff]; simp
  ·rw [if_neg h4]; simp [h4]
theorem impl_SetOk_ev (l : List S27) (h : l.length ≤ 4194304) : Ev (fun k => impl_SetOk.f k l) (setOkB l) := by
 have := evAll l.length (fun k i => impl_SetOk.l0 k l l (l.length : Int) i) (fun j => keyOkB (l.getD j z27) && (j == 0 || risesAt l j)) (decide (l.length ≤ 60))
  (by
   intro i hi
   have hr : rd_T27 l (i : Int) = l.getD i z27 := by simp [rd_T27]
   obtain ⟨K, e⟩ := impl_KeyOk_ev (l.getD i z27).f0 (l.getD i z27).f1 (l.getD i z27).f2 (l.getD i z27).f3 (l.getD i z27).f4
   refine ⟨K, 1, fun k hk => ?_⟩
   have e1 : impl_KeyOk.f k (l.getD i z27).f0 (l.getD i z27).f1 (l.getD i z27).f2 (l.getD i z27).f3 (l.getD i z27).f4 = some (keyOkB (l.getD i z27)) := e k hk
   have hra : risesAt l i = less (l.getD (i - 1) z27) (l.getD i z27) := rfl
   simp only [impl_SetOk.l0, hr, e1, Option.bind_some]
   rw [if_pos (by omega), if_pos (by omega), if_pos (by omega)]
   have hw := w64s i (by omega)
   generalize l.getD i z27 = y at *
   cases hq : keyOkB y with
   | false => simp only [Bool.false_and, Bool.false_eq_true, if_false]
   | true =>
    simp only [Bool.true_and, if_true]
    by_cases hz : i = 0
    ·subst hz; rw [if_neg (by omega), hw]; rfl
    ·have hw1 : wrap64 ((i : Int) - 1) = ((i - 1 : Nat) : Int) := by rw [w64 (by omega) (by omega)]; omega
     have hr1 : rd_T27 l ((i - 1 : Nat) : Int) = l.getD (i - 1) z27 := by simp [rd_T27]
     rw [if_pos (by omega), hw1, if_pos (by omega), if_pos (by omega), hr1, impl_LessKey_f, hw, hra]
     simp only [Option.bind_some, beq_iff_eq, hz, Bool.false_or, beq_eq_false_iff_ne.mpr hz])
  (by
   refine ⟨0, 1, fun k _ => ?_⟩
   simp only [impl_SetOk.l0]
   rw [if_neg (by omega)]
   congr 1; rw [Bool.eq_iff_iff]; simp; omega) 0 (Nat.zero_le _)
 obtain ⟨K, hk⟩ := this
 exact ⟨K, fun k hk' => hk k hk'⟩
theorem spec_Drop_ev (l : List S27) (h : l.length ≤ 4194304) : Ev (fun k => spec_Drop.f k l) (dropNone l) := by
 obtain ⟨K, hk⟩ := evRange0 (σ := List S27) l.length (fun k s i => spec_Drop.l0 k l s i) (fun i s => s.length ≤ i) (fun i s => s ++ dropNone (l.drop i)) [] (by simp)
  (by
   intro i s hi hs
   have hd := drop_getD l i z27 hi
   have hr : rd_T27 l (i : Int) = l.getD i z27 := by simp [rd_T27]
   generalize l.getD i z27 = y at *
   by_cases h1 : y.f2 = 0
   ·refine .inl ⟨s, by omega, ?_, 0, 1, fun k _ => ?_⟩
    ·rw [hd, dropNone, dropNone, List.filter_cons_of_neg (by simp [h1])]
    ·simp only [spec_Drop.l0, hr]
     rw [if_pos (by omega), if_pos (by omega), if_pos h1, w64s i (by omega)]
   ·refine .inl ⟨s ++ [y], by simp; omega, ?_, 0, 1, fun k _ => ?_⟩
    ·rw [hd, dropNone, dropNone, List.filter_cons_of_pos (by simp [h1]), List.append_assoc]; rfl
    ·simp only [spec_Drop.l0, hr]
     rw [if_pos (by omega), if_pos (by omega), if_neg h1, if_pos (by omega), w64s i (by omega)])
  (by
   intro s _
   refine ⟨0, 1, fun k _ => ?_⟩
   simp only [spec_Drop.l0]
   rw [if_neg (by omega)]
   simp [dropNone])
 exact ⟨K, fun k hk' => hk k hk'⟩
theorem impl_Drop_ev (l : List S27) (h : l.length ≤ 4194304) : Ev (fun k => impl_Drop.f k l) (dropNone l) := by
 obtain ⟨K, hk⟩ := evRange0 (σ := List S27) l.length (fun k s i => impl_Drop.l0 k s l (l.length : Int) i) (fun i s => s.length ≤ i) (fun i s => s ++ dropNone (l.drop i)) [] (by simp)
  (by
   intro i s hi hs
   have hd := drop_getD l i z27 hi
   have hr : rd_T27 l (i : Int) = l.getD i z27 := by simp [rd_T27]
   generalize l.getD i z27 = y at *
   by_cases h1 : y.f2 = 0
   ·refine .inl ⟨s, by omega, ?_, 0, 1, fun k _ => ?_⟩
    ·rw [hd, dropNone, dropNone, List.filter_cons_of_neg (by simp [h1])]
    ·simp only [impl_Drop.l0, hr]
     rw [if_pos (by omega), if_pos (by omega), if_pos (by omega), if_pos h1, w64s i (by omega)]
   ·refine .inl ⟨s ++ [y], by simp; omega, ?_, 0, 1, fun k _ => ?_⟩
    ·rw [hd, dropNone, dropNone, List.filter_cons_of_pos (by simp [h1]), List.append_assoc]; rfl
    ·simp only [impl_Drop.l0, hr]
     rw [if_pos (by omega), if_pos (by omega), if_pos (by omega), if_neg h1, if_pos (by omega), w64s i (by omega)])
  (by
   intro s _
   refine ⟨0, 1, fun k _ => ?_⟩
   simp only [impl_Drop.l0]
   rw [if_neg (by omega)]
   simp [dropNone])
 exact ⟨K, fun k hk' => hk k hk'⟩
theorem spec_SameSpot_f (a b : S27) : spec_SameSpot.f a.f0 a.f1 a.f2 a.f3 a.f4 b.f0 b.f1 b.f2 b.f3 b.f4 = some (same a b) := by
 unfold spec_SameSpot.f same
 split
 ·simp only [*, true_and, Option.some.injEq]; rw [Bool.eq_iff_iff]; simp
 ·simp [*]
theorem spec_SetPut_ev (l : List S27) (x : S27) (h : l.length ≤ 4194304) : Ev (fun k => spec_SetPut.f k l x.f0 x.f1 x.f2 x.f3 x.f4) (setPut l x) := by
 obtain ⟨K, hk⟩ := evRange0 (σ := List S27 × Bool) l.length (fun k s i => spec_SetPut.l0 k l s.1 s.2 i x.f0 x.f1 x.f2 x.f3 x.f4) (fun i s => s.1.length ≤ 2 * i) (fun i s => s.1 ++ putGo x (l.drop i) s.2) ([], false) (by simp)
  (by
   intro i s hi hs
   obtain ⟨out, put⟩ := s
   simp only at hs
   have hd := drop_getD l i z27 hi
   have hr : rd_T27 l (i : Int) = l.getD i z27 := by simp [rd_T27]
   refine .inl ⟨(out ++ (if put || less (l.getD i z27) x then [] else [x]) ++ (if same (l.getD i z27) x then [] else [l.getD i z27]), put || !less (l.getD i z27) x), ?_, ?_, 0, 2, fun k _ => ?_⟩
   ·simp only [List.length_append]; split <;> split <;> simp <;> omega
   ·simp only [hd, putGo, List.append_assoc]
   ·generalize hy : l.getD i z27 = y at *
    have hw := w64s i (by omega)
    have c1 : (i : Int) < (l.length : Int) := by omega
    have c2 : 0 ≤ (i : Int) := by omega
    simp only [spec_SetPut.l0, hr, spec_LessKey_f, Option.bind_some, spec_SetPut.j1, if_pos c1, if_pos c2]
    cases put <;> cases hl : less y x <;> cases hq : same y x <;>
     simp only [Bool.not_true, Bool.not_false, if_true, if_false, Bool.false_eq_true, reduceCtorEq, spec_SameSpot_f, Option.bind_some, hq, hw, Bool.or_true, Bool.true_or, Bool.or_false, Bool.false_or, List.append_nil, List.append_assoc] <;>
     (repeat rw [if_pos (by first | omega | (simp only [List.length_append, List.length_cons, List.length_nil]; omega))]) <;> rfl)
  (by
   intro s hs
   obtain ⟨out, put⟩ := s
   simp only at hs
   refine ⟨0, 1, fun k _ => ?_⟩
   simp only [spec_SetPut.l0]
   rw [if_neg (by omega)]
   cases put
   ·rw [if_neg (by simp), if_pos (by omega)]; simp [putGo]
   ·rw [if_pos rfl]; simp [putGo])
 exact ⟨K, fun k hk' => hk k hk'⟩
theorem impl_SameSpot_f (a b : S27) : impl_SameSpot.f a.f0 a.f1 a.f2 a.f3 a.f4 b.f0 b.f1 b.f2 b.f3 b.f4 = some (same a b) := by
 unfold impl_SameSpot.f same
 split
 ·simp only [*, true_and, Option.some.injEq]; rw [Bool.eq_iff_iff]; simp
 ·simp [*]
theorem impl_SetPut_ev (l : List S27) (x : S27) (h : l.length ≤ 4194304) : Ev (fun k => impl_SetPut.f k l x.f0 x.f1 x.f2 x.f3 x.f4) (setPut l x) := by
 obtain ⟨K, hk⟩ := evRange0 (σ := List S27 × Bool) l.length (fun k s i => impl_SetPut.l0 k s.1 s.2 l (l.length : Int) i x.f0 x.f1 x.f2 x.f3 x.f4) (fun i s => s.1.length ≤ 2 * i) (fun i s => s.1 ++ putGo x (l.drop i) s.2) ([], false) (by simp)
  (by
   intro i s hi hs
   obtain ⟨out, put⟩ := s
   simp only at hs
   have hd := drop_getD l i z27 hi
   have hr : rd_T27 l (i : Int) = l.getD i z27 := by simp [rd_T27]
   refine .inl ⟨(out ++ (if put || less (l.getD i z27) x then [] else [x]) ++ (if same (l.getD i z27) x then [] else [l.getD i z27]), put || !less (l.getD i z27) x), ?_, ?_, 0, 2, fun k _ => ?_⟩
   ·simp only [List.length_append]; split <;> split <;> simp <;> omega
   ·simp only [hd, putGo, List.append_assoc]
   ·generalize hy : l.getD i z27 = y at *
    simp only [impl_SetPut.l0, hr]
    rw [if_pos (by omega), if_pos (by omega), if_pos (by omega)]
    rw [impl_LessKey_f]
    simp only [Option.bind_some, impl_SetPut.j1]
    have hw := w64s i (by omega)
    cases put <;> cases hl : less y x <;> cases hq : same y x <;>
     simp only [Bool.not_true, Bool.not_false, if_true, if_false, Bool.false_eq_true, reduceCtorEq, impl_SameSpot_f, Option.bind_some, hq, hw, Bool.or_true, Bool.true_or, Bool.or_false, Bool.false_or, List.append_nil, List.append_assoc] <;>
     (repeat rw [if_pos (by first | omega | (simp only [List.length_append, List.length_cons, List.length_nil]; omega))]) <;> rfl)
  (by
   intro s hs
   obtain ⟨out, put⟩ := s
   simp only at hs
   refine ⟨0, 1, fun k _ => ?_⟩
   simp only [impl_SetPut.l0]
   rw [if_neg (by omega)]
   cases put
   ·rw [if_neg (by simp), if_pos (by omega)]; simp [putGo]
   ·rw [if_pos rfl]; simp [putGo])
 exact ⟨K, fun k hk' => hk k hk'⟩
def bytesIn (l : List Int) : Prop := ∀ x ∈ l, 0 ≤ x ∧ x ≤ 255
def getW (l : List Int) (a : Int) : Int × Int × Bool := if 0 ≤ a ∧ a ≤ (l.length : Int) - 2 then (l.getD a.toNat 0 * 256 + l.getD (a.toNat + 1) 0, a + 2, true) else (0, 0, false)
def curOk (b : List Int) (i : Int) : Prop := bytesIn b ∧ b.length ≤ 1048576 ∧ 0 ≤ i ∧ i ≤ (b.length : Int)
theorem l1New_ex (b : List Int) (hb : bytesIn b) (hl : b.length ≤ 1048576) : ∃ h, Ev (fun k => spec_l1New.f k b) (b, 0, h) := by
 obtain ⟨r, ⟨h, rfl⟩, K, hk⟩ := evRangeEx (σ := Int) b.length (fun k s i => spec_l1New.l0 k b s i) (fun _ _ => True) (fun r => ∃ h, r = (b, 0, h))
  (by
   intro i s hi _
   by_cases c : i < 4000
   ·refine .inl ⟨Go.bits .and .i64 (wrap64 ((wrap64 ((wrap64 (s * 137)) + (wrap64 (rd b (i : Int))))) + 11)) 1073741823, trivial, 0, 1, fun k _ => ?_⟩
    simp only [spec_l1New.l0]
    rw [if_pos (by omega), if_pos (by omega), if_pos (by omega), w64s i (by omega)]
   ·refine .inr ⟨(b, 0, s), ⟨s, rfl⟩, 0, 1, fun k _ => ?_⟩
    simp only [spec_l1New.l0]
    rw [if_pos (by omega), if_neg (by omega)])
  (by
   intro s _
   refine ⟨(b, 0, s), ⟨s, rfl⟩, 0, 1, fun k _ => ?_⟩
   simp only [spec_l1New.l0]
   rw [if_neg (by omega)]) 0 (wrap64 (941941 + (b.length : Int))) (Nat.zero_le _) trivial
 exact ⟨h, K, fun k hk' => hk k hk'⟩
theorem l1Byte_ex (b : List Int) (i h : Int) (hc : curOk b i) : ∃ x j g, spec_l1Byte.f b i h = some (x, j, g) ∧ (0 ≤ x ∧ x ≤ 255) ∧ curOk b j := by
 obtain ⟨hb, hl, h0, h1⟩ := hc
 unfold spec_l1Byte.f
 simp only [and255]
 by_cases c : i < (b.length : Int)
 ·rw [if_pos c, if_pos h0]
  exact ⟨_, _, _, rfl, ⟨by omega, by omega⟩, hb, hl, by rw [w64 (by omega) (by omega)]; omega, by rw [w64 (by omega) (by omega)]; omega⟩
 ·rw [if_neg c]
  exact ⟨_, _, _, rfl, ⟨by omega, by omega⟩, hb, hl, h0, h1⟩
theorem l1Below_ex (b : List Int) (i h n : Int) (hc : curOk b i) (hn : n ≤ 9223372036854775807) : ∃ x j g, spec_l1Below.f b i h n = some (x, j, g) ∧ (0 ≤ x ∧ (0 < n → x < n) ∧ (n ≤ 0 → x = 0)) ∧ curOk b j := by
 unfold spec_l1Below.f
 by_cases c : n ≤ 0
 ·rw [if_pos c]; exact ⟨_, _, _, rfl, ⟨by omega, by omega, fun _ => rfl⟩, hc⟩
 rw [if_neg c]
 by_cases c2 : n ≤ 256
 ·rw [if_pos c2]
  obtain ⟨x, j, g, e, hx, hj⟩ := l1Byte_ex b i h hc
  simp only [e, Option.bind_some]
  rw [if_neg (by omega)]
  have h1 := Int.tmod_nonneg (b := n) hx.1
  have h2 := Int.tmod_lt_of_pos x (show 0 < n by omega)
  exact ⟨_, _, _, rfl, ⟨h1, fun _ => h2, fun h => by omega⟩, hj⟩
 ·rw [if_neg c2]
  obtain ⟨x, j, g, e, hx, hj⟩ := l1Byte_ex b i h hc
  obtain ⟨x2, j2, g2, e2, hx2, hj2⟩ := l1Byte_ex b j g hj
  obtain ⟨x3, j3, g3, e3, hx3, hj3⟩ := l1Byte_ex b j2 g2 hj2
  simp only [e, e2, e3, Option.bind_some]
  rw [if_neg (by omega), w64 (x := x * 65536) (by omega) (by omega), w64 (x := x2 * 256) (by omega) (by omega), w64 (x := x * 65536 + x2 * 256) (by omega) (by omega), w64 (x := x * 65536 + x2 * 256 + x3) (by omega) (by omega)]
  have h1 := Int.tmod_nonneg (b := n) (show 0 ≤ x * 65536 + x2 * 256 + x3 by omega)
  have h2 := Int.tmod_lt_of_pos (x * 65536 + x2 * 256 + x3) (show 0 < n by omega)
  exact ⟨_, _, _, rfl, ⟨h1, fun _ => h2, fun h => by omega⟩, hj3⟩
theorem rd_mem (l : List Int) (i : Int) (h0 : 0 ≤ i) (h1 : i < (l.length : Int)) : rd l i ∈ l := by unfold rd; exact getD_mem l i.toNat 0 (by omega)
theorem l1Int_ex (b : List Int) (i h : Int) (l : List Int) (hc : curOk b i) (hl : 0 < l.length) (hm : l.length ≤ 1048576) : ∃ x j g, spec_l1Int.f b i h l = some (x, j, g) ∧ x ∈ l ∧ curOk b j := by
 obtain ⟨x, j, g, e, hx, hj⟩ := l1Below_ex b i h (l.length : Int) hc (by omega)
 have h1 := hx.2.1 (by omega)
 unfold spec_l1Int.f
 simp only [e, Option.bind_some]
 rw [if_pos hx.1, if_pos h1]
 exact ⟨_, _, _, rfl, rd_mem l x hx.1 h1, hj⟩
theorem l3Draw_ex (b : List Int) (i h : Int) (hc : curOk b i) : ∃ x0 x1 x2 x3 x4 j g, spec_l3Draw.f b i h = some (x0, x1, x2, x3, x4, j, g) ∧ (0 ≤ x0 ∧ x0 < 4 ∧ 1 ≤ x1 ∧ x1 ≤ 5 ∧ (x2 = 0 ∧ x3 = 0 ∧ x4 = 0 ∨ x2 = 2 ∧ x3 = 0 ∧ x4 = 0 ∨ x2 = 1 ∧ 0 ≤ x3 ∧ x3 < 24 ∧ 0 ≤ x4 ∧ x4 ≤ 999)) ∧ curOk b j := by
 obtain ⟨a, j, g, e, ha, hj⟩ := l1Below_ex b i h 4 hc (by decide)
 obtain ⟨c, j2, g2, e2, hc2, hj2⟩ := l1Below_ex b j g 5 hj (by decide)
 obtain ⟨d, j3, g3, e3, hd, hj3⟩ := l1Int_ex b j2 g2 [0, 1, 1, 1, 2] hj2 (by decide) (by decide)
 have ha1 := ha.2.1 (by decide)
 have hc3 := hc2.2.1 (by decide)
 unfold spec_l3Draw.f
 simp only [e, e2, e3, Option.bind_some, w64 (x := 1 + c) (by omega) (by omega)]
 simp only [List.mem_cons, List.not_mem_nil, or_false] at hd
 by_cases q : d = 1
 ·obtain ⟨x, j4, g4, e4, hx, hj4⟩ := l1Below_ex b j3 g3 24 hj3 (by decide)
  obtain ⟨y, j5, g5, e5, hy, hj5⟩ := l1Int_ex b j4 g4 [0, 1, 256, 999] hj4 (by decide) (by decide)
  have hx1 := hx.2.1 (by decide)
  simp only [List.mem_cons, List.not_mem_nil, or_false] at hy
  rw [if_pos q]
  simp only [e4, e5, Option.bind_some]
  exact ⟨_, _, _, _, _, _, _, rfl, by omega, hj5⟩
 ·rw [if_neg q]
  exact ⟨_, _, _, _, _, _, _, rfl, by omega, hj3⟩
theorem l3Any_ex (b : List Int) (i h : Int) (hc : curOk b i) : ∃ x0 x1 x2 x3 x4 j g, spec_l3Any.f b i h = some (x0, x1, x2, x3, x4, j, g) ∧ (-1 ≤ x0 ∧ x0 ≤ 16 ∧ 0 ≤ x1 ∧ x1 ≤ 61 ∧ -1 ≤ x2 ∧ x2 ≤ 3 ∧ -1 ≤ x3 ∧ x3 ≤ 24 ∧ -1 ≤ x4 ∧ x4 ≤ 1000) ∧ curOk b j := by
 obtain ⟨x0, x1, x2, x3, x4, j, g, e, hx, hj⟩ := l3Draw_ex b i h hc
 obtain ⟨a, j2, g2, e2, ha, hj2⟩ := l1Below_ex b j g 12 hj (by decide)
 unfold spec_l3Any.f
 simp only [e, e2, Option.bind_some]
 have key : ∀ L : List Int, 0 < L.length → L.length ≤ 1048576 → ∃ x j g, spec_l1Int.f b j2 g2 L = some (x, j, g) ∧ x ∈ L ∧ curOk b j := fun L h1 h2 => l1Int_ex b j2 g2 L hj2 h1 h2
 by_cases q : a = 0
 ·obtain ⟨y, j3, g3, e3, hy, hj3⟩ := key [-1, 15, 16] (by decide) (by decide)
  simp only [List.mem_cons, List.not_mem_nil, or_false] at hy
  rw [if_pos q]
  simp only [e3, Option.bind_some]
  exact ⟨_, _, _, _, _, _, _, rfl, by omega, hj3⟩
 rw [if_neg q]
 by_cases q : a = 1
 ·obtain ⟨y, j3, g3, e3, hy, hj3⟩ := key [0, 60, 61] (by decide) (by decide)
  simp only [List.mem_cons, List.not_mem_nil, or_false] at hy
  rw [if_pos q]
  simp only [e3, Option.bind_some]
  exact ⟨_, _, _, _, _, _, _, rfl, by omega, hj3⟩
 rw [if_neg q]
 by_cases q : a = 2
 ·obtain ⟨y, j3, g3, e3, hy, hj3⟩ := key [-1, 3] (by decide) (by decide)
  simp only [List.mem_cons, List.not_mem_nil, or_false] at hy
  rw [if_pos q]
  simp only [e3, Option.bind_some]
  exact ⟨_, _, _, _, _, _, _, rfl, by omega, hj3⟩
 rw [if_neg q]
 by_cases q : a = 3
 ·obtain ⟨y, j3, g3, e3, hy, hj3⟩ := key [-1, 1, 23, 24] (by decide) (by decide)
  simp only [List.mem_cons, List.not_mem_nil, or_false] at hy
  rw [if_pos q]
  simp only [e3, Option.bind_some]
  exact ⟨_, _, _, _, _, _, _, rfl, by omega, hj3⟩
 rw [if_neg q]
 by_cases q : a = 4
 ·obtain ⟨y, j3, g3, e3, hy, hj3⟩ := key [-1, 1, 999, 1000] (by decide) (by decide)
  simp only [List.mem_cons, List.not_mem_nil, or_false] at hy
  rw [if_pos q]
  simp only [e3, Option.bind_some]
  exact ⟨_, _, _, _, _, _, _, rfl, by omega, hj3⟩
 rw [if_neg q]
 exact ⟨_, _, _, _, _, _, _, rfl, by omega, hj2⟩
theorem l4Draw_loop (b : List Int) : ∀ (n : Nat) (l : List S27) (i h : Int), curOk b i → l.length + n ≤ 4194304 → ∃ r : List S27 × Int × Int, (r.1.length ≤ l.length + n ∧ curOk b r.2.1) ∧ Ev (fun k => spec_l4Draw.l0 k l (n : Int) b i h) r
 | 0, l, i, h, hc, hl => ⟨(l, i, h), ⟨by simp, hc⟩, 1, fun k hk => by
   obtain ⟨k, rfl⟩ : ∃ m, k = m + 1 := ⟨k - 1, by omega⟩
   simp only [spec_l4Draw.l0]
   rw [if_neg (by omega)]⟩
 | n + 1, l, i, h, hc, hl => by
  obtain ⟨x0, x1, x2, x3, x4, j, g, e, -, hj⟩ := l3Draw_ex b i h hc
  obtain ⟨K1, e1⟩ := spec_SetPut_ev l ⟨x0, x1, x2, x3, x4⟩ (by omega)
  have hp := setPut_length l ⟨x0, x1, x2, x3, x4⟩
  obtain ⟨r, hr, K2, e2⟩ := l4Draw_loop b n (setPut l ⟨x0, x1, x2, x3, x4⟩) j g hj (by omega)
  refine ⟨r, ⟨by omega, hr.2⟩, K1 + K2 + 1, fun k hk => ?_⟩
  obtain ⟨k, rfl⟩ : ∃ m, k = m + 1 := ⟨k - 1, by omega⟩
  have a1 := e1 k (by omega)
  have a2 := e2 k (by omega)
  simp only at a1 a2
  simp only [spec_l4Draw.l0]
  rw [if_pos (by omega)]
  simp only [e, a1, Option.bind_some]
  rw [w64 (x := ((n + 1 : Nat) : Int) - 1) (by omega) (by omega), show ((n + 1 : Nat) : Int) - 1 = (n : Int) by omega]
  exact a2
theorem l4Draw_ex (b : List Int) (i h n : Int) (hc : curOk b i) (h0 : 0 ≤ n) (hn : n ≤ 1048576) : ∃ r : List S27 × Int × Int, (r.1.length ≤ n.toNat ∧ curOk b r.2.1) ∧ Ev (fun k => spec_l4Draw.f k b i h n) r := by
 obtain ⟨a, j, g, e, ha, hj⟩ := l1Below_ex b i h (n + 1) hc (by omega)
 have ha1 := ha.2.1 (by omega)
 obtain ⟨m, rfl⟩ := Int.eq_ofNat_of_zero_le ha.1
 obtain ⟨r, hr, K, e1⟩ := l4Draw_loop b m [] j g hj (by simp; omega)
 refine ⟨r, ⟨by have := hr.1; simp only [List.length_nil] at this; omega, hr.2⟩, K, fun k hk => ?_⟩
 have a1 := e1 k hk
 simp only at a1
 simp only [spec_l4Draw.f, w64 (x := n + 1) (by omega) (by omega), e, Option.bind_some]
 exact a1
theorem l4Any_ex (b : List Int) (i h n : Int) (hc : curOk b i) (h0 : 0 ≤ n) (hn : n ≤ 1048576) : ∃ r : List S27 × Int × Int, (r.1.length ≤ n.toNat + 1 ∧ curOk b r.2.1) ∧ Ev (fun k => spec_l4Any.f k b i h n) r := by
 obtain ⟨⟨l, i1, h1⟩, ⟨hl, hc1⟩, K, e⟩ := l4Draw_ex b i h n hc h0 hn
 simp only at hl hc1
 obtain ⟨a, j, g, e1, ha, hj⟩ := l1Below_ex b i1 h1 8 hc1 (by decide)
 by_cases q : a = 0
 ·obtain ⟨x0, x1, x2, x3, x4, j2, g2, e2, -, hj2⟩ := l3Any_ex b j g hj
  refine ⟨(l ++ [⟨x0, x1, x2, x3, x4⟩], j2, g2), ⟨by simp; omega, hj2⟩, K, fun k hk => ?_⟩
  have a0 := e k hk
  simp only at a0
  simp only [spec_l4Any.f, a0, e1, Option.bind_some]
  rw [if_pos q]
  simp only [e2, Option.bind_some]
  rw [if_pos (by omega)]
 by_cases q1 : a = 1
 ·by_cases c : (l.length : Int) > 1
  ·refine ⟨((l.set (0 : Int).toNat (⟨(rd_T27 l 1).f0, (rd_T27 l 1).f1, (rd_T27 l 1).f2, (rd_T27 l 1).f3, (rd_T27 l 1).f4⟩ : S27)).set (1 : Int).toNat (⟨(rd_T27 l 0).f0, (rd_T27 l 0).f1, (rd_T27 l 0).f2, (rd_T27 l 0).f3, (rd_T27 l 0).f4⟩ : S27), j, g), ⟨by simp only [List.length_set]; omega, hj⟩, K, fun k hk => ?_⟩
   have a0 := e k hk
   simp only at a0
   simp only [spec_l4Any.f, a0, e1, Option.bind_some]
   rw [if_neg q, if_pos q1, if_pos c, if_pos (by omega), if_pos (by omega)]
  ·refine ⟨(l, j, g), ⟨by simp only; omega, hj⟩, K, fun k hk => ?_⟩
   have a0 := e k hk
   simp only at a0
   simp only [spec_l4Any.f, a0, e1, Option.bind_some]
   rw [if_neg q, if_pos q1, if_neg c]
 ·refine ⟨(l, j, g), ⟨by simp only; omega, hj⟩, K, fun k hk => ?_⟩
  have a0 := e k hk
  simp only at a0
  simp only [spec_l4Any.f, a0, e1, Option.bind_some]
  rw [if_neg q, if_neg q1]
theorem DrawSetOk_ex (b : List Int) (hb : bytesIn b) (hl : b.length ≤ 1048576) : ∃ r : List S27, r.length ≤ 61 ∧ Ev (fun k => spec_DrawSetOk.f k b) r := by
 obtain ⟨h, K, e⟩ := l1New_ex b hb hl
 obtain ⟨⟨l, i1, h1⟩, ⟨hl1, hc1⟩, K1, e1⟩ := l4Any_ex b 0 h 6 ⟨hb, hl, Int.le_refl _, by omega⟩ (by decide) (by decide)
 simp only at hl1 hc1
 obtain ⟨a, j, g, e2, ha, hj⟩ := l1Below_ex b i1 h1 20 hc1 (by decide)
 have eo : spec_l1Once.f b i1 h1 20 = some ((a == 0), j, g) := by unfold spec_l1Once.f; simp only [e2, Option.bind_some]
 by_cases q : a = 0
 ·refine ⟨List.replicate 61 z27, by simp, K + K1, fun k hk => ?_⟩
  have a0 := e k (by omega)
  have a1 := e1 k (by omega)
  simp only at a0 a1
  simp only [spec_DrawSetOk.f, a0, a1, eo, Option.bind_some]
  rw [if_pos (by simp [q]), if_pos (by decide)]
 ·refine ⟨l, by have : (6 : Int).toNat = 6 := rfl; omega, K + K1, fun k hk => ?_⟩
  have a0 := e k (by omega)
  have a1 := e1 k (by omega)
  simp only at a0 a1
  simp only [spec_DrawSetOk.f, a0, a1, eo, Option.bind_some]
  rw [if_neg (by simp [q])]
theorem DrawSetAt_ex (b : List Int) (hb : bytesIn b) (hl : b.length ≤ 1048576) : ∃ r : List S27 × Int × Int, r.1.length ≤ 9 ∧ Ev (fun k => spec_DrawSetAt.f k b) r := by
 obtain ⟨h, K, e⟩ := l1New_ex b hb hl
 obtain ⟨⟨l, i1, h1⟩, ⟨hl1, hc1⟩, K1, e1⟩ := l4Any_ex b 0 h 8 ⟨hb, hl, Int.le_refl _, by omega⟩ (by decide) (by decide)
 simp only at hl1 hc1
 obtain ⟨x, j, g, e2, hx, hj⟩ := l1Below_ex b i1 h1 4 hc1 (by decide)
 obtain ⟨y, j2, g2, e3, hy, hj2⟩ := l1Below_ex b j g 5 hj (by decide)
 refine ⟨(l, x, wrap64 (1 + y)), by have : (8 : Int).toNat = 8 := rfl; simp only; omega, K + K1, fun k hk => ?_⟩
 have a0 := e k (by omega)
 have a1 := e1 k (by omega)
 simp only at a0 a1
 simp only [spec_DrawSetAt.f, a0, a1, e2, e3, Option.bind_some]
theorem DrawSetPut_ex (b : List Int) (hb : bytesIn b) (hl : b.length ≤ 1048576) : ∃ r : List S27 × Int × Int × Int × Int × Int, r.1.length ≤ 9 ∧ Ev (fun k => spec_DrawSetPut.f k b) r := by
 obtain ⟨h, K, e⟩ := l1New_ex b hb hl
 obtain ⟨⟨l, i1, h1⟩, ⟨hl1, hc1⟩, K1, e1⟩ := l4Any_ex b 0 h 8 ⟨hb, hl, Int.le_refl _, by omega⟩ (by decide) (by decide)
 simp only at hl1 hc1
 obtain ⟨x0, x1, x2, x3, x4, j, g, e2, -, hj⟩ := l3Any_ex b i1 h1 hc1
 refine ⟨(l, x0, x1, x2, x3, x4), by have : (8 : Int).toNat = 8 := rfl; simp only; omega, K + K1, fun k hk => ?_⟩
 have a0 := e k (by omega)
 have a1 := e1 k (by omega)
 simp only at a0 a1
 simp only [spec_DrawSetPut.f, a0, a1, e2, Option.bind_some]
theorem DrawDrop_ex (b : List Int) (hb : bytesIn b) (hl : b.length ≤ 1048576) : ∃ r : List S27, r.length ≤ 9 ∧ Ev (fun k => spec_DrawDrop.f k b) r := by
 obtain ⟨h, K, e⟩ := l1New_ex b hb hl
 obtain ⟨⟨l, i1, h1⟩, ⟨hl1, hc1⟩, K1, e1⟩ := l4Any_ex b 0 h 8 ⟨hb, hl, Int.le_refl _, by omega⟩ (by decide) (by decide)
 simp only at hl1 hc1
 refine ⟨l, by have : (8 : Int).toNat = 8 := rfl; omega, K + K1, fun k hk => ?_⟩
 have a0 := e k (by omega)
 have a1 := e1 k (by omega)
 simp only at a0 a1
 simp only [spec_DrawDrop.f, a0, a1, Option.bind_some]
theorem sameKeys_ev (l : List S27) (h : l.length ≤ 4194304) : Ev (fun k => laws_sameKeys.f k l l) true := by
 obtain ⟨K, hk⟩ := evRange0 (σ := Unit) l.length (fun k _ i => laws_sameKeys.l0 k l l i) (fun _ _ => True) (fun _ _ => true) () trivial
  (by
   intro i _ hi _
   refine .inl ⟨(), trivial, rfl, 0, 1, fun k _ => ?_⟩
   simp only [laws_sameKeys.l0]
   rw [if_pos (by omega), if_pos (by omega), if_pos (by omega), if_neg (by simp), w64s i (by omega)])
  (by
   intro _ _
   refine ⟨0, 1, fun k _ => ?_⟩
   simp only [laws_sameKeys.l0]
   rw [if_neg (by omega)])
 refine ⟨K, fun k hk' => ?_⟩
 simp only [laws_sameKeys.f, if_true]
 exact hk k hk'
end Go.Proofs.Ytkaoiaolbhklnaa.Pure

namespace Go.Proofs.Ytkaoiaolbhklnaa.Law
open Go.RowKit Go.Proofs.Ytkaoiaolbhklnaa.PFnSetsBent Go.Proofs.Ytkaoiaolbhklnaa.Core Go.Proofs.YtkaoiaolbhklnaaW.PrintWords Go.Proofs.YtkaoiaolbhklnaaW.PrintLast Go.Proofs.YtkaoiaolbhklnaaW.PrintMore Go.Proofs.Ytkaoiaolbhklnaa.Pure
set_option linter.unusedSimpArgs false
set_option linter.unusedVariables false
set_option maxHeartbeats 8000000 in
set_option maxRecDepth 100000 in
theorem walkFnSetsBentbig (A0 : Option Addr) (c0 : Nat) (l0 : List (Int)) (w : World) (hr0 : Kd.C (Kd.int .u8) w A0 l0.length l0) (hc0 : l0.length ≤ c0) (A1x : laws_big.f l0 = some true) :
  Calls Try.prog 13 #[.slice A0 l0.length c0] w fun e w' => e = .returned (.bool true) ∧ Below w.heap.size w w' := by
 have HR0 := aA.mk hr0
 have HC0 := aA.mk hc0
 clear hr0 hc0
 have A1 := aA.mk A1x
 clear A1x
 have HB := aA.mk (Below.refl w.heap.size w)
 have HORD := aA.mk (Nat.le_refl w.heap.size)
 have HT := aA.mk (Nat.le_refl w.heap.size)
 go_enter Try.func13, Try.ntmps13
 go_wp2_with (first | ((with_reducible refine aX (f := 24) rfl ?_); refine bL (some 15) rfl rfl Try.func24 (by kernel_rfl) rfl #[.slice A0 l0.length c0] rfl (by (try simp only [List.map_toArray, List.map_cons, List.map_nil]); first | done | rfl | (simp only [List.length_drop, List.length_take]; rfl)) ?_; (with_reducible refine (laws_big.calls _ _ l0 true _ ?s1 ?s2 A1.out).mono ?_); (case s1 => exact (Kd.C_below HR0.out HB.out)); (case s2 => exact HC0.out); rintro e_ w1 ⟨rfl, hd⟩; refine ⟨_, rfl, ?_⟩; have hb := hd.below; clear hd; have n0_ := aA.mk (aV HB.out hb); have n1_ := aA.mk (Nat.le_trans HT.out hb.size); (try clear HB); (try clear HT); have HB := n0_; have HT := n1_; clear n0_ n1_; (try clear hb)))
 have hres_ := @results_tmp Try.f13 2 (by kernel_rfl)
 refine bodyPost_ret (fn := Try.f13) (P := Try.prog) (hres_ _ _ _) rfl ?_
 exact ⟨rfl, HB.out⟩
set_option maxHeartbeats 8000000 in
set_option maxRecDepth 100000 in
theorem walkFnSetsBent (A0 : Option Addr) (c0 : Nat) (l0 : List (Int)) (k2 : Nat) (k3 : Nat) (k4 : Nat) (k5 : Nat) (k6 : Nat) (k7 : Nat) (k8 : Nat) (k9 : Nat) (k10 : Nat) (k11 : Nat) (k12 : Nat) (k13 : Nat) (k14 : Nat) (k15 : Nat) (r2_0 : List (S27)) (r3_1 : List (S27)) (r3_2 : Int) (r3_3 : Int) (r4_1 : Int) (r4_2 : Int) (r4_3 : Int) (r4_4 : Int) (r4_5 : Int) (r4_6 : Bool) (r6_1 : List (S27)) (r6_2 : Int) (r6_3 : Int) (r6_4 : Int) (r6_5 : Int) (r6_6 : Int) (r7_0 : List (S27)) (r8_0 : Bool) (r10_0 : List (S27)) (r13_0 : List (S27)) (w : World) (hr0 : Kd.C (Kd.int .u8) w A0 l0.length l0) (hc0 : l0.length ≤ c0) (A1x : laws_big.f l0 = some false) (A2x : spec_DrawSetOk.f k2 l0 = some r2_0) (A3x : spec_DrawSetAt.f k3 l0 = some (r3_1, r3_2, r3_3)) (A4x : impl_SetAt.f k4 r3_1 r3_2 r3_3 = some (r4_1, r4_2, r4_3, r4_4, r4_5, r4_6)) (A5x : spec_SetAt.f k5 r3_1 r3_2 r3_3 = some (r4_1, r4_2, r4_3, r4_4, r4_5, r4_6)) (A6x : spec_DrawSetPut.f k6 l0 = some (r6_1, r6_2, r6_3, r6_4, r6_5, r6_6)) (A7x : spec_DrawDrop.f k7 l0 = some r7_0) (A8x : impl_SetOk.f k8 r2_0 = some r8_0) (A9x : spec_SetOk.f k9 r2_0 = some r8_0) (A10x : impl_SetPut.f k10 r6_1 r6_2 r6_3 r6_4 r6_5 r6_6 = some r10_0) (A11x : spec_SetPut.f k11 r6_1 r6_2 r6_3 r6_4 r6_5 r6_6 = some r10_0) (A12x : laws_sameKeys.f k12 r10_0 r10_0 = some true) (A13x : impl_Drop.f k13 r7_0 = some r13_0) (A14x : spec_Drop.f k14 r7_0 = some r13_0) (A15x : laws_sameKeys.f k15 r13_0 r13_0 = some true) :
  Calls Try.prog 13 #[.slice A0 l0.length c0] w fun e w' => e = .returned (.bool true) ∧ Below w.heap.size w w' := by
 have hu27 := Try.underlying27
 have HR0 := aA.mk hr0
 have HC0 := aA.mk hc0
 clear hr0 hc0
 have A1 := aA.mk A1x
 clear A1x
 have A2 := aA.mk A2x
 clear A2x
 have A3 := aA.mk A3x
 clear A3x
 have A4 := aA.mk A4x
 clear A4x
 have A5 := aA.mk A5x
 clear A5x
 have A6 := aA.mk A6x
 clear A6x
 have A7 := aA.mk A7x
 clear A7x
 have A8 := aA.mk A8x
 clear A8x
 have A9 := aA.mk A9x
 clear A9x
 have A10 := aA.mk A10x
 clear A10x
 have A11 := aA.mk A11x
 clear A11x
 have A12 := aA.mk A12x
 clear A12x
 have A13 := aA.mk A13x
 clear A13x
 have A14 := aA.mk A14x
 clear A14x
 have A15 := aA.mk A15x
 clear A15x
 have HB := aA.mk (Below.refl w.heap.size w)
 have HORD := aA.mk (Nat.le_refl w.heap.size)
 have HT := aA.mk (Nat.le_refl w.heap.size)
 go_enter Try.func13, Try.ntmps13
 go_wp2_with (first | ((with_reducible refine aX (f := 24) rfl ?_); refine bL (some 15) rfl rfl Try.func24 (by kernel_rfl) rfl #[.slice A0 l0.length c0] rfl (by (try simp only [List.map_toArray, List.map_cons, List.map_nil]); first | done | rfl | (simp only [List.length_drop, List.length_take]; rfl)) ?_; (with_reducible refine (laws_big.calls _ _ l0 false _ ?s1 ?s2 A1.out).mono ?_); (case s1 => exact (Kd.C_below HR0.out HB.out)); (case s2 => exact HC0.out); rintro e_ w1 ⟨rfl, hd⟩; refine ⟨_, rfl, ?_⟩; have hb := hd.below; clear hd; have n0_ := aA.mk (aV HB.out hb); have n1_ := aA.mk (Nat.le_trans HT.out hb.size); (try clear HB); (try clear HT); have HB := n0_; have HT := n1_; clear n0_ n1_; (try clear hb)) | ((with_reducible refine aX (f := 57) rfl ?_); refine bL (some 17) rfl rfl Try.func57 (by kernel_rfl) rfl #[.slice A0 l0.length c0] rfl (by (try simp only [List.map_toArray, List.map_cons, List.map_nil]); first | done | rfl | (simp only [List.length_drop, List.length_take]; rfl)) ?_; (with_reducible refine (spec_DrawSetOk.calls k2 _ _ l0 r2_0 _ ?s1 ?s2 A2.out).mono ?_); (case s1 => exact (Kd.C_below HR0.out HB.out)); (case s2 => exact HC0.out); rintro e_ w2 ⟨v0_, rfl, ho0, hb⟩; refine ⟨_, rfl, ?_⟩; obtain ⟨lo2, hi2, el_, eh_, ol_, oh_⟩ := Mem.times HT.out hb; (try rw [← el_] at ho0); obtain ⟨A2_0, c2_0, ev_, hc0_, hf0_, hs0_⟩ := Mem.new_R ho0 eh_; subst ev_; have n0_ := aA.mk (aV HB.out hb); have n1_ := aA.mk (hf0_); have n2_ := aA.mk (hc0_); have n3_ := aA.mk (hs0_); have n4_ := aA.mk (And.intro HORD.out (And.intro ol_ oh_)); have n5_ := aA.mk (Nat.le_of_eq eh_); (try clear HB); (try clear HF2_0); (try clear HC2_0); (try clear HS2_0); (try clear HORD); (try clear HT); have HB := n0_; have HF2_0 := n1_; have HC2_0 := n2_; have HS2_0 := n3_; have HORD := n4_; have HT := n5_; clear n0_ n1_ n2_ n3_ n4_ n5_; clear ol_ oh_ el_ eh_ ho0 hf0_ hc0_ hs0_; (try clear hb)) | ((with_reducible refine aX (f := 58) rfl ?_); refine bL (some 20) rfl rfl Try.func58 (by kernel_rfl) rfl #[.slice A0 l0.length c0] rfl (by (try simp only [List.map_toArray, List.map_cons, List.map_nil]); first | done | rfl | (simp only [List.length_drop, List.length_take]; rfl)) ?_; (with_reducible refine (spec_DrawSetAt.calls k3 _ _ l0 r3_1 r3_2 r3_3 _ ?s1 ?s2 A3.out).mono ?_); (case s1 => exact (Kd.C_below HR0.out HB.out)); (case s2 => exact HC0.out); rintro e_ w3 ⟨v0_, rfl, ho0, hb⟩; refine ⟨_, rfl, ?_⟩; obtain ⟨lo3, hi3, el_, eh_, ol_, oh_⟩ := Mem.times HT.out hb; (try rw [← el_] at ho0); obtain ⟨A3_0, c3_0, ev_, hc0_, hf0_, hs0_⟩ := Mem.new_R ho0 eh_; subst ev_; have n0_ := aA.mk (Kd.F_below HF2_0.out hb); have n1_ := aA.mk (Kd.R_below HS2_0.out hb); have n2_ := aA.mk (aV HB.out hb); have n3_ := aA.mk (hf0_); have n4_ := aA.mk (hc0_); have n5_ := aA.mk (hs0_); have n6_ := aA.mk (And.intro HORD.out (And.intro ol_ oh_)); have n7_ := aA.mk (Nat.le_of_eq eh_); (try clear HF2_0); (try clear HS2_0); (try clear HB); (try clear HF3_0); (try clear HC3_0); (try clear HS3_0); (try clear HORD); (try clear HT); have HF2_0 := n0_; have HS2_0 := n1_; have HB := n2_; have HF3_0 := n3_; have HC3_0 := n4_; have HS3_0 := n5_; have HORD := n6_; have HT := n7_; clear n0_ n1_ n2_ n3_ n4_ n5_ n6_ n7_; clear ol_ oh_ el_ eh_ ho0 hf0_ hc0_ hs0_; (try clear hb)) | ((with_reducible refine aX (f := 44) rfl ?_); refine bL (some 28) rfl rfl Try.func44 (by kernel_rfl) rfl #[.slice A3_0 r3_1.length c3_0, .int .i64 r3_2, .int .i64 r3_3] rfl (by (try simp only [List.map_toArray, List.map_cons, List.map_nil]); first | done | rfl | (simp only [List.length_drop, List.length_take]; rfl)) ?_; (with_reducible refine (impl_SetAt.calls k4 _ _ r3_1 r3_2 r3_3 r4_1 r4_2 r4_3 r4_4 r4_5 r4_6 _ ?s1 ?s2 A4.out).mono ?_); (case s1 => exact (Kd.F_now HF3_0.out)); (case s2 => exact HC3_0.out); rintro e_ w4 ⟨rfl, hb⟩; refine ⟨_, rfl, ?_⟩; have n0_ := aA.mk (Kd.F_below HF2_0.out hb); have n1_ := aA.mk (Kd.R_below HS2_0.out hb); have n2_ := aA.mk (Kd.F_below HF3_0.out hb); have n3_ := aA.mk (Kd.R_below HS3_0.out hb); have n4_ := aA.mk (aV HB.out hb); have n5_ := aA.mk (Nat.le_trans HT.out hb.size); (try clear HF2_0); (try clear HS2_0); (try clear HF3_0); (try clear HS3_0); (try clear HB); (try clear HT); have HF2_0 := n0_; have HS2_0 := n1_; have HF3_0 := n2_; have HS3_0 := n3_; have HB := n4_; have HT := n5_; clear n0_ n1_ n2_ n3_ n4_ n5_; (try clear hb)) | ((with_reducible refine bG (N := 7) rfl ?_); refine bJ ?hg (N := 7) ?hd (cs := #[.int .i64 0, .int .i64 0, .int .i64 0, .int .i64 0, .int .i64 0]) (t := 27) ?hr ?_; (case hd => rfl); (case hg => rfl); (case hr => first | (go_simp; done) | (go_simp; rfl)); intro gb5 hg_ w5 hbox hb; have hge_ : hi3 ≤ gb5 := (by rw [hg_]; exact HT.out); have hlt_ : gb5 + 1 ≤ w5.heap.size := blk_lt hbox; have n0_ := aA.mk (Kd.F_below HF2_0.out hb); have n1_ := aA.mk (Kd.R_below HS2_0.out hb); have n2_ := aA.mk (Kd.F_below HF3_0.out hb); have n3_ := aA.mk (Kd.R_below HS3_0.out hb); have n4_ := aA.mk (aV HB.out hb); have n5_ := aA.mk (hbox); have n6_ := aA.mk (And.intro HORD.out (And.intro hge_ (Nat.le_succ gb5))); have n7_ := aA.mk (hlt_); (try clear HF2_0); (try clear HS2_0); (try clear HF3_0); (try clear HS3_0); (try clear HB); (try clear BK5); (try clear HORD); (try clear HT); have HF2_0 := n0_; have HS2_0 := n1_; have HF3_0 := n2_; have HS3_0 := n3_; have HB := n4_; have BK5 := n5_; have HORD := n6_; have HT := n7_; clear n0_ n1_ n2_ n3_ n4_ n5_ n6_ n7_; clear hb hbox hg_ hge_ hlt_; have hzgb5_0_5 : w5.cell? ⟨gb5, 0, none⟩ = some (.int .i64 0) := (aC BK5.out 0).trans rfl; have hygb5_0_5 := aD BK5.out 0; have hzgb5_1_5 : w5.cell? ⟨gb5, 1, none⟩ = some (.int .i64 0) := (aC BK5.out 1).trans rfl; have hygb5_1_5 := aD BK5.out 1; have hzgb5_2_5 : w5.cell? ⟨gb5, 2, none⟩ = some (.int .i64 0) := (aC BK5.out 2).trans rfl; have hygb5_2_5 := aD BK5.out 2; have hzgb5_3_5 : w5.cell? ⟨gb5, 3, none⟩ = some (.int .i64 0) := (aC BK5.out 3).trans rfl; have hygb5_3_5 := aD BK5.out 3; have hzgb5_4_5 : w5.cell? ⟨gb5, 4, none⟩ = some (.int .i64 0) := (aC BK5.out 4).trans rfl; have hygb5_4_5 := aD BK5.out 4) | ((with_reducible refine gate_store (t := 27) (p := 7) rfl ?_); refine store_event (t := 27) (p := 7) (v := ?vo_w6) (w1 := (((((w5.setCell ⟨gb5, 0, none⟩ (.int .i64 r4_1)).setCell ⟨gb5, 1, none⟩ (.int .i64 r4_2)).setCell ⟨gb5, 2, none⟩ (.int .i64 r4_3)).setCell ⟨gb5, 3, none⟩ (.int .i64 r4_4)).setCell ⟨gb5, 4, none⟩ (.int .i64 r4_5))) ?hg ?ho ?hn ?hr ?_; (case ho => rfl); (case hg => rfl); (case hn => rfl); (case hr => first | (go_simp; done) | (go_simp; rfl)); intro w6 hw_; have hkp : Kept w5 w6 (fun k_ => k_ = gb5) := (by rw [hw_]; exact Kept.setCell (Kept.setCell (Kept.setCell (Kept.setCell (Kept.setCell (Kept.refl w5 (fun k_ => k_ = gb5)) (.inl rfl) (.int .i64 r4_1)) (.inl rfl) (.int .i64 r4_2)) (.inl rfl) (.int .i64 r4_3)) (.inl rfl) (.int .i64 r4_4)) (.inl rfl) (.int .i64 r4_5)); have hge_ : w.heap.size ≤ gb5 := (by have o_ := HORD.out; (try unfold In at *); (try show _ ≠ _); omega); have hbn_ : Below w.heap.size w w6 := (by rw [hw_]; exact aN (aN (aN (aN (aN (HB.out) hge_) hge_) hge_) hge_) hge_); have hbk_ : w6.heap[gb5]? = some (.cells #[.int .i64 r4_1, .int .i64 r4_2, .int .i64 r4_3, .int .i64 r4_4, .int .i64 r4_5] 27 (0, 0)) := (by rw [hw_]; exact aU (cs := #[.int .i64 r4_1, .int .i64 r4_2, .int .i64 r4_3, .int .i64 r4_4, .int .i64 0]) (cs' := #[.int .i64 r4_1, .int .i64 r4_2, .int .i64 r4_3, .int .i64 r4_4, .int .i64 r4_5]) (aU (cs := #[.int .i64 r4_1, .int .i64 r4_2, .int .i64 r4_3, .int .i64 0, .int .i64 0]) (cs' := #[.int .i64 r4_1, .int .i64 r4_2, .int .i64 r4_3, .int .i64 r4_4, .int .i64 0]) (aU (cs := #[.int .i64 r4_1, .int .i64 r4_2, .int .i64 0, .int .i64 0, .int .i64 0]) (cs' := #[.int .i64 r4_1, .int .i64 r4_2, .int .i64 r4_3, .int .i64 0, .int .i64 0]) (aU (cs := #[.int .i64 r4_1, .int .i64 0, .int .i64 0, .int .i64 0, .int .i64 0]) (cs' := #[.int .i64 r4_1, .int .i64 r4_2, .int .i64 0, .int .i64 0, .int .i64 0]) (aU (cs := #[.int .i64 0, .int .i64 0, .int .i64 0, .int .i64 0, .int .i64 0]) (cs' := #[.int .i64 r4_1, .int .i64 0, .int .i64 0, .int .i64 0, .int .i64 0]) (BK5.out) 0 _ rfl) 1 _ rfl) 2 _ rfl) 3 _ rfl) 4 _ rfl); have hsz_ : (gb5 + 1) ≤ w6.heap.size := Nat.le_trans HT.out hkp.1; have n0_ := aA.mk (Kd.F_kept HF2_0.out hkp (fun k_ h1_ h2_ => by have o_ := HORD.out; unfold In at h1_; omega)); have n1_ := aA.mk (Kd.R_kept HS2_0.out hkp (fun k_ h1_ h2_ => by have o_ := HORD.out; unfold In at h1_; omega)); have n2_ := aA.mk (Kd.F_kept HF3_0.out hkp (fun k_ h1_ h2_ => by have o_ := HORD.out; unfold In at h1_; omega)); have n3_ := aA.mk (Kd.R_kept HS3_0.out hkp (fun k_ h1_ h2_ => by have o_ := HORD.out; unfold In at h1_; omega)); have n4_ := aA.mk (hbn_); have n5_ := aA.mk (hbk_); have n6_ := aA.mk (hsz_); (try clear HF2_0); (try clear HS2_0); (try clear HF3_0); (try clear HS3_0); (try clear HB); (try clear BK5); (try clear HT); have HF2_0 := n0_; have HS2_0 := n1_; have HF3_0 := n2_; have HS3_0 := n3_; have HB := n4_; have BK5 := n5_; have HT := n6_; clear n0_ n1_ n2_ n3_ n4_ n5_ n6_; clear hw_ hkp hge_ hbn_ hbk_ hsz_; have hzgb5_0_6 : w6.cell? ⟨gb5, 0, none⟩ = some (.int .i64 r4_1) := (aC BK5.out 0).trans rfl; have hygb5_0_6 := aD BK5.out 0; have hzgb5_1_6 : w6.cell? ⟨gb5, 1, none⟩ = some (.int .i64 r4_2) := (aC BK5.out 1).trans rfl; have hygb5_1_6 := aD BK5.out 1; have hzgb5_2_6 : w6.cell? ⟨gb5, 2, none⟩ = some (.int .i64 r4_3) := (aC BK5.out 2).trans rfl; have hygb5_2_6 := aD BK5.out 2; have hzgb5_3_6 : w6.cell? ⟨gb5, 3, none⟩ = some (.int .i64 r4_4) := (aC BK5.out 3).trans rfl; have hygb5_3_6 := aD BK5.out 3; have hzgb5_4_6 : w6.cell? ⟨gb5, 4, none⟩ = some (.int .i64 r4_5) := (aC BK5.out 4).trans rfl; have hygb5_4_6 := aD BK5.out 4) | ((with_reducible refine aX (f := 42) rfl ?_); refine bL (some 35) rfl rfl Try.func42 (by kernel_rfl) rfl #[.slice A3_0 r3_1.length c3_0, .int .i64 r3_2, .int .i64 r3_3] rfl (by (try simp only [List.map_toArray, List.map_cons, List.map_nil]); first | done | rfl | (simp only [List.length_drop, List.length_take]; rfl)) ?_; (with_reducible refine (spec_SetAt.calls k5 _ _ r3_1 r3_2 r3_3 r4_1 r4_2 r4_3 r4_4 r4_5 r4_6 _ ?s1 ?s2 A5.out).mono ?_); (case s1 => exact (Kd.F_now HF3_0.out)); (case s2 => exact HC3_0.out); rintro e_ w7 ⟨rfl, hb⟩; refine ⟨_, rfl, ?_⟩; have n0_ := aA.mk (Kd.F_below HF2_0.out hb); have n1_ := aA.mk (Kd.R_below HS2_0.out hb); have n2_ := aA.mk (bB BK5.out hb); have n3_ := aA.mk (aV HB.out hb); have n4_ := aA.mk (Nat.le_trans HT.out hb.size); (try clear HF3_0); (try clear HS3_0); (try clear HC3_0); (try clear HF2_0); (try clear HS2_0); (try clear BK5); (try clear HB); (try clear HT); have HF2_0 := n0_; have HS2_0 := n1_; have BK5 := n2_; have HB := n3_; have HT := n4_; clear n0_ n1_ n2_ n3_ n4_; (try clear hb); have hzgb5_0_7 : w7.cell? ⟨gb5, 0, none⟩ = some (.int .i64 r4_1) := (aC BK5.out 0).trans rfl; have hygb5_0_7 := aD BK5.out 0; have hzgb5_1_7 : w7.cell? ⟨gb5, 1, none⟩ = some (.int .i64 r4_2) := (aC BK5.out 1).trans rfl; have hygb5_1_7 := aD BK5.out 1; have hzgb5_2_7 : w7.cell? ⟨gb5, 2, none⟩ = some (.int .i64 r4_3) := (aC BK5.out 2).trans rfl; have hygb5_2_7 := aD BK5.out 2; have hzgb5_3_7 : w7.cell? ⟨gb5, 3, none⟩ = some (.int .i64 r4_4) := (aC BK5.out 3).trans rfl; have hygb5_3_7 := aD BK5.out 3; have hzgb5_4_7 : w7.cell? ⟨gb5, 4, none⟩ = some (.int .i64 r4_5) := (aC BK5.out 4).trans rfl; have hygb5_4_7 := aD BK5.out 4) | ((with_reducible refine bG (N := 9) rfl ?_); refine bJ ?hg (N := 9) ?hd (cs := #[.int .i64 0, .int .i64 0, .int .i64 0, .int .i64 0, .int .i64 0]) (t := 27) ?hr ?_; (case hd => rfl); (case hg => rfl); (case hr => first | (go_simp; done) | (go_simp; rfl)); intro gb8 hg_ w8 hbox hb; have hge_ : (gb5 + 1) ≤ gb8 := (by rw [hg_]; exact HT.out); have hlt_ : gb8 + 1 ≤ w8.heap.size := blk_lt hbox; have n0_ := aA.mk (Kd.F_below HF2_0.out hb); have n1_ := aA.mk (Kd.R_below HS2_0.out hb); have n2_ := aA.mk (bB BK5.out hb); have n3_ := aA.mk (aV HB.out hb); have n4_ := aA.mk (hbox); have n5_ := aA.mk (And.intro HORD.out (And.intro hge_ (Nat.le_succ gb8))); have n6_ := aA.mk (hlt_); (try clear HF2_0); (try clear HS2_0); (try clear BK5); (try clear HB); (try clear BK8); (try clear HORD); (try clear HT); have HF2_0 := n0_; have HS2_0 := n1_; have BK5 := n2_; have HB := n3_; have BK8 := n4_; have HORD := n5_; have HT := n6_; clear n0_ n1_ n2_ n3_ n4_ n5_ n6_; clear hb hbox hg_ hge_ hlt_; have hzgb5_0_8 : w8.cell? ⟨gb5, 0, none⟩ = some (.int .i64 r4_1) := (aC BK5.out 0).trans rfl; have hygb5_0_8 := aD BK5.out 0; have hzgb5_1_8 : w8.cell? ⟨gb5, 1, none⟩ = some (.int .i64 r4_2) := (aC BK5.out 1).trans rfl; have hygb5_1_8 := aD BK5.out 1; have hzgb5_2_8 : w8.cell? ⟨gb5, 2, none⟩ = some (.int .i64 r4_3) := (aC BK5.out 2).trans rfl; have hygb5_2_8 := aD BK5.out 2; have hzgb5_3_8 : w8.cell? ⟨gb5, 3, none⟩ = some (.int .i64 r4_4) := (aC BK5.out 3).trans rfl; have hygb5_3_8 := aD BK5.out 3; have hzgb5_4_8 : w8.cell? ⟨gb5, 4, none⟩ = some (.int .i64 r4_5) := (aC BK5.out 4).trans rfl; have hygb5_4_8 := aD BK5.out 4; have hzgb8_0_8 : w8.cell? ⟨gb8, 0, none⟩ = some (.int .i64 0) := (aC BK8.out 0).trans rfl; have hygb8_0_8 := aD BK8.out 0; have hzgb8_1_8 : w8.cell? ⟨gb8, 1, none⟩ = some (.int .i64 0) := (aC BK8.out 1).trans rfl; have hygb8_1_8 := aD BK8.out 1; have hzgb8_2_8 : w8.cell? ⟨gb8, 2, none⟩ = some (.int .i64 0) := (aC BK8.out 2).trans rfl; have hygb8_2_8 := aD BK8.out 2; have hzgb8_3_8 : w8.cell? ⟨gb8, 3, none⟩ = some (.int .i64 0) := (aC BK8.out 3).trans rfl; have hygb8_3_8 := aD BK8.out 3; have hzgb8_4_8 : w8.cell? ⟨gb8, 4, none⟩ = some (.int .i64 0) := (aC BK8.out 4).trans rfl; have hygb8_4_8 := aD BK8.out 4) | ((with_reducible refine gate_store (t := 27) (p := 9) rfl ?_); refine store_event (t := 27) (p := 9) (v := ?vo_w9) (w1 := (((((w8.setCell ⟨gb8, 0, none⟩ (.int .i64 r4_1)).setCell ⟨gb8, 1, none⟩ (.int .i64 r4_2)).setCell ⟨gb8, 2, none⟩ (.int .i64 r4_3)).setCell ⟨gb8, 3, none⟩ (.int .i64 r4_4)).setCell ⟨gb8, 4, none⟩ (.int .i64 r4_5))) ?hg ?ho ?hn ?hr ?_; (case ho => rfl); (case hg => rfl); (case hn => rfl); (case hr => first | (go_simp; done) | (go_simp; rfl)); intro w9 hw_; have hkp : Kept w8 w9 (fun k_ => k_ = gb8) := (by rw [hw_]; exact Kept.setCell (Kept.setCell (Kept.setCell (Kept.setCell (Kept.setCell (Kept.refl w8 (fun k_ => k_ = gb8)) (.inl rfl) (.int .i64 r4_1)) (.inl rfl) (.int .i64 r4_2)) (.inl rfl) (.int .i64 r4_3)) (.inl rfl) (.int .i64 r4_4)) (.inl rfl) (.int .i64 r4_5)); have hge_ : w.heap.size ≤ gb8 := (by have o_ := HORD.out; (try unfold In at *); (try show _ ≠ _); omega); have hbn_ : Below w.heap.size w w9 := (by rw [hw_]; exact aN (aN (aN (aN (aN (HB.out) hge_) hge_) hge_) hge_) hge_); have hbk_ : w9.heap[gb8]? = some (.cells #[.int .i64 r4_1, .int .i64 r4_2, .int .i64 r4_3, .int .i64 r4_4, .int .i64 r4_5] 27 (0, 0)) := (by rw [hw_]; exact aU (cs := #[.int .i64 r4_1, .int .i64 r4_2, .int .i64 r4_3, .int .i64 r4_4, .int .i64 0]) (cs' := #[.int .i64 r4_1, .int .i64 r4_2, .int .i64 r4_3, .int .i64 r4_4, .int .i64 r4_5]) (aU (cs := #[.int .i64 r4_1, .int .i64 r4_2, .int .i64 r4_3, .int .i64 0, .int .i64 0]) (cs' := #[.int .i64 r4_1, .int .i64 r4_2, .int .i64 r4_3, .int .i64 r4_4, .int .i64 0]) (aU (cs := #[.int .i64 r4_1, .int .i64 r4_2, .int .i64 0, .int .i64 0, .int .i64 0]) (cs' := #[.int .i64 r4_1, .int .i64 r4_2, .int .i64 r4_3, .int .i64 0, .int .i64 0]) (aU (cs := #[.int .i64 r4_1, .int .i64 0, .int .i64 0, .int .i64 0, .int .i64 0]) (cs' := #[.int .i64 r4_1, .int .i64 r4_2, .int .i64 0, .int .i64 0, .int .i64 0]) (aU (cs := #[.int .i64 0, .int .i64 0, .int .i64 0, .int .i64 0, .int .i64 0]) (cs' := #[.int .i64 r4_1, .int .i64 0, .int .i64 0, .int .i64 0, .int .i64 0]) (BK8.out) 0 _ rfl) 1 _ rfl) 2 _ rfl) 3 _ rfl) 4 _ rfl); have hsz_ : (gb8 + 1) ≤ w9.heap.size := Nat.le_trans HT.out hkp.1; have n0_ := aA.mk (Kd.F_kept HF2_0.out hkp (fun k_ h1_ h2_ => by have o_ := HORD.out; unfold In at h1_; omega)); have n1_ := aA.mk (Kd.R_kept HS2_0.out hkp (fun k_ h1_ h2_ => by have o_ := HORD.out; unfold In at h1_; omega)); have n2_ := aA.mk (blk_kept BK5.out hkp (fun h2_ => by have o_ := HORD.out; omega)); have n3_ := aA.mk (hbn_); have n4_ := aA.mk (hbk_); have n5_ := aA.mk (hsz_); (try clear HF2_0); (try clear HS2_0); (try clear BK5); (try clear HB); (try clear BK8); (try clear HT); have HF2_0 := n0_; have HS2_0 := n1_; have BK5 := n2_; have HB := n3_; have BK8 := n4_; have HT := n5_; clear n0_ n1_ n2_ n3_ n4_ n5_; clear hw_ hkp hge_ hbn_ hbk_ hsz_; have hzgb5_0_9 : w9.cell? ⟨gb5, 0, none⟩ = some (.int .i64 r4_1) := (aC BK5.out 0).trans rfl; have hygb5_0_9 := aD BK5.out 0; have hzgb5_1_9 : w9.cell? ⟨gb5, 1, none⟩ = some (.int .i64 r4_2) := (aC BK5.out 1).trans rfl; have hygb5_1_9 := aD BK5.out 1; have hzgb5_2_9 : w9.cell? ⟨gb5, 2, none⟩ = some (.int .i64 r4_3) := (aC BK5.out 2).trans rfl; have hygb5_2_9 := aD BK5.out 2; have hzgb5_3_9 : w9.cell? ⟨gb5, 3, none⟩ = some (.int .i64 r4_4) := (aC BK5.out 3).trans rfl; have hygb5_3_9 := aD BK5.out 3; have hzgb5_4_9 : w9.cell? ⟨gb5, 4, none⟩ = some (.int .i64 r4_5) := (aC BK5.out 4).trans rfl; have hygb5_4_9 := aD BK5.out 4; have hzgb8_0_9 : w9.cell? ⟨gb8, 0, none⟩ = some (.int .i64 r4_1) := (aC BK8.out 0).trans rfl; have hygb8_0_9 := aD BK8.out 0; have hzgb8_1_9 : w9.cell? ⟨gb8, 1, none⟩ = some (.int .i64 r4_2) := (aC BK8.out 1).trans rfl; have hygb8_1_9 := aD BK8.out 1; have hzgb8_2_9 : w9.cell? ⟨gb8, 2, none⟩ = some (.int .i64 r4_3) := (aC BK8.out 2).trans rfl; have hygb8_2_9 := aD BK8.out 2; have hzgb8_3_9 : w9.cell? ⟨gb8, 3, none⟩ = some (.int .i64 r4_4) := (aC BK8.out 3).trans rfl; have hygb8_3_9 := aD BK8.out 3; have hzgb8_4_9 : w9.cell? ⟨gb8, 4, none⟩ = some (.int .i64 r4_5) := (aC BK8.out 4).trans rfl; have hygb8_4_9 := aD BK8.out 4) | ((with_reducible refine aX (f := 59) rfl ?_); refine bL (some 40) rfl rfl Try.func59 (by kernel_rfl) rfl #[.slice A0 l0.length c0] rfl (by (try simp only [List.map_toArray, List.map_cons, List.map_nil]); first | done | rfl | (simp only [List.length_drop, List.length_take]; rfl)) ?_; (with_reducible refine (spec_DrawSetPut.calls k6 _ _ l0 r6_1 r6_2 r6_3 r6_4 r6_5 r6_6 _ ?s1 ?s2 A6.out).mono ?_); (case s1 => exact (Kd.C_below HR0.out HB.out)); (case s2 => exact HC0.out); rintro e_ w10 ⟨v0_, rfl, ho0, hb⟩; refine ⟨_, rfl, ?_⟩; obtain ⟨lo10, hi10, el_, eh_, ol_, oh_⟩ := Mem.times HT.out hb; (try rw [← el_] at ho0); obtain ⟨A10_0, c10_0, ev_, hc0_, hf0_, hs0_⟩ := Mem.new_R ho0 eh_; subst ev_; have n0_ := aA.mk (Kd.F_below HF2_0.out hb); have n1_ := aA.mk (Kd.R_below HS2_0.out hb); have n2_ := aA.mk (bB BK5.out hb); have n3_ := aA.mk (bB BK8.out hb); have n4_ := aA.mk (aV HB.out hb); have n5_ := aA.mk (hf0_); have n6_ := aA.mk (hc0_); have n7_ := aA.mk (hs0_); have n8_ := aA.mk (And.intro HORD.out (And.intro ol_ oh_)); have n9_ := aA.mk (Nat.le_of_eq eh_); (try clear HF2_0); (try clear HS2_0); (try clear BK5); (try clear BK8); (try clear HB); (try clear HF10_0); (try clear HC10_0); (try clear HS10_0); (try clear HORD); (try clear HT); have HF2_0 := n0_; have HS2_0 := n1_; have BK5 := n2_; have BK8 := n3_; have HB := n4_; have HF10_0 := n5_; have HC10_0 := n6_; have HS10_0 := n7_; have HORD := n8_; have HT := n9_; clear n0_ n1_ n2_ n3_ n4_ n5_ n6_ n7_ n8_ n9_; clear ol_ oh_ el_ eh_ ho0 hf0_ hc0_ hs0_; (try clear hb); have hzgb5_0_10 : w10.cell? ⟨gb5, 0, none⟩ = some (.int .i64 r4_1) := (aC BK5.out 0).trans rfl; have hygb5_0_10 := aD BK5.out 0; have hzgb5_1_10 : w10.cell? ⟨gb5, 1, none⟩ = some (.int .i64 r4_2) := (aC BK5.out 1).trans rfl; have hygb5_1_10 := aD BK5.out 1; have hzgb5_2_10 : w10.cell? ⟨gb5, 2, none⟩ = some (.int .i64 r4_3) := (aC BK5.out 2).trans rfl; have hygb5_2_10 := aD BK5.out 2; have hzgb5_3_10 : w10.cell? ⟨gb5, 3, none⟩ = some (.int .i64 r4_4) := (aC BK5.out 3).trans rfl; have hygb5_3_10 := aD BK5.out 3; have hzgb5_4_10 : w10.cell? ⟨gb5, 4, none⟩ = some (.int .i64 r4_5) := (aC BK5.out 4).trans rfl; have hygb5_4_10 := aD BK5.out 4; have hzgb8_0_10 : w10.cell? ⟨gb8, 0, none⟩ = some (.int .i64 r4_1) := (aC BK8.out 0).trans rfl; have hygb8_0_10 := aD BK8.out 0; have hzgb8_1_10 : w10.cell? ⟨gb8, 1, none⟩ = some (.int .i64 r4_2) := (aC BK8.out 1).trans rfl; have hygb8_1_10 := aD BK8.out 1; have hzgb8_2_10 : w10.cell? ⟨gb8, 2, none⟩ = some (.int .i64 r4_3) := (aC BK8.out 2).trans rfl; have hygb8_2_10 := aD BK8.out 2; have hzgb8_3_10 : w10.cell? ⟨gb8, 3, none⟩ = some (.int .i64 r4_4) := (aC BK8.out 3).trans rfl; have hygb8_3_10 := aD BK8.out 3; have hzgb8_4_10 : w10.cell? ⟨gb8, 4, none⟩ = some (.int .i64 r4_5) := (aC BK8.out 4).trans rfl; have hygb8_4_10 := aD BK8.out 4) | ((with_reducible refine bG (N := 12) rfl ?_); refine bJ ?hg (N := 12) ?hd (cs := #[.int .i64 0, .int .i64 0, .int .i64 0, .int .i64 0, .int .i64 0]) (t := 27) ?hr ?_; (case hd => rfl); (case hg => rfl); (case hr => first | (go_simp; done) | (go_simp; rfl)); intro gb11 hg_ w11 hbox hb; have hge_ : hi10 ≤ gb11 := (by rw [hg_]; exact HT.out); have hlt_ : gb11 + 1 ≤ w11.heap.size := blk_lt hbox; have n0_ := aA.mk (Kd.F_below HF2_0.out hb); have n1_ := aA.mk (Kd.R_below HS2_0.out hb); have n2_ := aA.mk (Kd.F_below HF10_0.out hb); have n3_ := aA.mk (Kd.R_below HS10_0.out hb); have n4_ := aA.mk (bB BK5.out hb); have n5_ := aA.mk (bB BK8.out hb); have n6_ := aA.mk (aV HB.out hb); have n7_ := aA.mk (hbox); have n8_ := aA.mk (And.intro HORD.out (And.intro hge_ (Nat.le_succ gb11))); have n9_ := aA.mk (hlt_); (try clear HF2_0); (try clear HS2_0); (try clear HF10_0); (try clear HS10_0); (try clear BK5); (try clear BK8); (try clear HB); (try clear BK11); (try clear HORD); (try clear HT); have HF2_0 := n0_; have HS2_0 := n1_; have HF10_0 := n2_; have HS10_0 := n3_; have BK5 := n4_; have BK8 := n5_; have HB := n6_; have BK11 := n7_; have HORD := n8_; have HT := n9_; clear n0_ n1_ n2_ n3_ n4_ n5_ n6_ n7_ n8_ n9_; clear hb hbox hg_ hge_ hlt_; have hzgb5_0_11 : w11.cell? ⟨gb5, 0, none⟩ = some (.int .i64 r4_1) := (aC BK5.out 0).trans rfl; have hygb5_0_11 := aD BK5.out 0; have hzgb5_1_11 : w11.cell? ⟨gb5, 1, none⟩ = some (.int .i64 r4_2) := (aC BK5.out 1).trans rfl; have hygb5_1_11 := aD BK5.out 1; have hzgb5_2_11 : w11.cell? ⟨gb5, 2, none⟩ = some (.int .i64 r4_3) := (aC BK5.out 2).trans rfl; have hygb5_2_11 := aD BK5.out 2; have hzgb5_3_11 : w11.cell? ⟨gb5, 3, none⟩ = some (.int .i64 r4_4) := (aC BK5.out 3).trans rfl; have hygb5_3_11 := aD BK5.out 3; have hzgb5_4_11 : w11.cell? ⟨gb5, 4, none⟩ = some (.int .i64 r4_5) := (aC BK5.out 4).trans rfl; have hygb5_4_11 := aD BK5.out 4; have hzgb8_0_11 : w11.cell? ⟨gb8, 0, none⟩ = some (.int .i64 r4_1) := (aC BK8.out 0).trans rfl; have hygb8_0_11 := aD BK8.out 0; have hzgb8_1_11 : w11.cell? ⟨gb8, 1, none⟩ = some (.int .i64 r4_2) := (aC BK8.out 1).trans rfl; have hygb8_1_11 := aD BK8.out 1; have hzgb8_2_11 : w11.cell? ⟨gb8, 2, none⟩ = some (.int .i64 r4_3) := (aC BK8.out 2).trans rfl; have hygb8_2_11 := aD BK8.out 2; have hzgb8_3_11 : w11.cell? ⟨gb8, 3, none⟩ = some (.int .i64 r4_4) := (aC BK8.out 3).trans rfl; have hygb8_3_11 := aD BK8.out 3; have hzgb8_4_11 : w11.cell? ⟨gb8, 4, none⟩ = some (.int .i64 r4_5) := (aC BK8.out 4).trans rfl; have hygb8_4_11 := aD BK8.out 4; have hzgb11_0_11 : w11.cell? ⟨gb11, 0, none⟩ = some (.int .i64 0) := (aC BK11.out 0).trans rfl; have hygb11_0_11 := aD BK11.out 0; have hzgb11_1_11 : w11.cell? ⟨gb11, 1, none⟩ = some (.int .i64 0) := (aC BK11.out 1).trans rfl; have hygb11_1_11 := aD BK11.out 1; have hzgb11_2_11 : w11.cell? ⟨gb11, 2, none⟩ = some (.int .i64 0) := (aC BK11.out 2).trans rfl; have hygb11_2_11 := aD BK11.out 2; have hzgb11_3_11 : w11.cell? ⟨gb11, 3, none⟩ = some (.int .i64 0) := (aC BK11.out 3).trans rfl; have hygb11_3_11 := aD BK11.out 3; have hzgb11_4_11 : w11.cell? ⟨gb11, 4, none⟩ = some (.int .i64 0) := (aC BK11.out 4).trans rfl; have hygb11_4_11 := aD BK11.out 4) | ((with_reducible refine gate_store (t := 27) (p := 12) rfl ?_); refine store_event (t := 27) (p := 12) (v := ?vo_w12) (w1 := (((((w11.setCell ⟨gb11, 0, none⟩ (.int .i64 r6_2)).setCell ⟨gb11, 1, none⟩ (.int .i64 r6_3)).setCell ⟨gb11, 2, none⟩ (.int .i64 r6_4)).setCell ⟨gb11, 3, none⟩ (.int .i64 r6_5)).setCell ⟨gb11, 4, none⟩ (.int .i64 r6_6))) ?hg ?ho ?hn ?hr ?_; (case ho => rfl); (case hg => rfl); (case hn => rfl); (case hr => first | (go_simp; done) | (go_simp; rfl)); intro w12 hw_; have hkp : Kept w11 w12 (fun k_ => k_ = gb11) := (by rw [hw_]; exact Kept.setCell (Kept.setCell (Kept.setCell (Kept.setCell (Kept.setCell (Kept.refl w11 (fun k_ => k_ = gb11)) (.inl rfl) (.int .i64 r6_2)) (.inl rfl) (.int .i64 r6_3)) (.inl rfl) (.int .i64 r6_4)) (.inl rfl) (.int .i64 r6_5)) (.inl rfl) (.int .i64 r6_6)); have hge_ : w.heap.size ≤ gb11 := (by have o_ := HORD.out; (try unfold In at *); (try show _ ≠ _); omega); have hbn_ : Below w.heap.size w w12 := (by rw [hw_]; exact aN (aN (aN (aN (aN (HB.out) hge_) hge_) hge_) hge_) hge_); have hbk_ : w12.heap[gb11]? = some (.cells #[.int .i64 r6_2, .int .i64 r6_3, .int .i64 r6_4, .int .i64 r6_5, .int .i64 r6_6] 27 (0, 0)) := (by rw [hw_]; exact aU (cs := #[.int .i64 r6_2, .int .i64 r6_3, .int .i64 r6_4, .int .i64 r6_5, .int .i64 0]) (cs' := #[.int .i64 r6_2, .int .i64 r6_3, .int .i64 r6_4, .int .i64 r6_5, .int .i64 r6_6]) (aU (cs := #[.int .i64 r6_2, .int .i64 r6_3, .int .i64 r6_4, .int .i64 0, .int .i64 0]) (cs' := #[.int .i64 r6_2, .int .i64 r6_3, .int .i64 r6_4, .int .i64 r6_5, .int .i64 0]) (aU (cs := #[.int .i64 r6_2, .int .i64 r6_3, .int .i64 0, .int .i64 0, .int .i64 0]) (cs' := #[.int .i64 r6_2, .int .i64 r6_3, .int .i64 r6_4, .int .i64 0, .int .i64 0]) (aU (cs := #[.int .i64 r6_2, .int .i64 0, .int .i64 0, .int .i64 0, .int .i64 0]) (cs' := #[.int .i64 r6_2, .int .i64 r6_3, .int .i64 0, .int .i64 0, .int .i64 0]) (aU (cs := #[.int .i64 0, .int .i64 0, .int .i64 0, .int .i64 0, .int .i64 0]) (cs' := #[.int .i64 r6_2, .int .i64 0, .int .i64 0, .int .i64 0, .int .i64 0]) (BK11.out) 0 _ rfl) 1 _ rfl) 2 _ rfl) 3 _ rfl) 4 _ rfl); have hsz_ : (gb11 + 1) ≤ w12.heap.size := Nat.le_trans HT.out hkp.1; have n0_ := aA.mk (Kd.F_kept HF2_0.out hkp (fun k_ h1_ h2_ => by have o_ := HORD.out; unfold In at h1_; omega)); have n1_ := aA.mk (Kd.R_kept HS2_0.out hkp (fun k_ h1_ h2_ => by have o_ := HORD.out; unfold In at h1_; omega)); have n2_ := aA.mk (Kd.F_kept HF10_0.out hkp (fun k_ h1_ h2_ => by have o_ := HORD.out; unfold In at h1_; omega)); have n3_ := aA.mk (Kd.R_kept HS10_0.out hkp (fun k_ h1_ h2_ => by have o_ := HORD.out; unfold In at h1_; omega)); have n4_ := aA.mk (blk_kept BK5.out hkp (fun h2_ => by have o_ := HORD.out; omega)); have n5_ := aA.mk (blk_kept BK8.out hkp (fun h2_ => by have o_ := HORD.out; omega)); have n6_ := aA.mk (hbn_); have n7_ := aA.mk (hbk_); have n8_ := aA.mk (hsz_); (try clear HF2_0); (try clear HS2_0); (try clear HF10_0); (try clear HS10_0); (try clear BK5); (try clear BK8); (try clear HB); (try clear BK11); (try clear HT); have HF2_0 := n0_; have HS2_0 := n1_; have HF10_0 := n2_; have HS10_0 := n3_; have BK5 := n4_; have BK8 := n5_; have HB := n6_; have BK11 := n7_; have HT := n8_; clear n0_ n1_ n2_ n3_ n4_ n5_ n6_ n7_ n8_; clear hw_ hkp hge_ hbn_ hbk_ hsz_; have hzgb5_0_12 : w12.cell? ⟨gb5, 0, none⟩ = some (.int .i64 r4_1) := (aC BK5.out 0).trans rfl; have hygb5_0_12 := aD BK5.out 0; have hzgb5_1_12 : w12.cell? ⟨gb5, 1, none⟩ = some (.int .i64 r4_2) := (aC BK5.out 1).trans rfl; have hygb5_1_12 := aD BK5.out 1; have hzgb5_2_12 : w12.cell? ⟨gb5, 2, none⟩ = some (.int .i64 r4_3) := (aC BK5.out 2).trans rfl; have hygb5_2_12 := aD BK5.out 2; have hzgb5_3_12 : w12.cell? ⟨gb5, 3, none⟩ = some (.int .i64 r4_4) := (aC BK5.out 3).trans rfl; have hygb5_3_12 := aD BK5.out 3; have hzgb5_4_12 : w12.cell? ⟨gb5, 4, none⟩ = some (.int .i64 r4_5) := (aC BK5.out 4).trans rfl; have hygb5_4_12 := aD BK5.out 4; have hzgb8_0_12 : w12.cell? ⟨gb8, 0, none⟩ = some (.int .i64 r4_1) := (aC BK8.out 0).trans rfl; have hygb8_0_12 := aD BK8.out 0; have hzgb8_1_12 : w12.cell? ⟨gb8, 1, none⟩ = some (.int .i64 r4_2) := (aC BK8.out 1).trans rfl; have hygb8_1_12 := aD BK8.out 1; have hzgb8_2_12 : w12.cell? ⟨gb8, 2, none⟩ = some (.int .i64 r4_3) := (aC BK8.out 2).trans rfl; have hygb8_2_12 := aD BK8.out 2; have hzgb8_3_12 : w12.cell? ⟨gb8, 3, none⟩ = some (.int .i64 r4_4) := (aC BK8.out 3).trans rfl; have hygb8_3_12 := aD BK8.out 3; have hzgb8_4_12 : w12.cell? ⟨gb8, 4, none⟩ = some (.int .i64 r4_5) := (aC BK8.out 4).trans rfl; have hygb8_4_12 := aD BK8.out 4; have hzgb11_0_12 : w12.cell? ⟨gb11, 0, none⟩ = some (.int .i64 r6_2) := (aC BK11.out 0).trans rfl; have hygb11_0_12 := aD BK11.out 0; have hzgb11_1_12 : w12.cell? ⟨gb11, 1, none⟩ = some (.int .i64 r6_3) := (aC BK11.out 1).trans rfl; have hygb11_1_12 := aD BK11.out 1; have hzgb11_2_12 : w12.cell? ⟨gb11, 2, none⟩ = some (.int .i64 r6_4) := (aC BK11.out 2).trans rfl; have hygb11_2_12 := aD BK11.out 2; have hzgb11_3_12 : w12.cell? ⟨gb11, 3, none⟩ = some (.int .i64 r6_5) := (aC BK11.out 3).trans rfl; have hygb11_3_12 := aD BK11.out 3; have hzgb11_4_12 : w12.cell? ⟨gb11, 4, none⟩ = some (.int .i64 r6_6) := (aC BK11.out 4).trans rfl; have hygb11_4_12 := aD BK11.out 4) | ((with_reducible refine aX (f := 60) rfl ?_); refine bL (some 44) rfl rfl Try.func60 (by kernel_rfl) rfl #[.slice A0 l0.length c0] rfl (by (try simp only [List.map_toArray, List.map_cons, List.map_nil]); first | done | rfl | (simp only [List.length_drop, List.length_take]; rfl)) ?_; (with_reducible refine (spec_DrawDrop.calls k7 _ _ l0 r7_0 _ ?s1 ?s2 A7.out).mono ?_); (case s1 => exact (Kd.C_below HR0.out HB.out)); (case s2 => exact HC0.out); rintro e_ w13 ⟨v0_, rfl, ho0, hb⟩; refine ⟨_, rfl, ?_⟩; obtain ⟨lo13, hi13, el_, eh_, ol_, oh_⟩ := Mem.times HT.out hb; (try rw [← el_] at ho0); obtain ⟨A13_0, c13_0, ev_, hc0_, hf0_, hs0_⟩ := Mem.new_R ho0 eh_; subst ev_; have n0_ := aA.mk (Kd.F_below HF2_0.out hb); have n1_ := aA.mk (Kd.R_below HS2_0.out hb); have n2_ := aA.mk (Kd.F_below HF10_0.out hb); have n3_ := aA.mk (Kd.R_below HS10_0.out hb); have n4_ := aA.mk (bB BK5.out hb); have n5_ := aA.mk (bB BK8.out hb); have n6_ := aA.mk (bB BK11.out hb); have n7_ := aA.mk (aV HB.out hb); have n8_ := aA.mk (hf0_); have n9_ := aA.mk (hc0_); have n10_ := aA.mk (hs0_); have n11_ := aA.mk (And.intro HORD.out (And.intro ol_ oh_)); have n12_ := aA.mk (Nat.le_of_eq eh_); (try clear HF2_0); (try clear HS2_0); (try clear HF10_0); (try clear HS10_0); (try clear BK5); (try clear BK8); (try clear BK11); (try clear HB); (try clear HF13_0); (try clear HC13_0); (try clear HS13_0); (try clear HORD); (try clear HT); have HF2_0 := n0_; have HS2_0 := n1_; have HF10_0 := n2_; have HS10_0 := n3_; have BK5 := n4_; have BK8 := n5_; have BK11 := n6_; have HB := n7_; have HF13_0 := n8_; have HC13_0 := n9_; have HS13_0 := n10_; have HORD := n11_; have HT := n12_; clear n0_ n1_ n2_ n3_ n4_ n5_ n6_ n7_ n8_ n9_ n10_ n11_ n12_; clear ol_ oh_ el_ eh_ ho0 hf0_ hc0_ hs0_; (try clear hb); have hzgb5_0_13 : w13.cell? ⟨gb5, 0, none⟩ = some (.int .i64 r4_1) := (aC BK5.out 0).trans rfl; have hygb5_0_13 := aD BK5.out 0; have hzgb5_1_13 : w13.cell? ⟨gb5, 1, none⟩ = some (.int .i64 r4_2) := (aC BK5.out 1).trans rfl; have hygb5_1_13 := aD BK5.out 1; have hzgb5_2_13 : w13.cell? ⟨gb5, 2, none⟩ = some (.int .i64 r4_3) := (aC BK5.out 2).trans rfl; have hygb5_2_13 := aD BK5.out 2; have hzgb5_3_13 : w13.cell? ⟨gb5, 3, none⟩ = some (.int .i64 r4_4) := (aC BK5.out 3).trans rfl; have hygb5_3_13 := aD BK5.out 3; have hzgb5_4_13 : w13.cell? ⟨gb5, 4, none⟩ = some (.int .i64 r4_5) := (aC BK5.out 4).trans rfl; have hygb5_4_13 := aD BK5.out 4; have hzgb8_0_13 : w13.cell? ⟨gb8, 0, none⟩ = some (.int .i64 r4_1) := (aC BK8.out 0).trans rfl; have hygb8_0_13 := aD BK8.out 0; have hzgb8_1_13 : w13.cell? ⟨gb8, 1, none⟩ = some (.int .i64 r4_2) := (aC BK8.out 1).trans rfl; have hygb8_1_13 := aD BK8.out 1; have hzgb8_2_13 : w13.cell? ⟨gb8, 2, none⟩ = some (.int .i64 r4_3) := (aC BK8.out 2).trans rfl; have hygb8_2_13 := aD BK8.out 2; have hzgb8_3_13 : w13.cell? ⟨gb8, 3, none⟩ = some (.int .i64 r4_4) := (aC BK8.out 3).trans rfl; have hygb8_3_13 := aD BK8.out 3; have hzgb8_4_13 : w13.cell? ⟨gb8, 4, none⟩ = some (.int .i64 r4_5) := (aC BK8.out 4).trans rfl; have hygb8_4_13 := aD BK8.out 4; have hzgb11_0_13 : w13.cell? ⟨gb11, 0, none⟩ = some (.int .i64 r6_2) := (aC BK11.out 0).trans rfl; have hygb11_0_13 := aD BK11.out 0; have hzgb11_1_13 : w13.cell? ⟨gb11, 1, none⟩ = some (.int .i64 r6_3) := (aC BK11.out 1).trans rfl; have hygb11_1_13 := aD BK11.out 1; have hzgb11_2_13 : w13.cell? ⟨gb11, 2, none⟩ = some (.int .i64 r6_4) := (aC BK11.out 2).trans rfl; have hygb11_2_13 := aD BK11.out 2; have hzgb11_3_13 : w13.cell? ⟨gb11, 3, none⟩ = some (.int .i64 r6_5) := (aC BK11.out 3).trans rfl; have hygb11_3_13 := aD BK11.out 3; have hzgb11_4_13 : w13.cell? ⟨gb11, 4, none⟩ = some (.int .i64 r6_6) := (aC BK11.out 4).trans rfl; have hygb11_4_13 := aD BK11.out 4))
 have n_ := aA.mk (Kd.F_drew HF2_0.out)
 clear HF2_0
 have HF2_0 := n_
 clear n_
 have n_ := aA.mk (Kd.bE HS2_0.out)
 clear HS2_0
 have HS2_0 := n_
 clear n_
 have n_ := aA.mk (Kd.F_drew HF10_0.out)
 clear HF10_0
 have HF10_0 := n_
 clear n_
 have n_ := aA.mk (Kd.bE HS10_0.out)
 clear HS10_0
 have HS10_0 := n_
 clear n_
 have n_ := aA.mk (Kd.F_drew HF13_0.out)
 clear HF13_0
 have HF13_0 := n_
 clear n_
 have n_ := aA.mk (Kd.bE HS13_0.out)
 clear HS13_0
 have HS13_0 := n_
 clear n_
 have n_ := aA.mk (aM BK5.out)
 clear BK5
 have BK5 := n_
 clear n_
 have n_ := aA.mk (aM BK8.out)
 clear BK8
 have BK8 := n_
 clear n_
 have n_ := aA.mk (aM BK11.out)
 clear BK11
 have BK11 := n_
 clear n_
 have n_ := aA.mk (aG HB.out)
 clear HB
 have HB := n_
 clear n_
 have n_ := aA.mk (show _ ≤ w13.drew.heap.size from HT.out)
 clear HT
 have HT := n_
 clear n_
 refine start_ (n := 32) (S := fun w' => w'.cell? ⟨gb5, 0, none⟩ = some (.int .i64 r4_1) ∧ w'.cell? ⟨gb5, 1, none⟩ = some (.int .i64 r4_2) ∧ w'.cell? ⟨gb5, 2, none⟩ = some (.int .i64 r4_3) ∧ w'.cell? ⟨gb5, 3, none⟩ = some (.int .i64 r4_4) ∧ w'.cell? ⟨gb5, 4, none⟩ = some (.int .i64 r4_5) ∧ w'.cell? ⟨gb8, 0, none⟩ = some (.int .i64 r4_1) ∧ w'.cell? ⟨gb8, 1, none⟩ = some (.int .i64 r4_2) ∧ w'.cell? ⟨gb8, 2, none⟩ = some (.int .i64 r4_3) ∧ w'.cell? ⟨gb8, 3, none⟩ = some (.int .i64 r4_4) ∧ w'.cell? ⟨gb8, 4, none⟩ = some (.int .i64 r4_5) ∧ w'.cell? ⟨gb11, 0, none⟩ = some (.int .i64 r6_2) ∧ w'.cell? ⟨gb11, 1, none⟩ = some (.int .i64 r6_3) ∧ w'.cell? ⟨gb11, 2, none⟩ = some (.int .i64 r6_4) ∧ w'.cell? ⟨gb11, 3, none⟩ = some (.int .i64 r6_5) ∧ w'.cell? ⟨gb11, 4, none⟩ = some (.int .i64 r6_6)) (ds := []) #[false, false, false, false, false, false, false, false, false, false, false, false, false, false, false, false, false, false, false, false, false, false, false, false, false, false, false, false, false, false, false, false] (by kernel_rfl) rfl rfl ⟨(aC BK5.out 0).trans rfl, (aC BK5.out 1).trans rfl, (aC BK5.out 2).trans rfl, (aC BK5.out 3).trans rfl, (aC BK5.out 4).trans rfl, (aC BK8.out 0).trans rfl, (aC BK8.out 1).trans rfl, (aC BK8.out 2).trans rfl, (aC BK8.out 3).trans rfl, (aC BK8.out 4).trans rfl, (aC BK11.out 0).trans rfl, (aC BK11.out 1).trans rfl, (aC BK11.out 2).trans rfl, (aC BK11.out 3).trans rfl, (aC BK11.out 4).trans rfl⟩ (fun hHeld => ?_)
 generalize w13.drew = w14 at HF2_0 HS2_0 HF10_0 HS10_0 HF13_0 HS13_0 BK5 BK8 BK11 HB HT hHeld ⊢
 refine bF (i := 0) (N := some 45) (v := ?_) (a' := ?_) #[true, false, false, false, false, false, false, false, false, false, false, false, false, false, false, false, false, false, false, false, false, false, false, false, false, false, false, false, false, false, false, false] rfl rfl (by kernel_rfl) (fun _ _ _ h => h) (Or.inl ⟨by rfl, ?_⟩) ?_ ?_
 rotate_left
 ·intro w'
  go_simp
  with_reducible rfl
 rotate_left
 ·simp only [Act.put, lA, lB, lC, aZ, bA]
  rfl
 refine bF (i := 2) (N := some 47) (v := ?_) (a' := ?_) #[true, false, true, false, false, false, false, false, false, false, false, false, false, false, false, false, false, false, false, false, false, false, false, false, false, false, false, false, false, false, false, false] rfl rfl (by kernel_rfl) (fun _ _ _ h => h) (Or.inl ⟨by rfl, ?_⟩) ?_ ?_
 rotate_left
 ·intro w'
  go_simp
  with_reducible rfl
 rotate_left
 ·simp only [Act.put, lA, lB, lC, aZ, bA]
  rfl
 refine one_ (i := 1) (N := some 46) #[true, true, true, false, false, false, false, false, false, false, false, false, false, false, false, false, false, false, false, false, false, false, false, false, false, false, false, false, false, false, false, false] rfl rfl (by kernel_rfl) (by decide) (fun K hK => ?_)
 refine goes_ Try.func47 (by kernel_rfl) rfl #[.slice A2_0 r2_0.length c2_0] (by rfl) rfl rfl (by (try simp only [List.map_toArray, List.map_cons, List.map_nil]); first | done | rfl | (simp only [List.length_drop, List.length_take]; rfl)) ?_
 (with_reducible refine (impl_SetOk.calls k8 _ _ r2_0 r8_0 _ ?s1 ?s2 A8.out).mono ?_)
 (case s1 => exact (Kd.F_now HF2_0.out))
 (case s2 => exact HC2_0.out)
 rintro e_ w15 ⟨rfl, hb⟩
 refine ⟨_, rfl, ?_⟩
 have n0_ := aA.mk (Kd.F_below HF2_0.out hb)
 have n1_ := aA.mk (Kd.R_below HS2_0.out hb)
 have n2_ := aA.mk (Kd.F_below HF10_0.out hb)
 have n3_ := aA.mk (Kd.R_below HS10_0.out hb)
 have n4_ := aA.mk (Kd.F_below HF13_0.out hb)
 have n5_ := aA.mk (Kd.R_below HS13_0.out hb)
 have n6_ := aA.mk (bB BK5.out hb)
 have n7_ := aA.mk (bB BK8.out hb)
 have n8_ := aA.mk (bB BK11.out hb)
 have n9_ := aA.mk (aV HB.out hb)
 have n10_ := aA.mk (Nat.le_trans HT.out hb.size)
 (try clear HF2_0)
 (try clear HS2_0)
 (try clear HF10_0)
 (try clear HS10_0)
 (try clear HF13_0)
 (try clear HS13_0)
 (try clear BK5)
 (try clear BK8)
 (try clear BK11)
 (try clear HB)
 (try clear HT)
 have HF2_0 := n0_
 have HS2_0 := n1_
 have HF10_0 := n2_
 have HS10_0 := n3_
 have HF13_0 := n4_
 have HS13_0 := n5_
 have BK5 := n6_
 have BK8 := n7_
 have BK11 := n8_
 have HB := n9_
 have HT := n10_
 clear n0_ n1_ n2_ n3_ n4_ n5_ n6_ n7_ n8_ n9_ n10_
 (try clear hb)
 refine hK.out _ _ ⟨(aC BK5.out 0).trans rfl, (aC BK5.out 1).trans rfl, (aC BK5.out 2).trans rfl, (aC BK5.out 3).trans rfl, (aC BK5.out 4).trans rfl, (aC BK8.out 0).trans rfl, (aC BK8.out 1).trans rfl, (aC BK8.out 2).trans rfl, (aC BK8.out 3).trans rfl, (aC BK8.out 4).trans rfl, (aC BK11.out 0).trans rfl, (aC BK11.out 1).trans rfl, (aC BK11.out 2).trans rfl, (aC BK11.out 3).trans rfl, (aC BK11.out 4).trans rfl⟩ (fun hHeld => ?_)
 clear hK K
 refine norm_ (a' := ?_) ?_ ?_
 rotate_left
 ·show Act.put _ (some 46) _ = _
  simp only [Act.put, lA, lB, lC, aZ, bA]
  rfl
 refine one_ (i := 3) (N := some 48) #[true, true, true, true, false, false, false, false, false, false, false, false, false, false, false, false, false, false, false, false, false, false, false, false, false, false, false, false, false, false, false, false] rfl rfl (by kernel_rfl) (by decide) (fun K hK => ?_)
 refine goes_ Try.func46 (by kernel_rfl) rfl #[.slice A2_0 r2_0.length c2_0] (by rfl) rfl rfl (by (try simp only [List.map_toArray, List.map_cons, List.map_nil]); first | done | rfl | (simp only [List.length_drop, List.length_take]; rfl)) ?_
 (with_reducible refine (spec_SetOk.calls k9 _ _ r2_0 r8_0 _ ?s1 ?s2 A9.out).mono ?_)
 (case s1 => exact (Kd.F_now HF2_0.out))
 (case s2 => exact HC2_0.out)
 rintro e_ w16 ⟨rfl, hb⟩
 refine ⟨_, rfl, ?_⟩
 have n0_ := aA.mk (Kd.F_below HF10_0.out hb)
 have n1_ := aA.mk (Kd.R_below HS10_0.out hb)
 have n2_ := aA.mk (Kd.F_below HF13_0.out hb)
 have n3_ := aA.mk (Kd.R_below HS13_0.out hb)
 have n4_ := aA.mk (bB BK5.out hb)
 have n5_ := aA.mk (bB BK8.out hb)
 have n6_ := aA.mk (bB BK11.out hb)
 have n7_ := aA.mk (aV HB.out hb)
 have n8_ := aA.mk (Nat.le_trans HT.out hb.size)
 (try clear HF2_0)
 (try clear HS2_0)
 (try clear HC2_0)
 (try clear HF10_0)
 (try clear HS10_0)
 (try clear HF13_0)
 (try clear HS13_0)
 (try clear BK5)
 (try clear BK8)
 (try clear BK11)
 (try clear HB)
 (try clear HT)
 have HF10_0 := n0_
 have HS10_0 := n1_
 have HF13_0 := n2_
 have HS13_0 := n3_
 have BK5 := n4_
 have BK8 := n5_
 have BK11 := n6_
 have HB := n7_
 have HT := n8_
 clear n0_ n1_ n2_ n3_ n4_ n5_ n6_ n7_ n8_
 (try clear hb)
 refine hK.out _ _ ⟨(aC BK5.out 0).trans rfl, (aC BK5.out 1).trans rfl, (aC BK5.out 2).trans rfl, (aC BK5.out 3).trans rfl, (aC BK5.out 4).trans rfl, (aC BK8.out 0).trans rfl, (aC BK8.out 1).trans rfl, (aC BK8.out 2).trans rfl, (aC BK8.out 3).trans rfl, (aC BK8.out 4).trans rfl, (aC BK11.out 0).trans rfl, (aC BK11.out 1).trans rfl, (aC BK11.out 2).trans rfl, (aC BK11.out 3).trans rfl, (aC BK11.out 4).trans rfl⟩ (fun hHeld => ?_)
 clear hK K
 refine norm_ (a' := ?_) ?_ ?_
 rotate_left
 ·show Act.put _ (some 48) _ = _
  simp only [Act.put, lA, lB, lC, aZ, bA]
  rfl
 refine bF (i := 4) (N := some 49) (v := ?_) (a' := ?_) #[true, true, true, true, true, false, false, false, false, false, false, false, false, false, false, false, false, false, false, false, false, false, false, false, false, false, false, false, false, false, false, false] rfl rfl (by kernel_rfl) (fun _ _ _ h => h) (Or.inl ⟨by rfl, ?_⟩) ?_ ?_
 rotate_left
 ·intro w'
  go_simp
  with_reducible rfl
 rotate_left
 ·simp only [Act.put, lA, lB, lC, aZ, bA]
  rfl
 refine bF (i := 5) (N := some 50) (v := ?_) (a' := ?_) #[true, true, true, true, true, true, false, false, false, false, false, false, false, false, false, false, false, false, false, false, false, false, false, false, false, false, false, false, false, false, false, false] rfl rfl (by kernel_rfl) (fun _ _ _ h => h) (Or.inl ⟨by rfl, ?_⟩) ?_ ?_
 rotate_left
 ·intro w'
  go_simp
  with_reducible rfl
 rotate_left
 ·simp only [Act.put, lA, lB, lC, aZ, bA]
  rfl
 refine bF (i := 6) (N := some 51) (v := ?_) (a' := ?_) #[true, true, true, true, true, true, true, false, false, false, false, false, false, false, false, false, false, false, false, false, false, false, false, false, false, false, false, false, false, false, false, false] rfl rfl (by kernel_rfl) (fun _ _ _ h => h) (Or.inl ⟨by rfl, ?_⟩) ?_ ?_
 rotate_left
 ·intro w'
  go_simp
  with_reducible rfl
 rotate_left
 ·simp only [Act.put, lA, lB, lC, aZ, bA]
  rfl
 refine bF (i := 7) (N := some 52) (v := ?_) (a' := ?_) #[true, true, true, true, true, true, true, true, false, false, false, false, false, false, false, false, false, false, false, false, false, false, false, false, false, false, false, false, false, false, false, false] rfl rfl (by kernel_rfl) (fun _ _ _ h => h) (Or.inl ⟨by rfl, ?_⟩) ?_ ?_
 rotate_left
 ·intro w'
  go_simp
  with_reducible rfl
 rotate_left
 ·simp only [Act.put, lA, lB, lC, aZ, bA]
  rfl
 refine bF (i := 8) (N := some 53) (v := ?_) (a' := ?_) #[true, true, true, true, true, true, true, true, true, false, false, false, false, false, false, false, false, false, false, false, false, false, false, false, false, false, false, false, false, false, false, false] rfl rfl (by kernel_rfl) (fun _ _ _ h => h) (Or.inl ⟨by rfl, ?_⟩) ?_ ?_
 rotate_left
 ·intro w'
  go_simp
  with_reducible rfl
 rotate_left
 ·simp only [Act.put, lA, lB, lC, aZ, bA]
  rfl
 refine bF (i := 9) (N := some 54) (v := ?_) (a' := ?_) #[true, true, true, true, true, true, true, true, true, true, false, false, false, false, false, false, false, false, false, false, false, false, false, false, false, false, false, false, false, false, false, false] rfl rfl (by kernel_rfl) (fun _ _ _ h => h) (Or.inl ⟨by rfl, ?_⟩) ?_ ?_
 rotate_left
 ·intro w'
  go_simp
  with_reducible rfl
 rotate_left
 ·simp only [Act.put, lA, lB, lC, aZ, bA]
  rfl
 refine bF (i := 10) (N := some 55) (v := ?_) (a' := ?_) #[true, true, true, true, true, true, true, true, true, true, true, false, false, false, false, false, false, false, false, false, false, false, false, false, false, false, false, false, false, false, false, false] rfl rfl (by kernel_rfl) (fun _ _ _ h => h) (Or.inl ⟨by rfl, ?_⟩) ?_ ?_
 rotate_left
 ·intro w'
  go_simp
  with_reducible rfl
 rotate_left
 ·simp only [Act.put, lA, lB, lC, aZ, bA]
  rfl
 refine take_ (i := 11) (N := some 56) (v := ?_) (a' := ?_) #[true, true, true, true, true, true, true, true, true, true, true, true, false, false, false, false, false, false, false, false, false, false, false, false, false, false, false, false, false, false, false, false] rfl rfl (by kernel_rfl) (fun _ _ _ h => h) (Or.inl ⟨by rfl, ?_⟩) hHeld ?_ ?_
 rotate_left
 ·rintro w' ⟨s0, s1, s2, s3, s4, s5, s6, s7, s8, s9, s10, s11, s12, s13, s14⟩
  go_simp
  with_reducible rfl
 rotate_left
 ·simp only [Act.put, lA, lB, lC, aZ, bA]
  rfl
 refine take_ (i := 12) (N := some 57) (v := ?_) (a' := ?_) #[true, true, true, true, true, true, true, true, true, true, true, true, true, false, false, false, false, false, false, false, false, false, false, false, false, false, false, false, false, false, false, false] rfl rfl (by kernel_rfl) (fun _ _ _ h => h) (Or.inl ⟨by rfl, ?_⟩) hHeld ?_ ?_
 rotate_left
 ·rintro w' ⟨s0, s1, s2, s3, s4, s5, s6, s7, s8, s9, s10, s11, s12, s13, s14⟩
  go_simp
  with_reducible rfl
 rotate_left
 ·simp only [Act.put, lA, lB, lC, aZ, bA]
  rfl
 refine bF (i := 13) (N := some 58) (v := ?_) (a' := ?_) #[true, true, true, true, true, true, true, true, true, true, true, true, true, true, false, false, false, false, false, false, false, false, false, false, false, false, false, false, false, false, false, false] rfl rfl (by kernel_rfl) (fun _ _ _ h => h) (Or.inl ⟨by rfl, ?_⟩) ?_ ?_
 rotate_left
 ·intro w'
  go_simp
  with_reducible rfl
 rotate_left
 ·simp only [Act.put, lA, lB, lC, aZ, bA]
  rfl
 refine bF (i := 14) (N := some 59) (v := ?_) (a' := ?_) #[true, true, true, true, true, true, true, true, true, true, true, true, true, true, true, false, false, false, false, false, false, false, false, false, false, false, false, false, false, false, false, false] rfl rfl (by kernel_rfl) (fun _ _ _ h => h) (Or.inl ⟨by rfl, ?_⟩) ?_ ?_
 rotate_left
 ·intro w'
  go_simp
  with_reducible rfl
 rotate_left
 ·simp only [Act.put, lA, lB, lC, aZ, bA]
  rfl
 refine bF (i := 15) (N := some 60) (v := ?_) (a' := ?_) #[true, true, true, true, true, true, true, true, true, true, true, true, true, true, true, true, false, false, false, false, false, false, false, false, false, false, false, false, false, false, false, false] rfl rfl (by kernel_rfl) (fun _ _ _ h => h) (Or.inl ⟨by rfl, ?_⟩) ?_ ?_
 rotate_left
 ·intro w'
  go_simp
  with_reducible rfl
 rotate_left
 ·simp only [Act.put, lA, lB, lC, aZ, bA]
  rfl
 refine bF (i := 16) (N := some 61) (v := ?_) (a' := ?_) #[true, true, true, true, true, true, true, true, true, true, true, true, true, true, true, true, true, false, false, false, false, false, false, false, false, false, false, false, false, false, false, false] rfl rfl (by kernel_rfl) (fun _ _ _ h => h) (Or.inl ⟨by rfl, ?_⟩) ?_ ?_
 rotate_left
 ·intro w'
  go_simp
  with_reducible rfl
 rotate_left
 ·simp only [Act.put, lA, lB, lC, aZ, bA]
  rfl
 refine take_ (i := 17) (N := some 62) (v := ?_) (a' := ?_) #[true, true, true, true, true, true, true, true, true, true, true, true, true, true, true, true, true, true, false, false, false, false, false, false, false, false, false, false, false, false, false, false] rfl rfl (by kernel_rfl) (fun _ _ _ h => h) (Or.inl ⟨by rfl, ?_⟩) hHeld ?_ ?_
 rotate_left
 ·rintro w' ⟨s0, s1, s2, s3, s4, s5, s6, s7, s8, s9, s10, s11, s12, s13, s14⟩
  go_simp
  with_reducible rfl
 rotate_left
 ·simp only [Act.put, lA, lB, lC, aZ, bA]
  rfl
 refine bF (i := 19) (N := some 64) (v := ?_) (a' := ?_) #[true, true, true, true, true, true, true, true, true, true, true, true, true, true, true, true, true, true, false, true, false, false, false, false, false, false, false, false, false, false, false, false] rfl rfl (by kernel_rfl) (fun _ _ _ h => h) (Or.inl ⟨by rfl, ?_⟩) ?_ ?_
 rotate_left
 ·intro w'
  go_simp
  with_reducible rfl
 rotate_left
 ·simp only [Act.put, lA, lB, lC, aZ, bA]
  rfl
 refine take_ (i := 20) (N := some 65) (v := ?_) (a' := ?_) #[true, true, true, true, true, true, true, true, true, true, true, true, true, true, true, true, true, true, false, true, true, false, false, false, false, false, false, false, false, false, false, false] rfl rfl (by kernel_rfl) (fun _ _ _ h => h) (Or.inl ⟨by rfl, ?_⟩) hHeld ?_ ?_
 rotate_left
 ·rintro w' ⟨s0, s1, s2, s3, s4, s5, s6, s7, s8, s9, s10, s11, s12, s13, s14⟩
  go_simp
  with_reducible rfl
 rotate_left
 ·simp only [Act.put, lA, lB, lC, aZ, bA]
  rfl
 refine one_ (i := 18) (N := some 63) #[true, true, true, true, true, true, true, true, true, true, true, true, true, true, true, true, true, true, true, true, true, false, false, false, false, false, false, false, false, false, false, false] rfl rfl (by kernel_rfl) (by decide) (fun K hK => ?_)
 refine goes_ Try.func53 (by kernel_rfl) rfl #[.slice A10_0 r6_1.length c10_0, .agg #[.int .i64 r6_2, .int .i64 r6_3, .int .i64 r6_4, .int .i64 r6_5, .int .i64 r6_6]] (by rfl) rfl rfl (by (try simp only [List.map_toArray, List.map_cons, List.map_nil]); first | done | rfl | (simp only [List.length_drop, List.length_take]; rfl)) ?_
 (with_reducible refine (impl_SetPut.calls k10 _ _ r6_1 r6_2 r6_3 r6_4 r6_5 r6_6 r10_0 _ ?s1 ?s2 A10.out).mono ?_)
 (case s1 => exact (Kd.F_now HF10_0.out))
 (case s2 => exact HC10_0.out)
 rintro e_ w17 ⟨v0_, rfl, ho0, hb⟩
 refine ⟨_, rfl, ?_⟩
 obtain ⟨lo17, hi17, el_, eh_, ol_, oh_⟩ := Mem.times HT.out hb
 (try rw [← el_] at ho0)
 obtain ⟨A17_0, c17_0, ev_, hc0_, hf0_, hs0_⟩ := Mem.new_R ho0 eh_
 subst ev_
 have n0_ := aA.mk (Kd.F_below HF10_0.out hb)
 have n1_ := aA.mk (Kd.R_below HS10_0.out hb)
 have n2_ := aA.mk (Kd.F_below HF13_0.out hb)
 have n3_ := aA.mk (Kd.R_below HS13_0.out hb)
 have n4_ := aA.mk (bB BK5.out hb)
 have n5_ := aA.mk (bB BK8.out hb)
 have n6_ := aA.mk (bB BK11.out hb)
 have n7_ := aA.mk (aV HB.out hb)
 have n8_ := aA.mk (hf0_)
 have n9_ := aA.mk (hc0_)
 have n10_ := aA.mk (hs0_)
 have n11_ := aA.mk (And.intro HORD.out (And.intro ol_ oh_))
 have n12_ := aA.mk (Nat.le_of_eq eh_)
 (try clear HF10_0)
 (try clear HS10_0)
 (try clear HF13_0)
 (try clear HS13_0)
 (try clear BK5)
 (try clear BK8)
 (try clear BK11)
 (try clear HB)
 (try clear HF17_0)
 (try clear HC17_0)
 (try clear HS17_0)
 (try clear HORD)
 (try clear HT)
 have HF10_0 := n0_
 have HS10_0 := n1_
 have HF13_0 := n2_
 have HS13_0 := n3_
 have BK5 := n4_
 have BK8 := n5_
 have BK11 := n6_
 have HB := n7_
 have HF17_0 := n8_
 have HC17_0 := n9_
 have HS17_0 := n10_
 have HORD := n11_
 have HT := n12_
 clear n0_ n1_ n2_ n3_ n4_ n5_ n6_ n7_ n8_ n9_ n10_ n11_ n12_
 clear ol_ oh_ el_ eh_ ho0 hf0_ hc0_ hs0_
 (try clear hb)
 refine hK.out _ _ ⟨(aC BK5.out 0).trans rfl, (aC BK5.out 1).trans rfl, (aC BK5.out 2).trans rfl, (aC BK5.out 3).trans rfl, (aC BK5.out 4).trans rfl, (aC BK8.out 0).trans rfl, (aC BK8.out 1).trans rfl, (aC BK8.out 2).trans rfl, (aC BK8.out 3).trans rfl, (aC BK8.out 4).trans rfl, (aC BK11.out 0).trans rfl, (aC BK11.out 1).trans rfl, (aC BK11.out 2).trans rfl, (aC BK11.out 3).trans rfl, (aC BK11.out 4).trans rfl⟩ (fun hHeld => ?_)
 clear hK K
 refine norm_ (a' := ?_) ?_ ?_
 rotate_left
 ·show Act.put _ (some 63) _ = _
  simp only [Act.put, lA, lB, lC, aZ, bA]
  rfl
 refine one_ (i := 21) (N := some 66) #[true, true, true, true, true, true, true, true, true, true, true, true, true, true, true, true, true, true, true, true, true, true, false, false, false, false, false, false, false, false, false, false] rfl rfl (by kernel_rfl) (by decide) (fun K hK => ?_)
 refine goes_ Try.func52 (by kernel_rfl) rfl #[.slice A10_0 r6_1.length c10_0, .agg #[.int .i64 r6_2, .int .i64 r6_3, .int .i64 r6_4, .int .i64 r6_5, .int .i64 r6_6]] (by rfl) rfl rfl (by (try simp only [List.map_toArray, List.map_cons, List.map_nil]); first | done | rfl | (simp only [List.length_drop, List.length_take]; rfl)) ?_
 (with_reducible refine (spec_SetPut.calls k11 _ _ r6_1 r6_2 r6_3 r6_4 r6_5 r6_6 r10_0 _ ?s1 ?s2 A11.out).mono ?_)
 (case s1 => exact (Kd.F_now HF10_0.out))
 (case s2 => exact HC10_0.out)
 rintro e_ w18 ⟨v0_, rfl, ho0, hb⟩
 refine ⟨_, rfl, ?_⟩
 obtain ⟨lo18, hi18, el_, eh_, ol_, oh_⟩ := Mem.times HT.out hb
 (try rw [← el_] at ho0)
 obtain ⟨A18_0, c18_0, ev_, hc0_, hf0_, hs0_⟩ := Mem.new_R ho0 eh_
 subst ev_
 have n0_ := aA.mk (Kd.F_below HF13_0.out hb)
 have n1_ := aA.mk (Kd.R_below HS13_0.out hb)
 have n2_ := aA.mk (Kd.F_below HF17_0.out hb)
 have n3_ := aA.mk (Kd.R_below HS17_0.out hb)
 have n4_ := aA.mk (bB BK5.out hb)
 have n5_ := aA.mk (bB BK8.out hb)
 have n6_ := aA.mk (bB BK11.out hb)
 have n7_ := aA.mk (aV HB.out hb)
 have n8_ := aA.mk (hf0_)
 have n9_ := aA.mk (hc0_)
 have n10_ := aA.mk (hs0_)
 have n11_ := aA.mk (And.intro HORD.out (And.intro ol_ oh_))
 have n12_ := aA.mk (Nat.le_of_eq eh_)
 (try clear HF10_0)
 (try clear HS10_0)
 (try clear HC10_0)
 (try clear HF13_0)
 (try clear HS13_0)
 (try clear HF17_0)
 (try clear HS17_0)
 (try clear BK5)
 (try clear BK8)
 (try clear BK11)
 (try clear HB)
 (try clear HF18_0)
 (try clear HC18_0)
 (try clear HS18_0)
 (try clear HORD)
 (try clear HT)
 have HF13_0 := n0_
 have HS13_0 := n1_
 have HF17_0 := n2_
 have HS17_0 := n3_
 have BK5 := n4_
 have BK8 := n5_
 have BK11 := n6_
 have HB := n7_
 have HF18_0 := n8_
 have HC18_0 := n9_
 have HS18_0 := n10_
 have HORD := n11_
 have HT := n12_
 clear n0_ n1_ n2_ n3_ n4_ n5_ n6_ n7_ n8_ n9_ n10_ n11_ n12_
 clear ol_ oh_ el_ eh_ ho0 hf0_ hc0_ hs0_
 (try clear hb)
 refine hK.out _ _ ⟨(aC BK5.out 0).trans rfl, (aC BK5.out 1).trans rfl, (aC BK5.out 2).trans rfl, (aC BK5.out 3).trans rfl, (aC BK5.out 4).trans rfl, (aC BK8.out 0).trans rfl, (aC BK8.out 1).trans rfl, (aC BK8.out 2).trans rfl, (aC BK8.out 3).trans rfl, (aC BK8.out 4).trans rfl, (aC BK11.out 0).trans rfl, (aC BK11.out 1).trans rfl, (aC BK11.out 2).trans rfl, (aC BK11.out 3).trans rfl, (aC BK11.out 4).trans rfl⟩ (fun hHeld => ?_)
 clear hK K
 refine norm_ (a' := ?_) ?_ ?_
 rotate_left
 ·show Act.put _ (some 66) _ = _
  simp only [Act.put, lA, lB, lC, aZ, bA]
  rfl
 refine one_ (i := 22) (N := some 67) #[true, true, true, true, true, true, true, true, true, true, true, true, true, true, true, true, true, true, true, true, true, true, true, false, false, false, false, false, false, false, false, false] rfl rfl (by kernel_rfl) (by decide) (fun K hK => ?_)
 refine goes_ Try.func61 (by kernel_rfl) rfl #[.slice A17_0 r10_0.length c17_0, .slice A18_0 r10_0.length c18_0] (by rfl) rfl rfl (by (try simp only [List.map_toArray, List.map_cons, List.map_nil]); first | done | rfl | (simp only [List.length_drop, List.length_take]; rfl)) ?_
 (with_reducible refine (laws_sameKeys.calls k12 _ _ r10_0 _ _ r10_0 true _ ?s1 ?s2 ?s3 ?s4 A12.out).mono ?_)
 (case s1 => exact (Kd.F_now HF17_0.out))
 (case s2 => exact HC17_0.out)
 (case s3 => exact (Kd.F_now HF18_0.out))
 (case s4 => exact HC18_0.out)
 rintro e_ w19 ⟨rfl, hd⟩
 refine ⟨_, rfl, ?_⟩
 have hb := hd.below
 clear hd
 have n0_ := aA.mk (Kd.F_below HF13_0.out hb)
 have n1_ := aA.mk (Kd.R_below HS13_0.out hb)
 have n2_ := aA.mk (bB BK5.out hb)
 have n3_ := aA.mk (bB BK8.out hb)
 have n4_ := aA.mk (bB BK11.out hb)
 have n5_ := aA.mk (aV HB.out hb)
 have n6_ := aA.mk (Nat.le_trans HT.out hb.size)
 (try clear HF17_0)
 (try clear HS17_0)
 (try clear HC17_0)
 (try clear HF18_0)
 (try clear HS18_0)
 (try clear HC18_0)
 (try clear HF13_0)
 (try clear HS13_0)
 (try clear BK5)
 (try clear BK8)
 (try clear BK11)
 (try clear HB)
 (try clear HT)
 have HF13_0 := n0_
 have HS13_0 := n1_
 have BK5 := n2_
 have BK8 := n3_
 have BK11 := n4_
 have HB := n5_
 have HT := n6_
 clear n0_ n1_ n2_ n3_ n4_ n5_ n6_
 (try clear hb)
 refine hK.out _ _ ⟨(aC BK5.out 0).trans rfl, (aC BK5.out 1).trans rfl, (aC BK5.out 2).trans rfl, (aC BK5.out 3).trans rfl, (aC BK5.out 4).trans rfl, (aC BK8.out 0).trans rfl, (aC BK8.out 1).trans rfl, (aC BK8.out 2).trans rfl, (aC BK8.out 3).trans rfl, (aC BK8.out 4).trans rfl, (aC BK11.out 0).trans rfl, (aC BK11.out 1).trans rfl, (aC BK11.out 2).trans rfl, (aC BK11.out 3).trans rfl, (aC BK11.out 4).trans rfl⟩ (fun hHeld => ?_)
 clear hK K
 refine norm_ (a' := ?_) ?_ ?_
 rotate_left
 ·show Act.put _ (some 67) _ = _
  simp only [Act.put, lA, lB, lC, aZ, bA]
  rfl
 refine bF (i := 23) (N := some 68) (v := ?_) (a' := ?_) #[true, true, true, true, true, true, true, true, true, true, true, true, true, true, true, true, true, true, true, true, true, true, true, true, false, false, false, false, false, false, false, false] rfl rfl (by kernel_rfl) (fun _ _ _ h => h) (Or.inl ⟨by rfl, ?_⟩) ?_ ?_
 rotate_left
 ·intro w'
  go_simp
  with_reducible rfl
 rotate_left
 ·simp only [Act.put, lA, lB, lC, aZ, bA]
  rfl
 refine bF (i := 24) (N := some 69) (v := ?_) (a' := ?_) #[true, true, true, true, true, true, true, true, true, true, true, true, true, true, true, true, true, true, true, true, true, true, true, true, true, false, false, false, false, false, false, false] rfl rfl (by kernel_rfl) (fun _ _ _ h => h) (Or.inl ⟨by rfl, ?_⟩) ?_ ?_
 rotate_left
 ·intro w'
  go_simp
  with_reducible rfl
 rotate_left
 ·simp only [Act.put, lA, lB, lC, aZ, bA]
  rfl
 refine bF (i := 25) (N := some 70) (v := ?_) (a' := ?_) #[true, true, true, true, true, true, true, true, true, true, true, true, true, true, true, true, true, true, true, true, true, true, true, true, true, true, false, false, false, false, false, false] rfl rfl (by kernel_rfl) (fun _ _ _ h => h) (Or.inl ⟨by rfl, ?_⟩) ?_ ?_
 rotate_left
 ·intro w'
  go_simp
  with_reducible rfl
 rotate_left
 ·simp only [Act.put, lA, lB, lC, aZ, bA]
  rfl
 refine bF (i := 27) (N := some 72) (v := ?_) (a' := ?_) #[true, true, true, true, true, true, true, true, true, true, true, true, true, true, true, true, true, true, true, true, true, true, true, true, true, true, false, true, false, false, false, false] rfl rfl (by kernel_rfl) (fun _ _ _ h => h) (Or.inl ⟨by rfl, ?_⟩) ?_ ?_
 rotate_left
 ·intro w'
  go_simp
  with_reducible rfl
 rotate_left
 ·simp only [Act.put, lA, lB, lC, aZ, bA]
  rfl
 refine one_ (i := 26) (N := some 71) #[true, true, true, true, true, true, true, true, true, true, true, true, true, true, true, true, true, true, true, true, true, true, true, true, true, true, true, true, false, false, false, false] rfl rfl (by kernel_rfl) (by decide) (fun K hK => ?_)
 refine goes_ Try.func49 (by kernel_rfl) rfl #[.slice A13_0 r7_0.length c13_0] (by rfl) rfl rfl (by (try simp only [List.map_toArray, List.map_cons, List.map_nil]); first | done | rfl | (simp only [List.length_drop, List.length_take]; rfl)) ?_
 (with_reducible refine (impl_Drop.calls k13 _ _ r7_0 r13_0 _ ?s1 ?s2 A13.out).mono ?_)
 (case s1 => exact (Kd.F_now HF13_0.out))
 (case s2 => exact HC13_0.out)
 rintro e_ w20 ⟨v0_, rfl, ho0, hb⟩
 refine ⟨_, rfl, ?_⟩
 obtain ⟨lo20, hi20, el_, eh_, ol_, oh_⟩ := Mem.times HT.out hb
 (try rw [← el_] at ho0)
 obtain ⟨A20_0, c20_0, ev_, hc0_, hf0_, hs0_⟩ := Mem.new_R ho0 eh_
 subst ev_
 have n0_ := aA.mk (Kd.F_below HF13_0.out hb)
 have n1_ := aA.mk (Kd.R_below HS13_0.out hb)
 have n2_ := aA.mk (bB BK5.out hb)
 have n3_ := aA.mk (bB BK8.out hb)
 have n4_ := aA.mk (bB BK11.out hb)
 have n5_ := aA.mk (aV HB.out hb)
 have n6_ := aA.mk (hf0_)
 have n7_ := aA.mk (hc0_)
 have n8_ := aA.mk (hs0_)
 have n9_ := aA.mk (And.intro HORD.out (And.intro ol_ oh_))
 have n10_ := aA.mk (Nat.le_of_eq eh_)
 (try clear HF13_0)
 (try clear HS13_0)
 (try clear BK5)
 (try clear BK8)
 (try clear BK11)
 (try clear HB)
 (try clear HF20_0)
 (try clear HC20_0)
 (try clear HS20_0)
 (try clear HORD)
 (try clear HT)
 have HF13_0 := n0_
 have HS13_0 := n1_
 have BK5 := n2_
 have BK8 := n3_
 have BK11 := n4_
 have HB := n5_
 have HF20_0 := n6_
 have HC20_0 := n7_
 have HS20_0 := n8_
 have HORD := n9_
 have HT := n10_
 clear n0_ n1_ n2_ n3_ n4_ n5_ n6_ n7_ n8_ n9_ n10_
 clear ol_ oh_ el_ eh_ ho0 hf0_ hc0_ hs0_
 (try clear hb)
 refine hK.out _ _ ⟨(aC BK5.out 0).trans rfl, (aC BK5.out 1).trans rfl, (aC BK5.out 2).trans rfl, (aC BK5.out 3).trans rfl, (aC BK5.out 4).trans rfl, (aC BK8.out 0).trans rfl, (aC BK8.out 1).trans rfl, (aC BK8.out 2).trans rfl, (aC BK8.out 3).trans rfl, (aC BK8.out 4).trans rfl, (aC BK11.out 0).trans rfl, (aC BK11.out 1).trans rfl, (aC BK11.out 2).trans rfl, (aC BK11.out 3).trans rfl, (aC BK11.out 4).trans rfl⟩ (fun hHeld => ?_)
 clear hK K
 refine norm_ (a' := ?_) ?_ ?_
 rotate_left
 ·show Act.put _ (some 71) _ = _
  simp only [Act.put, lA, lB, lC, aZ, bA]
  rfl
 refine one_ (i := 28) (N := some 73) #[true, true, true, true, true, true, true, true, true, true, true, true, true, true, true, true, true, true, true, true, true, true, true, true, true, true, true, true, true, false, false, false] rfl rfl (by kernel_rfl) (by decide) (fun K hK => ?_)
 refine goes_ Try.func48 (by kernel_rfl) rfl #[.slice A13_0 r7_0.length c13_0] (by rfl) rfl rfl (by (try simp only [List.map_toArray, List.map_cons, List.map_nil]); first | done | rfl | (simp only [List.length_drop, List.length_take]; rfl)) ?_
 (with_reducible refine (spec_Drop.calls k14 _ _ r7_0 r13_0 _ ?s1 ?s2 A14.out).mono ?_)
 (case s1 => exact (Kd.F_now HF13_0.out))
 (case s2 => exact HC13_0.out)
 rintro e_ w21 ⟨v0_, rfl, ho0, hb⟩
 refine ⟨_, rfl, ?_⟩
 obtain ⟨lo21, hi21, el_, eh_, ol_, oh_⟩ := Mem.times HT.out hb
 (try rw [← el_] at ho0)
 obtain ⟨A21_0, c21_0, ev_, hc0_, hf0_, hs0_⟩ := Mem.new_R ho0 eh_
 subst ev_
 have n0_ := aA.mk (Kd.F_below HF20_0.out hb)
 have n1_ := aA.mk (Kd.R_below HS20_0.out hb)
 have n2_ := aA.mk (bB BK5.out hb)
 have n3_ := aA.mk (bB BK8.out hb)
 have n4_ := aA.mk (bB BK11.out hb)
 have n5_ := aA.mk (aV HB.out hb)
 have n6_ := aA.mk (hf0_)
 have n7_ := aA.mk (hc0_)
 have n8_ := aA.mk (hs0_)
 have n9_ := aA.mk (And.intro HORD.out (And.intro ol_ oh_))
 have n10_ := aA.mk (Nat.le_of_eq eh_)
 (try clear HF13_0)
 (try clear HS13_0)
 (try clear HC13_0)
 (try clear HF20_0)
 (try clear HS20_0)
 (try clear BK5)
 (try clear BK8)
 (try clear BK11)
 (try clear HB)
 (try clear HF21_0)
 (try clear HC21_0)
 (try clear HS21_0)
 (try clear HORD)
 (try clear HT)
 have HF20_0 := n0_
 have HS20_0 := n1_
 have BK5 := n2_
 have BK8 := n3_
 have BK11 := n4_
 have HB := n5_
 have HF21_0 := n6_
 have HC21_0 := n7_
 have HS21_0 := n8_
 have HORD := n9_
 have HT := n10_
 clear n0_ n1_ n2_ n3_ n4_ n5_ n6_ n7_ n8_ n9_ n10_
 clear ol_ oh_ el_ eh_ ho0 hf0_ hc0_ hs0_
 (try clear hb)
 refine hK.out _ _ ⟨(aC BK5.out 0).trans rfl, (aC BK5.out 1).trans rfl, (aC BK5.out 2).trans rfl, (aC BK5.out 3).trans rfl, (aC BK5.out 4).trans rfl, (aC BK8.out 0).trans rfl, (aC BK8.out 1).trans rfl, (aC BK8.out 2).trans rfl, (aC BK8.out 3).trans rfl, (aC BK8.out 4).trans rfl, (aC BK11.out 0).trans rfl, (aC BK11.out 1).trans rfl, (aC BK11.out 2).trans rfl, (aC BK11.out 3).trans rfl, (aC BK11.out 4).trans rfl⟩ (fun hHeld => ?_)
 clear hK K
 refine norm_ (a' := ?_) ?_ ?_
 rotate_left
 ·show Act.put _ (some 73) _ = _
  simp only [Act.put, lA, lB, lC, aZ, bA]
  rfl
 refine one_ (i := 29) (N := some 74) #[true, true, true, true, true, true, true, true, true, true, true, true, true, true, true, true, true, true, true, true, true, true, true, true, true, true, true, true, true, true, false, false] rfl rfl (by kernel_rfl) (by decide) (fun K hK => ?_)
 refine goes_ Try.func61 (by kernel_rfl) rfl #[.slice A20_0 r13_0.length c20_0, .slice A21_0 r13_0.length c21_0] (by rfl) rfl rfl (by (try simp only [List.map_toArray, List.map_cons, List.map_nil]); first | done | rfl | (simp only [List.length_drop, List.length_take]; rfl)) ?_
 (with_reducible refine (laws_sameKeys.calls k15 _ _ r13_0 _ _ r13_0 true _ ?s1 ?s2 ?s3 ?s4 A15.out).mono ?_)
 (case s1 => exact (Kd.F_now HF20_0.out))
 (case s2 => exact HC20_0.out)
 (case s3 => exact (Kd.F_now HF21_0.out))
 (case s4 => exact HC21_0.out)
 rintro e_ w22 ⟨rfl, hd⟩
 refine ⟨_, rfl, ?_⟩
 have hb := hd.below
 clear hd
 have n0_ := aA.mk (bB BK5.out hb)
 have n1_ := aA.mk (bB BK8.out hb)
 have n2_ := aA.mk (bB BK11.out hb)
 have n3_ := aA.mk (aV HB.out hb)
 have n4_ := aA.mk (Nat.le_trans HT.out hb.size)
 (try clear HF20_0)
 (try clear HS20_0)
 (try clear HC20_0)
 (try clear HF21_0)
 (try clear HS21_0)
 (try clear HC21_0)
 (try clear BK5)
 (try clear BK8)
 (try clear BK11)
 (try clear HB)
 (try clear HT)
 have BK5 := n0_
 have BK8 := n1_
 have BK11 := n2_
 have HB := n3_
 have HT := n4_
 clear n0_ n1_ n2_ n3_ n4_
 (try clear hb)
 refine hK.out _ _ ⟨(aC BK5.out 0).trans rfl, (aC BK5.out 1).trans rfl, (aC BK5.out 2).trans rfl, (aC BK5.out 3).trans rfl, (aC BK5.out 4).trans rfl, (aC BK8.out 0).trans rfl, (aC BK8.out 1).trans rfl, (aC BK8.out 2).trans rfl, (aC BK8.out 3).trans rfl, (aC BK8.out 4).trans rfl, (aC BK11.out 0).trans rfl, (aC BK11.out 1).trans rfl, (aC BK11.out 2).trans rfl, (aC BK11.out 3).trans rfl, (aC BK11.out 4).trans rfl⟩ (fun hHeld => ?_)
 clear hK K
 refine norm_ (a' := ?_) ?_ ?_
 rotate_left
 ·show Act.put _ (some 74) _ = _
  simp only [Act.put, lA, lB, lC, aZ, bA]
  rfl
 refine bF (i := 30) (N := some 75) (v := ?_) (a' := ?_) #[true, true, true, true, true, true, true, true, true, true, true, true, true, true, true, true, true, true, true, true, true, true, true, true, true, true, true, true, true, true, true, false] rfl rfl (by kernel_rfl) (fun _ _ _ h => h) (Or.inl ⟨by rfl, ?_⟩) ?_ ?_
 rotate_left
 ·intro w'
  go_simp
  with_reducible rfl
 rotate_left
 ·simp only [Act.put, lA, lB, lC, aZ, bA]
  rfl
 refine bF (i := 31) (N := some 2) (v := ?_) (a' := ?_) #[true, true, true, true, true, true, true, true, true, true, true, true, true, true, true, true, true, true, true, true, true, true, true, true, true, true, true, true, true, true, true, true] rfl rfl (by kernel_rfl) (fun _ _ _ h => h) (Or.inl ⟨by rfl, ?_⟩) ?_ ?_
 rotate_left
 ·intro w'
  go_simp
  with_reducible rfl
 rotate_left
 ·simp only [Act.put, lA, lB, lC, aZ, bA]
  rfl
 refine done_ (by kernel_rfl) ?_
 have hzgb5_0_22 : w22.cell? ⟨gb5, 0, none⟩ = some (.int .i64 r4_1) := (aC BK5.out 0).trans rfl
 have hygb5_0_22 := aD BK5.out 0
 have hzgb5_1_22 : w22.cell? ⟨gb5, 1, none⟩ = some (.int .i64 r4_2) := (aC BK5.out 1).trans rfl
 have hygb5_1_22 := aD BK5.out 1
 have hzgb5_2_22 : w22.cell? ⟨gb5, 2, none⟩ = some (.int .i64 r4_3) := (aC BK5.out 2).trans rfl
 have hygb5_2_22 := aD BK5.out 2
 have hzgb5_3_22 : w22.cell? ⟨gb5, 3, none⟩ = some (.int .i64 r4_4) := (aC BK5.out 3).trans rfl
 have hygb5_3_22 := aD BK5.out 3
 have hzgb5_4_22 : w22.cell? ⟨gb5, 4, none⟩ = some (.int .i64 r4_5) := (aC BK5.out 4).trans rfl
 have hygb5_4_22 := aD BK5.out 4
 have hzgb8_0_22 : w22.cell? ⟨gb8, 0, none⟩ = some (.int .i64 r4_1) := (aC BK8.out 0).trans rfl
 have hygb8_0_22 := aD BK8.out 0
 have hzgb8_1_22 : w22.cell? ⟨gb8, 1, none⟩ = some (.int .i64 r4_2) := (aC BK8.out 1).trans rfl
 have hygb8_1_22 := aD BK8.out 1
 have hzgb8_2_22 : w22.cell? ⟨gb8, 2, none⟩ = some (.int .i64 r4_3) := (aC BK8.out 2).trans rfl
 have hygb8_2_22 := aD BK8.out 2
 have hzgb8_3_22 : w22.cell? ⟨gb8, 3, none⟩ = some (.int .i64 r4_4) := (aC BK8.out 3).trans rfl
 have hygb8_3_22 := aD BK8.out 3
 have hzgb8_4_22 : w22.cell? ⟨gb8, 4, none⟩ = some (.int .i64 r4_5) := (aC BK8.out 4).trans rfl
 have hygb8_4_22 := aD BK8.out 4
 have hzgb11_0_22 : w22.cell? ⟨gb11, 0, none⟩ = some (.int .i64 r6_2) := (aC BK11.out 0).trans rfl
 have hygb11_0_22 := aD BK11.out 0
 have hzgb11_1_22 : w22.cell? ⟨gb11, 1, none⟩ = some (.int .i64 r6_3) := (aC BK11.out 1).trans rfl
 have hygb11_1_22 := aD BK11.out 1
 have hzgb11_2_22 : w22.cell? ⟨gb11, 2, none⟩ = some (.int .i64 r6_4) := (aC BK11.out 2).trans rfl
 have hygb11_2_22 := aD BK11.out 2
 have hzgb11_3_22 : w22.cell? ⟨gb11, 3, none⟩ = some (.int .i64 r6_5) := (aC BK11.out 3).trans rfl
 have hygb11_3_22 := aD BK11.out 3
 have hzgb11_4_22 : w22.cell? ⟨gb11, 4, none⟩ = some (.int .i64 r6_6) := (aC BK11.out 4).trans rfl
 have hygb11_4_22 := aD BK11.out 4
 try go_wp2
 have hres_ := @results_tmp Try.f13 2 (by kernel_rfl)
 refine bodyPost_ret (fn := Try.f13) (P := Try.prog) (hres_ _ _ _) rfl ?_
 exact ⟨rfl, HB.out⟩
set_option maxHeartbeats 2000000 in
theorem laws_FnSetsBent.calls (A0 : Option Addr) (c0 : Nat) (l0 : List (Int)) (w : World) (hr0 : Kd.C (Kd.int .u8) w A0 l0.length l0) (hc0 : l0.length ≤ c0) (h0 : l0.length ≤ 9223372036854775807 ∧ ∀ x ∈ l0, (Lit.int .u8 x).wf = true) :
  Calls Try.prog 13 #[.slice A0 l0.length c0] w fun e w' => e = .returned (.bool true) ∧ Below w.heap.size w w' := by
 have hb : bytesIn l0 := fun x hx => wf_u8 (h0.2 x hx)
 by_cases c : (l0.length : Int) > 1048576
 ·exact walkFnSetsBentbig _ _ _ w hr0 hc0 (by simp only [laws_big.f, decide_eq_true c])
 have hl : l0.length ≤ 1048576 := by omega
 have A1 : laws_big.f l0 = some false := by simp only [laws_big.f, decide_eq_false c]
 obtain ⟨x, hx, e2⟩ := DrawSetOk_ex l0 hb hl
 obtain ⟨_, A2⟩ := evGet e2
 obtain ⟨⟨y, ya, yb⟩, hy, e3⟩ := DrawSetAt_ex l0 hb hl
 obtain ⟨_, A3⟩ := evGet e3
 obtain ⟨⟨z, z0, z1, z2, z3, z4⟩, hz, e6⟩ := DrawSetPut_ex l0 hb hl
 obtain ⟨_, A6⟩ := evGet e6
 obtain ⟨v, hv, e7⟩ := DrawDrop_ex l0 hb hl
 obtain ⟨_, A7⟩ := evGet e7
 simp only at hy hz
 obtain ⟨_, A4⟩ := evGet (impl_SetAt_ev y ya yb (by omega))
 obtain ⟨_, A5⟩ := evGet (spec_SetAt_ev y ya yb (by omega))
 obtain ⟨_, A8⟩ := evGet (impl_SetOk_ev x (by omega))
 obtain ⟨_, A9⟩ := evGet (spec_SetOk_ev x (by omega))
 obtain ⟨_, A10⟩ := evGet (impl_SetPut_ev z ⟨z0, z1, z2, z3, z4⟩ (by omega))
 obtain ⟨_, A11⟩ := evGet (spec_SetPut_ev z ⟨z0, z1, z2, z3, z4⟩ (by omega))
 have hp := setPut_length z ⟨z0, z1, z2, z3, z4⟩
 obtain ⟨_, A12⟩ := evGet (sameKeys_ev (setPut z ⟨z0, z1, z2, z3, z4⟩) (by omega))
 obtain ⟨_, A13⟩ := evGet (impl_Drop_ev v (by omega))
 obtain ⟨_, A14⟩ := evGet (spec_Drop_ev v (by omega))
 have hd : (dropNone v).length ≤ v.length := List.length_filter_le _ _
 obtain ⟨_, A15⟩ := evGet (sameKeys_ev (dropNone v) (by omega))
 generalize at6 (setAt y ya yb) = q at A4 A5
 obtain ⟨p0, p1, p2, p3, p4, p5⟩ := q
 exact walkFnSetsBent _ _ _ _ _ _ _ _ _ _ _ _ _ _ _ _ _ _ _ _ _ _ _ _ _ _ _ _ _ _ _ _ _ _ _ _ _ w hr0 hc0 A1 A2 A3 A4 A5 A6 A7 A8 A9 A10 A11 A12 A13 A14 A15
end Go.Proofs.Ytkaoiaolbhklnaa.Law

namespace Go.Proofs.Ytkaoiaolbhklnaa.Op
open Go.RowKit Go.ChangeShapes Go.WideShapes Go.Proofs.YtkaoiaolbhklnaaW.PrintWords
def Opens {α : Type} (P : Program) (t : TypeId) (d : Kd α) (g : α → Prop) : Prop :=
 ∀ {H : Type} {enc : TypeId × Value → H} {w : World} {base : Nat} {spare : Nat → Bool} {held : Bool} {fuel : Nat} {cs : List Value} {x : DataW H × List MemPlace},
  DataW.trod enc P w base spare held fuel t cs = some x → ∃ a, d.K w a cs ∧ g a
theorem opens_int {P : Program} {t : TypeId} {k : IntKind} (ht : P.underlying t = some (.int k)) : Opens P t (Kd.int k) (fun n => (Lit.int k n).wf = true) := by
 intro H enc w base spare held fuel cs x h
 obtain ⟨n, rfl, _, hw⟩ := DataW.trod_int ht h
 exact ⟨n, rfl, hw⟩
theorem opens_slice {α : Type} {P : Program} {t e : TypeId} {d : Kd α} {g : α → Prop} (q : Nat) (ht : P.underlying t = some (.slice e)) (hd : Opens P e d g) (hc : P.cellsOf e = d.sz) :
  Opens P t (Kd.slice q d) (fun xs => xs.length ≤ 9223372036854775807 ∧ ∀ x ∈ xs, g x) := by
 intro H enc w base spare held fuel cs x h
 rcases DataW.trod_slice ht h with ⟨rfl, _⟩ | ⟨a, len, cap, elems, rest, n, _, rfl, _, _, hl, hm, hlen, hel, _, _⟩
 ·exact ⟨[], ⟨none, 0, rfl, Nat.le_refl _, rfl, Nat.zero_le _, fun h => by cases h⟩, by simp, by simp⟩
 ·have each : ∀ i : Fin len, ∃ y : α, g y ∧ ∃ c : List Value, c.length = d.sz ∧ d.K w y c ∧ ∀ j u, c[j]? = some u → w.cell? (a.add (i.val * d.sz + j)) = some u := by
   intro i
   have h1 := hel i.val i.isLt
   rw [List.getElem?_eq_getElem (by omega), Option.bind_eq_some_iff] at h1
   obtain ⟨c, hcs, hy⟩ := h1
   obtain ⟨_, hcl, hcell⟩ := World.cells?_some hcs
   obtain ⟨y, hK, hg⟩ := hd hy
   refine ⟨y, hg, c, by rw [hcl, hc], hK, fun j u hu => ?_⟩
   have hj : j < c.length := (List.getElem?_eq_some_iff.1 hu).1
   have h2 := hcell j (by omega)
   rw [hu] at h2
   rw [← h2, hc]
   congr 1
   exact (Addr.add_add a _ _).symm
  obtain ⟨f, hf⟩ := Classical.axiomOfChoice each
  refine ⟨List.ofFn f, ⟨some a, cap, by rw [List.length_ofFn], by rw [List.length_ofFn]; exact hl, by rw [List.length_ofFn], by rw [List.length_ofFn]; unfold maxLen at hm; omega, fun _ => ⟨a, rfl, fun j p hp => ?_⟩⟩, by rw [List.length_ofFn]; unfold maxLen at hm; omega, fun x hx => ?_⟩
  ·rw [List.getElem?_ofFn] at hp
   split at hp
   ·rename_i hj
    obtain rfl := Option.some.inj hp
    obtain ⟨_, c, h1, h2, h3⟩ := hf ⟨j, hj⟩
    exact ⟨c, h1, h2, h3⟩
   ·cases hp
  ·obtain ⟨i, rfl⟩ := List.mem_ofFn.1 hx
   exact (hf i).1
/-- The fields from one offset on. -/
def OpensL {α : Type} (P : Program) (fs : List Field) (off : Nat) (d : Kd α) (g : α → Prop) : Prop :=
 ∀ {H : Type} {enc : TypeId × Value → H} {w : World} {base : Nat} {spare : Nat → Bool} {held : Bool} {fuel : Nat} {cs : List Value},
  (∀ f ∈ fs, ∃ x, DataW.trod enc P w base spare held fuel f.type ((cs.drop f.offset).take (P.cellsOf f.type)) = some x) → ∃ a, d.K w a ((cs.drop off).take d.sz) ∧ g a
end Go.Proofs.Ytkaoiaolbhklnaa.Op

namespace Go.Proofs.Ytkaoiaolbhklnaa.rowFnSetsBent
open Go.ChangeShapes Go.WideShapes Go.ChangeAt Go.RowKit
open Go.ChangeMaps (open_string shut_string)
open Go.Proofs.YtkaoiaolbhklnaaW.PrintWords Go.Proofs.Ytkaoiaolbhklnaa.Op Go.Proofs.Ytkaoiaolbhklnaa.PFnSetsBent Go.Proofs.Ytkaoiaolbhklnaa.Law
set_option linter.unusedVariables false
set_option linter.unusedSimpArgs false
theorem own : ownKnob Try.prog.godebug = none := by kernel_rfl
theorem laidOut : laidOutB Try.prog = true := by kernel_rfl
set_option maxRecDepth 100000 in
theorem lifted (os : Os) (started : os.Started) (H : Type) (enc : TypeId × Value → H) :
  ReturnsInHanded {} Try.checked os 13 .any (Rows.fnSetsBentSpec.pre6 enc Try.prog Try.f13 Rows.fnSetsBentRow.domain false) (Rows.fnSetsBentSpec.post enc Try.prog Try.f13 false true false false) := by
 refine returnsInHanded_of_change_sized (C := Try.checked) own started (by kernel_rfl) Try.func13
  (ChangeSpec.witness6 (enc := enc) (C := Try.checked) false ⟨#[], #[.slice none 0 0], []⟩ 8 (by kernel_rfl) (by kernel_rfl) (by kernel_rfl) (by kernel_rfl)) ?_
 intro W base args ds gs before hval0 hW hcnd hsz0 _
 have hval : ∀ (j : Nat) t v, Try.f13.params[j]? = some t → args[j]? = some v → Value.okWide Try.prog W .any base t v := hval0
 have hW' := hW
 obtain ⟨p, q, hA0, hV, rfl, hfz, hnd⟩ := hW
 have hA : DataW.TrodAll enc Try.prog W 0 (fun _ => true) true Try.f13.params.toList args.toList ds p := hA0
 rw [Try.params13] at hA hval
 obtain ⟨v0, vs0, d0, ds0, p0, q0, hargs, rfl, rfl, h0, r0⟩ := trodAll_cons hA
 obtain ⟨rfl, rfl, rfl⟩ := trodAll_nil r0
 obtain rfl : args = #[v0] := by cases args; simp_all
 obtain ⟨rfl, rfl⟩ := trodVars_none hV
 have k0 := h0
 have lt0 : ∀ x ∈ p0, x.block < W.heap.size := by obtain ⟨m, hm⟩ := k0; exact DataW.trod_lt m _ _ _ hm
 obtain ⟨fuel0, hf0⟩ := h0
 obtain ⟨b0, len0, cap0, rfl⟩ := okWide_slice Try.underlying22 (hval 0 22 v0 rfl rfl)
 obtain ⟨l0, ⟨A0, c0, e0, hc0, hC0⟩, g0⟩ := (opens_slice 5 Try.underlying22 (opens_int Try.underlying5) (by kernel_rfl)) hf0
 simp only [Value.cells, List.cons.injEq, Value.slice.injEq, and_true] at e0
 obtain ⟨rfl, rfl, rfl⟩ := e0
 clear hA0 hval0 hsz0
 refine (laws_FnSetsBent.calls _ _ _ W hC0 hc0 g0).mono fun e W' ⟨he, bel0⟩ => ?_
 have bel : Below W.heap.size W W' := by first | exact bel0 | exact bel0.below
 subst he
 exact ⟨_, rfl, _, _, _, [], _, [], hW', trodAll_mk1 (shut_bool Try.underlying4 _), (trodAll_cons_mk (Below.trod laidOut (by kernel_rfl) (lE (by kernel_rfl)) k0 bel lt0) trodAll_mk0), rfl, bel.frame _, fun h => by cases h⟩
theorem over : Rows.fnSetsBentRow.holds Try.pinned (OpenSpec.ofChange Rows.fnSetsBentSpec) :=
 OpenClaim.holds_of_wide 13 Try.f13 rfl rfl rfl rfl rfl rfl rfl ⟨rfl, rfl, rfl, rfl, rfl⟩ rfl rfl rfl rfl rfl (by kernel_rfl) Try.func13 (by kernel_rfl)
  (lE (by kernel_rfl)) (by unfold Func.isWrapper; first | (rw [if_pos (by decide +kernel)]; kernel_rfl) | (rw [if_neg (by decide +kernel)]; exact ⟨rfl, rfl⟩))
  (fun os started H enc _ => lifted os started H enc)
theorem proved : Rows.FnSetsBentSaid := over
#print axioms proved
end Go.Proofs.Ytkaoiaolbhklnaa.rowFnSetsBent
namespace Go.Proofs.Ytkaoiaolbhklnaa
theorem fnSetsBent_holds : Rows.FnSetsBentSaid := rowFnSetsBent.proved
end Go.Proofs.Ytkaoiaolbhklnaa
