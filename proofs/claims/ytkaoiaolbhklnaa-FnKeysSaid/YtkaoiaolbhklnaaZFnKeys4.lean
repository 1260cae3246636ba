/- The law: the functions that it reaches, each with the proof that the machine's call comes to its answer, what they answer, and the law's row; each theorem says its conditions itself. -/
import Derived.Test.YtkaoiaolbhklnaaZFnKeys3
namespace Go.Proofs.Ytkaoiaolbhklnaa.PFnKeys
open Go.RowKit Go.Proofs.YtkaoiaolbhklnaaW.PrintWords Go.Proofs.YtkaoiaolbhklnaaW.PrintLast Go.Proofs.YtkaoiaolbhklnaaW.PrintMore
attribute [local go_sem] max2_int min2_int max_two min_two max_three min_three max_four min_four   -- for this text's walks alone
set_option linter.unusedVariables false
set_option linter.unusedSimpArgs false
attribute [local go_sem high] eqA27
set_option maxHeartbeats 8000000 in
set_option maxRecDepth 100000 in
theorem laws_FnKeys.calls (k : Nat) (A0 : Option Addr) (c0 : Nat) (l0 : List Int) (r : Bool) (w : World) (hr0 : Kd.C (Kd.int .u8) w A0 l0.length l0) (hc0 : l0.length ≤ c0) (h : laws_FnKeys.f k l0 = some r) :
  Calls Try.prog 5 #[.slice A0 l0.length c0] w fun e w' => e = .returned (.bool r) ∧ Below w.heap.size w w' := by
 have hu27 := Try.underlying27
 have HR0 := aK.mk hr0
 have HC0 := aK.mk hc0
 clear hr0 hc0
 have HB := aK.mk (Below.refl w.heap.size w)
 have H : ((laws_big.f l0).bind fun t413 => (if t413 = true then (some true) else ((spec_DrawPutKey.f k l0).bind fun bt414 => ((impl_PutKey.f k bt414.1 bt414.2.1 bt414.2.2.1 bt414.2.2.2.1 bt414.2.2.2.2.1 bt414.2.2.2.2.2).bind fun t423 => ((spec_DrawGetKey.f k l0).bind fun bt426 => ((impl_GetKey.f k bt426.1 bt426.2).bind fun bt430 => ((spec_GetKey.f k bt426.1 bt426.2).bind fun bt438 => ((spec_DrawLessKey.f k l0).bind fun bt446 => ((impl_LessKey.f bt446.1 bt446.2.1 bt446.2.2.1 bt446.2.2.2.1 bt446.2.2.2.2.1 bt446.2.2.2.2.2.1 bt446.2.2.2.2.2.2.1 bt446.2.2.2.2.2.2.2.1 bt446.2.2.2.2.2.2.2.2.1 bt446.2.2.2.2.2.2.2.2.2).bind fun t458 => (if t458 = true then (laws_FnKeys.j0 k bt414.1 t423 bt426.1 bt426.2 bt430.2.2.2.2.2.1 bt430.2.2.2.2.2.2 bt438.2.2.2.2.2.2 (0 + 1) bt414.2.1 bt414.2.2.1 bt414.2.2.2.1 bt414.2.2.2.2.1 bt414.2.2.2.2.2 bt430.1 bt430.2.1 bt430.2.2.1 bt430.2.2.2.1 bt430.2.2.2.2.1 bt446.1 bt446.2.1 bt446.2.2.1 bt446.2.2.2.1 bt446.2.2.2.2.1 bt446.2.2.2.2.2.1 bt446.2.2.2.2.2.2.1 bt446.2.2.2.2.2.2.2.1 bt446.2.2.2.2.2.2.2.2.1 bt446.2.2.2.2.2.2.2.2.2) else (laws_FnKeys.j0 k bt414.1 t423 bt426.1 bt426.2 bt430.2.2.2.2.2.1 bt430.2.2.2.2.2.2 bt438.2.2.2.2.2.2 0 bt414.2.1 bt414.2.2.1 bt414.2.2.2.1 bt414.2.2.2.2.1 bt414.2.2.2.2.2 bt430.1 bt430.2.1 bt430.2.2.1 bt430.2.2.2.1 bt430.2.2.2.2.1 bt446.1 bt446.2.1 bt446.2.2.1 bt446.2.2.2.1 bt446.2.2.2.2.1 bt446.2.2.2.2.2.1 bt446.2.2.2.2.2.2.1 bt446.2.2.2.2.2.2.2.1 bt446.2.2.2.2.2.2.2.2.1 bt446.2.2.2.2.2.2.2.2.2))))))))))) = some r := h
 clear h
 replace H := lF H
 obtain ⟨t413, A20, H⟩ := H
 replace H : (if t413 = true then (some true) else ((spec_DrawPutKey.f k l0).bind fun bt414 => ((impl_PutKey.f k bt414.1 bt414.2.1 bt414.2.2.1 bt414.2.2.2.1 bt414.2.2.2.2.1 bt414.2.2.2.2.2).bind fun t423 => ((spec_DrawGetKey.f k l0).bind fun bt426 => ((impl_GetKey.f k bt426.1 bt426.2).bind fun bt430 => ((spec_GetKey.f k bt426.1 bt426.2).bind fun bt438 => ((spec_DrawLessKey.f k l0).bind fun bt446 => ((impl_LessKey.f bt446.1 bt446.2.1 bt446.2.2.1 bt446.2.2.2.1 bt446.2.2.2.2.1 bt446.2.2.2.2.2.1 bt446.2.2.2.2.2.2.1 bt446.2.2.2.2.2.2.2.1 bt446.2.2.2.2.2.2.2.2.1 bt446.2.2.2.2.2.2.2.2.2).bind fun t458 => (if t458 = true then (laws_FnKeys.j0 k bt414.1 t423 bt426.1 bt426.2 bt430.2.2.2.2.2.1 bt430.2.2.2.2.2.2 bt438.2.2.2.2.2.2 (0 + 1) bt414.2.1 bt414.2.2.1 bt414.2.2.2.1 bt414.2.2.2.2.1 bt414.2.2.2.2.2 bt430.1 bt430.2.1 bt430.2.2.1 bt430.2.2.2.1 bt430.2.2.2.2.1 bt446.1 bt446.2.1 bt446.2.2.1 bt446.2.2.2.1 bt446.2.2.2.2.1 bt446.2.2.2.2.2.1 bt446.2.2.2.2.2.2.1 bt446.2.2.2.2.2.2.2.1 bt446.2.2.2.2.2.2.2.2.1 bt446.2.2.2.2.2.2.2.2.2) else (laws_FnKeys.j0 k bt414.1 t423 bt426.1 bt426.2 bt430.2.2.2.2.2.1 bt430.2.2.2.2.2.2 bt438.2.2.2.2.2.2 0 bt414.2.1 bt414.2.2.1 bt414.2.2.2.1 bt414.2.2.2.2.1 bt414.2.2.2.2.2 bt430.1 bt430.2.1 bt430.2.2.1 bt430.2.2.2.1 bt430.2.2.2.2.1 bt446.1 bt446.2.1 bt446.2.2.1 bt446.2.2.2.1 bt446.2.2.2.2.1 bt446.2.2.2.2.2.1 bt446.2.2.2.2.2.2.1 bt446.2.2.2.2.2.2.2.1 bt446.2.2.2.2.2.2.2.2.1 bt446.2.2.2.2.2.2.2.2.2)))))))))) = some r := H
 have A2 := aK.mk A20
 clear A20
 by_cases c3 : t413 = true
 ·subst c3
  have H1 : (some true) = some r := by rw [if_pos rfl] at H; exact H
  clear H
  have H := H1
  clear H1
  obtain rfl := Option.some.inj H
  go_enter Try.func5, Try.ntmps5
  go_wp2_with (first | ((with_reducible refine bR (f := 24) rfl ?_); refine bX (some 21) rfl rfl Try.func24 (by kernel_rfl) rfl #[.slice A0 l0.length c0] rfl (by (try simp only [List.map_toArray, List.map_cons, List.map_nil]); first | done | rfl | (simp only [List.length_drop, List.length_take]; rfl)) ?_; (with_reducible refine (laws_big.calls _ _ l0 true _ ?side1 ?side2 A2.out).mono ?_); (case side1 => repeat (first | exact HR0.out | (with_reducible refine Kd.cD ?_ _) | (with_reducible refine Kd.cC ?_ _) | (with_reducible refine Kd.C_drew ?_))); (case side2 => exact HC0.out); rintro e w' ⟨rfl, ⟨nd, rfl⟩⟩; refine ⟨_, rfl, ?_⟩))
  go_ret
  exact ⟨by first | rfl | (simp [errW_none, errW_some] <;> rfl) | (simp [*, errW_none, errW_some] <;> rfl), by repeat (first | (with_reducible first | exact HB.out | apply aU | apply aM | apply aT) | exact HB.out)⟩
 replace c3 := Bool.eq_false_iff.mpr c3
 subst c3
 have H1 : ((spec_DrawPutKey.f k l0).bind fun bt414 => ((impl_PutKey.f k bt414.1 bt414.2.1 bt414.2.2.1 bt414.2.2.2.1 bt414.2.2.2.2.1 bt414.2.2.2.2.2).bind fun t423 => ((spec_DrawGetKey.f k l0).bind fun bt426 => ((impl_GetKey.f k bt426.1 bt426.2).bind fun bt430 => ((spec_GetKey.f k bt426.1 bt426.2).bind fun bt438 => ((spec_DrawLessKey.f k l0).bind fun bt446 => ((impl_LessKey.f bt446.1 bt446.2.1 bt446.2.2.1 bt446.2.2.2.1 bt446.2.2.2.2.1 bt446.2.2.2.2.2.1 bt446.2.2.2.2.2.2.1 bt446.2.2.2.2.2.2.2.1 bt446.2.2.2.2.2.2.2.2.1 bt446.2.2.2.2.2.2.2.2.2).bind fun t458 => (if t458 = true then (laws_FnKeys.j0 k bt414.1 t423 bt426.1 bt426.2 bt430.2.2.2.2.2.1 bt430.2.2.2.2.2.2 bt438.2.2.2.2.2.2 (0 + 1) bt414.2.1 bt414.2.2.1 bt414.2.2.2.1 bt414.2.2.2.2.1 bt414.2.2.2.2.2 bt430.1 bt430.2.1 bt430.2.2.1 bt430.2.2.2.1 bt430.2.2.2.2.1 bt446.1 bt446.2.1 bt446.2.2.1 bt446.2.2.2.1 bt446.2.2.2.2.1 bt446.2.2.2.2.2.1 bt446.2.2.2.2.2.2.1 bt446.2.2.2.2.2.2.2.1 bt446.2.2.2.2.2.2.2.2.1 bt446.2.2.2.2.2.2.2.2.2) else (laws_FnKeys.j0 k bt414.1 t423 bt426.1 bt426.2 bt430.2.2.2.2.2.1 bt430.2.2.2.2.2.2 bt438.2.2.2.2.2.2 0 bt414.2.1 bt414.2.2.1 bt414.2.2.2.1 bt414.2.2.2.2.1 bt414.2.2.2.2.2 bt430.1 bt430.2.1 bt430.2.2.1 bt430.2.2.2.1 bt430.2.2.2.2.1 bt446.1 bt446.2.1 bt446.2.2.1 bt446.2.2.2.1 bt446.2.2.2.2.1 bt446.2.2.2.2.2.1 bt446.2.2.2.2.2.2.1 bt446.2.2.2.2.2.2.2.1 bt446.2.2.2.2.2.2.2.2.1 bt446.2.2.2.2.2.2.2.2.2))))))))) = some r := by rw [if_neg (show ¬ (false = true) by decide)] at H; exact H
 clear H
 have H := H1
 clear H1
 replace H := lF H
 obtain ⟨⟨t414, t417, t418, t419, t420, t421⟩, A40, H⟩ := H
 replace H : ((impl_PutKey.f k t414 t417 t418 t419 t420 t421).bind fun t423 => ((spec_DrawGetKey.f k l0).bind fun bt426 => ((impl_GetKey.f k bt426.1 bt426.2).bind fun bt430 => ((spec_GetKey.f k bt426.1 bt426.2).bind fun bt438 => ((spec_DrawLessKey.f k l0).bind fun bt446 => ((impl_LessKey.f bt446.1 bt446.2.1 bt446.2.2.1 bt446.2.2.2.1 bt446.2.2.2.2.1 bt446.2.2.2.2.2.1 bt446.2.2.2.2.2.2.1 bt446.2.2.2.2.2.2.2.1 bt446.2.2.2.2.2.2.2.2.1 bt446.2.2.2.2.2.2.2.2.2).bind fun t458 => (if t458 = true then (laws_FnKeys.j0 k t414 t423 bt426.1 bt426.2 bt430.2.2.2.2.2.1 bt430.2.2.2.2.2.2 bt438.2.2.2.2.2.2 (0 + 1) t417 t418 t419 t420 t421 bt430.1 bt430.2.1 bt430.2.2.1 bt430.2.2.2.1 bt430.2.2.2.2.1 bt446.1 bt446.2.1 bt446.2.2.1 bt446.2.2.2.1 bt446.2.2.2.2.1 bt446.2.2.2.2.2.1 bt446.2.2.2.2.2.2.1 bt446.2.2.2.2.2.2.2.1 bt446.2.2.2.2.2.2.2.2.1 bt446.2.2.2.2.2.2.2.2.2) else (laws_FnKeys.j0 k t414 t423 bt426.1 bt426.2 bt430.2.2.2.2.2.1 bt430.2.2.2.2.2.2 bt438.2.2.2.2.2.2 0 t417 t418 t419 t420 t421 bt430.1 bt430.2.1 bt430.2.2.1 bt430.2.2.2.1 bt430.2.2.2.2.1 bt446.1 bt446.2.1 bt446.2.2.1 bt446.2.2.2.1 bt446.2.2.2.2.1 bt446.2.2.2.2.2.1 bt446.2.2.2.2.2.2.1 bt446.2.2.2.2.2.2.2.1 bt446.2.2.2.2.2.2.2.2.1 bt446.2.2.2.2.2.2.2.2.2)))))))) = some r := H
 have A4 := aK.mk A40
 clear A40
 replace H := lF H
 obtain ⟨t423, A50, H⟩ := H
 replace H : ((spec_DrawGetKey.f k l0).bind fun bt426 => ((impl_GetKey.f k bt426.1 bt426.2).bind fun bt430 => ((spec_GetKey.f k bt426.1 bt426.2).bind fun bt438 => ((spec_DrawLessKey.f k l0).bind fun bt446 => ((impl_LessKey.f bt446.1 bt446.2.1 bt446.2.2.1 bt446.2.2.2.1 bt446.2.2.2.2.1 bt446.2.2.2.2.2.1 bt446.2.2.2.2.2.2.1 bt446.2.2.2.2.2.2.2.1 bt446.2.2.2.2.2.2.2.2.1 bt446.2.2.2.2.2.2.2.2.2).bind fun t458 => (if t458 = true then (laws_FnKeys.j0 k t414 t423 bt426.1 bt426.2 bt430.2.2.2.2.2.1 bt430.2.2.2.2.2.2 bt438.2.2.2.2.2.2 (0 + 1) t417 t418 t419 t420 t421 bt430.1 bt430.2.1 bt430.2.2.1 bt430.2.2.2.1 bt430.2.2.2.2.1 bt446.1 bt446.2.1 bt446.2.2.1 bt446.2.2.2.1 bt446.2.2.2.2.1 bt446.2.2.2.2.2.1 bt446.2.2.2.2.2.2.1 bt446.2.2.2.2.2.2.2.1 bt446.2.2.2.2.2.2.2.2.1 bt446.2.2.2.2.2.2.2.2.2) else (laws_FnKeys.j0 k t414 t423 bt426.1 bt426.2 bt430.2.2.2.2.2.1 bt430.2.2.2.2.2.2 bt438.2.2.2.2.2.2 0 t417 t418 t419 t420 t421 bt430.1 bt430.2.1 bt430.2.2.1 bt430.2.2.2.1 bt430.2.2.2.2.1 bt446.1 bt446.2.1 bt446.2.2.1 bt446.2.2.2.1 bt446.2.2.2.2.1 bt446.2.2.2.2.2.1 bt446.2.2.2.2.2.2.1 bt446.2.2.2.2.2.2.2.1 bt446.2.2.2.2.2.2.2.2.1 bt446.2.2.2.2.2.2.2.2.2))))))) = some r := H
 have A5 := aK.mk A50
 clear A50
 replace H := lF H
 obtain ⟨⟨t426, t427⟩, A60, H⟩ := H
 replace H : ((impl_GetKey.f k t426 t427).bind fun bt430 => ((spec_GetKey.f k t426 t427).bind fun bt438 => ((spec_DrawLessKey.f k l0).bind fun bt446 => ((impl_LessKey.f bt446.1 bt446.2.1 bt446.2.2.1 bt446.2.2.2.1 bt446.2.2.2.2.1 bt446.2.2.2.2.2.1 bt446.2.2.2.2.2.2.1 bt446.2.2.2.2.2.2.2.1 bt446.2.2.2.2.2.2.2.2.1 bt446.2.2.2.2.2.2.2.2.2).bind fun t458 => (if t458 = true then (laws_FnKeys.j0 k t414 t423 t426 t427 bt430.2.2.2.2.2.1 bt430.2.2.2.2.2.2 bt438.2.2.2.2.2.2 (0 + 1) t417 t418 t419 t420 t421 bt430.1 bt430.2.1 bt430.2.2.1 bt430.2.2.2.1 bt430.2.2.2.2.1 bt446.1 bt446.2.1 bt446.2.2.1 bt446.2.2.2.1 bt446.2.2.2.2.1 bt446.2.2.2.2.2.1 bt446.2.2.2.2.2.2.1 bt446.2.2.2.2.2.2.2.1 bt446.2.2.2.2.2.2.2.2.1 bt446.2.2.2.2.2.2.2.2.2) else (laws_FnKeys.j0 k t414 t423 t426 t427 bt430.2.2.2.2.2.1 bt430.2.2.2.2.2.2 bt438.2.2.2.2.2.2 0 t417 t418 t419 t420 t421 bt430.1 bt430.2.1 bt430.2.2.1 bt430.2.2.2.1 bt430.2.2.2.2.1 bt446.1 bt446.2.1 bt446.2.2.1 bt446.2.2.2.1 bt446.2.2.2.2.1 bt446.2.2.2.2.2.1 bt446.2.2.2.2.2.2.1 bt446.2.2.2.2.2.2.2.1 bt446.2.2.2.2.2.2.2.2.1 bt446.2.2.2.2.2.2.2.2.2)))))) = some r := H
 have A6 := aK.mk A60
 clear A60
 replace H := lF H
 obtain ⟨⟨t430, t431, t432, t433, t434, t435, t436⟩, A70, H⟩ := H
 replace H : ((spec_GetKey.f k t426 t427).bind fun bt438 => ((spec_DrawLessKey.f k l0).bind fun bt446 => ((impl_LessKey.f bt446.1 bt446.2.1 bt446.2.2.1 bt446.2.2.2.1 bt446.2.2.2.2.1 bt446.2.2.2.2.2.1 bt446.2.2.2.2.2.2.1 bt446.2.2.2.2.2.2.2.1 bt446.2.2.2.2.2.2.2.2.1 bt446.2.2.2.2.2.2.2.2.2).bind fun t458 => (if t458 = true then (laws_FnKeys.j0 k t414 t423 t426 t427 t435 t436 bt438.2.2.2.2.2.2 (0 + 1) t417 t418 t419 t420 t421 t430 t431 t432 t433 t434 bt446.1 bt446.2.1 bt446.2.2.1 bt446.2.2.2.1 bt446.2.2.2.2.1 bt446.2.2.2.2.2.1 bt446.2.2.2.2.2.2.1 bt446.2.2.2.2.2.2.2.1 bt446.2.2.2.2.2.2.2.2.1 bt446.2.2.2.2.2.2.2.2.2) else (laws_FnKeys.j0 k t414 t423 t426 t427 t435 t436 bt438.2.2.2.2.2.2 0 t417 t418 t419 t420 t421 t430 t431 t432 t433 t434 bt446.1 bt446.2.1 bt446.2.2.1 bt446.2.2.2.1 bt446.2.2.2.2.1 bt446.2.2.2.2.2.1 bt446.2.2.2.2.2.2.1 bt446.2.2.2.2.2.2.2.1 bt446.2.2.2.2.2.2.2.2.1 bt446.2.2.2.2.2.2.2.2.2))))) = some r := H
 have A7 := aK.mk A70
 clear A70
 replace H := lF H
 obtain ⟨⟨t438, t439, t440, t441, t442, t443, t444⟩, A80, H⟩ := H
 replace H : ((spec_DrawLessKey.f k l0).bind fun bt446 => ((impl_LessKey.f bt446.1 bt446.2.1 bt446.2.2.1 bt446.2.2.2.1 bt446.2.2.2.2.1 bt446.2.2.2.2.2.1 bt446.2.2.2.2.2.2.1 bt446.2.2.2.2.2.2.2.1 bt446.2.2.2.2.2.2.2.2.1 bt446.2.2.2.2.2.2.2.2.2).bind fun t458 => (if t458 = true then (laws_FnKeys.j0 k t414 t423 t426 t427 t435 t436 t444 (0 + 1) t417 t418 t419 t420 t421 t430 t431 t432 t433 t434 bt446.1 bt446.2.1 bt446.2.2.1 bt446.2.2.2.1 bt446.2.2.2.2.1 bt446.2.2.2.2.2.1 bt446.2.2.2.2.2.2.1 bt446.2.2.2.2.2.2.2.1 bt446.2.2.2.2.2.2.2.2.1 bt446.2.2.2.2.2.2.2.2.2) else (laws_FnKeys.j0 k t414 t423 t426 t427 t435 t436 t444 0 t417 t418 t419 t420 t421 t430 t431 t432 t433 t434 bt446.1 bt446.2.1 bt446.2.2.1 bt446.2.2.2.1 bt446.2.2.2.2.1 bt446.2.2.2.2.2.1 bt446.2.2.2.2.2.2.1 bt446.2.2.2.2.2.2.2.1 bt446.2.2.2.2.2.2.2.2.1 bt446.2.2.2.2.2.2.2.2.2)))) = some r := H
 have A8 := aK.mk A80
 clear A80
 replace H := lF H
 obtain ⟨⟨t446, t447, t448, t449, t450, t451, t452, t453, t454, t455⟩, A90, H⟩ := H
 replace H : ((impl_LessKey.f t446 t447 t448 t449 t450 t451 t452 t453 t454 t455).bind fun t458 => (if t458 = true then (laws_FnKeys.j0 k t414 t423 t426 t427 t435 t436 t444 (0 + 1) t417 t418 t419 t420 t421 t430 t431 t432 t433 t434 t446 t447 t448 t449 t450 t451 t452 t453 t454 t455) else (laws_FnKeys.j0 k t414 t423 t426 t427 t435 t436 t444 0 t417 t418 t419 t420 t421 t430 t431 t432 t433 t434 t446 t447 t448 t449 t450 t451 t452 t453 t454 t455))) = some r := H
 have A9 := aK.mk A90
 clear A90
 replace H := lF H
 obtain ⟨t458, A100, H⟩ := H
 replace H : (if t458 = true then (laws_FnKeys.j0 k t414 t423 t426 t427 t435 t436 t444 (0 + 1) t417 t418 t419 t420 t421 t430 t431 t432 t433 t434 t446 t447 t448 t449 t450 t451 t452 t453 t454 t455) else (laws_FnKeys.j0 k t414 t423 t426 t427 t435 t436 t444 0 t417 t418 t419 t420 t421 t430 t431 t432 t433 t434 t446 t447 t448 t449 t450 t451 t452 t453 t454 t455)) = some r := H
 have A10 := aK.mk A100
 clear A100
 have HC11 := aK.mk H
 clear H
 go_enter Try.func5, Try.ntmps5
 go_upto_if 56 with (first | ((with_reducible refine bR (f := 24) rfl ?_); refine bX (some 21) rfl rfl Try.func24 (by kernel_rfl) rfl #[.slice A0 l0.length c0] rfl (by (try simp only [List.map_toArray, List.map_cons, List.map_nil]); first | done | rfl | (simp only [List.length_drop, List.length_take]; rfl)) ?_; (with_reducible refine (laws_big.calls _ _ l0 false _ ?side1 ?side2 A2.out).mono ?_); (case side1 => repeat (first | exact HR0.out | (with_reducible refine Kd.cD ?_ _) | (with_reducible refine Kd.cC ?_ _) | (with_reducible refine Kd.C_drew ?_))); (case side2 => exact HC0.out); rintro e w' ⟨rfl, ⟨nd, rfl⟩⟩; refine ⟨_, rfl, ?_⟩) | ((with_reducible refine bR (f := 25) rfl ?_); refine bX (some 24) rfl rfl Try.func25 (by kernel_rfl) rfl #[.slice A0 l0.length c0] rfl (by (try simp only [List.map_toArray, List.map_cons, List.map_nil]); first | done | rfl | (simp only [List.length_drop, List.length_take]; rfl)) ?_; (with_reducible refine (spec_DrawPutKey.calls k _ _ l0 t414 t417 t418 t419 t420 t421 _ ?side1 ?side2 A4.out).mono ?_); (case side1 => repeat (first | exact HR0.out | (with_reducible refine Kd.cD ?_ _) | (with_reducible refine Kd.cC ?_ _) | (with_reducible refine Kd.C_drew ?_))); (case side2 => exact HC0.out); rintro e w12 ⟨v415, rfl, ho0, hb⟩; refine ⟨_, rfl, ?_⟩; have n0_ := aK.mk (Kd.R_lower ho0 (bN (by repeat (first | (with_reducible first | exact HB.out | apply aU | apply aM | apply aT) | exact HB.out)))); have n1_ := aK.mk (bL (by repeat (first | (with_reducible first | exact HB.out | apply aU | apply aM | apply aT) | exact HB.out)) hb); clear HB; have HO416 := n0_; have HB := n1_; clear n0_ n1_; (try clear hb); (try clear hk); (try clear ho0)) | ((with_reducible refine bV (N := 4) rfl ?_); (try (refine gate_guard (by rfl) ?_; dsimp only)); refine bZ ?hg (N := 4) ?hd (cs := #[.int .i64 0, .int .i64 0, .int .i64 0, .int .i64 0, .int .i64 0]) (t := 27) ?hr ?_; (case hd => rfl); (case hg => rfl); (case hr => first | (go_simp; done) | (go_simp; rfl)); intro gb422 hg w13 hbox hb; have n0_ := aK.mk (Kd.cB (by (with_reducible repeat (first | apply Kd.bE | apply Kd.bF | apply Kd.bG)); exact HO416.out) hb); have n1_ := aK.mk (bL (by repeat (first | (with_reducible first | exact HB.out | apply aU | apply aM | apply aT) | exact HB.out)) hb); have n2_ := aK.mk (hbox); have n3_ := aK.mk ((by rw [hg]; exact (bN (by repeat (first | (with_reducible first | exact HB.out | apply aU | apply aM | apply aT) | exact HB.out))) : w.heap.size ≤ gb422)); have n4_ := aK.mk ((by rw [hg]; exact (bN (by repeat (first | (with_reducible first | exact HB.out | apply aU | apply aM | apply aT) | exact HB.out))) : w.heap.size ≤ gb422)); clear HO416; clear HB; have HO416 := n0_; have HB := n1_; have BK422 := n2_; have GW422 := n3_; have GE422 := n4_; clear n0_ n1_ n2_ n3_ n4_; clear hb hbox hg; have hcz14_0 : w13.cell? ⟨gb422, 0, none⟩ = some (.int .i64 0) := (aQ BK422.out 0).trans rfl; have hcz14_1 : w13.cell? ⟨gb422, 1, none⟩ = some (.int .i64 0) := (aQ BK422.out 1).trans rfl; have hcz14_2 : w13.cell? ⟨gb422, 2, none⟩ = some (.int .i64 0) := (aQ BK422.out 2).trans rfl; have hcz14_3 : w13.cell? ⟨gb422, 3, none⟩ = some (.int .i64 0) := (aQ BK422.out 3).trans rfl; have hcz14_4 : w13.cell? ⟨gb422, 4, none⟩ = some (.int .i64 0) := (aQ BK422.out 4).trans rfl; have hfz14_0 := aN BK422.out 0; have hfz14_1 := aN BK422.out 1; have hfz14_2 := aN BK422.out 2; have hfz14_3 := aN BK422.out 3; have hfz14_4 := aN BK422.out 4) | ((with_reducible refine gate_store (t := 27) (p := 4) rfl ?_); refine store_event (t := 27) (p := 4) (v := ?vo_w15) (w1 := (((((w13.setCell ⟨gb422, 0, none⟩ (.int .i64 t417)).setCell ⟨gb422, 1, none⟩ (.int .i64 t418)).setCell ⟨gb422, 2, none⟩ (.int .i64 t419)).setCell ⟨gb422, 3, none⟩ (.int .i64 t420)).setCell ⟨gb422, 4, none⟩ (.int .i64 t421))) ?hg ?ho ?hn ?hr ?_; (case ho => rfl); (case hg => rfl); (case hn => rfl); (case hr => first | (go_simp; done) | (go_simp; rfl)); intro w15 hw; have n0_ : aK (Kd.R (Kd.int .u8) 5 w15 w.heap.size (fun _ => True) v415 t414) := ⟨(by rw [hw]; exact (by (with_reducible repeat (first | apply Kd.bE | apply Kd.bF | apply Kd.bG)); exact Kd.cA (Kd.R_far (p := ⟨gb422, 4, none⟩) (Kd.R_far (p := ⟨gb422, 3, none⟩) (Kd.R_far (p := ⟨gb422, 2, none⟩) (Kd.R_far (p := ⟨gb422, 1, none⟩) (Kd.R_far (p := ⟨gb422, 0, none⟩) (Kd.R_types HO416.out BK422.out (by decide)) (fun _ hk => hk.2) (.int .i64 t417)) (fun _ hk => hk.2) (.int .i64 t418)) (fun _ hk => hk.2) (.int .i64 t419)) (fun _ hk => hk.2) (.int .i64 t420)) (fun _ hk => hk.2) (.int .i64 t421)) (fun _ hk => trivial)))⟩; have n1_ : aK (w15.heap[gb422]? = some (.cells #[.int .i64 t417, .int .i64 t418, .int .i64 t419, .int .i64 t420, .int .i64 t421] 27 (0, 0))) := ⟨(by rw [hw]; exact (by (with_reducible repeat (first | refine bkN ?_ _ | refine bkD ?_ | refine bkA ?_ _)); refine bH (cs := #[.int .i64 t417, .int .i64 t418, .int .i64 t419, .int .i64 t420, .int .i64 0]) ?_ 4 _ rfl; (with_reducible repeat (first | refine bkN ?_ _ | refine bkD ?_ | refine bkA ?_ _)); refine bH (cs := #[.int .i64 t417, .int .i64 t418, .int .i64 t419, .int .i64 0, .int .i64 0]) ?_ 3 _ rfl; (with_reducible repeat (first | refine bkN ?_ _ | refine bkD ?_ | refine bkA ?_ _)); refine bH (cs := #[.int .i64 t417, .int .i64 t418, .int .i64 0, .int .i64 0, .int .i64 0]) ?_ 2 _ rfl; (with_reducible repeat (first | refine bkN ?_ _ | refine bkD ?_ | refine bkA ?_ _)); refine bH (cs := #[.int .i64 t417, .int .i64 0, .int .i64 0, .int .i64 0, .int .i64 0]) ?_ 1 _ rfl; (with_reducible repeat (first | refine bkN ?_ _ | refine bkD ?_ | refine bkA ?_ _)); refine bH (cs := #[.int .i64 0, .int .i64 0, .int .i64 0, .int .i64 0, .int .i64 0]) ?_ 0 _ rfl; (with_reducible repeat (first | refine bkN ?_ _ | refine bkD ?_ | refine bkA ?_ _)); exact BK422.out))⟩; have n2_ : aK (Below w.heap.size w w15) := ⟨(by rw [hw]; exact (by repeat (first | (with_reducible first | exact HB.out | apply aU | apply aM | apply aT | refine bwS ?_ GE422.out) | exact HB.out)))⟩; clear hw; clear HO416; clear BK422; clear HB; have HO416 := n0_; have BK422 := n1_; have HB := n2_; clear n0_ n1_ n2_; have hcz16_0 : w15.cell? ⟨gb422, 0, none⟩ = some (.int .i64 t417) := (aQ BK422.out 0).trans rfl; have hcz16_1 : w15.cell? ⟨gb422, 1, none⟩ = some (.int .i64 t418) := (aQ BK422.out 1).trans rfl; have hcz16_2 : w15.cell? ⟨gb422, 2, none⟩ = some (.int .i64 t419) := (aQ BK422.out 2).trans rfl; have hcz16_3 : w15.cell? ⟨gb422, 3, none⟩ = some (.int .i64 t420) := (aQ BK422.out 3).trans rfl; have hcz16_4 : w15.cell? ⟨gb422, 4, none⟩ = some (.int .i64 t421) := (aQ BK422.out 4).trans rfl; have hfz16_0 := aN BK422.out 0; have hfz16_1 := aN BK422.out 1; have hfz16_2 := aN BK422.out 2; have hfz16_3 := aN BK422.out 3; have hfz16_4 := aN BK422.out 4; obtain ⟨Ao17, co17, eo17⟩ := Kd.R_slice HO416.out; subst eo17) | ((with_reducible refine bR (f := 17) rfl ?_); refine bX (some 29) rfl rfl Try.func17 (by kernel_rfl) rfl #[.slice Ao17 t414.length co17, .agg #[.int .i64 t417, .int .i64 t418, .int .i64 t419, .int .i64 t420, .int .i64 t421]] rfl (by (try simp only [List.map_toArray, List.map_cons, List.map_nil]); first | done | rfl | (simp only [List.length_drop, List.length_take]; rfl)) ?_; (with_reducible refine (impl_PutKey.calls k (fun k_ => some k_ = (.slice Ao17 t414.length co17 : Value).ownBlock) _ _ t414 t417 t418 t419 t420 t421 t423 _ ?side1 A5.out).mono ?_); (case side1 => exact Kd.R_V (Kd.R_tight rfl (Kd.R_types (HO416.out) BK422.out (by decide)))); rintro e w18 ⟨v424, rfl, ho0, hb⟩; refine ⟨_, rfl, ?_⟩; have n0_ := aK.mk (Kd.R_elder' (by (with_reducible repeat (first | apply Kd.bE | apply Kd.bF | apply Kd.bG)); exact HO416.out) (Kd.R_base ho0) hb); have n1_ := aK.mk (Kd.R_lower (Kd.R_new' (Kd.cA (ok' := fun k_ => True) ho0 (fun _ hk_ => trivial)) (Kd.R_lt (by (with_reducible repeat (first | apply Kd.bE | apply Kd.bF | apply Kd.bG)); exact HO416.out))) (bN (by repeat (first | (with_reducible first | exact HB.out | apply aU | apply aM | apply aT | refine bwS ?_ GE422.out) | exact HB.out)))); have n2_ := aK.mk (bC (g := gb422) (o := .cells #[.int .i64 t417, .int .i64 t418, .int .i64 t419, .int .i64 t420, .int .i64 t421] 27 (0, 0)) (by (with_reducible repeat (first | refine bkN ?_ _ | refine bkD ?_ | refine bkA ?_ _)); exact BK422.out) hb); have n3_ := aK.mk (bL (by repeat (first | (with_reducible first | exact HB.out | apply aU | apply aM | apply aT | refine bwS ?_ GE422.out) | exact HB.out)) hb); clear HO416; clear BK422; clear HB; have HO416 := n0_; have HO425 := n1_; have BK422 := n2_; have HB := n3_; clear n0_ n1_ n2_ n3_; (try clear hb); (try clear hk); (try clear ho0)) | ((with_reducible refine bR (f := 26) rfl ?_); refine bX (some 32) rfl rfl Try.func26 (by kernel_rfl) rfl #[.slice A0 l0.length c0] rfl (by (try simp only [List.map_toArray, List.map_cons, List.map_nil]); first | done | rfl | (simp only [List.length_drop, List.length_take]; rfl)) ?_; (with_reducible refine (spec_DrawGetKey.calls k _ _ l0 t426 t427 _ ?side1 ?side2 A6.out).mono ?_); (case side1 => repeat (first | exact (Kd.C_below HR0.out HB.out) | (with_reducible refine Kd.cD ?_ _) | (with_reducible refine Kd.cC ?_ _) | (with_reducible refine Kd.C_drew ?_))); (case side2 => exact HC0.out); rintro e w19 ⟨v428, rfl, ho0, hb⟩; refine ⟨_, rfl, ?_⟩; have n0_ := aK.mk (Kd.R_elder' (by (with_reducible repeat (first | apply Kd.bE | apply Kd.bF | apply Kd.bG)); exact HO416.out) (Kd.R_base ho0) hb); have n1_ := aK.mk (Kd.R_elder' (by (with_reducible repeat (first | apply Kd.bE | apply Kd.bF | apply Kd.bG)); exact HO425.out) (Kd.R_base ho0) hb); have n2_ := aK.mk (Kd.R_lower (Kd.R_new' (Kd.R_new' ho0 (Kd.R_lt (by (with_reducible repeat (first | apply Kd.bE | apply Kd.bF | apply Kd.bG)); exact HO416.out))) (Kd.R_lt (by (with_reducible repeat (first | apply Kd.bE | apply Kd.bF | apply Kd.bG)); exact HO425.out))) (bN (by repeat (first | (with_reducible first | exact HB.out | apply aU | apply aM | apply aT | refine bwS ?_ GE422.out) | exact HB.out)))); have n3_ := aK.mk (bC (g := gb422) (o := .cells #[.int .i64 t417, .int .i64 t418, .int .i64 t419, .int .i64 t420, .int .i64 t421] 27 (0, 0)) (by (with_reducible repeat (first | refine bkN ?_ _ | refine bkD ?_ | refine bkA ?_ _)); exact BK422.out) hb); have n4_ := aK.mk (bL (by repeat (first | (with_reducible first | exact HB.out | apply aU | apply aM | apply aT | refine bwS ?_ GE422.out) | exact HB.out)) hb); clear HO416; clear HO425; clear BK422; clear HB; have HO416 := n0_; have HO425 := n1_; have HO429 := n2_; have BK422 := n3_; have HB := n4_; clear n0_ n1_ n2_ n3_ n4_; (try clear hb); (try clear hk); (try clear ho0); obtain ⟨Ao20, co20, eo20⟩ := Kd.R_slice HO429.out; subst eo20) | ((with_reducible refine bR (f := 22) rfl ?_); refine bX (some 38) rfl rfl Try.func22 (by kernel_rfl) rfl #[.slice Ao20 t426.length co20, .int .i64 t427] rfl (by (try simp only [List.map_toArray, List.map_cons, List.map_nil]); first | done | rfl | (simp only [List.length_drop, List.length_take]; rfl)) ?_; (with_reducible refine (impl_GetKey.calls k _ _ t426 t427 t430 t431 t432 t433 t434 t435 t436 _ ?side1 ?side2 A7.out).mono ?_); (case side1 => repeat (first | exact (Kd.R_reads' HO429.out).2.2 | (with_reducible refine Kd.cD ?_ _) | (with_reducible refine Kd.cC ?_ _) | (with_reducible refine Kd.C_drew ?_))); (case side2 => exact (Kd.R_reads' HO429.out).2.1); rintro e w21 ⟨rfl, hb⟩; refine ⟨_, rfl, ?_⟩; have n0_ := aK.mk (Kd.cB (by (with_reducible repeat (first | apply Kd.bE | apply Kd.bF | apply Kd.bG)); exact HO416.out) hb); have n1_ := aK.mk (Kd.cB (by (with_reducible repeat (first | apply Kd.bE | apply Kd.bF | apply Kd.bG)); exact HO425.out) hb); have n2_ := aK.mk (Kd.cB (by (with_reducible repeat (first | apply Kd.bE | apply Kd.bF | apply Kd.bG)); exact HO429.out) hb); have n3_ := aK.mk (bC (g := gb422) (o := .cells #[.int .i64 t417, .int .i64 t418, .int .i64 t419, .int .i64 t420, .int .i64 t421] 27 (0, 0)) (by (with_reducible repeat (first | refine bkN ?_ _ | refine bkD ?_ | refine bkA ?_ _)); exact BK422.out) hb); have n4_ := aK.mk (bL (by repeat (first | (with_reducible first | exact HB.out | apply aU | apply aM | apply aT | refine bwS ?_ GE422.out) | exact HB.out)) hb); clear HO416; clear HO425; clear HO429; clear BK422; clear HB; have HO416 := n0_; have HO425 := n1_; have HO429 := n2_; have BK422 := n3_; have HB := n4_; clear n0_ n1_ n2_ n3_ n4_; (try clear hb); (try clear hk)) | ((with_reducible refine bV (N := 8) rfl ?_); (try (refine gate_guard (by rfl) ?_; dsimp only)); refine bZ ?hg (N := 8) ?hd (cs := #[.int .i64 0, .int .i64 0, .int .i64 0, .int .i64 0, .int .i64 0]) (t := 27) ?hr ?_; (case hd => rfl); (case hg => rfl); (case hr => first | (go_simp; done) | (go_simp; rfl)); intro gb437 hg w22 hbox hb; have n0_ := aK.mk (Kd.cB (by (with_reducible repeat (first | apply Kd.bE | apply Kd.bF | apply Kd.bG)); exact HO416.out) hb); have n1_ := aK.mk (Kd.cB (by (with_reducible repeat (first | apply Kd.bE | apply Kd.bF | apply Kd.bG)); exact HO425.out) hb); have n2_ := aK.mk (Kd.cB (by (with_reducible repeat (first | apply Kd.bE | apply Kd.bF | apply Kd.bG)); exact HO429.out) hb); have n3_ := aK.mk (bC (g := gb422) (o := .cells #[.int .i64 t417, .int .i64 t418, .int .i64 t419, .int .i64 t420, .int .i64 t421] 27 (0, 0)) (by (with_reducible repeat (first | refine bkN ?_ _ | refine bkD ?_ | refine bkA ?_ _)); exact BK422.out) hb); have n4_ := aK.mk (bL (by repeat (first | (with_reducible first | exact HB.out | apply aU | apply aM | apply aT | refine bwS ?_ GE422.out) | exact HB.out)) hb); have n5_ := aK.mk (hbox); have n6_ := aK.mk ((by rw [hg]; exact (bN (by repeat (first | (with_reducible first | exact HB.out | apply aU | apply aM | apply aT | refine bwS ?_ GE422.out) | exact HB.out))) : w.heap.size ≤ gb437)); have n7_ := aK.mk ((by rw [hg]; exact (bN (by repeat (first | (with_reducible first | exact HB.out | apply aU | apply aM | apply aT | refine bwS ?_ GE422.out) | exact HB.out))) : w.heap.size ≤ gb437)); have n8_ := aK.mk ((by rw [hg]; exact Nat.ne_of_lt (bW (g := gb422) (o := .cells #[.int .i64 t417, .int .i64 t418, .int .i64 t419, .int .i64 t420, .int .i64 t421] 27 (0, 0)) (by (with_reducible repeat (first | refine bkN ?_ _ | refine bkD ?_ | refine bkA ?_ _)); exact BK422.out)) : gb422 ≠ gb437)); have n9_ := aK.mk ((by rw [hg]; exact Nat.ne_of_gt (bW (g := gb422) (o := .cells #[.int .i64 t417, .int .i64 t418, .int .i64 t419, .int .i64 t420, .int .i64 t421] 27 (0, 0)) (by (with_reducible repeat (first | refine bkN ?_ _ | refine bkD ?_ | refine bkA ?_ _)); exact BK422.out)) : gb437 ≠ gb422)); clear HO416; clear HO425; clear HO429; clear BK422; clear HB; have HO416 := n0_; have HO425 := n1_; have HO429 := n2_; have BK422 := n3_; have HB := n4_; have BK437 := n5_; have GW437 := n6_; have GE437 := n7_; have NB422_437 := n8_; have NB437_422 := n9_; clear n0_ n1_ n2_ n3_ n4_ n5_ n6_ n7_ n8_ n9_; clear hb hbox hg; have hnb23 := NB437_422.out; have hnc23 := NB422_437.out; have hcz24_0 : w22.cell? ⟨gb437, 0, none⟩ = some (.int .i64 0) := (aQ BK437.out 0).trans rfl; have hcz24_1 : w22.cell? ⟨gb437, 1, none⟩ = some (.int .i64 0) := (aQ BK437.out 1).trans rfl; have hcz24_2 : w22.cell? ⟨gb437, 2, none⟩ = some (.int .i64 0) := (aQ BK437.out 2).trans rfl; have hcz24_3 : w22.cell? ⟨gb437, 3, none⟩ = some (.int .i64 0) := (aQ BK437.out 3).trans rfl; have hcz24_4 : w22.cell? ⟨gb437, 4, none⟩ = some (.int .i64 0) := (aQ BK437.out 4).trans rfl; have hfz24_0 := aN BK437.out 0; have hfz24_1 := aN BK437.out 1; have hfz24_2 := aN BK437.out 2; have hfz24_3 := aN BK437.out 3; have hfz24_4 := aN BK437.out 4) | ((with_reducible refine bR (f := 21) rfl ?_); refine bX (some 45) rfl rfl Try.func21 (by kernel_rfl) rfl #[.slice Ao20 t426.length co20, .int .i64 t427] rfl (by (try simp only [List.map_toArray, List.map_cons, List.map_nil]); first | done | rfl | (simp only [List.length_drop, List.length_take]; rfl)) ?_; (with_reducible refine (spec_GetKey.calls k _ _ t426 t427 t438 t439 t440 t441 t442 t443 t444 _ ?side1 ?side2 A8.out).mono ?_); (case side1 => refine (Kd.R_reads' (e := 5) (base := w.heap.size) (ok := fun k_ => ((True ∧ some k_ ≠ (.slice Ao17 t414.length co17 : Value).ownBlock) ∧ some k_ ≠ (v424 : Value).ownBlock)) (n := t426.length) (c := co20) ?_).2.2; exact (by (with_reducible repeat (first | apply Kd.bE | apply Kd.bF | apply Kd.bG)); exact (Kd.cA (Kd.R_far (p := ⟨gb437, 4, none⟩) (Kd.R_far (p := ⟨gb437, 3, none⟩) (Kd.R_far (p := ⟨gb437, 2, none⟩) (Kd.R_far (p := ⟨gb437, 1, none⟩) (Kd.R_far (p := ⟨gb437, 0, none⟩) (Kd.R_types HO429.out BK437.out (by decide)) (fun _ hk => hk.2) (.int .i64 t430)) (fun _ hk => hk.2) (.int .i64 t431)) (fun _ hk => hk.2) (.int .i64 t432)) (fun _ hk => hk.2) (.int .i64 t433)) (fun _ hk => hk.2) (.int .i64 t434)) (fun _ h_ => h_.1)))); (case side2 => exact (Kd.R_reads' HO429.out).2.1); rintro e w25 ⟨rfl, hb⟩; refine ⟨_, rfl, ?_⟩; have n0_ := aK.mk (Kd.cB (by (with_reducible repeat (first | apply Kd.bE | apply Kd.bF | apply Kd.bG)); exact (Kd.cA (Kd.R_far (p := ⟨gb437, 4, none⟩) (Kd.R_far (p := ⟨gb437, 3, none⟩) (Kd.R_far (p := ⟨gb437, 2, none⟩) (Kd.R_far (p := ⟨gb437, 1, none⟩) (Kd.R_far (p := ⟨gb437, 0, none⟩) (Kd.R_types HO416.out BK437.out (by decide)) (fun _ hk => hk.2) (.int .i64 t430)) (fun _ hk => hk.2) (.int .i64 t431)) (fun _ hk => hk.2) (.int .i64 t432)) (fun _ hk => hk.2) (.int .i64 t433)) (fun _ hk => hk.2) (.int .i64 t434)) (fun _ h_ => h_.1))) hb); have n1_ := aK.mk (Kd.cB (by (with_reducible repeat (first | apply Kd.bE | apply Kd.bF | apply Kd.bG)); exact (Kd.cA (Kd.R_far (p := ⟨gb437, 4, none⟩) (Kd.R_far (p := ⟨gb437, 3, none⟩) (Kd.R_far (p := ⟨gb437, 2, none⟩) (Kd.R_far (p := ⟨gb437, 1, none⟩) (Kd.R_far (p := ⟨gb437, 0, none⟩) (Kd.R_types HO425.out BK437.out (by decide)) (fun _ hk => hk.2) (.int .i64 t430)) (fun _ hk => hk.2) (.int .i64 t431)) (fun _ hk => hk.2) (.int .i64 t432)) (fun _ hk => hk.2) (.int .i64 t433)) (fun _ hk => hk.2) (.int .i64 t434)) (fun _ h_ => h_.1))) hb); have n2_ := aK.mk (Kd.cB (by (with_reducible repeat (first | apply Kd.bE | apply Kd.bF | apply Kd.bG)); exact (Kd.cA (Kd.R_far (p := ⟨gb437, 4, none⟩) (Kd.R_far (p := ⟨gb437, 3, none⟩) (Kd.R_far (p := ⟨gb437, 2, none⟩) (Kd.R_far (p := ⟨gb437, 1, none⟩) (Kd.R_far (p := ⟨gb437, 0, none⟩) (Kd.R_types HO429.out BK437.out (by decide)) (fun _ hk => hk.2) (.int .i64 t430)) (fun _ hk => hk.2) (.int .i64 t431)) (fun _ hk => hk.2) (.int .i64 t432)) (fun _ hk => hk.2) (.int .i64 t433)) (fun _ hk => hk.2) (.int .i64 t434)) (fun _ h_ => h_.1))) hb); have n3_ := aK.mk (bC (g := gb422) (o := .cells #[.int .i64 t417, .int .i64 t418, .int .i64 t419, .int .i64 t420, .int .i64 t421] 27 (0, 0)) (by (with_reducible repeat (first | refine bkN ?_ _ | refine bkD ?_ | refine bkA ?_ _)); refine bP ?_ NB422_437.out _; (with_reducible repeat (first | refine bkN ?_ _ | refine bkD ?_ | refine bkA ?_ _)); refine bP ?_ NB422_437.out _; (with_reducible repeat (first | refine bkN ?_ _ | refine bkD ?_ | refine bkA ?_ _)); refine bP ?_ NB422_437.out _; (with_reducible repeat (first | refine bkN ?_ _ | refine bkD ?_ | refine bkA ?_ _)); refine bP ?_ NB422_437.out _; (with_reducible repeat (first | refine bkN ?_ _ | refine bkD ?_ | refine bkA ?_ _)); refine bP ?_ NB422_437.out _; (with_reducible repeat (first | refine bkN ?_ _ | refine bkD ?_ | refine bkA ?_ _)); exact BK422.out) hb); have n4_ := aK.mk (bC (g := gb437) (o := .cells #[.int .i64 t430, .int .i64 t431, .int .i64 t432, .int .i64 t433, .int .i64 t434] 27 (0, 0)) (by (with_reducible repeat (first | refine bkN ?_ _ | refine bkD ?_ | refine bkA ?_ _)); refine bH (cs := #[.int .i64 t430, .int .i64 t431, .int .i64 t432, .int .i64 t433, .int .i64 0]) ?_ 4 _ rfl; (with_reducible repeat (first | refine bkN ?_ _ | refine bkD ?_ | refine bkA ?_ _)); refine bH (cs := #[.int .i64 t430, .int .i64 t431, .int .i64 t432, .int .i64 0, .int .i64 0]) ?_ 3 _ rfl; (with_reducible repeat (first | refine bkN ?_ _ | refine bkD ?_ | refine bkA ?_ _)); refine bH (cs := #[.int .i64 t430, .int .i64 t431, .int .i64 0, .int .i64 0, .int .i64 0]) ?_ 2 _ rfl; (with_reducible repeat (first | refine bkN ?_ _ | refine bkD ?_ | refine bkA ?_ _)); refine bH (cs := #[.int .i64 t430, .int .i64 0, .int .i64 0, .int .i64 0, .int .i64 0]) ?_ 1 _ rfl; (with_reducible repeat (first | refine bkN ?_ _ | refine bkD ?_ | refine bkA ?_ _)); refine bH (cs := #[.int .i64 0, .int .i64 0, .int .i64 0, .int .i64 0, .int .i64 0]) ?_ 0 _ rfl; (with_reducible repeat (first | refine bkN ?_ _ | refine bkD ?_ | refine bkA ?_ _)); exact BK437.out) hb); have n5_ := aK.mk (bL (by repeat (first | (with_reducible first | exact HB.out | apply aU | apply aM | apply aT | refine bwS ?_ GE422.out | refine bwS ?_ GE437.out) | exact HB.out)) hb); clear HO416; clear HO425; clear HO429; clear BK422; clear BK437; clear HB; have HO416 := n0_; have HO425 := n1_; have HO429 := n2_; have BK422 := n3_; have BK437 := n4_; have HB := n5_; clear n0_ n1_ n2_ n3_ n4_ n5_; (try clear hb); (try clear hk)) | ((with_reducible refine bV (N := 11) rfl ?_); (try (refine gate_guard (by rfl) ?_; dsimp only)); refine bZ ?hg (N := 11) ?hd (cs := #[.int .i64 0, .int .i64 0, .int .i64 0, .int .i64 0, .int .i64 0]) (t := 27) ?hr ?_; (case hd => rfl); (case hg => rfl); (case hr => first | (go_simp; done) | (go_simp; rfl)); intro gb445 hg w26 hbox hb; have n0_ := aK.mk (Kd.cB (by (with_reducible repeat (first | apply Kd.bE | apply Kd.bF | apply Kd.bG)); exact HO416.out) hb); have n1_ := aK.mk (Kd.cB (by (with_reducible repeat (first | apply Kd.bE | apply Kd.bF | apply Kd.bG)); exact HO425.out) hb); have n2_ := aK.mk (Kd.cB (by (with_reducible repeat (first | apply Kd.bE | apply Kd.bF | apply Kd.bG)); exact HO429.out) hb); have n3_ := aK.mk (bC (g := gb422) (o := .cells #[.int .i64 t417, .int .i64 t418, .int .i64 t419, .int .i64 t420, .int .i64 t421] 27 (0, 0)) (by (with_reducible repeat (first | refine bkN ?_ _ | refine bkD ?_ | refine bkA ?_ _)); exact BK422.out) hb); have n4_ := aK.mk (bC (g := gb437) (o := .cells #[.int .i64 t430, .int .i64 t431, .int .i64 t432, .int .i64 t433, .int .i64 t434] 27 (0, 0)) (by (with_reducible repeat (first | refine bkN ?_ _ | refine bkD ?_ | refine bkA ?_ _)); exact BK437.out) hb); have n5_ := aK.mk (bL (by repeat (first | (with_reducible first | exact HB.out | apply aU | apply aM | apply aT | refine bwS ?_ GE422.out | refine bwS ?_ GE437.out) | exact HB.out)) hb); have n6_ := aK.mk (hbox); have n7_ := aK.mk ((by rw [hg]; exact (bN (by repeat (first | (with_reducible first | exact HB.out | apply aU | apply aM | apply aT | refine bwS ?_ GE422.out | refine bwS ?_ GE437.out) | exact HB.out))) : w.heap.size ≤ gb445)); have n8_ := aK.mk ((by rw [hg]; exact (bN (by repeat (first | (with_reducible first | exact HB.out | apply aU | apply aM | apply aT | refine bwS ?_ GE422.out | refine bwS ?_ GE437.out) | exact HB.out))) : w.heap.size ≤ gb445)); have n9_ := aK.mk ((by rw [hg]; exact Nat.ne_of_lt (bW (g := gb422) (o := .cells #[.int .i64 t417, .int .i64 t418, .int .i64 t419, .int .i64 t420, .int .i64 t421] 27 (0, 0)) (by (with_reducible repeat (first | refine bkN ?_ _ | refine bkD ?_ | refine bkA ?_ _)); exact BK422.out)) : gb422 ≠ gb445)); have n10_ := aK.mk ((by rw [hg]; exact Nat.ne_of_gt (bW (g := gb422) (o := .cells #[.int .i64 t417, .int .i64 t418, .int .i64 t419, .int .i64 t420, .int .i64 t421] 27 (0, 0)) (by (with_reducible repeat (first | refine bkN ?_ _ | refine bkD ?_ | refine bkA ?_ _)); exact BK422.out)) : gb445 ≠ gb422)); have n11_ := aK.mk ((by rw [hg]; exact Nat.ne_of_lt (bW (g := gb437) (o := .cells #[.int .i64 t430, .int .i64 t431, .int .i64 t432, .int .i64 t433, .int .i64 t434] 27 (0, 0)) (by (with_reducible repeat (first | refine bkN ?_ _ | refine bkD ?_ | refine bkA ?_ _)); exact BK437.out)) : gb437 ≠ gb445)); have n12_ := aK.mk ((by rw [hg]; exact Nat.ne_of_gt (bW (g := gb437) (o := .cells #[.int .i64 t430, .int .i64 t431, .int .i64 t432, .int .i64 t433, .int .i64 t434] 27 (0, 0)) (by (with_reducible repeat (first | refine bkN ?_ _ | refine bkD ?_ | refine bkA ?_ _)); exact BK437.out)) : gb445 ≠ gb437)); clear HO416; clear HO425; clear HO429; clear BK422; clear BK437; clear HB; have HO416 := n0_; have HO425 := n1_; have HO429 := n2_; have BK422 := n3_; have BK437 := n4_; have HB := n5_; have BK445 := n6_; have GW445 := n7_; have GE445 := n8_; have NB422_445 := n9_; have NB445_422 := n10_; have NB437_445 := n11_; have NB445_437 := n12_; clear n0_ n1_ n2_ n3_ n4_ n5_ n6_ n7_ n8_ n9_ n10_ n11_ n12_; clear hb hbox hg; have hnb27 := NB445_422.out; have hnc27 := NB422_445.out; have hnb28 := NB445_437.out; have hnc28 := NB437_445.out; have hcz29_0 : w26.cell? ⟨gb445, 0, none⟩ = some (.int .i64 0) := (aQ BK445.out 0).trans rfl; have hcz29_1 : w26.cell? ⟨gb445, 1, none⟩ = some (.int .i64 0) := (aQ BK445.out 1).trans rfl; have hcz29_2 : w26.cell? ⟨gb445, 2, none⟩ = some (.int .i64 0) := (aQ BK445.out 2).trans rfl; have hcz29_3 : w26.cell? ⟨gb445, 3, none⟩ = some (.int .i64 0) := (aQ BK445.out 3).trans rfl; have hcz29_4 : w26.cell? ⟨gb445, 4, none⟩ = some (.int .i64 0) := (aQ BK445.out 4).trans rfl; have hfz29_0 := aN BK445.out 0; have hfz29_1 := aN BK445.out 1; have hfz29_2 := aN BK445.out 2; have hfz29_3 := aN BK445.out 3; have hfz29_4 := aN BK445.out 4) | ((with_reducible refine bR (f := 27) rfl ?_); refine bX (some 51) rfl rfl Try.func27 (by kernel_rfl) rfl #[.slice A0 l0.length c0] rfl (by (try simp only [List.map_toArray, List.map_cons, List.map_nil]); first | done | rfl | (simp only [List.length_drop, List.length_take]; rfl)) ?_; (with_reducible refine (spec_DrawLessKey.calls k _ _ l0 t446 t447 t448 t449 t450 t451 t452 t453 t454 t455 _ ?side1 ?side2 A9.out).mono ?_); (case side1 => exact Kd.C_below HR0.out (by repeat (first | (with_reducible first | exact HB.out | apply aU | apply aM | apply aT | refine bwS ?_ GE422.out | refine bwS ?_ GE437.out | refine bwS ?_ GE445.out) | exact HB.out))); (case side2 => exact HC0.out); rintro e w30 ⟨rfl, hb⟩; refine ⟨_, rfl, ?_⟩; have n0_ := aK.mk (Kd.cB (by (with_reducible repeat (first | apply Kd.bE | apply Kd.bF | apply Kd.bG)); exact (Kd.cA (Kd.R_far (p := ⟨gb445, 4, none⟩) (Kd.R_far (p := ⟨gb445, 3, none⟩) (Kd.R_far (p := ⟨gb445, 2, none⟩) (Kd.R_far (p := ⟨gb445, 1, none⟩) (Kd.R_far (p := ⟨gb445, 0, none⟩) (Kd.R_types HO416.out BK445.out (by decide)) (fun _ hk => hk.2) (.int .i64 t438)) (fun _ hk => hk.2) (.int .i64 t439)) (fun _ hk => hk.2) (.int .i64 t440)) (fun _ hk => hk.2) (.int .i64 t441)) (fun _ hk => hk.2) (.int .i64 t442)) (fun _ h_ => h_.1))) hb); have n1_ := aK.mk (Kd.cB (by (with_reducible repeat (first | apply Kd.bE | apply Kd.bF | apply Kd.bG)); exact (Kd.cA (Kd.R_far (p := ⟨gb445, 4, none⟩) (Kd.R_far (p := ⟨gb445, 3, none⟩) (Kd.R_far (p := ⟨gb445, 2, none⟩) (Kd.R_far (p := ⟨gb445, 1, none⟩) (Kd.R_far (p := ⟨gb445, 0, none⟩) (Kd.R_types HO425.out BK445.out (by decide)) (fun _ hk => hk.2) (.int .i64 t438)) (fun _ hk => hk.2) (.int .i64 t439)) (fun _ hk => hk.2) (.int .i64 t440)) (fun _ hk => hk.2) (.int .i64 t441)) (fun _ hk => hk.2) (.int .i64 t442)) (fun _ h_ => h_.1))) hb); have n2_ := aK.mk (Kd.cB (by (with_reducible repeat (first | apply Kd.bE | apply Kd.bF | apply Kd.bG)); exact (Kd.cA (Kd.R_far (p := ⟨gb445, 4, none⟩) (Kd.R_far (p := ⟨gb445, 3, none⟩) (Kd.R_far (p := ⟨gb445, 2, none⟩) (Kd.R_far (p := ⟨gb445, 1, none⟩) (Kd.R_far (p := ⟨gb445, 0, none⟩) (Kd.R_types HO429.out BK445.out (by decide)) (fun _ hk => hk.2) (.int .i64 t438)) (fun _ hk => hk.2) (.int .i64 t439)) (fun _ hk => hk.2) (.int .i64 t440)) (fun _ hk => hk.2) (.int .i64 t441)) (fun _ hk => hk.2) (.int .i64 t442)) (fun _ h_ => h_.1))) hb); have n3_ := aK.mk (bC (g := gb422) (o := .cells #[.int .i64 t417, .int .i64 t418, .int .i64 t419, .int .i64 t420, .int .i64 t421] 27 (0, 0)) (by (with_reducible repeat (first | refine bkN ?_ _ | refine bkD ?_ | refine bkA ?_ _)); refine bP ?_ NB422_445.out _; (with_reducible repeat (first | refine bkN ?_ _ | refine bkD ?_ | refine bkA ?_ _)); refine bP ?_ NB422_445.out _; (with_reducible repeat (first | refine bkN ?_ _ | refine bkD ?_ | refine bkA ?_ _)); refine bP ?_ NB422_445.out _; (with_reducible repeat (first | refine bkN ?_ _ | refine bkD ?_ | refine bkA ?_ _)); refine bP ?_ NB422_445.out _; (with_reducible repeat (first | refine bkN ?_ _ | refine bkD ?_ | refine bkA ?_ _)); refine bP ?_ NB422_445.out _; (with_reducible repeat (first | refine bkN ?_ _ | refine bkD ?_ | refine bkA ?_ _)); exact BK422.out) hb); have n4_ := aK.mk (bC (g := gb437) (o := .cells #[.int .i64 t430, .int .i64 t431, .int .i64 t432, .int .i64 t433, .int .i64 t434] 27 (0, 0)) (by (with_reducible repeat (first | refine bkN ?_ _ | refine bkD ?_ | refine bkA ?_ _)); refine bP ?_ NB437_445.out _; (with_reducible repeat (first | refine bkN ?_ _ | refine bkD ?_ | refine bkA ?_ _)); refine bP ?_ NB437_445.out _; (with_reducible repeat (first | refine bkN ?_ _ | refine bkD ?_ | refine bkA ?_ _)); refine bP ?_ NB437_445.out _; (with_reducible repeat (first | refine bkN ?_ _ | refine bkD ?_ | refine bkA ?_ _)); refine bP ?_ NB437_445.out _; (with_reducible repeat (first | refine bkN ?_ _ | refine bkD ?_ | refine bkA ?_ _)); refine bP ?_ NB437_445.out _; (with_reducible repeat (first | refine bkN ?_ _ | refine bkD ?_ | refine bkA ?_ _)); exact BK437.out) hb); have n5_ := aK.mk (bC (g := gb445) (o := .cells #[.int .i64 t438, .int .i64 t439, .int .i64 t440, .int .i64 t441, .int .i64 t442] 27 (0, 0)) (by (with_reducible repeat (first | refine bkN ?_ _ | refine bkD ?_ | refine bkA ?_ _)); refine bH (cs := #[.int .i64 t438, .int .i64 t439, .int .i64 t440, .int .i64 t441, .int .i64 0]) ?_ 4 _ rfl; (with_reducible repeat (first | refine bkN ?_ _ | refine bkD ?_ | refine bkA ?_ _)); refine bH (cs := #[.int .i64 t438, .int .i64 t439, .int .i64 t440, .int .i64 0, .int .i64 0]) ?_ 3 _ rfl; (with_reducible repeat (first | refine bkN ?_ _ | refine bkD ?_ | refine bkA ?_ _)); refine bH (cs := #[.int .i64 t438, .int .i64 t439, .int .i64 0, .int .i64 0, .int .i64 0]) ?_ 2 _ rfl; (with_reducible repeat (first | refine bkN ?_ _ | refine bkD ?_ | refine bkA ?_ _)); refine bH (cs := #[.int .i64 t438, .int .i64 0, .int .i64 0, .int .i64 0, .int .i64 0]) ?_ 1 _ rfl; (with_reducible repeat (first | refine bkN ?_ _ | refine bkD ?_ | refine bkA ?_ _)); refine bH (cs := #[.int .i64 0, .int .i64 0, .int .i64 0, .int .i64 0, .int .i64 0]) ?_ 0 _ rfl; (with_reducible repeat (first | refine bkN ?_ _ | refine bkD ?_ | refine bkA ?_ _)); exact BK445.out) hb); have n6_ := aK.mk (bL (by repeat (first | (with_reducible first | exact HB.out | apply aU | apply aM | apply aT | refine bwS ?_ GE422.out | refine bwS ?_ GE437.out | refine bwS ?_ GE445.out) | exact HB.out)) hb); clear HO416; clear HO425; clear HO429; clear BK422; clear BK437; clear BK445; clear HB; have HO416 := n0_; have HO425 := n1_; have HO429 := n2_; have BK422 := n3_; have BK437 := n4_; have BK445 := n5_; have HB := n6_; clear n0_ n1_ n2_ n3_ n4_ n5_ n6_; (try clear hb); (try clear hk)) | ((with_reducible refine bV (N := 14) rfl ?_); (try (refine gate_guard (by rfl) ?_; dsimp only)); refine bZ ?hg (N := 14) ?hd (cs := #[.int .i64 0, .int .i64 0, .int .i64 0, .int .i64 0, .int .i64 0]) (t := 27) ?hr ?_; (case hd => rfl); (case hg => rfl); (case hr => first | (go_simp; done) | (go_simp; rfl)); intro gb456 hg w31 hbox hb; have n0_ := aK.mk (Kd.cB (by (with_reducible repeat (first | apply Kd.bE | apply Kd.bF | apply Kd.bG)); exact HO416.out) hb); have n1_ := aK.mk (Kd.cB (by (with_reducible repeat (first | apply Kd.bE | apply Kd.bF | apply Kd.bG)); exact HO425.out) hb); have n2_ := aK.mk (Kd.cB (by (with_reducible repeat (first | apply Kd.bE | apply Kd.bF | apply Kd.bG)); exact HO429.out) hb); have n3_ := aK.mk (bC (g := gb422) (o := .cells #[.int .i64 t417, .int .i64 t418, .int .i64 t419, .int .i64 t420, .int .i64 t421] 27 (0, 0)) (by (with_reducible repeat (first | refine bkN ?_ _ | refine bkD ?_ | refine bkA ?_ _)); exact BK422.out) hb); have n4_ := aK.mk (bC (g := gb437) (o := .cells #[.int .i64 t430, .int .i64 t431, .int .i64 t432, .int .i64 t433, .int .i64 t434] 27 (0, 0)) (by (with_reducible repeat (first | refine bkN ?_ _ | refine bkD ?_ | refine bkA ?_ _)); exact BK437.out) hb); have n5_ := aK.mk (bC (g := gb445) (o := .cells #[.int .i64 t438, .int .i64 t439, .int .i64 t440, .int .i64 t441, .int .i64 t442] 27 (0, 0)) (by (with_reducible repeat (first | refine bkN ?_ _ | refine bkD ?_ | refine bkA ?_ _)); exact BK445.out) hb); have n6_ := aK.mk (bL (by repeat (first | (with_reducible first | exact HB.out | apply aU | apply aM | apply aT | refine bwS ?_ GE422.out | refine bwS ?_ GE437.out | refine bwS ?_ GE445.out) | exact HB.out)) hb); have n7_ := aK.mk (hbox); have n8_ := aK.mk ((by rw [hg]; exact (bN (by repeat (first | (with_reducible first | exact HB.out | apply aU | apply aM | apply aT | refine bwS ?_ GE422.out | refine bwS ?_ GE437.out | refine bwS ?_ GE445.out) | exact HB.out))) : w.heap.size ≤ gb456)); have n9_ := aK.mk ((by rw [hg]; exact (bN (by repeat (first | (with_reducible first | exact HB.out | apply aU | apply aM | apply aT | refine bwS ?_ GE422.out | refine bwS ?_ GE437.out | refine bwS ?_ GE445.out) | exact HB.out))) : w.heap.size ≤ gb456)); have n10_ := aK.mk ((by rw [hg]; exact Nat.ne_of_lt (bW (g := gb422) (o := .cells #[.int .i64 t417, .int .i64 t418, .int .i64 t419, .int .i64 t420, .int .i64 t421] 27 (0, 0)) (by (with_reducible repeat (first | refine bkN ?_ _ | refine bkD ?_ | refine bkA ?_ _)); exact BK422.out)) : gb422 ≠ gb456)); have n11_ := aK.mk ((by rw [hg]; exact Nat.ne_of_gt (bW (g := gb422) (o := .cells #[.int .i64 t417, .int .i64 t418, .int .i64 t419, .int .i64 t420, .int .i64 t421] 27 (0, 0)) (by (with_reducible repeat (first | refine bkN ?_ _ | refine bkD ?_ | refine bkA ?_ _)); exact BK422.out)) : gb456 ≠ gb422)); have n12_ := aK.mk ((by rw [hg]; exact Nat.ne_of_lt (bW (g := gb437) (o := .cells #[.int .i64 t430, .int .i64 t431, .int .i64 t432, .int .i64 t433, .int .i64 t434] 27 (0, 0)) (by (with_reducible repeat (first | refine bkN ?_ _ | refine bkD ?_ | refine bkA ?_ _)); exact BK437.out)) : gb437 ≠ gb456)); have n13_ := aK.mk ((by rw [hg]; exact Nat.ne_of_gt (bW (g := gb437) (o := .cells #[.int .i64 t430, .int .i64 t431, .int .i64 t432, .int .i64 t433, .int .i64 t434] 27 (0, 0)) (by (with_reducible repeat (first | refine bkN ?_ _ | refine bkD ?_ | refine bkA ?_ _)); exact BK437.out)) : gb456 ≠ gb437)); have n14_ := aK.mk ((by rw [hg]; exact Nat.ne_of_lt (bW (g := gb445) (o := .cells #[.int .i64 t438, .int .i64 t439, .int .i64 t440, .int .i64 t441, .int .i64 t442] 27 (0, 0)) (by (with_reducible repeat (first | refine bkN ?_ _ | refine bkD ?_ | refine bkA ?_ _)); exact BK445.out)) : gb445 ≠ gb456)); have n15_ := aK.mk ((by rw [hg]; exact Nat.ne_of_gt (bW (g := gb445) (o := .cells #[.int .i64 t438, .int .i64 t439, .int .i64 t440, .int .i64 t441, .int .i64 t442] 27 (0, 0)) (by (with_reducible repeat (first | refine bkN ?_ _ | refine bkD ?_ | refine bkA ?_ _)); exact BK445.out)) : gb456 ≠ gb445)); clear HO416; clear HO425; clear HO429; clear BK422; clear BK437; clear BK445; clear HB; have HO416 := n0_; have HO425 := n1_; have HO429 := n2_; have BK422 := n3_; have BK437 := n4_; have BK445 := n5_; have HB := n6_; have BK456 := n7_; have GW456 := n8_; have GE456 := n9_; have NB422_456 := n10_; have NB456_422 := n11_; have NB437_456 := n12_; have NB456_437 := n13_; have NB445_456 := n14_; have NB456_445 := n15_; clear n0_ n1_ n2_ n3_ n4_ n5_ n6_ n7_ n8_ n9_ n10_ n11_ n12_ n13_ n14_ n15_; clear hb hbox hg) | ((with_reducible refine bV (N := 15) rfl ?_); (try (refine gate_guard (by rfl) ?_; dsimp only)); refine bZ ?hg (N := 15) ?hd (cs := #[.int .i64 0, .int .i64 0, .int .i64 0, .int .i64 0, .int .i64 0]) (t := 27) ?hr ?_; (case hd => rfl); (case hg => rfl); (case hr => first | (go_simp; done) | (go_simp; rfl)); intro gb457 hg w32 hbox hb; have n0_ := aK.mk (Kd.cB (by (with_reducible repeat (first | apply Kd.bE | apply Kd.bF | apply Kd.bG)); exact HO416.out) hb); have n1_ := aK.mk (Kd.cB (by (with_reducible repeat (first | apply Kd.bE | apply Kd.bF | apply Kd.bG)); exact HO425.out) hb); have n2_ := aK.mk (Kd.cB (by (with_reducible repeat (first | apply Kd.bE | apply Kd.bF | apply Kd.bG)); exact HO429.out) hb); have n3_ := aK.mk (bC (g := gb422) (o := .cells #[.int .i64 t417, .int .i64 t418, .int .i64 t419, .int .i64 t420, .int .i64 t421] 27 (0, 0)) (by (with_reducible repeat (first | refine bkN ?_ _ | refine bkD ?_ | refine bkA ?_ _)); exact BK422.out) hb); have n4_ := aK.mk (bC (g := gb437) (o := .cells #[.int .i64 t430, .int .i64 t431, .int .i64 t432, .int .i64 t433, .int .i64 t434] 27 (0, 0)) (by (with_reducible repeat (first | refine bkN ?_ _ | refine bkD ?_ | refine bkA ?_ _)); exact BK437.out) hb); have n5_ := aK.mk (bC (g := gb445) (o := .cells #[.int .i64 t438, .int .i64 t439, .int .i64 t440, .int .i64 t441, .int .i64 t442] 27 (0, 0)) (by (with_reducible repeat (first | refine bkN ?_ _ | refine bkD ?_ | refine bkA ?_ _)); exact BK445.out) hb); have n6_ := aK.mk (bC (g := gb456) (o := .cells #[.int .i64 0, .int .i64 0, .int .i64 0, .int .i64 0, .int .i64 0] 27 (0, 0)) (by (with_reducible repeat (first | refine bkN ?_ _ | refine bkD ?_ | refine bkA ?_ _)); exact BK456.out) hb); have n7_ := aK.mk (bL (by repeat (first | (with_reducible first | exact HB.out | apply aU | apply aM | apply aT | refine bwS ?_ GE422.out | refine bwS ?_ GE437.out | refine bwS ?_ GE445.out | refine bwS ?_ GE456.out) | exact HB.out)) hb); have n8_ := aK.mk (hbox); have n9_ := aK.mk ((by rw [hg]; exact (bN (by repeat (first | (with_reducible first | exact HB.out | apply aU | apply aM | apply aT | refine bwS ?_ GE422.out | refine bwS ?_ GE437.out | refine bwS ?_ GE445.out | refine bwS ?_ GE456.out) | exact HB.out))) : w.heap.size ≤ gb457)); have n10_ := aK.mk ((by rw [hg]; exact (bN (by repeat (first | (with_reducible first | exact HB.out | apply aU | apply aM | apply aT | refine bwS ?_ GE422.out | refine bwS ?_ GE437.out | refine bwS ?_ GE445.out | refine bwS ?_ GE456.out) | exact HB.out))) : w.heap.size ≤ gb457)); have n11_ := aK.mk ((by rw [hg]; exact Nat.ne_of_lt (bW (g := gb422) (o := .cells #[.int .i64 t417, .int .i64 t418, .int .i64 t419, .int .i64 t420, .int .i64 t421] 27 (0, 0)) (by (with_reducible repeat (first | refine bkN ?_ _ | refine bkD ?_ | refine bkA ?_ _)); exact BK422.out)) : gb422 ≠ gb457)); have n12_ := aK.mk ((by rw [hg]; exact Nat.ne_of_gt (bW (g := gb422) (o := .cells #[.int .i64 t417, .int .i64 t418, .int .i64 t419, .int .i64 t420, .int .i64 t421] 27 (0, 0)) (by (with_reducible repeat (first | refine bkN ?_ _ | refine bkD ?_ | refine bkA ?_ _)); exact BK422.out)) : gb457 ≠ gb422)); have n13_ := aK.mk ((by rw [hg]; exact Nat.ne_of_lt (bW (g := gb437) (o := .cells #[.int .i64 t430, .int .i64 t431, .int .i64 t432, .int .i64 t433, .int .i64 t434] 27 (0, 0)) (by (with_reducible repeat (first | refine bkN ?_ _ | refine bkD ?_ | refine bkA ?_ _)); exact BK437.out)) : gb437 ≠ gb457)); have n14_ := aK.mk ((by rw [hg]; exact Nat.ne_of_gt (bW (g := gb437) (o := .cells #[.int .i64 t430, .int .i64 t431, .int .i64 t432, .int .i64 t433, .int .i64 t434] 27 (0, 0)) (by (with_reducible repeat (first | refine bkN ?_ _ | refine bkD ?_ | refine bkA ?_ _)); exact BK437.out)) : gb457 ≠ gb437)); have n15_ := aK.mk ((by rw [hg]; exact Nat.ne_of_lt (bW (g := gb445) (o := .cells #[.int .i64 t438, .int .i64 t439, .int .i64 t440, .int .i64 t441, .int .i64 t442] 27 (0, 0)) (by (with_reducible repeat (first | refine bkN ?_ _ | refine bkD ?_ | refine bkA ?_ _)); exact BK445.out)) : gb445 ≠ gb457)); have n16_ := aK.mk ((by rw [hg]; exact Nat.ne_of_gt (bW (g := gb445) (o := .cells #[.int .i64 t438, .int .i64 t439, .int .i64 t440, .int .i64 t441, .int .i64 t442] 27 (0, 0)) (by (with_reducible repeat (first | refine bkN ?_ _ | refine bkD ?_ | refine bkA ?_ _)); exact BK445.out)) : gb457 ≠ gb445)); have n17_ := aK.mk ((by rw [hg]; exact Nat.ne_of_lt (bW (g := gb456) (o := .cells #[.int .i64 0, .int .i64 0, .int .i64 0, .int .i64 0, .int .i64 0] 27 (0, 0)) (by (with_reducible repeat (first | refine bkN ?_ _ | refine bkD ?_ | refine bkA ?_ _)); exact BK456.out)) : gb456 ≠ gb457)); have n18_ := aK.mk ((by rw [hg]; exact Nat.ne_of_gt (bW (g := gb456) (o := .cells #[.int .i64 0, .int .i64 0, .int .i64 0, .int .i64 0, .int .i64 0] 27 (0, 0)) (by (with_reducible repeat (first | refine bkN ?_ _ | refine bkD ?_ | refine bkA ?_ _)); exact BK456.out)) : gb457 ≠ gb456)); clear HO416; clear HO425; clear HO429; clear BK422; clear BK437; clear BK445; clear BK456; clear HB; have HO416 := n0_; have HO425 := n1_; have HO429 := n2_; have BK422 := n3_; have BK437 := n4_; have BK445 := n5_; have BK456 := n6_; have HB := n7_; have BK457 := n8_; have GW457 := n9_; have GE457 := n10_; have NB422_457 := n11_; have NB457_422 := n12_; have NB437_457 := n13_; have NB457_437 := n14_; have NB445_457 := n15_; have NB457_445 := n16_; have NB456_457 := n17_; have NB457_456 := n18_; clear n0_ n1_ n2_ n3_ n4_ n5_ n6_ n7_ n8_ n9_ n10_ n11_ n12_ n13_ n14_ n15_ n16_ n17_ n18_; clear hb hbox hg; have hnb33 := NB456_422.out; have hnc33 := NB422_456.out; have hnb34 := NB456_437.out; have hnc34 := NB437_456.out; have hnb35 := NB456_445.out; have hnc35 := NB445_456.out; have hnb36 := NB456_457.out; have hnc36 := NB457_456.out; have hcz37_0 : w32.cell? ⟨gb456, 0, none⟩ = some (.int .i64 0) := (aQ BK456.out 0).trans rfl; have hcz37_1 : w32.cell? ⟨gb456, 1, none⟩ = some (.int .i64 0) := (aQ BK456.out 1).trans rfl; have hcz37_2 : w32.cell? ⟨gb456, 2, none⟩ = some (.int .i64 0) := (aQ BK456.out 2).trans rfl; have hcz37_3 : w32.cell? ⟨gb456, 3, none⟩ = some (.int .i64 0) := (aQ BK456.out 3).trans rfl; have hcz37_4 : w32.cell? ⟨gb456, 4, none⟩ = some (.int .i64 0) := (aQ BK456.out 4).trans rfl; have hfz37_0 := aN BK456.out 0; have hfz37_1 := aN BK456.out 1; have hfz37_2 := aN BK456.out 2; have hfz37_3 := aN BK456.out 3; have hfz37_4 := aN BK456.out 4; have hnb38 := NB457_422.out; have hnc38 := NB422_457.out; have hnb39 := NB457_437.out; have hnc39 := NB437_457.out; have hnb40 := NB457_445.out; have hnc40 := NB445_457.out; have hcz41_0 : w32.cell? ⟨gb457, 0, none⟩ = some (.int .i64 0) := (aQ BK457.out 0).trans rfl; have hcz41_1 : w32.cell? ⟨gb457, 1, none⟩ = some (.int .i64 0) := (aQ BK457.out 1).trans rfl; have hcz41_2 : w32.cell? ⟨gb457, 2, none⟩ = some (.int .i64 0) := (aQ BK457.out 2).trans rfl; have hcz41_3 : w32.cell? ⟨gb457, 3, none⟩ = some (.int .i64 0) := (aQ BK457.out 3).trans rfl; have hcz41_4 : w32.cell? ⟨gb457, 4, none⟩ = some (.int .i64 0) := (aQ BK457.out 4).trans rfl; have hfz41_0 := aN BK457.out 0; have hfz41_1 := aN BK457.out 1; have hfz41_2 := aN BK457.out 2; have hfz41_3 := aN BK457.out 3; have hfz41_4 := aN BK457.out 4) | ((with_reducible refine bR (f := 28) rfl ?_); refine bX (some 56) rfl rfl Try.func28 (by kernel_rfl) rfl #[.agg #[.int .i64 t446, .int .i64 t447, .int .i64 t448, .int .i64 t449, .int .i64 t450], .agg #[.int .i64 t451, .int .i64 t452, .int .i64 t453, .int .i64 t454, .int .i64 t455]] rfl (by (try simp only [List.map_toArray, List.map_cons, List.map_nil]); first | done | rfl | (simp only [List.length_drop, List.length_take]; rfl)) ?_; (with_reducible refine (impl_LessKey.calls t446 t447 t448 t449 t450 t451 t452 t453 t454 t455 t458 _ A10.out).mono ?_); rintro e w42 ⟨rfl, hb⟩; refine ⟨_, rfl, ?_⟩; have n0_ := aK.mk (Kd.cB (by (with_reducible repeat (first | apply Kd.bE | apply Kd.bF | apply Kd.bG)); exact (Kd.cA (Kd.cA (Kd.R_far (p := ⟨gb457, 4, none⟩) (Kd.R_far (p := ⟨gb457, 3, none⟩) (Kd.R_far (p := ⟨gb457, 2, none⟩) (Kd.R_far (p := ⟨gb457, 1, none⟩) (Kd.R_far (p := ⟨gb457, 0, none⟩) (Kd.R_far (p := ⟨gb456, 4, none⟩) (Kd.R_far (p := ⟨gb456, 3, none⟩) (Kd.R_far (p := ⟨gb456, 2, none⟩) (Kd.R_far (p := ⟨gb456, 1, none⟩) (Kd.R_far (p := ⟨gb456, 0, none⟩) (Kd.R_types (Kd.R_types HO416.out BK456.out (by decide)) BK457.out (by decide)) (fun _ hk => hk.1.2) (.int .i64 t446)) (fun _ hk => hk.1.2) (.int .i64 t447)) (fun _ hk => hk.1.2) (.int .i64 t448)) (fun _ hk => hk.1.2) (.int .i64 t449)) (fun _ hk => hk.1.2) (.int .i64 t450)) (fun _ hk => hk.2) (.int .i64 t451)) (fun _ hk => hk.2) (.int .i64 t452)) (fun _ hk => hk.2) (.int .i64 t453)) (fun _ hk => hk.2) (.int .i64 t454)) (fun _ hk => hk.2) (.int .i64 t455)) (fun _ h_ => h_.1)) (fun _ h_ => h_.1))) hb); have n1_ := aK.mk (Kd.cB (by (with_reducible repeat (first | apply Kd.bE | apply Kd.bF | apply Kd.bG)); exact (Kd.cA (Kd.cA (Kd.R_far (p := ⟨gb457, 4, none⟩) (Kd.R_far (p := ⟨gb457, 3, none⟩) (Kd.R_far (p := ⟨gb457, 2, none⟩) (Kd.R_far (p := ⟨gb457, 1, none⟩) (Kd.R_far (p := ⟨gb457, 0, none⟩) (Kd.R_far (p := ⟨gb456, 4, none⟩) (Kd.R_far (p := ⟨gb456, 3, none⟩) (Kd.R_far (p := ⟨gb456, 2, none⟩) (Kd.R_far (p := ⟨gb456, 1, none⟩) (Kd.R_far (p := ⟨gb456, 0, none⟩) (Kd.R_types (Kd.R_types HO425.out BK456.out (by decide)) BK457.out (by decide)) (fun _ hk => hk.1.2) (.int .i64 t446)) (fun _ hk => hk.1.2) (.int .i64 t447)) (fun _ hk => hk.1.2) (.int .i64 t448)) (fun _ hk => hk.1.2) (.int .i64 t449)) (fun _ hk => hk.1.2) (.int .i64 t450)) (fun _ hk => hk.2) (.int .i64 t451)) (fun _ hk => hk.2) (.int .i64 t452)) (fun _ hk => hk.2) (.int .i64 t453)) (fun _ hk => hk.2) (.int .i64 t454)) (fun _ hk => hk.2) (.int .i64 t455)) (fun _ h_ => h_.1)) (fun _ h_ => h_.1))) hb); have n2_ := aK.mk (Kd.cB (by (with_reducible repeat (first | apply Kd.bE | apply Kd.bF | apply Kd.bG)); exact (Kd.cA (Kd.cA (Kd.R_far (p := ⟨gb457, 4, none⟩) (Kd.R_far (p := ⟨gb457, 3, none⟩) (Kd.R_far (p := ⟨gb457, 2, none⟩) (Kd.R_far (p := ⟨gb457, 1, none⟩) (Kd.R_far (p := ⟨gb457, 0, none⟩) (Kd.R_far (p := ⟨gb456, 4, none⟩) (Kd.R_far (p := ⟨gb456, 3, none⟩) (Kd.R_far (p := ⟨gb456, 2, none⟩) (Kd.R_far (p := ⟨gb456, 1, none⟩) (Kd.R_far (p := ⟨gb456, 0, none⟩) (Kd.R_types (Kd.R_types HO429.out BK456.out (by decide)) BK457.out (by decide)) (fun _ hk => hk.1.2) (.int .i64 t446)) (fun _ hk => hk.1.2) (.int .i64 t447)) (fun _ hk => hk.1.2) (.int .i64 t448)) (fun _ hk => hk.1.2) (.int .i64 t449)) (fun _ hk => hk.1.2) (.int .i64 t450)) (fun _ hk => hk.2) (.int .i64 t451)) (fun _ hk => hk.2) (.int .i64 t452)) (fun _ hk => hk.2) (.int .i64 t453)) (fun _ hk => hk.2) (.int .i64 t454)) (fun _ hk => hk.2) (.int .i64 t455)) (fun _ h_ => h_.1)) (fun _ h_ => h_.1))) hb); have n3_ := aK.mk (bC (g := gb422) (o := .cells #[.int .i64 t417, .int .i64 t418, .int .i64 t419, .int .i64 t420, .int .i64 t421] 27 (0, 0)) (by (with_reducible repeat (first | refine bkN ?_ _ | refine bkD ?_ | refine bkA ?_ _)); refine bP ?_ NB422_457.out _; (with_reducible repeat (first | refine bkN ?_ _ | refine bkD ?_ | refine bkA ?_ _)); refine bP ?_ NB422_457.out _; (with_reducible repeat (first | refine bkN ?_ _ | refine bkD ?_ | refine bkA ?_ _)); refine bP ?_ NB422_457.out _; (with_reducible repeat (first | refine bkN ?_ _ | refine bkD ?_ | refine bkA ?_ _)); refine bP ?_ NB422_457.out _; (with_reducible repeat (first | refine bkN ?_ _ | refine bkD ?_ | refine bkA ?_ _)); refine bP ?_ NB422_457.out _; (with_reducible repeat (first | refine bkN ?_ _ | refine bkD ?_ | refine bkA ?_ _)); refine bP ?_ NB422_456.out _; (with_reducible repeat (first | refine bkN ?_ _ | refine bkD ?_ | refine bkA ?_ _)); refine bP ?_ NB422_456.out _; (with_reducible repeat (first | refine bkN ?_ _ | refine bkD ?_ | refine bkA ?_ _)); refine bP ?_ NB422_456.out _; (with_reducible repeat (first | refine bkN ?_ _ | refine bkD ?_ | refine bkA ?_ _)); refine bP ?_ NB422_456.out _; (with_reducible repeat (first | refine bkN ?_ _ | refine bkD ?_ | refine bkA ?_ _)); refine bP ?_ NB422_456.out _; (with_reducible repeat (first | refine bkN ?_ _ | refine bkD ?_ | refine bkA ?_ _)); exact BK422.out) hb); have n4_ := aK.mk (bC (g := gb437) (o := .cells #[.int .i64 t430, .int .i64 t431, .int .i64 t432, .int .i64 t433, .int .i64 t434] 27 (0, 0)) (by (with_reducible repeat (first | refine bkN ?_ _ | refine bkD ?_ | refine bkA ?_ _)); refine bP ?_ NB437_457.out _; (with_reducible repeat (first | refine bkN ?_ _ | refine bkD ?_ | refine bkA ?_ _)); refine bP ?_ NB437_457.out _; (with_reducible repeat (first | refine bkN ?_ _ | refine bkD ?_ | refine bkA ?_ _)); refine bP ?_ NB437_457.out _; (with_reducible repeat (first | refine bkN ?_ _ | refine bkD ?_ | refine bkA ?_ _)); refine bP ?_ NB437_457.out _; (with_reducible repeat (first | refine bkN ?_ _ | refine bkD ?_ | refine bkA ?_ _)); refine bP ?_ NB437_457.out _; (with_reducible repeat (first | refine bkN ?_ _ | refine bkD ?_ | refine bkA ?_ _)); refine bP ?_ NB437_456.out _; (with_reducible repeat (first | refine bkN ?_ _ | refine bkD ?_ | refine bkA ?_ _)); refine bP ?_ NB437_456.out _; (with_reducible repeat (first | refine bkN ?_ _ | refine bkD ?_ | refine bkA ?_ _)); refine bP ?_ NB437_456.out _; (with_reducible repeat (first | refine bkN ?_ _ | refine bkD ?_ | refine bkA ?_ _)); refine bP ?_ NB437_456.out _; (with_reducible repeat (first | refine bkN ?_ _ | refine bkD ?_ | refine bkA ?_ _)); refine bP ?_ NB437_456.out _; (with_reducible repeat (first | refine bkN ?_ _ | refine bkD ?_ | refine bkA ?_ _)); exact BK437.out) hb); have n5_ := aK.mk (bC (g := gb445) (o := .cells #[.int .i64 t438, .int .i64 t439, .int .i64 t440, .int .i64 t441, .int .i64 t442] 27 (0, 0)) (by (with_reducible repeat (first | refine bkN ?_ _ | refine bkD ?_ | refine bkA ?_ _)); refine bP ?_ NB445_457.out _; (with_reducible repeat (first | refine bkN ?_ _ | refine bkD ?_ | refine bkA ?_ _)); refine bP ?_ NB445_457.out _; (with_reducible repeat (first | refine bkN ?_ _ | refine bkD ?_ | refine bkA ?_ _)); refine bP ?_ NB445_457.out _; (with_reducible repeat (first | refine bkN ?_ _ | refine bkD ?_ | refine bkA ?_ _)); refine bP ?_ NB445_457.out _; (with_reducible repeat (first | refine bkN ?_ _ | refine bkD ?_ | refine bkA ?_ _)); refine bP ?_ NB445_457.out _; (with_reducible repeat (first | refine bkN ?_ _ | refine bkD ?_ | refine bkA ?_ _)); refine bP ?_ NB445_456.out _; (with_reducible repeat (first | refine bkN ?_ _ | refine bkD ?_ | refine bkA ?_ _)); refine bP ?_ NB445_456.out _; (with_reducible repeat (first | refine bkN ?_ _ | refine bkD ?_ | refine bkA ?_ _)); refine bP ?_ NB445_456.out _; (with_reducible repeat (first | refine bkN ?_ _ | refine bkD ?_ | refine bkA ?_ _)); refine bP ?_ NB445_456.out _; (with_reducible repeat (first | refine bkN ?_ _ | refine bkD ?_ | refine bkA ?_ _)); refine bP ?_ NB445_456.out _; (with_reducible repeat (first | refine bkN ?_ _ | refine bkD ?_ | refine bkA ?_ _)); exact BK445.out) hb); have n6_ := aK.mk (bC (g := gb456) (o := .cells #[.int .i64 t446, .int .i64 t447, .int .i64 t448, .int .i64 t449, .int .i64 t450] 27 (0, 0)) (by (with_reducible repeat (first | refine bkN ?_ _ | refine bkD ?_ | refine bkA ?_ _)); refine bP ?_ NB456_457.out _; (with_reducible repeat (first | refine bkN ?_ _ | refine bkD ?_ | refine bkA ?_ _)); refine bP ?_ NB456_457.out _; (with_reducible repeat (first | refine bkN ?_ _ | refine bkD ?_ | refine bkA ?_ _)); refine bP ?_ NB456_457.out _; (with_reducible repeat (first | refine bkN ?_ _ | refine bkD ?_ | refine bkA ?_ _)); refine bP ?_ NB456_457.out _; (with_reducible repeat (first | refine bkN ?_ _ | refine bkD ?_ | refine bkA ?_ _)); refine bP ?_ NB456_457.out _; (with_reducible repeat (first | refine bkN ?_ _ | refine bkD ?_ | refine bkA ?_ _)); refine bH (cs := #[.int .i64 t446, .int .i64 t447, .int .i64 t448, .int .i64 t449, .int .i64 0]) ?_ 4 _ rfl; (with_reducible repeat (first | refine bkN ?_ _ | refine bkD ?_ | refine bkA ?_ _)); refine bH (cs := #[.int .i64 t446, .int .i64 t447, .int .i64 t448, .int .i64 0, .int .i64 0]) ?_ 3 _ rfl; (with_reducible repeat (first | refine bkN ?_ _ | refine bkD ?_ | refine bkA ?_ _)); refine bH (cs := #[.int .i64 t446, .int .i64 t447, .int .i64 0, .int .i64 0, .int .i64 0]) ?_ 2 _ rfl; (with_reducible repeat (first | refine bkN ?_ _ | refine bkD ?_ | refine bkA ?_ _)); refine bH (cs := #[.int .i64 t446, .int .i64 0, .int .i64 0, .int .i64 0, .int .i64 0]) ?_ 1 _ rfl; (with_reducible repeat (first | refine bkN ?_ _ | refine bkD ?_ | refine bkA ?_ _)); refine bH (cs := #[.int .i64 0, .int .i64 0, .int .i64 0, .int .i64 0, .int .i64 0]) ?_ 0 _ rfl; (with_reducible repeat (first | refine bkN ?_ _ | refine bkD ?_ | refine bkA ?_ _)); exact BK456.out) hb); have n7_ := aK.mk (bC (g := gb457) (o := .cells #[.int .i64 t451, .int .i64 t452, .int .i64 t453, .int .i64 t454, .int .i64 t455] 27 (0, 0)) (by (with_reducible repeat (first | refine bkN ?_ _ | refine bkD ?_ | refine bkA ?_ _)); refine bH (cs := #[.int .i64 t451, .int .i64 t452, .int .i64 t453, .int .i64 t454, .int .i64 0]) ?_ 4 _ rfl; (with_reducible repeat (first | refine bkN ?_ _ | refine bkD ?_ | refine bkA ?_ _)); refine bH (cs := #[.int .i64 t451, .int .i64 t452, .int .i64 t453, .int .i64 0, .int .i64 0]) ?_ 3 _ rfl; (with_reducible repeat (first | refine bkN ?_ _ | refine bkD ?_ | refine bkA ?_ _)); refine bH (cs := #[.int .i64 t451, .int .i64 t452, .int .i64 0, .int .i64 0, .int .i64 0]) ?_ 2 _ rfl; (with_reducible repeat (first | refine bkN ?_ _ | refine bkD ?_ | refine bkA ?_ _)); refine bH (cs := #[.int .i64 t451, .int .i64 0, .int .i64 0, .int .i64 0, .int .i64 0]) ?_ 1 _ rfl; (with_reducible repeat (first | refine bkN ?_ _ | refine bkD ?_ | refine bkA ?_ _)); refine bH (cs := #[.int .i64 0, .int .i64 0, .int .i64 0, .int .i64 0, .int .i64 0]) ?_ 0 _ rfl; (with_reducible repeat (first | refine bkN ?_ _ | refine bkD ?_ | refine bkA ?_ _)); refine bP ?_ NB457_456.out _; (with_reducible repeat (first | refine bkN ?_ _ | refine bkD ?_ | refine bkA ?_ _)); refine bP ?_ NB457_456.out _; (with_reducible repeat (first | refine bkN ?_ _ | refine bkD ?_ | refine bkA ?_ _)); refine bP ?_ NB457_456.out _; (with_reducible repeat (first | refine bkN ?_ _ | refine bkD ?_ | refine bkA ?_ _)); refine bP ?_ NB457_456.out _; (with_reducible repeat (first | refine bkN ?_ _ | refine bkD ?_ | refine bkA ?_ _)); refine bP ?_ NB457_456.out _; (with_reducible repeat (first | refine bkN ?_ _ | refine bkD ?_ | refine bkA ?_ _)); exact BK457.out) hb); have n8_ := aK.mk (bL (by repeat (first | (with_reducible first | exact HB.out | apply aU | apply aM | apply aT | refine bwS ?_ GE422.out | refine bwS ?_ GE437.out | refine bwS ?_ GE445.out | refine bwS ?_ GE456.out | refine bwS ?_ GE457.out) | exact HB.out)) hb); clear HO416; clear HO425; clear HO429; clear BK422; clear BK437; clear BK445; clear BK456; clear BK457; clear HB; have HO416 := n0_; have HO425 := n1_; have HO429 := n2_; have BK422 := n3_; have BK437 := n4_; have BK445 := n5_; have BK456 := n6_; have BK457 := n7_; have HB := n8_; clear n0_ n1_ n2_ n3_ n4_ n5_ n6_ n7_ n8_; (try clear hb); (try clear hk)))
 (try simp only [Act.put, lsT, lsZ, lsS])
 go_cut [16] (fun v16 wc => ∃ (kq : Nat) (x16_10 : Int), v16 = .int .i64 x16_10 ∧ aK (laws_FnKeys.j0 kq t414 t423 t426 t427 t435 t436 t444 x16_10 t417 t418 t419 t420 t421 t430 t431 t432 t433 t434 t446 t447 t448 t449 t450 t451 t452 t453 t454 t455 = some r) ∧ aK (kq ≤ k) ∧ aK (Kd.R (Kd.int .u8) 5 wc w.heap.size (fun k_ => some k_ ≠ (v424 : Value).ownBlock ∧ some k_ ≠ ((.slice Ao20 t426.length co20) : Value).ownBlock) (.slice Ao17 t414.length co17) t414) ∧ aK (Kd.R (Kd.int .u8) 5 wc w.heap.size (fun k_ => some k_ ≠ ((.slice Ao17 t414.length co17) : Value).ownBlock ∧ some k_ ≠ ((.slice Ao20 t426.length co20) : Value).ownBlock) v424 t423) ∧ aK (Kd.R (Kd.int .u8) 5 wc w.heap.size (fun k_ => some k_ ≠ ((.slice Ao17 t414.length co17) : Value).ownBlock ∧ some k_ ≠ (v424 : Value).ownBlock) (.slice Ao20 t426.length co20) t426) ∧ aK (wc.heap[gb422]? = some (.cells #[.int .i64 t417, .int .i64 t418, .int .i64 t419, .int .i64 t420, .int .i64 t421] 27 (0, 0))) ∧ aK (wc.heap[gb437]? = some (.cells #[.int .i64 t430, .int .i64 t431, .int .i64 t432, .int .i64 t433, .int .i64 t434] 27 (0, 0))) ∧ aK (wc.heap[gb445]? = some (.cells #[.int .i64 t438, .int .i64 t439, .int .i64 t440, .int .i64 t441, .int .i64 t442] 27 (0, 0))) ∧ aK (wc.heap[gb456]? = some (.cells #[.int .i64 t446, .int .i64 t447, .int .i64 t448, .int .i64 t449, .int .i64 t450] 27 (0, 0))) ∧ aK (wc.heap[gb457]? = some (.cells #[.int .i64 t451, .int .i64 t452, .int .i64 t453, .int .i64 t454, .int .i64 t455] 27 (0, 0))) ∧ aK (Below w.heap.size w wc))
 case first =>
  have H := HC11.out
  clear HC11
  by_cases c43 : t458 = true
  ·subst c43
   have H1 : (laws_FnKeys.j0 k t414 t423 t426 t427 t435 t436 t444 (0 + 1) t417 t418 t419 t420 t421 t430 t431 t432 t433 t434 t446 t447 t448 t449 t450 t451 t452 t453 t454 t455) = some r := by rw [if_pos rfl] at H; exact H
   clear H
   have H := H1
   clear H1
   have H' := aK.mk H
   clear H
   go_wp2
   go_meet
   case rel => exact ⟨_, (0 + 1), (by first | rfl | (simp; done) | (simp [*]; done)), H', ⟨by first | omega | exact Nat.le_refl _⟩, ⟨by (with_reducible repeat (first | apply Kd.bE | apply Kd.bF | apply Kd.bG)); exact Kd.cA HO416.out (fun _ hk => ⟨hk.1.2, hk.2⟩)⟩, ⟨by (with_reducible repeat (first | apply Kd.bE | apply Kd.bF | apply Kd.bG)); exact Kd.cA HO425.out (fun _ hk => ⟨hk.1.2, hk.2⟩)⟩, ⟨by (with_reducible repeat (first | apply Kd.bE | apply Kd.bF | apply Kd.bG)); exact Kd.cA HO429.out (fun _ hk => ⟨hk.1.2, hk.2⟩)⟩, ⟨by (with_reducible repeat (first | refine bkN ?_ _ | refine bkD ?_ | refine bkA ?_ _)); exact BK422.out⟩, ⟨by (with_reducible repeat (first | refine bkN ?_ _ | refine bkD ?_ | refine bkA ?_ _)); exact BK437.out⟩, ⟨by (with_reducible repeat (first | refine bkN ?_ _ | refine bkD ?_ | refine bkA ?_ _)); exact BK445.out⟩, ⟨by (with_reducible repeat (first | refine bkN ?_ _ | refine bkD ?_ | refine bkA ?_ _)); exact BK456.out⟩, ⟨by (with_reducible repeat (first | refine bkN ?_ _ | refine bkD ?_ | refine bkA ?_ _)); exact BK457.out⟩, ⟨by repeat (first | (with_reducible first | exact HB.out | apply aU | apply aM | apply aT | refine bwS ?_ GE422.out | refine bwS ?_ GE437.out | refine bwS ?_ GE445.out | refine bwS ?_ GE456.out | refine bwS ?_ GE457.out) | exact HB.out)⟩⟩
  replace c43 := Bool.eq_false_iff.mpr c43
  subst c43
  have H1 : (laws_FnKeys.j0 k t414 t423 t426 t427 t435 t436 t444 0 t417 t418 t419 t420 t421 t430 t431 t432 t433 t434 t446 t447 t448 t449 t450 t451 t452 t453 t454 t455) = some r := by rw [if_neg (show ¬ (false = true) by decide)] at H; exact H
  clear H
  have H := H1
  clear H1
  have H' := aK.mk H
  clear H
  go_wp2
  go_meet
  case rel => exact ⟨_, (0), (by first | rfl | (simp; done) | (simp [*]; done)), H', ⟨by first | omega | exact Nat.le_refl _⟩, ⟨by (with_reducible repeat (first | apply Kd.bE | apply Kd.bF | apply Kd.bG)); exact Kd.cA HO416.out (fun _ hk => ⟨hk.1.2, hk.2⟩)⟩, ⟨by (with_reducible repeat (first | apply Kd.bE | apply Kd.bF | apply Kd.bG)); exact Kd.cA HO425.out (fun _ hk => ⟨hk.1.2, hk.2⟩)⟩, ⟨by (with_reducible repeat (first | apply Kd.bE | apply Kd.bF | apply Kd.bG)); exact Kd.cA HO429.out (fun _ hk => ⟨hk.1.2, hk.2⟩)⟩, ⟨by (with_reducible repeat (first | refine bkN ?_ _ | refine bkD ?_ | refine bkA ?_ _)); exact BK422.out⟩, ⟨by (with_reducible repeat (first | refine bkN ?_ _ | refine bkD ?_ | refine bkA ?_ _)); exact BK437.out⟩, ⟨by (with_reducible repeat (first | refine bkN ?_ _ | refine bkD ?_ | refine bkA ?_ _)); exact BK445.out⟩, ⟨by (with_reducible repeat (first | refine bkN ?_ _ | refine bkD ?_ | refine bkA ?_ _)); exact BK456.out⟩, ⟨by (with_reducible repeat (first | refine bkN ?_ _ | refine bkD ?_ | refine bkA ?_ _)); exact BK457.out⟩, ⟨by repeat (first | (with_reducible first | exact HB.out | apply aU | apply aM | apply aT | refine bwS ?_ GE422.out | refine bwS ?_ GE437.out | refine bwS ?_ GE445.out | refine bwS ?_ GE456.out | refine bwS ?_ GE457.out) | exact HB.out)⟩⟩
 case rest =>
  clear HC11
  try clear c1
  try clear c2
  try clear p2
  try clear c3
  try clear c4
  try clear c5
  try clear c17
  try clear c21
  try clear c22
  try clear c23
  try clear c24
  try clear c25
  try clear c26
  try clear c27
  try clear c28
  try clear c33
  try clear c34
  try clear c35
  try clear c36
  try clear c38
  try clear c39
  try clear c40
  try clear c43
  try clear hcz14_0
  try clear hcz14_1
  try clear hcz14_2
  try clear hcz14_3
  try clear hcz14_4
  try clear hcz16_0
  try clear hcz16_1
  try clear hcz16_2
  try clear hcz16_3
  try clear hcz16_4
  try clear hcz24_0
  try clear hcz24_1
  try clear hcz24_2
  try clear hcz24_3
  try clear hcz24_4
  try clear hcz29_0
  try clear hcz29_1
  try clear hcz29_2
  try clear hcz29_3
  try clear hcz29_4
  try clear hcz37_0
  try clear hcz37_1
  try clear hcz37_2
  try clear hcz37_3
  try clear hcz37_4
  try clear hcz41_0
  try clear hcz41_1
  try clear hcz41_2
  try clear hcz41_3
  try clear hcz41_4
  try clear hfz14_0
  try clear hfz14_1
  try clear hfz14_2
  try clear hfz14_3
  try clear hfz14_4
  try clear hfz16_0
  try clear hfz16_1
  try clear hfz16_2
  try clear hfz16_3
  try clear hfz16_4
  try clear hfz24_0
  try clear hfz24_1
  try clear hfz24_2
  try clear hfz24_3
  try clear hfz24_4
  try clear hfz29_0
  try clear hfz29_1
  try clear hfz29_2
  try clear hfz29_3
  try clear hfz29_4
  try clear hfz37_0
  try clear hfz37_1
  try clear hfz37_2
  try clear hfz37_3
  try clear hfz37_4
  try clear hfz41_0
  try clear hfz41_1
  try clear hfz41_2
  try clear hfz41_3
  try clear hfz41_4
  obtain ⟨kq, x16_10, rfl, HA, HJ10, HO_3, HO_5, HO_6, BK422, BK437, BK445, BK456, BK457, HB⟩ := hcut
  cases kq with
  | zero => exact absurd HA.out (by simp [laws_FnKeys.j0])
  | succ kj10 =>
   have H := HA.out
   clear HA
   simp only [laws_FnKeys.j0] at H
   replace H := lF H
   obtain ⟨t459, A440, H⟩ := H
   replace H : (if t459 = true then (laws_FnKeys.j1 kj10 t414 t423 t426 t427 t435 t436 t444 (wrap64 (x16_10 + 1)) t417 t418 t419 t420 t421 t430 t431 t432 t433 t434 t446 t447 t448 t449 t450 t451 t452 t453 t454 t455) else (laws_FnKeys.j1 kj10 t414 t423 t426 t427 t435 t436 t444 x16_10 t417 t418 t419 t420 t421 t430 t431 t432 t433 t434 t446 t447 t448 t449 t450 t451 t452 t453 t454 t455)) = some r := H
   have A44 := aK.mk A440
   clear A440
   have HC45 := aK.mk H
   clear H
   have hnb46 := NB457_422.out
   have hnc46 := NB422_457.out
   have hnb47 := NB457_437.out
   have hnc47 := NB437_457.out
   have hnb48 := NB457_445.out
   have hnc48 := NB445_457.out
   have hnb49 := NB457_456.out
   have hnc49 := NB456_457.out
   have hcz50_0 : wc.cell? ⟨gb457, 0, none⟩ = some (.int .i64 t451) := (aQ BK457.out 0).trans rfl
   have hcz50_1 : wc.cell? ⟨gb457, 1, none⟩ = some (.int .i64 t452) := (aQ BK457.out 1).trans rfl
   have hcz50_2 : wc.cell? ⟨gb457, 2, none⟩ = some (.int .i64 t453) := (aQ BK457.out 2).trans rfl
   have hcz50_3 : wc.cell? ⟨gb457, 3, none⟩ = some (.int .i64 t454) := (aQ BK457.out 3).trans rfl
   have hcz50_4 : wc.cell? ⟨gb457, 4, none⟩ = some (.int .i64 t455) := (aQ BK457.out 4).trans rfl
   have hfz50_0 := aN BK457.out 0
   have hfz50_1 := aN BK457.out 1
   have hfz50_2 := aN BK457.out 2
   have hfz50_3 := aN BK457.out 3
   have hfz50_4 := aN BK457.out 4
   have hnb51 := NB456_422.out
   have hnc51 := NB422_456.out
   have hnb52 := NB456_437.out
   have hnc52 := NB437_456.out
   have hnb53 := NB456_445.out
   have hnc53 := NB445_456.out
   have hcz54_0 : wc.cell? ⟨gb456, 0, none⟩ = some (.int .i64 t446) := (aQ BK456.out 0).trans rfl
   have hcz54_1 : wc.cell? ⟨gb456, 1, none⟩ = some (.int .i64 t447) := (aQ BK456.out 1).trans rfl
   have hcz54_2 : wc.cell? ⟨gb456, 2, none⟩ = some (.int .i64 t448) := (aQ BK456.out 2).trans rfl
   have hcz54_3 : wc.cell? ⟨gb456, 3, none⟩ = some (.int .i64 t449) := (aQ BK456.out 3).trans rfl
   have hcz54_4 : wc.cell? ⟨gb456, 4, none⟩ = some (.int .i64 t450) := (aQ BK456.out 4).trans rfl
   have hfz54_0 := aN BK456.out 0
   have hfz54_1 := aN BK456.out 1
   have hfz54_2 := aN BK456.out 2
   have hfz54_3 := aN BK456.out 3
   have hfz54_4 := aN BK456.out 4
   go_upto_if 61 with (first | ((with_reducible refine bR (f := 28) rfl ?_); refine bX (some 61) rfl rfl Try.func28 (by kernel_rfl) rfl #[.agg #[.int .i64 t451, .int .i64 t452, .int .i64 t453, .int .i64 t454, .int .i64 t455], .agg #[.int .i64 t446, .int .i64 t447, .int .i64 t448, .int .i64 t449, .int .i64 t450]] rfl (by (try simp only [List.map_toArray, List.map_cons, List.map_nil]); first | done | rfl | (simp only [List.length_drop, List.length_take]; rfl)) ?_; (with_reducible refine (impl_LessKey.calls t451 t452 t453 t454 t455 t446 t447 t448 t449 t450 t459 _ A44.out).mono ?_); rintro e w55 ⟨rfl, hb⟩; refine ⟨_, rfl, ?_⟩; have n0_ := aK.mk (Kd.cB (by (with_reducible repeat (first | apply Kd.bE | apply Kd.bF | apply Kd.bG)); exact HO_3.out) hb); have n1_ := aK.mk (Kd.cB (by (with_reducible repeat (first | apply Kd.bE | apply Kd.bF | apply Kd.bG)); exact HO_5.out) hb); have n2_ := aK.mk (Kd.cB (by (with_reducible repeat (first | apply Kd.bE | apply Kd.bF | apply Kd.bG)); exact HO_6.out) hb); have n3_ := aK.mk (bC (g := gb422) (o := .cells #[.int .i64 t417, .int .i64 t418, .int .i64 t419, .int .i64 t420, .int .i64 t421] 27 (0, 0)) (by (with_reducible repeat (first | refine bkN ?_ _ | refine bkD ?_ | refine bkA ?_ _)); exact BK422.out) hb); have n4_ := aK.mk (bC (g := gb437) (o := .cells #[.int .i64 t430, .int .i64 t431, .int .i64 t432, .int .i64 t433, .int .i64 t434] 27 (0, 0)) (by (with_reducible repeat (first | refine bkN ?_ _ | refine bkD ?_ | refine bkA ?_ _)); exact BK437.out) hb); have n5_ := aK.mk (bC (g := gb445) (o := .cells #[.int .i64 t438, .int .i64 t439, .int .i64 t440, .int .i64 t441, .int .i64 t442] 27 (0, 0)) (by (with_reducible repeat (first | refine bkN ?_ _ | refine bkD ?_ | refine bkA ?_ _)); exact BK445.out) hb); have n6_ := aK.mk (bC (g := gb456) (o := .cells #[.int .i64 t446, .int .i64 t447, .int .i64 t448, .int .i64 t449, .int .i64 t450] 27 (0, 0)) (by (with_reducible repeat (first | refine bkN ?_ _ | refine bkD ?_ | refine bkA ?_ _)); exact BK456.out) hb); have n7_ := aK.mk (bC (g := gb457) (o := .cells #[.int .i64 t451, .int .i64 t452, .int .i64 t453, .int .i64 t454, .int .i64 t455] 27 (0, 0)) (by (with_reducible repeat (first | refine bkN ?_ _ | refine bkD ?_ | refine bkA ?_ _)); exact BK457.out) hb); have n8_ := aK.mk (bL (by repeat (first | (with_reducible first | exact HB.out | apply aU | apply aM | apply aT | refine bwS ?_ GE422.out | refine bwS ?_ GE437.out | refine bwS ?_ GE445.out | refine bwS ?_ GE456.out | refine bwS ?_ GE457.out) | exact HB.out)) hb); clear HO_3; clear HO_5; clear HO_6; clear BK422; clear BK437; clear BK445; clear BK456; clear BK457; clear HB; have HO_3 := n0_; have HO_5 := n1_; have HO_6 := n2_; have BK422 := n3_; have BK437 := n4_; have BK445 := n5_; have BK456 := n6_; have BK457 := n7_; have HB := n8_; clear n0_ n1_ n2_ n3_ n4_ n5_ n6_ n7_ n8_; (try clear hb)))
   (try simp only [Act.put, lsT, lsZ, lsS])
   go_cut [16] (fun v16 wc => ∃ (kq : Nat) (x16_44 : Int), v16 = .int .i64 x16_44 ∧ aK (laws_FnKeys.j1 kq t414 t423 t426 t427 t435 t436 t444 x16_44 t417 t418 t419 t420 t421 t430 t431 t432 t433 t434 t446 t447 t448 t449 t450 t451 t452 t453 t454 t455 = some r) ∧ aK (kq ≤ kj10) ∧ aK (Kd.R (Kd.int .u8) 5 wc w.heap.size (fun k_ => some k_ ≠ (v424 : Value).ownBlock ∧ some k_ ≠ ((.slice Ao20 t426.length co20) : Value).ownBlock) (.slice Ao17 t414.length co17) t414) ∧ aK (Kd.R (Kd.int .u8) 5 wc w.heap.size (fun k_ => some k_ ≠ ((.slice Ao17 t414.length co17) : Value).ownBlock ∧ some k_ ≠ ((.slice Ao20 t426.length co20) : Value).ownBlock) v424 t423) ∧ aK (Kd.R (Kd.int .u8) 5 wc w.heap.size (fun k_ => some k_ ≠ ((.slice Ao17 t414.length co17) : Value).ownBlock ∧ some k_ ≠ (v424 : Value).ownBlock) (.slice Ao20 t426.length co20) t426) ∧ aK (wc.heap[gb422]? = some (.cells #[.int .i64 t417, .int .i64 t418, .int .i64 t419, .int .i64 t420, .int .i64 t421] 27 (0, 0))) ∧ aK (wc.heap[gb437]? = some (.cells #[.int .i64 t430, .int .i64 t431, .int .i64 t432, .int .i64 t433, .int .i64 t434] 27 (0, 0))) ∧ aK (wc.heap[gb445]? = some (.cells #[.int .i64 t438, .int .i64 t439, .int .i64 t440, .int .i64 t441, .int .i64 t442] 27 (0, 0))) ∧ aK (wc.heap[gb456]? = some (.cells #[.int .i64 t446, .int .i64 t447, .int .i64 t448, .int .i64 t449, .int .i64 t450] 27 (0, 0))) ∧ aK (wc.heap[gb457]? = some (.cells #[.int .i64 t451, .int .i64 t452, .int .i64 t453, .int .i64 t454, .int .i64 t455] 27 (0, 0))) ∧ aK (Below w.heap.size w wc))
   case first =>
    have H := HC45.out
    clear HC45
    by_cases c56 : t459 = true
    ·subst c56
     have H1 : (laws_FnKeys.j1 kj10 t414 t423 t426 t427 t435 t436 t444 (wrap64 (x16_10 + 1)) t417 t418 t419 t420 t421 t430 t431 t432 t433 t434 t446 t447 t448 t449 t450 t451 t452 t453 t454 t455) = some r := by rw [if_pos rfl] at H; exact H
     clear H
     have H := H1
     clear H1
     have H' := aK.mk H
     clear H
     go_wp2
     go_meet
     case rel => exact ⟨_, (wrap64 (x16_10 + 1)), (by first | rfl | (simp; done) | (simp [*]; done)), H', ⟨by have := HJ10.out; first | omega | exact Nat.le_refl _⟩, ⟨by (with_reducible repeat (first | apply Kd.bE | apply Kd.bF | apply Kd.bG)); exact HO_3.out⟩, ⟨by (with_reducible repeat (first | apply Kd.bE | apply Kd.bF | apply Kd.bG)); exact HO_5.out⟩, ⟨by (with_reducible repeat (first | apply Kd.bE | apply Kd.bF | apply Kd.bG)); exact HO_6.out⟩, ⟨by (with_reducible repeat (first | refine bkN ?_ _ | refine bkD ?_ | refine bkA ?_ _)); exact BK422.out⟩, ⟨by (with_reducible repeat (first | refine bkN ?_ _ | refine bkD ?_ | refine bkA ?_ _)); exact BK437.out⟩, ⟨by (with_reducible repeat (first | refine bkN ?_ _ | refine bkD ?_ | refine bkA ?_ _)); exact BK445.out⟩, ⟨by (with_reducible repeat (first | refine bkN ?_ _ | refine bkD ?_ | refine bkA ?_ _)); exact BK456.out⟩, ⟨by (with_reducible repeat (first | refine bkN ?_ _ | refine bkD ?_ | refine bkA ?_ _)); exact BK457.out⟩, ⟨by repeat (first | (with_reducible first | exact HB.out | apply aU | apply aM | apply aT | refine bwS ?_ GE422.out | refine bwS ?_ GE437.out | refine bwS ?_ GE445.out | refine bwS ?_ GE456.out | refine bwS ?_ GE457.out) | exact HB.out)⟩⟩
    replace c56 := Bool.eq_false_iff.mpr c56
    subst c56
    have H1 : (laws_FnKeys.j1 kj10 t414 t423 t426 t427 t435 t436 t444 x16_10 t417 t418 t419 t420 t421 t430 t431 t432 t433 t434 t446 t447 t448 t449 t450 t451 t452 t453 t454 t455) = some r := by rw [if_neg (show ¬ (false = true) by decide)] at H; exact H
    clear H
    have H := H1
    clear H1
    have H' := aK.mk H
    clear H
    go_wp2
    go_meet
    case rel => exact ⟨_, (x16_10), (by first | rfl | (simp; done) | (simp [*]; done)), H', ⟨by have := HJ10.out; first | omega | exact Nat.le_refl _⟩, ⟨by (with_reducible repeat (first | apply Kd.bE | apply Kd.bF | apply Kd.bG)); exact HO_3.out⟩, ⟨by (with_reducible repeat (first | apply Kd.bE | apply Kd.bF | apply Kd.bG)); exact HO_5.out⟩, ⟨by (with_reducible repeat (first | apply Kd.bE | apply Kd.bF | apply Kd.bG)); exact HO_6.out⟩, ⟨by (with_reducible repeat (first | refine bkN ?_ _ | refine bkD ?_ | refine bkA ?_ _)); exact BK422.out⟩, ⟨by (with_reducible repeat (first | refine bkN ?_ _ | refine bkD ?_ | refine bkA ?_ _)); exact BK437.out⟩, ⟨by (with_reducible repeat (first | refine bkN ?_ _ | refine bkD ?_ | refine bkA ?_ _)); exact BK445.out⟩, ⟨by (with_reducible repeat (first | refine bkN ?_ _ | refine bkD ?_ | refine bkA ?_ _)); exact BK456.out⟩, ⟨by (with_reducible repeat (first | refine bkN ?_ _ | refine bkD ?_ | refine bkA ?_ _)); exact BK457.out⟩, ⟨by repeat (first | (with_reducible first | exact HB.out | apply aU | apply aM | apply aT | refine bwS ?_ GE422.out | refine bwS ?_ GE437.out | refine bwS ?_ GE445.out | refine bwS ?_ GE456.out | refine bwS ?_ GE457.out) | exact HB.out)⟩⟩
   case rest =>
    clear HC45
    try clear c1
    try clear c2
    try clear p2
    try clear c3
    try clear c4
    try clear c5
    try clear p6
    try clear c17
    try clear c21
    try clear c22
    try clear c23
    try clear c24
    try clear c25
    try clear c26
    try clear c27
    try clear c28
    try clear c33
    try clear c34
    try clear c35
    try clear c36
    try clear c38
    try clear c39
    try clear c40
    try clear c43
    try clear c46
    try clear c47
    try clear c48
    try clear c49
    try clear c51
    try clear c52
    try clear c53
    try clear c56
    try clear hcz14_0
    try clear hcz14_1
    try clear hcz14_2
    try clear hcz14_3
    try clear hcz14_4
    try clear hcz16_0
    try clear hcz16_1
    try clear hcz16_2
    try clear hcz16_3
    try clear hcz16_4
    try clear hcz24_0
    try clear hcz24_1
    try clear hcz24_2
    try clear hcz24_3
    try clear hcz24_4
    try clear hcz29_0
    try clear hcz29_1
    try clear hcz29_2
    try clear hcz29_3
    try clear hcz29_4
    try clear hcz37_0
    try clear hcz37_1
    try clear hcz37_2
    try clear hcz37_3
    try clear hcz37_4
    try clear hcz41_0
    try clear hcz41_1
    try clear hcz41_2
    try clear hcz41_3
    try clear hcz41_4
    try clear hcz50_0
    try clear hcz50_1
    try clear hcz50_2
    try clear hcz50_3
    try clear hcz50_4
    try clear hcz54_0
    try clear hcz54_1
    try clear hcz54_2
    try clear hcz54_3
    try clear hcz54_4
    try clear hfz14_0
    try clear hfz14_1
    try clear hfz14_2
    try clear hfz14_3
    try clear hfz14_4
    try clear hfz16_0
    try clear hfz16_1
    try clear hfz16_2
    try clear hfz16_3
    try clear hfz16_4
    try clear hfz24_0
    try clear hfz24_1
    try clear hfz24_2
    try clear hfz24_3
    try clear hfz24_4
    try clear hfz29_0
    try clear hfz29_1
    try clear hfz29_2
    try clear hfz29_3
    try clear hfz29_4
    try clear hfz37_0
    try clear hfz37_1
    try clear hfz37_2
    try clear hfz37_3
    try clear hfz37_4
    try clear hfz41_0
    try clear hfz41_1
    try clear hfz41_2
    try clear hfz41_3
    try clear hfz41_4
    try clear hfz50_0
    try clear hfz50_1
    try clear hfz50_2
    try clear hfz50_3
    try clear hfz50_4
    try clear hfz54_0
    try clear hfz54_1
    try clear hfz54_2
    try clear hfz54_3
    try clear hfz54_4
    try clear p2
    obtain ⟨kq, x16_44, rfl, HA, HJ44, HO_3, HO_5, HO_6, BK422, BK437, BK445, BK456, BK457, HB⟩ := hcut
    cases kq with
    | zero => exact absurd HA.out (by simp [laws_FnKeys.j1])
    | succ kj44 =>
     have H := HA.out
     clear HA
     simp only [laws_FnKeys.j1] at H
     replace H := lF H
     obtain ⟨t460, A570, H⟩ := H
     replace H : (if t460 = true then (laws_FnKeys.j2 kj44 t414 t423 t426 t427 t435 t436 t444 (wrap64 (x16_44 + 1)) t417 t418 t419 t420 t421 t430 t431 t432 t433 t434) else (laws_FnKeys.j2 kj44 t414 t423 t426 t427 t435 t436 t444 x16_44 t417 t418 t419 t420 t421 t430 t431 t432 t433 t434)) = some r := H
     have A57 := aK.mk A570
     clear A570
     have HC58 := aK.mk H
     clear H
     have hnb59 := NB456_422.out
     have hnc59 := NB422_456.out
     have hnb60 := NB456_437.out
     have hnc60 := NB437_456.out
     have hnb61 := NB456_445.out
     have hnc61 := NB445_456.out
     have hnb62 := NB456_457.out
     have hnc62 := NB457_456.out
     have hcz63_0 : wc.cell? ⟨gb456, 0, none⟩ = some (.int .i64 t446) := (aQ BK456.out 0).trans rfl
     have hcz63_1 : wc.cell? ⟨gb456, 1, none⟩ = some (.int .i64 t447) := (aQ BK456.out 1).trans rfl
     have hcz63_2 : wc.cell? ⟨gb456, 2, none⟩ = some (.int .i64 t448) := (aQ BK456.out 2).trans rfl
     have hcz63_3 : wc.cell? ⟨gb456, 3, none⟩ = some (.int .i64 t449) := (aQ BK456.out 3).trans rfl
     have hcz63_4 : wc.cell? ⟨gb456, 4, none⟩ = some (.int .i64 t450) := (aQ BK456.out 4).trans rfl
     have hfz63_0 := aN BK456.out 0
     have hfz63_1 := aN BK456.out 1
     have hfz63_2 := aN BK456.out 2
     have hfz63_3 := aN BK456.out 3
     have hfz63_4 := aN BK456.out 4
     have hnb64 := NB457_422.out
     have hnc64 := NB422_457.out
     have hnb65 := NB457_437.out
     have hnc65 := NB437_457.out
     have hnb66 := NB457_445.out
     have hnc66 := NB445_457.out
     have hcz67_0 : wc.cell? ⟨gb457, 0, none⟩ = some (.int .i64 t451) := (aQ BK457.out 0).trans rfl
     have hcz67_1 : wc.cell? ⟨gb457, 1, none⟩ = some (.int .i64 t452) := (aQ BK457.out 1).trans rfl
     have hcz67_2 : wc.cell? ⟨gb457, 2, none⟩ = some (.int .i64 t453) := (aQ BK457.out 2).trans rfl
     have hcz67_3 : wc.cell? ⟨gb457, 3, none⟩ = some (.int .i64 t454) := (aQ BK457.out 3).trans rfl
     have hcz67_4 : wc.cell? ⟨gb457, 4, none⟩ = some (.int .i64 t455) := (aQ BK457.out 4).trans rfl
     have hfz67_0 := aN BK457.out 0
     have hfz67_1 := aN BK457.out 1
     have hfz67_2 := aN BK457.out 2
     have hfz67_3 := aN BK457.out 3
     have hfz67_4 := aN BK457.out 4
     go_upto_if 66 with (first | ((with_reducible refine bR (f := 29) rfl ?_); refine bX (some 66) rfl rfl Try.func29 (by kernel_rfl) rfl #[.agg #[.int .i64 t446, .int .i64 t447, .int .i64 t448, .int .i64 t449, .int .i64 t450], .agg #[.int .i64 t451, .int .i64 t452, .int .i64 t453, .int .i64 t454, .int .i64 t455]] rfl (by (try simp only [List.map_toArray, List.map_cons, List.map_nil]); first | done | rfl | (simp only [List.length_drop, List.length_take]; rfl)) ?_; (with_reducible refine (impl_SameSpot.calls t446 t447 t448 t449 t450 t451 t452 t453 t454 t455 t460 _ A57.out).mono ?_); rintro e w68 ⟨rfl, hb⟩; refine ⟨_, rfl, ?_⟩; have n0_ := aK.mk (Kd.cB (by (with_reducible repeat (first | apply Kd.bE | apply Kd.bF | apply Kd.bG)); exact HO_3.out) hb); have n1_ := aK.mk (Kd.cB (by (with_reducible repeat (first | apply Kd.bE | apply Kd.bF | apply Kd.bG)); exact HO_5.out) hb); have n2_ := aK.mk (Kd.cB (by (with_reducible repeat (first | apply Kd.bE | apply Kd.bF | apply Kd.bG)); exact HO_6.out) hb); have n3_ := aK.mk (bC (g := gb422) (o := .cells #[.int .i64 t417, .int .i64 t418, .int .i64 t419, .int .i64 t420, .int .i64 t421] 27 (0, 0)) (by (with_reducible repeat (first | refine bkN ?_ _ | refine bkD ?_ | refine bkA ?_ _)); exact BK422.out) hb); have n4_ := aK.mk (bC (g := gb437) (o := .cells #[.int .i64 t430, .int .i64 t431, .int .i64 t432, .int .i64 t433, .int .i64 t434] 27 (0, 0)) (by (with_reducible repeat (first | refine bkN ?_ _ | refine bkD ?_ | refine bkA ?_ _)); exact BK437.out) hb); have n5_ := aK.mk (bC (g := gb445) (o := .cells #[.int .i64 t438, .int .i64 t439, .int .i64 t440, .int .i64 t441, .int .i64 t442] 27 (0, 0)) (by (with_reducible repeat (first | refine bkN ?_ _ | refine bkD ?_ | refine bkA ?_ _)); exact BK445.out) hb); have n6_ := aK.mk (bC (g := gb456) (o := .cells #[.int .i64 t446, .int .i64 t447, .int .i64 t448, .int .i64 t449, .int .i64 t450] 27 (0, 0)) (by (with_reducible repeat (first | refine bkN ?_ _ | refine bkD ?_ | refine bkA ?_ _)); exact BK456.out) hb); have n7_ := aK.mk (bC (g := gb457) (o := .cells #[.int .i64 t451, .int .i64 t452, .int .i64 t453, .int .i64 t454, .int .i64 t455] 27 (0, 0)) (by (with_reducible repeat (first | refine bkN ?_ _ | refine bkD ?_ | refine bkA ?_ _)); exact BK457.out) hb); have n8_ := aK.mk (bL (by repeat (first | (with_reducible first | exact HB.out | apply aU | apply aM | apply aT | refine bwS ?_ GE422.out | refine bwS ?_ GE437.out | refine bwS ?_ GE445.out | refine bwS ?_ GE456.out | refine bwS ?_ GE457.out) | exact HB.out)) hb); clear HO_3; clear HO_5; clear HO_6; clear BK422; clear BK437; clear BK445; clear BK456; clear BK457; clear HB; have HO_3 := n0_; have HO_5 := n1_; have HO_6 := n2_; have BK422 := n3_; have BK437 := n4_; have BK445 := n5_; have BK456 := n6_; have BK457 := n7_; have HB := n8_; clear n0_ n1_ n2_ n3_ n4_ n5_ n6_ n7_ n8_; (try clear hb)))
     (try simp only [Act.put, lsT, lsZ, lsS])
     go_cut [16] (fun v16 wc => ∃ (kq : Nat) (x16_57 : Int), v16 = .int .i64 x16_57 ∧ aK (laws_FnKeys.j2 kq t414 t423 t426 t427 t435 t436 t444 x16_57 t417 t418 t419 t420 t421 t430 t431 t432 t433 t434 = some r) ∧ aK (kq ≤ kj44) ∧ aK (Kd.R (Kd.int .u8) 5 wc w.heap.size (fun k_ => some k_ ≠ (v424 : Value).ownBlock ∧ some k_ ≠ ((.slice Ao20 t426.length co20) : Value).ownBlock) (.slice Ao17 t414.length co17) t414) ∧ aK (Kd.R (Kd.int .u8) 5 wc w.heap.size (fun k_ => some k_ ≠ ((.slice Ao17 t414.length co17) : Value).ownBlock ∧ some k_ ≠ ((.slice Ao20 t426.length co20) : Value).ownBlock) v424 t423) ∧ aK (Kd.R (Kd.int .u8) 5 wc w.heap.size (fun k_ => some k_ ≠ ((.slice Ao17 t414.length co17) : Value).ownBlock ∧ some k_ ≠ (v424 : Value).ownBlock) (.slice Ao20 t426.length co20) t426) ∧ aK (wc.heap[gb422]? = some (.cells #[.int .i64 t417, .int .i64 t418, .int .i64 t419, .int .i64 t420, .int .i64 t421] 27 (0, 0))) ∧ aK (wc.heap[gb437]? = some (.cells #[.int .i64 t430, .int .i64 t431, .int .i64 t432, .int .i64 t433, .int .i64 t434] 27 (0, 0))) ∧ aK (wc.heap[gb445]? = some (.cells #[.int .i64 t438, .int .i64 t439, .int .i64 t440, .int .i64 t441, .int .i64 t442] 27 (0, 0))) ∧ aK (wc.heap[gb456]? = some (.cells #[.int .i64 t446, .int .i64 t447, .int .i64 t448, .int .i64 t449, .int .i64 t450] 27 (0, 0))) ∧ aK (wc.heap[gb457]? = some (.cells #[.int .i64 t451, .int .i64 t452, .int .i64 t453, .int .i64 t454, .int .i64 t455] 27 (0, 0))) ∧ aK (Below w.heap.size w wc))
     case first =>
      have H := HC58.out
      clear HC58
      by_cases c69 : t460 = true
      ·subst c69
       have H1 : (laws_FnKeys.j2 kj44 t414 t423 t426 t427 t435 t436 t444 (wrap64 (x16_44 + 1)) t417 t418 t419 t420 t421 t430 t431 t432 t433 t434) = some r := by rw [if_pos rfl] at H; exact H
       clear H
       have H := H1
       clear H1
       have H' := aK.mk H
       clear H
       go_wp2
       go_meet
       case rel => exact ⟨_, (wrap64 (x16_44 + 1)), (by first | rfl | (simp; done) | (simp [*]; done)), H', ⟨by have := HJ10.out; have := HJ44.out; first | omega | exact Nat.le_refl _⟩, ⟨by (with_reducible repeat (first | apply Kd.bE | apply Kd.bF | apply Kd.bG)); exact HO_3.out⟩, ⟨by (with_reducible repeat (first | apply Kd.bE | apply Kd.bF | apply Kd.bG)); exact HO_5.out⟩, ⟨by (with_reducible repeat (first | apply Kd.bE | apply Kd.bF | apply Kd.bG)); exact HO_6.out⟩, ⟨by (with_reducible repeat (first | refine bkN ?_ _ | refine bkD ?_ | refine bkA ?_ _)); exact BK422.out⟩, ⟨by (with_reducible repeat (first | refine bkN ?_ _ | refine bkD ?_ | refine bkA ?_ _)); exact BK437.out⟩, ⟨by (with_reducible repeat (first | refine bkN ?_ _ | refine bkD ?_ | refine bkA ?_ _)); exact BK445.out⟩, ⟨by (with_reducible repeat (first | refine bkN ?_ _ | refine bkD ?_ | refine bkA ?_ _)); exact BK456.out⟩, ⟨by (with_reducible repeat (first | refine bkN ?_ _ | refine bkD ?_ | refine bkA ?_ _)); exact BK457.out⟩, ⟨by repeat (first | (with_reducible first | exact HB.out | apply aU | apply aM | apply aT | refine bwS ?_ GE422.out | refine bwS ?_ GE437.out | refine bwS ?_ GE445.out | refine bwS ?_ GE456.out | refine bwS ?_ GE457.out) | exact HB.out)⟩⟩
      replace c69 := Bool.eq_false_iff.mpr c69
      subst c69
      have H1 : (laws_FnKeys.j2 kj44 t414 t423 t426 t427 t435 t436 t444 x16_44 t417 t418 t419 t420 t421 t430 t431 t432 t433 t434) = some r := by rw [if_neg (show ¬ (false = true) by decide)] at H; exact H
      clear H
      have H := H1
      clear H1
      have H' := aK.mk H
      clear H
      go_wp2
      go_meet
      case rel => exact ⟨_, (x16_44), (by first | rfl | (simp; done) | (simp [*]; done)), H', ⟨by have := HJ10.out; have := HJ44.out; first | omega | exact Nat.le_refl _⟩, ⟨by (with_reducible repeat (first | apply Kd.bE | apply Kd.bF | apply Kd.bG)); exact HO_3.out⟩, ⟨by (with_reducible repeat (first | apply Kd.bE | apply Kd.bF | apply Kd.bG)); exact HO_5.out⟩, ⟨by (with_reducible repeat (first | apply Kd.bE | apply Kd.bF | apply Kd.bG)); exact HO_6.out⟩, ⟨by (with_reducible repeat (first | refine bkN ?_ _ | refine bkD ?_ | refine bkA ?_ _)); exact BK422.out⟩, ⟨by (with_reducible repeat (first | refine bkN ?_ _ | refine bkD ?_ | refine bkA ?_ _)); exact BK437.out⟩, ⟨by (with_reducible repeat (first | refine bkN ?_ _ | refine bkD ?_ | refine bkA ?_ _)); exact BK445.out⟩, ⟨by (with_reducible repeat (first | refine bkN ?_ _ | refine bkD ?_ | refine bkA ?_ _)); exact BK456.out⟩, ⟨by (with_reducible repeat (first | refine bkN ?_ _ | refine bkD ?_ | refine bkA ?_ _)); exact BK457.out⟩, ⟨by repeat (first | (with_reducible first | exact HB.out | apply aU | apply aM | apply aT | refine bwS ?_ GE422.out | refine bwS ?_ GE437.out | refine bwS ?_ GE445.out | refine bwS ?_ GE456.out | refine bwS ?_ GE457.out) | exact HB.out)⟩⟩
     case rest =>
      clear HC58
      try clear c1
      try clear c2
      try clear p2
      try clear c3
      try clear c4
      try clear c5
      try clear c6
      try clear p6
      try clear c17
      try clear c21
      try clear c22
      try clear c23
      try clear c24
      try clear c25
      try clear c26
      try clear c27
      try clear c28
      try clear c29
      try clear c33
      try clear c34
      try clear c35
      try clear c36
      try clear c38
      try clear c39
      try clear c40
      try clear c43
      try clear c46
      try clear c47
      try clear c48
      try clear c49
      try clear c51
      try clear c52
      try clear c53
      try clear c56
      try clear c59
      try clear c60
      try clear c61
      try clear c62
      try clear c64
      try clear p64
      try clear c65
      try clear c66
      try clear c69
      try clear hcz14_0
      try clear hcz14_1
      try clear hcz14_2
      try clear hcz14_3
      try clear hcz14_4
      try clear hcz16_0
      try clear hcz16_1
      try clear hcz16_2
      try clear hcz16_3
      try clear hcz16_4
      try clear hcz24_0
      try clear hcz24_1
      try clear hcz24_2
      try clear hcz24_3
      try clear hcz24_4
      try clear hcz29_0
      try clear hcz29_1
      try clear hcz29_2
      try clear hcz29_3
      try clear hcz29_4
      try clear hcz37_0
      try clear hcz37_1
      try clear hcz37_2
      try clear hcz37_3
      try clear hcz37_4
      try clear hcz41_0
      try clear hcz41_1
      try clear hcz41_2
      try clear hcz41_3
      try clear hcz41_4
      try clear hcz50_0
      try clear hcz50_1
      try clear hcz50_2
      try clear hcz50_3
      try clear hcz50_4
      try clear hcz54_0
      try clear hcz54_1
      try clear hcz54_2
      try clear hcz54_3
      try clear hcz54_4
      try clear hcz63_0
      try clear hcz63_1
      try clear hcz63_2
      try clear hcz63_3
      try clear hcz63_4
      try clear hcz67_0
      try clear hcz67_1
      try clear hcz67_2
      try clear hcz67_3
      try clear hcz67_4
      try clear hfz14_0
      try clear hfz14_1
      try clear hfz14_2
      try clear hfz14_3
      try clear hfz14_4
      try clear hfz16_0
      try clear hfz16_1
      try clear hfz16_2
      try clear hfz16_3
      try clear hfz16_4
      try clear hfz24_0
      try clear hfz24_1
      try clear hfz24_2
      try clear hfz24_3
      try clear hfz24_4
      try clear hfz29_0
      try clear hfz29_1
      try clear hfz29_2
      try clear hfz29_3
      try clear hfz29_4
      try clear hfz37_0
      try clear hfz37_1
      try clear hfz37_2
      try clear hfz37_3
      try clear hfz37_4
      try clear hfz41_0
      try clear hfz41_1
      try clear hfz41_2
      try clear hfz41_3
      try clear hfz41_4
      try clear hfz50_0
      try clear hfz50_1
      try clear hfz50_2
      try clear hfz50_3
      try clear hfz50_4
      try clear hfz54_0
      try clear hfz54_1
      try clear hfz54_2
      try clear hfz54_3
      try clear hfz54_4
      try clear hfz63_0
      try clear hfz63_1
      try clear hfz63_2
      try clear hfz63_3
      try clear hfz63_4
      try clear hfz67_0
      try clear hfz67_1
      try clear hfz67_2
      try clear hfz67_3
      try clear hfz67_4
      try clear p2
      try clear p6
      obtain ⟨kq, x16_57, rfl, HA, HJ57, HO_3, HO_5, HO_6, BK422, BK437, BK445, BK456, BK457, HB⟩ := hcut
      cases kq with
      | zero => exact absurd HA.out (by simp [laws_FnKeys.j2])
      | succ kj57 =>
       have H := HA.out
       clear HA
       simp only [laws_FnKeys.j2] at H
       have HC70 := aK.mk H
       clear H
       go_upto_region 16 with (fail)
       go_cut [97] (fun v97 wc => ∃ (kq : Nat) (x97_69 : Bool), v97 = .bool x97_69 ∧ aK (laws_FnKeys.j3 kq t414 t423 x97_69 t417 t418 t419 t420 t421 = some r) ∧ aK (kq ≤ kj57) ∧ aK (Kd.R (Kd.int .u8) 5 wc w.heap.size (fun k_ => some k_ ≠ (v424 : Value).ownBlock) (.slice Ao17 t414.length co17) t414) ∧ aK (Kd.R (Kd.int .u8) 5 wc w.heap.size (fun k_ => some k_ ≠ ((.slice Ao17 t414.length co17) : Value).ownBlock) v424 t423) ∧ aK (wc.heap[gb422]? = some (.cells #[.int .i64 t417, .int .i64 t418, .int .i64 t419, .int .i64 t420, .int .i64 t421] 27 (0, 0))) ∧ aK (wc.heap[gb437]? = some (.cells #[.int .i64 t430, .int .i64 t431, .int .i64 t432, .int .i64 t433, .int .i64 t434] 27 (0, 0))) ∧ aK (wc.heap[gb445]? = some (.cells #[.int .i64 t438, .int .i64 t439, .int .i64 t440, .int .i64 t441, .int .i64 t442] 27 (0, 0))) ∧ aK (wc.heap[gb456]? = some (.cells #[.int .i64 t446, .int .i64 t447, .int .i64 t448, .int .i64 t449, .int .i64 t450] 27 (0, 0))) ∧ aK (wc.heap[gb457]? = some (.cells #[.int .i64 t451, .int .i64 t452, .int .i64 t453, .int .i64 t454, .int .i64 t455] 27 (0, 0))) ∧ aK (Below w.heap.size w wc))
       case first =>
        have H := HC70.out
        clear HC70
        by_cases c71 : (t436 != t444) = true
        ·rw [if_pos c71] at H
         have c71b0 : (t436 != t444) = true := c71
         (try (have c71b1 : decide (t436 = t444) = false := by simpa using c71))
         (try (have c71b2 : (t436 == t444) = false := by simpa using c71))
         (try (have c71b3 : ¬ (t436 = t444) := by simpa using c71))
         clear c71
         (first | rw [c71b0] | (simp only [bJ, bK]; rw [c71b0]) | skip)
         have H' := aK.mk H
         clear H
         try go_wp2
         have n0_ := aK.mk (Kd.bG HO_3.out)
         have n1_ := aK.mk (Kd.bG HO_5.out)
         have n2_ := aK.mk (Kd.bG HO_6.out)
         have n3_ := aK.mk (bkD BK422.out)
         have n4_ := aK.mk (bkD BK437.out)
         have n5_ := aK.mk (bkD BK445.out)
         have n6_ := aK.mk (bkD BK456.out)
         have n7_ := aK.mk (bkD BK457.out)
         have n8_ := aK.mk (aT HB.out)
         clear HO_3
         clear HO_5
         clear HO_6
         clear BK422
         clear BK437
         clear BK445
         clear BK456
         clear BK457
         clear HB
         have HO_3 := n0_
         have HO_5 := n1_
         have HO_6 := n2_
         have BK422 := n3_
         have BK437 := n4_
         have BK445 := n5_
         have BK456 := n6_
         have BK457 := n7_
         have HB := n8_
         clear n0_ n1_ n2_ n3_ n4_ n5_ n6_ n7_ n8_
         refine start_ (n := 29) (S := fun w' => True) (ds := []) laws_FnKeys.d0 (by kernel_rfl) rfl rfl trivial (fun hHeld => ?_); refine with_tabW laws_FnKeys.tab16 laws_FnKeys.bits16 (fun HT_ HW_ => ?_)
         generalize wc.drew = w72 at HO_3 HO_5 HO_6 BK422 BK437 BK445 BK456 BK457 HB hHeld ⊢
         refine bT (i := 0) (N := some 69) (v := ?_) (a' := ?_) laws_FnKeys.d1 rfl rfl (bM HT_.out (by kernel_rfl)) (fun _ _ _ h => h) (Or.inl ⟨by rfl, ?_⟩) ?_ ?_
         rotate_left
         ·intro w'
          go_simp
          with_reducible rfl
         rotate_left
         ·simp only [Act.put, lsT, lsZ, lsS, bJ, bK]
          rfl
         refine bT (i := 1) (N := some 70) (v := ?_) (a' := ?_) laws_FnKeys.d2 rfl rfl (bM HT_.out (by kernel_rfl)) (fun _ _ _ h => h) (Or.inl ⟨by rfl, ?_⟩) ?_ ?_
         rotate_left
         ·intro w'
          go_simp
          with_reducible rfl
         rotate_left
         ·simp only [Act.put, lsT, lsZ, lsS, bJ, bK]
          rfl
         refine bT (i := 2) (N := some 71) (v := ?_) (a' := ?_) laws_FnKeys.d3 rfl rfl (bM HT_.out (by kernel_rfl)) (fun _ _ _ h => h) (Or.inl ⟨by rfl, ?_⟩) ?_ ?_
         rotate_left
         ·intro w'
          go_simp
          with_reducible rfl
         rotate_left
         ·simp only [Act.put, lsT, lsZ, lsS, bJ, bK]
          rfl
         refine bT (i := 3) (N := some 72) (v := ?_) (a' := ?_) laws_FnKeys.d4 rfl rfl (bM HT_.out (by kernel_rfl)) (fun _ _ _ h => h) (Or.inl ⟨by rfl, ?_⟩) ?_ ?_
         rotate_left
         ·intro w'
          go_simp
          with_reducible rfl
         rotate_left
         ·simp only [Act.put, lsT, lsZ, lsS, bJ, bK]
          rfl
         refine bT (i := 4) (N := some 73) (v := undef) (a' := ?_) laws_FnKeys.d5 rfl rfl (bM HT_.out (by kernel_rfl)) (fun _ _ _ h => h) (Or.inr ⟨by rfl, rfl⟩) ?_ ?_
         rotate_left
         ·simp only [Act.put, lsT, lsZ, lsS, bJ, bK]
          rfl
         refine bT (i := 5) (N := some 74) (v := undef) (a' := ?_) laws_FnKeys.d6 rfl rfl (bM HT_.out (by kernel_rfl)) (fun _ _ _ h => h) (Or.inr ⟨by rfl, rfl⟩) ?_ ?_
         rotate_left
         ·simp only [Act.put, lsT, lsZ, lsS, bJ, bK]
          rfl
         refine bT (i := 6) (N := some 75) (v := undef) (a' := ?_) laws_FnKeys.d7 rfl rfl (bM HT_.out (by kernel_rfl)) (fun _ _ _ h => h) (Or.inr ⟨by rfl, rfl⟩) ?_ ?_
         rotate_left
         ·simp only [Act.put, lsT, lsZ, lsS, bJ, bK]
          rfl
         refine bT (i := 7) (N := some 76) (v := undef) (a' := ?_) laws_FnKeys.d8 rfl rfl (bM HT_.out (by kernel_rfl)) (fun _ _ _ h => h) (Or.inr ⟨by rfl, rfl⟩) ?_ ?_
         rotate_left
         ·simp only [Act.put, lsT, lsZ, lsS, bJ, bK]
          rfl
         refine bT (i := 8) (N := some 77) (v := undef) (a' := ?_) laws_FnKeys.d9 rfl rfl (bM HT_.out (by kernel_rfl)) (fun _ _ _ h => h) (Or.inr ⟨by rfl, rfl⟩) ?_ ?_
         rotate_left
         ·simp only [Act.put, lsT, lsZ, lsS, bJ, bK]
          rfl
         refine bT (i := 9) (N := some 78) (v := undef) (a' := ?_) laws_FnKeys.d10 rfl rfl (bM HT_.out (by kernel_rfl)) (fun _ _ _ h => h) (Or.inr ⟨by rfl, rfl⟩) ?_ ?_
         rotate_left
         ·simp only [Act.put, lsT, lsZ, lsS, bJ, bK]
          rfl
         refine bT (i := 10) (N := some 79) (v := undef) (a' := ?_) laws_FnKeys.d11 rfl rfl (bM HT_.out (by kernel_rfl)) (fun _ _ _ h => h) (Or.inr ⟨by rfl, rfl⟩) ?_ ?_
         rotate_left
         ·simp only [Act.put, lsT, lsZ, lsS, bJ, bK]
          rfl
         refine bT (i := 11) (N := some 80) (v := undef) (a' := ?_) laws_FnKeys.d12 rfl rfl (bM HT_.out (by kernel_rfl)) (fun _ _ _ h => h) (Or.inr ⟨by rfl, rfl⟩) ?_ ?_
         rotate_left
         ·simp only [Act.put, lsT, lsZ, lsS, bJ, bK]
          rfl
         refine bT (i := 12) (N := some 81) (v := undef) (a' := ?_) laws_FnKeys.d13 rfl rfl (bM HT_.out (by kernel_rfl)) (fun _ _ _ h => h) (Or.inr ⟨by rfl, rfl⟩) ?_ ?_
         rotate_left
         ·simp only [Act.put, lsT, lsZ, lsS, bJ, bK]
          rfl
         refine bT (i := 13) (N := some 82) (v := undef) (a' := ?_) laws_FnKeys.d14 rfl rfl (bM HT_.out (by kernel_rfl)) (fun _ _ _ h => h) (Or.inr ⟨by rfl, rfl⟩) ?_ ?_
         rotate_left
         ·simp only [Act.put, lsT, lsZ, lsS, bJ, bK]
          rfl
         refine bT (i := 14) (N := some 83) (v := undef) (a' := ?_) laws_FnKeys.d15 rfl rfl (bM HT_.out (by kernel_rfl)) (fun _ _ _ h => h) (Or.inr ⟨by rfl, rfl⟩) ?_ ?_
         rotate_left
         ·simp only [Act.put, lsT, lsZ, lsS, bJ, bK]
          rfl
         refine bT (i := 15) (N := some 84) (v := undef) (a' := ?_) laws_FnKeys.d16 rfl rfl (bM HT_.out (by kernel_rfl)) (fun _ _ _ h => h) (Or.inr ⟨by rfl, rfl⟩) ?_ ?_
         rotate_left
         ·simp only [Act.put, lsT, lsZ, lsS, bJ, bK]
          rfl
         refine bT (i := 16) (N := some 85) (v := undef) (a' := ?_) laws_FnKeys.d17 rfl rfl (bM HT_.out (by kernel_rfl)) (fun _ _ _ h => h) (Or.inr ⟨by rfl, rfl⟩) ?_ ?_
         rotate_left
         ·simp only [Act.put, lsT, lsZ, lsS, bJ, bK]
          rfl
         refine bT (i := 17) (N := some 86) (v := ?_) (a' := ?_) laws_FnKeys.d18 rfl rfl (bM HT_.out (by kernel_rfl)) (fun _ _ _ h => h) (Or.inl ⟨by rfl, ?_⟩) ?_ ?_
         rotate_left
         ·intro w'
          go_simp
          with_reducible rfl
         rotate_left
         ·simp only [Act.put, lsT, lsZ, lsS, bJ, bK]
          rfl
         refine bT (i := 18) (N := some 87) (v := ?_) (a' := ?_) laws_FnKeys.d19 rfl rfl (bM HT_.out (by kernel_rfl)) (fun _ _ _ h => h) (Or.inl ⟨by rfl, ?_⟩) ?_ ?_
         rotate_left
         ·intro w'
          go_simp
          with_reducible rfl
         rotate_left
         ·simp only [Act.put, lsT, lsZ, lsS, bJ, bK]
          rfl
         refine bT (i := 19) (N := some 88) (v := undef) (a' := ?_) laws_FnKeys.d20 rfl rfl (bM HT_.out (by kernel_rfl)) (fun _ _ _ h => h) (Or.inr ⟨by rfl, rfl⟩) ?_ ?_
         rotate_left
         ·simp only [Act.put, lsT, lsZ, lsS, bJ, bK]
          rfl
         refine bT (i := 20) (N := some 89) (v := undef) (a' := ?_) laws_FnKeys.d21 rfl rfl (bM HT_.out (by kernel_rfl)) (fun _ _ _ h => h) (Or.inr ⟨by rfl, rfl⟩) ?_ ?_
         rotate_left
         ·simp only [Act.put, lsT, lsZ, lsS, bJ, bK]
          rfl
         refine bT (i := 21) (N := some 90) (v := ?_) (a' := ?_) laws_FnKeys.d22 rfl rfl (bM HT_.out (by kernel_rfl)) (fun _ _ _ h => h) (Or.inl ⟨by rfl, ?_⟩) ?_ ?_
         rotate_left
         ·intro w'
          go_simp
          with_reducible rfl
         rotate_left
         ·simp only [Act.put, lsT, lsZ, lsS, bJ, bK]
          rfl
         refine bT (i := 22) (N := some 91) (v := ?_) (a' := ?_) laws_FnKeys.d23 rfl rfl (bM HT_.out (by kernel_rfl)) (fun _ _ _ h => h) (Or.inl ⟨by rfl, ?_⟩) ?_ ?_
         rotate_left
         ·intro w'
          go_simp
          with_reducible rfl
         rotate_left
         ·simp only [Act.put, lsT, lsZ, lsS, bJ, bK]
          rfl
         refine bT (i := 23) (N := some 92) (v := undef) (a' := ?_) laws_FnKeys.d24 rfl rfl (bM HT_.out (by kernel_rfl)) (fun _ _ _ h => h) (Or.inr ⟨by rfl, rfl⟩) ?_ ?_
         rotate_left
         ·simp only [Act.put, lsT, lsZ, lsS, bJ, bK]
          rfl
         refine bT (i := 24) (N := some 93) (v := undef) (a' := ?_) laws_FnKeys.d25 rfl rfl (bM HT_.out (by kernel_rfl)) (fun _ _ _ h => h) (Or.inr ⟨by rfl, rfl⟩) ?_ ?_
         rotate_left
         ·simp only [Act.put, lsT, lsZ, lsS, bJ, bK]
          rfl
         refine bT (i := 25) (N := some 94) (v := undef) (a' := ?_) laws_FnKeys.d26 rfl rfl (bM HT_.out (by kernel_rfl)) (fun _ _ _ h => h) (Or.inr ⟨by rfl, rfl⟩) ?_ ?_
         rotate_left
         ·simp only [Act.put, lsT, lsZ, lsS, bJ, bK]
          rfl
         refine bT (i := 26) (N := some 95) (v := undef) (a' := ?_) laws_FnKeys.d27 rfl rfl (bM HT_.out (by kernel_rfl)) (fun _ _ _ h => h) (Or.inr ⟨by rfl, rfl⟩) ?_ ?_
         rotate_left
         ·simp only [Act.put, lsT, lsZ, lsS, bJ, bK]
          rfl
         refine bT (i := 27) (N := some 96) (v := undef) (a' := ?_) laws_FnKeys.d28 rfl rfl (bM HT_.out (by kernel_rfl)) (fun _ _ _ h => h) (Or.inr ⟨by rfl, rfl⟩) ?_ ?_
         rotate_left
         ·simp only [Act.put, lsT, lsZ, lsS, bJ, bK]
          rfl
         refine bT (i := 28) (N := some 97) (v := ?_) (a' := ?_) laws_FnKeys.d29 rfl rfl (bM HT_.out (by kernel_rfl)) (fun _ _ _ h => h) (Or.inl ⟨by rfl, ?_⟩) ?_ ?_
         rotate_left
         ·intro w'
          go_simp
          with_reducible rfl
         rotate_left
         ·simp only [Act.put, lsT, lsZ, lsS, bJ, bK]
          rfl
         refine done_ (done_of HT_.out (by kernel_rfl)) ?_
         try go_wp2
         go_meet
         case rel => exact ⟨_, (true), (by first | rfl | (simp; done) | (simp [*]; done)), H', ⟨by have := HJ10.out; have := HJ44.out; have := HJ57.out; first | omega | exact Nat.le_refl _⟩, ⟨by (with_reducible repeat (first | apply Kd.bE | apply Kd.bF | apply Kd.bG)); exact Kd.cA HO_3.out (fun _ hk => hk.1)⟩, ⟨by (with_reducible repeat (first | apply Kd.bE | apply Kd.bF | apply Kd.bG)); exact Kd.cA HO_5.out (fun _ hk => hk.1)⟩, ⟨by (with_reducible repeat (first | refine bkN ?_ _ | refine bkD ?_ | refine bkA ?_ _)); exact BK422.out⟩, ⟨by (with_reducible repeat (first | refine bkN ?_ _ | refine bkD ?_ | refine bkA ?_ _)); exact BK437.out⟩, ⟨by (with_reducible repeat (first | refine bkN ?_ _ | refine bkD ?_ | refine bkA ?_ _)); exact BK445.out⟩, ⟨by (with_reducible repeat (first | refine bkN ?_ _ | refine bkD ?_ | refine bkA ?_ _)); exact BK456.out⟩, ⟨by (with_reducible repeat (first | refine bkN ?_ _ | refine bkD ?_ | refine bkA ?_ _)); exact BK457.out⟩, ⟨by repeat (first | (with_reducible first | exact HB.out | apply aU | apply aM | apply aT | refine bwS ?_ GE422.out | refine bwS ?_ GE437.out | refine bwS ?_ GE445.out | refine bwS ?_ GE456.out | refine bwS ?_ GE457.out) | exact HB.out)⟩⟩
        rw [if_neg c71] at H
        have c71b0 : (t436 != t444) = false := by simpa using c71
        (try (have c71b1 : decide (t436 = t444) = true := by simpa using c71))
        (try (have c71b2 : (t436 == t444) = true := by simpa using c71))
        clear c71
        (first | rw [c71b0] | (simp only [bJ, bK]; rw [c71b0]) | skip)
        by_cases c73 : t436 = true
        ·subst c73
         have H1 : ((impl_PutKey.f kj57 (([] : List Int)) t430 t431 t432 t433 t434).bind fun t464 => (if 0 ≤ t427 then (if t427 ≤ t435 then (if t435 ≤ (t426.length : Int) then (if (strOfNums t464).toList = (strOfNums ((t426.take (t435 : Int).toNat).drop (t427 : Int).toNat)).toList then (if x16_57 = 1 then ((impl_KeyOk.f kj57 t417 t418 t419 t420 t421).bind fun t471 => ((spec_KeyOk.f kj57 t417 t418 t419 t420 t421).bind fun t472 => (laws_FnKeys.j3 kj57 t414 t423 (t471 != t472) t417 t418 t419 t420 t421))) else (laws_FnKeys.j3 kj57 t414 t423 true t417 t418 t419 t420 t421)) else (laws_FnKeys.j3 kj57 t414 t423 true t417 t418 t419 t420 t421)) else (none)) else (none)) else (none))) = some r := by rw [if_pos rfl] at H; exact H
         clear H
         have H := H1
         clear H1
         obtain ⟨y461, hy461⟩ : ∃ y_ : List Int, y_ = (([] : List Int)) := ⟨_, rfl⟩
         replace H : ((impl_PutKey.f kj57 y461 t430 t431 t432 t433 t434).bind fun t464 => (if 0 ≤ t427 then (if t427 ≤ t435 then (if t435 ≤ (t426.length : Int) then (if (strOfNums t464).toList = (strOfNums ((t426.take (t435 : Int).toNat).drop (t427 : Int).toNat)).toList then (if x16_57 = 1 then ((impl_KeyOk.f kj57 t417 t418 t419 t420 t421).bind fun t471 => ((spec_KeyOk.f kj57 t417 t418 t419 t420 t421).bind fun t472 => (laws_FnKeys.j3 kj57 t414 t423 (t471 != t472) t417 t418 t419 t420 t421))) else (laws_FnKeys.j3 kj57 t414 t423 true t417 t418 t419 t420 t421)) else (laws_FnKeys.j3 kj57 t414 t423 true t417 t418 t419 t420 t421)) else (none)) else (none)) else (none))) = some r := by first | (rw [hy461]; with_reducible exact H) | (have H2_ := (Option.bind_some _ _).symm.trans H; rw [hy461]; with_reducible exact H2_) | (have H2_ := (Option.bind_some _ _).symm.trans H; with_reducible exact H2_) | with_reducible exact H | (rw [hy461]; exact H) | exact H
         have Ny461 := aK.mk hy461
         clear hy461
         replace H := lF H
         obtain ⟨t464, A740, H⟩ := H
         replace H : (if 0 ≤ t427 then (if t427 ≤ t435 then (if t435 ≤ (t426.length : Int) then (if (strOfNums t464).toList = (strOfNums ((t426.take (t435 : Int).toNat).drop (t427 : Int).toNat)).toList then (if x16_57 = 1 then ((impl_KeyOk.f kj57 t417 t418 t419 t420 t421).bind fun t471 => ((spec_KeyOk.f kj57 t417 t418 t419 t420 t421).bind fun t472 => (laws_FnKeys.j3 kj57 t414 t423 (t471 != t472) t417 t418 t419 t420 t421))) else (laws_FnKeys.j3 kj57 t414 t423 true t417 t418 t419 t420 t421)) else (laws_FnKeys.j3 kj57 t414 t423 true t417 t418 t419 t420 t421)) else (none)) else (none)) else (none)) = some r := H
         have A74 := aK.mk A740
         clear A740
         by_cases c75 : 0 ≤ t427
         rotate_left
         ·rw [if_neg c75] at H
          exact absurd H (by simp)
         rw [if_pos c75] at H
         have c75b0 := eq_true c75
         have c75b1 : decide (0 ≤ t427) = true := decide_eq_true c75
         clear c75
         by_cases c76 : t427 ≤ t435
         rotate_left
         ·rw [if_neg c76] at H
          exact absurd H (by simp)
         rw [if_pos c76] at H
         have c76b0 := eq_true c76
         have c76b1 : decide (t427 ≤ t435) = true := decide_eq_true c76
         clear c76
         by_cases c77 : t435 ≤ (t426.length : Int)
         rotate_left
         ·rw [if_neg c77] at H
          exact absurd H (by simp)
         rw [if_pos c77] at H
         have c77b0 := eq_true c77
         have c77b1 : decide (t435 ≤ (t426.length : Int)) = true := decide_eq_true c77
         clear c77
         obtain ⟨y467, hy467⟩ : ∃ y_ : List Int, y_ = ((t426.take (t435 : Int).toNat).drop (t427 : Int).toNat) := ⟨_, rfl⟩
         replace H : (if (strOfNums t464).toList = (strOfNums y467).toList then (if x16_57 = 1 then ((impl_KeyOk.f kj57 t417 t418 t419 t420 t421).bind fun t471 => ((spec_KeyOk.f kj57 t417 t418 t419 t420 t421).bind fun t472 => (laws_FnKeys.j3 kj57 t414 t423 (t471 != t472) t417 t418 t419 t420 t421))) else (laws_FnKeys.j3 kj57 t414 t423 true t417 t418 t419 t420 t421)) else (laws_FnKeys.j3 kj57 t414 t423 true t417 t418 t419 t420 t421)) = some r := by first | (rw [hy467]; with_reducible exact H) | (have H2_ := (Option.bind_some _ _).symm.trans H; rw [hy467]; with_reducible exact H2_) | (have H2_ := (Option.bind_some _ _).symm.trans H; with_reducible exact H2_) | with_reducible exact H | (rw [hy467]; exact H) | exact H
         have Ny467 := aK.mk hy467
         clear hy467
         by_cases c78 : (strOfNums t464).toList = (strOfNums y467).toList
         ·rw [if_pos c78] at H
          have c78b0 : ((strOfNums t464).toList == (strOfNums y467).toList) = true := beq_iff_eq.mpr c78
          have c78b1 : ((strOfNums t464).toList != (strOfNums y467).toList) = false := bne_eq_false_iff_eq.mpr c78
          clear c78
          by_cases c79 : x16_57 = 1
          ·rw [if_pos c79] at H
           have c79b0 : (x16_57 == 1) = true := beq_iff_eq.mpr c79
           have c79b1 : (x16_57 != 1) = false := bne_eq_false_iff_eq.mpr c79
           clear c79
           replace H := lF H
           obtain ⟨t471, A800, H⟩ := H
           replace H : ((spec_KeyOk.f kj57 t417 t418 t419 t420 t421).bind fun t472 => (laws_FnKeys.j3 kj57 t414 t423 (t471 != t472) t417 t418 t419 t420 t421)) = some r := H
           have A80 := aK.mk A800
           clear A800
           replace H := lF H
           obtain ⟨t472, A810, H⟩ := H
           replace H : (laws_FnKeys.j3 kj57 t414 t423 (t471 != t472) t417 t418 t419 t420 t421) = some r := H
           have A81 := aK.mk A810
           clear A810
           have H' := aK.mk H
           clear H
           try go_wp2
           have n0_ := aK.mk (Kd.bG HO_3.out)
           have n1_ := aK.mk (Kd.bG HO_5.out)
           have n2_ := aK.mk (Kd.bG HO_6.out)
           have n3_ := aK.mk (bkD BK422.out)
           have n4_ := aK.mk (bkD BK437.out)
           have n5_ := aK.mk (bkD BK445.out)
           have n6_ := aK.mk (bkD BK456.out)
           have n7_ := aK.mk (bkD BK457.out)
           have n8_ := aK.mk (aT HB.out)
           clear HO_3
           clear HO_5
           clear HO_6
           clear BK422
           clear BK437
           clear BK445
           clear BK456
           clear BK457
           clear HB
           have HO_3 := n0_
           have HO_5 := n1_
           have HO_6 := n2_
           have BK422 := n3_
           have BK437 := n4_
           have BK445 := n5_
           have BK456 := n6_
           have BK457 := n7_
           have HB := n8_
           clear n0_ n1_ n2_ n3_ n4_ n5_ n6_ n7_ n8_
           have q83 : (t435 : Int) ≤ ((t426.length : Int) : Int) := lE (by first | (with_reducible assumption) | assumption)
           obtain ⟨i083, hi083, _, hsz83, _⟩ := info_parts info5
           have hroom83 : t426.length ≤ co20 := (Kd.R_reads' HO_6.out).2.1
           have hC83 : Kd.C (Kd.int .u8) _ Ao20 t426.length t426 := (Kd.R_reads' HO_6.out).2.2
           have ql83 : (t427 : Int) ≤ (t435 : Int) := lE (by first | (with_reducible assumption) | assumption)
           have q083 : (0 : Int) ≤ (t427 : Int) := lE (by first | (with_reducible assumption) | assumption)
           have hcut83 := cut_mid (P := Try.prog) 22 5 .i64 .i64 Try.underlying22 hi083 1 hsz83 Ao20 t426.length co20 t427 t435 q083 ql83 q83 hroom83
           have hr83 := Kd.C_mid (lo := (t427 : Int).toNat) (hi := (t435 : Int).toNat) (c := co20) hC83 (by omega) (by omega) hroom83
           obtain ⟨A83, hA83⟩ : ∃ A1, A1 = (if co20 = (t427 : Int).toNat then Ao20 else (Ao20 : Option Addr).map (·.add ((t427 : Int).toNat * 1))) := ⟨_, rfl⟩
           obtain ⟨c83, hc83⟩ : ∃ c1, c1 = co20 - (t427 : Int).toNat := ⟨_, rfl⟩
           have hy83 : y467.length = (t435 : Int).toNat - (t427 : Int).toNat := (by rw [Ny467.out, List.length_drop, List.length_take] <;> omega)
           rw [show ((t426).take (t435 : Int).toNat).drop (t427 : Int).toNat = y467 from Ny467.out.symm] at hr83
           replace hr83 : Kd.C (Kd.int .u8) _ A83 y467.length y467 := (by rw [hA83]; exact hr83)
           rw [← hy83, ← hA83, ← hc83] at hcut83
           have HR470 := aK.mk hr83
           have HC470 := aK.mk (show y467.length ≤ c83 from by rw [hy83, hc83]; exact Nat.sub_le_sub_right (Nat.le_trans (by omega) hroom83) _)
           clear hr83 hC83 hroom83 hi083 hsz83 hc83
           have KY83 := aK.mk hy83
           have KA83 := aK.mk hA83
           clear hy83 hA83
           have KL83 := aK.mk (show (t435 : Int).toNat ≤ t426.length from by omega)
           have KM83 := aK.mk (show (t427 : Int).toNat ≤ (t435 : Int).toNat from by omega)
           replace q83 := eq_true q83
           refine start_ (n := 29) (S := fun w' => w'.cell? ⟨gb437, 0, none⟩ = some (.int .i64 t430) ∧ w'.cell? ⟨gb437, 1, none⟩ = some (.int .i64 t431) ∧ w'.cell? ⟨gb437, 2, none⟩ = some (.int .i64 t432) ∧ w'.cell? ⟨gb437, 3, none⟩ = some (.int .i64 t433) ∧ w'.cell? ⟨gb437, 4, none⟩ = some (.int .i64 t434) ∧ w'.cell? ⟨gb422, 0, none⟩ = some (.int .i64 t417) ∧ w'.cell? ⟨gb422, 1, none⟩ = some (.int .i64 t418) ∧ w'.cell? ⟨gb422, 2, none⟩ = some (.int .i64 t419) ∧ w'.cell? ⟨gb422, 3, none⟩ = some (.int .i64 t420) ∧ w'.cell? ⟨gb422, 4, none⟩ = some (.int .i64 t421) ∧ Kd.C (Kd.int .u8) w' A83 y467.length y467) (ds := []) laws_FnKeys.d0 (by kernel_rfl) rfl rfl ⟨(aQ BK437.out 0).trans rfl, (aQ BK437.out 1).trans rfl, (aQ BK437.out 2).trans rfl, (aQ BK437.out 3).trans rfl, (aQ BK437.out 4).trans rfl, (aQ BK422.out 0).trans rfl, (aQ BK422.out 1).trans rfl, (aQ BK422.out 2).trans rfl, (aQ BK422.out 3).trans rfl, (aQ BK422.out 4).trans rfl, (by repeat (first | (with_reducible exact HR470.out) | (with_reducible refine Kd.cD ?_ _) | (with_reducible refine Kd.cC ?_ _) | (with_reducible refine Kd.C_drew ?_) | exact HR470.out))⟩ (fun hHeld => ?_); refine with_tabW laws_FnKeys.tab16 laws_FnKeys.bits16 (fun HT_ HW_ => ?_)
           generalize wc.drew = w82 at HO_3 HO_5 HO_6 BK422 BK437 BK445 BK456 BK457 HB HR470 hHeld ⊢
           refine bT (i := 0) (N := some 69) (v := ?_) (a' := ?_) laws_FnKeys.d1 rfl rfl (bM HT_.out (by kernel_rfl)) (fun _ _ _ h => h) (Or.inl ⟨by rfl, ?_⟩) ?_ ?_
           rotate_left
           ·intro w'
            go_simp
            with_reducible rfl
           rotate_left
           ·simp only [Act.put, lsT, lsZ, lsS, bJ, bK]
            rfl
           refine bT (i := 1) (N := some 70) (v := ?_) (a' := ?_) laws_FnKeys.d2 rfl rfl (bM HT_.out (by kernel_rfl)) (fun _ _ _ h => h) (Or.inl ⟨by rfl, ?_⟩) ?_ ?_
           rotate_left
           ·intro w'
            go_simp
            with_reducible rfl
           rotate_left
           ·simp only [Act.put, lsT, lsZ, lsS, bJ, bK]
            rfl
           refine bT (i := 2) (N := some 71) (v := ?_) (a' := ?_) laws_FnKeys.d3 rfl rfl (bM HT_.out (by kernel_rfl)) (fun _ _ _ h => h) (Or.inl ⟨by rfl, ?_⟩) ?_ ?_
           rotate_left
           ·intro w'
            go_simp
            with_reducible rfl
           rotate_left
           ·simp only [Act.put, lsT, lsZ, lsS, bJ, bK]
            rfl
           refine bT (i := 3) (N := some 72) (v := ?_) (a' := ?_) laws_FnKeys.d4 rfl rfl (bM HT_.out (by kernel_rfl)) (fun _ _ _ h => h) (Or.inl ⟨by rfl, ?_⟩) ?_ ?_
           rotate_left
           ·intro w'
            go_simp
            with_reducible rfl
           rotate_left
           ·simp only [Act.put, lsT, lsZ, lsS, bJ, bK]
            rfl
           refine bT (i := 4) (N := some 73) (v := ?_) (a' := ?_) laws_FnKeys.d5 rfl rfl (bM HT_.out (by kernel_rfl)) (fun _ _ _ h => h) (Or.inl ⟨by rfl, ?_⟩) ?_ ?_
           rotate_left
           ·intro w'
            go_simp
            with_reducible rfl
           rotate_left
           ·simp only [Act.put, lsT, lsZ, lsS, bJ, bK]
            rfl
           refine bT (i := 5) (N := some 74) (v := ?_) (a' := ?_) laws_FnKeys.d6 rfl rfl (bM HT_.out (by kernel_rfl)) (fun _ _ _ h => h) (Or.inl ⟨by rfl, ?_⟩) ?_ ?_
           rotate_left
           ·intro w'
            go_simp
            with_reducible rfl
           rotate_left
           ·simp only [Act.put, lsT, lsZ, lsS, bJ, bK]
            rfl
           refine bT (i := 10) (N := some 79) (v := ?_) (a' := ?_) laws_FnKeys.d30 rfl rfl (bM HT_.out (by kernel_rfl)) (fun _ _ _ h => h) (Or.inl ⟨by rfl, ?_⟩) ?_ ?_
           rotate_left
           ·intro w'
            go_simp
            with_reducible rfl
           rotate_left
           ·simp only [Act.put, lsT, lsZ, lsS, bJ, bK]
            rfl
           refine bT (i := 11) (N := some 80) (v := ?_) (a' := ?_) laws_FnKeys.d31 rfl rfl (bM HT_.out (by kernel_rfl)) (fun _ _ _ h => h) (Or.inl ⟨by rfl, ?_⟩) ?_ ?_
           rotate_left
           ·intro w'
            go_simp
            with_reducible rfl
           rotate_left
           ·simp only [Act.put, lsT, lsZ, lsS, bJ, bK]
            rfl
           refine bT (i := 12) (N := some 81) (v := ?_) (a' := ?_) laws_FnKeys.d32 rfl rfl (bM HT_.out (by kernel_rfl)) (fun _ _ _ h => h) (Or.inl ⟨by rfl, ?_⟩) ?_ ?_
           rotate_left
           ·intro w'
            go_simp
            with_reducible rfl
           rotate_left
           ·simp only [Act.put, lsT, lsZ, lsS, bJ, bK]
            rfl
           refine bT (i := 13) (N := some 82) (v := ?_) (a' := ?_) laws_FnKeys.d33 rfl rfl (bM HT_.out (by kernel_rfl)) (fun _ _ _ h => h) (Or.inl ⟨by rfl, ?_⟩) ?_ ?_
           rotate_left
           ·intro w'
            go_simp
            with_reducible rfl
           rotate_left
           ·simp only [Act.put, lsT, lsZ, lsS, bJ, bK]
            rfl
           refine take_ (i := 14) (N := some 83) (v := ?_) (a' := ?_) laws_FnKeys.d34 rfl rfl (take_ofW HT_.out HW_.out (by kernel_rfl)) (fun _ _ _ h => h) (Or.inl ⟨by rfl, ?_⟩) hHeld ?_ ?_
           rotate_left
           ·rintro w' ⟨s0, s1, s2, s3, s4, s5, s6, s7, s8, s9, sC_⟩
            have hcv_ := Kd.C_string (P := Try.prog) (A := A83) (c := c83) Try.underlying22 Try.underlying5 Try.underlying9 sC_
            go_simp
            with_reducible rfl
           rotate_left
           ·simp only [Act.put, lsT, lsZ, lsS, bJ, bK]
            rfl
           refine take_ (i := 7) (N := some 76) (v := ?_) (a' := ?_) laws_FnKeys.d35 rfl rfl (take_ofW HT_.out HW_.out (by kernel_rfl)) (fun _ _ _ h => h) (Or.inl ⟨by rfl, ?_⟩) hHeld ?_ ?_
           rotate_left
           ·rintro w' ⟨s0, s1, s2, s3, s4, s5, s6, s7, s8, s9, sC_⟩
            go_simp
            with_reducible rfl
           rotate_left
           ·simp only [Act.put, lsT, lsZ, lsS, bJ, bK]
            rfl
           refine one_ (i := 6) (N := some 75) laws_FnKeys.d36 rfl rfl (one_of HT_.out (by kernel_rfl)) (by decide) (fun K hK => ?_)
           refine Kd.R_lit_step (Kd.int .u8) _ 5 ?hg (N := 75) ?hd (xs := ([] : List Int)) (inner := []) (ok := fun _ => True) (okp := fun _ => True) ?hr ?hp (fun _ hk => hk) trivial (Below.refl _ _) (Nat.le_refl _) (by simp) ?_; (case hd => rfl); (case hg => rfl); (case hr => first | (go_simp; done) | (go_simp; rfl)); (case hp => exact (Reps.none _ _))
           intro v462 w84 ho85 hb hg_ hnew_
           clear hg_ hnew_
           (first | rw [← Ny461.out] at ho85 | (simp only [Int.reduceToNat] at ho85; rw [← Ny461.out] at ho85))
           have n0_ := aK.mk (Kd.R_elder' (by (with_reducible repeat (first | apply Kd.bE | apply Kd.bF | apply Kd.bG)); exact HO_3.out) (Kd.R_base ho85) hb)
           have n1_ := aK.mk (Kd.R_elder' (by (with_reducible repeat (first | apply Kd.bE | apply Kd.bF | apply Kd.bG)); exact HO_5.out) (Kd.R_base ho85) hb)
           have n2_ := aK.mk (Kd.R_elder' (by (with_reducible repeat (first | apply Kd.bE | apply Kd.bF | apply Kd.bG)); exact HO_6.out) (Kd.R_base ho85) hb)
           have n3_ := aK.mk (Kd.R_lower (Kd.R_new' (Kd.R_new' (Kd.R_new' ho85 (Kd.R_lt (by (with_reducible repeat (first | apply Kd.bE | apply Kd.bF | apply Kd.bG)); exact HO_3.out))) (Kd.R_lt (by (with_reducible repeat (first | apply Kd.bE | apply Kd.bF | apply Kd.bG)); exact HO_5.out))) (Kd.R_lt (by (with_reducible repeat (first | apply Kd.bE | apply Kd.bF | apply Kd.bG)); exact HO_6.out))) (bN (by repeat (first | (with_reducible first | exact HB.out | apply aU | apply aM | apply aT | refine bwS ?_ GE422.out | refine bwS ?_ GE437.out | refine bwS ?_ GE445.out | refine bwS ?_ GE456.out | refine bwS ?_ GE457.out) | exact HB.out))))
           have n4_ := aK.mk (bC (g := gb422) (o := .cells #[.int .i64 t417, .int .i64 t418, .int .i64 t419, .int .i64 t420, .int .i64 t421] 27 (0, 0)) (by (with_reducible repeat (first | refine bkN ?_ _ | refine bkD ?_ | refine bkA ?_ _)); exact BK422.out) hb)
           have n5_ := aK.mk (bC (g := gb437) (o := .cells #[.int .i64 t430, .int .i64 t431, .int .i64 t432, .int .i64 t433, .int .i64 t434] 27 (0, 0)) (by (with_reducible repeat (first | refine bkN ?_ _ | refine bkD ?_ | refine bkA ?_ _)); exact BK437.out) hb)
           have n6_ := aK.mk (bC (g := gb445) (o := .cells #[.int .i64 t438, .int .i64 t439, .int .i64 t440, .int .i64 t441, .int .i64 t442] 27 (0, 0)) (by (with_reducible repeat (first | refine bkN ?_ _ | refine bkD ?_ | refine bkA ?_ _)); exact BK445.out) hb)
           have n7_ := aK.mk (bC (g := gb456) (o := .cells #[.int .i64 t446, .int .i64 t447, .int .i64 t448, .int .i64 t449, .int .i64 t450] 27 (0, 0)) (by (with_reducible repeat (first | refine bkN ?_ _ | refine bkD ?_ | refine bkA ?_ _)); exact BK456.out) hb)
           have n8_ := aK.mk (bC (g := gb457) (o := .cells #[.int .i64 t451, .int .i64 t452, .int .i64 t453, .int .i64 t454, .int .i64 t455] 27 (0, 0)) (by (with_reducible repeat (first | refine bkN ?_ _ | refine bkD ?_ | refine bkA ?_ _)); exact BK457.out) hb)
           have n9_ := aK.mk (Kd.C_below (by repeat (first | (with_reducible exact HR470.out) | (with_reducible refine Kd.cD ?_ _) | (with_reducible refine Kd.cC ?_ _) | (with_reducible refine Kd.C_drew ?_) | exact HR470.out)) hb)
           have n10_ := aK.mk (bL (by repeat (first | (with_reducible first | exact HB.out | apply aU | apply aM | apply aT | refine bwS ?_ GE422.out | refine bwS ?_ GE437.out | refine bwS ?_ GE445.out | refine bwS ?_ GE456.out | refine bwS ?_ GE457.out) | exact HB.out)) hb)
           clear HO_3
           clear HO_5
           clear HO_6
           clear BK422
           clear BK437
           clear BK445
           clear BK456
           clear BK457
           clear HR470
           clear HB
           have HO_3 := n0_
           have HO_5 := n1_
           have HO_6 := n2_
           have HO463 := n3_
           have BK422 := n4_
           have BK437 := n5_
           have BK445 := n6_
           have BK456 := n7_
           have BK457 := n8_
           have HR470 := n9_
           have HB := n10_
           clear n0_ n1_ n2_ n3_ n4_ n5_ n6_ n7_ n8_ n9_ n10_
           clear hb ho85
           obtain ⟨Ao86, co86, eo86⟩ := Kd.R_slice HO463.out
           (first | subst eo86 | (injection eo86 with f1_ f2_ f3_; have f4_ := f1_.symm; have f5_ := f3_.symm; clear f1_ f2_ f3_; subst f4_; subst f5_))
           refine hK.out _ _ ⟨(aQ BK437.out 0).trans rfl, (aQ BK437.out 1).trans rfl, (aQ BK437.out 2).trans rfl, (aQ BK437.out 3).trans rfl, (aQ BK437.out 4).trans rfl, (aQ BK422.out 0).trans rfl, (aQ BK422.out 1).trans rfl, (aQ BK422.out 2).trans rfl, (aQ BK422.out 3).trans rfl, (aQ BK422.out 4).trans rfl, (by repeat (first | (with_reducible exact HR470.out) | (with_reducible refine Kd.cD ?_ _) | (with_reducible refine Kd.cC ?_ _) | (with_reducible refine Kd.C_drew ?_) | exact HR470.out))⟩ (fun hHeld => ?_)
           clear hK K
           refine norm_ (a' := ?_) ?_ ?_
           rotate_left
           ·show Act.put _ (some 75) _ = _
            simp only [Act.put, lsT, lsZ, lsS, bJ, bK]
            rfl
           refine one_ (i := 8) (N := some 77) laws_FnKeys.d37 rfl rfl (one_of HT_.out (by kernel_rfl)) (by decide) (fun K hK => ?_)
           refine goes_ Try.func17 (by kernel_rfl) rfl #[.slice Ao86 y461.length co86, .agg #[.int .i64 t430, .int .i64 t431, .int .i64 t432, .int .i64 t433, .int .i64 t434]] (by rfl) rfl rfl (by (try simp only [List.map_toArray, List.map_cons, List.map_nil]); first | done | rfl | (simp only [List.length_drop, List.length_take]; rfl)) ?_
           with_reducible refine (impl_PutKey.calls kj57 (fun k_ => some k_ = (.slice Ao86 y461.length co86 : Value).ownBlock) _ _ y461 t430 t431 t432 t433 t434 t464 _ ?side1 A74.out).mono ?_
           (case side1 => exact Kd.R_V (Kd.R_tight rfl (Kd.R_types (Kd.R_types (Kd.R_types (Kd.R_types (Kd.R_types (HO463.out) BK422.out (by decide)) BK437.out (by decide)) BK445.out (by decide)) BK456.out (by decide)) BK457.out (by decide))))
           rintro e w87 ⟨v465, rfl, ho0, hb⟩
           refine ⟨_, rfl, ?_⟩
           have n0_ := aK.mk (Kd.R_elder' (by (with_reducible repeat (first | apply Kd.bE | apply Kd.bF | apply Kd.bG)); exact HO_3.out) (Kd.R_base ho0) hb)
           have n1_ := aK.mk (Kd.R_elder' (by (with_reducible repeat (first | apply Kd.bE | apply Kd.bF | apply Kd.bG)); exact HO_5.out) (Kd.R_base ho0) hb)
           have n2_ := aK.mk (Kd.R_elder' (by (with_reducible repeat (first | apply Kd.bE | apply Kd.bF | apply Kd.bG)); exact HO_6.out) (Kd.R_base ho0) hb)
           have n3_ := aK.mk (Kd.R_elder' (by (with_reducible repeat (first | apply Kd.bE | apply Kd.bF | apply Kd.bG)); exact HO463.out) (Kd.R_base ho0) hb)
           have n4_ := aK.mk (Kd.R_lower (Kd.R_new' (Kd.R_new' (Kd.R_new' (Kd.R_new' (Kd.cA (ok' := fun k_ => True) ho0 (fun _ hk_ => trivial)) (Kd.R_lt (by (with_reducible repeat (first | apply Kd.bE | apply Kd.bF | apply Kd.bG)); exact HO_3.out))) (Kd.R_lt (by (with_reducible repeat (first | apply Kd.bE | apply Kd.bF | apply Kd.bG)); exact HO_5.out))) (Kd.R_lt (by (with_reducible repeat (first | apply Kd.bE | apply Kd.bF | apply Kd.bG)); exact HO_6.out))) (Kd.R_lt (by (with_reducible repeat (first | apply Kd.bE | apply Kd.bF | apply Kd.bG)); exact HO463.out))) (bN (by repeat (first | (with_reducible first | exact HB.out | apply aU | apply aM | apply aT | refine bwS ?_ GE422.out | refine bwS ?_ GE437.out | refine bwS ?_ GE445.out | refine bwS ?_ GE456.out | refine bwS ?_ GE457.out) | exact HB.out))))
           have n5_ := aK.mk (bC (g := gb422) (o := .cells #[.int .i64 t417, .int .i64 t418, .int .i64 t419, .int .i64 t420, .int .i64 t421] 27 (0, 0)) (by (with_reducible repeat (first | refine bkN ?_ _ | refine bkD ?_ | refine bkA ?_ _)); exact BK422.out) hb)
           have n6_ := aK.mk (bC (g := gb437) (o := .cells #[.int .i64 t430, .int .i64 t431, .int .i64 t432, .int .i64 t433, .int .i64 t434] 27 (0, 0)) (by (with_reducible repeat (first | refine bkN ?_ _ | refine bkD ?_ | refine bkA ?_ _)); exact BK437.out) hb)
           have n7_ := aK.mk (bC (g := gb445) (o := .cells #[.int .i64 t438, .int .i64 t439, .int .i64 t440, .int .i64 t441, .int .i64 t442] 27 (0, 0)) (by (with_reducible repeat (first | refine bkN ?_ _ | refine bkD ?_ | refine bkA ?_ _)); exact BK445.out) hb)
           have n8_ := aK.mk (bC (g := gb456) (o := .cells #[.int .i64 t446, .int .i64 t447, .int .i64 t448, .int .i64 t449, .int .i64 t450] 27 (0, 0)) (by (with_reducible repeat (first | refine bkN ?_ _ | refine bkD ?_ | refine bkA ?_ _)); exact BK456.out) hb)
           have n9_ := aK.mk (bC (g := gb457) (o := .cells #[.int .i64 t451, .int .i64 t452, .int .i64 t453, .int .i64 t454, .int .i64 t455] 27 (0, 0)) (by (with_reducible repeat (first | refine bkN ?_ _ | refine bkD ?_ | refine bkA ?_ _)); exact BK457.out) hb)
           have n10_ := aK.mk (Kd.C_below (by repeat (first | (with_reducible exact HR470.out) | (with_reducible refine Kd.cD ?_ _) | (with_reducible refine Kd.cC ?_ _) | (with_reducible refine Kd.C_drew ?_) | exact HR470.out)) hb)
           have n11_ := aK.mk (bL (by repeat (first | (with_reducible first | exact HB.out | apply aU | apply aM | apply aT | refine bwS ?_ GE422.out | refine bwS ?_ GE437.out | refine bwS ?_ GE445.out | refine bwS ?_ GE456.out | refine bwS ?_ GE457.out) | exact HB.out)) hb)
           clear HO_3
           clear HO_5
           clear HO_6
           clear HO463
           clear BK422
           clear BK437
           clear BK445
           clear BK456
           clear BK457
           clear HR470
           clear HB
           have HO_3 := n0_
           have HO_5 := n1_
           have HO_6 := n2_
           have HO463 := n3_
           have HO466 := n4_
           have BK422 := n5_
           have BK437 := n6_
           have BK445 := n7_
           have BK456 := n8_
           have BK457 := n9_
           have HR470 := n10_
           have HB := n11_
           clear n0_ n1_ n2_ n3_ n4_ n5_ n6_ n7_ n8_ n9_ n10_ n11_
           (try clear hb)
           (try clear hb2)
           (try clear hk)
           (try clear hi)
           (try clear ho0)
           have hcv89 := Kd.C_string (P := Try.prog) (A := A83) (c := c83) Try.underlying22 Try.underlying5 Try.underlying9 (by repeat (first | (with_reducible exact HR470.out) | (with_reducible refine Kd.cD ?_ _) | (with_reducible refine Kd.cC ?_ _) | (with_reducible refine Kd.C_drew ?_) | exact HR470.out))
           refine hK.out _ _ ⟨(aQ BK437.out 0).trans rfl, (aQ BK437.out 1).trans rfl, (aQ BK437.out 2).trans rfl, (aQ BK437.out 3).trans rfl, (aQ BK437.out 4).trans rfl, (aQ BK422.out 0).trans rfl, (aQ BK422.out 1).trans rfl, (aQ BK422.out 2).trans rfl, (aQ BK422.out 3).trans rfl, (aQ BK422.out 4).trans rfl, (by repeat (first | (with_reducible exact HR470.out) | (with_reducible refine Kd.cD ?_ _) | (with_reducible refine Kd.cC ?_ _) | (with_reducible refine Kd.C_drew ?_) | exact HR470.out))⟩ (fun hHeld => ?_)
           clear hK K
           refine norm_ (a' := ?_) ?_ ?_
           rotate_left
           ·show Act.put _ (some 77) _ = _
            simp only [Act.put, lsT, lsZ, lsS, bJ, bK]
            rfl
           refine one_ (i := 9) (N := some 78) laws_FnKeys.d15 rfl rfl (one_of HT_.out (by kernel_rfl)) (by decide) (fun K hK => ?_)
           have hcv88 := own_string (P := Try.prog) Try.underlying22 Try.underlying5 Try.underlying9 (Kd.own_of_R HO466.out)
           refine value_ (w1 := ?_) (v := ?_) (by rfl) rfl ?_ ?_
           rotate_left 2
           ·go_simp
            constructor
            ·rfl
            ·rfl
           clear hcv88
           refine hK.out _ _ ⟨(aQ BK437.out 0).trans rfl, (aQ BK437.out 1).trans rfl, (aQ BK437.out 2).trans rfl, (aQ BK437.out 3).trans rfl, (aQ BK437.out 4).trans rfl, (aQ BK422.out 0).trans rfl, (aQ BK422.out 1).trans rfl, (aQ BK422.out 2).trans rfl, (aQ BK422.out 3).trans rfl, (aQ BK422.out 4).trans rfl, (by repeat (first | (with_reducible exact HR470.out) | (with_reducible refine Kd.cD ?_ _) | (with_reducible refine Kd.cC ?_ _) | (with_reducible refine Kd.C_drew ?_) | exact HR470.out))⟩ (fun hHeld => ?_)
           clear hK K
           refine norm_ (a' := ?_) ?_ ?_
           rotate_left
           ·show Act.put _ (some 78) _ = _
            simp only [Act.put, lsT, lsZ, lsS, bJ, bK]
            rfl
           refine bT (i := 15) (N := some 84) (v := ?_) (a' := ?_) laws_FnKeys.d16 rfl rfl (bM HT_.out (by kernel_rfl)) (fun _ _ _ h => h) (Or.inl ⟨by rfl, ?_⟩) ?_ ?_
           rotate_left
           ·intro w'
            go_simp
            with_reducible rfl
           rotate_left
           ·simp only [Act.put, lsT, lsZ, lsS, bJ, bK]
            rfl
           refine bT (i := 16) (N := some 85) (v := ?_) (a' := ?_) laws_FnKeys.d17 rfl rfl (bM HT_.out (by kernel_rfl)) (fun _ _ _ h => h) (Or.inl ⟨by rfl, ?_⟩) ?_ ?_
           rotate_left
           ·intro w'
            go_simp
            with_reducible rfl
           rotate_left
           ·simp only [Act.put, lsT, lsZ, lsS, bJ, bK]
            rfl
           refine bT (i := 17) (N := some 86) (v := ?_) (a' := ?_) laws_FnKeys.d18 rfl rfl (bM HT_.out (by kernel_rfl)) (fun _ _ _ h => h) (Or.inl ⟨by rfl, ?_⟩) ?_ ?_
           rotate_left
           ·intro w'
            go_simp
            with_reducible rfl
           rotate_left
           ·simp only [Act.put, lsT, lsZ, lsS, bJ, bK]
            rfl
           refine bT (i := 18) (N := some 87) (v := ?_) (a' := ?_) laws_FnKeys.d19 rfl rfl (bM HT_.out (by kernel_rfl)) (fun _ _ _ h => h) (Or.inl ⟨by rfl, ?_⟩) ?_ ?_
           rotate_left
           ·intro w'
            go_simp
            with_reducible rfl
           rotate_left
           ·simp only [Act.put, lsT, lsZ, lsS, bJ, bK]
            rfl
           refine bT (i := 19) (N := some 88) (v := ?_) (a' := ?_) laws_FnKeys.d20 rfl rfl (bM HT_.out (by kernel_rfl)) (fun _ _ _ h => h) (Or.inl ⟨by rfl, ?_⟩) ?_ ?_
           rotate_left
           ·intro w'
            go_simp
            with_reducible rfl
           rotate_left
           ·simp only [Act.put, lsT, lsZ, lsS, bJ, bK]
            rfl
           refine bT (i := 20) (N := some 89) (v := ?_) (a' := ?_) laws_FnKeys.d21 rfl rfl (bM HT_.out (by kernel_rfl)) (fun _ _ _ h => h) (Or.inl ⟨by rfl, ?_⟩) ?_ ?_
           rotate_left
           ·intro w'
            go_simp
            with_reducible rfl
           rotate_left
           ·simp only [Act.put, lsT, lsZ, lsS, bJ, bK]
            rfl
           refine bT (i := 21) (N := some 90) (v := ?_) (a' := ?_) laws_FnKeys.d22 rfl rfl (bM HT_.out (by kernel_rfl)) (fun _ _ _ h => h) (Or.inl ⟨by rfl, ?_⟩) ?_ ?_
           rotate_left
           ·intro w'
            go_simp
            with_reducible rfl
           rotate_left
           ·simp only [Act.put, lsT, lsZ, lsS, bJ, bK]
            rfl
           refine bT (i := 22) (N := some 91) (v := ?_) (a' := ?_) laws_FnKeys.d23 rfl rfl (bM HT_.out (by kernel_rfl)) (fun _ _ _ h => h) (Or.inl ⟨by rfl, ?_⟩) ?_ ?_
           rotate_left
           ·intro w'
            go_simp
            with_reducible rfl
           rotate_left
           ·simp only [Act.put, lsT, lsZ, lsS, bJ, bK]
            rfl
           refine take_ (i := 23) (N := some 92) (v := ?_) (a' := ?_) laws_FnKeys.d24 rfl rfl (take_ofW HT_.out HW_.out (by kernel_rfl)) (fun _ _ _ h => h) (Or.inl ⟨by rfl, ?_⟩) hHeld ?_ ?_
           rotate_left
           ·rintro w' ⟨s0, s1, s2, s3, s4, s5, s6, s7, s8, s9, sC_⟩
            go_simp
            with_reducible rfl
           rotate_left
           ·simp only [Act.put, lsT, lsZ, lsS, bJ, bK]
            rfl
           refine take_ (i := 25) (N := some 94) (v := ?_) (a' := ?_) laws_FnKeys.d38 rfl rfl (take_ofW HT_.out HW_.out (by kernel_rfl)) (fun _ _ _ h => h) (Or.inl ⟨by rfl, ?_⟩) hHeld ?_ ?_
           rotate_left
           ·rintro w' ⟨s0, s1, s2, s3, s4, s5, s6, s7, s8, s9, sC_⟩
            go_simp
            with_reducible rfl
           rotate_left
           ·simp only [Act.put, lsT, lsZ, lsS, bJ, bK]
            rfl
           refine one_ (i := 24) (N := some 93) laws_FnKeys.d26 rfl rfl (one_of HT_.out (by kernel_rfl)) (by decide) (fun K hK => ?_)
           refine goes_ Try.func30 (by kernel_rfl) rfl #[.agg #[.int .i64 t417, .int .i64 t418, .int .i64 t419, .int .i64 t420, .int .i64 t421]] (by rfl) rfl rfl (by (try simp only [List.map_toArray, List.map_cons, List.map_nil]); first | done | rfl | (simp only [List.length_drop, List.length_take]; rfl)) ?_
           with_reducible refine (impl_KeyOk.calls kj57 t417 t418 t419 t420 t421 t471 _ A80.out).mono ?_
           rintro e w91 ⟨rfl, hb⟩
           refine ⟨_, rfl, ?_⟩
           have n0_ := aK.mk (Kd.cB (by (with_reducible repeat (first | apply Kd.bE | apply Kd.bF | apply Kd.bG)); exact HO_3.out) hb)
           have n1_ := aK.mk (Kd.cB (by (with_reducible repeat (first | apply Kd.bE | apply Kd.bF | apply Kd.bG)); exact HO_5.out) hb)
           have n2_ := aK.mk (Kd.cB (by (with_reducible repeat (first | apply Kd.bE | apply Kd.bF | apply Kd.bG)); exact HO_6.out) hb)
           have n3_ := aK.mk (Kd.cB (by (with_reducible repeat (first | apply Kd.bE | apply Kd.bF | apply Kd.bG)); exact HO463.out) hb)
           have n4_ := aK.mk (Kd.cB (by (with_reducible repeat (first | apply Kd.bE | apply Kd.bF | apply Kd.bG)); exact HO466.out) hb)
           have n5_ := aK.mk (bC (g := gb422) (o := .cells #[.int .i64 t417, .int .i64 t418, .int .i64 t419, .int .i64 t420, .int .i64 t421] 27 (0, 0)) (by (with_reducible repeat (first | refine bkN ?_ _ | refine bkD ?_ | refine bkA ?_ _)); exact BK422.out) hb)
           have n6_ := aK.mk (bC (g := gb437) (o := .cells #[.int .i64 t430, .int .i64 t431, .int .i64 t432, .int .i64 t433, .int .i64 t434] 27 (0, 0)) (by (with_reducible repeat (first | refine bkN ?_ _ | refine bkD ?_ | refine bkA ?_ _)); exact BK437.out) hb)
           have n7_ := aK.mk (bC (g := gb445) (o := .cells #[.int .i64 t438, .int .i64 t439, .int .i64 t440, .int .i64 t441, .int .i64 t442] 27 (0, 0)) (by (with_reducible repeat (first | refine bkN ?_ _ | refine bkD ?_ | refine bkA ?_ _)); exact BK445.out) hb)
           have n8_ := aK.mk (bC (g := gb456) (o := .cells #[.int .i64 t446, .int .i64 t447, .int .i64 t448, .int .i64 t449, .int .i64 t450] 27 (0, 0)) (by (with_reducible repeat (first | refine bkN ?_ _ | refine bkD ?_ | refine bkA ?_ _)); exact BK456.out) hb)
           have n9_ := aK.mk (bC (g := gb457) (o := .cells #[.int .i64 t451, .int .i64 t452, .int .i64 t453, .int .i64 t454, .int .i64 t455] 27 (0, 0)) (by (with_reducible repeat (first | refine bkN ?_ _ | refine bkD ?_ | refine bkA ?_ _)); exact BK457.out) hb)
           have n10_ := aK.mk (bL (by repeat (first | (with_reducible first | exact HB.out | apply aU | apply aM | apply aT | refine bwS ?_ GE422.out | refine bwS ?_ GE437.out | refine bwS ?_ GE445.out | refine bwS ?_ GE456.out | refine bwS ?_ GE457.out) | exact HB.out)) hb)
           clear HO_3
           clear HO_5
           clear HO_6
           clear HO463
           clear HO466
           clear BK422
           clear BK437
           clear BK445
           clear BK456
           clear BK457
           clear HB
           have HO_3 := n0_
           have HO_5 := n1_
           have HO_6 := n2_
           have HO463 := n3_
           have HO466 := n4_
           have BK422 := n5_
           have BK437 := n6_
           have BK445 := n7_
           have BK456 := n8_
           have BK457 := n9_
           have HB := n10_
           clear n0_ n1_ n2_ n3_ n4_ n5_ n6_ n7_ n8_ n9_ n10_
           (try (have nHR_ := aK.mk (Kd.C_below (by repeat (first | (with_reducible exact HR470.out) | (with_reducible refine Kd.cD ?_ _) | (with_reducible refine Kd.cC ?_ _) | (with_reducible refine Kd.C_drew ?_) | exact HR470.out)) hb); clear HR470; have HR470 := nHR_; clear nHR_)); (try clear hb)
           (try clear hb2)
           (try clear hk)
           (try clear hi)
           refine hK.out _ _ ⟨(aQ BK437.out 0).trans rfl, (aQ BK437.out 1).trans rfl, (aQ BK437.out 2).trans rfl, (aQ BK437.out 3).trans rfl, (aQ BK437.out 4).trans rfl, (aQ BK422.out 0).trans rfl, (aQ BK422.out 1).trans rfl, (aQ BK422.out 2).trans rfl, (aQ BK422.out 3).trans rfl, (aQ BK422.out 4).trans rfl, (by repeat (first | (with_reducible exact HR470.out) | (with_reducible refine Kd.cD ?_ _) | (with_reducible refine Kd.cC ?_ _) | (with_reducible refine Kd.C_drew ?_) | exact HR470.out))⟩ (fun hHeld => ?_)
           clear hK K
           refine norm_ (a' := ?_) ?_ ?_
           rotate_left
           ·show Act.put _ (some 93) _ = _
            simp only [Act.put, lsT, lsZ, lsS, bJ, bK]
            rfl
           refine one_ (i := 26) (N := some 95) laws_FnKeys.d27 rfl rfl (one_of HT_.out (by kernel_rfl)) (by decide) (fun K hK => ?_)
           refine goes_ Try.func31 (by kernel_rfl) rfl #[.agg #[.int .i64 t417, .int .i64 t418, .int .i64 t419, .int .i64 t420, .int .i64 t421]] (by rfl) rfl rfl (by (try simp only [List.map_toArray, List.map_cons, List.map_nil]); first | done | rfl | (simp only [List.length_drop, List.length_take]; rfl)) ?_
           with_reducible refine (spec_KeyOk.calls kj57 t417 t418 t419 t420 t421 t472 _ A81.out).mono ?_
           rintro e w92 ⟨rfl, hb⟩
           refine ⟨_, rfl, ?_⟩
           have n0_ := aK.mk (Kd.cB (by (with_reducible repeat (first | apply Kd.bE | apply Kd.bF | apply Kd.bG)); exact HO_3.out) hb)
           have n1_ := aK.mk (Kd.cB (by (with_reducible repeat (first | apply Kd.bE | apply Kd.bF | apply Kd.bG)); exact HO_5.out) hb)
           have n2_ := aK.mk (Kd.cB (by (with_reducible repeat (first | apply Kd.bE | apply Kd.bF | apply Kd.bG)); exact HO_6.out) hb)
           have n3_ := aK.mk (Kd.cB (by (with_reducible repeat (first | apply Kd.bE | apply Kd.bF | apply Kd.bG)); exact HO463.out) hb)
           have n4_ := aK.mk (Kd.cB (by (with_reducible repeat (first | apply Kd.bE | apply Kd.bF | apply Kd.bG)); exact HO466.out) hb)
           have n5_ := aK.mk (bC (g := gb422) (o := .cells #[.int .i64 t417, .int .i64 t418, .int .i64 t419, .int .i64 t420, .int .i64 t421] 27 (0, 0)) (by (with_reducible repeat (first | refine bkN ?_ _ | refine bkD ?_ | refine bkA ?_ _)); exact BK422.out) hb)
           have n6_ := aK.mk (bC (g := gb437) (o := .cells #[.int .i64 t430, .int .i64 t431, .int .i64 t432, .int .i64 t433, .int .i64 t434] 27 (0, 0)) (by (with_reducible repeat (first | refine bkN ?_ _ | refine bkD ?_ | refine bkA ?_ _)); exact BK437.out) hb)
           have n7_ := aK.mk (bC (g := gb445) (o := .cells #[.int .i64 t438, .int .i64 t439, .int .i64 t440, .int .i64 t441, .int .i64 t442] 27 (0, 0)) (by (with_reducible repeat (first | refine bkN ?_ _ | refine bkD ?_ | refine bkA ?_ _)); exact BK445.out) hb)
           have n8_ := aK.mk (bC (g := gb456) (o := .cells #[.int .i64 t446, .int .i64 t447, .int .i64 t448, .int .i64 t449, .int .i64 t450] 27 (0, 0)) (by (with_reducible repeat (first | refine bkN ?_ _ | refine bkD ?_ | refine bkA ?_ _)); exact BK456.out) hb)
           have n9_ := aK.mk (bC (g := gb457) (o := .cells #[.int .i64 t451, .int .i64 t452, .int .i64 t453, .int .i64 t454, .int .i64 t455] 27 (0, 0)) (by (with_reducible repeat (first | refine bkN ?_ _ | refine bkD ?_ | refine bkA ?_ _)); exact BK457.out) hb)
           have n10_ := aK.mk (bL (by repeat (first | (with_reducible first | exact HB.out | apply aU | apply aM | apply aT | refine bwS ?_ GE422.out | refine bwS ?_ GE437.out | refine bwS ?_ GE445.out | refine bwS ?_ GE456.out | refine bwS ?_ GE457.out) | exact HB.out)) hb)
           clear HO_3
           clear HO_5
           clear HO_6
           clear HO463
           clear HO466
           clear BK422
           clear BK437
           clear BK445
           clear BK456
           clear BK457
           clear HB
           have HO_3 := n0_
           have HO_5 := n1_
           have HO_6 := n2_
           have HO463 := n3_
           have HO466 := n4_
           have BK422 := n5_
           have BK437 := n6_
           have BK445 := n7_
           have BK456 := n8_
           have BK457 := n9_
           have HB := n10_
           clear n0_ n1_ n2_ n3_ n4_ n5_ n6_ n7_ n8_ n9_ n10_
           (try (have nHR_ := aK.mk (Kd.C_below (by repeat (first | (with_reducible exact HR470.out) | (with_reducible refine Kd.cD ?_ _) | (with_reducible refine Kd.cC ?_ _) | (with_reducible refine Kd.C_drew ?_) | exact HR470.out)) hb); clear HR470; have HR470 := nHR_; clear nHR_)); (try clear hb)
           (try clear hb2)
           (try clear hk)
           (try clear hi)
           refine hK.out _ _ ⟨(aQ BK437.out 0).trans rfl, (aQ BK437.out 1).trans rfl, (aQ BK437.out 2).trans rfl, (aQ BK437.out 3).trans rfl, (aQ BK437.out 4).trans rfl, (aQ BK422.out 0).trans rfl, (aQ BK422.out 1).trans rfl, (aQ BK422.out 2).trans rfl, (aQ BK422.out 3).trans rfl, (aQ BK422.out 4).trans rfl, (by repeat (first | (with_reducible exact HR470.out) | (with_reducible refine Kd.cD ?_ _) | (with_reducible refine Kd.cC ?_ _) | (with_reducible refine Kd.C_drew ?_) | exact HR470.out))⟩ (fun hHeld => ?_)
           clear hK K
           refine norm_ (a' := ?_) ?_ ?_
           rotate_left
           ·show Act.put _ (some 95) _ = _
            simp only [Act.put, lsT, lsZ, lsS, bJ, bK]
            rfl
           refine bT (i := 27) (N := some 96) (v := ?_) (a' := ?_) laws_FnKeys.d28 rfl rfl (bM HT_.out (by kernel_rfl)) (fun _ _ _ h => h) (Or.inl ⟨by rfl, ?_⟩) ?_ ?_
           rotate_left
           ·intro w'
            go_simp
            with_reducible rfl
           rotate_left
           ·simp only [Act.put, lsT, lsZ, lsS, bJ, bK]
            rfl
           refine bT (i := 28) (N := some 97) (v := ?_) (a' := ?_) laws_FnKeys.d29 rfl rfl (bM HT_.out (by kernel_rfl)) (fun _ _ _ h => h) (Or.inl ⟨by rfl, ?_⟩) ?_ ?_
           rotate_left
           ·intro w'
            go_simp
            with_reducible rfl
           rotate_left
           ·simp only [Act.put, lsT, lsZ, lsS, bJ, bK]
            rfl
           refine done_ (done_of HT_.out (by kernel_rfl)) ?_
           try go_wp2
           go_meet
           case rel => exact ⟨_, ((t471 != t472)), (by first | rfl | (simp; done) | (simp [*]; done)), H', ⟨by have := HJ10.out; have := HJ44.out; have := HJ57.out; first | omega | exact Nat.le_refl _⟩, ⟨by (with_reducible repeat (first | apply Kd.bE | apply Kd.bF | apply Kd.bG)); exact Kd.cA HO_3.out (fun _ hk => by first | exact hk.2.2.1 | exact hk.2.2 | exact hk.2.1 | exact hk.2 | exact hk.1 | exact hk.1.1 | exact hk.1.2 | exact hk.1.1.1 | exact hk.1.1.2 | exact hk.1.2.1 | exact hk.1.2.2)⟩, ⟨by (with_reducible repeat (first | apply Kd.bE | apply Kd.bF | apply Kd.bG)); exact Kd.cA HO_5.out (fun _ hk => by first | exact hk.2.2.1 | exact hk.2.2 | exact hk.2.1 | exact hk.2 | exact hk.1 | exact hk.1.1 | exact hk.1.2 | exact hk.1.1.1 | exact hk.1.1.2 | exact hk.1.2.1 | exact hk.1.2.2)⟩, ⟨by (with_reducible repeat (first | refine bkN ?_ _ | refine bkD ?_ | refine bkA ?_ _)); exact BK422.out⟩, ⟨by (with_reducible repeat (first | refine bkN ?_ _ | refine bkD ?_ | refine bkA ?_ _)); exact BK437.out⟩, ⟨by (with_reducible repeat (first | refine bkN ?_ _ | refine bkD ?_ | refine bkA ?_ _)); exact BK445.out⟩, ⟨by (with_reducible repeat (first | refine bkN ?_ _ | refine bkD ?_ | refine bkA ?_ _)); exact BK456.out⟩, ⟨by (with_reducible repeat (first | refine bkN ?_ _ | refine bkD ?_ | refine bkA ?_ _)); exact BK457.out⟩, ⟨by repeat (first | (with_reducible first | exact HB.out | apply aU | apply aM | apply aT | refine bwS ?_ GE422.out | refine bwS ?_ GE437.out | refine bwS ?_ GE445.out | refine bwS ?_ GE456.out | refine bwS ?_ GE457.out) | exact HB.out)⟩⟩
          rw [if_neg c79] at H
          have c79b0 : (x16_57 == 1) = false := beq_eq_false_iff_ne.mpr c79
          have c79b1 : (x16_57 != 1) = true := bne_iff_ne.mpr c79
          have H' := aK.mk H
          clear H
          try go_wp2
          have n0_ := aK.mk (Kd.bG HO_3.out)
          have n1_ := aK.mk (Kd.bG HO_5.out)
          have n2_ := aK.mk (Kd.bG HO_6.out)
          have n3_ := aK.mk (bkD BK422.out)
          have n4_ := aK.mk (bkD BK437.out)
          have n5_ := aK.mk (bkD BK445.out)
          have n6_ := aK.mk (bkD BK456.out)
          have n7_ := aK.mk (bkD BK457.out)
          have n8_ := aK.mk (aT HB.out)
          clear HO_3
          clear HO_5
          clear HO_6
          clear BK422
          clear BK437
          clear BK445
          clear BK456
          clear BK457
          clear HB
          have HO_3 := n0_
          have HO_5 := n1_
          have HO_6 := n2_
          have BK422 := n3_
          have BK437 := n4_
          have BK445 := n5_
          have BK456 := n6_
          have BK457 := n7_
          have HB := n8_
          clear n0_ n1_ n2_ n3_ n4_ n5_ n6_ n7_ n8_
          have q94 : (t435 : Int) ≤ ((t426.length : Int) : Int) := lE (by first | (with_reducible assumption) | assumption)
          obtain ⟨i094, hi094, _, hsz94, _⟩ := info_parts info5
          have hroom94 : t426.length ≤ co20 := (Kd.R_reads' HO_6.out).2.1
          have hC94 : Kd.C (Kd.int .u8) _ Ao20 t426.length t426 := (Kd.R_reads' HO_6.out).2.2
          have ql94 : (t427 : Int) ≤ (t435 : Int) := lE (by first | (with_reducible assumption) | assumption)
          have q094 : (0 : Int) ≤ (t427 : Int) := lE (by first | (with_reducible assumption) | assumption)
          have hcut94 := cut_mid (P := Try.prog) 22 5 .i64 .i64 Try.underlying22 hi094 1 hsz94 Ao20 t426.length co20 t427 t435 q094 ql94 q94 hroom94
          have hr94 := Kd.C_mid (lo := (t427 : Int).toNat) (hi := (t435 : Int).toNat) (c := co20) hC94 (by omega) (by omega) hroom94
          obtain ⟨A94, hA94⟩ : ∃ A1, A1 = (if co20 = (t427 : Int).toNat then Ao20 else (Ao20 : Option Addr).map (·.add ((t427 : Int).toNat * 1))) := ⟨_, rfl⟩
          obtain ⟨c94, hc94⟩ : ∃ c1, c1 = co20 - (t427 : Int).toNat := ⟨_, rfl⟩
          have hy94 : y467.length = (t435 : Int).toNat - (t427 : Int).toNat := (by rw [Ny467.out, List.length_drop, List.length_take] <;> omega)
          rw [show ((t426).take (t435 : Int).toNat).drop (t427 : Int).toNat = y467 from Ny467.out.symm] at hr94
          replace hr94 : Kd.C (Kd.int .u8) _ A94 y467.length y467 := (by rw [hA94]; exact hr94)
          rw [← hy94, ← hA94, ← hc94] at hcut94
          have HR470 := aK.mk hr94
          have HC470 := aK.mk (show y467.length ≤ c94 from by rw [hy94, hc94]; exact Nat.sub_le_sub_right (Nat.le_trans (by omega) hroom94) _)
          clear hr94 hC94 hroom94 hi094 hsz94 hc94
          have KY94 := aK.mk hy94
          have KA94 := aK.mk hA94
          clear hy94 hA94
          have KL94 := aK.mk (show (t435 : Int).toNat ≤ t426.length from by omega)
          have KM94 := aK.mk (show (t427 : Int).toNat ≤ (t435 : Int).toNat from by omega)
          replace q94 := eq_true q94
          refine start_ (n := 29) (S := fun w' => w'.cell? ⟨gb437, 0, none⟩ = some (.int .i64 t430) ∧ w'.cell? ⟨gb437, 1, none⟩ = some (.int .i64 t431) ∧ w'.cell? ⟨gb437, 2, none⟩ = some (.int .i64 t432) ∧ w'.cell? ⟨gb437, 3, none⟩ = some (.int .i64 t433) ∧ w'.cell? ⟨gb437, 4, none⟩ = some (.int .i64 t434) ∧ Kd.C (Kd.int .u8) w' A94 y467.length y467) (ds := []) laws_FnKeys.d0 (by kernel_rfl) rfl rfl ⟨(aQ BK437.out 0).trans rfl, (aQ BK437.out 1).trans rfl, (aQ BK437.out 2).trans rfl, (aQ BK437.out 3).trans rfl, (aQ BK437.out 4).trans rfl, (by repeat (first | (with_reducible exact HR470.out) | (with_reducible refine Kd.cD ?_ _) | (with_reducible refine Kd.cC ?_ _) | (with_reducible refine Kd.C_drew ?_) | exact HR470.out))⟩ (fun hHeld => ?_); refine with_tabW laws_FnKeys.tab16 laws_FnKeys.bits16 (fun HT_ HW_ => ?_)
          generalize wc.drew = w93 at HO_3 HO_5 HO_6 BK422 BK437 BK445 BK456 BK457 HB HR470 hHeld ⊢
          refine bT (i := 0) (N := some 69) (v := ?_) (a' := ?_) laws_FnKeys.d1 rfl rfl (bM HT_.out (by kernel_rfl)) (fun _ _ _ h => h) (Or.inl ⟨by rfl, ?_⟩) ?_ ?_
          rotate_left
          ·intro w'
           go_simp
           with_reducible rfl
          rotate_left
          ·simp only [Act.put, lsT, lsZ, lsS, bJ, bK]
           rfl
          refine bT (i := 1) (N := some 70) (v := ?_) (a' := ?_) laws_FnKeys.d2 rfl rfl (bM HT_.out (by kernel_rfl)) (fun _ _ _ h => h) (Or.inl ⟨by rfl, ?_⟩) ?_ ?_
          rotate_left
          ·intro w'
           go_simp
           with_reducible rfl
          rotate_left
          ·simp only [Act.put, lsT, lsZ, lsS, bJ, bK]
           rfl
          refine bT (i := 2) (N := some 71) (v := ?_) (a' := ?_) laws_FnKeys.d3 rfl rfl (bM HT_.out (by kernel_rfl)) (fun _ _ _ h => h) (Or.inl ⟨by rfl, ?_⟩) ?_ ?_
          rotate_left
          ·intro w'
           go_simp
           with_reducible rfl
          rotate_left
          ·simp only [Act.put, lsT, lsZ, lsS, bJ, bK]
           rfl
          refine bT (i := 3) (N := some 72) (v := ?_) (a' := ?_) laws_FnKeys.d4 rfl rfl (bM HT_.out (by kernel_rfl)) (fun _ _ _ h => h) (Or.inl ⟨by rfl, ?_⟩) ?_ ?_
          rotate_left
          ·intro w'
           go_simp
           with_reducible rfl
          rotate_left
          ·simp only [Act.put, lsT, lsZ, lsS, bJ, bK]
           rfl
          refine bT (i := 4) (N := some 73) (v := ?_) (a' := ?_) laws_FnKeys.d5 rfl rfl (bM HT_.out (by kernel_rfl)) (fun _ _ _ h => h) (Or.inl ⟨by rfl, ?_⟩) ?_ ?_
          rotate_left
          ·intro w'
           go_simp
           with_reducible rfl
          rotate_left
          ·simp only [Act.put, lsT, lsZ, lsS, bJ, bK]
           rfl
          refine bT (i := 5) (N := some 74) (v := ?_) (a' := ?_) laws_FnKeys.d6 rfl rfl (bM HT_.out (by kernel_rfl)) (fun _ _ _ h => h) (Or.inl ⟨by rfl, ?_⟩) ?_ ?_
          rotate_left
          ·intro w'
           go_simp
           with_reducible rfl
          rotate_left
          ·simp only [Act.put, lsT, lsZ, lsS, bJ, bK]
           rfl
          refine bT (i := 10) (N := some 79) (v := ?_) (a' := ?_) laws_FnKeys.d30 rfl rfl (bM HT_.out (by kernel_rfl)) (fun _ _ _ h => h) (Or.inl ⟨by rfl, ?_⟩) ?_ ?_
          rotate_left
          ·intro w'
           go_simp
           with_reducible rfl
          rotate_left
          ·simp only [Act.put, lsT, lsZ, lsS, bJ, bK]
           rfl
          refine bT (i := 11) (N := some 80) (v := ?_) (a' := ?_) laws_FnKeys.d31 rfl rfl (bM HT_.out (by kernel_rfl)) (fun _ _ _ h => h) (Or.inl ⟨by rfl, ?_⟩) ?_ ?_
          rotate_left
          ·intro w'
           go_simp
           with_reducible rfl
          rotate_left
          ·simp only [Act.put, lsT, lsZ, lsS, bJ, bK]
           rfl
          refine bT (i := 12) (N := some 81) (v := ?_) (a' := ?_) laws_FnKeys.d32 rfl rfl (bM HT_.out (by kernel_rfl)) (fun _ _ _ h => h) (Or.inl ⟨by rfl, ?_⟩) ?_ ?_
          rotate_left
          ·intro w'
           go_simp
           with_reducible rfl
          rotate_left
          ·simp only [Act.put, lsT, lsZ, lsS, bJ, bK]
           rfl
          refine bT (i := 13) (N := some 82) (v := ?_) (a' := ?_) laws_FnKeys.d33 rfl rfl (bM HT_.out (by kernel_rfl)) (fun _ _ _ h => h) (Or.inl ⟨by rfl, ?_⟩) ?_ ?_
          rotate_left
          ·intro w'
           go_simp
           with_reducible rfl
          rotate_left
          ·simp only [Act.put, lsT, lsZ, lsS, bJ, bK]
           rfl
          refine take_ (i := 14) (N := some 83) (v := ?_) (a' := ?_) laws_FnKeys.d34 rfl rfl (take_ofW HT_.out HW_.out (by kernel_rfl)) (fun _ _ _ h => h) (Or.inl ⟨by rfl, ?_⟩) hHeld ?_ ?_
          rotate_left
          ·rintro w' ⟨s0, s1, s2, s3, s4, sC_⟩
           have hcv_ := Kd.C_string (P := Try.prog) (A := A94) (c := c94) Try.underlying22 Try.underlying5 Try.underlying9 sC_
           go_simp
           with_reducible rfl
          rotate_left
          ·simp only [Act.put, lsT, lsZ, lsS, bJ, bK]
           rfl
          refine take_ (i := 7) (N := some 76) (v := ?_) (a' := ?_) laws_FnKeys.d35 rfl rfl (take_ofW HT_.out HW_.out (by kernel_rfl)) (fun _ _ _ h => h) (Or.inl ⟨by rfl, ?_⟩) hHeld ?_ ?_
          rotate_left
          ·rintro w' ⟨s0, s1, s2, s3, s4, sC_⟩
           go_simp
           with_reducible rfl
          rotate_left
          ·simp only [Act.put, lsT, lsZ, lsS, bJ, bK]
           rfl
          refine one_ (i := 6) (N := some 75) laws_FnKeys.d36 rfl rfl (one_of HT_.out (by kernel_rfl)) (by decide) (fun K hK => ?_)
          refine Kd.R_lit_step (Kd.int .u8) _ 5 ?hg (N := 75) ?hd (xs := ([] : List Int)) (inner := []) (ok := fun _ => True) (okp := fun _ => True) ?hr ?hp (fun _ hk => hk) trivial (Below.refl _ _) (Nat.le_refl _) (by simp) ?_; (case hd => rfl); (case hg => rfl); (case hr => first | (go_simp; done) | (go_simp; rfl)); (case hp => exact (Reps.none _ _))
          intro v462 w95 ho96 hb hg_ hnew_
          clear hg_ hnew_
          (first | rw [← Ny461.out] at ho96 | (simp only [Int.reduceToNat] at ho96; rw [← Ny461.out] at ho96))
          have n0_ := aK.mk (Kd.R_elder' (by (with_reducible repeat (first | apply Kd.bE | apply Kd.bF | apply Kd.bG)); exact HO_3.out) (Kd.R_base ho96) hb)
          have n1_ := aK.mk (Kd.R_elder' (by (with_reducible repeat (first | apply Kd.bE | apply Kd.bF | apply Kd.bG)); exact HO_5.out) (Kd.R_base ho96) hb)
          have n2_ := aK.mk (Kd.R_elder' (by (with_reducible repeat (first | apply Kd.bE | apply Kd.bF | apply Kd.bG)); exact HO_6.out) (Kd.R_base ho96) hb)
          have n3_ := aK.mk (Kd.R_lower (Kd.R_new' (Kd.R_new' (Kd.R_new' ho96 (Kd.R_lt (by (with_reducible repeat (first | apply Kd.bE | apply Kd.bF | apply Kd.bG)); exact HO_3.out))) (Kd.R_lt (by (with_reducible repeat (first | apply Kd.bE | apply Kd.bF | apply Kd.bG)); exact HO_5.out))) (Kd.R_lt (by (with_reducible repeat (first | apply Kd.bE | apply Kd.bF | apply Kd.bG)); exact HO_6.out))) (bN (by repeat (first | (with_reducible first | exact HB.out | apply aU | apply aM | apply aT | refine bwS ?_ GE422.out | refine bwS ?_ GE437.out | refine bwS ?_ GE445.out | refine bwS ?_ GE456.out | refine bwS ?_ GE457.out) | exact HB.out))))
          have n4_ := aK.mk (bC (g := gb422) (o := .cells #[.int .i64 t417, .int .i64 t418, .int .i64 t419, .int .i64 t420, .int .i64 t421] 27 (0, 0)) (by (with_reducible repeat (first | refine bkN ?_ _ | refine bkD ?_ | refine bkA ?_ _)); exact BK422.out) hb)
          have n5_ := aK.mk (bC (g := gb437) (o := .cells #[.int .i64 t430, .int .i64 t431, .int .i64 t432, .int .i64 t433, .int .i64 t434] 27 (0, 0)) (by (with_reducible repeat (first | refine bkN ?_ _ | refine bkD ?_ | refine bkA ?_ _)); exact BK437.out) hb)
          have n6_ := aK.mk (bC (g := gb445) (o := .cells #[.int .i64 t438, .int .i64 t439, .int .i64 t440, .int .i64 t441, .int .i64 t442] 27 (0, 0)) (by (with_reducible repeat (first | refine bkN ?_ _ | refine bkD ?_ | refine bkA ?_ _)); exact BK445.out) hb)
          have n7_ := aK.mk (bC (g := gb456) (o := .cells #[.int .i64 t446, .int .i64 t447, .int .i64 t448, .int .i64 t449, .int .i64 t450] 27 (0, 0)) (by (with_reducible repeat (first | refine bkN ?_ _ | refine bkD ?_ | refine bkA ?_ _)); exact BK456.out) hb)
          have n8_ := aK.mk (bC (g := gb457) (o := .cells #[.int .i64 t451, .int .i64 t452, .int .i64 t453, .int .i64 t454, .int .i64 t455] 27 (0, 0)) (by (with_reducible repeat (first | refine bkN ?_ _ | refine bkD ?_ | refine bkA ?_ _)); exact BK457.out) hb)
          have n9_ := aK.mk (Kd.C_below (by repeat (first | (with_reducible exact HR470.out) | (with_reducible refine Kd.cD ?_ _) | (with_reducible refine Kd.cC ?_ _) | (with_reducible refine Kd.C_drew ?_) | exact HR470.out)) hb)
          have n10_ := aK.mk (bL (by repeat (first | (with_reducible first | exact HB.out | apply aU | apply aM | apply aT | refine bwS ?_ GE422.out | refine bwS ?_ GE437.out | refine bwS ?_ GE445.out | refine bwS ?_ GE456.out | refine bwS ?_ GE457.out) | exact HB.out)) hb)
          clear HO_3
          clear HO_5
          clear HO_6
          clear BK422
          clear BK437
          clear BK445
          clear BK456
          clear BK457
          clear HR470
          clear HB
          have HO_3 := n0_
          have HO_5 := n1_
          have HO_6 := n2_
          have HO463 := n3_
          have BK422 := n4_
          have BK437 := n5_
          have BK445 := n6_
          have BK456 := n7_
          have BK457 := n8_
          have HR470 := n9_
          have HB := n10_
          clear n0_ n1_ n2_ n3_ n4_ n5_ n6_ n7_ n8_ n9_ n10_
          clear hb ho96
          obtain ⟨Ao97, co97, eo97⟩ := Kd.R_slice HO463.out
          (first | subst eo97 | (injection eo97 with f1_ f2_ f3_; have f4_ := f1_.symm; have f5_ := f3_.symm; clear f1_ f2_ f3_; subst f4_; subst f5_))
          refine hK.out _ _ ⟨(aQ BK437.out 0).trans rfl, (aQ BK437.out 1).trans rfl, (aQ BK437.out 2).trans rfl, (aQ BK437.out 3).trans rfl, (aQ BK437.out 4).trans rfl, (by repeat (first | (with_reducible exact HR470.out) | (with_reducible refine Kd.cD ?_ _) | (with_reducible refine Kd.cC ?_ _) | (with_reducible refine Kd.C_drew ?_) | exact HR470.out))⟩ (fun hHeld => ?_)
          clear hK K
          refine norm_ (a' := ?_) ?_ ?_
          rotate_left
          ·show Act.put _ (some 75) _ = _
           simp only [Act.put, lsT, lsZ, lsS, bJ, bK]
           rfl
          refine one_ (i := 8) (N := some 77) laws_FnKeys.d37 rfl rfl (one_of HT_.out (by kernel_rfl)) (by decide) (fun K hK => ?_)
          refine goes_ Try.func17 (by kernel_rfl) rfl #[.slice Ao97 y461.length co97, .agg #[.int .i64 t430, .int .i64 t431, .int .i64 t432, .int .i64 t433, .int .i64 t434]] (by rfl) rfl rfl (by (try simp only [List.map_toArray, List.map_cons, List.map_nil]); first | done | rfl | (simp only [List.length_drop, List.length_take]; rfl)) ?_
          with_reducible refine (impl_PutKey.calls kj57 (fun k_ => some k_ = (.slice Ao97 y461.length co97 : Value).ownBlock) _ _ y461 t430 t431 t432 t433 t434 t464 _ ?side1 A74.out).mono ?_
          (case side1 => exact Kd.R_V (Kd.R_tight rfl (Kd.R_types (Kd.R_types (Kd.R_types (Kd.R_types (Kd.R_types (HO463.out) BK422.out (by decide)) BK437.out (by decide)) BK445.out (by decide)) BK456.out (by decide)) BK457.out (by decide))))
          rintro e w98 ⟨v465, rfl, ho0, hb⟩
          refine ⟨_, rfl, ?_⟩
          have n0_ := aK.mk (Kd.R_elder' (by (with_reducible repeat (first | apply Kd.bE | apply Kd.bF | apply Kd.bG)); exact HO_3.out) (Kd.R_base ho0) hb)
          have n1_ := aK.mk (Kd.R_elder' (by (with_reducible repeat (first | apply Kd.bE | apply Kd.bF | apply Kd.bG)); exact HO_5.out) (Kd.R_base ho0) hb)
          have n2_ := aK.mk (Kd.R_elder' (by (with_reducible repeat (first | apply Kd.bE | apply Kd.bF | apply Kd.bG)); exact HO_6.out) (Kd.R_base ho0) hb)
          have n3_ := aK.mk (Kd.R_elder' (by (with_reducible repeat (first | apply Kd.bE | apply Kd.bF | apply Kd.bG)); exact HO463.out) (Kd.R_base ho0) hb)
          have n4_ := aK.mk (Kd.R_lower (Kd.R_new' (Kd.R_new' (Kd.R_new' (Kd.R_new' (Kd.cA (ok' := fun k_ => True) ho0 (fun _ hk_ => trivial)) (Kd.R_lt (by (with_reducible repeat (first | apply Kd.bE | apply Kd.bF | apply Kd.bG)); exact HO_3.out))) (Kd.R_lt (by (with_reducible repeat (first | apply Kd.bE | apply Kd.bF | apply Kd.bG)); exact HO_5.out))) (Kd.R_lt (by (with_reducible repeat (first | apply Kd.bE | apply Kd.bF | apply Kd.bG)); exact HO_6.out))) (Kd.R_lt (by (with_reducible repeat (first | apply Kd.bE | apply Kd.bF | apply Kd.bG)); exact HO463.out))) (bN (by repeat (first | (with_reducible first | exact HB.out | apply aU | apply aM | apply aT | refine bwS ?_ GE422.out | refine bwS ?_ GE437.out | refine bwS ?_ GE445.out | refine bwS ?_ GE456.out | refine bwS ?_ GE457.out) | exact HB.out))))
          have n5_ := aK.mk (bC (g := gb422) (o := .cells #[.int .i64 t417, .int .i64 t418, .int .i64 t419, .int .i64 t420, .int .i64 t421] 27 (0, 0)) (by (with_reducible repeat (first | refine bkN ?_ _ | refine bkD ?_ | refine bkA ?_ _)); exact BK422.out) hb)
          have n6_ := aK.mk (bC (g := gb437) (o := .cells #[.int .i64 t430, .int .i64 t431, .int .i64 t432, .int .i64 t433, .int .i64 t434] 27 (0, 0)) (by (with_reducible repeat (first | refine bkN ?_ _ | refine bkD ?_ | refine bkA ?_ _)); exact BK437.out) hb)
          have n7_ := aK.mk (bC (g := gb445) (o := .cells #[.int .i64 t438, .int .i64 t439, .int .i64 t440, .int .i64 t441, .int .i64 t442] 27 (0, 0)) (by (with_reducible repeat (first | refine bkN ?_ _ | refine bkD ?_ | refine bkA ?_ _)); exact BK445.out) hb)
          have n8_ := aK.mk (bC (g := gb456) (o := .cells #[.int .i64 t446, .int .i64 t447, .int .i64 t448, .int .i64 t449, .int .i64 t450] 27 (0, 0)) (by (with_reducible repeat (first | refine bkN ?_ _ | refine bkD ?_ | refine bkA ?_ _)); exact BK456.out) hb)
          have n9_ := aK.mk (bC (g := gb457) (o := .cells #[.int .i64 t451, .int .i64 t452, .int .i64 t453, .int .i64 t454, .int .i64 t455] 27 (0, 0)) (by (with_reducible repeat (first | refine bkN ?_ _ | refine bkD ?_ | refine bkA ?_ _)); exact BK457.out) hb)
          have n10_ := aK.mk (Kd.C_below (by repeat (first | (with_reducible exact HR470.out) | (with_reducible refine Kd.cD ?_ _) | (with_reducible refine Kd.cC ?_ _) | (with_reducible refine Kd.C_drew ?_) | exact HR470.out)) hb)
          have n11_ := aK.mk (bL (by repeat (first | (with_reducible first | exact HB.out | apply aU | apply aM | apply aT | refine bwS ?_ GE422.out | refine bwS ?_ GE437.out | refine bwS ?_ GE445.out | refine bwS ?_ GE456.out | refine bwS ?_ GE457.out) | exact HB.out)) hb)
          clear HO_3
          clear HO_5
          clear HO_6
          clear HO463
          clear BK422
          clear BK437
          clear BK445
          clear BK456
          clear BK457
          clear HR470
          clear HB
          have HO_3 := n0_
          have HO_5 := n1_
          have HO_6 := n2_
          have HO463 := n3_
          have HO466 := n4_
          have BK422 := n5_
          have BK437 := n6_
          have BK445 := n7_
          have BK456 := n8_
          have BK457 := n9_
          have HR470 := n10_
          have HB := n11_
          clear n0_ n1_ n2_ n3_ n4_ n5_ n6_ n7_ n8_ n9_ n10_ n11_
          (try clear hb)
          (try clear hb2)
          (try clear hk)
          (try clear hi)
          (try clear ho0)
          have hcv100 := Kd.C_string (P := Try.prog) (A := A94) (c := c94) Try.underlying22 Try.underlying5 Try.underlying9 (by repeat (first | (with_reducible exact HR470.out) | (with_reducible refine Kd.cD ?_ _) | (with_reducible refine Kd.cC ?_ _) | (with_reducible refine Kd.C_drew ?_) | exact HR470.out))
          refine hK.out _ _ ⟨(aQ BK437.out 0).trans rfl, (aQ BK437.out 1).trans rfl, (aQ BK437.out 2).trans rfl, (aQ BK437.out 3).trans rfl, (aQ BK437.out 4).trans rfl, (by repeat (first | (with_reducible exact HR470.out) | (with_reducible refine Kd.cD ?_ _) | (with_reducible refine Kd.cC ?_ _) | (with_reducible refine Kd.C_drew ?_) | exact HR470.out))⟩ (fun hHeld => ?_)
          clear hK K
          refine norm_ (a' := ?_) ?_ ?_
          rotate_left
          ·show Act.put _ (some 77) _ = _
           simp only [Act.put, lsT, lsZ, lsS, bJ, bK]
           rfl
          refine one_ (i := 9) (N := some 78) laws_FnKeys.d15 rfl rfl (one_of HT_.out (by kernel_rfl)) (by decide) (fun K hK => ?_)
          have hcv99 := own_string (P := Try.prog) Try.underlying22 Try.underlying5 Try.underlying9 (Kd.own_of_R HO466.out)
          refine value_ (w1 := ?_) (v := ?_) (by rfl) rfl ?_ ?_
          rotate_left 2
          ·go_simp
           constructor
           ·rfl
           ·rfl
          clear hcv99
          refine hK.out _ _ ⟨(aQ BK437.out 0).trans rfl, (aQ BK437.out 1).trans rfl, (aQ BK437.out 2).trans rfl, (aQ BK437.out 3).trans rfl, (aQ BK437.out 4).trans rfl, (by repeat (first | (with_reducible exact HR470.out) | (with_reducible refine Kd.cD ?_ _) | (with_reducible refine Kd.cC ?_ _) | (with_reducible refine Kd.C_drew ?_) | exact HR470.out))⟩ (fun hHeld => ?_)
          clear hK K
          refine norm_ (a' := ?_) ?_ ?_
          rotate_left
          ·show Act.put _ (some 78) _ = _
           simp only [Act.put, lsT, lsZ, lsS, bJ, bK]
           rfl
          refine bT (i := 15) (N := some 84) (v := ?_) (a' := ?_) laws_FnKeys.d16 rfl rfl (bM HT_.out (by kernel_rfl)) (fun _ _ _ h => h) (Or.inl ⟨by rfl, ?_⟩) ?_ ?_
          rotate_left
          ·intro w'
           go_simp
           with_reducible rfl
          rotate_left
          ·simp only [Act.put, lsT, lsZ, lsS, bJ, bK]
           rfl
          refine bT (i := 16) (N := some 85) (v := ?_) (a' := ?_) laws_FnKeys.d17 rfl rfl (bM HT_.out (by kernel_rfl)) (fun _ _ _ h => h) (Or.inl ⟨by rfl, ?_⟩) ?_ ?_
          rotate_left
          ·intro w'
           go_simp
           with_reducible rfl
          rotate_left
          ·simp only [Act.put, lsT, lsZ, lsS, bJ, bK]
           rfl
          refine bT (i := 17) (N := some 86) (v := ?_) (a' := ?_) laws_FnKeys.d18 rfl rfl (bM HT_.out (by kernel_rfl)) (fun _ _ _ h => h) (Or.inl ⟨by rfl, ?_⟩) ?_ ?_
          rotate_left
          ·intro w'
           go_simp
           with_reducible rfl
          rotate_left
          ·simp only [Act.put, lsT, lsZ, lsS, bJ, bK]
           rfl
          refine bT (i := 18) (N := some 87) (v := ?_) (a' := ?_) laws_FnKeys.d19 rfl rfl (bM HT_.out (by kernel_rfl)) (fun _ _ _ h => h) (Or.inl ⟨by rfl, ?_⟩) ?_ ?_
          rotate_left
          ·intro w'
           go_simp
           with_reducible rfl
          rotate_left
          ·simp only [Act.put, lsT, lsZ, lsS, bJ, bK]
           rfl
          refine bT (i := 19) (N := some 88) (v := ?_) (a' := ?_) laws_FnKeys.d20 rfl rfl (bM HT_.out (by kernel_rfl)) (fun _ _ _ h => h) (Or.inl ⟨by rfl, ?_⟩) ?_ ?_
          rotate_left
          ·intro w'
           go_simp
           with_reducible rfl
          rotate_left
          ·simp only [Act.put, lsT, lsZ, lsS, bJ, bK]
           rfl
          refine bT (i := 20) (N := some 89) (v := ?_) (a' := ?_) laws_FnKeys.d21 rfl rfl (bM HT_.out (by kernel_rfl)) (fun _ _ _ h => h) (Or.inl ⟨by rfl, ?_⟩) ?_ ?_
          rotate_left
          ·intro w'
           go_simp
           with_reducible rfl
          rotate_left
          ·simp only [Act.put, lsT, lsZ, lsS, bJ, bK]
           rfl
          refine bT (i := 21) (N := some 90) (v := ?_) (a' := ?_) laws_FnKeys.d22 rfl rfl (bM HT_.out (by kernel_rfl)) (fun _ _ _ h => h) (Or.inl ⟨by rfl, ?_⟩) ?_ ?_
          rotate_left
          ·intro w'
           go_simp
           with_reducible rfl
          rotate_left
          ·simp only [Act.put, lsT, lsZ, lsS, bJ, bK]
           rfl
          refine bT (i := 22) (N := some 91) (v := ?_) (a' := ?_) laws_FnKeys.d23 rfl rfl (bM HT_.out (by kernel_rfl)) (fun _ _ _ h => h) (Or.inl ⟨by rfl, ?_⟩) ?_ ?_
          rotate_left
          ·intro w'
           go_simp
           with_reducible rfl
          rotate_left
          ·simp only [Act.put, lsT, lsZ, lsS, bJ, bK]
           rfl
          refine bT (i := 23) (N := some 92) (v := undef) (a' := ?_) laws_FnKeys.d24 rfl rfl (bM HT_.out (by kernel_rfl)) (fun _ _ _ h => h) (Or.inr ⟨by rfl, rfl⟩) ?_ ?_
          rotate_left
          ·simp only [Act.put, lsT, lsZ, lsS, bJ, bK]
           rfl
          refine bT (i := 24) (N := some 93) (v := undef) (a' := ?_) laws_FnKeys.d25 rfl rfl (bM HT_.out (by kernel_rfl)) (fun _ _ _ h => h) (Or.inr ⟨by rfl, rfl⟩) ?_ ?_
          rotate_left
          ·simp only [Act.put, lsT, lsZ, lsS, bJ, bK]
           rfl
          refine bT (i := 25) (N := some 94) (v := undef) (a' := ?_) laws_FnKeys.d26 rfl rfl (bM HT_.out (by kernel_rfl)) (fun _ _ _ h => h) (Or.inr ⟨by rfl, rfl⟩) ?_ ?_
          rotate_left
          ·simp only [Act.put, lsT, lsZ, lsS, bJ, bK]
           rfl
          refine bT (i := 26) (N := some 95) (v := undef) (a' := ?_) laws_FnKeys.d27 rfl rfl (bM HT_.out (by kernel_rfl)) (fun _ _ _ h => h) (Or.inr ⟨by rfl, rfl⟩) ?_ ?_
          rotate_left
          ·simp only [Act.put, lsT, lsZ, lsS, bJ, bK]
           rfl
          refine bT (i := 27) (N := some 96) (v := undef) (a' := ?_) laws_FnKeys.d28 rfl rfl (bM HT_.out (by kernel_rfl)) (fun _ _ _ h => h) (Or.inr ⟨by rfl, rfl⟩) ?_ ?_
          rotate_left
          ·simp only [Act.put, lsT, lsZ, lsS, bJ, bK]
           rfl
          refine bT (i := 28) (N := some 97) (v := ?_) (a' := ?_) laws_FnKeys.d29 rfl rfl (bM HT_.out (by kernel_rfl)) (fun _ _ _ h => h) (Or.inl ⟨by rfl, ?_⟩) ?_ ?_
          rotate_left
          ·intro w'
           go_simp
           with_reducible rfl
          rotate_left
          ·simp only [Act.put, lsT, lsZ, lsS, bJ, bK]
           rfl
          refine done_ (done_of HT_.out (by kernel_rfl)) ?_
          try go_wp2
          go_meet
          case rel => exact ⟨_, (true), (by first | rfl | (simp; done) | (simp [*]; done)), H', ⟨by have := HJ10.out; have := HJ44.out; have := HJ57.out; first | omega | exact Nat.le_refl _⟩, ⟨by (with_reducible repeat (first | apply Kd.bE | apply Kd.bF | apply Kd.bG)); exact Kd.cA HO_3.out (fun _ hk => by first | exact hk.2.2.1 | exact hk.2.2 | exact hk.2.1 | exact hk.2 | exact hk.1 | exact hk.1.1 | exact hk.1.2 | exact hk.1.1.1 | exact hk.1.1.2 | exact hk.1.2.1 | exact hk.1.2.2)⟩, ⟨by (with_reducible repeat (first | apply Kd.bE | apply Kd.bF | apply Kd.bG)); exact Kd.cA HO_5.out (fun _ hk => by first | exact hk.2.2.1 | exact hk.2.2 | exact hk.2.1 | exact hk.2 | exact hk.1 | exact hk.1.1 | exact hk.1.2 | exact hk.1.1.1 | exact hk.1.1.2 | exact hk.1.2.1 | exact hk.1.2.2)⟩, ⟨by (with_reducible repeat (first | refine bkN ?_ _ | refine bkD ?_ | refine bkA ?_ _)); exact BK422.out⟩, ⟨by (with_reducible repeat (first | refine bkN ?_ _ | refine bkD ?_ | refine bkA ?_ _)); exact BK437.out⟩, ⟨by (with_reducible repeat (first | refine bkN ?_ _ | refine bkD ?_ | refine bkA ?_ _)); exact BK445.out⟩, ⟨by (with_reducible repeat (first | refine bkN ?_ _ | refine bkD ?_ | refine bkA ?_ _)); exact BK456.out⟩, ⟨by (with_reducible repeat (first | refine bkN ?_ _ | refine bkD ?_ | refine bkA ?_ _)); exact BK457.out⟩, ⟨by repeat (first | (with_reducible first | exact HB.out | apply aU | apply aM | apply aT | refine bwS ?_ GE422.out | refine bwS ?_ GE437.out | refine bwS ?_ GE445.out | refine bwS ?_ GE456.out | refine bwS ?_ GE457.out) | exact HB.out)⟩⟩
         rw [if_neg c78] at H
         have c78b0 : ((strOfNums t464).toList == (strOfNums y467).toList) = false := beq_eq_false_iff_ne.mpr c78
         have c78b1 : ((strOfNums t464).toList != (strOfNums y467).toList) = true := bne_iff_ne.mpr c78
         have H' := aK.mk H
         clear H
         try go_wp2
         have n0_ := aK.mk (Kd.bG HO_3.out)
         have n1_ := aK.mk (Kd.bG HO_5.out)
         have n2_ := aK.mk (Kd.bG HO_6.out)
         have n3_ := aK.mk (bkD BK422.out)
         have n4_ := aK.mk (bkD BK437.out)
         have n5_ := aK.mk (bkD BK445.out)
         have n6_ := aK.mk (bkD BK456.out)
         have n7_ := aK.mk (bkD BK457.out)
         have n8_ := aK.mk (aT HB.out)
         clear HO_3
         clear HO_5
         clear HO_6
         clear BK422
         clear BK437
         clear BK445
         clear BK456
         clear BK457
         clear HB
         have HO_3 := n0_
         have HO_5 := n1_
         have HO_6 := n2_
         have BK422 := n3_
         have BK437 := n4_
         have BK445 := n5_
         have BK456 := n6_
         have BK457 := n7_
         have HB := n8_
         clear n0_ n1_ n2_ n3_ n4_ n5_ n6_ n7_ n8_
         have q103 : (t435 : Int) ≤ ((t426.length : Int) : Int) := lE (by first | (with_reducible assumption) | assumption)
         obtain ⟨i0103, hi0103, _, hsz103, _⟩ := info_parts info5
         have hroom103 : t426.length ≤ co20 := (Kd.R_reads' HO_6.out).2.1
         have hC103 : Kd.C (Kd.int .u8) _ Ao20 t426.length t426 := (Kd.R_reads' HO_6.out).2.2
         have ql103 : (t427 : Int) ≤ (t435 : Int) := lE (by first | (with_reducible assumption) | assumption)
         have q0103 : (0 : Int) ≤ (t427 : Int) := lE (by first | (with_reducible assumption) | assumption)
         have hcut103 := cut_mid (P := Try.prog) 22 5 .i64 .i64 Try.underlying22 hi0103 1 hsz103 Ao20 t426.length co20 t427 t435 q0103 ql103 q103 hroom103
         have hr103 := Kd.C_mid (lo := (t427 : Int).toNat) (hi := (t435 : Int).toNat) (c := co20) hC103 (by omega) (by omega) hroom103
         obtain ⟨A103, hA103⟩ : ∃ A1, A1 = (if co20 = (t427 : Int).toNat then Ao20 else (Ao20 : Option Addr).map (·.add ((t427 : Int).toNat * 1))) := ⟨_, rfl⟩
         obtain ⟨c103, hc103⟩ : ∃ c1, c1 = co20 - (t427 : Int).toNat := ⟨_, rfl⟩
         have hy103 : y467.length = (t435 : Int).toNat - (t427 : Int).toNat := (by rw [Ny467.out, List.length_drop, List.length_take] <;> omega)
         rw [show ((t426).take (t435 : Int).toNat).drop (t427 : Int).toNat = y467 from Ny467.out.symm] at hr103
         replace hr103 : Kd.C (Kd.int .u8) _ A103 y467.length y467 := (by rw [hA103]; exact hr103)
         rw [← hy103, ← hA103, ← hc103] at hcut103
         have HR470 := aK.mk hr103
         have HC470 := aK.mk (show y467.length ≤ c103 from by rw [hy103, hc103]; exact Nat.sub_le_sub_right (Nat.le_trans (by omega) hroom103) _)
         clear hr103 hC103 hroom103 hi0103 hsz103 hc103
         have KY103 := aK.mk hy103
         have KA103 := aK.mk hA103
         clear hy103 hA103
         have KL103 := aK.mk (show (t435 : Int).toNat ≤ t426.length from by omega)
         have KM103 := aK.mk (show (t427 : Int).toNat ≤ (t435 : Int).toNat from by omega)
         replace q103 := eq_true q103
         refine start_ (n := 29) (S := fun w' => w'.cell? ⟨gb437, 0, none⟩ = some (.int .i64 t430) ∧ w'.cell? ⟨gb437, 1, none⟩ = some (.int .i64 t431) ∧ w'.cell? ⟨gb437, 2, none⟩ = some (.int .i64 t432) ∧ w'.cell? ⟨gb437, 3, none⟩ = some (.int .i64 t433) ∧ w'.cell? ⟨gb437, 4, none⟩ = some (.int .i64 t434) ∧ Kd.C (Kd.int .u8) w' A103 y467.length y467) (ds := []) laws_FnKeys.d0 (by kernel_rfl) rfl rfl ⟨(aQ BK437.out 0).trans rfl, (aQ BK437.out 1).trans rfl, (aQ BK437.out 2).trans rfl, (aQ BK437.out 3).trans rfl, (aQ BK437.out 4).trans rfl, (by repeat (first | (with_reducible exact HR470.out) | (with_reducible refine Kd.cD ?_ _) | (with_reducible refine Kd.cC ?_ _) | (with_reducible refine Kd.C_drew ?_) | exact HR470.out))⟩ (fun hHeld => ?_); refine with_tabW laws_FnKeys.tab16 laws_FnKeys.bits16 (fun HT_ HW_ => ?_)
         generalize wc.drew = w102 at HO_3 HO_5 HO_6 BK422 BK437 BK445 BK456 BK457 HB HR470 hHeld ⊢
         refine bT (i := 0) (N := some 69) (v := ?_) (a' := ?_) laws_FnKeys.d1 rfl rfl (bM HT_.out (by kernel_rfl)) (fun _ _ _ h => h) (Or.inl ⟨by rfl, ?_⟩) ?_ ?_
         rotate_left
         ·intro w'
          go_simp
          with_reducible rfl
         rotate_left
         ·simp only [Act.put, lsT, lsZ, lsS, bJ, bK]
          rfl
         refine bT (i := 1) (N := some 70) (v := ?_) (a' := ?_) laws_FnKeys.d2 rfl rfl (bM HT_.out (by kernel_rfl)) (fun _ _ _ h => h) (Or.inl ⟨by rfl, ?_⟩) ?_ ?_
         rotate_left
         ·intro w'
          go_simp
          with_reducible rfl
         rotate_left
         ·simp only [Act.put, lsT, lsZ, lsS, bJ, bK]
          rfl
         refine bT (i := 2) (N := some 71) (v := ?_) (a' := ?_) laws_FnKeys.d3 rfl rfl (bM HT_.out (by kernel_rfl)) (fun _ _ _ h => h) (Or.inl ⟨by rfl, ?_⟩) ?_ ?_
         rotate_left
         ·intro w'
          go_simp
          with_reducible rfl
         rotate_left
         ·simp only [Act.put, lsT, lsZ, lsS, bJ, bK]
          rfl
         refine bT (i := 3) (N := some 72) (v := ?_) (a' := ?_) laws_FnKeys.d4 rfl rfl (bM HT_.out (by kernel_rfl)) (fun _ _ _ h => h) (Or.inl ⟨by rfl, ?_⟩) ?_ ?_
         rotate_left
         ·intro w'
          go_simp
          with_reducible rfl
         rotate_left
         ·simp only [Act.put, lsT, lsZ, lsS, bJ, bK]
          rfl
         refine bT (i := 4) (N := some 73) (v := ?_) (a' := ?_) laws_FnKeys.d5 rfl rfl (bM HT_.out (by kernel_rfl)) (fun _ _ _ h => h) (Or.inl ⟨by rfl, ?_⟩) ?_ ?_
         rotate_left
         ·intro w'
          go_simp
          with_reducible rfl
         rotate_left
         ·simp only [Act.put, lsT, lsZ, lsS, bJ, bK]
          rfl
         refine bT (i := 5) (N := some 74) (v := ?_) (a' := ?_) laws_FnKeys.d6 rfl rfl (bM HT_.out (by kernel_rfl)) (fun _ _ _ h => h) (Or.inl ⟨by rfl, ?_⟩) ?_ ?_
         rotate_left
         ·intro w'
          go_simp
          with_reducible rfl
         rotate_left
         ·simp only [Act.put, lsT, lsZ, lsS, bJ, bK]
          rfl
         refine bT (i := 10) (N := some 79) (v := ?_) (a' := ?_) laws_FnKeys.d30 rfl rfl (bM HT_.out (by kernel_rfl)) (fun _ _ _ h => h) (Or.inl ⟨by rfl, ?_⟩) ?_ ?_
         rotate_left
         ·intro w'
          go_simp
          with_reducible rfl
         rotate_left
         ·simp only [Act.put, lsT, lsZ, lsS, bJ, bK]
          rfl
         refine bT (i := 11) (N := some 80) (v := ?_) (a' := ?_) laws_FnKeys.d31 rfl rfl (bM HT_.out (by kernel_rfl)) (fun _ _ _ h => h) (Or.inl ⟨by rfl, ?_⟩) ?_ ?_
         rotate_left
         ·intro w'
          go_simp
          with_reducible rfl
         rotate_left
         ·simp only [Act.put, lsT, lsZ, lsS, bJ, bK]
          rfl
         refine bT (i := 12) (N := some 81) (v := ?_) (a' := ?_) laws_FnKeys.d32 rfl rfl (bM HT_.out (by kernel_rfl)) (fun _ _ _ h => h) (Or.inl ⟨by rfl, ?_⟩) ?_ ?_
         rotate_left
         ·intro w'
          go_simp
          with_reducible rfl
         rotate_left
         ·simp only [Act.put, lsT, lsZ, lsS, bJ, bK]
          rfl
         refine bT (i := 13) (N := some 82) (v := ?_) (a' := ?_) laws_FnKeys.d33 rfl rfl (bM HT_.out (by kernel_rfl)) (fun _ _ _ h => h) (Or.inl ⟨by rfl, ?_⟩) ?_ ?_
         rotate_left
         ·intro w'
          go_simp
          with_reducible rfl
         rotate_left
         ·simp only [Act.put, lsT, lsZ, lsS, bJ, bK]
          rfl
         refine take_ (i := 14) (N := some 83) (v := ?_) (a' := ?_) laws_FnKeys.d34 rfl rfl (take_ofW HT_.out HW_.out (by kernel_rfl)) (fun _ _ _ h => h) (Or.inl ⟨by rfl, ?_⟩) hHeld ?_ ?_
         rotate_left
         ·rintro w' ⟨s0, s1, s2, s3, s4, sC_⟩
          have hcv_ := Kd.C_string (P := Try.prog) (A := A103) (c := c103) Try.underlying22 Try.underlying5 Try.underlying9 sC_
          go_simp
          with_reducible rfl
         rotate_left
         ·simp only [Act.put, lsT, lsZ, lsS, bJ, bK]
          rfl
         refine take_ (i := 7) (N := some 76) (v := ?_) (a' := ?_) laws_FnKeys.d35 rfl rfl (take_ofW HT_.out HW_.out (by kernel_rfl)) (fun _ _ _ h => h) (Or.inl ⟨by rfl, ?_⟩) hHeld ?_ ?_
         rotate_left
         ·rintro w' ⟨s0, s1, s2, s3, s4, sC_⟩
          go_simp
          with_reducible rfl
         rotate_left
         ·simp only [Act.put, lsT, lsZ, lsS, bJ, bK]
          rfl
         refine one_ (i := 6) (N := some 75) laws_FnKeys.d36 rfl rfl (one_of HT_.out (by kernel_rfl)) (by decide) (fun K hK => ?_)
         refine Kd.R_lit_step (Kd.int .u8) _ 5 ?hg (N := 75) ?hd (xs := ([] : List Int)) (inner := []) (ok := fun _ => True) (okp := fun _ => True) ?hr ?hp (fun _ hk => hk) trivial (Below.refl _ _) (Nat.le_refl _) (by simp) ?_; (case hd => rfl); (case hg => rfl); (case hr => first | (go_simp; done) | (go_simp; rfl)); (case hp => exact (Reps.none _ _))
         intro v462 w104 ho105 hb hg_ hnew_
         clear hg_ hnew_
         (first | rw [← Ny461.out] at ho105 | (simp only [Int.reduceToNat] at ho105; rw [← Ny461.out] at ho105))
         have n0_ := aK.mk (Kd.R_elder' (by (with_reducible repeat (first | apply Kd.bE | apply Kd.bF | apply Kd.bG)); exact HO_3.out) (Kd.R_base ho105) hb)
         have n1_ := aK.mk (Kd.R_elder' (by (with_reducible repeat (first | apply Kd.bE | apply Kd.bF | apply Kd.bG)); exact HO_5.out) (Kd.R_base ho105) hb)
         have n2_ := aK.mk (Kd.R_elder' (by (with_reducible repeat (first | apply Kd.bE | apply Kd.bF | apply Kd.bG)); exact HO_6.out) (Kd.R_base ho105) hb)
         have n3_ := aK.mk (Kd.R_lower (Kd.R_new' (Kd.R_new' (Kd.R_new' ho105 (Kd.R_lt (by (with_reducible repeat (first | apply Kd.bE | apply Kd.bF | apply Kd.bG)); exact HO_3.out))) (Kd.R_lt (by (with_reducible repeat (first | apply Kd.bE | apply Kd.bF | apply Kd.bG)); exact HO_5.out))) (Kd.R_lt (by (with_reducible repeat (first | apply Kd.bE | apply Kd.bF | apply Kd.bG)); exact HO_6.out))) (bN (by repeat (first | (with_reducible first | exact HB.out | apply aU | apply aM | apply aT | refine bwS ?_ GE422.out | refine bwS ?_ GE437.out | refine bwS ?_ GE445.out | refine bwS ?_ GE456.out | refine bwS ?_ GE457.out) | exact HB.out))))
         have n4_ := aK.mk (bC (g := gb422) (o := .cells #[.int .i64 t417, .int .i64 t418, .int .i64 t419, .int .i64 t420, .int .i64 t421] 27 (0, 0)) (by (with_reducible repeat (first | refine bkN ?_ _ | refine bkD ?_ | refine bkA ?_ _)); exact BK422.out) hb)
         have n5_ := aK.mk (bC (g := gb437) (o := .cells #[.int .i64 t430, .int .i64 t431, .int .i64 t432, .int .i64 t433, .int .i64 t434] 27 (0, 0)) (by (with_reducible repeat (first | refine bkN ?_ _ | refine bkD ?_ | refine bkA ?_ _)); exact BK437.out) hb)
         have n6_ := aK.mk (bC (g := gb445) (o := .cells #[.int .i64 t438, .int .i64 t439, .int .i64 t440, .int .i64 t441, .int .i64 t442] 27 (0, 0)) (by (with_reducible repeat (first | refine bkN ?_ _ | refine bkD ?_ | refine bkA ?_ _)); exact BK445.out) hb)
         have n7_ := aK.mk (bC (g := gb456) (o := .cells #[.int .i64 t446, .int .i64 t447, .int .i64 t448, .int .i64 t449, .int .i64 t450] 27 (0, 0)) (by (with_reducible repeat (first | refine bkN ?_ _ | refine bkD ?_ | refine bkA ?_ _)); exact BK456.out) hb)
         have n8_ := aK.mk (bC (g := gb457) (o := .cells #[.int .i64 t451, .int .i64 t452, .int .i64 t453, .int .i64 t454, .int .i64 t455] 27 (0, 0)) (by (with_reducible repeat (first | refine bkN ?_ _ | refine bkD ?_ | refine bkA ?_ _)); exact BK457.out) hb)
         have n9_ := aK.mk (Kd.C_below (by repeat (first | (with_reducible exact HR470.out) | (with_reducible refine Kd.cD ?_ _) | (with_reducible refine Kd.cC ?_ _) | (with_reducible refine Kd.C_drew ?_) | exact HR470.out)) hb)
         have n10_ := aK.mk (bL (by repeat (first | (with_reducible first | exact HB.out | apply aU | apply aM | apply aT | refine bwS ?_ GE422.out | refine bwS ?_ GE437.out | refine bwS ?_ GE445.out | refine bwS ?_ GE456.out | refine bwS ?_ GE457.out) | exact HB.out)) hb)
         clear HO_3
         clear HO_5
         clear HO_6
         clear BK422
         clear BK437
         clear BK445
         clear BK456
         clear BK457
         clear HR470
         clear HB
         have HO_3 := n0_
         have HO_5 := n1_
         have HO_6 := n2_
         have HO463 := n3_
         have BK422 := n4_
         have BK437 := n5_
         have BK445 := n6_
         have BK456 := n7_
         have BK457 := n8_
         have HR470 := n9_
         have HB := n10_
         clear n0_ n1_ n2_ n3_ n4_ n5_ n6_ n7_ n8_ n9_ n10_
         clear hb ho105
         obtain ⟨Ao106, co106, eo106⟩ := Kd.R_slice HO463.out
         (first | subst eo106 | (injection eo106 with f1_ f2_ f3_; have f4_ := f1_.symm; have f5_ := f3_.symm; clear f1_ f2_ f3_; subst f4_; subst f5_))
         refine hK.out _ _ ⟨(aQ BK437.out 0).trans rfl, (aQ BK437.out 1).trans rfl, (aQ BK437.out 2).trans rfl, (aQ BK437.out 3).trans rfl, (aQ BK437.out 4).trans rfl, (by repeat (first | (with_reducible exact HR470.out) | (with_reducible refine Kd.cD ?_ _) | (with_reducible refine Kd.cC ?_ _) | (with_reducible refine Kd.C_drew ?_) | exact HR470.out))⟩ (fun hHeld => ?_)
         clear hK K
         refine norm_ (a' := ?_) ?_ ?_
         rotate_left
         ·show Act.put _ (some 75) _ = _
          simp only [Act.put, lsT, lsZ, lsS, bJ, bK]
          rfl
         refine one_ (i := 8) (N := some 77) laws_FnKeys.d37 rfl rfl (one_of HT_.out (by kernel_rfl)) (by decide) (fun K hK => ?_)
         refine goes_ Try.func17 (by kernel_rfl) rfl #[.slice Ao106 y461.length co106, .agg #[.int .i64 t430, .int .i64 t431, .int .i64 t432, .int .i64 t433, .int .i64 t434]] (by rfl) rfl rfl (by (try simp only [List.map_toArray, List.map_cons, List.map_nil]); first | done | rfl | (simp only [List.length_drop, List.length_take]; rfl)) ?_
         with_reducible refine (impl_PutKey.calls kj57 (fun k_ => some k_ = (.slice Ao106 y461.length co106 : Value).ownBlock) _ _ y461 t430 t431 t432 t433 t434 t464 _ ?side1 A74.out).mono ?_
         (case side1 => exact Kd.R_V (Kd.R_tight rfl (Kd.R_types (Kd.R_types (Kd.R_types (Kd.R_types (Kd.R_types (HO463.out) BK422.out (by decide)) BK437.out (by decide)) BK445.out (by decide)) BK456.out (by decide)) BK457.out (by decide))))
         rintro e w107 ⟨v465, rfl, ho0, hb⟩
         refine ⟨_, rfl, ?_⟩
         have n0_ := aK.mk (Kd.R_elder' (by (with_reducible repeat (first | apply Kd.bE | apply Kd.bF | apply Kd.bG)); exact HO_3.out) (Kd.R_base ho0) hb)
         have n1_ := aK.mk (Kd.R_elder' (by (with_reducible repeat (first | apply Kd.bE | apply Kd.bF | apply Kd.bG)); exact HO_5.out) (Kd.R_base ho0) hb)
         have n2_ := aK.mk (Kd.R_elder' (by (with_reducible repeat (first | apply Kd.bE | apply Kd.bF | apply Kd.bG)); exact HO_6.out) (Kd.R_base ho0) hb)
         have n3_ := aK.mk (Kd.R_elder' (by (with_reducible repeat (first | apply Kd.bE | apply Kd.bF | apply Kd.bG)); exact HO463.out) (Kd.R_base ho0) hb)
         have n4_ := aK.mk (Kd.R_lower (Kd.R_new' (Kd.R_new' (Kd.R_new' (Kd.R_new' (Kd.cA (ok' := fun k_ => True) ho0 (fun _ hk_ => trivial)) (Kd.R_lt (by (with_reducible repeat (first | apply Kd.bE | apply Kd.bF | apply Kd.bG)); exact HO_3.out))) (Kd.R_lt (by (with_reducible repeat (first | apply Kd.bE | apply Kd.bF | apply Kd.bG)); exact HO_5.out))) (Kd.R_lt (by (with_reducible repeat (first | apply Kd.bE | apply Kd.bF | apply Kd.bG)); exact HO_6.out))) (Kd.R_lt (by (with_reducible repeat (first | apply Kd.bE | apply Kd.bF | apply Kd.bG)); exact HO463.out))) (bN (by repeat (first | (with_reducible first | exact HB.out | apply aU | apply aM | apply aT | refine bwS ?_ GE422.out | refine bwS ?_ GE437.out | refine bwS ?_ GE445.out | refine bwS ?_ GE456.out | refine bwS ?_ GE457.out) | exact HB.out))))
         have n5_ := aK.mk (bC (g := gb422) (o := .cells #[.int .i64 t417, .int .i64 t418, .int .i64 t419, .int .i64 t420, .int .i64 t421] 27 (0, 0)) (by (with_reducible repeat (first | refine bkN ?_ _ | refine bkD ?_ | refine bkA ?_ _)); exact BK422.out) hb)
         have n6_ := aK.mk (bC (g := gb437) (o := .cells #[.int .i64 t430, .int .i64 t431, .int .i64 t432, .int .i64 t433, .int .i64 t434] 27 (0, 0)) (by (with_reducible repeat (first | refine bkN ?_ _ | refine bkD ?_ | refine bkA ?_ _)); exact BK437.out) hb)
         have n7_ := aK.mk (bC (g := gb445) (o := .cells #[.int .i64 t438, .int .i64 t439, .int .i64 t440, .int .i64 t441, .int .i64 t442] 27 (0, 0)) (by (with_reducible repeat (first | refine bkN ?_ _ | refine bkD ?_ | refine bkA ?_ _)); exact BK445.out) hb)
         have n8_ := aK.mk (bC (g := gb456) (o := .cells #[.int .i64 t446, .int .i64 t447, .int .i64 t448, .int .i64 t449, .int .i64 t450] 27 (0, 0)) (by (with_reducible repeat (first | refine bkN ?_ _ | refine bkD ?_ | refine bkA ?_ _)); exact BK456.out) hb)
         have n9_ := aK.mk (bC (g := gb457) (o := .cells #[.int .i64 t451, .int .i64 t452, .int .i64 t453, .int .i64 t454, .int .i64 t455] 27 (0, 0)) (by (with_reducible repeat (first | refine bkN ?_ _ | refine bkD ?_ | refine bkA ?_ _)); exact BK457.out) hb)
         have n10_ := aK.mk (Kd.C_below (by repeat (first | (with_reducible exact HR470.out) | (with_reducible refine Kd.cD ?_ _) | (with_reducible refine Kd.cC ?_ _) | (with_reducible refine Kd.C_drew ?_) | exact HR470.out)) hb)
         have n11_ := aK.mk (bL (by repeat (first | (with_reducible first | exact HB.out | apply aU | apply aM | apply aT | refine bwS ?_ GE422.out | refine bwS ?_ GE437.out | refine bwS ?_ GE445.out | refine bwS ?_ GE456.out | refine bwS ?_ GE457.out) | exact HB.out)) hb)
         clear HO_3
         clear HO_5
         clear HO_6
         clear HO463
         clear BK422
         clear BK437
         clear BK445
         clear BK456
         clear BK457
         clear HR470
         clear HB
         have HO_3 := n0_
         have HO_5 := n1_
         have HO_6 := n2_
         have HO463 := n3_
         have HO466 := n4_
         have BK422 := n5_
         have BK437 := n6_
         have BK445 := n7_
         have BK456 := n8_
         have BK457 := n9_
         have HR470 := n10_
         have HB := n11_
         clear n0_ n1_ n2_ n3_ n4_ n5_ n6_ n7_ n8_ n9_ n10_ n11_
         (try clear hb)
         (try clear hb2)
         (try clear hk)
         (try clear hi)
         (try clear ho0)
         have hcv109 := Kd.C_string (P := Try.prog) (A := A103) (c := c103) Try.underlying22 Try.underlying5 Try.underlying9 (by repeat (first | (with_reducible exact HR470.out) | (with_reducible refine Kd.cD ?_ _) | (with_reducible refine Kd.cC ?_ _) | (with_reducible refine Kd.C_drew ?_) | exact HR470.out))
         refine hK.out _ _ ⟨(aQ BK437.out 0).trans rfl, (aQ BK437.out 1).trans rfl, (aQ BK437.out 2).trans rfl, (aQ BK437.out 3).trans rfl, (aQ BK437.out 4).trans rfl, (by repeat (first | (with_reducible exact HR470.out) | (with_reducible refine Kd.cD ?_ _) | (with_reducible refine Kd.cC ?_ _) | (with_reducible refine Kd.C_drew ?_) | exact HR470.out))⟩ (fun hHeld => ?_)
         clear hK K
         refine norm_ (a' := ?_) ?_ ?_
         rotate_left
         ·show Act.put _ (some 77) _ = _
          simp only [Act.put, lsT, lsZ, lsS, bJ, bK]
          rfl
         refine one_ (i := 9) (N := some 78) laws_FnKeys.d15 rfl rfl (one_of HT_.out (by kernel_rfl)) (by decide) (fun K hK => ?_)
         have hcv108 := own_string (P := Try.prog) Try.underlying22 Try.underlying5 Try.underlying9 (Kd.own_of_R HO466.out)
         refine value_ (w1 := ?_) (v := ?_) (by rfl) rfl ?_ ?_
         rotate_left 2
         ·go_simp
          constructor
          ·rfl
          ·rfl
         clear hcv108
         refine hK.out _ _ ⟨(aQ BK437.out 0).trans rfl, (aQ BK437.out 1).trans rfl, (aQ BK437.out 2).trans rfl, (aQ BK437.out 3).trans rfl, (aQ BK437.out 4).trans rfl, (by repeat (first | (with_reducible exact HR470.out) | (with_reducible refine Kd.cD ?_ _) | (with_reducible refine Kd.cC ?_ _) | (with_reducible refine Kd.C_drew ?_) | exact HR470.out))⟩ (fun hHeld => ?_)
         clear hK K
         refine norm_ (a' := ?_) ?_ ?_
         rotate_left
         ·show Act.put _ (some 78) _ = _
          simp only [Act.put, lsT, lsZ, lsS, bJ, bK]
          rfl
         refine bT (i := 15) (N := some 84) (v := ?_) (a' := ?_) laws_FnKeys.d16 rfl rfl (bM HT_.out (by kernel_rfl)) (fun _ _ _ h => h) (Or.inl ⟨by rfl, ?_⟩) ?_ ?_
         rotate_left
         ·intro w'
          go_simp
          with_reducible rfl
         rotate_left
         ·simp only [Act.put, lsT, lsZ, lsS, bJ, bK]
          rfl
         refine bT (i := 16) (N := some 85) (v := ?_) (a' := ?_) laws_FnKeys.d17 rfl rfl (bM HT_.out (by kernel_rfl)) (fun _ _ _ h => h) (Or.inl ⟨by rfl, ?_⟩) ?_ ?_
         rotate_left
         ·intro w'
          go_simp
          with_reducible rfl
         rotate_left
         ·simp only [Act.put, lsT, lsZ, lsS, bJ, bK]
          rfl
         refine bT (i := 17) (N := some 86) (v := ?_) (a' := ?_) laws_FnKeys.d18 rfl rfl (bM HT_.out (by kernel_rfl)) (fun _ _ _ h => h) (Or.inl ⟨by rfl, ?_⟩) ?_ ?_
         rotate_left
         ·intro w'
          go_simp
          with_reducible rfl
         rotate_left
         ·simp only [Act.put, lsT, lsZ, lsS, bJ, bK]
          rfl
         refine bT (i := 18) (N := some 87) (v := ?_) (a' := ?_) laws_FnKeys.d19 rfl rfl (bM HT_.out (by kernel_rfl)) (fun _ _ _ h => h) (Or.inl ⟨by rfl, ?_⟩) ?_ ?_
         rotate_left
         ·intro w'
          go_simp
          with_reducible rfl
         rotate_left
         ·simp only [Act.put, lsT, lsZ, lsS, bJ, bK]
          rfl
         refine bT (i := 19) (N := some 88) (v := undef) (a' := ?_) laws_FnKeys.d20 rfl rfl (bM HT_.out (by kernel_rfl)) (fun _ _ _ h => h) (Or.inr ⟨by rfl, rfl⟩) ?_ ?_
         rotate_left
         ·simp only [Act.put, lsT, lsZ, lsS, bJ, bK]
          rfl
         refine bT (i := 20) (N := some 89) (v := undef) (a' := ?_) laws_FnKeys.d21 rfl rfl (bM HT_.out (by kernel_rfl)) (fun _ _ _ h => h) (Or.inr ⟨by rfl, rfl⟩) ?_ ?_
         rotate_left
         ·simp only [Act.put, lsT, lsZ, lsS, bJ, bK]
          rfl
         refine bT (i := 21) (N := some 90) (v := ?_) (a' := ?_) laws_FnKeys.d22 rfl rfl (bM HT_.out (by kernel_rfl)) (fun _ _ _ h => h) (Or.inl ⟨by rfl, ?_⟩) ?_ ?_
         rotate_left
         ·intro w'
          go_simp
          with_reducible rfl
         rotate_left
         ·simp only [Act.put, lsT, lsZ, lsS, bJ, bK]
          rfl
         refine bT (i := 22) (N := some 91) (v := ?_) (a' := ?_) laws_FnKeys.d23 rfl rfl (bM HT_.out (by kernel_rfl)) (fun _ _ _ h => h) (Or.inl ⟨by rfl, ?_⟩) ?_ ?_
         rotate_left
         ·intro w'
          go_simp
          with_reducible rfl
         rotate_left
         ·simp only [Act.put, lsT, lsZ, lsS, bJ, bK]
          rfl
         refine bT (i := 23) (N := some 92) (v := undef) (a' := ?_) laws_FnKeys.d24 rfl rfl (bM HT_.out (by kernel_rfl)) (fun _ _ _ h => h) (Or.inr ⟨by rfl, rfl⟩) ?_ ?_
         rotate_left
         ·simp only [Act.put, lsT, lsZ, lsS, bJ, bK]
          rfl
         refine bT (i := 24) (N := some 93) (v := undef) (a' := ?_) laws_FnKeys.d25 rfl rfl (bM HT_.out (by kernel_rfl)) (fun _ _ _ h => h) (Or.inr ⟨by rfl, rfl⟩) ?_ ?_
         rotate_left
         ·simp only [Act.put, lsT, lsZ, lsS, bJ, bK]
          rfl
         refine bT (i := 25) (N := some 94) (v := undef) (a' := ?_) laws_FnKeys.d26 rfl rfl (bM HT_.out (by kernel_rfl)) (fun _ _ _ h => h) (Or.inr ⟨by rfl, rfl⟩) ?_ ?_
         rotate_left
         ·simp only [Act.put, lsT, lsZ, lsS, bJ, bK]
          rfl
         refine bT (i := 26) (N := some 95) (v := undef) (a' := ?_) laws_FnKeys.d27 rfl rfl (bM HT_.out (by kernel_rfl)) (fun _ _ _ h => h) (Or.inr ⟨by rfl, rfl⟩) ?_ ?_
         rotate_left
         ·simp only [Act.put, lsT, lsZ, lsS, bJ, bK]
          rfl
         refine bT (i := 27) (N := some 96) (v := undef) (a' := ?_) laws_FnKeys.d28 rfl rfl (bM HT_.out (by kernel_rfl)) (fun _ _ _ h => h) (Or.inr ⟨by rfl, rfl⟩) ?_ ?_
         rotate_left
         ·simp only [Act.put, lsT, lsZ, lsS, bJ, bK]
          rfl
         refine bT (i := 28) (N := some 97) (v := ?_) (a' := ?_) laws_FnKeys.d29 rfl rfl (bM HT_.out (by kernel_rfl)) (fun _ _ _ h => h) (Or.inl ⟨by rfl, ?_⟩) ?_ ?_
         rotate_left
         ·intro w'
          go_simp
          with_reducible rfl
         rotate_left
         ·simp only [Act.put, lsT, lsZ, lsS, bJ, bK]
          rfl
         refine done_ (done_of HT_.out (by kernel_rfl)) ?_
         try go_wp2
         go_meet
         case rel => exact ⟨_, (true), (by first | rfl | (simp; done) | (simp [*]; done)), H', ⟨by have := HJ10.out; have := HJ44.out; have := HJ57.out; first | omega | exact Nat.le_refl _⟩, ⟨by (with_reducible repeat (first | apply Kd.bE | apply Kd.bF | apply Kd.bG)); exact Kd.cA HO_3.out (fun _ hk => by first | exact hk.2.2.1 | exact hk.2.2 | exact hk.2.1 | exact hk.2 | exact hk.1 | exact hk.1.1 | exact hk.1.2 | exact hk.1.1.1 | exact hk.1.1.2 | exact hk.1.2.1 | exact hk.1.2.2)⟩, ⟨by (with_reducible repeat (first | apply Kd.bE | apply Kd.bF | apply Kd.bG)); exact Kd.cA HO_5.out (fun _ hk => by first | exact hk.2.2.1 | exact hk.2.2 | exact hk.2.1 | exact hk.2 | exact hk.1 | exact hk.1.1 | exact hk.1.2 | exact hk.1.1.1 | exact hk.1.1.2 | exact hk.1.2.1 | exact hk.1.2.2)⟩, ⟨by (with_reducible repeat (first | refine bkN ?_ _ | refine bkD ?_ | refine bkA ?_ _)); exact BK422.out⟩, ⟨by (with_reducible repeat (first | refine bkN ?_ _ | refine bkD ?_ | refine bkA ?_ _)); exact BK437.out⟩, ⟨by (with_reducible repeat (first | refine bkN ?_ _ | refine bkD ?_ | refine bkA ?_ _)); exact BK445.out⟩, ⟨by (with_reducible repeat (first | refine bkN ?_ _ | refine bkD ?_ | refine bkA ?_ _)); exact BK456.out⟩, ⟨by (with_reducible repeat (first | refine bkN ?_ _ | refine bkD ?_ | refine bkA ?_ _)); exact BK457.out⟩, ⟨by repeat (first | (with_reducible first | exact HB.out | apply aU | apply aM | apply aT | refine bwS ?_ GE422.out | refine bwS ?_ GE437.out | refine bwS ?_ GE445.out | refine bwS ?_ GE456.out | refine bwS ?_ GE457.out) | exact HB.out)⟩⟩
        replace c73 := Bool.eq_false_iff.mpr c73
        subst c73
        have H1 : (if x16_57 = 1 then ((impl_KeyOk.f kj57 t417 t418 t419 t420 t421).bind fun t473 => ((spec_KeyOk.f kj57 t417 t418 t419 t420 t421).bind fun t474 => (laws_FnKeys.j3 kj57 t414 t423 (t473 != t474) t417 t418 t419 t420 t421))) else (laws_FnKeys.j3 kj57 t414 t423 true t417 t418 t419 t420 t421)) = some r := by rw [if_neg (show ¬ (false = true) by decide)] at H; exact H
        clear H
        have H := H1
        clear H1
        by_cases c111 : x16_57 = 1
        ·rw [if_pos c111] at H
         have c111b0 : (x16_57 == 1) = true := beq_iff_eq.mpr c111
         have c111b1 : (x16_57 != 1) = false := bne_eq_false_iff_eq.mpr c111
         clear c111
         replace H := lF H
         obtain ⟨t473, A1120, H⟩ := H
         replace H : ((spec_KeyOk.f kj57 t417 t418 t419 t420 t421).bind fun t474 => (laws_FnKeys.j3 kj57 t414 t423 (t473 != t474) t417 t418 t419 t420 t421)) = some r := H
         have A112 := aK.mk A1120
         clear A1120
         replace H := lF H
         obtain ⟨t474, A1130, H⟩ := H
         replace H : (laws_FnKeys.j3 kj57 t414 t423 (t473 != t474) t417 t418 t419 t420 t421) = some r := H
         have A113 := aK.mk A1130
         clear A1130
         have H' := aK.mk H
         clear H
         try go_wp2
         have n0_ := aK.mk (Kd.bG HO_3.out)
         have n1_ := aK.mk (Kd.bG HO_5.out)
         have n2_ := aK.mk (Kd.bG HO_6.out)
         have n3_ := aK.mk (bkD BK422.out)
         have n4_ := aK.mk (bkD BK437.out)
         have n5_ := aK.mk (bkD BK445.out)
         have n6_ := aK.mk (bkD BK456.out)
         have n7_ := aK.mk (bkD BK457.out)
         have n8_ := aK.mk (aT HB.out)
         clear HO_3
         clear HO_5
         clear HO_6
         clear BK422
         clear BK437
         clear BK445
         clear BK456
         clear BK457
         clear HB
         have HO_3 := n0_
         have HO_5 := n1_
         have HO_6 := n2_
         have BK422 := n3_
         have BK437 := n4_
         have BK445 := n5_
         have BK456 := n6_
         have BK457 := n7_
         have HB := n8_
         clear n0_ n1_ n2_ n3_ n4_ n5_ n6_ n7_ n8_
         refine start_ (n := 29) (S := fun w' => w'.cell? ⟨gb422, 0, none⟩ = some (.int .i64 t417) ∧ w'.cell? ⟨gb422, 1, none⟩ = some (.int .i64 t418) ∧ w'.cell? ⟨gb422, 2, none⟩ = some (.int .i64 t419) ∧ w'.cell? ⟨gb422, 3, none⟩ = some (.int .i64 t420) ∧ w'.cell? ⟨gb422, 4, none⟩ = some (.int .i64 t421)) (ds := []) laws_FnKeys.d0 (by kernel_rfl) rfl rfl ⟨(aQ BK422.out 0).trans rfl, (aQ BK422.out 1).trans rfl, (aQ BK422.out 2).trans rfl, (aQ BK422.out 3).trans rfl, (aQ BK422.out 4).trans rfl⟩ (fun hHeld => ?_); refine with_tabW laws_FnKeys.tab16 laws_FnKeys.bits16 (fun HT_ HW_ => ?_)
         generalize wc.drew = w114 at HO_3 HO_5 HO_6 BK422 BK437 BK445 BK456 BK457 HB hHeld ⊢
         refine bT (i := 0) (N := some 69) (v := ?_) (a' := ?_) laws_FnKeys.d1 rfl rfl (bM HT_.out (by kernel_rfl)) (fun _ _ _ h => h) (Or.inl ⟨by rfl, ?_⟩) ?_ ?_
         rotate_left
         ·intro w'
          go_simp
          with_reducible rfl
         rotate_left
         ·simp only [Act.put, lsT, lsZ, lsS, bJ, bK]
          rfl
         refine bT (i := 1) (N := some 70) (v := ?_) (a' := ?_) laws_FnKeys.d2 rfl rfl (bM HT_.out (by kernel_rfl)) (fun _ _ _ h => h) (Or.inl ⟨by rfl, ?_⟩) ?_ ?_
         rotate_left
         ·intro w'
          go_simp
          with_reducible rfl
         rotate_left
         ·simp only [Act.put, lsT, lsZ, lsS, bJ, bK]
          rfl
         refine bT (i := 2) (N := some 71) (v := ?_) (a' := ?_) laws_FnKeys.d3 rfl rfl (bM HT_.out (by kernel_rfl)) (fun _ _ _ h => h) (Or.inl ⟨by rfl, ?_⟩) ?_ ?_
         rotate_left
         ·intro w'
          go_simp
          with_reducible rfl
         rotate_left
         ·simp only [Act.put, lsT, lsZ, lsS, bJ, bK]
          rfl
         refine bT (i := 3) (N := some 72) (v := ?_) (a' := ?_) laws_FnKeys.d4 rfl rfl (bM HT_.out (by kernel_rfl)) (fun _ _ _ h => h) (Or.inl ⟨by rfl, ?_⟩) ?_ ?_
         rotate_left
         ·intro w'
          go_simp
          with_reducible rfl
         rotate_left
         ·simp only [Act.put, lsT, lsZ, lsS, bJ, bK]
          rfl
         refine bT (i := 4) (N := some 73) (v := ?_) (a' := ?_) laws_FnKeys.d5 rfl rfl (bM HT_.out (by kernel_rfl)) (fun _ _ _ h => h) (Or.inl ⟨by rfl, ?_⟩) ?_ ?_
         rotate_left
         ·intro w'
          go_simp
          with_reducible rfl
         rotate_left
         ·simp only [Act.put, lsT, lsZ, lsS, bJ, bK]
          rfl
         refine bT (i := 5) (N := some 74) (v := ?_) (a' := ?_) laws_FnKeys.d6 rfl rfl (bM HT_.out (by kernel_rfl)) (fun _ _ _ h => h) (Or.inl ⟨by rfl, ?_⟩) ?_ ?_
         rotate_left
         ·intro w'
          go_simp
          with_reducible rfl
         rotate_left
         ·simp only [Act.put, lsT, lsZ, lsS, bJ, bK]
          rfl
         refine bT (i := 6) (N := some 75) (v := undef) (a' := ?_) laws_FnKeys.d7 rfl rfl (bM HT_.out (by kernel_rfl)) (fun _ _ _ h => h) (Or.inr ⟨by rfl, rfl⟩) ?_ ?_
         rotate_left
         ·simp only [Act.put, lsT, lsZ, lsS, bJ, bK]
          rfl
         refine bT (i := 7) (N := some 76) (v := undef) (a' := ?_) laws_FnKeys.d8 rfl rfl (bM HT_.out (by kernel_rfl)) (fun _ _ _ h => h) (Or.inr ⟨by rfl, rfl⟩) ?_ ?_
         rotate_left
         ·simp only [Act.put, lsT, lsZ, lsS, bJ, bK]
          rfl
         refine bT (i := 8) (N := some 77) (v := undef) (a' := ?_) laws_FnKeys.d9 rfl rfl (bM HT_.out (by kernel_rfl)) (fun _ _ _ h => h) (Or.inr ⟨by rfl, rfl⟩) ?_ ?_
         rotate_left
         ·simp only [Act.put, lsT, lsZ, lsS, bJ, bK]
          rfl
         refine bT (i := 9) (N := some 78) (v := undef) (a' := ?_) laws_FnKeys.d10 rfl rfl (bM HT_.out (by kernel_rfl)) (fun _ _ _ h => h) (Or.inr ⟨by rfl, rfl⟩) ?_ ?_
         rotate_left
         ·simp only [Act.put, lsT, lsZ, lsS, bJ, bK]
          rfl
         refine bT (i := 10) (N := some 79) (v := undef) (a' := ?_) laws_FnKeys.d11 rfl rfl (bM HT_.out (by kernel_rfl)) (fun _ _ _ h => h) (Or.inr ⟨by rfl, rfl⟩) ?_ ?_
         rotate_left
         ·simp only [Act.put, lsT, lsZ, lsS, bJ, bK]
          rfl
         refine bT (i := 11) (N := some 80) (v := undef) (a' := ?_) laws_FnKeys.d12 rfl rfl (bM HT_.out (by kernel_rfl)) (fun _ _ _ h => h) (Or.inr ⟨by rfl, rfl⟩) ?_ ?_
         rotate_left
         ·simp only [Act.put, lsT, lsZ, lsS, bJ, bK]
          rfl
         refine bT (i := 12) (N := some 81) (v := undef) (a' := ?_) laws_FnKeys.d13 rfl rfl (bM HT_.out (by kernel_rfl)) (fun _ _ _ h => h) (Or.inr ⟨by rfl, rfl⟩) ?_ ?_
         rotate_left
         ·simp only [Act.put, lsT, lsZ, lsS, bJ, bK]
          rfl
         refine bT (i := 13) (N := some 82) (v := undef) (a' := ?_) laws_FnKeys.d14 rfl rfl (bM HT_.out (by kernel_rfl)) (fun _ _ _ h => h) (Or.inr ⟨by rfl, rfl⟩) ?_ ?_
         rotate_left
         ·simp only [Act.put, lsT, lsZ, lsS, bJ, bK]
          rfl
         refine bT (i := 14) (N := some 83) (v := undef) (a' := ?_) laws_FnKeys.d15 rfl rfl (bM HT_.out (by kernel_rfl)) (fun _ _ _ h => h) (Or.inr ⟨by rfl, rfl⟩) ?_ ?_
         rotate_left
         ·simp only [Act.put, lsT, lsZ, lsS, bJ, bK]
          rfl
         refine bT (i := 15) (N := some 84) (v := undef) (a' := ?_) laws_FnKeys.d16 rfl rfl (bM HT_.out (by kernel_rfl)) (fun _ _ _ h => h) (Or.inr ⟨by rfl, rfl⟩) ?_ ?_
         rotate_left
         ·simp only [Act.put, lsT, lsZ, lsS, bJ, bK]
          rfl
         refine bT (i := 16) (N := some 85) (v := ?_) (a' := ?_) laws_FnKeys.d17 rfl rfl (bM HT_.out (by kernel_rfl)) (fun _ _ _ h => h) (Or.inl ⟨by rfl, ?_⟩) ?_ ?_
         rotate_left
         ·intro w'
          go_simp
          with_reducible rfl
         rotate_left
         ·simp only [Act.put, lsT, lsZ, lsS, bJ, bK]
          rfl
         refine bT (i := 17) (N := some 86) (v := ?_) (a' := ?_) laws_FnKeys.d18 rfl rfl (bM HT_.out (by kernel_rfl)) (fun _ _ _ h => h) (Or.inl ⟨by rfl, ?_⟩) ?_ ?_
         rotate_left
         ·intro w'
          go_simp
          with_reducible rfl
         rotate_left
         ·simp only [Act.put, lsT, lsZ, lsS, bJ, bK]
          rfl
         refine bT (i := 18) (N := some 87) (v := ?_) (a' := ?_) laws_FnKeys.d19 rfl rfl (bM HT_.out (by kernel_rfl)) (fun _ _ _ h => h) (Or.inl ⟨by rfl, ?_⟩) ?_ ?_
         rotate_left
         ·intro w'
          go_simp
          with_reducible rfl
         rotate_left
         ·simp only [Act.put, lsT, lsZ, lsS, bJ, bK]
          rfl
         refine bT (i := 19) (N := some 88) (v := ?_) (a' := ?_) laws_FnKeys.d20 rfl rfl (bM HT_.out (by kernel_rfl)) (fun _ _ _ h => h) (Or.inl ⟨by rfl, ?_⟩) ?_ ?_
         rotate_left
         ·intro w'
          go_simp
          with_reducible rfl
         rotate_left
         ·simp only [Act.put, lsT, lsZ, lsS, bJ, bK]
          rfl
         refine bT (i := 20) (N := some 89) (v := ?_) (a' := ?_) laws_FnKeys.d21 rfl rfl (bM HT_.out (by kernel_rfl)) (fun _ _ _ h => h) (Or.inl ⟨by rfl, ?_⟩) ?_ ?_
         rotate_left
         ·intro w'
          go_simp
          with_reducible rfl
         rotate_left
         ·simp only [Act.put, lsT, lsZ, lsS, bJ, bK]
          rfl
         refine bT (i := 21) (N := some 90) (v := ?_) (a' := ?_) laws_FnKeys.d22 rfl rfl (bM HT_.out (by kernel_rfl)) (fun _ _ _ h => h) (Or.inl ⟨by rfl, ?_⟩) ?_ ?_
         rotate_left
         ·intro w'
          go_simp
          with_reducible rfl
         rotate_left
         ·simp only [Act.put, lsT, lsZ, lsS, bJ, bK]
          rfl
         refine bT (i := 22) (N := some 91) (v := ?_) (a' := ?_) laws_FnKeys.d23 rfl rfl (bM HT_.out (by kernel_rfl)) (fun _ _ _ h => h) (Or.inl ⟨by rfl, ?_⟩) ?_ ?_
         rotate_left
         ·intro w'
          go_simp
          with_reducible rfl
         rotate_left
         ·simp only [Act.put, lsT, lsZ, lsS, bJ, bK]
          rfl
         refine take_ (i := 23) (N := some 92) (v := ?_) (a' := ?_) laws_FnKeys.d24 rfl rfl (take_ofW HT_.out HW_.out (by kernel_rfl)) (fun _ _ _ h => h) (Or.inl ⟨by rfl, ?_⟩) hHeld ?_ ?_
         rotate_left
         ·rintro w' ⟨s0, s1, s2, s3, s4⟩
          go_simp
          with_reducible rfl
         rotate_left
         ·simp only [Act.put, lsT, lsZ, lsS, bJ, bK]
          rfl
         refine take_ (i := 25) (N := some 94) (v := ?_) (a' := ?_) laws_FnKeys.d38 rfl rfl (take_ofW HT_.out HW_.out (by kernel_rfl)) (fun _ _ _ h => h) (Or.inl ⟨by rfl, ?_⟩) hHeld ?_ ?_
         rotate_left
         ·rintro w' ⟨s0, s1, s2, s3, s4⟩
          go_simp
          with_reducible rfl
         rotate_left
         ·simp only [Act.put, lsT, lsZ, lsS, bJ, bK]
          rfl
         refine one_ (i := 24) (N := some 93) laws_FnKeys.d26 rfl rfl (one_of HT_.out (by kernel_rfl)) (by decide) (fun K hK => ?_)
         refine goes_ Try.func30 (by kernel_rfl) rfl #[.agg #[.int .i64 t417, .int .i64 t418, .int .i64 t419, .int .i64 t420, .int .i64 t421]] (by rfl) rfl rfl (by (try simp only [List.map_toArray, List.map_cons, List.map_nil]); first | done | rfl | (simp only [List.length_drop, List.length_take]; rfl)) ?_
         with_reducible refine (impl_KeyOk.calls kj57 t417 t418 t419 t420 t421 t473 _ A112.out).mono ?_
         rintro e w115 ⟨rfl, hb⟩
         refine ⟨_, rfl, ?_⟩
         have n0_ := aK.mk (Kd.cB (by (with_reducible repeat (first | apply Kd.bE | apply Kd.bF | apply Kd.bG)); exact HO_3.out) hb)
         have n1_ := aK.mk (Kd.cB (by (with_reducible repeat (first | apply Kd.bE | apply Kd.bF | apply Kd.bG)); exact HO_5.out) hb)
         have n2_ := aK.mk (Kd.cB (by (with_reducible repeat (first | apply Kd.bE | apply Kd.bF | apply Kd.bG)); exact HO_6.out) hb)
         have n3_ := aK.mk (bC (g := gb422) (o := .cells #[.int .i64 t417, .int .i64 t418, .int .i64 t419, .int .i64 t420, .int .i64 t421] 27 (0, 0)) (by (with_reducible repeat (first | refine bkN ?_ _ | refine bkD ?_ | refine bkA ?_ _)); exact BK422.out) hb)
         have n4_ := aK.mk (bC (g := gb437) (o := .cells #[.int .i64 t430, .int .i64 t431, .int .i64 t432, .int .i64 t433, .int .i64 t434] 27 (0, 0)) (by (with_reducible repeat (first | refine bkN ?_ _ | refine bkD ?_ | refine bkA ?_ _)); exact BK437.out) hb)
         have n5_ := aK.mk (bC (g := gb445) (o := .cells #[.int .i64 t438, .int .i64 t439, .int .i64 t440, .int .i64 t441, .int .i64 t442] 27 (0, 0)) (by (with_reducible repeat (first | refine bkN ?_ _ | refine bkD ?_ | refine bkA ?_ _)); exact BK445.out) hb)
         have n6_ := aK.mk (bC (g := gb456) (o := .cells #[.int .i64 t446, .int .i64 t447, .int .i64 t448, .int .i64 t449, .int .i64 t450] 27 (0, 0)) (by (with_reducible repeat (first | refine bkN ?_ _ | refine bkD ?_ | refine bkA ?_ _)); exact BK456.out) hb)
         have n7_ := aK.mk (bC (g := gb457) (o := .cells #[.int .i64 t451, .int .i64 t452, .int .i64 t453, .int .i64 t454, .int .i64 t455] 27 (0, 0)) (by (with_reducible repeat (first | refine bkN ?_ _ | refine bkD ?_ | refine bkA ?_ _)); exact BK457.out) hb)
         have n8_ := aK.mk (bL (by repeat (first | (with_reducible first | exact HB.out | apply aU | apply aM | apply aT | refine bwS ?_ GE422.out | refine bwS ?_ GE437.out | refine bwS ?_ GE445.out | refine bwS ?_ GE456.out | refine bwS ?_ GE457.out) | exact HB.out)) hb)
         clear HO_3
         clear HO_5
         clear HO_6
         clear BK422
         clear BK437
         clear BK445
         clear BK456
         clear BK457
         clear HB
         have HO_3 := n0_
         have HO_5 := n1_
         have HO_6 := n2_
         have BK422 := n3_
         have BK437 := n4_
         have BK445 := n5_
         have BK456 := n6_
         have BK457 := n7_
         have HB := n8_
         clear n0_ n1_ n2_ n3_ n4_ n5_ n6_ n7_ n8_
         (try clear hb)
         (try clear hb2)
         (try clear hk)
         (try clear hi)
         refine hK.out _ _ ⟨(aQ BK422.out 0).trans rfl, (aQ BK422.out 1).trans rfl, (aQ BK422.out 2).trans rfl, (aQ BK422.out 3).trans rfl, (aQ BK422.out 4).trans rfl⟩ (fun hHeld => ?_)
         clear hK K
         refine norm_ (a' := ?_) ?_ ?_
         rotate_left
         ·show Act.put _ (some 93) _ = _
          simp only [Act.put, lsT, lsZ, lsS, bJ, bK]
          rfl
         refine one_ (i := 26) (N := some 95) laws_FnKeys.d27 rfl rfl (one_of HT_.out (by kernel_rfl)) (by decide) (fun K hK => ?_)
         refine goes_ Try.func31 (by kernel_rfl) rfl #[.agg #[.int .i64 t417, .int .i64 t418, .int .i64 t419, .int .i64 t420, .int .i64 t421]] (by rfl) rfl rfl (by (try simp only [List.map_toArray, List.map_cons, List.map_nil]); first | done | rfl | (simp only [List.length_drop, List.length_take]; rfl)) ?_
         with_reducible refine (spec_KeyOk.calls kj57 t417 t418 t419 t420 t421 t474 _ A113.out).mono ?_
         rintro e w116 ⟨rfl, hb⟩
         refine ⟨_, rfl, ?_⟩
         have n0_ := aK.mk (Kd.cB (by (with_reducible repeat (first | apply Kd.bE | apply Kd.bF | apply Kd.bG)); exact HO_3.out) hb)
         have n1_ := aK.mk (Kd.cB (by (with_reducible repeat (first | apply Kd.bE | apply Kd.bF | apply Kd.bG)); exact HO_5.out) hb)
         have n2_ := aK.mk (Kd.cB (by (with_reducible repeat (first | apply Kd.bE | apply Kd.bF | apply Kd.bG)); exact HO_6.out) hb)
         have n3_ := aK.mk (bC (g := gb422) (o := .cells #[.int .i64 t417, .int .i64 t418, .int .i64 t419, .int .i64 t420, .int .i64 t421] 27 (0, 0)) (by (with_reducible repeat (first | refine bkN ?_ _ | refine bkD ?_ | refine bkA ?_ _)); exact BK422.out) hb)
         have n4_ := aK.mk (bC (g := gb437) (o := .cells #[.int .i64 t430, .int .i64 t431, .int .i64 t432, .int .i64 t433, .int .i64 t434] 27 (0, 0)) (by (with_reducible repeat (first | refine bkN ?_ _ | refine bkD ?_ | refine bkA ?_ _)); exact BK437.out) hb)
         have n5_ := aK.mk (bC (g := gb445) (o := .cells #[.int .i64 t438, .int .i64 t439, .int .i64 t440, .int .i64 t441, .int .i64 t442] 27 (0, 0)) (by (with_reducible repeat (first | refine bkN ?_ _ | refine bkD ?_ | refine bkA ?_ _)); exact BK445.out) hb)
         have n6_ := aK.mk (bC (g := gb456) (o := .cells #[.int .i64 t446, .int .i64 t447, .int .i64 t448, .int .i64 t449, .int .i64 t450] 27 (0, 0)) (by (with_reducible repeat (first | refine bkN ?_ _ | refine bkD ?_ | refine bkA ?_ _)); exact BK456.out) hb)
         have n7_ := aK.mk (bC (g := gb457) (o := .cells #[.int .i64 t451, .int .i64 t452, .int .i64 t453, .int .i64 t454, .int .i64 t455] 27 (0, 0)) (by (with_reducible repeat (first | refine bkN ?_ _ | refine bkD ?_ | refine bkA ?_ _)); exact BK457.out) hb)
         have n8_ := aK.mk (bL (by repeat (first | (with_reducible first | exact HB.out | apply aU | apply aM | apply aT | refine bwS ?_ GE422.out | refine bwS ?_ GE437.out | refine bwS ?_ GE445.out | refine bwS ?_ GE456.out | refine bwS ?_ GE457.out) | exact HB.out)) hb)
         clear HO_3
         clear HO_5
         clear HO_6
         clear BK422
         clear BK437
         clear BK445
         clear BK456
         clear BK457
         clear HB
         have HO_3 := n0_
         have HO_5 := n1_
         have HO_6 := n2_
         have BK422 := n3_
         have BK437 := n4_
         have BK445 := n5_
         have BK456 := n6_
         have BK457 := n7_
         have HB := n8_
         clear n0_ n1_ n2_ n3_ n4_ n5_ n6_ n7_ n8_
         (try clear hb)
         (try clear hb2)
         (try clear hk)
         (try clear hi)
         refine hK.out _ _ ⟨(aQ BK422.out 0).trans rfl, (aQ BK422.out 1).trans rfl, (aQ BK422.out 2).trans rfl, (aQ BK422.out 3).trans rfl, (aQ BK422.out 4).trans rfl⟩ (fun hHeld => ?_)
         clear hK K
         refine norm_ (a' := ?_) ?_ ?_
         rotate_left
         ·show Act.put _ (some 95) _ = _
          simp only [Act.put, lsT, lsZ, lsS, bJ, bK]
          rfl
         refine bT (i := 27) (N := some 96) (v := ?_) (a' := ?_) laws_FnKeys.d28 rfl rfl (bM HT_.out (by kernel_rfl)) (fun _ _ _ h => h) (Or.inl ⟨by rfl, ?_⟩) ?_ ?_
         rotate_left
         ·intro w'
          go_simp
          with_reducible rfl
         rotate_left
         ·simp only [Act.put, lsT, lsZ, lsS, bJ, bK]
          rfl
         refine bT (i := 28) (N := some 97) (v := ?_) (a' := ?_) laws_FnKeys.d29 rfl rfl (bM HT_.out (by kernel_rfl)) (fun _ _ _ h => h) (Or.inl ⟨by rfl, ?_⟩) ?_ ?_
         rotate_left
         ·intro w'
          go_simp
          with_reducible rfl
         rotate_left
         ·simp only [Act.put, lsT, lsZ, lsS, bJ, bK]
          rfl
         refine done_ (done_of HT_.out (by kernel_rfl)) ?_
         try go_wp2
         go_meet
         case rel => exact ⟨_, ((t473 != t474)), (by first | rfl | (simp; done) | (simp [*]; done)), H', ⟨by have := HJ10.out; have := HJ44.out; have := HJ57.out; first | omega | exact Nat.le_refl _⟩, ⟨by (with_reducible repeat (first | apply Kd.bE | apply Kd.bF | apply Kd.bG)); exact Kd.cA HO_3.out (fun _ hk => hk.1)⟩, ⟨by (with_reducible repeat (first | apply Kd.bE | apply Kd.bF | apply Kd.bG)); exact Kd.cA HO_5.out (fun _ hk => hk.1)⟩, ⟨by (with_reducible repeat (first | refine bkN ?_ _ | refine bkD ?_ | refine bkA ?_ _)); exact BK422.out⟩, ⟨by (with_reducible repeat (first | refine bkN ?_ _ | refine bkD ?_ | refine bkA ?_ _)); exact BK437.out⟩, ⟨by (with_reducible repeat (first | refine bkN ?_ _ | refine bkD ?_ | refine bkA ?_ _)); exact BK445.out⟩, ⟨by (with_reducible repeat (first | refine bkN ?_ _ | refine bkD ?_ | refine bkA ?_ _)); exact BK456.out⟩, ⟨by (with_reducible repeat (first | refine bkN ?_ _ | refine bkD ?_ | refine bkA ?_ _)); exact BK457.out⟩, ⟨by repeat (first | (with_reducible first | exact HB.out | apply aU | apply aM | apply aT | refine bwS ?_ GE422.out | refine bwS ?_ GE437.out | refine bwS ?_ GE445.out | refine bwS ?_ GE456.out | refine bwS ?_ GE457.out) | exact HB.out)⟩⟩
        rw [if_neg c111] at H
        have c111b0 : (x16_57 == 1) = false := beq_eq_false_iff_ne.mpr c111
        have c111b1 : (x16_57 != 1) = true := bne_iff_ne.mpr c111
        have H' := aK.mk H
        clear H
        try go_wp2
        have n0_ := aK.mk (Kd.bG HO_3.out)
        have n1_ := aK.mk (Kd.bG HO_5.out)
        have n2_ := aK.mk (Kd.bG HO_6.out)
        have n3_ := aK.mk (bkD BK422.out)
        have n4_ := aK.mk (bkD BK437.out)
        have n5_ := aK.mk (bkD BK445.out)
        have n6_ := aK.mk (bkD BK456.out)
        have n7_ := aK.mk (bkD BK457.out)
        have n8_ := aK.mk (aT HB.out)
        clear HO_3
        clear HO_5
        clear HO_6
        clear BK422
        clear BK437
        clear BK445
        clear BK456
        clear BK457
        clear HB
        have HO_3 := n0_
        have HO_5 := n1_
        have HO_6 := n2_
        have BK422 := n3_
        have BK437 := n4_
        have BK445 := n5_
        have BK456 := n6_
        have BK457 := n7_
        have HB := n8_
        clear n0_ n1_ n2_ n3_ n4_ n5_ n6_ n7_ n8_
        refine start_ (n := 29) (S := fun w' => True) (ds := []) laws_FnKeys.d0 (by kernel_rfl) rfl rfl trivial (fun hHeld => ?_); refine with_tabW laws_FnKeys.tab16 laws_FnKeys.bits16 (fun HT_ HW_ => ?_)
        generalize wc.drew = w117 at HO_3 HO_5 HO_6 BK422 BK437 BK445 BK456 BK457 HB hHeld ⊢
        refine bT (i := 0) (N := some 69) (v := ?_) (a' := ?_) laws_FnKeys.d1 rfl rfl (bM HT_.out (by kernel_rfl)) (fun _ _ _ h => h) (Or.inl ⟨by rfl, ?_⟩) ?_ ?_
        rotate_left
        ·intro w'
         go_simp
         with_reducible rfl
        rotate_left
        ·simp only [Act.put, lsT, lsZ, lsS, bJ, bK]
         rfl
        refine bT (i := 1) (N := some 70) (v := ?_) (a' := ?_) laws_FnKeys.d2 rfl rfl (bM HT_.out (by kernel_rfl)) (fun _ _ _ h => h) (Or.inl ⟨by rfl, ?_⟩) ?_ ?_
        rotate_left
        ·intro w'
         go_simp
         with_reducible rfl
        rotate_left
        ·simp only [Act.put, lsT, lsZ, lsS, bJ, bK]
         rfl
        refine bT (i := 2) (N := some 71) (v := ?_) (a' := ?_) laws_FnKeys.d3 rfl rfl (bM HT_.out (by kernel_rfl)) (fun _ _ _ h => h) (Or.inl ⟨by rfl, ?_⟩) ?_ ?_
        rotate_left
        ·intro w'
         go_simp
         with_reducible rfl
        rotate_left
        ·simp only [Act.put, lsT, lsZ, lsS, bJ, bK]
         rfl
        refine bT (i := 3) (N := some 72) (v := ?_) (a' := ?_) laws_FnKeys.d4 rfl rfl (bM HT_.out (by kernel_rfl)) (fun _ _ _ h => h) (Or.inl ⟨by rfl, ?_⟩) ?_ ?_
        rotate_left
        ·intro w'
         go_simp
         with_reducible rfl
        rotate_left
        ·simp only [Act.put, lsT, lsZ, lsS, bJ, bK]
         rfl
        refine bT (i := 4) (N := some 73) (v := ?_) (a' := ?_) laws_FnKeys.d5 rfl rfl (bM HT_.out (by kernel_rfl)) (fun _ _ _ h => h) (Or.inl ⟨by rfl, ?_⟩) ?_ ?_
        rotate_left
        ·intro w'
         go_simp
         with_reducible rfl
        rotate_left
        ·simp only [Act.put, lsT, lsZ, lsS, bJ, bK]
         rfl
        refine bT (i := 5) (N := some 74) (v := ?_) (a' := ?_) laws_FnKeys.d6 rfl rfl (bM HT_.out (by kernel_rfl)) (fun _ _ _ h => h) (Or.inl ⟨by rfl, ?_⟩) ?_ ?_
        rotate_left
        ·intro w'
         go_simp
         with_reducible rfl
        rotate_left
        ·simp only [Act.put, lsT, lsZ, lsS, bJ, bK]
         rfl
        refine bT (i := 6) (N := some 75) (v := undef) (a' := ?_) laws_FnKeys.d7 rfl rfl (bM HT_.out (by kernel_rfl)) (fun _ _ _ h => h) (Or.inr ⟨by rfl, rfl⟩) ?_ ?_
        rotate_left
        ·simp only [Act.put, lsT, lsZ, lsS, bJ, bK]
         rfl
        refine bT (i := 7) (N := some 76) (v := undef) (a' := ?_) laws_FnKeys.d8 rfl rfl (bM HT_.out (by kernel_rfl)) (fun _ _ _ h => h) (Or.inr ⟨by rfl, rfl⟩) ?_ ?_
        rotate_left
        ·simp only [Act.put, lsT, lsZ, lsS, bJ, bK]
         rfl
        refine bT (i := 8) (N := some 77) (v := undef) (a' := ?_) laws_FnKeys.d9 rfl rfl (bM HT_.out (by kernel_rfl)) (fun _ _ _ h => h) (Or.inr ⟨by rfl, rfl⟩) ?_ ?_
        rotate_left
        ·simp only [Act.put, lsT, lsZ, lsS, bJ, bK]
         rfl
        refine bT (i := 9) (N := some 78) (v := undef) (a' := ?_) laws_FnKeys.d10 rfl rfl (bM HT_.out (by kernel_rfl)) (fun _ _ _ h => h) (Or.inr ⟨by rfl, rfl⟩) ?_ ?_
        rotate_left
        ·simp only [Act.put, lsT, lsZ, lsS, bJ, bK]
         rfl
        refine bT (i := 10) (N := some 79) (v := undef) (a' := ?_) laws_FnKeys.d11 rfl rfl (bM HT_.out (by kernel_rfl)) (fun _ _ _ h => h) (Or.inr ⟨by rfl, rfl⟩) ?_ ?_
        rotate_left
        ·simp only [Act.put, lsT, lsZ, lsS, bJ, bK]
         rfl
        refine bT (i := 11) (N := some 80) (v := undef) (a' := ?_) laws_FnKeys.d12 rfl rfl (bM HT_.out (by kernel_rfl)) (fun _ _ _ h => h) (Or.inr ⟨by rfl, rfl⟩) ?_ ?_
        rotate_left
        ·simp only [Act.put, lsT, lsZ, lsS, bJ, bK]
         rfl
        refine bT (i := 12) (N := some 81) (v := undef) (a' := ?_) laws_FnKeys.d13 rfl rfl (bM HT_.out (by kernel_rfl)) (fun _ _ _ h => h) (Or.inr ⟨by rfl, rfl⟩) ?_ ?_
        rotate_left
        ·simp only [Act.put, lsT, lsZ, lsS, bJ, bK]
         rfl
        refine bT (i := 13) (N := some 82) (v := undef) (a' := ?_) laws_FnKeys.d14 rfl rfl (bM HT_.out (by kernel_rfl)) (fun _ _ _ h => h) (Or.inr ⟨by rfl, rfl⟩) ?_ ?_
        rotate_left
        ·simp only [Act.put, lsT, lsZ, lsS, bJ, bK]
         rfl
        refine bT (i := 14) (N := some 83) (v := undef) (a' := ?_) laws_FnKeys.d15 rfl rfl (bM HT_.out (by kernel_rfl)) (fun _ _ _ h => h) (Or.inr ⟨by rfl, rfl⟩) ?_ ?_
        rotate_left
        ·simp only [Act.put, lsT, lsZ, lsS, bJ, bK]
         rfl
        refine bT (i := 15) (N := some 84) (v := undef) (a' := ?_) laws_FnKeys.d16 rfl rfl (bM HT_.out (by kernel_rfl)) (fun _ _ _ h => h) (Or.inr ⟨by rfl, rfl⟩) ?_ ?_
        rotate_left
        ·simp only [Act.put, lsT, lsZ, lsS, bJ, bK]
         rfl
        refine bT (i := 16) (N := some 85) (v := ?_) (a' := ?_) laws_FnKeys.d17 rfl rfl (bM HT_.out (by kernel_rfl)) (fun _ _ _ h => h) (Or.inl ⟨by rfl, ?_⟩) ?_ ?_
        rotate_left
        ·intro w'
         go_simp
         with_reducible rfl
        rotate_left
        ·simp only [Act.put, lsT, lsZ, lsS, bJ, bK]
         rfl
        refine bT (i := 17) (N := some 86) (v := ?_) (a' := ?_) laws_FnKeys.d18 rfl rfl (bM HT_.out (by kernel_rfl)) (fun _ _ _ h => h) (Or.inl ⟨by rfl, ?_⟩) ?_ ?_
        rotate_left
        ·intro w'
         go_simp
         with_reducible rfl
        rotate_left
        ·simp only [Act.put, lsT, lsZ, lsS, bJ, bK]
         rfl
        refine bT (i := 18) (N := some 87) (v := ?_) (a' := ?_) laws_FnKeys.d19 rfl rfl (bM HT_.out (by kernel_rfl)) (fun _ _ _ h => h) (Or.inl ⟨by rfl, ?_⟩) ?_ ?_
        rotate_left
        ·intro w'
         go_simp
         with_reducible rfl
        rotate_left
        ·simp only [Act.put, lsT, lsZ, lsS, bJ, bK]
         rfl
        refine bT (i := 19) (N := some 88) (v := ?_) (a' := ?_) laws_FnKeys.d20 rfl rfl (bM HT_.out (by kernel_rfl)) (fun _ _ _ h => h) (Or.inl ⟨by rfl, ?_⟩) ?_ ?_
        rotate_left
        ·intro w'
         go_simp
         with_reducible rfl
        rotate_left
        ·simp only [Act.put, lsT, lsZ, lsS, bJ, bK]
         rfl
        refine bT (i := 20) (N := some 89) (v := ?_) (a' := ?_) laws_FnKeys.d21 rfl rfl (bM HT_.out (by kernel_rfl)) (fun _ _ _ h => h) (Or.inl ⟨by rfl, ?_⟩) ?_ ?_
        rotate_left
        ·intro w'
         go_simp
         with_reducible rfl
        rotate_left
        ·simp only [Act.put, lsT, lsZ, lsS, bJ, bK]
         rfl
        refine bT (i := 21) (N := some 90) (v := ?_) (a' := ?_) laws_FnKeys.d22 rfl rfl (bM HT_.out (by kernel_rfl)) (fun _ _ _ h => h) (Or.inl ⟨by rfl, ?_⟩) ?_ ?_
        rotate_left
        ·intro w'
         go_simp
         with_reducible rfl
        rotate_left
        ·simp only [Act.put, lsT, lsZ, lsS, bJ, bK]
         rfl
        refine bT (i := 22) (N := some 91) (v := ?_) (a' := ?_) laws_FnKeys.d23 rfl rfl (bM HT_.out (by kernel_rfl)) (fun _ _ _ h => h) (Or.inl ⟨by rfl, ?_⟩) ?_ ?_
        rotate_left
        ·intro w'
         go_simp
         with_reducible rfl
        rotate_left
        ·simp only [Act.put, lsT, lsZ, lsS, bJ, bK]
         rfl
        refine bT (i := 23) (N := some 92) (v := undef) (a' := ?_) laws_FnKeys.d24 rfl rfl (bM HT_.out (by kernel_rfl)) (fun _ _ _ h => h) (Or.inr ⟨by rfl, rfl⟩) ?_ ?_
        rotate_left
        ·simp only [Act.put, lsT, lsZ, lsS, bJ, bK]
         rfl
        refine bT (i := 24) (N := some 93) (v := undef) (a' := ?_) laws_FnKeys.d25 rfl rfl (bM HT_.out (by kernel_rfl)) (fun _ _ _ h => h) (Or.inr ⟨by rfl, rfl⟩) ?_ ?_
        rotate_left
        ·simp only [Act.put, lsT, lsZ, lsS, bJ, bK]
         rfl
        refine bT (i := 25) (N := some 94) (v := undef) (a' := ?_) laws_FnKeys.d26 rfl rfl (bM HT_.out (by kernel_rfl)) (fun _ _ _ h => h) (Or.inr ⟨by rfl, rfl⟩) ?_ ?_
        rotate_left
        ·simp only [Act.put, lsT, lsZ, lsS, bJ, bK]
         rfl
        refine bT (i := 26) (N := some 95) (v := undef) (a' := ?_) laws_FnKeys.d27 rfl rfl (bM HT_.out (by kernel_rfl)) (fun _ _ _ h => h) (Or.inr ⟨by rfl, rfl⟩) ?_ ?_
        rotate_left
        ·simp only [Act.put, lsT, lsZ, lsS, bJ, bK]
         rfl
        refine bT (i := 27) (N := some 96) (v := undef) (a' := ?_) laws_FnKeys.d28 rfl rfl (bM HT_.out (by kernel_rfl)) (fun _ _ _ h => h) (Or.inr ⟨by rfl, rfl⟩) ?_ ?_
        rotate_left
        ·simp only [Act.put, lsT, lsZ, lsS, bJ, bK]
         rfl
        refine bT (i := 28) (N := some 97) (v := ?_) (a' := ?_) laws_FnKeys.d29 rfl rfl (bM HT_.out (by kernel_rfl)) (fun _ _ _ h => h) (Or.inl ⟨by rfl, ?_⟩) ?_ ?_
        rotate_left
        ·intro w'
         go_simp
         with_reducible rfl
        rotate_left
        ·simp only [Act.put, lsT, lsZ, lsS, bJ, bK]
         rfl
        refine done_ (done_of HT_.out (by kernel_rfl)) ?_
        try go_wp2
        go_meet
        case rel => exact ⟨_, (true), (by first | rfl | (simp; done) | (simp [*]; done)), H', ⟨by have := HJ10.out; have := HJ44.out; have := HJ57.out; first | omega | exact Nat.le_refl _⟩, ⟨by (with_reducible repeat (first | apply Kd.bE | apply Kd.bF | apply Kd.bG)); exact Kd.cA HO_3.out (fun _ hk => hk.1)⟩, ⟨by (with_reducible repeat (first | apply Kd.bE | apply Kd.bF | apply Kd.bG)); exact Kd.cA HO_5.out (fun _ hk => hk.1)⟩, ⟨by (with_reducible repeat (first | refine bkN ?_ _ | refine bkD ?_ | refine bkA ?_ _)); exact BK422.out⟩, ⟨by (with_reducible repeat (first | refine bkN ?_ _ | refine bkD ?_ | refine bkA ?_ _)); exact BK437.out⟩, ⟨by (with_reducible repeat (first | refine bkN ?_ _ | refine bkD ?_ | refine bkA ?_ _)); exact BK445.out⟩, ⟨by (with_reducible repeat (first | refine bkN ?_ _ | refine bkD ?_ | refine bkA ?_ _)); exact BK456.out⟩, ⟨by (with_reducible repeat (first | refine bkN ?_ _ | refine bkD ?_ | refine bkA ?_ _)); exact BK457.out⟩, ⟨by repeat (first | (with_reducible first | exact HB.out | apply aU | apply aM | apply aT | refine bwS ?_ GE422.out | refine bwS ?_ GE437.out | refine bwS ?_ GE445.out | refine bwS ?_ GE456.out | refine bwS ?_ GE457.out) | exact HB.out)⟩⟩
       case rest =>
        clear HC70
        try clear c1
        try clear p2
        try clear c3
        try clear c7
        try clear c11
        try clear c30
        try clear c31
        try clear c73
        try clear c75
        try clear c76
        try clear c77
        try clear c111
        try clear c111b0
        try clear c111b1
        obtain ⟨kq, x97_69, rfl, HA, HJ69, HO_3, HO_5, BK422, BK437, BK445, BK456, BK457, HB⟩ := hcut
        cases kq with
        | zero => exact absurd HA.out (by simp [laws_FnKeys.j3])
        | succ kj69 =>
         have H := HA.out
         clear HA
         simp only [laws_FnKeys.j3] at H
         by_cases c118 : x97_69 = true
         ·subst c118
          have H1 : (some false) = some r := by rw [if_pos rfl] at H; exact H
          clear H
          have H := H1
          clear H1
          obtain rfl := Option.some.inj H
          go_wp2
          go_ret
          exact ⟨by first | rfl | (simp [errW_none, errW_some] <;> rfl) | (simp [*, errW_none, errW_some] <;> rfl), by repeat (first | (with_reducible first | exact HB.out | apply aU | apply aM | apply aT | refine bwS ?_ GE422.out | refine bwS ?_ GE437.out | refine bwS ?_ GE445.out | refine bwS ?_ GE456.out | refine bwS ?_ GE457.out) | exact HB.out)⟩
         replace c118 := Bool.eq_false_iff.mpr c118
         subst c118
         have H1 : ((impl_KeyOk.f kj69 t417 t418 t419 t420 t421).bind fun t475 => (if t475 = true then ((impl_GetKey.f kj69 t423 (t414.length : Int)).bind fun bt476 => (if bt476.2.2.2.2.2.2 = true then (if (bt476.1 == t417 && (bt476.2.1 == t418 && (bt476.2.2.1 == t419 && (bt476.2.2.2.1 == t420 && (bt476.2.2.2.2.1 == t421))))) = true then (some (bt476.2.2.2.2.2.1 == (t423.length : Int))) else (some false)) else (some false))) else (some ((strOfNums t423).toList == (strOfNums t414).toList)))) = some r := by rw [if_neg (show ¬ (false = true) by decide)] at H; exact H
         clear H
         have H := H1
         clear H1
         replace H := lF H
         obtain ⟨t475, A1190, H⟩ := H
         replace H : (if t475 = true then ((impl_GetKey.f kj69 t423 (t414.length : Int)).bind fun bt476 => (if bt476.2.2.2.2.2.2 = true then (if (bt476.1 == t417 && (bt476.2.1 == t418 && (bt476.2.2.1 == t419 && (bt476.2.2.2.1 == t420 && (bt476.2.2.2.2.1 == t421))))) = true then (some (bt476.2.2.2.2.2.1 == (t423.length : Int))) else (some false)) else (some false))) else (some ((strOfNums t423).toList == (strOfNums t414).toList))) = some r := H
         have A119 := aK.mk A1190
         clear A1190
         by_cases c120 : t475 = true
         ·subst c120
          have H1 : ((impl_GetKey.f kj69 t423 (t414.length : Int)).bind fun bt476 => (if bt476.2.2.2.2.2.2 = true then (if (bt476.1 == t417 && (bt476.2.1 == t418 && (bt476.2.2.1 == t419 && (bt476.2.2.2.1 == t420 && (bt476.2.2.2.2.1 == t421))))) = true then (some (bt476.2.2.2.2.2.1 == (t423.length : Int))) else (some false)) else (some false))) = some r := by rw [if_pos rfl] at H; exact H
          clear H
          have H := H1
          clear H1
          replace H := lF H
          obtain ⟨⟨t476, t477, t478, t479, t480, t481, t482⟩, A1210, H⟩ := H
          replace H : (if t482 = true then (if (t476 == t417 && (t477 == t418 && (t478 == t419 && (t479 == t420 && (t480 == t421))))) = true then (some (t481 == (t423.length : Int))) else (some false)) else (some false)) = some r := H
          have A121 := aK.mk A1210
          clear A1210
          by_cases c122 : t482 = true
          ·subst c122
           have H1 : (if (t476 == t417 && (t477 == t418 && (t478 == t419 && (t479 == t420 && (t480 == t421))))) = true then (some (t481 == (t423.length : Int))) else (some false)) = some r := by rw [if_pos rfl] at H; exact H
           clear H
           have H := H1
           clear H1
           by_cases c123 : (t476 == t417 && (t477 == t418 && (t478 == t419 && (t479 == t420 && (t480 == t421))))) = true
           ·rw [if_pos c123] at H
            have c123b0 : (t476 == t417 && (t477 == t418 && (t478 == t419 && (t479 == t420 && (t480 == t421))))) = true := c123
            (try (have c123b1 : decide (t476 = t417 && (t477 == t418 && (t478 == t419 && (t479 == t420 && (t480 == t421))))) = true := by simpa using c123))
            (try (have c123b2 : (t476 == t417 && (t477 == t418 && (t478 == t419 && (t479 == t420 && (t480 == t421))))) = true := by simpa using c123))
            clear c123
            obtain rfl := Option.some.inj H
            have hnb124 := NB422_437.out
            have hnc124 := NB437_422.out
            have hnb125 := NB422_445.out
            have hnc125 := NB445_422.out
            have hnb126 := NB422_456.out
            have hnc126 := NB456_422.out
            have hnb127 := NB422_457.out
            have hnc127 := NB457_422.out
            have hcz128_0 : wc.cell? ⟨gb422, 0, none⟩ = some (.int .i64 t417) := (aQ BK422.out 0).trans rfl
            have hcz128_1 : wc.cell? ⟨gb422, 1, none⟩ = some (.int .i64 t418) := (aQ BK422.out 1).trans rfl
            have hcz128_2 : wc.cell? ⟨gb422, 2, none⟩ = some (.int .i64 t419) := (aQ BK422.out 2).trans rfl
            have hcz128_3 : wc.cell? ⟨gb422, 3, none⟩ = some (.int .i64 t420) := (aQ BK422.out 3).trans rfl
            have hcz128_4 : wc.cell? ⟨gb422, 4, none⟩ = some (.int .i64 t421) := (aQ BK422.out 4).trans rfl
            have hfz128_0 := aN BK422.out 0
            have hfz128_1 := aN BK422.out 1
            have hfz128_2 := aN BK422.out 2
            have hfz128_3 := aN BK422.out 3
            have hfz128_4 := aN BK422.out 4
            go_wp2_with (first | ((with_reducible refine bR (f := 30) rfl ?_); refine bX (some 99) rfl rfl Try.func30 (by kernel_rfl) rfl #[.agg #[.int .i64 t417, .int .i64 t418, .int .i64 t419, .int .i64 t420, .int .i64 t421]] rfl (by (try simp only [List.map_toArray, List.map_cons, List.map_nil]); first | done | rfl | (simp only [List.length_drop, List.length_take]; rfl)) ?_; (with_reducible refine (impl_KeyOk.calls kj69 t417 t418 t419 t420 t421 true _ A119.out).mono ?_); rintro e w129 ⟨rfl, hb⟩; refine ⟨_, rfl, ?_⟩; have n0_ := aK.mk (Kd.cB (by (with_reducible repeat (first | apply Kd.bE | apply Kd.bF | apply Kd.bG)); exact HO_3.out) hb); have n1_ := aK.mk (Kd.cB (by (with_reducible repeat (first | apply Kd.bE | apply Kd.bF | apply Kd.bG)); exact HO_5.out) hb); have n2_ := aK.mk (bC (g := gb422) (o := .cells #[.int .i64 t417, .int .i64 t418, .int .i64 t419, .int .i64 t420, .int .i64 t421] 27 (0, 0)) (by (with_reducible repeat (first | refine bkN ?_ _ | refine bkD ?_ | refine bkA ?_ _)); exact BK422.out) hb); have n3_ := aK.mk (bC (g := gb437) (o := .cells #[.int .i64 t430, .int .i64 t431, .int .i64 t432, .int .i64 t433, .int .i64 t434] 27 (0, 0)) (by (with_reducible repeat (first | refine bkN ?_ _ | refine bkD ?_ | refine bkA ?_ _)); exact BK437.out) hb); have n4_ := aK.mk (bC (g := gb445) (o := .cells #[.int .i64 t438, .int .i64 t439, .int .i64 t440, .int .i64 t441, .int .i64 t442] 27 (0, 0)) (by (with_reducible repeat (first | refine bkN ?_ _ | refine bkD ?_ | refine bkA ?_ _)); exact BK445.out) hb); have n5_ := aK.mk (bC (g := gb456) (o := .cells #[.int .i64 t446, .int .i64 t447, .int .i64 t448, .int .i64 t449, .int .i64 t450] 27 (0, 0)) (by (with_reducible repeat (first | refine bkN ?_ _ | refine bkD ?_ | refine bkA ?_ _)); exact BK456.out) hb); have n6_ := aK.mk (bC (g := gb457) (o := .cells #[.int .i64 t451, .int .i64 t452, .int .i64 t453, .int .i64 t454, .int .i64 t455] 27 (0, 0)) (by (with_reducible repeat (first | refine bkN ?_ _ | refine bkD ?_ | refine bkA ?_ _)); exact BK457.out) hb); have n7_ := aK.mk (bL (by repeat (first | (with_reducible first | exact HB.out | apply aU | apply aM | apply aT | refine bwS ?_ GE422.out | refine bwS ?_ GE437.out | refine bwS ?_ GE445.out | refine bwS ?_ GE456.out | refine bwS ?_ GE457.out) | exact HB.out)) hb); clear HO_3; clear HO_5; clear BK422; clear BK437; clear BK445; clear BK456; clear BK457; clear HB; have HO_3 := n0_; have HO_5 := n1_; have BK422 := n2_; have BK437 := n3_; have BK445 := n4_; have BK456 := n5_; have BK457 := n6_; have HB := n7_; clear n0_ n1_ n2_ n3_ n4_ n5_ n6_ n7_; (try clear hb); obtain ⟨Ao130, co130, eo130⟩ := Kd.R_slice HO_5.out; subst eo130) | ((with_reducible refine bR (f := 22) rfl ?_); refine bX (some 110) rfl rfl Try.func22 (by kernel_rfl) rfl #[.slice Ao130 t423.length co130, .int .i64 (t414.length : Int)] rfl (by (try simp only [List.map_toArray, List.map_cons, List.map_nil]); first | done | rfl | (simp only [List.length_drop, List.length_take]; rfl)) ?_; (with_reducible refine (impl_GetKey.calls kj69 _ _ t423 (t414.length : Int) t476 t477 t478 t479 t480 t481 true _ ?side1 ?side2 A121.out).mono ?_); (case side1 => repeat (first | exact (Kd.R_reads' HO_5.out).2.2 | (with_reducible refine Kd.cD ?_ _) | (with_reducible refine Kd.cC ?_ _) | (with_reducible refine Kd.C_drew ?_))); (case side2 => exact (Kd.R_reads' HO_5.out).2.1); rintro e w131 ⟨rfl, hb⟩; refine ⟨_, rfl, ?_⟩; have n0_ := aK.mk (Kd.cB (by (with_reducible repeat (first | apply Kd.bE | apply Kd.bF | apply Kd.bG)); exact HO_3.out) hb); have n1_ := aK.mk (Kd.cB (by (with_reducible repeat (first | apply Kd.bE | apply Kd.bF | apply Kd.bG)); exact HO_5.out) hb); have n2_ := aK.mk (bC (g := gb422) (o := .cells #[.int .i64 t417, .int .i64 t418, .int .i64 t419, .int .i64 t420, .int .i64 t421] 27 (0, 0)) (by (with_reducible repeat (first | refine bkN ?_ _ | refine bkD ?_ | refine bkA ?_ _)); exact BK422.out) hb); have n3_ := aK.mk (bC (g := gb437) (o := .cells #[.int .i64 t430, .int .i64 t431, .int .i64 t432, .int .i64 t433, .int .i64 t434] 27 (0, 0)) (by (with_reducible repeat (first | refine bkN ?_ _ | refine bkD ?_ | refine bkA ?_ _)); exact BK437.out) hb); have n4_ := aK.mk (bC (g := gb445) (o := .cells #[.int .i64 t438, .int .i64 t439, .int .i64 t440, .int .i64 t441, .int .i64 t442] 27 (0, 0)) (by (with_reducible repeat (first | refine bkN ?_ _ | refine bkD ?_ | refine bkA ?_ _)); exact BK445.out) hb); have n5_ := aK.mk (bC (g := gb456) (o := .cells #[.int .i64 t446, .int .i64 t447, .int .i64 t448, .int .i64 t449, .int .i64 t450] 27 (0, 0)) (by (with_reducible repeat (first | refine bkN ?_ _ | refine bkD ?_ | refine bkA ?_ _)); exact BK456.out) hb); have n6_ := aK.mk (bC (g := gb457) (o := .cells #[.int .i64 t451, .int .i64 t452, .int .i64 t453, .int .i64 t454, .int .i64 t455] 27 (0, 0)) (by (with_reducible repeat (first | refine bkN ?_ _ | refine bkD ?_ | refine bkA ?_ _)); exact BK457.out) hb); have n7_ := aK.mk (bL (by repeat (first | (with_reducible first | exact HB.out | apply aU | apply aM | apply aT | refine bwS ?_ GE422.out | refine bwS ?_ GE437.out | refine bwS ?_ GE445.out | refine bwS ?_ GE456.out | refine bwS ?_ GE457.out) | exact HB.out)) hb); clear HO_3; clear HO_5; clear BK422; clear BK437; clear BK445; clear BK456; clear BK457; clear HB; have HO_3 := n0_; have HO_5 := n1_; have BK422 := n2_; have BK437 := n3_; have BK445 := n4_; have BK456 := n5_; have BK457 := n6_; have HB := n7_; clear n0_ n1_ n2_ n3_ n4_ n5_ n6_ n7_; (try clear hb)) | ((with_reducible refine bV (N := 17) rfl ?_); (try (refine gate_guard (by rfl) ?_; dsimp only)); refine bZ ?hg (N := 17) ?hd (cs := #[.int .i64 0, .int .i64 0, .int .i64 0, .int .i64 0, .int .i64 0]) (t := 27) ?hr ?_; (case hd => rfl); (case hg => rfl); (case hr => first | (go_simp; done) | (go_simp; rfl)); intro gb483 hg w132 hbox hb; have n0_ := aK.mk (Kd.cB (by (with_reducible repeat (first | apply Kd.bE | apply Kd.bF | apply Kd.bG)); exact HO_3.out) hb); have n1_ := aK.mk (Kd.cB (by (with_reducible repeat (first | apply Kd.bE | apply Kd.bF | apply Kd.bG)); exact HO_5.out) hb); have n2_ := aK.mk (bC (g := gb422) (o := .cells #[.int .i64 t417, .int .i64 t418, .int .i64 t419, .int .i64 t420, .int .i64 t421] 27 (0, 0)) (by (with_reducible repeat (first | refine bkN ?_ _ | refine bkD ?_ | refine bkA ?_ _)); exact BK422.out) hb); have n3_ := aK.mk (bC (g := gb437) (o := .cells #[.int .i64 t430, .int .i64 t431, .int .i64 t432, .int .i64 t433, .int .i64 t434] 27 (0, 0)) (by (with_reducible repeat (first | refine bkN ?_ _ | refine bkD ?_ | refine bkA ?_ _)); exact BK437.out) hb); have n4_ := aK.mk (bC (g := gb445) (o := .cells #[.int .i64 t438, .int .i64 t439, .int .i64 t440, .int .i64 t441, .int .i64 t442] 27 (0, 0)) (by (with_reducible repeat (first | refine bkN ?_ _ | refine bkD ?_ | refine bkA ?_ _)); exact BK445.out) hb); have n5_ := aK.mk (bC (g := gb456) (o := .cells #[.int .i64 t446, .int .i64 t447, .int .i64 t448, .int .i64 t449, .int .i64 t450] 27 (0, 0)) (by (with_reducible repeat (first | refine bkN ?_ _ | refine bkD ?_ | refine bkA ?_ _)); exact BK456.out) hb); have n6_ := aK.mk (bC (g := gb457) (o := .cells #[.int .i64 t451, .int .i64 t452, .int .i64 t453, .int .i64 t454, .int .i64 t455] 27 (0, 0)) (by (with_reducible repeat (first | refine bkN ?_ _ | refine bkD ?_ | refine bkA ?_ _)); exact BK457.out) hb); have n7_ := aK.mk (bL (by repeat (first | (with_reducible first | exact HB.out | apply aU | apply aM | apply aT | refine bwS ?_ GE422.out | refine bwS ?_ GE437.out | refine bwS ?_ GE445.out | refine bwS ?_ GE456.out | refine bwS ?_ GE457.out) | exact HB.out)) hb); have n8_ := aK.mk (hbox); have n9_ := aK.mk ((by rw [hg]; exact (bN (by repeat (first | (with_reducible first | exact HB.out | apply aU | apply aM | apply aT | refine bwS ?_ GE422.out | refine bwS ?_ GE437.out | refine bwS ?_ GE445.out | refine bwS ?_ GE456.out | refine bwS ?_ GE457.out) | exact HB.out))) : w.heap.size ≤ gb483)); have n10_ := aK.mk ((by rw [hg]; exact (bN (by repeat (first | (with_reducible first | exact HB.out | apply aU | apply aM | apply aT | refine bwS ?_ GE422.out | refine bwS ?_ GE437.out | refine bwS ?_ GE445.out | refine bwS ?_ GE456.out | refine bwS ?_ GE457.out) | exact HB.out))) : w.heap.size ≤ gb483)); have n11_ := aK.mk ((by rw [hg]; exact Nat.ne_of_lt (bW (g := gb422) (o := .cells #[.int .i64 t417, .int .i64 t418, .int .i64 t419, .int .i64 t420, .int .i64 t421] 27 (0, 0)) (by (with_reducible repeat (first | refine bkN ?_ _ | refine bkD ?_ | refine bkA ?_ _)); exact BK422.out)) : gb422 ≠ gb483)); have n12_ := aK.mk ((by rw [hg]; exact Nat.ne_of_gt (bW (g := gb422) (o := .cells #[.int .i64 t417, .int .i64 t418, .int .i64 t419, .int .i64 t420, .int .i64 t421] 27 (0, 0)) (by (with_reducible repeat (first | refine bkN ?_ _ | refine bkD ?_ | refine bkA ?_ _)); exact BK422.out)) : gb483 ≠ gb422)); have n13_ := aK.mk ((by rw [hg]; exact Nat.ne_of_lt (bW (g := gb437) (o := .cells #[.int .i64 t430, .int .i64 t431, .int .i64 t432, .int .i64 t433, .int .i64 t434] 27 (0, 0)) (by (with_reducible repeat (first | refine bkN ?_ _ | refine bkD ?_ | refine bkA ?_ _)); exact BK437.out)) : gb437 ≠ gb483)); have n14_ := aK.mk ((by rw [hg]; exact Nat.ne_of_gt (bW (g := gb437) (o := .cells #[.int .i64 t430, .int .i64 t431, .int .i64 t432, .int .i64 t433, .int .i64 t434] 27 (0, 0)) (by (with_reducible repeat (first | refine bkN ?_ _ | refine bkD ?_ | refine bkA ?_ _)); exact BK437.out)) : gb483 ≠ gb437)); have n15_ := aK.mk ((by rw [hg]; exact Nat.ne_of_lt (bW (g := gb445) (o := .cells #[.int .i64 t438, .int .i64 t439, .int .i64 t440, .int .i64 t441, .int .i64 t442] 27 (0, 0)) (by (with_reducible repeat (first | refine bkN ?_ _ | refine bkD ?_ | refine bkA ?_ _)); exact BK445.out)) : gb445 ≠ gb483)); have n16_ := aK.mk ((by rw [hg]; exact Nat.ne_of_gt (bW (g := gb445) (o := .cells #[.int .i64 t438, .int .i64 t439, .int .i64 t440, .int .i64 t441, .int .i64 t442] 27 (0, 0)) (by (with_reducible repeat (first | refine bkN ?_ _ | refine bkD ?_ | refine bkA ?_ _)); exact BK445.out)) : gb483 ≠ gb445)); have n17_ := aK.mk ((by rw [hg]; exact Nat.ne_of_lt (bW (g := gb456) (o := .cells #[.int .i64 t446, .int .i64 t447, .int .i64 t448, .int .i64 t449, .int .i64 t450] 27 (0, 0)) (by (with_reducible repeat (first | refine bkN ?_ _ | refine bkD ?_ | refine bkA ?_ _)); exact BK456.out)) : gb456 ≠ gb483)); have n18_ := aK.mk ((by rw [hg]; exact Nat.ne_of_gt (bW (g := gb456) (o := .cells #[.int .i64 t446, .int .i64 t447, .int .i64 t448, .int .i64 t449, .int .i64 t450] 27 (0, 0)) (by (with_reducible repeat (first | refine bkN ?_ _ | refine bkD ?_ | refine bkA ?_ _)); exact BK456.out)) : gb483 ≠ gb456)); have n19_ := aK.mk ((by rw [hg]; exact Nat.ne_of_lt (bW (g := gb457) (o := .cells #[.int .i64 t451, .int .i64 t452, .int .i64 t453, .int .i64 t454, .int .i64 t455] 27 (0, 0)) (by (with_reducible repeat (first | refine bkN ?_ _ | refine bkD ?_ | refine bkA ?_ _)); exact BK457.out)) : gb457 ≠ gb483)); have n20_ := aK.mk ((by rw [hg]; exact Nat.ne_of_gt (bW (g := gb457) (o := .cells #[.int .i64 t451, .int .i64 t452, .int .i64 t453, .int .i64 t454, .int .i64 t455] 27 (0, 0)) (by (with_reducible repeat (first | refine bkN ?_ _ | refine bkD ?_ | refine bkA ?_ _)); exact BK457.out)) : gb483 ≠ gb457)); clear HO_3; clear HO_5; clear BK422; clear BK437; clear BK445; clear BK456; clear BK457; clear HB; have HO_3 := n0_; have HO_5 := n1_; have BK422 := n2_; have BK437 := n3_; have BK445 := n4_; have BK456 := n5_; have BK457 := n6_; have HB := n7_; have BK483 := n8_; have GW483 := n9_; have GE483 := n10_; have NB422_483 := n11_; have NB483_422 := n12_; have NB437_483 := n13_; have NB483_437 := n14_; have NB445_483 := n15_; have NB483_445 := n16_; have NB456_483 := n17_; have NB483_456 := n18_; have NB457_483 := n19_; have NB483_457 := n20_; clear n0_ n1_ n2_ n3_ n4_ n5_ n6_ n7_ n8_ n9_ n10_ n11_ n12_ n13_ n14_ n15_ n16_ n17_ n18_ n19_ n20_; clear hb hbox hg; have hnb133 := NB483_422.out; have hnc133 := NB422_483.out; have hnb134 := NB483_437.out; have hnc134 := NB437_483.out; have hnb135 := NB483_445.out; have hnc135 := NB445_483.out; have hnb136 := NB483_456.out; have hnc136 := NB456_483.out; have hnb137 := NB483_457.out; have hnc137 := NB457_483.out; have hcz138_0 : w132.cell? ⟨gb483, 0, none⟩ = some (.int .i64 0) := (aQ BK483.out 0).trans rfl; have hcz138_1 : w132.cell? ⟨gb483, 1, none⟩ = some (.int .i64 0) := (aQ BK483.out 1).trans rfl; have hcz138_2 : w132.cell? ⟨gb483, 2, none⟩ = some (.int .i64 0) := (aQ BK483.out 2).trans rfl; have hcz138_3 : w132.cell? ⟨gb483, 3, none⟩ = some (.int .i64 0) := (aQ BK483.out 3).trans rfl; have hcz138_4 : w132.cell? ⟨gb483, 4, none⟩ = some (.int .i64 0) := (aQ BK483.out 4).trans rfl; have hfz138_0 := aN BK483.out 0; have hfz138_1 := aN BK483.out 1; have hfz138_2 := aN BK483.out 2; have hfz138_3 := aN BK483.out 3; have hfz138_4 := aN BK483.out 4; have hcz139_0 : w132.cell? ⟨gb422, 0, none⟩ = some (.int .i64 t417) := (aQ BK422.out 0).trans rfl; have hcz139_1 : w132.cell? ⟨gb422, 1, none⟩ = some (.int .i64 t418) := (aQ BK422.out 1).trans rfl; have hcz139_2 : w132.cell? ⟨gb422, 2, none⟩ = some (.int .i64 t419) := (aQ BK422.out 2).trans rfl; have hcz139_3 : w132.cell? ⟨gb422, 3, none⟩ = some (.int .i64 t420) := (aQ BK422.out 3).trans rfl; have hcz139_4 : w132.cell? ⟨gb422, 4, none⟩ = some (.int .i64 t421) := (aQ BK422.out 4).trans rfl; have hfz139_0 := aN BK422.out 0; have hfz139_1 := aN BK422.out 1; have hfz139_2 := aN BK422.out 2; have hfz139_3 := aN BK422.out 3; have hfz139_4 := aN BK422.out 4))
            go_ret
            exact ⟨by first | rfl | (simp [errW_none, errW_some] <;> rfl) | (simp [*, errW_none, errW_some] <;> rfl), by repeat (first | (with_reducible first | exact HB.out | apply aU | apply aM | apply aT | refine bwS ?_ GE422.out | refine bwS ?_ GE437.out | refine bwS ?_ GE445.out | refine bwS ?_ GE456.out | refine bwS ?_ GE457.out | refine bwS ?_ GE483.out) | exact HB.out)⟩
           rw [if_neg c123] at H
           have c123b0 : (t476 == t417 && (t477 == t418 && (t478 == t419 && (t479 == t420 && (t480 == t421))))) = false := by simpa using c123
           (try (have c123b1 : decide (t476 = t417 && (t477 == t418 && (t478 == t419 && (t479 == t420 && (t480 == t421))))) = false := by simpa using c123))
           (try (have c123b2 : (t476 == t417 && (t477 == t418 && (t478 == t419 && (t479 == t420 && (t480 == t421))))) = false := by simpa using c123))
           (try (have c123b3 : ¬ (t476 = t417 && (t477 == t418 && (t478 == t419 && (t479 == t420 && (t480 == t421))))) := by simpa using c123))
           clear c123
           obtain rfl := Option.some.inj H
           have hnb140 := NB422_437.out
           have hnc140 := NB437_422.out
           have hnb141 := NB422_445.out
           have hnc141 := NB445_422.out
           have hnb142 := NB422_456.out
           have hnc142 := NB456_422.out
           have hnb143 := NB422_457.out
           have hnc143 := NB457_422.out
           have hcz144_0 : wc.cell? ⟨gb422, 0, none⟩ = some (.int .i64 t417) := (aQ BK422.out 0).trans rfl
           have hcz144_1 : wc.cell? ⟨gb422, 1, none⟩ = some (.int .i64 t418) := (aQ BK422.out 1).trans rfl
           have hcz144_2 : wc.cell? ⟨gb422, 2, none⟩ = some (.int .i64 t419) := (aQ BK422.out 2).trans rfl
           have hcz144_3 : wc.cell? ⟨gb422, 3, none⟩ = some (.int .i64 t420) := (aQ BK422.out 3).trans rfl
           have hcz144_4 : wc.cell? ⟨gb422, 4, none⟩ = some (.int .i64 t421) := (aQ BK422.out 4).trans rfl
           have hfz144_0 := aN BK422.out 0
           have hfz144_1 := aN BK422.out 1
           have hfz144_2 := aN BK422.out 2
           have hfz144_3 := aN BK422.out 3
           have hfz144_4 := aN BK422.out 4
           go_wp2_with (first | ((with_reducible refine bR (f := 30) rfl ?_); refine bX (some 99) rfl rfl Try.func30 (by kernel_rfl) rfl #[.agg #[.int .i64 t417, .int .i64 t418, .int .i64 t419, .int .i64 t420, .int .i64 t421]] rfl (by (try simp only [List.map_toArray, List.map_cons, List.map_nil]); first | done | rfl | (simp only [List.length_drop, List.length_take]; rfl)) ?_; (with_reducible refine (impl_KeyOk.calls kj69 t417 t418 t419 t420 t421 true _ A119.out).mono ?_); rintro e w145 ⟨rfl, hb⟩; refine ⟨_, rfl, ?_⟩; have n0_ := aK.mk (Kd.cB (by (with_reducible repeat (first | apply Kd.bE | apply Kd.bF | apply Kd.bG)); exact HO_3.out) hb); have n1_ := aK.mk (Kd.cB (by (with_reducible repeat (first | apply Kd.bE | apply Kd.bF | apply Kd.bG)); exact HO_5.out) hb); have n2_ := aK.mk (bC (g := gb422) (o := .cells #[.int .i64 t417, .int .i64 t418, .int .i64 t419, .int .i64 t420, .int .i64 t421] 27 (0, 0)) (by (with_reducible repeat (first | refine bkN ?_ _ | refine bkD ?_ | refine bkA ?_ _)); exact BK422.out) hb); have n3_ := aK.mk (bC (g := gb437) (o := .cells #[.int .i64 t430, .int .i64 t431, .int .i64 t432, .int .i64 t433, .int .i64 t434] 27 (0, 0)) (by (with_reducible repeat (first | refine bkN ?_ _ | refine bkD ?_ | refine bkA ?_ _)); exact BK437.out) hb); have n4_ := aK.mk (bC (g := gb445) (o := .cells #[.int .i64 t438, .int .i64 t439, .int .i64 t440, .int .i64 t441, .int .i64 t442] 27 (0, 0)) (by (with_reducible repeat (first | refine bkN ?_ _ | refine bkD ?_ | refine bkA ?_ _)); exact BK445.out) hb); have n5_ := aK.mk (bC (g := gb456) (o := .cells #[.int .i64 t446, .int .i64 t447, .int .i64 t448, .int .i64 t449, .int .i64 t450] 27 (0, 0)) (by (with_reducible repeat (first | refine bkN ?_ _ | refine bkD ?_ | refine bkA ?_ _)); exact BK456.out) hb); have n6_ := aK.mk (bC (g := gb457) (o := .cells #[.int .i64 t451, .int .i64 t452, .int .i64 t453, .int .i64 t454, .int .i64 t455] 27 (0, 0)) (by (with_reducible repeat (first | refine bkN ?_ _ | refine bkD ?_ | refine bkA ?_ _)); exact BK457.out) hb); have n7_ := aK.mk (bL (by repeat (first | (with_reducible first | exact HB.out | apply aU | apply aM | apply aT | refine bwS ?_ GE422.out | refine bwS ?_ GE437.out | refine bwS ?_ GE445.out | refine bwS ?_ GE456.out | refine bwS ?_ GE457.out) | exact HB.out)) hb); clear HO_3; clear HO_5; clear BK422; clear BK437; clear BK445; clear BK456; clear BK457; clear HB; have HO_3 := n0_; have HO_5 := n1_; have BK422 := n2_; have BK437 := n3_; have BK445 := n4_; have BK456 := n5_; have BK457 := n6_; have HB := n7_; clear n0_ n1_ n2_ n3_ n4_ n5_ n6_ n7_; (try clear hb); obtain ⟨Ao146, co146, eo146⟩ := Kd.R_slice HO_5.out; subst eo146) | ((with_reducible refine bR (f := 22) rfl ?_); refine bX (some 110) rfl rfl Try.func22 (by kernel_rfl) rfl #[.slice Ao146 t423.length co146, .int .i64 (t414.length : Int)] rfl (by (try simp only [List.map_toArray, List.map_cons, List.map_nil]); first | done | rfl | (simp only [List.length_drop, List.length_take]; rfl)) ?_; (with_reducible refine (impl_GetKey.calls kj69 _ _ t423 (t414.length : Int) t476 t477 t478 t479 t480 t481 true _ ?side1 ?side2 A121.out).mono ?_); (case side1 => repeat (first | exact (Kd.R_reads' HO_5.out).2.2 | (with_reducible refine Kd.cD ?_ _) | (with_reducible refine Kd.cC ?_ _) | (with_reducible refine Kd.C_drew ?_))); (case side2 => exact (Kd.R_reads' HO_5.out).2.1); rintro e w147 ⟨rfl, hb⟩; refine ⟨_, rfl, ?_⟩; have n0_ := aK.mk (Kd.cB (by (with_reducible repeat (first | apply Kd.bE | apply Kd.bF | apply Kd.bG)); exact HO_3.out) hb); have n1_ := aK.mk (Kd.cB (by (with_reducible repeat (first | apply Kd.bE | apply Kd.bF | apply Kd.bG)); exact HO_5.out) hb); have n2_ := aK.mk (bC (g := gb422) (o := .cells #[.int .i64 t417, .int .i64 t418, .int .i64 t419, .int .i64 t420, .int .i64 t421] 27 (0, 0)) (by (with_reducible repeat (first | refine bkN ?_ _ | refine bkD ?_ | refine bkA ?_ _)); exact BK422.out) hb); have n3_ := aK.mk (bC (g := gb437) (o := .cells #[.int .i64 t430, .int .i64 t431, .int .i64 t432, .int .i64 t433, .int .i64 t434] 27 (0, 0)) (by (with_reducible repeat (first | refine bkN ?_ _ | refine bkD ?_ | refine bkA ?_ _)); exact BK437.out) hb); have n4_ := aK.mk (bC (g := gb445) (o := .cells #[.int .i64 t438, .int .i64 t439, .int .i64 t440, .int .i64 t441, .int .i64 t442] 27 (0, 0)) (by (with_reducible repeat (first | refine bkN ?_ _ | refine bkD ?_ | refine bkA ?_ _)); exact BK445.out) hb); have n5_ := aK.mk (bC (g := gb456) (o := .cells #[.int .i64 t446, .int .i64 t447, .int .i64 t448, .int .i64 t449, .int .i64 t450] 27 (0, 0)) (by (with_reducible repeat (first | refine bkN ?_ _ | refine bkD ?_ | refine bkA ?_ _)); exact BK456.out) hb); have n6_ := aK.mk (bC (g := gb457) (o := .cells #[.int .i64 t451, .int .i64 t452, .int .i64 t453, .int .i64 t454, .int .i64 t455] 27 (0, 0)) (by (with_reducible repeat (first | refine bkN ?_ _ | refine bkD ?_ | refine bkA ?_ _)); exact BK457.out) hb); have n7_ := aK.mk (bL (by repeat (first | (with_reducible first | exact HB.out | apply aU | apply aM | apply aT | refine bwS ?_ GE422.out | refine bwS ?_ GE437.out | refine bwS ?_ GE445.out | refine bwS ?_ GE456.out | refine bwS ?_ GE457.out) | exact HB.out)) hb); clear HO_3; clear HO_5; clear BK422; clear BK437; clear BK445; clear BK456; clear BK457; clear HB; have HO_3 := n0_; have HO_5 := n1_; have BK422 := n2_; have BK437 := n3_; have BK445 := n4_; have BK456 := n5_; have BK457 := n6_; have HB := n7_; clear n0_ n1_ n2_ n3_ n4_ n5_ n6_ n7_; (try clear hb)) | ((with_reducible refine bV (N := 17) rfl ?_); (try (refine gate_guard (by rfl) ?_; dsimp only)); refine bZ ?hg (N := 17) ?hd (cs := #[.int .i64 0, .int .i64 0, .int .i64 0, .int .i64 0, .int .i64 0]) (t := 27) ?hr ?_; (case hd => rfl); (case hg => rfl); (case hr => first | (go_simp; done) | (go_simp; rfl)); intro gb483 hg w148 hbox hb; have n0_ := aK.mk (Kd.cB (by (with_reducible repeat (first | apply Kd.bE | apply Kd.bF | apply Kd.bG)); exact HO_3.out) hb); have n1_ := aK.mk (Kd.cB (by (with_reducible repeat (first | apply Kd.bE | apply Kd.bF | apply Kd.bG)); exact HO_5.out) hb); have n2_ := aK.mk (bC (g := gb422) (o := .cells #[.int .i64 t417, .int .i64 t418, .int .i64 t419, .int .i64 t420, .int .i64 t421] 27 (0, 0)) (by (with_reducible repeat (first | refine bkN ?_ _ | refine bkD ?_ | refine bkA ?_ _)); exact BK422.out) hb); have n3_ := aK.mk (bC (g := gb437) (o := .cells #[.int .i64 t430, .int .i64 t431, .int .i64 t432, .int .i64 t433, .int .i64 t434] 27 (0, 0)) (by (with_reducible repeat (first | refine bkN ?_ _ | refine bkD ?_ | refine bkA ?_ _)); exact BK437.out) hb); have n4_ := aK.mk (bC (g := gb445) (o := .cells #[.int .i64 t438, .int .i64 t439, .int .i64 t440, .int .i64 t441, .int .i64 t442] 27 (0, 0)) (by (with_reducible repeat (first | refine bkN ?_ _ | refine bkD ?_ | refine bkA ?_ _)); exact BK445.out) hb); have n5_ := aK.mk (bC (g := gb456) (o := .cells #[.int .i64 t446, .int .i64 t447, .int .i64 t448, .int .i64 t449, .int .i64 t450] 27 (0, 0)) (by (with_reducible repeat (first | refine bkN ?_ _ | refine bkD ?_ | refine bkA ?_ _)); exact BK456.out) hb); have n6_ := aK.mk (bC (g := gb457) (o := .cells #[.int .i64 t451, .int .i64 t452, .int .i64 t453, .int .i64 t454, .int .i64 t455] 27 (0, 0)) (by (with_reducible repeat (first | refine bkN ?_ _ | refine bkD ?_ | refine bkA ?_ _)); exact BK457.out) hb); have n7_ := aK.mk (bL (by repeat (first | (with_reducible first | exact HB.out | apply aU | apply aM | apply aT | refine bwS ?_ GE422.out | refine bwS ?_ GE437.out | refine bwS ?_ GE445.out | refine bwS ?_ GE456.out | refine bwS ?_ GE457.out) | exact HB.out)) hb); have n8_ := aK.mk (hbox); have n9_ := aK.mk ((by rw [hg]; exact (bN (by repeat (first | (with_reducible first | exact HB.out | apply aU | apply aM | apply aT | refine bwS ?_ GE422.out | refine bwS ?_ GE437.out | refine bwS ?_ GE445.out | refine bwS ?_ GE456.out | refine bwS ?_ GE457.out) | exact HB.out))) : w.heap.size ≤ gb483)); have n10_ := aK.mk ((by rw [hg]; exact (bN (by repeat (first | (with_reducible first | exact HB.out | apply aU | apply aM | apply aT | refine bwS ?_ GE422.out | refine bwS ?_ GE437.out | refine bwS ?_ GE445.out | refine bwS ?_ GE456.out | refine bwS ?_ GE457.out) | exact HB.out))) : w.heap.size ≤ gb483)); have n11_ := aK.mk ((by rw [hg]; exact Nat.ne_of_lt (bW (g := gb422) (o := .cells #[.int .i64 t417, .int .i64 t418, .int .i64 t419, .int .i64 t420, .int .i64 t421] 27 (0, 0)) (by (with_reducible repeat (first | refine bkN ?_ _ | refine bkD ?_ | refine bkA ?_ _)); exact BK422.out)) : gb422 ≠ gb483)); have n12_ := aK.mk ((by rw [hg]; exact Nat.ne_of_gt (bW (g := gb422) (o := .cells #[.int .i64 t417, .int .i64 t418, .int .i64 t419, .int .i64 t420, .int .i64 t421] 27 (0, 0)) (by (with_reducible repeat (first | refine bkN ?_ _ | refine bkD ?_ | refine bkA ?_ _)); exact BK422.out)) : gb483 ≠ gb422)); have n13_ := aK.mk ((by rw [hg]; exact Nat.ne_of_lt (bW (g := gb437) (o := .cells #[.int .i64 t430, .int .i64 t431, .int .i64 t432, .int .i64 t433, .int .i64 t434] 27 (0, 0)) (by (with_reducible repeat (first | refine bkN ?_ _ | refine bkD ?_ | refine bkA ?_ _)); exact BK437.out)) : gb437 ≠ gb483)); have n14_ := aK.mk ((by rw [hg]; exact Nat.ne_of_gt (bW (g := gb437) (o := .cells #[.int .i64 t430, .int .i64 t431, .int .i64 t432, .int .i64 t433, .int .i64 t434] 27 (0, 0)) (by (with_reducible repeat (first | refine bkN ?_ _ | refine bkD ?_ | refine bkA ?_ _)); exact BK437.out)) : gb483 ≠ gb437)); have n15_ := aK.mk ((by rw [hg]; exact Nat.ne_of_lt (bW (g := gb445) (o := .cells #[.int .i64 t438, .int .i64 t439, .int .i64 t440, .int .i64 t441, .int .i64 t442] 27 (0, 0)) (by (with_reducible repeat (first | refine bkN ?_ _ | refine bkD ?_ | refine bkA ?_ _)); exact BK445.out)) : gb445 ≠ gb483)); have n16_ := aK.mk ((by rw [hg]; exact Nat.ne_of_gt (bW (g := gb445) (o := .cells #[.int .i64 t438, .int .i64 t439, .int .i64 t440, .int .i64 t441, .int .i64 t442] 27 (0, 0)) (by (with_reducible repeat (first | refine bkN ?_ _ | refine bkD ?_ | refine bkA ?_ _)); exact BK445.out)) : gb483 ≠ gb445)); have n17_ := aK.mk ((by rw [hg]; exact Nat.ne_of_lt (bW (g := gb456) (o := .cells #[.int .i64 t446, .int .i64 t447, .int .i64 t448, .int .i64 t449, .int .i64 t450] 27 (0, 0)) (by (with_reducible repeat (first | refine bkN ?_ _ | refine bkD ?_ | refine bkA ?_ _)); exact BK456.out)) : gb456 ≠ gb483)); have n18_ := aK.mk ((by rw [hg]; exact Nat.ne_of_gt (bW (g := gb456) (o := .cells #[.int .i64 t446, .int .i64 t447, .int .i64 t448, .int .i64 t449, .int .i64 t450] 27 (0, 0)) (by (with_reducible repeat (first | refine bkN ?_ _ | refine bkD ?_ | refine bkA ?_ _)); exact BK456.out)) : gb483 ≠ gb456)); have n19_ := aK.mk ((by rw [hg]; exact Nat.ne_of_lt (bW (g := gb457) (o := .cells #[.int .i64 t451, .int .i64 t452, .int .i64 t453, .int .i64 t454, .int .i64 t455] 27 (0, 0)) (by (with_reducible repeat (first | refine bkN ?_ _ | refine bkD ?_ | refine bkA ?_ _)); exact BK457.out)) : gb457 ≠ gb483)); have n20_ := aK.mk ((by rw [hg]; exact Nat.ne_of_gt (bW (g := gb457) (o := .cells #[.int .i64 t451, .int .i64 t452, .int .i64 t453, .int .i64 t454, .int .i64 t455] 27 (0, 0)) (by (with_reducible repeat (first | refine bkN ?_ _ | refine bkD ?_ | refine bkA ?_ _)); exact BK457.out)) : gb483 ≠ gb457)); clear HO_3; clear HO_5; clear BK422; clear BK437; clear BK445; clear BK456; clear BK457; clear HB; have HO_3 := n0_; have HO_5 := n1_; have BK422 := n2_; have BK437 := n3_; have BK445 := n4_; have BK456 := n5_; have BK457 := n6_; have HB := n7_; have BK483 := n8_; have GW483 := n9_; have GE483 := n10_; have NB422_483 := n11_; have NB483_422 := n12_; have NB437_483 := n13_; have NB483_437 := n14_; have NB445_483 := n15_; have NB483_445 := n16_; have NB456_483 := n17_; have NB483_456 := n18_; have NB457_483 := n19_; have NB483_457 := n20_; clear n0_ n1_ n2_ n3_ n4_ n5_ n6_ n7_ n8_ n9_ n10_ n11_ n12_ n13_ n14_ n15_ n16_ n17_ n18_ n19_ n20_; clear hb hbox hg; have hnb149 := NB483_422.out; have hnc149 := NB422_483.out; have hnb150 := NB483_437.out; have hnc150 := NB437_483.out; have hnb151 := NB483_445.out; have hnc151 := NB445_483.out; have hnb152 := NB483_456.out; have hnc152 := NB456_483.out; have hnb153 := NB483_457.out; have hnc153 := NB457_483.out; have hcz154_0 : w148.cell? ⟨gb483, 0, none⟩ = some (.int .i64 0) := (aQ BK483.out 0).trans rfl; have hcz154_1 : w148.cell? ⟨gb483, 1, none⟩ = some (.int .i64 0) := (aQ BK483.out 1).trans rfl; have hcz154_2 : w148.cell? ⟨gb483, 2, none⟩ = some (.int .i64 0) := (aQ BK483.out 2).trans rfl; have hcz154_3 : w148.cell? ⟨gb483, 3, none⟩ = some (.int .i64 0) := (aQ BK483.out 3).trans rfl; have hcz154_4 : w148.cell? ⟨gb483, 4, none⟩ = some (.int .i64 0) := (aQ BK483.out 4).trans rfl; have hfz154_0 := aN BK483.out 0; have hfz154_1 := aN BK483.out 1; have hfz154_2 := aN BK483.out 2; have hfz154_3 := aN BK483.out 3; have hfz154_4 := aN BK483.out 4; have hcz155_0 : w148.cell? ⟨gb422, 0, none⟩ = some (.int .i64 t417) := (aQ BK422.out 0).trans rfl; have hcz155_1 : w148.cell? ⟨gb422, 1, none⟩ = some (.int .i64 t418) := (aQ BK422.out 1).trans rfl; have hcz155_2 : w148.cell? ⟨gb422, 2, none⟩ = some (.int .i64 t419) := (aQ BK422.out 2).trans rfl; have hcz155_3 : w148.cell? ⟨gb422, 3, none⟩ = some (.int .i64 t420) := (aQ BK422.out 3).trans rfl; have hcz155_4 : w148.cell? ⟨gb422, 4, none⟩ = some (.int .i64 t421) := (aQ BK422.out 4).trans rfl; have hfz155_0 := aN BK422.out 0; have hfz155_1 := aN BK422.out 1; have hfz155_2 := aN BK422.out 2; have hfz155_3 := aN BK422.out 3; have hfz155_4 := aN BK422.out 4))
           go_ret
           exact ⟨by first | rfl | (simp [errW_none, errW_some] <;> rfl) | (simp [*, errW_none, errW_some] <;> rfl), by repeat (first | (with_reducible first | exact HB.out | apply aU | apply aM | apply aT | refine bwS ?_ GE422.out | refine bwS ?_ GE437.out | refine bwS ?_ GE445.out | refine bwS ?_ GE456.out | refine bwS ?_ GE457.out | refine bwS ?_ GE483.out) | exact HB.out)⟩
          replace c122 := Bool.eq_false_iff.mpr c122
          subst c122
          have H1 : (some false) = some r := by rw [if_neg (show ¬ (false = true) by decide)] at H; exact H
          clear H
          have H := H1
          clear H1
          obtain rfl := Option.some.inj H
          have hnb156 := NB422_437.out
          have hnc156 := NB437_422.out
          have hnb157 := NB422_445.out
          have hnc157 := NB445_422.out
          have hnb158 := NB422_456.out
          have hnc158 := NB456_422.out
          have hnb159 := NB422_457.out
          have hnc159 := NB457_422.out
          have hcz160_0 : wc.cell? ⟨gb422, 0, none⟩ = some (.int .i64 t417) := (aQ BK422.out 0).trans rfl
          have hcz160_1 : wc.cell? ⟨gb422, 1, none⟩ = some (.int .i64 t418) := (aQ BK422.out 1).trans rfl
          have hcz160_2 : wc.cell? ⟨gb422, 2, none⟩ = some (.int .i64 t419) := (aQ BK422.out 2).trans rfl
          have hcz160_3 : wc.cell? ⟨gb422, 3, none⟩ = some (.int .i64 t420) := (aQ BK422.out 3).trans rfl
          have hcz160_4 : wc.cell? ⟨gb422, 4, none⟩ = some (.int .i64 t421) := (aQ BK422.out 4).trans rfl
          have hfz160_0 := aN BK422.out 0
          have hfz160_1 := aN BK422.out 1
          have hfz160_2 := aN BK422.out 2
          have hfz160_3 := aN BK422.out 3
          have hfz160_4 := aN BK422.out 4
          go_wp2_with (first | ((with_reducible refine bR (f := 30) rfl ?_); refine bX (some 99) rfl rfl Try.func30 (by kernel_rfl) rfl #[.agg #[.int .i64 t417, .int .i64 t418, .int .i64 t419, .int .i64 t420, .int .i64 t421]] rfl (by (try simp only [List.map_toArray, List.map_cons, List.map_nil]); first | done | rfl | (simp only [List.length_drop, List.length_take]; rfl)) ?_; (with_reducible refine (impl_KeyOk.calls kj69 t417 t418 t419 t420 t421 true _ A119.out).mono ?_); rintro e w161 ⟨rfl, hb⟩; refine ⟨_, rfl, ?_⟩; have n0_ := aK.mk (Kd.cB (by (with_reducible repeat (first | apply Kd.bE | apply Kd.bF | apply Kd.bG)); exact HO_3.out) hb); have n1_ := aK.mk (Kd.cB (by (with_reducible repeat (first | apply Kd.bE | apply Kd.bF | apply Kd.bG)); exact HO_5.out) hb); have n2_ := aK.mk (bC (g := gb422) (o := .cells #[.int .i64 t417, .int .i64 t418, .int .i64 t419, .int .i64 t420, .int .i64 t421] 27 (0, 0)) (by (with_reducible repeat (first | refine bkN ?_ _ | refine bkD ?_ | refine bkA ?_ _)); exact BK422.out) hb); have n3_ := aK.mk (bC (g := gb437) (o := .cells #[.int .i64 t430, .int .i64 t431, .int .i64 t432, .int .i64 t433, .int .i64 t434] 27 (0, 0)) (by (with_reducible repeat (first | refine bkN ?_ _ | refine bkD ?_ | refine bkA ?_ _)); exact BK437.out) hb); have n4_ := aK.mk (bC (g := gb445) (o := .cells #[.int .i64 t438, .int .i64 t439, .int .i64 t440, .int .i64 t441, .int .i64 t442] 27 (0, 0)) (by (with_reducible repeat (first | refine bkN ?_ _ | refine bkD ?_ | refine bkA ?_ _)); exact BK445.out) hb); have n5_ := aK.mk (bC (g := gb456) (o := .cells #[.int .i64 t446, .int .i64 t447, .int .i64 t448, .int .i64 t449, .int .i64 t450] 27 (0, 0)) (by (with_reducible repeat (first | refine bkN ?_ _ | refine bkD ?_ | refine bkA ?_ _)); exact BK456.out) hb); have n6_ := aK.mk (bC (g := gb457) (o := .cells #[.int .i64 t451, .int .i64 t452, .int .i64 t453, .int .i64 t454, .int .i64 t455] 27 (0, 0)) (by (with_reducible repeat (first | refine bkN ?_ _ | refine bkD ?_ | refine bkA ?_ _)); exact BK457.out) hb); have n7_ := aK.mk (bL (by repeat (first | (with_reducible first | exact HB.out | apply aU | apply aM | apply aT | refine bwS ?_ GE422.out | refine bwS ?_ GE437.out | refine bwS ?_ GE445.out | refine bwS ?_ GE456.out | refine bwS ?_ GE457.out) | exact HB.out)) hb); clear HO_3; clear HO_5; clear BK422; clear BK437; clear BK445; clear BK456; clear BK457; clear HB; have HO_3 := n0_; have HO_5 := n1_; have BK422 := n2_; have BK437 := n3_; have BK445 := n4_; have BK456 := n5_; have BK457 := n6_; have HB := n7_; clear n0_ n1_ n2_ n3_ n4_ n5_ n6_ n7_; (try clear hb); obtain ⟨Ao162, co162, eo162⟩ := Kd.R_slice HO_5.out; subst eo162) | ((with_reducible refine bR (f := 22) rfl ?_); refine bX (some 110) rfl rfl Try.func22 (by kernel_rfl) rfl #[.slice Ao162 t423.length co162, .int .i64 (t414.length : Int)] rfl (by (try simp only [List.map_toArray, List.map_cons, List.map_nil]); first | done | rfl | (simp only [List.length_drop, List.length_take]; rfl)) ?_; (with_reducible refine (impl_GetKey.calls kj69 _ _ t423 (t414.length : Int) t476 t477 t478 t479 t480 t481 false _ ?side1 ?side2 A121.out).mono ?_); (case side1 => repeat (first | exact (Kd.R_reads' HO_5.out).2.2 | (with_reducible refine Kd.cD ?_ _) | (with_reducible refine Kd.cC ?_ _) | (with_reducible refine Kd.C_drew ?_))); (case side2 => exact (Kd.R_reads' HO_5.out).2.1); rintro e w163 ⟨rfl, hb⟩; refine ⟨_, rfl, ?_⟩; have n0_ := aK.mk (Kd.cB (by (with_reducible repeat (first | apply Kd.bE | apply Kd.bF | apply Kd.bG)); exact HO_3.out) hb); have n1_ := aK.mk (Kd.cB (by (with_reducible repeat (first | apply Kd.bE | apply Kd.bF | apply Kd.bG)); exact HO_5.out) hb); have n2_ := aK.mk (bC (g := gb422) (o := .cells #[.int .i64 t417, .int .i64 t418, .int .i64 t419, .int .i64 t420, .int .i64 t421] 27 (0, 0)) (by (with_reducible repeat (first | refine bkN ?_ _ | refine bkD ?_ | refine bkA ?_ _)); exact BK422.out) hb); have n3_ := aK.mk (bC (g := gb437) (o := .cells #[.int .i64 t430, .int .i64 t431, .int .i64 t432, .int .i64 t433, .int .i64 t434] 27 (0, 0)) (by (with_reducible repeat (first | refine bkN ?_ _ | refine bkD ?_ | refine bkA ?_ _)); exact BK437.out) hb); have n4_ := aK.mk (bC (g := gb445) (o := .cells #[.int .i64 t438, .int .i64 t439, .int .i64 t440, .int .i64 t441, .int .i64 t442] 27 (0, 0)) (by (with_reducible repeat (first | refine bkN ?_ _ | refine bkD ?_ | refine bkA ?_ _)); exact BK445.out) hb); have n5_ := aK.mk (bC (g := gb456) (o := .cells #[.int .i64 t446, .int .i64 t447, .int .i64 t448, .int .i64 t449, .int .i64 t450] 27 (0, 0)) (by (with_reducible repeat (first | refine bkN ?_ _ | refine bkD ?_ | refine bkA ?_ _)); exact BK456.out) hb); have n6_ := aK.mk (bC (g := gb457) (o := .cells #[.int .i64 t451, .int .i64 t452, .int .i64 t453, .int .i64 t454, .int .i64 t455] 27 (0, 0)) (by (with_reducible repeat (first | refine bkN ?_ _ | refine bkD ?_ | refine bkA ?_ _)); exact BK457.out) hb); have n7_ := aK.mk (bL (by repeat (first | (with_reducible first | exact HB.out | apply aU | apply aM | apply aT | refine bwS ?_ GE422.out | refine bwS ?_ GE437.out | refine bwS ?_ GE445.out | refine bwS ?_ GE456.out | refine bwS ?_ GE457.out) | exact HB.out)) hb); clear HO_3; clear HO_5; clear BK422; clear BK437; clear BK445; clear BK456; clear BK457; clear HB; have HO_3 := n0_; have HO_5 := n1_; have BK422 := n2_; have BK437 := n3_; have BK445 := n4_; have BK456 := n5_; have BK457 := n6_; have HB := n7_; clear n0_ n1_ n2_ n3_ n4_ n5_ n6_ n7_; (try clear hb)) | ((with_reducible refine bV (N := 17) rfl ?_); (try (refine gate_guard (by rfl) ?_; dsimp only)); refine bZ ?hg (N := 17) ?hd (cs := #[.int .i64 0, .int .i64 0, .int .i64 0, .int .i64 0, .int .i64 0]) (t := 27) ?hr ?_; (case hd => rfl); (case hg => rfl); (case hr => first | (go_simp; done) | (go_simp; rfl)); intro gb483 hg w164 hbox hb; have n0_ := aK.mk (Kd.cB (by (with_reducible repeat (first | apply Kd.bE | apply Kd.bF | apply Kd.bG)); exact HO_3.out) hb); have n1_ := aK.mk (Kd.cB (by (with_reducible repeat (first | apply Kd.bE | apply Kd.bF | apply Kd.bG)); exact HO_5.out) hb); have n2_ := aK.mk (bC (g := gb422) (o := .cells #[.int .i64 t417, .int .i64 t418, .int .i64 t419, .int .i64 t420, .int .i64 t421] 27 (0, 0)) (by (with_reducible repeat (first | refine bkN ?_ _ | refine bkD ?_ | refine bkA ?_ _)); exact BK422.out) hb); have n3_ := aK.mk (bC (g := gb437) (o := .cells #[.int .i64 t430, .int .i64 t431, .int .i64 t432, .int .i64 t433, .int .i64 t434] 27 (0, 0)) (by (with_reducible repeat (first | refine bkN ?_ _ | refine bkD ?_ | refine bkA ?_ _)); exact BK437.out) hb); have n4_ := aK.mk (bC (g := gb445) (o := .cells #[.int .i64 t438, .int .i64 t439, .int .i64 t440, .int .i64 t441, .int .i64 t442] 27 (0, 0)) (by (with_reducible repeat (first | refine bkN ?_ _ | refine bkD ?_ | refine bkA ?_ _)); exact BK445.out) hb); have n5_ := aK.mk (bC (g := gb456) (o := .cells #[.int .i64 t446, .int .i64 t447, .int .i64 t448, .int .i64 t449, .int .i64 t450] 27 (0, 0)) (by (with_reducible repeat (first | refine bkN ?_ _ | refine bkD ?_ | refine bkA ?_ _)); exact BK456.out) hb); have n6_ := aK.mk (bC (g := gb457) (o := .cells #[.int .i64 t451, .int .i64 t452, .int .i64 t453, .int .i64 t454, .int .i64 t455] 27 (0, 0)) (by (with_reducible repeat (first | refine bkN ?_ _ | refine bkD ?_ | refine bkA ?_ _)); exact BK457.out) hb); have n7_ := aK.mk (bL (by repeat (first | (with_reducible first | exact HB.out | apply aU | apply aM | apply aT | refine bwS ?_ GE422.out | refine bwS ?_ GE437.out | refine bwS ?_ GE445.out | refine bwS ?_ GE456.out | refine bwS ?_ GE457.out) | exact HB.out)) hb); have n8_ := aK.mk (hbox); have n9_ := aK.mk ((by rw [hg]; exact (bN (by repeat (first | (with_reducible first | exact HB.out | apply aU | apply aM | apply aT | refine bwS ?_ GE422.out | refine bwS ?_ GE437.out | refine bwS ?_ GE445.out | refine bwS ?_ GE456.out | refine bwS ?_ GE457.out) | exact HB.out))) : w.heap.size ≤ gb483)); have n10_ := aK.mk ((by rw [hg]; exact (bN (by repeat (first | (with_reducible first | exact HB.out | apply aU | apply aM | apply aT | refine bwS ?_ GE422.out | refine bwS ?_ GE437.out | refine bwS ?_ GE445.out | refine bwS ?_ GE456.out | refine bwS ?_ GE457.out) | exact HB.out))) : w.heap.size ≤ gb483)); have n11_ := aK.mk ((by rw [hg]; exact Nat.ne_of_lt (bW (g := gb422) (o := .cells #[.int .i64 t417, .int .i64 t418, .int .i64 t419, .int .i64 t420, .int .i64 t421] 27 (0, 0)) (by (with_reducible repeat (first | refine bkN ?_ _ | refine bkD ?_ | refine bkA ?_ _)); exact BK422.out)) : gb422 ≠ gb483)); have n12_ := aK.mk ((by rw [hg]; exact Nat.ne_of_gt (bW (g := gb422) (o := .cells #[.int .i64 t417, .int .i64 t418, .int .i64 t419, .int .i64 t420, .int .i64 t421] 27 (0, 0)) (by (with_reducible repeat (first | refine bkN ?_ _ | refine bkD ?_ | refine bkA ?_ _)); exact BK422.out)) : gb483 ≠ gb422)); have n13_ := aK.mk ((by rw [hg]; exact Nat.ne_of_lt (bW (g := gb437) (o := .cells #[.int .i64 t430, .int .i64 t431, .int .i64 t432, .int .i64 t433, .int .i64 t434] 27 (0, 0)) (by (with_reducible repeat (first | refine bkN ?_ _ | refine bkD ?_ | refine bkA ?_ _)); exact BK437.out)) : gb437 ≠ gb483)); have n14_ := aK.mk ((by rw [hg]; exact Nat.ne_of_gt (bW (g := gb437) (o := .cells #[.int .i64 t430, .int .i64 t431, .int .i64 t432, .int .i64 t433, .int .i64 t434] 27 (0, 0)) (by (with_reducible repeat (first | refine bkN ?_ _ | refine bkD ?_ | refine bkA ?_ _)); exact BK437.out)) : gb483 ≠ gb437)); have n15_ := aK.mk ((by rw [hg]; exact Nat.ne_of_lt (bW (g := gb445) (o := .cells #[.int .i64 t438, .int .i64 t439, .int .i64 t440, .int .i64 t441, .int .i64 t442] 27 (0, 0)) (by (with_reducible repeat (first | refine bkN ?_ _ | refine bkD ?_ | refine bkA ?_ _)); exact BK445.out)) : gb445 ≠ gb483)); have n16_ := aK.mk ((by rw [hg]; exact Nat.ne_of_gt (bW (g := gb445) (o := .cells #[.int .i64 t438, .int .i64 t439, .int .i64 t440, .int .i64 t441, .int .i64 t442] 27 (0, 0)) (by (with_reducible repeat (first | refine bkN ?_ _ | refine bkD ?_ | refine bkA ?_ _)); exact BK445.out)) : gb483 ≠ gb445)); have n17_ := aK.mk ((by rw [hg]; exact Nat.ne_of_lt (bW (g := gb456) (o := .cells #[.int .i64 t446, .int .i64 t447, .int .i64 t448, .int .i64 t449, .int .i64 t450] 27 (0, 0)) (by (with_reducible repeat (first | refine bkN ?_ _ | refine bkD ?_ | refine bkA ?_ _)); exact BK456.out)) : gb456 ≠ gb483)); have n18_ := aK.mk ((by rw [hg]; exact Nat.ne_of_gt (bW (g := gb456) (o := .cells #[.int .i64 t446, .int .i64 t447, .int .i64 t448, .int .i64 t449, .int .i64 t450] 27 (0, 0)) (by (with_reducible repeat (first | refine bkN ?_ _ | refine bkD ?_ | refine bkA ?_ _)); exact BK456.out)) : gb483 ≠ gb456)); have n19_ := aK.mk ((by rw [hg]; exact Nat.ne_of_lt (bW (g := gb457) (o := .cells #[.int .i64 t451, .int .i64 t452, .int .i64 t453, .int .i64 t454, .int .i64 t455] 27 (0, 0)) (by (with_reducible repeat (first | refine bkN ?_ _ | refine bkD ?_ | refine bkA ?_ _)); exact BK457.out)) : gb457 ≠ gb483)); have n20_ := aK.mk ((by rw [hg]; exact Nat.ne_of_gt (bW (g := gb457) (o := .cells #[.int .i64 t451, .int .i64 t452, .int .i64 t453, .int .i64 t454, .int .i64 t455] 27 (0, 0)) (by (with_reducible repeat (first | refine bkN ?_ _ | refine bkD ?_ | refine bkA ?_ _)); exact BK457.out)) : gb483 ≠ gb457)); clear HO_3; clear HO_5; clear BK422; clear BK437; clear BK445; clear BK456; clear BK457; clear HB; have HO_3 := n0_; have HO_5 := n1_; have BK422 := n2_; have BK437 := n3_; have BK445 := n4_; have BK456 := n5_; have BK457 := n6_; have HB := n7_; have BK483 := n8_; have GW483 := n9_; have GE483 := n10_; have NB422_483 := n11_; have NB483_422 := n12_; have NB437_483 := n13_; have NB483_437 := n14_; have NB445_483 := n15_; have NB483_445 := n16_; have NB456_483 := n17_; have NB483_456 := n18_; have NB457_483 := n19_; have NB483_457 := n20_; clear n0_ n1_ n2_ n3_ n4_ n5_ n6_ n7_ n8_ n9_ n10_ n11_ n12_ n13_ n14_ n15_ n16_ n17_ n18_ n19_ n20_; clear hb hbox hg; have hnb165 := NB483_422.out; have hnc165 := NB422_483.out; have hnb166 := NB483_437.out; have hnc166 := NB437_483.out; have hnb167 := NB483_445.out; have hnc167 := NB445_483.out; have hnb168 := NB483_456.out; have hnc168 := NB456_483.out; have hnb169 := NB483_457.out; have hnc169 := NB457_483.out; have hcz170_0 : w164.cell? ⟨gb483, 0, none⟩ = some (.int .i64 0) := (aQ BK483.out 0).trans rfl; have hcz170_1 : w164.cell? ⟨gb483, 1, none⟩ = some (.int .i64 0) := (aQ BK483.out 1).trans rfl; have hcz170_2 : w164.cell? ⟨gb483, 2, none⟩ = some (.int .i64 0) := (aQ BK483.out 2).trans rfl; have hcz170_3 : w164.cell? ⟨gb483, 3, none⟩ = some (.int .i64 0) := (aQ BK483.out 3).trans rfl; have hcz170_4 : w164.cell? ⟨gb483, 4, none⟩ = some (.int .i64 0) := (aQ BK483.out 4).trans rfl; have hfz170_0 := aN BK483.out 0; have hfz170_1 := aN BK483.out 1; have hfz170_2 := aN BK483.out 2; have hfz170_3 := aN BK483.out 3; have hfz170_4 := aN BK483.out 4))
          go_ret
          exact ⟨by first | rfl | (simp [errW_none, errW_some] <;> rfl) | (simp [*, errW_none, errW_some] <;> rfl), by repeat (first | (with_reducible first | exact HB.out | apply aU | apply aM | apply aT | refine bwS ?_ GE422.out | refine bwS ?_ GE437.out | refine bwS ?_ GE445.out | refine bwS ?_ GE456.out | refine bwS ?_ GE457.out | refine bwS ?_ GE483.out) | exact HB.out)⟩
         replace c120 := Bool.eq_false_iff.mpr c120
         subst c120
         have H1 : (some ((strOfNums t423).toList == (strOfNums t414).toList)) = some r := by rw [if_neg (show ¬ (false = true) by decide)] at H; exact H
         clear H
         have H := H1
         clear H1
         obtain rfl := Option.some.inj H
         have hnb171 := NB422_437.out
         have hnc171 := NB437_422.out
         have hnb172 := NB422_445.out
         have hnc172 := NB445_422.out
         have hnb173 := NB422_456.out
         have hnc173 := NB456_422.out
         have hnb174 := NB422_457.out
         have hnc174 := NB457_422.out
         have hcz175_0 : wc.cell? ⟨gb422, 0, none⟩ = some (.int .i64 t417) := (aQ BK422.out 0).trans rfl
         have hcz175_1 : wc.cell? ⟨gb422, 1, none⟩ = some (.int .i64 t418) := (aQ BK422.out 1).trans rfl
         have hcz175_2 : wc.cell? ⟨gb422, 2, none⟩ = some (.int .i64 t419) := (aQ BK422.out 2).trans rfl
         have hcz175_3 : wc.cell? ⟨gb422, 3, none⟩ = some (.int .i64 t420) := (aQ BK422.out 3).trans rfl
         have hcz175_4 : wc.cell? ⟨gb422, 4, none⟩ = some (.int .i64 t421) := (aQ BK422.out 4).trans rfl
         have hfz175_0 := aN BK422.out 0
         have hfz175_1 := aN BK422.out 1
         have hfz175_2 := aN BK422.out 2
         have hfz175_3 := aN BK422.out 3
         have hfz175_4 := aN BK422.out 4
         go_wp2_with (first | ((with_reducible refine bR (f := 30) rfl ?_); refine bX (some 99) rfl rfl Try.func30 (by kernel_rfl) rfl #[.agg #[.int .i64 t417, .int .i64 t418, .int .i64 t419, .int .i64 t420, .int .i64 t421]] rfl (by (try simp only [List.map_toArray, List.map_cons, List.map_nil]); first | done | rfl | (simp only [List.length_drop, List.length_take]; rfl)) ?_; (with_reducible refine (impl_KeyOk.calls kj69 t417 t418 t419 t420 t421 false _ A119.out).mono ?_); rintro e w176 ⟨rfl, hb⟩; refine ⟨_, rfl, ?_⟩; have n0_ := aK.mk (Kd.cB (by (with_reducible repeat (first | apply Kd.bE | apply Kd.bF | apply Kd.bG)); exact HO_3.out) hb); have n1_ := aK.mk (Kd.cB (by (with_reducible repeat (first | apply Kd.bE | apply Kd.bF | apply Kd.bG)); exact HO_5.out) hb); have n2_ := aK.mk (bC (g := gb422) (o := .cells #[.int .i64 t417, .int .i64 t418, .int .i64 t419, .int .i64 t420, .int .i64 t421] 27 (0, 0)) (by (with_reducible repeat (first | refine bkN ?_ _ | refine bkD ?_ | refine bkA ?_ _)); exact BK422.out) hb); have n3_ := aK.mk (bC (g := gb437) (o := .cells #[.int .i64 t430, .int .i64 t431, .int .i64 t432, .int .i64 t433, .int .i64 t434] 27 (0, 0)) (by (with_reducible repeat (first | refine bkN ?_ _ | refine bkD ?_ | refine bkA ?_ _)); exact BK437.out) hb); have n4_ := aK.mk (bC (g := gb445) (o := .cells #[.int .i64 t438, .int .i64 t439, .int .i64 t440, .int .i64 t441, .int .i64 t442] 27 (0, 0)) (by (with_reducible repeat (first | refine bkN ?_ _ | refine bkD ?_ | refine bkA ?_ _)); exact BK445.out) hb); have n5_ := aK.mk (bC (g := gb456) (o := .cells #[.int .i64 t446, .int .i64 t447, .int .i64 t448, .int .i64 t449, .int .i64 t450] 27 (0, 0)) (by (with_reducible repeat (first | refine bkN ?_ _ | refine bkD ?_ | refine bkA ?_ _)); exact BK456.out) hb); have n6_ := aK.mk (bC (g := gb457) (o := .cells #[.int .i64 t451, .int .i64 t452, .int .i64 t453, .int .i64 t454, .int .i64 t455] 27 (0, 0)) (by (with_reducible repeat (first | refine bkN ?_ _ | refine bkD ?_ | refine bkA ?_ _)); exact BK457.out) hb); have n7_ := aK.mk (bL (by repeat (first | (with_reducible first | exact HB.out | apply aU | apply aM | apply aT | refine bwS ?_ GE422.out | refine bwS ?_ GE437.out | refine bwS ?_ GE445.out | refine bwS ?_ GE456.out | refine bwS ?_ GE457.out) | exact HB.out)) hb); clear HO_3; clear HO_5; clear BK422; clear BK437; clear BK445; clear BK456; clear BK457; clear HB; have HO_3 := n0_; have HO_5 := n1_; have BK422 := n2_; have BK437 := n3_; have BK445 := n4_; have BK456 := n5_; have BK457 := n6_; have HB := n7_; clear n0_ n1_ n2_ n3_ n4_ n5_ n6_ n7_; (try clear hb); have hcv177 := own_string (P := Try.prog) Try.underlying22 Try.underlying5 Try.underlying9 (Kd.own_of_R HO_5.out); have hcv178 := own_string (P := Try.prog) Try.underlying22 Try.underlying5 Try.underlying9 (Kd.own_of_R HO_3.out)))
         go_ret
         exact ⟨by first | rfl | (simp [errW_none, errW_some] <;> rfl) | (simp [*, errW_none, errW_some] <;> rfl), by repeat (first | (with_reducible first | exact HB.out | apply aU | apply aM | apply aT | refine bwS ?_ GE422.out | refine bwS ?_ GE437.out | refine bwS ?_ GE445.out | refine bwS ?_ GE456.out | refine bwS ?_ GE457.out) | exact HB.out)⟩
/-- THE ONE PURE STATEMENT of laws_FnKeys: yours. -/
def laws_FnKeys.Pure : Prop := ∀ (l0 : List Int), l0.length ≤ maxLen → l0.length * 1 ≤ 140737488351232 → (∀ x ∈ l0, (Lit.int .u8 x).wf = true) → ∃ k, laws_FnKeys.f k l0 = some true
end Go.Proofs.Ytkaoiaolbhklnaa.PFnKeys
