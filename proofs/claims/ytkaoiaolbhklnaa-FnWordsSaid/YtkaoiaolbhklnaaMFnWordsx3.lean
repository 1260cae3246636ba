/- Plain functions, one for each Go function that the law reaches, and the proof that the machine's call comes to their answer; each theorem says its conditions itself. -/
import Derived.Test.YtkaoiaolbhklnaaMFnWordsx0
import Derived.Test.YtkaoiaolbhklnaaMFnWordsx1
import Derived.Test.YtkaoiaolbhklnaaMFnWordsx2
namespace Go.Proofs.Ytkaoiaolbhklnaa.PFnWords
open Go.RowKit Go.Proofs.YtkaoiaolbhklnaaW.PrintWords Go.Proofs.YtkaoiaolbhklnaaW.PrintLast Go.Proofs.YtkaoiaolbhklnaaW.PrintMore
attribute [local go_sem] max2_int min2_int max_two min_two max_three min_three max_four min_four   -- for this text's walks alone
set_option linter.unusedVariables false
set_option linter.unusedSimpArgs false

/-! ### laws_FnWords: function 6 -/
def laws_FnWords.j0 : Nat → List Int → ByteArray → List Int → Bool → Option (Bool)
  | 0, _, _, _, _ => none
  | k + 1, x12, x13, x14, x85 => if x85 = true then (some false) else (if (x13.size : Int) > 60 then (some ((strOfNums x14).toList == (strOfNums x12).toList)) else ((impl_GetText.f x14 (x12.length : Int)).bind fun bt259 => (if 0 ≤ (wrap64 ((x14.length : Int) - 1)) then (if (wrap64 ((x14.length : Int) - 1)) ≤ (x14.length : Int) then ((impl_GetText.f (x14.take ((wrap64 ((x14.length : Int) - 1)) : Int).toNat) (x12.length : Int)).bind fun bt266 => (if bt259.2.2 = true then (if bt259.1.toList = x13.toList then (if bt259.2.1 = (x14.length : Int) then (some (!bt266.2.2)) else (some false)) else (some false)) else (some false))) else (none)) else (none))))
def laws_FnWords.f (k : Nat) (l0 : List Int) : Option (Bool) := (laws_big.f l0).bind fun t231 => (if t231 = true then (some true) else ((spec_DrawPutW.f k l0).bind fun bt232 => ((impl_PutW.f k bt232.1 bt232.2).bind fun t236 => ((impl_GetW.f t236 (bt232.1.length : Int)).bind fun bt239 => (if 0 ≤ (wrap64 ((t236.length : Int) - 1)) then (if (wrap64 ((t236.length : Int) - 1)) ≤ (t236.length : Int) then ((impl_GetW.f (t236.take ((wrap64 ((t236.length : Int) - 1)) : Int).toNat) (bt232.1.length : Int)).bind fun bt246 => ((spec_DrawPutText.f k l0).bind fun bt249 => ((impl_PutText.f k bt249.1 bt249.2).bind fun t253 => ((spec_DrawNameOk.f k l0).bind fun t256 => ((impl_NameOk.f k t256).bind fun t257 => ((spec_NameOk.f k t256).bind fun t258 => (if (t257 != t258) = true then (laws_FnWords.j0 k bt249.1 bt249.2 t253 true) else (if bt239.2.2 = true then (if bt239.1 = (Go.bits .and .i64 bt232.2 65535) then (if bt239.2.1 = (t236.length : Int) then (laws_FnWords.j0 k bt249.1 bt249.2 t253 bt246.2.2) else (laws_FnWords.j0 k bt249.1 bt249.2 t253 true)) else (laws_FnWords.j0 k bt249.1 bt249.2 t253 true)) else (laws_FnWords.j0 k bt249.1 bt249.2 t253 true))))))))) else (none)) else (none))))))
theorem laws_FnWords.mono_l : ∀ k, (∀ y0 y1 y2 y3, LeO (laws_FnWords.j0 k y0 y1 y2 y3) (laws_FnWords.j0 (k + 1) y0 y1 y2 y3))
  | 0 => fun _ _ _ _ r h => by simp [laws_FnWords.j0] at h
  | k + 1 => by
    have ih0 := laws_FnWords.mono_l k
    · intro y0 y1 y2 y3
      unfold laws_FnWords.j0
      repeat' first
      | (with_reducible exact ih0 _ _ _ _)
      | (with_reducible exact impl_NameOk.mono _ _)
      | (with_reducible exact impl_PutText.mono _ _ _)
      | (with_reducible exact impl_PutW.mono _ _ _)
      | (with_reducible exact spec_DrawNameOk.mono _ _)
      | (with_reducible exact spec_DrawPutText.mono _ _)
      | (with_reducible exact spec_DrawPutW.mono _ _)
      | (with_reducible exact spec_NameOk.mono _ _)
      | (with_reducible exact LeO.refl _)
      | (with_reducible exact LeO.none _)
      | (with_reducible refine LeO.ite ?_ ?_)
      | (with_reducible refine LeO.bind ?_ (fun _ => ?_))
      | exact ih0 _ _ _ _
      | exact impl_NameOk.mono _ _
      | exact impl_PutText.mono _ _ _
      | exact impl_PutW.mono _ _ _
      | exact spec_DrawNameOk.mono _ _
      | exact spec_DrawPutText.mono _ _
      | exact spec_DrawPutW.mono _ _
      | exact spec_NameOk.mono _ _
      | exact LeO.none _
      | refine LeO.ite ?_ ?_
      | refine LeO.bind ?_ (fun _ => ?_)
theorem laws_FnWords.mono : ∀ a0 k, LeO (laws_FnWords.f k a0) (laws_FnWords.f (k + 1) a0) := by
  intro a0 k
  have ih0 := laws_FnWords.mono_l k
  unfold laws_FnWords.f
  repeat' first
      | (with_reducible exact ih0 _ _ _ _)
      | (with_reducible exact impl_NameOk.mono _ _)
      | (with_reducible exact impl_PutText.mono _ _ _)
      | (with_reducible exact impl_PutW.mono _ _ _)
      | (with_reducible exact spec_DrawNameOk.mono _ _)
      | (with_reducible exact spec_DrawPutText.mono _ _)
      | (with_reducible exact spec_DrawPutW.mono _ _)
      | (with_reducible exact spec_NameOk.mono _ _)
      | (with_reducible exact LeO.refl _)
      | (with_reducible exact LeO.none _)
      | (with_reducible refine LeO.ite ?_ ?_)
      | (with_reducible refine LeO.bind ?_ (fun _ => ?_))
      | exact ih0 _ _ _ _
      | exact impl_NameOk.mono _ _
      | exact impl_PutText.mono _ _ _
      | exact impl_PutW.mono _ _ _
      | exact spec_DrawNameOk.mono _ _
      | exact spec_DrawPutText.mono _ _
      | exact spec_DrawPutW.mono _ _
      | exact spec_NameOk.mono _ _
      | exact LeO.none _
      | refine LeO.ite ?_ ?_
      | refine LeO.bind ?_ (fun _ => ?_)
set_option maxHeartbeats 8000000 in
set_option maxRecDepth 100000 in
theorem laws_FnWords.calls (k : Nat) (A0 : Option Addr) (c0 : Nat) (l0 : List Int) (r : Bool) (w : World) (hr0 : Kd.C (Kd.int .u8) w A0 l0.length l0) (hc0 : l0.length ≤ c0) (h : laws_FnWords.f k l0 = some r) :
    Calls Try.prog 6 #[.slice A0 l0.length c0] w fun e w' => e = .returned (.bool r) ∧ Below w.heap.size w w' := by
  have HR0 := Aside0.mk hr0
  have HC0 := Aside0.mk hc0
  clear hr0 hc0
  have HB := Aside0.mk (Below.refl w.heap.size w)
  have H : ((laws_big.f l0).bind fun t231 => (if t231 = true then (some true) else ((spec_DrawPutW.f k l0).bind fun bt232 => ((impl_PutW.f k bt232.1 bt232.2).bind fun t236 => ((impl_GetW.f t236 (bt232.1.length : Int)).bind fun bt239 => (if 0 ≤ (wrap64 ((t236.length : Int) - 1)) then (if (wrap64 ((t236.length : Int) - 1)) ≤ (t236.length : Int) then ((impl_GetW.f (t236.take ((wrap64 ((t236.length : Int) - 1)) : Int).toNat) (bt232.1.length : Int)).bind fun bt246 => ((spec_DrawPutText.f k l0).bind fun bt249 => ((impl_PutText.f k bt249.1 bt249.2).bind fun t253 => ((spec_DrawNameOk.f k l0).bind fun t256 => ((impl_NameOk.f k t256).bind fun t257 => ((spec_NameOk.f k t256).bind fun t258 => (if (t257 != t258) = true then (laws_FnWords.j0 k bt249.1 bt249.2 t253 true) else (if bt239.2.2 = true then (if bt239.1 = (Go.bits .and .i64 bt232.2 65535) then (if bt239.2.1 = (t236.length : Int) then (laws_FnWords.j0 k bt249.1 bt249.2 t253 bt246.2.2) else (laws_FnWords.j0 k bt249.1 bt249.2 t253 true)) else (laws_FnWords.j0 k bt249.1 bt249.2 t253 true)) else (laws_FnWords.j0 k bt249.1 bt249.2 t253 true))))))))) else (none)) else (none))))))) = some r := h
  clear h
  replace H := Option.bind_eq_some_iff.mp H
  obtain ⟨t231, A20, H⟩ := H
  replace H : (if t231 = true then (some true) else ((spec_DrawPutW.f k l0).bind fun bt232 => ((impl_PutW.f k bt232.1 bt232.2).bind fun t236 => ((impl_GetW.f t236 (bt232.1.length : Int)).bind fun bt239 => (if 0 ≤ (wrap64 ((t236.length : Int) - 1)) then (if (wrap64 ((t236.length : Int) - 1)) ≤ (t236.length : Int) then ((impl_GetW.f (t236.take ((wrap64 ((t236.length : Int) - 1)) : Int).toNat) (bt232.1.length : Int)).bind fun bt246 => ((spec_DrawPutText.f k l0).bind fun bt249 => ((impl_PutText.f k bt249.1 bt249.2).bind fun t253 => ((spec_DrawNameOk.f k l0).bind fun t256 => ((impl_NameOk.f k t256).bind fun t257 => ((spec_NameOk.f k t256).bind fun t258 => (if (t257 != t258) = true then (laws_FnWords.j0 k bt249.1 bt249.2 t253 true) else (if bt239.2.2 = true then (if bt239.1 = (Go.bits .and .i64 bt232.2 65535) then (if bt239.2.1 = (t236.length : Int) then (laws_FnWords.j0 k bt249.1 bt249.2 t253 bt246.2.2) else (laws_FnWords.j0 k bt249.1 bt249.2 t253 true)) else (laws_FnWords.j0 k bt249.1 bt249.2 t253 true)) else (laws_FnWords.j0 k bt249.1 bt249.2 t253 true))))))))) else (none)) else (none)))))) = some r := H
  have A2 := Aside0.mk A20
  clear A20
  by_cases c3 : t231 = true
  · subst c3
    have H1 : (some true) = some r := by rw [if_pos rfl] at H; exact H
    clear H
    have H := H1
    clear H1
    obtain rfl := Option.some.inj H
    go_enter Try.func6, Try.ntmps6
    go_wp2_with (first | ((with_reducible refine gate_callee (f := 24) rfl ?_); refine goesL_ (some 23) rfl rfl Try.func24 (by kernel_rfl) rfl #[.slice A0 l0.length c0] rfl (by (try simp only [List.map_toArray, List.map_cons, List.map_nil]); first | done | rfl | (simp only [List.length_drop, List.length_take]; rfl)) ?_; (with_reducible refine (laws_big.calls _ _ l0 true _ ?side1 ?side2 A2.out).mono ?_); (case side1 => repeat (first | exact HR0.out | (with_reducible refine Kd.C_alloc ?_ _) | (with_reducible refine Kd.C_drewN ?_ _) | (with_reducible refine Kd.C_drew ?_))); (case side2 => exact HC0.out); rintro e w' ⟨rfl, ⟨nd, rfl⟩⟩; refine ⟨_, rfl, ?_⟩))
    go_ret
    exact ⟨by first | rfl | (simp [errW_none, errW_some] <;> rfl) | (simp [*, errW_none, errW_some] <;> rfl), by repeat (first | (with_reducible first | exact HB.out | apply below_alloc | apply pw_below_drewN | apply below_drew1) | exact HB.out)⟩
  · replace c3 := Bool.eq_false_iff.mpr c3
    subst c3
    have H1 : ((spec_DrawPutW.f k l0).bind fun bt232 => ((impl_PutW.f k bt232.1 bt232.2).bind fun t236 => ((impl_GetW.f t236 (bt232.1.length : Int)).bind fun bt239 => (if 0 ≤ (wrap64 ((t236.length : Int) - 1)) then (if (wrap64 ((t236.length : Int) - 1)) ≤ (t236.length : Int) then ((impl_GetW.f (t236.take ((wrap64 ((t236.length : Int) - 1)) : Int).toNat) (bt232.1.length : Int)).bind fun bt246 => ((spec_DrawPutText.f k l0).bind fun bt249 => ((impl_PutText.f k bt249.1 bt249.2).bind fun t253 => ((spec_DrawNameOk.f k l0).bind fun t256 => ((impl_NameOk.f k t256).bind fun t257 => ((spec_NameOk.f k t256).bind fun t258 => (if (t257 != t258) = true then (laws_FnWords.j0 k bt249.1 bt249.2 t253 true) else (if bt239.2.2 = true then (if bt239.1 = (Go.bits .and .i64 bt232.2 65535) then (if bt239.2.1 = (t236.length : Int) then (laws_FnWords.j0 k bt249.1 bt249.2 t253 bt246.2.2) else (laws_FnWords.j0 k bt249.1 bt249.2 t253 true)) else (laws_FnWords.j0 k bt249.1 bt249.2 t253 true)) else (laws_FnWords.j0 k bt249.1 bt249.2 t253 true))))))))) else (none)) else (none))))) = some r := by rw [if_neg (show ¬ (false = true) by decide)] at H; exact H
    clear H
    have H := H1
    clear H1
    replace H := Option.bind_eq_some_iff.mp H
    obtain ⟨⟨t232, t233⟩, A40, H⟩ := H
    replace H : ((impl_PutW.f k t232 t233).bind fun t236 => ((impl_GetW.f t236 (t232.length : Int)).bind fun bt239 => (if 0 ≤ (wrap64 ((t236.length : Int) - 1)) then (if (wrap64 ((t236.length : Int) - 1)) ≤ (t236.length : Int) then ((impl_GetW.f (t236.take ((wrap64 ((t236.length : Int) - 1)) : Int).toNat) (t232.length : Int)).bind fun bt246 => ((spec_DrawPutText.f k l0).bind fun bt249 => ((impl_PutText.f k bt249.1 bt249.2).bind fun t253 => ((spec_DrawNameOk.f k l0).bind fun t256 => ((impl_NameOk.f k t256).bind fun t257 => ((spec_NameOk.f k t256).bind fun t258 => (if (t257 != t258) = true then (laws_FnWords.j0 k bt249.1 bt249.2 t253 true) else (if bt239.2.2 = true then (if bt239.1 = (Go.bits .and .i64 t233 65535) then (if bt239.2.1 = (t236.length : Int) then (laws_FnWords.j0 k bt249.1 bt249.2 t253 bt246.2.2) else (laws_FnWords.j0 k bt249.1 bt249.2 t253 true)) else (laws_FnWords.j0 k bt249.1 bt249.2 t253 true)) else (laws_FnWords.j0 k bt249.1 bt249.2 t253 true))))))))) else (none)) else (none)))) = some r := H
    have A4 := Aside0.mk A40
    clear A40
    replace H := Option.bind_eq_some_iff.mp H
    obtain ⟨t236, A50, H⟩ := H
    replace H : ((impl_GetW.f t236 (t232.length : Int)).bind fun bt239 => (if 0 ≤ (wrap64 ((t236.length : Int) - 1)) then (if (wrap64 ((t236.length : Int) - 1)) ≤ (t236.length : Int) then ((impl_GetW.f (t236.take ((wrap64 ((t236.length : Int) - 1)) : Int).toNat) (t232.length : Int)).bind fun bt246 => ((spec_DrawPutText.f k l0).bind fun bt249 => ((impl_PutText.f k bt249.1 bt249.2).bind fun t253 => ((spec_DrawNameOk.f k l0).bind fun t256 => ((impl_NameOk.f k t256).bind fun t257 => ((spec_NameOk.f k t256).bind fun t258 => (if (t257 != t258) = true then (laws_FnWords.j0 k bt249.1 bt249.2 t253 true) else (if bt239.2.2 = true then (if bt239.1 = (Go.bits .and .i64 t233 65535) then (if bt239.2.1 = (t236.length : Int) then (laws_FnWords.j0 k bt249.1 bt249.2 t253 bt246.2.2) else (laws_FnWords.j0 k bt249.1 bt249.2 t253 true)) else (laws_FnWords.j0 k bt249.1 bt249.2 t253 true)) else (laws_FnWords.j0 k bt249.1 bt249.2 t253 true))))))))) else (none)) else (none))) = some r := H
    have A5 := Aside0.mk A50
    clear A50
    replace H := Option.bind_eq_some_iff.mp H
    obtain ⟨⟨t239, t240, t241⟩, A60, H⟩ := H
    replace H : (if 0 ≤ (wrap64 ((t236.length : Int) - 1)) then (if (wrap64 ((t236.length : Int) - 1)) ≤ (t236.length : Int) then ((impl_GetW.f (t236.take ((wrap64 ((t236.length : Int) - 1)) : Int).toNat) (t232.length : Int)).bind fun bt246 => ((spec_DrawPutText.f k l0).bind fun bt249 => ((impl_PutText.f k bt249.1 bt249.2).bind fun t253 => ((spec_DrawNameOk.f k l0).bind fun t256 => ((impl_NameOk.f k t256).bind fun t257 => ((spec_NameOk.f k t256).bind fun t258 => (if (t257 != t258) = true then (laws_FnWords.j0 k bt249.1 bt249.2 t253 true) else (if t241 = true then (if t239 = (Go.bits .and .i64 t233 65535) then (if t240 = (t236.length : Int) then (laws_FnWords.j0 k bt249.1 bt249.2 t253 bt246.2.2) else (laws_FnWords.j0 k bt249.1 bt249.2 t253 true)) else (laws_FnWords.j0 k bt249.1 bt249.2 t253 true)) else (laws_FnWords.j0 k bt249.1 bt249.2 t253 true))))))))) else (none)) else (none)) = some r := H
    have A6 := Aside0.mk A60
    clear A60
    obtain ⟨ji7, hji7⟩ : ∃ j_ : Int, (wrap64 ((t236.length : Int) - 1)) = j_ := ⟨_, rfl⟩
    replace H : (if 0 ≤ (ji7) then (if (ji7) ≤ (t236.length : Int) then ((impl_GetW.f (t236.take ((ji7) : Int).toNat) (t232.length : Int)).bind fun bt246 => ((spec_DrawPutText.f k l0).bind fun bt249 => ((impl_PutText.f k bt249.1 bt249.2).bind fun t253 => ((spec_DrawNameOk.f k l0).bind fun t256 => ((impl_NameOk.f k t256).bind fun t257 => ((spec_NameOk.f k t256).bind fun t258 => (if (t257 != t258) = true then (laws_FnWords.j0 k bt249.1 bt249.2 t253 true) else (if t241 = true then (if t239 = (Go.bits .and .i64 t233 65535) then (if t240 = (t236.length : Int) then (laws_FnWords.j0 k bt249.1 bt249.2 t253 bt246.2.2) else (laws_FnWords.j0 k bt249.1 bt249.2 t253 true)) else (laws_FnWords.j0 k bt249.1 bt249.2 t253 true)) else (laws_FnWords.j0 k bt249.1 bt249.2 t253 true))))))))) else (none)) else (none)) = some r := by first | (rw [hji7] at H; exact H) | (simp only [hji7] at H ⊢; exact H)
    (try rw [hji7] at A2)
    (try rw [hji7] at A4)
    (try rw [hji7] at A5)
    (try rw [hji7] at A6)
    have hji7w : (IntKind.i64.wrap ((t236.length : Int) - 1)) = ji7 := (i64_w _).trans hji7
    by_cases c8 : 0 ≤ (ji7)
    · rw [if_pos c8] at H
      have c8b0 := eq_true c8
      have c8b1 : decide (0 ≤ (ji7)) = true := decide_eq_true c8
      clear c8
      by_cases c9 : (ji7) ≤ (t236.length : Int)
      · rw [if_pos c9] at H
        have c9b0 := eq_true c9
        have c9b1 : decide ((ji7) ≤ (t236.length : Int)) = true := decide_eq_true c9
        clear c9
        obtain ⟨y242, hy242⟩ : ∃ y_ : List Int, y_ = (t236.take ((ji7) : Int).toNat) := ⟨_, rfl⟩
        replace H : ((impl_GetW.f y242 (t232.length : Int)).bind fun bt246 => ((spec_DrawPutText.f k l0).bind fun bt249 => ((impl_PutText.f k bt249.1 bt249.2).bind fun t253 => ((spec_DrawNameOk.f k l0).bind fun t256 => ((impl_NameOk.f k t256).bind fun t257 => ((spec_NameOk.f k t256).bind fun t258 => (if (t257 != t258) = true then (laws_FnWords.j0 k bt249.1 bt249.2 t253 true) else (if t241 = true then (if t239 = (Go.bits .and .i64 t233 65535) then (if t240 = (t236.length : Int) then (laws_FnWords.j0 k bt249.1 bt249.2 t253 bt246.2.2) else (laws_FnWords.j0 k bt249.1 bt249.2 t253 true)) else (laws_FnWords.j0 k bt249.1 bt249.2 t253 true)) else (laws_FnWords.j0 k bt249.1 bt249.2 t253 true))))))))) = some r := by first | (rw [hy242]; with_reducible exact H) | (have H2_ := (Option.bind_some _ _).symm.trans H; rw [hy242]; with_reducible exact H2_) | (have H2_ := (Option.bind_some _ _).symm.trans H; with_reducible exact H2_) | with_reducible exact H | (rw [hy242]; exact H) | exact H
        have Ny242 := Aside0.mk hy242
        clear hy242
        replace H := Option.bind_eq_some_iff.mp H
        obtain ⟨⟨t246, t247, t248⟩, A100, H⟩ := H
        replace H : ((spec_DrawPutText.f k l0).bind fun bt249 => ((impl_PutText.f k bt249.1 bt249.2).bind fun t253 => ((spec_DrawNameOk.f k l0).bind fun t256 => ((impl_NameOk.f k t256).bind fun t257 => ((spec_NameOk.f k t256).bind fun t258 => (if (t257 != t258) = true then (laws_FnWords.j0 k bt249.1 bt249.2 t253 true) else (if t241 = true then (if t239 = (Go.bits .and .i64 t233 65535) then (if t240 = (t236.length : Int) then (laws_FnWords.j0 k bt249.1 bt249.2 t253 t248) else (laws_FnWords.j0 k bt249.1 bt249.2 t253 true)) else (laws_FnWords.j0 k bt249.1 bt249.2 t253 true)) else (laws_FnWords.j0 k bt249.1 bt249.2 t253 true)))))))) = some r := H
        have A10 := Aside0.mk A100
        clear A100
        replace H := Option.bind_eq_some_iff.mp H
        obtain ⟨⟨t249, t250⟩, A110, H⟩ := H
        replace H : ((impl_PutText.f k t249 t250).bind fun t253 => ((spec_DrawNameOk.f k l0).bind fun t256 => ((impl_NameOk.f k t256).bind fun t257 => ((spec_NameOk.f k t256).bind fun t258 => (if (t257 != t258) = true then (laws_FnWords.j0 k t249 t250 t253 true) else (if t241 = true then (if t239 = (Go.bits .and .i64 t233 65535) then (if t240 = (t236.length : Int) then (laws_FnWords.j0 k t249 t250 t253 t248) else (laws_FnWords.j0 k t249 t250 t253 true)) else (laws_FnWords.j0 k t249 t250 t253 true)) else (laws_FnWords.j0 k t249 t250 t253 true))))))) = some r := H
        have A11 := Aside0.mk A110
        clear A110
        replace H := Option.bind_eq_some_iff.mp H
        obtain ⟨t253, A120, H⟩ := H
        replace H : ((spec_DrawNameOk.f k l0).bind fun t256 => ((impl_NameOk.f k t256).bind fun t257 => ((spec_NameOk.f k t256).bind fun t258 => (if (t257 != t258) = true then (laws_FnWords.j0 k t249 t250 t253 true) else (if t241 = true then (if t239 = (Go.bits .and .i64 t233 65535) then (if t240 = (t236.length : Int) then (laws_FnWords.j0 k t249 t250 t253 t248) else (laws_FnWords.j0 k t249 t250 t253 true)) else (laws_FnWords.j0 k t249 t250 t253 true)) else (laws_FnWords.j0 k t249 t250 t253 true)))))) = some r := H
        have A12 := Aside0.mk A120
        clear A120
        replace H := Option.bind_eq_some_iff.mp H
        obtain ⟨t256, A130, H⟩ := H
        replace H : ((impl_NameOk.f k t256).bind fun t257 => ((spec_NameOk.f k t256).bind fun t258 => (if (t257 != t258) = true then (laws_FnWords.j0 k t249 t250 t253 true) else (if t241 = true then (if t239 = (Go.bits .and .i64 t233 65535) then (if t240 = (t236.length : Int) then (laws_FnWords.j0 k t249 t250 t253 t248) else (laws_FnWords.j0 k t249 t250 t253 true)) else (laws_FnWords.j0 k t249 t250 t253 true)) else (laws_FnWords.j0 k t249 t250 t253 true))))) = some r := H
        have A13 := Aside0.mk A130
        clear A130
        have HC14 := Aside0.mk H
        clear H
        go_enter Try.func6, Try.ntmps6
        go_upto_region 10 with (first | ((with_reducible refine gate_callee (f := 24) rfl ?_); refine goesL_ (some 23) rfl rfl Try.func24 (by kernel_rfl) rfl #[.slice A0 l0.length c0] rfl (by (try simp only [List.map_toArray, List.map_cons, List.map_nil]); first | done | rfl | (simp only [List.length_drop, List.length_take]; rfl)) ?_; (with_reducible refine (laws_big.calls _ _ l0 false _ ?side1 ?side2 A2.out).mono ?_); (case side1 => repeat (first | exact HR0.out | (with_reducible refine Kd.C_alloc ?_ _) | (with_reducible refine Kd.C_drewN ?_ _) | (with_reducible refine Kd.C_drew ?_))); (case side2 => exact HC0.out); rintro e w' ⟨rfl, ⟨nd, rfl⟩⟩; refine ⟨_, rfl, ?_⟩) | ((with_reducible refine gate_callee (f := 32) rfl ?_); refine goesL_ (some 26) rfl rfl Try.func32 (by kernel_rfl) rfl #[.slice A0 l0.length c0] rfl (by (try simp only [List.map_toArray, List.map_cons, List.map_nil]); first | done | rfl | (simp only [List.length_drop, List.length_take]; rfl)) ?_; (with_reducible refine (spec_DrawPutW.calls k _ _ l0 t232 t233 _ ?side1 ?side2 A4.out).mono ?_); (case side1 => repeat (first | exact HR0.out | (with_reducible refine Kd.C_alloc ?_ _) | (with_reducible refine Kd.C_drewN ?_ _) | (with_reducible refine Kd.C_drew ?_))); (case side2 => exact HC0.out); rintro e w15 ⟨v234, rfl, ho0, hb⟩; refine ⟨_, rfl, ?_⟩; have n0_ := Aside0.mk (Kd.R_lower ho0 (below_size (by repeat (first | (with_reducible first | exact HB.out | apply below_alloc | apply pw_below_drewN | apply below_drew1) | exact HB.out)))); have n1_ := Aside0.mk (below_step (by repeat (first | (with_reducible first | exact HB.out | apply below_alloc | apply pw_below_drewN | apply below_drew1) | exact HB.out)) hb); clear HB; have HO235 := n0_; have HB := n1_; clear n0_ n1_; (try clear hb); (try clear hb2); (try clear hk); (try clear hi); (try clear ho0); obtain ⟨Ao16, co16, eo16⟩ := Kd.R_slice HO235.out; subst eo16) | ((with_reducible refine gate_callee (f := 33) rfl ?_); refine goesL_ (some 31) rfl rfl Try.func33 (by kernel_rfl) rfl #[.slice Ao16 t232.length co16, .int .i64 t233] rfl (by (try simp only [List.map_toArray, List.map_cons, List.map_nil]); first | done | rfl | (simp only [List.length_drop, List.length_take]; rfl)) ?_; (with_reducible refine (impl_PutW.calls k (fun k_ => some k_ = (.slice Ao16 t232.length co16 : Value).ownBlock) _ _ t232 t233 t236 _ ?side1 A5.out).mono ?_); (case side1 => exact Kd.R_V (Kd.R_tight rfl (HO235.out))); rintro e w17 ⟨v237, rfl, ho0, hb⟩; refine ⟨_, rfl, ?_⟩; have n0_ := Aside0.mk (Kd.R_elder' (by (with_reducible repeat (first | apply Kd.R_alloc | apply Kd.R_drewN | apply Kd.R_drew)); exact HO235.out) (Kd.R_base ho0) hb); have n1_ := Aside0.mk (Kd.R_lower (Kd.R_new' (Kd.R_mono (ok' := fun k_ => True) ho0 (fun _ hk_ => trivial)) (Kd.R_lt (by (with_reducible repeat (first | apply Kd.R_alloc | apply Kd.R_drewN | apply Kd.R_drew)); exact HO235.out))) (below_size (by repeat (first | (with_reducible first | exact HB.out | apply below_alloc | apply pw_below_drewN | apply below_drew1) | exact HB.out)))); have n2_ := Aside0.mk (below_step (by repeat (first | (with_reducible first | exact HB.out | apply below_alloc | apply pw_below_drewN | apply below_drew1) | exact HB.out)) hb); clear HO235; clear HB; have HO235 := n0_; have HO238 := n1_; have HB := n2_; clear n0_ n1_ n2_; (try clear hb); (try clear hb2); (try clear hk); (try clear hi); (try clear ho0); obtain ⟨Ao18, co18, eo18⟩ := Kd.R_slice HO238.out; subst eo18) | ((with_reducible refine gate_callee (f := 34) rfl ?_); refine goesL_ (some 36) rfl rfl Try.func34 (by kernel_rfl) rfl #[.slice Ao18 t236.length co18, .int .i64 (t232.length : Int)] rfl (by (try simp only [List.map_toArray, List.map_cons, List.map_nil]); first | done | rfl | (simp only [List.length_drop, List.length_take]; rfl)) ?_; (with_reducible refine (impl_GetW.calls _ _ t236 (t232.length : Int) t239 t240 t241 _ ?side1 ?side2 A6.out).mono ?_); (case side1 => repeat (first | exact (Kd.R_reads' HO238.out).2.2 | (with_reducible refine Kd.C_alloc ?_ _) | (with_reducible refine Kd.C_drewN ?_ _) | (with_reducible refine Kd.C_drew ?_))); (case side2 => exact (Kd.R_reads' HO238.out).2.1); rintro e w' ⟨rfl, ⟨nd, rfl⟩⟩; refine ⟨_, rfl, ?_⟩; have q19 : ((ji7) : Int) ≤ ((t236.length : Int) : Int) := of_decide_eq_true (by first | (with_reducible assumption) | assumption); obtain ⟨i019, hi019, _, hsz19, _⟩ := info_parts info5; have hroom19 : t236.length ≤ co18 := (Kd.R_reads' HO238.out).2.1; have hC19 : Kd.C (Kd.int .u8) _ Ao18 t236.length t236 := (Kd.R_reads' HO238.out).2.2; have hcut19 := cut_to (P := Try.prog) 22 5 .i64 Try.underlying22 hi019 Ao18 t236.length co18 (ji7) (of_decide_eq_true (by first | (with_reducible assumption) | assumption)) q19 hroom19; have hr19 := Kd.C_take (m := ((ji7) : Int).toNat) hC19 (by omega); have hy19 : y242.length = ((ji7) : Int).toNat := (by rw [Ny242.out, List.length_take]; omega); rw [← Ny242.out] at hr19; rw [← hy19] at hcut19; have HR245 := Aside0.mk hr19; have HC245 := Aside0.mk (show y242.length ≤ co18 from by omega); clear hr19 hC19 hroom19 hi019 hsz19; have KY19 := Aside0.mk hy19; clear hy19; have KL19 := Aside0.mk (show ((ji7) : Int).toNat ≤ t236.length from by omega); replace q19 := eq_true q19) | ((with_reducible refine gate_callee (f := 34) rfl ?_); refine goesL_ (some 48) rfl rfl Try.func34 (by kernel_rfl) rfl #[.slice Ao18 y242.length co18, .int .i64 (t232.length : Int)] rfl (by (try simp only [List.map_toArray, List.map_cons, List.map_nil]); first | done | rfl | (simp only [List.length_drop, List.length_take]; rfl)) ?_; (with_reducible refine (impl_GetW.calls _ _ y242 (t232.length : Int) t246 t247 t248 _ ?side1 ?side2 A10.out).mono ?_); (case side1 => repeat (first | exact (by repeat (first | (with_reducible exact HR245.out) | (with_reducible refine Kd.C_alloc ?_ _) | (with_reducible refine Kd.C_drewN ?_ _) | (with_reducible refine Kd.C_drew ?_) | exact HR245.out)) | (with_reducible refine Kd.C_alloc ?_ _) | (with_reducible refine Kd.C_drewN ?_ _) | (with_reducible refine Kd.C_drew ?_))); (case side2 => exact HC245.out); rintro e w' ⟨rfl, ⟨nd, rfl⟩⟩; refine ⟨_, rfl, ?_⟩) | ((with_reducible refine gate_callee (f := 35) rfl ?_); refine goesL_ (some 54) rfl rfl Try.func35 (by kernel_rfl) rfl #[.slice A0 l0.length c0] rfl (by (try simp only [List.map_toArray, List.map_cons, List.map_nil]); first | done | rfl | (simp only [List.length_drop, List.length_take]; rfl)) ?_; (with_reducible refine (spec_DrawPutText.calls k _ _ l0 t249 t250 _ ?side1 ?side2 A11.out).mono ?_); (case side1 => repeat (first | exact (Kd.C_below HR0.out (by repeat (first | (with_reducible first | exact HB.out | apply below_alloc | apply pw_below_drewN | apply below_drew1) | exact HB.out))) | (with_reducible refine Kd.C_alloc ?_ _) | (with_reducible refine Kd.C_drewN ?_ _) | (with_reducible refine Kd.C_drew ?_))); (case side2 => exact HC0.out); rintro e w20 ⟨v251, rfl, ho0, hb⟩; refine ⟨_, rfl, ?_⟩; have n0_ := Aside0.mk (Kd.R_elder' (by (with_reducible repeat (first | apply Kd.R_alloc | apply Kd.R_drewN | apply Kd.R_drew)); exact HO235.out) (Kd.R_base ho0) hb); have n1_ := Aside0.mk (Kd.R_elder' (by (with_reducible repeat (first | apply Kd.R_alloc | apply Kd.R_drewN | apply Kd.R_drew)); exact HO238.out) (Kd.R_base ho0) hb); have n2_ := Aside0.mk (Kd.R_lower (Kd.R_new' (Kd.R_new' ho0 (Kd.R_lt (by (with_reducible repeat (first | apply Kd.R_alloc | apply Kd.R_drewN | apply Kd.R_drew)); exact HO235.out))) (Kd.R_lt (by (with_reducible repeat (first | apply Kd.R_alloc | apply Kd.R_drewN | apply Kd.R_drew)); exact HO238.out))) (below_size (by repeat (first | (with_reducible first | exact HB.out | apply below_alloc | apply pw_below_drewN | apply below_drew1) | exact HB.out)))); have n3_ := Aside0.mk (Kd.C_below (by repeat (first | (with_reducible exact HR245.out) | (with_reducible refine Kd.C_alloc ?_ _) | (with_reducible refine Kd.C_drewN ?_ _) | (with_reducible refine Kd.C_drew ?_) | exact HR245.out)) hb); have n4_ := Aside0.mk (below_step (by repeat (first | (with_reducible first | exact HB.out | apply below_alloc | apply pw_below_drewN | apply below_drew1) | exact HB.out)) hb); clear HO235; clear HO238; clear HR245; clear HB; have HO235 := n0_; have HO238 := n1_; have HO252 := n2_; have HR245 := n3_; have HB := n4_; clear n0_ n1_ n2_ n3_ n4_; (try clear hb); (try clear hb2); (try clear hk); (try clear hi); (try clear ho0); obtain ⟨Ao21, co21, eo21⟩ := Kd.R_slice HO252.out; subst eo21) | ((with_reducible refine gate_callee (f := 36) rfl ?_); refine goesL_ (some 59) rfl rfl Try.func36 (by kernel_rfl) rfl #[.slice Ao21 t249.length co21, .string t250] rfl (by (try simp only [List.map_toArray, List.map_cons, List.map_nil]); first | done | rfl | (simp only [List.length_drop, List.length_take]; rfl)) ?_; (with_reducible refine (impl_PutText.calls k _ _ t249 t250 t253 _ ?side1 ?side2 A12.out).mono ?_); (case side1 => repeat (first | exact (Kd.R_reads' HO252.out).2.2 | (with_reducible refine Kd.C_alloc ?_ _) | (with_reducible refine Kd.C_drewN ?_ _) | (with_reducible refine Kd.C_drew ?_))); (case side2 => exact (Kd.R_reads' HO252.out).2.1); rintro e w22 ⟨v254, rfl, ho0, hb⟩; refine ⟨_, rfl, ?_⟩; have n0_ := Aside0.mk (Kd.R_elder' (by (with_reducible repeat (first | apply Kd.R_alloc | apply Kd.R_drewN | apply Kd.R_drew)); exact HO235.out) (Kd.R_base ho0) hb); have n1_ := Aside0.mk (Kd.R_elder' (by (with_reducible repeat (first | apply Kd.R_alloc | apply Kd.R_drewN | apply Kd.R_drew)); exact HO238.out) (Kd.R_base ho0) hb); have n2_ := Aside0.mk (Kd.R_elder' (by (with_reducible repeat (first | apply Kd.R_alloc | apply Kd.R_drewN | apply Kd.R_drew)); exact HO252.out) (Kd.R_base ho0) hb); have n3_ := Aside0.mk (Kd.R_lower (Kd.R_new' (Kd.R_new' (Kd.R_new' ho0 (Kd.R_lt (by (with_reducible repeat (first | apply Kd.R_alloc | apply Kd.R_drewN | apply Kd.R_drew)); exact HO235.out))) (Kd.R_lt (by (with_reducible repeat (first | apply Kd.R_alloc | apply Kd.R_drewN | apply Kd.R_drew)); exact HO238.out))) (Kd.R_lt (by (with_reducible repeat (first | apply Kd.R_alloc | apply Kd.R_drewN | apply Kd.R_drew)); exact HO252.out))) (below_size (by repeat (first | (with_reducible first | exact HB.out | apply below_alloc | apply pw_below_drewN | apply below_drew1) | exact HB.out)))); have n4_ := Aside0.mk (Kd.C_below (by repeat (first | (with_reducible exact HR245.out) | (with_reducible refine Kd.C_alloc ?_ _) | (with_reducible refine Kd.C_drewN ?_ _) | (with_reducible refine Kd.C_drew ?_) | exact HR245.out)) hb); have n5_ := Aside0.mk (below_step (by repeat (first | (with_reducible first | exact HB.out | apply below_alloc | apply pw_below_drewN | apply below_drew1) | exact HB.out)) hb); clear HO235; clear HO238; clear HO252; clear HR245; clear HB; have HO235 := n0_; have HO238 := n1_; have HO252 := n2_; have HO255 := n3_; have HR245 := n4_; have HB := n5_; clear n0_ n1_ n2_ n3_ n4_ n5_; (try clear hb); (try clear hb2); (try clear hk); (try clear hi); (try clear ho0)) | ((with_reducible refine gate_callee (f := 37) rfl ?_); refine goesL_ (some 61) rfl rfl Try.func37 (by kernel_rfl) rfl #[.slice A0 l0.length c0] rfl (by (try simp only [List.map_toArray, List.map_cons, List.map_nil]); first | done | rfl | (simp only [List.length_drop, List.length_take]; rfl)) ?_; (with_reducible refine (spec_DrawNameOk.calls k _ _ l0 t256 _ ?side1 ?side2 A13.out).mono ?_); (case side1 => repeat (first | exact (Kd.C_below HR0.out HB.out) | (with_reducible refine Kd.C_alloc ?_ _) | (with_reducible refine Kd.C_drewN ?_ _) | (with_reducible refine Kd.C_drew ?_))); (case side2 => exact HC0.out); rintro e w23 ⟨rfl, hb⟩; refine ⟨_, rfl, ?_⟩; have n0_ := Aside0.mk (Kd.R_below (by (with_reducible repeat (first | apply Kd.R_alloc | apply Kd.R_drewN | apply Kd.R_drew)); exact HO235.out) hb); have n1_ := Aside0.mk (Kd.R_below (by (with_reducible repeat (first | apply Kd.R_alloc | apply Kd.R_drewN | apply Kd.R_drew)); exact HO238.out) hb); have n2_ := Aside0.mk (Kd.R_below (by (with_reducible repeat (first | apply Kd.R_alloc | apply Kd.R_drewN | apply Kd.R_drew)); exact HO252.out) hb); have n3_ := Aside0.mk (Kd.R_below (by (with_reducible repeat (first | apply Kd.R_alloc | apply Kd.R_drewN | apply Kd.R_drew)); exact HO255.out) hb); have n4_ := Aside0.mk (Kd.C_below (by repeat (first | (with_reducible exact HR245.out) | (with_reducible refine Kd.C_alloc ?_ _) | (with_reducible refine Kd.C_drewN ?_ _) | (with_reducible refine Kd.C_drew ?_) | exact HR245.out)) hb); have n5_ := Aside0.mk (below_step (by repeat (first | (with_reducible first | exact HB.out | apply below_alloc | apply pw_below_drewN | apply below_drew1) | exact HB.out)) hb); clear HO235; clear HO238; clear HO252; clear HO255; clear HR245; clear HB; have HO235 := n0_; have HO238 := n1_; have HO252 := n2_; have HO255 := n3_; have HR245 := n4_; have HB := n5_; clear n0_ n1_ n2_ n3_ n4_ n5_; (try clear hb); (try clear hb2); (try clear hk); (try clear hi)))
        (try simp only [Act.put, List.setIfInBounds_toArray, List.set_cons_zero, List.set_cons_succ])
        go_cut [85] (fun v85 wc => ∃ (kq : Nat) (x85_13 : Bool), v85 = .bool x85_13 ∧ Aside0 (laws_FnWords.j0 kq t249 t250 t253 x85_13 = some r) ∧ Aside0 (kq ≤ k) ∧ Aside0 (Kd.R (Kd.int .u8) 5 wc w.heap.size (fun k_ => some k_ ≠ (v254 : Value).ownBlock) (.slice Ao21 t249.length co21) t249) ∧ Aside0 (Kd.R (Kd.int .u8) 5 wc w.heap.size (fun k_ => some k_ ≠ ((.slice Ao21 t249.length co21) : Value).ownBlock) v254 t253) ∧ Aside0 (Kd.C (Kd.int .u8) wc Ao18 y242.length y242) ∧ Aside0 (Below w.heap.size w wc))
        case first =>
          have H := HC14.out
          clear HC14
          replace H := Option.bind_eq_some_iff.mp H
          obtain ⟨t257, A240, H⟩ := H
          replace H : ((spec_NameOk.f k t256).bind fun t258 => (if (t257 != t258) = true then (laws_FnWords.j0 k t249 t250 t253 true) else (if t241 = true then (if t239 = (Go.bits .and .i64 t233 65535) then (if t240 = (t236.length : Int) then (laws_FnWords.j0 k t249 t250 t253 t248) else (laws_FnWords.j0 k t249 t250 t253 true)) else (laws_FnWords.j0 k t249 t250 t253 true)) else (laws_FnWords.j0 k t249 t250 t253 true)))) = some r := H
          have A24 := Aside0.mk A240
          clear A240
          replace H := Option.bind_eq_some_iff.mp H
          obtain ⟨t258, A250, H⟩ := H
          replace H : (if (t257 != t258) = true then (laws_FnWords.j0 k t249 t250 t253 true) else (if t241 = true then (if t239 = (Go.bits .and .i64 t233 65535) then (if t240 = (t236.length : Int) then (laws_FnWords.j0 k t249 t250 t253 t248) else (laws_FnWords.j0 k t249 t250 t253 true)) else (laws_FnWords.j0 k t249 t250 t253 true)) else (laws_FnWords.j0 k t249 t250 t253 true))) = some r := H
          have A25 := Aside0.mk A250
          clear A250
          by_cases c26 : (t257 != t258) = true
          · rw [if_pos c26] at H
            have c26b0 : (t257 != t258) = true := c26
            (try (have c26b1 : decide (t257 = t258) = false := by simpa using c26))
            (try (have c26b2 : (t257 == t258) = false := by simpa using c26))
            (try (have c26b3 : ¬ (t257 = t258) := by simpa using c26))
            clear c26
            (first | rw [c26b0] | (simp only [i64_w, i32_w]; rw [c26b0]) | skip)
            have H' := Aside0.mk H
            clear H
            go_wp2_with (first | ((with_reducible refine gate_callee (f := 38) rfl ?_); refine goesL_ (some 63) rfl rfl Try.func38 (by kernel_rfl) rfl #[.string t256] rfl (by (try simp only [List.map_toArray, List.map_cons, List.map_nil]); first | done | rfl | (simp only [List.length_drop, List.length_take]; rfl)) ?_; (with_reducible refine (impl_NameOk.calls k t256 t257 _ A24.out).mono ?_); rintro e w' ⟨rfl, ⟨nd, rfl⟩⟩; refine ⟨_, rfl, ?_⟩) | ((with_reducible refine gate_callee (f := 39) rfl ?_); refine goesL_ (some 65) rfl rfl Try.func39 (by kernel_rfl) rfl #[.string t256] rfl (by (try simp only [List.map_toArray, List.map_cons, List.map_nil]); first | done | rfl | (simp only [List.length_drop, List.length_take]; rfl)) ?_; (with_reducible refine (spec_NameOk.calls k t256 t258 _ A25.out).mono ?_); rintro e w' ⟨rfl, ⟨nd, rfl⟩⟩; refine ⟨_, rfl, ?_⟩))
            go_meet
            case rel => exact ⟨_, (true), (by first | rfl | (simp; done) | (simp [*]; done)), H', ⟨by first | omega | exact Nat.le_refl _⟩, ⟨by (with_reducible repeat (first | apply Kd.R_alloc | apply Kd.R_drewN | apply Kd.R_drew)); exact Kd.R_mono HO252.out (fun _ hk => hk.2)⟩, ⟨by (with_reducible repeat (first | apply Kd.R_alloc | apply Kd.R_drewN | apply Kd.R_drew)); exact Kd.R_mono HO255.out (fun _ hk => hk.2)⟩, ⟨by repeat (first | (with_reducible exact HR245.out) | (with_reducible refine Kd.C_alloc ?_ _) | (with_reducible refine Kd.C_drewN ?_ _) | (with_reducible refine Kd.C_drew ?_) | exact HR245.out)⟩, ⟨by repeat (first | (with_reducible first | exact HB.out | apply below_alloc | apply pw_below_drewN | apply below_drew1) | exact HB.out)⟩⟩
          · rw [if_neg c26] at H
            have c26b0 : (t257 != t258) = false := by simpa using c26
            (try (have c26b1 : decide (t257 = t258) = true := by simpa using c26))
            (try (have c26b2 : (t257 == t258) = true := by simpa using c26))
            clear c26
            (first | rw [c26b0] | (simp only [i64_w, i32_w]; rw [c26b0]) | skip)
            by_cases c27 : t241 = true
            · subst c27
              have H1 : (if t239 = (Go.bits .and .i64 t233 65535) then (if t240 = (t236.length : Int) then (laws_FnWords.j0 k t249 t250 t253 t248) else (laws_FnWords.j0 k t249 t250 t253 true)) else (laws_FnWords.j0 k t249 t250 t253 true)) = some r := by rw [if_pos rfl] at H; exact H
              clear H
              have H := H1
              clear H1
              by_cases c28 : t239 = (Go.bits .and .i64 t233 65535)
              · rw [if_pos c28] at H
                have c28b0 : (t239 == (Go.bits .and .i64 t233 65535)) = true := beq_iff_eq.mpr c28
                have c28b1 : (t239 != (Go.bits .and .i64 t233 65535)) = false := bne_eq_false_iff_eq.mpr c28
                clear c28
                by_cases c29 : t240 = (t236.length : Int)
                · rw [if_pos c29] at H
                  have c29b0 : (t240 == (t236.length : Int)) = true := beq_iff_eq.mpr c29
                  have c29b1 : (t240 != (t236.length : Int)) = false := bne_eq_false_iff_eq.mpr c29
                  clear c29
                  have H' := Aside0.mk H
                  clear H
                  go_wp2_with (first | ((with_reducible refine gate_callee (f := 38) rfl ?_); refine goesL_ (some 63) rfl rfl Try.func38 (by kernel_rfl) rfl #[.string t256] rfl (by (try simp only [List.map_toArray, List.map_cons, List.map_nil]); first | done | rfl | (simp only [List.length_drop, List.length_take]; rfl)) ?_; (with_reducible refine (impl_NameOk.calls k t256 t257 _ A24.out).mono ?_); rintro e w' ⟨rfl, ⟨nd, rfl⟩⟩; refine ⟨_, rfl, ?_⟩) | ((with_reducible refine gate_callee (f := 39) rfl ?_); refine goesL_ (some 65) rfl rfl Try.func39 (by kernel_rfl) rfl #[.string t256] rfl (by (try simp only [List.map_toArray, List.map_cons, List.map_nil]); first | done | rfl | (simp only [List.length_drop, List.length_take]; rfl)) ?_; (with_reducible refine (spec_NameOk.calls k t256 t258 _ A25.out).mono ?_); rintro e w' ⟨rfl, ⟨nd, rfl⟩⟩; refine ⟨_, rfl, ?_⟩))
                  go_meet
                  case rel => exact ⟨_, (t248), (by first | rfl | (simp; done) | (simp [*]; done)), H', ⟨by first | omega | exact Nat.le_refl _⟩, ⟨by (with_reducible repeat (first | apply Kd.R_alloc | apply Kd.R_drewN | apply Kd.R_drew)); exact Kd.R_mono HO252.out (fun _ hk => hk.2)⟩, ⟨by (with_reducible repeat (first | apply Kd.R_alloc | apply Kd.R_drewN | apply Kd.R_drew)); exact Kd.R_mono HO255.out (fun _ hk => hk.2)⟩, ⟨by repeat (first | (with_reducible exact HR245.out) | (with_reducible refine Kd.C_alloc ?_ _) | (with_reducible refine Kd.C_drewN ?_ _) | (with_reducible refine Kd.C_drew ?_) | exact HR245.out)⟩, ⟨by repeat (first | (with_reducible first | exact HB.out | apply below_alloc | apply pw_below_drewN | apply below_drew1) | exact HB.out)⟩⟩
                · rw [if_neg c29] at H
                  have c29b0 : (t240 == (t236.length : Int)) = false := beq_eq_false_iff_ne.mpr c29
                  have c29b1 : (t240 != (t236.length : Int)) = true := bne_iff_ne.mpr c29
                  have H' := Aside0.mk H
                  clear H
                  go_wp2_with (first | ((with_reducible refine gate_callee (f := 38) rfl ?_); refine goesL_ (some 63) rfl rfl Try.func38 (by kernel_rfl) rfl #[.string t256] rfl (by (try simp only [List.map_toArray, List.map_cons, List.map_nil]); first | done | rfl | (simp only [List.length_drop, List.length_take]; rfl)) ?_; (with_reducible refine (impl_NameOk.calls k t256 t257 _ A24.out).mono ?_); rintro e w' ⟨rfl, ⟨nd, rfl⟩⟩; refine ⟨_, rfl, ?_⟩) | ((with_reducible refine gate_callee (f := 39) rfl ?_); refine goesL_ (some 65) rfl rfl Try.func39 (by kernel_rfl) rfl #[.string t256] rfl (by (try simp only [List.map_toArray, List.map_cons, List.map_nil]); first | done | rfl | (simp only [List.length_drop, List.length_take]; rfl)) ?_; (with_reducible refine (spec_NameOk.calls k t256 t258 _ A25.out).mono ?_); rintro e w' ⟨rfl, ⟨nd, rfl⟩⟩; refine ⟨_, rfl, ?_⟩))
                  go_meet
                  case rel => exact ⟨_, (true), (by first | rfl | (simp; done) | (simp [*]; done)), H', ⟨by first | omega | exact Nat.le_refl _⟩, ⟨by (with_reducible repeat (first | apply Kd.R_alloc | apply Kd.R_drewN | apply Kd.R_drew)); exact Kd.R_mono HO252.out (fun _ hk => hk.2)⟩, ⟨by (with_reducible repeat (first | apply Kd.R_alloc | apply Kd.R_drewN | apply Kd.R_drew)); exact Kd.R_mono HO255.out (fun _ hk => hk.2)⟩, ⟨by repeat (first | (with_reducible exact HR245.out) | (with_reducible refine Kd.C_alloc ?_ _) | (with_reducible refine Kd.C_drewN ?_ _) | (with_reducible refine Kd.C_drew ?_) | exact HR245.out)⟩, ⟨by repeat (first | (with_reducible first | exact HB.out | apply below_alloc | apply pw_below_drewN | apply below_drew1) | exact HB.out)⟩⟩
              · rw [if_neg c28] at H
                have c28b0 : (t239 == (Go.bits .and .i64 t233 65535)) = false := beq_eq_false_iff_ne.mpr c28
                have c28b1 : (t239 != (Go.bits .and .i64 t233 65535)) = true := bne_iff_ne.mpr c28
                have H' := Aside0.mk H
                clear H
                go_wp2_with (first | ((with_reducible refine gate_callee (f := 38) rfl ?_); refine goesL_ (some 63) rfl rfl Try.func38 (by kernel_rfl) rfl #[.string t256] rfl (by (try simp only [List.map_toArray, List.map_cons, List.map_nil]); first | done | rfl | (simp only [List.length_drop, List.length_take]; rfl)) ?_; (with_reducible refine (impl_NameOk.calls k t256 t257 _ A24.out).mono ?_); rintro e w' ⟨rfl, ⟨nd, rfl⟩⟩; refine ⟨_, rfl, ?_⟩) | ((with_reducible refine gate_callee (f := 39) rfl ?_); refine goesL_ (some 65) rfl rfl Try.func39 (by kernel_rfl) rfl #[.string t256] rfl (by (try simp only [List.map_toArray, List.map_cons, List.map_nil]); first | done | rfl | (simp only [List.length_drop, List.length_take]; rfl)) ?_; (with_reducible refine (spec_NameOk.calls k t256 t258 _ A25.out).mono ?_); rintro e w' ⟨rfl, ⟨nd, rfl⟩⟩; refine ⟨_, rfl, ?_⟩))
                go_meet
                case rel => exact ⟨_, (true), (by first | rfl | (simp; done) | (simp [*]; done)), H', ⟨by first | omega | exact Nat.le_refl _⟩, ⟨by (with_reducible repeat (first | apply Kd.R_alloc | apply Kd.R_drewN | apply Kd.R_drew)); exact Kd.R_mono HO252.out (fun _ hk => hk.2)⟩, ⟨by (with_reducible repeat (first | apply Kd.R_alloc | apply Kd.R_drewN | apply Kd.R_drew)); exact Kd.R_mono HO255.out (fun _ hk => hk.2)⟩, ⟨by repeat (first | (with_reducible exact HR245.out) | (with_reducible refine Kd.C_alloc ?_ _) | (with_reducible refine Kd.C_drewN ?_ _) | (with_reducible refine Kd.C_drew ?_) | exact HR245.out)⟩, ⟨by repeat (first | (with_reducible first | exact HB.out | apply below_alloc | apply pw_below_drewN | apply below_drew1) | exact HB.out)⟩⟩
            · replace c27 := Bool.eq_false_iff.mpr c27
              subst c27
              have H1 : (laws_FnWords.j0 k t249 t250 t253 true) = some r := by rw [if_neg (show ¬ (false = true) by decide)] at H; exact H
              clear H
              have H := H1
              clear H1
              have H' := Aside0.mk H
              clear H
              go_wp2_with (first | ((with_reducible refine gate_callee (f := 38) rfl ?_); refine goesL_ (some 63) rfl rfl Try.func38 (by kernel_rfl) rfl #[.string t256] rfl (by (try simp only [List.map_toArray, List.map_cons, List.map_nil]); first | done | rfl | (simp only [List.length_drop, List.length_take]; rfl)) ?_; (with_reducible refine (impl_NameOk.calls k t256 t257 _ A24.out).mono ?_); rintro e w' ⟨rfl, ⟨nd, rfl⟩⟩; refine ⟨_, rfl, ?_⟩) | ((with_reducible refine gate_callee (f := 39) rfl ?_); refine goesL_ (some 65) rfl rfl Try.func39 (by kernel_rfl) rfl #[.string t256] rfl (by (try simp only [List.map_toArray, List.map_cons, List.map_nil]); first | done | rfl | (simp only [List.length_drop, List.length_take]; rfl)) ?_; (with_reducible refine (spec_NameOk.calls k t256 t258 _ A25.out).mono ?_); rintro e w' ⟨rfl, ⟨nd, rfl⟩⟩; refine ⟨_, rfl, ?_⟩))
              go_meet
              case rel => exact ⟨_, (true), (by first | rfl | (simp; done) | (simp [*]; done)), H', ⟨by first | omega | exact Nat.le_refl _⟩, ⟨by (with_reducible repeat (first | apply Kd.R_alloc | apply Kd.R_drewN | apply Kd.R_drew)); exact Kd.R_mono HO252.out (fun _ hk => hk.2)⟩, ⟨by (with_reducible repeat (first | apply Kd.R_alloc | apply Kd.R_drewN | apply Kd.R_drew)); exact Kd.R_mono HO255.out (fun _ hk => hk.2)⟩, ⟨by repeat (first | (with_reducible exact HR245.out) | (with_reducible refine Kd.C_alloc ?_ _) | (with_reducible refine Kd.C_drewN ?_ _) | (with_reducible refine Kd.C_drew ?_) | exact HR245.out)⟩, ⟨by repeat (first | (with_reducible first | exact HB.out | apply below_alloc | apply pw_below_drewN | apply below_drew1) | exact HB.out)⟩⟩
        case rest =>
          clear HC14
          try clear q1
          try clear c2
          try clear p2
          try clear c3
          try clear c6
          try clear p6
          try clear c8
          try clear c8b0
          try clear c8b1
          try clear c9
          try clear c9b0
          try clear c9b1
          try clear q19
          try clear c24
          try clear c26
          try clear c26b0
          try clear c26b1
          try clear c26b2
          try clear c27
          try clear c28
          try clear c28b0
          try clear c28b1
          try clear c29
          try clear c29b0
          try clear c29b1
          try clear q19
          obtain ⟨kq, x85_13, rfl, HA, HJ13, HO_12, HO_14, HR245, HB⟩ := hcut
          cases kq with
          | zero => exact absurd HA.out (by simp [laws_FnWords.j0])
          | succ kj13 =>
            have H := HA.out
            clear HA
            simp only [laws_FnWords.j0] at H
            by_cases c30 : x85_13 = true
            · subst c30
              have H1 : (some false) = some r := by rw [if_pos rfl] at H; exact H
              clear H
              have H := H1
              clear H1
              obtain rfl := Option.some.inj H
              go_wp2
              go_ret
              exact ⟨by first | rfl | (simp [errW_none, errW_some] <;> rfl) | (simp only [← hji7]; first | rfl | (simp [errW_none, errW_some] <;> rfl)) | (simp [*, errW_none, errW_some] <;> rfl), by repeat (first | (with_reducible first | exact HB.out | apply below_alloc | apply pw_below_drewN | apply below_drew1) | exact HB.out)⟩
            · replace c30 := Bool.eq_false_iff.mpr c30
              subst c30
              have H1 : (if (t250.size : Int) > 60 then (some ((strOfNums t253).toList == (strOfNums t249).toList)) else ((impl_GetText.f t253 (t249.length : Int)).bind fun bt259 => (if 0 ≤ (wrap64 ((t253.length : Int) - 1)) then (if (wrap64 ((t253.length : Int) - 1)) ≤ (t253.length : Int) then ((impl_GetText.f (t253.take ((wrap64 ((t253.length : Int) - 1)) : Int).toNat) (t249.length : Int)).bind fun bt266 => (if bt259.2.2 = true then (if bt259.1.toList = t250.toList then (if bt259.2.1 = (t253.length : Int) then (some (!bt266.2.2)) else (some false)) else (some false)) else (some false))) else (none)) else (none)))) = some r := by rw [if_neg (show ¬ (false = true) by decide)] at H; exact H
              clear H
              have H := H1
              clear H1
              by_cases c31 : (t250.size : Int) > 60
              · rw [if_pos c31] at H
                have c31b0 : decide (60 < (t250.size : Int)) = true := decide_eq_true c31
                have c31b1 : decide (60 < t250.size) = true := decide_eq_true (by omega)
                clear c31
                obtain rfl := Option.some.inj H
                have hcv32 := own_string (P := Try.prog) Try.underlying22 Try.underlying5 Try.underlying9 (Kd.own_of_R HO_14.out)
                have hcv33 := own_string (P := Try.prog) Try.underlying22 Try.underlying5 Try.underlying9 (Kd.own_of_R HO_12.out)
                go_wp2
                go_ret
                exact ⟨by first | rfl | (simp [errW_none, errW_some] <;> rfl) | (simp only [← hji7]; first | rfl | (simp [errW_none, errW_some] <;> rfl)) | (simp [*, errW_none, errW_some] <;> rfl), by repeat (first | (with_reducible first | exact HB.out | apply below_alloc | apply pw_below_drewN | apply below_drew1) | exact HB.out)⟩
              · rw [if_neg c31] at H
                have c31b0 : decide (60 < (t250.size : Int)) = false := decide_eq_false c31
                have c31b1 : decide (60 < t250.size) = false := decide_eq_false (by omega)
                clear c31
                replace H := Option.bind_eq_some_iff.mp H
                obtain ⟨⟨t259, t260, t261⟩, A340, H⟩ := H
                replace H : (if 0 ≤ (wrap64 ((t253.length : Int) - 1)) then (if (wrap64 ((t253.length : Int) - 1)) ≤ (t253.length : Int) then ((impl_GetText.f (t253.take ((wrap64 ((t253.length : Int) - 1)) : Int).toNat) (t249.length : Int)).bind fun bt266 => (if t261 = true then (if t259.toList = t250.toList then (if t260 = (t253.length : Int) then (some (!bt266.2.2)) else (some false)) else (some false)) else (some false))) else (none)) else (none)) = some r := H
                have A34 := Aside0.mk A340
                clear A340
                obtain ⟨ji35, hji35⟩ : ∃ j_ : Int, (wrap64 ((t253.length : Int) - 1)) = j_ := ⟨_, rfl⟩
                replace H : (if 0 ≤ (ji35) then (if (ji35) ≤ (t253.length : Int) then ((impl_GetText.f (t253.take ((ji35) : Int).toNat) (t249.length : Int)).bind fun bt266 => (if t261 = true then (if t259.toList = t250.toList then (if t260 = (t253.length : Int) then (some (!bt266.2.2)) else (some false)) else (some false)) else (some false))) else (none)) else (none)) = some r := by first | (rw [hji35] at H; exact H) | (simp only [hji35] at H ⊢; exact H)
                (try rw [hji35] at A34)
                have hji35w : (IntKind.i64.wrap ((t253.length : Int) - 1)) = ji35 := (i64_w _).trans hji35
                by_cases c36 : 0 ≤ (ji35)
                · rw [if_pos c36] at H
                  have c36b0 := eq_true c36
                  have c36b1 : decide (0 ≤ (ji35)) = true := decide_eq_true c36
                  clear c36
                  by_cases c37 : (ji35) ≤ (t253.length : Int)
                  · rw [if_pos c37] at H
                    have c37b0 := eq_true c37
                    have c37b1 : decide ((ji35) ≤ (t253.length : Int)) = true := decide_eq_true c37
                    clear c37
                    obtain ⟨y262, hy262⟩ : ∃ y_ : List Int, y_ = (t253.take ((ji35) : Int).toNat) := ⟨_, rfl⟩
                    replace H : ((impl_GetText.f y262 (t249.length : Int)).bind fun bt266 => (if t261 = true then (if t259.toList = t250.toList then (if t260 = (t253.length : Int) then (some (!bt266.2.2)) else (some false)) else (some false)) else (some false))) = some r := by first | (rw [hy262]; with_reducible exact H) | (have H2_ := (Option.bind_some _ _).symm.trans H; rw [hy262]; with_reducible exact H2_) | (have H2_ := (Option.bind_some _ _).symm.trans H; with_reducible exact H2_) | with_reducible exact H | (rw [hy262]; exact H) | exact H
                    have Ny262 := Aside0.mk hy262
                    clear hy262
                    replace H := Option.bind_eq_some_iff.mp H
                    obtain ⟨⟨t266, t267, t268⟩, A380, H⟩ := H
                    replace H : (if t261 = true then (if t259.toList = t250.toList then (if t260 = (t253.length : Int) then (some (!t268)) else (some false)) else (some false)) else (some false)) = some r := H
                    have A38 := Aside0.mk A380
                    clear A380
                    by_cases c39 : t261 = true
                    · subst c39
                      have H1 : (if t259.toList = t250.toList then (if t260 = (t253.length : Int) then (some (!t268)) else (some false)) else (some false)) = some r := by rw [if_pos rfl] at H; exact H
                      clear H
                      have H := H1
                      clear H1
                      by_cases c40 : t259.toList = t250.toList
                      · rw [if_pos c40] at H
                        have c40b0 : (t259.toList == t250.toList) = true := beq_iff_eq.mpr c40
                        have c40b1 : (t259.toList != t250.toList) = false := bne_eq_false_iff_eq.mpr c40
                        clear c40
                        by_cases c41 : t260 = (t253.length : Int)
                        · rw [if_pos c41] at H
                          have c41b0 : (t260 == (t253.length : Int)) = true := beq_iff_eq.mpr c41
                          have c41b1 : (t260 != (t253.length : Int)) = false := bne_eq_false_iff_eq.mpr c41
                          clear c41
                          obtain rfl := Option.some.inj H
                          obtain ⟨Ao42, co42, eo42⟩ := Kd.R_slice HO_14.out
                          subst eo42
                          go_wp2_with (first | ((with_reducible refine gate_callee (f := 40) rfl ?_); refine goesL_ (some 98) rfl rfl Try.func40 (by kernel_rfl) rfl #[.slice Ao42 t253.length co42, .int .i64 (t249.length : Int)] rfl (by (try simp only [List.map_toArray, List.map_cons, List.map_nil]); first | done | rfl | (simp only [List.length_drop, List.length_take]; rfl)) ?_; (with_reducible refine (impl_GetText.calls _ _ t253 (t249.length : Int) t259 t260 true _ ?side1 ?side2 A34.out).mono ?_); (case side1 => repeat (first | exact (Kd.R_reads' HO_14.out).2.2 | (with_reducible refine Kd.C_alloc ?_ _) | (with_reducible refine Kd.C_drewN ?_ _) | (with_reducible refine Kd.C_drew ?_))); (case side2 => exact (Kd.R_reads' HO_14.out).2.1); rintro e w' ⟨rfl, ⟨nd, rfl⟩⟩; refine ⟨_, rfl, ?_⟩; have q43 : ((ji35) : Int) ≤ ((t253.length : Int) : Int) := of_decide_eq_true (by first | (with_reducible assumption) | assumption); obtain ⟨i043, hi043, _, hsz43, _⟩ := info_parts info5; have hroom43 : t253.length ≤ co42 := (Kd.R_reads' HO_14.out).2.1; have hC43 : Kd.C (Kd.int .u8) _ Ao42 t253.length t253 := (Kd.R_reads' HO_14.out).2.2; have hcut43 := cut_to (P := Try.prog) 22 5 .i64 Try.underlying22 hi043 Ao42 t253.length co42 (ji35) (of_decide_eq_true (by first | (with_reducible assumption) | assumption)) q43 hroom43; have hr43 := Kd.C_take (m := ((ji35) : Int).toNat) hC43 (by omega); have hy43 : y262.length = ((ji35) : Int).toNat := (by rw [Ny262.out, List.length_take]; omega); rw [← Ny262.out] at hr43; rw [← hy43] at hcut43; have HR265 := Aside0.mk hr43; have HC265 := Aside0.mk (show y262.length ≤ co42 from by omega); clear hr43 hC43 hroom43 hi043 hsz43; have KY43 := Aside0.mk hy43; clear hy43; have KL43 := Aside0.mk (show ((ji35) : Int).toNat ≤ t253.length from by omega); replace q43 := eq_true q43) | ((with_reducible refine gate_callee (f := 40) rfl ?_); refine goesL_ (some 110) rfl rfl Try.func40 (by kernel_rfl) rfl #[.slice Ao42 y262.length co42, .int .i64 (t249.length : Int)] rfl (by (try simp only [List.map_toArray, List.map_cons, List.map_nil]); first | done | rfl | (simp only [List.length_drop, List.length_take]; rfl)) ?_; (with_reducible refine (impl_GetText.calls _ _ y262 (t249.length : Int) t266 t267 t268 _ ?side1 ?side2 A38.out).mono ?_); (case side1 => repeat (first | exact (by repeat (first | (with_reducible exact HR265.out) | (with_reducible refine Kd.C_alloc ?_ _) | (with_reducible refine Kd.C_drewN ?_ _) | (with_reducible refine Kd.C_drew ?_) | exact HR265.out)) | (with_reducible refine Kd.C_alloc ?_ _) | (with_reducible refine Kd.C_drewN ?_ _) | (with_reducible refine Kd.C_drew ?_))); (case side2 => exact HC265.out); rintro e w' ⟨rfl, ⟨nd, rfl⟩⟩; refine ⟨_, rfl, ?_⟩))
                          go_ret
                          exact ⟨by first | rfl | (simp [errW_none, errW_some] <;> rfl) | (simp only [← hji7, ← hji35]; first | rfl | (simp [errW_none, errW_some] <;> rfl)) | (simp [*, errW_none, errW_some] <;> rfl), by repeat (first | (with_reducible first | exact HB.out | apply below_alloc | apply pw_below_drewN | apply below_drew1) | exact HB.out)⟩
                        · rw [if_neg c41] at H
                          have c41b0 : (t260 == (t253.length : Int)) = false := beq_eq_false_iff_ne.mpr c41
                          have c41b1 : (t260 != (t253.length : Int)) = true := bne_iff_ne.mpr c41
                          obtain rfl := Option.some.inj H
                          obtain ⟨Ao44, co44, eo44⟩ := Kd.R_slice HO_14.out
                          subst eo44
                          go_wp2_with (first | ((with_reducible refine gate_callee (f := 40) rfl ?_); refine goesL_ (some 98) rfl rfl Try.func40 (by kernel_rfl) rfl #[.slice Ao44 t253.length co44, .int .i64 (t249.length : Int)] rfl (by (try simp only [List.map_toArray, List.map_cons, List.map_nil]); first | done | rfl | (simp only [List.length_drop, List.length_take]; rfl)) ?_; (with_reducible refine (impl_GetText.calls _ _ t253 (t249.length : Int) t259 t260 true _ ?side1 ?side2 A34.out).mono ?_); (case side1 => repeat (first | exact (Kd.R_reads' HO_14.out).2.2 | (with_reducible refine Kd.C_alloc ?_ _) | (with_reducible refine Kd.C_drewN ?_ _) | (with_reducible refine Kd.C_drew ?_))); (case side2 => exact (Kd.R_reads' HO_14.out).2.1); rintro e w' ⟨rfl, ⟨nd, rfl⟩⟩; refine ⟨_, rfl, ?_⟩; have q45 : ((ji35) : Int) ≤ ((t253.length : Int) : Int) := of_decide_eq_true (by first | (with_reducible assumption) | assumption); obtain ⟨i045, hi045, _, hsz45, _⟩ := info_parts info5; have hroom45 : t253.length ≤ co44 := (Kd.R_reads' HO_14.out).2.1; have hC45 : Kd.C (Kd.int .u8) _ Ao44 t253.length t253 := (Kd.R_reads' HO_14.out).2.2; have hcut45 := cut_to (P := Try.prog) 22 5 .i64 Try.underlying22 hi045 Ao44 t253.length co44 (ji35) (of_decide_eq_true (by first | (with_reducible assumption) | assumption)) q45 hroom45; have hr45 := Kd.C_take (m := ((ji35) : Int).toNat) hC45 (by omega); have hy45 : y262.length = ((ji35) : Int).toNat := (by rw [Ny262.out, List.length_take]; omega); rw [← Ny262.out] at hr45; rw [← hy45] at hcut45; have HR265 := Aside0.mk hr45; have HC265 := Aside0.mk (show y262.length ≤ co44 from by omega); clear hr45 hC45 hroom45 hi045 hsz45; have KY45 := Aside0.mk hy45; clear hy45; have KL45 := Aside0.mk (show ((ji35) : Int).toNat ≤ t253.length from by omega); replace q45 := eq_true q45) | ((with_reducible refine gate_callee (f := 40) rfl ?_); refine goesL_ (some 110) rfl rfl Try.func40 (by kernel_rfl) rfl #[.slice Ao44 y262.length co44, .int .i64 (t249.length : Int)] rfl (by (try simp only [List.map_toArray, List.map_cons, List.map_nil]); first | done | rfl | (simp only [List.length_drop, List.length_take]; rfl)) ?_; (with_reducible refine (impl_GetText.calls _ _ y262 (t249.length : Int) t266 t267 t268 _ ?side1 ?side2 A38.out).mono ?_); (case side1 => repeat (first | exact (by repeat (first | (with_reducible exact HR265.out) | (with_reducible refine Kd.C_alloc ?_ _) | (with_reducible refine Kd.C_drewN ?_ _) | (with_reducible refine Kd.C_drew ?_) | exact HR265.out)) | (with_reducible refine Kd.C_alloc ?_ _) | (with_reducible refine Kd.C_drewN ?_ _) | (with_reducible refine Kd.C_drew ?_))); (case side2 => exact HC265.out); rintro e w' ⟨rfl, ⟨nd, rfl⟩⟩; refine ⟨_, rfl, ?_⟩))
                          go_ret
                          exact ⟨by first | rfl | (simp [errW_none, errW_some] <;> rfl) | (simp only [← hji7, ← hji35]; first | rfl | (simp [errW_none, errW_some] <;> rfl)) | (simp [*, errW_none, errW_some] <;> rfl), by repeat (first | (with_reducible first | exact HB.out | apply below_alloc | apply pw_below_drewN | apply below_drew1) | exact HB.out)⟩
                      · rw [if_neg c40] at H
                        have c40b0 : (t259.toList == t250.toList) = false := beq_eq_false_iff_ne.mpr c40
                        have c40b1 : (t259.toList != t250.toList) = true := bne_iff_ne.mpr c40
                        obtain rfl := Option.some.inj H
                        obtain ⟨Ao46, co46, eo46⟩ := Kd.R_slice HO_14.out
                        subst eo46
                        go_wp2_with (first | ((with_reducible refine gate_callee (f := 40) rfl ?_); refine goesL_ (some 98) rfl rfl Try.func40 (by kernel_rfl) rfl #[.slice Ao46 t253.length co46, .int .i64 (t249.length : Int)] rfl (by (try simp only [List.map_toArray, List.map_cons, List.map_nil]); first | done | rfl | (simp only [List.length_drop, List.length_take]; rfl)) ?_; (with_reducible refine (impl_GetText.calls _ _ t253 (t249.length : Int) t259 t260 true _ ?side1 ?side2 A34.out).mono ?_); (case side1 => repeat (first | exact (Kd.R_reads' HO_14.out).2.2 | (with_reducible refine Kd.C_alloc ?_ _) | (with_reducible refine Kd.C_drewN ?_ _) | (with_reducible refine Kd.C_drew ?_))); (case side2 => exact (Kd.R_reads' HO_14.out).2.1); rintro e w' ⟨rfl, ⟨nd, rfl⟩⟩; refine ⟨_, rfl, ?_⟩; have q47 : ((ji35) : Int) ≤ ((t253.length : Int) : Int) := of_decide_eq_true (by first | (with_reducible assumption) | assumption); obtain ⟨i047, hi047, _, hsz47, _⟩ := info_parts info5; have hroom47 : t253.length ≤ co46 := (Kd.R_reads' HO_14.out).2.1; have hC47 : Kd.C (Kd.int .u8) _ Ao46 t253.length t253 := (Kd.R_reads' HO_14.out).2.2; have hcut47 := cut_to (P := Try.prog) 22 5 .i64 Try.underlying22 hi047 Ao46 t253.length co46 (ji35) (of_decide_eq_true (by first | (with_reducible assumption) | assumption)) q47 hroom47; have hr47 := Kd.C_take (m := ((ji35) : Int).toNat) hC47 (by omega); have hy47 : y262.length = ((ji35) : Int).toNat := (by rw [Ny262.out, List.length_take]; omega); rw [← Ny262.out] at hr47; rw [← hy47] at hcut47; have HR265 := Aside0.mk hr47; have HC265 := Aside0.mk (show y262.length ≤ co46 from by omega); clear hr47 hC47 hroom47 hi047 hsz47; have KY47 := Aside0.mk hy47; clear hy47; have KL47 := Aside0.mk (show ((ji35) : Int).toNat ≤ t253.length from by omega); replace q47 := eq_true q47) | ((with_reducible refine gate_callee (f := 40) rfl ?_); refine goesL_ (some 110) rfl rfl Try.func40 (by kernel_rfl) rfl #[.slice Ao46 y262.length co46, .int .i64 (t249.length : Int)] rfl (by (try simp only [List.map_toArray, List.map_cons, List.map_nil]); first | done | rfl | (simp only [List.length_drop, List.length_take]; rfl)) ?_; (with_reducible refine (impl_GetText.calls _ _ y262 (t249.length : Int) t266 t267 t268 _ ?side1 ?side2 A38.out).mono ?_); (case side1 => repeat (first | exact (by repeat (first | (with_reducible exact HR265.out) | (with_reducible refine Kd.C_alloc ?_ _) | (with_reducible refine Kd.C_drewN ?_ _) | (with_reducible refine Kd.C_drew ?_) | exact HR265.out)) | (with_reducible refine Kd.C_alloc ?_ _) | (with_reducible refine Kd.C_drewN ?_ _) | (with_reducible refine Kd.C_drew ?_))); (case side2 => exact HC265.out); rintro e w' ⟨rfl, ⟨nd, rfl⟩⟩; refine ⟨_, rfl, ?_⟩))
                        go_ret
                        exact ⟨by first | rfl | (simp [errW_none, errW_some] <;> rfl) | (simp only [← hji7, ← hji35]; first | rfl | (simp [errW_none, errW_some] <;> rfl)) | (simp [*, errW_none, errW_some] <;> rfl), by repeat (first | (with_reducible first | exact HB.out | apply below_alloc | apply pw_below_drewN | apply below_drew1) | exact HB.out)⟩
                    · replace c39 := Bool.eq_false_iff.mpr c39
                      subst c39
                      have H1 : (some false) = some r := by rw [if_neg (show ¬ (false = true) by decide)] at H; exact H
                      clear H
                      have H := H1
                      clear H1
                      obtain rfl := Option.some.inj H
                      obtain ⟨Ao48, co48, eo48⟩ := Kd.R_slice HO_14.out
                      subst eo48
                      go_wp2_with (first | ((with_reducible refine gate_callee (f := 40) rfl ?_); refine goesL_ (some 98) rfl rfl Try.func40 (by kernel_rfl) rfl #[.slice Ao48 t253.length co48, .int .i64 (t249.length : Int)] rfl (by (try simp only [List.map_toArray, List.map_cons, List.map_nil]); first | done | rfl | (simp only [List.length_drop, List.length_take]; rfl)) ?_; (with_reducible refine (impl_GetText.calls _ _ t253 (t249.length : Int) t259 t260 false _ ?side1 ?side2 A34.out).mono ?_); (case side1 => repeat (first | exact (Kd.R_reads' HO_14.out).2.2 | (with_reducible refine Kd.C_alloc ?_ _) | (with_reducible refine Kd.C_drewN ?_ _) | (with_reducible refine Kd.C_drew ?_))); (case side2 => exact (Kd.R_reads' HO_14.out).2.1); rintro e w' ⟨rfl, ⟨nd, rfl⟩⟩; refine ⟨_, rfl, ?_⟩; have q49 : ((ji35) : Int) ≤ ((t253.length : Int) : Int) := of_decide_eq_true (by first | (with_reducible assumption) | assumption); obtain ⟨i049, hi049, _, hsz49, _⟩ := info_parts info5; have hroom49 : t253.length ≤ co48 := (Kd.R_reads' HO_14.out).2.1; have hC49 : Kd.C (Kd.int .u8) _ Ao48 t253.length t253 := (Kd.R_reads' HO_14.out).2.2; have hcut49 := cut_to (P := Try.prog) 22 5 .i64 Try.underlying22 hi049 Ao48 t253.length co48 (ji35) (of_decide_eq_true (by first | (with_reducible assumption) | assumption)) q49 hroom49; have hr49 := Kd.C_take (m := ((ji35) : Int).toNat) hC49 (by omega); have hy49 : y262.length = ((ji35) : Int).toNat := (by rw [Ny262.out, List.length_take]; omega); rw [← Ny262.out] at hr49; rw [← hy49] at hcut49; have HR265 := Aside0.mk hr49; have HC265 := Aside0.mk (show y262.length ≤ co48 from by omega); clear hr49 hC49 hroom49 hi049 hsz49; have KY49 := Aside0.mk hy49; clear hy49; have KL49 := Aside0.mk (show ((ji35) : Int).toNat ≤ t253.length from by omega); replace q49 := eq_true q49) | ((with_reducible refine gate_callee (f := 40) rfl ?_); refine goesL_ (some 110) rfl rfl Try.func40 (by kernel_rfl) rfl #[.slice Ao48 y262.length co48, .int .i64 (t249.length : Int)] rfl (by (try simp only [List.map_toArray, List.map_cons, List.map_nil]); first | done | rfl | (simp only [List.length_drop, List.length_take]; rfl)) ?_; (with_reducible refine (impl_GetText.calls _ _ y262 (t249.length : Int) t266 t267 t268 _ ?side1 ?side2 A38.out).mono ?_); (case side1 => repeat (first | exact (by repeat (first | (with_reducible exact HR265.out) | (with_reducible refine Kd.C_alloc ?_ _) | (with_reducible refine Kd.C_drewN ?_ _) | (with_reducible refine Kd.C_drew ?_) | exact HR265.out)) | (with_reducible refine Kd.C_alloc ?_ _) | (with_reducible refine Kd.C_drewN ?_ _) | (with_reducible refine Kd.C_drew ?_))); (case side2 => exact HC265.out); rintro e w' ⟨rfl, ⟨nd, rfl⟩⟩; refine ⟨_, rfl, ?_⟩))
                      go_ret
                      exact ⟨by first | rfl | (simp [errW_none, errW_some] <;> rfl) | (simp only [← hji7, ← hji35]; first | rfl | (simp [errW_none, errW_some] <;> rfl)) | (simp [*, errW_none, errW_some] <;> rfl), by repeat (first | (with_reducible first | exact HB.out | apply below_alloc | apply pw_below_drewN | apply below_drew1) | exact HB.out)⟩
                  · rw [if_neg c37] at H
                    exact absurd H (by simp)
                · rw [if_neg c36] at H
                  exact absurd H (by simp)
      · rw [if_neg c9] at H
        exact absurd H (by simp)
    · rw [if_neg c8] at H
      exact absurd H (by simp)

/-- THE ONE PURE STATEMENT of laws_FnWords: yours. -/
def laws_FnWords.Pure : Prop := ∀ (l0 : List Int), l0.length ≤ maxLen → l0.length * 1 ≤ 140737488351232 → (∀ x ∈ l0, (Lit.int .u8 x).wf = true) → ∃ k, laws_FnWords.f k l0 = some true
theorem laws_FnWords.walk (P : laws_FnWords.Pure) (a0 : Option Addr) (len0 cap0 : Nat) (z0 : List Int) (w : World) (w0 : (a0 = none ∧ len0 = 0 ∧ cap0 = 0 ∧ z0 = []) ∨ ∃ x, a0 = some x ∧ len0 ≤ cap0 ∧ cap0 ≤ maxLen ∧ z0.length = cap0 ∧ (∀ i, i < z0.length → w.cell? (x.add i) = some (.int .u8 (z0.getD i 0))) ∧ ∀ n ∈ z0, (Lit.int .u8 n).wf = true) (y0 : len0 * 1 ≤ 140737488351232) :
    Calls Try.prog 6 #[.slice a0 len0 cap0] w fun e w' => e = .returned (.bool true) ∧ Below w.heap.size w w' := by
  obtain ⟨l0, rfl, hr0, hm0, hw0, hc0⟩ := ReadsInt.ofRowC w0
  obtain ⟨k, h⟩ := P l0 hm0 y0 hw0
  refine (laws_FnWords.calls k _ _ l0 true w (Kd.C_of_reads (d := (0 : Int)) (h1 := fun _ => rfl) hr0) hc0 h).mono ?_
  rintro e w' ⟨rfl, hd⟩
  exact ⟨rfl, hd⟩

end Go.Proofs.Ytkaoiaolbhklnaa.PFnWords
