/- The law: the functions that it reaches, each with the proof that the machine's call comes to its answer, what they answer, and the law's row; each theorem says its conditions itself. -/
import Derived.Test.YtkaoiaolbhklnaaZFnKeys2
namespace Go.Proofs.Ytkaoiaolbhklnaa.PFnKeys
open Go.RowKit Go.Proofs.YtkaoiaolbhklnaaW.PrintWords Go.Proofs.YtkaoiaolbhklnaaW.PrintLast Go.Proofs.YtkaoiaolbhklnaaW.PrintMore
attribute [local go_sem] max2_int min2_int max_two min_two max_three min_three max_four min_four   -- for this text's walks alone
set_option linter.unusedVariables false
set_option linter.unusedSimpArgs false
def spec_l1Bend.f (s0_0 : List Int) (s0_1 : Int) (s0_2 : Int) (l1 : List Int) : Option (List Int × Int × Int) := (some (([] : List Int) : List Int)).bind fun y334 => (if y334.length + l1.length < 140737488355328 then ((some (y334 ++ l1 : List Int)).bind fun y337 => ((spec_l1Below.f s0_0 s0_1 s0_2 5).bind fun bt340 => (if bt340.1 = 0 then ((spec_l1Below.f s0_0 bt340.2.1 bt340.2.2 (wrap64 ((y337.length : Int) + 1))).bind fun bt343 => (if 0 ≤ bt343.1 then (if bt343.1 ≤ (y337.length : Int) then (some ((y337.take (bt343.1 : Int).toNat), bt343.2.1, bt343.2.2)) else (none)) else (none))) else (if bt340.1 = 1 then (if (y337.length : Int) > 0 then ((spec_l1Below.f s0_0 bt340.2.1 bt340.2.2 (y337.length : Int)).bind fun bt349 => (if 0 ≤ bt349.1 then (if bt349.1 < (y337.length : Int) then ((spec_l1Below.f s0_0 bt349.2.1 bt349.2.2 255).bind fun bt353 => (some ((y337.set (bt349.1 : Int).toNat (Go.bits .xor .u8 (rd y337 bt349.1) ((wrap64 (1 + bt353.1)) % 256))), bt353.2.1, bt353.2.2))) else (none)) else (none))) else (some (y337, bt340.2.1, bt340.2.2))) else (some (y337, bt340.2.1, bt340.2.2)))))) else (none))
def spec_l1Bend.T7 : Bool × List (List Nat × List Nat) := (true, [([], []), ([], []), ([], []), ([2], [2]), ([1, 3], [1, 3]), ([0, 4], [0, 4]), ([5], [5]), ([], []), ([7, 4], [7]), ([8], [8]), ([9], [9]), ([6, 10], [6, 10]), ([0, 4, 0, 1, 2, 3, 4, 5, 6, 7, 8, 9, 10, 11], [0, 4]), ([12, 11, 8, 0, 1, 2, 3, 4, 5, 6, 7, 8, 9, 10, 11], [11, 12])])
def spec_l1Bend.B7 : List Nat := [0, 0, 0, 4, 14, 31, 63, 0, 158, 414, 926, 2047, 4095, 8191]
theorem spec_l1Bend.tab7 : rtab .any (opsOf Try.f71 7) = spec_l1Bend.T7 := by kernel_rfl
theorem spec_l1Bend.bits7 : waitsOk spec_l1Bend.T7.2 spec_l1Bend.B7 = true := by kernel_rfl
set_option maxHeartbeats 8000000 in
set_option maxRecDepth 100000 in
theorem spec_l1Bend.calls (g : Nat) (s0_0 : List Int) (s0_1 : Int) (s0_2 : Int) (A1 : Option Addr) (c1 : Nat) (l1 : List Int) (r1 : List Int) (r2 : Int) (r3 : Int) (w0 w : World) (hI : IsS98 w0 w g s0_0 s0_1 s0_2) (hB : Below w0.heap.size w0 w) (hr1 : Kd.C (Kd.int .u8) w A1 l1.length l1) (hc1 : l1.length ≤ c1) (hf1 : ∀ ad, A1 = some ad → 0 < l1.length → ad.block ≠ g) (h : spec_l1Bend.f s0_0 s0_1 s0_2 l1 = some (r1, r2, r3)) :
  Calls Try.prog 71 #[.pointer (some ⟨g, 0, none⟩), .slice A1 l1.length c1] w fun e w' => ∃ v0_ : Value, e = .returned (v0_) ∧ Kd.R (Kd.int .u8) 5 w' w.heap.size (fun _ => True) v0_ r1 ∧ IsS98 w0 w' g s0_0 r2 r3 ∧ Below w0.heap.size w0 w' ∧ KeepBut w w' g none := by
 have HR1 := aK.mk hr1
 have HC1 := aK.mk hc1
 clear hr1 hc1
 have HI0 := aK.mk hI
 have HK := aK.mk (KeepBut.refl w g none)
 have HL := aK.mk hB.size
 clear hI
 have HW0 := aK.mk hB.size
 have HB := aK.mk hB
 clear hB
 have H : ((some (([] : List Int) : List Int)).bind fun y334 => (if y334.length + l1.length < 140737488355328 then ((some (y334 ++ l1 : List Int)).bind fun y337 => ((spec_l1Below.f s0_0 s0_1 s0_2 5).bind fun bt340 => (if bt340.1 = 0 then ((spec_l1Below.f s0_0 bt340.2.1 bt340.2.2 (wrap64 ((y337.length : Int) + 1))).bind fun bt343 => (if 0 ≤ bt343.1 then (if bt343.1 ≤ (y337.length : Int) then (some ((y337.take (bt343.1 : Int).toNat), bt343.2.1, bt343.2.2)) else (none)) else (none))) else (if bt340.1 = 1 then (if (y337.length : Int) > 0 then ((spec_l1Below.f s0_0 bt340.2.1 bt340.2.2 (y337.length : Int)).bind fun bt349 => (if 0 ≤ bt349.1 then (if bt349.1 < (y337.length : Int) then ((spec_l1Below.f s0_0 bt349.2.1 bt349.2.2 255).bind fun bt353 => (some ((y337.set (bt349.1 : Int).toNat (Go.bits .xor .u8 (rd y337 bt349.1) ((wrap64 (1 + bt353.1)) % 256))), bt353.2.1, bt353.2.2))) else (none)) else (none))) else (some (y337, bt340.2.1, bt340.2.2))) else (some (y337, bt340.2.1, bt340.2.2)))))) else (none))) = some (r1, r2, r3) := h
 clear h
 obtain ⟨y334, hy334⟩ : ∃ y_ : List Int, y_ = (([] : List Int)) := ⟨_, rfl⟩
 replace H : (if y334.length + l1.length < 140737488355328 then ((some (y334 ++ l1 : List Int)).bind fun y337 => ((spec_l1Below.f s0_0 s0_1 s0_2 5).bind fun bt340 => (if bt340.1 = 0 then ((spec_l1Below.f s0_0 bt340.2.1 bt340.2.2 (wrap64 ((y337.length : Int) + 1))).bind fun bt343 => (if 0 ≤ bt343.1 then (if bt343.1 ≤ (y337.length : Int) then (some ((y337.take (bt343.1 : Int).toNat), bt343.2.1, bt343.2.2)) else (none)) else (none))) else (if bt340.1 = 1 then (if (y337.length : Int) > 0 then ((spec_l1Below.f s0_0 bt340.2.1 bt340.2.2 (y337.length : Int)).bind fun bt349 => (if 0 ≤ bt349.1 then (if bt349.1 < (y337.length : Int) then ((spec_l1Below.f s0_0 bt349.2.1 bt349.2.2 255).bind fun bt353 => (some ((y337.set (bt349.1 : Int).toNat (Go.bits .xor .u8 (rd y337 bt349.1) ((wrap64 (1 + bt353.1)) % 256))), bt353.2.1, bt353.2.2))) else (none)) else (none))) else (some (y337, bt340.2.1, bt340.2.2))) else (some (y337, bt340.2.1, bt340.2.2)))))) else (none)) = some (r1, r2, r3) := by first | (rw [hy334]; with_reducible exact H) | (have H2_ := (Option.bind_some _ _).symm.trans H; rw [hy334]; with_reducible exact H2_) | (have H2_ := (Option.bind_some _ _).symm.trans H; with_reducible exact H2_) | with_reducible exact H | (rw [hy334]; exact H) | exact H
 have Ny334 := aK.mk hy334
 clear hy334
 by_cases c3 : y334.length + l1.length < 140737488355328
 ·rw [if_pos c3] at H
  have LMc3 := aK.mk c3
  clear c3
  obtain ⟨y337, hy337⟩ : ∃ y_ : List Int, y_ = (y334 ++ l1) := ⟨_, rfl⟩
  replace H : ((spec_l1Below.f s0_0 s0_1 s0_2 5).bind fun bt340 => (if bt340.1 = 0 then ((spec_l1Below.f s0_0 bt340.2.1 bt340.2.2 (wrap64 ((y337.length : Int) + 1))).bind fun bt343 => (if 0 ≤ bt343.1 then (if bt343.1 ≤ (y337.length : Int) then (some ((y337.take (bt343.1 : Int).toNat), bt343.2.1, bt343.2.2)) else (none)) else (none))) else (if bt340.1 = 1 then (if (y337.length : Int) > 0 then ((spec_l1Below.f s0_0 bt340.2.1 bt340.2.2 (y337.length : Int)).bind fun bt349 => (if 0 ≤ bt349.1 then (if bt349.1 < (y337.length : Int) then ((spec_l1Below.f s0_0 bt349.2.1 bt349.2.2 255).bind fun bt353 => (some ((y337.set (bt349.1 : Int).toNat (Go.bits .xor .u8 (rd y337 bt349.1) ((wrap64 (1 + bt353.1)) % 256))), bt353.2.1, bt353.2.2))) else (none)) else (none))) else (some (y337, bt340.2.1, bt340.2.2))) else (some (y337, bt340.2.1, bt340.2.2))))) = some (r1, r2, r3) := by first | (rw [hy337]; with_reducible exact H) | (have H2_ := (Option.bind_some _ _).symm.trans H; rw [hy337]; with_reducible exact H2_) | (have H2_ := (Option.bind_some _ _).symm.trans H; with_reducible exact H2_) | with_reducible exact H | (rw [hy337]; exact H) | exact H
  have Ny337 := aK.mk hy337
  clear hy337
  replace H := lF H
  obtain ⟨⟨t340, t341, t342⟩, A40, H⟩ := H
  replace H : (if t340 = 0 then ((spec_l1Below.f s0_0 t341 t342 (wrap64 ((y337.length : Int) + 1))).bind fun bt343 => (if 0 ≤ bt343.1 then (if bt343.1 ≤ (y337.length : Int) then (some ((y337.take (bt343.1 : Int).toNat), bt343.2.1, bt343.2.2)) else (none)) else (none))) else (if t340 = 1 then (if (y337.length : Int) > 0 then ((spec_l1Below.f s0_0 t341 t342 (y337.length : Int)).bind fun bt349 => (if 0 ≤ bt349.1 then (if bt349.1 < (y337.length : Int) then ((spec_l1Below.f s0_0 bt349.2.1 bt349.2.2 255).bind fun bt353 => (some ((y337.set (bt349.1 : Int).toNat (Go.bits .xor .u8 (rd y337 bt349.1) ((wrap64 (1 + bt353.1)) % 256))), bt353.2.1, bt353.2.2))) else (none)) else (none))) else (some (y337, t341, t342))) else (some (y337, t341, t342)))) = some (r1, r2, r3) := H
  have A4 := aK.mk A40
  clear A40
  by_cases c5 : t340 = 0
  ·rw [if_pos c5] at H
   have c5b0 : (t340 == 0) = true := beq_iff_eq.mpr c5
   have c5b1 : (t340 != 0) = false := bne_eq_false_iff_eq.mpr c5
   clear c5
   replace H := lF H
   obtain ⟨⟨t343, t344, t345⟩, A60, H⟩ := H
   replace H : (if 0 ≤ t343 then (if t343 ≤ (y337.length : Int) then (some ((y337.take (t343 : Int).toNat), t344, t345)) else (none)) else (none)) = some (r1, r2, r3) := H
   have A6 := aK.mk A60
   clear A60
   by_cases c7 : 0 ≤ t343
   ·rw [if_pos c7] at H
    have c7b0 := eq_true c7
    have c7b1 : decide (0 ≤ t343) = true := decide_eq_true c7
    clear c7
    by_cases c8 : t343 ≤ (y337.length : Int)
    ·rw [if_pos c8] at H
     have c8b0 := eq_true c8
     have c8b1 : decide (t343 ≤ (y337.length : Int)) = true := decide_eq_true c8
     clear c8
     obtain ⟨y346, hy346⟩ : ∃ y_ : List Int, y_ = (y337.take (t343 : Int).toNat) := ⟨_, rfl⟩
     replace H : (some (y346, t344, t345)) = some (r1, r2, r3) := by first | (rw [hy346]; with_reducible exact H) | (have H2_ := (Option.bind_some _ _).symm.trans H; rw [hy346]; with_reducible exact H2_) | (have H2_ := (Option.bind_some _ _).symm.trans H; with_reducible exact H2_) | with_reducible exact H | (rw [hy346]; exact H) | exact H
     have Ny346 := aK.mk hy346
     clear hy346
     simp only [Option.some.injEq, Prod.mk.injEq] at H
     obtain ⟨rfl, rfl, rfl⟩ := H
     go_enter Try.func71, Try.ntmps71
     go_wp2_with (first | ((with_reducible refine bV (N := 6) rfl ?_); refine Kd.R_lit (Kd.int .u8) _ 5 ?hg (N := 6) ?hd (xs := ([] : List Int)) (inner := []) (ok := fun _ => True) (okp := fun _ => True) ?hr ?hp (fun _ hk => hk) trivial (Below.refl _ _) (Nat.le_refl _) (by simp) ?_; (case hd => rfl); (case hg => rfl); (case hr => first | (go_simp; done) | (go_simp; rfl)); (case hp => exact (Reps.none _ _)); intro v335 w9 ho10 hb hg_ hnew_; clear hg_ hnew_; (first | rw [← Ny334.out] at ho10 | (simp only [Int.reduceToNat] at ho10; rw [← Ny334.out] at ho10)); have n0_ := aK.mk (Kd.R_lower ho10 (bY (w := w) (g := g) (row := none) (by repeat (first | (with_reducible first | exact HK.out | apply KeepBut.set_ | apply bB | apply bD | apply bA) | exact HK.out)))); have n1_ := aK.mk (IsS98.below (by repeat (first | (with_reducible first | exact HI0.out | apply IsS98.alloc | apply IsS98.drewN | apply IsS98.drew | apply IsS98.set_1 | apply IsS98.set_2) | exact HI0.out)) hb); have n2_ := aK.mk (KeepBut.trans (by repeat (first | (with_reducible first | exact HK.out | apply KeepBut.set_ | apply bB | apply bD | apply bA) | exact HK.out)) (KeepBut.of_below hb g none) (.inl rfl)); have n3_ := aK.mk (bL (by repeat (first | (with_reducible first | exact HB.out | apply aU | apply aM | apply aT | refine aY ?_ (IsS98.ge HI0.out)) | exact HB.out)) hb); clear HI0; clear HK; clear HB; have HO336 := n0_; have HI0 := n1_; have HK := n2_; have HB := n3_; clear n0_ n1_ n2_ n3_; clear hb ho10) | ((with_reducible refine gate_builtin (b := .append) (xs := #[.tmp 6, .tmp 7]) rfl ?_); at_builtin; refine Kd.R_append_rows (Kd.int .u8) w.heap.size rfl (.tmp 6) (.tmp 7) 22 5 (.int .u8 0) 1 rfl Try.underlying22 info5 rfl (by decide) (by omega) v335 y334 l1 _ _ _ (fun _ => True) (fun _ => False) rfl rfl ?aO ?aR (fun _ _ h => h) (fun _ h => h.elim) ?aF (Below.refl _ _) ?aS ?aL ?_; (case aR => exact Kd.C_keep 0 HR1.out (by repeat (first | (with_reducible first | exact HK.out | apply KeepBut.set_ | apply bB | apply bD | apply bA) | exact HK.out)) hf1); (case aF => exact (fun _ _ => trivial)); (case aO => exact (by (with_reducible repeat (first | apply Kd.bE | apply Kd.bF | apply Kd.bG)); exact HO336.out)); (case aS => exact (bY (w := w) (g := g) (row := none) (by repeat (first | (with_reducible first | exact HK.out | apply KeepBut.set_ | apply bB | apply bD | apply bA) | exact HK.out)))); (case aL => have := LMc3.out; omega); intro v338 w11 ho hb hg hat; rw [← Ny337.out] at ho; have n0_ := aK.mk (IsS98.grown (by repeat (first | (with_reducible first | exact HI0.out | apply IsS98.alloc | apply IsS98.drewN | apply IsS98.drew | apply IsS98.set_1 | apply IsS98.set_2) | exact HI0.out)) hg (IsS98.own_ne HI0.out HO336.out (by decide))); have n1_ := aK.mk (below_weaken (by repeat (first | (with_reducible first | exact HB.out | apply aU | apply aM | apply aT | refine aY ?_ (IsS98.ge HI0.out)) | exact HB.out)) HL.out hb); have n2_ := aK.mk (KeepBut.trans (by repeat (first | (with_reducible first | exact HK.out | apply KeepBut.set_ | apply bB | apply bD | apply bA) | exact HK.out)) (KeepBut.of_grown hg g) (Kd.R_base2 HO336.out)); have n3_ := aK.mk (ho); clear HI0; clear HB; clear HK; clear HO336; have HI0 := n0_; have HB := n1_; have HK := n2_; have HO339 := n3_; clear n0_ n1_ n2_ n3_; clear ho hb hg hat) | ((with_reducible refine bR (f := 69) rfl ?_); refine bX (some 10) rfl rfl Try.func69 (by kernel_rfl) rfl #[.pointer (some ⟨g, 0, none⟩), .int .i64 5] rfl (by (try simp only [List.map_toArray, List.map_cons, List.map_nil]); first | done | rfl | (simp only [List.length_drop, List.length_take]; rfl)) ?_; (with_reducible refine (spec_l1Below.calls g s0_0 s0_1 s0_2 5 t340 t341 t342 w0 _ ?side1 ?side2 A4.out).mono ?_); (case side1 => repeat (first | (with_reducible first | exact HI0.out | apply IsS98.alloc | apply IsS98.drewN | apply IsS98.drew | apply IsS98.set_1 | apply IsS98.set_2) | exact HI0.out)); (case side2 => repeat (first | (with_reducible first | exact HB.out | apply aU | apply aM | apply aT | refine aY ?_ (IsS98.ge HI0.out)) | exact HB.out)); rintro e w12 ⟨rfl, hi, hb, hk⟩; refine ⟨_, rfl, ?_⟩; have n0_ := aK.mk (Kd.cA (Kd.R_keep (IsS98.apart (show IsS98 w0 _ g s0_0 s0_1 s0_2 from by repeat (first | (with_reducible first | exact HI0.out | apply IsS98.alloc | apply IsS98.drewN | apply IsS98.drew | apply IsS98.set_1 | apply IsS98.set_2) | exact HI0.out)) (by (with_reducible repeat (first | apply Kd.bE | apply Kd.bF | apply Kd.bG)); exact HO339.out) (by decide)) hk (fun _ h => h.2)) (fun _ h => h.1)); have n1_ := aK.mk (KeepBut.trans (by repeat (first | (with_reducible first | exact HK.out | apply KeepBut.set_ | apply bB | apply bD | apply bA) | exact HK.out)) hk (.inl rfl)); have n2_ := aK.mk (hb); have n3_ := aK.mk (hi); clear HO339; clear HK; clear HB; clear HI0; have HO339 := n0_; have HK := n1_; have HB := n2_; have HI0 := n3_; clear n0_ n1_ n2_ n3_; (try clear hb); (try clear hk); (try clear hi); obtain ⟨Ao13, co13, eo13⟩ := Kd.R_slice HO339.out; subst eo13) | ((with_reducible refine bR (f := 69) rfl ?_); refine bX (some 18) rfl rfl Try.func69 (by kernel_rfl) rfl #[.pointer (some ⟨g, 0, none⟩), .int .i64 (wrap64 ((y337.length : Int) + 1))] rfl (by (try simp only [List.map_toArray, List.map_cons, List.map_nil]); first | done | rfl | (simp only [List.length_drop, List.length_take]; rfl)) ?_; (with_reducible refine (spec_l1Below.calls g s0_0 t341 t342 (wrap64 ((y337.length : Int) + 1)) t343 t344 t345 w0 _ ?side1 ?side2 A6.out).mono ?_); (case side1 => repeat (first | (with_reducible first | exact HI0.out | apply IsS98.alloc | apply IsS98.drewN | apply IsS98.drew | apply IsS98.set_1 | apply IsS98.set_2) | exact HI0.out)); (case side2 => repeat (first | (with_reducible first | exact HB.out | apply aU | apply aM | apply aT | refine aY ?_ (IsS98.ge HI0.out)) | exact HB.out)); rintro e w14 ⟨rfl, hi, hb, hk⟩; refine ⟨_, rfl, ?_⟩; have n0_ := aK.mk (Kd.cA (Kd.R_keep (IsS98.apart (show IsS98 w0 _ g s0_0 t341 t342 from by repeat (first | (with_reducible first | exact HI0.out | apply IsS98.alloc | apply IsS98.drewN | apply IsS98.drew | apply IsS98.set_1 | apply IsS98.set_2) | exact HI0.out)) (by (with_reducible repeat (first | apply Kd.bE | apply Kd.bF | apply Kd.bG)); exact HO339.out) (by decide)) hk (fun _ h => h.2)) (fun _ h => h.1)); have n1_ := aK.mk (KeepBut.trans (by repeat (first | (with_reducible first | exact HK.out | apply KeepBut.set_ | apply bB | apply bD | apply bA) | exact HK.out)) hk (.inl rfl)); have n2_ := aK.mk (hb); have n3_ := aK.mk (hi); clear HO339; clear HK; clear HB; clear HI0; have HO339 := n0_; have HK := n1_; have HB := n2_; have HI0 := n3_; clear n0_ n1_ n2_ n3_; (try clear hb); (try clear hk); (try clear hi); have q15 : (t343 : Int) ≤ ((y337.length : Int) : Int) := lE (by first | (with_reducible assumption) | assumption); obtain ⟨i015, hi015, _, hsz15, _⟩ := info_parts info5; have hcut15 := cut_to (P := Try.prog) 22 5 .i64 Try.underlying22 hi015 Ao13 y337.length co13 t343 (lE (by first | (with_reducible assumption) | assumption)) q15 (Kd.R_reads' HO339.out).2.1; have hr15 := Kd.R_take (m := (t343 : Int).toNat) HO339.out (by omega); have hy15 : y346.length = (t343 : Int).toNat := (by rw [Ny346.out, List.length_take]; omega); rw [← Ny346.out] at hr15; rw [← hy15] at hr15 hcut15; clear hy15 hi015 hsz15 HO339; have HO348 := aK.mk hr15; clear hr15; replace q15 := eq_true q15))
     go_ret
     exact ⟨_, by first | rfl | (simp [errW_none, errW_some] <;> rfl) | (simp [*, errW_none, errW_some] <;> rfl), by (with_reducible repeat (first | apply Kd.bE | apply Kd.bF | apply Kd.bG)); exact HO348.out, by repeat (first | (with_reducible first | exact HI0.out | apply IsS98.alloc | apply IsS98.drewN | apply IsS98.drew | apply IsS98.set_1 | apply IsS98.set_2) | exact HI0.out), by repeat (first | (with_reducible first | exact HB.out | apply aU | apply aM | apply aT | refine aY ?_ (IsS98.ge HI0.out)) | exact HB.out), by repeat (first | (with_reducible first | exact HK.out | apply KeepBut.set_ | apply bB | apply bD | apply bA) | exact HK.out)⟩
    ·rw [if_neg c8] at H
     exact absurd H (by simp)
   ·rw [if_neg c7] at H
    exact absurd H (by simp)
  ·rw [if_neg c5] at H
   have c5b0 : (t340 == 0) = false := beq_eq_false_iff_ne.mpr c5
   have c5b1 : (t340 != 0) = true := bne_iff_ne.mpr c5
   by_cases c16 : t340 = 1
   ·rw [if_pos c16] at H
    have c16b0 : (t340 == 1) = true := beq_iff_eq.mpr c16
    have c16b1 : (t340 != 1) = false := bne_eq_false_iff_eq.mpr c16
    clear c16
    by_cases c17 : (y337.length : Int) > 0
    ·rw [if_pos c17] at H
     have c17b0 : decide (0 < (y337.length : Int)) = true := decide_eq_true c17
     have c17b1 : decide (0 < y337.length) = true := decide_eq_true (by omega)
     clear c17
     replace H := lF H
     obtain ⟨⟨t349, t350, t351⟩, A180, H⟩ := H
     replace H : (if 0 ≤ t349 then (if t349 < (y337.length : Int) then ((spec_l1Below.f s0_0 t350 t351 255).bind fun bt353 => (some ((y337.set (t349 : Int).toNat (Go.bits .xor .u8 (rd y337 t349) ((wrap64 (1 + bt353.1)) % 256))), bt353.2.1, bt353.2.2))) else (none)) else (none)) = some (r1, r2, r3) := H
     have A18 := aK.mk A180
     clear A180
     by_cases c19 : 0 ≤ t349
     ·rw [if_pos c19] at H
      have c19b0 : decide (0 ≤ t349) = true := decide_eq_true c19
      clear c19
      by_cases c20 : t349 < (y337.length : Int)
      ·rw [if_pos c20] at H
       have c20b0 : decide (t349 < (y337.length : Int)) = true := decide_eq_true c20
       clear c20
       replace H := lF H
       obtain ⟨⟨t353, t354, t355⟩, A210, H⟩ := H
       replace H : (some ((y337.set (t349 : Int).toNat (Go.bits .xor .u8 (rd y337 t349) ((wrap64 (1 + t353)) % 256))), t354, t355)) = some (r1, r2, r3) := H
       have A21 := aK.mk A210
       clear A210
       obtain ⟨y356, hy356⟩ : ∃ y_ : List Int, y_ = (y337.set (t349 : Int).toNat (Go.bits .xor .u8 (rd y337 t349) ((wrap64 (1 + t353)) % 256))) := ⟨_, rfl⟩
       replace H : (some (y356, t354, t355)) = some (r1, r2, r3) := by first | (rw [hy356]; with_reducible exact H) | (have H2_ := (Option.bind_some _ _).symm.trans H; rw [hy356]; with_reducible exact H2_) | (have H2_ := (Option.bind_some _ _).symm.trans H; with_reducible exact H2_) | with_reducible exact H | (rw [hy356]; exact H) | exact H
       have Ny356 := aK.mk hy356
       clear hy356
       simp only [Option.some.injEq, Prod.mk.injEq] at H
       obtain ⟨rfl, rfl, rfl⟩ := H
       go_enter Try.func71, Try.ntmps71
       try go_wp2_with (first | ((with_reducible refine bV (N := 6) rfl ?_); refine Kd.R_lit (Kd.int .u8) _ 5 ?hg (N := 6) ?hd (xs := ([] : List Int)) (inner := []) (ok := fun _ => True) (okp := fun _ => True) ?hr ?hp (fun _ hk => hk) trivial (Below.refl _ _) (Nat.le_refl _) (by simp) ?_; (case hd => rfl); (case hg => rfl); (case hr => first | (go_simp; done) | (go_simp; rfl)); (case hp => exact (Reps.none _ _)); intro v335 w23 ho24 hb hg_ hnew_; clear hg_ hnew_; (first | rw [← Ny334.out] at ho24 | (simp only [Int.reduceToNat] at ho24; rw [← Ny334.out] at ho24)); have n0_ := aK.mk (Kd.R_lower ho24 (bY (w := w) (g := g) (row := none) (by repeat (first | (with_reducible first | exact HK.out | apply KeepBut.set_ | apply bB | apply bD | apply bA) | exact HK.out)))); have n1_ := aK.mk (IsS98.below (by repeat (first | (with_reducible first | exact HI0.out | apply IsS98.alloc | apply IsS98.drewN | apply IsS98.drew | apply IsS98.set_1 | apply IsS98.set_2) | exact HI0.out)) hb); have n2_ := aK.mk (KeepBut.trans (by repeat (first | (with_reducible first | exact HK.out | apply KeepBut.set_ | apply bB | apply bD | apply bA) | exact HK.out)) (KeepBut.of_below hb g none) (.inl rfl)); have n3_ := aK.mk (bL (by repeat (first | (with_reducible first | exact HB.out | apply aU | apply aM | apply aT | refine aY ?_ (IsS98.ge HI0.out)) | exact HB.out)) hb); clear HI0; clear HK; clear HB; have HO336 := n0_; have HI0 := n1_; have HK := n2_; have HB := n3_; clear n0_ n1_ n2_ n3_; clear hb ho24) | ((with_reducible refine gate_builtin (b := .append) (xs := #[.tmp 6, .tmp 7]) rfl ?_); at_builtin; refine Kd.R_append_rows (Kd.int .u8) w.heap.size rfl (.tmp 6) (.tmp 7) 22 5 (.int .u8 0) 1 rfl Try.underlying22 info5 rfl (by decide) (by omega) v335 y334 l1 _ _ _ (fun _ => True) (fun _ => False) rfl rfl ?aO ?aR (fun _ _ h => h) (fun _ h => h.elim) ?aF (Below.refl _ _) ?aS ?aL ?_; (case aR => exact Kd.C_keep 0 HR1.out (by repeat (first | (with_reducible first | exact HK.out | apply KeepBut.set_ | apply bB | apply bD | apply bA) | exact HK.out)) hf1); (case aF => exact (fun _ _ => trivial)); (case aO => exact (by (with_reducible repeat (first | apply Kd.bE | apply Kd.bF | apply Kd.bG)); exact HO336.out)); (case aS => exact (bY (w := w) (g := g) (row := none) (by repeat (first | (with_reducible first | exact HK.out | apply KeepBut.set_ | apply bB | apply bD | apply bA) | exact HK.out)))); (case aL => have := LMc3.out; omega); intro v338 w25 ho hb hg hat; rw [← Ny337.out] at ho; have n0_ := aK.mk (IsS98.grown (by repeat (first | (with_reducible first | exact HI0.out | apply IsS98.alloc | apply IsS98.drewN | apply IsS98.drew | apply IsS98.set_1 | apply IsS98.set_2) | exact HI0.out)) hg (IsS98.own_ne HI0.out HO336.out (by decide))); have n1_ := aK.mk (below_weaken (by repeat (first | (with_reducible first | exact HB.out | apply aU | apply aM | apply aT | refine aY ?_ (IsS98.ge HI0.out)) | exact HB.out)) HL.out hb); have n2_ := aK.mk (KeepBut.trans (by repeat (first | (with_reducible first | exact HK.out | apply KeepBut.set_ | apply bB | apply bD | apply bA) | exact HK.out)) (KeepBut.of_grown hg g) (Kd.R_base2 HO336.out)); have n3_ := aK.mk (ho); clear HI0; clear HB; clear HK; clear HO336; have HI0 := n0_; have HB := n1_; have HK := n2_; have HO339 := n3_; clear n0_ n1_ n2_ n3_; clear ho hb hg hat) | ((with_reducible refine bR (f := 69) rfl ?_); refine bX (some 10) rfl rfl Try.func69 (by kernel_rfl) rfl #[.pointer (some ⟨g, 0, none⟩), .int .i64 5] rfl (by (try simp only [List.map_toArray, List.map_cons, List.map_nil]); first | done | rfl | (simp only [List.length_drop, List.length_take]; rfl)) ?_; (with_reducible refine (spec_l1Below.calls g s0_0 s0_1 s0_2 5 t340 t341 t342 w0 _ ?side1 ?side2 A4.out).mono ?_); (case side1 => repeat (first | (with_reducible first | exact HI0.out | apply IsS98.alloc | apply IsS98.drewN | apply IsS98.drew | apply IsS98.set_1 | apply IsS98.set_2) | exact HI0.out)); (case side2 => repeat (first | (with_reducible first | exact HB.out | apply aU | apply aM | apply aT | refine aY ?_ (IsS98.ge HI0.out)) | exact HB.out)); rintro e w26 ⟨rfl, hi, hb, hk⟩; refine ⟨_, rfl, ?_⟩; have n0_ := aK.mk (Kd.cA (Kd.R_keep (IsS98.apart (show IsS98 w0 _ g s0_0 s0_1 s0_2 from by repeat (first | (with_reducible first | exact HI0.out | apply IsS98.alloc | apply IsS98.drewN | apply IsS98.drew | apply IsS98.set_1 | apply IsS98.set_2) | exact HI0.out)) (by (with_reducible repeat (first | apply Kd.bE | apply Kd.bF | apply Kd.bG)); exact HO339.out) (by decide)) hk (fun _ h => h.2)) (fun _ h => h.1)); have n1_ := aK.mk (KeepBut.trans (by repeat (first | (with_reducible first | exact HK.out | apply KeepBut.set_ | apply bB | apply bD | apply bA) | exact HK.out)) hk (.inl rfl)); have n2_ := aK.mk (hb); have n3_ := aK.mk (hi); clear HO339; clear HK; clear HB; clear HI0; have HO339 := n0_; have HK := n1_; have HB := n2_; have HI0 := n3_; clear n0_ n1_ n2_ n3_; (try clear hb); (try clear hk); (try clear hi); obtain ⟨Ao27, co27, eo27⟩ := Kd.R_slice HO339.out; subst eo27))
       have n0_ := aK.mk (Kd.bG HO339.out)
       have n1_ := aK.mk (IsS98.drew HI0.out)
       have n2_ := aK.mk (bD HK.out)
       have n3_ := aK.mk (aT HB.out)
       clear HO339
       clear HI0
       clear HK
       clear HB
       have HO339 := n0_
       have HI0 := n1_
       have HK := n2_
       have HB := n3_
       clear n0_ n1_ n2_ n3_
       have p352 : 0 ≤ (t349 : Int) := lE (by first | (with_reducible assumption) | assumption)
       have q352 : t349 < (y337.length : Int) := lE (by first | (with_reducible assumption) | assumption)
       try (obtain ⟨Az_, cz_, ez_⟩ := Kd.R_slice HO339.out; subst ez_)
       obtain ⟨ad352, e352, hx352_0⟩ := Kd.at_int (Kd.R_reads' HO339.out).2.2 t349 p352 q352
       cases e352
       replace p352 := eq_true p352
       replace q352 := eq_true q352
       refine start_ (n := 14) (S := fun w' => w'.cell? (ad352.add (t349).toNat) = some (.int .u8 (rd y337 t349))) (ds := [13]) #[false, false, false, false, false, false, false, false, false, false, false, false, false, false] (by kernel_rfl) rfl rfl (hx352_0) (fun hHeld => ?_); refine with_tabW spec_l1Bend.tab7 spec_l1Bend.bits7 (fun HT_ HW_ => ?_)
       generalize w26.drew = w28 at HO339 HI0 HK HB hx352_0 hHeld ⊢
       refine bT (i := 0) (N := some 25) (v := ?_) (a' := ?_) #[true, false, false, false, false, false, false, false, false, false, false, false, false, false] rfl rfl (bM HT_.out (by kernel_rfl)) (fun _ _ _ h => h) (Or.inl ⟨by rfl, ?_⟩) ?_ ?_
       rotate_left
       ·intro w'
        go_simp
        with_reducible rfl
       rotate_left
       ·simp only [Act.put, lA, lB, lC, bJ, bK]
        rfl
       refine bT (i := 1) (N := some 26) (v := ?_) (a' := ?_) #[true, true, false, false, false, false, false, false, false, false, false, false, false, false] rfl rfl (bM HT_.out (by kernel_rfl)) (fun _ _ _ h => h) (Or.inl ⟨by rfl, ?_⟩) ?_ ?_
       rotate_left
       ·intro w'
        go_simp
        with_reducible rfl
       rotate_left
       ·simp only [Act.put, lA, lB, lC, bJ, bK]
        rfl
       refine bT (i := 2) (N := some 27) (v := ?_) (a' := ?_) #[true, true, true, false, false, false, false, false, false, false, false, false, false, false] rfl rfl (bM HT_.out (by kernel_rfl)) (fun _ _ _ h => h) (Or.inl ⟨by rfl, ?_⟩) ?_ ?_
       rotate_left
       ·intro w'
        go_simp
        with_reducible rfl
       rotate_left
       ·simp only [Act.put, lA, lB, lC, bJ, bK]
        rfl
       refine bT (i := 3) (N := some 28) (v := ?_) (a' := ?_) #[true, true, true, true, false, false, false, false, false, false, false, false, false, false] rfl rfl (bM HT_.out (by kernel_rfl)) (fun _ _ _ h => h) (Or.inl ⟨by rfl, ?_⟩) ?_ ?_
       rotate_left
       ·intro w'
        go_simp
        with_reducible rfl
       rotate_left
       ·simp only [Act.put, lA, lB, lC, bJ, bK]
        rfl
       refine bT (i := 7) (N := some 32) (v := ?_) (a' := ?_) #[true, true, true, true, false, false, false, true, false, false, false, false, false, false] rfl rfl (bM HT_.out (by kernel_rfl)) (fun _ _ _ h => h) (Or.inl ⟨by rfl, ?_⟩) ?_ ?_
       rotate_left
       ·intro w'
        go_simp
        with_reducible rfl
       rotate_left
       ·simp only [Act.put, lA, lB, lC, bJ, bK]
        rfl
       refine one_ (i := 4) (N := some 29) #[true, true, true, true, true, false, false, true, false, false, false, false, false, false] rfl rfl (one_of HT_.out (by kernel_rfl)) (by decide) (fun K hK => ?_)
       refine goes_ Try.func69 (by kernel_rfl) rfl #[.pointer (some ⟨g, 0, none⟩), .int .i64 (y337.length : Int)] (by rfl) rfl rfl (by (try simp only [List.map_toArray, List.map_cons, List.map_nil]); first | done | rfl | (simp only [List.length_drop, List.length_take]; rfl)) ?_
       with_reducible refine (spec_l1Below.calls g s0_0 t341 t342 (y337.length : Int) t349 t350 t351 w0 _ ?side1 ?side2 A18.out).mono ?_
       (case side1 => repeat (first | (with_reducible first | exact HI0.out | apply IsS98.alloc | apply IsS98.drewN | apply IsS98.drew | apply IsS98.set_1 | apply IsS98.set_2) | exact HI0.out))
       (case side2 => repeat (first | (with_reducible first | exact HB.out | apply aU | apply aM | apply aT | refine aY ?_ (IsS98.ge HI0.out)) | exact HB.out))
       rintro e w29 ⟨rfl, hi, hb, hk⟩
       have HS0_ := keep_cell hk (hHeld) (by first | (rw [aZ]; exact Kd.own_blk (IsS98.own_ne HI0.out HO339.out (by decide))) | (show (Addr.add _ _).block ≠ _; rw [aZ]; exact Kd.own_blk (IsS98.own_ne HI0.out HO339.out (by decide))) | exact Kd.own_blk (IsS98.own_ne HI0.out HO339.out (by decide)))
       refine ⟨_, rfl, ?_⟩
       have n0_ := aK.mk (Kd.cA (Kd.R_keep (IsS98.apart (show IsS98 w0 _ g s0_0 t341 t342 from by repeat (first | (with_reducible first | exact HI0.out | apply IsS98.alloc | apply IsS98.drewN | apply IsS98.drew | apply IsS98.set_1 | apply IsS98.set_2) | exact HI0.out)) (by (with_reducible repeat (first | apply Kd.bE | apply Kd.bF | apply Kd.bG)); exact HO339.out) (by decide)) hk (fun _ h => h.2)) (fun _ h => h.1))
       have n1_ := aK.mk (KeepBut.trans (by repeat (first | (with_reducible first | exact HK.out | apply KeepBut.set_ | apply bB | apply bD | apply bA) | exact HK.out)) hk (.inl rfl))
       have n2_ := aK.mk (hb)
       have n3_ := aK.mk (hi)
       clear HO339
       clear HK
       clear HB
       clear HI0
       have HO339 := n0_
       have HK := n1_
       have HB := n2_
       have HI0 := n3_
       clear n0_ n1_ n2_ n3_
       (try clear hb)
       (try clear hb2)
       (try clear hk)
       (try clear hi)
       refine hK.out _ _ (HS0_) (fun hHeld => ?_)
       clear hK K
       refine norm_ (a' := ?_) ?_ ?_
       rotate_left
       ·show Act.put _ (some 29) _ = _
        simp only [Act.put, lA, lB, lC, bJ, bK]
        rfl
       refine bT (i := 5) (N := some 30) (v := ?_) (a' := ?_) #[true, true, true, true, true, true, false, true, false, false, false, false, false, false] rfl rfl (bM HT_.out (by kernel_rfl)) (fun _ _ _ h => h) (Or.inl ⟨by rfl, ?_⟩) ?_ ?_
       rotate_left
       ·intro w'
        go_simp
        with_reducible rfl
       rotate_left
       ·simp only [Act.put, lA, lB, lC, bJ, bK]
        rfl
       refine take_ (i := 6) (N := some 31) (v := ?_) (a' := ?_) #[true, true, true, true, true, true, true, true, false, false, false, false, false, false] rfl rfl (take_ofW HT_.out HW_.out (by kernel_rfl)) (fun _ _ _ h => h) (Or.inl ⟨by rfl, ?_⟩) hHeld ?_ ?_
       rotate_left
       ·intro w' s0
        go_simp
        with_reducible rfl
       rotate_left
       ·simp only [Act.put, lA, lB, lC, bJ, bK]
        rfl
       refine one_ (i := 8) (N := some 33) #[true, true, true, true, true, true, true, true, true, false, false, false, false, false] rfl rfl (one_of HT_.out (by kernel_rfl)) (by decide) (fun K hK => ?_)
       refine goes_ Try.func69 (by kernel_rfl) rfl #[.pointer (some ⟨g, 0, none⟩), .int .i64 255] (by rfl) rfl rfl (by (try simp only [List.map_toArray, List.map_cons, List.map_nil]); first | done | rfl | (simp only [List.length_drop, List.length_take]; rfl)) ?_
       with_reducible refine (spec_l1Below.calls g s0_0 t350 t351 255 t353 t354 t355 w0 _ ?side1 ?side2 A21.out).mono ?_
       (case side1 => repeat (first | (with_reducible first | exact HI0.out | apply IsS98.alloc | apply IsS98.drewN | apply IsS98.drew | apply IsS98.set_1 | apply IsS98.set_2) | exact HI0.out))
       (case side2 => repeat (first | (with_reducible first | exact HB.out | apply aU | apply aM | apply aT | refine aY ?_ (IsS98.ge HI0.out)) | exact HB.out))
       rintro e w30 ⟨rfl, hi, hb, hk⟩
       have HS0_ := keep_cell hk (hHeld) (by first | (rw [aZ]; exact Kd.own_blk (IsS98.own_ne HI0.out HO339.out (by decide))) | (show (Addr.add _ _).block ≠ _; rw [aZ]; exact Kd.own_blk (IsS98.own_ne HI0.out HO339.out (by decide))) | exact Kd.own_blk (IsS98.own_ne HI0.out HO339.out (by decide)))
       refine ⟨_, rfl, ?_⟩
       have n0_ := aK.mk (Kd.cA (Kd.R_keep (IsS98.apart (show IsS98 w0 _ g s0_0 t350 t351 from by repeat (first | (with_reducible first | exact HI0.out | apply IsS98.alloc | apply IsS98.drewN | apply IsS98.drew | apply IsS98.set_1 | apply IsS98.set_2) | exact HI0.out)) (by (with_reducible repeat (first | apply Kd.bE | apply Kd.bF | apply Kd.bG)); exact HO339.out) (by decide)) hk (fun _ h => h.2)) (fun _ h => h.1))
       have n1_ := aK.mk (KeepBut.trans (by repeat (first | (with_reducible first | exact HK.out | apply KeepBut.set_ | apply bB | apply bD | apply bA) | exact HK.out)) hk (.inl rfl))
       have n2_ := aK.mk (hb)
       have n3_ := aK.mk (hi)
       clear HO339
       clear HK
       clear HB
       clear HI0
       have HO339 := n0_
       have HK := n1_
       have HB := n2_
       have HI0 := n3_
       clear n0_ n1_ n2_ n3_
       (try clear hb)
       (try clear hb2)
       (try clear hk)
       (try clear hi)
       have p22 : 0 ≤ (t349 : Int) := lE (by first | (with_reducible assumption) | assumption)
       have q22 : (t349 : Int) < ((y337.length : Int) : Int) := lE (by first | (with_reducible assumption) | assumption)
       obtain ⟨go22, co22, eo22, gb22, gl22, cl22, HG22⟩ := Kd.R_form HO339.out (by omega)
       (first | cases eo22 | (injection eo22 with ea_ en_ ec_; (first | subst ea_ | (injection ea_ with ea_; subst ea_)); subst ec_; clear en_))
       have GB22 := aK.mk gb22
       have GG22 := aK.mk HG22
       clear gb22 gl22 HG22
       (first | simp only [add_plain] at hx352_0 | skip)
       obtain ⟨hx22_0, hf22_0⟩ := Kd.R_celln 0 HO339.out (t349 : Int) p22 q22
       replace p22 := eq_true p22
       replace q22 := eq_true q22
       have HN0_go22 := aK.mk (show g ≠ go22 from by have h_ := IsS98.own_ne HI0.out HO339.out (by decide); intro e_; exact h_ (by rw [e_]; rfl))
       have HP31 := Kd.R_putn HO339.out (t349 : Int) (Go.bits .xor .u8 (rd y337 t349) ((wrap64 (1 + t353)) % 256))
       rw [← Ny356.out] at HP31
       have HQ31 := aK.mk HP31
       clear HP31
       refine hK.out _ _ (HS0_) (fun hHeld => ?_)
       clear hK K
       refine norm_ (a' := ?_) ?_ ?_
       rotate_left
       ·show Act.put _ (some 33) _ = _
        simp only [Act.put, lA, lB, lC, bJ, bK]
        rfl
       refine bT (i := 9) (N := some 34) (v := ?_) (a' := ?_) #[true, true, true, true, true, true, true, true, true, true, false, false, false, false] rfl rfl (bM HT_.out (by kernel_rfl)) (fun _ _ _ h => h) (Or.inl ⟨by rfl, ?_⟩) ?_ ?_
       rotate_left
       ·intro w'
        go_simp
        with_reducible rfl
       rotate_left
       ·simp only [Act.put, lA, lB, lC, bJ, bK]
        rfl
       refine bT (i := 10) (N := some 35) (v := ?_) (a' := ?_) #[true, true, true, true, true, true, true, true, true, true, true, false, false, false] rfl rfl (bM HT_.out (by kernel_rfl)) (fun _ _ _ h => h) (Or.inl ⟨by rfl, ?_⟩) ?_ ?_
       rotate_left
       ·intro w'
        go_simp
        with_reducible rfl
       rotate_left
       ·simp only [Act.put, lA, lB, lC, bJ, bK]
        rfl
       refine bT (i := 11) (N := some 36) (v := ?_) (a' := ?_) #[true, true, true, true, true, true, true, true, true, true, true, true, false, false] rfl rfl (bM HT_.out (by kernel_rfl)) (fun _ _ _ h => h) (Or.inl ⟨by rfl, ?_⟩) ?_ ?_
       rotate_left
       ·intro w'
        go_simp
        with_reducible rfl
       rotate_left
       ·simp only [Act.put, lA, lB, lC, bJ, bK]
        rfl
       refine bT (i := 12) (N := some 37) (v := ?_) (a' := ?_) #[true, true, true, true, true, true, true, true, true, true, true, true, true, false] rfl rfl (bM HT_.out (by kernel_rfl)) (fun _ _ _ h => h) (Or.inl ⟨by rfl, ?_⟩) ?_ ?_
       rotate_left
       ·intro w'
        go_simp
        with_reducible rfl
       rotate_left
       ·simp only [Act.put, lA, lB, lC, bJ, bK]
        rfl
       refine last_ (i := 13) (N := none) #[true, true, true, true, true, true, true, true, true, true, true, true, true, true] rfl rfl (one_of HT_.out (by kernel_rfl)) (by decide) (fun K hK => ?_)
       refine skip_ (w1 := ?_) (by rfl) rfl ?_ ?_
       rotate_left
       ·go_simp
        rfl
       refine hK.out _ _ ?_
       clear hK K
       refine done_ (done_of HT_.out (by kernel_rfl)) ?_
       try go_wp2
       go_ret
       exact ⟨_, by first | rfl | (simp [errW_none, errW_some] <;> rfl) | (simp [*, errW_none, errW_some] <;> rfl), by (with_reducible repeat (first | apply Kd.bE | apply Kd.bF | apply Kd.bG)); exact HQ31.out, by repeat (first | (with_reducible first | exact HI0.out | apply IsS98.alloc | apply IsS98.drewN | apply IsS98.drew | apply IsS98.set_1 | apply IsS98.set_2 | apply IsS98.far (hne := HN0_go22.out)) | exact HI0.out), by repeat (first | (with_reducible first | exact HB.out | apply aU | apply aM | apply aT | refine aY ?_ (Nat.le_trans HL.out GB22.out) | refine aY ?_ (IsS98.ge HI0.out)) | exact HB.out), by repeat (first | (with_reducible first | exact HK.out | apply KeepBut.set_ | apply bB | apply bD | apply bA | refine bQ ?_ GB22.out _) | exact HK.out)⟩
      ·rw [if_neg c20] at H
       exact absurd H (by simp)
     ·rw [if_neg c19] at H
      exact absurd H (by simp)
    ·rw [if_neg c17] at H
     have c17b0 : decide (0 < (y337.length : Int)) = false := decide_eq_false c17
     have c17b1 : decide (0 < y337.length) = false := decide_eq_false (by omega)
     clear c17
     simp only [Option.some.injEq, Prod.mk.injEq] at H
     obtain ⟨rfl, rfl, rfl⟩ := H
     go_enter Try.func71, Try.ntmps71
     go_wp2_with (first | ((with_reducible refine bV (N := 6) rfl ?_); refine Kd.R_lit (Kd.int .u8) _ 5 ?hg (N := 6) ?hd (xs := ([] : List Int)) (inner := []) (ok := fun _ => True) (okp := fun _ => True) ?hr ?hp (fun _ hk => hk) trivial (Below.refl _ _) (Nat.le_refl _) (by simp) ?_; (case hd => rfl); (case hg => rfl); (case hr => first | (go_simp; done) | (go_simp; rfl)); (case hp => exact (Reps.none _ _)); intro v335 w32 ho33 hb hg_ hnew_; clear hg_ hnew_; (first | rw [← Ny334.out] at ho33 | (simp only [Int.reduceToNat] at ho33; rw [← Ny334.out] at ho33)); have n0_ := aK.mk (Kd.R_lower ho33 (bY (w := w) (g := g) (row := none) (by repeat (first | (with_reducible first | exact HK.out | apply KeepBut.set_ | apply bB | apply bD | apply bA) | exact HK.out)))); have n1_ := aK.mk (IsS98.below (by repeat (first | (with_reducible first | exact HI0.out | apply IsS98.alloc | apply IsS98.drewN | apply IsS98.drew | apply IsS98.set_1 | apply IsS98.set_2) | exact HI0.out)) hb); have n2_ := aK.mk (KeepBut.trans (by repeat (first | (with_reducible first | exact HK.out | apply KeepBut.set_ | apply bB | apply bD | apply bA) | exact HK.out)) (KeepBut.of_below hb g none) (.inl rfl)); have n3_ := aK.mk (bL (by repeat (first | (with_reducible first | exact HB.out | apply aU | apply aM | apply aT | refine aY ?_ (IsS98.ge HI0.out)) | exact HB.out)) hb); clear HI0; clear HK; clear HB; have HO336 := n0_; have HI0 := n1_; have HK := n2_; have HB := n3_; clear n0_ n1_ n2_ n3_; clear hb ho33) | ((with_reducible refine gate_builtin (b := .append) (xs := #[.tmp 6, .tmp 7]) rfl ?_); at_builtin; refine Kd.R_append_rows (Kd.int .u8) w.heap.size rfl (.tmp 6) (.tmp 7) 22 5 (.int .u8 0) 1 rfl Try.underlying22 info5 rfl (by decide) (by omega) v335 y334 l1 _ _ _ (fun _ => True) (fun _ => False) rfl rfl ?aO ?aR (fun _ _ h => h) (fun _ h => h.elim) ?aF (Below.refl _ _) ?aS ?aL ?_; (case aR => exact Kd.C_keep 0 HR1.out (by repeat (first | (with_reducible first | exact HK.out | apply KeepBut.set_ | apply bB | apply bD | apply bA) | exact HK.out)) hf1); (case aF => exact (fun _ _ => trivial)); (case aO => exact (by (with_reducible repeat (first | apply Kd.bE | apply Kd.bF | apply Kd.bG)); exact HO336.out)); (case aS => exact (bY (w := w) (g := g) (row := none) (by repeat (first | (with_reducible first | exact HK.out | apply KeepBut.set_ | apply bB | apply bD | apply bA) | exact HK.out)))); (case aL => have := LMc3.out; omega); intro v338 w34 ho hb hg hat; rw [← Ny337.out] at ho; have n0_ := aK.mk (IsS98.grown (by repeat (first | (with_reducible first | exact HI0.out | apply IsS98.alloc | apply IsS98.drewN | apply IsS98.drew | apply IsS98.set_1 | apply IsS98.set_2) | exact HI0.out)) hg (IsS98.own_ne HI0.out HO336.out (by decide))); have n1_ := aK.mk (below_weaken (by repeat (first | (with_reducible first | exact HB.out | apply aU | apply aM | apply aT | refine aY ?_ (IsS98.ge HI0.out)) | exact HB.out)) HL.out hb); have n2_ := aK.mk (KeepBut.trans (by repeat (first | (with_reducible first | exact HK.out | apply KeepBut.set_ | apply bB | apply bD | apply bA) | exact HK.out)) (KeepBut.of_grown hg g) (Kd.R_base2 HO336.out)); have n3_ := aK.mk (ho); clear HI0; clear HB; clear HK; clear HO336; have HI0 := n0_; have HB := n1_; have HK := n2_; have HO339 := n3_; clear n0_ n1_ n2_ n3_; clear ho hb hg hat) | ((with_reducible refine bR (f := 69) rfl ?_); refine bX (some 10) rfl rfl Try.func69 (by kernel_rfl) rfl #[.pointer (some ⟨g, 0, none⟩), .int .i64 5] rfl (by (try simp only [List.map_toArray, List.map_cons, List.map_nil]); first | done | rfl | (simp only [List.length_drop, List.length_take]; rfl)) ?_; (with_reducible refine (spec_l1Below.calls g s0_0 s0_1 s0_2 5 t340 t341 t342 w0 _ ?side1 ?side2 A4.out).mono ?_); (case side1 => repeat (first | (with_reducible first | exact HI0.out | apply IsS98.alloc | apply IsS98.drewN | apply IsS98.drew | apply IsS98.set_1 | apply IsS98.set_2) | exact HI0.out)); (case side2 => repeat (first | (with_reducible first | exact HB.out | apply aU | apply aM | apply aT | refine aY ?_ (IsS98.ge HI0.out)) | exact HB.out)); rintro e w35 ⟨rfl, hi, hb, hk⟩; refine ⟨_, rfl, ?_⟩; have n0_ := aK.mk (Kd.cA (Kd.R_keep (IsS98.apart (show IsS98 w0 _ g s0_0 s0_1 s0_2 from by repeat (first | (with_reducible first | exact HI0.out | apply IsS98.alloc | apply IsS98.drewN | apply IsS98.drew | apply IsS98.set_1 | apply IsS98.set_2) | exact HI0.out)) (by (with_reducible repeat (first | apply Kd.bE | apply Kd.bF | apply Kd.bG)); exact HO339.out) (by decide)) hk (fun _ h => h.2)) (fun _ h => h.1)); have n1_ := aK.mk (KeepBut.trans (by repeat (first | (with_reducible first | exact HK.out | apply KeepBut.set_ | apply bB | apply bD | apply bA) | exact HK.out)) hk (.inl rfl)); have n2_ := aK.mk (hb); have n3_ := aK.mk (hi); clear HO339; clear HK; clear HB; clear HI0; have HO339 := n0_; have HK := n1_; have HB := n2_; have HI0 := n3_; clear n0_ n1_ n2_ n3_; (try clear hb); (try clear hk); (try clear hi); obtain ⟨Ao36, co36, eo36⟩ := Kd.R_slice HO339.out; subst eo36))
     go_ret
     exact ⟨_, by first | rfl | (simp [errW_none, errW_some] <;> rfl) | (simp [*, errW_none, errW_some] <;> rfl), by (with_reducible repeat (first | apply Kd.bE | apply Kd.bF | apply Kd.bG)); exact HO339.out, by repeat (first | (with_reducible first | exact HI0.out | apply IsS98.alloc | apply IsS98.drewN | apply IsS98.drew | apply IsS98.set_1 | apply IsS98.set_2) | exact HI0.out), by repeat (first | (with_reducible first | exact HB.out | apply aU | apply aM | apply aT | refine aY ?_ (IsS98.ge HI0.out)) | exact HB.out), by repeat (first | (with_reducible first | exact HK.out | apply KeepBut.set_ | apply bB | apply bD | apply bA) | exact HK.out)⟩
   ·rw [if_neg c16] at H
    have c16b0 : (t340 == 1) = false := beq_eq_false_iff_ne.mpr c16
    have c16b1 : (t340 != 1) = true := bne_iff_ne.mpr c16
    simp only [Option.some.injEq, Prod.mk.injEq] at H
    obtain ⟨rfl, rfl, rfl⟩ := H
    go_enter Try.func71, Try.ntmps71
    go_wp2_with (first | ((with_reducible refine bV (N := 6) rfl ?_); refine Kd.R_lit (Kd.int .u8) _ 5 ?hg (N := 6) ?hd (xs := ([] : List Int)) (inner := []) (ok := fun _ => True) (okp := fun _ => True) ?hr ?hp (fun _ hk => hk) trivial (Below.refl _ _) (Nat.le_refl _) (by simp) ?_; (case hd => rfl); (case hg => rfl); (case hr => first | (go_simp; done) | (go_simp; rfl)); (case hp => exact (Reps.none _ _)); intro v335 w37 ho38 hb hg_ hnew_; clear hg_ hnew_; (first | rw [← Ny334.out] at ho38 | (simp only [Int.reduceToNat] at ho38; rw [← Ny334.out] at ho38)); have n0_ := aK.mk (Kd.R_lower ho38 (bY (w := w) (g := g) (row := none) (by repeat (first | (with_reducible first | exact HK.out | apply KeepBut.set_ | apply bB | apply bD | apply bA) | exact HK.out)))); have n1_ := aK.mk (IsS98.below (by repeat (first | (with_reducible first | exact HI0.out | apply IsS98.alloc | apply IsS98.drewN | apply IsS98.drew | apply IsS98.set_1 | apply IsS98.set_2) | exact HI0.out)) hb); have n2_ := aK.mk (KeepBut.trans (by repeat (first | (with_reducible first | exact HK.out | apply KeepBut.set_ | apply bB | apply bD | apply bA) | exact HK.out)) (KeepBut.of_below hb g none) (.inl rfl)); have n3_ := aK.mk (bL (by repeat (first | (with_reducible first | exact HB.out | apply aU | apply aM | apply aT | refine aY ?_ (IsS98.ge HI0.out)) | exact HB.out)) hb); clear HI0; clear HK; clear HB; have HO336 := n0_; have HI0 := n1_; have HK := n2_; have HB := n3_; clear n0_ n1_ n2_ n3_; clear hb ho38) | ((with_reducible refine gate_builtin (b := .append) (xs := #[.tmp 6, .tmp 7]) rfl ?_); at_builtin; refine Kd.R_append_rows (Kd.int .u8) w.heap.size rfl (.tmp 6) (.tmp 7) 22 5 (.int .u8 0) 1 rfl Try.underlying22 info5 rfl (by decide) (by omega) v335 y334 l1 _ _ _ (fun _ => True) (fun _ => False) rfl rfl ?aO ?aR (fun _ _ h => h) (fun _ h => h.elim) ?aF (Below.refl _ _) ?aS ?aL ?_; (case aR => exact Kd.C_keep 0 HR1.out (by repeat (first | (with_reducible first | exact HK.out | apply KeepBut.set_ | apply bB | apply bD | apply bA) | exact HK.out)) hf1); (case aF => exact (fun _ _ => trivial)); (case aO => exact (by (with_reducible repeat (first | apply Kd.bE | apply Kd.bF | apply Kd.bG)); exact HO336.out)); (case aS => exact (bY (w := w) (g := g) (row := none) (by repeat (first | (with_reducible first | exact HK.out | apply KeepBut.set_ | apply bB | apply bD | apply bA) | exact HK.out)))); (case aL => have := LMc3.out; omega); intro v338 w39 ho hb hg hat; rw [← Ny337.out] at ho; have n0_ := aK.mk (IsS98.grown (by repeat (first | (with_reducible first | exact HI0.out | apply IsS98.alloc | apply IsS98.drewN | apply IsS98.drew | apply IsS98.set_1 | apply IsS98.set_2) | exact HI0.out)) hg (IsS98.own_ne HI0.out HO336.out (by decide))); have n1_ := aK.mk (below_weaken (by repeat (first | (with_reducible first | exact HB.out | apply aU | apply aM | apply aT | refine aY ?_ (IsS98.ge HI0.out)) | exact HB.out)) HL.out hb); have n2_ := aK.mk (KeepBut.trans (by repeat (first | (with_reducible first | exact HK.out | apply KeepBut.set_ | apply bB | apply bD | apply bA) | exact HK.out)) (KeepBut.of_grown hg g) (Kd.R_base2 HO336.out)); have n3_ := aK.mk (ho); clear HI0; clear HB; clear HK; clear HO336; have HI0 := n0_; have HB := n1_; have HK := n2_; have HO339 := n3_; clear n0_ n1_ n2_ n3_; clear ho hb hg hat) | ((with_reducible refine bR (f := 69) rfl ?_); refine bX (some 10) rfl rfl Try.func69 (by kernel_rfl) rfl #[.pointer (some ⟨g, 0, none⟩), .int .i64 5] rfl (by (try simp only [List.map_toArray, List.map_cons, List.map_nil]); first | done | rfl | (simp only [List.length_drop, List.length_take]; rfl)) ?_; (with_reducible refine (spec_l1Below.calls g s0_0 s0_1 s0_2 5 t340 t341 t342 w0 _ ?side1 ?side2 A4.out).mono ?_); (case side1 => repeat (first | (with_reducible first | exact HI0.out | apply IsS98.alloc | apply IsS98.drewN | apply IsS98.drew | apply IsS98.set_1 | apply IsS98.set_2) | exact HI0.out)); (case side2 => repeat (first | (with_reducible first | exact HB.out | apply aU | apply aM | apply aT | refine aY ?_ (IsS98.ge HI0.out)) | exact HB.out)); rintro e w40 ⟨rfl, hi, hb, hk⟩; refine ⟨_, rfl, ?_⟩; have n0_ := aK.mk (Kd.cA (Kd.R_keep (IsS98.apart (show IsS98 w0 _ g s0_0 s0_1 s0_2 from by repeat (first | (with_reducible first | exact HI0.out | apply IsS98.alloc | apply IsS98.drewN | apply IsS98.drew | apply IsS98.set_1 | apply IsS98.set_2) | exact HI0.out)) (by (with_reducible repeat (first | apply Kd.bE | apply Kd.bF | apply Kd.bG)); exact HO339.out) (by decide)) hk (fun _ h => h.2)) (fun _ h => h.1)); have n1_ := aK.mk (KeepBut.trans (by repeat (first | (with_reducible first | exact HK.out | apply KeepBut.set_ | apply bB | apply bD | apply bA) | exact HK.out)) hk (.inl rfl)); have n2_ := aK.mk (hb); have n3_ := aK.mk (hi); clear HO339; clear HK; clear HB; clear HI0; have HO339 := n0_; have HK := n1_; have HB := n2_; have HI0 := n3_; clear n0_ n1_ n2_ n3_; (try clear hb); (try clear hk); (try clear hi)))
    go_ret
    exact ⟨_, by first | rfl | (simp [errW_none, errW_some] <;> rfl) | (simp [*, errW_none, errW_some] <;> rfl), by (with_reducible repeat (first | apply Kd.bE | apply Kd.bF | apply Kd.bG)); exact HO339.out, by repeat (first | (with_reducible first | exact HI0.out | apply IsS98.alloc | apply IsS98.drewN | apply IsS98.drew | apply IsS98.set_1 | apply IsS98.set_2) | exact HI0.out), by repeat (first | (with_reducible first | exact HB.out | apply aU | apply aM | apply aT | refine aY ?_ (IsS98.ge HI0.out)) | exact HB.out), by repeat (first | (with_reducible first | exact HK.out | apply KeepBut.set_ | apply bB | apply bD | apply bA) | exact HK.out)⟩
 ·rw [if_neg c3] at H
  exact absurd H (by simp)
def spec_l1At.f (s0_0 : List Int) (s0_1 : Int) (s0_2 : Int) (l1 : List Int) : Option (Int × Int × Int) := (spec_l1Int.f s0_0 s0_1 s0_2 (([0, 0, 0, 1, 2, (l1.length : Int), wrap64 ((l1.length : Int) - 1), (-1), 9223372036854775807] : List Int))).bind fun bt360 => (some (bt360.1, bt360.2.1, bt360.2.2))
set_option maxHeartbeats 8000000 in
set_option maxRecDepth 100000 in
theorem spec_l1At.calls (g : Nat) (s0_0 : List Int) (s0_1 : Int) (s0_2 : Int) (A1 : Option Addr) (c1 : Nat) (l1 : List Int) (r1 : Int) (r2 : Int) (r3 : Int) (w0 w : World) (hI : IsS98 w0 w g s0_0 s0_1 s0_2) (hB : Below w0.heap.size w0 w) (hr1 : Kd.C (Kd.int .u8) w A1 l1.length l1) (hc1 : l1.length ≤ c1) (hf1 : ∀ ad, A1 = some ad → 0 < l1.length → ad.block ≠ g) (h : spec_l1At.f s0_0 s0_1 s0_2 l1 = some (r1, r2, r3)) :
  Calls Try.prog 73 #[.pointer (some ⟨g, 0, none⟩), .slice A1 l1.length c1] w fun e w' => e = .returned (.int .i64 r1) ∧ IsS98 w0 w' g s0_0 r2 r3 ∧ Below w0.heap.size w0 w' ∧ KeepBut w w' g none := by
 have HR1 := aK.mk hr1
 have HC1 := aK.mk hc1
 clear hr1 hc1
 have HI0 := aK.mk hI
 have HK := aK.mk (KeepBut.refl w g none)
 have HL := aK.mk hB.size
 clear hI
 have HW0 := aK.mk hB.size
 have HB := aK.mk hB
 clear hB
 have H : ((spec_l1Int.f s0_0 s0_1 s0_2 (([0, 0, 0, 1, 2, (l1.length : Int), wrap64 ((l1.length : Int) - 1), (-1), 9223372036854775807] : List Int))).bind fun bt360 => (some (bt360.1, bt360.2.1, bt360.2.2))) = some (r1, r2, r3) := h
 clear h
 obtain ⟨y357, hy357⟩ : ∃ y_ : List Int, y_ = (([0, 0, 0, 1, 2, (l1.length : Int), wrap64 ((l1.length : Int) - 1), (-1), 9223372036854775807] : List Int)) := ⟨_, rfl⟩
 replace H : ((spec_l1Int.f s0_0 s0_1 s0_2 y357).bind fun bt360 => (some (bt360.1, bt360.2.1, bt360.2.2))) = some (r1, r2, r3) := by first | (rw [hy357]; with_reducible exact H) | (have H2_ := (Option.bind_some _ _).symm.trans H; rw [hy357]; with_reducible exact H2_) | (have H2_ := (Option.bind_some _ _).symm.trans H; with_reducible exact H2_) | with_reducible exact H | (rw [hy357]; exact H) | exact H
 have Ny357 := aK.mk hy357
 clear hy357
 replace H := lF H
 obtain ⟨⟨t360, t361, t362⟩, A30, H⟩ := H
 replace H : (some (t360, t361, t362)) = some (r1, r2, r3) := H
 have A3 := aK.mk A30
 clear A30
 simp only [Option.some.injEq, Prod.mk.injEq] at H
 obtain ⟨rfl, rfl, rfl⟩ := H
 go_enter Try.func73, Try.ntmps73
 go_wp2_with (first | ((with_reducible refine bV (N := 11) rfl ?_); refine Kd.R_lit (Kd.int .i64) _ 3 ?hg (N := 11) ?hd (xs := ([0, 0, 0, 1, 2, (l1.length : Int), wrap64 ((l1.length : Int) - 1), (-1), 9223372036854775807] : List Int)) (inner := [.int .i64 0, .int .i64 0, .int .i64 0, .int .i64 1, .int .i64 2, .int .i64 (l1.length : Int), .int .i64 (wrap64 ((l1.length : Int) - 1)), .int .i64 (-1), .int .i64 9223372036854775807]) (ok := fun _ => True) (okp := fun _ => True) ?hr ?hp (fun _ hk => hk) trivial (Below.refl _ _) (Nat.le_refl _) (by simp) ?_; (case hd => rfl); (case hg => rfl); (case hr => first | (go_simp; done) | (go_simp; rfl)); (case hp => exact (Reps.one (show Kd.M (Kd.int .i64) _ _ _ 0 [.int .i64 0] from rfl) (Reps.one (show Kd.M (Kd.int .i64) _ _ _ 0 [.int .i64 0] from rfl) (Reps.one (show Kd.M (Kd.int .i64) _ _ _ 0 [.int .i64 0] from rfl) (Reps.one (show Kd.M (Kd.int .i64) _ _ _ 1 [.int .i64 1] from rfl) (Reps.one (show Kd.M (Kd.int .i64) _ _ _ 2 [.int .i64 2] from rfl) (Reps.one (show Kd.M (Kd.int .i64) _ _ _ (l1.length : Int) [.int .i64 (l1.length : Int)] from rfl) (Reps.one (show Kd.M (Kd.int .i64) _ _ _ (wrap64 ((l1.length : Int) - 1)) [.int .i64 (wrap64 ((l1.length : Int) - 1))] from rfl) (Reps.one (show Kd.M (Kd.int .i64) _ _ _ (-1) [.int .i64 (-1)] from rfl) (Reps.one (show Kd.M (Kd.int .i64) _ _ _ 9223372036854775807 [.int .i64 9223372036854775807] from rfl) (Reps.none _ _))))))))))); intro v358 w4 ho5 hb hg_ hnew_; clear hg_ hnew_; (first | rw [← Ny357.out] at ho5 | (simp only [Int.reduceToNat] at ho5; rw [← Ny357.out] at ho5)); have n0_ := aK.mk (Kd.R_lower ho5 (bY (w := w) (g := g) (row := none) (by repeat (first | (with_reducible first | exact HK.out | apply KeepBut.set_ | apply bB | apply bD | apply bA) | exact HK.out)))); have n1_ := aK.mk (IsS98.below (by repeat (first | (with_reducible first | exact HI0.out | apply IsS98.alloc | apply IsS98.drewN | apply IsS98.drew | apply IsS98.set_1 | apply IsS98.set_2) | exact HI0.out)) hb); have n2_ := aK.mk (KeepBut.trans (by repeat (first | (with_reducible first | exact HK.out | apply KeepBut.set_ | apply bB | apply bD | apply bA) | exact HK.out)) (KeepBut.of_below hb g none) (.inl rfl)); have n3_ := aK.mk (bL (by repeat (first | (with_reducible first | exact HB.out | apply aU | apply aM | apply aT | refine aY ?_ (IsS98.ge HI0.out)) | exact HB.out)) hb); clear HI0; clear HK; clear HB; have HO359 := n0_; have HI0 := n1_; have HK := n2_; have HB := n3_; clear n0_ n1_ n2_ n3_; clear hb ho5; obtain ⟨Ao6, co6, eo6⟩ := Kd.R_slice HO359.out; subst eo6) | ((with_reducible refine bR (f := 87) rfl ?_); refine bX (some 12) rfl rfl Try.func87 (by kernel_rfl) rfl #[.pointer (some ⟨g, 0, none⟩), .slice Ao6 y357.length co6] rfl (by (try simp only [List.map_toArray, List.map_cons, List.map_nil]); first | done | rfl | (simp only [List.length_drop, List.length_take]; rfl)) ?_; (with_reducible refine (spec_l1Int.calls g s0_0 s0_1 s0_2 _ _ y357 t360 t361 t362 w0 _ ?side1 ?side2 ?side3 ?side4 ?side5 A3.out).mono ?_); (case side1 => repeat (first | (with_reducible first | exact HI0.out | apply IsS98.alloc | apply IsS98.drewN | apply IsS98.drew | apply IsS98.set_1 | apply IsS98.set_2) | exact HI0.out)); (case side2 => repeat (first | (with_reducible first | exact HB.out | apply aU | apply aM | apply aT | refine aY ?_ (IsS98.ge HI0.out)) | exact HB.out)); (case side3 => repeat (first | exact (Kd.R_reads' HO359.out).2.2 | (with_reducible refine Kd.cD ?_ _) | (with_reducible refine Kd.cC ?_ _) | (with_reducible refine Kd.C_drew ?_))); (case side4 => exact (Kd.R_reads' HO359.out).2.1); (case side5 => exact far_slice (IsS98.own_ne HI0.out HO359.out (by decide))); rintro e w7 ⟨rfl, hi, hb, hk⟩; refine ⟨_, rfl, ?_⟩; have n0_ := aK.mk (Kd.cA (Kd.R_keep (IsS98.apart (show IsS98 w0 _ g s0_0 s0_1 s0_2 from by repeat (first | (with_reducible first | exact HI0.out | apply IsS98.alloc | apply IsS98.drewN | apply IsS98.drew | apply IsS98.set_1 | apply IsS98.set_2) | exact HI0.out)) (by (with_reducible repeat (first | apply Kd.bE | apply Kd.bF | apply Kd.bG)); exact HO359.out) (by decide)) hk (fun _ h => h.2)) (fun _ h => h.1)); have n1_ := aK.mk (KeepBut.trans (by repeat (first | (with_reducible first | exact HK.out | apply KeepBut.set_ | apply bB | apply bD | apply bA) | exact HK.out)) hk (.inl rfl)); have n2_ := aK.mk (hb); have n3_ := aK.mk (hi); clear HO359; clear HK; clear HB; clear HI0; have HO359 := n0_; have HK := n1_; have HB := n2_; have HI0 := n3_; clear n0_ n1_ n2_ n3_; (try clear hb); (try clear hk); (try clear hi)))
 go_ret
 exact ⟨by first | rfl | (simp [errW_none, errW_some] <;> rfl) | (simp [*, errW_none, errW_some] <;> rfl), by repeat (first | (with_reducible first | exact HI0.out | apply IsS98.alloc | apply IsS98.drewN | apply IsS98.drew | apply IsS98.set_1 | apply IsS98.set_2) | exact HI0.out), by repeat (first | (with_reducible first | exact HB.out | apply aU | apply aM | apply aT | refine aY ?_ (IsS98.ge HI0.out)) | exact HB.out), by repeat (first | (with_reducible first | exact HK.out | apply KeepBut.set_ | apply bB | apply bD | apply bA) | exact HK.out)⟩
def spec_DrawGetKey.f (k : Nat) (l0 : List Int) : Option (List Int × Int) := (spec_l1New.f k l0).bind fun bt363 => ((spec_l3Draw.f bt363.1 bt363.2.1 bt363.2.2).bind fun bt370 => ((spec_PutKey.f k (([] : List Int)) bt370.1 bt370.2.1 bt370.2.2.1 bt370.2.2.2.1 bt370.2.2.2.2.1).bind fun t377 => ((spec_l1Bend.f bt363.1 bt370.2.2.2.2.2.1 bt370.2.2.2.2.2.2 t377).bind fun bt380 => ((spec_l1At.f bt363.1 bt380.2.1 bt380.2.2 bt380.1).bind fun bt385 => (some (bt380.1, bt385.1))))))
set_option maxHeartbeats 8000000 in
set_option maxRecDepth 100000 in
theorem spec_DrawGetKey.calls (k : Nat) (A0 : Option Addr) (c0 : Nat) (l0 : List Int) (r1 : List Int) (r2 : Int) (w : World) (hr0 : Kd.C (Kd.int .u8) w A0 l0.length l0) (hc0 : l0.length ≤ c0) (h : spec_DrawGetKey.f k l0 = some (r1, r2)) :
  Calls Try.prog 26 #[.slice A0 l0.length c0] w fun e w' => ∃ v0_ : Value, e = .returned (.tuple #[v0_, .int .i64 r2]) ∧ Kd.R (Kd.int .u8) 5 w' w.heap.size (fun _ => True) v0_ r1 ∧ Below w.heap.size w w' := by
 have HR0 := aK.mk hr0
 have HC0 := aK.mk hc0
 clear hr0 hc0
 have HB := aK.mk (Below.refl w.heap.size w)
 have H : ((spec_l1New.f k l0).bind fun bt363 => ((spec_l3Draw.f bt363.1 bt363.2.1 bt363.2.2).bind fun bt370 => ((spec_PutKey.f k (([] : List Int)) bt370.1 bt370.2.1 bt370.2.2.1 bt370.2.2.2.1 bt370.2.2.2.2.1).bind fun t377 => ((spec_l1Bend.f bt363.1 bt370.2.2.2.2.2.1 bt370.2.2.2.2.2.2 t377).bind fun bt380 => ((spec_l1At.f bt363.1 bt380.2.1 bt380.2.2 bt380.1).bind fun bt385 => (some (bt380.1, bt385.1))))))) = some (r1, r2) := h
 clear h
 replace H := lF H
 obtain ⟨⟨t363, t364, t365⟩, A20, H⟩ := H
 replace H : ((spec_l3Draw.f t363 t364 t365).bind fun bt370 => ((spec_PutKey.f k (([] : List Int)) bt370.1 bt370.2.1 bt370.2.2.1 bt370.2.2.2.1 bt370.2.2.2.2.1).bind fun t377 => ((spec_l1Bend.f t363 bt370.2.2.2.2.2.1 bt370.2.2.2.2.2.2 t377).bind fun bt380 => ((spec_l1At.f t363 bt380.2.1 bt380.2.2 bt380.1).bind fun bt385 => (some (bt380.1, bt385.1)))))) = some (r1, r2) := H
 have A2 := aK.mk A20
 clear A20
 obtain ⟨y367, hy367⟩ : ∃ y_ : List Int, y_ = (([] : List Int)) := ⟨_, rfl⟩
 replace H : ((spec_l3Draw.f t363 t364 t365).bind fun bt370 => ((spec_PutKey.f k y367 bt370.1 bt370.2.1 bt370.2.2.1 bt370.2.2.2.1 bt370.2.2.2.2.1).bind fun t377 => ((spec_l1Bend.f t363 bt370.2.2.2.2.2.1 bt370.2.2.2.2.2.2 t377).bind fun bt380 => ((spec_l1At.f t363 bt380.2.1 bt380.2.2 bt380.1).bind fun bt385 => (some (bt380.1, bt385.1)))))) = some (r1, r2) := by first | (rw [hy367]; with_reducible exact H) | (have H2_ := (Option.bind_some _ _).symm.trans H; rw [hy367]; with_reducible exact H2_) | (have H2_ := (Option.bind_some _ _).symm.trans H; with_reducible exact H2_) | with_reducible exact H | (rw [hy367]; exact H) | exact H
 have Ny367 := aK.mk hy367
 clear hy367
 replace H := lF H
 obtain ⟨⟨t370, t371, t372, t373, t374, t375, t376⟩, A30, H⟩ := H
 replace H : ((spec_PutKey.f k y367 t370 t371 t372 t373 t374).bind fun t377 => ((spec_l1Bend.f t363 t375 t376 t377).bind fun bt380 => ((spec_l1At.f t363 bt380.2.1 bt380.2.2 bt380.1).bind fun bt385 => (some (bt380.1, bt385.1))))) = some (r1, r2) := H
 have A3 := aK.mk A30
 clear A30
 replace H := lF H
 obtain ⟨t377, A40, H⟩ := H
 replace H : ((spec_l1Bend.f t363 t375 t376 t377).bind fun bt380 => ((spec_l1At.f t363 bt380.2.1 bt380.2.2 bt380.1).bind fun bt385 => (some (bt380.1, bt385.1)))) = some (r1, r2) := H
 have A4 := aK.mk A40
 clear A40
 replace H := lF H
 obtain ⟨⟨t380, t383, t384⟩, A50, H⟩ := H
 replace H : ((spec_l1At.f t363 t383 t384 t380).bind fun bt385 => (some (t380, bt385.1))) = some (r1, r2) := H
 have A5 := aK.mk A50
 clear A50
 replace H := lF H
 obtain ⟨⟨t385, t386, t387⟩, A60, H⟩ := H
 replace H : (some (t380, t385)) = some (r1, r2) := H
 have A6 := aK.mk A60
 clear A60
 simp only [Option.some.injEq, Prod.mk.injEq] at H
 obtain ⟨rfl, rfl⟩ := H
 go_enter Try.func26, Try.ntmps26
 go_wp2_with (first | ((with_reducible refine bR (f := 67) rfl ?_); refine bX (some 7) rfl rfl Try.func67 (by kernel_rfl) rfl #[.slice A0 l0.length c0] rfl (by (try simp only [List.map_toArray, List.map_cons, List.map_nil]); first | done | rfl | (simp only [List.length_drop, List.length_take]; rfl)) ?_; (with_reducible refine (spec_l1New.calls k _ _ l0 t363 t364 t365 w _ ?side1 ?side2 ?side3 A2.out).mono ?_); (case side1 => repeat (first | (with_reducible first | exact HB.out | apply aU | apply aM | apply aT) | exact HB.out)); (case side2 => exact HR0.out); (case side3 => exact HC0.out); rintro e w7 ⟨g366, rfl, hi, hb, hb2⟩; refine ⟨_, rfl, ?_⟩; have n0_ := aK.mk (hb); have n1_ := aK.mk (hi); clear HB; have HB := n0_; have HI366 := n1_; clear n0_ n1_; (try clear hb); (try clear hb2); (try clear hk); (try clear hi)) | ((with_reducible refine bV (N := 9) rfl ?_); refine Kd.R_lit (Kd.int .u8) _ 5 ?hg (N := 9) ?hd (xs := ([] : List Int)) (inner := []) (ok := fun _ => True) (okp := fun _ => True) ?hr ?hp (fun _ hk => hk) trivial (Below.refl _ _) (Nat.le_refl _) (by simp) ?_; (case hd => rfl); (case hg => rfl); (case hr => first | (go_simp; done) | (go_simp; rfl)); (case hp => exact (Reps.none _ _)); intro v368 w8 ho9 hb hg_ hnew_; clear hg_ hnew_; (first | rw [← Ny367.out] at ho9 | (simp only [Int.reduceToNat] at ho9; rw [← Ny367.out] at ho9)); have n0_ := aK.mk (Kd.R_lower ho9 (bN (by repeat (first | (with_reducible first | exact HB.out | apply aU | apply aM | apply aT | refine aY ?_ (IsS98.ge HI366.out)) | exact HB.out)))); have n1_ := aK.mk (IsS98.below (by repeat (first | (with_reducible first | exact HI366.out | apply IsS98.alloc | apply IsS98.drewN | apply IsS98.drew | apply IsS98.set_1 | apply IsS98.set_2) | exact HI366.out)) hb); have n2_ := aK.mk (bL (by repeat (first | (with_reducible first | exact HB.out | apply aU | apply aM | apply aT | refine aY ?_ (IsS98.ge HI366.out)) | exact HB.out)) hb); clear HI366; clear HB; have HO369 := n0_; have HI366 := n1_; have HB := n2_; clear n0_ n1_ n2_; clear hb ho9) | ((with_reducible refine bR (f := 72) rfl ?_); refine bX (some 11) rfl rfl Try.func72 (by kernel_rfl) rfl #[.pointer (some ⟨g366, 0, none⟩)] rfl (by (try simp only [List.map_toArray, List.map_cons, List.map_nil]); first | done | rfl | (simp only [List.length_drop, List.length_take]; rfl)) ?_; (with_reducible refine (spec_l3Draw.calls g366 t363 t364 t365 t370 t371 t372 t373 t374 t375 t376 w _ ?side1 ?side2 A3.out).mono ?_); (case side1 => repeat (first | (with_reducible first | exact HI366.out | apply IsS98.alloc | apply IsS98.drewN | apply IsS98.drew | apply IsS98.set_1 | apply IsS98.set_2) | exact HI366.out)); (case side2 => repeat (first | (with_reducible first | exact HB.out | apply aU | apply aM | apply aT | refine aY ?_ (IsS98.ge HI366.out)) | exact HB.out)); rintro e w10 ⟨rfl, hi, hb, hk⟩; refine ⟨_, rfl, ?_⟩; have n0_ := aK.mk (Kd.cA (Kd.R_keep (IsS98.apart (show IsS98 w _ g366 t363 t364 t365 from by repeat (first | (with_reducible first | exact HI366.out | apply IsS98.alloc | apply IsS98.drewN | apply IsS98.drew | apply IsS98.set_1 | apply IsS98.set_2) | exact HI366.out)) (by (with_reducible repeat (first | apply Kd.bE | apply Kd.bF | apply Kd.bG)); exact HO369.out) (by decide)) hk (fun _ h => h.2)) (fun _ h => h.1)); have n1_ := aK.mk (hb); have n2_ := aK.mk (hi); clear HO369; clear HB; clear HI366; have HO369 := n0_; have HB := n1_; have HI366 := n2_; clear n0_ n1_ n2_; (try clear hb); (try clear hb2); (try clear hk); (try clear hi); obtain ⟨Ao11, co11, eo11⟩ := Kd.R_slice HO369.out; subst eo11) | ((with_reducible refine bR (f := 14) rfl ?_); refine bX (some 12) rfl rfl Try.func14 (by kernel_rfl) rfl #[.slice Ao11 y367.length co11, .agg #[.int .i64 t370, .int .i64 t371, .int .i64 t372, .int .i64 t373, .int .i64 t374]] rfl (by (try simp only [List.map_toArray, List.map_cons, List.map_nil]); first | done | rfl | (simp only [List.length_drop, List.length_take]; rfl)) ?_; (with_reducible refine (spec_PutKey.calls k _ _ y367 t370 t371 t372 t373 t374 t377 _ ?side1 ?side2 A4.out).mono ?_); (case side1 => repeat (first | exact (Kd.R_reads' HO369.out).2.2 | (with_reducible refine Kd.cD ?_ _) | (with_reducible refine Kd.cC ?_ _) | (with_reducible refine Kd.C_drew ?_))); (case side2 => exact (Kd.R_reads' HO369.out).2.1); rintro e w12 ⟨v378, rfl, ho0, hb⟩; refine ⟨_, rfl, ?_⟩; have n0_ := aK.mk (Kd.R_elder' (by (with_reducible repeat (first | apply Kd.bE | apply Kd.bF | apply Kd.bG)); exact HO369.out) (Kd.R_base ho0) hb); have n1_ := aK.mk (Kd.R_lower (Kd.R_new' ho0 (Kd.R_lt (by (with_reducible repeat (first | apply Kd.bE | apply Kd.bF | apply Kd.bG)); exact HO369.out))) (bN (by repeat (first | (with_reducible first | exact HB.out | apply aU | apply aM | apply aT | refine aY ?_ (IsS98.ge HI366.out)) | exact HB.out)))); have n2_ := aK.mk (IsS98.below (by repeat (first | (with_reducible first | exact HI366.out | apply IsS98.alloc | apply IsS98.drewN | apply IsS98.drew | apply IsS98.set_1 | apply IsS98.set_2) | exact HI366.out)) hb); have n3_ := aK.mk (bL (by repeat (first | (with_reducible first | exact HB.out | apply aU | apply aM | apply aT | refine aY ?_ (IsS98.ge HI366.out)) | exact HB.out)) hb); clear HO369; clear HI366; clear HB; have HO369 := n0_; have HO379 := n1_; have HI366 := n2_; have HB := n3_; clear n0_ n1_ n2_ n3_; (try clear hb); (try clear hb2); (try clear hk); (try clear hi); (try clear ho0); obtain ⟨Ao13, co13, eo13⟩ := Kd.R_slice HO379.out; subst eo13) | ((with_reducible refine bR (f := 71) rfl ?_); refine bX (some 13) rfl rfl Try.func71 (by kernel_rfl) rfl #[.pointer (some ⟨g366, 0, none⟩), .slice Ao13 t377.length co13] rfl (by (try simp only [List.map_toArray, List.map_cons, List.map_nil]); first | done | rfl | (simp only [List.length_drop, List.length_take]; rfl)) ?_; (with_reducible refine (spec_l1Bend.calls g366 t363 t375 t376 _ _ t377 t380 t383 t384 w _ ?side1 ?side2 ?side3 ?side4 ?side5 A5.out).mono ?_); (case side1 => repeat (first | (with_reducible first | exact HI366.out | apply IsS98.alloc | apply IsS98.drewN | apply IsS98.drew | apply IsS98.set_1 | apply IsS98.set_2) | exact HI366.out)); (case side2 => repeat (first | (with_reducible first | exact HB.out | apply aU | apply aM | apply aT | refine aY ?_ (IsS98.ge HI366.out)) | exact HB.out)); (case side3 => repeat (first | exact (Kd.R_reads' HO379.out).2.2 | (with_reducible refine Kd.cD ?_ _) | (with_reducible refine Kd.cC ?_ _) | (with_reducible refine Kd.C_drew ?_))); (case side4 => exact (Kd.R_reads' HO379.out).2.1); (case side5 => exact far_slice (IsS98.own_ne HI366.out HO379.out (by decide))); rintro e w14 ⟨v381, rfl, ho0, hi, hb, hk⟩; refine ⟨_, rfl, ?_⟩; have n0_ := aK.mk (Kd.cA (Kd.R_told (Kd.R_oldK (IsS98.apart (show IsS98 w _ g366 t363 t375 t376 from by repeat (first | (with_reducible first | exact HI366.out | apply IsS98.alloc | apply IsS98.drewN | apply IsS98.drew | apply IsS98.set_1 | apply IsS98.set_2) | exact HI366.out)) (by (with_reducible repeat (first | apply Kd.bE | apply Kd.bF | apply Kd.bG)); exact HO369.out) (by decide)) hk) (Kd.R_base ho0)) (fun _ h_ => h_.1)); have n1_ := aK.mk (Kd.cA (Kd.R_told (Kd.R_oldK (IsS98.apart (show IsS98 w _ g366 t363 t375 t376 from by repeat (first | (with_reducible first | exact HI366.out | apply IsS98.alloc | apply IsS98.drewN | apply IsS98.drew | apply IsS98.set_1 | apply IsS98.set_2) | exact HI366.out)) (by (with_reducible repeat (first | apply Kd.bE | apply Kd.bF | apply Kd.bG)); exact HO379.out) (by decide)) hk) (Kd.R_base ho0)) (fun _ h_ => h_.1)); have n2_ := aK.mk (Kd.R_lower (Kd.R_new' (Kd.R_new' ho0 (Kd.R_lt (by (with_reducible repeat (first | apply Kd.bE | apply Kd.bF | apply Kd.bG)); exact HO369.out))) (Kd.R_lt (by (with_reducible repeat (first | apply Kd.bE | apply Kd.bF | apply Kd.bG)); exact HO379.out))) (bN (by repeat (first | (with_reducible first | exact HB.out | apply aU | apply aM | apply aT | refine aY ?_ (IsS98.ge HI366.out)) | exact HB.out)))); have n3_ := aK.mk (hb); have n4_ := aK.mk (hi); clear HO369; clear HO379; clear HB; clear HI366; have HO369 := n0_; have HO379 := n1_; have HO382 := n2_; have HB := n3_; have HI366 := n4_; clear n0_ n1_ n2_ n3_ n4_; (try clear hb); (try clear hb2); (try clear hk); (try clear hi); (try clear ho0); obtain ⟨Ao15, co15, eo15⟩ := Kd.R_slice HO382.out; subst eo15) | ((with_reducible refine bR (f := 73) rfl ?_); refine bX (some 17) rfl rfl Try.func73 (by kernel_rfl) rfl #[.pointer (some ⟨g366, 0, none⟩), .slice Ao15 t380.length co15] rfl (by (try simp only [List.map_toArray, List.map_cons, List.map_nil]); first | done | rfl | (simp only [List.length_drop, List.length_take]; rfl)) ?_; (with_reducible refine (spec_l1At.calls g366 t363 t383 t384 _ _ t380 t385 t386 t387 w _ ?side1 ?side2 ?side3 ?side4 ?side5 A6.out).mono ?_); (case side1 => repeat (first | (with_reducible first | exact HI366.out | apply IsS98.alloc | apply IsS98.drewN | apply IsS98.drew | apply IsS98.set_1 | apply IsS98.set_2) | exact HI366.out)); (case side2 => repeat (first | (with_reducible first | exact HB.out | apply aU | apply aM | apply aT | refine aY ?_ (IsS98.ge HI366.out)) | exact HB.out)); (case side3 => repeat (first | exact (Kd.R_reads' HO382.out).2.2 | (with_reducible refine Kd.cD ?_ _) | (with_reducible refine Kd.cC ?_ _) | (with_reducible refine Kd.C_drew ?_))); (case side4 => exact (Kd.R_reads' HO382.out).2.1); (case side5 => exact far_slice (IsS98.own_ne HI366.out HO382.out (by decide))); rintro e w16 ⟨rfl, hi, hb, hk⟩; refine ⟨_, rfl, ?_⟩; have n0_ := aK.mk (Kd.cA (Kd.R_keep (IsS98.apart (show IsS98 w _ g366 t363 t383 t384 from by repeat (first | (with_reducible first | exact HI366.out | apply IsS98.alloc | apply IsS98.drewN | apply IsS98.drew | apply IsS98.set_1 | apply IsS98.set_2) | exact HI366.out)) (by (with_reducible repeat (first | apply Kd.bE | apply Kd.bF | apply Kd.bG)); exact HO369.out) (by decide)) hk (fun _ h => h.2)) (fun _ h => h.1)); have n1_ := aK.mk (Kd.cA (Kd.R_keep (IsS98.apart (show IsS98 w _ g366 t363 t383 t384 from by repeat (first | (with_reducible first | exact HI366.out | apply IsS98.alloc | apply IsS98.drewN | apply IsS98.drew | apply IsS98.set_1 | apply IsS98.set_2) | exact HI366.out)) (by (with_reducible repeat (first | apply Kd.bE | apply Kd.bF | apply Kd.bG)); exact HO379.out) (by decide)) hk (fun _ h => h.2)) (fun _ h => h.1)); have n2_ := aK.mk (Kd.cA (Kd.R_keep (IsS98.apart (show IsS98 w _ g366 t363 t383 t384 from by repeat (first | (with_reducible first | exact HI366.out | apply IsS98.alloc | apply IsS98.drewN | apply IsS98.drew | apply IsS98.set_1 | apply IsS98.set_2) | exact HI366.out)) (by (with_reducible repeat (first | apply Kd.bE | apply Kd.bF | apply Kd.bG)); exact HO382.out) (by decide)) hk (fun _ h => h.2)) (fun _ h => h.1)); have n3_ := aK.mk (hb); have n4_ := aK.mk (hi); clear HO369; clear HO379; clear HO382; clear HB; clear HI366; have HO369 := n0_; have HO379 := n1_; have HO382 := n2_; have HB := n3_; have HI366 := n4_; clear n0_ n1_ n2_ n3_ n4_; (try clear hb); (try clear hb2); (try clear hk); (try clear hi)))
 go_ret2
 exact ⟨_, by first | rfl | (simp [errW_none, errW_some] <;> rfl) | (simp [*, errW_none, errW_some] <;> rfl), by (with_reducible repeat (first | apply Kd.bE | apply Kd.bF | apply Kd.bG)); exact Kd.cA HO382.out (fun _ hk => trivial), by repeat (first | (with_reducible first | exact HB.out | apply aU | apply aM | apply aT | refine aY ?_ (IsS98.ge HI366.out)) | exact HB.out)⟩
def spec_DrawLessKey.f (k : Nat) (l0 : List Int) : Option (Int × Int × Int × Int × Int × Int × Int × Int × Int × Int) := (spec_l1New.f k l0).bind fun bt390 => ((spec_l3Any.f bt390.1 bt390.2.1 bt390.2.2).bind fun bt394 => ((spec_l3Any.f bt390.1 bt394.2.2.2.2.2.1 bt394.2.2.2.2.2.2).bind fun bt402 => (some (bt394.1, bt394.2.1, bt394.2.2.1, bt394.2.2.2.1, bt394.2.2.2.2.1, bt402.1, bt402.2.1, bt402.2.2.1, bt402.2.2.2.1, bt402.2.2.2.2.1))))
set_option maxHeartbeats 8000000 in
set_option maxRecDepth 100000 in
theorem spec_DrawLessKey.calls (k : Nat) (A0 : Option Addr) (c0 : Nat) (l0 : List Int) (r1 : Int) (r2 : Int) (r3 : Int) (r4 : Int) (r5 : Int) (r6 : Int) (r7 : Int) (r8 : Int) (r9 : Int) (r10 : Int) (w : World) (hr0 : Kd.C (Kd.int .u8) w A0 l0.length l0) (hc0 : l0.length ≤ c0) (h : spec_DrawLessKey.f k l0 = some (r1, r2, r3, r4, r5, r6, r7, r8, r9, r10)) :
  Calls Try.prog 27 #[.slice A0 l0.length c0] w fun e w' => e = .returned (.tuple #[.agg #[.int .i64 r1, .int .i64 r2, .int .i64 r3, .int .i64 r4, .int .i64 r5], .agg #[.int .i64 r6, .int .i64 r7, .int .i64 r8, .int .i64 r9, .int .i64 r10]]) ∧ Below w.heap.size w w' := by
 have hu27 := Try.underlying27
 have HR0 := aK.mk hr0
 have HC0 := aK.mk hc0
 clear hr0 hc0
 have HB := aK.mk (Below.refl w.heap.size w)
 have H : ((spec_l1New.f k l0).bind fun bt390 => ((spec_l3Any.f bt390.1 bt390.2.1 bt390.2.2).bind fun bt394 => ((spec_l3Any.f bt390.1 bt394.2.2.2.2.2.1 bt394.2.2.2.2.2.2).bind fun bt402 => (some (bt394.1, bt394.2.1, bt394.2.2.1, bt394.2.2.2.1, bt394.2.2.2.2.1, bt402.1, bt402.2.1, bt402.2.2.1, bt402.2.2.2.1, bt402.2.2.2.2.1))))) = some (r1, r2, r3, r4, r5, r6, r7, r8, r9, r10) := h
 clear h
 replace H := lF H
 obtain ⟨⟨t390, t391, t392⟩, A20, H⟩ := H
 replace H : ((spec_l3Any.f t390 t391 t392).bind fun bt394 => ((spec_l3Any.f t390 bt394.2.2.2.2.2.1 bt394.2.2.2.2.2.2).bind fun bt402 => (some (bt394.1, bt394.2.1, bt394.2.2.1, bt394.2.2.2.1, bt394.2.2.2.2.1, bt402.1, bt402.2.1, bt402.2.2.1, bt402.2.2.2.1, bt402.2.2.2.2.1)))) = some (r1, r2, r3, r4, r5, r6, r7, r8, r9, r10) := H
 have A2 := aK.mk A20
 clear A20
 replace H := lF H
 obtain ⟨⟨t394, t395, t396, t397, t398, t399, t400⟩, A30, H⟩ := H
 replace H : ((spec_l3Any.f t390 t399 t400).bind fun bt402 => (some (t394, t395, t396, t397, t398, bt402.1, bt402.2.1, bt402.2.2.1, bt402.2.2.2.1, bt402.2.2.2.2.1))) = some (r1, r2, r3, r4, r5, r6, r7, r8, r9, r10) := H
 have A3 := aK.mk A30
 clear A30
 replace H := lF H
 obtain ⟨⟨t402, t403, t404, t405, t406, t407, t408⟩, A40, H⟩ := H
 replace H : (some (t394, t395, t396, t397, t398, t402, t403, t404, t405, t406)) = some (r1, r2, r3, r4, r5, r6, r7, r8, r9, r10) := H
 have A4 := aK.mk A40
 clear A40
 simp only [Option.some.injEq, Prod.mk.injEq] at H
 obtain ⟨rfl, rfl, rfl, rfl, rfl, rfl, rfl, rfl, rfl, rfl⟩ := H
 go_enter Try.func27, Try.ntmps27
 try go_wp2_with (first | ((with_reducible refine bV (N := 2) rfl ?_); refine bZ ?hg (N := 2) ?hd (cs := #[.int .i64 0, .int .i64 0, .int .i64 0, .int .i64 0, .int .i64 0]) (t := 27) ?hr ?_; (case hd => rfl); (case hg => rfl); (case hr => first | (go_simp; done) | (go_simp; rfl)); intro gb388 hg w5 hbox hb; have n0_ := aK.mk (bL (by repeat (first | (with_reducible first | exact HB.out | apply aU | apply aM | apply aT) | exact HB.out)) hb); have n1_ := aK.mk (hbox); have n2_ := aK.mk ((by rw [hg]; exact (bN (by repeat (first | (with_reducible first | exact HB.out | apply aU | apply aM | apply aT) | exact HB.out))) : w.heap.size ≤ gb388)); have n3_ := aK.mk ((by rw [hg]; exact (bN (by repeat (first | (with_reducible first | exact HB.out | apply aU | apply aM | apply aT) | exact HB.out))) : w.heap.size ≤ gb388)); clear HB; have HB := n0_; have BK388 := n1_; have GW388 := n2_; have GE388 := n3_; clear n0_ n1_ n2_ n3_; clear hb hbox hg) | ((with_reducible refine bV (N := 3) rfl ?_); refine bZ ?hg (N := 3) ?hd (cs := #[.int .i64 0, .int .i64 0, .int .i64 0, .int .i64 0, .int .i64 0]) (t := 27) ?hr ?_; (case hd => rfl); (case hg => rfl); (case hr => first | (go_simp; done) | (go_simp; rfl)); intro gb389 hg w6 hbox hb; have n0_ := aK.mk (bC (g := gb388) (o := .cells #[.int .i64 0, .int .i64 0, .int .i64 0, .int .i64 0, .int .i64 0] 27 (0, 0)) (by (with_reducible repeat (first | refine aW ?_ _ | refine aX ?_ | refine aV ?_ _)); exact BK388.out) hb); have n1_ := aK.mk (bL (by repeat (first | (with_reducible first | exact HB.out | apply aU | apply aM | apply aT | refine aY ?_ GE388.out) | exact HB.out)) hb); have n2_ := aK.mk (hbox); have n3_ := aK.mk ((by rw [hg]; exact (bN (by repeat (first | (with_reducible first | exact HB.out | apply aU | apply aM | apply aT | refine aY ?_ GE388.out) | exact HB.out))) : w.heap.size ≤ gb389)); have n4_ := aK.mk ((by rw [hg]; exact (bN (by repeat (first | (with_reducible first | exact HB.out | apply aU | apply aM | apply aT | refine aY ?_ GE388.out) | exact HB.out))) : w.heap.size ≤ gb389)); have n5_ := aK.mk ((by rw [hg]; exact Nat.ne_of_lt (bW (g := gb388) (o := .cells #[.int .i64 0, .int .i64 0, .int .i64 0, .int .i64 0, .int .i64 0] 27 (0, 0)) (by (with_reducible repeat (first | refine aW ?_ _ | refine aX ?_ | refine aV ?_ _)); exact BK388.out)) : gb388 ≠ gb389)); have n6_ := aK.mk ((by rw [hg]; exact Nat.ne_of_gt (bW (g := gb388) (o := .cells #[.int .i64 0, .int .i64 0, .int .i64 0, .int .i64 0, .int .i64 0] 27 (0, 0)) (by (with_reducible repeat (first | refine aW ?_ _ | refine aX ?_ | refine aV ?_ _)); exact BK388.out)) : gb389 ≠ gb388)); clear BK388; clear HB; have BK388 := n0_; have HB := n1_; have BK389 := n2_; have GW389 := n3_; have GE389 := n4_; have NB388_389 := n5_; have NB389_388 := n6_; clear n0_ n1_ n2_ n3_ n4_ n5_ n6_; clear hb hbox hg) | ((with_reducible refine bR (f := 67) rfl ?_); refine bX (some 7) rfl rfl Try.func67 (by kernel_rfl) rfl #[.slice A0 l0.length c0] rfl (by (try simp only [List.map_toArray, List.map_cons, List.map_nil]); first | done | rfl | (simp only [List.length_drop, List.length_take]; rfl)) ?_; (with_reducible refine (spec_l1New.calls k _ _ l0 t390 t391 t392 w _ ?side1 ?side2 ?side3 A2.out).mono ?_); (case side1 => repeat (first | (with_reducible first | exact HB.out | apply aU | apply aM | apply aT | refine aY ?_ GE388.out | refine aY ?_ GE389.out) | exact HB.out)); (case side2 => exact HR0.out); (case side3 => exact HC0.out); rintro e w7 ⟨g393, rfl, hi, hb, hb2⟩; refine ⟨_, rfl, ?_⟩; have n0_ := aK.mk (bC (g := gb388) (o := .cells #[.int .i64 0, .int .i64 0, .int .i64 0, .int .i64 0, .int .i64 0] 27 (0, 0)) (by (with_reducible repeat (first | refine aW ?_ _ | refine aX ?_ | refine aV ?_ _)); exact BK388.out) hb2); have n1_ := aK.mk (bC (g := gb389) (o := .cells #[.int .i64 0, .int .i64 0, .int .i64 0, .int .i64 0, .int .i64 0] 27 (0, 0)) (by (with_reducible repeat (first | refine aW ?_ _ | refine aX ?_ | refine aV ?_ _)); exact BK389.out) hb2); have n2_ := aK.mk (hb); have n3_ := aK.mk (hi); have n4_ := aK.mk (IsS98.ne_blk hi (bC (g := gb388) (o := .cells #[.int .i64 0, .int .i64 0, .int .i64 0, .int .i64 0, .int .i64 0] 27 (0, 0)) (by (with_reducible repeat (first | refine aW ?_ _ | refine aX ?_ | refine aV ?_ _)); exact BK388.out) hb2) (by decide)); have n5_ := aK.mk (Ne.symm (IsS98.ne_blk hi (bC (g := gb388) (o := .cells #[.int .i64 0, .int .i64 0, .int .i64 0, .int .i64 0, .int .i64 0] 27 (0, 0)) (by (with_reducible repeat (first | refine aW ?_ _ | refine aX ?_ | refine aV ?_ _)); exact BK388.out) hb2) (by decide))); have n6_ := aK.mk (IsS98.ne_blk hi (bC (g := gb389) (o := .cells #[.int .i64 0, .int .i64 0, .int .i64 0, .int .i64 0, .int .i64 0] 27 (0, 0)) (by (with_reducible repeat (first | refine aW ?_ _ | refine aX ?_ | refine aV ?_ _)); exact BK389.out) hb2) (by decide)); have n7_ := aK.mk (Ne.symm (IsS98.ne_blk hi (bC (g := gb389) (o := .cells #[.int .i64 0, .int .i64 0, .int .i64 0, .int .i64 0, .int .i64 0] 27 (0, 0)) (by (with_reducible repeat (first | refine aW ?_ _ | refine aX ?_ | refine aV ?_ _)); exact BK389.out) hb2) (by decide))); clear BK388; clear BK389; clear HB; have BK388 := n0_; have BK389 := n1_; have HB := n2_; have HI393 := n3_; have NB393_388 := n4_; have NB388_393 := n5_; have NB393_389 := n6_; have NB389_393 := n7_; clear n0_ n1_ n2_ n3_ n4_ n5_ n6_ n7_; (try clear hb); (try clear hb2); (try clear hk); (try clear hi)) | ((with_reducible refine bR (f := 70) rfl ?_); refine bX (some 9) rfl rfl Try.func70 (by kernel_rfl) rfl #[.pointer (some ⟨g393, 0, none⟩)] rfl (by (try simp only [List.map_toArray, List.map_cons, List.map_nil]); first | done | rfl | (simp only [List.length_drop, List.length_take]; rfl)) ?_; (with_reducible refine (spec_l3Any.calls g393 t390 t391 t392 t394 t395 t396 t397 t398 t399 t400 w _ ?side1 ?side2 A3.out).mono ?_); (case side1 => repeat (first | (with_reducible first | exact HI393.out | apply IsS98.alloc | apply IsS98.drewN | apply IsS98.drew | apply IsS98.set_1 | apply IsS98.set_2 | apply IsS98.far (hne := NB393_388.out) | apply IsS98.far (hne := NB393_389.out)) | exact HI393.out)); (case side2 => repeat (first | (with_reducible first | exact HB.out | apply aU | apply aM | apply aT | refine aY ?_ (IsS98.ge HI393.out) | refine aY ?_ GE388.out | refine aY ?_ GE389.out) | exact HB.out)); rintro e w8 ⟨rfl, hi, hb, hk⟩; refine ⟨_, rfl, ?_⟩; have n0_ := aK.mk (KeepBut.blk hk (g' := gb388) (o := .cells #[.int .i64 0, .int .i64 0, .int .i64 0, .int .i64 0, .int .i64 0] 27 (0, 0)) (by (with_reducible repeat (first | refine aW ?_ _ | refine aX ?_ | refine aV ?_ _)); exact BK388.out) NB388_393.out (by simp)); have n1_ := aK.mk (KeepBut.blk hk (g' := gb389) (o := .cells #[.int .i64 0, .int .i64 0, .int .i64 0, .int .i64 0, .int .i64 0] 27 (0, 0)) (by (with_reducible repeat (first | refine aW ?_ _ | refine aX ?_ | refine aV ?_ _)); exact BK389.out) NB389_393.out (by simp)); have n2_ := aK.mk (hb); have n3_ := aK.mk (hi); clear BK388; clear BK389; clear HB; clear HI393; have BK388 := n0_; have BK389 := n1_; have HB := n2_; have HI393 := n3_; clear n0_ n1_ n2_ n3_; (try clear hb); (try clear hb2); (try clear hk); (try clear hi)) | ((with_reducible refine bV (N := 5) rfl ?_); refine bZ ?hg (N := 5) ?hd (cs := #[.int .i64 0, .int .i64 0, .int .i64 0, .int .i64 0, .int .i64 0]) (t := 27) ?hr ?_; (case hd => rfl); (case hg => rfl); (case hr => first | (go_simp; done) | (go_simp; rfl)); intro gb401 hg w9 hbox hb; have n0_ := aK.mk (bC (g := gb388) (o := .cells #[.int .i64 0, .int .i64 0, .int .i64 0, .int .i64 0, .int .i64 0] 27 (0, 0)) (by (with_reducible repeat (first | refine aW ?_ _ | refine aX ?_ | refine aV ?_ _)); exact BK388.out) hb); have n1_ := aK.mk (bC (g := gb389) (o := .cells #[.int .i64 0, .int .i64 0, .int .i64 0, .int .i64 0, .int .i64 0] 27 (0, 0)) (by (with_reducible repeat (first | refine aW ?_ _ | refine aX ?_ | refine aV ?_ _)); exact BK389.out) hb); have n2_ := aK.mk (IsS98.below (by repeat (first | (with_reducible first | exact HI393.out | apply IsS98.alloc | apply IsS98.drewN | apply IsS98.drew | apply IsS98.set_1 | apply IsS98.set_2 | apply IsS98.far (hne := NB393_388.out) | apply IsS98.far (hne := NB393_389.out)) | exact HI393.out)) hb); have n3_ := aK.mk (bL (by repeat (first | (with_reducible first | exact HB.out | apply aU | apply aM | apply aT | refine aY ?_ (IsS98.ge HI393.out) | refine aY ?_ GE388.out | refine aY ?_ GE389.out) | exact HB.out)) hb); have n4_ := aK.mk (hbox); have n5_ := aK.mk ((by rw [hg]; exact (bN (by repeat (first | (with_reducible first | exact HB.out | apply aU | apply aM | apply aT | refine aY ?_ (IsS98.ge HI393.out) | refine aY ?_ GE388.out | refine aY ?_ GE389.out) | exact HB.out))) : w.heap.size ≤ gb401)); have n6_ := aK.mk ((by rw [hg]; exact (bN (by repeat (first | (with_reducible first | exact HB.out | apply aU | apply aM | apply aT | refine aY ?_ (IsS98.ge HI393.out) | refine aY ?_ GE388.out | refine aY ?_ GE389.out) | exact HB.out))) : w.heap.size ≤ gb401)); have n7_ := aK.mk ((by rw [hg]; exact Nat.ne_of_lt (bW (g := gb388) (o := .cells #[.int .i64 0, .int .i64 0, .int .i64 0, .int .i64 0, .int .i64 0] 27 (0, 0)) (by (with_reducible repeat (first | refine aW ?_ _ | refine aX ?_ | refine aV ?_ _)); exact BK388.out)) : gb388 ≠ gb401)); have n8_ := aK.mk ((by rw [hg]; exact Nat.ne_of_gt (bW (g := gb388) (o := .cells #[.int .i64 0, .int .i64 0, .int .i64 0, .int .i64 0, .int .i64 0] 27 (0, 0)) (by (with_reducible repeat (first | refine aW ?_ _ | refine aX ?_ | refine aV ?_ _)); exact BK388.out)) : gb401 ≠ gb388)); have n9_ := aK.mk ((by rw [hg]; exact Nat.ne_of_lt (bW (g := gb389) (o := .cells #[.int .i64 0, .int .i64 0, .int .i64 0, .int .i64 0, .int .i64 0] 27 (0, 0)) (by (with_reducible repeat (first | refine aW ?_ _ | refine aX ?_ | refine aV ?_ _)); exact BK389.out)) : gb389 ≠ gb401)); have n10_ := aK.mk ((by rw [hg]; exact Nat.ne_of_gt (bW (g := gb389) (o := .cells #[.int .i64 0, .int .i64 0, .int .i64 0, .int .i64 0, .int .i64 0] 27 (0, 0)) (by (with_reducible repeat (first | refine aW ?_ _ | refine aX ?_ | refine aV ?_ _)); exact BK389.out)) : gb401 ≠ gb389)); have n11_ := aK.mk ((by rw [hg]; exact Nat.ne_of_lt (IsS98.lt (show IsS98 w _ g393 t390 t399 t400 from by repeat (first | (with_reducible first | exact HI393.out | apply IsS98.alloc | apply IsS98.drewN | apply IsS98.drew | apply IsS98.set_1 | apply IsS98.set_2 | apply IsS98.far (hne := NB393_388.out) | apply IsS98.far (hne := NB393_389.out)) | exact HI393.out))) : g393 ≠ gb401)); have n12_ := aK.mk ((by rw [hg]; exact Nat.ne_of_gt (IsS98.lt (show IsS98 w _ g393 t390 t399 t400 from by repeat (first | (with_reducible first | exact HI393.out | apply IsS98.alloc | apply IsS98.drewN | apply IsS98.drew | apply IsS98.set_1 | apply IsS98.set_2 | apply IsS98.far (hne := NB393_388.out) | apply IsS98.far (hne := NB393_389.out)) | exact HI393.out))) : gb401 ≠ g393)); clear BK388; clear BK389; clear HI393; clear HB; have BK388 := n0_; have BK389 := n1_; have HI393 := n2_; have HB := n3_; have BK401 := n4_; have GW401 := n5_; have GE401 := n6_; have NB388_401 := n7_; have NB401_388 := n8_; have NB389_401 := n9_; have NB401_389 := n10_; have NB393_401 := n11_; have NB401_393 := n12_; clear n0_ n1_ n2_ n3_ n4_ n5_ n6_ n7_ n8_ n9_ n10_ n11_ n12_; clear hb hbox hg; have hnb10 := NB401_388.out; have hnc10 := NB388_401.out; have hnb11 := NB401_389.out; have hnc11 := NB389_401.out; have hnb12 := NB401_393.out; have hnc12 := NB393_401.out; have hcz13_0 : w9.cell? ⟨gb401, 0, none⟩ = some (.int .i64 0) := (aQ BK401.out 0).trans rfl; have hcz13_1 : w9.cell? ⟨gb401, 1, none⟩ = some (.int .i64 0) := (aQ BK401.out 1).trans rfl; have hcz13_2 : w9.cell? ⟨gb401, 2, none⟩ = some (.int .i64 0) := (aQ BK401.out 2).trans rfl; have hcz13_3 : w9.cell? ⟨gb401, 3, none⟩ = some (.int .i64 0) := (aQ BK401.out 3).trans rfl; have hcz13_4 : w9.cell? ⟨gb401, 4, none⟩ = some (.int .i64 0) := (aQ BK401.out 4).trans rfl; have hfz13_0 := aN BK401.out 0; have hfz13_1 := aN BK401.out 1; have hfz13_2 := aN BK401.out 2; have hfz13_3 := aN BK401.out 3; have hfz13_4 := aN BK401.out 4))
 have n0_ : aK ((((((w9.setCell ⟨gb401, 0, none⟩ (.int .i64 t394)).setCell ⟨gb401, 1, none⟩ (.int .i64 t395)).setCell ⟨gb401, 2, none⟩ (.int .i64 t396)).setCell ⟨gb401, 3, none⟩ (.int .i64 t397)).setCell ⟨gb401, 4, none⟩ (.int .i64 t398)).heap[gb388]? = some (.cells #[.int .i64 0, .int .i64 0, .int .i64 0, .int .i64 0, .int .i64 0] 27 (0, 0))) := ⟨by (with_reducible repeat (first | refine aW ?_ _ | refine aX ?_ | refine aV ?_ _)); refine bP ?_ NB388_401.out _; (with_reducible repeat (first | refine aW ?_ _ | refine aX ?_ | refine aV ?_ _)); refine bP ?_ NB388_401.out _; (with_reducible repeat (first | refine aW ?_ _ | refine aX ?_ | refine aV ?_ _)); refine bP ?_ NB388_401.out _; (with_reducible repeat (first | refine aW ?_ _ | refine aX ?_ | refine aV ?_ _)); refine bP ?_ NB388_401.out _; (with_reducible repeat (first | refine aW ?_ _ | refine aX ?_ | refine aV ?_ _)); refine bP ?_ NB388_401.out _; (with_reducible repeat (first | refine aW ?_ _ | refine aX ?_ | refine aV ?_ _)); exact BK388.out⟩
 have n1_ : aK ((((((w9.setCell ⟨gb401, 0, none⟩ (.int .i64 t394)).setCell ⟨gb401, 1, none⟩ (.int .i64 t395)).setCell ⟨gb401, 2, none⟩ (.int .i64 t396)).setCell ⟨gb401, 3, none⟩ (.int .i64 t397)).setCell ⟨gb401, 4, none⟩ (.int .i64 t398)).heap[gb389]? = some (.cells #[.int .i64 0, .int .i64 0, .int .i64 0, .int .i64 0, .int .i64 0] 27 (0, 0))) := ⟨by (with_reducible repeat (first | refine aW ?_ _ | refine aX ?_ | refine aV ?_ _)); refine bP ?_ NB389_401.out _; (with_reducible repeat (first | refine aW ?_ _ | refine aX ?_ | refine aV ?_ _)); refine bP ?_ NB389_401.out _; (with_reducible repeat (first | refine aW ?_ _ | refine aX ?_ | refine aV ?_ _)); refine bP ?_ NB389_401.out _; (with_reducible repeat (first | refine aW ?_ _ | refine aX ?_ | refine aV ?_ _)); refine bP ?_ NB389_401.out _; (with_reducible repeat (first | refine aW ?_ _ | refine aX ?_ | refine aV ?_ _)); refine bP ?_ NB389_401.out _; (with_reducible repeat (first | refine aW ?_ _ | refine aX ?_ | refine aV ?_ _)); exact BK389.out⟩
 have n2_ : aK ((((((w9.setCell ⟨gb401, 0, none⟩ (.int .i64 t394)).setCell ⟨gb401, 1, none⟩ (.int .i64 t395)).setCell ⟨gb401, 2, none⟩ (.int .i64 t396)).setCell ⟨gb401, 3, none⟩ (.int .i64 t397)).setCell ⟨gb401, 4, none⟩ (.int .i64 t398)).heap[gb401]? = some (.cells #[.int .i64 t394, .int .i64 t395, .int .i64 t396, .int .i64 t397, .int .i64 t398] 27 (0, 0))) := ⟨by (with_reducible repeat (first | refine aW ?_ _ | refine aX ?_ | refine aV ?_ _)); refine bH (cs := #[.int .i64 t394, .int .i64 t395, .int .i64 t396, .int .i64 t397, .int .i64 0]) ?_ 4 _ rfl; (with_reducible repeat (first | refine aW ?_ _ | refine aX ?_ | refine aV ?_ _)); refine bH (cs := #[.int .i64 t394, .int .i64 t395, .int .i64 t396, .int .i64 0, .int .i64 0]) ?_ 3 _ rfl; (with_reducible repeat (first | refine aW ?_ _ | refine aX ?_ | refine aV ?_ _)); refine bH (cs := #[.int .i64 t394, .int .i64 t395, .int .i64 0, .int .i64 0, .int .i64 0]) ?_ 2 _ rfl; (with_reducible repeat (first | refine aW ?_ _ | refine aX ?_ | refine aV ?_ _)); refine bH (cs := #[.int .i64 t394, .int .i64 0, .int .i64 0, .int .i64 0, .int .i64 0]) ?_ 1 _ rfl; (with_reducible repeat (first | refine aW ?_ _ | refine aX ?_ | refine aV ?_ _)); refine bH (cs := #[.int .i64 0, .int .i64 0, .int .i64 0, .int .i64 0, .int .i64 0]) ?_ 0 _ rfl; (with_reducible repeat (first | refine aW ?_ _ | refine aX ?_ | refine aV ?_ _)); exact BK401.out⟩
 have n3_ : aK (IsS98 w (((((w9.setCell ⟨gb401, 0, none⟩ (.int .i64 t394)).setCell ⟨gb401, 1, none⟩ (.int .i64 t395)).setCell ⟨gb401, 2, none⟩ (.int .i64 t396)).setCell ⟨gb401, 3, none⟩ (.int .i64 t397)).setCell ⟨gb401, 4, none⟩ (.int .i64 t398)) g393 t390 t399 t400) := ⟨by repeat (first | (with_reducible first | exact HI393.out | apply IsS98.alloc | apply IsS98.drewN | apply IsS98.drew | apply IsS98.set_1 | apply IsS98.set_2 | apply IsS98.far (hne := NB393_388.out) | apply IsS98.far (hne := NB393_389.out) | apply IsS98.far (hne := NB393_401.out)) | exact HI393.out)⟩
 have n4_ : aK (Below w.heap.size w (((((w9.setCell ⟨gb401, 0, none⟩ (.int .i64 t394)).setCell ⟨gb401, 1, none⟩ (.int .i64 t395)).setCell ⟨gb401, 2, none⟩ (.int .i64 t396)).setCell ⟨gb401, 3, none⟩ (.int .i64 t397)).setCell ⟨gb401, 4, none⟩ (.int .i64 t398))) := ⟨by repeat (first | (with_reducible first | exact HB.out | apply aU | apply aM | apply aT | refine aY ?_ (IsS98.ge HI393.out) | refine aY ?_ GE388.out | refine aY ?_ GE389.out | refine aY ?_ GE401.out) | exact HB.out)⟩
 (try clear BK388)
 (try clear BK389)
 (try clear BK401)
 (try clear HI393)
 (try clear HB)
 generalize (((((w9.setCell ⟨gb401, 0, none⟩ (.int .i64 t394)).setCell ⟨gb401, 1, none⟩ (.int .i64 t395)).setCell ⟨gb401, 2, none⟩ (.int .i64 t396)).setCell ⟨gb401, 3, none⟩ (.int .i64 t397)).setCell ⟨gb401, 4, none⟩ (.int .i64 t398)) = w14 at n0_ n1_ n2_ n3_ n4_ ⊢
 have BK388 := n0_
 have BK389 := n1_
 have BK401 := n2_
 have HI393 := n3_
 have HB := n4_
 clear n0_ n1_ n2_ n3_ n4_
 have n0_ := aK.mk (aX BK388.out)
 have n1_ := aK.mk (aX BK389.out)
 have n2_ := aK.mk (aX BK401.out)
 have n3_ := aK.mk (IsS98.drew HI393.out)
 have n4_ := aK.mk (aT HB.out)
 clear BK388
 clear BK389
 clear BK401
 clear HI393
 clear HB
 have BK388 := n0_
 have BK389 := n1_
 have BK401 := n2_
 have HI393 := n3_
 have HB := n4_
 clear n0_ n1_ n2_ n3_ n4_
 refine start_ (n := 5) (S := fun w' => w'.cell? ⟨gb401, 0, none⟩ = some (.int .i64 t394) ∧ w'.cell? ⟨gb401, 1, none⟩ = some (.int .i64 t395) ∧ w'.cell? ⟨gb401, 2, none⟩ = some (.int .i64 t396) ∧ w'.cell? ⟨gb401, 3, none⟩ = some (.int .i64 t397) ∧ w'.cell? ⟨gb401, 4, none⟩ = some (.int .i64 t398)) (ds := []) #[false, false, false, false, false] (by kernel_rfl) rfl rfl ⟨(aQ BK401.out 0).trans rfl, (aQ BK401.out 1).trans rfl, (aQ BK401.out 2).trans rfl, (aQ BK401.out 3).trans rfl, (aQ BK401.out 4).trans rfl⟩ (fun hHeld => ?_)
 generalize w14.drew = w15 at BK388 BK389 BK401 HI393 HB hHeld ⊢
 refine bT (i := 1) (N := some 11) (v := ?_) (a' := ?_) #[false, true, false, false, false] rfl rfl (by kernel_rfl) (fun _ _ _ h => h) (Or.inl ⟨by rfl, ?_⟩) ?_ ?_
 rotate_left
 ·intro w'
  go_simp
  with_reducible rfl
 rotate_left
 ·simp only [Act.put, lA, lB, lC, bJ, bK]
  rfl
 refine take_ (i := 0) (N := some 10) (v := ?_) (a' := ?_) #[true, true, false, false, false] rfl rfl (by kernel_rfl) (fun _ _ _ h => h) (Or.inl ⟨by rfl, ?_⟩) hHeld ?_ ?_
 rotate_left
 ·rintro w' ⟨s0, s1, s2, s3, s4⟩
  go_simp
  with_reducible rfl
 rotate_left
 ·simp only [Act.put, lA, lB, lC, bJ, bK]
  rfl
 refine one_ (i := 2) (N := some 12) #[true, true, true, false, false] rfl rfl (by kernel_rfl) (by decide) (fun K hK => ?_)
 refine goes_ Try.func70 (by kernel_rfl) rfl #[.pointer (some ⟨g393, 0, none⟩)] (by rfl) rfl rfl (by (try simp only [List.map_toArray, List.map_cons, List.map_nil]); first | done | rfl | (simp only [List.length_drop, List.length_take]; rfl)) ?_
 with_reducible refine (spec_l3Any.calls g393 t390 t399 t400 t402 t403 t404 t405 t406 t407 t408 w _ ?side1 ?side2 A4.out).mono ?_
 (case side1 => repeat (first | (with_reducible first | exact HI393.out | apply IsS98.alloc | apply IsS98.drewN | apply IsS98.drew | apply IsS98.set_1 | apply IsS98.set_2 | apply IsS98.far (hne := NB393_388.out) | apply IsS98.far (hne := NB393_389.out) | apply IsS98.far (hne := NB393_401.out)) | exact HI393.out))
 (case side2 => repeat (first | (with_reducible first | exact HB.out | apply aU | apply aM | apply aT | refine aY ?_ (IsS98.ge HI393.out) | refine aY ?_ GE388.out | refine aY ?_ GE389.out | refine aY ?_ GE401.out) | exact HB.out))
 rintro e w16 ⟨rfl, hi, hb, hk⟩
 refine ⟨_, rfl, ?_⟩
 have n0_ := aK.mk (KeepBut.blk hk (g' := gb388) (o := .cells #[.int .i64 0, .int .i64 0, .int .i64 0, .int .i64 0, .int .i64 0] 27 (0, 0)) (by (with_reducible repeat (first | refine aW ?_ _ | refine aX ?_ | refine aV ?_ _)); exact BK388.out) NB388_393.out (by simp))
 have n1_ := aK.mk (KeepBut.blk hk (g' := gb389) (o := .cells #[.int .i64 0, .int .i64 0, .int .i64 0, .int .i64 0, .int .i64 0] 27 (0, 0)) (by (with_reducible repeat (first | refine aW ?_ _ | refine aX ?_ | refine aV ?_ _)); exact BK389.out) NB389_393.out (by simp))
 have n2_ := aK.mk (KeepBut.blk hk (g' := gb401) (o := .cells #[.int .i64 t394, .int .i64 t395, .int .i64 t396, .int .i64 t397, .int .i64 t398] 27 (0, 0)) (by (with_reducible repeat (first | refine aW ?_ _ | refine aX ?_ | refine aV ?_ _)); exact BK401.out) NB401_393.out (by simp))
 have n3_ := aK.mk (hb)
 have n4_ := aK.mk (hi)
 clear BK388
 clear BK389
 clear BK401
 clear HB
 clear HI393
 have BK388 := n0_
 have BK389 := n1_
 have BK401 := n2_
 have HB := n3_
 have HI393 := n4_
 clear n0_ n1_ n2_ n3_ n4_
 (try clear hb)
 (try clear hb2)
 (try clear hk)
 (try clear hi)
 refine hK.out _ _ ⟨(aQ BK401.out 0).trans rfl, (aQ BK401.out 1).trans rfl, (aQ BK401.out 2).trans rfl, (aQ BK401.out 3).trans rfl, (aQ BK401.out 4).trans rfl⟩ (fun hHeld => ?_)
 clear hK K
 refine norm_ (a' := ?_) ?_ ?_
 rotate_left
 ·show Act.put _ (some 12) _ = _
  simp only [Act.put, lA, lB, lC, bJ, bK]
  rfl
 refine one_ (i := 3) (N := none) #[true, true, true, true, false] rfl rfl (by kernel_rfl) (by decide) (fun K hK => ?_)
 have hs17 : w16.cell? ⟨gb388, 0, none⟩ = some (.int .i64 0) := (aQ BK388.out 0).trans rfl
 have hfs17 := aN BK388.out 0
 have hns17_1 := NB389_388.out
 have hns17_2 := NB401_388.out
 have hms17_1 := NB388_389.out
 have hms17_2 := NB388_401.out
 have hs18 : w16.cell? ⟨gb388, 1, none⟩ = some (.int .i64 0) := (aQ BK388.out 1).trans rfl
 have hfs18 := aN BK388.out 1
 have hns18_1 := NB389_388.out
 have hns18_2 := NB401_388.out
 have hms18_1 := NB388_389.out
 have hms18_2 := NB388_401.out
 have hs19 : w16.cell? ⟨gb388, 2, none⟩ = some (.int .i64 0) := (aQ BK388.out 2).trans rfl
 have hfs19 := aN BK388.out 2
 have hns19_1 := NB389_388.out
 have hns19_2 := NB401_388.out
 have hms19_1 := NB388_389.out
 have hms19_2 := NB388_401.out
 have hs20 : w16.cell? ⟨gb388, 3, none⟩ = some (.int .i64 0) := (aQ BK388.out 3).trans rfl
 have hfs20 := aN BK388.out 3
 have hns20_1 := NB389_388.out
 have hns20_2 := NB401_388.out
 have hms20_1 := NB388_389.out
 have hms20_2 := NB388_401.out
 have hs21 : w16.cell? ⟨gb388, 4, none⟩ = some (.int .i64 0) := (aQ BK388.out 4).trans rfl
 have hfs21 := aN BK388.out 4
 have hns21_1 := NB389_388.out
 have hns21_2 := NB401_388.out
 have hms21_1 := NB388_389.out
 have hms21_2 := NB388_401.out
 refine skip_ (w1 := ?_) (by rfl) rfl ?_ ?_
 rotate_left
 ·go_simp
  rfl
 refine hK.out _ _ ⟨((bU (p := ⟨gb388, _, none⟩) NB401_388.out _).trans (((bU (p := ⟨gb388, _, none⟩) NB401_388.out _).trans (((bU (p := ⟨gb388, _, none⟩) NB401_388.out _).trans (((bU (p := ⟨gb388, _, none⟩) NB401_388.out _).trans (((bU (p := ⟨gb388, _, none⟩) NB401_388.out _).trans (hHeld.1)))))))))), ((bU (p := ⟨gb388, _, none⟩) NB401_388.out _).trans (((bU (p := ⟨gb388, _, none⟩) NB401_388.out _).trans (((bU (p := ⟨gb388, _, none⟩) NB401_388.out _).trans (((bU (p := ⟨gb388, _, none⟩) NB401_388.out _).trans (((bU (p := ⟨gb388, _, none⟩) NB401_388.out _).trans (hHeld.2.1)))))))))), ((bU (p := ⟨gb388, _, none⟩) NB401_388.out _).trans (((bU (p := ⟨gb388, _, none⟩) NB401_388.out _).trans (((bU (p := ⟨gb388, _, none⟩) NB401_388.out _).trans (((bU (p := ⟨gb388, _, none⟩) NB401_388.out _).trans (((bU (p := ⟨gb388, _, none⟩) NB401_388.out _).trans (hHeld.2.2.1)))))))))), ((bU (p := ⟨gb388, _, none⟩) NB401_388.out _).trans (((bU (p := ⟨gb388, _, none⟩) NB401_388.out _).trans (((bU (p := ⟨gb388, _, none⟩) NB401_388.out _).trans (((bU (p := ⟨gb388, _, none⟩) NB401_388.out _).trans (((bU (p := ⟨gb388, _, none⟩) NB401_388.out _).trans (hHeld.2.2.2.1)))))))))), ((bU (p := ⟨gb388, _, none⟩) NB401_388.out _).trans (((bU (p := ⟨gb388, _, none⟩) NB401_388.out _).trans (((bU (p := ⟨gb388, _, none⟩) NB401_388.out _).trans (((bU (p := ⟨gb388, _, none⟩) NB401_388.out _).trans (((bU (p := ⟨gb388, _, none⟩) NB401_388.out _).trans (hHeld.2.2.2.2))))))))))⟩ (fun hHeld => ?_)
 clear hK K
 refine one_ (i := 4) (N := none) #[true, true, true, true, true] rfl rfl (by kernel_rfl) (by decide) (fun K hK => ?_)
 have hs22 : w16.cell? ⟨gb389, 0, none⟩ = some (.int .i64 0) := (aQ BK389.out 0).trans rfl
 have hfs22 := aN BK389.out 0
 have hns22_0 := NB388_389.out
 have hns22_2 := NB401_389.out
 have hms22_0 := NB389_388.out
 have hms22_2 := NB389_401.out
 have hs23 : w16.cell? ⟨gb389, 1, none⟩ = some (.int .i64 0) := (aQ BK389.out 1).trans rfl
 have hfs23 := aN BK389.out 1
 have hns23_0 := NB388_389.out
 have hns23_2 := NB401_389.out
 have hms23_0 := NB389_388.out
 have hms23_2 := NB389_401.out
 have hs24 : w16.cell? ⟨gb389, 2, none⟩ = some (.int .i64 0) := (aQ BK389.out 2).trans rfl
 have hfs24 := aN BK389.out 2
 have hns24_0 := NB388_389.out
 have hns24_2 := NB401_389.out
 have hms24_0 := NB389_388.out
 have hms24_2 := NB389_401.out
 have hs25 : w16.cell? ⟨gb389, 3, none⟩ = some (.int .i64 0) := (aQ BK389.out 3).trans rfl
 have hfs25 := aN BK389.out 3
 have hns25_0 := NB388_389.out
 have hns25_2 := NB401_389.out
 have hms25_0 := NB389_388.out
 have hms25_2 := NB389_401.out
 have hs26 : w16.cell? ⟨gb389, 4, none⟩ = some (.int .i64 0) := (aQ BK389.out 4).trans rfl
 have hfs26 := aN BK389.out 4
 have hns26_0 := NB388_389.out
 have hns26_2 := NB401_389.out
 have hms26_0 := NB389_388.out
 have hms26_2 := NB389_401.out
 refine skip_ (w1 := ?_) (by rfl) rfl ?_ ?_
 rotate_left
 ·go_simp
  rfl
 refine hK.out _ _ ⟨((bU (p := ⟨gb389, _, none⟩) NB401_389.out _).trans (((bU (p := ⟨gb389, _, none⟩) NB401_389.out _).trans (((bU (p := ⟨gb389, _, none⟩) NB401_389.out _).trans (((bU (p := ⟨gb389, _, none⟩) NB401_389.out _).trans (((bU (p := ⟨gb389, _, none⟩) NB401_389.out _).trans (hHeld.1)))))))))), ((bU (p := ⟨gb389, _, none⟩) NB401_389.out _).trans (((bU (p := ⟨gb389, _, none⟩) NB401_389.out _).trans (((bU (p := ⟨gb389, _, none⟩) NB401_389.out _).trans (((bU (p := ⟨gb389, _, none⟩) NB401_389.out _).trans (((bU (p := ⟨gb389, _, none⟩) NB401_389.out _).trans (hHeld.2.1)))))))))), ((bU (p := ⟨gb389, _, none⟩) NB401_389.out _).trans (((bU (p := ⟨gb389, _, none⟩) NB401_389.out _).trans (((bU (p := ⟨gb389, _, none⟩) NB401_389.out _).trans (((bU (p := ⟨gb389, _, none⟩) NB401_389.out _).trans (((bU (p := ⟨gb389, _, none⟩) NB401_389.out _).trans (hHeld.2.2.1)))))))))), ((bU (p := ⟨gb389, _, none⟩) NB401_389.out _).trans (((bU (p := ⟨gb389, _, none⟩) NB401_389.out _).trans (((bU (p := ⟨gb389, _, none⟩) NB401_389.out _).trans (((bU (p := ⟨gb389, _, none⟩) NB401_389.out _).trans (((bU (p := ⟨gb389, _, none⟩) NB401_389.out _).trans (hHeld.2.2.2.1)))))))))), ((bU (p := ⟨gb389, _, none⟩) NB401_389.out _).trans (((bU (p := ⟨gb389, _, none⟩) NB401_389.out _).trans (((bU (p := ⟨gb389, _, none⟩) NB401_389.out _).trans (((bU (p := ⟨gb389, _, none⟩) NB401_389.out _).trans (((bU (p := ⟨gb389, _, none⟩) NB401_389.out _).trans (hHeld.2.2.2.2))))))))))⟩ (fun hHeld => ?_)
 clear hK K
 refine done_ (by kernel_rfl) ?_
 try go_wp2
 refine bodyPost_ret (results_cc rfl _ _ gb388 gb389 27 27 #[.int .i64 t394, .int .i64 t395, .int .i64 t396, .int .i64 t397, .int .i64 t398] #[.int .i64 t402, .int .i64 t403, .int .i64 t404, .int .i64 t405, .int .i64 t406] (0, 0) (0, 0) _ _ rfl (by (with_reducible repeat (first | refine aW ?_ _ | refine aX ?_ | refine aV ?_ _)); refine bP ?_ NB388_389.out _; (with_reducible repeat (first | refine aW ?_ _ | refine aX ?_ | refine aV ?_ _)); refine bP ?_ NB388_389.out _; (with_reducible repeat (first | refine aW ?_ _ | refine aX ?_ | refine aV ?_ _)); refine bP ?_ NB388_389.out _; (with_reducible repeat (first | refine aW ?_ _ | refine aX ?_ | refine aV ?_ _)); refine bP ?_ NB388_389.out _; (with_reducible repeat (first | refine aW ?_ _ | refine aX ?_ | refine aV ?_ _)); refine bP ?_ NB388_389.out _; (with_reducible repeat (first | refine aW ?_ _ | refine aX ?_ | refine aV ?_ _)); refine bH (cs := #[.int .i64 t394, .int .i64 t395, .int .i64 t396, .int .i64 t397, .int .i64 0]) ?_ 4 _ rfl; (with_reducible repeat (first | refine aW ?_ _ | refine aX ?_ | refine aV ?_ _)); refine bH (cs := #[.int .i64 t394, .int .i64 t395, .int .i64 t396, .int .i64 0, .int .i64 0]) ?_ 3 _ rfl; (with_reducible repeat (first | refine aW ?_ _ | refine aX ?_ | refine aV ?_ _)); refine bH (cs := #[.int .i64 t394, .int .i64 t395, .int .i64 0, .int .i64 0, .int .i64 0]) ?_ 2 _ rfl; (with_reducible repeat (first | refine aW ?_ _ | refine aX ?_ | refine aV ?_ _)); refine bH (cs := #[.int .i64 t394, .int .i64 0, .int .i64 0, .int .i64 0, .int .i64 0]) ?_ 1 _ rfl; (with_reducible repeat (first | refine aW ?_ _ | refine aX ?_ | refine aV ?_ _)); refine bH (cs := #[.int .i64 0, .int .i64 0, .int .i64 0, .int .i64 0, .int .i64 0]) ?_ 0 _ rfl; (with_reducible repeat (first | refine aW ?_ _ | refine aX ?_ | refine aV ?_ _)); exact BK388.out) Try.underlying27 rfl (by kernel_rfl) rfl (by (with_reducible repeat (first | refine aW ?_ _ | refine aX ?_ | refine aV ?_ _)); refine bH (cs := #[.int .i64 t402, .int .i64 t403, .int .i64 t404, .int .i64 t405, .int .i64 0]) ?_ 4 _ rfl; (with_reducible repeat (first | refine aW ?_ _ | refine aX ?_ | refine aV ?_ _)); refine bH (cs := #[.int .i64 t402, .int .i64 t403, .int .i64 t404, .int .i64 0, .int .i64 0]) ?_ 3 _ rfl; (with_reducible repeat (first | refine aW ?_ _ | refine aX ?_ | refine aV ?_ _)); refine bH (cs := #[.int .i64 t402, .int .i64 t403, .int .i64 0, .int .i64 0, .int .i64 0]) ?_ 2 _ rfl; (with_reducible repeat (first | refine aW ?_ _ | refine aX ?_ | refine aV ?_ _)); refine bH (cs := #[.int .i64 t402, .int .i64 0, .int .i64 0, .int .i64 0, .int .i64 0]) ?_ 1 _ rfl; (with_reducible repeat (first | refine aW ?_ _ | refine aX ?_ | refine aV ?_ _)); refine bH (cs := #[.int .i64 0, .int .i64 0, .int .i64 0, .int .i64 0, .int .i64 0]) ?_ 0 _ rfl; (with_reducible repeat (first | refine aW ?_ _ | refine aX ?_ | refine aV ?_ _)); refine bP ?_ NB389_388.out _; (with_reducible repeat (first | refine aW ?_ _ | refine aX ?_ | refine aV ?_ _)); refine bP ?_ NB389_388.out _; (with_reducible repeat (first | refine aW ?_ _ | refine aX ?_ | refine aV ?_ _)); refine bP ?_ NB389_388.out _; (with_reducible repeat (first | refine aW ?_ _ | refine aX ?_ | refine aV ?_ _)); refine bP ?_ NB389_388.out _; (with_reducible repeat (first | refine aW ?_ _ | refine aX ?_ | refine aV ?_ _)); refine bP ?_ NB389_388.out _; (with_reducible repeat (first | refine aW ?_ _ | refine aX ?_ | refine aV ?_ _)); exact BK389.out) Try.underlying27 rfl (by kernel_rfl)) rfl ?_
 exact ⟨by first | rfl | (simp [errW_none, errW_some] <;> rfl) | (simp [*, errW_none, errW_some] <;> rfl), by repeat (first | (with_reducible first | exact HB.out | apply aU | apply aM | apply aT | refine aY ?_ (IsS98.ge HI393.out) | refine aY ?_ GE388.out | refine aY ?_ GE389.out | refine aY ?_ GE401.out) | exact HB.out)⟩
def impl_LessKey.f (a0_0 : Int) (a0_1 : Int) (a0_2 : Int) (a0_3 : Int) (a0_4 : Int) (a1_0 : Int) (a1_1 : Int) (a1_2 : Int) (a1_3 : Int) (a1_4 : Int) : Option (Bool) := if a0_0 < a1_0 then (some true) else (if a0_0 = a1_0 then (some (decide (a0_1 < a1_1))) else (some false))
set_option maxHeartbeats 8000000 in
set_option maxRecDepth 100000 in
theorem impl_LessKey.calls (a0_0 : Int) (a0_1 : Int) (a0_2 : Int) (a0_3 : Int) (a0_4 : Int) (a1_0 : Int) (a1_1 : Int) (a1_2 : Int) (a1_3 : Int) (a1_4 : Int) (r : Bool) (w : World) (h : impl_LessKey.f a0_0 a0_1 a0_2 a0_3 a0_4 a1_0 a1_1 a1_2 a1_3 a1_4 = some r) :
  Calls Try.prog 28 #[.agg #[.int .i64 a0_0, .int .i64 a0_1, .int .i64 a0_2, .int .i64 a0_3, .int .i64 a0_4], .agg #[.int .i64 a1_0, .int .i64 a1_1, .int .i64 a1_2, .int .i64 a1_3, .int .i64 a1_4]] w fun e w' => e = .returned (.bool r) ∧ Below w.heap.size w w' := by
 have hu27 := Try.underlying27
 have HB := aK.mk (Below.refl w.heap.size w)
 have H : (if a0_0 < a1_0 then (some true) else (if a0_0 = a1_0 then (some (decide (a0_1 < a1_1))) else (some false))) = some r := h
 clear h
 by_cases c3 : a0_0 < a1_0
 ·rw [if_pos c3] at H
  have c3b0 : decide (a0_0 < a1_0) = true := decide_eq_true c3
  clear c3
  obtain rfl := Option.some.inj H
  go_enter Try.func28, Try.ntmps28
  go_wp2_with (first | ((with_reducible refine bV (N := 2) rfl ?_); refine bZ ?hg (N := 2) ?hd (cs := #[.int .i64 a0_0, .int .i64 a0_1, .int .i64 a0_2, .int .i64 a0_3, .int .i64 a0_4]) (t := 27) ?hr ?_; (case hd => rfl); (case hg => rfl); (case hr => first | (go_simp; done) | (go_simp; rfl)); intro gb409 hg w4 hbox hb; have n0_ := aK.mk (bL (by repeat (first | (with_reducible first | exact HB.out | apply aU | apply aM | apply aT) | exact HB.out)) hb); have n1_ := aK.mk (hbox); have n2_ := aK.mk ((by rw [hg]; exact (bN (by repeat (first | (with_reducible first | exact HB.out | apply aU | apply aM | apply aT) | exact HB.out))) : w.heap.size ≤ gb409)); have n3_ := aK.mk ((by rw [hg]; exact (bN (by repeat (first | (with_reducible first | exact HB.out | apply aU | apply aM | apply aT) | exact HB.out))) : w.heap.size ≤ gb409)); clear HB; have HB := n0_; have BK409 := n1_; have GW409 := n2_; have GE409 := n3_; clear n0_ n1_ n2_ n3_; clear hb hbox hg) | ((with_reducible refine bV (N := 3) rfl ?_); refine bZ ?hg (N := 3) ?hd (cs := #[.int .i64 a1_0, .int .i64 a1_1, .int .i64 a1_2, .int .i64 a1_3, .int .i64 a1_4]) (t := 27) ?hr ?_; (case hd => rfl); (case hg => rfl); (case hr => first | (go_simp; done) | (go_simp; rfl)); intro gb410 hg w5 hbox hb; have n0_ := aK.mk (bC (g := gb409) (o := .cells #[.int .i64 a0_0, .int .i64 a0_1, .int .i64 a0_2, .int .i64 a0_3, .int .i64 a0_4] 27 (0, 0)) (by (with_reducible repeat (first | refine aW ?_ _ | refine aX ?_ | refine aV ?_ _)); exact BK409.out) hb); have n1_ := aK.mk (bL (by repeat (first | (with_reducible first | exact HB.out | apply aU | apply aM | apply aT | refine aY ?_ GE409.out) | exact HB.out)) hb); have n2_ := aK.mk (hbox); have n3_ := aK.mk ((by rw [hg]; exact (bN (by repeat (first | (with_reducible first | exact HB.out | apply aU | apply aM | apply aT | refine aY ?_ GE409.out) | exact HB.out))) : w.heap.size ≤ gb410)); have n4_ := aK.mk ((by rw [hg]; exact (bN (by repeat (first | (with_reducible first | exact HB.out | apply aU | apply aM | apply aT | refine aY ?_ GE409.out) | exact HB.out))) : w.heap.size ≤ gb410)); have n5_ := aK.mk ((by rw [hg]; exact Nat.ne_of_lt (bW (g := gb409) (o := .cells #[.int .i64 a0_0, .int .i64 a0_1, .int .i64 a0_2, .int .i64 a0_3, .int .i64 a0_4] 27 (0, 0)) (by (with_reducible repeat (first | refine aW ?_ _ | refine aX ?_ | refine aV ?_ _)); exact BK409.out)) : gb409 ≠ gb410)); have n6_ := aK.mk ((by rw [hg]; exact Nat.ne_of_gt (bW (g := gb409) (o := .cells #[.int .i64 a0_0, .int .i64 a0_1, .int .i64 a0_2, .int .i64 a0_3, .int .i64 a0_4] 27 (0, 0)) (by (with_reducible repeat (first | refine aW ?_ _ | refine aX ?_ | refine aV ?_ _)); exact BK409.out)) : gb410 ≠ gb409)); clear BK409; clear HB; have BK409 := n0_; have HB := n1_; have BK410 := n2_; have GW410 := n3_; have GE410 := n4_; have NB409_410 := n5_; have NB410_409 := n6_; clear n0_ n1_ n2_ n3_ n4_ n5_ n6_; clear hb hbox hg; have hnb6 := NB409_410.out; have hnc6 := NB410_409.out; have hcz7_0 : w5.cell? ⟨gb409, 0, none⟩ = some (.int .i64 a0_0) := (aQ BK409.out 0).trans rfl; have hcz7_1 : w5.cell? ⟨gb409, 1, none⟩ = some (.int .i64 a0_1) := (aQ BK409.out 1).trans rfl; have hcz7_2 : w5.cell? ⟨gb409, 2, none⟩ = some (.int .i64 a0_2) := (aQ BK409.out 2).trans rfl; have hcz7_3 : w5.cell? ⟨gb409, 3, none⟩ = some (.int .i64 a0_3) := (aQ BK409.out 3).trans rfl; have hcz7_4 : w5.cell? ⟨gb409, 4, none⟩ = some (.int .i64 a0_4) := (aQ BK409.out 4).trans rfl; have hfz7_0 := aN BK409.out 0; have hfz7_1 := aN BK409.out 1; have hfz7_2 := aN BK409.out 2; have hfz7_3 := aN BK409.out 3; have hfz7_4 := aN BK409.out 4; have hcz8_0 : w5.cell? ⟨gb410, 0, none⟩ = some (.int .i64 a1_0) := (aQ BK410.out 0).trans rfl; have hcz8_1 : w5.cell? ⟨gb410, 1, none⟩ = some (.int .i64 a1_1) := (aQ BK410.out 1).trans rfl; have hcz8_2 : w5.cell? ⟨gb410, 2, none⟩ = some (.int .i64 a1_2) := (aQ BK410.out 2).trans rfl; have hcz8_3 : w5.cell? ⟨gb410, 3, none⟩ = some (.int .i64 a1_3) := (aQ BK410.out 3).trans rfl; have hcz8_4 : w5.cell? ⟨gb410, 4, none⟩ = some (.int .i64 a1_4) := (aQ BK410.out 4).trans rfl; have hfz8_0 := aN BK410.out 0; have hfz8_1 := aN BK410.out 1; have hfz8_2 := aN BK410.out 2; have hfz8_3 := aN BK410.out 3; have hfz8_4 := aN BK410.out 4))
  go_ret
  exact ⟨by first | rfl | (simp [errW_none, errW_some] <;> rfl) | (simp [*, errW_none, errW_some] <;> rfl), by repeat (first | (with_reducible first | exact HB.out | apply aU | apply aM | apply aT | refine aY ?_ GE409.out | refine aY ?_ GE410.out) | exact HB.out)⟩
 ·rw [if_neg c3] at H
  have c3b0 : decide (a0_0 < a1_0) = false := decide_eq_false c3
  clear c3
  by_cases c9 : a0_0 = a1_0
  ·rw [if_pos c9] at H
   have c9b0 : (a0_0 == a1_0) = true := beq_iff_eq.mpr c9
   have c9b1 : (a0_0 != a1_0) = false := bne_eq_false_iff_eq.mpr c9
   clear c9
   obtain rfl := Option.some.inj H
   go_enter Try.func28, Try.ntmps28
   go_wp2_with (first | ((with_reducible refine bV (N := 2) rfl ?_); refine bZ ?hg (N := 2) ?hd (cs := #[.int .i64 a0_0, .int .i64 a0_1, .int .i64 a0_2, .int .i64 a0_3, .int .i64 a0_4]) (t := 27) ?hr ?_; (case hd => rfl); (case hg => rfl); (case hr => first | (go_simp; done) | (go_simp; rfl)); intro gb409 hg w10 hbox hb; have n0_ := aK.mk (bL (by repeat (first | (with_reducible first | exact HB.out | apply aU | apply aM | apply aT) | exact HB.out)) hb); have n1_ := aK.mk (hbox); have n2_ := aK.mk ((by rw [hg]; exact (bN (by repeat (first | (with_reducible first | exact HB.out | apply aU | apply aM | apply aT) | exact HB.out))) : w.heap.size ≤ gb409)); have n3_ := aK.mk ((by rw [hg]; exact (bN (by repeat (first | (with_reducible first | exact HB.out | apply aU | apply aM | apply aT) | exact HB.out))) : w.heap.size ≤ gb409)); clear HB; have HB := n0_; have BK409 := n1_; have GW409 := n2_; have GE409 := n3_; clear n0_ n1_ n2_ n3_; clear hb hbox hg) | ((with_reducible refine bV (N := 3) rfl ?_); refine bZ ?hg (N := 3) ?hd (cs := #[.int .i64 a1_0, .int .i64 a1_1, .int .i64 a1_2, .int .i64 a1_3, .int .i64 a1_4]) (t := 27) ?hr ?_; (case hd => rfl); (case hg => rfl); (case hr => first | (go_simp; done) | (go_simp; rfl)); intro gb410 hg w11 hbox hb; have n0_ := aK.mk (bC (g := gb409) (o := .cells #[.int .i64 a0_0, .int .i64 a0_1, .int .i64 a0_2, .int .i64 a0_3, .int .i64 a0_4] 27 (0, 0)) (by (with_reducible repeat (first | refine aW ?_ _ | refine aX ?_ | refine aV ?_ _)); exact BK409.out) hb); have n1_ := aK.mk (bL (by repeat (first | (with_reducible first | exact HB.out | apply aU | apply aM | apply aT | refine aY ?_ GE409.out) | exact HB.out)) hb); have n2_ := aK.mk (hbox); have n3_ := aK.mk ((by rw [hg]; exact (bN (by repeat (first | (with_reducible first | exact HB.out | apply aU | apply aM | apply aT | refine aY ?_ GE409.out) | exact HB.out))) : w.heap.size ≤ gb410)); have n4_ := aK.mk ((by rw [hg]; exact (bN (by repeat (first | (with_reducible first | exact HB.out | apply aU | apply aM | apply aT | refine aY ?_ GE409.out) | exact HB.out))) : w.heap.size ≤ gb410)); have n5_ := aK.mk ((by rw [hg]; exact Nat.ne_of_lt (bW (g := gb409) (o := .cells #[.int .i64 a0_0, .int .i64 a0_1, .int .i64 a0_2, .int .i64 a0_3, .int .i64 a0_4] 27 (0, 0)) (by (with_reducible repeat (first | refine aW ?_ _ | refine aX ?_ | refine aV ?_ _)); exact BK409.out)) : gb409 ≠ gb410)); have n6_ := aK.mk ((by rw [hg]; exact Nat.ne_of_gt (bW (g := gb409) (o := .cells #[.int .i64 a0_0, .int .i64 a0_1, .int .i64 a0_2, .int .i64 a0_3, .int .i64 a0_4] 27 (0, 0)) (by (with_reducible repeat (first | refine aW ?_ _ | refine aX ?_ | refine aV ?_ _)); exact BK409.out)) : gb410 ≠ gb409)); clear BK409; clear HB; have BK409 := n0_; have HB := n1_; have BK410 := n2_; have GW410 := n3_; have GE410 := n4_; have NB409_410 := n5_; have NB410_409 := n6_; clear n0_ n1_ n2_ n3_ n4_ n5_ n6_; clear hb hbox hg; have hnb12 := NB409_410.out; have hnc12 := NB410_409.out; have hcz13_0 : w11.cell? ⟨gb409, 0, none⟩ = some (.int .i64 a0_0) := (aQ BK409.out 0).trans rfl; have hcz13_1 : w11.cell? ⟨gb409, 1, none⟩ = some (.int .i64 a0_1) := (aQ BK409.out 1).trans rfl; have hcz13_2 : w11.cell? ⟨gb409, 2, none⟩ = some (.int .i64 a0_2) := (aQ BK409.out 2).trans rfl; have hcz13_3 : w11.cell? ⟨gb409, 3, none⟩ = some (.int .i64 a0_3) := (aQ BK409.out 3).trans rfl; have hcz13_4 : w11.cell? ⟨gb409, 4, none⟩ = some (.int .i64 a0_4) := (aQ BK409.out 4).trans rfl; have hfz13_0 := aN BK409.out 0; have hfz13_1 := aN BK409.out 1; have hfz13_2 := aN BK409.out 2; have hfz13_3 := aN BK409.out 3; have hfz13_4 := aN BK409.out 4; have hcz14_0 : w11.cell? ⟨gb410, 0, none⟩ = some (.int .i64 a1_0) := (aQ BK410.out 0).trans rfl; have hcz14_1 : w11.cell? ⟨gb410, 1, none⟩ = some (.int .i64 a1_1) := (aQ BK410.out 1).trans rfl; have hcz14_2 : w11.cell? ⟨gb410, 2, none⟩ = some (.int .i64 a1_2) := (aQ BK410.out 2).trans rfl; have hcz14_3 : w11.cell? ⟨gb410, 3, none⟩ = some (.int .i64 a1_3) := (aQ BK410.out 3).trans rfl; have hcz14_4 : w11.cell? ⟨gb410, 4, none⟩ = some (.int .i64 a1_4) := (aQ BK410.out 4).trans rfl; have hfz14_0 := aN BK410.out 0; have hfz14_1 := aN BK410.out 1; have hfz14_2 := aN BK410.out 2; have hfz14_3 := aN BK410.out 3; have hfz14_4 := aN BK410.out 4))
   go_ret
   exact ⟨by first | rfl | (simp [errW_none, errW_some] <;> rfl) | (simp [*, errW_none, errW_some] <;> rfl), by repeat (first | (with_reducible first | exact HB.out | apply aU | apply aM | apply aT | refine aY ?_ GE409.out | refine aY ?_ GE410.out) | exact HB.out)⟩
  ·rw [if_neg c9] at H
   have c9b0 : (a0_0 == a1_0) = false := beq_eq_false_iff_ne.mpr c9
   have c9b1 : (a0_0 != a1_0) = true := bne_iff_ne.mpr c9
   obtain rfl := Option.some.inj H
   go_enter Try.func28, Try.ntmps28
   go_wp2_with (first | ((with_reducible refine bV (N := 2) rfl ?_); refine bZ ?hg (N := 2) ?hd (cs := #[.int .i64 a0_0, .int .i64 a0_1, .int .i64 a0_2, .int .i64 a0_3, .int .i64 a0_4]) (t := 27) ?hr ?_; (case hd => rfl); (case hg => rfl); (case hr => first | (go_simp; done) | (go_simp; rfl)); intro gb409 hg w15 hbox hb; have n0_ := aK.mk (bL (by repeat (first | (with_reducible first | exact HB.out | apply aU | apply aM | apply aT) | exact HB.out)) hb); have n1_ := aK.mk (hbox); have n2_ := aK.mk ((by rw [hg]; exact (bN (by repeat (first | (with_reducible first | exact HB.out | apply aU | apply aM | apply aT) | exact HB.out))) : w.heap.size ≤ gb409)); have n3_ := aK.mk ((by rw [hg]; exact (bN (by repeat (first | (with_reducible first | exact HB.out | apply aU | apply aM | apply aT) | exact HB.out))) : w.heap.size ≤ gb409)); clear HB; have HB := n0_; have BK409 := n1_; have GW409 := n2_; have GE409 := n3_; clear n0_ n1_ n2_ n3_; clear hb hbox hg) | ((with_reducible refine bV (N := 3) rfl ?_); refine bZ ?hg (N := 3) ?hd (cs := #[.int .i64 a1_0, .int .i64 a1_1, .int .i64 a1_2, .int .i64 a1_3, .int .i64 a1_4]) (t := 27) ?hr ?_; (case hd => rfl); (case hg => rfl); (case hr => first | (go_simp; done) | (go_simp; rfl)); intro gb410 hg w16 hbox hb; have n0_ := aK.mk (bC (g := gb409) (o := .cells #[.int .i64 a0_0, .int .i64 a0_1, .int .i64 a0_2, .int .i64 a0_3, .int .i64 a0_4] 27 (0, 0)) (by (with_reducible repeat (first | refine aW ?_ _ | refine aX ?_ | refine aV ?_ _)); exact BK409.out) hb); have n1_ := aK.mk (bL (by repeat (first | (with_reducible first | exact HB.out | apply aU | apply aM | apply aT | refine aY ?_ GE409.out) | exact HB.out)) hb); have n2_ := aK.mk (hbox); have n3_ := aK.mk ((by rw [hg]; exact (bN (by repeat (first | (with_reducible first | exact HB.out | apply aU | apply aM | apply aT | refine aY ?_ GE409.out) | exact HB.out))) : w.heap.size ≤ gb410)); have n4_ := aK.mk ((by rw [hg]; exact (bN (by repeat (first | (with_reducible first | exact HB.out | apply aU | apply aM | apply aT | refine aY ?_ GE409.out) | exact HB.out))) : w.heap.size ≤ gb410)); have n5_ := aK.mk ((by rw [hg]; exact Nat.ne_of_lt (bW (g := gb409) (o := .cells #[.int .i64 a0_0, .int .i64 a0_1, .int .i64 a0_2, .int .i64 a0_3, .int .i64 a0_4] 27 (0, 0)) (by (with_reducible repeat (first | refine aW ?_ _ | refine aX ?_ | refine aV ?_ _)); exact BK409.out)) : gb409 ≠ gb410)); have n6_ := aK.mk ((by rw [hg]; exact Nat.ne_of_gt (bW (g := gb409) (o := .cells #[.int .i64 a0_0, .int .i64 a0_1, .int .i64 a0_2, .int .i64 a0_3, .int .i64 a0_4] 27 (0, 0)) (by (with_reducible repeat (first | refine aW ?_ _ | refine aX ?_ | refine aV ?_ _)); exact BK409.out)) : gb410 ≠ gb409)); clear BK409; clear HB; have BK409 := n0_; have HB := n1_; have BK410 := n2_; have GW410 := n3_; have GE410 := n4_; have NB409_410 := n5_; have NB410_409 := n6_; clear n0_ n1_ n2_ n3_ n4_ n5_ n6_; clear hb hbox hg; have hnb17 := NB409_410.out; have hnc17 := NB410_409.out; have hcz18_0 : w16.cell? ⟨gb409, 0, none⟩ = some (.int .i64 a0_0) := (aQ BK409.out 0).trans rfl; have hcz18_1 : w16.cell? ⟨gb409, 1, none⟩ = some (.int .i64 a0_1) := (aQ BK409.out 1).trans rfl; have hcz18_2 : w16.cell? ⟨gb409, 2, none⟩ = some (.int .i64 a0_2) := (aQ BK409.out 2).trans rfl; have hcz18_3 : w16.cell? ⟨gb409, 3, none⟩ = some (.int .i64 a0_3) := (aQ BK409.out 3).trans rfl; have hcz18_4 : w16.cell? ⟨gb409, 4, none⟩ = some (.int .i64 a0_4) := (aQ BK409.out 4).trans rfl; have hfz18_0 := aN BK409.out 0; have hfz18_1 := aN BK409.out 1; have hfz18_2 := aN BK409.out 2; have hfz18_3 := aN BK409.out 3; have hfz18_4 := aN BK409.out 4; have hcz19_0 : w16.cell? ⟨gb410, 0, none⟩ = some (.int .i64 a1_0) := (aQ BK410.out 0).trans rfl; have hcz19_1 : w16.cell? ⟨gb410, 1, none⟩ = some (.int .i64 a1_1) := (aQ BK410.out 1).trans rfl; have hcz19_2 : w16.cell? ⟨gb410, 2, none⟩ = some (.int .i64 a1_2) := (aQ BK410.out 2).trans rfl; have hcz19_3 : w16.cell? ⟨gb410, 3, none⟩ = some (.int .i64 a1_3) := (aQ BK410.out 3).trans rfl; have hcz19_4 : w16.cell? ⟨gb410, 4, none⟩ = some (.int .i64 a1_4) := (aQ BK410.out 4).trans rfl; have hfz19_0 := aN BK410.out 0; have hfz19_1 := aN BK410.out 1; have hfz19_2 := aN BK410.out 2; have hfz19_3 := aN BK410.out 3; have hfz19_4 := aN BK410.out 4))
   go_ret
   exact ⟨by first | rfl | (simp [errW_none, errW_some] <;> rfl) | (simp [*, errW_none, errW_some] <;> rfl), by repeat (first | (with_reducible first | exact HB.out | apply aU | apply aM | apply aT | refine aY ?_ GE409.out | refine aY ?_ GE410.out) | exact HB.out)⟩
def impl_SameSpot.f (a0_0 : Int) (a0_1 : Int) (a0_2 : Int) (a0_3 : Int) (a0_4 : Int) (a1_0 : Int) (a1_1 : Int) (a1_2 : Int) (a1_3 : Int) (a1_4 : Int) : Option (Bool) := if a0_0 = a1_0 then (some (a0_1 == a1_1)) else (some false)
set_option maxHeartbeats 8000000 in
set_option maxRecDepth 100000 in
theorem impl_SameSpot.calls (a0_0 : Int) (a0_1 : Int) (a0_2 : Int) (a0_3 : Int) (a0_4 : Int) (a1_0 : Int) (a1_1 : Int) (a1_2 : Int) (a1_3 : Int) (a1_4 : Int) (r : Bool) (w : World) (h : impl_SameSpot.f a0_0 a0_1 a0_2 a0_3 a0_4 a1_0 a1_1 a1_2 a1_3 a1_4 = some r) :
  Calls Try.prog 29 #[.agg #[.int .i64 a0_0, .int .i64 a0_1, .int .i64 a0_2, .int .i64 a0_3, .int .i64 a0_4], .agg #[.int .i64 a1_0, .int .i64 a1_1, .int .i64 a1_2, .int .i64 a1_3, .int .i64 a1_4]] w fun e w' => e = .returned (.bool r) ∧ Below w.heap.size w w' := by
 have hu27 := Try.underlying27
 have HB := aK.mk (Below.refl w.heap.size w)
 have H : (if a0_0 = a1_0 then (some (a0_1 == a1_1)) else (some false)) = some r := h
 clear h
 by_cases c3 : a0_0 = a1_0
 ·rw [if_pos c3] at H
  have c3b0 : (a0_0 == a1_0) = true := beq_iff_eq.mpr c3
  have c3b1 : (a0_0 != a1_0) = false := bne_eq_false_iff_eq.mpr c3
  clear c3
  obtain rfl := Option.some.inj H
  go_enter Try.func29, Try.ntmps29
  go_wp2_with (first | ((with_reducible refine bV (N := 2) rfl ?_); refine bZ ?hg (N := 2) ?hd (cs := #[.int .i64 a0_0, .int .i64 a0_1, .int .i64 a0_2, .int .i64 a0_3, .int .i64 a0_4]) (t := 27) ?hr ?_; (case hd => rfl); (case hg => rfl); (case hr => first | (go_simp; done) | (go_simp; rfl)); intro gb411 hg w4 hbox hb; have n0_ := aK.mk (bL (by repeat (first | (with_reducible first | exact HB.out | apply aU | apply aM | apply aT) | exact HB.out)) hb); have n1_ := aK.mk (hbox); have n2_ := aK.mk ((by rw [hg]; exact (bN (by repeat (first | (with_reducible first | exact HB.out | apply aU | apply aM | apply aT) | exact HB.out))) : w.heap.size ≤ gb411)); have n3_ := aK.mk ((by rw [hg]; exact (bN (by repeat (first | (with_reducible first | exact HB.out | apply aU | apply aM | apply aT) | exact HB.out))) : w.heap.size ≤ gb411)); clear HB; have HB := n0_; have BK411 := n1_; have GW411 := n2_; have GE411 := n3_; clear n0_ n1_ n2_ n3_; clear hb hbox hg) | ((with_reducible refine bV (N := 3) rfl ?_); refine bZ ?hg (N := 3) ?hd (cs := #[.int .i64 a1_0, .int .i64 a1_1, .int .i64 a1_2, .int .i64 a1_3, .int .i64 a1_4]) (t := 27) ?hr ?_; (case hd => rfl); (case hg => rfl); (case hr => first | (go_simp; done) | (go_simp; rfl)); intro gb412 hg w5 hbox hb; have n0_ := aK.mk (bC (g := gb411) (o := .cells #[.int .i64 a0_0, .int .i64 a0_1, .int .i64 a0_2, .int .i64 a0_3, .int .i64 a0_4] 27 (0, 0)) (by (with_reducible repeat (first | refine aW ?_ _ | refine aX ?_ | refine aV ?_ _)); exact BK411.out) hb); have n1_ := aK.mk (bL (by repeat (first | (with_reducible first | exact HB.out | apply aU | apply aM | apply aT | refine aY ?_ GE411.out) | exact HB.out)) hb); have n2_ := aK.mk (hbox); have n3_ := aK.mk ((by rw [hg]; exact (bN (by repeat (first | (with_reducible first | exact HB.out | apply aU | apply aM | apply aT | refine aY ?_ GE411.out) | exact HB.out))) : w.heap.size ≤ gb412)); have n4_ := aK.mk ((by rw [hg]; exact (bN (by repeat (first | (with_reducible first | exact HB.out | apply aU | apply aM | apply aT | refine aY ?_ GE411.out) | exact HB.out))) : w.heap.size ≤ gb412)); have n5_ := aK.mk ((by rw [hg]; exact Nat.ne_of_lt (bW (g := gb411) (o := .cells #[.int .i64 a0_0, .int .i64 a0_1, .int .i64 a0_2, .int .i64 a0_3, .int .i64 a0_4] 27 (0, 0)) (by (with_reducible repeat (first | refine aW ?_ _ | refine aX ?_ | refine aV ?_ _)); exact BK411.out)) : gb411 ≠ gb412)); have n6_ := aK.mk ((by rw [hg]; exact Nat.ne_of_gt (bW (g := gb411) (o := .cells #[.int .i64 a0_0, .int .i64 a0_1, .int .i64 a0_2, .int .i64 a0_3, .int .i64 a0_4] 27 (0, 0)) (by (with_reducible repeat (first | refine aW ?_ _ | refine aX ?_ | refine aV ?_ _)); exact BK411.out)) : gb412 ≠ gb411)); clear BK411; clear HB; have BK411 := n0_; have HB := n1_; have BK412 := n2_; have GW412 := n3_; have GE412 := n4_; have NB411_412 := n5_; have NB412_411 := n6_; clear n0_ n1_ n2_ n3_ n4_ n5_ n6_; clear hb hbox hg; have hnb6 := NB411_412.out; have hnc6 := NB412_411.out; have hcz7_0 : w5.cell? ⟨gb411, 0, none⟩ = some (.int .i64 a0_0) := (aQ BK411.out 0).trans rfl; have hcz7_1 : w5.cell? ⟨gb411, 1, none⟩ = some (.int .i64 a0_1) := (aQ BK411.out 1).trans rfl; have hcz7_2 : w5.cell? ⟨gb411, 2, none⟩ = some (.int .i64 a0_2) := (aQ BK411.out 2).trans rfl; have hcz7_3 : w5.cell? ⟨gb411, 3, none⟩ = some (.int .i64 a0_3) := (aQ BK411.out 3).trans rfl; have hcz7_4 : w5.cell? ⟨gb411, 4, none⟩ = some (.int .i64 a0_4) := (aQ BK411.out 4).trans rfl; have hfz7_0 := aN BK411.out 0; have hfz7_1 := aN BK411.out 1; have hfz7_2 := aN BK411.out 2; have hfz7_3 := aN BK411.out 3; have hfz7_4 := aN BK411.out 4; have hcz8_0 : w5.cell? ⟨gb412, 0, none⟩ = some (.int .i64 a1_0) := (aQ BK412.out 0).trans rfl; have hcz8_1 : w5.cell? ⟨gb412, 1, none⟩ = some (.int .i64 a1_1) := (aQ BK412.out 1).trans rfl; have hcz8_2 : w5.cell? ⟨gb412, 2, none⟩ = some (.int .i64 a1_2) := (aQ BK412.out 2).trans rfl; have hcz8_3 : w5.cell? ⟨gb412, 3, none⟩ = some (.int .i64 a1_3) := (aQ BK412.out 3).trans rfl; have hcz8_4 : w5.cell? ⟨gb412, 4, none⟩ = some (.int .i64 a1_4) := (aQ BK412.out 4).trans rfl; have hfz8_0 := aN BK412.out 0; have hfz8_1 := aN BK412.out 1; have hfz8_2 := aN BK412.out 2; have hfz8_3 := aN BK412.out 3; have hfz8_4 := aN BK412.out 4))
  go_ret
  exact ⟨by first | rfl | (simp [errW_none, errW_some] <;> rfl) | (simp [*, errW_none, errW_some] <;> rfl), by repeat (first | (with_reducible first | exact HB.out | apply aU | apply aM | apply aT | refine aY ?_ GE411.out | refine aY ?_ GE412.out) | exact HB.out)⟩
 ·rw [if_neg c3] at H
  have c3b0 : (a0_0 == a1_0) = false := beq_eq_false_iff_ne.mpr c3
  have c3b1 : (a0_0 != a1_0) = true := bne_iff_ne.mpr c3
  obtain rfl := Option.some.inj H
  go_enter Try.func29, Try.ntmps29
  go_wp2_with (first | ((with_reducible refine bV (N := 2) rfl ?_); refine bZ ?hg (N := 2) ?hd (cs := #[.int .i64 a0_0, .int .i64 a0_1, .int .i64 a0_2, .int .i64 a0_3, .int .i64 a0_4]) (t := 27) ?hr ?_; (case hd => rfl); (case hg => rfl); (case hr => first | (go_simp; done) | (go_simp; rfl)); intro gb411 hg w9 hbox hb; have n0_ := aK.mk (bL (by repeat (first | (with_reducible first | exact HB.out | apply aU | apply aM | apply aT) | exact HB.out)) hb); have n1_ := aK.mk (hbox); have n2_ := aK.mk ((by rw [hg]; exact (bN (by repeat (first | (with_reducible first | exact HB.out | apply aU | apply aM | apply aT) | exact HB.out))) : w.heap.size ≤ gb411)); have n3_ := aK.mk ((by rw [hg]; exact (bN (by repeat (first | (with_reducible first | exact HB.out | apply aU | apply aM | apply aT) | exact HB.out))) : w.heap.size ≤ gb411)); clear HB; have HB := n0_; have BK411 := n1_; have GW411 := n2_; have GE411 := n3_; clear n0_ n1_ n2_ n3_; clear hb hbox hg) | ((with_reducible refine bV (N := 3) rfl ?_); refine bZ ?hg (N := 3) ?hd (cs := #[.int .i64 a1_0, .int .i64 a1_1, .int .i64 a1_2, .int .i64 a1_3, .int .i64 a1_4]) (t := 27) ?hr ?_; (case hd => rfl); (case hg => rfl); (case hr => first | (go_simp; done) | (go_simp; rfl)); intro gb412 hg w10 hbox hb; have n0_ := aK.mk (bC (g := gb411) (o := .cells #[.int .i64 a0_0, .int .i64 a0_1, .int .i64 a0_2, .int .i64 a0_3, .int .i64 a0_4] 27 (0, 0)) (by (with_reducible repeat (first | refine aW ?_ _ | refine aX ?_ | refine aV ?_ _)); exact BK411.out) hb); have n1_ := aK.mk (bL (by repeat (first | (with_reducible first | exact HB.out | apply aU | apply aM | apply aT | refine aY ?_ GE411.out) | exact HB.out)) hb); have n2_ := aK.mk (hbox); have n3_ := aK.mk ((by rw [hg]; exact (bN (by repeat (first | (with_reducible first | exact HB.out | apply aU | apply aM | apply aT | refine aY ?_ GE411.out) | exact HB.out))) : w.heap.size ≤ gb412)); have n4_ := aK.mk ((by rw [hg]; exact (bN (by repeat (first | (with_reducible first | exact HB.out | apply aU | apply aM | apply aT | refine aY ?_ GE411.out) | exact HB.out))) : w.heap.size ≤ gb412)); have n5_ := aK.mk ((by rw [hg]; exact Nat.ne_of_lt (bW (g := gb411) (o := .cells #[.int .i64 a0_0, .int .i64 a0_1, .int .i64 a0_2, .int .i64 a0_3, .int .i64 a0_4] 27 (0, 0)) (by (with_reducible repeat (first | refine aW ?_ _ | refine aX ?_ | refine aV ?_ _)); exact BK411.out)) : gb411 ≠ gb412)); have n6_ := aK.mk ((by rw [hg]; exact Nat.ne_of_gt (bW (g := gb411) (o := .cells #[.int .i64 a0_0, .int .i64 a0_1, .int .i64 a0_2, .int .i64 a0_3, .int .i64 a0_4] 27 (0, 0)) (by (with_reducible repeat (first | refine aW ?_ _ | refine aX ?_ | refine aV ?_ _)); exact BK411.out)) : gb412 ≠ gb411)); clear BK411; clear HB; have BK411 := n0_; have HB := n1_; have BK412 := n2_; have GW412 := n3_; have GE412 := n4_; have NB411_412 := n5_; have NB412_411 := n6_; clear n0_ n1_ n2_ n3_ n4_ n5_ n6_; clear hb hbox hg; have hnb11 := NB411_412.out; have hnc11 := NB412_411.out; have hcz12_0 : w10.cell? ⟨gb411, 0, none⟩ = some (.int .i64 a0_0) := (aQ BK411.out 0).trans rfl; have hcz12_1 : w10.cell? ⟨gb411, 1, none⟩ = some (.int .i64 a0_1) := (aQ BK411.out 1).trans rfl; have hcz12_2 : w10.cell? ⟨gb411, 2, none⟩ = some (.int .i64 a0_2) := (aQ BK411.out 2).trans rfl; have hcz12_3 : w10.cell? ⟨gb411, 3, none⟩ = some (.int .i64 a0_3) := (aQ BK411.out 3).trans rfl; have hcz12_4 : w10.cell? ⟨gb411, 4, none⟩ = some (.int .i64 a0_4) := (aQ BK411.out 4).trans rfl; have hfz12_0 := aN BK411.out 0; have hfz12_1 := aN BK411.out 1; have hfz12_2 := aN BK411.out 2; have hfz12_3 := aN BK411.out 3; have hfz12_4 := aN BK411.out 4; have hcz13_0 : w10.cell? ⟨gb412, 0, none⟩ = some (.int .i64 a1_0) := (aQ BK412.out 0).trans rfl; have hcz13_1 : w10.cell? ⟨gb412, 1, none⟩ = some (.int .i64 a1_1) := (aQ BK412.out 1).trans rfl; have hcz13_2 : w10.cell? ⟨gb412, 2, none⟩ = some (.int .i64 a1_2) := (aQ BK412.out 2).trans rfl; have hcz13_3 : w10.cell? ⟨gb412, 3, none⟩ = some (.int .i64 a1_3) := (aQ BK412.out 3).trans rfl; have hcz13_4 : w10.cell? ⟨gb412, 4, none⟩ = some (.int .i64 a1_4) := (aQ BK412.out 4).trans rfl; have hfz13_0 := aN BK412.out 0; have hfz13_1 := aN BK412.out 1; have hfz13_2 := aN BK412.out 2; have hfz13_3 := aN BK412.out 3; have hfz13_4 := aN BK412.out 4))
  go_ret
  exact ⟨by first | rfl | (simp [errW_none, errW_some] <;> rfl) | (simp [*, errW_none, errW_some] <;> rfl), by repeat (first | (with_reducible first | exact HB.out | apply aU | apply aM | apply aT | refine aY ?_ GE411.out | refine aY ?_ GE412.out) | exact HB.out)⟩
end Go.Proofs.Ytkaoiaolbhklnaa.PFnKeys

namespace Go.Proofs.Ytkaoiaolbhklnaa.PFnKeys
open Go.RowKit Go.Proofs.YtkaoiaolbhklnaaW.PrintWords Go.Proofs.YtkaoiaolbhklnaaW.PrintLast Go.Proofs.YtkaoiaolbhklnaaW.PrintMore
attribute [local go_sem] max2_int min2_int max_two min_two max_three min_three max_four min_four   -- for this text's walks alone
set_option linter.unusedVariables false
set_option linter.unusedSimpArgs false
attribute [local go_sem high] eqA27
mutual
def laws_FnKeys.j0 : Nat → List Int → List Int → List Int → Int → Int → Bool → Bool → Int → Int → Int → Int → Int → Int → Int → Int → Int → Int → Int → Int → Int → Int → Int → Int → Int → Int → Int → Int → Int → Option (Bool)
 | 0, _, _, _, _, _, _, _, _, _, _, _, _, _, _, _, _, _, _, _, _, _, _, _, _, _, _, _, _ => none
 | k + 1, x3, x5, x6, x7, x9, x10, x13, x16, x423000, x423001, x423002, x423003, x423004, x438000, x438001, x438002, x438003, x438004, x457000, x457001, x457002, x457003, x457004, x458000, x458001, x458002, x458003, x458004 => (impl_LessKey.f x458000 x458001 x458002 x458003 x458004 x457000 x457001 x457002 x457003 x457004).bind fun t459 => (if t459 = true then (laws_FnKeys.j1 k x3 x5 x6 x7 x9 x10 x13 (wrap64 (x16 + 1)) x423000 x423001 x423002 x423003 x423004 x438000 x438001 x438002 x438003 x438004 x457000 x457001 x457002 x457003 x457004 x458000 x458001 x458002 x458003 x458004) else (laws_FnKeys.j1 k x3 x5 x6 x7 x9 x10 x13 x16 x423000 x423001 x423002 x423003 x423004 x438000 x438001 x438002 x438003 x438004 x457000 x457001 x457002 x457003 x457004 x458000 x458001 x458002 x458003 x458004))
def laws_FnKeys.j1 : Nat → List Int → List Int → List Int → Int → Int → Bool → Bool → Int → Int → Int → Int → Int → Int → Int → Int → Int → Int → Int → Int → Int → Int → Int → Int → Int → Int → Int → Int → Int → Option (Bool)
 | 0, _, _, _, _, _, _, _, _, _, _, _, _, _, _, _, _, _, _, _, _, _, _, _, _, _, _, _, _ => none
 | k + 1, x3, x5, x6, x7, x9, x10, x13, x16, x423000, x423001, x423002, x423003, x423004, x438000, x438001, x438002, x438003, x438004, x457000, x457001, x457002, x457003, x457004, x458000, x458001, x458002, x458003, x458004 => (impl_SameSpot.f x457000 x457001 x457002 x457003 x457004 x458000 x458001 x458002 x458003 x458004).bind fun t460 => (if t460 = true then (laws_FnKeys.j2 k x3 x5 x6 x7 x9 x10 x13 (wrap64 (x16 + 1)) x423000 x423001 x423002 x423003 x423004 x438000 x438001 x438002 x438003 x438004) else (laws_FnKeys.j2 k x3 x5 x6 x7 x9 x10 x13 x16 x423000 x423001 x423002 x423003 x423004 x438000 x438001 x438002 x438003 x438004))
def laws_FnKeys.j2 : Nat → List Int → List Int → List Int → Int → Int → Bool → Bool → Int → Int → Int → Int → Int → Int → Int → Int → Int → Int → Int → Option (Bool)
 | 0, _, _, _, _, _, _, _, _, _, _, _, _, _, _, _, _, _, _ => none
 | k + 1, x3, x5, x6, x7, x9, x10, x13, x16, x423000, x423001, x423002, x423003, x423004, x438000, x438001, x438002, x438003, x438004 => if (x10 != x13) = true then (laws_FnKeys.j3 k x3 x5 true x423000 x423001 x423002 x423003 x423004) else (if x10 = true then ((impl_PutKey.f k (([] : List Int)) x438000 x438001 x438002 x438003 x438004).bind fun t464 => (if 0 ≤ x7 then (if x7 ≤ x9 then (if x9 ≤ (x6.length : Int) then (if (strOfNums t464).toList = (strOfNums ((x6.take (x9 : Int).toNat).drop (x7 : Int).toNat)).toList then (if x16 = 1 then ((impl_KeyOk.f k x423000 x423001 x423002 x423003 x423004).bind fun t471 => ((spec_KeyOk.f k x423000 x423001 x423002 x423003 x423004).bind fun t472 => (laws_FnKeys.j3 k x3 x5 (t471 != t472) x423000 x423001 x423002 x423003 x423004))) else (laws_FnKeys.j3 k x3 x5 true x423000 x423001 x423002 x423003 x423004)) else (laws_FnKeys.j3 k x3 x5 true x423000 x423001 x423002 x423003 x423004)) else (none)) else (none)) else (none))) else (if x16 = 1 then ((impl_KeyOk.f k x423000 x423001 x423002 x423003 x423004).bind fun t473 => ((spec_KeyOk.f k x423000 x423001 x423002 x423003 x423004).bind fun t474 => (laws_FnKeys.j3 k x3 x5 (t473 != t474) x423000 x423001 x423002 x423003 x423004))) else (laws_FnKeys.j3 k x3 x5 true x423000 x423001 x423002 x423003 x423004)))
def laws_FnKeys.j3 : Nat → List Int → List Int → Bool → Int → Int → Int → Int → Int → Option (Bool)
 | 0, _, _, _, _, _, _, _, _ => none
 | k + 1, x3, x5, x97, x423000, x423001, x423002, x423003, x423004 => if x97 = true then (some false) else ((impl_KeyOk.f k x423000 x423001 x423002 x423003 x423004).bind fun t475 => (if t475 = true then ((impl_GetKey.f k x5 (x3.length : Int)).bind fun bt476 => (if bt476.2.2.2.2.2.2 = true then (if (bt476.1 == x423000 && (bt476.2.1 == x423001 && (bt476.2.2.1 == x423002 && (bt476.2.2.2.1 == x423003 && (bt476.2.2.2.2.1 == x423004))))) = true then (some (bt476.2.2.2.2.2.1 == (x5.length : Int))) else (some false)) else (some false))) else (some ((strOfNums x5).toList == (strOfNums x3).toList))))
end
def laws_FnKeys.f (k : Nat) (l0 : List Int) : Option (Bool) := (laws_big.f l0).bind fun t413 => (if t413 = true then (some true) else ((spec_DrawPutKey.f k l0).bind fun bt414 => ((impl_PutKey.f k bt414.1 bt414.2.1 bt414.2.2.1 bt414.2.2.2.1 bt414.2.2.2.2.1 bt414.2.2.2.2.2).bind fun t423 => ((spec_DrawGetKey.f k l0).bind fun bt426 => ((impl_GetKey.f k bt426.1 bt426.2).bind fun bt430 => ((spec_GetKey.f k bt426.1 bt426.2).bind fun bt438 => ((spec_DrawLessKey.f k l0).bind fun bt446 => ((impl_LessKey.f bt446.1 bt446.2.1 bt446.2.2.1 bt446.2.2.2.1 bt446.2.2.2.2.1 bt446.2.2.2.2.2.1 bt446.2.2.2.2.2.2.1 bt446.2.2.2.2.2.2.2.1 bt446.2.2.2.2.2.2.2.2.1 bt446.2.2.2.2.2.2.2.2.2).bind fun t458 => (if t458 = true then (laws_FnKeys.j0 k bt414.1 t423 bt426.1 bt426.2 bt430.2.2.2.2.2.1 bt430.2.2.2.2.2.2 bt438.2.2.2.2.2.2 (0 + 1) bt414.2.1 bt414.2.2.1 bt414.2.2.2.1 bt414.2.2.2.2.1 bt414.2.2.2.2.2 bt430.1 bt430.2.1 bt430.2.2.1 bt430.2.2.2.1 bt430.2.2.2.2.1 bt446.1 bt446.2.1 bt446.2.2.1 bt446.2.2.2.1 bt446.2.2.2.2.1 bt446.2.2.2.2.2.1 bt446.2.2.2.2.2.2.1 bt446.2.2.2.2.2.2.2.1 bt446.2.2.2.2.2.2.2.2.1 bt446.2.2.2.2.2.2.2.2.2) else (laws_FnKeys.j0 k bt414.1 t423 bt426.1 bt426.2 bt430.2.2.2.2.2.1 bt430.2.2.2.2.2.2 bt438.2.2.2.2.2.2 0 bt414.2.1 bt414.2.2.1 bt414.2.2.2.1 bt414.2.2.2.2.1 bt414.2.2.2.2.2 bt430.1 bt430.2.1 bt430.2.2.1 bt430.2.2.2.1 bt430.2.2.2.2.1 bt446.1 bt446.2.1 bt446.2.2.1 bt446.2.2.2.1 bt446.2.2.2.2.1 bt446.2.2.2.2.2.1 bt446.2.2.2.2.2.2.1 bt446.2.2.2.2.2.2.2.1 bt446.2.2.2.2.2.2.2.2.1 bt446.2.2.2.2.2.2.2.2.2))))))))))
def laws_FnKeys.T16 : Bool × List (List Nat × List Nat) := (true, [([], []), ([], []), ([0, 1], [0, 1]), ([2], [2]), ([3], [3]), ([4, 3, 3], [3, 4]), ([5], [5]), ([5], [5]), ([6, 7, 5, 5], [5, 6, 7]), ([8, 5], [5, 8]), ([5], [5]), ([5], [5]), ([5], [5]), ([10, 11, 12, 5], [5, 10, 11, 12]), ([13, 5], [5, 13]), ([9, 14, 5], [5, 9, 14]), ([5, 15, 3], [3, 5, 15]), ([3, 16], [3, 16]), ([17, 8], [17]), ([18], [18]), ([19, 18], [18, 19]), ([18, 20], [18, 20]), ([21, 18], [21]), ([22], [22]), ([23, 22, 22], [22, 23]), ([22], [22]), ([25, 24, 22], [22, 25]), ([24, 26, 22], [22, 24, 26]), ([22, 27], [22, 27])])
def laws_FnKeys.B16 : List Nat := [0, 0, 3, 7, 15, 31, 63, 63, 255, 511, 63, 63, 63, 7231, 15423, 32767, 65535, 131071, 262143, 524287, 1048575, 2097151, 4194303, 8388607, 16777215, 8388607, 67108863, 134217727, 268435455]
theorem laws_FnKeys.tab16 : rtab .any (opsOf Try.f5 16) = laws_FnKeys.T16 := by kernel_rfl
theorem lsT {α : Type} (l : List α) (i : Nat) (a : α) : l.toArray.setIfInBounds i a = (l.set i a).toArray := lA ..
theorem lsZ {α : Type} (a b : α) (l : List α) : (a :: l).set 0 b = b :: l := lB ..
theorem lsS {α : Type} (a b : α) (l : List α) (n : Nat) : (a :: l).set (n + 1) b = a :: l.set n b := lC ..
theorem bkA {w : World} {g : Nat} {o : Obj} (h : w.heap[g]? = some o) (o' : Obj) : (w.alloc o').heap[g]? = some o := aV h o'
theorem bkD {w : World} {g : Nat} {o : Obj} (h : w.heap[g]? = some o) : w.drew.heap[g]? = some o := h
theorem bkN {w : World} {g : Nat} {o : Obj} (h : w.heap[g]? = some o) (n : Nat) : (w.drewN n).heap[g]? = some o := h
theorem bwS {w W : World} {g j : Nat} {v : Value} (h : Below w.heap.size w W) (hg : w.heap.size ≤ g) : Below w.heap.size w (W.setCell ⟨g, j, none⟩ v) := aY h hg
theorem laws_FnKeys.bits16 : waitsOk laws_FnKeys.T16.2 laws_FnKeys.B16 = true := by kernel_rfl
@[reducible] def laws_FnKeys.d0 : Array Bool := #[false, false, false, false, false, false, false, false, false, false, false, false, false, false, false, false, false, false, false, false, false, false, false, false, false, false, false, false, false]
@[reducible] def laws_FnKeys.d1 : Array Bool := #[true, false, false, false, false, false, false, false, false, false, false, false, false, false, false, false, false, false, false, false, false, false, false, false, false, false, false, false, false]
@[reducible] def laws_FnKeys.d2 : Array Bool := #[true, true, false, false, false, false, false, false, false, false, false, false, false, false, false, false, false, false, false, false, false, false, false, false, false, false, false, false, false]
@[reducible] def laws_FnKeys.d3 : Array Bool := #[true, true, true, false, false, false, false, false, false, false, false, false, false, false, false, false, false, false, false, false, false, false, false, false, false, false, false, false, false]
@[reducible] def laws_FnKeys.d4 : Array Bool := #[true, true, true, true, false, false, false, false, false, false, false, false, false, false, false, false, false, false, false, false, false, false, false, false, false, false, false, false, false]
@[reducible] def laws_FnKeys.d5 : Array Bool := #[true, true, true, true, true, false, false, false, false, false, false, false, false, false, false, false, false, false, false, false, false, false, false, false, false, false, false, false, false]
@[reducible] def laws_FnKeys.d6 : Array Bool := #[true, true, true, true, true, true, false, false, false, false, false, false, false, false, false, false, false, false, false, false, false, false, false, false, false, false, false, false, false]
@[reducible] def laws_FnKeys.d7 : Array Bool := #[true, true, true, true, true, true, true, false, false, false, false, false, false, false, false, false, false, false, false, false, false, false, false, false, false, false, false, false, false]
@[reducible] def laws_FnKeys.d8 : Array Bool := #[true, true, true, true, true, true, true, true, false, false, false, false, false, false, false, false, false, false, false, false, false, false, false, false, false, false, false, false, false]
@[reducible] def laws_FnKeys.d9 : Array Bool := #[true, true, true, true, true, true, true, true, true, false, false, false, false, false, false, false, false, false, false, false, false, false, false, false, false, false, false, false, false]
@[reducible] def laws_FnKeys.d10 : Array Bool := #[true, true, true, true, true, true, true, true, true, true, false, false, false, false, false, false, false, false, false, false, false, false, false, false, false, false, false, false, false]
@[reducible] def laws_FnKeys.d11 : Array Bool := #[true, true, true, true, true, true, true, true, true, true, true, false, false, false, false, false, false, false, false, false, false, false, false, false, false, false, false, false, false]
@[reducible] def laws_FnKeys.d12 : Array Bool := #[true, true, true, true, true, true, true, true, true, true, true, true, false, false, false, false, false, false, false, false, false, false, false, false, false, false, false, false, false]
@[reducible] def laws_FnKeys.d13 : Array Bool := #[true, true, true, true, true, true, true, true, true, true, true, true, true, false, false, false, false, false, false, false, false, false, false, false, false, false, false, false, false]
@[reducible] def laws_FnKeys.d14 : Array Bool := #[true, true, true, true, true, true, true, true, true, true, true, true, true, true, false, false, false, false, false, false, false, false, false, false, false, false, false, false, false]
@[reducible] def laws_FnKeys.d15 : Array Bool := #[true, true, true, true, true, true, true, true, true, true, true, true, true, true, true, false, false, false, false, false, false, false, false, false, false, false, false, false, false]
@[reducible] def laws_FnKeys.d16 : Array Bool := #[true, true, true, true, true, true, true, true, true, true, true, true, true, true, true, true, false, false, false, false, false, false, false, false, false, false, false, false, false]
@[reducible] def laws_FnKeys.d17 : Array Bool := #[true, true, true, true, true, true, true, true, true, true, true, true, true, true, true, true, true, false, false, false, false, false, false, false, false, false, false, false, false]
@[reducible] def laws_FnKeys.d18 : Array Bool := #[true, true, true, true, true, true, true, true, true, true, true, true, true, true, true, true, true, true, false, false, false, false, false, false, false, false, false, false, false]
@[reducible] def laws_FnKeys.d19 : Array Bool := #[true, true, true, true, true, true, true, true, true, true, true, true, true, true, true, true, true, true, true, false, false, false, false, false, false, false, false, false, false]
@[reducible] def laws_FnKeys.d20 : Array Bool := #[true, true, true, true, true, true, true, true, true, true, true, true, true, true, true, true, true, true, true, true, false, false, false, false, false, false, false, false, false]
@[reducible] def laws_FnKeys.d21 : Array Bool := #[true, true, true, true, true, true, true, true, true, true, true, true, true, true, true, true, true, true, true, true, true, false, false, false, false, false, false, false, false]
@[reducible] def laws_FnKeys.d22 : Array Bool := #[true, true, true, true, true, true, true, true, true, true, true, true, true, true, true, true, true, true, true, true, true, true, false, false, false, false, false, false, false]
@[reducible] def laws_FnKeys.d23 : Array Bool := #[true, true, true, true, true, true, true, true, true, true, true, true, true, true, true, true, true, true, true, true, true, true, true, false, false, false, false, false, false]
@[reducible] def laws_FnKeys.d24 : Array Bool := #[true, true, true, true, true, true, true, true, true, true, true, true, true, true, true, true, true, true, true, true, true, true, true, true, false, false, false, false, false]
@[reducible] def laws_FnKeys.d25 : Array Bool := #[true, true, true, true, true, true, true, true, true, true, true, true, true, true, true, true, true, true, true, true, true, true, true, true, true, false, false, false, false]
@[reducible] def laws_FnKeys.d26 : Array Bool := #[true, true, true, true, true, true, true, true, true, true, true, true, true, true, true, true, true, true, true, true, true, true, true, true, true, true, false, false, false]
@[reducible] def laws_FnKeys.d27 : Array Bool := #[true, true, true, true, true, true, true, true, true, true, true, true, true, true, true, true, true, true, true, true, true, true, true, true, true, true, true, false, false]
@[reducible] def laws_FnKeys.d28 : Array Bool := #[true, true, true, true, true, true, true, true, true, true, true, true, true, true, true, true, true, true, true, true, true, true, true, true, true, true, true, true, false]
@[reducible] def laws_FnKeys.d29 : Array Bool := #[true, true, true, true, true, true, true, true, true, true, true, true, true, true, true, true, true, true, true, true, true, true, true, true, true, true, true, true, true]
@[reducible] def laws_FnKeys.d30 : Array Bool := #[true, true, true, true, true, true, false, false, false, false, true, false, false, false, false, false, false, false, false, false, false, false, false, false, false, false, false, false, false]
@[reducible] def laws_FnKeys.d31 : Array Bool := #[true, true, true, true, true, true, false, false, false, false, true, true, false, false, false, false, false, false, false, false, false, false, false, false, false, false, false, false, false]
@[reducible] def laws_FnKeys.d32 : Array Bool := #[true, true, true, true, true, true, false, false, false, false, true, true, true, false, false, false, false, false, false, false, false, false, false, false, false, false, false, false, false]
@[reducible] def laws_FnKeys.d33 : Array Bool := #[true, true, true, true, true, true, false, false, false, false, true, true, true, true, false, false, false, false, false, false, false, false, false, false, false, false, false, false, false]
@[reducible] def laws_FnKeys.d34 : Array Bool := #[true, true, true, true, true, true, false, false, false, false, true, true, true, true, true, false, false, false, false, false, false, false, false, false, false, false, false, false, false]
@[reducible] def laws_FnKeys.d35 : Array Bool := #[true, true, true, true, true, true, false, true, false, false, true, true, true, true, true, false, false, false, false, false, false, false, false, false, false, false, false, false, false]
@[reducible] def laws_FnKeys.d36 : Array Bool := #[true, true, true, true, true, true, true, true, false, false, true, true, true, true, true, false, false, false, false, false, false, false, false, false, false, false, false, false, false]
@[reducible] def laws_FnKeys.d37 : Array Bool := #[true, true, true, true, true, true, true, true, true, false, true, true, true, true, true, false, false, false, false, false, false, false, false, false, false, false, false, false, false]
@[reducible] def laws_FnKeys.d38 : Array Bool := #[true, true, true, true, true, true, true, true, true, true, true, true, true, true, true, true, true, true, true, true, true, true, true, true, false, true, false, false, false]
end Go.Proofs.Ytkaoiaolbhklnaa.PFnKeys
