/- The law: the functions that it reaches, each with the proof that the machine's call comes to its answer, what they answer, and the law's row; each theorem says its conditions itself. -/
import Derived.Test.YtkaoiaolbhklnaaZFnSets1
import Derived.IntWalk
import Derived.Laws.BitsLemmas
namespace Go.Proofs.Ytkaoiaolbhklnaa.PFnSets
open Go.RowKit Go.Proofs.YtkaoiaolbhklnaaW.PrintWords Go.Proofs.YtkaoiaolbhklnaaW.PrintLast Go.Proofs.YtkaoiaolbhklnaaW.PrintMore
attribute [local go_sem] max2_int min2_int max_two min_two max_three min_three max_four min_four   -- for this text's walks alone
set_option linter.unusedVariables false
set_option linter.unusedSimpArgs false
def impl_copyKeys.f (l0 : List (S27)) : Option ((List (S27))) := (some (([] : List (S27)) : List (S27))).bind fun y249 => (if y249.length + l0.length < 3518437208883 then (some (y249 ++ l0)) else (none))
set_option maxHeartbeats 8000000 in
set_option maxRecDepth 100000 in
theorem impl_copyKeys.calls (A0 : Option Addr) (c0 : Nat) (l0 : List (S27)) (r : List (S27)) (w : World) (hr0 : Kd.C k27 w A0 l0.length l0) (hc0 : l0.length ≤ c0) (h : impl_copyKeys.f l0 = some r) :
  Calls Try.prog 82 #[.slice A0 l0.length c0] w fun e w' => ∃ v0_ : Value, e = .returned (v0_) ∧ Kd.R k27 27 w' w.heap.size (fun _ => True) v0_ r ∧ Below w.heap.size w w' := by
 have HR0 := aA.mk hr0
 have HC0 := aA.mk hc0
 clear hr0 hc0
 have HB := aA.mk (Below.refl w.heap.size w)
 have H : ((some (([] : List (S27)) : List (S27))).bind fun y249 => (if y249.length + l0.length < 3518437208883 then (some (y249 ++ l0)) else (none))) = some r := h
 clear h
 obtain ⟨y249, hy249⟩ : ∃ y_ : List (S27), y_ = (([] : List (S27))) := ⟨_, rfl⟩
 replace H : (if y249.length + l0.length < 3518437208883 then (some (y249 ++ l0)) else (none)) = some r := by first | (rw [hy249]; with_reducible exact H) | (have H2_ := (Option.bind_some _ _).symm.trans H; rw [hy249]; with_reducible exact H2_) | (have H2_ := (Option.bind_some _ _).symm.trans H; with_reducible exact H2_) | with_reducible exact H | (rw [hy249]; exact H) | exact H
 have Ny249 := aA.mk hy249
 clear hy249
 by_cases c2 : y249.length + l0.length < 3518437208883
 ·rw [if_pos c2] at H
  have LMc2 := aA.mk c2
  clear c2
  obtain ⟨y252, hy252⟩ : ∃ y_ : List (S27), y_ = (y249 ++ l0) := ⟨_, rfl⟩
  replace H : (some y252) = some r := by first | (rw [hy252]; with_reducible exact H) | (have H2_ := (Option.bind_some _ _).symm.trans H; rw [hy252]; with_reducible exact H2_) | (have H2_ := (Option.bind_some _ _).symm.trans H; with_reducible exact H2_) | with_reducible exact H | (rw [hy252]; exact H) | exact H
  have Ny252 := aA.mk hy252
  clear hy252
  obtain rfl := Option.some.inj H
  go_enter Try.func82, Try.ntmps82
  go_wp2_with (first | ((with_reducible refine bL (N := 3) rfl ?_); refine Kd.R_lit k27 _ 27 ?hg (N := 3) ?hd (xs := ([] : List (S27))) (inner := []) (ok := fun _ => True) (okp := fun _ => True) ?hr ?hp (fun _ hk => hk) trivial (Below.refl _ _) (Nat.le_refl _) (by simp) ?_; (case hd => rfl); (case hg => rfl); (case hr => first | (go_simp; done) | (go_simp; rfl)); (case hp => exact (Reps.none _ _)); intro v250 w3 ho4 hb hg_ hnew_; clear hg_ hnew_; (first | rw [← Ny249.out] at ho4 | (simp only [Int.reduceToNat] at ho4; rw [← Ny249.out] at ho4)); have n0_ := aA.mk (Kd.R_lower ho4 (aW (by repeat (first | (with_reducible first | exact HB.out | apply aH | apply aE | apply aG) | exact HB.out)))); have n1_ := aA.mk (aX (by repeat (first | (with_reducible first | exact HB.out | apply aH | apply aE | apply aG) | exact HB.out)) hb); clear HB; have HO251 := n0_; have HB := n1_; clear n0_ n1_; clear hb ho4) | ((with_reducible refine gate_builtin (b := .append) (xs := #[.tmp 3, .tmp 4]) rfl ?_); at_builtin; refine Kd.R_append_rows k27 (w0 := w) w.heap.size rfl (.tmp 3) (.tmp 4) 58 27 (.agg #[(.int .i64 0), (.int .i64 0), (.int .i64 0), (.int .i64 0), (.int .i64 0)]) 40 rfl Try.underlying58 info27 rfl (by decide) (by omega) v250 y249 l0 _ _ _ (fun _ => True) (fun _ => False) rfl rfl ?aO ?aR (fun _ _ h => h) (fun _ h => h.elim) ?aF ?aB ?aS ?aL ?_; (case aR => repeat (first | exact (Kd.C_below HR0.out HB.out) | (with_reducible refine Kd.C_alloc ?_ _) | (with_reducible refine Kd.C_drewN ?_ _) | (with_reducible refine Kd.C_drew ?_))); (case aB => exact (by repeat (first | (with_reducible first | exact HB.out | apply aH | apply aE | apply aG) | exact HB.out))); (case aF => exact (fun _ _ => trivial)); (case aO => exact (by (with_reducible repeat (first | apply Kd.bC | apply Kd.bD | apply Kd.aY)); exact HO251.out)); (case aS => exact (aW (by repeat (first | (with_reducible first | exact HB.out | apply aH | apply aE | apply aG) | exact HB.out)))); (case aL => have := LMc2.out; omega); intro v253 w5 ho hb hg hat; rw [← Ny252.out] at ho; have n0_ := aA.mk (hb); have n1_ := aA.mk (ho); clear HB; clear HO251; have HB := n0_; have HO254 := n1_; clear n0_ n1_; clear ho hb hg hat))
  go_ret
  exact ⟨_, by first | rfl | (simp [errW_none, errW_some] <;> rfl) | (simp [*, errW_none, errW_some] <;> rfl), by (with_reducible repeat (first | apply Kd.bC | apply Kd.bD | apply Kd.aY)); exact HO254.out, by repeat (first | (with_reducible first | exact HB.out | apply aH | apply aE | apply aG) | exact HB.out)⟩
 ·rw [if_neg c2] at H
  exact absurd H (by simp)
def impl_MergeSets.l0 : Nat → List (S27) → List (S27) → Int → Int → Option ((List (S27)))
 | 0, _, _, _, _ => none
 | k + 1, x5, x10, x11, x12 => if x12 < x11 then (if 0 ≤ x12 then (if x12 < (x10.length : Int) then ((impl_SetPut.f k x5 ((rd_T27 x10 x12).f0) ((rd_T27 x10 x12).f1) ((rd_T27 x10 x12).f2) ((rd_T27 x10 x12).f3) ((rd_T27 x10 x12).f4)).bind fun t260 => (impl_MergeSets.l0 k t260 x10 x11 (wrap64 (x12 + 1)))) else (none)) else (none)) else (some x5)
def impl_MergeSets.f (k : Nat) (l0 : List (S27)) (l1 : List (S27)) : Option ((List (S27))) := (impl_copyKeys.f l0).bind fun t255 => (impl_MergeSets.l0 k t255 l1 (l1.length : Int) 0)
set_option maxHeartbeats 8000000 in
set_option maxRecDepth 100000 in
theorem impl_MergeSets.calls (k : Nat) (A0 : Option Addr) (c0 : Nat) (l0 : List (S27)) (A1 : Option Addr) (c1 : Nat) (l1 : List (S27)) (r : List (S27)) (w : World) (hr0 : Kd.C k27 w A0 l0.length l0) (hc0 : l0.length ≤ c0) (hr1 : Kd.C k27 w A1 l1.length l1) (hc1 : l1.length ≤ c1) (h : impl_MergeSets.f k l0 l1 = some r) :
  Calls Try.prog 55 #[.slice A0 l0.length c0, .slice A1 l1.length c1] w fun e w' => ∃ v0_ : Value, e = .returned (v0_) ∧ Kd.R k27 27 w' w.heap.size (fun _ => True) v0_ r ∧ Below w.heap.size w w' := by
 have hu27 := Try.underlying27
 have HR0 := aA.mk hr0
 have HC0 := aA.mk hc0
 clear hr0 hc0
 have HR1 := aA.mk hr1
 have HC1 := aA.mk hc1
 clear hr1 hc1
 have HB := aA.mk (Below.refl w.heap.size w)
 have H : ((impl_copyKeys.f l0).bind fun t255 => (impl_MergeSets.l0 k t255 l1 (l1.length : Int) 0)) = some r := h
 clear h
 replace H := lF H
 obtain ⟨t255, A30, H⟩ := H
 replace H : (impl_MergeSets.l0 k t255 l1 (l1.length : Int) 0) = some r := H
 have A3 := aA.mk A30
 clear A30
 have H' := aA.mk H
 clear H
 go_enter Try.func55, Try.ntmps55
 go_wp2_with (first | ((with_reducible refine bK (f := 82) rfl ?_); refine goesL_ (some 9) rfl rfl Try.func82 (by kernel_rfl) rfl #[.slice A0 l0.length c0] rfl (by (try simp only [List.map_toArray, List.map_cons, List.map_nil]); first | done | rfl | (simp only [List.length_drop, List.length_take]; rfl)) ?_; (with_reducible refine (impl_copyKeys.calls _ _ l0 t255 _ ?side1 ?side2 A3.out).mono ?_); (case side1 => repeat (first | exact HR0.out | (with_reducible refine Kd.C_alloc ?_ _) | (with_reducible refine Kd.C_drewN ?_ _) | (with_reducible refine Kd.C_drew ?_))); (case side2 => exact HC0.out); rintro e w4 ⟨v256, rfl, ho0, hb⟩; refine ⟨_, rfl, ?_⟩; have n0_ := aA.mk (Kd.R_lower ho0 (aW (by repeat (first | (with_reducible first | exact HB.out | apply aH | apply aE | apply aG) | exact HB.out)))); have n1_ := aA.mk (aX (by repeat (first | (with_reducible first | exact HB.out | apply aH | apply aE | apply aG) | exact HB.out)) hb); clear HB; have HO257 := n0_; have HB := n1_; clear n0_ n1_; (try clear hb); (try clear ho0)))
 go_loopg [5, 12] k (fun kq v5 v12 w' => ∃ (x5_1 : List (S27)) (x12_1 : Int), v12 = .int .i64 x12_1 ∧ aA (impl_MergeSets.l0 kq x5_1 l1 (l1.length : Int) x12_1 = some r) ∧ aA (kq ≤ k) ∧ aA (Kd.R k27 27 w' w.heap.size (fun _ => True) v5 x5_1) ∧ aA (Below w.heap.size w w'))
 case atStart => exact ⟨(t255), (0), (by first | rfl | (simp; done) | (simp [*]; done)), H', ⟨Nat.le_refl _⟩, ⟨by (with_reducible repeat (first | apply Kd.bC | apply Kd.bD | apply Kd.aY)); exact HO257.out⟩, ⟨by repeat (first | (with_reducible first | exact HB.out | apply aH | apply aE | apply aG) | exact HB.out)⟩⟩
 case round =>
  clear H'
  try clear c1
  try clear p2
  obtain ⟨x5_1, x12_1, rfl, HA, HK1, HO_5, HB⟩ := hrel
  cases gk with
  | zero => exact absurd HA.out (by simp [impl_MergeSets.l0])
  | succ k1 =>
   have H := HA.out
   clear HA
   simp only [impl_MergeSets.l0] at H
   by_cases c5 : x12_1 < (l1.length : Int)
   ·rw [if_pos c5] at H
    have c5b0 : decide (x12_1 < (l1.length : Int)) = true := decide_eq_true c5
    clear c5
    by_cases c6 : 0 ≤ x12_1
    ·rw [if_pos c6] at H
     have c6b0 : decide (0 ≤ x12_1) = true := decide_eq_true c6
     clear c6
     by_cases c7 : x12_1 < (l1.length : Int)
     ·rw [if_pos c7] at H
      have c7b0 : decide (x12_1 < (l1.length : Int)) = true := decide_eq_true c7
      clear c7
      replace H := lF H
      obtain ⟨t260, A80, H⟩ := H
      replace H : (impl_MergeSets.l0 k1 t260 l1 (l1.length : Int) (wrap64 (x12_1 + 1))) = some r := H
      have A8 := aA.mk A80
      clear A80
      have H' := aA.mk H
      clear H
      have p258 : 0 ≤ (x12_1 : Int) := lE (by first | (with_reducible assumption) | assumption)
      have q258 : x12_1 < (l1.length : Int) := lE (by first | (with_reducible assumption) | assumption)
      obtain ⟨ad258, e258, hx258_0, hx258_1, hx258_2, hx258_3, hx258_4⟩ := at_T27 HR1.out x12_1 p258 q258
      cases e258
      replace hx258_0 := (HB.out.cell (lD w _ hx258_0)).trans hx258_0
      replace hx258_1 := (HB.out.cell (lD w _ hx258_1)).trans hx258_1
      replace hx258_2 := (HB.out.cell (lD w _ hx258_2)).trans hx258_2
      replace hx258_3 := (HB.out.cell (lD w _ hx258_3)).trans hx258_3
      replace hx258_4 := (HB.out.cell (lD w _ hx258_4)).trans hx258_4
      replace p258 := eq_true p258
      replace q258 := eq_true q258
      go_wp2_with (first | ((with_reducible refine bL (N := 7) rfl ?_); refine bM ?hg (N := 7) ?hd (cs := #[.int .i64 0, .int .i64 0, .int .i64 0, .int .i64 0, .int .i64 0]) (t := 27) ?hr ?_; (case hd => rfl); (case hg => rfl); (case hr => first | (go_simp; done) | (go_simp; rfl)); intro gb259 hg w9 hbox hb; have n0_ := aA.mk (Kd.bB (Kd.R_elderB (by (with_reducible repeat (first | apply Kd.bC | apply Kd.bD | apply Kd.aY)); exact HO_5.out) gb259 (Nat.le_of_eq hg.symm)) hb); have n1_ := aA.mk (aX (by repeat (first | (with_reducible first | exact HB.out | apply aH | apply aE | apply aG) | exact HB.out)) hb); have n2_ := aA.mk (hbox); have n3_ := aA.mk ((by rw [hg]; exact (aW (by repeat (first | (with_reducible first | exact HB.out | apply aH | apply aE | apply aG) | exact HB.out))) : w.heap.size ≤ gb259)); have n4_ := aA.mk ((by rw [hg]; exact (aW (by repeat (first | (with_reducible first | exact HB.out | apply aH | apply aE | apply aG) | exact HB.out))) : w.heap.size ≤ gb259)); clear HO_5; clear HB; have HO_5 := n0_; have HB := n1_; have BK259 := n2_; have GW259 := n3_; have GE259 := n4_; clear n0_ n1_ n2_ n3_ n4_; clear hb hbox hg; have hcz10_0 : w9.cell? ⟨gb259, 0, none⟩ = some (.int .i64 0) := (aC BK259.out 0).trans rfl; have hcz10_1 : w9.cell? ⟨gb259, 1, none⟩ = some (.int .i64 0) := (aC BK259.out 1).trans rfl; have hcz10_2 : w9.cell? ⟨gb259, 2, none⟩ = some (.int .i64 0) := (aC BK259.out 2).trans rfl; have hcz10_3 : w9.cell? ⟨gb259, 3, none⟩ = some (.int .i64 0) := (aC BK259.out 3).trans rfl; have hcz10_4 : w9.cell? ⟨gb259, 4, none⟩ = some (.int .i64 0) := (aC BK259.out 4).trans rfl; have hfz10_0 := aD BK259.out 0; have hfz10_1 := aD BK259.out 1; have hfz10_2 := aD BK259.out 2; have hfz10_3 := aD BK259.out 3; have hfz10_4 := aD BK259.out 4; obtain ⟨Ao11, co11, eo11⟩ := Kd.R_slice HO_5.out; subst eo11) | ((with_reducible refine bK (f := 53) rfl ?_); refine goesL_ (some 18) rfl rfl Try.func53 (by kernel_rfl) rfl #[.slice Ao11 x5_1.length co11, .agg #[.int .i64 ((rd_T27 l1 x12_1).f0), .int .i64 ((rd_T27 l1 x12_1).f1), .int .i64 ((rd_T27 l1 x12_1).f2), .int .i64 ((rd_T27 l1 x12_1).f3), .int .i64 ((rd_T27 l1 x12_1).f4)]] rfl (by (try simp only [List.map_toArray, List.map_cons, List.map_nil]); first | done | rfl | (simp only [List.length_drop, List.length_take]; rfl)) ?_; (with_reducible refine (impl_SetPut.calls k1 _ _ x5_1 ((rd_T27 l1 x12_1).f0) ((rd_T27 l1 x12_1).f1) ((rd_T27 l1 x12_1).f2) ((rd_T27 l1 x12_1).f3) ((rd_T27 l1 x12_1).f4) t260 _ ?side1 ?side2 A8.out).mono ?_); (case side1 => refine (Kd.R_reads' (e := 27) (base := w.heap.size) (ok := fun k_ => (True ∧ k_ ≠ gb259)) (n := x5_1.length) (c := co11) ?_).2.2; exact (by (with_reducible repeat (first | apply Kd.bC | apply Kd.bD | apply Kd.aY)); exact (Kd.R_mono (Kd.R_far (p := ⟨gb259, 4, none⟩) (Kd.R_far (p := ⟨gb259, 3, none⟩) (Kd.R_far (p := ⟨gb259, 2, none⟩) (Kd.R_far (p := ⟨gb259, 1, none⟩) (Kd.R_far (p := ⟨gb259, 0, none⟩) (Kd.R_mono HO_5.out (fun k_ hk => (⟨hk, hk.2⟩ : _ ∧ k_ ≠ gb259))) (fun _ hk => hk.2) (.int .i64 ((rd_T27 l1 x12_1).f0))) (fun _ hk => hk.2) (.int .i64 ((rd_T27 l1 x12_1).f1))) (fun _ hk => hk.2) (.int .i64 ((rd_T27 l1 x12_1).f2))) (fun _ hk => hk.2) (.int .i64 ((rd_T27 l1 x12_1).f3))) (fun _ hk => hk.2) (.int .i64 ((rd_T27 l1 x12_1).f4))) (fun _ h_ => h_.1)))); (case side2 => exact (Kd.R_reads' HO_5.out).2.1); rintro e w12 ⟨v261, rfl, ho0, hb⟩; refine ⟨_, rfl, ?_⟩; have n0_ := aA.mk (Kd.R_elder' (by (with_reducible repeat (first | apply Kd.bC | apply Kd.bD | apply Kd.aY)); exact (Kd.R_mono (Kd.R_far (p := ⟨gb259, 4, none⟩) (Kd.R_far (p := ⟨gb259, 3, none⟩) (Kd.R_far (p := ⟨gb259, 2, none⟩) (Kd.R_far (p := ⟨gb259, 1, none⟩) (Kd.R_far (p := ⟨gb259, 0, none⟩) (Kd.R_mono HO_5.out (fun k_ hk => (⟨hk, hk.2⟩ : _ ∧ k_ ≠ gb259))) (fun _ hk => hk.2) (.int .i64 ((rd_T27 l1 x12_1).f0))) (fun _ hk => hk.2) (.int .i64 ((rd_T27 l1 x12_1).f1))) (fun _ hk => hk.2) (.int .i64 ((rd_T27 l1 x12_1).f2))) (fun _ hk => hk.2) (.int .i64 ((rd_T27 l1 x12_1).f3))) (fun _ hk => hk.2) (.int .i64 ((rd_T27 l1 x12_1).f4))) (fun _ h_ => h_.1))) (Kd.R_base ho0) hb); have n1_ := aA.mk (Kd.R_lower (Kd.R_newB (Kd.R_new' ho0 (Kd.R_lt (by (with_reducible repeat (first | apply Kd.bC | apply Kd.bD | apply Kd.aY)); exact (Kd.R_mono (Kd.R_far (p := ⟨gb259, 4, none⟩) (Kd.R_far (p := ⟨gb259, 3, none⟩) (Kd.R_far (p := ⟨gb259, 2, none⟩) (Kd.R_far (p := ⟨gb259, 1, none⟩) (Kd.R_far (p := ⟨gb259, 0, none⟩) (Kd.R_mono HO_5.out (fun k_ hk => (⟨hk, hk.2⟩ : _ ∧ k_ ≠ gb259))) (fun _ hk => hk.2) (.int .i64 ((rd_T27 l1 x12_1).f0))) (fun _ hk => hk.2) (.int .i64 ((rd_T27 l1 x12_1).f1))) (fun _ hk => hk.2) (.int .i64 ((rd_T27 l1 x12_1).f2))) (fun _ hk => hk.2) (.int .i64 ((rd_T27 l1 x12_1).f3))) (fun _ hk => hk.2) (.int .i64 ((rd_T27 l1 x12_1).f4))) (fun _ h_ => h_.1))))) (g := gb259) (o := .cells #[.int .i64 ((rd_T27 l1 x12_1).f0), .int .i64 ((rd_T27 l1 x12_1).f1), .int .i64 ((rd_T27 l1 x12_1).f2), .int .i64 ((rd_T27 l1 x12_1).f3), .int .i64 ((rd_T27 l1 x12_1).f4)] 27 (0, 0)) (by (with_reducible repeat (first | refine aJ ?_ _ | refine aM ?_ | refine aK ?_ _)); refine aZ (cs := #[.int .i64 ((rd_T27 l1 x12_1).f0), .int .i64 ((rd_T27 l1 x12_1).f1), .int .i64 ((rd_T27 l1 x12_1).f2), .int .i64 ((rd_T27 l1 x12_1).f3), .int .i64 0]) ?_ 4 _ rfl; (with_reducible repeat (first | refine aJ ?_ _ | refine aM ?_ | refine aK ?_ _)); refine aZ (cs := #[.int .i64 ((rd_T27 l1 x12_1).f0), .int .i64 ((rd_T27 l1 x12_1).f1), .int .i64 ((rd_T27 l1 x12_1).f2), .int .i64 0, .int .i64 0]) ?_ 3 _ rfl; (with_reducible repeat (first | refine aJ ?_ _ | refine aM ?_ | refine aK ?_ _)); refine aZ (cs := #[.int .i64 ((rd_T27 l1 x12_1).f0), .int .i64 ((rd_T27 l1 x12_1).f1), .int .i64 0, .int .i64 0, .int .i64 0]) ?_ 2 _ rfl; (with_reducible repeat (first | refine aJ ?_ _ | refine aM ?_ | refine aK ?_ _)); refine aZ (cs := #[.int .i64 ((rd_T27 l1 x12_1).f0), .int .i64 0, .int .i64 0, .int .i64 0, .int .i64 0]) ?_ 1 _ rfl; (with_reducible repeat (first | refine aJ ?_ _ | refine aM ?_ | refine aK ?_ _)); refine aZ (cs := #[.int .i64 0, .int .i64 0, .int .i64 0, .int .i64 0, .int .i64 0]) ?_ 0 _ rfl; (with_reducible repeat (first | refine aJ ?_ _ | refine aM ?_ | refine aK ?_ _)); exact BK259.out)) (aW (by repeat (first | (with_reducible first | exact HB.out | apply aH | apply aE | apply aG | refine aN ?_ GE259.out) | exact HB.out)))); have n2_ := aA.mk (bE (g := gb259) (o := .cells #[.int .i64 ((rd_T27 l1 x12_1).f0), .int .i64 ((rd_T27 l1 x12_1).f1), .int .i64 ((rd_T27 l1 x12_1).f2), .int .i64 ((rd_T27 l1 x12_1).f3), .int .i64 ((rd_T27 l1 x12_1).f4)] 27 (0, 0)) (by (with_reducible repeat (first | refine aJ ?_ _ | refine aM ?_ | refine aK ?_ _)); refine aZ (cs := #[.int .i64 ((rd_T27 l1 x12_1).f0), .int .i64 ((rd_T27 l1 x12_1).f1), .int .i64 ((rd_T27 l1 x12_1).f2), .int .i64 ((rd_T27 l1 x12_1).f3), .int .i64 0]) ?_ 4 _ rfl; (with_reducible repeat (first | refine aJ ?_ _ | refine aM ?_ | refine aK ?_ _)); refine aZ (cs := #[.int .i64 ((rd_T27 l1 x12_1).f0), .int .i64 ((rd_T27 l1 x12_1).f1), .int .i64 ((rd_T27 l1 x12_1).f2), .int .i64 0, .int .i64 0]) ?_ 3 _ rfl; (with_reducible repeat (first | refine aJ ?_ _ | refine aM ?_ | refine aK ?_ _)); refine aZ (cs := #[.int .i64 ((rd_T27 l1 x12_1).f0), .int .i64 ((rd_T27 l1 x12_1).f1), .int .i64 0, .int .i64 0, .int .i64 0]) ?_ 2 _ rfl; (with_reducible repeat (first | refine aJ ?_ _ | refine aM ?_ | refine aK ?_ _)); refine aZ (cs := #[.int .i64 ((rd_T27 l1 x12_1).f0), .int .i64 0, .int .i64 0, .int .i64 0, .int .i64 0]) ?_ 1 _ rfl; (with_reducible repeat (first | refine aJ ?_ _ | refine aM ?_ | refine aK ?_ _)); refine aZ (cs := #[.int .i64 0, .int .i64 0, .int .i64 0, .int .i64 0, .int .i64 0]) ?_ 0 _ rfl; (with_reducible repeat (first | refine aJ ?_ _ | refine aM ?_ | refine aK ?_ _)); exact BK259.out) hb); have n3_ := aA.mk (aX (by repeat (first | (with_reducible first | exact HB.out | apply aH | apply aE | apply aG | refine aN ?_ GE259.out) | exact HB.out)) hb); clear HO_5; clear BK259; clear HB; have HO_5 := n0_; have HO262 := n1_; have BK259 := n2_; have HB := n3_; clear n0_ n1_ n2_ n3_; (try clear hb); (try clear hk); (try clear ho0)))
      go_roundg k1
      case measure => have := HK1.out; omega
      case rel => exact ⟨(t260), (wrap64 (x12_1 + 1)), (by first | rfl | (simp; done) | (simp [*]; done)), H', ⟨by have := HK1.out; omega⟩, ⟨by (with_reducible repeat (first | apply Kd.bC | apply Kd.bD | apply Kd.aY)); exact Kd.R_mono HO262.out (fun _ hk => trivial)⟩, ⟨by repeat (first | (with_reducible first | exact HB.out | apply aH | apply aE | apply aG | refine aN ?_ GE259.out) | exact HB.out)⟩⟩
     ·rw [if_neg c7] at H
      exact absurd H (by simp)
    ·rw [if_neg c6] at H
     exact absurd H (by simp)
   ·rw [if_neg c5] at H
    have c5b0 : decide (x12_1 < (l1.length : Int)) = false := decide_eq_false c5
    clear c5
    obtain rfl := Option.some.inj H
    go_wp2
    go_ret
    exact ⟨_, by first | rfl | (simp [errW_none, errW_some] <;> rfl) | (simp [*, errW_none, errW_some] <;> rfl), by (with_reducible repeat (first | apply Kd.bC | apply Kd.bD | apply Kd.aY)); exact HO_5.out, by repeat (first | (with_reducible first | exact HB.out | apply aH | apply aE | apply aG) | exact HB.out)⟩
-- NOT PRINTED: function 11 (laws_FnSets)
end Go.Proofs.Ytkaoiaolbhklnaa.PFnSets

namespace Go.Proofs.Ytkaoiaolbhklnaa.Core
open Go.RowKit Go.Proofs.YtkaoiaolbhklnaaW.PrintWords
theorem w64 {x : Int} (h0 : -9223372036854775808 ≤ x) (h1 : x ≤ 9223372036854775807) : wrap64 x = x := by unfold wrap64; omega
theorem w64s (n : Nat) (h : n ≤ 4611686018427387904) : wrap64 ((n : Int) + 1) = ((n + 1 : Nat) : Int) := by unfold wrap64; omega
theorem evGet {α : Type} {g : Nat → Option α} {r : α} (h : Ev g r) : ∃ k, g k = some r := by
 obtain ⟨K, h⟩ := h
 exact ⟨K, h K (Nat.le_refl _)⟩
theorem evSucc {α : Type} {g : Nat → Option α} {r : α} (h : ∃ K d, ∀ k, K ≤ k → g (k + d) = some r) : Ev g r := by
 obtain ⟨K, d, h⟩ := h
 refine ⟨K + d, fun k hk => ?_⟩
 obtain ⟨m, rfl⟩ : ∃ m, k = m + d := ⟨k - d, by omega⟩
 exact h m (by omega)
theorem evRange {σ ρ : Type} (n : Nat) (l : Nat → σ → Int → Option ρ) (Inv : Nat → σ → Prop) (M : Nat → σ → ρ)
  (step : ∀ i s, i < n → Inv i s → (∃ s', Inv (i + 1) s' ∧ M (i + 1) s' = M i s ∧ ∃ K d, ∀ k, K ≤ k → l (k + d) s (i : Int) = l k s' ((i + 1 : Nat) : Int)) ∨ (∃ K d, ∀ k, K ≤ k → l (k + d) s (i : Int) = some (M i s)))
  (done : ∀ s, Inv n s → ∃ K d, ∀ k, K ≤ k → l (k + d) s (n : Int) = some (M n s)) :
  ∀ i s, i ≤ n → Inv i s → Ev (fun k => l k s (i : Int)) (M i s) := by
 have key : ∀ d i s, n - i = d → i ≤ n → Inv i s → Ev (fun k => l k s (i : Int)) (M i s) := by
  intro d
  induction d with
  | zero =>
   intro i s hd hi hinv
   obtain rfl : i = n := by omega
   exact evSucc (done s hinv)
  | succ d ih =>
   intro i s hd hi hinv
   rcases step i s (by omega) hinv with ⟨s', hinv', hM, K, e, h⟩ | h
   ·obtain ⟨K', h'⟩ := ih (i + 1) s' (by omega) (by omega) hinv'
    refine evSucc ⟨K + K', e, fun k hk' => ?_⟩
    show l (k + e) s i = _
    rw [h k (by omega), ← hM]
    exact h' k (by omega)
   ·exact evSucc h
 exact fun i s hi => key _ i s rfl hi
theorem evRange0 {σ ρ : Type} (n : Nat) (l : Nat → σ → Int → Option ρ) (Inv : Nat → σ → Prop) (M : Nat → σ → ρ) (s : σ) (h0 : Inv 0 s)
  (step : ∀ i s, i < n → Inv i s → (∃ s', Inv (i + 1) s' ∧ M (i + 1) s' = M i s ∧ ∃ K d, ∀ k, K ≤ k → l (k + d) s (i : Int) = l k s' ((i + 1 : Nat) : Int)) ∨ (∃ K d, ∀ k, K ≤ k → l (k + d) s (i : Int) = some (M i s)))
  (done : ∀ s, Inv n s → ∃ K d, ∀ k, K ≤ k → l (k + d) s (n : Int) = some (M n s)) :
  Ev (fun k => l k s 0) (M 0 s) := evRange n l Inv M step done 0 s (Nat.zero_le _) h0
theorem evRangeEx {σ ρ : Type} (n : Nat) (l : Nat → σ → Int → Option ρ) (Inv : Nat → σ → Prop) (Post : ρ → Prop)
  (step : ∀ i s, i < n → Inv i s → (∃ s', Inv (i + 1) s' ∧ ∃ K d, ∀ k, K ≤ k → l (k + d) s (i : Int) = l k s' ((i + 1 : Nat) : Int)) ∨ (∃ r, Post r ∧ ∃ K d, ∀ k, K ≤ k → l (k + d) s (i : Int) = some r))
  (done : ∀ s, Inv n s → ∃ r, Post r ∧ ∃ K d, ∀ k, K ≤ k → l (k + d) s (n : Int) = some r) :
  ∀ i s, i ≤ n → Inv i s → ∃ r, Post r ∧ Ev (fun k => l k s (i : Int)) r := by
 have key : ∀ d i s, n - i = d → i ≤ n → Inv i s → ∃ r, Post r ∧ Ev (fun k => l k s (i : Int)) r := by
  intro d
  induction d with
  | zero =>
   intro i s hd hi hinv
   obtain rfl : i = n := by omega
   obtain ⟨r, hp, h⟩ := done s hinv
   exact ⟨r, hp, evSucc h⟩
  | succ d ih =>
   intro i s hd hi hinv
   rcases step i s (by omega) hinv with ⟨s', hinv', K, e, h⟩ | ⟨r, hp, h⟩
   ·obtain ⟨r, hp, K', h'⟩ := ih (i + 1) s' (by omega) (by omega) hinv'
    refine ⟨r, hp, evSucc ⟨K + K', e, fun k hk' => ?_⟩⟩
    show l (k + e) s i = _
    rw [h k (by omega)]
    exact h' k (by omega)
   ·exact ⟨r, hp, evSucc h⟩
 exact fun i s hi => key _ i s rfl hi
def allFrom (p : Nat → Bool) (n i : Nat) : Bool := (List.range' i (n - i)).all p
theorem allFrom_lt {p : Nat → Bool} {n i : Nat} (h : i < n) : allFrom p n i = (p i && allFrom p n (i + 1)) := by
 unfold allFrom
 rw [show n - i = (n - (i + 1)) + 1 by omega, List.range'_succ, List.all_cons]
theorem allFrom_end (p : Nat → Bool) (n : Nat) : allFrom p n n = true := by simp [allFrom]
theorem allFrom_iff {p : Nat → Bool} {n i : Nat} : allFrom p n i = true ↔ ∀ j, i ≤ j → j < n → p j = true := by
 simp only [allFrom, List.all_eq_true, List.mem_range'_1]
 constructor
 ·intro h j h1 h2; exact h j ⟨h1, by omega⟩
 ·intro h j hj; exact h j hj.1 (by omega)
theorem evAll (n : Nat) (l : Nat → Int → Option Bool) (p : Nat → Bool) (fin : Bool)
  (step : ∀ i, i < n → ∃ K d, ∀ k, K ≤ k → l (k + d) (i : Int) = if p i = true then l k ((i + 1 : Nat) : Int) else some false)
  (done : ∃ K d, ∀ k, K ≤ k → l (k + d) (n : Int) = some fin) (i : Nat) (hi : i ≤ n) : Ev (fun k => l k (i : Int)) (allFrom p n i && fin) := by
 refine evRange (σ := Unit) n (fun k _ i => l k i) (fun _ _ => True) (fun i _ => allFrom p n i && fin) ?_ ?_ i () hi trivial
 ·intro i _ hi _
  obtain ⟨K, d, h⟩ := step i hi
  cases hp : p i with
  | true => exact .inl ⟨(), trivial, by simp [allFrom_lt hi, hp], K, d, fun k hk => by simp only [h k hk, hp, if_true]⟩
  | false => exact .inr ⟨K, d, fun k hk => by simp only [h k hk, hp, allFrom_lt hi, Bool.false_and]; rfl⟩
 ·intro _ _
  obtain ⟨K, d, h⟩ := done
  exact ⟨K, d, fun k hk => by rw [h k hk, allFrom_end, Bool.true_and]⟩
def fill {β : Type} (c : Nat → β) (l : List β) (i : Nat) : List β := (List.range i).map c ++ l.drop i
theorem drop_getD {α : Type} (l : List α) (i : Nat) (z : α) (h : i < l.length) : l.drop i = l.getD i z :: l.drop (i + 1) := by
 rw [List.drop_eq_getElem_cons h, List.getD_eq_getElem?_getD, List.getElem?_eq_getElem h]; rfl
theorem getD_mem {α : Type} (l : List α) (i : Nat) (z : α) (h : i < l.length) : l.getD i z ∈ l := by
 rw [List.getD_eq_getElem?_getD, List.getElem?_eq_getElem h]; exact List.getElem_mem h
theorem and255 (x : Int) : Go.bits .and .i64 x 255 = x % 256 := by
 have e : (BitVec.ofInt IntKind.i64.bits x &&& BitVec.ofInt IntKind.i64.bits 255).toNat = (x % 256).toNat := by
  rw [BitVec.toNat_and, BitVec.toNat_ofInt, BitVec.toNat_ofInt]
  have h2 : ((255 : Int) % ((2 ^ IntKind.i64.bits : Nat) : Int)).toNat = 2 ^ 8 - 1 := by decide
  rw [h2, Nat.and_two_pow_sub_one_eq_mod]
  have h3 : ((2 ^ IntKind.i64.bits : Nat) : Int) = 18446744073709551616 := by decide
  rw [h3]
  omega
 unfold Go.bits
 simp only [e]
 rw [IntKind.wrap_i64]
 omega
theorem wf_u8 {x : Int} (h : (Lit.int .u8 x).wf = true) : 0 ≤ x ∧ x ≤ 255 := by
 simp only [Lit.wf, IntKind.min, IntKind.max, Bool.and_eq_true] at h
 simpa [IntKind.bits, IntKind.signed] using h
end Go.Proofs.Ytkaoiaolbhklnaa.Core

namespace Go.Proofs.Ytkaoiaolbhklnaa.Core
open Go.RowKit Go.Proofs.YtkaoiaolbhklnaaW.PrintWords
section
variable {α : Type} (mk : α → Int → α) (cnt : α → Int)
def cntL : List α → Int
 | [] => 0
 | x :: xs => cnt x + cntL xs
def mkL : List α → Int → List α
 | [], _ => []
 | x :: xs, a => mk x a :: mkL xs (a + cnt x)
/-- The first i are marked. -/
def midL (l : List α) (a : Int) (i : Nat) : List α := (mkL mk cnt l a).take i ++ l.drop i
end
/-- The blocks from lo on, below hi. -/
def In (lo hi k : Nat) : Prop := lo ≤ k ∧ k < hi
theorem In.off {a b c d : Nat} (h : b ≤ c) : ∀ k, In a b k → ¬ In c d k := fun _ h1 h2 => by unfold In at *; omega
namespace Mem
open Kd
section
variable {α : Type} {d : Kd α} {e n m c base lo hi top : Nat} {w w1 W : World} {A : Option Addr} {v : Value} {xs : List α} {ok P : Nat → Prop}
theorem times (hs : top ≤ W.heap.size) (hb : Below W.heap.size W w1) : ∃ lo hi, lo = W.heap.size ∧ hi = w1.heap.size ∧ top ≤ lo ∧ lo ≤ hi := ⟨_, _, rfl, rfl, hs, hb.size⟩
theorem new_R (h : d.R e w1 lo ok v xs) (eh : hi = w1.heap.size) : ∃ A c, v = .slice A xs.length c ∧ xs.length ≤ c ∧ F d w1 (In lo hi) A xs.length xs ∧ d.R e w1 lo (In lo hi) (.slice A xs.length c) xs := by
 subst eh
 obtain ⟨A, c, rfl, hl, _⟩ := R_reads h
 have h2 : d.R e w1 lo (In lo w1.heap.size) (.slice A xs.length c) xs := R_mono (R_bound h) (fun k hk => ⟨hk.2.1, hk.2.2.1⟩)
 exact ⟨A, c, rfl, hl, R_F h2, h2⟩
end
theorem lent {α : Type} {d : Kd α} {e e2 g n cap base : Nat} {P : Nat → Prop} {W : World} {xs : List (List α)} (h : Kd.S (Kd.slice e d) e2 W base P (.slice (some ⟨g, 0, none⟩) n cap) xs) (i : Int) (h0 : 0 ≤ i) (h1 : i < n) (hnew : ∀ k, W.heap.size ≤ k → P k) :
  ∃ (oki : Nat → Prop) (v : Value), (∀ k, oki k → P k) ∧ d.R e W base oki v (xs.getD i.toNat []) ∧ W.cell? ⟨g, i.toNat, none⟩ = some v ∧
   ∀ (w1 : World) (x' : List α), Kept W w1 oki → d.R e w1 base (fun k => oki k ∨ W.heap.size ≤ k) v x' → Kd.S (Kd.slice e d) e2 w1 base P (.slice (some ⟨g, 0, none⟩) n cap) (xs.set i.toNat x') := by
 obtain ⟨oki, c, hcl, hM, hcc, hoki, hH⟩ := S_lend h [] i h0 h1
 obtain ⟨v, rfl, hR⟩ := hM
 refine ⟨oki, v, fun k hk => (hoki k hk).1, hR, ?_, fun w1 x' hk hR' => ?_⟩
 ·have := hcc 0 v rfl
  simpa [show (Kd.slice e d).sz = 1 from rfl] using this
 ·refine H_back (H_step (H_widen hH) (fun k ho hn hlt => hk.2 k hlt (fun h2 => hn (.inl h2)))) (okp := fun k => oki k ∨ W.heap.size ≤ k) ⟨v, rfl, hR'⟩ (fun k hk' => ?_)
  rcases hk' with hk' | hk'
  ·exact .inl hk'
  ·exact .inr ⟨hnew k hk', hk'⟩
end Mem
end Go.Proofs.Ytkaoiaolbhklnaa.Core

namespace Go.Proofs.Ytkaoiaolbhklnaa.Pure
open Go.RowKit Go.Proofs.Ytkaoiaolbhklnaa.PFnSets Go.Proofs.Ytkaoiaolbhklnaa.Core Go.Proofs.YtkaoiaolbhklnaaW.PrintWords Go.Proofs.YtkaoiaolbhklnaaW.PrintLast Go.Proofs.YtkaoiaolbhklnaaW.PrintMore
set_option linter.unusedSimpArgs false
set_option linter.unusedVariables false
def less (a b : S27) : Bool := decide (a.f0 < b.f0 ∨ a.f0 = b.f0 ∧ a.f1 < b.f1)
def same (a b : S27) : Bool := decide (a.f0 = b.f0 ∧ a.f1 = b.f1)
def putGo (k : S27) : List S27 → Bool → List S27
 | [], p => if p then [] else [k]
 | x :: xs, p => (if p || less x k then [] else [k]) ++ ((if same x k then [] else [x]) ++ putGo k xs (p || !less x k))
def setPut (l : List S27) (k : S27) : List S27 := putGo k l false
def mergeSets (a b : List S27) : List S27 := b.foldl setPut a
def dropNone (l : List S27) : List S27 := l.filter fun x => x.f2 != 0
theorem putGo_length (k : S27) : ∀ (l : List S27) (p : Bool), (putGo k l p).length ≤ l.length + 1
 | [], p => by cases p <;> simp [putGo]
 | x :: xs, p => by
  have ih := putGo_length k xs
  have ih1 : p = true → (putGo k xs true).length ≤ xs.length := fun _ => by
   clear ih
   induction xs with
   | nil => simp [putGo]
   | cons y ys ih => simp only [putGo, Bool.true_or, if_true, List.nil_append, List.length_append, List.length_cons]; split <;> simp <;> omega
  simp only [putGo, List.length_append, List.length_cons]
  cases p with
  | true => simp only [Bool.true_or, if_true, List.length_nil]; have := ih1 rfl; split <;> simp <;> omega
  | false =>
   cases hx : less x k with
   | true => simp only [Bool.false_or, if_true, Bool.not_true, List.length_nil]; have := ih false; split <;> simp <;> omega
   | false =>
    simp only [Bool.false_or, Bool.not_false, if_false, Bool.false_eq_true, List.length_cons, List.length_nil]
    have h2 : (putGo k xs true).length ≤ xs.length := by
     clear ih ih1
     induction xs with
     | nil => simp [putGo]
     | cons y ys ih => simp only [putGo, Bool.true_or, if_true, List.nil_append, List.length_append, List.length_cons]; split <;> simp <;> omega
    split <;> simp <;> omega
theorem setPut_length (l : List S27) (k : S27) : (setPut l k).length ≤ l.length + 1 := putGo_length k l false
theorem mergeSets_length (a b : List S27) : (mergeSets a b).length ≤ a.length + b.length := by
 unfold mergeSets
 induction b generalizing a with
 | nil => simp
 | cons x xs ih => simp only [List.foldl_cons, List.length_cons]; have := ih (setPut a x); have := setPut_length a x; omega
theorem impl_LessKey_f (a b : S27) : impl_LessKey.f a.f0 a.f1 a.f2 a.f3 a.f4 b.f0 b.f1 b.f2 b.f3 b.f4 = some (less a b) := by
 unfold impl_LessKey.f less
 split
 ·simp [*]
 ·split
  ·simp [*]
  ·simp [*]
def at6 : Option S27 → Int × Int × Int × Int × Int × Bool
 | some x => (x.f0, x.f1, x.f2, x.f3, x.f4, true)
 | none => (0, 0, 0, 0, 0, false)
def setAt (l : List S27) (a b : Int) : Option S27 := l.find? fun x => decide (x.f0 = a) && decide (x.f1 = b)
theorem impl_SetAt_ev (l : List S27) (a b : Int) (h : l.length ≤ 4194304) : Ev (fun k => impl_SetAt.f k l a b) (at6 (setAt l a b)) := by
 obtain ⟨K, hk⟩ := evRange0 (σ := Unit) l.length (fun k _ i => impl_SetAt.l0 k a b l (l.length : Int) i) (fun _ _ => True) (fun i _ => at6 (setAt (l.drop i) a b)) () trivial
  (by
   intro i _ hi _
   have hd := drop_getD l i z27 hi
   have hr : rd_T27 l (i : Int) = l.getD i z27 := by simp [rd_T27]
   generalize l.getD i z27 = y at *
   by_cases h1 : y.f0 = a ∧ y.f1 = b
   ·refine .inr ⟨0, 1, fun k _ => ?_⟩
    simp only [impl_SetAt.l0, hr]
    rw [if_pos (by omega), if_pos (by omega), if_pos (by omega), if_pos h1.1, if_pos h1.2, hd, setAt, List.find?_cons_of_pos (by simp [h1])]
    rfl
   ·refine .inl ⟨(), trivial, ?_, 0, 1, fun k _ => ?_⟩
    ·rw [hd, setAt, setAt, List.find?_cons_of_neg (by simpa using h1)]
    ·simp only [impl_SetAt.l0, hr]
     rw [if_pos (by omega), if_pos (by omega), if_pos (by omega), w64s i (by omega)]
     by_cases h2 : y.f0 = a
     ·rw [if_pos h2, if_neg (fun h3 => h1 ⟨h2, h3⟩)]
     ·rw [if_neg h2])
  (by
   intro _ _
   refine ⟨0, 1, fun k _ => ?_⟩
   simp only [impl_SetAt.l0]
   rw [if_neg (by omega)]
   simp [setAt, at6])
 exact ⟨K, fun k hk' => hk k hk'⟩
theorem impl_within_f (a b c : Int) : impl_within.f a b c = some (decide (b ≤ a ∧ a ≤ c)) := by
 unfold impl_within.f
 by_cases h : a ≥ b
 ·rw [if_pos h]; congr 1; rw [Bool.eq_iff_iff]; simp; omega
 ·rw [if_neg h]; congr 1; rw [Bool.eq_iff_iff]; simp; omega
def keyOk5 (a b c d e : Int) : Bool := decide (0 ≤ a ∧ a ≤ 15) && (decide (1 ≤ b ∧ b ≤ 60) && (decide (0 ≤ c ∧ c ≤ 2) && if c = 1 then decide (0 ≤ d ∧ d ≤ 23) && decide (0 ≤ e ∧ e ≤ 999) else decide (d = 0) && decide (e = 0)))
theorem impl_KeyOk_ev (a b c d e : Int) : Ev (fun k => impl_KeyOk.f k a b c d e) (keyOk5 a b c d e) := by
 refine evSucc ⟨0, 1, fun k _ => ?_⟩
 simp only [impl_KeyOk.f, impl_within_f, Option.bind_some, impl_KeyOk.j0, keyOk5]
 cases h0 : decide (0 ≤ a ∧ a ≤ 15) <;> cases h1 : decide (1 ≤ b ∧ b ≤ 60) <;> cases h2 : decide (0 ≤ c ∧ c ≤ 2) <;> simp only [Bool.false_and, Bool.true_and, Bool.false_eq_true, if_true, if_false, Bool.not_true, Bool.not_false]
 by_cases h3 : c = 1
 ·rw [if_pos h3, if_pos h3]
  cases h4 : decide (0 ≤ d ∧ d ≤ 23) <;> simp only [Bool.false_and, Bool.true_and, Bool.false_eq_true, if_true, if_false]
 ·rw [if_neg h3, if_neg h3]
  by_cases h4 : d = 0
  ·rw [if_pos h4]; simp [h4]; rw [Bool.eq_iff_iff]; simp
  ·rw [if_neg h4]; simp [h4]
def keyOkB (x : S27) : Bool := keyOk5 x.f0 x.f1 x.f2 x.f3 x.f4
def risesAt (l : List S27) (j : Nat) : Bool := less (l.getD (j - 1) z27) (l.getD j z27)
def setOkB (l : List S27) : Bool := allFrom (fun j => keyOkB (l.getD j z27) && (j == 0 || risesAt l j)) l.length 0 && decide (l.length ≤ 60)
theorem impl_SetOk_ev (l : List S27) (h : l.length ≤ 4194304) : Ev (fun k => impl_SetOk.f k l) (setOkB l) := by
 have := evAll l.length (fun k i => impl_SetOk.l0 k l l (l.length : Int) i) (fun j => keyOkB (l.getD j z27) && (j == 0 || risesAt l j)) (decide (l.length ≤ 60))
  (by
   intro i hi
   have hr : rd_T27 l (i : Int) = l.getD i z27 := by simp [rd_T27]
   obtain ⟨K, e⟩ := impl_KeyOk_ev (l.getD i z27).f0 (l.getD i z27).f1 (l.getD i z27).f2 (l.getD i z27).f3 (l.getD i z27).f4
   refine ⟨K, 1, fun k hk => ?_⟩
   have e1 : impl_KeyOk.f k (l.getD i z27).f0 (l.getD i z27).f1 (l.getD i z27).f2 (l.getD i z27).f3 (l.getD i z27).f4 = some (keyOkB (l.getD i z27)) := e k hk
   have hra : risesAt l i = less (l.getD (i - 1) z27) (l.getD i z27) := rfl
   simp only [impl_SetOk.l0, hr, e1, Option.bind_some]
   rw [if_pos (by omega), if_pos (by omega), if_pos (by omega)]
   have hw := w64s i (by omega)
   generalize l.getD i z27 = y at *
   cases hq : keyOkB y with
   | false => simp only [Bool.false_and, Bool.false_eq_true, if_false]
   | true =>
    simp only [Bool.true_and, if_true]
    by_cases hz : i = 0
    ·subst hz; rw [if_neg (by omega), hw]; rfl
    ·have hw1 : wrap64 ((i : Int) - 1) = ((i - 1 : Nat) : Int) := by rw [w64 (by omega) (by omega)]; omega
     have hr1 : rd_T27 l ((i - 1 : Nat) : Int) = l.getD (i - 1) z27 := by simp [rd_T27]
     rw [if_pos (by omega), hw1, if_pos (by omega), if_pos (by omega), hr1, impl_LessKey_f, hw, hra]
     simp only [Option.bind_some, beq_iff_eq, hz, Bool.false_or, beq_eq_false_iff_ne.mpr hz])
  (by
   refine ⟨0, 1, fun k _ => ?_⟩
   simp only [impl_SetOk.l0]
   rw [if_neg (by omega)]
   congr 1; rw [Bool.eq_iff_iff]; simp; omega) 0 (Nat.zero_le _)
 obtain ⟨K, hk⟩ := this
 exact ⟨K, fun k hk' => hk k hk'⟩
theorem impl_Drop_ev (l : List S27) (h : l.length ≤ 4194304) : Ev (fun k => impl_Drop.f k l) (dropNone l) := by
 obtain ⟨K, hk⟩ := evRange0 (σ := List S27) l.length (fun k s i => impl_Drop.l0 k s l (l.length : Int) i) (fun i s => s.length ≤ i) (fun i s => s ++ dropNone (l.drop i)) [] (by simp)
  (by
   intro i s hi hs
   have hd := drop_getD l i z27 hi
   have hr : rd_T27 l (i : Int) = l.getD i z27 := by simp [rd_T27]
   generalize l.getD i z27 = y at *
   by_cases h1 : y.f2 = 0
   ·refine .inl ⟨s, by omega, ?_, 0, 1, fun k _ => ?_⟩
    ·rw [hd, dropNone, dropNone, List.filter_cons_of_neg (by simp [h1])]
    ·simp only [impl_Drop.l0, hr]
     rw [if_pos (by omega), if_pos (by omega), if_pos (by omega), if_pos h1, w64s i (by omega)]
   ·refine .inl ⟨s ++ [y], by simp; omega, ?_, 0, 1, fun k _ => ?_⟩
    ·rw [hd, dropNone, dropNone, List.filter_cons_of_pos (by simp [h1]), List.append_assoc]; rfl
    ·simp only [impl_Drop.l0, hr]
     rw [if_pos (by omega), if_pos (by omega), if_pos (by omega), if_neg h1, if_pos (by omega), w64s i (by omega)])
  (by
   intro s _
   refine ⟨0, 1, fun k _ => ?_⟩
   simp only [impl_Drop.l0]
   rw [if_neg (by omega)]
   simp [dropNone])
 exact ⟨K, fun k hk' => hk k hk'⟩
def bytesIn (l : List Int) : Prop := ∀ x ∈ l, 0 ≤ x ∧ x ≤ 255
def getW (l : List Int) (a : Int) : Int × Int × Bool := if 0 ≤ a ∧ a ≤ (l.length : Int) - 2 then (l.getD a.toNat 0 * 256 + l.getD (a.toNat + 1) 0, a + 2, true) else (0, 0, false)
def curOk (b : List Int) (i : Int) : Prop := bytesIn b ∧ b.length ≤ 1048576 ∧ 0 ≤ i ∧ i ≤ (b.length : Int)
theorem l1New_ex (b : List Int) (hb : bytesIn b) (hl : b.length ≤ 1048576) : ∃ h, Ev (fun k => spec_l1New.f k b) (b, 0, h) := by
 obtain ⟨r, ⟨h, rfl⟩, K, hk⟩ := evRangeEx (σ := Int) b.length (fun k s i => spec_l1New.l0 k b s i) (fun _ _ => True) (fun r => ∃ h, r = (b, 0, h))
  (by
   intro i s hi _
   by_cases c : i < 4000
   ·refine .inl ⟨Go.bits .and .i64 (wrap64 ((wrap64 ((wrap64 (s * 137)) + (wrap64 (rd b (i : Int))))) + 11)) 1073741823, trivial, 0, 1, fun k _ => ?_⟩
    simp only [spec_l1New.l0]
    rw [if_pos (by omega), if_pos (by omega), if_pos (by omega), w64s i (by omega)]
   ·refine .inr ⟨(b, 0, s), ⟨s, rfl⟩, 0, 1, fun k _ => ?_⟩
    simp only [spec_l1New.l0]
    rw [if_pos (by omega), if_neg (by omega)])
  (by
   intro s _
   refine ⟨(b, 0, s), ⟨s, rfl⟩, 0, 1, fun k _ => ?_⟩
   simp only [spec_l1New.l0]
   rw [if_neg (by omega)]) 0 (wrap64 (941941 + (b.length : Int))) (Nat.zero_le _) trivial
 exact ⟨h, K, fun k hk' => hk k hk'⟩
theorem spec_LessKey_f (a b : S27) : spec_LessKey.f a.f0 a.f1 a.f2 a.f3 a.f4 b.f0 b.f1 b.f2 b.f3 b.f4 = some (less a b) := by
 unfold spec_LessKey.f less
 split
 ·simp [*]
 ·simp [*]
theorem spec_SameSpot_f (a b : S27) : spec_SameSpot.f a.f0 a.f1 a.f2 a.f3 a.f4 b.f0 b.f1 b.f2 b.f3 b.f4 = some (same a b) := by
 unfold spec_SameSpot.f same
 split
 ·simp only [*, true_and, Option.some.injEq]; rw [Bool.eq_iff_iff]; simp
 ·simp [*]
theorem spec_SetPut_ev (l : List S27) (x : S27) (h : l.length ≤ 4194304) : Ev (fun k => spec_SetPut.f k l x.f0 x.f1 x.f2 x.f3 x.f4) (setPut l x) := by
 obtain ⟨K, hk⟩ := evRange0 (σ := List S27 × Bool) l.length (fun k s i => spec_SetPut.l0 k l s.1 s.2 i x.f0 x.f1 x.f2 x.f3 x.f4) (fun i s => s.1.length ≤ 2 * i) (fun i s => s.1 ++ putGo x (l.drop i) s.2) ([], false) (by simp)
  (by
   intro i s hi hs
   obtain ⟨out, put⟩ := s
   simp only at hs
   have hd := drop_getD l i z27 hi
   have hr : rd_T27 l (i : Int) = l.getD i z27 := by simp [rd_T27]
   refine .inl ⟨(out ++ (if put || less (l.getD i z27) x then [] else [x]) ++ (if same (l.getD i z27) x then [] else [l.getD i z27]), put || !less (l.getD i z27) x), ?_, ?_, 0, 2, fun k _ => ?_⟩
   ·simp only [List.length_append]; split <;> split <;> simp <;> omega
   ·simp only [hd, putGo, List.append_assoc]
   ·generalize hy : l.getD i z27 = y at *
    have hw := w64s i (by omega)
    have c1 : (i : Int) < (l.length : Int) := by omega
    have c2 : 0 ≤ (i : Int) := by omega
    simp only [spec_SetPut.l0, hr, spec_LessKey_f, Option.bind_some, spec_SetPut.j1, if_pos c1, if_pos c2]
    cases put <;> cases hl : less y x <;> cases hq : same y x <;>
     simp only [Bool.not_true, Bool.not_false, if_true, if_false, Bool.false_eq_true, reduceCtorEq, spec_SameSpot_f, Option.bind_some, hq, hw, Bool.or_true, Bool.true_or, Bool.or_false, Bool.false_or, List.append_nil, List.append_assoc] <;>
     (repeat rw [if_pos (by first | omega | (simp only [List.length_append, List.length_cons, List.length_nil]; omega))]) <;> rfl)
  (by
   intro s hs
   obtain ⟨out, put⟩ := s
   simp only at hs
   refine ⟨0, 1, fun k _ => ?_⟩
   simp only [spec_SetPut.l0]
   rw [if_neg (by omega)]
   cases put
   ·rw [if_neg (by simp), if_pos (by omega)]; simp [putGo]
   ·rw [if_pos rfl]; simp [putGo])
 exact ⟨K, fun k hk' => hk k hk'⟩
theorem l1Byte_ex (b : List Int) (i h : Int) (hc : curOk b i) : ∃ x j g, spec_l1Byte.f b i h = some (x, j, g) ∧ (0 ≤ x ∧ x ≤ 255) ∧ curOk b j := by
 obtain ⟨hb, hl, h0, h1⟩ := hc
 unfold spec_l1Byte.f
 simp only [and255]
 by_cases c : i < (b.length : Int)
 ·rw [if_pos c, if_pos h0]
  exact ⟨_, _, _, rfl, ⟨by omega, by omega⟩, hb, hl, by rw [w64 (by omega) (by omega)]; omega, by rw [w64 (by omega) (by omega)]; omega⟩
 ·rw [if_neg c]
  exact ⟨_, _, _, rfl, ⟨by omega, by omega⟩, hb, hl, h0, h1⟩
theorem l1Below_ex (b : List Int) (i h n : Int) (hc : curOk b i) (hn : n ≤ 9223372036854775807) : ∃ x j g, spec_l1Below.f b i h n = some (x, j, g) ∧ (0 ≤ x ∧ (0 < n → x < n) ∧ (n ≤ 0 → x = 0)) ∧ curOk b j := by
 unfold spec_l1Below.f
 by_cases c : n ≤ 0
 ·rw [if_pos c]; exact ⟨_, _, _, rfl, ⟨by omega, by omega, fun _ => rfl⟩, hc⟩
 rw [if_neg c]
 by_cases c2 : n ≤ 256
 ·rw [if_pos c2]
  obtain ⟨x, j, g, e, hx, hj⟩ := l1Byte_ex b i h hc
  simp only [e, Option.bind_some]
  rw [if_neg (by omega)]
  have h1 := Int.tmod_nonneg (b := n) hx.1
  have h2 := Int.tmod_lt_of_pos x (show 0 < n by omega)
  exact ⟨_, _, _, rfl, ⟨h1, fun _ => h2, fun h => by omega⟩, hj⟩
 ·rw [if_neg c2]
  obtain ⟨x, j, g, e, hx, hj⟩ := l1Byte_ex b i h hc
  obtain ⟨x2, j2, g2, e2, hx2, hj2⟩ := l1Byte_ex b j g hj
  obtain ⟨x3, j3, g3, e3, hx3, hj3⟩ := l1Byte_ex b j2 g2 hj2
  simp only [e, e2, e3, Option.bind_some]
  rw [if_neg (by omega), w64 (x := x * 65536) (by omega) (by omega), w64 (x := x2 * 256) (by omega) (by omega), w64 (x := x * 65536 + x2 * 256) (by omega) (by omega), w64 (x := x * 65536 + x2 * 256 + x3) (by omega) (by omega)]
  have h1 := Int.tmod_nonneg (b := n) (show 0 ≤ x * 65536 + x2 * 256 + x3 by omega)
  have h2 := Int.tmod_lt_of_pos (x * 65536 + x2 * 256 + x3) (show 0 < n by omega)
  exact ⟨_, _, _, rfl, ⟨h1, fun _ => h2, fun h => by omega⟩, hj3⟩
theorem rd_mem (l : List Int) (i : Int) (h0 : 0 ≤ i) (h1 : i < (l.length : Int)) : rd l i ∈ l := by unfold rd; exact getD_mem l i.toNat 0 (by omega)
theorem l1Int_ex (b : List Int) (i h : Int) (l : List Int) (hc : curOk b i) (hl : 0 < l.length) (hm : l.length ≤ 1048576) : ∃ x j g, spec_l1Int.f b i h l = some (x, j, g) ∧ x ∈ l ∧ curOk b j := by
 obtain ⟨x, j, g, e, hx, hj⟩ := l1Below_ex b i h (l.length : Int) hc (by omega)
 have h1 := hx.2.1 (by omega)
 unfold spec_l1Int.f
 simp only [e, Option.bind_some]
 rw [if_pos hx.1, if_pos h1]
 exact ⟨_, _, _, rfl, rd_mem l x hx.1 h1, hj⟩
theorem l3Draw_ex (b : List Int) (i h : Int) (hc : curOk b i) : ∃ x0 x1 x2 x3 x4 j g, spec_l3Draw.f b i h = some (x0, x1, x2, x3, x4, j, g) ∧ (0 ≤ x0 ∧ x0 < 4 ∧ 1 ≤ x1 ∧ x1 ≤ 5 ∧ (x2 = 0 ∧ x3 = 0 ∧ x4 = 0 ∨ x2 = 2 ∧ x3 = 0 ∧ x4 = 0 ∨ x2 = 1 ∧ 0 ≤ x3 ∧ x3 < 24 ∧ 0 ≤ x4 ∧ x4 ≤ 999)) ∧ curOk b j := by
 obtain ⟨a, j, g, e, ha, hj⟩ := l1Below_ex b i h 4 hc (by decide)
 obtain ⟨c, j2, g2, e2, hc2, hj2⟩ := l1Below_ex b j g 5 hj (by decide)
 obtain ⟨d, j3, g3, e3, hd, hj3⟩ := l1Int_ex b j2 g2 [0, 1, 1, 1, 2] hj2 (by decide) (by decide)
 have ha1 := ha.2.1 (by decide)
 have hc3 := hc2.2.1 (by decide)
 unfold spec_l3Draw.f
 simp only [e, e2, e3, Option.bind_some, w64 (x := 1 + c) (by omega) (by omega)]
 simp only [List.mem_cons, List.not_mem_nil, or_false] at hd
 by_cases q : d = 1
 ·obtain ⟨x, j4, g4, e4, hx, hj4⟩ := l1Below_ex b j3 g3 24 hj3 (by decide)
  obtain ⟨y, j5, g5, e5, hy, hj5⟩ := l1Int_ex b j4 g4 [0, 1, 256, 999] hj4 (by decide) (by decide)
  have hx1 := hx.2.1 (by decide)
  simp only [List.mem_cons, List.not_mem_nil, or_false] at hy
  rw [if_pos q]
  simp only [e4, e5, Option.bind_some]
  exact ⟨_, _, _, _, _, _, _, rfl, by omega, hj5⟩
 ·rw [if_neg q]
  exact ⟨_, _, _, _, _, _, _, rfl, by omega, hj3⟩
theorem impl_SameSpot_f (a b : S27) : impl_SameSpot.f a.f0 a.f1 a.f2 a.f3 a.f4 b.f0 b.f1 b.f2 b.f3 b.f4 = some (same a b) := by
 unfold impl_SameSpot.f same
 split
 ·simp only [*, true_and, Option.some.injEq]; rw [Bool.eq_iff_iff]; simp
 ·simp [*]
theorem impl_SetPut_ev (l : List S27) (x : S27) (h : l.length ≤ 4194304) : Ev (fun k => impl_SetPut.f k l x.f0 x.f1 x.f2 x.f3 x.f4) (setPut l x) := by
 obtain ⟨K, hk⟩ := evRange0 (σ := List S27 × Bool) l.length (fun k s i => impl_SetPut.l0 k s.1 s.2 l (l.length : Int) i x.f0 x.f1 x.f2 x.f3 x.f4) (fun i s => s.1.length ≤ 2 * i) (fun i s => s.1 ++ putGo x (l.drop i) s.2) ([], false) (by simp)
  (by
   intro i s hi hs
   obtain ⟨out, put⟩ := s
   simp only at hs
   have hd := drop_getD l i z27 hi
   have hr : rd_T27 l (i : Int) = l.getD i z27 := by simp [rd_T27]
   refine .inl ⟨(out ++ (if put || less (l.getD i z27) x then [] else [x]) ++ (if same (l.getD i z27) x then [] else [l.getD i z27]), put || !less (l.getD i z27) x), ?_, ?_, 0, 2, fun k _ => ?_⟩
   ·simp only [List.length_append]; split <;> split <;> simp <;> omega
   ·simp only [hd, putGo, List.append_assoc]
   ·generalize hy : l.getD i z27 = y at *
    simp only [impl_SetPut.l0, hr]
    rw [if_pos (by omega), if_pos (by omega), if_pos (by omega)]
    rw [impl_LessKey_f]
    simp only [Option.bind_some, impl_SetPut.j1]
    have hw := w64s i (by omega)
    cases put <;> cases hl : less y x <;> cases hq : same y x <;>
     simp only [Bool.not_true, Bool.not_false, if_true, if_false, Bool.false_eq_true, reduceCtorEq, impl_SameSpot_f, Option.bind_some, hq, hw, Bool.or_true, Bool.true_or, Bool.or_false, Bool.false_or, List.append_nil, List.append_assoc] <;>
     (repeat rw [if_pos (by first | omega | (simp only [List.length_append, List.length_cons, List.length_nil]; omega))]) <;> rfl)
  (by
   intro s hs
   obtain ⟨out, put⟩ := s
   simp only at hs
   refine ⟨0, 1, fun k _ => ?_⟩
   simp only [impl_SetPut.l0]
   rw [if_neg (by omega)]
   cases put
   ·rw [if_neg (by simp), if_pos (by omega)]; simp [putGo]
   ·rw [if_pos rfl]; simp [putGo])
 exact ⟨K, fun k hk' => hk k hk'⟩
theorem impl_copyKeys_f (a : List S27) (h : a.length ≤ 4194304) : impl_copyKeys.f a = some a := by
 simp only [impl_copyKeys.f, Option.bind_some, List.length_nil, List.nil_append]
 rw [if_pos (by omega)]
theorem impl_MergeSets_ev (a b : List S27) (h : a.length + b.length ≤ 4194304) : Ev (fun k => impl_MergeSets.f k a b) (mergeSets a b) := by
 obtain ⟨K, hk⟩ := evRange0 (σ := List S27) b.length (fun k s i => impl_MergeSets.l0 k s b (b.length : Int) i) (fun i s => s.length ≤ a.length + i) (fun i s => mergeSets s (b.drop i)) a (by simp)
  (by
   intro i s hi hs
   have hd := drop_getD b i z27 hi
   have hr : rd_T27 b (i : Int) = b.getD i z27 := by simp [rd_T27]
   obtain ⟨K, e⟩ := impl_SetPut_ev s (b.getD i z27) (by omega)
   have hlen := setPut_length s (b.getD i z27)
   refine .inl ⟨setPut s (b.getD i z27), by omega, by simp only [hd, mergeSets, List.foldl_cons], K, 1, fun k hk => ?_⟩
   simp only [impl_MergeSets.l0, hr, e k hk, Option.bind_some]
   rw [if_pos (by omega), if_pos (by omega), if_pos (by omega), w64s i (by omega)])
  (by
   intro s hs
   refine ⟨0, 1, fun k _ => ?_⟩
   simp only [impl_MergeSets.l0]
   rw [if_neg (by omega)]
   simp [mergeSets])
 refine ⟨K, fun k hk' => ?_⟩
 simp only [impl_MergeSets.f, impl_copyKeys_f a (by omega), Option.bind_some]
 exact hk k hk'
def spotQ (a b : Int) (x : S27) : Bool := decide (x.f0 = a) && decide (x.f1 = b)
def Rise (l : List S27) : Prop := l.Pairwise fun x y => less x y = true
theorem less_iff {x y : S27} : less x y = true ↔ x.f0 < y.f0 ∨ x.f0 = y.f0 ∧ x.f1 < y.f1 := by unfold less; exact decide_eq_true_iff
theorem same_iff {x y : S27} : same x y = true ↔ x.f0 = y.f0 ∧ x.f1 = y.f1 := by unfold same; exact decide_eq_true_iff
theorem spotQ_iff {a b : Int} {x : S27} : spotQ a b x = true ↔ x.f0 = a ∧ x.f1 = b := by unfold spotQ; simp
theorem putGo_mem (k : S27) : ∀ (l : List S27) (p : Bool) (y : S27), y ∈ putGo k l p → y = k ∨ y ∈ l
 | [], p, y, h => by cases p <;> simp [putGo] at h; exact .inl h
 | x :: xs, p, y, h => by
  simp only [putGo, List.mem_append] at h
  rcases h with h | h | h
  ·split at h <;> simp at h; exact .inl h
  ·split at h <;> simp at h; exact .inr (by simp [h])
  ·rcases putGo_mem k xs _ y h with h | h
   ·exact .inl h
   ·exact .inr (by simp [h])
theorem setPut_mem {l : List S27} {k y : S27} (h : y ∈ setPut l k) : y = k ∨ y ∈ l := putGo_mem k l false y h
theorem putGo_true (k : S27) : ∀ l : List S27, putGo k l true = l.filter fun x => !same x k
 | [] => by simp [putGo]
 | x :: xs => by
  simp only [putGo, Bool.true_or, if_true, List.nil_append, putGo_true k xs, List.filter_cons]
  cases same x k <;> simp
theorem find_put (k : S27) (a b : Int) : ∀ l : List S27, (setPut l k).find? (spotQ a b) = if spotQ a b k = true then some k else l.find? (spotQ a b)
 | [] => by unfold setPut putGo; cases h : spotQ a b k <;> simp [h]
 | x :: xs => by
  have ih := find_put k a b xs
  unfold setPut at ih ⊢
  simp only [putGo, Bool.false_or]
  cases hl : less x k with
  | true =>
   have hs : same x k = false := by
    cases h : same x k with
    | false => rfl
    | true => rw [less_iff] at hl; rw [same_iff] at h; omega
   simp only [if_true, hs, Bool.false_eq_true, if_false, List.nil_append, Bool.not_true, List.cons_append, List.find?_cons, ih]
   cases hx : spotQ a b x with
   | false => simp
   | true =>
    have : spotQ a b k = false := by
     cases h : spotQ a b k with
     | false => rfl
     | true => rw [spotQ_iff] at h hx; rw [less_iff] at hl; omega
    simp [this]
  | false =>
   simp only [Bool.false_eq_true, if_false, Bool.not_false, List.cons_append, List.nil_append, List.find?_cons, putGo_true]
   cases hk : spotQ a b k with
   | true => simp
   | false =>
    simp only [Bool.false_eq_true, if_false]
    have hf : ∀ ys : List S27, (ys.filter fun x => !same x k).find? (spotQ a b) = ys.find? (spotQ a b) := by
     intro ys
     induction ys with
     | nil => rfl
     | cons y ys ih =>
      simp only [List.filter_cons, List.find?_cons]
      cases hy : same y k with
      | false => simp only [Bool.not_false, if_true, List.find?_cons, ih]
      | true =>
       have : spotQ a b y = false := by
        cases h : spotQ a b y with
        | false => rfl
        | true => rw [← hk, eq_comm, spotQ_iff]; rw [spotQ_iff] at h; rw [same_iff] at hy; omega
       simp only [Bool.not_true, Bool.false_eq_true, if_false, this, ih]
    cases hs : same x k with
    | false => simp only [Bool.false_eq_true, if_false, List.cons_append, List.nil_append, List.find?_cons, hf]
    | true =>
     have : spotQ a b x = false := by
      cases h : spotQ a b x with
      | false => rfl
      | true => rw [← hk, eq_comm, spotQ_iff]; rw [spotQ_iff] at h; rw [same_iff] at hs; omega
     simp only [if_true, List.nil_append, hf, this]
theorem rise_put (k : S27) : ∀ l : List S27, Rise l → Rise (setPut l k)
 | [], _ => by unfold setPut putGo Rise; simp
 | x :: xs, h => by
  unfold Rise at h ⊢
  rw [List.pairwise_cons] at h
  have ih := rise_put k xs h.2
  unfold setPut at ih ⊢
  unfold Rise at ih
  simp only [putGo, Bool.false_or]
  cases hl : less x k with
  | true =>
   have hs : same x k = false := by
    cases h : same x k with
    | false => rfl
    | true => rw [less_iff] at hl; rw [same_iff] at h; omega
   simp only [if_true, hs, Bool.false_eq_true, if_false, List.nil_append, Bool.not_true, List.cons_append]
   rw [List.pairwise_cons]
   refine ⟨fun y hy => ?_, ih⟩
   rcases putGo_mem k xs false y hy with rfl | hy
   ·exact hl
   ·exact h.1 y hy
  | false =>
   simp only [Bool.false_eq_true, if_false, Bool.not_false, List.cons_append, List.nil_append, putGo_true]
   have e : ((if same x k = true then [] else [x]) ++ xs.filter fun x => !same x k) = (x :: xs).filter fun x => !same x k := by
    rw [List.filter_cons]
    cases same x k <;> simp
   rw [e, List.pairwise_cons]
   refine ⟨fun y hy => ?_, (List.pairwise_cons.2 h).filter _⟩
   rw [List.mem_filter] at hy
   have hn : ¬ (x.f0 < k.f0 ∨ x.f0 = k.f0 ∧ x.f1 < k.f1) := fun h2 => by rw [less_iff.2 h2] at hl; cases hl
   have hy2 : ¬ (y.f0 = k.f0 ∧ y.f1 = k.f1) := fun h2 => by have := same_iff.2 h2; simp [this] at hy
   rw [less_iff]
   rcases List.mem_cons.1 hy.1 with rfl | hm
   ·omega
   ·have := less_iff.1 (h.1 y hm); omega
theorem find_rise {l : List S27} (h : Rise l) {x : S27} (hx : x ∈ l) : l.find? (spotQ x.f0 x.f1) = some x := by
 induction l with
 | nil => cases hx
 | cons y ys ih =>
  unfold Rise at h
  rw [List.pairwise_cons] at h
  rw [List.find?_cons]
  rcases List.mem_cons.1 hx with rfl | hx
  ·rw [spotQ_iff.2 ⟨rfl, rfl⟩]
  ·have : spotQ x.f0 x.f1 y = false := by
    cases h2 : spotQ x.f0 x.f1 y with
    | false => rfl
    | true => rw [spotQ_iff] at h2; have := less_iff.1 (h.1 x hx); omega
   rw [this]
   exact ih h.2 hx
theorem find_merge (p q : Int) : ∀ (b a : List S27), Rise b → (mergeSets a b).find? (spotQ p q) = (b.find? (spotQ p q)).or (a.find? (spotQ p q))
 | [], a, _ => by simp [mergeSets]
 | x :: xs, a, h => by
  unfold Rise at h
  rw [List.pairwise_cons] at h
  have ih := find_merge p q xs (setPut a x) h.2
  simp only [mergeSets, List.foldl_cons] at ih ⊢
  rw [ih, find_put, List.find?_cons]
  cases hx : spotQ p q x with
  | false => simp
  | true =>
   have : xs.find? (spotQ p q) = none := by
    rw [List.find?_eq_none]
    intro y hy h2
    rw [spotQ_iff] at h2 hx
    have := less_iff.1 (h.1 y hy); omega
   simp [this]
theorem rise_merge : ∀ (b a : List S27), Rise a → Rise (mergeSets a b)
 | [], a, h => h
 | x :: xs, a, h => rise_merge xs (setPut a x) (rise_put x a h)
theorem mem_merge {y : S27} : ∀ (b a : List S27), y ∈ mergeSets a b → y ∈ a ∨ y ∈ b
 | [], a, h => .inl h
 | x :: xs, a, h => by
  rcases mem_merge xs (setPut a x) h with h | h
  ·rcases setPut_mem h with h | h
   ·exact .inr (by simp [h])
   ·exact .inl h
  ·exact .inr (by simp [h])
theorem rise_len : ∀ (m b : List S27), Rise m → Rise b → (∀ x ∈ b, ∃ y ∈ m, x.f0 = y.f0 ∧ x.f1 = y.f1) → b.length ≤ m.length
 | m, [], _, _, _ => by simp
 | [], x :: xs, _, _, h => by obtain ⟨y, hy, _⟩ := h x (by simp); cases hy
 | y :: ys, x :: xs, hm, hb, h => by
  unfold Rise at hm hb
  have hm' := List.pairwise_cons.1 hm
  have hb' := List.pairwise_cons.1 hb
  by_cases e : x.f0 = y.f0 ∧ x.f1 = y.f1
  ·have := rise_len ys xs hm'.2 hb'.2 (fun z hz => by
    obtain ⟨u, hu, he⟩ := h z (by simp [hz])
    rcases List.mem_cons.1 hu with rfl | hu
    ·have := less_iff.1 (hb'.1 z hz); omega
    ·exact ⟨u, hu, he⟩)
   simp only [List.length_cons]; omega
  ·have := rise_len ys (x :: xs) hm'.2 hb (fun z hz => by
    obtain ⟨u, hu, he⟩ := h z hz
    rcases List.mem_cons.1 hu with rfl | hu
    ·exfalso
     rcases List.mem_cons.1 hz with rfl | hz
     ·exact e he
     ·obtain ⟨t, ht, hte⟩ := h x (by simp)
      have h1 := less_iff.1 (hb'.1 z hz)
      rcases List.mem_cons.1 ht with rfl | ht
      ·exact e hte
      ·have := less_iff.1 (hm'.1 t ht); omega
    ·exact ⟨u, hu, he⟩)
   simp only [List.length_cons] at this ⊢; omega
theorem merge_len {a b : List S27} (ha : Rise a) (hb : Rise b) : b.length ≤ (mergeSets a b).length := by
 refine rise_len _ _ (rise_merge b a ha) hb (fun x hx => ?_)
 have h := find_merge x.f0 x.f1 b a hb
 rw [find_rise hb hx] at h
 simp only [Option.or] at h
 exact ⟨x, List.mem_of_find?_eq_some h, rfl, rfl⟩
theorem rise_at {l : List S27} (h : Rise l) (i : Nat) (h0 : 0 < i) (hi : i < l.length) : less (l.getD (i - 1) z27) (l.getD i z27) = true := by
 rw [List.getD_eq_getElem?_getD, List.getD_eq_getElem?_getD, List.getElem?_eq_getElem hi, List.getElem?_eq_getElem (show i - 1 < l.length by omega)]
 exact List.pairwise_iff_getElem.1 h (i - 1) i (by omega) hi (by omega)
theorem setOk_rise {l : List S27} (h : Rise l) (hk : ∀ x ∈ l, keyOkB x = true) (hl : l.length ≤ 60) : setOkB l = true := by
 unfold setOkB
 simp only [Bool.and_eq_true, decide_eq_true_eq]
 refine ⟨allFrom_iff.2 fun j _ hj => ?_, hl⟩
 rw [hk _ (getD_mem l j z27 hj), Bool.true_and]
 rcases Nat.eq_zero_or_pos j with rfl | h0
 ·rfl
 ·unfold risesAt
  rw [rise_at h j h0 hj, Bool.or_true]
theorem keyOk_drawn {x0 x1 x2 x3 x4 : Int} (h : 0 ≤ x0 ∧ x0 < 4 ∧ 1 ≤ x1 ∧ x1 ≤ 5 ∧ (x2 = 0 ∧ x3 = 0 ∧ x4 = 0 ∨ x2 = 2 ∧ x3 = 0 ∧ x4 = 0 ∨ x2 = 1 ∧ 0 ≤ x3 ∧ x3 < 24 ∧ 0 ≤ x4 ∧ x4 ≤ 999)) : keyOkB (⟨x0, x1, x2, x3, x4⟩ : S27) = true := by
 unfold keyOkB keyOk5
 by_cases c : x2 = 1
 ·simp only [c, if_true, Bool.and_eq_true, decide_eq_true_eq]; omega
 ·simp only [if_neg c, Bool.and_eq_true, decide_eq_true_eq]; omega
theorem l4DrawS_loop (b : List Int) : ∀ (n : Nat) (l : List S27) (i h : Int), curOk b i → l.length + n ≤ 4194304 → Rise l → (∀ x ∈ l, keyOkB x = true) → ∃ r : List S27 × Int × Int, (r.1.length ≤ l.length + n ∧ Rise r.1 ∧ (∀ x ∈ r.1, keyOkB x = true) ∧ curOk b r.2.1) ∧ Ev (fun k => spec_l4Draw.l0 k l (n : Int) b i h) r
 | 0, l, i, h, hc, hl, hr, hk => ⟨(l, i, h), ⟨by simp, hr, hk, hc⟩, 1, fun k hk => by
   obtain ⟨k, rfl⟩ : ∃ m, k = m + 1 := ⟨k - 1, by omega⟩
   simp only [spec_l4Draw.l0]
   rw [if_neg (by omega)]⟩
 | n + 1, l, i, h, hc, hl, hr, hk => by
  obtain ⟨x0, x1, x2, x3, x4, j, g, e, hx, hj⟩ := l3Draw_ex b i h hc
  obtain ⟨K1, e1⟩ := spec_SetPut_ev l ⟨x0, x1, x2, x3, x4⟩ (by omega)
  have hp := setPut_length l ⟨x0, x1, x2, x3, x4⟩
  obtain ⟨r, hr, K2, e2⟩ := l4DrawS_loop b n (setPut l ⟨x0, x1, x2, x3, x4⟩) j g hj (by omega) (rise_put _ _ hr) (fun y hy => by
   rcases setPut_mem hy with rfl | hy
   ·exact keyOk_drawn hx
   ·exact hk y hy)
  refine ⟨r, ⟨by omega, hr.2⟩, K1 + K2 + 1, fun k hk => ?_⟩
  obtain ⟨k, rfl⟩ : ∃ m, k = m + 1 := ⟨k - 1, by omega⟩
  have a1 := e1 k (by omega)
  have a2 := e2 k (by omega)
  simp only at a1 a2
  simp only [spec_l4Draw.l0]
  rw [if_pos (by omega)]
  simp only [e, a1, Option.bind_some]
  rw [w64 (x := ((n + 1 : Nat) : Int) - 1) (by omega) (by omega), show ((n + 1 : Nat) : Int) - 1 = (n : Int) by omega]
  exact a2
theorem l4DrawS_ex (b : List Int) (i h n : Int) (hc : curOk b i) (h0 : 0 ≤ n) (hn : n ≤ 1048576) : ∃ r : List S27 × Int × Int, (r.1.length ≤ n.toNat ∧ Rise r.1 ∧ (∀ x ∈ r.1, keyOkB x = true) ∧ curOk b r.2.1) ∧ Ev (fun k => spec_l4Draw.f k b i h n) r := by
 obtain ⟨a, j, g, e, ha, hj⟩ := l1Below_ex b i h (n + 1) hc (by omega)
 have ha1 := ha.2.1 (by omega)
 obtain ⟨m, rfl⟩ := Int.eq_ofNat_of_zero_le ha.1
 obtain ⟨r, hr, K, e1⟩ := l4DrawS_loop b m [] j g hj (by simp; omega) List.Pairwise.nil (fun x hx => by cases hx)
 refine ⟨r, ⟨by have := hr.1; simp only [List.length_nil] at this; omega, hr.2⟩, K, fun k hk => ?_⟩
 have a1 := e1 k hk
 simp only at a1
 simp only [spec_l4Draw.f, w64 (x := n + 1) (by omega) (by omega), e, Option.bind_some]
 exact a1
theorem DrawMergeSets_ex (b : List Int) (hb : bytesIn b) (hl : b.length ≤ 1048576) : ∃ x y : List S27, ((x.length ≤ 6 ∧ y.length ≤ 6) ∧ (Rise x ∧ Rise y) ∧ (∀ z ∈ x, keyOkB z = true) ∧ ∀ z ∈ y, keyOkB z = true) ∧ Ev (fun k => spec_DrawMergeSets.f k b) (x, y) := by
 obtain ⟨h, K, e⟩ := l1New_ex b hb hl
 obtain ⟨⟨l, i1, h1⟩, ⟨hl1, hr1, hk1, hc1⟩, K1, e1⟩ := l4DrawS_ex b 0 h 6 ⟨hb, hl, Int.le_refl _, by omega⟩ (by decide) (by decide)
 simp only at hl1 hr1 hk1 hc1
 obtain ⟨⟨m, i2, h2⟩, ⟨hl2, hr2, hk2, hc2⟩, K2, e2⟩ := l4DrawS_ex b i1 h1 6 hc1 (by decide) (by decide)
 simp only at hl2 hr2 hk2 hc2
 have h6 : (6 : Int).toNat = 6 := rfl
 refine ⟨l, m, ⟨by omega, ⟨hr1, hr2⟩, hk1, hk2⟩, K + K1 + K2, fun k hk => ?_⟩
 have a0 := e k (by omega)
 have a1 := e1 k (by omega)
 have a2 := e2 k (by omega)
 simp only at a0 a1 a2
 simp only [spec_DrawMergeSets.f, a0, a1, a2, Option.bind_some]
end Go.Proofs.Ytkaoiaolbhklnaa.Pure
