/- The law: the functions that it reaches, each with the proof that the machine's call comes to its answer, what they answer, and the law's row; each theorem says its conditions itself. -/
import Derived.Test.YtamjbjkbineafaaZFnExactTreePack0
namespace Go.Proofs.Ytamjbjkbineafaa.PFnExactTreePack
open Go.RowKit Go.Proofs.YtamjbjkbineafaaW.PrintWords Go.Proofs.YtamjbjkbineafaaW.PrintLast Go.Proofs.YtamjbjkbineafaaW.PrintMore
attribute [local go_sem] max2_int min2_int max_two min_two max_three min_three max_four min_four   -- for this text's walks alone
set_option linter.unusedVariables false
set_option linter.unusedSimpArgs false
def spec_MergeSets.l0 : Nat → List (S38) → List (S38) → Int → Option ((List (S38)))
 | 0, _, _, _ => none
 | k + 1, x1, x5, x6 => if x6 < (x1.length : Int) then (if 0 ≤ x6 then ((spec_SetPut.f k x5 ((rd_T38 x1 x6).f0) ((rd_T38 x1 x6).f1) ((rd_T38 x1 x6).f2) ((rd_T38 x1 x6).f3) ((rd_T38 x1 x6).f4)).bind fun t182 => (spec_MergeSets.l0 k x1 t182 (wrap64 (x6 + 1)))) else (none)) else (some x5)
def spec_MergeSets.f (k : Nat) (l0 : List (S38)) (l1 : List (S38)) : Option ((List (S38))) := (some (([] : List (S38)) : List (S38))).bind fun y175 => (if y175.length + l0.length < 3518437208883 then (spec_MergeSets.l0 k l1 (y175 ++ l0) 0) else (none))
set_option maxHeartbeats 8000000 in
set_option maxRecDepth 100000 in
theorem spec_MergeSets.calls (k : Nat) (A0 : Option Addr) (c0 : Nat) (l0 : List (S38)) (A1 : Option Addr) (c1 : Nat) (l1 : List (S38)) (r : List (S38)) (w : World) (hr0 : Kd.C k38 w A0 l0.length l0) (hc0 : l0.length ≤ c0) (hr1 : Kd.C k38 w A1 l1.length l1) (hc1 : l1.length ≤ c1) (h : spec_MergeSets.f k l0 l1 = some r) :
  Calls Try.prog 87 #[.slice A0 l0.length c0, .slice A1 l1.length c1] w fun e w' => ∃ v0_ : Value, e = .returned (v0_) ∧ Kd.R k38 38 w' w.heap.size (fun _ => True) v0_ r ∧ Below w.heap.size w w' := by
 have hu38 := Try.underlying38
 have HR0 := aA.mk hr0
 have HC0 := aA.mk hc0
 clear hr0 hc0
 have HR1 := aA.mk hr1
 have HC1 := aA.mk hc1
 clear hr1 hc1
 have HB := aA.mk (Below.refl w.heap.size w)
 have H : ((some (([] : List (S38)) : List (S38))).bind fun y175 => (if y175.length + l0.length < 3518437208883 then (spec_MergeSets.l0 k l1 (y175 ++ l0) 0) else (none))) = some r := h
 clear h
 obtain ⟨y175, hy175⟩ : ∃ y_ : List (S38), y_ = (([] : List (S38))) := ⟨_, rfl⟩
 replace H : (if y175.length + l0.length < 3518437208883 then (spec_MergeSets.l0 k l1 (y175 ++ l0) 0) else (none)) = some r := by first | (rw [hy175]; with_reducible exact H) | (have H2_ := (Option.bind_some _ _).symm.trans H; rw [hy175]; with_reducible exact H2_) | (have H2_ := (Option.bind_some _ _).symm.trans H; with_reducible exact H2_) | with_reducible exact H | (rw [hy175]; exact H) | exact H
 have Ny175 := aA.mk hy175
 clear hy175
 by_cases c3 : y175.length + l0.length < 3518437208883
 ·rw [if_pos c3] at H
  have LMc3 := aA.mk c3
  clear c3
  obtain ⟨y178, hy178⟩ : ∃ y_ : List (S38), y_ = (y175 ++ l0) := ⟨_, rfl⟩
  replace H : (spec_MergeSets.l0 k l1 y178 0) = some r := by first | (rw [hy178]; with_reducible exact H) | (have H2_ := (Option.bind_some _ _).symm.trans H; rw [hy178]; with_reducible exact H2_) | (have H2_ := (Option.bind_some _ _).symm.trans H; with_reducible exact H2_) | with_reducible exact H | (rw [hy178]; exact H) | exact H
  have Ny178 := aA.mk hy178
  clear hy178
  have H' := aA.mk H
  clear H
  go_enter Try.func87, Try.ntmps87
  go_wp2_with (first | ((with_reducible refine aW (N := 7) rfl ?_); refine Kd.R_lit k38 _ 38 ?hg (N := 7) ?hd (xs := ([] : List (S38))) (inner := []) (ok := fun _ => True) (okp := fun _ => True) ?hr ?hp (fun _ hk => hk) trivial (Below.refl _ _) (Nat.le_refl _) (by simp) ?_; (case hd => rfl); (case hg => rfl); (case hr => first | (go_simp; done) | (go_simp; rfl)); (case hp => exact (Reps.none _ _)); intro v176 w4 ho5 hb hg_ hnew_; clear hg_ hnew_; (first | rw [← Ny175.out] at ho5 | (simp only [Int.reduceToNat] at ho5; rw [← Ny175.out] at ho5)); have n0_ := aA.mk (Kd.R_lower ho5 (aT (by repeat (first | (with_reducible first | exact HB.out | apply aH | apply aC | apply aG) | exact HB.out)))); have n1_ := aA.mk (aU (by repeat (first | (with_reducible first | exact HB.out | apply aH | apply aC | apply aG) | exact HB.out)) hb); clear HB; have HO177 := n0_; have HB := n1_; clear n0_ n1_; clear hb ho5) | ((with_reducible refine gate_builtin (b := .append) (xs := #[.tmp 7, .tmp 8]) rfl ?_); at_builtin; refine Kd.R_append_rows k38 (w0 := w) w.heap.size rfl (.tmp 7) (.tmp 8) 45 38 (.agg #[(.int .i64 0), (.int .i64 0), (.int .i64 0), (.int .i64 0), (.int .i64 0)]) 40 rfl Try.underlying45 info38 rfl (by decide) (by omega) v176 y175 l0 _ _ _ (fun _ => True) (fun _ => False) rfl rfl ?aO ?aR (fun _ _ h => h) (fun _ h => h.elim) ?aF ?aB ?aS ?aL ?_; (case aR => repeat (first | exact (Kd.bJ HR0.out HB.out) | (with_reducible refine Kd.bM ?_ _) | (with_reducible refine Kd.bN ?_ _) | (with_reducible refine Kd.bR ?_))); (case aB => exact (by repeat (first | (with_reducible first | exact HB.out | apply aH | apply aC | apply aG) | exact HB.out))); (case aF => exact (fun _ _ => trivial)); (case aO => exact (by (with_reducible repeat (first | apply Kd.aY | apply Kd.aZ | apply Kd.bA)); exact HO177.out)); (case aS => exact (aT (by repeat (first | (with_reducible first | exact HB.out | apply aH | apply aC | apply aG) | exact HB.out)))); (case aL => have := LMc3.out; omega); intro v179 w6 ho hb hg hat; rw [← Ny178.out] at ho; have n0_ := aA.mk (hb); have n1_ := aA.mk (ho); clear HB; clear HO177; have HB := n0_; have HO180 := n1_; clear n0_ n1_; clear ho hb hg hat))
  go_loopg [5, 6] k (fun kq v5 v6 w' => ∃ (x5_1 : List (S38)) (x6_1 : Int), v6 = .int .i64 x6_1 ∧ aA (spec_MergeSets.l0 kq l1 x5_1 x6_1 = some r) ∧ aA (kq ≤ k) ∧ aA (Kd.R k38 38 w' w.heap.size (fun _ => True) v5 x5_1) ∧ aA (Below w.heap.size w w'))
  case atStart => exact ⟨(y178), (0), (by first | rfl | (simp; done) | (simp [*]; done)), H', ⟨Nat.le_refl _⟩, ⟨by (with_reducible repeat (first | apply Kd.aY | apply Kd.aZ | apply Kd.bA)); exact HO180.out⟩, ⟨by repeat (first | (with_reducible first | exact HB.out | apply aH | apply aC | apply aG) | exact HB.out)⟩⟩
  case round =>
   clear H'
   try clear c1
   try clear p2
   try clear c3
   obtain ⟨x5_1, x6_1, rfl, HA, HK1, HO_5, HB⟩ := hrel
   cases gk with
   | zero => exact absurd HA.out (by simp [spec_MergeSets.l0])
   | succ k1 =>
    have H := HA.out
    clear HA
    simp only [spec_MergeSets.l0] at H
    by_cases c7 : x6_1 < (l1.length : Int)
    ·rw [if_pos c7] at H
     have c7b0 : decide (x6_1 < (l1.length : Int)) = true := decide_eq_true c7
     clear c7
     by_cases c8 : 0 ≤ x6_1
     ·rw [if_pos c8] at H
      have c8b0 : decide (0 ≤ x6_1) = true := decide_eq_true c8
      clear c8
      replace H := lF H
      obtain ⟨t182, A90, H⟩ := H
      replace H : (spec_MergeSets.l0 k1 l1 t182 (wrap64 (x6_1 + 1))) = some r := H
      have A9 := aA.mk A90
      clear A90
      have H' := aA.mk H
      clear H
      have p181 : 0 ≤ (x6_1 : Int) := lE (by first | (with_reducible assumption) | assumption)
      have q181 : x6_1 < (l1.length : Int) := lE (by first | (with_reducible assumption) | assumption)
      obtain ⟨ad181, e181, hx181_0, hx181_1, hx181_2, hx181_3, hx181_4⟩ := at_T38 HR1.out x6_1 p181 q181
      cases e181
      replace hx181_0 := (HB.out.cell (lD w _ hx181_0)).trans hx181_0
      replace hx181_1 := (HB.out.cell (lD w _ hx181_1)).trans hx181_1
      replace hx181_2 := (HB.out.cell (lD w _ hx181_2)).trans hx181_2
      replace hx181_3 := (HB.out.cell (lD w _ hx181_3)).trans hx181_3
      replace hx181_4 := (HB.out.cell (lD w _ hx181_4)).trans hx181_4
      replace p181 := eq_true p181
      replace q181 := eq_true q181
      obtain ⟨Ao10, co10, eo10⟩ := Kd.R_slice HO_5.out
      subst eo10
      go_wp2_with (first | ((with_reducible refine bB (f := 53) rfl ?_); refine bP (some 21) rfl rfl Try.func53 (by kernel_rfl) rfl #[.slice Ao10 x5_1.length co10, .agg #[.int .i64 ((rd_T38 l1 x6_1).f0), .int .i64 ((rd_T38 l1 x6_1).f1), .int .i64 ((rd_T38 l1 x6_1).f2), .int .i64 ((rd_T38 l1 x6_1).f3), .int .i64 ((rd_T38 l1 x6_1).f4)]] rfl (by (try simp only [List.map_toArray, List.map_cons, List.map_nil]); first | done | rfl | (simp only [List.length_drop, List.length_take]; rfl)) ?_; (with_reducible refine (spec_SetPut.calls k1 _ _ x5_1 ((rd_T38 l1 x6_1).f0) ((rd_T38 l1 x6_1).f1) ((rd_T38 l1 x6_1).f2) ((rd_T38 l1 x6_1).f3) ((rd_T38 l1 x6_1).f4) t182 _ ?side1 ?side2 A9.out).mono ?_); (case side1 => repeat (first | exact (Kd.R_reads' HO_5.out).2.2 | (with_reducible refine Kd.bM ?_ _) | (with_reducible refine Kd.bN ?_ _) | (with_reducible refine Kd.bR ?_))); (case side2 => exact (Kd.R_reads' HO_5.out).2.1); rintro e w11 ⟨v183, rfl, ho0, hb⟩; refine ⟨_, rfl, ?_⟩; have n0_ := aA.mk (Kd.R_elder' (by (with_reducible repeat (first | apply Kd.aY | apply Kd.aZ | apply Kd.bA)); exact HO_5.out) (Kd.R_base ho0) hb); have n1_ := aA.mk (Kd.R_lower (Kd.R_new' ho0 (Kd.R_lt (by (with_reducible repeat (first | apply Kd.aY | apply Kd.aZ | apply Kd.bA)); exact HO_5.out))) (aT (by repeat (first | (with_reducible first | exact HB.out | apply aH | apply aC | apply aG) | exact HB.out)))); have n2_ := aA.mk (aU (by repeat (first | (with_reducible first | exact HB.out | apply aH | apply aC | apply aG) | exact HB.out)) hb); clear HO_5; clear HB; have HO_5 := n0_; have HO184 := n1_; have HB := n2_; clear n0_ n1_ n2_; (try clear hb); (try clear ho0)))
      go_roundg k1
      case measure => have := HK1.out; omega
      case rel => exact ⟨(t182), (wrap64 (x6_1 + 1)), (by first | rfl | (simp; done) | (simp [*]; done)), H', ⟨by have := HK1.out; omega⟩, ⟨by (with_reducible repeat (first | apply Kd.aY | apply Kd.aZ | apply Kd.bA)); exact Kd.bK HO184.out (fun _ hk => trivial)⟩, ⟨by repeat (first | (with_reducible first | exact HB.out | apply aH | apply aC | apply aG) | exact HB.out)⟩⟩
     ·rw [if_neg c8] at H
      exact absurd H (by simp)
    ·rw [if_neg c7] at H
     have c7b0 : decide (x6_1 < (l1.length : Int)) = false := decide_eq_false c7
     clear c7
     obtain rfl := Option.some.inj H
     go_wp2
     go_ret
     exact ⟨_, by first | rfl | (simp [errW_none, errW_some] <;> rfl) | (simp [*, errW_none, errW_some] <;> rfl), by (with_reducible repeat (first | apply Kd.aY | apply Kd.aZ | apply Kd.bA)); exact HO_5.out, by repeat (first | (with_reducible first | exact HB.out | apply aH | apply aC | apply aG) | exact HB.out)⟩
 ·rw [if_neg c3] at H
  exact absurd H (by simp)
def spec_NodeKeys.l0 : Nat → List (S38) → Int → List (List (S38)) → Option ((List (S38)))
 | 0, _, _, _ => none
 | k + 1, x3, x4, x186000 => if x4 < (x186000.length : Int) then (if 0 ≤ x4 then ((spec_MergeSets.f k x3 (rd_L6 x186000 x4)).bind fun t190 => (spec_NodeKeys.l0 k t190 (wrap64 (x4 + 1)) x186000)) else (none)) else ((spec_Drop.f k x3).bind fun t193 => (some t193))
def spec_NodeKeys.f (k : Nat) (l0_0 : List (List (S38))) : Option ((List (S38))) := spec_NodeKeys.l0 k (([] : List (S38))) 0 l0_0
set_option maxHeartbeats 8000000 in
set_option maxRecDepth 100000 in
theorem spec_NodeKeys.calls (k : Nat) (A0_0 : Option Addr) (c0_0 : Nat) (l0_0 : List (List (S38))) (r : List (S38)) (w : World) (hr0_0 : Kd.C (Kd.slice 38 k38) w A0_0 l0_0.length l0_0) (hc0_0 : l0_0.length ≤ c0_0) (h : spec_NodeKeys.f k l0_0 = some r) :
  Calls Try.prog 54 #[.agg #[.slice A0_0 l0_0.length c0_0]] w fun e w' => ∃ v0_ : Value, e = .returned (v0_) ∧ Kd.R k38 38 w' w.heap.size (fun _ => True) v0_ r ∧ Below w.heap.size w w' := by
 have hu59 := Try.underlying59
 have HR0_0 := aA.mk hr0_0
 have HC0_0 := aA.mk hc0_0
 clear hr0_0 hc0_0
 have HB := aA.mk (Below.refl w.heap.size w)
 have H : (spec_NodeKeys.l0 k (([] : List (S38))) 0 l0_0) = some r := h
 clear h
 obtain ⟨y186, hy186⟩ : ∃ y_ : List (S38), y_ = (([] : List (S38))) := ⟨_, rfl⟩
 replace H : (spec_NodeKeys.l0 k y186 0 l0_0) = some r := by first | (rw [hy186]; with_reducible exact H) | (have H2_ := (Option.bind_some _ _).symm.trans H; rw [hy186]; with_reducible exact H2_) | (have H2_ := (Option.bind_some _ _).symm.trans H; with_reducible exact H2_) | with_reducible exact H | (rw [hy186]; exact H) | exact H
 have Ny186 := aA.mk hy186
 clear hy186
 have H' := aA.mk H
 clear H
 go_enter Try.func54, Try.ntmps54
 go_wp2_with (first | ((with_reducible refine aW (N := 1) rfl ?_); refine aX ?hg (N := 1) ?hd (cs := #[.slice A0_0 l0_0.length c0_0]) (t := 59) ?hr ?_; (case hd => rfl); (case hg => rfl); (case hr => first | (go_simp; done) | (go_simp; rfl)); intro gb185 hg w2 hbox hb; have n0_ := aA.mk (aU (by repeat (first | (with_reducible first | exact HB.out | apply aH | apply aC | apply aG) | exact HB.out)) hb); have n1_ := aA.mk (hbox); have n2_ := aA.mk ((by rw [hg]; exact (aT (by repeat (first | (with_reducible first | exact HB.out | apply aH | apply aC | apply aG) | exact HB.out))) : w.heap.size ≤ gb185)); have n3_ := aA.mk ((by rw [hg]; exact (aT (by repeat (first | (with_reducible first | exact HB.out | apply aH | apply aC | apply aG) | exact HB.out))) : w.heap.size ≤ gb185)); clear HB; have HB := n0_; have BK185 := n1_; have GW185 := n2_; have GE185 := n3_; clear n0_ n1_ n2_ n3_; clear hb hbox hg) | ((with_reducible refine aW (N := 5) rfl ?_); refine Kd.R_lit k38 _ 38 ?hg (N := 5) ?hd (xs := ([] : List (S38))) (inner := []) (ok := fun _ => True) (okp := fun _ => True) ?hr ?hp (fun _ hk => hk) trivial (Below.refl _ _) (Nat.le_refl _) (by simp) ?_; (case hd => rfl); (case hg => rfl); (case hr => first | (go_simp; done) | (go_simp; rfl)); (case hp => exact (Reps.none _ _)); intro v187 w3 ho4 hb hg_ hnew_; clear hg_ hnew_; (first | rw [← Ny186.out] at ho4 | (simp only [Int.reduceToNat] at ho4; rw [← Ny186.out] at ho4)); have n0_ := aA.mk (Kd.R_lower ho4 (aT (by repeat (first | (with_reducible first | exact HB.out | apply aH | apply aC | apply aG | refine aJ ?_ GE185.out) | exact HB.out)))); have n1_ := aA.mk (aV (g := gb185) (o := .cells #[.slice A0_0 l0_0.length c0_0] 59 (0, 0)) (by (with_reducible repeat (first | refine aN ?_ _ | refine aQ ?_ | refine aM ?_ _)); exact BK185.out) hb); have n2_ := aA.mk (aU (by repeat (first | (with_reducible first | exact HB.out | apply aH | apply aC | apply aG | refine aJ ?_ GE185.out) | exact HB.out)) hb); clear BK185; clear HB; have HO188 := n0_; have BK185 := n1_; have HB := n2_; clear n0_ n1_ n2_; clear hb ho4))
 go_loopg [3, 4] k (fun kq v3 v4 w' => ∃ (x3_1 : List (S38)) (x4_1 : Int), v4 = .int .i64 x4_1 ∧ aA (spec_NodeKeys.l0 kq x3_1 x4_1 l0_0 = some r) ∧ aA (kq ≤ k) ∧ aA (Kd.R k38 38 w' w.heap.size (fun _ => True) v3 x3_1) ∧ aA (w'.heap[gb185]? = some (.cells #[(.slice A0_0 l0_0.length c0_0)] 59 (0, 0))) ∧ aA (Below w.heap.size w w'))
 case atStart => exact ⟨(y186), (0), (by first | rfl | (simp; done) | (simp [*]; done)), H', ⟨Nat.le_refl _⟩, ⟨by (with_reducible repeat (first | apply Kd.aY | apply Kd.aZ | apply Kd.bA)); exact HO188.out⟩, ⟨by (with_reducible repeat (first | refine aN ?_ _ | refine aQ ?_ | refine aM ?_ _)); exact BK185.out⟩, ⟨by repeat (first | (with_reducible first | exact HB.out | apply aH | apply aC | apply aG | refine aJ ?_ GE185.out) | exact HB.out)⟩⟩
 case round =>
  clear H'
  try clear p2
  obtain ⟨x3_1, x4_1, rfl, HA, HK1, HO_3, BK185, HB⟩ := hrel
  cases gk with
  | zero => exact absurd HA.out (by simp [spec_NodeKeys.l0])
  | succ k1 =>
   have H := HA.out
   clear HA
   simp only [spec_NodeKeys.l0] at H
   by_cases c5 : x4_1 < (l0_0.length : Int)
   ·rw [if_pos c5] at H
    have c5b0 : decide (x4_1 < (l0_0.length : Int)) = true := decide_eq_true c5
    clear c5
    by_cases c6 : 0 ≤ x4_1
    ·rw [if_pos c6] at H
     have c6b0 : decide (0 ≤ x4_1) = true := decide_eq_true c6
     clear c6
     replace H := lF H
     obtain ⟨t190, A70, H⟩ := H
     replace H : (spec_NodeKeys.l0 k1 t190 (wrap64 (x4_1 + 1)) l0_0) = some r := H
     have A7 := aA.mk A70
     clear A70
     have H' := aA.mk H
     clear H
     have hcz8_0 : wr.cell? ⟨gb185, 0, none⟩ = some (.slice A0_0 l0_0.length c0_0) := (aE BK185.out 0).trans rfl
     have hfz8_0 := aD BK185.out 0
     have p189 : 0 ≤ (x4_1 : Int) := lE (by first | (with_reducible assumption) | assumption)
     have q189 : x4_1 < (l0_0.length : Int) := lE (by first | (with_reducible assumption) | assumption)
     obtain ⟨ad189, A189_0, c189_0, e189, hx189_0, hl189_0, hi189_0⟩ := at_L6 HR0_0.out x4_1 p189 q189
     cases e189
     replace hx189_0 := (HB.out.cell (lD w _ hx189_0)).trans hx189_0
     have HR189_0 := aA.mk hi189_0
     have HC189_0 := aA.mk hl189_0
     clear hi189_0 hl189_0
     replace p189 := eq_true p189
     replace q189 := eq_true q189
     obtain ⟨Ao9, co9, eo9⟩ := Kd.R_slice HO_3.out
     subst eo9
     go_wp2_with (first | ((with_reducible refine bB (f := 87) rfl ?_); refine bP (some 19) rfl rfl Try.func87 (by kernel_rfl) rfl #[.slice Ao9 x3_1.length co9, .slice A189_0 (rd_L6 l0_0 x4_1).length c189_0] rfl (by (try simp only [List.map_toArray, List.map_cons, List.map_nil]); first | done | rfl | (simp only [List.length_drop, List.length_take]; rfl)) ?_; (with_reducible refine (spec_MergeSets.calls k1 _ _ x3_1 _ _ (rd_L6 l0_0 x4_1) t190 _ ?side1 ?side2 ?side3 ?side4 A7.out).mono ?_); (case side1 => repeat (first | exact (Kd.R_reads' HO_3.out).2.2 | (with_reducible refine Kd.bM ?_ _) | (with_reducible refine Kd.bN ?_ _) | (with_reducible refine Kd.bR ?_))); (case side2 => exact (Kd.R_reads' HO_3.out).2.1); (case side3 => repeat (first | exact (Kd.bJ HR189_0.out HB.out) | (with_reducible refine Kd.bM ?_ _) | (with_reducible refine Kd.bN ?_ _) | (with_reducible refine Kd.bR ?_))); (case side4 => exact HC189_0.out); rintro e w10 ⟨v191, rfl, ho0, hb⟩; refine ⟨_, rfl, ?_⟩; have n0_ := aA.mk (Kd.R_elder' (by (with_reducible repeat (first | apply Kd.aY | apply Kd.aZ | apply Kd.bA)); exact HO_3.out) (Kd.R_base ho0) hb); have n1_ := aA.mk (Kd.R_lower (Kd.R_new' ho0 (Kd.R_lt (by (with_reducible repeat (first | apply Kd.aY | apply Kd.aZ | apply Kd.bA)); exact HO_3.out))) (aT (by repeat (first | (with_reducible first | exact HB.out | apply aH | apply aC | apply aG | refine aJ ?_ GE185.out) | exact HB.out)))); have n2_ := aA.mk (aV (g := gb185) (o := .cells #[.slice (some ad189) l0_0.length c0_0] 59 (0, 0)) (by (with_reducible repeat (first | refine aN ?_ _ | refine aQ ?_ | refine aM ?_ _)); exact BK185.out) hb); have n3_ := aA.mk (aU (by repeat (first | (with_reducible first | exact HB.out | apply aH | apply aC | apply aG | refine aJ ?_ GE185.out) | exact HB.out)) hb); clear HO_3; clear BK185; clear HB; have HO_3 := n0_; have HO192 := n1_; have BK185 := n2_; have HB := n3_; clear n0_ n1_ n2_ n3_; (try clear hb); (try clear ho0)))
     go_roundg k1
     case measure => have := HK1.out; omega
     case rel => exact ⟨(t190), (wrap64 (x4_1 + 1)), (by first | rfl | (simp; done) | (simp [*]; done)), H', ⟨by have := HK1.out; omega⟩, ⟨by (with_reducible repeat (first | apply Kd.aY | apply Kd.aZ | apply Kd.bA)); exact Kd.bK HO192.out (fun _ hk => trivial)⟩, ⟨by (with_reducible repeat (first | refine aN ?_ _ | refine aQ ?_ | refine aM ?_ _)); exact BK185.out⟩, ⟨by repeat (first | (with_reducible first | exact HB.out | apply aH | apply aC | apply aG | refine aJ ?_ GE185.out) | exact HB.out)⟩⟩
    ·rw [if_neg c6] at H
     exact absurd H (by simp)
   ·rw [if_neg c5] at H
    have c5b0 : decide (x4_1 < (l0_0.length : Int)) = false := decide_eq_false c5
    clear c5
    replace H := lF H
    obtain ⟨t193, A110, H⟩ := H
    replace H : (some t193) = some r := H
    have A11 := aA.mk A110
    clear A110
    obtain rfl := Option.some.inj H
    have hcz12_0 : wr.cell? ⟨gb185, 0, none⟩ = some (.slice A0_0 l0_0.length c0_0) := (aE BK185.out 0).trans rfl
    have hfz12_0 := aD BK185.out 0
    obtain ⟨Ao13, co13, eo13⟩ := Kd.R_slice HO_3.out
    subst eo13
    go_wp2_with (first | ((with_reducible refine bB (f := 52) rfl ?_); refine bP (some 21) rfl rfl Try.func52 (by kernel_rfl) rfl #[.slice Ao13 x3_1.length co13] rfl (by (try simp only [List.map_toArray, List.map_cons, List.map_nil]); first | done | rfl | (simp only [List.length_drop, List.length_take]; rfl)) ?_; (with_reducible refine (spec_Drop.calls k1 _ _ x3_1 t193 _ ?side1 ?side2 A11.out).mono ?_); (case side1 => repeat (first | exact (Kd.R_reads' HO_3.out).2.2 | (with_reducible refine Kd.bM ?_ _) | (with_reducible refine Kd.bN ?_ _) | (with_reducible refine Kd.bR ?_))); (case side2 => exact (Kd.R_reads' HO_3.out).2.1); rintro e w14 ⟨v194, rfl, ho0, hb⟩; refine ⟨_, rfl, ?_⟩; have n0_ := aA.mk (Kd.R_elder' (by (with_reducible repeat (first | apply Kd.aY | apply Kd.aZ | apply Kd.bA)); exact HO_3.out) (Kd.R_base ho0) hb); have n1_ := aA.mk (Kd.R_lower (Kd.R_new' ho0 (Kd.R_lt (by (with_reducible repeat (first | apply Kd.aY | apply Kd.aZ | apply Kd.bA)); exact HO_3.out))) (aT (by repeat (first | (with_reducible first | exact HB.out | apply aH | apply aC | apply aG | refine aJ ?_ GE185.out) | exact HB.out)))); have n2_ := aA.mk (aV (g := gb185) (o := .cells #[.slice A0_0 l0_0.length c0_0] 59 (0, 0)) (by (with_reducible repeat (first | refine aN ?_ _ | refine aQ ?_ | refine aM ?_ _)); exact BK185.out) hb); have n3_ := aA.mk (aU (by repeat (first | (with_reducible first | exact HB.out | apply aH | apply aC | apply aG | refine aJ ?_ GE185.out) | exact HB.out)) hb); clear HO_3; clear BK185; clear HB; have HO_3 := n0_; have HO195 := n1_; have BK185 := n2_; have HB := n3_; clear n0_ n1_ n2_ n3_; (try clear hb); (try clear ho0)))
    go_ret
    exact ⟨_, by first | rfl | (simp [errW_none, errW_some] <;> rfl) | (simp [*, errW_none, errW_some] <;> rfl), by (with_reducible repeat (first | apply Kd.aY | apply Kd.aZ | apply Kd.bA)); exact Kd.bK HO195.out (fun _ hk => trivial), by repeat (first | (with_reducible first | exact HB.out | apply aH | apply aC | apply aG | refine aJ ?_ GE185.out) | exact HB.out)⟩
def spec_NodeNew.f (l0 : List (S38)) : Option ((List (List (S38)))) := if (l0.length : Int) = 0 then (some ([] : List (List (S38)))) else ((some (([] : List (S38)) : List (S38))).bind fun y197 => (if y197.length + l0.length < 3518437208883 then (some (([(y197 ++ l0)] : List (List (S38))))) else (none)))
set_option maxHeartbeats 8000000 in
set_option maxRecDepth 100000 in
theorem spec_NodeNew.calls (A0 : Option Addr) (c0 : Nat) (l0 : List (S38)) (r : List (List (S38))) (w : World) (hr0 : Kd.C k38 w A0 l0.length l0) (hc0 : l0.length ≤ c0) (h : spec_NodeNew.f l0 = some r) :
  Calls Try.prog 56 #[.slice A0 l0.length c0] w fun e w' => ∃ v0_ : Value, e = .returned (.agg #[v0_]) ∧ Kd.N (Kd.slice 38 k38) 45 w' w.heap.size (fun k_ => (w.heap.size ≤ k_)) v0_ r ∧ Below w.heap.size w w' := by
 have hu59 := Try.underlying59
 have HR0 := aA.mk hr0
 have HC0 := aA.mk hc0
 clear hr0 hc0
 have HB := aA.mk (Below.refl w.heap.size w)
 have H : (if (l0.length : Int) = 0 then (some ([] : List (List (S38)))) else ((some (([] : List (S38)) : List (S38))).bind fun y197 => (if y197.length + l0.length < 3518437208883 then (some (([(y197 ++ l0)] : List (List (S38))))) else (none)))) = some r := h
 clear h
 by_cases c2 : (l0.length : Int) = 0
 ·rw [if_pos c2] at H
  have c2b0 : ((l0.length : Int) == 0) = true := beq_iff_eq.mpr c2
  have c2b1 : ((l0.length : Int) != 0) = false := bne_eq_false_iff_eq.mpr c2
  clear c2
  obtain rfl := Option.some.inj H
  go_enter Try.func56, Try.ntmps56
  go_wp2_with (first | ((with_reducible refine aW (N := 2) rfl ?_); refine aX ?hg (N := 2) ?hd (cs := #[.slice none 0 0]) (t := 59) ?hr ?_; (case hd => rfl); (case hg => rfl); (case hr => first | (go_simp; done) | (go_simp; rfl)); intro gb196 hg w3 hbox hb; have n0_ := aA.mk (aU (by repeat (first | (with_reducible first | exact HB.out | apply aH | apply aC | apply aG) | exact HB.out)) hb); have n1_ := aA.mk (hbox); have n2_ := aA.mk ((by rw [hg]; exact (aT (by repeat (first | (with_reducible first | exact HB.out | apply aH | apply aC | apply aG) | exact HB.out))) : w.heap.size ≤ gb196)); have n3_ := aA.mk ((by rw [hg]; exact (aT (by repeat (first | (with_reducible first | exact HB.out | apply aH | apply aC | apply aG) | exact HB.out))) : w.heap.size ≤ gb196)); clear HB; have HB := n0_; have BK196 := n1_; have GW196 := n2_; have GE196 := n3_; clear n0_ n1_ n2_ n3_; clear hb hbox hg; have hcz4_0 : w3.cell? ⟨gb196, 0, none⟩ = some (.slice none 0 0) := (aE BK196.out 0).trans rfl; have hfz4_0 := aD BK196.out 0))
  refine bodyPost_ret (results_cell_row rfl _ _ gb196 59 #[.slice none 0 0] (0, 0) _ rfl (by (with_reducible repeat (first | refine aN ?_ _ | refine aQ ?_ | refine aM ?_ _)); refine bG (cs := #[.slice none 0 0]) ?_ 0 _ rfl; (with_reducible repeat (first | refine aN ?_ _ | refine aQ ?_ | refine aM ?_ _)); exact BK196.out) Try.underlying59 rfl (by kernel_rfl)) rfl ?_
  exact ⟨_, by first | rfl | (simp [errW_none, errW_some] <;> rfl) | (simp [*, errW_none, errW_some] <;> rfl), by first | exact Kd.S_nil _ _ _ _ _ | exact Kd.N_nil _ _ _ _ _ | exact Kd.V_nil _ _ _ _ _ | exact Kd.Q_nil _ _ _ _ _ | exact Kd.R_nil _ _ _ _ _, by repeat (first | (with_reducible first | exact HB.out | apply aH | apply aC | apply aG | refine aJ ?_ GE196.out) | exact HB.out)⟩
 ·rw [if_neg c2] at H
  have c2b0 : ((l0.length : Int) == 0) = false := beq_eq_false_iff_ne.mpr c2
  have c2b1 : ((l0.length : Int) != 0) = true := bne_iff_ne.mpr c2
  have c2b2 : ¬ (l0 = []) := fun h_ => c2 (by rw [h_]; rfl)
  obtain ⟨y197, hy197⟩ : ∃ y_ : List (S38), y_ = (([] : List (S38))) := ⟨_, rfl⟩
  replace H : (if y197.length + l0.length < 3518437208883 then (some (([(y197 ++ l0)] : List (List (S38))))) else (none)) = some r := by first | (rw [hy197]; with_reducible exact H) | (have H2_ := (Option.bind_some _ _).symm.trans H; rw [hy197]; with_reducible exact H2_) | (have H2_ := (Option.bind_some _ _).symm.trans H; with_reducible exact H2_) | with_reducible exact H | (rw [hy197]; exact H) | exact H
  have Ny197 := aA.mk hy197
  clear hy197
  by_cases c5 : y197.length + l0.length < 3518437208883
  ·rw [if_pos c5] at H
   have LMc5 := aA.mk c5
   clear c5
   obtain ⟨y200, hy200⟩ : ∃ y_ : List (S38), y_ = (y197 ++ l0) := ⟨_, rfl⟩
   replace H : (some (([y200] : List (List (S38))))) = some r := by first | (rw [hy200]; with_reducible exact H) | (have H2_ := (Option.bind_some _ _).symm.trans H; rw [hy200]; with_reducible exact H2_) | (have H2_ := (Option.bind_some _ _).symm.trans H; with_reducible exact H2_) | with_reducible exact H | (rw [hy200]; exact H) | exact H
   have Ny200 := aA.mk hy200
   clear hy200
   obtain ⟨y203, hy203⟩ : ∃ y_ : List (List (S38)), y_ = (([y200] : List (List (S38)))) := ⟨_, rfl⟩
   replace H : (some y203) = some r := by first | (rw [hy203]; with_reducible exact H) | (have H2_ := (Option.bind_some _ _).symm.trans H; rw [hy203]; with_reducible exact H2_) | (have H2_ := (Option.bind_some _ _).symm.trans H; with_reducible exact H2_) | with_reducible exact H | (rw [hy203]; exact H) | exact H
   have Ny203 := aA.mk hy203
   clear hy203
   obtain rfl := Option.some.inj H
   go_enter Try.func56, Try.ntmps56
   go_wp2_with (first | ((with_reducible refine aW (N := 2) rfl ?_); refine aX ?hg (N := 2) ?hd (cs := #[.slice none 0 0]) (t := 59) ?hr ?_; (case hd => rfl); (case hg => rfl); (case hr => first | (go_simp; done) | (go_simp; rfl)); intro gb196 hg w6 hbox hb; have n0_ := aA.mk (aU (by repeat (first | (with_reducible first | exact HB.out | apply aH | apply aC | apply aG) | exact HB.out)) hb); have n1_ := aA.mk (hbox); have n2_ := aA.mk ((by rw [hg]; exact (aT (by repeat (first | (with_reducible first | exact HB.out | apply aH | apply aC | apply aG) | exact HB.out))) : w.heap.size ≤ gb196)); have n3_ := aA.mk ((by rw [hg]; exact (aT (by repeat (first | (with_reducible first | exact HB.out | apply aH | apply aC | apply aG) | exact HB.out))) : w.heap.size ≤ gb196)); clear HB; have HB := n0_; have BK196 := n1_; have GW196 := n2_; have GE196 := n3_; clear n0_ n1_ n2_ n3_; clear hb hbox hg) | ((with_reducible refine aW (N := 7) rfl ?_); refine Kd.R_lit k38 _ 38 ?hg (N := 7) ?hd (xs := ([] : List (S38))) (inner := []) (ok := fun _ => True) (okp := fun _ => True) ?hr ?hp (fun _ hk => hk) trivial (Below.refl _ _) (Nat.le_refl _) (by simp) ?_; (case hd => rfl); (case hg => rfl); (case hr => first | (go_simp; done) | (go_simp; rfl)); (case hp => exact (Reps.none _ _)); intro v198 w7 ho8 hb hg_ hnew_; clear hg_ hnew_; (first | rw [← Ny197.out] at ho8 | (simp only [Int.reduceToNat] at ho8; rw [← Ny197.out] at ho8)); have n0_ := aA.mk (Kd.R_lower (Kd.R_newM (M := fun k_ => (w.heap.size ≤ k_)) ho8 (aT (by repeat (first | (with_reducible first | exact HB.out | apply aH | apply aC | apply aG | refine aJ ?_ GE196.out) | exact HB.out))) (fun k_ h_ => h_)) (aT (by repeat (first | (with_reducible first | exact HB.out | apply aH | apply aC | apply aG | refine aJ ?_ GE196.out) | exact HB.out)))); have n1_ := aA.mk (aV (g := gb196) (o := .cells #[.slice none 0 0] 59 (0, 0)) (by (with_reducible repeat (first | refine aN ?_ _ | refine aQ ?_ | refine aM ?_ _)); exact BK196.out) hb); have n2_ := aA.mk (aU (by repeat (first | (with_reducible first | exact HB.out | apply aH | apply aC | apply aG | refine aJ ?_ GE196.out) | exact HB.out)) hb); clear BK196; clear HB; have HO199 := n0_; have BK196 := n1_; have HB := n2_; clear n0_ n1_ n2_; clear hb ho8) | ((with_reducible refine gate_builtin (b := .append) (xs := #[.tmp 7, .tmp 8]) rfl ?_); at_builtin; refine Kd.R_append_rows k38 (w0 := w) w.heap.size rfl (.tmp 7) (.tmp 8) 45 38 (.agg #[(.int .i64 0), (.int .i64 0), (.int .i64 0), (.int .i64 0), (.int .i64 0)]) 40 rfl Try.underlying45 info38 rfl (by decide) (by omega) v198 y197 l0 _ _ _ (fun k_ => (w.heap.size ≤ k_)) (fun _ => False) rfl rfl ?aO ?aR (fun _ _ h => h) (fun _ h => h.elim) ?aF ?aB ?aS ?aL ?_; (case aR => repeat (first | exact (Kd.bJ HR0.out HB.out) | (with_reducible refine Kd.bM ?_ _) | (with_reducible refine Kd.bN ?_ _) | (with_reducible refine Kd.bR ?_))); (case aB => exact (by repeat (first | (with_reducible first | exact HB.out | apply aH | apply aC | apply aG | refine aJ ?_ GE196.out) | exact HB.out))); (case aF => exact (fun k_ hk => (Nat.le_trans (aT (by repeat (first | (with_reducible first | exact HB.out | apply aH | apply aC | apply aG | refine aJ ?_ GE196.out) | exact HB.out))) hk))); (case aO => exact (by (with_reducible repeat (first | apply Kd.aY | apply Kd.aZ | apply Kd.bA)); exact Kd.bK HO199.out (fun _ hk => hk.1))); (case aS => exact (aT (by repeat (first | (with_reducible first | exact HB.out | apply aH | apply aC | apply aG | refine aJ ?_ GE196.out) | exact HB.out)))); (case aL => have := LMc5.out; omega); intro v201 w9 ho hb hg hat; rw [← Ny200.out] at ho; have n0_ := aA.mk (blk_grown (g := gb196) (o := .cells #[.slice none 0 0] 59 (0, 0)) (by (with_reducible repeat (first | refine aN ?_ _ | refine aQ ?_ | refine aM ?_ _)); exact BK196.out) hg (Kd.R_ne HO199.out BK196.out (by decide))); have n1_ := aA.mk (hb); have n2_ := aA.mk (ho); clear BK196; clear HB; clear HO199; have BK196 := n0_; have HB := n1_; have HO202 := n2_; clear n0_ n1_ n2_; clear ho hb hg hat; obtain ⟨Ao10, co10, eo10⟩ := Kd.R_slice HO202.out; subst eo10) | ((with_reducible refine aW (N := 10) rfl ?_); refine Kd.N_lit (Kd.slice 38 k38) _ 45 ?hg (N' := 10) ?hd (xs := ([y200] : List (List (S38)))) (inner := [.slice Ao10 y200.length co10]) (ok := (fun k_ => (w.heap.size ≤ k_) ∧ k_ ≠ gb196)) (okp := (fun k_ => (w.heap.size ≤ k_) ∧ k_ ≠ gb196)) ?hr ?hp (fun _ hk => hk) ((show ∀ k_, w9.heap.size ≤ k_ → (fun k_ => (w.heap.size ≤ k_) ∧ k_ ≠ gb196) k_ from fun k_ hk => ⟨(Nat.le_trans (aT (by repeat (first | (with_reducible first | exact HB.out | apply aH | apply aC | apply aG | refine aJ ?_ GE196.out) | exact HB.out))) hk), Kd.freshB (g := gb196) (o := .cells #[.slice none 0 0] 59 (0, 0)) (by (with_reducible repeat (first | refine aN ?_ _ | refine aQ ?_ | refine aM ?_ _)); exact BK196.out) k_ hk⟩) _ (Nat.le_refl _)) (Below.refl _ _) (Nat.le_refl _) (by simp) ?_; (case hd => rfl); (case hg => rfl); (case hr => first | (go_simp; done) | (go_simp; rfl)); (case hp => exact (Reps.one (show Kd.FK (Kd.slice 38 k38) _ _ y200 [.slice Ao10 y200.length co10] from (Kd.FK_slice_mk (Kd.R_reads' (Kd.bK (ok' := (fun k_ => (w.heap.size ≤ k_) ∧ k_ ≠ gb196)) (Kd.R_types (HO202.out) BK196.out (by decide)) (fun k_ hk => ⟨hk.1, hk.2⟩))).2.1 (Kd.R_F (Kd.bK (ok' := (fun k_ => (w.heap.size ≤ k_) ∧ k_ ≠ gb196)) (Kd.R_types (HO202.out) BK196.out (by decide)) (fun k_ hk => ⟨hk.1, hk.2⟩))))) (Reps.none _ _))); intro v204 w11 ho12 hb hg_ hnew_; clear hg_ hnew_; (first | rw [← Ny203.out] at ho12 | (simp only [Int.reduceToNat] at ho12; rw [← Ny203.out] at ho12)); have n0_ := aA.mk (Kd.N_lower ho12 (aT (by repeat (first | (with_reducible first | exact HB.out | apply aH | apply aC | apply aG | refine aJ ?_ GE196.out) | exact HB.out)))); have n1_ := aA.mk (aV (g := gb196) (o := .cells #[.slice none 0 0] 59 (0, 0)) (by (with_reducible repeat (first | refine aN ?_ _ | refine aQ ?_ | refine aM ?_ _)); exact BK196.out) hb); have n2_ := aA.mk (aU (by repeat (first | (with_reducible first | exact HB.out | apply aH | apply aC | apply aG | refine aJ ?_ GE196.out) | exact HB.out)) hb); clear BK196; clear HB; clear HO202; have HO205 := n0_; have BK196 := n1_; have HB := n2_; clear n0_ n1_ n2_; clear hb ho12; obtain ⟨Ao13, co13, eo13⟩ := Kd.N_slice HO205.out; subst eo13; have hcz14_0 : w11.cell? ⟨gb196, 0, none⟩ = some (.slice none 0 0) := (aE BK196.out 0).trans rfl; have hfz14_0 := aD BK196.out 0))
   refine bodyPost_ret (results_cell_row rfl _ _ gb196 59 #[.slice Ao13 y203.length co13] (0, 0) _ rfl (by (with_reducible repeat (first | refine aN ?_ _ | refine aQ ?_ | refine aM ?_ _)); refine bG (cs := #[.slice none 0 0]) ?_ 0 _ rfl; (with_reducible repeat (first | refine aN ?_ _ | refine aQ ?_ | refine aM ?_ _)); exact BK196.out) Try.underlying59 rfl (by kernel_rfl)) rfl ?_
   exact ⟨_, by first | rfl | (simp [errW_none, errW_some] <;> rfl) | (simp [*, errW_none, errW_some] <;> rfl), by (with_reducible repeat (first | apply Kd.N_alloc | apply Kd.N_drewN | apply Kd.N_drew)); exact Kd.N_mono (Kd.N_far (p := ⟨gb196, 0, none⟩) (Kd.N_mono HO205.out (fun k_ hk => (⟨hk, hk.2⟩ : _ ∧ k_ ≠ gb196))) (fun _ hk => hk.2) (.slice Ao13 y203.length co13)) (fun _ hk => hk.1.1), by repeat (first | (with_reducible first | exact HB.out | apply aH | apply aC | apply aG | refine aJ ?_ GE196.out) | exact HB.out)⟩
  ·rw [if_neg c5] at H
   exact absurd H (by simp)
def spec_NodePack.f (k : Nat) (l0_0 : List (List (S38))) : Option ((List (List (S38)))) := (spec_NodeKeys.f k l0_0).bind fun t208 => ((spec_NodeNew.f t208).bind fun t211 => (some t211))
set_option maxHeartbeats 8000000 in
set_option maxRecDepth 100000 in
theorem spec_NodePack.calls (k : Nat) (A0_0 : Option Addr) (c0_0 : Nat) (l0_0 : List (List (S38))) (r : List (List (S38))) (w : World) (hr0_0 : Kd.C (Kd.slice 38 k38) w A0_0 l0_0.length l0_0) (hc0_0 : l0_0.length ≤ c0_0) (h : spec_NodePack.f k l0_0 = some r) :
  Calls Try.prog 28 #[.agg #[.slice A0_0 l0_0.length c0_0]] w fun e w' => ∃ v0_ : Value, e = .returned (.agg #[v0_]) ∧ Kd.N (Kd.slice 38 k38) 45 w' w.heap.size (fun k_ => (w.heap.size ≤ k_)) v0_ r ∧ Below w.heap.size w w' := by
 have hu59 := Try.underlying59
 have HR0_0 := aA.mk hr0_0
 have HC0_0 := aA.mk hc0_0
 clear hr0_0 hc0_0
 have HB := aA.mk (Below.refl w.heap.size w)
 have H : ((spec_NodeKeys.f k l0_0).bind fun t208 => ((spec_NodeNew.f t208).bind fun t211 => (some t211))) = some r := h
 clear h
 replace H := lF H
 obtain ⟨t208, A20, H⟩ := H
 replace H : ((spec_NodeNew.f t208).bind fun t211 => (some t211)) = some r := H
 have A2 := aA.mk A20
 clear A20
 replace H := lF H
 obtain ⟨t211, A30, H⟩ := H
 replace H : (some t211) = some r := H
 have A3 := aA.mk A30
 clear A30
 obtain rfl := Option.some.inj H
 go_enter Try.func28, Try.ntmps28
 go_wp2_with (first | ((with_reducible refine aW (N := 1) rfl ?_); refine aX ?hg (N := 1) ?hd (cs := #[.slice A0_0 l0_0.length c0_0]) (t := 59) ?hr ?_; (case hd => rfl); (case hg => rfl); (case hr => first | (go_simp; done) | (go_simp; rfl)); intro gb206 hg w4 hbox hb; have n0_ := aA.mk (aU (by repeat (first | (with_reducible first | exact HB.out | apply aH | apply aC | apply aG) | exact HB.out)) hb); have n1_ := aA.mk (hbox); have n2_ := aA.mk ((by rw [hg]; exact (aT (by repeat (first | (with_reducible first | exact HB.out | apply aH | apply aC | apply aG) | exact HB.out))) : w.heap.size ≤ gb206)); have n3_ := aA.mk ((by rw [hg]; exact (aT (by repeat (first | (with_reducible first | exact HB.out | apply aH | apply aC | apply aG) | exact HB.out))) : w.heap.size ≤ gb206)); clear HB; have HB := n0_; have BK206 := n1_; have GW206 := n2_; have GE206 := n3_; clear n0_ n1_ n2_ n3_; clear hb hbox hg) | ((with_reducible refine aW (N := 2) rfl ?_); refine aX ?hg (N := 2) ?hd (cs := #[.slice none 0 0]) (t := 59) ?hr ?_; (case hd => rfl); (case hg => rfl); (case hr => first | (go_simp; done) | (go_simp; rfl)); intro gb207 hg w5 hbox hb; have n0_ := aA.mk (aV (g := gb206) (o := .cells #[.slice A0_0 l0_0.length c0_0] 59 (0, 0)) (by (with_reducible repeat (first | refine aN ?_ _ | refine aQ ?_ | refine aM ?_ _)); exact BK206.out) hb); have n1_ := aA.mk (aU (by repeat (first | (with_reducible first | exact HB.out | apply aH | apply aC | apply aG | refine aJ ?_ GE206.out) | exact HB.out)) hb); have n2_ := aA.mk (hbox); have n3_ := aA.mk ((by rw [hg]; exact (aT (by repeat (first | (with_reducible first | exact HB.out | apply aH | apply aC | apply aG | refine aJ ?_ GE206.out) | exact HB.out))) : w.heap.size ≤ gb207)); have n4_ := aA.mk ((by rw [hg]; exact (aT (by repeat (first | (with_reducible first | exact HB.out | apply aH | apply aC | apply aG | refine aJ ?_ GE206.out) | exact HB.out))) : w.heap.size ≤ gb207)); have n5_ := aA.mk ((by rw [hg]; exact Nat.ne_of_lt (bF (g := gb206) (o := .cells #[.slice A0_0 l0_0.length c0_0] 59 (0, 0)) (by (with_reducible repeat (first | refine aN ?_ _ | refine aQ ?_ | refine aM ?_ _)); exact BK206.out)) : gb206 ≠ gb207)); have n6_ := aA.mk ((by rw [hg]; exact Nat.ne_of_gt (bF (g := gb206) (o := .cells #[.slice A0_0 l0_0.length c0_0] 59 (0, 0)) (by (with_reducible repeat (first | refine aN ?_ _ | refine aQ ?_ | refine aM ?_ _)); exact BK206.out)) : gb207 ≠ gb206)); clear BK206; clear HB; have BK206 := n0_; have HB := n1_; have BK207 := n2_; have GW207 := n3_; have GE207 := n4_; have NB206_207 := n5_; have NB207_206 := n6_; clear n0_ n1_ n2_ n3_ n4_ n5_ n6_; clear hb hbox hg; have hnb6 := NB206_207.out; have hnc6 := NB207_206.out; have hcz7_0 : w5.cell? ⟨gb206, 0, none⟩ = some (.slice A0_0 l0_0.length c0_0) := (aE BK206.out 0).trans rfl; have hfz7_0 := aD BK206.out 0) | ((with_reducible refine bB (f := 54) rfl ?_); refine bP (some 4) rfl rfl Try.func54 (by kernel_rfl) rfl #[.agg #[.slice A0_0 l0_0.length c0_0]] rfl (by (try simp only [List.map_toArray, List.map_cons, List.map_nil]); first | done | rfl | (simp only [List.length_drop, List.length_take]; rfl)) ?_; (with_reducible refine (spec_NodeKeys.calls k _ _ l0_0 t208 _ ?side1 ?side2 A2.out).mono ?_); (case side1 => repeat (first | exact (Kd.bJ HR0_0.out HB.out) | (with_reducible refine Kd.bM ?_ _) | (with_reducible refine Kd.bN ?_ _) | (with_reducible refine Kd.bR ?_))); (case side2 => exact HC0_0.out); rintro e w8 ⟨v209, rfl, ho0, hb⟩; refine ⟨_, rfl, ?_⟩; have n0_ := aA.mk (Kd.R_lower (Kd.R_newM (M := fun k_ => (w.heap.size ≤ k_)) ho0 (aT (by repeat (first | (with_reducible first | exact HB.out | apply aH | apply aC | apply aG | refine aJ ?_ GE206.out | refine aJ ?_ GE207.out) | exact HB.out))) (fun k_ h_ => h_)) (aT (by repeat (first | (with_reducible first | exact HB.out | apply aH | apply aC | apply aG | refine aJ ?_ GE206.out | refine aJ ?_ GE207.out) | exact HB.out)))); have n1_ := aA.mk (aV (g := gb206) (o := .cells #[.slice A0_0 l0_0.length c0_0] 59 (0, 0)) (by (with_reducible repeat (first | refine aN ?_ _ | refine aQ ?_ | refine aM ?_ _)); exact BK206.out) hb); have n2_ := aA.mk (aV (g := gb207) (o := .cells #[.slice none 0 0] 59 (0, 0)) (by (with_reducible repeat (first | refine aN ?_ _ | refine aQ ?_ | refine aM ?_ _)); exact BK207.out) hb); have n3_ := aA.mk (aU (by repeat (first | (with_reducible first | exact HB.out | apply aH | apply aC | apply aG | refine aJ ?_ GE206.out | refine aJ ?_ GE207.out) | exact HB.out)) hb); clear BK206; clear BK207; clear HB; have HO210 := n0_; have BK206 := n1_; have BK207 := n2_; have HB := n3_; clear n0_ n1_ n2_ n3_; (try clear hb); (try clear ho0); obtain ⟨Ao9, co9, eo9⟩ := Kd.R_slice HO210.out; subst eo9) | ((with_reducible refine bB (f := 56) rfl ?_); refine bP (some 5) rfl rfl Try.func56 (by kernel_rfl) rfl #[.slice Ao9 t208.length co9] rfl (by (try simp only [List.map_toArray, List.map_cons, List.map_nil]); first | done | rfl | (simp only [List.length_drop, List.length_take]; rfl)) ?_; (with_reducible refine (spec_NodeNew.calls _ _ t208 t211 _ ?side1 ?side2 A3.out).mono ?_); (case side1 => repeat (first | exact (Kd.R_reads' HO210.out).2.2 | (with_reducible refine Kd.bM ?_ _) | (with_reducible refine Kd.bN ?_ _) | (with_reducible refine Kd.bR ?_))); (case side2 => exact (Kd.R_reads' HO210.out).2.1); rintro e w10 ⟨v212, rfl, ho0, hb⟩; refine ⟨_, rfl, ?_⟩; have n0_ := aA.mk (Kd.bU (by (with_reducible repeat (first | apply Kd.aY | apply Kd.aZ | apply Kd.bA)); exact HO210.out) hb); have n1_ := aA.mk (Kd.N_lower (Kd.N_mono (ok' := fun k_ => (w.heap.size ≤ k_) ∧ some k_ ≠ (.slice Ao9 t208.length co9 : Value).ownBlock ∧ k_ ≠ gb206 ∧ k_ ≠ gb207) ho0 (fun k_ hk_ => ⟨(Nat.le_trans (aT (by repeat (first | (with_reducible first | exact HB.out | apply aH | apply aC | apply aG | refine aJ ?_ GE206.out | refine aJ ?_ GE207.out) | exact HB.out))) hk_), (Kd.fresh' (Kd.R_lt (by (with_reducible repeat (first | apply Kd.aY | apply Kd.aZ | apply Kd.bA)); exact HO210.out)) k_ hk_), (Kd.freshB (g := gb206) (o := .cells #[.slice A0_0 l0_0.length c0_0] 59 (0, 0)) (by (with_reducible repeat (first | refine aN ?_ _ | refine aQ ?_ | refine aM ?_ _)); exact BK206.out) k_ hk_), (Kd.freshB (g := gb207) (o := .cells #[.slice none 0 0] 59 (0, 0)) (by (with_reducible repeat (first | refine aN ?_ _ | refine aQ ?_ | refine aM ?_ _)); exact BK207.out) k_ hk_)⟩)) (aT (by repeat (first | (with_reducible first | exact HB.out | apply aH | apply aC | apply aG | refine aJ ?_ GE206.out | refine aJ ?_ GE207.out) | exact HB.out)))); have n2_ := aA.mk (aV (g := gb206) (o := .cells #[.slice A0_0 l0_0.length c0_0] 59 (0, 0)) (by (with_reducible repeat (first | refine aN ?_ _ | refine aQ ?_ | refine aM ?_ _)); exact BK206.out) hb); have n3_ := aA.mk (aV (g := gb207) (o := .cells #[.slice none 0 0] 59 (0, 0)) (by (with_reducible repeat (first | refine aN ?_ _ | refine aQ ?_ | refine aM ?_ _)); exact BK207.out) hb); have n4_ := aA.mk (aU (by repeat (first | (with_reducible first | exact HB.out | apply aH | apply aC | apply aG | refine aJ ?_ GE206.out | refine aJ ?_ GE207.out) | exact HB.out)) hb); clear HO210; clear BK206; clear BK207; clear HB; have HO210 := n0_; have HO213 := n1_; have BK206 := n2_; have BK207 := n3_; have HB := n4_; clear n0_ n1_ n2_ n3_ n4_; (try clear hb); (try clear ho0); obtain ⟨Ao11, co11, eo11⟩ := Kd.N_slice HO213.out; subst eo11; have hcz12_0 : w10.cell? ⟨gb207, 0, none⟩ = some (.slice none 0 0) := (aE BK207.out 0).trans rfl; have hfz12_0 := aD BK207.out 0))
 refine bodyPost_ret (results_cell_row rfl _ _ gb207 59 #[.slice Ao11 t211.length co11] (0, 0) _ rfl (by (with_reducible repeat (first | refine aN ?_ _ | refine aQ ?_ | refine aM ?_ _)); refine bG (cs := #[.slice none 0 0]) ?_ 0 _ rfl; (with_reducible repeat (first | refine aN ?_ _ | refine aQ ?_ | refine aM ?_ _)); exact BK207.out) Try.underlying59 rfl (by kernel_rfl)) rfl ?_
 exact ⟨_, by first | rfl | (simp [errW_none, errW_some] <;> rfl) | (simp [*, errW_none, errW_some] <;> rfl), by (with_reducible repeat (first | apply Kd.N_alloc | apply Kd.N_drewN | apply Kd.N_drew)); exact Kd.N_mono (Kd.N_far (p := ⟨gb207, 0, none⟩) (Kd.N_mono HO213.out (fun k_ hk => (⟨hk, hk.2.2.2⟩ : _ ∧ k_ ≠ gb207))) (fun _ hk => hk.2) (.slice Ao11 t211.length co11)) (fun _ hk => hk.1.1), by repeat (first | (with_reducible first | exact HB.out | apply aH | apply aC | apply aG | refine aJ ?_ GE206.out | refine aJ ?_ GE207.out) | exact HB.out)⟩
def spec_TreePack.f (k : Nat) (l0_0 : List Int) (l0_1 : List (S59)) (a1 : Int) : Option (List Int × (List (S59))) := (spec_l6Copy.f k l0_0 l0_1).bind fun bt216 => ((spec_l1In.f a1 0 (wrap64 ((l0_1.length : Int) - 1))).bind fun t223 => (if t223 = true then (if 0 ≤ a1 then (if a1 < (l0_1.length : Int) then ((spec_NodePack.f k ((rd_T59 l0_1 a1).f0)).bind fun t225 => (if a1 < (bt216.2.length : Int) then (some (bt216.1, (bt216.2.set (a1 : Int).toNat (⟨t225⟩ : S59)))) else (none))) else (none)) else (none)) else (some (bt216.1, bt216.2))))
def spec_TreePack.T3 : Bool × List (List Nat × List Nat) := (true, [([], []), ([0], [0]), ([], []), ([], []), ([3], [3]), ([], []), ([4, 5], [4, 5]), ([6], [6]), ([7], [7]), ([1, 2, 0, 1, 2, 3, 4, 5, 6, 7, 8], [1, 2]), ([9, 8, 8, 0, 1, 2, 3, 4, 5, 6, 7, 8], [8, 9])])
def spec_TreePack.B3 : List Nat := [0, 1, 0, 0, 8, 0, 56, 120, 248, 511, 1023]
theorem spec_TreePack.tab3 : rtab .any (opsOf Try.f7 3) = spec_TreePack.T3 := by kernel_rfl
theorem spec_TreePack.bits3 : waitsOk spec_TreePack.T3.2 spec_TreePack.B3 = true := by kernel_rfl
set_option maxHeartbeats 8000000 in
set_option maxRecDepth 100000 in
theorem spec_TreePack.calls (k : Nat) (A0_0 : Option Addr) (c0_0 : Nat) (l0_0 : List Int) (A0_1 : Option Addr) (c0_1 : Nat) (l0_1 : List (S59)) (a1 : Int) (r1 : List Int) (r2 : List (S59)) (w : World) (hr0_0 : Kd.C (Kd.int .i64) w A0_0 l0_0.length l0_0) (hc0_0 : l0_0.length ≤ c0_0) (hr0_1 : Kd.C k59 w A0_1 l0_1.length l0_1) (hc0_1 : l0_1.length ≤ c0_1) (h : spec_TreePack.f k l0_0 l0_1 a1 = some (r1, r2)) :
  Calls Try.prog 7 #[.agg #[.slice A0_0 l0_0.length c0_0, .slice A0_1 l0_1.length c0_1], .int .i64 a1] w fun e w' => ∃ v0_ v1_ : Value, e = .returned (.agg #[v0_, v1_]) ∧ Kd.R (Kd.int .i64) 3 w' w.heap.size (fun k_ => (w.heap.size ≤ k_)) v0_ r1 ∧ Kd.N k59 59 w' w.heap.size (fun k_ => (w.heap.size ≤ k_) ∧ some k_ ≠ (v0_ : Value).ownBlock) v1_ r2 ∧ Below w.heap.size w w' := by
 have hu29 := Try.underlying29
 have hu59 := Try.underlying59
 have HR0_0 := aA.mk hr0_0
 have HC0_0 := aA.mk hc0_0
 clear hr0_0 hc0_0
 have HR0_1 := aA.mk hr0_1
 have HC0_1 := aA.mk hc0_1
 clear hr0_1 hc0_1
 have HB := aA.mk (Below.refl w.heap.size w)
 have H : ((spec_l6Copy.f k l0_0 l0_1).bind fun bt216 => ((spec_l1In.f a1 0 (wrap64 ((l0_1.length : Int) - 1))).bind fun t223 => (if t223 = true then (if 0 ≤ a1 then (if a1 < (l0_1.length : Int) then ((spec_NodePack.f k ((rd_T59 l0_1 a1).f0)).bind fun t225 => (if a1 < (bt216.2.length : Int) then (some (bt216.1, (bt216.2.set (a1 : Int).toNat (⟨t225⟩ : S59)))) else (none))) else (none)) else (none)) else (some (bt216.1, bt216.2))))) = some (r1, r2) := h
 clear h
 replace H := lF H
 obtain ⟨⟨t216, t219⟩, A30, H⟩ := H
 replace H : ((spec_l1In.f a1 0 (wrap64 ((l0_1.length : Int) - 1))).bind fun t223 => (if t223 = true then (if 0 ≤ a1 then (if a1 < (l0_1.length : Int) then ((spec_NodePack.f k ((rd_T59 l0_1 a1).f0)).bind fun t225 => (if a1 < (t219.length : Int) then (some (t216, (t219.set (a1 : Int).toNat (⟨t225⟩ : S59)))) else (none))) else (none)) else (none)) else (some (t216, t219)))) = some (r1, r2) := H
 have A3 := aA.mk A30
 clear A30
 replace H := lF H
 obtain ⟨t223, A40, H⟩ := H
 replace H : (if t223 = true then (if 0 ≤ a1 then (if a1 < (l0_1.length : Int) then ((spec_NodePack.f k ((rd_T59 l0_1 a1).f0)).bind fun t225 => (if a1 < (t219.length : Int) then (some (t216, (t219.set (a1 : Int).toNat (⟨t225⟩ : S59)))) else (none))) else (none)) else (none)) else (some (t216, t219))) = some (r1, r2) := H
 have A4 := aA.mk A40
 clear A40
 by_cases c5 : t223 = true
 ·subst c5
  have H1 : (if 0 ≤ a1 then (if a1 < (l0_1.length : Int) then ((spec_NodePack.f k ((rd_T59 l0_1 a1).f0)).bind fun t225 => (if a1 < (t219.length : Int) then (some (t216, (t219.set (a1 : Int).toNat (⟨t225⟩ : S59)))) else (none))) else (none)) else (none)) = some (r1, r2) := by rw [if_pos rfl] at H; exact H
  clear H
  have H := H1
  clear H1
  by_cases c6 : 0 ≤ a1
  ·rw [if_pos c6] at H
   have c6b0 : decide (0 ≤ a1) = true := decide_eq_true c6
   clear c6
   by_cases c7 : a1 < (l0_1.length : Int)
   ·rw [if_pos c7] at H
    have c7b0 : decide (a1 < (l0_1.length : Int)) = true := decide_eq_true c7
    clear c7
    replace H := lF H
    obtain ⟨t225, A80, H⟩ := H
    replace H : (if a1 < (t219.length : Int) then (some (t216, (t219.set (a1 : Int).toNat (⟨t225⟩ : S59)))) else (none)) = some (r1, r2) := H
    have A8 := aA.mk A80
    clear A80
    by_cases c9 : a1 < (t219.length : Int)
    ·rw [if_pos c9] at H
     have c9b0 : decide (a1 < (t219.length : Int)) = true := decide_eq_true c9
     clear c9
     obtain ⟨y228, hy228⟩ : ∃ y_ : List (S59), y_ = (t219.set (a1 : Int).toNat (⟨t225⟩ : S59)) := ⟨_, rfl⟩
     replace H : (some (t216, y228)) = some (r1, r2) := by first | (rw [hy228]; with_reducible exact H) | (have H2_ := (Option.bind_some _ _).symm.trans H; rw [hy228]; with_reducible exact H2_) | (have H2_ := (Option.bind_some _ _).symm.trans H; with_reducible exact H2_) | with_reducible exact H | (rw [hy228]; exact H) | exact H
     have Ny228 := aA.mk hy228
     clear hy228
     simp only [Option.some.injEq, Prod.mk.injEq] at H
     obtain ⟨rfl, rfl⟩ := H
     go_enter Try.func7, Try.ntmps7
     try go_wp2_with (first | ((with_reducible refine aW (N := 2) rfl ?_); refine aX ?hg (N := 2) ?hd (cs := #[.slice A0_0 l0_0.length c0_0, .slice A0_1 l0_1.length c0_1]) (t := 29) ?hr ?_; (case hd => rfl); (case hg => rfl); (case hr => first | (go_simp; done) | (go_simp; rfl)); intro gb214 hg w11 hbox hb; have n0_ := aA.mk (aU (by repeat (first | (with_reducible first | exact HB.out | apply aH | apply aC | apply aG) | exact HB.out)) hb); have n1_ := aA.mk (hbox); have n2_ := aA.mk ((by rw [hg]; exact (aT (by repeat (first | (with_reducible first | exact HB.out | apply aH | apply aC | apply aG) | exact HB.out))) : w.heap.size ≤ gb214)); have n3_ := aA.mk ((by rw [hg]; exact (aT (by repeat (first | (with_reducible first | exact HB.out | apply aH | apply aC | apply aG) | exact HB.out))) : w.heap.size ≤ gb214)); clear HB; have HB := n0_; have BK214 := n1_; have GW214 := n2_; have GE214 := n3_; clear n0_ n1_ n2_ n3_; clear hb hbox hg) | ((with_reducible refine aW (N := 4) rfl ?_); refine aX ?hg (N := 4) ?hd (cs := #[.slice none 0 0, .slice none 0 0]) (t := 29) ?hr ?_; (case hd => rfl); (case hg => rfl); (case hr => first | (go_simp; done) | (go_simp; rfl)); intro gb215 hg w12 hbox hb; have n0_ := aA.mk (aV (g := gb214) (o := .cells #[.slice A0_0 l0_0.length c0_0, .slice A0_1 l0_1.length c0_1] 29 (0, 0)) (by (with_reducible repeat (first | refine aN ?_ _ | refine aQ ?_ | refine aM ?_ _)); exact BK214.out) hb); have n1_ := aA.mk (aU (by repeat (first | (with_reducible first | exact HB.out | apply aH | apply aC | apply aG | refine aJ ?_ GE214.out) | exact HB.out)) hb); have n2_ := aA.mk (hbox); have n3_ := aA.mk ((by rw [hg]; exact (aT (by repeat (first | (with_reducible first | exact HB.out | apply aH | apply aC | apply aG | refine aJ ?_ GE214.out) | exact HB.out))) : w.heap.size ≤ gb215)); have n4_ := aA.mk ((by rw [hg]; exact (aT (by repeat (first | (with_reducible first | exact HB.out | apply aH | apply aC | apply aG | refine aJ ?_ GE214.out) | exact HB.out))) : w.heap.size ≤ gb215)); have n5_ := aA.mk ((by rw [hg]; exact Nat.ne_of_lt (bF (g := gb214) (o := .cells #[.slice A0_0 l0_0.length c0_0, .slice A0_1 l0_1.length c0_1] 29 (0, 0)) (by (with_reducible repeat (first | refine aN ?_ _ | refine aQ ?_ | refine aM ?_ _)); exact BK214.out)) : gb214 ≠ gb215)); have n6_ := aA.mk ((by rw [hg]; exact Nat.ne_of_gt (bF (g := gb214) (o := .cells #[.slice A0_0 l0_0.length c0_0, .slice A0_1 l0_1.length c0_1] 29 (0, 0)) (by (with_reducible repeat (first | refine aN ?_ _ | refine aQ ?_ | refine aM ?_ _)); exact BK214.out)) : gb215 ≠ gb214)); clear BK214; clear HB; have BK214 := n0_; have HB := n1_; have BK215 := n2_; have GW215 := n3_; have GE215 := n4_; have NB214_215 := n5_; have NB215_214 := n6_; clear n0_ n1_ n2_ n3_ n4_ n5_ n6_; clear hb hbox hg; have hnb13 := NB214_215.out; have hnc13 := NB215_214.out; have hcz14_0 : w12.cell? ⟨gb214, 0, none⟩ = some (.slice A0_0 l0_0.length c0_0) := (aE BK214.out 0).trans rfl; have hcz14_1 : w12.cell? ⟨gb214, 1, none⟩ = some (.slice A0_1 l0_1.length c0_1) := (aE BK214.out 1).trans rfl; have hfz14_0 := aD BK214.out 0; have hfz14_1 := aD BK214.out 1) | ((with_reducible refine bB (f := 26) rfl ?_); refine bP (some 7) rfl rfl Try.func26 (by kernel_rfl) rfl #[.agg #[.slice A0_0 l0_0.length c0_0, .slice A0_1 l0_1.length c0_1]] rfl (by (try simp only [List.map_toArray, List.map_cons, List.map_nil]); first | done | rfl | (simp only [List.length_drop, List.length_take]; rfl)) ?_; (with_reducible refine (spec_l6Copy.calls k _ _ l0_0 _ _ l0_1 t216 t219 _ ?side1 ?side2 ?side3 ?side4 A3.out).mono ?_); (case side1 => repeat (first | exact (Kd.bJ HR0_0.out HB.out) | (with_reducible refine Kd.bM ?_ _) | (with_reducible refine Kd.bN ?_ _) | (with_reducible refine Kd.bR ?_))); (case side2 => exact HC0_0.out); (case side3 => repeat (first | exact (Kd.bJ HR0_1.out HB.out) | (with_reducible refine Kd.bM ?_ _) | (with_reducible refine Kd.bN ?_ _) | (with_reducible refine Kd.bR ?_))); (case side4 => exact HC0_1.out); rintro e w15 ⟨v217, v220, rfl, ho0, ho1, hb⟩; refine ⟨_, rfl, ?_⟩; have n0_ := aA.mk (Kd.R_lower (Kd.R_newM (M := fun k_ => (w.heap.size ≤ k_)) ho0 (aT (by repeat (first | (with_reducible first | exact HB.out | apply aH | apply aC | apply aG | refine aJ ?_ GE214.out | refine aJ ?_ GE215.out) | exact HB.out))) (fun k_ h_ => h_)) (aT (by repeat (first | (with_reducible first | exact HB.out | apply aH | apply aC | apply aG | refine aJ ?_ GE214.out | refine aJ ?_ GE215.out) | exact HB.out)))); have n1_ := aA.mk (Kd.N_lower (Kd.N_mono (ok' := fun k_ => (w.heap.size ≤ k_) ∧ some k_ ≠ (v217 : Value).ownBlock ∧ k_ ≠ gb214 ∧ k_ ≠ gb215) (Kd.R_N (Kd.R_bound (Kd.R_apart' ho1 (Kd.R_typed ho0) (by decide)))) (fun k_ hk_ => ⟨(Nat.le_trans (aT (by repeat (first | (with_reducible first | exact HB.out | apply aH | apply aC | apply aG | refine aJ ?_ GE214.out | refine aJ ?_ GE215.out) | exact HB.out))) hk_.2.1), hk_.1.2, (Kd.freshB (g := gb214) (o := .cells #[.slice A0_0 l0_0.length c0_0, .slice A0_1 l0_1.length c0_1] 29 (0, 0)) (by (with_reducible repeat (first | refine aN ?_ _ | refine aQ ?_ | refine aM ?_ _)); exact BK214.out) k_ hk_.2.1), (Kd.freshB (g := gb215) (o := .cells #[.slice none 0 0, .slice none 0 0] 29 (0, 0)) (by (with_reducible repeat (first | refine aN ?_ _ | refine aQ ?_ | refine aM ?_ _)); exact BK215.out) k_ hk_.2.1)⟩)) (aT (by repeat (first | (with_reducible first | exact HB.out | apply aH | apply aC | apply aG | refine aJ ?_ GE214.out | refine aJ ?_ GE215.out) | exact HB.out)))); have n2_ := aA.mk (aV (g := gb214) (o := .cells #[.slice A0_0 l0_0.length c0_0, .slice A0_1 l0_1.length c0_1] 29 (0, 0)) (by (with_reducible repeat (first | refine aN ?_ _ | refine aQ ?_ | refine aM ?_ _)); exact BK214.out) hb); have n3_ := aA.mk (aV (g := gb215) (o := .cells #[.slice none 0 0, .slice none 0 0] 29 (0, 0)) (by (with_reducible repeat (first | refine aN ?_ _ | refine aQ ?_ | refine aM ?_ _)); exact BK215.out) hb); have n4_ := aA.mk (aU (by repeat (first | (with_reducible first | exact HB.out | apply aH | apply aC | apply aG | refine aJ ?_ GE214.out | refine aJ ?_ GE215.out) | exact HB.out)) hb); clear BK214; clear BK215; clear HB; have HO218 := n0_; have HO221 := n1_; have BK214 := n2_; have BK215 := n3_; have HB := n4_; clear n0_ n1_ n2_ n3_ n4_; (try clear hb); (try clear ho0); (try clear ho1)) | ((with_reducible refine aW (N := 5) rfl ?_); refine aX ?hg (N := 5) ?hd (cs := #[.slice none 0 0, .slice none 0 0]) (t := 29) ?hr ?_; (case hd => rfl); (case hg => rfl); (case hr => first | (go_simp; done) | (go_simp; rfl)); intro gb222 hg w16 hbox hb; have n0_ := aA.mk (Kd.bU (by (with_reducible repeat (first | apply Kd.aY | apply Kd.aZ | apply Kd.bA)); exact HO218.out) hb); have n1_ := aA.mk (Kd.N_below (Kd.N_elderB (by (with_reducible repeat (first | apply Kd.N_alloc | apply Kd.N_drewN | apply Kd.N_drew)); exact HO221.out) gb222 (Nat.le_of_eq hg.symm)) hb); have n2_ := aA.mk (aV (g := gb214) (o := .cells #[.slice A0_0 l0_0.length c0_0, .slice A0_1 l0_1.length c0_1] 29 (0, 0)) (by (with_reducible repeat (first | refine aN ?_ _ | refine aQ ?_ | refine aM ?_ _)); exact BK214.out) hb); have n3_ := aA.mk (aV (g := gb215) (o := .cells #[.slice none 0 0, .slice none 0 0] 29 (0, 0)) (by (with_reducible repeat (first | refine aN ?_ _ | refine aQ ?_ | refine aM ?_ _)); exact BK215.out) hb); have n4_ := aA.mk (aU (by repeat (first | (with_reducible first | exact HB.out | apply aH | apply aC | apply aG | refine aJ ?_ GE214.out | refine aJ ?_ GE215.out) | exact HB.out)) hb); have n5_ := aA.mk (hbox); have n6_ := aA.mk ((by rw [hg]; exact (aT (by repeat (first | (with_reducible first | exact HB.out | apply aH | apply aC | apply aG | refine aJ ?_ GE214.out | refine aJ ?_ GE215.out) | exact HB.out))) : w.heap.size ≤ gb222)); have n7_ := aA.mk ((by rw [hg]; exact (aT (by repeat (first | (with_reducible first | exact HB.out | apply aH | apply aC | apply aG | refine aJ ?_ GE214.out | refine aJ ?_ GE215.out) | exact HB.out))) : w.heap.size ≤ gb222)); have n8_ := aA.mk ((by rw [hg]; exact Nat.ne_of_lt (bF (g := gb214) (o := .cells #[.slice A0_0 l0_0.length c0_0, .slice A0_1 l0_1.length c0_1] 29 (0, 0)) (by (with_reducible repeat (first | refine aN ?_ _ | refine aQ ?_ | refine aM ?_ _)); exact BK214.out)) : gb214 ≠ gb222)); have n9_ := aA.mk ((by rw [hg]; exact Nat.ne_of_gt (bF (g := gb214) (o := .cells #[.slice A0_0 l0_0.length c0_0, .slice A0_1 l0_1.length c0_1] 29 (0, 0)) (by (with_reducible repeat (first | refine aN ?_ _ | refine aQ ?_ | refine aM ?_ _)); exact BK214.out)) : gb222 ≠ gb214)); have n10_ := aA.mk ((by rw [hg]; exact Nat.ne_of_lt (bF (g := gb215) (o := .cells #[.slice none 0 0, .slice none 0 0] 29 (0, 0)) (by (with_reducible repeat (first | refine aN ?_ _ | refine aQ ?_ | refine aM ?_ _)); exact BK215.out)) : gb215 ≠ gb222)); have n11_ := aA.mk ((by rw [hg]; exact Nat.ne_of_gt (bF (g := gb215) (o := .cells #[.slice none 0 0, .slice none 0 0] 29 (0, 0)) (by (with_reducible repeat (first | refine aN ?_ _ | refine aQ ?_ | refine aM ?_ _)); exact BK215.out)) : gb222 ≠ gb215)); clear HO218; clear HO221; clear BK214; clear BK215; clear HB; have HO218 := n0_; have HO221 := n1_; have BK214 := n2_; have BK215 := n3_; have HB := n4_; have BK222 := n5_; have GW222 := n6_; have GE222 := n7_; have NB214_222 := n8_; have NB222_214 := n9_; have NB215_222 := n10_; have NB222_215 := n11_; clear n0_ n1_ n2_ n3_ n4_ n5_ n6_ n7_ n8_ n9_ n10_ n11_; clear hb hbox hg; obtain ⟨Ao17, co17, eo17⟩ := Kd.R_slice HO218.out; subst eo17; have hnb18 := NB222_214.out; have hnc18 := NB214_222.out; have hnb19 := NB222_215.out; have hnc19 := NB215_222.out; have hcz20_0 : w16.cell? ⟨gb222, 0, none⟩ = some (.slice none 0 0) := (aE BK222.out 0).trans rfl; have hcz20_1 : w16.cell? ⟨gb222, 1, none⟩ = some (.slice none 0 0) := (aE BK222.out 1).trans rfl; have hfz20_0 := aD BK222.out 0; have hfz20_1 := aD BK222.out 1; obtain ⟨Ao21, co21, eo21⟩ := Kd.N_slice HO221.out; subst eo21; have hcz22_0 : w16.cell? ⟨gb214, 0, none⟩ = some (.slice A0_0 l0_0.length c0_0) := (aE BK214.out 0).trans rfl; have hcz22_1 : w16.cell? ⟨gb214, 1, none⟩ = some (.slice A0_1 l0_1.length c0_1) := (aE BK214.out 1).trans rfl; have hfz22_0 := aD BK214.out 0; have hfz22_1 := aD BK214.out 1) | ((with_reducible refine bB (f := 27) rfl ?_); refine bP (some 13) rfl rfl Try.func27 (by kernel_rfl) rfl #[.int .i64 a1, .int .i64 0, .int .i64 (wrap64 ((l0_1.length : Int) - 1))] rfl (by (try simp only [List.map_toArray, List.map_cons, List.map_nil]); first | done | rfl | (simp only [List.length_drop, List.length_take]; rfl)) ?_; (with_reducible refine (spec_l1In.calls a1 0 (wrap64 ((l0_1.length : Int) - 1)) true _ A4.out).mono ?_); rintro e w' ⟨rfl, ⟨nd, rfl⟩⟩; refine ⟨_, rfl, ?_⟩))
     have n0_ : aA (Kd.R (Kd.int .i64) 3 ((w16.setCell ⟨gb222, 0, none⟩ (.slice Ao17 t216.length co17)).setCell ⟨gb222, 1, none⟩ (.slice Ao21 t219.length co21)) w.heap.size (fun k_ => (w.heap.size ≤ k_)) (.slice Ao17 t216.length co17) t216) := ⟨by (with_reducible repeat (first | apply Kd.aY | apply Kd.aZ | apply Kd.bA)); exact Kd.bK (Kd.R_far (p := ⟨gb222, 1, none⟩) (Kd.R_far (p := ⟨gb222, 0, none⟩) (Kd.R_types HO218.out BK222.out (by decide)) (fun _ hk => hk.2) (.slice Ao17 t216.length co17)) (fun _ hk => hk.2) (.slice Ao21 t219.length co21)) (fun _ hk => hk.1.1)⟩
     have n1_ : aA (Kd.N k59 59 ((w16.setCell ⟨gb222, 0, none⟩ (.slice Ao17 t216.length co17)).setCell ⟨gb222, 1, none⟩ (.slice Ao21 t219.length co21)) w.heap.size (fun k_ => (w.heap.size ≤ k_) ∧ some k_ ≠ (.slice Ao17 t216.length co17 : Value).ownBlock ∧ k_ ≠ gb214 ∧ k_ ≠ gb215 ∧ k_ ≠ gb222) (.slice Ao21 t219.length co21) t219) := ⟨by (with_reducible repeat (first | apply Kd.N_alloc | apply Kd.N_drewN | apply Kd.N_drew)); exact Kd.N_mono (Kd.N_far (p := ⟨gb222, 1, none⟩) (Kd.N_far (p := ⟨gb222, 0, none⟩) (Kd.N_mono HO221.out (fun k_ hk => (⟨hk, hk.2⟩ : _ ∧ k_ ≠ gb222))) (fun _ hk => hk.2) (.slice Ao17 t216.length co17)) (fun _ hk => hk.2) (.slice Ao21 t219.length co21)) (fun _ hk => ⟨hk.1.1.1, ⟨hk.1.1.2.1, ⟨hk.1.1.2.2.1, ⟨hk.1.1.2.2.2, hk.1.2⟩⟩⟩⟩)⟩
     have n2_ : aA (((w16.setCell ⟨gb222, 0, none⟩ (.slice Ao17 t216.length co17)).setCell ⟨gb222, 1, none⟩ (.slice Ao21 t219.length co21)).heap[gb214]? = some (.cells #[.slice A0_0 l0_0.length c0_0, .slice A0_1 l0_1.length c0_1] 29 (0, 0))) := ⟨by (with_reducible repeat (first | refine aN ?_ _ | refine aQ ?_ | refine aM ?_ _)); refine blk_far ?_ NB214_222.out _; (with_reducible repeat (first | refine aN ?_ _ | refine aQ ?_ | refine aM ?_ _)); refine blk_far ?_ NB214_222.out _; (with_reducible repeat (first | refine aN ?_ _ | refine aQ ?_ | refine aM ?_ _)); exact BK214.out⟩
     have n3_ : aA (((w16.setCell ⟨gb222, 0, none⟩ (.slice Ao17 t216.length co17)).setCell ⟨gb222, 1, none⟩ (.slice Ao21 t219.length co21)).heap[gb215]? = some (.cells #[.slice none 0 0, .slice none 0 0] 29 (0, 0))) := ⟨by (with_reducible repeat (first | refine aN ?_ _ | refine aQ ?_ | refine aM ?_ _)); refine blk_far ?_ NB215_222.out _; (with_reducible repeat (first | refine aN ?_ _ | refine aQ ?_ | refine aM ?_ _)); refine blk_far ?_ NB215_222.out _; (with_reducible repeat (first | refine aN ?_ _ | refine aQ ?_ | refine aM ?_ _)); exact BK215.out⟩
     have n4_ : aA (((w16.setCell ⟨gb222, 0, none⟩ (.slice Ao17 t216.length co17)).setCell ⟨gb222, 1, none⟩ (.slice Ao21 t219.length co21)).heap[gb222]? = some (.cells #[.slice Ao17 t216.length co17, .slice Ao21 t219.length co21] 29 (0, 0))) := ⟨by (with_reducible repeat (first | refine aN ?_ _ | refine aQ ?_ | refine aM ?_ _)); refine bG (cs := #[.slice Ao17 t216.length co17, .slice none 0 0]) ?_ 1 _ rfl; (with_reducible repeat (first | refine aN ?_ _ | refine aQ ?_ | refine aM ?_ _)); refine bG (cs := #[.slice none 0 0, .slice none 0 0]) ?_ 0 _ rfl; (with_reducible repeat (first | refine aN ?_ _ | refine aQ ?_ | refine aM ?_ _)); exact BK222.out⟩
     have n5_ : aA (Below w.heap.size w ((w16.setCell ⟨gb222, 0, none⟩ (.slice Ao17 t216.length co17)).setCell ⟨gb222, 1, none⟩ (.slice Ao21 t219.length co21))) := ⟨by repeat (first | (with_reducible first | exact HB.out | apply aH | apply aC | apply aG | refine aJ ?_ GE214.out | refine aJ ?_ GE215.out | refine aJ ?_ GE222.out) | exact HB.out)⟩
     (try clear HO218)
     (try clear HO221)
     (try clear BK214)
     (try clear BK215)
     (try clear BK222)
     (try clear HB)
     generalize ((w16.setCell ⟨gb222, 0, none⟩ (.slice Ao17 t216.length co17)).setCell ⟨gb222, 1, none⟩ (.slice Ao21 t219.length co21)) = w23 at n0_ n1_ n2_ n3_ n4_ n5_ ⊢
     have HO218 := n0_
     have HO221 := n1_
     have BK214 := n2_
     have BK215 := n3_
     have BK222 := n4_
     have HB := n5_
     clear n0_ n1_ n2_ n3_ n4_ n5_
     (try (rw [drewN_self w23]; generalize hq_ : World.drewN w23 _ = w23; have n0_ : aA (Kd.R (Kd.int .i64) 3 w23 w.heap.size (fun k_ => (w.heap.size ≤ k_)) (.slice Ao17 t216.length co17) t216) := ⟨by rw [← hq_]; exact (by (with_reducible repeat (first | apply Kd.aY | apply Kd.aZ | apply Kd.bA)); exact HO218.out)⟩; have n1_ : aA (Kd.N k59 59 w23 w.heap.size (fun k_ => (w.heap.size ≤ k_) ∧ some k_ ≠ (.slice Ao17 t216.length co17 : Value).ownBlock ∧ k_ ≠ gb214 ∧ k_ ≠ gb215 ∧ k_ ≠ gb222) (.slice Ao21 t219.length co21) t219) := ⟨by rw [← hq_]; exact (by (with_reducible repeat (first | apply Kd.N_alloc | apply Kd.N_drewN | apply Kd.N_drew)); exact HO221.out)⟩; have n2_ : aA (w23.heap[gb214]? = some (.cells #[.slice A0_0 l0_0.length c0_0, .slice A0_1 l0_1.length c0_1] 29 (0, 0))) := ⟨by rw [← hq_]; exact (by (with_reducible repeat (first | refine aN ?_ _ | refine aQ ?_ | refine aM ?_ _)); exact BK214.out)⟩; have n3_ : aA (w23.heap[gb215]? = some (.cells #[.slice none 0 0, .slice none 0 0] 29 (0, 0))) := ⟨by rw [← hq_]; exact (by (with_reducible repeat (first | refine aN ?_ _ | refine aQ ?_ | refine aM ?_ _)); exact BK215.out)⟩; have n4_ : aA (w23.heap[gb222]? = some (.cells #[.slice Ao17 t216.length co17, .slice Ao21 t219.length co21] 29 (0, 0))) := ⟨by rw [← hq_]; exact (by (with_reducible repeat (first | refine aN ?_ _ | refine aQ ?_ | refine aM ?_ _)); exact BK222.out)⟩; have n5_ : aA (Below w.heap.size w w23) := ⟨by rw [← hq_]; exact (by repeat (first | (with_reducible first | exact HB.out | apply aH | apply aC | apply aG | refine aJ ?_ GE214.out | refine aJ ?_ GE215.out | refine aJ ?_ GE222.out) | exact HB.out))⟩; clear HO218 HO221 BK214 BK215 BK222 HB hq_; have HO218 := n0_; have HO221 := n1_; have BK214 := n2_; have BK215 := n3_; have BK222 := n4_; have HB := n5_; clear n0_ n1_ n2_ n3_ n4_ n5_))
     have n0_ := aA.mk (Kd.bA HO218.out)
     have n1_ := aA.mk (Kd.N_drew HO221.out)
     have n2_ := aA.mk (aQ BK214.out)
     have n3_ := aA.mk (aQ BK215.out)
     have n4_ := aA.mk (aQ BK222.out)
     have n5_ := aA.mk (aG HB.out)
     clear HO218
     clear HO221
     clear BK214
     clear BK215
     clear BK222
     clear HB
     have HO218 := n0_
     have HO221 := n1_
     have BK214 := n2_
     have BK215 := n3_
     have BK222 := n4_
     have HB := n5_
     clear n0_ n1_ n2_ n3_ n4_ n5_
     have p224 : 0 ≤ (a1 : Int) := lE (by first | (with_reducible assumption) | assumption)
     have q224 : a1 < (l0_1.length : Int) := lE (by first | (with_reducible assumption) | assumption)
     obtain ⟨ad224, A224_0, c224_0, e224, hx224_0, hl224_0, hi224_0⟩ := at_T59 HR0_1.out a1 p224 q224
     have hw224_0 := hx224_0
     cases e224
     replace hx224_0 := (HB.out.cell (lD w _ hx224_0)).trans hx224_0
     have HR224_0 := aA.mk hi224_0
     have HC224_0 := aA.mk hl224_0
     clear hi224_0 hl224_0
     replace p224 := eq_true p224
     replace q224 := eq_true q224
     refine start_ (n := 11) (S := fun w' => w'.cell? ⟨gb222, 0, none⟩ = some (.slice Ao17 t216.length co17) ∧ w'.cell? ⟨gb222, 1, none⟩ = some (.slice Ao21 t219.length co21) ∧ w'.cell? ⟨gb214, 0, none⟩ = some (.slice A0_0 l0_0.length c0_0) ∧ w'.cell? ⟨gb214, 1, none⟩ = some (.slice (some ad224) l0_1.length c0_1) ∧ w'.cell? (ad224.add (a1).toNat) = some (.slice A224_0 ((rd_T59 l0_1 a1).f0).length c224_0)) (ds := [10]) #[false, false, false, false, false, false, false, false, false, false, false] (by kernel_rfl) rfl rfl ⟨(aE BK222.out 0).trans rfl, (aE BK222.out 1).trans rfl, (aE BK214.out 0).trans rfl, (aE BK214.out 1).trans rfl, ((HB.out.cell (lD w _ hw224_0)).trans hw224_0)⟩ (fun hHeld => ?_); refine with_tabW spec_TreePack.tab3 spec_TreePack.bits3 (fun HT_ HW_ => ?_)
     generalize w23.drew = w24 at HO218 HO221 BK214 BK215 BK222 HB HR224_0 hx224_0 hHeld ⊢
     refine bL (i := 0) (N := some 14) (v := ?_) (a' := ?_) #[true, false, false, false, false, false, false, false, false, false, false] rfl rfl (bQ HT_.out (by kernel_rfl)) (fun _ _ _ h => h) (Or.inl ⟨by rfl, ?_⟩) ?_ ?_
     rotate_left
     ·intro w'
      go_simp
      with_reducible rfl
     rotate_left
     ·simp only [Act.put, lA, lB, lC, bD, bC]
      rfl
     refine bL (i := 2) (N := some 16) (v := ?_) (a' := ?_) #[true, false, true, false, false, false, false, false, false, false, false] rfl rfl (bQ HT_.out (by kernel_rfl)) (fun _ _ _ h => h) (Or.inl ⟨by rfl, ?_⟩) ?_ ?_
     rotate_left
     ·intro w'
      go_simp
      with_reducible rfl
     rotate_left
     ·simp only [Act.put, lA, lB, lC, bD, bC]
      rfl
     refine bL (i := 3) (N := some 17) (v := ?_) (a' := ?_) #[true, false, true, true, false, false, false, false, false, false, false] rfl rfl (bQ HT_.out (by kernel_rfl)) (fun _ _ _ h => h) (Or.inl ⟨by rfl, ?_⟩) ?_ ?_
     rotate_left
     ·intro w'
      go_simp
      with_reducible rfl
     rotate_left
     ·simp only [Act.put, lA, lB, lC, bD, bC]
      rfl
     refine bL (i := 5) (N := some 19) (v := ?_) (a' := ?_) #[true, false, true, true, false, true, false, false, false, false, false] rfl rfl (bQ HT_.out (by kernel_rfl)) (fun _ _ _ h => h) (Or.inl ⟨by rfl, ?_⟩) ?_ ?_
     rotate_left
     ·intro w'
      go_simp
      with_reducible rfl
     rotate_left
     ·simp only [Act.put, lA, lB, lC, bD, bC]
      rfl
     refine take_ (i := 1) (N := some 15) (v := ?_) (a' := ?_) #[true, true, true, true, false, true, false, false, false, false, false] rfl rfl (take_ofW HT_.out HW_.out (by kernel_rfl)) (fun _ _ _ h => h) (Or.inl ⟨by rfl, ?_⟩) hHeld ?_ ?_
     rotate_left
     ·rintro w' ⟨s0, s1, s2, s3, s4⟩
      go_simp
      with_reducible rfl
     rotate_left
     ·simp only [Act.put, lA, lB, lC, bD, bC]
      rfl
     refine take_ (i := 4) (N := some 18) (v := ?_) (a' := ?_) #[true, true, true, true, true, true, false, false, false, false, false] rfl rfl (take_ofW HT_.out HW_.out (by kernel_rfl)) (fun _ _ _ h => h) (Or.inl ⟨by rfl, ?_⟩) hHeld ?_ ?_
     rotate_left
     ·rintro w' ⟨s0, s1, s2, s3, s4⟩
      go_simp
      with_reducible rfl
     rotate_left
     ·simp only [Act.put, lA, lB, lC, bD, bC]
      rfl
     refine bL (i := 6) (N := some 20) (v := ?_) (a' := ?_) #[true, true, true, true, true, true, true, false, false, false, false] rfl rfl (bQ HT_.out (by kernel_rfl)) (fun _ _ _ h => h) (Or.inl ⟨by rfl, ?_⟩) ?_ ?_
     rotate_left
     ·intro w'
      go_simp
      with_reducible rfl
     rotate_left
     ·simp only [Act.put, lA, lB, lC, bD, bC]
      rfl
     refine take_ (i := 7) (N := some 21) (v := ?_) (a' := ?_) #[true, true, true, true, true, true, true, true, false, false, false] rfl rfl (take_ofW HT_.out HW_.out (by kernel_rfl)) (fun _ _ _ h => h) (Or.inl ⟨by rfl, ?_⟩) hHeld ?_ ?_
     rotate_left
     ·rintro w' ⟨s0, s1, s2, s3, s4⟩
      go_simp
      with_reducible rfl
     rotate_left
     ·simp only [Act.put, lA, lB, lC, bD, bC]
      rfl
     refine one_ (i := 8) (N := some 22) #[true, true, true, true, true, true, true, true, true, false, false] rfl rfl (one_of HT_.out (by kernel_rfl)) (by decide) (fun K hK => ?_)
     refine goes_ Try.func28 (by kernel_rfl) rfl #[.agg #[.slice A224_0 ((rd_T59 l0_1 a1).f0).length c224_0]] (by rfl) rfl rfl (by (try simp only [List.map_toArray, List.map_cons, List.map_nil]); first | done | rfl | (simp only [List.length_drop, List.length_take]; rfl)) ?_
     with_reducible refine (spec_NodePack.calls k _ _ ((rd_T59 l0_1 a1).f0) t225 _ ?side1 ?side2 A8.out).mono ?_
     (case side1 => repeat (first | exact (Kd.bJ HR224_0.out HB.out) | (with_reducible refine Kd.bM ?_ _) | (with_reducible refine Kd.bN ?_ _) | (with_reducible refine Kd.bR ?_)))
     (case side2 => exact HC224_0.out)
     rintro e w25 ⟨v226, rfl, ho0, hb⟩
     refine ⟨_, rfl, ?_⟩
     have n0_ := aA.mk (Kd.bU (by (with_reducible repeat (first | apply Kd.aY | apply Kd.aZ | apply Kd.bA)); exact HO218.out) hb)
     have n1_ := aA.mk (Kd.N_elder' (by (with_reducible repeat (first | apply Kd.N_alloc | apply Kd.N_drewN | apply Kd.N_drew)); exact HO221.out) (Kd.N_base ho0) hb)
     have n2_ := aA.mk (Kd.N_lower (Kd.N_mono (ok' := fun k_ => (w.heap.size ≤ k_) ∧ some k_ ≠ (.slice Ao17 t216.length co17 : Value).ownBlock ∧ some k_ ≠ (.slice Ao21 t219.length co21 : Value).ownBlock ∧ k_ ≠ gb214 ∧ k_ ≠ gb215 ∧ k_ ≠ gb222) ho0 (fun k_ hk_ => ⟨(Nat.le_trans (aT (by repeat (first | (with_reducible first | exact HB.out | apply aH | apply aC | apply aG | refine aJ ?_ GE214.out | refine aJ ?_ GE215.out | refine aJ ?_ GE222.out) | exact HB.out))) hk_), (Kd.fresh' (Kd.R_lt (by (with_reducible repeat (first | apply Kd.aY | apply Kd.aZ | apply Kd.bA)); exact HO218.out)) k_ hk_), (Kd.fresh' (Kd.N_lt (by (with_reducible repeat (first | apply Kd.N_alloc | apply Kd.N_drewN | apply Kd.N_drew)); exact HO221.out)) k_ hk_), (Kd.freshB (g := gb214) (o := .cells #[.slice A0_0 l0_0.length c0_0, .slice (some ad224) l0_1.length c0_1] 29 (0, 0)) (by (with_reducible repeat (first | refine aN ?_ _ | refine aQ ?_ | refine aM ?_ _)); exact BK214.out) k_ hk_), (Kd.freshB (g := gb215) (o := .cells #[.slice none 0 0, .slice none 0 0] 29 (0, 0)) (by (with_reducible repeat (first | refine aN ?_ _ | refine aQ ?_ | refine aM ?_ _)); exact BK215.out) k_ hk_), (Kd.freshB (g := gb222) (o := .cells #[.slice Ao17 t216.length co17, .slice Ao21 t219.length co21] 29 (0, 0)) (by (with_reducible repeat (first | refine aN ?_ _ | refine aQ ?_ | refine aM ?_ _)); exact BK222.out) k_ hk_)⟩)) (aT (by repeat (first | (with_reducible first | exact HB.out | apply aH | apply aC | apply aG | refine aJ ?_ GE214.out | refine aJ ?_ GE215.out | refine aJ ?_ GE222.out) | exact HB.out))))
     have n3_ := aA.mk (aV (g := gb214) (o := .cells #[.slice A0_0 l0_0.length c0_0, .slice (some ad224) l0_1.length c0_1] 29 (0, 0)) (by (with_reducible repeat (first | refine aN ?_ _ | refine aQ ?_ | refine aM ?_ _)); exact BK214.out) hb)
     have n4_ := aA.mk (aV (g := gb215) (o := .cells #[.slice none 0 0, .slice none 0 0] 29 (0, 0)) (by (with_reducible repeat (first | refine aN ?_ _ | refine aQ ?_ | refine aM ?_ _)); exact BK215.out) hb)
     have n5_ := aA.mk (aV (g := gb222) (o := .cells #[.slice Ao17 t216.length co17, .slice Ao21 t219.length co21] 29 (0, 0)) (by (with_reducible repeat (first | refine aN ?_ _ | refine aQ ?_ | refine aM ?_ _)); exact BK222.out) hb)
     have n6_ := aA.mk (aU (by repeat (first | (with_reducible first | exact HB.out | apply aH | apply aC | apply aG | refine aJ ?_ GE214.out | refine aJ ?_ GE215.out | refine aJ ?_ GE222.out) | exact HB.out)) hb)
     clear HO218
     clear HO221
     clear BK214
     clear BK215
     clear BK222
     clear HB
     have HO218 := n0_
     have HO221 := n1_
     have HO227 := n2_
     have BK214 := n3_
     have BK215 := n4_
     have BK222 := n5_
     have HB := n6_
     clear n0_ n1_ n2_ n3_ n4_ n5_ n6_
     (try clear hb)
     (try clear hb2)
     (try clear hk)
     (try clear hi)
     (try clear ho0)
     have p10 : 0 ≤ (a1 : Int) := lE (by first | (with_reducible assumption) | assumption)
     have q10 : (a1 : Int) < ((t219.length : Int) : Int) := lE (by first | (with_reducible assumption) | assumption)
     obtain ⟨go10, co10, eo10, gb10, gl10, cl10, HG10⟩ := Kd.N_form HO221.out (by omega)
     (first | cases eo10 | (injection eo10 with ea_ en_ ec_; (first | subst ea_ | (injection ea_ with ea_; subst ea_)); subst ec_; clear en_))
     have GB10 := aA.mk gb10
     have GG10 := aA.mk HG10
     clear gb10 gl10 HG10
     obtain ⟨ce10, hcl10, hM10, hcc10, hfr10⟩ := Kd.N_elem HO221.out z59 (a1 : Int) p10 q10
     obtain ⟨ua10_0, uc10_0, rfl, ul10_0, ge10_0⟩ := k59_openF hM10
     have hx10_0 := hcc10 0 _ rfl
     have hf10_0 := hfr10 0
     (try simp only [show (k59).sz = 1 from rfl, Nat.mul_one, Nat.add_zero] at hx10_0)
     (try simp only [show (k59).sz = 1 from rfl, Nat.mul_one, Nat.add_zero] at hf10_0)
     clear hcl10 hcc10 hfr10 hM10
     replace p10 := eq_true p10
     replace q10 := eq_true q10
     have HX26 := aA.mk (show Kd.N k59 59 _ w.heap.size (fun k_ => (w.heap.size ≤ k_) ∧ some k_ ≠ (.slice Ao17 t216.length co17 : Value).ownBlock ∧ some k_ ≠ (v226 : Value).ownBlock ∧ k_ ≠ gb214 ∧ k_ ≠ gb215 ∧ k_ ≠ gb222) (.slice (some ⟨go10, 0, none⟩) t219.length co21) t219 from (Kd.N_mono (HO221.out) (fun k_ hk => ⟨hk.1.1, ⟨hk.1.2.1, ⟨hk.2, ⟨hk.1.2.2.1, ⟨hk.1.2.2.2.1, hk.1.2.2.2.2⟩⟩⟩⟩⟩)))
     replace HX26 := aA.mk (show Kd.N k59 59 _ w.heap.size (fun k_ => (w.heap.size ≤ k_) ∧ some k_ ≠ (.slice Ao17 t216.length co17 : Value).ownBlock ∧ k_ ≠ gb214 ∧ k_ ≠ gb215 ∧ k_ ≠ gb222) (.slice (some ⟨go10, 0, none⟩) t219.length co21) t219 from Kd.N_mono HX26.out (fun k_ hk => ⟨hk.1, ⟨hk.2.1, ⟨hk.2.2.2.1, ⟨hk.2.2.2.2.1, hk.2.2.2.2.2⟩⟩⟩⟩))
     obtain ⟨ce26, hcl26, hM26, hcc26, hfr26⟩ := Kd.N_elem HX26.out z59 (a1 : Int) (lE (by first | (with_reducible assumption) | assumption)) (by have h_ : (a1 : Int) < ((t219.length : Int) : Int) := lE (by first | (with_reducible assumption) | assumption); first | exact h_ | (have e_ := (Kd.N_reads' HO221.out).1; omega) | simpa using h_)
     obtain ⟨ua26_0, uc26_0, rfl, ul26_0, ge26_0⟩ := k59_openF hM26
     have hXr_ := (HO227.out)
     have hXm_ := Kd.N_mono (ok' := (fun k_ => ((fun k_ => (w.heap.size ≤ k_) ∧ some k_ ≠ (.slice Ao17 t216.length co17 : Value).ownBlock ∧ k_ ≠ gb214 ∧ k_ ≠ gb215 ∧ k_ ≠ gb222)) k_ ∧ k_ ≠ go10)) hXr_ (fun k_ hk => ⟨⟨hk.1, ⟨hk.2.1, ⟨hk.2.2.2.1, ⟨hk.2.2.2.2.1, hk.2.2.2.2.2⟩⟩⟩⟩, fun e_ => (hk.2.2.1) (by rw [e_]; rfl)⟩)
     obtain ⟨Az_, cz_, ez_⟩ := Kd.N_slice hXm_
     have hXq_ := hXm_
     rw [ez_] at hXq_
     have HP26 := (Kd.N_seg HX26.out (a1 : Int) (lE (by first | (with_reducible assumption) | assumption)) (by have h_ : (a1 : Int) < ((t219.length : Int) : Int) := lE (by first | (with_reducible assumption) | assumption); first | exact h_ | (have e_ := (Kd.N_reads' HO221.out).1; omega) | simpa using h_) (seg := [v226]) (j := 0) hcl26 hcc26 (show 1 ≤ 1 from by decide) (x' := (⟨t225⟩ : S59)) (by rw [ez_]; exact k59_mkF _ _ (⟨t225⟩ : S59) (Kd.N_reads' hXq_).2.1 (Kd.N_F hXq_)) (fun _ hk => hk)).1
     clear hXq_ ez_ hXm_ hXr_
     clear cz_ Az_
     (try simp only [show (k59).sz = 1 from rfl, Nat.mul_one, Nat.add_zero] at HP26)
     rw [← Ny228.out] at HP26
     have HQ26 := aA.mk HP26
     clear hcl26 hcc26 hfr26 hM26 HP26
     refine hK.out _ _ ⟨(aE BK222.out 0).trans rfl, (aE BK222.out 1).trans rfl, (aE BK214.out 0).trans rfl, (aE BK214.out 1).trans rfl, ((HB.out.cell (lD w _ hw224_0)).trans hw224_0)⟩ (fun hHeld => ?_)
     clear hK K
     refine norm_ (a' := ?_) ?_ ?_
     rotate_left
     ·show Act.put _ (some 22) _ = _
      simp only [Act.put, lA, lB, lC, bD, bC]
      rfl
     refine bL (i := 9) (N := some 23) (v := ?_) (a' := ?_) #[true, true, true, true, true, true, true, true, true, true, false] rfl rfl (bQ HT_.out (by kernel_rfl)) (fun _ _ _ h => h) (Or.inl ⟨by rfl, ?_⟩) ?_ ?_
     rotate_left
     ·intro w'
      go_simp
      with_reducible rfl
     rotate_left
     ·simp only [Act.put, lA, lB, lC, bD, bC]
      rfl
     refine last_ (i := 10) (N := none) #[true, true, true, true, true, true, true, true, true, true, true] rfl rfl (one_of HT_.out (by kernel_rfl)) (by decide) (fun K hK => ?_)
     (obtain ⟨Az_, cz_, ez_⟩ := Kd.N_slice HO227.out; subst ez_)
     refine skip_ (w1 := ?_) (by rfl) rfl ?_ ?_
     rotate_left
     ·go_simp
      rfl
     refine hK.out _ _ ?_
     clear hK K
     refine done_ (done_of HT_.out (by kernel_rfl)) ?_
     have n0_ : aA (Kd.R (Kd.int .i64) 3 (w25.setCell ⟨go10, (a1 : Int).toNat, none⟩ ((.slice Az_ t225.length cz_))) w.heap.size (fun k_ => (w.heap.size ≤ k_)) (.slice Ao17 t216.length co17) t216) := ⟨by (with_reducible repeat (first | apply Kd.aY | apply Kd.aZ | apply Kd.bA)); exact Kd.bK (Kd.R_far (p := ⟨go10, (a1 : Int).toNat, none⟩) (Kd.R_types HO218.out GG10.out (by decide)) (fun _ hk => hk.2) ((.slice Az_ t225.length cz_))) (fun _ hk => hk.1)⟩
     have n1_ : aA (Kd.N k59 59 (w25.setCell ⟨go10, (a1 : Int).toNat, none⟩ ((.slice Az_ t225.length cz_))) w.heap.size (fun k_ => (w.heap.size ≤ k_) ∧ some k_ ≠ (.slice Ao17 t216.length co17 : Value).ownBlock ∧ k_ ≠ gb214 ∧ k_ ≠ gb215 ∧ k_ ≠ gb222) (.slice (some ⟨go10, 0, none⟩) t219.length co21) y228) := ⟨by (with_reducible repeat (first | apply Kd.N_alloc | apply Kd.N_drewN | apply Kd.N_drew)); exact HQ26.out⟩
     have n2_ : aA ((w25.setCell ⟨go10, (a1 : Int).toNat, none⟩ ((.slice Az_ t225.length cz_))).heap[gb214]? = some (.cells #[.slice A0_0 l0_0.length c0_0, .slice (some ad224) l0_1.length c0_1] 29 (0, 0))) := ⟨by (with_reducible repeat (first | refine aN ?_ _ | refine aQ ?_ | refine aM ?_ _)); refine blk_far ?_ (by have h_ := Kd.N_away HO221.out (fun k_ hk => (by first | exact hk.1.2 | exact hk.1.1.2 | exact hk.1.1.2.1 | exact hk.1.1.2.2 | exact hk.1.1.2.2.1 | exact hk.1.1.2.2.2 | exact hk.1.2.1 | exact hk.1.2.2 | exact hk.1.2.2.1 | exact hk.1.2.2.2 | exact hk.1.2.2.2.1 | exact hk.1.2.2.2.2 : k_ ≠ gb214)); intro e_; exact h_ (by rw [e_]; rfl)) _; (with_reducible repeat (first | refine aN ?_ _ | refine aQ ?_ | refine aM ?_ _)); exact BK214.out⟩
     have n3_ : aA ((w25.setCell ⟨go10, (a1 : Int).toNat, none⟩ ((.slice Az_ t225.length cz_))).heap[gb215]? = some (.cells #[.slice none 0 0, .slice none 0 0] 29 (0, 0))) := ⟨by (with_reducible repeat (first | refine aN ?_ _ | refine aQ ?_ | refine aM ?_ _)); refine blk_far ?_ (by have h_ := Kd.N_away HO221.out (fun k_ hk => (by first | exact hk.1.2 | exact hk.1.1.2 | exact hk.1.1.2.1 | exact hk.1.1.2.2 | exact hk.1.1.2.2.1 | exact hk.1.1.2.2.2 | exact hk.1.2.1 | exact hk.1.2.2 | exact hk.1.2.2.1 | exact hk.1.2.2.2 | exact hk.1.2.2.2.1 | exact hk.1.2.2.2.2 : k_ ≠ gb215)); intro e_; exact h_ (by rw [e_]; rfl)) _; (with_reducible repeat (first | refine aN ?_ _ | refine aQ ?_ | refine aM ?_ _)); exact BK215.out⟩
     have n4_ : aA ((w25.setCell ⟨go10, (a1 : Int).toNat, none⟩ ((.slice Az_ t225.length cz_))).heap[gb222]? = some (.cells #[.slice Ao17 t216.length co17, .slice (some ⟨go10, 0, none⟩) t219.length co21] 29 (0, 0))) := ⟨by (with_reducible repeat (first | refine aN ?_ _ | refine aQ ?_ | refine aM ?_ _)); refine blk_far ?_ (by have h_ := Kd.N_away HO221.out (fun k_ hk => (by first | exact hk.1.2 | exact hk.1.1.2 | exact hk.1.1.2.1 | exact hk.1.1.2.2 | exact hk.1.1.2.2.1 | exact hk.1.1.2.2.2 | exact hk.1.2.1 | exact hk.1.2.2 | exact hk.1.2.2.1 | exact hk.1.2.2.2 | exact hk.1.2.2.2.1 | exact hk.1.2.2.2.2 : k_ ≠ gb222)); intro e_; exact h_ (by rw [e_]; rfl)) _; (with_reducible repeat (first | refine aN ?_ _ | refine aQ ?_ | refine aM ?_ _)); exact BK222.out⟩
     have n5_ : aA (Below w.heap.size w (w25.setCell ⟨go10, (a1 : Int).toNat, none⟩ ((.slice Az_ t225.length cz_)))) := ⟨by repeat (first | (with_reducible first | exact HB.out | apply aH | apply aC | apply aG | refine aJ ?_ GB10.out | refine aJ ?_ GE214.out | refine aJ ?_ GE215.out | refine aJ ?_ GE222.out) | exact HB.out)⟩
     (try clear HO218)
     (try clear HO221)
     (try clear BK214)
     (try clear BK215)
     (try clear BK222)
     (try clear HB)
     generalize (w25.setCell ⟨go10, (a1 : Int).toNat, none⟩ ((.slice Az_ t225.length cz_))) = w27 at n0_ n1_ n2_ n3_ n4_ n5_ ⊢
     have HO218 := n0_
     have HO221 := n1_
     have BK214 := n2_
     have BK215 := n3_
     have BK222 := n4_
     have HB := n5_
     clear n0_ n1_ n2_ n3_ n4_ n5_
     have hcz28_0 : w27.cell? ⟨gb222, 0, none⟩ = some (.slice Ao17 t216.length co17) := (aE BK222.out 0).trans rfl
     have hcz28_1 : w27.cell? ⟨gb222, 1, none⟩ = some (.slice (some ⟨go10, 0, none⟩) t219.length co21) := (aE BK222.out 1).trans rfl
     have hfz28_0 := aD BK222.out 0
     have hfz28_1 := aD BK222.out 1
     have hcz29_0 : w27.cell? ⟨gb215, 0, none⟩ = some (.slice none 0 0) := (aE BK215.out 0).trans rfl
     have hcz29_1 : w27.cell? ⟨gb215, 1, none⟩ = some (.slice none 0 0) := (aE BK215.out 1).trans rfl
     have hfz29_0 := aD BK215.out 0
     have hfz29_1 := aD BK215.out 1
     try go_wp2
     refine bodyPost_ret (results_cell_row rfl _ _ gb215 29 #[.slice Ao17 t216.length co17, .slice (some ⟨go10, 0, none⟩) t219.length co21] (0, 0) _ rfl (by (with_reducible repeat (first | refine aN ?_ _ | refine aQ ?_ | refine aM ?_ _)); refine bG (cs := #[.slice Ao17 t216.length co17, .slice none 0 0]) ?_ 1 _ rfl; (with_reducible repeat (first | refine aN ?_ _ | refine aQ ?_ | refine aM ?_ _)); refine bG (cs := #[.slice none 0 0, .slice none 0 0]) ?_ 0 _ rfl; (with_reducible repeat (first | refine aN ?_ _ | refine aQ ?_ | refine aM ?_ _)); exact BK215.out) Try.underlying29 rfl (by kernel_rfl)) rfl ?_
     exact ⟨_, _, by first | rfl | (simp [errW_none, errW_some] <;> rfl) | (simp [*, errW_none, errW_some] <;> rfl), by (with_reducible repeat (first | apply Kd.aY | apply Kd.aZ | apply Kd.bA)); exact Kd.bK (Kd.R_far (p := ⟨gb215, 1, none⟩) (Kd.R_far (p := ⟨gb215, 0, none⟩) (Kd.R_types HO218.out BK215.out (by decide)) (fun _ hk => hk.2) (.slice Ao17 t216.length co17)) (fun _ hk => hk.2) (.slice (some ⟨go10, 0, none⟩) t219.length co21)) (fun _ hk => hk.1), by (with_reducible repeat (first | apply Kd.N_alloc | apply Kd.N_drewN | apply Kd.N_drew)); exact Kd.N_mono (Kd.N_far (p := ⟨gb215, 1, none⟩) (Kd.N_far (p := ⟨gb215, 0, none⟩) (Kd.N_mono HO221.out (fun k_ hk => (⟨hk, hk.2.2.2.1⟩ : _ ∧ k_ ≠ gb215))) (fun _ hk => hk.2) (.slice Ao17 t216.length co17)) (fun _ hk => hk.2) (.slice (some ⟨go10, 0, none⟩) t219.length co21)) (fun _ hk => ⟨hk.1.1, hk.1.2.1⟩), by repeat (first | (with_reducible first | exact HB.out | apply aH | apply aC | apply aG | refine aJ ?_ GE214.out | refine aJ ?_ GE215.out | refine aJ ?_ GE222.out) | exact HB.out)⟩
    ·rw [if_neg c9] at H
     exact absurd H (by simp)
   ·rw [if_neg c7] at H
    exact absurd H (by simp)
  ·rw [if_neg c6] at H
   exact absurd H (by simp)
 ·replace c5 := Bool.eq_false_iff.mpr c5
  subst c5
  have H1 : (some (t216, t219)) = some (r1, r2) := by rw [if_neg (show ¬ (false = true) by decide)] at H; exact H
  clear H
  have H := H1
  clear H1
  simp only [Option.some.injEq, Prod.mk.injEq] at H
  obtain ⟨rfl, rfl⟩ := H
  go_enter Try.func7, Try.ntmps7
  go_wp2_with (first | ((with_reducible refine aW (N := 2) rfl ?_); refine aX ?hg (N := 2) ?hd (cs := #[.slice A0_0 l0_0.length c0_0, .slice A0_1 l0_1.length c0_1]) (t := 29) ?hr ?_; (case hd => rfl); (case hg => rfl); (case hr => first | (go_simp; done) | (go_simp; rfl)); intro gb214 hg w30 hbox hb; have n0_ := aA.mk (aU (by repeat (first | (with_reducible first | exact HB.out | apply aH | apply aC | apply aG) | exact HB.out)) hb); have n1_ := aA.mk (hbox); have n2_ := aA.mk ((by rw [hg]; exact (aT (by repeat (first | (with_reducible first | exact HB.out | apply aH | apply aC | apply aG) | exact HB.out))) : w.heap.size ≤ gb214)); have n3_ := aA.mk ((by rw [hg]; exact (aT (by repeat (first | (with_reducible first | exact HB.out | apply aH | apply aC | apply aG) | exact HB.out))) : w.heap.size ≤ gb214)); clear HB; have HB := n0_; have BK214 := n1_; have GW214 := n2_; have GE214 := n3_; clear n0_ n1_ n2_ n3_; clear hb hbox hg) | ((with_reducible refine aW (N := 4) rfl ?_); refine aX ?hg (N := 4) ?hd (cs := #[.slice none 0 0, .slice none 0 0]) (t := 29) ?hr ?_; (case hd => rfl); (case hg => rfl); (case hr => first | (go_simp; done) | (go_simp; rfl)); intro gb215 hg w31 hbox hb; have n0_ := aA.mk (aV (g := gb214) (o := .cells #[.slice A0_0 l0_0.length c0_0, .slice A0_1 l0_1.length c0_1] 29 (0, 0)) (by (with_reducible repeat (first | refine aN ?_ _ | refine aQ ?_ | refine aM ?_ _)); exact BK214.out) hb); have n1_ := aA.mk (aU (by repeat (first | (with_reducible first | exact HB.out | apply aH | apply aC | apply aG | refine aJ ?_ GE214.out) | exact HB.out)) hb); have n2_ := aA.mk (hbox); have n3_ := aA.mk ((by rw [hg]; exact (aT (by repeat (first | (with_reducible first | exact HB.out | apply aH | apply aC | apply aG | refine aJ ?_ GE214.out) | exact HB.out))) : w.heap.size ≤ gb215)); have n4_ := aA.mk ((by rw [hg]; exact (aT (by repeat (first | (with_reducible first | exact HB.out | apply aH | apply aC | apply aG | refine aJ ?_ GE214.out) | exact HB.out))) : w.heap.size ≤ gb215)); have n5_ := aA.mk ((by rw [hg]; exact Nat.ne_of_lt (bF (g := gb214) (o := .cells #[.slice A0_0 l0_0.length c0_0, .slice A0_1 l0_1.length c0_1] 29 (0, 0)) (by (with_reducible repeat (first | refine aN ?_ _ | refine aQ ?_ | refine aM ?_ _)); exact BK214.out)) : gb214 ≠ gb215)); have n6_ := aA.mk ((by rw [hg]; exact Nat.ne_of_gt (bF (g := gb214) (o := .cells #[.slice A0_0 l0_0.length c0_0, .slice A0_1 l0_1.length c0_1] 29 (0, 0)) (by (with_reducible repeat (first | refine aN ?_ _ | refine aQ ?_ | refine aM ?_ _)); exact BK214.out)) : gb215 ≠ gb214)); clear BK214; clear HB; have BK214 := n0_; have HB := n1_; have BK215 := n2_; have GW215 := n3_; have GE215 := n4_; have NB214_215 := n5_; have NB215_214 := n6_; clear n0_ n1_ n2_ n3_ n4_ n5_ n6_; clear hb hbox hg; have hnb32 := NB214_215.out; have hnc32 := NB215_214.out; have hcz33_0 : w31.cell? ⟨gb214, 0, none⟩ = some (.slice A0_0 l0_0.length c0_0) := (aE BK214.out 0).trans rfl; have hcz33_1 : w31.cell? ⟨gb214, 1, none⟩ = some (.slice A0_1 l0_1.length c0_1) := (aE BK214.out 1).trans rfl; have hfz33_0 := aD BK214.out 0; have hfz33_1 := aD BK214.out 1) | ((with_reducible refine bB (f := 26) rfl ?_); refine bP (some 7) rfl rfl Try.func26 (by kernel_rfl) rfl #[.agg #[.slice A0_0 l0_0.length c0_0, .slice A0_1 l0_1.length c0_1]] rfl (by (try simp only [List.map_toArray, List.map_cons, List.map_nil]); first | done | rfl | (simp only [List.length_drop, List.length_take]; rfl)) ?_; (with_reducible refine (spec_l6Copy.calls k _ _ l0_0 _ _ l0_1 t216 t219 _ ?side1 ?side2 ?side3 ?side4 A3.out).mono ?_); (case side1 => repeat (first | exact (Kd.bJ HR0_0.out HB.out) | (with_reducible refine Kd.bM ?_ _) | (with_reducible refine Kd.bN ?_ _) | (with_reducible refine Kd.bR ?_))); (case side2 => exact HC0_0.out); (case side3 => repeat (first | exact (Kd.bJ HR0_1.out HB.out) | (with_reducible refine Kd.bM ?_ _) | (with_reducible refine Kd.bN ?_ _) | (with_reducible refine Kd.bR ?_))); (case side4 => exact HC0_1.out); rintro e w34 ⟨v217, v220, rfl, ho0, ho1, hb⟩; refine ⟨_, rfl, ?_⟩; have n0_ := aA.mk (Kd.R_lower (Kd.R_newM (M := fun k_ => (w.heap.size ≤ k_)) ho0 (aT (by repeat (first | (with_reducible first | exact HB.out | apply aH | apply aC | apply aG | refine aJ ?_ GE214.out | refine aJ ?_ GE215.out) | exact HB.out))) (fun k_ h_ => h_)) (aT (by repeat (first | (with_reducible first | exact HB.out | apply aH | apply aC | apply aG | refine aJ ?_ GE214.out | refine aJ ?_ GE215.out) | exact HB.out)))); have n1_ := aA.mk (Kd.N_lower (Kd.N_mono (ok' := fun k_ => (w.heap.size ≤ k_) ∧ some k_ ≠ (v217 : Value).ownBlock ∧ k_ ≠ gb214 ∧ k_ ≠ gb215) (Kd.R_N (Kd.R_bound (Kd.R_apart' ho1 (Kd.R_typed ho0) (by decide)))) (fun k_ hk_ => ⟨(Nat.le_trans (aT (by repeat (first | (with_reducible first | exact HB.out | apply aH | apply aC | apply aG | refine aJ ?_ GE214.out | refine aJ ?_ GE215.out) | exact HB.out))) hk_.2.1), hk_.1.2, (Kd.freshB (g := gb214) (o := .cells #[.slice A0_0 l0_0.length c0_0, .slice A0_1 l0_1.length c0_1] 29 (0, 0)) (by (with_reducible repeat (first | refine aN ?_ _ | refine aQ ?_ | refine aM ?_ _)); exact BK214.out) k_ hk_.2.1), (Kd.freshB (g := gb215) (o := .cells #[.slice none 0 0, .slice none 0 0] 29 (0, 0)) (by (with_reducible repeat (first | refine aN ?_ _ | refine aQ ?_ | refine aM ?_ _)); exact BK215.out) k_ hk_.2.1)⟩)) (aT (by repeat (first | (with_reducible first | exact HB.out | apply aH | apply aC | apply aG | refine aJ ?_ GE214.out | refine aJ ?_ GE215.out) | exact HB.out)))); have n2_ := aA.mk (aV (g := gb214) (o := .cells #[.slice A0_0 l0_0.length c0_0, .slice A0_1 l0_1.length c0_1] 29 (0, 0)) (by (with_reducible repeat (first | refine aN ?_ _ | refine aQ ?_ | refine aM ?_ _)); exact BK214.out) hb); have n3_ := aA.mk (aV (g := gb215) (o := .cells #[.slice none 0 0, .slice none 0 0] 29 (0, 0)) (by (with_reducible repeat (first | refine aN ?_ _ | refine aQ ?_ | refine aM ?_ _)); exact BK215.out) hb); have n4_ := aA.mk (aU (by repeat (first | (with_reducible first | exact HB.out | apply aH | apply aC | apply aG | refine aJ ?_ GE214.out | refine aJ ?_ GE215.out) | exact HB.out)) hb); clear BK214; clear BK215; clear HB; have HO218 := n0_; have HO221 := n1_; have BK214 := n2_; have BK215 := n3_; have HB := n4_; clear n0_ n1_ n2_ n3_ n4_; (try clear hb); (try clear ho0); (try clear ho1)) | ((with_reducible refine aW (N := 5) rfl ?_); refine aX ?hg (N := 5) ?hd (cs := #[.slice none 0 0, .slice none 0 0]) (t := 29) ?hr ?_; (case hd => rfl); (case hg => rfl); (case hr => first | (go_simp; done) | (go_simp; rfl)); intro gb222 hg w35 hbox hb; have n0_ := aA.mk (Kd.bU (by (with_reducible repeat (first | apply Kd.aY | apply Kd.aZ | apply Kd.bA)); exact HO218.out) hb); have n1_ := aA.mk (Kd.N_below (Kd.N_elderB (by (with_reducible repeat (first | apply Kd.N_alloc | apply Kd.N_drewN | apply Kd.N_drew)); exact HO221.out) gb222 (Nat.le_of_eq hg.symm)) hb); have n2_ := aA.mk (aV (g := gb214) (o := .cells #[.slice A0_0 l0_0.length c0_0, .slice A0_1 l0_1.length c0_1] 29 (0, 0)) (by (with_reducible repeat (first | refine aN ?_ _ | refine aQ ?_ | refine aM ?_ _)); exact BK214.out) hb); have n3_ := aA.mk (aV (g := gb215) (o := .cells #[.slice none 0 0, .slice none 0 0] 29 (0, 0)) (by (with_reducible repeat (first | refine aN ?_ _ | refine aQ ?_ | refine aM ?_ _)); exact BK215.out) hb); have n4_ := aA.mk (aU (by repeat (first | (with_reducible first | exact HB.out | apply aH | apply aC | apply aG | refine aJ ?_ GE214.out | refine aJ ?_ GE215.out) | exact HB.out)) hb); have n5_ := aA.mk (hbox); have n6_ := aA.mk ((by rw [hg]; exact (aT (by repeat (first | (with_reducible first | exact HB.out | apply aH | apply aC | apply aG | refine aJ ?_ GE214.out | refine aJ ?_ GE215.out) | exact HB.out))) : w.heap.size ≤ gb222)); have n7_ := aA.mk ((by rw [hg]; exact (aT (by repeat (first | (with_reducible first | exact HB.out | apply aH | apply aC | apply aG | refine aJ ?_ GE214.out | refine aJ ?_ GE215.out) | exact HB.out))) : w.heap.size ≤ gb222)); have n8_ := aA.mk ((by rw [hg]; exact Nat.ne_of_lt (bF (g := gb214) (o := .cells #[.slice A0_0 l0_0.length c0_0, .slice A0_1 l0_1.length c0_1] 29 (0, 0)) (by (with_reducible repeat (first | refine aN ?_ _ | refine aQ ?_ | refine aM ?_ _)); exact BK214.out)) : gb214 ≠ gb222)); have n9_ := aA.mk ((by rw [hg]; exact Nat.ne_of_gt (bF (g := gb214) (o := .cells #[.slice A0_0 l0_0.length c0_0, .slice A0_1 l0_1.length c0_1] 29 (0, 0)) (by (with_reducible repeat (first | refine aN ?_ _ | refine aQ ?_ | refine aM ?_ _)); exact BK214.out)) : gb222 ≠ gb214)); have n10_ := aA.mk ((by rw [hg]; exact Nat.ne_of_lt (bF (g := gb215) (o := .cells #[.slice none 0 0, .slice none 0 0] 29 (0, 0)) (by (with_reducible repeat (first | refine aN ?_ _ | refine aQ ?_ | refine aM ?_ _)); exact BK215.out)) : gb215 ≠ gb222)); have n11_ := aA.mk ((by rw [hg]; exact Nat.ne_of_gt (bF (g := gb215) (o := .cells #[.slice none 0 0, .slice none 0 0] 29 (0, 0)) (by (with_reducible repeat (first | refine aN ?_ _ | refine aQ ?_ | refine aM ?_ _)); exact BK215.out)) : gb222 ≠ gb215)); clear HO218; clear HO221; clear BK214; clear BK215; clear HB; have HO218 := n0_; have HO221 := n1_; have BK214 := n2_; have BK215 := n3_; have HB := n4_; have BK222 := n5_; have GW222 := n6_; have GE222 := n7_; have NB214_222 := n8_; have NB222_214 := n9_; have NB215_222 := n10_; have NB222_215 := n11_; clear n0_ n1_ n2_ n3_ n4_ n5_ n6_ n7_ n8_ n9_ n10_ n11_; clear hb hbox hg; obtain ⟨Ao36, co36, eo36⟩ := Kd.R_slice HO218.out; subst eo36; have hnb37 := NB222_214.out; have hnc37 := NB214_222.out; have hnb38 := NB222_215.out; have hnc38 := NB215_222.out; have hcz39_0 : w35.cell? ⟨gb222, 0, none⟩ = some (.slice none 0 0) := (aE BK222.out 0).trans rfl; have hcz39_1 : w35.cell? ⟨gb222, 1, none⟩ = some (.slice none 0 0) := (aE BK222.out 1).trans rfl; have hfz39_0 := aD BK222.out 0; have hfz39_1 := aD BK222.out 1; obtain ⟨Ao40, co40, eo40⟩ := Kd.N_slice HO221.out; subst eo40; have hcz41_0 : w35.cell? ⟨gb214, 0, none⟩ = some (.slice A0_0 l0_0.length c0_0) := (aE BK214.out 0).trans rfl; have hcz41_1 : w35.cell? ⟨gb214, 1, none⟩ = some (.slice A0_1 l0_1.length c0_1) := (aE BK214.out 1).trans rfl; have hfz41_0 := aD BK214.out 0; have hfz41_1 := aD BK214.out 1) | ((with_reducible refine bB (f := 27) rfl ?_); refine bP (some 13) rfl rfl Try.func27 (by kernel_rfl) rfl #[.int .i64 a1, .int .i64 0, .int .i64 (wrap64 ((l0_1.length : Int) - 1))] rfl (by (try simp only [List.map_toArray, List.map_cons, List.map_nil]); first | done | rfl | (simp only [List.length_drop, List.length_take]; rfl)) ?_; (with_reducible refine (spec_l1In.calls a1 0 (wrap64 ((l0_1.length : Int) - 1)) false _ A4.out).mono ?_); rintro e w' ⟨rfl, ⟨nd, rfl⟩⟩; refine ⟨_, rfl, ?_⟩; have hcz42_0 : w35.cell? ⟨gb215, 0, none⟩ = some (.slice none 0 0) := (aE BK215.out 0).trans rfl; have hcz42_1 : w35.cell? ⟨gb215, 1, none⟩ = some (.slice none 0 0) := (aE BK215.out 1).trans rfl; have hfz42_0 := aD BK215.out 0; have hfz42_1 := aD BK215.out 1))
  refine bodyPost_ret (results_cell_row rfl _ _ gb215 29 #[.slice Ao36 t216.length co36, .slice Ao40 t219.length co40] (0, 0) _ rfl (by (with_reducible repeat (first | refine aN ?_ _ | refine aQ ?_ | refine aM ?_ _)); refine bG (cs := #[.slice Ao36 t216.length co36, .slice none 0 0]) ?_ 1 _ rfl; (with_reducible repeat (first | refine aN ?_ _ | refine aQ ?_ | refine aM ?_ _)); refine bG (cs := #[.slice none 0 0, .slice none 0 0]) ?_ 0 _ rfl; (with_reducible repeat (first | refine aN ?_ _ | refine aQ ?_ | refine aM ?_ _)); refine blk_far ?_ NB215_222.out _; (with_reducible repeat (first | refine aN ?_ _ | refine aQ ?_ | refine aM ?_ _)); refine blk_far ?_ NB215_222.out _; (with_reducible repeat (first | refine aN ?_ _ | refine aQ ?_ | refine aM ?_ _)); exact BK215.out) Try.underlying29 rfl (by kernel_rfl)) rfl ?_
  exact ⟨_, _, by first | rfl | (simp [errW_none, errW_some] <;> rfl) | (simp [*, errW_none, errW_some] <;> rfl), by (with_reducible repeat (first | apply Kd.aY | apply Kd.aZ | apply Kd.bA)); exact Kd.bK (Kd.R_far (p := ⟨gb215, 1, none⟩) (Kd.R_far (p := ⟨gb215, 0, none⟩) (Kd.R_far (p := ⟨gb222, 1, none⟩) (Kd.R_far (p := ⟨gb222, 0, none⟩) (Kd.R_types (Kd.R_types HO218.out BK222.out (by decide)) BK215.out (by decide)) (fun _ hk => hk.1.2) (.slice Ao36 t216.length co36)) (fun _ hk => hk.1.2) (.slice Ao40 t219.length co40)) (fun _ hk => hk.2) (.slice Ao36 t216.length co36)) (fun _ hk => hk.2) (.slice Ao40 t219.length co40)) (fun _ hk => hk.1.1.1), by (with_reducible repeat (first | apply Kd.N_alloc | apply Kd.N_drewN | apply Kd.N_drew)); exact Kd.N_mono (Kd.N_far (p := ⟨gb215, 1, none⟩) (Kd.N_far (p := ⟨gb215, 0, none⟩) (Kd.N_far (p := ⟨gb222, 1, none⟩) (Kd.N_far (p := ⟨gb222, 0, none⟩) (Kd.N_mono (Kd.N_mono HO221.out (fun k_ hk => (⟨hk, hk.2⟩ : _ ∧ k_ ≠ gb222))) (fun k_ hk => (⟨hk, hk.1.1.2.2.2⟩ : _ ∧ k_ ≠ gb215))) (fun _ hk => hk.1.2) (.slice Ao36 t216.length co36)) (fun _ hk => hk.1.2) (.slice Ao40 t219.length co40)) (fun _ hk => hk.2) (.slice Ao36 t216.length co36)) (fun _ hk => hk.2) (.slice Ao40 t219.length co40)) (fun _ hk => ⟨hk.1.1.1.1, hk.1.1.1.2.1⟩), by repeat (first | (with_reducible first | exact HB.out | apply aH | apply aC | apply aG | refine aJ ?_ GE214.out | refine aJ ?_ GE215.out | refine aJ ?_ GE222.out) | exact HB.out)⟩
def laws_toIntS.l0 : Nat → List Int → List Int → Int → Option (List Int)
 | 0, _, _, _ => none
 | k + 1, x0, x3, x4 => if x4 < (x0.length : Int) then (if 0 ≤ x4 then (if x4 < (x3.length : Int) then (laws_toIntS.l0 k x0 (x3.set (x4 : Int).toNat (rd x0 x4)) (wrap64 (x4 + 1))) else (none)) else (none)) else (some x3)
def laws_toIntS.f (k : Nat) (l0 : List Int) : Option (List Int) := if 0 ≤ (l0.length : Int) then (if ((l0.length : Int) : Int).toNat ≤ 35184372088832 then (laws_toIntS.l0 k l0 (List.replicate ((l0.length : Int) : Int).toNat 0) 0) else (none)) else (none)
set_option maxHeartbeats 8000000 in
set_option maxRecDepth 100000 in
theorem laws_toIntS.calls (k : Nat) (A0 : Option Addr) (c0 : Nat) (l0 : List Int) (r : List Int) (w : World) (hr0 : Kd.C (Kd.int .i64) w A0 l0.length l0) (hc0 : l0.length ≤ c0) (h : laws_toIntS.f k l0 = some r) :
  Calls Try.prog 29 #[.slice A0 l0.length c0] w fun e w' => ∃ v0_ : Value, e = .returned (v0_) ∧ Kd.R (Kd.int .i64) 3 w' w.heap.size (fun _ => True) v0_ r ∧ Below w.heap.size w w' := by
 have HR0 := aA.mk hr0
 have HC0 := aA.mk hc0
 clear hr0 hc0
 have HB := aA.mk (Below.refl w.heap.size w)
 have H : (if 0 ≤ (l0.length : Int) then (if ((l0.length : Int) : Int).toNat ≤ 35184372088832 then (laws_toIntS.l0 k l0 (List.replicate ((l0.length : Int) : Int).toNat 0) 0) else (none)) else (none)) = some r := h
 clear h
 by_cases c2 : 0 ≤ (l0.length : Int)
 ·rw [if_pos c2] at H
  have c2b0 := eq_true c2
  have c2b1 : decide (0 ≤ (l0.length : Int)) = true := decide_eq_true c2
  clear c2
  by_cases c3 : ((l0.length : Int) : Int).toNat ≤ 35184372088832
  ·rw [if_pos c3] at H
   have c3b0 := eq_true c3
   have c3b1 : decide (((l0.length : Int) : Int).toNat ≤ 35184372088832) = true := decide_eq_true c3
   clear c3
   obtain ⟨y229, hy229⟩ : ∃ y_ : List Int, y_ = (List.replicate ((l0.length : Int) : Int).toNat 0) := ⟨_, rfl⟩
   replace H : (laws_toIntS.l0 k l0 y229 0) = some r := by first | (rw [hy229]; with_reducible exact H) | (have H2_ := (Option.bind_some _ _).symm.trans H; rw [hy229]; with_reducible exact H2_) | (have H2_ := (Option.bind_some _ _).symm.trans H; with_reducible exact H2_) | with_reducible exact H | (rw [hy229]; exact H) | exact H
   have Ny229 := aA.mk hy229
   clear hy229
   have H' := aA.mk H
   clear H
   go_enter Try.func29, Try.ntmps29
   go_wp2_with (first | ((with_reducible refine aW (N := 7) rfl ?_); refine Kd.R_make (Kd.int .i64) _ 3 rfl (N := 7) rfl 22 _ _ rfl (l0.length : Int) rfl rfl Try.underlying22 (.int .i64 0) 8 info3 rfl (by decide) (by omega) 0 (ok := fun _ => True) (okp := fun _ => True) rfl (fun _ hk => hk) trivial (lE (by first | (with_reducible assumption) | assumption)) (Nat.le_trans (Nat.mul_le_mul_right _ (lE (by first | (with_reducible assumption) | assumption) : (l0.length : Int).toNat ≤ 35184372088832)) (by omega)) (Below.refl _ _) (Nat.le_refl _) ?_; intro v230 w4 ho5 hb hg_ hnew_; clear hg_ hnew_; (first | rw [← Ny229.out] at ho5 | (simp only [Int.reduceToNat] at ho5; rw [← Ny229.out] at ho5)); have n0_ := aA.mk (Kd.R_lower ho5 (aT (by repeat (first | (with_reducible first | exact HB.out | apply aH | apply aC | apply aG) | exact HB.out)))); have n1_ := aA.mk (aU (by repeat (first | (with_reducible first | exact HB.out | apply aH | apply aC | apply aG) | exact HB.out)) hb); clear HB; have HO231 := n0_; have HB := n1_; clear n0_ n1_; clear hb ho5))
   go_loopg [4] k (fun kq v4 w' => ∃ (x3_1 : List Int) (x4_1 : Int), v4 = .int .i64 x4_1 ∧ aA (laws_toIntS.l0 kq l0 x3_1 x4_1 = some r) ∧ aA (kq ≤ k) ∧ aA (Kd.R (Kd.int .i64) 3 w' w.heap.size (fun _ => True) v230 x3_1) ∧ aA (Below w.heap.size w w'))
   case atStart => exact ⟨(y229), (0), (by first | rfl | (simp; done) | (simp [*]; done)), H', ⟨Nat.le_refl _⟩, ⟨by (with_reducible repeat (first | apply Kd.aY | apply Kd.aZ | apply Kd.bA)); exact HO231.out⟩, ⟨by repeat (first | (with_reducible first | exact HB.out | apply aH | apply aC | apply aG) | exact HB.out)⟩⟩
   case round =>
    clear H'
    try clear c2
    try clear c2b0
    try clear c2b1
    try clear p2
    try clear c3
    try clear c3b0
    try clear c3b1
    obtain ⟨x3_1, x4_1, rfl, HA, HK1, HO_3, HB⟩ := hrel
    cases gk with
    | zero => exact absurd HA.out (by simp [laws_toIntS.l0])
    | succ k1 =>
     have H := HA.out
     clear HA
     simp only [laws_toIntS.l0] at H
     by_cases c6 : x4_1 < (l0.length : Int)
     ·rw [if_pos c6] at H
      have c6b0 : decide (x4_1 < (l0.length : Int)) = true := decide_eq_true c6
      clear c6
      by_cases c7 : 0 ≤ x4_1
      ·rw [if_pos c7] at H
       have c7b0 : decide (0 ≤ x4_1) = true := decide_eq_true c7
       clear c7
       by_cases c8 : x4_1 < (x3_1.length : Int)
       ·rw [if_pos c8] at H
        have c8b0 : decide (x4_1 < (x3_1.length : Int)) = true := decide_eq_true c8
        clear c8
        obtain ⟨y233, hy233⟩ : ∃ y_ : List Int, y_ = (x3_1.set (x4_1 : Int).toNat (rd l0 x4_1)) := ⟨_, rfl⟩
        replace H : (laws_toIntS.l0 k1 l0 y233 (wrap64 (x4_1 + 1))) = some r := by first | (rw [hy233]; with_reducible exact H) | (have H2_ := (Option.bind_some _ _).symm.trans H; rw [hy233]; with_reducible exact H2_) | (have H2_ := (Option.bind_some _ _).symm.trans H; with_reducible exact H2_) | with_reducible exact H | (rw [hy233]; exact H) | exact H
        have Ny233 := aA.mk hy233
        clear hy233
        have H' := aA.mk H
        clear H
        have p232 : 0 ≤ (x4_1 : Int) := lE (by first | (with_reducible assumption) | assumption)
        have q232 : x4_1 < (l0.length : Int) := lE (by first | (with_reducible assumption) | assumption)
        obtain ⟨ad232, e232, hx232_0⟩ := Kd.at_int HR0.out x4_1 p232 q232
        cases e232
        replace hx232_0 := (HB.out.cell (lD w _ hx232_0)).trans hx232_0
        replace p232 := eq_true p232
        replace q232 := eq_true q232
        have p9 : 0 ≤ (x4_1 : Int) := lE (by first | (with_reducible assumption) | assumption)
        have q9 : (x4_1 : Int) < ((x3_1.length : Int) : Int) := lE (by first | (with_reducible assumption) | assumption)
        obtain ⟨go9, co9, eo9, gb9, gl9, cl9, HG9⟩ := Kd.R_form HO_3.out (by omega)
        (first | cases eo9 | (injection eo9 with ea_ en_ ec_; (first | subst ea_ | (injection ea_ with ea_; subst ea_)); subst ec_; clear en_))
        have GB9 := aA.mk gb9
        have GG9 := aA.mk HG9
        clear gb9 gl9 HG9
        obtain ⟨hx9_0, hf9_0⟩ := Kd.R_celln 0 HO_3.out (x4_1 : Int) p9 q9
        replace p9 := eq_true p9
        replace q9 := eq_true q9
        have HP10 := Kd.R_putg HO_3.out (x4_1 : Int) (rd l0 x4_1)
        go_wp2_with (first | ((with_reducible refine gate_store (t := 3) (p := 20) rfl ?_); refine store_event (t := 3) (p := 20) (v := ?vo_w11) (w1 := (wr.setCell ⟨go9, (x4_1 : Int).toNat, none⟩ (.int .i64 (rd l0 x4_1)))) ?hg ?ho ?hn ?hr ?_; (case ho => rfl); (case hg => rfl); (case hn => rfl); (case hr => first | (go_simp; done) | (go_simp; rfl)); intro w11 hw; have hg : wr.grownBy w11 (some go9) := (by rw [hw]; exact HP10.2); have hp_ : Kd.R (Kd.int .i64) 3 w11 w.heap.size (fun _ => True) (.slice (some ⟨go9, 0, none⟩) x3_1.length co9) y233 := (by rw [hw, Ny233.out]; exact HP10.1); clear HP10; have n0_ := aA.mk (hp_); have n1_ := aA.mk ((by rw [hw]; exact aJ (HB.out) GB9.out : Below w.heap.size w w11)); clear HO_3; clear HB; have HO_3 := n0_; have HB := n1_; clear n0_ n1_; clear hg hw hp_))
        go_roundg k1
        case measure => have := HK1.out; omega
        case rel => exact ⟨(y233), (wrap64 (x4_1 + 1)), (by first | rfl | (simp; done) | (simp [*]; done)), H', ⟨by have := HK1.out; omega⟩, ⟨by (with_reducible repeat (first | apply Kd.aY | apply Kd.aZ | apply Kd.bA)); exact HO_3.out⟩, ⟨by repeat (first | (with_reducible first | exact HB.out | apply aH | apply aC | apply aG) | exact HB.out)⟩⟩
       ·rw [if_neg c8] at H
        exact absurd H (by simp)
      ·rw [if_neg c7] at H
       exact absurd H (by simp)
     ·rw [if_neg c6] at H
      have c6b0 : decide (x4_1 < (l0.length : Int)) = false := decide_eq_false c6
      clear c6
      obtain rfl := Option.some.inj H
      go_wp2
      go_ret
      exact ⟨_, by first | rfl | (simp [errW_none, errW_some] <;> rfl) | (simp [*, errW_none, errW_some] <;> rfl), by (with_reducible repeat (first | apply Kd.aY | apply Kd.aZ | apply Kd.bA)); exact HO_3.out, by repeat (first | (with_reducible first | exact HB.out | apply aH | apply aC | apply aG) | exact HB.out)⟩
  ·rw [if_neg c3] at H
   exact absurd H (by simp)
 ·rw [if_neg c2] at H
  exact absurd H (by simp)
def laws_toKey.f (a0_0 : Int) (a0_1 : Int) (a0_2 : Int) (a0_3 : Int) (a0_4 : Int) : Option (Int × Int × Int × Int × Int) := some (a0_0, a0_1, a0_2, a0_3, a0_4)
set_option maxHeartbeats 8000000 in
set_option maxRecDepth 100000 in
theorem laws_toKey.calls (a0_0 : Int) (a0_1 : Int) (a0_2 : Int) (a0_3 : Int) (a0_4 : Int) (r1 : Int) (r2 : Int) (r3 : Int) (r4 : Int) (r5 : Int) (w : World) (h : laws_toKey.f a0_0 a0_1 a0_2 a0_3 a0_4 = some (r1, r2, r3, r4, r5)) :
  Calls Try.prog 22 #[.agg #[.int .i64 a0_0, .int .i64 a0_1, .int .i64 a0_2, .int .i64 a0_3, .int .i64 a0_4]] w fun e w' => e = .returned (.agg #[.int .i64 r1, .int .i64 r2, .int .i64 r3, .int .i64 r4, .int .i64 r5]) ∧ Below w.heap.size w w' := by
 have hu48 := Try.underlying48
 have hu38 := Try.underlying38
 have HB := aA.mk (Below.refl w.heap.size w)
 have H : (some (a0_0, a0_1, a0_2, a0_3, a0_4)) = some (r1, r2, r3, r4, r5) := h
 clear h
 simp only [Option.some.injEq, Prod.mk.injEq] at H
 obtain ⟨rfl, rfl, rfl, rfl, rfl⟩ := H
 go_enter Try.func22, Try.ntmps22
 go_wp2_with (first | ((with_reducible refine aW (N := 1) rfl ?_); refine aX ?hg (N := 1) ?hd (cs := #[.int .i64 a0_0, .int .i64 a0_1, .int .i64 a0_2, .int .i64 a0_3, .int .i64 a0_4]) (t := 48) ?hr ?_; (case hd => rfl); (case hg => rfl); (case hr => first | (go_simp; done) | (go_simp; rfl)); intro gb234 hg w2 hbox hb; have n0_ := aA.mk (aU (by repeat (first | (with_reducible first | exact HB.out | apply aH | apply aC | apply aG) | exact HB.out)) hb); have n1_ := aA.mk (hbox); have n2_ := aA.mk ((by rw [hg]; exact (aT (by repeat (first | (with_reducible first | exact HB.out | apply aH | apply aC | apply aG) | exact HB.out))) : w.heap.size ≤ gb234)); have n3_ := aA.mk ((by rw [hg]; exact (aT (by repeat (first | (with_reducible first | exact HB.out | apply aH | apply aC | apply aG) | exact HB.out))) : w.heap.size ≤ gb234)); clear HB; have HB := n0_; have BK234 := n1_; have GW234 := n2_; have GE234 := n3_; clear n0_ n1_ n2_ n3_; clear hb hbox hg) | ((with_reducible refine aW (N := 2) rfl ?_); refine aX ?hg (N := 2) ?hd (cs := #[.int .i64 0, .int .i64 0, .int .i64 0, .int .i64 0, .int .i64 0]) (t := 38) ?hr ?_; (case hd => rfl); (case hg => rfl); (case hr => first | (go_simp; done) | (go_simp; rfl)); intro gb235 hg w3 hbox hb; have n0_ := aA.mk (aV (g := gb234) (o := .cells #[.int .i64 a0_0, .int .i64 a0_1, .int .i64 a0_2, .int .i64 a0_3, .int .i64 a0_4] 48 (0, 0)) (by (with_reducible repeat (first | refine aN ?_ _ | refine aQ ?_ | refine aM ?_ _)); exact BK234.out) hb); have n1_ := aA.mk (aU (by repeat (first | (with_reducible first | exact HB.out | apply aH | apply aC | apply aG | refine aJ ?_ GE234.out) | exact HB.out)) hb); have n2_ := aA.mk (hbox); have n3_ := aA.mk ((by rw [hg]; exact (aT (by repeat (first | (with_reducible first | exact HB.out | apply aH | apply aC | apply aG | refine aJ ?_ GE234.out) | exact HB.out))) : w.heap.size ≤ gb235)); have n4_ := aA.mk ((by rw [hg]; exact (aT (by repeat (first | (with_reducible first | exact HB.out | apply aH | apply aC | apply aG | refine aJ ?_ GE234.out) | exact HB.out))) : w.heap.size ≤ gb235)); have n5_ := aA.mk ((by rw [hg]; exact Nat.ne_of_lt (bF (g := gb234) (o := .cells #[.int .i64 a0_0, .int .i64 a0_1, .int .i64 a0_2, .int .i64 a0_3, .int .i64 a0_4] 48 (0, 0)) (by (with_reducible repeat (first | refine aN ?_ _ | refine aQ ?_ | refine aM ?_ _)); exact BK234.out)) : gb234 ≠ gb235)); have n6_ := aA.mk ((by rw [hg]; exact Nat.ne_of_gt (bF (g := gb234) (o := .cells #[.int .i64 a0_0, .int .i64 a0_1, .int .i64 a0_2, .int .i64 a0_3, .int .i64 a0_4] 48 (0, 0)) (by (with_reducible repeat (first | refine aN ?_ _ | refine aQ ?_ | refine aM ?_ _)); exact BK234.out)) : gb235 ≠ gb234)); clear BK234; clear HB; have BK234 := n0_; have HB := n1_; have BK235 := n2_; have GW235 := n3_; have GE235 := n4_; have NB234_235 := n5_; have NB235_234 := n6_; clear n0_ n1_ n2_ n3_ n4_ n5_ n6_; clear hb hbox hg) | ((with_reducible refine aW (N := 3) rfl ?_); refine aX ?hg (N := 3) ?hd (cs := #[.int .i64 0, .int .i64 0, .int .i64 0, .int .i64 0, .int .i64 0]) (t := 38) ?hr ?_; (case hd => rfl); (case hg => rfl); (case hr => first | (go_simp; done) | (go_simp; rfl)); intro gb236 hg w4 hbox hb; have n0_ := aA.mk (aV (g := gb234) (o := .cells #[.int .i64 a0_0, .int .i64 a0_1, .int .i64 a0_2, .int .i64 a0_3, .int .i64 a0_4] 48 (0, 0)) (by (with_reducible repeat (first | refine aN ?_ _ | refine aQ ?_ | refine aM ?_ _)); exact BK234.out) hb); have n1_ := aA.mk (aV (g := gb235) (o := .cells #[.int .i64 0, .int .i64 0, .int .i64 0, .int .i64 0, .int .i64 0] 38 (0, 0)) (by (with_reducible repeat (first | refine aN ?_ _ | refine aQ ?_ | refine aM ?_ _)); exact BK235.out) hb); have n2_ := aA.mk (aU (by repeat (first | (with_reducible first | exact HB.out | apply aH | apply aC | apply aG | refine aJ ?_ GE234.out | refine aJ ?_ GE235.out) | exact HB.out)) hb); have n3_ := aA.mk (hbox); have n4_ := aA.mk ((by rw [hg]; exact (aT (by repeat (first | (with_reducible first | exact HB.out | apply aH | apply aC | apply aG | refine aJ ?_ GE234.out | refine aJ ?_ GE235.out) | exact HB.out))) : w.heap.size ≤ gb236)); have n5_ := aA.mk ((by rw [hg]; exact (aT (by repeat (first | (with_reducible first | exact HB.out | apply aH | apply aC | apply aG | refine aJ ?_ GE234.out | refine aJ ?_ GE235.out) | exact HB.out))) : w.heap.size ≤ gb236)); have n6_ := aA.mk ((by rw [hg]; exact Nat.ne_of_lt (bF (g := gb234) (o := .cells #[.int .i64 a0_0, .int .i64 a0_1, .int .i64 a0_2, .int .i64 a0_3, .int .i64 a0_4] 48 (0, 0)) (by (with_reducible repeat (first | refine aN ?_ _ | refine aQ ?_ | refine aM ?_ _)); exact BK234.out)) : gb234 ≠ gb236)); have n7_ := aA.mk ((by rw [hg]; exact Nat.ne_of_gt (bF (g := gb234) (o := .cells #[.int .i64 a0_0, .int .i64 a0_1, .int .i64 a0_2, .int .i64 a0_3, .int .i64 a0_4] 48 (0, 0)) (by (with_reducible repeat (first | refine aN ?_ _ | refine aQ ?_ | refine aM ?_ _)); exact BK234.out)) : gb236 ≠ gb234)); have n8_ := aA.mk ((by rw [hg]; exact Nat.ne_of_lt (bF (g := gb235) (o := .cells #[.int .i64 0, .int .i64 0, .int .i64 0, .int .i64 0, .int .i64 0] 38 (0, 0)) (by (with_reducible repeat (first | refine aN ?_ _ | refine aQ ?_ | refine aM ?_ _)); exact BK235.out)) : gb235 ≠ gb236)); have n9_ := aA.mk ((by rw [hg]; exact Nat.ne_of_gt (bF (g := gb235) (o := .cells #[.int .i64 0, .int .i64 0, .int .i64 0, .int .i64 0, .int .i64 0] 38 (0, 0)) (by (with_reducible repeat (first | refine aN ?_ _ | refine aQ ?_ | refine aM ?_ _)); exact BK235.out)) : gb236 ≠ gb235)); clear BK234; clear BK235; clear HB; have BK234 := n0_; have BK235 := n1_; have HB := n2_; have BK236 := n3_; have GW236 := n4_; have GE236 := n5_; have NB234_236 := n6_; have NB236_234 := n7_; have NB235_236 := n8_; have NB236_235 := n9_; clear n0_ n1_ n2_ n3_ n4_ n5_ n6_ n7_ n8_ n9_; clear hb hbox hg; have hnb5 := NB234_235.out; have hnc5 := NB235_234.out; have hnb6 := NB234_236.out; have hnc6 := NB236_234.out; have hcz7_0 : w4.cell? ⟨gb234, 0, none⟩ = some (.int .i64 a0_0) := (aE BK234.out 0).trans rfl; have hcz7_1 : w4.cell? ⟨gb234, 1, none⟩ = some (.int .i64 a0_1) := (aE BK234.out 1).trans rfl; have hcz7_2 : w4.cell? ⟨gb234, 2, none⟩ = some (.int .i64 a0_2) := (aE BK234.out 2).trans rfl; have hcz7_3 : w4.cell? ⟨gb234, 3, none⟩ = some (.int .i64 a0_3) := (aE BK234.out 3).trans rfl; have hcz7_4 : w4.cell? ⟨gb234, 4, none⟩ = some (.int .i64 a0_4) := (aE BK234.out 4).trans rfl; have hfz7_0 := aD BK234.out 0; have hfz7_1 := aD BK234.out 1; have hfz7_2 := aD BK234.out 2; have hfz7_3 := aD BK234.out 3; have hfz7_4 := aD BK234.out 4; have hnb8 := NB236_235.out; have hnc8 := NB235_236.out; have hcz9_0 : w4.cell? ⟨gb236, 0, none⟩ = some (.int .i64 0) := (aE BK236.out 0).trans rfl; have hcz9_1 : w4.cell? ⟨gb236, 1, none⟩ = some (.int .i64 0) := (aE BK236.out 1).trans rfl; have hcz9_2 : w4.cell? ⟨gb236, 2, none⟩ = some (.int .i64 0) := (aE BK236.out 2).trans rfl; have hcz9_3 : w4.cell? ⟨gb236, 3, none⟩ = some (.int .i64 0) := (aE BK236.out 3).trans rfl; have hcz9_4 : w4.cell? ⟨gb236, 4, none⟩ = some (.int .i64 0) := (aE BK236.out 4).trans rfl; have hfz9_0 := aD BK236.out 0; have hfz9_1 := aD BK236.out 1; have hfz9_2 := aD BK236.out 2; have hfz9_3 := aD BK236.out 3; have hfz9_4 := aD BK236.out 4; have hcz10_0 : w4.cell? ⟨gb235, 0, none⟩ = some (.int .i64 0) := (aE BK235.out 0).trans rfl; have hcz10_1 : w4.cell? ⟨gb235, 1, none⟩ = some (.int .i64 0) := (aE BK235.out 1).trans rfl; have hcz10_2 : w4.cell? ⟨gb235, 2, none⟩ = some (.int .i64 0) := (aE BK235.out 2).trans rfl; have hcz10_3 : w4.cell? ⟨gb235, 3, none⟩ = some (.int .i64 0) := (aE BK235.out 3).trans rfl; have hcz10_4 : w4.cell? ⟨gb235, 4, none⟩ = some (.int .i64 0) := (aE BK235.out 4).trans rfl; have hfz10_0 := aD BK235.out 0; have hfz10_1 := aD BK235.out 1; have hfz10_2 := aD BK235.out 2; have hfz10_3 := aD BK235.out 3; have hfz10_4 := aD BK235.out 4))
 refine bodyPost_ret (results_cell_row rfl _ _ gb235 38 #[.int .i64 a0_0, .int .i64 a0_1, .int .i64 a0_2, .int .i64 a0_3, .int .i64 a0_4] (0, 0) _ rfl (by (with_reducible repeat (first | refine aN ?_ _ | refine aQ ?_ | refine aM ?_ _)); refine bG (cs := #[.int .i64 a0_0, .int .i64 a0_1, .int .i64 a0_2, .int .i64 a0_3, .int .i64 0]) ?_ 4 _ rfl; (with_reducible repeat (first | refine aN ?_ _ | refine aQ ?_ | refine aM ?_ _)); refine bG (cs := #[.int .i64 a0_0, .int .i64 a0_1, .int .i64 a0_2, .int .i64 0, .int .i64 0]) ?_ 3 _ rfl; (with_reducible repeat (first | refine aN ?_ _ | refine aQ ?_ | refine aM ?_ _)); refine bG (cs := #[.int .i64 a0_0, .int .i64 a0_1, .int .i64 0, .int .i64 0, .int .i64 0]) ?_ 2 _ rfl; (with_reducible repeat (first | refine aN ?_ _ | refine aQ ?_ | refine aM ?_ _)); refine bG (cs := #[.int .i64 a0_0, .int .i64 0, .int .i64 0, .int .i64 0, .int .i64 0]) ?_ 1 _ rfl; (with_reducible repeat (first | refine aN ?_ _ | refine aQ ?_ | refine aM ?_ _)); refine bG (cs := #[.int .i64 0, .int .i64 0, .int .i64 0, .int .i64 0, .int .i64 0]) ?_ 0 _ rfl; (with_reducible repeat (first | refine aN ?_ _ | refine aQ ?_ | refine aM ?_ _)); refine blk_far ?_ NB235_236.out _; (with_reducible repeat (first | refine aN ?_ _ | refine aQ ?_ | refine aM ?_ _)); refine blk_far ?_ NB235_236.out _; (with_reducible repeat (first | refine aN ?_ _ | refine aQ ?_ | refine aM ?_ _)); refine blk_far ?_ NB235_236.out _; (with_reducible repeat (first | refine aN ?_ _ | refine aQ ?_ | refine aM ?_ _)); refine blk_far ?_ NB235_236.out _; (with_reducible repeat (first | refine aN ?_ _ | refine aQ ?_ | refine aM ?_ _)); refine blk_far ?_ NB235_236.out _; (with_reducible repeat (first | refine aN ?_ _ | refine aQ ?_ | refine aM ?_ _)); exact BK235.out) Try.underlying38 rfl (by kernel_rfl)) rfl ?_
 exact ⟨by first | rfl | (simp [errW_none, errW_some] <;> rfl) | (simp [*, errW_none, errW_some] <;> rfl), by repeat (first | (with_reducible first | exact HB.out | apply aH | apply aC | apply aG | refine aJ ?_ GE234.out | refine aJ ?_ GE235.out | refine aJ ?_ GE236.out) | exact HB.out)⟩
end Go.Proofs.Ytamjbjkbineafaa.PFnExactTreePack

namespace Go.Proofs.Ytamjbjkbineafaa.PFnExactTreePack
open Go.RowKit Go.Proofs.YtamjbjkbineafaaW.PrintWords Go.Proofs.YtamjbjkbineafaaW.PrintLast Go.Proofs.YtamjbjkbineafaaW.PrintMore
attribute [local go_sem] max2_int min2_int max_two min_two max_three min_three max_four min_four   -- for this text's walks alone
set_option linter.unusedVariables false
set_option linter.unusedSimpArgs false
def laws_toKeyS.l0 : Nat → List (S48) → List (S38) → Int → Option ((List (S38)))
 | 0, _, _, _ => none
 | k + 1, x0, x3, x4 => if x4 < (x0.length : Int) then (if 0 ≤ x4 then ((laws_toKey.f ((rd_T48 x0 x4).f0) ((rd_T48 x0 x4).f1) ((rd_T48 x0 x4).f2) ((rd_T48 x0 x4).f3) ((rd_T48 x0 x4).f4)).bind fun bt241 => (if x4 < (x3.length : Int) then (laws_toKeyS.l0 k x0 (x3.set (x4 : Int).toNat (⟨bt241.1, bt241.2.1, bt241.2.2.1, bt241.2.2.2.1, bt241.2.2.2.2⟩ : S38)) (wrap64 (x4 + 1))) else (none))) else (none)) else (some x3)
def laws_toKeyS.f (k : Nat) (l0 : List (S48)) : Option ((List (S38))) := if 0 ≤ (l0.length : Int) then (if ((l0.length : Int) : Int).toNat ≤ 7036874417766 then (laws_toKeyS.l0 k l0 (List.replicate ((l0.length : Int) : Int).toNat z38) 0) else (none)) else (none)
set_option maxHeartbeats 8000000 in
set_option maxRecDepth 100000 in
theorem laws_toKeyS.calls (k : Nat) (A0 : Option Addr) (c0 : Nat) (l0 : List (S48)) (r : List (S38)) (w : World) (hr0 : Kd.C k48 w A0 l0.length l0) (hc0 : l0.length ≤ c0) (h : laws_toKeyS.f k l0 = some r) :
  Calls Try.prog 104 #[.slice A0 l0.length c0] w fun e w' => ∃ v0_ : Value, e = .returned (v0_) ∧ Kd.R k38 38 w' w.heap.size (fun _ => True) v0_ r ∧ Below w.heap.size w w' := by
 have hu48 := Try.underlying48
 have hu38 := Try.underlying38
 have HR0 := aA.mk hr0
 have HC0 := aA.mk hc0
 clear hr0 hc0
 have HB := aA.mk (Below.refl w.heap.size w)
 have H : (if 0 ≤ (l0.length : Int) then (if ((l0.length : Int) : Int).toNat ≤ 7036874417766 then (laws_toKeyS.l0 k l0 (List.replicate ((l0.length : Int) : Int).toNat z38) 0) else (none)) else (none)) = some r := h
 clear h
 by_cases c2 : 0 ≤ (l0.length : Int)
 ·rw [if_pos c2] at H
  have c2b0 := eq_true c2
  have c2b1 : decide (0 ≤ (l0.length : Int)) = true := decide_eq_true c2
  clear c2
  by_cases c3 : ((l0.length : Int) : Int).toNat ≤ 7036874417766
  ·rw [if_pos c3] at H
   have c3b0 := eq_true c3
   have c3b1 : decide (((l0.length : Int) : Int).toNat ≤ 7036874417766) = true := decide_eq_true c3
   clear c3
   obtain ⟨y237, hy237⟩ : ∃ y_ : List (S38), y_ = (List.replicate ((l0.length : Int) : Int).toNat z38) := ⟨_, rfl⟩
   replace H : (laws_toKeyS.l0 k l0 y237 0) = some r := by first | (rw [hy237]; with_reducible exact H) | (have H2_ := (Option.bind_some _ _).symm.trans H; rw [hy237]; with_reducible exact H2_) | (have H2_ := (Option.bind_some _ _).symm.trans H; with_reducible exact H2_) | with_reducible exact H | (rw [hy237]; exact H) | exact H
   have Ny237 := aA.mk hy237
   clear hy237
   have H' := aA.mk H
   clear H
   go_enter Try.func104, Try.ntmps104
   go_wp2_with (first | ((with_reducible refine aW (N := 7) rfl ?_); refine Kd.R_make k38 _ 38 rfl (N := 7) rfl 45 _ _ rfl (l0.length : Int) rfl rfl Try.underlying45 (.agg #[(.int .i64 0), (.int .i64 0), (.int .i64 0), (.int .i64 0), (.int .i64 0)]) 40 info38 rfl (by decide) (by omega) z38 (ok := fun _ => True) (okp := fun _ => True) (k38_mkM _ _ _ z38 ) (fun _ hk => hk) trivial (lE (by first | (with_reducible assumption) | assumption)) (Nat.le_trans (Nat.mul_le_mul_right _ (lE (by first | (with_reducible assumption) | assumption) : (l0.length : Int).toNat ≤ 7036874417766)) (by omega)) (Below.refl _ _) (Nat.le_refl _) ?_; intro v238 w4 ho5 hb hg_ hnew_; clear hg_ hnew_; (first | rw [← Ny237.out] at ho5 | (simp only [Int.reduceToNat] at ho5; rw [← Ny237.out] at ho5)); have n0_ := aA.mk (Kd.R_lower ho5 (aT (by repeat (first | (with_reducible first | exact HB.out | apply aH | apply aC | apply aG) | exact HB.out)))); have n1_ := aA.mk (aU (by repeat (first | (with_reducible first | exact HB.out | apply aH | apply aC | apply aG) | exact HB.out)) hb); clear HB; have HO239 := n0_; have HB := n1_; clear n0_ n1_; clear hb ho5))
   go_loopg [4] k (fun kq v4 w' => ∃ (x3_1 : List (S38)) (x4_1 : Int), v4 = .int .i64 x4_1 ∧ aA (laws_toKeyS.l0 kq l0 x3_1 x4_1 = some r) ∧ aA (kq ≤ k) ∧ aA (Kd.R k38 38 w' w.heap.size (fun _ => True) v238 x3_1) ∧ aA (Below w.heap.size w w'))
   case atStart => exact ⟨(y237), (0), (by first | rfl | (simp; done) | (simp [*]; done)), H', ⟨Nat.le_refl _⟩, ⟨by (with_reducible repeat (first | apply Kd.aY | apply Kd.aZ | apply Kd.bA)); exact HO239.out⟩, ⟨by repeat (first | (with_reducible first | exact HB.out | apply aH | apply aC | apply aG) | exact HB.out)⟩⟩
   case round =>
    clear H'
    try clear c1
    try clear c2
    try clear c2b0
    try clear c2b1
    try clear p2
    try clear c3
    try clear c3b0
    try clear c3b1
    obtain ⟨x3_1, x4_1, rfl, HA, HK1, HO_3, HB⟩ := hrel
    cases gk with
    | zero => exact absurd HA.out (by simp [laws_toKeyS.l0])
    | succ k1 =>
     have H := HA.out
     clear HA
     simp only [laws_toKeyS.l0] at H
     by_cases c6 : x4_1 < (l0.length : Int)
     ·rw [if_pos c6] at H
      have c6b0 : decide (x4_1 < (l0.length : Int)) = true := decide_eq_true c6
      clear c6
      by_cases c7 : 0 ≤ x4_1
      ·rw [if_pos c7] at H
       have c7b0 : decide (0 ≤ x4_1) = true := decide_eq_true c7
       clear c7
       replace H := lF H
       obtain ⟨⟨t241, t242, t243, t244, t245⟩, A80, H⟩ := H
       replace H : (if x4_1 < (x3_1.length : Int) then (laws_toKeyS.l0 k1 l0 (x3_1.set (x4_1 : Int).toNat (⟨t241, t242, t243, t244, t245⟩ : S38)) (wrap64 (x4_1 + 1))) else (none)) = some r := H
       have A8 := aA.mk A80
       clear A80
       by_cases c9 : x4_1 < (x3_1.length : Int)
       ·rw [if_pos c9] at H
        have c9b0 : decide (x4_1 < (x3_1.length : Int)) = true := decide_eq_true c9
        clear c9
        obtain ⟨y246, hy246⟩ : ∃ y_ : List (S38), y_ = (x3_1.set (x4_1 : Int).toNat (⟨t241, t242, t243, t244, t245⟩ : S38)) := ⟨_, rfl⟩
        replace H : (laws_toKeyS.l0 k1 l0 y246 (wrap64 (x4_1 + 1))) = some r := by first | (rw [hy246]; with_reducible exact H) | (have H2_ := (Option.bind_some _ _).symm.trans H; rw [hy246]; with_reducible exact H2_) | (have H2_ := (Option.bind_some _ _).symm.trans H; with_reducible exact H2_) | with_reducible exact H | (rw [hy246]; exact H) | exact H
        have Ny246 := aA.mk hy246
        clear hy246
        have H' := aA.mk H
        clear H
        have p240 : 0 ≤ (x4_1 : Int) := lE (by first | (with_reducible assumption) | assumption)
        have q240 : x4_1 < (l0.length : Int) := lE (by first | (with_reducible assumption) | assumption)
        obtain ⟨ad240, e240, hx240_0, hx240_1, hx240_2, hx240_3, hx240_4⟩ := at_T48 HR0.out x4_1 p240 q240
        cases e240
        replace hx240_0 := (HB.out.cell (lD w _ hx240_0)).trans hx240_0
        replace hx240_1 := (HB.out.cell (lD w _ hx240_1)).trans hx240_1
        replace hx240_2 := (HB.out.cell (lD w _ hx240_2)).trans hx240_2
        replace hx240_3 := (HB.out.cell (lD w _ hx240_3)).trans hx240_3
        replace hx240_4 := (HB.out.cell (lD w _ hx240_4)).trans hx240_4
        replace p240 := eq_true p240
        replace q240 := eq_true q240
        go_wp2_with (first | ((with_reducible refine bB (f := 22) rfl ?_); refine bP (some 20) rfl rfl Try.func22 (by kernel_rfl) rfl #[.agg #[.int .i64 ((rd_T48 l0 x4_1).f0), .int .i64 ((rd_T48 l0 x4_1).f1), .int .i64 ((rd_T48 l0 x4_1).f2), .int .i64 ((rd_T48 l0 x4_1).f3), .int .i64 ((rd_T48 l0 x4_1).f4)]] rfl (by (try simp only [List.map_toArray, List.map_cons, List.map_nil]); first | done | rfl | (simp only [List.length_drop, List.length_take]; rfl)) ?_; (with_reducible refine (laws_toKey.calls ((rd_T48 l0 x4_1).f0) ((rd_T48 l0 x4_1).f1) ((rd_T48 l0 x4_1).f2) ((rd_T48 l0 x4_1).f3) ((rd_T48 l0 x4_1).f4) t241 t242 t243 t244 t245 _ A8.out).mono ?_); rintro e w11 ⟨rfl, hb⟩; refine ⟨_, rfl, ?_⟩; have n0_ := aA.mk (Kd.bU (by (with_reducible repeat (first | apply Kd.aY | apply Kd.aZ | apply Kd.bA)); exact HO_3.out) hb); have n1_ := aA.mk (aU (by repeat (first | (with_reducible first | exact HB.out | apply aH | apply aC | apply aG) | exact HB.out)) hb); clear HO_3; clear HB; have HO_3 := n0_; have HB := n1_; clear n0_ n1_; (try clear hb); (try clear hk); have p10 : 0 ≤ (x4_1 : Int) := lE (by first | (with_reducible assumption) | assumption); have q10 : (x4_1 : Int) < ((x3_1.length : Int) : Int) := lE (by first | (with_reducible assumption) | assumption); obtain ⟨go10, co10, eo10, gb10, gl10, cl10, HG10⟩ := Kd.R_form HO_3.out (by omega); (first | cases eo10 | (injection eo10 with ea_ en_ ec_; (first | subst ea_ | (injection ea_ with ea_; subst ea_)); subst ec_; clear en_)); have GB10 := aA.mk gb10; have GG10 := aA.mk HG10; clear gb10 gl10 HG10; obtain ⟨ce10, hcl10, hM10, hcc10, hfr10⟩ := Kd.R_elem HO_3.out z38 (x4_1 : Int) p10 q10; obtain rfl := k38_openM hM10; have hx10_0 : w11.cell? ⟨go10, (x4_1 : Int).toNat * 5, none⟩ = some (.int .i64 ((rd_T38 x3_1 x4_1).f0)) := hcc10 0 _ rfl; have hx10_1 : w11.cell? ⟨go10, (x4_1 : Int).toNat * 5 + 1, none⟩ = some (.int .i64 ((rd_T38 x3_1 x4_1).f1)) := hcc10 1 _ rfl; have hx10_2 : w11.cell? ⟨go10, (x4_1 : Int).toNat * 5 + 2, none⟩ = some (.int .i64 ((rd_T38 x3_1 x4_1).f2)) := hcc10 2 _ rfl; have hx10_3 : w11.cell? ⟨go10, (x4_1 : Int).toNat * 5 + 3, none⟩ = some (.int .i64 ((rd_T38 x3_1 x4_1).f3)) := hcc10 3 _ rfl; have hx10_4 : w11.cell? ⟨go10, (x4_1 : Int).toNat * 5 + 4, none⟩ = some (.int .i64 ((rd_T38 x3_1 x4_1).f4)) := hcc10 4 _ rfl; have hf10_0 : w11.frozen? ⟨go10, (x4_1 : Int).toNat * 5, none⟩ = false := hfr10 0; have hf10_1 : w11.frozen? ⟨go10, (x4_1 : Int).toNat * 5 + 1, none⟩ = false := hfr10 1; have hf10_2 : w11.frozen? ⟨go10, (x4_1 : Int).toNat * 5 + 2, none⟩ = false := hfr10 2; have hf10_3 : w11.frozen? ⟨go10, (x4_1 : Int).toNat * 5 + 3, none⟩ = false := hfr10 3; have hf10_4 : w11.frozen? ⟨go10, (x4_1 : Int).toNat * 5 + 4, none⟩ = false := hfr10 4; (try clear hcl10); (try clear hcc10); (try clear hfr10); (try clear hM10); replace p10 := eq_true p10; replace q10 := eq_true q10; have HX12 := aA.mk (show Kd.R k38 38 w11 w.heap.size (fun _ => True) (.slice (some ⟨go10, 0, none⟩) x3_1.length co10) x3_1 from (by (with_reducible repeat (first | apply Kd.aY | apply Kd.aZ | apply Kd.bA)); exact HO_3.out)); obtain ⟨ce12, hcl12, hM12, hcc12, hfr12⟩ := Kd.R_elem HX12.out z38 (x4_1 : Int) (lE (by first | (with_reducible assumption) | assumption)) (by have h_ : (x4_1 : Int) < ((x3_1.length : Int) : Int) := lE (by first | (with_reducible assumption) | assumption); first | exact h_ | (have e_ := (Kd.R_reads' HO_3.out).1; omega) | simpa using h_); obtain rfl := k38_openM hM12; have HP12 := Kd.R_seg HX12.out (x4_1 : Int) (lE (by first | (with_reducible assumption) | assumption)) (by have h_ : (x4_1 : Int) < ((x3_1.length : Int) : Int) := lE (by first | (with_reducible assumption) | assumption); first | exact h_ | (have e_ := (Kd.R_reads' HO_3.out).1; omega) | simpa using h_) (seg := [.int .i64 t241, .int .i64 t242, .int .i64 t243, .int .i64 t244, .int .i64 t245]) (j := 0) hcl12 hcc12 (show 5 ≤ 5 from by decide) (x' := (⟨t241, t242, t243, t244, t245⟩ : S38)) (k38_mkM _ _ _ (⟨t241, t242, t243, t244, t245⟩ : S38) ) (fun _ hk => hk); have hx12_0 := hcc12 0 _ rfl; (try simp only [show (k38).sz = 5 from rfl, Nat.mul_one, Nat.add_zero] at hx12_0); have hf12_0 := hfr12 0; (try simp only [show (k38).sz = 5 from rfl, Nat.mul_one, Nat.add_zero] at hf12_0); have hx12_1 := hcc12 1 _ rfl; (try simp only [show (k38).sz = 5 from rfl, Nat.mul_one, Nat.add_zero] at hx12_1); have hf12_1 := hfr12 1; (try simp only [show (k38).sz = 5 from rfl, Nat.mul_one, Nat.add_zero] at hf12_1); have hx12_2 := hcc12 2 _ rfl; (try simp only [show (k38).sz = 5 from rfl, Nat.mul_one, Nat.add_zero] at hx12_2); have hf12_2 := hfr12 2; (try simp only [show (k38).sz = 5 from rfl, Nat.mul_one, Nat.add_zero] at hf12_2); have hx12_3 := hcc12 3 _ rfl; (try simp only [show (k38).sz = 5 from rfl, Nat.mul_one, Nat.add_zero] at hx12_3); have hf12_3 := hfr12 3; (try simp only [show (k38).sz = 5 from rfl, Nat.mul_one, Nat.add_zero] at hf12_3); have hx12_4 := hcc12 4 _ rfl; (try simp only [show (k38).sz = 5 from rfl, Nat.mul_one, Nat.add_zero] at hx12_4); have hf12_4 := hfr12 4; (try simp only [show (k38).sz = 5 from rfl, Nat.mul_one, Nat.add_zero] at hf12_4); (try clear hcl12); (try clear hcc12); (try clear hfr12); (try clear hM12)) | ((with_reducible refine gate_store (t := 38) (p := 21) rfl ?_); refine store_event (t := 38) (p := 21) (v := ?vo_w13) (w1 := (((((w11.setCell ⟨go10, (x4_1 : Int).toNat * 5, none⟩ (.int .i64 t241)).setCell ⟨go10, (x4_1 : Int).toNat * 5 + 1, none⟩ (.int .i64 t242)).setCell ⟨go10, (x4_1 : Int).toNat * 5 + 2, none⟩ (.int .i64 t243)).setCell ⟨go10, (x4_1 : Int).toNat * 5 + 3, none⟩ (.int .i64 t244)).setCell ⟨go10, (x4_1 : Int).toNat * 5 + 4, none⟩ (.int .i64 t245))) ?hg ?ho ?hn ?hr ?_; (case ho => rfl); (case hg => rfl); (case hn => rfl); (case hr => first | (go_simp; done) | (go_simp; rfl)); intro w13 hw; have hg : w11.grownBy w13 (some go10) := (by rw [hw]; exact HP12.2); have hp_ : Kd.R k38 38 w13 w.heap.size (fun _ => True) (.slice (some ⟨go10, 0, none⟩) x3_1.length co10) y246 := (by rw [hw, Ny246.out]; exact HP12.1); clear HP12; have n0_ := aA.mk (hp_); have n1_ := aA.mk ((by rw [hw]; exact aJ (aJ (aJ (aJ (aJ (HB.out) GB10.out) GB10.out) GB10.out) GB10.out) GB10.out : Below w.heap.size w w13)); clear HO_3; clear HB; have HO_3 := n0_; have HB := n1_; clear n0_ n1_; clear hg hw hp_))
        go_roundg k1
        case measure => have := HK1.out; omega
        case rel => exact ⟨(y246), (wrap64 (x4_1 + 1)), (by first | rfl | (simp; done) | (simp [*]; done)), H', ⟨by have := HK1.out; omega⟩, ⟨by (with_reducible repeat (first | apply Kd.aY | apply Kd.aZ | apply Kd.bA)); exact HO_3.out⟩, ⟨by repeat (first | (with_reducible first | exact HB.out | apply aH | apply aC | apply aG) | exact HB.out)⟩⟩
       ·rw [if_neg c9] at H
        exact absurd H (by simp)
      ·rw [if_neg c7] at H
       exact absurd H (by simp)
     ·rw [if_neg c6] at H
      have c6b0 : decide (x4_1 < (l0.length : Int)) = false := decide_eq_false c6
      clear c6
      obtain rfl := Option.some.inj H
      go_wp2
      go_ret
      exact ⟨_, by first | rfl | (simp [errW_none, errW_some] <;> rfl) | (simp [*, errW_none, errW_some] <;> rfl), by (with_reducible repeat (first | apply Kd.aY | apply Kd.aZ | apply Kd.bA)); exact HO_3.out, by repeat (first | (with_reducible first | exact HB.out | apply aH | apply aC | apply aG) | exact HB.out)⟩
  ·rw [if_neg c3] at H
   exact absurd H (by simp)
 ·rw [if_neg c2] at H
  exact absurd H (by simp)
def laws_toKeySS.l0 : Nat → List (List (S48)) → List (List (S38)) → Int → Option ((List (List (S38))))
 | 0, _, _, _ => none
 | k + 1, x0, x3, x4 => if x4 < (x0.length : Int) then (if 0 ≤ x4 then ((laws_toKeyS.f k (rd_L2 x0 x4)).bind fun t251 => (if x4 < (x3.length : Int) then (laws_toKeySS.l0 k x0 (x3.set (x4 : Int).toNat t251) (wrap64 (x4 + 1))) else (none))) else (none)) else (some x3)
def laws_toKeySS.f (k : Nat) (l0 : List (List (S48))) : Option ((List (List (S38)))) := if 0 ≤ (l0.length : Int) then (if ((l0.length : Int) : Int).toNat ≤ 11728124029610 then (laws_toKeySS.l0 k l0 (List.replicate ((l0.length : Int) : Int).toNat []) 0) else (none)) else (none)
set_option maxHeartbeats 8000000 in
set_option maxRecDepth 100000 in
theorem laws_toKeySS.calls (k : Nat) (A0 : Option Addr) (c0 : Nat) (l0 : List (List (S48))) (r : List (List (S38))) (w : World) (hr0 : Kd.C (Kd.slice 48 k48) w A0 l0.length l0) (hc0 : l0.length ≤ c0) (h : laws_toKeySS.f k l0 = some r) :
  Calls Try.prog 93 #[.slice A0 l0.length c0] w fun e w' => ∃ v0_ : Value, e = .returned (v0_) ∧ Kd.S (Kd.slice 38 k38) 45 w' w.heap.size (fun _ => True) v0_ r ∧ Below w.heap.size w w' := by
 have HR0 := aA.mk hr0
 have HC0 := aA.mk hc0
 clear hr0 hc0
 have HB := aA.mk (Below.refl w.heap.size w)
 have H : (if 0 ≤ (l0.length : Int) then (if ((l0.length : Int) : Int).toNat ≤ 11728124029610 then (laws_toKeySS.l0 k l0 (List.replicate ((l0.length : Int) : Int).toNat []) 0) else (none)) else (none)) = some r := h
 clear h
 by_cases c2 : 0 ≤ (l0.length : Int)
 ·rw [if_pos c2] at H
  have c2b0 := eq_true c2
  have c2b1 : decide (0 ≤ (l0.length : Int)) = true := decide_eq_true c2
  clear c2
  by_cases c3 : ((l0.length : Int) : Int).toNat ≤ 11728124029610
  ·rw [if_pos c3] at H
   have c3b0 := eq_true c3
   have c3b1 : decide (((l0.length : Int) : Int).toNat ≤ 11728124029610) = true := decide_eq_true c3
   clear c3
   obtain ⟨y247, hy247⟩ : ∃ y_ : List (List (S38)), y_ = (List.replicate ((l0.length : Int) : Int).toNat []) := ⟨_, rfl⟩
   replace H : (laws_toKeySS.l0 k l0 y247 0) = some r := by first | (rw [hy247]; with_reducible exact H) | (have H2_ := (Option.bind_some _ _).symm.trans H; rw [hy247]; with_reducible exact H2_) | (have H2_ := (Option.bind_some _ _).symm.trans H; with_reducible exact H2_) | with_reducible exact H | (rw [hy247]; exact H) | exact H
   have Ny247 := aA.mk hy247
   clear hy247
   have H' := aA.mk H
   clear H
   go_enter Try.func93, Try.ntmps93
   go_wp2_with (first | ((with_reducible refine aW (N := 7) rfl ?_); refine Kd.S_make (Kd.slice 38 k38) _ 45 rfl (N := 7) rfl 57 _ _ rfl (l0.length : Int) rfl rfl Try.underlying57 (.slice none 0 0) 24 info45 rfl (by decide) (by omega) [] (ok := fun _ => True) (okp := fun _ => True) ⟨_, rfl, Kd.R_nil _ _ _ _ _⟩ (fun _ hk => hk) trivial (lE (by first | (with_reducible assumption) | assumption)) (Nat.le_trans (Nat.mul_le_mul_right _ (lE (by first | (with_reducible assumption) | assumption) : (l0.length : Int).toNat ≤ 11728124029610)) (by omega)) (Below.refl _ _) (Nat.le_refl _) ?_; intro v248 w4 ho5 hb hg_ hnew_; clear hg_ hnew_; (first | rw [← Ny247.out] at ho5 | (simp only [Int.reduceToNat] at ho5; rw [← Ny247.out] at ho5)); have n0_ := aA.mk (Kd.S_lower ho5 (aT (by repeat (first | (with_reducible first | exact HB.out | apply aH | apply aC | apply aG) | exact HB.out)))); have n1_ := aA.mk (aU (by repeat (first | (with_reducible first | exact HB.out | apply aH | apply aC | apply aG) | exact HB.out)) hb); clear HB; have HO249 := n0_; have HB := n1_; clear n0_ n1_; clear hb ho5))
   go_loopg [4] k (fun kq v4 w' => ∃ (x3_1 : List (List (S38))) (x4_1 : Int), v4 = .int .i64 x4_1 ∧ aA (laws_toKeySS.l0 kq l0 x3_1 x4_1 = some r) ∧ aA (kq ≤ k) ∧ aA (Kd.S (Kd.slice 38 k38) 45 w' w.heap.size (fun _ => True) v248 x3_1) ∧ aA (Below w.heap.size w w'))
   case atStart => exact ⟨(y247), (0), (by first | rfl | (simp; done) | (simp [*]; done)), H', ⟨Nat.le_refl _⟩, ⟨by (with_reducible repeat (first | apply Kd.S_alloc | apply Kd.S_drewN | apply Kd.S_drew)); exact HO249.out⟩, ⟨by repeat (first | (with_reducible first | exact HB.out | apply aH | apply aC | apply aG) | exact HB.out)⟩⟩
   case round =>
    clear H'
    try clear c2
    try clear c2b0
    try clear c2b1
    try clear p2
    try clear c3
    try clear c3b0
    try clear c3b1
    obtain ⟨x3_1, x4_1, rfl, HA, HK1, HO_3, HB⟩ := hrel
    cases gk with
    | zero => exact absurd HA.out (by simp [laws_toKeySS.l0])
    | succ k1 =>
     have H := HA.out
     clear HA
     simp only [laws_toKeySS.l0] at H
     by_cases c6 : x4_1 < (l0.length : Int)
     ·rw [if_pos c6] at H
      have c6b0 : decide (x4_1 < (l0.length : Int)) = true := decide_eq_true c6
      clear c6
      by_cases c7 : 0 ≤ x4_1
      ·rw [if_pos c7] at H
       have c7b0 : decide (0 ≤ x4_1) = true := decide_eq_true c7
       clear c7
       replace H := lF H
       obtain ⟨t251, A80, H⟩ := H
       replace H : (if x4_1 < (x3_1.length : Int) then (laws_toKeySS.l0 k1 l0 (x3_1.set (x4_1 : Int).toNat t251) (wrap64 (x4_1 + 1))) else (none)) = some r := H
       have A8 := aA.mk A80
       clear A80
       by_cases c9 : x4_1 < (x3_1.length : Int)
       ·rw [if_pos c9] at H
        have c9b0 : decide (x4_1 < (x3_1.length : Int)) = true := decide_eq_true c9
        clear c9
        obtain ⟨y254, hy254⟩ : ∃ y_ : List (List (S38)), y_ = (x3_1.set (x4_1 : Int).toNat t251) := ⟨_, rfl⟩
        replace H : (laws_toKeySS.l0 k1 l0 y254 (wrap64 (x4_1 + 1))) = some r := by first | (rw [hy254]; with_reducible exact H) | (have H2_ := (Option.bind_some _ _).symm.trans H; rw [hy254]; with_reducible exact H2_) | (have H2_ := (Option.bind_some _ _).symm.trans H; with_reducible exact H2_) | with_reducible exact H | (rw [hy254]; exact H) | exact H
        have Ny254 := aA.mk hy254
        clear hy254
        have H' := aA.mk H
        clear H
        have p250 : 0 ≤ (x4_1 : Int) := lE (by first | (with_reducible assumption) | assumption)
        have q250 : x4_1 < (l0.length : Int) := lE (by first | (with_reducible assumption) | assumption)
        obtain ⟨ad250, A250_0, c250_0, e250, hx250_0, hl250_0, hi250_0⟩ := at_L2 HR0.out x4_1 p250 q250
        cases e250
        replace hx250_0 := (HB.out.cell (lD w _ hx250_0)).trans hx250_0
        have HR250_0 := aA.mk hi250_0
        have HC250_0 := aA.mk hl250_0
        clear hi250_0 hl250_0
        replace p250 := eq_true p250
        replace q250 := eq_true q250
        go_wp2_with (first | ((with_reducible refine bB (f := 104) rfl ?_); refine bP (some 20) rfl rfl Try.func104 (by kernel_rfl) rfl #[.slice A250_0 (rd_L2 l0 x4_1).length c250_0] rfl (by (try simp only [List.map_toArray, List.map_cons, List.map_nil]); first | done | rfl | (simp only [List.length_drop, List.length_take]; rfl)) ?_; (with_reducible refine (laws_toKeyS.calls k1 _ _ (rd_L2 l0 x4_1) t251 _ ?side1 ?side2 A8.out).mono ?_); (case side1 => repeat (first | exact (Kd.bJ HR250_0.out HB.out) | (with_reducible refine Kd.bM ?_ _) | (with_reducible refine Kd.bN ?_ _) | (with_reducible refine Kd.bR ?_))); (case side2 => exact HC250_0.out); rintro e w11 ⟨v252, rfl, ho0, hb⟩; refine ⟨_, rfl, ?_⟩; have n0_ := aA.mk (Kd.S_elder' (by (with_reducible repeat (first | apply Kd.S_alloc | apply Kd.S_drewN | apply Kd.S_drew)); exact HO_3.out) (Kd.R_base ho0) hb); have n1_ := aA.mk (Kd.R_lower ho0 (aT (by repeat (first | (with_reducible first | exact HB.out | apply aH | apply aC | apply aG) | exact HB.out)))); have n2_ := aA.mk (aU (by repeat (first | (with_reducible first | exact HB.out | apply aH | apply aC | apply aG) | exact HB.out)) hb); clear HO_3; clear HB; have HO_3 := n0_; have HO253 := n1_; have HB := n2_; clear n0_ n1_ n2_; (try clear hb); (try clear hk); (try clear ho0); have p10 : 0 ≤ (x4_1 : Int) := lE (by first | (with_reducible assumption) | assumption); have q10 : (x4_1 : Int) < ((x3_1.length : Int) : Int) := lE (by first | (with_reducible assumption) | assumption); obtain ⟨go10, co10, eo10, gb10, gl10, cl10, HG10⟩ := Kd.S_form HO_3.out (by omega); (first | cases eo10 | (injection eo10 with ea_ en_ ec_; (first | subst ea_ | (injection ea_ with ea_; subst ea_)); subst ec_; clear en_)); have GB10 := aA.mk gb10; have GG10 := aA.mk HG10; clear gb10 gl10 HG10; obtain ⟨_, ce10, hcl10, hM10, hcc10, hfr10, _, _⟩ := Kd.S_elem HO_3.out [] (x4_1 : Int) p10 q10; obtain ⟨ve10_0, rfl, ge10_0⟩ := hM10; have hx10_0 := hcc10 0 _ rfl; have hf10_0 := hfr10 0; (try simp only [show ((Kd.slice 38 k38)).sz = 1 from rfl, Nat.mul_one, Nat.add_zero] at hx10_0); (try simp only [show ((Kd.slice 38 k38)).sz = 1 from rfl, Nat.mul_one, Nat.add_zero] at hf10_0); (try clear hcl10); (try clear hcc10); (try clear hfr10); (try clear hM10); replace p10 := eq_true p10; replace q10 := eq_true q10; have n_ := aA.mk (Kd.S_mono (ok' := (fun k_ => some k_ ≠ (v252 : Value).ownBlock)) HO_3.out (fun k_ hk => hk.2)); clear HO_3; have HO_3 := n_; clear n_; have HX12 := aA.mk (show Kd.S (Kd.slice 38 k38) 45 w11 w.heap.size (fun k_ => ((fun _ => True)) k_ ∧ ¬ ((fun k_ => some k_ = (v252 : Value).ownBlock)) k_) (.slice (some ⟨go10, 0, none⟩) x3_1.length co10) x3_1 from (by (with_reducible repeat (first | apply Kd.S_alloc | apply Kd.S_drewN | apply Kd.S_drew)); exact Kd.S_mono HO_3.out (fun k_ hk => ⟨trivial, fun e_ => hk e_⟩))); obtain ⟨oki12, ce12, hcl12, hM12, hcc12, hfr12, hoki12, hH12⟩ := Kd.S_elem HX12.out [] (x4_1 : Int) (lE (by first | (with_reducible assumption) | assumption)) (by have h_ : (x4_1 : Int) < ((x3_1.length : Int) : Int) := lE (by first | (with_reducible assumption) | assumption); first | exact h_ | (have e_ := (Kd.S_reads' HO_3.out).1; omega) | simpa using h_); obtain ⟨ve12_0, rfl, ge12_0⟩ := hM12; have HP12 := Kd.S_seg hH12 (lE (by first | (with_reducible assumption) | assumption)) (by have h_ : (x4_1 : Int) < ((x3_1.length : Int) : Int) := lE (by first | (with_reducible assumption) | assumption); first | exact h_ | (have e_ := (Kd.S_reads' HO_3.out).1; omega) | simpa using h_) (seg := [v252]) (j := 0) (show 1 ≤ 1 from by decide) (x' := t251) (Kd.M_row (Kd.bK (Kd.R_tight rfl (Kd.bK (ok' := fun k_ => ((fun _ => True)) k_ ∧ k_ ≠ go10) (Kd.R_apart' (HO253.out) (Kd.S_typed HO_3.out) (by decide)) (fun k_ hk => ⟨trivial, fun e_ => (hk.2) (by rw [e_]; rfl)⟩))) (fun _ h_ => Or.inr (h_)))) (fun _ hk => hk) (fun k_ hk_ => ((Kd.bK (ok' := fun k_ => ((fun _ => True)) k_ ∧ k_ ≠ go10) (Kd.R_apart' (HO253.out) (Kd.S_typed HO_3.out) (by decide)) (fun k_ hk => ⟨trivial, fun e_ => (hk.2) (by rw [e_]; rfl)⟩))).1 k_ hk_.symm); have hx12_0 := hcc12 0 _ rfl; (try simp only [show ((Kd.slice 38 k38)).sz = 1 from rfl, Nat.mul_one, Nat.add_zero] at hx12_0); have hf12_0 := hfr12 0; (try simp only [show ((Kd.slice 38 k38)).sz = 1 from rfl, Nat.mul_one, Nat.add_zero] at hf12_0); (try clear hcl12); (try clear hcc12); (try clear hfr12); (try clear hM12); (try clear hoki12); (try clear hH12); (try simp only [show ((Kd.slice 38 k38)).sz = 1 from rfl, Nat.mul_one, Nat.add_zero] at HP12)) | ((with_reducible refine gate_store (t := 45) (p := 21) rfl ?_); refine store_event (t := 45) (p := 21) (v := ?vo_w13) (w1 := (w11.setCell ⟨go10, (x4_1 : Int).toNat, none⟩ (v252))) ?hg ?ho ?hn ?hr ?_; (case ho => rfl); (case hg => rfl); (case hn => rfl); (case hr => first | (go_simp; done) | (go_simp; rfl) | (obtain ⟨Az_, cz_, ez_, _⟩ := Kd.R_reads HO253.out; subst ez_; go_simp; done) | (obtain ⟨Az_, cz_, ez_, _⟩ := Kd.R_reads HO253.out; subst ez_; go_simp; rfl) | (obtain ⟨Az_, cz_, ez_, _⟩ := Kd.S_reads HO253.out; subst ez_; go_simp; done) | (obtain ⟨Az_, cz_, ez_, _⟩ := Kd.S_reads HO253.out; subst ez_; go_simp; rfl) | (obtain ⟨Az_, cz_, ez_, _⟩ := Kd.N_reads HO253.out; subst ez_; go_simp; done) | (obtain ⟨Az_, cz_, ez_, _⟩ := Kd.N_reads HO253.out; subst ez_; go_simp; rfl) | (obtain ⟨Az_, cz_, ez_, _⟩ := Kd.Q_reads HO253.out; subst ez_; go_simp; done) | (obtain ⟨Az_, cz_, ez_, _⟩ := Kd.Q_reads HO253.out; subst ez_; go_simp; rfl) | (obtain ⟨Az_, cz_, ez_⟩ := Kd.V_slice HO253.out; subst ez_; go_simp; done)); intro w13 hw; have hg : w11.grownBy w13 (some go10) := (by rw [hw]; exact HP12.2); have hp_ : Kd.S (Kd.slice 38 k38) 45 w13 w.heap.size (fun _ => True) (.slice (some ⟨go10, 0, none⟩) x3_1.length co10) y254 := (by rw [hw, Ny254.out]; exact HP12.1); clear HP12; have n0_ := aA.mk (hp_); have n1_ := aA.mk ((by rw [hw]; exact aJ (HB.out) GB10.out : Below w.heap.size w w13)); clear HO_3; clear HB; clear HO253; have HO_3 := n0_; have HB := n1_; clear n0_ n1_; clear hg hw hp_))
        go_roundg k1
        case measure => have := HK1.out; omega
        case rel => exact ⟨(y254), (wrap64 (x4_1 + 1)), (by first | rfl | (simp; done) | (simp [*]; done)), H', ⟨by have := HK1.out; omega⟩, ⟨by (with_reducible repeat (first | apply Kd.S_alloc | apply Kd.S_drewN | apply Kd.S_drew)); exact HO_3.out⟩, ⟨by repeat (first | (with_reducible first | exact HB.out | apply aH | apply aC | apply aG) | exact HB.out)⟩⟩
       ·rw [if_neg c9] at H
        exact absurd H (by simp)
      ·rw [if_neg c7] at H
       exact absurd H (by simp)
     ·rw [if_neg c6] at H
      have c6b0 : decide (x4_1 < (l0.length : Int)) = false := decide_eq_false c6
      clear c6
      obtain rfl := Option.some.inj H
      go_wp2
      go_ret
      exact ⟨_, by first | rfl | (simp [errW_none, errW_some] <;> rfl) | (simp [*, errW_none, errW_some] <;> rfl), by (with_reducible repeat (first | apply Kd.S_alloc | apply Kd.S_drewN | apply Kd.S_drew)); exact HO_3.out, by repeat (first | (with_reducible first | exact HB.out | apply aH | apply aC | apply aG) | exact HB.out)⟩
  ·rw [if_neg c3] at H
   exact absurd H (by simp)
 ·rw [if_neg c2] at H
  exact absurd H (by simp)
def laws_toNode.f (k : Nat) (l0_0 : List (List (S48))) : Option ((List (List (S38)))) := (laws_toKeySS.f k l0_0).bind fun t258 => (some t258)
set_option maxHeartbeats 8000000 in
set_option maxRecDepth 100000 in
theorem laws_toNode.calls (k : Nat) (A0_0 : Option Addr) (c0_0 : Nat) (l0_0 : List (List (S48))) (r : List (List (S38))) (w : World) (hr0_0 : Kd.C (Kd.slice 48 k48) w A0_0 l0_0.length l0_0) (hc0_0 : l0_0.length ≤ c0_0) (h : laws_toNode.f k l0_0 = some r) :
  Calls Try.prog 68 #[.agg #[.slice A0_0 l0_0.length c0_0]] w fun e w' => ∃ v0_ : Value, e = .returned (.agg #[v0_]) ∧ Kd.S (Kd.slice 38 k38) 45 w' w.heap.size (fun _ => True) v0_ r ∧ Below w.heap.size w w' := by
 have hu87 := Try.underlying87
 have hu59 := Try.underlying59
 have HR0_0 := aA.mk hr0_0
 have HC0_0 := aA.mk hc0_0
 clear hr0_0 hc0_0
 have HB := aA.mk (Below.refl w.heap.size w)
 have H : ((laws_toKeySS.f k l0_0).bind fun t258 => (some t258)) = some r := h
 clear h
 replace H := lF H
 obtain ⟨t258, A20, H⟩ := H
 replace H : (some t258) = some r := H
 have A2 := aA.mk A20
 clear A20
 obtain rfl := Option.some.inj H
 go_enter Try.func68, Try.ntmps68
 go_wp2_with (first | ((with_reducible refine aW (N := 1) rfl ?_); refine aX ?hg (N := 1) ?hd (cs := #[.slice A0_0 l0_0.length c0_0]) (t := 87) ?hr ?_; (case hd => rfl); (case hg => rfl); (case hr => first | (go_simp; done) | (go_simp; rfl)); intro gb255 hg w3 hbox hb; have n0_ := aA.mk (aU (by repeat (first | (with_reducible first | exact HB.out | apply aH | apply aC | apply aG) | exact HB.out)) hb); have n1_ := aA.mk (hbox); have n2_ := aA.mk ((by rw [hg]; exact (aT (by repeat (first | (with_reducible first | exact HB.out | apply aH | apply aC | apply aG) | exact HB.out))) : w.heap.size ≤ gb255)); have n3_ := aA.mk ((by rw [hg]; exact (aT (by repeat (first | (with_reducible first | exact HB.out | apply aH | apply aC | apply aG) | exact HB.out))) : w.heap.size ≤ gb255)); clear HB; have HB := n0_; have BK255 := n1_; have GW255 := n2_; have GE255 := n3_; clear n0_ n1_ n2_ n3_; clear hb hbox hg) | ((with_reducible refine aW (N := 2) rfl ?_); refine aX ?hg (N := 2) ?hd (cs := #[.slice none 0 0]) (t := 59) ?hr ?_; (case hd => rfl); (case hg => rfl); (case hr => first | (go_simp; done) | (go_simp; rfl)); intro gb256 hg w4 hbox hb; have n0_ := aA.mk (aV (g := gb255) (o := .cells #[.slice A0_0 l0_0.length c0_0] 87 (0, 0)) (by (with_reducible repeat (first | refine aN ?_ _ | refine aQ ?_ | refine aM ?_ _)); exact BK255.out) hb); have n1_ := aA.mk (aU (by repeat (first | (with_reducible first | exact HB.out | apply aH | apply aC | apply aG | refine aJ ?_ GE255.out) | exact HB.out)) hb); have n2_ := aA.mk (hbox); have n3_ := aA.mk ((by rw [hg]; exact (aT (by repeat (first | (with_reducible first | exact HB.out | apply aH | apply aC | apply aG | refine aJ ?_ GE255.out) | exact HB.out))) : w.heap.size ≤ gb256)); have n4_ := aA.mk ((by rw [hg]; exact (aT (by repeat (first | (with_reducible first | exact HB.out | apply aH | apply aC | apply aG | refine aJ ?_ GE255.out) | exact HB.out))) : w.heap.size ≤ gb256)); have n5_ := aA.mk ((by rw [hg]; exact Nat.ne_of_lt (bF (g := gb255) (o := .cells #[.slice A0_0 l0_0.length c0_0] 87 (0, 0)) (by (with_reducible repeat (first | refine aN ?_ _ | refine aQ ?_ | refine aM ?_ _)); exact BK255.out)) : gb255 ≠ gb256)); have n6_ := aA.mk ((by rw [hg]; exact Nat.ne_of_gt (bF (g := gb255) (o := .cells #[.slice A0_0 l0_0.length c0_0] 87 (0, 0)) (by (with_reducible repeat (first | refine aN ?_ _ | refine aQ ?_ | refine aM ?_ _)); exact BK255.out)) : gb256 ≠ gb255)); clear BK255; clear HB; have BK255 := n0_; have HB := n1_; have BK256 := n2_; have GW256 := n3_; have GE256 := n4_; have NB255_256 := n5_; have NB256_255 := n6_; clear n0_ n1_ n2_ n3_ n4_ n5_ n6_; clear hb hbox hg) | ((with_reducible refine aW (N := 3) rfl ?_); refine aX ?hg (N := 3) ?hd (cs := #[.slice none 0 0]) (t := 59) ?hr ?_; (case hd => rfl); (case hg => rfl); (case hr => first | (go_simp; done) | (go_simp; rfl)); intro gb257 hg w5 hbox hb; have n0_ := aA.mk (aV (g := gb255) (o := .cells #[.slice A0_0 l0_0.length c0_0] 87 (0, 0)) (by (with_reducible repeat (first | refine aN ?_ _ | refine aQ ?_ | refine aM ?_ _)); exact BK255.out) hb); have n1_ := aA.mk (aV (g := gb256) (o := .cells #[.slice none 0 0] 59 (0, 0)) (by (with_reducible repeat (first | refine aN ?_ _ | refine aQ ?_ | refine aM ?_ _)); exact BK256.out) hb); have n2_ := aA.mk (aU (by repeat (first | (with_reducible first | exact HB.out | apply aH | apply aC | apply aG | refine aJ ?_ GE255.out | refine aJ ?_ GE256.out) | exact HB.out)) hb); have n3_ := aA.mk (hbox); have n4_ := aA.mk ((by rw [hg]; exact (aT (by repeat (first | (with_reducible first | exact HB.out | apply aH | apply aC | apply aG | refine aJ ?_ GE255.out | refine aJ ?_ GE256.out) | exact HB.out))) : w.heap.size ≤ gb257)); have n5_ := aA.mk ((by rw [hg]; exact (aT (by repeat (first | (with_reducible first | exact HB.out | apply aH | apply aC | apply aG | refine aJ ?_ GE255.out | refine aJ ?_ GE256.out) | exact HB.out))) : w.heap.size ≤ gb257)); have n6_ := aA.mk ((by rw [hg]; exact Nat.ne_of_lt (bF (g := gb255) (o := .cells #[.slice A0_0 l0_0.length c0_0] 87 (0, 0)) (by (with_reducible repeat (first | refine aN ?_ _ | refine aQ ?_ | refine aM ?_ _)); exact BK255.out)) : gb255 ≠ gb257)); have n7_ := aA.mk ((by rw [hg]; exact Nat.ne_of_gt (bF (g := gb255) (o := .cells #[.slice A0_0 l0_0.length c0_0] 87 (0, 0)) (by (with_reducible repeat (first | refine aN ?_ _ | refine aQ ?_ | refine aM ?_ _)); exact BK255.out)) : gb257 ≠ gb255)); have n8_ := aA.mk ((by rw [hg]; exact Nat.ne_of_lt (bF (g := gb256) (o := .cells #[.slice none 0 0] 59 (0, 0)) (by (with_reducible repeat (first | refine aN ?_ _ | refine aQ ?_ | refine aM ?_ _)); exact BK256.out)) : gb256 ≠ gb257)); have n9_ := aA.mk ((by rw [hg]; exact Nat.ne_of_gt (bF (g := gb256) (o := .cells #[.slice none 0 0] 59 (0, 0)) (by (with_reducible repeat (first | refine aN ?_ _ | refine aQ ?_ | refine aM ?_ _)); exact BK256.out)) : gb257 ≠ gb256)); clear BK255; clear BK256; clear HB; have BK255 := n0_; have BK256 := n1_; have HB := n2_; have BK257 := n3_; have GW257 := n4_; have GE257 := n5_; have NB255_257 := n6_; have NB257_255 := n7_; have NB256_257 := n8_; have NB257_256 := n9_; clear n0_ n1_ n2_ n3_ n4_ n5_ n6_ n7_ n8_ n9_; clear hb hbox hg; have hnb6 := NB255_256.out; have hnc6 := NB256_255.out; have hnb7 := NB255_257.out; have hnc7 := NB257_255.out; have hcz8_0 : w5.cell? ⟨gb255, 0, none⟩ = some (.slice A0_0 l0_0.length c0_0) := (aE BK255.out 0).trans rfl; have hfz8_0 := aD BK255.out 0) | ((with_reducible refine bB (f := 93) rfl ?_); refine bP (some 6) rfl rfl Try.func93 (by kernel_rfl) rfl #[.slice A0_0 l0_0.length c0_0] rfl (by (try simp only [List.map_toArray, List.map_cons, List.map_nil]); first | done | rfl | (simp only [List.length_drop, List.length_take]; rfl)) ?_; (with_reducible refine (laws_toKeySS.calls k _ _ l0_0 t258 _ ?side1 ?side2 A2.out).mono ?_); (case side1 => repeat (first | exact (Kd.bJ HR0_0.out HB.out) | (with_reducible refine Kd.bM ?_ _) | (with_reducible refine Kd.bN ?_ _) | (with_reducible refine Kd.bR ?_))); (case side2 => exact HC0_0.out); rintro e w9 ⟨v259, rfl, ho0, hb⟩; refine ⟨_, rfl, ?_⟩; have n0_ := aA.mk (Kd.S_lower ho0 (aT (by repeat (first | (with_reducible first | exact HB.out | apply aH | apply aC | apply aG | refine aJ ?_ GE255.out | refine aJ ?_ GE256.out | refine aJ ?_ GE257.out) | exact HB.out)))); have n1_ := aA.mk (aV (g := gb255) (o := .cells #[.slice A0_0 l0_0.length c0_0] 87 (0, 0)) (by (with_reducible repeat (first | refine aN ?_ _ | refine aQ ?_ | refine aM ?_ _)); exact BK255.out) hb); have n2_ := aA.mk (aV (g := gb256) (o := .cells #[.slice none 0 0] 59 (0, 0)) (by (with_reducible repeat (first | refine aN ?_ _ | refine aQ ?_ | refine aM ?_ _)); exact BK256.out) hb); have n3_ := aA.mk (aV (g := gb257) (o := .cells #[.slice none 0 0] 59 (0, 0)) (by (with_reducible repeat (first | refine aN ?_ _ | refine aQ ?_ | refine aM ?_ _)); exact BK257.out) hb); have n4_ := aA.mk (aU (by repeat (first | (with_reducible first | exact HB.out | apply aH | apply aC | apply aG | refine aJ ?_ GE255.out | refine aJ ?_ GE256.out | refine aJ ?_ GE257.out) | exact HB.out)) hb); clear BK255; clear BK256; clear BK257; clear HB; have HO260 := n0_; have BK255 := n1_; have BK256 := n2_; have BK257 := n3_; have HB := n4_; clear n0_ n1_ n2_ n3_ n4_; (try clear hb); (try clear ho0); obtain ⟨Ao10, co10, eo10⟩ := Kd.S_slice HO260.out; subst eo10; have hnb11 := NB257_256.out; have hnc11 := NB256_257.out; have hcz12_0 : w9.cell? ⟨gb257, 0, none⟩ = some (.slice none 0 0) := (aE BK257.out 0).trans rfl; have hfz12_0 := aD BK257.out 0; have hcz13_0 : w9.cell? ⟨gb256, 0, none⟩ = some (.slice none 0 0) := (aE BK256.out 0).trans rfl; have hfz13_0 := aD BK256.out 0))
 refine bodyPost_ret (results_cell_row rfl _ _ gb256 59 #[.slice Ao10 t258.length co10] (0, 0) _ rfl (by (with_reducible repeat (first | refine aN ?_ _ | refine aQ ?_ | refine aM ?_ _)); refine bG (cs := #[.slice none 0 0]) ?_ 0 _ rfl; (with_reducible repeat (first | refine aN ?_ _ | refine aQ ?_ | refine aM ?_ _)); refine blk_far ?_ NB256_257.out _; (with_reducible repeat (first | refine aN ?_ _ | refine aQ ?_ | refine aM ?_ _)); exact BK256.out) Try.underlying59 rfl (by kernel_rfl)) rfl ?_
 exact ⟨_, by first | rfl | (simp [errW_none, errW_some] <;> rfl) | (simp [*, errW_none, errW_some] <;> rfl), by (with_reducible repeat (first | apply Kd.S_alloc | apply Kd.S_drewN | apply Kd.S_drew)); exact Kd.S_mono (Kd.S_far (p := ⟨gb256, 0, none⟩) (Kd.S_far (p := ⟨gb257, 0, none⟩) (Kd.S_types (Kd.S_types HO260.out BK257.out (by decide)) BK256.out (by decide)) (fun _ hk => hk.1.2) (.slice Ao10 t258.length co10)) (fun _ hk => hk.2) (.slice Ao10 t258.length co10)) (fun _ hk => trivial), by repeat (first | (with_reducible first | exact HB.out | apply aH | apply aC | apply aG | refine aJ ?_ GE255.out | refine aJ ?_ GE256.out | refine aJ ?_ GE257.out) | exact HB.out)⟩
def laws_toNodeS.l0 : Nat → List (S87) → List (S59) → Int → Option ((List (S59)))
 | 0, _, _, _ => none
 | k + 1, x0, x3, x4 => if x4 < (x0.length : Int) then (if 0 ≤ x4 then ((laws_toNode.f k ((rd_T87 x0 x4).f0)).bind fun t265 => (if x4 < (x3.length : Int) then (laws_toNodeS.l0 k x0 (x3.set (x4 : Int).toNat (⟨t265⟩ : S59)) (wrap64 (x4 + 1))) else (none))) else (none)) else (some x3)
def laws_toNodeS.f (k : Nat) (l0 : List (S87)) : Option ((List (S59))) := if 0 ≤ (l0.length : Int) then (if ((l0.length : Int) : Int).toNat ≤ 11728124029610 then (laws_toNodeS.l0 k l0 (List.replicate ((l0.length : Int) : Int).toNat z59) 0) else (none)) else (none)
set_option maxHeartbeats 8000000 in
set_option maxRecDepth 100000 in
theorem laws_toNodeS.calls (k : Nat) (A0 : Option Addr) (c0 : Nat) (l0 : List (S87)) (r : List (S59)) (w : World) (hr0 : Kd.C k87 w A0 l0.length l0) (hc0 : l0.length ≤ c0) (h : laws_toNodeS.f k l0 = some r) :
  Calls Try.prog 30 #[.slice A0 l0.length c0] w fun e w' => ∃ v0_ : Value, e = .returned (v0_) ∧ Kd.R k59 59 w' w.heap.size (fun _ => True) v0_ r ∧ Below w.heap.size w w' := by
 have hu87 := Try.underlying87
 have hu59 := Try.underlying59
 have HR0 := aA.mk hr0
 have HC0 := aA.mk hc0
 clear hr0 hc0
 have HB := aA.mk (Below.refl w.heap.size w)
 have H : (if 0 ≤ (l0.length : Int) then (if ((l0.length : Int) : Int).toNat ≤ 11728124029610 then (laws_toNodeS.l0 k l0 (List.replicate ((l0.length : Int) : Int).toNat z59) 0) else (none)) else (none)) = some r := h
 clear h
 by_cases c2 : 0 ≤ (l0.length : Int)
 ·rw [if_pos c2] at H
  have c2b0 := eq_true c2
  have c2b1 : decide (0 ≤ (l0.length : Int)) = true := decide_eq_true c2
  clear c2
  by_cases c3 : ((l0.length : Int) : Int).toNat ≤ 11728124029610
  ·rw [if_pos c3] at H
   have c3b0 := eq_true c3
   have c3b1 : decide (((l0.length : Int) : Int).toNat ≤ 11728124029610) = true := decide_eq_true c3
   clear c3
   obtain ⟨y261, hy261⟩ : ∃ y_ : List (S59), y_ = (List.replicate ((l0.length : Int) : Int).toNat z59) := ⟨_, rfl⟩
   replace H : (laws_toNodeS.l0 k l0 y261 0) = some r := by first | (rw [hy261]; with_reducible exact H) | (have H2_ := (Option.bind_some _ _).symm.trans H; rw [hy261]; with_reducible exact H2_) | (have H2_ := (Option.bind_some _ _).symm.trans H; with_reducible exact H2_) | with_reducible exact H | (rw [hy261]; exact H) | exact H
   have Ny261 := aA.mk hy261
   clear hy261
   have H' := aA.mk H
   clear H
   go_enter Try.func30, Try.ntmps30
   go_wp2_with (first | ((with_reducible refine aW (N := 7) rfl ?_); refine Kd.R_make k59 _ 59 rfl (N := 7) rfl 27 _ _ rfl (l0.length : Int) rfl rfl Try.underlying27 (.agg #[(.slice none 0 0)]) 24 info59 rfl (by decide) (by omega) z59 (ok := fun _ => True) (okp := fun _ => True) (k59_mkM _ _ _ z59 (Kd.R_nil _ _ _ _ _)) (fun _ hk => hk) trivial (lE (by first | (with_reducible assumption) | assumption)) (Nat.le_trans (Nat.mul_le_mul_right _ (lE (by first | (with_reducible assumption) | assumption) : (l0.length : Int).toNat ≤ 11728124029610)) (by omega)) (Below.refl _ _) (Nat.le_refl _) ?_; intro v262 w4 ho5 hb hg_ hnew_; clear hg_ hnew_; (first | rw [← Ny261.out] at ho5 | (simp only [Int.reduceToNat] at ho5; rw [← Ny261.out] at ho5)); have n0_ := aA.mk (Kd.R_lower ho5 (aT (by repeat (first | (with_reducible first | exact HB.out | apply aH | apply aC | apply aG) | exact HB.out)))); have n1_ := aA.mk (aU (by repeat (first | (with_reducible first | exact HB.out | apply aH | apply aC | apply aG) | exact HB.out)) hb); clear HB; have HO263 := n0_; have HB := n1_; clear n0_ n1_; clear hb ho5))
   go_loopg [4] k (fun kq v4 w' => ∃ (x3_1 : List (S59)) (x4_1 : Int), v4 = .int .i64 x4_1 ∧ aA (laws_toNodeS.l0 kq l0 x3_1 x4_1 = some r) ∧ aA (kq ≤ k) ∧ aA (Kd.R k59 59 w' w.heap.size (fun _ => True) v262 x3_1) ∧ aA (Below w.heap.size w w'))
   case atStart => exact ⟨(y261), (0), (by first | rfl | (simp; done) | (simp [*]; done)), H', ⟨Nat.le_refl _⟩, ⟨by (with_reducible repeat (first | apply Kd.aY | apply Kd.aZ | apply Kd.bA)); exact HO263.out⟩, ⟨by repeat (first | (with_reducible first | exact HB.out | apply aH | apply aC | apply aG) | exact HB.out)⟩⟩
   case round =>
    clear H'
    try clear c2
    try clear c2b0
    try clear c2b1
    try clear p2
    try clear c3
    try clear c3b0
    try clear c3b1
    obtain ⟨x3_1, x4_1, rfl, HA, HK1, HO_3, HB⟩ := hrel
    cases gk with
    | zero => exact absurd HA.out (by simp [laws_toNodeS.l0])
    | succ k1 =>
     have H := HA.out
     clear HA
     simp only [laws_toNodeS.l0] at H
     by_cases c6 : x4_1 < (l0.length : Int)
     ·rw [if_pos c6] at H
      have c6b0 : decide (x4_1 < (l0.length : Int)) = true := decide_eq_true c6
      clear c6
      by_cases c7 : 0 ≤ x4_1
      ·rw [if_pos c7] at H
       have c7b0 : decide (0 ≤ x4_1) = true := decide_eq_true c7
       clear c7
       replace H := lF H
       obtain ⟨t265, A80, H⟩ := H
       replace H : (if x4_1 < (x3_1.length : Int) then (laws_toNodeS.l0 k1 l0 (x3_1.set (x4_1 : Int).toNat (⟨t265⟩ : S59)) (wrap64 (x4_1 + 1))) else (none)) = some r := H
       have A8 := aA.mk A80
       clear A80
       by_cases c9 : x4_1 < (x3_1.length : Int)
       ·rw [if_pos c9] at H
        have c9b0 : decide (x4_1 < (x3_1.length : Int)) = true := decide_eq_true c9
        clear c9
        obtain ⟨y268, hy268⟩ : ∃ y_ : List (S59), y_ = (x3_1.set (x4_1 : Int).toNat (⟨t265⟩ : S59)) := ⟨_, rfl⟩
        replace H : (laws_toNodeS.l0 k1 l0 y268 (wrap64 (x4_1 + 1))) = some r := by first | (rw [hy268]; with_reducible exact H) | (have H2_ := (Option.bind_some _ _).symm.trans H; rw [hy268]; with_reducible exact H2_) | (have H2_ := (Option.bind_some _ _).symm.trans H; with_reducible exact H2_) | with_reducible exact H | (rw [hy268]; exact H) | exact H
        have Ny268 := aA.mk hy268
        clear hy268
        have H' := aA.mk H
        clear H
        have p264 : 0 ≤ (x4_1 : Int) := lE (by first | (with_reducible assumption) | assumption)
        have q264 : x4_1 < (l0.length : Int) := lE (by first | (with_reducible assumption) | assumption)
        obtain ⟨ad264, A264_0, c264_0, e264, hx264_0, hl264_0, hi264_0⟩ := at_T87 HR0.out x4_1 p264 q264
        cases e264
        replace hx264_0 := (HB.out.cell (lD w _ hx264_0)).trans hx264_0
        have HR264_0 := aA.mk hi264_0
        have HC264_0 := aA.mk hl264_0
        clear hi264_0 hl264_0
        replace p264 := eq_true p264
        replace q264 := eq_true q264
        go_wp2_with (first | ((with_reducible refine bB (f := 68) rfl ?_); refine bP (some 20) rfl rfl Try.func68 (by kernel_rfl) rfl #[.agg #[.slice A264_0 ((rd_T87 l0 x4_1).f0).length c264_0]] rfl (by (try simp only [List.map_toArray, List.map_cons, List.map_nil]); first | done | rfl | (simp only [List.length_drop, List.length_take]; rfl)) ?_; (with_reducible refine (laws_toNode.calls k1 _ _ ((rd_T87 l0 x4_1).f0) t265 _ ?side1 ?side2 A8.out).mono ?_); (case side1 => repeat (first | exact (Kd.bJ HR264_0.out HB.out) | (with_reducible refine Kd.bM ?_ _) | (with_reducible refine Kd.bN ?_ _) | (with_reducible refine Kd.bR ?_))); (case side2 => exact HC264_0.out); rintro e w11 ⟨v266, rfl, ho0, hb⟩; refine ⟨_, rfl, ?_⟩; have n0_ := aA.mk (Kd.R_elder' (by (with_reducible repeat (first | apply Kd.aY | apply Kd.aZ | apply Kd.bA)); exact HO_3.out) (Kd.S_base ho0) hb); have n1_ := aA.mk (Kd.S_lower ho0 (aT (by repeat (first | (with_reducible first | exact HB.out | apply aH | apply aC | apply aG) | exact HB.out)))); have n2_ := aA.mk (aU (by repeat (first | (with_reducible first | exact HB.out | apply aH | apply aC | apply aG) | exact HB.out)) hb); clear HO_3; clear HB; have HO_3 := n0_; have HO267 := n1_; have HB := n2_; clear n0_ n1_ n2_; (try clear hb); (try clear hk); (try clear ho0); have p10 : 0 ≤ (x4_1 : Int) := lE (by first | (with_reducible assumption) | assumption); have q10 : (x4_1 : Int) < ((x3_1.length : Int) : Int) := lE (by first | (with_reducible assumption) | assumption); obtain ⟨go10, co10, eo10, gb10, gl10, cl10, HG10⟩ := Kd.R_form HO_3.out (by omega); (first | cases eo10 | (injection eo10 with ea_ en_ ec_; (first | subst ea_ | (injection ea_ with ea_; subst ea_)); subst ec_; clear en_)); have GB10 := aA.mk gb10; have GG10 := aA.mk HG10; clear gb10 gl10 HG10; obtain ⟨ce10, hcl10, hM10, hcc10, hfr10⟩ := Kd.R_elem HO_3.out z59 (x4_1 : Int) p10 q10; obtain ⟨ve10_0, rfl, ge10_0⟩ := k59_openM hM10; have hx10_0 := hcc10 0 _ rfl; have hf10_0 := hfr10 0; (try simp only [show (k59).sz = 1 from rfl, Nat.mul_one, Nat.add_zero] at hx10_0); (try simp only [show (k59).sz = 1 from rfl, Nat.mul_one, Nat.add_zero] at hf10_0); (try clear hcl10); (try clear hcc10); (try clear hfr10); (try clear hM10); replace p10 := eq_true p10; replace q10 := eq_true q10; have n_ := aA.mk (Kd.bK (ok' := (fun k_ => some k_ ≠ (v266 : Value).ownBlock)) HO_3.out (fun k_ hk => hk.2)); clear HO_3; have HO_3 := n_; clear n_; have HX12 := aA.mk (show Kd.R k59 59 w11 w.heap.size (fun _ => True) (.slice (some ⟨go10, 0, none⟩) x3_1.length co10) x3_1 from (by (with_reducible repeat (first | apply Kd.aY | apply Kd.aZ | apply Kd.bA)); exact Kd.bK HO_3.out (fun _ hk => trivial))); obtain ⟨ce12, hcl12, hM12, hcc12, hfr12⟩ := Kd.R_elem HX12.out z59 (x4_1 : Int) (lE (by first | (with_reducible assumption) | assumption)) (by have h_ : (x4_1 : Int) < ((x3_1.length : Int) : Int) := lE (by first | (with_reducible assumption) | assumption); first | exact h_ | (have e_ := (Kd.R_reads' HO_3.out).1; omega) | simpa using h_); obtain ⟨ve12_0, rfl, ge12_0⟩ := k59_openM hM12; have HP12 := Kd.R_seg HX12.out (x4_1 : Int) (lE (by first | (with_reducible assumption) | assumption)) (by have h_ : (x4_1 : Int) < ((x3_1.length : Int) : Int) := lE (by first | (with_reducible assumption) | assumption); first | exact h_ | (have e_ := (Kd.R_reads' HO_3.out).1; omega) | simpa using h_) (seg := [v266]) (j := 0) hcl12 hcc12 (show 1 ≤ 1 from by decide) (x' := (⟨t265⟩ : S59)) (k59_mkM _ _ _ (⟨t265⟩ : S59) (Kd.bK (Kd.R_apart' ((Kd.S_R HO267.out)) (Kd.R_typed HO_3.out) (by decide)) (fun k_ hk => ⟨trivial, fun e_ => (hk.2) (by rw [e_]; rfl)⟩))) (fun _ hk => hk); have hx12_0 := hcc12 0 _ rfl; (try simp only [show (k59).sz = 1 from rfl, Nat.mul_one, Nat.add_zero] at hx12_0); have hf12_0 := hfr12 0; (try simp only [show (k59).sz = 1 from rfl, Nat.mul_one, Nat.add_zero] at hf12_0); (try clear hcl12); (try clear hcc12); (try clear hfr12); (try clear hM12); (try simp only [show (k59).sz = 1 from rfl, Nat.mul_one, Nat.add_zero] at HP12)) | ((with_reducible refine gate_store (t := 59) (p := 21) rfl ?_); refine store_event (t := 59) (p := 21) (v := ?vo_w13) (w1 := (w11.setCell ⟨go10, (x4_1 : Int).toNat, none⟩ (v266))) ?hg ?ho ?hn ?hr ?_; (case ho => rfl); (case hg => rfl); (case hn => rfl); (case hr => first | (go_simp; done) | (go_simp; rfl) | (obtain ⟨Az_, cz_, ez_, _⟩ := Kd.R_reads HO267.out; subst ez_; go_simp; done) | (obtain ⟨Az_, cz_, ez_, _⟩ := Kd.R_reads HO267.out; subst ez_; go_simp; rfl) | (obtain ⟨Az_, cz_, ez_, _⟩ := Kd.S_reads HO267.out; subst ez_; go_simp; done) | (obtain ⟨Az_, cz_, ez_, _⟩ := Kd.S_reads HO267.out; subst ez_; go_simp; rfl) | (obtain ⟨Az_, cz_, ez_, _⟩ := Kd.N_reads HO267.out; subst ez_; go_simp; done) | (obtain ⟨Az_, cz_, ez_, _⟩ := Kd.N_reads HO267.out; subst ez_; go_simp; rfl) | (obtain ⟨Az_, cz_, ez_, _⟩ := Kd.Q_reads HO267.out; subst ez_; go_simp; done) | (obtain ⟨Az_, cz_, ez_, _⟩ := Kd.Q_reads HO267.out; subst ez_; go_simp; rfl) | (obtain ⟨Az_, cz_, ez_⟩ := Kd.V_slice HO267.out; subst ez_; go_simp; done)); intro w13 hw; have hg : w11.grownBy w13 (some go10) := (by rw [hw]; exact HP12.2); have hp_ : Kd.R k59 59 w13 w.heap.size (fun _ => True) (.slice (some ⟨go10, 0, none⟩) x3_1.length co10) y268 := (by rw [hw, Ny268.out]; exact HP12.1); clear HP12; have n0_ := aA.mk (hp_); have n1_ := aA.mk ((by rw [hw]; exact aJ (HB.out) GB10.out : Below w.heap.size w w13)); clear HO_3; clear HB; clear HO267; have HO_3 := n0_; have HB := n1_; clear n0_ n1_; clear hg hw hp_))
        go_roundg k1
        case measure => have := HK1.out; omega
        case rel => exact ⟨(y268), (wrap64 (x4_1 + 1)), (by first | rfl | (simp; done) | (simp [*]; done)), H', ⟨by have := HK1.out; omega⟩, ⟨by (with_reducible repeat (first | apply Kd.aY | apply Kd.aZ | apply Kd.bA)); exact HO_3.out⟩, ⟨by repeat (first | (with_reducible first | exact HB.out | apply aH | apply aC | apply aG) | exact HB.out)⟩⟩
       ·rw [if_neg c9] at H
        exact absurd H (by simp)
      ·rw [if_neg c7] at H
       exact absurd H (by simp)
     ·rw [if_neg c6] at H
      have c6b0 : decide (x4_1 < (l0.length : Int)) = false := decide_eq_false c6
      clear c6
      obtain rfl := Option.some.inj H
      go_wp2
      go_ret
      exact ⟨_, by first | rfl | (simp [errW_none, errW_some] <;> rfl) | (simp [*, errW_none, errW_some] <;> rfl), by (with_reducible repeat (first | apply Kd.aY | apply Kd.aZ | apply Kd.bA)); exact HO_3.out, by repeat (first | (with_reducible first | exact HB.out | apply aH | apply aC | apply aG) | exact HB.out)⟩
  ·rw [if_neg c3] at H
   exact absurd H (by simp)
 ·rw [if_neg c2] at H
  exact absurd H (by simp)
def laws_toTree.f (k : Nat) (l0_0 : List Int) (l0_1 : List (S87)) : Option (List Int × (List (S59))) := (laws_toIntS.f k l0_0).bind fun t272 => ((laws_toNodeS.f k l0_1).bind fun t275 => (some (t272, t275)))
set_option maxHeartbeats 8000000 in
set_option maxRecDepth 100000 in
theorem laws_toTree.calls (k : Nat) (A0_0 : Option Addr) (c0_0 : Nat) (l0_0 : List Int) (A0_1 : Option Addr) (c0_1 : Nat) (l0_1 : List (S87)) (r1 : List Int) (r2 : List (S59)) (w : World) (hr0_0 : Kd.C (Kd.int .i64) w A0_0 l0_0.length l0_0) (hc0_0 : l0_0.length ≤ c0_0) (hr0_1 : Kd.C k87 w A0_1 l0_1.length l0_1) (hc0_1 : l0_1.length ≤ c0_1) (h : laws_toTree.f k l0_0 l0_1 = some (r1, r2)) :
  Calls Try.prog 8 #[.agg #[.slice A0_0 l0_0.length c0_0, .slice A0_1 l0_1.length c0_1]] w fun e w' => ∃ v0_ v1_ : Value, e = .returned (.agg #[v0_, v1_]) ∧ Kd.R (Kd.int .i64) 3 w' w.heap.size (fun _ => True) v0_ r1 ∧ Kd.R k59 59 w' w.heap.size (fun _ => True) v1_ r2 ∧ Below w.heap.size w w' := by
 have hu25 := Try.underlying25
 have hu29 := Try.underlying29
 have HR0_0 := aA.mk hr0_0
 have HC0_0 := aA.mk hc0_0
 clear hr0_0 hc0_0
 have HR0_1 := aA.mk hr0_1
 have HC0_1 := aA.mk hc0_1
 clear hr0_1 hc0_1
 have HB := aA.mk (Below.refl w.heap.size w)
 have H : ((laws_toIntS.f k l0_0).bind fun t272 => ((laws_toNodeS.f k l0_1).bind fun t275 => (some (t272, t275)))) = some (r1, r2) := h
 clear h
 replace H := lF H
 obtain ⟨t272, A20, H⟩ := H
 replace H : ((laws_toNodeS.f k l0_1).bind fun t275 => (some (t272, t275))) = some (r1, r2) := H
 have A2 := aA.mk A20
 clear A20
 replace H := lF H
 obtain ⟨t275, A30, H⟩ := H
 replace H : (some (t272, t275)) = some (r1, r2) := H
 have A3 := aA.mk A30
 clear A30
 simp only [Option.some.injEq, Prod.mk.injEq] at H
 obtain ⟨rfl, rfl⟩ := H
 go_enter Try.func8, Try.ntmps8
 go_wp2_with (first | ((with_reducible refine aW (N := 1) rfl ?_); refine aX ?hg (N := 1) ?hd (cs := #[.slice A0_0 l0_0.length c0_0, .slice A0_1 l0_1.length c0_1]) (t := 25) ?hr ?_; (case hd => rfl); (case hg => rfl); (case hr => first | (go_simp; done) | (go_simp; rfl)); intro gb269 hg w4 hbox hb; have n0_ := aA.mk (aU (by repeat (first | (with_reducible first | exact HB.out | apply aH | apply aC | apply aG) | exact HB.out)) hb); have n1_ := aA.mk (hbox); have n2_ := aA.mk ((by rw [hg]; exact (aT (by repeat (first | (with_reducible first | exact HB.out | apply aH | apply aC | apply aG) | exact HB.out))) : w.heap.size ≤ gb269)); have n3_ := aA.mk ((by rw [hg]; exact (aT (by repeat (first | (with_reducible first | exact HB.out | apply aH | apply aC | apply aG) | exact HB.out))) : w.heap.size ≤ gb269)); clear HB; have HB := n0_; have BK269 := n1_; have GW269 := n2_; have GE269 := n3_; clear n0_ n1_ n2_ n3_; clear hb hbox hg) | ((with_reducible refine aW (N := 2) rfl ?_); refine aX ?hg (N := 2) ?hd (cs := #[.slice none 0 0, .slice none 0 0]) (t := 29) ?hr ?_; (case hd => rfl); (case hg => rfl); (case hr => first | (go_simp; done) | (go_simp; rfl)); intro gb270 hg w5 hbox hb; have n0_ := aA.mk (aV (g := gb269) (o := .cells #[.slice A0_0 l0_0.length c0_0, .slice A0_1 l0_1.length c0_1] 25 (0, 0)) (by (with_reducible repeat (first | refine aN ?_ _ | refine aQ ?_ | refine aM ?_ _)); exact BK269.out) hb); have n1_ := aA.mk (aU (by repeat (first | (with_reducible first | exact HB.out | apply aH | apply aC | apply aG | refine aJ ?_ GE269.out) | exact HB.out)) hb); have n2_ := aA.mk (hbox); have n3_ := aA.mk ((by rw [hg]; exact (aT (by repeat (first | (with_reducible first | exact HB.out | apply aH | apply aC | apply aG | refine aJ ?_ GE269.out) | exact HB.out))) : w.heap.size ≤ gb270)); have n4_ := aA.mk ((by rw [hg]; exact (aT (by repeat (first | (with_reducible first | exact HB.out | apply aH | apply aC | apply aG | refine aJ ?_ GE269.out) | exact HB.out))) : w.heap.size ≤ gb270)); have n5_ := aA.mk ((by rw [hg]; exact Nat.ne_of_lt (bF (g := gb269) (o := .cells #[.slice A0_0 l0_0.length c0_0, .slice A0_1 l0_1.length c0_1] 25 (0, 0)) (by (with_reducible repeat (first | refine aN ?_ _ | refine aQ ?_ | refine aM ?_ _)); exact BK269.out)) : gb269 ≠ gb270)); have n6_ := aA.mk ((by rw [hg]; exact Nat.ne_of_gt (bF (g := gb269) (o := .cells #[.slice A0_0 l0_0.length c0_0, .slice A0_1 l0_1.length c0_1] 25 (0, 0)) (by (with_reducible repeat (first | refine aN ?_ _ | refine aQ ?_ | refine aM ?_ _)); exact BK269.out)) : gb270 ≠ gb269)); clear BK269; clear HB; have BK269 := n0_; have HB := n1_; have BK270 := n2_; have GW270 := n3_; have GE270 := n4_; have NB269_270 := n5_; have NB270_269 := n6_; clear n0_ n1_ n2_ n3_ n4_ n5_ n6_; clear hb hbox hg) | ((with_reducible refine aW (N := 3) rfl ?_); refine aX ?hg (N := 3) ?hd (cs := #[.slice none 0 0, .slice none 0 0]) (t := 29) ?hr ?_; (case hd => rfl); (case hg => rfl); (case hr => first | (go_simp; done) | (go_simp; rfl)); intro gb271 hg w6 hbox hb; have n0_ := aA.mk (aV (g := gb269) (o := .cells #[.slice A0_0 l0_0.length c0_0, .slice A0_1 l0_1.length c0_1] 25 (0, 0)) (by (with_reducible repeat (first | refine aN ?_ _ | refine aQ ?_ | refine aM ?_ _)); exact BK269.out) hb); have n1_ := aA.mk (aV (g := gb270) (o := .cells #[.slice none 0 0, .slice none 0 0] 29 (0, 0)) (by (with_reducible repeat (first | refine aN ?_ _ | refine aQ ?_ | refine aM ?_ _)); exact BK270.out) hb); have n2_ := aA.mk (aU (by repeat (first | (with_reducible first | exact HB.out | apply aH | apply aC | apply aG | refine aJ ?_ GE269.out | refine aJ ?_ GE270.out) | exact HB.out)) hb); have n3_ := aA.mk (hbox); have n4_ := aA.mk ((by rw [hg]; exact (aT (by repeat (first | (with_reducible first | exact HB.out | apply aH | apply aC | apply aG | refine aJ ?_ GE269.out | refine aJ ?_ GE270.out) | exact HB.out))) : w.heap.size ≤ gb271)); have n5_ := aA.mk ((by rw [hg]; exact (aT (by repeat (first | (with_reducible first | exact HB.out | apply aH | apply aC | apply aG | refine aJ ?_ GE269.out | refine aJ ?_ GE270.out) | exact HB.out))) : w.heap.size ≤ gb271)); have n6_ := aA.mk ((by rw [hg]; exact Nat.ne_of_lt (bF (g := gb269) (o := .cells #[.slice A0_0 l0_0.length c0_0, .slice A0_1 l0_1.length c0_1] 25 (0, 0)) (by (with_reducible repeat (first | refine aN ?_ _ | refine aQ ?_ | refine aM ?_ _)); exact BK269.out)) : gb269 ≠ gb271)); have n7_ := aA.mk ((by rw [hg]; exact Nat.ne_of_gt (bF (g := gb269) (o := .cells #[.slice A0_0 l0_0.length c0_0, .slice A0_1 l0_1.length c0_1] 25 (0, 0)) (by (with_reducible repeat (first | refine aN ?_ _ | refine aQ ?_ | refine aM ?_ _)); exact BK269.out)) : gb271 ≠ gb269)); have n8_ := aA.mk ((by rw [hg]; exact Nat.ne_of_lt (bF (g := gb270) (o := .cells #[.slice none 0 0, .slice none 0 0] 29 (0, 0)) (by (with_reducible repeat (first | refine aN ?_ _ | refine aQ ?_ | refine aM ?_ _)); exact BK270.out)) : gb270 ≠ gb271)); have n9_ := aA.mk ((by rw [hg]; exact Nat.ne_of_gt (bF (g := gb270) (o := .cells #[.slice none 0 0, .slice none 0 0] 29 (0, 0)) (by (with_reducible repeat (first | refine aN ?_ _ | refine aQ ?_ | refine aM ?_ _)); exact BK270.out)) : gb271 ≠ gb270)); clear BK269; clear BK270; clear HB; have BK269 := n0_; have BK270 := n1_; have HB := n2_; have BK271 := n3_; have GW271 := n4_; have GE271 := n5_; have NB269_271 := n6_; have NB271_269 := n7_; have NB270_271 := n8_; have NB271_270 := n9_; clear n0_ n1_ n2_ n3_ n4_ n5_ n6_ n7_ n8_ n9_; clear hb hbox hg; have hnb7 := NB269_270.out; have hnc7 := NB270_269.out; have hnb8 := NB269_271.out; have hnc8 := NB271_269.out; have hcz9_0 : w6.cell? ⟨gb269, 0, none⟩ = some (.slice A0_0 l0_0.length c0_0) := (aE BK269.out 0).trans rfl; have hcz9_1 : w6.cell? ⟨gb269, 1, none⟩ = some (.slice A0_1 l0_1.length c0_1) := (aE BK269.out 1).trans rfl; have hfz9_0 := aD BK269.out 0; have hfz9_1 := aD BK269.out 1) | ((with_reducible refine bB (f := 29) rfl ?_); refine bP (some 6) rfl rfl Try.func29 (by kernel_rfl) rfl #[.slice A0_0 l0_0.length c0_0] rfl (by (try simp only [List.map_toArray, List.map_cons, List.map_nil]); first | done | rfl | (simp only [List.length_drop, List.length_take]; rfl)) ?_; (with_reducible refine (laws_toIntS.calls k _ _ l0_0 t272 _ ?side1 ?side2 A2.out).mono ?_); (case side1 => repeat (first | exact (Kd.bJ HR0_0.out HB.out) | (with_reducible refine Kd.bM ?_ _) | (with_reducible refine Kd.bN ?_ _) | (with_reducible refine Kd.bR ?_))); (case side2 => exact HC0_0.out); rintro e w10 ⟨v273, rfl, ho0, hb⟩; refine ⟨_, rfl, ?_⟩; have n0_ := aA.mk (Kd.R_lower ho0 (aT (by repeat (first | (with_reducible first | exact HB.out | apply aH | apply aC | apply aG | refine aJ ?_ GE269.out | refine aJ ?_ GE270.out | refine aJ ?_ GE271.out) | exact HB.out)))); have n1_ := aA.mk (aV (g := gb269) (o := .cells #[.slice A0_0 l0_0.length c0_0, .slice A0_1 l0_1.length c0_1] 25 (0, 0)) (by (with_reducible repeat (first | refine aN ?_ _ | refine aQ ?_ | refine aM ?_ _)); exact BK269.out) hb); have n2_ := aA.mk (aV (g := gb270) (o := .cells #[.slice none 0 0, .slice none 0 0] 29 (0, 0)) (by (with_reducible repeat (first | refine aN ?_ _ | refine aQ ?_ | refine aM ?_ _)); exact BK270.out) hb); have n3_ := aA.mk (aV (g := gb271) (o := .cells #[.slice none 0 0, .slice none 0 0] 29 (0, 0)) (by (with_reducible repeat (first | refine aN ?_ _ | refine aQ ?_ | refine aM ?_ _)); exact BK271.out) hb); have n4_ := aA.mk (aU (by repeat (first | (with_reducible first | exact HB.out | apply aH | apply aC | apply aG | refine aJ ?_ GE269.out | refine aJ ?_ GE270.out | refine aJ ?_ GE271.out) | exact HB.out)) hb); clear BK269; clear BK270; clear BK271; clear HB; have HO274 := n0_; have BK269 := n1_; have BK270 := n2_; have BK271 := n3_; have HB := n4_; clear n0_ n1_ n2_ n3_ n4_; (try clear hb); (try clear hk); (try clear ho0); obtain ⟨Ao11, co11, eo11⟩ := Kd.R_slice HO274.out; subst eo11; have hnb12 := NB271_270.out; have hnc12 := NB270_271.out; have hcz13_0 : w10.cell? ⟨gb271, 0, none⟩ = some (.slice none 0 0) := (aE BK271.out 0).trans rfl; have hcz13_1 : w10.cell? ⟨gb271, 1, none⟩ = some (.slice none 0 0) := (aE BK271.out 1).trans rfl; have hfz13_0 := aD BK271.out 0; have hfz13_1 := aD BK271.out 1; have hcz14_0 : w10.cell? ⟨gb269, 0, none⟩ = some (.slice A0_0 l0_0.length c0_0) := (aE BK269.out 0).trans rfl; have hcz14_1 : w10.cell? ⟨gb269, 1, none⟩ = some (.slice A0_1 l0_1.length c0_1) := (aE BK269.out 1).trans rfl; have hfz14_0 := aD BK269.out 0; have hfz14_1 := aD BK269.out 1) | ((with_reducible refine bB (f := 30) rfl ?_); refine bP (some 10) rfl rfl Try.func30 (by kernel_rfl) rfl #[.slice A0_1 l0_1.length c0_1] rfl (by (try simp only [List.map_toArray, List.map_cons, List.map_nil]); first | done | rfl | (simp only [List.length_drop, List.length_take]; rfl)) ?_; (with_reducible refine (laws_toNodeS.calls k _ _ l0_1 t275 _ ?side1 ?side2 A3.out).mono ?_); (case side1 => exact Kd.bJ HR0_1.out (by repeat (first | (with_reducible first | exact HB.out | apply aH | apply aC | apply aG | refine aJ ?_ GE269.out | refine aJ ?_ GE270.out | refine aJ ?_ GE271.out) | exact HB.out))); (case side2 => exact HC0_1.out); rintro e w15 ⟨v276, rfl, ho0, hb⟩; refine ⟨_, rfl, ?_⟩; have n0_ := aA.mk (Kd.bU (by (with_reducible repeat (first | apply Kd.aY | apply Kd.aZ | apply Kd.bA)); exact (Kd.bK (Kd.R_far (p := ⟨gb271, 0, none⟩) (Kd.R_types HO274.out BK271.out (by decide)) (fun _ hk => hk.2) (.slice Ao11 t272.length co11)) (fun _ h_ => h_.1))) hb); have n1_ := aA.mk (Kd.R_lower ho0 (aT (by repeat (first | (with_reducible first | exact HB.out | apply aH | apply aC | apply aG | refine aJ ?_ GE269.out | refine aJ ?_ GE270.out | refine aJ ?_ GE271.out) | exact HB.out)))); have n2_ := aA.mk (aV (g := gb269) (o := .cells #[.slice A0_0 l0_0.length c0_0, .slice A0_1 l0_1.length c0_1] 25 (0, 0)) (by (with_reducible repeat (first | refine aN ?_ _ | refine aQ ?_ | refine aM ?_ _)); refine blk_far ?_ NB269_271.out _; (with_reducible repeat (first | refine aN ?_ _ | refine aQ ?_ | refine aM ?_ _)); exact BK269.out) hb); have n3_ := aA.mk (aV (g := gb270) (o := .cells #[.slice none 0 0, .slice none 0 0] 29 (0, 0)) (by (with_reducible repeat (first | refine aN ?_ _ | refine aQ ?_ | refine aM ?_ _)); refine blk_far ?_ NB270_271.out _; (with_reducible repeat (first | refine aN ?_ _ | refine aQ ?_ | refine aM ?_ _)); exact BK270.out) hb); have n4_ := aA.mk (aV (g := gb271) (o := .cells #[.slice Ao11 t272.length co11, .slice none 0 0] 29 (0, 0)) (by (with_reducible repeat (first | refine aN ?_ _ | refine aQ ?_ | refine aM ?_ _)); refine bG (cs := #[.slice none 0 0, .slice none 0 0]) ?_ 0 _ rfl; (with_reducible repeat (first | refine aN ?_ _ | refine aQ ?_ | refine aM ?_ _)); exact BK271.out) hb); have n5_ := aA.mk (aU (by repeat (first | (with_reducible first | exact HB.out | apply aH | apply aC | apply aG | refine aJ ?_ GE269.out | refine aJ ?_ GE270.out | refine aJ ?_ GE271.out) | exact HB.out)) hb); clear HO274; clear BK269; clear BK270; clear BK271; clear HB; have HO274 := n0_; have HO277 := n1_; have BK269 := n2_; have BK270 := n3_; have BK271 := n4_; have HB := n5_; clear n0_ n1_ n2_ n3_ n4_ n5_; (try clear hb); (try clear hk); (try clear ho0); obtain ⟨Ao16, co16, eo16⟩ := Kd.R_slice HO277.out; subst eo16; have hcz17_0 : w15.cell? ⟨gb271, 0, none⟩ = some (.slice Ao11 t272.length co11) := (aE BK271.out 0).trans rfl; have hcz17_1 : w15.cell? ⟨gb271, 1, none⟩ = some (.slice none 0 0) := (aE BK271.out 1).trans rfl; have hfz17_0 := aD BK271.out 0; have hfz17_1 := aD BK271.out 1; have hcz18_0 : w15.cell? ⟨gb270, 0, none⟩ = some (.slice none 0 0) := (aE BK270.out 0).trans rfl; have hcz18_1 : w15.cell? ⟨gb270, 1, none⟩ = some (.slice none 0 0) := (aE BK270.out 1).trans rfl; have hfz18_0 := aD BK270.out 0; have hfz18_1 := aD BK270.out 1))
 refine bodyPost_ret (results_cell_row rfl _ _ gb270 29 #[.slice Ao11 t272.length co11, .slice Ao16 t275.length co16] (0, 0) _ rfl (by (with_reducible repeat (first | refine aN ?_ _ | refine aQ ?_ | refine aM ?_ _)); refine bG (cs := #[.slice Ao11 t272.length co11, .slice none 0 0]) ?_ 1 _ rfl; (with_reducible repeat (first | refine aN ?_ _ | refine aQ ?_ | refine aM ?_ _)); refine bG (cs := #[.slice none 0 0, .slice none 0 0]) ?_ 0 _ rfl; (with_reducible repeat (first | refine aN ?_ _ | refine aQ ?_ | refine aM ?_ _)); refine blk_far ?_ NB270_271.out _; (with_reducible repeat (first | refine aN ?_ _ | refine aQ ?_ | refine aM ?_ _)); exact BK270.out) Try.underlying29 rfl (by kernel_rfl)) rfl ?_
 exact ⟨_, _, by first | rfl | (simp [errW_none, errW_some] <;> rfl) | (simp [*, errW_none, errW_some] <;> rfl), by (with_reducible repeat (first | apply Kd.aY | apply Kd.aZ | apply Kd.bA)); exact Kd.bK (Kd.R_far (p := ⟨gb270, 1, none⟩) (Kd.R_far (p := ⟨gb270, 0, none⟩) (Kd.R_far (p := ⟨gb271, 1, none⟩) (Kd.R_types (Kd.R_types HO274.out BK271.out (by decide)) BK270.out (by decide)) (fun _ hk => hk.1.2) (.slice Ao16 t275.length co16)) (fun _ hk => hk.2) (.slice Ao11 t272.length co11)) (fun _ hk => hk.2) (.slice Ao16 t275.length co16)) (fun _ hk => trivial), by (with_reducible repeat (first | apply Kd.aY | apply Kd.aZ | apply Kd.bA)); exact Kd.bK (Kd.R_far (p := ⟨gb270, 1, none⟩) (Kd.R_far (p := ⟨gb270, 0, none⟩) (Kd.R_far (p := ⟨gb271, 1, none⟩) (Kd.R_types (Kd.R_types HO277.out BK271.out (by decide)) BK270.out (by decide)) (fun _ hk => hk.1.2) (.slice Ao16 t275.length co16)) (fun _ hk => hk.2) (.slice Ao11 t272.length co11)) (fun _ hk => hk.2) (.slice Ao16 t275.length co16)) (fun _ hk => trivial), by repeat (first | (with_reducible first | exact HB.out | apply aH | apply aC | apply aG | refine aJ ?_ GE269.out | refine aJ ?_ GE270.out | refine aJ ?_ GE271.out) | exact HB.out)⟩
def impl_copyInts.f (l0 : List Int) : Option (List Int) := (some (([] : List Int) : List Int)).bind fun y278 => (if y278.length + l0.length < 17592186044416 then (some (y278 ++ l0)) else (none))
set_option maxHeartbeats 8000000 in
set_option maxRecDepth 100000 in
theorem impl_copyInts.calls (A0 : Option Addr) (c0 : Nat) (l0 : List Int) (r : List Int) (w : World) (hr0 : Kd.C (Kd.int .i64) w A0 l0.length l0) (hc0 : l0.length ≤ c0) (h : impl_copyInts.f l0 = some r) :
  Calls Try.prog 69 #[.slice A0 l0.length c0] w fun e w' => ∃ v0_ : Value, e = .returned (v0_) ∧ Kd.R (Kd.int .i64) 3 w' w.heap.size (fun _ => True) v0_ r ∧ Below w.heap.size w w' := by
 have HR0 := aA.mk hr0
 have HC0 := aA.mk hc0
 clear hr0 hc0
 have HB := aA.mk (Below.refl w.heap.size w)
 have H : ((some (([] : List Int) : List Int)).bind fun y278 => (if y278.length + l0.length < 17592186044416 then (some (y278 ++ l0)) else (none))) = some r := h
 clear h
 obtain ⟨y278, hy278⟩ : ∃ y_ : List Int, y_ = (([] : List Int)) := ⟨_, rfl⟩
 replace H : (if y278.length + l0.length < 17592186044416 then (some (y278 ++ l0)) else (none)) = some r := by first | (rw [hy278]; with_reducible exact H) | (have H2_ := (Option.bind_some _ _).symm.trans H; rw [hy278]; with_reducible exact H2_) | (have H2_ := (Option.bind_some _ _).symm.trans H; with_reducible exact H2_) | with_reducible exact H | (rw [hy278]; exact H) | exact H
 have Ny278 := aA.mk hy278
 clear hy278
 by_cases c2 : y278.length + l0.length < 17592186044416
 ·rw [if_pos c2] at H
  have LMc2 := aA.mk c2
  clear c2
  obtain ⟨y281, hy281⟩ : ∃ y_ : List Int, y_ = (y278 ++ l0) := ⟨_, rfl⟩
  replace H : (some y281) = some r := by first | (rw [hy281]; with_reducible exact H) | (have H2_ := (Option.bind_some _ _).symm.trans H; rw [hy281]; with_reducible exact H2_) | (have H2_ := (Option.bind_some _ _).symm.trans H; with_reducible exact H2_) | with_reducible exact H | (rw [hy281]; exact H) | exact H
  have Ny281 := aA.mk hy281
  clear hy281
  obtain rfl := Option.some.inj H
  go_enter Try.func69, Try.ntmps69
  go_wp2_with (first | ((with_reducible refine aW (N := 3) rfl ?_); refine Kd.R_lit (Kd.int .i64) _ 3 ?hg (N := 3) ?hd (xs := ([] : List Int)) (inner := []) (ok := fun _ => True) (okp := fun _ => True) ?hr ?hp (fun _ hk => hk) trivial (Below.refl _ _) (Nat.le_refl _) (by simp) ?_; (case hd => rfl); (case hg => rfl); (case hr => first | (go_simp; done) | (go_simp; rfl)); (case hp => exact (Reps.none _ _)); intro v279 w3 ho4 hb hg_ hnew_; clear hg_ hnew_; (first | rw [← Ny278.out] at ho4 | (simp only [Int.reduceToNat] at ho4; rw [← Ny278.out] at ho4)); have n0_ := aA.mk (Kd.R_lower ho4 (aT (by repeat (first | (with_reducible first | exact HB.out | apply aH | apply aC | apply aG) | exact HB.out)))); have n1_ := aA.mk (aU (by repeat (first | (with_reducible first | exact HB.out | apply aH | apply aC | apply aG) | exact HB.out)) hb); clear HB; have HO280 := n0_; have HB := n1_; clear n0_ n1_; clear hb ho4) | ((with_reducible refine gate_builtin (b := .append) (xs := #[.tmp 3, .tmp 4]) rfl ?_); at_builtin; refine Kd.R_append_rows (Kd.int .i64) (w0 := w) w.heap.size rfl (.tmp 3) (.tmp 4) 22 3 (.int .i64 0) 8 rfl Try.underlying22 info3 rfl (by decide) (by omega) v279 y278 l0 _ _ _ (fun _ => True) (fun _ => False) rfl rfl ?aO ?aR (fun _ _ h => h) (fun _ h => h.elim) ?aF ?aB ?aS ?aL ?_; (case aR => repeat (first | exact (Kd.bJ HR0.out HB.out) | (with_reducible refine Kd.bM ?_ _) | (with_reducible refine Kd.bN ?_ _) | (with_reducible refine Kd.bR ?_))); (case aB => exact (by repeat (first | (with_reducible first | exact HB.out | apply aH | apply aC | apply aG) | exact HB.out))); (case aF => exact (fun _ _ => trivial)); (case aO => exact (by (with_reducible repeat (first | apply Kd.aY | apply Kd.aZ | apply Kd.bA)); exact HO280.out)); (case aS => exact (aT (by repeat (first | (with_reducible first | exact HB.out | apply aH | apply aC | apply aG) | exact HB.out)))); (case aL => have := LMc2.out; omega); intro v282 w5 ho hb hg hat; rw [← Ny281.out] at ho; have n0_ := aA.mk (hb); have n1_ := aA.mk (ho); clear HB; clear HO280; have HB := n0_; have HO283 := n1_; clear n0_ n1_; clear ho hb hg hat))
  go_ret
  exact ⟨_, by first | rfl | (simp [errW_none, errW_some] <;> rfl) | (simp [*, errW_none, errW_some] <;> rfl), by (with_reducible repeat (first | apply Kd.aY | apply Kd.aZ | apply Kd.bA)); exact HO283.out, by repeat (first | (with_reducible first | exact HB.out | apply aH | apply aC | apply aG) | exact HB.out)⟩
 ·rw [if_neg c2] at H
  exact absurd H (by simp)
def impl_copyKeys.f (l0 : List (S38)) : Option ((List (S38))) := (some (([] : List (S38)) : List (S38))).bind fun y284 => (if y284.length + l0.length < 3518437208883 then (some (y284 ++ l0)) else (none))
set_option maxHeartbeats 8000000 in
set_option maxRecDepth 100000 in
theorem impl_copyKeys.calls (A0 : Option Addr) (c0 : Nat) (l0 : List (S38)) (r : List (S38)) (w : World) (hr0 : Kd.C k38 w A0 l0.length l0) (hc0 : l0.length ≤ c0) (h : impl_copyKeys.f l0 = some r) :
  Calls Try.prog 91 #[.slice A0 l0.length c0] w fun e w' => ∃ v0_ : Value, e = .returned (v0_) ∧ Kd.R k38 38 w' w.heap.size (fun _ => True) v0_ r ∧ Below w.heap.size w w' := by
 have HR0 := aA.mk hr0
 have HC0 := aA.mk hc0
 clear hr0 hc0
 have HB := aA.mk (Below.refl w.heap.size w)
 have H : ((some (([] : List (S38)) : List (S38))).bind fun y284 => (if y284.length + l0.length < 3518437208883 then (some (y284 ++ l0)) else (none))) = some r := h
 clear h
 obtain ⟨y284, hy284⟩ : ∃ y_ : List (S38), y_ = (([] : List (S38))) := ⟨_, rfl⟩
 replace H : (if y284.length + l0.length < 3518437208883 then (some (y284 ++ l0)) else (none)) = some r := by first | (rw [hy284]; with_reducible exact H) | (have H2_ := (Option.bind_some _ _).symm.trans H; rw [hy284]; with_reducible exact H2_) | (have H2_ := (Option.bind_some _ _).symm.trans H; with_reducible exact H2_) | with_reducible exact H | (rw [hy284]; exact H) | exact H
 have Ny284 := aA.mk hy284
 clear hy284
 by_cases c2 : y284.length + l0.length < 3518437208883
 ·rw [if_pos c2] at H
  have LMc2 := aA.mk c2
  clear c2
  obtain ⟨y287, hy287⟩ : ∃ y_ : List (S38), y_ = (y284 ++ l0) := ⟨_, rfl⟩
  replace H : (some y287) = some r := by first | (rw [hy287]; with_reducible exact H) | (have H2_ := (Option.bind_some _ _).symm.trans H; rw [hy287]; with_reducible exact H2_) | (have H2_ := (Option.bind_some _ _).symm.trans H; with_reducible exact H2_) | with_reducible exact H | (rw [hy287]; exact H) | exact H
  have Ny287 := aA.mk hy287
  clear hy287
  obtain rfl := Option.some.inj H
  go_enter Try.func91, Try.ntmps91
  go_wp2_with (first | ((with_reducible refine aW (N := 3) rfl ?_); refine Kd.R_lit k38 _ 38 ?hg (N := 3) ?hd (xs := ([] : List (S38))) (inner := []) (ok := fun _ => True) (okp := fun _ => True) ?hr ?hp (fun _ hk => hk) trivial (Below.refl _ _) (Nat.le_refl _) (by simp) ?_; (case hd => rfl); (case hg => rfl); (case hr => first | (go_simp; done) | (go_simp; rfl)); (case hp => exact (Reps.none _ _)); intro v285 w3 ho4 hb hg_ hnew_; clear hg_ hnew_; (first | rw [← Ny284.out] at ho4 | (simp only [Int.reduceToNat] at ho4; rw [← Ny284.out] at ho4)); have n0_ := aA.mk (Kd.R_lower ho4 (aT (by repeat (first | (with_reducible first | exact HB.out | apply aH | apply aC | apply aG) | exact HB.out)))); have n1_ := aA.mk (aU (by repeat (first | (with_reducible first | exact HB.out | apply aH | apply aC | apply aG) | exact HB.out)) hb); clear HB; have HO286 := n0_; have HB := n1_; clear n0_ n1_; clear hb ho4) | ((with_reducible refine gate_builtin (b := .append) (xs := #[.tmp 3, .tmp 4]) rfl ?_); at_builtin; refine Kd.R_append_rows k38 (w0 := w) w.heap.size rfl (.tmp 3) (.tmp 4) 45 38 (.agg #[(.int .i64 0), (.int .i64 0), (.int .i64 0), (.int .i64 0), (.int .i64 0)]) 40 rfl Try.underlying45 info38 rfl (by decide) (by omega) v285 y284 l0 _ _ _ (fun _ => True) (fun _ => False) rfl rfl ?aO ?aR (fun _ _ h => h) (fun _ h => h.elim) ?aF ?aB ?aS ?aL ?_; (case aR => repeat (first | exact (Kd.bJ HR0.out HB.out) | (with_reducible refine Kd.bM ?_ _) | (with_reducible refine Kd.bN ?_ _) | (with_reducible refine Kd.bR ?_))); (case aB => exact (by repeat (first | (with_reducible first | exact HB.out | apply aH | apply aC | apply aG) | exact HB.out))); (case aF => exact (fun _ _ => trivial)); (case aO => exact (by (with_reducible repeat (first | apply Kd.aY | apply Kd.aZ | apply Kd.bA)); exact HO286.out)); (case aS => exact (aT (by repeat (first | (with_reducible first | exact HB.out | apply aH | apply aC | apply aG) | exact HB.out)))); (case aL => have := LMc2.out; omega); intro v288 w5 ho hb hg hat; rw [← Ny287.out] at ho; have n0_ := aA.mk (hb); have n1_ := aA.mk (ho); clear HB; clear HO286; have HB := n0_; have HO289 := n1_; clear n0_ n1_; clear ho hb hg hat))
  go_ret
  exact ⟨_, by first | rfl | (simp [errW_none, errW_some] <;> rfl) | (simp [*, errW_none, errW_some] <;> rfl), by (with_reducible repeat (first | apply Kd.aY | apply Kd.aZ | apply Kd.bA)); exact HO289.out, by repeat (first | (with_reducible first | exact HB.out | apply aH | apply aC | apply aG) | exact HB.out)⟩
 ·rw [if_neg c2] at H
  exact absurd H (by simp)
def impl_copyNode.l0 : Nat → List (List (S38)) → Int → Int → List (List (S38)) → Option ((List (List (S38))))
 | 0, _, _, _, _ => none
 | k + 1, x8, x9, x10, x293000 => if x10 < x9 then (if 0 ≤ x10 then (if x10 < (x8.length : Int) then ((impl_copyKeys.f (rd_L6 x8 x10)).bind fun t294 => (if x293000.length < 5864062014805 then (impl_copyNode.l0 k x8 x9 (wrap64 (x10 + 1)) (x293000 ++ [t294])) else (none))) else (none)) else (none)) else (some x293000)
def impl_copyNode.f (k : Nat) (l0_0 : List (List (S38))) : Option ((List (List (S38)))) := impl_copyNode.l0 k l0_0 (l0_0.length : Int) 0 ([] : List (List (S38)))
def impl_copyNode.T5 : Bool × List (List Nat × List Nat) := (true, [([], []), ([0], [0]), ([], []), ([2], [2]), ([3], [3]), ([1, 4, 3], [1, 4]), ([0, 1, 2, 3, 4, 5], []), ([6, 5, 5, 0, 1, 2, 3, 4, 5], [5, 6])])
def impl_copyNode.B5 : List Nat := [0, 1, 0, 4, 12, 31, 63, 127]
theorem impl_copyNode.tab5 : rtab .any (opsOf Try.f70 5) = impl_copyNode.T5 := by kernel_rfl
theorem impl_copyNode.bits5 : waitsOk impl_copyNode.T5.2 impl_copyNode.B5 = true := by kernel_rfl
set_option maxHeartbeats 8000000 in
set_option maxRecDepth 100000 in
theorem impl_copyNode.calls (k : Nat) (A0_0 : Option Addr) (c0_0 : Nat) (l0_0 : List (List (S38))) (r : List (List (S38))) (w : World) (hr0_0 : Kd.C (Kd.slice 38 k38) w A0_0 l0_0.length l0_0) (hc0_0 : l0_0.length ≤ c0_0) (h : impl_copyNode.f k l0_0 = some r) :
  Calls Try.prog 70 #[.agg #[.slice A0_0 l0_0.length c0_0]] w fun e w' => ∃ v0_ : Value, e = .returned (.agg #[v0_]) ∧ Kd.S (Kd.slice 38 k38) 45 w' w.heap.size (fun _ => True) v0_ r ∧ Below w.heap.size w w' := by
 have hu59 := Try.underlying59
 have HR0_0 := aA.mk hr0_0
 have HC0_0 := aA.mk hc0_0
 clear hr0_0 hc0_0
 have HB := aA.mk (Below.refl w.heap.size w)
 have H : (impl_copyNode.l0 k l0_0 (l0_0.length : Int) 0 ([] : List (List (S38)))) = some r := h
 clear h
 have H' := aA.mk H
 clear H
 go_enter Try.func70, Try.ntmps70
 go_wp2_with (first | ((with_reducible refine aW (N := 1) rfl ?_); refine aX ?hg (N := 1) ?hd (cs := #[.slice A0_0 l0_0.length c0_0]) (t := 59) ?hr ?_; (case hd => rfl); (case hg => rfl); (case hr => first | (go_simp; done) | (go_simp; rfl)); intro gb290 hg w2 hbox hb; have n0_ := aA.mk (aU (by repeat (first | (with_reducible first | exact HB.out | apply aH | apply aC | apply aG) | exact HB.out)) hb); have n1_ := aA.mk (hbox); have n2_ := aA.mk ((by rw [hg]; exact (aT (by repeat (first | (with_reducible first | exact HB.out | apply aH | apply aC | apply aG) | exact HB.out))) : w.heap.size ≤ gb290)); have n3_ := aA.mk ((by rw [hg]; exact (aT (by repeat (first | (with_reducible first | exact HB.out | apply aH | apply aC | apply aG) | exact HB.out))) : w.heap.size ≤ gb290)); clear HB; have HB := n0_; have BK290 := n1_; have GW290 := n2_; have GE290 := n3_; clear n0_ n1_ n2_ n3_; clear hb hbox hg) | ((with_reducible refine aW (N := 2) rfl ?_); refine aX ?hg (N := 2) ?hd (cs := #[.slice none 0 0]) (t := 59) ?hr ?_; (case hd => rfl); (case hg => rfl); (case hr => first | (go_simp; done) | (go_simp; rfl)); intro gb291 hg w3 hbox hb; have n0_ := aA.mk (aV (g := gb290) (o := .cells #[.slice A0_0 l0_0.length c0_0] 59 (0, 0)) (by (with_reducible repeat (first | refine aN ?_ _ | refine aQ ?_ | refine aM ?_ _)); exact BK290.out) hb); have n1_ := aA.mk (aU (by repeat (first | (with_reducible first | exact HB.out | apply aH | apply aC | apply aG | refine aJ ?_ GE290.out) | exact HB.out)) hb); have n2_ := aA.mk (hbox); have n3_ := aA.mk ((by rw [hg]; exact (aT (by repeat (first | (with_reducible first | exact HB.out | apply aH | apply aC | apply aG | refine aJ ?_ GE290.out) | exact HB.out))) : w.heap.size ≤ gb291)); have n4_ := aA.mk ((by rw [hg]; exact (aT (by repeat (first | (with_reducible first | exact HB.out | apply aH | apply aC | apply aG | refine aJ ?_ GE290.out) | exact HB.out))) : w.heap.size ≤ gb291)); have n5_ := aA.mk ((by rw [hg]; exact Nat.ne_of_lt (bF (g := gb290) (o := .cells #[.slice A0_0 l0_0.length c0_0] 59 (0, 0)) (by (with_reducible repeat (first | refine aN ?_ _ | refine aQ ?_ | refine aM ?_ _)); exact BK290.out)) : gb290 ≠ gb291)); have n6_ := aA.mk ((by rw [hg]; exact Nat.ne_of_gt (bF (g := gb290) (o := .cells #[.slice A0_0 l0_0.length c0_0] 59 (0, 0)) (by (with_reducible repeat (first | refine aN ?_ _ | refine aQ ?_ | refine aM ?_ _)); exact BK290.out)) : gb291 ≠ gb290)); clear BK290; clear HB; have BK290 := n0_; have HB := n1_; have BK291 := n2_; have GW291 := n3_; have GE291 := n4_; have NB290_291 := n5_; have NB291_290 := n6_; clear n0_ n1_ n2_ n3_ n4_ n5_ n6_; clear hb hbox hg) | ((with_reducible refine aW (N := 3) rfl ?_); refine aX ?hg (N := 3) ?hd (cs := #[.slice none 0 0]) (t := 59) ?hr ?_; (case hd => rfl); (case hg => rfl); (case hr => first | (go_simp; done) | (go_simp; rfl)); intro gb292 hg w4 hbox hb; have n0_ := aA.mk (aV (g := gb290) (o := .cells #[.slice A0_0 l0_0.length c0_0] 59 (0, 0)) (by (with_reducible repeat (first | refine aN ?_ _ | refine aQ ?_ | refine aM ?_ _)); exact BK290.out) hb); have n1_ := aA.mk (aV (g := gb291) (o := .cells #[.slice none 0 0] 59 (0, 0)) (by (with_reducible repeat (first | refine aN ?_ _ | refine aQ ?_ | refine aM ?_ _)); exact BK291.out) hb); have n2_ := aA.mk (aU (by repeat (first | (with_reducible first | exact HB.out | apply aH | apply aC | apply aG | refine aJ ?_ GE290.out | refine aJ ?_ GE291.out) | exact HB.out)) hb); have n3_ := aA.mk (hbox); have n4_ := aA.mk ((by rw [hg]; exact (aT (by repeat (first | (with_reducible first | exact HB.out | apply aH | apply aC | apply aG | refine aJ ?_ GE290.out | refine aJ ?_ GE291.out) | exact HB.out))) : w.heap.size ≤ gb292)); have n5_ := aA.mk ((by rw [hg]; exact (aT (by repeat (first | (with_reducible first | exact HB.out | apply aH | apply aC | apply aG | refine aJ ?_ GE290.out | refine aJ ?_ GE291.out) | exact HB.out))) : w.heap.size ≤ gb292)); have n6_ := aA.mk ((by rw [hg]; exact Nat.ne_of_lt (bF (g := gb290) (o := .cells #[.slice A0_0 l0_0.length c0_0] 59 (0, 0)) (by (with_reducible repeat (first | refine aN ?_ _ | refine aQ ?_ | refine aM ?_ _)); exact BK290.out)) : gb290 ≠ gb292)); have n7_ := aA.mk ((by rw [hg]; exact Nat.ne_of_gt (bF (g := gb290) (o := .cells #[.slice A0_0 l0_0.length c0_0] 59 (0, 0)) (by (with_reducible repeat (first | refine aN ?_ _ | refine aQ ?_ | refine aM ?_ _)); exact BK290.out)) : gb292 ≠ gb290)); have n8_ := aA.mk ((by rw [hg]; exact Nat.ne_of_lt (bF (g := gb291) (o := .cells #[.slice none 0 0] 59 (0, 0)) (by (with_reducible repeat (first | refine aN ?_ _ | refine aQ ?_ | refine aM ?_ _)); exact BK291.out)) : gb291 ≠ gb292)); have n9_ := aA.mk ((by rw [hg]; exact Nat.ne_of_gt (bF (g := gb291) (o := .cells #[.slice none 0 0] 59 (0, 0)) (by (with_reducible repeat (first | refine aN ?_ _ | refine aQ ?_ | refine aM ?_ _)); exact BK291.out)) : gb292 ≠ gb291)); clear BK290; clear BK291; clear HB; have BK290 := n0_; have BK291 := n1_; have HB := n2_; have BK292 := n3_; have GW292 := n4_; have GE292 := n5_; have NB290_292 := n6_; have NB292_290 := n7_; have NB291_292 := n8_; have NB292_291 := n9_; clear n0_ n1_ n2_ n3_ n4_ n5_ n6_ n7_ n8_ n9_; clear hb hbox hg; have hnb5 := NB292_290.out; have hnc5 := NB290_292.out; have hnb6 := NB292_291.out; have hnc6 := NB291_292.out; have hcz7_0 : w4.cell? ⟨gb292, 0, none⟩ = some (.slice none 0 0) := (aE BK292.out 0).trans rfl; have hfz7_0 := aD BK292.out 0; have hnb8 := NB290_291.out; have hnc8 := NB291_290.out; have hcz9_0 : w4.cell? ⟨gb290, 0, none⟩ = some (.slice A0_0 l0_0.length c0_0) := (aE BK290.out 0).trans rfl; have hfz9_0 := aD BK290.out 0))
 go_loopg [10] k (fun kq v10 w' => ∃ (x10_1 : Int) (x293000_1 : List (List (S38))) (u293000 : Value), v10 = .int .i64 x10_1 ∧ aA (impl_copyNode.l0 kq l0_0 (l0_0.length : Int) x10_1 x293000_1 = some r) ∧ aA (kq ≤ k) ∧ aA (Kd.S (Kd.slice 38 k38) 45 w' w.heap.size (fun _ => True) u293000 x293000_1) ∧ aA (w'.heap[gb290]? = some (.cells #[(.slice A0_0 l0_0.length c0_0)] 59 (0, 0))) ∧ aA (w'.heap[gb291]? = some (.cells #[(.slice none 0 0)] 59 (0, 0))) ∧ aA (w'.heap[gb292]? = some (.cells #[u293000] 59 (0, 0))) ∧ aA (Below w.heap.size w w'))
 case atStart => exact ⟨(0), (([] : List (List (S38)))), (.slice none 0 0), (by first | rfl | (simp; done) | (simp [*]; done)), H', ⟨Nat.le_refl _⟩, ⟨by first | exact Kd.S_nil _ _ _ _ _ | exact Kd.N_nil _ _ _ _ _ | exact Kd.V_nil _ _ _ _ _ | exact Kd.Q_nil _ _ _ _ _ | exact Kd.R_nil _ _ _ _ _⟩, ⟨by (with_reducible repeat (first | refine aN ?_ _ | refine aQ ?_ | refine aM ?_ _)); refine blk_far ?_ NB290_292.out _; (with_reducible repeat (first | refine aN ?_ _ | refine aQ ?_ | refine aM ?_ _)); exact BK290.out⟩, ⟨by (with_reducible repeat (first | refine aN ?_ _ | refine aQ ?_ | refine aM ?_ _)); refine blk_far ?_ NB291_292.out _; (with_reducible repeat (first | refine aN ?_ _ | refine aQ ?_ | refine aM ?_ _)); exact BK291.out⟩, ⟨by (with_reducible repeat (first | refine aN ?_ _ | refine aQ ?_ | refine aM ?_ _)); refine bG (cs := #[.slice none 0 0]) ?_ 0 _ rfl; (with_reducible repeat (first | refine aN ?_ _ | refine aQ ?_ | refine aM ?_ _)); exact BK292.out⟩, ⟨by repeat (first | (with_reducible first | exact HB.out | apply aH | apply aC | apply aG | refine aJ ?_ GE290.out | refine aJ ?_ GE291.out | refine aJ ?_ GE292.out) | exact HB.out)⟩⟩
 case round =>
  clear H'
  try clear p2
  try clear c5
  try clear c6
  try clear c7
  try clear c8
  try clear hcz7_0
  try clear hcz9_0
  try clear hfz7_0
  try clear hfz9_0
  obtain ⟨x10_1, x293000_1, u293000, rfl, HA, HK1, HO_293000, BK290, BK291, BK292, HB⟩ := hrel
  cases gk with
  | zero => exact absurd HA.out (by simp [impl_copyNode.l0])
  | succ k1 =>
   have H := HA.out
   clear HA
   simp only [impl_copyNode.l0] at H
   by_cases c10 : x10_1 < (l0_0.length : Int)
   ·rw [if_pos c10] at H
    have c10b0 : decide (x10_1 < (l0_0.length : Int)) = true := decide_eq_true c10
    clear c10
    by_cases c11 : 0 ≤ x10_1
    ·rw [if_pos c11] at H
     have c11b0 : decide (0 ≤ x10_1) = true := decide_eq_true c11
     clear c11
     by_cases c12 : x10_1 < (l0_0.length : Int)
     ·rw [if_pos c12] at H
      have c12b0 : decide (x10_1 < (l0_0.length : Int)) = true := decide_eq_true c12
      clear c12
      replace H := lF H
      obtain ⟨t294, A130, H⟩ := H
      replace H : (if x293000_1.length < 5864062014805 then (impl_copyNode.l0 k1 l0_0 (l0_0.length : Int) (wrap64 (x10_1 + 1)) (x293000_1 ++ [t294])) else (none)) = some r := H
      have A13 := aA.mk A130
      clear A130
      by_cases c14 : x293000_1.length < 5864062014805
      ·rw [if_pos c14] at H
       have LMc14 := aA.mk c14
       clear c14
       obtain ⟨y297, hy297⟩ : ∃ y_ : List (List (S38)), y_ = (x293000_1 ++ [t294]) := ⟨_, rfl⟩
       replace H : (impl_copyNode.l0 k1 l0_0 (l0_0.length : Int) (wrap64 (x10_1 + 1)) y297) = some r := by first | (rw [hy297]; with_reducible exact H) | (have H2_ := (Option.bind_some _ _).symm.trans H; rw [hy297]; with_reducible exact H2_) | (have H2_ := (Option.bind_some _ _).symm.trans H; with_reducible exact H2_) | with_reducible exact H | (rw [hy297]; exact H) | exact H
       have Ny297 := aA.mk hy297
       clear hy297
       have H' := aA.mk H
       clear H
       have p293 : 0 ≤ (x10_1 : Int) := lE (by first | (with_reducible assumption) | assumption)
       have q293 : x10_1 < (l0_0.length : Int) := lE (by first | (with_reducible assumption) | assumption)
       obtain ⟨ad293, A293_0, c293_0, e293, hx293_0, hl293_0, hi293_0⟩ := at_L6 HR0_0.out x10_1 p293 q293
       cases e293
       replace hx293_0 := (HB.out.cell (lD w _ hx293_0)).trans hx293_0
       have HR293_0 := aA.mk hi293_0
       have HC293_0 := aA.mk hl293_0
       clear hi293_0 hl293_0
       replace p293 := eq_true p293
       replace q293 := eq_true q293
       try go_wp2
       have n0_ := aA.mk (Kd.S_drew HO_293000.out)
       have n1_ := aA.mk (aQ BK290.out)
       have n2_ := aA.mk (aQ BK291.out)
       have n3_ := aA.mk (aQ BK292.out)
       have n4_ := aA.mk (aG HB.out)
       clear HO_293000
       clear BK290
       clear BK291
       clear BK292
       clear HB
       have HO_293000 := n0_
       have BK290 := n1_
       have BK291 := n2_
       have BK292 := n3_
       have HB := n4_
       clear n0_ n1_ n2_ n3_ n4_
       refine start_ (n := 8) (S := fun w' => w'.cell? ⟨gb292, 0, none⟩ = some (u293000)) (ds := [7]) #[false, false, false, false, false, false, false, false] (by kernel_rfl) rfl rfl ((aE BK292.out 0).trans rfl) (fun hHeld => ?_); refine with_tabW impl_copyNode.tab5 impl_copyNode.bits5 (fun HT_ HW_ => ?_)
       generalize wr.drew = w15 at HO_293000 BK290 BK291 BK292 HB hHeld ⊢
       refine bL (i := 0) (N := some 14) (v := ?_) (a' := ?_) #[true, false, false, false, false, false, false, false] rfl rfl (bQ HT_.out (by kernel_rfl)) (fun _ _ _ h => h) (Or.inl ⟨by rfl, ?_⟩) ?_ ?_
       rotate_left
       ·intro w'
        go_simp
        with_reducible rfl
       rotate_left
       ·simp only [Act.put, lA, lB, lC, bD, bC]
        rfl
       refine bL (i := 2) (N := some 16) (v := ?_) (a' := ?_) #[true, false, true, false, false, false, false, false] rfl rfl (bQ HT_.out (by kernel_rfl)) (fun _ _ _ h => h) (Or.inl ⟨by rfl, ?_⟩) ?_ ?_
       rotate_left
       ·intro w'
        go_simp
        with_reducible rfl
       rotate_left
       ·simp only [Act.put, lA, lB, lC, bD, bC]
        rfl
       refine take_ (i := 1) (N := some 15) (v := ?_) (a' := ?_) #[true, true, true, false, false, false, false, false] rfl rfl (take_ofW HT_.out HW_.out (by kernel_rfl)) (fun _ _ _ h => h) (Or.inl ⟨by rfl, ?_⟩) hHeld ?_ ?_
       rotate_left
       ·intro w' s0
        go_simp
        with_reducible rfl
       rotate_left
       ·simp only [Act.put, lA, lB, lC, bD, bC]
        rfl
       refine one_ (i := 3) (N := some 17) #[true, true, true, true, false, false, false, false] rfl rfl (one_of HT_.out (by kernel_rfl)) (by decide) (fun K hK => ?_)
       refine goes_ Try.func91 (by kernel_rfl) rfl #[.slice A293_0 (rd_L6 l0_0 x10_1).length c293_0] (by rfl) rfl rfl (by (try simp only [List.map_toArray, List.map_cons, List.map_nil]); first | done | rfl | (simp only [List.length_drop, List.length_take]; rfl)) ?_
       with_reducible refine (impl_copyKeys.calls _ _ (rd_L6 l0_0 x10_1) t294 _ ?side1 ?side2 A13.out).mono ?_
       (case side1 => repeat (first | exact (Kd.bJ HR293_0.out HB.out) | (with_reducible refine Kd.bM ?_ _) | (with_reducible refine Kd.bN ?_ _) | (with_reducible refine Kd.bR ?_)))
       (case side2 => exact HC293_0.out)
       rintro e w16 ⟨v295, rfl, ho0, hb⟩
       refine ⟨_, rfl, ?_⟩
       have n0_ := aA.mk (Kd.S_elder' (by (with_reducible repeat (first | apply Kd.S_alloc | apply Kd.S_drewN | apply Kd.S_drew)); exact HO_293000.out) (Kd.R_base ho0) hb)
       have n1_ := aA.mk (Kd.R_lower ho0 (aT (by repeat (first | (with_reducible first | exact HB.out | apply aH | apply aC | apply aG | refine aJ ?_ GE290.out | refine aJ ?_ GE291.out | refine aJ ?_ GE292.out) | exact HB.out))))
       have n2_ := aA.mk (aV (g := gb290) (o := .cells #[.slice (some ad293) l0_0.length c0_0] 59 (0, 0)) (by (with_reducible repeat (first | refine aN ?_ _ | refine aQ ?_ | refine aM ?_ _)); exact BK290.out) hb)
       have n3_ := aA.mk (aV (g := gb291) (o := .cells #[.slice none 0 0] 59 (0, 0)) (by (with_reducible repeat (first | refine aN ?_ _ | refine aQ ?_ | refine aM ?_ _)); exact BK291.out) hb)
       have n4_ := aA.mk (aV (g := gb292) (o := .cells #[u293000] 59 (0, 0)) (by (with_reducible repeat (first | refine aN ?_ _ | refine aQ ?_ | refine aM ?_ _)); exact BK292.out) hb)
       have n5_ := aA.mk (aU (by repeat (first | (with_reducible first | exact HB.out | apply aH | apply aC | apply aG | refine aJ ?_ GE290.out | refine aJ ?_ GE291.out | refine aJ ?_ GE292.out) | exact HB.out)) hb)
       clear HO_293000
       clear BK290
       clear BK291
       clear BK292
       clear HB
       have HO_293000 := n0_
       have HO296 := n1_
       have BK290 := n2_
       have BK291 := n3_
       have BK292 := n4_
       have HB := n5_
       clear n0_ n1_ n2_ n3_ n4_ n5_
       (try clear hb)
       (try clear hb2)
       (try clear hk)
       (try clear hi)
       (try clear ho0)
       obtain ⟨Ao18, co18, eo18⟩ := Kd.R_slice HO296.out
       (first | subst eo18 | (injection eo18 with f1_ f2_ f3_; have f4_ := f1_.symm; have f5_ := f3_.symm; clear f1_ f2_ f3_; subst f4_; subst f5_))
       refine hK.out _ _ ((aE BK292.out 0).trans rfl) (fun hHeld => ?_)
       clear hK K
       refine norm_ (a' := ?_) ?_ ?_
       rotate_left
       ·show Act.put _ (some 17) _ = _
        simp only [Act.put, lA, lB, lC, bD, bC]
        rfl
       refine one_ (i := 4) (N := some 18) #[true, true, true, true, true, false, false, false] rfl rfl (one_of HT_.out (by kernel_rfl)) (by decide) (fun K hK => ?_)
       refine value_ (w1 := ?_) (v := ?_) (by rfl) rfl ?_ ?_
       rotate_left 2
       ·go_simp
        constructor
        ·rfl
        ·rfl
       refine hK.out _ _ ((aE (aM BK292.out _) 0).trans rfl) (fun hHeld => ?_)
       clear hK K
       refine norm_ (a' := ?_) ?_ ?_
       rotate_left
       ·show Act.put _ (some 18) _ = _
        simp only [Act.put, lA, lB, lC, bD, bC]
        rfl
       refine one_ (i := 5) (N := some 19) #[true, true, true, true, true, true, false, false] rfl rfl (one_of HT_.out (by kernel_rfl)) (by decide) (fun K hK => ?_)
       refine Kd.S_append_step (Kd.slice 38 k38) (w0 := w) w.heap.size (by rfl) (.tmp 15) (.tmp 18) 57 45 (.slice none 0 0) 24 rfl Try.underlying57 info45 rfl (by decide) (by omega) u293000 x293000_1 t294 [.slice Ao18 t294.length co18] (fun _ => True) (fun k_ => some k_ = (.slice Ao18 t294.length co18 : Value).ownBlock) rfl rfl ?aP (fun k_ hk_ => ((Kd.bK (ok' := fun k_ => ((fun _ => True)) k_ ∧ some k_ ≠ (u293000 : Value).ownBlock) (Kd.R_apart' (HO296.out) (Kd.S_typed HO_293000.out) (by decide)) (fun k_ hk => ⟨trivial, hk.2⟩))).1 k_ hk_.symm) ?aF ?aO ?aB ?aS ?aL ?_
       (case aP => exact Kd.M_row (Kd.bK (Kd.R_tight rfl (Kd.bK (ok' := fun k_ => ((fun _ => True)) k_ ∧ some k_ ≠ (u293000 : Value).ownBlock) (Kd.R_apart' (HO296.out) (Kd.S_typed HO_293000.out) (by decide)) (fun k_ hk => ⟨trivial, hk.2⟩))) (fun _ h_ => h_)))
       (case aB => exact (by repeat (first | (with_reducible first | exact HB.out | apply aH | apply aC | apply aG | refine aJ ?_ GE290.out | refine aJ ?_ GE291.out | refine aJ ?_ GE292.out) | exact HB.out)))
       (case aF => exact (fun _ _ => trivial))
       (case aO => exact (by (with_reducible repeat (first | apply Kd.S_alloc | apply Kd.S_drewN | apply Kd.S_drew)); exact Kd.S_mono HO_293000.out (fun k_ hk => ⟨trivial, fun e_ => hk.2 e_⟩)))
       (case aS => exact (aT (by repeat (first | (with_reducible first | exact HB.out | apply aH | apply aC | apply aG | refine aJ ?_ GE290.out | refine aJ ?_ GE291.out | refine aJ ?_ GE292.out) | exact HB.out))))
       (case aL => have := LMc14.out; omega)
       intro v298 w17 ho hb hg hat
       rw [← Ny297.out] at ho
       have n0_ := aA.mk (blk_grown (g := gb290) (o := .cells #[.slice (some ad293) l0_0.length c0_0] 59 (0, 0)) (by (with_reducible repeat (first | refine aN ?_ _ | refine aQ ?_ | refine aM ?_ _)); exact BK290.out) hg (Kd.S_ne HO_293000.out BK290.out (by decide)))
       have n1_ := aA.mk (blk_grown (g := gb291) (o := .cells #[.slice none 0 0] 59 (0, 0)) (by (with_reducible repeat (first | refine aN ?_ _ | refine aQ ?_ | refine aM ?_ _)); exact BK291.out) hg (Kd.S_ne HO_293000.out BK291.out (by decide)))
       have n2_ := aA.mk (blk_grown (g := gb292) (o := .cells #[u293000] 59 (0, 0)) (by (with_reducible repeat (first | refine aN ?_ _ | refine aQ ?_ | refine aM ?_ _)); exact BK292.out) hg (Kd.S_ne HO_293000.out BK292.out (by decide)))
       have n3_ := aA.mk (hb)
       have n4_ := aA.mk (ho)
       clear BK290
       clear BK291
       clear BK292
       clear HB
       clear HO_293000
       clear HO296
       have BK290 := n0_
       have BK291 := n1_
       have BK292 := n2_
       have HB := n3_
       have HO299 := n4_
       clear n0_ n1_ n2_ n3_ n4_
       clear ho hb hg hat
       obtain ⟨Ao19, co19, eo19⟩ := Kd.S_slice HO299.out
       (first | subst eo19 | (injection eo19 with f1_ f2_ f3_; have f4_ := f1_.symm; have f5_ := f3_.symm; clear f1_ f2_ f3_; subst f4_; subst f5_))
       refine hK.out _ _ ((aE BK292.out 0).trans rfl) (fun hHeld => ?_)
       clear hK K
       refine norm_ (a' := ?_) ?_ ?_
       rotate_left
       ·show Act.put _ (some 19) _ = _
        simp only [Act.put, lA, lB, lC, bD, bC]
        rfl
       refine bL (i := 6) (N := some 20) (v := ?_) (a' := ?_) #[true, true, true, true, true, true, true, false] rfl rfl (bQ HT_.out (by kernel_rfl)) (fun _ _ _ h => h) (Or.inl ⟨by rfl, ?_⟩) ?_ ?_
       rotate_left
       ·intro w'
        go_simp
        with_reducible rfl
       rotate_left
       ·simp only [Act.put, lA, lB, lC, bD, bC]
        rfl
       refine last_ (i := 7) (N := none) #[true, true, true, true, true, true, true, true] rfl rfl (one_of HT_.out (by kernel_rfl)) (by decide) (fun K hK => ?_)
       have hs20 : w17.cell? ⟨gb292, 0, none⟩ = some (u293000) := (aE BK292.out 0).trans rfl
       have hfs20 := aD BK292.out 0
       have hns20_0 := NB290_292.out
       have hns20_1 := NB291_292.out
       have hms20_0 := NB292_290.out
       have hms20_1 := NB292_291.out
       refine skip_ (w1 := ?_) (by rfl) rfl ?_ ?_
       rotate_left
       ·go_simp
        rfl
       refine hK.out _ _ ?_
       clear hK K
       refine done_ (done_of HT_.out (by kernel_rfl)) ?_
       try go_wp2
       go_roundg k1
       case measure => have := HK1.out; omega
       case rel => exact ⟨(wrap64 (x10_1 + 1)), (y297), (.slice Ao19 y297.length co19), (by first | rfl | (simp; done) | (simp [*]; done)), H', ⟨by have := HK1.out; omega⟩, ⟨by (with_reducible repeat (first | apply Kd.S_alloc | apply Kd.S_drewN | apply Kd.S_drew)); exact Kd.S_mono (Kd.S_far (p := ⟨gb292, 0, none⟩) (Kd.S_types HO299.out BK292.out (by decide)) (fun _ hk => hk.2) (.slice Ao19 y297.length co19)) (fun _ hk => trivial)⟩, ⟨by (with_reducible repeat (first | refine aN ?_ _ | refine aQ ?_ | refine aM ?_ _)); refine blk_far ?_ NB290_292.out _; (with_reducible repeat (first | refine aN ?_ _ | refine aQ ?_ | refine aM ?_ _)); exact BK290.out⟩, ⟨by (with_reducible repeat (first | refine aN ?_ _ | refine aQ ?_ | refine aM ?_ _)); refine blk_far ?_ NB291_292.out _; (with_reducible repeat (first | refine aN ?_ _ | refine aQ ?_ | refine aM ?_ _)); exact BK291.out⟩, ⟨by (with_reducible repeat (first | refine aN ?_ _ | refine aQ ?_ | refine aM ?_ _)); refine bG (cs := #[u293000]) ?_ 0 _ rfl; (with_reducible repeat (first | refine aN ?_ _ | refine aQ ?_ | refine aM ?_ _)); exact BK292.out⟩, ⟨by repeat (first | (with_reducible first | exact HB.out | apply aH | apply aC | apply aG | refine aJ ?_ GE290.out | refine aJ ?_ GE291.out | refine aJ ?_ GE292.out) | exact HB.out)⟩⟩
      ·rw [if_neg c14] at H
       exact absurd H (by simp)
     ·rw [if_neg c12] at H
      exact absurd H (by simp)
    ·rw [if_neg c11] at H
     exact absurd H (by simp)
   ·rw [if_neg c10] at H
    have c10b0 : decide (x10_1 < (l0_0.length : Int)) = false := decide_eq_false c10
    clear c10
    obtain rfl := Option.some.inj H
    have hnb21 := NB292_290.out
    have hnc21 := NB290_292.out
    have hnb22 := NB292_291.out
    have hnc22 := NB291_292.out
    have hcz23_0 : wr.cell? ⟨gb292, 0, none⟩ = some (u293000) := (aE BK292.out 0).trans rfl
    have hfz23_0 := aD BK292.out 0
    obtain ⟨Ao24, co24, eo24⟩ := Kd.S_slice HO_293000.out
    subst eo24
    have hnb25 := NB291_290.out
    have hnc25 := NB290_291.out
    have hcz26_0 : wr.cell? ⟨gb291, 0, none⟩ = some (.slice none 0 0) := (aE BK291.out 0).trans rfl
    have hfz26_0 := aD BK291.out 0
    go_wp2
    refine bodyPost_ret (results_cell_row rfl _ _ gb291 59 #[.slice Ao24 x293000_1.length co24] (0, 0) _ rfl (by (with_reducible repeat (first | refine aN ?_ _ | refine aQ ?_ | refine aM ?_ _)); refine bG (cs := #[.slice none 0 0]) ?_ 0 _ rfl; (with_reducible repeat (first | refine aN ?_ _ | refine aQ ?_ | refine aM ?_ _)); exact BK291.out) Try.underlying59 rfl (by kernel_rfl)) rfl ?_
    exact ⟨_, by first | rfl | (simp [errW_none, errW_some] <;> rfl) | (simp [*, errW_none, errW_some] <;> rfl), by (with_reducible repeat (first | apply Kd.S_alloc | apply Kd.S_drewN | apply Kd.S_drew)); exact Kd.S_mono (Kd.S_far (p := ⟨gb291, 0, none⟩) (Kd.S_types HO_293000.out BK291.out (by decide)) (fun _ hk => hk.2) (.slice Ao24 x293000_1.length co24)) (fun _ hk => trivial), by repeat (first | (with_reducible first | exact HB.out | apply aH | apply aC | apply aG | refine aJ ?_ GE290.out | refine aJ ?_ GE291.out | refine aJ ?_ GE292.out) | exact HB.out)⟩
end Go.Proofs.Ytamjbjkbineafaa.PFnExactTreePack

namespace Go.Proofs.Ytamjbjkbineafaa.PFnExactTreePack
open Go.RowKit Go.Proofs.YtamjbjkbineafaaW.PrintWords Go.Proofs.YtamjbjkbineafaaW.PrintLast Go.Proofs.YtamjbjkbineafaaW.PrintMore
attribute [local go_sem] max2_int min2_int max_two min_two max_three min_three max_four min_four   -- for this text's walks alone
set_option linter.unusedVariables false
set_option linter.unusedSimpArgs false
def impl_copyTree.l0 : Nat → List (S59) → Int → Int → List Int → List (S59) → Option (List Int × (List (S59)))
 | 0, _, _, _, _, _ => none
 | k + 1, x11, x12, x13, x306000, x306001 => if x13 < x12 then (if 0 ≤ x13 then (if x13 < (x11.length : Int) then ((impl_copyNode.f k ((rd_T59 x11 x13).f0)).bind fun t308 => (if x306001.length < 5864062014805 then (impl_copyTree.l0 k x11 x12 (wrap64 (x13 + 1)) x306000 (x306001 ++ [(⟨t308⟩ : S59)])) else (none))) else (none)) else (none)) else (some (x306000, x306001))
def impl_copyTree.f (k : Nat) (l0_0 : List Int) (l0_1 : List (S59)) : Option (List Int × (List (S59))) := (impl_copyInts.f l0_0).bind fun t302 => (impl_copyTree.l0 k l0_1 (l0_1.length : Int) 0 t302 ([] : List (S59)))
def impl_copyTree.T5 : Bool × List (List Nat × List Nat) := (true, [([], []), ([0], [0]), ([], []), ([2], [2]), ([3], [3]), ([1, 4, 3], [1, 4]), ([0, 1, 2, 3, 4, 5], []), ([6, 5, 5, 0, 1, 2, 3, 4, 5], [5, 6])])
def impl_copyTree.B5 : List Nat := [0, 1, 0, 4, 12, 31, 63, 127]
def impl_within.f (a0 : Int) (a1 : Int) (a2 : Int) : Option (Bool) := if a0 ≥ a1 then (some (decide (a0 ≤ a2))) else (some false)
set_option maxHeartbeats 8000000 in
set_option maxRecDepth 100000 in
theorem impl_within.calls (a0 : Int) (a1 : Int) (a2 : Int) (r : Bool) (w : World) (h : impl_within.f a0 a1 a2 = some r) :
  Calls Try.prog 32 #[.int .i64 a0, .int .i64 a1, .int .i64 a2] w fun e w' => e = .returned (.bool r) ∧ bH w w' := by
 have H : (if a0 ≥ a1 then (some (decide (a0 ≤ a2))) else (some false)) = some r := h
 clear h
 by_cases c4 : a0 ≥ a1
 ·rw [if_pos c4] at H
  have c4b0 : decide (a1 ≤ a0) = true := decide_eq_true c4
  clear c4
  obtain rfl := Option.some.inj H
  go_enter Try.func32, Try.ntmps32
  go_wp2
  go_ret
  exact ⟨by first | rfl | (simp; done) | (simp [*]; done), by repeat (first | exact bH.refl _ | apply bH.step)⟩
 ·rw [if_neg c4] at H
  have c4b0 : decide (a1 ≤ a0) = false := decide_eq_false c4
  clear c4
  obtain rfl := Option.some.inj H
  go_enter Try.func32, Try.ntmps32
  go_wp2
  go_ret
  exact ⟨by first | rfl | (simp; done) | (simp [*]; done), by repeat (first | exact bH.refl _ | apply bH.step)⟩
def impl_LessKey.f (a0_0 : Int) (a0_1 : Int) (a0_2 : Int) (a0_3 : Int) (a0_4 : Int) (a1_0 : Int) (a1_1 : Int) (a1_2 : Int) (a1_3 : Int) (a1_4 : Int) : Option (Bool) := if a0_0 < a1_0 then (some true) else (if a0_0 = a1_0 then (some (decide (a0_1 < a1_1))) else (some false))
set_option maxHeartbeats 8000000 in
set_option maxRecDepth 100000 in
theorem impl_LessKey.calls (a0_0 : Int) (a0_1 : Int) (a0_2 : Int) (a0_3 : Int) (a0_4 : Int) (a1_0 : Int) (a1_1 : Int) (a1_2 : Int) (a1_3 : Int) (a1_4 : Int) (r : Bool) (w : World) (h : impl_LessKey.f a0_0 a0_1 a0_2 a0_3 a0_4 a1_0 a1_1 a1_2 a1_3 a1_4 = some r) :
  Calls Try.prog 99 #[.agg #[.int .i64 a0_0, .int .i64 a0_1, .int .i64 a0_2, .int .i64 a0_3, .int .i64 a0_4], .agg #[.int .i64 a1_0, .int .i64 a1_1, .int .i64 a1_2, .int .i64 a1_3, .int .i64 a1_4]] w fun e w' => e = .returned (.bool r) ∧ Below w.heap.size w w' := by
 have hu38 := Try.underlying38
 have HB := aA.mk (Below.refl w.heap.size w)
 have H : (if a0_0 < a1_0 then (some true) else (if a0_0 = a1_0 then (some (decide (a0_1 < a1_1))) else (some false))) = some r := h
 clear h
 by_cases c3 : a0_0 < a1_0
 ·rw [if_pos c3] at H
  have c3b0 : decide (a0_0 < a1_0) = true := decide_eq_true c3
  clear c3
  obtain rfl := Option.some.inj H
  go_enter Try.func99, Try.ntmps99
  go_wp2_with (first | ((with_reducible refine aW (N := 2) rfl ?_); refine aX ?hg (N := 2) ?hd (cs := #[.int .i64 a0_0, .int .i64 a0_1, .int .i64 a0_2, .int .i64 a0_3, .int .i64 a0_4]) (t := 38) ?hr ?_; (case hd => rfl); (case hg => rfl); (case hr => first | (go_simp; done) | (go_simp; rfl)); intro gb314 hg w4 hbox hb; have n0_ := aA.mk (aU (by repeat (first | (with_reducible first | exact HB.out | apply aH | apply aC | apply aG) | exact HB.out)) hb); have n1_ := aA.mk (hbox); have n2_ := aA.mk ((by rw [hg]; exact (aT (by repeat (first | (with_reducible first | exact HB.out | apply aH | apply aC | apply aG) | exact HB.out))) : w.heap.size ≤ gb314)); have n3_ := aA.mk ((by rw [hg]; exact (aT (by repeat (first | (with_reducible first | exact HB.out | apply aH | apply aC | apply aG) | exact HB.out))) : w.heap.size ≤ gb314)); clear HB; have HB := n0_; have BK314 := n1_; have GW314 := n2_; have GE314 := n3_; clear n0_ n1_ n2_ n3_; clear hb hbox hg) | ((with_reducible refine aW (N := 3) rfl ?_); refine aX ?hg (N := 3) ?hd (cs := #[.int .i64 a1_0, .int .i64 a1_1, .int .i64 a1_2, .int .i64 a1_3, .int .i64 a1_4]) (t := 38) ?hr ?_; (case hd => rfl); (case hg => rfl); (case hr => first | (go_simp; done) | (go_simp; rfl)); intro gb315 hg w5 hbox hb; have n0_ := aA.mk (aV (g := gb314) (o := .cells #[.int .i64 a0_0, .int .i64 a0_1, .int .i64 a0_2, .int .i64 a0_3, .int .i64 a0_4] 38 (0, 0)) (by (with_reducible repeat (first | refine aN ?_ _ | refine aQ ?_ | refine aM ?_ _)); exact BK314.out) hb); have n1_ := aA.mk (aU (by repeat (first | (with_reducible first | exact HB.out | apply aH | apply aC | apply aG | refine aJ ?_ GE314.out) | exact HB.out)) hb); have n2_ := aA.mk (hbox); have n3_ := aA.mk ((by rw [hg]; exact (aT (by repeat (first | (with_reducible first | exact HB.out | apply aH | apply aC | apply aG | refine aJ ?_ GE314.out) | exact HB.out))) : w.heap.size ≤ gb315)); have n4_ := aA.mk ((by rw [hg]; exact (aT (by repeat (first | (with_reducible first | exact HB.out | apply aH | apply aC | apply aG | refine aJ ?_ GE314.out) | exact HB.out))) : w.heap.size ≤ gb315)); have n5_ := aA.mk ((by rw [hg]; exact Nat.ne_of_lt (bF (g := gb314) (o := .cells #[.int .i64 a0_0, .int .i64 a0_1, .int .i64 a0_2, .int .i64 a0_3, .int .i64 a0_4] 38 (0, 0)) (by (with_reducible repeat (first | refine aN ?_ _ | refine aQ ?_ | refine aM ?_ _)); exact BK314.out)) : gb314 ≠ gb315)); have n6_ := aA.mk ((by rw [hg]; exact Nat.ne_of_gt (bF (g := gb314) (o := .cells #[.int .i64 a0_0, .int .i64 a0_1, .int .i64 a0_2, .int .i64 a0_3, .int .i64 a0_4] 38 (0, 0)) (by (with_reducible repeat (first | refine aN ?_ _ | refine aQ ?_ | refine aM ?_ _)); exact BK314.out)) : gb315 ≠ gb314)); clear BK314; clear HB; have BK314 := n0_; have HB := n1_; have BK315 := n2_; have GW315 := n3_; have GE315 := n4_; have NB314_315 := n5_; have NB315_314 := n6_; clear n0_ n1_ n2_ n3_ n4_ n5_ n6_; clear hb hbox hg; have hnb6 := NB314_315.out; have hnc6 := NB315_314.out; have hcz7_0 : w5.cell? ⟨gb314, 0, none⟩ = some (.int .i64 a0_0) := (aE BK314.out 0).trans rfl; have hcz7_1 : w5.cell? ⟨gb314, 1, none⟩ = some (.int .i64 a0_1) := (aE BK314.out 1).trans rfl; have hcz7_2 : w5.cell? ⟨gb314, 2, none⟩ = some (.int .i64 a0_2) := (aE BK314.out 2).trans rfl; have hcz7_3 : w5.cell? ⟨gb314, 3, none⟩ = some (.int .i64 a0_3) := (aE BK314.out 3).trans rfl; have hcz7_4 : w5.cell? ⟨gb314, 4, none⟩ = some (.int .i64 a0_4) := (aE BK314.out 4).trans rfl; have hfz7_0 := aD BK314.out 0; have hfz7_1 := aD BK314.out 1; have hfz7_2 := aD BK314.out 2; have hfz7_3 := aD BK314.out 3; have hfz7_4 := aD BK314.out 4; have hcz8_0 : w5.cell? ⟨gb315, 0, none⟩ = some (.int .i64 a1_0) := (aE BK315.out 0).trans rfl; have hcz8_1 : w5.cell? ⟨gb315, 1, none⟩ = some (.int .i64 a1_1) := (aE BK315.out 1).trans rfl; have hcz8_2 : w5.cell? ⟨gb315, 2, none⟩ = some (.int .i64 a1_2) := (aE BK315.out 2).trans rfl; have hcz8_3 : w5.cell? ⟨gb315, 3, none⟩ = some (.int .i64 a1_3) := (aE BK315.out 3).trans rfl; have hcz8_4 : w5.cell? ⟨gb315, 4, none⟩ = some (.int .i64 a1_4) := (aE BK315.out 4).trans rfl; have hfz8_0 := aD BK315.out 0; have hfz8_1 := aD BK315.out 1; have hfz8_2 := aD BK315.out 2; have hfz8_3 := aD BK315.out 3; have hfz8_4 := aD BK315.out 4))
  go_ret
  exact ⟨by first | rfl | (simp [errW_none, errW_some] <;> rfl) | (simp [*, errW_none, errW_some] <;> rfl), by repeat (first | (with_reducible first | exact HB.out | apply aH | apply aC | apply aG | refine aJ ?_ GE314.out | refine aJ ?_ GE315.out) | exact HB.out)⟩
 ·rw [if_neg c3] at H
  have c3b0 : decide (a0_0 < a1_0) = false := decide_eq_false c3
  clear c3
  by_cases c9 : a0_0 = a1_0
  ·rw [if_pos c9] at H
   have c9b0 : (a0_0 == a1_0) = true := beq_iff_eq.mpr c9
   have c9b1 : (a0_0 != a1_0) = false := bne_eq_false_iff_eq.mpr c9
   clear c9
   obtain rfl := Option.some.inj H
   go_enter Try.func99, Try.ntmps99
   go_wp2_with (first | ((with_reducible refine aW (N := 2) rfl ?_); refine aX ?hg (N := 2) ?hd (cs := #[.int .i64 a0_0, .int .i64 a0_1, .int .i64 a0_2, .int .i64 a0_3, .int .i64 a0_4]) (t := 38) ?hr ?_; (case hd => rfl); (case hg => rfl); (case hr => first | (go_simp; done) | (go_simp; rfl)); intro gb314 hg w10 hbox hb; have n0_ := aA.mk (aU (by repeat (first | (with_reducible first | exact HB.out | apply aH | apply aC | apply aG) | exact HB.out)) hb); have n1_ := aA.mk (hbox); have n2_ := aA.mk ((by rw [hg]; exact (aT (by repeat (first | (with_reducible first | exact HB.out | apply aH | apply aC | apply aG) | exact HB.out))) : w.heap.size ≤ gb314)); have n3_ := aA.mk ((by rw [hg]; exact (aT (by repeat (first | (with_reducible first | exact HB.out | apply aH | apply aC | apply aG) | exact HB.out))) : w.heap.size ≤ gb314)); clear HB; have HB := n0_; have BK314 := n1_; have GW314 := n2_; have GE314 := n3_; clear n0_ n1_ n2_ n3_; clear hb hbox hg) | ((with_reducible refine aW (N := 3) rfl ?_); refine aX ?hg (N := 3) ?hd (cs := #[.int .i64 a1_0, .int .i64 a1_1, .int .i64 a1_2, .int .i64 a1_3, .int .i64 a1_4]) (t := 38) ?hr ?_; (case hd => rfl); (case hg => rfl); (case hr => first | (go_simp; done) | (go_simp; rfl)); intro gb315 hg w11 hbox hb; have n0_ := aA.mk (aV (g := gb314) (o := .cells #[.int .i64 a0_0, .int .i64 a0_1, .int .i64 a0_2, .int .i64 a0_3, .int .i64 a0_4] 38 (0, 0)) (by (with_reducible repeat (first | refine aN ?_ _ | refine aQ ?_ | refine aM ?_ _)); exact BK314.out) hb); have n1_ := aA.mk (aU (by repeat (first | (with_reducible first | exact HB.out | apply aH | apply aC | apply aG | refine aJ ?_ GE314.out) | exact HB.out)) hb); have n2_ := aA.mk (hbox); have n3_ := aA.mk ((by rw [hg]; exact (aT (by repeat (first | (with_reducible first | exact HB.out | apply aH | apply aC | apply aG | refine aJ ?_ GE314.out) | exact HB.out))) : w.heap.size ≤ gb315)); have n4_ := aA.mk ((by rw [hg]; exact (aT (by repeat (first | (with_reducible first | exact HB.out | apply aH | apply aC | apply aG | refine aJ ?_ GE314.out) | exact HB.out))) : w.heap.size ≤ gb315)); have n5_ := aA.mk ((by rw [hg]; exact Nat.ne_of_lt (bF (g := gb314) (o := .cells #[.int .i64 a0_0, .int .i64 a0_1, .int .i64 a0_2, .int .i64 a0_3, .int .i64 a0_4] 38 (0, 0)) (by (with_reducible repeat (first | refine aN ?_ _ | refine aQ ?_ | refine aM ?_ _)); exact BK314.out)) : gb314 ≠ gb315)); have n6_ := aA.mk ((by rw [hg]; exact Nat.ne_of_gt (bF (g := gb314) (o := .cells #[.int .i64 a0_0, .int .i64 a0_1, .int .i64 a0_2, .int .i64 a0_3, .int .i64 a0_4] 38 (0, 0)) (by (with_reducible repeat (first | refine aN ?_ _ | refine aQ ?_ | refine aM ?_ _)); exact BK314.out)) : gb315 ≠ gb314)); clear BK314; clear HB; have BK314 := n0_; have HB := n1_; have BK315 := n2_; have GW315 := n3_; have GE315 := n4_; have NB314_315 := n5_; have NB315_314 := n6_; clear n0_ n1_ n2_ n3_ n4_ n5_ n6_; clear hb hbox hg; have hnb12 := NB314_315.out; have hnc12 := NB315_314.out; have hcz13_0 : w11.cell? ⟨gb314, 0, none⟩ = some (.int .i64 a0_0) := (aE BK314.out 0).trans rfl; have hcz13_1 : w11.cell? ⟨gb314, 1, none⟩ = some (.int .i64 a0_1) := (aE BK314.out 1).trans rfl; have hcz13_2 : w11.cell? ⟨gb314, 2, none⟩ = some (.int .i64 a0_2) := (aE BK314.out 2).trans rfl; have hcz13_3 : w11.cell? ⟨gb314, 3, none⟩ = some (.int .i64 a0_3) := (aE BK314.out 3).trans rfl; have hcz13_4 : w11.cell? ⟨gb314, 4, none⟩ = some (.int .i64 a0_4) := (aE BK314.out 4).trans rfl; have hfz13_0 := aD BK314.out 0; have hfz13_1 := aD BK314.out 1; have hfz13_2 := aD BK314.out 2; have hfz13_3 := aD BK314.out 3; have hfz13_4 := aD BK314.out 4; have hcz14_0 : w11.cell? ⟨gb315, 0, none⟩ = some (.int .i64 a1_0) := (aE BK315.out 0).trans rfl; have hcz14_1 : w11.cell? ⟨gb315, 1, none⟩ = some (.int .i64 a1_1) := (aE BK315.out 1).trans rfl; have hcz14_2 : w11.cell? ⟨gb315, 2, none⟩ = some (.int .i64 a1_2) := (aE BK315.out 2).trans rfl; have hcz14_3 : w11.cell? ⟨gb315, 3, none⟩ = some (.int .i64 a1_3) := (aE BK315.out 3).trans rfl; have hcz14_4 : w11.cell? ⟨gb315, 4, none⟩ = some (.int .i64 a1_4) := (aE BK315.out 4).trans rfl; have hfz14_0 := aD BK315.out 0; have hfz14_1 := aD BK315.out 1; have hfz14_2 := aD BK315.out 2; have hfz14_3 := aD BK315.out 3; have hfz14_4 := aD BK315.out 4))
   go_ret
   exact ⟨by first | rfl | (simp [errW_none, errW_some] <;> rfl) | (simp [*, errW_none, errW_some] <;> rfl), by repeat (first | (with_reducible first | exact HB.out | apply aH | apply aC | apply aG | refine aJ ?_ GE314.out | refine aJ ?_ GE315.out) | exact HB.out)⟩
  ·rw [if_neg c9] at H
   have c9b0 : (a0_0 == a1_0) = false := beq_eq_false_iff_ne.mpr c9
   have c9b1 : (a0_0 != a1_0) = true := bne_iff_ne.mpr c9
   obtain rfl := Option.some.inj H
   go_enter Try.func99, Try.ntmps99
   go_wp2_with (first | ((with_reducible refine aW (N := 2) rfl ?_); refine aX ?hg (N := 2) ?hd (cs := #[.int .i64 a0_0, .int .i64 a0_1, .int .i64 a0_2, .int .i64 a0_3, .int .i64 a0_4]) (t := 38) ?hr ?_; (case hd => rfl); (case hg => rfl); (case hr => first | (go_simp; done) | (go_simp; rfl)); intro gb314 hg w15 hbox hb; have n0_ := aA.mk (aU (by repeat (first | (with_reducible first | exact HB.out | apply aH | apply aC | apply aG) | exact HB.out)) hb); have n1_ := aA.mk (hbox); have n2_ := aA.mk ((by rw [hg]; exact (aT (by repeat (first | (with_reducible first | exact HB.out | apply aH | apply aC | apply aG) | exact HB.out))) : w.heap.size ≤ gb314)); have n3_ := aA.mk ((by rw [hg]; exact (aT (by repeat (first | (with_reducible first | exact HB.out | apply aH | apply aC | apply aG) | exact HB.out))) : w.heap.size ≤ gb314)); clear HB; have HB := n0_; have BK314 := n1_; have GW314 := n2_; have GE314 := n3_; clear n0_ n1_ n2_ n3_; clear hb hbox hg) | ((with_reducible refine aW (N := 3) rfl ?_); refine aX ?hg (N := 3) ?hd (cs := #[.int .i64 a1_0, .int .i64 a1_1, .int .i64 a1_2, .int .i64 a1_3, .int .i64 a1_4]) (t := 38) ?hr ?_; (case hd => rfl); (case hg => rfl); (case hr => first | (go_simp; done) | (go_simp; rfl)); intro gb315 hg w16 hbox hb; have n0_ := aA.mk (aV (g := gb314) (o := .cells #[.int .i64 a0_0, .int .i64 a0_1, .int .i64 a0_2, .int .i64 a0_3, .int .i64 a0_4] 38 (0, 0)) (by (with_reducible repeat (first | refine aN ?_ _ | refine aQ ?_ | refine aM ?_ _)); exact BK314.out) hb); have n1_ := aA.mk (aU (by repeat (first | (with_reducible first | exact HB.out | apply aH | apply aC | apply aG | refine aJ ?_ GE314.out) | exact HB.out)) hb); have n2_ := aA.mk (hbox); have n3_ := aA.mk ((by rw [hg]; exact (aT (by repeat (first | (with_reducible first | exact HB.out | apply aH | apply aC | apply aG | refine aJ ?_ GE314.out) | exact HB.out))) : w.heap.size ≤ gb315)); have n4_ := aA.mk ((by rw [hg]; exact (aT (by repeat (first | (with_reducible first | exact HB.out | apply aH | apply aC | apply aG | refine aJ ?_ GE314.out) | exact HB.out))) : w.heap.size ≤ gb315)); have n5_ := aA.mk ((by rw [hg]; exact Nat.ne_of_lt (bF (g := gb314) (o := .cells #[.int .i64 a0_0, .int .i64 a0_1, .int .i64 a0_2, .int .i64 a0_3, .int .i64 a0_4] 38 (0, 0)) (by (with_reducible repeat (first | refine aN ?_ _ | refine aQ ?_ | refine aM ?_ _)); exact BK314.out)) : gb314 ≠ gb315)); have n6_ := aA.mk ((by rw [hg]; exact Nat.ne_of_gt (bF (g := gb314) (o := .cells #[.int .i64 a0_0, .int .i64 a0_1, .int .i64 a0_2, .int .i64 a0_3, .int .i64 a0_4] 38 (0, 0)) (by (with_reducible repeat (first | refine aN ?_ _ | refine aQ ?_ | refine aM ?_ _)); exact BK314.out)) : gb315 ≠ gb314)); clear BK314; clear HB; have BK314 := n0_; have HB := n1_; have BK315 := n2_; have GW315 := n3_; have GE315 := n4_; have NB314_315 := n5_; have NB315_314 := n6_; clear n0_ n1_ n2_ n3_ n4_ n5_ n6_; clear hb hbox hg; have hnb17 := NB314_315.out; have hnc17 := NB315_314.out; have hcz18_0 : w16.cell? ⟨gb314, 0, none⟩ = some (.int .i64 a0_0) := (aE BK314.out 0).trans rfl; have hcz18_1 : w16.cell? ⟨gb314, 1, none⟩ = some (.int .i64 a0_1) := (aE BK314.out 1).trans rfl; have hcz18_2 : w16.cell? ⟨gb314, 2, none⟩ = some (.int .i64 a0_2) := (aE BK314.out 2).trans rfl; have hcz18_3 : w16.cell? ⟨gb314, 3, none⟩ = some (.int .i64 a0_3) := (aE BK314.out 3).trans rfl; have hcz18_4 : w16.cell? ⟨gb314, 4, none⟩ = some (.int .i64 a0_4) := (aE BK314.out 4).trans rfl; have hfz18_0 := aD BK314.out 0; have hfz18_1 := aD BK314.out 1; have hfz18_2 := aD BK314.out 2; have hfz18_3 := aD BK314.out 3; have hfz18_4 := aD BK314.out 4; have hcz19_0 : w16.cell? ⟨gb315, 0, none⟩ = some (.int .i64 a1_0) := (aE BK315.out 0).trans rfl; have hcz19_1 : w16.cell? ⟨gb315, 1, none⟩ = some (.int .i64 a1_1) := (aE BK315.out 1).trans rfl; have hcz19_2 : w16.cell? ⟨gb315, 2, none⟩ = some (.int .i64 a1_2) := (aE BK315.out 2).trans rfl; have hcz19_3 : w16.cell? ⟨gb315, 3, none⟩ = some (.int .i64 a1_3) := (aE BK315.out 3).trans rfl; have hcz19_4 : w16.cell? ⟨gb315, 4, none⟩ = some (.int .i64 a1_4) := (aE BK315.out 4).trans rfl; have hfz19_0 := aD BK315.out 0; have hfz19_1 := aD BK315.out 1; have hfz19_2 := aD BK315.out 2; have hfz19_3 := aD BK315.out 3; have hfz19_4 := aD BK315.out 4))
   go_ret
   exact ⟨by first | rfl | (simp [errW_none, errW_some] <;> rfl) | (simp [*, errW_none, errW_some] <;> rfl), by repeat (first | (with_reducible first | exact HB.out | apply aH | apply aC | apply aG | refine aJ ?_ GE314.out | refine aJ ?_ GE315.out) | exact HB.out)⟩
def impl_SameSpot.f (a0_0 : Int) (a0_1 : Int) (a0_2 : Int) (a0_3 : Int) (a0_4 : Int) (a1_0 : Int) (a1_1 : Int) (a1_2 : Int) (a1_3 : Int) (a1_4 : Int) : Option (Bool) := if a0_0 = a1_0 then (some (a0_1 == a1_1)) else (some false)
set_option maxHeartbeats 8000000 in
set_option maxRecDepth 100000 in
theorem impl_SameSpot.calls (a0_0 : Int) (a0_1 : Int) (a0_2 : Int) (a0_3 : Int) (a0_4 : Int) (a1_0 : Int) (a1_1 : Int) (a1_2 : Int) (a1_3 : Int) (a1_4 : Int) (r : Bool) (w : World) (h : impl_SameSpot.f a0_0 a0_1 a0_2 a0_3 a0_4 a1_0 a1_1 a1_2 a1_3 a1_4 = some r) :
  Calls Try.prog 102 #[.agg #[.int .i64 a0_0, .int .i64 a0_1, .int .i64 a0_2, .int .i64 a0_3, .int .i64 a0_4], .agg #[.int .i64 a1_0, .int .i64 a1_1, .int .i64 a1_2, .int .i64 a1_3, .int .i64 a1_4]] w fun e w' => e = .returned (.bool r) ∧ Below w.heap.size w w' := by
 have hu38 := Try.underlying38
 have HB := aA.mk (Below.refl w.heap.size w)
 have H : (if a0_0 = a1_0 then (some (a0_1 == a1_1)) else (some false)) = some r := h
 clear h
 by_cases c3 : a0_0 = a1_0
 ·rw [if_pos c3] at H
  have c3b0 : (a0_0 == a1_0) = true := beq_iff_eq.mpr c3
  have c3b1 : (a0_0 != a1_0) = false := bne_eq_false_iff_eq.mpr c3
  clear c3
  obtain rfl := Option.some.inj H
  go_enter Try.func102, Try.ntmps102
  go_wp2_with (first | ((with_reducible refine aW (N := 2) rfl ?_); refine aX ?hg (N := 2) ?hd (cs := #[.int .i64 a0_0, .int .i64 a0_1, .int .i64 a0_2, .int .i64 a0_3, .int .i64 a0_4]) (t := 38) ?hr ?_; (case hd => rfl); (case hg => rfl); (case hr => first | (go_simp; done) | (go_simp; rfl)); intro gb316 hg w4 hbox hb; have n0_ := aA.mk (aU (by repeat (first | (with_reducible first | exact HB.out | apply aH | apply aC | apply aG) | exact HB.out)) hb); have n1_ := aA.mk (hbox); have n2_ := aA.mk ((by rw [hg]; exact (aT (by repeat (first | (with_reducible first | exact HB.out | apply aH | apply aC | apply aG) | exact HB.out))) : w.heap.size ≤ gb316)); have n3_ := aA.mk ((by rw [hg]; exact (aT (by repeat (first | (with_reducible first | exact HB.out | apply aH | apply aC | apply aG) | exact HB.out))) : w.heap.size ≤ gb316)); clear HB; have HB := n0_; have BK316 := n1_; have GW316 := n2_; have GE316 := n3_; clear n0_ n1_ n2_ n3_; clear hb hbox hg) | ((with_reducible refine aW (N := 3) rfl ?_); refine aX ?hg (N := 3) ?hd (cs := #[.int .i64 a1_0, .int .i64 a1_1, .int .i64 a1_2, .int .i64 a1_3, .int .i64 a1_4]) (t := 38) ?hr ?_; (case hd => rfl); (case hg => rfl); (case hr => first | (go_simp; done) | (go_simp; rfl)); intro gb317 hg w5 hbox hb; have n0_ := aA.mk (aV (g := gb316) (o := .cells #[.int .i64 a0_0, .int .i64 a0_1, .int .i64 a0_2, .int .i64 a0_3, .int .i64 a0_4] 38 (0, 0)) (by (with_reducible repeat (first | refine aN ?_ _ | refine aQ ?_ | refine aM ?_ _)); exact BK316.out) hb); have n1_ := aA.mk (aU (by repeat (first | (with_reducible first | exact HB.out | apply aH | apply aC | apply aG | refine aJ ?_ GE316.out) | exact HB.out)) hb); have n2_ := aA.mk (hbox); have n3_ := aA.mk ((by rw [hg]; exact (aT (by repeat (first | (with_reducible first | exact HB.out | apply aH | apply aC | apply aG | refine aJ ?_ GE316.out) | exact HB.out))) : w.heap.size ≤ gb317)); have n4_ := aA.mk ((by rw [hg]; exact (aT (by repeat (first | (with_reducible first | exact HB.out | apply aH | apply aC | apply aG | refine aJ ?_ GE316.out) | exact HB.out))) : w.heap.size ≤ gb317)); have n5_ := aA.mk ((by rw [hg]; exact Nat.ne_of_lt (bF (g := gb316) (o := .cells #[.int .i64 a0_0, .int .i64 a0_1, .int .i64 a0_2, .int .i64 a0_3, .int .i64 a0_4] 38 (0, 0)) (by (with_reducible repeat (first | refine aN ?_ _ | refine aQ ?_ | refine aM ?_ _)); exact BK316.out)) : gb316 ≠ gb317)); have n6_ := aA.mk ((by rw [hg]; exact Nat.ne_of_gt (bF (g := gb316) (o := .cells #[.int .i64 a0_0, .int .i64 a0_1, .int .i64 a0_2, .int .i64 a0_3, .int .i64 a0_4] 38 (0, 0)) (by (with_reducible repeat (first | refine aN ?_ _ | refine aQ ?_ | refine aM ?_ _)); exact BK316.out)) : gb317 ≠ gb316)); clear BK316; clear HB; have BK316 := n0_; have HB := n1_; have BK317 := n2_; have GW317 := n3_; have GE317 := n4_; have NB316_317 := n5_; have NB317_316 := n6_; clear n0_ n1_ n2_ n3_ n4_ n5_ n6_; clear hb hbox hg; have hnb6 := NB316_317.out; have hnc6 := NB317_316.out; have hcz7_0 : w5.cell? ⟨gb316, 0, none⟩ = some (.int .i64 a0_0) := (aE BK316.out 0).trans rfl; have hcz7_1 : w5.cell? ⟨gb316, 1, none⟩ = some (.int .i64 a0_1) := (aE BK316.out 1).trans rfl; have hcz7_2 : w5.cell? ⟨gb316, 2, none⟩ = some (.int .i64 a0_2) := (aE BK316.out 2).trans rfl; have hcz7_3 : w5.cell? ⟨gb316, 3, none⟩ = some (.int .i64 a0_3) := (aE BK316.out 3).trans rfl; have hcz7_4 : w5.cell? ⟨gb316, 4, none⟩ = some (.int .i64 a0_4) := (aE BK316.out 4).trans rfl; have hfz7_0 := aD BK316.out 0; have hfz7_1 := aD BK316.out 1; have hfz7_2 := aD BK316.out 2; have hfz7_3 := aD BK316.out 3; have hfz7_4 := aD BK316.out 4; have hcz8_0 : w5.cell? ⟨gb317, 0, none⟩ = some (.int .i64 a1_0) := (aE BK317.out 0).trans rfl; have hcz8_1 : w5.cell? ⟨gb317, 1, none⟩ = some (.int .i64 a1_1) := (aE BK317.out 1).trans rfl; have hcz8_2 : w5.cell? ⟨gb317, 2, none⟩ = some (.int .i64 a1_2) := (aE BK317.out 2).trans rfl; have hcz8_3 : w5.cell? ⟨gb317, 3, none⟩ = some (.int .i64 a1_3) := (aE BK317.out 3).trans rfl; have hcz8_4 : w5.cell? ⟨gb317, 4, none⟩ = some (.int .i64 a1_4) := (aE BK317.out 4).trans rfl; have hfz8_0 := aD BK317.out 0; have hfz8_1 := aD BK317.out 1; have hfz8_2 := aD BK317.out 2; have hfz8_3 := aD BK317.out 3; have hfz8_4 := aD BK317.out 4))
  go_ret
  exact ⟨by first | rfl | (simp [errW_none, errW_some] <;> rfl) | (simp [*, errW_none, errW_some] <;> rfl), by repeat (first | (with_reducible first | exact HB.out | apply aH | apply aC | apply aG | refine aJ ?_ GE316.out | refine aJ ?_ GE317.out) | exact HB.out)⟩
 ·rw [if_neg c3] at H
  have c3b0 : (a0_0 == a1_0) = false := beq_eq_false_iff_ne.mpr c3
  have c3b1 : (a0_0 != a1_0) = true := bne_iff_ne.mpr c3
  obtain rfl := Option.some.inj H
  go_enter Try.func102, Try.ntmps102
  go_wp2_with (first | ((with_reducible refine aW (N := 2) rfl ?_); refine aX ?hg (N := 2) ?hd (cs := #[.int .i64 a0_0, .int .i64 a0_1, .int .i64 a0_2, .int .i64 a0_3, .int .i64 a0_4]) (t := 38) ?hr ?_; (case hd => rfl); (case hg => rfl); (case hr => first | (go_simp; done) | (go_simp; rfl)); intro gb316 hg w9 hbox hb; have n0_ := aA.mk (aU (by repeat (first | (with_reducible first | exact HB.out | apply aH | apply aC | apply aG) | exact HB.out)) hb); have n1_ := aA.mk (hbox); have n2_ := aA.mk ((by rw [hg]; exact (aT (by repeat (first | (with_reducible first | exact HB.out | apply aH | apply aC | apply aG) | exact HB.out))) : w.heap.size ≤ gb316)); have n3_ := aA.mk ((by rw [hg]; exact (aT (by repeat (first | (with_reducible first | exact HB.out | apply aH | apply aC | apply aG) | exact HB.out))) : w.heap.size ≤ gb316)); clear HB; have HB := n0_; have BK316 := n1_; have GW316 := n2_; have GE316 := n3_; clear n0_ n1_ n2_ n3_; clear hb hbox hg) | ((with_reducible refine aW (N := 3) rfl ?_); refine aX ?hg (N := 3) ?hd (cs := #[.int .i64 a1_0, .int .i64 a1_1, .int .i64 a1_2, .int .i64 a1_3, .int .i64 a1_4]) (t := 38) ?hr ?_; (case hd => rfl); (case hg => rfl); (case hr => first | (go_simp; done) | (go_simp; rfl)); intro gb317 hg w10 hbox hb; have n0_ := aA.mk (aV (g := gb316) (o := .cells #[.int .i64 a0_0, .int .i64 a0_1, .int .i64 a0_2, .int .i64 a0_3, .int .i64 a0_4] 38 (0, 0)) (by (with_reducible repeat (first | refine aN ?_ _ | refine aQ ?_ | refine aM ?_ _)); exact BK316.out) hb); have n1_ := aA.mk (aU (by repeat (first | (with_reducible first | exact HB.out | apply aH | apply aC | apply aG | refine aJ ?_ GE316.out) | exact HB.out)) hb); have n2_ := aA.mk (hbox); have n3_ := aA.mk ((by rw [hg]; exact (aT (by repeat (first | (with_reducible first | exact HB.out | apply aH | apply aC | apply aG | refine aJ ?_ GE316.out) | exact HB.out))) : w.heap.size ≤ gb317)); have n4_ := aA.mk ((by rw [hg]; exact (aT (by repeat (first | (with_reducible first | exact HB.out | apply aH | apply aC | apply aG | refine aJ ?_ GE316.out) | exact HB.out))) : w.heap.size ≤ gb317)); have n5_ := aA.mk ((by rw [hg]; exact Nat.ne_of_lt (bF (g := gb316) (o := .cells #[.int .i64 a0_0, .int .i64 a0_1, .int .i64 a0_2, .int .i64 a0_3, .int .i64 a0_4] 38 (0, 0)) (by (with_reducible repeat (first | refine aN ?_ _ | refine aQ ?_ | refine aM ?_ _)); exact BK316.out)) : gb316 ≠ gb317)); have n6_ := aA.mk ((by rw [hg]; exact Nat.ne_of_gt (bF (g := gb316) (o := .cells #[.int .i64 a0_0, .int .i64 a0_1, .int .i64 a0_2, .int .i64 a0_3, .int .i64 a0_4] 38 (0, 0)) (by (with_reducible repeat (first | refine aN ?_ _ | refine aQ ?_ | refine aM ?_ _)); exact BK316.out)) : gb317 ≠ gb316)); clear BK316; clear HB; have BK316 := n0_; have HB := n1_; have BK317 := n2_; have GW317 := n3_; have GE317 := n4_; have NB316_317 := n5_; have NB317_316 := n6_; clear n0_ n1_ n2_ n3_ n4_ n5_ n6_; clear hb hbox hg; have hnb11 := NB316_317.out; have hnc11 := NB317_316.out; have hcz12_0 : w10.cell? ⟨gb316, 0, none⟩ = some (.int .i64 a0_0) := (aE BK316.out 0).trans rfl; have hcz12_1 : w10.cell? ⟨gb316, 1, none⟩ = some (.int .i64 a0_1) := (aE BK316.out 1).trans rfl; have hcz12_2 : w10.cell? ⟨gb316, 2, none⟩ = some (.int .i64 a0_2) := (aE BK316.out 2).trans rfl; have hcz12_3 : w10.cell? ⟨gb316, 3, none⟩ = some (.int .i64 a0_3) := (aE BK316.out 3).trans rfl; have hcz12_4 : w10.cell? ⟨gb316, 4, none⟩ = some (.int .i64 a0_4) := (aE BK316.out 4).trans rfl; have hfz12_0 := aD BK316.out 0; have hfz12_1 := aD BK316.out 1; have hfz12_2 := aD BK316.out 2; have hfz12_3 := aD BK316.out 3; have hfz12_4 := aD BK316.out 4; have hcz13_0 : w10.cell? ⟨gb317, 0, none⟩ = some (.int .i64 a1_0) := (aE BK317.out 0).trans rfl; have hcz13_1 : w10.cell? ⟨gb317, 1, none⟩ = some (.int .i64 a1_1) := (aE BK317.out 1).trans rfl; have hcz13_2 : w10.cell? ⟨gb317, 2, none⟩ = some (.int .i64 a1_2) := (aE BK317.out 2).trans rfl; have hcz13_3 : w10.cell? ⟨gb317, 3, none⟩ = some (.int .i64 a1_3) := (aE BK317.out 3).trans rfl; have hcz13_4 : w10.cell? ⟨gb317, 4, none⟩ = some (.int .i64 a1_4) := (aE BK317.out 4).trans rfl; have hfz13_0 := aD BK317.out 0; have hfz13_1 := aD BK317.out 1; have hfz13_2 := aD BK317.out 2; have hfz13_3 := aD BK317.out 3; have hfz13_4 := aD BK317.out 4))
  go_ret
  exact ⟨by first | rfl | (simp [errW_none, errW_some] <;> rfl) | (simp [*, errW_none, errW_some] <;> rfl), by repeat (first | (with_reducible first | exact HB.out | apply aH | apply aC | apply aG | refine aJ ?_ GE316.out | refine aJ ?_ GE317.out) | exact HB.out)⟩
end Go.Proofs.Ytamjbjkbineafaa.PFnExactTreePack
