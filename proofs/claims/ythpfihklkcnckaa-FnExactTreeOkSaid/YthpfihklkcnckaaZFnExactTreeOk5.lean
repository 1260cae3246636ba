/- The law: the functions that it reaches, each with the proof that the machine's call comes to its answer, what they answer, and the law's row; each theorem says its conditions itself. -/
import Derived.Test.YthpfihklkcnckaaZFnExactTreeOk4
import Derived.IntWalk
import Derived.Laws.BitsLemmas
import Derived.ChangeArms
import Derived.ChangeShapes
import Derived.WideShapes
import Derived.Test.YthpfihklkcnckaaRows
import Derived.WalkKit
import Derived.ProofKit
import Derived.OpenShut
import Derived.ShutString
import Derived.ChangeOld
import Derived.Below
import Derived.SizedLaws
namespace Go.Proofs.Ythpfihklkcnckaa.PFnExactTreeOk
open Go.RowKit Go.Proofs.YthpfihklkcnckaaW.PrintWords Go.Proofs.YthpfihklkcnckaaW.PrintLast Go.Proofs.YthpfihklkcnckaaW.PrintMore
attribute [local go_sem] max2_int min2_int max_two min_two max_three min_three max_four min_four   -- for this text's walks alone
set_option linter.unusedVariables false
set_option linter.unusedSimpArgs false
def laws_FnExactTreeOk.f (k : Nat) (l0_0 : List Int) (l0_1 : List (S24)) : Option (Bool) := (laws_szTree.f k l0_0 l0_1 1048576).bind fun t386 => (if t386 < 0 then (some true) else ((laws_toTree.f k l0_0 l0_1).bind fun bt387 => ((spec_TreeOk.f k bt387.1 bt387.2).bind fun t393 => ((laws_toTree.f k l0_0 l0_1).bind fun bt394 => ((impl_TreeOk.f k bt394.1 bt394.2).bind fun t401 => (if (t401 != t393) = true then (some false) else ((laws_toTree.f k l0_0 l0_1).bind fun bt402 => ((laws_eqTree.f k bt394.1 bt394.2 bt402.1 bt402.2).bind fun t408 => (if t408 = true then (some true) else (some false))))))))))
set_option maxHeartbeats 8000000 in
set_option maxRecDepth 100000 in
theorem laws_FnExactTreeOk.calls (k : Nat) (A0_0 : Option Addr) (c0_0 : Nat) (l0_0 : List Int) (A0_1 : Option Addr) (c0_1 : Nat) (l0_1 : List (S24)) (r : Bool) (w : World) (hr0_0 : Kd.C (Kd.int .i64) w A0_0 l0_0.length l0_0) (hc0_0 : l0_0.length ≤ c0_0) (hr0_1 : Kd.C k24 w A0_1 l0_1.length l0_1) (hc0_1 : l0_1.length ≤ c0_1) (h : laws_FnExactTreeOk.f k l0_0 l0_1 = some r) :
  Calls Try.prog 13 #[.agg #[.slice A0_0 l0_0.length c0_0, .slice A0_1 l0_1.length c0_1]] w fun e w' => e = .returned (.bool r) ∧ Below w.heap.size w w' := by
 have hu65 := Try.underlying65
 have hu58 := Try.underlying58
 have HR0_0 := aA.mk hr0_0
 have HC0_0 := aA.mk hc0_0
 clear hr0_0 hc0_0
 have HR0_1 := aA.mk hr0_1
 have HC0_1 := aA.mk hc0_1
 clear hr0_1 hc0_1
 have HB := aA.mk (Below.refl w.heap.size w)
 have H : ((laws_szTree.f k l0_0 l0_1 1048576).bind fun t386 => (if t386 < 0 then (some true) else ((laws_toTree.f k l0_0 l0_1).bind fun bt387 => ((spec_TreeOk.f k bt387.1 bt387.2).bind fun t393 => ((laws_toTree.f k l0_0 l0_1).bind fun bt394 => ((impl_TreeOk.f k bt394.1 bt394.2).bind fun t401 => (if (t401 != t393) = true then (some false) else ((laws_toTree.f k l0_0 l0_1).bind fun bt402 => ((laws_eqTree.f k bt394.1 bt394.2 bt402.1 bt402.2).bind fun t408 => (if t408 = true then (some true) else (some false))))))))))) = some r := h
 clear h
 replace H := lF H
 obtain ⟨t386, A20, H⟩ := H
 replace H : (if t386 < 0 then (some true) else ((laws_toTree.f k l0_0 l0_1).bind fun bt387 => ((spec_TreeOk.f k bt387.1 bt387.2).bind fun t393 => ((laws_toTree.f k l0_0 l0_1).bind fun bt394 => ((impl_TreeOk.f k bt394.1 bt394.2).bind fun t401 => (if (t401 != t393) = true then (some false) else ((laws_toTree.f k l0_0 l0_1).bind fun bt402 => ((laws_eqTree.f k bt394.1 bt394.2 bt402.1 bt402.2).bind fun t408 => (if t408 = true then (some true) else (some false)))))))))) = some r := H
 have A2 := aA.mk A20
 clear A20
 by_cases c3 : t386 < 0
 ·rw [if_pos c3] at H
  have c3b0 : decide (t386 < 0) = true := decide_eq_true c3
  clear c3
  obtain rfl := Option.some.inj H
  go_enter Try.func13, Try.ntmps13
  go_wp2_with (first | ((with_reducible refine bF (N := 1) rfl ?_); refine bH ?hg (N := 1) ?hd (cs := #[.slice A0_0 l0_0.length c0_0, .slice A0_1 l0_1.length c0_1]) (t := 65) ?hr ?_; (case hd => rfl); (case hg => rfl); (case hr => first | (go_simp; done) | (go_simp; rfl)); intro gb385 hg w4 hbox hb; have n0_ := aA.mk (aV (by repeat (first | (with_reducible first | exact HB.out | apply aE | apply aC | apply aD) | exact HB.out)) hb); have n1_ := aA.mk (hbox); have n2_ := aA.mk ((by rw [hg]; exact (aQ (by repeat (first | (with_reducible first | exact HB.out | apply aE | apply aC | apply aD) | exact HB.out))) : w.heap.size ≤ gb385)); have n3_ := aA.mk ((by rw [hg]; exact (aQ (by repeat (first | (with_reducible first | exact HB.out | apply aE | apply aC | apply aD) | exact HB.out))) : w.heap.size ≤ gb385)); clear HB; have HB := n0_; have BK385 := n1_; have GW385 := n2_; have GE385 := n3_; clear n0_ n1_ n2_ n3_; clear hb hbox hg; have hcz5_0 : w4.cell? ⟨gb385, 0, none⟩ = some (.slice A0_0 l0_0.length c0_0) := (aG BK385.out 0).trans rfl; have hcz5_1 : w4.cell? ⟨gb385, 1, none⟩ = some (.slice A0_1 l0_1.length c0_1) := (aG BK385.out 1).trans rfl; have hfz5_0 := aH BK385.out 0; have hfz5_1 := aH BK385.out 1) | ((with_reducible refine bC (f := 43) rfl ?_); refine bL (some 9) rfl rfl Try.func43 (by kernel_rfl) rfl #[.agg #[.slice A0_0 l0_0.length c0_0, .slice A0_1 l0_1.length c0_1], .int .i64 1048576] rfl (by (try simp only [List.map_toArray, List.map_cons, List.map_nil]); first | done | rfl | (simp only [List.length_drop, List.length_take]; rfl)) ?_; (with_reducible refine (laws_szTree.calls k _ _ l0_0 _ _ l0_1 1048576 t386 _ ?side1 ?side2 ?side3 ?side4 A2.out).mono ?_); (case side1 => repeat (first | exact (Kd.bJ HR0_0.out HB.out) | (with_reducible refine Kd.bD ?_ _) | (with_reducible refine Kd.bE ?_ _) | (with_reducible refine Kd.bK ?_))); (case side2 => exact HC0_0.out); (case side3 => repeat (first | exact (Kd.bJ HR0_1.out HB.out) | (with_reducible refine Kd.bD ?_ _) | (with_reducible refine Kd.bE ?_ _) | (with_reducible refine Kd.bK ?_))); (case side4 => exact HC0_1.out); rintro e w6 ⟨rfl, hb⟩; refine ⟨_, rfl, ?_⟩; have n0_ := aA.mk (aY (g := gb385) (o := .cells #[.slice A0_0 l0_0.length c0_0, .slice A0_1 l0_1.length c0_1] 65 (0, 0)) (by (with_reducible repeat (first | refine aK ?_ _ | refine aN ?_ | refine aM ?_ _)); exact BK385.out) hb); have n1_ := aA.mk (aV (by repeat (first | (with_reducible first | exact HB.out | apply aE | apply aC | apply aD | refine aJ ?_ GE385.out) | exact HB.out)) hb); clear BK385; clear HB; have BK385 := n0_; have HB := n1_; clear n0_ n1_; (try clear hb)))
  go_ret
  exact ⟨by first | rfl | (simp [errW_none, errW_some] <;> rfl) | (simp [*, errW_none, errW_some] <;> rfl), by repeat (first | (with_reducible first | exact HB.out | apply aE | apply aC | apply aD | refine aJ ?_ GE385.out) | exact HB.out)⟩
 ·rw [if_neg c3] at H
  have c3b0 : decide (t386 < 0) = false := decide_eq_false c3
  clear c3
  replace H := lF H
  obtain ⟨⟨t387, t390⟩, A70, H⟩ := H
  replace H : ((spec_TreeOk.f k t387 t390).bind fun t393 => ((laws_toTree.f k l0_0 l0_1).bind fun bt394 => ((impl_TreeOk.f k bt394.1 bt394.2).bind fun t401 => (if (t401 != t393) = true then (some false) else ((laws_toTree.f k l0_0 l0_1).bind fun bt402 => ((laws_eqTree.f k bt394.1 bt394.2 bt402.1 bt402.2).bind fun t408 => (if t408 = true then (some true) else (some false)))))))) = some r := H
  have A7 := aA.mk A70
  clear A70
  replace H := lF H
  obtain ⟨t393, A80, H⟩ := H
  replace H : ((laws_toTree.f k l0_0 l0_1).bind fun bt394 => ((impl_TreeOk.f k bt394.1 bt394.2).bind fun t401 => (if (t401 != t393) = true then (some false) else ((laws_toTree.f k l0_0 l0_1).bind fun bt402 => ((laws_eqTree.f k bt394.1 bt394.2 bt402.1 bt402.2).bind fun t408 => (if t408 = true then (some true) else (some false))))))) = some r := H
  have A8 := aA.mk A80
  clear A80
  replace H := lF H
  obtain ⟨⟨t394, t397⟩, A90, H⟩ := H
  replace H : ((impl_TreeOk.f k t394 t397).bind fun t401 => (if (t401 != t393) = true then (some false) else ((laws_toTree.f k l0_0 l0_1).bind fun bt402 => ((laws_eqTree.f k t394 t397 bt402.1 bt402.2).bind fun t408 => (if t408 = true then (some true) else (some false)))))) = some r := H
  have A9 := aA.mk A90
  clear A90
  replace H := lF H
  obtain ⟨t401, A100, H⟩ := H
  replace H : (if (t401 != t393) = true then (some false) else ((laws_toTree.f k l0_0 l0_1).bind fun bt402 => ((laws_eqTree.f k t394 t397 bt402.1 bt402.2).bind fun t408 => (if t408 = true then (some true) else (some false))))) = some r := H
  have A10 := aA.mk A100
  clear A100
  by_cases c11 : (t401 != t393) = true
  ·rw [if_pos c11] at H
   have c11b0 : (t401 != t393) = true := c11
   (try (have c11b1 : decide (t401 = t393) = false := by simpa using c11))
   (try (have c11b2 : (t401 == t393) = false := by simpa using c11))
   (try (have c11b3 : ¬ (t401 = t393) := by simpa using c11))
   clear c11
   obtain rfl := Option.some.inj H
   go_enter Try.func13, Try.ntmps13
   go_wp2_with (first | ((with_reducible refine bF (N := 1) rfl ?_); refine bH ?hg (N := 1) ?hd (cs := #[.slice A0_0 l0_0.length c0_0, .slice A0_1 l0_1.length c0_1]) (t := 65) ?hr ?_; (case hd => rfl); (case hg => rfl); (case hr => first | (go_simp; done) | (go_simp; rfl)); intro gb385 hg w12 hbox hb; have n0_ := aA.mk (aV (by repeat (first | (with_reducible first | exact HB.out | apply aE | apply aC | apply aD) | exact HB.out)) hb); have n1_ := aA.mk (hbox); have n2_ := aA.mk ((by rw [hg]; exact (aQ (by repeat (first | (with_reducible first | exact HB.out | apply aE | apply aC | apply aD) | exact HB.out))) : w.heap.size ≤ gb385)); have n3_ := aA.mk ((by rw [hg]; exact (aQ (by repeat (first | (with_reducible first | exact HB.out | apply aE | apply aC | apply aD) | exact HB.out))) : w.heap.size ≤ gb385)); clear HB; have HB := n0_; have BK385 := n1_; have GW385 := n2_; have GE385 := n3_; clear n0_ n1_ n2_ n3_; clear hb hbox hg; have hcz13_0 : w12.cell? ⟨gb385, 0, none⟩ = some (.slice A0_0 l0_0.length c0_0) := (aG BK385.out 0).trans rfl; have hcz13_1 : w12.cell? ⟨gb385, 1, none⟩ = some (.slice A0_1 l0_1.length c0_1) := (aG BK385.out 1).trans rfl; have hfz13_0 := aH BK385.out 0; have hfz13_1 := aH BK385.out 1) | ((with_reducible refine bC (f := 43) rfl ?_); refine bL (some 9) rfl rfl Try.func43 (by kernel_rfl) rfl #[.agg #[.slice A0_0 l0_0.length c0_0, .slice A0_1 l0_1.length c0_1], .int .i64 1048576] rfl (by (try simp only [List.map_toArray, List.map_cons, List.map_nil]); first | done | rfl | (simp only [List.length_drop, List.length_take]; rfl)) ?_; (with_reducible refine (laws_szTree.calls k _ _ l0_0 _ _ l0_1 1048576 t386 _ ?side1 ?side2 ?side3 ?side4 A2.out).mono ?_); (case side1 => repeat (first | exact (Kd.bJ HR0_0.out HB.out) | (with_reducible refine Kd.bD ?_ _) | (with_reducible refine Kd.bE ?_ _) | (with_reducible refine Kd.bK ?_))); (case side2 => exact HC0_0.out); (case side3 => repeat (first | exact (Kd.bJ HR0_1.out HB.out) | (with_reducible refine Kd.bD ?_ _) | (with_reducible refine Kd.bE ?_ _) | (with_reducible refine Kd.bK ?_))); (case side4 => exact HC0_1.out); rintro e w14 ⟨rfl, hb⟩; refine ⟨_, rfl, ?_⟩; have n0_ := aA.mk (aY (g := gb385) (o := .cells #[.slice A0_0 l0_0.length c0_0, .slice A0_1 l0_1.length c0_1] 65 (0, 0)) (by (with_reducible repeat (first | refine aK ?_ _ | refine aN ?_ | refine aM ?_ _)); exact BK385.out) hb); have n1_ := aA.mk (aV (by repeat (first | (with_reducible first | exact HB.out | apply aE | apply aC | apply aD | refine aJ ?_ GE385.out) | exact HB.out)) hb); clear BK385; clear HB; have BK385 := n0_; have HB := n1_; clear n0_ n1_; (try clear hb); (try clear hk); have hcz15_0 : w14.cell? ⟨gb385, 0, none⟩ = some (.slice A0_0 l0_0.length c0_0) := (aG BK385.out 0).trans rfl; have hcz15_1 : w14.cell? ⟨gb385, 1, none⟩ = some (.slice A0_1 l0_1.length c0_1) := (aG BK385.out 1).trans rfl; have hfz15_0 := aH BK385.out 0; have hfz15_1 := aH BK385.out 1) | ((with_reducible refine bC (f := 45) rfl ?_); refine bL (some 13) rfl rfl Try.func45 (by kernel_rfl) rfl #[.agg #[.slice A0_0 l0_0.length c0_0, .slice A0_1 l0_1.length c0_1]] rfl (by (try simp only [List.map_toArray, List.map_cons, List.map_nil]); first | done | rfl | (simp only [List.length_drop, List.length_take]; rfl)) ?_; (with_reducible refine (laws_toTree.calls k _ _ l0_0 _ _ l0_1 t387 t390 _ ?side1 ?side2 ?side3 ?side4 A7.out).mono ?_); (case side1 => repeat (first | exact (Kd.bJ HR0_0.out HB.out) | (with_reducible refine Kd.bD ?_ _) | (with_reducible refine Kd.bE ?_ _) | (with_reducible refine Kd.bK ?_))); (case side2 => exact HC0_0.out); (case side3 => repeat (first | exact (Kd.bJ HR0_1.out HB.out) | (with_reducible refine Kd.bD ?_ _) | (with_reducible refine Kd.bE ?_ _) | (with_reducible refine Kd.bK ?_))); (case side4 => exact HC0_1.out); rintro e w16 ⟨v388, v391, rfl, ho0, ho1, hb⟩; refine ⟨_, rfl, ?_⟩; have n0_ := aA.mk (Kd.R_lower ho0 (aQ (by repeat (first | (with_reducible first | exact HB.out | apply aE | apply aC | apply aD | refine aJ ?_ GE385.out) | exact HB.out)))); have n1_ := aA.mk (Kd.R_lower ho1 (aQ (by repeat (first | (with_reducible first | exact HB.out | apply aE | apply aC | apply aD | refine aJ ?_ GE385.out) | exact HB.out)))); have n2_ := aA.mk (aY (g := gb385) (o := .cells #[.slice A0_0 l0_0.length c0_0, .slice A0_1 l0_1.length c0_1] 65 (0, 0)) (by (with_reducible repeat (first | refine aK ?_ _ | refine aN ?_ | refine aM ?_ _)); exact BK385.out) hb); have n3_ := aA.mk (aV (by repeat (first | (with_reducible first | exact HB.out | apply aE | apply aC | apply aD | refine aJ ?_ GE385.out) | exact HB.out)) hb); clear BK385; clear HB; have HO389 := n0_; have HO392 := n1_; have BK385 := n2_; have HB := n3_; clear n0_ n1_ n2_ n3_; (try clear hb); (try clear hk); (try clear ho0); (try clear ho1); obtain ⟨Ao17, co17, eo17⟩ := Kd.R_slice HO389.out; subst eo17; obtain ⟨Ao18, co18, eo18⟩ := Kd.R_slice HO392.out; subst eo18) | ((with_reducible refine bC (f := 51) rfl ?_); refine bL (some 14) rfl rfl Try.func51 (by kernel_rfl) rfl #[.agg #[.slice Ao17 t387.length co17, .slice Ao18 t390.length co18]] rfl (by (try simp only [List.map_toArray, List.map_cons, List.map_nil]); first | done | rfl | (simp only [List.length_drop, List.length_take]; rfl)) ?_; (with_reducible refine (spec_TreeOk.calls k _ _ t387 _ _ t390 t393 _ ?side1 ?side2 ?side3 ?side4 A8.out).mono ?_); (case side1 => repeat (first | exact (Kd.R_reads' HO389.out).2.2 | (with_reducible refine Kd.bD ?_ _) | (with_reducible refine Kd.bE ?_ _) | (with_reducible refine Kd.bK ?_))); (case side2 => exact (Kd.R_reads' HO389.out).2.1); (case side3 => repeat (first | exact (Kd.R_reads' HO392.out).2.2 | (with_reducible refine Kd.bD ?_ _) | (with_reducible refine Kd.bE ?_ _) | (with_reducible refine Kd.bK ?_))); (case side4 => exact (Kd.R_reads' HO392.out).2.1); rintro e w19 ⟨rfl, hb⟩; refine ⟨_, rfl, ?_⟩; have n0_ := aA.mk (Kd.bQ (by (with_reducible repeat (first | apply Kd.bA | apply Kd.aZ | apply Kd.bB)); exact HO389.out) hb); have n1_ := aA.mk (Kd.bQ (by (with_reducible repeat (first | apply Kd.bA | apply Kd.aZ | apply Kd.bB)); exact HO392.out) hb); have n2_ := aA.mk (aY (g := gb385) (o := .cells #[.slice A0_0 l0_0.length c0_0, .slice A0_1 l0_1.length c0_1] 65 (0, 0)) (by (with_reducible repeat (first | refine aK ?_ _ | refine aN ?_ | refine aM ?_ _)); exact BK385.out) hb); have n3_ := aA.mk (aV (by repeat (first | (with_reducible first | exact HB.out | apply aE | apply aC | apply aD | refine aJ ?_ GE385.out) | exact HB.out)) hb); clear HO389; clear HO392; clear BK385; clear HB; have HO389 := n0_; have HO392 := n1_; have BK385 := n2_; have HB := n3_; clear n0_ n1_ n2_ n3_; (try clear hb); (try clear hk); have hcz20_0 : w19.cell? ⟨gb385, 0, none⟩ = some (.slice A0_0 l0_0.length c0_0) := (aG BK385.out 0).trans rfl; have hcz20_1 : w19.cell? ⟨gb385, 1, none⟩ = some (.slice A0_1 l0_1.length c0_1) := (aG BK385.out 1).trans rfl; have hfz20_0 := aH BK385.out 0; have hfz20_1 := aH BK385.out 1) | ((with_reducible refine bC (f := 45) rfl ?_); refine bL (some 16) rfl rfl Try.func45 (by kernel_rfl) rfl #[.agg #[.slice A0_0 l0_0.length c0_0, .slice A0_1 l0_1.length c0_1]] rfl (by (try simp only [List.map_toArray, List.map_cons, List.map_nil]); first | done | rfl | (simp only [List.length_drop, List.length_take]; rfl)) ?_; (with_reducible refine (laws_toTree.calls k _ _ l0_0 _ _ l0_1 t394 t397 _ ?side1 ?side2 ?side3 ?side4 A9.out).mono ?_); (case side1 => repeat (first | exact (Kd.bJ HR0_0.out HB.out) | (with_reducible refine Kd.bD ?_ _) | (with_reducible refine Kd.bE ?_ _) | (with_reducible refine Kd.bK ?_))); (case side2 => exact HC0_0.out); (case side3 => repeat (first | exact (Kd.bJ HR0_1.out HB.out) | (with_reducible refine Kd.bD ?_ _) | (with_reducible refine Kd.bE ?_ _) | (with_reducible refine Kd.bK ?_))); (case side4 => exact HC0_1.out); rintro e w21 ⟨v395, v398, rfl, ho0, ho1, hb⟩; refine ⟨_, rfl, ?_⟩; have n0_ := aA.mk (Kd.R_elder' (by (with_reducible repeat (first | apply Kd.bA | apply Kd.aZ | apply Kd.bB)); exact HO389.out) (Kd.R_base ho0) hb); have n1_ := aA.mk (Kd.R_elder' (by (with_reducible repeat (first | apply Kd.bA | apply Kd.aZ | apply Kd.bB)); exact HO392.out) (Kd.R_base ho1) hb); have n2_ := aA.mk (Kd.R_lower (Kd.R_new' ho0 (Kd.R_lt (by (with_reducible repeat (first | apply Kd.bA | apply Kd.aZ | apply Kd.bB)); exact HO389.out))) (aQ (by repeat (first | (with_reducible first | exact HB.out | apply aE | apply aC | apply aD | refine aJ ?_ GE385.out) | exact HB.out)))); have n3_ := aA.mk (Kd.R_lower (Kd.R_new' ho1 (Kd.R_lt (by (with_reducible repeat (first | apply Kd.bA | apply Kd.aZ | apply Kd.bB)); exact HO392.out))) (aQ (by repeat (first | (with_reducible first | exact HB.out | apply aE | apply aC | apply aD | refine aJ ?_ GE385.out) | exact HB.out)))); have n4_ := aA.mk (aY (g := gb385) (o := .cells #[.slice A0_0 l0_0.length c0_0, .slice A0_1 l0_1.length c0_1] 65 (0, 0)) (by (with_reducible repeat (first | refine aK ?_ _ | refine aN ?_ | refine aM ?_ _)); exact BK385.out) hb); have n5_ := aA.mk (aV (by repeat (first | (with_reducible first | exact HB.out | apply aE | apply aC | apply aD | refine aJ ?_ GE385.out) | exact HB.out)) hb); clear HO389; clear HO392; clear BK385; clear HB; have HO389 := n0_; have HO392 := n1_; have HO396 := n2_; have HO399 := n3_; have BK385 := n4_; have HB := n5_; clear n0_ n1_ n2_ n3_ n4_ n5_; (try clear hb); (try clear hk); (try clear ho0); (try clear ho1)) | ((with_reducible refine bF (N := 5) rfl ?_); refine bH ?hg (N := 5) ?hd (cs := #[.slice none 0 0, .slice none 0 0]) (t := 58) ?hr ?_; (case hd => rfl); (case hg => rfl); (case hr => first | (go_simp; done) | (go_simp; rfl)); intro gb400 hg w22 hbox hb; have n0_ := aA.mk (Kd.bQ (by (with_reducible repeat (first | apply Kd.bA | apply Kd.aZ | apply Kd.bB)); exact HO389.out) hb); have n1_ := aA.mk (Kd.bQ (by (with_reducible repeat (first | apply Kd.bA | apply Kd.aZ | apply Kd.bB)); exact HO392.out) hb); have n2_ := aA.mk (Kd.bQ (by (with_reducible repeat (first | apply Kd.bA | apply Kd.aZ | apply Kd.bB)); exact HO396.out) hb); have n3_ := aA.mk (Kd.bQ (by (with_reducible repeat (first | apply Kd.bA | apply Kd.aZ | apply Kd.bB)); exact HO399.out) hb); have n4_ := aA.mk (aY (g := gb385) (o := .cells #[.slice A0_0 l0_0.length c0_0, .slice A0_1 l0_1.length c0_1] 65 (0, 0)) (by (with_reducible repeat (first | refine aK ?_ _ | refine aN ?_ | refine aM ?_ _)); exact BK385.out) hb); have n5_ := aA.mk (aV (by repeat (first | (with_reducible first | exact HB.out | apply aE | apply aC | apply aD | refine aJ ?_ GE385.out) | exact HB.out)) hb); have n6_ := aA.mk (hbox); have n7_ := aA.mk ((by rw [hg]; exact (aQ (by repeat (first | (with_reducible first | exact HB.out | apply aE | apply aC | apply aD | refine aJ ?_ GE385.out) | exact HB.out))) : w.heap.size ≤ gb400)); have n8_ := aA.mk ((by rw [hg]; exact (aQ (by repeat (first | (with_reducible first | exact HB.out | apply aE | apply aC | apply aD | refine aJ ?_ GE385.out) | exact HB.out))) : w.heap.size ≤ gb400)); have n9_ := aA.mk ((by rw [hg]; exact Nat.ne_of_lt (bN (g := gb385) (o := .cells #[.slice A0_0 l0_0.length c0_0, .slice A0_1 l0_1.length c0_1] 65 (0, 0)) (by (with_reducible repeat (first | refine aK ?_ _ | refine aN ?_ | refine aM ?_ _)); exact BK385.out)) : gb385 ≠ gb400)); have n10_ := aA.mk ((by rw [hg]; exact Nat.ne_of_gt (bN (g := gb385) (o := .cells #[.slice A0_0 l0_0.length c0_0, .slice A0_1 l0_1.length c0_1] 65 (0, 0)) (by (with_reducible repeat (first | refine aK ?_ _ | refine aN ?_ | refine aM ?_ _)); exact BK385.out)) : gb400 ≠ gb385)); clear HO389; clear HO392; clear HO396; clear HO399; clear BK385; clear HB; have HO389 := n0_; have HO392 := n1_; have HO396 := n2_; have HO399 := n3_; have BK385 := n4_; have HB := n5_; have BK400 := n6_; have GW400 := n7_; have GE400 := n8_; have NB385_400 := n9_; have NB400_385 := n10_; clear n0_ n1_ n2_ n3_ n4_ n5_ n6_ n7_ n8_ n9_ n10_; clear hb hbox hg; obtain ⟨Ao23, co23, eo23⟩ := Kd.R_slice HO396.out; subst eo23; have hnb24 := NB400_385.out; have hnc24 := NB385_400.out; have hcz25_0 : w22.cell? ⟨gb400, 0, none⟩ = some (.slice none 0 0) := (aG BK400.out 0).trans rfl; have hcz25_1 : w22.cell? ⟨gb400, 1, none⟩ = some (.slice none 0 0) := (aG BK400.out 1).trans rfl; have hfz25_0 := aH BK400.out 0; have hfz25_1 := aH BK400.out 1; obtain ⟨Ao26, co26, eo26⟩ := Kd.R_slice HO399.out; subst eo26) | ((with_reducible refine bC (f := 52) rfl ?_); refine bL (some 18) rfl rfl Try.func52 (by kernel_rfl) rfl #[.agg #[.slice Ao23 t394.length co23, .slice Ao26 t397.length co26]] rfl (by (try simp only [List.map_toArray, List.map_cons, List.map_nil]); first | done | rfl | (simp only [List.length_drop, List.length_take]; rfl)) ?_; (with_reducible refine (impl_TreeOk.calls k _ _ t394 _ _ t397 t401 _ ?side1 ?side2 ?side3 ?side4 A10.out).mono ?_); (case side1 => refine (Kd.R_reads' (e := 3) (base := w.heap.size) (ok := fun k_ => (True ∧ some k_ ≠ (.slice Ao17 t387.length co17 : Value).ownBlock)) (n := t394.length) (c := co23) ?_).2.2; exact (by (with_reducible repeat (first | apply Kd.bA | apply Kd.aZ | apply Kd.bB)); exact (Kd.bR (Kd.R_far (p := ⟨gb400, 1, none⟩) (Kd.R_far (p := ⟨gb400, 0, none⟩) (Kd.R_types HO396.out BK400.out (by decide)) (fun _ hk => hk.2) (.slice Ao23 t394.length co23)) (fun _ hk => hk.2) (.slice Ao26 t397.length co26)) (fun _ h_ => h_.1)))); (case side2 => exact (Kd.R_reads' HO396.out).2.1); (case side3 => refine (Kd.R_reads' (e := 32) (base := w.heap.size) (ok := fun k_ => (True ∧ some k_ ≠ (.slice Ao18 t390.length co18 : Value).ownBlock)) (n := t397.length) (c := co26) ?_).2.2; exact (by (with_reducible repeat (first | apply Kd.bA | apply Kd.aZ | apply Kd.bB)); exact (Kd.bR (Kd.R_far (p := ⟨gb400, 1, none⟩) (Kd.R_far (p := ⟨gb400, 0, none⟩) (Kd.R_types HO399.out BK400.out (by decide)) (fun _ hk => hk.2) (.slice Ao23 t394.length co23)) (fun _ hk => hk.2) (.slice Ao26 t397.length co26)) (fun _ h_ => h_.1)))); (case side4 => exact (Kd.R_reads' HO399.out).2.1); rintro e w27 ⟨rfl, hb⟩; refine ⟨_, rfl, ?_⟩; have n0_ := aA.mk (Kd.bQ (by (with_reducible repeat (first | apply Kd.bA | apply Kd.aZ | apply Kd.bB)); exact (Kd.bR (Kd.R_far (p := ⟨gb400, 1, none⟩) (Kd.R_far (p := ⟨gb400, 0, none⟩) (Kd.R_types HO389.out BK400.out (by decide)) (fun _ hk => hk.2) (.slice Ao23 t394.length co23)) (fun _ hk => hk.2) (.slice Ao26 t397.length co26)) (fun _ h_ => h_.1))) hb); have n1_ := aA.mk (Kd.bQ (by (with_reducible repeat (first | apply Kd.bA | apply Kd.aZ | apply Kd.bB)); exact (Kd.bR (Kd.R_far (p := ⟨gb400, 1, none⟩) (Kd.R_far (p := ⟨gb400, 0, none⟩) (Kd.R_types HO392.out BK400.out (by decide)) (fun _ hk => hk.2) (.slice Ao23 t394.length co23)) (fun _ hk => hk.2) (.slice Ao26 t397.length co26)) (fun _ h_ => h_.1))) hb); have n2_ := aA.mk (Kd.bQ (by (with_reducible repeat (first | apply Kd.bA | apply Kd.aZ | apply Kd.bB)); exact (Kd.bR (Kd.R_far (p := ⟨gb400, 1, none⟩) (Kd.R_far (p := ⟨gb400, 0, none⟩) (Kd.R_types HO396.out BK400.out (by decide)) (fun _ hk => hk.2) (.slice Ao23 t394.length co23)) (fun _ hk => hk.2) (.slice Ao26 t397.length co26)) (fun _ h_ => h_.1))) hb); have n3_ := aA.mk (Kd.bQ (by (with_reducible repeat (first | apply Kd.bA | apply Kd.aZ | apply Kd.bB)); exact (Kd.bR (Kd.R_far (p := ⟨gb400, 1, none⟩) (Kd.R_far (p := ⟨gb400, 0, none⟩) (Kd.R_types HO399.out BK400.out (by decide)) (fun _ hk => hk.2) (.slice Ao23 t394.length co23)) (fun _ hk => hk.2) (.slice Ao26 t397.length co26)) (fun _ h_ => h_.1))) hb); have n4_ := aA.mk (aY (g := gb385) (o := .cells #[.slice A0_0 l0_0.length c0_0, .slice A0_1 l0_1.length c0_1] 65 (0, 0)) (by (with_reducible repeat (first | refine aK ?_ _ | refine aN ?_ | refine aM ?_ _)); refine blk_far ?_ NB385_400.out _; (with_reducible repeat (first | refine aK ?_ _ | refine aN ?_ | refine aM ?_ _)); refine blk_far ?_ NB385_400.out _; (with_reducible repeat (first | refine aK ?_ _ | refine aN ?_ | refine aM ?_ _)); exact BK385.out) hb); have n5_ := aA.mk (aY (g := gb400) (o := .cells #[.slice Ao23 t394.length co23, .slice Ao26 t397.length co26] 58 (0, 0)) (by (with_reducible repeat (first | refine aK ?_ _ | refine aN ?_ | refine aM ?_ _)); refine bM (cs := #[.slice Ao23 t394.length co23, .slice none 0 0]) ?_ 1 _ rfl; (with_reducible repeat (first | refine aK ?_ _ | refine aN ?_ | refine aM ?_ _)); refine bM (cs := #[.slice none 0 0, .slice none 0 0]) ?_ 0 _ rfl; (with_reducible repeat (first | refine aK ?_ _ | refine aN ?_ | refine aM ?_ _)); exact BK400.out) hb); have n6_ := aA.mk (aV (by repeat (first | (with_reducible first | exact HB.out | apply aE | apply aC | apply aD | refine aJ ?_ GE385.out | refine aJ ?_ GE400.out) | exact HB.out)) hb); clear HO389; clear HO392; clear HO396; clear HO399; clear BK385; clear BK400; clear HB; have HO389 := n0_; have HO392 := n1_; have HO396 := n2_; have HO399 := n3_; have BK385 := n4_; have BK400 := n5_; have HB := n6_; clear n0_ n1_ n2_ n3_ n4_ n5_ n6_; (try clear hb); (try clear hk)))
   go_ret
   exact ⟨by first | rfl | (simp [errW_none, errW_some] <;> rfl) | (simp [*, errW_none, errW_some] <;> rfl), by repeat (first | (with_reducible first | exact HB.out | apply aE | apply aC | apply aD | refine aJ ?_ GE385.out | refine aJ ?_ GE400.out) | exact HB.out)⟩
  ·rw [if_neg c11] at H
   have c11b0 : (t401 != t393) = false := by simpa using c11
   (try (have c11b1 : decide (t401 = t393) = true := by simpa using c11))
   (try (have c11b2 : (t401 == t393) = true := by simpa using c11))
   clear c11
   replace H := lF H
   obtain ⟨⟨t402, t405⟩, A280, H⟩ := H
   replace H : ((laws_eqTree.f k t394 t397 t402 t405).bind fun t408 => (if t408 = true then (some true) else (some false))) = some r := H
   have A28 := aA.mk A280
   clear A280
   replace H := lF H
   obtain ⟨t408, A290, H⟩ := H
   replace H : (if t408 = true then (some true) else (some false)) = some r := H
   have A29 := aA.mk A290
   clear A290
   by_cases c30 : t408 = true
   ·subst c30
    have H1 : (some true) = some r := by rw [if_pos rfl] at H; exact H
    clear H
    have H := H1
    clear H1
    obtain rfl := Option.some.inj H
    go_enter Try.func13, Try.ntmps13
    try go_wp2_with (first | ((with_reducible refine bF (N := 1) rfl ?_); refine bH ?hg (N := 1) ?hd (cs := #[.slice A0_0 l0_0.length c0_0, .slice A0_1 l0_1.length c0_1]) (t := 65) ?hr ?_; (case hd => rfl); (case hg => rfl); (case hr => first | (go_simp; done) | (go_simp; rfl)); intro gb385 hg w31 hbox hb; have n0_ := aA.mk (aV (by repeat (first | (with_reducible first | exact HB.out | apply aE | apply aC | apply aD) | exact HB.out)) hb); have n1_ := aA.mk (hbox); have n2_ := aA.mk ((by rw [hg]; exact (aQ (by repeat (first | (with_reducible first | exact HB.out | apply aE | apply aC | apply aD) | exact HB.out))) : w.heap.size ≤ gb385)); have n3_ := aA.mk ((by rw [hg]; exact (aQ (by repeat (first | (with_reducible first | exact HB.out | apply aE | apply aC | apply aD) | exact HB.out))) : w.heap.size ≤ gb385)); clear HB; have HB := n0_; have BK385 := n1_; have GW385 := n2_; have GE385 := n3_; clear n0_ n1_ n2_ n3_; clear hb hbox hg; have hcz32_0 : w31.cell? ⟨gb385, 0, none⟩ = some (.slice A0_0 l0_0.length c0_0) := (aG BK385.out 0).trans rfl; have hcz32_1 : w31.cell? ⟨gb385, 1, none⟩ = some (.slice A0_1 l0_1.length c0_1) := (aG BK385.out 1).trans rfl; have hfz32_0 := aH BK385.out 0; have hfz32_1 := aH BK385.out 1) | ((with_reducible refine bC (f := 43) rfl ?_); refine bL (some 9) rfl rfl Try.func43 (by kernel_rfl) rfl #[.agg #[.slice A0_0 l0_0.length c0_0, .slice A0_1 l0_1.length c0_1], .int .i64 1048576] rfl (by (try simp only [List.map_toArray, List.map_cons, List.map_nil]); first | done | rfl | (simp only [List.length_drop, List.length_take]; rfl)) ?_; (with_reducible refine (laws_szTree.calls k _ _ l0_0 _ _ l0_1 1048576 t386 _ ?side1 ?side2 ?side3 ?side4 A2.out).mono ?_); (case side1 => repeat (first | exact (Kd.bJ HR0_0.out HB.out) | (with_reducible refine Kd.bD ?_ _) | (with_reducible refine Kd.bE ?_ _) | (with_reducible refine Kd.bK ?_))); (case side2 => exact HC0_0.out); (case side3 => repeat (first | exact (Kd.bJ HR0_1.out HB.out) | (with_reducible refine Kd.bD ?_ _) | (with_reducible refine Kd.bE ?_ _) | (with_reducible refine Kd.bK ?_))); (case side4 => exact HC0_1.out); rintro e w33 ⟨rfl, hb⟩; refine ⟨_, rfl, ?_⟩; have n0_ := aA.mk (aY (g := gb385) (o := .cells #[.slice A0_0 l0_0.length c0_0, .slice A0_1 l0_1.length c0_1] 65 (0, 0)) (by (with_reducible repeat (first | refine aK ?_ _ | refine aN ?_ | refine aM ?_ _)); exact BK385.out) hb); have n1_ := aA.mk (aV (by repeat (first | (with_reducible first | exact HB.out | apply aE | apply aC | apply aD | refine aJ ?_ GE385.out) | exact HB.out)) hb); clear BK385; clear HB; have BK385 := n0_; have HB := n1_; clear n0_ n1_; (try clear hb); (try clear hk); have hcz34_0 : w33.cell? ⟨gb385, 0, none⟩ = some (.slice A0_0 l0_0.length c0_0) := (aG BK385.out 0).trans rfl; have hcz34_1 : w33.cell? ⟨gb385, 1, none⟩ = some (.slice A0_1 l0_1.length c0_1) := (aG BK385.out 1).trans rfl; have hfz34_0 := aH BK385.out 0; have hfz34_1 := aH BK385.out 1) | ((with_reducible refine bC (f := 45) rfl ?_); refine bL (some 13) rfl rfl Try.func45 (by kernel_rfl) rfl #[.agg #[.slice A0_0 l0_0.length c0_0, .slice A0_1 l0_1.length c0_1]] rfl (by (try simp only [List.map_toArray, List.map_cons, List.map_nil]); first | done | rfl | (simp only [List.length_drop, List.length_take]; rfl)) ?_; (with_reducible refine (laws_toTree.calls k _ _ l0_0 _ _ l0_1 t387 t390 _ ?side1 ?side2 ?side3 ?side4 A7.out).mono ?_); (case side1 => repeat (first | exact (Kd.bJ HR0_0.out HB.out) | (with_reducible refine Kd.bD ?_ _) | (with_reducible refine Kd.bE ?_ _) | (with_reducible refine Kd.bK ?_))); (case side2 => exact HC0_0.out); (case side3 => repeat (first | exact (Kd.bJ HR0_1.out HB.out) | (with_reducible refine Kd.bD ?_ _) | (with_reducible refine Kd.bE ?_ _) | (with_reducible refine Kd.bK ?_))); (case side4 => exact HC0_1.out); rintro e w35 ⟨v388, v391, rfl, ho0, ho1, hb⟩; refine ⟨_, rfl, ?_⟩; have n0_ := aA.mk (Kd.R_lower ho0 (aQ (by repeat (first | (with_reducible first | exact HB.out | apply aE | apply aC | apply aD | refine aJ ?_ GE385.out) | exact HB.out)))); have n1_ := aA.mk (Kd.R_lower ho1 (aQ (by repeat (first | (with_reducible first | exact HB.out | apply aE | apply aC | apply aD | refine aJ ?_ GE385.out) | exact HB.out)))); have n2_ := aA.mk (aY (g := gb385) (o := .cells #[.slice A0_0 l0_0.length c0_0, .slice A0_1 l0_1.length c0_1] 65 (0, 0)) (by (with_reducible repeat (first | refine aK ?_ _ | refine aN ?_ | refine aM ?_ _)); exact BK385.out) hb); have n3_ := aA.mk (aV (by repeat (first | (with_reducible first | exact HB.out | apply aE | apply aC | apply aD | refine aJ ?_ GE385.out) | exact HB.out)) hb); clear BK385; clear HB; have HO389 := n0_; have HO392 := n1_; have BK385 := n2_; have HB := n3_; clear n0_ n1_ n2_ n3_; (try clear hb); (try clear hk); (try clear ho0); (try clear ho1); obtain ⟨Ao36, co36, eo36⟩ := Kd.R_slice HO389.out; subst eo36; obtain ⟨Ao37, co37, eo37⟩ := Kd.R_slice HO392.out; subst eo37) | ((with_reducible refine bC (f := 51) rfl ?_); refine bL (some 14) rfl rfl Try.func51 (by kernel_rfl) rfl #[.agg #[.slice Ao36 t387.length co36, .slice Ao37 t390.length co37]] rfl (by (try simp only [List.map_toArray, List.map_cons, List.map_nil]); first | done | rfl | (simp only [List.length_drop, List.length_take]; rfl)) ?_; (with_reducible refine (spec_TreeOk.calls k _ _ t387 _ _ t390 t393 _ ?side1 ?side2 ?side3 ?side4 A8.out).mono ?_); (case side1 => repeat (first | exact (Kd.R_reads' HO389.out).2.2 | (with_reducible refine Kd.bD ?_ _) | (with_reducible refine Kd.bE ?_ _) | (with_reducible refine Kd.bK ?_))); (case side2 => exact (Kd.R_reads' HO389.out).2.1); (case side3 => repeat (first | exact (Kd.R_reads' HO392.out).2.2 | (with_reducible refine Kd.bD ?_ _) | (with_reducible refine Kd.bE ?_ _) | (with_reducible refine Kd.bK ?_))); (case side4 => exact (Kd.R_reads' HO392.out).2.1); rintro e w38 ⟨rfl, hb⟩; refine ⟨_, rfl, ?_⟩; have n0_ := aA.mk (Kd.bQ (by (with_reducible repeat (first | apply Kd.bA | apply Kd.aZ | apply Kd.bB)); exact HO389.out) hb); have n1_ := aA.mk (Kd.bQ (by (with_reducible repeat (first | apply Kd.bA | apply Kd.aZ | apply Kd.bB)); exact HO392.out) hb); have n2_ := aA.mk (aY (g := gb385) (o := .cells #[.slice A0_0 l0_0.length c0_0, .slice A0_1 l0_1.length c0_1] 65 (0, 0)) (by (with_reducible repeat (first | refine aK ?_ _ | refine aN ?_ | refine aM ?_ _)); exact BK385.out) hb); have n3_ := aA.mk (aV (by repeat (first | (with_reducible first | exact HB.out | apply aE | apply aC | apply aD | refine aJ ?_ GE385.out) | exact HB.out)) hb); clear HO389; clear HO392; clear BK385; clear HB; have HO389 := n0_; have HO392 := n1_; have BK385 := n2_; have HB := n3_; clear n0_ n1_ n2_ n3_; (try clear hb); (try clear hk); have hcz39_0 : w38.cell? ⟨gb385, 0, none⟩ = some (.slice A0_0 l0_0.length c0_0) := (aG BK385.out 0).trans rfl; have hcz39_1 : w38.cell? ⟨gb385, 1, none⟩ = some (.slice A0_1 l0_1.length c0_1) := (aG BK385.out 1).trans rfl; have hfz39_0 := aH BK385.out 0; have hfz39_1 := aH BK385.out 1) | ((with_reducible refine bC (f := 45) rfl ?_); refine bL (some 16) rfl rfl Try.func45 (by kernel_rfl) rfl #[.agg #[.slice A0_0 l0_0.length c0_0, .slice A0_1 l0_1.length c0_1]] rfl (by (try simp only [List.map_toArray, List.map_cons, List.map_nil]); first | done | rfl | (simp only [List.length_drop, List.length_take]; rfl)) ?_; (with_reducible refine (laws_toTree.calls k _ _ l0_0 _ _ l0_1 t394 t397 _ ?side1 ?side2 ?side3 ?side4 A9.out).mono ?_); (case side1 => repeat (first | exact (Kd.bJ HR0_0.out HB.out) | (with_reducible refine Kd.bD ?_ _) | (with_reducible refine Kd.bE ?_ _) | (with_reducible refine Kd.bK ?_))); (case side2 => exact HC0_0.out); (case side3 => repeat (first | exact (Kd.bJ HR0_1.out HB.out) | (with_reducible refine Kd.bD ?_ _) | (with_reducible refine Kd.bE ?_ _) | (with_reducible refine Kd.bK ?_))); (case side4 => exact HC0_1.out); rintro e w40 ⟨v395, v398, rfl, ho0, ho1, hb⟩; refine ⟨_, rfl, ?_⟩; have n0_ := aA.mk (Kd.R_elder' (by (with_reducible repeat (first | apply Kd.bA | apply Kd.aZ | apply Kd.bB)); exact HO389.out) (Kd.R_base ho0) hb); have n1_ := aA.mk (Kd.R_elder' (by (with_reducible repeat (first | apply Kd.bA | apply Kd.aZ | apply Kd.bB)); exact HO392.out) (Kd.R_base ho1) hb); have n2_ := aA.mk (Kd.R_lower (Kd.R_new' ho0 (Kd.R_lt (by (with_reducible repeat (first | apply Kd.bA | apply Kd.aZ | apply Kd.bB)); exact HO389.out))) (aQ (by repeat (first | (with_reducible first | exact HB.out | apply aE | apply aC | apply aD | refine aJ ?_ GE385.out) | exact HB.out)))); have n3_ := aA.mk (Kd.R_lower (Kd.R_new' ho1 (Kd.R_lt (by (with_reducible repeat (first | apply Kd.bA | apply Kd.aZ | apply Kd.bB)); exact HO392.out))) (aQ (by repeat (first | (with_reducible first | exact HB.out | apply aE | apply aC | apply aD | refine aJ ?_ GE385.out) | exact HB.out)))); have n4_ := aA.mk (aY (g := gb385) (o := .cells #[.slice A0_0 l0_0.length c0_0, .slice A0_1 l0_1.length c0_1] 65 (0, 0)) (by (with_reducible repeat (first | refine aK ?_ _ | refine aN ?_ | refine aM ?_ _)); exact BK385.out) hb); have n5_ := aA.mk (aV (by repeat (first | (with_reducible first | exact HB.out | apply aE | apply aC | apply aD | refine aJ ?_ GE385.out) | exact HB.out)) hb); clear HO389; clear HO392; clear BK385; clear HB; have HO389 := n0_; have HO392 := n1_; have HO396 := n2_; have HO399 := n3_; have BK385 := n4_; have HB := n5_; clear n0_ n1_ n2_ n3_ n4_ n5_; (try clear hb); (try clear hk); (try clear ho0); (try clear ho1)) | ((with_reducible refine bF (N := 5) rfl ?_); refine bH ?hg (N := 5) ?hd (cs := #[.slice none 0 0, .slice none 0 0]) (t := 58) ?hr ?_; (case hd => rfl); (case hg => rfl); (case hr => first | (go_simp; done) | (go_simp; rfl)); intro gb400 hg w41 hbox hb; have n0_ := aA.mk (Kd.bQ (by (with_reducible repeat (first | apply Kd.bA | apply Kd.aZ | apply Kd.bB)); exact HO389.out) hb); have n1_ := aA.mk (Kd.bQ (by (with_reducible repeat (first | apply Kd.bA | apply Kd.aZ | apply Kd.bB)); exact HO392.out) hb); have n2_ := aA.mk (Kd.bQ (by (with_reducible repeat (first | apply Kd.bA | apply Kd.aZ | apply Kd.bB)); exact HO396.out) hb); have n3_ := aA.mk (Kd.bQ (by (with_reducible repeat (first | apply Kd.bA | apply Kd.aZ | apply Kd.bB)); exact HO399.out) hb); have n4_ := aA.mk (aY (g := gb385) (o := .cells #[.slice A0_0 l0_0.length c0_0, .slice A0_1 l0_1.length c0_1] 65 (0, 0)) (by (with_reducible repeat (first | refine aK ?_ _ | refine aN ?_ | refine aM ?_ _)); exact BK385.out) hb); have n5_ := aA.mk (aV (by repeat (first | (with_reducible first | exact HB.out | apply aE | apply aC | apply aD | refine aJ ?_ GE385.out) | exact HB.out)) hb); have n6_ := aA.mk (hbox); have n7_ := aA.mk ((by rw [hg]; exact (aQ (by repeat (first | (with_reducible first | exact HB.out | apply aE | apply aC | apply aD | refine aJ ?_ GE385.out) | exact HB.out))) : w.heap.size ≤ gb400)); have n8_ := aA.mk ((by rw [hg]; exact (aQ (by repeat (first | (with_reducible first | exact HB.out | apply aE | apply aC | apply aD | refine aJ ?_ GE385.out) | exact HB.out))) : w.heap.size ≤ gb400)); have n9_ := aA.mk ((by rw [hg]; exact Nat.ne_of_lt (bN (g := gb385) (o := .cells #[.slice A0_0 l0_0.length c0_0, .slice A0_1 l0_1.length c0_1] 65 (0, 0)) (by (with_reducible repeat (first | refine aK ?_ _ | refine aN ?_ | refine aM ?_ _)); exact BK385.out)) : gb385 ≠ gb400)); have n10_ := aA.mk ((by rw [hg]; exact Nat.ne_of_gt (bN (g := gb385) (o := .cells #[.slice A0_0 l0_0.length c0_0, .slice A0_1 l0_1.length c0_1] 65 (0, 0)) (by (with_reducible repeat (first | refine aK ?_ _ | refine aN ?_ | refine aM ?_ _)); exact BK385.out)) : gb400 ≠ gb385)); clear HO389; clear HO392; clear HO396; clear HO399; clear BK385; clear HB; have HO389 := n0_; have HO392 := n1_; have HO396 := n2_; have HO399 := n3_; have BK385 := n4_; have HB := n5_; have BK400 := n6_; have GW400 := n7_; have GE400 := n8_; have NB385_400 := n9_; have NB400_385 := n10_; clear n0_ n1_ n2_ n3_ n4_ n5_ n6_ n7_ n8_ n9_ n10_; clear hb hbox hg; obtain ⟨Ao42, co42, eo42⟩ := Kd.R_slice HO396.out; subst eo42; have hnb43 := NB400_385.out; have hnc43 := NB385_400.out; have hcz44_0 : w41.cell? ⟨gb400, 0, none⟩ = some (.slice none 0 0) := (aG BK400.out 0).trans rfl; have hcz44_1 : w41.cell? ⟨gb400, 1, none⟩ = some (.slice none 0 0) := (aG BK400.out 1).trans rfl; have hfz44_0 := aH BK400.out 0; have hfz44_1 := aH BK400.out 1; obtain ⟨Ao45, co45, eo45⟩ := Kd.R_slice HO399.out; subst eo45) | ((with_reducible refine bC (f := 52) rfl ?_); refine bL (some 18) rfl rfl Try.func52 (by kernel_rfl) rfl #[.agg #[.slice Ao42 t394.length co42, .slice Ao45 t397.length co45]] rfl (by (try simp only [List.map_toArray, List.map_cons, List.map_nil]); first | done | rfl | (simp only [List.length_drop, List.length_take]; rfl)) ?_; (with_reducible refine (impl_TreeOk.calls k _ _ t394 _ _ t397 t401 _ ?side1 ?side2 ?side3 ?side4 A10.out).mono ?_); (case side1 => refine (Kd.R_reads' (e := 3) (base := w.heap.size) (ok := fun k_ => (True ∧ some k_ ≠ (.slice Ao36 t387.length co36 : Value).ownBlock)) (n := t394.length) (c := co42) ?_).2.2; exact (by (with_reducible repeat (first | apply Kd.bA | apply Kd.aZ | apply Kd.bB)); exact (Kd.bR (Kd.R_far (p := ⟨gb400, 1, none⟩) (Kd.R_far (p := ⟨gb400, 0, none⟩) (Kd.R_types HO396.out BK400.out (by decide)) (fun _ hk => hk.2) (.slice Ao42 t394.length co42)) (fun _ hk => hk.2) (.slice Ao45 t397.length co45)) (fun _ h_ => h_.1)))); (case side2 => exact (Kd.R_reads' HO396.out).2.1); (case side3 => refine (Kd.R_reads' (e := 32) (base := w.heap.size) (ok := fun k_ => (True ∧ some k_ ≠ (.slice Ao37 t390.length co37 : Value).ownBlock)) (n := t397.length) (c := co45) ?_).2.2; exact (by (with_reducible repeat (first | apply Kd.bA | apply Kd.aZ | apply Kd.bB)); exact (Kd.bR (Kd.R_far (p := ⟨gb400, 1, none⟩) (Kd.R_far (p := ⟨gb400, 0, none⟩) (Kd.R_types HO399.out BK400.out (by decide)) (fun _ hk => hk.2) (.slice Ao42 t394.length co42)) (fun _ hk => hk.2) (.slice Ao45 t397.length co45)) (fun _ h_ => h_.1)))); (case side4 => exact (Kd.R_reads' HO399.out).2.1); rintro e w46 ⟨rfl, hb⟩; refine ⟨_, rfl, ?_⟩; have n0_ := aA.mk (Kd.bQ (by (with_reducible repeat (first | apply Kd.bA | apply Kd.aZ | apply Kd.bB)); exact (Kd.bR (Kd.R_far (p := ⟨gb400, 1, none⟩) (Kd.R_far (p := ⟨gb400, 0, none⟩) (Kd.R_types HO389.out BK400.out (by decide)) (fun _ hk => hk.2) (.slice Ao42 t394.length co42)) (fun _ hk => hk.2) (.slice Ao45 t397.length co45)) (fun _ h_ => h_.1))) hb); have n1_ := aA.mk (Kd.bQ (by (with_reducible repeat (first | apply Kd.bA | apply Kd.aZ | apply Kd.bB)); exact (Kd.bR (Kd.R_far (p := ⟨gb400, 1, none⟩) (Kd.R_far (p := ⟨gb400, 0, none⟩) (Kd.R_types HO392.out BK400.out (by decide)) (fun _ hk => hk.2) (.slice Ao42 t394.length co42)) (fun _ hk => hk.2) (.slice Ao45 t397.length co45)) (fun _ h_ => h_.1))) hb); have n2_ := aA.mk (Kd.bQ (by (with_reducible repeat (first | apply Kd.bA | apply Kd.aZ | apply Kd.bB)); exact (Kd.bR (Kd.R_far (p := ⟨gb400, 1, none⟩) (Kd.R_far (p := ⟨gb400, 0, none⟩) (Kd.R_types HO396.out BK400.out (by decide)) (fun _ hk => hk.2) (.slice Ao42 t394.length co42)) (fun _ hk => hk.2) (.slice Ao45 t397.length co45)) (fun _ h_ => h_.1))) hb); have n3_ := aA.mk (Kd.bQ (by (with_reducible repeat (first | apply Kd.bA | apply Kd.aZ | apply Kd.bB)); exact (Kd.bR (Kd.R_far (p := ⟨gb400, 1, none⟩) (Kd.R_far (p := ⟨gb400, 0, none⟩) (Kd.R_types HO399.out BK400.out (by decide)) (fun _ hk => hk.2) (.slice Ao42 t394.length co42)) (fun _ hk => hk.2) (.slice Ao45 t397.length co45)) (fun _ h_ => h_.1))) hb); have n4_ := aA.mk (aY (g := gb385) (o := .cells #[.slice A0_0 l0_0.length c0_0, .slice A0_1 l0_1.length c0_1] 65 (0, 0)) (by (with_reducible repeat (first | refine aK ?_ _ | refine aN ?_ | refine aM ?_ _)); refine blk_far ?_ NB385_400.out _; (with_reducible repeat (first | refine aK ?_ _ | refine aN ?_ | refine aM ?_ _)); refine blk_far ?_ NB385_400.out _; (with_reducible repeat (first | refine aK ?_ _ | refine aN ?_ | refine aM ?_ _)); exact BK385.out) hb); have n5_ := aA.mk (aY (g := gb400) (o := .cells #[.slice Ao42 t394.length co42, .slice Ao45 t397.length co45] 58 (0, 0)) (by (with_reducible repeat (first | refine aK ?_ _ | refine aN ?_ | refine aM ?_ _)); refine bM (cs := #[.slice Ao42 t394.length co42, .slice none 0 0]) ?_ 1 _ rfl; (with_reducible repeat (first | refine aK ?_ _ | refine aN ?_ | refine aM ?_ _)); refine bM (cs := #[.slice none 0 0, .slice none 0 0]) ?_ 0 _ rfl; (with_reducible repeat (first | refine aK ?_ _ | refine aN ?_ | refine aM ?_ _)); exact BK400.out) hb); have n6_ := aA.mk (aV (by repeat (first | (with_reducible first | exact HB.out | apply aE | apply aC | apply aD | refine aJ ?_ GE385.out | refine aJ ?_ GE400.out) | exact HB.out)) hb); clear HO389; clear HO392; clear HO396; clear HO399; clear BK385; clear BK400; clear HB; have HO389 := n0_; have HO392 := n1_; have HO396 := n2_; have HO399 := n3_; have BK385 := n4_; have BK400 := n5_; have HB := n6_; clear n0_ n1_ n2_ n3_ n4_ n5_ n6_; (try clear hb); (try clear hk)))
    have n0_ := aA.mk (Kd.bB HO389.out)
    have n1_ := aA.mk (Kd.bB HO392.out)
    have n2_ := aA.mk (Kd.bB HO396.out)
    have n3_ := aA.mk (Kd.bB HO399.out)
    have n4_ := aA.mk (aN BK385.out)
    have n5_ := aA.mk (aN BK400.out)
    have n6_ := aA.mk (aD HB.out)
    clear HO389
    clear HO392
    clear HO396
    clear HO399
    clear BK385
    clear BK400
    clear HB
    have HO389 := n0_
    have HO392 := n1_
    have HO396 := n2_
    have HO399 := n3_
    have BK385 := n4_
    have BK400 := n5_
    have HB := n6_
    clear n0_ n1_ n2_ n3_ n4_ n5_ n6_
    refine start_ (n := 5) (S := fun w' => w'.cell? ⟨gb400, 0, none⟩ = some (.slice Ao42 t394.length co42) ∧ w'.cell? ⟨gb400, 1, none⟩ = some (.slice Ao45 t397.length co45) ∧ w'.cell? ⟨gb385, 0, none⟩ = some (.slice A0_0 l0_0.length c0_0) ∧ w'.cell? ⟨gb385, 1, none⟩ = some (.slice A0_1 l0_1.length c0_1)) (ds := []) #[false, false, false, false, false] (by kernel_rfl) rfl rfl ⟨(aG BK400.out 0).trans rfl, (aG BK400.out 1).trans rfl, (aG BK385.out 0).trans rfl, (aG BK385.out 1).trans rfl⟩ (fun hHeld => ?_)
    generalize w46.drew = w47 at HO389 HO392 HO396 HO399 BK385 BK400 HB hHeld ⊢
    refine take_ (i := 0) (N := some 22) (v := ?_) (a' := ?_) #[true, false, false, false, false] rfl rfl (by kernel_rfl) (fun _ _ _ h => h) (Or.inl ⟨by rfl, ?_⟩) hHeld ?_ ?_
    rotate_left
    ·rintro w' ⟨s0, s1, s2, s3⟩
     go_simp
     with_reducible rfl
    rotate_left
    ·simp only [Act.put, lA, lB, lC, aT, aU]
     rfl
    refine take_ (i := 1) (N := some 23) (v := ?_) (a' := ?_) #[true, true, false, false, false] rfl rfl (by kernel_rfl) (fun _ _ _ h => h) (Or.inl ⟨by rfl, ?_⟩) hHeld ?_ ?_
    rotate_left
    ·rintro w' ⟨s0, s1, s2, s3⟩
     go_simp
     with_reducible rfl
    rotate_left
    ·simp only [Act.put, lA, lB, lC, aT, aU]
     rfl
    refine one_ (i := 2) (N := some 24) #[true, true, true, false, false] rfl rfl (by kernel_rfl) (by decide) (fun K hK => ?_)
    refine goes_ Try.func45 (by kernel_rfl) rfl #[.agg #[.slice A0_0 l0_0.length c0_0, .slice A0_1 l0_1.length c0_1]] (by rfl) rfl rfl (by (try simp only [List.map_toArray, List.map_cons, List.map_nil]); first | done | rfl | (simp only [List.length_drop, List.length_take]; rfl)) ?_
    with_reducible refine (laws_toTree.calls k _ _ l0_0 _ _ l0_1 t402 t405 _ ?side1 ?side2 ?side3 ?side4 A28.out).mono ?_
    (case side1 => repeat (first | exact (Kd.bJ HR0_0.out HB.out) | (with_reducible refine Kd.bD ?_ _) | (with_reducible refine Kd.bE ?_ _) | (with_reducible refine Kd.bK ?_)))
    (case side2 => exact HC0_0.out)
    (case side3 => repeat (first | exact (Kd.bJ HR0_1.out HB.out) | (with_reducible refine Kd.bD ?_ _) | (with_reducible refine Kd.bE ?_ _) | (with_reducible refine Kd.bK ?_)))
    (case side4 => exact HC0_1.out)
    rintro e w48 ⟨v403, v406, rfl, ho0, ho1, hb⟩
    refine ⟨_, rfl, ?_⟩
    have n0_ := aA.mk (Kd.R_elder' (by (with_reducible repeat (first | apply Kd.bA | apply Kd.aZ | apply Kd.bB)); exact HO389.out) (Kd.R_base ho0) hb)
    have n1_ := aA.mk (Kd.R_elder' (by (with_reducible repeat (first | apply Kd.bA | apply Kd.aZ | apply Kd.bB)); exact HO392.out) (Kd.R_base ho1) hb)
    have n2_ := aA.mk (Kd.R_elder' (by (with_reducible repeat (first | apply Kd.bA | apply Kd.aZ | apply Kd.bB)); exact HO396.out) (Kd.R_base ho0) hb)
    have n3_ := aA.mk (Kd.R_elder' (by (with_reducible repeat (first | apply Kd.bA | apply Kd.aZ | apply Kd.bB)); exact HO399.out) (Kd.R_base ho1) hb)
    have n4_ := aA.mk (Kd.R_lower (Kd.R_new' (Kd.R_new' ho0 (Kd.R_lt (by (with_reducible repeat (first | apply Kd.bA | apply Kd.aZ | apply Kd.bB)); exact HO389.out))) (Kd.R_lt (by (with_reducible repeat (first | apply Kd.bA | apply Kd.aZ | apply Kd.bB)); exact HO396.out))) (aQ (by repeat (first | (with_reducible first | exact HB.out | apply aE | apply aC | apply aD | refine aJ ?_ GE385.out | refine aJ ?_ GE400.out) | exact HB.out))))
    have n5_ := aA.mk (Kd.R_lower (Kd.R_new' (Kd.R_new' ho1 (Kd.R_lt (by (with_reducible repeat (first | apply Kd.bA | apply Kd.aZ | apply Kd.bB)); exact HO392.out))) (Kd.R_lt (by (with_reducible repeat (first | apply Kd.bA | apply Kd.aZ | apply Kd.bB)); exact HO399.out))) (aQ (by repeat (first | (with_reducible first | exact HB.out | apply aE | apply aC | apply aD | refine aJ ?_ GE385.out | refine aJ ?_ GE400.out) | exact HB.out))))
    have n6_ := aA.mk (aY (g := gb385) (o := .cells #[.slice A0_0 l0_0.length c0_0, .slice A0_1 l0_1.length c0_1] 65 (0, 0)) (by (with_reducible repeat (first | refine aK ?_ _ | refine aN ?_ | refine aM ?_ _)); exact BK385.out) hb)
    have n7_ := aA.mk (aY (g := gb400) (o := .cells #[.slice Ao42 t394.length co42, .slice Ao45 t397.length co45] 58 (0, 0)) (by (with_reducible repeat (first | refine aK ?_ _ | refine aN ?_ | refine aM ?_ _)); exact BK400.out) hb)
    have n8_ := aA.mk (aV (by repeat (first | (with_reducible first | exact HB.out | apply aE | apply aC | apply aD | refine aJ ?_ GE385.out | refine aJ ?_ GE400.out) | exact HB.out)) hb)
    clear HO389
    clear HO392
    clear HO396
    clear HO399
    clear BK385
    clear BK400
    clear HB
    have HO389 := n0_
    have HO392 := n1_
    have HO396 := n2_
    have HO399 := n3_
    have HO404 := n4_
    have HO407 := n5_
    have BK385 := n6_
    have BK400 := n7_
    have HB := n8_
    clear n0_ n1_ n2_ n3_ n4_ n5_ n6_ n7_ n8_
    (try clear hb)
    (try clear hb2)
    (try clear hk)
    (try clear hi)
    (try clear ho0)
    (try clear ho1)
    obtain ⟨Ao49, co49, eo49⟩ := Kd.R_slice HO404.out
    (first | subst eo49 | (injection eo49 with f1_ f2_ f3_; have f4_ := f1_.symm; have f5_ := f3_.symm; clear f1_ f2_ f3_; subst f4_; subst f5_))
    obtain ⟨Ao50, co50, eo50⟩ := Kd.R_slice HO407.out
    (first | subst eo50 | (injection eo50 with f1_ f2_ f3_; have f4_ := f1_.symm; have f5_ := f3_.symm; clear f1_ f2_ f3_; subst f4_; subst f5_))
    refine hK.out _ _ ⟨(aG BK400.out 0).trans rfl, (aG BK400.out 1).trans rfl, (aG BK385.out 0).trans rfl, (aG BK385.out 1).trans rfl⟩ (fun hHeld => ?_)
    clear hK K
    refine norm_ (a' := ?_) ?_ ?_
    rotate_left
    ·show Act.put _ (some 24) _ = _
     simp only [Act.put, lA, lB, lC, aT, aU]
     rfl
    refine one_ (i := 3) (N := some 25) #[true, true, true, true, false] rfl rfl (by kernel_rfl) (by decide) (fun K hK => ?_)
    refine goes_ Try.func40 (by kernel_rfl) rfl #[.agg #[.slice Ao42 t394.length co42, .slice Ao45 t397.length co45], .agg #[.slice Ao49 t402.length co49, .slice Ao50 t405.length co50]] (by rfl) rfl rfl (by (try simp only [List.map_toArray, List.map_cons, List.map_nil]); first | done | rfl | (simp only [List.length_drop, List.length_take]; rfl)) ?_
    with_reducible refine (laws_eqTree.calls k _ _ t394 _ _ t397 _ _ t402 _ _ t405 true _ ?side1 ?side2 ?side3 ?side4 ?side5 ?side6 ?side7 ?side8 A29.out).mono ?_
    (case side1 => repeat (first | exact (Kd.R_reads' HO396.out).2.2 | (with_reducible refine Kd.bD ?_ _) | (with_reducible refine Kd.bE ?_ _) | (with_reducible refine Kd.bK ?_)))
    (case side2 => exact (Kd.R_reads' HO396.out).2.1)
    (case side3 => repeat (first | exact (Kd.R_reads' HO399.out).2.2 | (with_reducible refine Kd.bD ?_ _) | (with_reducible refine Kd.bE ?_ _) | (with_reducible refine Kd.bK ?_)))
    (case side4 => exact (Kd.R_reads' HO399.out).2.1)
    (case side5 => repeat (first | exact (Kd.R_reads' HO404.out).2.2 | (with_reducible refine Kd.bD ?_ _) | (with_reducible refine Kd.bE ?_ _) | (with_reducible refine Kd.bK ?_)))
    (case side6 => exact (Kd.R_reads' HO404.out).2.1)
    (case side7 => repeat (first | exact (Kd.R_reads' HO407.out).2.2 | (with_reducible refine Kd.bD ?_ _) | (with_reducible refine Kd.bE ?_ _) | (with_reducible refine Kd.bK ?_)))
    (case side8 => exact (Kd.R_reads' HO407.out).2.1)
    rintro e w51 ⟨rfl, hb⟩
    refine ⟨_, rfl, ?_⟩
    have n0_ := aA.mk (Kd.bQ (by (with_reducible repeat (first | apply Kd.bA | apply Kd.aZ | apply Kd.bB)); exact HO389.out) hb)
    have n1_ := aA.mk (Kd.bQ (by (with_reducible repeat (first | apply Kd.bA | apply Kd.aZ | apply Kd.bB)); exact HO392.out) hb)
    have n2_ := aA.mk (Kd.bQ (by (with_reducible repeat (first | apply Kd.bA | apply Kd.aZ | apply Kd.bB)); exact HO396.out) hb)
    have n3_ := aA.mk (Kd.bQ (by (with_reducible repeat (first | apply Kd.bA | apply Kd.aZ | apply Kd.bB)); exact HO399.out) hb)
    have n4_ := aA.mk (Kd.bQ (by (with_reducible repeat (first | apply Kd.bA | apply Kd.aZ | apply Kd.bB)); exact HO404.out) hb)
    have n5_ := aA.mk (Kd.bQ (by (with_reducible repeat (first | apply Kd.bA | apply Kd.aZ | apply Kd.bB)); exact HO407.out) hb)
    have n6_ := aA.mk (aY (g := gb385) (o := .cells #[.slice A0_0 l0_0.length c0_0, .slice A0_1 l0_1.length c0_1] 65 (0, 0)) (by (with_reducible repeat (first | refine aK ?_ _ | refine aN ?_ | refine aM ?_ _)); exact BK385.out) hb)
    have n7_ := aA.mk (aY (g := gb400) (o := .cells #[.slice Ao42 t394.length co42, .slice Ao45 t397.length co45] 58 (0, 0)) (by (with_reducible repeat (first | refine aK ?_ _ | refine aN ?_ | refine aM ?_ _)); exact BK400.out) hb)
    have n8_ := aA.mk (aV (by repeat (first | (with_reducible first | exact HB.out | apply aE | apply aC | apply aD | refine aJ ?_ GE385.out | refine aJ ?_ GE400.out) | exact HB.out)) hb)
    clear HO389
    clear HO392
    clear HO396
    clear HO399
    clear HO404
    clear HO407
    clear BK385
    clear BK400
    clear HB
    have HO389 := n0_
    have HO392 := n1_
    have HO396 := n2_
    have HO399 := n3_
    have HO404 := n4_
    have HO407 := n5_
    have BK385 := n6_
    have BK400 := n7_
    have HB := n8_
    clear n0_ n1_ n2_ n3_ n4_ n5_ n6_ n7_ n8_
    (try clear hb)
    (try clear hb2)
    (try clear hk)
    (try clear hi)
    refine hK.out _ _ ⟨(aG BK400.out 0).trans rfl, (aG BK400.out 1).trans rfl, (aG BK385.out 0).trans rfl, (aG BK385.out 1).trans rfl⟩ (fun hHeld => ?_)
    clear hK K
    refine norm_ (a' := ?_) ?_ ?_
    rotate_left
    ·show Act.put _ (some 25) _ = _
     simp only [Act.put, lA, lB, lC, aT, aU]
     rfl
    refine aX (i := 4) (N := some 26) (v := ?_) (a' := ?_) #[true, true, true, true, true] rfl rfl (by kernel_rfl) (fun _ _ _ h => h) (Or.inl ⟨by rfl, ?_⟩) ?_ ?_
    rotate_left
    ·intro w'
     go_simp
     with_reducible rfl
    rotate_left
    ·simp only [Act.put, lA, lB, lC, aT, aU]
     rfl
    refine done_ (by kernel_rfl) ?_
    try go_wp2
    go_ret
    exact ⟨by first | rfl | (simp [errW_none, errW_some] <;> rfl) | (simp [*, errW_none, errW_some] <;> rfl), by repeat (first | (with_reducible first | exact HB.out | apply aE | apply aC | apply aD | refine aJ ?_ GE385.out | refine aJ ?_ GE400.out) | exact HB.out)⟩
   ·replace c30 := Bool.eq_false_iff.mpr c30
    subst c30
    have H1 : (some false) = some r := by rw [if_neg (show ¬ (false = true) by decide)] at H; exact H
    clear H
    have H := H1
    clear H1
    obtain rfl := Option.some.inj H
    go_enter Try.func13, Try.ntmps13
    try go_wp2_with (first | ((with_reducible refine bF (N := 1) rfl ?_); refine bH ?hg (N := 1) ?hd (cs := #[.slice A0_0 l0_0.length c0_0, .slice A0_1 l0_1.length c0_1]) (t := 65) ?hr ?_; (case hd => rfl); (case hg => rfl); (case hr => first | (go_simp; done) | (go_simp; rfl)); intro gb385 hg w52 hbox hb; have n0_ := aA.mk (aV (by repeat (first | (with_reducible first | exact HB.out | apply aE | apply aC | apply aD) | exact HB.out)) hb); have n1_ := aA.mk (hbox); have n2_ := aA.mk ((by rw [hg]; exact (aQ (by repeat (first | (with_reducible first | exact HB.out | apply aE | apply aC | apply aD) | exact HB.out))) : w.heap.size ≤ gb385)); have n3_ := aA.mk ((by rw [hg]; exact (aQ (by repeat (first | (with_reducible first | exact HB.out | apply aE | apply aC | apply aD) | exact HB.out))) : w.heap.size ≤ gb385)); clear HB; have HB := n0_; have BK385 := n1_; have GW385 := n2_; have GE385 := n3_; clear n0_ n1_ n2_ n3_; clear hb hbox hg; have hcz53_0 : w52.cell? ⟨gb385, 0, none⟩ = some (.slice A0_0 l0_0.length c0_0) := (aG BK385.out 0).trans rfl; have hcz53_1 : w52.cell? ⟨gb385, 1, none⟩ = some (.slice A0_1 l0_1.length c0_1) := (aG BK385.out 1).trans rfl; have hfz53_0 := aH BK385.out 0; have hfz53_1 := aH BK385.out 1) | ((with_reducible refine bC (f := 43) rfl ?_); refine bL (some 9) rfl rfl Try.func43 (by kernel_rfl) rfl #[.agg #[.slice A0_0 l0_0.length c0_0, .slice A0_1 l0_1.length c0_1], .int .i64 1048576] rfl (by (try simp only [List.map_toArray, List.map_cons, List.map_nil]); first | done | rfl | (simp only [List.length_drop, List.length_take]; rfl)) ?_; (with_reducible refine (laws_szTree.calls k _ _ l0_0 _ _ l0_1 1048576 t386 _ ?side1 ?side2 ?side3 ?side4 A2.out).mono ?_); (case side1 => repeat (first | exact (Kd.bJ HR0_0.out HB.out) | (with_reducible refine Kd.bD ?_ _) | (with_reducible refine Kd.bE ?_ _) | (with_reducible refine Kd.bK ?_))); (case side2 => exact HC0_0.out); (case side3 => repeat (first | exact (Kd.bJ HR0_1.out HB.out) | (with_reducible refine Kd.bD ?_ _) | (with_reducible refine Kd.bE ?_ _) | (with_reducible refine Kd.bK ?_))); (case side4 => exact HC0_1.out); rintro e w54 ⟨rfl, hb⟩; refine ⟨_, rfl, ?_⟩; have n0_ := aA.mk (aY (g := gb385) (o := .cells #[.slice A0_0 l0_0.length c0_0, .slice A0_1 l0_1.length c0_1] 65 (0, 0)) (by (with_reducible repeat (first | refine aK ?_ _ | refine aN ?_ | refine aM ?_ _)); exact BK385.out) hb); have n1_ := aA.mk (aV (by repeat (first | (with_reducible first | exact HB.out | apply aE | apply aC | apply aD | refine aJ ?_ GE385.out) | exact HB.out)) hb); clear BK385; clear HB; have BK385 := n0_; have HB := n1_; clear n0_ n1_; (try clear hb); (try clear hk); have hcz55_0 : w54.cell? ⟨gb385, 0, none⟩ = some (.slice A0_0 l0_0.length c0_0) := (aG BK385.out 0).trans rfl; have hcz55_1 : w54.cell? ⟨gb385, 1, none⟩ = some (.slice A0_1 l0_1.length c0_1) := (aG BK385.out 1).trans rfl; have hfz55_0 := aH BK385.out 0; have hfz55_1 := aH BK385.out 1) | ((with_reducible refine bC (f := 45) rfl ?_); refine bL (some 13) rfl rfl Try.func45 (by kernel_rfl) rfl #[.agg #[.slice A0_0 l0_0.length c0_0, .slice A0_1 l0_1.length c0_1]] rfl (by (try simp only [List.map_toArray, List.map_cons, List.map_nil]); first | done | rfl | (simp only [List.length_drop, List.length_take]; rfl)) ?_; (with_reducible refine (laws_toTree.calls k _ _ l0_0 _ _ l0_1 t387 t390 _ ?side1 ?side2 ?side3 ?side4 A7.out).mono ?_); (case side1 => repeat (first | exact (Kd.bJ HR0_0.out HB.out) | (with_reducible refine Kd.bD ?_ _) | (with_reducible refine Kd.bE ?_ _) | (with_reducible refine Kd.bK ?_))); (case side2 => exact HC0_0.out); (case side3 => repeat (first | exact (Kd.bJ HR0_1.out HB.out) | (with_reducible refine Kd.bD ?_ _) | (with_reducible refine Kd.bE ?_ _) | (with_reducible refine Kd.bK ?_))); (case side4 => exact HC0_1.out); rintro e w56 ⟨v388, v391, rfl, ho0, ho1, hb⟩; refine ⟨_, rfl, ?_⟩; have n0_ := aA.mk (Kd.R_lower ho0 (aQ (by repeat (first | (with_reducible first | exact HB.out | apply aE | apply aC | apply aD | refine aJ ?_ GE385.out) | exact HB.out)))); have n1_ := aA.mk (Kd.R_lower ho1 (aQ (by repeat (first | (with_reducible first | exact HB.out | apply aE | apply aC | apply aD | refine aJ ?_ GE385.out) | exact HB.out)))); have n2_ := aA.mk (aY (g := gb385) (o := .cells #[.slice A0_0 l0_0.length c0_0, .slice A0_1 l0_1.length c0_1] 65 (0, 0)) (by (with_reducible repeat (first | refine aK ?_ _ | refine aN ?_ | refine aM ?_ _)); exact BK385.out) hb); have n3_ := aA.mk (aV (by repeat (first | (with_reducible first | exact HB.out | apply aE | apply aC | apply aD | refine aJ ?_ GE385.out) | exact HB.out)) hb); clear BK385; clear HB; have HO389 := n0_; have HO392 := n1_; have BK385 := n2_; have HB := n3_; clear n0_ n1_ n2_ n3_; (try clear hb); (try clear hk); (try clear ho0); (try clear ho1); obtain ⟨Ao57, co57, eo57⟩ := Kd.R_slice HO389.out; subst eo57; obtain ⟨Ao58, co58, eo58⟩ := Kd.R_slice HO392.out; subst eo58) | ((with_reducible refine bC (f := 51) rfl ?_); refine bL (some 14) rfl rfl Try.func51 (by kernel_rfl) rfl #[.agg #[.slice Ao57 t387.length co57, .slice Ao58 t390.length co58]] rfl (by (try simp only [List.map_toArray, List.map_cons, List.map_nil]); first | done | rfl | (simp only [List.length_drop, List.length_take]; rfl)) ?_; (with_reducible refine (spec_TreeOk.calls k _ _ t387 _ _ t390 t393 _ ?side1 ?side2 ?side3 ?side4 A8.out).mono ?_); (case side1 => repeat (first | exact (Kd.R_reads' HO389.out).2.2 | (with_reducible refine Kd.bD ?_ _) | (with_reducible refine Kd.bE ?_ _) | (with_reducible refine Kd.bK ?_))); (case side2 => exact (Kd.R_reads' HO389.out).2.1); (case side3 => repeat (first | exact (Kd.R_reads' HO392.out).2.2 | (with_reducible refine Kd.bD ?_ _) | (with_reducible refine Kd.bE ?_ _) | (with_reducible refine Kd.bK ?_))); (case side4 => exact (Kd.R_reads' HO392.out).2.1); rintro e w59 ⟨rfl, hb⟩; refine ⟨_, rfl, ?_⟩; have n0_ := aA.mk (Kd.bQ (by (with_reducible repeat (first | apply Kd.bA | apply Kd.aZ | apply Kd.bB)); exact HO389.out) hb); have n1_ := aA.mk (Kd.bQ (by (with_reducible repeat (first | apply Kd.bA | apply Kd.aZ | apply Kd.bB)); exact HO392.out) hb); have n2_ := aA.mk (aY (g := gb385) (o := .cells #[.slice A0_0 l0_0.length c0_0, .slice A0_1 l0_1.length c0_1] 65 (0, 0)) (by (with_reducible repeat (first | refine aK ?_ _ | refine aN ?_ | refine aM ?_ _)); exact BK385.out) hb); have n3_ := aA.mk (aV (by repeat (first | (with_reducible first | exact HB.out | apply aE | apply aC | apply aD | refine aJ ?_ GE385.out) | exact HB.out)) hb); clear HO389; clear HO392; clear BK385; clear HB; have HO389 := n0_; have HO392 := n1_; have BK385 := n2_; have HB := n3_; clear n0_ n1_ n2_ n3_; (try clear hb); (try clear hk); have hcz60_0 : w59.cell? ⟨gb385, 0, none⟩ = some (.slice A0_0 l0_0.length c0_0) := (aG BK385.out 0).trans rfl; have hcz60_1 : w59.cell? ⟨gb385, 1, none⟩ = some (.slice A0_1 l0_1.length c0_1) := (aG BK385.out 1).trans rfl; have hfz60_0 := aH BK385.out 0; have hfz60_1 := aH BK385.out 1) | ((with_reducible refine bC (f := 45) rfl ?_); refine bL (some 16) rfl rfl Try.func45 (by kernel_rfl) rfl #[.agg #[.slice A0_0 l0_0.length c0_0, .slice A0_1 l0_1.length c0_1]] rfl (by (try simp only [List.map_toArray, List.map_cons, List.map_nil]); first | done | rfl | (simp only [List.length_drop, List.length_take]; rfl)) ?_; (with_reducible refine (laws_toTree.calls k _ _ l0_0 _ _ l0_1 t394 t397 _ ?side1 ?side2 ?side3 ?side4 A9.out).mono ?_); (case side1 => repeat (first | exact (Kd.bJ HR0_0.out HB.out) | (with_reducible refine Kd.bD ?_ _) | (with_reducible refine Kd.bE ?_ _) | (with_reducible refine Kd.bK ?_))); (case side2 => exact HC0_0.out); (case side3 => repeat (first | exact (Kd.bJ HR0_1.out HB.out) | (with_reducible refine Kd.bD ?_ _) | (with_reducible refine Kd.bE ?_ _) | (with_reducible refine Kd.bK ?_))); (case side4 => exact HC0_1.out); rintro e w61 ⟨v395, v398, rfl, ho0, ho1, hb⟩; refine ⟨_, rfl, ?_⟩; have n0_ := aA.mk (Kd.R_elder' (by (with_reducible repeat (first | apply Kd.bA | apply Kd.aZ | apply Kd.bB)); exact HO389.out) (Kd.R_base ho0) hb); have n1_ := aA.mk (Kd.R_elder' (by (with_reducible repeat (first | apply Kd.bA | apply Kd.aZ | apply Kd.bB)); exact HO392.out) (Kd.R_base ho1) hb); have n2_ := aA.mk (Kd.R_lower (Kd.R_new' ho0 (Kd.R_lt (by (with_reducible repeat (first | apply Kd.bA | apply Kd.aZ | apply Kd.bB)); exact HO389.out))) (aQ (by repeat (first | (with_reducible first | exact HB.out | apply aE | apply aC | apply aD | refine aJ ?_ GE385.out) | exact HB.out)))); have n3_ := aA.mk (Kd.R_lower (Kd.R_new' ho1 (Kd.R_lt (by (with_reducible repeat (first | apply Kd.bA | apply Kd.aZ | apply Kd.bB)); exact HO392.out))) (aQ (by repeat (first | (with_reducible first | exact HB.out | apply aE | apply aC | apply aD | refine aJ ?_ GE385.out) | exact HB.out)))); have n4_ := aA.mk (aY (g := gb385) (o := .cells #[.slice A0_0 l0_0.length c0_0, .slice A0_1 l0_1.length c0_1] 65 (0, 0)) (by (with_reducible repeat (first | refine aK ?_ _ | refine aN ?_ | refine aM ?_ _)); exact BK385.out) hb); have n5_ := aA.mk (aV (by repeat (first | (with_reducible first | exact HB.out | apply aE | apply aC | apply aD | refine aJ ?_ GE385.out) | exact HB.out)) hb); clear HO389; clear HO392; clear BK385; clear HB; have HO389 := n0_; have HO392 := n1_; have HO396 := n2_; have HO399 := n3_; have BK385 := n4_; have HB := n5_; clear n0_ n1_ n2_ n3_ n4_ n5_; (try clear hb); (try clear hk); (try clear ho0); (try clear ho1)) | ((with_reducible refine bF (N := 5) rfl ?_); refine bH ?hg (N := 5) ?hd (cs := #[.slice none 0 0, .slice none 0 0]) (t := 58) ?hr ?_; (case hd => rfl); (case hg => rfl); (case hr => first | (go_simp; done) | (go_simp; rfl)); intro gb400 hg w62 hbox hb; have n0_ := aA.mk (Kd.bQ (by (with_reducible repeat (first | apply Kd.bA | apply Kd.aZ | apply Kd.bB)); exact HO389.out) hb); have n1_ := aA.mk (Kd.bQ (by (with_reducible repeat (first | apply Kd.bA | apply Kd.aZ | apply Kd.bB)); exact HO392.out) hb); have n2_ := aA.mk (Kd.bQ (by (with_reducible repeat (first | apply Kd.bA | apply Kd.aZ | apply Kd.bB)); exact HO396.out) hb); have n3_ := aA.mk (Kd.bQ (by (with_reducible repeat (first | apply Kd.bA | apply Kd.aZ | apply Kd.bB)); exact HO399.out) hb); have n4_ := aA.mk (aY (g := gb385) (o := .cells #[.slice A0_0 l0_0.length c0_0, .slice A0_1 l0_1.length c0_1] 65 (0, 0)) (by (with_reducible repeat (first | refine aK ?_ _ | refine aN ?_ | refine aM ?_ _)); exact BK385.out) hb); have n5_ := aA.mk (aV (by repeat (first | (with_reducible first | exact HB.out | apply aE | apply aC | apply aD | refine aJ ?_ GE385.out) | exact HB.out)) hb); have n6_ := aA.mk (hbox); have n7_ := aA.mk ((by rw [hg]; exact (aQ (by repeat (first | (with_reducible first | exact HB.out | apply aE | apply aC | apply aD | refine aJ ?_ GE385.out) | exact HB.out))) : w.heap.size ≤ gb400)); have n8_ := aA.mk ((by rw [hg]; exact (aQ (by repeat (first | (with_reducible first | exact HB.out | apply aE | apply aC | apply aD | refine aJ ?_ GE385.out) | exact HB.out))) : w.heap.size ≤ gb400)); have n9_ := aA.mk ((by rw [hg]; exact Nat.ne_of_lt (bN (g := gb385) (o := .cells #[.slice A0_0 l0_0.length c0_0, .slice A0_1 l0_1.length c0_1] 65 (0, 0)) (by (with_reducible repeat (first | refine aK ?_ _ | refine aN ?_ | refine aM ?_ _)); exact BK385.out)) : gb385 ≠ gb400)); have n10_ := aA.mk ((by rw [hg]; exact Nat.ne_of_gt (bN (g := gb385) (o := .cells #[.slice A0_0 l0_0.length c0_0, .slice A0_1 l0_1.length c0_1] 65 (0, 0)) (by (with_reducible repeat (first | refine aK ?_ _ | refine aN ?_ | refine aM ?_ _)); exact BK385.out)) : gb400 ≠ gb385)); clear HO389; clear HO392; clear HO396; clear HO399; clear BK385; clear HB; have HO389 := n0_; have HO392 := n1_; have HO396 := n2_; have HO399 := n3_; have BK385 := n4_; have HB := n5_; have BK400 := n6_; have GW400 := n7_; have GE400 := n8_; have NB385_400 := n9_; have NB400_385 := n10_; clear n0_ n1_ n2_ n3_ n4_ n5_ n6_ n7_ n8_ n9_ n10_; clear hb hbox hg; obtain ⟨Ao63, co63, eo63⟩ := Kd.R_slice HO396.out; subst eo63; have hnb64 := NB400_385.out; have hnc64 := NB385_400.out; have hcz65_0 : w62.cell? ⟨gb400, 0, none⟩ = some (.slice none 0 0) := (aG BK400.out 0).trans rfl; have hcz65_1 : w62.cell? ⟨gb400, 1, none⟩ = some (.slice none 0 0) := (aG BK400.out 1).trans rfl; have hfz65_0 := aH BK400.out 0; have hfz65_1 := aH BK400.out 1; obtain ⟨Ao66, co66, eo66⟩ := Kd.R_slice HO399.out; subst eo66) | ((with_reducible refine bC (f := 52) rfl ?_); refine bL (some 18) rfl rfl Try.func52 (by kernel_rfl) rfl #[.agg #[.slice Ao63 t394.length co63, .slice Ao66 t397.length co66]] rfl (by (try simp only [List.map_toArray, List.map_cons, List.map_nil]); first | done | rfl | (simp only [List.length_drop, List.length_take]; rfl)) ?_; (with_reducible refine (impl_TreeOk.calls k _ _ t394 _ _ t397 t401 _ ?side1 ?side2 ?side3 ?side4 A10.out).mono ?_); (case side1 => refine (Kd.R_reads' (e := 3) (base := w.heap.size) (ok := fun k_ => (True ∧ some k_ ≠ (.slice Ao57 t387.length co57 : Value).ownBlock)) (n := t394.length) (c := co63) ?_).2.2; exact (by (with_reducible repeat (first | apply Kd.bA | apply Kd.aZ | apply Kd.bB)); exact (Kd.bR (Kd.R_far (p := ⟨gb400, 1, none⟩) (Kd.R_far (p := ⟨gb400, 0, none⟩) (Kd.R_types HO396.out BK400.out (by decide)) (fun _ hk => hk.2) (.slice Ao63 t394.length co63)) (fun _ hk => hk.2) (.slice Ao66 t397.length co66)) (fun _ h_ => h_.1)))); (case side2 => exact (Kd.R_reads' HO396.out).2.1); (case side3 => refine (Kd.R_reads' (e := 32) (base := w.heap.size) (ok := fun k_ => (True ∧ some k_ ≠ (.slice Ao58 t390.length co58 : Value).ownBlock)) (n := t397.length) (c := co66) ?_).2.2; exact (by (with_reducible repeat (first | apply Kd.bA | apply Kd.aZ | apply Kd.bB)); exact (Kd.bR (Kd.R_far (p := ⟨gb400, 1, none⟩) (Kd.R_far (p := ⟨gb400, 0, none⟩) (Kd.R_types HO399.out BK400.out (by decide)) (fun _ hk => hk.2) (.slice Ao63 t394.length co63)) (fun _ hk => hk.2) (.slice Ao66 t397.length co66)) (fun _ h_ => h_.1)))); (case side4 => exact (Kd.R_reads' HO399.out).2.1); rintro e w67 ⟨rfl, hb⟩; refine ⟨_, rfl, ?_⟩; have n0_ := aA.mk (Kd.bQ (by (with_reducible repeat (first | apply Kd.bA | apply Kd.aZ | apply Kd.bB)); exact (Kd.bR (Kd.R_far (p := ⟨gb400, 1, none⟩) (Kd.R_far (p := ⟨gb400, 0, none⟩) (Kd.R_types HO389.out BK400.out (by decide)) (fun _ hk => hk.2) (.slice Ao63 t394.length co63)) (fun _ hk => hk.2) (.slice Ao66 t397.length co66)) (fun _ h_ => h_.1))) hb); have n1_ := aA.mk (Kd.bQ (by (with_reducible repeat (first | apply Kd.bA | apply Kd.aZ | apply Kd.bB)); exact (Kd.bR (Kd.R_far (p := ⟨gb400, 1, none⟩) (Kd.R_far (p := ⟨gb400, 0, none⟩) (Kd.R_types HO392.out BK400.out (by decide)) (fun _ hk => hk.2) (.slice Ao63 t394.length co63)) (fun _ hk => hk.2) (.slice Ao66 t397.length co66)) (fun _ h_ => h_.1))) hb); have n2_ := aA.mk (Kd.bQ (by (with_reducible repeat (first | apply Kd.bA | apply Kd.aZ | apply Kd.bB)); exact (Kd.bR (Kd.R_far (p := ⟨gb400, 1, none⟩) (Kd.R_far (p := ⟨gb400, 0, none⟩) (Kd.R_types HO396.out BK400.out (by decide)) (fun _ hk => hk.2) (.slice Ao63 t394.length co63)) (fun _ hk => hk.2) (.slice Ao66 t397.length co66)) (fun _ h_ => h_.1))) hb); have n3_ := aA.mk (Kd.bQ (by (with_reducible repeat (first | apply Kd.bA | apply Kd.aZ | apply Kd.bB)); exact (Kd.bR (Kd.R_far (p := ⟨gb400, 1, none⟩) (Kd.R_far (p := ⟨gb400, 0, none⟩) (Kd.R_types HO399.out BK400.out (by decide)) (fun _ hk => hk.2) (.slice Ao63 t394.length co63)) (fun _ hk => hk.2) (.slice Ao66 t397.length co66)) (fun _ h_ => h_.1))) hb); have n4_ := aA.mk (aY (g := gb385) (o := .cells #[.slice A0_0 l0_0.length c0_0, .slice A0_1 l0_1.length c0_1] 65 (0, 0)) (by (with_reducible repeat (first | refine aK ?_ _ | refine aN ?_ | refine aM ?_ _)); refine blk_far ?_ NB385_400.out _; (with_reducible repeat (first | refine aK ?_ _ | refine aN ?_ | refine aM ?_ _)); refine blk_far ?_ NB385_400.out _; (with_reducible repeat (first | refine aK ?_ _ | refine aN ?_ | refine aM ?_ _)); exact BK385.out) hb); have n5_ := aA.mk (aY (g := gb400) (o := .cells #[.slice Ao63 t394.length co63, .slice Ao66 t397.length co66] 58 (0, 0)) (by (with_reducible repeat (first | refine aK ?_ _ | refine aN ?_ | refine aM ?_ _)); refine bM (cs := #[.slice Ao63 t394.length co63, .slice none 0 0]) ?_ 1 _ rfl; (with_reducible repeat (first | refine aK ?_ _ | refine aN ?_ | refine aM ?_ _)); refine bM (cs := #[.slice none 0 0, .slice none 0 0]) ?_ 0 _ rfl; (with_reducible repeat (first | refine aK ?_ _ | refine aN ?_ | refine aM ?_ _)); exact BK400.out) hb); have n6_ := aA.mk (aV (by repeat (first | (with_reducible first | exact HB.out | apply aE | apply aC | apply aD | refine aJ ?_ GE385.out | refine aJ ?_ GE400.out) | exact HB.out)) hb); clear HO389; clear HO392; clear HO396; clear HO399; clear BK385; clear BK400; clear HB; have HO389 := n0_; have HO392 := n1_; have HO396 := n2_; have HO399 := n3_; have BK385 := n4_; have BK400 := n5_; have HB := n6_; clear n0_ n1_ n2_ n3_ n4_ n5_ n6_; (try clear hb); (try clear hk)))
    have n0_ := aA.mk (Kd.bB HO389.out)
    have n1_ := aA.mk (Kd.bB HO392.out)
    have n2_ := aA.mk (Kd.bB HO396.out)
    have n3_ := aA.mk (Kd.bB HO399.out)
    have n4_ := aA.mk (aN BK385.out)
    have n5_ := aA.mk (aN BK400.out)
    have n6_ := aA.mk (aD HB.out)
    clear HO389
    clear HO392
    clear HO396
    clear HO399
    clear BK385
    clear BK400
    clear HB
    have HO389 := n0_
    have HO392 := n1_
    have HO396 := n2_
    have HO399 := n3_
    have BK385 := n4_
    have BK400 := n5_
    have HB := n6_
    clear n0_ n1_ n2_ n3_ n4_ n5_ n6_
    refine start_ (n := 5) (S := fun w' => w'.cell? ⟨gb400, 0, none⟩ = some (.slice Ao63 t394.length co63) ∧ w'.cell? ⟨gb400, 1, none⟩ = some (.slice Ao66 t397.length co66) ∧ w'.cell? ⟨gb385, 0, none⟩ = some (.slice A0_0 l0_0.length c0_0) ∧ w'.cell? ⟨gb385, 1, none⟩ = some (.slice A0_1 l0_1.length c0_1)) (ds := []) #[false, false, false, false, false] (by kernel_rfl) rfl rfl ⟨(aG BK400.out 0).trans rfl, (aG BK400.out 1).trans rfl, (aG BK385.out 0).trans rfl, (aG BK385.out 1).trans rfl⟩ (fun hHeld => ?_)
    generalize w67.drew = w68 at HO389 HO392 HO396 HO399 BK385 BK400 HB hHeld ⊢
    refine take_ (i := 0) (N := some 22) (v := ?_) (a' := ?_) #[true, false, false, false, false] rfl rfl (by kernel_rfl) (fun _ _ _ h => h) (Or.inl ⟨by rfl, ?_⟩) hHeld ?_ ?_
    rotate_left
    ·rintro w' ⟨s0, s1, s2, s3⟩
     go_simp
     with_reducible rfl
    rotate_left
    ·simp only [Act.put, lA, lB, lC, aT, aU]
     rfl
    refine take_ (i := 1) (N := some 23) (v := ?_) (a' := ?_) #[true, true, false, false, false] rfl rfl (by kernel_rfl) (fun _ _ _ h => h) (Or.inl ⟨by rfl, ?_⟩) hHeld ?_ ?_
    rotate_left
    ·rintro w' ⟨s0, s1, s2, s3⟩
     go_simp
     with_reducible rfl
    rotate_left
    ·simp only [Act.put, lA, lB, lC, aT, aU]
     rfl
    refine one_ (i := 2) (N := some 24) #[true, true, true, false, false] rfl rfl (by kernel_rfl) (by decide) (fun K hK => ?_)
    refine goes_ Try.func45 (by kernel_rfl) rfl #[.agg #[.slice A0_0 l0_0.length c0_0, .slice A0_1 l0_1.length c0_1]] (by rfl) rfl rfl (by (try simp only [List.map_toArray, List.map_cons, List.map_nil]); first | done | rfl | (simp only [List.length_drop, List.length_take]; rfl)) ?_
    with_reducible refine (laws_toTree.calls k _ _ l0_0 _ _ l0_1 t402 t405 _ ?side1 ?side2 ?side3 ?side4 A28.out).mono ?_
    (case side1 => repeat (first | exact (Kd.bJ HR0_0.out HB.out) | (with_reducible refine Kd.bD ?_ _) | (with_reducible refine Kd.bE ?_ _) | (with_reducible refine Kd.bK ?_)))
    (case side2 => exact HC0_0.out)
    (case side3 => repeat (first | exact (Kd.bJ HR0_1.out HB.out) | (with_reducible refine Kd.bD ?_ _) | (with_reducible refine Kd.bE ?_ _) | (with_reducible refine Kd.bK ?_)))
    (case side4 => exact HC0_1.out)
    rintro e w69 ⟨v403, v406, rfl, ho0, ho1, hb⟩
    refine ⟨_, rfl, ?_⟩
    have n0_ := aA.mk (Kd.R_elder' (by (with_reducible repeat (first | apply Kd.bA | apply Kd.aZ | apply Kd.bB)); exact HO389.out) (Kd.R_base ho0) hb)
    have n1_ := aA.mk (Kd.R_elder' (by (with_reducible repeat (first | apply Kd.bA | apply Kd.aZ | apply Kd.bB)); exact HO392.out) (Kd.R_base ho1) hb)
    have n2_ := aA.mk (Kd.R_elder' (by (with_reducible repeat (first | apply Kd.bA | apply Kd.aZ | apply Kd.bB)); exact HO396.out) (Kd.R_base ho0) hb)
    have n3_ := aA.mk (Kd.R_elder' (by (with_reducible repeat (first | apply Kd.bA | apply Kd.aZ | apply Kd.bB)); exact HO399.out) (Kd.R_base ho1) hb)
    have n4_ := aA.mk (Kd.R_lower (Kd.R_new' (Kd.R_new' ho0 (Kd.R_lt (by (with_reducible repeat (first | apply Kd.bA | apply Kd.aZ | apply Kd.bB)); exact HO389.out))) (Kd.R_lt (by (with_reducible repeat (first | apply Kd.bA | apply Kd.aZ | apply Kd.bB)); exact HO396.out))) (aQ (by repeat (first | (with_reducible first | exact HB.out | apply aE | apply aC | apply aD | refine aJ ?_ GE385.out | refine aJ ?_ GE400.out) | exact HB.out))))
    have n5_ := aA.mk (Kd.R_lower (Kd.R_new' (Kd.R_new' ho1 (Kd.R_lt (by (with_reducible repeat (first | apply Kd.bA | apply Kd.aZ | apply Kd.bB)); exact HO392.out))) (Kd.R_lt (by (with_reducible repeat (first | apply Kd.bA | apply Kd.aZ | apply Kd.bB)); exact HO399.out))) (aQ (by repeat (first | (with_reducible first | exact HB.out | apply aE | apply aC | apply aD | refine aJ ?_ GE385.out | refine aJ ?_ GE400.out) | exact HB.out))))
    have n6_ := aA.mk (aY (g := gb385) (o := .cells #[.slice A0_0 l0_0.length c0_0, .slice A0_1 l0_1.length c0_1] 65 (0, 0)) (by (with_reducible repeat (first | refine aK ?_ _ | refine aN ?_ | refine aM ?_ _)); exact BK385.out) hb)
    have n7_ := aA.mk (aY (g := gb400) (o := .cells #[.slice Ao63 t394.length co63, .slice Ao66 t397.length co66] 58 (0, 0)) (by (with_reducible repeat (first | refine aK ?_ _ | refine aN ?_ | refine aM ?_ _)); exact BK400.out) hb)
    have n8_ := aA.mk (aV (by repeat (first | (with_reducible first | exact HB.out | apply aE | apply aC | apply aD | refine aJ ?_ GE385.out | refine aJ ?_ GE400.out) | exact HB.out)) hb)
    clear HO389
    clear HO392
    clear HO396
    clear HO399
    clear BK385
    clear BK400
    clear HB
    have HO389 := n0_
    have HO392 := n1_
    have HO396 := n2_
    have HO399 := n3_
    have HO404 := n4_
    have HO407 := n5_
    have BK385 := n6_
    have BK400 := n7_
    have HB := n8_
    clear n0_ n1_ n2_ n3_ n4_ n5_ n6_ n7_ n8_
    (try clear hb)
    (try clear hb2)
    (try clear hk)
    (try clear hi)
    (try clear ho0)
    (try clear ho1)
    obtain ⟨Ao70, co70, eo70⟩ := Kd.R_slice HO404.out
    (first | subst eo70 | (injection eo70 with f1_ f2_ f3_; have f4_ := f1_.symm; have f5_ := f3_.symm; clear f1_ f2_ f3_; subst f4_; subst f5_))
    obtain ⟨Ao71, co71, eo71⟩ := Kd.R_slice HO407.out
    (first | subst eo71 | (injection eo71 with f1_ f2_ f3_; have f4_ := f1_.symm; have f5_ := f3_.symm; clear f1_ f2_ f3_; subst f4_; subst f5_))
    refine hK.out _ _ ⟨(aG BK400.out 0).trans rfl, (aG BK400.out 1).trans rfl, (aG BK385.out 0).trans rfl, (aG BK385.out 1).trans rfl⟩ (fun hHeld => ?_)
    clear hK K
    refine norm_ (a' := ?_) ?_ ?_
    rotate_left
    ·show Act.put _ (some 24) _ = _
     simp only [Act.put, lA, lB, lC, aT, aU]
     rfl
    refine one_ (i := 3) (N := some 25) #[true, true, true, true, false] rfl rfl (by kernel_rfl) (by decide) (fun K hK => ?_)
    refine goes_ Try.func40 (by kernel_rfl) rfl #[.agg #[.slice Ao63 t394.length co63, .slice Ao66 t397.length co66], .agg #[.slice Ao70 t402.length co70, .slice Ao71 t405.length co71]] (by rfl) rfl rfl (by (try simp only [List.map_toArray, List.map_cons, List.map_nil]); first | done | rfl | (simp only [List.length_drop, List.length_take]; rfl)) ?_
    with_reducible refine (laws_eqTree.calls k _ _ t394 _ _ t397 _ _ t402 _ _ t405 false _ ?side1 ?side2 ?side3 ?side4 ?side5 ?side6 ?side7 ?side8 A29.out).mono ?_
    (case side1 => repeat (first | exact (Kd.R_reads' HO396.out).2.2 | (with_reducible refine Kd.bD ?_ _) | (with_reducible refine Kd.bE ?_ _) | (with_reducible refine Kd.bK ?_)))
    (case side2 => exact (Kd.R_reads' HO396.out).2.1)
    (case side3 => repeat (first | exact (Kd.R_reads' HO399.out).2.2 | (with_reducible refine Kd.bD ?_ _) | (with_reducible refine Kd.bE ?_ _) | (with_reducible refine Kd.bK ?_)))
    (case side4 => exact (Kd.R_reads' HO399.out).2.1)
    (case side5 => repeat (first | exact (Kd.R_reads' HO404.out).2.2 | (with_reducible refine Kd.bD ?_ _) | (with_reducible refine Kd.bE ?_ _) | (with_reducible refine Kd.bK ?_)))
    (case side6 => exact (Kd.R_reads' HO404.out).2.1)
    (case side7 => repeat (first | exact (Kd.R_reads' HO407.out).2.2 | (with_reducible refine Kd.bD ?_ _) | (with_reducible refine Kd.bE ?_ _) | (with_reducible refine Kd.bK ?_)))
    (case side8 => exact (Kd.R_reads' HO407.out).2.1)
    rintro e w72 ⟨rfl, hb⟩
    refine ⟨_, rfl, ?_⟩
    have n0_ := aA.mk (Kd.bQ (by (with_reducible repeat (first | apply Kd.bA | apply Kd.aZ | apply Kd.bB)); exact HO389.out) hb)
    have n1_ := aA.mk (Kd.bQ (by (with_reducible repeat (first | apply Kd.bA | apply Kd.aZ | apply Kd.bB)); exact HO392.out) hb)
    have n2_ := aA.mk (Kd.bQ (by (with_reducible repeat (first | apply Kd.bA | apply Kd.aZ | apply Kd.bB)); exact HO396.out) hb)
    have n3_ := aA.mk (Kd.bQ (by (with_reducible repeat (first | apply Kd.bA | apply Kd.aZ | apply Kd.bB)); exact HO399.out) hb)
    have n4_ := aA.mk (Kd.bQ (by (with_reducible repeat (first | apply Kd.bA | apply Kd.aZ | apply Kd.bB)); exact HO404.out) hb)
    have n5_ := aA.mk (Kd.bQ (by (with_reducible repeat (first | apply Kd.bA | apply Kd.aZ | apply Kd.bB)); exact HO407.out) hb)
    have n6_ := aA.mk (aY (g := gb385) (o := .cells #[.slice A0_0 l0_0.length c0_0, .slice A0_1 l0_1.length c0_1] 65 (0, 0)) (by (with_reducible repeat (first | refine aK ?_ _ | refine aN ?_ | refine aM ?_ _)); exact BK385.out) hb)
    have n7_ := aA.mk (aY (g := gb400) (o := .cells #[.slice Ao63 t394.length co63, .slice Ao66 t397.length co66] 58 (0, 0)) (by (with_reducible repeat (first | refine aK ?_ _ | refine aN ?_ | refine aM ?_ _)); exact BK400.out) hb)
    have n8_ := aA.mk (aV (by repeat (first | (with_reducible first | exact HB.out | apply aE | apply aC | apply aD | refine aJ ?_ GE385.out | refine aJ ?_ GE400.out) | exact HB.out)) hb)
    clear HO389
    clear HO392
    clear HO396
    clear HO399
    clear HO404
    clear HO407
    clear BK385
    clear BK400
    clear HB
    have HO389 := n0_
    have HO392 := n1_
    have HO396 := n2_
    have HO399 := n3_
    have HO404 := n4_
    have HO407 := n5_
    have BK385 := n6_
    have BK400 := n7_
    have HB := n8_
    clear n0_ n1_ n2_ n3_ n4_ n5_ n6_ n7_ n8_
    (try clear hb)
    (try clear hb2)
    (try clear hk)
    (try clear hi)
    refine hK.out _ _ ⟨(aG BK400.out 0).trans rfl, (aG BK400.out 1).trans rfl, (aG BK385.out 0).trans rfl, (aG BK385.out 1).trans rfl⟩ (fun hHeld => ?_)
    clear hK K
    refine norm_ (a' := ?_) ?_ ?_
    rotate_left
    ·show Act.put _ (some 25) _ = _
     simp only [Act.put, lA, lB, lC, aT, aU]
     rfl
    refine aX (i := 4) (N := some 26) (v := ?_) (a' := ?_) #[true, true, true, true, true] rfl rfl (by kernel_rfl) (fun _ _ _ h => h) (Or.inl ⟨by rfl, ?_⟩) ?_ ?_
    rotate_left
    ·intro w'
     go_simp
     with_reducible rfl
    rotate_left
    ·simp only [Act.put, lA, lB, lC, aT, aU]
     rfl
    refine done_ (by kernel_rfl) ?_
    try go_wp2
    go_ret
    exact ⟨by first | rfl | (simp [errW_none, errW_some] <;> rfl) | (simp [*, errW_none, errW_some] <;> rfl), by repeat (first | (with_reducible first | exact HB.out | apply aE | apply aC | apply aD | refine aJ ?_ GE385.out | refine aJ ?_ GE400.out) | exact HB.out)⟩
end Go.Proofs.Ythpfihklkcnckaa.PFnExactTreeOk

namespace Go.Proofs.Ythpfihklkcnckaa.Core
open Go.RowKit Go.Proofs.YthpfihklkcnckaaW.PrintWords
theorem w64 {x : Int} (h0 : -9223372036854775808 ≤ x) (h1 : x ≤ 9223372036854775807) : wrap64 x = x := by unfold wrap64; omega
theorem w64s (n : Nat) (h : n ≤ 4611686018427387904) : wrap64 ((n : Int) + 1) = ((n + 1 : Nat) : Int) := by unfold wrap64; omega
theorem evOf {α : Type} {g : Nat → Option α} {r : α} (h : ∀ k, g k = some r) : Ev g r := ⟨0, fun k _ => h k⟩
theorem evSucc {α : Type} {g : Nat → Option α} {r : α} (h : ∃ K d, ∀ k, K ≤ k → g (k + d) = some r) : Ev g r := by
 obtain ⟨K, d, h⟩ := h
 refine ⟨K + d, fun k hk => ?_⟩
 obtain ⟨m, rfl⟩ : ∃ m, k = m + d := ⟨k - d, by omega⟩
 exact h m (by omega)
theorem evRange {σ ρ : Type} (n : Nat) (l : Nat → σ → Int → Option ρ) (Inv : Nat → σ → Prop) (M : Nat → σ → ρ)
  (step : ∀ i s, i < n → Inv i s → (∃ s', Inv (i + 1) s' ∧ M (i + 1) s' = M i s ∧ ∃ K d, ∀ k, K ≤ k → l (k + d) s (i : Int) = l k s' ((i + 1 : Nat) : Int)) ∨ (∃ K d, ∀ k, K ≤ k → l (k + d) s (i : Int) = some (M i s)))
  (done : ∀ s, Inv n s → ∃ K d, ∀ k, K ≤ k → l (k + d) s (n : Int) = some (M n s)) :
  ∀ i s, i ≤ n → Inv i s → Ev (fun k => l k s (i : Int)) (M i s) := by
 have key : ∀ d i s, n - i = d → i ≤ n → Inv i s → Ev (fun k => l k s (i : Int)) (M i s) := by
  intro d
  induction d with
  | zero =>
   intro i s hd hi hinv
   obtain rfl : i = n := by omega
   exact evSucc (done s hinv)
  | succ d ih =>
   intro i s hd hi hinv
   rcases step i s (by omega) hinv with ⟨s', hinv', hM, K, e, h⟩ | h
   ·obtain ⟨K', h'⟩ := ih (i + 1) s' (by omega) (by omega) hinv'
    refine evSucc ⟨K + K', e, fun k hk' => ?_⟩
    show l (k + e) s i = _
    rw [h k (by omega), ← hM]
    exact h' k (by omega)
   ·exact evSucc h
 exact fun i s hi => key _ i s rfl hi
theorem evRange0 {σ ρ : Type} (n : Nat) (l : Nat → σ → Int → Option ρ) (Inv : Nat → σ → Prop) (M : Nat → σ → ρ) (s : σ) (h0 : Inv 0 s)
  (step : ∀ i s, i < n → Inv i s → (∃ s', Inv (i + 1) s' ∧ M (i + 1) s' = M i s ∧ ∃ K d, ∀ k, K ≤ k → l (k + d) s (i : Int) = l k s' ((i + 1 : Nat) : Int)) ∨ (∃ K d, ∀ k, K ≤ k → l (k + d) s (i : Int) = some (M i s)))
  (done : ∀ s, Inv n s → ∃ K d, ∀ k, K ≤ k → l (k + d) s (n : Int) = some (M n s)) :
  Ev (fun k => l k s 0) (M 0 s) := evRange n l Inv M step done 0 s (Nat.zero_le _) h0
def allFrom (p : Nat → Bool) (n i : Nat) : Bool := (List.range' i (n - i)).all p
theorem allFrom_lt {p : Nat → Bool} {n i : Nat} (h : i < n) : allFrom p n i = (p i && allFrom p n (i + 1)) := by
 unfold allFrom
 rw [show n - i = (n - (i + 1)) + 1 by omega, List.range'_succ, List.all_cons]
theorem allFrom_end (p : Nat → Bool) (n : Nat) : allFrom p n n = true := by simp [allFrom]
theorem allFrom_iff {p : Nat → Bool} {n i : Nat} : allFrom p n i = true ↔ ∀ j, i ≤ j → j < n → p j = true := by
 simp only [allFrom, List.all_eq_true, List.mem_range'_1]
 constructor
 ·intro h j h1 h2; exact h j ⟨h1, by omega⟩
 ·intro h j hj; exact h j hj.1 (by omega)
theorem evAll (n : Nat) (l : Nat → Int → Option Bool) (p : Nat → Bool) (fin : Bool)
  (step : ∀ i, i < n → ∃ K d, ∀ k, K ≤ k → l (k + d) (i : Int) = if p i = true then l k ((i + 1 : Nat) : Int) else some false)
  (done : ∃ K d, ∀ k, K ≤ k → l (k + d) (n : Int) = some fin) (i : Nat) (hi : i ≤ n) : Ev (fun k => l k (i : Int)) (allFrom p n i && fin) := by
 refine evRange (σ := Unit) n (fun k _ i => l k i) (fun _ _ => True) (fun i _ => allFrom p n i && fin) ?_ ?_ i () hi trivial
 ·intro i _ hi _
  obtain ⟨K, d, h⟩ := step i hi
  cases hp : p i with
  | true => exact .inl ⟨(), trivial, by simp [allFrom_lt hi, hp], K, d, fun k hk => by simp only [h k hk, hp, if_true]⟩
  | false => exact .inr ⟨K, d, fun k hk => by simp only [h k hk, hp, allFrom_lt hi, Bool.false_and]; rfl⟩
 ·intro _ _
  obtain ⟨K, d, h⟩ := done
  exact ⟨K, d, fun k hk => by rw [h k hk, allFrom_end, Bool.true_and]⟩
def fill {β : Type} (c : Nat → β) (l : List β) (i : Nat) : List β := (List.range i).map c ++ l.drop i
theorem fill_zero {β : Type} (c : Nat → β) (l : List β) : fill c l 0 = l := by simp [fill]
theorem fill_length {β : Type} (c : Nat → β) (l : List β) (i : Nat) (h : i ≤ l.length) : (fill c l i).length = l.length := by simp [fill]; omega
theorem fill_all {β : Type} (c : Nat → β) (l : List β) : fill c l l.length = (List.range l.length).map c := by simp [fill]
theorem fill_getElem? {β : Type} (c : Nat → β) (l : List β) (i j : Nat) : (fill c l i)[j]? = if j < i then some (c j) else l[j]? := by
 unfold fill
 by_cases h : j < i
 ·rw [if_pos h, List.getElem?_append_left (by simpa using h)]; simp [h]
 ·rw [if_neg h, List.getElem?_append_right (by simp; omega), List.getElem?_drop]; simp; congr 1; omega
theorem fill_set {β : Type} (c : Nat → β) (l : List β) (i : Nat) (h : i < l.length) {v : β} (hv : v = c i) : (fill c l i).set i v = fill c l (i + 1) := by
 subst hv
 apply List.ext_getElem?
 intro j
 rw [List.getElem?_set, fill_getElem?, fill_getElem?, fill_length c l i (by omega)]
 by_cases e : i = j
 ·subst e; simp [h]
 ·rw [if_neg e]
  by_cases h1 : j < i
  ·rw [if_pos h1, if_pos (by omega)]
  ·rw [if_neg h1, if_neg (by omega)]
theorem range_map {α β : Type} (f : α → β) (l : List α) (z : α) : (List.range l.length).map (fun i => f (l.getD i z)) = l.map f := by
 apply List.ext_getElem?
 intro j
 by_cases h : j < l.length
 ·simp [h]
 ·simp [h]
theorem range_id {α : Type} (l : List α) (z : α) : (List.range l.length).map (fun i => l.getD i z) = l := by
 rw [range_map (fun x => x)]; simp
theorem drop_getD {α : Type} (l : List α) (i : Nat) (z : α) (h : i < l.length) : l.drop i = l.getD i z :: l.drop (i + 1) := by
 rw [List.drop_eq_getElem_cons h, List.getD_eq_getElem?_getD, List.getElem?_eq_getElem h]; rfl
theorem getD_mem {α : Type} (l : List α) (i : Nat) (z : α) (h : i < l.length) : l.getD i z ∈ l := by
 rw [List.getD_eq_getElem?_getD, List.getElem?_eq_getElem h]; exact List.getElem_mem h
theorem rd_nat (l : List Int) (i : Nat) : rd l (i : Int) = l.getD i 0 := by simp [rd]
end Go.Proofs.Ythpfihklkcnckaa.Core

namespace Go.Proofs.Ythpfihklkcnckaa.Pure
open Go.RowKit Go.Proofs.Ythpfihklkcnckaa.PFnExactTreeOk Go.Proofs.Ythpfihklkcnckaa.Core Go.Proofs.YthpfihklkcnckaaW.PrintWords Go.Proofs.YthpfihklkcnckaaW.PrintLast
set_option linter.unusedSimpArgs false
set_option linter.unusedVariables false
def okIntS (l : List Int) : Prop := l.length ≤ 4194304
def cntIntS (l : List Int) : Int := l.length
def inIntS (l : List Int) : Prop := l.length ≤ 1048576
theorem ok_of_inIntS {l : List Int} (h : inIntS l) : okIntS l := by unfold inIntS at h; unfold okIntS; omega
def sumIntS (l : List Int) : Int := l.length
theorem sumIntS_nn (l : List Int) : 0 ≤ sumIntS l := by unfold sumIntS; omega
theorem in_of_sumIntS {l : List Int} (h : sumIntS l ≤ 1048576) : inIntS l := by unfold sumIntS at h; unfold inIntS; omega
theorem eqIntS_ev (l : List Int) (ho : okIntS l) : Ev (fun k => laws_eqIntS.f k l l) true := by
 have h : l.length ≤ 4194304 := ho
 obtain ⟨K, hk⟩ := evRange0 (σ := Unit) l.length (fun k _ i => laws_eqIntS.l0 k l l i) (fun _ _ => True) (fun _ _ => true) () trivial
  (by
   intro i _ hi _
   refine .inl ⟨(), trivial, rfl, 0, 1, fun k _ => ?_⟩
   simp only [laws_eqIntS.l0]
   rw [if_pos (by omega), if_pos (by omega), if_pos (by omega), if_pos trivial, w64s i (by omega)])
  (by
   intro _ _
   refine ⟨0, 1, fun k _ => ?_⟩
   simp only [laws_eqIntS.l0]
   rw [if_neg (by omega)])
 refine ⟨K, fun k hk' => ?_⟩
 simp only [laws_eqIntS.f]
 rw [if_pos trivial]
 exact hk k hk'
def toK (x : S50) : S27 := ⟨x.f0, x.f1, x.f2, x.f3, x.f4⟩
def okKeyS (l : List S27) : Prop := l.length ≤ 4194304
def cntKeyS (l : List S27) : Int := 5 * l.length
def inKeyS (l : List S50) : Prop := l.length ≤ 1048576
def sumKeyS (l : List S50) : Int := l.length
theorem sumKeyS_nn (l : List S50) : 0 ≤ sumKeyS l := by unfold sumKeyS; omega
theorem in_of_sumKeyS {l : List S50} (h : sumKeyS l ≤ 1048576) : inKeyS l := by unfold sumKeyS at h; unfold inKeyS; omega
def goodK (x : S50) : Prop := (Lit.int .i64 x.f0).wf = true ∧ (Lit.int .i64 x.f1).wf = true ∧ (Lit.int .i64 x.f2).wf = true ∧ (Lit.int .i64 x.f3).wf = true ∧ (Lit.int .i64 x.f4).wf = true
theorem eqKey_refl (x : S27) : laws_eqKey.f x.f0 x.f1 x.f2 x.f3 x.f4 x.f0 x.f1 x.f2 x.f3 x.f4 = some true := by simp [laws_eqKey.f]
theorem eqKeyS_ev (l : List S27) (ho : okKeyS l) : Ev (fun k => laws_eqKeyS.f k l l) true := by
 have h : l.length ≤ 4194304 := ho
 obtain ⟨K, hk⟩ := evRange0 (σ := Unit) l.length (fun k _ i => laws_eqKeyS.l0 k l l i) (fun _ _ => True) (fun _ _ => true) () trivial
  (by
   intro i _ hi _
   refine .inl ⟨(), trivial, rfl, 0, 1, fun k _ => ?_⟩
   simp only [laws_eqKeyS.l0]
   rw [if_pos (by omega), if_pos (by omega), if_pos (by omega), eqKey_refl, w64s i (by omega)]
   rfl)
  (by
   intro _ _
   refine ⟨0, 1, fun k _ => ?_⟩
   simp only [laws_eqKeyS.l0]
   rw [if_neg (by omega)])
 refine ⟨K, fun k hk' => ?_⟩
 simp only [laws_eqKeyS.f]
 rw [if_pos trivial]
 exact hk k hk'
theorem szKeyS_f (l : List S50) (a : Int) (hl : l.length ≤ 9223372036854775807) (h0 : 0 ≤ a) (h1 : a ≤ 1048576) : laws_szKeyS.f l a = some (if a < sumKeyS l then -1 else a - sumKeyS l) := by
 unfold laws_szKeyS.f sumKeyS
 rw [w64 (by omega) (by omega)]
 by_cases h : a < (l.length : Int)
 ·rw [if_pos (by omega), if_pos h]
 ·rw [if_neg (by omega), if_neg h]
theorem szKeyS_big (l : List S50) (a : Int) (hl : l.length ≤ 9223372036854775807) (h0 : 0 ≤ a) (h1 : a ≤ 1048576) (h : a < sumKeyS l) : Ev (fun _ => laws_szKeyS.f l a) (-1) := evOf fun _ => by rw [szKeyS_f l a hl h0 h1, if_pos h]
theorem szKeyS_fit (l : List S50) (a : Int) (hl : l.length ≤ 9223372036854775807) (h0 : 0 ≤ a) (h1 : a ≤ 1048576) (h : ¬ a < sumKeyS l) : Ev (fun _ => laws_szKeyS.f l a) (a - sumKeyS l) := evOf fun _ => by rw [szKeyS_f l a hl h0 h1, if_neg h]
def convKeySS (l : List (List S50)) : List (List S27) := l.map fun x => x.map toK
def sumKeySS : List (List S50) → Int
 | [] => 0
 | x :: xs => 1 + sumKeyS x + sumKeySS xs
theorem sumKeySS_nn : ∀ l : List (List S50), (l.length : Int) ≤ sumKeySS l
 | [] => by simp [sumKeySS]
 | x :: xs => by
  have := sumKeySS_nn xs
  have := sumKeyS_nn x
  simp only [sumKeySS, List.length_cons]
  omega
theorem sumKeySS_at : ∀ (l : List (List S50)) (i : Nat), i < l.length → 1 + sumKeyS (l.getD i []) + sumKeySS (l.drop (i + 1)) = sumKeySS (l.drop i) := by
 intro l i hi
 rw [drop_getD l i [] hi]
 rfl
theorem sumKeySS_drop : ∀ (l : List (List S50)) (i : Nat), sumKeySS (l.drop i) ≤ sumKeySS l
 | [], i => by simp
 | x :: xs, 0 => by simp
 | x :: xs, i + 1 => by
  have := sumKeySS_drop xs i
  have := sumKeyS_nn x
  simp only [List.drop_succ_cons, sumKeySS]
  omega
def inKeySS (l : List (List S50)) : Prop := sumKeySS l ≤ 1048576
theorem in_of_sumKeySS {l : List (List S50)} (h : sumKeySS l ≤ 1048576) : inKeySS l := h
theorem inKeySS_len {l : List (List S50)} (h : inKeySS l) : l.length ≤ 1048576 := by have := sumKeySS_nn l; unfold inKeySS at h; omega
theorem inKeySS_at {l : List (List S50)} (h : inKeySS l) (i : Nat) (hi : i < l.length) : inKeyS (l.getD i []) := by
 have h1 := sumKeySS_at l i hi
 have h2 := sumKeySS_drop l i
 have h3 := sumKeySS_nn (l.drop (i + 1))
 unfold inKeySS at h
 exact in_of_sumKeyS (by omega)
/-- What the impl's side holds, all in all. -/
def bulkKeySS : List (List S27) → Nat
 | [] => 0
 | x :: xs => 1 + x.length + bulkKeySS xs
def okKeySS (l : List (List S27)) : Prop := bulkKeySS l ≤ 4194304
theorem bulkKeySS_len : ∀ l : List (List S27), l.length ≤ bulkKeySS l
 | [] => by simp [bulkKeySS]
 | x :: xs => by have := bulkKeySS_len xs; simp only [bulkKeySS, List.length_cons]; omega
theorem bulkKeySS_at : ∀ (l : List (List S27)) (i : Nat), i < l.length → (l.getD i []).length ≤ bulkKeySS l
 | x :: xs, 0, _ => by simp only [bulkKeySS, List.getD_cons_zero]; omega
 | x :: xs, i + 1, h => by
  have := bulkKeySS_at xs i (by simpa using h)
  simp only [bulkKeySS, List.getD_cons_succ]; omega
theorem okKeySS_at {l : List (List S27)} (h : okKeySS l) (i : Nat) (hi : i < l.length) : okKeyS (l.getD i []) := by
 have h1 := bulkKeySS_at l i hi
 unfold okKeySS at h
 show (l.getD i []).length ≤ 4194304
 omega
theorem okKeySS_len {l : List (List S27)} (h : okKeySS l) : l.length ≤ 4194304 := by have := bulkKeySS_len l; unfold okKeySS at h; omega
theorem bulk_convKeySS : ∀ l : List (List S50), (bulkKeySS (convKeySS l) : Int) = sumKeySS l
 | [] => rfl
 | x :: xs => by
  have h1 := bulk_convKeySS xs
  have h2 : (((x.map toK).length : Nat) : Int) = sumKeyS x := by rw [List.length_map]; rfl
  (try simp only at h2)
  simp only [convKeySS] at h1
  simp only [convKeySS, List.map_cons, bulkKeySS, sumKeySS]
  omega
theorem eqKeySS_ev (l : List (List S27)) (ho : okKeySS l) : Ev (fun k => laws_eqKeySS.f k l l) true := by
 have h := okKeySS_len ho
 obtain ⟨K, hk⟩ := evRange0 (σ := Unit) l.length (fun k _ i => laws_eqKeySS.l0 k l l i) (fun _ _ => True) (fun _ _ => true) () trivial
  (by
   intro i _ hi _
   have hr : rd_L2 l (i : Int) = l.getD i [] := by simp [rd_L2]
   obtain ⟨K, e⟩ := eqKeyS_ev (l.getD i []) (okKeySS_at ho i hi)
   refine .inl ⟨(), trivial, rfl, K, 1, fun k hk => ?_⟩
   have e1 := e k hk
   simp only at e1
   simp only [laws_eqKeySS.l0, hr, e1, Option.bind_some]
   rw [if_pos (by omega), if_pos (by omega), if_pos (by omega), if_pos trivial, w64s i (by omega)])
  (by
   intro _ _
   refine ⟨0, 1, fun k _ => ?_⟩
   simp only [laws_eqKeySS.l0]
   rw [if_neg (by omega)])
 refine ⟨K, fun k hk' => ?_⟩
 simp only [laws_eqKeySS.f]
 rw [if_pos trivial]
 exact hk k hk'
theorem eqNode_ev (l : List (List S27)) (ho : okKeySS l) : Ev (fun k => laws_eqNode.f k l l) true := by
 obtain ⟨K, e⟩ := eqKeySS_ev l ho
 refine ⟨K, fun k hk => ?_⟩
 have e1 := e k hk
 simp only at e1
 simp only [laws_eqNode.f, e1, Option.bind_some]
 rfl
def goodKeySS (l : List (List S50)) : Prop := l.length ≤ 9223372036854775807 ∧ ∀ x ∈ l, x.length ≤ 9223372036854775807
theorem szKeySS_l0 (l : List (List S50)) (hg : goodKeySS l) : ∀ (d i : Nat) (s : Int), l.length - i = d → i ≤ l.length → 0 ≤ s → s ≤ 1048576 → l.length ≤ 1048576 → Ev (fun k => laws_szKeySS.l0 k l s (i : Int)) (if s < sumKeySS (l.drop i) - ((l.length : Int) - i) then -1 else s - (sumKeySS (l.drop i) - ((l.length : Int) - i))) := by
 intro d
 induction d with
 | zero =>
  intro i s hd hi h0 h1 hl
  obtain rfl : i = l.length := by omega
  refine evSucc ⟨0, 1, fun k _ => ?_⟩
  simp only [laws_szKeySS.l0]
  rw [if_neg (by omega), List.drop_length]
  rw [show sumKeySS [] = 0 from rfl, if_neg (by omega)]
  congr 1; omega
 | succ d ih =>
  intro i s hd hi h0 h1 hl
  have hlt : i < l.length := by omega
  have hs := sumKeySS_at l i hlt
  have hn := sumKeySS_nn (l.drop (i + 1))
  rw [List.length_drop] at hn
  have hr : rd_L6 l (i : Int) = l.getD i [] := by simp [rd_L6]
  have hgx := hg.2 _ (getD_mem l i [] hlt)
  generalize l.getD i [] = y at *
  have hy := sumKeyS_nn y
  by_cases c : s < sumKeyS y
  ·obtain ⟨K, e⟩ := szKeyS_big y s hgx h0 h1 c
   refine evSucc ⟨K, 1, fun k hk => ?_⟩
   have e1 := e k hk
   simp only at e1
   simp only [laws_szKeySS.l0, hr, e1, Option.bind_some]
   rw [if_pos (by omega), if_pos (by omega), if_pos (by decide), if_pos (by omega)]
  ·obtain ⟨K, e⟩ := szKeyS_fit y s hgx h0 h1 c
   obtain ⟨K2, e2⟩ := ih (i + 1) (s - sumKeyS y) (by omega) (by omega) (by omega) (by omega) hl
   refine evSucc ⟨K + K2, 1, fun k hk => ?_⟩
   have e1 := e k (by omega)
   have e3 := e2 k (by omega)
   simp only at e1 e3
   simp only [laws_szKeySS.l0, hr, e1, Option.bind_some]
   rw [if_pos (by omega), if_pos (by omega), if_neg (by omega), w64s i (by omega), e3]
   have hc : ((i + 1 : Nat) : Int) = (i : Int) + 1 := by omega
   rw [hc]
   by_cases c2 : s - sumKeyS y < sumKeySS (l.drop (i + 1)) - ((l.length : Int) - ((i : Int) + 1))
   ·rw [if_pos c2, if_pos (by omega)]
   ·rw [if_neg c2, if_neg (by omega)]; congr 1; omega
theorem szKeySS_big (l : List (List S50)) (a : Int) (hg : goodKeySS l) (h0 : 0 ≤ a) (h1 : a ≤ 1048576) (h : a < sumKeySS l) : Ev (fun k => laws_szKeySS.f k l a) (-1) := by
 have hn := hg.1
 by_cases c : a < l.length
 ·refine evOf fun k => ?_
  simp only [laws_szKeySS.f]
  rw [w64 (by omega) (by omega), if_pos (by omega)]
 ·obtain ⟨K, e⟩ := szKeySS_l0 l hg _ 0 (a - l.length) rfl (Nat.zero_le _) (by omega) (by omega) (by omega)
  refine ⟨K, fun k hk => ?_⟩
  have e1 := e k hk
  simp only [laws_szKeySS.f]
  rw [w64 (by omega) (by omega), if_neg (by omega)]
  simp only [List.drop_zero, Int.natCast_zero] at e1
  rw [if_pos (by omega)] at e1
  exact e1
theorem szKeySS_fit (l : List (List S50)) (a : Int) (hg : goodKeySS l) (h0 : 0 ≤ a) (h1 : a ≤ 1048576) (h : ¬ a < sumKeySS l) : Ev (fun k => laws_szKeySS.f k l a) (a - sumKeySS l) := by
 have hn := sumKeySS_nn l
 obtain ⟨K, e⟩ := szKeySS_l0 l hg _ 0 (a - l.length) rfl (Nat.zero_le _) (by omega) (by omega) (by omega)
 refine ⟨K, fun k hk => ?_⟩
 have e1 := e k hk
 simp only [laws_szKeySS.f]
 rw [w64 (by omega) (by omega), if_neg (by omega)]
 simp only [List.drop_zero, Int.natCast_zero] at e1
 rw [if_neg (by omega)] at e1
 rw [show a - sumKeySS l = a - ↑l.length - (sumKeySS l - (↑l.length - 0)) by omega]
 exact e1
theorem szNode_big (l : List (List S50)) (a : Int) (hg : goodKeySS l) (h0 : 0 ≤ a) (h1 : a ≤ 1048576) (h : a < sumKeySS l) : Ev (fun k => laws_szNode.f k l a) (-1) := by
 obtain ⟨K, e⟩ := szKeySS_big l a hg h0 h1 h
 refine ⟨K, fun k hk => ?_⟩
 have e1 := e k hk
 simp only at e1
 simp only [laws_szNode.f, e1, Option.bind_some]
 rfl
theorem szNode_fit (l : List (List S50)) (a : Int) (hg : goodKeySS l) (h0 : 0 ≤ a) (h1 : a ≤ 1048576) (h : ¬ a < sumKeySS l) : Ev (fun k => laws_szNode.f k l a) (a - sumKeySS l) := by
 obtain ⟨K, e⟩ := szKeySS_fit l a hg h0 h1 h
 refine ⟨K, fun k hk => ?_⟩
 have e1 := e k hk
 simp only at e1
 simp only [laws_szNode.f, e1, Option.bind_some]
 rw [if_neg (by omega)]
def convNodeS (l : List (S24)) : List (S32) := l.map fun x => (⟨convKeySS x.f0⟩ : S32)
def sumNodeS : List (S24) → Int
 | [] => 0
 | x :: xs => 1 + sumKeySS x.f0 + sumNodeS xs
theorem sumNodeS_nn : ∀ l : List (S24), (l.length : Int) ≤ sumNodeS l
 | [] => by simp [sumNodeS]
 | x :: xs => by
  have := sumNodeS_nn xs
  have := sumKeySS_nn x.f0
  simp only [sumNodeS, List.length_cons]
  omega
theorem sumNodeS_pos (l : List (S24)) : 0 ≤ sumNodeS l := by have := sumNodeS_nn l; omega
theorem sumNodeS_at : ∀ (l : List (S24)) (i : Nat), i < l.length → 1 + sumKeySS (l.getD i z24).f0 + sumNodeS (l.drop (i + 1)) = sumNodeS (l.drop i) := by
 intro l i hi
 rw [drop_getD l i z24 hi]
 rfl
theorem sumNodeS_drop : ∀ (l : List (S24)) (i : Nat), sumNodeS (l.drop i) ≤ sumNodeS l
 | [], i => by simp
 | x :: xs, 0 => by simp
 | x :: xs, i + 1 => by
  have := sumNodeS_drop xs i
  have := sumKeySS_nn x.f0
  simp only [List.drop_succ_cons, sumNodeS]
  omega
def inNodeS (l : List (S24)) : Prop := sumNodeS l ≤ 1048576
theorem in_of_sumNodeS {l : List (S24)} (h : sumNodeS l ≤ 1048576) : inNodeS l := h
theorem inNodeS_len {l : List (S24)} (h : inNodeS l) : l.length ≤ 1048576 := by have := sumNodeS_nn l; unfold inNodeS at h; omega
theorem inNodeS_at {l : List (S24)} (h : inNodeS l) (i : Nat) (hi : i < l.length) : inKeySS (l.getD i z24).f0 := by
 have h1 := sumNodeS_at l i hi
 have h2 := sumNodeS_drop l i
 have h3 := sumNodeS_nn (l.drop (i + 1))
 unfold inNodeS at h
 exact in_of_sumKeySS (by omega)
/-- What the impl's side holds, all in all. -/
def bulkNodeS : List (S32) → Nat
 | [] => 0
 | x :: xs => 1 + bulkKeySS x.f0 + bulkNodeS xs
def okNodeS (l : List (S32)) : Prop := bulkNodeS l ≤ 4194304
theorem bulkNodeS_len : ∀ l : List (S32), l.length ≤ bulkNodeS l
 | [] => by simp [bulkNodeS]
 | x :: xs => by have := bulkNodeS_len xs; simp only [bulkNodeS, List.length_cons]; omega
theorem bulkNodeS_at : ∀ (l : List (S32)) (i : Nat), i < l.length → bulkKeySS (l.getD i z32).f0 ≤ bulkNodeS l
 | x :: xs, 0, _ => by simp only [bulkNodeS, List.getD_cons_zero]; omega
 | x :: xs, i + 1, h => by
  have := bulkNodeS_at xs i (by simpa using h)
  simp only [bulkNodeS, List.getD_cons_succ]; omega
theorem okNodeS_at {l : List (S32)} (h : okNodeS l) (i : Nat) (hi : i < l.length) : okKeySS (l.getD i z32).f0 := by
 have h1 := bulkNodeS_at l i hi
 unfold okNodeS at h
 show bulkKeySS (l.getD i z32).f0 ≤ 4194304
 omega
theorem okNodeS_len {l : List (S32)} (h : okNodeS l) : l.length ≤ 4194304 := by have := bulkNodeS_len l; unfold okNodeS at h; omega
theorem bulk_convNodeS : ∀ l : List (S24), (bulkNodeS (convNodeS l) : Int) = sumNodeS l
 | [] => rfl
 | x :: xs => by
  have h1 := bulk_convNodeS xs
  have h2 : ((bulkKeySS ((⟨convKeySS x.f0⟩ : S32)).f0 : Nat) : Int) = sumKeySS x.f0 := bulk_convKeySS x.f0
  (try simp only at h2)
  simp only [convNodeS] at h1
  simp only [convNodeS, List.map_cons, bulkNodeS, sumNodeS]
  omega
theorem ok_of_inNodeS {l : List (S24)} (h : inNodeS l) : okNodeS (convNodeS l) := by
 have := bulk_convNodeS l
 unfold inNodeS at h
 unfold okNodeS
 omega
theorem eqNodeS_ev (l : List (S32)) (ho : okNodeS l) : Ev (fun k => laws_eqNodeS.f k l l) true := by
 have h := okNodeS_len ho
 obtain ⟨K, hk⟩ := evRange0 (σ := Unit) l.length (fun k _ i => laws_eqNodeS.l0 k l l i) (fun _ _ => True) (fun _ _ => true) () trivial
  (by
   intro i _ hi _
   have hr : rd_T32 l (i : Int) = l.getD i z32 := by simp [rd_T32]
   obtain ⟨K, e⟩ := eqNode_ev (l.getD i z32).f0 (okNodeS_at ho i hi)
   refine .inl ⟨(), trivial, rfl, K, 1, fun k hk => ?_⟩
   have e1 := e k hk
   simp only at e1
   simp only [laws_eqNodeS.l0, hr, e1, Option.bind_some]
   rw [if_pos (by omega), if_pos (by omega), if_pos (by omega), if_pos trivial, w64s i (by omega)])
  (by
   intro _ _
   refine ⟨0, 1, fun k _ => ?_⟩
   simp only [laws_eqNodeS.l0]
   rw [if_neg (by omega)])
 refine ⟨K, fun k hk' => ?_⟩
 simp only [laws_eqNodeS.f]
 rw [if_pos trivial]
 exact hk k hk'
theorem eqTree_ev (l : List Int) (n : List S32) (h1 : okIntS l) (h2 : okNodeS n) : Ev (fun k => laws_eqTree.f k l n l n) true := by
 obtain ⟨K, e⟩ := eqIntS_ev l h1
 obtain ⟨K2, e2⟩ := eqNodeS_ev n h2
 refine ⟨K + K2, fun k hk => ?_⟩
 have a1 := e k (by omega)
 have a2 := e2 k (by omega)
 simp only at a1 a2
 simp only [laws_eqTree.f, a1, a2, Option.bind_some]
 rfl
theorem szIntS_f (l : List Int) (a : Int) (hl : l.length ≤ 9223372036854775807) (h0 : 0 ≤ a) (h1 : a ≤ 1048576) : laws_szIntS.f l a = some (if a < sumIntS l then -1 else a - sumIntS l) := by
 unfold laws_szIntS.f sumIntS
 rw [w64 (by omega) (by omega)]
 by_cases h : a < (l.length : Int)
 ·rw [if_pos (by omega), if_pos h]
 ·rw [if_neg (by omega), if_neg h]
def goodNodeS (l : List (S24)) : Prop := l.length ≤ 9223372036854775807 ∧ ∀ x ∈ l, goodKeySS x.f0
theorem szNodeS_l0 (l : List (S24)) (hg : goodNodeS l) : ∀ (d i : Nat) (s : Int), l.length - i = d → i ≤ l.length → 0 ≤ s → s ≤ 1048576 → l.length ≤ 1048576 → Ev (fun k => laws_szNodeS.l0 k l s (i : Int)) (if s < sumNodeS (l.drop i) - ((l.length : Int) - i) then -1 else s - (sumNodeS (l.drop i) - ((l.length : Int) - i))) := by
 intro d
 induction d with
 | zero =>
  intro i s hd hi h0 h1 hl
  obtain rfl : i = l.length := by omega
  refine evSucc ⟨0, 1, fun k _ => ?_⟩
  simp only [laws_szNodeS.l0]
  rw [if_neg (by omega), List.drop_length]
  rw [show sumNodeS [] = 0 from rfl, if_neg (by omega)]
  congr 1; omega
 | succ d ih =>
  intro i s hd hi h0 h1 hl
  have hlt : i < l.length := by omega
  have hs := sumNodeS_at l i hlt
  have hn := sumNodeS_nn (l.drop (i + 1))
  rw [List.length_drop] at hn
  have hr : rd_T24 l (i : Int) = l.getD i z24 := by simp [rd_T24]
  have hgx := hg.2 _ (getD_mem l i z24 hlt)
  generalize l.getD i z24 = y at *
  have hy := sumKeySS_nn y.f0
  by_cases c : s < sumKeySS y.f0
  ·obtain ⟨K, e⟩ := szNode_big y.f0 s hgx h0 h1 c
   refine evSucc ⟨K, 1, fun k hk => ?_⟩
   have e1 := e k hk
   simp only at e1
   simp only [laws_szNodeS.l0, hr, e1, Option.bind_some]
   rw [if_pos (by omega), if_pos (by omega), if_pos (by decide), if_pos (by omega)]
  ·obtain ⟨K, e⟩ := szNode_fit y.f0 s hgx h0 h1 c
   obtain ⟨K2, e2⟩ := ih (i + 1) (s - sumKeySS y.f0) (by omega) (by omega) (by omega) (by omega) hl
   refine evSucc ⟨K + K2, 1, fun k hk => ?_⟩
   have e1 := e k (by omega)
   have e3 := e2 k (by omega)
   simp only at e1 e3
   simp only [laws_szNodeS.l0, hr, e1, Option.bind_some]
   rw [if_pos (by omega), if_pos (by omega), if_neg (by omega), w64s i (by omega), e3]
   have hc : ((i + 1 : Nat) : Int) = (i : Int) + 1 := by omega
   rw [hc]
   by_cases c2 : s - sumKeySS y.f0 < sumNodeS (l.drop (i + 1)) - ((l.length : Int) - ((i : Int) + 1))
   ·rw [if_pos c2, if_pos (by omega)]
   ·rw [if_neg c2, if_neg (by omega)]; congr 1; omega
theorem szNodeS_big (l : List (S24)) (a : Int) (hg : goodNodeS l) (h0 : 0 ≤ a) (h1 : a ≤ 1048576) (h : a < sumNodeS l) : Ev (fun k => laws_szNodeS.f k l a) (-1) := by
 have hn := hg.1
 by_cases c : a < l.length
 ·refine evOf fun k => ?_
  simp only [laws_szNodeS.f]
  rw [w64 (by omega) (by omega), if_pos (by omega)]
 ·obtain ⟨K, e⟩ := szNodeS_l0 l hg _ 0 (a - l.length) rfl (Nat.zero_le _) (by omega) (by omega) (by omega)
  refine ⟨K, fun k hk => ?_⟩
  have e1 := e k hk
  simp only [laws_szNodeS.f]
  rw [w64 (by omega) (by omega), if_neg (by omega)]
  simp only [List.drop_zero, Int.natCast_zero] at e1
  rw [if_pos (by omega)] at e1
  exact e1
theorem szNodeS_fit (l : List (S24)) (a : Int) (hg : goodNodeS l) (h0 : 0 ≤ a) (h1 : a ≤ 1048576) (h : ¬ a < sumNodeS l) : Ev (fun k => laws_szNodeS.f k l a) (a - sumNodeS l) := by
 have hn := sumNodeS_nn l
 obtain ⟨K, e⟩ := szNodeS_l0 l hg _ 0 (a - l.length) rfl (Nat.zero_le _) (by omega) (by omega) (by omega)
 refine ⟨K, fun k hk => ?_⟩
 have e1 := e k hk
 simp only [laws_szNodeS.f]
 rw [w64 (by omega) (by omega), if_neg (by omega)]
 simp only [List.drop_zero, Int.natCast_zero] at e1
 rw [if_neg (by omega)] at e1
 rw [show a - sumNodeS l = a - ↑l.length - (sumNodeS l - (↑l.length - 0)) by omega]
 exact e1
def sumTree (l : List Int) (n : List S24) : Int := sumIntS l + sumNodeS n
theorem szTree_big (l : List Int) (n : List S24) (a : Int) (hl : l.length ≤ 9223372036854775807) (hg : goodNodeS n) (h0 : 0 ≤ a) (h1 : a ≤ 1048576) (h : a < sumTree l n) : Ev (fun k => laws_szTree.f k l n a) (-1) := by
 have u := sumIntS_nn l
 unfold sumTree at h
 by_cases c : a < sumIntS l
 ·refine evOf fun k => ?_
  simp only [laws_szTree.f, szIntS_f l a hl h0 h1, if_pos c, Option.bind_some]
  rfl
 ·obtain ⟨K, e⟩ := szNodeS_big n (a - sumIntS l) hg (by omega) (by omega) (by omega)
  refine ⟨K, fun k hk => ?_⟩
  have e1 := e k hk
  simp only at e1
  simp only [laws_szTree.f, szIntS_f l a hl h0 h1, if_neg c, Option.bind_some, e1]
  rw [if_neg (by omega)]
  rfl
theorem szTree_fit (l : List Int) (n : List S24) (a : Int) (hl : l.length ≤ 9223372036854775807) (hg : goodNodeS n) (h0 : 0 ≤ a) (h1 : a ≤ 1048576) (h : ¬ a < sumTree l n) : Ev (fun k => laws_szTree.f k l n a) (a - sumTree l n) := by
 have u := sumIntS_nn l
 have u2 := sumNodeS_pos n
 unfold sumTree at h
 obtain ⟨K, e⟩ := szNodeS_fit n (a - sumIntS l) hg (by omega) (by omega) (by omega)
 refine ⟨K, fun k hk => ?_⟩
 have e1 := e k hk
 simp only at e1
 simp only [laws_szTree.f, szIntS_f l a hl h0 h1, if_neg (show ¬ a < sumIntS l by omega), Option.bind_some, e1]
 rw [if_neg (by omega), if_neg (by omega)]
 unfold sumTree
 congr 1
 omega
theorem toIntS_ev (l : List Int) (hi : inIntS l) : Ev (fun k => laws_toIntS.f k l) l := by
 have h : l.length ≤ 1048576 := hi
 have hl : ∀ i, i ≤ l.length → (fill (fun i => l.getD i 0) (List.replicate l.length (0 : Int)) i).length = l.length := fun i hi => by rw [fill_length _ _ _ (by simpa using hi)]; simp
 obtain ⟨K, hk⟩ := evRange0 (σ := List Int) l.length (fun k s i => laws_toIntS.l0 k l s i) (fun i s => s = fill (fun i => l.getD i 0) (List.replicate l.length (0 : Int)) i) (fun _ _ => l) (List.replicate l.length (0 : Int)) (fill_zero _ _).symm
  (by
   intro i s hi hs
   subst hs
   refine .inl ⟨_, rfl, rfl, 0, 1, fun k _ => ?_⟩
   have h1 := hl i (by omega)
   simp only [laws_toIntS.l0]
   rw [if_pos (by omega), if_pos (by omega), if_pos (by omega), w64s i (by omega), Int.toNat_natCast, fill_set _ _ _ (by simpa using hi) (rd_nat l i)])
  (by
   intro s hs
   subst hs
   refine ⟨0, 1, fun k _ => ?_⟩
   simp only [laws_toIntS.l0]
   rw [if_neg (by omega)]
   have := fill_all (fun i => l.getD i 0) (List.replicate l.length (0 : Int))
   rw [List.length_replicate] at this
   rw [this, range_id])
 refine ⟨K, fun k hk' => ?_⟩
 simp only [laws_toIntS.f]
 rw [if_pos (by omega), if_pos (by omega)]
 have e := hk k hk'
 simpa using e
theorem toKeyS_ev (l : List S50) (hi : inKeyS l) : Ev (fun k => laws_toKeyS.f k l) (l.map toK) := by
 have h : l.length ≤ 1048576 := hi
 have hl : ∀ i, i ≤ l.length → (fill (fun i => toK (l.getD i z50)) (List.replicate l.length z27) i).length = l.length := fun i hi => by rw [fill_length _ _ _ (by simpa using hi)]; simp
 obtain ⟨K, hk⟩ := evRange0 (σ := List S27) l.length (fun k s i => laws_toKeyS.l0 k l s i) (fun i s => s = fill (fun i => toK (l.getD i z50)) (List.replicate l.length z27) i) (fun _ _ => l.map toK) (List.replicate l.length z27) (fill_zero _ _).symm
  (by
   intro i s hi hs
   subst hs
   refine .inl ⟨_, rfl, rfl, 0, 1, fun k _ => ?_⟩
   have h1 := hl i (by omega)
   simp only [laws_toKeyS.l0]
   rw [if_pos (by omega), if_pos (by omega)]
   simp only [laws_toKey.f, Option.bind_some]
   rw [if_pos (by omega), w64s i (by omega), Int.toNat_natCast, fill_set _ _ _ (by simpa using hi)]
   simp [toK, rd_T50])
  (by
   intro s hs
   subst hs
   refine ⟨0, 1, fun k _ => ?_⟩
   simp only [laws_toKeyS.l0]
   rw [if_neg (by omega)]
   have := fill_all (fun i => toK (l.getD i z50)) (List.replicate l.length z27)
   rw [List.length_replicate] at this
   rw [this, range_map])
 refine ⟨K, fun k hk' => ?_⟩
 simp only [laws_toKeyS.f]
 rw [if_pos (by omega), if_pos (by omega)]
 have e := hk k hk'
 simpa using e
theorem toKeySS_ev (l : List (List S50)) (hin : inKeySS l) : Ev (fun k => laws_toKeySS.f k l) (convKeySS l) := by
 have h := inKeySS_len hin
 have hl : ∀ i, i ≤ l.length → (fill (fun i => (l.getD i []).map toK) (List.replicate l.length ([] : List S27)) i).length = l.length := fun i hi => by rw [fill_length _ _ _ (by simpa using hi)]; simp
 obtain ⟨K, hk⟩ := evRange0 (σ := List (List S27)) l.length (fun k s i => laws_toKeySS.l0 k l s i) (fun i s => s = fill (fun i => (l.getD i []).map toK) (List.replicate l.length ([] : List S27)) i) (fun _ _ => convKeySS l) (List.replicate l.length ([] : List S27)) (fill_zero _ _).symm
  (by
   intro i s hi hs
   subst hs
   have h1 := hl i (by omega)
   have hr : rd_L6 l (i : Int) = l.getD i [] := by simp [rd_L6]
   obtain ⟨K, e⟩ := toKeyS_ev (l.getD i []) (inKeySS_at hin i hi)
   refine .inl ⟨_, rfl, rfl, K, 1, fun k hk => ?_⟩
   have e1 := e k hk
   simp only at e1
   simp only [laws_toKeySS.l0, hr, e1, Option.bind_some]
   rw [if_pos (by omega), if_pos (by omega), if_pos (by omega), w64s i (by omega), Int.toNat_natCast, fill_set _ _ _ (by simpa using hi) rfl])
  (by
   intro s hs
   subst hs
   refine ⟨0, 1, fun k _ => ?_⟩
   simp only [laws_toKeySS.l0]
   rw [if_neg (by omega)]
   have := fill_all (fun i => (l.getD i []).map toK) (List.replicate l.length ([] : List S27))
   rw [List.length_replicate] at this
   rw [this, range_map (fun x => x.map toK) l []]
   rfl)
 refine ⟨K, fun k hk' => ?_⟩
 simp only [laws_toKeySS.f]
 rw [if_pos (by omega), if_pos (by omega)]
 have e := hk k hk'
 simp only [Int.toNat_natCast]
 exact e
theorem toNode_ev (l : List (List S50)) (hin : inKeySS l) : Ev (fun k => laws_toNode.f k l) (convKeySS l) := by
 obtain ⟨K, e⟩ := toKeySS_ev l hin
 refine ⟨K, fun k hk => ?_⟩
 have e1 := e k hk
 simp only at e1
 simp only [laws_toNode.f, e1, Option.bind_some]
theorem toNodeS_ev (l : List (S24)) (hin : inNodeS l) : Ev (fun k => laws_toNodeS.f k l) (convNodeS l) := by
 have h := inNodeS_len hin
 have hl : ∀ i, i ≤ l.length → (fill (fun i => (⟨convKeySS (l.getD i z24).f0⟩ : S32)) (List.replicate l.length (z32 : S32)) i).length = l.length := fun i hi => by rw [fill_length _ _ _ (by simpa using hi)]; simp
 obtain ⟨K, hk⟩ := evRange0 (σ := List (S32)) l.length (fun k s i => laws_toNodeS.l0 k l s i) (fun i s => s = fill (fun i => (⟨convKeySS (l.getD i z24).f0⟩ : S32)) (List.replicate l.length (z32 : S32)) i) (fun _ _ => convNodeS l) (List.replicate l.length (z32 : S32)) (fill_zero _ _).symm
  (by
   intro i s hi hs
   subst hs
   have h1 := hl i (by omega)
   have hr : rd_T24 l (i : Int) = l.getD i z24 := by simp [rd_T24]
   obtain ⟨K, e⟩ := toNode_ev (l.getD i z24).f0 (inNodeS_at hin i hi)
   refine .inl ⟨_, rfl, rfl, K, 1, fun k hk => ?_⟩
   have e1 := e k hk
   simp only at e1
   simp only [laws_toNodeS.l0, hr, e1, Option.bind_some]
   rw [if_pos (by omega), if_pos (by omega), if_pos (by omega), w64s i (by omega), Int.toNat_natCast, fill_set _ _ _ (by simpa using hi) rfl])
  (by
   intro s hs
   subst hs
   refine ⟨0, 1, fun k _ => ?_⟩
   simp only [laws_toNodeS.l0]
   rw [if_neg (by omega)]
   have := fill_all (fun i => (⟨convKeySS (l.getD i z24).f0⟩ : S32)) (List.replicate l.length (z32 : S32))
   rw [List.length_replicate] at this
   rw [this, range_map (fun x => (⟨convKeySS x.f0⟩ : S32)) l z24]
   rfl)
 refine ⟨K, fun k hk' => ?_⟩
 simp only [laws_toNodeS.f]
 rw [if_pos (by omega), if_pos (by omega)]
 have e := hk k hk'
 simp only [Int.toNat_natCast]
 exact e
theorem toTree_ev (l : List Int) (n : List S24) (h1 : inIntS l) (h2 : inNodeS n) : Ev (fun k => laws_toTree.f k l n) (l, convNodeS n) := by
 obtain ⟨K, e⟩ := toIntS_ev l h1
 obtain ⟨K2, e2⟩ := toNodeS_ev n h2
 refine ⟨K + K2, fun k hk => ?_⟩
 have a1 := e k (by omega)
 have a2 := e2 k (by omega)
 simp only at a1 a2
 simp only [laws_toTree.f, a1, a2, Option.bind_some]
def less (a b : S27) : Bool := decide (a.f0 < b.f0 ∨ a.f0 = b.f0 ∧ a.f1 < b.f1)
def same (a b : S27) : Bool := decide (a.f0 = b.f0 ∧ a.f1 = b.f1)
def putGo (k : S27) : List S27 → Bool → List S27
 | [], p => if p then [] else [k]
 | x :: xs, p => (if p || less x k then [] else [k]) ++ ((if same x k then [] else [x]) ++ putGo k xs (p || !less x k))
def setPut (l : List S27) (k : S27) : List S27 := putGo k l false
def mergeSets (a b : List S27) : List S27 := b.foldl setPut a
def dropNone (l : List S27) : List S27 := l.filter fun x => x.f2 != 0
theorem putGo_length (k : S27) : ∀ (l : List S27) (p : Bool), (putGo k l p).length ≤ l.length + 1
 | [], p => by cases p <;> simp [putGo]
 | x :: xs, p => by
  have ih := putGo_length k xs
  have ih1 : p = true → (putGo k xs true).length ≤ xs.length := fun _ => by
   clear ih
   induction xs with
   | nil => simp [putGo]
   | cons y ys ih => simp only [putGo, Bool.true_or, if_true, List.nil_append, List.length_append, List.length_cons]; split <;> simp <;> omega
  simp only [putGo, List.length_append, List.length_cons]
  cases p with
  | true => simp only [Bool.true_or, if_true, List.length_nil]; have := ih1 rfl; split <;> simp <;> omega
  | false =>
   cases hx : less x k with
   | true => simp only [Bool.false_or, if_true, Bool.not_true, List.length_nil]; have := ih false; split <;> simp <;> omega
   | false =>
    simp only [Bool.false_or, Bool.not_false, if_false, Bool.false_eq_true, List.length_cons, List.length_nil]
    have h2 : (putGo k xs true).length ≤ xs.length := by
     clear ih ih1
     induction xs with
     | nil => simp [putGo]
     | cons y ys ih => simp only [putGo, Bool.true_or, if_true, List.nil_append, List.length_append, List.length_cons]; split <;> simp <;> omega
    split <;> simp <;> omega
theorem setPut_length (l : List S27) (k : S27) : (setPut l k).length ≤ l.length + 1 := putGo_length k l false
theorem mergeSets_length (a b : List S27) : (mergeSets a b).length ≤ a.length + b.length := by
 unfold mergeSets
 induction b generalizing a with
 | nil => simp
 | cons x xs ih => simp only [List.foldl_cons, List.length_cons]; have := ih (setPut a x); have := setPut_length a x; omega
theorem spec_LessKey_f (a b : S27) : spec_LessKey.f a.f0 a.f1 a.f2 a.f3 a.f4 b.f0 b.f1 b.f2 b.f3 b.f4 = some (less a b) := by
 unfold spec_LessKey.f less
 split
 ·simp [*]
 ·simp [*]
theorem spec_SameSpot_f (a b : S27) : spec_SameSpot.f a.f0 a.f1 a.f2 a.f3 a.f4 b.f0 b.f1 b.f2 b.f3 b.f4 = some (same a b) := by
 unfold spec_SameSpot.f same
 split
 ·simp only [*, true_and, Option.some.injEq]; rw [Bool.eq_iff_iff]; simp
 ·simp [*]
theorem spec_SetPut_ev (l : List S27) (x : S27) (h : l.length ≤ 4194304) : Ev (fun k => spec_SetPut.f k l x.f0 x.f1 x.f2 x.f3 x.f4) (setPut l x) := by
 obtain ⟨K, hk⟩ := evRange0 (σ := List S27 × Bool) l.length (fun k s i => spec_SetPut.l0 k l s.1 s.2 i x.f0 x.f1 x.f2 x.f3 x.f4) (fun i s => s.1.length ≤ 2 * i) (fun i s => s.1 ++ putGo x (l.drop i) s.2) ([], false) (by simp)
  (by
   intro i s hi hs
   obtain ⟨out, put⟩ := s
   simp only at hs
   have hd := drop_getD l i z27 hi
   have hr : rd_T27 l (i : Int) = l.getD i z27 := by simp [rd_T27]
   refine .inl ⟨(out ++ (if put || less (l.getD i z27) x then [] else [x]) ++ (if same (l.getD i z27) x then [] else [l.getD i z27]), put || !less (l.getD i z27) x), ?_, ?_, 0, 2, fun k _ => ?_⟩
   ·simp only [List.length_append]; split <;> split <;> simp <;> omega
   ·simp only [hd, putGo, List.append_assoc]
   ·generalize hy : l.getD i z27 = y at *
    have hw := w64s i (by omega)
    have c1 : (i : Int) < (l.length : Int) := by omega
    have c2 : 0 ≤ (i : Int) := by omega
    simp only [spec_SetPut.l0, hr, spec_LessKey_f, Option.bind_some, spec_SetPut.j1, if_pos c1, if_pos c2]
    cases put <;> cases hl : less y x <;> cases hq : same y x <;>
     simp only [Bool.not_true, Bool.not_false, if_true, if_false, Bool.false_eq_true, reduceCtorEq, spec_SameSpot_f, Option.bind_some, hq, hw, Bool.or_true, Bool.true_or, Bool.or_false, Bool.false_or, List.append_nil, List.append_assoc] <;>
     (repeat rw [if_pos (by first | omega | (simp only [List.length_append, List.length_cons, List.length_nil]; omega))]) <;> rfl)
  (by
   intro s hs
   obtain ⟨out, put⟩ := s
   simp only at hs
   refine ⟨0, 1, fun k _ => ?_⟩
   simp only [spec_SetPut.l0]
   rw [if_neg (by omega)]
   cases put
   ·rw [if_neg (by simp), if_pos (by omega)]; simp [putGo]
   ·rw [if_pos rfl]; simp [putGo])
 exact ⟨K, fun k hk' => hk k hk'⟩
theorem spec_MergeSets_ev (a b : List S27) (h : a.length + b.length ≤ 4194304) : Ev (fun k => spec_MergeSets.f k a b) (mergeSets a b) := by
 obtain ⟨K, hk⟩ := evRange0 (σ := List S27) b.length (fun k s i => spec_MergeSets.l0 k b s i) (fun i s => s.length ≤ a.length + i) (fun i s => mergeSets s (b.drop i)) a (by simp)
  (by
   intro i s hi hs
   have hd := drop_getD b i z27 hi
   have hr : rd_T27 b (i : Int) = b.getD i z27 := by simp [rd_T27]
   obtain ⟨K, e⟩ := spec_SetPut_ev s (b.getD i z27) (by omega)
   have hlen := setPut_length s (b.getD i z27)
   refine .inl ⟨setPut s (b.getD i z27), by omega, by simp only [hd, mergeSets, List.foldl_cons], K, 1, fun k hk => ?_⟩
   simp only [spec_MergeSets.l0, hr, e k hk, Option.bind_some]
   rw [if_pos (by omega), if_pos (by omega), w64s i (by omega)])
  (by
   intro s hs
   refine ⟨0, 1, fun k _ => ?_⟩
   simp only [spec_MergeSets.l0]
   rw [if_neg (by omega)]
   simp [mergeSets])
 refine ⟨K, fun k hk' => ?_⟩
 simp only [spec_MergeSets.f, Option.bind_some, List.length_nil, List.nil_append]
 rw [if_pos (by omega)]
 exact hk k hk'
theorem spec_Drop_ev (l : List S27) (h : l.length ≤ 4194304) : Ev (fun k => spec_Drop.f k l) (dropNone l) := by
 obtain ⟨K, hk⟩ := evRange0 (σ := List S27) l.length (fun k s i => spec_Drop.l0 k l s i) (fun i s => s.length ≤ i) (fun i s => s ++ dropNone (l.drop i)) [] (by simp)
  (by
   intro i s hi hs
   have hd := drop_getD l i z27 hi
   have hr : rd_T27 l (i : Int) = l.getD i z27 := by simp [rd_T27]
   generalize l.getD i z27 = y at *
   by_cases h1 : y.f2 = 0
   ·refine .inl ⟨s, by omega, ?_, 0, 1, fun k _ => ?_⟩
    ·rw [hd, dropNone, dropNone, List.filter_cons_of_neg (by simp [h1])]
    ·simp only [spec_Drop.l0, hr]
     rw [if_pos (by omega), if_pos (by omega), if_pos h1, w64s i (by omega)]
   ·refine .inl ⟨s ++ [y], by simp; omega, ?_, 0, 1, fun k _ => ?_⟩
    ·rw [hd, dropNone, dropNone, List.filter_cons_of_pos (by simp [h1]), List.append_assoc]; rfl
    ·simp only [spec_Drop.l0, hr]
     rw [if_pos (by omega), if_pos (by omega), if_neg h1, if_pos (by omega), w64s i (by omega)])
  (by
   intro s _
   refine ⟨0, 1, fun k _ => ?_⟩
   simp only [spec_Drop.l0]
   rw [if_neg (by omega)]
   simp [dropNone])
 exact ⟨K, fun k hk' => hk k hk'⟩
def keyOk5 (a b c d e : Int) : Bool := decide (0 ≤ a ∧ a ≤ 15) && (decide (1 ≤ b ∧ b ≤ 60) && (decide (0 ≤ c ∧ c ≤ 2) && if c = 1 then decide (0 ≤ d ∧ d ≤ 23) && decide (0 ≤ e ∧ e ≤ 999) else decide (d = 0) && decide (e = 0)))
def keyOkB (x : S27) : Bool := keyOk5 x.f0 x.f1 x.f2 x.f3 x.f4
def risesAt (l : List S27) (j : Nat) : Bool := less (l.getD (j - 1) z27) (l.getD j z27)
def setOkB (l : List S27) : Bool := allFrom (fun j => keyOkB (l.getD j z27) && (j == 0 || risesAt l j)) l.length 0 && decide (l.length ≤ 60)
def countK : List (List S27) → Nat
 | [] => 0
 | l :: ls => l.length + countK ls
def nodeOkB (ls : List (List S27)) : Bool := allFrom (fun i => setOkB (ls.getD i []) && !decide ((ls.getD i []).length = 0)) ls.length 0 && (decide (ls.length ≤ 3) && decide (countK ls ≤ 8))
theorem countK_bulk : ∀ ls : List (List S27), countK ls ≤ bulkKeySS ls
 | [] => Nat.le_refl _
 | l :: ls => by have := countK_bulk ls; simp only [countK, bulkKeySS]; omega
theorem countK_drop (ls : List (List S27)) (i : Nat) (h : i < ls.length) : countK (ls.drop i) = (ls.getD i []).length + countK (ls.drop (i + 1)) := by
 rw [drop_getD ls i [] h]; rfl
def spotOf (a b : Int) : Int := wrap64 (wrap64 (64 * a) + b)
/-- The last low at most x, or -1: counted down from n. -/
def whereGo (l : List Int) (x : Int) : Nat → Int
 | 0 => -1
 | n + 1 => if l.getD n 0 ≤ x then (n : Int) else whereGo l x n
def mergeAll (s : List S27) (ls : List (List S27)) : List S27 := ls.foldl mergeSets s
def nodeKeys (ls : List (List S27)) : List S27 := dropNone (mergeAll [] ls)
theorem mergeAll_length : ∀ (ls : List (List S27)) (s : List S27), (mergeAll s ls).length ≤ s.length + countK ls
 | [], s => by simp [mergeAll]
 | l :: ls, s => by
  have h1 := mergeAll_length ls (mergeSets s l)
  have h2 := mergeSets_length s l
  simp only [mergeAll, List.foldl_cons, countK] at *
  omega
theorem dropNone_length (l : List S27) : (dropNone l).length ≤ l.length := List.length_filter_le _ _
theorem nodeKeys_length (ls : List (List S27)) : (nodeKeys ls).length ≤ countK ls := by
 have h1 := mergeAll_length ls []
 have h2 := dropNone_length (mergeAll [] ls)
 simp only [List.length_nil] at h1
 unfold nodeKeys
 omega
def inBoundsB (lows : List Int) (i : Nat) (ls : List (List S27)) : Bool := ls.all fun l => l.all fun x => decide (lows.getD i 0 ≤ spotOf x.f0 x.f1) && !(decide (i + 1 < lows.length) && decide (lows.getD (i + 1) 0 ≤ spotOf x.f0 x.f1))
theorem spec_NodeKeys_ev (ls : List (List S27)) (ho : okKeySS ls) : Ev (fun k => spec_NodeKeys.f k ls) (nodeKeys ls) := by
 have h := okKeySS_len ho
 have hb := countK_bulk ls
 have hbb : bulkKeySS ls ≤ 4194304 := ho
 obtain ⟨K, hk⟩ := evRange0 (σ := List S27) ls.length (fun k s i => spec_NodeKeys.l0 k s i ls) (fun i s => s.length + countK (ls.drop i) ≤ countK ls) (fun i s => dropNone (mergeAll s (ls.drop i))) [] (by simp)
  (by
   intro i s hi hs
   have hd := drop_getD ls i [] hi
   have hr : rd_L2 ls (i : Int) = ls.getD i [] := by simp [rd_L2]
   rw [countK_drop ls i hi] at hs
   obtain ⟨K, e⟩ := spec_MergeSets_ev s (ls.getD i []) (by omega)
   have hl := mergeSets_length s (ls.getD i [])
   refine .inl ⟨mergeSets s (ls.getD i []), by omega, by rw [hd]; rfl, K, 1, fun k hk => ?_⟩
   have e1 := e k hk
   simp only at e1
   simp only [spec_NodeKeys.l0, hr, e1, Option.bind_some]
   rw [if_pos (by omega), if_pos (by omega), w64s i (by omega)])
  (by
   intro s hs
   simp only [List.drop_length, countK] at hs
   obtain ⟨K, e⟩ := spec_Drop_ev s (by omega)
   refine ⟨K, 1, fun k hk => ?_⟩
   have e1 := e k hk
   simp only at e1
   simp only [spec_NodeKeys.l0, e1, Option.bind_some]
   rw [if_neg (by omega)]
   simp [mergeAll])
 exact ⟨K, fun k hk' => hk k hk'⟩
def keysN (n : List S32) : Nat → S32 := fun i => n.getD i z32
def sumKeysN : List S32 → Nat
 | [] => 0
 | x :: xs => (nodeKeys x.f0).length + sumKeysN xs
def treeKeys : List S32 → List S27
 | [] => []
 | x :: xs => nodeKeys x.f0 ++ treeKeys xs
theorem treeKeys_length : ∀ n : List S32, (treeKeys n).length = sumKeysN n
 | [] => rfl
 | x :: xs => by have := treeKeys_length xs; simp only [treeKeys, sumKeysN, List.length_append]; omega
theorem sumKeysN_bulk : ∀ n : List S32, sumKeysN n ≤ bulkNodeS n
 | [] => Nat.le_refl _
 | x :: xs => by
  have h1 := sumKeysN_bulk xs
  have h2 := nodeKeys_length x.f0
  have h3 := countK_bulk x.f0
  simp only [sumKeysN, bulkNodeS]
  omega
theorem treeKeys_drop (n : List S32) (i : Nat) (h : i < n.length) : treeKeys (n.drop i) = nodeKeys (n.getD i z32).f0 ++ treeKeys (n.drop (i + 1)) := by
 rw [drop_getD n i z32 h]; rfl
theorem sumKeysN_drop (n : List S32) (i : Nat) (h : i < n.length) : sumKeysN (n.drop i) = (nodeKeys (n.getD i z32).f0).length + sumKeysN (n.drop (i + 1)) := by
 rw [drop_getD n i z32 h]; rfl
def nodeFits (lows : List Int) (i : Nat) (x : S32) : Bool := nodeOkB x.f0 && ((i == 0 || !decide ((nodeKeys x.f0).length = 0)) && inBoundsB lows i x.f0)
def treeOkB (lows : List Int) (n : List S32) : Bool :=
 if 1 ≤ (n.length : Int) ∧ (n.length : Int) ≤ 20 then if lows.length = n.length then if lows.getD 0 0 = 0 then
  allFrom (fun i => (i == 0 || decide (lows.getD (i - 1) 0 < lows.getD i 0)) && nodeFits lows i (n.getD i z32)) n.length 0 && decide (sumKeysN n ≤ 60)
 else false else false else false
theorem spec_TreeKeys_ev (l : List Int) (n : List S32) (ho : okNodeS n) : Ev (fun k => spec_TreeKeys.f k l n) (treeKeys n) := by
 have h := okNodeS_len ho
 have hb := sumKeysN_bulk n
 have hbb : bulkNodeS n ≤ 4194304 := ho
 obtain ⟨K, hk⟩ := evRange0 (σ := List S27) n.length (fun k s i => spec_TreeKeys.l0 k s i l n) (fun i s => s.length + sumKeysN (n.drop i) ≤ sumKeysN n) (fun i s => s ++ treeKeys (n.drop i)) [] (by simp)
  (by
   intro i s hi hs
   have hr : rd_T32 n (i : Int) = n.getD i z32 := by simp [rd_T32]
   rw [sumKeysN_drop n i hi] at hs
   obtain ⟨K, e⟩ := spec_NodeKeys_ev (n.getD i z32).f0 (okNodeS_at ho i hi)
   refine .inl ⟨s ++ nodeKeys (n.getD i z32).f0, by simp only [List.length_append]; omega, by rw [treeKeys_drop n i hi, List.append_assoc], K, 1, fun k hk => ?_⟩
   have e1 := e k hk
   simp only at e1
   simp only [spec_TreeKeys.l0, hr, e1, Option.bind_some]
   rw [if_pos (by omega), if_pos (by omega), if_pos (by omega), w64s i (by omega)])
  (by
   intro s hs
   refine ⟨0, 1, fun k _ => ?_⟩
   simp only [spec_TreeKeys.l0]
   rw [if_neg (by omega)]
   simp [treeKeys])
 exact ⟨K, fun k hk' => hk k hk'⟩
theorem spec_l1In_f (a b c : Int) : spec_l1In.f a b c = some (decide (b ≤ a ∧ a ≤ c)) := by
 unfold spec_l1In.f
 by_cases h : a ≥ b
 ·rw [if_pos h]; congr 1; rw [Bool.eq_iff_iff]; simp; omega
 ·rw [if_neg h]; congr 1; rw [Bool.eq_iff_iff]; simp; omega
theorem spec_KeyOk_ev (a b c d e : Int) : Ev (fun k => spec_KeyOk.f k a b c d e) (keyOk5 a b c d e) := by
 refine evSucc ⟨0, 1, fun k _ => ?_⟩
 simp only [spec_KeyOk.f, spec_l1In_f, Option.bind_some, spec_KeyOk.j0, keyOk5]
 cases h0 : decide (0 ≤ a ∧ a ≤ 15) <;> cases h1 : decide (1 ≤ b ∧ b ≤ 60) <;> cases h2 : decide (0 ≤ c ∧ c ≤ 2) <;> simp only [Bool.false_and, Bool.true_and, Bool.false_eq_true, if_true, if_false, Bool.not_true, Bool.not_false]
 by_cases h3 : c = 1
 ·rw [if_pos h3, if_pos h3]
  cases h4 : decide (0 ≤ d ∧ d ≤ 23) <;> simp only [Bool.false_and, Bool.true_and, Bool.false_eq_true, if_true, if_false]
 ·rw [if_neg h3, if_neg h3]
  by_cases h4 : d = 0
  ·rw [if_pos h4]; simp [h4]; rw [Bool.eq_iff_iff]; simp
  ·rw [if_neg h4]; simp [h4]
theorem spec_l4Rises_ev (l : List S27) (h : l.length ≤ 4194304) : Ev (fun k => spec_l4Rises.f k l) (allFrom (risesAt l) l.length 1) := by
 by_cases h0 : l.length = 0
 ·refine evSucc ⟨0, 1, fun k _ => ?_⟩
  simp only [spec_l4Rises.f, spec_l4Rises.l0]
  rw [if_neg (by omega)]
  simp [allFrom, h0]
 have := evAll l.length (fun k i => spec_l4Rises.l0 k l (if i = 0 then 1 else i)) (fun j => j == 0 || risesAt l j) true
  (by
   intro i hi
   by_cases hz : i = 0
   ·subst hz
    exact ⟨0, 0, fun k _ => by simp⟩
   have hr : rd_T27 l (i : Int) = l.getD i z27 := by simp [rd_T27]
   have hw := w64s i (by omega)
   have hw1 : wrap64 ((i : Int) - 1) = ((i - 1 : Nat) : Int) := by rw [w64 (by omega) (by omega)]; omega
   have hr1 : rd_T27 l ((i - 1 : Nat) : Int) = l.getD (i - 1) z27 := by simp [rd_T27]
   refine ⟨0, 1, fun k _ => ?_⟩
   rw [if_neg (show ¬ (i : Int) = 0 by omega), if_neg (show ¬ ((i + 1 : Nat) : Int) = 0 by omega)]
   simp only [spec_l4Rises.l0]
   rw [if_pos (by omega), hw1, if_pos (by omega), if_pos (by omega), if_pos (by omega), hr, hr1, spec_LessKey_f, hw]
   simp only [Option.bind_some, beq_eq_false_iff_ne.mpr hz, Bool.false_or]
   rfl)
  (by
   refine ⟨0, 1, fun k _ => ?_⟩
   rw [if_neg (show ¬ (l.length : Int) = 0 by omega)]
   simp only [spec_l4Rises.l0]
   rw [if_neg (by omega)]) 1 (by omega)
 obtain ⟨K, hk⟩ := this
 refine ⟨K, fun k hk' => ?_⟩
 have e := hk k hk'
 simp only [Bool.and_true] at e
 have e2 : allFrom (fun j => j == 0 || risesAt l j) l.length 1 = allFrom (risesAt l) l.length 1 := by
  rw [Bool.eq_iff_iff, allFrom_iff, allFrom_iff]
  constructor
  ·intro hh j h1 h2; have := hh j h1 h2; simp only [Bool.or_eq_true, beq_iff_eq] at this; rcases this with h | h; omega; exact h
  ·intro hh j h1 h2; simp [hh j h1 h2]
 rw [e2] at e
 rw [← e]
 rfl
theorem spec_SetOk_ev (l : List S27) (h : l.length ≤ 4194304) : Ev (fun k => spec_SetOk.f k l) (setOkB l) := by
 obtain ⟨K0, e0⟩ := spec_l4Rises_ev l h
 have := evAll l.length (fun k i => spec_SetOk.l0 k l i) (fun j => keyOkB (l.getD j z27)) (allFrom (risesAt l) l.length 1 && decide (l.length ≤ 60))
  (by
   intro i hi
   have hr : rd_T27 l (i : Int) = l.getD i z27 := by simp [rd_T27]
   obtain ⟨K, e⟩ := spec_KeyOk_ev (l.getD i z27).f0 (l.getD i z27).f1 (l.getD i z27).f2 (l.getD i z27).f3 (l.getD i z27).f4
   refine ⟨K, 1, fun k hk => ?_⟩
   have e1 : spec_KeyOk.f k (l.getD i z27).f0 (l.getD i z27).f1 (l.getD i z27).f2 (l.getD i z27).f3 (l.getD i z27).f4 = some (keyOkB (l.getD i z27)) := e k hk
   simp only [spec_SetOk.l0, hr, e1, Option.bind_some]
   rw [if_pos (by omega), if_pos (by omega), w64s i (by omega)])
  (by
   refine ⟨K0, 1, fun k hk => ?_⟩
   have e1 : spec_l4Rises.f k l = some (allFrom (risesAt l) l.length 1) := e0 k hk
   simp only [spec_SetOk.l0, e1, Option.bind_some]
   rw [if_neg (by omega)]
   have e2 : decide ((l.length : Int) ≤ 60) = decide (l.length ≤ 60) := by rw [Bool.eq_iff_iff]; simp; omega
   cases allFrom (risesAt l) l.length 1 <;> simp [e2]) 0 (Nat.zero_le _)
 obtain ⟨K, hk⟩ := this
 refine ⟨K, fun k hk' => ?_⟩
 have e := hk k hk'
 simp only [Int.natCast_zero] at e
 show spec_SetOk.l0 k l 0 = _
 have e' : spec_SetOk.l0 k l 0 = some (allFrom (fun j => keyOkB (l.getD j z27)) l.length 0 && (allFrom (risesAt l) l.length 1 && decide (l.length ≤ 60))) := e
 rw [e', setOkB, ← Bool.and_assoc]
 congr 2
 rw [Bool.eq_iff_iff, Bool.and_eq_true, allFrom_iff, allFrom_iff, allFrom_iff]
 constructor
 ·rintro ⟨h1, h2⟩ j hj hlt
  rw [h1 j hj hlt, Bool.true_and]
  by_cases hz : j = 0
  ·simp [hz]
  ·rw [h2 j (by omega) hlt, Bool.or_true]
 ·intro h
  refine ⟨fun j hj hlt => ?_, fun j hj hlt => ?_⟩
  ·have := h j hj hlt; simp only [Bool.and_eq_true] at this; exact this.1
  ·have := h j (by omega) hlt; simp only [Bool.and_eq_true, Bool.or_eq_true, beq_iff_eq] at this; rcases this.2 with h | h; omega; exact h
theorem spec_l5Count_ev (ls : List (List S27)) (ho : okKeySS ls) : Ev (fun k => spec_l5Count.f k ls) ((countK ls : Nat) : Int) := by
 have h := okKeySS_len ho
 have hb := countK_bulk ls
 unfold okKeySS at ho
 obtain ⟨K, hk⟩ := evRange0 (σ := Int) ls.length (fun k s i => spec_l5Count.l0 k s i ls) (fun i s => s + (countK (ls.drop i) : Nat) = (countK ls : Nat) ∧ 0 ≤ s) (fun _ _ => ((countK ls : Nat) : Int)) 0 (by simp)
  (by
   rintro i s hi ⟨hs, h0⟩
   have hr : rd_L2 ls (i : Int) = ls.getD i [] := by simp [rd_L2]
   rw [countK_drop ls i hi] at hs
   refine .inl ⟨s + ((ls.getD i []).length : Int), ⟨by omega, by omega⟩, rfl, 0, 1, fun k _ => ?_⟩
   simp only [spec_l5Count.l0, hr]
   rw [if_pos (by omega), if_pos (by omega), w64 (by omega) (by omega), w64s i (by omega)])
  (by
   rintro s ⟨hs, h0⟩
   refine ⟨0, 1, fun k _ => ?_⟩
   simp only [spec_l5Count.l0]
   rw [if_neg (by omega)]
   simp only [List.drop_length, countK] at hs
   congr 1; omega)
 exact ⟨K, fun k hk' => hk k hk'⟩
theorem spec_NodeOk_ev (ls : List (List S27)) (ho : okKeySS ls) : Ev (fun k => spec_NodeOk.f k ls) (nodeOkB ls) := by
 have h := okKeySS_len ho
 obtain ⟨K0, e0⟩ := spec_l5Count_ev ls ho
 have := evAll ls.length (fun k i => spec_NodeOk.l0 k i ls) (fun i => setOkB (ls.getD i []) && !decide ((ls.getD i []).length = 0)) (decide (ls.length ≤ 3) && decide (countK ls ≤ 8))
  (by
   intro i hi
   have hr : rd_L2 ls (i : Int) = ls.getD i [] := by simp [rd_L2]
   obtain ⟨K, e⟩ := spec_SetOk_ev (ls.getD i []) (okKeySS_at ho i hi)
   refine ⟨K, 1, fun k hk => ?_⟩
   have e1 := e k hk
   simp only at e1
   simp only [spec_NodeOk.l0, hr, e1, Option.bind_some]
   rw [if_pos (by omega), if_pos (by omega), w64s i (by omega)]
   generalize ls.getD i [] = y at *
   cases hq : setOkB y with
   | false => simp only [Bool.false_and, Bool.false_eq_true, if_false]
   | true =>
    simp only [Bool.true_and, if_true]
    by_cases c : y.length = 0
    ·rw [if_pos (by omega)]; simp [c]
    ·rw [if_neg (by omega)]; simp [c])
  (by
   refine ⟨K0, 1, fun k hk => ?_⟩
   have e1 := e0 k hk
   simp only at e1
   simp only [spec_NodeOk.l0, e1, Option.bind_some]
   rw [if_neg (by omega)]
   by_cases c : ls.length ≤ 3
   ·rw [if_pos (by omega)]
    congr 1
    rw [Bool.eq_iff_iff]; simp [c]; omega
   ·rw [if_neg (by omega)]; simp [c]) 0 (Nat.zero_le _)
 obtain ⟨K, hk⟩ := this
 exact ⟨K, fun k hk' => hk k hk'⟩
theorem spec_l6Node_l1 (lows : List Int) (n : List S32) (ls : List (List S27)) (hls : ls.length ≤ 4194304) (hlo : lows.length ≤ 4194304) (p : Nat) (hp : p < lows.length) (q : Nat) (hq : q < ls.length) (l : List S27) (hl : l.length ≤ 4194304) (b : Bool) (hrl : rd_L2 ls (q : Int) = l)
  (hnext : Ev (fun k => spec_l6Node.l0 k (p : Int) ((q + 1 : Nat) : Int) lows n ls) b) :
  Ev (fun k => spec_l6Node.l1 k (p : Int) (q : Int) 0 lows n ls) ((l.all fun x => decide (lows.getD p 0 ≤ spotOf x.f0 x.f1) && !(decide (p + 1 < lows.length) && decide (lows.getD (p + 1) 0 ≤ spotOf x.f0 x.f1))) && b) := by
 obtain ⟨K0, e0⟩ := hnext
 obtain ⟨K, hk⟩ := evRange0 (σ := Unit) l.length (fun k _ i => spec_l6Node.l1 k (p : Int) (q : Int) i lows n ls) (fun _ _ => True)
  (fun i _ => ((l.drop i).all fun x => decide (lows.getD p 0 ≤ spotOf x.f0 x.f1) && !(decide (p + 1 < lows.length) && decide (lows.getD (p + 1) 0 ≤ spotOf x.f0 x.f1))) && b) () trivial
  (by
   intro i _ hi _
   have hd := drop_getD l i z27 hi
   have hr : rd_T27 l (i : Int) = l.getD i z27 := by simp [rd_T27]
   generalize l.getD i z27 = y at *
   have hsp : wrap64 (wrap64 (64 * y.f0) + y.f1) = spotOf y.f0 y.f1 := rfl
   have hp1 := w64s p (by omega)
   by_cases c1 : lows.getD p 0 ≤ spotOf y.f0 y.f1
   ·by_cases c2 : p + 1 < lows.length ∧ lows.getD (p + 1) 0 ≤ spotOf y.f0 y.f1
    ·refine .inr ⟨0, 1, fun k _ => ?_⟩
     simp only [spec_l6Node.l1, hrl, hr, spec_l6Spot.f, spec_SpotOf.f, Option.bind_some, hsp, rd_nat, hp1]
     rw [if_pos (by omega), if_pos (by omega), if_pos (by omega), if_pos (by omega), if_pos (by omega), if_pos (by omega), if_neg (by omega), if_pos (by omega), if_pos (by omega), if_pos c2.2, hd, List.all_cons, decide_eq_true c2.1, decide_eq_true c2.2, Bool.and_true, Bool.not_true, Bool.and_false, Bool.false_and, Bool.false_and]
    ·refine .inl ⟨(), trivial, ?_, 0, 1, fun k _ => ?_⟩
     ·rw [hd, List.all_cons]
      have e : (decide (p + 1 < lows.length) && decide (lows.getD (p + 1) 0 ≤ spotOf y.f0 y.f1)) = false := by rw [← Bool.decide_and]; simpa using c2
      rw [e, decide_eq_true c1]; rfl
     ·simp only [spec_l6Node.l1, hrl, hr, spec_l6Spot.f, spec_SpotOf.f, Option.bind_some, hsp, rd_nat, hp1]
      rw [if_pos (by omega), if_pos (by omega), if_pos (by omega), if_pos (by omega), if_pos (by omega), if_pos (by omega), if_neg (by omega), w64s i (by omega)]
      by_cases c3 : p + 1 < lows.length
      ·rw [if_pos (by omega), if_pos (by omega), if_neg (fun h => c2 ⟨c3, h⟩)]
      ·rw [if_neg (by omega)]
   ·refine .inr ⟨0, 1, fun k _ => ?_⟩
    simp only [spec_l6Node.l1, hrl, hr, spec_l6Spot.f, spec_SpotOf.f, Option.bind_some, hsp, rd_nat, hp1]
    rw [if_pos (by omega), if_pos (by omega), if_pos (by omega), if_pos (by omega), if_pos (by omega), if_pos (by omega), if_pos (by omega), hd, List.all_cons, decide_eq_false c1]
    rfl)
  (by
   intro _ _
   refine ⟨K0, 1, fun k hk => ?_⟩
   have e1 := e0 k hk
   simp only at e1
   simp only [spec_l6Node.l1, hrl]
   rw [if_pos (by omega), if_pos (by omega), if_neg (by omega), w64s q (by omega), e1]
   simp)
 exact ⟨K, fun k hk' => hk k hk'⟩
theorem spec_l6Node_l0 (lows : List Int) (n : List S32) (ls : List (List S27)) (ho : okKeySS ls) (hlo : lows.length ≤ 4194304) (p : Nat) (hp : p < lows.length) :
  ∀ (d q : Nat), ls.length - q = d → q ≤ ls.length → Ev (fun k => spec_l6Node.l0 k (p : Int) (q : Int) lows n ls) (inBoundsB lows p (ls.drop q)) := by
 have hls := okKeySS_len ho
 intro d
 induction d with
 | zero =>
  intro q hd hq
  obtain rfl : q = ls.length := by omega
  refine evSucc ⟨0, 1, fun k _ => ?_⟩
  simp only [spec_l6Node.l0]
  rw [if_neg (by omega)]
  simp [inBoundsB]
 | succ d ih =>
  intro q hd hq
  have hlt : q < ls.length := by omega
  have hr : rd_L2 ls (q : Int) = ls.getD q [] := by simp [rd_L2]
  have ho1 : (ls.getD q []).length ≤ 4194304 := okKeySS_at ho q hlt
  obtain ⟨K, e⟩ := spec_l6Node_l1 lows n ls hls hlo p hp q hlt (ls.getD q []) ho1 _ hr (ih (q + 1) (by omega) (by omega))
  refine evSucc ⟨K, 1, fun k hk => ?_⟩
  have e1 := e k hk
  simp only at e1
  simp only [spec_l6Node.l0]
  rw [if_pos (by omega), e1, drop_getD ls q [] hlt]
  rfl
theorem spec_l6Node_ev (lows : List Int) (n : List S32) (p : Nat) (hp : p < n.length) (hl : lows.length = n.length) (ho : okNodeS n) : Ev (fun k => spec_l6Node.f k lows n (p : Int)) (nodeFits lows p (n.getD p z32)) := by
 have hn := okNodeS_len ho
 have hr : rd_T32 n (p : Int) = n.getD p z32 := by simp [rd_T32]
 have ho1 := okNodeS_at ho p hp
 generalize n.getD p z32 = y at *
 obtain ⟨K, e⟩ := spec_l6Node_l0 lows n y.f0 ho1 (by omega) p (by omega) _ 0 rfl (Nat.zero_le _)
 obtain ⟨K2, e2⟩ := spec_NodeOk_ev y.f0 ho1
 obtain ⟨K3, e3⟩ := spec_NodeKeys_ev y.f0 ho1
 refine evSucc ⟨K + K2 + K3, 1, fun k hk => ?_⟩
 have a1 : spec_l6Node.l0 k (p : Int) 0 lows n y.f0 = some (inBoundsB lows p y.f0) := e k (by omega)
 have a2 := e2 (k + 1) (by omega)
 have a3 := e3 (k + 1) (by omega)
 simp only at a2 a3
 simp only [spec_l6Node.f, hr, a2, a3, Option.bind_some, spec_l6Node.j0, a1]
 rw [if_pos (by omega), if_pos (by omega)]
 unfold nodeFits
 cases nodeOkB y.f0 with
 | false => simp only [Bool.false_eq_true, if_false, if_true, Bool.false_and]
 | true =>
  simp only [if_true, Bool.true_and]
  by_cases c : p = 0
  ·subst c
   rw [if_neg (by omega)]
   simp
  ·rw [if_pos (by omega)]
   by_cases c2 : (nodeKeys y.f0).length = 0
   ·simp [c, c2]
   ·have e4 : (((nodeKeys y.f0).length : Int) == 0) = false := by rw [beq_eq_false_iff_ne]; omega
    simp only [e4, Bool.false_eq_true, if_false]
    simp [c, c2]
theorem spec_TreeOk_ev (lows : List Int) (n : List S32) (h1 : okIntS lows) (ho : okNodeS n) : Ev (fun k => spec_TreeOk.f k lows n) (treeOkB lows n) := by
 have hn := okNodeS_len ho
 have hl : lows.length ≤ 4194304 := h1
 have hb := sumKeysN_bulk n
 have hbb : bulkNodeS n ≤ 4194304 := ho
 unfold treeOkB
 by_cases c1 : 1 ≤ (n.length : Int) ∧ (n.length : Int) ≤ 20
 ·by_cases c2 : lows.length = n.length
  ·by_cases c3 : lows.getD 0 0 = 0
   ·rw [if_pos c1, if_pos c2, if_pos c3]
    obtain ⟨K0, e0⟩ := spec_TreeKeys_ev lows n ho
    have := evAll n.length (fun k i => spec_TreeOk.l0 k i lows n) (fun i => (i == 0 || decide (lows.getD (i - 1) 0 < lows.getD i 0)) && nodeFits lows i (n.getD i z32)) (decide (sumKeysN n ≤ 60))
     (by
      intro i hi
      obtain ⟨K, e⟩ := spec_l6Node_ev lows n i hi c2 ho
      refine ⟨K, 1, fun k hk => ?_⟩
      have e1 := e k hk
      simp only at e1
      simp only [spec_TreeOk.l0, e1, Option.bind_some, rd_nat, w64s i (by omega)]
      rw [if_pos (by omega)]
      by_cases hz : i = 0
      ·subst hz
       rw [if_neg (by omega)]
       simp only [beq_self_eq_true, Bool.true_or, Bool.true_and]
      ·have hw1 : wrap64 ((i : Int) - 1) = ((i - 1 : Nat) : Int) := by rw [w64 (by omega) (by omega)]; omega
       rw [if_pos (by omega), hw1, if_pos (by omega), if_pos (by omega), if_pos (by omega), if_pos (by omega), rd_nat, beq_eq_false_iff_ne.mpr hz, Bool.false_or]
       by_cases c : lows.getD (i - 1) 0 < lows.getD i 0
       ·rw [if_neg (by omega), decide_eq_true c, Bool.true_and]
       ·rw [if_pos (by omega), decide_eq_false c, Bool.false_and]; rfl)
     (by
      refine ⟨K0, 1, fun k hk => ?_⟩
      have e1 := e0 k hk
      simp only at e1
      simp only [spec_TreeOk.l0, e1, Option.bind_some, treeKeys_length]
      rw [if_neg (by omega)]
      congr 1; rw [Bool.eq_iff_iff]; simp; omega) 0 (Nat.zero_le _)
    obtain ⟨K, hk⟩ := this
    refine evSucc ⟨K, 1, fun k hk' => ?_⟩
    have e := hk k hk'
    have hz : rd lows 0 = lows.getD 0 0 := rfl
    simp only [spec_TreeOk.f, spec_l1In_f, Option.bind_some, hz, c3, bne_self_eq_false, spec_TreeOk.j0, Bool.false_eq_true, if_false]
    rw [if_pos (by simpa using c1), if_pos (by omega), if_pos (by omega)]
    exact e
   ·rw [if_pos c1, if_pos c2, if_neg c3]
    refine evSucc ⟨0, 1, fun k hk' => ?_⟩
    have hz : rd lows 0 = lows.getD 0 0 := rfl
    have hb : (lows.getD 0 0 != 0) = true := by simpa using c3
    simp only [spec_TreeOk.f, spec_l1In_f, Option.bind_some, hz, hb, spec_TreeOk.j0, if_true]
    rw [if_pos (by simpa using c1), if_pos (by omega), if_pos (by omega)]
  ·rw [if_pos c1, if_neg c2]
   refine evSucc ⟨0, 1, fun k hk' => ?_⟩
   simp only [spec_TreeOk.f, spec_l1In_f, Option.bind_some, spec_TreeOk.j0, if_true]
   rw [if_pos (by simpa using c1), if_neg (by omega)]
 ·rw [if_neg c1]
  refine evSucc ⟨0, 1, fun k hk' => ?_⟩
  simp only [spec_TreeOk.f, spec_l1In_f, Option.bind_some, spec_TreeOk.j0, if_true]
  rw [if_neg (by simpa using c1)]
theorem impl_within_f (a b c : Int) : impl_within.f a b c = some (decide (b ≤ a ∧ a ≤ c)) := by
 unfold impl_within.f
 by_cases h : a ≥ b
 ·rw [if_pos h]; congr 1; rw [Bool.eq_iff_iff]; simp; omega
 ·rw [if_neg h]; congr 1; rw [Bool.eq_iff_iff]; simp; omega
theorem impl_KeyOk_ev (a b c d e : Int) : Ev (fun k => impl_KeyOk.f k a b c d e) (keyOk5 a b c d e) := by
 refine evSucc ⟨0, 1, fun k _ => ?_⟩
 simp only [impl_KeyOk.f, impl_within_f, Option.bind_some, impl_KeyOk.j0, keyOk5]
 cases h0 : decide (0 ≤ a ∧ a ≤ 15) <;> cases h1 : decide (1 ≤ b ∧ b ≤ 60) <;> cases h2 : decide (0 ≤ c ∧ c ≤ 2) <;> simp only [Bool.false_and, Bool.true_and, Bool.false_eq_true, if_true, if_false, Bool.not_true, Bool.not_false]
 by_cases h3 : c = 1
 ·rw [if_pos h3, if_pos h3]
  cases h4 : decide (0 ≤ d ∧ d ≤ 23) <;> simp only [Bool.false_and, Bool.true_and, Bool.false_eq_true, if_true, if_false]
 ·rw [if_neg h3, if_neg h3]
  by_cases h4 : d = 0
  ·rw [if_pos h4]; simp [h4]; rw [Bool.eq_iff_iff]; simp
  ·rw [if_neg h4]; simp [h4]
theorem impl_LessKey_f (a b : S27) : impl_LessKey.f a.f0 a.f1 a.f2 a.f3 a.f4 b.f0 b.f1 b.f2 b.f3 b.f4 = some (less a b) := by
 unfold impl_LessKey.f less
 split
 ·simp [*]
 ·split
  ·simp [*]
  ·simp [*]
theorem impl_SetOk_ev (l : List S27) (h : l.length ≤ 4194304) : Ev (fun k => impl_SetOk.f k l) (setOkB l) := by
 have := evAll l.length (fun k i => impl_SetOk.l0 k l l (l.length : Int) i) (fun j => keyOkB (l.getD j z27) && (j == 0 || risesAt l j)) (decide (l.length ≤ 60))
  (by
   intro i hi
   have hr : rd_T27 l (i : Int) = l.getD i z27 := by simp [rd_T27]
   obtain ⟨K, e⟩ := impl_KeyOk_ev (l.getD i z27).f0 (l.getD i z27).f1 (l.getD i z27).f2 (l.getD i z27).f3 (l.getD i z27).f4
   refine ⟨K, 1, fun k hk => ?_⟩
   have e1 : impl_KeyOk.f k (l.getD i z27).f0 (l.getD i z27).f1 (l.getD i z27).f2 (l.getD i z27).f3 (l.getD i z27).f4 = some (keyOkB (l.getD i z27)) := e k hk
   have hra : risesAt l i = less (l.getD (i - 1) z27) (l.getD i z27) := rfl
   simp only [impl_SetOk.l0, hr, e1, Option.bind_some]
   rw [if_pos (by omega), if_pos (by omega), if_pos (by omega)]
   have hw := w64s i (by omega)
   generalize l.getD i z27 = y at *
   cases hq : keyOkB y with
   | false => simp only [Bool.false_and, Bool.false_eq_true, if_false]
   | true =>
    simp only [Bool.true_and, if_true]
    by_cases hz : i = 0
    ·subst hz; rw [if_neg (by omega), hw]; rfl
    ·have hw1 : wrap64 ((i : Int) - 1) = ((i - 1 : Nat) : Int) := by rw [w64 (by omega) (by omega)]; omega
     have hr1 : rd_T27 l ((i - 1 : Nat) : Int) = l.getD (i - 1) z27 := by simp [rd_T27]
     rw [if_pos (by omega), hw1, if_pos (by omega), if_pos (by omega), hr1, impl_LessKey_f, hw, hra]
     simp only [Option.bind_some, beq_iff_eq, hz, Bool.false_or, beq_eq_false_iff_ne.mpr hz])
  (by
   refine ⟨0, 1, fun k _ => ?_⟩
   simp only [impl_SetOk.l0]
   rw [if_neg (by omega)]
   congr 1; rw [Bool.eq_iff_iff]; simp; omega) 0 (Nat.zero_le _)
 obtain ⟨K, hk⟩ := this
 exact ⟨K, fun k hk' => hk k hk'⟩
theorem impl_NodeOk_ev (ls : List (List S27)) (ho : okKeySS ls) : Ev (fun k => impl_NodeOk.f k ls) (nodeOkB ls) := by
 have h := okKeySS_len ho
 have hb := countK_bulk ls
 have hbb : bulkKeySS ls ≤ 4194304 := ho
 obtain ⟨K, hk⟩ := evRange0 (σ := Int) ls.length (fun k s i => impl_NodeOk.l0 k s ls (ls.length : Int) i ls) (fun i s => s + (countK (ls.drop i) : Nat) = (countK ls : Nat) ∧ 0 ≤ s)
  (fun i _ => allFrom (fun i => setOkB (ls.getD i []) && !decide ((ls.getD i []).length = 0)) ls.length i && (decide (ls.length ≤ 3) && decide (countK ls ≤ 8))) 0 (by simp)
  (by
   rintro i s hi ⟨hs, h0⟩
   have hr : rd_L2 ls (i : Int) = ls.getD i [] := by simp [rd_L2]
   obtain ⟨K, e⟩ := impl_SetOk_ev (ls.getD i []) (okKeySS_at ho i hi)
   rw [countK_drop ls i hi] at hs
   cases hq : setOkB (ls.getD i []) && !decide ((ls.getD i []).length = 0) with
   | false =>
    refine .inr ⟨K, 1, fun k hk => ?_⟩
    have e1 := e k hk
    simp only at e1
    simp only [impl_NodeOk.l0, hr, e1, Option.bind_some]
    rw [if_pos (by omega), if_pos (by omega), if_pos (by omega), allFrom_lt hi, hq, Bool.false_and, Bool.false_and]
    generalize ls.getD i [] = y at *
    cases hq2 : setOkB y with
    | false => simp only [Bool.false_eq_true, if_false]
    | true =>
     rw [hq2] at hq
     simp only [Bool.true_and, Bool.not_eq_false', decide_eq_true_eq] at hq
     simp only [if_true]
     rw [if_pos (by omega)]
   | true =>
    refine .inl ⟨s + ((ls.getD i []).length : Int), ⟨by omega, by omega⟩, by rw [allFrom_lt hi, hq, Bool.true_and], K, 1, fun k hk => ?_⟩
    have e1 := e k hk
    simp only at e1
    simp only [impl_NodeOk.l0, hr, e1, Option.bind_some]
    rw [if_pos (by omega), if_pos (by omega), if_pos (by omega), w64s i (by omega)]
    generalize ls.getD i [] = y at *
    simp only [Bool.and_eq_true, Bool.not_eq_true', decide_eq_false_iff_not] at hq
    rw [if_pos hq.1, if_neg (by omega), w64 (by omega) (by omega)])
  (by
   rintro s ⟨hs, h0⟩
   refine ⟨0, 1, fun k _ => ?_⟩
   simp only [List.drop_length, countK] at hs
   simp only [impl_NodeOk.l0, allFrom_end, Bool.true_and]
   rw [if_neg (by omega)]
   by_cases c : ls.length ≤ 3
   ·rw [if_pos (by omega)]
    congr 1
    rw [Bool.eq_iff_iff]; simp [c]; omega
   ·rw [if_neg (by omega)]; simp [c])
 exact ⟨K, fun k hk' => hk k hk'⟩
theorem impl_copyKeys_f (a : List S27) (h : a.length ≤ 4194304) : impl_copyKeys.f a = some a := by
 simp only [impl_copyKeys.f, Option.bind_some, List.length_nil, List.nil_append]
 rw [if_pos (by omega)]
theorem impl_SameSpot_f (a b : S27) : impl_SameSpot.f a.f0 a.f1 a.f2 a.f3 a.f4 b.f0 b.f1 b.f2 b.f3 b.f4 = some (same a b) := by
 unfold impl_SameSpot.f same
 split
 ·simp only [*, true_and, Option.some.injEq]; rw [Bool.eq_iff_iff]; simp
 ·simp [*]
theorem impl_SetPut_ev (l : List S27) (x : S27) (h : l.length ≤ 4194304) : Ev (fun k => impl_SetPut.f k l x.f0 x.f1 x.f2 x.f3 x.f4) (setPut l x) := by
 obtain ⟨K, hk⟩ := evRange0 (σ := List S27 × Bool) l.length (fun k s i => impl_SetPut.l0 k s.1 s.2 l (l.length : Int) i x.f0 x.f1 x.f2 x.f3 x.f4) (fun i s => s.1.length ≤ 2 * i) (fun i s => s.1 ++ putGo x (l.drop i) s.2) ([], false) (by simp)
  (by
   intro i s hi hs
   obtain ⟨out, put⟩ := s
   simp only at hs
   have hd := drop_getD l i z27 hi
   have hr : rd_T27 l (i : Int) = l.getD i z27 := by simp [rd_T27]
   refine .inl ⟨(out ++ (if put || less (l.getD i z27) x then [] else [x]) ++ (if same (l.getD i z27) x then [] else [l.getD i z27]), put || !less (l.getD i z27) x), ?_, ?_, 0, 2, fun k _ => ?_⟩
   ·simp only [List.length_append]; split <;> split <;> simp <;> omega
   ·simp only [hd, putGo, List.append_assoc]
   ·generalize hy : l.getD i z27 = y at *
    simp only [impl_SetPut.l0, hr]
    rw [if_pos (by omega), if_pos (by omega), if_pos (by omega)]
    rw [impl_LessKey_f]
    simp only [Option.bind_some, impl_SetPut.j1]
    have hw := w64s i (by omega)
    cases put <;> cases hl : less y x <;> cases hq : same y x <;>
     simp only [Bool.not_true, Bool.not_false, if_true, if_false, Bool.false_eq_true, reduceCtorEq, impl_SameSpot_f, Option.bind_some, hq, hw, Bool.or_true, Bool.true_or, Bool.or_false, Bool.false_or, List.append_nil, List.append_assoc] <;>
     (repeat rw [if_pos (by first | omega | (simp only [List.length_append, List.length_cons, List.length_nil]; omega))]) <;> rfl)
  (by
   intro s hs
   obtain ⟨out, put⟩ := s
   simp only at hs
   refine ⟨0, 1, fun k _ => ?_⟩
   simp only [impl_SetPut.l0]
   rw [if_neg (by omega)]
   cases put
   ·rw [if_neg (by simp), if_pos (by omega)]; simp [putGo]
   ·rw [if_pos rfl]; simp [putGo])
 exact ⟨K, fun k hk' => hk k hk'⟩
theorem impl_MergeSets_ev (a b : List S27) (h : a.length + b.length ≤ 4194304) : Ev (fun k => impl_MergeSets.f k a b) (mergeSets a b) := by
 obtain ⟨K, hk⟩ := evRange0 (σ := List S27) b.length (fun k s i => impl_MergeSets.l0 k s b (b.length : Int) i) (fun i s => s.length ≤ a.length + i) (fun i s => mergeSets s (b.drop i)) a (by simp)
  (by
   intro i s hi hs
   have hd := drop_getD b i z27 hi
   have hr : rd_T27 b (i : Int) = b.getD i z27 := by simp [rd_T27]
   obtain ⟨K, e⟩ := impl_SetPut_ev s (b.getD i z27) (by omega)
   have hlen := setPut_length s (b.getD i z27)
   refine .inl ⟨setPut s (b.getD i z27), by omega, by simp only [hd, mergeSets, List.foldl_cons], K, 1, fun k hk => ?_⟩
   simp only [impl_MergeSets.l0, hr, e k hk, Option.bind_some]
   rw [if_pos (by omega), if_pos (by omega), if_pos (by omega), w64s i (by omega)])
  (by
   intro s hs
   refine ⟨0, 1, fun k _ => ?_⟩
   simp only [impl_MergeSets.l0]
   rw [if_neg (by omega)]
   simp [mergeSets])
 refine ⟨K, fun k hk' => ?_⟩
 simp only [impl_MergeSets.f, impl_copyKeys_f a (by omega), Option.bind_some]
 exact hk k hk'
theorem impl_Drop_ev (l : List S27) (h : l.length ≤ 4194304) : Ev (fun k => impl_Drop.f k l) (dropNone l) := by
 obtain ⟨K, hk⟩ := evRange0 (σ := List S27) l.length (fun k s i => impl_Drop.l0 k s l (l.length : Int) i) (fun i s => s.length ≤ i) (fun i s => s ++ dropNone (l.drop i)) [] (by simp)
  (by
   intro i s hi hs
   have hd := drop_getD l i z27 hi
   have hr : rd_T27 l (i : Int) = l.getD i z27 := by simp [rd_T27]
   generalize l.getD i z27 = y at *
   by_cases h1 : y.f2 = 0
   ·refine .inl ⟨s, by omega, ?_, 0, 1, fun k _ => ?_⟩
    ·rw [hd, dropNone, dropNone, List.filter_cons_of_neg (by simp [h1])]
    ·simp only [impl_Drop.l0, hr]
     rw [if_pos (by omega), if_pos (by omega), if_pos (by omega), if_pos h1, w64s i (by omega)]
   ·refine .inl ⟨s ++ [y], by simp; omega, ?_, 0, 1, fun k _ => ?_⟩
    ·rw [hd, dropNone, dropNone, List.filter_cons_of_pos (by simp [h1]), List.append_assoc]; rfl
    ·simp only [impl_Drop.l0, hr]
     rw [if_pos (by omega), if_pos (by omega), if_pos (by omega), if_neg h1, if_pos (by omega), w64s i (by omega)])
  (by
   intro s _
   refine ⟨0, 1, fun k _ => ?_⟩
   simp only [impl_Drop.l0]
   rw [if_neg (by omega)]
   simp [dropNone])
 exact ⟨K, fun k hk' => hk k hk'⟩
theorem impl_NodeKeys_ev (ls : List (List S27)) (ho : okKeySS ls) : Ev (fun k => impl_NodeKeys.f k ls) (nodeKeys ls) := by
 have h := okKeySS_len ho
 have hb := countK_bulk ls
 have hbb : bulkKeySS ls ≤ 4194304 := ho
 obtain ⟨K, hk⟩ := evRange0 (σ := List S27) ls.length (fun k s i => impl_NodeKeys.l0 k s ls (ls.length : Int) i) (fun i s => s.length + countK (ls.drop i) ≤ countK ls) (fun i s => dropNone (mergeAll s (ls.drop i))) [] (by simp)
  (by
   intro i s hi hs
   have hd := drop_getD ls i [] hi
   have hr : rd_L2 ls (i : Int) = ls.getD i [] := by simp [rd_L2]
   rw [countK_drop ls i hi] at hs
   obtain ⟨K, e⟩ := impl_MergeSets_ev s (ls.getD i []) (by omega)
   have hl := mergeSets_length s (ls.getD i [])
   refine .inl ⟨mergeSets s (ls.getD i []), by omega, by rw [hd]; rfl, K, 1, fun k hk => ?_⟩
   have e1 := e k hk
   simp only at e1
   simp only [impl_NodeKeys.l0, hr, e1, Option.bind_some]
   rw [if_pos (by omega), if_pos (by omega), if_pos (by omega), w64s i (by omega)])
  (by
   intro s hs
   simp only [List.drop_length, countK] at hs
   obtain ⟨K, e⟩ := impl_Drop_ev s (by omega)
   refine ⟨K, 1, fun k hk => ?_⟩
   have e1 := e k hk
   simp only at e1
   simp only [impl_NodeKeys.l0, e1, Option.bind_some]
   rw [if_neg (by omega)]
   simp [mergeAll])
 exact ⟨K, fun k hk' => hk k hk'⟩
theorem impl_inBounds_l1 (lows : List Int) (n : List S32) (ls : List (List S27)) (hls : ls.length ≤ 4194304) (hlo : lows.length ≤ 4194304) (p : Nat) (hp : p < lows.length) (q : Nat) (hq : q < ls.length) (l : List S27) (hl : l.length ≤ 4194304) (b : Bool)
  (hnext : Ev (fun k => impl_inBounds.l0 k (p : Int) ls (ls.length : Int) ((q + 1 : Nat) : Int) lows n) b) :
  Ev (fun k => impl_inBounds.l1 k (p : Int) ls (ls.length : Int) (q : Int) l (l.length : Int) 0 lows n) ((l.all fun x => decide (lows.getD p 0 ≤ spotOf x.f0 x.f1) && !(decide (p + 1 < lows.length) && decide (lows.getD (p + 1) 0 ≤ spotOf x.f0 x.f1))) && b) := by
 obtain ⟨K0, e0⟩ := hnext
 obtain ⟨K, hk⟩ := evRange0 (σ := Unit) l.length (fun k _ i => impl_inBounds.l1 k (p : Int) ls (ls.length : Int) (q : Int) l (l.length : Int) i lows n) (fun _ _ => True)
  (fun i _ => ((l.drop i).all fun x => decide (lows.getD p 0 ≤ spotOf x.f0 x.f1) && !(decide (p + 1 < lows.length) && decide (lows.getD (p + 1) 0 ≤ spotOf x.f0 x.f1))) && b) () trivial
  (by
   intro i _ hi _
   have hd := drop_getD l i z27 hi
   have hr : rd_T27 l (i : Int) = l.getD i z27 := by simp [rd_T27]
   generalize l.getD i z27 = y at *
   have hsp : wrap64 (wrap64 (64 * y.f0) + y.f1) = spotOf y.f0 y.f1 := rfl
   have hp1 := w64s p (by omega)
   by_cases c1 : lows.getD p 0 ≤ spotOf y.f0 y.f1
   ·by_cases c2 : p + 1 < lows.length ∧ lows.getD (p + 1) 0 ≤ spotOf y.f0 y.f1
    ·refine .inr ⟨0, 1, fun k _ => ?_⟩
     simp only [impl_inBounds.l1, hr, impl_SpotOf.f, Option.bind_some, hsp, rd_nat, hp1]
     rw [if_pos (by omega), if_pos (by omega), if_pos (by omega), if_pos (by omega), if_pos (by omega), if_neg (by omega), if_pos (by omega), if_pos (by omega), if_pos c2.2, hd, List.all_cons, decide_eq_true c2.1, decide_eq_true c2.2, Bool.and_true, Bool.not_true, Bool.and_false, Bool.false_and, Bool.false_and]
    ·refine .inl ⟨(), trivial, ?_, 0, 1, fun k _ => ?_⟩
     ·rw [hd, List.all_cons]
      have e : (decide (p + 1 < lows.length) && decide (lows.getD (p + 1) 0 ≤ spotOf y.f0 y.f1)) = false := by rw [← Bool.decide_and]; simpa using c2
      rw [e, decide_eq_true c1]; rfl
     ·simp only [impl_inBounds.l1, hr, impl_SpotOf.f, Option.bind_some, hsp, rd_nat, hp1]
      rw [if_pos (by omega), if_pos (by omega), if_pos (by omega), if_pos (by omega), if_pos (by omega), if_neg (by omega), w64s i (by omega)]
      by_cases c3 : p + 1 < lows.length
      ·rw [if_pos (by omega), if_pos (by omega), if_neg (fun h => c2 ⟨c3, h⟩)]
      ·rw [if_neg (by omega)]
   ·refine .inr ⟨0, 1, fun k _ => ?_⟩
    simp only [impl_inBounds.l1, hr, impl_SpotOf.f, Option.bind_some, hsp, rd_nat, hp1]
    rw [if_pos (by omega), if_pos (by omega), if_pos (by omega), if_pos (by omega), if_pos (by omega), if_pos (by omega), hd, List.all_cons, decide_eq_false c1]
    rfl)
  (by
   intro _ _
   refine ⟨K0, 1, fun k hk => ?_⟩
   have e1 := e0 k hk
   simp only at e1
   simp only [impl_inBounds.l1]
   rw [if_neg (by omega), w64s q (by omega), e1]
   simp)
 exact ⟨K, fun k hk' => hk k hk'⟩
theorem impl_inBounds_l0 (lows : List Int) (n : List S32) (ls : List (List S27)) (ho : okKeySS ls) (hlo : lows.length ≤ 4194304) (p : Nat) (hp : p < lows.length) :
  ∀ (d q : Nat), ls.length - q = d → q ≤ ls.length → Ev (fun k => impl_inBounds.l0 k (p : Int) ls (ls.length : Int) (q : Int) lows n) (inBoundsB lows p (ls.drop q)) := by
 have hls := okKeySS_len ho
 intro d
 induction d with
 | zero =>
  intro q hd hq
  obtain rfl : q = ls.length := by omega
  refine evSucc ⟨0, 1, fun k _ => ?_⟩
  simp only [impl_inBounds.l0]
  rw [if_neg (by omega)]
  simp [inBoundsB]
 | succ d ih =>
  intro q hd hq
  have hlt : q < ls.length := by omega
  have hr : rd_L2 ls (q : Int) = ls.getD q [] := by simp [rd_L2]
  have ho1 : (ls.getD q []).length ≤ 4194304 := okKeySS_at ho q hlt
  obtain ⟨K, e⟩ := impl_inBounds_l1 lows n ls hls hlo p hp q hlt (ls.getD q []) ho1 _ (ih (q + 1) (by omega) (by omega))
  refine evSucc ⟨K, 1, fun k hk => ?_⟩
  have e1 := e k hk
  simp only at e1
  simp only [impl_inBounds.l0, hr]
  rw [if_pos (by omega), if_pos (by omega), if_pos (by omega), e1, drop_getD ls q [] hlt]
  rfl
theorem impl_inBounds_ev (lows : List Int) (n : List S32) (p : Nat) (hp : p < n.length) (hl : lows.length = n.length) (ho : okNodeS n) : Ev (fun k => impl_inBounds.f k lows n (p : Int)) (inBoundsB lows p (n.getD p z32).f0) := by
 have hn := okNodeS_len ho
 have hr : rd_T32 n (p : Int) = n.getD p z32 := by simp [rd_T32]
 obtain ⟨K, e⟩ := impl_inBounds_l0 lows n (n.getD p z32).f0 (okNodeS_at ho p hp) (by omega) p (by omega) _ 0 rfl (Nat.zero_le _)
 refine ⟨K, fun k hk => ?_⟩
 have e1 := e k hk
 simp only [impl_inBounds.f, hr]
 rw [if_pos (by omega), if_pos (by omega)]
 exact e1
theorem impl_TreeOk_ev (lows : List Int) (n : List S32) (h1 : okIntS lows) (ho : okNodeS n) : Ev (fun k => impl_TreeOk.f k lows n) (treeOkB lows n) := by
 have hn := okNodeS_len ho
 have hl : lows.length ≤ 4194304 := h1
 have hb := sumKeysN_bulk n
 have hbb : bulkNodeS n ≤ 4194304 := ho
 unfold treeOkB
 by_cases c1 : 1 ≤ (n.length : Int) ∧ (n.length : Int) ≤ 20
 ·by_cases c2 : lows.length = n.length
  ·by_cases c3 : lows.getD 0 0 = 0
   ·rw [if_pos c1, if_pos c2, if_pos c3]
    obtain ⟨K, hk⟩ := evRange0 (σ := Int) n.length (fun k s i => impl_TreeOk.l0 k s n (n.length : Int) i lows n) (fun i s => s + (sumKeysN (n.drop i) : Nat) = (sumKeysN n : Nat) ∧ 0 ≤ s)
     (fun i _ => allFrom (fun i => (i == 0 || decide (lows.getD (i - 1) 0 < lows.getD i 0)) && nodeFits lows i (n.getD i z32)) n.length i && decide (sumKeysN n ≤ 60)) 0 (by simp)
     (by
      rintro i s hi ⟨hs, h0⟩
      have hr : rd_T32 n (i : Int) = n.getD i z32 := by simp [rd_T32]
      rw [sumKeysN_drop n i hi] at hs
      have ho1 := okNodeS_at ho i hi
      obtain ⟨K, e⟩ := impl_inBounds_ev lows n i hi c2 ho
      obtain ⟨y, hgen⟩ : ∃ y, n.getD i z32 = y := ⟨_, rfl⟩
      rw [hgen] at hs hr ho1 e
      obtain ⟨K2, e2⟩ := impl_NodeOk_ev y.f0 ho1
      obtain ⟨K3, e3⟩ := impl_NodeKeys_ev y.f0 ho1
      have hw1 : ¬ i = 0 → wrap64 ((i : Int) - 1) = ((i - 1 : Nat) : Int) := fun _ => by rw [w64 (by omega) (by omega)]; omega
      have key : ∀ k, K + K2 + K3 ≤ k → impl_TreeOk.l0 (k + 2) s n (n.length : Int) (i : Int) lows n = if (i == 0 || decide (lows.getD (i - 1) 0 < lows.getD i 0)) && nodeFits lows i y then impl_TreeOk.l0 k (s + ((nodeKeys y.f0).length : Int)) n (n.length : Int) ((i + 1 : Nat) : Int) lows n else some false := by
       intro k hk
       have a1 := e (k + 1) (by omega)
       have a2 := e2 (k + 1) (by omega)
       have a3 := e3 k (by omega)
       simp only at a1 a2 a3
       simp only [impl_TreeOk.l0, hr, a1, a2, Option.bind_some, impl_TreeOk.j2, a3, w64s i (by omega), rd_nat]
       rw [if_pos (by omega), if_pos (by omega), if_pos (by omega)]
       unfold nodeFits
       by_cases hz : i = 0
       ·subst hz
        have hng : ¬ (((0 : Nat) : Int) > 0) := by omega
        simp only [hng, if_false, beq_self_eq_true, Bool.true_or, Bool.true_and]
        rw [w64 (x := s + ((nodeKeys y.f0).length : Int)) (by omega) (by omega)]
        cases nodeOkB y.f0 <;> cases inBoundsB lows 0 y.f0 <;> simp only [if_true, if_false, Bool.false_eq_true, Bool.not_true, Bool.not_false, Bool.false_and, Bool.true_and]
       ·rw [if_pos (by omega), hw1 hz, if_pos (by omega), if_pos (by omega), if_pos (by omega), rd_nat, beq_eq_false_iff_ne.mpr hz, Bool.false_or, Bool.false_or, w64 (x := s + ((nodeKeys y.f0).length : Int)) (by omega) (by omega)]
        by_cases c : lows.getD (i - 1) 0 < lows.getD i 0
        ·rw [if_neg (by omega), decide_eq_true c, Bool.true_and]
         have hip : (i : Int) > 0 := by omega
         by_cases c4 : (nodeKeys y.f0).length = 0
         ·have c5 : ((nodeKeys y.f0).length : Int) = 0 := by omega
          have c6 := decide_eq_true c4
          cases nodeOkB y.f0 <;> cases inBoundsB lows i y.f0 <;> simp only [hip, if_pos c5, c6, if_true, if_false, Bool.false_eq_true, Bool.not_true, Bool.not_false, Bool.false_and, Bool.true_and]
         ·have c5 : ¬ ((nodeKeys y.f0).length : Int) = 0 := by omega
          have c6 := decide_eq_false c4
          cases nodeOkB y.f0 <;> cases inBoundsB lows i y.f0 <;> simp only [hip, if_neg c5, c6, if_true, if_false, Bool.false_eq_true, Bool.not_true, Bool.not_false, Bool.false_and, Bool.true_and]
        ·rw [if_pos (by omega), decide_eq_false c, Bool.false_and]
         simp only [if_true, Bool.false_eq_true, if_false]
      cases hq : (i == 0 || decide (lows.getD (i - 1) 0 < lows.getD i 0)) && nodeFits lows i y with
      | true =>
       refine .inl ⟨s + ((nodeKeys y.f0).length : Int), ⟨by omega, by omega⟩, ?_, K + K2 + K3, 2, fun k hk => ?_⟩
       ·rw [allFrom_lt hi]
        simp only [hgen, hq, Bool.true_and]
       ·rw [key k hk, hq]; rfl
      | false =>
       refine .inr ⟨K + K2 + K3, 2, fun k hk => ?_⟩
       rw [key k hk, hq, allFrom_lt hi]
       simp only [hgen, hq, Bool.false_and]
       rfl)
     (by
      rintro s ⟨hs, h0⟩
      simp only [List.drop_length, sumKeysN] at hs
      refine ⟨0, 1, fun k hk => ?_⟩
      simp only [impl_TreeOk.l0, allFrom_end, Bool.true_and]
      rw [if_neg (by omega)]
      congr 1; rw [Bool.eq_iff_iff]; simp; omega)
    refine evSucc ⟨K, 1, fun k hk' => ?_⟩
    have e := hk k hk'
    have hz : rd lows 0 = lows.getD 0 0 := rfl
    simp only [impl_TreeOk.f, impl_within_f, Option.bind_some, hz, c3, bne_self_eq_false, impl_TreeOk.j0, Bool.false_eq_true, if_false]
    rw [if_pos (by simpa using c1), if_pos (by omega), if_pos (by omega)]
    exact e
   ·rw [if_pos c1, if_pos c2, if_neg c3]
    refine evSucc ⟨0, 1, fun k hk' => ?_⟩
    have hz : rd lows 0 = lows.getD 0 0 := rfl
    have hb : (lows.getD 0 0 != 0) = true := by simpa using c3
    simp only [impl_TreeOk.f, impl_within_f, Option.bind_some, hz, hb, impl_TreeOk.j0, if_true]
    rw [if_pos (by simpa using c1), if_pos (by omega), if_pos (by omega)]
  ·rw [if_pos c1, if_neg c2]
   refine evSucc ⟨0, 1, fun k hk' => ?_⟩
   simp only [impl_TreeOk.f, impl_within_f, Option.bind_some, impl_TreeOk.j0, if_true]
   rw [if_pos (by simpa using c1), if_neg (by omega)]
 ·rw [if_neg c1]
  refine evSucc ⟨0, 1, fun k hk' => ?_⟩
  simp only [impl_TreeOk.f, impl_within_f, Option.bind_some, impl_TreeOk.j0, if_true]
  rw [if_neg (by simpa using c1)]
theorem FnExactTreeOk (l0_0 : List (Int)) (l0_1 : List (S24)) (h0 : (l0_0.length ≤ 9223372036854775807 ∧ ∀ y0 ∈ l0_0, (Lit.int .i64 y0).wf = true) ∧ (l0_1.length ≤ 9223372036854775807 ∧ ∀ y0 ∈ l0_1, ((y0.f0.length ≤ 9223372036854775807 ∧ ∀ y1 ∈ y0.f0, (y1.length ≤ 9223372036854775807 ∧ ∀ y2 ∈ y1, ((Lit.int .i64 y2.f0).wf = true ∧ (Lit.int .i64 y2.f1).wf = true ∧ (Lit.int .i64 y2.f2).wf = true ∧ (Lit.int .i64 y2.f3).wf = true ∧ (Lit.int .i64 y2.f4).wf = true)))))) : ∃ k, laws_FnExactTreeOk.f k l0_0 l0_1 = some true := by
 apply Ev.rounds
 unfold laws_FnExactTreeOk.f
 have u0_0 := sumIntS_nn l0_0
 have u0_1 := sumNodeS_pos l0_1
 have u0_2 : sumTree l0_0 l0_1 = sumIntS l0_0 + sumNodeS l0_1 := rfl
 by_cases c0 : 1048576 < sumTree l0_0 l0_1
 ·refine Ev.bind (szTree_big l0_0 l0_1 _ h0.1.1 ⟨h0.2.1, fun x hx => ⟨(h0.2.2 x hx).1, fun y hy => ((h0.2.2 x hx).2 y hy).1⟩⟩ (by omega) (by omega) c0) ?_
  simp only [if_pos (show (-1 : Int) < 0 by decide)]; exact Ev.now _
 refine Ev.bind (szTree_fit l0_0 l0_1 _ h0.1.1 ⟨h0.2.1, fun x hx => ⟨(h0.2.2 x hx).1, fun y hy => ((h0.2.2 x hx).2 y hy).1⟩⟩ (by omega) (by omega) c0) ?_
 simp only [if_neg (show ¬ (1048576 - sumTree l0_0 l0_1 : Int) < 0 by omega)]
 have i0_0 : inIntS l0_0 := in_of_sumIntS (by omega)
 have i0_1 : inNodeS l0_1 := in_of_sumNodeS (by omega)
 have o0_0 : okIntS l0_0 := ok_of_inIntS i0_0
 have o0_1 : okNodeS (convNodeS l0_1) := ok_of_inNodeS i0_1
 repeat' (first
  | exact Ev.now _
  | (refine Ev.bind (toTree_ev _ _ (by assumption) (by assumption)) ?_)
  | (refine Ev.bind (eqTree_ev _ _ (by assumption) (by assumption)) ?_)
  | (refine Ev.bind (impl_TreeOk_ev _ _ (by assumption) (by assumption)) ?_)
  | (refine Ev.bind (spec_TreeOk_ev _ _ (by assumption) (by assumption)) ?_)
  | (simp only [Option.bind_some, ↓reduceIte, bne_self_eq_false, Bool.false_eq_true, Bool.not_true, eq_self]))
end Go.Proofs.Ythpfihklkcnckaa.Pure

namespace Go.Proofs.Ythpfihklkcnckaa.Op
open Go.RowKit Go.ChangeShapes Go.WideShapes Go.Proofs.YthpfihklkcnckaaW.PrintWords
def Opens {α : Type} (P : Program) (t : TypeId) (d : Kd α) (g : α → Prop) : Prop :=
 ∀ {H : Type} {enc : TypeId × Value → H} {w : World} {base : Nat} {spare : Nat → Bool} {held : Bool} {fuel : Nat} {cs : List Value} {x : DataW H × List MemPlace},
  DataW.trod enc P w base spare held fuel t cs = some x → ∃ a, d.K w a cs ∧ g a
theorem opens_int {P : Program} {t : TypeId} {k : IntKind} (ht : P.underlying t = some (.int k)) : Opens P t (Kd.int k) (fun n => (Lit.int k n).wf = true) := by
 intro H enc w base spare held fuel cs x h
 obtain ⟨n, rfl, _, hw⟩ := DataW.trod_int ht h
 exact ⟨n, rfl, hw⟩
theorem opens_slice {α : Type} {P : Program} {t e : TypeId} {d : Kd α} {g : α → Prop} (q : Nat) (ht : P.underlying t = some (.slice e)) (hd : Opens P e d g) (hc : P.cellsOf e = d.sz) :
  Opens P t (Kd.slice q d) (fun xs => xs.length ≤ 9223372036854775807 ∧ ∀ x ∈ xs, g x) := by
 intro H enc w base spare held fuel cs x h
 rcases DataW.trod_slice ht h with ⟨rfl, _⟩ | ⟨a, len, cap, elems, rest, n, _, rfl, _, _, hl, hm, hlen, hel, _, _⟩
 ·exact ⟨[], ⟨none, 0, rfl, Nat.le_refl _, rfl, Nat.zero_le _, fun h => by cases h⟩, by simp, by simp⟩
 ·have each : ∀ i : Fin len, ∃ y : α, g y ∧ ∃ c : List Value, c.length = d.sz ∧ d.K w y c ∧ ∀ j u, c[j]? = some u → w.cell? (a.add (i.val * d.sz + j)) = some u := by
   intro i
   have h1 := hel i.val i.isLt
   rw [List.getElem?_eq_getElem (by omega), Option.bind_eq_some_iff] at h1
   obtain ⟨c, hcs, hy⟩ := h1
   obtain ⟨_, hcl, hcell⟩ := World.cells?_some hcs
   obtain ⟨y, hK, hg⟩ := hd hy
   refine ⟨y, hg, c, by rw [hcl, hc], hK, fun j u hu => ?_⟩
   have hj : j < c.length := (List.getElem?_eq_some_iff.1 hu).1
   have h2 := hcell j (by omega)
   rw [hu] at h2
   rw [← h2, hc]
   congr 1
   exact (Addr.add_add a _ _).symm
  obtain ⟨f, hf⟩ := Classical.axiomOfChoice each
  refine ⟨List.ofFn f, ⟨some a, cap, by rw [List.length_ofFn], by rw [List.length_ofFn]; exact hl, by rw [List.length_ofFn], by rw [List.length_ofFn]; unfold maxLen at hm; omega, fun _ => ⟨a, rfl, fun j p hp => ?_⟩⟩, by rw [List.length_ofFn]; unfold maxLen at hm; omega, fun x hx => ?_⟩
  ·rw [List.getElem?_ofFn] at hp
   split at hp
   ·rename_i hj
    obtain rfl := Option.some.inj hp
    obtain ⟨_, c, h1, h2, h3⟩ := hf ⟨j, hj⟩
    exact ⟨c, h1, h2, h3⟩
   ·cases hp
  ·obtain ⟨i, rfl⟩ := List.mem_ofFn.1 hx
   exact (hf i).1
/-- The fields from one offset on. -/
def OpensL {α : Type} (P : Program) (fs : List Field) (off : Nat) (d : Kd α) (g : α → Prop) : Prop :=
 ∀ {H : Type} {enc : TypeId × Value → H} {w : World} {base : Nat} {spare : Nat → Bool} {held : Bool} {fuel : Nat} {cs : List Value},
  (∀ f ∈ fs, ∃ x, DataW.trod enc P w base spare held fuel f.type ((cs.drop f.offset).take (P.cellsOf f.type)) = some x) → ∃ a, d.K w a ((cs.drop off).take d.sz) ∧ g a
theorem opensL_one {α : Type} {P : Program} {f : Field} {d : Kd α} {g : α → Prop} {off : Nat} (ho : f.offset = off) (hd : Opens P f.type d g) (hc : P.cellsOf f.type = d.sz) : OpensL P [f] off d g := by
 intro H enc w base spare held fuel cs h
 obtain ⟨x, hx⟩ := h f (by simp)
 rw [hc, ho] at hx
 exact hd hx
theorem opensL_cons {α β : Type} {P : Program} {f : Field} {fs : List Field} {d : Kd α} {g : α → Prop} {d' : Kd β} {g' : β → Prop} {off : Nat} (ho : f.offset = off) (hd : Opens P f.type d g) (hc : P.cellsOf f.type = d.sz)
  (hr : OpensL P fs (off + d.sz) d' g') : OpensL P (f :: fs) off (Kd.pair d d') (fun x => g x.1 ∧ g' x.2) := by
 intro H enc w base spare held fuel cs h
 obtain ⟨a, ha, hg⟩ := opensL_one ho hd hc (fun f' hf' => h f' (by simp at hf'; simp [hf']))
 obtain ⟨b, hb, hg'⟩ := hr (fun f' hf' => h f' (List.mem_cons_of_mem _ hf'))
 refine ⟨(a, b), ⟨(cs.drop off).take d.sz, (cs.drop (off + d.sz)).take d'.sz, ?_, ha, hb⟩, hg, hg'⟩
 show (cs.drop off).take (d.sz + d'.sz) = _
 rw [List.take_add, List.drop_drop]
theorem opens_struct {α : Type} {P : Program} {t : TypeId} {fs : Array Field} {d : Kd α} {g : α → Prop} (ht : P.underlying t = some (.struct fs)) (hc : P.cellsOf t = d.sz) (hL : OpensL P fs.toList 0 d g) : Opens P t d g := by
 intro H enc w base spare held fuel cs x h
 obtain ⟨xs, n, _, _, hl, hxl, hf⟩ := DataW.trod_struct ht h
 have := hL (enc := enc) (w := w) (base := base) (spare := spare) (held := held) (fuel := n) (cs := cs) (fun f hmem => by
  obtain ⟨i, hi⟩ := List.getElem?_of_mem hmem
  have hi' : fs[i]? = some f := by simpa using hi
  have hlt : i < fs.size := (Array.getElem?_eq_some_iff.1 hi').1
  exact ⟨xs[i]'(by omega), by rw [hf i f hi', List.getElem?_eq_getElem]⟩)
 rw [List.drop_zero, ← hc, ← hl, List.take_length] at this
 exact this
theorem opens_iso {α β : Type} {P : Program} {t : TypeId} {d : Kd α} {g : α → Prop} (f : β → α) (e : α → β) (he : ∀ a, f (e a) = a) (h : Opens P t d g) : Opens P t (Kd.iso d f) (fun b => g (f b)) := by
 intro H enc w base spare held fuel cs x hx
 obtain ⟨a, ha, hg⟩ := h hx
 exact ⟨e a, by show d.K w (f (e a)) cs; rw [he]; exact ha, by show g (f (e a)); rw [he]; exact hg⟩
theorem opens_mono {α : Type} {P : Program} {t : TypeId} {d : Kd α} {g g' : α → Prop} (h : Opens P t d g) (hg : ∀ a, g a → g' a) : Opens P t d g' := by
 intro H enc w base spare held fuel cs x hx
 obtain ⟨a, ha, hga⟩ := h hx
 exact ⟨a, ha, hg a hga⟩
end Go.Proofs.Ythpfihklkcnckaa.Op

namespace Go.Proofs.Ythpfihklkcnckaa.rowFnExactTreeOk
open Go.ChangeShapes Go.WideShapes Go.ChangeAt Go.RowKit
open Go.ChangeMaps (open_string shut_string)
open Go.Proofs.YthpfihklkcnckaaW.PrintWords Go.Proofs.Ythpfihklkcnckaa.Op Go.Proofs.Ythpfihklkcnckaa.PFnExactTreeOk
set_option linter.unusedVariables false
set_option linter.unusedSimpArgs false
theorem own : ownKnob Try.prog.godebug = none := by kernel_rfl
theorem laidOut : laidOutB Try.prog = true := by kernel_rfl
theorem opensElKey : Opens Try.prog 50 k50 (fun x => ((Lit.int .i64 x.f0).wf = true ∧ (Lit.int .i64 x.f1).wf = true ∧ (Lit.int .i64 x.f2).wf = true ∧ (Lit.int .i64 x.f3).wf = true ∧ (Lit.int .i64 x.f4).wf = true)) := opens_mono (opens_iso (fun x : S50 => (x.f0, x.f1, x.f2, x.f3, x.f4)) (fun y => ⟨y.1, y.2.1, y.2.2.1, y.2.2.2.1, y.2.2.2.2⟩) (fun _ => rfl) (opens_struct Try.underlying50 (by kernel_rfl) (opensL_cons rfl (opens_int Try.underlying3) (by kernel_rfl) (opensL_cons rfl (opens_int Try.underlying3) (by kernel_rfl) (opensL_cons rfl (opens_int Try.underlying3) (by kernel_rfl) (opensL_cons rfl (opens_int Try.underlying3) (by kernel_rfl) (opensL_one rfl (opens_int Try.underlying3) (by kernel_rfl)))))))) (fun _ h => h)
theorem opensElNode : Opens Try.prog 24 k24 (fun x => ((x.f0.length ≤ 9223372036854775807 ∧ ∀ y0 ∈ x.f0, (y0.length ≤ 9223372036854775807 ∧ ∀ y1 ∈ y0, ((Lit.int .i64 y1.f0).wf = true ∧ (Lit.int .i64 y1.f1).wf = true ∧ (Lit.int .i64 y1.f2).wf = true ∧ (Lit.int .i64 y1.f3).wf = true ∧ (Lit.int .i64 y1.f4).wf = true))))) := opens_mono (opens_iso (fun x : S24 => x.f0) (fun y => ⟨y⟩) (fun _ => rfl) (opens_struct Try.underlying24 (by kernel_rfl) (opensL_one rfl ((opens_slice 37 Try.underlying22 ((opens_slice 50 Try.underlying37 (opensElKey) (by kernel_rfl))) (by kernel_rfl))) (by kernel_rfl)))) (fun _ h => h)
theorem opensTree : Opens Try.prog 65 (Kd.pair (Kd.slice 3 (Kd.int .i64)) (Kd.slice 24 (k24))) (fun x => (x.1.length ≤ 9223372036854775807 ∧ ∀ y0 ∈ x.1, (Lit.int .i64 y0).wf = true) ∧ (x.2.length ≤ 9223372036854775807 ∧ ∀ y0 ∈ x.2, ((y0.f0.length ≤ 9223372036854775807 ∧ ∀ y1 ∈ y0.f0, (y1.length ≤ 9223372036854775807 ∧ ∀ y2 ∈ y1, ((Lit.int .i64 y2.f0).wf = true ∧ (Lit.int .i64 y2.f1).wf = true ∧ (Lit.int .i64 y2.f2).wf = true ∧ (Lit.int .i64 y2.f3).wf = true ∧ (Lit.int .i64 y2.f4).wf = true)))))) := opens_struct Try.underlying65 (by kernel_rfl) (opensL_cons rfl ((opens_slice 3 Try.underlying55 (opens_int Try.underlying3) (by kernel_rfl))) (by kernel_rfl) (opensL_one rfl ((opens_slice 24 Try.underlying63 (opensElNode) (by kernel_rfl))) (by kernel_rfl)))
set_option maxRecDepth 100000 in
theorem lifted (os : Os) (started : os.Started) (H : Type) (enc : TypeId × Value → H) :
  ReturnsInHanded {} Try.checked os 13 .any (Rows.fnExactTreeOkSpec.pre6 enc Try.prog Try.f13 Rows.fnExactTreeOkRow.domain false) (Rows.fnExactTreeOkSpec.post enc Try.prog Try.f13 false true false false) := by
 refine returnsInHanded_of_change_sized (C := Try.checked) own started (by kernel_rfl) Try.func13
  (ChangeSpec.witness6 (enc := enc) (C := Try.checked) false ⟨#[], #[.agg #[.slice none 0 0, .slice none 0 0]], []⟩ 8 (by kernel_rfl) (by kernel_rfl) (by kernel_rfl) (by kernel_rfl)) ?_
 intro W base args ds gs before hval0 hW hcnd hsz0 _
 have hval : ∀ (j : Nat) t v, Try.f13.params[j]? = some t → args[j]? = some v → Value.okWide Try.prog W .any base t v := hval0
 have hW' := hW
 obtain ⟨p, q, hA0, hV, rfl, hfz, hnd⟩ := hW
 have hA : DataW.TrodAll enc Try.prog W 0 (fun _ => true) true Try.f13.params.toList args.toList ds p := hA0
 rw [Try.params13] at hA hval
 obtain ⟨v0, vs0, d0, ds0, p0, q0, hargs, rfl, rfl, h0, r0⟩ := trodAll_cons hA
 obtain ⟨rfl, rfl, rfl⟩ := trodAll_nil r0
 obtain rfl : args = #[v0] := by cases args; simp_all
 obtain ⟨rfl, rfl⟩ := trodVars_none hV
 have k0 := h0
 have lt0 : ∀ x ∈ p0, x.block < W.heap.size := by obtain ⟨m, hm⟩ := k0; exact DataW.trod_lt m _ _ _ hm
 obtain ⟨fuel0, hf0⟩ := h0
 obtain ⟨cs0, rfl, _⟩ := okWide_struct Try.underlying65 (hval 0 65 v0 rfl rfl)
 obtain ⟨x0, hK0, g0⟩ := opensTree hf0
 obtain ⟨l0_0, l0_1⟩ := x0
 obtain ⟨_, _, e0, ⟨A0_0, c0_0, rfl, hc0_0, hC0_0⟩, ⟨A0_1, c0_1, rfl, hc0_1, hC0_1⟩⟩ := hK0
 obtain rfl : cs0 = #[.slice A0_0 l0_0.length c0_0, .slice A0_1 l0_1.length c0_1] := by apply Array.toList_inj.1; exact e0
 clear hA0 hval0 hsz0
 obtain ⟨k, hk⟩ := Pure.FnExactTreeOk l0_0 l0_1 g0
 refine (laws_FnExactTreeOk.calls k _ _ _ _ _ _ true W hC0_0 hc0_0 hC0_1 hc0_1 hk).mono fun e W' ⟨he, bel0⟩ => ?_
 have bel : Below W.heap.size W W' := by first | exact bel0 | exact bel0.below
 subst he
 exact ⟨_, rfl, _, _, _, [], _, [], hW', trodAll_mk1 (shut_bool Try.underlying4 _), (trodAll_cons_mk (Below.trod laidOut (by kernel_rfl) (lE (by kernel_rfl)) k0 bel lt0) trodAll_mk0), rfl, bel.frame _, fun h => by cases h⟩
theorem over : Rows.fnExactTreeOkRow.holds Try.pinned (OpenSpec.ofChange Rows.fnExactTreeOkSpec) :=
 OpenClaim.holds_of_wide 13 Try.f13 rfl rfl rfl rfl rfl rfl rfl ⟨rfl, rfl, rfl, rfl, rfl⟩ rfl rfl rfl rfl rfl (by kernel_rfl) Try.func13 (by kernel_rfl)
  (lE (by kernel_rfl)) (by unfold Func.isWrapper; first | (rw [if_pos (by decide +kernel)]; kernel_rfl) | (rw [if_neg (by decide +kernel)]; exact ⟨rfl, rfl⟩))
  (fun os started H enc _ => lifted os started H enc)
theorem proved : Rows.FnExactTreeOkSaid := over
#print axioms proved
end Go.Proofs.Ythpfihklkcnckaa.rowFnExactTreeOk
namespace Go.Proofs.Ythpfihklkcnckaa
theorem fnExactTreeOk_holds : Rows.FnExactTreeOkSaid := rowFnExactTreeOk.proved
end Go.Proofs.Ythpfihklkcnckaa
