/- The law: the functions that it reaches, each with the proof that the machine's call comes to its answer, what they answer, and the law's row; each theorem says its conditions itself. -/
import Derived.Test.YtilhcaofpfeioaaZFnDevs3
import Derived.ChangeArms
import Derived.ChangeShapes
import Derived.WideShapes
import Derived.Test.YtilhcaofpfeioaaRows
import Derived.WalkKit
import Derived.ProofKit
import Derived.OpenShut
import Derived.ShutString
import Derived.ChangeOld
import Derived.Below
import Derived.SizedLaws
namespace Go.Proofs.Ytilhcaofpfeioaa.Law
open Go.RowKit Go.Proofs.Ytilhcaofpfeioaa.PFnDevs Go.Proofs.Ytilhcaofpfeioaa.Core Go.Proofs.YtilhcaofpfeioaaW.PrintWords Go.Proofs.YtilhcaofpfeioaaW.PrintLast Go.Proofs.YtilhcaofpfeioaaW.PrintMore Go.Proofs.Ytilhcaofpfeioaa.Pure
set_option linter.unusedSimpArgs false
set_option linter.unusedVariables false
theorem wp_restart {P : Program} {md : Region.Mode} {ops : Array Oper} {Q : Exit → Act → World → Prop} {S S' : World → Prop} (hs : ∀ w, S' w → S w) : ∀ (n : Nat) (l : Array Bool) (a : Act) (w : World), S' w → wpAnyLast P md ops Q S' [] n l a w → wpAnyLast P md ops Q S [] n l a w
 | 0, _, _, _, _, h => h
 | n + 1, _, _, _, h', h => ⟨h.1, fun i hi => wpOp_mono (fun a' w' hh => ⟨fun hd _ => hs _ (hh.1 hd h'), wp_restart hs n _ a' w' (hh.1 (by simp) h') hh.2⟩) (h.2 i hi)⟩
theorem restart_ {P : Program} {md : Region.Mode} {ops : Array Oper} {Q : Exit → Act → World → Prop} {S S' : World → Prop} {n : Nat} {l : Array Bool} {a : Act} {w : World} (hs : ∀ w, S' w → S w) (h' : S' w) (h : S' w → wpAnyLast P md ops Q S' [] n l a w) : wpAnyLast P md ops Q S [] n l a w := wp_restart hs n l a w h' (h h')
set_option maxHeartbeats 8000000 in
set_option maxRecDepth 100000 in
theorem walkFnDevsbig (A0 : Option Addr) (c0 : Nat) (l0 : List (Int)) (s fs : List (List Int)) (c cx cf : List (S50)) (f0 f1 f2 e2 e3 e4 n : Int) (d0 d1 d2 : Bool) (yb : List Int) (w : World) (hf0 : Kd.F (Kd.int .u8) w (In 0 w.heap.size) A0 l0.length l0) (hc0 : l0.length ≤ c0) (Q1x : laws_big.f l0 = some true) :
  Calls Try.prog 9 #[.slice A0 l0.length c0] w fun e w' => e = .returned (.bool true) ∧ Below w.heap.size w w' := by
 have HF0 := aD.mk hf0
 have HC0 := aD.mk hc0
 clear hf0 hc0
 have Q1 := aD.mk Q1x
 clear Q1x
 have HB := aD.mk (Below.refl w.heap.size w)
 have HORD := aD.mk (Nat.le_refl w.heap.size)
 have HT := aD.mk (Nat.le_refl w.heap.size)
 go_enter Try.func9, Try.ntmps9
 go_wp2_with (first | ((with_reducible refine aY (f := 33) rfl ?_); refine bL (some 10) rfl rfl Try.func33 (by kernel_rfl) rfl #[.slice A0 l0.length c0] rfl (by (try simp only [List.map_toArray, List.map_cons, List.map_nil]); first | done | rfl | (simp only [List.length_drop, List.length_take]; rfl)) ?_; (with_reducible refine (laws_big.calls _ _ l0 true _ ?s1 ?s2 Q1.out).mono ?_); (case s1 => exact (Kd.bH HF0.out)); (case s2 => exact HC0.out); rintro e_ w1 ⟨rfl, hd⟩; refine ⟨_, rfl, ?_⟩; have hb := hd.below; clear hd; have n0_ := aD.mk (Kd.aE HF0.out hb); have n1_ := aD.mk (aQ HB.out hb); have n2_ := aD.mk (Nat.le_trans HT.out hb.size); (try clear HF0); (try clear HB); (try clear HT); have HF0 := n0_; have HB := n1_; have HT := n2_; clear n0_ n1_ n2_; (try clear hb)))
 have hres_ := @results_tmp Try.f9 2 (by kernel_rfl)
 refine bodyPost_ret (fn := Try.f9) (P := Try.prog) (hres_ _ _ _) rfl ?_
 exact ⟨rfl, HB.out⟩
set_option maxHeartbeats 8000000 in
set_option maxRecDepth 100000 in
theorem walkFnDevs (A0 : Option Addr) (c0 : Nat) (l0 : List (Int)) (s fs : List (List Int)) (c cx cf : List (S50)) (f0 f1 f2 e2 e3 e4 n : Int) (d0 d1 d2 : Bool) (yb : List Int) (k2 : Nat) (k9 : Nat) (k10 : Nat) (w : World) (hf0 : Kd.F (Kd.int .u8) w (In 0 w.heap.size) A0 l0.length l0) (hc0 : l0.length ≤ c0) (Q1x : laws_big.f l0 = some false) (Q2x : spec_DrawDev.f k2 l0 = some (s, c, f0, d0)) (Q3x : laws_at.f l0 2 = some e2) (Q4x : laws_at.f l0 3 = some e3) (Q5x : laws_at.f l0 4 = some e4) (HYBx : yb = [e3, e4]) (Q6x : impl_WriteSec.f s c f0 d0 n yb = some (s, cx, f1, d1)) (Q7x : impl_FlushDev.f s cx f1 d1 = some (fs, cf, f2, d2)) (HRx : ∀ i : Nat, i < s.length → ∃ (B : List Int) (kx kf kd : Nat), impl_ReadSec.f kx s cx f1 d1 (i : Int) = some B ∧ impl_ReadSec.f kf fs cf f2 d2 (i : Int) = some B ∧ rdR fs (i : Int) = B ∧ ((i : Int) ≠ n → impl_ReadSec.f kd s c f0 d0 (i : Int) = some B)) (RNx : impl_ReadSec.f k9 s cx f1 d1 n = some yb) (Q9x : impl_DevOk.f k10 s cx f1 d1 = some true) (HSLx : s.length ≤ 4194304) (HFLx : fs.length = s.length) (hrem : Int.tmod e2 (s.length : Int) = n) (hne : ((s.length : Int) == 0) = false) (hsn : (s = []) = False) (hu3 : IntKind.u8.wrap e3 = e3) (hu4 : IntKind.u8.wrap e4 = e4) (hcf : ((cf.length : Int) == 0) = true) :
  Calls Try.prog 9 #[.slice A0 l0.length c0] w fun e w' => e = .returned (.bool true) ∧ Below w.heap.size w w' := by
 have hu25 := Try.underlying25
 have HF0 := aD.mk hf0
 have HC0 := aD.mk hc0
 clear hf0 hc0
 have Q1 := aD.mk Q1x
 clear Q1x
 have Q2 := aD.mk Q2x
 clear Q2x
 have Q3 := aD.mk Q3x
 clear Q3x
 have Q4 := aD.mk Q4x
 clear Q4x
 have Q5 := aD.mk Q5x
 clear Q5x
 have HYB := aD.mk HYBx
 clear HYBx
 have Q6 := aD.mk Q6x
 clear Q6x
 have Q7 := aD.mk Q7x
 clear Q7x
 have HR := aD.mk HRx
 clear HRx
 have RN := aD.mk RNx
 clear RNx
 have Q9 := aD.mk Q9x
 clear Q9x
 have HSL := aD.mk HSLx
 clear HSLx
 have HFL := aD.mk HFLx
 clear HFLx
 have HB := aD.mk (Below.refl w.heap.size w)
 have HORD := aD.mk (Nat.le_refl w.heap.size)
 have HT := aD.mk (Nat.le_refl w.heap.size)
 have hsy_ : ((strOfNums yb).toList == (strOfNums yb).toList) = true := beq_self_eq_true _
 go_enter Try.func9, Try.ntmps9
 go_wp2_with (first | ((with_reducible refine aY (f := 33) rfl ?_); refine bL (some 10) rfl rfl Try.func33 (by kernel_rfl) rfl #[.slice A0 l0.length c0] rfl (by (try simp only [List.map_toArray, List.map_cons, List.map_nil]); first | done | rfl | (simp only [List.length_drop, List.length_take]; rfl)) ?_; (with_reducible refine (laws_big.calls _ _ l0 false _ ?s1 ?s2 Q1.out).mono ?_); (case s1 => exact (Kd.bH HF0.out)); (case s2 => exact HC0.out); rintro e_ w1 ⟨rfl, hd⟩; refine ⟨_, rfl, ?_⟩; have hb := hd.below; clear hd; have n0_ := aD.mk (Kd.aE HF0.out hb); have n1_ := aD.mk (aQ HB.out hb); have n2_ := aD.mk (Nat.le_trans HT.out hb.size); (try clear HF0); (try clear HB); (try clear HT); have HF0 := n0_; have HB := n1_; have HT := n2_; clear n0_ n1_ n2_; (try clear hb)) | ((with_reducible refine aY (f := 34) rfl ?_); refine bL (some 12) rfl rfl Try.func34 (by kernel_rfl) rfl #[.slice A0 l0.length c0] rfl (by (try simp only [List.map_toArray, List.map_cons, List.map_nil]); first | done | rfl | (simp only [List.length_drop, List.length_take]; rfl)) ?_; (with_reducible refine (spec_DrawDev.calls k2 _ _ l0 s c f0 d0 _ ?s1 ?s2 Q2.out).mono ?_); (case s1 => exact (Kd.bH HF0.out)); (case s2 => exact HC0.out); rintro e_ w2 ⟨v0_, v1_, rfl, ho0, ho1, hb⟩; refine ⟨_, rfl, ?_⟩; obtain ⟨lo2, hi2, el_, eh_, ol_, oh_⟩ := Mem.times HT.out hb; (try rw [← el_] at ho0); obtain ⟨A2_0, c2_0, ev_, hc0_, hf0_⟩ := Mem.new_N (Kd.bR (ok' := fun k_ => lo2 ≤ k_) ho0 (fun _ h_ => by first | exact h_ | exact h_.1)) eh_; subst ev_; (try rw [← el_] at ho1); obtain ⟨A2_1, c2_1, ev_, hc1_, hf1_⟩ := Mem.new_N (Kd.bR (ok' := fun k_ => lo2 ≤ k_) ho1 (fun _ h_ => by first | exact h_ | exact h_.1)) eh_; subst ev_; have n0_ := aD.mk (Kd.aE HF0.out hb); have n1_ := aD.mk (aQ HB.out hb); have n2_ := aD.mk (hf0_); have n3_ := aD.mk (hc0_); have n4_ := aD.mk (hf1_); have n5_ := aD.mk (hc1_); have n6_ := aD.mk (And.intro HORD.out (And.intro ol_ oh_)); have n7_ := aD.mk (Nat.le_of_eq eh_); (try clear HF0); (try clear HB); (try clear HF2_0); (try clear HC2_0); (try clear HF2_1); (try clear HC2_1); (try clear HORD); (try clear HT); have HF0 := n0_; have HB := n1_; have HF2_0 := n2_; have HC2_0 := n3_; have HF2_1 := n4_; have HC2_1 := n5_; have HORD := n6_; have HT := n7_; clear n0_ n1_ n2_ n3_ n4_ n5_ n6_ n7_; clear ol_ oh_ el_ eh_ ho0 hf0_ hc0_ ho1 hf1_ hc1_; (try clear hb)) | ((with_reducible refine bE (N := 3) rfl ?_); refine bD ?hg (N := 3) ?hd (cs := #[.slice none 0 0, .slice none 0 0, .int .i64 0, .bool false]) (t := 25) ?hr ?_; (case hd => rfl); (case hg => rfl); (case hr => first | (go_simp; done) | (go_simp; rfl)); intro gb3 hg_ w3 hbox hb; have hge_ : hi2 ≤ gb3 := (by rw [hg_]; exact HT.out); have hlt_ : gb3 + 1 ≤ w3.heap.size := bJ hbox; have n0_ := aD.mk (Kd.aE HF0.out hb); have n1_ := aD.mk (Kd.aE HF2_0.out hb); have n2_ := aD.mk (Kd.aE HF2_1.out hb); have n3_ := aD.mk (aQ HB.out hb); have n4_ := aD.mk (hbox); have n5_ := aD.mk (And.intro HORD.out (And.intro hge_ (Nat.le_succ gb3))); have n6_ := aD.mk (hlt_); (try clear HF0); (try clear HF2_0); (try clear HF2_1); (try clear HB); (try clear BK3); (try clear HORD); (try clear HT); have HF0 := n0_; have HF2_0 := n1_; have HF2_1 := n2_; have HB := n3_; have BK3 := n4_; have HORD := n5_; have HT := n6_; clear n0_ n1_ n2_ n3_ n4_ n5_ n6_; clear hb hbox hg_ hge_ hlt_; have hzgb3_0_3 : w3.cell? ⟨gb3, 0, none⟩ = some (.slice none 0 0) := (aC BK3.out 0).trans rfl; have hygb3_0_3 := aA BK3.out 0; have hzgb3_1_3 : w3.cell? ⟨gb3, 1, none⟩ = some (.slice none 0 0) := (aC BK3.out 1).trans rfl; have hygb3_1_3 := aA BK3.out 1; have hzgb3_2_3 : w3.cell? ⟨gb3, 2, none⟩ = some (.int .i64 0) := (aC BK3.out 2).trans rfl; have hygb3_2_3 := aA BK3.out 2; have hzgb3_3_3 : w3.cell? ⟨gb3, 3, none⟩ = some (.bool false) := (aC BK3.out 3).trans rfl; have hygb3_3_3 := aA BK3.out 3) | ((with_reducible refine bK (t := 25) (p := 3) rfl ?_); refine bG (t := 25) (p := 3) (v := ?vo_w4) (w1 := ((((w3.setCell ⟨gb3, 0, none⟩ (.slice A2_0 s.length c2_0)).setCell ⟨gb3, 1, none⟩ (.slice A2_1 c.length c2_1)).setCell ⟨gb3, 2, none⟩ (.int .i64 f0)).setCell ⟨gb3, 3, none⟩ (.bool d0))) ?hg ?ho ?hn ?hr ?_; (case ho => rfl); (case hg => rfl); (case hn => rfl); (case hr => first | (go_simp; done) | (go_simp; rfl)); intro w4 hw_; have hkp : Kept w3 w4 (fun k_ => k_ = gb3) := (by rw [hw_]; exact Kept.setCell (Kept.setCell (Kept.setCell (Kept.setCell (Kept.refl w3 (fun k_ => k_ = gb3)) (.inl rfl) (.slice A2_0 s.length c2_0)) (.inl rfl) (.slice A2_1 c.length c2_1)) (.inl rfl) (.int .i64 f0)) (.inl rfl) (.bool d0)); have hge_ : w.heap.size ≤ gb3 := (by have o_ := HORD.out; (try unfold In at *); (try show _ ≠ _); omega); have hbn_ : Below w.heap.size w w4 := (by rw [hw_]; exact aG (aG (aG (aG (HB.out) hge_) hge_) hge_) hge_); have hbk_ : w4.heap[gb3]? = some (.cells #[.slice A2_0 s.length c2_0, .slice A2_1 c.length c2_1, .int .i64 f0, .bool d0] 25 (0, 0)) := (by rw [hw_]; exact aT (cs := #[.slice A2_0 s.length c2_0, .slice A2_1 c.length c2_1, .int .i64 f0, .bool false]) (cs' := #[.slice A2_0 s.length c2_0, .slice A2_1 c.length c2_1, .int .i64 f0, .bool d0]) (aT (cs := #[.slice A2_0 s.length c2_0, .slice A2_1 c.length c2_1, .int .i64 0, .bool false]) (cs' := #[.slice A2_0 s.length c2_0, .slice A2_1 c.length c2_1, .int .i64 f0, .bool false]) (aT (cs := #[.slice A2_0 s.length c2_0, .slice none 0 0, .int .i64 0, .bool false]) (cs' := #[.slice A2_0 s.length c2_0, .slice A2_1 c.length c2_1, .int .i64 0, .bool false]) (aT (cs := #[.slice none 0 0, .slice none 0 0, .int .i64 0, .bool false]) (cs' := #[.slice A2_0 s.length c2_0, .slice none 0 0, .int .i64 0, .bool false]) (BK3.out) 0 _ rfl) 1 _ rfl) 2 _ rfl) 3 _ rfl); have hsz_ : (gb3 + 1) ≤ w4.heap.size := Nat.le_trans HT.out hkp.1; have n0_ := aD.mk (Kd.aU HF0.out hkp (fun k_ h1_ h2_ => by have o_ := HORD.out; have t_ := HT.out; (try simp only [In2, Up, In, Ex, Exb] at h1_ h2_); omega)); have n1_ := aD.mk (Kd.aU HF2_0.out hkp (fun k_ h1_ h2_ => by have o_ := HORD.out; have t_ := HT.out; (try simp only [In2, Up, In, Ex, Exb] at h1_ h2_); omega)); have n2_ := aD.mk (Kd.aU HF2_1.out hkp (fun k_ h1_ h2_ => by have o_ := HORD.out; have t_ := HT.out; (try simp only [In2, Up, In, Ex, Exb] at h1_ h2_); omega)); have n3_ := aD.mk (hbn_); have n4_ := aD.mk (hbk_); have n5_ := aD.mk (hsz_); (try clear HF0); (try clear HF2_0); (try clear HF2_1); (try clear HB); (try clear BK3); (try clear HT); have HF0 := n0_; have HF2_0 := n1_; have HF2_1 := n2_; have HB := n3_; have BK3 := n4_; have HT := n5_; clear n0_ n1_ n2_ n3_ n4_ n5_; clear hw_ hkp hge_ hbn_ hbk_ hsz_; have hzgb3_0_4 : w4.cell? ⟨gb3, 0, none⟩ = some (.slice A2_0 s.length c2_0) := (aC BK3.out 0).trans rfl; have hygb3_0_4 := aA BK3.out 0; have hzgb3_1_4 : w4.cell? ⟨gb3, 1, none⟩ = some (.slice A2_1 c.length c2_1) := (aC BK3.out 1).trans rfl; have hygb3_1_4 := aA BK3.out 1; have hzgb3_2_4 : w4.cell? ⟨gb3, 2, none⟩ = some (.int .i64 f0) := (aC BK3.out 2).trans rfl; have hygb3_2_4 := aA BK3.out 2; have hzgb3_3_4 : w4.cell? ⟨gb3, 3, none⟩ = some (.bool d0) := (aC BK3.out 3).trans rfl; have hygb3_3_4 := aA BK3.out 3))
 have n_ := aD.mk (Kd.F_drew HF0.out)
 clear HF0
 have HF0 := n_
 clear n_
 have n_ := aD.mk (Kd.F_drew HF2_0.out)
 clear HF2_0
 have HF2_0 := n_
 clear n_
 have n_ := aD.mk (Kd.F_drew HF2_1.out)
 clear HF2_1
 have HF2_1 := n_
 clear n_
 have n_ := aD.mk (bA BK3.out)
 clear BK3
 have BK3 := n_
 clear n_
 have n_ := aD.mk (aN HB.out)
 clear HB
 have HB := n_
 clear n_
 have n_ := aD.mk (show _ ≤ w4.drew.heap.size from HT.out)
 clear HT
 have HT := n_
 clear n_
 refine start_ (n := 7) (S := fun w' => w'.cell? ⟨gb3, 0, none⟩ = some (.slice A2_0 s.length c2_0) ∧ w'.cell? ⟨gb3, 1, none⟩ = some (.slice A2_1 c.length c2_1) ∧ w'.cell? ⟨gb3, 2, none⟩ = some (.int .i64 f0) ∧ w'.cell? ⟨gb3, 3, none⟩ = some (.bool d0)) (ds := []) #[false, false, false, false, false, false, false] (by kernel_rfl) rfl rfl ⟨(aC BK3.out 0).trans rfl, (aC BK3.out 1).trans rfl, (aC BK3.out 2).trans rfl, (aC BK3.out 3).trans rfl⟩ (fun hHeld => ?_)
 generalize w4.drew = w5 at HF0 HF2_0 HF2_1 BK3 HB HT hHeld ⊢
 refine bF (i := 0) (N := some 13) (v := ?_) (a' := ?_) #[true, false, false, false, false, false, false] rfl rfl (by kernel_rfl) (fun _ _ _ h => h) (Or.inl ⟨by rfl, ?_⟩) ?_ ?_
 rotate_left
 ·intro w'
  go_simp
  with_reducible rfl
 rotate_left
 ·simp only [Act.put, lA, lB, lC, aW, aX]
  rfl
 refine bF (i := 2) (N := some 15) (v := ?_) (a' := ?_) #[true, false, true, false, false, false, false] rfl rfl (by kernel_rfl) (fun _ _ _ h => h) (Or.inl ⟨by rfl, ?_⟩) ?_ ?_
 rotate_left
 ·intro w'
  go_simp
  with_reducible rfl
 rotate_left
 ·simp only [Act.put, lA, lB, lC, aW, aX]
  rfl
 refine take_ (i := 3) (N := some 16) (v := ?_) (a' := ?_) #[true, false, true, true, false, false, false] rfl rfl (by kernel_rfl) (fun _ _ _ h => h) (Or.inl ⟨by rfl, ?_⟩) hHeld ?_ ?_
 rotate_left
 ·rintro w' ⟨s0, s1, s2, s3⟩
  go_simp
  with_reducible rfl
 rotate_left
 ·simp only [Act.put, lA, lB, lC, aW, aX]
  rfl
 refine bF (i := 4) (N := some 17) (v := ?_) (a' := ?_) #[true, false, true, true, true, false, false] rfl rfl (by kernel_rfl) (fun _ _ _ h => h) (Or.inl ⟨by rfl, ?_⟩) ?_ ?_
 rotate_left
 ·intro w'
  go_simp
  with_reducible rfl
 rotate_left
 ·simp only [Act.put, lA, lB, lC, aW, aX]
  rfl
 refine one_ (i := 1) (N := some 14) #[true, true, true, true, true, false, false] rfl rfl (by kernel_rfl) (by decide) (fun K hK => ?_)
 refine goes_ Try.func35 (by kernel_rfl) rfl #[.slice A0 l0.length c0, .int .i64 2] (by rfl) rfl rfl (by (try simp only [List.map_toArray, List.map_cons, List.map_nil]); first | done | rfl | (simp only [List.length_drop, List.length_take]; rfl)) ?_
 (with_reducible refine (laws_at.calls _ _ l0 2 e2 _ ?s1 ?s2 Q3.out).mono ?_)
 (case s1 => exact (Kd.bH HF0.out))
 (case s2 => exact HC0.out)
 rintro e_ w6 ⟨rfl, hd⟩
 refine ⟨_, rfl, ?_⟩
 have hb := hd.below
 clear hd
 have n0_ := aD.mk (Kd.aE HF0.out hb)
 have n1_ := aD.mk (Kd.aE HF2_0.out hb)
 have n2_ := aD.mk (Kd.aE HF2_1.out hb)
 have n3_ := aD.mk (aH BK3.out hb)
 have n4_ := aD.mk (aQ HB.out hb)
 have n5_ := aD.mk (Nat.le_trans HT.out hb.size)
 (try clear HF0)
 (try clear HF2_0)
 (try clear HF2_1)
 (try clear BK3)
 (try clear HB)
 (try clear HT)
 have HF0 := n0_
 have HF2_0 := n1_
 have HF2_1 := n2_
 have BK3 := n3_
 have HB := n4_
 have HT := n5_
 clear n0_ n1_ n2_ n3_ n4_ n5_
 (try clear hb)
 refine hK.out _ _ ⟨(aC BK3.out 0).trans rfl, (aC BK3.out 1).trans rfl, (aC BK3.out 2).trans rfl, (aC BK3.out 3).trans rfl⟩ (fun hHeld => ?_)
 clear hK K
 refine norm_ (a' := ?_) ?_ ?_
 rotate_left
 ·show Act.put _ (some 14) _ = _
  simp only [Act.put, lA, lB, lC, aW, aX]
  rfl
 refine bF (i := 5) (N := some 18) (v := ?_) (a' := ?_) #[true, true, true, true, true, true, false] rfl rfl (by kernel_rfl) (fun _ _ _ h => h) (Or.inl ⟨by rfl, ?_⟩) ?_ ?_
 rotate_left
 ·intro w'
  go_simp
  with_reducible rfl
 rotate_left
 ·simp only [Act.put, lA, lB, lC, aW, aX]
  rfl
 refine bF (i := 6) (N := some 4) (v := ?_) (a' := ?_) #[true, true, true, true, true, true, true] rfl rfl (by kernel_rfl) (fun _ _ _ h => h) (Or.inl ⟨by rfl, ?_⟩) ?_ ?_
 rotate_left
 ·intro w'
  go_simp
  with_reducible rfl
 rotate_left
 ·simp only [Act.put, lA, lB, lC, aW, aX]
  rfl
 refine done_ (by kernel_rfl) ?_
 have hzgb3_0_6 : w6.cell? ⟨gb3, 0, none⟩ = some (.slice A2_0 s.length c2_0) := (aC BK3.out 0).trans rfl
 have hygb3_0_6 := aA BK3.out 0
 have hzgb3_1_6 : w6.cell? ⟨gb3, 1, none⟩ = some (.slice A2_1 c.length c2_1) := (aC BK3.out 1).trans rfl
 have hygb3_1_6 := aA BK3.out 1
 have hzgb3_2_6 : w6.cell? ⟨gb3, 2, none⟩ = some (.int .i64 f0) := (aC BK3.out 2).trans rfl
 have hygb3_2_6 := aA BK3.out 2
 have hzgb3_3_6 : w6.cell? ⟨gb3, 3, none⟩ = some (.bool d0) := (aC BK3.out 3).trans rfl
 have hygb3_3_6 := aA BK3.out 3
 go_wp2_with (first | ((with_reducible refine aY (f := 35) rfl ?_); refine bL (some 20) rfl rfl Try.func35 (by kernel_rfl) rfl #[.slice A0 l0.length c0, .int .i64 3] rfl (by (try simp only [List.map_toArray, List.map_cons, List.map_nil]); first | done | rfl | (simp only [List.length_drop, List.length_take]; rfl)) ?_; (with_reducible refine (laws_at.calls _ _ l0 3 e3 _ ?s1 ?s2 Q4.out).mono ?_); (case s1 => exact (Kd.bH HF0.out)); (case s2 => exact HC0.out); rintro e_ w7 ⟨rfl, hd⟩; refine ⟨_, rfl, ?_⟩; have hb := hd.below; clear hd; have n0_ := aD.mk (Kd.aE HF0.out hb); have n1_ := aD.mk (Kd.aE HF2_0.out hb); have n2_ := aD.mk (Kd.aE HF2_1.out hb); have n3_ := aD.mk (aH BK3.out hb); have n4_ := aD.mk (aQ HB.out hb); have n5_ := aD.mk (Nat.le_trans HT.out hb.size); (try clear HF0); (try clear HF2_0); (try clear HF2_1); (try clear BK3); (try clear HB); (try clear HT); have HF0 := n0_; have HF2_0 := n1_; have HF2_1 := n2_; have BK3 := n3_; have HB := n4_; have HT := n5_; clear n0_ n1_ n2_ n3_ n4_ n5_; (try clear hb); have hzgb3_0_7 : w7.cell? ⟨gb3, 0, none⟩ = some (.slice A2_0 s.length c2_0) := (aC BK3.out 0).trans rfl; have hygb3_0_7 := aA BK3.out 0; have hzgb3_1_7 : w7.cell? ⟨gb3, 1, none⟩ = some (.slice A2_1 c.length c2_1) := (aC BK3.out 1).trans rfl; have hygb3_1_7 := aA BK3.out 1; have hzgb3_2_7 : w7.cell? ⟨gb3, 2, none⟩ = some (.int .i64 f0) := (aC BK3.out 2).trans rfl; have hygb3_2_7 := aA BK3.out 2; have hzgb3_3_7 : w7.cell? ⟨gb3, 3, none⟩ = some (.bool d0) := (aC BK3.out 3).trans rfl; have hygb3_3_7 := aA BK3.out 3) | ((with_reducible refine aY (f := 35) rfl ?_); refine bL (some 23) rfl rfl Try.func35 (by kernel_rfl) rfl #[.slice A0 l0.length c0, .int .i64 4] rfl (by (try simp only [List.map_toArray, List.map_cons, List.map_nil]); first | done | rfl | (simp only [List.length_drop, List.length_take]; rfl)) ?_; (with_reducible refine (laws_at.calls _ _ l0 4 e4 _ ?s1 ?s2 Q5.out).mono ?_); (case s1 => exact (Kd.bH HF0.out)); (case s2 => exact HC0.out); rintro e_ w8 ⟨rfl, hd⟩; refine ⟨_, rfl, ?_⟩; have hb := hd.below; clear hd; have n0_ := aD.mk (Kd.aE HF0.out hb); have n1_ := aD.mk (Kd.aE HF2_0.out hb); have n2_ := aD.mk (Kd.aE HF2_1.out hb); have n3_ := aD.mk (aH BK3.out hb); have n4_ := aD.mk (aQ HB.out hb); have n5_ := aD.mk (Nat.le_trans HT.out hb.size); (try clear HF0); (try clear HF2_0); (try clear HF2_1); (try clear BK3); (try clear HB); (try clear HT); have HF0 := n0_; have HF2_0 := n1_; have HF2_1 := n2_; have BK3 := n3_; have HB := n4_; have HT := n5_; clear n0_ n1_ n2_ n3_ n4_ n5_; (try clear hb); have hzgb3_0_8 : w8.cell? ⟨gb3, 0, none⟩ = some (.slice A2_0 s.length c2_0) := (aC BK3.out 0).trans rfl; have hygb3_0_8 := aA BK3.out 0; have hzgb3_1_8 : w8.cell? ⟨gb3, 1, none⟩ = some (.slice A2_1 c.length c2_1) := (aC BK3.out 1).trans rfl; have hygb3_1_8 := aA BK3.out 1; have hzgb3_2_8 : w8.cell? ⟨gb3, 2, none⟩ = some (.int .i64 f0) := (aC BK3.out 2).trans rfl; have hygb3_2_8 := aA BK3.out 2; have hzgb3_3_8 : w8.cell? ⟨gb3, 3, none⟩ = some (.bool d0) := (aC BK3.out 3).trans rfl; have hygb3_3_8 := aA BK3.out 3) | ((with_reducible refine bE (N := 25) rfl ?_); refine Kd.R_lit (Kd.int .u8) _ 5 ?hg (N := 25) ?hd (xs := ([e3, e4] : List Int)) (inner := [.int .u8 e3, .int .u8 e4]) (ok := fun _ => True) (okp := fun _ => True) ?hr ?hp (fun _ hk => hk) trivial (Below.refl _ _) (Nat.le_refl _) (by simp) ?_; (case hd => rfl); (case hg => rfl); (case hr => first | (go_simp; done) | (go_simp; rfl)); (case hp => exact (Reps.one rfl (Reps.one rfl (Reps.none _ _)))); intro v9 w9 ho_ hb hg_ hat_; clear hg_ hat_; rw [← HYB.out] at ho_; obtain ⟨lo9, hi9, el_, eh_, ol_, oh_⟩ := Mem.times HT.out hb; rw [← el_] at ho_; obtain ⟨A9, c9, ev_, hc_, hf_, hs_⟩ := Mem.new_R ho_ eh_; subst ev_; have n0_ := aD.mk (Kd.aE HF0.out hb); have n1_ := aD.mk (Kd.aE HF2_0.out hb); have n2_ := aD.mk (Kd.aE HF2_1.out hb); have n3_ := aD.mk (aH BK3.out hb); have n4_ := aD.mk (aQ HB.out hb); have n5_ := aD.mk (And.intro HORD.out (And.intro ol_ oh_)); have n6_ := aD.mk (Nat.le_of_eq eh_); have n7_ := aD.mk (hf_); have n8_ := aD.mk (hc_); have n9_ := aD.mk (hs_); (try clear HF0); (try clear HF2_0); (try clear HF2_1); (try clear BK3); (try clear HB); (try clear HORD); (try clear HT); (try clear HF9); (try clear HC9); (try clear HS9); have HF0 := n0_; have HF2_0 := n1_; have HF2_1 := n2_; have BK3 := n3_; have HB := n4_; have HORD := n5_; have HT := n6_; have HF9 := n7_; have HC9 := n8_; have HS9 := n9_; clear n0_ n1_ n2_ n3_ n4_ n5_ n6_ n7_ n8_ n9_; clear hb ho_ hc_ hf_ hs_ ol_ oh_ el_ eh_; have hzgb3_0_9 : w9.cell? ⟨gb3, 0, none⟩ = some (.slice A2_0 s.length c2_0) := (aC BK3.out 0).trans rfl; have hygb3_0_9 := aA BK3.out 0; have hzgb3_1_9 : w9.cell? ⟨gb3, 1, none⟩ = some (.slice A2_1 c.length c2_1) := (aC BK3.out 1).trans rfl; have hygb3_1_9 := aA BK3.out 1; have hzgb3_2_9 : w9.cell? ⟨gb3, 2, none⟩ = some (.int .i64 f0) := (aC BK3.out 2).trans rfl; have hygb3_2_9 := aA BK3.out 2; have hzgb3_3_9 : w9.cell? ⟨gb3, 3, none⟩ = some (.bool d0) := (aC BK3.out 3).trans rfl; have hygb3_3_9 := aA BK3.out 3) | ((with_reducible refine aY (f := 28) rfl ?_); refine bL (some 29) rfl rfl Try.func28 (by kernel_rfl) rfl #[.agg #[.slice A2_0 s.length c2_0, .slice A2_1 c.length c2_1, .int .i64 f0, .bool d0], .int .i64 n, .slice A9 yb.length c9] rfl (by (try simp only [List.map_toArray, List.map_cons, List.map_nil]); first | done | rfl | (simp only [List.length_drop, List.length_take]; rfl)) ?_; (with_reducible refine (impl_WriteSec.calls _ _ s _ _ c f0 d0 n _ _ yb s cx f1 d1 _ ?s1 ?s2 ?s3 ?s4 ?s5 ?s6 Q6.out).mono ?_); (case s1 => exact (Kd.bH HF2_0.out)); (case s2 => exact HC2_0.out); (case s3 => exact (Kd.bH HF2_1.out)); (case s4 => exact HC2_1.out); (case s5 => exact (Kd.bH HF9.out)); (case s6 => exact HC9.out); rintro e_ w10 ⟨v0_, v1_, rfl, ho0, ho1, hb⟩; refine ⟨_, rfl, ?_⟩; obtain ⟨lo10, hi10, el_, eh_, ol_, oh_⟩ := Mem.times HT.out hb; (try rw [← el_] at ho0); obtain ⟨A10_0, c10_0, ev_, hc0_, hf0_⟩ := Mem.new_N (Kd.bR (ok' := fun k_ => lo10 ≤ k_) ho0 (fun _ h_ => by first | exact h_ | exact h_.1)) eh_; subst ev_; (try rw [← el_] at ho1); obtain ⟨A10_1, c10_1, ev_, hc1_, hf1_⟩ := Mem.new_N (Kd.bR (ok' := fun k_ => lo10 ≤ k_) ho1 (fun _ h_ => by first | exact h_ | exact h_.1)) eh_; subst ev_; have n0_ := aD.mk (Kd.aE HF0.out hb); have n1_ := aD.mk (Kd.aE HF2_0.out hb); have n2_ := aD.mk (Kd.aE HF2_1.out hb); have n3_ := aD.mk (Kd.aE HF9.out hb); have n4_ := aD.mk (Kd.R_below HS9.out hb); have n5_ := aD.mk (aH BK3.out hb); have n6_ := aD.mk (aQ HB.out hb); have n7_ := aD.mk (hf0_); have n8_ := aD.mk (hc0_); have n9_ := aD.mk (hf1_); have n10_ := aD.mk (hc1_); have n11_ := aD.mk (And.intro HORD.out (And.intro ol_ oh_)); have n12_ := aD.mk (Nat.le_of_eq eh_); (try clear HF0); (try clear HF2_0); (try clear HF2_1); (try clear HF9); (try clear HS9); (try clear BK3); (try clear HB); (try clear HF10_0); (try clear HC10_0); (try clear HF10_1); (try clear HC10_1); (try clear HORD); (try clear HT); have HF0 := n0_; have HF2_0 := n1_; have HF2_1 := n2_; have HF9 := n3_; have HS9 := n4_; have BK3 := n5_; have HB := n6_; have HF10_0 := n7_; have HC10_0 := n8_; have HF10_1 := n9_; have HC10_1 := n10_; have HORD := n11_; have HT := n12_; clear n0_ n1_ n2_ n3_ n4_ n5_ n6_ n7_ n8_ n9_ n10_ n11_ n12_; clear ol_ oh_ el_ eh_ ho0 hf0_ hc0_ ho1 hf1_ hc1_; (try clear hb); have hzgb3_0_10 : w10.cell? ⟨gb3, 0, none⟩ = some (.slice A2_0 s.length c2_0) := (aC BK3.out 0).trans rfl; have hygb3_0_10 := aA BK3.out 0; have hzgb3_1_10 : w10.cell? ⟨gb3, 1, none⟩ = some (.slice A2_1 c.length c2_1) := (aC BK3.out 1).trans rfl; have hygb3_1_10 := aA BK3.out 1; have hzgb3_2_10 : w10.cell? ⟨gb3, 2, none⟩ = some (.int .i64 f0) := (aC BK3.out 2).trans rfl; have hygb3_2_10 := aA BK3.out 2; have hzgb3_3_10 : w10.cell? ⟨gb3, 3, none⟩ = some (.bool d0) := (aC BK3.out 3).trans rfl; have hygb3_3_10 := aA BK3.out 3) | ((with_reducible refine bE (N := 6) rfl ?_); refine bD ?hg (N := 6) ?hd (cs := #[.slice none 0 0, .slice none 0 0, .int .i64 0, .bool false]) (t := 25) ?hr ?_; (case hd => rfl); (case hg => rfl); (case hr => first | (go_simp; done) | (go_simp; rfl)); intro gb11 hg_ w11 hbox hb; have hge_ : hi10 ≤ gb11 := (by rw [hg_]; exact HT.out); have hlt_ : gb11 + 1 ≤ w11.heap.size := bJ hbox; have n0_ := aD.mk (Kd.aE HF0.out hb); have n1_ := aD.mk (Kd.aE HF2_0.out hb); have n2_ := aD.mk (Kd.aE HF2_1.out hb); have n3_ := aD.mk (Kd.aE HF9.out hb); have n4_ := aD.mk (Kd.R_below HS9.out hb); have n5_ := aD.mk (Kd.aE HF10_0.out hb); have n6_ := aD.mk (Kd.aE HF10_1.out hb); have n7_ := aD.mk (aH BK3.out hb); have n8_ := aD.mk (aQ HB.out hb); have n9_ := aD.mk (hbox); have n10_ := aD.mk (And.intro HORD.out (And.intro hge_ (Nat.le_succ gb11))); have n11_ := aD.mk (hlt_); (try clear HF0); (try clear HF2_0); (try clear HF2_1); (try clear HF9); (try clear HS9); (try clear HF10_0); (try clear HF10_1); (try clear BK3); (try clear HB); (try clear BK11); (try clear HORD); (try clear HT); have HF0 := n0_; have HF2_0 := n1_; have HF2_1 := n2_; have HF9 := n3_; have HS9 := n4_; have HF10_0 := n5_; have HF10_1 := n6_; have BK3 := n7_; have HB := n8_; have BK11 := n9_; have HORD := n10_; have HT := n11_; clear n0_ n1_ n2_ n3_ n4_ n5_ n6_ n7_ n8_ n9_ n10_ n11_; clear hb hbox hg_ hge_ hlt_; have hzgb3_0_11 : w11.cell? ⟨gb3, 0, none⟩ = some (.slice A2_0 s.length c2_0) := (aC BK3.out 0).trans rfl; have hygb3_0_11 := aA BK3.out 0; have hzgb3_1_11 : w11.cell? ⟨gb3, 1, none⟩ = some (.slice A2_1 c.length c2_1) := (aC BK3.out 1).trans rfl; have hygb3_1_11 := aA BK3.out 1; have hzgb3_2_11 : w11.cell? ⟨gb3, 2, none⟩ = some (.int .i64 f0) := (aC BK3.out 2).trans rfl; have hygb3_2_11 := aA BK3.out 2; have hzgb3_3_11 : w11.cell? ⟨gb3, 3, none⟩ = some (.bool d0) := (aC BK3.out 3).trans rfl; have hygb3_3_11 := aA BK3.out 3; have hzgb11_0_11 : w11.cell? ⟨gb11, 0, none⟩ = some (.slice none 0 0) := (aC BK11.out 0).trans rfl; have hygb11_0_11 := aA BK11.out 0; have hzgb11_1_11 : w11.cell? ⟨gb11, 1, none⟩ = some (.slice none 0 0) := (aC BK11.out 1).trans rfl; have hygb11_1_11 := aA BK11.out 1; have hzgb11_2_11 : w11.cell? ⟨gb11, 2, none⟩ = some (.int .i64 0) := (aC BK11.out 2).trans rfl; have hygb11_2_11 := aA BK11.out 2; have hzgb11_3_11 : w11.cell? ⟨gb11, 3, none⟩ = some (.bool false) := (aC BK11.out 3).trans rfl; have hygb11_3_11 := aA BK11.out 3) | ((with_reducible refine bK (t := 25) (p := 6) rfl ?_); refine bG (t := 25) (p := 6) (v := ?vo_w12) (w1 := ((((w11.setCell ⟨gb11, 0, none⟩ (.slice A10_0 s.length c10_0)).setCell ⟨gb11, 1, none⟩ (.slice A10_1 cx.length c10_1)).setCell ⟨gb11, 2, none⟩ (.int .i64 f1)).setCell ⟨gb11, 3, none⟩ (.bool d1))) ?hg ?ho ?hn ?hr ?_; (case ho => rfl); (case hg => rfl); (case hn => rfl); (case hr => first | (go_simp; done) | (go_simp; rfl)); intro w12 hw_; have hkp : Kept w11 w12 (fun k_ => k_ = gb11) := (by rw [hw_]; exact Kept.setCell (Kept.setCell (Kept.setCell (Kept.setCell (Kept.refl w11 (fun k_ => k_ = gb11)) (.inl rfl) (.slice A10_0 s.length c10_0)) (.inl rfl) (.slice A10_1 cx.length c10_1)) (.inl rfl) (.int .i64 f1)) (.inl rfl) (.bool d1)); have hge_ : w.heap.size ≤ gb11 := (by have o_ := HORD.out; (try unfold In at *); (try show _ ≠ _); omega); have hbn_ : Below w.heap.size w w12 := (by rw [hw_]; exact aG (aG (aG (aG (HB.out) hge_) hge_) hge_) hge_); have hbk_ : w12.heap[gb11]? = some (.cells #[.slice A10_0 s.length c10_0, .slice A10_1 cx.length c10_1, .int .i64 f1, .bool d1] 25 (0, 0)) := (by rw [hw_]; exact aT (cs := #[.slice A10_0 s.length c10_0, .slice A10_1 cx.length c10_1, .int .i64 f1, .bool false]) (cs' := #[.slice A10_0 s.length c10_0, .slice A10_1 cx.length c10_1, .int .i64 f1, .bool d1]) (aT (cs := #[.slice A10_0 s.length c10_0, .slice A10_1 cx.length c10_1, .int .i64 0, .bool false]) (cs' := #[.slice A10_0 s.length c10_0, .slice A10_1 cx.length c10_1, .int .i64 f1, .bool false]) (aT (cs := #[.slice A10_0 s.length c10_0, .slice none 0 0, .int .i64 0, .bool false]) (cs' := #[.slice A10_0 s.length c10_0, .slice A10_1 cx.length c10_1, .int .i64 0, .bool false]) (aT (cs := #[.slice none 0 0, .slice none 0 0, .int .i64 0, .bool false]) (cs' := #[.slice A10_0 s.length c10_0, .slice none 0 0, .int .i64 0, .bool false]) (BK11.out) 0 _ rfl) 1 _ rfl) 2 _ rfl) 3 _ rfl); have hsz_ : (gb11 + 1) ≤ w12.heap.size := Nat.le_trans HT.out hkp.1; have n0_ := aD.mk (Kd.aU HF0.out hkp (fun k_ h1_ h2_ => by have o_ := HORD.out; have t_ := HT.out; (try simp only [In2, Up, In, Ex, Exb] at h1_ h2_); omega)); have n1_ := aD.mk (Kd.aU HF2_0.out hkp (fun k_ h1_ h2_ => by have o_ := HORD.out; have t_ := HT.out; (try simp only [In2, Up, In, Ex, Exb] at h1_ h2_); omega)); have n2_ := aD.mk (Kd.aU HF2_1.out hkp (fun k_ h1_ h2_ => by have o_ := HORD.out; have t_ := HT.out; (try simp only [In2, Up, In, Ex, Exb] at h1_ h2_); omega)); have n3_ := aD.mk (Kd.aU HF9.out hkp (fun k_ h1_ h2_ => by have o_ := HORD.out; have t_ := HT.out; (try simp only [In2, Up, In, Ex, Exb] at h1_ h2_); omega)); have n4_ := aD.mk (Kd.R_kept HS9.out hkp (fun k_ h1_ h2_ => by have o_ := HORD.out; have t_ := HT.out; (try simp only [In2, Up, In, Ex, Exb] at h1_ h2_); omega)); have n5_ := aD.mk (Kd.aU HF10_0.out hkp (fun k_ h1_ h2_ => by have o_ := HORD.out; have t_ := HT.out; (try simp only [In2, Up, In, Ex, Exb] at h1_ h2_); omega)); have n6_ := aD.mk (Kd.aU HF10_1.out hkp (fun k_ h1_ h2_ => by have o_ := HORD.out; have t_ := HT.out; (try simp only [In2, Up, In, Ex, Exb] at h1_ h2_); omega)); have n7_ := aD.mk (aV BK3.out hkp (fun h2_ => by have o_ := HORD.out; have t_ := HT.out; (try simp only [In2, Up, In, Ex, Exb] at h2_); omega)); have n8_ := aD.mk (hbn_); have n9_ := aD.mk (hbk_); have n10_ := aD.mk (hsz_); (try clear HF0); (try clear HF2_0); (try clear HF2_1); (try clear HF9); (try clear HS9); (try clear HF10_0); (try clear HF10_1); (try clear BK3); (try clear HB); (try clear BK11); (try clear HT); have HF0 := n0_; have HF2_0 := n1_; have HF2_1 := n2_; have HF9 := n3_; have HS9 := n4_; have HF10_0 := n5_; have HF10_1 := n6_; have BK3 := n7_; have HB := n8_; have BK11 := n9_; have HT := n10_; clear n0_ n1_ n2_ n3_ n4_ n5_ n6_ n7_ n8_ n9_ n10_; clear hw_ hkp hge_ hbn_ hbk_ hsz_; have hzgb3_0_12 : w12.cell? ⟨gb3, 0, none⟩ = some (.slice A2_0 s.length c2_0) := (aC BK3.out 0).trans rfl; have hygb3_0_12 := aA BK3.out 0; have hzgb3_1_12 : w12.cell? ⟨gb3, 1, none⟩ = some (.slice A2_1 c.length c2_1) := (aC BK3.out 1).trans rfl; have hygb3_1_12 := aA BK3.out 1; have hzgb3_2_12 : w12.cell? ⟨gb3, 2, none⟩ = some (.int .i64 f0) := (aC BK3.out 2).trans rfl; have hygb3_2_12 := aA BK3.out 2; have hzgb3_3_12 : w12.cell? ⟨gb3, 3, none⟩ = some (.bool d0) := (aC BK3.out 3).trans rfl; have hygb3_3_12 := aA BK3.out 3; have hzgb11_0_12 : w12.cell? ⟨gb11, 0, none⟩ = some (.slice A10_0 s.length c10_0) := (aC BK11.out 0).trans rfl; have hygb11_0_12 := aA BK11.out 0; have hzgb11_1_12 : w12.cell? ⟨gb11, 1, none⟩ = some (.slice A10_1 cx.length c10_1) := (aC BK11.out 1).trans rfl; have hygb11_1_12 := aA BK11.out 1; have hzgb11_2_12 : w12.cell? ⟨gb11, 2, none⟩ = some (.int .i64 f1) := (aC BK11.out 2).trans rfl; have hygb11_2_12 := aA BK11.out 2; have hzgb11_3_12 : w12.cell? ⟨gb11, 3, none⟩ = some (.bool d1) := (aC BK11.out 3).trans rfl; have hygb11_3_12 := aA BK11.out 3) | ((with_reducible refine aY (f := 30) rfl ?_); refine bL (some 31) rfl rfl Try.func30 (by kernel_rfl) rfl #[.agg #[.slice A10_0 s.length c10_0, .slice A10_1 cx.length c10_1, .int .i64 f1, .bool d1]] rfl (by (try simp only [List.map_toArray, List.map_cons, List.map_nil]); first | done | rfl | (simp only [List.length_drop, List.length_take]; rfl)) ?_; (with_reducible refine (impl_FlushDev.calls _ _ s _ _ cx f1 d1 fs cf f2 d2 _ ?s1 ?s2 ?s3 ?s4 Q7.out).mono ?_); (case s1 => exact (Kd.bH HF10_0.out)); (case s2 => exact HC10_0.out); (case s3 => exact (Kd.bH HF10_1.out)); (case s4 => exact HC10_1.out); rintro e_ w13 ⟨v0_, v1_, rfl, ho0, ho1, hb⟩; refine ⟨_, rfl, ?_⟩; obtain ⟨lo13, hi13, el_, eh_, ol_, oh_⟩ := Mem.times HT.out hb; (try rw [← el_] at ho0); obtain ⟨A13_0, c13_0, ev_, hc0_, hf0_⟩ := Mem.new_N (Kd.bR (ok' := fun k_ => lo13 ≤ k_) ho0 (fun _ h_ => by first | exact h_ | exact h_.1)) eh_; subst ev_; (try rw [← el_] at ho1); obtain ⟨A13_1, c13_1, ev_, hc1_, hf1_⟩ := Mem.new_N (Kd.bR (ok' := fun k_ => lo13 ≤ k_) ho1 (fun _ h_ => by first | exact h_ | exact h_.1)) eh_; subst ev_; have n0_ := aD.mk (Kd.aE HF0.out hb); have n1_ := aD.mk (Kd.aE HF2_0.out hb); have n2_ := aD.mk (Kd.aE HF2_1.out hb); have n3_ := aD.mk (Kd.aE HF9.out hb); have n4_ := aD.mk (Kd.R_below HS9.out hb); have n5_ := aD.mk (Kd.aE HF10_0.out hb); have n6_ := aD.mk (Kd.aE HF10_1.out hb); have n7_ := aD.mk (aH BK3.out hb); have n8_ := aD.mk (aH BK11.out hb); have n9_ := aD.mk (aQ HB.out hb); have n10_ := aD.mk (hf0_); have n11_ := aD.mk (hc0_); have n12_ := aD.mk (hf1_); have n13_ := aD.mk (hc1_); have n14_ := aD.mk (And.intro HORD.out (And.intro ol_ oh_)); have n15_ := aD.mk (Nat.le_of_eq eh_); (try clear HF0); (try clear HF2_0); (try clear HF2_1); (try clear HF9); (try clear HS9); (try clear HF10_0); (try clear HF10_1); (try clear BK3); (try clear BK11); (try clear HB); (try clear HF13_0); (try clear HC13_0); (try clear HF13_1); (try clear HC13_1); (try clear HORD); (try clear HT); have HF0 := n0_; have HF2_0 := n1_; have HF2_1 := n2_; have HF9 := n3_; have HS9 := n4_; have HF10_0 := n5_; have HF10_1 := n6_; have BK3 := n7_; have BK11 := n8_; have HB := n9_; have HF13_0 := n10_; have HC13_0 := n11_; have HF13_1 := n12_; have HC13_1 := n13_; have HORD := n14_; have HT := n15_; clear n0_ n1_ n2_ n3_ n4_ n5_ n6_ n7_ n8_ n9_ n10_ n11_ n12_ n13_ n14_ n15_; clear ol_ oh_ el_ eh_ ho0 hf0_ hc0_ ho1 hf1_ hc1_; (try clear hb); have hzgb3_0_13 : w13.cell? ⟨gb3, 0, none⟩ = some (.slice A2_0 s.length c2_0) := (aC BK3.out 0).trans rfl; have hygb3_0_13 := aA BK3.out 0; have hzgb3_1_13 : w13.cell? ⟨gb3, 1, none⟩ = some (.slice A2_1 c.length c2_1) := (aC BK3.out 1).trans rfl; have hygb3_1_13 := aA BK3.out 1; have hzgb3_2_13 : w13.cell? ⟨gb3, 2, none⟩ = some (.int .i64 f0) := (aC BK3.out 2).trans rfl; have hygb3_2_13 := aA BK3.out 2; have hzgb3_3_13 : w13.cell? ⟨gb3, 3, none⟩ = some (.bool d0) := (aC BK3.out 3).trans rfl; have hygb3_3_13 := aA BK3.out 3; have hzgb11_0_13 : w13.cell? ⟨gb11, 0, none⟩ = some (.slice A10_0 s.length c10_0) := (aC BK11.out 0).trans rfl; have hygb11_0_13 := aA BK11.out 0; have hzgb11_1_13 : w13.cell? ⟨gb11, 1, none⟩ = some (.slice A10_1 cx.length c10_1) := (aC BK11.out 1).trans rfl; have hygb11_1_13 := aA BK11.out 1; have hzgb11_2_13 : w13.cell? ⟨gb11, 2, none⟩ = some (.int .i64 f1) := (aC BK11.out 2).trans rfl; have hygb11_2_13 := aA BK11.out 2; have hzgb11_3_13 : w13.cell? ⟨gb11, 3, none⟩ = some (.bool d1) := (aC BK11.out 3).trans rfl; have hygb11_3_13 := aA BK11.out 3) | ((with_reducible refine bE (N := 7) rfl ?_); refine bD ?hg (N := 7) ?hd (cs := #[.slice none 0 0, .slice none 0 0, .int .i64 0, .bool false]) (t := 25) ?hr ?_; (case hd => rfl); (case hg => rfl); (case hr => first | (go_simp; done) | (go_simp; rfl)); intro gb14 hg_ w14 hbox hb; have hge_ : hi13 ≤ gb14 := (by rw [hg_]; exact HT.out); have hlt_ : gb14 + 1 ≤ w14.heap.size := bJ hbox; have n0_ := aD.mk (Kd.aE HF0.out hb); have n1_ := aD.mk (Kd.aE HF2_0.out hb); have n2_ := aD.mk (Kd.aE HF2_1.out hb); have n3_ := aD.mk (Kd.aE HF9.out hb); have n4_ := aD.mk (Kd.R_below HS9.out hb); have n5_ := aD.mk (Kd.aE HF10_0.out hb); have n6_ := aD.mk (Kd.aE HF10_1.out hb); have n7_ := aD.mk (Kd.aE HF13_0.out hb); have n8_ := aD.mk (Kd.aE HF13_1.out hb); have n9_ := aD.mk (aH BK3.out hb); have n10_ := aD.mk (aH BK11.out hb); have n11_ := aD.mk (aQ HB.out hb); have n12_ := aD.mk (hbox); have n13_ := aD.mk (And.intro HORD.out (And.intro hge_ (Nat.le_succ gb14))); have n14_ := aD.mk (hlt_); (try clear HF0); (try clear HF2_0); (try clear HF2_1); (try clear HF9); (try clear HS9); (try clear HF10_0); (try clear HF10_1); (try clear HF13_0); (try clear HF13_1); (try clear BK3); (try clear BK11); (try clear HB); (try clear BK14); (try clear HORD); (try clear HT); have HF0 := n0_; have HF2_0 := n1_; have HF2_1 := n2_; have HF9 := n3_; have HS9 := n4_; have HF10_0 := n5_; have HF10_1 := n6_; have HF13_0 := n7_; have HF13_1 := n8_; have BK3 := n9_; have BK11 := n10_; have HB := n11_; have BK14 := n12_; have HORD := n13_; have HT := n14_; clear n0_ n1_ n2_ n3_ n4_ n5_ n6_ n7_ n8_ n9_ n10_ n11_ n12_ n13_ n14_; clear hb hbox hg_ hge_ hlt_; have hzgb3_0_14 : w14.cell? ⟨gb3, 0, none⟩ = some (.slice A2_0 s.length c2_0) := (aC BK3.out 0).trans rfl; have hygb3_0_14 := aA BK3.out 0; have hzgb3_1_14 : w14.cell? ⟨gb3, 1, none⟩ = some (.slice A2_1 c.length c2_1) := (aC BK3.out 1).trans rfl; have hygb3_1_14 := aA BK3.out 1; have hzgb3_2_14 : w14.cell? ⟨gb3, 2, none⟩ = some (.int .i64 f0) := (aC BK3.out 2).trans rfl; have hygb3_2_14 := aA BK3.out 2; have hzgb3_3_14 : w14.cell? ⟨gb3, 3, none⟩ = some (.bool d0) := (aC BK3.out 3).trans rfl; have hygb3_3_14 := aA BK3.out 3; have hzgb11_0_14 : w14.cell? ⟨gb11, 0, none⟩ = some (.slice A10_0 s.length c10_0) := (aC BK11.out 0).trans rfl; have hygb11_0_14 := aA BK11.out 0; have hzgb11_1_14 : w14.cell? ⟨gb11, 1, none⟩ = some (.slice A10_1 cx.length c10_1) := (aC BK11.out 1).trans rfl; have hygb11_1_14 := aA BK11.out 1; have hzgb11_2_14 : w14.cell? ⟨gb11, 2, none⟩ = some (.int .i64 f1) := (aC BK11.out 2).trans rfl; have hygb11_2_14 := aA BK11.out 2; have hzgb11_3_14 : w14.cell? ⟨gb11, 3, none⟩ = some (.bool d1) := (aC BK11.out 3).trans rfl; have hygb11_3_14 := aA BK11.out 3; have hzgb14_0_14 : w14.cell? ⟨gb14, 0, none⟩ = some (.slice none 0 0) := (aC BK14.out 0).trans rfl; have hygb14_0_14 := aA BK14.out 0; have hzgb14_1_14 : w14.cell? ⟨gb14, 1, none⟩ = some (.slice none 0 0) := (aC BK14.out 1).trans rfl; have hygb14_1_14 := aA BK14.out 1; have hzgb14_2_14 : w14.cell? ⟨gb14, 2, none⟩ = some (.int .i64 0) := (aC BK14.out 2).trans rfl; have hygb14_2_14 := aA BK14.out 2; have hzgb14_3_14 : w14.cell? ⟨gb14, 3, none⟩ = some (.bool false) := (aC BK14.out 3).trans rfl; have hygb14_3_14 := aA BK14.out 3) | ((with_reducible refine bK (t := 25) (p := 7) rfl ?_); refine bG (t := 25) (p := 7) (v := ?vo_w15) (w1 := ((((w14.setCell ⟨gb14, 0, none⟩ (.slice A13_0 fs.length c13_0)).setCell ⟨gb14, 1, none⟩ (.slice A13_1 cf.length c13_1)).setCell ⟨gb14, 2, none⟩ (.int .i64 f2)).setCell ⟨gb14, 3, none⟩ (.bool d2))) ?hg ?ho ?hn ?hr ?_; (case ho => rfl); (case hg => rfl); (case hn => rfl); (case hr => first | (go_simp; done) | (go_simp; rfl)); intro w15 hw_; have hkp : Kept w14 w15 (fun k_ => k_ = gb14) := (by rw [hw_]; exact Kept.setCell (Kept.setCell (Kept.setCell (Kept.setCell (Kept.refl w14 (fun k_ => k_ = gb14)) (.inl rfl) (.slice A13_0 fs.length c13_0)) (.inl rfl) (.slice A13_1 cf.length c13_1)) (.inl rfl) (.int .i64 f2)) (.inl rfl) (.bool d2)); have hge_ : w.heap.size ≤ gb14 := (by have o_ := HORD.out; (try unfold In at *); (try show _ ≠ _); omega); have hbn_ : Below w.heap.size w w15 := (by rw [hw_]; exact aG (aG (aG (aG (HB.out) hge_) hge_) hge_) hge_); have hbk_ : w15.heap[gb14]? = some (.cells #[.slice A13_0 fs.length c13_0, .slice A13_1 cf.length c13_1, .int .i64 f2, .bool d2] 25 (0, 0)) := (by rw [hw_]; exact aT (cs := #[.slice A13_0 fs.length c13_0, .slice A13_1 cf.length c13_1, .int .i64 f2, .bool false]) (cs' := #[.slice A13_0 fs.length c13_0, .slice A13_1 cf.length c13_1, .int .i64 f2, .bool d2]) (aT (cs := #[.slice A13_0 fs.length c13_0, .slice A13_1 cf.length c13_1, .int .i64 0, .bool false]) (cs' := #[.slice A13_0 fs.length c13_0, .slice A13_1 cf.length c13_1, .int .i64 f2, .bool false]) (aT (cs := #[.slice A13_0 fs.length c13_0, .slice none 0 0, .int .i64 0, .bool false]) (cs' := #[.slice A13_0 fs.length c13_0, .slice A13_1 cf.length c13_1, .int .i64 0, .bool false]) (aT (cs := #[.slice none 0 0, .slice none 0 0, .int .i64 0, .bool false]) (cs' := #[.slice A13_0 fs.length c13_0, .slice none 0 0, .int .i64 0, .bool false]) (BK14.out) 0 _ rfl) 1 _ rfl) 2 _ rfl) 3 _ rfl); have hsz_ : (gb14 + 1) ≤ w15.heap.size := Nat.le_trans HT.out hkp.1; have n0_ := aD.mk (Kd.aU HF0.out hkp (fun k_ h1_ h2_ => by have o_ := HORD.out; have t_ := HT.out; (try simp only [In2, Up, In, Ex, Exb] at h1_ h2_); omega)); have n1_ := aD.mk (Kd.aU HF2_0.out hkp (fun k_ h1_ h2_ => by have o_ := HORD.out; have t_ := HT.out; (try simp only [In2, Up, In, Ex, Exb] at h1_ h2_); omega)); have n2_ := aD.mk (Kd.aU HF2_1.out hkp (fun k_ h1_ h2_ => by have o_ := HORD.out; have t_ := HT.out; (try simp only [In2, Up, In, Ex, Exb] at h1_ h2_); omega)); have n3_ := aD.mk (Kd.aU HF9.out hkp (fun k_ h1_ h2_ => by have o_ := HORD.out; have t_ := HT.out; (try simp only [In2, Up, In, Ex, Exb] at h1_ h2_); omega)); have n4_ := aD.mk (Kd.R_kept HS9.out hkp (fun k_ h1_ h2_ => by have o_ := HORD.out; have t_ := HT.out; (try simp only [In2, Up, In, Ex, Exb] at h1_ h2_); omega)); have n5_ := aD.mk (Kd.aU HF10_0.out hkp (fun k_ h1_ h2_ => by have o_ := HORD.out; have t_ := HT.out; (try simp only [In2, Up, In, Ex, Exb] at h1_ h2_); omega)); have n6_ := aD.mk (Kd.aU HF10_1.out hkp (fun k_ h1_ h2_ => by have o_ := HORD.out; have t_ := HT.out; (try simp only [In2, Up, In, Ex, Exb] at h1_ h2_); omega)); have n7_ := aD.mk (Kd.aU HF13_0.out hkp (fun k_ h1_ h2_ => by have o_ := HORD.out; have t_ := HT.out; (try simp only [In2, Up, In, Ex, Exb] at h1_ h2_); omega)); have n8_ := aD.mk (Kd.aU HF13_1.out hkp (fun k_ h1_ h2_ => by have o_ := HORD.out; have t_ := HT.out; (try simp only [In2, Up, In, Ex, Exb] at h1_ h2_); omega)); have n9_ := aD.mk (aV BK3.out hkp (fun h2_ => by have o_ := HORD.out; have t_ := HT.out; (try simp only [In2, Up, In, Ex, Exb] at h2_); omega)); have n10_ := aD.mk (aV BK11.out hkp (fun h2_ => by have o_ := HORD.out; have t_ := HT.out; (try simp only [In2, Up, In, Ex, Exb] at h2_); omega)); have n11_ := aD.mk (hbn_); have n12_ := aD.mk (hbk_); have n13_ := aD.mk (hsz_); (try clear HF0); (try clear HF2_0); (try clear HF2_1); (try clear HF9); (try clear HS9); (try clear HF10_0); (try clear HF10_1); (try clear HF13_0); (try clear HF13_1); (try clear BK3); (try clear BK11); (try clear HB); (try clear BK14); (try clear HT); have HF0 := n0_; have HF2_0 := n1_; have HF2_1 := n2_; have HF9 := n3_; have HS9 := n4_; have HF10_0 := n5_; have HF10_1 := n6_; have HF13_0 := n7_; have HF13_1 := n8_; have BK3 := n9_; have BK11 := n10_; have HB := n11_; have BK14 := n12_; have HT := n13_; clear n0_ n1_ n2_ n3_ n4_ n5_ n6_ n7_ n8_ n9_ n10_ n11_ n12_ n13_; clear hw_ hkp hge_ hbn_ hbk_ hsz_; have hzgb3_0_15 : w15.cell? ⟨gb3, 0, none⟩ = some (.slice A2_0 s.length c2_0) := (aC BK3.out 0).trans rfl; have hygb3_0_15 := aA BK3.out 0; have hzgb3_1_15 : w15.cell? ⟨gb3, 1, none⟩ = some (.slice A2_1 c.length c2_1) := (aC BK3.out 1).trans rfl; have hygb3_1_15 := aA BK3.out 1; have hzgb3_2_15 : w15.cell? ⟨gb3, 2, none⟩ = some (.int .i64 f0) := (aC BK3.out 2).trans rfl; have hygb3_2_15 := aA BK3.out 2; have hzgb3_3_15 : w15.cell? ⟨gb3, 3, none⟩ = some (.bool d0) := (aC BK3.out 3).trans rfl; have hygb3_3_15 := aA BK3.out 3; have hzgb11_0_15 : w15.cell? ⟨gb11, 0, none⟩ = some (.slice A10_0 s.length c10_0) := (aC BK11.out 0).trans rfl; have hygb11_0_15 := aA BK11.out 0; have hzgb11_1_15 : w15.cell? ⟨gb11, 1, none⟩ = some (.slice A10_1 cx.length c10_1) := (aC BK11.out 1).trans rfl; have hygb11_1_15 := aA BK11.out 1; have hzgb11_2_15 : w15.cell? ⟨gb11, 2, none⟩ = some (.int .i64 f1) := (aC BK11.out 2).trans rfl; have hygb11_2_15 := aA BK11.out 2; have hzgb11_3_15 : w15.cell? ⟨gb11, 3, none⟩ = some (.bool d1) := (aC BK11.out 3).trans rfl; have hygb11_3_15 := aA BK11.out 3; have hzgb14_0_15 : w15.cell? ⟨gb14, 0, none⟩ = some (.slice A13_0 fs.length c13_0) := (aC BK14.out 0).trans rfl; have hygb14_0_15 := aA BK14.out 0; have hzgb14_1_15 : w15.cell? ⟨gb14, 1, none⟩ = some (.slice A13_1 cf.length c13_1) := (aC BK14.out 1).trans rfl; have hygb14_1_15 := aA BK14.out 1; have hzgb14_2_15 : w15.cell? ⟨gb14, 2, none⟩ = some (.int .i64 f2) := (aC BK14.out 2).trans rfl; have hygb14_2_15 := aA BK14.out 2; have hzgb14_3_15 : w15.cell? ⟨gb14, 3, none⟩ = some (.bool d2) := (aC BK14.out 3).trans rfl; have hygb14_3_15 := aA BK14.out 3))
 go_loopg [8] (s.length) (fun kq v16 w' => ∃ (i16 : Nat) (x16 : Int), v16 = .int .i64 x16 ∧ aD (x16 = (i16 : Int)) ∧ aD (i16 + kq = s.length) ∧ aD ((gb14 + 1) ≤ w'.heap.size) ∧ aD (Kd.F (Kd.int .u8) w' (In 0 w.heap.size) A0 l0.length l0) ∧ aD (Kd.F (Kd.slice 5 (Kd.int .u8)) w' (In lo2 hi2) A2_0 s.length s) ∧ aD (Kd.F k50 w' (In lo2 hi2) A2_1 c.length c) ∧ aD (Kd.F (Kd.int .u8) w' (In lo9 hi9) A9 yb.length yb) ∧ aD (Kd.R (Kd.int .u8) 5 w' lo9 (In lo9 hi9) (.slice A9 yb.length c9) yb) ∧ aD (Kd.F (Kd.slice 5 (Kd.int .u8)) w' (In lo10 hi10) A10_0 s.length s) ∧ aD (Kd.F k50 w' (In lo10 hi10) A10_1 cx.length cx) ∧ aD (Kd.F (Kd.slice 5 (Kd.int .u8)) w' (In lo13 hi13) A13_0 fs.length fs) ∧ aD (Kd.F k50 w' (In lo13 hi13) A13_1 cf.length cf) ∧ aD (w'.heap[gb3]? = some (.cells #[.slice A2_0 s.length c2_0, .slice A2_1 c.length c2_1, .int .i64 f0, .bool d0] 25 (0, 0))) ∧ aD (w'.heap[gb11]? = some (.cells #[.slice A10_0 s.length c10_0, .slice A10_1 cx.length c10_1, .int .i64 f1, .bool d1] 25 (0, 0))) ∧ aD (w'.heap[gb14]? = some (.cells #[.slice A13_0 fs.length c13_0, .slice A13_1 cf.length c13_1, .int .i64 f2, .bool d2] 25 (0, 0))) ∧ aD (Below w.heap.size w w'))
 case atStart => exact ⟨0, 0, rfl, ⟨rfl⟩, ⟨Nat.zero_add _⟩, HT, HF0, HF2_0, HF2_1, HF9, HS9, HF10_0, HF10_1, HF13_0, HF13_1, BK3, BK11, BK14, HB⟩
 clear HF0 HF2_0 HF2_1 HF9 HS9 HF10_0 HF10_1 HF13_0 HF13_1 BK3 BK11 BK14 HB HT
 obtain ⟨i16, x16, rfl, HI16, HK16, HT, HF0, HF2_0, HF2_1, HF9, HS9, HF10_0, HF10_1, HF13_0, HF13_1, BK3, BK11, BK14, HB⟩ := hrel
 rcases gk with _ | k1
 rotate_left
 ·have hp_ : 0 ≤ x16 := (by have := HI16.out; omega)
  have hq_ : x16 < (s.length : Int) := (by have := HI16.out; have := HK16.out; omega)
  have hd_ : decide (x16 < (s.length : Int)) = true := decide_eq_true hq_
  have hzgb3_0_16 : wr.cell? ⟨gb3, 0, none⟩ = some (.slice A2_0 s.length c2_0) := (aC BK3.out 0).trans rfl
  have hygb3_0_16 := aA BK3.out 0
  have hzgb3_1_16 : wr.cell? ⟨gb3, 1, none⟩ = some (.slice A2_1 c.length c2_1) := (aC BK3.out 1).trans rfl
  have hygb3_1_16 := aA BK3.out 1
  have hzgb3_2_16 : wr.cell? ⟨gb3, 2, none⟩ = some (.int .i64 f0) := (aC BK3.out 2).trans rfl
  have hygb3_2_16 := aA BK3.out 2
  have hzgb3_3_16 : wr.cell? ⟨gb3, 3, none⟩ = some (.bool d0) := (aC BK3.out 3).trans rfl
  have hygb3_3_16 := aA BK3.out 3
  have hzgb11_0_16 : wr.cell? ⟨gb11, 0, none⟩ = some (.slice A10_0 s.length c10_0) := (aC BK11.out 0).trans rfl
  have hygb11_0_16 := aA BK11.out 0
  have hzgb11_1_16 : wr.cell? ⟨gb11, 1, none⟩ = some (.slice A10_1 cx.length c10_1) := (aC BK11.out 1).trans rfl
  have hygb11_1_16 := aA BK11.out 1
  have hzgb11_2_16 : wr.cell? ⟨gb11, 2, none⟩ = some (.int .i64 f1) := (aC BK11.out 2).trans rfl
  have hygb11_2_16 := aA BK11.out 2
  have hzgb11_3_16 : wr.cell? ⟨gb11, 3, none⟩ = some (.bool d1) := (aC BK11.out 3).trans rfl
  have hygb11_3_16 := aA BK11.out 3
  have hzgb14_0_16 : wr.cell? ⟨gb14, 0, none⟩ = some (.slice A13_0 fs.length c13_0) := (aC BK14.out 0).trans rfl
  have hygb14_0_16 := aA BK14.out 0
  have hzgb14_1_16 : wr.cell? ⟨gb14, 1, none⟩ = some (.slice A13_1 cf.length c13_1) := (aC BK14.out 1).trans rfl
  have hygb14_1_16 := aA BK14.out 1
  have hzgb14_2_16 : wr.cell? ⟨gb14, 2, none⟩ = some (.int .i64 f2) := (aC BK14.out 2).trans rfl
  have hygb14_2_16 := aA BK14.out 2
  have hzgb14_3_16 : wr.cell? ⟨gb14, 3, none⟩ = some (.bool d2) := (aC BK14.out 3).trans rfl
  have hygb14_3_16 := aA BK14.out 3
  obtain ⟨bb, kx, kf, kd, h1_, h2_, h3_, h4_⟩ := HR.out i16 (by have := HK16.out; omega)
  rw [← HI16.out] at h1_ h2_ h3_ h4_
  have RX := aD.mk h1_
  have RF := aD.mk h2_
  have RE := aD.mk h3_
  have hlf_ : x16 < (fs.length : Int) := (by rw [HFL.out]; exact hq_)
  have hse1_ : ((strOfNums bb).toList == (strOfNums bb).toList) = true := beq_self_eq_true _
  have hse2_ : ((strOfNums bb).toList != (strOfNums bb).toList) = false := by simp
  clear h1_ h2_ h3_
  by_cases hin_ : x16 = n
  rotate_left
  ·have RD := aD.mk (h4_ hin_)
   have hd2_ : (x16 != n) = true := bne_iff_ne.mpr hin_
   clear h4_ hin_
   try go_wp2
   obtain ⟨ad17, Ae17, ce17, ee17, hx17_0, hl17, hf17⟩ := F_row HF13_0.out x16 hp_ hlf_
   cases ee17
   rw [RE.out] at hx17_0 hl17 hf17
   have HF17 := aD.mk hf17
   have HC17 := aD.mk hl17
   clear hf17 hl17
   have HX17 := aD.mk hx17_0
   have n_ := aD.mk (Kd.F_drew HF0.out)
   clear HF0
   have HF0 := n_
   clear n_
   have n_ := aD.mk (Kd.F_drew HF2_0.out)
   clear HF2_0
   have HF2_0 := n_
   clear n_
   have n_ := aD.mk (Kd.F_drew HF2_1.out)
   clear HF2_1
   have HF2_1 := n_
   clear n_
   have n_ := aD.mk (Kd.F_drew HF9.out)
   clear HF9
   have HF9 := n_
   clear n_
   have n_ := aD.mk (Kd.R_drew HS9.out)
   clear HS9
   have HS9 := n_
   clear n_
   have n_ := aD.mk (Kd.F_drew HF10_0.out)
   clear HF10_0
   have HF10_0 := n_
   clear n_
   have n_ := aD.mk (Kd.F_drew HF10_1.out)
   clear HF10_1
   have HF10_1 := n_
   clear n_
   have n_ := aD.mk (Kd.F_drew HF13_0.out)
   clear HF13_0
   have HF13_0 := n_
   clear n_
   have n_ := aD.mk (Kd.F_drew HF13_1.out)
   clear HF13_1
   have HF13_1 := n_
   clear n_
   have n_ := aD.mk (Kd.F_drew HF17.out)
   clear HF17
   have HF17 := n_
   clear n_
   have n_ := aD.mk (bA BK3.out)
   clear BK3
   have BK3 := n_
   clear n_
   have n_ := aD.mk (bA BK11.out)
   clear BK11
   have BK11 := n_
   clear n_
   have n_ := aD.mk (bA BK14.out)
   clear BK14
   have BK14 := n_
   clear n_
   have n_ := aD.mk (aN HB.out)
   clear HB
   have HB := n_
   clear n_
   have n_ := aD.mk (show _ ≤ wr.drew.heap.size from HT.out)
   clear HT
   have HT := n_
   clear n_
   have n_ := aD.mk (show wr.drew.cell? (ad17.add x16.toNat) = some (.slice Ae17 bb.length ce17) from HX17.out)
   clear HX17
   have HX17 := n_
   clear n_
   refine start_ (n := 38) (S := fun w' => w'.cell? ⟨gb11, 0, none⟩ = some (.slice A10_0 s.length c10_0) ∧ w'.cell? ⟨gb11, 1, none⟩ = some (.slice A10_1 cx.length c10_1) ∧ w'.cell? ⟨gb11, 2, none⟩ = some (.int .i64 f1) ∧ w'.cell? ⟨gb11, 3, none⟩ = some (.bool d1) ∧ w'.cell? ⟨gb3, 0, none⟩ = some (.slice A2_0 s.length c2_0) ∧ w'.cell? ⟨gb3, 1, none⟩ = some (.slice A2_1 c.length c2_1) ∧ w'.cell? ⟨gb3, 2, none⟩ = some (.int .i64 f0) ∧ w'.cell? ⟨gb3, 3, none⟩ = some (.bool d0) ∧ w'.cell? ⟨gb14, 0, none⟩ = some (.slice (some ad17) fs.length c13_0) ∧ w'.cell? ⟨gb14, 1, none⟩ = some (.slice A13_1 cf.length c13_1) ∧ w'.cell? ⟨gb14, 2, none⟩ = some (.int .i64 f2) ∧ w'.cell? ⟨gb14, 3, none⟩ = some (.bool d2) ∧ w'.cell? (ad17.add x16.toNat) = some (.slice Ae17 bb.length ce17)) (ds := []) #[false, false, false, false, false, false, false, false, false, false, false, false, false, false, false, false, false, false, false, false, false, false, false, false, false, false, false, false, false, false, false, false, false, false, false, false, false, false] (by kernel_rfl) rfl rfl ⟨(aC BK11.out 0).trans rfl, (aC BK11.out 1).trans rfl, (aC BK11.out 2).trans rfl, (aC BK11.out 3).trans rfl, (aC BK3.out 0).trans rfl, (aC BK3.out 1).trans rfl, (aC BK3.out 2).trans rfl, (aC BK3.out 3).trans rfl, (aC BK14.out 0).trans rfl, (aC BK14.out 1).trans rfl, (aC BK14.out 2).trans rfl, (aC BK14.out 3).trans rfl, HX17.out⟩ (fun hHeld => ?_)
   generalize wr.drew = w18 at HF0 HF2_0 HF2_1 HF9 HS9 HF10_0 HF10_1 HF13_0 HF13_1 HF17 BK3 BK11 BK14 HB HT HX17 hHeld ⊢
   refine bF (i := 0) (N := some 39) (v := ?_) (a' := ?_) #[true, false, false, false, false, false, false, false, false, false, false, false, false, false, false, false, false, false, false, false, false, false, false, false, false, false, false, false, false, false, false, false, false, false, false, false, false, false] rfl rfl (by kernel_rfl) (fun _ _ _ h => h) (Or.inl ⟨by rfl, ?_⟩) ?_ ?_
   rotate_left
   ·intro w'
    go_simp
    with_reducible rfl
   rotate_left
   ·simp only [Act.put, lA, lB, lC, aW, aX]
    rfl
   refine bF (i := 1) (N := some 40) (v := ?_) (a' := ?_) #[true, true, false, false, false, false, false, false, false, false, false, false, false, false, false, false, false, false, false, false, false, false, false, false, false, false, false, false, false, false, false, false, false, false, false, false, false, false] rfl rfl (by kernel_rfl) (fun _ _ _ h => h) (Or.inl ⟨by rfl, ?_⟩) ?_ ?_
   rotate_left
   ·intro w'
    go_simp
    with_reducible rfl
   rotate_left
   ·simp only [Act.put, lA, lB, lC, aW, aX]
    rfl
   refine bF (i := 2) (N := some 41) (v := ?_) (a' := ?_) #[true, true, true, false, false, false, false, false, false, false, false, false, false, false, false, false, false, false, false, false, false, false, false, false, false, false, false, false, false, false, false, false, false, false, false, false, false, false] rfl rfl (by kernel_rfl) (fun _ _ _ h => h) (Or.inl ⟨by rfl, ?_⟩) ?_ ?_
   rotate_left
   ·intro w'
    go_simp
    with_reducible rfl
   rotate_left
   ·simp only [Act.put, lA, lB, lC, aW, aX]
    rfl
   refine bF (i := 3) (N := some 42) (v := ?_) (a' := ?_) #[true, true, true, true, false, false, false, false, false, false, false, false, false, false, false, false, false, false, false, false, false, false, false, false, false, false, false, false, false, false, false, false, false, false, false, false, false, false] rfl rfl (by kernel_rfl) (fun _ _ _ h => h) (Or.inl ⟨by rfl, ?_⟩) ?_ ?_
   rotate_left
   ·intro w'
    go_simp
    with_reducible rfl
   rotate_left
   ·simp only [Act.put, lA, lB, lC, aW, aX]
    rfl
   refine take_ (i := 4) (N := some 43) (v := ?_) (a' := ?_) #[true, true, true, true, true, false, false, false, false, false, false, false, false, false, false, false, false, false, false, false, false, false, false, false, false, false, false, false, false, false, false, false, false, false, false, false, false, false] rfl rfl (by kernel_rfl) (fun _ _ _ h => h) (Or.inl ⟨by rfl, ?_⟩) hHeld ?_ ?_
   rotate_left
   ·rintro w' ⟨s0, s1, s2, s3, s4, s5, s6, s7, s8, s9, s10, s11, s12⟩
    go_simp
    with_reducible rfl
   rotate_left
   ·simp only [Act.put, lA, lB, lC, aW, aX]
    rfl
   refine bF (i := 5) (N := some 44) (v := ?_) (a' := ?_) #[true, true, true, true, true, true, false, false, false, false, false, false, false, false, false, false, false, false, false, false, false, false, false, false, false, false, false, false, false, false, false, false, false, false, false, false, false, false] rfl rfl (by kernel_rfl) (fun _ _ _ h => h) (Or.inl ⟨by rfl, ?_⟩) ?_ ?_
   rotate_left
   ·intro w'
    go_simp
    with_reducible rfl
   rotate_left
   ·simp only [Act.put, lA, lB, lC, aW, aX]
    rfl
   refine take_ (i := 8) (N := some 47) (v := ?_) (a' := ?_) #[true, true, true, true, true, true, false, false, true, false, false, false, false, false, false, false, false, false, false, false, false, false, false, false, false, false, false, false, false, false, false, false, false, false, false, false, false, false] rfl rfl (by kernel_rfl) (fun _ _ _ h => h) (Or.inl ⟨by rfl, ?_⟩) hHeld ?_ ?_
   rotate_left
   ·rintro w' ⟨s0, s1, s2, s3, s4, s5, s6, s7, s8, s9, s10, s11, s12⟩
    go_simp
    with_reducible rfl
   rotate_left
   ·simp only [Act.put, lA, lB, lC, aW, aX]
    rfl
   refine bF (i := 9) (N := some 48) (v := ?_) (a' := ?_) #[true, true, true, true, true, true, false, false, true, true, false, false, false, false, false, false, false, false, false, false, false, false, false, false, false, false, false, false, false, false, false, false, false, false, false, false, false, false] rfl rfl (by kernel_rfl) (fun _ _ _ h => h) (Or.inl ⟨by rfl, ?_⟩) ?_ ?_
   rotate_left
   ·intro w'
    go_simp
    with_reducible rfl
   rotate_left
   ·simp only [Act.put, lA, lB, lC, aW, aX]
    rfl
   refine one_ (i := 6) (N := some 45) #[true, true, true, true, true, true, true, false, true, true, false, false, false, false, false, false, false, false, false, false, false, false, false, false, false, false, false, false, false, false, false, false, false, false, false, false, false, false] rfl rfl (by kernel_rfl) (by decide) (fun K hK => ?_)
   refine goes_ Try.func22 (by kernel_rfl) rfl #[.agg #[.slice A10_0 s.length c10_0, .slice A10_1 cx.length c10_1, .int .i64 f1, .bool d1], .int .i64 x16] (by rfl) rfl rfl (by (try simp only [List.map_toArray, List.map_cons, List.map_nil]); first | done | rfl | (simp only [List.length_drop, List.length_take]; rfl)) ?_
   (with_reducible refine (impl_ReadSec.calls kx (In lo10 hi10) _ _ s (In lo10 hi10) _ _ cx f1 d1 x16 bb _ ?s1 ?s2 RX.out).mono ?_)
   (case s1 => exact ⟨_, _, rfl, HC10_0.out, HF10_0.out⟩)
   (case s2 => exact ⟨_, _, rfl, HC10_1.out, HF10_1.out⟩)
   rintro e_ w19 ⟨v0_, rfl, ho0, hb⟩
   refine ⟨_, rfl, ?_⟩
   obtain ⟨lo19, hi19, el_, eh_, ol_, oh_⟩ := Mem.times HT.out hb
   (try rw [← el_] at ho0)
   obtain ⟨A19_0, c19_0, ev_, hc0_, hf0_, hs0_⟩ := Mem.new_R ho0 eh_
   subst ev_
   have n0_ := aD.mk (Kd.aE HF0.out hb)
   have n1_ := aD.mk (Kd.aE HF2_0.out hb)
   have n2_ := aD.mk (Kd.aE HF2_1.out hb)
   have n3_ := aD.mk (Kd.aE HF9.out hb)
   have n4_ := aD.mk (Kd.R_below HS9.out hb)
   have n5_ := aD.mk (Kd.aE HF10_0.out hb)
   have n6_ := aD.mk (Kd.aE HF10_1.out hb)
   have n7_ := aD.mk (Kd.aE HF13_0.out hb)
   have n8_ := aD.mk (Kd.aE HF13_1.out hb)
   have n9_ := aD.mk (Kd.aE HF17.out hb)
   have n10_ := aD.mk (pw_cell_below hb HX17.out)
   have n11_ := aD.mk (aH BK3.out hb)
   have n12_ := aD.mk (aH BK11.out hb)
   have n13_ := aD.mk (aH BK14.out hb)
   have n14_ := aD.mk (aQ HB.out hb)
   have n15_ := aD.mk (hf0_)
   have n16_ := aD.mk (hc0_)
   have n17_ := aD.mk (hs0_)
   have n18_ := aD.mk (And.intro HORD.out (And.intro ol_ oh_))
   have n19_ := aD.mk (Nat.le_of_eq eh_)
   (try clear HF0)
   (try clear HF2_0)
   (try clear HF2_1)
   (try clear HF9)
   (try clear HS9)
   (try clear HF10_0)
   (try clear HF10_1)
   (try clear HF13_0)
   (try clear HF13_1)
   (try clear HF17)
   (try clear HX17)
   (try clear BK3)
   (try clear BK11)
   (try clear BK14)
   (try clear HB)
   (try clear HF19_0)
   (try clear HC19_0)
   (try clear HS19_0)
   (try clear HORD)
   (try clear HT)
   have HF0 := n0_
   have HF2_0 := n1_
   have HF2_1 := n2_
   have HF9 := n3_
   have HS9 := n4_
   have HF10_0 := n5_
   have HF10_1 := n6_
   have HF13_0 := n7_
   have HF13_1 := n8_
   have HF17 := n9_
   have HX17 := n10_
   have BK3 := n11_
   have BK11 := n12_
   have BK14 := n13_
   have HB := n14_
   have HF19_0 := n15_
   have HC19_0 := n16_
   have HS19_0 := n17_
   have HORD := n18_
   have HT := n19_
   clear n0_ n1_ n2_ n3_ n4_ n5_ n6_ n7_ n8_ n9_ n10_ n11_ n12_ n13_ n14_ n15_ n16_ n17_ n18_ n19_
   clear ol_ oh_ el_ eh_ ho0 hf0_ hc0_ hs0_
   (try clear hb)
   refine hK.out _ _ ⟨(aC BK11.out 0).trans rfl, (aC BK11.out 1).trans rfl, (aC BK11.out 2).trans rfl, (aC BK11.out 3).trans rfl, (aC BK3.out 0).trans rfl, (aC BK3.out 1).trans rfl, (aC BK3.out 2).trans rfl, (aC BK3.out 3).trans rfl, (aC BK14.out 0).trans rfl, (aC BK14.out 1).trans rfl, (aC BK14.out 2).trans rfl, (aC BK14.out 3).trans rfl, HX17.out⟩ (fun hHeld => ?_)
   clear hK K
   refine norm_ (a' := ?_) ?_ ?_
   rotate_left
   ·show Act.put _ (some 45) _ = _
    simp only [Act.put, lA, lB, lC, aW, aX]
    rfl
   clear hHeld
   refine restart_ (S' := fun w' => w'.cell? ⟨gb11, 0, none⟩ = some (.slice A10_0 s.length c10_0) ∧ w'.cell? ⟨gb11, 1, none⟩ = some (.slice A10_1 cx.length c10_1) ∧ w'.cell? ⟨gb11, 2, none⟩ = some (.int .i64 f1) ∧ w'.cell? ⟨gb11, 3, none⟩ = some (.bool d1) ∧ w'.cell? ⟨gb3, 0, none⟩ = some (.slice A2_0 s.length c2_0) ∧ w'.cell? ⟨gb3, 1, none⟩ = some (.slice A2_1 c.length c2_1) ∧ w'.cell? ⟨gb3, 2, none⟩ = some (.int .i64 f0) ∧ w'.cell? ⟨gb3, 3, none⟩ = some (.bool d0) ∧ w'.cell? ⟨gb14, 0, none⟩ = some (.slice (some ad17) fs.length c13_0) ∧ w'.cell? ⟨gb14, 1, none⟩ = some (.slice A13_1 cf.length c13_1) ∧ w'.cell? ⟨gb14, 2, none⟩ = some (.int .i64 f2) ∧ w'.cell? ⟨gb14, 3, none⟩ = some (.bool d2) ∧ w'.cell? (ad17.add x16.toNat) = some (.slice Ae17 bb.length ce17) ∧ Kd.C (Kd.int .u8) w' A19_0 bb.length bb) (fun w' h_ => (by obtain ⟨s0, s1, s2, s3, s4, s5, s6, s7, s8, s9, s10, s11, s12, _⟩ := h_; exact ⟨s0, s1, s2, s3, s4, s5, s6, s7, s8, s9, s10, s11, s12⟩)) ⟨(aC BK11.out 0).trans rfl, (aC BK11.out 1).trans rfl, (aC BK11.out 2).trans rfl, (aC BK11.out 3).trans rfl, (aC BK3.out 0).trans rfl, (aC BK3.out 1).trans rfl, (aC BK3.out 2).trans rfl, (aC BK3.out 3).trans rfl, (aC BK14.out 0).trans rfl, (aC BK14.out 1).trans rfl, (aC BK14.out 2).trans rfl, (aC BK14.out 3).trans rfl, HX17.out, (Kd.bH HF19_0.out)⟩ (fun hHeld => ?_)
   refine take_ (i := 7) (N := some 46) (v := ?_) (a' := ?_) #[true, true, true, true, true, true, true, true, true, true, false, false, false, false, false, false, false, false, false, false, false, false, false, false, false, false, false, false, false, false, false, false, false, false, false, false, false, false] rfl rfl (by kernel_rfl) (fun _ _ _ h => h) (Or.inl ⟨by rfl, ?_⟩) hHeld ?_ ?_
   rotate_left
   ·rintro w' ⟨s0, s1, s2, s3, s4, s5, s6, s7, s8, s9, s10, s11, s12, s13⟩
    have hcv_ := Kd.C_string (P := Try.prog) (A := A19_0) (c := c19_0) Try.underlying37 Try.underlying5 Try.underlying9 s13
    go_simp
    with_reducible rfl
   rotate_left
   ·simp only [Act.put, lA, lB, lC, aW, aX]
    rfl
   refine one_ (i := 10) (N := some 49) #[true, true, true, true, true, true, true, true, true, true, true, false, false, false, false, false, false, false, false, false, false, false, false, false, false, false, false, false, false, false, false, false, false, false, false, false, false, false] rfl rfl (by kernel_rfl) (by decide) (fun K hK => ?_)
   refine goes_ Try.func22 (by kernel_rfl) rfl #[.agg #[.slice A2_0 s.length c2_0, .slice A2_1 c.length c2_1, .int .i64 f0, .bool d0], .int .i64 x16] (by rfl) rfl rfl (by (try simp only [List.map_toArray, List.map_cons, List.map_nil]); first | done | rfl | (simp only [List.length_drop, List.length_take]; rfl)) ?_
   (with_reducible refine (impl_ReadSec.calls kd (In lo2 hi2) _ _ s (In lo2 hi2) _ _ c f0 d0 x16 bb _ ?s1 ?s2 RD.out).mono ?_)
   (case s1 => exact ⟨_, _, rfl, HC2_0.out, HF2_0.out⟩)
   (case s2 => exact ⟨_, _, rfl, HC2_1.out, HF2_1.out⟩)
   rintro e_ w20 ⟨v0_, rfl, ho0, hb⟩
   refine ⟨_, rfl, ?_⟩
   obtain ⟨lo20, hi20, el_, eh_, ol_, oh_⟩ := Mem.times HT.out hb
   (try rw [← el_] at ho0)
   obtain ⟨A20_0, c20_0, ev_, hc0_, hf0_, hs0_⟩ := Mem.new_R ho0 eh_
   subst ev_
   have n0_ := aD.mk (Kd.aE HF0.out hb)
   have n1_ := aD.mk (Kd.aE HF2_0.out hb)
   have n2_ := aD.mk (Kd.aE HF2_1.out hb)
   have n3_ := aD.mk (Kd.aE HF9.out hb)
   have n4_ := aD.mk (Kd.R_below HS9.out hb)
   have n5_ := aD.mk (Kd.aE HF10_0.out hb)
   have n6_ := aD.mk (Kd.aE HF10_1.out hb)
   have n7_ := aD.mk (Kd.aE HF13_0.out hb)
   have n8_ := aD.mk (Kd.aE HF13_1.out hb)
   have n9_ := aD.mk (Kd.aE HF17.out hb)
   have n10_ := aD.mk (Kd.aE HF19_0.out hb)
   have n11_ := aD.mk (Kd.R_below HS19_0.out hb)
   have n12_ := aD.mk (pw_cell_below hb HX17.out)
   have n13_ := aD.mk (aH BK3.out hb)
   have n14_ := aD.mk (aH BK11.out hb)
   have n15_ := aD.mk (aH BK14.out hb)
   have n16_ := aD.mk (aQ HB.out hb)
   have n17_ := aD.mk (hf0_)
   have n18_ := aD.mk (hc0_)
   have n19_ := aD.mk (hs0_)
   have n20_ := aD.mk (And.intro HORD.out (And.intro ol_ oh_))
   have n21_ := aD.mk (Nat.le_of_eq eh_)
   (try clear HF0)
   (try clear HF2_0)
   (try clear HF2_1)
   (try clear HF9)
   (try clear HS9)
   (try clear HF10_0)
   (try clear HF10_1)
   (try clear HF13_0)
   (try clear HF13_1)
   (try clear HF17)
   (try clear HF19_0)
   (try clear HS19_0)
   (try clear HX17)
   (try clear BK3)
   (try clear BK11)
   (try clear BK14)
   (try clear HB)
   (try clear HF20_0)
   (try clear HC20_0)
   (try clear HS20_0)
   (try clear HORD)
   (try clear HT)
   have HF0 := n0_
   have HF2_0 := n1_
   have HF2_1 := n2_
   have HF9 := n3_
   have HS9 := n4_
   have HF10_0 := n5_
   have HF10_1 := n6_
   have HF13_0 := n7_
   have HF13_1 := n8_
   have HF17 := n9_
   have HF19_0 := n10_
   have HS19_0 := n11_
   have HX17 := n12_
   have BK3 := n13_
   have BK11 := n14_
   have BK14 := n15_
   have HB := n16_
   have HF20_0 := n17_
   have HC20_0 := n18_
   have HS20_0 := n19_
   have HORD := n20_
   have HT := n21_
   clear n0_ n1_ n2_ n3_ n4_ n5_ n6_ n7_ n8_ n9_ n10_ n11_ n12_ n13_ n14_ n15_ n16_ n17_ n18_ n19_ n20_ n21_
   clear ol_ oh_ el_ eh_ ho0 hf0_ hc0_ hs0_
   (try clear hb)
   refine hK.out _ _ ⟨(aC BK11.out 0).trans rfl, (aC BK11.out 1).trans rfl, (aC BK11.out 2).trans rfl, (aC BK11.out 3).trans rfl, (aC BK3.out 0).trans rfl, (aC BK3.out 1).trans rfl, (aC BK3.out 2).trans rfl, (aC BK3.out 3).trans rfl, (aC BK14.out 0).trans rfl, (aC BK14.out 1).trans rfl, (aC BK14.out 2).trans rfl, (aC BK14.out 3).trans rfl, HX17.out, (Kd.bH HF19_0.out)⟩ (fun hHeld => ?_)
   clear hK K
   refine norm_ (a' := ?_) ?_ ?_
   rotate_left
   ·show Act.put _ (some 49) _ = _
    simp only [Act.put, lA, lB, lC, aW, aX]
    rfl
   clear hHeld
   refine restart_ (S' := fun w' => w'.cell? ⟨gb11, 0, none⟩ = some (.slice A10_0 s.length c10_0) ∧ w'.cell? ⟨gb11, 1, none⟩ = some (.slice A10_1 cx.length c10_1) ∧ w'.cell? ⟨gb11, 2, none⟩ = some (.int .i64 f1) ∧ w'.cell? ⟨gb11, 3, none⟩ = some (.bool d1) ∧ w'.cell? ⟨gb3, 0, none⟩ = some (.slice A2_0 s.length c2_0) ∧ w'.cell? ⟨gb3, 1, none⟩ = some (.slice A2_1 c.length c2_1) ∧ w'.cell? ⟨gb3, 2, none⟩ = some (.int .i64 f0) ∧ w'.cell? ⟨gb3, 3, none⟩ = some (.bool d0) ∧ w'.cell? ⟨gb14, 0, none⟩ = some (.slice (some ad17) fs.length c13_0) ∧ w'.cell? ⟨gb14, 1, none⟩ = some (.slice A13_1 cf.length c13_1) ∧ w'.cell? ⟨gb14, 2, none⟩ = some (.int .i64 f2) ∧ w'.cell? ⟨gb14, 3, none⟩ = some (.bool d2) ∧ w'.cell? (ad17.add x16.toNat) = some (.slice Ae17 bb.length ce17) ∧ Kd.C (Kd.int .u8) w' A19_0 bb.length bb ∧ Kd.C (Kd.int .u8) w' A20_0 bb.length bb) (fun w' h_ => (by obtain ⟨s0, s1, s2, s3, s4, s5, s6, s7, s8, s9, s10, s11, s12, s13, _⟩ := h_; exact ⟨s0, s1, s2, s3, s4, s5, s6, s7, s8, s9, s10, s11, s12, s13⟩)) ⟨(aC BK11.out 0).trans rfl, (aC BK11.out 1).trans rfl, (aC BK11.out 2).trans rfl, (aC BK11.out 3).trans rfl, (aC BK3.out 0).trans rfl, (aC BK3.out 1).trans rfl, (aC BK3.out 2).trans rfl, (aC BK3.out 3).trans rfl, (aC BK14.out 0).trans rfl, (aC BK14.out 1).trans rfl, (aC BK14.out 2).trans rfl, (aC BK14.out 3).trans rfl, HX17.out, (Kd.bH HF19_0.out), (Kd.bH HF20_0.out)⟩ (fun hHeld => ?_)
   refine take_ (i := 11) (N := some 50) (v := ?_) (a' := ?_) #[true, true, true, true, true, true, true, true, true, true, true, true, false, false, false, false, false, false, false, false, false, false, false, false, false, false, false, false, false, false, false, false, false, false, false, false, false, false] rfl rfl (by kernel_rfl) (fun _ _ _ h => h) (Or.inl ⟨by rfl, ?_⟩) hHeld ?_ ?_
   rotate_left
   ·rintro w' ⟨s0, s1, s2, s3, s4, s5, s6, s7, s8, s9, s10, s11, s12, s13, s14⟩
    have hcv_ := Kd.C_string (P := Try.prog) (A := A20_0) (c := c20_0) Try.underlying37 Try.underlying5 Try.underlying9 s14
    go_simp
    with_reducible rfl
   rotate_left
   ·simp only [Act.put, lA, lB, lC, aW, aX]
    rfl
   refine bF (i := 12) (N := some 51) (v := ?_) (a' := ?_) #[true, true, true, true, true, true, true, true, true, true, true, true, true, false, false, false, false, false, false, false, false, false, false, false, false, false, false, false, false, false, false, false, false, false, false, false, false, false] rfl rfl (by kernel_rfl) (fun _ _ _ h => h) (Or.inl ⟨by rfl, ?_⟩) ?_ ?_
   rotate_left
   ·intro w'
    go_simp
    with_reducible rfl
   rotate_left
   ·simp only [Act.put, lA, lB, lC, aW, aX]
    rfl
   refine bF (i := 13) (N := some 52) (v := ?_) (a' := ?_) #[true, true, true, true, true, true, true, true, true, true, true, true, true, true, false, false, false, false, false, false, false, false, false, false, false, false, false, false, false, false, false, false, false, false, false, false, false, false] rfl rfl (by kernel_rfl) (fun _ _ _ h => h) (Or.inl ⟨by rfl, ?_⟩) ?_ ?_
   rotate_left
   ·intro w'
    go_simp
    with_reducible rfl
   rotate_left
   ·simp only [Act.put, lA, lB, lC, aW, aX]
    rfl
   refine bF (i := 14) (N := some 53) (v := ?_) (a' := ?_) #[true, true, true, true, true, true, true, true, true, true, true, true, true, true, true, false, false, false, false, false, false, false, false, false, false, false, false, false, false, false, false, false, false, false, false, false, false, false] rfl rfl (by kernel_rfl) (fun _ _ _ h => h) (Or.inl ⟨by rfl, ?_⟩) ?_ ?_
   rotate_left
   ·intro w'
    go_simp
    with_reducible rfl
   rotate_left
   ·simp only [Act.put, lA, lB, lC, aW, aX]
    rfl
   refine take_ (i := 15) (N := some 54) (v := ?_) (a' := ?_) #[true, true, true, true, true, true, true, true, true, true, true, true, true, true, true, true, false, false, false, false, false, false, false, false, false, false, false, false, false, false, false, false, false, false, false, false, false, false] rfl rfl (by kernel_rfl) (fun _ _ _ h => h) (Or.inl ⟨by rfl, ?_⟩) hHeld ?_ ?_
   rotate_left
   ·rintro w' ⟨s0, s1, s2, s3, s4, s5, s6, s7, s8, s9, s10, s11, s12, s13, s14⟩
    go_simp
    with_reducible rfl
   rotate_left
   ·simp only [Act.put, lA, lB, lC, aW, aX]
    rfl
   refine bF (i := 16) (N := some 55) (v := ?_) (a' := ?_) #[true, true, true, true, true, true, true, true, true, true, true, true, true, true, true, true, true, false, false, false, false, false, false, false, false, false, false, false, false, false, false, false, false, false, false, false, false, false] rfl rfl (by kernel_rfl) (fun _ _ _ h => h) (Or.inl ⟨by rfl, ?_⟩) ?_ ?_
   rotate_left
   ·intro w'
    go_simp
    with_reducible rfl
   rotate_left
   ·simp only [Act.put, lA, lB, lC, aW, aX]
    rfl
   refine take_ (i := 19) (N := some 58) (v := ?_) (a' := ?_) #[true, true, true, true, true, true, true, true, true, true, true, true, true, true, true, true, true, false, false, true, false, false, false, false, false, false, false, false, false, false, false, false, false, false, false, false, false, false] rfl rfl (by kernel_rfl) (fun _ _ _ h => h) (Or.inl ⟨by rfl, ?_⟩) hHeld ?_ ?_
   rotate_left
   ·rintro w' ⟨s0, s1, s2, s3, s4, s5, s6, s7, s8, s9, s10, s11, s12, s13, s14⟩
    go_simp
    with_reducible rfl
   rotate_left
   ·simp only [Act.put, lA, lB, lC, aW, aX]
    rfl
   refine bF (i := 20) (N := some 59) (v := ?_) (a' := ?_) #[true, true, true, true, true, true, true, true, true, true, true, true, true, true, true, true, true, false, false, true, true, false, false, false, false, false, false, false, false, false, false, false, false, false, false, false, false, false] rfl rfl (by kernel_rfl) (fun _ _ _ h => h) (Or.inl ⟨by rfl, ?_⟩) ?_ ?_
   rotate_left
   ·intro w'
    go_simp
    with_reducible rfl
   rotate_left
   ·simp only [Act.put, lA, lB, lC, aW, aX]
    rfl
   refine one_ (i := 17) (N := some 56) #[true, true, true, true, true, true, true, true, true, true, true, true, true, true, true, true, true, true, false, true, true, false, false, false, false, false, false, false, false, false, false, false, false, false, false, false, false, false] rfl rfl (by kernel_rfl) (by decide) (fun K hK => ?_)
   refine goes_ Try.func22 (by kernel_rfl) rfl #[.agg #[.slice (some ad17) fs.length c13_0, .slice A13_1 cf.length c13_1, .int .i64 f2, .bool d2], .int .i64 x16] (by rfl) rfl rfl (by (try simp only [List.map_toArray, List.map_cons, List.map_nil]); first | done | rfl | (simp only [List.length_drop, List.length_take]; rfl)) ?_
   (with_reducible refine (impl_ReadSec.calls kf (In lo13 hi13) _ _ fs (In lo13 hi13) _ _ cf f2 d2 x16 bb _ ?s1 ?s2 RF.out).mono ?_)
   (case s1 => exact ⟨_, _, rfl, HC13_0.out, HF13_0.out⟩)
   (case s2 => exact ⟨_, _, rfl, HC13_1.out, HF13_1.out⟩)
   rintro e_ w21 ⟨v0_, rfl, ho0, hb⟩
   refine ⟨_, rfl, ?_⟩
   obtain ⟨lo21, hi21, el_, eh_, ol_, oh_⟩ := Mem.times HT.out hb
   (try rw [← el_] at ho0)
   obtain ⟨A21_0, c21_0, ev_, hc0_, hf0_, hs0_⟩ := Mem.new_R ho0 eh_
   subst ev_
   have n0_ := aD.mk (Kd.aE HF0.out hb)
   have n1_ := aD.mk (Kd.aE HF2_0.out hb)
   have n2_ := aD.mk (Kd.aE HF2_1.out hb)
   have n3_ := aD.mk (Kd.aE HF9.out hb)
   have n4_ := aD.mk (Kd.R_below HS9.out hb)
   have n5_ := aD.mk (Kd.aE HF10_0.out hb)
   have n6_ := aD.mk (Kd.aE HF10_1.out hb)
   have n7_ := aD.mk (Kd.aE HF13_0.out hb)
   have n8_ := aD.mk (Kd.aE HF13_1.out hb)
   have n9_ := aD.mk (Kd.aE HF17.out hb)
   have n10_ := aD.mk (Kd.aE HF19_0.out hb)
   have n11_ := aD.mk (Kd.R_below HS19_0.out hb)
   have n12_ := aD.mk (Kd.aE HF20_0.out hb)
   have n13_ := aD.mk (Kd.R_below HS20_0.out hb)
   have n14_ := aD.mk (pw_cell_below hb HX17.out)
   have n15_ := aD.mk (aH BK3.out hb)
   have n16_ := aD.mk (aH BK11.out hb)
   have n17_ := aD.mk (aH BK14.out hb)
   have n18_ := aD.mk (aQ HB.out hb)
   have n19_ := aD.mk (hf0_)
   have n20_ := aD.mk (hc0_)
   have n21_ := aD.mk (hs0_)
   have n22_ := aD.mk (And.intro HORD.out (And.intro ol_ oh_))
   have n23_ := aD.mk (Nat.le_of_eq eh_)
   (try clear HF0)
   (try clear HF2_0)
   (try clear HF2_1)
   (try clear HF9)
   (try clear HS9)
   (try clear HF10_0)
   (try clear HF10_1)
   (try clear HF13_0)
   (try clear HF13_1)
   (try clear HF17)
   (try clear HF19_0)
   (try clear HS19_0)
   (try clear HF20_0)
   (try clear HS20_0)
   (try clear HX17)
   (try clear BK3)
   (try clear BK11)
   (try clear BK14)
   (try clear HB)
   (try clear HF21_0)
   (try clear HC21_0)
   (try clear HS21_0)
   (try clear HORD)
   (try clear HT)
   have HF0 := n0_
   have HF2_0 := n1_
   have HF2_1 := n2_
   have HF9 := n3_
   have HS9 := n4_
   have HF10_0 := n5_
   have HF10_1 := n6_
   have HF13_0 := n7_
   have HF13_1 := n8_
   have HF17 := n9_
   have HF19_0 := n10_
   have HS19_0 := n11_
   have HF20_0 := n12_
   have HS20_0 := n13_
   have HX17 := n14_
   have BK3 := n15_
   have BK11 := n16_
   have BK14 := n17_
   have HB := n18_
   have HF21_0 := n19_
   have HC21_0 := n20_
   have HS21_0 := n21_
   have HORD := n22_
   have HT := n23_
   clear n0_ n1_ n2_ n3_ n4_ n5_ n6_ n7_ n8_ n9_ n10_ n11_ n12_ n13_ n14_ n15_ n16_ n17_ n18_ n19_ n20_ n21_ n22_ n23_
   clear ol_ oh_ el_ eh_ ho0 hf0_ hc0_ hs0_
   (try clear hb)
   refine hK.out _ _ ⟨(aC BK11.out 0).trans rfl, (aC BK11.out 1).trans rfl, (aC BK11.out 2).trans rfl, (aC BK11.out 3).trans rfl, (aC BK3.out 0).trans rfl, (aC BK3.out 1).trans rfl, (aC BK3.out 2).trans rfl, (aC BK3.out 3).trans rfl, (aC BK14.out 0).trans rfl, (aC BK14.out 1).trans rfl, (aC BK14.out 2).trans rfl, (aC BK14.out 3).trans rfl, HX17.out, (Kd.bH HF19_0.out), (Kd.bH HF20_0.out)⟩ (fun hHeld => ?_)
   clear hK K
   refine norm_ (a' := ?_) ?_ ?_
   rotate_left
   ·show Act.put _ (some 56) _ = _
    simp only [Act.put, lA, lB, lC, aW, aX]
    rfl
   clear hHeld
   refine restart_ (S' := fun w' => w'.cell? ⟨gb11, 0, none⟩ = some (.slice A10_0 s.length c10_0) ∧ w'.cell? ⟨gb11, 1, none⟩ = some (.slice A10_1 cx.length c10_1) ∧ w'.cell? ⟨gb11, 2, none⟩ = some (.int .i64 f1) ∧ w'.cell? ⟨gb11, 3, none⟩ = some (.bool d1) ∧ w'.cell? ⟨gb3, 0, none⟩ = some (.slice A2_0 s.length c2_0) ∧ w'.cell? ⟨gb3, 1, none⟩ = some (.slice A2_1 c.length c2_1) ∧ w'.cell? ⟨gb3, 2, none⟩ = some (.int .i64 f0) ∧ w'.cell? ⟨gb3, 3, none⟩ = some (.bool d0) ∧ w'.cell? ⟨gb14, 0, none⟩ = some (.slice (some ad17) fs.length c13_0) ∧ w'.cell? ⟨gb14, 1, none⟩ = some (.slice A13_1 cf.length c13_1) ∧ w'.cell? ⟨gb14, 2, none⟩ = some (.int .i64 f2) ∧ w'.cell? ⟨gb14, 3, none⟩ = some (.bool d2) ∧ w'.cell? (ad17.add x16.toNat) = some (.slice Ae17 bb.length ce17) ∧ Kd.C (Kd.int .u8) w' A19_0 bb.length bb ∧ Kd.C (Kd.int .u8) w' A20_0 bb.length bb ∧ Kd.C (Kd.int .u8) w' A21_0 bb.length bb) (fun w' h_ => (by obtain ⟨s0, s1, s2, s3, s4, s5, s6, s7, s8, s9, s10, s11, s12, s13, s14, _⟩ := h_; exact ⟨s0, s1, s2, s3, s4, s5, s6, s7, s8, s9, s10, s11, s12, s13, s14⟩)) ⟨(aC BK11.out 0).trans rfl, (aC BK11.out 1).trans rfl, (aC BK11.out 2).trans rfl, (aC BK11.out 3).trans rfl, (aC BK3.out 0).trans rfl, (aC BK3.out 1).trans rfl, (aC BK3.out 2).trans rfl, (aC BK3.out 3).trans rfl, (aC BK14.out 0).trans rfl, (aC BK14.out 1).trans rfl, (aC BK14.out 2).trans rfl, (aC BK14.out 3).trans rfl, HX17.out, (Kd.bH HF19_0.out), (Kd.bH HF20_0.out), (Kd.bH HF21_0.out)⟩ (fun hHeld => ?_)
   refine take_ (i := 18) (N := some 57) (v := ?_) (a' := ?_) #[true, true, true, true, true, true, true, true, true, true, true, true, true, true, true, true, true, true, true, true, true, false, false, false, false, false, false, false, false, false, false, false, false, false, false, false, false, false] rfl rfl (by kernel_rfl) (fun _ _ _ h => h) (Or.inl ⟨by rfl, ?_⟩) hHeld ?_ ?_
   rotate_left
   ·rintro w' ⟨s0, s1, s2, s3, s4, s5, s6, s7, s8, s9, s10, s11, s12, s13, s14, s15⟩
    have hcv_ := Kd.C_string (P := Try.prog) (A := A21_0) (c := c21_0) Try.underlying37 Try.underlying5 Try.underlying9 s15
    go_simp
    with_reducible rfl
   rotate_left
   ·simp only [Act.put, lA, lB, lC, aW, aX]
    rfl
   refine one_ (i := 21) (N := some 60) #[true, true, true, true, true, true, true, true, true, true, true, true, true, true, true, true, true, true, true, true, true, true, false, false, false, false, false, false, false, false, false, false, false, false, false, false, false, false] rfl rfl (by kernel_rfl) (by decide) (fun K hK => ?_)
   refine goes_ Try.func22 (by kernel_rfl) rfl #[.agg #[.slice A10_0 s.length c10_0, .slice A10_1 cx.length c10_1, .int .i64 f1, .bool d1], .int .i64 x16] (by rfl) rfl rfl (by (try simp only [List.map_toArray, List.map_cons, List.map_nil]); first | done | rfl | (simp only [List.length_drop, List.length_take]; rfl)) ?_
   (with_reducible refine (impl_ReadSec.calls kx (In lo10 hi10) _ _ s (In lo10 hi10) _ _ cx f1 d1 x16 bb _ ?s1 ?s2 RX.out).mono ?_)
   (case s1 => exact ⟨_, _, rfl, HC10_0.out, HF10_0.out⟩)
   (case s2 => exact ⟨_, _, rfl, HC10_1.out, HF10_1.out⟩)
   rintro e_ w22 ⟨v0_, rfl, ho0, hb⟩
   refine ⟨_, rfl, ?_⟩
   obtain ⟨lo22, hi22, el_, eh_, ol_, oh_⟩ := Mem.times HT.out hb
   (try rw [← el_] at ho0)
   obtain ⟨A22_0, c22_0, ev_, hc0_, hf0_, hs0_⟩ := Mem.new_R ho0 eh_
   subst ev_
   have n0_ := aD.mk (Kd.aE HF0.out hb)
   have n1_ := aD.mk (Kd.aE HF2_0.out hb)
   have n2_ := aD.mk (Kd.aE HF2_1.out hb)
   have n3_ := aD.mk (Kd.aE HF9.out hb)
   have n4_ := aD.mk (Kd.R_below HS9.out hb)
   have n5_ := aD.mk (Kd.aE HF10_0.out hb)
   have n6_ := aD.mk (Kd.aE HF10_1.out hb)
   have n7_ := aD.mk (Kd.aE HF13_0.out hb)
   have n8_ := aD.mk (Kd.aE HF13_1.out hb)
   have n9_ := aD.mk (Kd.aE HF17.out hb)
   have n10_ := aD.mk (Kd.aE HF19_0.out hb)
   have n11_ := aD.mk (Kd.R_below HS19_0.out hb)
   have n12_ := aD.mk (Kd.aE HF20_0.out hb)
   have n13_ := aD.mk (Kd.R_below HS20_0.out hb)
   have n14_ := aD.mk (Kd.aE HF21_0.out hb)
   have n15_ := aD.mk (Kd.R_below HS21_0.out hb)
   have n16_ := aD.mk (pw_cell_below hb HX17.out)
   have n17_ := aD.mk (aH BK3.out hb)
   have n18_ := aD.mk (aH BK11.out hb)
   have n19_ := aD.mk (aH BK14.out hb)
   have n20_ := aD.mk (aQ HB.out hb)
   have n21_ := aD.mk (hf0_)
   have n22_ := aD.mk (hc0_)
   have n23_ := aD.mk (hs0_)
   have n24_ := aD.mk (And.intro HORD.out (And.intro ol_ oh_))
   have n25_ := aD.mk (Nat.le_of_eq eh_)
   (try clear HF0)
   (try clear HF2_0)
   (try clear HF2_1)
   (try clear HF9)
   (try clear HS9)
   (try clear HF10_0)
   (try clear HF10_1)
   (try clear HF13_0)
   (try clear HF13_1)
   (try clear HF17)
   (try clear HF19_0)
   (try clear HS19_0)
   (try clear HF20_0)
   (try clear HS20_0)
   (try clear HF21_0)
   (try clear HS21_0)
   (try clear HX17)
   (try clear BK3)
   (try clear BK11)
   (try clear BK14)
   (try clear HB)
   (try clear HF22_0)
   (try clear HC22_0)
   (try clear HS22_0)
   (try clear HORD)
   (try clear HT)
   have HF0 := n0_
   have HF2_0 := n1_
   have HF2_1 := n2_
   have HF9 := n3_
   have HS9 := n4_
   have HF10_0 := n5_
   have HF10_1 := n6_
   have HF13_0 := n7_
   have HF13_1 := n8_
   have HF17 := n9_
   have HF19_0 := n10_
   have HS19_0 := n11_
   have HF20_0 := n12_
   have HS20_0 := n13_
   have HF21_0 := n14_
   have HS21_0 := n15_
   have HX17 := n16_
   have BK3 := n17_
   have BK11 := n18_
   have BK14 := n19_
   have HB := n20_
   have HF22_0 := n21_
   have HC22_0 := n22_
   have HS22_0 := n23_
   have HORD := n24_
   have HT := n25_
   clear n0_ n1_ n2_ n3_ n4_ n5_ n6_ n7_ n8_ n9_ n10_ n11_ n12_ n13_ n14_ n15_ n16_ n17_ n18_ n19_ n20_ n21_ n22_ n23_ n24_ n25_
   clear ol_ oh_ el_ eh_ ho0 hf0_ hc0_ hs0_
   (try clear hb)
   refine hK.out _ _ ⟨(aC BK11.out 0).trans rfl, (aC BK11.out 1).trans rfl, (aC BK11.out 2).trans rfl, (aC BK11.out 3).trans rfl, (aC BK3.out 0).trans rfl, (aC BK3.out 1).trans rfl, (aC BK3.out 2).trans rfl, (aC BK3.out 3).trans rfl, (aC BK14.out 0).trans rfl, (aC BK14.out 1).trans rfl, (aC BK14.out 2).trans rfl, (aC BK14.out 3).trans rfl, HX17.out, (Kd.bH HF19_0.out), (Kd.bH HF20_0.out), (Kd.bH HF21_0.out)⟩ (fun hHeld => ?_)
   clear hK K
   refine norm_ (a' := ?_) ?_ ?_
   rotate_left
   ·show Act.put _ (some 60) _ = _
    simp only [Act.put, lA, lB, lC, aW, aX]
    rfl
   clear hHeld
   refine restart_ (S' := fun w' => w'.cell? ⟨gb11, 0, none⟩ = some (.slice A10_0 s.length c10_0) ∧ w'.cell? ⟨gb11, 1, none⟩ = some (.slice A10_1 cx.length c10_1) ∧ w'.cell? ⟨gb11, 2, none⟩ = some (.int .i64 f1) ∧ w'.cell? ⟨gb11, 3, none⟩ = some (.bool d1) ∧ w'.cell? ⟨gb3, 0, none⟩ = some (.slice A2_0 s.length c2_0) ∧ w'.cell? ⟨gb3, 1, none⟩ = some (.slice A2_1 c.length c2_1) ∧ w'.cell? ⟨gb3, 2, none⟩ = some (.int .i64 f0) ∧ w'.cell? ⟨gb3, 3, none⟩ = some (.bool d0) ∧ w'.cell? ⟨gb14, 0, none⟩ = some (.slice (some ad17) fs.length c13_0) ∧ w'.cell? ⟨gb14, 1, none⟩ = some (.slice A13_1 cf.length c13_1) ∧ w'.cell? ⟨gb14, 2, none⟩ = some (.int .i64 f2) ∧ w'.cell? ⟨gb14, 3, none⟩ = some (.bool d2) ∧ w'.cell? (ad17.add x16.toNat) = some (.slice Ae17 bb.length ce17) ∧ Kd.C (Kd.int .u8) w' A19_0 bb.length bb ∧ Kd.C (Kd.int .u8) w' A20_0 bb.length bb ∧ Kd.C (Kd.int .u8) w' A21_0 bb.length bb ∧ Kd.C (Kd.int .u8) w' A22_0 bb.length bb) (fun w' h_ => (by obtain ⟨s0, s1, s2, s3, s4, s5, s6, s7, s8, s9, s10, s11, s12, s13, s14, s15, _⟩ := h_; exact ⟨s0, s1, s2, s3, s4, s5, s6, s7, s8, s9, s10, s11, s12, s13, s14, s15⟩)) ⟨(aC BK11.out 0).trans rfl, (aC BK11.out 1).trans rfl, (aC BK11.out 2).trans rfl, (aC BK11.out 3).trans rfl, (aC BK3.out 0).trans rfl, (aC BK3.out 1).trans rfl, (aC BK3.out 2).trans rfl, (aC BK3.out 3).trans rfl, (aC BK14.out 0).trans rfl, (aC BK14.out 1).trans rfl, (aC BK14.out 2).trans rfl, (aC BK14.out 3).trans rfl, HX17.out, (Kd.bH HF19_0.out), (Kd.bH HF20_0.out), (Kd.bH HF21_0.out), (Kd.bH HF22_0.out)⟩ (fun hHeld => ?_)
   refine take_ (i := 22) (N := some 61) (v := ?_) (a' := ?_) #[true, true, true, true, true, true, true, true, true, true, true, true, true, true, true, true, true, true, true, true, true, true, true, false, false, false, false, false, false, false, false, false, false, false, false, false, false, false] rfl rfl (by kernel_rfl) (fun _ _ _ h => h) (Or.inl ⟨by rfl, ?_⟩) hHeld ?_ ?_
   rotate_left
   ·rintro w' ⟨s0, s1, s2, s3, s4, s5, s6, s7, s8, s9, s10, s11, s12, s13, s14, s15, s16⟩
    have hcv_ := Kd.C_string (P := Try.prog) (A := A22_0) (c := c22_0) Try.underlying37 Try.underlying5 Try.underlying9 s16
    go_simp
    with_reducible rfl
   rotate_left
   ·simp only [Act.put, lA, lB, lC, aW, aX]
    rfl
   refine bF (i := 23) (N := some 62) (v := ?_) (a' := ?_) #[true, true, true, true, true, true, true, true, true, true, true, true, true, true, true, true, true, true, true, true, true, true, true, true, false, false, false, false, false, false, false, false, false, false, false, false, false, false] rfl rfl (by kernel_rfl) (fun _ _ _ h => h) (Or.inl ⟨by rfl, ?_⟩) ?_ ?_
   rotate_left
   ·intro w'
    go_simp
    with_reducible rfl
   rotate_left
   ·simp only [Act.put, lA, lB, lC, aW, aX]
    rfl
   refine bF (i := 24) (N := some 63) (v := ?_) (a' := ?_) #[true, true, true, true, true, true, true, true, true, true, true, true, true, true, true, true, true, true, true, true, true, true, true, true, true, false, false, false, false, false, false, false, false, false, false, false, false, false] rfl rfl (by kernel_rfl) (fun _ _ _ h => h) (Or.inl ⟨by rfl, ?_⟩) ?_ ?_
   rotate_left
   ·intro w'
    go_simp
    with_reducible rfl
   rotate_left
   ·simp only [Act.put, lA, lB, lC, aW, aX]
    rfl
   refine bF (i := 25) (N := some 64) (v := ?_) (a' := ?_) #[true, true, true, true, true, true, true, true, true, true, true, true, true, true, true, true, true, true, true, true, true, true, true, true, true, true, false, false, false, false, false, false, false, false, false, false, false, false] rfl rfl (by kernel_rfl) (fun _ _ _ h => h) (Or.inl ⟨by rfl, ?_⟩) ?_ ?_
   rotate_left
   ·intro w'
    go_simp
    with_reducible rfl
   rotate_left
   ·simp only [Act.put, lA, lB, lC, aW, aX]
    rfl
   refine bF (i := 26) (N := some 65) (v := ?_) (a' := ?_) #[true, true, true, true, true, true, true, true, true, true, true, true, true, true, true, true, true, true, true, true, true, true, true, true, true, true, true, false, false, false, false, false, false, false, false, false, false, false] rfl rfl (by kernel_rfl) (fun _ _ _ h => h) (Or.inl ⟨by rfl, ?_⟩) ?_ ?_
   rotate_left
   ·intro w'
    go_simp
    with_reducible rfl
   rotate_left
   ·simp only [Act.put, lA, lB, lC, aW, aX]
    rfl
   refine take_ (i := 27) (N := some 66) (v := ?_) (a' := ?_) #[true, true, true, true, true, true, true, true, true, true, true, true, true, true, true, true, true, true, true, true, true, true, true, true, true, true, true, true, false, false, false, false, false, false, false, false, false, false] rfl rfl (by kernel_rfl) (fun _ _ _ h => h) (Or.inl ⟨by rfl, ?_⟩) hHeld ?_ ?_
   rotate_left
   ·rintro w' ⟨s0, s1, s2, s3, s4, s5, s6, s7, s8, s9, s10, s11, s12, s13, s14, s15, s16⟩
    go_simp
    with_reducible rfl
   rotate_left
   ·simp only [Act.put, lA, lB, lC, aW, aX]
    rfl
   refine bF (i := 28) (N := some 67) (v := ?_) (a' := ?_) #[true, true, true, true, true, true, true, true, true, true, true, true, true, true, true, true, true, true, true, true, true, true, true, true, true, true, true, true, true, false, false, false, false, false, false, false, false, false] rfl rfl (by kernel_rfl) (fun _ _ _ h => h) (Or.inl ⟨by rfl, ?_⟩) ?_ ?_
   rotate_left
   ·intro w'
    go_simp
    with_reducible rfl
   rotate_left
   ·simp only [Act.put, lA, lB, lC, aW, aX]
    rfl
   refine bF (i := 29) (N := some 68) (v := ?_) (a' := ?_) #[true, true, true, true, true, true, true, true, true, true, true, true, true, true, true, true, true, true, true, true, true, true, true, true, true, true, true, true, true, true, false, false, false, false, false, false, false, false] rfl rfl (by kernel_rfl) (fun _ _ _ h => h) (Or.inl ⟨by rfl, ?_⟩) ?_ ?_
   rotate_left
   ·intro w'
    go_simp
    with_reducible rfl
   rotate_left
   ·simp only [Act.put, lA, lB, lC, aW, aX]
    rfl
   refine take_ (i := 30) (N := some 69) (v := ?_) (a' := ?_) #[true, true, true, true, true, true, true, true, true, true, true, true, true, true, true, true, true, true, true, true, true, true, true, true, true, true, true, true, true, true, true, false, false, false, false, false, false, false] rfl rfl (by kernel_rfl) (fun _ _ _ h => h) (Or.inl ⟨by rfl, ?_⟩) hHeld ?_ ?_
   rotate_left
   ·rintro w' ⟨s0, s1, s2, s3, s4, s5, s6, s7, s8, s9, s10, s11, s12, s13, s14, s15, s16⟩
    go_simp
    with_reducible rfl
   rotate_left
   ·simp only [Act.put, lA, lB, lC, aW, aX]
    rfl
   clear hHeld
   refine restart_ (S' := fun w' => w'.cell? ⟨gb11, 0, none⟩ = some (.slice A10_0 s.length c10_0) ∧ w'.cell? ⟨gb11, 1, none⟩ = some (.slice A10_1 cx.length c10_1) ∧ w'.cell? ⟨gb11, 2, none⟩ = some (.int .i64 f1) ∧ w'.cell? ⟨gb11, 3, none⟩ = some (.bool d1) ∧ w'.cell? ⟨gb3, 0, none⟩ = some (.slice A2_0 s.length c2_0) ∧ w'.cell? ⟨gb3, 1, none⟩ = some (.slice A2_1 c.length c2_1) ∧ w'.cell? ⟨gb3, 2, none⟩ = some (.int .i64 f0) ∧ w'.cell? ⟨gb3, 3, none⟩ = some (.bool d0) ∧ w'.cell? ⟨gb14, 0, none⟩ = some (.slice (some ad17) fs.length c13_0) ∧ w'.cell? ⟨gb14, 1, none⟩ = some (.slice A13_1 cf.length c13_1) ∧ w'.cell? ⟨gb14, 2, none⟩ = some (.int .i64 f2) ∧ w'.cell? ⟨gb14, 3, none⟩ = some (.bool d2) ∧ w'.cell? (ad17.add x16.toNat) = some (.slice Ae17 bb.length ce17) ∧ Kd.C (Kd.int .u8) w' A19_0 bb.length bb ∧ Kd.C (Kd.int .u8) w' A20_0 bb.length bb ∧ Kd.C (Kd.int .u8) w' A21_0 bb.length bb ∧ Kd.C (Kd.int .u8) w' A22_0 bb.length bb ∧ Kd.C (Kd.int .u8) w' Ae17 bb.length bb) (fun w' h_ => (by obtain ⟨s0, s1, s2, s3, s4, s5, s6, s7, s8, s9, s10, s11, s12, s13, s14, s15, s16, _⟩ := h_; exact ⟨s0, s1, s2, s3, s4, s5, s6, s7, s8, s9, s10, s11, s12, s13, s14, s15, s16⟩)) ⟨(aC BK11.out 0).trans rfl, (aC BK11.out 1).trans rfl, (aC BK11.out 2).trans rfl, (aC BK11.out 3).trans rfl, (aC BK3.out 0).trans rfl, (aC BK3.out 1).trans rfl, (aC BK3.out 2).trans rfl, (aC BK3.out 3).trans rfl, (aC BK14.out 0).trans rfl, (aC BK14.out 1).trans rfl, (aC BK14.out 2).trans rfl, (aC BK14.out 3).trans rfl, HX17.out, (Kd.bH HF19_0.out), (Kd.bH HF20_0.out), (Kd.bH HF21_0.out), (Kd.bH HF22_0.out), (Kd.bH HF17.out)⟩ (fun hHeld => ?_)
   refine take_ (i := 31) (N := some 70) (v := ?_) (a' := ?_) #[true, true, true, true, true, true, true, true, true, true, true, true, true, true, true, true, true, true, true, true, true, true, true, true, true, true, true, true, true, true, true, true, false, false, false, false, false, false] rfl rfl (by kernel_rfl) (fun _ _ _ h => h) (Or.inl ⟨by rfl, ?_⟩) hHeld ?_ ?_
   rotate_left
   ·rintro w' ⟨s0, s1, s2, s3, s4, s5, s6, s7, s8, s9, s10, s11, s12, s13, s14, s15, s16, s17⟩
    have hcv_ := Kd.C_string (P := Try.prog) (A := Ae17) (c := ce17) Try.underlying37 Try.underlying5 Try.underlying9 s17
    go_simp
    with_reducible rfl
   rotate_left
   ·simp only [Act.put, lA, lB, lC, aW, aX]
    rfl
   refine take_ (i := 32) (N := some 71) (v := ?_) (a' := ?_) #[true, true, true, true, true, true, true, true, true, true, true, true, true, true, true, true, true, true, true, true, true, true, true, true, true, true, true, true, true, true, true, true, true, false, false, false, false, false] rfl rfl (by kernel_rfl) (fun _ _ _ h => h) (Or.inl ⟨by rfl, ?_⟩) hHeld ?_ ?_
   rotate_left
   ·rintro w' ⟨s0, s1, s2, s3, s4, s5, s6, s7, s8, s9, s10, s11, s12, s13, s14, s15, s16, s17⟩
    go_simp
    with_reducible rfl
   rotate_left
   ·simp only [Act.put, lA, lB, lC, aW, aX]
    rfl
   refine bF (i := 33) (N := some 72) (v := ?_) (a' := ?_) #[true, true, true, true, true, true, true, true, true, true, true, true, true, true, true, true, true, true, true, true, true, true, true, true, true, true, true, true, true, true, true, true, true, true, false, false, false, false] rfl rfl (by kernel_rfl) (fun _ _ _ h => h) (Or.inl ⟨by rfl, ?_⟩) ?_ ?_
   rotate_left
   ·intro w'
    go_simp
    with_reducible rfl
   rotate_left
   ·simp only [Act.put, lA, lB, lC, aW, aX]
    rfl
   refine one_ (i := 34) (N := some 73) #[true, true, true, true, true, true, true, true, true, true, true, true, true, true, true, true, true, true, true, true, true, true, true, true, true, true, true, true, true, true, true, true, true, true, true, false, false, false] rfl rfl (by kernel_rfl) (by decide) (fun K hK => ?_)
   refine goes_ Try.func22 (by kernel_rfl) rfl #[.agg #[.slice A10_0 s.length c10_0, .slice A10_1 cx.length c10_1, .int .i64 f1, .bool d1], .int .i64 x16] (by rfl) rfl rfl (by (try simp only [List.map_toArray, List.map_cons, List.map_nil]); first | done | rfl | (simp only [List.length_drop, List.length_take]; rfl)) ?_
   (with_reducible refine (impl_ReadSec.calls kx (In lo10 hi10) _ _ s (In lo10 hi10) _ _ cx f1 d1 x16 bb _ ?s1 ?s2 RX.out).mono ?_)
   (case s1 => exact ⟨_, _, rfl, HC10_0.out, HF10_0.out⟩)
   (case s2 => exact ⟨_, _, rfl, HC10_1.out, HF10_1.out⟩)
   rintro e_ w23 ⟨v0_, rfl, ho0, hb⟩
   refine ⟨_, rfl, ?_⟩
   obtain ⟨lo23, hi23, el_, eh_, ol_, oh_⟩ := Mem.times HT.out hb
   (try rw [← el_] at ho0)
   obtain ⟨A23_0, c23_0, ev_, hc0_, hf0_, hs0_⟩ := Mem.new_R ho0 eh_
   subst ev_
   have n0_ := aD.mk (Kd.aE HF0.out hb)
   have n1_ := aD.mk (Kd.aE HF2_0.out hb)
   have n2_ := aD.mk (Kd.aE HF2_1.out hb)
   have n3_ := aD.mk (Kd.aE HF9.out hb)
   have n4_ := aD.mk (Kd.R_below HS9.out hb)
   have n5_ := aD.mk (Kd.aE HF10_0.out hb)
   have n6_ := aD.mk (Kd.aE HF10_1.out hb)
   have n7_ := aD.mk (Kd.aE HF13_0.out hb)
   have n8_ := aD.mk (Kd.aE HF13_1.out hb)
   have n9_ := aD.mk (Kd.aE HF17.out hb)
   have n10_ := aD.mk (Kd.aE HF19_0.out hb)
   have n11_ := aD.mk (Kd.R_below HS19_0.out hb)
   have n12_ := aD.mk (Kd.aE HF20_0.out hb)
   have n13_ := aD.mk (Kd.R_below HS20_0.out hb)
   have n14_ := aD.mk (Kd.aE HF21_0.out hb)
   have n15_ := aD.mk (Kd.R_below HS21_0.out hb)
   have n16_ := aD.mk (Kd.aE HF22_0.out hb)
   have n17_ := aD.mk (Kd.R_below HS22_0.out hb)
   have n18_ := aD.mk (pw_cell_below hb HX17.out)
   have n19_ := aD.mk (aH BK3.out hb)
   have n20_ := aD.mk (aH BK11.out hb)
   have n21_ := aD.mk (aH BK14.out hb)
   have n22_ := aD.mk (aQ HB.out hb)
   have n23_ := aD.mk (hf0_)
   have n24_ := aD.mk (hc0_)
   have n25_ := aD.mk (hs0_)
   have n26_ := aD.mk (And.intro HORD.out (And.intro ol_ oh_))
   have n27_ := aD.mk (Nat.le_of_eq eh_)
   (try clear HF0)
   (try clear HF2_0)
   (try clear HF2_1)
   (try clear HF9)
   (try clear HS9)
   (try clear HF10_0)
   (try clear HF10_1)
   (try clear HF13_0)
   (try clear HF13_1)
   (try clear HF17)
   (try clear HF19_0)
   (try clear HS19_0)
   (try clear HF20_0)
   (try clear HS20_0)
   (try clear HF21_0)
   (try clear HS21_0)
   (try clear HF22_0)
   (try clear HS22_0)
   (try clear HX17)
   (try clear BK3)
   (try clear BK11)
   (try clear BK14)
   (try clear HB)
   (try clear HF23_0)
   (try clear HC23_0)
   (try clear HS23_0)
   (try clear HORD)
   (try clear HT)
   have HF0 := n0_
   have HF2_0 := n1_
   have HF2_1 := n2_
   have HF9 := n3_
   have HS9 := n4_
   have HF10_0 := n5_
   have HF10_1 := n6_
   have HF13_0 := n7_
   have HF13_1 := n8_
   have HF17 := n9_
   have HF19_0 := n10_
   have HS19_0 := n11_
   have HF20_0 := n12_
   have HS20_0 := n13_
   have HF21_0 := n14_
   have HS21_0 := n15_
   have HF22_0 := n16_
   have HS22_0 := n17_
   have HX17 := n18_
   have BK3 := n19_
   have BK11 := n20_
   have BK14 := n21_
   have HB := n22_
   have HF23_0 := n23_
   have HC23_0 := n24_
   have HS23_0 := n25_
   have HORD := n26_
   have HT := n27_
   clear n0_ n1_ n2_ n3_ n4_ n5_ n6_ n7_ n8_ n9_ n10_ n11_ n12_ n13_ n14_ n15_ n16_ n17_ n18_ n19_ n20_ n21_ n22_ n23_ n24_ n25_ n26_ n27_
   clear ol_ oh_ el_ eh_ ho0 hf0_ hc0_ hs0_
   (try clear hb)
   refine hK.out _ _ ⟨(aC BK11.out 0).trans rfl, (aC BK11.out 1).trans rfl, (aC BK11.out 2).trans rfl, (aC BK11.out 3).trans rfl, (aC BK3.out 0).trans rfl, (aC BK3.out 1).trans rfl, (aC BK3.out 2).trans rfl, (aC BK3.out 3).trans rfl, (aC BK14.out 0).trans rfl, (aC BK14.out 1).trans rfl, (aC BK14.out 2).trans rfl, (aC BK14.out 3).trans rfl, HX17.out, (Kd.bH HF19_0.out), (Kd.bH HF20_0.out), (Kd.bH HF21_0.out), (Kd.bH HF22_0.out), (Kd.bH HF17.out)⟩ (fun hHeld => ?_)
   clear hK K
   refine norm_ (a' := ?_) ?_ ?_
   rotate_left
   ·show Act.put _ (some 73) _ = _
    simp only [Act.put, lA, lB, lC, aW, aX]
    rfl
   clear hHeld
   refine restart_ (S' := fun w' => w'.cell? ⟨gb11, 0, none⟩ = some (.slice A10_0 s.length c10_0) ∧ w'.cell? ⟨gb11, 1, none⟩ = some (.slice A10_1 cx.length c10_1) ∧ w'.cell? ⟨gb11, 2, none⟩ = some (.int .i64 f1) ∧ w'.cell? ⟨gb11, 3, none⟩ = some (.bool d1) ∧ w'.cell? ⟨gb3, 0, none⟩ = some (.slice A2_0 s.length c2_0) ∧ w'.cell? ⟨gb3, 1, none⟩ = some (.slice A2_1 c.length c2_1) ∧ w'.cell? ⟨gb3, 2, none⟩ = some (.int .i64 f0) ∧ w'.cell? ⟨gb3, 3, none⟩ = some (.bool d0) ∧ w'.cell? ⟨gb14, 0, none⟩ = some (.slice (some ad17) fs.length c13_0) ∧ w'.cell? ⟨gb14, 1, none⟩ = some (.slice A13_1 cf.length c13_1) ∧ w'.cell? ⟨gb14, 2, none⟩ = some (.int .i64 f2) ∧ w'.cell? ⟨gb14, 3, none⟩ = some (.bool d2) ∧ w'.cell? (ad17.add x16.toNat) = some (.slice Ae17 bb.length ce17) ∧ Kd.C (Kd.int .u8) w' A19_0 bb.length bb ∧ Kd.C (Kd.int .u8) w' A20_0 bb.length bb ∧ Kd.C (Kd.int .u8) w' A21_0 bb.length bb ∧ Kd.C (Kd.int .u8) w' A22_0 bb.length bb ∧ Kd.C (Kd.int .u8) w' Ae17 bb.length bb ∧ Kd.C (Kd.int .u8) w' A23_0 bb.length bb) (fun w' h_ => (by obtain ⟨s0, s1, s2, s3, s4, s5, s6, s7, s8, s9, s10, s11, s12, s13, s14, s15, s16, s17, _⟩ := h_; exact ⟨s0, s1, s2, s3, s4, s5, s6, s7, s8, s9, s10, s11, s12, s13, s14, s15, s16, s17⟩)) ⟨(aC BK11.out 0).trans rfl, (aC BK11.out 1).trans rfl, (aC BK11.out 2).trans rfl, (aC BK11.out 3).trans rfl, (aC BK3.out 0).trans rfl, (aC BK3.out 1).trans rfl, (aC BK3.out 2).trans rfl, (aC BK3.out 3).trans rfl, (aC BK14.out 0).trans rfl, (aC BK14.out 1).trans rfl, (aC BK14.out 2).trans rfl, (aC BK14.out 3).trans rfl, HX17.out, (Kd.bH HF19_0.out), (Kd.bH HF20_0.out), (Kd.bH HF21_0.out), (Kd.bH HF22_0.out), (Kd.bH HF17.out), (Kd.bH HF23_0.out)⟩ (fun hHeld => ?_)
   refine take_ (i := 35) (N := some 74) (v := ?_) (a' := ?_) #[true, true, true, true, true, true, true, true, true, true, true, true, true, true, true, true, true, true, true, true, true, true, true, true, true, true, true, true, true, true, true, true, true, true, true, true, false, false] rfl rfl (by kernel_rfl) (fun _ _ _ h => h) (Or.inl ⟨by rfl, ?_⟩) hHeld ?_ ?_
   rotate_left
   ·rintro w' ⟨s0, s1, s2, s3, s4, s5, s6, s7, s8, s9, s10, s11, s12, s13, s14, s15, s16, s17, s18⟩
    have hcv_ := Kd.C_string (P := Try.prog) (A := A23_0) (c := c23_0) Try.underlying37 Try.underlying5 Try.underlying9 s18
    go_simp
    with_reducible rfl
   rotate_left
   ·simp only [Act.put, lA, lB, lC, aW, aX]
    rfl
   refine bF (i := 36) (N := some 75) (v := ?_) (a' := ?_) #[true, true, true, true, true, true, true, true, true, true, true, true, true, true, true, true, true, true, true, true, true, true, true, true, true, true, true, true, true, true, true, true, true, true, true, true, true, false] rfl rfl (by kernel_rfl) (fun _ _ _ h => h) (Or.inl ⟨by rfl, ?_⟩) ?_ ?_
   rotate_left
   ·intro w'
    go_simp
    with_reducible rfl
   rotate_left
   ·simp only [Act.put, lA, lB, lC, aW, aX]
    rfl
   refine bF (i := 37) (N := some 76) (v := ?_) (a' := ?_) #[true, true, true, true, true, true, true, true, true, true, true, true, true, true, true, true, true, true, true, true, true, true, true, true, true, true, true, true, true, true, true, true, true, true, true, true, true, true] rfl rfl (by kernel_rfl) (fun _ _ _ h => h) (Or.inl ⟨by rfl, ?_⟩) ?_ ?_
   rotate_left
   ·intro w'
    go_simp
    with_reducible rfl
   rotate_left
   ·simp only [Act.put, lA, lB, lC, aW, aX]
    rfl
   refine done_ (by kernel_rfl) ?_
   have hzgb3_0_23 : w23.cell? ⟨gb3, 0, none⟩ = some (.slice A2_0 s.length c2_0) := (aC BK3.out 0).trans rfl
   have hygb3_0_23 := aA BK3.out 0
   have hzgb3_1_23 : w23.cell? ⟨gb3, 1, none⟩ = some (.slice A2_1 c.length c2_1) := (aC BK3.out 1).trans rfl
   have hygb3_1_23 := aA BK3.out 1
   have hzgb3_2_23 : w23.cell? ⟨gb3, 2, none⟩ = some (.int .i64 f0) := (aC BK3.out 2).trans rfl
   have hygb3_2_23 := aA BK3.out 2
   have hzgb3_3_23 : w23.cell? ⟨gb3, 3, none⟩ = some (.bool d0) := (aC BK3.out 3).trans rfl
   have hygb3_3_23 := aA BK3.out 3
   have hzgb11_0_23 : w23.cell? ⟨gb11, 0, none⟩ = some (.slice A10_0 s.length c10_0) := (aC BK11.out 0).trans rfl
   have hygb11_0_23 := aA BK11.out 0
   have hzgb11_1_23 : w23.cell? ⟨gb11, 1, none⟩ = some (.slice A10_1 cx.length c10_1) := (aC BK11.out 1).trans rfl
   have hygb11_1_23 := aA BK11.out 1
   have hzgb11_2_23 : w23.cell? ⟨gb11, 2, none⟩ = some (.int .i64 f1) := (aC BK11.out 2).trans rfl
   have hygb11_2_23 := aA BK11.out 2
   have hzgb11_3_23 : w23.cell? ⟨gb11, 3, none⟩ = some (.bool d1) := (aC BK11.out 3).trans rfl
   have hygb11_3_23 := aA BK11.out 3
   have hzgb14_0_23 : w23.cell? ⟨gb14, 0, none⟩ = some (.slice (some ad17) fs.length c13_0) := (aC BK14.out 0).trans rfl
   have hygb14_0_23 := aA BK14.out 0
   have hzgb14_1_23 : w23.cell? ⟨gb14, 1, none⟩ = some (.slice A13_1 cf.length c13_1) := (aC BK14.out 1).trans rfl
   have hygb14_1_23 := aA BK14.out 1
   have hzgb14_2_23 : w23.cell? ⟨gb14, 2, none⟩ = some (.int .i64 f2) := (aC BK14.out 2).trans rfl
   have hygb14_2_23 := aA BK14.out 2
   have hzgb14_3_23 : w23.cell? ⟨gb14, 3, none⟩ = some (.bool d2) := (aC BK14.out 3).trans rfl
   have hygb14_3_23 := aA BK14.out 3
   try go_wp2
   go_roundg k1
   case measure => omega
   case rel => exact ⟨i16 + 1, _, rfl, ⟨show _ = ((i16 + 1 : Nat) : Int) by have := HI16.out; have hm_ := HSL.out; have := HK16.out; first | (rw [w64 (by omega) (by omega)]; omega) | omega⟩, ⟨by have := HK16.out; omega⟩, ⟨Nat.le_trans (by have o_ := HORD.out; omega) HT.out⟩, HF0, HF2_0, HF2_1, HF9, HS9, HF10_0, HF10_1, HF13_0, HF13_1, BK3, BK11, BK14, HB⟩
  ·have hd2_ : (x16 != n) = false := bne_eq_false_iff_eq.mpr hin_
   clear h4_ hin_
   try go_wp2
   obtain ⟨ad24, Ae24, ce24, ee24, hx24_0, hl24, hf24⟩ := F_row HF13_0.out x16 hp_ hlf_
   cases ee24
   rw [RE.out] at hx24_0 hl24 hf24
   have HF24 := aD.mk hf24
   have HC24 := aD.mk hl24
   clear hf24 hl24
   have HX24 := aD.mk hx24_0
   have n_ := aD.mk (Kd.F_drew HF0.out)
   clear HF0
   have HF0 := n_
   clear n_
   have n_ := aD.mk (Kd.F_drew HF2_0.out)
   clear HF2_0
   have HF2_0 := n_
   clear n_
   have n_ := aD.mk (Kd.F_drew HF2_1.out)
   clear HF2_1
   have HF2_1 := n_
   clear n_
   have n_ := aD.mk (Kd.F_drew HF9.out)
   clear HF9
   have HF9 := n_
   clear n_
   have n_ := aD.mk (Kd.R_drew HS9.out)
   clear HS9
   have HS9 := n_
   clear n_
   have n_ := aD.mk (Kd.F_drew HF10_0.out)
   clear HF10_0
   have HF10_0 := n_
   clear n_
   have n_ := aD.mk (Kd.F_drew HF10_1.out)
   clear HF10_1
   have HF10_1 := n_
   clear n_
   have n_ := aD.mk (Kd.F_drew HF13_0.out)
   clear HF13_0
   have HF13_0 := n_
   clear n_
   have n_ := aD.mk (Kd.F_drew HF13_1.out)
   clear HF13_1
   have HF13_1 := n_
   clear n_
   have n_ := aD.mk (Kd.F_drew HF24.out)
   clear HF24
   have HF24 := n_
   clear n_
   have n_ := aD.mk (bA BK3.out)
   clear BK3
   have BK3 := n_
   clear n_
   have n_ := aD.mk (bA BK11.out)
   clear BK11
   have BK11 := n_
   clear n_
   have n_ := aD.mk (bA BK14.out)
   clear BK14
   have BK14 := n_
   clear n_
   have n_ := aD.mk (aN HB.out)
   clear HB
   have HB := n_
   clear n_
   have n_ := aD.mk (show _ ≤ wr.drew.heap.size from HT.out)
   clear HT
   have HT := n_
   clear n_
   have n_ := aD.mk (show wr.drew.cell? (ad24.add x16.toNat) = some (.slice Ae24 bb.length ce24) from HX24.out)
   clear HX24
   have HX24 := n_
   clear n_
   refine start_ (n := 38) (S := fun w' => w'.cell? ⟨gb11, 0, none⟩ = some (.slice A10_0 s.length c10_0) ∧ w'.cell? ⟨gb11, 1, none⟩ = some (.slice A10_1 cx.length c10_1) ∧ w'.cell? ⟨gb11, 2, none⟩ = some (.int .i64 f1) ∧ w'.cell? ⟨gb11, 3, none⟩ = some (.bool d1) ∧ w'.cell? ⟨gb3, 0, none⟩ = some (.slice A2_0 s.length c2_0) ∧ w'.cell? ⟨gb3, 1, none⟩ = some (.slice A2_1 c.length c2_1) ∧ w'.cell? ⟨gb3, 2, none⟩ = some (.int .i64 f0) ∧ w'.cell? ⟨gb3, 3, none⟩ = some (.bool d0) ∧ w'.cell? ⟨gb14, 0, none⟩ = some (.slice (some ad24) fs.length c13_0) ∧ w'.cell? ⟨gb14, 1, none⟩ = some (.slice A13_1 cf.length c13_1) ∧ w'.cell? ⟨gb14, 2, none⟩ = some (.int .i64 f2) ∧ w'.cell? ⟨gb14, 3, none⟩ = some (.bool d2) ∧ w'.cell? (ad24.add x16.toNat) = some (.slice Ae24 bb.length ce24)) (ds := []) #[false, false, false, false, false, false, false, false, false, false, false, false, false, false, false, false, false, false, false, false, false, false, false, false, false, false, false, false, false, false, false, false, false, false, false, false, false, false] (by kernel_rfl) rfl rfl ⟨(aC BK11.out 0).trans rfl, (aC BK11.out 1).trans rfl, (aC BK11.out 2).trans rfl, (aC BK11.out 3).trans rfl, (aC BK3.out 0).trans rfl, (aC BK3.out 1).trans rfl, (aC BK3.out 2).trans rfl, (aC BK3.out 3).trans rfl, (aC BK14.out 0).trans rfl, (aC BK14.out 1).trans rfl, (aC BK14.out 2).trans rfl, (aC BK14.out 3).trans rfl, HX24.out⟩ (fun hHeld => ?_)
   generalize wr.drew = w25 at HF0 HF2_0 HF2_1 HF9 HS9 HF10_0 HF10_1 HF13_0 HF13_1 HF24 BK3 BK11 BK14 HB HT HX24 hHeld ⊢
   refine bF (i := 0) (N := some 39) (v := ?_) (a' := ?_) #[true, false, false, false, false, false, false, false, false, false, false, false, false, false, false, false, false, false, false, false, false, false, false, false, false, false, false, false, false, false, false, false, false, false, false, false, false, false] rfl rfl (by kernel_rfl) (fun _ _ _ h => h) (Or.inl ⟨by rfl, ?_⟩) ?_ ?_
   rotate_left
   ·intro w'
    go_simp
    with_reducible rfl
   rotate_left
   ·simp only [Act.put, lA, lB, lC, aW, aX]
    rfl
   refine bF (i := 1) (N := some 40) (v := ?_) (a' := ?_) #[true, true, false, false, false, false, false, false, false, false, false, false, false, false, false, false, false, false, false, false, false, false, false, false, false, false, false, false, false, false, false, false, false, false, false, false, false, false] rfl rfl (by kernel_rfl) (fun _ _ _ h => h) (Or.inl ⟨by rfl, ?_⟩) ?_ ?_
   rotate_left
   ·intro w'
    go_simp
    with_reducible rfl
   rotate_left
   ·simp only [Act.put, lA, lB, lC, aW, aX]
    rfl
   refine bF (i := 2) (N := some 41) (v := ?_) (a' := ?_) #[true, true, true, false, false, false, false, false, false, false, false, false, false, false, false, false, false, false, false, false, false, false, false, false, false, false, false, false, false, false, false, false, false, false, false, false, false, false] rfl rfl (by kernel_rfl) (fun _ _ _ h => h) (Or.inl ⟨by rfl, ?_⟩) ?_ ?_
   rotate_left
   ·intro w'
    go_simp
    with_reducible rfl
   rotate_left
   ·simp only [Act.put, lA, lB, lC, aW, aX]
    rfl
   refine bF (i := 3) (N := some 42) (v := ?_) (a' := ?_) #[true, true, true, true, false, false, false, false, false, false, false, false, false, false, false, false, false, false, false, false, false, false, false, false, false, false, false, false, false, false, false, false, false, false, false, false, false, false] rfl rfl (by kernel_rfl) (fun _ _ _ h => h) (Or.inl ⟨by rfl, ?_⟩) ?_ ?_
   rotate_left
   ·intro w'
    go_simp
    with_reducible rfl
   rotate_left
   ·simp only [Act.put, lA, lB, lC, aW, aX]
    rfl
   refine bF (i := 4) (N := some 43) (v := undef) (a' := ?_) #[true, true, true, true, true, false, false, false, false, false, false, false, false, false, false, false, false, false, false, false, false, false, false, false, false, false, false, false, false, false, false, false, false, false, false, false, false, false] rfl rfl (by kernel_rfl) (fun _ _ _ h => h) (Or.inr ⟨by rfl, rfl⟩) ?_ ?_
   rotate_left
   ·simp only [Act.put, lA, lB, lC, aW, aX]
    rfl
   refine bF (i := 5) (N := some 44) (v := undef) (a' := ?_) #[true, true, true, true, true, true, false, false, false, false, false, false, false, false, false, false, false, false, false, false, false, false, false, false, false, false, false, false, false, false, false, false, false, false, false, false, false, false] rfl rfl (by kernel_rfl) (fun _ _ _ h => h) (Or.inr ⟨by rfl, rfl⟩) ?_ ?_
   rotate_left
   ·simp only [Act.put, lA, lB, lC, aW, aX]
    rfl
   refine bF (i := 6) (N := some 45) (v := undef) (a' := ?_) #[true, true, true, true, true, true, true, false, false, false, false, false, false, false, false, false, false, false, false, false, false, false, false, false, false, false, false, false, false, false, false, false, false, false, false, false, false, false] rfl rfl (by kernel_rfl) (fun _ _ _ h => h) (Or.inr ⟨by rfl, rfl⟩) ?_ ?_
   rotate_left
   ·simp only [Act.put, lA, lB, lC, aW, aX]
    rfl
   refine bF (i := 7) (N := some 46) (v := undef) (a' := ?_) #[true, true, true, true, true, true, true, true, false, false, false, false, false, false, false, false, false, false, false, false, false, false, false, false, false, false, false, false, false, false, false, false, false, false, false, false, false, false] rfl rfl (by kernel_rfl) (fun _ _ _ h => h) (Or.inr ⟨by rfl, rfl⟩) ?_ ?_
   rotate_left
   ·simp only [Act.put, lA, lB, lC, aW, aX]
    rfl
   refine bF (i := 8) (N := some 47) (v := undef) (a' := ?_) #[true, true, true, true, true, true, true, true, true, false, false, false, false, false, false, false, false, false, false, false, false, false, false, false, false, false, false, false, false, false, false, false, false, false, false, false, false, false] rfl rfl (by kernel_rfl) (fun _ _ _ h => h) (Or.inr ⟨by rfl, rfl⟩) ?_ ?_
   rotate_left
   ·simp only [Act.put, lA, lB, lC, aW, aX]
    rfl
   refine bF (i := 9) (N := some 48) (v := undef) (a' := ?_) #[true, true, true, true, true, true, true, true, true, true, false, false, false, false, false, false, false, false, false, false, false, false, false, false, false, false, false, false, false, false, false, false, false, false, false, false, false, false] rfl rfl (by kernel_rfl) (fun _ _ _ h => h) (Or.inr ⟨by rfl, rfl⟩) ?_ ?_
   rotate_left
   ·simp only [Act.put, lA, lB, lC, aW, aX]
    rfl
   refine bF (i := 10) (N := some 49) (v := undef) (a' := ?_) #[true, true, true, true, true, true, true, true, true, true, true, false, false, false, false, false, false, false, false, false, false, false, false, false, false, false, false, false, false, false, false, false, false, false, false, false, false, false] rfl rfl (by kernel_rfl) (fun _ _ _ h => h) (Or.inr ⟨by rfl, rfl⟩) ?_ ?_
   rotate_left
   ·simp only [Act.put, lA, lB, lC, aW, aX]
    rfl
   refine bF (i := 11) (N := some 50) (v := undef) (a' := ?_) #[true, true, true, true, true, true, true, true, true, true, true, true, false, false, false, false, false, false, false, false, false, false, false, false, false, false, false, false, false, false, false, false, false, false, false, false, false, false] rfl rfl (by kernel_rfl) (fun _ _ _ h => h) (Or.inr ⟨by rfl, rfl⟩) ?_ ?_
   rotate_left
   ·simp only [Act.put, lA, lB, lC, aW, aX]
    rfl
   refine bF (i := 12) (N := some 51) (v := undef) (a' := ?_) #[true, true, true, true, true, true, true, true, true, true, true, true, true, false, false, false, false, false, false, false, false, false, false, false, false, false, false, false, false, false, false, false, false, false, false, false, false, false] rfl rfl (by kernel_rfl) (fun _ _ _ h => h) (Or.inr ⟨by rfl, rfl⟩) ?_ ?_
   rotate_left
   ·simp only [Act.put, lA, lB, lC, aW, aX]
    rfl
   refine bF (i := 13) (N := some 52) (v := ?_) (a' := ?_) #[true, true, true, true, true, true, true, true, true, true, true, true, true, true, false, false, false, false, false, false, false, false, false, false, false, false, false, false, false, false, false, false, false, false, false, false, false, false] rfl rfl (by kernel_rfl) (fun _ _ _ h => h) (Or.inl ⟨by rfl, ?_⟩) ?_ ?_
   rotate_left
   ·intro w'
    go_simp
    with_reducible rfl
   rotate_left
   ·simp only [Act.put, lA, lB, lC, aW, aX]
    rfl
   refine bF (i := 14) (N := some 53) (v := ?_) (a' := ?_) #[true, true, true, true, true, true, true, true, true, true, true, true, true, true, true, false, false, false, false, false, false, false, false, false, false, false, false, false, false, false, false, false, false, false, false, false, false, false] rfl rfl (by kernel_rfl) (fun _ _ _ h => h) (Or.inl ⟨by rfl, ?_⟩) ?_ ?_
   rotate_left
   ·intro w'
    go_simp
    with_reducible rfl
   rotate_left
   ·simp only [Act.put, lA, lB, lC, aW, aX]
    rfl
   refine take_ (i := 15) (N := some 54) (v := ?_) (a' := ?_) #[true, true, true, true, true, true, true, true, true, true, true, true, true, true, true, true, false, false, false, false, false, false, false, false, false, false, false, false, false, false, false, false, false, false, false, false, false, false] rfl rfl (by kernel_rfl) (fun _ _ _ h => h) (Or.inl ⟨by rfl, ?_⟩) hHeld ?_ ?_
   rotate_left
   ·rintro w' ⟨s0, s1, s2, s3, s4, s5, s6, s7, s8, s9, s10, s11, s12⟩
    go_simp
    with_reducible rfl
   rotate_left
   ·simp only [Act.put, lA, lB, lC, aW, aX]
    rfl
   refine bF (i := 16) (N := some 55) (v := ?_) (a' := ?_) #[true, true, true, true, true, true, true, true, true, true, true, true, true, true, true, true, true, false, false, false, false, false, false, false, false, false, false, false, false, false, false, false, false, false, false, false, false, false] rfl rfl (by kernel_rfl) (fun _ _ _ h => h) (Or.inl ⟨by rfl, ?_⟩) ?_ ?_
   rotate_left
   ·intro w'
    go_simp
    with_reducible rfl
   rotate_left
   ·simp only [Act.put, lA, lB, lC, aW, aX]
    rfl
   refine take_ (i := 19) (N := some 58) (v := ?_) (a' := ?_) #[true, true, true, true, true, true, true, true, true, true, true, true, true, true, true, true, true, false, false, true, false, false, false, false, false, false, false, false, false, false, false, false, false, false, false, false, false, false] rfl rfl (by kernel_rfl) (fun _ _ _ h => h) (Or.inl ⟨by rfl, ?_⟩) hHeld ?_ ?_
   rotate_left
   ·rintro w' ⟨s0, s1, s2, s3, s4, s5, s6, s7, s8, s9, s10, s11, s12⟩
    go_simp
    with_reducible rfl
   rotate_left
   ·simp only [Act.put, lA, lB, lC, aW, aX]
    rfl
   refine bF (i := 20) (N := some 59) (v := ?_) (a' := ?_) #[true, true, true, true, true, true, true, true, true, true, true, true, true, true, true, true, true, false, false, true, true, false, false, false, false, false, false, false, false, false, false, false, false, false, false, false, false, false] rfl rfl (by kernel_rfl) (fun _ _ _ h => h) (Or.inl ⟨by rfl, ?_⟩) ?_ ?_
   rotate_left
   ·intro w'
    go_simp
    with_reducible rfl
   rotate_left
   ·simp only [Act.put, lA, lB, lC, aW, aX]
    rfl
   refine one_ (i := 17) (N := some 56) #[true, true, true, true, true, true, true, true, true, true, true, true, true, true, true, true, true, true, false, true, true, false, false, false, false, false, false, false, false, false, false, false, false, false, false, false, false, false] rfl rfl (by kernel_rfl) (by decide) (fun K hK => ?_)
   refine goes_ Try.func22 (by kernel_rfl) rfl #[.agg #[.slice (some ad24) fs.length c13_0, .slice A13_1 cf.length c13_1, .int .i64 f2, .bool d2], .int .i64 x16] (by rfl) rfl rfl (by (try simp only [List.map_toArray, List.map_cons, List.map_nil]); first | done | rfl | (simp only [List.length_drop, List.length_take]; rfl)) ?_
   (with_reducible refine (impl_ReadSec.calls kf (In lo13 hi13) _ _ fs (In lo13 hi13) _ _ cf f2 d2 x16 bb _ ?s1 ?s2 RF.out).mono ?_)
   (case s1 => exact ⟨_, _, rfl, HC13_0.out, HF13_0.out⟩)
   (case s2 => exact ⟨_, _, rfl, HC13_1.out, HF13_1.out⟩)
   rintro e_ w26 ⟨v0_, rfl, ho0, hb⟩
   refine ⟨_, rfl, ?_⟩
   obtain ⟨lo26, hi26, el_, eh_, ol_, oh_⟩ := Mem.times HT.out hb
   (try rw [← el_] at ho0)
   obtain ⟨A26_0, c26_0, ev_, hc0_, hf0_, hs0_⟩ := Mem.new_R ho0 eh_
   subst ev_
   have n0_ := aD.mk (Kd.aE HF0.out hb)
   have n1_ := aD.mk (Kd.aE HF2_0.out hb)
   have n2_ := aD.mk (Kd.aE HF2_1.out hb)
   have n3_ := aD.mk (Kd.aE HF9.out hb)
   have n4_ := aD.mk (Kd.R_below HS9.out hb)
   have n5_ := aD.mk (Kd.aE HF10_0.out hb)
   have n6_ := aD.mk (Kd.aE HF10_1.out hb)
   have n7_ := aD.mk (Kd.aE HF13_0.out hb)
   have n8_ := aD.mk (Kd.aE HF13_1.out hb)
   have n9_ := aD.mk (Kd.aE HF24.out hb)
   have n10_ := aD.mk (pw_cell_below hb HX24.out)
   have n11_ := aD.mk (aH BK3.out hb)
   have n12_ := aD.mk (aH BK11.out hb)
   have n13_ := aD.mk (aH BK14.out hb)
   have n14_ := aD.mk (aQ HB.out hb)
   have n15_ := aD.mk (hf0_)
   have n16_ := aD.mk (hc0_)
   have n17_ := aD.mk (hs0_)
   have n18_ := aD.mk (And.intro HORD.out (And.intro ol_ oh_))
   have n19_ := aD.mk (Nat.le_of_eq eh_)
   (try clear HF0)
   (try clear HF2_0)
   (try clear HF2_1)
   (try clear HF9)
   (try clear HS9)
   (try clear HF10_0)
   (try clear HF10_1)
   (try clear HF13_0)
   (try clear HF13_1)
   (try clear HF24)
   (try clear HX24)
   (try clear BK3)
   (try clear BK11)
   (try clear BK14)
   (try clear HB)
   (try clear HF26_0)
   (try clear HC26_0)
   (try clear HS26_0)
   (try clear HORD)
   (try clear HT)
   have HF0 := n0_
   have HF2_0 := n1_
   have HF2_1 := n2_
   have HF9 := n3_
   have HS9 := n4_
   have HF10_0 := n5_
   have HF10_1 := n6_
   have HF13_0 := n7_
   have HF13_1 := n8_
   have HF24 := n9_
   have HX24 := n10_
   have BK3 := n11_
   have BK11 := n12_
   have BK14 := n13_
   have HB := n14_
   have HF26_0 := n15_
   have HC26_0 := n16_
   have HS26_0 := n17_
   have HORD := n18_
   have HT := n19_
   clear n0_ n1_ n2_ n3_ n4_ n5_ n6_ n7_ n8_ n9_ n10_ n11_ n12_ n13_ n14_ n15_ n16_ n17_ n18_ n19_
   clear ol_ oh_ el_ eh_ ho0 hf0_ hc0_ hs0_
   (try clear hb)
   refine hK.out _ _ ⟨(aC BK11.out 0).trans rfl, (aC BK11.out 1).trans rfl, (aC BK11.out 2).trans rfl, (aC BK11.out 3).trans rfl, (aC BK3.out 0).trans rfl, (aC BK3.out 1).trans rfl, (aC BK3.out 2).trans rfl, (aC BK3.out 3).trans rfl, (aC BK14.out 0).trans rfl, (aC BK14.out 1).trans rfl, (aC BK14.out 2).trans rfl, (aC BK14.out 3).trans rfl, HX24.out⟩ (fun hHeld => ?_)
   clear hK K
   refine norm_ (a' := ?_) ?_ ?_
   rotate_left
   ·show Act.put _ (some 56) _ = _
    simp only [Act.put, lA, lB, lC, aW, aX]
    rfl
   clear hHeld
   refine restart_ (S' := fun w' => w'.cell? ⟨gb11, 0, none⟩ = some (.slice A10_0 s.length c10_0) ∧ w'.cell? ⟨gb11, 1, none⟩ = some (.slice A10_1 cx.length c10_1) ∧ w'.cell? ⟨gb11, 2, none⟩ = some (.int .i64 f1) ∧ w'.cell? ⟨gb11, 3, none⟩ = some (.bool d1) ∧ w'.cell? ⟨gb3, 0, none⟩ = some (.slice A2_0 s.length c2_0) ∧ w'.cell? ⟨gb3, 1, none⟩ = some (.slice A2_1 c.length c2_1) ∧ w'.cell? ⟨gb3, 2, none⟩ = some (.int .i64 f0) ∧ w'.cell? ⟨gb3, 3, none⟩ = some (.bool d0) ∧ w'.cell? ⟨gb14, 0, none⟩ = some (.slice (some ad24) fs.length c13_0) ∧ w'.cell? ⟨gb14, 1, none⟩ = some (.slice A13_1 cf.length c13_1) ∧ w'.cell? ⟨gb14, 2, none⟩ = some (.int .i64 f2) ∧ w'.cell? ⟨gb14, 3, none⟩ = some (.bool d2) ∧ w'.cell? (ad24.add x16.toNat) = some (.slice Ae24 bb.length ce24) ∧ Kd.C (Kd.int .u8) w' A26_0 bb.length bb) (fun w' h_ => (by obtain ⟨s0, s1, s2, s3, s4, s5, s6, s7, s8, s9, s10, s11, s12, _⟩ := h_; exact ⟨s0, s1, s2, s3, s4, s5, s6, s7, s8, s9, s10, s11, s12⟩)) ⟨(aC BK11.out 0).trans rfl, (aC BK11.out 1).trans rfl, (aC BK11.out 2).trans rfl, (aC BK11.out 3).trans rfl, (aC BK3.out 0).trans rfl, (aC BK3.out 1).trans rfl, (aC BK3.out 2).trans rfl, (aC BK3.out 3).trans rfl, (aC BK14.out 0).trans rfl, (aC BK14.out 1).trans rfl, (aC BK14.out 2).trans rfl, (aC BK14.out 3).trans rfl, HX24.out, (Kd.bH HF26_0.out)⟩ (fun hHeld => ?_)
   refine take_ (i := 18) (N := some 57) (v := ?_) (a' := ?_) #[true, true, true, true, true, true, true, true, true, true, true, true, true, true, true, true, true, true, true, true, true, false, false, false, false, false, false, false, false, false, false, false, false, false, false, false, false, false] rfl rfl (by kernel_rfl) (fun _ _ _ h => h) (Or.inl ⟨by rfl, ?_⟩) hHeld ?_ ?_
   rotate_left
   ·rintro w' ⟨s0, s1, s2, s3, s4, s5, s6, s7, s8, s9, s10, s11, s12, s13⟩
    have hcv_ := Kd.C_string (P := Try.prog) (A := A26_0) (c := c26_0) Try.underlying37 Try.underlying5 Try.underlying9 s13
    go_simp
    with_reducible rfl
   rotate_left
   ·simp only [Act.put, lA, lB, lC, aW, aX]
    rfl
   refine one_ (i := 21) (N := some 60) #[true, true, true, true, true, true, true, true, true, true, true, true, true, true, true, true, true, true, true, true, true, true, false, false, false, false, false, false, false, false, false, false, false, false, false, false, false, false] rfl rfl (by kernel_rfl) (by decide) (fun K hK => ?_)
   refine goes_ Try.func22 (by kernel_rfl) rfl #[.agg #[.slice A10_0 s.length c10_0, .slice A10_1 cx.length c10_1, .int .i64 f1, .bool d1], .int .i64 x16] (by rfl) rfl rfl (by (try simp only [List.map_toArray, List.map_cons, List.map_nil]); first | done | rfl | (simp only [List.length_drop, List.length_take]; rfl)) ?_
   (with_reducible refine (impl_ReadSec.calls kx (In lo10 hi10) _ _ s (In lo10 hi10) _ _ cx f1 d1 x16 bb _ ?s1 ?s2 RX.out).mono ?_)
   (case s1 => exact ⟨_, _, rfl, HC10_0.out, HF10_0.out⟩)
   (case s2 => exact ⟨_, _, rfl, HC10_1.out, HF10_1.out⟩)
   rintro e_ w27 ⟨v0_, rfl, ho0, hb⟩
   refine ⟨_, rfl, ?_⟩
   obtain ⟨lo27, hi27, el_, eh_, ol_, oh_⟩ := Mem.times HT.out hb
   (try rw [← el_] at ho0)
   obtain ⟨A27_0, c27_0, ev_, hc0_, hf0_, hs0_⟩ := Mem.new_R ho0 eh_
   subst ev_
   have n0_ := aD.mk (Kd.aE HF0.out hb)
   have n1_ := aD.mk (Kd.aE HF2_0.out hb)
   have n2_ := aD.mk (Kd.aE HF2_1.out hb)
   have n3_ := aD.mk (Kd.aE HF9.out hb)
   have n4_ := aD.mk (Kd.R_below HS9.out hb)
   have n5_ := aD.mk (Kd.aE HF10_0.out hb)
   have n6_ := aD.mk (Kd.aE HF10_1.out hb)
   have n7_ := aD.mk (Kd.aE HF13_0.out hb)
   have n8_ := aD.mk (Kd.aE HF13_1.out hb)
   have n9_ := aD.mk (Kd.aE HF24.out hb)
   have n10_ := aD.mk (Kd.aE HF26_0.out hb)
   have n11_ := aD.mk (Kd.R_below HS26_0.out hb)
   have n12_ := aD.mk (pw_cell_below hb HX24.out)
   have n13_ := aD.mk (aH BK3.out hb)
   have n14_ := aD.mk (aH BK11.out hb)
   have n15_ := aD.mk (aH BK14.out hb)
   have n16_ := aD.mk (aQ HB.out hb)
   have n17_ := aD.mk (hf0_)
   have n18_ := aD.mk (hc0_)
   have n19_ := aD.mk (hs0_)
   have n20_ := aD.mk (And.intro HORD.out (And.intro ol_ oh_))
   have n21_ := aD.mk (Nat.le_of_eq eh_)
   (try clear HF0)
   (try clear HF2_0)
   (try clear HF2_1)
   (try clear HF9)
   (try clear HS9)
   (try clear HF10_0)
   (try clear HF10_1)
   (try clear HF13_0)
   (try clear HF13_1)
   (try clear HF24)
   (try clear HF26_0)
   (try clear HS26_0)
   (try clear HX24)
   (try clear BK3)
   (try clear BK11)
   (try clear BK14)
   (try clear HB)
   (try clear HF27_0)
   (try clear HC27_0)
   (try clear HS27_0)
   (try clear HORD)
   (try clear HT)
   have HF0 := n0_
   have HF2_0 := n1_
   have HF2_1 := n2_
   have HF9 := n3_
   have HS9 := n4_
   have HF10_0 := n5_
   have HF10_1 := n6_
   have HF13_0 := n7_
   have HF13_1 := n8_
   have HF24 := n9_
   have HF26_0 := n10_
   have HS26_0 := n11_
   have HX24 := n12_
   have BK3 := n13_
   have BK11 := n14_
   have BK14 := n15_
   have HB := n16_
   have HF27_0 := n17_
   have HC27_0 := n18_
   have HS27_0 := n19_
   have HORD := n20_
   have HT := n21_
   clear n0_ n1_ n2_ n3_ n4_ n5_ n6_ n7_ n8_ n9_ n10_ n11_ n12_ n13_ n14_ n15_ n16_ n17_ n18_ n19_ n20_ n21_
   clear ol_ oh_ el_ eh_ ho0 hf0_ hc0_ hs0_
   (try clear hb)
   refine hK.out _ _ ⟨(aC BK11.out 0).trans rfl, (aC BK11.out 1).trans rfl, (aC BK11.out 2).trans rfl, (aC BK11.out 3).trans rfl, (aC BK3.out 0).trans rfl, (aC BK3.out 1).trans rfl, (aC BK3.out 2).trans rfl, (aC BK3.out 3).trans rfl, (aC BK14.out 0).trans rfl, (aC BK14.out 1).trans rfl, (aC BK14.out 2).trans rfl, (aC BK14.out 3).trans rfl, HX24.out, (Kd.bH HF26_0.out)⟩ (fun hHeld => ?_)
   clear hK K
   refine norm_ (a' := ?_) ?_ ?_
   rotate_left
   ·show Act.put _ (some 60) _ = _
    simp only [Act.put, lA, lB, lC, aW, aX]
    rfl
   clear hHeld
   refine restart_ (S' := fun w' => w'.cell? ⟨gb11, 0, none⟩ = some (.slice A10_0 s.length c10_0) ∧ w'.cell? ⟨gb11, 1, none⟩ = some (.slice A10_1 cx.length c10_1) ∧ w'.cell? ⟨gb11, 2, none⟩ = some (.int .i64 f1) ∧ w'.cell? ⟨gb11, 3, none⟩ = some (.bool d1) ∧ w'.cell? ⟨gb3, 0, none⟩ = some (.slice A2_0 s.length c2_0) ∧ w'.cell? ⟨gb3, 1, none⟩ = some (.slice A2_1 c.length c2_1) ∧ w'.cell? ⟨gb3, 2, none⟩ = some (.int .i64 f0) ∧ w'.cell? ⟨gb3, 3, none⟩ = some (.bool d0) ∧ w'.cell? ⟨gb14, 0, none⟩ = some (.slice (some ad24) fs.length c13_0) ∧ w'.cell? ⟨gb14, 1, none⟩ = some (.slice A13_1 cf.length c13_1) ∧ w'.cell? ⟨gb14, 2, none⟩ = some (.int .i64 f2) ∧ w'.cell? ⟨gb14, 3, none⟩ = some (.bool d2) ∧ w'.cell? (ad24.add x16.toNat) = some (.slice Ae24 bb.length ce24) ∧ Kd.C (Kd.int .u8) w' A26_0 bb.length bb ∧ Kd.C (Kd.int .u8) w' A27_0 bb.length bb) (fun w' h_ => (by obtain ⟨s0, s1, s2, s3, s4, s5, s6, s7, s8, s9, s10, s11, s12, s13, _⟩ := h_; exact ⟨s0, s1, s2, s3, s4, s5, s6, s7, s8, s9, s10, s11, s12, s13⟩)) ⟨(aC BK11.out 0).trans rfl, (aC BK11.out 1).trans rfl, (aC BK11.out 2).trans rfl, (aC BK11.out 3).trans rfl, (aC BK3.out 0).trans rfl, (aC BK3.out 1).trans rfl, (aC BK3.out 2).trans rfl, (aC BK3.out 3).trans rfl, (aC BK14.out 0).trans rfl, (aC BK14.out 1).trans rfl, (aC BK14.out 2).trans rfl, (aC BK14.out 3).trans rfl, HX24.out, (Kd.bH HF26_0.out), (Kd.bH HF27_0.out)⟩ (fun hHeld => ?_)
   refine take_ (i := 22) (N := some 61) (v := ?_) (a' := ?_) #[true, true, true, true, true, true, true, true, true, true, true, true, true, true, true, true, true, true, true, true, true, true, true, false, false, false, false, false, false, false, false, false, false, false, false, false, false, false] rfl rfl (by kernel_rfl) (fun _ _ _ h => h) (Or.inl ⟨by rfl, ?_⟩) hHeld ?_ ?_
   rotate_left
   ·rintro w' ⟨s0, s1, s2, s3, s4, s5, s6, s7, s8, s9, s10, s11, s12, s13, s14⟩
    have hcv_ := Kd.C_string (P := Try.prog) (A := A27_0) (c := c27_0) Try.underlying37 Try.underlying5 Try.underlying9 s14
    go_simp
    with_reducible rfl
   rotate_left
   ·simp only [Act.put, lA, lB, lC, aW, aX]
    rfl
   refine bF (i := 23) (N := some 62) (v := ?_) (a' := ?_) #[true, true, true, true, true, true, true, true, true, true, true, true, true, true, true, true, true, true, true, true, true, true, true, true, false, false, false, false, false, false, false, false, false, false, false, false, false, false] rfl rfl (by kernel_rfl) (fun _ _ _ h => h) (Or.inl ⟨by rfl, ?_⟩) ?_ ?_
   rotate_left
   ·intro w'
    go_simp
    with_reducible rfl
   rotate_left
   ·simp only [Act.put, lA, lB, lC, aW, aX]
    rfl
   refine bF (i := 24) (N := some 63) (v := ?_) (a' := ?_) #[true, true, true, true, true, true, true, true, true, true, true, true, true, true, true, true, true, true, true, true, true, true, true, true, true, false, false, false, false, false, false, false, false, false, false, false, false, false] rfl rfl (by kernel_rfl) (fun _ _ _ h => h) (Or.inl ⟨by rfl, ?_⟩) ?_ ?_
   rotate_left
   ·intro w'
    go_simp
    with_reducible rfl
   rotate_left
   ·simp only [Act.put, lA, lB, lC, aW, aX]
    rfl
   refine bF (i := 25) (N := some 64) (v := ?_) (a' := ?_) #[true, true, true, true, true, true, true, true, true, true, true, true, true, true, true, true, true, true, true, true, true, true, true, true, true, true, false, false, false, false, false, false, false, false, false, false, false, false] rfl rfl (by kernel_rfl) (fun _ _ _ h => h) (Or.inl ⟨by rfl, ?_⟩) ?_ ?_
   rotate_left
   ·intro w'
    go_simp
    with_reducible rfl
   rotate_left
   ·simp only [Act.put, lA, lB, lC, aW, aX]
    rfl
   refine bF (i := 26) (N := some 65) (v := ?_) (a' := ?_) #[true, true, true, true, true, true, true, true, true, true, true, true, true, true, true, true, true, true, true, true, true, true, true, true, true, true, true, false, false, false, false, false, false, false, false, false, false, false] rfl rfl (by kernel_rfl) (fun _ _ _ h => h) (Or.inl ⟨by rfl, ?_⟩) ?_ ?_
   rotate_left
   ·intro w'
    go_simp
    with_reducible rfl
   rotate_left
   ·simp only [Act.put, lA, lB, lC, aW, aX]
    rfl
   refine take_ (i := 27) (N := some 66) (v := ?_) (a' := ?_) #[true, true, true, true, true, true, true, true, true, true, true, true, true, true, true, true, true, true, true, true, true, true, true, true, true, true, true, true, false, false, false, false, false, false, false, false, false, false] rfl rfl (by kernel_rfl) (fun _ _ _ h => h) (Or.inl ⟨by rfl, ?_⟩) hHeld ?_ ?_
   rotate_left
   ·rintro w' ⟨s0, s1, s2, s3, s4, s5, s6, s7, s8, s9, s10, s11, s12, s13, s14⟩
    go_simp
    with_reducible rfl
   rotate_left
   ·simp only [Act.put, lA, lB, lC, aW, aX]
    rfl
   refine bF (i := 28) (N := some 67) (v := ?_) (a' := ?_) #[true, true, true, true, true, true, true, true, true, true, true, true, true, true, true, true, true, true, true, true, true, true, true, true, true, true, true, true, true, false, false, false, false, false, false, false, false, false] rfl rfl (by kernel_rfl) (fun _ _ _ h => h) (Or.inl ⟨by rfl, ?_⟩) ?_ ?_
   rotate_left
   ·intro w'
    go_simp
    with_reducible rfl
   rotate_left
   ·simp only [Act.put, lA, lB, lC, aW, aX]
    rfl
   refine bF (i := 29) (N := some 68) (v := ?_) (a' := ?_) #[true, true, true, true, true, true, true, true, true, true, true, true, true, true, true, true, true, true, true, true, true, true, true, true, true, true, true, true, true, true, false, false, false, false, false, false, false, false] rfl rfl (by kernel_rfl) (fun _ _ _ h => h) (Or.inl ⟨by rfl, ?_⟩) ?_ ?_
   rotate_left
   ·intro w'
    go_simp
    with_reducible rfl
   rotate_left
   ·simp only [Act.put, lA, lB, lC, aW, aX]
    rfl
   refine take_ (i := 30) (N := some 69) (v := ?_) (a' := ?_) #[true, true, true, true, true, true, true, true, true, true, true, true, true, true, true, true, true, true, true, true, true, true, true, true, true, true, true, true, true, true, true, false, false, false, false, false, false, false] rfl rfl (by kernel_rfl) (fun _ _ _ h => h) (Or.inl ⟨by rfl, ?_⟩) hHeld ?_ ?_
   rotate_left
   ·rintro w' ⟨s0, s1, s2, s3, s4, s5, s6, s7, s8, s9, s10, s11, s12, s13, s14⟩
    go_simp
    with_reducible rfl
   rotate_left
   ·simp only [Act.put, lA, lB, lC, aW, aX]
    rfl
   clear hHeld
   refine restart_ (S' := fun w' => w'.cell? ⟨gb11, 0, none⟩ = some (.slice A10_0 s.length c10_0) ∧ w'.cell? ⟨gb11, 1, none⟩ = some (.slice A10_1 cx.length c10_1) ∧ w'.cell? ⟨gb11, 2, none⟩ = some (.int .i64 f1) ∧ w'.cell? ⟨gb11, 3, none⟩ = some (.bool d1) ∧ w'.cell? ⟨gb3, 0, none⟩ = some (.slice A2_0 s.length c2_0) ∧ w'.cell? ⟨gb3, 1, none⟩ = some (.slice A2_1 c.length c2_1) ∧ w'.cell? ⟨gb3, 2, none⟩ = some (.int .i64 f0) ∧ w'.cell? ⟨gb3, 3, none⟩ = some (.bool d0) ∧ w'.cell? ⟨gb14, 0, none⟩ = some (.slice (some ad24) fs.length c13_0) ∧ w'.cell? ⟨gb14, 1, none⟩ = some (.slice A13_1 cf.length c13_1) ∧ w'.cell? ⟨gb14, 2, none⟩ = some (.int .i64 f2) ∧ w'.cell? ⟨gb14, 3, none⟩ = some (.bool d2) ∧ w'.cell? (ad24.add x16.toNat) = some (.slice Ae24 bb.length ce24) ∧ Kd.C (Kd.int .u8) w' A26_0 bb.length bb ∧ Kd.C (Kd.int .u8) w' A27_0 bb.length bb ∧ Kd.C (Kd.int .u8) w' Ae24 bb.length bb) (fun w' h_ => (by obtain ⟨s0, s1, s2, s3, s4, s5, s6, s7, s8, s9, s10, s11, s12, s13, s14, _⟩ := h_; exact ⟨s0, s1, s2, s3, s4, s5, s6, s7, s8, s9, s10, s11, s12, s13, s14⟩)) ⟨(aC BK11.out 0).trans rfl, (aC BK11.out 1).trans rfl, (aC BK11.out 2).trans rfl, (aC BK11.out 3).trans rfl, (aC BK3.out 0).trans rfl, (aC BK3.out 1).trans rfl, (aC BK3.out 2).trans rfl, (aC BK3.out 3).trans rfl, (aC BK14.out 0).trans rfl, (aC BK14.out 1).trans rfl, (aC BK14.out 2).trans rfl, (aC BK14.out 3).trans rfl, HX24.out, (Kd.bH HF26_0.out), (Kd.bH HF27_0.out), (Kd.bH HF24.out)⟩ (fun hHeld => ?_)
   refine take_ (i := 31) (N := some 70) (v := ?_) (a' := ?_) #[true, true, true, true, true, true, true, true, true, true, true, true, true, true, true, true, true, true, true, true, true, true, true, true, true, true, true, true, true, true, true, true, false, false, false, false, false, false] rfl rfl (by kernel_rfl) (fun _ _ _ h => h) (Or.inl ⟨by rfl, ?_⟩) hHeld ?_ ?_
   rotate_left
   ·rintro w' ⟨s0, s1, s2, s3, s4, s5, s6, s7, s8, s9, s10, s11, s12, s13, s14, s15⟩
    have hcv_ := Kd.C_string (P := Try.prog) (A := Ae24) (c := ce24) Try.underlying37 Try.underlying5 Try.underlying9 s15
    go_simp
    with_reducible rfl
   rotate_left
   ·simp only [Act.put, lA, lB, lC, aW, aX]
    rfl
   refine take_ (i := 32) (N := some 71) (v := ?_) (a' := ?_) #[true, true, true, true, true, true, true, true, true, true, true, true, true, true, true, true, true, true, true, true, true, true, true, true, true, true, true, true, true, true, true, true, true, false, false, false, false, false] rfl rfl (by kernel_rfl) (fun _ _ _ h => h) (Or.inl ⟨by rfl, ?_⟩) hHeld ?_ ?_
   rotate_left
   ·rintro w' ⟨s0, s1, s2, s3, s4, s5, s6, s7, s8, s9, s10, s11, s12, s13, s14, s15⟩
    go_simp
    with_reducible rfl
   rotate_left
   ·simp only [Act.put, lA, lB, lC, aW, aX]
    rfl
   refine bF (i := 33) (N := some 72) (v := ?_) (a' := ?_) #[true, true, true, true, true, true, true, true, true, true, true, true, true, true, true, true, true, true, true, true, true, true, true, true, true, true, true, true, true, true, true, true, true, true, false, false, false, false] rfl rfl (by kernel_rfl) (fun _ _ _ h => h) (Or.inl ⟨by rfl, ?_⟩) ?_ ?_
   rotate_left
   ·intro w'
    go_simp
    with_reducible rfl
   rotate_left
   ·simp only [Act.put, lA, lB, lC, aW, aX]
    rfl
   refine one_ (i := 34) (N := some 73) #[true, true, true, true, true, true, true, true, true, true, true, true, true, true, true, true, true, true, true, true, true, true, true, true, true, true, true, true, true, true, true, true, true, true, true, false, false, false] rfl rfl (by kernel_rfl) (by decide) (fun K hK => ?_)
   refine goes_ Try.func22 (by kernel_rfl) rfl #[.agg #[.slice A10_0 s.length c10_0, .slice A10_1 cx.length c10_1, .int .i64 f1, .bool d1], .int .i64 x16] (by rfl) rfl rfl (by (try simp only [List.map_toArray, List.map_cons, List.map_nil]); first | done | rfl | (simp only [List.length_drop, List.length_take]; rfl)) ?_
   (with_reducible refine (impl_ReadSec.calls kx (In lo10 hi10) _ _ s (In lo10 hi10) _ _ cx f1 d1 x16 bb _ ?s1 ?s2 RX.out).mono ?_)
   (case s1 => exact ⟨_, _, rfl, HC10_0.out, HF10_0.out⟩)
   (case s2 => exact ⟨_, _, rfl, HC10_1.out, HF10_1.out⟩)
   rintro e_ w28 ⟨v0_, rfl, ho0, hb⟩
   refine ⟨_, rfl, ?_⟩
   obtain ⟨lo28, hi28, el_, eh_, ol_, oh_⟩ := Mem.times HT.out hb
   (try rw [← el_] at ho0)
   obtain ⟨A28_0, c28_0, ev_, hc0_, hf0_, hs0_⟩ := Mem.new_R ho0 eh_
   subst ev_
   have n0_ := aD.mk (Kd.aE HF0.out hb)
   have n1_ := aD.mk (Kd.aE HF2_0.out hb)
   have n2_ := aD.mk (Kd.aE HF2_1.out hb)
   have n3_ := aD.mk (Kd.aE HF9.out hb)
   have n4_ := aD.mk (Kd.R_below HS9.out hb)
   have n5_ := aD.mk (Kd.aE HF10_0.out hb)
   have n6_ := aD.mk (Kd.aE HF10_1.out hb)
   have n7_ := aD.mk (Kd.aE HF13_0.out hb)
   have n8_ := aD.mk (Kd.aE HF13_1.out hb)
   have n9_ := aD.mk (Kd.aE HF24.out hb)
   have n10_ := aD.mk (Kd.aE HF26_0.out hb)
   have n11_ := aD.mk (Kd.R_below HS26_0.out hb)
   have n12_ := aD.mk (Kd.aE HF27_0.out hb)
   have n13_ := aD.mk (Kd.R_below HS27_0.out hb)
   have n14_ := aD.mk (pw_cell_below hb HX24.out)
   have n15_ := aD.mk (aH BK3.out hb)
   have n16_ := aD.mk (aH BK11.out hb)
   have n17_ := aD.mk (aH BK14.out hb)
   have n18_ := aD.mk (aQ HB.out hb)
   have n19_ := aD.mk (hf0_)
   have n20_ := aD.mk (hc0_)
   have n21_ := aD.mk (hs0_)
   have n22_ := aD.mk (And.intro HORD.out (And.intro ol_ oh_))
   have n23_ := aD.mk (Nat.le_of_eq eh_)
   (try clear HF0)
   (try clear HF2_0)
   (try clear HF2_1)
   (try clear HF9)
   (try clear HS9)
   (try clear HF10_0)
   (try clear HF10_1)
   (try clear HF13_0)
   (try clear HF13_1)
   (try clear HF24)
   (try clear HF26_0)
   (try clear HS26_0)
   (try clear HF27_0)
   (try clear HS27_0)
   (try clear HX24)
   (try clear BK3)
   (try clear BK11)
   (try clear BK14)
   (try clear HB)
   (try clear HF28_0)
   (try clear HC28_0)
   (try clear HS28_0)
   (try clear HORD)
   (try clear HT)
   have HF0 := n0_
   have HF2_0 := n1_
   have HF2_1 := n2_
   have HF9 := n3_
   have HS9 := n4_
   have HF10_0 := n5_
   have HF10_1 := n6_
   have HF13_0 := n7_
   have HF13_1 := n8_
   have HF24 := n9_
   have HF26_0 := n10_
   have HS26_0 := n11_
   have HF27_0 := n12_
   have HS27_0 := n13_
   have HX24 := n14_
   have BK3 := n15_
   have BK11 := n16_
   have BK14 := n17_
   have HB := n18_
   have HF28_0 := n19_
   have HC28_0 := n20_
   have HS28_0 := n21_
   have HORD := n22_
   have HT := n23_
   clear n0_ n1_ n2_ n3_ n4_ n5_ n6_ n7_ n8_ n9_ n10_ n11_ n12_ n13_ n14_ n15_ n16_ n17_ n18_ n19_ n20_ n21_ n22_ n23_
   clear ol_ oh_ el_ eh_ ho0 hf0_ hc0_ hs0_
   (try clear hb)
   refine hK.out _ _ ⟨(aC BK11.out 0).trans rfl, (aC BK11.out 1).trans rfl, (aC BK11.out 2).trans rfl, (aC BK11.out 3).trans rfl, (aC BK3.out 0).trans rfl, (aC BK3.out 1).trans rfl, (aC BK3.out 2).trans rfl, (aC BK3.out 3).trans rfl, (aC BK14.out 0).trans rfl, (aC BK14.out 1).trans rfl, (aC BK14.out 2).trans rfl, (aC BK14.out 3).trans rfl, HX24.out, (Kd.bH HF26_0.out), (Kd.bH HF27_0.out), (Kd.bH HF24.out)⟩ (fun hHeld => ?_)
   clear hK K
   refine norm_ (a' := ?_) ?_ ?_
   rotate_left
   ·show Act.put _ (some 73) _ = _
    simp only [Act.put, lA, lB, lC, aW, aX]
    rfl
   clear hHeld
   refine restart_ (S' := fun w' => w'.cell? ⟨gb11, 0, none⟩ = some (.slice A10_0 s.length c10_0) ∧ w'.cell? ⟨gb11, 1, none⟩ = some (.slice A10_1 cx.length c10_1) ∧ w'.cell? ⟨gb11, 2, none⟩ = some (.int .i64 f1) ∧ w'.cell? ⟨gb11, 3, none⟩ = some (.bool d1) ∧ w'.cell? ⟨gb3, 0, none⟩ = some (.slice A2_0 s.length c2_0) ∧ w'.cell? ⟨gb3, 1, none⟩ = some (.slice A2_1 c.length c2_1) ∧ w'.cell? ⟨gb3, 2, none⟩ = some (.int .i64 f0) ∧ w'.cell? ⟨gb3, 3, none⟩ = some (.bool d0) ∧ w'.cell? ⟨gb14, 0, none⟩ = some (.slice (some ad24) fs.length c13_0) ∧ w'.cell? ⟨gb14, 1, none⟩ = some (.slice A13_1 cf.length c13_1) ∧ w'.cell? ⟨gb14, 2, none⟩ = some (.int .i64 f2) ∧ w'.cell? ⟨gb14, 3, none⟩ = some (.bool d2) ∧ w'.cell? (ad24.add x16.toNat) = some (.slice Ae24 bb.length ce24) ∧ Kd.C (Kd.int .u8) w' A26_0 bb.length bb ∧ Kd.C (Kd.int .u8) w' A27_0 bb.length bb ∧ Kd.C (Kd.int .u8) w' Ae24 bb.length bb ∧ Kd.C (Kd.int .u8) w' A28_0 bb.length bb) (fun w' h_ => (by obtain ⟨s0, s1, s2, s3, s4, s5, s6, s7, s8, s9, s10, s11, s12, s13, s14, s15, _⟩ := h_; exact ⟨s0, s1, s2, s3, s4, s5, s6, s7, s8, s9, s10, s11, s12, s13, s14, s15⟩)) ⟨(aC BK11.out 0).trans rfl, (aC BK11.out 1).trans rfl, (aC BK11.out 2).trans rfl, (aC BK11.out 3).trans rfl, (aC BK3.out 0).trans rfl, (aC BK3.out 1).trans rfl, (aC BK3.out 2).trans rfl, (aC BK3.out 3).trans rfl, (aC BK14.out 0).trans rfl, (aC BK14.out 1).trans rfl, (aC BK14.out 2).trans rfl, (aC BK14.out 3).trans rfl, HX24.out, (Kd.bH HF26_0.out), (Kd.bH HF27_0.out), (Kd.bH HF24.out), (Kd.bH HF28_0.out)⟩ (fun hHeld => ?_)
   refine take_ (i := 35) (N := some 74) (v := ?_) (a' := ?_) #[true, true, true, true, true, true, true, true, true, true, true, true, true, true, true, true, true, true, true, true, true, true, true, true, true, true, true, true, true, true, true, true, true, true, true, true, false, false] rfl rfl (by kernel_rfl) (fun _ _ _ h => h) (Or.inl ⟨by rfl, ?_⟩) hHeld ?_ ?_
   rotate_left
   ·rintro w' ⟨s0, s1, s2, s3, s4, s5, s6, s7, s8, s9, s10, s11, s12, s13, s14, s15, s16⟩
    have hcv_ := Kd.C_string (P := Try.prog) (A := A28_0) (c := c28_0) Try.underlying37 Try.underlying5 Try.underlying9 s16
    go_simp
    with_reducible rfl
   rotate_left
   ·simp only [Act.put, lA, lB, lC, aW, aX]
    rfl
   refine bF (i := 36) (N := some 75) (v := ?_) (a' := ?_) #[true, true, true, true, true, true, true, true, true, true, true, true, true, true, true, true, true, true, true, true, true, true, true, true, true, true, true, true, true, true, true, true, true, true, true, true, true, false] rfl rfl (by kernel_rfl) (fun _ _ _ h => h) (Or.inl ⟨by rfl, ?_⟩) ?_ ?_
   rotate_left
   ·intro w'
    go_simp
    with_reducible rfl
   rotate_left
   ·simp only [Act.put, lA, lB, lC, aW, aX]
    rfl
   refine bF (i := 37) (N := some 76) (v := ?_) (a' := ?_) #[true, true, true, true, true, true, true, true, true, true, true, true, true, true, true, true, true, true, true, true, true, true, true, true, true, true, true, true, true, true, true, true, true, true, true, true, true, true] rfl rfl (by kernel_rfl) (fun _ _ _ h => h) (Or.inl ⟨by rfl, ?_⟩) ?_ ?_
   rotate_left
   ·intro w'
    go_simp
    with_reducible rfl
   rotate_left
   ·simp only [Act.put, lA, lB, lC, aW, aX]
    rfl
   refine done_ (by kernel_rfl) ?_
   have hzgb3_0_28 : w28.cell? ⟨gb3, 0, none⟩ = some (.slice A2_0 s.length c2_0) := (aC BK3.out 0).trans rfl
   have hygb3_0_28 := aA BK3.out 0
   have hzgb3_1_28 : w28.cell? ⟨gb3, 1, none⟩ = some (.slice A2_1 c.length c2_1) := (aC BK3.out 1).trans rfl
   have hygb3_1_28 := aA BK3.out 1
   have hzgb3_2_28 : w28.cell? ⟨gb3, 2, none⟩ = some (.int .i64 f0) := (aC BK3.out 2).trans rfl
   have hygb3_2_28 := aA BK3.out 2
   have hzgb3_3_28 : w28.cell? ⟨gb3, 3, none⟩ = some (.bool d0) := (aC BK3.out 3).trans rfl
   have hygb3_3_28 := aA BK3.out 3
   have hzgb11_0_28 : w28.cell? ⟨gb11, 0, none⟩ = some (.slice A10_0 s.length c10_0) := (aC BK11.out 0).trans rfl
   have hygb11_0_28 := aA BK11.out 0
   have hzgb11_1_28 : w28.cell? ⟨gb11, 1, none⟩ = some (.slice A10_1 cx.length c10_1) := (aC BK11.out 1).trans rfl
   have hygb11_1_28 := aA BK11.out 1
   have hzgb11_2_28 : w28.cell? ⟨gb11, 2, none⟩ = some (.int .i64 f1) := (aC BK11.out 2).trans rfl
   have hygb11_2_28 := aA BK11.out 2
   have hzgb11_3_28 : w28.cell? ⟨gb11, 3, none⟩ = some (.bool d1) := (aC BK11.out 3).trans rfl
   have hygb11_3_28 := aA BK11.out 3
   have hzgb14_0_28 : w28.cell? ⟨gb14, 0, none⟩ = some (.slice (some ad24) fs.length c13_0) := (aC BK14.out 0).trans rfl
   have hygb14_0_28 := aA BK14.out 0
   have hzgb14_1_28 : w28.cell? ⟨gb14, 1, none⟩ = some (.slice A13_1 cf.length c13_1) := (aC BK14.out 1).trans rfl
   have hygb14_1_28 := aA BK14.out 1
   have hzgb14_2_28 : w28.cell? ⟨gb14, 2, none⟩ = some (.int .i64 f2) := (aC BK14.out 2).trans rfl
   have hygb14_2_28 := aA BK14.out 2
   have hzgb14_3_28 : w28.cell? ⟨gb14, 3, none⟩ = some (.bool d2) := (aC BK14.out 3).trans rfl
   have hygb14_3_28 := aA BK14.out 3
   try go_wp2
   go_roundg k1
   case measure => omega
   case rel => exact ⟨i16 + 1, _, rfl, ⟨show _ = ((i16 + 1 : Nat) : Int) by have := HI16.out; have hm_ := HSL.out; have := HK16.out; first | (rw [w64 (by omega) (by omega)]; omega) | omega⟩, ⟨by have := HK16.out; omega⟩, ⟨Nat.le_trans (by have o_ := HORD.out; omega) HT.out⟩, HF0, HF2_0, HF2_1, HF9, HS9, HF10_0, HF10_1, HF13_0, HF13_1, BK3, BK11, BK14, HB⟩
 have hd_ : decide (x16 < (s.length : Int)) = false := decide_eq_false (by have := HI16.out; have := HK16.out; omega)
 have hzgb3_0_28 : wr.cell? ⟨gb3, 0, none⟩ = some (.slice A2_0 s.length c2_0) := (aC BK3.out 0).trans rfl
 have hygb3_0_28 := aA BK3.out 0
 have hzgb3_1_28 : wr.cell? ⟨gb3, 1, none⟩ = some (.slice A2_1 c.length c2_1) := (aC BK3.out 1).trans rfl
 have hygb3_1_28 := aA BK3.out 1
 have hzgb3_2_28 : wr.cell? ⟨gb3, 2, none⟩ = some (.int .i64 f0) := (aC BK3.out 2).trans rfl
 have hygb3_2_28 := aA BK3.out 2
 have hzgb3_3_28 : wr.cell? ⟨gb3, 3, none⟩ = some (.bool d0) := (aC BK3.out 3).trans rfl
 have hygb3_3_28 := aA BK3.out 3
 have hzgb11_0_28 : wr.cell? ⟨gb11, 0, none⟩ = some (.slice A10_0 s.length c10_0) := (aC BK11.out 0).trans rfl
 have hygb11_0_28 := aA BK11.out 0
 have hzgb11_1_28 : wr.cell? ⟨gb11, 1, none⟩ = some (.slice A10_1 cx.length c10_1) := (aC BK11.out 1).trans rfl
 have hygb11_1_28 := aA BK11.out 1
 have hzgb11_2_28 : wr.cell? ⟨gb11, 2, none⟩ = some (.int .i64 f1) := (aC BK11.out 2).trans rfl
 have hygb11_2_28 := aA BK11.out 2
 have hzgb11_3_28 : wr.cell? ⟨gb11, 3, none⟩ = some (.bool d1) := (aC BK11.out 3).trans rfl
 have hygb11_3_28 := aA BK11.out 3
 have hzgb14_0_28 : wr.cell? ⟨gb14, 0, none⟩ = some (.slice A13_0 fs.length c13_0) := (aC BK14.out 0).trans rfl
 have hygb14_0_28 := aA BK14.out 0
 have hzgb14_1_28 : wr.cell? ⟨gb14, 1, none⟩ = some (.slice A13_1 cf.length c13_1) := (aC BK14.out 1).trans rfl
 have hygb14_1_28 := aA BK14.out 1
 have hzgb14_2_28 : wr.cell? ⟨gb14, 2, none⟩ = some (.int .i64 f2) := (aC BK14.out 2).trans rfl
 have hygb14_2_28 := aA BK14.out 2
 have hzgb14_3_28 : wr.cell? ⟨gb14, 3, none⟩ = some (.bool d2) := (aC BK14.out 3).trans rfl
 have hygb14_3_28 := aA BK14.out 3
 try go_wp2
 have n_ := aD.mk (Kd.F_drew HF0.out)
 clear HF0
 have HF0 := n_
 clear n_
 have n_ := aD.mk (Kd.F_drew HF2_0.out)
 clear HF2_0
 have HF2_0 := n_
 clear n_
 have n_ := aD.mk (Kd.F_drew HF2_1.out)
 clear HF2_1
 have HF2_1 := n_
 clear n_
 have n_ := aD.mk (Kd.F_drew HF9.out)
 clear HF9
 have HF9 := n_
 clear n_
 have n_ := aD.mk (Kd.R_drew HS9.out)
 clear HS9
 have HS9 := n_
 clear n_
 have n_ := aD.mk (Kd.F_drew HF10_0.out)
 clear HF10_0
 have HF10_0 := n_
 clear n_
 have n_ := aD.mk (Kd.F_drew HF10_1.out)
 clear HF10_1
 have HF10_1 := n_
 clear n_
 have n_ := aD.mk (Kd.F_drew HF13_0.out)
 clear HF13_0
 have HF13_0 := n_
 clear n_
 have n_ := aD.mk (Kd.F_drew HF13_1.out)
 clear HF13_1
 have HF13_1 := n_
 clear n_
 have n_ := aD.mk (bA BK3.out)
 clear BK3
 have BK3 := n_
 clear n_
 have n_ := aD.mk (bA BK11.out)
 clear BK11
 have BK11 := n_
 clear n_
 have n_ := aD.mk (bA BK14.out)
 clear BK14
 have BK14 := n_
 clear n_
 have n_ := aD.mk (aN HB.out)
 clear HB
 have HB := n_
 clear n_
 have n_ := aD.mk (show _ ≤ wr.drew.heap.size from HT.out)
 clear HT
 have HT := n_
 clear n_
 refine start_ (n := 18) (S := fun w' => w'.cell? ⟨gb11, 0, none⟩ = some (.slice A10_0 s.length c10_0) ∧ w'.cell? ⟨gb11, 1, none⟩ = some (.slice A10_1 cx.length c10_1) ∧ w'.cell? ⟨gb11, 2, none⟩ = some (.int .i64 f1) ∧ w'.cell? ⟨gb11, 3, none⟩ = some (.bool d1) ∧ w'.cell? ⟨gb14, 0, none⟩ = some (.slice A13_0 fs.length c13_0) ∧ w'.cell? ⟨gb14, 1, none⟩ = some (.slice A13_1 cf.length c13_1) ∧ w'.cell? ⟨gb14, 2, none⟩ = some (.int .i64 f2) ∧ w'.cell? ⟨gb14, 3, none⟩ = some (.bool d2) ∧ Kd.C (Kd.int .u8) w' A9 yb.length yb) (ds := []) #[false, false, false, false, false, false, false, false, false, false, false, false, false, false, false, false, false, false] (by kernel_rfl) rfl rfl ⟨(aC BK11.out 0).trans rfl, (aC BK11.out 1).trans rfl, (aC BK11.out 2).trans rfl, (aC BK11.out 3).trans rfl, (aC BK14.out 0).trans rfl, (aC BK14.out 1).trans rfl, (aC BK14.out 2).trans rfl, (aC BK14.out 3).trans rfl, (Kd.bH HF9.out)⟩ (fun hHeld => ?_)
 generalize wr.drew = w29 at HF0 HF2_0 HF2_1 HF9 HS9 HF10_0 HF10_1 HF13_0 HF13_1 BK3 BK11 BK14 HB HT hHeld ⊢
 refine take_ (i := 0) (N := some 77) (v := ?_) (a' := ?_) #[true, false, false, false, false, false, false, false, false, false, false, false, false, false, false, false, false, false] rfl rfl (by kernel_rfl) (fun _ _ _ h => h) (Or.inl ⟨by rfl, ?_⟩) hHeld ?_ ?_
 rotate_left
 ·rintro w' ⟨s0, s1, s2, s3, s4, s5, s6, s7, s8⟩
  go_simp
  with_reducible rfl
 rotate_left
 ·simp only [Act.put, lA, lB, lC, aW, aX]
  rfl
 refine bF (i := 1) (N := some 78) (v := ?_) (a' := ?_) #[true, true, false, false, false, false, false, false, false, false, false, false, false, false, false, false, false, false] rfl rfl (by kernel_rfl) (fun _ _ _ h => h) (Or.inl ⟨by rfl, ?_⟩) ?_ ?_
 rotate_left
 ·intro w'
  go_simp
  with_reducible rfl
 rotate_left
 ·simp only [Act.put, lA, lB, lC, aW, aX]
  rfl
 refine bF (i := 4) (N := some 81) (v := ?_) (a' := ?_) #[true, true, false, false, true, false, false, false, false, false, false, false, false, false, false, false, false, false] rfl rfl (by kernel_rfl) (fun _ _ _ h => h) (Or.inl ⟨by rfl, ?_⟩) ?_ ?_
 rotate_left
 ·intro w'
  go_simp
  with_reducible rfl
 rotate_left
 ·simp only [Act.put, lA, lB, lC, aW, aX]
  rfl
 refine take_ (i := 5) (N := some 82) (v := ?_) (a' := ?_) #[true, true, false, false, true, true, false, false, false, false, false, false, false, false, false, false, false, false] rfl rfl (by kernel_rfl) (fun _ _ _ h => h) (Or.inl ⟨by rfl, ?_⟩) hHeld ?_ ?_
 rotate_left
 ·rintro w' ⟨s0, s1, s2, s3, s4, s5, s6, s7, s8⟩
  have hcv_ := Kd.C_string (P := Try.prog) (A := A9) (c := c9) Try.underlying37 Try.underlying5 Try.underlying9 s8
  go_simp
  with_reducible rfl
 rotate_left
 ·simp only [Act.put, lA, lB, lC, aW, aX]
  rfl
 refine one_ (i := 2) (N := some 79) #[true, true, true, false, true, true, false, false, false, false, false, false, false, false, false, false, false, false] rfl rfl (by kernel_rfl) (by decide) (fun K hK => ?_)
 refine goes_ Try.func22 (by kernel_rfl) rfl #[.agg #[.slice A10_0 s.length c10_0, .slice A10_1 cx.length c10_1, .int .i64 f1, .bool d1], .int .i64 n] (by rfl) rfl rfl (by (try simp only [List.map_toArray, List.map_cons, List.map_nil]); first | done | rfl | (simp only [List.length_drop, List.length_take]; rfl)) ?_
 (with_reducible refine (impl_ReadSec.calls k9 (In lo10 hi10) _ _ s (In lo10 hi10) _ _ cx f1 d1 n yb _ ?s1 ?s2 RN.out).mono ?_)
 (case s1 => exact ⟨_, _, rfl, HC10_0.out, HF10_0.out⟩)
 (case s2 => exact ⟨_, _, rfl, HC10_1.out, HF10_1.out⟩)
 rintro e_ w30 ⟨v0_, rfl, ho0, hb⟩
 refine ⟨_, rfl, ?_⟩
 obtain ⟨lo30, hi30, el_, eh_, ol_, oh_⟩ := Mem.times HT.out hb
 (try rw [← el_] at ho0)
 obtain ⟨A30_0, c30_0, ev_, hc0_, hf0_, hs0_⟩ := Mem.new_R ho0 eh_
 subst ev_
 have n0_ := aD.mk (Kd.aE HF0.out hb)
 have n1_ := aD.mk (Kd.aE HF2_0.out hb)
 have n2_ := aD.mk (Kd.aE HF2_1.out hb)
 have n3_ := aD.mk (Kd.aE HF9.out hb)
 have n4_ := aD.mk (Kd.R_below HS9.out hb)
 have n5_ := aD.mk (Kd.aE HF10_0.out hb)
 have n6_ := aD.mk (Kd.aE HF10_1.out hb)
 have n7_ := aD.mk (Kd.aE HF13_0.out hb)
 have n8_ := aD.mk (Kd.aE HF13_1.out hb)
 have n9_ := aD.mk (aH BK3.out hb)
 have n10_ := aD.mk (aH BK11.out hb)
 have n11_ := aD.mk (aH BK14.out hb)
 have n12_ := aD.mk (aQ HB.out hb)
 have n13_ := aD.mk (hf0_)
 have n14_ := aD.mk (hc0_)
 have n15_ := aD.mk (hs0_)
 have n16_ := aD.mk (And.intro HORD.out (And.intro ol_ oh_))
 have n17_ := aD.mk (Nat.le_of_eq eh_)
 (try clear HF0)
 (try clear HF2_0)
 (try clear HF2_1)
 (try clear HF9)
 (try clear HS9)
 (try clear HF10_0)
 (try clear HF10_1)
 (try clear HF13_0)
 (try clear HF13_1)
 (try clear BK3)
 (try clear BK11)
 (try clear BK14)
 (try clear HB)
 (try clear HF30_0)
 (try clear HC30_0)
 (try clear HS30_0)
 (try clear HORD)
 (try clear HT)
 have HF0 := n0_
 have HF2_0 := n1_
 have HF2_1 := n2_
 have HF9 := n3_
 have HS9 := n4_
 have HF10_0 := n5_
 have HF10_1 := n6_
 have HF13_0 := n7_
 have HF13_1 := n8_
 have BK3 := n9_
 have BK11 := n10_
 have BK14 := n11_
 have HB := n12_
 have HF30_0 := n13_
 have HC30_0 := n14_
 have HS30_0 := n15_
 have HORD := n16_
 have HT := n17_
 clear n0_ n1_ n2_ n3_ n4_ n5_ n6_ n7_ n8_ n9_ n10_ n11_ n12_ n13_ n14_ n15_ n16_ n17_
 clear ol_ oh_ el_ eh_ ho0 hf0_ hc0_ hs0_
 (try clear hb)
 refine hK.out _ _ ⟨(aC BK11.out 0).trans rfl, (aC BK11.out 1).trans rfl, (aC BK11.out 2).trans rfl, (aC BK11.out 3).trans rfl, (aC BK14.out 0).trans rfl, (aC BK14.out 1).trans rfl, (aC BK14.out 2).trans rfl, (aC BK14.out 3).trans rfl, (Kd.bH HF9.out)⟩ (fun hHeld => ?_)
 clear hK K
 refine norm_ (a' := ?_) ?_ ?_
 rotate_left
 ·show Act.put _ (some 79) _ = _
  simp only [Act.put, lA, lB, lC, aW, aX]
  rfl
 clear hHeld
 refine restart_ (S' := fun w' => w'.cell? ⟨gb11, 0, none⟩ = some (.slice A10_0 s.length c10_0) ∧ w'.cell? ⟨gb11, 1, none⟩ = some (.slice A10_1 cx.length c10_1) ∧ w'.cell? ⟨gb11, 2, none⟩ = some (.int .i64 f1) ∧ w'.cell? ⟨gb11, 3, none⟩ = some (.bool d1) ∧ w'.cell? ⟨gb14, 0, none⟩ = some (.slice A13_0 fs.length c13_0) ∧ w'.cell? ⟨gb14, 1, none⟩ = some (.slice A13_1 cf.length c13_1) ∧ w'.cell? ⟨gb14, 2, none⟩ = some (.int .i64 f2) ∧ w'.cell? ⟨gb14, 3, none⟩ = some (.bool d2) ∧ Kd.C (Kd.int .u8) w' A9 yb.length yb ∧ Kd.C (Kd.int .u8) w' A30_0 yb.length yb) (fun w' h_ => (by obtain ⟨s0, s1, s2, s3, s4, s5, s6, s7, s8, _⟩ := h_; exact ⟨s0, s1, s2, s3, s4, s5, s6, s7, s8⟩)) ⟨(aC BK11.out 0).trans rfl, (aC BK11.out 1).trans rfl, (aC BK11.out 2).trans rfl, (aC BK11.out 3).trans rfl, (aC BK14.out 0).trans rfl, (aC BK14.out 1).trans rfl, (aC BK14.out 2).trans rfl, (aC BK14.out 3).trans rfl, (Kd.bH HF9.out), (Kd.bH HF30_0.out)⟩ (fun hHeld => ?_)
 refine take_ (i := 3) (N := some 80) (v := ?_) (a' := ?_) #[true, true, true, true, true, true, false, false, false, false, false, false, false, false, false, false, false, false] rfl rfl (by kernel_rfl) (fun _ _ _ h => h) (Or.inl ⟨by rfl, ?_⟩) hHeld ?_ ?_
 rotate_left
 ·rintro w' ⟨s0, s1, s2, s3, s4, s5, s6, s7, s8, s9⟩
  have hcv_ := Kd.C_string (P := Try.prog) (A := A30_0) (c := c30_0) Try.underlying37 Try.underlying5 Try.underlying9 s9
  go_simp
  with_reducible rfl
 rotate_left
 ·simp only [Act.put, lA, lB, lC, aW, aX]
  rfl
 refine bF (i := 6) (N := some 83) (v := ?_) (a' := ?_) #[true, true, true, true, true, true, true, false, false, false, false, false, false, false, false, false, false, false] rfl rfl (by kernel_rfl) (fun _ _ _ h => h) (Or.inl ⟨by rfl, ?_⟩) ?_ ?_
 rotate_left
 ·intro w'
  go_simp
  with_reducible rfl
 rotate_left
 ·simp only [Act.put, lA, lB, lC, aW, aX]
  rfl
 refine bF (i := 7) (N := some 84) (v := ?_) (a' := ?_) #[true, true, true, true, true, true, true, true, false, false, false, false, false, false, false, false, false, false] rfl rfl (by kernel_rfl) (fun _ _ _ h => h) (Or.inl ⟨by rfl, ?_⟩) ?_ ?_
 rotate_left
 ·intro w'
  go_simp
  with_reducible rfl
 rotate_left
 ·simp only [Act.put, lA, lB, lC, aW, aX]
  rfl
 refine take_ (i := 8) (N := some 85) (v := ?_) (a' := ?_) #[true, true, true, true, true, true, true, true, true, false, false, false, false, false, false, false, false, false] rfl rfl (by kernel_rfl) (fun _ _ _ h => h) (Or.inl ⟨by rfl, ?_⟩) hHeld ?_ ?_
 rotate_left
 ·rintro w' ⟨s0, s1, s2, s3, s4, s5, s6, s7, s8, s9⟩
  go_simp
  with_reducible rfl
 rotate_left
 ·simp only [Act.put, lA, lB, lC, aW, aX]
  rfl
 refine one_ (i := 9) (N := some 86) #[true, true, true, true, true, true, true, true, true, true, false, false, false, false, false, false, false, false] rfl rfl (by kernel_rfl) (by decide) (fun K hK => ?_)
 refine goes_ Try.func20 (by kernel_rfl) rfl #[.agg #[.slice A10_0 s.length c10_0, .slice A10_1 cx.length c10_1, .int .i64 f1, .bool d1]] (by rfl) rfl rfl (by (try simp only [List.map_toArray, List.map_cons, List.map_nil]); first | done | rfl | (simp only [List.length_drop, List.length_take]; rfl)) ?_
 (with_reducible refine (impl_DevOk.calls k10 _ _ s _ _ cx f1 d1 true _ ?s1 ?s2 ?s3 ?s4 Q9.out).mono ?_)
 (case s1 => exact (Kd.bH HF10_0.out))
 (case s2 => exact HC10_0.out)
 (case s3 => exact (Kd.bH HF10_1.out))
 (case s4 => exact HC10_1.out)
 rintro e_ w31 ⟨rfl, hb⟩
 refine ⟨_, rfl, ?_⟩
 have n0_ := aD.mk (Kd.aE HF0.out hb)
 have n1_ := aD.mk (Kd.aE HF2_0.out hb)
 have n2_ := aD.mk (Kd.aE HF2_1.out hb)
 have n3_ := aD.mk (Kd.aE HF9.out hb)
 have n4_ := aD.mk (Kd.R_below HS9.out hb)
 have n5_ := aD.mk (Kd.aE HF10_0.out hb)
 have n6_ := aD.mk (Kd.aE HF10_1.out hb)
 have n7_ := aD.mk (Kd.aE HF13_0.out hb)
 have n8_ := aD.mk (Kd.aE HF13_1.out hb)
 have n9_ := aD.mk (Kd.aE HF30_0.out hb)
 have n10_ := aD.mk (Kd.R_below HS30_0.out hb)
 have n11_ := aD.mk (aH BK3.out hb)
 have n12_ := aD.mk (aH BK11.out hb)
 have n13_ := aD.mk (aH BK14.out hb)
 have n14_ := aD.mk (aQ HB.out hb)
 have n15_ := aD.mk (Nat.le_trans HT.out hb.size)
 (try clear HF0)
 (try clear HF2_0)
 (try clear HF2_1)
 (try clear HF9)
 (try clear HS9)
 (try clear HF10_0)
 (try clear HF10_1)
 (try clear HF13_0)
 (try clear HF13_1)
 (try clear HF30_0)
 (try clear HS30_0)
 (try clear BK3)
 (try clear BK11)
 (try clear BK14)
 (try clear HB)
 (try clear HT)
 have HF0 := n0_
 have HF2_0 := n1_
 have HF2_1 := n2_
 have HF9 := n3_
 have HS9 := n4_
 have HF10_0 := n5_
 have HF10_1 := n6_
 have HF13_0 := n7_
 have HF13_1 := n8_
 have HF30_0 := n9_
 have HS30_0 := n10_
 have BK3 := n11_
 have BK11 := n12_
 have BK14 := n13_
 have HB := n14_
 have HT := n15_
 clear n0_ n1_ n2_ n3_ n4_ n5_ n6_ n7_ n8_ n9_ n10_ n11_ n12_ n13_ n14_ n15_
 (try clear hb)
 refine hK.out _ _ ⟨(aC BK11.out 0).trans rfl, (aC BK11.out 1).trans rfl, (aC BK11.out 2).trans rfl, (aC BK11.out 3).trans rfl, (aC BK14.out 0).trans rfl, (aC BK14.out 1).trans rfl, (aC BK14.out 2).trans rfl, (aC BK14.out 3).trans rfl, (Kd.bH HF9.out), (Kd.bH HF30_0.out)⟩ (fun hHeld => ?_)
 clear hK K
 refine norm_ (a' := ?_) ?_ ?_
 rotate_left
 ·show Act.put _ (some 86) _ = _
  simp only [Act.put, lA, lB, lC, aW, aX]
  rfl
 refine bF (i := 10) (N := some 87) (v := ?_) (a' := ?_) #[true, true, true, true, true, true, true, true, true, true, true, false, false, false, false, false, false, false] rfl rfl (by kernel_rfl) (fun _ _ _ h => h) (Or.inl ⟨by rfl, ?_⟩) ?_ ?_
 rotate_left
 ·intro w'
  go_simp
  with_reducible rfl
 rotate_left
 ·simp only [Act.put, lA, lB, lC, aW, aX]
  rfl
 refine bF (i := 11) (N := some 88) (v := ?_) (a' := ?_) #[true, true, true, true, true, true, true, true, true, true, true, true, false, false, false, false, false, false] rfl rfl (by kernel_rfl) (fun _ _ _ h => h) (Or.inl ⟨by rfl, ?_⟩) ?_ ?_
 rotate_left
 ·intro w'
  go_simp
  with_reducible rfl
 rotate_left
 ·simp only [Act.put, lA, lB, lC, aW, aX]
  rfl
 refine bF (i := 12) (N := some 89) (v := ?_) (a' := ?_) #[true, true, true, true, true, true, true, true, true, true, true, true, true, false, false, false, false, false] rfl rfl (by kernel_rfl) (fun _ _ _ h => h) (Or.inl ⟨by rfl, ?_⟩) ?_ ?_
 rotate_left
 ·intro w'
  go_simp
  with_reducible rfl
 rotate_left
 ·simp only [Act.put, lA, lB, lC, aW, aX]
  rfl
 refine take_ (i := 13) (N := some 90) (v := ?_) (a' := ?_) #[true, true, true, true, true, true, true, true, true, true, true, true, true, true, false, false, false, false] rfl rfl (by kernel_rfl) (fun _ _ _ h => h) (Or.inl ⟨by rfl, ?_⟩) hHeld ?_ ?_
 rotate_left
 ·rintro w' ⟨s0, s1, s2, s3, s4, s5, s6, s7, s8, s9⟩
  go_simp
  with_reducible rfl
 rotate_left
 ·simp only [Act.put, lA, lB, lC, aW, aX]
  rfl
 refine bF (i := 14) (N := some 91) (v := ?_) (a' := ?_) #[true, true, true, true, true, true, true, true, true, true, true, true, true, true, true, false, false, false] rfl rfl (by kernel_rfl) (fun _ _ _ h => h) (Or.inl ⟨by rfl, ?_⟩) ?_ ?_
 rotate_left
 ·intro w'
  go_simp
  with_reducible rfl
 rotate_left
 ·simp only [Act.put, lA, lB, lC, aW, aX]
  rfl
 refine bF (i := 15) (N := some 92) (v := ?_) (a' := ?_) #[true, true, true, true, true, true, true, true, true, true, true, true, true, true, true, true, false, false] rfl rfl (by kernel_rfl) (fun _ _ _ h => h) (Or.inl ⟨by rfl, ?_⟩) ?_ ?_
 rotate_left
 ·intro w'
  go_simp
  with_reducible rfl
 rotate_left
 ·simp only [Act.put, lA, lB, lC, aW, aX]
  rfl
 refine bF (i := 16) (N := some 93) (v := ?_) (a' := ?_) #[true, true, true, true, true, true, true, true, true, true, true, true, true, true, true, true, true, false] rfl rfl (by kernel_rfl) (fun _ _ _ h => h) (Or.inl ⟨by rfl, ?_⟩) ?_ ?_
 rotate_left
 ·intro w'
  go_simp
  with_reducible rfl
 rotate_left
 ·simp only [Act.put, lA, lB, lC, aW, aX]
  rfl
 refine bF (i := 17) (N := some 2) (v := ?_) (a' := ?_) #[true, true, true, true, true, true, true, true, true, true, true, true, true, true, true, true, true, true] rfl rfl (by kernel_rfl) (fun _ _ _ h => h) (Or.inl ⟨by rfl, ?_⟩) ?_ ?_
 rotate_left
 ·intro w'
  go_simp
  with_reducible rfl
 rotate_left
 ·simp only [Act.put, lA, lB, lC, aW, aX]
  rfl
 refine done_ (by kernel_rfl) ?_
 have hzgb3_0_31 : w31.cell? ⟨gb3, 0, none⟩ = some (.slice A2_0 s.length c2_0) := (aC BK3.out 0).trans rfl
 have hygb3_0_31 := aA BK3.out 0
 have hzgb3_1_31 : w31.cell? ⟨gb3, 1, none⟩ = some (.slice A2_1 c.length c2_1) := (aC BK3.out 1).trans rfl
 have hygb3_1_31 := aA BK3.out 1
 have hzgb3_2_31 : w31.cell? ⟨gb3, 2, none⟩ = some (.int .i64 f0) := (aC BK3.out 2).trans rfl
 have hygb3_2_31 := aA BK3.out 2
 have hzgb3_3_31 : w31.cell? ⟨gb3, 3, none⟩ = some (.bool d0) := (aC BK3.out 3).trans rfl
 have hygb3_3_31 := aA BK3.out 3
 have hzgb11_0_31 : w31.cell? ⟨gb11, 0, none⟩ = some (.slice A10_0 s.length c10_0) := (aC BK11.out 0).trans rfl
 have hygb11_0_31 := aA BK11.out 0
 have hzgb11_1_31 : w31.cell? ⟨gb11, 1, none⟩ = some (.slice A10_1 cx.length c10_1) := (aC BK11.out 1).trans rfl
 have hygb11_1_31 := aA BK11.out 1
 have hzgb11_2_31 : w31.cell? ⟨gb11, 2, none⟩ = some (.int .i64 f1) := (aC BK11.out 2).trans rfl
 have hygb11_2_31 := aA BK11.out 2
 have hzgb11_3_31 : w31.cell? ⟨gb11, 3, none⟩ = some (.bool d1) := (aC BK11.out 3).trans rfl
 have hygb11_3_31 := aA BK11.out 3
 have hzgb14_0_31 : w31.cell? ⟨gb14, 0, none⟩ = some (.slice A13_0 fs.length c13_0) := (aC BK14.out 0).trans rfl
 have hygb14_0_31 := aA BK14.out 0
 have hzgb14_1_31 : w31.cell? ⟨gb14, 1, none⟩ = some (.slice A13_1 cf.length c13_1) := (aC BK14.out 1).trans rfl
 have hygb14_1_31 := aA BK14.out 1
 have hzgb14_2_31 : w31.cell? ⟨gb14, 2, none⟩ = some (.int .i64 f2) := (aC BK14.out 2).trans rfl
 have hygb14_2_31 := aA BK14.out 2
 have hzgb14_3_31 : w31.cell? ⟨gb14, 3, none⟩ = some (.bool d2) := (aC BK14.out 3).trans rfl
 have hygb14_3_31 := aA BK14.out 3
 try go_wp2
 have hres_ := @results_tmp Try.f9 2 (by kernel_rfl)
 refine bodyPost_ret (fn := Try.f9) (P := Try.prog) (hres_ _ _ _) rfl ?_
 exact ⟨rfl, HB.out⟩
theorem okDev_of {m : Nat} {s : List (List Int)} {c : List S50} (h : okD m s c) (hm : m ≤ 100) : okDevB s c = true := by
 have hb := okD_bulkM h hm
 unfold okByteSS okWrS at hb
 unfold okDevB
 simp [hb.1, hb.2]
theorem laws_FnDevs.calls (A0 : Option Addr) (c0 : Nat) (l0 : List (Int)) (w : World) (hr0 : Kd.C (Kd.int .u8) w A0 l0.length l0) (hc0 : l0.length ≤ c0) (h0 : l0.length ≤ 9223372036854775807 ∧ ∀ x ∈ l0, (Lit.int .u8 x).wf = true) :
  Calls Try.prog 9 #[.slice A0 l0.length c0] w fun e w' => e = .returned (.bool true) ∧ Below w.heap.size w w' := by
 have hf := C_F (Kd.heap_int _) hr0
 have hB : bytesIn l0 := fun x hx => wf_u8 (h0.2 x hx)
 by_cases hbig : (l0.length : Int) > 1048576
 ·exact walkFnDevsbig _ _ _ [] [] [] [] [] 0 0 0 0 0 0 0 false false false [] w hf hc0 (by simp only [laws_big.f, decide_eq_true hbig])
 have hl : l0.length ≤ 1048576 := by omega
 obtain ⟨s, c, hok, e0⟩ := DrawDev_ex l0 hB hl
 obtain ⟨k2, A2⟩ := evGet e0
 obtain ⟨e2, a2, b2⟩ := at_ex l0 2 hB hl (by omega) (by omega)
 obtain ⟨e3, a3, b3⟩ := at_ex l0 3 hB hl (by omega) (by omega)
 obtain ⟨e4, a4, b4⟩ := at_ex l0 4 hB hl (by omega) (by omega)
 have hs := hok.1
 have hcl := hok.2.2.1
 have h1 := Int.tmod_nonneg (b := (s.length : Int)) b2.1
 have h2 := Int.tmod_lt_of_pos e2 (show (0 : Int) < (s.length : Int) by omega)
 obtain ⟨n, hn⟩ := Int.eq_ofNat_of_zero_le h1
 rw [hn] at h2
 have hns : n < s.length := by omega
 have hy : ([e3, e4] : List Int).length ≤ 4 := by simp
 have hx := okD_app (n : Int) [e3, e4] hok (by omega) hy
 have hfl := okD_flush (n := 0) hx
 have hbs := okD_bulkM hok (by decide)
 have hbx := okD_bulkM hx (by decide)
 have hbf := okD_bulkM hfl (by decide)
 obtain ⟨k9, A9⟩ := evGet (impl_ReadSec_ev s (c ++ [(⟨(n : Int), [e3, e4]⟩ : S50)]) (-1) false (n : Int) hbx.1 hbx.2)
 rw [read_written n [e3, e4] hok (by decide) hns hy n hns, if_pos rfl] at A9
 obtain ⟨k10, A10⟩ := evGet (impl_DevOk_ev s (c ++ [(⟨(n : Int), [e3, e4]⟩ : S50)]) (-1) false hbx.1 hbx.2)
 rw [okD_devM hx (by decide)] at A10
 refine walkFnDevs _ _ _ s (flushSecs s (c ++ [(⟨(n : Int), [e3, e4]⟩ : S50)]) (c ++ [(⟨(n : Int), [e3, e4]⟩ : S50)]).length) c (c ++ [(⟨(n : Int), [e3, e4]⟩ : S50)]) [] (-1) (-1) (-1) e2 e3 e4 (n : Int) false false false [e3, e4] k2 k9 k10 w hf hc0
  (by simp only [laws_big.f, decide_eq_false hbig]) A2 a2 a3 a4 rfl ?_ ?_ (fun i hi => ?_) A9 A10 (by omega) (flushSecs_length _ _ _) hn (beq_eq_false_iff_ne.mpr (by omega)) (eq_false (fun h => by rw [h] at hs; simp at hs)) (by rw [IntKind.wrap_u8]; omega) (by rw [IntKind.wrap_u8]; omega) rfl
 ·unfold impl_WriteSec.f impl_WriteSecS.f
  rw [if_pos (okDev_of hok (by decide)), writeSec_drawn n [e3, e4] hok (by decide) hns hy]
 ·unfold impl_FlushDev.f impl_FlushDevS.f
  rw [if_pos (okDev_of hx (by decide)), flushDev_drawn hx (by decide)]
 ·obtain ⟨kx, Ax⟩ := evGet (impl_ReadSec_ev s (c ++ [(⟨(n : Int), [e3, e4]⟩ : S50)]) (-1) false (i : Int) hbx.1 hbx.2)
  obtain ⟨kf, Af⟩ := evGet (impl_ReadSec_ev (flushSecs s (c ++ [(⟨(n : Int), [e3, e4]⟩ : S50)]) (c ++ [(⟨(n : Int), [e3, e4]⟩ : S50)]).length) [] (-1) false (i : Int) hbf.1 hbf.2)
  obtain ⟨kd, Ad⟩ := evGet (impl_ReadSec_ev s c (-1) false (i : Int) hbs.1 hbs.2)
  have hrf := read_flushed hx (by decide) i hi
  rw [hrf.1] at Af
  refine ⟨_, kx, kf, kd, Ax, Af, ?_, fun hne => ?_⟩
  ·unfold rdR
   rw [Int.toNat_natCast]
   exact hrf.2
  ·rw [read_written n [e3, e4] hok (by decide) hns hy i hi, if_neg (by omega)]
   exact Ad
end Go.Proofs.Ytilhcaofpfeioaa.Law

namespace Go.Proofs.Ytilhcaofpfeioaa.Op
open Go.RowKit Go.ChangeShapes Go.WideShapes Go.Proofs.YtilhcaofpfeioaaW.PrintWords
def Opens {α : Type} (P : Program) (t : TypeId) (d : Kd α) (g : α → Prop) : Prop :=
 ∀ {H : Type} {enc : TypeId × Value → H} {w : World} {base : Nat} {spare : Nat → Bool} {held : Bool} {fuel : Nat} {cs : List Value} {x : DataW H × List MemPlace},
  DataW.trod enc P w base spare held fuel t cs = some x → ∃ a, d.K w a cs ∧ g a
theorem opens_int {P : Program} {t : TypeId} {k : IntKind} (ht : P.underlying t = some (.int k)) : Opens P t (Kd.int k) (fun n => (Lit.int k n).wf = true) := by
 intro H enc w base spare held fuel cs x h
 obtain ⟨n, rfl, _, hw⟩ := DataW.trod_int ht h
 exact ⟨n, rfl, hw⟩
theorem opens_slice {α : Type} {P : Program} {t e : TypeId} {d : Kd α} {g : α → Prop} (q : Nat) (ht : P.underlying t = some (.slice e)) (hd : Opens P e d g) (hc : P.cellsOf e = d.sz) :
  Opens P t (Kd.slice q d) (fun xs => xs.length ≤ 9223372036854775807 ∧ ∀ x ∈ xs, g x) := by
 intro H enc w base spare held fuel cs x h
 rcases DataW.trod_slice ht h with ⟨rfl, _⟩ | ⟨a, len, cap, elems, rest, n, _, rfl, _, _, hl, hm, hlen, hel, _, _⟩
 ·exact ⟨[], ⟨none, 0, rfl, Nat.le_refl _, rfl, Nat.zero_le _, fun h => by cases h⟩, by simp, by simp⟩
 ·have each : ∀ i : Fin len, ∃ y : α, g y ∧ ∃ c : List Value, c.length = d.sz ∧ d.K w y c ∧ ∀ j u, c[j]? = some u → w.cell? (a.add (i.val * d.sz + j)) = some u := by
   intro i
   have h1 := hel i.val i.isLt
   rw [List.getElem?_eq_getElem (by omega), Option.bind_eq_some_iff] at h1
   obtain ⟨c, hcs, hy⟩ := h1
   obtain ⟨_, hcl, hcell⟩ := World.cells?_some hcs
   obtain ⟨y, hK, hg⟩ := hd hy
   refine ⟨y, hg, c, by rw [hcl, hc], hK, fun j u hu => ?_⟩
   have hj : j < c.length := (List.getElem?_eq_some_iff.1 hu).1
   have h2 := hcell j (by omega)
   rw [hu] at h2
   rw [← h2, hc]
   congr 1
   exact (Addr.add_add a _ _).symm
  obtain ⟨f, hf⟩ := Classical.axiomOfChoice each
  refine ⟨List.ofFn f, ⟨some a, cap, by rw [List.length_ofFn], by rw [List.length_ofFn]; exact hl, by rw [List.length_ofFn], by rw [List.length_ofFn]; unfold maxLen at hm; omega, fun _ => ⟨a, rfl, fun j p hp => ?_⟩⟩, by rw [List.length_ofFn]; unfold maxLen at hm; omega, fun x hx => ?_⟩
  ·rw [List.getElem?_ofFn] at hp
   split at hp
   ·rename_i hj
    obtain rfl := Option.some.inj hp
    obtain ⟨_, c, h1, h2, h3⟩ := hf ⟨j, hj⟩
    exact ⟨c, h1, h2, h3⟩
   ·cases hp
  ·obtain ⟨i, rfl⟩ := List.mem_ofFn.1 hx
   exact (hf i).1
/-- The fields from one offset on. -/
def OpensL {α : Type} (P : Program) (fs : List Field) (off : Nat) (d : Kd α) (g : α → Prop) : Prop :=
 ∀ {H : Type} {enc : TypeId × Value → H} {w : World} {base : Nat} {spare : Nat → Bool} {held : Bool} {fuel : Nat} {cs : List Value},
  (∀ f ∈ fs, ∃ x, DataW.trod enc P w base spare held fuel f.type ((cs.drop f.offset).take (P.cellsOf f.type)) = some x) → ∃ a, d.K w a ((cs.drop off).take d.sz) ∧ g a
end Go.Proofs.Ytilhcaofpfeioaa.Op

namespace Go.Proofs.Ytilhcaofpfeioaa.rowFnDevs
open Go.ChangeShapes Go.WideShapes Go.ChangeAt Go.RowKit
open Go.ChangeMaps (open_string shut_string)
open Go.Proofs.YtilhcaofpfeioaaW.PrintWords Go.Proofs.Ytilhcaofpfeioaa.Op Go.Proofs.Ytilhcaofpfeioaa.PFnDevs Go.Proofs.Ytilhcaofpfeioaa.Law
set_option linter.unusedVariables false
set_option linter.unusedSimpArgs false
theorem own : ownKnob Try.prog.godebug = none := by kernel_rfl
theorem laidOut : laidOutB Try.prog = true := by kernel_rfl
set_option maxRecDepth 100000 in
theorem lifted (os : Os) (started : os.Started) (H : Type) (enc : TypeId × Value → H) :
  ReturnsInHanded {} Try.checked os 9 .any (Rows.fnDevsSpec.pre6 enc Try.prog Try.f9 Rows.fnDevsRow.domain false) (Rows.fnDevsSpec.post enc Try.prog Try.f9 false true false false) := by
 refine returnsInHanded_of_change_sized (C := Try.checked) own started (by kernel_rfl) Try.func9
  (ChangeSpec.witness6 (enc := enc) (C := Try.checked) false ⟨#[], #[.slice none 0 0], []⟩ 8 (by kernel_rfl) (by kernel_rfl) (by kernel_rfl) (by kernel_rfl)) ?_
 intro W base args ds gs before hval0 hW hcnd hsz0 _
 have hval : ∀ (j : Nat) t v, Try.f9.params[j]? = some t → args[j]? = some v → Value.okWide Try.prog W .any base t v := hval0
 have hW' := hW
 obtain ⟨p, q, hA0, hV, rfl, hfz, hnd⟩ := hW
 have hA : DataW.TrodAll enc Try.prog W 0 (fun _ => true) true Try.f9.params.toList args.toList ds p := hA0
 rw [Try.params9] at hA hval
 obtain ⟨v0, vs0, d0, ds0, p0, q0, hargs, rfl, rfl, h0, r0⟩ := trodAll_cons hA
 obtain ⟨rfl, rfl, rfl⟩ := trodAll_nil r0
 obtain rfl : args = #[v0] := by cases args; simp_all
 obtain ⟨rfl, rfl⟩ := trodVars_none hV
 have k0 := h0
 have lt0 : ∀ x ∈ p0, x.block < W.heap.size := by obtain ⟨m, hm⟩ := k0; exact DataW.trod_lt m _ _ _ hm
 obtain ⟨fuel0, hf0⟩ := h0
 obtain ⟨b0, len0, cap0, rfl⟩ := okWide_slice Try.underlying37 (hval 0 37 v0 rfl rfl)
 obtain ⟨l0, ⟨A0, c0, e0, hc0, hC0⟩, g0⟩ := (opens_slice 5 Try.underlying37 (opens_int Try.underlying5) (by kernel_rfl)) hf0
 simp only [Value.cells, List.cons.injEq, Value.slice.injEq, and_true] at e0
 obtain ⟨rfl, rfl, rfl⟩ := e0
 clear hA0 hval0 hsz0
 refine (laws_FnDevs.calls _ _ _ W hC0 hc0 g0).mono fun e W' ⟨he, bel0⟩ => ?_
 have bel : Below W.heap.size W W' := by first | exact bel0 | exact bel0.below
 subst he
 exact ⟨_, rfl, _, _, _, [], _, [], hW', trodAll_mk1 (shut_bool Try.underlying4 _), (trodAll_cons_mk (Below.trod laidOut (by kernel_rfl) (lE (by kernel_rfl)) k0 bel lt0) trodAll_mk0), rfl, bel.frame _, fun h => by cases h⟩
theorem over : Rows.fnDevsRow.holds Try.pinned (OpenSpec.ofChange Rows.fnDevsSpec) :=
 OpenClaim.holds_of_wide 9 Try.f9 rfl rfl rfl rfl rfl rfl rfl ⟨rfl, rfl, rfl, rfl, rfl⟩ rfl rfl rfl rfl rfl (by kernel_rfl) Try.func9 (by kernel_rfl)
  (lE (by kernel_rfl)) (by unfold Func.isWrapper; first | (rw [if_pos (by decide +kernel)]; kernel_rfl) | (rw [if_neg (by decide +kernel)]; exact ⟨rfl, rfl⟩))
  (fun os started H enc _ => lifted os started H enc)
theorem proved : Rows.FnDevsSaid := over
#print axioms proved
end Go.Proofs.Ytilhcaofpfeioaa.rowFnDevs
namespace Go.Proofs.Ytilhcaofpfeioaa
theorem fnDevs_holds : Rows.FnDevsSaid := rowFnDevs.proved
end Go.Proofs.Ytilhcaofpfeioaa
