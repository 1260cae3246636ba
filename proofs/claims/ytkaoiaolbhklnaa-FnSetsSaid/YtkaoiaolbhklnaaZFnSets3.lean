/- The law: the functions that it reaches, each with the proof that the machine's call comes to its answer, what they answer, and the law's row; each theorem says its conditions itself. -/
import Derived.Test.YtkaoiaolbhklnaaZFnSets2
import Derived.ChangeArms
import Derived.ChangeShapes
import Derived.WideShapes
import Derived.Test.YtkaoiaolbhklnaaRows
import Derived.WalkKit
import Derived.ProofKit
import Derived.OpenShut
import Derived.ShutString
import Derived.ChangeOld
import Derived.Below
import Derived.SizedLaws
namespace Go.Proofs.Ytkaoiaolbhklnaa.Law
open Go.RowKit Go.Proofs.Ytkaoiaolbhklnaa.PFnSets Go.Proofs.Ytkaoiaolbhklnaa.Core Go.Proofs.YtkaoiaolbhklnaaW.PrintWords Go.Proofs.YtkaoiaolbhklnaaW.PrintLast Go.Proofs.YtkaoiaolbhklnaaW.PrintMore Go.Proofs.Ytkaoiaolbhklnaa.Pure
set_option linter.unusedSimpArgs false
set_option linter.unusedVariables false
def In2 (a b c d k : Nat) : Prop := In a b k ∨ In c d k
def Up (a b c k : Nat) : Prop := In a b k ∨ c ≤ k
def Ex (a x y k : Nat) : Prop := a ≤ k ∧ k ≠ x ∧ k ≠ y
def Exb (a x y t k : Nat) : Prop := Ex a x y k ∧ k < t
theorem C_F {α : Type} {d : Kd α} (hd : Kd.Heap d) {w : World} {A : Option Addr} {n : Nat} {xs : List α} (h : d.C w A n xs) : Kd.F d w (In 0 w.heap.size) A n xs := fun _ hW => Kd.Heap.C hd (fun k hk => hW k ⟨Nat.zero_le k, hk⟩ hk) h
set_option maxHeartbeats 8000000 in
set_option maxRecDepth 100000 in
theorem walkFnSetsbig (A0 : Option Addr) (c0 : Nat) (l0 : List (Int)) (a b m d : List (S27)) (w : World) (hf0 : Kd.F (Kd.int .u8) w (In 0 w.heap.size) A0 l0.length l0) (hc0 : l0.length ≤ c0) (Q1x : laws_big.f l0 = some true) :
  Calls Try.prog 11 #[.slice A0 l0.length c0] w fun e w' => e = .returned (.bool true) ∧ Below w.heap.size w w' := by
 have HF0 := aA.mk hf0
 have HC0 := aA.mk hc0
 clear hf0 hc0
 have Q1 := aA.mk Q1x
 clear Q1x
 have HB := aA.mk (Below.refl w.heap.size w)
 have HORD := aA.mk (Nat.le_refl w.heap.size)
 have HT := aA.mk (Nat.le_refl w.heap.size)
 go_enter Try.func11, Try.ntmps11
 go_wp2_with (first | ((with_reducible refine bK (f := 24) rfl ?_); refine goesL_ (some 17) rfl rfl Try.func24 (by kernel_rfl) rfl #[.slice A0 l0.length c0] rfl (by (try simp only [List.map_toArray, List.map_cons, List.map_nil]); first | done | rfl | (simp only [List.length_drop, List.length_take]; rfl)) ?_; (with_reducible refine (laws_big.calls _ _ l0 true _ ?s1 ?s2 Q1.out).mono ?_); (case s1 => exact (Kd.F_now HF0.out)); (case s2 => exact HC0.out); rintro e_ w1 ⟨rfl, hd⟩; refine ⟨_, rfl, ?_⟩; have hb := hd.below; clear hd; have n0_ := aA.mk (Kd.bA HF0.out hb); have n1_ := aA.mk (aX HB.out hb); have n2_ := aA.mk (Nat.le_trans HT.out hb.size); (try clear HF0); (try clear HB); (try clear HT); have HF0 := n0_; have HB := n1_; have HT := n2_; clear n0_ n1_ n2_; (try clear hb)))
 have hres_ := @results_tmp Try.f11 2 (by kernel_rfl)
 refine bodyPost_ret (fn := Try.f11) (P := Try.prog) (hres_ _ _ _) rfl ?_
 exact ⟨rfl, HB.out⟩
set_option maxHeartbeats 8000000 in
set_option maxRecDepth 100000 in
theorem walkFnSets (A0 : Option Addr) (c0 : Nat) (l0 : List (Int)) (a b m d : List (S27)) (k2 : Nat) (k3 : Nat) (k4 : Nat) (k5 : Nat) (w : World) (hf0 : Kd.F (Kd.int .u8) w (In 0 w.heap.size) A0 l0.length l0) (hc0 : l0.length ≤ c0) (Q1x : laws_big.f l0 = some false) (Q2x : spec_DrawMergeSets.f k2 l0 = some (a, b)) (Q3x : impl_MergeSets.f k3 a b = some m) (Q4x : impl_Drop.f k4 m = some d) (Q5x : impl_SetOk.f k5 m = some true) (HMLx : m.length ≤ 4194304) (HALx : a.length ≤ 4194304) (HDLx : d.length ≤ 4194304) (HRx : ∀ i : Nat, i < m.length → ∃ (ka kb : Nat) (p0 p1 p2 p3 p4 q0 q1 q2 q3 q4 : Int) (ba bb : Bool), impl_SetAt.f ka a (rd_T27 m (i : Int)).f0 (rd_T27 m (i : Int)).f1 = some (p0, p1, p2, p3, p4, ba) ∧ impl_SetAt.f kb b (rd_T27 m (i : Int)).f0 (rd_T27 m (i : Int)).f1 = some (q0, q1, q2, q3, q4, bb) ∧ ((bb = true ∧ q0 = (rd_T27 m (i : Int)).f0 ∧ q1 = (rd_T27 m (i : Int)).f1 ∧ q2 = (rd_T27 m (i : Int)).f2 ∧ q3 = (rd_T27 m (i : Int)).f3 ∧ q4 = (rd_T27 m (i : Int)).f4) ∨ (bb = false ∧ ba = true ∧ p0 = (rd_T27 m (i : Int)).f0 ∧ p1 = (rd_T27 m (i : Int)).f1 ∧ p2 = (rd_T27 m (i : Int)).f2 ∧ p3 = (rd_T27 m (i : Int)).f3 ∧ p4 = (rd_T27 m (i : Int)).f4)) ∧ (0 < i → impl_LessKey.f (rd_T27 m (wrap64 ((i : Int) - 1))).f0 (rd_T27 m (wrap64 ((i : Int) - 1))).f1 (rd_T27 m (wrap64 ((i : Int) - 1))).f2 (rd_T27 m (wrap64 ((i : Int) - 1))).f3 (rd_T27 m (wrap64 ((i : Int) - 1))).f4 (rd_T27 m (i : Int)).f0 (rd_T27 m (i : Int)).f1 (rd_T27 m (i : Int)).f2 (rd_T27 m (i : Int)).f3 (rd_T27 m (i : Int)).f4 = some true)) (HSx : ∀ i : Nat, i < a.length → ∃ (ka : Nat) (p0 p1 p2 p3 p4 : Int), impl_SetAt.f ka m (rd_T27 a (i : Int)).f0 (rd_T27 a (i : Int)).f1 = some (p0, p1, p2, p3, p4, true)) (HDx : ∀ i : Nat, i < d.length → (rd_T27 d (i : Int)).f2 ≠ 0) (hsum : IntKind.i64.wrap ((a.length : Int) + (b.length : Int)) = (a.length : Int) + (b.length : Int)) (hle1 : decide ((m.length : Int) ≤ (a.length : Int) + (b.length : Int)) = true) (hle2 : decide ((b.length : Int) ≤ (m.length : Int)) = true) (hle3 : decide ((d.length : Int) ≤ (m.length : Int)) = true) (hle3n : decide (d.length ≤ m.length) = true) (hle1n : decide (m.length ≤ a.length + b.length) = true) (hle2n : decide (b.length ≤ m.length) = true) (hle1p : (m.length ≤ a.length + b.length) = True) (hle2p : (b.length ≤ m.length) = True) (hle3p : (d.length ≤ m.length) = True) :
  Calls Try.prog 11 #[.slice A0 l0.length c0] w fun e w' => e = .returned (.bool true) ∧ Below w.heap.size w w' := by
 have HF0 := aA.mk hf0
 have HC0 := aA.mk hc0
 clear hf0 hc0
 have Q1 := aA.mk Q1x
 clear Q1x
 have Q2 := aA.mk Q2x
 clear Q2x
 have Q3 := aA.mk Q3x
 clear Q3x
 have Q4 := aA.mk Q4x
 clear Q4x
 have Q5 := aA.mk Q5x
 clear Q5x
 have HML := aA.mk HMLx
 clear HMLx
 have HAL := aA.mk HALx
 clear HALx
 have HDL := aA.mk HDLx
 clear HDLx
 have HR := aA.mk HRx
 clear HRx
 have HS := aA.mk HSx
 clear HSx
 have HD := aA.mk HDx
 clear HDx
 have HB := aA.mk (Below.refl w.heap.size w)
 have HORD := aA.mk (Nat.le_refl w.heap.size)
 have HT := aA.mk (Nat.le_refl w.heap.size)
 go_enter Try.func11, Try.ntmps11
 go_wp2_with (first | ((with_reducible refine bK (f := 24) rfl ?_); refine goesL_ (some 17) rfl rfl Try.func24 (by kernel_rfl) rfl #[.slice A0 l0.length c0] rfl (by (try simp only [List.map_toArray, List.map_cons, List.map_nil]); first | done | rfl | (simp only [List.length_drop, List.length_take]; rfl)) ?_; (with_reducible refine (laws_big.calls _ _ l0 false _ ?s1 ?s2 Q1.out).mono ?_); (case s1 => exact (Kd.F_now HF0.out)); (case s2 => exact HC0.out); rintro e_ w1 ⟨rfl, hd⟩; refine ⟨_, rfl, ?_⟩; have hb := hd.below; clear hd; have n0_ := aA.mk (Kd.bA HF0.out hb); have n1_ := aA.mk (aX HB.out hb); have n2_ := aA.mk (Nat.le_trans HT.out hb.size); (try clear HF0); (try clear HB); (try clear HT); have HF0 := n0_; have HB := n1_; have HT := n2_; clear n0_ n1_ n2_; (try clear hb)) | ((with_reducible refine bK (f := 54) rfl ?_); refine goesL_ (some 20) rfl rfl Try.func54 (by kernel_rfl) rfl #[.slice A0 l0.length c0] rfl (by (try simp only [List.map_toArray, List.map_cons, List.map_nil]); first | done | rfl | (simp only [List.length_drop, List.length_take]; rfl)) ?_; (with_reducible refine (spec_DrawMergeSets.calls k2 _ _ l0 a b _ ?s1 ?s2 Q2.out).mono ?_); (case s1 => exact (Kd.F_now HF0.out)); (case s2 => exact HC0.out); rintro e_ w2 ⟨v0_, v1_, rfl, ho0, ho1, hb⟩; refine ⟨_, rfl, ?_⟩; obtain ⟨lo2, hi2, el_, eh_, ol_, oh_⟩ := Mem.times HT.out hb; (try rw [← el_] at ho0); obtain ⟨A2_0, c2_0, ev_, hc0_, hf0_, hs0_⟩ := Mem.new_R ho0 eh_; subst ev_; (try rw [← el_] at ho1); obtain ⟨A2_1, c2_1, ev_, hc1_, hf1_, hs1_⟩ := Mem.new_R ho1 eh_; subst ev_; have n0_ := aA.mk (Kd.bA HF0.out hb); have n1_ := aA.mk (aX HB.out hb); have n2_ := aA.mk (hf0_); have n3_ := aA.mk (hc0_); have n4_ := aA.mk (hs0_); have n5_ := aA.mk (hf1_); have n6_ := aA.mk (hc1_); have n7_ := aA.mk (hs1_); have n8_ := aA.mk (And.intro HORD.out (And.intro ol_ oh_)); have n9_ := aA.mk (Nat.le_of_eq eh_); (try clear HF0); (try clear HB); (try clear HF2_0); (try clear HC2_0); (try clear HS2_0); (try clear HF2_1); (try clear HC2_1); (try clear HS2_1); (try clear HORD); (try clear HT); have HF0 := n0_; have HB := n1_; have HF2_0 := n2_; have HC2_0 := n3_; have HS2_0 := n4_; have HF2_1 := n5_; have HC2_1 := n6_; have HS2_1 := n7_; have HORD := n8_; have HT := n9_; clear n0_ n1_ n2_ n3_ n4_ n5_ n6_ n7_ n8_ n9_; clear ol_ oh_ el_ eh_ ho0 hf0_ hc0_ hs0_ ho1 hf1_ hc1_ hs1_; (try clear hb)) | ((with_reducible refine bK (f := 55) rfl ?_); refine goesL_ (some 25) rfl rfl Try.func55 (by kernel_rfl) rfl #[.slice A2_0 a.length c2_0, .slice A2_1 b.length c2_1] rfl (by (try simp only [List.map_toArray, List.map_cons, List.map_nil]); first | done | rfl | (simp only [List.length_drop, List.length_take]; rfl)) ?_; (with_reducible refine (impl_MergeSets.calls k3 _ _ a _ _ b m _ ?s1 ?s2 ?s3 ?s4 Q3.out).mono ?_); (case s1 => exact (Kd.F_now HF2_0.out)); (case s2 => exact HC2_0.out); (case s3 => exact (Kd.F_now HF2_1.out)); (case s4 => exact HC2_1.out); rintro e_ w3 ⟨v0_, rfl, ho0, hb⟩; refine ⟨_, rfl, ?_⟩; obtain ⟨lo3, hi3, el_, eh_, ol_, oh_⟩ := Mem.times HT.out hb; (try rw [← el_] at ho0); obtain ⟨A3_0, c3_0, ev_, hc0_, hf0_, hs0_⟩ := Mem.new_R ho0 eh_; subst ev_; have n0_ := aA.mk (Kd.bA HF0.out hb); have n1_ := aA.mk (Kd.bA HF2_0.out hb); have n2_ := aA.mk (Kd.bB HS2_0.out hb); have n3_ := aA.mk (Kd.bA HF2_1.out hb); have n4_ := aA.mk (Kd.bB HS2_1.out hb); have n5_ := aA.mk (aX HB.out hb); have n6_ := aA.mk (hf0_); have n7_ := aA.mk (hc0_); have n8_ := aA.mk (hs0_); have n9_ := aA.mk (And.intro HORD.out (And.intro ol_ oh_)); have n10_ := aA.mk (Nat.le_of_eq eh_); (try clear HF0); (try clear HF2_0); (try clear HS2_0); (try clear HF2_1); (try clear HS2_1); (try clear HB); (try clear HF3_0); (try clear HC3_0); (try clear HS3_0); (try clear HORD); (try clear HT); have HF0 := n0_; have HF2_0 := n1_; have HS2_0 := n2_; have HF2_1 := n3_; have HS2_1 := n4_; have HB := n5_; have HF3_0 := n6_; have HC3_0 := n7_; have HS3_0 := n8_; have HORD := n9_; have HT := n10_; clear n0_ n1_ n2_ n3_ n4_ n5_ n6_ n7_ n8_ n9_ n10_; clear ol_ oh_ el_ eh_ ho0 hf0_ hc0_ hs0_; (try clear hb)) | ((with_reducible refine bK (f := 49) rfl ?_); refine goesL_ (some 27) rfl rfl Try.func49 (by kernel_rfl) rfl #[.slice A3_0 m.length c3_0] rfl (by (try simp only [List.map_toArray, List.map_cons, List.map_nil]); first | done | rfl | (simp only [List.length_drop, List.length_take]; rfl)) ?_; (with_reducible refine (impl_Drop.calls k4 _ _ m d _ ?s1 ?s2 Q4.out).mono ?_); (case s1 => exact (Kd.F_now HF3_0.out)); (case s2 => exact HC3_0.out); rintro e_ w4 ⟨v0_, rfl, ho0, hb⟩; refine ⟨_, rfl, ?_⟩; obtain ⟨lo4, hi4, el_, eh_, ol_, oh_⟩ := Mem.times HT.out hb; (try rw [← el_] at ho0); obtain ⟨A4_0, c4_0, ev_, hc0_, hf0_, hs0_⟩ := Mem.new_R ho0 eh_; subst ev_; have n0_ := aA.mk (Kd.bA HF0.out hb); have n1_ := aA.mk (Kd.bA HF2_0.out hb); have n2_ := aA.mk (Kd.bB HS2_0.out hb); have n3_ := aA.mk (Kd.bA HF2_1.out hb); have n4_ := aA.mk (Kd.bB HS2_1.out hb); have n5_ := aA.mk (Kd.bA HF3_0.out hb); have n6_ := aA.mk (Kd.bB HS3_0.out hb); have n7_ := aA.mk (aX HB.out hb); have n8_ := aA.mk (hf0_); have n9_ := aA.mk (hc0_); have n10_ := aA.mk (hs0_); have n11_ := aA.mk (And.intro HORD.out (And.intro ol_ oh_)); have n12_ := aA.mk (Nat.le_of_eq eh_); (try clear HF0); (try clear HF2_0); (try clear HS2_0); (try clear HF2_1); (try clear HS2_1); (try clear HF3_0); (try clear HS3_0); (try clear HB); (try clear HF4_0); (try clear HC4_0); (try clear HS4_0); (try clear HORD); (try clear HT); have HF0 := n0_; have HF2_0 := n1_; have HS2_0 := n2_; have HF2_1 := n3_; have HS2_1 := n4_; have HF3_0 := n5_; have HS3_0 := n6_; have HB := n7_; have HF4_0 := n8_; have HC4_0 := n9_; have HS4_0 := n10_; have HORD := n11_; have HT := n12_; clear n0_ n1_ n2_ n3_ n4_ n5_ n6_ n7_ n8_ n9_ n10_ n11_ n12_; clear ol_ oh_ el_ eh_ ho0 hf0_ hc0_ hs0_; (try clear hb)))
 go_loopg [7] (m.length) (fun kq v5 w' => ∃ (i5 : Nat) (x5 : Int), v5 = .int .i64 x5 ∧ aA (x5 = (i5 : Int)) ∧ aA (i5 + kq = m.length) ∧ aA (hi4 ≤ w'.heap.size) ∧ aA (Kd.F (Kd.int .u8) w' (In 0 w.heap.size) A0 l0.length l0) ∧ aA (Kd.F k27 w' (In lo2 hi2) A2_0 a.length a) ∧ aA (Kd.R k27 27 w' lo2 (In lo2 hi2) (.slice A2_0 a.length c2_0) a) ∧ aA (Kd.F k27 w' (In lo2 hi2) A2_1 b.length b) ∧ aA (Kd.R k27 27 w' lo2 (In lo2 hi2) (.slice A2_1 b.length c2_1) b) ∧ aA (Kd.F k27 w' (In lo3 hi3) A3_0 m.length m) ∧ aA (Kd.R k27 27 w' lo3 (In lo3 hi3) (.slice A3_0 m.length c3_0) m) ∧ aA (Kd.F k27 w' (In lo4 hi4) A4_0 d.length d) ∧ aA (Kd.R k27 27 w' lo4 (In lo4 hi4) (.slice A4_0 d.length c4_0) d) ∧ aA (Below w.heap.size w w'))
 case atStart => exact ⟨0, 0, rfl, ⟨rfl⟩, ⟨Nat.zero_add _⟩, HT, HF0, HF2_0, HS2_0, HF2_1, HS2_1, HF3_0, HS3_0, HF4_0, HS4_0, HB⟩
 clear HF0 HF2_0 HS2_0 HF2_1 HS2_1 HF3_0 HS3_0 HF4_0 HS4_0 HB HT
 obtain ⟨i5, x5, rfl, HI5, HK5, HT, HF0, HF2_0, HS2_0, HF2_1, HS2_1, HF3_0, HS3_0, HF4_0, HS4_0, HB⟩ := hrel
 rcases gk with _ | k1
 rotate_left
 ·have hp_ : 0 ≤ x5 := (by have := HI5.out; omega)
  have hq_ : x5 < (m.length : Int) := (by have := HI5.out; have := HK5.out; omega)
  have hd_ : decide (x5 < (m.length : Int)) = true := decide_eq_true hq_
  obtain ⟨ka, kb, p0, p1, p2, p3, p4, q0, q1, q2, q3, q4, ba, bb, h1_, h2_, h3_, h4_⟩ := HR.out i5 (by have := HK5.out; omega)
  rw [← HI5.out] at h1_ h2_ h3_ h4_
  have RL0 := aA.mk h4_
  have RS := aA.mk h3_
  have RA := aA.mk h1_
  have RB := aA.mk h2_
  clear h1_ h2_ h3_ h4_
  try go_wp2
  obtain ⟨ad6, ee6, hx6_0, hx6_1, hx6_2, hx6_3, hx6_4⟩ := at_T27 (Kd.F_now HF3_0.out) x5 hp_ hq_
  cases ee6
  have HX6_0 := aA.mk hx6_0
  have HX6_1 := aA.mk hx6_1
  have HX6_2 := aA.mk hx6_2
  have HX6_3 := aA.mk hx6_3
  have HX6_4 := aA.mk hx6_4
  have n_ := aA.mk (Kd.F_drew HF0.out)
  clear HF0
  have HF0 := n_
  clear n_
  have n_ := aA.mk (Kd.F_drew HF2_0.out)
  clear HF2_0
  have HF2_0 := n_
  clear n_
  have n_ := aA.mk (Kd.aY HS2_0.out)
  clear HS2_0
  have HS2_0 := n_
  clear n_
  have n_ := aA.mk (Kd.F_drew HF2_1.out)
  clear HF2_1
  have HF2_1 := n_
  clear n_
  have n_ := aA.mk (Kd.aY HS2_1.out)
  clear HS2_1
  have HS2_1 := n_
  clear n_
  have n_ := aA.mk (Kd.F_drew HF3_0.out)
  clear HF3_0
  have HF3_0 := n_
  clear n_
  have n_ := aA.mk (Kd.aY HS3_0.out)
  clear HS3_0
  have HS3_0 := n_
  clear n_
  have n_ := aA.mk (Kd.F_drew HF4_0.out)
  clear HF4_0
  have HF4_0 := n_
  clear n_
  have n_ := aA.mk (Kd.aY HS4_0.out)
  clear HS4_0
  have HS4_0 := n_
  clear n_
  have n_ := aA.mk (aG HB.out)
  clear HB
  have HB := n_
  clear n_
  have n_ := aA.mk (show _ ≤ wr.drew.heap.size from HT.out)
  clear HT
  have HT := n_
  clear n_
  have n_ := aA.mk (show wr.drew.cell? (ad6.add (x5.toNat * 5)) = some (.int .i64 (rd_T27 m x5).f0) from HX6_0.out)
  clear HX6_0
  have HX6_0 := n_
  clear n_
  have n_ := aA.mk (show wr.drew.cell? ⟨(ad6.add (x5.toNat * 5)).block, (ad6.add (x5.toNat * 5)).off + 1, none⟩ = some (.int .i64 (rd_T27 m x5).f1) from HX6_1.out)
  clear HX6_1
  have HX6_1 := n_
  clear n_
  have n_ := aA.mk (show wr.drew.cell? ⟨(ad6.add (x5.toNat * 5)).block, (ad6.add (x5.toNat * 5)).off + 2, none⟩ = some (.int .i64 (rd_T27 m x5).f2) from HX6_2.out)
  clear HX6_2
  have HX6_2 := n_
  clear n_
  have n_ := aA.mk (show wr.drew.cell? ⟨(ad6.add (x5.toNat * 5)).block, (ad6.add (x5.toNat * 5)).off + 3, none⟩ = some (.int .i64 (rd_T27 m x5).f3) from HX6_3.out)
  clear HX6_3
  have HX6_3 := n_
  clear n_
  have n_ := aA.mk (show wr.drew.cell? ⟨(ad6.add (x5.toNat * 5)).block, (ad6.add (x5.toNat * 5)).off + 4, none⟩ = some (.int .i64 (rd_T27 m x5).f4) from HX6_4.out)
  clear HX6_4
  have HX6_4 := n_
  clear n_
  refine start_ (n := 18) (S := fun w' => w'.cell? (ad6.add (x5.toNat * 5)) = some (.int .i64 (rd_T27 m x5).f0) ∧ w'.cell? ⟨(ad6.add (x5.toNat * 5)).block, (ad6.add (x5.toNat * 5)).off + 1, none⟩ = some (.int .i64 (rd_T27 m x5).f1) ∧ w'.cell? ⟨(ad6.add (x5.toNat * 5)).block, (ad6.add (x5.toNat * 5)).off + 2, none⟩ = some (.int .i64 (rd_T27 m x5).f2) ∧ w'.cell? ⟨(ad6.add (x5.toNat * 5)).block, (ad6.add (x5.toNat * 5)).off + 3, none⟩ = some (.int .i64 (rd_T27 m x5).f3) ∧ w'.cell? ⟨(ad6.add (x5.toNat * 5)).block, (ad6.add (x5.toNat * 5)).off + 4, none⟩ = some (.int .i64 (rd_T27 m x5).f4)) (ds := [16]) #[false, false, false, false, false, false, false, false, false, false, false, false, false, false, false, false, false, false] (by kernel_rfl) rfl rfl ⟨HX6_0.out, HX6_1.out, HX6_2.out, HX6_3.out, HX6_4.out⟩ (fun hHeld => ?_)
  generalize wr.drew = w7 at HF0 HF2_0 HS2_0 HF2_1 HS2_1 HF3_0 HS3_0 HF4_0 HS4_0 HB HT HX6_0 HX6_1 HX6_2 HX6_3 HX6_4 hHeld ⊢
  refine aU (i := 0) (N := some 35) (v := ?_) (a' := ?_) #[true, false, false, false, false, false, false, false, false, false, false, false, false, false, false, false, false, false] rfl rfl (by kernel_rfl) (fun _ _ _ h => h) (Or.inl ⟨by rfl, ?_⟩) ?_ ?_
  rotate_left
  ·intro w'
   go_simp
   with_reducible rfl
  rotate_left
  ·simp only [Act.put, lA, lB, lC, aQ, aT]
   rfl
  refine aU (i := 1) (N := some 36) (v := ?_) (a' := ?_) #[true, true, false, false, false, false, false, false, false, false, false, false, false, false, false, false, false, false] rfl rfl (by kernel_rfl) (fun _ _ _ h => h) (Or.inl ⟨by rfl, ?_⟩) ?_ ?_
  rotate_left
  ·intro w'
   go_simp
   with_reducible rfl
  rotate_left
  ·simp only [Act.put, lA, lB, lC, aQ, aT]
   rfl
  refine aU (i := 2) (N := some 37) (v := ?_) (a' := ?_) #[true, true, true, false, false, false, false, false, false, false, false, false, false, false, false, false, false, false] rfl rfl (by kernel_rfl) (fun _ _ _ h => h) (Or.inl ⟨by rfl, ?_⟩) ?_ ?_
  rotate_left
  ·intro w'
   go_simp
   with_reducible rfl
  rotate_left
  ·simp only [Act.put, lA, lB, lC, aQ, aT]
   rfl
  refine aU (i := 3) (N := some 38) (v := ?_) (a' := ?_) #[true, true, true, true, false, false, false, false, false, false, false, false, false, false, false, false, false, false] rfl rfl (by kernel_rfl) (fun _ _ _ h => h) (Or.inl ⟨by rfl, ?_⟩) ?_ ?_
  rotate_left
  ·intro w'
   go_simp
   with_reducible rfl
  rotate_left
  ·simp only [Act.put, lA, lB, lC, aQ, aT]
   rfl
  refine aU (i := 4) (N := some 39) (v := ?_) (a' := ?_) #[true, true, true, true, true, false, false, false, false, false, false, false, false, false, false, false, false, false] rfl rfl (by kernel_rfl) (fun _ _ _ h => h) (Or.inl ⟨by rfl, ?_⟩) ?_ ?_
  rotate_left
  ·intro w'
   go_simp
   with_reducible rfl
  rotate_left
  ·simp only [Act.put, lA, lB, lC, aQ, aT]
   rfl
  refine take_ (i := 5) (N := some 40) (v := ?_) (a' := ?_) #[true, true, true, true, true, true, false, false, false, false, false, false, false, false, false, false, false, false] rfl rfl (by kernel_rfl) (fun _ _ _ h => h) (Or.inl ⟨by rfl, ?_⟩) hHeld ?_ ?_
  rotate_left
  ·rintro w' ⟨s0, s1, s2, s3, s4⟩
   go_simp
   with_reducible rfl
  rotate_left
  ·simp only [Act.put, lA, lB, lC, aQ, aT]
   rfl
  refine aU (i := 6) (N := some 41) (v := ?_) (a' := ?_) #[true, true, true, true, true, true, true, false, false, false, false, false, false, false, false, false, false, false] rfl rfl (by kernel_rfl) (fun _ _ _ h => h) (Or.inl ⟨by rfl, ?_⟩) ?_ ?_
  rotate_left
  ·intro w'
   go_simp
   with_reducible rfl
  rotate_left
  ·simp only [Act.put, lA, lB, lC, aQ, aT]
   rfl
  refine aU (i := 7) (N := some 42) (v := ?_) (a' := ?_) #[true, true, true, true, true, true, true, true, false, false, false, false, false, false, false, false, false, false] rfl rfl (by kernel_rfl) (fun _ _ _ h => h) (Or.inl ⟨by rfl, ?_⟩) ?_ ?_
  rotate_left
  ·intro w'
   go_simp
   with_reducible rfl
  rotate_left
  ·simp only [Act.put, lA, lB, lC, aQ, aT]
   rfl
  refine aU (i := 8) (N := some 43) (v := ?_) (a' := ?_) #[true, true, true, true, true, true, true, true, true, false, false, false, false, false, false, false, false, false] rfl rfl (by kernel_rfl) (fun _ _ _ h => h) (Or.inl ⟨by rfl, ?_⟩) ?_ ?_
  rotate_left
  ·intro w'
   go_simp
   with_reducible rfl
  rotate_left
  ·simp only [Act.put, lA, lB, lC, aQ, aT]
   rfl
  refine aU (i := 9) (N := some 44) (v := ?_) (a' := ?_) #[true, true, true, true, true, true, true, true, true, true, false, false, false, false, false, false, false, false] rfl rfl (by kernel_rfl) (fun _ _ _ h => h) (Or.inl ⟨by rfl, ?_⟩) ?_ ?_
  rotate_left
  ·intro w'
   go_simp
   with_reducible rfl
  rotate_left
  ·simp only [Act.put, lA, lB, lC, aQ, aT]
   rfl
  refine take_ (i := 10) (N := some 45) (v := ?_) (a' := ?_) #[true, true, true, true, true, true, true, true, true, true, true, false, false, false, false, false, false, false] rfl rfl (by kernel_rfl) (fun _ _ _ h => h) (Or.inl ⟨by rfl, ?_⟩) hHeld ?_ ?_
  rotate_left
  ·rintro w' ⟨s0, s1, s2, s3, s4⟩
   go_simp
   with_reducible rfl
  rotate_left
  ·simp only [Act.put, lA, lB, lC, aQ, aT]
   rfl
  refine join_ (σ := Nat) 2 #[true, true, true, true, true, true, true, true, true, true, true, true, true, true, true, true, false, false] (fun s_ => [(46, .tuple #[.agg #[.int .i64 p0, .int .i64 p1, .int .i64 p2, .int .i64 p3, .int .i64 p4], .bool ba]), (34, .tuple #[.agg #[.int .i64 p0, .int .i64 p1, .int .i64 p2, .int .i64 p3, .int .i64 p4], .bool ba]), (47, .agg #[.int .i64 p0, .int .i64 p1, .int .i64 p2, .int .i64 p3, .int .i64 p4]), (48, .bool ba), (8, .pointer (some ⟨s_, 0, none⟩))]) (fun s_ w' => (w'.cell? (ad6.add (x5.toNat * 5)) = some (.int .i64 (rd_T27 m x5).f0) ∧ w'.cell? ⟨(ad6.add (x5.toNat * 5)).block, (ad6.add (x5.toNat * 5)).off + 1, none⟩ = some (.int .i64 (rd_T27 m x5).f1) ∧ w'.cell? ⟨(ad6.add (x5.toNat * 5)).block, (ad6.add (x5.toNat * 5)).off + 2, none⟩ = some (.int .i64 (rd_T27 m x5).f2) ∧ w'.cell? ⟨(ad6.add (x5.toNat * 5)).block, (ad6.add (x5.toNat * 5)).off + 3, none⟩ = some (.int .i64 (rd_T27 m x5).f3) ∧ w'.cell? ⟨(ad6.add (x5.toNat * 5)).block, (ad6.add (x5.toNat * 5)).off + 4, none⟩ = some (.int .i64 (rd_T27 m x5).f4)) ∧ aA (Kd.F (Kd.int .u8) w' (In 0 w.heap.size) A0 l0.length l0) ∧ aA (Kd.F k27 w' (In lo2 hi2) A2_0 a.length a) ∧ aA (Kd.R k27 27 w' lo2 (In lo2 hi2) (.slice A2_0 a.length c2_0) a) ∧ aA (Kd.F k27 w' (In lo2 hi2) A2_1 b.length b) ∧ aA (Kd.R k27 27 w' lo2 (In lo2 hi2) (.slice A2_1 b.length c2_1) b) ∧ aA (Kd.F k27 w' (In lo3 hi3) (some ad6) m.length m) ∧ aA (Kd.R k27 27 w' lo3 (In lo3 hi3) (.slice (some ad6) m.length c3_0) m) ∧ aA (Kd.F k27 w' (In lo4 hi4) A4_0 d.length d) ∧ aA (Kd.R k27 27 w' lo4 (In lo4 hi4) (.slice A4_0 d.length c4_0) d) ∧ aA (w'.cell? (ad6.add (x5.toNat * 5)) = some (.int .i64 (rd_T27 m x5).f0)) ∧ aA (w'.cell? ⟨(ad6.add (x5.toNat * 5)).block, (ad6.add (x5.toNat * 5)).off + 1, none⟩ = some (.int .i64 (rd_T27 m x5).f1)) ∧ aA (w'.cell? ⟨(ad6.add (x5.toNat * 5)).block, (ad6.add (x5.toNat * 5)).off + 2, none⟩ = some (.int .i64 (rd_T27 m x5).f2)) ∧ aA (w'.cell? ⟨(ad6.add (x5.toNat * 5)).block, (ad6.add (x5.toNat * 5)).off + 3, none⟩ = some (.int .i64 (rd_T27 m x5).f3)) ∧ aA (w'.cell? ⟨(ad6.add (x5.toNat * 5)).block, (ad6.add (x5.toNat * 5)).off + 4, none⟩ = some (.int .i64 (rd_T27 m x5).f4)) ∧ aA (Below w.heap.size w w') ∧ aA (w'.heap[s_]? = some (.cells #[.int .i64 0, .int .i64 0, .int .i64 0, .int .i64 0, .int .i64 0] 27 (0, 0))) ∧ aA (hi4 ≤ s_ ∧ s_ + 1 ≤ w'.heap.size)) ?_ ?_
  rotate_left
  ·intro hCont
   refine two_ (i := 11) (j := 15) (Ni := some 46) (Nj := some 8) #[true, true, true, true, true, true, true, true, true, true, true, true, false, false, false, false, false, false] #[true, true, true, true, true, true, true, true, true, true, true, false, false, false, false, true, false, false] rfl rfl rfl rfl (by kernel_rfl) (by decide) (by decide) (fun K hK => ?_) (fun K hK => ?_)
   ·skip
    refine goes_ Try.func44 (by kernel_rfl) rfl #[.slice A2_0 a.length c2_0, .int .i64 ((rd_T27 m x5).f0), .int .i64 ((rd_T27 m x5).f1)] (by rfl) rfl rfl (by (try simp only [List.map_toArray, List.map_cons, List.map_nil]); first | done | rfl | (simp only [List.length_drop, List.length_take]; rfl)) ?_
    (with_reducible refine (impl_SetAt.calls ka _ _ a ((rd_T27 m x5).f0) ((rd_T27 m x5).f1) p0 p1 p2 p3 p4 ba _ ?s1 ?s2 RA.out).mono ?_)
    (case s1 => exact (Kd.F_now HF2_0.out))
    (case s2 => exact HC2_0.out)
    rintro e_ w8 ⟨rfl, hb⟩
    refine ⟨_, rfl, ?_⟩
    have n0_ := aA.mk (Kd.bA HF0.out hb)
    have n1_ := aA.mk (Kd.bA HF2_0.out hb)
    have n2_ := aA.mk (Kd.bB HS2_0.out hb)
    have n3_ := aA.mk (Kd.bA HF2_1.out hb)
    have n4_ := aA.mk (Kd.bB HS2_1.out hb)
    have n5_ := aA.mk (Kd.bA HF3_0.out hb)
    have n6_ := aA.mk (Kd.bB HS3_0.out hb)
    have n7_ := aA.mk (Kd.bA HF4_0.out hb)
    have n8_ := aA.mk (Kd.bB HS4_0.out hb)
    have n9_ := aA.mk (aV hb HX6_0.out)
    have n10_ := aA.mk (aV hb HX6_1.out)
    have n11_ := aA.mk (aV hb HX6_2.out)
    have n12_ := aA.mk (aV hb HX6_3.out)
    have n13_ := aA.mk (aV hb HX6_4.out)
    have n14_ := aA.mk (aX HB.out hb)
    have n15_ := aA.mk (Nat.le_trans HT.out hb.size)
    (try clear HF0)
    (try clear HF2_0)
    (try clear HS2_0)
    (try clear HF2_1)
    (try clear HS2_1)
    (try clear HF3_0)
    (try clear HS3_0)
    (try clear HF4_0)
    (try clear HS4_0)
    (try clear HX6_0)
    (try clear HX6_1)
    (try clear HX6_2)
    (try clear HX6_3)
    (try clear HX6_4)
    (try clear HB)
    (try clear HT)
    have HF0 := n0_
    have HF2_0 := n1_
    have HS2_0 := n2_
    have HF2_1 := n3_
    have HS2_1 := n4_
    have HF3_0 := n5_
    have HS3_0 := n6_
    have HF4_0 := n7_
    have HS4_0 := n8_
    have HX6_0 := n9_
    have HX6_1 := n10_
    have HX6_2 := n11_
    have HX6_3 := n12_
    have HX6_4 := n13_
    have HB := n14_
    have HT := n15_
    clear n0_ n1_ n2_ n3_ n4_ n5_ n6_ n7_ n8_ n9_ n10_ n11_ n12_ n13_ n14_ n15_
    (try clear hb)
    refine hK.out _ _ ⟨HX6_0.out, HX6_1.out, HX6_2.out, HX6_3.out, HX6_4.out⟩ (fun hHeld => ?_)
    clear hK K
    refine norm_ (a' := ?_) ?_ ?_
    rotate_left
    ·show Act.put _ (some 46) _ = _
     simp only [Act.put, lA, lB, lC, aQ, aT]
     rfl
    refine aU (i := 12) (N := some 34) (v := ?_) (a' := ?_) #[true, true, true, true, true, true, true, true, true, true, true, true, true, false, false, false, false, false] rfl rfl (by kernel_rfl) (fun _ _ _ h => h) (Or.inl ⟨by rfl, ?_⟩) ?_ ?_
    rotate_left
    ·intro w'
     go_simp
     with_reducible rfl
    rotate_left
    ·simp only [Act.put, lA, lB, lC, aQ, aT]
     rfl
    refine aU (i := 13) (N := some 47) (v := ?_) (a' := ?_) #[true, true, true, true, true, true, true, true, true, true, true, true, true, true, false, false, false, false] rfl rfl (by kernel_rfl) (fun _ _ _ h => h) (Or.inl ⟨by rfl, ?_⟩) ?_ ?_
    rotate_left
    ·intro w'
     go_simp
     with_reducible rfl
    rotate_left
    ·simp only [Act.put, lA, lB, lC, aQ, aT]
     rfl
    refine aU (i := 14) (N := some 48) (v := ?_) (a' := ?_) #[true, true, true, true, true, true, true, true, true, true, true, true, true, true, true, false, false, false] rfl rfl (by kernel_rfl) (fun _ _ _ h => h) (Or.inl ⟨by rfl, ?_⟩) ?_ ?_
    rotate_left
    ·intro w'
     go_simp
     with_reducible rfl
    rotate_left
    ·simp only [Act.put, lA, lB, lC, aQ, aT]
     rfl
    refine one_ (i := 15) (N := some 8) #[true, true, true, true, true, true, true, true, true, true, true, true, true, true, true, true, false, false] rfl rfl (by kernel_rfl) (by decide) (fun K hK => ?_)
    refine box_step ?hg (N := 8) ?hd (cs := #[.int .i64 0, .int .i64 0, .int .i64 0, .int .i64 0, .int .i64 0]) (t := 27) ?hr ?_
    (case hd => rfl)
    (case hg => rfl)
    (case hr => first | (go_simp; done) | (go_simp; rfl))
    intro gb9 hg_ w9 hbox hb
    have hge_ : hi4 ≤ gb9 := (by rw [hg_]; exact HT.out)
    have hlt_ : gb9 + 1 ≤ w9.heap.size := blk_lt hbox
    have n0_ := aA.mk (Kd.bA HF0.out hb)
    have n1_ := aA.mk (Kd.bA HF2_0.out hb)
    have n2_ := aA.mk (Kd.bB HS2_0.out hb)
    have n3_ := aA.mk (Kd.bA HF2_1.out hb)
    have n4_ := aA.mk (Kd.bB HS2_1.out hb)
    have n5_ := aA.mk (Kd.bA HF3_0.out hb)
    have n6_ := aA.mk (Kd.bB HS3_0.out hb)
    have n7_ := aA.mk (Kd.bA HF4_0.out hb)
    have n8_ := aA.mk (Kd.bB HS4_0.out hb)
    have n9_ := aA.mk (aV hb HX6_0.out)
    have n10_ := aA.mk (aV hb HX6_1.out)
    have n11_ := aA.mk (aV hb HX6_2.out)
    have n12_ := aA.mk (aV hb HX6_3.out)
    have n13_ := aA.mk (aV hb HX6_4.out)
    have n14_ := aA.mk (aX HB.out hb)
    have n15_ := aA.mk (hbox)
    have n16_ := aA.mk (And.intro HORD.out (And.intro hge_ (Nat.le_succ gb9)))
    have n17_ := aA.mk (hlt_)
    (try clear HF0)
    (try clear HF2_0)
    (try clear HS2_0)
    (try clear HF2_1)
    (try clear HS2_1)
    (try clear HF3_0)
    (try clear HS3_0)
    (try clear HF4_0)
    (try clear HS4_0)
    (try clear HX6_0)
    (try clear HX6_1)
    (try clear HX6_2)
    (try clear HX6_3)
    (try clear HX6_4)
    (try clear HB)
    (try clear BK9)
    (try clear HORD)
    (try clear HT)
    have HF0 := n0_
    have HF2_0 := n1_
    have HS2_0 := n2_
    have HF2_1 := n3_
    have HS2_1 := n4_
    have HF3_0 := n5_
    have HS3_0 := n6_
    have HF4_0 := n7_
    have HS4_0 := n8_
    have HX6_0 := n9_
    have HX6_1 := n10_
    have HX6_2 := n11_
    have HX6_3 := n12_
    have HX6_4 := n13_
    have HB := n14_
    have BK9 := n15_
    have HORD := n16_
    have HT := n17_
    clear n0_ n1_ n2_ n3_ n4_ n5_ n6_ n7_ n8_ n9_ n10_ n11_ n12_ n13_ n14_ n15_ n16_ n17_
    clear hb hbox hg_ hge_ hlt_
    refine hK.out _ _ ⟨HX6_0.out, HX6_1.out, HX6_2.out, HX6_3.out, HX6_4.out⟩ (fun hHeld => ?_)
    clear hK K
    refine norm_ (a' := ?_) ?_ ?_
    rotate_left
    ·show Act.put _ (some 8) _ = _
     simp only [Act.put, lA, lB, lC, aQ, aT]
     rfl
    exact norm_ (by simp only [putAll, Act.put, lA, lB, lC]) (hCont gb9 _ ⟨hHeld, HF0, HF2_0, HS2_0, HF2_1, HS2_1, HF3_0, HS3_0, HF4_0, HS4_0, HX6_0, HX6_1, HX6_2, HX6_3, HX6_4, HB, BK9, ⟨by have o_ := HORD.out; have t_ := HT.out; (try simp only []); omega⟩⟩)
   ·skip
    refine box_step ?hg (N := 8) ?hd (cs := #[.int .i64 0, .int .i64 0, .int .i64 0, .int .i64 0, .int .i64 0]) (t := 27) ?hr ?_
    (case hd => rfl)
    (case hg => rfl)
    (case hr => first | (go_simp; done) | (go_simp; rfl))
    intro gb10 hg_ w10 hbox hb
    have hge_ : hi4 ≤ gb10 := (by rw [hg_]; exact HT.out)
    have hlt_ : gb10 + 1 ≤ w10.heap.size := blk_lt hbox
    have n0_ := aA.mk (Kd.bA HF0.out hb)
    have n1_ := aA.mk (Kd.bA HF2_0.out hb)
    have n2_ := aA.mk (Kd.bB HS2_0.out hb)
    have n3_ := aA.mk (Kd.bA HF2_1.out hb)
    have n4_ := aA.mk (Kd.bB HS2_1.out hb)
    have n5_ := aA.mk (Kd.bA HF3_0.out hb)
    have n6_ := aA.mk (Kd.bB HS3_0.out hb)
    have n7_ := aA.mk (Kd.bA HF4_0.out hb)
    have n8_ := aA.mk (Kd.bB HS4_0.out hb)
    have n9_ := aA.mk (aV hb HX6_0.out)
    have n10_ := aA.mk (aV hb HX6_1.out)
    have n11_ := aA.mk (aV hb HX6_2.out)
    have n12_ := aA.mk (aV hb HX6_3.out)
    have n13_ := aA.mk (aV hb HX6_4.out)
    have n14_ := aA.mk (aX HB.out hb)
    have n15_ := aA.mk (hbox)
    have n16_ := aA.mk (And.intro HORD.out (And.intro hge_ (Nat.le_succ gb10)))
    have n17_ := aA.mk (hlt_)
    (try clear HF0)
    (try clear HF2_0)
    (try clear HS2_0)
    (try clear HF2_1)
    (try clear HS2_1)
    (try clear HF3_0)
    (try clear HS3_0)
    (try clear HF4_0)
    (try clear HS4_0)
    (try clear HX6_0)
    (try clear HX6_1)
    (try clear HX6_2)
    (try clear HX6_3)
    (try clear HX6_4)
    (try clear HB)
    (try clear BK10)
    (try clear HORD)
    (try clear HT)
    have HF0 := n0_
    have HF2_0 := n1_
    have HS2_0 := n2_
    have HF2_1 := n3_
    have HS2_1 := n4_
    have HF3_0 := n5_
    have HS3_0 := n6_
    have HF4_0 := n7_
    have HS4_0 := n8_
    have HX6_0 := n9_
    have HX6_1 := n10_
    have HX6_2 := n11_
    have HX6_3 := n12_
    have HX6_4 := n13_
    have HB := n14_
    have BK10 := n15_
    have HORD := n16_
    have HT := n17_
    clear n0_ n1_ n2_ n3_ n4_ n5_ n6_ n7_ n8_ n9_ n10_ n11_ n12_ n13_ n14_ n15_ n16_ n17_
    clear hb hbox hg_ hge_ hlt_
    refine hK.out _ _ ⟨HX6_0.out, HX6_1.out, HX6_2.out, HX6_3.out, HX6_4.out⟩ (fun hHeld => ?_)
    clear hK K
    refine norm_ (a' := ?_) ?_ ?_
    rotate_left
    ·show Act.put _ (some 8) _ = _
     simp only [Act.put, lA, lB, lC, aQ, aT]
     rfl
    refine one_ (i := 11) (N := some 46) #[true, true, true, true, true, true, true, true, true, true, true, true, false, false, false, true, false, false] rfl rfl (by kernel_rfl) (by decide) (fun K hK => ?_)
    refine goes_ Try.func44 (by kernel_rfl) rfl #[.slice A2_0 a.length c2_0, .int .i64 ((rd_T27 m x5).f0), .int .i64 ((rd_T27 m x5).f1)] (by rfl) rfl rfl (by (try simp only [List.map_toArray, List.map_cons, List.map_nil]); first | done | rfl | (simp only [List.length_drop, List.length_take]; rfl)) ?_
    (with_reducible refine (impl_SetAt.calls ka _ _ a ((rd_T27 m x5).f0) ((rd_T27 m x5).f1) p0 p1 p2 p3 p4 ba _ ?s1 ?s2 RA.out).mono ?_)
    (case s1 => exact (Kd.F_now HF2_0.out))
    (case s2 => exact HC2_0.out)
    rintro e_ w11 ⟨rfl, hb⟩
    refine ⟨_, rfl, ?_⟩
    have n0_ := aA.mk (Kd.bA HF0.out hb)
    have n1_ := aA.mk (Kd.bA HF2_0.out hb)
    have n2_ := aA.mk (Kd.bB HS2_0.out hb)
    have n3_ := aA.mk (Kd.bA HF2_1.out hb)
    have n4_ := aA.mk (Kd.bB HS2_1.out hb)
    have n5_ := aA.mk (Kd.bA HF3_0.out hb)
    have n6_ := aA.mk (Kd.bB HS3_0.out hb)
    have n7_ := aA.mk (Kd.bA HF4_0.out hb)
    have n8_ := aA.mk (Kd.bB HS4_0.out hb)
    have n9_ := aA.mk (aV hb HX6_0.out)
    have n10_ := aA.mk (aV hb HX6_1.out)
    have n11_ := aA.mk (aV hb HX6_2.out)
    have n12_ := aA.mk (aV hb HX6_3.out)
    have n13_ := aA.mk (aV hb HX6_4.out)
    have n14_ := aA.mk (bE BK10.out hb)
    have n15_ := aA.mk (aX HB.out hb)
    have n16_ := aA.mk (Nat.le_trans HT.out hb.size)
    (try clear HF0)
    (try clear HF2_0)
    (try clear HS2_0)
    (try clear HF2_1)
    (try clear HS2_1)
    (try clear HF3_0)
    (try clear HS3_0)
    (try clear HF4_0)
    (try clear HS4_0)
    (try clear HX6_0)
    (try clear HX6_1)
    (try clear HX6_2)
    (try clear HX6_3)
    (try clear HX6_4)
    (try clear BK10)
    (try clear HB)
    (try clear HT)
    have HF0 := n0_
    have HF2_0 := n1_
    have HS2_0 := n2_
    have HF2_1 := n3_
    have HS2_1 := n4_
    have HF3_0 := n5_
    have HS3_0 := n6_
    have HF4_0 := n7_
    have HS4_0 := n8_
    have HX6_0 := n9_
    have HX6_1 := n10_
    have HX6_2 := n11_
    have HX6_3 := n12_
    have HX6_4 := n13_
    have BK10 := n14_
    have HB := n15_
    have HT := n16_
    clear n0_ n1_ n2_ n3_ n4_ n5_ n6_ n7_ n8_ n9_ n10_ n11_ n12_ n13_ n14_ n15_ n16_
    (try clear hb)
    refine hK.out _ _ ⟨HX6_0.out, HX6_1.out, HX6_2.out, HX6_3.out, HX6_4.out⟩ (fun hHeld => ?_)
    clear hK K
    refine norm_ (a' := ?_) ?_ ?_
    rotate_left
    ·show Act.put _ (some 46) _ = _
     simp only [Act.put, lA, lB, lC, aQ, aT]
     rfl
    refine aU (i := 12) (N := some 34) (v := ?_) (a' := ?_) #[true, true, true, true, true, true, true, true, true, true, true, true, true, false, false, true, false, false] rfl rfl (by kernel_rfl) (fun _ _ _ h => h) (Or.inl ⟨by rfl, ?_⟩) ?_ ?_
    rotate_left
    ·intro w'
     go_simp
     with_reducible rfl
    rotate_left
    ·simp only [Act.put, lA, lB, lC, aQ, aT]
     rfl
    refine aU (i := 13) (N := some 47) (v := ?_) (a' := ?_) #[true, true, true, true, true, true, true, true, true, true, true, true, true, true, false, true, false, false] rfl rfl (by kernel_rfl) (fun _ _ _ h => h) (Or.inl ⟨by rfl, ?_⟩) ?_ ?_
    rotate_left
    ·intro w'
     go_simp
     with_reducible rfl
    rotate_left
    ·simp only [Act.put, lA, lB, lC, aQ, aT]
     rfl
    refine aU (i := 14) (N := some 48) (v := ?_) (a' := ?_) #[true, true, true, true, true, true, true, true, true, true, true, true, true, true, true, true, false, false] rfl rfl (by kernel_rfl) (fun _ _ _ h => h) (Or.inl ⟨by rfl, ?_⟩) ?_ ?_
    rotate_left
    ·intro w'
     go_simp
     with_reducible rfl
    rotate_left
    ·simp only [Act.put, lA, lB, lC, aQ, aT]
     rfl
    exact norm_ (by simp only [putAll, Act.put, lA, lB, lC]) (hCont gb10 _ ⟨hHeld, HF0, HF2_0, HS2_0, HF2_1, HS2_1, HF3_0, HS3_0, HF4_0, HS4_0, HX6_0, HX6_1, HX6_2, HX6_3, HX6_4, HB, BK10, ⟨by have o_ := HORD.out; have t_ := HT.out; (try simp only []); omega⟩⟩)
  clear HF0 HF2_0 HS2_0 HF2_1 HS2_1 HF3_0 HS3_0 HF4_0 HS4_0 HX6_0 HX6_1 HX6_2 HX6_3 HX6_4 HB HT hHeld
  rintro gb12 w12 ⟨hHeld, HF0, HF2_0, HS2_0, HF2_1, HS2_1, HF3_0, HS3_0, HF4_0, HS4_0, HX6_0, HX6_1, HX6_2, HX6_3, HX6_4, HB, BK12, HO_⟩
  obtain ⟨tp12, et_⟩ : ∃ n_, n_ = w12.heap.size := ⟨_, rfl⟩
  have n0_ := aA.mk (show _ ∧ (hi4 ≤ gb12 ∧ gb12 + 1 ≤ tp12) from And.intro HORD.out (by rw [et_]; exact HO_.out))
  clear HORD HO_
  have HORD := n0_
  clear n0_
  have HT := aA.mk (Nat.le_of_eq et_)
  clear et_
  refine norm_ (a' := ?_) ?_ ?_
  rotate_left
  ·simp only [putAll, Act.put, lA, lB, lC]
   rfl
  refine last_ (i := 16) (N := none) #[true, true, true, true, true, true, true, true, true, true, true, true, true, true, true, true, true, false] rfl rfl (by kernel_rfl) (by decide) (fun K hK => ?_)
  have hzgb12_0_13 : w12.cell? ⟨gb12, 0, none⟩ = some (.int .i64 0) := (aC BK12.out 0).trans rfl
  have hygb12_0_13 := aD BK12.out 0
  have hzgb12_1_13 : w12.cell? ⟨gb12, 1, none⟩ = some (.int .i64 0) := (aC BK12.out 1).trans rfl
  have hygb12_1_13 := aD BK12.out 1
  have hzgb12_2_13 : w12.cell? ⟨gb12, 2, none⟩ = some (.int .i64 0) := (aC BK12.out 2).trans rfl
  have hygb12_2_13 := aD BK12.out 2
  have hzgb12_3_13 : w12.cell? ⟨gb12, 3, none⟩ = some (.int .i64 0) := (aC BK12.out 3).trans rfl
  have hygb12_3_13 := aD BK12.out 3
  have hzgb12_4_13 : w12.cell? ⟨gb12, 4, none⟩ = some (.int .i64 0) := (aC BK12.out 4).trans rfl
  have hygb12_4_13 := aD BK12.out 4
  have hge_ : w.heap.size ≤ gb12 := (by have o_ := HORD.out; omega)
  refine skip_ (w1 := ?_) (by rfl) rfl ?_ ?_
  rotate_left
  ·go_simp
   rfl
  refine hK.out _ _ ?_
  clear hK K
  obtain ⟨w13, hw_⟩ : ∃ z_, z_ = (((((w12.setCell ⟨gb12, 0, none⟩ (.int .i64 p0)).setCell ⟨gb12, 1, none⟩ (.int .i64 p1)).setCell ⟨gb12, 2, none⟩ (.int .i64 p2)).setCell ⟨gb12, 3, none⟩ (.int .i64 p3)).setCell ⟨gb12, 4, none⟩ (.int .i64 p4)) := ⟨_, rfl⟩
  (try rw [← hw_])
  have hkp : Kept w12 w13 (fun k_ => k_ = gb12) := (by rw [hw_]; exact Kept.setCell (Kept.setCell (Kept.setCell (Kept.setCell (Kept.setCell (Kept.refl w12 (fun k_ => k_ = gb12)) (.inl rfl) (.int .i64 p0)) (.inl rfl) (.int .i64 p1)) (.inl rfl) (.int .i64 p2)) (.inl rfl) (.int .i64 p3)) (.inl rfl) (.int .i64 p4))
  have hbn_ : Below w.heap.size w w13 := (by rw [hw_]; exact aN (aN (aN (aN (aN (HB.out) hge_) hge_) hge_) hge_) hge_)
  have hbk_ : w13.heap[gb12]? = some (.cells #[.int .i64 p0, .int .i64 p1, .int .i64 p2, .int .i64 p3, .int .i64 p4] 27 (0, 0)) := (by rw [hw_]; exact aZ (cs := #[.int .i64 p0, .int .i64 p1, .int .i64 p2, .int .i64 p3, .int .i64 0]) (cs' := #[.int .i64 p0, .int .i64 p1, .int .i64 p2, .int .i64 p3, .int .i64 p4]) (aZ (cs := #[.int .i64 p0, .int .i64 p1, .int .i64 p2, .int .i64 0, .int .i64 0]) (cs' := #[.int .i64 p0, .int .i64 p1, .int .i64 p2, .int .i64 p3, .int .i64 0]) (aZ (cs := #[.int .i64 p0, .int .i64 p1, .int .i64 0, .int .i64 0, .int .i64 0]) (cs' := #[.int .i64 p0, .int .i64 p1, .int .i64 p2, .int .i64 0, .int .i64 0]) (aZ (cs := #[.int .i64 p0, .int .i64 0, .int .i64 0, .int .i64 0, .int .i64 0]) (cs' := #[.int .i64 p0, .int .i64 p1, .int .i64 0, .int .i64 0, .int .i64 0]) (aZ (cs := #[.int .i64 0, .int .i64 0, .int .i64 0, .int .i64 0, .int .i64 0]) (cs' := #[.int .i64 p0, .int .i64 0, .int .i64 0, .int .i64 0, .int .i64 0]) (BK12.out) 0 _ rfl) 1 _ rfl) 2 _ rfl) 3 _ rfl) 4 _ rfl)
  have hsz_ : tp12 ≤ w13.heap.size := Nat.le_trans HT.out hkp.1
  have n0_ := aA.mk (Kd.F_kept HF0.out hkp (fun k_ h1_ h2_ => by have o_ := HORD.out; have t_ := HT.out; (try simp only [In2, Up, In, Ex, Exb] at h1_ h2_); omega))
  have n1_ := aA.mk (Kd.F_kept HF2_0.out hkp (fun k_ h1_ h2_ => by have o_ := HORD.out; have t_ := HT.out; (try simp only [In2, Up, In, Ex, Exb] at h1_ h2_); omega))
  have n2_ := aA.mk (Kd.R_kept HS2_0.out hkp (fun k_ h1_ h2_ => by have o_ := HORD.out; have t_ := HT.out; (try simp only [In2, Up, In, Ex, Exb] at h1_ h2_); omega))
  have n3_ := aA.mk (Kd.F_kept HF2_1.out hkp (fun k_ h1_ h2_ => by have o_ := HORD.out; have t_ := HT.out; (try simp only [In2, Up, In, Ex, Exb] at h1_ h2_); omega))
  have n4_ := aA.mk (Kd.R_kept HS2_1.out hkp (fun k_ h1_ h2_ => by have o_ := HORD.out; have t_ := HT.out; (try simp only [In2, Up, In, Ex, Exb] at h1_ h2_); omega))
  have n5_ := aA.mk (Kd.F_kept HF3_0.out hkp (fun k_ h1_ h2_ => by have o_ := HORD.out; have t_ := HT.out; (try simp only [In2, Up, In, Ex, Exb] at h1_ h2_); omega))
  have n6_ := aA.mk (Kd.R_kept HS3_0.out hkp (fun k_ h1_ h2_ => by have o_ := HORD.out; have t_ := HT.out; (try simp only [In2, Up, In, Ex, Exb] at h1_ h2_); omega))
  have n7_ := aA.mk (Kd.F_kept HF4_0.out hkp (fun k_ h1_ h2_ => by have o_ := HORD.out; have t_ := HT.out; (try simp only [In2, Up, In, Ex, Exb] at h1_ h2_); omega))
  have n8_ := aA.mk (Kd.R_kept HS4_0.out hkp (fun k_ h1_ h2_ => by have o_ := HORD.out; have t_ := HT.out; (try simp only [In2, Up, In, Ex, Exb] at h1_ h2_); omega))
  have n9_ := aA.mk (hbn_)
  have n10_ := aA.mk (hbk_)
  have n11_ := aA.mk (hsz_)
  (try clear HF0)
  (try clear HF2_0)
  (try clear HS2_0)
  (try clear HF2_1)
  (try clear HS2_1)
  (try clear HF3_0)
  (try clear HS3_0)
  (try clear HF4_0)
  (try clear HS4_0)
  (try clear HB)
  (try clear BK12)
  (try clear HT)
  have HF0 := n0_
  have HF2_0 := n1_
  have HS2_0 := n2_
  have HF2_1 := n3_
  have HS2_1 := n4_
  have HF3_0 := n5_
  have HS3_0 := n6_
  have HF4_0 := n7_
  have HS4_0 := n8_
  have HB := n9_
  have BK12 := n10_
  have HT := n11_
  clear n0_ n1_ n2_ n3_ n4_ n5_ n6_ n7_ n8_ n9_ n10_ n11_
  clear hw_ hkp hge_ hbn_ hbk_ hsz_
  refine aU (i := 17) (N := some 9) (v := ?_) (a' := ?_) #[true, true, true, true, true, true, true, true, true, true, true, true, true, true, true, true, true, true] rfl rfl (by kernel_rfl) (fun _ _ _ h => h) (Or.inl ⟨by rfl, ?_⟩) ?_ ?_
  rotate_left
  ·intro w'
   go_simp
   with_reducible rfl
  rotate_left
  ·simp only [Act.put, lA, lB, lC, aQ, aT]
   rfl
  refine done_ (by kernel_rfl) ?_
  have hzgb12_0_13 : w13.cell? ⟨gb12, 0, none⟩ = some (.int .i64 p0) := (aC BK12.out 0).trans rfl
  have hygb12_0_13 := aD BK12.out 0
  have hzgb12_1_13 : w13.cell? ⟨gb12, 1, none⟩ = some (.int .i64 p1) := (aC BK12.out 1).trans rfl
  have hygb12_1_13 := aD BK12.out 1
  have hzgb12_2_13 : w13.cell? ⟨gb12, 2, none⟩ = some (.int .i64 p2) := (aC BK12.out 2).trans rfl
  have hygb12_2_13 := aD BK12.out 2
  have hzgb12_3_13 : w13.cell? ⟨gb12, 3, none⟩ = some (.int .i64 p3) := (aC BK12.out 3).trans rfl
  have hygb12_3_13 := aD BK12.out 3
  have hzgb12_4_13 : w13.cell? ⟨gb12, 4, none⟩ = some (.int .i64 p4) := (aC BK12.out 4).trans rfl
  have hygb12_4_13 := aD BK12.out 4
  try go_wp2
  obtain ⟨ad14, ee14, hx14_0, hx14_1, hx14_2, hx14_3, hx14_4⟩ := at_T27 (Kd.F_now HF3_0.out) x5 hp_ hq_
  obtain rfl := Option.some.inj ee14
  have HX14_0 := aA.mk hx14_0
  have HX14_1 := aA.mk hx14_1
  have HX14_2 := aA.mk hx14_2
  have HX14_3 := aA.mk hx14_3
  have HX14_4 := aA.mk hx14_4
  have n_ := aA.mk (Kd.F_drew HF0.out)
  clear HF0
  have HF0 := n_
  clear n_
  have n_ := aA.mk (Kd.F_drew HF2_0.out)
  clear HF2_0
  have HF2_0 := n_
  clear n_
  have n_ := aA.mk (Kd.aY HS2_0.out)
  clear HS2_0
  have HS2_0 := n_
  clear n_
  have n_ := aA.mk (Kd.F_drew HF2_1.out)
  clear HF2_1
  have HF2_1 := n_
  clear n_
  have n_ := aA.mk (Kd.aY HS2_1.out)
  clear HS2_1
  have HS2_1 := n_
  clear n_
  have n_ := aA.mk (Kd.F_drew HF3_0.out)
  clear HF3_0
  have HF3_0 := n_
  clear n_
  have n_ := aA.mk (Kd.aY HS3_0.out)
  clear HS3_0
  have HS3_0 := n_
  clear n_
  have n_ := aA.mk (Kd.F_drew HF4_0.out)
  clear HF4_0
  have HF4_0 := n_
  clear n_
  have n_ := aA.mk (Kd.aY HS4_0.out)
  clear HS4_0
  have HS4_0 := n_
  clear n_
  have n_ := aA.mk (aM BK12.out)
  clear BK12
  have BK12 := n_
  clear n_
  have n_ := aA.mk (aG HB.out)
  clear HB
  have HB := n_
  clear n_
  have n_ := aA.mk (show _ ≤ w13.drew.heap.size from HT.out)
  clear HT
  have HT := n_
  clear n_
  have n_ := aA.mk (show w13.drew.cell? (ad6.add (x5.toNat * 5)) = some (.int .i64 (rd_T27 m x5).f0) from HX14_0.out)
  clear HX14_0
  have HX14_0 := n_
  clear n_
  have n_ := aA.mk (show w13.drew.cell? ⟨(ad6.add (x5.toNat * 5)).block, (ad6.add (x5.toNat * 5)).off + 1, none⟩ = some (.int .i64 (rd_T27 m x5).f1) from HX14_1.out)
  clear HX14_1
  have HX14_1 := n_
  clear n_
  have n_ := aA.mk (show w13.drew.cell? ⟨(ad6.add (x5.toNat * 5)).block, (ad6.add (x5.toNat * 5)).off + 2, none⟩ = some (.int .i64 (rd_T27 m x5).f2) from HX14_2.out)
  clear HX14_2
  have HX14_2 := n_
  clear n_
  have n_ := aA.mk (show w13.drew.cell? ⟨(ad6.add (x5.toNat * 5)).block, (ad6.add (x5.toNat * 5)).off + 3, none⟩ = some (.int .i64 (rd_T27 m x5).f3) from HX14_3.out)
  clear HX14_3
  have HX14_3 := n_
  clear n_
  have n_ := aA.mk (show w13.drew.cell? ⟨(ad6.add (x5.toNat * 5)).block, (ad6.add (x5.toNat * 5)).off + 4, none⟩ = some (.int .i64 (rd_T27 m x5).f4) from HX14_4.out)
  clear HX14_4
  have HX14_4 := n_
  clear n_
  refine start_ (n := 18) (S := fun w' => w'.cell? (ad6.add (x5.toNat * 5)) = some (.int .i64 (rd_T27 m x5).f0) ∧ w'.cell? ⟨(ad6.add (x5.toNat * 5)).block, (ad6.add (x5.toNat * 5)).off + 1, none⟩ = some (.int .i64 (rd_T27 m x5).f1) ∧ w'.cell? ⟨(ad6.add (x5.toNat * 5)).block, (ad6.add (x5.toNat * 5)).off + 2, none⟩ = some (.int .i64 (rd_T27 m x5).f2) ∧ w'.cell? ⟨(ad6.add (x5.toNat * 5)).block, (ad6.add (x5.toNat * 5)).off + 3, none⟩ = some (.int .i64 (rd_T27 m x5).f3) ∧ w'.cell? ⟨(ad6.add (x5.toNat * 5)).block, (ad6.add (x5.toNat * 5)).off + 4, none⟩ = some (.int .i64 (rd_T27 m x5).f4)) (ds := [16]) #[false, false, false, false, false, false, false, false, false, false, false, false, false, false, false, false, false, false] (by kernel_rfl) rfl rfl ⟨HX14_0.out, HX14_1.out, HX14_2.out, HX14_3.out, HX14_4.out⟩ (fun hHeld => ?_)
  generalize w13.drew = w15 at HF0 HF2_0 HS2_0 HF2_1 HS2_1 HF3_0 HS3_0 HF4_0 HS4_0 BK12 HB HT HX14_0 HX14_1 HX14_2 HX14_3 HX14_4 hHeld ⊢
  refine aU (i := 0) (N := some 50) (v := ?_) (a' := ?_) #[true, false, false, false, false, false, false, false, false, false, false, false, false, false, false, false, false, false] rfl rfl (by kernel_rfl) (fun _ _ _ h => h) (Or.inl ⟨by rfl, ?_⟩) ?_ ?_
  rotate_left
  ·intro w'
   go_simp
   with_reducible rfl
  rotate_left
  ·simp only [Act.put, lA, lB, lC, aQ, aT]
   rfl
  refine aU (i := 1) (N := some 51) (v := ?_) (a' := ?_) #[true, true, false, false, false, false, false, false, false, false, false, false, false, false, false, false, false, false] rfl rfl (by kernel_rfl) (fun _ _ _ h => h) (Or.inl ⟨by rfl, ?_⟩) ?_ ?_
  rotate_left
  ·intro w'
   go_simp
   with_reducible rfl
  rotate_left
  ·simp only [Act.put, lA, lB, lC, aQ, aT]
   rfl
  refine aU (i := 2) (N := some 52) (v := ?_) (a' := ?_) #[true, true, true, false, false, false, false, false, false, false, false, false, false, false, false, false, false, false] rfl rfl (by kernel_rfl) (fun _ _ _ h => h) (Or.inl ⟨by rfl, ?_⟩) ?_ ?_
  rotate_left
  ·intro w'
   go_simp
   with_reducible rfl
  rotate_left
  ·simp only [Act.put, lA, lB, lC, aQ, aT]
   rfl
  refine aU (i := 3) (N := some 53) (v := ?_) (a' := ?_) #[true, true, true, true, false, false, false, false, false, false, false, false, false, false, false, false, false, false] rfl rfl (by kernel_rfl) (fun _ _ _ h => h) (Or.inl ⟨by rfl, ?_⟩) ?_ ?_
  rotate_left
  ·intro w'
   go_simp
   with_reducible rfl
  rotate_left
  ·simp only [Act.put, lA, lB, lC, aQ, aT]
   rfl
  refine aU (i := 4) (N := some 54) (v := ?_) (a' := ?_) #[true, true, true, true, true, false, false, false, false, false, false, false, false, false, false, false, false, false] rfl rfl (by kernel_rfl) (fun _ _ _ h => h) (Or.inl ⟨by rfl, ?_⟩) ?_ ?_
  rotate_left
  ·intro w'
   go_simp
   with_reducible rfl
  rotate_left
  ·simp only [Act.put, lA, lB, lC, aQ, aT]
   rfl
  refine take_ (i := 5) (N := some 55) (v := ?_) (a' := ?_) #[true, true, true, true, true, true, false, false, false, false, false, false, false, false, false, false, false, false] rfl rfl (by kernel_rfl) (fun _ _ _ h => h) (Or.inl ⟨by rfl, ?_⟩) hHeld ?_ ?_
  rotate_left
  ·rintro w' ⟨s0, s1, s2, s3, s4⟩
   go_simp
   with_reducible rfl
  rotate_left
  ·simp only [Act.put, lA, lB, lC, aQ, aT]
   rfl
  refine aU (i := 6) (N := some 56) (v := ?_) (a' := ?_) #[true, true, true, true, true, true, true, false, false, false, false, false, false, false, false, false, false, false] rfl rfl (by kernel_rfl) (fun _ _ _ h => h) (Or.inl ⟨by rfl, ?_⟩) ?_ ?_
  rotate_left
  ·intro w'
   go_simp
   with_reducible rfl
  rotate_left
  ·simp only [Act.put, lA, lB, lC, aQ, aT]
   rfl
  refine aU (i := 7) (N := some 57) (v := ?_) (a' := ?_) #[true, true, true, true, true, true, true, true, false, false, false, false, false, false, false, false, false, false] rfl rfl (by kernel_rfl) (fun _ _ _ h => h) (Or.inl ⟨by rfl, ?_⟩) ?_ ?_
  rotate_left
  ·intro w'
   go_simp
   with_reducible rfl
  rotate_left
  ·simp only [Act.put, lA, lB, lC, aQ, aT]
   rfl
  refine aU (i := 8) (N := some 58) (v := ?_) (a' := ?_) #[true, true, true, true, true, true, true, true, true, false, false, false, false, false, false, false, false, false] rfl rfl (by kernel_rfl) (fun _ _ _ h => h) (Or.inl ⟨by rfl, ?_⟩) ?_ ?_
  rotate_left
  ·intro w'
   go_simp
   with_reducible rfl
  rotate_left
  ·simp only [Act.put, lA, lB, lC, aQ, aT]
   rfl
  refine aU (i := 9) (N := some 59) (v := ?_) (a' := ?_) #[true, true, true, true, true, true, true, true, true, true, false, false, false, false, false, false, false, false] rfl rfl (by kernel_rfl) (fun _ _ _ h => h) (Or.inl ⟨by rfl, ?_⟩) ?_ ?_
  rotate_left
  ·intro w'
   go_simp
   with_reducible rfl
  rotate_left
  ·simp only [Act.put, lA, lB, lC, aQ, aT]
   rfl
  refine take_ (i := 10) (N := some 60) (v := ?_) (a' := ?_) #[true, true, true, true, true, true, true, true, true, true, true, false, false, false, false, false, false, false] rfl rfl (by kernel_rfl) (fun _ _ _ h => h) (Or.inl ⟨by rfl, ?_⟩) hHeld ?_ ?_
  rotate_left
  ·rintro w' ⟨s0, s1, s2, s3, s4⟩
   go_simp
   with_reducible rfl
  rotate_left
  ·simp only [Act.put, lA, lB, lC, aQ, aT]
   rfl
  refine join_ (σ := Nat) 2 #[true, true, true, true, true, true, true, true, true, true, true, true, true, true, true, true, false, false] (fun s_ => [(61, .tuple #[.agg #[.int .i64 q0, .int .i64 q1, .int .i64 q2, .int .i64 q3, .int .i64 q4], .bool bb]), (49, .tuple #[.agg #[.int .i64 q0, .int .i64 q1, .int .i64 q2, .int .i64 q3, .int .i64 q4], .bool bb]), (62, .agg #[.int .i64 q0, .int .i64 q1, .int .i64 q2, .int .i64 q3, .int .i64 q4]), (63, .bool bb), (10, .pointer (some ⟨s_, 0, none⟩))]) (fun s_ w' => (w'.cell? (ad6.add (x5.toNat * 5)) = some (.int .i64 (rd_T27 m x5).f0) ∧ w'.cell? ⟨(ad6.add (x5.toNat * 5)).block, (ad6.add (x5.toNat * 5)).off + 1, none⟩ = some (.int .i64 (rd_T27 m x5).f1) ∧ w'.cell? ⟨(ad6.add (x5.toNat * 5)).block, (ad6.add (x5.toNat * 5)).off + 2, none⟩ = some (.int .i64 (rd_T27 m x5).f2) ∧ w'.cell? ⟨(ad6.add (x5.toNat * 5)).block, (ad6.add (x5.toNat * 5)).off + 3, none⟩ = some (.int .i64 (rd_T27 m x5).f3) ∧ w'.cell? ⟨(ad6.add (x5.toNat * 5)).block, (ad6.add (x5.toNat * 5)).off + 4, none⟩ = some (.int .i64 (rd_T27 m x5).f4)) ∧ aA (Kd.F (Kd.int .u8) w' (In 0 w.heap.size) A0 l0.length l0) ∧ aA (Kd.F k27 w' (In lo2 hi2) A2_0 a.length a) ∧ aA (Kd.R k27 27 w' lo2 (In lo2 hi2) (.slice A2_0 a.length c2_0) a) ∧ aA (Kd.F k27 w' (In lo2 hi2) A2_1 b.length b) ∧ aA (Kd.R k27 27 w' lo2 (In lo2 hi2) (.slice A2_1 b.length c2_1) b) ∧ aA (Kd.F k27 w' (In lo3 hi3) (some ad6) m.length m) ∧ aA (Kd.R k27 27 w' lo3 (In lo3 hi3) (.slice (some ad6) m.length c3_0) m) ∧ aA (Kd.F k27 w' (In lo4 hi4) A4_0 d.length d) ∧ aA (Kd.R k27 27 w' lo4 (In lo4 hi4) (.slice A4_0 d.length c4_0) d) ∧ aA (w'.cell? (ad6.add (x5.toNat * 5)) = some (.int .i64 (rd_T27 m x5).f0)) ∧ aA (w'.cell? ⟨(ad6.add (x5.toNat * 5)).block, (ad6.add (x5.toNat * 5)).off + 1, none⟩ = some (.int .i64 (rd_T27 m x5).f1)) ∧ aA (w'.cell? ⟨(ad6.add (x5.toNat * 5)).block, (ad6.add (x5.toNat * 5)).off + 2, none⟩ = some (.int .i64 (rd_T27 m x5).f2)) ∧ aA (w'.cell? ⟨(ad6.add (x5.toNat * 5)).block, (ad6.add (x5.toNat * 5)).off + 3, none⟩ = some (.int .i64 (rd_T27 m x5).f3)) ∧ aA (w'.cell? ⟨(ad6.add (x5.toNat * 5)).block, (ad6.add (x5.toNat * 5)).off + 4, none⟩ = some (.int .i64 (rd_T27 m x5).f4)) ∧ aA (w'.heap[gb12]? = some (.cells #[.int .i64 p0, .int .i64 p1, .int .i64 p2, .int .i64 p3, .int .i64 p4] 27 (0, 0))) ∧ aA (Below w.heap.size w w') ∧ aA (w'.heap[s_]? = some (.cells #[.int .i64 0, .int .i64 0, .int .i64 0, .int .i64 0, .int .i64 0] 27 (0, 0))) ∧ aA (tp12 ≤ s_ ∧ s_ + 1 ≤ w'.heap.size)) ?_ ?_
  rotate_left
  ·intro hCont
   refine two_ (i := 11) (j := 15) (Ni := some 61) (Nj := some 10) #[true, true, true, true, true, true, true, true, true, true, true, true, false, false, false, false, false, false] #[true, true, true, true, true, true, true, true, true, true, true, false, false, false, false, true, false, false] rfl rfl rfl rfl (by kernel_rfl) (by decide) (by decide) (fun K hK => ?_) (fun K hK => ?_)
   ·skip
    refine goes_ Try.func44 (by kernel_rfl) rfl #[.slice A2_1 b.length c2_1, .int .i64 ((rd_T27 m x5).f0), .int .i64 ((rd_T27 m x5).f1)] (by rfl) rfl rfl (by (try simp only [List.map_toArray, List.map_cons, List.map_nil]); first | done | rfl | (simp only [List.length_drop, List.length_take]; rfl)) ?_
    (with_reducible refine (impl_SetAt.calls kb _ _ b ((rd_T27 m x5).f0) ((rd_T27 m x5).f1) q0 q1 q2 q3 q4 bb _ ?s1 ?s2 RB.out).mono ?_)
    (case s1 => exact (Kd.F_now HF2_1.out))
    (case s2 => exact HC2_1.out)
    rintro e_ w16 ⟨rfl, hb⟩
    refine ⟨_, rfl, ?_⟩
    have n0_ := aA.mk (Kd.bA HF0.out hb)
    have n1_ := aA.mk (Kd.bA HF2_0.out hb)
    have n2_ := aA.mk (Kd.bB HS2_0.out hb)
    have n3_ := aA.mk (Kd.bA HF2_1.out hb)
    have n4_ := aA.mk (Kd.bB HS2_1.out hb)
    have n5_ := aA.mk (Kd.bA HF3_0.out hb)
    have n6_ := aA.mk (Kd.bB HS3_0.out hb)
    have n7_ := aA.mk (Kd.bA HF4_0.out hb)
    have n8_ := aA.mk (Kd.bB HS4_0.out hb)
    have n9_ := aA.mk (aV hb HX14_0.out)
    have n10_ := aA.mk (aV hb HX14_1.out)
    have n11_ := aA.mk (aV hb HX14_2.out)
    have n12_ := aA.mk (aV hb HX14_3.out)
    have n13_ := aA.mk (aV hb HX14_4.out)
    have n14_ := aA.mk (bE BK12.out hb)
    have n15_ := aA.mk (aX HB.out hb)
    have n16_ := aA.mk (Nat.le_trans HT.out hb.size)
    (try clear HF0)
    (try clear HF2_0)
    (try clear HS2_0)
    (try clear HF2_1)
    (try clear HS2_1)
    (try clear HF3_0)
    (try clear HS3_0)
    (try clear HF4_0)
    (try clear HS4_0)
    (try clear HX14_0)
    (try clear HX14_1)
    (try clear HX14_2)
    (try clear HX14_3)
    (try clear HX14_4)
    (try clear BK12)
    (try clear HB)
    (try clear HT)
    have HF0 := n0_
    have HF2_0 := n1_
    have HS2_0 := n2_
    have HF2_1 := n3_
    have HS2_1 := n4_
    have HF3_0 := n5_
    have HS3_0 := n6_
    have HF4_0 := n7_
    have HS4_0 := n8_
    have HX14_0 := n9_
    have HX14_1 := n10_
    have HX14_2 := n11_
    have HX14_3 := n12_
    have HX14_4 := n13_
    have BK12 := n14_
    have HB := n15_
    have HT := n16_
    clear n0_ n1_ n2_ n3_ n4_ n5_ n6_ n7_ n8_ n9_ n10_ n11_ n12_ n13_ n14_ n15_ n16_
    (try clear hb)
    refine hK.out _ _ ⟨HX14_0.out, HX14_1.out, HX14_2.out, HX14_3.out, HX14_4.out⟩ (fun hHeld => ?_)
    clear hK K
    refine norm_ (a' := ?_) ?_ ?_
    rotate_left
    ·show Act.put _ (some 61) _ = _
     simp only [Act.put, lA, lB, lC, aQ, aT]
     rfl
    refine aU (i := 12) (N := some 49) (v := ?_) (a' := ?_) #[true, true, true, true, true, true, true, true, true, true, true, true, true, false, false, false, false, false] rfl rfl (by kernel_rfl) (fun _ _ _ h => h) (Or.inl ⟨by rfl, ?_⟩) ?_ ?_
    rotate_left
    ·intro w'
     go_simp
     with_reducible rfl
    rotate_left
    ·simp only [Act.put, lA, lB, lC, aQ, aT]
     rfl
    refine aU (i := 13) (N := some 62) (v := ?_) (a' := ?_) #[true, true, true, true, true, true, true, true, true, true, true, true, true, true, false, false, false, false] rfl rfl (by kernel_rfl) (fun _ _ _ h => h) (Or.inl ⟨by rfl, ?_⟩) ?_ ?_
    rotate_left
    ·intro w'
     go_simp
     with_reducible rfl
    rotate_left
    ·simp only [Act.put, lA, lB, lC, aQ, aT]
     rfl
    refine aU (i := 14) (N := some 63) (v := ?_) (a' := ?_) #[true, true, true, true, true, true, true, true, true, true, true, true, true, true, true, false, false, false] rfl rfl (by kernel_rfl) (fun _ _ _ h => h) (Or.inl ⟨by rfl, ?_⟩) ?_ ?_
    rotate_left
    ·intro w'
     go_simp
     with_reducible rfl
    rotate_left
    ·simp only [Act.put, lA, lB, lC, aQ, aT]
     rfl
    refine one_ (i := 15) (N := some 10) #[true, true, true, true, true, true, true, true, true, true, true, true, true, true, true, true, false, false] rfl rfl (by kernel_rfl) (by decide) (fun K hK => ?_)
    refine box_step ?hg (N := 10) ?hd (cs := #[.int .i64 0, .int .i64 0, .int .i64 0, .int .i64 0, .int .i64 0]) (t := 27) ?hr ?_
    (case hd => rfl)
    (case hg => rfl)
    (case hr => first | (go_simp; done) | (go_simp; rfl))
    intro gb17 hg_ w17 hbox hb
    have hge_ : tp12 ≤ gb17 := (by rw [hg_]; exact HT.out)
    have hlt_ : gb17 + 1 ≤ w17.heap.size := blk_lt hbox
    have n0_ := aA.mk (Kd.bA HF0.out hb)
    have n1_ := aA.mk (Kd.bA HF2_0.out hb)
    have n2_ := aA.mk (Kd.bB HS2_0.out hb)
    have n3_ := aA.mk (Kd.bA HF2_1.out hb)
    have n4_ := aA.mk (Kd.bB HS2_1.out hb)
    have n5_ := aA.mk (Kd.bA HF3_0.out hb)
    have n6_ := aA.mk (Kd.bB HS3_0.out hb)
    have n7_ := aA.mk (Kd.bA HF4_0.out hb)
    have n8_ := aA.mk (Kd.bB HS4_0.out hb)
    have n9_ := aA.mk (aV hb HX14_0.out)
    have n10_ := aA.mk (aV hb HX14_1.out)
    have n11_ := aA.mk (aV hb HX14_2.out)
    have n12_ := aA.mk (aV hb HX14_3.out)
    have n13_ := aA.mk (aV hb HX14_4.out)
    have n14_ := aA.mk (bE BK12.out hb)
    have n15_ := aA.mk (aX HB.out hb)
    have n16_ := aA.mk (hbox)
    have n17_ := aA.mk (And.intro HORD.out (And.intro hge_ (Nat.le_succ gb17)))
    have n18_ := aA.mk (hlt_)
    (try clear HF0)
    (try clear HF2_0)
    (try clear HS2_0)
    (try clear HF2_1)
    (try clear HS2_1)
    (try clear HF3_0)
    (try clear HS3_0)
    (try clear HF4_0)
    (try clear HS4_0)
    (try clear HX14_0)
    (try clear HX14_1)
    (try clear HX14_2)
    (try clear HX14_3)
    (try clear HX14_4)
    (try clear BK12)
    (try clear HB)
    (try clear BK17)
    (try clear HORD)
    (try clear HT)
    have HF0 := n0_
    have HF2_0 := n1_
    have HS2_0 := n2_
    have HF2_1 := n3_
    have HS2_1 := n4_
    have HF3_0 := n5_
    have HS3_0 := n6_
    have HF4_0 := n7_
    have HS4_0 := n8_
    have HX14_0 := n9_
    have HX14_1 := n10_
    have HX14_2 := n11_
    have HX14_3 := n12_
    have HX14_4 := n13_
    have BK12 := n14_
    have HB := n15_
    have BK17 := n16_
    have HORD := n17_
    have HT := n18_
    clear n0_ n1_ n2_ n3_ n4_ n5_ n6_ n7_ n8_ n9_ n10_ n11_ n12_ n13_ n14_ n15_ n16_ n17_ n18_
    clear hb hbox hg_ hge_ hlt_
    refine hK.out _ _ ⟨HX14_0.out, HX14_1.out, HX14_2.out, HX14_3.out, HX14_4.out⟩ (fun hHeld => ?_)
    clear hK K
    refine norm_ (a' := ?_) ?_ ?_
    rotate_left
    ·show Act.put _ (some 10) _ = _
     simp only [Act.put, lA, lB, lC, aQ, aT]
     rfl
    exact norm_ (by simp only [putAll, Act.put, lA, lB, lC]) (hCont gb17 _ ⟨hHeld, HF0, HF2_0, HS2_0, HF2_1, HS2_1, HF3_0, HS3_0, HF4_0, HS4_0, HX14_0, HX14_1, HX14_2, HX14_3, HX14_4, BK12, HB, BK17, ⟨by have o_ := HORD.out; have t_ := HT.out; (try simp only []); omega⟩⟩)
   ·skip
    refine box_step ?hg (N := 10) ?hd (cs := #[.int .i64 0, .int .i64 0, .int .i64 0, .int .i64 0, .int .i64 0]) (t := 27) ?hr ?_
    (case hd => rfl)
    (case hg => rfl)
    (case hr => first | (go_simp; done) | (go_simp; rfl))
    intro gb18 hg_ w18 hbox hb
    have hge_ : tp12 ≤ gb18 := (by rw [hg_]; exact HT.out)
    have hlt_ : gb18 + 1 ≤ w18.heap.size := blk_lt hbox
    have n0_ := aA.mk (Kd.bA HF0.out hb)
    have n1_ := aA.mk (Kd.bA HF2_0.out hb)
    have n2_ := aA.mk (Kd.bB HS2_0.out hb)
    have n3_ := aA.mk (Kd.bA HF2_1.out hb)
    have n4_ := aA.mk (Kd.bB HS2_1.out hb)
    have n5_ := aA.mk (Kd.bA HF3_0.out hb)
    have n6_ := aA.mk (Kd.bB HS3_0.out hb)
    have n7_ := aA.mk (Kd.bA HF4_0.out hb)
    have n8_ := aA.mk (Kd.bB HS4_0.out hb)
    have n9_ := aA.mk (aV hb HX14_0.out)
    have n10_ := aA.mk (aV hb HX14_1.out)
    have n11_ := aA.mk (aV hb HX14_2.out)
    have n12_ := aA.mk (aV hb HX14_3.out)
    have n13_ := aA.mk (aV hb HX14_4.out)
    have n14_ := aA.mk (bE BK12.out hb)
    have n15_ := aA.mk (aX HB.out hb)
    have n16_ := aA.mk (hbox)
    have n17_ := aA.mk (And.intro HORD.out (And.intro hge_ (Nat.le_succ gb18)))
    have n18_ := aA.mk (hlt_)
    (try clear HF0)
    (try clear HF2_0)
    (try clear HS2_0)
    (try clear HF2_1)
    (try clear HS2_1)
    (try clear HF3_0)
    (try clear HS3_0)
    (try clear HF4_0)
    (try clear HS4_0)
    (try clear HX14_0)
    (try clear HX14_1)
    (try clear HX14_2)
    (try clear HX14_3)
    (try clear HX14_4)
    (try clear BK12)
    (try clear HB)
    (try clear BK18)
    (try clear HORD)
    (try clear HT)
    have HF0 := n0_
    have HF2_0 := n1_
    have HS2_0 := n2_
    have HF2_1 := n3_
    have HS2_1 := n4_
    have HF3_0 := n5_
    have HS3_0 := n6_
    have HF4_0 := n7_
    have HS4_0 := n8_
    have HX14_0 := n9_
    have HX14_1 := n10_
    have HX14_2 := n11_
    have HX14_3 := n12_
    have HX14_4 := n13_
    have BK12 := n14_
    have HB := n15_
    have BK18 := n16_
    have HORD := n17_
    have HT := n18_
    clear n0_ n1_ n2_ n3_ n4_ n5_ n6_ n7_ n8_ n9_ n10_ n11_ n12_ n13_ n14_ n15_ n16_ n17_ n18_
    clear hb hbox hg_ hge_ hlt_
    refine hK.out _ _ ⟨HX14_0.out, HX14_1.out, HX14_2.out, HX14_3.out, HX14_4.out⟩ (fun hHeld => ?_)
    clear hK K
    refine norm_ (a' := ?_) ?_ ?_
    rotate_left
    ·show Act.put _ (some 10) _ = _
     simp only [Act.put, lA, lB, lC, aQ, aT]
     rfl
    refine one_ (i := 11) (N := some 61) #[true, true, true, true, true, true, true, true, true, true, true, true, false, false, false, true, false, false] rfl rfl (by kernel_rfl) (by decide) (fun K hK => ?_)
    refine goes_ Try.func44 (by kernel_rfl) rfl #[.slice A2_1 b.length c2_1, .int .i64 ((rd_T27 m x5).f0), .int .i64 ((rd_T27 m x5).f1)] (by rfl) rfl rfl (by (try simp only [List.map_toArray, List.map_cons, List.map_nil]); first | done | rfl | (simp only [List.length_drop, List.length_take]; rfl)) ?_
    (with_reducible refine (impl_SetAt.calls kb _ _ b ((rd_T27 m x5).f0) ((rd_T27 m x5).f1) q0 q1 q2 q3 q4 bb _ ?s1 ?s2 RB.out).mono ?_)
    (case s1 => exact (Kd.F_now HF2_1.out))
    (case s2 => exact HC2_1.out)
    rintro e_ w19 ⟨rfl, hb⟩
    refine ⟨_, rfl, ?_⟩
    have n0_ := aA.mk (Kd.bA HF0.out hb)
    have n1_ := aA.mk (Kd.bA HF2_0.out hb)
    have n2_ := aA.mk (Kd.bB HS2_0.out hb)
    have n3_ := aA.mk (Kd.bA HF2_1.out hb)
    have n4_ := aA.mk (Kd.bB HS2_1.out hb)
    have n5_ := aA.mk (Kd.bA HF3_0.out hb)
    have n6_ := aA.mk (Kd.bB HS3_0.out hb)
    have n7_ := aA.mk (Kd.bA HF4_0.out hb)
    have n8_ := aA.mk (Kd.bB HS4_0.out hb)
    have n9_ := aA.mk (aV hb HX14_0.out)
    have n10_ := aA.mk (aV hb HX14_1.out)
    have n11_ := aA.mk (aV hb HX14_2.out)
    have n12_ := aA.mk (aV hb HX14_3.out)
    have n13_ := aA.mk (aV hb HX14_4.out)
    have n14_ := aA.mk (bE BK12.out hb)
    have n15_ := aA.mk (bE BK18.out hb)
    have n16_ := aA.mk (aX HB.out hb)
    have n17_ := aA.mk (Nat.le_trans HT.out hb.size)
    (try clear HF0)
    (try clear HF2_0)
    (try clear HS2_0)
    (try clear HF2_1)
    (try clear HS2_1)
    (try clear HF3_0)
    (try clear HS3_0)
    (try clear HF4_0)
    (try clear HS4_0)
    (try clear HX14_0)
    (try clear HX14_1)
    (try clear HX14_2)
    (try clear HX14_3)
    (try clear HX14_4)
    (try clear BK12)
    (try clear BK18)
    (try clear HB)
    (try clear HT)
    have HF0 := n0_
    have HF2_0 := n1_
    have HS2_0 := n2_
    have HF2_1 := n3_
    have HS2_1 := n4_
    have HF3_0 := n5_
    have HS3_0 := n6_
    have HF4_0 := n7_
    have HS4_0 := n8_
    have HX14_0 := n9_
    have HX14_1 := n10_
    have HX14_2 := n11_
    have HX14_3 := n12_
    have HX14_4 := n13_
    have BK12 := n14_
    have BK18 := n15_
    have HB := n16_
    have HT := n17_
    clear n0_ n1_ n2_ n3_ n4_ n5_ n6_ n7_ n8_ n9_ n10_ n11_ n12_ n13_ n14_ n15_ n16_ n17_
    (try clear hb)
    refine hK.out _ _ ⟨HX14_0.out, HX14_1.out, HX14_2.out, HX14_3.out, HX14_4.out⟩ (fun hHeld => ?_)
    clear hK K
    refine norm_ (a' := ?_) ?_ ?_
    rotate_left
    ·show Act.put _ (some 61) _ = _
     simp only [Act.put, lA, lB, lC, aQ, aT]
     rfl
    refine aU (i := 12) (N := some 49) (v := ?_) (a' := ?_) #[true, true, true, true, true, true, true, true, true, true, true, true, true, false, false, true, false, false] rfl rfl (by kernel_rfl) (fun _ _ _ h => h) (Or.inl ⟨by rfl, ?_⟩) ?_ ?_
    rotate_left
    ·intro w'
     go_simp
     with_reducible rfl
    rotate_left
    ·simp only [Act.put, lA, lB, lC, aQ, aT]
     rfl
    refine aU (i := 13) (N := some 62) (v := ?_) (a' := ?_) #[true, true, true, true, true, true, true, true, true, true, true, true, true, true, false, true, false, false] rfl rfl (by kernel_rfl) (fun _ _ _ h => h) (Or.inl ⟨by rfl, ?_⟩) ?_ ?_
    rotate_left
    ·intro w'
     go_simp
     with_reducible rfl
    rotate_left
    ·simp only [Act.put, lA, lB, lC, aQ, aT]
     rfl
    refine aU (i := 14) (N := some 63) (v := ?_) (a' := ?_) #[true, true, true, true, true, true, true, true, true, true, true, true, true, true, true, true, false, false] rfl rfl (by kernel_rfl) (fun _ _ _ h => h) (Or.inl ⟨by rfl, ?_⟩) ?_ ?_
    rotate_left
    ·intro w'
     go_simp
     with_reducible rfl
    rotate_left
    ·simp only [Act.put, lA, lB, lC, aQ, aT]
     rfl
    exact norm_ (by simp only [putAll, Act.put, lA, lB, lC]) (hCont gb18 _ ⟨hHeld, HF0, HF2_0, HS2_0, HF2_1, HS2_1, HF3_0, HS3_0, HF4_0, HS4_0, HX14_0, HX14_1, HX14_2, HX14_3, HX14_4, BK12, HB, BK18, ⟨by have o_ := HORD.out; have t_ := HT.out; (try simp only []); omega⟩⟩)
  clear HF0 HF2_0 HS2_0 HF2_1 HS2_1 HF3_0 HS3_0 HF4_0 HS4_0 HX14_0 HX14_1 HX14_2 HX14_3 HX14_4 BK12 HB HT hHeld
  rintro gb20 w20 ⟨hHeld, HF0, HF2_0, HS2_0, HF2_1, HS2_1, HF3_0, HS3_0, HF4_0, HS4_0, HX14_0, HX14_1, HX14_2, HX14_3, HX14_4, BK12, HB, BK20, HO_⟩
  obtain ⟨tp20, et_⟩ : ∃ n_, n_ = w20.heap.size := ⟨_, rfl⟩
  have n0_ := aA.mk (show _ ∧ (tp12 ≤ gb20 ∧ gb20 + 1 ≤ tp20) from And.intro HORD.out (by rw [et_]; exact HO_.out))
  clear HORD HO_
  have HORD := n0_
  clear n0_
  have HT := aA.mk (Nat.le_of_eq et_)
  clear et_
  refine norm_ (a' := ?_) ?_ ?_
  rotate_left
  ·simp only [putAll, Act.put, lA, lB, lC]
   rfl
  refine last_ (i := 16) (N := none) #[true, true, true, true, true, true, true, true, true, true, true, true, true, true, true, true, true, false] rfl rfl (by kernel_rfl) (by decide) (fun K hK => ?_)
  have hzgb12_0_21 : w20.cell? ⟨gb12, 0, none⟩ = some (.int .i64 p0) := (aC BK12.out 0).trans rfl
  have hygb12_0_21 := aD BK12.out 0
  have hzgb12_1_21 : w20.cell? ⟨gb12, 1, none⟩ = some (.int .i64 p1) := (aC BK12.out 1).trans rfl
  have hygb12_1_21 := aD BK12.out 1
  have hzgb12_2_21 : w20.cell? ⟨gb12, 2, none⟩ = some (.int .i64 p2) := (aC BK12.out 2).trans rfl
  have hygb12_2_21 := aD BK12.out 2
  have hzgb12_3_21 : w20.cell? ⟨gb12, 3, none⟩ = some (.int .i64 p3) := (aC BK12.out 3).trans rfl
  have hygb12_3_21 := aD BK12.out 3
  have hzgb12_4_21 : w20.cell? ⟨gb12, 4, none⟩ = some (.int .i64 p4) := (aC BK12.out 4).trans rfl
  have hygb12_4_21 := aD BK12.out 4
  have hzgb20_0_21 : w20.cell? ⟨gb20, 0, none⟩ = some (.int .i64 0) := (aC BK20.out 0).trans rfl
  have hygb20_0_21 := aD BK20.out 0
  have hzgb20_1_21 : w20.cell? ⟨gb20, 1, none⟩ = some (.int .i64 0) := (aC BK20.out 1).trans rfl
  have hygb20_1_21 := aD BK20.out 1
  have hzgb20_2_21 : w20.cell? ⟨gb20, 2, none⟩ = some (.int .i64 0) := (aC BK20.out 2).trans rfl
  have hygb20_2_21 := aD BK20.out 2
  have hzgb20_3_21 : w20.cell? ⟨gb20, 3, none⟩ = some (.int .i64 0) := (aC BK20.out 3).trans rfl
  have hygb20_3_21 := aD BK20.out 3
  have hzgb20_4_21 : w20.cell? ⟨gb20, 4, none⟩ = some (.int .i64 0) := (aC BK20.out 4).trans rfl
  have hygb20_4_21 := aD BK20.out 4
  have hge_ : w.heap.size ≤ gb20 := (by have o_ := HORD.out; omega)
  refine skip_ (w1 := ?_) (by rfl) rfl ?_ ?_
  rotate_left
  ·go_simp
   rfl
  refine hK.out _ _ ?_
  clear hK K
  obtain ⟨w21, hw_⟩ : ∃ z_, z_ = (((((w20.setCell ⟨gb20, 0, none⟩ (.int .i64 q0)).setCell ⟨gb20, 1, none⟩ (.int .i64 q1)).setCell ⟨gb20, 2, none⟩ (.int .i64 q2)).setCell ⟨gb20, 3, none⟩ (.int .i64 q3)).setCell ⟨gb20, 4, none⟩ (.int .i64 q4)) := ⟨_, rfl⟩
  (try rw [← hw_])
  have hkp : Kept w20 w21 (fun k_ => k_ = gb20) := (by rw [hw_]; exact Kept.setCell (Kept.setCell (Kept.setCell (Kept.setCell (Kept.setCell (Kept.refl w20 (fun k_ => k_ = gb20)) (.inl rfl) (.int .i64 q0)) (.inl rfl) (.int .i64 q1)) (.inl rfl) (.int .i64 q2)) (.inl rfl) (.int .i64 q3)) (.inl rfl) (.int .i64 q4))
  have hbn_ : Below w.heap.size w w21 := (by rw [hw_]; exact aN (aN (aN (aN (aN (HB.out) hge_) hge_) hge_) hge_) hge_)
  have hbk_ : w21.heap[gb20]? = some (.cells #[.int .i64 q0, .int .i64 q1, .int .i64 q2, .int .i64 q3, .int .i64 q4] 27 (0, 0)) := (by rw [hw_]; exact aZ (cs := #[.int .i64 q0, .int .i64 q1, .int .i64 q2, .int .i64 q3, .int .i64 0]) (cs' := #[.int .i64 q0, .int .i64 q1, .int .i64 q2, .int .i64 q3, .int .i64 q4]) (aZ (cs := #[.int .i64 q0, .int .i64 q1, .int .i64 q2, .int .i64 0, .int .i64 0]) (cs' := #[.int .i64 q0, .int .i64 q1, .int .i64 q2, .int .i64 q3, .int .i64 0]) (aZ (cs := #[.int .i64 q0, .int .i64 q1, .int .i64 0, .int .i64 0, .int .i64 0]) (cs' := #[.int .i64 q0, .int .i64 q1, .int .i64 q2, .int .i64 0, .int .i64 0]) (aZ (cs := #[.int .i64 q0, .int .i64 0, .int .i64 0, .int .i64 0, .int .i64 0]) (cs' := #[.int .i64 q0, .int .i64 q1, .int .i64 0, .int .i64 0, .int .i64 0]) (aZ (cs := #[.int .i64 0, .int .i64 0, .int .i64 0, .int .i64 0, .int .i64 0]) (cs' := #[.int .i64 q0, .int .i64 0, .int .i64 0, .int .i64 0, .int .i64 0]) (BK20.out) 0 _ rfl) 1 _ rfl) 2 _ rfl) 3 _ rfl) 4 _ rfl)
  have hsz_ : tp20 ≤ w21.heap.size := Nat.le_trans HT.out hkp.1
  have n0_ := aA.mk (Kd.F_kept HF0.out hkp (fun k_ h1_ h2_ => by have o_ := HORD.out; have t_ := HT.out; (try simp only [In2, Up, In, Ex, Exb] at h1_ h2_); omega))
  have n1_ := aA.mk (Kd.F_kept HF2_0.out hkp (fun k_ h1_ h2_ => by have o_ := HORD.out; have t_ := HT.out; (try simp only [In2, Up, In, Ex, Exb] at h1_ h2_); omega))
  have n2_ := aA.mk (Kd.R_kept HS2_0.out hkp (fun k_ h1_ h2_ => by have o_ := HORD.out; have t_ := HT.out; (try simp only [In2, Up, In, Ex, Exb] at h1_ h2_); omega))
  have n3_ := aA.mk (Kd.F_kept HF2_1.out hkp (fun k_ h1_ h2_ => by have o_ := HORD.out; have t_ := HT.out; (try simp only [In2, Up, In, Ex, Exb] at h1_ h2_); omega))
  have n4_ := aA.mk (Kd.R_kept HS2_1.out hkp (fun k_ h1_ h2_ => by have o_ := HORD.out; have t_ := HT.out; (try simp only [In2, Up, In, Ex, Exb] at h1_ h2_); omega))
  have n5_ := aA.mk (Kd.F_kept HF3_0.out hkp (fun k_ h1_ h2_ => by have o_ := HORD.out; have t_ := HT.out; (try simp only [In2, Up, In, Ex, Exb] at h1_ h2_); omega))
  have n6_ := aA.mk (Kd.R_kept HS3_0.out hkp (fun k_ h1_ h2_ => by have o_ := HORD.out; have t_ := HT.out; (try simp only [In2, Up, In, Ex, Exb] at h1_ h2_); omega))
  have n7_ := aA.mk (Kd.F_kept HF4_0.out hkp (fun k_ h1_ h2_ => by have o_ := HORD.out; have t_ := HT.out; (try simp only [In2, Up, In, Ex, Exb] at h1_ h2_); omega))
  have n8_ := aA.mk (Kd.R_kept HS4_0.out hkp (fun k_ h1_ h2_ => by have o_ := HORD.out; have t_ := HT.out; (try simp only [In2, Up, In, Ex, Exb] at h1_ h2_); omega))
  have n9_ := aA.mk (blk_kept BK12.out hkp (fun h2_ => by have o_ := HORD.out; have t_ := HT.out; (try simp only [In2, Up, In, Ex, Exb] at h2_); omega))
  have n10_ := aA.mk (hbn_)
  have n11_ := aA.mk (hbk_)
  have n12_ := aA.mk (hsz_)
  (try clear HF0)
  (try clear HF2_0)
  (try clear HS2_0)
  (try clear HF2_1)
  (try clear HS2_1)
  (try clear HF3_0)
  (try clear HS3_0)
  (try clear HF4_0)
  (try clear HS4_0)
  (try clear BK12)
  (try clear HB)
  (try clear BK20)
  (try clear HT)
  have HF0 := n0_
  have HF2_0 := n1_
  have HS2_0 := n2_
  have HF2_1 := n3_
  have HS2_1 := n4_
  have HF3_0 := n5_
  have HS3_0 := n6_
  have HF4_0 := n7_
  have HS4_0 := n8_
  have BK12 := n9_
  have HB := n10_
  have BK20 := n11_
  have HT := n12_
  clear n0_ n1_ n2_ n3_ n4_ n5_ n6_ n7_ n8_ n9_ n10_ n11_ n12_
  clear hw_ hkp hge_ hbn_ hbk_ hsz_
  refine aU (i := 17) (N := some 11) (v := ?_) (a' := ?_) #[true, true, true, true, true, true, true, true, true, true, true, true, true, true, true, true, true, true] rfl rfl (by kernel_rfl) (fun _ _ _ h => h) (Or.inl ⟨by rfl, ?_⟩) ?_ ?_
  rotate_left
  ·intro w'
   go_simp
   with_reducible rfl
  rotate_left
  ·simp only [Act.put, lA, lB, lC, aQ, aT]
   rfl
  refine done_ (by kernel_rfl) ?_
  have hzgb12_0_21 : w21.cell? ⟨gb12, 0, none⟩ = some (.int .i64 p0) := (aC BK12.out 0).trans rfl
  have hygb12_0_21 := aD BK12.out 0
  have hzgb12_1_21 : w21.cell? ⟨gb12, 1, none⟩ = some (.int .i64 p1) := (aC BK12.out 1).trans rfl
  have hygb12_1_21 := aD BK12.out 1
  have hzgb12_2_21 : w21.cell? ⟨gb12, 2, none⟩ = some (.int .i64 p2) := (aC BK12.out 2).trans rfl
  have hygb12_2_21 := aD BK12.out 2
  have hzgb12_3_21 : w21.cell? ⟨gb12, 3, none⟩ = some (.int .i64 p3) := (aC BK12.out 3).trans rfl
  have hygb12_3_21 := aD BK12.out 3
  have hzgb12_4_21 : w21.cell? ⟨gb12, 4, none⟩ = some (.int .i64 p4) := (aC BK12.out 4).trans rfl
  have hygb12_4_21 := aD BK12.out 4
  have hzgb20_0_21 : w21.cell? ⟨gb20, 0, none⟩ = some (.int .i64 q0) := (aC BK20.out 0).trans rfl
  have hygb20_0_21 := aD BK20.out 0
  have hzgb20_1_21 : w21.cell? ⟨gb20, 1, none⟩ = some (.int .i64 q1) := (aC BK20.out 1).trans rfl
  have hygb20_1_21 := aD BK20.out 1
  have hzgb20_2_21 : w21.cell? ⟨gb20, 2, none⟩ = some (.int .i64 q2) := (aC BK20.out 2).trans rfl
  have hygb20_2_21 := aD BK20.out 2
  have hzgb20_3_21 : w21.cell? ⟨gb20, 3, none⟩ = some (.int .i64 q3) := (aC BK20.out 3).trans rfl
  have hygb20_3_21 := aD BK20.out 3
  have hzgb20_4_21 : w21.cell? ⟨gb20, 4, none⟩ = some (.int .i64 q4) := (aC BK20.out 4).trans rfl
  have hygb20_4_21 := aD BK20.out 4
  try go_wp2
  have hse_ := RS.out
  clear RS RA RB
  rcases (show ((bb = true ∧ q0 = (rd_T27 m x5).f0 ∧ q1 = (rd_T27 m x5).f1 ∧ q2 = (rd_T27 m x5).f2 ∧ q3 = (rd_T27 m x5).f3 ∧ q4 = (rd_T27 m x5).f4) ∧ i5 = 0) ∨ ((bb = true ∧ q0 = (rd_T27 m x5).f0 ∧ q1 = (rd_T27 m x5).f1 ∧ q2 = (rd_T27 m x5).f2 ∧ q3 = (rd_T27 m x5).f3 ∧ q4 = (rd_T27 m x5).f4) ∧ 0 < i5) ∨ ((bb = false ∧ ba = true ∧ p0 = (rd_T27 m x5).f0 ∧ p1 = (rd_T27 m x5).f1 ∧ p2 = (rd_T27 m x5).f2 ∧ p3 = (rd_T27 m x5).f3 ∧ p4 = (rd_T27 m x5).f4) ∧ i5 = 0) ∨ ((bb = false ∧ ba = true ∧ p0 = (rd_T27 m x5).f0 ∧ p1 = (rd_T27 m x5).f1 ∧ p2 = (rd_T27 m x5).f2 ∧ p3 = (rd_T27 m x5).f3 ∧ p4 = (rd_T27 m x5).f4) ∧ 0 < i5) from (by rcases hse_ with h | h <;> rcases Nat.eq_zero_or_pos i5 with g | g <;> simp [h, g])) with ⟨h3_, h_⟩ | ⟨h3_, h_⟩ | ⟨h3_, h_⟩ | ⟨h3_, h_⟩
  ·clear hse_
   obtain ⟨rfl, rfl, rfl, rfl, rfl, rfl⟩ := h3_
   have hi0_ : i5 = 0 := h_
   have hgt_ : decide (0 < x5) = false := decide_eq_false (by have := HI5.out; omega)
   clear h_ hi0_
   have hzgb12_0_21 : w21.cell? ⟨gb12, 0, none⟩ = some (.int .i64 p0) := (aC BK12.out 0).trans rfl
   have hygb12_0_21 := aD BK12.out 0
   have hzgb12_1_21 : w21.cell? ⟨gb12, 1, none⟩ = some (.int .i64 p1) := (aC BK12.out 1).trans rfl
   have hygb12_1_21 := aD BK12.out 1
   have hzgb12_2_21 : w21.cell? ⟨gb12, 2, none⟩ = some (.int .i64 p2) := (aC BK12.out 2).trans rfl
   have hygb12_2_21 := aD BK12.out 2
   have hzgb12_3_21 : w21.cell? ⟨gb12, 3, none⟩ = some (.int .i64 p3) := (aC BK12.out 3).trans rfl
   have hygb12_3_21 := aD BK12.out 3
   have hzgb12_4_21 : w21.cell? ⟨gb12, 4, none⟩ = some (.int .i64 p4) := (aC BK12.out 4).trans rfl
   have hygb12_4_21 := aD BK12.out 4
   have hzgb20_0_21 : w21.cell? ⟨gb20, 0, none⟩ = some (.int .i64 ((rd_T27 m x5).f0)) := (aC BK20.out 0).trans rfl
   have hygb20_0_21 := aD BK20.out 0
   have hzgb20_1_21 : w21.cell? ⟨gb20, 1, none⟩ = some (.int .i64 ((rd_T27 m x5).f1)) := (aC BK20.out 1).trans rfl
   have hygb20_1_21 := aD BK20.out 1
   have hzgb20_2_21 : w21.cell? ⟨gb20, 2, none⟩ = some (.int .i64 ((rd_T27 m x5).f2)) := (aC BK20.out 2).trans rfl
   have hygb20_2_21 := aD BK20.out 2
   have hzgb20_3_21 : w21.cell? ⟨gb20, 3, none⟩ = some (.int .i64 ((rd_T27 m x5).f3)) := (aC BK20.out 3).trans rfl
   have hygb20_3_21 := aD BK20.out 3
   have hzgb20_4_21 : w21.cell? ⟨gb20, 4, none⟩ = some (.int .i64 ((rd_T27 m x5).f4)) := (aC BK20.out 4).trans rfl
   have hygb20_4_21 := aD BK20.out 4
   try go_wp2
   obtain ⟨ad22, ee22, hx22_0, hx22_1, hx22_2, hx22_3, hx22_4⟩ := at_T27 (Kd.F_now HF3_0.out) x5 hp_ hq_
   obtain rfl := Option.some.inj ee22
   have HX22_0 := aA.mk hx22_0
   have HX22_1 := aA.mk hx22_1
   have HX22_2 := aA.mk hx22_2
   have HX22_3 := aA.mk hx22_3
   have HX22_4 := aA.mk hx22_4
   have n_ := aA.mk (Kd.F_drew HF0.out)
   clear HF0
   have HF0 := n_
   clear n_
   have n_ := aA.mk (Kd.F_drew HF2_0.out)
   clear HF2_0
   have HF2_0 := n_
   clear n_
   have n_ := aA.mk (Kd.aY HS2_0.out)
   clear HS2_0
   have HS2_0 := n_
   clear n_
   have n_ := aA.mk (Kd.F_drew HF2_1.out)
   clear HF2_1
   have HF2_1 := n_
   clear n_
   have n_ := aA.mk (Kd.aY HS2_1.out)
   clear HS2_1
   have HS2_1 := n_
   clear n_
   have n_ := aA.mk (Kd.F_drew HF3_0.out)
   clear HF3_0
   have HF3_0 := n_
   clear n_
   have n_ := aA.mk (Kd.aY HS3_0.out)
   clear HS3_0
   have HS3_0 := n_
   clear n_
   have n_ := aA.mk (Kd.F_drew HF4_0.out)
   clear HF4_0
   have HF4_0 := n_
   clear n_
   have n_ := aA.mk (Kd.aY HS4_0.out)
   clear HS4_0
   have HS4_0 := n_
   clear n_
   have n_ := aA.mk (aM BK12.out)
   clear BK12
   have BK12 := n_
   clear n_
   have n_ := aA.mk (aM BK20.out)
   clear BK20
   have BK20 := n_
   clear n_
   have n_ := aA.mk (aG HB.out)
   clear HB
   have HB := n_
   clear n_
   have n_ := aA.mk (show _ ≤ w21.drew.heap.size from HT.out)
   clear HT
   have HT := n_
   clear n_
   have n_ := aA.mk (show w21.drew.cell? (ad6.add (x5.toNat * 5)) = some (.int .i64 (rd_T27 m x5).f0) from HX22_0.out)
   clear HX22_0
   have HX22_0 := n_
   clear n_
   have n_ := aA.mk (show w21.drew.cell? ⟨(ad6.add (x5.toNat * 5)).block, (ad6.add (x5.toNat * 5)).off + 1, none⟩ = some (.int .i64 (rd_T27 m x5).f1) from HX22_1.out)
   clear HX22_1
   have HX22_1 := n_
   clear n_
   have n_ := aA.mk (show w21.drew.cell? ⟨(ad6.add (x5.toNat * 5)).block, (ad6.add (x5.toNat * 5)).off + 2, none⟩ = some (.int .i64 (rd_T27 m x5).f2) from HX22_2.out)
   clear HX22_2
   have HX22_2 := n_
   clear n_
   have n_ := aA.mk (show w21.drew.cell? ⟨(ad6.add (x5.toNat * 5)).block, (ad6.add (x5.toNat * 5)).off + 3, none⟩ = some (.int .i64 (rd_T27 m x5).f3) from HX22_3.out)
   clear HX22_3
   have HX22_3 := n_
   clear n_
   have n_ := aA.mk (show w21.drew.cell? ⟨(ad6.add (x5.toNat * 5)).block, (ad6.add (x5.toNat * 5)).off + 4, none⟩ = some (.int .i64 (rd_T27 m x5).f4) from HX22_4.out)
   clear HX22_4
   have HX22_4 := n_
   clear n_
   refine start_ (n := 42) (S := fun w' => w'.cell? ⟨gb20, 0, none⟩ = some (.int .i64 ((rd_T27 m x5).f0)) ∧ w'.cell? ⟨gb20, 1, none⟩ = some (.int .i64 ((rd_T27 m x5).f1)) ∧ w'.cell? ⟨gb20, 2, none⟩ = some (.int .i64 ((rd_T27 m x5).f2)) ∧ w'.cell? ⟨gb20, 3, none⟩ = some (.int .i64 ((rd_T27 m x5).f3)) ∧ w'.cell? ⟨gb20, 4, none⟩ = some (.int .i64 ((rd_T27 m x5).f4)) ∧ w'.cell? ⟨gb12, 0, none⟩ = some (.int .i64 p0) ∧ w'.cell? ⟨gb12, 1, none⟩ = some (.int .i64 p1) ∧ w'.cell? ⟨gb12, 2, none⟩ = some (.int .i64 p2) ∧ w'.cell? ⟨gb12, 3, none⟩ = some (.int .i64 p3) ∧ w'.cell? ⟨gb12, 4, none⟩ = some (.int .i64 p4) ∧ w'.cell? (ad6.add (x5.toNat * 5)) = some (.int .i64 (rd_T27 m x5).f0) ∧ w'.cell? ⟨(ad6.add (x5.toNat * 5)).block, (ad6.add (x5.toNat * 5)).off + 1, none⟩ = some (.int .i64 (rd_T27 m x5).f1) ∧ w'.cell? ⟨(ad6.add (x5.toNat * 5)).block, (ad6.add (x5.toNat * 5)).off + 2, none⟩ = some (.int .i64 (rd_T27 m x5).f2) ∧ w'.cell? ⟨(ad6.add (x5.toNat * 5)).block, (ad6.add (x5.toNat * 5)).off + 3, none⟩ = some (.int .i64 (rd_T27 m x5).f3) ∧ w'.cell? ⟨(ad6.add (x5.toNat * 5)).block, (ad6.add (x5.toNat * 5)).off + 4, none⟩ = some (.int .i64 (rd_T27 m x5).f4)) (ds := []) #[false, false, false, false, false, false, false, false, false, false, false, false, false, false, false, false, false, false, false, false, false, false, false, false, false, false, false, false, false, false, false, false, false, false, false, false, false, false, false, false, false, false] (by kernel_rfl) rfl rfl ⟨(aC BK20.out 0).trans rfl, (aC BK20.out 1).trans rfl, (aC BK20.out 2).trans rfl, (aC BK20.out 3).trans rfl, (aC BK20.out 4).trans rfl, (aC BK12.out 0).trans rfl, (aC BK12.out 1).trans rfl, (aC BK12.out 2).trans rfl, (aC BK12.out 3).trans rfl, (aC BK12.out 4).trans rfl, HX22_0.out, HX22_1.out, HX22_2.out, HX22_3.out, HX22_4.out⟩ (fun hHeld => ?_)
   generalize w21.drew = w23 at HF0 HF2_0 HS2_0 HF2_1 HS2_1 HF3_0 HS3_0 HF4_0 HS4_0 BK12 BK20 HB HT HX22_0 HX22_1 HX22_2 HX22_3 HX22_4 hHeld ⊢
   refine aU (i := 0) (N := some 64) (v := ?_) (a' := ?_) #[true, false, false, false, false, false, false, false, false, false, false, false, false, false, false, false, false, false, false, false, false, false, false, false, false, false, false, false, false, false, false, false, false, false, false, false, false, false, false, false, false, false] rfl rfl (by kernel_rfl) (fun _ _ _ h => h) (Or.inl ⟨by rfl, ?_⟩) ?_ ?_
   rotate_left
   ·intro w'
    go_simp
    with_reducible rfl
   rotate_left
   ·simp only [Act.put, lA, lB, lC, aQ, aT]
    rfl
   refine aU (i := 1) (N := some 65) (v := ?_) (a' := ?_) #[true, true, false, false, false, false, false, false, false, false, false, false, false, false, false, false, false, false, false, false, false, false, false, false, false, false, false, false, false, false, false, false, false, false, false, false, false, false, false, false, false, false] rfl rfl (by kernel_rfl) (fun _ _ _ h => h) (Or.inl ⟨by rfl, ?_⟩) ?_ ?_
   rotate_left
   ·intro w'
    go_simp
    with_reducible rfl
   rotate_left
   ·simp only [Act.put, lA, lB, lC, aQ, aT]
    rfl
   refine aU (i := 2) (N := some 66) (v := ?_) (a' := ?_) #[true, true, true, false, false, false, false, false, false, false, false, false, false, false, false, false, false, false, false, false, false, false, false, false, false, false, false, false, false, false, false, false, false, false, false, false, false, false, false, false, false, false] rfl rfl (by kernel_rfl) (fun _ _ _ h => h) (Or.inl ⟨by rfl, ?_⟩) ?_ ?_
   rotate_left
   ·intro w'
    go_simp
    with_reducible rfl
   rotate_left
   ·simp only [Act.put, lA, lB, lC, aQ, aT]
    rfl
   refine aU (i := 3) (N := some 67) (v := ?_) (a' := ?_) #[true, true, true, true, false, false, false, false, false, false, false, false, false, false, false, false, false, false, false, false, false, false, false, false, false, false, false, false, false, false, false, false, false, false, false, false, false, false, false, false, false, false] rfl rfl (by kernel_rfl) (fun _ _ _ h => h) (Or.inl ⟨by rfl, ?_⟩) ?_ ?_
   rotate_left
   ·intro w'
    go_simp
    with_reducible rfl
   rotate_left
   ·simp only [Act.put, lA, lB, lC, aQ, aT]
    rfl
   refine aU (i := 4) (N := some 68) (v := ?_) (a' := ?_) #[true, true, true, true, true, false, false, false, false, false, false, false, false, false, false, false, false, false, false, false, false, false, false, false, false, false, false, false, false, false, false, false, false, false, false, false, false, false, false, false, false, false] rfl rfl (by kernel_rfl) (fun _ _ _ h => h) (Or.inl ⟨by rfl, ?_⟩) ?_ ?_
   rotate_left
   ·intro w'
    go_simp
    with_reducible rfl
   rotate_left
   ·simp only [Act.put, lA, lB, lC, aQ, aT]
    rfl
   refine take_ (i := 5) (N := some 69) (v := ?_) (a' := ?_) #[true, true, true, true, true, true, false, false, false, false, false, false, false, false, false, false, false, false, false, false, false, false, false, false, false, false, false, false, false, false, false, false, false, false, false, false, false, false, false, false, false, false] rfl rfl (by kernel_rfl) (fun _ _ _ h => h) (Or.inl ⟨by rfl, ?_⟩) hHeld ?_ ?_
   rotate_left
   ·rintro w' ⟨s0, s1, s2, s3, s4, s5, s6, s7, s8, s9, s10, s11, s12, s13, s14⟩
    go_simp
    with_reducible rfl
   rotate_left
   ·simp only [Act.put, lA, lB, lC, aQ, aT]
    rfl
   refine take_ (i := 6) (N := some 70) (v := ?_) (a' := ?_) #[true, true, true, true, true, true, true, false, false, false, false, false, false, false, false, false, false, false, false, false, false, false, false, false, false, false, false, false, false, false, false, false, false, false, false, false, false, false, false, false, false, false] rfl rfl (by kernel_rfl) (fun _ _ _ h => h) (Or.inl ⟨by rfl, ?_⟩) hHeld ?_ ?_
   rotate_left
   ·rintro w' ⟨s0, s1, s2, s3, s4, s5, s6, s7, s8, s9, s10, s11, s12, s13, s14⟩
    go_simp
    with_reducible rfl
   rotate_left
   ·simp only [Act.put, lA, lB, lC, aQ, aT]
    rfl
   refine aU (i := 7) (N := some 71) (v := ?_) (a' := ?_) #[true, true, true, true, true, true, true, true, false, false, false, false, false, false, false, false, false, false, false, false, false, false, false, false, false, false, false, false, false, false, false, false, false, false, false, false, false, false, false, false, false, false] rfl rfl (by kernel_rfl) (fun _ _ _ h => h) (Or.inl ⟨by rfl, ?_⟩) ?_ ?_
   rotate_left
   ·intro w'
    go_simp
    with_reducible rfl
   rotate_left
   ·simp only [Act.put, lA, lB, lC, aQ, aT]
    rfl
   refine aU (i := 8) (N := some 72) (v := ?_) (a' := ?_) #[true, true, true, true, true, true, true, true, true, false, false, false, false, false, false, false, false, false, false, false, false, false, false, false, false, false, false, false, false, false, false, false, false, false, false, false, false, false, false, false, false, false] rfl rfl (by kernel_rfl) (fun _ _ _ h => h) (Or.inl ⟨by rfl, ?_⟩) ?_ ?_
   rotate_left
   ·intro w'
    go_simp
    with_reducible rfl
   rotate_left
   ·simp only [Act.put, lA, lB, lC, aQ, aT]
    rfl
   refine aU (i := 9) (N := some 73) (v := ?_) (a' := ?_) #[true, true, true, true, true, true, true, true, true, true, false, false, false, false, false, false, false, false, false, false, false, false, false, false, false, false, false, false, false, false, false, false, false, false, false, false, false, false, false, false, false, false] rfl rfl (by kernel_rfl) (fun _ _ _ h => h) (Or.inl ⟨by rfl, ?_⟩) ?_ ?_
   rotate_left
   ·intro w'
    go_simp
    with_reducible rfl
   rotate_left
   ·simp only [Act.put, lA, lB, lC, aQ, aT]
    rfl
   refine aU (i := 10) (N := some 74) (v := ?_) (a' := ?_) #[true, true, true, true, true, true, true, true, true, true, true, false, false, false, false, false, false, false, false, false, false, false, false, false, false, false, false, false, false, false, false, false, false, false, false, false, false, false, false, false, false, false] rfl rfl (by kernel_rfl) (fun _ _ _ h => h) (Or.inl ⟨by rfl, ?_⟩) ?_ ?_
   rotate_left
   ·intro w'
    go_simp
    with_reducible rfl
   rotate_left
   ·simp only [Act.put, lA, lB, lC, aQ, aT]
    rfl
   refine aU (i := 11) (N := some 75) (v := ?_) (a' := ?_) #[true, true, true, true, true, true, true, true, true, true, true, true, false, false, false, false, false, false, false, false, false, false, false, false, false, false, false, false, false, false, false, false, false, false, false, false, false, false, false, false, false, false] rfl rfl (by kernel_rfl) (fun _ _ _ h => h) (Or.inl ⟨by rfl, ?_⟩) ?_ ?_
   rotate_left
   ·intro w'
    go_simp
    with_reducible rfl
   rotate_left
   ·simp only [Act.put, lA, lB, lC, aQ, aT]
    rfl
   refine aU (i := 12) (N := some 76) (v := ?_) (a' := ?_) #[true, true, true, true, true, true, true, true, true, true, true, true, true, false, false, false, false, false, false, false, false, false, false, false, false, false, false, false, false, false, false, false, false, false, false, false, false, false, false, false, false, false] rfl rfl (by kernel_rfl) (fun _ _ _ h => h) (Or.inl ⟨by rfl, ?_⟩) ?_ ?_
   rotate_left
   ·intro w'
    go_simp
    with_reducible rfl
   rotate_left
   ·simp only [Act.put, lA, lB, lC, aQ, aT]
    rfl
   refine aU (i := 13) (N := some 77) (v := undef) (a' := ?_) #[true, true, true, true, true, true, true, true, true, true, true, true, true, true, false, false, false, false, false, false, false, false, false, false, false, false, false, false, false, false, false, false, false, false, false, false, false, false, false, false, false, false] rfl rfl (by kernel_rfl) (fun _ _ _ h => h) (Or.inr ⟨by rfl, rfl⟩) ?_ ?_
   rotate_left
   ·simp only [Act.put, lA, lB, lC, aQ, aT]
    rfl
   refine aU (i := 14) (N := some 78) (v := undef) (a' := ?_) #[true, true, true, true, true, true, true, true, true, true, true, true, true, true, true, false, false, false, false, false, false, false, false, false, false, false, false, false, false, false, false, false, false, false, false, false, false, false, false, false, false, false] rfl rfl (by kernel_rfl) (fun _ _ _ h => h) (Or.inr ⟨by rfl, rfl⟩) ?_ ?_
   rotate_left
   ·simp only [Act.put, lA, lB, lC, aQ, aT]
    rfl
   refine aU (i := 15) (N := some 79) (v := undef) (a' := ?_) #[true, true, true, true, true, true, true, true, true, true, true, true, true, true, true, true, false, false, false, false, false, false, false, false, false, false, false, false, false, false, false, false, false, false, false, false, false, false, false, false, false, false] rfl rfl (by kernel_rfl) (fun _ _ _ h => h) (Or.inr ⟨by rfl, rfl⟩) ?_ ?_
   rotate_left
   ·simp only [Act.put, lA, lB, lC, aQ, aT]
    rfl
   refine aU (i := 16) (N := some 80) (v := undef) (a' := ?_) #[true, true, true, true, true, true, true, true, true, true, true, true, true, true, true, true, true, false, false, false, false, false, false, false, false, false, false, false, false, false, false, false, false, false, false, false, false, false, false, false, false, false] rfl rfl (by kernel_rfl) (fun _ _ _ h => h) (Or.inr ⟨by rfl, rfl⟩) ?_ ?_
   rotate_left
   ·simp only [Act.put, lA, lB, lC, aQ, aT]
    rfl
   refine aU (i := 17) (N := some 81) (v := undef) (a' := ?_) #[true, true, true, true, true, true, true, true, true, true, true, true, true, true, true, true, true, true, false, false, false, false, false, false, false, false, false, false, false, false, false, false, false, false, false, false, false, false, false, false, false, false] rfl rfl (by kernel_rfl) (fun _ _ _ h => h) (Or.inr ⟨by rfl, rfl⟩) ?_ ?_
   rotate_left
   ·simp only [Act.put, lA, lB, lC, aQ, aT]
    rfl
   refine aU (i := 18) (N := some 82) (v := undef) (a' := ?_) #[true, true, true, true, true, true, true, true, true, true, true, true, true, true, true, true, true, true, true, false, false, false, false, false, false, false, false, false, false, false, false, false, false, false, false, false, false, false, false, false, false, false] rfl rfl (by kernel_rfl) (fun _ _ _ h => h) (Or.inr ⟨by rfl, rfl⟩) ?_ ?_
   rotate_left
   ·simp only [Act.put, lA, lB, lC, aQ, aT]
    rfl
   refine aU (i := 19) (N := some 83) (v := undef) (a' := ?_) #[true, true, true, true, true, true, true, true, true, true, true, true, true, true, true, true, true, true, true, true, false, false, false, false, false, false, false, false, false, false, false, false, false, false, false, false, false, false, false, false, false, false] rfl rfl (by kernel_rfl) (fun _ _ _ h => h) (Or.inr ⟨by rfl, rfl⟩) ?_ ?_
   rotate_left
   ·simp only [Act.put, lA, lB, lC, aQ, aT]
    rfl
   refine aU (i := 20) (N := some 84) (v := undef) (a' := ?_) #[true, true, true, true, true, true, true, true, true, true, true, true, true, true, true, true, true, true, true, true, true, false, false, false, false, false, false, false, false, false, false, false, false, false, false, false, false, false, false, false, false, false] rfl rfl (by kernel_rfl) (fun _ _ _ h => h) (Or.inr ⟨by rfl, rfl⟩) ?_ ?_
   rotate_left
   ·simp only [Act.put, lA, lB, lC, aQ, aT]
    rfl
   refine aU (i := 21) (N := some 85) (v := undef) (a' := ?_) #[true, true, true, true, true, true, true, true, true, true, true, true, true, true, true, true, true, true, true, true, true, true, false, false, false, false, false, false, false, false, false, false, false, false, false, false, false, false, false, false, false, false] rfl rfl (by kernel_rfl) (fun _ _ _ h => h) (Or.inr ⟨by rfl, rfl⟩) ?_ ?_
   rotate_left
   ·simp only [Act.put, lA, lB, lC, aQ, aT]
    rfl
   refine aU (i := 22) (N := some 86) (v := undef) (a' := ?_) #[true, true, true, true, true, true, true, true, true, true, true, true, true, true, true, true, true, true, true, true, true, true, true, false, false, false, false, false, false, false, false, false, false, false, false, false, false, false, false, false, false, false] rfl rfl (by kernel_rfl) (fun _ _ _ h => h) (Or.inr ⟨by rfl, rfl⟩) ?_ ?_
   rotate_left
   ·simp only [Act.put, lA, lB, lC, aQ, aT]
    rfl
   refine aU (i := 23) (N := some 87) (v := ?_) (a' := ?_) #[true, true, true, true, true, true, true, true, true, true, true, true, true, true, true, true, true, true, true, true, true, true, true, true, false, false, false, false, false, false, false, false, false, false, false, false, false, false, false, false, false, false] rfl rfl (by kernel_rfl) (fun _ _ _ h => h) (Or.inl ⟨by rfl, ?_⟩) ?_ ?_
   rotate_left
   ·intro w'
    go_simp
    with_reducible rfl
   rotate_left
   ·simp only [Act.put, lA, lB, lC, aQ, aT]
    rfl
   refine aU (i := 24) (N := some 88) (v := ?_) (a' := ?_) #[true, true, true, true, true, true, true, true, true, true, true, true, true, true, true, true, true, true, true, true, true, true, true, true, true, false, false, false, false, false, false, false, false, false, false, false, false, false, false, false, false, false] rfl rfl (by kernel_rfl) (fun _ _ _ h => h) (Or.inl ⟨by rfl, ?_⟩) ?_ ?_
   rotate_left
   ·intro w'
    go_simp
    with_reducible rfl
   rotate_left
   ·simp only [Act.put, lA, lB, lC, aQ, aT]
    rfl
   refine aU (i := 25) (N := some 89) (v := ?_) (a' := ?_) #[true, true, true, true, true, true, true, true, true, true, true, true, true, true, true, true, true, true, true, true, true, true, true, true, true, true, false, false, false, false, false, false, false, false, false, false, false, false, false, false, false, false] rfl rfl (by kernel_rfl) (fun _ _ _ h => h) (Or.inl ⟨by rfl, ?_⟩) ?_ ?_
   rotate_left
   ·intro w'
    go_simp
    with_reducible rfl
   rotate_left
   ·simp only [Act.put, lA, lB, lC, aQ, aT]
    rfl
   refine aU (i := 26) (N := some 90) (v := ?_) (a' := ?_) #[true, true, true, true, true, true, true, true, true, true, true, true, true, true, true, true, true, true, true, true, true, true, true, true, true, true, true, false, false, false, false, false, false, false, false, false, false, false, false, false, false, false] rfl rfl (by kernel_rfl) (fun _ _ _ h => h) (Or.inl ⟨by rfl, ?_⟩) ?_ ?_
   rotate_left
   ·intro w'
    go_simp
    with_reducible rfl
   rotate_left
   ·simp only [Act.put, lA, lB, lC, aQ, aT]
    rfl
   refine aU (i := 27) (N := some 91) (v := ?_) (a' := ?_) #[true, true, true, true, true, true, true, true, true, true, true, true, true, true, true, true, true, true, true, true, true, true, true, true, true, true, true, true, false, false, false, false, false, false, false, false, false, false, false, false, false, false] rfl rfl (by kernel_rfl) (fun _ _ _ h => h) (Or.inl ⟨by rfl, ?_⟩) ?_ ?_
   rotate_left
   ·intro w'
    go_simp
    with_reducible rfl
   rotate_left
   ·simp only [Act.put, lA, lB, lC, aQ, aT]
    rfl
   refine aU (i := 28) (N := some 92) (v := ?_) (a' := ?_) #[true, true, true, true, true, true, true, true, true, true, true, true, true, true, true, true, true, true, true, true, true, true, true, true, true, true, true, true, true, false, false, false, false, false, false, false, false, false, false, false, false, false] rfl rfl (by kernel_rfl) (fun _ _ _ h => h) (Or.inl ⟨by rfl, ?_⟩) ?_ ?_
   rotate_left
   ·intro w'
    go_simp
    with_reducible rfl
   rotate_left
   ·simp only [Act.put, lA, lB, lC, aQ, aT]
    rfl
   refine aU (i := 29) (N := some 93) (v := undef) (a' := ?_) #[true, true, true, true, true, true, true, true, true, true, true, true, true, true, true, true, true, true, true, true, true, true, true, true, true, true, true, true, true, true, false, false, false, false, false, false, false, false, false, false, false, false] rfl rfl (by kernel_rfl) (fun _ _ _ h => h) (Or.inr ⟨by rfl, rfl⟩) ?_ ?_
   rotate_left
   ·simp only [Act.put, lA, lB, lC, aQ, aT]
    rfl
   refine aU (i := 30) (N := some 94) (v := undef) (a' := ?_) #[true, true, true, true, true, true, true, true, true, true, true, true, true, true, true, true, true, true, true, true, true, true, true, true, true, true, true, true, true, true, true, false, false, false, false, false, false, false, false, false, false, false] rfl rfl (by kernel_rfl) (fun _ _ _ h => h) (Or.inr ⟨by rfl, rfl⟩) ?_ ?_
   rotate_left
   ·simp only [Act.put, lA, lB, lC, aQ, aT]
    rfl
   refine aU (i := 31) (N := some 95) (v := undef) (a' := ?_) #[true, true, true, true, true, true, true, true, true, true, true, true, true, true, true, true, true, true, true, true, true, true, true, true, true, true, true, true, true, true, true, true, false, false, false, false, false, false, false, false, false, false] rfl rfl (by kernel_rfl) (fun _ _ _ h => h) (Or.inr ⟨by rfl, rfl⟩) ?_ ?_
   rotate_left
   ·simp only [Act.put, lA, lB, lC, aQ, aT]
    rfl
   refine aU (i := 32) (N := some 96) (v := undef) (a' := ?_) #[true, true, true, true, true, true, true, true, true, true, true, true, true, true, true, true, true, true, true, true, true, true, true, true, true, true, true, true, true, true, true, true, true, false, false, false, false, false, false, false, false, false] rfl rfl (by kernel_rfl) (fun _ _ _ h => h) (Or.inr ⟨by rfl, rfl⟩) ?_ ?_
   rotate_left
   ·simp only [Act.put, lA, lB, lC, aQ, aT]
    rfl
   refine aU (i := 33) (N := some 97) (v := undef) (a' := ?_) #[true, true, true, true, true, true, true, true, true, true, true, true, true, true, true, true, true, true, true, true, true, true, true, true, true, true, true, true, true, true, true, true, true, true, false, false, false, false, false, false, false, false] rfl rfl (by kernel_rfl) (fun _ _ _ h => h) (Or.inr ⟨by rfl, rfl⟩) ?_ ?_
   rotate_left
   ·simp only [Act.put, lA, lB, lC, aQ, aT]
    rfl
   refine aU (i := 34) (N := some 98) (v := undef) (a' := ?_) #[true, true, true, true, true, true, true, true, true, true, true, true, true, true, true, true, true, true, true, true, true, true, true, true, true, true, true, true, true, true, true, true, true, true, true, false, false, false, false, false, false, false] rfl rfl (by kernel_rfl) (fun _ _ _ h => h) (Or.inr ⟨by rfl, rfl⟩) ?_ ?_
   rotate_left
   ·simp only [Act.put, lA, lB, lC, aQ, aT]
    rfl
   refine aU (i := 35) (N := some 99) (v := undef) (a' := ?_) #[true, true, true, true, true, true, true, true, true, true, true, true, true, true, true, true, true, true, true, true, true, true, true, true, true, true, true, true, true, true, true, true, true, true, true, true, false, false, false, false, false, false] rfl rfl (by kernel_rfl) (fun _ _ _ h => h) (Or.inr ⟨by rfl, rfl⟩) ?_ ?_
   rotate_left
   ·simp only [Act.put, lA, lB, lC, aQ, aT]
    rfl
   refine aU (i := 36) (N := some 100) (v := undef) (a' := ?_) #[true, true, true, true, true, true, true, true, true, true, true, true, true, true, true, true, true, true, true, true, true, true, true, true, true, true, true, true, true, true, true, true, true, true, true, true, true, false, false, false, false, false] rfl rfl (by kernel_rfl) (fun _ _ _ h => h) (Or.inr ⟨by rfl, rfl⟩) ?_ ?_
   rotate_left
   ·simp only [Act.put, lA, lB, lC, aQ, aT]
    rfl
   refine aU (i := 37) (N := some 101) (v := undef) (a' := ?_) #[true, true, true, true, true, true, true, true, true, true, true, true, true, true, true, true, true, true, true, true, true, true, true, true, true, true, true, true, true, true, true, true, true, true, true, true, true, true, false, false, false, false] rfl rfl (by kernel_rfl) (fun _ _ _ h => h) (Or.inr ⟨by rfl, rfl⟩) ?_ ?_
   rotate_left
   ·simp only [Act.put, lA, lB, lC, aQ, aT]
    rfl
   refine aU (i := 38) (N := some 102) (v := undef) (a' := ?_) #[true, true, true, true, true, true, true, true, true, true, true, true, true, true, true, true, true, true, true, true, true, true, true, true, true, true, true, true, true, true, true, true, true, true, true, true, true, true, true, false, false, false] rfl rfl (by kernel_rfl) (fun _ _ _ h => h) (Or.inr ⟨by rfl, rfl⟩) ?_ ?_
   rotate_left
   ·simp only [Act.put, lA, lB, lC, aQ, aT]
    rfl
   refine aU (i := 39) (N := some 103) (v := undef) (a' := ?_) #[true, true, true, true, true, true, true, true, true, true, true, true, true, true, true, true, true, true, true, true, true, true, true, true, true, true, true, true, true, true, true, true, true, true, true, true, true, true, true, true, false, false] rfl rfl (by kernel_rfl) (fun _ _ _ h => h) (Or.inr ⟨by rfl, rfl⟩) ?_ ?_
   rotate_left
   ·simp only [Act.put, lA, lB, lC, aQ, aT]
    rfl
   refine aU (i := 40) (N := some 104) (v := ?_) (a' := ?_) #[true, true, true, true, true, true, true, true, true, true, true, true, true, true, true, true, true, true, true, true, true, true, true, true, true, true, true, true, true, true, true, true, true, true, true, true, true, true, true, true, true, false] rfl rfl (by kernel_rfl) (fun _ _ _ h => h) (Or.inl ⟨by rfl, ?_⟩) ?_ ?_
   rotate_left
   ·intro w'
    go_simp
    with_reducible rfl
   rotate_left
   ·simp only [Act.put, lA, lB, lC, aQ, aT]
    rfl
   refine aU (i := 41) (N := some 105) (v := ?_) (a' := ?_) #[true, true, true, true, true, true, true, true, true, true, true, true, true, true, true, true, true, true, true, true, true, true, true, true, true, true, true, true, true, true, true, true, true, true, true, true, true, true, true, true, true, true] rfl rfl (by kernel_rfl) (fun _ _ _ h => h) (Or.inl ⟨by rfl, ?_⟩) ?_ ?_
   rotate_left
   ·intro w'
    go_simp
    with_reducible rfl
   rotate_left
   ·simp only [Act.put, lA, lB, lC, aQ, aT]
    rfl
   refine done_ (by kernel_rfl) ?_
   have hzgb12_0_23 : w23.cell? ⟨gb12, 0, none⟩ = some (.int .i64 p0) := (aC BK12.out 0).trans rfl
   have hygb12_0_23 := aD BK12.out 0
   have hzgb12_1_23 : w23.cell? ⟨gb12, 1, none⟩ = some (.int .i64 p1) := (aC BK12.out 1).trans rfl
   have hygb12_1_23 := aD BK12.out 1
   have hzgb12_2_23 : w23.cell? ⟨gb12, 2, none⟩ = some (.int .i64 p2) := (aC BK12.out 2).trans rfl
   have hygb12_2_23 := aD BK12.out 2
   have hzgb12_3_23 : w23.cell? ⟨gb12, 3, none⟩ = some (.int .i64 p3) := (aC BK12.out 3).trans rfl
   have hygb12_3_23 := aD BK12.out 3
   have hzgb12_4_23 : w23.cell? ⟨gb12, 4, none⟩ = some (.int .i64 p4) := (aC BK12.out 4).trans rfl
   have hygb12_4_23 := aD BK12.out 4
   have hzgb20_0_23 : w23.cell? ⟨gb20, 0, none⟩ = some (.int .i64 ((rd_T27 m x5).f0)) := (aC BK20.out 0).trans rfl
   have hygb20_0_23 := aD BK20.out 0
   have hzgb20_1_23 : w23.cell? ⟨gb20, 1, none⟩ = some (.int .i64 ((rd_T27 m x5).f1)) := (aC BK20.out 1).trans rfl
   have hygb20_1_23 := aD BK20.out 1
   have hzgb20_2_23 : w23.cell? ⟨gb20, 2, none⟩ = some (.int .i64 ((rd_T27 m x5).f2)) := (aC BK20.out 2).trans rfl
   have hygb20_2_23 := aD BK20.out 2
   have hzgb20_3_23 : w23.cell? ⟨gb20, 3, none⟩ = some (.int .i64 ((rd_T27 m x5).f3)) := (aC BK20.out 3).trans rfl
   have hygb20_3_23 := aD BK20.out 3
   have hzgb20_4_23 : w23.cell? ⟨gb20, 4, none⟩ = some (.int .i64 ((rd_T27 m x5).f4)) := (aC BK20.out 4).trans rfl
   have hygb20_4_23 := aD BK20.out 4
   try go_wp2
   go_roundg k1
   case measure => omega
   case rel => exact ⟨i5 + 1, _, rfl, ⟨show _ = ((i5 + 1 : Nat) : Int) by have := HI5.out; have hm_ := HML.out; have := HK5.out; first | (rw [w64 (by omega) (by omega)]; omega) | omega⟩, ⟨by have := HK5.out; omega⟩, ⟨Nat.le_trans (by have o_ := HORD.out; omega) HT.out⟩, HF0, HF2_0, HS2_0, HF2_1, HS2_1, HF3_0, HS3_0, HF4_0, HS4_0, HB⟩
  ·clear hse_
   obtain ⟨rfl, rfl, rfl, rfl, rfl, rfl⟩ := h3_
   have hi0_ : 0 < i5 := h_
   have hgt_ : decide (0 < x5) = true := decide_eq_true (by have := HI5.out; omega)
   obtain ⟨jm5, hjm_⟩ : ∃ j_ : Int, wrap64 (x5 - 1) = j_ := ⟨_, rfl⟩
   have hjmw_ : IntKind.i64.wrap (x5 - 1) = jm5 := (aQ _).trans hjm_
   have hjv_ : jm5 = x5 - 1 := (by rw [← hjm_]; exact w64 (by have := HI5.out; omega) (by have := HI5.out; have := HK5.out; have := HML.out; omega))
   have hpj_ : 0 ≤ jm5 := (by have := HI5.out; omega)
   have hqj_ : jm5 < (m.length : Int) := (by omega)
   have hl_ := RL0.out hi0_
   rw [hjm_] at hl_
   have RL := aA.mk hl_
   clear h_ hi0_ hjv_ hl_ RL0 hjm_
   have hzgb12_0_23 : w21.cell? ⟨gb12, 0, none⟩ = some (.int .i64 p0) := (aC BK12.out 0).trans rfl
   have hygb12_0_23 := aD BK12.out 0
   have hzgb12_1_23 : w21.cell? ⟨gb12, 1, none⟩ = some (.int .i64 p1) := (aC BK12.out 1).trans rfl
   have hygb12_1_23 := aD BK12.out 1
   have hzgb12_2_23 : w21.cell? ⟨gb12, 2, none⟩ = some (.int .i64 p2) := (aC BK12.out 2).trans rfl
   have hygb12_2_23 := aD BK12.out 2
   have hzgb12_3_23 : w21.cell? ⟨gb12, 3, none⟩ = some (.int .i64 p3) := (aC BK12.out 3).trans rfl
   have hygb12_3_23 := aD BK12.out 3
   have hzgb12_4_23 : w21.cell? ⟨gb12, 4, none⟩ = some (.int .i64 p4) := (aC BK12.out 4).trans rfl
   have hygb12_4_23 := aD BK12.out 4
   have hzgb20_0_23 : w21.cell? ⟨gb20, 0, none⟩ = some (.int .i64 ((rd_T27 m x5).f0)) := (aC BK20.out 0).trans rfl
   have hygb20_0_23 := aD BK20.out 0
   have hzgb20_1_23 : w21.cell? ⟨gb20, 1, none⟩ = some (.int .i64 ((rd_T27 m x5).f1)) := (aC BK20.out 1).trans rfl
   have hygb20_1_23 := aD BK20.out 1
   have hzgb20_2_23 : w21.cell? ⟨gb20, 2, none⟩ = some (.int .i64 ((rd_T27 m x5).f2)) := (aC BK20.out 2).trans rfl
   have hygb20_2_23 := aD BK20.out 2
   have hzgb20_3_23 : w21.cell? ⟨gb20, 3, none⟩ = some (.int .i64 ((rd_T27 m x5).f3)) := (aC BK20.out 3).trans rfl
   have hygb20_3_23 := aD BK20.out 3
   have hzgb20_4_23 : w21.cell? ⟨gb20, 4, none⟩ = some (.int .i64 ((rd_T27 m x5).f4)) := (aC BK20.out 4).trans rfl
   have hygb20_4_23 := aD BK20.out 4
   try go_wp2
   obtain ⟨ad24, ee24, hx24_0, hx24_1, hx24_2, hx24_3, hx24_4⟩ := at_T27 (Kd.F_now HF3_0.out) x5 hp_ hq_
   obtain rfl := Option.some.inj ee24
   have HX24_0 := aA.mk hx24_0
   have HX24_1 := aA.mk hx24_1
   have HX24_2 := aA.mk hx24_2
   have HX24_3 := aA.mk hx24_3
   have HX24_4 := aA.mk hx24_4
   obtain ⟨ad25, ee25, hx25_0, hx25_1, hx25_2, hx25_3, hx25_4⟩ := at_T27 (Kd.F_now HF3_0.out) jm5 hpj_ hqj_
   obtain rfl := Option.some.inj ee25
   have HX25_0 := aA.mk hx25_0
   have HX25_1 := aA.mk hx25_1
   have HX25_2 := aA.mk hx25_2
   have HX25_3 := aA.mk hx25_3
   have HX25_4 := aA.mk hx25_4
   have n_ := aA.mk (Kd.F_drew HF0.out)
   clear HF0
   have HF0 := n_
   clear n_
   have n_ := aA.mk (Kd.F_drew HF2_0.out)
   clear HF2_0
   have HF2_0 := n_
   clear n_
   have n_ := aA.mk (Kd.aY HS2_0.out)
   clear HS2_0
   have HS2_0 := n_
   clear n_
   have n_ := aA.mk (Kd.F_drew HF2_1.out)
   clear HF2_1
   have HF2_1 := n_
   clear n_
   have n_ := aA.mk (Kd.aY HS2_1.out)
   clear HS2_1
   have HS2_1 := n_
   clear n_
   have n_ := aA.mk (Kd.F_drew HF3_0.out)
   clear HF3_0
   have HF3_0 := n_
   clear n_
   have n_ := aA.mk (Kd.aY HS3_0.out)
   clear HS3_0
   have HS3_0 := n_
   clear n_
   have n_ := aA.mk (Kd.F_drew HF4_0.out)
   clear HF4_0
   have HF4_0 := n_
   clear n_
   have n_ := aA.mk (Kd.aY HS4_0.out)
   clear HS4_0
   have HS4_0 := n_
   clear n_
   have n_ := aA.mk (aM BK12.out)
   clear BK12
   have BK12 := n_
   clear n_
   have n_ := aA.mk (aM BK20.out)
   clear BK20
   have BK20 := n_
   clear n_
   have n_ := aA.mk (aG HB.out)
   clear HB
   have HB := n_
   clear n_
   have n_ := aA.mk (show _ ≤ w21.drew.heap.size from HT.out)
   clear HT
   have HT := n_
   clear n_
   have n_ := aA.mk (show w21.drew.cell? (ad6.add (x5.toNat * 5)) = some (.int .i64 (rd_T27 m x5).f0) from HX24_0.out)
   clear HX24_0
   have HX24_0 := n_
   clear n_
   have n_ := aA.mk (show w21.drew.cell? ⟨(ad6.add (x5.toNat * 5)).block, (ad6.add (x5.toNat * 5)).off + 1, none⟩ = some (.int .i64 (rd_T27 m x5).f1) from HX24_1.out)
   clear HX24_1
   have HX24_1 := n_
   clear n_
   have n_ := aA.mk (show w21.drew.cell? ⟨(ad6.add (x5.toNat * 5)).block, (ad6.add (x5.toNat * 5)).off + 2, none⟩ = some (.int .i64 (rd_T27 m x5).f2) from HX24_2.out)
   clear HX24_2
   have HX24_2 := n_
   clear n_
   have n_ := aA.mk (show w21.drew.cell? ⟨(ad6.add (x5.toNat * 5)).block, (ad6.add (x5.toNat * 5)).off + 3, none⟩ = some (.int .i64 (rd_T27 m x5).f3) from HX24_3.out)
   clear HX24_3
   have HX24_3 := n_
   clear n_
   have n_ := aA.mk (show w21.drew.cell? ⟨(ad6.add (x5.toNat * 5)).block, (ad6.add (x5.toNat * 5)).off + 4, none⟩ = some (.int .i64 (rd_T27 m x5).f4) from HX24_4.out)
   clear HX24_4
   have HX24_4 := n_
   clear n_
   have n_ := aA.mk (show w21.drew.cell? (ad6.add (jm5.toNat * 5)) = some (.int .i64 (rd_T27 m jm5).f0) from HX25_0.out)
   clear HX25_0
   have HX25_0 := n_
   clear n_
   have n_ := aA.mk (show w21.drew.cell? ⟨(ad6.add (jm5.toNat * 5)).block, (ad6.add (jm5.toNat * 5)).off + 1, none⟩ = some (.int .i64 (rd_T27 m jm5).f1) from HX25_1.out)
   clear HX25_1
   have HX25_1 := n_
   clear n_
   have n_ := aA.mk (show w21.drew.cell? ⟨(ad6.add (jm5.toNat * 5)).block, (ad6.add (jm5.toNat * 5)).off + 2, none⟩ = some (.int .i64 (rd_T27 m jm5).f2) from HX25_2.out)
   clear HX25_2
   have HX25_2 := n_
   clear n_
   have n_ := aA.mk (show w21.drew.cell? ⟨(ad6.add (jm5.toNat * 5)).block, (ad6.add (jm5.toNat * 5)).off + 3, none⟩ = some (.int .i64 (rd_T27 m jm5).f3) from HX25_3.out)
   clear HX25_3
   have HX25_3 := n_
   clear n_
   have n_ := aA.mk (show w21.drew.cell? ⟨(ad6.add (jm5.toNat * 5)).block, (ad6.add (jm5.toNat * 5)).off + 4, none⟩ = some (.int .i64 (rd_T27 m jm5).f4) from HX25_4.out)
   clear HX25_4
   have HX25_4 := n_
   clear n_
   refine start_ (n := 42) (S := fun w' => w'.cell? ⟨gb20, 0, none⟩ = some (.int .i64 ((rd_T27 m x5).f0)) ∧ w'.cell? ⟨gb20, 1, none⟩ = some (.int .i64 ((rd_T27 m x5).f1)) ∧ w'.cell? ⟨gb20, 2, none⟩ = some (.int .i64 ((rd_T27 m x5).f2)) ∧ w'.cell? ⟨gb20, 3, none⟩ = some (.int .i64 ((rd_T27 m x5).f3)) ∧ w'.cell? ⟨gb20, 4, none⟩ = some (.int .i64 ((rd_T27 m x5).f4)) ∧ w'.cell? ⟨gb12, 0, none⟩ = some (.int .i64 p0) ∧ w'.cell? ⟨gb12, 1, none⟩ = some (.int .i64 p1) ∧ w'.cell? ⟨gb12, 2, none⟩ = some (.int .i64 p2) ∧ w'.cell? ⟨gb12, 3, none⟩ = some (.int .i64 p3) ∧ w'.cell? ⟨gb12, 4, none⟩ = some (.int .i64 p4) ∧ w'.cell? (ad6.add (x5.toNat * 5)) = some (.int .i64 (rd_T27 m x5).f0) ∧ w'.cell? ⟨(ad6.add (x5.toNat * 5)).block, (ad6.add (x5.toNat * 5)).off + 1, none⟩ = some (.int .i64 (rd_T27 m x5).f1) ∧ w'.cell? ⟨(ad6.add (x5.toNat * 5)).block, (ad6.add (x5.toNat * 5)).off + 2, none⟩ = some (.int .i64 (rd_T27 m x5).f2) ∧ w'.cell? ⟨(ad6.add (x5.toNat * 5)).block, (ad6.add (x5.toNat * 5)).off + 3, none⟩ = some (.int .i64 (rd_T27 m x5).f3) ∧ w'.cell? ⟨(ad6.add (x5.toNat * 5)).block, (ad6.add (x5.toNat * 5)).off + 4, none⟩ = some (.int .i64 (rd_T27 m x5).f4) ∧ w'.cell? (ad6.add (jm5.toNat * 5)) = some (.int .i64 (rd_T27 m jm5).f0) ∧ w'.cell? ⟨(ad6.add (jm5.toNat * 5)).block, (ad6.add (jm5.toNat * 5)).off + 1, none⟩ = some (.int .i64 (rd_T27 m jm5).f1) ∧ w'.cell? ⟨(ad6.add (jm5.toNat * 5)).block, (ad6.add (jm5.toNat * 5)).off + 2, none⟩ = some (.int .i64 (rd_T27 m jm5).f2) ∧ w'.cell? ⟨(ad6.add (jm5.toNat * 5)).block, (ad6.add (jm5.toNat * 5)).off + 3, none⟩ = some (.int .i64 (rd_T27 m jm5).f3) ∧ w'.cell? ⟨(ad6.add (jm5.toNat * 5)).block, (ad6.add (jm5.toNat * 5)).off + 4, none⟩ = some (.int .i64 (rd_T27 m jm5).f4)) (ds := []) #[false, false, false, false, false, false, false, false, false, false, false, false, false, false, false, false, false, false, false, false, false, false, false, false, false, false, false, false, false, false, false, false, false, false, false, false, false, false, false, false, false, false] (by kernel_rfl) rfl rfl ⟨(aC BK20.out 0).trans rfl, (aC BK20.out 1).trans rfl, (aC BK20.out 2).trans rfl, (aC BK20.out 3).trans rfl, (aC BK20.out 4).trans rfl, (aC BK12.out 0).trans rfl, (aC BK12.out 1).trans rfl, (aC BK12.out 2).trans rfl, (aC BK12.out 3).trans rfl, (aC BK12.out 4).trans rfl, HX24_0.out, HX24_1.out, HX24_2.out, HX24_3.out, HX24_4.out, HX25_0.out, HX25_1.out, HX25_2.out, HX25_3.out, HX25_4.out⟩ (fun hHeld => ?_)
   generalize w21.drew = w26 at HF0 HF2_0 HS2_0 HF2_1 HS2_1 HF3_0 HS3_0 HF4_0 HS4_0 BK12 BK20 HB HT HX24_0 HX24_1 HX24_2 HX24_3 HX24_4 HX25_0 HX25_1 HX25_2 HX25_3 HX25_4 hHeld ⊢
   refine aU (i := 0) (N := some 64) (v := ?_) (a' := ?_) #[true, false, false, false, false, false, false, false, false, false, false, false, false, false, false, false, false, false, false, false, false, false, false, false, false, false, false, false, false, false, false, false, false, false, false, false, false, false, false, false, false, false] rfl rfl (by kernel_rfl) (fun _ _ _ h => h) (Or.inl ⟨by rfl, ?_⟩) ?_ ?_
   rotate_left
   ·intro w'
    go_simp
    with_reducible rfl
   rotate_left
   ·simp only [Act.put, lA, lB, lC, aQ, aT]
    rfl
   refine aU (i := 1) (N := some 65) (v := ?_) (a' := ?_) #[true, true, false, false, false, false, false, false, false, false, false, false, false, false, false, false, false, false, false, false, false, false, false, false, false, false, false, false, false, false, false, false, false, false, false, false, false, false, false, false, false, false] rfl rfl (by kernel_rfl) (fun _ _ _ h => h) (Or.inl ⟨by rfl, ?_⟩) ?_ ?_
   rotate_left
   ·intro w'
    go_simp
    with_reducible rfl
   rotate_left
   ·simp only [Act.put, lA, lB, lC, aQ, aT]
    rfl
   refine aU (i := 2) (N := some 66) (v := ?_) (a' := ?_) #[true, true, true, false, false, false, false, false, false, false, false, false, false, false, false, false, false, false, false, false, false, false, false, false, false, false, false, false, false, false, false, false, false, false, false, false, false, false, false, false, false, false] rfl rfl (by kernel_rfl) (fun _ _ _ h => h) (Or.inl ⟨by rfl, ?_⟩) ?_ ?_
   rotate_left
   ·intro w'
    go_simp
    with_reducible rfl
   rotate_left
   ·simp only [Act.put, lA, lB, lC, aQ, aT]
    rfl
   refine aU (i := 3) (N := some 67) (v := ?_) (a' := ?_) #[true, true, true, true, false, false, false, false, false, false, false, false, false, false, false, false, false, false, false, false, false, false, false, false, false, false, false, false, false, false, false, false, false, false, false, false, false, false, false, false, false, false] rfl rfl (by kernel_rfl) (fun _ _ _ h => h) (Or.inl ⟨by rfl, ?_⟩) ?_ ?_
   rotate_left
   ·intro w'
    go_simp
    with_reducible rfl
   rotate_left
   ·simp only [Act.put, lA, lB, lC, aQ, aT]
    rfl
   refine aU (i := 4) (N := some 68) (v := ?_) (a' := ?_) #[true, true, true, true, true, false, false, false, false, false, false, false, false, false, false, false, false, false, false, false, false, false, false, false, false, false, false, false, false, false, false, false, false, false, false, false, false, false, false, false, false, false] rfl rfl (by kernel_rfl) (fun _ _ _ h => h) (Or.inl ⟨by rfl, ?_⟩) ?_ ?_
   rotate_left
   ·intro w'
    go_simp
    with_reducible rfl
   rotate_left
   ·simp only [Act.put, lA, lB, lC, aQ, aT]
    rfl
   refine take_ (i := 5) (N := some 69) (v := ?_) (a' := ?_) #[true, true, true, true, true, true, false, false, false, false, false, false, false, false, false, false, false, false, false, false, false, false, false, false, false, false, false, false, false, false, false, false, false, false, false, false, false, false, false, false, false, false] rfl rfl (by kernel_rfl) (fun _ _ _ h => h) (Or.inl ⟨by rfl, ?_⟩) hHeld ?_ ?_
   rotate_left
   ·rintro w' ⟨s0, s1, s2, s3, s4, s5, s6, s7, s8, s9, s10, s11, s12, s13, s14, s15, s16, s17, s18, s19⟩
    go_simp
    with_reducible rfl
   rotate_left
   ·simp only [Act.put, lA, lB, lC, aQ, aT]
    rfl
   refine take_ (i := 6) (N := some 70) (v := ?_) (a' := ?_) #[true, true, true, true, true, true, true, false, false, false, false, false, false, false, false, false, false, false, false, false, false, false, false, false, false, false, false, false, false, false, false, false, false, false, false, false, false, false, false, false, false, false] rfl rfl (by kernel_rfl) (fun _ _ _ h => h) (Or.inl ⟨by rfl, ?_⟩) hHeld ?_ ?_
   rotate_left
   ·rintro w' ⟨s0, s1, s2, s3, s4, s5, s6, s7, s8, s9, s10, s11, s12, s13, s14, s15, s16, s17, s18, s19⟩
    go_simp
    with_reducible rfl
   rotate_left
   ·simp only [Act.put, lA, lB, lC, aQ, aT]
    rfl
   refine aU (i := 7) (N := some 71) (v := ?_) (a' := ?_) #[true, true, true, true, true, true, true, true, false, false, false, false, false, false, false, false, false, false, false, false, false, false, false, false, false, false, false, false, false, false, false, false, false, false, false, false, false, false, false, false, false, false] rfl rfl (by kernel_rfl) (fun _ _ _ h => h) (Or.inl ⟨by rfl, ?_⟩) ?_ ?_
   rotate_left
   ·intro w'
    go_simp
    with_reducible rfl
   rotate_left
   ·simp only [Act.put, lA, lB, lC, aQ, aT]
    rfl
   refine aU (i := 8) (N := some 72) (v := ?_) (a' := ?_) #[true, true, true, true, true, true, true, true, true, false, false, false, false, false, false, false, false, false, false, false, false, false, false, false, false, false, false, false, false, false, false, false, false, false, false, false, false, false, false, false, false, false] rfl rfl (by kernel_rfl) (fun _ _ _ h => h) (Or.inl ⟨by rfl, ?_⟩) ?_ ?_
   rotate_left
   ·intro w'
    go_simp
    with_reducible rfl
   rotate_left
   ·simp only [Act.put, lA, lB, lC, aQ, aT]
    rfl
   refine aU (i := 9) (N := some 73) (v := ?_) (a' := ?_) #[true, true, true, true, true, true, true, true, true, true, false, false, false, false, false, false, false, false, false, false, false, false, false, false, false, false, false, false, false, false, false, false, false, false, false, false, false, false, false, false, false, false] rfl rfl (by kernel_rfl) (fun _ _ _ h => h) (Or.inl ⟨by rfl, ?_⟩) ?_ ?_
   rotate_left
   ·intro w'
    go_simp
    with_reducible rfl
   rotate_left
   ·simp only [Act.put, lA, lB, lC, aQ, aT]
    rfl
   refine aU (i := 10) (N := some 74) (v := ?_) (a' := ?_) #[true, true, true, true, true, true, true, true, true, true, true, false, false, false, false, false, false, false, false, false, false, false, false, false, false, false, false, false, false, false, false, false, false, false, false, false, false, false, false, false, false, false] rfl rfl (by kernel_rfl) (fun _ _ _ h => h) (Or.inl ⟨by rfl, ?_⟩) ?_ ?_
   rotate_left
   ·intro w'
    go_simp
    with_reducible rfl
   rotate_left
   ·simp only [Act.put, lA, lB, lC, aQ, aT]
    rfl
   refine aU (i := 11) (N := some 75) (v := ?_) (a' := ?_) #[true, true, true, true, true, true, true, true, true, true, true, true, false, false, false, false, false, false, false, false, false, false, false, false, false, false, false, false, false, false, false, false, false, false, false, false, false, false, false, false, false, false] rfl rfl (by kernel_rfl) (fun _ _ _ h => h) (Or.inl ⟨by rfl, ?_⟩) ?_ ?_
   rotate_left
   ·intro w'
    go_simp
    with_reducible rfl
   rotate_left
   ·simp only [Act.put, lA, lB, lC, aQ, aT]
    rfl
   refine aU (i := 12) (N := some 76) (v := ?_) (a' := ?_) #[true, true, true, true, true, true, true, true, true, true, true, true, true, false, false, false, false, false, false, false, false, false, false, false, false, false, false, false, false, false, false, false, false, false, false, false, false, false, false, false, false, false] rfl rfl (by kernel_rfl) (fun _ _ _ h => h) (Or.inl ⟨by rfl, ?_⟩) ?_ ?_
   rotate_left
   ·intro w'
    go_simp
    with_reducible rfl
   rotate_left
   ·simp only [Act.put, lA, lB, lC, aQ, aT]
    rfl
   refine aU (i := 13) (N := some 77) (v := undef) (a' := ?_) #[true, true, true, true, true, true, true, true, true, true, true, true, true, true, false, false, false, false, false, false, false, false, false, false, false, false, false, false, false, false, false, false, false, false, false, false, false, false, false, false, false, false] rfl rfl (by kernel_rfl) (fun _ _ _ h => h) (Or.inr ⟨by rfl, rfl⟩) ?_ ?_
   rotate_left
   ·simp only [Act.put, lA, lB, lC, aQ, aT]
    rfl
   refine aU (i := 14) (N := some 78) (v := undef) (a' := ?_) #[true, true, true, true, true, true, true, true, true, true, true, true, true, true, true, false, false, false, false, false, false, false, false, false, false, false, false, false, false, false, false, false, false, false, false, false, false, false, false, false, false, false] rfl rfl (by kernel_rfl) (fun _ _ _ h => h) (Or.inr ⟨by rfl, rfl⟩) ?_ ?_
   rotate_left
   ·simp only [Act.put, lA, lB, lC, aQ, aT]
    rfl
   refine aU (i := 15) (N := some 79) (v := undef) (a' := ?_) #[true, true, true, true, true, true, true, true, true, true, true, true, true, true, true, true, false, false, false, false, false, false, false, false, false, false, false, false, false, false, false, false, false, false, false, false, false, false, false, false, false, false] rfl rfl (by kernel_rfl) (fun _ _ _ h => h) (Or.inr ⟨by rfl, rfl⟩) ?_ ?_
   rotate_left
   ·simp only [Act.put, lA, lB, lC, aQ, aT]
    rfl
   refine aU (i := 16) (N := some 80) (v := undef) (a' := ?_) #[true, true, true, true, true, true, true, true, true, true, true, true, true, true, true, true, true, false, false, false, false, false, false, false, false, false, false, false, false, false, false, false, false, false, false, false, false, false, false, false, false, false] rfl rfl (by kernel_rfl) (fun _ _ _ h => h) (Or.inr ⟨by rfl, rfl⟩) ?_ ?_
   rotate_left
   ·simp only [Act.put, lA, lB, lC, aQ, aT]
    rfl
   refine aU (i := 17) (N := some 81) (v := undef) (a' := ?_) #[true, true, true, true, true, true, true, true, true, true, true, true, true, true, true, true, true, true, false, false, false, false, false, false, false, false, false, false, false, false, false, false, false, false, false, false, false, false, false, false, false, false] rfl rfl (by kernel_rfl) (fun _ _ _ h => h) (Or.inr ⟨by rfl, rfl⟩) ?_ ?_
   rotate_left
   ·simp only [Act.put, lA, lB, lC, aQ, aT]
    rfl
   refine aU (i := 18) (N := some 82) (v := undef) (a' := ?_) #[true, true, true, true, true, true, true, true, true, true, true, true, true, true, true, true, true, true, true, false, false, false, false, false, false, false, false, false, false, false, false, false, false, false, false, false, false, false, false, false, false, false] rfl rfl (by kernel_rfl) (fun _ _ _ h => h) (Or.inr ⟨by rfl, rfl⟩) ?_ ?_
   rotate_left
   ·simp only [Act.put, lA, lB, lC, aQ, aT]
    rfl
   refine aU (i := 19) (N := some 83) (v := undef) (a' := ?_) #[true, true, true, true, true, true, true, true, true, true, true, true, true, true, true, true, true, true, true, true, false, false, false, false, false, false, false, false, false, false, false, false, false, false, false, false, false, false, false, false, false, false] rfl rfl (by kernel_rfl) (fun _ _ _ h => h) (Or.inr ⟨by rfl, rfl⟩) ?_ ?_
   rotate_left
   ·simp only [Act.put, lA, lB, lC, aQ, aT]
    rfl
   refine aU (i := 20) (N := some 84) (v := undef) (a' := ?_) #[true, true, true, true, true, true, true, true, true, true, true, true, true, true, true, true, true, true, true, true, true, false, false, false, false, false, false, false, false, false, false, false, false, false, false, false, false, false, false, false, false, false] rfl rfl (by kernel_rfl) (fun _ _ _ h => h) (Or.inr ⟨by rfl, rfl⟩) ?_ ?_
   rotate_left
   ·simp only [Act.put, lA, lB, lC, aQ, aT]
    rfl
   refine aU (i := 21) (N := some 85) (v := undef) (a' := ?_) #[true, true, true, true, true, true, true, true, true, true, true, true, true, true, true, true, true, true, true, true, true, true, false, false, false, false, false, false, false, false, false, false, false, false, false, false, false, false, false, false, false, false] rfl rfl (by kernel_rfl) (fun _ _ _ h => h) (Or.inr ⟨by rfl, rfl⟩) ?_ ?_
   rotate_left
   ·simp only [Act.put, lA, lB, lC, aQ, aT]
    rfl
   refine aU (i := 22) (N := some 86) (v := undef) (a' := ?_) #[true, true, true, true, true, true, true, true, true, true, true, true, true, true, true, true, true, true, true, true, true, true, true, false, false, false, false, false, false, false, false, false, false, false, false, false, false, false, false, false, false, false] rfl rfl (by kernel_rfl) (fun _ _ _ h => h) (Or.inr ⟨by rfl, rfl⟩) ?_ ?_
   rotate_left
   ·simp only [Act.put, lA, lB, lC, aQ, aT]
    rfl
   refine aU (i := 23) (N := some 87) (v := ?_) (a' := ?_) #[true, true, true, true, true, true, true, true, true, true, true, true, true, true, true, true, true, true, true, true, true, true, true, true, false, false, false, false, false, false, false, false, false, false, false, false, false, false, false, false, false, false] rfl rfl (by kernel_rfl) (fun _ _ _ h => h) (Or.inl ⟨by rfl, ?_⟩) ?_ ?_
   rotate_left
   ·intro w'
    go_simp
    with_reducible rfl
   rotate_left
   ·simp only [Act.put, lA, lB, lC, aQ, aT]
    rfl
   refine aU (i := 24) (N := some 88) (v := ?_) (a' := ?_) #[true, true, true, true, true, true, true, true, true, true, true, true, true, true, true, true, true, true, true, true, true, true, true, true, true, false, false, false, false, false, false, false, false, false, false, false, false, false, false, false, false, false] rfl rfl (by kernel_rfl) (fun _ _ _ h => h) (Or.inl ⟨by rfl, ?_⟩) ?_ ?_
   rotate_left
   ·intro w'
    go_simp
    with_reducible rfl
   rotate_left
   ·simp only [Act.put, lA, lB, lC, aQ, aT]
    rfl
   refine aU (i := 25) (N := some 89) (v := ?_) (a' := ?_) #[true, true, true, true, true, true, true, true, true, true, true, true, true, true, true, true, true, true, true, true, true, true, true, true, true, true, false, false, false, false, false, false, false, false, false, false, false, false, false, false, false, false] rfl rfl (by kernel_rfl) (fun _ _ _ h => h) (Or.inl ⟨by rfl, ?_⟩) ?_ ?_
   rotate_left
   ·intro w'
    go_simp
    with_reducible rfl
   rotate_left
   ·simp only [Act.put, lA, lB, lC, aQ, aT]
    rfl
   refine aU (i := 26) (N := some 90) (v := ?_) (a' := ?_) #[true, true, true, true, true, true, true, true, true, true, true, true, true, true, true, true, true, true, true, true, true, true, true, true, true, true, true, false, false, false, false, false, false, false, false, false, false, false, false, false, false, false] rfl rfl (by kernel_rfl) (fun _ _ _ h => h) (Or.inl ⟨by rfl, ?_⟩) ?_ ?_
   rotate_left
   ·intro w'
    go_simp
    with_reducible rfl
   rotate_left
   ·simp only [Act.put, lA, lB, lC, aQ, aT]
    rfl
   refine aU (i := 27) (N := some 91) (v := ?_) (a' := ?_) #[true, true, true, true, true, true, true, true, true, true, true, true, true, true, true, true, true, true, true, true, true, true, true, true, true, true, true, true, false, false, false, false, false, false, false, false, false, false, false, false, false, false] rfl rfl (by kernel_rfl) (fun _ _ _ h => h) (Or.inl ⟨by rfl, ?_⟩) ?_ ?_
   rotate_left
   ·intro w'
    go_simp
    with_reducible rfl
   rotate_left
   ·simp only [Act.put, lA, lB, lC, aQ, aT]
    rfl
   refine aU (i := 28) (N := some 92) (v := ?_) (a' := ?_) #[true, true, true, true, true, true, true, true, true, true, true, true, true, true, true, true, true, true, true, true, true, true, true, true, true, true, true, true, true, false, false, false, false, false, false, false, false, false, false, false, false, false] rfl rfl (by kernel_rfl) (fun _ _ _ h => h) (Or.inl ⟨by rfl, ?_⟩) ?_ ?_
   rotate_left
   ·intro w'
    go_simp
    with_reducible rfl
   rotate_left
   ·simp only [Act.put, lA, lB, lC, aQ, aT]
    rfl
   refine aU (i := 29) (N := some 93) (v := ?_) (a' := ?_) #[true, true, true, true, true, true, true, true, true, true, true, true, true, true, true, true, true, true, true, true, true, true, true, true, true, true, true, true, true, true, false, false, false, false, false, false, false, false, false, false, false, false] rfl rfl (by kernel_rfl) (fun _ _ _ h => h) (Or.inl ⟨by rfl, ?_⟩) ?_ ?_
   rotate_left
   ·intro w'
    go_simp
    with_reducible rfl
   rotate_left
   ·simp only [Act.put, lA, lB, lC, aQ, aT]
    rfl
   refine aU (i := 30) (N := some 94) (v := ?_) (a' := ?_) #[true, true, true, true, true, true, true, true, true, true, true, true, true, true, true, true, true, true, true, true, true, true, true, true, true, true, true, true, true, true, true, false, false, false, false, false, false, false, false, false, false, false] rfl rfl (by kernel_rfl) (fun _ _ _ h => h) (Or.inl ⟨by rfl, ?_⟩) ?_ ?_
   rotate_left
   ·intro w'
    go_simp
    with_reducible rfl
   rotate_left
   ·simp only [Act.put, lA, lB, lC, aQ, aT]
    rfl
   refine aU (i := 31) (N := some 95) (v := ?_) (a' := ?_) #[true, true, true, true, true, true, true, true, true, true, true, true, true, true, true, true, true, true, true, true, true, true, true, true, true, true, true, true, true, true, true, true, false, false, false, false, false, false, false, false, false, false] rfl rfl (by kernel_rfl) (fun _ _ _ h => h) (Or.inl ⟨by rfl, ?_⟩) ?_ ?_
   rotate_left
   ·intro w'
    go_simp
    with_reducible rfl
   rotate_left
   ·simp only [Act.put, lA, lB, lC, aQ, aT]
    rfl
   refine aU (i := 32) (N := some 96) (v := ?_) (a' := ?_) #[true, true, true, true, true, true, true, true, true, true, true, true, true, true, true, true, true, true, true, true, true, true, true, true, true, true, true, true, true, true, true, true, true, false, false, false, false, false, false, false, false, false] rfl rfl (by kernel_rfl) (fun _ _ _ h => h) (Or.inl ⟨by rfl, ?_⟩) ?_ ?_
   rotate_left
   ·intro w'
    go_simp
    with_reducible rfl
   rotate_left
   ·simp only [Act.put, lA, lB, lC, aQ, aT]
    rfl
   refine take_ (i := 33) (N := some 97) (v := ?_) (a' := ?_) #[true, true, true, true, true, true, true, true, true, true, true, true, true, true, true, true, true, true, true, true, true, true, true, true, true, true, true, true, true, true, true, true, true, true, false, false, false, false, false, false, false, false] rfl rfl (by kernel_rfl) (fun _ _ _ h => h) (Or.inl ⟨by rfl, ?_⟩) hHeld ?_ ?_
   rotate_left
   ·rintro w' ⟨s0, s1, s2, s3, s4, s5, s6, s7, s8, s9, s10, s11, s12, s13, s14, s15, s16, s17, s18, s19⟩
    go_simp
    with_reducible rfl
   rotate_left
   ·simp only [Act.put, lA, lB, lC, aQ, aT]
    rfl
   refine aU (i := 34) (N := some 98) (v := ?_) (a' := ?_) #[true, true, true, true, true, true, true, true, true, true, true, true, true, true, true, true, true, true, true, true, true, true, true, true, true, true, true, true, true, true, true, true, true, true, true, false, false, false, false, false, false, false] rfl rfl (by kernel_rfl) (fun _ _ _ h => h) (Or.inl ⟨by rfl, ?_⟩) ?_ ?_
   rotate_left
   ·intro w'
    go_simp
    with_reducible rfl
   rotate_left
   ·simp only [Act.put, lA, lB, lC, aQ, aT]
    rfl
   refine aU (i := 35) (N := some 99) (v := ?_) (a' := ?_) #[true, true, true, true, true, true, true, true, true, true, true, true, true, true, true, true, true, true, true, true, true, true, true, true, true, true, true, true, true, true, true, true, true, true, true, true, false, false, false, false, false, false] rfl rfl (by kernel_rfl) (fun _ _ _ h => h) (Or.inl ⟨by rfl, ?_⟩) ?_ ?_
   rotate_left
   ·intro w'
    go_simp
    with_reducible rfl
   rotate_left
   ·simp only [Act.put, lA, lB, lC, aQ, aT]
    rfl
   refine aU (i := 36) (N := some 100) (v := ?_) (a' := ?_) #[true, true, true, true, true, true, true, true, true, true, true, true, true, true, true, true, true, true, true, true, true, true, true, true, true, true, true, true, true, true, true, true, true, true, true, true, true, false, false, false, false, false] rfl rfl (by kernel_rfl) (fun _ _ _ h => h) (Or.inl ⟨by rfl, ?_⟩) ?_ ?_
   rotate_left
   ·intro w'
    go_simp
    with_reducible rfl
   rotate_left
   ·simp only [Act.put, lA, lB, lC, aQ, aT]
    rfl
   refine take_ (i := 37) (N := some 101) (v := ?_) (a' := ?_) #[true, true, true, true, true, true, true, true, true, true, true, true, true, true, true, true, true, true, true, true, true, true, true, true, true, true, true, true, true, true, true, true, true, true, true, true, true, true, false, false, false, false] rfl rfl (by kernel_rfl) (fun _ _ _ h => h) (Or.inl ⟨by rfl, ?_⟩) hHeld ?_ ?_
   rotate_left
   ·rintro w' ⟨s0, s1, s2, s3, s4, s5, s6, s7, s8, s9, s10, s11, s12, s13, s14, s15, s16, s17, s18, s19⟩
    go_simp
    with_reducible rfl
   rotate_left
   ·simp only [Act.put, lA, lB, lC, aQ, aT]
    rfl
   refine one_ (i := 38) (N := some 102) #[true, true, true, true, true, true, true, true, true, true, true, true, true, true, true, true, true, true, true, true, true, true, true, true, true, true, true, true, true, true, true, true, true, true, true, true, true, true, true, false, false, false] rfl rfl (by kernel_rfl) (by decide) (fun K hK => ?_)
   refine goes_ Try.func28 (by kernel_rfl) rfl #[.agg #[.int .i64 ((rd_T27 m jm5).f0), .int .i64 ((rd_T27 m jm5).f1), .int .i64 ((rd_T27 m jm5).f2), .int .i64 ((rd_T27 m jm5).f3), .int .i64 ((rd_T27 m jm5).f4)], .agg #[.int .i64 ((rd_T27 m x5).f0), .int .i64 ((rd_T27 m x5).f1), .int .i64 ((rd_T27 m x5).f2), .int .i64 ((rd_T27 m x5).f3), .int .i64 ((rd_T27 m x5).f4)]] (by rfl) rfl rfl (by (try simp only [List.map_toArray, List.map_cons, List.map_nil]); first | done | rfl | (simp only [List.length_drop, List.length_take]; rfl)) ?_
   (with_reducible refine (impl_LessKey.calls ((rd_T27 m jm5).f0) ((rd_T27 m jm5).f1) ((rd_T27 m jm5).f2) ((rd_T27 m jm5).f3) ((rd_T27 m jm5).f4) ((rd_T27 m x5).f0) ((rd_T27 m x5).f1) ((rd_T27 m x5).f2) ((rd_T27 m x5).f3) ((rd_T27 m x5).f4) true _ RL.out).mono ?_)
   rintro e_ w27 ⟨rfl, hb⟩
   refine ⟨_, rfl, ?_⟩
   have n0_ := aA.mk (Kd.bA HF0.out hb)
   have n1_ := aA.mk (Kd.bA HF2_0.out hb)
   have n2_ := aA.mk (Kd.bB HS2_0.out hb)
   have n3_ := aA.mk (Kd.bA HF2_1.out hb)
   have n4_ := aA.mk (Kd.bB HS2_1.out hb)
   have n5_ := aA.mk (Kd.bA HF3_0.out hb)
   have n6_ := aA.mk (Kd.bB HS3_0.out hb)
   have n7_ := aA.mk (Kd.bA HF4_0.out hb)
   have n8_ := aA.mk (Kd.bB HS4_0.out hb)
   have n9_ := aA.mk (aV hb HX24_0.out)
   have n10_ := aA.mk (aV hb HX24_1.out)
   have n11_ := aA.mk (aV hb HX24_2.out)
   have n12_ := aA.mk (aV hb HX24_3.out)
   have n13_ := aA.mk (aV hb HX24_4.out)
   have n14_ := aA.mk (aV hb HX25_0.out)
   have n15_ := aA.mk (aV hb HX25_1.out)
   have n16_ := aA.mk (aV hb HX25_2.out)
   have n17_ := aA.mk (aV hb HX25_3.out)
   have n18_ := aA.mk (aV hb HX25_4.out)
   have n19_ := aA.mk (bE BK12.out hb)
   have n20_ := aA.mk (bE BK20.out hb)
   have n21_ := aA.mk (aX HB.out hb)
   have n22_ := aA.mk (Nat.le_trans HT.out hb.size)
   (try clear HF0)
   (try clear HF2_0)
   (try clear HS2_0)
   (try clear HF2_1)
   (try clear HS2_1)
   (try clear HF3_0)
   (try clear HS3_0)
   (try clear HF4_0)
   (try clear HS4_0)
   (try clear HX24_0)
   (try clear HX24_1)
   (try clear HX24_2)
   (try clear HX24_3)
   (try clear HX24_4)
   (try clear HX25_0)
   (try clear HX25_1)
   (try clear HX25_2)
   (try clear HX25_3)
   (try clear HX25_4)
   (try clear BK12)
   (try clear BK20)
   (try clear HB)
   (try clear HT)
   have HF0 := n0_
   have HF2_0 := n1_
   have HS2_0 := n2_
   have HF2_1 := n3_
   have HS2_1 := n4_
   have HF3_0 := n5_
   have HS3_0 := n6_
   have HF4_0 := n7_
   have HS4_0 := n8_
   have HX24_0 := n9_
   have HX24_1 := n10_
   have HX24_2 := n11_
   have HX24_3 := n12_
   have HX24_4 := n13_
   have HX25_0 := n14_
   have HX25_1 := n15_
   have HX25_2 := n16_
   have HX25_3 := n17_
   have HX25_4 := n18_
   have BK12 := n19_
   have BK20 := n20_
   have HB := n21_
   have HT := n22_
   clear n0_ n1_ n2_ n3_ n4_ n5_ n6_ n7_ n8_ n9_ n10_ n11_ n12_ n13_ n14_ n15_ n16_ n17_ n18_ n19_ n20_ n21_ n22_
   (try clear hb)
   refine hK.out _ _ ⟨(aC BK20.out 0).trans rfl, (aC BK20.out 1).trans rfl, (aC BK20.out 2).trans rfl, (aC BK20.out 3).trans rfl, (aC BK20.out 4).trans rfl, (aC BK12.out 0).trans rfl, (aC BK12.out 1).trans rfl, (aC BK12.out 2).trans rfl, (aC BK12.out 3).trans rfl, (aC BK12.out 4).trans rfl, HX24_0.out, HX24_1.out, HX24_2.out, HX24_3.out, HX24_4.out, HX25_0.out, HX25_1.out, HX25_2.out, HX25_3.out, HX25_4.out⟩ (fun hHeld => ?_)
   clear hK K
   refine norm_ (a' := ?_) ?_ ?_
   rotate_left
   ·show Act.put _ (some 102) _ = _
    simp only [Act.put, lA, lB, lC, aQ, aT]
    rfl
   refine aU (i := 39) (N := some 103) (v := ?_) (a' := ?_) #[true, true, true, true, true, true, true, true, true, true, true, true, true, true, true, true, true, true, true, true, true, true, true, true, true, true, true, true, true, true, true, true, true, true, true, true, true, true, true, true, false, false] rfl rfl (by kernel_rfl) (fun _ _ _ h => h) (Or.inl ⟨by rfl, ?_⟩) ?_ ?_
   rotate_left
   ·intro w'
    go_simp
    with_reducible rfl
   rotate_left
   ·simp only [Act.put, lA, lB, lC, aQ, aT]
    rfl
   refine aU (i := 40) (N := some 104) (v := ?_) (a' := ?_) #[true, true, true, true, true, true, true, true, true, true, true, true, true, true, true, true, true, true, true, true, true, true, true, true, true, true, true, true, true, true, true, true, true, true, true, true, true, true, true, true, true, false] rfl rfl (by kernel_rfl) (fun _ _ _ h => h) (Or.inl ⟨by rfl, ?_⟩) ?_ ?_
   rotate_left
   ·intro w'
    go_simp
    with_reducible rfl
   rotate_left
   ·simp only [Act.put, lA, lB, lC, aQ, aT]
    rfl
   refine aU (i := 41) (N := some 105) (v := ?_) (a' := ?_) #[true, true, true, true, true, true, true, true, true, true, true, true, true, true, true, true, true, true, true, true, true, true, true, true, true, true, true, true, true, true, true, true, true, true, true, true, true, true, true, true, true, true] rfl rfl (by kernel_rfl) (fun _ _ _ h => h) (Or.inl ⟨by rfl, ?_⟩) ?_ ?_
   rotate_left
   ·intro w'
    go_simp
    with_reducible rfl
   rotate_left
   ·simp only [Act.put, lA, lB, lC, aQ, aT]
    rfl
   refine done_ (by kernel_rfl) ?_
   have hzgb12_0_27 : w27.cell? ⟨gb12, 0, none⟩ = some (.int .i64 p0) := (aC BK12.out 0).trans rfl
   have hygb12_0_27 := aD BK12.out 0
   have hzgb12_1_27 : w27.cell? ⟨gb12, 1, none⟩ = some (.int .i64 p1) := (aC BK12.out 1).trans rfl
   have hygb12_1_27 := aD BK12.out 1
   have hzgb12_2_27 : w27.cell? ⟨gb12, 2, none⟩ = some (.int .i64 p2) := (aC BK12.out 2).trans rfl
   have hygb12_2_27 := aD BK12.out 2
   have hzgb12_3_27 : w27.cell? ⟨gb12, 3, none⟩ = some (.int .i64 p3) := (aC BK12.out 3).trans rfl
   have hygb12_3_27 := aD BK12.out 3
   have hzgb12_4_27 : w27.cell? ⟨gb12, 4, none⟩ = some (.int .i64 p4) := (aC BK12.out 4).trans rfl
   have hygb12_4_27 := aD BK12.out 4
   have hzgb20_0_27 : w27.cell? ⟨gb20, 0, none⟩ = some (.int .i64 ((rd_T27 m x5).f0)) := (aC BK20.out 0).trans rfl
   have hygb20_0_27 := aD BK20.out 0
   have hzgb20_1_27 : w27.cell? ⟨gb20, 1, none⟩ = some (.int .i64 ((rd_T27 m x5).f1)) := (aC BK20.out 1).trans rfl
   have hygb20_1_27 := aD BK20.out 1
   have hzgb20_2_27 : w27.cell? ⟨gb20, 2, none⟩ = some (.int .i64 ((rd_T27 m x5).f2)) := (aC BK20.out 2).trans rfl
   have hygb20_2_27 := aD BK20.out 2
   have hzgb20_3_27 : w27.cell? ⟨gb20, 3, none⟩ = some (.int .i64 ((rd_T27 m x5).f3)) := (aC BK20.out 3).trans rfl
   have hygb20_3_27 := aD BK20.out 3
   have hzgb20_4_27 : w27.cell? ⟨gb20, 4, none⟩ = some (.int .i64 ((rd_T27 m x5).f4)) := (aC BK20.out 4).trans rfl
   have hygb20_4_27 := aD BK20.out 4
   try go_wp2
   go_roundg k1
   case measure => omega
   case rel => exact ⟨i5 + 1, _, rfl, ⟨show _ = ((i5 + 1 : Nat) : Int) by have := HI5.out; have hm_ := HML.out; have := HK5.out; first | (rw [w64 (by omega) (by omega)]; omega) | omega⟩, ⟨by have := HK5.out; omega⟩, ⟨Nat.le_trans (by have o_ := HORD.out; omega) HT.out⟩, HF0, HF2_0, HS2_0, HF2_1, HS2_1, HF3_0, HS3_0, HF4_0, HS4_0, HB⟩
  ·clear hse_
   obtain ⟨rfl, rfl, rfl, rfl, rfl, rfl, rfl⟩ := h3_
   have hi0_ : i5 = 0 := h_
   have hgt_ : decide (0 < x5) = false := decide_eq_false (by have := HI5.out; omega)
   clear h_ hi0_
   have hzgb12_0_27 : w21.cell? ⟨gb12, 0, none⟩ = some (.int .i64 ((rd_T27 m x5).f0)) := (aC BK12.out 0).trans rfl
   have hygb12_0_27 := aD BK12.out 0
   have hzgb12_1_27 : w21.cell? ⟨gb12, 1, none⟩ = some (.int .i64 ((rd_T27 m x5).f1)) := (aC BK12.out 1).trans rfl
   have hygb12_1_27 := aD BK12.out 1
   have hzgb12_2_27 : w21.cell? ⟨gb12, 2, none⟩ = some (.int .i64 ((rd_T27 m x5).f2)) := (aC BK12.out 2).trans rfl
   have hygb12_2_27 := aD BK12.out 2
   have hzgb12_3_27 : w21.cell? ⟨gb12, 3, none⟩ = some (.int .i64 ((rd_T27 m x5).f3)) := (aC BK12.out 3).trans rfl
   have hygb12_3_27 := aD BK12.out 3
   have hzgb12_4_27 : w21.cell? ⟨gb12, 4, none⟩ = some (.int .i64 ((rd_T27 m x5).f4)) := (aC BK12.out 4).trans rfl
   have hygb12_4_27 := aD BK12.out 4
   have hzgb20_0_27 : w21.cell? ⟨gb20, 0, none⟩ = some (.int .i64 q0) := (aC BK20.out 0).trans rfl
   have hygb20_0_27 := aD BK20.out 0
   have hzgb20_1_27 : w21.cell? ⟨gb20, 1, none⟩ = some (.int .i64 q1) := (aC BK20.out 1).trans rfl
   have hygb20_1_27 := aD BK20.out 1
   have hzgb20_2_27 : w21.cell? ⟨gb20, 2, none⟩ = some (.int .i64 q2) := (aC BK20.out 2).trans rfl
   have hygb20_2_27 := aD BK20.out 2
   have hzgb20_3_27 : w21.cell? ⟨gb20, 3, none⟩ = some (.int .i64 q3) := (aC BK20.out 3).trans rfl
   have hygb20_3_27 := aD BK20.out 3
   have hzgb20_4_27 : w21.cell? ⟨gb20, 4, none⟩ = some (.int .i64 q4) := (aC BK20.out 4).trans rfl
   have hygb20_4_27 := aD BK20.out 4
   try go_wp2
   obtain ⟨ad28, ee28, hx28_0, hx28_1, hx28_2, hx28_3, hx28_4⟩ := at_T27 (Kd.F_now HF3_0.out) x5 hp_ hq_
   obtain rfl := Option.some.inj ee28
   have HX28_0 := aA.mk hx28_0
   have HX28_1 := aA.mk hx28_1
   have HX28_2 := aA.mk hx28_2
   have HX28_3 := aA.mk hx28_3
   have HX28_4 := aA.mk hx28_4
   have n_ := aA.mk (Kd.F_drew HF0.out)
   clear HF0
   have HF0 := n_
   clear n_
   have n_ := aA.mk (Kd.F_drew HF2_0.out)
   clear HF2_0
   have HF2_0 := n_
   clear n_
   have n_ := aA.mk (Kd.aY HS2_0.out)
   clear HS2_0
   have HS2_0 := n_
   clear n_
   have n_ := aA.mk (Kd.F_drew HF2_1.out)
   clear HF2_1
   have HF2_1 := n_
   clear n_
   have n_ := aA.mk (Kd.aY HS2_1.out)
   clear HS2_1
   have HS2_1 := n_
   clear n_
   have n_ := aA.mk (Kd.F_drew HF3_0.out)
   clear HF3_0
   have HF3_0 := n_
   clear n_
   have n_ := aA.mk (Kd.aY HS3_0.out)
   clear HS3_0
   have HS3_0 := n_
   clear n_
   have n_ := aA.mk (Kd.F_drew HF4_0.out)
   clear HF4_0
   have HF4_0 := n_
   clear n_
   have n_ := aA.mk (Kd.aY HS4_0.out)
   clear HS4_0
   have HS4_0 := n_
   clear n_
   have n_ := aA.mk (aM BK12.out)
   clear BK12
   have BK12 := n_
   clear n_
   have n_ := aA.mk (aM BK20.out)
   clear BK20
   have BK20 := n_
   clear n_
   have n_ := aA.mk (aG HB.out)
   clear HB
   have HB := n_
   clear n_
   have n_ := aA.mk (show _ ≤ w21.drew.heap.size from HT.out)
   clear HT
   have HT := n_
   clear n_
   have n_ := aA.mk (show w21.drew.cell? (ad6.add (x5.toNat * 5)) = some (.int .i64 (rd_T27 m x5).f0) from HX28_0.out)
   clear HX28_0
   have HX28_0 := n_
   clear n_
   have n_ := aA.mk (show w21.drew.cell? ⟨(ad6.add (x5.toNat * 5)).block, (ad6.add (x5.toNat * 5)).off + 1, none⟩ = some (.int .i64 (rd_T27 m x5).f1) from HX28_1.out)
   clear HX28_1
   have HX28_1 := n_
   clear n_
   have n_ := aA.mk (show w21.drew.cell? ⟨(ad6.add (x5.toNat * 5)).block, (ad6.add (x5.toNat * 5)).off + 2, none⟩ = some (.int .i64 (rd_T27 m x5).f2) from HX28_2.out)
   clear HX28_2
   have HX28_2 := n_
   clear n_
   have n_ := aA.mk (show w21.drew.cell? ⟨(ad6.add (x5.toNat * 5)).block, (ad6.add (x5.toNat * 5)).off + 3, none⟩ = some (.int .i64 (rd_T27 m x5).f3) from HX28_3.out)
   clear HX28_3
   have HX28_3 := n_
   clear n_
   have n_ := aA.mk (show w21.drew.cell? ⟨(ad6.add (x5.toNat * 5)).block, (ad6.add (x5.toNat * 5)).off + 4, none⟩ = some (.int .i64 (rd_T27 m x5).f4) from HX28_4.out)
   clear HX28_4
   have HX28_4 := n_
   clear n_
   refine start_ (n := 42) (S := fun w' => w'.cell? ⟨gb20, 0, none⟩ = some (.int .i64 q0) ∧ w'.cell? ⟨gb20, 1, none⟩ = some (.int .i64 q1) ∧ w'.cell? ⟨gb20, 2, none⟩ = some (.int .i64 q2) ∧ w'.cell? ⟨gb20, 3, none⟩ = some (.int .i64 q3) ∧ w'.cell? ⟨gb20, 4, none⟩ = some (.int .i64 q4) ∧ w'.cell? ⟨gb12, 0, none⟩ = some (.int .i64 ((rd_T27 m x5).f0)) ∧ w'.cell? ⟨gb12, 1, none⟩ = some (.int .i64 ((rd_T27 m x5).f1)) ∧ w'.cell? ⟨gb12, 2, none⟩ = some (.int .i64 ((rd_T27 m x5).f2)) ∧ w'.cell? ⟨gb12, 3, none⟩ = some (.int .i64 ((rd_T27 m x5).f3)) ∧ w'.cell? ⟨gb12, 4, none⟩ = some (.int .i64 ((rd_T27 m x5).f4)) ∧ w'.cell? (ad6.add (x5.toNat * 5)) = some (.int .i64 (rd_T27 m x5).f0) ∧ w'.cell? ⟨(ad6.add (x5.toNat * 5)).block, (ad6.add (x5.toNat * 5)).off + 1, none⟩ = some (.int .i64 (rd_T27 m x5).f1) ∧ w'.cell? ⟨(ad6.add (x5.toNat * 5)).block, (ad6.add (x5.toNat * 5)).off + 2, none⟩ = some (.int .i64 (rd_T27 m x5).f2) ∧ w'.cell? ⟨(ad6.add (x5.toNat * 5)).block, (ad6.add (x5.toNat * 5)).off + 3, none⟩ = some (.int .i64 (rd_T27 m x5).f3) ∧ w'.cell? ⟨(ad6.add (x5.toNat * 5)).block, (ad6.add (x5.toNat * 5)).off + 4, none⟩ = some (.int .i64 (rd_T27 m x5).f4)) (ds := []) #[false, false, false, false, false, false, false, false, false, false, false, false, false, false, false, false, false, false, false, false, false, false, false, false, false, false, false, false, false, false, false, false, false, false, false, false, false, false, false, false, false, false] (by kernel_rfl) rfl rfl ⟨(aC BK20.out 0).trans rfl, (aC BK20.out 1).trans rfl, (aC BK20.out 2).trans rfl, (aC BK20.out 3).trans rfl, (aC BK20.out 4).trans rfl, (aC BK12.out 0).trans rfl, (aC BK12.out 1).trans rfl, (aC BK12.out 2).trans rfl, (aC BK12.out 3).trans rfl, (aC BK12.out 4).trans rfl, HX28_0.out, HX28_1.out, HX28_2.out, HX28_3.out, HX28_4.out⟩ (fun hHeld => ?_)
   generalize w21.drew = w29 at HF0 HF2_0 HS2_0 HF2_1 HS2_1 HF3_0 HS3_0 HF4_0 HS4_0 BK12 BK20 HB HT HX28_0 HX28_1 HX28_2 HX28_3 HX28_4 hHeld ⊢
   refine aU (i := 0) (N := some 64) (v := ?_) (a' := ?_) #[true, false, false, false, false, false, false, false, false, false, false, false, false, false, false, false, false, false, false, false, false, false, false, false, false, false, false, false, false, false, false, false, false, false, false, false, false, false, false, false, false, false] rfl rfl (by kernel_rfl) (fun _ _ _ h => h) (Or.inl ⟨by rfl, ?_⟩) ?_ ?_
   rotate_left
   ·intro w'
    go_simp
    with_reducible rfl
   rotate_left
   ·simp only [Act.put, lA, lB, lC, aQ, aT]
    rfl
   refine aU (i := 1) (N := some 65) (v := ?_) (a' := ?_) #[true, true, false, false, false, false, false, false, false, false, false, false, false, false, false, false, false, false, false, false, false, false, false, false, false, false, false, false, false, false, false, false, false, false, false, false, false, false, false, false, false, false] rfl rfl (by kernel_rfl) (fun _ _ _ h => h) (Or.inl ⟨by rfl, ?_⟩) ?_ ?_
   rotate_left
   ·intro w'
    go_simp
    with_reducible rfl
   rotate_left
   ·simp only [Act.put, lA, lB, lC, aQ, aT]
    rfl
   refine aU (i := 2) (N := some 66) (v := undef) (a' := ?_) #[true, true, true, false, false, false, false, false, false, false, false, false, false, false, false, false, false, false, false, false, false, false, false, false, false, false, false, false, false, false, false, false, false, false, false, false, false, false, false, false, false, false] rfl rfl (by kernel_rfl) (fun _ _ _ h => h) (Or.inr ⟨by rfl, rfl⟩) ?_ ?_
   rotate_left
   ·simp only [Act.put, lA, lB, lC, aQ, aT]
    rfl
   refine aU (i := 3) (N := some 67) (v := undef) (a' := ?_) #[true, true, true, true, false, false, false, false, false, false, false, false, false, false, false, false, false, false, false, false, false, false, false, false, false, false, false, false, false, false, false, false, false, false, false, false, false, false, false, false, false, false] rfl rfl (by kernel_rfl) (fun _ _ _ h => h) (Or.inr ⟨by rfl, rfl⟩) ?_ ?_
   rotate_left
   ·simp only [Act.put, lA, lB, lC, aQ, aT]
    rfl
   refine aU (i := 4) (N := some 68) (v := undef) (a' := ?_) #[true, true, true, true, true, false, false, false, false, false, false, false, false, false, false, false, false, false, false, false, false, false, false, false, false, false, false, false, false, false, false, false, false, false, false, false, false, false, false, false, false, false] rfl rfl (by kernel_rfl) (fun _ _ _ h => h) (Or.inr ⟨by rfl, rfl⟩) ?_ ?_
   rotate_left
   ·simp only [Act.put, lA, lB, lC, aQ, aT]
    rfl
   refine aU (i := 5) (N := some 69) (v := undef) (a' := ?_) #[true, true, true, true, true, true, false, false, false, false, false, false, false, false, false, false, false, false, false, false, false, false, false, false, false, false, false, false, false, false, false, false, false, false, false, false, false, false, false, false, false, false] rfl rfl (by kernel_rfl) (fun _ _ _ h => h) (Or.inr ⟨by rfl, rfl⟩) ?_ ?_
   rotate_left
   ·simp only [Act.put, lA, lB, lC, aQ, aT]
    rfl
   refine aU (i := 6) (N := some 70) (v := undef) (a' := ?_) #[true, true, true, true, true, true, true, false, false, false, false, false, false, false, false, false, false, false, false, false, false, false, false, false, false, false, false, false, false, false, false, false, false, false, false, false, false, false, false, false, false, false] rfl rfl (by kernel_rfl) (fun _ _ _ h => h) (Or.inr ⟨by rfl, rfl⟩) ?_ ?_
   rotate_left
   ·simp only [Act.put, lA, lB, lC, aQ, aT]
    rfl
   refine aU (i := 7) (N := some 71) (v := undef) (a' := ?_) #[true, true, true, true, true, true, true, true, false, false, false, false, false, false, false, false, false, false, false, false, false, false, false, false, false, false, false, false, false, false, false, false, false, false, false, false, false, false, false, false, false, false] rfl rfl (by kernel_rfl) (fun _ _ _ h => h) (Or.inr ⟨by rfl, rfl⟩) ?_ ?_
   rotate_left
   ·simp only [Act.put, lA, lB, lC, aQ, aT]
    rfl
   refine aU (i := 8) (N := some 72) (v := ?_) (a' := ?_) #[true, true, true, true, true, true, true, true, true, false, false, false, false, false, false, false, false, false, false, false, false, false, false, false, false, false, false, false, false, false, false, false, false, false, false, false, false, false, false, false, false, false] rfl rfl (by kernel_rfl) (fun _ _ _ h => h) (Or.inl ⟨by rfl, ?_⟩) ?_ ?_
   rotate_left
   ·intro w'
    go_simp
    with_reducible rfl
   rotate_left
   ·simp only [Act.put, lA, lB, lC, aQ, aT]
    rfl
   refine aU (i := 9) (N := some 73) (v := ?_) (a' := ?_) #[true, true, true, true, true, true, true, true, true, true, false, false, false, false, false, false, false, false, false, false, false, false, false, false, false, false, false, false, false, false, false, false, false, false, false, false, false, false, false, false, false, false] rfl rfl (by kernel_rfl) (fun _ _ _ h => h) (Or.inl ⟨by rfl, ?_⟩) ?_ ?_
   rotate_left
   ·intro w'
    go_simp
    with_reducible rfl
   rotate_left
   ·simp only [Act.put, lA, lB, lC, aQ, aT]
    rfl
   refine aU (i := 10) (N := some 74) (v := ?_) (a' := ?_) #[true, true, true, true, true, true, true, true, true, true, true, false, false, false, false, false, false, false, false, false, false, false, false, false, false, false, false, false, false, false, false, false, false, false, false, false, false, false, false, false, false, false] rfl rfl (by kernel_rfl) (fun _ _ _ h => h) (Or.inl ⟨by rfl, ?_⟩) ?_ ?_
   rotate_left
   ·intro w'
    go_simp
    with_reducible rfl
   rotate_left
   ·simp only [Act.put, lA, lB, lC, aQ, aT]
    rfl
   refine aU (i := 11) (N := some 75) (v := ?_) (a' := ?_) #[true, true, true, true, true, true, true, true, true, true, true, true, false, false, false, false, false, false, false, false, false, false, false, false, false, false, false, false, false, false, false, false, false, false, false, false, false, false, false, false, false, false] rfl rfl (by kernel_rfl) (fun _ _ _ h => h) (Or.inl ⟨by rfl, ?_⟩) ?_ ?_
   rotate_left
   ·intro w'
    go_simp
    with_reducible rfl
   rotate_left
   ·simp only [Act.put, lA, lB, lC, aQ, aT]
    rfl
   refine aU (i := 12) (N := some 76) (v := ?_) (a' := ?_) #[true, true, true, true, true, true, true, true, true, true, true, true, true, false, false, false, false, false, false, false, false, false, false, false, false, false, false, false, false, false, false, false, false, false, false, false, false, false, false, false, false, false] rfl rfl (by kernel_rfl) (fun _ _ _ h => h) (Or.inl ⟨by rfl, ?_⟩) ?_ ?_
   rotate_left
   ·intro w'
    go_simp
    with_reducible rfl
   rotate_left
   ·simp only [Act.put, lA, lB, lC, aQ, aT]
    rfl
   refine aU (i := 13) (N := some 77) (v := ?_) (a' := ?_) #[true, true, true, true, true, true, true, true, true, true, true, true, true, true, false, false, false, false, false, false, false, false, false, false, false, false, false, false, false, false, false, false, false, false, false, false, false, false, false, false, false, false] rfl rfl (by kernel_rfl) (fun _ _ _ h => h) (Or.inl ⟨by rfl, ?_⟩) ?_ ?_
   rotate_left
   ·intro w'
    go_simp
    with_reducible rfl
   rotate_left
   ·simp only [Act.put, lA, lB, lC, aQ, aT]
    rfl
   refine aU (i := 14) (N := some 78) (v := ?_) (a' := ?_) #[true, true, true, true, true, true, true, true, true, true, true, true, true, true, true, false, false, false, false, false, false, false, false, false, false, false, false, false, false, false, false, false, false, false, false, false, false, false, false, false, false, false] rfl rfl (by kernel_rfl) (fun _ _ _ h => h) (Or.inl ⟨by rfl, ?_⟩) ?_ ?_
   rotate_left
   ·intro w'
    go_simp
    with_reducible rfl
   rotate_left
   ·simp only [Act.put, lA, lB, lC, aQ, aT]
    rfl
   refine aU (i := 15) (N := some 79) (v := ?_) (a' := ?_) #[true, true, true, true, true, true, true, true, true, true, true, true, true, true, true, true, false, false, false, false, false, false, false, false, false, false, false, false, false, false, false, false, false, false, false, false, false, false, false, false, false, false] rfl rfl (by kernel_rfl) (fun _ _ _ h => h) (Or.inl ⟨by rfl, ?_⟩) ?_ ?_
   rotate_left
   ·intro w'
    go_simp
    with_reducible rfl
   rotate_left
   ·simp only [Act.put, lA, lB, lC, aQ, aT]
    rfl
   refine aU (i := 16) (N := some 80) (v := ?_) (a' := ?_) #[true, true, true, true, true, true, true, true, true, true, true, true, true, true, true, true, true, false, false, false, false, false, false, false, false, false, false, false, false, false, false, false, false, false, false, false, false, false, false, false, false, false] rfl rfl (by kernel_rfl) (fun _ _ _ h => h) (Or.inl ⟨by rfl, ?_⟩) ?_ ?_
   rotate_left
   ·intro w'
    go_simp
    with_reducible rfl
   rotate_left
   ·simp only [Act.put, lA, lB, lC, aQ, aT]
    rfl
   refine aU (i := 17) (N := some 81) (v := ?_) (a' := ?_) #[true, true, true, true, true, true, true, true, true, true, true, true, true, true, true, true, true, true, false, false, false, false, false, false, false, false, false, false, false, false, false, false, false, false, false, false, false, false, false, false, false, false] rfl rfl (by kernel_rfl) (fun _ _ _ h => h) (Or.inl ⟨by rfl, ?_⟩) ?_ ?_
   rotate_left
   ·intro w'
    go_simp
    with_reducible rfl
   rotate_left
   ·simp only [Act.put, lA, lB, lC, aQ, aT]
    rfl
   refine aU (i := 18) (N := some 82) (v := ?_) (a' := ?_) #[true, true, true, true, true, true, true, true, true, true, true, true, true, true, true, true, true, true, true, false, false, false, false, false, false, false, false, false, false, false, false, false, false, false, false, false, false, false, false, false, false, false] rfl rfl (by kernel_rfl) (fun _ _ _ h => h) (Or.inl ⟨by rfl, ?_⟩) ?_ ?_
   rotate_left
   ·intro w'
    go_simp
    with_reducible rfl
   rotate_left
   ·simp only [Act.put, lA, lB, lC, aQ, aT]
    rfl
   refine take_ (i := 19) (N := some 83) (v := ?_) (a' := ?_) #[true, true, true, true, true, true, true, true, true, true, true, true, true, true, true, true, true, true, true, true, false, false, false, false, false, false, false, false, false, false, false, false, false, false, false, false, false, false, false, false, false, false] rfl rfl (by kernel_rfl) (fun _ _ _ h => h) (Or.inl ⟨by rfl, ?_⟩) hHeld ?_ ?_
   rotate_left
   ·rintro w' ⟨s0, s1, s2, s3, s4, s5, s6, s7, s8, s9, s10, s11, s12, s13, s14⟩
    go_simp
    with_reducible rfl
   rotate_left
   ·simp only [Act.put, lA, lB, lC, aQ, aT]
    rfl
   refine take_ (i := 20) (N := some 84) (v := ?_) (a' := ?_) #[true, true, true, true, true, true, true, true, true, true, true, true, true, true, true, true, true, true, true, true, true, false, false, false, false, false, false, false, false, false, false, false, false, false, false, false, false, false, false, false, false, false] rfl rfl (by kernel_rfl) (fun _ _ _ h => h) (Or.inl ⟨by rfl, ?_⟩) hHeld ?_ ?_
   rotate_left
   ·rintro w' ⟨s0, s1, s2, s3, s4, s5, s6, s7, s8, s9, s10, s11, s12, s13, s14⟩
    go_simp
    with_reducible rfl
   rotate_left
   ·simp only [Act.put, lA, lB, lC, aQ, aT]
    rfl
   refine aU (i := 21) (N := some 85) (v := ?_) (a' := ?_) #[true, true, true, true, true, true, true, true, true, true, true, true, true, true, true, true, true, true, true, true, true, true, false, false, false, false, false, false, false, false, false, false, false, false, false, false, false, false, false, false, false, false] rfl rfl (by kernel_rfl) (fun _ _ _ h => h) (Or.inl ⟨by rfl, ?_⟩) ?_ ?_
   rotate_left
   ·intro w'
    go_simp
    with_reducible rfl
   rotate_left
   ·simp only [Act.put, lA, lB, lC, aQ, aT]
    rfl
   refine aU (i := 22) (N := some 86) (v := ?_) (a' := ?_) #[true, true, true, true, true, true, true, true, true, true, true, true, true, true, true, true, true, true, true, true, true, true, true, false, false, false, false, false, false, false, false, false, false, false, false, false, false, false, false, false, false, false] rfl rfl (by kernel_rfl) (fun _ _ _ h => h) (Or.inl ⟨by rfl, ?_⟩) ?_ ?_
   rotate_left
   ·intro w'
    go_simp
    with_reducible rfl
   rotate_left
   ·simp only [Act.put, lA, lB, lC, aQ, aT]
    rfl
   refine aU (i := 23) (N := some 87) (v := ?_) (a' := ?_) #[true, true, true, true, true, true, true, true, true, true, true, true, true, true, true, true, true, true, true, true, true, true, true, true, false, false, false, false, false, false, false, false, false, false, false, false, false, false, false, false, false, false] rfl rfl (by kernel_rfl) (fun _ _ _ h => h) (Or.inl ⟨by rfl, ?_⟩) ?_ ?_
   rotate_left
   ·intro w'
    go_simp
    with_reducible rfl
   rotate_left
   ·simp only [Act.put, lA, lB, lC, aQ, aT]
    rfl
   refine aU (i := 24) (N := some 88) (v := ?_) (a' := ?_) #[true, true, true, true, true, true, true, true, true, true, true, true, true, true, true, true, true, true, true, true, true, true, true, true, true, false, false, false, false, false, false, false, false, false, false, false, false, false, false, false, false, false] rfl rfl (by kernel_rfl) (fun _ _ _ h => h) (Or.inl ⟨by rfl, ?_⟩) ?_ ?_
   rotate_left
   ·intro w'
    go_simp
    with_reducible rfl
   rotate_left
   ·simp only [Act.put, lA, lB, lC, aQ, aT]
    rfl
   refine aU (i := 25) (N := some 89) (v := ?_) (a' := ?_) #[true, true, true, true, true, true, true, true, true, true, true, true, true, true, true, true, true, true, true, true, true, true, true, true, true, true, false, false, false, false, false, false, false, false, false, false, false, false, false, false, false, false] rfl rfl (by kernel_rfl) (fun _ _ _ h => h) (Or.inl ⟨by rfl, ?_⟩) ?_ ?_
   rotate_left
   ·intro w'
    go_simp
    with_reducible rfl
   rotate_left
   ·simp only [Act.put, lA, lB, lC, aQ, aT]
    rfl
   refine aU (i := 26) (N := some 90) (v := ?_) (a' := ?_) #[true, true, true, true, true, true, true, true, true, true, true, true, true, true, true, true, true, true, true, true, true, true, true, true, true, true, true, false, false, false, false, false, false, false, false, false, false, false, false, false, false, false] rfl rfl (by kernel_rfl) (fun _ _ _ h => h) (Or.inl ⟨by rfl, ?_⟩) ?_ ?_
   rotate_left
   ·intro w'
    go_simp
    with_reducible rfl
   rotate_left
   ·simp only [Act.put, lA, lB, lC, aQ, aT]
    rfl
   refine aU (i := 27) (N := some 91) (v := ?_) (a' := ?_) #[true, true, true, true, true, true, true, true, true, true, true, true, true, true, true, true, true, true, true, true, true, true, true, true, true, true, true, true, false, false, false, false, false, false, false, false, false, false, false, false, false, false] rfl rfl (by kernel_rfl) (fun _ _ _ h => h) (Or.inl ⟨by rfl, ?_⟩) ?_ ?_
   rotate_left
   ·intro w'
    go_simp
    with_reducible rfl
   rotate_left
   ·simp only [Act.put, lA, lB, lC, aQ, aT]
    rfl
   refine aU (i := 28) (N := some 92) (v := ?_) (a' := ?_) #[true, true, true, true, true, true, true, true, true, true, true, true, true, true, true, true, true, true, true, true, true, true, true, true, true, true, true, true, true, false, false, false, false, false, false, false, false, false, false, false, false, false] rfl rfl (by kernel_rfl) (fun _ _ _ h => h) (Or.inl ⟨by rfl, ?_⟩) ?_ ?_
   rotate_left
   ·intro w'
    go_simp
    with_reducible rfl
   rotate_left
   ·simp only [Act.put, lA, lB, lC, aQ, aT]
    rfl
   refine aU (i := 29) (N := some 93) (v := undef) (a' := ?_) #[true, true, true, true, true, true, true, true, true, true, true, true, true, true, true, true, true, true, true, true, true, true, true, true, true, true, true, true, true, true, false, false, false, false, false, false, false, false, false, false, false, false] rfl rfl (by kernel_rfl) (fun _ _ _ h => h) (Or.inr ⟨by rfl, rfl⟩) ?_ ?_
   rotate_left
   ·simp only [Act.put, lA, lB, lC, aQ, aT]
    rfl
   refine aU (i := 30) (N := some 94) (v := undef) (a' := ?_) #[true, true, true, true, true, true, true, true, true, true, true, true, true, true, true, true, true, true, true, true, true, true, true, true, true, true, true, true, true, true, true, false, false, false, false, false, false, false, false, false, false, false] rfl rfl (by kernel_rfl) (fun _ _ _ h => h) (Or.inr ⟨by rfl, rfl⟩) ?_ ?_
   rotate_left
   ·simp only [Act.put, lA, lB, lC, aQ, aT]
    rfl
   refine aU (i := 31) (N := some 95) (v := undef) (a' := ?_) #[true, true, true, true, true, true, true, true, true, true, true, true, true, true, true, true, true, true, true, true, true, true, true, true, true, true, true, true, true, true, true, true, false, false, false, false, false, false, false, false, false, false] rfl rfl (by kernel_rfl) (fun _ _ _ h => h) (Or.inr ⟨by rfl, rfl⟩) ?_ ?_
   rotate_left
   ·simp only [Act.put, lA, lB, lC, aQ, aT]
    rfl
   refine aU (i := 32) (N := some 96) (v := undef) (a' := ?_) #[true, true, true, true, true, true, true, true, true, true, true, true, true, true, true, true, true, true, true, true, true, true, true, true, true, true, true, true, true, true, true, true, true, false, false, false, false, false, false, false, false, false] rfl rfl (by kernel_rfl) (fun _ _ _ h => h) (Or.inr ⟨by rfl, rfl⟩) ?_ ?_
   rotate_left
   ·simp only [Act.put, lA, lB, lC, aQ, aT]
    rfl
   refine aU (i := 33) (N := some 97) (v := undef) (a' := ?_) #[true, true, true, true, true, true, true, true, true, true, true, true, true, true, true, true, true, true, true, true, true, true, true, true, true, true, true, true, true, true, true, true, true, true, false, false, false, false, false, false, false, false] rfl rfl (by kernel_rfl) (fun _ _ _ h => h) (Or.inr ⟨by rfl, rfl⟩) ?_ ?_
   rotate_left
   ·simp only [Act.put, lA, lB, lC, aQ, aT]
    rfl
   refine aU (i := 34) (N := some 98) (v := undef) (a' := ?_) #[true, true, true, true, true, true, true, true, true, true, true, true, true, true, true, true, true, true, true, true, true, true, true, true, true, true, true, true, true, true, true, true, true, true, true, false, false, false, false, false, false, false] rfl rfl (by kernel_rfl) (fun _ _ _ h => h) (Or.inr ⟨by rfl, rfl⟩) ?_ ?_
   rotate_left
   ·simp only [Act.put, lA, lB, lC, aQ, aT]
    rfl
   refine aU (i := 35) (N := some 99) (v := undef) (a' := ?_) #[true, true, true, true, true, true, true, true, true, true, true, true, true, true, true, true, true, true, true, true, true, true, true, true, true, true, true, true, true, true, true, true, true, true, true, true, false, false, false, false, false, false] rfl rfl (by kernel_rfl) (fun _ _ _ h => h) (Or.inr ⟨by rfl, rfl⟩) ?_ ?_
   rotate_left
   ·simp only [Act.put, lA, lB, lC, aQ, aT]
    rfl
   refine aU (i := 36) (N := some 100) (v := undef) (a' := ?_) #[true, true, true, true, true, true, true, true, true, true, true, true, true, true, true, true, true, true, true, true, true, true, true, true, true, true, true, true, true, true, true, true, true, true, true, true, true, false, false, false, false, false] rfl rfl (by kernel_rfl) (fun _ _ _ h => h) (Or.inr ⟨by rfl, rfl⟩) ?_ ?_
   rotate_left
   ·simp only [Act.put, lA, lB, lC, aQ, aT]
    rfl
   refine aU (i := 37) (N := some 101) (v := undef) (a' := ?_) #[true, true, true, true, true, true, true, true, true, true, true, true, true, true, true, true, true, true, true, true, true, true, true, true, true, true, true, true, true, true, true, true, true, true, true, true, true, true, false, false, false, false] rfl rfl (by kernel_rfl) (fun _ _ _ h => h) (Or.inr ⟨by rfl, rfl⟩) ?_ ?_
   rotate_left
   ·simp only [Act.put, lA, lB, lC, aQ, aT]
    rfl
   refine aU (i := 38) (N := some 102) (v := undef) (a' := ?_) #[true, true, true, true, true, true, true, true, true, true, true, true, true, true, true, true, true, true, true, true, true, true, true, true, true, true, true, true, true, true, true, true, true, true, true, true, true, true, true, false, false, false] rfl rfl (by kernel_rfl) (fun _ _ _ h => h) (Or.inr ⟨by rfl, rfl⟩) ?_ ?_
   rotate_left
   ·simp only [Act.put, lA, lB, lC, aQ, aT]
    rfl
   refine aU (i := 39) (N := some 103) (v := undef) (a' := ?_) #[true, true, true, true, true, true, true, true, true, true, true, true, true, true, true, true, true, true, true, true, true, true, true, true, true, true, true, true, true, true, true, true, true, true, true, true, true, true, true, true, false, false] rfl rfl (by kernel_rfl) (fun _ _ _ h => h) (Or.inr ⟨by rfl, rfl⟩) ?_ ?_
   rotate_left
   ·simp only [Act.put, lA, lB, lC, aQ, aT]
    rfl
   refine aU (i := 40) (N := some 104) (v := ?_) (a' := ?_) #[true, true, true, true, true, true, true, true, true, true, true, true, true, true, true, true, true, true, true, true, true, true, true, true, true, true, true, true, true, true, true, true, true, true, true, true, true, true, true, true, true, false] rfl rfl (by kernel_rfl) (fun _ _ _ h => h) (Or.inl ⟨by rfl, ?_⟩) ?_ ?_
   rotate_left
   ·intro w'
    go_simp
    with_reducible rfl
   rotate_left
   ·simp only [Act.put, lA, lB, lC, aQ, aT]
    rfl
   refine aU (i := 41) (N := some 105) (v := ?_) (a' := ?_) #[true, true, true, true, true, true, true, true, true, true, true, true, true, true, true, true, true, true, true, true, true, true, true, true, true, true, true, true, true, true, true, true, true, true, true, true, true, true, true, true, true, true] rfl rfl (by kernel_rfl) (fun _ _ _ h => h) (Or.inl ⟨by rfl, ?_⟩) ?_ ?_
   rotate_left
   ·intro w'
    go_simp
    with_reducible rfl
   rotate_left
   ·simp only [Act.put, lA, lB, lC, aQ, aT]
    rfl
   refine done_ (by kernel_rfl) ?_
   have hzgb12_0_29 : w29.cell? ⟨gb12, 0, none⟩ = some (.int .i64 ((rd_T27 m x5).f0)) := (aC BK12.out 0).trans rfl
   have hygb12_0_29 := aD BK12.out 0
   have hzgb12_1_29 : w29.cell? ⟨gb12, 1, none⟩ = some (.int .i64 ((rd_T27 m x5).f1)) := (aC BK12.out 1).trans rfl
   have hygb12_1_29 := aD BK12.out 1
   have hzgb12_2_29 : w29.cell? ⟨gb12, 2, none⟩ = some (.int .i64 ((rd_T27 m x5).f2)) := (aC BK12.out 2).trans rfl
   have hygb12_2_29 := aD BK12.out 2
   have hzgb12_3_29 : w29.cell? ⟨gb12, 3, none⟩ = some (.int .i64 ((rd_T27 m x5).f3)) := (aC BK12.out 3).trans rfl
   have hygb12_3_29 := aD BK12.out 3
   have hzgb12_4_29 : w29.cell? ⟨gb12, 4, none⟩ = some (.int .i64 ((rd_T27 m x5).f4)) := (aC BK12.out 4).trans rfl
   have hygb12_4_29 := aD BK12.out 4
   have hzgb20_0_29 : w29.cell? ⟨gb20, 0, none⟩ = some (.int .i64 q0) := (aC BK20.out 0).trans rfl
   have hygb20_0_29 := aD BK20.out 0
   have hzgb20_1_29 : w29.cell? ⟨gb20, 1, none⟩ = some (.int .i64 q1) := (aC BK20.out 1).trans rfl
   have hygb20_1_29 := aD BK20.out 1
   have hzgb20_2_29 : w29.cell? ⟨gb20, 2, none⟩ = some (.int .i64 q2) := (aC BK20.out 2).trans rfl
   have hygb20_2_29 := aD BK20.out 2
   have hzgb20_3_29 : w29.cell? ⟨gb20, 3, none⟩ = some (.int .i64 q3) := (aC BK20.out 3).trans rfl
   have hygb20_3_29 := aD BK20.out 3
   have hzgb20_4_29 : w29.cell? ⟨gb20, 4, none⟩ = some (.int .i64 q4) := (aC BK20.out 4).trans rfl
   have hygb20_4_29 := aD BK20.out 4
   try go_wp2
   go_roundg k1
   case measure => omega
   case rel => exact ⟨i5 + 1, _, rfl, ⟨show _ = ((i5 + 1 : Nat) : Int) by have := HI5.out; have hm_ := HML.out; have := HK5.out; first | (rw [w64 (by omega) (by omega)]; omega) | omega⟩, ⟨by have := HK5.out; omega⟩, ⟨Nat.le_trans (by have o_ := HORD.out; omega) HT.out⟩, HF0, HF2_0, HS2_0, HF2_1, HS2_1, HF3_0, HS3_0, HF4_0, HS4_0, HB⟩
  ·clear hse_
   obtain ⟨rfl, rfl, rfl, rfl, rfl, rfl, rfl⟩ := h3_
   have hi0_ : 0 < i5 := h_
   have hgt_ : decide (0 < x5) = true := decide_eq_true (by have := HI5.out; omega)
   obtain ⟨jm5, hjm_⟩ : ∃ j_ : Int, wrap64 (x5 - 1) = j_ := ⟨_, rfl⟩
   have hjmw_ : IntKind.i64.wrap (x5 - 1) = jm5 := (aQ _).trans hjm_
   have hjv_ : jm5 = x5 - 1 := (by rw [← hjm_]; exact w64 (by have := HI5.out; omega) (by have := HI5.out; have := HK5.out; have := HML.out; omega))
   have hpj_ : 0 ≤ jm5 := (by have := HI5.out; omega)
   have hqj_ : jm5 < (m.length : Int) := (by omega)
   have hl_ := RL0.out hi0_
   rw [hjm_] at hl_
   have RL := aA.mk hl_
   clear h_ hi0_ hjv_ hl_ RL0 hjm_
   have hzgb12_0_29 : w21.cell? ⟨gb12, 0, none⟩ = some (.int .i64 ((rd_T27 m x5).f0)) := (aC BK12.out 0).trans rfl
   have hygb12_0_29 := aD BK12.out 0
   have hzgb12_1_29 : w21.cell? ⟨gb12, 1, none⟩ = some (.int .i64 ((rd_T27 m x5).f1)) := (aC BK12.out 1).trans rfl
   have hygb12_1_29 := aD BK12.out 1
   have hzgb12_2_29 : w21.cell? ⟨gb12, 2, none⟩ = some (.int .i64 ((rd_T27 m x5).f2)) := (aC BK12.out 2).trans rfl
   have hygb12_2_29 := aD BK12.out 2
   have hzgb12_3_29 : w21.cell? ⟨gb12, 3, none⟩ = some (.int .i64 ((rd_T27 m x5).f3)) := (aC BK12.out 3).trans rfl
   have hygb12_3_29 := aD BK12.out 3
   have hzgb12_4_29 : w21.cell? ⟨gb12, 4, none⟩ = some (.int .i64 ((rd_T27 m x5).f4)) := (aC BK12.out 4).trans rfl
   have hygb12_4_29 := aD BK12.out 4
   have hzgb20_0_29 : w21.cell? ⟨gb20, 0, none⟩ = some (.int .i64 q0) := (aC BK20.out 0).trans rfl
   have hygb20_0_29 := aD BK20.out 0
   have hzgb20_1_29 : w21.cell? ⟨gb20, 1, none⟩ = some (.int .i64 q1) := (aC BK20.out 1).trans rfl
   have hygb20_1_29 := aD BK20.out 1
   have hzgb20_2_29 : w21.cell? ⟨gb20, 2, none⟩ = some (.int .i64 q2) := (aC BK20.out 2).trans rfl
   have hygb20_2_29 := aD BK20.out 2
   have hzgb20_3_29 : w21.cell? ⟨gb20, 3, none⟩ = some (.int .i64 q3) := (aC BK20.out 3).trans rfl
   have hygb20_3_29 := aD BK20.out 3
   have hzgb20_4_29 : w21.cell? ⟨gb20, 4, none⟩ = some (.int .i64 q4) := (aC BK20.out 4).trans rfl
   have hygb20_4_29 := aD BK20.out 4
   try go_wp2
   obtain ⟨ad30, ee30, hx30_0, hx30_1, hx30_2, hx30_3, hx30_4⟩ := at_T27 (Kd.F_now HF3_0.out) x5 hp_ hq_
   obtain rfl := Option.some.inj ee30
   have HX30_0 := aA.mk hx30_0
   have HX30_1 := aA.mk hx30_1
   have HX30_2 := aA.mk hx30_2
   have HX30_3 := aA.mk hx30_3
   have HX30_4 := aA.mk hx30_4
   obtain ⟨ad31, ee31, hx31_0, hx31_1, hx31_2, hx31_3, hx31_4⟩ := at_T27 (Kd.F_now HF3_0.out) jm5 hpj_ hqj_
   obtain rfl := Option.some.inj ee31
   have HX31_0 := aA.mk hx31_0
   have HX31_1 := aA.mk hx31_1
   have HX31_2 := aA.mk hx31_2
   have HX31_3 := aA.mk hx31_3
   have HX31_4 := aA.mk hx31_4
   have n_ := aA.mk (Kd.F_drew HF0.out)
   clear HF0
   have HF0 := n_
   clear n_
   have n_ := aA.mk (Kd.F_drew HF2_0.out)
   clear HF2_0
   have HF2_0 := n_
   clear n_
   have n_ := aA.mk (Kd.aY HS2_0.out)
   clear HS2_0
   have HS2_0 := n_
   clear n_
   have n_ := aA.mk (Kd.F_drew HF2_1.out)
   clear HF2_1
   have HF2_1 := n_
   clear n_
   have n_ := aA.mk (Kd.aY HS2_1.out)
   clear HS2_1
   have HS2_1 := n_
   clear n_
   have n_ := aA.mk (Kd.F_drew HF3_0.out)
   clear HF3_0
   have HF3_0 := n_
   clear n_
   have n_ := aA.mk (Kd.aY HS3_0.out)
   clear HS3_0
   have HS3_0 := n_
   clear n_
   have n_ := aA.mk (Kd.F_drew HF4_0.out)
   clear HF4_0
   have HF4_0 := n_
   clear n_
   have n_ := aA.mk (Kd.aY HS4_0.out)
   clear HS4_0
   have HS4_0 := n_
   clear n_
   have n_ := aA.mk (aM BK12.out)
   clear BK12
   have BK12 := n_
   clear n_
   have n_ := aA.mk (aM BK20.out)
   clear BK20
   have BK20 := n_
   clear n_
   have n_ := aA.mk (aG HB.out)
   clear HB
   have HB := n_
   clear n_
   have n_ := aA.mk (show _ ≤ w21.drew.heap.size from HT.out)
   clear HT
   have HT := n_
   clear n_
   have n_ := aA.mk (show w21.drew.cell? (ad6.add (x5.toNat * 5)) = some (.int .i64 (rd_T27 m x5).f0) from HX30_0.out)
   clear HX30_0
   have HX30_0 := n_
   clear n_
   have n_ := aA.mk (show w21.drew.cell? ⟨(ad6.add (x5.toNat * 5)).block, (ad6.add (x5.toNat * 5)).off + 1, none⟩ = some (.int .i64 (rd_T27 m x5).f1) from HX30_1.out)
   clear HX30_1
   have HX30_1 := n_
   clear n_
   have n_ := aA.mk (show w21.drew.cell? ⟨(ad6.add (x5.toNat * 5)).block, (ad6.add (x5.toNat * 5)).off + 2, none⟩ = some (.int .i64 (rd_T27 m x5).f2) from HX30_2.out)
   clear HX30_2
   have HX30_2 := n_
   clear n_
   have n_ := aA.mk (show w21.drew.cell? ⟨(ad6.add (x5.toNat * 5)).block, (ad6.add (x5.toNat * 5)).off + 3, none⟩ = some (.int .i64 (rd_T27 m x5).f3) from HX30_3.out)
   clear HX30_3
   have HX30_3 := n_
   clear n_
   have n_ := aA.mk (show w21.drew.cell? ⟨(ad6.add (x5.toNat * 5)).block, (ad6.add (x5.toNat * 5)).off + 4, none⟩ = some (.int .i64 (rd_T27 m x5).f4) from HX30_4.out)
   clear HX30_4
   have HX30_4 := n_
   clear n_
   have n_ := aA.mk (show w21.drew.cell? (ad6.add (jm5.toNat * 5)) = some (.int .i64 (rd_T27 m jm5).f0) from HX31_0.out)
   clear HX31_0
   have HX31_0 := n_
   clear n_
   have n_ := aA.mk (show w21.drew.cell? ⟨(ad6.add (jm5.toNat * 5)).block, (ad6.add (jm5.toNat * 5)).off + 1, none⟩ = some (.int .i64 (rd_T27 m jm5).f1) from HX31_1.out)
   clear HX31_1
   have HX31_1 := n_
   clear n_
   have n_ := aA.mk (show w21.drew.cell? ⟨(ad6.add (jm5.toNat * 5)).block, (ad6.add (jm5.toNat * 5)).off + 2, none⟩ = some (.int .i64 (rd_T27 m jm5).f2) from HX31_2.out)
   clear HX31_2
   have HX31_2 := n_
   clear n_
   have n_ := aA.mk (show w21.drew.cell? ⟨(ad6.add (jm5.toNat * 5)).block, (ad6.add (jm5.toNat * 5)).off + 3, none⟩ = some (.int .i64 (rd_T27 m jm5).f3) from HX31_3.out)
   clear HX31_3
   have HX31_3 := n_
   clear n_
   have n_ := aA.mk (show w21.drew.cell? ⟨(ad6.add (jm5.toNat * 5)).block, (ad6.add (jm5.toNat * 5)).off + 4, none⟩ = some (.int .i64 (rd_T27 m jm5).f4) from HX31_4.out)
   clear HX31_4
   have HX31_4 := n_
   clear n_
   refine start_ (n := 42) (S := fun w' => w'.cell? ⟨gb20, 0, none⟩ = some (.int .i64 q0) ∧ w'.cell? ⟨gb20, 1, none⟩ = some (.int .i64 q1) ∧ w'.cell? ⟨gb20, 2, none⟩ = some (.int .i64 q2) ∧ w'.cell? ⟨gb20, 3, none⟩ = some (.int .i64 q3) ∧ w'.cell? ⟨gb20, 4, none⟩ = some (.int .i64 q4) ∧ w'.cell? ⟨gb12, 0, none⟩ = some (.int .i64 ((rd_T27 m x5).f0)) ∧ w'.cell? ⟨gb12, 1, none⟩ = some (.int .i64 ((rd_T27 m x5).f1)) ∧ w'.cell? ⟨gb12, 2, none⟩ = some (.int .i64 ((rd_T27 m x5).f2)) ∧ w'.cell? ⟨gb12, 3, none⟩ = some (.int .i64 ((rd_T27 m x5).f3)) ∧ w'.cell? ⟨gb12, 4, none⟩ = some (.int .i64 ((rd_T27 m x5).f4)) ∧ w'.cell? (ad6.add (x5.toNat * 5)) = some (.int .i64 (rd_T27 m x5).f0) ∧ w'.cell? ⟨(ad6.add (x5.toNat * 5)).block, (ad6.add (x5.toNat * 5)).off + 1, none⟩ = some (.int .i64 (rd_T27 m x5).f1) ∧ w'.cell? ⟨(ad6.add (x5.toNat * 5)).block, (ad6.add (x5.toNat * 5)).off + 2, none⟩ = some (.int .i64 (rd_T27 m x5).f2) ∧ w'.cell? ⟨(ad6.add (x5.toNat * 5)).block, (ad6.add (x5.toNat * 5)).off + 3, none⟩ = some (.int .i64 (rd_T27 m x5).f3) ∧ w'.cell? ⟨(ad6.add (x5.toNat * 5)).block, (ad6.add (x5.toNat * 5)).off + 4, none⟩ = some (.int .i64 (rd_T27 m x5).f4) ∧ w'.cell? (ad6.add (jm5.toNat * 5)) = some (.int .i64 (rd_T27 m jm5).f0) ∧ w'.cell? ⟨(ad6.add (jm5.toNat * 5)).block, (ad6.add (jm5.toNat * 5)).off + 1, none⟩ = some (.int .i64 (rd_T27 m jm5).f1) ∧ w'.cell? ⟨(ad6.add (jm5.toNat * 5)).block, (ad6.add (jm5.toNat * 5)).off + 2, none⟩ = some (.int .i64 (rd_T27 m jm5).f2) ∧ w'.cell? ⟨(ad6.add (jm5.toNat * 5)).block, (ad6.add (jm5.toNat * 5)).off + 3, none⟩ = some (.int .i64 (rd_T27 m jm5).f3) ∧ w'.cell? ⟨(ad6.add (jm5.toNat * 5)).block, (ad6.add (jm5.toNat * 5)).off + 4, none⟩ = some (.int .i64 (rd_T27 m jm5).f4)) (ds := []) #[false, false, false, false, false, false, false, false, false, false, false, false, false, false, false, false, false, false, false, false, false, false, false, false, false, false, false, false, false, false, false, false, false, false, false, false, false, false, false, false, false, false] (by kernel_rfl) rfl rfl ⟨(aC BK20.out 0).trans rfl, (aC BK20.out 1).trans rfl, (aC BK20.out 2).trans rfl, (aC BK20.out 3).trans rfl, (aC BK20.out 4).trans rfl, (aC BK12.out 0).trans rfl, (aC BK12.out 1).trans rfl, (aC BK12.out 2).trans rfl, (aC BK12.out 3).trans rfl, (aC BK12.out 4).trans rfl, HX30_0.out, HX30_1.out, HX30_2.out, HX30_3.out, HX30_4.out, HX31_0.out, HX31_1.out, HX31_2.out, HX31_3.out, HX31_4.out⟩ (fun hHeld => ?_)
   generalize w21.drew = w32 at HF0 HF2_0 HS2_0 HF2_1 HS2_1 HF3_0 HS3_0 HF4_0 HS4_0 BK12 BK20 HB HT HX30_0 HX30_1 HX30_2 HX30_3 HX30_4 HX31_0 HX31_1 HX31_2 HX31_3 HX31_4 hHeld ⊢
   refine aU (i := 0) (N := some 64) (v := ?_) (a' := ?_) #[true, false, false, false, false, false, false, false, false, false, false, false, false, false, false, false, false, false, false, false, false, false, false, false, false, false, false, false, false, false, false, false, false, false, false, false, false, false, false, false, false, false] rfl rfl (by kernel_rfl) (fun _ _ _ h => h) (Or.inl ⟨by rfl, ?_⟩) ?_ ?_
   rotate_left
   ·intro w'
    go_simp
    with_reducible rfl
   rotate_left
   ·simp only [Act.put, lA, lB, lC, aQ, aT]
    rfl
   refine aU (i := 1) (N := some 65) (v := ?_) (a' := ?_) #[true, true, false, false, false, false, false, false, false, false, false, false, false, false, false, false, false, false, false, false, false, false, false, false, false, false, false, false, false, false, false, false, false, false, false, false, false, false, false, false, false, false] rfl rfl (by kernel_rfl) (fun _ _ _ h => h) (Or.inl ⟨by rfl, ?_⟩) ?_ ?_
   rotate_left
   ·intro w'
    go_simp
    with_reducible rfl
   rotate_left
   ·simp only [Act.put, lA, lB, lC, aQ, aT]
    rfl
   refine aU (i := 2) (N := some 66) (v := undef) (a' := ?_) #[true, true, true, false, false, false, false, false, false, false, false, false, false, false, false, false, false, false, false, false, false, false, false, false, false, false, false, false, false, false, false, false, false, false, false, false, false, false, false, false, false, false] rfl rfl (by kernel_rfl) (fun _ _ _ h => h) (Or.inr ⟨by rfl, rfl⟩) ?_ ?_
   rotate_left
   ·simp only [Act.put, lA, lB, lC, aQ, aT]
    rfl
   refine aU (i := 3) (N := some 67) (v := undef) (a' := ?_) #[true, true, true, true, false, false, false, false, false, false, false, false, false, false, false, false, false, false, false, false, false, false, false, false, false, false, false, false, false, false, false, false, false, false, false, false, false, false, false, false, false, false] rfl rfl (by kernel_rfl) (fun _ _ _ h => h) (Or.inr ⟨by rfl, rfl⟩) ?_ ?_
   rotate_left
   ·simp only [Act.put, lA, lB, lC, aQ, aT]
    rfl
   refine aU (i := 4) (N := some 68) (v := undef) (a' := ?_) #[true, true, true, true, true, false, false, false, false, false, false, false, false, false, false, false, false, false, false, false, false, false, false, false, false, false, false, false, false, false, false, false, false, false, false, false, false, false, false, false, false, false] rfl rfl (by kernel_rfl) (fun _ _ _ h => h) (Or.inr ⟨by rfl, rfl⟩) ?_ ?_
   rotate_left
   ·simp only [Act.put, lA, lB, lC, aQ, aT]
    rfl
   refine aU (i := 5) (N := some 69) (v := undef) (a' := ?_) #[true, true, true, true, true, true, false, false, false, false, false, false, false, false, false, false, false, false, false, false, false, false, false, false, false, false, false, false, false, false, false, false, false, false, false, false, false, false, false, false, false, false] rfl rfl (by kernel_rfl) (fun _ _ _ h => h) (Or.inr ⟨by rfl, rfl⟩) ?_ ?_
   rotate_left
   ·simp only [Act.put, lA, lB, lC, aQ, aT]
    rfl
   refine aU (i := 6) (N := some 70) (v := undef) (a' := ?_) #[true, true, true, true, true, true, true, false, false, false, false, false, false, false, false, false, false, false, false, false, false, false, false, false, false, false, false, false, false, false, false, false, false, false, false, false, false, false, false, false, false, false] rfl rfl (by kernel_rfl) (fun _ _ _ h => h) (Or.inr ⟨by rfl, rfl⟩) ?_ ?_
   rotate_left
   ·simp only [Act.put, lA, lB, lC, aQ, aT]
    rfl
   refine aU (i := 7) (N := some 71) (v := undef) (a' := ?_) #[true, true, true, true, true, true, true, true, false, false, false, false, false, false, false, false, false, false, false, false, false, false, false, false, false, false, false, false, false, false, false, false, false, false, false, false, false, false, false, false, false, false] rfl rfl (by kernel_rfl) (fun _ _ _ h => h) (Or.inr ⟨by rfl, rfl⟩) ?_ ?_
   rotate_left
   ·simp only [Act.put, lA, lB, lC, aQ, aT]
    rfl
   refine aU (i := 8) (N := some 72) (v := ?_) (a' := ?_) #[true, true, true, true, true, true, true, true, true, false, false, false, false, false, false, false, false, false, false, false, false, false, false, false, false, false, false, false, false, false, false, false, false, false, false, false, false, false, false, false, false, false] rfl rfl (by kernel_rfl) (fun _ _ _ h => h) (Or.inl ⟨by rfl, ?_⟩) ?_ ?_
   rotate_left
   ·intro w'
    go_simp
    with_reducible rfl
   rotate_left
   ·simp only [Act.put, lA, lB, lC, aQ, aT]
    rfl
   refine aU (i := 9) (N := some 73) (v := ?_) (a' := ?_) #[true, true, true, true, true, true, true, true, true, true, false, false, false, false, false, false, false, false, false, false, false, false, false, false, false, false, false, false, false, false, false, false, false, false, false, false, false, false, false, false, false, false] rfl rfl (by kernel_rfl) (fun _ _ _ h => h) (Or.inl ⟨by rfl, ?_⟩) ?_ ?_
   rotate_left
   ·intro w'
    go_simp
    with_reducible rfl
   rotate_left
   ·simp only [Act.put, lA, lB, lC, aQ, aT]
    rfl
   refine aU (i := 10) (N := some 74) (v := ?_) (a' := ?_) #[true, true, true, true, true, true, true, true, true, true, true, false, false, false, false, false, false, false, false, false, false, false, false, false, false, false, false, false, false, false, false, false, false, false, false, false, false, false, false, false, false, false] rfl rfl (by kernel_rfl) (fun _ _ _ h => h) (Or.inl ⟨by rfl, ?_⟩) ?_ ?_
   rotate_left
   ·intro w'
    go_simp
    with_reducible rfl
   rotate_left
   ·simp only [Act.put, lA, lB, lC, aQ, aT]
    rfl
   refine aU (i := 11) (N := some 75) (v := ?_) (a' := ?_) #[true, true, true, true, true, true, true, true, true, true, true, true, false, false, false, false, false, false, false, false, false, false, false, false, false, false, false, false, false, false, false, false, false, false, false, false, false, false, false, false, false, false] rfl rfl (by kernel_rfl) (fun _ _ _ h => h) (Or.inl ⟨by rfl, ?_⟩) ?_ ?_
   rotate_left
   ·intro w'
    go_simp
    with_reducible rfl
   rotate_left
   ·simp only [Act.put, lA, lB, lC, aQ, aT]
    rfl
   refine aU (i := 12) (N := some 76) (v := ?_) (a' := ?_) #[true, true, true, true, true, true, true, true, true, true, true, true, true, false, false, false, false, false, false, false, false, false, false, false, false, false, false, false, false, false, false, false, false, false, false, false, false, false, false, false, false, false] rfl rfl (by kernel_rfl) (fun _ _ _ h => h) (Or.inl ⟨by rfl, ?_⟩) ?_ ?_
   rotate_left
   ·intro w'
    go_simp
    with_reducible rfl
   rotate_left
   ·simp only [Act.put, lA, lB, lC, aQ, aT]
    rfl
   refine aU (i := 13) (N := some 77) (v := ?_) (a' := ?_) #[true, true, true, true, true, true, true, true, true, true, true, true, true, true, false, false, false, false, false, false, false, false, false, false, false, false, false, false, false, false, false, false, false, false, false, false, false, false, false, false, false, false] rfl rfl (by kernel_rfl) (fun _ _ _ h => h) (Or.inl ⟨by rfl, ?_⟩) ?_ ?_
   rotate_left
   ·intro w'
    go_simp
    with_reducible rfl
   rotate_left
   ·simp only [Act.put, lA, lB, lC, aQ, aT]
    rfl
   refine aU (i := 14) (N := some 78) (v := ?_) (a' := ?_) #[true, true, true, true, true, true, true, true, true, true, true, true, true, true, true, false, false, false, false, false, false, false, false, false, false, false, false, false, false, false, false, false, false, false, false, false, false, false, false, false, false, false] rfl rfl (by kernel_rfl) (fun _ _ _ h => h) (Or.inl ⟨by rfl, ?_⟩) ?_ ?_
   rotate_left
   ·intro w'
    go_simp
    with_reducible rfl
   rotate_left
   ·simp only [Act.put, lA, lB, lC, aQ, aT]
    rfl
   refine aU (i := 15) (N := some 79) (v := ?_) (a' := ?_) #[true, true, true, true, true, true, true, true, true, true, true, true, true, true, true, true, false, false, false, false, false, false, false, false, false, false, false, false, false, false, false, false, false, false, false, false, false, false, false, false, false, false] rfl rfl (by kernel_rfl) (fun _ _ _ h => h) (Or.inl ⟨by rfl, ?_⟩) ?_ ?_
   rotate_left
   ·intro w'
    go_simp
    with_reducible rfl
   rotate_left
   ·simp only [Act.put, lA, lB, lC, aQ, aT]
    rfl
   refine aU (i := 16) (N := some 80) (v := ?_) (a' := ?_) #[true, true, true, true, true, true, true, true, true, true, true, true, true, true, true, true, true, false, false, false, false, false, false, false, false, false, false, false, false, false, false, false, false, false, false, false, false, false, false, false, false, false] rfl rfl (by kernel_rfl) (fun _ _ _ h => h) (Or.inl ⟨by rfl, ?_⟩) ?_ ?_
   rotate_left
   ·intro w'
    go_simp
    with_reducible rfl
   rotate_left
   ·simp only [Act.put, lA, lB, lC, aQ, aT]
    rfl
   refine aU (i := 17) (N := some 81) (v := ?_) (a' := ?_) #[true, true, true, true, true, true, true, true, true, true, true, true, true, true, true, true, true, true, false, false, false, false, false, false, false, false, false, false, false, false, false, false, false, false, false, false, false, false, false, false, false, false] rfl rfl (by kernel_rfl) (fun _ _ _ h => h) (Or.inl ⟨by rfl, ?_⟩) ?_ ?_
   rotate_left
   ·intro w'
    go_simp
    with_reducible rfl
   rotate_left
   ·simp only [Act.put, lA, lB, lC, aQ, aT]
    rfl
   refine aU (i := 18) (N := some 82) (v := ?_) (a' := ?_) #[true, true, true, true, true, true, true, true, true, true, true, true, true, true, true, true, true, true, true, false, false, false, false, false, false, false, false, false, false, false, false, false, false, false, false, false, false, false, false, false, false, false] rfl rfl (by kernel_rfl) (fun _ _ _ h => h) (Or.inl ⟨by rfl, ?_⟩) ?_ ?_
   rotate_left
   ·intro w'
    go_simp
    with_reducible rfl
   rotate_left
   ·simp only [Act.put, lA, lB, lC, aQ, aT]
    rfl
   refine take_ (i := 19) (N := some 83) (v := ?_) (a' := ?_) #[true, true, true, true, true, true, true, true, true, true, true, true, true, true, true, true, true, true, true, true, false, false, false, false, false, false, false, false, false, false, false, false, false, false, false, false, false, false, false, false, false, false] rfl rfl (by kernel_rfl) (fun _ _ _ h => h) (Or.inl ⟨by rfl, ?_⟩) hHeld ?_ ?_
   rotate_left
   ·rintro w' ⟨s0, s1, s2, s3, s4, s5, s6, s7, s8, s9, s10, s11, s12, s13, s14, s15, s16, s17, s18, s19⟩
    go_simp
    with_reducible rfl
   rotate_left
   ·simp only [Act.put, lA, lB, lC, aQ, aT]
    rfl
   refine take_ (i := 20) (N := some 84) (v := ?_) (a' := ?_) #[true, true, true, true, true, true, true, true, true, true, true, true, true, true, true, true, true, true, true, true, true, false, false, false, false, false, false, false, false, false, false, false, false, false, false, false, false, false, false, false, false, false] rfl rfl (by kernel_rfl) (fun _ _ _ h => h) (Or.inl ⟨by rfl, ?_⟩) hHeld ?_ ?_
   rotate_left
   ·rintro w' ⟨s0, s1, s2, s3, s4, s5, s6, s7, s8, s9, s10, s11, s12, s13, s14, s15, s16, s17, s18, s19⟩
    go_simp
    with_reducible rfl
   rotate_left
   ·simp only [Act.put, lA, lB, lC, aQ, aT]
    rfl
   refine aU (i := 21) (N := some 85) (v := ?_) (a' := ?_) #[true, true, true, true, true, true, true, true, true, true, true, true, true, true, true, true, true, true, true, true, true, true, false, false, false, false, false, false, false, false, false, false, false, false, false, false, false, false, false, false, false, false] rfl rfl (by kernel_rfl) (fun _ _ _ h => h) (Or.inl ⟨by rfl, ?_⟩) ?_ ?_
   rotate_left
   ·intro w'
    go_simp
    with_reducible rfl
   rotate_left
   ·simp only [Act.put, lA, lB, lC, aQ, aT]
    rfl
   refine aU (i := 22) (N := some 86) (v := ?_) (a' := ?_) #[true, true, true, true, true, true, true, true, true, true, true, true, true, true, true, true, true, true, true, true, true, true, true, false, false, false, false, false, false, false, false, false, false, false, false, false, false, false, false, false, false, false] rfl rfl (by kernel_rfl) (fun _ _ _ h => h) (Or.inl ⟨by rfl, ?_⟩) ?_ ?_
   rotate_left
   ·intro w'
    go_simp
    with_reducible rfl
   rotate_left
   ·simp only [Act.put, lA, lB, lC, aQ, aT]
    rfl
   refine aU (i := 23) (N := some 87) (v := ?_) (a' := ?_) #[true, true, true, true, true, true, true, true, true, true, true, true, true, true, true, true, true, true, true, true, true, true, true, true, false, false, false, false, false, false, false, false, false, false, false, false, false, false, false, false, false, false] rfl rfl (by kernel_rfl) (fun _ _ _ h => h) (Or.inl ⟨by rfl, ?_⟩) ?_ ?_
   rotate_left
   ·intro w'
    go_simp
    with_reducible rfl
   rotate_left
   ·simp only [Act.put, lA, lB, lC, aQ, aT]
    rfl
   refine aU (i := 24) (N := some 88) (v := ?_) (a' := ?_) #[true, true, true, true, true, true, true, true, true, true, true, true, true, true, true, true, true, true, true, true, true, true, true, true, true, false, false, false, false, false, false, false, false, false, false, false, false, false, false, false, false, false] rfl rfl (by kernel_rfl) (fun _ _ _ h => h) (Or.inl ⟨by rfl, ?_⟩) ?_ ?_
   rotate_left
   ·intro w'
    go_simp
    with_reducible rfl
   rotate_left
   ·simp only [Act.put, lA, lB, lC, aQ, aT]
    rfl
   refine aU (i := 25) (N := some 89) (v := ?_) (a' := ?_) #[true, true, true, true, true, true, true, true, true, true, true, true, true, true, true, true, true, true, true, true, true, true, true, true, true, true, false, false, false, false, false, false, false, false, false, false, false, false, false, false, false, false] rfl rfl (by kernel_rfl) (fun _ _ _ h => h) (Or.inl ⟨by rfl, ?_⟩) ?_ ?_
   rotate_left
   ·intro w'
    go_simp
    with_reducible rfl
   rotate_left
   ·simp only [Act.put, lA, lB, lC, aQ, aT]
    rfl
   refine aU (i := 26) (N := some 90) (v := ?_) (a' := ?_) #[true, true, true, true, true, true, true, true, true, true, true, true, true, true, true, true, true, true, true, true, true, true, true, true, true, true, true, false, false, false, false, false, false, false, false, false, false, false, false, false, false, false] rfl rfl (by kernel_rfl) (fun _ _ _ h => h) (Or.inl ⟨by rfl, ?_⟩) ?_ ?_
   rotate_left
   ·intro w'
    go_simp
    with_reducible rfl
   rotate_left
   ·simp only [Act.put, lA, lB, lC, aQ, aT]
    rfl
   refine aU (i := 27) (N := some 91) (v := ?_) (a' := ?_) #[true, true, true, true, true, true, true, true, true, true, true, true, true, true, true, true, true, true, true, true, true, true, true, true, true, true, true, true, false, false, false, false, false, false, false, false, false, false, false, false, false, false] rfl rfl (by kernel_rfl) (fun _ _ _ h => h) (Or.inl ⟨by rfl, ?_⟩) ?_ ?_
   rotate_left
   ·intro w'
    go_simp
    with_reducible rfl
   rotate_left
   ·simp only [Act.put, lA, lB, lC, aQ, aT]
    rfl
   refine aU (i := 28) (N := some 92) (v := ?_) (a' := ?_) #[true, true, true, true, true, true, true, true, true, true, true, true, true, true, true, true, true, true, true, true, true, true, true, true, true, true, true, true, true, false, false, false, false, false, false, false, false, false, false, false, false, false] rfl rfl (by kernel_rfl) (fun _ _ _ h => h) (Or.inl ⟨by rfl, ?_⟩) ?_ ?_
   rotate_left
   ·intro w'
    go_simp
    with_reducible rfl
   rotate_left
   ·simp only [Act.put, lA, lB, lC, aQ, aT]
    rfl
   refine aU (i := 29) (N := some 93) (v := ?_) (a' := ?_) #[true, true, true, true, true, true, true, true, true, true, true, true, true, true, true, true, true, true, true, true, true, true, true, true, true, true, true, true, true, true, false, false, false, false, false, false, false, false, false, false, false, false] rfl rfl (by kernel_rfl) (fun _ _ _ h => h) (Or.inl ⟨by rfl, ?_⟩) ?_ ?_
   rotate_left
   ·intro w'
    go_simp
    with_reducible rfl
   rotate_left
   ·simp only [Act.put, lA, lB, lC, aQ, aT]
    rfl
   refine aU (i := 30) (N := some 94) (v := ?_) (a' := ?_) #[true, true, true, true, true, true, true, true, true, true, true, true, true, true, true, true, true, true, true, true, true, true, true, true, true, true, true, true, true, true, true, false, false, false, false, false, false, false, false, false, false, false] rfl rfl (by kernel_rfl) (fun _ _ _ h => h) (Or.inl ⟨by rfl, ?_⟩) ?_ ?_
   rotate_left
   ·intro w'
    go_simp
    with_reducible rfl
   rotate_left
   ·simp only [Act.put, lA, lB, lC, aQ, aT]
    rfl
   refine aU (i := 31) (N := some 95) (v := ?_) (a' := ?_) #[true, true, true, true, true, true, true, true, true, true, true, true, true, true, true, true, true, true, true, true, true, true, true, true, true, true, true, true, true, true, true, true, false, false, false, false, false, false, false, false, false, false] rfl rfl (by kernel_rfl) (fun _ _ _ h => h) (Or.inl ⟨by rfl, ?_⟩) ?_ ?_
   rotate_left
   ·intro w'
    go_simp
    with_reducible rfl
   rotate_left
   ·simp only [Act.put, lA, lB, lC, aQ, aT]
    rfl
   refine aU (i := 32) (N := some 96) (v := ?_) (a' := ?_) #[true, true, true, true, true, true, true, true, true, true, true, true, true, true, true, true, true, true, true, true, true, true, true, true, true, true, true, true, true, true, true, true, true, false, false, false, false, false, false, false, false, false] rfl rfl (by kernel_rfl) (fun _ _ _ h => h) (Or.inl ⟨by rfl, ?_⟩) ?_ ?_
   rotate_left
   ·intro w'
    go_simp
    with_reducible rfl
   rotate_left
   ·simp only [Act.put, lA, lB, lC, aQ, aT]
    rfl
   refine take_ (i := 33) (N := some 97) (v := ?_) (a' := ?_) #[true, true, true, true, true, true, true, true, true, true, true, true, true, true, true, true, true, true, true, true, true, true, true, true, true, true, true, true, true, true, true, true, true, true, false, false, false, false, false, false, false, false] rfl rfl (by kernel_rfl) (fun _ _ _ h => h) (Or.inl ⟨by rfl, ?_⟩) hHeld ?_ ?_
   rotate_left
   ·rintro w' ⟨s0, s1, s2, s3, s4, s5, s6, s7, s8, s9, s10, s11, s12, s13, s14, s15, s16, s17, s18, s19⟩
    go_simp
    with_reducible rfl
   rotate_left
   ·simp only [Act.put, lA, lB, lC, aQ, aT]
    rfl
   refine aU (i := 34) (N := some 98) (v := ?_) (a' := ?_) #[true, true, true, true, true, true, true, true, true, true, true, true, true, true, true, true, true, true, true, true, true, true, true, true, true, true, true, true, true, true, true, true, true, true, true, false, false, false, false, false, false, false] rfl rfl (by kernel_rfl) (fun _ _ _ h => h) (Or.inl ⟨by rfl, ?_⟩) ?_ ?_
   rotate_left
   ·intro w'
    go_simp
    with_reducible rfl
   rotate_left
   ·simp only [Act.put, lA, lB, lC, aQ, aT]
    rfl
   refine aU (i := 35) (N := some 99) (v := ?_) (a' := ?_) #[true, true, true, true, true, true, true, true, true, true, true, true, true, true, true, true, true, true, true, true, true, true, true, true, true, true, true, true, true, true, true, true, true, true, true, true, false, false, false, false, false, false] rfl rfl (by kernel_rfl) (fun _ _ _ h => h) (Or.inl ⟨by rfl, ?_⟩) ?_ ?_
   rotate_left
   ·intro w'
    go_simp
    with_reducible rfl
   rotate_left
   ·simp only [Act.put, lA, lB, lC, aQ, aT]
    rfl
   refine aU (i := 36) (N := some 100) (v := ?_) (a' := ?_) #[true, true, true, true, true, true, true, true, true, true, true, true, true, true, true, true, true, true, true, true, true, true, true, true, true, true, true, true, true, true, true, true, true, true, true, true, true, false, false, false, false, false] rfl rfl (by kernel_rfl) (fun _ _ _ h => h) (Or.inl ⟨by rfl, ?_⟩) ?_ ?_
   rotate_left
   ·intro w'
    go_simp
    with_reducible rfl
   rotate_left
   ·simp only [Act.put, lA, lB, lC, aQ, aT]
    rfl
   refine take_ (i := 37) (N := some 101) (v := ?_) (a' := ?_) #[true, true, true, true, true, true, true, true, true, true, true, true, true, true, true, true, true, true, true, true, true, true, true, true, true, true, true, true, true, true, true, true, true, true, true, true, true, true, false, false, false, false] rfl rfl (by kernel_rfl) (fun _ _ _ h => h) (Or.inl ⟨by rfl, ?_⟩) hHeld ?_ ?_
   rotate_left
   ·rintro w' ⟨s0, s1, s2, s3, s4, s5, s6, s7, s8, s9, s10, s11, s12, s13, s14, s15, s16, s17, s18, s19⟩
    go_simp
    with_reducible rfl
   rotate_left
   ·simp only [Act.put, lA, lB, lC, aQ, aT]
    rfl
   refine one_ (i := 38) (N := some 102) #[true, true, true, true, true, true, true, true, true, true, true, true, true, true, true, true, true, true, true, true, true, true, true, true, true, true, true, true, true, true, true, true, true, true, true, true, true, true, true, false, false, false] rfl rfl (by kernel_rfl) (by decide) (fun K hK => ?_)
   refine goes_ Try.func28 (by kernel_rfl) rfl #[.agg #[.int .i64 ((rd_T27 m jm5).f0), .int .i64 ((rd_T27 m jm5).f1), .int .i64 ((rd_T27 m jm5).f2), .int .i64 ((rd_T27 m jm5).f3), .int .i64 ((rd_T27 m jm5).f4)], .agg #[.int .i64 ((rd_T27 m x5).f0), .int .i64 ((rd_T27 m x5).f1), .int .i64 ((rd_T27 m x5).f2), .int .i64 ((rd_T27 m x5).f3), .int .i64 ((rd_T27 m x5).f4)]] (by rfl) rfl rfl (by (try simp only [List.map_toArray, List.map_cons, List.map_nil]); first | done | rfl | (simp only [List.length_drop, List.length_take]; rfl)) ?_
   (with_reducible refine (impl_LessKey.calls ((rd_T27 m jm5).f0) ((rd_T27 m jm5).f1) ((rd_T27 m jm5).f2) ((rd_T27 m jm5).f3) ((rd_T27 m jm5).f4) ((rd_T27 m x5).f0) ((rd_T27 m x5).f1) ((rd_T27 m x5).f2) ((rd_T27 m x5).f3) ((rd_T27 m x5).f4) true _ RL.out).mono ?_)
   rintro e_ w33 ⟨rfl, hb⟩
   refine ⟨_, rfl, ?_⟩
   have n0_ := aA.mk (Kd.bA HF0.out hb)
   have n1_ := aA.mk (Kd.bA HF2_0.out hb)
   have n2_ := aA.mk (Kd.bB HS2_0.out hb)
   have n3_ := aA.mk (Kd.bA HF2_1.out hb)
   have n4_ := aA.mk (Kd.bB HS2_1.out hb)
   have n5_ := aA.mk (Kd.bA HF3_0.out hb)
   have n6_ := aA.mk (Kd.bB HS3_0.out hb)
   have n7_ := aA.mk (Kd.bA HF4_0.out hb)
   have n8_ := aA.mk (Kd.bB HS4_0.out hb)
   have n9_ := aA.mk (aV hb HX30_0.out)
   have n10_ := aA.mk (aV hb HX30_1.out)
   have n11_ := aA.mk (aV hb HX30_2.out)
   have n12_ := aA.mk (aV hb HX30_3.out)
   have n13_ := aA.mk (aV hb HX30_4.out)
   have n14_ := aA.mk (aV hb HX31_0.out)
   have n15_ := aA.mk (aV hb HX31_1.out)
   have n16_ := aA.mk (aV hb HX31_2.out)
   have n17_ := aA.mk (aV hb HX31_3.out)
   have n18_ := aA.mk (aV hb HX31_4.out)
   have n19_ := aA.mk (bE BK12.out hb)
   have n20_ := aA.mk (bE BK20.out hb)
   have n21_ := aA.mk (aX HB.out hb)
   have n22_ := aA.mk (Nat.le_trans HT.out hb.size)
   (try clear HF0)
   (try clear HF2_0)
   (try clear HS2_0)
   (try clear HF2_1)
   (try clear HS2_1)
   (try clear HF3_0)
   (try clear HS3_0)
   (try clear HF4_0)
   (try clear HS4_0)
   (try clear HX30_0)
   (try clear HX30_1)
   (try clear HX30_2)
   (try clear HX30_3)
   (try clear HX30_4)
   (try clear HX31_0)
   (try clear HX31_1)
   (try clear HX31_2)
   (try clear HX31_3)
   (try clear HX31_4)
   (try clear BK12)
   (try clear BK20)
   (try clear HB)
   (try clear HT)
   have HF0 := n0_
   have HF2_0 := n1_
   have HS2_0 := n2_
   have HF2_1 := n3_
   have HS2_1 := n4_
   have HF3_0 := n5_
   have HS3_0 := n6_
   have HF4_0 := n7_
   have HS4_0 := n8_
   have HX30_0 := n9_
   have HX30_1 := n10_
   have HX30_2 := n11_
   have HX30_3 := n12_
   have HX30_4 := n13_
   have HX31_0 := n14_
   have HX31_1 := n15_
   have HX31_2 := n16_
   have HX31_3 := n17_
   have HX31_4 := n18_
   have BK12 := n19_
   have BK20 := n20_
   have HB := n21_
   have HT := n22_
   clear n0_ n1_ n2_ n3_ n4_ n5_ n6_ n7_ n8_ n9_ n10_ n11_ n12_ n13_ n14_ n15_ n16_ n17_ n18_ n19_ n20_ n21_ n22_
   (try clear hb)
   refine hK.out _ _ ⟨(aC BK20.out 0).trans rfl, (aC BK20.out 1).trans rfl, (aC BK20.out 2).trans rfl, (aC BK20.out 3).trans rfl, (aC BK20.out 4).trans rfl, (aC BK12.out 0).trans rfl, (aC BK12.out 1).trans rfl, (aC BK12.out 2).trans rfl, (aC BK12.out 3).trans rfl, (aC BK12.out 4).trans rfl, HX30_0.out, HX30_1.out, HX30_2.out, HX30_3.out, HX30_4.out, HX31_0.out, HX31_1.out, HX31_2.out, HX31_3.out, HX31_4.out⟩ (fun hHeld => ?_)
   clear hK K
   refine norm_ (a' := ?_) ?_ ?_
   rotate_left
   ·show Act.put _ (some 102) _ = _
    simp only [Act.put, lA, lB, lC, aQ, aT]
    rfl
   refine aU (i := 39) (N := some 103) (v := ?_) (a' := ?_) #[true, true, true, true, true, true, true, true, true, true, true, true, true, true, true, true, true, true, true, true, true, true, true, true, true, true, true, true, true, true, true, true, true, true, true, true, true, true, true, true, false, false] rfl rfl (by kernel_rfl) (fun _ _ _ h => h) (Or.inl ⟨by rfl, ?_⟩) ?_ ?_
   rotate_left
   ·intro w'
    go_simp
    with_reducible rfl
   rotate_left
   ·simp only [Act.put, lA, lB, lC, aQ, aT]
    rfl
   refine aU (i := 40) (N := some 104) (v := ?_) (a' := ?_) #[true, true, true, true, true, true, true, true, true, true, true, true, true, true, true, true, true, true, true, true, true, true, true, true, true, true, true, true, true, true, true, true, true, true, true, true, true, true, true, true, true, false] rfl rfl (by kernel_rfl) (fun _ _ _ h => h) (Or.inl ⟨by rfl, ?_⟩) ?_ ?_
   rotate_left
   ·intro w'
    go_simp
    with_reducible rfl
   rotate_left
   ·simp only [Act.put, lA, lB, lC, aQ, aT]
    rfl
   refine aU (i := 41) (N := some 105) (v := ?_) (a' := ?_) #[true, true, true, true, true, true, true, true, true, true, true, true, true, true, true, true, true, true, true, true, true, true, true, true, true, true, true, true, true, true, true, true, true, true, true, true, true, true, true, true, true, true] rfl rfl (by kernel_rfl) (fun _ _ _ h => h) (Or.inl ⟨by rfl, ?_⟩) ?_ ?_
   rotate_left
   ·intro w'
    go_simp
    with_reducible rfl
   rotate_left
   ·simp only [Act.put, lA, lB, lC, aQ, aT]
    rfl
   refine done_ (by kernel_rfl) ?_
   have hzgb12_0_33 : w33.cell? ⟨gb12, 0, none⟩ = some (.int .i64 ((rd_T27 m x5).f0)) := (aC BK12.out 0).trans rfl
   have hygb12_0_33 := aD BK12.out 0
   have hzgb12_1_33 : w33.cell? ⟨gb12, 1, none⟩ = some (.int .i64 ((rd_T27 m x5).f1)) := (aC BK12.out 1).trans rfl
   have hygb12_1_33 := aD BK12.out 1
   have hzgb12_2_33 : w33.cell? ⟨gb12, 2, none⟩ = some (.int .i64 ((rd_T27 m x5).f2)) := (aC BK12.out 2).trans rfl
   have hygb12_2_33 := aD BK12.out 2
   have hzgb12_3_33 : w33.cell? ⟨gb12, 3, none⟩ = some (.int .i64 ((rd_T27 m x5).f3)) := (aC BK12.out 3).trans rfl
   have hygb12_3_33 := aD BK12.out 3
   have hzgb12_4_33 : w33.cell? ⟨gb12, 4, none⟩ = some (.int .i64 ((rd_T27 m x5).f4)) := (aC BK12.out 4).trans rfl
   have hygb12_4_33 := aD BK12.out 4
   have hzgb20_0_33 : w33.cell? ⟨gb20, 0, none⟩ = some (.int .i64 q0) := (aC BK20.out 0).trans rfl
   have hygb20_0_33 := aD BK20.out 0
   have hzgb20_1_33 : w33.cell? ⟨gb20, 1, none⟩ = some (.int .i64 q1) := (aC BK20.out 1).trans rfl
   have hygb20_1_33 := aD BK20.out 1
   have hzgb20_2_33 : w33.cell? ⟨gb20, 2, none⟩ = some (.int .i64 q2) := (aC BK20.out 2).trans rfl
   have hygb20_2_33 := aD BK20.out 2
   have hzgb20_3_33 : w33.cell? ⟨gb20, 3, none⟩ = some (.int .i64 q3) := (aC BK20.out 3).trans rfl
   have hygb20_3_33 := aD BK20.out 3
   have hzgb20_4_33 : w33.cell? ⟨gb20, 4, none⟩ = some (.int .i64 q4) := (aC BK20.out 4).trans rfl
   have hygb20_4_33 := aD BK20.out 4
   try go_wp2
   go_roundg k1
   case measure => omega
   case rel => exact ⟨i5 + 1, _, rfl, ⟨show _ = ((i5 + 1 : Nat) : Int) by have := HI5.out; have hm_ := HML.out; have := HK5.out; first | (rw [w64 (by omega) (by omega)]; omega) | omega⟩, ⟨by have := HK5.out; omega⟩, ⟨Nat.le_trans (by have o_ := HORD.out; omega) HT.out⟩, HF0, HF2_0, HS2_0, HF2_1, HS2_1, HF3_0, HS3_0, HF4_0, HS4_0, HB⟩
  try go_wp2
 have hd_ : decide (x5 < (m.length : Int)) = false := decide_eq_false (by have := HI5.out; have := HK5.out; omega)
 try go_wp2
 go_loopg [12] (a.length) (fun kq v34 w' => ∃ (i34 : Nat) (x34 : Int), v34 = .int .i64 x34 ∧ aA (x34 = (i34 : Int)) ∧ aA (i34 + kq = a.length) ∧ aA (hi4 ≤ w'.heap.size) ∧ aA (Kd.F (Kd.int .u8) w' (In 0 w.heap.size) A0 l0.length l0) ∧ aA (Kd.F k27 w' (In lo2 hi2) A2_0 a.length a) ∧ aA (Kd.R k27 27 w' lo2 (In lo2 hi2) (.slice A2_0 a.length c2_0) a) ∧ aA (Kd.F k27 w' (In lo2 hi2) A2_1 b.length b) ∧ aA (Kd.R k27 27 w' lo2 (In lo2 hi2) (.slice A2_1 b.length c2_1) b) ∧ aA (Kd.F k27 w' (In lo3 hi3) A3_0 m.length m) ∧ aA (Kd.R k27 27 w' lo3 (In lo3 hi3) (.slice A3_0 m.length c3_0) m) ∧ aA (Kd.F k27 w' (In lo4 hi4) A4_0 d.length d) ∧ aA (Kd.R k27 27 w' lo4 (In lo4 hi4) (.slice A4_0 d.length c4_0) d) ∧ aA (Below w.heap.size w w'))
 case atStart => exact ⟨0, 0, rfl, ⟨rfl⟩, ⟨Nat.zero_add _⟩, HT, HF0, HF2_0, HS2_0, HF2_1, HS2_1, HF3_0, HS3_0, HF4_0, HS4_0, HB⟩
 clear HF0 HF2_0 HS2_0 HF2_1 HS2_1 HF3_0 HS3_0 HF4_0 HS4_0 HB HT
 obtain ⟨i34, x34, rfl, HI34, HK34, HT, HF0, HF2_0, HS2_0, HF2_1, HS2_1, HF3_0, HS3_0, HF4_0, HS4_0, HB⟩ := hrel
 rcases gk with _ | k1
 rotate_left
 ·have hp_ : 0 ≤ x34 := (by have := HI34.out; omega)
  have hq_ : x34 < (a.length : Int) := (by have := HI34.out; have := HK34.out; omega)
  have hd_ : decide (x34 < (a.length : Int)) = true := decide_eq_true hq_
  obtain ⟨ka, p0, p1, p2, p3, p4, h1_⟩ := HS.out i34 (by have := HK34.out; omega)
  rw [← HI34.out] at h1_
  have RA := aA.mk h1_
  clear h1_
  try go_wp2
  obtain ⟨ad35, ee35, hx35_0, hx35_1, hx35_2, hx35_3, hx35_4⟩ := at_T27 (Kd.F_now HF2_0.out) x34 hp_ hq_
  cases ee35
  have HX35_0 := aA.mk hx35_0
  have HX35_1 := aA.mk hx35_1
  have HX35_2 := aA.mk hx35_2
  have HX35_3 := aA.mk hx35_3
  have HX35_4 := aA.mk hx35_4
  have n_ := aA.mk (Kd.F_drew HF0.out)
  clear HF0
  have HF0 := n_
  clear n_
  have n_ := aA.mk (Kd.F_drew HF2_0.out)
  clear HF2_0
  have HF2_0 := n_
  clear n_
  have n_ := aA.mk (Kd.aY HS2_0.out)
  clear HS2_0
  have HS2_0 := n_
  clear n_
  have n_ := aA.mk (Kd.F_drew HF2_1.out)
  clear HF2_1
  have HF2_1 := n_
  clear n_
  have n_ := aA.mk (Kd.aY HS2_1.out)
  clear HS2_1
  have HS2_1 := n_
  clear n_
  have n_ := aA.mk (Kd.F_drew HF3_0.out)
  clear HF3_0
  have HF3_0 := n_
  clear n_
  have n_ := aA.mk (Kd.aY HS3_0.out)
  clear HS3_0
  have HS3_0 := n_
  clear n_
  have n_ := aA.mk (Kd.F_drew HF4_0.out)
  clear HF4_0
  have HF4_0 := n_
  clear n_
  have n_ := aA.mk (Kd.aY HS4_0.out)
  clear HS4_0
  have HS4_0 := n_
  clear n_
  have n_ := aA.mk (aG HB.out)
  clear HB
  have HB := n_
  clear n_
  have n_ := aA.mk (show _ ≤ wr.drew.heap.size from HT.out)
  clear HT
  have HT := n_
  clear n_
  have n_ := aA.mk (show wr.drew.cell? (ad35.add (x34.toNat * 5)) = some (.int .i64 (rd_T27 a x34).f0) from HX35_0.out)
  clear HX35_0
  have HX35_0 := n_
  clear n_
  have n_ := aA.mk (show wr.drew.cell? ⟨(ad35.add (x34.toNat * 5)).block, (ad35.add (x34.toNat * 5)).off + 1, none⟩ = some (.int .i64 (rd_T27 a x34).f1) from HX35_1.out)
  clear HX35_1
  have HX35_1 := n_
  clear n_
  have n_ := aA.mk (show wr.drew.cell? ⟨(ad35.add (x34.toNat * 5)).block, (ad35.add (x34.toNat * 5)).off + 2, none⟩ = some (.int .i64 (rd_T27 a x34).f2) from HX35_2.out)
  clear HX35_2
  have HX35_2 := n_
  clear n_
  have n_ := aA.mk (show wr.drew.cell? ⟨(ad35.add (x34.toNat * 5)).block, (ad35.add (x34.toNat * 5)).off + 3, none⟩ = some (.int .i64 (rd_T27 a x34).f3) from HX35_3.out)
  clear HX35_3
  have HX35_3 := n_
  clear n_
  have n_ := aA.mk (show wr.drew.cell? ⟨(ad35.add (x34.toNat * 5)).block, (ad35.add (x34.toNat * 5)).off + 4, none⟩ = some (.int .i64 (rd_T27 a x34).f4) from HX35_4.out)
  clear HX35_4
  have HX35_4 := n_
  clear n_
  refine start_ (n := 18) (S := fun w' => w'.cell? (ad35.add (x34.toNat * 5)) = some (.int .i64 (rd_T27 a x34).f0) ∧ w'.cell? ⟨(ad35.add (x34.toNat * 5)).block, (ad35.add (x34.toNat * 5)).off + 1, none⟩ = some (.int .i64 (rd_T27 a x34).f1) ∧ w'.cell? ⟨(ad35.add (x34.toNat * 5)).block, (ad35.add (x34.toNat * 5)).off + 2, none⟩ = some (.int .i64 (rd_T27 a x34).f2) ∧ w'.cell? ⟨(ad35.add (x34.toNat * 5)).block, (ad35.add (x34.toNat * 5)).off + 3, none⟩ = some (.int .i64 (rd_T27 a x34).f3) ∧ w'.cell? ⟨(ad35.add (x34.toNat * 5)).block, (ad35.add (x34.toNat * 5)).off + 4, none⟩ = some (.int .i64 (rd_T27 a x34).f4)) (ds := [16]) #[false, false, false, false, false, false, false, false, false, false, false, false, false, false, false, false, false, false] (by kernel_rfl) rfl rfl ⟨HX35_0.out, HX35_1.out, HX35_2.out, HX35_3.out, HX35_4.out⟩ (fun hHeld => ?_)
  generalize wr.drew = w36 at HF0 HF2_0 HS2_0 HF2_1 HS2_1 HF3_0 HS3_0 HF4_0 HS4_0 HB HT HX35_0 HX35_1 HX35_2 HX35_3 HX35_4 hHeld ⊢
  refine aU (i := 0) (N := some 113) (v := ?_) (a' := ?_) #[true, false, false, false, false, false, false, false, false, false, false, false, false, false, false, false, false, false] rfl rfl (by kernel_rfl) (fun _ _ _ h => h) (Or.inl ⟨by rfl, ?_⟩) ?_ ?_
  rotate_left
  ·intro w'
   go_simp
   with_reducible rfl
  rotate_left
  ·simp only [Act.put, lA, lB, lC, aQ, aT]
   rfl
  refine aU (i := 1) (N := some 114) (v := ?_) (a' := ?_) #[true, true, false, false, false, false, false, false, false, false, false, false, false, false, false, false, false, false] rfl rfl (by kernel_rfl) (fun _ _ _ h => h) (Or.inl ⟨by rfl, ?_⟩) ?_ ?_
  rotate_left
  ·intro w'
   go_simp
   with_reducible rfl
  rotate_left
  ·simp only [Act.put, lA, lB, lC, aQ, aT]
   rfl
  refine aU (i := 2) (N := some 115) (v := ?_) (a' := ?_) #[true, true, true, false, false, false, false, false, false, false, false, false, false, false, false, false, false, false] rfl rfl (by kernel_rfl) (fun _ _ _ h => h) (Or.inl ⟨by rfl, ?_⟩) ?_ ?_
  rotate_left
  ·intro w'
   go_simp
   with_reducible rfl
  rotate_left
  ·simp only [Act.put, lA, lB, lC, aQ, aT]
   rfl
  refine aU (i := 3) (N := some 116) (v := ?_) (a' := ?_) #[true, true, true, true, false, false, false, false, false, false, false, false, false, false, false, false, false, false] rfl rfl (by kernel_rfl) (fun _ _ _ h => h) (Or.inl ⟨by rfl, ?_⟩) ?_ ?_
  rotate_left
  ·intro w'
   go_simp
   with_reducible rfl
  rotate_left
  ·simp only [Act.put, lA, lB, lC, aQ, aT]
   rfl
  refine aU (i := 4) (N := some 117) (v := ?_) (a' := ?_) #[true, true, true, true, true, false, false, false, false, false, false, false, false, false, false, false, false, false] rfl rfl (by kernel_rfl) (fun _ _ _ h => h) (Or.inl ⟨by rfl, ?_⟩) ?_ ?_
  rotate_left
  ·intro w'
   go_simp
   with_reducible rfl
  rotate_left
  ·simp only [Act.put, lA, lB, lC, aQ, aT]
   rfl
  refine take_ (i := 5) (N := some 118) (v := ?_) (a' := ?_) #[true, true, true, true, true, true, false, false, false, false, false, false, false, false, false, false, false, false] rfl rfl (by kernel_rfl) (fun _ _ _ h => h) (Or.inl ⟨by rfl, ?_⟩) hHeld ?_ ?_
  rotate_left
  ·rintro w' ⟨s0, s1, s2, s3, s4⟩
   go_simp
   with_reducible rfl
  rotate_left
  ·simp only [Act.put, lA, lB, lC, aQ, aT]
   rfl
  refine aU (i := 6) (N := some 119) (v := ?_) (a' := ?_) #[true, true, true, true, true, true, true, false, false, false, false, false, false, false, false, false, false, false] rfl rfl (by kernel_rfl) (fun _ _ _ h => h) (Or.inl ⟨by rfl, ?_⟩) ?_ ?_
  rotate_left
  ·intro w'
   go_simp
   with_reducible rfl
  rotate_left
  ·simp only [Act.put, lA, lB, lC, aQ, aT]
   rfl
  refine aU (i := 7) (N := some 120) (v := ?_) (a' := ?_) #[true, true, true, true, true, true, true, true, false, false, false, false, false, false, false, false, false, false] rfl rfl (by kernel_rfl) (fun _ _ _ h => h) (Or.inl ⟨by rfl, ?_⟩) ?_ ?_
  rotate_left
  ·intro w'
   go_simp
   with_reducible rfl
  rotate_left
  ·simp only [Act.put, lA, lB, lC, aQ, aT]
   rfl
  refine aU (i := 8) (N := some 121) (v := ?_) (a' := ?_) #[true, true, true, true, true, true, true, true, true, false, false, false, false, false, false, false, false, false] rfl rfl (by kernel_rfl) (fun _ _ _ h => h) (Or.inl ⟨by rfl, ?_⟩) ?_ ?_
  rotate_left
  ·intro w'
   go_simp
   with_reducible rfl
  rotate_left
  ·simp only [Act.put, lA, lB, lC, aQ, aT]
   rfl
  refine aU (i := 9) (N := some 122) (v := ?_) (a' := ?_) #[true, true, true, true, true, true, true, true, true, true, false, false, false, false, false, false, false, false] rfl rfl (by kernel_rfl) (fun _ _ _ h => h) (Or.inl ⟨by rfl, ?_⟩) ?_ ?_
  rotate_left
  ·intro w'
   go_simp
   with_reducible rfl
  rotate_left
  ·simp only [Act.put, lA, lB, lC, aQ, aT]
   rfl
  refine take_ (i := 10) (N := some 123) (v := ?_) (a' := ?_) #[true, true, true, true, true, true, true, true, true, true, true, false, false, false, false, false, false, false] rfl rfl (by kernel_rfl) (fun _ _ _ h => h) (Or.inl ⟨by rfl, ?_⟩) hHeld ?_ ?_
  rotate_left
  ·rintro w' ⟨s0, s1, s2, s3, s4⟩
   go_simp
   with_reducible rfl
  rotate_left
  ·simp only [Act.put, lA, lB, lC, aQ, aT]
   rfl
  refine join_ (σ := Nat) 2 #[true, true, true, true, true, true, true, true, true, true, true, true, true, true, true, true, false, false] (fun s_ => [(124, .tuple #[.agg #[.int .i64 p0, .int .i64 p1, .int .i64 p2, .int .i64 p3, .int .i64 p4], .bool true]), (112, .tuple #[.agg #[.int .i64 p0, .int .i64 p1, .int .i64 p2, .int .i64 p3, .int .i64 p4], .bool true]), (125, .agg #[.int .i64 p0, .int .i64 p1, .int .i64 p2, .int .i64 p3, .int .i64 p4]), (126, .bool true), (13, .pointer (some ⟨s_, 0, none⟩))]) (fun s_ w' => (w'.cell? (ad35.add (x34.toNat * 5)) = some (.int .i64 (rd_T27 a x34).f0) ∧ w'.cell? ⟨(ad35.add (x34.toNat * 5)).block, (ad35.add (x34.toNat * 5)).off + 1, none⟩ = some (.int .i64 (rd_T27 a x34).f1) ∧ w'.cell? ⟨(ad35.add (x34.toNat * 5)).block, (ad35.add (x34.toNat * 5)).off + 2, none⟩ = some (.int .i64 (rd_T27 a x34).f2) ∧ w'.cell? ⟨(ad35.add (x34.toNat * 5)).block, (ad35.add (x34.toNat * 5)).off + 3, none⟩ = some (.int .i64 (rd_T27 a x34).f3) ∧ w'.cell? ⟨(ad35.add (x34.toNat * 5)).block, (ad35.add (x34.toNat * 5)).off + 4, none⟩ = some (.int .i64 (rd_T27 a x34).f4)) ∧ aA (Kd.F (Kd.int .u8) w' (In 0 w.heap.size) A0 l0.length l0) ∧ aA (Kd.F k27 w' (In lo2 hi2) (some ad35) a.length a) ∧ aA (Kd.R k27 27 w' lo2 (In lo2 hi2) (.slice (some ad35) a.length c2_0) a) ∧ aA (Kd.F k27 w' (In lo2 hi2) A2_1 b.length b) ∧ aA (Kd.R k27 27 w' lo2 (In lo2 hi2) (.slice A2_1 b.length c2_1) b) ∧ aA (Kd.F k27 w' (In lo3 hi3) A3_0 m.length m) ∧ aA (Kd.R k27 27 w' lo3 (In lo3 hi3) (.slice A3_0 m.length c3_0) m) ∧ aA (Kd.F k27 w' (In lo4 hi4) A4_0 d.length d) ∧ aA (Kd.R k27 27 w' lo4 (In lo4 hi4) (.slice A4_0 d.length c4_0) d) ∧ aA (w'.cell? (ad35.add (x34.toNat * 5)) = some (.int .i64 (rd_T27 a x34).f0)) ∧ aA (w'.cell? ⟨(ad35.add (x34.toNat * 5)).block, (ad35.add (x34.toNat * 5)).off + 1, none⟩ = some (.int .i64 (rd_T27 a x34).f1)) ∧ aA (w'.cell? ⟨(ad35.add (x34.toNat * 5)).block, (ad35.add (x34.toNat * 5)).off + 2, none⟩ = some (.int .i64 (rd_T27 a x34).f2)) ∧ aA (w'.cell? ⟨(ad35.add (x34.toNat * 5)).block, (ad35.add (x34.toNat * 5)).off + 3, none⟩ = some (.int .i64 (rd_T27 a x34).f3)) ∧ aA (w'.cell? ⟨(ad35.add (x34.toNat * 5)).block, (ad35.add (x34.toNat * 5)).off + 4, none⟩ = some (.int .i64 (rd_T27 a x34).f4)) ∧ aA (Below w.heap.size w w') ∧ aA (w'.heap[s_]? = some (.cells #[.int .i64 0, .int .i64 0, .int .i64 0, .int .i64 0, .int .i64 0] 27 (0, 0))) ∧ aA (hi4 ≤ s_ ∧ s_ + 1 ≤ w'.heap.size)) ?_ ?_
  rotate_left
  ·intro hCont
   refine two_ (i := 11) (j := 15) (Ni := some 124) (Nj := some 13) #[true, true, true, true, true, true, true, true, true, true, true, true, false, false, false, false, false, false] #[true, true, true, true, true, true, true, true, true, true, true, false, false, false, false, true, false, false] rfl rfl rfl rfl (by kernel_rfl) (by decide) (by decide) (fun K hK => ?_) (fun K hK => ?_)
   ·skip
    refine goes_ Try.func44 (by kernel_rfl) rfl #[.slice A3_0 m.length c3_0, .int .i64 ((rd_T27 a x34).f0), .int .i64 ((rd_T27 a x34).f1)] (by rfl) rfl rfl (by (try simp only [List.map_toArray, List.map_cons, List.map_nil]); first | done | rfl | (simp only [List.length_drop, List.length_take]; rfl)) ?_
    (with_reducible refine (impl_SetAt.calls ka _ _ m ((rd_T27 a x34).f0) ((rd_T27 a x34).f1) p0 p1 p2 p3 p4 true _ ?s1 ?s2 RA.out).mono ?_)
    (case s1 => exact (Kd.F_now HF3_0.out))
    (case s2 => exact HC3_0.out)
    rintro e_ w37 ⟨rfl, hb⟩
    refine ⟨_, rfl, ?_⟩
    have n0_ := aA.mk (Kd.bA HF0.out hb)
    have n1_ := aA.mk (Kd.bA HF2_0.out hb)
    have n2_ := aA.mk (Kd.bB HS2_0.out hb)
    have n3_ := aA.mk (Kd.bA HF2_1.out hb)
    have n4_ := aA.mk (Kd.bB HS2_1.out hb)
    have n5_ := aA.mk (Kd.bA HF3_0.out hb)
    have n6_ := aA.mk (Kd.bB HS3_0.out hb)
    have n7_ := aA.mk (Kd.bA HF4_0.out hb)
    have n8_ := aA.mk (Kd.bB HS4_0.out hb)
    have n9_ := aA.mk (aV hb HX35_0.out)
    have n10_ := aA.mk (aV hb HX35_1.out)
    have n11_ := aA.mk (aV hb HX35_2.out)
    have n12_ := aA.mk (aV hb HX35_3.out)
    have n13_ := aA.mk (aV hb HX35_4.out)
    have n14_ := aA.mk (aX HB.out hb)
    have n15_ := aA.mk (Nat.le_trans HT.out hb.size)
    (try clear HF0)
    (try clear HF2_0)
    (try clear HS2_0)
    (try clear HF2_1)
    (try clear HS2_1)
    (try clear HF3_0)
    (try clear HS3_0)
    (try clear HF4_0)
    (try clear HS4_0)
    (try clear HX35_0)
    (try clear HX35_1)
    (try clear HX35_2)
    (try clear HX35_3)
    (try clear HX35_4)
    (try clear HB)
    (try clear HT)
    have HF0 := n0_
    have HF2_0 := n1_
    have HS2_0 := n2_
    have HF2_1 := n3_
    have HS2_1 := n4_
    have HF3_0 := n5_
    have HS3_0 := n6_
    have HF4_0 := n7_
    have HS4_0 := n8_
    have HX35_0 := n9_
    have HX35_1 := n10_
    have HX35_2 := n11_
    have HX35_3 := n12_
    have HX35_4 := n13_
    have HB := n14_
    have HT := n15_
    clear n0_ n1_ n2_ n3_ n4_ n5_ n6_ n7_ n8_ n9_ n10_ n11_ n12_ n13_ n14_ n15_
    (try clear hb)
    refine hK.out _ _ ⟨HX35_0.out, HX35_1.out, HX35_2.out, HX35_3.out, HX35_4.out⟩ (fun hHeld => ?_)
    clear hK K
    refine norm_ (a' := ?_) ?_ ?_
    rotate_left
    ·show Act.put _ (some 124) _ = _
     simp only [Act.put, lA, lB, lC, aQ, aT]
     rfl
    refine aU (i := 12) (N := some 112) (v := ?_) (a' := ?_) #[true, true, true, true, true, true, true, true, true, true, true, true, true, false, false, false, false, false] rfl rfl (by kernel_rfl) (fun _ _ _ h => h) (Or.inl ⟨by rfl, ?_⟩) ?_ ?_
    rotate_left
    ·intro w'
     go_simp
     with_reducible rfl
    rotate_left
    ·simp only [Act.put, lA, lB, lC, aQ, aT]
     rfl
    refine aU (i := 13) (N := some 125) (v := ?_) (a' := ?_) #[true, true, true, true, true, true, true, true, true, true, true, true, true, true, false, false, false, false] rfl rfl (by kernel_rfl) (fun _ _ _ h => h) (Or.inl ⟨by rfl, ?_⟩) ?_ ?_
    rotate_left
    ·intro w'
     go_simp
     with_reducible rfl
    rotate_left
    ·simp only [Act.put, lA, lB, lC, aQ, aT]
     rfl
    refine aU (i := 14) (N := some 126) (v := ?_) (a' := ?_) #[true, true, true, true, true, true, true, true, true, true, true, true, true, true, true, false, false, false] rfl rfl (by kernel_rfl) (fun _ _ _ h => h) (Or.inl ⟨by rfl, ?_⟩) ?_ ?_
    rotate_left
    ·intro w'
     go_simp
     with_reducible rfl
    rotate_left
    ·simp only [Act.put, lA, lB, lC, aQ, aT]
     rfl
    refine one_ (i := 15) (N := some 13) #[true, true, true, true, true, true, true, true, true, true, true, true, true, true, true, true, false, false] rfl rfl (by kernel_rfl) (by decide) (fun K hK => ?_)
    refine box_step ?hg (N := 13) ?hd (cs := #[.int .i64 0, .int .i64 0, .int .i64 0, .int .i64 0, .int .i64 0]) (t := 27) ?hr ?_
    (case hd => rfl)
    (case hg => rfl)
    (case hr => first | (go_simp; done) | (go_simp; rfl))
    intro gb38 hg_ w38 hbox hb
    have hge_ : hi4 ≤ gb38 := (by rw [hg_]; exact HT.out)
    have hlt_ : gb38 + 1 ≤ w38.heap.size := blk_lt hbox
    have n0_ := aA.mk (Kd.bA HF0.out hb)
    have n1_ := aA.mk (Kd.bA HF2_0.out hb)
    have n2_ := aA.mk (Kd.bB HS2_0.out hb)
    have n3_ := aA.mk (Kd.bA HF2_1.out hb)
    have n4_ := aA.mk (Kd.bB HS2_1.out hb)
    have n5_ := aA.mk (Kd.bA HF3_0.out hb)
    have n6_ := aA.mk (Kd.bB HS3_0.out hb)
    have n7_ := aA.mk (Kd.bA HF4_0.out hb)
    have n8_ := aA.mk (Kd.bB HS4_0.out hb)
    have n9_ := aA.mk (aV hb HX35_0.out)
    have n10_ := aA.mk (aV hb HX35_1.out)
    have n11_ := aA.mk (aV hb HX35_2.out)
    have n12_ := aA.mk (aV hb HX35_3.out)
    have n13_ := aA.mk (aV hb HX35_4.out)
    have n14_ := aA.mk (aX HB.out hb)
    have n15_ := aA.mk (hbox)
    have n16_ := aA.mk (And.intro HORD.out (And.intro hge_ (Nat.le_succ gb38)))
    have n17_ := aA.mk (hlt_)
    (try clear HF0)
    (try clear HF2_0)
    (try clear HS2_0)
    (try clear HF2_1)
    (try clear HS2_1)
    (try clear HF3_0)
    (try clear HS3_0)
    (try clear HF4_0)
    (try clear HS4_0)
    (try clear HX35_0)
    (try clear HX35_1)
    (try clear HX35_2)
    (try clear HX35_3)
    (try clear HX35_4)
    (try clear HB)
    (try clear BK38)
    (try clear HORD)
    (try clear HT)
    have HF0 := n0_
    have HF2_0 := n1_
    have HS2_0 := n2_
    have HF2_1 := n3_
    have HS2_1 := n4_
    have HF3_0 := n5_
    have HS3_0 := n6_
    have HF4_0 := n7_
    have HS4_0 := n8_
    have HX35_0 := n9_
    have HX35_1 := n10_
    have HX35_2 := n11_
    have HX35_3 := n12_
    have HX35_4 := n13_
    have HB := n14_
    have BK38 := n15_
    have HORD := n16_
    have HT := n17_
    clear n0_ n1_ n2_ n3_ n4_ n5_ n6_ n7_ n8_ n9_ n10_ n11_ n12_ n13_ n14_ n15_ n16_ n17_
    clear hb hbox hg_ hge_ hlt_
    refine hK.out _ _ ⟨HX35_0.out, HX35_1.out, HX35_2.out, HX35_3.out, HX35_4.out⟩ (fun hHeld => ?_)
    clear hK K
    refine norm_ (a' := ?_) ?_ ?_
    rotate_left
    ·show Act.put _ (some 13) _ = _
     simp only [Act.put, lA, lB, lC, aQ, aT]
     rfl
    exact norm_ (by simp only [putAll, Act.put, lA, lB, lC]) (hCont gb38 _ ⟨hHeld, HF0, HF2_0, HS2_0, HF2_1, HS2_1, HF3_0, HS3_0, HF4_0, HS4_0, HX35_0, HX35_1, HX35_2, HX35_3, HX35_4, HB, BK38, ⟨by have o_ := HORD.out; have t_ := HT.out; (try simp only []); omega⟩⟩)
   ·skip
    refine box_step ?hg (N := 13) ?hd (cs := #[.int .i64 0, .int .i64 0, .int .i64 0, .int .i64 0, .int .i64 0]) (t := 27) ?hr ?_
    (case hd => rfl)
    (case hg => rfl)
    (case hr => first | (go_simp; done) | (go_simp; rfl))
    intro gb39 hg_ w39 hbox hb
    have hge_ : hi4 ≤ gb39 := (by rw [hg_]; exact HT.out)
    have hlt_ : gb39 + 1 ≤ w39.heap.size := blk_lt hbox
    have n0_ := aA.mk (Kd.bA HF0.out hb)
    have n1_ := aA.mk (Kd.bA HF2_0.out hb)
    have n2_ := aA.mk (Kd.bB HS2_0.out hb)
    have n3_ := aA.mk (Kd.bA HF2_1.out hb)
    have n4_ := aA.mk (Kd.bB HS2_1.out hb)
    have n5_ := aA.mk (Kd.bA HF3_0.out hb)
    have n6_ := aA.mk (Kd.bB HS3_0.out hb)
    have n7_ := aA.mk (Kd.bA HF4_0.out hb)
    have n8_ := aA.mk (Kd.bB HS4_0.out hb)
    have n9_ := aA.mk (aV hb HX35_0.out)
    have n10_ := aA.mk (aV hb HX35_1.out)
    have n11_ := aA.mk (aV hb HX35_2.out)
    have n12_ := aA.mk (aV hb HX35_3.out)
    have n13_ := aA.mk (aV hb HX35_4.out)
    have n14_ := aA.mk (aX HB.out hb)
    have n15_ := aA.mk (hbox)
    have n16_ := aA.mk (And.intro HORD.out (And.intro hge_ (Nat.le_succ gb39)))
    have n17_ := aA.mk (hlt_)
    (try clear HF0)
    (try clear HF2_0)
    (try clear HS2_0)
    (try clear HF2_1)
    (try clear HS2_1)
    (try clear HF3_0)
    (try clear HS3_0)
    (try clear HF4_0)
    (try clear HS4_0)
    (try clear HX35_0)
    (try clear HX35_1)
    (try clear HX35_2)
    (try clear HX35_3)
    (try clear HX35_4)
    (try clear HB)
    (try clear BK39)
    (try clear HORD)
    (try clear HT)
    have HF0 := n0_
    have HF2_0 := n1_
    have HS2_0 := n2_
    have HF2_1 := n3_
    have HS2_1 := n4_
    have HF3_0 := n5_
    have HS3_0 := n6_
    have HF4_0 := n7_
    have HS4_0 := n8_
    have HX35_0 := n9_
    have HX35_1 := n10_
    have HX35_2 := n11_
    have HX35_3 := n12_
    have HX35_4 := n13_
    have HB := n14_
    have BK39 := n15_
    have HORD := n16_
    have HT := n17_
    clear n0_ n1_ n2_ n3_ n4_ n5_ n6_ n7_ n8_ n9_ n10_ n11_ n12_ n13_ n14_ n15_ n16_ n17_
    clear hb hbox hg_ hge_ hlt_
    refine hK.out _ _ ⟨HX35_0.out, HX35_1.out, HX35_2.out, HX35_3.out, HX35_4.out⟩ (fun hHeld => ?_)
    clear hK K
    refine norm_ (a' := ?_) ?_ ?_
    rotate_left
    ·show Act.put _ (some 13) _ = _
     simp only [Act.put, lA, lB, lC, aQ, aT]
     rfl
    refine one_ (i := 11) (N := some 124) #[true, true, true, true, true, true, true, true, true, true, true, true, false, false, false, true, false, false] rfl rfl (by kernel_rfl) (by decide) (fun K hK => ?_)
    refine goes_ Try.func44 (by kernel_rfl) rfl #[.slice A3_0 m.length c3_0, .int .i64 ((rd_T27 a x34).f0), .int .i64 ((rd_T27 a x34).f1)] (by rfl) rfl rfl (by (try simp only [List.map_toArray, List.map_cons, List.map_nil]); first | done | rfl | (simp only [List.length_drop, List.length_take]; rfl)) ?_
    (with_reducible refine (impl_SetAt.calls ka _ _ m ((rd_T27 a x34).f0) ((rd_T27 a x34).f1) p0 p1 p2 p3 p4 true _ ?s1 ?s2 RA.out).mono ?_)
    (case s1 => exact (Kd.F_now HF3_0.out))
    (case s2 => exact HC3_0.out)
    rintro e_ w40 ⟨rfl, hb⟩
    refine ⟨_, rfl, ?_⟩
    have n0_ := aA.mk (Kd.bA HF0.out hb)
    have n1_ := aA.mk (Kd.bA HF2_0.out hb)
    have n2_ := aA.mk (Kd.bB HS2_0.out hb)
    have n3_ := aA.mk (Kd.bA HF2_1.out hb)
    have n4_ := aA.mk (Kd.bB HS2_1.out hb)
    have n5_ := aA.mk (Kd.bA HF3_0.out hb)
    have n6_ := aA.mk (Kd.bB HS3_0.out hb)
    have n7_ := aA.mk (Kd.bA HF4_0.out hb)
    have n8_ := aA.mk (Kd.bB HS4_0.out hb)
    have n9_ := aA.mk (aV hb HX35_0.out)
    have n10_ := aA.mk (aV hb HX35_1.out)
    have n11_ := aA.mk (aV hb HX35_2.out)
    have n12_ := aA.mk (aV hb HX35_3.out)
    have n13_ := aA.mk (aV hb HX35_4.out)
    have n14_ := aA.mk (bE BK39.out hb)
    have n15_ := aA.mk (aX HB.out hb)
    have n16_ := aA.mk (Nat.le_trans HT.out hb.size)
    (try clear HF0)
    (try clear HF2_0)
    (try clear HS2_0)
    (try clear HF2_1)
    (try clear HS2_1)
    (try clear HF3_0)
    (try clear HS3_0)
    (try clear HF4_0)
    (try clear HS4_0)
    (try clear HX35_0)
    (try clear HX35_1)
    (try clear HX35_2)
    (try clear HX35_3)
    (try clear HX35_4)
    (try clear BK39)
    (try clear HB)
    (try clear HT)
    have HF0 := n0_
    have HF2_0 := n1_
    have HS2_0 := n2_
    have HF2_1 := n3_
    have HS2_1 := n4_
    have HF3_0 := n5_
    have HS3_0 := n6_
    have HF4_0 := n7_
    have HS4_0 := n8_
    have HX35_0 := n9_
    have HX35_1 := n10_
    have HX35_2 := n11_
    have HX35_3 := n12_
    have HX35_4 := n13_
    have BK39 := n14_
    have HB := n15_
    have HT := n16_
    clear n0_ n1_ n2_ n3_ n4_ n5_ n6_ n7_ n8_ n9_ n10_ n11_ n12_ n13_ n14_ n15_ n16_
    (try clear hb)
    refine hK.out _ _ ⟨HX35_0.out, HX35_1.out, HX35_2.out, HX35_3.out, HX35_4.out⟩ (fun hHeld => ?_)
    clear hK K
    refine norm_ (a' := ?_) ?_ ?_
    rotate_left
    ·show Act.put _ (some 124) _ = _
     simp only [Act.put, lA, lB, lC, aQ, aT]
     rfl
    refine aU (i := 12) (N := some 112) (v := ?_) (a' := ?_) #[true, true, true, true, true, true, true, true, true, true, true, true, true, false, false, true, false, false] rfl rfl (by kernel_rfl) (fun _ _ _ h => h) (Or.inl ⟨by rfl, ?_⟩) ?_ ?_
    rotate_left
    ·intro w'
     go_simp
     with_reducible rfl
    rotate_left
    ·simp only [Act.put, lA, lB, lC, aQ, aT]
     rfl
    refine aU (i := 13) (N := some 125) (v := ?_) (a' := ?_) #[true, true, true, true, true, true, true, true, true, true, true, true, true, true, false, true, false, false] rfl rfl (by kernel_rfl) (fun _ _ _ h => h) (Or.inl ⟨by rfl, ?_⟩) ?_ ?_
    rotate_left
    ·intro w'
     go_simp
     with_reducible rfl
    rotate_left
    ·simp only [Act.put, lA, lB, lC, aQ, aT]
     rfl
    refine aU (i := 14) (N := some 126) (v := ?_) (a' := ?_) #[true, true, true, true, true, true, true, true, true, true, true, true, true, true, true, true, false, false] rfl rfl (by kernel_rfl) (fun _ _ _ h => h) (Or.inl ⟨by rfl, ?_⟩) ?_ ?_
    rotate_left
    ·intro w'
     go_simp
     with_reducible rfl
    rotate_left
    ·simp only [Act.put, lA, lB, lC, aQ, aT]
     rfl
    exact norm_ (by simp only [putAll, Act.put, lA, lB, lC]) (hCont gb39 _ ⟨hHeld, HF0, HF2_0, HS2_0, HF2_1, HS2_1, HF3_0, HS3_0, HF4_0, HS4_0, HX35_0, HX35_1, HX35_2, HX35_3, HX35_4, HB, BK39, ⟨by have o_ := HORD.out; have t_ := HT.out; (try simp only []); omega⟩⟩)
  clear HF0 HF2_0 HS2_0 HF2_1 HS2_1 HF3_0 HS3_0 HF4_0 HS4_0 HX35_0 HX35_1 HX35_2 HX35_3 HX35_4 HB HT hHeld
  rintro gb41 w41 ⟨hHeld, HF0, HF2_0, HS2_0, HF2_1, HS2_1, HF3_0, HS3_0, HF4_0, HS4_0, HX35_0, HX35_1, HX35_2, HX35_3, HX35_4, HB, BK41, HO_⟩
  obtain ⟨tp41, et_⟩ : ∃ n_, n_ = w41.heap.size := ⟨_, rfl⟩
  have n0_ := aA.mk (show _ ∧ (hi4 ≤ gb41 ∧ gb41 + 1 ≤ tp41) from And.intro HORD.out (by rw [et_]; exact HO_.out))
  clear HORD HO_
  have HORD := n0_
  clear n0_
  have HT := aA.mk (Nat.le_of_eq et_)
  clear et_
  refine norm_ (a' := ?_) ?_ ?_
  rotate_left
  ·simp only [putAll, Act.put, lA, lB, lC]
   rfl
  refine last_ (i := 16) (N := none) #[true, true, true, true, true, true, true, true, true, true, true, true, true, true, true, true, true, false] rfl rfl (by kernel_rfl) (by decide) (fun K hK => ?_)
  have hzgb41_0_42 : w41.cell? ⟨gb41, 0, none⟩ = some (.int .i64 0) := (aC BK41.out 0).trans rfl
  have hygb41_0_42 := aD BK41.out 0
  have hzgb41_1_42 : w41.cell? ⟨gb41, 1, none⟩ = some (.int .i64 0) := (aC BK41.out 1).trans rfl
  have hygb41_1_42 := aD BK41.out 1
  have hzgb41_2_42 : w41.cell? ⟨gb41, 2, none⟩ = some (.int .i64 0) := (aC BK41.out 2).trans rfl
  have hygb41_2_42 := aD BK41.out 2
  have hzgb41_3_42 : w41.cell? ⟨gb41, 3, none⟩ = some (.int .i64 0) := (aC BK41.out 3).trans rfl
  have hygb41_3_42 := aD BK41.out 3
  have hzgb41_4_42 : w41.cell? ⟨gb41, 4, none⟩ = some (.int .i64 0) := (aC BK41.out 4).trans rfl
  have hygb41_4_42 := aD BK41.out 4
  have hge_ : w.heap.size ≤ gb41 := (by have o_ := HORD.out; omega)
  refine skip_ (w1 := ?_) (by rfl) rfl ?_ ?_
  rotate_left
  ·go_simp
   rfl
  refine hK.out _ _ ?_
  clear hK K
  obtain ⟨w42, hw_⟩ : ∃ z_, z_ = (((((w41.setCell ⟨gb41, 0, none⟩ (.int .i64 p0)).setCell ⟨gb41, 1, none⟩ (.int .i64 p1)).setCell ⟨gb41, 2, none⟩ (.int .i64 p2)).setCell ⟨gb41, 3, none⟩ (.int .i64 p3)).setCell ⟨gb41, 4, none⟩ (.int .i64 p4)) := ⟨_, rfl⟩
  (try rw [← hw_])
  have hkp : Kept w41 w42 (fun k_ => k_ = gb41) := (by rw [hw_]; exact Kept.setCell (Kept.setCell (Kept.setCell (Kept.setCell (Kept.setCell (Kept.refl w41 (fun k_ => k_ = gb41)) (.inl rfl) (.int .i64 p0)) (.inl rfl) (.int .i64 p1)) (.inl rfl) (.int .i64 p2)) (.inl rfl) (.int .i64 p3)) (.inl rfl) (.int .i64 p4))
  have hbn_ : Below w.heap.size w w42 := (by rw [hw_]; exact aN (aN (aN (aN (aN (HB.out) hge_) hge_) hge_) hge_) hge_)
  have hbk_ : w42.heap[gb41]? = some (.cells #[.int .i64 p0, .int .i64 p1, .int .i64 p2, .int .i64 p3, .int .i64 p4] 27 (0, 0)) := (by rw [hw_]; exact aZ (cs := #[.int .i64 p0, .int .i64 p1, .int .i64 p2, .int .i64 p3, .int .i64 0]) (cs' := #[.int .i64 p0, .int .i64 p1, .int .i64 p2, .int .i64 p3, .int .i64 p4]) (aZ (cs := #[.int .i64 p0, .int .i64 p1, .int .i64 p2, .int .i64 0, .int .i64 0]) (cs' := #[.int .i64 p0, .int .i64 p1, .int .i64 p2, .int .i64 p3, .int .i64 0]) (aZ (cs := #[.int .i64 p0, .int .i64 p1, .int .i64 0, .int .i64 0, .int .i64 0]) (cs' := #[.int .i64 p0, .int .i64 p1, .int .i64 p2, .int .i64 0, .int .i64 0]) (aZ (cs := #[.int .i64 p0, .int .i64 0, .int .i64 0, .int .i64 0, .int .i64 0]) (cs' := #[.int .i64 p0, .int .i64 p1, .int .i64 0, .int .i64 0, .int .i64 0]) (aZ (cs := #[.int .i64 0, .int .i64 0, .int .i64 0, .int .i64 0, .int .i64 0]) (cs' := #[.int .i64 p0, .int .i64 0, .int .i64 0, .int .i64 0, .int .i64 0]) (BK41.out) 0 _ rfl) 1 _ rfl) 2 _ rfl) 3 _ rfl) 4 _ rfl)
  have hsz_ : tp41 ≤ w42.heap.size := Nat.le_trans HT.out hkp.1
  have n0_ := aA.mk (Kd.F_kept HF0.out hkp (fun k_ h1_ h2_ => by have o_ := HORD.out; have t_ := HT.out; (try simp only [In2, Up, In, Ex, Exb] at h1_ h2_); omega))
  have n1_ := aA.mk (Kd.F_kept HF2_0.out hkp (fun k_ h1_ h2_ => by have o_ := HORD.out; have t_ := HT.out; (try simp only [In2, Up, In, Ex, Exb] at h1_ h2_); omega))
  have n2_ := aA.mk (Kd.R_kept HS2_0.out hkp (fun k_ h1_ h2_ => by have o_ := HORD.out; have t_ := HT.out; (try simp only [In2, Up, In, Ex, Exb] at h1_ h2_); omega))
  have n3_ := aA.mk (Kd.F_kept HF2_1.out hkp (fun k_ h1_ h2_ => by have o_ := HORD.out; have t_ := HT.out; (try simp only [In2, Up, In, Ex, Exb] at h1_ h2_); omega))
  have n4_ := aA.mk (Kd.R_kept HS2_1.out hkp (fun k_ h1_ h2_ => by have o_ := HORD.out; have t_ := HT.out; (try simp only [In2, Up, In, Ex, Exb] at h1_ h2_); omega))
  have n5_ := aA.mk (Kd.F_kept HF3_0.out hkp (fun k_ h1_ h2_ => by have o_ := HORD.out; have t_ := HT.out; (try simp only [In2, Up, In, Ex, Exb] at h1_ h2_); omega))
  have n6_ := aA.mk (Kd.R_kept HS3_0.out hkp (fun k_ h1_ h2_ => by have o_ := HORD.out; have t_ := HT.out; (try simp only [In2, Up, In, Ex, Exb] at h1_ h2_); omega))
  have n7_ := aA.mk (Kd.F_kept HF4_0.out hkp (fun k_ h1_ h2_ => by have o_ := HORD.out; have t_ := HT.out; (try simp only [In2, Up, In, Ex, Exb] at h1_ h2_); omega))
  have n8_ := aA.mk (Kd.R_kept HS4_0.out hkp (fun k_ h1_ h2_ => by have o_ := HORD.out; have t_ := HT.out; (try simp only [In2, Up, In, Ex, Exb] at h1_ h2_); omega))
  have n9_ := aA.mk (hbn_)
  have n10_ := aA.mk (hbk_)
  have n11_ := aA.mk (hsz_)
  (try clear HF0)
  (try clear HF2_0)
  (try clear HS2_0)
  (try clear HF2_1)
  (try clear HS2_1)
  (try clear HF3_0)
  (try clear HS3_0)
  (try clear HF4_0)
  (try clear HS4_0)
  (try clear HB)
  (try clear BK41)
  (try clear HT)
  have HF0 := n0_
  have HF2_0 := n1_
  have HS2_0 := n2_
  have HF2_1 := n3_
  have HS2_1 := n4_
  have HF3_0 := n5_
  have HS3_0 := n6_
  have HF4_0 := n7_
  have HS4_0 := n8_
  have HB := n9_
  have BK41 := n10_
  have HT := n11_
  clear n0_ n1_ n2_ n3_ n4_ n5_ n6_ n7_ n8_ n9_ n10_ n11_
  clear hw_ hkp hge_ hbn_ hbk_ hsz_
  refine aU (i := 17) (N := some 14) (v := ?_) (a' := ?_) #[true, true, true, true, true, true, true, true, true, true, true, true, true, true, true, true, true, true] rfl rfl (by kernel_rfl) (fun _ _ _ h => h) (Or.inl ⟨by rfl, ?_⟩) ?_ ?_
  rotate_left
  ·intro w'
   go_simp
   with_reducible rfl
  rotate_left
  ·simp only [Act.put, lA, lB, lC, aQ, aT]
   rfl
  refine done_ (by kernel_rfl) ?_
  have hzgb41_0_42 : w42.cell? ⟨gb41, 0, none⟩ = some (.int .i64 p0) := (aC BK41.out 0).trans rfl
  have hygb41_0_42 := aD BK41.out 0
  have hzgb41_1_42 : w42.cell? ⟨gb41, 1, none⟩ = some (.int .i64 p1) := (aC BK41.out 1).trans rfl
  have hygb41_1_42 := aD BK41.out 1
  have hzgb41_2_42 : w42.cell? ⟨gb41, 2, none⟩ = some (.int .i64 p2) := (aC BK41.out 2).trans rfl
  have hygb41_2_42 := aD BK41.out 2
  have hzgb41_3_42 : w42.cell? ⟨gb41, 3, none⟩ = some (.int .i64 p3) := (aC BK41.out 3).trans rfl
  have hygb41_3_42 := aD BK41.out 3
  have hzgb41_4_42 : w42.cell? ⟨gb41, 4, none⟩ = some (.int .i64 p4) := (aC BK41.out 4).trans rfl
  have hygb41_4_42 := aD BK41.out 4
  try go_wp2
  go_roundg k1
  case measure => omega
  case rel => exact ⟨i34 + 1, _, rfl, ⟨show _ = ((i34 + 1 : Nat) : Int) by have := HI34.out; have hm_ := HAL.out; have := HK34.out; first | (rw [w64 (by omega) (by omega)]; omega) | omega⟩, ⟨by have := HK34.out; omega⟩, ⟨Nat.le_trans (by have o_ := HORD.out; omega) HT.out⟩, HF0, HF2_0, HS2_0, HF2_1, HS2_1, HF3_0, HS3_0, HF4_0, HS4_0, HB⟩
 have hd_ : decide (x34 < (a.length : Int)) = false := decide_eq_false (by have := HI34.out; have := HK34.out; omega)
 try go_wp2
 go_loopg [15] (d.length) (fun kq v43 w' => ∃ (i43 : Nat) (x43 : Int), v43 = .int .i64 x43 ∧ aA (x43 = (i43 : Int)) ∧ aA (i43 + kq = d.length) ∧ aA (hi4 ≤ w'.heap.size) ∧ aA (Kd.F (Kd.int .u8) w' (In 0 w.heap.size) A0 l0.length l0) ∧ aA (Kd.F k27 w' (In lo2 hi2) A2_0 a.length a) ∧ aA (Kd.R k27 27 w' lo2 (In lo2 hi2) (.slice A2_0 a.length c2_0) a) ∧ aA (Kd.F k27 w' (In lo2 hi2) A2_1 b.length b) ∧ aA (Kd.R k27 27 w' lo2 (In lo2 hi2) (.slice A2_1 b.length c2_1) b) ∧ aA (Kd.F k27 w' (In lo3 hi3) A3_0 m.length m) ∧ aA (Kd.R k27 27 w' lo3 (In lo3 hi3) (.slice A3_0 m.length c3_0) m) ∧ aA (Kd.F k27 w' (In lo4 hi4) A4_0 d.length d) ∧ aA (Kd.R k27 27 w' lo4 (In lo4 hi4) (.slice A4_0 d.length c4_0) d) ∧ aA (Below w.heap.size w w'))
 case atStart => exact ⟨0, 0, rfl, ⟨rfl⟩, ⟨Nat.zero_add _⟩, HT, HF0, HF2_0, HS2_0, HF2_1, HS2_1, HF3_0, HS3_0, HF4_0, HS4_0, HB⟩
 clear HF0 HF2_0 HS2_0 HF2_1 HS2_1 HF3_0 HS3_0 HF4_0 HS4_0 HB HT
 obtain ⟨i43, x43, rfl, HI43, HK43, HT, HF0, HF2_0, HS2_0, HF2_1, HS2_1, HF3_0, HS3_0, HF4_0, HS4_0, HB⟩ := hrel
 rcases gk with _ | k1
 rotate_left
 ·have hp_ : 0 ≤ x43 := (by have := HI43.out; omega)
  have hq_ : x43 < (d.length : Int) := (by have := HI43.out; have := HK43.out; omega)
  have hd_ : decide (x43 < (d.length : Int)) = true := decide_eq_true hq_
  have h1_ := HD.out i43 (by have := HK43.out; omega)
  rw [← HI43.out] at h1_
  have hdk_ : ((rd_T27 d x43).f2 == 0) = false := beq_eq_false_iff_ne.mpr h1_
  clear h1_
  obtain ⟨ad44, ee44, hx44_0, hx44_1, hx44_2, hx44_3, hx44_4⟩ := at_T27 (Kd.F_now HF4_0.out) x43 hp_ hq_
  cases ee44
  try go_wp2
  go_roundg k1
  case measure => omega
  case rel => exact ⟨i43 + 1, _, rfl, ⟨show _ = ((i43 + 1 : Nat) : Int) by have := HI43.out; have hm_ := HDL.out; have := HK43.out; first | (rw [w64 (by omega) (by omega)]; omega) | omega⟩, ⟨by have := HK43.out; omega⟩, ⟨Nat.le_trans (by have o_ := HORD.out; omega) HT.out⟩, HF0, HF2_0, HS2_0, HF2_1, HS2_1, HF3_0, HS3_0, HF4_0, HS4_0, HB⟩
 have hd_ : decide (x43 < (d.length : Int)) = false := decide_eq_false (by have := HI43.out; have := HK43.out; omega)
 go_wp2_with (first | ((with_reducible refine bK (f := 47) rfl ?_); refine goesL_ (some 142) rfl rfl Try.func47 (by kernel_rfl) rfl #[.slice A3_0 m.length c3_0] rfl (by (try simp only [List.map_toArray, List.map_cons, List.map_nil]); first | done | rfl | (simp only [List.length_drop, List.length_take]; rfl)) ?_; (with_reducible refine (impl_SetOk.calls k5 _ _ m true _ ?s1 ?s2 Q5.out).mono ?_); (case s1 => exact (Kd.F_now HF3_0.out)); (case s2 => exact HC3_0.out); rintro e_ w45 ⟨rfl, hb⟩; refine ⟨_, rfl, ?_⟩; have n0_ := aA.mk (Kd.bA HF0.out hb); have n1_ := aA.mk (Kd.bA HF2_0.out hb); have n2_ := aA.mk (Kd.bB HS2_0.out hb); have n3_ := aA.mk (Kd.bA HF2_1.out hb); have n4_ := aA.mk (Kd.bB HS2_1.out hb); have n5_ := aA.mk (Kd.bA HF3_0.out hb); have n6_ := aA.mk (Kd.bB HS3_0.out hb); have n7_ := aA.mk (Kd.bA HF4_0.out hb); have n8_ := aA.mk (Kd.bB HS4_0.out hb); have n9_ := aA.mk (aX HB.out hb); have n10_ := aA.mk (Nat.le_trans HT.out hb.size); (try clear HF0); (try clear HF2_0); (try clear HS2_0); (try clear HF2_1); (try clear HS2_1); (try clear HF3_0); (try clear HS3_0); (try clear HF4_0); (try clear HS4_0); (try clear HB); (try clear HT); have HF0 := n0_; have HF2_0 := n1_; have HS2_0 := n2_; have HF2_1 := n3_; have HS2_1 := n4_; have HF3_0 := n5_; have HS3_0 := n6_; have HF4_0 := n7_; have HS4_0 := n8_; have HB := n9_; have HT := n10_; clear n0_ n1_ n2_ n3_ n4_ n5_ n6_ n7_ n8_ n9_ n10_; (try clear hb)))
 have hres_ := @results_tmp Try.f11 2 (by kernel_rfl)
 refine bodyPost_ret (fn := Try.f11) (P := Try.prog) (hres_ _ _ _) rfl ?_
 exact ⟨by first | rfl | (rw [hle3n]; rfl) | (simp only [hle3n]; rfl) | (simp [hle3n]; done), HB.out⟩
theorem rd_at (l : List S27) (i : Nat) : rd_T27 l (i : Int) = l.getD i z27 := by unfold rd_T27; rw [Int.toNat_natCast]
theorem laws_FnSets.calls (A0 : Option Addr) (c0 : Nat) (l0 : List (Int)) (w : World) (hr0 : Kd.C (Kd.int .u8) w A0 l0.length l0) (hc0 : l0.length ≤ c0) (h0 : l0.length ≤ 9223372036854775807 ∧ ∀ x ∈ l0, (Lit.int .u8 x).wf = true) :
  Calls Try.prog 11 #[.slice A0 l0.length c0] w fun e w' => e = .returned (.bool true) ∧ Below w.heap.size w w' := by
 have hf := C_F (Kd.heap_int _) hr0
 have hB : bytesIn l0 := fun x hx => wf_u8 (h0.2 x hx)
 by_cases hbig : (l0.length : Int) > 1048576
 ·exact walkFnSetsbig _ _ _ [] [] [] [] w hf hc0 (by simp only [laws_big.f, decide_eq_true hbig])
 have hl : l0.length ≤ 1048576 := by omega
 obtain ⟨a, b, ⟨⟨ha6, hb6⟩, ⟨hra, hrb⟩, hka, hkb⟩, e2⟩ := DrawMergeSets_ex l0 hB hl
 obtain ⟨k2, A2⟩ := evGet e2
 have hml := mergeSets_length a b
 have hrm := rise_merge b a hra
 have hmb := merge_len hra hrb
 have hdl : (dropNone (mergeSets a b)).length ≤ (mergeSets a b).length := List.length_filter_le _ _
 obtain ⟨k3, A3⟩ := evGet (impl_MergeSets_ev a b (by omega))
 obtain ⟨k4, A4⟩ := evGet (impl_Drop_ev (mergeSets a b) (by omega))
 obtain ⟨k5, A5⟩ := evGet (impl_SetOk_ev (mergeSets a b) (by omega))
 have hkm : ∀ x ∈ mergeSets a b, keyOkB x = true := fun x hx => (mem_merge b a hx).elim (hka x) (hkb x)
 rw [setOk_rise hrm hkm (by omega)] at A5
 have hsum : IntKind.i64.wrap ((a.length : Int) + (b.length : Int)) = (a.length : Int) + (b.length : Int) := by rw [IntKind.wrap_i64]; omega
 refine walkFnSets _ _ _ a b (mergeSets a b) (dropNone (mergeSets a b)) k2 k3 k4 k5 w hf hc0 (by simp only [laws_big.f, decide_eq_false hbig]) A2 A3 A4 A5 (by omega) (by omega) (by omega) (fun i hi => ?_) (fun i hi => ?_) (fun i hi => ?_) hsum (decide_eq_true (by omega)) (decide_eq_true (by omega)) (decide_eq_true (by omega)) (decide_eq_true (by omega)) (decide_eq_true (by omega)) (decide_eq_true (by omega)) (eq_true (by omega)) (eq_true (by omega)) (eq_true (by omega))
 ·rw [rd_at]
  have hx := getD_mem (mergeSets a b) i z27 hi
  have hless : 0 < i → less (rd_T27 (mergeSets a b) (wrap64 ((i : Int) - 1))) ((mergeSets a b).getD i z27) = true := fun h1 => by
   rw [w64 (x := (i : Int) - 1) (by omega) (by omega), show (i : Int) - 1 = ((i - 1 : Nat) : Int) by omega, rd_at]
   exact rise_at hrm i h1 hi
  generalize (mergeSets a b).getD i z27 = x at *
  have hm := find_merge x.f0 x.f1 b a hrb
  rw [find_rise hrm hx] at hm
  obtain ⟨ka, Aa⟩ := evGet (impl_SetAt_ev a x.f0 x.f1 (by omega))
  obtain ⟨kb, Ab⟩ := evGet (impl_SetAt_ev b x.f0 x.f1 (by omega))
  have ea : setAt a x.f0 x.f1 = a.find? (spotQ x.f0 x.f1) := rfl
  have eb : setAt b x.f0 x.f1 = b.find? (spotQ x.f0 x.f1) := rfl
  rw [ea] at Aa
  rw [eb] at Ab
  have hl : 0 < i → impl_LessKey.f (rd_T27 (mergeSets a b) (wrap64 ((i : Int) - 1))).f0 (rd_T27 (mergeSets a b) (wrap64 ((i : Int) - 1))).f1 (rd_T27 (mergeSets a b) (wrap64 ((i : Int) - 1))).f2 (rd_T27 (mergeSets a b) (wrap64 ((i : Int) - 1))).f3 (rd_T27 (mergeSets a b) (wrap64 ((i : Int) - 1))).f4 x.f0 x.f1 x.f2 x.f3 x.f4 = some true := fun h1 => by rw [impl_LessKey_f, hless h1]
  cases hb : b.find? (spotQ x.f0 x.f1) with
  | some y =>
   rw [hb] at hm Ab
   simp only [Option.or, Option.some.injEq] at hm
   subst hm
   obtain ⟨⟨p0, p1, p2, p3, p4, ba⟩, hp⟩ : ∃ z, z = at6 (a.find? (spotQ x.f0 x.f1)) := ⟨_, rfl⟩
   rw [← hp] at Aa
   exact ⟨ka, kb, p0, p1, p2, p3, p4, _, _, _, _, _, ba, true, Aa, Ab, .inl ⟨rfl, rfl, rfl, rfl, rfl, rfl⟩, hl⟩
  | none =>
   rw [hb] at hm Ab
   simp only [Option.or] at hm
   rw [← hm] at Aa
   exact ⟨ka, kb, _, _, _, _, _, _, _, _, _, _, true, false, Aa, Ab, .inr ⟨rfl, rfl, rfl, rfl, rfl, rfl, rfl⟩, hl⟩
 ·rw [rd_at]
  have hx := getD_mem a i z27 hi
  generalize a.getD i z27 = x at *
  have hm := find_merge x.f0 x.f1 b a hrb
  rw [find_rise hra hx] at hm
  obtain ⟨ka, Aa⟩ := evGet (impl_SetAt_ev (mergeSets a b) x.f0 x.f1 (by omega))
  have ea : setAt (mergeSets a b) x.f0 x.f1 = (mergeSets a b).find? (spotQ x.f0 x.f1) := rfl
  rw [ea, hm] at Aa
  cases hb : b.find? (spotQ x.f0 x.f1) with
  | some y => rw [hb] at Aa; exact ⟨ka, _, _, _, _, _, Aa⟩
  | none => rw [hb] at Aa; exact ⟨ka, _, _, _, _, _, Aa⟩
 ·rw [rd_at]
  have hx := getD_mem (dropNone (mergeSets a b)) i z27 hi
  generalize (dropNone (mergeSets a b)).getD i z27 = x at *
  unfold dropNone at hx
  rw [List.mem_filter] at hx
  simpa using hx.2
end Go.Proofs.Ytkaoiaolbhklnaa.Law

namespace Go.Proofs.Ytkaoiaolbhklnaa.Op
open Go.RowKit Go.ChangeShapes Go.WideShapes Go.Proofs.YtkaoiaolbhklnaaW.PrintWords
def Opens {α : Type} (P : Program) (t : TypeId) (d : Kd α) (g : α → Prop) : Prop :=
 ∀ {H : Type} {enc : TypeId × Value → H} {w : World} {base : Nat} {spare : Nat → Bool} {held : Bool} {fuel : Nat} {cs : List Value} {x : DataW H × List MemPlace},
  DataW.trod enc P w base spare held fuel t cs = some x → ∃ a, d.K w a cs ∧ g a
theorem opens_int {P : Program} {t : TypeId} {k : IntKind} (ht : P.underlying t = some (.int k)) : Opens P t (Kd.int k) (fun n => (Lit.int k n).wf = true) := by
 intro H enc w base spare held fuel cs x h
 obtain ⟨n, rfl, _, hw⟩ := DataW.trod_int ht h
 exact ⟨n, rfl, hw⟩
theorem opens_slice {α : Type} {P : Program} {t e : TypeId} {d : Kd α} {g : α → Prop} (q : Nat) (ht : P.underlying t = some (.slice e)) (hd : Opens P e d g) (hc : P.cellsOf e = d.sz) :
  Opens P t (Kd.slice q d) (fun xs => xs.length ≤ 9223372036854775807 ∧ ∀ x ∈ xs, g x) := by
 intro H enc w base spare held fuel cs x h
 rcases DataW.trod_slice ht h with ⟨rfl, _⟩ | ⟨a, len, cap, elems, rest, n, _, rfl, _, _, hl, hm, hlen, hel, _, _⟩
 ·exact ⟨[], ⟨none, 0, rfl, Nat.le_refl _, rfl, Nat.zero_le _, fun h => by cases h⟩, by simp, by simp⟩
 ·have each : ∀ i : Fin len, ∃ y : α, g y ∧ ∃ c : List Value, c.length = d.sz ∧ d.K w y c ∧ ∀ j u, c[j]? = some u → w.cell? (a.add (i.val * d.sz + j)) = some u := by
   intro i
   have h1 := hel i.val i.isLt
   rw [List.getElem?_eq_getElem (by omega), Option.bind_eq_some_iff] at h1
   obtain ⟨c, hcs, hy⟩ := h1
   obtain ⟨_, hcl, hcell⟩ := World.cells?_some hcs
   obtain ⟨y, hK, hg⟩ := hd hy
   refine ⟨y, hg, c, by rw [hcl, hc], hK, fun j u hu => ?_⟩
   have hj : j < c.length := (List.getElem?_eq_some_iff.1 hu).1
   have h2 := hcell j (by omega)
   rw [hu] at h2
   rw [← h2, hc]
   congr 1
   exact (Addr.add_add a _ _).symm
  obtain ⟨f, hf⟩ := Classical.axiomOfChoice each
  refine ⟨List.ofFn f, ⟨some a, cap, by rw [List.length_ofFn], by rw [List.length_ofFn]; exact hl, by rw [List.length_ofFn], by rw [List.length_ofFn]; unfold maxLen at hm; omega, fun _ => ⟨a, rfl, fun j p hp => ?_⟩⟩, by rw [List.length_ofFn]; unfold maxLen at hm; omega, fun x hx => ?_⟩
  ·rw [List.getElem?_ofFn] at hp
   split at hp
   ·rename_i hj
    obtain rfl := Option.some.inj hp
    obtain ⟨_, c, h1, h2, h3⟩ := hf ⟨j, hj⟩
    exact ⟨c, h1, h2, h3⟩
   ·cases hp
  ·obtain ⟨i, rfl⟩ := List.mem_ofFn.1 hx
   exact (hf i).1
/-- The fields from one offset on. -/
def OpensL {α : Type} (P : Program) (fs : List Field) (off : Nat) (d : Kd α) (g : α → Prop) : Prop :=
 ∀ {H : Type} {enc : TypeId × Value → H} {w : World} {base : Nat} {spare : Nat → Bool} {held : Bool} {fuel : Nat} {cs : List Value},
  (∀ f ∈ fs, ∃ x, DataW.trod enc P w base spare held fuel f.type ((cs.drop f.offset).take (P.cellsOf f.type)) = some x) → ∃ a, d.K w a ((cs.drop off).take d.sz) ∧ g a
end Go.Proofs.Ytkaoiaolbhklnaa.Op

namespace Go.Proofs.Ytkaoiaolbhklnaa.rowFnSets
open Go.ChangeShapes Go.WideShapes Go.ChangeAt Go.RowKit
open Go.ChangeMaps (open_string shut_string)
open Go.Proofs.YtkaoiaolbhklnaaW.PrintWords Go.Proofs.Ytkaoiaolbhklnaa.Op Go.Proofs.Ytkaoiaolbhklnaa.PFnSets Go.Proofs.Ytkaoiaolbhklnaa.Law
set_option linter.unusedVariables false
set_option linter.unusedSimpArgs false
theorem own : ownKnob Try.prog.godebug = none := by kernel_rfl
theorem laidOut : laidOutB Try.prog = true := by kernel_rfl
set_option maxRecDepth 100000 in
theorem lifted (os : Os) (started : os.Started) (H : Type) (enc : TypeId × Value → H) :
  ReturnsInHanded {} Try.checked os 11 .any (Rows.fnSetsSpec.pre6 enc Try.prog Try.f11 Rows.fnSetsRow.domain false) (Rows.fnSetsSpec.post enc Try.prog Try.f11 false true false false) := by
 refine returnsInHanded_of_change_sized (C := Try.checked) own started (by kernel_rfl) Try.func11
  (ChangeSpec.witness6 (enc := enc) (C := Try.checked) false ⟨#[], #[.slice none 0 0], []⟩ 8 (by kernel_rfl) (by kernel_rfl) (by kernel_rfl) (by kernel_rfl)) ?_
 intro W base args ds gs before hval0 hW hcnd hsz0 _
 have hval : ∀ (j : Nat) t v, Try.f11.params[j]? = some t → args[j]? = some v → Value.okWide Try.prog W .any base t v := hval0
 have hW' := hW
 obtain ⟨p, q, hA0, hV, rfl, hfz, hnd⟩ := hW
 have hA : DataW.TrodAll enc Try.prog W 0 (fun _ => true) true Try.f11.params.toList args.toList ds p := hA0
 rw [Try.params11] at hA hval
 obtain ⟨v0, vs0, d0, ds0, p0, q0, hargs, rfl, rfl, h0, r0⟩ := trodAll_cons hA
 obtain ⟨rfl, rfl, rfl⟩ := trodAll_nil r0
 obtain rfl : args = #[v0] := by cases args; simp_all
 obtain ⟨rfl, rfl⟩ := trodVars_none hV
 have k0 := h0
 have lt0 : ∀ x ∈ p0, x.block < W.heap.size := by obtain ⟨m, hm⟩ := k0; exact DataW.trod_lt m _ _ _ hm
 obtain ⟨fuel0, hf0⟩ := h0
 obtain ⟨b0, len0, cap0, rfl⟩ := okWide_slice Try.underlying22 (hval 0 22 v0 rfl rfl)
 obtain ⟨l0, ⟨A0, c0, e0, hc0, hC0⟩, g0⟩ := (opens_slice 5 Try.underlying22 (opens_int Try.underlying5) (by kernel_rfl)) hf0
 simp only [Value.cells, List.cons.injEq, Value.slice.injEq, and_true] at e0
 obtain ⟨rfl, rfl, rfl⟩ := e0
 clear hA0 hval0 hsz0
 refine (laws_FnSets.calls _ _ _ W hC0 hc0 g0).mono fun e W' ⟨he, bel0⟩ => ?_
 have bel : Below W.heap.size W W' := by first | exact bel0 | exact bel0.below
 subst he
 exact ⟨_, rfl, _, _, _, [], _, [], hW', trodAll_mk1 (shut_bool Try.underlying4 _), (trodAll_cons_mk (Below.trod laidOut (by kernel_rfl) (lE (by kernel_rfl)) k0 bel lt0) trodAll_mk0), rfl, bel.frame _, fun h => by cases h⟩
theorem over : Rows.fnSetsRow.holds Try.pinned (OpenSpec.ofChange Rows.fnSetsSpec) :=
 OpenClaim.holds_of_wide 11 Try.f11 rfl rfl rfl rfl rfl rfl rfl ⟨rfl, rfl, rfl, rfl, rfl⟩ rfl rfl rfl rfl rfl (by kernel_rfl) Try.func11 (by kernel_rfl)
  (lE (by kernel_rfl)) (by unfold Func.isWrapper; first | (rw [if_pos (by decide +kernel)]; kernel_rfl) | (rw [if_neg (by decide +kernel)]; exact ⟨rfl, rfl⟩))
  (fun os started H enc _ => lifted os started H enc)
theorem proved : Rows.FnSetsSaid := over
#print axioms proved
end Go.Proofs.Ytkaoiaolbhklnaa.rowFnSets
namespace Go.Proofs.Ytkaoiaolbhklnaa
theorem fnSets_holds : Rows.FnSetsSaid := rowFnSets.proved
end Go.Proofs.Ytkaoiaolbhklnaa
