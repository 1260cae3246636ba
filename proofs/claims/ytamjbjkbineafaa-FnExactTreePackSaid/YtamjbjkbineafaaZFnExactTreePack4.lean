/- The law: the functions that it reaches, each with the proof that the machine's call comes to its answer, what they answer, and the law's row; each theorem says its conditions itself. -/
import Derived.Test.YtamjbjkbineafaaZFnExactTreePack3
import Derived.ChangeArms
import Derived.ChangeShapes
import Derived.WideShapes
import Derived.Test.YtamjbjkbineafaaRows
import Derived.WalkKit
import Derived.ProofKit
import Derived.OpenShut
import Derived.ShutString
import Derived.ChangeOld
import Derived.Below
import Derived.SizedLaws
namespace Go.Proofs.Ytamjbjkbineafaa.Law
open Go.RowKit Go.Proofs.Ytamjbjkbineafaa.PFnExactTreePack Go.Proofs.Ytamjbjkbineafaa.Core Go.Proofs.YtamjbjkbineafaaW.PrintWords Go.Proofs.YtamjbjkbineafaaW.PrintLast Go.Proofs.YtamjbjkbineafaaW.PrintMore Go.Proofs.Ytamjbjkbineafaa.Pure
set_option linter.unusedSimpArgs false
set_option linter.unusedVariables false
/-- Rows whose elements' rows lie apart, as an element. -/
def deepS {α : Type} (e : Nat) (d : Kd α) : Kd (List α) where
 sz := 1
 E := e :: d.E
 K := (Kd.slice e d).K
 M := fun w base ok x cs => ∃ v, cs = [v] ∧ Kd.S d e w base ok v x
 K_len := (Kd.slice e d).K_len
 K_one := (Kd.slice e d).K_one
 K_below := (Kd.slice e d).K_below
 K_of_M := by
  rintro w base ok x cs ⟨v, rfl, h⟩
  exact (Kd.slice e d).K_of_M ⟨v, rfl, Kd.S_R h⟩
 M_mono := by
  rintro w base ok ok' x cs hok ⟨v, rfl, h⟩
  exact ⟨v, rfl, Kd.S_mono h hok⟩
 M_bound := by
  rintro w base ok x cs ⟨v, rfl, h⟩
  exact ⟨v, rfl, Kd.S_bound h⟩
 M_move := by
  rintro w w1 base ok x cs hm ⟨v, rfl, h⟩
  exact ⟨v, rfl, Kd.S_move h hm⟩
 M_lower := by
  rintro w base base' ok x cs hb ⟨v, rfl, h⟩
  exact ⟨v, rfl, Kd.S_lower h hb⟩
def k59D : Kd S59 := Kd.iso (deepS 45 (Kd.slice 38 k38)) (fun x : S59 => x.f0)
def rdN (xs : List S59) (i : Int) : S59 := xs.getD i.toNat z59
theorem F_nd {n : Nat} {W : World} {ok : Nat → Prop} {A : Option Addr} {xs : List S59} (h : Kd.F k59D W ok A n xs) (i : Int) (h0 : 0 ≤ i) (h1 : i < n) :
  ∃ ad A' c', A = some ad ∧ W.cell? (ad.add i.toNat) = some (.slice A' (rdN xs i).f0.length c') ∧ (rdN xs i).f0.length ≤ c' ∧ Kd.F (Kd.slice 38 k38) W ok A' (rdN xs i).f0.length (rdN xs i).f0 := by
 obtain ⟨ad, c, e_, _, hK, hcc, _⟩ := Kd.F_get h z59 i h0 h1
 obtain ⟨A', c', rfl, hl, hf⟩ := Kd.FK_slice_open (e := 45) (d := Kd.slice 38 k38) hK
 exact ⟨ad, A', c', e_, by have := hcc 0 _ rfl; rwa [show (k59D).sz = 1 from rfl, Nat.mul_one, Nat.add_zero] at this, hl, hf⟩
theorem new_SI2 {α : Type} {d : Kd α} {e base lo hi : Nat} {w1 : World} {v : Value} {xs : List α} (h : Kd.S d e w1 base (In lo hi) v xs) : ∃ A c, v = .slice A xs.length c ∧ xs.length ≤ c ∧ Kd.F d w1 (In lo hi) A xs.length xs ∧ Kd.S d e w1 base (In lo hi) (.slice A xs.length c) xs := by
 obtain ⟨A, c, rfl, hl, _⟩ := Kd.S_reads h
 exact ⟨A, c, rfl, hl, Kd.S_F h, h⟩
theorem new_RI2 {α : Type} {d : Kd α} {e base lo hi : Nat} {w1 : World} {v : Value} {xs : List α} (h : Kd.R d e w1 base (In lo hi) v xs) : ∃ A c, v = .slice A xs.length c ∧ xs.length ≤ c ∧ Kd.F d w1 (In lo hi) A xs.length xs ∧ Kd.R d e w1 base (In lo hi) (.slice A xs.length c) xs := by
 obtain ⟨A, c, rfl, hl, _⟩ := Kd.R_reads h
 exact ⟨A, c, rfl, hl, Kd.R_F h, h⟩
def In2 (a b c d k : Nat) : Prop := In a b k ∨ In c d k
def Up (a b c k : Nat) : Prop := In a b k ∨ c ≤ k
def Ex (a x y k : Nat) : Prop := a ≤ k ∧ k ≠ x ∧ k ≠ y
def Exb (a x y t k : Nat) : Prop := Ex a x y k ∧ k < t
theorem kept_grown {W w1 : World} {row : Option Nat} {S : Nat → Prop} (hg : W.grownBy w1 row) (h : ∀ k, row = some k → S k) : Kept W w1 S := ⟨hg.size, fun k hlt hn => hg.block k hlt (fun he => hn (h k he.symm))⟩
theorem getN_ok {l : List S59} (h : okNodeS l) (i : Int) : okKeySS (rdN l i).f0 := by
 unfold rdN
 by_cases c : i.toNat < l.length
 ·exact okNodeS_at h i.toNat c
 ·rw [List.getD_eq_getElem?_getD, List.getElem?_eq_none (by omega)]; simp [z59, okKeySS, bulkKeySS]
def okTreeB (s : List Int) (l : List S59) : Bool := decide (s.length ≤ 4194304) && decide (bulkNodeS l ≤ 4194304)
set_option maxHeartbeats 8000000 in
set_option maxRecDepth 100000 in
theorem walk_copyTree (A0_0 : Option Addr) (c0_0 : Nat) (l0_0 : List (Int)) (A0_1 : Option Addr) (c0_1 : Nat) (l0_1 : List (S59)) (w : World) (hf0_0 : Kd.F (Kd.int .i64) w (In 0 w.heap.size) A0_0 l0_0.length l0_0) (hc0_0 : l0_0.length ≤ c0_0) (hf0_1 : Kd.F k59D w (In 0 w.heap.size) A0_1 l0_1.length l0_1) (hc0_1 : l0_1.length ≤ c0_1) (hok0 : l0_0.length ≤ 4194304) (hok1 : okNodeS l0_1) :
  Calls Try.prog 31 #[.agg #[.slice A0_0 l0_0.length c0_0, .slice A0_1 l0_1.length c0_1]] w fun e w' => ∃ v0_ v1_ : Value, ∃ m_ : Nat, e = .returned (.agg #[v0_, v1_]) ∧ w.heap.size ≤ m_ ∧ m_ ≤ w'.heap.size ∧ Kd.R (Kd.int .i64) 3 w' w.heap.size (In w.heap.size m_) v0_ l0_0 ∧ Kd.S k59D 59 w' w.heap.size (In m_ w'.heap.size) v1_ l0_1 ∧ Below w.heap.size w w' := by
 have hu29 := Try.underlying29
 have hu59 := Try.underlying59
 have HF0_0 := aA.mk hf0_0
 have HC0_0 := aA.mk hc0_0
 clear hf0_0 hc0_0
 have HF0_1 := aA.mk hf0_1
 have HC0_1 := aA.mk hc0_1
 clear hf0_1 hc0_1
 have HB := aA.mk (Below.refl w.heap.size w)
 have HORD := aA.mk (Nat.le_refl w.heap.size)
 have HT := aA.mk (Nat.le_refl w.heap.size)
 have JI := aA.mk (impl_copyInts_f l0_0 hok0)
 go_enter Try.func31, Try.ntmps31
 go_wp2_with (first | ((with_reducible refine aW (N := 1) rfl ?_); refine aX ?hg (N := 1) ?hd (cs := #[.slice A0_0 l0_0.length c0_0, .slice A0_1 l0_1.length c0_1]) (t := 29) ?hr ?_; (case hd => rfl); (case hg => rfl); (case hr => first | (go_simp; done) | (go_simp; rfl)); intro gb1 hg_ w1 hbox hb; have hge_ : w.heap.size ≤ gb1 := (by rw [hg_]; exact HT.out); have hlt_ : gb1 + 1 ≤ w1.heap.size := bF hbox; have n0_ := aA.mk (Kd.bE HF0_0.out hb); have n1_ := aA.mk (Kd.bE HF0_1.out hb); have n2_ := aA.mk (aU HB.out hb); have n3_ := aA.mk (hbox); have n4_ := aA.mk (And.intro HORD.out (And.intro hge_ (Nat.le_succ gb1))); have n5_ := aA.mk (hlt_); (try clear HF0_0); (try clear HF0_1); (try clear HB); (try clear BK1); (try clear HORD); (try clear HT); have HF0_0 := n0_; have HF0_1 := n1_; have HB := n2_; have BK1 := n3_; have HORD := n4_; have HT := n5_; clear n0_ n1_ n2_ n3_ n4_ n5_; clear hb hbox hg_ hge_ hlt_; have hzgb1_0_1 : w1.cell? ⟨gb1, 0, none⟩ = some (.slice A0_0 l0_0.length c0_0) := (aE BK1.out 0).trans rfl; have hygb1_0_1 := aD BK1.out 0; have hzgb1_1_1 : w1.cell? ⟨gb1, 1, none⟩ = some (.slice A0_1 l0_1.length c0_1) := (aE BK1.out 1).trans rfl; have hygb1_1_1 := aD BK1.out 1) | ((with_reducible refine aW (N := 2) rfl ?_); refine aX ?hg (N := 2) ?hd (cs := #[.slice none 0 0, .slice none 0 0]) (t := 29) ?hr ?_; (case hd => rfl); (case hg => rfl); (case hr => first | (go_simp; done) | (go_simp; rfl)); intro gb2 hg_ w2 hbox hb; have hge_ : (gb1 + 1) ≤ gb2 := (by rw [hg_]; exact HT.out); have hlt_ : gb2 + 1 ≤ w2.heap.size := bF hbox; have n0_ := aA.mk (Kd.bE HF0_0.out hb); have n1_ := aA.mk (Kd.bE HF0_1.out hb); have n2_ := aA.mk (aV BK1.out hb); have n3_ := aA.mk (aU HB.out hb); have n4_ := aA.mk (hbox); have n5_ := aA.mk (And.intro HORD.out (And.intro hge_ (Nat.le_succ gb2))); have n6_ := aA.mk (hlt_); (try clear HF0_0); (try clear HF0_1); (try clear BK1); (try clear HB); (try clear BK2); (try clear HORD); (try clear HT); have HF0_0 := n0_; have HF0_1 := n1_; have BK1 := n2_; have HB := n3_; have BK2 := n4_; have HORD := n5_; have HT := n6_; clear n0_ n1_ n2_ n3_ n4_ n5_ n6_; clear hb hbox hg_ hge_ hlt_; have hzgb1_0_2 : w2.cell? ⟨gb1, 0, none⟩ = some (.slice A0_0 l0_0.length c0_0) := (aE BK1.out 0).trans rfl; have hygb1_0_2 := aD BK1.out 0; have hzgb1_1_2 : w2.cell? ⟨gb1, 1, none⟩ = some (.slice A0_1 l0_1.length c0_1) := (aE BK1.out 1).trans rfl; have hygb1_1_2 := aD BK1.out 1; have hzgb2_0_2 : w2.cell? ⟨gb2, 0, none⟩ = some (.slice none 0 0) := (aE BK2.out 0).trans rfl; have hygb2_0_2 := aD BK2.out 0; have hzgb2_1_2 : w2.cell? ⟨gb2, 1, none⟩ = some (.slice none 0 0) := (aE BK2.out 1).trans rfl; have hygb2_1_2 := aD BK2.out 1) | ((with_reducible refine bB (f := 69) rfl ?_); refine bP (some 8) rfl rfl Try.func69 (by kernel_rfl) rfl #[.slice A0_0 l0_0.length c0_0] rfl (by (try simp only [List.map_toArray, List.map_cons, List.map_nil]); first | done | rfl | (simp only [List.length_drop, List.length_take]; rfl)) ?_; (with_reducible refine (impl_copyInts.calls _ _ l0_0 l0_0 _ ?s1 ?s2 JI.out).mono ?_); (case s1 => exact (Kd.F_now HF0_0.out)); (case s2 => exact HC0_0.out); rintro e_ w3 ⟨v0_, rfl, ho0, hb⟩; refine ⟨_, rfl, ?_⟩; obtain ⟨lo3, hi3, el_, eh_, ol_, oh_⟩ := Mem.times HT.out hb; (try rw [← el_] at ho0); obtain ⟨A3_0, c3_0, ev_, hc0_, hf0_, hs0_⟩ := Mem.new_R ho0 eh_; subst ev_; have n0_ := aA.mk (Kd.bE HF0_0.out hb); have n1_ := aA.mk (Kd.bE HF0_1.out hb); have n2_ := aA.mk (aV BK1.out hb); have n3_ := aA.mk (aV BK2.out hb); have n4_ := aA.mk (aU HB.out hb); have n5_ := aA.mk (hf0_); have n6_ := aA.mk (hc0_); have n7_ := aA.mk (hs0_); have n8_ := aA.mk (And.intro HORD.out (And.intro ol_ oh_)); have n9_ := aA.mk (Nat.le_of_eq eh_); (try clear HF0_0); (try clear HF0_1); (try clear BK1); (try clear BK2); (try clear HB); (try clear HF3_0); (try clear HC3_0); (try clear HS3_0); (try clear HORD); (try clear HT); have HF0_0 := n0_; have HF0_1 := n1_; have BK1 := n2_; have BK2 := n3_; have HB := n4_; have HF3_0 := n5_; have HC3_0 := n6_; have HS3_0 := n7_; have HORD := n8_; have HT := n9_; clear n0_ n1_ n2_ n3_ n4_ n5_ n6_ n7_ n8_ n9_; clear ol_ oh_ el_ eh_ ho0 hf0_ hc0_ hs0_; (try clear hb); have hzgb1_0_3 : w3.cell? ⟨gb1, 0, none⟩ = some (.slice A0_0 l0_0.length c0_0) := (aE BK1.out 0).trans rfl; have hygb1_0_3 := aD BK1.out 0; have hzgb1_1_3 : w3.cell? ⟨gb1, 1, none⟩ = some (.slice A0_1 l0_1.length c0_1) := (aE BK1.out 1).trans rfl; have hygb1_1_3 := aD BK1.out 1; have hzgb2_0_3 : w3.cell? ⟨gb2, 0, none⟩ = some (.slice none 0 0) := (aE BK2.out 0).trans rfl; have hygb2_0_3 := aD BK2.out 0; have hzgb2_1_3 : w3.cell? ⟨gb2, 1, none⟩ = some (.slice none 0 0) := (aE BK2.out 1).trans rfl; have hygb2_1_3 := aD BK2.out 1) | ((with_reducible refine aW (N := 3) rfl ?_); refine aX ?hg (N := 3) ?hd (cs := #[.slice none 0 0, .slice none 0 0]) (t := 29) ?hr ?_; (case hd => rfl); (case hg => rfl); (case hr => first | (go_simp; done) | (go_simp; rfl)); intro gb4 hg_ w4 hbox hb; have hge_ : hi3 ≤ gb4 := (by rw [hg_]; exact HT.out); have hlt_ : gb4 + 1 ≤ w4.heap.size := bF hbox; have n0_ := aA.mk (Kd.bE HF0_0.out hb); have n1_ := aA.mk (Kd.bE HF0_1.out hb); have n2_ := aA.mk (Kd.bE HF3_0.out hb); have n3_ := aA.mk (Kd.bU HS3_0.out hb); have n4_ := aA.mk (aV BK1.out hb); have n5_ := aA.mk (aV BK2.out hb); have n6_ := aA.mk (aU HB.out hb); have n7_ := aA.mk (hbox); have n8_ := aA.mk (And.intro HORD.out (And.intro hge_ (Nat.le_succ gb4))); have n9_ := aA.mk (hlt_); (try clear HF0_0); (try clear HF0_1); (try clear HF3_0); (try clear HS3_0); (try clear BK1); (try clear BK2); (try clear HB); (try clear BK4); (try clear HORD); (try clear HT); have HF0_0 := n0_; have HF0_1 := n1_; have HF3_0 := n2_; have HS3_0 := n3_; have BK1 := n4_; have BK2 := n5_; have HB := n6_; have BK4 := n7_; have HORD := n8_; have HT := n9_; clear n0_ n1_ n2_ n3_ n4_ n5_ n6_ n7_ n8_ n9_; clear hb hbox hg_ hge_ hlt_; have hzgb1_0_4 : w4.cell? ⟨gb1, 0, none⟩ = some (.slice A0_0 l0_0.length c0_0) := (aE BK1.out 0).trans rfl; have hygb1_0_4 := aD BK1.out 0; have hzgb1_1_4 : w4.cell? ⟨gb1, 1, none⟩ = some (.slice A0_1 l0_1.length c0_1) := (aE BK1.out 1).trans rfl; have hygb1_1_4 := aD BK1.out 1; have hzgb2_0_4 : w4.cell? ⟨gb2, 0, none⟩ = some (.slice none 0 0) := (aE BK2.out 0).trans rfl; have hygb2_0_4 := aD BK2.out 0; have hzgb2_1_4 : w4.cell? ⟨gb2, 1, none⟩ = some (.slice none 0 0) := (aE BK2.out 1).trans rfl; have hygb2_1_4 := aD BK2.out 1; have hzgb4_0_4 : w4.cell? ⟨gb4, 0, none⟩ = some (.slice none 0 0) := (aE BK4.out 0).trans rfl; have hygb4_0_4 := aD BK4.out 0; have hzgb4_1_4 : w4.cell? ⟨gb4, 1, none⟩ = some (.slice none 0 0) := (aE BK4.out 1).trans rfl; have hygb4_1_4 := aD BK4.out 1) | ((with_reducible refine gate_store (t := 29) (p := 3) rfl ?_); refine store_event (t := 29) (p := 3) (v := ?vo_w5) (w1 := ((w4.setCell ⟨gb4, 0, none⟩ (.slice A3_0 l0_0.length c3_0)).setCell ⟨gb4, 1, none⟩ (.slice none 0 0))) ?hg ?ho ?hn ?hr ?_; (case ho => rfl); (case hg => rfl); (case hn => rfl); (case hr => first | (go_simp; done) | (go_simp; rfl)); intro w5 hw_; have hkp : Kept w4 w5 (fun k_ => k_ = gb4) := (by rw [hw_]; exact Kept.setCell (Kept.setCell (Kept.refl w4 (fun k_ => k_ = gb4)) (.inl rfl) (.slice A3_0 l0_0.length c3_0)) (.inl rfl) (.slice none 0 0)); have hge_ : w.heap.size ≤ gb4 := (by have o_ := HORD.out; (try unfold In at *); (try show _ ≠ _); omega); have hbn_ : Below w.heap.size w w5 := (by rw [hw_]; exact aJ (aJ (HB.out) hge_) hge_); have hbk_ : w5.heap[gb4]? = some (.cells #[.slice A3_0 l0_0.length c3_0, .slice none 0 0] 29 (0, 0)) := (by rw [hw_]; exact bG (cs := #[.slice A3_0 l0_0.length c3_0, .slice none 0 0]) (cs' := #[.slice A3_0 l0_0.length c3_0, .slice none 0 0]) (bG (cs := #[.slice none 0 0, .slice none 0 0]) (cs' := #[.slice A3_0 l0_0.length c3_0, .slice none 0 0]) (BK4.out) 0 _ rfl) 1 _ rfl); have hsz_ : (gb4 + 1) ≤ w5.heap.size := Nat.le_trans HT.out hkp.1; have n0_ := aA.mk (Kd.bT HF0_0.out hkp (fun k_ h1_ h2_ => by have o_ := HORD.out; have t_ := HT.out; (try simp only [In2, Up, In, Ex, Exb] at h1_ h2_); omega)); have n1_ := aA.mk (Kd.bT HF0_1.out hkp (fun k_ h1_ h2_ => by have o_ := HORD.out; have t_ := HT.out; (try simp only [In2, Up, In, Ex, Exb] at h1_ h2_); omega)); have n2_ := aA.mk (Kd.bT HF3_0.out hkp (fun k_ h1_ h2_ => by have o_ := HORD.out; have t_ := HT.out; (try simp only [In2, Up, In, Ex, Exb] at h1_ h2_); omega)); have n3_ := aA.mk (Kd.R_kept HS3_0.out hkp (fun k_ h1_ h2_ => by have o_ := HORD.out; have t_ := HT.out; (try simp only [In2, Up, In, Ex, Exb] at h1_ h2_); omega)); have n4_ := aA.mk (bV BK1.out hkp (fun h2_ => by have o_ := HORD.out; have t_ := HT.out; (try simp only [In2, Up, In, Ex, Exb] at h2_); omega)); have n5_ := aA.mk (bV BK2.out hkp (fun h2_ => by have o_ := HORD.out; have t_ := HT.out; (try simp only [In2, Up, In, Ex, Exb] at h2_); omega)); have n6_ := aA.mk (hbn_); have n7_ := aA.mk (hbk_); have n8_ := aA.mk (hsz_); (try clear HF0_0); (try clear HF0_1); (try clear HF3_0); (try clear HS3_0); (try clear BK1); (try clear BK2); (try clear HB); (try clear BK4); (try clear HT); have HF0_0 := n0_; have HF0_1 := n1_; have HF3_0 := n2_; have HS3_0 := n3_; have BK1 := n4_; have BK2 := n5_; have HB := n6_; have BK4 := n7_; have HT := n8_; clear n0_ n1_ n2_ n3_ n4_ n5_ n6_ n7_ n8_; clear hw_ hkp hge_ hbn_ hbk_ hsz_; have hzgb1_0_5 : w5.cell? ⟨gb1, 0, none⟩ = some (.slice A0_0 l0_0.length c0_0) := (aE BK1.out 0).trans rfl; have hygb1_0_5 := aD BK1.out 0; have hzgb1_1_5 : w5.cell? ⟨gb1, 1, none⟩ = some (.slice A0_1 l0_1.length c0_1) := (aE BK1.out 1).trans rfl; have hygb1_1_5 := aD BK1.out 1; have hzgb2_0_5 : w5.cell? ⟨gb2, 0, none⟩ = some (.slice none 0 0) := (aE BK2.out 0).trans rfl; have hygb2_0_5 := aD BK2.out 0; have hzgb2_1_5 : w5.cell? ⟨gb2, 1, none⟩ = some (.slice none 0 0) := (aE BK2.out 1).trans rfl; have hygb2_1_5 := aD BK2.out 1; have hzgb4_0_5 : w5.cell? ⟨gb4, 0, none⟩ = some (.slice A3_0 l0_0.length c3_0) := (aE BK4.out 0).trans rfl; have hygb4_0_5 := aD BK4.out 0; have hzgb4_1_5 : w5.cell? ⟨gb4, 1, none⟩ = some (.slice none 0 0) := (aE BK4.out 1).trans rfl; have hygb4_1_5 := aD BK4.out 1))
 go_loopg [13] (l0_1.length) (fun kq  v6 w' => ∃ (i6 : Nat) (x6 : Int) (u6 : Value), v6 = .int .i64 x6 ∧ aA (x6 = (i6 : Int)) ∧ aA (i6 + kq = l0_1.length) ∧ aA ((gb4 + 1) ≤ w'.heap.size) ∧ aA (Kd.S k59D 59 w' w.heap.size (Up 0 0 (gb4 + 1)) u6 (l0_1.take i6)) ∧ aA (Kd.F (Kd.int .i64) w' (In 0 w.heap.size) A0_0 l0_0.length l0_0) ∧ aA (Kd.F k59D w' (In 0 w.heap.size) A0_1 l0_1.length l0_1) ∧ aA (Kd.F (Kd.int .i64) w' (In lo3 hi3) A3_0 l0_0.length l0_0) ∧ aA (Kd.R (Kd.int .i64) 3 w' lo3 (In lo3 hi3) (.slice A3_0 l0_0.length c3_0) l0_0) ∧ aA (w'.heap[gb1]? = some (.cells #[.slice A0_0 l0_0.length c0_0, .slice A0_1 l0_1.length c0_1] 29 (0, 0))) ∧ aA (w'.heap[gb2]? = some (.cells #[.slice none 0 0, .slice none 0 0] 29 (0, 0))) ∧ aA (w'.heap[gb4]? = some (.cells #[.slice A3_0 l0_0.length c3_0, u6] 29 (0, 0))) ∧ aA (Below w.heap.size w w'))
 case atStart => exact ⟨0, 0, _, rfl, ⟨rfl⟩, ⟨Nat.zero_add _⟩, HT, ⟨by rw [show l0_1.take 0 = [] from rfl]; exact Kd.S_nil _ _ _ _ _⟩, HF0_0, HF0_1, HF3_0, HS3_0, BK1, BK2, BK4, HB⟩
 clear HF0_0 HF0_1 HF3_0 HS3_0 BK1 BK2 BK4 HB HT
 obtain ⟨i6, x6, u6, rfl, HI6, HK6, HT, HS6, HF0_0, HF0_1, HF3_0, HS3_0, BK1, BK2, BK4, HB⟩ := hrel
 obtain ⟨xs6, ex_⟩ : ∃ y_, y_ = l0_1.take i6 := ⟨_, rfl⟩
 rw [← ex_] at HS6
 have HX6 := aA.mk ex_
 clear ex_
 obtain ⟨A6, c6, ev_⟩ := Kd.S_slice HS6.out
 subst ev_
 obtain ⟨hi6, e2_⟩ : ∃ n_, n_ = wr.heap.size := ⟨_, rfl⟩
 have ol_ : (gb4 + 1) ≤ hi6 := (by rw [e2_]; exact HT.out)
 have hs_ := Kd.S_mono (ok' := In2 0 0 (gb4 + 1) hi6) (Kd.S_bound HS6.out) (fun k_ hk_ => by have h1_ := hk_.1; have h2_ := hk_.2.2.1; rw [← e2_] at h2_; (try simp only [In2, Up, In, Ex, Exb] at h1_ ⊢); omega)
 have n0_ := aA.mk (And.intro HORD.out ol_)
 have n1_ := aA.mk (Nat.le_of_eq e2_)
 clear HS6 HORD HT
 have HORD := n0_
 have HT := n1_
 have HS6 := aA.mk hs_
 have HF6 := aA.mk (Kd.S_F hs_)
 have HC6 := aA.mk (Kd.S_reads' hs_).2.1
 clear n0_ n1_ hs_ ol_ e2_
 rcases gk with _ | k1
 rotate_left
 ·have hp_ : 0 ≤ x6 := (by have := HI6.out; omega)
  have hq_ : x6 < (l0_1.length : Int) := (by have := HI6.out; have := HK6.out; omega)
  have hd_ : decide (x6 < (l0_1.length : Int)) = true := decide_eq_true hq_
  have hzgb1_0_6 : wr.cell? ⟨gb1, 0, none⟩ = some (.slice A0_0 l0_0.length c0_0) := (aE BK1.out 0).trans rfl
  have hygb1_0_6 := aD BK1.out 0
  have hzgb1_1_6 : wr.cell? ⟨gb1, 1, none⟩ = some (.slice A0_1 l0_1.length c0_1) := (aE BK1.out 1).trans rfl
  have hygb1_1_6 := aD BK1.out 1
  have hzgb2_0_6 : wr.cell? ⟨gb2, 0, none⟩ = some (.slice none 0 0) := (aE BK2.out 0).trans rfl
  have hygb2_0_6 := aD BK2.out 0
  have hzgb2_1_6 : wr.cell? ⟨gb2, 1, none⟩ = some (.slice none 0 0) := (aE BK2.out 1).trans rfl
  have hygb2_1_6 := aD BK2.out 1
  have hzgb4_0_6 : wr.cell? ⟨gb4, 0, none⟩ = some (.slice A3_0 l0_0.length c3_0) := (aE BK4.out 0).trans rfl
  have hygb4_0_6 := aD BK4.out 0
  have hzgb4_1_6 : wr.cell? ⟨gb4, 1, none⟩ = some (.slice A6 xs6.length c6) := (aE BK4.out 1).trans rfl
  have hygb4_1_6 := aD BK4.out 1
  obtain ⟨ad7, Ae7, ce7, ee7, hx7_0, hl7, hf7⟩ := F_nd HF0_1.out x6 hp_ hq_
  cases ee7
  have HF7 := aA.mk hf7
  have HC7 := aA.mk hl7
  clear hf7 hl7
  go_wp2_with (first | ((with_reducible refine aW (N := 5) rfl ?_); refine aX ?hg (N := 5) ?hd (cs := #[.slice none 0 0]) (t := 59) ?hr ?_; (case hd => rfl); (case hg => rfl); (case hr => first | (go_simp; done) | (go_simp; rfl)); intro gb8 hg_ w8 hbox hb; have hge_ : hi6 ≤ gb8 := (by rw [hg_]; exact HT.out); have hlt_ : gb8 + 1 ≤ w8.heap.size := bF hbox; have n0_ := aA.mk (Kd.bE HF0_0.out hb); have n1_ := aA.mk (Kd.bE HF0_1.out hb); have n2_ := aA.mk (Kd.bE HF3_0.out hb); have n3_ := aA.mk (Kd.bU HS3_0.out hb); have n4_ := aA.mk (Kd.bE HF6.out hb); have n5_ := aA.mk (Kd.S_below HS6.out hb); have n6_ := aA.mk (Kd.bE HF7.out hb); have n7_ := aA.mk (aV BK1.out hb); have n8_ := aA.mk (aV BK2.out hb); have n9_ := aA.mk (aV BK4.out hb); have n10_ := aA.mk (aU HB.out hb); have n11_ := aA.mk (hbox); have n12_ := aA.mk (And.intro HORD.out (And.intro hge_ (Nat.le_succ gb8))); have n13_ := aA.mk (hlt_); (try clear HF0_0); (try clear HF0_1); (try clear HF3_0); (try clear HS3_0); (try clear HF6); (try clear HS6); (try clear HF7); (try clear BK1); (try clear BK2); (try clear BK4); (try clear HB); (try clear BK8); (try clear HORD); (try clear HT); have HF0_0 := n0_; have HF0_1 := n1_; have HF3_0 := n2_; have HS3_0 := n3_; have HF6 := n4_; have HS6 := n5_; have HF7 := n6_; have BK1 := n7_; have BK2 := n8_; have BK4 := n9_; have HB := n10_; have BK8 := n11_; have HORD := n12_; have HT := n13_; clear n0_ n1_ n2_ n3_ n4_ n5_ n6_ n7_ n8_ n9_ n10_ n11_ n12_ n13_; clear hb hbox hg_ hge_ hlt_; have hzgb1_0_8 : w8.cell? ⟨gb1, 0, none⟩ = some (.slice A0_0 l0_0.length c0_0) := (aE BK1.out 0).trans rfl; have hygb1_0_8 := aD BK1.out 0; have hzgb1_1_8 : w8.cell? ⟨gb1, 1, none⟩ = some (.slice (some ad7) l0_1.length c0_1) := (aE BK1.out 1).trans rfl; have hygb1_1_8 := aD BK1.out 1; have hzgb2_0_8 : w8.cell? ⟨gb2, 0, none⟩ = some (.slice none 0 0) := (aE BK2.out 0).trans rfl; have hygb2_0_8 := aD BK2.out 0; have hzgb2_1_8 : w8.cell? ⟨gb2, 1, none⟩ = some (.slice none 0 0) := (aE BK2.out 1).trans rfl; have hygb2_1_8 := aD BK2.out 1; have hzgb4_0_8 : w8.cell? ⟨gb4, 0, none⟩ = some (.slice A3_0 l0_0.length c3_0) := (aE BK4.out 0).trans rfl; have hygb4_0_8 := aD BK4.out 0; have hzgb4_1_8 : w8.cell? ⟨gb4, 1, none⟩ = some (.slice A6 xs6.length c6) := (aE BK4.out 1).trans rfl; have hygb4_1_8 := aD BK4.out 1; have hzgb8_0_8 : w8.cell? ⟨gb8, 0, none⟩ = some (.slice none 0 0) := (aE BK8.out 0).trans rfl; have hygb8_0_8 := aD BK8.out 0) | ((with_reducible refine gate_store (t := 59) (p := 5) rfl ?_); refine store_event (t := 59) (p := 5) (v := ?vo_w9) (w1 := (w8.setCell ⟨gb8, 0, none⟩ (.slice Ae7 ((rdN l0_1 x6).f0).length ce7))) ?hg ?ho ?hn ?hr ?_; (case ho => rfl); (case hg => rfl); (case hn => rfl); (case hr => first | (go_simp; done) | (go_simp; rfl)); intro w9 hw_; have hkp : Kept w8 w9 (fun k_ => k_ = gb8) := (by rw [hw_]; exact Kept.setCell (Kept.refl w8 (fun k_ => k_ = gb8)) (.inl rfl) (.slice Ae7 ((rdN l0_1 x6).f0).length ce7)); have hge_ : w.heap.size ≤ gb8 := (by have o_ := HORD.out; (try unfold In at *); (try show _ ≠ _); omega); have hbn_ : Below w.heap.size w w9 := (by rw [hw_]; exact aJ (HB.out) hge_); have hbk_ : w9.heap[gb8]? = some (.cells #[.slice Ae7 ((rdN l0_1 x6).f0).length ce7] 59 (0, 0)) := (by rw [hw_]; exact bG (cs := #[.slice none 0 0]) (cs' := #[.slice Ae7 ((rdN l0_1 x6).f0).length ce7]) (BK8.out) 0 _ rfl); have hsz_ : (gb8 + 1) ≤ w9.heap.size := Nat.le_trans HT.out hkp.1; have n0_ := aA.mk (Kd.bT HF0_0.out hkp (fun k_ h1_ h2_ => by have o_ := HORD.out; have t_ := HT.out; (try simp only [In2, Up, In, Ex, Exb] at h1_ h2_); omega)); have n1_ := aA.mk (Kd.bT HF0_1.out hkp (fun k_ h1_ h2_ => by have o_ := HORD.out; have t_ := HT.out; (try simp only [In2, Up, In, Ex, Exb] at h1_ h2_); omega)); have n2_ := aA.mk (Kd.bT HF3_0.out hkp (fun k_ h1_ h2_ => by have o_ := HORD.out; have t_ := HT.out; (try simp only [In2, Up, In, Ex, Exb] at h1_ h2_); omega)); have n3_ := aA.mk (Kd.R_kept HS3_0.out hkp (fun k_ h1_ h2_ => by have o_ := HORD.out; have t_ := HT.out; (try simp only [In2, Up, In, Ex, Exb] at h1_ h2_); omega)); have n4_ := aA.mk (Kd.bT HF6.out hkp (fun k_ h1_ h2_ => by have o_ := HORD.out; have t_ := HT.out; (try simp only [In2, Up, In, Ex, Exb] at h1_ h2_); omega)); have n5_ := aA.mk (Kd.S_kept HS6.out hkp (fun k_ h1_ h2_ => by have o_ := HORD.out; have t_ := HT.out; (try simp only [In2, Up, In, Ex, Exb] at h1_ h2_); omega)); have n6_ := aA.mk (Kd.bT HF7.out hkp (fun k_ h1_ h2_ => by have o_ := HORD.out; have t_ := HT.out; (try simp only [In2, Up, In, Ex, Exb] at h1_ h2_); omega)); have n7_ := aA.mk (bV BK1.out hkp (fun h2_ => by have o_ := HORD.out; have t_ := HT.out; (try simp only [In2, Up, In, Ex, Exb] at h2_); omega)); have n8_ := aA.mk (bV BK2.out hkp (fun h2_ => by have o_ := HORD.out; have t_ := HT.out; (try simp only [In2, Up, In, Ex, Exb] at h2_); omega)); have n9_ := aA.mk (bV BK4.out hkp (fun h2_ => by have o_ := HORD.out; have t_ := HT.out; (try simp only [In2, Up, In, Ex, Exb] at h2_); omega)); have n10_ := aA.mk (hbn_); have n11_ := aA.mk (hbk_); have n12_ := aA.mk (hsz_); (try clear HF0_0); (try clear HF0_1); (try clear HF3_0); (try clear HS3_0); (try clear HF6); (try clear HS6); (try clear HF7); (try clear BK1); (try clear BK2); (try clear BK4); (try clear HB); (try clear BK8); (try clear HT); have HF0_0 := n0_; have HF0_1 := n1_; have HF3_0 := n2_; have HS3_0 := n3_; have HF6 := n4_; have HS6 := n5_; have HF7 := n6_; have BK1 := n7_; have BK2 := n8_; have BK4 := n9_; have HB := n10_; have BK8 := n11_; have HT := n12_; clear n0_ n1_ n2_ n3_ n4_ n5_ n6_ n7_ n8_ n9_ n10_ n11_ n12_; clear hw_ hkp hge_ hbn_ hbk_ hsz_; have hzgb1_0_9 : w9.cell? ⟨gb1, 0, none⟩ = some (.slice A0_0 l0_0.length c0_0) := (aE BK1.out 0).trans rfl; have hygb1_0_9 := aD BK1.out 0; have hzgb1_1_9 : w9.cell? ⟨gb1, 1, none⟩ = some (.slice (some ad7) l0_1.length c0_1) := (aE BK1.out 1).trans rfl; have hygb1_1_9 := aD BK1.out 1; have hzgb2_0_9 : w9.cell? ⟨gb2, 0, none⟩ = some (.slice none 0 0) := (aE BK2.out 0).trans rfl; have hygb2_0_9 := aD BK2.out 0; have hzgb2_1_9 : w9.cell? ⟨gb2, 1, none⟩ = some (.slice none 0 0) := (aE BK2.out 1).trans rfl; have hygb2_1_9 := aD BK2.out 1; have hzgb4_0_9 : w9.cell? ⟨gb4, 0, none⟩ = some (.slice A3_0 l0_0.length c3_0) := (aE BK4.out 0).trans rfl; have hygb4_0_9 := aD BK4.out 0; have hzgb4_1_9 : w9.cell? ⟨gb4, 1, none⟩ = some (.slice A6 xs6.length c6) := (aE BK4.out 1).trans rfl; have hygb4_1_9 := aD BK4.out 1; have hzgb8_0_9 : w9.cell? ⟨gb8, 0, none⟩ = some (.slice Ae7 ((rdN l0_1 x6).f0).length ce7) := (aE BK8.out 0).trans rfl; have hygb8_0_9 := aD BK8.out 0))
  have n_ := aA.mk (Kd.F_drew HF0_0.out)
  clear HF0_0
  have HF0_0 := n_
  clear n_
  have n_ := aA.mk (Kd.F_drew HF0_1.out)
  clear HF0_1
  have HF0_1 := n_
  clear n_
  have n_ := aA.mk (Kd.F_drew HF3_0.out)
  clear HF3_0
  have HF3_0 := n_
  clear n_
  have n_ := aA.mk (Kd.bA HS3_0.out)
  clear HS3_0
  have HS3_0 := n_
  clear n_
  have n_ := aA.mk (Kd.F_drew HF6.out)
  clear HF6
  have HF6 := n_
  clear n_
  have n_ := aA.mk (Kd.S_drew HS6.out)
  clear HS6
  have HS6 := n_
  clear n_
  have n_ := aA.mk (Kd.F_drew HF7.out)
  clear HF7
  have HF7 := n_
  clear n_
  have n_ := aA.mk (aQ BK1.out)
  clear BK1
  have BK1 := n_
  clear n_
  have n_ := aA.mk (aQ BK2.out)
  clear BK2
  have BK2 := n_
  clear n_
  have n_ := aA.mk (aQ BK4.out)
  clear BK4
  have BK4 := n_
  clear n_
  have n_ := aA.mk (aQ BK8.out)
  clear BK8
  have BK8 := n_
  clear n_
  have n_ := aA.mk (aG HB.out)
  clear HB
  have HB := n_
  clear n_
  have n_ := aA.mk (show _ ≤ w9.drew.heap.size from HT.out)
  clear HT
  have HT := n_
  clear n_
  refine start_ (n := 8) (S := fun w' => w'.cell? ⟨gb4, 0, none⟩ = some (.slice A3_0 l0_0.length c3_0) ∧ w'.cell? ⟨gb4, 1, none⟩ = some (.slice A6 xs6.length c6) ∧ w'.cell? ⟨gb8, 0, none⟩ = some (.slice Ae7 ((rdN l0_1 x6).f0).length ce7)) (ds := [7]) #[false, false, false, false, false, false, false, false] (by kernel_rfl) rfl rfl ⟨(aE BK4.out 0).trans rfl, (aE BK4.out 1).trans rfl, (aE BK8.out 0).trans rfl⟩ (fun hHeld => ?_)
  generalize w9.drew = w10 at HF0_0 HF0_1 HF3_0 HS3_0 HF6 HS6 HF7 BK1 BK2 BK4 BK8 HB HT hHeld ⊢
  refine bL (i := 0) (N := some 17) (v := ?_) (a' := ?_) #[true, false, false, false, false, false, false, false] rfl rfl (by kernel_rfl) (fun _ _ _ h => h) (Or.inl ⟨by rfl, ?_⟩) ?_ ?_
  rotate_left
  ·intro w'
   go_simp
   with_reducible rfl
  rotate_left
  ·simp only [Act.put, lA, lB, lC, bD, bC]
   rfl
  refine take_ (i := 1) (N := some 18) (v := ?_) (a' := ?_) #[true, true, false, false, false, false, false, false] rfl rfl (by kernel_rfl) (fun _ _ _ h => h) (Or.inl ⟨by rfl, ?_⟩) hHeld ?_ ?_
  rotate_left
  ·rintro w' ⟨s0, s1, s2⟩
   go_simp
   with_reducible rfl
  rotate_left
  ·simp only [Act.put, lA, lB, lC, bD, bC]
   rfl
  refine take_ (i := 2) (N := some 19) (v := ?_) (a' := ?_) #[true, true, true, false, false, false, false, false] rfl rfl (by kernel_rfl) (fun _ _ _ h => h) (Or.inl ⟨by rfl, ?_⟩) hHeld ?_ ?_
  rotate_left
  ·rintro w' ⟨s0, s1, s2⟩
   go_simp
   with_reducible rfl
  rotate_left
  ·simp only [Act.put, lA, lB, lC, bD, bC]
   rfl
  refine one_ (i := 3) (N := some 20) #[true, true, true, true, false, false, false, false] rfl rfl (by kernel_rfl) (by decide) (fun K hK => ?_)
  obtain ⟨kj12, hj_⟩ := evGet (impl_copyNode_ev ((rdN l0_1 x6).f0) (getN_ok hok1 _))
  have J12 := aA.mk hj_
  clear hj_
  refine goes_ Try.func70 (by kernel_rfl) rfl #[.agg #[.slice Ae7 ((rdN l0_1 x6).f0).length ce7]] (by rfl) rfl rfl (by (try simp only [List.map_toArray, List.map_cons, List.map_nil]); first | done | rfl | (simp only [List.length_drop, List.length_take]; rfl)) ?_
  (with_reducible refine (impl_copyNode.calls kj12 _ _ ((rdN l0_1 x6).f0) ((rdN l0_1 x6).f0) _ ?s1 ?s2 J12.out).mono ?_)
  (case s1 => exact (Kd.F_now HF7.out))
  (case s2 => exact HC7.out)
  rintro e_ w11 ⟨v0_, rfl, ho0, hb⟩
  refine ⟨_, rfl, ?_⟩
  obtain ⟨lo11, hi11, el_, eh_, ol_, oh_⟩ := Mem.times HT.out hb
  (try rw [← el_] at ho0)
  obtain ⟨A11_0, c11_0, ev_, hc0_, hf0_, hs0_⟩ := Mem.new_S ho0 eh_
  subst ev_
  have n0_ := aA.mk (Kd.bE HF0_0.out hb)
  have n1_ := aA.mk (Kd.bE HF0_1.out hb)
  have n2_ := aA.mk (Kd.bE HF3_0.out hb)
  have n3_ := aA.mk (Kd.bU HS3_0.out hb)
  have n4_ := aA.mk (Kd.bE HF6.out hb)
  have n5_ := aA.mk (Kd.S_below HS6.out hb)
  have n6_ := aA.mk (Kd.bE HF7.out hb)
  have n7_ := aA.mk (aV BK1.out hb)
  have n8_ := aA.mk (aV BK2.out hb)
  have n9_ := aA.mk (aV BK4.out hb)
  have n10_ := aA.mk (aV BK8.out hb)
  have n11_ := aA.mk (aU HB.out hb)
  have n12_ := aA.mk (hf0_)
  have n13_ := aA.mk (hc0_)
  have n14_ := aA.mk (hs0_)
  have n15_ := aA.mk (And.intro HORD.out (And.intro ol_ oh_))
  have n16_ := aA.mk (Nat.le_of_eq eh_)
  (try clear HF0_0)
  (try clear HF0_1)
  (try clear HF3_0)
  (try clear HS3_0)
  (try clear HF6)
  (try clear HS6)
  (try clear HF7)
  (try clear BK1)
  (try clear BK2)
  (try clear BK4)
  (try clear BK8)
  (try clear HB)
  (try clear HF11_0)
  (try clear HC11_0)
  (try clear HS11_0)
  (try clear HORD)
  (try clear HT)
  have HF0_0 := n0_
  have HF0_1 := n1_
  have HF3_0 := n2_
  have HS3_0 := n3_
  have HF6 := n4_
  have HS6 := n5_
  have HF7 := n6_
  have BK1 := n7_
  have BK2 := n8_
  have BK4 := n9_
  have BK8 := n10_
  have HB := n11_
  have HF11_0 := n12_
  have HC11_0 := n13_
  have HS11_0 := n14_
  have HORD := n15_
  have HT := n16_
  clear n0_ n1_ n2_ n3_ n4_ n5_ n6_ n7_ n8_ n9_ n10_ n11_ n12_ n13_ n14_ n15_ n16_
  clear ol_ oh_ el_ eh_ ho0 hf0_ hc0_ hs0_
  (try clear hb)
  refine hK.out _ _ ⟨(aE BK4.out 0).trans rfl, (aE BK4.out 1).trans rfl, (aE BK8.out 0).trans rfl⟩ (fun hHeld => ?_)
  clear hK K
  refine norm_ (a' := ?_) ?_ ?_
  rotate_left
  ·show Act.put _ (some 20) _ = _
   simp only [Act.put, lA, lB, lC, bD, bC]
   rfl
  refine one_ (i := 4) (N := some 21) #[true, true, true, true, true, false, false, false] rfl rfl (by kernel_rfl) (by decide) (fun K hK => ?_)
  refine value_ (w1 := ?_) (v := ?_) (by rfl) rfl ?_ ?_
  rotate_left 2
  ·go_simp
   constructor
   ·rfl
   ·rfl
  refine hK.out _ _ ⟨(aE (aM BK4.out _) 0).trans rfl, (aE (aM BK4.out _) 1).trans rfl, (aE (aM BK8.out _) 0).trans rfl⟩ (fun hHeld => ?_)
  clear hK K
  refine norm_ (a' := ?_) ?_ ?_
  rotate_left
  ·show Act.put _ (some 21) _ = _
   simp only [Act.put, lA, lB, lC, bD, bC]
   rfl
  refine one_ (i := 5) (N := some 22) #[true, true, true, true, true, true, false, false] rfl rfl (by kernel_rfl) (by decide) (fun K hK => ?_)
  refine Kd.S_append_step k59D (w0 := w) w.heap.size (by rfl) (.tmp 18) (.tmp 21) 27 59 (.agg #[.slice none 0 0]) 24 rfl Try.underlying27 info59 rfl (by decide) (by omega) (.slice A6 xs6.length c6) xs6 ((⟨(rdN l0_1 x6).f0⟩ : S59)) [.slice A11_0 ((rdN l0_1 x6).f0).length c11_0] (Up 0 0 (gb4 + 1)) (In lo11 hi11) rfl rfl ?aP ?aK ?aF ?aO ?aB ?aS ?aL ?_
  (case aB => exact HB.out)
  (case aS => exact aT HB.out)
  (case aP => exact ⟨_, rfl, Kd.S_lower HS11_0.out (by have o_ := HORD.out; have t_ := HT.out; (try simp only [In2, Up, In, Ex, Exb] at *); omega)⟩)
  (case aK => exact (fun k_ hk_ => ⟨(by have o_ := HORD.out; have t_ := HT.out; (try simp only [In2, Up, In, Ex, Exb] at hk_ ⊢); omega), (fun he_ => by have hz_ := (Kd.S_R HS6.out).1 k_ he_.symm; have o_ := HORD.out; have t_ := HT.out; (try simp only [In2, Up, In, Ex, Exb] at hk_ hz_); omega)⟩))
  (case aF => exact (fun k_ hk_ => by have o_ := HORD.out; have t_ := HT.out; (try simp only [In2, Up, In, Ex, Exb] at hk_ ⊢); omega))
  (case aO => exact Kd.S_mono (Kd.S_lower HS6.out (by have o_ := HORD.out; omega)) (fun k_ hk_ => ⟨(by have o_ := HORD.out; have t_ := HT.out; (try simp only [In2, Up, In, Ex, Exb] at hk_ ⊢); omega), (fun h2_ => by have o_ := HORD.out; have t_ := HT.out; (try simp only [In2, Up, In, Ex, Exb] at hk_ h2_); omega)⟩))
  (case aL => (have hl1_ := okNodeS_len hok1; have h3_ := congrArg List.length HX6.out; rw [List.length_take] at h3_; omega))
  intro v13 w13 ho_ hbn_ hg_ hat_
  obtain ⟨ys13, ey_⟩ : ∃ y_, y_ = xs6 ++ [(⟨(rdN l0_1 x6).f0⟩ : S59)] := ⟨_, rfl⟩
  rw [← ey_] at ho_
  have HY13 := aA.mk ey_
  clear ey_
  have hkp := kept_grown (S := (In2 0 0 (gb4 + 1) hi6)) hg_ (fun k_ he_ => (Kd.S_R HS6.out).1 k_ he_)
  obtain ⟨A13, c13, ev_⟩ := Kd.S_slice ho_
  subst ev_
  obtain ⟨hi13, e2_⟩ : ∃ n_, n_ = w13.heap.size := ⟨_, rfl⟩
  have ol_ : hi11 ≤ hi13 := (by rw [e2_]; exact Nat.le_trans HT.out hkp.1)
  have hs_ := Kd.S_mono (ok' := In2 0 0 (gb4 + 1) hi13) (Kd.S_bound ho_) (fun k_ hk_ => by have h1_ := hk_.1; have h2_ := hk_.2.2.1; rw [← e2_] at h2_; (try simp only [In2, Up, In, Ex, Exb] at h1_ ⊢); omega)
  have n0_ := aA.mk (Kd.bT HF0_0.out hkp (fun k_ h1_ h2_ => by have o_ := HORD.out; have t_ := HT.out; (try simp only [In2, Up, In, Ex, Exb] at h1_ h2_); omega))
  have n1_ := aA.mk (Kd.bT HF0_1.out hkp (fun k_ h1_ h2_ => by have o_ := HORD.out; have t_ := HT.out; (try simp only [In2, Up, In, Ex, Exb] at h1_ h2_); omega))
  have n2_ := aA.mk (Kd.bT HF3_0.out hkp (fun k_ h1_ h2_ => by have o_ := HORD.out; have t_ := HT.out; (try simp only [In2, Up, In, Ex, Exb] at h1_ h2_); omega))
  have n3_ := aA.mk (Kd.R_kept HS3_0.out hkp (fun k_ h1_ h2_ => by have o_ := HORD.out; have t_ := HT.out; (try simp only [In2, Up, In, Ex, Exb] at h1_ h2_); omega))
  have n4_ := aA.mk (Kd.bT HF7.out hkp (fun k_ h1_ h2_ => by have o_ := HORD.out; have t_ := HT.out; (try simp only [In2, Up, In, Ex, Exb] at h1_ h2_); omega))
  have n5_ := aA.mk (bV BK1.out hkp (fun h2_ => by have o_ := HORD.out; have t_ := HT.out; (try simp only [In2, Up, In, Ex, Exb] at h2_); omega))
  have n6_ := aA.mk (bV BK2.out hkp (fun h2_ => by have o_ := HORD.out; have t_ := HT.out; (try simp only [In2, Up, In, Ex, Exb] at h2_); omega))
  have n7_ := aA.mk (bV BK4.out hkp (fun h2_ => by have o_ := HORD.out; have t_ := HT.out; (try simp only [In2, Up, In, Ex, Exb] at h2_); omega))
  have n8_ := aA.mk (bV BK8.out hkp (fun h2_ => by have o_ := HORD.out; have t_ := HT.out; (try simp only [In2, Up, In, Ex, Exb] at h2_); omega))
  have n9_ := aA.mk (hbn_)
  have n10_ := aA.mk (And.intro HORD.out ol_)
  have n11_ := aA.mk (Nat.le_of_eq e2_)
  have n12_ := aA.mk (hs_)
  have n13_ := aA.mk (Kd.S_F hs_)
  have n14_ := aA.mk ((Kd.S_reads' hs_).2.1)
  (try clear HF0_0)
  (try clear HF0_1)
  (try clear HF3_0)
  (try clear HS3_0)
  (try clear HF7)
  (try clear BK1)
  (try clear BK2)
  (try clear BK4)
  (try clear BK8)
  (try clear HB)
  (try clear HORD)
  (try clear HT)
  (try clear HS13)
  (try clear HF13)
  (try clear HC13)
  have HF0_0 := n0_
  have HF0_1 := n1_
  have HF3_0 := n2_
  have HS3_0 := n3_
  have HF7 := n4_
  have BK1 := n5_
  have BK2 := n6_
  have BK4 := n7_
  have BK8 := n8_
  have HB := n9_
  have HORD := n10_
  have HT := n11_
  have HS13 := n12_
  have HF13 := n13_
  have HC13 := n14_
  clear n0_ n1_ n2_ n3_ n4_ n5_ n6_ n7_ n8_ n9_ n10_ n11_ n12_ n13_ n14_
  clear hs_ ho_ hbn_ hg_ hat_ hkp ol_ e2_
  refine hK.out _ _ ⟨(aE BK4.out 0).trans rfl, (aE BK4.out 1).trans rfl, (aE BK8.out 0).trans rfl⟩ (fun hHeld => ?_)
  clear hK K
  refine norm_ (a' := ?_) ?_ ?_
  rotate_left
  ·show Act.put _ (some 22) _ = _
   simp only [Act.put, lA, lB, lC, bD, bC]
   rfl
  refine bL (i := 6) (N := some 23) (v := ?_) (a' := ?_) #[true, true, true, true, true, true, true, false] rfl rfl (by kernel_rfl) (fun _ _ _ h => h) (Or.inl ⟨by rfl, ?_⟩) ?_ ?_
  rotate_left
  ·intro w'
   go_simp
   with_reducible rfl
  rotate_left
  ·simp only [Act.put, lA, lB, lC, bD, bC]
   rfl
  refine last_ (i := 7) (N := none) #[true, true, true, true, true, true, true, true] rfl rfl (by kernel_rfl) (by decide) (fun K hK => ?_)
  have hzgb1_0_14 : w13.cell? ⟨gb1, 0, none⟩ = some (.slice A0_0 l0_0.length c0_0) := (aE BK1.out 0).trans rfl
  have hygb1_0_14 := aD BK1.out 0
  have hzgb1_1_14 : w13.cell? ⟨gb1, 1, none⟩ = some (.slice (some ad7) l0_1.length c0_1) := (aE BK1.out 1).trans rfl
  have hygb1_1_14 := aD BK1.out 1
  have hzgb2_0_14 : w13.cell? ⟨gb2, 0, none⟩ = some (.slice none 0 0) := (aE BK2.out 0).trans rfl
  have hygb2_0_14 := aD BK2.out 0
  have hzgb2_1_14 : w13.cell? ⟨gb2, 1, none⟩ = some (.slice none 0 0) := (aE BK2.out 1).trans rfl
  have hygb2_1_14 := aD BK2.out 1
  have hzgb4_0_14 : w13.cell? ⟨gb4, 0, none⟩ = some (.slice A3_0 l0_0.length c3_0) := (aE BK4.out 0).trans rfl
  have hygb4_0_14 := aD BK4.out 0
  have hzgb4_1_14 : w13.cell? ⟨gb4, 1, none⟩ = some (.slice A6 xs6.length c6) := (aE BK4.out 1).trans rfl
  have hygb4_1_14 := aD BK4.out 1
  have hzgb8_0_14 : w13.cell? ⟨gb8, 0, none⟩ = some (.slice Ae7 ((rdN l0_1 x6).f0).length ce7) := (aE BK8.out 0).trans rfl
  have hygb8_0_14 := aD BK8.out 0
  have hge_ : w.heap.size ≤ gb4 := (by have o_ := HORD.out; omega)
  refine skip_ (w1 := ?_) (by rfl) rfl ?_ ?_
  rotate_left
  ·go_simp
   rfl
  refine hK.out _ _ ?_
  clear hK K
  refine done_ (by kernel_rfl) ?_
  obtain ⟨w14, hw_⟩ : ∃ z_, z_ = (w13.setCell ⟨gb4, 1, none⟩ (.slice A13 ys13.length c13)) := ⟨_, rfl⟩
  (try rw [← hw_])
  have hkp : Kept w13 w14 (fun k_ => k_ = gb4) := (by rw [hw_]; exact Kept.setCell (Kept.refl w13 (fun k_ => k_ = gb4)) (.inl rfl) (.slice A13 ys13.length c13))
  have hbn_ : Below w.heap.size w w14 := (by rw [hw_]; exact aJ (HB.out) hge_)
  have hbk_ : w14.heap[gb4]? = some (.cells #[.slice A3_0 l0_0.length c3_0, .slice A13 ys13.length c13] 29 (0, 0)) := (by rw [hw_]; exact bG (cs := #[.slice A3_0 l0_0.length c3_0, .slice A6 xs6.length c6]) (cs' := #[.slice A3_0 l0_0.length c3_0, .slice A13 ys13.length c13]) (BK4.out) 1 _ rfl)
  have hsz_ : hi13 ≤ w14.heap.size := Nat.le_trans HT.out hkp.1
  have n0_ := aA.mk (Kd.bT HF0_0.out hkp (fun k_ h1_ h2_ => by have o_ := HORD.out; have t_ := HT.out; (try simp only [In2, Up, In, Ex, Exb] at h1_ h2_); omega))
  have n1_ := aA.mk (Kd.bT HF0_1.out hkp (fun k_ h1_ h2_ => by have o_ := HORD.out; have t_ := HT.out; (try simp only [In2, Up, In, Ex, Exb] at h1_ h2_); omega))
  have n2_ := aA.mk (Kd.bT HF3_0.out hkp (fun k_ h1_ h2_ => by have o_ := HORD.out; have t_ := HT.out; (try simp only [In2, Up, In, Ex, Exb] at h1_ h2_); omega))
  have n3_ := aA.mk (Kd.R_kept HS3_0.out hkp (fun k_ h1_ h2_ => by have o_ := HORD.out; have t_ := HT.out; (try simp only [In2, Up, In, Ex, Exb] at h1_ h2_); omega))
  have n4_ := aA.mk (Kd.bT HF7.out hkp (fun k_ h1_ h2_ => by have o_ := HORD.out; have t_ := HT.out; (try simp only [In2, Up, In, Ex, Exb] at h1_ h2_); omega))
  have n5_ := aA.mk (Kd.bT HF13.out hkp (fun k_ h1_ h2_ => by have o_ := HORD.out; have t_ := HT.out; (try simp only [In2, Up, In, Ex, Exb] at h1_ h2_); omega))
  have n6_ := aA.mk (Kd.S_kept HS13.out hkp (fun k_ h1_ h2_ => by have o_ := HORD.out; have t_ := HT.out; (try simp only [In2, Up, In, Ex, Exb] at h1_ h2_); omega))
  have n7_ := aA.mk (bV BK1.out hkp (fun h2_ => by have o_ := HORD.out; have t_ := HT.out; (try simp only [In2, Up, In, Ex, Exb] at h2_); omega))
  have n8_ := aA.mk (bV BK2.out hkp (fun h2_ => by have o_ := HORD.out; have t_ := HT.out; (try simp only [In2, Up, In, Ex, Exb] at h2_); omega))
  have n9_ := aA.mk (bV BK8.out hkp (fun h2_ => by have o_ := HORD.out; have t_ := HT.out; (try simp only [In2, Up, In, Ex, Exb] at h2_); omega))
  have n10_ := aA.mk (hbn_)
  have n11_ := aA.mk (hbk_)
  have n12_ := aA.mk (hsz_)
  (try clear HF0_0)
  (try clear HF0_1)
  (try clear HF3_0)
  (try clear HS3_0)
  (try clear HF7)
  (try clear HF13)
  (try clear HS13)
  (try clear BK1)
  (try clear BK2)
  (try clear BK8)
  (try clear HB)
  (try clear BK4)
  (try clear HT)
  have HF0_0 := n0_
  have HF0_1 := n1_
  have HF3_0 := n2_
  have HS3_0 := n3_
  have HF7 := n4_
  have HF13 := n5_
  have HS13 := n6_
  have BK1 := n7_
  have BK2 := n8_
  have BK8 := n9_
  have HB := n10_
  have BK4 := n11_
  have HT := n12_
  clear n0_ n1_ n2_ n3_ n4_ n5_ n6_ n7_ n8_ n9_ n10_ n11_ n12_
  clear hw_ hkp hge_ hbn_ hbk_ hsz_
  have hzgb1_0_14 : w14.cell? ⟨gb1, 0, none⟩ = some (.slice A0_0 l0_0.length c0_0) := (aE BK1.out 0).trans rfl
  have hygb1_0_14 := aD BK1.out 0
  have hzgb1_1_14 : w14.cell? ⟨gb1, 1, none⟩ = some (.slice (some ad7) l0_1.length c0_1) := (aE BK1.out 1).trans rfl
  have hygb1_1_14 := aD BK1.out 1
  have hzgb2_0_14 : w14.cell? ⟨gb2, 0, none⟩ = some (.slice none 0 0) := (aE BK2.out 0).trans rfl
  have hygb2_0_14 := aD BK2.out 0
  have hzgb2_1_14 : w14.cell? ⟨gb2, 1, none⟩ = some (.slice none 0 0) := (aE BK2.out 1).trans rfl
  have hygb2_1_14 := aD BK2.out 1
  have hzgb4_0_14 : w14.cell? ⟨gb4, 0, none⟩ = some (.slice A3_0 l0_0.length c3_0) := (aE BK4.out 0).trans rfl
  have hygb4_0_14 := aD BK4.out 0
  have hzgb4_1_14 : w14.cell? ⟨gb4, 1, none⟩ = some (.slice A13 ys13.length c13) := (aE BK4.out 1).trans rfl
  have hygb4_1_14 := aD BK4.out 1
  have hzgb8_0_14 : w14.cell? ⟨gb8, 0, none⟩ = some (.slice Ae7 ((rdN l0_1 x6).f0).length ce7) := (aE BK8.out 0).trans rfl
  have hygb8_0_14 := aD BK8.out 0
  try go_wp2
  go_roundg k1
  case measure => omega
  case rel => exact ⟨i6 + 1, _, _, rfl, ⟨show _ = ((i6 + 1 : Nat) : Int) by have := HI6.out; have hm_ := Kd.F_max HF0_1.out; have := HK6.out; first | (rw [w64 (by omega) (by omega)]; omega) | omega⟩, ⟨by have := HK6.out; omega⟩, ⟨Nat.le_trans (by have o_ := HORD.out; omega) HT.out⟩, ⟨by rw [show l0_1.take (i6 + 1) = ys13 from (by rw [HY13.out, HX6.out]; unfold rdN; rw [show x6.toNat = i6 from by have := HI6.out; omega]; exact take_getD _ _ z59 (by have := HK6.out; omega))]; exact Kd.S_mono (Kd.S_lower HS13.out (by have o_ := HORD.out; omega)) (fun k_ hk_ => by have o_ := HORD.out; have t_ := HT.out; (try simp only [In2, Up, In, Ex, Exb] at hk_ ⊢); omega)⟩, HF0_0, HF0_1, HF3_0, HS3_0, BK1, BK2, BK4, HB⟩
 have hi0_ : i6 = l0_1.length := (by have := HK6.out; omega)
 have hd_ : decide (x6 < (l0_1.length : Int)) = false := decide_eq_false (by have := HI6.out; omega)
 have eall_ : xs6 = l0_1 := (by rw [HX6.out, hi0_, List.take_length])
 rw [eall_] at HS6 HF6 HC6 BK4
 have hzgb1_0_14 : wr.cell? ⟨gb1, 0, none⟩ = some (.slice A0_0 l0_0.length c0_0) := (aE BK1.out 0).trans rfl
 have hygb1_0_14 := aD BK1.out 0
 have hzgb1_1_14 : wr.cell? ⟨gb1, 1, none⟩ = some (.slice A0_1 l0_1.length c0_1) := (aE BK1.out 1).trans rfl
 have hygb1_1_14 := aD BK1.out 1
 have hzgb2_0_14 : wr.cell? ⟨gb2, 0, none⟩ = some (.slice none 0 0) := (aE BK2.out 0).trans rfl
 have hygb2_0_14 := aD BK2.out 0
 have hzgb2_1_14 : wr.cell? ⟨gb2, 1, none⟩ = some (.slice none 0 0) := (aE BK2.out 1).trans rfl
 have hygb2_1_14 := aD BK2.out 1
 have hzgb4_0_14 : wr.cell? ⟨gb4, 0, none⟩ = some (.slice A3_0 l0_0.length c3_0) := (aE BK4.out 0).trans rfl
 have hygb4_0_14 := aD BK4.out 0
 have hzgb4_1_14 : wr.cell? ⟨gb4, 1, none⟩ = some (.slice A6 l0_1.length c6) := (aE BK4.out 1).trans rfl
 have hygb4_1_14 := aD BK4.out 1
 go_wp2_with (first | ((with_reducible refine gate_store (t := 29) (p := 2) rfl ?_); refine store_event (t := 29) (p := 2) (v := ?vo_w15) (w1 := ((wr.setCell ⟨gb2, 0, none⟩ (.slice A3_0 l0_0.length c3_0)).setCell ⟨gb2, 1, none⟩ (.slice A6 l0_1.length c6))) ?hg ?ho ?hn ?hr ?_; (case ho => rfl); (case hg => rfl); (case hn => rfl); (case hr => first | (go_simp; done) | (go_simp; rfl)); intro w15 hw_; have hkp : Kept wr w15 (fun k_ => k_ = gb2) := (by rw [hw_]; exact Kept.setCell (Kept.setCell (Kept.refl wr (fun k_ => k_ = gb2)) (.inl rfl) (.slice A3_0 l0_0.length c3_0)) (.inl rfl) (.slice A6 l0_1.length c6)); have hge_ : w.heap.size ≤ gb2 := (by have o_ := HORD.out; (try unfold In at *); (try show _ ≠ _); omega); have hbn_ : Below w.heap.size w w15 := (by rw [hw_]; exact aJ (aJ (HB.out) hge_) hge_); have hbk_ : w15.heap[gb2]? = some (.cells #[.slice A3_0 l0_0.length c3_0, .slice A6 l0_1.length c6] 29 (0, 0)) := (by rw [hw_]; exact bG (cs := #[.slice A3_0 l0_0.length c3_0, .slice none 0 0]) (cs' := #[.slice A3_0 l0_0.length c3_0, .slice A6 l0_1.length c6]) (bG (cs := #[.slice none 0 0, .slice none 0 0]) (cs' := #[.slice A3_0 l0_0.length c3_0, .slice none 0 0]) (BK2.out) 0 _ rfl) 1 _ rfl); have hsz_ : hi6 ≤ w15.heap.size := Nat.le_trans HT.out hkp.1; have n0_ := aA.mk (Kd.bT HF0_0.out hkp (fun k_ h1_ h2_ => by have o_ := HORD.out; have t_ := HT.out; (try simp only [In2, Up, In, Ex, Exb] at h1_ h2_); omega)); have n1_ := aA.mk (Kd.bT HF0_1.out hkp (fun k_ h1_ h2_ => by have o_ := HORD.out; have t_ := HT.out; (try simp only [In2, Up, In, Ex, Exb] at h1_ h2_); omega)); have n2_ := aA.mk (Kd.bT HF3_0.out hkp (fun k_ h1_ h2_ => by have o_ := HORD.out; have t_ := HT.out; (try simp only [In2, Up, In, Ex, Exb] at h1_ h2_); omega)); have n3_ := aA.mk (Kd.R_kept HS3_0.out hkp (fun k_ h1_ h2_ => by have o_ := HORD.out; have t_ := HT.out; (try simp only [In2, Up, In, Ex, Exb] at h1_ h2_); omega)); have n4_ := aA.mk (Kd.bT HF6.out hkp (fun k_ h1_ h2_ => by have o_ := HORD.out; have t_ := HT.out; (try simp only [In2, Up, In, Ex, Exb] at h1_ h2_); omega)); have n5_ := aA.mk (Kd.S_kept HS6.out hkp (fun k_ h1_ h2_ => by have o_ := HORD.out; have t_ := HT.out; (try simp only [In2, Up, In, Ex, Exb] at h1_ h2_); omega)); have n6_ := aA.mk (bV BK1.out hkp (fun h2_ => by have o_ := HORD.out; have t_ := HT.out; (try simp only [In2, Up, In, Ex, Exb] at h2_); omega)); have n7_ := aA.mk (bV BK4.out hkp (fun h2_ => by have o_ := HORD.out; have t_ := HT.out; (try simp only [In2, Up, In, Ex, Exb] at h2_); omega)); have n8_ := aA.mk (hbn_); have n9_ := aA.mk (hbk_); have n10_ := aA.mk (hsz_); (try clear HF0_0); (try clear HF0_1); (try clear HF3_0); (try clear HS3_0); (try clear HF6); (try clear HS6); (try clear BK1); (try clear BK4); (try clear HB); (try clear BK2); (try clear HT); have HF0_0 := n0_; have HF0_1 := n1_; have HF3_0 := n2_; have HS3_0 := n3_; have HF6 := n4_; have HS6 := n5_; have BK1 := n6_; have BK4 := n7_; have HB := n8_; have BK2 := n9_; have HT := n10_; clear n0_ n1_ n2_ n3_ n4_ n5_ n6_ n7_ n8_ n9_ n10_; clear hw_ hkp hge_ hbn_ hbk_ hsz_; have hzgb1_0_15 : w15.cell? ⟨gb1, 0, none⟩ = some (.slice A0_0 l0_0.length c0_0) := (aE BK1.out 0).trans rfl; have hygb1_0_15 := aD BK1.out 0; have hzgb1_1_15 : w15.cell? ⟨gb1, 1, none⟩ = some (.slice A0_1 l0_1.length c0_1) := (aE BK1.out 1).trans rfl; have hygb1_1_15 := aD BK1.out 1; have hzgb2_0_15 : w15.cell? ⟨gb2, 0, none⟩ = some (.slice A3_0 l0_0.length c3_0) := (aE BK2.out 0).trans rfl; have hygb2_0_15 := aD BK2.out 0; have hzgb2_1_15 : w15.cell? ⟨gb2, 1, none⟩ = some (.slice A6 l0_1.length c6) := (aE BK2.out 1).trans rfl; have hygb2_1_15 := aD BK2.out 1; have hzgb4_0_15 : w15.cell? ⟨gb4, 0, none⟩ = some (.slice A3_0 l0_0.length c3_0) := (aE BK4.out 0).trans rfl; have hygb4_0_15 := aD BK4.out 0; have hzgb4_1_15 : w15.cell? ⟨gb4, 1, none⟩ = some (.slice A6 l0_1.length c6) := (aE BK4.out 1).trans rfl; have hygb4_1_15 := aD BK4.out 1))
 refine bodyPost_ret (fn := Try.f31) (P := Try.prog) (results_cell_row rfl _ _ gb2 29 #[.slice A3_0 l0_0.length c3_0, .slice A6 l0_1.length c6] (0, 0) _ rfl BK2.out Try.underlying29 rfl (by kernel_rfl)) rfl ?_
 first | exact ⟨_, _, (gb4 + 1), rfl, (by have o_ := HORD.out; have t_ := HT.out; omega), (by have o_ := HORD.out; have t_ := HT.out; omega), Kd.bK (Kd.R_lower HS3_0.out (by have o_ := HORD.out; have t_ := HT.out; omega)) (fun k_ hk_ => by have o_ := HORD.out; have t_ := HT.out; (try simp only [In2, Up, In] at hk_ ⊢); omega), Kd.S_mono (Kd.S_lower HS6.out (by have o_ := HORD.out; have t_ := HT.out; omega)) (fun k_ hk_ => by have o_ := HORD.out; have t_ := HT.out; (try simp only [In2, Up, In] at hk_ ⊢); omega), HB.out⟩ | exact ⟨_, _, rfl, (gb4 + 1), (by have o_ := HORD.out; have t_ := HT.out; omega), (by have o_ := HORD.out; have t_ := HT.out; omega), Kd.bK (Kd.R_lower HS3_0.out (by have o_ := HORD.out; have t_ := HT.out; omega)) (fun k_ hk_ => by have o_ := HORD.out; have t_ := HT.out; (try simp only [In2, Up, In] at hk_ ⊢); omega), Kd.S_mono (Kd.S_lower HS6.out (by have o_ := HORD.out; have t_ := HT.out; omega)) (fun k_ hk_ => by have o_ := HORD.out; have t_ := HT.out; (try simp only [In2, Up, In] at hk_ ⊢); omega), HB.out⟩
def impl_copyTreeS.f (l0_0 : List Int) (l0_1 : List (S59)) : Option (List Int × List (S59)) := if okTreeB l0_0 l0_1 = true then some (l0_0, l0_1) else none
theorem impl_copyTreeS.calls (P0_0_ : Nat → Prop) (A0_0 : Option Addr) (c0_0 : Nat) (l0_0 : List Int) (P0_1_ : Nat → Prop) (A0_1 : Option Addr) (c0_1 : Nat) (l0_1 : List (S59)) (r1 : List Int) (r2 : List (S59)) (w : World) (hs0_0 : Kd.V (Kd.int .i64) 3 w w.heap.size (fun k_ => P0_0_ k_) (.slice A0_0 l0_0.length c0_0) l0_0) (hs0_1 : Kd.V k59D 59 w w.heap.size (fun k_ => P0_1_ k_) (.slice A0_1 l0_1.length c0_1) l0_1) (h : impl_copyTreeS.f l0_0 l0_1 = some (r1, r2)) :
  Calls Try.prog 31 #[.agg #[.slice A0_0 l0_0.length c0_0, .slice A0_1 l0_1.length c0_1]] w fun e w' => ∃ v0_ v1_ : Value, ∃ m_ : Nat, e = .returned (.agg #[v0_, v1_]) ∧ w.heap.size ≤ m_ ∧ m_ ≤ w'.heap.size ∧ Kd.R (Kd.int .i64) 3 w' w.heap.size (In w.heap.size m_) v0_ r1 ∧ Kd.S k59D 59 w' w.heap.size (In m_ w'.heap.size) v1_ r2 ∧ Below w.heap.size w w' := by
 obtain ⟨_, hc0_, hf0_⟩ := Kd.V_at hs0_0
 obtain ⟨_, hc1_, hf1_⟩ := Kd.V_at hs0_1
 replace hf0_ := Kd.F_mono (ok' := In 0 w.heap.size) (Kd.F_bound hf0_) (fun k hk => ⟨Nat.zero_le k, hk.2⟩)
 replace hf1_ := Kd.F_mono (ok' := In 0 w.heap.size) (Kd.F_bound hf1_) (fun k hk => ⟨Nat.zero_le k, hk.2⟩)
 unfold impl_copyTreeS.f at h
 split at h
 ·rename_i hok
  unfold okTreeB at hok
  simp only [Bool.and_eq_true, decide_eq_true_eq] at hok
  obtain ⟨hok0, hok1⟩ := hok
  injection h with h
  simp only [Prod.mk.injEq] at h
  obtain ⟨rfl, rfl⟩ := h
  exact walk_copyTree _ _ _ _ _ _ w hf0_ hc0_ hf1_ hc1_ hok0 hok1
 ·cases h
theorem copyTreeS_f {s : List Int} {l : List S59} (h : s.length ≤ 4194304) (h2 : okNodeS l) : impl_copyTreeS.f s l = some (s, l) := by
 unfold impl_copyTreeS.f okTreeB
 unfold okNodeS at h2
 rw [if_pos (by simp [h, h2])]
set_option maxHeartbeats 8000000 in
set_option maxRecDepth 100000 in
theorem walk_TreePack1 (A0_0 : Option Addr) (c0_0 : Nat) (l0_0 : List (Int)) (A0_1 : Option Addr) (c0_1 : Nat) (l0_1 : List (S59)) (a1 : Int) (w : World) (hf0_0 : Kd.F (Kd.int .i64) w (In 0 w.heap.size) A0_0 l0_0.length l0_0) (hc0_0 : l0_0.length ≤ c0_0) (hf0_1 : Kd.F k59D w (In 0 w.heap.size) A0_1 l0_1.length l0_1) (hc0_1 : l0_1.length ≤ c0_1) (hok0 : l0_0.length ≤ 4194304) (hok1 : okNodeS l0_1) (hwi : decide (0 ≤ a1 ∧ a1 ≤ wrap64 ((l0_1.length : Int) - 1)) = false) :
  Calls Try.prog 9 #[.agg #[.slice A0_0 l0_0.length c0_0, .slice A0_1 l0_1.length c0_1], .int .i64 a1] w fun e w' => ∃ v0_ v1_ : Value, ∃ m_ : Nat, e = .returned (.agg #[v0_, v1_]) ∧ w.heap.size ≤ m_ ∧ m_ ≤ w'.heap.size ∧ Kd.R (Kd.int .i64) 3 w' w.heap.size (In w.heap.size m_) v0_ l0_0 ∧ Kd.S k59D 59 w' w.heap.size (In m_ w'.heap.size) v1_ l0_1 ∧ Below w.heap.size w w' := by
 have hu29 := Try.underlying29
 have hu59 := Try.underlying59
 have HF0_0 := aA.mk hf0_0
 have HC0_0 := aA.mk hc0_0
 clear hf0_0 hc0_0
 have HF0_1 := aA.mk hf0_1
 have HC0_1 := aA.mk hc0_1
 clear hf0_1 hc0_1
 have HB := aA.mk (Below.refl w.heap.size w)
 have HORD := aA.mk (Nat.le_refl w.heap.size)
 have HT := aA.mk (Nat.le_refl w.heap.size)
 have JC := aA.mk (copyTreeS_f hok0 hok1)
 have JW := aA.mk (show impl_within.f a1 0 (wrap64 ((l0_1.length : Int) - 1)) = some false from by rw [impl_within_f, hwi])
 go_enter Try.func9, Try.ntmps9
 go_wp2_with (first | ((with_reducible refine aW (N := 2) rfl ?_); refine aX ?hg (N := 2) ?hd (cs := #[.slice A0_0 l0_0.length c0_0, .slice A0_1 l0_1.length c0_1]) (t := 29) ?hr ?_; (case hd => rfl); (case hg => rfl); (case hr => first | (go_simp; done) | (go_simp; rfl)); intro gb1 hg_ w1 hbox hb; have hge_ : w.heap.size ≤ gb1 := (by rw [hg_]; exact HT.out); have hlt_ : gb1 + 1 ≤ w1.heap.size := bF hbox; have n0_ := aA.mk (Kd.bE HF0_0.out hb); have n1_ := aA.mk (Kd.bE HF0_1.out hb); have n2_ := aA.mk (aU HB.out hb); have n3_ := aA.mk (hbox); have n4_ := aA.mk (And.intro HORD.out (And.intro hge_ (Nat.le_succ gb1))); have n5_ := aA.mk (hlt_); (try clear HF0_0); (try clear HF0_1); (try clear HB); (try clear BK1); (try clear HORD); (try clear HT); have HF0_0 := n0_; have HF0_1 := n1_; have HB := n2_; have BK1 := n3_; have HORD := n4_; have HT := n5_; clear n0_ n1_ n2_ n3_ n4_ n5_; clear hb hbox hg_ hge_ hlt_; have hzgb1_0_1 : w1.cell? ⟨gb1, 0, none⟩ = some (.slice A0_0 l0_0.length c0_0) := (aE BK1.out 0).trans rfl; have hygb1_0_1 := aD BK1.out 0; have hzgb1_1_1 : w1.cell? ⟨gb1, 1, none⟩ = some (.slice A0_1 l0_1.length c0_1) := (aE BK1.out 1).trans rfl; have hygb1_1_1 := aD BK1.out 1) | ((with_reducible refine aW (N := 4) rfl ?_); refine aX ?hg (N := 4) ?hd (cs := #[.slice none 0 0, .slice none 0 0]) (t := 29) ?hr ?_; (case hd => rfl); (case hg => rfl); (case hr => first | (go_simp; done) | (go_simp; rfl)); intro gb2 hg_ w2 hbox hb; have hge_ : (gb1 + 1) ≤ gb2 := (by rw [hg_]; exact HT.out); have hlt_ : gb2 + 1 ≤ w2.heap.size := bF hbox; have n0_ := aA.mk (Kd.bE HF0_0.out hb); have n1_ := aA.mk (Kd.bE HF0_1.out hb); have n2_ := aA.mk (aV BK1.out hb); have n3_ := aA.mk (aU HB.out hb); have n4_ := aA.mk (hbox); have n5_ := aA.mk (And.intro HORD.out (And.intro hge_ (Nat.le_succ gb2))); have n6_ := aA.mk (hlt_); (try clear HF0_0); (try clear HF0_1); (try clear BK1); (try clear HB); (try clear BK2); (try clear HORD); (try clear HT); have HF0_0 := n0_; have HF0_1 := n1_; have BK1 := n2_; have HB := n3_; have BK2 := n4_; have HORD := n5_; have HT := n6_; clear n0_ n1_ n2_ n3_ n4_ n5_ n6_; clear hb hbox hg_ hge_ hlt_; have hzgb1_0_2 : w2.cell? ⟨gb1, 0, none⟩ = some (.slice A0_0 l0_0.length c0_0) := (aE BK1.out 0).trans rfl; have hygb1_0_2 := aD BK1.out 0; have hzgb1_1_2 : w2.cell? ⟨gb1, 1, none⟩ = some (.slice A0_1 l0_1.length c0_1) := (aE BK1.out 1).trans rfl; have hygb1_1_2 := aD BK1.out 1; have hzgb2_0_2 : w2.cell? ⟨gb2, 0, none⟩ = some (.slice none 0 0) := (aE BK2.out 0).trans rfl; have hygb2_0_2 := aD BK2.out 0; have hzgb2_1_2 : w2.cell? ⟨gb2, 1, none⟩ = some (.slice none 0 0) := (aE BK2.out 1).trans rfl; have hygb2_1_2 := aD BK2.out 1) | ((with_reducible refine bB (f := 31) rfl ?_); refine bP (some 7) rfl rfl Try.func31 (by kernel_rfl) rfl #[.agg #[.slice A0_0 l0_0.length c0_0, .slice A0_1 l0_1.length c0_1]] rfl (by (try simp only [List.map_toArray, List.map_cons, List.map_nil]); first | done | rfl | (simp only [List.length_drop, List.length_take]; rfl)) ?_; (with_reducible refine (impl_copyTreeS.calls (In 0 w.heap.size) _ _ l0_0 (In 0 w.heap.size) _ _ l0_1 l0_0 l0_1 _ ?s1 ?s2 JC.out).mono ?_); (case s1 => exact ⟨_, _, rfl, HC0_0.out, HF0_0.out⟩); (case s2 => exact ⟨_, _, rfl, HC0_1.out, HF0_1.out⟩); rintro e_ w3 ⟨v0_, v1_, mm3, rfl, hm1_, hm2_, ho0, ho1, hb⟩; refine ⟨_, rfl, ?_⟩; obtain ⟨lo3, hi3, el_, eh_, ol_, oh_⟩ := Mem.times HT.out hb; rw [← el_] at hm1_; rw [← eh_] at hm2_; rw [← el_] at ho0; obtain ⟨A3_0, c3_0, ev_, hc0_, hf0_, hs0_⟩ := new_RI2 ho0; subst ev_; rw [← eh_] at ho1; (try rw [← el_] at ho1); obtain ⟨A3_1, c3_1, ev_, hc1_, hf1_, hs1_⟩ := new_SI2 ho1; subst ev_; have n0_ := aA.mk (Kd.bE HF0_0.out hb); have n1_ := aA.mk (Kd.bE HF0_1.out hb); have n2_ := aA.mk (aV BK1.out hb); have n3_ := aA.mk (aV BK2.out hb); have n4_ := aA.mk (aU HB.out hb); have n5_ := aA.mk (hf0_); have n6_ := aA.mk (hc0_); have n7_ := aA.mk (hs0_); have n8_ := aA.mk (hf1_); have n9_ := aA.mk (hc1_); have n10_ := aA.mk (hs1_); have n11_ := aA.mk (And.intro HORD.out (And.intro ol_ (And.intro hm1_ hm2_))); have n12_ := aA.mk (Nat.le_of_eq eh_); (try clear HF0_0); (try clear HF0_1); (try clear BK1); (try clear BK2); (try clear HB); (try clear HF3_0); (try clear HC3_0); (try clear HS3_0); (try clear HF3_1); (try clear HC3_1); (try clear HS3_1); (try clear HORD); (try clear HT); have HF0_0 := n0_; have HF0_1 := n1_; have BK1 := n2_; have BK2 := n3_; have HB := n4_; have HF3_0 := n5_; have HC3_0 := n6_; have HS3_0 := n7_; have HF3_1 := n8_; have HC3_1 := n9_; have HS3_1 := n10_; have HORD := n11_; have HT := n12_; clear n0_ n1_ n2_ n3_ n4_ n5_ n6_ n7_ n8_ n9_ n10_ n11_ n12_; clear hm1_ hm2_; clear ol_ oh_ el_ eh_ ho0 hf0_ hc0_ hs0_ ho1 hf1_ hc1_ hs1_; (try clear hb); have hzgb1_0_3 : w3.cell? ⟨gb1, 0, none⟩ = some (.slice A0_0 l0_0.length c0_0) := (aE BK1.out 0).trans rfl; have hygb1_0_3 := aD BK1.out 0; have hzgb1_1_3 : w3.cell? ⟨gb1, 1, none⟩ = some (.slice A0_1 l0_1.length c0_1) := (aE BK1.out 1).trans rfl; have hygb1_1_3 := aD BK1.out 1; have hzgb2_0_3 : w3.cell? ⟨gb2, 0, none⟩ = some (.slice none 0 0) := (aE BK2.out 0).trans rfl; have hygb2_0_3 := aD BK2.out 0; have hzgb2_1_3 : w3.cell? ⟨gb2, 1, none⟩ = some (.slice none 0 0) := (aE BK2.out 1).trans rfl; have hygb2_1_3 := aD BK2.out 1) | ((with_reducible refine aW (N := 5) rfl ?_); refine aX ?hg (N := 5) ?hd (cs := #[.slice none 0 0, .slice none 0 0]) (t := 29) ?hr ?_; (case hd => rfl); (case hg => rfl); (case hr => first | (go_simp; done) | (go_simp; rfl)); intro gb4 hg_ w4 hbox hb; have hge_ : hi3 ≤ gb4 := (by rw [hg_]; exact HT.out); have hlt_ : gb4 + 1 ≤ w4.heap.size := bF hbox; have n0_ := aA.mk (Kd.bE HF0_0.out hb); have n1_ := aA.mk (Kd.bE HF0_1.out hb); have n2_ := aA.mk (Kd.bE HF3_0.out hb); have n3_ := aA.mk (Kd.bU HS3_0.out hb); have n4_ := aA.mk (Kd.bE HF3_1.out hb); have n5_ := aA.mk (Kd.S_below HS3_1.out hb); have n6_ := aA.mk (aV BK1.out hb); have n7_ := aA.mk (aV BK2.out hb); have n8_ := aA.mk (aU HB.out hb); have n9_ := aA.mk (hbox); have n10_ := aA.mk (And.intro HORD.out (And.intro hge_ (Nat.le_succ gb4))); have n11_ := aA.mk (hlt_); (try clear HF0_0); (try clear HF0_1); (try clear HF3_0); (try clear HS3_0); (try clear HF3_1); (try clear HS3_1); (try clear BK1); (try clear BK2); (try clear HB); (try clear BK4); (try clear HORD); (try clear HT); have HF0_0 := n0_; have HF0_1 := n1_; have HF3_0 := n2_; have HS3_0 := n3_; have HF3_1 := n4_; have HS3_1 := n5_; have BK1 := n6_; have BK2 := n7_; have HB := n8_; have BK4 := n9_; have HORD := n10_; have HT := n11_; clear n0_ n1_ n2_ n3_ n4_ n5_ n6_ n7_ n8_ n9_ n10_ n11_; clear hb hbox hg_ hge_ hlt_; have hzgb1_0_4 : w4.cell? ⟨gb1, 0, none⟩ = some (.slice A0_0 l0_0.length c0_0) := (aE BK1.out 0).trans rfl; have hygb1_0_4 := aD BK1.out 0; have hzgb1_1_4 : w4.cell? ⟨gb1, 1, none⟩ = some (.slice A0_1 l0_1.length c0_1) := (aE BK1.out 1).trans rfl; have hygb1_1_4 := aD BK1.out 1; have hzgb2_0_4 : w4.cell? ⟨gb2, 0, none⟩ = some (.slice none 0 0) := (aE BK2.out 0).trans rfl; have hygb2_0_4 := aD BK2.out 0; have hzgb2_1_4 : w4.cell? ⟨gb2, 1, none⟩ = some (.slice none 0 0) := (aE BK2.out 1).trans rfl; have hygb2_1_4 := aD BK2.out 1; have hzgb4_0_4 : w4.cell? ⟨gb4, 0, none⟩ = some (.slice none 0 0) := (aE BK4.out 0).trans rfl; have hygb4_0_4 := aD BK4.out 0; have hzgb4_1_4 : w4.cell? ⟨gb4, 1, none⟩ = some (.slice none 0 0) := (aE BK4.out 1).trans rfl; have hygb4_1_4 := aD BK4.out 1) | ((with_reducible refine gate_store (t := 29) (p := 5) rfl ?_); refine store_event (t := 29) (p := 5) (v := ?vo_w5) (w1 := ((w4.setCell ⟨gb4, 0, none⟩ (.slice A3_0 l0_0.length c3_0)).setCell ⟨gb4, 1, none⟩ (.slice A3_1 l0_1.length c3_1))) ?hg ?ho ?hn ?hr ?_; (case ho => rfl); (case hg => rfl); (case hn => rfl); (case hr => first | (go_simp; done) | (go_simp; rfl)); intro w5 hw_; have hkp : Kept w4 w5 (fun k_ => k_ = gb4) := (by rw [hw_]; exact Kept.setCell (Kept.setCell (Kept.refl w4 (fun k_ => k_ = gb4)) (.inl rfl) (.slice A3_0 l0_0.length c3_0)) (.inl rfl) (.slice A3_1 l0_1.length c3_1)); have hge_ : w.heap.size ≤ gb4 := (by have o_ := HORD.out; (try unfold In at *); (try show _ ≠ _); omega); have hbn_ : Below w.heap.size w w5 := (by rw [hw_]; exact aJ (aJ (HB.out) hge_) hge_); have hbk_ : w5.heap[gb4]? = some (.cells #[.slice A3_0 l0_0.length c3_0, .slice A3_1 l0_1.length c3_1] 29 (0, 0)) := (by rw [hw_]; exact bG (cs := #[.slice A3_0 l0_0.length c3_0, .slice none 0 0]) (cs' := #[.slice A3_0 l0_0.length c3_0, .slice A3_1 l0_1.length c3_1]) (bG (cs := #[.slice none 0 0, .slice none 0 0]) (cs' := #[.slice A3_0 l0_0.length c3_0, .slice none 0 0]) (BK4.out) 0 _ rfl) 1 _ rfl); have hsz_ : (gb4 + 1) ≤ w5.heap.size := Nat.le_trans HT.out hkp.1; have n0_ := aA.mk (Kd.bT HF0_0.out hkp (fun k_ h1_ h2_ => by have o_ := HORD.out; have t_ := HT.out; (try simp only [In2, Up, In, Ex, Exb] at h1_ h2_); omega)); have n1_ := aA.mk (Kd.bT HF0_1.out hkp (fun k_ h1_ h2_ => by have o_ := HORD.out; have t_ := HT.out; (try simp only [In2, Up, In, Ex, Exb] at h1_ h2_); omega)); have n2_ := aA.mk (Kd.bT HF3_0.out hkp (fun k_ h1_ h2_ => by have o_ := HORD.out; have t_ := HT.out; (try simp only [In2, Up, In, Ex, Exb] at h1_ h2_); omega)); have n3_ := aA.mk (Kd.R_kept HS3_0.out hkp (fun k_ h1_ h2_ => by have o_ := HORD.out; have t_ := HT.out; (try simp only [In2, Up, In, Ex, Exb] at h1_ h2_); omega)); have n4_ := aA.mk (Kd.bT HF3_1.out hkp (fun k_ h1_ h2_ => by have o_ := HORD.out; have t_ := HT.out; (try simp only [In2, Up, In, Ex, Exb] at h1_ h2_); omega)); have n5_ := aA.mk (Kd.S_kept HS3_1.out hkp (fun k_ h1_ h2_ => by have o_ := HORD.out; have t_ := HT.out; (try simp only [In2, Up, In, Ex, Exb] at h1_ h2_); omega)); have n6_ := aA.mk (bV BK1.out hkp (fun h2_ => by have o_ := HORD.out; have t_ := HT.out; (try simp only [In2, Up, In, Ex, Exb] at h2_); omega)); have n7_ := aA.mk (bV BK2.out hkp (fun h2_ => by have o_ := HORD.out; have t_ := HT.out; (try simp only [In2, Up, In, Ex, Exb] at h2_); omega)); have n8_ := aA.mk (hbn_); have n9_ := aA.mk (hbk_); have n10_ := aA.mk (hsz_); (try clear HF0_0); (try clear HF0_1); (try clear HF3_0); (try clear HS3_0); (try clear HF3_1); (try clear HS3_1); (try clear BK1); (try clear BK2); (try clear HB); (try clear BK4); (try clear HT); have HF0_0 := n0_; have HF0_1 := n1_; have HF3_0 := n2_; have HS3_0 := n3_; have HF3_1 := n4_; have HS3_1 := n5_; have BK1 := n6_; have BK2 := n7_; have HB := n8_; have BK4 := n9_; have HT := n10_; clear n0_ n1_ n2_ n3_ n4_ n5_ n6_ n7_ n8_ n9_ n10_; clear hw_ hkp hge_ hbn_ hbk_ hsz_; have hzgb1_0_5 : w5.cell? ⟨gb1, 0, none⟩ = some (.slice A0_0 l0_0.length c0_0) := (aE BK1.out 0).trans rfl; have hygb1_0_5 := aD BK1.out 0; have hzgb1_1_5 : w5.cell? ⟨gb1, 1, none⟩ = some (.slice A0_1 l0_1.length c0_1) := (aE BK1.out 1).trans rfl; have hygb1_1_5 := aD BK1.out 1; have hzgb2_0_5 : w5.cell? ⟨gb2, 0, none⟩ = some (.slice none 0 0) := (aE BK2.out 0).trans rfl; have hygb2_0_5 := aD BK2.out 0; have hzgb2_1_5 : w5.cell? ⟨gb2, 1, none⟩ = some (.slice none 0 0) := (aE BK2.out 1).trans rfl; have hygb2_1_5 := aD BK2.out 1; have hzgb4_0_5 : w5.cell? ⟨gb4, 0, none⟩ = some (.slice A3_0 l0_0.length c3_0) := (aE BK4.out 0).trans rfl; have hygb4_0_5 := aD BK4.out 0; have hzgb4_1_5 : w5.cell? ⟨gb4, 1, none⟩ = some (.slice A3_1 l0_1.length c3_1) := (aE BK4.out 1).trans rfl; have hygb4_1_5 := aD BK4.out 1) | ((with_reducible refine bB (f := 32) rfl ?_); refine bP (some 13) rfl rfl Try.func32 (by kernel_rfl) rfl #[.int .i64 a1, .int .i64 0, .int .i64 ((wrap64 ((l0_1.length : Int) - 1)))] rfl (by (try simp only [List.map_toArray, List.map_cons, List.map_nil]); first | done | rfl | (simp only [List.length_drop, List.length_take]; rfl)) ?_; (with_reducible refine (impl_within.calls a1 0 ((wrap64 ((l0_1.length : Int) - 1))) false _ JW.out).mono ?_); rintro e_ w6 ⟨rfl, hd⟩; refine ⟨_, rfl, ?_⟩; have hb := hd.below; clear hd; have n0_ := aA.mk (Kd.bE HF0_0.out hb); have n1_ := aA.mk (Kd.bE HF0_1.out hb); have n2_ := aA.mk (Kd.bE HF3_0.out hb); have n3_ := aA.mk (Kd.bU HS3_0.out hb); have n4_ := aA.mk (Kd.bE HF3_1.out hb); have n5_ := aA.mk (Kd.S_below HS3_1.out hb); have n6_ := aA.mk (aV BK1.out hb); have n7_ := aA.mk (aV BK2.out hb); have n8_ := aA.mk (aV BK4.out hb); have n9_ := aA.mk (aU HB.out hb); have n10_ := aA.mk (Nat.le_trans HT.out hb.size); (try clear HF0_0); (try clear HF0_1); (try clear HF3_0); (try clear HS3_0); (try clear HF3_1); (try clear HS3_1); (try clear BK1); (try clear BK2); (try clear BK4); (try clear HB); (try clear HT); have HF0_0 := n0_; have HF0_1 := n1_; have HF3_0 := n2_; have HS3_0 := n3_; have HF3_1 := n4_; have HS3_1 := n5_; have BK1 := n6_; have BK2 := n7_; have BK4 := n8_; have HB := n9_; have HT := n10_; clear n0_ n1_ n2_ n3_ n4_ n5_ n6_ n7_ n8_ n9_ n10_; (try clear hb); have hzgb1_0_6 : w6.cell? ⟨gb1, 0, none⟩ = some (.slice A0_0 l0_0.length c0_0) := (aE BK1.out 0).trans rfl; have hygb1_0_6 := aD BK1.out 0; have hzgb1_1_6 : w6.cell? ⟨gb1, 1, none⟩ = some (.slice A0_1 l0_1.length c0_1) := (aE BK1.out 1).trans rfl; have hygb1_1_6 := aD BK1.out 1; have hzgb2_0_6 : w6.cell? ⟨gb2, 0, none⟩ = some (.slice none 0 0) := (aE BK2.out 0).trans rfl; have hygb2_0_6 := aD BK2.out 0; have hzgb2_1_6 : w6.cell? ⟨gb2, 1, none⟩ = some (.slice none 0 0) := (aE BK2.out 1).trans rfl; have hygb2_1_6 := aD BK2.out 1; have hzgb4_0_6 : w6.cell? ⟨gb4, 0, none⟩ = some (.slice A3_0 l0_0.length c3_0) := (aE BK4.out 0).trans rfl; have hygb4_0_6 := aD BK4.out 0; have hzgb4_1_6 : w6.cell? ⟨gb4, 1, none⟩ = some (.slice A3_1 l0_1.length c3_1) := (aE BK4.out 1).trans rfl; have hygb4_1_6 := aD BK4.out 1) | ((with_reducible refine gate_store (t := 29) (p := 4) rfl ?_); refine store_event (t := 29) (p := 4) (v := ?vo_w7) (w1 := ((w6.setCell ⟨gb2, 0, none⟩ (.slice A3_0 l0_0.length c3_0)).setCell ⟨gb2, 1, none⟩ (.slice A3_1 l0_1.length c3_1))) ?hg ?ho ?hn ?hr ?_; (case ho => rfl); (case hg => rfl); (case hn => rfl); (case hr => first | (go_simp; done) | (go_simp; rfl)); intro w7 hw_; have hkp : Kept w6 w7 (fun k_ => k_ = gb2) := (by rw [hw_]; exact Kept.setCell (Kept.setCell (Kept.refl w6 (fun k_ => k_ = gb2)) (.inl rfl) (.slice A3_0 l0_0.length c3_0)) (.inl rfl) (.slice A3_1 l0_1.length c3_1)); have hge_ : w.heap.size ≤ gb2 := (by have o_ := HORD.out; (try unfold In at *); (try show _ ≠ _); omega); have hbn_ : Below w.heap.size w w7 := (by rw [hw_]; exact aJ (aJ (HB.out) hge_) hge_); have hbk_ : w7.heap[gb2]? = some (.cells #[.slice A3_0 l0_0.length c3_0, .slice A3_1 l0_1.length c3_1] 29 (0, 0)) := (by rw [hw_]; exact bG (cs := #[.slice A3_0 l0_0.length c3_0, .slice none 0 0]) (cs' := #[.slice A3_0 l0_0.length c3_0, .slice A3_1 l0_1.length c3_1]) (bG (cs := #[.slice none 0 0, .slice none 0 0]) (cs' := #[.slice A3_0 l0_0.length c3_0, .slice none 0 0]) (BK2.out) 0 _ rfl) 1 _ rfl); have hsz_ : (gb4 + 1) ≤ w7.heap.size := Nat.le_trans HT.out hkp.1; have n0_ := aA.mk (Kd.bT HF0_0.out hkp (fun k_ h1_ h2_ => by have o_ := HORD.out; have t_ := HT.out; (try simp only [In2, Up, In, Ex, Exb] at h1_ h2_); omega)); have n1_ := aA.mk (Kd.bT HF0_1.out hkp (fun k_ h1_ h2_ => by have o_ := HORD.out; have t_ := HT.out; (try simp only [In2, Up, In, Ex, Exb] at h1_ h2_); omega)); have n2_ := aA.mk (Kd.bT HF3_0.out hkp (fun k_ h1_ h2_ => by have o_ := HORD.out; have t_ := HT.out; (try simp only [In2, Up, In, Ex, Exb] at h1_ h2_); omega)); have n3_ := aA.mk (Kd.R_kept HS3_0.out hkp (fun k_ h1_ h2_ => by have o_ := HORD.out; have t_ := HT.out; (try simp only [In2, Up, In, Ex, Exb] at h1_ h2_); omega)); have n4_ := aA.mk (Kd.bT HF3_1.out hkp (fun k_ h1_ h2_ => by have o_ := HORD.out; have t_ := HT.out; (try simp only [In2, Up, In, Ex, Exb] at h1_ h2_); omega)); have n5_ := aA.mk (Kd.S_kept HS3_1.out hkp (fun k_ h1_ h2_ => by have o_ := HORD.out; have t_ := HT.out; (try simp only [In2, Up, In, Ex, Exb] at h1_ h2_); omega)); have n6_ := aA.mk (bV BK1.out hkp (fun h2_ => by have o_ := HORD.out; have t_ := HT.out; (try simp only [In2, Up, In, Ex, Exb] at h2_); omega)); have n7_ := aA.mk (bV BK4.out hkp (fun h2_ => by have o_ := HORD.out; have t_ := HT.out; (try simp only [In2, Up, In, Ex, Exb] at h2_); omega)); have n8_ := aA.mk (hbn_); have n9_ := aA.mk (hbk_); have n10_ := aA.mk (hsz_); (try clear HF0_0); (try clear HF0_1); (try clear HF3_0); (try clear HS3_0); (try clear HF3_1); (try clear HS3_1); (try clear BK1); (try clear BK4); (try clear HB); (try clear BK2); (try clear HT); have HF0_0 := n0_; have HF0_1 := n1_; have HF3_0 := n2_; have HS3_0 := n3_; have HF3_1 := n4_; have HS3_1 := n5_; have BK1 := n6_; have BK4 := n7_; have HB := n8_; have BK2 := n9_; have HT := n10_; clear n0_ n1_ n2_ n3_ n4_ n5_ n6_ n7_ n8_ n9_ n10_; clear hw_ hkp hge_ hbn_ hbk_ hsz_; have hzgb1_0_7 : w7.cell? ⟨gb1, 0, none⟩ = some (.slice A0_0 l0_0.length c0_0) := (aE BK1.out 0).trans rfl; have hygb1_0_7 := aD BK1.out 0; have hzgb1_1_7 : w7.cell? ⟨gb1, 1, none⟩ = some (.slice A0_1 l0_1.length c0_1) := (aE BK1.out 1).trans rfl; have hygb1_1_7 := aD BK1.out 1; have hzgb2_0_7 : w7.cell? ⟨gb2, 0, none⟩ = some (.slice A3_0 l0_0.length c3_0) := (aE BK2.out 0).trans rfl; have hygb2_0_7 := aD BK2.out 0; have hzgb2_1_7 : w7.cell? ⟨gb2, 1, none⟩ = some (.slice A3_1 l0_1.length c3_1) := (aE BK2.out 1).trans rfl; have hygb2_1_7 := aD BK2.out 1; have hzgb4_0_7 : w7.cell? ⟨gb4, 0, none⟩ = some (.slice A3_0 l0_0.length c3_0) := (aE BK4.out 0).trans rfl; have hygb4_0_7 := aD BK4.out 0; have hzgb4_1_7 : w7.cell? ⟨gb4, 1, none⟩ = some (.slice A3_1 l0_1.length c3_1) := (aE BK4.out 1).trans rfl; have hygb4_1_7 := aD BK4.out 1))
 refine bodyPost_ret (fn := Try.f9) (P := Try.prog) (results_cell_row rfl _ _ gb2 29 #[.slice A3_0 l0_0.length c3_0, .slice A3_1 l0_1.length c3_1] (0, 0) _ rfl BK2.out Try.underlying29 rfl (by kernel_rfl)) rfl ?_
 first | exact ⟨_, _, mm3, rfl, (by have o_ := HORD.out; have t_ := HT.out; omega), (by have o_ := HORD.out; have t_ := HT.out; omega), Kd.bK (Kd.R_lower HS3_0.out (by have o_ := HORD.out; have t_ := HT.out; omega)) (fun k_ hk_ => by have o_ := HORD.out; have t_ := HT.out; (try simp only [In2, Up, In] at hk_ ⊢); omega), Kd.S_mono (Kd.S_lower HS3_1.out (by have o_ := HORD.out; have t_ := HT.out; omega)) (fun k_ hk_ => by have o_ := HORD.out; have t_ := HT.out; (try simp only [In2, Up, In] at hk_ ⊢); omega), HB.out⟩ | exact ⟨_, _, rfl, mm3, (by have o_ := HORD.out; have t_ := HT.out; omega), (by have o_ := HORD.out; have t_ := HT.out; omega), Kd.bK (Kd.R_lower HS3_0.out (by have o_ := HORD.out; have t_ := HT.out; omega)) (fun k_ hk_ => by have o_ := HORD.out; have t_ := HT.out; (try simp only [In2, Up, In] at hk_ ⊢); omega), Kd.S_mono (Kd.S_lower HS3_1.out (by have o_ := HORD.out; have t_ := HT.out; omega)) (fun k_ hk_ => by have o_ := HORD.out; have t_ := HT.out; (try simp only [In2, Up, In] at hk_ ⊢); omega), HB.out⟩
set_option maxHeartbeats 8000000 in
set_option maxRecDepth 100000 in
theorem walk_TreePack2 (A0_0 : Option Addr) (c0_0 : Nat) (l0_0 : List (Int)) (A0_1 : Option Addr) (c0_1 : Nat) (l0_1 : List (S59)) (a1 : Int) (w : World) (hf0_0 : Kd.F (Kd.int .i64) w (In 0 w.heap.size) A0_0 l0_0.length l0_0) (hc0_0 : l0_0.length ≤ c0_0) (hf0_1 : Kd.F k59D w (In 0 w.heap.size) A0_1 l0_1.length l0_1) (hc0_1 : l0_1.length ≤ c0_1) (hok0 : l0_0.length ≤ 4194304) (hok1 : okNodeS l0_1) (hwi : decide (0 ≤ a1 ∧ a1 ≤ wrap64 ((l0_1.length : Int) - 1)) = true) (kp : Nat) (pk : List (List (S38))) (hpk : impl_NodePack.f kp (rdN l0_1 a1).f0 = some pk) (hb0 : 0 ≤ a1) (hb1 : a1 < (l0_1.length : Int)) :
  Calls Try.prog 9 #[.agg #[.slice A0_0 l0_0.length c0_0, .slice A0_1 l0_1.length c0_1], .int .i64 a1] w fun e w' => ∃ v0_ v1_ : Value, ∃ m_ : Nat, e = .returned (.agg #[v0_, v1_]) ∧ w.heap.size ≤ m_ ∧ m_ ≤ w'.heap.size ∧ Kd.R (Kd.int .i64) 3 w' w.heap.size (In w.heap.size m_) v0_ l0_0 ∧ Kd.S k59D 59 w' w.heap.size (In m_ w'.heap.size) v1_ (l0_1.set a1.toNat (⟨pk⟩ : S59)) ∧ Below w.heap.size w w' := by
 have hu29 := Try.underlying29
 have hu59 := Try.underlying59
 have HF0_0 := aA.mk hf0_0
 have HC0_0 := aA.mk hc0_0
 clear hf0_0 hc0_0
 have HF0_1 := aA.mk hf0_1
 have HC0_1 := aA.mk hc0_1
 clear hf0_1 hc0_1
 have HB := aA.mk (Below.refl w.heap.size w)
 have HORD := aA.mk (Nat.le_refl w.heap.size)
 have HT := aA.mk (Nat.le_refl w.heap.size)
 have JC := aA.mk (copyTreeS_f hok0 hok1)
 have JW := aA.mk (show impl_within.f a1 0 (wrap64 ((l0_1.length : Int) - 1)) = some true from by rw [impl_within_f, hwi])
 have JP := aA.mk hpk
 go_enter Try.func9, Try.ntmps9
 go_wp2_with (first | ((with_reducible refine aW (N := 2) rfl ?_); refine aX ?hg (N := 2) ?hd (cs := #[.slice A0_0 l0_0.length c0_0, .slice A0_1 l0_1.length c0_1]) (t := 29) ?hr ?_; (case hd => rfl); (case hg => rfl); (case hr => first | (go_simp; done) | (go_simp; rfl)); intro gb1 hg_ w1 hbox hb; have hge_ : w.heap.size ≤ gb1 := (by rw [hg_]; exact HT.out); have hlt_ : gb1 + 1 ≤ w1.heap.size := bF hbox; have n0_ := aA.mk (Kd.bE HF0_0.out hb); have n1_ := aA.mk (Kd.bE HF0_1.out hb); have n2_ := aA.mk (aU HB.out hb); have n3_ := aA.mk (hbox); have n4_ := aA.mk (And.intro HORD.out (And.intro hge_ (Nat.le_succ gb1))); have n5_ := aA.mk (hlt_); (try clear HF0_0); (try clear HF0_1); (try clear HB); (try clear BK1); (try clear HORD); (try clear HT); have HF0_0 := n0_; have HF0_1 := n1_; have HB := n2_; have BK1 := n3_; have HORD := n4_; have HT := n5_; clear n0_ n1_ n2_ n3_ n4_ n5_; clear hb hbox hg_ hge_ hlt_; have hzgb1_0_1 : w1.cell? ⟨gb1, 0, none⟩ = some (.slice A0_0 l0_0.length c0_0) := (aE BK1.out 0).trans rfl; have hygb1_0_1 := aD BK1.out 0; have hzgb1_1_1 : w1.cell? ⟨gb1, 1, none⟩ = some (.slice A0_1 l0_1.length c0_1) := (aE BK1.out 1).trans rfl; have hygb1_1_1 := aD BK1.out 1) | ((with_reducible refine aW (N := 4) rfl ?_); refine aX ?hg (N := 4) ?hd (cs := #[.slice none 0 0, .slice none 0 0]) (t := 29) ?hr ?_; (case hd => rfl); (case hg => rfl); (case hr => first | (go_simp; done) | (go_simp; rfl)); intro gb2 hg_ w2 hbox hb; have hge_ : (gb1 + 1) ≤ gb2 := (by rw [hg_]; exact HT.out); have hlt_ : gb2 + 1 ≤ w2.heap.size := bF hbox; have n0_ := aA.mk (Kd.bE HF0_0.out hb); have n1_ := aA.mk (Kd.bE HF0_1.out hb); have n2_ := aA.mk (aV BK1.out hb); have n3_ := aA.mk (aU HB.out hb); have n4_ := aA.mk (hbox); have n5_ := aA.mk (And.intro HORD.out (And.intro hge_ (Nat.le_succ gb2))); have n6_ := aA.mk (hlt_); (try clear HF0_0); (try clear HF0_1); (try clear BK1); (try clear HB); (try clear BK2); (try clear HORD); (try clear HT); have HF0_0 := n0_; have HF0_1 := n1_; have BK1 := n2_; have HB := n3_; have BK2 := n4_; have HORD := n5_; have HT := n6_; clear n0_ n1_ n2_ n3_ n4_ n5_ n6_; clear hb hbox hg_ hge_ hlt_; have hzgb1_0_2 : w2.cell? ⟨gb1, 0, none⟩ = some (.slice A0_0 l0_0.length c0_0) := (aE BK1.out 0).trans rfl; have hygb1_0_2 := aD BK1.out 0; have hzgb1_1_2 : w2.cell? ⟨gb1, 1, none⟩ = some (.slice A0_1 l0_1.length c0_1) := (aE BK1.out 1).trans rfl; have hygb1_1_2 := aD BK1.out 1; have hzgb2_0_2 : w2.cell? ⟨gb2, 0, none⟩ = some (.slice none 0 0) := (aE BK2.out 0).trans rfl; have hygb2_0_2 := aD BK2.out 0; have hzgb2_1_2 : w2.cell? ⟨gb2, 1, none⟩ = some (.slice none 0 0) := (aE BK2.out 1).trans rfl; have hygb2_1_2 := aD BK2.out 1) | ((with_reducible refine bB (f := 31) rfl ?_); refine bP (some 7) rfl rfl Try.func31 (by kernel_rfl) rfl #[.agg #[.slice A0_0 l0_0.length c0_0, .slice A0_1 l0_1.length c0_1]] rfl (by (try simp only [List.map_toArray, List.map_cons, List.map_nil]); first | done | rfl | (simp only [List.length_drop, List.length_take]; rfl)) ?_; (with_reducible refine (impl_copyTreeS.calls (In 0 w.heap.size) _ _ l0_0 (In 0 w.heap.size) _ _ l0_1 l0_0 l0_1 _ ?s1 ?s2 JC.out).mono ?_); (case s1 => exact ⟨_, _, rfl, HC0_0.out, HF0_0.out⟩); (case s2 => exact ⟨_, _, rfl, HC0_1.out, HF0_1.out⟩); rintro e_ w3 ⟨v0_, v1_, mm3, rfl, hm1_, hm2_, ho0, ho1, hb⟩; refine ⟨_, rfl, ?_⟩; obtain ⟨lo3, hi3, el_, eh_, ol_, oh_⟩ := Mem.times HT.out hb; rw [← el_] at hm1_; rw [← eh_] at hm2_; rw [← el_] at ho0; obtain ⟨A3_0, c3_0, ev_, hc0_, hf0_, hs0_⟩ := new_RI2 ho0; subst ev_; rw [← eh_] at ho1; (try rw [← el_] at ho1); obtain ⟨A3_1, c3_1, ev_, hc1_, hf1_, hs1_⟩ := new_SI2 ho1; subst ev_; have n0_ := aA.mk (Kd.bE HF0_0.out hb); have n1_ := aA.mk (Kd.bE HF0_1.out hb); have n2_ := aA.mk (aV BK1.out hb); have n3_ := aA.mk (aV BK2.out hb); have n4_ := aA.mk (aU HB.out hb); have n5_ := aA.mk (hf0_); have n6_ := aA.mk (hc0_); have n7_ := aA.mk (hs0_); have n8_ := aA.mk (hf1_); have n9_ := aA.mk (hc1_); have n10_ := aA.mk (hs1_); have n11_ := aA.mk (And.intro HORD.out (And.intro ol_ (And.intro hm1_ hm2_))); have n12_ := aA.mk (Nat.le_of_eq eh_); (try clear HF0_0); (try clear HF0_1); (try clear BK1); (try clear BK2); (try clear HB); (try clear HF3_0); (try clear HC3_0); (try clear HS3_0); (try clear HF3_1); (try clear HC3_1); (try clear HS3_1); (try clear HORD); (try clear HT); have HF0_0 := n0_; have HF0_1 := n1_; have BK1 := n2_; have BK2 := n3_; have HB := n4_; have HF3_0 := n5_; have HC3_0 := n6_; have HS3_0 := n7_; have HF3_1 := n8_; have HC3_1 := n9_; have HS3_1 := n10_; have HORD := n11_; have HT := n12_; clear n0_ n1_ n2_ n3_ n4_ n5_ n6_ n7_ n8_ n9_ n10_ n11_ n12_; clear hm1_ hm2_; clear ol_ oh_ el_ eh_ ho0 hf0_ hc0_ hs0_ ho1 hf1_ hc1_ hs1_; (try clear hb); have hzgb1_0_3 : w3.cell? ⟨gb1, 0, none⟩ = some (.slice A0_0 l0_0.length c0_0) := (aE BK1.out 0).trans rfl; have hygb1_0_3 := aD BK1.out 0; have hzgb1_1_3 : w3.cell? ⟨gb1, 1, none⟩ = some (.slice A0_1 l0_1.length c0_1) := (aE BK1.out 1).trans rfl; have hygb1_1_3 := aD BK1.out 1; have hzgb2_0_3 : w3.cell? ⟨gb2, 0, none⟩ = some (.slice none 0 0) := (aE BK2.out 0).trans rfl; have hygb2_0_3 := aD BK2.out 0; have hzgb2_1_3 : w3.cell? ⟨gb2, 1, none⟩ = some (.slice none 0 0) := (aE BK2.out 1).trans rfl; have hygb2_1_3 := aD BK2.out 1) | ((with_reducible refine aW (N := 5) rfl ?_); refine aX ?hg (N := 5) ?hd (cs := #[.slice none 0 0, .slice none 0 0]) (t := 29) ?hr ?_; (case hd => rfl); (case hg => rfl); (case hr => first | (go_simp; done) | (go_simp; rfl)); intro gb4 hg_ w4 hbox hb; have hge_ : hi3 ≤ gb4 := (by rw [hg_]; exact HT.out); have hlt_ : gb4 + 1 ≤ w4.heap.size := bF hbox; have n0_ := aA.mk (Kd.bE HF0_0.out hb); have n1_ := aA.mk (Kd.bE HF0_1.out hb); have n2_ := aA.mk (Kd.bE HF3_0.out hb); have n3_ := aA.mk (Kd.bU HS3_0.out hb); have n4_ := aA.mk (Kd.bE HF3_1.out hb); have n5_ := aA.mk (Kd.S_below HS3_1.out hb); have n6_ := aA.mk (aV BK1.out hb); have n7_ := aA.mk (aV BK2.out hb); have n8_ := aA.mk (aU HB.out hb); have n9_ := aA.mk (hbox); have n10_ := aA.mk (And.intro HORD.out (And.intro hge_ (Nat.le_succ gb4))); have n11_ := aA.mk (hlt_); (try clear HF0_0); (try clear HF0_1); (try clear HF3_0); (try clear HS3_0); (try clear HF3_1); (try clear HS3_1); (try clear BK1); (try clear BK2); (try clear HB); (try clear BK4); (try clear HORD); (try clear HT); have HF0_0 := n0_; have HF0_1 := n1_; have HF3_0 := n2_; have HS3_0 := n3_; have HF3_1 := n4_; have HS3_1 := n5_; have BK1 := n6_; have BK2 := n7_; have HB := n8_; have BK4 := n9_; have HORD := n10_; have HT := n11_; clear n0_ n1_ n2_ n3_ n4_ n5_ n6_ n7_ n8_ n9_ n10_ n11_; clear hb hbox hg_ hge_ hlt_; have hzgb1_0_4 : w4.cell? ⟨gb1, 0, none⟩ = some (.slice A0_0 l0_0.length c0_0) := (aE BK1.out 0).trans rfl; have hygb1_0_4 := aD BK1.out 0; have hzgb1_1_4 : w4.cell? ⟨gb1, 1, none⟩ = some (.slice A0_1 l0_1.length c0_1) := (aE BK1.out 1).trans rfl; have hygb1_1_4 := aD BK1.out 1; have hzgb2_0_4 : w4.cell? ⟨gb2, 0, none⟩ = some (.slice none 0 0) := (aE BK2.out 0).trans rfl; have hygb2_0_4 := aD BK2.out 0; have hzgb2_1_4 : w4.cell? ⟨gb2, 1, none⟩ = some (.slice none 0 0) := (aE BK2.out 1).trans rfl; have hygb2_1_4 := aD BK2.out 1; have hzgb4_0_4 : w4.cell? ⟨gb4, 0, none⟩ = some (.slice none 0 0) := (aE BK4.out 0).trans rfl; have hygb4_0_4 := aD BK4.out 0; have hzgb4_1_4 : w4.cell? ⟨gb4, 1, none⟩ = some (.slice none 0 0) := (aE BK4.out 1).trans rfl; have hygb4_1_4 := aD BK4.out 1) | ((with_reducible refine gate_store (t := 29) (p := 5) rfl ?_); refine store_event (t := 29) (p := 5) (v := ?vo_w5) (w1 := ((w4.setCell ⟨gb4, 0, none⟩ (.slice A3_0 l0_0.length c3_0)).setCell ⟨gb4, 1, none⟩ (.slice A3_1 l0_1.length c3_1))) ?hg ?ho ?hn ?hr ?_; (case ho => rfl); (case hg => rfl); (case hn => rfl); (case hr => first | (go_simp; done) | (go_simp; rfl)); intro w5 hw_; have hkp : Kept w4 w5 (fun k_ => k_ = gb4) := (by rw [hw_]; exact Kept.setCell (Kept.setCell (Kept.refl w4 (fun k_ => k_ = gb4)) (.inl rfl) (.slice A3_0 l0_0.length c3_0)) (.inl rfl) (.slice A3_1 l0_1.length c3_1)); have hge_ : w.heap.size ≤ gb4 := (by have o_ := HORD.out; (try unfold In at *); (try show _ ≠ _); omega); have hbn_ : Below w.heap.size w w5 := (by rw [hw_]; exact aJ (aJ (HB.out) hge_) hge_); have hbk_ : w5.heap[gb4]? = some (.cells #[.slice A3_0 l0_0.length c3_0, .slice A3_1 l0_1.length c3_1] 29 (0, 0)) := (by rw [hw_]; exact bG (cs := #[.slice A3_0 l0_0.length c3_0, .slice none 0 0]) (cs' := #[.slice A3_0 l0_0.length c3_0, .slice A3_1 l0_1.length c3_1]) (bG (cs := #[.slice none 0 0, .slice none 0 0]) (cs' := #[.slice A3_0 l0_0.length c3_0, .slice none 0 0]) (BK4.out) 0 _ rfl) 1 _ rfl); have hsz_ : (gb4 + 1) ≤ w5.heap.size := Nat.le_trans HT.out hkp.1; have n0_ := aA.mk (Kd.bT HF0_0.out hkp (fun k_ h1_ h2_ => by have o_ := HORD.out; have t_ := HT.out; (try simp only [In2, Up, In, Ex, Exb] at h1_ h2_); omega)); have n1_ := aA.mk (Kd.bT HF0_1.out hkp (fun k_ h1_ h2_ => by have o_ := HORD.out; have t_ := HT.out; (try simp only [In2, Up, In, Ex, Exb] at h1_ h2_); omega)); have n2_ := aA.mk (Kd.bT HF3_0.out hkp (fun k_ h1_ h2_ => by have o_ := HORD.out; have t_ := HT.out; (try simp only [In2, Up, In, Ex, Exb] at h1_ h2_); omega)); have n3_ := aA.mk (Kd.R_kept HS3_0.out hkp (fun k_ h1_ h2_ => by have o_ := HORD.out; have t_ := HT.out; (try simp only [In2, Up, In, Ex, Exb] at h1_ h2_); omega)); have n4_ := aA.mk (Kd.bT HF3_1.out hkp (fun k_ h1_ h2_ => by have o_ := HORD.out; have t_ := HT.out; (try simp only [In2, Up, In, Ex, Exb] at h1_ h2_); omega)); have n5_ := aA.mk (Kd.S_kept HS3_1.out hkp (fun k_ h1_ h2_ => by have o_ := HORD.out; have t_ := HT.out; (try simp only [In2, Up, In, Ex, Exb] at h1_ h2_); omega)); have n6_ := aA.mk (bV BK1.out hkp (fun h2_ => by have o_ := HORD.out; have t_ := HT.out; (try simp only [In2, Up, In, Ex, Exb] at h2_); omega)); have n7_ := aA.mk (bV BK2.out hkp (fun h2_ => by have o_ := HORD.out; have t_ := HT.out; (try simp only [In2, Up, In, Ex, Exb] at h2_); omega)); have n8_ := aA.mk (hbn_); have n9_ := aA.mk (hbk_); have n10_ := aA.mk (hsz_); (try clear HF0_0); (try clear HF0_1); (try clear HF3_0); (try clear HS3_0); (try clear HF3_1); (try clear HS3_1); (try clear BK1); (try clear BK2); (try clear HB); (try clear BK4); (try clear HT); have HF0_0 := n0_; have HF0_1 := n1_; have HF3_0 := n2_; have HS3_0 := n3_; have HF3_1 := n4_; have HS3_1 := n5_; have BK1 := n6_; have BK2 := n7_; have HB := n8_; have BK4 := n9_; have HT := n10_; clear n0_ n1_ n2_ n3_ n4_ n5_ n6_ n7_ n8_ n9_ n10_; clear hw_ hkp hge_ hbn_ hbk_ hsz_; have hzgb1_0_5 : w5.cell? ⟨gb1, 0, none⟩ = some (.slice A0_0 l0_0.length c0_0) := (aE BK1.out 0).trans rfl; have hygb1_0_5 := aD BK1.out 0; have hzgb1_1_5 : w5.cell? ⟨gb1, 1, none⟩ = some (.slice A0_1 l0_1.length c0_1) := (aE BK1.out 1).trans rfl; have hygb1_1_5 := aD BK1.out 1; have hzgb2_0_5 : w5.cell? ⟨gb2, 0, none⟩ = some (.slice none 0 0) := (aE BK2.out 0).trans rfl; have hygb2_0_5 := aD BK2.out 0; have hzgb2_1_5 : w5.cell? ⟨gb2, 1, none⟩ = some (.slice none 0 0) := (aE BK2.out 1).trans rfl; have hygb2_1_5 := aD BK2.out 1; have hzgb4_0_5 : w5.cell? ⟨gb4, 0, none⟩ = some (.slice A3_0 l0_0.length c3_0) := (aE BK4.out 0).trans rfl; have hygb4_0_5 := aD BK4.out 0; have hzgb4_1_5 : w5.cell? ⟨gb4, 1, none⟩ = some (.slice A3_1 l0_1.length c3_1) := (aE BK4.out 1).trans rfl; have hygb4_1_5 := aD BK4.out 1) | ((with_reducible refine bB (f := 32) rfl ?_); refine bP (some 13) rfl rfl Try.func32 (by kernel_rfl) rfl #[.int .i64 a1, .int .i64 0, .int .i64 ((wrap64 ((l0_1.length : Int) - 1)))] rfl (by (try simp only [List.map_toArray, List.map_cons, List.map_nil]); first | done | rfl | (simp only [List.length_drop, List.length_take]; rfl)) ?_; (with_reducible refine (impl_within.calls a1 0 ((wrap64 ((l0_1.length : Int) - 1))) true _ JW.out).mono ?_); rintro e_ w6 ⟨rfl, hd⟩; refine ⟨_, rfl, ?_⟩; have hb := hd.below; clear hd; have n0_ := aA.mk (Kd.bE HF0_0.out hb); have n1_ := aA.mk (Kd.bE HF0_1.out hb); have n2_ := aA.mk (Kd.bE HF3_0.out hb); have n3_ := aA.mk (Kd.bU HS3_0.out hb); have n4_ := aA.mk (Kd.bE HF3_1.out hb); have n5_ := aA.mk (Kd.S_below HS3_1.out hb); have n6_ := aA.mk (aV BK1.out hb); have n7_ := aA.mk (aV BK2.out hb); have n8_ := aA.mk (aV BK4.out hb); have n9_ := aA.mk (aU HB.out hb); have n10_ := aA.mk (Nat.le_trans HT.out hb.size); (try clear HF0_0); (try clear HF0_1); (try clear HF3_0); (try clear HS3_0); (try clear HF3_1); (try clear HS3_1); (try clear BK1); (try clear BK2); (try clear BK4); (try clear HB); (try clear HT); have HF0_0 := n0_; have HF0_1 := n1_; have HF3_0 := n2_; have HS3_0 := n3_; have HF3_1 := n4_; have HS3_1 := n5_; have BK1 := n6_; have BK2 := n7_; have BK4 := n8_; have HB := n9_; have HT := n10_; clear n0_ n1_ n2_ n3_ n4_ n5_ n6_ n7_ n8_ n9_ n10_; (try clear hb); have hzgb1_0_6 : w6.cell? ⟨gb1, 0, none⟩ = some (.slice A0_0 l0_0.length c0_0) := (aE BK1.out 0).trans rfl; have hygb1_0_6 := aD BK1.out 0; have hzgb1_1_6 : w6.cell? ⟨gb1, 1, none⟩ = some (.slice A0_1 l0_1.length c0_1) := (aE BK1.out 1).trans rfl; have hygb1_1_6 := aD BK1.out 1; have hzgb2_0_6 : w6.cell? ⟨gb2, 0, none⟩ = some (.slice none 0 0) := (aE BK2.out 0).trans rfl; have hygb2_0_6 := aD BK2.out 0; have hzgb2_1_6 : w6.cell? ⟨gb2, 1, none⟩ = some (.slice none 0 0) := (aE BK2.out 1).trans rfl; have hygb2_1_6 := aD BK2.out 1; have hzgb4_0_6 : w6.cell? ⟨gb4, 0, none⟩ = some (.slice A3_0 l0_0.length c3_0) := (aE BK4.out 0).trans rfl; have hygb4_0_6 := aD BK4.out 0; have hzgb4_1_6 : w6.cell? ⟨gb4, 1, none⟩ = some (.slice A3_1 l0_1.length c3_1) := (aE BK4.out 1).trans rfl; have hygb4_1_6 := aD BK4.out 1))
 obtain ⟨ad7, Ae7, ce7, ee7, hx7_0, hl7, hf7⟩ := F_nd HF0_1.out a1 hb0 hb1
 cases ee7
 have HF7 := aA.mk hf7
 have HC7 := aA.mk hl7
 clear hf7 hl7
 have HX7 := aA.mk hx7_0
 have n_ := aA.mk (Kd.F_drew HF0_0.out)
 clear HF0_0
 have HF0_0 := n_
 clear n_
 have n_ := aA.mk (Kd.F_drew HF0_1.out)
 clear HF0_1
 have HF0_1 := n_
 clear n_
 have n_ := aA.mk (Kd.F_drew HF3_0.out)
 clear HF3_0
 have HF3_0 := n_
 clear n_
 have n_ := aA.mk (Kd.bA HS3_0.out)
 clear HS3_0
 have HS3_0 := n_
 clear n_
 have n_ := aA.mk (Kd.F_drew HF3_1.out)
 clear HF3_1
 have HF3_1 := n_
 clear n_
 have n_ := aA.mk (Kd.S_drew HS3_1.out)
 clear HS3_1
 have HS3_1 := n_
 clear n_
 have n_ := aA.mk (Kd.F_drew HF7.out)
 clear HF7
 have HF7 := n_
 clear n_
 have n_ := aA.mk (aQ BK1.out)
 clear BK1
 have BK1 := n_
 clear n_
 have n_ := aA.mk (aQ BK2.out)
 clear BK2
 have BK2 := n_
 clear n_
 have n_ := aA.mk (aQ BK4.out)
 clear BK4
 have BK4 := n_
 clear n_
 have n_ := aA.mk (aG HB.out)
 clear HB
 have HB := n_
 clear n_
 have n_ := aA.mk (show _ ≤ w6.drew.heap.size from HT.out)
 clear HT
 have HT := n_
 clear n_
 have n_ := aA.mk (show w6.drew.cell? (ad7.add a1.toNat) = some (.slice Ae7 ((rdN l0_1 a1).f0).length ce7) from HX7.out)
 clear HX7
 have HX7 := n_
 clear n_
 refine start_ (n := 11) (S := fun w' => w'.cell? ⟨gb4, 0, none⟩ = some (.slice A3_0 l0_0.length c3_0) ∧ w'.cell? ⟨gb4, 1, none⟩ = some (.slice A3_1 l0_1.length c3_1) ∧ w'.cell? ⟨gb1, 0, none⟩ = some (.slice A0_0 l0_0.length c0_0) ∧ w'.cell? ⟨gb1, 1, none⟩ = some (.slice (some ad7) l0_1.length c0_1) ∧ w'.cell? (ad7.add a1.toNat) = some (.slice Ae7 ((rdN l0_1 a1).f0).length ce7)) (ds := [10]) #[false, false, false, false, false, false, false, false, false, false, false] (by kernel_rfl) rfl rfl ⟨(aE BK4.out 0).trans rfl, (aE BK4.out 1).trans rfl, (aE BK1.out 0).trans rfl, (aE BK1.out 1).trans rfl, HX7.out⟩ (fun hHeld => ?_)
 generalize w6.drew = w8 at HF0_0 HF0_1 HF3_0 HS3_0 HF3_1 HS3_1 HF7 BK1 BK2 BK4 HB HT HX7 hHeld ⊢
 refine bL (i := 0) (N := some 14) (v := ?_) (a' := ?_) #[true, false, false, false, false, false, false, false, false, false, false] rfl rfl (by kernel_rfl) (fun _ _ _ h => h) (Or.inl ⟨by rfl, ?_⟩) ?_ ?_
 rotate_left
 ·intro w'
  go_simp
  with_reducible rfl
 rotate_left
 ·simp only [Act.put, lA, lB, lC, bD, bC]
  rfl
 refine take_ (i := 1) (N := some 15) (v := ?_) (a' := ?_) #[true, true, false, false, false, false, false, false, false, false, false] rfl rfl (by kernel_rfl) (fun _ _ _ h => h) (Or.inl ⟨by rfl, ?_⟩) hHeld ?_ ?_
 rotate_left
 ·rintro w' ⟨s0, s1, s2, s3, s4⟩
  go_simp
  with_reducible rfl
 rotate_left
 ·simp only [Act.put, lA, lB, lC, bD, bC]
  rfl
 refine bL (i := 2) (N := some 16) (v := ?_) (a' := ?_) #[true, true, true, false, false, false, false, false, false, false, false] rfl rfl (by kernel_rfl) (fun _ _ _ h => h) (Or.inl ⟨by rfl, ?_⟩) ?_ ?_
 rotate_left
 ·intro w'
  go_simp
  with_reducible rfl
 rotate_left
 ·simp only [Act.put, lA, lB, lC, bD, bC]
  rfl
 refine bL (i := 3) (N := some 17) (v := ?_) (a' := ?_) #[true, true, true, true, false, false, false, false, false, false, false] rfl rfl (by kernel_rfl) (fun _ _ _ h => h) (Or.inl ⟨by rfl, ?_⟩) ?_ ?_
 rotate_left
 ·intro w'
  go_simp
  with_reducible rfl
 rotate_left
 ·simp only [Act.put, lA, lB, lC, bD, bC]
  rfl
 refine take_ (i := 4) (N := some 18) (v := ?_) (a' := ?_) #[true, true, true, true, true, false, false, false, false, false, false] rfl rfl (by kernel_rfl) (fun _ _ _ h => h) (Or.inl ⟨by rfl, ?_⟩) hHeld ?_ ?_
 rotate_left
 ·rintro w' ⟨s0, s1, s2, s3, s4⟩
  go_simp
  with_reducible rfl
 rotate_left
 ·simp only [Act.put, lA, lB, lC, bD, bC]
  rfl
 refine bL (i := 5) (N := some 19) (v := ?_) (a' := ?_) #[true, true, true, true, true, true, false, false, false, false, false] rfl rfl (by kernel_rfl) (fun _ _ _ h => h) (Or.inl ⟨by rfl, ?_⟩) ?_ ?_
 rotate_left
 ·intro w'
  go_simp
  with_reducible rfl
 rotate_left
 ·simp only [Act.put, lA, lB, lC, bD, bC]
  rfl
 refine bL (i := 6) (N := some 20) (v := ?_) (a' := ?_) #[true, true, true, true, true, true, true, false, false, false, false] rfl rfl (by kernel_rfl) (fun _ _ _ h => h) (Or.inl ⟨by rfl, ?_⟩) ?_ ?_
 rotate_left
 ·intro w'
  go_simp
  with_reducible rfl
 rotate_left
 ·simp only [Act.put, lA, lB, lC, bD, bC]
  rfl
 refine take_ (i := 7) (N := some 21) (v := ?_) (a' := ?_) #[true, true, true, true, true, true, true, true, false, false, false] rfl rfl (by kernel_rfl) (fun _ _ _ h => h) (Or.inl ⟨by rfl, ?_⟩) hHeld ?_ ?_
 rotate_left
 ·rintro w' ⟨s0, s1, s2, s3, s4⟩
  go_simp
  with_reducible rfl
 rotate_left
 ·simp only [Act.put, lA, lB, lC, bD, bC]
  rfl
 refine one_ (i := 8) (N := some 22) #[true, true, true, true, true, true, true, true, true, false, false] rfl rfl (by kernel_rfl) (by decide) (fun K hK => ?_)
 refine goes_ Try.func33 (by kernel_rfl) rfl #[.agg #[.slice Ae7 ((rdN l0_1 a1).f0).length ce7]] (by rfl) rfl rfl (by (try simp only [List.map_toArray, List.map_cons, List.map_nil]); first | done | rfl | (simp only [List.length_drop, List.length_take]; rfl)) ?_
 (with_reducible refine (impl_NodePack.calls kp _ _ ((rdN l0_1 a1).f0) pk _ ?s1 ?s2 JP.out).mono ?_)
 (case s1 => exact (Kd.F_now HF7.out))
 (case s2 => exact HC7.out)
 rintro e_ w9 ⟨v0_, rfl, ho0, hb⟩
 refine ⟨_, rfl, ?_⟩
 obtain ⟨lo9, hi9, el_, eh_, ol_, oh_⟩ := Mem.times HT.out hb
 (try rw [← el_] at ho0)
 obtain ⟨A9_0, c9_0, ev_, hc0_, hf0_, hs0_⟩ := Mem.new_S ho0 eh_
 subst ev_
 have n0_ := aA.mk (Kd.bE HF0_0.out hb)
 have n1_ := aA.mk (Kd.bE HF0_1.out hb)
 have n2_ := aA.mk (Kd.bE HF3_0.out hb)
 have n3_ := aA.mk (Kd.bU HS3_0.out hb)
 have n4_ := aA.mk (Kd.bE HF3_1.out hb)
 have n5_ := aA.mk (Kd.S_below HS3_1.out hb)
 have n6_ := aA.mk (Kd.bE HF7.out hb)
 have n7_ := aA.mk (pw_cell_below hb HX7.out)
 have n8_ := aA.mk (aV BK1.out hb)
 have n9_ := aA.mk (aV BK2.out hb)
 have n10_ := aA.mk (aV BK4.out hb)
 have n11_ := aA.mk (aU HB.out hb)
 have n12_ := aA.mk (hf0_)
 have n13_ := aA.mk (hc0_)
 have n14_ := aA.mk (hs0_)
 have n15_ := aA.mk (And.intro HORD.out (And.intro ol_ oh_))
 have n16_ := aA.mk (Nat.le_of_eq eh_)
 (try clear HF0_0)
 (try clear HF0_1)
 (try clear HF3_0)
 (try clear HS3_0)
 (try clear HF3_1)
 (try clear HS3_1)
 (try clear HF7)
 (try clear HX7)
 (try clear BK1)
 (try clear BK2)
 (try clear BK4)
 (try clear HB)
 (try clear HF9_0)
 (try clear HC9_0)
 (try clear HS9_0)
 (try clear HORD)
 (try clear HT)
 have HF0_0 := n0_
 have HF0_1 := n1_
 have HF3_0 := n2_
 have HS3_0 := n3_
 have HF3_1 := n4_
 have HS3_1 := n5_
 have HF7 := n6_
 have HX7 := n7_
 have BK1 := n8_
 have BK2 := n9_
 have BK4 := n10_
 have HB := n11_
 have HF9_0 := n12_
 have HC9_0 := n13_
 have HS9_0 := n14_
 have HORD := n15_
 have HT := n16_
 clear n0_ n1_ n2_ n3_ n4_ n5_ n6_ n7_ n8_ n9_ n10_ n11_ n12_ n13_ n14_ n15_ n16_
 clear ol_ oh_ el_ eh_ ho0 hf0_ hc0_ hs0_
 (try clear hb)
 refine hK.out _ _ ⟨(aE BK4.out 0).trans rfl, (aE BK4.out 1).trans rfl, (aE BK1.out 0).trans rfl, (aE BK1.out 1).trans rfl, HX7.out⟩ (fun hHeld => ?_)
 clear hK K
 refine norm_ (a' := ?_) ?_ ?_
 rotate_left
 ·show Act.put _ (some 22) _ = _
  simp only [Act.put, lA, lB, lC, bD, bC]
  rfl
 have pI10 : 0 ≤ a1 := hb0
 have qI10 : a1 < ((l0_1).length : Int) := hb1
 obtain ⟨go10, co10, eo_, gb_, gl_, GG_⟩ := Kd.S_form HS3_1.out (by omega)
 injection eo_ with ea_ en_ ec_
 subst ea_
 subst ec_
 clear en_ GG_ gl_
 have GO10 := aA.mk ((Kd.S_R HS3_1.out).1 go10 rfl)
 have GB10 := aA.mk gb_
 clear gb_
 obtain ⟨ok_, ce_, hcl_, hM_, hcc_, hfr_, _, _⟩ := Kd.S_elem HS3_1.out z59 a1 pI10 qI10
 obtain ⟨ua_, rfl, _⟩ := hM_
 have hx10 := hcc_ 0 _ rfl
 have hf10 := hfr_ 0
 (try simp only [show k59D.sz = 1 from rfl, Nat.mul_one, Nat.add_zero] at hx10)
 (try simp only [show k59D.sz = 1 from rfl, Nat.mul_one, Nat.add_zero] at hf10)
 clear hcl_ hcc_ hfr_
 have PI10 := aA.mk pI10
 have QI10 := aA.mk qI10
 replace pI10 := eq_true pI10
 replace qI10 := eq_true qI10
 refine bL (i := 9) (N := some 23) (v := ?_) (a' := ?_) #[true, true, true, true, true, true, true, true, true, true, false] rfl rfl (by kernel_rfl) (fun _ _ _ h => h) (Or.inl ⟨by rfl, ?_⟩) ?_ ?_
 rotate_left
 ·intro w'
  go_simp
  with_reducible rfl
 rotate_left
 ·simp only [Act.put, lA, lB, lC, bD, bC]
  rfl
 refine last_ (i := 10) (N := none) #[true, true, true, true, true, true, true, true, true, true, true] rfl rfl (by kernel_rfl) (by decide) (fun K hK => ?_)
 obtain ⟨ok_, ce_, hcl_, hM_, hcc_, hfr_, hoki_, hH_⟩ := Kd.S_elem (Kd.S_mono (ok' := fun k_ => (Up mm3 hi3 lo9) k_ ∧ ¬ (In lo9 hi9) k_) (Kd.S_lower HS3_1.out (by have o_ := HORD.out; omega)) (fun k_ hk_ => ⟨(by have o_ := HORD.out; have t_ := HT.out; (try simp only [In2, Up, In, Ex, Exb] at hk_ ⊢); omega), fun h2_ => by have o_ := HORD.out; have t_ := HT.out; (try simp only [In2, Up, In, Ex, Exb] at hk_ h2_); omega⟩) : Kd.S k59D 59 w9 w.heap.size _ (.slice (some ⟨go10, 0, none⟩) l0_1.length c3_1) l0_1) z59 a1 PI10.out QI10.out
 obtain ⟨ua_, rfl, _⟩ := hM_
 have hp_ := (Kd.S_seg hH_ PI10.out QI10.out (seg := [.slice A9_0 pk.length c9_0]) (j := 0) (okp := (In lo9 hi9)) (show 0 + 1 ≤ 1 by decide) (x' := ((⟨pk⟩ : S59))) ⟨_, rfl, Kd.S_lower HS9_0.out (by have o_ := HORD.out; omega)⟩ (fun k_ hk_ => .inr hk_) (fun k_ hk_ => ⟨(by have o_ := HORD.out; have t_ := HT.out; (try simp only [In2, Up, In, Ex, Exb] at hk_ ⊢); omega), by have g_ := GO10.out; have o_ := HORD.out; have t_ := HT.out; (try simp only [In2, Up, In, Ex, Exb] at hk_ g_); omega⟩)).1
 (try simp only [show k59D.sz = 1 from rfl, Nat.mul_one, Nat.add_zero] at hp_)
 have HP_ := aA.mk (show Kd.S k59D 59 (w9.setCell ⟨go10, a1.toNat, none⟩ (.slice A9_0 pk.length c9_0)) w.heap.size (Up mm3 hi3 lo9) (.slice (some ⟨go10, 0, none⟩) l0_1.length c3_1) (l0_1.set a1.toNat ((⟨pk⟩ : S59))) from hp_)
 clear hp_ hH_ hoki_ hfr_ hcc_ hcl_
 refine skip_ (w1 := ?_) (by rfl) rfl ?_ ?_
 rotate_left
 ·go_simp
  rfl
 refine hK.out _ _ ?_
 clear hK K
 refine done_ (by kernel_rfl) ?_
 obtain ⟨w11, hw_⟩ : ∃ z_, z_ = (w9.setCell ⟨go10, a1.toNat, none⟩ (.slice A9_0 pk.length c9_0)) := ⟨_, rfl⟩
 (try rw [← hw_])
 have hs0_ := HP_.out
 clear HP_
 rw [← hw_] at hs0_
 obtain ⟨ys11, ey_⟩ : ∃ y_, y_ = l0_1.set a1.toNat ((⟨pk⟩ : S59)) := ⟨_, rfl⟩
 rw [← ey_] at hs0_
 have hle_ : ys11.length = (l0_1).length := by rw [ey_, List.length_set]
 have HY11 := aA.mk ey_
 clear ey_
 rw [← hle_] at hs0_
 have hkp : Kept w9 w11 (In mm3 hi3) := (by rw [hw_]; exact Kept.setCell (Kept.refl w9 (In mm3 hi3)) (.inl GO10.out) (.slice A9_0 pk.length c9_0))
 have hbn_ : Below w.heap.size w w11 := (by rw [hw_]; exact aJ HB.out (Nat.le_trans (by have o_ := HORD.out; omega) GB10.out))
 obtain ⟨hi11, e2_⟩ : ∃ n_, n_ = w11.heap.size := ⟨_, rfl⟩
 have ol_ : hi9 ≤ hi11 := (by rw [e2_]; exact Nat.le_trans HT.out hkp.1)
 have hs_ := Kd.S_mono (ok' := In2 mm3 hi3 lo9 hi11) (Kd.S_bound hs0_) (fun k_ hk_ => by have h1_ := hk_.1; have h2_ := hk_.2.2.1; rw [← e2_] at h2_; (try simp only [In2, Up, In, Ex, Exb] at h1_ ⊢); omega)
 have HL11 := aA.mk hle_
 have n0_ := aA.mk (Kd.bT HF0_0.out hkp (fun k_ h1_ h2_ => by have o_ := HORD.out; have t_ := HT.out; (try simp only [In2, Up, In, Ex, Exb] at h1_ h2_); omega))
 have n1_ := aA.mk (Kd.bT HF0_1.out hkp (fun k_ h1_ h2_ => by have o_ := HORD.out; have t_ := HT.out; (try simp only [In2, Up, In, Ex, Exb] at h1_ h2_); omega))
 have n2_ := aA.mk (Kd.bT HF3_0.out hkp (fun k_ h1_ h2_ => by have o_ := HORD.out; have t_ := HT.out; (try simp only [In2, Up, In, Ex, Exb] at h1_ h2_); omega))
 have n3_ := aA.mk (Kd.R_kept HS3_0.out hkp (fun k_ h1_ h2_ => by have o_ := HORD.out; have t_ := HT.out; (try simp only [In2, Up, In, Ex, Exb] at h1_ h2_); omega))
 have n4_ := aA.mk (Kd.bT HF7.out hkp (fun k_ h1_ h2_ => by have o_ := HORD.out; have t_ := HT.out; (try simp only [In2, Up, In, Ex, Exb] at h1_ h2_); omega))
 have n5_ := aA.mk (bV BK1.out hkp (fun h2_ => by have o_ := HORD.out; have t_ := HT.out; (try simp only [In2, Up, In, Ex, Exb] at h2_); omega))
 have n6_ := aA.mk (bV BK2.out hkp (fun h2_ => by have o_ := HORD.out; have t_ := HT.out; (try simp only [In2, Up, In, Ex, Exb] at h2_); omega))
 have n7_ := aA.mk (bV BK4.out hkp (fun h2_ => by have o_ := HORD.out; have t_ := HT.out; (try simp only [In2, Up, In, Ex, Exb] at h2_); omega))
 have n8_ := aA.mk (hbn_)
 have n9_ := aA.mk (And.intro HORD.out ol_)
 have n10_ := aA.mk (Nat.le_of_eq e2_)
 have n11_ := aA.mk (hs_)
 have n12_ := aA.mk (Kd.S_F hs_)
 have n13_ := aA.mk ((Kd.S_reads' hs_).2.1)
 (try clear HF0_0)
 (try clear HF0_1)
 (try clear HF3_0)
 (try clear HS3_0)
 (try clear HF7)
 (try clear BK1)
 (try clear BK2)
 (try clear BK4)
 (try clear HB)
 (try clear HORD)
 (try clear HT)
 (try clear HS11)
 (try clear HF11)
 (try clear HC11)
 have HF0_0 := n0_
 have HF0_1 := n1_
 have HF3_0 := n2_
 have HS3_0 := n3_
 have HF7 := n4_
 have BK1 := n5_
 have BK2 := n6_
 have BK4 := n7_
 have HB := n8_
 have HORD := n9_
 have HT := n10_
 have HS11 := n11_
 have HF11 := n12_
 have HC11 := n13_
 clear n0_ n1_ n2_ n3_ n4_ n5_ n6_ n7_ n8_ n9_ n10_ n11_ n12_ n13_
 rw [← hle_] at BK4
 clear hle_ hs_ hs0_ hbn_ hkp ol_ e2_ hw_
 have hzgb1_0_11 : w11.cell? ⟨gb1, 0, none⟩ = some (.slice A0_0 l0_0.length c0_0) := (aE BK1.out 0).trans rfl
 have hygb1_0_11 := aD BK1.out 0
 have hzgb1_1_11 : w11.cell? ⟨gb1, 1, none⟩ = some (.slice (some ad7) l0_1.length c0_1) := (aE BK1.out 1).trans rfl
 have hygb1_1_11 := aD BK1.out 1
 have hzgb2_0_11 : w11.cell? ⟨gb2, 0, none⟩ = some (.slice none 0 0) := (aE BK2.out 0).trans rfl
 have hygb2_0_11 := aD BK2.out 0
 have hzgb2_1_11 : w11.cell? ⟨gb2, 1, none⟩ = some (.slice none 0 0) := (aE BK2.out 1).trans rfl
 have hygb2_1_11 := aD BK2.out 1
 have hzgb4_0_11 : w11.cell? ⟨gb4, 0, none⟩ = some (.slice A3_0 l0_0.length c3_0) := (aE BK4.out 0).trans rfl
 have hygb4_0_11 := aD BK4.out 0
 have hzgb4_1_11 : w11.cell? ⟨gb4, 1, none⟩ = some (.slice (some ⟨go10, 0, none⟩) ys11.length c3_1) := (aE BK4.out 1).trans rfl
 have hygb4_1_11 := aD BK4.out 1
 go_wp2_with (first | ((with_reducible refine gate_store (t := 29) (p := 4) rfl ?_); refine store_event (t := 29) (p := 4) (v := ?vo_w12) (w1 := ((w11.setCell ⟨gb2, 0, none⟩ (.slice A3_0 l0_0.length c3_0)).setCell ⟨gb2, 1, none⟩ (.slice (some ⟨go10, 0, none⟩) ys11.length c3_1))) ?hg ?ho ?hn ?hr ?_; (case ho => rfl); (case hg => rfl); (case hn => rfl); (case hr => first | (go_simp; done) | (go_simp; rfl)); intro w12 hw_; have hkp : Kept w11 w12 (fun k_ => k_ = gb2) := (by rw [hw_]; exact Kept.setCell (Kept.setCell (Kept.refl w11 (fun k_ => k_ = gb2)) (.inl rfl) (.slice A3_0 l0_0.length c3_0)) (.inl rfl) (.slice (some ⟨go10, 0, none⟩) ys11.length c3_1)); have hge_ : w.heap.size ≤ gb2 := (by have o_ := HORD.out; (try unfold In at *); (try show _ ≠ _); omega); have hbn_ : Below w.heap.size w w12 := (by rw [hw_]; exact aJ (aJ (HB.out) hge_) hge_); have hbk_ : w12.heap[gb2]? = some (.cells #[.slice A3_0 l0_0.length c3_0, .slice (some ⟨go10, 0, none⟩) ys11.length c3_1] 29 (0, 0)) := (by rw [hw_]; exact bG (cs := #[.slice A3_0 l0_0.length c3_0, .slice none 0 0]) (cs' := #[.slice A3_0 l0_0.length c3_0, .slice (some ⟨go10, 0, none⟩) ys11.length c3_1]) (bG (cs := #[.slice none 0 0, .slice none 0 0]) (cs' := #[.slice A3_0 l0_0.length c3_0, .slice none 0 0]) (BK2.out) 0 _ rfl) 1 _ rfl); have hsz_ : hi11 ≤ w12.heap.size := Nat.le_trans HT.out hkp.1; have n0_ := aA.mk (Kd.bT HF0_0.out hkp (fun k_ h1_ h2_ => by have o_ := HORD.out; have t_ := HT.out; (try simp only [In2, Up, In, Ex, Exb] at h1_ h2_); omega)); have n1_ := aA.mk (Kd.bT HF0_1.out hkp (fun k_ h1_ h2_ => by have o_ := HORD.out; have t_ := HT.out; (try simp only [In2, Up, In, Ex, Exb] at h1_ h2_); omega)); have n2_ := aA.mk (Kd.bT HF3_0.out hkp (fun k_ h1_ h2_ => by have o_ := HORD.out; have t_ := HT.out; (try simp only [In2, Up, In, Ex, Exb] at h1_ h2_); omega)); have n3_ := aA.mk (Kd.R_kept HS3_0.out hkp (fun k_ h1_ h2_ => by have o_ := HORD.out; have t_ := HT.out; (try simp only [In2, Up, In, Ex, Exb] at h1_ h2_); omega)); have n4_ := aA.mk (Kd.bT HF7.out hkp (fun k_ h1_ h2_ => by have o_ := HORD.out; have t_ := HT.out; (try simp only [In2, Up, In, Ex, Exb] at h1_ h2_); omega)); have n5_ := aA.mk (Kd.bT HF11.out hkp (fun k_ h1_ h2_ => by have o_ := HORD.out; have t_ := HT.out; (try simp only [In2, Up, In, Ex, Exb] at h1_ h2_); omega)); have n6_ := aA.mk (Kd.S_kept HS11.out hkp (fun k_ h1_ h2_ => by have o_ := HORD.out; have t_ := HT.out; (try simp only [In2, Up, In, Ex, Exb] at h1_ h2_); omega)); have n7_ := aA.mk (bV BK1.out hkp (fun h2_ => by have o_ := HORD.out; have t_ := HT.out; (try simp only [In2, Up, In, Ex, Exb] at h2_); omega)); have n8_ := aA.mk (bV BK4.out hkp (fun h2_ => by have o_ := HORD.out; have t_ := HT.out; (try simp only [In2, Up, In, Ex, Exb] at h2_); omega)); have n9_ := aA.mk (hbn_); have n10_ := aA.mk (hbk_); have n11_ := aA.mk (hsz_); (try clear HF0_0); (try clear HF0_1); (try clear HF3_0); (try clear HS3_0); (try clear HF7); (try clear HF11); (try clear HS11); (try clear BK1); (try clear BK4); (try clear HB); (try clear BK2); (try clear HT); have HF0_0 := n0_; have HF0_1 := n1_; have HF3_0 := n2_; have HS3_0 := n3_; have HF7 := n4_; have HF11 := n5_; have HS11 := n6_; have BK1 := n7_; have BK4 := n8_; have HB := n9_; have BK2 := n10_; have HT := n11_; clear n0_ n1_ n2_ n3_ n4_ n5_ n6_ n7_ n8_ n9_ n10_ n11_; clear hw_ hkp hge_ hbn_ hbk_ hsz_; have hzgb1_0_12 : w12.cell? ⟨gb1, 0, none⟩ = some (.slice A0_0 l0_0.length c0_0) := (aE BK1.out 0).trans rfl; have hygb1_0_12 := aD BK1.out 0; have hzgb1_1_12 : w12.cell? ⟨gb1, 1, none⟩ = some (.slice (some ad7) l0_1.length c0_1) := (aE BK1.out 1).trans rfl; have hygb1_1_12 := aD BK1.out 1; have hzgb2_0_12 : w12.cell? ⟨gb2, 0, none⟩ = some (.slice A3_0 l0_0.length c3_0) := (aE BK2.out 0).trans rfl; have hygb2_0_12 := aD BK2.out 0; have hzgb2_1_12 : w12.cell? ⟨gb2, 1, none⟩ = some (.slice (some ⟨go10, 0, none⟩) ys11.length c3_1) := (aE BK2.out 1).trans rfl; have hygb2_1_12 := aD BK2.out 1; have hzgb4_0_12 : w12.cell? ⟨gb4, 0, none⟩ = some (.slice A3_0 l0_0.length c3_0) := (aE BK4.out 0).trans rfl; have hygb4_0_12 := aD BK4.out 0; have hzgb4_1_12 : w12.cell? ⟨gb4, 1, none⟩ = some (.slice (some ⟨go10, 0, none⟩) ys11.length c3_1) := (aE BK4.out 1).trans rfl; have hygb4_1_12 := aD BK4.out 1))
 refine bodyPost_ret (fn := Try.f9) (P := Try.prog) (results_cell_row rfl _ _ gb2 29 #[.slice A3_0 l0_0.length c3_0, .slice (some ⟨go10, 0, none⟩) ys11.length c3_1] (0, 0) _ rfl BK2.out Try.underlying29 rfl (by kernel_rfl)) rfl ?_
 first | exact ⟨_, _, mm3, rfl, (by have o_ := HORD.out; have t_ := HT.out; omega), (by have o_ := HORD.out; have t_ := HT.out; omega), Kd.bK (Kd.R_lower HS3_0.out (by have o_ := HORD.out; have t_ := HT.out; omega)) (fun k_ hk_ => by have o_ := HORD.out; have t_ := HT.out; (try simp only [In2, Up, In] at hk_ ⊢); omega), (by rw [show _ = ys11 from (HY11.out).symm]; exact Kd.S_mono (Kd.S_lower HS11.out (by have o_ := HORD.out; have t_ := HT.out; omega)) (fun k_ hk_ => by have o_ := HORD.out; have t_ := HT.out; (try simp only [In2, Up, In] at hk_ ⊢); omega)), HB.out⟩ | exact ⟨_, _, rfl, mm3, (by have o_ := HORD.out; have t_ := HT.out; omega), (by have o_ := HORD.out; have t_ := HT.out; omega), Kd.bK (Kd.R_lower HS3_0.out (by have o_ := HORD.out; have t_ := HT.out; omega)) (fun k_ hk_ => by have o_ := HORD.out; have t_ := HT.out; (try simp only [In2, Up, In] at hk_ ⊢); omega), (by rw [show _ = ys11 from (HY11.out).symm]; exact Kd.S_mono (Kd.S_lower HS11.out (by have o_ := HORD.out; have t_ := HT.out; omega)) (fun k_ hk_ => by have o_ := HORD.out; have t_ := HT.out; (try simp only [In2, Up, In] at hk_ ⊢); omega)), HB.out⟩
def impl_TreePackS.f (_ : Nat) (l0_0 : List Int) (l0_1 : List (S59)) (a1 : Int) : Option (List Int × List (S59)) := if okTreeB l0_0 l0_1 = true then some (treePack l0_0 l0_1 a1) else none
theorem impl_TreePackS_ev (s : List Int) (l : List S59) (i : Int) (h : okIntS s) (h2 : okNodeS l) : Ev (fun k => impl_TreePackS.f k s l i) (treePack s l i) := by
 refine ⟨0, fun k _ => ?_⟩
 unfold impl_TreePackS.f okTreeB
 unfold okNodeS at h2
 unfold okIntS at h
 rw [if_pos (by simp [h, h2])]
theorem impl_TreePackS.calls (k : Nat) (P0_0_ : Nat → Prop) (A0_0 : Option Addr) (c0_0 : Nat) (l0_0 : List Int) (P0_1_ : Nat → Prop) (A0_1 : Option Addr) (c0_1 : Nat) (l0_1 : List (S59)) (a1 : Int) (r1 : List Int) (r2 : List (S59)) (w : World) (hs0_0 : Kd.V (Kd.int .i64) 3 w w.heap.size (fun k_ => P0_0_ k_) (.slice A0_0 l0_0.length c0_0) l0_0) (hs0_1 : Kd.V k59D 59 w w.heap.size (fun k_ => P0_1_ k_) (.slice A0_1 l0_1.length c0_1) l0_1) (h : impl_TreePackS.f k l0_0 l0_1 a1 = some (r1, r2)) :
  Calls Try.prog 9 #[.agg #[.slice A0_0 l0_0.length c0_0, .slice A0_1 l0_1.length c0_1], .int .i64 a1] w fun e w' => ∃ v0_ v1_ : Value, ∃ m_ : Nat, e = .returned (.agg #[v0_, v1_]) ∧ w.heap.size ≤ m_ ∧ m_ ≤ w'.heap.size ∧ Kd.R (Kd.int .i64) 3 w' w.heap.size (In w.heap.size m_) v0_ r1 ∧ Kd.S k59D 59 w' w.heap.size (In m_ w'.heap.size) v1_ r2 ∧ Below w.heap.size w w' := by
 obtain ⟨_, hc0_, hf0_⟩ := Kd.V_at hs0_0
 obtain ⟨_, hc1_, hf1_⟩ := Kd.V_at hs0_1
 replace hf0_ := Kd.F_mono (ok' := In 0 w.heap.size) (Kd.F_bound hf0_) (fun k hk => ⟨Nat.zero_le k, hk.2⟩)
 replace hf1_ := Kd.F_mono (ok' := In 0 w.heap.size) (Kd.F_bound hf1_) (fun k hk => ⟨Nat.zero_le k, hk.2⟩)
 unfold impl_TreePackS.f at h
 split at h
 ·rename_i hok
  unfold okTreeB at hok
  simp only [Bool.and_eq_true, decide_eq_true_eq] at hok
  obtain ⟨hok0, hok1⟩ := hok
  injection h with h
  have hln := okNodeS_len hok1
  have hwr : wrap64 ((l0_1.length : Int) - 1) = (l0_1.length : Int) - 1 := w64 (by omega) (by omega)
  by_cases hi : 0 ≤ a1 ∧ a1 ≤ (l0_1.length : Int) - 1
  ·obtain ⟨kp, hpk⟩ := evGet (impl_NodePack_ev (rdN l0_1 a1).f0 (getN_ok hok1 _))
   unfold treePack at h
   rw [if_pos hi] at h
   simp only [Prod.mk.injEq] at h
   obtain ⟨rfl, rfl⟩ := h
   exact walk_TreePack2 _ _ _ _ _ _ _ w hf0_ hc0_ hf1_ hc1_ hok0 hok1 (by rw [hwr]; exact decide_eq_true hi) kp _ hpk hi.1 (by omega)
  ·unfold treePack at h
   rw [if_neg hi] at h
   simp only [Prod.mk.injEq] at h
   obtain ⟨rfl, rfl⟩ := h
   exact walk_TreePack1 _ _ _ _ _ _ _ w hf0_ hc0_ hf1_ hc1_ hok0 hok1 (by rw [hwr]; exact decide_eq_false hi)
 ·cases h
end Go.Proofs.Ytamjbjkbineafaa.Law

namespace Go.Proofs.Ytamjbjkbineafaa.Law
open Go.RowKit Go.Proofs.Ytamjbjkbineafaa.PFnExactTreePack Go.Proofs.Ytamjbjkbineafaa.Core Go.Proofs.YtamjbjkbineafaaW.PrintWords Go.Proofs.YtamjbjkbineafaaW.PrintLast Go.Proofs.YtamjbjkbineafaaW.PrintMore Go.Proofs.Ytamjbjkbineafaa.Pure
set_option linter.unusedSimpArgs false
set_option linter.unusedVariables false
def laws_markKeySS.f (l0 : List (List S38)) (a1 : Int) : Option (Int × List (List S38)) := if bulkKeySS l0 ≤ 4194304 ∧ 0 ≤ a1 ∧ a1 ≤ 1000000000000 then some (a1 + cntKeySS l0, mkKeySS l0 a1) else none
theorem markKeySS_f {l : List (List S38)} {a : Int} (ho : okKeySS l) (h0 : 0 ≤ a) (h1 : a ≤ 1000000000000) : laws_markKeySS.f l a = some (a + cntKeySS l, mkKeySS l a) := if_pos ⟨ho, h0, h1⟩
set_option maxHeartbeats 4000000 in
set_option maxRecDepth 100000 in
theorem laws_markKeySS.calls (P0_ : Nat → Prop) (u9000_ : Value) (l0 : List (List S38)) (a1 : Int) (r1 : Int) (r2 : List (List S38)) (w0 w : World) (hB : Below w0.heap.size w0 w) (ho0 : Kd.S (Kd.slice 38 k38) 45 w w0.heap.size P0_ u9000_ l0) (h : laws_markKeySS.f l0 a1 = some (r1, r2)) :
  Calls Try.prog 72 #[u9000_, .int .i64 a1] w fun e w' => e = .returned (.int .i64 r1) ∧ Kd.S (Kd.slice 38 k38) 45 w' w0.heap.size (fun k_ => (P0_ k_ ∨ w.heap.size ≤ k_)) u9000_ r2 ∧ Below w0.heap.size w0 w' ∧ Kept w w' (fun k_ => P0_ k_) := by
 unfold laws_markKeySS.f at h
 split at h
 case isFalse => cases h
 case isTrue hc =>
 obtain ⟨hok, h0, h1⟩ := hc
 replace hok : okKeySS l0 := hok
 obtain ⟨ll, rfl⟩ : ∃ y, y = l0 := ⟨_, rfl⟩
 obtain ⟨a, rfl⟩ : ∃ y, y = a1 := ⟨_, rfl⟩
 obtain ⟨P, rfl⟩ : ∃ y, y = P0_ := ⟨_, rfl⟩
 obtain ⟨u, rfl⟩ : ∃ y, y = u9000_ := ⟨_, rfl⟩
 have ho := ho0
 clear ho0
 injection h with h
 injection h with hr1 hr2
 subst hr1
 subst hr2
 have HL := aA.mk (okKeySS_len hok)
 have HOK := aA.mk hok
 have HC := aA.mk (cntKeySS_nn hok)
 have HO0 := aA.mk (show Kd.S (Kd.slice 38 k38) 45 w w0.heap.size (fun k_ => P k_ ∨ w.heap.size ≤ k_) u (midL mkKeyS cntKeyS ll a 0) from by rw [midL_zero]; exact Kd.S_mono ho (fun _ hk => .inl hk))
 obtain ⟨A, c, rfl⟩ := Kd.S_slice ho
 have HK := aA.mk (Kept.refl w P)
 have HB := aA.mk hB
 have H0 := aA.mk h0
 have H1 := aA.mk h1
 clear hB ho hok h0 h1
 go_enter Try.func72, Try.ntmps72
 go_wp2
 go_loopg [1, 5] ll.length (fun kq v1 v5 w' => ∃ (x1_1 x5_1 : Int), v1 = .int .i64 x1_1 ∧ v5 = .int .i64 x5_1 ∧ aA (0 ≤ x5_1 ∧ x5_1 ≤ ll.length ∧ kq = ll.length - x5_1.toNat) ∧ aA (x1_1 = a + cntKeySS (ll.take x5_1.toNat)) ∧ aA (Kd.S (Kd.slice 38 k38) 45 w' w0.heap.size (fun k_ => P k_ ∨ w.heap.size ≤ k_) (.slice A ll.length c) (midL mkKeyS cntKeyS ll a x5_1.toNat)) ∧ aA (Kept w w' P) ∧ aA (Below w0.heap.size w0 w'))
 case atStart => exact ⟨a, 0, rfl, rfl, ⟨by omega⟩, ⟨by simp [cntKeySS, cntL]⟩, HO0, HK, HB⟩
 case round =>
  clear HO0 HK HB
  obtain ⟨x1_1, x5_1, rfl, rfl, HI, HX, HO, HK, HB⟩ := hrel
  by_cases c3 : x5_1 < (ll.length : Int)
  ·have c3b0 : decide (x5_1 < (ll.length : Int)) = true := decide_eq_true c3
   have p1 : 0 ≤ x5_1 := HI.out.1
   obtain ⟨i, hi⟩ : ∃ i : Nat, i = x5_1.toNat := ⟨_, rfl⟩
   have hil : i < ll.length := by omega
   obtain ⟨go, co, eo, gb, gl, cl, HG⟩ := Kd.S_form HO.out (by rw [midL_length mkKeyS cntKeyS ll a _ (by omega)]; omega)
   rw [midL_length mkKeyS cntKeyS ll a _ (by omega)] at eo
   cases eo
   obtain ⟨oki, v, hoki, hR, hcell, hback⟩ := Mem.lent HO.out x5_1 p1 c3 (fun k hk => .inr (Nat.le_trans HK.out.1 hk))
   rw [← hi, midL_getD mkKeyS cntKeyS [] ll a i hil] at hR
   obtain ⟨Ai, ci, rfl⟩ := Kd.R_slice hR
   have ht := cntKeySS_take ll i
   have hx := HX.out
   rw [← hi] at hx
   have hc := HC.out
   have h0 := H0.out
   have h1 := H1.out
   obtain ⟨K, hK⟩ := markKeyS_ev (ll.getD i []) x1_1 (okKeySS_at HOK.out i hil) (by omega) (by omega)
   have hcall := laws_markKeyS.calls K oki _ (ll.getD i []) x1_1 (x1_1 + cntKeyS (ll.getD i [])) (mkKeyS (ll.getD i []) x1_1) w0 wr HB.out hR (hK K (Nat.le_refl _))
   have HCALL := aA.mk hcall
   have HN := aA.mk (show cntKeySS (ll.take (i + 1)) = cntKeySS (ll.take i) + cntKeyS (ll.getD i []) from cntL_take cntKeyS [] ll i hil)
   have HS := aA.mk (midL_set mkKeyS cntKeyS [] ll a i hil)
   have HBK := aA.mk hback
   have HOKI := aA.mk hoki
   have HI' := aA.mk hi
   have HX' := aA.mk hx
   have HIL := aA.mk hil
   have HE := aA.mk (show rdOf [] ll x5_1 = ll.getD i [] by unfold rdOf; rw [hi])
   clear hK hcall hback hoki hx hc h0 h1 ht hil hR
   clear HO
   replace p1 := eq_true p1
   replace c3 := eq_true c3
   generalize ll.getD i [] = y at *
   clear hi
   go_wp2_with (first | ((with_reducible refine bB (f := 95) rfl ?_); refine bP (some 17) rfl rfl Try.func95 (by kernel_rfl) rfl #[.slice Ai y.length ci, .int .i64 x1_1] rfl (by (try simp only [List.map_toArray, List.map_cons, List.map_nil]); first | done | rfl) ?_; refine HCALL.out.mono ?_; rintro e w1 ⟨rfl, hR1, hB1, hK1⟩; refine ⟨_, rfl, ?_⟩; have n0 := aA.mk (HBK.out w1 _ hK1 hR1); have n1 := aA.mk (Kept.then_ HK.out hK1 (fun k hk => HOKI.out k hk)); clear HK HB; have HO := n0; have HK := n1; have HB := aA.mk hB1; clear n0 n1 hK1 hR1 hB1))
   go_roundg (ll.length - (x5_1.toNat + 1))
   case measure => have := HI.out; have := HIL.out; have := HI'.out; omega
   case rel =>
    have hI := HI.out
    have hi := HI'.out
    have hil := HIL.out
    have hw : wrap64 (x5_1 + 1) = x5_1 + 1 := w64 (by omega) (by have := HL.out; omega)
    have ht : (x5_1 + 1).toNat = i + 1 := by omega
    refine ⟨_, x5_1 + 1, rfl, by first | rfl | (rw [hw]) | (simp [hw]), ⟨by omega⟩, ⟨?_⟩, ⟨?_⟩, HK, HB⟩
    ·rw [ht, HN.out, HX'.out]; omega
    ·have h := HO.out
     have hS : (midL mkKeyS cntKeyS ll a i).set i (mkKeyS y (a + cntKeySS (ll.take i))) = midL mkKeyS cntKeyS ll a (i + 1) := HS.out
     rw [← HX'.out] at hS
     rw [ht, ← hS, hi]
     exact h
  ·have c3b0 : decide (x5_1 < (ll.length : Int)) = false := decide_eq_false c3
   have hI := HI.out
   have hx := HX.out
   have ho := HO.out
   have e1 : x5_1.toNat = ll.length := by omega
   rw [e1, List.take_length] at hx
   rw [e1, midL_all] at ho
   have HO' := aA.mk ho
   have HX' := aA.mk hx
   clear hI hx ho e1 c3
   go_wp2
   go_ret
   exact ⟨by rw [HX'.out]; rfl, HO'.out, HB.out, HK.out⟩
theorem lentD {g n cap base : Nat} {P : Nat → Prop} {W : World} {xs : List S59} (h : Kd.S k59D 59 W base P (.slice (some ⟨g, 0, none⟩) n cap) xs) (i : Int) (h0 : 0 ≤ i) (h1 : i < n) (hnew : ∀ k, W.heap.size ≤ k → P k) :
  ∃ (oki : Nat → Prop) (v : Value), (∀ k, oki k → P k) ∧ Kd.S (Kd.slice 38 k38) 45 W base oki v (xs.getD i.toNat z59).f0 ∧ W.cell? ⟨g, i.toNat, none⟩ = some v ∧
   ∀ (w1 : World) (x' : S59), Kept W w1 oki → Kd.S (Kd.slice 38 k38) 45 w1 base (fun k => oki k ∨ W.heap.size ≤ k) v x'.f0 → Kd.S k59D 59 w1 base P (.slice (some ⟨g, 0, none⟩) n cap) (xs.set i.toNat x') := by
 obtain ⟨oki, c, hcl, hM, hcc, hoki, hH⟩ := Kd.S_lend h z59 i h0 h1
 obtain ⟨v, rfl, hR⟩ := hM
 refine ⟨oki, v, fun k hk => (hoki k hk).1, hR, ?_, fun w1 x' hk hR' => ?_⟩
 ·have := hcc 0 v rfl
  simpa [show (k59D).sz = 1 from rfl] using this
 ·refine Kd.H_back (Kd.H_step (Kd.H_widen hH) (fun k ho hn hlt => hk.2 k hlt (fun h2 => hn (.inl h2)))) (okp := fun k => oki k ∨ W.heap.size ≤ k) ⟨v, rfl, hR'⟩ (fun k hk' => ?_)
  rcases hk' with hk' | hk'
  ·exact .inl hk'
  ·exact .inr ⟨hnew k hk', hk'⟩
def laws_markNodeS.f (l0 : List S59) (a1 : Int) : Option (Int × List S59) := if bulkNodeS l0 ≤ 4194304 ∧ 0 ≤ a1 ∧ a1 ≤ 900000000000 then some (a1 + cntNodeS l0, mkNodeS l0 a1) else none
theorem markNodeS_f {l : List S59} {a : Int} (ho : okNodeS l) (h0 : 0 ≤ a) (h1 : a ≤ 900000000000) : laws_markNodeS.f l a = some (a + cntNodeS l, mkNodeS l a) := if_pos ⟨ho, h0, h1⟩
set_option maxHeartbeats 4000000 in
set_option maxRecDepth 100000 in
theorem laws_markNodeS.calls (P0_ : Nat → Prop) (u9000_ : Value) (l0 : List S59) (a1 : Int) (r1 : Int) (r2 : List S59) (w0 w : World) (hB : Below w0.heap.size w0 w) (ho0 : Kd.S k59D 59 w w0.heap.size P0_ u9000_ l0) (h : laws_markNodeS.f l0 a1 = some (r1, r2)) :
  Calls Try.prog 37 #[u9000_, .int .i64 a1] w fun e w' => e = .returned (.int .i64 r1) ∧ Kd.S k59D 59 w' w0.heap.size (fun k_ => (P0_ k_ ∨ w.heap.size ≤ k_)) u9000_ r2 ∧ Below w0.heap.size w0 w' ∧ Kept w w' (fun k_ => P0_ k_) := by
 unfold laws_markNodeS.f at h
 split at h
 case isFalse => cases h
 case isTrue hc =>
 obtain ⟨hok, h0, h1⟩ := hc
 replace hok : okNodeS l0 := hok
 obtain ⟨ll, rfl⟩ : ∃ y, y = l0 := ⟨_, rfl⟩
 obtain ⟨a, rfl⟩ : ∃ y, y = a1 := ⟨_, rfl⟩
 obtain ⟨P, rfl⟩ : ∃ y, y = P0_ := ⟨_, rfl⟩
 obtain ⟨u, rfl⟩ : ∃ y, y = u9000_ := ⟨_, rfl⟩
 have ho := ho0
 clear ho0
 injection h with h
 injection h with hr1 hr2
 subst hr1
 subst hr2
 have HL := aA.mk (okNodeS_len hok)
 have HOK := aA.mk hok
 have HC := aA.mk (cntNodeS_nn hok)
 have HO0 := aA.mk (show Kd.S k59D 59 w w0.heap.size (fun k_ => P k_ ∨ w.heap.size ≤ k_) u (midL mkNode cntNode ll a 0) from by rw [midL_zero]; exact Kd.S_mono ho (fun _ hk => .inl hk))
 obtain ⟨A, c, rfl⟩ := Kd.S_slice ho
 have HK := aA.mk (Kept.refl w P)
 have HB := aA.mk hB
 have H0 := aA.mk h0
 have H1 := aA.mk h1
 clear hB ho hok h0 h1
 go_enter Try.func37, Try.ntmps37
 go_wp2
 go_loopg [1, 5] ll.length (fun kq v1 v5 w' => ∃ (x1_1 x5_1 : Int), v1 = .int .i64 x1_1 ∧ v5 = .int .i64 x5_1 ∧ aA (0 ≤ x5_1 ∧ x5_1 ≤ ll.length ∧ kq = ll.length - x5_1.toNat) ∧ aA (x1_1 = a + cntNodeS (ll.take x5_1.toNat)) ∧ aA (Kd.S k59D 59 w' w0.heap.size (fun k_ => P k_ ∨ w.heap.size ≤ k_) (.slice A ll.length c) (midL mkNode cntNode ll a x5_1.toNat)) ∧ aA (Kept w w' P) ∧ aA (Below w0.heap.size w0 w'))
 case atStart => exact ⟨a, 0, rfl, rfl, ⟨by omega⟩, ⟨by simp [cntNodeS, cntL]⟩, HO0, HK, HB⟩
 case round =>
  clear HO0 HK HB
  obtain ⟨x1_1, x5_1, rfl, rfl, HI, HX, HO, HK, HB⟩ := hrel
  by_cases c3 : x5_1 < (ll.length : Int)
  ·have c3b0 : decide (x5_1 < (ll.length : Int)) = true := decide_eq_true c3
   have p1 : 0 ≤ x5_1 := HI.out.1
   obtain ⟨i, hi⟩ : ∃ i : Nat, i = x5_1.toNat := ⟨_, rfl⟩
   have hil : i < ll.length := by omega
   obtain ⟨go, co, eo, gb, gl, cl, HG⟩ := Kd.S_form HO.out (by rw [midL_length mkNode cntNode ll a _ (by omega)]; omega)
   rw [midL_length mkNode cntNode ll a _ (by omega)] at eo
   cases eo
   obtain ⟨oki, v, hoki, hR, hcell, hback⟩ := lentD HO.out x5_1 p1 c3 (fun k hk => .inr (Nat.le_trans HK.out.1 hk))
   rw [← hi, midL_getD mkNode cntNode z59 ll a i hil] at hR
   obtain ⟨Ai, ci, rfl⟩ := Kd.S_slice hR
   have ht := cntNodeS_take ll i
   have hx := HX.out
   rw [← hi] at hx
   have hc := HC.out
   have h0 := H0.out
   have h1 := H1.out
   have hcall := laws_markKeySS.calls oki _ (ll.getD i z59).f0 x1_1 (x1_1 + cntKeySS (ll.getD i z59).f0) (mkKeySS (ll.getD i z59).f0 x1_1) w0 wr HB.out hR (markKeySS_f (okNodeS_at HOK.out i hil) (by omega) (by omega))
   have HCALL := aA.mk hcall
   have HN := aA.mk (show cntNodeS (ll.take (i + 1)) = cntNodeS (ll.take i) + cntNode (ll.getD i z59) from cntL_take cntNode z59 ll i hil)
   have HS := aA.mk (midL_set mkNode cntNode z59 ll a i hil)
   have HBK := aA.mk hback
   have HOKI := aA.mk hoki
   have HI' := aA.mk hi
   have HX' := aA.mk hx
   have HIL := aA.mk hil
   clear hcall hback hoki hx hc h0 h1 ht hil hR
   clear HO
   replace p1 := eq_true p1
   replace c3 := eq_true c3
   generalize ll.getD i z59 = y at *
   clear hi
   go_wp2_with (first | ((with_reducible refine bB (f := 72) rfl ?_); refine bP (some 18) rfl rfl Try.func72 (by kernel_rfl) rfl #[.slice Ai y.f0.length ci, .int .i64 x1_1] rfl (by (try simp only [List.map_toArray, List.map_cons, List.map_nil]); first | done | rfl) ?_; refine HCALL.out.mono ?_; rintro e w1 ⟨rfl, hR1, hB1, hK1⟩; refine ⟨_, rfl, ?_⟩; have n0 := aA.mk (HBK.out w1 (⟨_⟩ : S59) hK1 hR1); have n1 := aA.mk (Kept.then_ HK.out hK1 (fun k hk => HOKI.out k hk)); clear HK HB; have HO := n0; have HK := n1; have HB := aA.mk hB1; clear n0 n1 hK1 hR1 hB1))
   go_roundg (ll.length - (x5_1.toNat + 1))
   case measure => have := HI.out; have := HIL.out; have := HI'.out; omega
   case rel =>
    have hI := HI.out
    have hi := HI'.out
    have hil := HIL.out
    have hw : wrap64 (x5_1 + 1) = x5_1 + 1 := w64 (by omega) (by have := HL.out; omega)
    have ht : (x5_1 + 1).toNat = i + 1 := by omega
    refine ⟨_, x5_1 + 1, rfl, by first | rfl | (rw [hw]) | (simp [hw]), ⟨by omega⟩, ⟨?_⟩, ⟨?_⟩, HK, HB⟩
    ·rw [ht, HN.out, HX'.out]; unfold cntNode; omega
    ·have h := HO.out
     have hS : (midL mkNode cntNode ll a i).set i (mkNode y (a + cntNodeS (ll.take i))) = midL mkNode cntNode ll a (i + 1) := HS.out
     rw [← HX'.out] at hS
     rw [ht, ← hS, hi]
     exact h
  ·have c3b0 : decide (x5_1 < (ll.length : Int)) = false := decide_eq_false c3
   have hI := HI.out
   have hx := HX.out
   have ho := HO.out
   have e1 : x5_1.toNat = ll.length := by omega
   rw [e1, List.take_length] at hx
   rw [e1, midL_all] at ho
   have HO' := aA.mk ho
   have HX' := aA.mk hx
   clear hI hx ho e1 c3
   go_wp2
   go_ret
   exact ⟨by rw [HX'.out]; rfl, HO'.out, HB.out, HK.out⟩
theorem V_of_S {α : Type} {d : Kd α} {e base : Nat} {W : World} {ok : Nat → Prop} {v : Value} {xs : List α} (h : Kd.S d e W base ok v xs) : Kd.V d e W base ok v xs := by
 obtain ⟨A, c, rfl, hl, _⟩ := Kd.S_reads h
 exact ⟨A, c, rfl, hl, Kd.S_F h⟩
theorem V_of_R {α : Type} {d : Kd α} {e base : Nat} {W : World} {ok : Nat → Prop} {v : Value} {xs : List α} (h : Kd.R d e W base ok v xs) : Kd.V d e W base ok v xs := by
 obtain ⟨A, c, rfl, hl, _⟩ := Kd.R_reads h
 exact ⟨A, c, rfl, hl, Kd.R_F h⟩
theorem V_kept' {α : Type} {d : Kd α} {e base : Nat} {W W1 : World} {ok S : Nat → Prop} {v : Value} {xs : List α} (h : Kd.V d e W base ok v xs) (hk : Kept W W1 S) (hne : ∀ k, ok k → k < W.heap.size → ¬ S k) : Kd.V d e W1 base (fun k => ok k ∧ k < W.heap.size) v xs := by
 obtain ⟨A, c, rfl, hl, hf⟩ := h
 exact ⟨A, c, rfl, hl, Kd.bT (Kd.F_bound hf) hk (fun k hk => hne k hk.1 hk.2)⟩
def laws_markTree.f (l0_0 : List Int) (l0_1 : List S59) (a1 : Int) : Option (Int × List Int × List S59) := if l0_0.length ≤ 4194304 ∧ bulkNodeS l0_1 ≤ 4194304 ∧ 0 ≤ a1 ∧ a1 ≤ 800000000000 then some (a1 + (cntIntS l0_0 + cntNodeS l0_1), mkIntS l0_0 a1, mkNodeS l0_1 (a1 + cntIntS l0_0)) else none
theorem markTree_f {l : List Int} {m : List S59} {a : Int} (ho : okIntS l) (ho2 : okNodeS m) (h0 : 0 ≤ a) (h1 : a ≤ 800000000000) : laws_markTree.f l m a = some (a + (cntIntS l + cntNodeS m), mkIntS l a, mkNodeS m (a + cntIntS l)) := if_pos ⟨ho, ho2, h0, h1⟩
set_option maxHeartbeats 4000000 in
set_option maxRecDepth 100000 in
theorem laws_markTree.calls (P0_0_ P0_1_ : Nat → Prop) (u9000_ u9001_ : Value) (l0_0 : List Int) (l0_1 : List S59) (a1 : Int) (r1 : Int) (r2 : List Int) (r3 : List S59) (w0 w : World) (hB : Below w0.heap.size w0 w) (ho0_0 : Kd.R (Kd.int .i64) 3 w w0.heap.size P0_0_ u9000_ l0_0) (ho0_1 : Kd.S k59D 59 w w0.heap.size P0_1_ u9001_ l0_1) (h : laws_markTree.f l0_0 l0_1 a1 = some (r1, r2, r3)) :
  Calls Try.prog 11 #[.agg #[u9000_, u9001_], .int .i64 a1] w fun e w' => e = .returned (.int .i64 r1) ∧ Kd.V (Kd.int .i64) 3 w' w0.heap.size (fun k_ => (P0_0_ k_ ∨ P0_1_ k_) ∨ w.heap.size ≤ k_) u9000_ r2 ∧ Kd.V k59D 59 w' w0.heap.size (fun k_ => (P0_0_ k_ ∨ P0_1_ k_) ∨ w.heap.size ≤ k_) u9001_ r3 ∧ Below w0.heap.size w0 w' ∧ Kept w w' (fun k_ => P0_0_ k_ ∨ P0_1_ k_) := by
 have hu := Try.underlying29
 unfold laws_markTree.f at h
 split at h
 case isFalse => cases h
 case isTrue hcond =>
 obtain ⟨hok0, hok1, hge, hle⟩ := hcond
 replace hok0 : okIntS l0_0 := hok0
 replace hok1 : okNodeS l0_1 := hok1
 injection h with h
 simp only [Prod.mk.injEq] at h
 obtain ⟨rfl, rfl, rfl⟩ := h
 have hc0 := cntIntS_nn hok0
 obtain ⟨K, hK⟩ := markIntS_ev l0_0 a1 hok0 hge (by omega)
 have hA : laws_markIntS.f K l0_0 a1 = some (a1 + cntIntS l0_0, mkIntS l0_0 a1) := hK K (Nat.le_refl _)
 have hA2 := markNodeS_f (a := a1 + cntIntS l0_0) hok1 (by omega) (by omega)
 clear hK
 -- the blocks of the first row, by their type; the second's are none of these
 obtain ⟨P, hP⟩ : ∃ P : Nat → Prop, P = fun k => P0_0_ k ∧ k < w.heap.size ∧ ∃ cells, w.heap[k]? = some (.cells cells 3 (0, 0)) := ⟨_, rfl⟩
 obtain ⟨Q, hQ⟩ : ∃ Q : Nat → Prop, Q = fun k => P0_1_ k ∧ k < w.heap.size ∧ ¬ P k := ⟨_, rfl⟩
 have hS0 : Kd.R (Kd.int .i64) 3 w w0.heap.size P u9000_ l0_0 := Kd.bK (Kd.R_bound ho0_0) (fun k hk => by
  rw [hP]
  obtain ⟨h1, _, h2, q, hq, hc⟩ := hk
  have : q = 3 := by simpa [Kd.int, Kd.scalar] using hq
  subst this
  exact ⟨h1, h2, hc⟩)
 have hS1 : Kd.S k59D 59 w w0.heap.size Q u9001_ l0_1 := Kd.S_mono (Kd.S_bound ho0_1) (fun k hk => by
  rw [hQ]
  obtain ⟨h1, _, h2, q, hq, cells, hc⟩ := hk
  refine ⟨h1, h2, fun h3 => ?_⟩
  rw [hP] at h3
  obtain ⟨_, _, cells', hc'⟩ := h3
  rw [hc] at hc'
  injection hc' with hc'
  injection hc' with _ hc'
  subst hc'
  revert hq
  decide)
 have hPQ : ∀ k, P k → ¬ Q k := fun k h1 h2 => by rw [hQ] at h2; exact h2.2.2 h1
 have hPlt : ∀ k, P k → k < w.heap.size := fun k h1 => by rw [hP] at h1; exact h1.2.1
 have hQlt : ∀ k, Q k → k < w.heap.size := fun k h1 => by rw [hQ] at h1; exact h1.2.1
 have hP0 : ∀ k, P k → P0_0_ k := fun k h1 => by rw [hP] at h1; exact h1.1
 have hQ0 : ∀ k, Q k → P0_1_ k := fun k h1 => by rw [hQ] at h1; exact h1.1
 clear ho0_0 ho0_1
 obtain ⟨A, c, rfl⟩ := Kd.R_slice hS0
 obtain ⟨A', c', rfl⟩ := Kd.S_slice hS1
 have HS0 := aA.mk hS0
 have HS1 := aA.mk hS1
 have HPQ := aA.mk hPQ
 have HPL := aA.mk hPlt
 have HQL := aA.mk hQlt
 have HP0 := aA.mk hP0
 have HQ0 := aA.mk hQ0
 have HB := aA.mk hB
 have H1 := aA.mk hA
 have H2 := aA.mk hA2
 clear hS0 hS1 hPQ hPlt hQlt hP0 hQ0 hB hA hA2 hP hQ hok0 hok1 hge hle
 have HSUM := aA.mk (show a1 + cntIntS l0_0 + cntNodeS l0_1 = a1 + (cntIntS l0_0 + cntNodeS l0_1) by omega)
 clear hc0
 generalize mkIntS l0_0 a1 = t2 at *
 generalize hs2_ : mkNodeS l0_1 (a1 + cntIntS l0_0) = s2 at *
 clear hs2_
 generalize hs1_ : a1 + cntIntS l0_0 + cntNodeS l0_1 = s1 at *
 generalize a1 + cntIntS l0_0 = t1 at *
 clear hs1_
 go_enter Try.func11, Try.ntmps11
 go_wp2_with (first | ((with_reducible refine aW (N := 2) rfl ?_); refine aX ?hg (N := 2) ?hd (cs := #[.slice A l0_0.length c, .slice A' l0_1.length c']) (t := 29) ?hr ?_; (case hd => rfl); (case hg => rfl); (case hr => first | (go_simp; done) | (go_simp; rfl)); intro gb hg_ w1 hbox hb; have HG := aA.mk hg_; have BK := aA.mk hbox; have HBX := aA.mk hb; have hz0 : w1.cell? ⟨gb, 0, none⟩ = some (.slice A l0_0.length c) := (aE BK.out 0).trans rfl; have hz1 : w1.cell? ⟨gb, 1, none⟩ = some (.slice A' l0_1.length c') := (aE BK.out 1).trans rfl; clear hbox hb hg_) | ((with_reducible refine bB (f := 36) rfl ?_); refine bP (some 8) rfl rfl Try.func36 (by kernel_rfl) rfl #[.slice A l0_0.length c, .int .i64 a1] rfl (by (try simp only [List.map_toArray, List.map_cons, List.map_nil]); first | done | rfl) ?_; (with_reducible refine (laws_markIntS.calls K P _ l0_0 a1 t1 t2 w0 w1 ?s1 ?s2 H1.out).mono ?_); (case s1 => exact below_then HB.out HB.out.size HBX.out); (case s2 => exact Kd.bU HS0.out HBX.out); rintro e w2 ⟨rfl, hs, hb2, hk⟩; refine ⟨_, rfl, ?_⟩; have HV := aA.mk (V_of_R hs); have HB2 := aA.mk hb2; have HK := aA.mk hk; have BK2 := aA.mk (bV BK.out hk (fun h2 => by have := HPL.out _ h2; rw [HG.out] at this; omega)); clear hs hb2 hk; have hz2 : w2.cell? ⟨gb, 1, none⟩ = some (.slice A' l0_1.length c') := (aE BK2.out 1).trans rfl) | ((with_reducible refine bB (f := 37) rfl ?_); refine bP (some 12) rfl rfl Try.func37 (by kernel_rfl) rfl #[.slice A' l0_1.length c', .int .i64 t1] rfl (by (try simp only [List.map_toArray, List.map_cons, List.map_nil]); first | done | rfl) ?_; (with_reducible refine (laws_markNodeS.calls Q _ l0_1 t1 s1 s2 w0 w2 ?s3 ?s4 H2.out).mono ?_); (case s3 => exact HB2.out); (case s4 => exact Kd.S_kept (Kd.S_below HS1.out HBX.out) HK.out (fun k hk h2 => HPQ.out k h2 hk)); rintro e w3 ⟨rfl, hs, hb3, hk3⟩; refine ⟨_, rfl, ?_⟩; have HV3 := aA.mk (V_of_S hs); have HB3 := aA.mk hb3; have HK3 := aA.mk hk3; clear hs hb3 hk3))
 go_ret
 have hz := HBX.out.size
 have hk2 := HK.out.1
 obtain ⟨A3, c3, e3, l3, f3⟩ := V_kept' HV.out HK3.out (fun k h1 hlt h2 => by
  rcases h1 with h1 | h1
  ·exact HPQ.out k h1 h2
  ·have := HQL.out k h2; omega)
 obtain ⟨A4, c4, e4, l4, f4⟩ := HV3.out
 refine ⟨by rw [← HSUM.out]; rfl, ⟨A3, c3, e3, l3, Kd.F_mono f3 (fun k hk => hk.1.elim (fun h => .inl (.inl (HP0.out k h))) (fun h => .inr (Nat.le_trans hz h)))⟩, ⟨A4, c4, e4, l4, Kd.F_mono f4 (fun k hk => hk.elim (fun h => .inl (.inr (HQ0.out k h))) (fun h => .inr (by omega)))⟩, HB3.out, ?_⟩
 exact ((Kept.of_below HBX.out _).then_ HK.out (fun k hk => .inl (.inl (HP0.out k hk)))).then_ HK3.out (fun k hk => .inl (.inr (HQ0.out k hk)))
set_option maxHeartbeats 8000000 in
set_option maxRecDepth 100000 in
theorem laws_toNodeS.calls (k : Nat) (A0 : Option Addr) (c0 : Nat) (l0 : List (S87)) (r : List (S59)) (w : World) (hr0 : Kd.C k87 w A0 l0.length l0) (hc0 : l0.length ≤ c0) (h : laws_toNodeS.f k l0 = some r) :
  Calls Try.prog 30 #[.slice A0 l0.length c0] w fun e w' => ∃ v0_ : Value, e = .returned (v0_) ∧ Kd.S k59D 59 w' w.heap.size (fun _ => True) v0_ r ∧ Below w.heap.size w w' := by
 have hu87 := Try.underlying87
 have hu59 := Try.underlying59
 have HR0 := aA.mk hr0
 have HC0 := aA.mk hc0
 clear hr0 hc0
 have HB := aA.mk (Below.refl w.heap.size w)
 have H : (if 0 ≤ (l0.length : Int) then (if ((l0.length : Int) : Int).toNat ≤ 11728124029610 then (laws_toNodeS.l0 k l0 (List.replicate ((l0.length : Int) : Int).toNat z59) 0) else (none)) else (none)) = some r := h
 clear h
 by_cases c2 : 0 ≤ (l0.length : Int)
 ·rw [if_pos c2] at H
  have c2b0 := eq_true c2
  have c2b1 : decide (0 ≤ (l0.length : Int)) = true := decide_eq_true c2
  clear c2
  by_cases c3 : ((l0.length : Int) : Int).toNat ≤ 11728124029610
  ·rw [if_pos c3] at H
   have c3b0 := eq_true c3
   have c3b1 : decide (((l0.length : Int) : Int).toNat ≤ 11728124029610) = true := decide_eq_true c3
   clear c3
   obtain ⟨y261, hy261⟩ : ∃ y_ : List (S59), y_ = (List.replicate ((l0.length : Int) : Int).toNat z59) := ⟨_, rfl⟩
   replace H : (laws_toNodeS.l0 k l0 y261 0) = some r := by first | (rw [hy261]; with_reducible exact H) | (have H2_ := (Option.bind_some _ _).symm.trans H; rw [hy261]; with_reducible exact H2_) | (have H2_ := (Option.bind_some _ _).symm.trans H; with_reducible exact H2_) | with_reducible exact H | (rw [hy261]; exact H) | exact H
   have Ny261 := aA.mk hy261
   clear hy261
   have H' := aA.mk H
   clear H
   go_enter Try.func30, Try.ntmps30
   go_wp2_with (first | ((with_reducible refine aW (N := 7) rfl ?_); refine Kd.S_make k59D _ 59 rfl (N := 7) rfl 27 _ _ rfl (l0.length : Int) rfl rfl Try.underlying27 (.agg #[(.slice none 0 0)]) 24 info59 rfl (by decide) (by omega) z59 (ok := fun _ => True) (okp := fun _ => True) ⟨_, rfl, Kd.S_nil _ _ _ _ _⟩ (fun _ hk => hk) trivial (lE (by first | (with_reducible assumption) | assumption)) (Nat.le_trans (Nat.mul_le_mul_right _ (lE (by first | (with_reducible assumption) | assumption) : (l0.length : Int).toNat ≤ 11728124029610)) (by omega)) (Below.refl _ _) (Nat.le_refl _) ?_; intro v262 w4 ho5 hb hg_ hnew_; clear hg_ hnew_; (first | rw [← Ny261.out] at ho5 | (simp only [Int.reduceToNat] at ho5; rw [← Ny261.out] at ho5)); have n0_ := aA.mk (Kd.S_lower ho5 (aT (by repeat (first | (with_reducible first | exact HB.out | apply aH | apply aC | apply aG) | exact HB.out)))); have n1_ := aA.mk (aU (by repeat (first | (with_reducible first | exact HB.out | apply aH | apply aC | apply aG) | exact HB.out)) hb); clear HB; have HO263 := n0_; have HB := n1_; clear n0_ n1_; clear hb ho5))
   go_loopg [4] k (fun kq v4 w' => ∃ (x3_1 : List (S59)) (x4_1 : Int), v4 = .int .i64 x4_1 ∧ aA (laws_toNodeS.l0 kq l0 x3_1 x4_1 = some r) ∧ aA (kq ≤ k) ∧ aA (Kd.S k59D 59 w' w.heap.size (fun _ => True) v262 x3_1) ∧ aA (Below w.heap.size w w'))
   case atStart => exact ⟨(y261), (0), (by first | rfl | (simp; done) | (simp [*]; done)), H', ⟨Nat.le_refl _⟩, ⟨by (with_reducible repeat (first | apply Kd.S_alloc | apply Kd.S_drewN | apply Kd.S_drew)); exact HO263.out⟩, ⟨by repeat (first | (with_reducible first | exact HB.out | apply aH | apply aC | apply aG) | exact HB.out)⟩⟩
   case round =>
    clear H'
    try clear c2
    try clear c2b0
    try clear c2b1
    try clear p2
    try clear c3
    try clear c3b0
    try clear c3b1
    obtain ⟨x3_1, x4_1, rfl, HA, HK1, HO_3, HB⟩ := hrel
    cases gk with
    | zero => exact absurd HA.out (by simp [laws_toNodeS.l0])
    | succ k1 =>
     have H := HA.out
     clear HA
     simp only [laws_toNodeS.l0] at H
     by_cases c6 : x4_1 < (l0.length : Int)
     ·rw [if_pos c6] at H
      have c6b0 : decide (x4_1 < (l0.length : Int)) = true := decide_eq_true c6
      clear c6
      by_cases c7 : 0 ≤ x4_1
      ·rw [if_pos c7] at H
       have c7b0 : decide (0 ≤ x4_1) = true := decide_eq_true c7
       clear c7
       replace H := lF H
       obtain ⟨t265, A80, H⟩ := H
       replace H : (if x4_1 < (x3_1.length : Int) then (laws_toNodeS.l0 k1 l0 (x3_1.set (x4_1 : Int).toNat (⟨t265⟩ : S59)) (wrap64 (x4_1 + 1))) else (none)) = some r := H
       have A8 := aA.mk A80
       clear A80
       by_cases c9 : x4_1 < (x3_1.length : Int)
       ·rw [if_pos c9] at H
        have c9b0 : decide (x4_1 < (x3_1.length : Int)) = true := decide_eq_true c9
        clear c9
        obtain ⟨y268, hy268⟩ : ∃ y_ : List (S59), y_ = (x3_1.set (x4_1 : Int).toNat (⟨t265⟩ : S59)) := ⟨_, rfl⟩
        replace H : (laws_toNodeS.l0 k1 l0 y268 (wrap64 (x4_1 + 1))) = some r := by first | (rw [hy268]; with_reducible exact H) | (have H2_ := (Option.bind_some _ _).symm.trans H; rw [hy268]; with_reducible exact H2_) | (have H2_ := (Option.bind_some _ _).symm.trans H; with_reducible exact H2_) | with_reducible exact H | (rw [hy268]; exact H) | exact H
        have Ny268 := aA.mk hy268
        clear hy268
        have H' := aA.mk H
        clear H
        have p264 : 0 ≤ (x4_1 : Int) := lE (by first | (with_reducible assumption) | assumption)
        have q264 : x4_1 < (l0.length : Int) := lE (by first | (with_reducible assumption) | assumption)
        obtain ⟨ad264, A264_0, c264_0, e264, hx264_0, hl264_0, hi264_0⟩ := at_T87 HR0.out x4_1 p264 q264
        cases e264
        replace hx264_0 := (HB.out.cell (lD w _ hx264_0)).trans hx264_0
        have HR264_0 := aA.mk hi264_0
        have HC264_0 := aA.mk hl264_0
        clear hi264_0 hl264_0
        replace p264 := eq_true p264
        replace q264 := eq_true q264
        go_wp2_with (first | ((with_reducible refine bB (f := 68) rfl ?_); refine bP (some 20) rfl rfl Try.func68 (by kernel_rfl) rfl #[.agg #[.slice A264_0 ((rd_T87 l0 x4_1).f0).length c264_0]] rfl (by (try simp only [List.map_toArray, List.map_cons, List.map_nil]); first | done | rfl | (simp only [List.length_drop, List.length_take]; rfl)) ?_; (with_reducible refine (laws_toNode.calls k1 _ _ ((rd_T87 l0 x4_1).f0) t265 _ ?side1 ?side2 A8.out).mono ?_); (case side1 => repeat (first | exact (Kd.bJ HR264_0.out HB.out) | (with_reducible refine Kd.bM ?_ _) | (with_reducible refine Kd.bN ?_ _) | (with_reducible refine Kd.bR ?_))); (case side2 => exact HC264_0.out); rintro e w11 ⟨v266, rfl, ho0, hb⟩; refine ⟨_, rfl, ?_⟩; have n0_ := aA.mk (Kd.S_old HO_3.out hb); obtain ⟨bs_, ebs_⟩ : ∃ y_, y_ = wr.heap.size := ⟨_, rfl⟩; rw [← ebs_] at n0_; have n1_ := aA.mk (Kd.S_lower (Kd.S_mono (ok' := fun k_ => bs_ ≤ k_) (Kd.S_bound ho0) (fun k_ hk_ => by rw [ebs_]; exact hk_.2.1)) (aT (by repeat (first | (with_reducible first | exact HB.out | apply aH | apply aC | apply aG) | exact HB.out)))); have n2_ := aA.mk (aU (by repeat (first | (with_reducible first | exact HB.out | apply aH | apply aC | apply aG) | exact HB.out)) hb); clear HO_3; clear HB; have HO_3 := n0_; have HO267 := n1_; have HB := n2_; clear n0_ n1_ n2_; (try clear hb); (try clear hk); (try clear ho0); have p10 : 0 ≤ (x4_1 : Int) := lE (by first | (with_reducible assumption) | assumption); have q10 : (x4_1 : Int) < ((x3_1.length : Int) : Int) := lE (by first | (with_reducible assumption) | assumption); obtain ⟨go10, co10, eo10, gb10, gl10, cl10, HG10⟩ := Kd.S_form HO_3.out (by omega); (first | cases eo10 | (injection eo10 with ea_ en_ ec_; (first | subst ea_ | (injection ea_ with ea_; subst ea_)); subst ec_; clear en_)); have GB10 := aA.mk gb10; have GG10 := aA.mk HG10; clear gb10 gl10 HG10; obtain ⟨_, ce10, hcl10, hM10, hcc10, hfr10, _, _⟩ := Kd.S_elem HO_3.out z59 (x4_1 : Int) p10 q10; obtain ⟨ve10_0, rfl, ge10_0⟩ := (id hM10); have hx10_0 := hcc10 0 _ rfl; have hf10_0 := hfr10 0; (try simp only [show (k59D).sz = 1 from rfl, Nat.mul_one, Nat.add_zero] at hx10_0); (try simp only [show (k59D).sz = 1 from rfl, Nat.mul_one, Nat.add_zero] at hf10_0); (try clear hcl10); (try clear hcc10); (try clear hfr10); (try clear hM10); replace p10 := eq_true p10; replace q10 := eq_true q10; have HGO12 := aA.mk (show go10 < bs_ from ((Kd.S_R HO_3.out).1 _ rfl).2); have HX12 := aA.mk (show Kd.S k59D 59 w11 w.heap.size (fun k_ => ((fun _ => True)) k_ ∧ ¬ ((fun k_ => bs_ ≤ k_)) k_) (.slice (some ⟨go10, 0, none⟩) x3_1.length co10) x3_1 from Kd.S_mono HO_3.out (fun k_ hk => ⟨trivial, fun e_ => Nat.not_lt_of_le e_ hk.2⟩)); obtain ⟨oki12, ce12, hcl12, hM12, hcc12, hfr12, hoki12, hH12⟩ := Kd.S_elem HX12.out z59 (x4_1 : Int) (lE (by first | (with_reducible assumption) | assumption)) (by have h_ : (x4_1 : Int) < ((x3_1.length : Int) : Int) := lE (by first | (with_reducible assumption) | assumption); first | exact h_ | (have e_ := (Kd.S_reads' HO_3.out).1; omega) | simpa using h_); obtain ⟨ve12_0, rfl, ge12_0⟩ := (id hM12); have HP12 := Kd.S_seg hH12 (lE (by first | (with_reducible assumption) | assumption)) (by have h_ : (x4_1 : Int) < ((x3_1.length : Int) : Int) := lE (by first | (with_reducible assumption) | assumption); first | exact h_ | (have e_ := (Kd.S_reads' HO_3.out).1; omega) | simpa using h_) (seg := [v266]) (j := 0) (show 1 ≤ 1 from by decide) (x' := (⟨t265⟩ : S59)) (okp := fun k_ => bs_ ≤ k_) ⟨_, rfl, HO267.out⟩ (fun _ hk => Or.inr hk) (fun k_ hk_ => ⟨trivial, fun e_ => by rw [e_] at hk_; exact Nat.not_lt_of_le hk_ HGO12.out⟩); have hx12_0 := hcc12 0 _ rfl; (try simp only [show (k59D).sz = 1 from rfl, Nat.mul_one, Nat.add_zero] at hx12_0); have hf12_0 := hfr12 0; (try simp only [show (k59D).sz = 1 from rfl, Nat.mul_one, Nat.add_zero] at hf12_0); (try clear hcl12); (try clear hcc12); (try clear hfr12); (try clear hM12); (try simp only [show (k59D).sz = 1 from rfl, Nat.mul_one, Nat.add_zero] at HP12)) | ((with_reducible refine gate_store (t := 59) (p := 21) rfl ?_); refine store_event (t := 59) (p := 21) (v := ?vo_w13) (w1 := (w11.setCell ⟨go10, (x4_1 : Int).toNat, none⟩ (v266))) ?hg ?ho ?hn ?hr ?_; (case ho => rfl); (case hg => rfl); (case hn => rfl); (case hr => first | (go_simp; done) | (go_simp; rfl) | (obtain ⟨Az_, cz_, ez_, _⟩ := Kd.R_reads HO267.out; subst ez_; go_simp; done) | (obtain ⟨Az_, cz_, ez_, _⟩ := Kd.R_reads HO267.out; subst ez_; go_simp; rfl) | (obtain ⟨Az_, cz_, ez_, _⟩ := Kd.S_reads HO267.out; subst ez_; go_simp; done) | (obtain ⟨Az_, cz_, ez_, _⟩ := Kd.S_reads HO267.out; subst ez_; go_simp; rfl) | (obtain ⟨Az_, cz_, ez_, _⟩ := Kd.N_reads HO267.out; subst ez_; go_simp; done) | (obtain ⟨Az_, cz_, ez_, _⟩ := Kd.N_reads HO267.out; subst ez_; go_simp; rfl) | (obtain ⟨Az_, cz_, ez_, _⟩ := Kd.Q_reads HO267.out; subst ez_; go_simp; done) | (obtain ⟨Az_, cz_, ez_, _⟩ := Kd.Q_reads HO267.out; subst ez_; go_simp; rfl) | (obtain ⟨Az_, cz_, ez_⟩ := Kd.V_slice HO267.out; subst ez_; go_simp; done)); intro w13 hw; have hg : w11.grownBy w13 (some go10) := (by rw [hw]; exact HP12.2); have hp_ : Kd.S k59D 59 w13 w.heap.size (fun _ => True) (.slice (some ⟨go10, 0, none⟩) x3_1.length co10) y268 := (by rw [hw, Ny268.out]; exact HP12.1); clear HP12; have n0_ := aA.mk (hp_); have n1_ := aA.mk ((by rw [hw]; exact aJ (HB.out) GB10.out : Below w.heap.size w w13)); clear HO_3; clear HB; clear HO267; have HO_3 := n0_; have HB := n1_; clear n0_ n1_; clear hg hw hp_))
        go_roundg k1
        case measure => have := HK1.out; omega
        case rel => exact ⟨(y268), (wrap64 (x4_1 + 1)), (by first | rfl | (simp; done) | (simp [*]; done)), H', ⟨by have := HK1.out; omega⟩, ⟨by (with_reducible repeat (first | apply Kd.S_alloc | apply Kd.S_drewN | apply Kd.S_drew)); exact HO_3.out⟩, ⟨by repeat (first | (with_reducible first | exact HB.out | apply aH | apply aC | apply aG) | exact HB.out)⟩⟩
       ·rw [if_neg c9] at H
        exact absurd H (by simp)
      ·rw [if_neg c7] at H
       exact absurd H (by simp)
     ·rw [if_neg c6] at H
      have c6b0 : decide (x4_1 < (l0.length : Int)) = false := decide_eq_false c6
      clear c6
      obtain rfl := Option.some.inj H
      go_wp2
      go_ret
      exact ⟨_, by first | rfl | (simp [errW_none, errW_some] <;> rfl) | (simp [*, errW_none, errW_some] <;> rfl), by (with_reducible repeat (first | apply Kd.S_alloc | apply Kd.S_drewN | apply Kd.S_drew)); exact HO_3.out, by repeat (first | (with_reducible first | exact HB.out | apply aH | apply aC | apply aG) | exact HB.out)⟩
  ·rw [if_neg c3] at H
   exact absurd H (by simp)
 ·rw [if_neg c2] at H
  exact absurd H (by simp)
set_option maxHeartbeats 8000000 in
set_option maxRecDepth 100000 in
theorem walk_toTree (A0_0 : Option Addr) (c0_0 : Nat) (l0_0 : List (Int)) (A0_1 : Option Addr) (c0_1 : Nat) (l0_1 : List (S87)) (k1 : Nat) (k2 : Nat) (r1_0 : List Int) (r2_0 : List (S59)) (w : World) (hr0_0 : Kd.C (Kd.int .i64) w A0_0 l0_0.length l0_0) (hc0_0 : l0_0.length ≤ c0_0) (hr0_1 : Kd.C k87 w A0_1 l0_1.length l0_1) (hc0_1 : l0_1.length ≤ c0_1) (Q1x : laws_toIntS.f k1 l0_0 = some r1_0) (Q2x : laws_toNodeS.f k2 l0_1 = some r2_0) :
  Calls Try.prog 8 #[.agg #[.slice A0_0 l0_0.length c0_0, .slice A0_1 l0_1.length c0_1]] w fun e w' => ∃ v0_ v1_ : Value, e = .returned (.agg #[v0_, v1_]) ∧ Kd.R (Kd.int .i64) 3 w' w.heap.size (fun _ => True) v0_ r1_0 ∧ Kd.S k59D 59 w' w.heap.size (fun _ => True) v1_ r2_0 ∧ Below w.heap.size w w' := by
 have hu25 := Try.underlying25
 have hu29 := Try.underlying29
 have HR0_0 := aA.mk hr0_0
 have HC0_0 := aA.mk hc0_0
 clear hr0_0 hc0_0
 have HR0_1 := aA.mk hr0_1
 have HC0_1 := aA.mk hc0_1
 clear hr0_1 hc0_1
 have Q1 := aA.mk Q1x
 clear Q1x
 have Q2 := aA.mk Q2x
 clear Q2x
 have HB := aA.mk (Below.refl w.heap.size w)
 have HORD := aA.mk (Nat.le_refl w.heap.size)
 have HT := aA.mk (Nat.le_refl w.heap.size)
 go_enter Try.func8, Try.ntmps8
 go_wp2_with (first | ((with_reducible refine aW (N := 1) rfl ?_); refine aX ?hg (N := 1) ?hd (cs := #[.slice A0_0 l0_0.length c0_0, .slice A0_1 l0_1.length c0_1]) (t := 25) ?hr ?_; (case hd => rfl); (case hg => rfl); (case hr => first | (go_simp; done) | (go_simp; rfl)); intro gb1 hg_ w1 hbox hb; have hge_ : w.heap.size ≤ gb1 := (by rw [hg_]; exact HT.out); have hlt_ : gb1 + 1 ≤ w1.heap.size := bF hbox; have n0_ := aA.mk (aU HB.out hb); have n1_ := aA.mk (hbox); have n2_ := aA.mk (And.intro HORD.out (And.intro hge_ (Nat.le_succ gb1))); have n3_ := aA.mk (hlt_); (try clear HB); (try clear BK1); (try clear HORD); (try clear HT); have HB := n0_; have BK1 := n1_; have HORD := n2_; have HT := n3_; clear n0_ n1_ n2_ n3_; clear hb hbox hg_ hge_ hlt_; have hzgb1_0_1 : w1.cell? ⟨gb1, 0, none⟩ = some (.slice A0_0 l0_0.length c0_0) := (aE BK1.out 0).trans rfl; have hygb1_0_1 := aD BK1.out 0; have hzgb1_1_1 : w1.cell? ⟨gb1, 1, none⟩ = some (.slice A0_1 l0_1.length c0_1) := (aE BK1.out 1).trans rfl; have hygb1_1_1 := aD BK1.out 1) | ((with_reducible refine aW (N := 2) rfl ?_); refine aX ?hg (N := 2) ?hd (cs := #[.slice none 0 0, .slice none 0 0]) (t := 29) ?hr ?_; (case hd => rfl); (case hg => rfl); (case hr => first | (go_simp; done) | (go_simp; rfl)); intro gb2 hg_ w2 hbox hb; have hge_ : (gb1 + 1) ≤ gb2 := (by rw [hg_]; exact HT.out); have hlt_ : gb2 + 1 ≤ w2.heap.size := bF hbox; have n0_ := aA.mk (aV BK1.out hb); have n1_ := aA.mk (aU HB.out hb); have n2_ := aA.mk (hbox); have n3_ := aA.mk (And.intro HORD.out (And.intro hge_ (Nat.le_succ gb2))); have n4_ := aA.mk (hlt_); (try clear BK1); (try clear HB); (try clear BK2); (try clear HORD); (try clear HT); have BK1 := n0_; have HB := n1_; have BK2 := n2_; have HORD := n3_; have HT := n4_; clear n0_ n1_ n2_ n3_ n4_; clear hb hbox hg_ hge_ hlt_; have hzgb1_0_2 : w2.cell? ⟨gb1, 0, none⟩ = some (.slice A0_0 l0_0.length c0_0) := (aE BK1.out 0).trans rfl; have hygb1_0_2 := aD BK1.out 0; have hzgb1_1_2 : w2.cell? ⟨gb1, 1, none⟩ = some (.slice A0_1 l0_1.length c0_1) := (aE BK1.out 1).trans rfl; have hygb1_1_2 := aD BK1.out 1; have hzgb2_0_2 : w2.cell? ⟨gb2, 0, none⟩ = some (.slice none 0 0) := (aE BK2.out 0).trans rfl; have hygb2_0_2 := aD BK2.out 0; have hzgb2_1_2 : w2.cell? ⟨gb2, 1, none⟩ = some (.slice none 0 0) := (aE BK2.out 1).trans rfl; have hygb2_1_2 := aD BK2.out 1) | ((with_reducible refine aW (N := 3) rfl ?_); refine aX ?hg (N := 3) ?hd (cs := #[.slice none 0 0, .slice none 0 0]) (t := 29) ?hr ?_; (case hd => rfl); (case hg => rfl); (case hr => first | (go_simp; done) | (go_simp; rfl)); intro gb3 hg_ w3 hbox hb; have hge_ : (gb2 + 1) ≤ gb3 := (by rw [hg_]; exact HT.out); have hlt_ : gb3 + 1 ≤ w3.heap.size := bF hbox; have n0_ := aA.mk (aV BK1.out hb); have n1_ := aA.mk (aV BK2.out hb); have n2_ := aA.mk (aU HB.out hb); have n3_ := aA.mk (hbox); have n4_ := aA.mk (And.intro HORD.out (And.intro hge_ (Nat.le_succ gb3))); have n5_ := aA.mk (hlt_); (try clear BK1); (try clear BK2); (try clear HB); (try clear BK3); (try clear HORD); (try clear HT); have BK1 := n0_; have BK2 := n1_; have HB := n2_; have BK3 := n3_; have HORD := n4_; have HT := n5_; clear n0_ n1_ n2_ n3_ n4_ n5_; clear hb hbox hg_ hge_ hlt_; have hzgb1_0_3 : w3.cell? ⟨gb1, 0, none⟩ = some (.slice A0_0 l0_0.length c0_0) := (aE BK1.out 0).trans rfl; have hygb1_0_3 := aD BK1.out 0; have hzgb1_1_3 : w3.cell? ⟨gb1, 1, none⟩ = some (.slice A0_1 l0_1.length c0_1) := (aE BK1.out 1).trans rfl; have hygb1_1_3 := aD BK1.out 1; have hzgb2_0_3 : w3.cell? ⟨gb2, 0, none⟩ = some (.slice none 0 0) := (aE BK2.out 0).trans rfl; have hygb2_0_3 := aD BK2.out 0; have hzgb2_1_3 : w3.cell? ⟨gb2, 1, none⟩ = some (.slice none 0 0) := (aE BK2.out 1).trans rfl; have hygb2_1_3 := aD BK2.out 1; have hzgb3_0_3 : w3.cell? ⟨gb3, 0, none⟩ = some (.slice none 0 0) := (aE BK3.out 0).trans rfl; have hygb3_0_3 := aD BK3.out 0; have hzgb3_1_3 : w3.cell? ⟨gb3, 1, none⟩ = some (.slice none 0 0) := (aE BK3.out 1).trans rfl; have hygb3_1_3 := aD BK3.out 1) | ((with_reducible refine bB (f := 29) rfl ?_); refine bP (some 6) rfl rfl Try.func29 (by kernel_rfl) rfl #[.slice A0_0 l0_0.length c0_0] rfl (by (try simp only [List.map_toArray, List.map_cons, List.map_nil]); first | done | rfl | (simp only [List.length_drop, List.length_take]; rfl)) ?_; (with_reducible refine (laws_toIntS.calls k1 _ _ l0_0 r1_0 _ ?s1 ?s2 Q1.out).mono ?_); (case s1 => exact (Kd.bJ HR0_0.out HB.out)); (case s2 => exact HC0_0.out); rintro e_ w4 ⟨v0_, rfl, ho0, hb⟩; refine ⟨_, rfl, ?_⟩; obtain ⟨lo4, hi4, el_, eh_, ol_, oh_⟩ := Mem.times HT.out hb; (try rw [← el_] at ho0); obtain ⟨A4_0, c4_0, ev_, hc0_, hf0_, hs0_⟩ := Mem.new_R ho0 eh_; subst ev_; have n0_ := aA.mk (aV BK1.out hb); have n1_ := aA.mk (aV BK2.out hb); have n2_ := aA.mk (aV BK3.out hb); have n3_ := aA.mk (aU HB.out hb); have n4_ := aA.mk (hf0_); have n5_ := aA.mk (hc0_); have n6_ := aA.mk (hs0_); have n7_ := aA.mk (And.intro HORD.out (And.intro ol_ oh_)); have n8_ := aA.mk (Nat.le_of_eq eh_); (try clear BK1); (try clear BK2); (try clear BK3); (try clear HB); (try clear HF4_0); (try clear HC4_0); (try clear HS4_0); (try clear HORD); (try clear HT); have BK1 := n0_; have BK2 := n1_; have BK3 := n2_; have HB := n3_; have HF4_0 := n4_; have HC4_0 := n5_; have HS4_0 := n6_; have HORD := n7_; have HT := n8_; clear n0_ n1_ n2_ n3_ n4_ n5_ n6_ n7_ n8_; clear ol_ oh_ el_ eh_ ho0 hf0_ hc0_ hs0_; (try clear hb); have hzgb1_0_4 : w4.cell? ⟨gb1, 0, none⟩ = some (.slice A0_0 l0_0.length c0_0) := (aE BK1.out 0).trans rfl; have hygb1_0_4 := aD BK1.out 0; have hzgb1_1_4 : w4.cell? ⟨gb1, 1, none⟩ = some (.slice A0_1 l0_1.length c0_1) := (aE BK1.out 1).trans rfl; have hygb1_1_4 := aD BK1.out 1; have hzgb2_0_4 : w4.cell? ⟨gb2, 0, none⟩ = some (.slice none 0 0) := (aE BK2.out 0).trans rfl; have hygb2_0_4 := aD BK2.out 0; have hzgb2_1_4 : w4.cell? ⟨gb2, 1, none⟩ = some (.slice none 0 0) := (aE BK2.out 1).trans rfl; have hygb2_1_4 := aD BK2.out 1; have hzgb3_0_4 : w4.cell? ⟨gb3, 0, none⟩ = some (.slice none 0 0) := (aE BK3.out 0).trans rfl; have hygb3_0_4 := aD BK3.out 0; have hzgb3_1_4 : w4.cell? ⟨gb3, 1, none⟩ = some (.slice none 0 0) := (aE BK3.out 1).trans rfl; have hygb3_1_4 := aD BK3.out 1) | ((with_reducible refine gate_store (t := 22) (p := 7) rfl ?_); refine store_event (t := 22) (p := 7) (v := ?vo_w5) (w1 := (w4.setCell ⟨gb3, 0, none⟩ (.slice A4_0 r1_0.length c4_0))) ?hg ?ho ?hn ?hr ?_; (case ho => rfl); (case hg => rfl); (case hn => rfl); (case hr => first | (go_simp; done) | (go_simp; rfl)); intro w5 hw_; have hkp : Kept w4 w5 (fun k_ => k_ = gb3) := (by rw [hw_]; exact Kept.setCell (Kept.refl w4 (fun k_ => k_ = gb3)) (.inl rfl) (.slice A4_0 r1_0.length c4_0)); have hge_ : w.heap.size ≤ gb3 := (by have o_ := HORD.out; (try unfold In at *); (try show _ ≠ _); omega); have hbn_ : Below w.heap.size w w5 := (by rw [hw_]; exact aJ (HB.out) hge_); have hbk_ : w5.heap[gb3]? = some (.cells #[.slice A4_0 r1_0.length c4_0, .slice none 0 0] 29 (0, 0)) := (by rw [hw_]; exact bG (cs := #[.slice none 0 0, .slice none 0 0]) (cs' := #[.slice A4_0 r1_0.length c4_0, .slice none 0 0]) (BK3.out) 0 _ rfl); have hsz_ : hi4 ≤ w5.heap.size := Nat.le_trans HT.out hkp.1; have n0_ := aA.mk (Kd.bT HF4_0.out hkp (fun k_ h1_ h2_ => by have o_ := HORD.out; unfold In at h1_; omega)); have n1_ := aA.mk (Kd.R_kept HS4_0.out hkp (fun k_ h1_ h2_ => by have o_ := HORD.out; unfold In at h1_; omega)); have n2_ := aA.mk (bV BK1.out hkp (fun h2_ => by have o_ := HORD.out; omega)); have n3_ := aA.mk (bV BK2.out hkp (fun h2_ => by have o_ := HORD.out; omega)); have n4_ := aA.mk (hbn_); have n5_ := aA.mk (hbk_); have n6_ := aA.mk (hsz_); (try clear HF4_0); (try clear HS4_0); (try clear BK1); (try clear BK2); (try clear HB); (try clear BK3); (try clear HT); have HF4_0 := n0_; have HS4_0 := n1_; have BK1 := n2_; have BK2 := n3_; have HB := n4_; have BK3 := n5_; have HT := n6_; clear n0_ n1_ n2_ n3_ n4_ n5_ n6_; clear hw_ hkp hge_ hbn_ hbk_ hsz_; have hzgb1_0_5 : w5.cell? ⟨gb1, 0, none⟩ = some (.slice A0_0 l0_0.length c0_0) := (aE BK1.out 0).trans rfl; have hygb1_0_5 := aD BK1.out 0; have hzgb1_1_5 : w5.cell? ⟨gb1, 1, none⟩ = some (.slice A0_1 l0_1.length c0_1) := (aE BK1.out 1).trans rfl; have hygb1_1_5 := aD BK1.out 1; have hzgb2_0_5 : w5.cell? ⟨gb2, 0, none⟩ = some (.slice none 0 0) := (aE BK2.out 0).trans rfl; have hygb2_0_5 := aD BK2.out 0; have hzgb2_1_5 : w5.cell? ⟨gb2, 1, none⟩ = some (.slice none 0 0) := (aE BK2.out 1).trans rfl; have hygb2_1_5 := aD BK2.out 1; have hzgb3_0_5 : w5.cell? ⟨gb3, 0, none⟩ = some (.slice A4_0 r1_0.length c4_0) := (aE BK3.out 0).trans rfl; have hygb3_0_5 := aD BK3.out 0; have hzgb3_1_5 : w5.cell? ⟨gb3, 1, none⟩ = some (.slice none 0 0) := (aE BK3.out 1).trans rfl; have hygb3_1_5 := aD BK3.out 1) | ((with_reducible refine bB (f := 30) rfl ?_); refine bP (some 10) rfl rfl Try.func30 (by kernel_rfl) rfl #[.slice A0_1 l0_1.length c0_1] rfl (by (try simp only [List.map_toArray, List.map_cons, List.map_nil]); first | done | rfl | (simp only [List.length_drop, List.length_take]; rfl)) ?_; (with_reducible refine (laws_toNodeS.calls k2 _ _ l0_1 r2_0 _ ?s1 ?s2 Q2.out).mono ?_); (case s1 => exact (Kd.bJ HR0_1.out HB.out)); (case s2 => exact HC0_1.out); rintro e_ w6 ⟨v0_, rfl, ho0, hb⟩; refine ⟨_, rfl, ?_⟩; obtain ⟨lo6, hi6, el_, eh_, ol_, oh_⟩ := Mem.times HT.out hb; (try rw [← el_] at ho0); obtain ⟨A6_0, c6_0, ev_, hc0_, hf0_, hs0_⟩ := Mem.new_S ho0 eh_; subst ev_; have n0_ := aA.mk (Kd.bE HF4_0.out hb); have n1_ := aA.mk (Kd.bU HS4_0.out hb); have n2_ := aA.mk (aV BK1.out hb); have n3_ := aA.mk (aV BK2.out hb); have n4_ := aA.mk (aV BK3.out hb); have n5_ := aA.mk (aU HB.out hb); have n6_ := aA.mk (hf0_); have n7_ := aA.mk (hc0_); have n8_ := aA.mk (hs0_); have n9_ := aA.mk (And.intro HORD.out (And.intro ol_ oh_)); have n10_ := aA.mk (Nat.le_of_eq eh_); (try clear HF4_0); (try clear HS4_0); (try clear BK1); (try clear BK2); (try clear BK3); (try clear HB); (try clear HF6_0); (try clear HC6_0); (try clear HS6_0); (try clear HORD); (try clear HT); have HF4_0 := n0_; have HS4_0 := n1_; have BK1 := n2_; have BK2 := n3_; have BK3 := n4_; have HB := n5_; have HF6_0 := n6_; have HC6_0 := n7_; have HS6_0 := n8_; have HORD := n9_; have HT := n10_; clear n0_ n1_ n2_ n3_ n4_ n5_ n6_ n7_ n8_ n9_ n10_; clear ol_ oh_ el_ eh_ ho0 hf0_ hc0_ hs0_; (try clear hb); have hzgb1_0_6 : w6.cell? ⟨gb1, 0, none⟩ = some (.slice A0_0 l0_0.length c0_0) := (aE BK1.out 0).trans rfl; have hygb1_0_6 := aD BK1.out 0; have hzgb1_1_6 : w6.cell? ⟨gb1, 1, none⟩ = some (.slice A0_1 l0_1.length c0_1) := (aE BK1.out 1).trans rfl; have hygb1_1_6 := aD BK1.out 1; have hzgb2_0_6 : w6.cell? ⟨gb2, 0, none⟩ = some (.slice none 0 0) := (aE BK2.out 0).trans rfl; have hygb2_0_6 := aD BK2.out 0; have hzgb2_1_6 : w6.cell? ⟨gb2, 1, none⟩ = some (.slice none 0 0) := (aE BK2.out 1).trans rfl; have hygb2_1_6 := aD BK2.out 1; have hzgb3_0_6 : w6.cell? ⟨gb3, 0, none⟩ = some (.slice A4_0 r1_0.length c4_0) := (aE BK3.out 0).trans rfl; have hygb3_0_6 := aD BK3.out 0; have hzgb3_1_6 : w6.cell? ⟨gb3, 1, none⟩ = some (.slice none 0 0) := (aE BK3.out 1).trans rfl; have hygb3_1_6 := aD BK3.out 1) | ((with_reducible refine gate_store (t := 27) (p := 11) rfl ?_); refine store_event (t := 27) (p := 11) (v := ?vo_w7) (w1 := (w6.setCell ⟨gb3, 1, none⟩ (.slice A6_0 r2_0.length c6_0))) ?hg ?ho ?hn ?hr ?_; (case ho => rfl); (case hg => rfl); (case hn => rfl); (case hr => first | (go_simp; done) | (go_simp; rfl)); intro w7 hw_; have hkp : Kept w6 w7 (fun k_ => k_ = gb3) := (by rw [hw_]; exact Kept.setCell (Kept.refl w6 (fun k_ => k_ = gb3)) (.inl rfl) (.slice A6_0 r2_0.length c6_0)); have hge_ : w.heap.size ≤ gb3 := (by have o_ := HORD.out; (try unfold In at *); (try show _ ≠ _); omega); have hbn_ : Below w.heap.size w w7 := (by rw [hw_]; exact aJ (HB.out) hge_); have hbk_ : w7.heap[gb3]? = some (.cells #[.slice A4_0 r1_0.length c4_0, .slice A6_0 r2_0.length c6_0] 29 (0, 0)) := (by rw [hw_]; exact bG (cs := #[.slice A4_0 r1_0.length c4_0, .slice none 0 0]) (cs' := #[.slice A4_0 r1_0.length c4_0, .slice A6_0 r2_0.length c6_0]) (BK3.out) 1 _ rfl); have hsz_ : hi6 ≤ w7.heap.size := Nat.le_trans HT.out hkp.1; have n0_ := aA.mk (Kd.bT HF4_0.out hkp (fun k_ h1_ h2_ => by have o_ := HORD.out; unfold In at h1_; omega)); have n1_ := aA.mk (Kd.R_kept HS4_0.out hkp (fun k_ h1_ h2_ => by have o_ := HORD.out; unfold In at h1_; omega)); have n2_ := aA.mk (Kd.bT HF6_0.out hkp (fun k_ h1_ h2_ => by have o_ := HORD.out; unfold In at h1_; omega)); have n3_ := aA.mk (Kd.S_kept HS6_0.out hkp (fun k_ h1_ h2_ => by have o_ := HORD.out; unfold In at h1_; omega)); have n4_ := aA.mk (bV BK1.out hkp (fun h2_ => by have o_ := HORD.out; omega)); have n5_ := aA.mk (bV BK2.out hkp (fun h2_ => by have o_ := HORD.out; omega)); have n6_ := aA.mk (hbn_); have n7_ := aA.mk (hbk_); have n8_ := aA.mk (hsz_); (try clear HF4_0); (try clear HS4_0); (try clear HF6_0); (try clear HS6_0); (try clear BK1); (try clear BK2); (try clear HB); (try clear BK3); (try clear HT); have HF4_0 := n0_; have HS4_0 := n1_; have HF6_0 := n2_; have HS6_0 := n3_; have BK1 := n4_; have BK2 := n5_; have HB := n6_; have BK3 := n7_; have HT := n8_; clear n0_ n1_ n2_ n3_ n4_ n5_ n6_ n7_ n8_; clear hw_ hkp hge_ hbn_ hbk_ hsz_; have hzgb1_0_7 : w7.cell? ⟨gb1, 0, none⟩ = some (.slice A0_0 l0_0.length c0_0) := (aE BK1.out 0).trans rfl; have hygb1_0_7 := aD BK1.out 0; have hzgb1_1_7 : w7.cell? ⟨gb1, 1, none⟩ = some (.slice A0_1 l0_1.length c0_1) := (aE BK1.out 1).trans rfl; have hygb1_1_7 := aD BK1.out 1; have hzgb2_0_7 : w7.cell? ⟨gb2, 0, none⟩ = some (.slice none 0 0) := (aE BK2.out 0).trans rfl; have hygb2_0_7 := aD BK2.out 0; have hzgb2_1_7 : w7.cell? ⟨gb2, 1, none⟩ = some (.slice none 0 0) := (aE BK2.out 1).trans rfl; have hygb2_1_7 := aD BK2.out 1; have hzgb3_0_7 : w7.cell? ⟨gb3, 0, none⟩ = some (.slice A4_0 r1_0.length c4_0) := (aE BK3.out 0).trans rfl; have hygb3_0_7 := aD BK3.out 0; have hzgb3_1_7 : w7.cell? ⟨gb3, 1, none⟩ = some (.slice A6_0 r2_0.length c6_0) := (aE BK3.out 1).trans rfl; have hygb3_1_7 := aD BK3.out 1) | ((with_reducible refine gate_store (t := 29) (p := 2) rfl ?_); refine store_event (t := 29) (p := 2) (v := ?vo_w8) (w1 := ((w7.setCell ⟨gb2, 0, none⟩ (.slice A4_0 r1_0.length c4_0)).setCell ⟨gb2, 1, none⟩ (.slice A6_0 r2_0.length c6_0))) ?hg ?ho ?hn ?hr ?_; (case ho => rfl); (case hg => rfl); (case hn => rfl); (case hr => first | (go_simp; done) | (go_simp; rfl)); intro w8 hw_; have hkp : Kept w7 w8 (fun k_ => k_ = gb2) := (by rw [hw_]; exact Kept.setCell (Kept.setCell (Kept.refl w7 (fun k_ => k_ = gb2)) (.inl rfl) (.slice A4_0 r1_0.length c4_0)) (.inl rfl) (.slice A6_0 r2_0.length c6_0)); have hge_ : w.heap.size ≤ gb2 := (by have o_ := HORD.out; (try unfold In at *); (try show _ ≠ _); omega); have hbn_ : Below w.heap.size w w8 := (by rw [hw_]; exact aJ (aJ (HB.out) hge_) hge_); have hbk_ : w8.heap[gb2]? = some (.cells #[.slice A4_0 r1_0.length c4_0, .slice A6_0 r2_0.length c6_0] 29 (0, 0)) := (by rw [hw_]; exact bG (cs := #[.slice A4_0 r1_0.length c4_0, .slice none 0 0]) (cs' := #[.slice A4_0 r1_0.length c4_0, .slice A6_0 r2_0.length c6_0]) (bG (cs := #[.slice none 0 0, .slice none 0 0]) (cs' := #[.slice A4_0 r1_0.length c4_0, .slice none 0 0]) (BK2.out) 0 _ rfl) 1 _ rfl); have hsz_ : hi6 ≤ w8.heap.size := Nat.le_trans HT.out hkp.1; have n0_ := aA.mk (Kd.bT HF4_0.out hkp (fun k_ h1_ h2_ => by have o_ := HORD.out; unfold In at h1_; omega)); have n1_ := aA.mk (Kd.R_kept HS4_0.out hkp (fun k_ h1_ h2_ => by have o_ := HORD.out; unfold In at h1_; omega)); have n2_ := aA.mk (Kd.bT HF6_0.out hkp (fun k_ h1_ h2_ => by have o_ := HORD.out; unfold In at h1_; omega)); have n3_ := aA.mk (Kd.S_kept HS6_0.out hkp (fun k_ h1_ h2_ => by have o_ := HORD.out; unfold In at h1_; omega)); have n4_ := aA.mk (bV BK1.out hkp (fun h2_ => by have o_ := HORD.out; omega)); have n5_ := aA.mk (bV BK3.out hkp (fun h2_ => by have o_ := HORD.out; omega)); have n6_ := aA.mk (hbn_); have n7_ := aA.mk (hbk_); have n8_ := aA.mk (hsz_); (try clear HF4_0); (try clear HS4_0); (try clear HF6_0); (try clear HS6_0); (try clear BK1); (try clear BK3); (try clear HB); (try clear BK2); (try clear HT); have HF4_0 := n0_; have HS4_0 := n1_; have HF6_0 := n2_; have HS6_0 := n3_; have BK1 := n4_; have BK3 := n5_; have HB := n6_; have BK2 := n7_; have HT := n8_; clear n0_ n1_ n2_ n3_ n4_ n5_ n6_ n7_ n8_; clear hw_ hkp hge_ hbn_ hbk_ hsz_; have hzgb1_0_8 : w8.cell? ⟨gb1, 0, none⟩ = some (.slice A0_0 l0_0.length c0_0) := (aE BK1.out 0).trans rfl; have hygb1_0_8 := aD BK1.out 0; have hzgb1_1_8 : w8.cell? ⟨gb1, 1, none⟩ = some (.slice A0_1 l0_1.length c0_1) := (aE BK1.out 1).trans rfl; have hygb1_1_8 := aD BK1.out 1; have hzgb2_0_8 : w8.cell? ⟨gb2, 0, none⟩ = some (.slice A4_0 r1_0.length c4_0) := (aE BK2.out 0).trans rfl; have hygb2_0_8 := aD BK2.out 0; have hzgb2_1_8 : w8.cell? ⟨gb2, 1, none⟩ = some (.slice A6_0 r2_0.length c6_0) := (aE BK2.out 1).trans rfl; have hygb2_1_8 := aD BK2.out 1; have hzgb3_0_8 : w8.cell? ⟨gb3, 0, none⟩ = some (.slice A4_0 r1_0.length c4_0) := (aE BK3.out 0).trans rfl; have hygb3_0_8 := aD BK3.out 0; have hzgb3_1_8 : w8.cell? ⟨gb3, 1, none⟩ = some (.slice A6_0 r2_0.length c6_0) := (aE BK3.out 1).trans rfl; have hygb3_1_8 := aD BK3.out 1))
 refine bodyPost_ret (fn := Try.f8) (P := Try.prog) (results_cell_row rfl _ _ gb2 29 #[.slice A4_0 r1_0.length c4_0, .slice A6_0 r2_0.length c6_0] (0, 0) _ rfl BK2.out Try.underlying29 rfl (by kernel_rfl)) rfl ?_
 exact ⟨_, _, rfl, Kd.bK (Kd.R_lower HS4_0.out (by have o_ := HORD.out; (try unfold In at *); (try show _ ≠ _); omega)) (fun _ _ => trivial), Kd.S_mono (Kd.S_lower HS6_0.out (by have o_ := HORD.out; (try unfold In at *); (try show _ ≠ _); omega)) (fun _ _ => trivial), HB.out⟩
theorem laws_toTree.calls (k : Nat) (A0_0 : Option Addr) (c0_0 : Nat) (l0_0 : List Int) (A0_1 : Option Addr) (c0_1 : Nat) (l0_1 : List (S87)) (r1 : List Int) (r2 : List (S59)) (w : World) (hr0_0 : Kd.C (Kd.int .i64) w A0_0 l0_0.length l0_0) (hc0_0 : l0_0.length ≤ c0_0) (hr0_1 : Kd.C k87 w A0_1 l0_1.length l0_1) (hc0_1 : l0_1.length ≤ c0_1) (h : laws_toTree.f k l0_0 l0_1 = some (r1, r2)) :
  Calls Try.prog 8 #[.agg #[.slice A0_0 l0_0.length c0_0, .slice A0_1 l0_1.length c0_1]] w fun e w' => ∃ v0_ v1_ : Value, e = .returned (.agg #[v0_, v1_]) ∧ Kd.R (Kd.int .i64) 3 w' w.heap.size (fun _ => True) v0_ r1 ∧ Kd.S k59D 59 w' w.heap.size (fun _ => True) v1_ r2 ∧ Below w.heap.size w w' := by
 unfold laws_toTree.f at h
 obtain ⟨t1, A1, h⟩ := lF h
 obtain ⟨t2, A2, h⟩ := lF h
 replace h := Option.some.inj h
 simp only [Prod.mk.injEq] at h
 obtain ⟨rfl, rfl⟩ := h
 exact walk_toTree _ _ _ _ _ _ _ _ _ _ w hr0_0 hc0_0 hr0_1 hc0_1 A1 A2
set_option maxHeartbeats 8000000 in
set_option maxRecDepth 100000 in
theorem walkFnExactTreePackbig (A0_0 : Option Addr) (c0_0 : Nat) (l0_0 : List (Int)) (A0_1 : Option Addr) (c0_1 : Nat) (l0_1 : List (S87)) (a1 : Int) (k1 : Nat) (r1_0 : Int) (w : World) (hr0_0 : Kd.C (Kd.int .i64) w A0_0 l0_0.length l0_0) (hc0_0 : l0_0.length ≤ c0_0) (hr0_1 : Kd.C k87 w A0_1 l0_1.length l0_1) (hc0_1 : l0_1.length ≤ c0_1) (Q1x : laws_szTree.f k1 l0_0 l0_1 1048576 = some r1_0) (pr1_0 : r1_0 < 0) :
  Calls Try.prog 3 #[.agg #[.slice A0_0 l0_0.length c0_0, .slice A0_1 l0_1.length c0_1], .int .i64 a1] w fun e w' => e = .returned (.bool true) ∧ Below w.heap.size w w' := by
 have hu25 := Try.underlying25
 have HR0_0 := aA.mk hr0_0
 have HC0_0 := aA.mk hc0_0
 clear hr0_0 hc0_0
 have HR0_1 := aA.mk hr0_1
 have HC0_1 := aA.mk hc0_1
 clear hr0_1 hc0_1
 have Q1 := aA.mk Q1x
 clear Q1x
 have dr1_0 : decide (r1_0 < 0) = true := by simp; omega
 clear pr1_0
 have HB := aA.mk (Below.refl w.heap.size w)
 have HORD := aA.mk (Nat.le_refl w.heap.size)
 have HT := aA.mk (Nat.le_refl w.heap.size)
 go_enter Try.func3, Try.ntmps3
 go_wp2_with (first | ((with_reducible refine aW (N := 2) rfl ?_); refine aX ?hg (N := 2) ?hd (cs := #[.slice A0_0 l0_0.length c0_0, .slice A0_1 l0_1.length c0_1]) (t := 25) ?hr ?_; (case hd => rfl); (case hg => rfl); (case hr => first | (go_simp; done) | (go_simp; rfl)); intro gb1 hg_ w1 hbox hb; have hge_ : w.heap.size ≤ gb1 := (by rw [hg_]; exact HT.out); have hlt_ : gb1 + 1 ≤ w1.heap.size := bF hbox; have n0_ := aA.mk (aU HB.out hb); have n1_ := aA.mk (hbox); have n2_ := aA.mk (And.intro HORD.out (And.intro hge_ (Nat.le_succ gb1))); have n3_ := aA.mk (hlt_); (try clear HB); (try clear BK1); (try clear HORD); (try clear HT); have HB := n0_; have BK1 := n1_; have HORD := n2_; have HT := n3_; clear n0_ n1_ n2_ n3_; clear hb hbox hg_ hge_ hlt_; have hzgb1_0_1 : w1.cell? ⟨gb1, 0, none⟩ = some (.slice A0_0 l0_0.length c0_0) := (aE BK1.out 0).trans rfl; have hygb1_0_1 := aD BK1.out 0; have hzgb1_1_1 : w1.cell? ⟨gb1, 1, none⟩ = some (.slice A0_1 l0_1.length c0_1) := (aE BK1.out 1).trans rfl; have hygb1_1_1 := aD BK1.out 1) | ((with_reducible refine bB (f := 6) rfl ?_); refine bP (some 15) rfl rfl Try.func6 (by kernel_rfl) rfl #[.agg #[.slice A0_0 l0_0.length c0_0, .slice A0_1 l0_1.length c0_1], .int .i64 1048576] rfl (by (try simp only [List.map_toArray, List.map_cons, List.map_nil]); first | done | rfl | (simp only [List.length_drop, List.length_take]; rfl)) ?_; (with_reducible refine (laws_szTree.calls k1 _ _ l0_0 _ _ l0_1 1048576 r1_0 _ ?s1 ?s2 ?s3 ?s4 Q1.out).mono ?_); (case s1 => exact (Kd.bJ HR0_0.out HB.out)); (case s2 => exact HC0_0.out); (case s3 => exact (Kd.bJ HR0_1.out HB.out)); (case s4 => exact HC0_1.out); rintro e_ w2 ⟨rfl, hb⟩; refine ⟨_, rfl, ?_⟩; have n0_ := aA.mk (aV BK1.out hb); have n1_ := aA.mk (aU HB.out hb); have n2_ := aA.mk (Nat.le_trans HT.out hb.size); (try clear BK1); (try clear HB); (try clear HT); have BK1 := n0_; have HB := n1_; have HT := n2_; clear n0_ n1_ n2_; (try clear hb); have hzgb1_0_2 : w2.cell? ⟨gb1, 0, none⟩ = some (.slice A0_0 l0_0.length c0_0) := (aE BK1.out 0).trans rfl; have hygb1_0_2 := aD BK1.out 0; have hzgb1_1_2 : w2.cell? ⟨gb1, 1, none⟩ = some (.slice A0_1 l0_1.length c0_1) := (aE BK1.out 1).trans rfl; have hygb1_1_2 := aD BK1.out 1))
 have hres_ := @results_tmp Try.f3 4 (by kernel_rfl)
 refine bodyPost_ret (fn := Try.f3) (P := Try.prog) (hres_ _ _ _) rfl ?_
 exact ⟨rfl, HB.out⟩
set_option maxHeartbeats 8000000 in
set_option maxRecDepth 100000 in
theorem walkFnExactTreePack (A0_0 : Option Addr) (c0_0 : Nat) (l0_0 : List (Int)) (A0_1 : Option Addr) (c0_1 : Nat) (l0_1 : List (S87)) (a1 : Int) (k1 : Nat) (k2 : Nat) (k3 : Nat) (k4 : Nat) (k5 : Nat) (k6 : Nat) (k9 : Nat) (r1_0 : Int) (r2_1 : List Int) (r2_2 : List (S59)) (r3_1 : List Int) (r3_2 : List (S59)) (r4_1 : List Int) (r4_2 : List (S59)) (r7_1 : Int) (r7_2 : List Int) (r7_3 : List S59) (r8_1 : Int) (r8_2 : List Int) (r8_3 : List S59) (w : World) (hr0_0 : Kd.C (Kd.int .i64) w A0_0 l0_0.length l0_0) (hc0_0 : l0_0.length ≤ c0_0) (hr0_1 : Kd.C k87 w A0_1 l0_1.length l0_1) (hc0_1 : l0_1.length ≤ c0_1) (Q1x : laws_szTree.f k1 l0_0 l0_1 1048576 = some r1_0) (Q2x : laws_toTree.f k2 l0_0 l0_1 = some (r2_1, r2_2)) (Q3x : spec_TreePack.f k3 r2_1 r2_2 a1 = some (r3_1, r3_2)) (Q4x : impl_TreePackS.f k4 r2_1 r2_2 a1 = some (r4_1, r4_2)) (Q5x : laws_eqTree.f k5 r4_1 r4_2 r3_1 r3_2 = some true) (Q6x : laws_eqTree.f k6 r2_1 r2_2 r2_1 r2_2 = some true) (Q7x : laws_markTree.f r2_1 r2_2 1 = some (r7_1, r7_2, r7_3)) (Q8x : laws_markTree.f r4_1 r4_2 1 = some (r8_1, r8_2, r8_3)) (Q9x : laws_heldTree.f k9 r8_2 r8_3 1 = some r8_1) (pr1_0 : 0 ≤ r1_0) (pr7_1 : 0 ≤ r7_1) (pr8_1 : 0 ≤ r8_1) :
  Calls Try.prog 3 #[.agg #[.slice A0_0 l0_0.length c0_0, .slice A0_1 l0_1.length c0_1], .int .i64 a1] w fun e w' => e = .returned (.bool true) ∧ Below w.heap.size w w' := by
 have hu25 := Try.underlying25
 have hu29 := Try.underlying29
 have HR0_0 := aA.mk hr0_0
 have HC0_0 := aA.mk hc0_0
 clear hr0_0 hc0_0
 have HR0_1 := aA.mk hr0_1
 have HC0_1 := aA.mk hc0_1
 clear hr0_1 hc0_1
 have Q1 := aA.mk Q1x
 clear Q1x
 have Q2 := aA.mk Q2x
 clear Q2x
 have Q3 := aA.mk Q3x
 clear Q3x
 have Q4 := aA.mk Q4x
 clear Q4x
 have Q5 := aA.mk Q5x
 clear Q5x
 have Q6 := aA.mk Q6x
 clear Q6x
 have Q7 := aA.mk Q7x
 clear Q7x
 have Q8 := aA.mk Q8x
 clear Q8x
 have Q9 := aA.mk Q9x
 clear Q9x
 have dr1_0 : decide (r1_0 < 0) = false := by simp; omega
 clear pr1_0
 have dr7_1 : decide (r7_1 < 0) = false := by simp; omega
 clear pr7_1
 have dr8_1 : decide (r8_1 < 0) = false := by simp; omega
 clear pr8_1
 have HB := aA.mk (Below.refl w.heap.size w)
 have HORD := aA.mk (Nat.le_refl w.heap.size)
 have HT := aA.mk (Nat.le_refl w.heap.size)
 go_enter Try.func3, Try.ntmps3
 go_wp2_with (first | ((with_reducible refine aW (N := 2) rfl ?_); refine aX ?hg (N := 2) ?hd (cs := #[.slice A0_0 l0_0.length c0_0, .slice A0_1 l0_1.length c0_1]) (t := 25) ?hr ?_; (case hd => rfl); (case hg => rfl); (case hr => first | (go_simp; done) | (go_simp; rfl)); intro gb1 hg_ w1 hbox hb; have hge_ : w.heap.size ≤ gb1 := (by rw [hg_]; exact HT.out); have hlt_ : gb1 + 1 ≤ w1.heap.size := bF hbox; have n0_ := aA.mk (aU HB.out hb); have n1_ := aA.mk (hbox); have n2_ := aA.mk (And.intro HORD.out (And.intro hge_ (Nat.le_succ gb1))); have n3_ := aA.mk (hlt_); (try clear HB); (try clear BK1); (try clear HORD); (try clear HT); have HB := n0_; have BK1 := n1_; have HORD := n2_; have HT := n3_; clear n0_ n1_ n2_ n3_; clear hb hbox hg_ hge_ hlt_; have hzgb1_0_1 : w1.cell? ⟨gb1, 0, none⟩ = some (.slice A0_0 l0_0.length c0_0) := (aE BK1.out 0).trans rfl; have hygb1_0_1 := aD BK1.out 0; have hzgb1_1_1 : w1.cell? ⟨gb1, 1, none⟩ = some (.slice A0_1 l0_1.length c0_1) := (aE BK1.out 1).trans rfl; have hygb1_1_1 := aD BK1.out 1) | ((with_reducible refine bB (f := 6) rfl ?_); refine bP (some 15) rfl rfl Try.func6 (by kernel_rfl) rfl #[.agg #[.slice A0_0 l0_0.length c0_0, .slice A0_1 l0_1.length c0_1], .int .i64 1048576] rfl (by (try simp only [List.map_toArray, List.map_cons, List.map_nil]); first | done | rfl | (simp only [List.length_drop, List.length_take]; rfl)) ?_; (with_reducible refine (laws_szTree.calls k1 _ _ l0_0 _ _ l0_1 1048576 r1_0 _ ?s1 ?s2 ?s3 ?s4 Q1.out).mono ?_); (case s1 => exact (Kd.bJ HR0_0.out HB.out)); (case s2 => exact HC0_0.out); (case s3 => exact (Kd.bJ HR0_1.out HB.out)); (case s4 => exact HC0_1.out); rintro e_ w2 ⟨rfl, hb⟩; refine ⟨_, rfl, ?_⟩; have n0_ := aA.mk (aV BK1.out hb); have n1_ := aA.mk (aU HB.out hb); have n2_ := aA.mk (Nat.le_trans HT.out hb.size); (try clear BK1); (try clear HB); (try clear HT); have BK1 := n0_; have HB := n1_; have HT := n2_; clear n0_ n1_ n2_; (try clear hb); have hzgb1_0_2 : w2.cell? ⟨gb1, 0, none⟩ = some (.slice A0_0 l0_0.length c0_0) := (aE BK1.out 0).trans rfl; have hygb1_0_2 := aD BK1.out 0; have hzgb1_1_2 : w2.cell? ⟨gb1, 1, none⟩ = some (.slice A0_1 l0_1.length c0_1) := (aE BK1.out 1).trans rfl; have hygb1_1_2 := aD BK1.out 1) | ((with_reducible refine bB (f := 8) rfl ?_); refine bP (some 19) rfl rfl Try.func8 (by kernel_rfl) rfl #[.agg #[.slice A0_0 l0_0.length c0_0, .slice A0_1 l0_1.length c0_1]] rfl (by (try simp only [List.map_toArray, List.map_cons, List.map_nil]); first | done | rfl | (simp only [List.length_drop, List.length_take]; rfl)) ?_; (with_reducible refine (laws_toTree.calls k2 _ _ l0_0 _ _ l0_1 r2_1 r2_2 _ ?s1 ?s2 ?s3 ?s4 Q2.out).mono ?_); (case s1 => exact (Kd.bJ HR0_0.out HB.out)); (case s2 => exact HC0_0.out); (case s3 => exact (Kd.bJ HR0_1.out HB.out)); (case s4 => exact HC0_1.out); rintro e_ w3 ⟨v0_, v1_, rfl, ho0, ho1, hb⟩; refine ⟨_, rfl, ?_⟩; obtain ⟨lo3, hi3, el_, eh_, ol_, oh_⟩ := Mem.times HT.out hb; (try rw [← el_] at ho0); obtain ⟨A3_0, c3_0, ev_, hc0_, hf0_, hs0_⟩ := Mem.new_R ho0 eh_; subst ev_; (try rw [← el_] at ho1); obtain ⟨A3_1, c3_1, ev_, hc1_, hf1_, hs1_⟩ := Mem.new_S ho1 eh_; subst ev_; have n0_ := aA.mk (aV BK1.out hb); have n1_ := aA.mk (aU HB.out hb); have n2_ := aA.mk (hf0_); have n3_ := aA.mk (hc0_); have n4_ := aA.mk (hs0_); have n5_ := aA.mk (hf1_); have n6_ := aA.mk (hc1_); have n7_ := aA.mk (hs1_); have n8_ := aA.mk (And.intro HORD.out (And.intro ol_ oh_)); have n9_ := aA.mk (Nat.le_of_eq eh_); (try clear BK1); (try clear HB); (try clear HF3_0); (try clear HC3_0); (try clear HS3_0); (try clear HF3_1); (try clear HC3_1); (try clear HS3_1); (try clear HORD); (try clear HT); have BK1 := n0_; have HB := n1_; have HF3_0 := n2_; have HC3_0 := n3_; have HS3_0 := n4_; have HF3_1 := n5_; have HC3_1 := n6_; have HS3_1 := n7_; have HORD := n8_; have HT := n9_; clear n0_ n1_ n2_ n3_ n4_ n5_ n6_ n7_ n8_ n9_; clear ol_ oh_ el_ eh_ ho0 hf0_ hc0_ hs0_ ho1 hf1_ hc1_ hs1_; (try clear hb); have hzgb1_0_3 : w3.cell? ⟨gb1, 0, none⟩ = some (.slice A0_0 l0_0.length c0_0) := (aE BK1.out 0).trans rfl; have hygb1_0_3 := aD BK1.out 0; have hzgb1_1_3 : w3.cell? ⟨gb1, 1, none⟩ = some (.slice A0_1 l0_1.length c0_1) := (aE BK1.out 1).trans rfl; have hygb1_1_3 := aD BK1.out 1) | ((with_reducible refine bB (f := 7) rfl ?_); refine bP (some 21) rfl rfl Try.func7 (by kernel_rfl) rfl #[.agg #[.slice A3_0 r2_1.length c3_0, .slice A3_1 r2_2.length c3_1], .int .i64 a1] rfl (by (try simp only [List.map_toArray, List.map_cons, List.map_nil]); first | done | rfl | (simp only [List.length_drop, List.length_take]; rfl)) ?_; (with_reducible refine (spec_TreePack.calls k3 _ _ r2_1 _ _ r2_2 a1 r3_1 r3_2 _ ?s1 ?s2 ?s3 ?s4 Q3.out).mono ?_); (case s1 => exact (Kd.F_now HF3_0.out)); (case s2 => exact HC3_0.out); (case s3 => exact (Kd.F_now HF3_1.out)); (case s4 => exact HC3_1.out); rintro e_ w4 ⟨v0_, v1_, rfl, ho0, ho1, hb⟩; refine ⟨_, rfl, ?_⟩; obtain ⟨lo4, hi4, el_, eh_, ol_, oh_⟩ := Mem.times HT.out hb; (try rw [← el_] at ho0); obtain ⟨A4_0, c4_0, ev_, hc0_, hf0_, hs0_⟩ := Mem.new_R ho0 eh_; subst ev_; (try rw [← el_] at ho1); obtain ⟨A4_1, c4_1, ev_, hc1_, hf1_⟩ := Mem.new_N (Kd.N_mono (ok' := fun k_ => lo4 ≤ k_) ho1 (fun _ h_ => by first | exact h_ | exact h_.1)) eh_; subst ev_; have n0_ := aA.mk (aV BK1.out hb); have n1_ := aA.mk (aU HB.out hb); have n2_ := aA.mk (hf0_); have n3_ := aA.mk (hc0_); have n4_ := aA.mk (hs0_); have n5_ := aA.mk (hf1_); have n6_ := aA.mk (hc1_); have n7_ := aA.mk (And.intro HORD.out (And.intro ol_ oh_)); have n8_ := aA.mk (Nat.le_of_eq eh_); (try clear HF3_0); (try clear HS3_0); (try clear HC3_0); (try clear HF3_1); (try clear HS3_1); (try clear HC3_1); (try clear BK1); (try clear HB); (try clear HF4_0); (try clear HC4_0); (try clear HS4_0); (try clear HF4_1); (try clear HC4_1); (try clear HORD); (try clear HT); have BK1 := n0_; have HB := n1_; have HF4_0 := n2_; have HC4_0 := n3_; have HS4_0 := n4_; have HF4_1 := n5_; have HC4_1 := n6_; have HORD := n7_; have HT := n8_; clear n0_ n1_ n2_ n3_ n4_ n5_ n6_ n7_ n8_; clear ol_ oh_ el_ eh_ ho0 hf0_ hc0_ hs0_ ho1 hf1_ hc1_; (try clear hb); have hzgb1_0_4 : w4.cell? ⟨gb1, 0, none⟩ = some (.slice A0_0 l0_0.length c0_0) := (aE BK1.out 0).trans rfl; have hygb1_0_4 := aD BK1.out 0; have hzgb1_1_4 : w4.cell? ⟨gb1, 1, none⟩ = some (.slice A0_1 l0_1.length c0_1) := (aE BK1.out 1).trans rfl; have hygb1_1_4 := aD BK1.out 1) | ((with_reducible refine aW (N := 6) rfl ?_); refine aX ?hg (N := 6) ?hd (cs := #[.slice none 0 0, .slice none 0 0]) (t := 29) ?hr ?_; (case hd => rfl); (case hg => rfl); (case hr => first | (go_simp; done) | (go_simp; rfl)); intro gb5 hg_ w5 hbox hb; have hge_ : hi4 ≤ gb5 := (by rw [hg_]; exact HT.out); have hlt_ : gb5 + 1 ≤ w5.heap.size := bF hbox; have n0_ := aA.mk (Kd.bE HF4_0.out hb); have n1_ := aA.mk (Kd.bU HS4_0.out hb); have n2_ := aA.mk (Kd.bE HF4_1.out hb); have n3_ := aA.mk (aV BK1.out hb); have n4_ := aA.mk (aU HB.out hb); have n5_ := aA.mk (hbox); have n6_ := aA.mk (And.intro HORD.out (And.intro hge_ (Nat.le_succ gb5))); have n7_ := aA.mk (hlt_); (try clear HF4_0); (try clear HS4_0); (try clear HF4_1); (try clear BK1); (try clear HB); (try clear BK5); (try clear HORD); (try clear HT); have HF4_0 := n0_; have HS4_0 := n1_; have HF4_1 := n2_; have BK1 := n3_; have HB := n4_; have BK5 := n5_; have HORD := n6_; have HT := n7_; clear n0_ n1_ n2_ n3_ n4_ n5_ n6_ n7_; clear hb hbox hg_ hge_ hlt_; have hzgb1_0_5 : w5.cell? ⟨gb1, 0, none⟩ = some (.slice A0_0 l0_0.length c0_0) := (aE BK1.out 0).trans rfl; have hygb1_0_5 := aD BK1.out 0; have hzgb1_1_5 : w5.cell? ⟨gb1, 1, none⟩ = some (.slice A0_1 l0_1.length c0_1) := (aE BK1.out 1).trans rfl; have hygb1_1_5 := aD BK1.out 1; have hzgb5_0_5 : w5.cell? ⟨gb5, 0, none⟩ = some (.slice none 0 0) := (aE BK5.out 0).trans rfl; have hygb5_0_5 := aD BK5.out 0; have hzgb5_1_5 : w5.cell? ⟨gb5, 1, none⟩ = some (.slice none 0 0) := (aE BK5.out 1).trans rfl; have hygb5_1_5 := aD BK5.out 1) | ((with_reducible refine gate_store (t := 29) (p := 6) rfl ?_); refine store_event (t := 29) (p := 6) (v := ?vo_w6) (w1 := ((w5.setCell ⟨gb5, 0, none⟩ (.slice A4_0 r3_1.length c4_0)).setCell ⟨gb5, 1, none⟩ (.slice A4_1 r3_2.length c4_1))) ?hg ?ho ?hn ?hr ?_; (case ho => rfl); (case hg => rfl); (case hn => rfl); (case hr => first | (go_simp; done) | (go_simp; rfl)); intro w6 hw_; have hkp : Kept w5 w6 (fun k_ => k_ = gb5) := (by rw [hw_]; exact Kept.setCell (Kept.setCell (Kept.refl w5 (fun k_ => k_ = gb5)) (.inl rfl) (.slice A4_0 r3_1.length c4_0)) (.inl rfl) (.slice A4_1 r3_2.length c4_1)); have hge_ : w.heap.size ≤ gb5 := (by have o_ := HORD.out; (try unfold In at *); (try show _ ≠ _); omega); have hbn_ : Below w.heap.size w w6 := (by rw [hw_]; exact aJ (aJ (HB.out) hge_) hge_); have hbk_ : w6.heap[gb5]? = some (.cells #[.slice A4_0 r3_1.length c4_0, .slice A4_1 r3_2.length c4_1] 29 (0, 0)) := (by rw [hw_]; exact bG (cs := #[.slice A4_0 r3_1.length c4_0, .slice none 0 0]) (cs' := #[.slice A4_0 r3_1.length c4_0, .slice A4_1 r3_2.length c4_1]) (bG (cs := #[.slice none 0 0, .slice none 0 0]) (cs' := #[.slice A4_0 r3_1.length c4_0, .slice none 0 0]) (BK5.out) 0 _ rfl) 1 _ rfl); have hsz_ : (gb5 + 1) ≤ w6.heap.size := Nat.le_trans HT.out hkp.1; have n0_ := aA.mk (Kd.bT HF4_0.out hkp (fun k_ h1_ h2_ => by have o_ := HORD.out; unfold In at h1_; omega)); have n1_ := aA.mk (Kd.R_kept HS4_0.out hkp (fun k_ h1_ h2_ => by have o_ := HORD.out; unfold In at h1_; omega)); have n2_ := aA.mk (Kd.bT HF4_1.out hkp (fun k_ h1_ h2_ => by have o_ := HORD.out; unfold In at h1_; omega)); have n3_ := aA.mk (bV BK1.out hkp (fun h2_ => by have o_ := HORD.out; omega)); have n4_ := aA.mk (hbn_); have n5_ := aA.mk (hbk_); have n6_ := aA.mk (hsz_); (try clear HF4_0); (try clear HS4_0); (try clear HF4_1); (try clear BK1); (try clear HB); (try clear BK5); (try clear HT); have HF4_0 := n0_; have HS4_0 := n1_; have HF4_1 := n2_; have BK1 := n3_; have HB := n4_; have BK5 := n5_; have HT := n6_; clear n0_ n1_ n2_ n3_ n4_ n5_ n6_; clear hw_ hkp hge_ hbn_ hbk_ hsz_; have hzgb1_0_6 : w6.cell? ⟨gb1, 0, none⟩ = some (.slice A0_0 l0_0.length c0_0) := (aE BK1.out 0).trans rfl; have hygb1_0_6 := aD BK1.out 0; have hzgb1_1_6 : w6.cell? ⟨gb1, 1, none⟩ = some (.slice A0_1 l0_1.length c0_1) := (aE BK1.out 1).trans rfl; have hygb1_1_6 := aD BK1.out 1; have hzgb5_0_6 : w6.cell? ⟨gb5, 0, none⟩ = some (.slice A4_0 r3_1.length c4_0) := (aE BK5.out 0).trans rfl; have hygb5_0_6 := aD BK5.out 0; have hzgb5_1_6 : w6.cell? ⟨gb5, 1, none⟩ = some (.slice A4_1 r3_2.length c4_1) := (aE BK5.out 1).trans rfl; have hygb5_1_6 := aD BK5.out 1) | ((with_reducible refine bB (f := 8) rfl ?_); refine bP (some 23) rfl rfl Try.func8 (by kernel_rfl) rfl #[.agg #[.slice A0_0 l0_0.length c0_0, .slice A0_1 l0_1.length c0_1]] rfl (by (try simp only [List.map_toArray, List.map_cons, List.map_nil]); first | done | rfl | (simp only [List.length_drop, List.length_take]; rfl)) ?_; (with_reducible refine (laws_toTree.calls k2 _ _ l0_0 _ _ l0_1 r2_1 r2_2 _ ?s1 ?s2 ?s3 ?s4 Q2.out).mono ?_); (case s1 => exact (Kd.bJ HR0_0.out HB.out)); (case s2 => exact HC0_0.out); (case s3 => exact (Kd.bJ HR0_1.out HB.out)); (case s4 => exact HC0_1.out); rintro e_ w7 ⟨v0_, v1_, rfl, ho0, ho1, hb⟩; refine ⟨_, rfl, ?_⟩; obtain ⟨lo7, hi7, el_, eh_, ol_, oh_⟩ := Mem.times HT.out hb; (try rw [← el_] at ho0); obtain ⟨A7_0, c7_0, ev_, hc0_, hf0_, hs0_⟩ := Mem.new_R ho0 eh_; subst ev_; (try rw [← el_] at ho1); obtain ⟨A7_1, c7_1, ev_, hc1_, hf1_, hs1_⟩ := Mem.new_S ho1 eh_; subst ev_; have n0_ := aA.mk (Kd.bE HF4_0.out hb); have n1_ := aA.mk (Kd.bU HS4_0.out hb); have n2_ := aA.mk (Kd.bE HF4_1.out hb); have n3_ := aA.mk (aV BK1.out hb); have n4_ := aA.mk (aV BK5.out hb); have n5_ := aA.mk (aU HB.out hb); have n6_ := aA.mk (hf0_); have n7_ := aA.mk (hc0_); have n8_ := aA.mk (hs0_); have n9_ := aA.mk (hf1_); have n10_ := aA.mk (hc1_); have n11_ := aA.mk (hs1_); have n12_ := aA.mk (And.intro HORD.out (And.intro ol_ oh_)); have n13_ := aA.mk (Nat.le_of_eq eh_); (try clear HF4_0); (try clear HS4_0); (try clear HF4_1); (try clear BK1); (try clear BK5); (try clear HB); (try clear HF7_0); (try clear HC7_0); (try clear HS7_0); (try clear HF7_1); (try clear HC7_1); (try clear HS7_1); (try clear HORD); (try clear HT); have HF4_0 := n0_; have HS4_0 := n1_; have HF4_1 := n2_; have BK1 := n3_; have BK5 := n4_; have HB := n5_; have HF7_0 := n6_; have HC7_0 := n7_; have HS7_0 := n8_; have HF7_1 := n9_; have HC7_1 := n10_; have HS7_1 := n11_; have HORD := n12_; have HT := n13_; clear n0_ n1_ n2_ n3_ n4_ n5_ n6_ n7_ n8_ n9_ n10_ n11_ n12_ n13_; clear ol_ oh_ el_ eh_ ho0 hf0_ hc0_ hs0_ ho1 hf1_ hc1_ hs1_; (try clear hb); have hzgb1_0_7 : w7.cell? ⟨gb1, 0, none⟩ = some (.slice A0_0 l0_0.length c0_0) := (aE BK1.out 0).trans rfl; have hygb1_0_7 := aD BK1.out 0; have hzgb1_1_7 : w7.cell? ⟨gb1, 1, none⟩ = some (.slice A0_1 l0_1.length c0_1) := (aE BK1.out 1).trans rfl; have hygb1_1_7 := aD BK1.out 1; have hzgb5_0_7 : w7.cell? ⟨gb5, 0, none⟩ = some (.slice A4_0 r3_1.length c4_0) := (aE BK5.out 0).trans rfl; have hygb5_0_7 := aD BK5.out 0; have hzgb5_1_7 : w7.cell? ⟨gb5, 1, none⟩ = some (.slice A4_1 r3_2.length c4_1) := (aE BK5.out 1).trans rfl; have hygb5_1_7 := aD BK5.out 1) | ((with_reducible refine aW (N := 7) rfl ?_); refine aX ?hg (N := 7) ?hd (cs := #[.slice none 0 0, .slice none 0 0]) (t := 29) ?hr ?_; (case hd => rfl); (case hg => rfl); (case hr => first | (go_simp; done) | (go_simp; rfl)); intro gb8 hg_ w8 hbox hb; have hge_ : hi7 ≤ gb8 := (by rw [hg_]; exact HT.out); have hlt_ : gb8 + 1 ≤ w8.heap.size := bF hbox; have n0_ := aA.mk (Kd.bE HF4_0.out hb); have n1_ := aA.mk (Kd.bU HS4_0.out hb); have n2_ := aA.mk (Kd.bE HF4_1.out hb); have n3_ := aA.mk (Kd.bE HF7_0.out hb); have n4_ := aA.mk (Kd.bU HS7_0.out hb); have n5_ := aA.mk (Kd.bE HF7_1.out hb); have n6_ := aA.mk (Kd.S_below HS7_1.out hb); have n7_ := aA.mk (aV BK1.out hb); have n8_ := aA.mk (aV BK5.out hb); have n9_ := aA.mk (aU HB.out hb); have n10_ := aA.mk (hbox); have n11_ := aA.mk (And.intro HORD.out (And.intro hge_ (Nat.le_succ gb8))); have n12_ := aA.mk (hlt_); (try clear HF4_0); (try clear HS4_0); (try clear HF4_1); (try clear HF7_0); (try clear HS7_0); (try clear HF7_1); (try clear HS7_1); (try clear BK1); (try clear BK5); (try clear HB); (try clear BK8); (try clear HORD); (try clear HT); have HF4_0 := n0_; have HS4_0 := n1_; have HF4_1 := n2_; have HF7_0 := n3_; have HS7_0 := n4_; have HF7_1 := n5_; have HS7_1 := n6_; have BK1 := n7_; have BK5 := n8_; have HB := n9_; have BK8 := n10_; have HORD := n11_; have HT := n12_; clear n0_ n1_ n2_ n3_ n4_ n5_ n6_ n7_ n8_ n9_ n10_ n11_ n12_; clear hb hbox hg_ hge_ hlt_; have hzgb1_0_8 : w8.cell? ⟨gb1, 0, none⟩ = some (.slice A0_0 l0_0.length c0_0) := (aE BK1.out 0).trans rfl; have hygb1_0_8 := aD BK1.out 0; have hzgb1_1_8 : w8.cell? ⟨gb1, 1, none⟩ = some (.slice A0_1 l0_1.length c0_1) := (aE BK1.out 1).trans rfl; have hygb1_1_8 := aD BK1.out 1; have hzgb5_0_8 : w8.cell? ⟨gb5, 0, none⟩ = some (.slice A4_0 r3_1.length c4_0) := (aE BK5.out 0).trans rfl; have hygb5_0_8 := aD BK5.out 0; have hzgb5_1_8 : w8.cell? ⟨gb5, 1, none⟩ = some (.slice A4_1 r3_2.length c4_1) := (aE BK5.out 1).trans rfl; have hygb5_1_8 := aD BK5.out 1; have hzgb8_0_8 : w8.cell? ⟨gb8, 0, none⟩ = some (.slice none 0 0) := (aE BK8.out 0).trans rfl; have hygb8_0_8 := aD BK8.out 0; have hzgb8_1_8 : w8.cell? ⟨gb8, 1, none⟩ = some (.slice none 0 0) := (aE BK8.out 1).trans rfl; have hygb8_1_8 := aD BK8.out 1) | ((with_reducible refine gate_store (t := 29) (p := 7) rfl ?_); refine store_event (t := 29) (p := 7) (v := ?vo_w9) (w1 := ((w8.setCell ⟨gb8, 0, none⟩ (.slice A7_0 r2_1.length c7_0)).setCell ⟨gb8, 1, none⟩ (.slice A7_1 r2_2.length c7_1))) ?hg ?ho ?hn ?hr ?_; (case ho => rfl); (case hg => rfl); (case hn => rfl); (case hr => first | (go_simp; done) | (go_simp; rfl)); intro w9 hw_; have hkp : Kept w8 w9 (fun k_ => k_ = gb8) := (by rw [hw_]; exact Kept.setCell (Kept.setCell (Kept.refl w8 (fun k_ => k_ = gb8)) (.inl rfl) (.slice A7_0 r2_1.length c7_0)) (.inl rfl) (.slice A7_1 r2_2.length c7_1)); have hge_ : w.heap.size ≤ gb8 := (by have o_ := HORD.out; (try unfold In at *); (try show _ ≠ _); omega); have hbn_ : Below w.heap.size w w9 := (by rw [hw_]; exact aJ (aJ (HB.out) hge_) hge_); have hbk_ : w9.heap[gb8]? = some (.cells #[.slice A7_0 r2_1.length c7_0, .slice A7_1 r2_2.length c7_1] 29 (0, 0)) := (by rw [hw_]; exact bG (cs := #[.slice A7_0 r2_1.length c7_0, .slice none 0 0]) (cs' := #[.slice A7_0 r2_1.length c7_0, .slice A7_1 r2_2.length c7_1]) (bG (cs := #[.slice none 0 0, .slice none 0 0]) (cs' := #[.slice A7_0 r2_1.length c7_0, .slice none 0 0]) (BK8.out) 0 _ rfl) 1 _ rfl); have hsz_ : (gb8 + 1) ≤ w9.heap.size := Nat.le_trans HT.out hkp.1; have n0_ := aA.mk (Kd.bT HF4_0.out hkp (fun k_ h1_ h2_ => by have o_ := HORD.out; unfold In at h1_; omega)); have n1_ := aA.mk (Kd.R_kept HS4_0.out hkp (fun k_ h1_ h2_ => by have o_ := HORD.out; unfold In at h1_; omega)); have n2_ := aA.mk (Kd.bT HF4_1.out hkp (fun k_ h1_ h2_ => by have o_ := HORD.out; unfold In at h1_; omega)); have n3_ := aA.mk (Kd.bT HF7_0.out hkp (fun k_ h1_ h2_ => by have o_ := HORD.out; unfold In at h1_; omega)); have n4_ := aA.mk (Kd.R_kept HS7_0.out hkp (fun k_ h1_ h2_ => by have o_ := HORD.out; unfold In at h1_; omega)); have n5_ := aA.mk (Kd.bT HF7_1.out hkp (fun k_ h1_ h2_ => by have o_ := HORD.out; unfold In at h1_; omega)); have n6_ := aA.mk (Kd.S_kept HS7_1.out hkp (fun k_ h1_ h2_ => by have o_ := HORD.out; unfold In at h1_; omega)); have n7_ := aA.mk (bV BK1.out hkp (fun h2_ => by have o_ := HORD.out; omega)); have n8_ := aA.mk (bV BK5.out hkp (fun h2_ => by have o_ := HORD.out; omega)); have n9_ := aA.mk (hbn_); have n10_ := aA.mk (hbk_); have n11_ := aA.mk (hsz_); (try clear HF4_0); (try clear HS4_0); (try clear HF4_1); (try clear HF7_0); (try clear HS7_0); (try clear HF7_1); (try clear HS7_1); (try clear BK1); (try clear BK5); (try clear HB); (try clear BK8); (try clear HT); have HF4_0 := n0_; have HS4_0 := n1_; have HF4_1 := n2_; have HF7_0 := n3_; have HS7_0 := n4_; have HF7_1 := n5_; have HS7_1 := n6_; have BK1 := n7_; have BK5 := n8_; have HB := n9_; have BK8 := n10_; have HT := n11_; clear n0_ n1_ n2_ n3_ n4_ n5_ n6_ n7_ n8_ n9_ n10_ n11_; clear hw_ hkp hge_ hbn_ hbk_ hsz_; have hzgb1_0_9 : w9.cell? ⟨gb1, 0, none⟩ = some (.slice A0_0 l0_0.length c0_0) := (aE BK1.out 0).trans rfl; have hygb1_0_9 := aD BK1.out 0; have hzgb1_1_9 : w9.cell? ⟨gb1, 1, none⟩ = some (.slice A0_1 l0_1.length c0_1) := (aE BK1.out 1).trans rfl; have hygb1_1_9 := aD BK1.out 1; have hzgb5_0_9 : w9.cell? ⟨gb5, 0, none⟩ = some (.slice A4_0 r3_1.length c4_0) := (aE BK5.out 0).trans rfl; have hygb5_0_9 := aD BK5.out 0; have hzgb5_1_9 : w9.cell? ⟨gb5, 1, none⟩ = some (.slice A4_1 r3_2.length c4_1) := (aE BK5.out 1).trans rfl; have hygb5_1_9 := aD BK5.out 1; have hzgb8_0_9 : w9.cell? ⟨gb8, 0, none⟩ = some (.slice A7_0 r2_1.length c7_0) := (aE BK8.out 0).trans rfl; have hygb8_0_9 := aD BK8.out 0; have hzgb8_1_9 : w9.cell? ⟨gb8, 1, none⟩ = some (.slice A7_1 r2_2.length c7_1) := (aE BK8.out 1).trans rfl; have hygb8_1_9 := aD BK8.out 1) | ((with_reducible refine bB (f := 9) rfl ?_); refine bP (some 26) rfl rfl Try.func9 (by kernel_rfl) rfl #[.agg #[.slice A7_0 r2_1.length c7_0, .slice A7_1 r2_2.length c7_1], .int .i64 a1] rfl (by (try simp only [List.map_toArray, List.map_cons, List.map_nil]); first | done | rfl | (simp only [List.length_drop, List.length_take]; rfl)) ?_; (with_reducible refine (impl_TreePackS.calls k4 (In lo7 hi7) _ _ r2_1 (In lo7 hi7) _ _ r2_2 a1 r4_1 r4_2 _ ?s1 ?s2 Q4.out).mono ?_); (case s1 => exact ⟨_, _, rfl, HC7_0.out, HF7_0.out⟩); (case s2 => exact ⟨_, _, rfl, HC7_1.out, HF7_1.out⟩); rintro e_ w10 ⟨v0_, v1_, mm10, rfl, hm1_, hm2_, ho0, ho1, hb⟩; refine ⟨_, rfl, ?_⟩; obtain ⟨lo10, hi10, el_, eh_, ol_, oh_⟩ := Mem.times HT.out hb; rw [← el_] at hm1_; rw [← eh_] at hm2_; rw [← el_] at ho0; obtain ⟨A10_0, c10_0, ev_, hc0_, hf0_, hs0_⟩ := new_RI2 ho0; subst ev_; rw [← eh_] at ho1; (try rw [← el_] at ho1); obtain ⟨A10_1, c10_1, ev_, hc1_, hf1_, hs1_⟩ := new_SI2 ho1; subst ev_; have n0_ := aA.mk (Kd.bE HF4_0.out hb); have n1_ := aA.mk (Kd.bU HS4_0.out hb); have n2_ := aA.mk (Kd.bE HF4_1.out hb); have n3_ := aA.mk (Kd.bE HF7_0.out hb); have n4_ := aA.mk (Kd.bU HS7_0.out hb); have n5_ := aA.mk (Kd.bE HF7_1.out hb); have n6_ := aA.mk (Kd.S_below HS7_1.out hb); have n7_ := aA.mk (aV BK1.out hb); have n8_ := aA.mk (aV BK5.out hb); have n9_ := aA.mk (aV BK8.out hb); have n10_ := aA.mk (aU HB.out hb); have n11_ := aA.mk (hf0_); have n12_ := aA.mk (hc0_); have n13_ := aA.mk (hs0_); have n14_ := aA.mk (hf1_); have n15_ := aA.mk (hc1_); have n16_ := aA.mk (hs1_); have n17_ := aA.mk (And.intro HORD.out (And.intro ol_ (And.intro hm1_ hm2_))); have n18_ := aA.mk (Nat.le_of_eq eh_); (try clear HF4_0); (try clear HS4_0); (try clear HF4_1); (try clear HF7_0); (try clear HS7_0); (try clear HF7_1); (try clear HS7_1); (try clear BK1); (try clear BK5); (try clear BK8); (try clear HB); (try clear HF10_0); (try clear HC10_0); (try clear HS10_0); (try clear HF10_1); (try clear HC10_1); (try clear HS10_1); (try clear HORD); (try clear HT); have HF4_0 := n0_; have HS4_0 := n1_; have HF4_1 := n2_; have HF7_0 := n3_; have HS7_0 := n4_; have HF7_1 := n5_; have HS7_1 := n6_; have BK1 := n7_; have BK5 := n8_; have BK8 := n9_; have HB := n10_; have HF10_0 := n11_; have HC10_0 := n12_; have HS10_0 := n13_; have HF10_1 := n14_; have HC10_1 := n15_; have HS10_1 := n16_; have HORD := n17_; have HT := n18_; clear n0_ n1_ n2_ n3_ n4_ n5_ n6_ n7_ n8_ n9_ n10_ n11_ n12_ n13_ n14_ n15_ n16_ n17_ n18_; clear hm1_ hm2_; clear ol_ oh_ el_ eh_ ho0 hf0_ hc0_ hs0_ ho1 hf1_ hc1_ hs1_; (try clear hb); have hzgb1_0_10 : w10.cell? ⟨gb1, 0, none⟩ = some (.slice A0_0 l0_0.length c0_0) := (aE BK1.out 0).trans rfl; have hygb1_0_10 := aD BK1.out 0; have hzgb1_1_10 : w10.cell? ⟨gb1, 1, none⟩ = some (.slice A0_1 l0_1.length c0_1) := (aE BK1.out 1).trans rfl; have hygb1_1_10 := aD BK1.out 1; have hzgb5_0_10 : w10.cell? ⟨gb5, 0, none⟩ = some (.slice A4_0 r3_1.length c4_0) := (aE BK5.out 0).trans rfl; have hygb5_0_10 := aD BK5.out 0; have hzgb5_1_10 : w10.cell? ⟨gb5, 1, none⟩ = some (.slice A4_1 r3_2.length c4_1) := (aE BK5.out 1).trans rfl; have hygb5_1_10 := aD BK5.out 1; have hzgb8_0_10 : w10.cell? ⟨gb8, 0, none⟩ = some (.slice A7_0 r2_1.length c7_0) := (aE BK8.out 0).trans rfl; have hygb8_0_10 := aD BK8.out 0; have hzgb8_1_10 : w10.cell? ⟨gb8, 1, none⟩ = some (.slice A7_1 r2_2.length c7_1) := (aE BK8.out 1).trans rfl; have hygb8_1_10 := aD BK8.out 1) | ((with_reducible refine aW (N := 8) rfl ?_); refine aX ?hg (N := 8) ?hd (cs := #[.slice none 0 0, .slice none 0 0]) (t := 29) ?hr ?_; (case hd => rfl); (case hg => rfl); (case hr => first | (go_simp; done) | (go_simp; rfl)); intro gb11 hg_ w11 hbox hb; have hge_ : hi10 ≤ gb11 := (by rw [hg_]; exact HT.out); have hlt_ : gb11 + 1 ≤ w11.heap.size := bF hbox; have n0_ := aA.mk (Kd.bE HF4_0.out hb); have n1_ := aA.mk (Kd.bU HS4_0.out hb); have n2_ := aA.mk (Kd.bE HF4_1.out hb); have n3_ := aA.mk (Kd.bE HF7_0.out hb); have n4_ := aA.mk (Kd.bU HS7_0.out hb); have n5_ := aA.mk (Kd.bE HF7_1.out hb); have n6_ := aA.mk (Kd.S_below HS7_1.out hb); have n7_ := aA.mk (Kd.bE HF10_0.out hb); have n8_ := aA.mk (Kd.bU HS10_0.out hb); have n9_ := aA.mk (Kd.bE HF10_1.out hb); have n10_ := aA.mk (Kd.S_below HS10_1.out hb); have n11_ := aA.mk (aV BK1.out hb); have n12_ := aA.mk (aV BK5.out hb); have n13_ := aA.mk (aV BK8.out hb); have n14_ := aA.mk (aU HB.out hb); have n15_ := aA.mk (hbox); have n16_ := aA.mk (And.intro HORD.out (And.intro hge_ (Nat.le_succ gb11))); have n17_ := aA.mk (hlt_); (try clear HF4_0); (try clear HS4_0); (try clear HF4_1); (try clear HF7_0); (try clear HS7_0); (try clear HF7_1); (try clear HS7_1); (try clear HF10_0); (try clear HS10_0); (try clear HF10_1); (try clear HS10_1); (try clear BK1); (try clear BK5); (try clear BK8); (try clear HB); (try clear BK11); (try clear HORD); (try clear HT); have HF4_0 := n0_; have HS4_0 := n1_; have HF4_1 := n2_; have HF7_0 := n3_; have HS7_0 := n4_; have HF7_1 := n5_; have HS7_1 := n6_; have HF10_0 := n7_; have HS10_0 := n8_; have HF10_1 := n9_; have HS10_1 := n10_; have BK1 := n11_; have BK5 := n12_; have BK8 := n13_; have HB := n14_; have BK11 := n15_; have HORD := n16_; have HT := n17_; clear n0_ n1_ n2_ n3_ n4_ n5_ n6_ n7_ n8_ n9_ n10_ n11_ n12_ n13_ n14_ n15_ n16_ n17_; clear hb hbox hg_ hge_ hlt_; have hzgb1_0_11 : w11.cell? ⟨gb1, 0, none⟩ = some (.slice A0_0 l0_0.length c0_0) := (aE BK1.out 0).trans rfl; have hygb1_0_11 := aD BK1.out 0; have hzgb1_1_11 : w11.cell? ⟨gb1, 1, none⟩ = some (.slice A0_1 l0_1.length c0_1) := (aE BK1.out 1).trans rfl; have hygb1_1_11 := aD BK1.out 1; have hzgb5_0_11 : w11.cell? ⟨gb5, 0, none⟩ = some (.slice A4_0 r3_1.length c4_0) := (aE BK5.out 0).trans rfl; have hygb5_0_11 := aD BK5.out 0; have hzgb5_1_11 : w11.cell? ⟨gb5, 1, none⟩ = some (.slice A4_1 r3_2.length c4_1) := (aE BK5.out 1).trans rfl; have hygb5_1_11 := aD BK5.out 1; have hzgb8_0_11 : w11.cell? ⟨gb8, 0, none⟩ = some (.slice A7_0 r2_1.length c7_0) := (aE BK8.out 0).trans rfl; have hygb8_0_11 := aD BK8.out 0; have hzgb8_1_11 : w11.cell? ⟨gb8, 1, none⟩ = some (.slice A7_1 r2_2.length c7_1) := (aE BK8.out 1).trans rfl; have hygb8_1_11 := aD BK8.out 1; have hzgb11_0_11 : w11.cell? ⟨gb11, 0, none⟩ = some (.slice none 0 0) := (aE BK11.out 0).trans rfl; have hygb11_0_11 := aD BK11.out 0; have hzgb11_1_11 : w11.cell? ⟨gb11, 1, none⟩ = some (.slice none 0 0) := (aE BK11.out 1).trans rfl; have hygb11_1_11 := aD BK11.out 1) | ((with_reducible refine gate_store (t := 29) (p := 8) rfl ?_); refine store_event (t := 29) (p := 8) (v := ?vo_w12) (w1 := ((w11.setCell ⟨gb11, 0, none⟩ (.slice A10_0 r4_1.length c10_0)).setCell ⟨gb11, 1, none⟩ (.slice A10_1 r4_2.length c10_1))) ?hg ?ho ?hn ?hr ?_; (case ho => rfl); (case hg => rfl); (case hn => rfl); (case hr => first | (go_simp; done) | (go_simp; rfl)); intro w12 hw_; have hkp : Kept w11 w12 (fun k_ => k_ = gb11) := (by rw [hw_]; exact Kept.setCell (Kept.setCell (Kept.refl w11 (fun k_ => k_ = gb11)) (.inl rfl) (.slice A10_0 r4_1.length c10_0)) (.inl rfl) (.slice A10_1 r4_2.length c10_1)); have hge_ : w.heap.size ≤ gb11 := (by have o_ := HORD.out; (try unfold In at *); (try show _ ≠ _); omega); have hbn_ : Below w.heap.size w w12 := (by rw [hw_]; exact aJ (aJ (HB.out) hge_) hge_); have hbk_ : w12.heap[gb11]? = some (.cells #[.slice A10_0 r4_1.length c10_0, .slice A10_1 r4_2.length c10_1] 29 (0, 0)) := (by rw [hw_]; exact bG (cs := #[.slice A10_0 r4_1.length c10_0, .slice none 0 0]) (cs' := #[.slice A10_0 r4_1.length c10_0, .slice A10_1 r4_2.length c10_1]) (bG (cs := #[.slice none 0 0, .slice none 0 0]) (cs' := #[.slice A10_0 r4_1.length c10_0, .slice none 0 0]) (BK11.out) 0 _ rfl) 1 _ rfl); have hsz_ : (gb11 + 1) ≤ w12.heap.size := Nat.le_trans HT.out hkp.1; have n0_ := aA.mk (Kd.bT HF4_0.out hkp (fun k_ h1_ h2_ => by have o_ := HORD.out; unfold In at h1_; omega)); have n1_ := aA.mk (Kd.R_kept HS4_0.out hkp (fun k_ h1_ h2_ => by have o_ := HORD.out; unfold In at h1_; omega)); have n2_ := aA.mk (Kd.bT HF4_1.out hkp (fun k_ h1_ h2_ => by have o_ := HORD.out; unfold In at h1_; omega)); have n3_ := aA.mk (Kd.bT HF7_0.out hkp (fun k_ h1_ h2_ => by have o_ := HORD.out; unfold In at h1_; omega)); have n4_ := aA.mk (Kd.R_kept HS7_0.out hkp (fun k_ h1_ h2_ => by have o_ := HORD.out; unfold In at h1_; omega)); have n5_ := aA.mk (Kd.bT HF7_1.out hkp (fun k_ h1_ h2_ => by have o_ := HORD.out; unfold In at h1_; omega)); have n6_ := aA.mk (Kd.S_kept HS7_1.out hkp (fun k_ h1_ h2_ => by have o_ := HORD.out; unfold In at h1_; omega)); have n7_ := aA.mk (Kd.bT HF10_0.out hkp (fun k_ h1_ h2_ => by have o_ := HORD.out; unfold In at h1_; omega)); have n8_ := aA.mk (Kd.R_kept HS10_0.out hkp (fun k_ h1_ h2_ => by have o_ := HORD.out; unfold In at h1_; omega)); have n9_ := aA.mk (Kd.bT HF10_1.out hkp (fun k_ h1_ h2_ => by have o_ := HORD.out; unfold In at h1_; omega)); have n10_ := aA.mk (Kd.S_kept HS10_1.out hkp (fun k_ h1_ h2_ => by have o_ := HORD.out; unfold In at h1_; omega)); have n11_ := aA.mk (bV BK1.out hkp (fun h2_ => by have o_ := HORD.out; omega)); have n12_ := aA.mk (bV BK5.out hkp (fun h2_ => by have o_ := HORD.out; omega)); have n13_ := aA.mk (bV BK8.out hkp (fun h2_ => by have o_ := HORD.out; omega)); have n14_ := aA.mk (hbn_); have n15_ := aA.mk (hbk_); have n16_ := aA.mk (hsz_); (try clear HF4_0); (try clear HS4_0); (try clear HF4_1); (try clear HF7_0); (try clear HS7_0); (try clear HF7_1); (try clear HS7_1); (try clear HF10_0); (try clear HS10_0); (try clear HF10_1); (try clear HS10_1); (try clear BK1); (try clear BK5); (try clear BK8); (try clear HB); (try clear BK11); (try clear HT); have HF4_0 := n0_; have HS4_0 := n1_; have HF4_1 := n2_; have HF7_0 := n3_; have HS7_0 := n4_; have HF7_1 := n5_; have HS7_1 := n6_; have HF10_0 := n7_; have HS10_0 := n8_; have HF10_1 := n9_; have HS10_1 := n10_; have BK1 := n11_; have BK5 := n12_; have BK8 := n13_; have HB := n14_; have BK11 := n15_; have HT := n16_; clear n0_ n1_ n2_ n3_ n4_ n5_ n6_ n7_ n8_ n9_ n10_ n11_ n12_ n13_ n14_ n15_ n16_; clear hw_ hkp hge_ hbn_ hbk_ hsz_; have hzgb1_0_12 : w12.cell? ⟨gb1, 0, none⟩ = some (.slice A0_0 l0_0.length c0_0) := (aE BK1.out 0).trans rfl; have hygb1_0_12 := aD BK1.out 0; have hzgb1_1_12 : w12.cell? ⟨gb1, 1, none⟩ = some (.slice A0_1 l0_1.length c0_1) := (aE BK1.out 1).trans rfl; have hygb1_1_12 := aD BK1.out 1; have hzgb5_0_12 : w12.cell? ⟨gb5, 0, none⟩ = some (.slice A4_0 r3_1.length c4_0) := (aE BK5.out 0).trans rfl; have hygb5_0_12 := aD BK5.out 0; have hzgb5_1_12 : w12.cell? ⟨gb5, 1, none⟩ = some (.slice A4_1 r3_2.length c4_1) := (aE BK5.out 1).trans rfl; have hygb5_1_12 := aD BK5.out 1; have hzgb8_0_12 : w12.cell? ⟨gb8, 0, none⟩ = some (.slice A7_0 r2_1.length c7_0) := (aE BK8.out 0).trans rfl; have hygb8_0_12 := aD BK8.out 0; have hzgb8_1_12 : w12.cell? ⟨gb8, 1, none⟩ = some (.slice A7_1 r2_2.length c7_1) := (aE BK8.out 1).trans rfl; have hygb8_1_12 := aD BK8.out 1; have hzgb11_0_12 : w12.cell? ⟨gb11, 0, none⟩ = some (.slice A10_0 r4_1.length c10_0) := (aE BK11.out 0).trans rfl; have hygb11_0_12 := aD BK11.out 0; have hzgb11_1_12 : w12.cell? ⟨gb11, 1, none⟩ = some (.slice A10_1 r4_2.length c10_1) := (aE BK11.out 1).trans rfl; have hygb11_1_12 := aD BK11.out 1) | ((with_reducible refine bB (f := 10) rfl ?_); refine bP (some 29) rfl rfl Try.func10 (by kernel_rfl) rfl #[.agg #[.slice A10_0 r4_1.length c10_0, .slice A10_1 r4_2.length c10_1], .agg #[.slice A4_0 r3_1.length c4_0, .slice A4_1 r3_2.length c4_1]] rfl (by (try simp only [List.map_toArray, List.map_cons, List.map_nil]); first | done | rfl | (simp only [List.length_drop, List.length_take]; rfl)) ?_; (with_reducible refine (laws_eqTree.calls k5 _ _ r4_1 _ _ r4_2 _ _ r3_1 _ _ r3_2 true _ ?s1 ?s2 ?s3 ?s4 ?s5 ?s6 ?s7 ?s8 Q5.out).mono ?_); (case s1 => exact (Kd.F_now HF10_0.out)); (case s2 => exact HC10_0.out); (case s3 => exact (Kd.F_now HF10_1.out)); (case s4 => exact HC10_1.out); (case s5 => exact (Kd.F_now HF4_0.out)); (case s6 => exact HC4_0.out); (case s7 => exact (Kd.F_now HF4_1.out)); (case s8 => exact HC4_1.out); rintro e_ w13 ⟨rfl, hb⟩; refine ⟨_, rfl, ?_⟩; have n0_ := aA.mk (Kd.bE HF4_0.out hb); have n1_ := aA.mk (Kd.bU HS4_0.out hb); have n2_ := aA.mk (Kd.bE HF4_1.out hb); have n3_ := aA.mk (Kd.bE HF7_0.out hb); have n4_ := aA.mk (Kd.bU HS7_0.out hb); have n5_ := aA.mk (Kd.bE HF7_1.out hb); have n6_ := aA.mk (Kd.S_below HS7_1.out hb); have n7_ := aA.mk (Kd.bE HF10_0.out hb); have n8_ := aA.mk (Kd.bU HS10_0.out hb); have n9_ := aA.mk (Kd.bE HF10_1.out hb); have n10_ := aA.mk (Kd.S_below HS10_1.out hb); have n11_ := aA.mk (aV BK1.out hb); have n12_ := aA.mk (aV BK5.out hb); have n13_ := aA.mk (aV BK8.out hb); have n14_ := aA.mk (aV BK11.out hb); have n15_ := aA.mk (aU HB.out hb); have n16_ := aA.mk (Nat.le_trans HT.out hb.size); (try clear HF4_0); (try clear HS4_0); (try clear HF4_1); (try clear HF7_0); (try clear HS7_0); (try clear HF7_1); (try clear HS7_1); (try clear HF10_0); (try clear HS10_0); (try clear HF10_1); (try clear HS10_1); (try clear BK1); (try clear BK5); (try clear BK8); (try clear BK11); (try clear HB); (try clear HT); have HF4_0 := n0_; have HS4_0 := n1_; have HF4_1 := n2_; have HF7_0 := n3_; have HS7_0 := n4_; have HF7_1 := n5_; have HS7_1 := n6_; have HF10_0 := n7_; have HS10_0 := n8_; have HF10_1 := n9_; have HS10_1 := n10_; have BK1 := n11_; have BK5 := n12_; have BK8 := n13_; have BK11 := n14_; have HB := n15_; have HT := n16_; clear n0_ n1_ n2_ n3_ n4_ n5_ n6_ n7_ n8_ n9_ n10_ n11_ n12_ n13_ n14_ n15_ n16_; (try clear hb); have hzgb1_0_13 : w13.cell? ⟨gb1, 0, none⟩ = some (.slice A0_0 l0_0.length c0_0) := (aE BK1.out 0).trans rfl; have hygb1_0_13 := aD BK1.out 0; have hzgb1_1_13 : w13.cell? ⟨gb1, 1, none⟩ = some (.slice A0_1 l0_1.length c0_1) := (aE BK1.out 1).trans rfl; have hygb1_1_13 := aD BK1.out 1; have hzgb5_0_13 : w13.cell? ⟨gb5, 0, none⟩ = some (.slice A4_0 r3_1.length c4_0) := (aE BK5.out 0).trans rfl; have hygb5_0_13 := aD BK5.out 0; have hzgb5_1_13 : w13.cell? ⟨gb5, 1, none⟩ = some (.slice A4_1 r3_2.length c4_1) := (aE BK5.out 1).trans rfl; have hygb5_1_13 := aD BK5.out 1; have hzgb8_0_13 : w13.cell? ⟨gb8, 0, none⟩ = some (.slice A7_0 r2_1.length c7_0) := (aE BK8.out 0).trans rfl; have hygb8_0_13 := aD BK8.out 0; have hzgb8_1_13 : w13.cell? ⟨gb8, 1, none⟩ = some (.slice A7_1 r2_2.length c7_1) := (aE BK8.out 1).trans rfl; have hygb8_1_13 := aD BK8.out 1; have hzgb11_0_13 : w13.cell? ⟨gb11, 0, none⟩ = some (.slice A10_0 r4_1.length c10_0) := (aE BK11.out 0).trans rfl; have hygb11_0_13 := aD BK11.out 0; have hzgb11_1_13 : w13.cell? ⟨gb11, 1, none⟩ = some (.slice A10_1 r4_2.length c10_1) := (aE BK11.out 1).trans rfl; have hygb11_1_13 := aD BK11.out 1))
 have n_ := aA.mk (Kd.F_drew HF4_0.out)
 clear HF4_0
 have HF4_0 := n_
 clear n_
 have n_ := aA.mk (Kd.bA HS4_0.out)
 clear HS4_0
 have HS4_0 := n_
 clear n_
 have n_ := aA.mk (Kd.F_drew HF4_1.out)
 clear HF4_1
 have HF4_1 := n_
 clear n_
 have n_ := aA.mk (Kd.F_drew HF7_0.out)
 clear HF7_0
 have HF7_0 := n_
 clear n_
 have n_ := aA.mk (Kd.bA HS7_0.out)
 clear HS7_0
 have HS7_0 := n_
 clear n_
 have n_ := aA.mk (Kd.F_drew HF7_1.out)
 clear HF7_1
 have HF7_1 := n_
 clear n_
 have n_ := aA.mk (Kd.S_drew HS7_1.out)
 clear HS7_1
 have HS7_1 := n_
 clear n_
 have n_ := aA.mk (Kd.F_drew HF10_0.out)
 clear HF10_0
 have HF10_0 := n_
 clear n_
 have n_ := aA.mk (Kd.bA HS10_0.out)
 clear HS10_0
 have HS10_0 := n_
 clear n_
 have n_ := aA.mk (Kd.F_drew HF10_1.out)
 clear HF10_1
 have HF10_1 := n_
 clear n_
 have n_ := aA.mk (Kd.S_drew HS10_1.out)
 clear HS10_1
 have HS10_1 := n_
 clear n_
 have n_ := aA.mk (aQ BK1.out)
 clear BK1
 have BK1 := n_
 clear n_
 have n_ := aA.mk (aQ BK5.out)
 clear BK5
 have BK5 := n_
 clear n_
 have n_ := aA.mk (aQ BK8.out)
 clear BK8
 have BK8 := n_
 clear n_
 have n_ := aA.mk (aQ BK11.out)
 clear BK11
 have BK11 := n_
 clear n_
 have n_ := aA.mk (aG HB.out)
 clear HB
 have HB := n_
 clear n_
 have n_ := aA.mk (show _ ≤ w13.drew.heap.size from HT.out)
 clear HT
 have HT := n_
 clear n_
 refine start_ (n := 5) (S := fun w' => w'.cell? ⟨gb8, 0, none⟩ = some (.slice A7_0 r2_1.length c7_0) ∧ w'.cell? ⟨gb8, 1, none⟩ = some (.slice A7_1 r2_2.length c7_1) ∧ w'.cell? ⟨gb1, 0, none⟩ = some (.slice A0_0 l0_0.length c0_0) ∧ w'.cell? ⟨gb1, 1, none⟩ = some (.slice A0_1 l0_1.length c0_1)) (ds := []) #[false, false, false, false, false] (by kernel_rfl) rfl rfl ⟨(aE BK8.out 0).trans rfl, (aE BK8.out 1).trans rfl, (aE BK1.out 0).trans rfl, (aE BK1.out 1).trans rfl⟩ (fun hHeld => ?_)
 generalize w13.drew = w14 at HF4_0 HS4_0 HF4_1 HF7_0 HS7_0 HF7_1 HS7_1 HF10_0 HS10_0 HF10_1 HS10_1 BK1 BK5 BK8 BK11 HB HT hHeld ⊢
 refine take_ (i := 0) (N := some 31) (v := ?_) (a' := ?_) #[true, false, false, false, false] rfl rfl (by kernel_rfl) (fun _ _ _ h => h) (Or.inl ⟨by rfl, ?_⟩) hHeld ?_ ?_
 rotate_left
 ·rintro w' ⟨s0, s1, s2, s3⟩
  go_simp
  with_reducible rfl
 rotate_left
 ·simp only [Act.put, lA, lB, lC, bD, bC]
  rfl
 refine take_ (i := 1) (N := some 32) (v := ?_) (a' := ?_) #[true, true, false, false, false] rfl rfl (by kernel_rfl) (fun _ _ _ h => h) (Or.inl ⟨by rfl, ?_⟩) hHeld ?_ ?_
 rotate_left
 ·rintro w' ⟨s0, s1, s2, s3⟩
  go_simp
  with_reducible rfl
 rotate_left
 ·simp only [Act.put, lA, lB, lC, bD, bC]
  rfl
 refine one_ (i := 2) (N := some 33) #[true, true, true, false, false] rfl rfl (by kernel_rfl) (by decide) (fun K hK => ?_)
 refine goes_ Try.func8 (by kernel_rfl) rfl #[.agg #[.slice A0_0 l0_0.length c0_0, .slice A0_1 l0_1.length c0_1]] (by rfl) rfl rfl (by (try simp only [List.map_toArray, List.map_cons, List.map_nil]); first | done | rfl | (simp only [List.length_drop, List.length_take]; rfl)) ?_
 (with_reducible refine (laws_toTree.calls k2 _ _ l0_0 _ _ l0_1 r2_1 r2_2 _ ?s1 ?s2 ?s3 ?s4 Q2.out).mono ?_)
 (case s1 => exact (Kd.bJ HR0_0.out HB.out))
 (case s2 => exact HC0_0.out)
 (case s3 => exact (Kd.bJ HR0_1.out HB.out))
 (case s4 => exact HC0_1.out)
 rintro e_ w15 ⟨v0_, v1_, rfl, ho0, ho1, hb⟩
 refine ⟨_, rfl, ?_⟩
 obtain ⟨lo15, hi15, el_, eh_, ol_, oh_⟩ := Mem.times HT.out hb
 (try rw [← el_] at ho0)
 obtain ⟨A15_0, c15_0, ev_, hc0_, hf0_, hs0_⟩ := Mem.new_R ho0 eh_
 subst ev_
 (try rw [← el_] at ho1)
 obtain ⟨A15_1, c15_1, ev_, hc1_, hf1_, hs1_⟩ := Mem.new_S ho1 eh_
 subst ev_
 have n0_ := aA.mk (Kd.bE HF4_0.out hb)
 have n1_ := aA.mk (Kd.bU HS4_0.out hb)
 have n2_ := aA.mk (Kd.bE HF4_1.out hb)
 have n3_ := aA.mk (Kd.bE HF7_0.out hb)
 have n4_ := aA.mk (Kd.bU HS7_0.out hb)
 have n5_ := aA.mk (Kd.bE HF7_1.out hb)
 have n6_ := aA.mk (Kd.S_below HS7_1.out hb)
 have n7_ := aA.mk (Kd.bE HF10_0.out hb)
 have n8_ := aA.mk (Kd.bU HS10_0.out hb)
 have n9_ := aA.mk (Kd.bE HF10_1.out hb)
 have n10_ := aA.mk (Kd.S_below HS10_1.out hb)
 have n11_ := aA.mk (aV BK1.out hb)
 have n12_ := aA.mk (aV BK5.out hb)
 have n13_ := aA.mk (aV BK8.out hb)
 have n14_ := aA.mk (aV BK11.out hb)
 have n15_ := aA.mk (aU HB.out hb)
 have n16_ := aA.mk (hf0_)
 have n17_ := aA.mk (hc0_)
 have n18_ := aA.mk (hs0_)
 have n19_ := aA.mk (hf1_)
 have n20_ := aA.mk (hc1_)
 have n21_ := aA.mk (hs1_)
 have n22_ := aA.mk (And.intro HORD.out (And.intro ol_ oh_))
 have n23_ := aA.mk (Nat.le_of_eq eh_)
 (try clear HF4_0)
 (try clear HS4_0)
 (try clear HF4_1)
 (try clear HF7_0)
 (try clear HS7_0)
 (try clear HF7_1)
 (try clear HS7_1)
 (try clear HF10_0)
 (try clear HS10_0)
 (try clear HF10_1)
 (try clear HS10_1)
 (try clear BK1)
 (try clear BK5)
 (try clear BK8)
 (try clear BK11)
 (try clear HB)
 (try clear HF15_0)
 (try clear HC15_0)
 (try clear HS15_0)
 (try clear HF15_1)
 (try clear HC15_1)
 (try clear HS15_1)
 (try clear HORD)
 (try clear HT)
 have HF4_0 := n0_
 have HS4_0 := n1_
 have HF4_1 := n2_
 have HF7_0 := n3_
 have HS7_0 := n4_
 have HF7_1 := n5_
 have HS7_1 := n6_
 have HF10_0 := n7_
 have HS10_0 := n8_
 have HF10_1 := n9_
 have HS10_1 := n10_
 have BK1 := n11_
 have BK5 := n12_
 have BK8 := n13_
 have BK11 := n14_
 have HB := n15_
 have HF15_0 := n16_
 have HC15_0 := n17_
 have HS15_0 := n18_
 have HF15_1 := n19_
 have HC15_1 := n20_
 have HS15_1 := n21_
 have HORD := n22_
 have HT := n23_
 clear n0_ n1_ n2_ n3_ n4_ n5_ n6_ n7_ n8_ n9_ n10_ n11_ n12_ n13_ n14_ n15_ n16_ n17_ n18_ n19_ n20_ n21_ n22_ n23_
 clear ol_ oh_ el_ eh_ ho0 hf0_ hc0_ hs0_ ho1 hf1_ hc1_ hs1_
 (try clear hb)
 refine hK.out _ _ ⟨(aE BK8.out 0).trans rfl, (aE BK8.out 1).trans rfl, (aE BK1.out 0).trans rfl, (aE BK1.out 1).trans rfl⟩ (fun hHeld => ?_)
 clear hK K
 refine norm_ (a' := ?_) ?_ ?_
 rotate_left
 ·show Act.put _ (some 33) _ = _
  simp only [Act.put, lA, lB, lC, bD, bC]
  rfl
 refine one_ (i := 3) (N := some 34) #[true, true, true, true, false] rfl rfl (by kernel_rfl) (by decide) (fun K hK => ?_)
 refine goes_ Try.func10 (by kernel_rfl) rfl #[.agg #[.slice A7_0 r2_1.length c7_0, .slice A7_1 r2_2.length c7_1], .agg #[.slice A15_0 r2_1.length c15_0, .slice A15_1 r2_2.length c15_1]] (by rfl) rfl rfl (by (try simp only [List.map_toArray, List.map_cons, List.map_nil]); first | done | rfl | (simp only [List.length_drop, List.length_take]; rfl)) ?_
 (with_reducible refine (laws_eqTree.calls k6 _ _ r2_1 _ _ r2_2 _ _ r2_1 _ _ r2_2 true _ ?s1 ?s2 ?s3 ?s4 ?s5 ?s6 ?s7 ?s8 Q6.out).mono ?_)
 (case s1 => exact (Kd.F_now HF7_0.out))
 (case s2 => exact HC7_0.out)
 (case s3 => exact (Kd.F_now HF7_1.out))
 (case s4 => exact HC7_1.out)
 (case s5 => exact (Kd.F_now HF15_0.out))
 (case s6 => exact HC15_0.out)
 (case s7 => exact (Kd.F_now HF15_1.out))
 (case s8 => exact HC15_1.out)
 rintro e_ w16 ⟨rfl, hb⟩
 refine ⟨_, rfl, ?_⟩
 have n0_ := aA.mk (Kd.bE HF4_0.out hb)
 have n1_ := aA.mk (Kd.bU HS4_0.out hb)
 have n2_ := aA.mk (Kd.bE HF4_1.out hb)
 have n3_ := aA.mk (Kd.bE HF7_0.out hb)
 have n4_ := aA.mk (Kd.bU HS7_0.out hb)
 have n5_ := aA.mk (Kd.bE HF7_1.out hb)
 have n6_ := aA.mk (Kd.S_below HS7_1.out hb)
 have n7_ := aA.mk (Kd.bE HF10_0.out hb)
 have n8_ := aA.mk (Kd.bU HS10_0.out hb)
 have n9_ := aA.mk (Kd.bE HF10_1.out hb)
 have n10_ := aA.mk (Kd.S_below HS10_1.out hb)
 have n11_ := aA.mk (aV BK1.out hb)
 have n12_ := aA.mk (aV BK5.out hb)
 have n13_ := aA.mk (aV BK8.out hb)
 have n14_ := aA.mk (aV BK11.out hb)
 have n15_ := aA.mk (aU HB.out hb)
 have n16_ := aA.mk (Nat.le_trans HT.out hb.size)
 (try clear HF15_0)
 (try clear HS15_0)
 (try clear HC15_0)
 (try clear HF15_1)
 (try clear HS15_1)
 (try clear HC15_1)
 (try clear HF4_0)
 (try clear HS4_0)
 (try clear HF4_1)
 (try clear HF7_0)
 (try clear HS7_0)
 (try clear HF7_1)
 (try clear HS7_1)
 (try clear HF10_0)
 (try clear HS10_0)
 (try clear HF10_1)
 (try clear HS10_1)
 (try clear BK1)
 (try clear BK5)
 (try clear BK8)
 (try clear BK11)
 (try clear HB)
 (try clear HT)
 have HF4_0 := n0_
 have HS4_0 := n1_
 have HF4_1 := n2_
 have HF7_0 := n3_
 have HS7_0 := n4_
 have HF7_1 := n5_
 have HS7_1 := n6_
 have HF10_0 := n7_
 have HS10_0 := n8_
 have HF10_1 := n9_
 have HS10_1 := n10_
 have BK1 := n11_
 have BK5 := n12_
 have BK8 := n13_
 have BK11 := n14_
 have HB := n15_
 have HT := n16_
 clear n0_ n1_ n2_ n3_ n4_ n5_ n6_ n7_ n8_ n9_ n10_ n11_ n12_ n13_ n14_ n15_ n16_
 (try clear hb)
 refine hK.out _ _ ⟨(aE BK8.out 0).trans rfl, (aE BK8.out 1).trans rfl, (aE BK1.out 0).trans rfl, (aE BK1.out 1).trans rfl⟩ (fun hHeld => ?_)
 clear hK K
 refine norm_ (a' := ?_) ?_ ?_
 rotate_left
 ·show Act.put _ (some 34) _ = _
  simp only [Act.put, lA, lB, lC, bD, bC]
  rfl
 refine bL (i := 4) (N := some 35) (v := ?_) (a' := ?_) #[true, true, true, true, true] rfl rfl (by kernel_rfl) (fun _ _ _ h => h) (Or.inl ⟨by rfl, ?_⟩) ?_ ?_
 rotate_left
 ·intro w'
  go_simp
  with_reducible rfl
 rotate_left
 ·simp only [Act.put, lA, lB, lC, bD, bC]
  rfl
 refine done_ (by kernel_rfl) ?_
 have hzgb1_0_16 : w16.cell? ⟨gb1, 0, none⟩ = some (.slice A0_0 l0_0.length c0_0) := (aE BK1.out 0).trans rfl
 have hygb1_0_16 := aD BK1.out 0
 have hzgb1_1_16 : w16.cell? ⟨gb1, 1, none⟩ = some (.slice A0_1 l0_1.length c0_1) := (aE BK1.out 1).trans rfl
 have hygb1_1_16 := aD BK1.out 1
 have hzgb5_0_16 : w16.cell? ⟨gb5, 0, none⟩ = some (.slice A4_0 r3_1.length c4_0) := (aE BK5.out 0).trans rfl
 have hygb5_0_16 := aD BK5.out 0
 have hzgb5_1_16 : w16.cell? ⟨gb5, 1, none⟩ = some (.slice A4_1 r3_2.length c4_1) := (aE BK5.out 1).trans rfl
 have hygb5_1_16 := aD BK5.out 1
 have hzgb8_0_16 : w16.cell? ⟨gb8, 0, none⟩ = some (.slice A7_0 r2_1.length c7_0) := (aE BK8.out 0).trans rfl
 have hygb8_0_16 := aD BK8.out 0
 have hzgb8_1_16 : w16.cell? ⟨gb8, 1, none⟩ = some (.slice A7_1 r2_2.length c7_1) := (aE BK8.out 1).trans rfl
 have hygb8_1_16 := aD BK8.out 1
 have hzgb11_0_16 : w16.cell? ⟨gb11, 0, none⟩ = some (.slice A10_0 r4_1.length c10_0) := (aE BK11.out 0).trans rfl
 have hygb11_0_16 := aD BK11.out 0
 have hzgb11_1_16 : w16.cell? ⟨gb11, 1, none⟩ = some (.slice A10_1 r4_2.length c10_1) := (aE BK11.out 1).trans rfl
 have hygb11_1_16 := aD BK11.out 1
 go_wp2_with (first | ((with_reducible refine bB (f := 11) rfl ?_); refine bP (some 38) rfl rfl Try.func11 (by kernel_rfl) rfl #[.agg #[.slice A7_0 r2_1.length c7_0, .slice A7_1 r2_2.length c7_1], .int .i64 1] rfl (by (try simp only [List.map_toArray, List.map_cons, List.map_nil]); first | done | rfl | (simp only [List.length_drop, List.length_take]; rfl)) ?_; (with_reducible refine (laws_markTree.calls (In lo7 hi7) (In lo7 hi7) (.slice A7_0 r2_1.length c7_0) (.slice A7_1 r2_2.length c7_1) r2_1 r2_2 1 r7_1 r7_2 r7_3 w _ ?s1 ?s2 ?s3 Q7.out).mono ?_); (case s1 => exact HB.out); (case s2 => exact Kd.R_lower HS7_0.out (by have o_ := HORD.out; omega)); (case s3 => exact Kd.S_lower HS7_1.out (by have o_ := HORD.out; omega)); rintro e_ w17 ⟨rfl, ho0, ho1, hbn_, hkp⟩; refine ⟨_, rfl, ?_⟩; have hkq : Kept w16 w17 (In lo7 hi7) := Kept.mono hkp (fun k_ h_ => by first | exact h_ | (have o_ := HORD.out; (try unfold In at *); omega)); have n0_ := aA.mk (Kd.bT HF4_0.out hkq (fun k_ h1_ h2_ => by have o_ := HORD.out; unfold In at h1_ h2_; omega)); have n1_ := aA.mk (Kd.R_kept HS4_0.out hkq (fun k_ h1_ h2_ => by have o_ := HORD.out; unfold In at h1_ h2_; omega)); have n2_ := aA.mk (Kd.bT HF4_1.out hkq (fun k_ h1_ h2_ => by have o_ := HORD.out; unfold In at h1_ h2_; omega)); have n3_ := aA.mk (Kd.bT HF10_0.out hkq (fun k_ h1_ h2_ => by have o_ := HORD.out; unfold In at h1_ h2_; omega)); have n4_ := aA.mk (Kd.R_kept HS10_0.out hkq (fun k_ h1_ h2_ => by have o_ := HORD.out; unfold In at h1_ h2_; omega)); have n5_ := aA.mk (Kd.bT HF10_1.out hkq (fun k_ h1_ h2_ => by have o_ := HORD.out; unfold In at h1_ h2_; omega)); have n6_ := aA.mk (Kd.S_kept HS10_1.out hkq (fun k_ h1_ h2_ => by have o_ := HORD.out; unfold In at h1_ h2_; omega)); have n7_ := aA.mk (bV BK1.out hkq (fun h2_ => by have o_ := HORD.out; unfold In at h2_; omega)); have n8_ := aA.mk (bV BK5.out hkq (fun h2_ => by have o_ := HORD.out; unfold In at h2_; omega)); have n9_ := aA.mk (bV BK8.out hkq (fun h2_ => by have o_ := HORD.out; unfold In at h2_; omega)); have n10_ := aA.mk (bV BK11.out hkq (fun h2_ => by have o_ := HORD.out; unfold In at h2_; omega)); have n11_ := aA.mk (hbn_); have n12_ := aA.mk (Nat.le_trans HT.out hkq.1); (try clear HF7_0); (try clear HS7_0); (try clear HC7_0); (try clear HF7_1); (try clear HS7_1); (try clear HC7_1); (try clear HF4_0); (try clear HS4_0); (try clear HF4_1); (try clear HF10_0); (try clear HS10_0); (try clear HF10_1); (try clear HS10_1); (try clear BK1); (try clear BK5); (try clear BK8); (try clear BK11); (try clear HB); (try clear HT); have HF4_0 := n0_; have HS4_0 := n1_; have HF4_1 := n2_; have HF10_0 := n3_; have HS10_0 := n4_; have HF10_1 := n5_; have HS10_1 := n6_; have BK1 := n7_; have BK5 := n8_; have BK8 := n9_; have BK11 := n10_; have HB := n11_; have HT := n12_; clear n0_ n1_ n2_ n3_ n4_ n5_ n6_ n7_ n8_ n9_ n10_ n11_ n12_; clear hbn_ hkp hkq ho0 ho1; have hzgb1_0_17 : w17.cell? ⟨gb1, 0, none⟩ = some (.slice A0_0 l0_0.length c0_0) := (aE BK1.out 0).trans rfl; have hygb1_0_17 := aD BK1.out 0; have hzgb1_1_17 : w17.cell? ⟨gb1, 1, none⟩ = some (.slice A0_1 l0_1.length c0_1) := (aE BK1.out 1).trans rfl; have hygb1_1_17 := aD BK1.out 1; have hzgb5_0_17 : w17.cell? ⟨gb5, 0, none⟩ = some (.slice A4_0 r3_1.length c4_0) := (aE BK5.out 0).trans rfl; have hygb5_0_17 := aD BK5.out 0; have hzgb5_1_17 : w17.cell? ⟨gb5, 1, none⟩ = some (.slice A4_1 r3_2.length c4_1) := (aE BK5.out 1).trans rfl; have hygb5_1_17 := aD BK5.out 1; have hzgb8_0_17 : w17.cell? ⟨gb8, 0, none⟩ = some (.slice A7_0 r2_1.length c7_0) := (aE BK8.out 0).trans rfl; have hygb8_0_17 := aD BK8.out 0; have hzgb8_1_17 : w17.cell? ⟨gb8, 1, none⟩ = some (.slice A7_1 r2_2.length c7_1) := (aE BK8.out 1).trans rfl; have hygb8_1_17 := aD BK8.out 1; have hzgb11_0_17 : w17.cell? ⟨gb11, 0, none⟩ = some (.slice A10_0 r4_1.length c10_0) := (aE BK11.out 0).trans rfl; have hygb11_0_17 := aD BK11.out 0; have hzgb11_1_17 : w17.cell? ⟨gb11, 1, none⟩ = some (.slice A10_1 r4_2.length c10_1) := (aE BK11.out 1).trans rfl; have hygb11_1_17 := aD BK11.out 1) | ((with_reducible refine bB (f := 10) rfl ?_); refine gate_guard (by first | rfl | kernel_rfl) ?_; refine bP (some 44) rfl rfl Try.func10 (by kernel_rfl) rfl #[.agg #[.slice A10_0 r4_1.length c10_0, .slice A10_1 r4_2.length c10_1], .agg #[.slice A4_0 r3_1.length c4_0, .slice A4_1 r3_2.length c4_1]] rfl (by (try simp only [List.map_toArray, List.map_cons, List.map_nil]); first | done | rfl | (simp only [List.length_drop, List.length_take]; rfl)) ?_; (with_reducible refine (laws_eqTree.calls k5 _ _ r4_1 _ _ r4_2 _ _ r3_1 _ _ r3_2 true _ ?s1 ?s2 ?s3 ?s4 ?s5 ?s6 ?s7 ?s8 Q5.out).mono ?_); (case s1 => exact (Kd.F_now HF10_0.out)); (case s2 => exact HC10_0.out); (case s3 => exact (Kd.F_now HF10_1.out)); (case s4 => exact HC10_1.out); (case s5 => exact (Kd.F_now HF4_0.out)); (case s6 => exact HC4_0.out); (case s7 => exact (Kd.F_now HF4_1.out)); (case s8 => exact HC4_1.out); rintro e_ w18 ⟨rfl, hb⟩; refine ⟨_, rfl, ?_⟩; have n0_ := aA.mk (Kd.bE HF4_0.out hb); have n1_ := aA.mk (Kd.bU HS4_0.out hb); have n2_ := aA.mk (Kd.bE HF4_1.out hb); have n3_ := aA.mk (Kd.bE HF10_0.out hb); have n4_ := aA.mk (Kd.bU HS10_0.out hb); have n5_ := aA.mk (Kd.bE HF10_1.out hb); have n6_ := aA.mk (Kd.S_below HS10_1.out hb); have n7_ := aA.mk (aV BK1.out hb); have n8_ := aA.mk (aV BK5.out hb); have n9_ := aA.mk (aV BK8.out hb); have n10_ := aA.mk (aV BK11.out hb); have n11_ := aA.mk (aU HB.out hb); have n12_ := aA.mk (Nat.le_trans HT.out hb.size); (try clear HF4_0); (try clear HS4_0); (try clear HF4_1); (try clear HF10_0); (try clear HS10_0); (try clear HF10_1); (try clear HS10_1); (try clear BK1); (try clear BK5); (try clear BK8); (try clear BK11); (try clear HB); (try clear HT); have HF4_0 := n0_; have HS4_0 := n1_; have HF4_1 := n2_; have HF10_0 := n3_; have HS10_0 := n4_; have HF10_1 := n5_; have HS10_1 := n6_; have BK1 := n7_; have BK5 := n8_; have BK8 := n9_; have BK11 := n10_; have HB := n11_; have HT := n12_; clear n0_ n1_ n2_ n3_ n4_ n5_ n6_ n7_ n8_ n9_ n10_ n11_ n12_; (try clear hb); have hzgb1_0_18 : w18.cell? ⟨gb1, 0, none⟩ = some (.slice A0_0 l0_0.length c0_0) := (aE BK1.out 0).trans rfl; have hygb1_0_18 := aD BK1.out 0; have hzgb1_1_18 : w18.cell? ⟨gb1, 1, none⟩ = some (.slice A0_1 l0_1.length c0_1) := (aE BK1.out 1).trans rfl; have hygb1_1_18 := aD BK1.out 1; have hzgb5_0_18 : w18.cell? ⟨gb5, 0, none⟩ = some (.slice A4_0 r3_1.length c4_0) := (aE BK5.out 0).trans rfl; have hygb5_0_18 := aD BK5.out 0; have hzgb5_1_18 : w18.cell? ⟨gb5, 1, none⟩ = some (.slice A4_1 r3_2.length c4_1) := (aE BK5.out 1).trans rfl; have hygb5_1_18 := aD BK5.out 1; have hzgb8_0_18 : w18.cell? ⟨gb8, 0, none⟩ = some (.slice A7_0 r2_1.length c7_0) := (aE BK8.out 0).trans rfl; have hygb8_0_18 := aD BK8.out 0; have hzgb8_1_18 : w18.cell? ⟨gb8, 1, none⟩ = some (.slice A7_1 r2_2.length c7_1) := (aE BK8.out 1).trans rfl; have hygb8_1_18 := aD BK8.out 1; have hzgb11_0_18 : w18.cell? ⟨gb11, 0, none⟩ = some (.slice A10_0 r4_1.length c10_0) := (aE BK11.out 0).trans rfl; have hygb11_0_18 := aD BK11.out 0; have hzgb11_1_18 : w18.cell? ⟨gb11, 1, none⟩ = some (.slice A10_1 r4_2.length c10_1) := (aE BK11.out 1).trans rfl; have hygb11_1_18 := aD BK11.out 1) | ((with_reducible refine bB (f := 11) rfl ?_); refine bP (some 49) rfl rfl Try.func11 (by kernel_rfl) rfl #[.agg #[.slice A10_0 r4_1.length c10_0, .slice A10_1 r4_2.length c10_1], .int .i64 1] rfl (by (try simp only [List.map_toArray, List.map_cons, List.map_nil]); first | done | rfl | (simp only [List.length_drop, List.length_take]; rfl)) ?_; (with_reducible refine (laws_markTree.calls (In lo10 mm10) (In mm10 hi10) (.slice A10_0 r4_1.length c10_0) (.slice A10_1 r4_2.length c10_1) r4_1 r4_2 1 r8_1 r8_2 r8_3 w _ ?s1 ?s2 ?s3 Q8.out).mono ?_); (case s1 => exact HB.out); (case s2 => exact Kd.R_lower HS10_0.out (by have o_ := HORD.out; omega)); (case s3 => exact Kd.S_lower HS10_1.out (by have o_ := HORD.out; omega)); rintro e_ w19 ⟨rfl, ho0, ho1, hbn_, hkp⟩; refine ⟨_, rfl, ?_⟩; have hkq : Kept w18 w19 (In lo10 hi10) := Kept.mono hkp (fun k_ h_ => by first | exact h_ | (have o_ := HORD.out; (try unfold In at *); omega)); obtain ⟨hi19, e2_⟩ : ∃ n_, n_ = w19.heap.size := ⟨_, rfl⟩; have ol_ : hi15 ≤ hi19 := (by rw [e2_]; exact Nat.le_trans HT.out hkq.1); obtain ⟨he0_, hc0_, hf0_⟩ := Mem.back_V (h2 := hi19) (lo := lo10) ho0 (fun k_ h_ => by have o_ := HORD.out; have t_ := HT.out; (try unfold In at *); omega) e2_; obtain ⟨he1_, hc1_, hf1_⟩ := Mem.back_V (h2 := hi19) (lo := lo10) ho1 (fun k_ h_ => by have o_ := HORD.out; have t_ := HT.out; (try unfold In at *); omega) e2_; have n0_ := aA.mk (Kd.bT HF4_0.out hkq (fun k_ h1_ h2_ => by have o_ := HORD.out; unfold In at h1_ h2_; omega)); have n1_ := aA.mk (Kd.R_kept HS4_0.out hkq (fun k_ h1_ h2_ => by have o_ := HORD.out; unfold In at h1_ h2_; omega)); have n2_ := aA.mk (Kd.bT HF4_1.out hkq (fun k_ h1_ h2_ => by have o_ := HORD.out; unfold In at h1_ h2_; omega)); have n3_ := aA.mk (bV BK1.out hkq (fun h2_ => by have o_ := HORD.out; unfold In at h2_; omega)); have n4_ := aA.mk (bV BK5.out hkq (fun h2_ => by have o_ := HORD.out; unfold In at h2_; omega)); have n5_ := aA.mk (bV BK8.out hkq (fun h2_ => by have o_ := HORD.out; unfold In at h2_; omega)); have n6_ := aA.mk (bV BK11.out hkq (fun h2_ => by have o_ := HORD.out; unfold In at h2_; omega)); have n7_ := aA.mk (hbn_); have n8_ := aA.mk (And.intro HORD.out ol_); have n9_ := aA.mk (Nat.le_of_eq e2_); have n10_ := aA.mk (he0_); have n11_ := aA.mk (hf0_); have n12_ := aA.mk (hc0_); have n13_ := aA.mk (he1_); have n14_ := aA.mk (hf1_); have n15_ := aA.mk (hc1_); (try clear HF4_0); (try clear HS4_0); (try clear HF4_1); (try clear BK1); (try clear BK5); (try clear BK8); (try clear BK11); (try clear HB); (try clear HORD); (try clear HT); (try clear HL19_0); (try clear HF19_0); (try clear HC19_0); (try clear HL19_1); (try clear HF19_1); (try clear HC19_1); have HF4_0 := n0_; have HS4_0 := n1_; have HF4_1 := n2_; have BK1 := n3_; have BK5 := n4_; have BK8 := n5_; have BK11 := n6_; have HB := n7_; have HORD := n8_; have HT := n9_; have HL19_0 := n10_; have HF19_0 := n11_; have HC19_0 := n12_; have HL19_1 := n13_; have HF19_1 := n14_; have HC19_1 := n15_; clear n0_ n1_ n2_ n3_ n4_ n5_ n6_ n7_ n8_ n9_ n10_ n11_ n12_ n13_ n14_ n15_; clear ol_ e2_ hbn_ hkp hkq ho0 he0_ hc0_ hf0_ ho1 he1_ hc1_ hf1_; have hzgb1_0_19 : w19.cell? ⟨gb1, 0, none⟩ = some (.slice A0_0 l0_0.length c0_0) := (aE BK1.out 0).trans rfl; have hygb1_0_19 := aD BK1.out 0; have hzgb1_1_19 : w19.cell? ⟨gb1, 1, none⟩ = some (.slice A0_1 l0_1.length c0_1) := (aE BK1.out 1).trans rfl; have hygb1_1_19 := aD BK1.out 1; have hzgb5_0_19 : w19.cell? ⟨gb5, 0, none⟩ = some (.slice A4_0 r3_1.length c4_0) := (aE BK5.out 0).trans rfl; have hygb5_0_19 := aD BK5.out 0; have hzgb5_1_19 : w19.cell? ⟨gb5, 1, none⟩ = some (.slice A4_1 r3_2.length c4_1) := (aE BK5.out 1).trans rfl; have hygb5_1_19 := aD BK5.out 1; have hzgb8_0_19 : w19.cell? ⟨gb8, 0, none⟩ = some (.slice A7_0 r2_1.length c7_0) := (aE BK8.out 0).trans rfl; have hygb8_0_19 := aD BK8.out 0; have hzgb8_1_19 : w19.cell? ⟨gb8, 1, none⟩ = some (.slice A7_1 r2_2.length c7_1) := (aE BK8.out 1).trans rfl; have hygb8_1_19 := aD BK8.out 1; have hzgb11_0_19 : w19.cell? ⟨gb11, 0, none⟩ = some (.slice A10_0 r4_1.length c10_0) := (aE BK11.out 0).trans rfl; have hygb11_0_19 := aD BK11.out 0; have hzgb11_1_19 : w19.cell? ⟨gb11, 1, none⟩ = some (.slice A10_1 r4_2.length c10_1) := (aE BK11.out 1).trans rfl; have hygb11_1_19 := aD BK11.out 1) | ((with_reducible refine bB (f := 12) rfl ?_); refine bP (some 52) rfl rfl Try.func12 (by kernel_rfl) rfl #[.agg #[.slice A10_0 r4_1.length c10_0, .slice A10_1 r4_2.length c10_1], .int .i64 1] rfl (by (try simp only [List.map_toArray, List.map_cons, List.map_nil]); first | done | rfl | (simp only [List.length_drop, List.length_take]; rfl)) ?_; refine calls_of_args (args' := #[.agg #[.slice A10_0 r8_2.length c10_0, .slice A10_1 r8_3.length c10_1], .int .i64 1]) (by simp only [HL19_0.out, HL19_1.out]) ?_; (with_reducible refine (laws_heldTree.calls k9 _ _ r8_2 _ _ r8_3 1 r8_1 _ ?s1 ?s2 ?s3 ?s4 Q9.out).mono ?_); (case s1 => exact (Kd.F_now HF19_0.out)); (case s2 => exact HC19_0.out); (case s3 => exact (Kd.F_now HF19_1.out)); (case s4 => exact HC19_1.out); rintro e_ w20 ⟨rfl, hb⟩; refine ⟨_, rfl, ?_⟩; have n0_ := aA.mk (Kd.bE HF4_0.out hb); have n1_ := aA.mk (Kd.bU HS4_0.out hb); have n2_ := aA.mk (Kd.bE HF4_1.out hb); have n3_ := aA.mk (Kd.bE HF19_0.out hb); have n4_ := aA.mk (Kd.bE HF19_1.out hb); have n5_ := aA.mk (aV BK1.out hb); have n6_ := aA.mk (aV BK5.out hb); have n7_ := aA.mk (aV BK8.out hb); have n8_ := aA.mk (aV BK11.out hb); have n9_ := aA.mk (aU HB.out hb); have n10_ := aA.mk (Nat.le_trans HT.out hb.size); (try clear HF4_0); (try clear HS4_0); (try clear HF4_1); (try clear HF19_0); (try clear HF19_1); (try clear BK1); (try clear BK5); (try clear BK8); (try clear BK11); (try clear HB); (try clear HT); have HF4_0 := n0_; have HS4_0 := n1_; have HF4_1 := n2_; have HF19_0 := n3_; have HF19_1 := n4_; have BK1 := n5_; have BK5 := n6_; have BK8 := n7_; have BK11 := n8_; have HB := n9_; have HT := n10_; clear n0_ n1_ n2_ n3_ n4_ n5_ n6_ n7_ n8_ n9_ n10_; (try clear hb); have hzgb1_0_20 : w20.cell? ⟨gb1, 0, none⟩ = some (.slice A0_0 l0_0.length c0_0) := (aE BK1.out 0).trans rfl; have hygb1_0_20 := aD BK1.out 0; have hzgb1_1_20 : w20.cell? ⟨gb1, 1, none⟩ = some (.slice A0_1 l0_1.length c0_1) := (aE BK1.out 1).trans rfl; have hygb1_1_20 := aD BK1.out 1; have hzgb5_0_20 : w20.cell? ⟨gb5, 0, none⟩ = some (.slice A4_0 r3_1.length c4_0) := (aE BK5.out 0).trans rfl; have hygb5_0_20 := aD BK5.out 0; have hzgb5_1_20 : w20.cell? ⟨gb5, 1, none⟩ = some (.slice A4_1 r3_2.length c4_1) := (aE BK5.out 1).trans rfl; have hygb5_1_20 := aD BK5.out 1; have hzgb8_0_20 : w20.cell? ⟨gb8, 0, none⟩ = some (.slice A7_0 r2_1.length c7_0) := (aE BK8.out 0).trans rfl; have hygb8_0_20 := aD BK8.out 0; have hzgb8_1_20 : w20.cell? ⟨gb8, 1, none⟩ = some (.slice A7_1 r2_2.length c7_1) := (aE BK8.out 1).trans rfl; have hygb8_1_20 := aD BK8.out 1; have hzgb11_0_20 : w20.cell? ⟨gb11, 0, none⟩ = some (.slice A10_0 r4_1.length c10_0) := (aE BK11.out 0).trans rfl; have hygb11_0_20 := aD BK11.out 0; have hzgb11_1_20 : w20.cell? ⟨gb11, 1, none⟩ = some (.slice A10_1 r4_2.length c10_1) := (aE BK11.out 1).trans rfl; have hygb11_1_20 := aD BK11.out 1) | ((with_reducible refine bB (f := 8) rfl ?_); refine bP (some 59) rfl rfl Try.func8 (by kernel_rfl) rfl #[.agg #[.slice A0_0 l0_0.length c0_0, .slice A0_1 l0_1.length c0_1]] rfl (by (try simp only [List.map_toArray, List.map_cons, List.map_nil]); first | done | rfl | (simp only [List.length_drop, List.length_take]; rfl)) ?_; (with_reducible refine (laws_toTree.calls k2 _ _ l0_0 _ _ l0_1 r2_1 r2_2 _ ?s1 ?s2 ?s3 ?s4 Q2.out).mono ?_); (case s1 => exact (Kd.bJ HR0_0.out HB.out)); (case s2 => exact HC0_0.out); (case s3 => exact (Kd.bJ HR0_1.out HB.out)); (case s4 => exact HC0_1.out); rintro e_ w21 ⟨v0_, v1_, rfl, ho0, ho1, hb⟩; refine ⟨_, rfl, ?_⟩; obtain ⟨lo21, hi21, el_, eh_, ol_, oh_⟩ := Mem.times HT.out hb; (try rw [← el_] at ho0); obtain ⟨A21_0, c21_0, ev_, hc0_, hf0_, hs0_⟩ := Mem.new_R ho0 eh_; subst ev_; (try rw [← el_] at ho1); obtain ⟨A21_1, c21_1, ev_, hc1_, hf1_, hs1_⟩ := Mem.new_S ho1 eh_; subst ev_; have n0_ := aA.mk (Kd.bE HF4_0.out hb); have n1_ := aA.mk (Kd.bU HS4_0.out hb); have n2_ := aA.mk (Kd.bE HF4_1.out hb); have n3_ := aA.mk (Kd.bE HF19_0.out hb); have n4_ := aA.mk (Kd.bE HF19_1.out hb); have n5_ := aA.mk (aV BK1.out hb); have n6_ := aA.mk (aV BK5.out hb); have n7_ := aA.mk (aV BK8.out hb); have n8_ := aA.mk (aV BK11.out hb); have n9_ := aA.mk (aU HB.out hb); have n10_ := aA.mk (hf0_); have n11_ := aA.mk (hc0_); have n12_ := aA.mk (hs0_); have n13_ := aA.mk (hf1_); have n14_ := aA.mk (hc1_); have n15_ := aA.mk (hs1_); have n16_ := aA.mk (And.intro HORD.out (And.intro ol_ oh_)); have n17_ := aA.mk (Nat.le_of_eq eh_); (try clear HF4_0); (try clear HS4_0); (try clear HF4_1); (try clear HF19_0); (try clear HF19_1); (try clear BK1); (try clear BK5); (try clear BK8); (try clear BK11); (try clear HB); (try clear HF21_0); (try clear HC21_0); (try clear HS21_0); (try clear HF21_1); (try clear HC21_1); (try clear HS21_1); (try clear HORD); (try clear HT); have HF4_0 := n0_; have HS4_0 := n1_; have HF4_1 := n2_; have HF19_0 := n3_; have HF19_1 := n4_; have BK1 := n5_; have BK5 := n6_; have BK8 := n7_; have BK11 := n8_; have HB := n9_; have HF21_0 := n10_; have HC21_0 := n11_; have HS21_0 := n12_; have HF21_1 := n13_; have HC21_1 := n14_; have HS21_1 := n15_; have HORD := n16_; have HT := n17_; clear n0_ n1_ n2_ n3_ n4_ n5_ n6_ n7_ n8_ n9_ n10_ n11_ n12_ n13_ n14_ n15_ n16_ n17_; clear ol_ oh_ el_ eh_ ho0 hf0_ hc0_ hs0_ ho1 hf1_ hc1_ hs1_; (try clear hb); have hzgb1_0_21 : w21.cell? ⟨gb1, 0, none⟩ = some (.slice A0_0 l0_0.length c0_0) := (aE BK1.out 0).trans rfl; have hygb1_0_21 := aD BK1.out 0; have hzgb1_1_21 : w21.cell? ⟨gb1, 1, none⟩ = some (.slice A0_1 l0_1.length c0_1) := (aE BK1.out 1).trans rfl; have hygb1_1_21 := aD BK1.out 1; have hzgb5_0_21 : w21.cell? ⟨gb5, 0, none⟩ = some (.slice A4_0 r3_1.length c4_0) := (aE BK5.out 0).trans rfl; have hygb5_0_21 := aD BK5.out 0; have hzgb5_1_21 : w21.cell? ⟨gb5, 1, none⟩ = some (.slice A4_1 r3_2.length c4_1) := (aE BK5.out 1).trans rfl; have hygb5_1_21 := aD BK5.out 1; have hzgb8_0_21 : w21.cell? ⟨gb8, 0, none⟩ = some (.slice A7_0 r2_1.length c7_0) := (aE BK8.out 0).trans rfl; have hygb8_0_21 := aD BK8.out 0; have hzgb8_1_21 : w21.cell? ⟨gb8, 1, none⟩ = some (.slice A7_1 r2_2.length c7_1) := (aE BK8.out 1).trans rfl; have hygb8_1_21 := aD BK8.out 1; have hzgb11_0_21 : w21.cell? ⟨gb11, 0, none⟩ = some (.slice A10_0 r4_1.length c10_0) := (aE BK11.out 0).trans rfl; have hygb11_0_21 := aD BK11.out 0; have hzgb11_1_21 : w21.cell? ⟨gb11, 1, none⟩ = some (.slice A10_1 r4_2.length c10_1) := (aE BK11.out 1).trans rfl; have hygb11_1_21 := aD BK11.out 1) | ((with_reducible refine bB (f := 9) rfl ?_); refine bP (some 61) rfl rfl Try.func9 (by kernel_rfl) rfl #[.agg #[.slice A21_0 r2_1.length c21_0, .slice A21_1 r2_2.length c21_1], .int .i64 a1] rfl (by (try simp only [List.map_toArray, List.map_cons, List.map_nil]); first | done | rfl | (simp only [List.length_drop, List.length_take]; rfl)) ?_; (with_reducible refine (impl_TreePackS.calls k4 (In lo21 hi21) _ _ r2_1 (In lo21 hi21) _ _ r2_2 a1 r4_1 r4_2 _ ?s1 ?s2 Q4.out).mono ?_); (case s1 => exact ⟨_, _, rfl, HC21_0.out, HF21_0.out⟩); (case s2 => exact ⟨_, _, rfl, HC21_1.out, HF21_1.out⟩); rintro e_ w22 ⟨v0_, v1_, mm22, rfl, hm1_, hm2_, ho0, ho1, hb⟩; refine ⟨_, rfl, ?_⟩; obtain ⟨lo22, hi22, el_, eh_, ol_, oh_⟩ := Mem.times HT.out hb; rw [← el_] at hm1_; rw [← eh_] at hm2_; rw [← el_] at ho0; obtain ⟨A22_0, c22_0, ev_, hc0_, hf0_, hs0_⟩ := new_RI2 ho0; subst ev_; rw [← eh_] at ho1; (try rw [← el_] at ho1); obtain ⟨A22_1, c22_1, ev_, hc1_, hf1_, hs1_⟩ := new_SI2 ho1; subst ev_; have n0_ := aA.mk (Kd.bE HF4_0.out hb); have n1_ := aA.mk (Kd.bU HS4_0.out hb); have n2_ := aA.mk (Kd.bE HF4_1.out hb); have n3_ := aA.mk (Kd.bE HF19_0.out hb); have n4_ := aA.mk (Kd.bE HF19_1.out hb); have n5_ := aA.mk (aV BK1.out hb); have n6_ := aA.mk (aV BK5.out hb); have n7_ := aA.mk (aV BK8.out hb); have n8_ := aA.mk (aV BK11.out hb); have n9_ := aA.mk (aU HB.out hb); have n10_ := aA.mk (hf0_); have n11_ := aA.mk (hc0_); have n12_ := aA.mk (hs0_); have n13_ := aA.mk (hf1_); have n14_ := aA.mk (hc1_); have n15_ := aA.mk (hs1_); have n16_ := aA.mk (And.intro HORD.out (And.intro ol_ (And.intro hm1_ hm2_))); have n17_ := aA.mk (Nat.le_of_eq eh_); (try clear HF21_0); (try clear HS21_0); (try clear HC21_0); (try clear HF21_1); (try clear HS21_1); (try clear HC21_1); (try clear HF4_0); (try clear HS4_0); (try clear HF4_1); (try clear HF19_0); (try clear HF19_1); (try clear BK1); (try clear BK5); (try clear BK8); (try clear BK11); (try clear HB); (try clear HF22_0); (try clear HC22_0); (try clear HS22_0); (try clear HF22_1); (try clear HC22_1); (try clear HS22_1); (try clear HORD); (try clear HT); have HF4_0 := n0_; have HS4_0 := n1_; have HF4_1 := n2_; have HF19_0 := n3_; have HF19_1 := n4_; have BK1 := n5_; have BK5 := n6_; have BK8 := n7_; have BK11 := n8_; have HB := n9_; have HF22_0 := n10_; have HC22_0 := n11_; have HS22_0 := n12_; have HF22_1 := n13_; have HC22_1 := n14_; have HS22_1 := n15_; have HORD := n16_; have HT := n17_; clear n0_ n1_ n2_ n3_ n4_ n5_ n6_ n7_ n8_ n9_ n10_ n11_ n12_ n13_ n14_ n15_ n16_ n17_; clear hm1_ hm2_; clear ol_ oh_ el_ eh_ ho0 hf0_ hc0_ hs0_ ho1 hf1_ hc1_ hs1_; (try clear hb); have hzgb1_0_22 : w22.cell? ⟨gb1, 0, none⟩ = some (.slice A0_0 l0_0.length c0_0) := (aE BK1.out 0).trans rfl; have hygb1_0_22 := aD BK1.out 0; have hzgb1_1_22 : w22.cell? ⟨gb1, 1, none⟩ = some (.slice A0_1 l0_1.length c0_1) := (aE BK1.out 1).trans rfl; have hygb1_1_22 := aD BK1.out 1; have hzgb5_0_22 : w22.cell? ⟨gb5, 0, none⟩ = some (.slice A4_0 r3_1.length c4_0) := (aE BK5.out 0).trans rfl; have hygb5_0_22 := aD BK5.out 0; have hzgb5_1_22 : w22.cell? ⟨gb5, 1, none⟩ = some (.slice A4_1 r3_2.length c4_1) := (aE BK5.out 1).trans rfl; have hygb5_1_22 := aD BK5.out 1; have hzgb8_0_22 : w22.cell? ⟨gb8, 0, none⟩ = some (.slice A7_0 r2_1.length c7_0) := (aE BK8.out 0).trans rfl; have hygb8_0_22 := aD BK8.out 0; have hzgb8_1_22 : w22.cell? ⟨gb8, 1, none⟩ = some (.slice A7_1 r2_2.length c7_1) := (aE BK8.out 1).trans rfl; have hygb8_1_22 := aD BK8.out 1; have hzgb11_0_22 : w22.cell? ⟨gb11, 0, none⟩ = some (.slice A10_0 r4_1.length c10_0) := (aE BK11.out 0).trans rfl; have hygb11_0_22 := aD BK11.out 0; have hzgb11_1_22 : w22.cell? ⟨gb11, 1, none⟩ = some (.slice A10_1 r4_2.length c10_1) := (aE BK11.out 1).trans rfl; have hygb11_1_22 := aD BK11.out 1) | ((with_reducible refine aW (N := 12) rfl ?_); refine aX ?hg (N := 12) ?hd (cs := #[.slice none 0 0, .slice none 0 0]) (t := 29) ?hr ?_; (case hd => rfl); (case hg => rfl); (case hr => first | (go_simp; done) | (go_simp; rfl)); intro gb23 hg_ w23 hbox hb; have hge_ : hi22 ≤ gb23 := (by rw [hg_]; exact HT.out); have hlt_ : gb23 + 1 ≤ w23.heap.size := bF hbox; have n0_ := aA.mk (Kd.bE HF4_0.out hb); have n1_ := aA.mk (Kd.bU HS4_0.out hb); have n2_ := aA.mk (Kd.bE HF4_1.out hb); have n3_ := aA.mk (Kd.bE HF19_0.out hb); have n4_ := aA.mk (Kd.bE HF19_1.out hb); have n5_ := aA.mk (Kd.bE HF22_0.out hb); have n6_ := aA.mk (Kd.bU HS22_0.out hb); have n7_ := aA.mk (Kd.bE HF22_1.out hb); have n8_ := aA.mk (Kd.S_below HS22_1.out hb); have n9_ := aA.mk (aV BK1.out hb); have n10_ := aA.mk (aV BK5.out hb); have n11_ := aA.mk (aV BK8.out hb); have n12_ := aA.mk (aV BK11.out hb); have n13_ := aA.mk (aU HB.out hb); have n14_ := aA.mk (hbox); have n15_ := aA.mk (And.intro HORD.out (And.intro hge_ (Nat.le_succ gb23))); have n16_ := aA.mk (hlt_); (try clear HF4_0); (try clear HS4_0); (try clear HF4_1); (try clear HF19_0); (try clear HF19_1); (try clear HF22_0); (try clear HS22_0); (try clear HF22_1); (try clear HS22_1); (try clear BK1); (try clear BK5); (try clear BK8); (try clear BK11); (try clear HB); (try clear BK23); (try clear HORD); (try clear HT); have HF4_0 := n0_; have HS4_0 := n1_; have HF4_1 := n2_; have HF19_0 := n3_; have HF19_1 := n4_; have HF22_0 := n5_; have HS22_0 := n6_; have HF22_1 := n7_; have HS22_1 := n8_; have BK1 := n9_; have BK5 := n10_; have BK8 := n11_; have BK11 := n12_; have HB := n13_; have BK23 := n14_; have HORD := n15_; have HT := n16_; clear n0_ n1_ n2_ n3_ n4_ n5_ n6_ n7_ n8_ n9_ n10_ n11_ n12_ n13_ n14_ n15_ n16_; clear hb hbox hg_ hge_ hlt_; have hzgb1_0_23 : w23.cell? ⟨gb1, 0, none⟩ = some (.slice A0_0 l0_0.length c0_0) := (aE BK1.out 0).trans rfl; have hygb1_0_23 := aD BK1.out 0; have hzgb1_1_23 : w23.cell? ⟨gb1, 1, none⟩ = some (.slice A0_1 l0_1.length c0_1) := (aE BK1.out 1).trans rfl; have hygb1_1_23 := aD BK1.out 1; have hzgb5_0_23 : w23.cell? ⟨gb5, 0, none⟩ = some (.slice A4_0 r3_1.length c4_0) := (aE BK5.out 0).trans rfl; have hygb5_0_23 := aD BK5.out 0; have hzgb5_1_23 : w23.cell? ⟨gb5, 1, none⟩ = some (.slice A4_1 r3_2.length c4_1) := (aE BK5.out 1).trans rfl; have hygb5_1_23 := aD BK5.out 1; have hzgb8_0_23 : w23.cell? ⟨gb8, 0, none⟩ = some (.slice A7_0 r2_1.length c7_0) := (aE BK8.out 0).trans rfl; have hygb8_0_23 := aD BK8.out 0; have hzgb8_1_23 : w23.cell? ⟨gb8, 1, none⟩ = some (.slice A7_1 r2_2.length c7_1) := (aE BK8.out 1).trans rfl; have hygb8_1_23 := aD BK8.out 1; have hzgb11_0_23 : w23.cell? ⟨gb11, 0, none⟩ = some (.slice A10_0 r4_1.length c10_0) := (aE BK11.out 0).trans rfl; have hygb11_0_23 := aD BK11.out 0; have hzgb11_1_23 : w23.cell? ⟨gb11, 1, none⟩ = some (.slice A10_1 r4_2.length c10_1) := (aE BK11.out 1).trans rfl; have hygb11_1_23 := aD BK11.out 1; have hzgb23_0_23 : w23.cell? ⟨gb23, 0, none⟩ = some (.slice none 0 0) := (aE BK23.out 0).trans rfl; have hygb23_0_23 := aD BK23.out 0; have hzgb23_1_23 : w23.cell? ⟨gb23, 1, none⟩ = some (.slice none 0 0) := (aE BK23.out 1).trans rfl; have hygb23_1_23 := aD BK23.out 1) | ((with_reducible refine gate_store (t := 29) (p := 12) rfl ?_); refine store_event (t := 29) (p := 12) (v := ?vo_w24) (w1 := ((w23.setCell ⟨gb23, 0, none⟩ (.slice A22_0 r4_1.length c22_0)).setCell ⟨gb23, 1, none⟩ (.slice A22_1 r4_2.length c22_1))) ?hg ?ho ?hn ?hr ?_; (case ho => rfl); (case hg => rfl); (case hn => rfl); (case hr => first | (go_simp; done) | (go_simp; rfl)); intro w24 hw_; have hkp : Kept w23 w24 (fun k_ => k_ = gb23) := (by rw [hw_]; exact Kept.setCell (Kept.setCell (Kept.refl w23 (fun k_ => k_ = gb23)) (.inl rfl) (.slice A22_0 r4_1.length c22_0)) (.inl rfl) (.slice A22_1 r4_2.length c22_1)); have hge_ : w.heap.size ≤ gb23 := (by have o_ := HORD.out; (try unfold In at *); (try show _ ≠ _); omega); have hbn_ : Below w.heap.size w w24 := (by rw [hw_]; exact aJ (aJ (HB.out) hge_) hge_); have hbk_ : w24.heap[gb23]? = some (.cells #[.slice A22_0 r4_1.length c22_0, .slice A22_1 r4_2.length c22_1] 29 (0, 0)) := (by rw [hw_]; exact bG (cs := #[.slice A22_0 r4_1.length c22_0, .slice none 0 0]) (cs' := #[.slice A22_0 r4_1.length c22_0, .slice A22_1 r4_2.length c22_1]) (bG (cs := #[.slice none 0 0, .slice none 0 0]) (cs' := #[.slice A22_0 r4_1.length c22_0, .slice none 0 0]) (BK23.out) 0 _ rfl) 1 _ rfl); have hsz_ : (gb23 + 1) ≤ w24.heap.size := Nat.le_trans HT.out hkp.1; have n0_ := aA.mk (Kd.bT HF4_0.out hkp (fun k_ h1_ h2_ => by have o_ := HORD.out; unfold In at h1_; omega)); have n1_ := aA.mk (Kd.R_kept HS4_0.out hkp (fun k_ h1_ h2_ => by have o_ := HORD.out; unfold In at h1_; omega)); have n2_ := aA.mk (Kd.bT HF4_1.out hkp (fun k_ h1_ h2_ => by have o_ := HORD.out; unfold In at h1_; omega)); have n3_ := aA.mk (Kd.bT HF19_0.out hkp (fun k_ h1_ h2_ => by have o_ := HORD.out; unfold In at h1_; omega)); have n4_ := aA.mk (Kd.bT HF19_1.out hkp (fun k_ h1_ h2_ => by have o_ := HORD.out; unfold In at h1_; omega)); have n5_ := aA.mk (Kd.bT HF22_0.out hkp (fun k_ h1_ h2_ => by have o_ := HORD.out; unfold In at h1_; omega)); have n6_ := aA.mk (Kd.R_kept HS22_0.out hkp (fun k_ h1_ h2_ => by have o_ := HORD.out; unfold In at h1_; omega)); have n7_ := aA.mk (Kd.bT HF22_1.out hkp (fun k_ h1_ h2_ => by have o_ := HORD.out; unfold In at h1_; omega)); have n8_ := aA.mk (Kd.S_kept HS22_1.out hkp (fun k_ h1_ h2_ => by have o_ := HORD.out; unfold In at h1_; omega)); have n9_ := aA.mk (bV BK1.out hkp (fun h2_ => by have o_ := HORD.out; omega)); have n10_ := aA.mk (bV BK5.out hkp (fun h2_ => by have o_ := HORD.out; omega)); have n11_ := aA.mk (bV BK8.out hkp (fun h2_ => by have o_ := HORD.out; omega)); have n12_ := aA.mk (bV BK11.out hkp (fun h2_ => by have o_ := HORD.out; omega)); have n13_ := aA.mk (hbn_); have n14_ := aA.mk (hbk_); have n15_ := aA.mk (hsz_); (try clear HF4_0); (try clear HS4_0); (try clear HF4_1); (try clear HF19_0); (try clear HF19_1); (try clear HF22_0); (try clear HS22_0); (try clear HF22_1); (try clear HS22_1); (try clear BK1); (try clear BK5); (try clear BK8); (try clear BK11); (try clear HB); (try clear BK23); (try clear HT); have HF4_0 := n0_; have HS4_0 := n1_; have HF4_1 := n2_; have HF19_0 := n3_; have HF19_1 := n4_; have HF22_0 := n5_; have HS22_0 := n6_; have HF22_1 := n7_; have HS22_1 := n8_; have BK1 := n9_; have BK5 := n10_; have BK8 := n11_; have BK11 := n12_; have HB := n13_; have BK23 := n14_; have HT := n15_; clear n0_ n1_ n2_ n3_ n4_ n5_ n6_ n7_ n8_ n9_ n10_ n11_ n12_ n13_ n14_ n15_; clear hw_ hkp hge_ hbn_ hbk_ hsz_; have hzgb1_0_24 : w24.cell? ⟨gb1, 0, none⟩ = some (.slice A0_0 l0_0.length c0_0) := (aE BK1.out 0).trans rfl; have hygb1_0_24 := aD BK1.out 0; have hzgb1_1_24 : w24.cell? ⟨gb1, 1, none⟩ = some (.slice A0_1 l0_1.length c0_1) := (aE BK1.out 1).trans rfl; have hygb1_1_24 := aD BK1.out 1; have hzgb5_0_24 : w24.cell? ⟨gb5, 0, none⟩ = some (.slice A4_0 r3_1.length c4_0) := (aE BK5.out 0).trans rfl; have hygb5_0_24 := aD BK5.out 0; have hzgb5_1_24 : w24.cell? ⟨gb5, 1, none⟩ = some (.slice A4_1 r3_2.length c4_1) := (aE BK5.out 1).trans rfl; have hygb5_1_24 := aD BK5.out 1; have hzgb8_0_24 : w24.cell? ⟨gb8, 0, none⟩ = some (.slice A7_0 r2_1.length c7_0) := (aE BK8.out 0).trans rfl; have hygb8_0_24 := aD BK8.out 0; have hzgb8_1_24 : w24.cell? ⟨gb8, 1, none⟩ = some (.slice A7_1 r2_2.length c7_1) := (aE BK8.out 1).trans rfl; have hygb8_1_24 := aD BK8.out 1; have hzgb11_0_24 : w24.cell? ⟨gb11, 0, none⟩ = some (.slice A10_0 r4_1.length c10_0) := (aE BK11.out 0).trans rfl; have hygb11_0_24 := aD BK11.out 0; have hzgb11_1_24 : w24.cell? ⟨gb11, 1, none⟩ = some (.slice A10_1 r4_2.length c10_1) := (aE BK11.out 1).trans rfl; have hygb11_1_24 := aD BK11.out 1; have hzgb23_0_24 : w24.cell? ⟨gb23, 0, none⟩ = some (.slice A22_0 r4_1.length c22_0) := (aE BK23.out 0).trans rfl; have hygb23_0_24 := aD BK23.out 0; have hzgb23_1_24 : w24.cell? ⟨gb23, 1, none⟩ = some (.slice A22_1 r4_2.length c22_1) := (aE BK23.out 1).trans rfl; have hygb23_1_24 := aD BK23.out 1) | ((with_reducible refine bB (f := 10) rfl ?_); refine bP (some 64) rfl rfl Try.func10 (by kernel_rfl) rfl #[.agg #[.slice A22_0 r4_1.length c22_0, .slice A22_1 r4_2.length c22_1], .agg #[.slice A4_0 r3_1.length c4_0, .slice A4_1 r3_2.length c4_1]] rfl (by (try simp only [List.map_toArray, List.map_cons, List.map_nil]); first | done | rfl | (simp only [List.length_drop, List.length_take]; rfl)) ?_; (with_reducible refine (laws_eqTree.calls k5 _ _ r4_1 _ _ r4_2 _ _ r3_1 _ _ r3_2 true _ ?s1 ?s2 ?s3 ?s4 ?s5 ?s6 ?s7 ?s8 Q5.out).mono ?_); (case s1 => exact (Kd.F_now HF22_0.out)); (case s2 => exact HC22_0.out); (case s3 => exact (Kd.F_now HF22_1.out)); (case s4 => exact HC22_1.out); (case s5 => exact (Kd.F_now HF4_0.out)); (case s6 => exact HC4_0.out); (case s7 => exact (Kd.F_now HF4_1.out)); (case s8 => exact HC4_1.out); rintro e_ w25 ⟨rfl, hb⟩; refine ⟨_, rfl, ?_⟩; have n0_ := aA.mk (Kd.bE HF19_0.out hb); have n1_ := aA.mk (Kd.bE HF19_1.out hb); have n2_ := aA.mk (aV BK1.out hb); have n3_ := aA.mk (aV BK5.out hb); have n4_ := aA.mk (aV BK8.out hb); have n5_ := aA.mk (aV BK11.out hb); have n6_ := aA.mk (aV BK23.out hb); have n7_ := aA.mk (aU HB.out hb); have n8_ := aA.mk (Nat.le_trans HT.out hb.size); (try clear HF4_0); (try clear HS4_0); (try clear HC4_0); (try clear HF4_1); (try clear HC4_1); (try clear HF22_0); (try clear HS22_0); (try clear HC22_0); (try clear HF22_1); (try clear HS22_1); (try clear HC22_1); (try clear HF19_0); (try clear HF19_1); (try clear BK1); (try clear BK5); (try clear BK8); (try clear BK11); (try clear BK23); (try clear HB); (try clear HT); have HF19_0 := n0_; have HF19_1 := n1_; have BK1 := n2_; have BK5 := n3_; have BK8 := n4_; have BK11 := n5_; have BK23 := n6_; have HB := n7_; have HT := n8_; clear n0_ n1_ n2_ n3_ n4_ n5_ n6_ n7_ n8_; (try clear hb); have hzgb1_0_25 : w25.cell? ⟨gb1, 0, none⟩ = some (.slice A0_0 l0_0.length c0_0) := (aE BK1.out 0).trans rfl; have hygb1_0_25 := aD BK1.out 0; have hzgb1_1_25 : w25.cell? ⟨gb1, 1, none⟩ = some (.slice A0_1 l0_1.length c0_1) := (aE BK1.out 1).trans rfl; have hygb1_1_25 := aD BK1.out 1; have hzgb5_0_25 : w25.cell? ⟨gb5, 0, none⟩ = some (.slice A4_0 r3_1.length c4_0) := (aE BK5.out 0).trans rfl; have hygb5_0_25 := aD BK5.out 0; have hzgb5_1_25 : w25.cell? ⟨gb5, 1, none⟩ = some (.slice A4_1 r3_2.length c4_1) := (aE BK5.out 1).trans rfl; have hygb5_1_25 := aD BK5.out 1; have hzgb8_0_25 : w25.cell? ⟨gb8, 0, none⟩ = some (.slice A7_0 r2_1.length c7_0) := (aE BK8.out 0).trans rfl; have hygb8_0_25 := aD BK8.out 0; have hzgb8_1_25 : w25.cell? ⟨gb8, 1, none⟩ = some (.slice A7_1 r2_2.length c7_1) := (aE BK8.out 1).trans rfl; have hygb8_1_25 := aD BK8.out 1; have hzgb11_0_25 : w25.cell? ⟨gb11, 0, none⟩ = some (.slice A10_0 r4_1.length c10_0) := (aE BK11.out 0).trans rfl; have hygb11_0_25 := aD BK11.out 0; have hzgb11_1_25 : w25.cell? ⟨gb11, 1, none⟩ = some (.slice A10_1 r4_2.length c10_1) := (aE BK11.out 1).trans rfl; have hygb11_1_25 := aD BK11.out 1; have hzgb23_0_25 : w25.cell? ⟨gb23, 0, none⟩ = some (.slice A22_0 r4_1.length c22_0) := (aE BK23.out 0).trans rfl; have hygb23_0_25 := aD BK23.out 0; have hzgb23_1_25 : w25.cell? ⟨gb23, 1, none⟩ = some (.slice A22_1 r4_2.length c22_1) := (aE BK23.out 1).trans rfl; have hygb23_1_25 := aD BK23.out 1) | ((with_reducible refine bB (f := 12) rfl ?_); refine bP (some 68) rfl rfl Try.func12 (by kernel_rfl) rfl #[.agg #[.slice A10_0 r4_1.length c10_0, .slice A10_1 r4_2.length c10_1], .int .i64 1] rfl (by (try simp only [List.map_toArray, List.map_cons, List.map_nil]); first | done | rfl | (simp only [List.length_drop, List.length_take]; rfl)) ?_; refine calls_of_args (args' := #[.agg #[.slice A10_0 r8_2.length c10_0, .slice A10_1 r8_3.length c10_1], .int .i64 1]) (by simp only [HL19_0.out, HL19_1.out]) ?_; (with_reducible refine (laws_heldTree.calls k9 _ _ r8_2 _ _ r8_3 1 r8_1 _ ?s1 ?s2 ?s3 ?s4 Q9.out).mono ?_); (case s1 => exact (Kd.F_now HF19_0.out)); (case s2 => exact HC19_0.out); (case s3 => exact (Kd.F_now HF19_1.out)); (case s4 => exact HC19_1.out); rintro e_ w26 ⟨rfl, hb⟩; refine ⟨_, rfl, ?_⟩; have n0_ := aA.mk (aV BK1.out hb); have n1_ := aA.mk (aV BK5.out hb); have n2_ := aA.mk (aV BK8.out hb); have n3_ := aA.mk (aV BK11.out hb); have n4_ := aA.mk (aV BK23.out hb); have n5_ := aA.mk (aU HB.out hb); have n6_ := aA.mk (Nat.le_trans HT.out hb.size); (try clear HF19_0); (try clear HC19_0); (try clear HL19_0); (try clear HF19_1); (try clear HC19_1); (try clear HL19_1); (try clear BK1); (try clear BK5); (try clear BK8); (try clear BK11); (try clear BK23); (try clear HB); (try clear HT); have BK1 := n0_; have BK5 := n1_; have BK8 := n2_; have BK11 := n3_; have BK23 := n4_; have HB := n5_; have HT := n6_; clear n0_ n1_ n2_ n3_ n4_ n5_ n6_; (try clear hb); have hzgb1_0_26 : w26.cell? ⟨gb1, 0, none⟩ = some (.slice A0_0 l0_0.length c0_0) := (aE BK1.out 0).trans rfl; have hygb1_0_26 := aD BK1.out 0; have hzgb1_1_26 : w26.cell? ⟨gb1, 1, none⟩ = some (.slice A0_1 l0_1.length c0_1) := (aE BK1.out 1).trans rfl; have hygb1_1_26 := aD BK1.out 1; have hzgb5_0_26 : w26.cell? ⟨gb5, 0, none⟩ = some (.slice A4_0 r3_1.length c4_0) := (aE BK5.out 0).trans rfl; have hygb5_0_26 := aD BK5.out 0; have hzgb5_1_26 : w26.cell? ⟨gb5, 1, none⟩ = some (.slice A4_1 r3_2.length c4_1) := (aE BK5.out 1).trans rfl; have hygb5_1_26 := aD BK5.out 1; have hzgb8_0_26 : w26.cell? ⟨gb8, 0, none⟩ = some (.slice A7_0 r2_1.length c7_0) := (aE BK8.out 0).trans rfl; have hygb8_0_26 := aD BK8.out 0; have hzgb8_1_26 : w26.cell? ⟨gb8, 1, none⟩ = some (.slice A7_1 r2_2.length c7_1) := (aE BK8.out 1).trans rfl; have hygb8_1_26 := aD BK8.out 1; have hzgb11_0_26 : w26.cell? ⟨gb11, 0, none⟩ = some (.slice A10_0 r4_1.length c10_0) := (aE BK11.out 0).trans rfl; have hygb11_0_26 := aD BK11.out 0; have hzgb11_1_26 : w26.cell? ⟨gb11, 1, none⟩ = some (.slice A10_1 r4_2.length c10_1) := (aE BK11.out 1).trans rfl; have hygb11_1_26 := aD BK11.out 1; have hzgb23_0_26 : w26.cell? ⟨gb23, 0, none⟩ = some (.slice A22_0 r4_1.length c22_0) := (aE BK23.out 0).trans rfl; have hygb23_0_26 := aD BK23.out 0; have hzgb23_1_26 : w26.cell? ⟨gb23, 1, none⟩ = some (.slice A22_1 r4_2.length c22_1) := (aE BK23.out 1).trans rfl; have hygb23_1_26 := aD BK23.out 1))
 have hres_ := @results_tmp Try.f3 4 (by kernel_rfl)
 refine bodyPost_ret (fn := Try.f3) (P := Try.prog) (hres_ _ _ _) rfl ?_
 exact ⟨rfl, HB.out⟩
set_option maxHeartbeats 2000000 in
theorem laws_FnExactTreePack.calls (A0_0 : Option Addr) (c0_0 : Nat) (l0_0 : List (Int)) (A0_1 : Option Addr) (c0_1 : Nat) (l0_1 : List (S87)) (a1 : Int) (w : World) (hr0_0 : Kd.C (Kd.int .i64) w A0_0 l0_0.length l0_0) (hc0_0 : l0_0.length ≤ c0_0) (hr0_1 : Kd.C k87 w A0_1 l0_1.length l0_1) (hc0_1 : l0_1.length ≤ c0_1) (h0 : (l0_0.length ≤ 9223372036854775807 ∧ ∀ y0 ∈ l0_0, (Lit.int .i64 y0).wf = true) ∧ (l0_1.length ≤ 9223372036854775807 ∧ ∀ y0 ∈ l0_1, ((y0.f0.length ≤ 9223372036854775807 ∧ ∀ y1 ∈ y0.f0, (y1.length ≤ 9223372036854775807 ∧ ∀ y2 ∈ y1, ((Lit.int .i64 y2.f0).wf = true ∧ (Lit.int .i64 y2.f1).wf = true ∧ (Lit.int .i64 y2.f2).wf = true ∧ (Lit.int .i64 y2.f3).wf = true ∧ (Lit.int .i64 y2.f4).wf = true)))))) (h1 : (Lit.int .i64 a1).wf = true) :
  Calls Try.prog 3 #[.agg #[.slice A0_0 l0_0.length c0_0, .slice A0_1 l0_1.length c0_1], .int .i64 a1] w fun e w' => e = .returned (.bool true) ∧ Below w.heap.size w w' := by
 have u0_0 := sumIntS_nn l0_0
 have u0_1 := sumNodeS_pos l0_1
 have u0_2 : sumTree l0_0 l0_1 = sumIntS l0_0 + sumNodeS l0_1 := rfl
 by_cases c0 : 1048576 < sumTree l0_0 l0_1
 ·obtain ⟨_, A1⟩ : ∃ k : Nat, laws_szTree.f k l0_0 l0_1 1048576 = some (-1) := evGet (szTree_big l0_0 l0_1 _ h0.1.1 ⟨h0.2.1, fun x hx => ⟨(h0.2.2 x hx).1, fun y hy => ((h0.2.2 x hx).2 y hy).1⟩⟩ (by omega) (by omega) c0)
  exact walkFnExactTreePackbig _ _ _ _ _ _ _ _ _ w hr0_0 hc0_0 hr0_1 hc0_1 A1 (by decide)
 obtain ⟨_, A1⟩ : ∃ k : Nat, laws_szTree.f k l0_0 l0_1 1048576 = some (1048576 - sumTree l0_0 l0_1) := evGet (szTree_fit l0_0 l0_1 _ h0.1.1 ⟨h0.2.1, fun x hx => ⟨(h0.2.2 x hx).1, fun y hy => ((h0.2.2 x hx).2 y hy).1⟩⟩ (by omega) (by omega) c0)
 have i0_0 : inIntS l0_0 := in_of_sumIntS (by omega)
 have i0_1 : inNodeS l0_1 := in_of_sumNodeS (by omega)
 have o0_0 : okIntS l0_0 := ok_of_inIntS i0_0
 have q0_0 := cntIntS_nn o0_0
 have o0_1 : okNodeS (convNodeS l0_1) := ok_of_inNodeS i0_1
 have q0_1 := cntNodeS_nn o0_1
 have oR0 : okIntS ((treePack l0_0 (convNodeS l0_1) a1).1) := (by rw [treePack_fst]; exact o0_0)
 have qR0 := cntIntS_nn oR0
 have oR1 : okNodeS ((treePack l0_0 (convNodeS l0_1) a1).2) := (okNodeS_treePack _ (by have b_ := bulk_convNodeS l0_1; unfold inNodeS at i0_1; omega))
 have qR1 := cntNodeS_nn oR1
 obtain ⟨_, A2⟩ : ∃ k : Nat, laws_toTree.f k l0_0 l0_1 = some (l0_0, ((convNodeS l0_1))) := evGet (toTree_ev _ _ (by assumption) (by assumption))
 obtain ⟨_, A3⟩ : ∃ k : Nat, spec_TreePack.f k l0_0 ((convNodeS l0_1)) a1 = some (((treePack l0_0 (convNodeS l0_1) a1).1), ((treePack l0_0 (convNodeS l0_1) a1).2)) := evGet (spec_TreePack_ev _ _ _ o0_0 o0_1)
 obtain ⟨_, A4⟩ : ∃ k : Nat, impl_TreePackS.f k l0_0 ((convNodeS l0_1)) a1 = some (((treePack l0_0 (convNodeS l0_1) a1).1), ((treePack l0_0 (convNodeS l0_1) a1).2)) := evGet (impl_TreePackS_ev _ _ _ o0_0 o0_1)
 obtain ⟨_, A5⟩ : ∃ k : Nat, laws_eqTree.f k ((treePack l0_0 (convNodeS l0_1) a1).1) ((treePack l0_0 (convNodeS l0_1) a1).2) ((treePack l0_0 (convNodeS l0_1) a1).1) ((treePack l0_0 (convNodeS l0_1) a1).2) = some true := evGet (eqTree_ev _ _ (by assumption) (by assumption))
 obtain ⟨_, A6⟩ : ∃ k : Nat, laws_eqTree.f k l0_0 ((convNodeS l0_1)) l0_0 ((convNodeS l0_1)) = some true := evGet (eqTree_ev _ _ (by assumption) (by assumption))
 obtain ⟨_, A7⟩ : ∃ k : Nat, laws_markTree.f l0_0 ((convNodeS l0_1)) 1 = some ((1 + (cntIntS l0_0 + cntNodeS ((convNodeS l0_1)))), (mkIntS l0_0 1), (mkNodeS ((convNodeS l0_1)) (1 + cntIntS l0_0))) := ⟨0, markTree_f (by assumption) (by assumption) (by omega) (by omega)⟩
 obtain ⟨_, A8⟩ : ∃ k : Nat, laws_markTree.f ((treePack l0_0 (convNodeS l0_1) a1).1) ((treePack l0_0 (convNodeS l0_1) a1).2) 1 = some ((1 + (cntIntS ((treePack l0_0 (convNodeS l0_1) a1).1) + cntNodeS ((treePack l0_0 (convNodeS l0_1) a1).2))), (mkIntS ((treePack l0_0 (convNodeS l0_1) a1).1) 1), (mkNodeS ((treePack l0_0 (convNodeS l0_1) a1).2) (1 + cntIntS ((treePack l0_0 (convNodeS l0_1) a1).1)))) := ⟨0, markTree_f (by assumption) (by assumption) (by omega) (by omega)⟩
 obtain ⟨_, A9⟩ : ∃ k : Nat, laws_heldTree.f k (mkIntS ((treePack l0_0 (convNodeS l0_1) a1).1) 1) (mkNodeS ((treePack l0_0 (convNodeS l0_1) a1).2) (1 + cntIntS ((treePack l0_0 (convNodeS l0_1) a1).1))) 1 = some (1 + (cntIntS ((treePack l0_0 (convNodeS l0_1) a1).1) + cntNodeS ((treePack l0_0 (convNodeS l0_1) a1).2))) := evGet (heldTree_ev _ _ _ (by assumption) (by assumption) (by omega) (by omega))
 exact walkFnExactTreePack _ _ _ _ _ _ _ _ _ _ _ _ _ _ _ _ _ _ _ _ _ _ _ _ _ _ _ w hr0_0 hc0_0 hr0_1 hc0_1 A1 A2 A3 A4 A5 A6 A7 A8 A9 (by omega) (by omega) (by omega)
end Go.Proofs.Ytamjbjkbineafaa.Law

namespace Go.Proofs.Ytamjbjkbineafaa.Op
open Go.RowKit Go.ChangeShapes Go.WideShapes Go.Proofs.YtamjbjkbineafaaW.PrintWords
def Opens {α : Type} (P : Program) (t : TypeId) (d : Kd α) (g : α → Prop) : Prop :=
 ∀ {H : Type} {enc : TypeId × Value → H} {w : World} {base : Nat} {spare : Nat → Bool} {held : Bool} {fuel : Nat} {cs : List Value} {x : DataW H × List MemPlace},
  DataW.trod enc P w base spare held fuel t cs = some x → ∃ a, d.K w a cs ∧ g a
theorem opens_int {P : Program} {t : TypeId} {k : IntKind} (ht : P.underlying t = some (.int k)) : Opens P t (Kd.int k) (fun n => (Lit.int k n).wf = true) := by
 intro H enc w base spare held fuel cs x h
 obtain ⟨n, rfl, _, hw⟩ := DataW.trod_int ht h
 exact ⟨n, rfl, hw⟩
theorem opens_slice {α : Type} {P : Program} {t e : TypeId} {d : Kd α} {g : α → Prop} (q : Nat) (ht : P.underlying t = some (.slice e)) (hd : Opens P e d g) (hc : P.cellsOf e = d.sz) :
  Opens P t (Kd.slice q d) (fun xs => xs.length ≤ 9223372036854775807 ∧ ∀ x ∈ xs, g x) := by
 intro H enc w base spare held fuel cs x h
 rcases DataW.trod_slice ht h with ⟨rfl, _⟩ | ⟨a, len, cap, elems, rest, n, _, rfl, _, _, hl, hm, hlen, hel, _, _⟩
 ·exact ⟨[], ⟨none, 0, rfl, Nat.le_refl _, rfl, Nat.zero_le _, fun h => by cases h⟩, by simp, by simp⟩
 ·have each : ∀ i : Fin len, ∃ y : α, g y ∧ ∃ c : List Value, c.length = d.sz ∧ d.K w y c ∧ ∀ j u, c[j]? = some u → w.cell? (a.add (i.val * d.sz + j)) = some u := by
   intro i
   have h1 := hel i.val i.isLt
   rw [List.getElem?_eq_getElem (by omega), Option.bind_eq_some_iff] at h1
   obtain ⟨c, hcs, hy⟩ := h1
   obtain ⟨_, hcl, hcell⟩ := World.cells?_some hcs
   obtain ⟨y, hK, hg⟩ := hd hy
   refine ⟨y, hg, c, by rw [hcl, hc], hK, fun j u hu => ?_⟩
   have hj : j < c.length := (List.getElem?_eq_some_iff.1 hu).1
   have h2 := hcell j (by omega)
   rw [hu] at h2
   rw [← h2, hc]
   congr 1
   exact (Addr.add_add a _ _).symm
  obtain ⟨f, hf⟩ := Classical.axiomOfChoice each
  refine ⟨List.ofFn f, ⟨some a, cap, by rw [List.length_ofFn], by rw [List.length_ofFn]; exact hl, by rw [List.length_ofFn], by rw [List.length_ofFn]; unfold maxLen at hm; omega, fun _ => ⟨a, rfl, fun j p hp => ?_⟩⟩, by rw [List.length_ofFn]; unfold maxLen at hm; omega, fun x hx => ?_⟩
  ·rw [List.getElem?_ofFn] at hp
   split at hp
   ·rename_i hj
    obtain rfl := Option.some.inj hp
    obtain ⟨_, c, h1, h2, h3⟩ := hf ⟨j, hj⟩
    exact ⟨c, h1, h2, h3⟩
   ·cases hp
  ·obtain ⟨i, rfl⟩ := List.mem_ofFn.1 hx
   exact (hf i).1
/-- The fields from one offset on. -/
def OpensL {α : Type} (P : Program) (fs : List Field) (off : Nat) (d : Kd α) (g : α → Prop) : Prop :=
 ∀ {H : Type} {enc : TypeId × Value → H} {w : World} {base : Nat} {spare : Nat → Bool} {held : Bool} {fuel : Nat} {cs : List Value},
  (∀ f ∈ fs, ∃ x, DataW.trod enc P w base spare held fuel f.type ((cs.drop f.offset).take (P.cellsOf f.type)) = some x) → ∃ a, d.K w a ((cs.drop off).take d.sz) ∧ g a
theorem opensL_one {α : Type} {P : Program} {f : Field} {d : Kd α} {g : α → Prop} {off : Nat} (ho : f.offset = off) (hd : Opens P f.type d g) (hc : P.cellsOf f.type = d.sz) : OpensL P [f] off d g := by
 intro H enc w base spare held fuel cs h
 obtain ⟨x, hx⟩ := h f (by simp)
 rw [hc, ho] at hx
 exact hd hx
theorem opensL_cons {α β : Type} {P : Program} {f : Field} {fs : List Field} {d : Kd α} {g : α → Prop} {d' : Kd β} {g' : β → Prop} {off : Nat} (ho : f.offset = off) (hd : Opens P f.type d g) (hc : P.cellsOf f.type = d.sz)
  (hr : OpensL P fs (off + d.sz) d' g') : OpensL P (f :: fs) off (Kd.pair d d') (fun x => g x.1 ∧ g' x.2) := by
 intro H enc w base spare held fuel cs h
 obtain ⟨a, ha, hg⟩ := opensL_one ho hd hc (fun f' hf' => h f' (by simp at hf'; simp [hf']))
 obtain ⟨b, hb, hg'⟩ := hr (fun f' hf' => h f' (List.mem_cons_of_mem _ hf'))
 refine ⟨(a, b), ⟨(cs.drop off).take d.sz, (cs.drop (off + d.sz)).take d'.sz, ?_, ha, hb⟩, hg, hg'⟩
 show (cs.drop off).take (d.sz + d'.sz) = _
 rw [List.take_add, List.drop_drop]
theorem opens_struct {α : Type} {P : Program} {t : TypeId} {fs : Array Field} {d : Kd α} {g : α → Prop} (ht : P.underlying t = some (.struct fs)) (hc : P.cellsOf t = d.sz) (hL : OpensL P fs.toList 0 d g) : Opens P t d g := by
 intro H enc w base spare held fuel cs x h
 obtain ⟨xs, n, _, _, hl, hxl, hf⟩ := DataW.trod_struct ht h
 have := hL (enc := enc) (w := w) (base := base) (spare := spare) (held := held) (fuel := n) (cs := cs) (fun f hmem => by
  obtain ⟨i, hi⟩ := List.getElem?_of_mem hmem
  have hi' : fs[i]? = some f := by simpa using hi
  have hlt : i < fs.size := (Array.getElem?_eq_some_iff.1 hi').1
  exact ⟨xs[i]'(by omega), by rw [hf i f hi', List.getElem?_eq_getElem]⟩)
 rw [List.drop_zero, ← hc, ← hl, List.take_length] at this
 exact this
theorem opens_iso {α β : Type} {P : Program} {t : TypeId} {d : Kd α} {g : α → Prop} (f : β → α) (e : α → β) (he : ∀ a, f (e a) = a) (h : Opens P t d g) : Opens P t (Kd.iso d f) (fun b => g (f b)) := by
 intro H enc w base spare held fuel cs x hx
 obtain ⟨a, ha, hg⟩ := h hx
 exact ⟨e a, by show d.K w (f (e a)) cs; rw [he]; exact ha, by show g (f (e a)); rw [he]; exact hg⟩
theorem opens_mono {α : Type} {P : Program} {t : TypeId} {d : Kd α} {g g' : α → Prop} (h : Opens P t d g) (hg : ∀ a, g a → g' a) : Opens P t d g' := by
 intro H enc w base spare held fuel cs x hx
 obtain ⟨a, ha, hga⟩ := h hx
 exact ⟨a, ha, hg a hga⟩
end Go.Proofs.Ytamjbjkbineafaa.Op

namespace Go.Proofs.Ytamjbjkbineafaa.rowFnExactTreePack
open Go.ChangeShapes Go.WideShapes Go.ChangeAt Go.RowKit
open Go.ChangeMaps (open_string shut_string)
open Go.Proofs.YtamjbjkbineafaaW.PrintWords Go.Proofs.Ytamjbjkbineafaa.Op Go.Proofs.Ytamjbjkbineafaa.PFnExactTreePack Go.Proofs.Ytamjbjkbineafaa.Law
set_option linter.unusedVariables false
set_option linter.unusedSimpArgs false
theorem own : ownKnob Try.prog.godebug = none := by kernel_rfl
theorem laidOut : laidOutB Try.prog = true := by kernel_rfl
theorem opensElKey : Opens Try.prog 48 k48 (fun x => ((Lit.int .i64 x.f0).wf = true ∧ (Lit.int .i64 x.f1).wf = true ∧ (Lit.int .i64 x.f2).wf = true ∧ (Lit.int .i64 x.f3).wf = true ∧ (Lit.int .i64 x.f4).wf = true)) := opens_mono (opens_iso (fun x : S48 => (x.f0, x.f1, x.f2, x.f3, x.f4)) (fun y => ⟨y.1, y.2.1, y.2.2.1, y.2.2.2.1, y.2.2.2.2⟩) (fun _ => rfl) (opens_struct Try.underlying48 (by kernel_rfl) (opensL_cons rfl (opens_int Try.underlying3) (by kernel_rfl) (opensL_cons rfl (opens_int Try.underlying3) (by kernel_rfl) (opensL_cons rfl (opens_int Try.underlying3) (by kernel_rfl) (opensL_cons rfl (opens_int Try.underlying3) (by kernel_rfl) (opensL_one rfl (opens_int Try.underlying3) (by kernel_rfl)))))))) (fun _ h => h)
theorem opensElNode : Opens Try.prog 87 k87 (fun x => ((x.f0.length ≤ 9223372036854775807 ∧ ∀ y0 ∈ x.f0, (y0.length ≤ 9223372036854775807 ∧ ∀ y1 ∈ y0, ((Lit.int .i64 y1.f0).wf = true ∧ (Lit.int .i64 y1.f1).wf = true ∧ (Lit.int .i64 y1.f2).wf = true ∧ (Lit.int .i64 y1.f3).wf = true ∧ (Lit.int .i64 y1.f4).wf = true))))) := opens_mono (opens_iso (fun x : S87 => x.f0) (fun y => ⟨y⟩) (fun _ => rfl) (opens_struct Try.underlying87 (by kernel_rfl) (opensL_one rfl ((opens_slice 108 Try.underlying85 ((opens_slice 48 Try.underlying108 (opensElKey) (by kernel_rfl))) (by kernel_rfl))) (by kernel_rfl)))) (fun _ h => h)
theorem opensTree : Opens Try.prog 25 (Kd.pair (Kd.slice 3 (Kd.int .i64)) (Kd.slice 87 (k87))) (fun x => (x.1.length ≤ 9223372036854775807 ∧ ∀ y0 ∈ x.1, (Lit.int .i64 y0).wf = true) ∧ (x.2.length ≤ 9223372036854775807 ∧ ∀ y0 ∈ x.2, ((y0.f0.length ≤ 9223372036854775807 ∧ ∀ y1 ∈ y0.f0, (y1.length ≤ 9223372036854775807 ∧ ∀ y2 ∈ y1, ((Lit.int .i64 y2.f0).wf = true ∧ (Lit.int .i64 y2.f1).wf = true ∧ (Lit.int .i64 y2.f2).wf = true ∧ (Lit.int .i64 y2.f3).wf = true ∧ (Lit.int .i64 y2.f4).wf = true)))))) := opens_struct Try.underlying25 (by kernel_rfl) (opensL_cons rfl ((opens_slice 3 Try.underlying22 (opens_int Try.underlying3) (by kernel_rfl))) (by kernel_rfl) (opensL_one rfl ((opens_slice 87 Try.underlying23 (opensElNode) (by kernel_rfl))) (by kernel_rfl)))
set_option maxRecDepth 100000 in
theorem lifted (os : Os) (started : os.Started) (H : Type) (enc : TypeId × Value → H) :
  ReturnsInHanded {} Try.checked os 3 .any (Rows.fnExactTreePackSpec.pre6 enc Try.prog Try.f3 Rows.fnExactTreePackRow.domain false) (Rows.fnExactTreePackSpec.post enc Try.prog Try.f3 false true false false) := by
 refine returnsInHanded_of_change_sized (C := Try.checked) own started (by kernel_rfl) Try.func3
  (ChangeSpec.witness6 (enc := enc) (C := Try.checked) false ⟨#[], #[.agg #[.slice none 0 0, .slice none 0 0], .int .i64 0], []⟩ 8 (by kernel_rfl) (by kernel_rfl) (by kernel_rfl) (by kernel_rfl)) ?_
 intro W base args ds gs before hval0 hW hcnd hsz0 _
 have hval : ∀ (j : Nat) t v, Try.f3.params[j]? = some t → args[j]? = some v → Value.okWide Try.prog W .any base t v := hval0
 have hW' := hW
 obtain ⟨p, q, hA0, hV, rfl, hfz, hnd⟩ := hW
 have hA : DataW.TrodAll enc Try.prog W 0 (fun _ => true) true Try.f3.params.toList args.toList ds p := hA0
 rw [Try.params3] at hA hval
 obtain ⟨v0, vs0, d0, ds0, p0, q0, hargs, rfl, rfl, h0, r0⟩ := trodAll_cons hA
 obtain ⟨v1, vs1, d1, ds1, p1, q1, rfl, rfl, rfl, h1, r1⟩ := trodAll_cons r0
 obtain ⟨rfl, rfl, rfl⟩ := trodAll_nil r1
 obtain rfl : args = #[v0, v1] := by cases args; simp_all
 obtain ⟨rfl, rfl⟩ := trodVars_none hV
 have k0 := h0
 have lt0 : ∀ x ∈ p0, x.block < W.heap.size := by obtain ⟨m, hm⟩ := k0; exact DataW.trod_lt m _ _ _ hm
 obtain ⟨fuel0, hf0⟩ := h0
 obtain ⟨cs0, rfl, _⟩ := okWide_struct Try.underlying25 (hval 0 25 v0 rfl rfl)
 obtain ⟨x0, hK0, g0⟩ := opensTree hf0
 obtain ⟨l0_0, l0_1⟩ := x0
 obtain ⟨_, _, e0, ⟨A0_0, c0_0, rfl, hc0_0, hC0_0⟩, ⟨A0_1, c0_1, rfl, hc0_1, hC0_1⟩⟩ := hK0
 obtain rfl : cs0 = #[.slice A0_0 l0_0.length c0_0, .slice A0_1 l0_1.length c0_1] := by apply Array.toList_inj.1; exact e0
 obtain ⟨a1, rfl, rfl, rfl, w1⟩ := open_int Try.underlying3 (hval 1 3 v1 rfl rfl) h1
 clear hA0 hval0 hsz0
 refine (laws_FnExactTreePack.calls _ _ _ _ _ _ _ W hC0_0 hc0_0 hC0_1 hc0_1 g0 w1).mono fun e W' ⟨he, bel0⟩ => ?_
 have bel : Below W.heap.size W W' := by first | exact bel0 | exact bel0.below
 subst he
 exact ⟨_, rfl, _, _, _, [], _, [], hW', trodAll_mk1 (shut_bool Try.underlying4 _), (trodAll_cons_mk (Below.trod laidOut (by kernel_rfl) (lE (by kernel_rfl)) k0 bel lt0) (trodAll_cons_mk (shut_int Try.underlying3 w1) trodAll_mk0)), rfl, bel.frame _, fun h => by cases h⟩
theorem over : Rows.fnExactTreePackRow.holds Try.pinned (OpenSpec.ofChange Rows.fnExactTreePackSpec) :=
 OpenClaim.holds_of_wide 3 Try.f3 rfl rfl rfl rfl rfl rfl rfl ⟨rfl, rfl, rfl, rfl, rfl⟩ rfl rfl rfl rfl rfl (by kernel_rfl) Try.func3 (by kernel_rfl)
  (lE (by kernel_rfl)) (by unfold Func.isWrapper; first | (rw [if_pos (by decide +kernel)]; kernel_rfl) | (rw [if_neg (by decide +kernel)]; exact ⟨rfl, rfl⟩))
  (fun os started H enc _ => lifted os started H enc)
theorem proved : Rows.FnExactTreePackSaid := over
#print axioms proved
end Go.Proofs.Ytamjbjkbineafaa.rowFnExactTreePack
namespace Go.Proofs.Ytamjbjkbineafaa
theorem fnExactTreePack_holds : Rows.FnExactTreePackSaid := rowFnExactTreePack.proved
end Go.Proofs.Ytamjbjkbineafaa
