/- The law: whatever its arguments, its own function answers true; the walk of its text, each call taken by its contract. -/
import Derived.Test.YthpfihklkcnckaaMFnExactTreeNewx0
import Derived.Test.YthpfihklkcnckaaMFnExactTreeNewx1
import Derived.Test.YthpfihklkcnckaaMFnExactTreeNewx2
import Derived.Test.YthpfihklkcnckaaMFnExactTreeNewx3
import Derived.Test.YthpfihklkcnckaaMFnExactTreeNewx4
import Derived.Test.YthpfihklkcnckaaCore
import Derived.Test.YthpfihklkcnckaaMarks
import Derived.Test.YthpfihklkcnckaaPureFnExactTreeNew
namespace Go.Proofs.Ythpfihklkcnckaa.Law
open Go.RowKit Go.Proofs.Ythpfihklkcnckaa.PFnExactTreeNew Go.Proofs.Ythpfihklkcnckaa.Core Go.Proofs.YthpfihklkcnckaaW.PrintWords Go.Proofs.YthpfihklkcnckaaW.PrintLast Go.Proofs.YthpfihklkcnckaaW.PrintMore Go.Proofs.Ythpfihklkcnckaa.Pure
set_option linter.unusedSimpArgs false
set_option linter.unusedVariables false

def laws_markKeySS.f (l0 : List (List S27)) (a1 : Int) : Option (Int × List (List S27)) := if bulkKeySS l0 ≤ 4194304 ∧ 0 ≤ a1 ∧ a1 ≤ 1000000000000 then some (a1 + cntKeySS l0, mkKeySS l0 a1) else none
theorem markKeySS_f {l : List (List S27)} {a : Int} (ho : okKeySS l) (h0 : 0 ≤ a) (h1 : a ≤ 1000000000000) : laws_markKeySS.f l a = some (a + cntKeySS l, mkKeySS l a) := if_pos ⟨ho, h0, h1⟩
set_option maxHeartbeats 4000000 in
set_option maxRecDepth 100000 in
/-- Each inner row is marked in turn; the rows lie apart, so that each stays as it was marked. -/
theorem laws_markKeySS.calls (P0_ : Nat → Prop) (u9000_ : Value) (l0 : List (List S27)) (a1 : Int) (r1 : Int) (r2 : List (List S27)) (w0 w : World) (hB : Below w0.heap.size w0 w) (ho0 : Kd.S (Kd.slice 27 k27) 40 w w0.heap.size P0_ u9000_ l0) (h : laws_markKeySS.f l0 a1 = some (r1, r2)) :
    Calls Try.prog 59 #[u9000_, .int .i64 a1] w fun e w' => e = .returned (.int .i64 r1) ∧ Kd.S (Kd.slice 27 k27) 40 w' w0.heap.size (fun k_ => (P0_ k_ ∨ w.heap.size ≤ k_)) u9000_ r2 ∧ Below w0.heap.size w0 w' ∧ Kept w w' (fun k_ => P0_ k_) := by
  unfold laws_markKeySS.f at h
  split at h
  case isFalse => cases h
  case isTrue hc =>
  obtain ⟨hok, h0, h1⟩ := hc
  replace hok : okKeySS l0 := hok
  obtain ⟨ll, rfl⟩ : ∃ y, y = l0 := ⟨_, rfl⟩
  obtain ⟨a, rfl⟩ : ∃ y, y = a1 := ⟨_, rfl⟩
  obtain ⟨P, rfl⟩ : ∃ y, y = P0_ := ⟨_, rfl⟩
  obtain ⟨u, rfl⟩ : ∃ y, y = u9000_ := ⟨_, rfl⟩
  have ho := ho0
  clear ho0
  injection h with h
  injection h with hr1 hr2
  subst hr1
  subst hr2
  have HL := Aside0.mk (okKeySS_len hok)
  have HOK := Aside0.mk hok
  have HC := Aside0.mk (cntKeySS_nn hok)
  have HO0 := Aside0.mk (show Kd.S (Kd.slice 27 k27) 40 w w0.heap.size (fun k_ => P k_ ∨ w.heap.size ≤ k_) u (midL mkKeyS cntKeyS ll a 0) from by rw [midL_zero]; exact Kd.S_mono ho (fun _ hk => .inl hk))
  obtain ⟨A, c, rfl⟩ := Kd.S_slice ho
  have HK := Aside0.mk (Kept.refl w P)
  have HB := Aside0.mk hB
  have H0 := Aside0.mk h0
  have H1 := Aside0.mk h1
  clear hB ho hok h0 h1
  go_enter Try.func59, Try.ntmps59
  go_wp2
  go_loopg [1, 5] ll.length (fun kq v1 v5 w' => ∃ (x1_1 x5_1 : Int), v1 = .int .i64 x1_1 ∧ v5 = .int .i64 x5_1 ∧ Aside0 (0 ≤ x5_1 ∧ x5_1 ≤ ll.length ∧ kq = ll.length - x5_1.toNat) ∧ Aside0 (x1_1 = a + cntKeySS (ll.take x5_1.toNat)) ∧ Aside0 (Kd.S (Kd.slice 27 k27) 40 w' w0.heap.size (fun k_ => P k_ ∨ w.heap.size ≤ k_) (.slice A ll.length c) (midL mkKeyS cntKeyS ll a x5_1.toNat)) ∧ Aside0 (Kept w w' P) ∧ Aside0 (Below w0.heap.size w0 w'))
  case atStart => exact ⟨a, 0, rfl, rfl, ⟨by omega⟩, ⟨by simp [cntKeySS, cntL]⟩, HO0, HK, HB⟩
  case round =>
    clear HO0 HK HB
    obtain ⟨x1_1, x5_1, rfl, rfl, HI, HX, HO, HK, HB⟩ := hrel
    by_cases c3 : x5_1 < (ll.length : Int)
    · have c3b0 : decide (x5_1 < (ll.length : Int)) = true := decide_eq_true c3
      have p1 : 0 ≤ x5_1 := HI.out.1
      obtain ⟨i, hi⟩ : ∃ i : Nat, i = x5_1.toNat := ⟨_, rfl⟩
      have hil : i < ll.length := by omega
      obtain ⟨go, co, eo, gb, gl, cl, HG⟩ := Kd.S_form HO.out (by rw [midL_length mkKeyS cntKeyS ll a _ (by omega)]; omega)
      rw [midL_length mkKeyS cntKeyS ll a _ (by omega)] at eo
      cases eo
      obtain ⟨oki, v, hoki, hR, hcell, hback⟩ := Mem.lent HO.out x5_1 p1 c3 (fun k hk => .inr (Nat.le_trans HK.out.1 hk))
      rw [← hi, midL_getD mkKeyS cntKeyS [] ll a i hil] at hR
      obtain ⟨Ai, ci, rfl⟩ := Kd.R_slice hR
      have ht := cntKeySS_take ll i
      have hx := HX.out
      rw [← hi] at hx
      have hc := HC.out
      have h0 := H0.out
      have h1 := H1.out
      obtain ⟨K, hK⟩ := markKeyS_ev (ll.getD i []) x1_1 (okKeySS_at HOK.out i hil) (by omega) (by omega)
      have hcall := laws_markKeyS.calls K oki _ (ll.getD i []) x1_1 (x1_1 + cntKeyS (ll.getD i [])) (mkKeyS (ll.getD i []) x1_1) w0 wr HB.out hR (hK K (Nat.le_refl _))
      have HCALL := Aside0.mk hcall
      have HN := Aside0.mk (show cntKeySS (ll.take (i + 1)) = cntKeySS (ll.take i) + cntKeyS (ll.getD i []) from cntL_take cntKeyS [] ll i hil)
      have HS := Aside0.mk (midL_set mkKeyS cntKeyS [] ll a i hil)
      have HBK := Aside0.mk hback
      have HOKI := Aside0.mk hoki
      have HI' := Aside0.mk hi
      have HX' := Aside0.mk hx
      have HIL := Aside0.mk hil
      have HE := Aside0.mk (show rdOf [] ll x5_1 = ll.getD i [] by unfold rdOf; rw [hi])
      clear hK hcall hback hoki hx hc h0 h1 ht hil hR
      clear HO
      replace p1 := eq_true p1
      replace c3 := eq_true c3
      generalize ll.getD i [] = y at *
      clear hi
      go_wp2_with (first | ((with_reducible refine gate_callee (f := 25) rfl ?_); refine goesL_ (some 17) rfl rfl Try.func25 (by kernel_rfl) rfl #[.slice Ai y.length ci, .int .i64 x1_1] rfl (by (try simp only [List.map_toArray, List.map_cons, List.map_nil]); first | done | rfl) ?_; refine HCALL.out.mono ?_; rintro e w1 ⟨rfl, hR1, hB1, hK1⟩; refine ⟨_, rfl, ?_⟩; have n0 := Aside0.mk (HBK.out w1 _ hK1 hR1); have n1 := Aside0.mk (Kept.then_ HK.out hK1 (fun k hk => HOKI.out k hk)); clear HK HB; have HO := n0; have HK := n1; have HB := Aside0.mk hB1; clear n0 n1 hK1 hR1 hB1))
      go_roundg (ll.length - (x5_1.toNat + 1))
      case measure => have := HI.out; have := HIL.out; have := HI'.out; omega
      case rel =>
        have hI := HI.out
        have hi := HI'.out
        have hil := HIL.out
        have hw : wrap64 (x5_1 + 1) = x5_1 + 1 := w64 (by omega) (by have := HL.out; omega)
        have ht : (x5_1 + 1).toNat = i + 1 := by omega
        refine ⟨_, x5_1 + 1, rfl, by first | rfl | (rw [hw]) | (simp [hw]), ⟨by omega⟩, ⟨?_⟩, ⟨?_⟩, HK, HB⟩
        · rw [ht, HN.out, HX'.out]; omega
        · have h := HO.out
          have hS : (midL mkKeyS cntKeyS ll a i).set i (mkKeyS y (a + cntKeySS (ll.take i))) = midL mkKeyS cntKeyS ll a (i + 1) := HS.out
          rw [← HX'.out] at hS
          rw [ht, ← hS, hi]
          exact h
    · have c3b0 : decide (x5_1 < (ll.length : Int)) = false := decide_eq_false c3
      have hI := HI.out
      have hx := HX.out
      have ho := HO.out
      have e1 : x5_1.toNat = ll.length := by omega
      rw [e1, List.take_length] at hx
      rw [e1, midL_all] at ho
      have HO' := Aside0.mk ho
      have HX' := Aside0.mk hx
      clear hI hx ho e1 c3
      go_wp2
      go_ret
      exact ⟨by rw [HX'.out]; rfl, HO'.out, HB.out, HK.out⟩
set_option maxHeartbeats 4000000 in
set_option maxRecDepth 100000 in
theorem laws_markNode.calls (P0_0_ : Nat → Prop) (u9000_ : Value) (l0_0 : List (List S27)) (a1 : Int) (r1 : Int) (r2 : List (List S27)) (w0 w : World) (hB : Below w0.heap.size w0 w) (ho0_0 : Kd.S (Kd.slice 27 k27) 40 w w0.heap.size P0_0_ u9000_ l0_0) (h : laws_markKeySS.f l0_0 a1 = some (r1, r2)) :
    Calls Try.prog 26 #[.agg #[u9000_], .int .i64 a1] w fun e w' => e = .returned (.int .i64 r1) ∧ Kd.S (Kd.slice 27 k27) 40 w' w0.heap.size (fun k_ => (P0_0_ k_ ∨ w.heap.size ≤ k_)) u9000_ r2 ∧ Below w0.heap.size w0 w' ∧ Kept w w' (fun k_ => P0_0_ k_) := by
  have hu := Try.underlying32
  obtain ⟨A, c, rfl⟩ := Kd.S_slice ho0_0
  have HO := Aside0.mk ho0_0
  have HB := Aside0.mk hB
  have H := Aside0.mk h
  clear ho0_0 hB h
  go_enter Try.func26, Try.ntmps26
  go_wp2_with (first | ((with_reducible refine gate_dst (N := 2) rfl ?_); refine box_event ?hg (N := 2) ?hd (cs := #[.slice A l0_0.length c]) (t := 32) ?hr ?_; (case hd => rfl); (case hg => rfl); (case hr => first | (go_simp; done) | (go_simp; rfl)); intro gb hg_ w1 hbox hb; have HBX := Aside0.mk hb; have hz : w1.cell? ⟨gb, 0, none⟩ = some (.slice A l0_0.length c) := (blk_cell hbox 0).trans rfl; clear hbox hb hg_) | ((with_reducible refine gate_callee (f := 59) rfl ?_); refine goesL_ (some 8) rfl rfl Try.func59 (by kernel_rfl) rfl #[.slice A l0_0.length c, .int .i64 a1] rfl (by (try simp only [List.map_toArray, List.map_cons, List.map_nil]); first | done | rfl) ?_; (with_reducible refine (laws_markKeySS.calls P0_0_ _ l0_0 a1 r1 r2 w0 w1 ?s1 ?s2 H.out).mono ?_); (case s1 => exact below_then HB.out HB.out.size HBX.out); (case s2 => exact Kd.S_below HO.out HBX.out); rintro e w2 ⟨rfl, hs, hb2, hk⟩; refine ⟨_, rfl, ?_⟩; have HS := Aside0.mk hs; have HB2 := Aside0.mk hb2; have HK := Aside0.mk hk; clear hs hb2 hk))
  go_ret
  exact ⟨rfl, Kd.S_mono HS.out (fun k_ hk => hk.imp (fun h => h) (fun h => Nat.le_trans HBX.out.size h)), HB2.out, (Kept.of_below HBX.out _).then_ HK.out (fun k_ hk => .inl hk)⟩
/-- Rows whose elements' rows lie apart, as an element. -/
def deepS {α : Type} (e : Nat) (d : Kd α) : Kd (List α) where
  sz := 1
  E := e :: d.E
  K := (Kd.slice e d).K
  M := fun w base ok x cs => ∃ v, cs = [v] ∧ Kd.S d e w base ok v x
  K_len := (Kd.slice e d).K_len
  K_one := (Kd.slice e d).K_one
  K_below := (Kd.slice e d).K_below
  K_of_M := by
    rintro w base ok x cs ⟨v, rfl, h⟩
    exact (Kd.slice e d).K_of_M ⟨v, rfl, Kd.S_R h⟩
  M_mono := by
    rintro w base ok ok' x cs hok ⟨v, rfl, h⟩
    exact ⟨v, rfl, Kd.S_mono h hok⟩
  M_bound := by
    rintro w base ok x cs ⟨v, rfl, h⟩
    exact ⟨v, rfl, Kd.S_bound h⟩
  M_move := by
    rintro w w1 base ok x cs hm ⟨v, rfl, h⟩
    exact ⟨v, rfl, Kd.S_move h hm⟩
  M_lower := by
    rintro w base base' ok x cs hb ⟨v, rfl, h⟩
    exact ⟨v, rfl, Kd.S_lower h hb⟩
def k32D : Kd S32 := Kd.iso (deepS 40 (Kd.slice 27 k27)) (fun x : S32 => x.f0)
/-- A node's rows out of a row of nodes: they may be written, and are given back. -/
theorem lentD {g n cap base : Nat} {P : Nat → Prop} {W : World} {xs : List S32} (h : Kd.S k32D 32 W base P (.slice (some ⟨g, 0, none⟩) n cap) xs) (i : Int) (h0 : 0 ≤ i) (h1 : i < n) (hnew : ∀ k, W.heap.size ≤ k → P k) :
    ∃ (oki : Nat → Prop) (v : Value), (∀ k, oki k → P k) ∧ Kd.S (Kd.slice 27 k27) 40 W base oki v (xs.getD i.toNat z32).f0 ∧ W.cell? ⟨g, i.toNat, none⟩ = some v ∧
      ∀ (w1 : World) (x' : S32), Kept W w1 oki → Kd.S (Kd.slice 27 k27) 40 w1 base (fun k => oki k ∨ W.heap.size ≤ k) v x'.f0 → Kd.S k32D 32 w1 base P (.slice (some ⟨g, 0, none⟩) n cap) (xs.set i.toNat x') := by
  obtain ⟨oki, c, hcl, hM, hcc, hoki, hH⟩ := Kd.S_lend h z32 i h0 h1
  obtain ⟨v, rfl, hR⟩ := hM
  refine ⟨oki, v, fun k hk => (hoki k hk).1, hR, ?_, fun w1 x' hk hR' => ?_⟩
  · have := hcc 0 v rfl
    simpa [show (k32D).sz = 1 from rfl] using this
  · refine Kd.H_back (Kd.H_step (Kd.H_widen hH) (fun k ho hn hlt => hk.2 k hlt (fun h2 => hn (.inl h2)))) (okp := fun k => oki k ∨ W.heap.size ≤ k) ⟨v, rfl, hR'⟩ (fun k hk' => ?_)
    rcases hk' with hk' | hk'
    · exact .inl hk'
    · exact .inr ⟨hnew k hk', hk'⟩
def laws_markNodeS.f (l0 : List S32) (a1 : Int) : Option (Int × List S32) := if bulkNodeS l0 ≤ 4194304 ∧ 0 ≤ a1 ∧ a1 ≤ 900000000000 then some (a1 + cntNodeS l0, mkNodeS l0 a1) else none
theorem markNodeS_f {l : List S32} {a : Int} (ho : okNodeS l) (h0 : 0 ≤ a) (h1 : a ≤ 900000000000) : laws_markNodeS.f l a = some (a + cntNodeS l, mkNodeS l a) := if_pos ⟨ho, h0, h1⟩
set_option maxHeartbeats 4000000 in
set_option maxRecDepth 100000 in
/-- Each node's rows are marked in turn; the nodes lie apart, so that each stays as it was marked. -/
theorem laws_markNodeS.calls (P0_ : Nat → Prop) (u9000_ : Value) (l0 : List S32) (a1 : Int) (r1 : Int) (r2 : List S32) (w0 w : World) (hB : Below w0.heap.size w0 w) (ho0 : Kd.S k32D 32 w w0.heap.size P0_ u9000_ l0) (h : laws_markNodeS.f l0 a1 = some (r1, r2)) :
    Calls Try.prog 76 #[u9000_, .int .i64 a1] w fun e w' => e = .returned (.int .i64 r1) ∧ Kd.S k32D 32 w' w0.heap.size (fun k_ => (P0_ k_ ∨ w.heap.size ≤ k_)) u9000_ r2 ∧ Below w0.heap.size w0 w' ∧ Kept w w' (fun k_ => P0_ k_) := by
  unfold laws_markNodeS.f at h
  split at h
  case isFalse => cases h
  case isTrue hc =>
  obtain ⟨hok, h0, h1⟩ := hc
  replace hok : okNodeS l0 := hok
  obtain ⟨ll, rfl⟩ : ∃ y, y = l0 := ⟨_, rfl⟩
  obtain ⟨a, rfl⟩ : ∃ y, y = a1 := ⟨_, rfl⟩
  obtain ⟨P, rfl⟩ : ∃ y, y = P0_ := ⟨_, rfl⟩
  obtain ⟨u, rfl⟩ : ∃ y, y = u9000_ := ⟨_, rfl⟩
  have ho := ho0
  clear ho0
  injection h with h
  injection h with hr1 hr2
  subst hr1
  subst hr2
  have HL := Aside0.mk (okNodeS_len hok)
  have HOK := Aside0.mk hok
  have HC := Aside0.mk (cntNodeS_nn hok)
  have HO0 := Aside0.mk (show Kd.S k32D 32 w w0.heap.size (fun k_ => P k_ ∨ w.heap.size ≤ k_) u (midL mkNode cntNode ll a 0) from by rw [midL_zero]; exact Kd.S_mono ho (fun _ hk => .inl hk))
  obtain ⟨A, c, rfl⟩ := Kd.S_slice ho
  have HK := Aside0.mk (Kept.refl w P)
  have HB := Aside0.mk hB
  have H0 := Aside0.mk h0
  have H1 := Aside0.mk h1
  clear hB ho hok h0 h1
  go_enter Try.func76, Try.ntmps76
  go_wp2
  go_loopg [1, 5] ll.length (fun kq v1 v5 w' => ∃ (x1_1 x5_1 : Int), v1 = .int .i64 x1_1 ∧ v5 = .int .i64 x5_1 ∧ Aside0 (0 ≤ x5_1 ∧ x5_1 ≤ ll.length ∧ kq = ll.length - x5_1.toNat) ∧ Aside0 (x1_1 = a + cntNodeS (ll.take x5_1.toNat)) ∧ Aside0 (Kd.S k32D 32 w' w0.heap.size (fun k_ => P k_ ∨ w.heap.size ≤ k_) (.slice A ll.length c) (midL mkNode cntNode ll a x5_1.toNat)) ∧ Aside0 (Kept w w' P) ∧ Aside0 (Below w0.heap.size w0 w'))
  case atStart => exact ⟨a, 0, rfl, rfl, ⟨by omega⟩, ⟨by simp [cntNodeS, cntL]⟩, HO0, HK, HB⟩
  case round =>
    clear HO0 HK HB
    obtain ⟨x1_1, x5_1, rfl, rfl, HI, HX, HO, HK, HB⟩ := hrel
    by_cases c3 : x5_1 < (ll.length : Int)
    · have c3b0 : decide (x5_1 < (ll.length : Int)) = true := decide_eq_true c3
      have p1 : 0 ≤ x5_1 := HI.out.1
      obtain ⟨i, hi⟩ : ∃ i : Nat, i = x5_1.toNat := ⟨_, rfl⟩
      have hil : i < ll.length := by omega
      obtain ⟨go, co, eo, gb, gl, cl, HG⟩ := Kd.S_form HO.out (by rw [midL_length mkNode cntNode ll a _ (by omega)]; omega)
      rw [midL_length mkNode cntNode ll a _ (by omega)] at eo
      cases eo
      obtain ⟨oki, v, hoki, hR, hcell, hback⟩ := lentD HO.out x5_1 p1 c3 (fun k hk => .inr (Nat.le_trans HK.out.1 hk))
      rw [← hi, midL_getD mkNode cntNode z32 ll a i hil] at hR
      obtain ⟨Ai, ci, rfl⟩ := Kd.S_slice hR
      have ht := cntNodeS_take ll i
      have hx := HX.out
      rw [← hi] at hx
      have hc := HC.out
      have h0 := H0.out
      have h1 := H1.out
      have hcall := laws_markKeySS.calls oki _ (ll.getD i z32).f0 x1_1 (x1_1 + cntKeySS (ll.getD i z32).f0) (mkKeySS (ll.getD i z32).f0 x1_1) w0 wr HB.out hR (markKeySS_f (okNodeS_at HOK.out i hil) (by omega) (by omega))
      have HCALL := Aside0.mk hcall
      have HN := Aside0.mk (show cntNodeS (ll.take (i + 1)) = cntNodeS (ll.take i) + cntNode (ll.getD i z32) from cntL_take cntNode z32 ll i hil)
      have HS := Aside0.mk (midL_set mkNode cntNode z32 ll a i hil)
      have HBK := Aside0.mk hback
      have HOKI := Aside0.mk hoki
      have HI' := Aside0.mk hi
      have HX' := Aside0.mk hx
      have HIL := Aside0.mk hil
      clear hcall hback hoki hx hc h0 h1 ht hil hR
      clear HO
      replace p1 := eq_true p1
      replace c3 := eq_true c3
      generalize ll.getD i z32 = y at *
      clear hi
      go_wp2_with (first | ((with_reducible refine gate_callee (f := 59) rfl ?_); refine goesL_ (some 18) rfl rfl Try.func59 (by kernel_rfl) rfl #[.slice Ai y.f0.length ci, .int .i64 x1_1] rfl (by (try simp only [List.map_toArray, List.map_cons, List.map_nil]); first | done | rfl) ?_; refine HCALL.out.mono ?_; rintro e w1 ⟨rfl, hR1, hB1, hK1⟩; refine ⟨_, rfl, ?_⟩; have n0 := Aside0.mk (HBK.out w1 (⟨_⟩ : S32) hK1 hR1); have n1 := Aside0.mk (Kept.then_ HK.out hK1 (fun k hk => HOKI.out k hk)); clear HK HB; have HO := n0; have HK := n1; have HB := Aside0.mk hB1; clear n0 n1 hK1 hR1 hB1))
      go_roundg (ll.length - (x5_1.toNat + 1))
      case measure => have := HI.out; have := HIL.out; have := HI'.out; omega
      case rel =>
        have hI := HI.out
        have hi := HI'.out
        have hil := HIL.out
        have hw : wrap64 (x5_1 + 1) = x5_1 + 1 := w64 (by omega) (by have := HL.out; omega)
        have ht : (x5_1 + 1).toNat = i + 1 := by omega
        refine ⟨_, x5_1 + 1, rfl, by first | rfl | (rw [hw]) | (simp [hw]), ⟨by omega⟩, ⟨?_⟩, ⟨?_⟩, HK, HB⟩
        · rw [ht, HN.out, HX'.out]; unfold cntNode; omega
        · have h := HO.out
          have hS : (midL mkNode cntNode ll a i).set i (mkNode y (a + cntNodeS (ll.take i))) = midL mkNode cntNode ll a (i + 1) := HS.out
          rw [← HX'.out] at hS
          rw [ht, ← hS, hi]
          exact h
    · have c3b0 : decide (x5_1 < (ll.length : Int)) = false := decide_eq_false c3
      have hI := HI.out
      have hx := HX.out
      have ho := HO.out
      have e1 : x5_1.toNat = ll.length := by omega
      rw [e1, List.take_length] at hx
      rw [e1, midL_all] at ho
      have HO' := Aside0.mk ho
      have HX' := Aside0.mk hx
      clear hI hx ho e1 c3
      go_wp2
      go_ret
      exact ⟨by rw [HX'.out]; rfl, HO'.out, HB.out, HK.out⟩
theorem V_of_S {α : Type} {d : Kd α} {e base : Nat} {W : World} {ok : Nat → Prop} {v : Value} {xs : List α} (h : Kd.S d e W base ok v xs) : Kd.V d e W base ok v xs := by
  obtain ⟨A, c, rfl, hl, _⟩ := Kd.S_reads h
  exact ⟨A, c, rfl, hl, Kd.S_F h⟩
theorem V_of_R {α : Type} {d : Kd α} {e base : Nat} {W : World} {ok : Nat → Prop} {v : Value} {xs : List α} (h : Kd.R d e W base ok v xs) : Kd.V d e W base ok v xs := by
  obtain ⟨A, c, rfl, hl, _⟩ := Kd.R_reads h
  exact ⟨A, c, rfl, hl, Kd.R_F h⟩
theorem V_kept' {α : Type} {d : Kd α} {e base : Nat} {W W1 : World} {ok S : Nat → Prop} {v : Value} {xs : List α} (h : Kd.V d e W base ok v xs) (hk : Kept W W1 S) (hne : ∀ k, ok k → k < W.heap.size → ¬ S k) : Kd.V d e W1 base (fun k => ok k ∧ k < W.heap.size) v xs := by
  obtain ⟨A, c, rfl, hl, hf⟩ := h
  exact ⟨A, c, rfl, hl, Kd.F_kept (Kd.F_bound hf) hk (fun k hk => hne k hk.1 hk.2)⟩
def laws_markTree.f (l0_0 : List Int) (l0_1 : List S32) (a1 : Int) : Option (Int × List Int × List S32) := if l0_0.length ≤ 4194304 ∧ bulkNodeS l0_1 ≤ 4194304 ∧ 0 ≤ a1 ∧ a1 ≤ 800000000000 then some (a1 + (cntIntS l0_0 + cntNodeS l0_1), mkIntS l0_0 a1, mkNodeS l0_1 (a1 + cntIntS l0_0)) else none
theorem markTree_f {l : List Int} {m : List S32} {a : Int} (ho : okIntS l) (ho2 : okNodeS m) (h0 : 0 ≤ a) (h1 : a ≤ 800000000000) : laws_markTree.f l m a = some (a + (cntIntS l + cntNodeS m), mkIntS l a, mkNodeS m (a + cntIntS l)) := if_pos ⟨ho, ho2, h0, h1⟩
set_option maxHeartbeats 4000000 in
set_option maxRecDepth 100000 in
theorem laws_markTree.calls (P0_0_ P0_1_ : Nat → Prop) (u9000_ u9001_ : Value) (l0_0 : List Int) (l0_1 : List S32) (a1 : Int) (r1 : Int) (r2 : List Int) (r3 : List S32) (w0 w : World) (hB : Below w0.heap.size w0 w) (ho0_0 : Kd.R (Kd.int .i64) 3 w w0.heap.size P0_0_ u9000_ l0_0) (ho0_1 : Kd.S k32D 32 w w0.heap.size P0_1_ u9001_ l0_1) (h : laws_markTree.f l0_0 l0_1 a1 = some (r1, r2, r3)) :
    Calls Try.prog 41 #[.agg #[u9000_, u9001_], .int .i64 a1] w fun e w' => e = .returned (.int .i64 r1) ∧ Kd.V (Kd.int .i64) 3 w' w0.heap.size (fun k_ => (P0_0_ k_ ∨ P0_1_ k_) ∨ w.heap.size ≤ k_) u9000_ r2 ∧ Kd.V k32D 32 w' w0.heap.size (fun k_ => (P0_0_ k_ ∨ P0_1_ k_) ∨ w.heap.size ≤ k_) u9001_ r3 ∧ Below w0.heap.size w0 w' ∧ Kept w w' (fun k_ => P0_0_ k_ ∨ P0_1_ k_) := by
  have hu := Try.underlying58
  unfold laws_markTree.f at h
  split at h
  case isFalse => cases h
  case isTrue hcond =>
  obtain ⟨hok0, hok1, hge, hle⟩ := hcond
  replace hok0 : okIntS l0_0 := hok0
  replace hok1 : okNodeS l0_1 := hok1
  injection h with h
  simp only [Prod.mk.injEq] at h
  obtain ⟨rfl, rfl, rfl⟩ := h
  have hc0 := cntIntS_nn hok0
  obtain ⟨K, hK⟩ := markIntS_ev l0_0 a1 hok0 hge (by omega)
  have hA : laws_markIntS.f K l0_0 a1 = some (a1 + cntIntS l0_0, mkIntS l0_0 a1) := hK K (Nat.le_refl _)
  have hA2 := markNodeS_f (a := a1 + cntIntS l0_0) hok1 (by omega) (by omega)
  clear hK
  -- the blocks of the first row, by their type; the second's are none of these
  obtain ⟨P, hP⟩ : ∃ P : Nat → Prop, P = fun k => P0_0_ k ∧ k < w.heap.size ∧ ∃ cells, w.heap[k]? = some (.cells cells 3 (0, 0)) := ⟨_, rfl⟩
  obtain ⟨Q, hQ⟩ : ∃ Q : Nat → Prop, Q = fun k => P0_1_ k ∧ k < w.heap.size ∧ ¬ P k := ⟨_, rfl⟩
  have hS0 : Kd.R (Kd.int .i64) 3 w w0.heap.size P u9000_ l0_0 := Kd.R_mono (Kd.R_bound ho0_0) (fun k hk => by
    rw [hP]
    obtain ⟨h1, _, h2, q, hq, hc⟩ := hk
    have : q = 3 := by simpa [Kd.int, Kd.scalar] using hq
    subst this
    exact ⟨h1, h2, hc⟩)
  have hS1 : Kd.S k32D 32 w w0.heap.size Q u9001_ l0_1 := Kd.S_mono (Kd.S_bound ho0_1) (fun k hk => by
    rw [hQ]
    obtain ⟨h1, _, h2, q, hq, cells, hc⟩ := hk
    refine ⟨h1, h2, fun h3 => ?_⟩
    rw [hP] at h3
    obtain ⟨_, _, cells', hc'⟩ := h3
    rw [hc] at hc'
    injection hc' with hc'
    injection hc' with _ hc'
    subst hc'
    revert hq
    decide)
  have hPQ : ∀ k, P k → ¬ Q k := fun k h1 h2 => by rw [hQ] at h2; exact h2.2.2 h1
  have hPlt : ∀ k, P k → k < w.heap.size := fun k h1 => by rw [hP] at h1; exact h1.2.1
  have hQlt : ∀ k, Q k → k < w.heap.size := fun k h1 => by rw [hQ] at h1; exact h1.2.1
  have hP0 : ∀ k, P k → P0_0_ k := fun k h1 => by rw [hP] at h1; exact h1.1
  have hQ0 : ∀ k, Q k → P0_1_ k := fun k h1 => by rw [hQ] at h1; exact h1.1
  clear ho0_0 ho0_1
  obtain ⟨A, c, rfl⟩ := Kd.R_slice hS0
  obtain ⟨A', c', rfl⟩ := Kd.S_slice hS1
  have HS0 := Aside0.mk hS0
  have HS1 := Aside0.mk hS1
  have HPQ := Aside0.mk hPQ
  have HPL := Aside0.mk hPlt
  have HQL := Aside0.mk hQlt
  have HP0 := Aside0.mk hP0
  have HQ0 := Aside0.mk hQ0
  have HB := Aside0.mk hB
  have H1 := Aside0.mk hA
  have H2 := Aside0.mk hA2
  clear hS0 hS1 hPQ hPlt hQlt hP0 hQ0 hB hA hA2 hP hQ hok0 hok1 hge hle
  have HSUM := Aside0.mk (show a1 + cntIntS l0_0 + cntNodeS l0_1 = a1 + (cntIntS l0_0 + cntNodeS l0_1) by omega)
  clear hc0
  generalize mkIntS l0_0 a1 = t2 at *
  generalize hs2_ : mkNodeS l0_1 (a1 + cntIntS l0_0) = s2 at *
  clear hs2_
  generalize hs1_ : a1 + cntIntS l0_0 + cntNodeS l0_1 = s1 at *
  generalize a1 + cntIntS l0_0 = t1 at *
  clear hs1_
  go_enter Try.func41, Try.ntmps41
  go_wp2_with (first | ((with_reducible refine gate_dst (N := 2) rfl ?_); refine box_event ?hg (N := 2) ?hd (cs := #[.slice A l0_0.length c, .slice A' l0_1.length c']) (t := 58) ?hr ?_; (case hd => rfl); (case hg => rfl); (case hr => first | (go_simp; done) | (go_simp; rfl)); intro gb hg_ w1 hbox hb; have HG := Aside0.mk hg_; have BK := Aside0.mk hbox; have HBX := Aside0.mk hb; have hz0 : w1.cell? ⟨gb, 0, none⟩ = some (.slice A l0_0.length c) := (blk_cell BK.out 0).trans rfl; have hz1 : w1.cell? ⟨gb, 1, none⟩ = some (.slice A' l0_1.length c') := (blk_cell BK.out 1).trans rfl; clear hbox hb hg_) | ((with_reducible refine gate_callee (f := 75) rfl ?_); refine goesL_ (some 8) rfl rfl Try.func75 (by kernel_rfl) rfl #[.slice A l0_0.length c, .int .i64 a1] rfl (by (try simp only [List.map_toArray, List.map_cons, List.map_nil]); first | done | rfl) ?_; (with_reducible refine (laws_markIntS.calls K P _ l0_0 a1 t1 t2 w0 w1 ?s1 ?s2 H1.out).mono ?_); (case s1 => exact below_then HB.out HB.out.size HBX.out); (case s2 => exact Kd.R_below HS0.out HBX.out); rintro e w2 ⟨rfl, hs, hb2, hk⟩; refine ⟨_, rfl, ?_⟩; have HV := Aside0.mk (V_of_R hs); have HB2 := Aside0.mk hb2; have HK := Aside0.mk hk; have BK2 := Aside0.mk (blk_kept BK.out hk (fun h2 => by have := HPL.out _ h2; rw [HG.out] at this; omega)); clear hs hb2 hk; have hz2 : w2.cell? ⟨gb, 1, none⟩ = some (.slice A' l0_1.length c') := (blk_cell BK2.out 1).trans rfl) | ((with_reducible refine gate_callee (f := 76) rfl ?_); refine goesL_ (some 12) rfl rfl Try.func76 (by kernel_rfl) rfl #[.slice A' l0_1.length c', .int .i64 t1] rfl (by (try simp only [List.map_toArray, List.map_cons, List.map_nil]); first | done | rfl) ?_; (with_reducible refine (laws_markNodeS.calls Q _ l0_1 t1 s1 s2 w0 w2 ?s3 ?s4 H2.out).mono ?_); (case s3 => exact HB2.out); (case s4 => exact Kd.S_kept (Kd.S_below HS1.out HBX.out) HK.out (fun k hk h2 => HPQ.out k h2 hk)); rintro e w3 ⟨rfl, hs, hb3, hk3⟩; refine ⟨_, rfl, ?_⟩; have HV3 := Aside0.mk (V_of_S hs); have HB3 := Aside0.mk hb3; have HK3 := Aside0.mk hk3; clear hs hb3 hk3))
  go_ret
  have hz := HBX.out.size
  have hk2 := HK.out.1
  obtain ⟨A3, c3, e3, l3, f3⟩ := V_kept' HV.out HK3.out (fun k h1 hlt h2 => by
    rcases h1 with h1 | h1
    · exact HPQ.out k h1 h2
    · have := HQL.out k h2; omega)
  obtain ⟨A4, c4, e4, l4, f4⟩ := HV3.out
  refine ⟨by rw [← HSUM.out]; rfl, ⟨A3, c3, e3, l3, Kd.F_mono f3 (fun k hk => hk.1.elim (fun h => .inl (.inl (HP0.out k h))) (fun h => .inr (Nat.le_trans hz h)))⟩, ⟨A4, c4, e4, l4, Kd.F_mono f4 (fun k hk => hk.elim (fun h => .inl (.inr (HQ0.out k h))) (fun h => .inr (by omega)))⟩, HB3.out, ?_⟩
  exact ((Kept.of_below HBX.out _).then_ HK.out (fun k hk => .inl (.inl (HP0.out k hk)))).then_ HK3.out (fun k hk => .inl (.inr (HQ0.out k hk)))
theorem S_of_nil {α : Type} {d : Kd α} {e base : Nat} {W : World} {ok : Nat → Prop} {v : Value} (h : d.R e W base ok v []) : Kd.S d e W base ok v [] := by
  obtain ⟨h0, inner, ho, hr⟩ := h
  exact ⟨fun _ => 0, h0, inner, ho, hr.1, fun j p hj => by simp at hj⟩
theorem deep_one {base : Nat} {W : World} {ok : Nat → Prop} {v : Value} (h : Kd.R k32 32 W base ok v [(⟨[]⟩ : S32)]) : Kd.S k32D 32 W base ok v [(⟨[]⟩ : S32)] := by
  obtain ⟨h0, inner, ho, hr⟩ := h
  refine ⟨fun _ => 0, h0, inner, ho, hr.1, fun j p hj => ?_⟩
  rcases j with _ | j
  · injection hj with hj
    subst hj
    obtain ⟨v0, hv, g0⟩ := hr.2 0 _ rfl
    exact ⟨v0, hv, S_of_nil (Kd.R_mono g0 (fun k hk => ⟨hk, rfl⟩))⟩
  · simp at hj
theorem impl_TreeNew.calls (r1 : List Int) (r2 : List (S32)) (w : World) (h : impl_TreeNew.f = some (r1, r2)) :
    Calls Try.prog 39 #[] w fun e w' => ∃ v0_ v1_ : Value, e = .returned (.agg #[v0_, v1_]) ∧ Kd.R (Kd.int .i64) 3 w' w.heap.size (fun _ => True) v0_ r1 ∧ Kd.S k32D 32 w' w.heap.size (fun _ => True) v1_ r2 ∧ Below w.heap.size w w' := by
  have hf := h
  simp only [impl_TreeNew.f, Option.some.injEq, Prod.mk.injEq] at h
  obtain ⟨rfl, rfl⟩ := h
  refine (Go.Proofs.Ythpfihklkcnckaa.PFnExactTreeNew.impl_TreeNew.calls _ _ w hf).mono ?_
  rintro e w' ⟨v0, v1, he, h0, h1, hb⟩
  exact ⟨v0, v1, he, h0, deep_one h1, hb⟩

set_option maxHeartbeats 8000000 in
set_option maxRecDepth 100000 in
theorem walkFnExactTreeNew (k3 : Nat) (k5 : Nat) (r1_1 : List Int) (r1_2 : List (S32)) (r2_1 : List Int) (r2_2 : List (S32)) (r4_1 : Int) (r4_2 : List Int) (r4_3 : List S32) (w : World) (Q1x : spec_TreeNew.f  = some (r1_1, r1_2)) (Q2x : impl_TreeNew.f = some (r2_1, r2_2)) (Q3x : laws_eqTree.f k3 r2_1 r2_2 r1_1 r1_2 = some true) (Q4x : laws_markTree.f r2_1 r2_2 1 = some (r4_1, r4_2, r4_3)) (Q5x : laws_heldTree.f k5 r4_2 r4_3 1 = some r4_1) (pr4_1 : 0 ≤ r4_1) :
    Calls Try.prog 9 #[] w fun e w' => e = .returned (.bool true) ∧ Below w.heap.size w w' := by
  have hu58 := Try.underlying58
  have Q1 := Aside0.mk Q1x
  clear Q1x
  have Q2 := Aside0.mk Q2x
  clear Q2x
  have Q3 := Aside0.mk Q3x
  clear Q3x
  have Q4 := Aside0.mk Q4x
  clear Q4x
  have Q5 := Aside0.mk Q5x
  clear Q5x
  have dr4_1 : decide (r4_1 < 0) = false := by simp; omega
  clear pr4_1
  have HB := Aside0.mk (Below.refl w.heap.size w)
  have HORD := Aside0.mk (Nat.le_refl w.heap.size)
  have HT := Aside0.mk (Nat.le_refl w.heap.size)
  go_enter Try.func9, Try.ntmps9
  go_wp2_with (first | ((with_reducible refine gate_callee (f := 38) rfl ?_); refine goesL_ (some 6) rfl rfl Try.func38 (by kernel_rfl) rfl #[] rfl (by (try simp only [List.map_toArray, List.map_cons, List.map_nil]); first | done | rfl | (simp only [List.length_drop, List.length_take]; rfl)) ?_; (with_reducible refine (spec_TreeNew.calls r1_1 r1_2 _ Q1.out).mono ?_); rintro e_ w1 ⟨v0_, v1_, rfl, ho0, ho1, hb⟩; refine ⟨_, rfl, ?_⟩; obtain ⟨lo1, hi1, el_, eh_, ol_, oh_⟩ := Mem.times HT.out hb; (try rw [← el_] at ho0); obtain ⟨A1_0, c1_0, ev_, hc0_, hf0_, hs0_⟩ := Mem.new_R ho0 eh_; subst ev_; (try rw [← el_] at ho1); obtain ⟨A1_1, c1_1, ev_, hc1_, hf1_, hs1_⟩ := Mem.new_R ho1 eh_; subst ev_; have n0_ := Aside0.mk (below_step HB.out hb); have n1_ := Aside0.mk (hf0_); have n2_ := Aside0.mk (hc0_); have n3_ := Aside0.mk (hs0_); have n4_ := Aside0.mk (hf1_); have n5_ := Aside0.mk (hc1_); have n6_ := Aside0.mk (hs1_); have n7_ := Aside0.mk (And.intro HORD.out (And.intro ol_ oh_)); have n8_ := Aside0.mk (Nat.le_of_eq eh_); (try clear HB); (try clear HF1_0); (try clear HC1_0); (try clear HS1_0); (try clear HF1_1); (try clear HC1_1); (try clear HS1_1); (try clear HORD); (try clear HT); have HB := n0_; have HF1_0 := n1_; have HC1_0 := n2_; have HS1_0 := n3_; have HF1_1 := n4_; have HC1_1 := n5_; have HS1_1 := n6_; have HORD := n7_; have HT := n8_; clear n0_ n1_ n2_ n3_ n4_ n5_ n6_ n7_ n8_; clear ol_ oh_ el_ eh_ ho0 hf0_ hc0_ hs0_ ho1 hf1_ hc1_ hs1_; (try clear hb)) | ((with_reducible refine gate_dst (N := 1) rfl ?_); refine box_event ?hg (N := 1) ?hd (cs := #[.slice none 0 0, .slice none 0 0]) (t := 58) ?hr ?_; (case hd => rfl); (case hg => rfl); (case hr => first | (go_simp; done) | (go_simp; rfl)); intro gb2 hg_ w2 hbox hb; have hge_ : hi1 ≤ gb2 := (by rw [hg_]; exact HT.out); have hlt_ : gb2 + 1 ≤ w2.heap.size := blk_lt hbox; have n0_ := Aside0.mk (Kd.F_below HF1_0.out hb); have n1_ := Aside0.mk (Kd.R_below HS1_0.out hb); have n2_ := Aside0.mk (Kd.F_below HF1_1.out hb); have n3_ := Aside0.mk (Kd.R_below HS1_1.out hb); have n4_ := Aside0.mk (below_step HB.out hb); have n5_ := Aside0.mk (hbox); have n6_ := Aside0.mk (And.intro HORD.out (And.intro hge_ (Nat.le_succ gb2))); have n7_ := Aside0.mk (hlt_); (try clear HF1_0); (try clear HS1_0); (try clear HF1_1); (try clear HS1_1); (try clear HB); (try clear BK2); (try clear HORD); (try clear HT); have HF1_0 := n0_; have HS1_0 := n1_; have HF1_1 := n2_; have HS1_1 := n3_; have HB := n4_; have BK2 := n5_; have HORD := n6_; have HT := n7_; clear n0_ n1_ n2_ n3_ n4_ n5_ n6_ n7_; clear hb hbox hg_ hge_ hlt_; have hzgb2_0_2 : w2.cell? ⟨gb2, 0, none⟩ = some (.slice none 0 0) := (blk_cell BK2.out 0).trans rfl; have hygb2_0_2 := blk_frozen BK2.out 0; have hzgb2_1_2 : w2.cell? ⟨gb2, 1, none⟩ = some (.slice none 0 0) := (blk_cell BK2.out 1).trans rfl; have hygb2_1_2 := blk_frozen BK2.out 1) | ((with_reducible refine gate_store (t := 58) (p := 1) rfl ?_); refine store_event (t := 58) (p := 1) (v := ?vo_w3) (w1 := ((w2.setCell ⟨gb2, 0, none⟩ (.slice A1_0 r1_1.length c1_0)).setCell ⟨gb2, 1, none⟩ (.slice A1_1 r1_2.length c1_1))) ?hg ?ho ?hn ?hr ?_; (case ho => rfl); (case hg => rfl); (case hn => rfl); (case hr => first | (go_simp; done) | (go_simp; rfl)); intro w3 hw_; have hkp : Kept w2 w3 (fun k_ => k_ = gb2) := (by rw [hw_]; exact Kept.setCell (Kept.setCell (Kept.refl w2 (fun k_ => k_ = gb2)) (.inl rfl) (.slice A1_0 r1_1.length c1_0)) (.inl rfl) (.slice A1_1 r1_2.length c1_1)); have hge_ : w.heap.size ≤ gb2 := (by have o_ := HORD.out; (try unfold In at *); (try show _ ≠ _); omega); have hbn_ : Below w.heap.size w w3 := (by rw [hw_]; exact below_set (below_set (HB.out) hge_) hge_); have hbk_ : w3.heap[gb2]? = some (.cells #[.slice A1_0 r1_1.length c1_0, .slice A1_1 r1_2.length c1_1] 58 (0, 0)) := (by rw [hw_]; exact blk_put (cs := #[.slice A1_0 r1_1.length c1_0, .slice none 0 0]) (cs' := #[.slice A1_0 r1_1.length c1_0, .slice A1_1 r1_2.length c1_1]) (blk_put (cs := #[.slice none 0 0, .slice none 0 0]) (cs' := #[.slice A1_0 r1_1.length c1_0, .slice none 0 0]) (BK2.out) 0 _ rfl) 1 _ rfl); have hsz_ : (gb2 + 1) ≤ w3.heap.size := Nat.le_trans HT.out hkp.1; have n0_ := Aside0.mk (Kd.F_kept HF1_0.out hkp (fun k_ h1_ h2_ => by have o_ := HORD.out; unfold In at h1_; omega)); have n1_ := Aside0.mk (Kd.R_kept HS1_0.out hkp (fun k_ h1_ h2_ => by have o_ := HORD.out; unfold In at h1_; omega)); have n2_ := Aside0.mk (Kd.F_kept HF1_1.out hkp (fun k_ h1_ h2_ => by have o_ := HORD.out; unfold In at h1_; omega)); have n3_ := Aside0.mk (Kd.R_kept HS1_1.out hkp (fun k_ h1_ h2_ => by have o_ := HORD.out; unfold In at h1_; omega)); have n4_ := Aside0.mk (hbn_); have n5_ := Aside0.mk (hbk_); have n6_ := Aside0.mk (hsz_); (try clear HF1_0); (try clear HS1_0); (try clear HF1_1); (try clear HS1_1); (try clear HB); (try clear BK2); (try clear HT); have HF1_0 := n0_; have HS1_0 := n1_; have HF1_1 := n2_; have HS1_1 := n3_; have HB := n4_; have BK2 := n5_; have HT := n6_; clear n0_ n1_ n2_ n3_ n4_ n5_ n6_; clear hw_ hkp hge_ hbn_ hbk_ hsz_; have hzgb2_0_3 : w3.cell? ⟨gb2, 0, none⟩ = some (.slice A1_0 r1_1.length c1_0) := (blk_cell BK2.out 0).trans rfl; have hygb2_0_3 := blk_frozen BK2.out 0; have hzgb2_1_3 : w3.cell? ⟨gb2, 1, none⟩ = some (.slice A1_1 r1_2.length c1_1) := (blk_cell BK2.out 1).trans rfl; have hygb2_1_3 := blk_frozen BK2.out 1) | ((with_reducible refine gate_callee (f := 39) rfl ?_); refine goesL_ (some 7) rfl rfl Try.func39 (by kernel_rfl) rfl #[] rfl (by (try simp only [List.map_toArray, List.map_cons, List.map_nil]); first | done | rfl | (simp only [List.length_drop, List.length_take]; rfl)) ?_; (with_reducible refine (impl_TreeNew.calls r2_1 r2_2 _ Q2.out).mono ?_); rintro e_ w4 ⟨v0_, v1_, rfl, ho0, ho1, hb⟩; refine ⟨_, rfl, ?_⟩; obtain ⟨lo4, hi4, el_, eh_, ol_, oh_⟩ := Mem.times HT.out hb; (try rw [← el_] at ho0); obtain ⟨A4_0, c4_0, ev_, hc0_, hf0_, hs0_⟩ := Mem.new_R ho0 eh_; subst ev_; (try rw [← el_] at ho1); obtain ⟨A4_1, c4_1, ev_, hc1_, hf1_, hs1_⟩ := Mem.new_S ho1 eh_; subst ev_; have n0_ := Aside0.mk (Kd.F_below HF1_0.out hb); have n1_ := Aside0.mk (Kd.R_below HS1_0.out hb); have n2_ := Aside0.mk (Kd.F_below HF1_1.out hb); have n3_ := Aside0.mk (Kd.R_below HS1_1.out hb); have n4_ := Aside0.mk (blk_below BK2.out hb); have n5_ := Aside0.mk (below_step HB.out hb); have n6_ := Aside0.mk (hf0_); have n7_ := Aside0.mk (hc0_); have n8_ := Aside0.mk (hs0_); have n9_ := Aside0.mk (hf1_); have n10_ := Aside0.mk (hc1_); have n11_ := Aside0.mk (hs1_); have n12_ := Aside0.mk (And.intro HORD.out (And.intro ol_ oh_)); have n13_ := Aside0.mk (Nat.le_of_eq eh_); (try clear HF1_0); (try clear HS1_0); (try clear HF1_1); (try clear HS1_1); (try clear BK2); (try clear HB); (try clear HF4_0); (try clear HC4_0); (try clear HS4_0); (try clear HF4_1); (try clear HC4_1); (try clear HS4_1); (try clear HORD); (try clear HT); have HF1_0 := n0_; have HS1_0 := n1_; have HF1_1 := n2_; have HS1_1 := n3_; have BK2 := n4_; have HB := n5_; have HF4_0 := n6_; have HC4_0 := n7_; have HS4_0 := n8_; have HF4_1 := n9_; have HC4_1 := n10_; have HS4_1 := n11_; have HORD := n12_; have HT := n13_; clear n0_ n1_ n2_ n3_ n4_ n5_ n6_ n7_ n8_ n9_ n10_ n11_ n12_ n13_; clear ol_ oh_ el_ eh_ ho0 hf0_ hc0_ hs0_ ho1 hf1_ hc1_ hs1_; (try clear hb); have hzgb2_0_4 : w4.cell? ⟨gb2, 0, none⟩ = some (.slice A1_0 r1_1.length c1_0) := (blk_cell BK2.out 0).trans rfl; have hygb2_0_4 := blk_frozen BK2.out 0; have hzgb2_1_4 : w4.cell? ⟨gb2, 1, none⟩ = some (.slice A1_1 r1_2.length c1_1) := (blk_cell BK2.out 1).trans rfl; have hygb2_1_4 := blk_frozen BK2.out 1) | ((with_reducible refine gate_dst (N := 2) rfl ?_); refine box_event ?hg (N := 2) ?hd (cs := #[.slice none 0 0, .slice none 0 0]) (t := 58) ?hr ?_; (case hd => rfl); (case hg => rfl); (case hr => first | (go_simp; done) | (go_simp; rfl)); intro gb5 hg_ w5 hbox hb; have hge_ : hi4 ≤ gb5 := (by rw [hg_]; exact HT.out); have hlt_ : gb5 + 1 ≤ w5.heap.size := blk_lt hbox; have n0_ := Aside0.mk (Kd.F_below HF1_0.out hb); have n1_ := Aside0.mk (Kd.R_below HS1_0.out hb); have n2_ := Aside0.mk (Kd.F_below HF1_1.out hb); have n3_ := Aside0.mk (Kd.R_below HS1_1.out hb); have n4_ := Aside0.mk (Kd.F_below HF4_0.out hb); have n5_ := Aside0.mk (Kd.R_below HS4_0.out hb); have n6_ := Aside0.mk (Kd.F_below HF4_1.out hb); have n7_ := Aside0.mk (Kd.S_below HS4_1.out hb); have n8_ := Aside0.mk (blk_below BK2.out hb); have n9_ := Aside0.mk (below_step HB.out hb); have n10_ := Aside0.mk (hbox); have n11_ := Aside0.mk (And.intro HORD.out (And.intro hge_ (Nat.le_succ gb5))); have n12_ := Aside0.mk (hlt_); (try clear HF1_0); (try clear HS1_0); (try clear HF1_1); (try clear HS1_1); (try clear HF4_0); (try clear HS4_0); (try clear HF4_1); (try clear HS4_1); (try clear BK2); (try clear HB); (try clear BK5); (try clear HORD); (try clear HT); have HF1_0 := n0_; have HS1_0 := n1_; have HF1_1 := n2_; have HS1_1 := n3_; have HF4_0 := n4_; have HS4_0 := n5_; have HF4_1 := n6_; have HS4_1 := n7_; have BK2 := n8_; have HB := n9_; have BK5 := n10_; have HORD := n11_; have HT := n12_; clear n0_ n1_ n2_ n3_ n4_ n5_ n6_ n7_ n8_ n9_ n10_ n11_ n12_; clear hb hbox hg_ hge_ hlt_; have hzgb2_0_5 : w5.cell? ⟨gb2, 0, none⟩ = some (.slice A1_0 r1_1.length c1_0) := (blk_cell BK2.out 0).trans rfl; have hygb2_0_5 := blk_frozen BK2.out 0; have hzgb2_1_5 : w5.cell? ⟨gb2, 1, none⟩ = some (.slice A1_1 r1_2.length c1_1) := (blk_cell BK2.out 1).trans rfl; have hygb2_1_5 := blk_frozen BK2.out 1; have hzgb5_0_5 : w5.cell? ⟨gb5, 0, none⟩ = some (.slice none 0 0) := (blk_cell BK5.out 0).trans rfl; have hygb5_0_5 := blk_frozen BK5.out 0; have hzgb5_1_5 : w5.cell? ⟨gb5, 1, none⟩ = some (.slice none 0 0) := (blk_cell BK5.out 1).trans rfl; have hygb5_1_5 := blk_frozen BK5.out 1) | ((with_reducible refine gate_store (t := 58) (p := 2) rfl ?_); refine store_event (t := 58) (p := 2) (v := ?vo_w6) (w1 := ((w5.setCell ⟨gb5, 0, none⟩ (.slice A4_0 r2_1.length c4_0)).setCell ⟨gb5, 1, none⟩ (.slice A4_1 r2_2.length c4_1))) ?hg ?ho ?hn ?hr ?_; (case ho => rfl); (case hg => rfl); (case hn => rfl); (case hr => first | (go_simp; done) | (go_simp; rfl)); intro w6 hw_; have hkp : Kept w5 w6 (fun k_ => k_ = gb5) := (by rw [hw_]; exact Kept.setCell (Kept.setCell (Kept.refl w5 (fun k_ => k_ = gb5)) (.inl rfl) (.slice A4_0 r2_1.length c4_0)) (.inl rfl) (.slice A4_1 r2_2.length c4_1)); have hge_ : w.heap.size ≤ gb5 := (by have o_ := HORD.out; (try unfold In at *); (try show _ ≠ _); omega); have hbn_ : Below w.heap.size w w6 := (by rw [hw_]; exact below_set (below_set (HB.out) hge_) hge_); have hbk_ : w6.heap[gb5]? = some (.cells #[.slice A4_0 r2_1.length c4_0, .slice A4_1 r2_2.length c4_1] 58 (0, 0)) := (by rw [hw_]; exact blk_put (cs := #[.slice A4_0 r2_1.length c4_0, .slice none 0 0]) (cs' := #[.slice A4_0 r2_1.length c4_0, .slice A4_1 r2_2.length c4_1]) (blk_put (cs := #[.slice none 0 0, .slice none 0 0]) (cs' := #[.slice A4_0 r2_1.length c4_0, .slice none 0 0]) (BK5.out) 0 _ rfl) 1 _ rfl); have hsz_ : (gb5 + 1) ≤ w6.heap.size := Nat.le_trans HT.out hkp.1; have n0_ := Aside0.mk (Kd.F_kept HF1_0.out hkp (fun k_ h1_ h2_ => by have o_ := HORD.out; unfold In at h1_; omega)); have n1_ := Aside0.mk (Kd.R_kept HS1_0.out hkp (fun k_ h1_ h2_ => by have o_ := HORD.out; unfold In at h1_; omega)); have n2_ := Aside0.mk (Kd.F_kept HF1_1.out hkp (fun k_ h1_ h2_ => by have o_ := HORD.out; unfold In at h1_; omega)); have n3_ := Aside0.mk (Kd.R_kept HS1_1.out hkp (fun k_ h1_ h2_ => by have o_ := HORD.out; unfold In at h1_; omega)); have n4_ := Aside0.mk (Kd.F_kept HF4_0.out hkp (fun k_ h1_ h2_ => by have o_ := HORD.out; unfold In at h1_; omega)); have n5_ := Aside0.mk (Kd.R_kept HS4_0.out hkp (fun k_ h1_ h2_ => by have o_ := HORD.out; unfold In at h1_; omega)); have n6_ := Aside0.mk (Kd.F_kept HF4_1.out hkp (fun k_ h1_ h2_ => by have o_ := HORD.out; unfold In at h1_; omega)); have n7_ := Aside0.mk (Kd.S_kept HS4_1.out hkp (fun k_ h1_ h2_ => by have o_ := HORD.out; unfold In at h1_; omega)); have n8_ := Aside0.mk (blk_kept BK2.out hkp (fun h2_ => by have o_ := HORD.out; omega)); have n9_ := Aside0.mk (hbn_); have n10_ := Aside0.mk (hbk_); have n11_ := Aside0.mk (hsz_); (try clear HF1_0); (try clear HS1_0); (try clear HF1_1); (try clear HS1_1); (try clear HF4_0); (try clear HS4_0); (try clear HF4_1); (try clear HS4_1); (try clear BK2); (try clear HB); (try clear BK5); (try clear HT); have HF1_0 := n0_; have HS1_0 := n1_; have HF1_1 := n2_; have HS1_1 := n3_; have HF4_0 := n4_; have HS4_0 := n5_; have HF4_1 := n6_; have HS4_1 := n7_; have BK2 := n8_; have HB := n9_; have BK5 := n10_; have HT := n11_; clear n0_ n1_ n2_ n3_ n4_ n5_ n6_ n7_ n8_ n9_ n10_ n11_; clear hw_ hkp hge_ hbn_ hbk_ hsz_; have hzgb2_0_6 : w6.cell? ⟨gb2, 0, none⟩ = some (.slice A1_0 r1_1.length c1_0) := (blk_cell BK2.out 0).trans rfl; have hygb2_0_6 := blk_frozen BK2.out 0; have hzgb2_1_6 : w6.cell? ⟨gb2, 1, none⟩ = some (.slice A1_1 r1_2.length c1_1) := (blk_cell BK2.out 1).trans rfl; have hygb2_1_6 := blk_frozen BK2.out 1; have hzgb5_0_6 : w6.cell? ⟨gb5, 0, none⟩ = some (.slice A4_0 r2_1.length c4_0) := (blk_cell BK5.out 0).trans rfl; have hygb5_0_6 := blk_frozen BK5.out 0; have hzgb5_1_6 : w6.cell? ⟨gb5, 1, none⟩ = some (.slice A4_1 r2_2.length c4_1) := (blk_cell BK5.out 1).trans rfl; have hygb5_1_6 := blk_frozen BK5.out 1) | ((with_reducible refine gate_callee (f := 40) rfl ?_); refine goesL_ (some 10) rfl rfl Try.func40 (by kernel_rfl) rfl #[.agg #[.slice A4_0 r2_1.length c4_0, .slice A4_1 r2_2.length c4_1], .agg #[.slice A1_0 r1_1.length c1_0, .slice A1_1 r1_2.length c1_1]] rfl (by (try simp only [List.map_toArray, List.map_cons, List.map_nil]); first | done | rfl | (simp only [List.length_drop, List.length_take]; rfl)) ?_; (with_reducible refine (laws_eqTree.calls k3 _ _ r2_1 _ _ r2_2 _ _ r1_1 _ _ r1_2 true _ ?s1 ?s2 ?s3 ?s4 ?s5 ?s6 ?s7 ?s8 Q3.out).mono ?_); (case s1 => exact (Kd.F_now HF4_0.out)); (case s2 => exact HC4_0.out); (case s3 => exact (Kd.F_now HF4_1.out)); (case s4 => exact HC4_1.out); (case s5 => exact (Kd.F_now HF1_0.out)); (case s6 => exact HC1_0.out); (case s7 => exact (Kd.F_now HF1_1.out)); (case s8 => exact HC1_1.out); rintro e_ w7 ⟨rfl, hb⟩; refine ⟨_, rfl, ?_⟩; have n0_ := Aside0.mk (Kd.F_below HF1_0.out hb); have n1_ := Aside0.mk (Kd.R_below HS1_0.out hb); have n2_ := Aside0.mk (Kd.F_below HF1_1.out hb); have n3_ := Aside0.mk (Kd.R_below HS1_1.out hb); have n4_ := Aside0.mk (Kd.F_below HF4_0.out hb); have n5_ := Aside0.mk (Kd.R_below HS4_0.out hb); have n6_ := Aside0.mk (Kd.F_below HF4_1.out hb); have n7_ := Aside0.mk (Kd.S_below HS4_1.out hb); have n8_ := Aside0.mk (blk_below BK2.out hb); have n9_ := Aside0.mk (blk_below BK5.out hb); have n10_ := Aside0.mk (below_step HB.out hb); have n11_ := Aside0.mk (Nat.le_trans HT.out hb.size); (try clear HF1_0); (try clear HS1_0); (try clear HF1_1); (try clear HS1_1); (try clear HF4_0); (try clear HS4_0); (try clear HF4_1); (try clear HS4_1); (try clear BK2); (try clear BK5); (try clear HB); (try clear HT); have HF1_0 := n0_; have HS1_0 := n1_; have HF1_1 := n2_; have HS1_1 := n3_; have HF4_0 := n4_; have HS4_0 := n5_; have HF4_1 := n6_; have HS4_1 := n7_; have BK2 := n8_; have BK5 := n9_; have HB := n10_; have HT := n11_; clear n0_ n1_ n2_ n3_ n4_ n5_ n6_ n7_ n8_ n9_ n10_ n11_; (try clear hb); have hzgb2_0_7 : w7.cell? ⟨gb2, 0, none⟩ = some (.slice A1_0 r1_1.length c1_0) := (blk_cell BK2.out 0).trans rfl; have hygb2_0_7 := blk_frozen BK2.out 0; have hzgb2_1_7 : w7.cell? ⟨gb2, 1, none⟩ = some (.slice A1_1 r1_2.length c1_1) := (blk_cell BK2.out 1).trans rfl; have hygb2_1_7 := blk_frozen BK2.out 1; have hzgb5_0_7 : w7.cell? ⟨gb5, 0, none⟩ = some (.slice A4_0 r2_1.length c4_0) := (blk_cell BK5.out 0).trans rfl; have hygb5_0_7 := blk_frozen BK5.out 0; have hzgb5_1_7 : w7.cell? ⟨gb5, 1, none⟩ = some (.slice A4_1 r2_2.length c4_1) := (blk_cell BK5.out 1).trans rfl; have hygb5_1_7 := blk_frozen BK5.out 1) | ((with_reducible refine gate_callee (f := 41) rfl ?_); refine goesL_ (some 14) rfl rfl Try.func41 (by kernel_rfl) rfl #[.agg #[.slice A4_0 r2_1.length c4_0, .slice A4_1 r2_2.length c4_1], .int .i64 1] rfl (by (try simp only [List.map_toArray, List.map_cons, List.map_nil]); first | done | rfl | (simp only [List.length_drop, List.length_take]; rfl)) ?_; (with_reducible refine (laws_markTree.calls (In lo4 hi4) (In lo4 hi4) (.slice A4_0 r2_1.length c4_0) (.slice A4_1 r2_2.length c4_1) r2_1 r2_2 1 r4_1 r4_2 r4_3 w _ ?s1 ?s2 ?s3 Q4.out).mono ?_); (case s1 => exact HB.out); (case s2 => exact Kd.R_lower HS4_0.out (by have o_ := HORD.out; omega)); (case s3 => exact Kd.S_lower HS4_1.out (by have o_ := HORD.out; omega)); rintro e_ w8 ⟨rfl, ho0, ho1, hbn_, hkp⟩; refine ⟨_, rfl, ?_⟩; have hkq : Kept w7 w8 (In lo4 hi4) := Kept.mono hkp (fun k_ h_ => by first | exact h_ | (have o_ := HORD.out; (try unfold In at *); omega)); obtain ⟨hi8, e2_⟩ : ∃ n_, n_ = w8.heap.size := ⟨_, rfl⟩; have ol_ : (gb5 + 1) ≤ hi8 := (by rw [e2_]; exact Nat.le_trans HT.out hkq.1); obtain ⟨he0_, hc0_, hf0_⟩ := Mem.back_V (h2 := hi8) (lo := lo4) ho0 (fun k_ h_ => by have o_ := HORD.out; have t_ := HT.out; (try unfold In at *); omega) e2_; obtain ⟨he1_, hc1_, hf1_⟩ := Mem.back_V (h2 := hi8) (lo := lo4) ho1 (fun k_ h_ => by have o_ := HORD.out; have t_ := HT.out; (try unfold In at *); omega) e2_; have n0_ := Aside0.mk (Kd.F_kept HF1_0.out hkq (fun k_ h1_ h2_ => by have o_ := HORD.out; unfold In at h1_ h2_; omega)); have n1_ := Aside0.mk (Kd.R_kept HS1_0.out hkq (fun k_ h1_ h2_ => by have o_ := HORD.out; unfold In at h1_ h2_; omega)); have n2_ := Aside0.mk (Kd.F_kept HF1_1.out hkq (fun k_ h1_ h2_ => by have o_ := HORD.out; unfold In at h1_ h2_; omega)); have n3_ := Aside0.mk (Kd.R_kept HS1_1.out hkq (fun k_ h1_ h2_ => by have o_ := HORD.out; unfold In at h1_ h2_; omega)); have n4_ := Aside0.mk (blk_kept BK2.out hkq (fun h2_ => by have o_ := HORD.out; unfold In at h2_; omega)); have n5_ := Aside0.mk (blk_kept BK5.out hkq (fun h2_ => by have o_ := HORD.out; unfold In at h2_; omega)); have n6_ := Aside0.mk (hbn_); have n7_ := Aside0.mk (And.intro HORD.out ol_); have n8_ := Aside0.mk (Nat.le_of_eq e2_); have n9_ := Aside0.mk (he0_); have n10_ := Aside0.mk (hf0_); have n11_ := Aside0.mk (hc0_); have n12_ := Aside0.mk (he1_); have n13_ := Aside0.mk (hf1_); have n14_ := Aside0.mk (hc1_); (try clear HF1_0); (try clear HS1_0); (try clear HF1_1); (try clear HS1_1); (try clear BK2); (try clear BK5); (try clear HB); (try clear HORD); (try clear HT); (try clear HL8_0); (try clear HF8_0); (try clear HC8_0); (try clear HL8_1); (try clear HF8_1); (try clear HC8_1); have HF1_0 := n0_; have HS1_0 := n1_; have HF1_1 := n2_; have HS1_1 := n3_; have BK2 := n4_; have BK5 := n5_; have HB := n6_; have HORD := n7_; have HT := n8_; have HL8_0 := n9_; have HF8_0 := n10_; have HC8_0 := n11_; have HL8_1 := n12_; have HF8_1 := n13_; have HC8_1 := n14_; clear n0_ n1_ n2_ n3_ n4_ n5_ n6_ n7_ n8_ n9_ n10_ n11_ n12_ n13_ n14_; clear ol_ e2_ hbn_ hkp hkq ho0 he0_ hc0_ hf0_ ho1 he1_ hc1_ hf1_; have hzgb2_0_8 : w8.cell? ⟨gb2, 0, none⟩ = some (.slice A1_0 r1_1.length c1_0) := (blk_cell BK2.out 0).trans rfl; have hygb2_0_8 := blk_frozen BK2.out 0; have hzgb2_1_8 : w8.cell? ⟨gb2, 1, none⟩ = some (.slice A1_1 r1_2.length c1_1) := (blk_cell BK2.out 1).trans rfl; have hygb2_1_8 := blk_frozen BK2.out 1; have hzgb5_0_8 : w8.cell? ⟨gb5, 0, none⟩ = some (.slice A4_0 r2_1.length c4_0) := (blk_cell BK5.out 0).trans rfl; have hygb5_0_8 := blk_frozen BK5.out 0; have hzgb5_1_8 : w8.cell? ⟨gb5, 1, none⟩ = some (.slice A4_1 r2_2.length c4_1) := (blk_cell BK5.out 1).trans rfl; have hygb5_1_8 := blk_frozen BK5.out 1) | ((with_reducible refine gate_callee (f := 42) rfl ?_); refine goesL_ (some 17) rfl rfl Try.func42 (by kernel_rfl) rfl #[.agg #[.slice A4_0 r2_1.length c4_0, .slice A4_1 r2_2.length c4_1], .int .i64 1] rfl (by (try simp only [List.map_toArray, List.map_cons, List.map_nil]); first | done | rfl | (simp only [List.length_drop, List.length_take]; rfl)) ?_; refine calls_of_args (args' := #[.agg #[.slice A4_0 r4_2.length c4_0, .slice A4_1 r4_3.length c4_1], .int .i64 1]) (by simp only [HL8_0.out, HL8_1.out]) ?_; (with_reducible refine (laws_heldTree.calls k5 _ _ r4_2 _ _ r4_3 1 r4_1 _ ?s1 ?s2 ?s3 ?s4 Q5.out).mono ?_); (case s1 => exact (Kd.F_now HF8_0.out)); (case s2 => exact HC8_0.out); (case s3 => exact (Kd.F_now HF8_1.out)); (case s4 => exact HC8_1.out); rintro e_ w9 ⟨rfl, hb⟩; refine ⟨_, rfl, ?_⟩; have n0_ := Aside0.mk (Kd.F_below HF1_0.out hb); have n1_ := Aside0.mk (Kd.R_below HS1_0.out hb); have n2_ := Aside0.mk (Kd.F_below HF1_1.out hb); have n3_ := Aside0.mk (Kd.R_below HS1_1.out hb); have n4_ := Aside0.mk (Kd.F_below HF8_0.out hb); have n5_ := Aside0.mk (Kd.F_below HF8_1.out hb); have n6_ := Aside0.mk (blk_below BK2.out hb); have n7_ := Aside0.mk (blk_below BK5.out hb); have n8_ := Aside0.mk (below_step HB.out hb); have n9_ := Aside0.mk (Nat.le_trans HT.out hb.size); (try clear HF1_0); (try clear HS1_0); (try clear HF1_1); (try clear HS1_1); (try clear HF8_0); (try clear HF8_1); (try clear BK2); (try clear BK5); (try clear HB); (try clear HT); have HF1_0 := n0_; have HS1_0 := n1_; have HF1_1 := n2_; have HS1_1 := n3_; have HF8_0 := n4_; have HF8_1 := n5_; have BK2 := n6_; have BK5 := n7_; have HB := n8_; have HT := n9_; clear n0_ n1_ n2_ n3_ n4_ n5_ n6_ n7_ n8_ n9_; (try clear hb); have hzgb2_0_9 : w9.cell? ⟨gb2, 0, none⟩ = some (.slice A1_0 r1_1.length c1_0) := (blk_cell BK2.out 0).trans rfl; have hygb2_0_9 := blk_frozen BK2.out 0; have hzgb2_1_9 : w9.cell? ⟨gb2, 1, none⟩ = some (.slice A1_1 r1_2.length c1_1) := (blk_cell BK2.out 1).trans rfl; have hygb2_1_9 := blk_frozen BK2.out 1; have hzgb5_0_9 : w9.cell? ⟨gb5, 0, none⟩ = some (.slice A4_0 r2_1.length c4_0) := (blk_cell BK5.out 0).trans rfl; have hygb5_0_9 := blk_frozen BK5.out 0; have hzgb5_1_9 : w9.cell? ⟨gb5, 1, none⟩ = some (.slice A4_1 r2_2.length c4_1) := (blk_cell BK5.out 1).trans rfl; have hygb5_1_9 := blk_frozen BK5.out 1) | ((with_reducible refine gate_callee (f := 39) rfl ?_); refine goesL_ (some 23) rfl rfl Try.func39 (by kernel_rfl) rfl #[] rfl (by (try simp only [List.map_toArray, List.map_cons, List.map_nil]); first | done | rfl | (simp only [List.length_drop, List.length_take]; rfl)) ?_; (with_reducible refine (impl_TreeNew.calls r2_1 r2_2 _ Q2.out).mono ?_); rintro e_ w10 ⟨v0_, v1_, rfl, ho0, ho1, hb⟩; refine ⟨_, rfl, ?_⟩; obtain ⟨lo10, hi10, el_, eh_, ol_, oh_⟩ := Mem.times HT.out hb; (try rw [← el_] at ho0); obtain ⟨A10_0, c10_0, ev_, hc0_, hf0_, hs0_⟩ := Mem.new_R ho0 eh_; subst ev_; (try rw [← el_] at ho1); obtain ⟨A10_1, c10_1, ev_, hc1_, hf1_, hs1_⟩ := Mem.new_S ho1 eh_; subst ev_; have n0_ := Aside0.mk (Kd.F_below HF1_0.out hb); have n1_ := Aside0.mk (Kd.R_below HS1_0.out hb); have n2_ := Aside0.mk (Kd.F_below HF1_1.out hb); have n3_ := Aside0.mk (Kd.R_below HS1_1.out hb); have n4_ := Aside0.mk (Kd.F_below HF8_0.out hb); have n5_ := Aside0.mk (Kd.F_below HF8_1.out hb); have n6_ := Aside0.mk (blk_below BK2.out hb); have n7_ := Aside0.mk (blk_below BK5.out hb); have n8_ := Aside0.mk (below_step HB.out hb); have n9_ := Aside0.mk (hf0_); have n10_ := Aside0.mk (hc0_); have n11_ := Aside0.mk (hs0_); have n12_ := Aside0.mk (hf1_); have n13_ := Aside0.mk (hc1_); have n14_ := Aside0.mk (hs1_); have n15_ := Aside0.mk (And.intro HORD.out (And.intro ol_ oh_)); have n16_ := Aside0.mk (Nat.le_of_eq eh_); (try clear HF1_0); (try clear HS1_0); (try clear HF1_1); (try clear HS1_1); (try clear HF8_0); (try clear HF8_1); (try clear BK2); (try clear BK5); (try clear HB); (try clear HF10_0); (try clear HC10_0); (try clear HS10_0); (try clear HF10_1); (try clear HC10_1); (try clear HS10_1); (try clear HORD); (try clear HT); have HF1_0 := n0_; have HS1_0 := n1_; have HF1_1 := n2_; have HS1_1 := n3_; have HF8_0 := n4_; have HF8_1 := n5_; have BK2 := n6_; have BK5 := n7_; have HB := n8_; have HF10_0 := n9_; have HC10_0 := n10_; have HS10_0 := n11_; have HF10_1 := n12_; have HC10_1 := n13_; have HS10_1 := n14_; have HORD := n15_; have HT := n16_; clear n0_ n1_ n2_ n3_ n4_ n5_ n6_ n7_ n8_ n9_ n10_ n11_ n12_ n13_ n14_ n15_ n16_; clear ol_ oh_ el_ eh_ ho0 hf0_ hc0_ hs0_ ho1 hf1_ hc1_ hs1_; (try clear hb); have hzgb2_0_10 : w10.cell? ⟨gb2, 0, none⟩ = some (.slice A1_0 r1_1.length c1_0) := (blk_cell BK2.out 0).trans rfl; have hygb2_0_10 := blk_frozen BK2.out 0; have hzgb2_1_10 : w10.cell? ⟨gb2, 1, none⟩ = some (.slice A1_1 r1_2.length c1_1) := (blk_cell BK2.out 1).trans rfl; have hygb2_1_10 := blk_frozen BK2.out 1; have hzgb5_0_10 : w10.cell? ⟨gb5, 0, none⟩ = some (.slice A4_0 r2_1.length c4_0) := (blk_cell BK5.out 0).trans rfl; have hygb5_0_10 := blk_frozen BK5.out 0; have hzgb5_1_10 : w10.cell? ⟨gb5, 1, none⟩ = some (.slice A4_1 r2_2.length c4_1) := (blk_cell BK5.out 1).trans rfl; have hygb5_1_10 := blk_frozen BK5.out 1) | ((with_reducible refine gate_dst (N := 5) rfl ?_); refine box_event ?hg (N := 5) ?hd (cs := #[.slice none 0 0, .slice none 0 0]) (t := 58) ?hr ?_; (case hd => rfl); (case hg => rfl); (case hr => first | (go_simp; done) | (go_simp; rfl)); intro gb11 hg_ w11 hbox hb; have hge_ : hi10 ≤ gb11 := (by rw [hg_]; exact HT.out); have hlt_ : gb11 + 1 ≤ w11.heap.size := blk_lt hbox; have n0_ := Aside0.mk (Kd.F_below HF1_0.out hb); have n1_ := Aside0.mk (Kd.R_below HS1_0.out hb); have n2_ := Aside0.mk (Kd.F_below HF1_1.out hb); have n3_ := Aside0.mk (Kd.R_below HS1_1.out hb); have n4_ := Aside0.mk (Kd.F_below HF8_0.out hb); have n5_ := Aside0.mk (Kd.F_below HF8_1.out hb); have n6_ := Aside0.mk (Kd.F_below HF10_0.out hb); have n7_ := Aside0.mk (Kd.R_below HS10_0.out hb); have n8_ := Aside0.mk (Kd.F_below HF10_1.out hb); have n9_ := Aside0.mk (Kd.S_below HS10_1.out hb); have n10_ := Aside0.mk (blk_below BK2.out hb); have n11_ := Aside0.mk (blk_below BK5.out hb); have n12_ := Aside0.mk (below_step HB.out hb); have n13_ := Aside0.mk (hbox); have n14_ := Aside0.mk (And.intro HORD.out (And.intro hge_ (Nat.le_succ gb11))); have n15_ := Aside0.mk (hlt_); (try clear HF1_0); (try clear HS1_0); (try clear HF1_1); (try clear HS1_1); (try clear HF8_0); (try clear HF8_1); (try clear HF10_0); (try clear HS10_0); (try clear HF10_1); (try clear HS10_1); (try clear BK2); (try clear BK5); (try clear HB); (try clear BK11); (try clear HORD); (try clear HT); have HF1_0 := n0_; have HS1_0 := n1_; have HF1_1 := n2_; have HS1_1 := n3_; have HF8_0 := n4_; have HF8_1 := n5_; have HF10_0 := n6_; have HS10_0 := n7_; have HF10_1 := n8_; have HS10_1 := n9_; have BK2 := n10_; have BK5 := n11_; have HB := n12_; have BK11 := n13_; have HORD := n14_; have HT := n15_; clear n0_ n1_ n2_ n3_ n4_ n5_ n6_ n7_ n8_ n9_ n10_ n11_ n12_ n13_ n14_ n15_; clear hb hbox hg_ hge_ hlt_; have hzgb2_0_11 : w11.cell? ⟨gb2, 0, none⟩ = some (.slice A1_0 r1_1.length c1_0) := (blk_cell BK2.out 0).trans rfl; have hygb2_0_11 := blk_frozen BK2.out 0; have hzgb2_1_11 : w11.cell? ⟨gb2, 1, none⟩ = some (.slice A1_1 r1_2.length c1_1) := (blk_cell BK2.out 1).trans rfl; have hygb2_1_11 := blk_frozen BK2.out 1; have hzgb5_0_11 : w11.cell? ⟨gb5, 0, none⟩ = some (.slice A4_0 r2_1.length c4_0) := (blk_cell BK5.out 0).trans rfl; have hygb5_0_11 := blk_frozen BK5.out 0; have hzgb5_1_11 : w11.cell? ⟨gb5, 1, none⟩ = some (.slice A4_1 r2_2.length c4_1) := (blk_cell BK5.out 1).trans rfl; have hygb5_1_11 := blk_frozen BK5.out 1; have hzgb11_0_11 : w11.cell? ⟨gb11, 0, none⟩ = some (.slice none 0 0) := (blk_cell BK11.out 0).trans rfl; have hygb11_0_11 := blk_frozen BK11.out 0; have hzgb11_1_11 : w11.cell? ⟨gb11, 1, none⟩ = some (.slice none 0 0) := (blk_cell BK11.out 1).trans rfl; have hygb11_1_11 := blk_frozen BK11.out 1) | ((with_reducible refine gate_store (t := 58) (p := 5) rfl ?_); refine store_event (t := 58) (p := 5) (v := ?vo_w12) (w1 := ((w11.setCell ⟨gb11, 0, none⟩ (.slice A10_0 r2_1.length c10_0)).setCell ⟨gb11, 1, none⟩ (.slice A10_1 r2_2.length c10_1))) ?hg ?ho ?hn ?hr ?_; (case ho => rfl); (case hg => rfl); (case hn => rfl); (case hr => first | (go_simp; done) | (go_simp; rfl)); intro w12 hw_; have hkp : Kept w11 w12 (fun k_ => k_ = gb11) := (by rw [hw_]; exact Kept.setCell (Kept.setCell (Kept.refl w11 (fun k_ => k_ = gb11)) (.inl rfl) (.slice A10_0 r2_1.length c10_0)) (.inl rfl) (.slice A10_1 r2_2.length c10_1)); have hge_ : w.heap.size ≤ gb11 := (by have o_ := HORD.out; (try unfold In at *); (try show _ ≠ _); omega); have hbn_ : Below w.heap.size w w12 := (by rw [hw_]; exact below_set (below_set (HB.out) hge_) hge_); have hbk_ : w12.heap[gb11]? = some (.cells #[.slice A10_0 r2_1.length c10_0, .slice A10_1 r2_2.length c10_1] 58 (0, 0)) := (by rw [hw_]; exact blk_put (cs := #[.slice A10_0 r2_1.length c10_0, .slice none 0 0]) (cs' := #[.slice A10_0 r2_1.length c10_0, .slice A10_1 r2_2.length c10_1]) (blk_put (cs := #[.slice none 0 0, .slice none 0 0]) (cs' := #[.slice A10_0 r2_1.length c10_0, .slice none 0 0]) (BK11.out) 0 _ rfl) 1 _ rfl); have hsz_ : (gb11 + 1) ≤ w12.heap.size := Nat.le_trans HT.out hkp.1; have n0_ := Aside0.mk (Kd.F_kept HF1_0.out hkp (fun k_ h1_ h2_ => by have o_ := HORD.out; unfold In at h1_; omega)); have n1_ := Aside0.mk (Kd.R_kept HS1_0.out hkp (fun k_ h1_ h2_ => by have o_ := HORD.out; unfold In at h1_; omega)); have n2_ := Aside0.mk (Kd.F_kept HF1_1.out hkp (fun k_ h1_ h2_ => by have o_ := HORD.out; unfold In at h1_; omega)); have n3_ := Aside0.mk (Kd.R_kept HS1_1.out hkp (fun k_ h1_ h2_ => by have o_ := HORD.out; unfold In at h1_; omega)); have n4_ := Aside0.mk (Kd.F_kept HF8_0.out hkp (fun k_ h1_ h2_ => by have o_ := HORD.out; unfold In at h1_; omega)); have n5_ := Aside0.mk (Kd.F_kept HF8_1.out hkp (fun k_ h1_ h2_ => by have o_ := HORD.out; unfold In at h1_; omega)); have n6_ := Aside0.mk (Kd.F_kept HF10_0.out hkp (fun k_ h1_ h2_ => by have o_ := HORD.out; unfold In at h1_; omega)); have n7_ := Aside0.mk (Kd.R_kept HS10_0.out hkp (fun k_ h1_ h2_ => by have o_ := HORD.out; unfold In at h1_; omega)); have n8_ := Aside0.mk (Kd.F_kept HF10_1.out hkp (fun k_ h1_ h2_ => by have o_ := HORD.out; unfold In at h1_; omega)); have n9_ := Aside0.mk (Kd.S_kept HS10_1.out hkp (fun k_ h1_ h2_ => by have o_ := HORD.out; unfold In at h1_; omega)); have n10_ := Aside0.mk (blk_kept BK2.out hkp (fun h2_ => by have o_ := HORD.out; omega)); have n11_ := Aside0.mk (blk_kept BK5.out hkp (fun h2_ => by have o_ := HORD.out; omega)); have n12_ := Aside0.mk (hbn_); have n13_ := Aside0.mk (hbk_); have n14_ := Aside0.mk (hsz_); (try clear HF1_0); (try clear HS1_0); (try clear HF1_1); (try clear HS1_1); (try clear HF8_0); (try clear HF8_1); (try clear HF10_0); (try clear HS10_0); (try clear HF10_1); (try clear HS10_1); (try clear BK2); (try clear BK5); (try clear HB); (try clear BK11); (try clear HT); have HF1_0 := n0_; have HS1_0 := n1_; have HF1_1 := n2_; have HS1_1 := n3_; have HF8_0 := n4_; have HF8_1 := n5_; have HF10_0 := n6_; have HS10_0 := n7_; have HF10_1 := n8_; have HS10_1 := n9_; have BK2 := n10_; have BK5 := n11_; have HB := n12_; have BK11 := n13_; have HT := n14_; clear n0_ n1_ n2_ n3_ n4_ n5_ n6_ n7_ n8_ n9_ n10_ n11_ n12_ n13_ n14_; clear hw_ hkp hge_ hbn_ hbk_ hsz_; have hzgb2_0_12 : w12.cell? ⟨gb2, 0, none⟩ = some (.slice A1_0 r1_1.length c1_0) := (blk_cell BK2.out 0).trans rfl; have hygb2_0_12 := blk_frozen BK2.out 0; have hzgb2_1_12 : w12.cell? ⟨gb2, 1, none⟩ = some (.slice A1_1 r1_2.length c1_1) := (blk_cell BK2.out 1).trans rfl; have hygb2_1_12 := blk_frozen BK2.out 1; have hzgb5_0_12 : w12.cell? ⟨gb5, 0, none⟩ = some (.slice A4_0 r2_1.length c4_0) := (blk_cell BK5.out 0).trans rfl; have hygb5_0_12 := blk_frozen BK5.out 0; have hzgb5_1_12 : w12.cell? ⟨gb5, 1, none⟩ = some (.slice A4_1 r2_2.length c4_1) := (blk_cell BK5.out 1).trans rfl; have hygb5_1_12 := blk_frozen BK5.out 1; have hzgb11_0_12 : w12.cell? ⟨gb11, 0, none⟩ = some (.slice A10_0 r2_1.length c10_0) := (blk_cell BK11.out 0).trans rfl; have hygb11_0_12 := blk_frozen BK11.out 0; have hzgb11_1_12 : w12.cell? ⟨gb11, 1, none⟩ = some (.slice A10_1 r2_2.length c10_1) := (blk_cell BK11.out 1).trans rfl; have hygb11_1_12 := blk_frozen BK11.out 1) | ((with_reducible refine gate_callee (f := 40) rfl ?_); refine goesL_ (some 26) rfl rfl Try.func40 (by kernel_rfl) rfl #[.agg #[.slice A10_0 r2_1.length c10_0, .slice A10_1 r2_2.length c10_1], .agg #[.slice A1_0 r1_1.length c1_0, .slice A1_1 r1_2.length c1_1]] rfl (by (try simp only [List.map_toArray, List.map_cons, List.map_nil]); first | done | rfl | (simp only [List.length_drop, List.length_take]; rfl)) ?_; (with_reducible refine (laws_eqTree.calls k3 _ _ r2_1 _ _ r2_2 _ _ r1_1 _ _ r1_2 true _ ?s1 ?s2 ?s3 ?s4 ?s5 ?s6 ?s7 ?s8 Q3.out).mono ?_); (case s1 => exact (Kd.F_now HF10_0.out)); (case s2 => exact HC10_0.out); (case s3 => exact (Kd.F_now HF10_1.out)); (case s4 => exact HC10_1.out); (case s5 => exact (Kd.F_now HF1_0.out)); (case s6 => exact HC1_0.out); (case s7 => exact (Kd.F_now HF1_1.out)); (case s8 => exact HC1_1.out); rintro e_ w13 ⟨rfl, hb⟩; refine ⟨_, rfl, ?_⟩; have n0_ := Aside0.mk (Kd.F_below HF8_0.out hb); have n1_ := Aside0.mk (Kd.F_below HF8_1.out hb); have n2_ := Aside0.mk (blk_below BK2.out hb); have n3_ := Aside0.mk (blk_below BK5.out hb); have n4_ := Aside0.mk (blk_below BK11.out hb); have n5_ := Aside0.mk (below_step HB.out hb); have n6_ := Aside0.mk (Nat.le_trans HT.out hb.size); (try clear HF1_0); (try clear HS1_0); (try clear HC1_0); (try clear HF1_1); (try clear HS1_1); (try clear HC1_1); (try clear HF10_0); (try clear HS10_0); (try clear HC10_0); (try clear HF10_1); (try clear HS10_1); (try clear HC10_1); (try clear HF8_0); (try clear HF8_1); (try clear BK2); (try clear BK5); (try clear BK11); (try clear HB); (try clear HT); have HF8_0 := n0_; have HF8_1 := n1_; have BK2 := n2_; have BK5 := n3_; have BK11 := n4_; have HB := n5_; have HT := n6_; clear n0_ n1_ n2_ n3_ n4_ n5_ n6_; (try clear hb); have hzgb2_0_13 : w13.cell? ⟨gb2, 0, none⟩ = some (.slice A1_0 r1_1.length c1_0) := (blk_cell BK2.out 0).trans rfl; have hygb2_0_13 := blk_frozen BK2.out 0; have hzgb2_1_13 : w13.cell? ⟨gb2, 1, none⟩ = some (.slice A1_1 r1_2.length c1_1) := (blk_cell BK2.out 1).trans rfl; have hygb2_1_13 := blk_frozen BK2.out 1; have hzgb5_0_13 : w13.cell? ⟨gb5, 0, none⟩ = some (.slice A4_0 r2_1.length c4_0) := (blk_cell BK5.out 0).trans rfl; have hygb5_0_13 := blk_frozen BK5.out 0; have hzgb5_1_13 : w13.cell? ⟨gb5, 1, none⟩ = some (.slice A4_1 r2_2.length c4_1) := (blk_cell BK5.out 1).trans rfl; have hygb5_1_13 := blk_frozen BK5.out 1; have hzgb11_0_13 : w13.cell? ⟨gb11, 0, none⟩ = some (.slice A10_0 r2_1.length c10_0) := (blk_cell BK11.out 0).trans rfl; have hygb11_0_13 := blk_frozen BK11.out 0; have hzgb11_1_13 : w13.cell? ⟨gb11, 1, none⟩ = some (.slice A10_1 r2_2.length c10_1) := (blk_cell BK11.out 1).trans rfl; have hygb11_1_13 := blk_frozen BK11.out 1) | ((with_reducible refine gate_callee (f := 42) rfl ?_); refine goesL_ (some 30) rfl rfl Try.func42 (by kernel_rfl) rfl #[.agg #[.slice A4_0 r2_1.length c4_0, .slice A4_1 r2_2.length c4_1], .int .i64 1] rfl (by (try simp only [List.map_toArray, List.map_cons, List.map_nil]); first | done | rfl | (simp only [List.length_drop, List.length_take]; rfl)) ?_; refine calls_of_args (args' := #[.agg #[.slice A4_0 r4_2.length c4_0, .slice A4_1 r4_3.length c4_1], .int .i64 1]) (by simp only [HL8_0.out, HL8_1.out]) ?_; (with_reducible refine (laws_heldTree.calls k5 _ _ r4_2 _ _ r4_3 1 r4_1 _ ?s1 ?s2 ?s3 ?s4 Q5.out).mono ?_); (case s1 => exact (Kd.F_now HF8_0.out)); (case s2 => exact HC8_0.out); (case s3 => exact (Kd.F_now HF8_1.out)); (case s4 => exact HC8_1.out); rintro e_ w14 ⟨rfl, hb⟩; refine ⟨_, rfl, ?_⟩; have n0_ := Aside0.mk (blk_below BK2.out hb); have n1_ := Aside0.mk (blk_below BK5.out hb); have n2_ := Aside0.mk (blk_below BK11.out hb); have n3_ := Aside0.mk (below_step HB.out hb); have n4_ := Aside0.mk (Nat.le_trans HT.out hb.size); (try clear HF8_0); (try clear HC8_0); (try clear HL8_0); (try clear HF8_1); (try clear HC8_1); (try clear HL8_1); (try clear BK2); (try clear BK5); (try clear BK11); (try clear HB); (try clear HT); have BK2 := n0_; have BK5 := n1_; have BK11 := n2_; have HB := n3_; have HT := n4_; clear n0_ n1_ n2_ n3_ n4_; (try clear hb); have hzgb2_0_14 : w14.cell? ⟨gb2, 0, none⟩ = some (.slice A1_0 r1_1.length c1_0) := (blk_cell BK2.out 0).trans rfl; have hygb2_0_14 := blk_frozen BK2.out 0; have hzgb2_1_14 : w14.cell? ⟨gb2, 1, none⟩ = some (.slice A1_1 r1_2.length c1_1) := (blk_cell BK2.out 1).trans rfl; have hygb2_1_14 := blk_frozen BK2.out 1; have hzgb5_0_14 : w14.cell? ⟨gb5, 0, none⟩ = some (.slice A4_0 r2_1.length c4_0) := (blk_cell BK5.out 0).trans rfl; have hygb5_0_14 := blk_frozen BK5.out 0; have hzgb5_1_14 : w14.cell? ⟨gb5, 1, none⟩ = some (.slice A4_1 r2_2.length c4_1) := (blk_cell BK5.out 1).trans rfl; have hygb5_1_14 := blk_frozen BK5.out 1; have hzgb11_0_14 : w14.cell? ⟨gb11, 0, none⟩ = some (.slice A10_0 r2_1.length c10_0) := (blk_cell BK11.out 0).trans rfl; have hygb11_0_14 := blk_frozen BK11.out 0; have hzgb11_1_14 : w14.cell? ⟨gb11, 1, none⟩ = some (.slice A10_1 r2_2.length c10_1) := (blk_cell BK11.out 1).trans rfl; have hygb11_1_14 := blk_frozen BK11.out 1))
  have hres_ := @results_tmp Try.f9 0 (by kernel_rfl)
  refine bodyPost_ret (fn := Try.f9) (P := Try.prog) (hres_ _ _ _) rfl ?_
  exact ⟨rfl, HB.out⟩

theorem laws_FnExactTreeNew.calls (w : World) :
    Calls Try.prog 9 #[] w fun e w' => e = .returned (.bool true) ∧ Below w.heap.size w w' := by
  have o0 : okIntS ([0] : List Int) := by unfold okIntS; decide
  have o1 : okNodeS [(⟨[]⟩ : S32)] := by unfold okNodeS; decide
  obtain ⟨_, A3⟩ : ∃ k : Nat, laws_eqTree.f k [0] [(⟨[]⟩ : S32)] [0] [(⟨[]⟩ : S32)] = some true := evGet (eqTree_ev _ _ o0 o1)
  obtain ⟨_, A5⟩ := evGet (heldTree_ev _ _ 1 o0 o1 (by omega) (by omega))
  have q0 := cntIntS_nn o0
  have q1 := cntNodeS_nn o1
  exact walkFnExactTreeNew _ _ _ _ _ _ _ _ _ w rfl rfl A3 (markTree_f o0 o1 (by omega) (by omega)) A5 (by omega)

end Go.Proofs.Ythpfihklkcnckaa.Law
