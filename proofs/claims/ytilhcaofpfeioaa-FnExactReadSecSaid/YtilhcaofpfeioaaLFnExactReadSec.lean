/- The law: whatever its arguments, its own function answers true; the walk of its text, each call taken by its contract. -/
import Derived.Test.YtilhcaofpfeioaaMFnExactReadSecx0
import Derived.Test.YtilhcaofpfeioaaMFnExactReadSecx1
import Derived.Test.YtilhcaofpfeioaaMFnExactReadSecx2
import Derived.Test.YtilhcaofpfeioaaMFnExactReadSecx3
import Derived.Test.YtilhcaofpfeioaaMFnExactReadSecx4
import Derived.Test.YtilhcaofpfeioaaMFnExactReadSecx5
import Derived.Test.YtilhcaofpfeioaaMFnExactReadSecx6
import Derived.Test.YtilhcaofpfeioaaCore
import Derived.Test.YtilhcaofpfeioaaMarks
import Derived.Test.YtilhcaofpfeioaaPureFnExactReadSec
namespace Go.Proofs.Ytilhcaofpfeioaa.Law
open Go.RowKit Go.Proofs.Ytilhcaofpfeioaa.PFnExactReadSec Go.Proofs.Ytilhcaofpfeioaa.Core Go.Proofs.YtilhcaofpfeioaaW.PrintWords Go.Proofs.YtilhcaofpfeioaaW.PrintLast Go.Proofs.YtilhcaofpfeioaaW.PrintMore Go.Proofs.Ytilhcaofpfeioaa.Pure
set_option linter.unusedSimpArgs false
set_option linter.unusedVariables false

def laws_markByteSS.f (l0 : List (List Int)) (a1 : Int) : Option (Int × List (List Int)) := if bulkByteSS l0 ≤ 4194304 ∧ 0 ≤ a1 ∧ a1 ≤ 1000000000000 then some (a1 + cntByteSS l0, mkByteSS l0 a1) else none
theorem markByteSS_f {l : List (List Int)} {a : Int} (ho : okByteSS l) (h0 : 0 ≤ a) (h1 : a ≤ 1000000000000) : laws_markByteSS.f l a = some (a + cntByteSS l, mkByteSS l a) := if_pos ⟨ho, h0, h1⟩
set_option maxHeartbeats 4000000 in
set_option maxRecDepth 100000 in
/-- Each inner row is marked in turn; the rows lie apart, so that each stays as it was marked. -/
theorem laws_markByteSS.calls (P0_ : Nat → Prop) (u9000_ : Value) (l0 : List (List Int)) (a1 : Int) (r1 : Int) (r2 : List (List Int)) (w0 w : World) (hB : Below w0.heap.size w0 w) (ho0 : Kd.S (Kd.slice 5 (Kd.int .u8)) 37 w w0.heap.size P0_ u9000_ l0) (h : laws_markByteSS.f l0 a1 = some (r1, r2)) :
    Calls Try.prog 47 #[u9000_, .int .i64 a1] w fun e w' => e = .returned (.int .i64 r1) ∧ Kd.S (Kd.slice 5 (Kd.int .u8)) 37 w' w0.heap.size (fun k_ => (P0_ k_ ∨ w.heap.size ≤ k_)) u9000_ r2 ∧ Below w0.heap.size w0 w' ∧ Kept w w' (fun k_ => P0_ k_) := by
  unfold laws_markByteSS.f at h
  split at h
  case isFalse => cases h
  case isTrue hc =>
  obtain ⟨hok, h0, h1⟩ := hc
  replace hok : okByteSS l0 := hok
  obtain ⟨ll, rfl⟩ : ∃ y, y = l0 := ⟨_, rfl⟩
  obtain ⟨a, rfl⟩ : ∃ y, y = a1 := ⟨_, rfl⟩
  obtain ⟨P, rfl⟩ : ∃ y, y = P0_ := ⟨_, rfl⟩
  obtain ⟨u, rfl⟩ : ∃ y, y = u9000_ := ⟨_, rfl⟩
  have ho := ho0
  clear ho0
  injection h with h
  injection h with hr1 hr2
  subst hr1
  subst hr2
  have HL := Aside0.mk (okByteSS_len hok)
  have HOK := Aside0.mk hok
  have HC := Aside0.mk (cntByteSS_nn hok)
  have HO0 := Aside0.mk (show Kd.S (Kd.slice 5 (Kd.int .u8)) 37 w w0.heap.size (fun k_ => P k_ ∨ w.heap.size ≤ k_) u (midL mkByteS cntByteS ll a 0) from by rw [midL_zero]; exact Kd.S_mono ho (fun _ hk => .inl hk))
  obtain ⟨A, c, rfl⟩ := Kd.S_slice ho
  have HK := Aside0.mk (Kept.refl w P)
  have HB := Aside0.mk hB
  have H0 := Aside0.mk h0
  have H1 := Aside0.mk h1
  clear hB ho hok h0 h1
  go_enter Try.func47, Try.ntmps47
  go_wp2
  go_loopg [1, 5] ll.length (fun kq v1 v5 w' => ∃ (x1_1 x5_1 : Int), v1 = .int .i64 x1_1 ∧ v5 = .int .i64 x5_1 ∧ Aside0 (0 ≤ x5_1 ∧ x5_1 ≤ ll.length ∧ kq = ll.length - x5_1.toNat) ∧ Aside0 (x1_1 = a + cntByteSS (ll.take x5_1.toNat)) ∧ Aside0 (Kd.S (Kd.slice 5 (Kd.int .u8)) 37 w' w0.heap.size (fun k_ => P k_ ∨ w.heap.size ≤ k_) (.slice A ll.length c) (midL mkByteS cntByteS ll a x5_1.toNat)) ∧ Aside0 (Kept w w' P) ∧ Aside0 (Below w0.heap.size w0 w'))
  case atStart => exact ⟨a, 0, rfl, rfl, ⟨by omega⟩, ⟨by simp [cntByteSS, cntL]⟩, HO0, HK, HB⟩
  case round =>
    clear HO0 HK HB
    obtain ⟨x1_1, x5_1, rfl, rfl, HI, HX, HO, HK, HB⟩ := hrel
    by_cases c3 : x5_1 < (ll.length : Int)
    · have c3b0 : decide (x5_1 < (ll.length : Int)) = true := decide_eq_true c3
      have p1 : 0 ≤ x5_1 := HI.out.1
      obtain ⟨i, hi⟩ : ∃ i : Nat, i = x5_1.toNat := ⟨_, rfl⟩
      have hil : i < ll.length := by omega
      obtain ⟨go, co, eo, gb, gl, cl, HG⟩ := Kd.S_form HO.out (by rw [midL_length mkByteS cntByteS ll a _ (by omega)]; omega)
      rw [midL_length mkByteS cntByteS ll a _ (by omega)] at eo
      cases eo
      obtain ⟨oki, v, hoki, hR, hcell, hback⟩ := Mem.lent HO.out x5_1 p1 c3 (fun k hk => .inr (Nat.le_trans HK.out.1 hk))
      rw [← hi, midL_getD mkByteS cntByteS [] ll a i hil] at hR
      obtain ⟨Ai, ci, rfl⟩ := Kd.R_slice hR
      have ht := cntByteSS_take ll i
      have hx := HX.out
      rw [← hi] at hx
      have hc := HC.out
      have h0 := H0.out
      have h1 := H1.out
      obtain ⟨K, hK⟩ := markByteS_ev (ll.getD i []) x1_1 (okByteSS_at HOK.out i hil) (by omega) (by omega)
      have hcall := laws_markByteS.calls K oki _ (ll.getD i []) x1_1 (x1_1 + cntByteS (ll.getD i [])) (mkByteS (ll.getD i []) x1_1) w0 wr HB.out hR (hK K (Nat.le_refl _))
      have HCALL := Aside0.mk hcall
      have HN := Aside0.mk (show cntByteSS (ll.take (i + 1)) = cntByteSS (ll.take i) + cntByteS (ll.getD i []) from cntL_take cntByteS [] ll i hil)
      have HS := Aside0.mk (midL_set mkByteS cntByteS [] ll a i hil)
      have HBK := Aside0.mk hback
      have HOKI := Aside0.mk hoki
      have HI' := Aside0.mk hi
      have HX' := Aside0.mk hx
      have HIL := Aside0.mk hil
      have HE := Aside0.mk (show rdOf [] ll x5_1 = ll.getD i [] by unfold rdOf; rw [hi])
      clear hK hcall hback hoki hx hc h0 h1 ht hil hR
      clear HO
      replace p1 := eq_true p1
      replace c3 := eq_true c3
      generalize ll.getD i [] = y at *
      clear hi
      go_wp2_with (first | ((with_reducible refine gate_callee (f := 24) rfl ?_); refine goesL_ (some 17) rfl rfl Try.func24 (by kernel_rfl) rfl #[.slice Ai y.length ci, .int .i64 x1_1] rfl (by (try simp only [List.map_toArray, List.map_cons, List.map_nil]); first | done | rfl) ?_; refine HCALL.out.mono ?_; rintro e w1 ⟨rfl, hR1, hB1, hK1⟩; refine ⟨_, rfl, ?_⟩; have n0 := Aside0.mk (HBK.out w1 _ hK1 hR1); have n1 := Aside0.mk (Kept.then_ HK.out hK1 (fun k hk => HOKI.out k hk)); clear HK HB; have HO := n0; have HK := n1; have HB := Aside0.mk hB1; clear n0 n1 hK1 hR1 hB1))
      go_roundg (ll.length - (x5_1.toNat + 1))
      case measure => have := HI.out; have := HIL.out; have := HI'.out; omega
      case rel =>
        have hI := HI.out
        have hi := HI'.out
        have hil := HIL.out
        have hw : wrap64 (x5_1 + 1) = x5_1 + 1 := w64 (by omega) (by have := HL.out; omega)
        have ht : (x5_1 + 1).toNat = i + 1 := by omega
        refine ⟨_, x5_1 + 1, rfl, by first | rfl | (rw [hw]) | (simp [hw]), ⟨by omega⟩, ⟨?_⟩, ⟨?_⟩, HK, HB⟩
        · rw [ht, HN.out, HX'.out]; omega
        · have h := HO.out
          have hS : (midL mkByteS cntByteS ll a i).set i (mkByteS y (a + cntByteSS (ll.take i))) = midL mkByteS cntByteS ll a (i + 1) := HS.out
          rw [← HX'.out] at hS
          rw [ht, ← hS, hi]
          exact h
    · have c3b0 : decide (x5_1 < (ll.length : Int)) = false := decide_eq_false c3
      have hI := HI.out
      have hx := HX.out
      have ho := HO.out
      have e1 : x5_1.toNat = ll.length := by omega
      rw [e1, List.take_length] at hx
      rw [e1, midL_all] at ho
      have HO' := Aside0.mk ho
      have HX' := Aside0.mk hx
      clear hI hx ho e1 c3
      go_wp2
      go_ret
      exact ⟨by rw [HX'.out]; rfl, HO'.out, HB.out, HK.out⟩
/-- The inner row of an element, lent; the element's number may be written too. -/
theorem lentWr {g n cap base : Nat} {P : Nat → Prop} {W : World} {xs : List S50} (h : Kd.S k50 50 W base P (.slice (some ⟨g, 0, none⟩) n cap) xs) (i : Int) (h0 : 0 ≤ i) (h1 : i < n) (hnew : ∀ k, W.heap.size ≤ k → P k) :
    ∃ (oki : Nat → Prop) (v : Value), (∀ k, oki k → P k ∧ k ≠ g) ∧ Kd.R (Kd.int .u8) 5 W base oki v (xs.getD i.toNat z50).f1 ∧ W.cell? ⟨g, i.toNat * 2, none⟩ = some (.int .i64 (xs.getD i.toNat z50).f0) ∧ W.frozen? ⟨g, i.toNat * 2, none⟩ = false ∧ W.cell? ⟨g, i.toNat * 2 + 1, none⟩ = some v ∧
      ∀ (a : Int) (w1 : World) (x1 : List Int), Kept (W.setCell ⟨g, i.toNat * 2, none⟩ (.int .i64 a)) w1 oki → Kd.R (Kd.int .u8) 5 w1 base (fun k => oki k ∨ W.heap.size ≤ k) v x1 → Kd.S k50 50 w1 base P (.slice (some ⟨g, 0, none⟩) n cap) (xs.set i.toNat ⟨a, x1⟩) := by
  obtain ⟨oki, c, hcl, hM, hcc, hfr, hoki, hH⟩ := Kd.S_elem h z50 i h0 h1
  obtain ⟨v, rfl, hR⟩ := k50_openM hM
  have hsz : k50.sz = 2 := rfl
  refine ⟨oki, v, hoki, hR, ?_, ?_, ?_, fun a w1 x1 hk hR' => ?_⟩
  · have := hcc 0 _ rfl; rwa [hsz, Nat.add_zero] at this
  · have := hfr 0; rwa [hsz, Nat.add_zero] at this
  · have := hcc 1 _ rfl; rwa [hsz] at this
  · obtain ⟨hH2, hg⟩ := Kd.H_seg hH h0 h1 (seg := [.int .i64 a]) (j := 0) (by rw [hsz]; simp) (by intro q hq; rw [List.mem_singleton.1 hq]; rfl)
    rw [hsz, Nat.add_zero] at hH2 hg
    have e : W.setCells g (i.toNat * 2) [.int .i64 a] = W.setCell ⟨g, i.toNat * 2, none⟩ (.int .i64 a) := rfl
    rw [e] at hH2 hg
    have hH3 : Kd.H k50 50 (W.setCell ⟨g, i.toNat * 2, none⟩ (.int .i64 a)) base P (.slice (some ⟨g, 0, none⟩) n cap) xs i oki [.int .i64 a, v] := hH2
    refine Kd.H_back (Kd.H_step (Kd.H_widen hH3) (fun k ho hn hlt => hk.2 k hlt (fun h2 => hn (.inl h2)))) (okp := fun k => oki k ∨ W.heap.size ≤ k) (k50_mkM w1 base _ (⟨a, x1⟩ : S50) hR') (fun k hk' => ?_)
    rcases hk' with hk' | hk'
    · exact .inl hk'
    · exact .inr ⟨hnew k hk', by simpa [World.setCell] using hk'⟩
def laws_markWrS.f (l0 : List S50) (a1 : Int) : Option (Int × List S50) := if bulkWrS l0 ≤ 4194304 ∧ 0 ≤ a1 ∧ a1 ≤ 1000000000000 then some (a1 + cntWrS l0, mkWrS l0 a1) else none
theorem markWrS_f {l : List S50} {a : Int} (ho : okWrS l) (h0 : 0 ≤ a) (h1 : a ≤ 1000000000000) : laws_markWrS.f l a = some (a + cntWrS l, mkWrS l a) := if_pos ⟨ho, h0, h1⟩
set_option maxHeartbeats 4000000 in
set_option maxRecDepth 100000 in
/-- Each element is marked in turn; their inner rows lie apart. -/
theorem laws_markWrS.calls (P0_ : Nat → Prop) (u9000_ : Value) (l0 : List S50) (a1 : Int) (r1 : Int) (r2 : List S50) (w0 w : World) (hB : Below w0.heap.size w0 w) (ho0 : Kd.S k50 50 w w0.heap.size P0_ u9000_ l0) (h : laws_markWrS.f l0 a1 = some (r1, r2)) :
    Calls Try.prog 48 #[u9000_, .int .i64 a1] w fun e w' => e = .returned (.int .i64 r1) ∧ Kd.S k50 50 w' w0.heap.size (fun k_ => (P0_ k_ ∨ w.heap.size ≤ k_)) u9000_ r2 ∧ Below w0.heap.size w0 w' ∧ Kept w w' (fun k_ => P0_ k_) := by
  unfold laws_markWrS.f at h
  split at h
  case isFalse => cases h
  case isTrue hc =>
  obtain ⟨hok, h0, h1⟩ := hc
  replace hok : okWrS l0 := hok
  obtain ⟨ll, rfl⟩ : ∃ y, y = l0 := ⟨_, rfl⟩
  obtain ⟨a, rfl⟩ : ∃ y, y = a1 := ⟨_, rfl⟩
  obtain ⟨P, rfl⟩ : ∃ y, y = P0_ := ⟨_, rfl⟩
  obtain ⟨u, rfl⟩ : ∃ y, y = u9000_ := ⟨_, rfl⟩
  have ho := ho0
  clear ho0
  injection h with h
  injection h with hr1 hr2
  subst hr1
  subst hr2
  have HL := Aside0.mk (okWrS_len hok)
  have HOK := Aside0.mk hok
  have HC := Aside0.mk (cntWrS_nn hok)
  have HO0 := Aside0.mk (show Kd.S k50 50 w w0.heap.size (fun k_ => P k_ ∨ w.heap.size ≤ k_) u (midL mkWr cntWr ll a 0) from by rw [midL_zero]; exact Kd.S_mono ho (fun _ hk => .inl hk))
  have HP := Aside0.mk (show ∀ k, u.ownBlock = some k → P k from (Kd.S_R ho).1)
  obtain ⟨A, c, rfl⟩ := Kd.S_slice ho
  have HK := Aside0.mk (Kept.refl w P)
  have HB := Aside0.mk hB
  have H0 := Aside0.mk h0
  have H1 := Aside0.mk h1
  clear hB ho hok h0 h1
  go_enter Try.func48, Try.ntmps48
  go_wp2
  go_loopg [1, 5] ll.length (fun kq v1 v5 w' => ∃ (x1_1 x5_1 : Int), v1 = .int .i64 x1_1 ∧ v5 = .int .i64 x5_1 ∧ Aside0 (0 ≤ x5_1 ∧ x5_1 ≤ ll.length ∧ kq = ll.length - x5_1.toNat) ∧ Aside0 (x1_1 = a + cntWrS (ll.take x5_1.toNat)) ∧ Aside0 (Kd.S k50 50 w' w0.heap.size (fun k_ => P k_ ∨ w.heap.size ≤ k_) (.slice A ll.length c) (midL mkWr cntWr ll a x5_1.toNat)) ∧ Aside0 (Kept w w' P) ∧ Aside0 (Below w0.heap.size w0 w'))
  case atStart => exact ⟨a, 0, rfl, rfl, ⟨by omega⟩, ⟨by simp [cntWrS, cntL]⟩, HO0, HK, HB⟩
  case round =>
    clear HO0 HK HB
    obtain ⟨x1_1, x5_1, rfl, rfl, HI, HX, HO, HK, HB⟩ := hrel
    by_cases c3 : x5_1 < (ll.length : Int)
    · have c3b0 : decide (x5_1 < (ll.length : Int)) = true := decide_eq_true c3
      have p1 : 0 ≤ x5_1 := HI.out.1
      obtain ⟨i, hi⟩ : ∃ i : Nat, i = x5_1.toNat := ⟨_, rfl⟩
      have hil : i < ll.length := by omega
      obtain ⟨go, co, eo, gb, gl, cl, HG⟩ := Kd.S_form HO.out (by rw [midL_length mkWr cntWr ll a _ (by omega)]; omega)
      rw [midL_length mkWr cntWr ll a _ (by omega)] at eo
      cases eo
      obtain ⟨oki, v, hoki, hR, hcell0, hfr0, hcell1, hback⟩ := lentWr HO.out x5_1 p1 c3 (fun k hk => .inr (Nat.le_trans HK.out.1 hk))
      rw [← hi, midL_getD mkWr cntWr z50 ll a i hil] at hR
      have hgP : P go := HP.out go (by simp [Value.ownBlock])
      obtain ⟨Ai, ci, rfl⟩ := Kd.R_slice hR
      have ht := cntWrS_take ll i
      have hx := HX.out
      rw [← hi] at hx
      have hc := HC.out
      have h0 := H0.out
      have h1 := H1.out
      have hw : wrap64 (x1_1 + 1) = x1_1 + 1 := w64 (by omega) (by omega)
      obtain ⟨K, hK⟩ := markByteS_ev (ll.getD i z50).f1 (x1_1 + 1) (okWrS_at HOK.out i hil) (by omega) (by omega)
      have hcall := fun (wc : World) (hBc : Below w0.heap.size w0 wc) (hRc : Kd.R (Kd.int .u8) 5 wc w0.heap.size oki (.slice Ai (ll.getD i z50).f1.length ci) (ll.getD i z50).f1) => laws_markByteS.calls K oki _ (ll.getD i z50).f1 (x1_1 + 1) (x1_1 + 1 + cntByteS (ll.getD i z50).f1) (mkByteS (ll.getD i z50).f1 (x1_1 + 1)) w0 wc hBc hRc (hK K (Nat.le_refl _))
      rw [← hw] at hcall
      have HCALL := Aside0.mk hcall
      have HN := Aside0.mk (show cntWrS (ll.take (i + 1)) = cntWrS (ll.take i) + (1 + cntByteS (ll.getD i z50).f1) from cntL_take cntWr z50 ll i hil)
      have HS := Aside0.mk (show (midL mkWr cntWr ll a i).set i ⟨a + cntWrS (ll.take i), mkByteS (ll.getD i z50).f1 (a + cntWrS (ll.take i) + 1)⟩ = midL mkWr cntWr ll a (i + 1) from midL_set mkWr cntWr z50 ll a i hil)
      have HBK := Aside0.mk hback
      have HOKI := Aside0.mk hoki
      have HI' := Aside0.mk hi
      have HX' := Aside0.mk hx
      have HIL := Aside0.mk hil
      have HRR := Aside0.mk hR
      have HW := Aside0.mk hw
      have HGP := Aside0.mk hgP
      have HGB := Aside0.mk gb
      clear hK hcall hback hoki hx hc h0 h1 ht hil hR hw hgP gb gl
      clear HO
      replace p1 := eq_true p1
      replace c3 := eq_true c3
      generalize (ll.getD i z50).f1 = y at *
      generalize (((midL mkWr cntWr ll a x5_1.toNat).getD x5_1.toNat z50).f0) = z0 at *
      clear hi
      go_wp2_with (first | ((with_reducible refine gate_store (t := 3) (p := 16) rfl ?_); refine store_event (t := 3) (p := 16) (v := ?vo_1) (w1 := (wr.setCell ⟨go, x5_1.toNat * 2, none⟩ (.int .i64 x1_1))) ?hg ?ho ?hn ?hr ?_; (case ho => rfl); (case hg => rfl); (case hn => rfl); (case hr => first | (go_simp; done) | (go_simp; rfl)); intro ws hws; have hz1 : ws.cell? ⟨go, x5_1.toNat * 2 + 1, none⟩ = some (.slice Ai y.length ci) := (by rw [hws]; refine (World.cell?_setCell_other _ _ _ _ ?_).trans hcell1; intro h_; injection h_ with _ h2_ _; omega); have HWS := Aside0.mk hws; clear hws hcell0 hfr0 hcell1) | ((with_reducible refine gate_callee (f := 24) rfl ?_); refine goesL_ (some 25) rfl rfl Try.func24 (by kernel_rfl) rfl #[.slice Ai y.length ci, .int .i64 (wrap64 (x1_1 + 1))] rfl (by (try simp only [List.map_toArray, List.map_cons, List.map_nil]); first | done | rfl) ?_; refine (HCALL.out ws ?b1 ?b2).mono ?_; (case b1 => exact (by rw [HWS.out]; exact HB.out.setCell HGB.out _)); (case b2 => exact (by rw [HWS.out]; exact Kd.R_far (p := ⟨go, x5_1.toNat * 2, none⟩) HRR.out (fun k hk => (HOKI.out k hk).2) _)); rintro e w1 ⟨rfl, hR1, hB1, hK1⟩; refine ⟨_, rfl, ?_⟩; have n0 := Aside0.mk (HBK.out x1_1 w1 _ (by rw [← HWS.out]; exact hK1) (Kd.R_mono hR1 (fun k hk => hk.imp (fun h => h) (fun h => by rw [HWS.out] at h; simpa [World.setCell] using h)))); have n1 := Aside0.mk (Kept.then_ (by rw [HWS.out]; exact HK.out.setCell (.inl HGP.out) _) hK1 (fun k hk => (HOKI.out k hk).1)); clear HK HB; have HO := n0; have HK := n1; have HB := Aside0.mk hB1; clear n0 n1 hK1 hR1 hB1))
      go_roundg (ll.length - (x5_1.toNat + 1))
      case measure => have := HI.out; have := HIL.out; have := HI'.out; omega
      case rel =>
        have hI := HI.out
        have hi := HI'.out
        have hil := HIL.out
        have hw : wrap64 (x5_1 + 1) = x5_1 + 1 := w64 (by omega) (by have := HL.out; omega)
        have ht : (x5_1 + 1).toNat = i + 1 := by omega
        refine ⟨_, x5_1 + 1, rfl, by first | rfl | (rw [hw]) | (simp [hw]), ⟨by omega⟩, ⟨?_⟩, ⟨?_⟩, HK, HB⟩
        · rw [ht, HN.out, HW.out, HX'.out]; omega
        · have h := HO.out
          have hS := HS.out
          rw [← HX'.out, ← HW.out] at hS
          rw [ht, ← hS, hi]
          exact h
    · have c3b0 : decide (x5_1 < (ll.length : Int)) = false := decide_eq_false c3
      have hI := HI.out
      have hx := HX.out
      have ho := HO.out
      have e1 : x5_1.toNat = ll.length := by omega
      rw [e1, List.take_length] at hx
      rw [e1, midL_all] at ho
      have HO' := Aside0.mk ho
      have HX' := Aside0.mk hx
      clear hI hx ho e1 c3
      go_wp2
      go_ret
      exact ⟨by rw [HX'.out]; rfl, HO'.out, HB.out, HK.out⟩
set_option maxHeartbeats 8000000 in
set_option maxRecDepth 100000 in
theorem walk_toDev (A0_0 : Option Addr) (c0_0 : Nat) (l0_0 : List (List (Int))) (A0_1 : Option Addr) (c0_1 : Nat) (l0_1 : List (S81)) (a0_2 : Int) (a0_3 : Bool) (k1 : Nat) (k2 : Nat) (r1_0 : List (List Int)) (r2_0 : List (S50)) (w : World) (hr0_0 : Kd.C (Kd.slice 5 (Kd.int .u8)) w A0_0 l0_0.length l0_0) (hc0_0 : l0_0.length ≤ c0_0) (hr0_1 : Kd.C k81 w A0_1 l0_1.length l0_1) (hc0_1 : l0_1.length ≤ c0_1) (A1x : laws_toByteSS.f k1 l0_0 = some r1_0) (A2x : laws_toWrS.f k2 l0_1 = some r2_0) :
    Calls Try.prog 19 #[.agg #[.slice A0_0 l0_0.length c0_0, .slice A0_1 l0_1.length c0_1, .int .i64 a0_2, .bool a0_3]] w fun e w' => ∃ v0_ v1_ : Value, ∃ m_ : Nat, e = .returned (.agg #[v0_, v1_, .int .i64 a0_2, .bool a0_3]) ∧ w.heap.size ≤ m_ ∧ m_ ≤ w'.heap.size ∧ Kd.S (Kd.slice 5 (Kd.int .u8)) 37 w' w.heap.size (In w.heap.size m_) v0_ r1_0 ∧ Kd.S k50 50 w' m_ (In m_ w'.heap.size) v1_ r2_0 ∧ Below w.heap.size w w' := by
  have hu25 := Try.underlying25
  have hu32 := Try.underlying32
  have HR0_0 := Aside0.mk hr0_0
  have HC0_0 := Aside0.mk hc0_0
  clear hr0_0 hc0_0
  have HR0_1 := Aside0.mk hr0_1
  have HC0_1 := Aside0.mk hc0_1
  clear hr0_1 hc0_1
  have A1 := Aside0.mk A1x
  clear A1x
  have A2 := Aside0.mk A2x
  clear A2x
  have HB := Aside0.mk (Below.refl w.heap.size w)
  have HORD := Aside0.mk (Nat.le_refl w.heap.size)
  have HT := Aside0.mk (Nat.le_refl w.heap.size)
  go_enter Try.func19, Try.ntmps19
  go_wp2_with (first | ((with_reducible refine gate_dst (N := 1) rfl ?_); refine box_event ?hg (N := 1) ?hd (cs := #[.slice A0_0 l0_0.length c0_0, .slice A0_1 l0_1.length c0_1, .int .i64 a0_2, .bool a0_3]) (t := 32) ?hr ?_; (case hd => rfl); (case hg => rfl); (case hr => first | (go_simp; done) | (go_simp; rfl)); intro gb1 hg_ w1 hbox hb; have hge_ : w.heap.size ≤ gb1 := (by rw [hg_]; exact HT.out); have hlt_ : gb1 + 1 ≤ w1.heap.size := blk_lt hbox; have n0_ := Aside0.mk (below_step HB.out hb); have n1_ := Aside0.mk (hbox); have n2_ := Aside0.mk (And.intro HORD.out (And.intro hge_ (Nat.le_succ gb1))); have n3_ := Aside0.mk (hlt_); (try clear HB); (try clear BK1); (try clear HORD); (try clear HT); have HB := n0_; have BK1 := n1_; have HORD := n2_; have HT := n3_; clear n0_ n1_ n2_ n3_; clear hb hbox hg_ hge_ hlt_; have hzgb1_0_1 : w1.cell? ⟨gb1, 0, none⟩ = some (.slice A0_0 l0_0.length c0_0) := (blk_cell BK1.out 0).trans rfl; have hygb1_0_1 := blk_frozen BK1.out 0; have hzgb1_1_1 : w1.cell? ⟨gb1, 1, none⟩ = some (.slice A0_1 l0_1.length c0_1) := (blk_cell BK1.out 1).trans rfl; have hygb1_1_1 := blk_frozen BK1.out 1; have hzgb1_2_1 : w1.cell? ⟨gb1, 2, none⟩ = some (.int .i64 a0_2) := (blk_cell BK1.out 2).trans rfl; have hygb1_2_1 := blk_frozen BK1.out 2; have hzgb1_3_1 : w1.cell? ⟨gb1, 3, none⟩ = some (.bool a0_3) := (blk_cell BK1.out 3).trans rfl; have hygb1_3_1 := blk_frozen BK1.out 3) | ((with_reducible refine gate_dst (N := 2) rfl ?_); refine box_event ?hg (N := 2) ?hd (cs := #[.slice none 0 0, .slice none 0 0, .int .i64 0, .bool false]) (t := 25) ?hr ?_; (case hd => rfl); (case hg => rfl); (case hr => first | (go_simp; done) | (go_simp; rfl)); intro gb2 hg_ w2 hbox hb; have hge_ : (gb1 + 1) ≤ gb2 := (by rw [hg_]; exact HT.out); have hlt_ : gb2 + 1 ≤ w2.heap.size := blk_lt hbox; have n0_ := Aside0.mk (blk_below BK1.out hb); have n1_ := Aside0.mk (below_step HB.out hb); have n2_ := Aside0.mk (hbox); have n3_ := Aside0.mk (And.intro HORD.out (And.intro hge_ (Nat.le_succ gb2))); have n4_ := Aside0.mk (hlt_); (try clear BK1); (try clear HB); (try clear BK2); (try clear HORD); (try clear HT); have BK1 := n0_; have HB := n1_; have BK2 := n2_; have HORD := n3_; have HT := n4_; clear n0_ n1_ n2_ n3_ n4_; clear hb hbox hg_ hge_ hlt_; have hzgb1_0_2 : w2.cell? ⟨gb1, 0, none⟩ = some (.slice A0_0 l0_0.length c0_0) := (blk_cell BK1.out 0).trans rfl; have hygb1_0_2 := blk_frozen BK1.out 0; have hzgb1_1_2 : w2.cell? ⟨gb1, 1, none⟩ = some (.slice A0_1 l0_1.length c0_1) := (blk_cell BK1.out 1).trans rfl; have hygb1_1_2 := blk_frozen BK1.out 1; have hzgb1_2_2 : w2.cell? ⟨gb1, 2, none⟩ = some (.int .i64 a0_2) := (blk_cell BK1.out 2).trans rfl; have hygb1_2_2 := blk_frozen BK1.out 2; have hzgb1_3_2 : w2.cell? ⟨gb1, 3, none⟩ = some (.bool a0_3) := (blk_cell BK1.out 3).trans rfl; have hygb1_3_2 := blk_frozen BK1.out 3; have hzgb2_0_2 : w2.cell? ⟨gb2, 0, none⟩ = some (.slice none 0 0) := (blk_cell BK2.out 0).trans rfl; have hygb2_0_2 := blk_frozen BK2.out 0; have hzgb2_1_2 : w2.cell? ⟨gb2, 1, none⟩ = some (.slice none 0 0) := (blk_cell BK2.out 1).trans rfl; have hygb2_1_2 := blk_frozen BK2.out 1; have hzgb2_2_2 : w2.cell? ⟨gb2, 2, none⟩ = some (.int .i64 0) := (blk_cell BK2.out 2).trans rfl; have hygb2_2_2 := blk_frozen BK2.out 2; have hzgb2_3_2 : w2.cell? ⟨gb2, 3, none⟩ = some (.bool false) := (blk_cell BK2.out 3).trans rfl; have hygb2_3_2 := blk_frozen BK2.out 3) | ((with_reducible refine gate_dst (N := 3) rfl ?_); refine box_event ?hg (N := 3) ?hd (cs := #[.slice none 0 0, .slice none 0 0, .int .i64 0, .bool false]) (t := 25) ?hr ?_; (case hd => rfl); (case hg => rfl); (case hr => first | (go_simp; done) | (go_simp; rfl)); intro gb3 hg_ w3 hbox hb; have hge_ : (gb2 + 1) ≤ gb3 := (by rw [hg_]; exact HT.out); have hlt_ : gb3 + 1 ≤ w3.heap.size := blk_lt hbox; have n0_ := Aside0.mk (blk_below BK1.out hb); have n1_ := Aside0.mk (blk_below BK2.out hb); have n2_ := Aside0.mk (below_step HB.out hb); have n3_ := Aside0.mk (hbox); have n4_ := Aside0.mk (And.intro HORD.out (And.intro hge_ (Nat.le_succ gb3))); have n5_ := Aside0.mk (hlt_); (try clear BK1); (try clear BK2); (try clear HB); (try clear BK3); (try clear HORD); (try clear HT); have BK1 := n0_; have BK2 := n1_; have HB := n2_; have BK3 := n3_; have HORD := n4_; have HT := n5_; clear n0_ n1_ n2_ n3_ n4_ n5_; clear hb hbox hg_ hge_ hlt_; have hzgb1_0_3 : w3.cell? ⟨gb1, 0, none⟩ = some (.slice A0_0 l0_0.length c0_0) := (blk_cell BK1.out 0).trans rfl; have hygb1_0_3 := blk_frozen BK1.out 0; have hzgb1_1_3 : w3.cell? ⟨gb1, 1, none⟩ = some (.slice A0_1 l0_1.length c0_1) := (blk_cell BK1.out 1).trans rfl; have hygb1_1_3 := blk_frozen BK1.out 1; have hzgb1_2_3 : w3.cell? ⟨gb1, 2, none⟩ = some (.int .i64 a0_2) := (blk_cell BK1.out 2).trans rfl; have hygb1_2_3 := blk_frozen BK1.out 2; have hzgb1_3_3 : w3.cell? ⟨gb1, 3, none⟩ = some (.bool a0_3) := (blk_cell BK1.out 3).trans rfl; have hygb1_3_3 := blk_frozen BK1.out 3; have hzgb2_0_3 : w3.cell? ⟨gb2, 0, none⟩ = some (.slice none 0 0) := (blk_cell BK2.out 0).trans rfl; have hygb2_0_3 := blk_frozen BK2.out 0; have hzgb2_1_3 : w3.cell? ⟨gb2, 1, none⟩ = some (.slice none 0 0) := (blk_cell BK2.out 1).trans rfl; have hygb2_1_3 := blk_frozen BK2.out 1; have hzgb2_2_3 : w3.cell? ⟨gb2, 2, none⟩ = some (.int .i64 0) := (blk_cell BK2.out 2).trans rfl; have hygb2_2_3 := blk_frozen BK2.out 2; have hzgb2_3_3 : w3.cell? ⟨gb2, 3, none⟩ = some (.bool false) := (blk_cell BK2.out 3).trans rfl; have hygb2_3_3 := blk_frozen BK2.out 3; have hzgb3_0_3 : w3.cell? ⟨gb3, 0, none⟩ = some (.slice none 0 0) := (blk_cell BK3.out 0).trans rfl; have hygb3_0_3 := blk_frozen BK3.out 0; have hzgb3_1_3 : w3.cell? ⟨gb3, 1, none⟩ = some (.slice none 0 0) := (blk_cell BK3.out 1).trans rfl; have hygb3_1_3 := blk_frozen BK3.out 1; have hzgb3_2_3 : w3.cell? ⟨gb3, 2, none⟩ = some (.int .i64 0) := (blk_cell BK3.out 2).trans rfl; have hygb3_2_3 := blk_frozen BK3.out 2; have hzgb3_3_3 : w3.cell? ⟨gb3, 3, none⟩ = some (.bool false) := (blk_cell BK3.out 3).trans rfl; have hygb3_3_3 := blk_frozen BK3.out 3) | ((with_reducible refine gate_callee (f := 53) rfl ?_); refine goesL_ (some 6) rfl rfl Try.func53 (by kernel_rfl) rfl #[.slice A0_0 l0_0.length c0_0] rfl (by (try simp only [List.map_toArray, List.map_cons, List.map_nil]); first | done | rfl | (simp only [List.length_drop, List.length_take]; rfl)) ?_; (with_reducible refine (laws_toByteSS.calls k1 _ _ l0_0 r1_0 _ ?s1 ?s2 A1.out).mono ?_); (case s1 => exact (Kd.C_below HR0_0.out HB.out)); (case s2 => exact HC0_0.out); rintro e_ w4 ⟨v0_, rfl, ho0, hb⟩; refine ⟨_, rfl, ?_⟩; obtain ⟨lo4, hi4, el_, eh_, ol_, oh_⟩ := Mem.times HT.out hb; (try rw [← el_] at ho0); obtain ⟨A4_0, c4_0, ev_, hc0_, hf0_, hs0_⟩ := Mem.new_S ho0 eh_; subst ev_; have n0_ := Aside0.mk (blk_below BK1.out hb); have n1_ := Aside0.mk (blk_below BK2.out hb); have n2_ := Aside0.mk (blk_below BK3.out hb); have n3_ := Aside0.mk (below_step HB.out hb); have n4_ := Aside0.mk (hf0_); have n5_ := Aside0.mk (hc0_); have n6_ := Aside0.mk (hs0_); have n7_ := Aside0.mk (And.intro HORD.out (And.intro ol_ oh_)); have n8_ := Aside0.mk (Nat.le_of_eq eh_); (try clear BK1); (try clear BK2); (try clear BK3); (try clear HB); (try clear HF4_0); (try clear HC4_0); (try clear HS4_0); (try clear HORD); (try clear HT); have BK1 := n0_; have BK2 := n1_; have BK3 := n2_; have HB := n3_; have HF4_0 := n4_; have HC4_0 := n5_; have HS4_0 := n6_; have HORD := n7_; have HT := n8_; clear n0_ n1_ n2_ n3_ n4_ n5_ n6_ n7_ n8_; clear ol_ oh_ el_ eh_ ho0 hf0_ hc0_ hs0_; (try clear hb); have hzgb1_0_4 : w4.cell? ⟨gb1, 0, none⟩ = some (.slice A0_0 l0_0.length c0_0) := (blk_cell BK1.out 0).trans rfl; have hygb1_0_4 := blk_frozen BK1.out 0; have hzgb1_1_4 : w4.cell? ⟨gb1, 1, none⟩ = some (.slice A0_1 l0_1.length c0_1) := (blk_cell BK1.out 1).trans rfl; have hygb1_1_4 := blk_frozen BK1.out 1; have hzgb1_2_4 : w4.cell? ⟨gb1, 2, none⟩ = some (.int .i64 a0_2) := (blk_cell BK1.out 2).trans rfl; have hygb1_2_4 := blk_frozen BK1.out 2; have hzgb1_3_4 : w4.cell? ⟨gb1, 3, none⟩ = some (.bool a0_3) := (blk_cell BK1.out 3).trans rfl; have hygb1_3_4 := blk_frozen BK1.out 3; have hzgb2_0_4 : w4.cell? ⟨gb2, 0, none⟩ = some (.slice none 0 0) := (blk_cell BK2.out 0).trans rfl; have hygb2_0_4 := blk_frozen BK2.out 0; have hzgb2_1_4 : w4.cell? ⟨gb2, 1, none⟩ = some (.slice none 0 0) := (blk_cell BK2.out 1).trans rfl; have hygb2_1_4 := blk_frozen BK2.out 1; have hzgb2_2_4 : w4.cell? ⟨gb2, 2, none⟩ = some (.int .i64 0) := (blk_cell BK2.out 2).trans rfl; have hygb2_2_4 := blk_frozen BK2.out 2; have hzgb2_3_4 : w4.cell? ⟨gb2, 3, none⟩ = some (.bool false) := (blk_cell BK2.out 3).trans rfl; have hygb2_3_4 := blk_frozen BK2.out 3; have hzgb3_0_4 : w4.cell? ⟨gb3, 0, none⟩ = some (.slice none 0 0) := (blk_cell BK3.out 0).trans rfl; have hygb3_0_4 := blk_frozen BK3.out 0; have hzgb3_1_4 : w4.cell? ⟨gb3, 1, none⟩ = some (.slice none 0 0) := (blk_cell BK3.out 1).trans rfl; have hygb3_1_4 := blk_frozen BK3.out 1; have hzgb3_2_4 : w4.cell? ⟨gb3, 2, none⟩ = some (.int .i64 0) := (blk_cell BK3.out 2).trans rfl; have hygb3_2_4 := blk_frozen BK3.out 2; have hzgb3_3_4 : w4.cell? ⟨gb3, 3, none⟩ = some (.bool false) := (blk_cell BK3.out 3).trans rfl; have hygb3_3_4 := blk_frozen BK3.out 3) | ((with_reducible refine gate_store (t := 22) (p := 7) rfl ?_); refine store_event (t := 22) (p := 7) (v := ?vo_w5) (w1 := (w4.setCell ⟨gb3, 0, none⟩ (.slice A4_0 r1_0.length c4_0))) ?hg ?ho ?hn ?hr ?_; (case ho => rfl); (case hg => rfl); (case hn => rfl); (case hr => first | (go_simp; done) | (go_simp; rfl)); intro w5 hw_; have hkp : Kept w4 w5 (fun k_ => k_ = gb3) := (by rw [hw_]; exact Kept.setCell (Kept.refl w4 (fun k_ => k_ = gb3)) (.inl rfl) (.slice A4_0 r1_0.length c4_0)); have hge_ : w.heap.size ≤ gb3 := (by have o_ := HORD.out; (try unfold In at *); (try show _ ≠ _); omega); have hbn_ : Below w.heap.size w w5 := (by rw [hw_]; exact below_set (HB.out) hge_); have hbk_ : w5.heap[gb3]? = some (.cells #[.slice A4_0 r1_0.length c4_0, .slice none 0 0, .int .i64 0, .bool false] 25 (0, 0)) := (by rw [hw_]; exact blk_put (cs := #[.slice none 0 0, .slice none 0 0, .int .i64 0, .bool false]) (cs' := #[.slice A4_0 r1_0.length c4_0, .slice none 0 0, .int .i64 0, .bool false]) (BK3.out) 0 _ rfl); have hsz_ : hi4 ≤ w5.heap.size := Nat.le_trans HT.out hkp.1; have n0_ := Aside0.mk (Kd.F_kept HF4_0.out hkp (fun k_ h1_ h2_ => by have o_ := HORD.out; unfold In at h1_; omega)); have n1_ := Aside0.mk (Kd.S_kept HS4_0.out hkp (fun k_ h1_ h2_ => by have o_ := HORD.out; unfold In at h1_; omega)); have n2_ := Aside0.mk (blk_kept BK1.out hkp (fun h2_ => by have o_ := HORD.out; omega)); have n3_ := Aside0.mk (blk_kept BK2.out hkp (fun h2_ => by have o_ := HORD.out; omega)); have n4_ := Aside0.mk (hbn_); have n5_ := Aside0.mk (hbk_); have n6_ := Aside0.mk (hsz_); (try clear HF4_0); (try clear HS4_0); (try clear BK1); (try clear BK2); (try clear HB); (try clear BK3); (try clear HT); have HF4_0 := n0_; have HS4_0 := n1_; have BK1 := n2_; have BK2 := n3_; have HB := n4_; have BK3 := n5_; have HT := n6_; clear n0_ n1_ n2_ n3_ n4_ n5_ n6_; clear hw_ hkp hge_ hbn_ hbk_ hsz_; have hzgb1_0_5 : w5.cell? ⟨gb1, 0, none⟩ = some (.slice A0_0 l0_0.length c0_0) := (blk_cell BK1.out 0).trans rfl; have hygb1_0_5 := blk_frozen BK1.out 0; have hzgb1_1_5 : w5.cell? ⟨gb1, 1, none⟩ = some (.slice A0_1 l0_1.length c0_1) := (blk_cell BK1.out 1).trans rfl; have hygb1_1_5 := blk_frozen BK1.out 1; have hzgb1_2_5 : w5.cell? ⟨gb1, 2, none⟩ = some (.int .i64 a0_2) := (blk_cell BK1.out 2).trans rfl; have hygb1_2_5 := blk_frozen BK1.out 2; have hzgb1_3_5 : w5.cell? ⟨gb1, 3, none⟩ = some (.bool a0_3) := (blk_cell BK1.out 3).trans rfl; have hygb1_3_5 := blk_frozen BK1.out 3; have hzgb2_0_5 : w5.cell? ⟨gb2, 0, none⟩ = some (.slice none 0 0) := (blk_cell BK2.out 0).trans rfl; have hygb2_0_5 := blk_frozen BK2.out 0; have hzgb2_1_5 : w5.cell? ⟨gb2, 1, none⟩ = some (.slice none 0 0) := (blk_cell BK2.out 1).trans rfl; have hygb2_1_5 := blk_frozen BK2.out 1; have hzgb2_2_5 : w5.cell? ⟨gb2, 2, none⟩ = some (.int .i64 0) := (blk_cell BK2.out 2).trans rfl; have hygb2_2_5 := blk_frozen BK2.out 2; have hzgb2_3_5 : w5.cell? ⟨gb2, 3, none⟩ = some (.bool false) := (blk_cell BK2.out 3).trans rfl; have hygb2_3_5 := blk_frozen BK2.out 3; have hzgb3_0_5 : w5.cell? ⟨gb3, 0, none⟩ = some (.slice A4_0 r1_0.length c4_0) := (blk_cell BK3.out 0).trans rfl; have hygb3_0_5 := blk_frozen BK3.out 0; have hzgb3_1_5 : w5.cell? ⟨gb3, 1, none⟩ = some (.slice none 0 0) := (blk_cell BK3.out 1).trans rfl; have hygb3_1_5 := blk_frozen BK3.out 1; have hzgb3_2_5 : w5.cell? ⟨gb3, 2, none⟩ = some (.int .i64 0) := (blk_cell BK3.out 2).trans rfl; have hygb3_2_5 := blk_frozen BK3.out 2; have hzgb3_3_5 : w5.cell? ⟨gb3, 3, none⟩ = some (.bool false) := (blk_cell BK3.out 3).trans rfl; have hygb3_3_5 := blk_frozen BK3.out 3) | ((with_reducible refine gate_callee (f := 54) rfl ?_); refine goesL_ (some 10) rfl rfl Try.func54 (by kernel_rfl) rfl #[.slice A0_1 l0_1.length c0_1] rfl (by (try simp only [List.map_toArray, List.map_cons, List.map_nil]); first | done | rfl | (simp only [List.length_drop, List.length_take]; rfl)) ?_; (with_reducible refine (laws_toWrS.calls k2 _ _ l0_1 r2_0 _ ?s1 ?s2 A2.out).mono ?_); (case s1 => exact (Kd.C_below HR0_1.out HB.out)); (case s2 => exact HC0_1.out); rintro e_ w6 ⟨v0_, rfl, ho0, hb⟩; refine ⟨_, rfl, ?_⟩; obtain ⟨lo6, hi6, el_, eh_, ol_, oh_⟩ := Mem.times HT.out hb; (try rw [← el_] at ho0); obtain ⟨A6_0, c6_0, ev_, hc0_, hf0_, hs0_⟩ := Mem.new_S ho0 eh_; subst ev_; have n0_ := Aside0.mk (Kd.F_below HF4_0.out hb); have n1_ := Aside0.mk (Kd.S_below HS4_0.out hb); have n2_ := Aside0.mk (blk_below BK1.out hb); have n3_ := Aside0.mk (blk_below BK2.out hb); have n4_ := Aside0.mk (blk_below BK3.out hb); have n5_ := Aside0.mk (below_step HB.out hb); have n6_ := Aside0.mk (hf0_); have n7_ := Aside0.mk (hc0_); have n8_ := Aside0.mk (hs0_); have n9_ := Aside0.mk (And.intro HORD.out (And.intro ol_ oh_)); have n10_ := Aside0.mk (Nat.le_of_eq eh_); (try clear HF4_0); (try clear HS4_0); (try clear BK1); (try clear BK2); (try clear BK3); (try clear HB); (try clear HF6_0); (try clear HC6_0); (try clear HS6_0); (try clear HORD); (try clear HT); have HF4_0 := n0_; have HS4_0 := n1_; have BK1 := n2_; have BK2 := n3_; have BK3 := n4_; have HB := n5_; have HF6_0 := n6_; have HC6_0 := n7_; have HS6_0 := n8_; have HORD := n9_; have HT := n10_; clear n0_ n1_ n2_ n3_ n4_ n5_ n6_ n7_ n8_ n9_ n10_; clear ol_ oh_ el_ eh_ ho0 hf0_ hc0_ hs0_; (try clear hb); have hzgb1_0_6 : w6.cell? ⟨gb1, 0, none⟩ = some (.slice A0_0 l0_0.length c0_0) := (blk_cell BK1.out 0).trans rfl; have hygb1_0_6 := blk_frozen BK1.out 0; have hzgb1_1_6 : w6.cell? ⟨gb1, 1, none⟩ = some (.slice A0_1 l0_1.length c0_1) := (blk_cell BK1.out 1).trans rfl; have hygb1_1_6 := blk_frozen BK1.out 1; have hzgb1_2_6 : w6.cell? ⟨gb1, 2, none⟩ = some (.int .i64 a0_2) := (blk_cell BK1.out 2).trans rfl; have hygb1_2_6 := blk_frozen BK1.out 2; have hzgb1_3_6 : w6.cell? ⟨gb1, 3, none⟩ = some (.bool a0_3) := (blk_cell BK1.out 3).trans rfl; have hygb1_3_6 := blk_frozen BK1.out 3; have hzgb2_0_6 : w6.cell? ⟨gb2, 0, none⟩ = some (.slice none 0 0) := (blk_cell BK2.out 0).trans rfl; have hygb2_0_6 := blk_frozen BK2.out 0; have hzgb2_1_6 : w6.cell? ⟨gb2, 1, none⟩ = some (.slice none 0 0) := (blk_cell BK2.out 1).trans rfl; have hygb2_1_6 := blk_frozen BK2.out 1; have hzgb2_2_6 : w6.cell? ⟨gb2, 2, none⟩ = some (.int .i64 0) := (blk_cell BK2.out 2).trans rfl; have hygb2_2_6 := blk_frozen BK2.out 2; have hzgb2_3_6 : w6.cell? ⟨gb2, 3, none⟩ = some (.bool false) := (blk_cell BK2.out 3).trans rfl; have hygb2_3_6 := blk_frozen BK2.out 3; have hzgb3_0_6 : w6.cell? ⟨gb3, 0, none⟩ = some (.slice A4_0 r1_0.length c4_0) := (blk_cell BK3.out 0).trans rfl; have hygb3_0_6 := blk_frozen BK3.out 0; have hzgb3_1_6 : w6.cell? ⟨gb3, 1, none⟩ = some (.slice none 0 0) := (blk_cell BK3.out 1).trans rfl; have hygb3_1_6 := blk_frozen BK3.out 1; have hzgb3_2_6 : w6.cell? ⟨gb3, 2, none⟩ = some (.int .i64 0) := (blk_cell BK3.out 2).trans rfl; have hygb3_2_6 := blk_frozen BK3.out 2; have hzgb3_3_6 : w6.cell? ⟨gb3, 3, none⟩ = some (.bool false) := (blk_cell BK3.out 3).trans rfl; have hygb3_3_6 := blk_frozen BK3.out 3) | ((with_reducible refine gate_store (t := 23) (p := 11) rfl ?_); refine store_event (t := 23) (p := 11) (v := ?vo_w7) (w1 := (w6.setCell ⟨gb3, 1, none⟩ (.slice A6_0 r2_0.length c6_0))) ?hg ?ho ?hn ?hr ?_; (case ho => rfl); (case hg => rfl); (case hn => rfl); (case hr => first | (go_simp; done) | (go_simp; rfl)); intro w7 hw_; have hkp : Kept w6 w7 (fun k_ => k_ = gb3) := (by rw [hw_]; exact Kept.setCell (Kept.refl w6 (fun k_ => k_ = gb3)) (.inl rfl) (.slice A6_0 r2_0.length c6_0)); have hge_ : w.heap.size ≤ gb3 := (by have o_ := HORD.out; (try unfold In at *); (try show _ ≠ _); omega); have hbn_ : Below w.heap.size w w7 := (by rw [hw_]; exact below_set (HB.out) hge_); have hbk_ : w7.heap[gb3]? = some (.cells #[.slice A4_0 r1_0.length c4_0, .slice A6_0 r2_0.length c6_0, .int .i64 0, .bool false] 25 (0, 0)) := (by rw [hw_]; exact blk_put (cs := #[.slice A4_0 r1_0.length c4_0, .slice none 0 0, .int .i64 0, .bool false]) (cs' := #[.slice A4_0 r1_0.length c4_0, .slice A6_0 r2_0.length c6_0, .int .i64 0, .bool false]) (BK3.out) 1 _ rfl); have hsz_ : hi6 ≤ w7.heap.size := Nat.le_trans HT.out hkp.1; have n0_ := Aside0.mk (Kd.F_kept HF4_0.out hkp (fun k_ h1_ h2_ => by have o_ := HORD.out; unfold In at h1_; omega)); have n1_ := Aside0.mk (Kd.S_kept HS4_0.out hkp (fun k_ h1_ h2_ => by have o_ := HORD.out; unfold In at h1_; omega)); have n2_ := Aside0.mk (Kd.F_kept HF6_0.out hkp (fun k_ h1_ h2_ => by have o_ := HORD.out; unfold In at h1_; omega)); have n3_ := Aside0.mk (Kd.S_kept HS6_0.out hkp (fun k_ h1_ h2_ => by have o_ := HORD.out; unfold In at h1_; omega)); have n4_ := Aside0.mk (blk_kept BK1.out hkp (fun h2_ => by have o_ := HORD.out; omega)); have n5_ := Aside0.mk (blk_kept BK2.out hkp (fun h2_ => by have o_ := HORD.out; omega)); have n6_ := Aside0.mk (hbn_); have n7_ := Aside0.mk (hbk_); have n8_ := Aside0.mk (hsz_); (try clear HF4_0); (try clear HS4_0); (try clear HF6_0); (try clear HS6_0); (try clear BK1); (try clear BK2); (try clear HB); (try clear BK3); (try clear HT); have HF4_0 := n0_; have HS4_0 := n1_; have HF6_0 := n2_; have HS6_0 := n3_; have BK1 := n4_; have BK2 := n5_; have HB := n6_; have BK3 := n7_; have HT := n8_; clear n0_ n1_ n2_ n3_ n4_ n5_ n6_ n7_ n8_; clear hw_ hkp hge_ hbn_ hbk_ hsz_; have hzgb1_0_7 : w7.cell? ⟨gb1, 0, none⟩ = some (.slice A0_0 l0_0.length c0_0) := (blk_cell BK1.out 0).trans rfl; have hygb1_0_7 := blk_frozen BK1.out 0; have hzgb1_1_7 : w7.cell? ⟨gb1, 1, none⟩ = some (.slice A0_1 l0_1.length c0_1) := (blk_cell BK1.out 1).trans rfl; have hygb1_1_7 := blk_frozen BK1.out 1; have hzgb1_2_7 : w7.cell? ⟨gb1, 2, none⟩ = some (.int .i64 a0_2) := (blk_cell BK1.out 2).trans rfl; have hygb1_2_7 := blk_frozen BK1.out 2; have hzgb1_3_7 : w7.cell? ⟨gb1, 3, none⟩ = some (.bool a0_3) := (blk_cell BK1.out 3).trans rfl; have hygb1_3_7 := blk_frozen BK1.out 3; have hzgb2_0_7 : w7.cell? ⟨gb2, 0, none⟩ = some (.slice none 0 0) := (blk_cell BK2.out 0).trans rfl; have hygb2_0_7 := blk_frozen BK2.out 0; have hzgb2_1_7 : w7.cell? ⟨gb2, 1, none⟩ = some (.slice none 0 0) := (blk_cell BK2.out 1).trans rfl; have hygb2_1_7 := blk_frozen BK2.out 1; have hzgb2_2_7 : w7.cell? ⟨gb2, 2, none⟩ = some (.int .i64 0) := (blk_cell BK2.out 2).trans rfl; have hygb2_2_7 := blk_frozen BK2.out 2; have hzgb2_3_7 : w7.cell? ⟨gb2, 3, none⟩ = some (.bool false) := (blk_cell BK2.out 3).trans rfl; have hygb2_3_7 := blk_frozen BK2.out 3; have hzgb3_0_7 : w7.cell? ⟨gb3, 0, none⟩ = some (.slice A4_0 r1_0.length c4_0) := (blk_cell BK3.out 0).trans rfl; have hygb3_0_7 := blk_frozen BK3.out 0; have hzgb3_1_7 : w7.cell? ⟨gb3, 1, none⟩ = some (.slice A6_0 r2_0.length c6_0) := (blk_cell BK3.out 1).trans rfl; have hygb3_1_7 := blk_frozen BK3.out 1; have hzgb3_2_7 : w7.cell? ⟨gb3, 2, none⟩ = some (.int .i64 0) := (blk_cell BK3.out 2).trans rfl; have hygb3_2_7 := blk_frozen BK3.out 2; have hzgb3_3_7 : w7.cell? ⟨gb3, 3, none⟩ = some (.bool false) := (blk_cell BK3.out 3).trans rfl; have hygb3_3_7 := blk_frozen BK3.out 3) | ((with_reducible refine gate_store (t := 3) (p := 14) rfl ?_); refine store_event (t := 3) (p := 14) (v := ?vo_w8) (w1 := (w7.setCell ⟨gb3, 2, none⟩ (.int .i64 a0_2))) ?hg ?ho ?hn ?hr ?_; (case ho => rfl); (case hg => rfl); (case hn => rfl); (case hr => first | (go_simp; done) | (go_simp; rfl)); intro w8 hw_; have hkp : Kept w7 w8 (fun k_ => k_ = gb3) := (by rw [hw_]; exact Kept.setCell (Kept.refl w7 (fun k_ => k_ = gb3)) (.inl rfl) (.int .i64 a0_2)); have hge_ : w.heap.size ≤ gb3 := (by have o_ := HORD.out; (try unfold In at *); (try show _ ≠ _); omega); have hbn_ : Below w.heap.size w w8 := (by rw [hw_]; exact below_set (HB.out) hge_); have hbk_ : w8.heap[gb3]? = some (.cells #[.slice A4_0 r1_0.length c4_0, .slice A6_0 r2_0.length c6_0, .int .i64 a0_2, .bool false] 25 (0, 0)) := (by rw [hw_]; exact blk_put (cs := #[.slice A4_0 r1_0.length c4_0, .slice A6_0 r2_0.length c6_0, .int .i64 0, .bool false]) (cs' := #[.slice A4_0 r1_0.length c4_0, .slice A6_0 r2_0.length c6_0, .int .i64 a0_2, .bool false]) (BK3.out) 2 _ rfl); have hsz_ : hi6 ≤ w8.heap.size := Nat.le_trans HT.out hkp.1; have n0_ := Aside0.mk (Kd.F_kept HF4_0.out hkp (fun k_ h1_ h2_ => by have o_ := HORD.out; unfold In at h1_; omega)); have n1_ := Aside0.mk (Kd.S_kept HS4_0.out hkp (fun k_ h1_ h2_ => by have o_ := HORD.out; unfold In at h1_; omega)); have n2_ := Aside0.mk (Kd.F_kept HF6_0.out hkp (fun k_ h1_ h2_ => by have o_ := HORD.out; unfold In at h1_; omega)); have n3_ := Aside0.mk (Kd.S_kept HS6_0.out hkp (fun k_ h1_ h2_ => by have o_ := HORD.out; unfold In at h1_; omega)); have n4_ := Aside0.mk (blk_kept BK1.out hkp (fun h2_ => by have o_ := HORD.out; omega)); have n5_ := Aside0.mk (blk_kept BK2.out hkp (fun h2_ => by have o_ := HORD.out; omega)); have n6_ := Aside0.mk (hbn_); have n7_ := Aside0.mk (hbk_); have n8_ := Aside0.mk (hsz_); (try clear HF4_0); (try clear HS4_0); (try clear HF6_0); (try clear HS6_0); (try clear BK1); (try clear BK2); (try clear HB); (try clear BK3); (try clear HT); have HF4_0 := n0_; have HS4_0 := n1_; have HF6_0 := n2_; have HS6_0 := n3_; have BK1 := n4_; have BK2 := n5_; have HB := n6_; have BK3 := n7_; have HT := n8_; clear n0_ n1_ n2_ n3_ n4_ n5_ n6_ n7_ n8_; clear hw_ hkp hge_ hbn_ hbk_ hsz_; have hzgb1_0_8 : w8.cell? ⟨gb1, 0, none⟩ = some (.slice A0_0 l0_0.length c0_0) := (blk_cell BK1.out 0).trans rfl; have hygb1_0_8 := blk_frozen BK1.out 0; have hzgb1_1_8 : w8.cell? ⟨gb1, 1, none⟩ = some (.slice A0_1 l0_1.length c0_1) := (blk_cell BK1.out 1).trans rfl; have hygb1_1_8 := blk_frozen BK1.out 1; have hzgb1_2_8 : w8.cell? ⟨gb1, 2, none⟩ = some (.int .i64 a0_2) := (blk_cell BK1.out 2).trans rfl; have hygb1_2_8 := blk_frozen BK1.out 2; have hzgb1_3_8 : w8.cell? ⟨gb1, 3, none⟩ = some (.bool a0_3) := (blk_cell BK1.out 3).trans rfl; have hygb1_3_8 := blk_frozen BK1.out 3; have hzgb2_0_8 : w8.cell? ⟨gb2, 0, none⟩ = some (.slice none 0 0) := (blk_cell BK2.out 0).trans rfl; have hygb2_0_8 := blk_frozen BK2.out 0; have hzgb2_1_8 : w8.cell? ⟨gb2, 1, none⟩ = some (.slice none 0 0) := (blk_cell BK2.out 1).trans rfl; have hygb2_1_8 := blk_frozen BK2.out 1; have hzgb2_2_8 : w8.cell? ⟨gb2, 2, none⟩ = some (.int .i64 0) := (blk_cell BK2.out 2).trans rfl; have hygb2_2_8 := blk_frozen BK2.out 2; have hzgb2_3_8 : w8.cell? ⟨gb2, 3, none⟩ = some (.bool false) := (blk_cell BK2.out 3).trans rfl; have hygb2_3_8 := blk_frozen BK2.out 3; have hzgb3_0_8 : w8.cell? ⟨gb3, 0, none⟩ = some (.slice A4_0 r1_0.length c4_0) := (blk_cell BK3.out 0).trans rfl; have hygb3_0_8 := blk_frozen BK3.out 0; have hzgb3_1_8 : w8.cell? ⟨gb3, 1, none⟩ = some (.slice A6_0 r2_0.length c6_0) := (blk_cell BK3.out 1).trans rfl; have hygb3_1_8 := blk_frozen BK3.out 1; have hzgb3_2_8 : w8.cell? ⟨gb3, 2, none⟩ = some (.int .i64 a0_2) := (blk_cell BK3.out 2).trans rfl; have hygb3_2_8 := blk_frozen BK3.out 2; have hzgb3_3_8 : w8.cell? ⟨gb3, 3, none⟩ = some (.bool false) := (blk_cell BK3.out 3).trans rfl; have hygb3_3_8 := blk_frozen BK3.out 3) | ((with_reducible refine gate_store (t := 4) (p := 17) rfl ?_); refine store_event (t := 4) (p := 17) (v := ?vo_w9) (w1 := (w8.setCell ⟨gb3, 3, none⟩ (.bool a0_3))) ?hg ?ho ?hn ?hr ?_; (case ho => rfl); (case hg => rfl); (case hn => rfl); (case hr => first | (go_simp; done) | (go_simp; rfl)); intro w9 hw_; have hkp : Kept w8 w9 (fun k_ => k_ = gb3) := (by rw [hw_]; exact Kept.setCell (Kept.refl w8 (fun k_ => k_ = gb3)) (.inl rfl) (.bool a0_3)); have hge_ : w.heap.size ≤ gb3 := (by have o_ := HORD.out; (try unfold In at *); (try show _ ≠ _); omega); have hbn_ : Below w.heap.size w w9 := (by rw [hw_]; exact below_set (HB.out) hge_); have hbk_ : w9.heap[gb3]? = some (.cells #[.slice A4_0 r1_0.length c4_0, .slice A6_0 r2_0.length c6_0, .int .i64 a0_2, .bool a0_3] 25 (0, 0)) := (by rw [hw_]; exact blk_put (cs := #[.slice A4_0 r1_0.length c4_0, .slice A6_0 r2_0.length c6_0, .int .i64 a0_2, .bool false]) (cs' := #[.slice A4_0 r1_0.length c4_0, .slice A6_0 r2_0.length c6_0, .int .i64 a0_2, .bool a0_3]) (BK3.out) 3 _ rfl); have hsz_ : hi6 ≤ w9.heap.size := Nat.le_trans HT.out hkp.1; have n0_ := Aside0.mk (Kd.F_kept HF4_0.out hkp (fun k_ h1_ h2_ => by have o_ := HORD.out; unfold In at h1_; omega)); have n1_ := Aside0.mk (Kd.S_kept HS4_0.out hkp (fun k_ h1_ h2_ => by have o_ := HORD.out; unfold In at h1_; omega)); have n2_ := Aside0.mk (Kd.F_kept HF6_0.out hkp (fun k_ h1_ h2_ => by have o_ := HORD.out; unfold In at h1_; omega)); have n3_ := Aside0.mk (Kd.S_kept HS6_0.out hkp (fun k_ h1_ h2_ => by have o_ := HORD.out; unfold In at h1_; omega)); have n4_ := Aside0.mk (blk_kept BK1.out hkp (fun h2_ => by have o_ := HORD.out; omega)); have n5_ := Aside0.mk (blk_kept BK2.out hkp (fun h2_ => by have o_ := HORD.out; omega)); have n6_ := Aside0.mk (hbn_); have n7_ := Aside0.mk (hbk_); have n8_ := Aside0.mk (hsz_); (try clear HF4_0); (try clear HS4_0); (try clear HF6_0); (try clear HS6_0); (try clear BK1); (try clear BK2); (try clear HB); (try clear BK3); (try clear HT); have HF4_0 := n0_; have HS4_0 := n1_; have HF6_0 := n2_; have HS6_0 := n3_; have BK1 := n4_; have BK2 := n5_; have HB := n6_; have BK3 := n7_; have HT := n8_; clear n0_ n1_ n2_ n3_ n4_ n5_ n6_ n7_ n8_; clear hw_ hkp hge_ hbn_ hbk_ hsz_; have hzgb1_0_9 : w9.cell? ⟨gb1, 0, none⟩ = some (.slice A0_0 l0_0.length c0_0) := (blk_cell BK1.out 0).trans rfl; have hygb1_0_9 := blk_frozen BK1.out 0; have hzgb1_1_9 : w9.cell? ⟨gb1, 1, none⟩ = some (.slice A0_1 l0_1.length c0_1) := (blk_cell BK1.out 1).trans rfl; have hygb1_1_9 := blk_frozen BK1.out 1; have hzgb1_2_9 : w9.cell? ⟨gb1, 2, none⟩ = some (.int .i64 a0_2) := (blk_cell BK1.out 2).trans rfl; have hygb1_2_9 := blk_frozen BK1.out 2; have hzgb1_3_9 : w9.cell? ⟨gb1, 3, none⟩ = some (.bool a0_3) := (blk_cell BK1.out 3).trans rfl; have hygb1_3_9 := blk_frozen BK1.out 3; have hzgb2_0_9 : w9.cell? ⟨gb2, 0, none⟩ = some (.slice none 0 0) := (blk_cell BK2.out 0).trans rfl; have hygb2_0_9 := blk_frozen BK2.out 0; have hzgb2_1_9 : w9.cell? ⟨gb2, 1, none⟩ = some (.slice none 0 0) := (blk_cell BK2.out 1).trans rfl; have hygb2_1_9 := blk_frozen BK2.out 1; have hzgb2_2_9 : w9.cell? ⟨gb2, 2, none⟩ = some (.int .i64 0) := (blk_cell BK2.out 2).trans rfl; have hygb2_2_9 := blk_frozen BK2.out 2; have hzgb2_3_9 : w9.cell? ⟨gb2, 3, none⟩ = some (.bool false) := (blk_cell BK2.out 3).trans rfl; have hygb2_3_9 := blk_frozen BK2.out 3; have hzgb3_0_9 : w9.cell? ⟨gb3, 0, none⟩ = some (.slice A4_0 r1_0.length c4_0) := (blk_cell BK3.out 0).trans rfl; have hygb3_0_9 := blk_frozen BK3.out 0; have hzgb3_1_9 : w9.cell? ⟨gb3, 1, none⟩ = some (.slice A6_0 r2_0.length c6_0) := (blk_cell BK3.out 1).trans rfl; have hygb3_1_9 := blk_frozen BK3.out 1; have hzgb3_2_9 : w9.cell? ⟨gb3, 2, none⟩ = some (.int .i64 a0_2) := (blk_cell BK3.out 2).trans rfl; have hygb3_2_9 := blk_frozen BK3.out 2; have hzgb3_3_9 : w9.cell? ⟨gb3, 3, none⟩ = some (.bool a0_3) := (blk_cell BK3.out 3).trans rfl; have hygb3_3_9 := blk_frozen BK3.out 3) | ((with_reducible refine gate_store (t := 25) (p := 2) rfl ?_); refine store_event (t := 25) (p := 2) (v := ?vo_w10) (w1 := ((((w9.setCell ⟨gb2, 0, none⟩ (.slice A4_0 r1_0.length c4_0)).setCell ⟨gb2, 1, none⟩ (.slice A6_0 r2_0.length c6_0)).setCell ⟨gb2, 2, none⟩ (.int .i64 a0_2)).setCell ⟨gb2, 3, none⟩ (.bool a0_3))) ?hg ?ho ?hn ?hr ?_; (case ho => rfl); (case hg => rfl); (case hn => rfl); (case hr => first | (go_simp; done) | (go_simp; rfl)); intro w10 hw_; have hkp : Kept w9 w10 (fun k_ => k_ = gb2) := (by rw [hw_]; exact Kept.setCell (Kept.setCell (Kept.setCell (Kept.setCell (Kept.refl w9 (fun k_ => k_ = gb2)) (.inl rfl) (.slice A4_0 r1_0.length c4_0)) (.inl rfl) (.slice A6_0 r2_0.length c6_0)) (.inl rfl) (.int .i64 a0_2)) (.inl rfl) (.bool a0_3)); have hge_ : w.heap.size ≤ gb2 := (by have o_ := HORD.out; (try unfold In at *); (try show _ ≠ _); omega); have hbn_ : Below w.heap.size w w10 := (by rw [hw_]; exact below_set (below_set (below_set (below_set (HB.out) hge_) hge_) hge_) hge_); have hbk_ : w10.heap[gb2]? = some (.cells #[.slice A4_0 r1_0.length c4_0, .slice A6_0 r2_0.length c6_0, .int .i64 a0_2, .bool a0_3] 25 (0, 0)) := (by rw [hw_]; exact blk_put (cs := #[.slice A4_0 r1_0.length c4_0, .slice A6_0 r2_0.length c6_0, .int .i64 a0_2, .bool false]) (cs' := #[.slice A4_0 r1_0.length c4_0, .slice A6_0 r2_0.length c6_0, .int .i64 a0_2, .bool a0_3]) (blk_put (cs := #[.slice A4_0 r1_0.length c4_0, .slice A6_0 r2_0.length c6_0, .int .i64 0, .bool false]) (cs' := #[.slice A4_0 r1_0.length c4_0, .slice A6_0 r2_0.length c6_0, .int .i64 a0_2, .bool false]) (blk_put (cs := #[.slice A4_0 r1_0.length c4_0, .slice none 0 0, .int .i64 0, .bool false]) (cs' := #[.slice A4_0 r1_0.length c4_0, .slice A6_0 r2_0.length c6_0, .int .i64 0, .bool false]) (blk_put (cs := #[.slice none 0 0, .slice none 0 0, .int .i64 0, .bool false]) (cs' := #[.slice A4_0 r1_0.length c4_0, .slice none 0 0, .int .i64 0, .bool false]) (BK2.out) 0 _ rfl) 1 _ rfl) 2 _ rfl) 3 _ rfl); have hsz_ : hi6 ≤ w10.heap.size := Nat.le_trans HT.out hkp.1; have n0_ := Aside0.mk (Kd.F_kept HF4_0.out hkp (fun k_ h1_ h2_ => by have o_ := HORD.out; unfold In at h1_; omega)); have n1_ := Aside0.mk (Kd.S_kept HS4_0.out hkp (fun k_ h1_ h2_ => by have o_ := HORD.out; unfold In at h1_; omega)); have n2_ := Aside0.mk (Kd.F_kept HF6_0.out hkp (fun k_ h1_ h2_ => by have o_ := HORD.out; unfold In at h1_; omega)); have n3_ := Aside0.mk (Kd.S_kept HS6_0.out hkp (fun k_ h1_ h2_ => by have o_ := HORD.out; unfold In at h1_; omega)); have n4_ := Aside0.mk (blk_kept BK1.out hkp (fun h2_ => by have o_ := HORD.out; omega)); have n5_ := Aside0.mk (blk_kept BK3.out hkp (fun h2_ => by have o_ := HORD.out; omega)); have n6_ := Aside0.mk (hbn_); have n7_ := Aside0.mk (hbk_); have n8_ := Aside0.mk (hsz_); (try clear HF4_0); (try clear HS4_0); (try clear HF6_0); (try clear HS6_0); (try clear BK1); (try clear BK3); (try clear HB); (try clear BK2); (try clear HT); have HF4_0 := n0_; have HS4_0 := n1_; have HF6_0 := n2_; have HS6_0 := n3_; have BK1 := n4_; have BK3 := n5_; have HB := n6_; have BK2 := n7_; have HT := n8_; clear n0_ n1_ n2_ n3_ n4_ n5_ n6_ n7_ n8_; clear hw_ hkp hge_ hbn_ hbk_ hsz_; have hzgb1_0_10 : w10.cell? ⟨gb1, 0, none⟩ = some (.slice A0_0 l0_0.length c0_0) := (blk_cell BK1.out 0).trans rfl; have hygb1_0_10 := blk_frozen BK1.out 0; have hzgb1_1_10 : w10.cell? ⟨gb1, 1, none⟩ = some (.slice A0_1 l0_1.length c0_1) := (blk_cell BK1.out 1).trans rfl; have hygb1_1_10 := blk_frozen BK1.out 1; have hzgb1_2_10 : w10.cell? ⟨gb1, 2, none⟩ = some (.int .i64 a0_2) := (blk_cell BK1.out 2).trans rfl; have hygb1_2_10 := blk_frozen BK1.out 2; have hzgb1_3_10 : w10.cell? ⟨gb1, 3, none⟩ = some (.bool a0_3) := (blk_cell BK1.out 3).trans rfl; have hygb1_3_10 := blk_frozen BK1.out 3; have hzgb2_0_10 : w10.cell? ⟨gb2, 0, none⟩ = some (.slice A4_0 r1_0.length c4_0) := (blk_cell BK2.out 0).trans rfl; have hygb2_0_10 := blk_frozen BK2.out 0; have hzgb2_1_10 : w10.cell? ⟨gb2, 1, none⟩ = some (.slice A6_0 r2_0.length c6_0) := (blk_cell BK2.out 1).trans rfl; have hygb2_1_10 := blk_frozen BK2.out 1; have hzgb2_2_10 : w10.cell? ⟨gb2, 2, none⟩ = some (.int .i64 a0_2) := (blk_cell BK2.out 2).trans rfl; have hygb2_2_10 := blk_frozen BK2.out 2; have hzgb2_3_10 : w10.cell? ⟨gb2, 3, none⟩ = some (.bool a0_3) := (blk_cell BK2.out 3).trans rfl; have hygb2_3_10 := blk_frozen BK2.out 3; have hzgb3_0_10 : w10.cell? ⟨gb3, 0, none⟩ = some (.slice A4_0 r1_0.length c4_0) := (blk_cell BK3.out 0).trans rfl; have hygb3_0_10 := blk_frozen BK3.out 0; have hzgb3_1_10 : w10.cell? ⟨gb3, 1, none⟩ = some (.slice A6_0 r2_0.length c6_0) := (blk_cell BK3.out 1).trans rfl; have hygb3_1_10 := blk_frozen BK3.out 1; have hzgb3_2_10 : w10.cell? ⟨gb3, 2, none⟩ = some (.int .i64 a0_2) := (blk_cell BK3.out 2).trans rfl; have hygb3_2_10 := blk_frozen BK3.out 2; have hzgb3_3_10 : w10.cell? ⟨gb3, 3, none⟩ = some (.bool a0_3) := (blk_cell BK3.out 3).trans rfl; have hygb3_3_10 := blk_frozen BK3.out 3))
  refine bodyPost_ret (fn := Try.f19) (P := Try.prog) (results_cell_row rfl _ _ gb2 25 #[.slice A4_0 r1_0.length c4_0, .slice A6_0 r2_0.length c6_0, .int .i64 a0_2, .bool a0_3] (0, 0) _ rfl BK2.out Try.underlying25 rfl (by kernel_rfl)) rfl ?_
  exact ⟨_, _, lo6, rfl, (by have o_ := HORD.out; (try unfold In at *); (try show _ ≠ _); omega), (by have o_ := HORD.out; have t_ := HT.out; omega), Kd.S_mono (Kd.S_lower HS4_0.out (by have o_ := HORD.out; (try unfold In at *); (try show _ ≠ _); omega)) (fun k_ h_ => by have o_ := HORD.out; have t_ := HT.out; unfold In at *; omega), Kd.S_mono (Kd.S_lower HS6_0.out (Nat.le_refl _)) (fun k_ h_ => by have o_ := HORD.out; have t_ := HT.out; unfold In at *; omega), HB.out⟩
theorem laws_toDev.calls (k : Nat) (A0_0 : Option Addr) (c0_0 : Nat) (l0_0 : List (List Int)) (A0_1 : Option Addr) (c0_1 : Nat) (l0_1 : List (S81)) (a0_2 : Int) (a0_3 : Bool) (r1 : List (List Int)) (r2 : List (S50)) (r3 : Int) (r4 : Bool) (w : World) (hr0_0 : Kd.C (Kd.slice 5 (Kd.int .u8)) w A0_0 l0_0.length l0_0) (hc0_0 : l0_0.length ≤ c0_0) (hr0_1 : Kd.C k81 w A0_1 l0_1.length l0_1) (hc0_1 : l0_1.length ≤ c0_1) (h : laws_toDev.f k l0_0 l0_1 a0_2 a0_3 = some (r1, r2, r3, r4)) :
    Calls Try.prog 19 #[.agg #[.slice A0_0 l0_0.length c0_0, .slice A0_1 l0_1.length c0_1, .int .i64 a0_2, .bool a0_3]] w fun e w' => ∃ v0_ v1_ : Value, ∃ m_ : Nat, e = .returned (.agg #[v0_, v1_, .int .i64 r3, .bool r4]) ∧ w.heap.size ≤ m_ ∧ m_ ≤ w'.heap.size ∧ Kd.S (Kd.slice 5 (Kd.int .u8)) 37 w' w.heap.size (In w.heap.size m_) v0_ r1 ∧ Kd.S k50 50 w' m_ (In m_ w'.heap.size) v1_ r2 ∧ Below w.heap.size w w' := by
  unfold laws_toDev.f at h
  obtain ⟨t1, A1, h⟩ := Option.bind_eq_some_iff.mp h
  obtain ⟨t2, A2, h⟩ := Option.bind_eq_some_iff.mp h
  replace h := Option.some.inj h
  simp only [Prod.mk.injEq] at h
  obtain ⟨rfl, rfl, rfl, rfl⟩ := h
  exact walk_toDev _ _ _ _ _ _ _ _ _ _ _ _ w hr0_0 hc0_0 hr0_1 hc0_1 A1 A2
theorem S_nilown {α : Type} {d : Kd α} {e base : Nat} {W : World} {ok : Nat → Prop} {v : Value} (h : Kd.S d e W base ok v []) : Kd.S d e W base (fun k => some k = v.ownBlock) v [] := by
  obtain ⟨f, h0, inner, ho, hr⟩ := h
  exact ⟨f, fun k hk => hk.symm, inner, ho, hr.1, fun j p hj => by simp at hj⟩
theorem V_of_S {α : Type} {d : Kd α} {e base : Nat} {W : World} {ok : Nat → Prop} {v : Value} {xs : List α} (h : Kd.S d e W base ok v xs) : Kd.V d e W base ok v xs := by
  obtain ⟨A, c, rfl, hl, _⟩ := Kd.S_reads h
  exact ⟨A, c, rfl, hl, Kd.S_F h⟩
theorem V_kept' {α : Type} {d : Kd α} {e base : Nat} {W W1 : World} {ok S : Nat → Prop} {v : Value} {xs : List α} (h : Kd.V d e W base ok v xs) (hk : Kept W W1 S) (hne : ∀ k, ok k → k < W.heap.size → ¬ S k) : Kd.V d e W1 base (fun k => ok k ∧ k < W.heap.size) v xs := by
  obtain ⟨A, c, rfl, hl, hf⟩ := h
  exact ⟨A, c, rfl, hl, Kd.F_kept (Kd.F_bound hf) hk (fun k hk => hne k hk.1 hk.2)⟩
def laws_markDev.f (l0_0 : List (List Int)) (l0_1 : List (S50)) (a1 : Int) : Option (Int × List (List Int) × List (S50)) := (laws_markByteSS.f l0_0 a1).bind fun t => (laws_markWrS.f l0_1 t.1).bind fun u => some (u.1, t.2, u.2)
theorem markDev_f {l : List (List Int)} {m : List (S50)} {a : Int} (ho : okByteSS l) (ho2 : okWrS m) (h0 : 0 ≤ a) (h1 : a ≤ 900000000000) : laws_markDev.f l m a = some (a + (cntByteSS l + cntWrS m), mkByteSS l a, mkWrS m (a + cntByteSS l)) := by
  have hc := cntByteSS_nn ho
  unfold laws_markDev.f
  rw [markByteSS_f ho h0 (by omega)]
  simp only [Option.bind_some]
  rw [markWrS_f ho2 (by omega) (by omega)]
  simp only [Option.bind_some]
  rw [show a + cntByteSS l + cntWrS m = a + (cntByteSS l + cntWrS m) by omega]
set_option maxHeartbeats 4000000 in
set_option maxRecDepth 100000 in
theorem laws_markDev.calls (P0_0_ P0_1_ : Nat → Prop) (u9000_ u9001_ : Value) (l0_0 : List (List Int)) (l0_1 : List (S50)) (a0_2 : Int) (a0_3 : Bool) (a1 : Int) (r1 : Int) (r2 : List (List Int)) (r3 : List (S50)) (w0 w : World) (hB : Below w0.heap.size w0 w) (ho0_0 : Kd.S (Kd.slice 5 (Kd.int .u8)) 37 w w0.heap.size P0_0_ u9000_ l0_0) (ho0_1 : Kd.S k50 50 w w0.heap.size P0_1_ u9001_ l0_1) (hap : (∀ k, P0_0_ k → ¬ P0_1_ k) ∨ l0_1 = []) (h : laws_markDev.f l0_0 l0_1 a1 = some (r1, r2, r3)) :
    Calls Try.prog 15 #[.agg #[u9000_, u9001_, .int .i64 a0_2, .bool a0_3], .int .i64 a1] w fun e w' => e = .returned (.int .i64 r1) ∧ Kd.V (Kd.slice 5 (Kd.int .u8)) 37 w' w0.heap.size (fun k_ => (P0_0_ k_ ∨ P0_1_ k_) ∨ w.heap.size ≤ k_) u9000_ r2 ∧ Kd.V k50 50 w' w0.heap.size (fun k_ => (P0_0_ k_ ∨ P0_1_ k_) ∨ w.heap.size ≤ k_) u9001_ r3 ∧ Below w0.heap.size w0 w' ∧ Kept w w' (fun k_ => P0_0_ k_ ∨ P0_1_ k_) := by
  have hu := Try.underlying25
  unfold laws_markDev.f at h
  obtain ⟨⟨t1, t2⟩, hA, h⟩ := Option.bind_eq_some_iff.mp h
  obtain ⟨⟨s1, s2⟩, hA2, h⟩ := Option.bind_eq_some_iff.mp h
  replace h := Option.some.inj h
  simp only [Prod.mk.injEq] at h hA2
  obtain ⟨rfl, rfl, rfl⟩ := h
  -- the blocks of the first row, by their types; the second's are none of these
  obtain ⟨P, hP⟩ : ∃ P : Nat → Prop, P = fun k => P0_0_ k ∧ k < w.heap.size ∧ ∃ q, q ∈ [37, 5] ∧ ∃ cells, w.heap[k]? = some (.cells cells q (0, 0)) := ⟨_, rfl⟩
  obtain ⟨Q, hQ⟩ : ∃ Q : Nat → Prop, Q = fun k => P0_1_ k ∧ k < w.heap.size ∧ ¬ P k := ⟨_, rfl⟩
  have hS0 : Kd.S (Kd.slice 5 (Kd.int .u8)) 37 w w0.heap.size P u9000_ l0_0 := Kd.S_mono (Kd.S_bound ho0_0) (fun k hk => by rw [hP]; exact ⟨hk.1, hk.2.2.1, hk.2.2.2⟩)
  have hS1 : Kd.S k50 50 w w0.heap.size Q u9001_ l0_1 := by
    rcases hap with hap | hap
    · exact Kd.S_mono (Kd.S_bound ho0_1) (fun k hk => by rw [hQ]; exact ⟨hk.1, hk.2.2.1, fun h2 => by rw [hP] at h2; exact hap k h2.1 hk.1⟩)
    · subst hap
      refine Kd.S_mono (S_nilown ho0_1) (fun k hk => ?_)
      rw [hQ]
      refine ⟨(Kd.S_R ho0_1).1 k hk.symm, Kd.S_lt ho0_1 k hk.symm, fun h2 => ?_⟩
      rw [hP] at h2
      obtain ⟨_, _, q, hq, cells, hc⟩ := h2
      obtain ⟨cells', hc'⟩ := Kd.S_typed ho0_1 k hk.symm
      rw [hc] at hc'
      injection hc' with hc'
      injection hc' with _ hc'
      subst hc'
      simp at hq
  have hPQ : ∀ k, P k → ¬ Q k := fun k h1 h2 => by rw [hQ] at h2; exact h2.2.2 h1
  have hPlt : ∀ k, P k → k < w.heap.size := fun k h1 => by rw [hP] at h1; exact h1.2.1
  have hQlt : ∀ k, Q k → k < w.heap.size := fun k h1 => by rw [hQ] at h1; exact h1.2.1
  have hP0 : ∀ k, P k → P0_0_ k := fun k h1 => by rw [hP] at h1; exact h1.1
  have hQ0 : ∀ k, Q k → P0_1_ k := fun k h1 => by rw [hQ] at h1; exact h1.1
  clear hap ho0_0 ho0_1
  obtain ⟨A, c, rfl⟩ := Kd.S_slice hS0
  obtain ⟨A', c', rfl⟩ := Kd.S_slice hS1
  have HS0 := Aside0.mk hS0
  have HS1 := Aside0.mk hS1
  have HPQ := Aside0.mk hPQ
  have HPL := Aside0.mk hPlt
  have HQL := Aside0.mk hQlt
  have HP0 := Aside0.mk hP0
  have HQ0 := Aside0.mk hQ0
  have HB := Aside0.mk hB
  have H1 := Aside0.mk hA
  have H2 := Aside0.mk hA2
  clear hS0 hS1 hPQ hPlt hQlt hP0 hQ0 hB hA hA2 hP hQ
  go_enter Try.func15, Try.ntmps15
  go_wp2_with (first | ((with_reducible refine gate_dst (N := 2) rfl ?_); refine box_event ?hg (N := 2) ?hd (cs := #[.slice A l0_0.length c, .slice A' l0_1.length c', .int .i64 a0_2, .bool a0_3]) (t := 25) ?hr ?_; (case hd => rfl); (case hg => rfl); (case hr => first | (go_simp; done) | (go_simp; rfl)); intro gb hg_ w1 hbox hb; have HG := Aside0.mk hg_; have BK := Aside0.mk hbox; have HBX := Aside0.mk hb; have hz0 : w1.cell? ⟨gb, 0, none⟩ = some (.slice A l0_0.length c) := (blk_cell BK.out 0).trans rfl; have hz1 : w1.cell? ⟨gb, 1, none⟩ = some (.slice A' l0_1.length c') := (blk_cell BK.out 1).trans rfl; clear hbox hb hg_) | ((with_reducible refine gate_callee (f := 47) rfl ?_); refine goesL_ (some 8) rfl rfl Try.func47 (by kernel_rfl) rfl #[.slice A l0_0.length c, .int .i64 a1] rfl (by (try simp only [List.map_toArray, List.map_cons, List.map_nil]); first | done | rfl) ?_; (with_reducible refine (laws_markByteSS.calls P _ l0_0 a1 t1 t2 w0 w1 ?s1 ?s2 H1.out).mono ?_); (case s1 => exact below_then HB.out HB.out.size HBX.out); (case s2 => exact Kd.S_below HS0.out HBX.out); rintro e w2 ⟨rfl, hs, hb2, hk⟩; refine ⟨_, rfl, ?_⟩; have HV := Aside0.mk (V_of_S hs); have HB2 := Aside0.mk hb2; have HK := Aside0.mk hk; have BK2 := Aside0.mk (blk_kept BK.out hk (fun h2 => by have := HPL.out _ h2; rw [HG.out] at this; omega)); clear hs hb2 hk; have hz2 : w2.cell? ⟨gb, 1, none⟩ = some (.slice A' l0_1.length c') := (blk_cell BK2.out 1).trans rfl) | ((with_reducible refine gate_callee (f := 48) rfl ?_); refine goesL_ (some 12) rfl rfl Try.func48 (by kernel_rfl) rfl #[.slice A' l0_1.length c', .int .i64 t1] rfl (by (try simp only [List.map_toArray, List.map_cons, List.map_nil]); first | done | rfl) ?_; (with_reducible refine (laws_markWrS.calls Q _ l0_1 t1 s1 s2 w0 w2 ?z1 ?z2 H2.out).mono ?_); (case z1 => exact HB2.out); (case z2 => exact Kd.S_kept (Kd.S_below HS1.out HBX.out) HK.out (fun k h1 h2 => HPQ.out k h2 h1)); rintro e w3 ⟨rfl, hs, hb3, hk⟩; refine ⟨_, rfl, ?_⟩; have HV3 := Aside0.mk (V_of_S hs); have HB3 := Aside0.mk hb3; have HK3 := Aside0.mk hk; clear hs hb3 hk))
  go_ret
  have hz := HBX.out.size
  have hk2 := HK.out.1
  obtain ⟨A3, c3, e3, l3, f3⟩ := V_kept' HV.out HK3.out (fun k h1 hlt h2 => by
    rcases h1 with h1 | h1
    · exact HPQ.out k h1 h2
    · have := HQL.out k h2; omega)
  obtain ⟨A4, c4, e4, l4, f4⟩ := HV3.out
  refine ⟨rfl, ⟨A3, c3, e3, l3, Kd.F_mono f3 (fun k hk => hk.1.elim (fun h => .inl (.inl (HP0.out k h))) (fun h => .inr (Nat.le_trans hz h)))⟩, ⟨A4, c4, e4, l4, Kd.F_mono f4 (fun k hk => hk.elim (fun h => .inl (.inr (HQ0.out k h))) (fun h => .inr (by omega)))⟩, HB3.out, ?_⟩
  exact ((Kept.of_below HBX.out _).then_ HK.out (fun k hk => .inl (.inl (HP0.out k hk)))).then_ HK3.out (fun k hk => .inl (.inr (HQ0.out k hk)))

set_option maxHeartbeats 8000000 in
set_option maxRecDepth 100000 in
theorem walkFnExactReadSecbig (A0_0 : Option Addr) (c0_0 : Nat) (l0_0 : List (List (Int))) (A0_1 : Option Addr) (c0_1 : Nat) (l0_1 : List (S81)) (a0_2 : Int) (a0_3 : Bool) (a1 : Int) (k1 : Nat) (r1_0 : Int) (w : World) (hr0_0 : Kd.C (Kd.slice 5 (Kd.int .u8)) w A0_0 l0_0.length l0_0) (hc0_0 : l0_0.length ≤ c0_0) (hr0_1 : Kd.C k81 w A0_1 l0_1.length l0_1) (hc0_1 : l0_1.length ≤ c0_1) (A1x : laws_szDev.f k1 l0_0 l0_1 a0_2 a0_3 1048576 = some r1_0) (pr1_0 : r1_0 < 0) :
    Calls Try.prog 5 #[.agg #[.slice A0_0 l0_0.length c0_0, .slice A0_1 l0_1.length c0_1, .int .i64 a0_2, .bool a0_3], .int .i64 a1] w fun e w' => e = .returned (.bool true) ∧ Below w.heap.size w w' := by
  have hu32 := Try.underlying32
  have HR0_0 := Aside0.mk hr0_0
  have HC0_0 := Aside0.mk hc0_0
  clear hr0_0 hc0_0
  have HR0_1 := Aside0.mk hr0_1
  have HC0_1 := Aside0.mk hc0_1
  clear hr0_1 hc0_1
  have A1 := Aside0.mk A1x
  clear A1x
  have dr1_0 : decide (r1_0 < 0) = true := by simp; omega
  clear pr1_0
  have HB := Aside0.mk (Below.refl w.heap.size w)
  have HORD := Aside0.mk (Nat.le_refl w.heap.size)
  have HT := Aside0.mk (Nat.le_refl w.heap.size)
  go_enter Try.func5, Try.ntmps5
  go_wp2_with (first | ((with_reducible refine gate_dst (N := 2) rfl ?_); refine box_event ?hg (N := 2) ?hd (cs := #[.slice A0_0 l0_0.length c0_0, .slice A0_1 l0_1.length c0_1, .int .i64 a0_2, .bool a0_3]) (t := 32) ?hr ?_; (case hd => rfl); (case hg => rfl); (case hr => first | (go_simp; done) | (go_simp; rfl)); intro gb1 hg_ w1 hbox hb; have hge_ : w.heap.size ≤ gb1 := (by rw [hg_]; exact HT.out); have hlt_ : gb1 + 1 ≤ w1.heap.size := blk_lt hbox; have n0_ := Aside0.mk (below_step HB.out hb); have n1_ := Aside0.mk (hbox); have n2_ := Aside0.mk (And.intro HORD.out (And.intro hge_ (Nat.le_succ gb1))); have n3_ := Aside0.mk (hlt_); (try clear HB); (try clear BK1); (try clear HORD); (try clear HT); have HB := n0_; have BK1 := n1_; have HORD := n2_; have HT := n3_; clear n0_ n1_ n2_ n3_; clear hb hbox hg_ hge_ hlt_; have hzgb1_0_1 : w1.cell? ⟨gb1, 0, none⟩ = some (.slice A0_0 l0_0.length c0_0) := (blk_cell BK1.out 0).trans rfl; have hygb1_0_1 := blk_frozen BK1.out 0; have hzgb1_1_1 : w1.cell? ⟨gb1, 1, none⟩ = some (.slice A0_1 l0_1.length c0_1) := (blk_cell BK1.out 1).trans rfl; have hygb1_1_1 := blk_frozen BK1.out 1; have hzgb1_2_1 : w1.cell? ⟨gb1, 2, none⟩ = some (.int .i64 a0_2) := (blk_cell BK1.out 2).trans rfl; have hygb1_2_1 := blk_frozen BK1.out 2; have hzgb1_3_1 : w1.cell? ⟨gb1, 3, none⟩ = some (.bool a0_3) := (blk_cell BK1.out 3).trans rfl; have hygb1_3_1 := blk_frozen BK1.out 3) | ((with_reducible refine gate_callee (f := 17) rfl ?_); refine goesL_ (some 15) rfl rfl Try.func17 (by kernel_rfl) rfl #[.agg #[.slice A0_0 l0_0.length c0_0, .slice A0_1 l0_1.length c0_1, .int .i64 a0_2, .bool a0_3], .int .i64 1048576] rfl (by (try simp only [List.map_toArray, List.map_cons, List.map_nil]); first | done | rfl | (simp only [List.length_drop, List.length_take]; rfl)) ?_; (with_reducible refine (laws_szDev.calls k1 _ _ l0_0 _ _ l0_1 a0_2 a0_3 1048576 r1_0 _ ?s1 ?s2 ?s3 ?s4 A1.out).mono ?_); (case s1 => exact (Kd.C_below HR0_0.out HB.out)); (case s2 => exact HC0_0.out); (case s3 => exact (Kd.C_below HR0_1.out HB.out)); (case s4 => exact HC0_1.out); rintro e_ w2 ⟨rfl, hb⟩; refine ⟨_, rfl, ?_⟩; have n0_ := Aside0.mk (blk_below BK1.out hb); have n1_ := Aside0.mk (below_step HB.out hb); have n2_ := Aside0.mk (Nat.le_trans HT.out hb.size); (try clear BK1); (try clear HB); (try clear HT); have BK1 := n0_; have HB := n1_; have HT := n2_; clear n0_ n1_ n2_; (try clear hb); have hzgb1_0_2 : w2.cell? ⟨gb1, 0, none⟩ = some (.slice A0_0 l0_0.length c0_0) := (blk_cell BK1.out 0).trans rfl; have hygb1_0_2 := blk_frozen BK1.out 0; have hzgb1_1_2 : w2.cell? ⟨gb1, 1, none⟩ = some (.slice A0_1 l0_1.length c0_1) := (blk_cell BK1.out 1).trans rfl; have hygb1_1_2 := blk_frozen BK1.out 1; have hzgb1_2_2 : w2.cell? ⟨gb1, 2, none⟩ = some (.int .i64 a0_2) := (blk_cell BK1.out 2).trans rfl; have hygb1_2_2 := blk_frozen BK1.out 2; have hzgb1_3_2 : w2.cell? ⟨gb1, 3, none⟩ = some (.bool a0_3) := (blk_cell BK1.out 3).trans rfl; have hygb1_3_2 := blk_frozen BK1.out 3))
  have hres_ := @results_tmp Try.f5 4 (by kernel_rfl)
  refine bodyPost_ret (fn := Try.f5) (P := Try.prog) (hres_ _ _ _) rfl ?_
  exact ⟨rfl, HB.out⟩
set_option maxHeartbeats 8000000 in
set_option maxRecDepth 100000 in
theorem walkFnExactReadSec (A0_0 : Option Addr) (c0_0 : Nat) (l0_0 : List (List (Int))) (A0_1 : Option Addr) (c0_1 : Nat) (l0_1 : List (S81)) (a0_2 : Int) (a0_3 : Bool) (a1 : Int) (k1 : Nat) (k2 : Nat) (k3 : Nat) (k4 : Nat) (k5 : Nat) (k6 : Nat) (k8 : Nat) (k9 : Nat) (r1_0 : Int) (r2_1 : List (List Int)) (r2_2 : List (S50)) (r2_3 : Int) (r2_4 : Bool) (r3_0 : List Int) (r4_0 : List Int) (r7_1 : Int) (r7_2 : List (List Int)) (r7_3 : List (S50)) (r8_1 : Int) (r8_2 : List Int) (w : World) (hr0_0 : Kd.C (Kd.slice 5 (Kd.int .u8)) w A0_0 l0_0.length l0_0) (hc0_0 : l0_0.length ≤ c0_0) (hr0_1 : Kd.C k81 w A0_1 l0_1.length l0_1) (hc0_1 : l0_1.length ≤ c0_1) (A1x : laws_szDev.f k1 l0_0 l0_1 a0_2 a0_3 1048576 = some r1_0) (A2x : laws_toDev.f k2 l0_0 l0_1 a0_2 a0_3 = some (r2_1, r2_2, r2_3, r2_4)) (A3x : spec_ReadSec.f k3 r2_1 r2_2 r2_3 r2_4 a1 = some r3_0) (A4x : impl_ReadSec.f k4 r2_1 r2_2 r2_3 r2_4 a1 = some r4_0) (A5x : laws_eqByteS.f k5 r4_0 r3_0 = some true) (A6x : laws_eqDev.f k6 r2_1 r2_2 r2_3 r2_4 r2_1 r2_2 r2_3 r2_4 = some true) (A7x : laws_markDev.f r2_1 r2_2 1 = some (r7_1, r7_2, r7_3)) (A8x : laws_markByteS.f k8 r4_0 1 = some (r8_1, r8_2)) (A9x : laws_heldByteS.f k9 r8_2 1 = some r8_1) (pr1_0 : 0 ≤ r1_0) (pr7_1 : 0 ≤ r7_1) (pr8_1 : 0 ≤ r8_1) :
    Calls Try.prog 5 #[.agg #[.slice A0_0 l0_0.length c0_0, .slice A0_1 l0_1.length c0_1, .int .i64 a0_2, .bool a0_3], .int .i64 a1] w fun e w' => e = .returned (.bool true) ∧ Below w.heap.size w w' := by
  have hu25 := Try.underlying25
  have hu32 := Try.underlying32
  have HR0_0 := Aside0.mk hr0_0
  have HC0_0 := Aside0.mk hc0_0
  clear hr0_0 hc0_0
  have HR0_1 := Aside0.mk hr0_1
  have HC0_1 := Aside0.mk hc0_1
  clear hr0_1 hc0_1
  have A1 := Aside0.mk A1x
  clear A1x
  have A2 := Aside0.mk A2x
  clear A2x
  have A3 := Aside0.mk A3x
  clear A3x
  have A4 := Aside0.mk A4x
  clear A4x
  have A5 := Aside0.mk A5x
  clear A5x
  have A6 := Aside0.mk A6x
  clear A6x
  have A7 := Aside0.mk A7x
  clear A7x
  have A8 := Aside0.mk A8x
  clear A8x
  have A9 := Aside0.mk A9x
  clear A9x
  have dr1_0 : decide (r1_0 < 0) = false := by simp; omega
  clear pr1_0
  have dr7_1 : decide (r7_1 < 0) = false := by simp; omega
  clear pr7_1
  have dr8_1 : decide (r8_1 < 0) = false := by simp; omega
  clear pr8_1
  have HB := Aside0.mk (Below.refl w.heap.size w)
  have HORD := Aside0.mk (Nat.le_refl w.heap.size)
  have HT := Aside0.mk (Nat.le_refl w.heap.size)
  go_enter Try.func5, Try.ntmps5
  go_wp2_with (first | ((with_reducible refine gate_dst (N := 2) rfl ?_); refine box_event ?hg (N := 2) ?hd (cs := #[.slice A0_0 l0_0.length c0_0, .slice A0_1 l0_1.length c0_1, .int .i64 a0_2, .bool a0_3]) (t := 32) ?hr ?_; (case hd => rfl); (case hg => rfl); (case hr => first | (go_simp; done) | (go_simp; rfl)); intro gb1 hg_ w1 hbox hb; have hge_ : w.heap.size ≤ gb1 := (by rw [hg_]; exact HT.out); have hlt_ : gb1 + 1 ≤ w1.heap.size := blk_lt hbox; have n0_ := Aside0.mk (below_step HB.out hb); have n1_ := Aside0.mk (hbox); have n2_ := Aside0.mk (And.intro HORD.out (And.intro hge_ (Nat.le_succ gb1))); have n3_ := Aside0.mk (hlt_); (try clear HB); (try clear BK1); (try clear HORD); (try clear HT); have HB := n0_; have BK1 := n1_; have HORD := n2_; have HT := n3_; clear n0_ n1_ n2_ n3_; clear hb hbox hg_ hge_ hlt_; have hzgb1_0_1 : w1.cell? ⟨gb1, 0, none⟩ = some (.slice A0_0 l0_0.length c0_0) := (blk_cell BK1.out 0).trans rfl; have hygb1_0_1 := blk_frozen BK1.out 0; have hzgb1_1_1 : w1.cell? ⟨gb1, 1, none⟩ = some (.slice A0_1 l0_1.length c0_1) := (blk_cell BK1.out 1).trans rfl; have hygb1_1_1 := blk_frozen BK1.out 1; have hzgb1_2_1 : w1.cell? ⟨gb1, 2, none⟩ = some (.int .i64 a0_2) := (blk_cell BK1.out 2).trans rfl; have hygb1_2_1 := blk_frozen BK1.out 2; have hzgb1_3_1 : w1.cell? ⟨gb1, 3, none⟩ = some (.bool a0_3) := (blk_cell BK1.out 3).trans rfl; have hygb1_3_1 := blk_frozen BK1.out 3) | ((with_reducible refine gate_callee (f := 17) rfl ?_); refine goesL_ (some 15) rfl rfl Try.func17 (by kernel_rfl) rfl #[.agg #[.slice A0_0 l0_0.length c0_0, .slice A0_1 l0_1.length c0_1, .int .i64 a0_2, .bool a0_3], .int .i64 1048576] rfl (by (try simp only [List.map_toArray, List.map_cons, List.map_nil]); first | done | rfl | (simp only [List.length_drop, List.length_take]; rfl)) ?_; (with_reducible refine (laws_szDev.calls k1 _ _ l0_0 _ _ l0_1 a0_2 a0_3 1048576 r1_0 _ ?s1 ?s2 ?s3 ?s4 A1.out).mono ?_); (case s1 => exact (Kd.C_below HR0_0.out HB.out)); (case s2 => exact HC0_0.out); (case s3 => exact (Kd.C_below HR0_1.out HB.out)); (case s4 => exact HC0_1.out); rintro e_ w2 ⟨rfl, hb⟩; refine ⟨_, rfl, ?_⟩; have n0_ := Aside0.mk (blk_below BK1.out hb); have n1_ := Aside0.mk (below_step HB.out hb); have n2_ := Aside0.mk (Nat.le_trans HT.out hb.size); (try clear BK1); (try clear HB); (try clear HT); have BK1 := n0_; have HB := n1_; have HT := n2_; clear n0_ n1_ n2_; (try clear hb); have hzgb1_0_2 : w2.cell? ⟨gb1, 0, none⟩ = some (.slice A0_0 l0_0.length c0_0) := (blk_cell BK1.out 0).trans rfl; have hygb1_0_2 := blk_frozen BK1.out 0; have hzgb1_1_2 : w2.cell? ⟨gb1, 1, none⟩ = some (.slice A0_1 l0_1.length c0_1) := (blk_cell BK1.out 1).trans rfl; have hygb1_1_2 := blk_frozen BK1.out 1; have hzgb1_2_2 : w2.cell? ⟨gb1, 2, none⟩ = some (.int .i64 a0_2) := (blk_cell BK1.out 2).trans rfl; have hygb1_2_2 := blk_frozen BK1.out 2; have hzgb1_3_2 : w2.cell? ⟨gb1, 3, none⟩ = some (.bool a0_3) := (blk_cell BK1.out 3).trans rfl; have hygb1_3_2 := blk_frozen BK1.out 3) | ((with_reducible refine gate_callee (f := 19) rfl ?_); refine goesL_ (some 19) rfl rfl Try.func19 (by kernel_rfl) rfl #[.agg #[.slice A0_0 l0_0.length c0_0, .slice A0_1 l0_1.length c0_1, .int .i64 a0_2, .bool a0_3]] rfl (by (try simp only [List.map_toArray, List.map_cons, List.map_nil]); first | done | rfl | (simp only [List.length_drop, List.length_take]; rfl)) ?_; (with_reducible refine (laws_toDev.calls k2 _ _ l0_0 _ _ l0_1 a0_2 a0_3 r2_1 r2_2 r2_3 r2_4 _ ?s1 ?s2 ?s3 ?s4 A2.out).mono ?_); (case s1 => exact (Kd.C_below HR0_0.out HB.out)); (case s2 => exact HC0_0.out); (case s3 => exact (Kd.C_below HR0_1.out HB.out)); (case s4 => exact HC0_1.out); rintro e_ w3 ⟨v0_, v1_, mm3, rfl, hm1_, hm2_, ho0, ho1, hb⟩; refine ⟨_, rfl, ?_⟩; obtain ⟨lo3, hi3, el_, eh_, ol_, oh_⟩ := Mem.times HT.out hb; rw [← el_] at hm1_; rw [← eh_] at hm2_; rw [← el_] at ho0; obtain ⟨A3_0, c3_0, ev_, hc0_, hf0_, hs0_⟩ := Mem.new_SI ho0; subst ev_; rw [← eh_] at ho1; obtain ⟨A3_1, c3_1, ev_, hc1_, hf1_, hs1_⟩ := Mem.new_SI ho1; subst ev_; have n0_ := Aside0.mk (blk_below BK1.out hb); have n1_ := Aside0.mk (below_step HB.out hb); have n2_ := Aside0.mk (hf0_); have n3_ := Aside0.mk (hc0_); have n4_ := Aside0.mk (hs0_); have n5_ := Aside0.mk (hf1_); have n6_ := Aside0.mk (hc1_); have n7_ := Aside0.mk (hs1_); have n8_ := Aside0.mk (And.intro HORD.out (And.intro ol_ (And.intro hm1_ hm2_))); have n9_ := Aside0.mk (Nat.le_of_eq eh_); (try clear BK1); (try clear HB); (try clear HF3_0); (try clear HC3_0); (try clear HS3_0); (try clear HF3_1); (try clear HC3_1); (try clear HS3_1); (try clear HORD); (try clear HT); have BK1 := n0_; have HB := n1_; have HF3_0 := n2_; have HC3_0 := n3_; have HS3_0 := n4_; have HF3_1 := n5_; have HC3_1 := n6_; have HS3_1 := n7_; have HORD := n8_; have HT := n9_; clear n0_ n1_ n2_ n3_ n4_ n5_ n6_ n7_ n8_ n9_; clear hm1_ hm2_; clear ol_ oh_ el_ eh_ ho0 hf0_ hc0_ hs0_ ho1 hf1_ hc1_ hs1_; (try clear hb); have hzgb1_0_3 : w3.cell? ⟨gb1, 0, none⟩ = some (.slice A0_0 l0_0.length c0_0) := (blk_cell BK1.out 0).trans rfl; have hygb1_0_3 := blk_frozen BK1.out 0; have hzgb1_1_3 : w3.cell? ⟨gb1, 1, none⟩ = some (.slice A0_1 l0_1.length c0_1) := (blk_cell BK1.out 1).trans rfl; have hygb1_1_3 := blk_frozen BK1.out 1; have hzgb1_2_3 : w3.cell? ⟨gb1, 2, none⟩ = some (.int .i64 a0_2) := (blk_cell BK1.out 2).trans rfl; have hygb1_2_3 := blk_frozen BK1.out 2; have hzgb1_3_3 : w3.cell? ⟨gb1, 3, none⟩ = some (.bool a0_3) := (blk_cell BK1.out 3).trans rfl; have hygb1_3_3 := blk_frozen BK1.out 3) | ((with_reducible refine gate_callee (f := 21) rfl ?_); refine goesL_ (some 21) rfl rfl Try.func21 (by kernel_rfl) rfl #[.agg #[.slice A3_0 r2_1.length c3_0, .slice A3_1 r2_2.length c3_1, .int .i64 r2_3, .bool r2_4], .int .i64 a1] rfl (by (try simp only [List.map_toArray, List.map_cons, List.map_nil]); first | done | rfl | (simp only [List.length_drop, List.length_take]; rfl)) ?_; (with_reducible refine (spec_ReadSec.calls k3 (In lo3 mm3) _ _ r2_1 (In mm3 hi3) _ _ r2_2 r2_3 r2_4 a1 r3_0 _ ?s1 ?s2 A3.out).mono ?_); (case s1 => exact ⟨_, _, rfl, HC3_0.out, HF3_0.out⟩); (case s2 => exact ⟨_, _, rfl, HC3_1.out, HF3_1.out⟩); rintro e_ w4 ⟨v0_, rfl, ho0, hb⟩; refine ⟨_, rfl, ?_⟩; obtain ⟨lo4, hi4, el_, eh_, ol_, oh_⟩ := Mem.times HT.out hb; (try rw [← el_] at ho0); obtain ⟨A4_0, c4_0, ev_, hc0_, hf0_, hs0_⟩ := Mem.new_R ho0 eh_; subst ev_; have n0_ := Aside0.mk (blk_below BK1.out hb); have n1_ := Aside0.mk (below_step HB.out hb); have n2_ := Aside0.mk (hf0_); have n3_ := Aside0.mk (hc0_); have n4_ := Aside0.mk (hs0_); have n5_ := Aside0.mk (And.intro HORD.out (And.intro ol_ oh_)); have n6_ := Aside0.mk (Nat.le_of_eq eh_); (try clear HF3_0); (try clear HS3_0); (try clear HC3_0); (try clear HF3_1); (try clear HS3_1); (try clear HC3_1); (try clear BK1); (try clear HB); (try clear HF4_0); (try clear HC4_0); (try clear HS4_0); (try clear HORD); (try clear HT); have BK1 := n0_; have HB := n1_; have HF4_0 := n2_; have HC4_0 := n3_; have HS4_0 := n4_; have HORD := n5_; have HT := n6_; clear n0_ n1_ n2_ n3_ n4_ n5_ n6_; clear ol_ oh_ el_ eh_ ho0 hf0_ hc0_ hs0_; (try clear hb); have hzgb1_0_4 : w4.cell? ⟨gb1, 0, none⟩ = some (.slice A0_0 l0_0.length c0_0) := (blk_cell BK1.out 0).trans rfl; have hygb1_0_4 := blk_frozen BK1.out 0; have hzgb1_1_4 : w4.cell? ⟨gb1, 1, none⟩ = some (.slice A0_1 l0_1.length c0_1) := (blk_cell BK1.out 1).trans rfl; have hygb1_1_4 := blk_frozen BK1.out 1; have hzgb1_2_4 : w4.cell? ⟨gb1, 2, none⟩ = some (.int .i64 a0_2) := (blk_cell BK1.out 2).trans rfl; have hygb1_2_4 := blk_frozen BK1.out 2; have hzgb1_3_4 : w4.cell? ⟨gb1, 3, none⟩ = some (.bool a0_3) := (blk_cell BK1.out 3).trans rfl; have hygb1_3_4 := blk_frozen BK1.out 3) | ((with_reducible refine gate_callee (f := 19) rfl ?_); refine goesL_ (some 23) rfl rfl Try.func19 (by kernel_rfl) rfl #[.agg #[.slice A0_0 l0_0.length c0_0, .slice A0_1 l0_1.length c0_1, .int .i64 a0_2, .bool a0_3]] rfl (by (try simp only [List.map_toArray, List.map_cons, List.map_nil]); first | done | rfl | (simp only [List.length_drop, List.length_take]; rfl)) ?_; (with_reducible refine (laws_toDev.calls k2 _ _ l0_0 _ _ l0_1 a0_2 a0_3 r2_1 r2_2 r2_3 r2_4 _ ?s1 ?s2 ?s3 ?s4 A2.out).mono ?_); (case s1 => exact (Kd.C_below HR0_0.out HB.out)); (case s2 => exact HC0_0.out); (case s3 => exact (Kd.C_below HR0_1.out HB.out)); (case s4 => exact HC0_1.out); rintro e_ w5 ⟨v0_, v1_, mm5, rfl, hm1_, hm2_, ho0, ho1, hb⟩; refine ⟨_, rfl, ?_⟩; obtain ⟨lo5, hi5, el_, eh_, ol_, oh_⟩ := Mem.times HT.out hb; rw [← el_] at hm1_; rw [← eh_] at hm2_; rw [← el_] at ho0; obtain ⟨A5_0, c5_0, ev_, hc0_, hf0_, hs0_⟩ := Mem.new_SI ho0; subst ev_; rw [← eh_] at ho1; obtain ⟨A5_1, c5_1, ev_, hc1_, hf1_, hs1_⟩ := Mem.new_SI ho1; subst ev_; have n0_ := Aside0.mk (Kd.F_below HF4_0.out hb); have n1_ := Aside0.mk (Kd.R_below HS4_0.out hb); have n2_ := Aside0.mk (blk_below BK1.out hb); have n3_ := Aside0.mk (below_step HB.out hb); have n4_ := Aside0.mk (hf0_); have n5_ := Aside0.mk (hc0_); have n6_ := Aside0.mk (hs0_); have n7_ := Aside0.mk (hf1_); have n8_ := Aside0.mk (hc1_); have n9_ := Aside0.mk (hs1_); have n10_ := Aside0.mk (And.intro HORD.out (And.intro ol_ (And.intro hm1_ hm2_))); have n11_ := Aside0.mk (Nat.le_of_eq eh_); (try clear HF4_0); (try clear HS4_0); (try clear BK1); (try clear HB); (try clear HF5_0); (try clear HC5_0); (try clear HS5_0); (try clear HF5_1); (try clear HC5_1); (try clear HS5_1); (try clear HORD); (try clear HT); have HF4_0 := n0_; have HS4_0 := n1_; have BK1 := n2_; have HB := n3_; have HF5_0 := n4_; have HC5_0 := n5_; have HS5_0 := n6_; have HF5_1 := n7_; have HC5_1 := n8_; have HS5_1 := n9_; have HORD := n10_; have HT := n11_; clear n0_ n1_ n2_ n3_ n4_ n5_ n6_ n7_ n8_ n9_ n10_ n11_; clear hm1_ hm2_; clear ol_ oh_ el_ eh_ ho0 hf0_ hc0_ hs0_ ho1 hf1_ hc1_ hs1_; (try clear hb); have hzgb1_0_5 : w5.cell? ⟨gb1, 0, none⟩ = some (.slice A0_0 l0_0.length c0_0) := (blk_cell BK1.out 0).trans rfl; have hygb1_0_5 := blk_frozen BK1.out 0; have hzgb1_1_5 : w5.cell? ⟨gb1, 1, none⟩ = some (.slice A0_1 l0_1.length c0_1) := (blk_cell BK1.out 1).trans rfl; have hygb1_1_5 := blk_frozen BK1.out 1; have hzgb1_2_5 : w5.cell? ⟨gb1, 2, none⟩ = some (.int .i64 a0_2) := (blk_cell BK1.out 2).trans rfl; have hygb1_2_5 := blk_frozen BK1.out 2; have hzgb1_3_5 : w5.cell? ⟨gb1, 3, none⟩ = some (.bool a0_3) := (blk_cell BK1.out 3).trans rfl; have hygb1_3_5 := blk_frozen BK1.out 3) | ((with_reducible refine gate_dst (N := 7) rfl ?_); refine box_event ?hg (N := 7) ?hd (cs := #[.slice none 0 0, .slice none 0 0, .int .i64 0, .bool false]) (t := 25) ?hr ?_; (case hd => rfl); (case hg => rfl); (case hr => first | (go_simp; done) | (go_simp; rfl)); intro gb6 hg_ w6 hbox hb; have hge_ : hi5 ≤ gb6 := (by rw [hg_]; exact HT.out); have hlt_ : gb6 + 1 ≤ w6.heap.size := blk_lt hbox; have n0_ := Aside0.mk (Kd.F_below HF4_0.out hb); have n1_ := Aside0.mk (Kd.R_below HS4_0.out hb); have n2_ := Aside0.mk (Kd.F_below HF5_0.out hb); have n3_ := Aside0.mk (Kd.S_below HS5_0.out hb); have n4_ := Aside0.mk (Kd.F_below HF5_1.out hb); have n5_ := Aside0.mk (Kd.S_below HS5_1.out hb); have n6_ := Aside0.mk (blk_below BK1.out hb); have n7_ := Aside0.mk (below_step HB.out hb); have n8_ := Aside0.mk (hbox); have n9_ := Aside0.mk (And.intro HORD.out (And.intro hge_ (Nat.le_succ gb6))); have n10_ := Aside0.mk (hlt_); (try clear HF4_0); (try clear HS4_0); (try clear HF5_0); (try clear HS5_0); (try clear HF5_1); (try clear HS5_1); (try clear BK1); (try clear HB); (try clear BK6); (try clear HORD); (try clear HT); have HF4_0 := n0_; have HS4_0 := n1_; have HF5_0 := n2_; have HS5_0 := n3_; have HF5_1 := n4_; have HS5_1 := n5_; have BK1 := n6_; have HB := n7_; have BK6 := n8_; have HORD := n9_; have HT := n10_; clear n0_ n1_ n2_ n3_ n4_ n5_ n6_ n7_ n8_ n9_ n10_; clear hb hbox hg_ hge_ hlt_; have hzgb1_0_6 : w6.cell? ⟨gb1, 0, none⟩ = some (.slice A0_0 l0_0.length c0_0) := (blk_cell BK1.out 0).trans rfl; have hygb1_0_6 := blk_frozen BK1.out 0; have hzgb1_1_6 : w6.cell? ⟨gb1, 1, none⟩ = some (.slice A0_1 l0_1.length c0_1) := (blk_cell BK1.out 1).trans rfl; have hygb1_1_6 := blk_frozen BK1.out 1; have hzgb1_2_6 : w6.cell? ⟨gb1, 2, none⟩ = some (.int .i64 a0_2) := (blk_cell BK1.out 2).trans rfl; have hygb1_2_6 := blk_frozen BK1.out 2; have hzgb1_3_6 : w6.cell? ⟨gb1, 3, none⟩ = some (.bool a0_3) := (blk_cell BK1.out 3).trans rfl; have hygb1_3_6 := blk_frozen BK1.out 3; have hzgb6_0_6 : w6.cell? ⟨gb6, 0, none⟩ = some (.slice none 0 0) := (blk_cell BK6.out 0).trans rfl; have hygb6_0_6 := blk_frozen BK6.out 0; have hzgb6_1_6 : w6.cell? ⟨gb6, 1, none⟩ = some (.slice none 0 0) := (blk_cell BK6.out 1).trans rfl; have hygb6_1_6 := blk_frozen BK6.out 1; have hzgb6_2_6 : w6.cell? ⟨gb6, 2, none⟩ = some (.int .i64 0) := (blk_cell BK6.out 2).trans rfl; have hygb6_2_6 := blk_frozen BK6.out 2; have hzgb6_3_6 : w6.cell? ⟨gb6, 3, none⟩ = some (.bool false) := (blk_cell BK6.out 3).trans rfl; have hygb6_3_6 := blk_frozen BK6.out 3) | ((with_reducible refine gate_store (t := 25) (p := 7) rfl ?_); refine store_event (t := 25) (p := 7) (v := ?vo_w7) (w1 := ((((w6.setCell ⟨gb6, 0, none⟩ (.slice A5_0 r2_1.length c5_0)).setCell ⟨gb6, 1, none⟩ (.slice A5_1 r2_2.length c5_1)).setCell ⟨gb6, 2, none⟩ (.int .i64 r2_3)).setCell ⟨gb6, 3, none⟩ (.bool r2_4))) ?hg ?ho ?hn ?hr ?_; (case ho => rfl); (case hg => rfl); (case hn => rfl); (case hr => first | (go_simp; done) | (go_simp; rfl)); intro w7 hw_; have hkp : Kept w6 w7 (fun k_ => k_ = gb6) := (by rw [hw_]; exact Kept.setCell (Kept.setCell (Kept.setCell (Kept.setCell (Kept.refl w6 (fun k_ => k_ = gb6)) (.inl rfl) (.slice A5_0 r2_1.length c5_0)) (.inl rfl) (.slice A5_1 r2_2.length c5_1)) (.inl rfl) (.int .i64 r2_3)) (.inl rfl) (.bool r2_4)); have hge_ : w.heap.size ≤ gb6 := (by have o_ := HORD.out; (try unfold In at *); (try show _ ≠ _); omega); have hbn_ : Below w.heap.size w w7 := (by rw [hw_]; exact below_set (below_set (below_set (below_set (HB.out) hge_) hge_) hge_) hge_); have hbk_ : w7.heap[gb6]? = some (.cells #[.slice A5_0 r2_1.length c5_0, .slice A5_1 r2_2.length c5_1, .int .i64 r2_3, .bool r2_4] 25 (0, 0)) := (by rw [hw_]; exact blk_put (cs := #[.slice A5_0 r2_1.length c5_0, .slice A5_1 r2_2.length c5_1, .int .i64 r2_3, .bool false]) (cs' := #[.slice A5_0 r2_1.length c5_0, .slice A5_1 r2_2.length c5_1, .int .i64 r2_3, .bool r2_4]) (blk_put (cs := #[.slice A5_0 r2_1.length c5_0, .slice A5_1 r2_2.length c5_1, .int .i64 0, .bool false]) (cs' := #[.slice A5_0 r2_1.length c5_0, .slice A5_1 r2_2.length c5_1, .int .i64 r2_3, .bool false]) (blk_put (cs := #[.slice A5_0 r2_1.length c5_0, .slice none 0 0, .int .i64 0, .bool false]) (cs' := #[.slice A5_0 r2_1.length c5_0, .slice A5_1 r2_2.length c5_1, .int .i64 0, .bool false]) (blk_put (cs := #[.slice none 0 0, .slice none 0 0, .int .i64 0, .bool false]) (cs' := #[.slice A5_0 r2_1.length c5_0, .slice none 0 0, .int .i64 0, .bool false]) (BK6.out) 0 _ rfl) 1 _ rfl) 2 _ rfl) 3 _ rfl); have hsz_ : (gb6 + 1) ≤ w7.heap.size := Nat.le_trans HT.out hkp.1; have n0_ := Aside0.mk (Kd.F_kept HF4_0.out hkp (fun k_ h1_ h2_ => by have o_ := HORD.out; unfold In at h1_; omega)); have n1_ := Aside0.mk (Kd.R_kept HS4_0.out hkp (fun k_ h1_ h2_ => by have o_ := HORD.out; unfold In at h1_; omega)); have n2_ := Aside0.mk (Kd.F_kept HF5_0.out hkp (fun k_ h1_ h2_ => by have o_ := HORD.out; unfold In at h1_; omega)); have n3_ := Aside0.mk (Kd.S_kept HS5_0.out hkp (fun k_ h1_ h2_ => by have o_ := HORD.out; unfold In at h1_; omega)); have n4_ := Aside0.mk (Kd.F_kept HF5_1.out hkp (fun k_ h1_ h2_ => by have o_ := HORD.out; unfold In at h1_; omega)); have n5_ := Aside0.mk (Kd.S_kept HS5_1.out hkp (fun k_ h1_ h2_ => by have o_ := HORD.out; unfold In at h1_; omega)); have n6_ := Aside0.mk (blk_kept BK1.out hkp (fun h2_ => by have o_ := HORD.out; omega)); have n7_ := Aside0.mk (hbn_); have n8_ := Aside0.mk (hbk_); have n9_ := Aside0.mk (hsz_); (try clear HF4_0); (try clear HS4_0); (try clear HF5_0); (try clear HS5_0); (try clear HF5_1); (try clear HS5_1); (try clear BK1); (try clear HB); (try clear BK6); (try clear HT); have HF4_0 := n0_; have HS4_0 := n1_; have HF5_0 := n2_; have HS5_0 := n3_; have HF5_1 := n4_; have HS5_1 := n5_; have BK1 := n6_; have HB := n7_; have BK6 := n8_; have HT := n9_; clear n0_ n1_ n2_ n3_ n4_ n5_ n6_ n7_ n8_ n9_; clear hw_ hkp hge_ hbn_ hbk_ hsz_; have hzgb1_0_7 : w7.cell? ⟨gb1, 0, none⟩ = some (.slice A0_0 l0_0.length c0_0) := (blk_cell BK1.out 0).trans rfl; have hygb1_0_7 := blk_frozen BK1.out 0; have hzgb1_1_7 : w7.cell? ⟨gb1, 1, none⟩ = some (.slice A0_1 l0_1.length c0_1) := (blk_cell BK1.out 1).trans rfl; have hygb1_1_7 := blk_frozen BK1.out 1; have hzgb1_2_7 : w7.cell? ⟨gb1, 2, none⟩ = some (.int .i64 a0_2) := (blk_cell BK1.out 2).trans rfl; have hygb1_2_7 := blk_frozen BK1.out 2; have hzgb1_3_7 : w7.cell? ⟨gb1, 3, none⟩ = some (.bool a0_3) := (blk_cell BK1.out 3).trans rfl; have hygb1_3_7 := blk_frozen BK1.out 3; have hzgb6_0_7 : w7.cell? ⟨gb6, 0, none⟩ = some (.slice A5_0 r2_1.length c5_0) := (blk_cell BK6.out 0).trans rfl; have hygb6_0_7 := blk_frozen BK6.out 0; have hzgb6_1_7 : w7.cell? ⟨gb6, 1, none⟩ = some (.slice A5_1 r2_2.length c5_1) := (blk_cell BK6.out 1).trans rfl; have hygb6_1_7 := blk_frozen BK6.out 1; have hzgb6_2_7 : w7.cell? ⟨gb6, 2, none⟩ = some (.int .i64 r2_3) := (blk_cell BK6.out 2).trans rfl; have hygb6_2_7 := blk_frozen BK6.out 2; have hzgb6_3_7 : w7.cell? ⟨gb6, 3, none⟩ = some (.bool r2_4) := (blk_cell BK6.out 3).trans rfl; have hygb6_3_7 := blk_frozen BK6.out 3) | ((with_reducible refine gate_callee (f := 22) rfl ?_); refine goesL_ (some 26) rfl rfl Try.func22 (by kernel_rfl) rfl #[.agg #[.slice A5_0 r2_1.length c5_0, .slice A5_1 r2_2.length c5_1, .int .i64 r2_3, .bool r2_4], .int .i64 a1] rfl (by (try simp only [List.map_toArray, List.map_cons, List.map_nil]); first | done | rfl | (simp only [List.length_drop, List.length_take]; rfl)) ?_; (with_reducible refine (impl_ReadSec.calls k4 (In lo5 mm5) _ _ r2_1 (In mm5 hi5) _ _ r2_2 r2_3 r2_4 a1 r4_0 _ ?s1 ?s2 A4.out).mono ?_); (case s1 => exact ⟨_, _, rfl, HC5_0.out, HF5_0.out⟩); (case s2 => exact ⟨_, _, rfl, HC5_1.out, HF5_1.out⟩); rintro e_ w8 ⟨v0_, rfl, ho0, hb⟩; refine ⟨_, rfl, ?_⟩; obtain ⟨lo8, hi8, el_, eh_, ol_, oh_⟩ := Mem.times HT.out hb; (try rw [← el_] at ho0); obtain ⟨A8_0, c8_0, ev_, hc0_, hf0_, hs0_⟩ := Mem.new_R ho0 eh_; subst ev_; have n0_ := Aside0.mk (Kd.F_below HF4_0.out hb); have n1_ := Aside0.mk (Kd.R_below HS4_0.out hb); have n2_ := Aside0.mk (Kd.F_below HF5_0.out hb); have n3_ := Aside0.mk (Kd.S_below HS5_0.out hb); have n4_ := Aside0.mk (Kd.F_below HF5_1.out hb); have n5_ := Aside0.mk (Kd.S_below HS5_1.out hb); have n6_ := Aside0.mk (blk_below BK1.out hb); have n7_ := Aside0.mk (blk_below BK6.out hb); have n8_ := Aside0.mk (below_step HB.out hb); have n9_ := Aside0.mk (hf0_); have n10_ := Aside0.mk (hc0_); have n11_ := Aside0.mk (hs0_); have n12_ := Aside0.mk (And.intro HORD.out (And.intro ol_ oh_)); have n13_ := Aside0.mk (Nat.le_of_eq eh_); (try clear HF4_0); (try clear HS4_0); (try clear HF5_0); (try clear HS5_0); (try clear HF5_1); (try clear HS5_1); (try clear BK1); (try clear BK6); (try clear HB); (try clear HF8_0); (try clear HC8_0); (try clear HS8_0); (try clear HORD); (try clear HT); have HF4_0 := n0_; have HS4_0 := n1_; have HF5_0 := n2_; have HS5_0 := n3_; have HF5_1 := n4_; have HS5_1 := n5_; have BK1 := n6_; have BK6 := n7_; have HB := n8_; have HF8_0 := n9_; have HC8_0 := n10_; have HS8_0 := n11_; have HORD := n12_; have HT := n13_; clear n0_ n1_ n2_ n3_ n4_ n5_ n6_ n7_ n8_ n9_ n10_ n11_ n12_ n13_; clear ol_ oh_ el_ eh_ ho0 hf0_ hc0_ hs0_; (try clear hb); have hzgb1_0_8 : w8.cell? ⟨gb1, 0, none⟩ = some (.slice A0_0 l0_0.length c0_0) := (blk_cell BK1.out 0).trans rfl; have hygb1_0_8 := blk_frozen BK1.out 0; have hzgb1_1_8 : w8.cell? ⟨gb1, 1, none⟩ = some (.slice A0_1 l0_1.length c0_1) := (blk_cell BK1.out 1).trans rfl; have hygb1_1_8 := blk_frozen BK1.out 1; have hzgb1_2_8 : w8.cell? ⟨gb1, 2, none⟩ = some (.int .i64 a0_2) := (blk_cell BK1.out 2).trans rfl; have hygb1_2_8 := blk_frozen BK1.out 2; have hzgb1_3_8 : w8.cell? ⟨gb1, 3, none⟩ = some (.bool a0_3) := (blk_cell BK1.out 3).trans rfl; have hygb1_3_8 := blk_frozen BK1.out 3; have hzgb6_0_8 : w8.cell? ⟨gb6, 0, none⟩ = some (.slice A5_0 r2_1.length c5_0) := (blk_cell BK6.out 0).trans rfl; have hygb6_0_8 := blk_frozen BK6.out 0; have hzgb6_1_8 : w8.cell? ⟨gb6, 1, none⟩ = some (.slice A5_1 r2_2.length c5_1) := (blk_cell BK6.out 1).trans rfl; have hygb6_1_8 := blk_frozen BK6.out 1; have hzgb6_2_8 : w8.cell? ⟨gb6, 2, none⟩ = some (.int .i64 r2_3) := (blk_cell BK6.out 2).trans rfl; have hygb6_2_8 := blk_frozen BK6.out 2; have hzgb6_3_8 : w8.cell? ⟨gb6, 3, none⟩ = some (.bool r2_4) := (blk_cell BK6.out 3).trans rfl; have hygb6_3_8 := blk_frozen BK6.out 3) | ((with_reducible refine gate_callee (f := 23) rfl ?_); refine goesL_ (some 29) rfl rfl Try.func23 (by kernel_rfl) rfl #[.slice A8_0 r4_0.length c8_0, .slice A4_0 r3_0.length c4_0] rfl (by (try simp only [List.map_toArray, List.map_cons, List.map_nil]); first | done | rfl | (simp only [List.length_drop, List.length_take]; rfl)) ?_; (with_reducible refine (laws_eqByteS.calls k5 _ _ r4_0 _ _ r3_0 true _ ?s1 ?s2 ?s3 ?s4 A5.out).mono ?_); (case s1 => exact (Kd.F_now HF8_0.out)); (case s2 => exact HC8_0.out); (case s3 => exact (Kd.F_now HF4_0.out)); (case s4 => exact HC4_0.out); rintro e_ w9 ⟨rfl, hd⟩; refine ⟨_, rfl, ?_⟩; have hb := hd.below; clear hd; have n0_ := Aside0.mk (Kd.F_below HF4_0.out hb); have n1_ := Aside0.mk (Kd.R_below HS4_0.out hb); have n2_ := Aside0.mk (Kd.F_below HF5_0.out hb); have n3_ := Aside0.mk (Kd.S_below HS5_0.out hb); have n4_ := Aside0.mk (Kd.F_below HF5_1.out hb); have n5_ := Aside0.mk (Kd.S_below HS5_1.out hb); have n6_ := Aside0.mk (Kd.F_below HF8_0.out hb); have n7_ := Aside0.mk (Kd.R_below HS8_0.out hb); have n8_ := Aside0.mk (blk_below BK1.out hb); have n9_ := Aside0.mk (blk_below BK6.out hb); have n10_ := Aside0.mk (below_step HB.out hb); have n11_ := Aside0.mk (Nat.le_trans HT.out hb.size); (try clear HF4_0); (try clear HS4_0); (try clear HF5_0); (try clear HS5_0); (try clear HF5_1); (try clear HS5_1); (try clear HF8_0); (try clear HS8_0); (try clear BK1); (try clear BK6); (try clear HB); (try clear HT); have HF4_0 := n0_; have HS4_0 := n1_; have HF5_0 := n2_; have HS5_0 := n3_; have HF5_1 := n4_; have HS5_1 := n5_; have HF8_0 := n6_; have HS8_0 := n7_; have BK1 := n8_; have BK6 := n9_; have HB := n10_; have HT := n11_; clear n0_ n1_ n2_ n3_ n4_ n5_ n6_ n7_ n8_ n9_ n10_ n11_; (try clear hb); have hzgb1_0_9 : w9.cell? ⟨gb1, 0, none⟩ = some (.slice A0_0 l0_0.length c0_0) := (blk_cell BK1.out 0).trans rfl; have hygb1_0_9 := blk_frozen BK1.out 0; have hzgb1_1_9 : w9.cell? ⟨gb1, 1, none⟩ = some (.slice A0_1 l0_1.length c0_1) := (blk_cell BK1.out 1).trans rfl; have hygb1_1_9 := blk_frozen BK1.out 1; have hzgb1_2_9 : w9.cell? ⟨gb1, 2, none⟩ = some (.int .i64 a0_2) := (blk_cell BK1.out 2).trans rfl; have hygb1_2_9 := blk_frozen BK1.out 2; have hzgb1_3_9 : w9.cell? ⟨gb1, 3, none⟩ = some (.bool a0_3) := (blk_cell BK1.out 3).trans rfl; have hygb1_3_9 := blk_frozen BK1.out 3; have hzgb6_0_9 : w9.cell? ⟨gb6, 0, none⟩ = some (.slice A5_0 r2_1.length c5_0) := (blk_cell BK6.out 0).trans rfl; have hygb6_0_9 := blk_frozen BK6.out 0; have hzgb6_1_9 : w9.cell? ⟨gb6, 1, none⟩ = some (.slice A5_1 r2_2.length c5_1) := (blk_cell BK6.out 1).trans rfl; have hygb6_1_9 := blk_frozen BK6.out 1; have hzgb6_2_9 : w9.cell? ⟨gb6, 2, none⟩ = some (.int .i64 r2_3) := (blk_cell BK6.out 2).trans rfl; have hygb6_2_9 := blk_frozen BK6.out 2; have hzgb6_3_9 : w9.cell? ⟨gb6, 3, none⟩ = some (.bool r2_4) := (blk_cell BK6.out 3).trans rfl; have hygb6_3_9 := blk_frozen BK6.out 3))
  have n_ := Aside0.mk (Kd.F_drew HF4_0.out)
  clear HF4_0
  have HF4_0 := n_
  clear n_
  have n_ := Aside0.mk (Kd.R_drew HS4_0.out)
  clear HS4_0
  have HS4_0 := n_
  clear n_
  have n_ := Aside0.mk (Kd.F_drew HF5_0.out)
  clear HF5_0
  have HF5_0 := n_
  clear n_
  have n_ := Aside0.mk (Kd.S_drew HS5_0.out)
  clear HS5_0
  have HS5_0 := n_
  clear n_
  have n_ := Aside0.mk (Kd.F_drew HF5_1.out)
  clear HF5_1
  have HF5_1 := n_
  clear n_
  have n_ := Aside0.mk (Kd.S_drew HS5_1.out)
  clear HS5_1
  have HS5_1 := n_
  clear n_
  have n_ := Aside0.mk (Kd.F_drew HF8_0.out)
  clear HF8_0
  have HF8_0 := n_
  clear n_
  have n_ := Aside0.mk (Kd.R_drew HS8_0.out)
  clear HS8_0
  have HS8_0 := n_
  clear n_
  have n_ := Aside0.mk (blk_drew BK1.out)
  clear BK1
  have BK1 := n_
  clear n_
  have n_ := Aside0.mk (blk_drew BK6.out)
  clear BK6
  have BK6 := n_
  clear n_
  have n_ := Aside0.mk (below_drew1 HB.out)
  clear HB
  have HB := n_
  clear n_
  have n_ := Aside0.mk (show _ ≤ w9.drew.heap.size from HT.out)
  clear HT
  have HT := n_
  clear n_
  refine start_ (n := 5) (S := fun w' => w'.cell? ⟨gb6, 0, none⟩ = some (.slice A5_0 r2_1.length c5_0) ∧ w'.cell? ⟨gb6, 1, none⟩ = some (.slice A5_1 r2_2.length c5_1) ∧ w'.cell? ⟨gb6, 2, none⟩ = some (.int .i64 r2_3) ∧ w'.cell? ⟨gb6, 3, none⟩ = some (.bool r2_4) ∧ w'.cell? ⟨gb1, 0, none⟩ = some (.slice A0_0 l0_0.length c0_0) ∧ w'.cell? ⟨gb1, 1, none⟩ = some (.slice A0_1 l0_1.length c0_1) ∧ w'.cell? ⟨gb1, 2, none⟩ = some (.int .i64 a0_2) ∧ w'.cell? ⟨gb1, 3, none⟩ = some (.bool a0_3)) (ds := []) #[false, false, false, false, false] (by kernel_rfl) rfl rfl ⟨(blk_cell BK6.out 0).trans rfl, (blk_cell BK6.out 1).trans rfl, (blk_cell BK6.out 2).trans rfl, (blk_cell BK6.out 3).trans rfl, (blk_cell BK1.out 0).trans rfl, (blk_cell BK1.out 1).trans rfl, (blk_cell BK1.out 2).trans rfl, (blk_cell BK1.out 3).trans rfl⟩ (fun hHeld => ?_)
  generalize w9.drew = w10 at HF4_0 HS4_0 HF5_0 HS5_0 HF5_1 HS5_1 HF8_0 HS8_0 BK1 BK6 HB HT hHeld ⊢
  refine take_ (i := 0) (N := some 31) (v := ?_) (a' := ?_) #[true, false, false, false, false] rfl rfl (by kernel_rfl) (fun _ _ _ h => h) (Or.inl ⟨by rfl, ?_⟩) hHeld ?_ ?_
  rotate_left
  · rintro w' ⟨s0, s1, s2, s3, s4, s5, s6, s7⟩
    go_simp
    with_reducible rfl
  rotate_left
  · simp only [Act.put, List.setIfInBounds_toArray, List.set_cons_zero, List.set_cons_succ, i64_w, i32_w]
    rfl
  refine take_ (i := 1) (N := some 32) (v := ?_) (a' := ?_) #[true, true, false, false, false] rfl rfl (by kernel_rfl) (fun _ _ _ h => h) (Or.inl ⟨by rfl, ?_⟩) hHeld ?_ ?_
  rotate_left
  · rintro w' ⟨s0, s1, s2, s3, s4, s5, s6, s7⟩
    go_simp
    with_reducible rfl
  rotate_left
  · simp only [Act.put, List.setIfInBounds_toArray, List.set_cons_zero, List.set_cons_succ, i64_w, i32_w]
    rfl
  refine one_ (i := 2) (N := some 33) #[true, true, true, false, false] rfl rfl (by kernel_rfl) (by decide) (fun K hK => ?_)
  refine goes_ Try.func19 (by kernel_rfl) rfl #[.agg #[.slice A0_0 l0_0.length c0_0, .slice A0_1 l0_1.length c0_1, .int .i64 a0_2, .bool a0_3]] (by rfl) rfl rfl (by (try simp only [List.map_toArray, List.map_cons, List.map_nil]); first | done | rfl | (simp only [List.length_drop, List.length_take]; rfl)) ?_
  (with_reducible refine (laws_toDev.calls k2 _ _ l0_0 _ _ l0_1 a0_2 a0_3 r2_1 r2_2 r2_3 r2_4 _ ?s1 ?s2 ?s3 ?s4 A2.out).mono ?_)
  (case s1 => exact (Kd.C_below HR0_0.out HB.out))
  (case s2 => exact HC0_0.out)
  (case s3 => exact (Kd.C_below HR0_1.out HB.out))
  (case s4 => exact HC0_1.out)
  rintro e_ w11 ⟨v0_, v1_, mm11, rfl, hm1_, hm2_, ho0, ho1, hb⟩
  refine ⟨_, rfl, ?_⟩
  obtain ⟨lo11, hi11, el_, eh_, ol_, oh_⟩ := Mem.times HT.out hb
  rw [← el_] at hm1_
  rw [← eh_] at hm2_
  rw [← el_] at ho0
  obtain ⟨A11_0, c11_0, ev_, hc0_, hf0_, hs0_⟩ := Mem.new_SI ho0
  subst ev_
  rw [← eh_] at ho1
  obtain ⟨A11_1, c11_1, ev_, hc1_, hf1_, hs1_⟩ := Mem.new_SI ho1
  subst ev_
  have n0_ := Aside0.mk (Kd.F_below HF4_0.out hb)
  have n1_ := Aside0.mk (Kd.R_below HS4_0.out hb)
  have n2_ := Aside0.mk (Kd.F_below HF5_0.out hb)
  have n3_ := Aside0.mk (Kd.S_below HS5_0.out hb)
  have n4_ := Aside0.mk (Kd.F_below HF5_1.out hb)
  have n5_ := Aside0.mk (Kd.S_below HS5_1.out hb)
  have n6_ := Aside0.mk (Kd.F_below HF8_0.out hb)
  have n7_ := Aside0.mk (Kd.R_below HS8_0.out hb)
  have n8_ := Aside0.mk (blk_below BK1.out hb)
  have n9_ := Aside0.mk (blk_below BK6.out hb)
  have n10_ := Aside0.mk (below_step HB.out hb)
  have n11_ := Aside0.mk (hf0_)
  have n12_ := Aside0.mk (hc0_)
  have n13_ := Aside0.mk (hs0_)
  have n14_ := Aside0.mk (hf1_)
  have n15_ := Aside0.mk (hc1_)
  have n16_ := Aside0.mk (hs1_)
  have n17_ := Aside0.mk (And.intro HORD.out (And.intro ol_ (And.intro hm1_ hm2_)))
  have n18_ := Aside0.mk (Nat.le_of_eq eh_)
  (try clear HF4_0)
  (try clear HS4_0)
  (try clear HF5_0)
  (try clear HS5_0)
  (try clear HF5_1)
  (try clear HS5_1)
  (try clear HF8_0)
  (try clear HS8_0)
  (try clear BK1)
  (try clear BK6)
  (try clear HB)
  (try clear HF11_0)
  (try clear HC11_0)
  (try clear HS11_0)
  (try clear HF11_1)
  (try clear HC11_1)
  (try clear HS11_1)
  (try clear HORD)
  (try clear HT)
  have HF4_0 := n0_
  have HS4_0 := n1_
  have HF5_0 := n2_
  have HS5_0 := n3_
  have HF5_1 := n4_
  have HS5_1 := n5_
  have HF8_0 := n6_
  have HS8_0 := n7_
  have BK1 := n8_
  have BK6 := n9_
  have HB := n10_
  have HF11_0 := n11_
  have HC11_0 := n12_
  have HS11_0 := n13_
  have HF11_1 := n14_
  have HC11_1 := n15_
  have HS11_1 := n16_
  have HORD := n17_
  have HT := n18_
  clear n0_ n1_ n2_ n3_ n4_ n5_ n6_ n7_ n8_ n9_ n10_ n11_ n12_ n13_ n14_ n15_ n16_ n17_ n18_
  clear hm1_ hm2_
  clear ol_ oh_ el_ eh_ ho0 hf0_ hc0_ hs0_ ho1 hf1_ hc1_ hs1_
  (try clear hb)
  refine hK.out _ _ ⟨(blk_cell BK6.out 0).trans rfl, (blk_cell BK6.out 1).trans rfl, (blk_cell BK6.out 2).trans rfl, (blk_cell BK6.out 3).trans rfl, (blk_cell BK1.out 0).trans rfl, (blk_cell BK1.out 1).trans rfl, (blk_cell BK1.out 2).trans rfl, (blk_cell BK1.out 3).trans rfl⟩ (fun hHeld => ?_)
  clear hK K
  refine norm_ (a' := ?_) ?_ ?_
  rotate_left
  · show Act.put _ (some 33) _ = _
    simp only [Act.put, List.setIfInBounds_toArray, List.set_cons_zero, List.set_cons_succ, i64_w, i32_w]
    rfl
  refine one_ (i := 3) (N := some 34) #[true, true, true, true, false] rfl rfl (by kernel_rfl) (by decide) (fun K hK => ?_)
  refine goes_ Try.func14 (by kernel_rfl) rfl #[.agg #[.slice A5_0 r2_1.length c5_0, .slice A5_1 r2_2.length c5_1, .int .i64 r2_3, .bool r2_4], .agg #[.slice A11_0 r2_1.length c11_0, .slice A11_1 r2_2.length c11_1, .int .i64 r2_3, .bool r2_4]] (by rfl) rfl rfl (by (try simp only [List.map_toArray, List.map_cons, List.map_nil]); first | done | rfl | (simp only [List.length_drop, List.length_take]; rfl)) ?_
  (with_reducible refine (laws_eqDev.calls k6 _ _ r2_1 _ _ r2_2 r2_3 r2_4 _ _ r2_1 _ _ r2_2 r2_3 r2_4 true _ ?s1 ?s2 ?s3 ?s4 ?s5 ?s6 ?s7 ?s8 A6.out).mono ?_)
  (case s1 => exact (Kd.F_now HF5_0.out))
  (case s2 => exact HC5_0.out)
  (case s3 => exact (Kd.F_now HF5_1.out))
  (case s4 => exact HC5_1.out)
  (case s5 => exact (Kd.F_now HF11_0.out))
  (case s6 => exact HC11_0.out)
  (case s7 => exact (Kd.F_now HF11_1.out))
  (case s8 => exact HC11_1.out)
  rintro e_ w12 ⟨rfl, hb⟩
  refine ⟨_, rfl, ?_⟩
  have n0_ := Aside0.mk (Kd.F_below HF4_0.out hb)
  have n1_ := Aside0.mk (Kd.R_below HS4_0.out hb)
  have n2_ := Aside0.mk (Kd.F_below HF5_0.out hb)
  have n3_ := Aside0.mk (Kd.S_below HS5_0.out hb)
  have n4_ := Aside0.mk (Kd.F_below HF5_1.out hb)
  have n5_ := Aside0.mk (Kd.S_below HS5_1.out hb)
  have n6_ := Aside0.mk (Kd.F_below HF8_0.out hb)
  have n7_ := Aside0.mk (Kd.R_below HS8_0.out hb)
  have n8_ := Aside0.mk (blk_below BK1.out hb)
  have n9_ := Aside0.mk (blk_below BK6.out hb)
  have n10_ := Aside0.mk (below_step HB.out hb)
  have n11_ := Aside0.mk (Nat.le_trans HT.out hb.size)
  (try clear HF11_0)
  (try clear HS11_0)
  (try clear HC11_0)
  (try clear HF11_1)
  (try clear HS11_1)
  (try clear HC11_1)
  (try clear HF4_0)
  (try clear HS4_0)
  (try clear HF5_0)
  (try clear HS5_0)
  (try clear HF5_1)
  (try clear HS5_1)
  (try clear HF8_0)
  (try clear HS8_0)
  (try clear BK1)
  (try clear BK6)
  (try clear HB)
  (try clear HT)
  have HF4_0 := n0_
  have HS4_0 := n1_
  have HF5_0 := n2_
  have HS5_0 := n3_
  have HF5_1 := n4_
  have HS5_1 := n5_
  have HF8_0 := n6_
  have HS8_0 := n7_
  have BK1 := n8_
  have BK6 := n9_
  have HB := n10_
  have HT := n11_
  clear n0_ n1_ n2_ n3_ n4_ n5_ n6_ n7_ n8_ n9_ n10_ n11_
  (try clear hb)
  refine hK.out _ _ ⟨(blk_cell BK6.out 0).trans rfl, (blk_cell BK6.out 1).trans rfl, (blk_cell BK6.out 2).trans rfl, (blk_cell BK6.out 3).trans rfl, (blk_cell BK1.out 0).trans rfl, (blk_cell BK1.out 1).trans rfl, (blk_cell BK1.out 2).trans rfl, (blk_cell BK1.out 3).trans rfl⟩ (fun hHeld => ?_)
  clear hK K
  refine norm_ (a' := ?_) ?_ ?_
  rotate_left
  · show Act.put _ (some 34) _ = _
    simp only [Act.put, List.setIfInBounds_toArray, List.set_cons_zero, List.set_cons_succ, i64_w, i32_w]
    rfl
  refine pure_ (i := 4) (N := some 35) (v := ?_) (a' := ?_) #[true, true, true, true, true] rfl rfl (by kernel_rfl) (fun _ _ _ h => h) (Or.inl ⟨by rfl, ?_⟩) ?_ ?_
  rotate_left
  · intro w'
    go_simp
    with_reducible rfl
  rotate_left
  · simp only [Act.put, List.setIfInBounds_toArray, List.set_cons_zero, List.set_cons_succ, i64_w, i32_w]
    rfl
  refine done_ (by kernel_rfl) ?_
  have hzgb1_0_12 : w12.cell? ⟨gb1, 0, none⟩ = some (.slice A0_0 l0_0.length c0_0) := (blk_cell BK1.out 0).trans rfl
  have hygb1_0_12 := blk_frozen BK1.out 0
  have hzgb1_1_12 : w12.cell? ⟨gb1, 1, none⟩ = some (.slice A0_1 l0_1.length c0_1) := (blk_cell BK1.out 1).trans rfl
  have hygb1_1_12 := blk_frozen BK1.out 1
  have hzgb1_2_12 : w12.cell? ⟨gb1, 2, none⟩ = some (.int .i64 a0_2) := (blk_cell BK1.out 2).trans rfl
  have hygb1_2_12 := blk_frozen BK1.out 2
  have hzgb1_3_12 : w12.cell? ⟨gb1, 3, none⟩ = some (.bool a0_3) := (blk_cell BK1.out 3).trans rfl
  have hygb1_3_12 := blk_frozen BK1.out 3
  have hzgb6_0_12 : w12.cell? ⟨gb6, 0, none⟩ = some (.slice A5_0 r2_1.length c5_0) := (blk_cell BK6.out 0).trans rfl
  have hygb6_0_12 := blk_frozen BK6.out 0
  have hzgb6_1_12 : w12.cell? ⟨gb6, 1, none⟩ = some (.slice A5_1 r2_2.length c5_1) := (blk_cell BK6.out 1).trans rfl
  have hygb6_1_12 := blk_frozen BK6.out 1
  have hzgb6_2_12 : w12.cell? ⟨gb6, 2, none⟩ = some (.int .i64 r2_3) := (blk_cell BK6.out 2).trans rfl
  have hygb6_2_12 := blk_frozen BK6.out 2
  have hzgb6_3_12 : w12.cell? ⟨gb6, 3, none⟩ = some (.bool r2_4) := (blk_cell BK6.out 3).trans rfl
  have hygb6_3_12 := blk_frozen BK6.out 3
  go_wp2_with (first | ((with_reducible refine gate_callee (f := 15) rfl ?_); refine goesL_ (some 38) rfl rfl Try.func15 (by kernel_rfl) rfl #[.agg #[.slice A5_0 r2_1.length c5_0, .slice A5_1 r2_2.length c5_1, .int .i64 r2_3, .bool r2_4], .int .i64 1] rfl (by (try simp only [List.map_toArray, List.map_cons, List.map_nil]); first | done | rfl | (simp only [List.length_drop, List.length_take]; rfl)) ?_; (with_reducible refine (laws_markDev.calls (In lo5 mm5) (In mm5 hi5) (.slice A5_0 r2_1.length c5_0) (.slice A5_1 r2_2.length c5_1) r2_1 r2_2 r2_3 r2_4 1 r7_1 r7_2 r7_3 w _ ?s1 ?s2 ?s3 ?s4 A7.out).mono ?_); (case s1 => exact HB.out); (case s2 => exact Kd.S_lower HS5_0.out (by have o_ := HORD.out; omega)); (case s3 => exact Kd.S_lower HS5_1.out (by have o_ := HORD.out; omega)); (case s4 => first | exact .inl (fun k_ h1_ h2_ => by have o_ := HORD.out; unfold In at h1_ h2_; omega) | exact .inr HE.out); rintro e_ w13 ⟨rfl, ho0, ho1, hbn_, hkp⟩; refine ⟨_, rfl, ?_⟩; have hkq : Kept w12 w13 (In lo5 hi5) := Kept.mono hkp (fun k_ h_ => by first | exact h_ | (have o_ := HORD.out; (try unfold In at *); omega)); have n0_ := Aside0.mk (Kd.F_kept HF4_0.out hkq (fun k_ h1_ h2_ => by have o_ := HORD.out; unfold In at h1_ h2_; omega)); have n1_ := Aside0.mk (Kd.R_kept HS4_0.out hkq (fun k_ h1_ h2_ => by have o_ := HORD.out; unfold In at h1_ h2_; omega)); have n2_ := Aside0.mk (Kd.F_kept HF8_0.out hkq (fun k_ h1_ h2_ => by have o_ := HORD.out; unfold In at h1_ h2_; omega)); have n3_ := Aside0.mk (Kd.R_kept HS8_0.out hkq (fun k_ h1_ h2_ => by have o_ := HORD.out; unfold In at h1_ h2_; omega)); have n4_ := Aside0.mk (blk_kept BK1.out hkq (fun h2_ => by have o_ := HORD.out; unfold In at h2_; omega)); have n5_ := Aside0.mk (blk_kept BK6.out hkq (fun h2_ => by have o_ := HORD.out; unfold In at h2_; omega)); have n6_ := Aside0.mk (hbn_); have n7_ := Aside0.mk (Nat.le_trans HT.out hkq.1); (try clear HF5_0); (try clear HS5_0); (try clear HC5_0); (try clear HF5_1); (try clear HS5_1); (try clear HC5_1); (try clear HF4_0); (try clear HS4_0); (try clear HF8_0); (try clear HS8_0); (try clear BK1); (try clear BK6); (try clear HB); (try clear HT); have HF4_0 := n0_; have HS4_0 := n1_; have HF8_0 := n2_; have HS8_0 := n3_; have BK1 := n4_; have BK6 := n5_; have HB := n6_; have HT := n7_; clear n0_ n1_ n2_ n3_ n4_ n5_ n6_ n7_; clear hbn_ hkp hkq ho0 ho1; have hzgb1_0_13 : w13.cell? ⟨gb1, 0, none⟩ = some (.slice A0_0 l0_0.length c0_0) := (blk_cell BK1.out 0).trans rfl; have hygb1_0_13 := blk_frozen BK1.out 0; have hzgb1_1_13 : w13.cell? ⟨gb1, 1, none⟩ = some (.slice A0_1 l0_1.length c0_1) := (blk_cell BK1.out 1).trans rfl; have hygb1_1_13 := blk_frozen BK1.out 1; have hzgb1_2_13 : w13.cell? ⟨gb1, 2, none⟩ = some (.int .i64 a0_2) := (blk_cell BK1.out 2).trans rfl; have hygb1_2_13 := blk_frozen BK1.out 2; have hzgb1_3_13 : w13.cell? ⟨gb1, 3, none⟩ = some (.bool a0_3) := (blk_cell BK1.out 3).trans rfl; have hygb1_3_13 := blk_frozen BK1.out 3; have hzgb6_0_13 : w13.cell? ⟨gb6, 0, none⟩ = some (.slice A5_0 r2_1.length c5_0) := (blk_cell BK6.out 0).trans rfl; have hygb6_0_13 := blk_frozen BK6.out 0; have hzgb6_1_13 : w13.cell? ⟨gb6, 1, none⟩ = some (.slice A5_1 r2_2.length c5_1) := (blk_cell BK6.out 1).trans rfl; have hygb6_1_13 := blk_frozen BK6.out 1; have hzgb6_2_13 : w13.cell? ⟨gb6, 2, none⟩ = some (.int .i64 r2_3) := (blk_cell BK6.out 2).trans rfl; have hygb6_2_13 := blk_frozen BK6.out 2; have hzgb6_3_13 : w13.cell? ⟨gb6, 3, none⟩ = some (.bool r2_4) := (blk_cell BK6.out 3).trans rfl; have hygb6_3_13 := blk_frozen BK6.out 3) | ((with_reducible refine gate_callee (f := 23) rfl ?_); refine gate_guard (by first | rfl | kernel_rfl) ?_; refine goesL_ (some 44) rfl rfl Try.func23 (by kernel_rfl) rfl #[.slice A8_0 r4_0.length c8_0, .slice A4_0 r3_0.length c4_0] rfl (by (try simp only [List.map_toArray, List.map_cons, List.map_nil]); first | done | rfl | (simp only [List.length_drop, List.length_take]; rfl)) ?_; (with_reducible refine (laws_eqByteS.calls k5 _ _ r4_0 _ _ r3_0 true _ ?s1 ?s2 ?s3 ?s4 A5.out).mono ?_); (case s1 => exact (Kd.F_now HF8_0.out)); (case s2 => exact HC8_0.out); (case s3 => exact (Kd.F_now HF4_0.out)); (case s4 => exact HC4_0.out); rintro e_ w14 ⟨rfl, hd⟩; refine ⟨_, rfl, ?_⟩; have hb := hd.below; clear hd; have n0_ := Aside0.mk (Kd.F_below HF4_0.out hb); have n1_ := Aside0.mk (Kd.R_below HS4_0.out hb); have n2_ := Aside0.mk (Kd.F_below HF8_0.out hb); have n3_ := Aside0.mk (Kd.R_below HS8_0.out hb); have n4_ := Aside0.mk (blk_below BK1.out hb); have n5_ := Aside0.mk (blk_below BK6.out hb); have n6_ := Aside0.mk (below_step HB.out hb); have n7_ := Aside0.mk (Nat.le_trans HT.out hb.size); (try clear HF4_0); (try clear HS4_0); (try clear HF8_0); (try clear HS8_0); (try clear BK1); (try clear BK6); (try clear HB); (try clear HT); have HF4_0 := n0_; have HS4_0 := n1_; have HF8_0 := n2_; have HS8_0 := n3_; have BK1 := n4_; have BK6 := n5_; have HB := n6_; have HT := n7_; clear n0_ n1_ n2_ n3_ n4_ n5_ n6_ n7_; (try clear hb); have hzgb1_0_14 : w14.cell? ⟨gb1, 0, none⟩ = some (.slice A0_0 l0_0.length c0_0) := (blk_cell BK1.out 0).trans rfl; have hygb1_0_14 := blk_frozen BK1.out 0; have hzgb1_1_14 : w14.cell? ⟨gb1, 1, none⟩ = some (.slice A0_1 l0_1.length c0_1) := (blk_cell BK1.out 1).trans rfl; have hygb1_1_14 := blk_frozen BK1.out 1; have hzgb1_2_14 : w14.cell? ⟨gb1, 2, none⟩ = some (.int .i64 a0_2) := (blk_cell BK1.out 2).trans rfl; have hygb1_2_14 := blk_frozen BK1.out 2; have hzgb1_3_14 : w14.cell? ⟨gb1, 3, none⟩ = some (.bool a0_3) := (blk_cell BK1.out 3).trans rfl; have hygb1_3_14 := blk_frozen BK1.out 3; have hzgb6_0_14 : w14.cell? ⟨gb6, 0, none⟩ = some (.slice A5_0 r2_1.length c5_0) := (blk_cell BK6.out 0).trans rfl; have hygb6_0_14 := blk_frozen BK6.out 0; have hzgb6_1_14 : w14.cell? ⟨gb6, 1, none⟩ = some (.slice A5_1 r2_2.length c5_1) := (blk_cell BK6.out 1).trans rfl; have hygb6_1_14 := blk_frozen BK6.out 1; have hzgb6_2_14 : w14.cell? ⟨gb6, 2, none⟩ = some (.int .i64 r2_3) := (blk_cell BK6.out 2).trans rfl; have hygb6_2_14 := blk_frozen BK6.out 2; have hzgb6_3_14 : w14.cell? ⟨gb6, 3, none⟩ = some (.bool r2_4) := (blk_cell BK6.out 3).trans rfl; have hygb6_3_14 := blk_frozen BK6.out 3) | ((with_reducible refine gate_callee (f := 24) rfl ?_); refine goesL_ (some 49) rfl rfl Try.func24 (by kernel_rfl) rfl #[.slice A8_0 r4_0.length c8_0, .int .i64 1] rfl (by (try simp only [List.map_toArray, List.map_cons, List.map_nil]); first | done | rfl | (simp only [List.length_drop, List.length_take]; rfl)) ?_; (with_reducible refine (laws_markByteS.calls k8 (In lo8 hi8) (.slice A8_0 r4_0.length c8_0) r4_0 1 r8_1 r8_2 w _ ?s1 ?s2 A8.out).mono ?_); (case s1 => exact HB.out); (case s2 => exact Kd.R_lower HS8_0.out (by have o_ := HORD.out; omega)); rintro e_ w15 ⟨rfl, ho0, hbn_, hkp⟩; refine ⟨_, rfl, ?_⟩; have hkq : Kept w14 w15 (In lo8 hi8) := Kept.mono hkp (fun k_ h_ => by first | exact h_ | (have o_ := HORD.out; (try unfold In at *); omega)); obtain ⟨hi15, e2_⟩ : ∃ n_, n_ = w15.heap.size := ⟨_, rfl⟩; have ol_ : hi11 ≤ hi15 := (by rw [e2_]; exact Nat.le_trans HT.out hkq.1); obtain ⟨he0_, hc0_, hf0_⟩ := Mem.back_R (h2 := hi15) (lo := lo8) ho0 (by have o_ := HORD.out; have t_ := HT.out; omega) e2_; have n0_ := Aside0.mk (Kd.F_kept HF4_0.out hkq (fun k_ h1_ h2_ => by have o_ := HORD.out; unfold In at h1_ h2_; omega)); have n1_ := Aside0.mk (Kd.R_kept HS4_0.out hkq (fun k_ h1_ h2_ => by have o_ := HORD.out; unfold In at h1_ h2_; omega)); have n2_ := Aside0.mk (blk_kept BK1.out hkq (fun h2_ => by have o_ := HORD.out; unfold In at h2_; omega)); have n3_ := Aside0.mk (blk_kept BK6.out hkq (fun h2_ => by have o_ := HORD.out; unfold In at h2_; omega)); have n4_ := Aside0.mk (hbn_); have n5_ := Aside0.mk (And.intro HORD.out ol_); have n6_ := Aside0.mk (Nat.le_of_eq e2_); have n7_ := Aside0.mk (he0_); have n8_ := Aside0.mk (hf0_); have n9_ := Aside0.mk (hc0_); (try clear HF4_0); (try clear HS4_0); (try clear BK1); (try clear BK6); (try clear HB); (try clear HORD); (try clear HT); (try clear HL15_0); (try clear HF15_0); (try clear HC15_0); have HF4_0 := n0_; have HS4_0 := n1_; have BK1 := n2_; have BK6 := n3_; have HB := n4_; have HORD := n5_; have HT := n6_; have HL15_0 := n7_; have HF15_0 := n8_; have HC15_0 := n9_; clear n0_ n1_ n2_ n3_ n4_ n5_ n6_ n7_ n8_ n9_; clear ol_ e2_ hbn_ hkp hkq ho0 he0_ hc0_ hf0_; have hzgb1_0_15 : w15.cell? ⟨gb1, 0, none⟩ = some (.slice A0_0 l0_0.length c0_0) := (blk_cell BK1.out 0).trans rfl; have hygb1_0_15 := blk_frozen BK1.out 0; have hzgb1_1_15 : w15.cell? ⟨gb1, 1, none⟩ = some (.slice A0_1 l0_1.length c0_1) := (blk_cell BK1.out 1).trans rfl; have hygb1_1_15 := blk_frozen BK1.out 1; have hzgb1_2_15 : w15.cell? ⟨gb1, 2, none⟩ = some (.int .i64 a0_2) := (blk_cell BK1.out 2).trans rfl; have hygb1_2_15 := blk_frozen BK1.out 2; have hzgb1_3_15 : w15.cell? ⟨gb1, 3, none⟩ = some (.bool a0_3) := (blk_cell BK1.out 3).trans rfl; have hygb1_3_15 := blk_frozen BK1.out 3; have hzgb6_0_15 : w15.cell? ⟨gb6, 0, none⟩ = some (.slice A5_0 r2_1.length c5_0) := (blk_cell BK6.out 0).trans rfl; have hygb6_0_15 := blk_frozen BK6.out 0; have hzgb6_1_15 : w15.cell? ⟨gb6, 1, none⟩ = some (.slice A5_1 r2_2.length c5_1) := (blk_cell BK6.out 1).trans rfl; have hygb6_1_15 := blk_frozen BK6.out 1; have hzgb6_2_15 : w15.cell? ⟨gb6, 2, none⟩ = some (.int .i64 r2_3) := (blk_cell BK6.out 2).trans rfl; have hygb6_2_15 := blk_frozen BK6.out 2; have hzgb6_3_15 : w15.cell? ⟨gb6, 3, none⟩ = some (.bool r2_4) := (blk_cell BK6.out 3).trans rfl; have hygb6_3_15 := blk_frozen BK6.out 3) | ((with_reducible refine gate_callee (f := 25) rfl ?_); refine goesL_ (some 52) rfl rfl Try.func25 (by kernel_rfl) rfl #[.slice A8_0 r4_0.length c8_0, .int .i64 1] rfl (by (try simp only [List.map_toArray, List.map_cons, List.map_nil]); first | done | rfl | (simp only [List.length_drop, List.length_take]; rfl)) ?_; refine calls_of_args (args' := #[.slice A8_0 r8_2.length c8_0, .int .i64 1]) (by simp only [HL15_0.out]) ?_; (with_reducible refine (laws_heldByteS.calls k9 _ _ r8_2 1 r8_1 _ ?s1 ?s2 A9.out).mono ?_); (case s1 => exact (Kd.F_now HF15_0.out)); (case s2 => exact HC15_0.out); rintro e_ w16 ⟨rfl, hd⟩; refine ⟨_, rfl, ?_⟩; have hb := hd.below; clear hd; have n0_ := Aside0.mk (Kd.F_below HF4_0.out hb); have n1_ := Aside0.mk (Kd.R_below HS4_0.out hb); have n2_ := Aside0.mk (Kd.F_below HF15_0.out hb); have n3_ := Aside0.mk (blk_below BK1.out hb); have n4_ := Aside0.mk (blk_below BK6.out hb); have n5_ := Aside0.mk (below_step HB.out hb); have n6_ := Aside0.mk (Nat.le_trans HT.out hb.size); (try clear HF4_0); (try clear HS4_0); (try clear HF15_0); (try clear BK1); (try clear BK6); (try clear HB); (try clear HT); have HF4_0 := n0_; have HS4_0 := n1_; have HF15_0 := n2_; have BK1 := n3_; have BK6 := n4_; have HB := n5_; have HT := n6_; clear n0_ n1_ n2_ n3_ n4_ n5_ n6_; (try clear hb); have hzgb1_0_16 : w16.cell? ⟨gb1, 0, none⟩ = some (.slice A0_0 l0_0.length c0_0) := (blk_cell BK1.out 0).trans rfl; have hygb1_0_16 := blk_frozen BK1.out 0; have hzgb1_1_16 : w16.cell? ⟨gb1, 1, none⟩ = some (.slice A0_1 l0_1.length c0_1) := (blk_cell BK1.out 1).trans rfl; have hygb1_1_16 := blk_frozen BK1.out 1; have hzgb1_2_16 : w16.cell? ⟨gb1, 2, none⟩ = some (.int .i64 a0_2) := (blk_cell BK1.out 2).trans rfl; have hygb1_2_16 := blk_frozen BK1.out 2; have hzgb1_3_16 : w16.cell? ⟨gb1, 3, none⟩ = some (.bool a0_3) := (blk_cell BK1.out 3).trans rfl; have hygb1_3_16 := blk_frozen BK1.out 3; have hzgb6_0_16 : w16.cell? ⟨gb6, 0, none⟩ = some (.slice A5_0 r2_1.length c5_0) := (blk_cell BK6.out 0).trans rfl; have hygb6_0_16 := blk_frozen BK6.out 0; have hzgb6_1_16 : w16.cell? ⟨gb6, 1, none⟩ = some (.slice A5_1 r2_2.length c5_1) := (blk_cell BK6.out 1).trans rfl; have hygb6_1_16 := blk_frozen BK6.out 1; have hzgb6_2_16 : w16.cell? ⟨gb6, 2, none⟩ = some (.int .i64 r2_3) := (blk_cell BK6.out 2).trans rfl; have hygb6_2_16 := blk_frozen BK6.out 2; have hzgb6_3_16 : w16.cell? ⟨gb6, 3, none⟩ = some (.bool r2_4) := (blk_cell BK6.out 3).trans rfl; have hygb6_3_16 := blk_frozen BK6.out 3) | ((with_reducible refine gate_callee (f := 19) rfl ?_); refine goesL_ (some 59) rfl rfl Try.func19 (by kernel_rfl) rfl #[.agg #[.slice A0_0 l0_0.length c0_0, .slice A0_1 l0_1.length c0_1, .int .i64 a0_2, .bool a0_3]] rfl (by (try simp only [List.map_toArray, List.map_cons, List.map_nil]); first | done | rfl | (simp only [List.length_drop, List.length_take]; rfl)) ?_; (with_reducible refine (laws_toDev.calls k2 _ _ l0_0 _ _ l0_1 a0_2 a0_3 r2_1 r2_2 r2_3 r2_4 _ ?s1 ?s2 ?s3 ?s4 A2.out).mono ?_); (case s1 => exact (Kd.C_below HR0_0.out HB.out)); (case s2 => exact HC0_0.out); (case s3 => exact (Kd.C_below HR0_1.out HB.out)); (case s4 => exact HC0_1.out); rintro e_ w17 ⟨v0_, v1_, mm17, rfl, hm1_, hm2_, ho0, ho1, hb⟩; refine ⟨_, rfl, ?_⟩; obtain ⟨lo17, hi17, el_, eh_, ol_, oh_⟩ := Mem.times HT.out hb; rw [← el_] at hm1_; rw [← eh_] at hm2_; rw [← el_] at ho0; obtain ⟨A17_0, c17_0, ev_, hc0_, hf0_, hs0_⟩ := Mem.new_SI ho0; subst ev_; rw [← eh_] at ho1; obtain ⟨A17_1, c17_1, ev_, hc1_, hf1_, hs1_⟩ := Mem.new_SI ho1; subst ev_; have n0_ := Aside0.mk (Kd.F_below HF4_0.out hb); have n1_ := Aside0.mk (Kd.R_below HS4_0.out hb); have n2_ := Aside0.mk (Kd.F_below HF15_0.out hb); have n3_ := Aside0.mk (blk_below BK1.out hb); have n4_ := Aside0.mk (blk_below BK6.out hb); have n5_ := Aside0.mk (below_step HB.out hb); have n6_ := Aside0.mk (hf0_); have n7_ := Aside0.mk (hc0_); have n8_ := Aside0.mk (hs0_); have n9_ := Aside0.mk (hf1_); have n10_ := Aside0.mk (hc1_); have n11_ := Aside0.mk (hs1_); have n12_ := Aside0.mk (And.intro HORD.out (And.intro ol_ (And.intro hm1_ hm2_))); have n13_ := Aside0.mk (Nat.le_of_eq eh_); (try clear HF4_0); (try clear HS4_0); (try clear HF15_0); (try clear BK1); (try clear BK6); (try clear HB); (try clear HF17_0); (try clear HC17_0); (try clear HS17_0); (try clear HF17_1); (try clear HC17_1); (try clear HS17_1); (try clear HORD); (try clear HT); have HF4_0 := n0_; have HS4_0 := n1_; have HF15_0 := n2_; have BK1 := n3_; have BK6 := n4_; have HB := n5_; have HF17_0 := n6_; have HC17_0 := n7_; have HS17_0 := n8_; have HF17_1 := n9_; have HC17_1 := n10_; have HS17_1 := n11_; have HORD := n12_; have HT := n13_; clear n0_ n1_ n2_ n3_ n4_ n5_ n6_ n7_ n8_ n9_ n10_ n11_ n12_ n13_; clear hm1_ hm2_; clear ol_ oh_ el_ eh_ ho0 hf0_ hc0_ hs0_ ho1 hf1_ hc1_ hs1_; (try clear hb); have hzgb1_0_17 : w17.cell? ⟨gb1, 0, none⟩ = some (.slice A0_0 l0_0.length c0_0) := (blk_cell BK1.out 0).trans rfl; have hygb1_0_17 := blk_frozen BK1.out 0; have hzgb1_1_17 : w17.cell? ⟨gb1, 1, none⟩ = some (.slice A0_1 l0_1.length c0_1) := (blk_cell BK1.out 1).trans rfl; have hygb1_1_17 := blk_frozen BK1.out 1; have hzgb1_2_17 : w17.cell? ⟨gb1, 2, none⟩ = some (.int .i64 a0_2) := (blk_cell BK1.out 2).trans rfl; have hygb1_2_17 := blk_frozen BK1.out 2; have hzgb1_3_17 : w17.cell? ⟨gb1, 3, none⟩ = some (.bool a0_3) := (blk_cell BK1.out 3).trans rfl; have hygb1_3_17 := blk_frozen BK1.out 3; have hzgb6_0_17 : w17.cell? ⟨gb6, 0, none⟩ = some (.slice A5_0 r2_1.length c5_0) := (blk_cell BK6.out 0).trans rfl; have hygb6_0_17 := blk_frozen BK6.out 0; have hzgb6_1_17 : w17.cell? ⟨gb6, 1, none⟩ = some (.slice A5_1 r2_2.length c5_1) := (blk_cell BK6.out 1).trans rfl; have hygb6_1_17 := blk_frozen BK6.out 1; have hzgb6_2_17 : w17.cell? ⟨gb6, 2, none⟩ = some (.int .i64 r2_3) := (blk_cell BK6.out 2).trans rfl; have hygb6_2_17 := blk_frozen BK6.out 2; have hzgb6_3_17 : w17.cell? ⟨gb6, 3, none⟩ = some (.bool r2_4) := (blk_cell BK6.out 3).trans rfl; have hygb6_3_17 := blk_frozen BK6.out 3) | ((with_reducible refine gate_callee (f := 22) rfl ?_); refine goesL_ (some 61) rfl rfl Try.func22 (by kernel_rfl) rfl #[.agg #[.slice A17_0 r2_1.length c17_0, .slice A17_1 r2_2.length c17_1, .int .i64 r2_3, .bool r2_4], .int .i64 a1] rfl (by (try simp only [List.map_toArray, List.map_cons, List.map_nil]); first | done | rfl | (simp only [List.length_drop, List.length_take]; rfl)) ?_; (with_reducible refine (impl_ReadSec.calls k4 (In lo17 mm17) _ _ r2_1 (In mm17 hi17) _ _ r2_2 r2_3 r2_4 a1 r4_0 _ ?s1 ?s2 A4.out).mono ?_); (case s1 => exact ⟨_, _, rfl, HC17_0.out, HF17_0.out⟩); (case s2 => exact ⟨_, _, rfl, HC17_1.out, HF17_1.out⟩); rintro e_ w18 ⟨v0_, rfl, ho0, hb⟩; refine ⟨_, rfl, ?_⟩; obtain ⟨lo18, hi18, el_, eh_, ol_, oh_⟩ := Mem.times HT.out hb; (try rw [← el_] at ho0); obtain ⟨A18_0, c18_0, ev_, hc0_, hf0_, hs0_⟩ := Mem.new_R ho0 eh_; subst ev_; have n0_ := Aside0.mk (Kd.F_below HF4_0.out hb); have n1_ := Aside0.mk (Kd.R_below HS4_0.out hb); have n2_ := Aside0.mk (Kd.F_below HF15_0.out hb); have n3_ := Aside0.mk (blk_below BK1.out hb); have n4_ := Aside0.mk (blk_below BK6.out hb); have n5_ := Aside0.mk (below_step HB.out hb); have n6_ := Aside0.mk (hf0_); have n7_ := Aside0.mk (hc0_); have n8_ := Aside0.mk (hs0_); have n9_ := Aside0.mk (And.intro HORD.out (And.intro ol_ oh_)); have n10_ := Aside0.mk (Nat.le_of_eq eh_); (try clear HF17_0); (try clear HS17_0); (try clear HC17_0); (try clear HF17_1); (try clear HS17_1); (try clear HC17_1); (try clear HF4_0); (try clear HS4_0); (try clear HF15_0); (try clear BK1); (try clear BK6); (try clear HB); (try clear HF18_0); (try clear HC18_0); (try clear HS18_0); (try clear HORD); (try clear HT); have HF4_0 := n0_; have HS4_0 := n1_; have HF15_0 := n2_; have BK1 := n3_; have BK6 := n4_; have HB := n5_; have HF18_0 := n6_; have HC18_0 := n7_; have HS18_0 := n8_; have HORD := n9_; have HT := n10_; clear n0_ n1_ n2_ n3_ n4_ n5_ n6_ n7_ n8_ n9_ n10_; clear ol_ oh_ el_ eh_ ho0 hf0_ hc0_ hs0_; (try clear hb); have hzgb1_0_18 : w18.cell? ⟨gb1, 0, none⟩ = some (.slice A0_0 l0_0.length c0_0) := (blk_cell BK1.out 0).trans rfl; have hygb1_0_18 := blk_frozen BK1.out 0; have hzgb1_1_18 : w18.cell? ⟨gb1, 1, none⟩ = some (.slice A0_1 l0_1.length c0_1) := (blk_cell BK1.out 1).trans rfl; have hygb1_1_18 := blk_frozen BK1.out 1; have hzgb1_2_18 : w18.cell? ⟨gb1, 2, none⟩ = some (.int .i64 a0_2) := (blk_cell BK1.out 2).trans rfl; have hygb1_2_18 := blk_frozen BK1.out 2; have hzgb1_3_18 : w18.cell? ⟨gb1, 3, none⟩ = some (.bool a0_3) := (blk_cell BK1.out 3).trans rfl; have hygb1_3_18 := blk_frozen BK1.out 3; have hzgb6_0_18 : w18.cell? ⟨gb6, 0, none⟩ = some (.slice A5_0 r2_1.length c5_0) := (blk_cell BK6.out 0).trans rfl; have hygb6_0_18 := blk_frozen BK6.out 0; have hzgb6_1_18 : w18.cell? ⟨gb6, 1, none⟩ = some (.slice A5_1 r2_2.length c5_1) := (blk_cell BK6.out 1).trans rfl; have hygb6_1_18 := blk_frozen BK6.out 1; have hzgb6_2_18 : w18.cell? ⟨gb6, 2, none⟩ = some (.int .i64 r2_3) := (blk_cell BK6.out 2).trans rfl; have hygb6_2_18 := blk_frozen BK6.out 2; have hzgb6_3_18 : w18.cell? ⟨gb6, 3, none⟩ = some (.bool r2_4) := (blk_cell BK6.out 3).trans rfl; have hygb6_3_18 := blk_frozen BK6.out 3) | ((with_reducible refine gate_callee (f := 23) rfl ?_); refine goesL_ (some 64) rfl rfl Try.func23 (by kernel_rfl) rfl #[.slice A18_0 r4_0.length c18_0, .slice A4_0 r3_0.length c4_0] rfl (by (try simp only [List.map_toArray, List.map_cons, List.map_nil]); first | done | rfl | (simp only [List.length_drop, List.length_take]; rfl)) ?_; (with_reducible refine (laws_eqByteS.calls k5 _ _ r4_0 _ _ r3_0 true _ ?s1 ?s2 ?s3 ?s4 A5.out).mono ?_); (case s1 => exact (Kd.F_now HF18_0.out)); (case s2 => exact HC18_0.out); (case s3 => exact (Kd.F_now HF4_0.out)); (case s4 => exact HC4_0.out); rintro e_ w19 ⟨rfl, hd⟩; refine ⟨_, rfl, ?_⟩; have hb := hd.below; clear hd; have n0_ := Aside0.mk (Kd.F_below HF15_0.out hb); have n1_ := Aside0.mk (blk_below BK1.out hb); have n2_ := Aside0.mk (blk_below BK6.out hb); have n3_ := Aside0.mk (below_step HB.out hb); have n4_ := Aside0.mk (Nat.le_trans HT.out hb.size); (try clear HF4_0); (try clear HS4_0); (try clear HC4_0); (try clear HF18_0); (try clear HS18_0); (try clear HC18_0); (try clear HF15_0); (try clear BK1); (try clear BK6); (try clear HB); (try clear HT); have HF15_0 := n0_; have BK1 := n1_; have BK6 := n2_; have HB := n3_; have HT := n4_; clear n0_ n1_ n2_ n3_ n4_; (try clear hb); have hzgb1_0_19 : w19.cell? ⟨gb1, 0, none⟩ = some (.slice A0_0 l0_0.length c0_0) := (blk_cell BK1.out 0).trans rfl; have hygb1_0_19 := blk_frozen BK1.out 0; have hzgb1_1_19 : w19.cell? ⟨gb1, 1, none⟩ = some (.slice A0_1 l0_1.length c0_1) := (blk_cell BK1.out 1).trans rfl; have hygb1_1_19 := blk_frozen BK1.out 1; have hzgb1_2_19 : w19.cell? ⟨gb1, 2, none⟩ = some (.int .i64 a0_2) := (blk_cell BK1.out 2).trans rfl; have hygb1_2_19 := blk_frozen BK1.out 2; have hzgb1_3_19 : w19.cell? ⟨gb1, 3, none⟩ = some (.bool a0_3) := (blk_cell BK1.out 3).trans rfl; have hygb1_3_19 := blk_frozen BK1.out 3; have hzgb6_0_19 : w19.cell? ⟨gb6, 0, none⟩ = some (.slice A5_0 r2_1.length c5_0) := (blk_cell BK6.out 0).trans rfl; have hygb6_0_19 := blk_frozen BK6.out 0; have hzgb6_1_19 : w19.cell? ⟨gb6, 1, none⟩ = some (.slice A5_1 r2_2.length c5_1) := (blk_cell BK6.out 1).trans rfl; have hygb6_1_19 := blk_frozen BK6.out 1; have hzgb6_2_19 : w19.cell? ⟨gb6, 2, none⟩ = some (.int .i64 r2_3) := (blk_cell BK6.out 2).trans rfl; have hygb6_2_19 := blk_frozen BK6.out 2; have hzgb6_3_19 : w19.cell? ⟨gb6, 3, none⟩ = some (.bool r2_4) := (blk_cell BK6.out 3).trans rfl; have hygb6_3_19 := blk_frozen BK6.out 3) | ((with_reducible refine gate_callee (f := 25) rfl ?_); refine goesL_ (some 68) rfl rfl Try.func25 (by kernel_rfl) rfl #[.slice A8_0 r4_0.length c8_0, .int .i64 1] rfl (by (try simp only [List.map_toArray, List.map_cons, List.map_nil]); first | done | rfl | (simp only [List.length_drop, List.length_take]; rfl)) ?_; refine calls_of_args (args' := #[.slice A8_0 r8_2.length c8_0, .int .i64 1]) (by simp only [HL15_0.out]) ?_; (with_reducible refine (laws_heldByteS.calls k9 _ _ r8_2 1 r8_1 _ ?s1 ?s2 A9.out).mono ?_); (case s1 => exact (Kd.F_now HF15_0.out)); (case s2 => exact HC15_0.out); rintro e_ w20 ⟨rfl, hd⟩; refine ⟨_, rfl, ?_⟩; have hb := hd.below; clear hd; have n0_ := Aside0.mk (blk_below BK1.out hb); have n1_ := Aside0.mk (blk_below BK6.out hb); have n2_ := Aside0.mk (below_step HB.out hb); have n3_ := Aside0.mk (Nat.le_trans HT.out hb.size); (try clear HF15_0); (try clear HC15_0); (try clear HL15_0); (try clear BK1); (try clear BK6); (try clear HB); (try clear HT); have BK1 := n0_; have BK6 := n1_; have HB := n2_; have HT := n3_; clear n0_ n1_ n2_ n3_; (try clear hb); have hzgb1_0_20 : w20.cell? ⟨gb1, 0, none⟩ = some (.slice A0_0 l0_0.length c0_0) := (blk_cell BK1.out 0).trans rfl; have hygb1_0_20 := blk_frozen BK1.out 0; have hzgb1_1_20 : w20.cell? ⟨gb1, 1, none⟩ = some (.slice A0_1 l0_1.length c0_1) := (blk_cell BK1.out 1).trans rfl; have hygb1_1_20 := blk_frozen BK1.out 1; have hzgb1_2_20 : w20.cell? ⟨gb1, 2, none⟩ = some (.int .i64 a0_2) := (blk_cell BK1.out 2).trans rfl; have hygb1_2_20 := blk_frozen BK1.out 2; have hzgb1_3_20 : w20.cell? ⟨gb1, 3, none⟩ = some (.bool a0_3) := (blk_cell BK1.out 3).trans rfl; have hygb1_3_20 := blk_frozen BK1.out 3; have hzgb6_0_20 : w20.cell? ⟨gb6, 0, none⟩ = some (.slice A5_0 r2_1.length c5_0) := (blk_cell BK6.out 0).trans rfl; have hygb6_0_20 := blk_frozen BK6.out 0; have hzgb6_1_20 : w20.cell? ⟨gb6, 1, none⟩ = some (.slice A5_1 r2_2.length c5_1) := (blk_cell BK6.out 1).trans rfl; have hygb6_1_20 := blk_frozen BK6.out 1; have hzgb6_2_20 : w20.cell? ⟨gb6, 2, none⟩ = some (.int .i64 r2_3) := (blk_cell BK6.out 2).trans rfl; have hygb6_2_20 := blk_frozen BK6.out 2; have hzgb6_3_20 : w20.cell? ⟨gb6, 3, none⟩ = some (.bool r2_4) := (blk_cell BK6.out 3).trans rfl; have hygb6_3_20 := blk_frozen BK6.out 3))
  have hres_ := @results_tmp Try.f5 4 (by kernel_rfl)
  refine bodyPost_ret (fn := Try.f5) (P := Try.prog) (hres_ _ _ _) rfl ?_
  exact ⟨rfl, HB.out⟩

set_option maxHeartbeats 2000000 in
theorem laws_FnExactReadSec.calls (A0_0 : Option Addr) (c0_0 : Nat) (l0_0 : List (List (Int))) (A0_1 : Option Addr) (c0_1 : Nat) (l0_1 : List (S81)) (a0_2 : Int) (a0_3 : Bool) (a1 : Int) (w : World) (hr0_0 : Kd.C (Kd.slice 5 (Kd.int .u8)) w A0_0 l0_0.length l0_0) (hc0_0 : l0_0.length ≤ c0_0) (hr0_1 : Kd.C k81 w A0_1 l0_1.length l0_1) (hc0_1 : l0_1.length ≤ c0_1) (h0 : (l0_0.length ≤ 9223372036854775807 ∧ ∀ y0 ∈ l0_0, (y0.length ≤ 9223372036854775807 ∧ ∀ y1 ∈ y0, (Lit.int .u8 y1).wf = true)) ∧ (l0_1.length ≤ 9223372036854775807 ∧ ∀ y0 ∈ l0_1, ((Lit.int .i64 y0.f0).wf = true ∧ (y0.f1.length ≤ 9223372036854775807 ∧ ∀ y1 ∈ y0.f1, (Lit.int .u8 y1).wf = true))) ∧ (Lit.int .i64 a0_2).wf = true ∧ True) (h1 : (Lit.int .i64 a1).wf = true) :
    Calls Try.prog 5 #[.agg #[.slice A0_0 l0_0.length c0_0, .slice A0_1 l0_1.length c0_1, .int .i64 a0_2, .bool a0_3], .int .i64 a1] w fun e w' => e = .returned (.bool true) ∧ Below w.heap.size w w' := by
  have u0_0 := sumByteSS_pos l0_0
  have u0_1 := sumWrS_pos l0_1
  have u0_2 : sumDev l0_0 l0_1 = sumByteSS l0_0 + sumWrS l0_1 := rfl
  by_cases c0 : 1048576 < sumDev l0_0 l0_1
  · obtain ⟨_, A1⟩ : ∃ k : Nat, laws_szDev.f k l0_0 l0_1 a0_2 a0_3 1048576 = some (-1) := evGet (szDev_big l0_0 l0_1 a0_2 a0_3 _ ⟨h0.1.1, fun x hx => (h0.1.2 x hx).1⟩ ⟨h0.2.1.1, fun x hx => (h0.2.1.2 x hx).2.1⟩ (by omega) (by omega) c0)
    exact walkFnExactReadSecbig _ _ _ _ _ _ _ _ _ _ _ w hr0_0 hc0_0 hr0_1 hc0_1 A1 (by decide)
  obtain ⟨_, A1⟩ : ∃ k : Nat, laws_szDev.f k l0_0 l0_1 a0_2 a0_3 1048576 = some (1048576 - sumDev l0_0 l0_1) := evGet (szDev_fit l0_0 l0_1 a0_2 a0_3 _ ⟨h0.1.1, fun x hx => (h0.1.2 x hx).1⟩ ⟨h0.2.1.1, fun x hx => (h0.2.1.2 x hx).2.1⟩ (by omega) (by omega) c0)
  have i0_0 : inByteSS l0_0 := in_of_sumByteSS (by omega)
  have i0_1 : inWrS l0_1 := in_of_sumWrS (by omega)
  have o0_0 : okByteSS (convByteSS l0_0) := ok_of_inByteSS i0_0
  have q0_0 := cntByteSS_nn o0_0
  have o0_1 : okWrS (convWrS l0_1) := ok_of_inWrS i0_1
  have q0_1 := cntWrS_nn o0_1
  have oR0 : okByteS (readSec (convByteSS l0_0) (convWrS l0_1) a0_2 a1) := readSec_len _ _ o0_0 o0_1
  have qR0 := cntByteS_nn oR0
  obtain ⟨_, A2⟩ : ∃ k : Nat, laws_toDev.f k l0_0 l0_1 a0_2 a0_3 = some (((convByteSS l0_0)), ((convWrS l0_1)), a0_2, a0_3) := evGet (toDev_ev _ _ _ _ (by assumption) (by assumption))
  obtain ⟨_, A3⟩ : ∃ k : Nat, spec_ReadSec.f k ((convByteSS l0_0)) ((convWrS l0_1)) a0_2 a0_3 a1 = some (readSec (convByteSS l0_0) (convWrS l0_1) a0_2 a1) := evGet (spec_ReadSec_ev _ _ _ _ _ (by assumption) (by assumption))
  obtain ⟨_, A4⟩ : ∃ k : Nat, impl_ReadSec.f k ((convByteSS l0_0)) ((convWrS l0_1)) a0_2 a0_3 a1 = some (readSec (convByteSS l0_0) (convWrS l0_1) a0_2 a1) := evGet (impl_ReadSec_ev _ _ _ _ _ (by assumption) (by assumption))
  obtain ⟨_, A5⟩ : ∃ k : Nat, laws_eqByteS.f k (readSec (convByteSS l0_0) (convWrS l0_1) a0_2 a1) (readSec (convByteSS l0_0) (convWrS l0_1) a0_2 a1) = some true := evGet (eqByteS_ev _ (by assumption))
  obtain ⟨_, A6⟩ : ∃ k : Nat, laws_eqDev.f k ((convByteSS l0_0)) ((convWrS l0_1)) a0_2 a0_3 ((convByteSS l0_0)) ((convWrS l0_1)) a0_2 a0_3 = some true := evGet (eqDev_ev _ _ _ _ (by assumption) (by assumption))
  obtain ⟨_, A7⟩ : ∃ k : Nat, laws_markDev.f ((convByteSS l0_0)) ((convWrS l0_1)) 1 = some ((1 + (cntByteSS ((convByteSS l0_0)) + cntWrS ((convWrS l0_1)))), (mkByteSS ((convByteSS l0_0)) 1), (mkWrS ((convWrS l0_1)) (1 + cntByteSS ((convByteSS l0_0))))) := ⟨0, markDev_f (by assumption) (by assumption) (by omega) (by omega)⟩
  obtain ⟨_, A8⟩ : ∃ k : Nat, laws_markByteS.f k (readSec (convByteSS l0_0) (convWrS l0_1) a0_2 a1) 1 = some ((1 + cntByteS (readSec (convByteSS l0_0) (convWrS l0_1) a0_2 a1)), (mkByteS (readSec (convByteSS l0_0) (convWrS l0_1) a0_2 a1) 1)) := evGet (markByteS_ev _ _ (by assumption) (by omega) (by omega))
  obtain ⟨_, A9⟩ : ∃ k : Nat, laws_heldByteS.f k (mkByteS (readSec (convByteSS l0_0) (convWrS l0_1) a0_2 a1) 1) 1 = some (1 + cntByteS (readSec (convByteSS l0_0) (convWrS l0_1) a0_2 a1)) := evGet (heldByteS_ev _ _ (by assumption) (by omega) (by omega))
  exact walkFnExactReadSec _ _ _ _ _ _ _ _ _ _ _ _ _ _ _ _ _ _ _ _ _ _ _ _ _ _ _ _ _ w hr0_0 hc0_0 hr0_1 hc0_1 A1 A2 A3 A4 A5 A6 A7 A8 A9 (by omega) (by omega) (by omega)

end Go.Proofs.Ytilhcaofpfeioaa.Law
