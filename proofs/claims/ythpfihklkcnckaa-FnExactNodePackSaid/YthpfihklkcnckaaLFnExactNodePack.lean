/- The law: whatever its arguments, its own function answers true; the walk of its text, each call taken by its contract. -/
import Derived.Test.YthpfihklkcnckaaMFnExactNodePackx0
import Derived.Test.YthpfihklkcnckaaMFnExactNodePackx1
import Derived.Test.YthpfihklkcnckaaMFnExactNodePackx2
import Derived.Test.YthpfihklkcnckaaMFnExactNodePackx3
import Derived.Test.YthpfihklkcnckaaMFnExactNodePackx4
import Derived.Test.YthpfihklkcnckaaMFnExactNodePackx5
import Derived.Test.YthpfihklkcnckaaMFnExactNodePackx6
import Derived.Test.YthpfihklkcnckaaCore
import Derived.Test.YthpfihklkcnckaaMarks
import Derived.Test.YthpfihklkcnckaaPureFnExactNodePack
namespace Go.Proofs.Ythpfihklkcnckaa.Law
open Go.RowKit Go.Proofs.Ythpfihklkcnckaa.PFnExactNodePack Go.Proofs.Ythpfihklkcnckaa.Core Go.Proofs.YthpfihklkcnckaaW.PrintWords Go.Proofs.YthpfihklkcnckaaW.PrintLast Go.Proofs.YthpfihklkcnckaaW.PrintMore Go.Proofs.Ythpfihklkcnckaa.Pure
set_option linter.unusedSimpArgs false
set_option linter.unusedVariables false

def laws_markKeySS.f (l0 : List (List S27)) (a1 : Int) : Option (Int × List (List S27)) := if bulkKeySS l0 ≤ 4194304 ∧ 0 ≤ a1 ∧ a1 ≤ 1000000000000 then some (a1 + cntKeySS l0, mkKeySS l0 a1) else none
theorem markKeySS_f {l : List (List S27)} {a : Int} (ho : okKeySS l) (h0 : 0 ≤ a) (h1 : a ≤ 1000000000000) : laws_markKeySS.f l a = some (a + cntKeySS l, mkKeySS l a) := if_pos ⟨ho, h0, h1⟩
set_option maxHeartbeats 4000000 in
set_option maxRecDepth 100000 in
/-- Each inner row is marked in turn; the rows lie apart, so that each stays as it was marked. -/
theorem laws_markKeySS.calls (P0_ : Nat → Prop) (u9000_ : Value) (l0 : List (List S27)) (a1 : Int) (r1 : Int) (r2 : List (List S27)) (w0 w : World) (hB : Below w0.heap.size w0 w) (ho0 : Kd.S (Kd.slice 27 k27) 40 w w0.heap.size P0_ u9000_ l0) (h : laws_markKeySS.f l0 a1 = some (r1, r2)) :
    Calls Try.prog 59 #[u9000_, .int .i64 a1] w fun e w' => e = .returned (.int .i64 r1) ∧ Kd.S (Kd.slice 27 k27) 40 w' w0.heap.size (fun k_ => (P0_ k_ ∨ w.heap.size ≤ k_)) u9000_ r2 ∧ Below w0.heap.size w0 w' ∧ Kept w w' (fun k_ => P0_ k_) := by
  unfold laws_markKeySS.f at h
  split at h
  case isFalse => cases h
  case isTrue hc =>
  obtain ⟨hok, h0, h1⟩ := hc
  replace hok : okKeySS l0 := hok
  obtain ⟨ll, rfl⟩ : ∃ y, y = l0 := ⟨_, rfl⟩
  obtain ⟨a, rfl⟩ : ∃ y, y = a1 := ⟨_, rfl⟩
  obtain ⟨P, rfl⟩ : ∃ y, y = P0_ := ⟨_, rfl⟩
  obtain ⟨u, rfl⟩ : ∃ y, y = u9000_ := ⟨_, rfl⟩
  have ho := ho0
  clear ho0
  injection h with h
  injection h with hr1 hr2
  subst hr1
  subst hr2
  have HL := Aside0.mk (okKeySS_len hok)
  have HOK := Aside0.mk hok
  have HC := Aside0.mk (cntKeySS_nn hok)
  have HO0 := Aside0.mk (show Kd.S (Kd.slice 27 k27) 40 w w0.heap.size (fun k_ => P k_ ∨ w.heap.size ≤ k_) u (midL mkKeyS cntKeyS ll a 0) from by rw [midL_zero]; exact Kd.S_mono ho (fun _ hk => .inl hk))
  obtain ⟨A, c, rfl⟩ := Kd.S_slice ho
  have HK := Aside0.mk (Kept.refl w P)
  have HB := Aside0.mk hB
  have H0 := Aside0.mk h0
  have H1 := Aside0.mk h1
  clear hB ho hok h0 h1
  go_enter Try.func59, Try.ntmps59
  go_wp2
  go_loopg [1, 5] ll.length (fun kq v1 v5 w' => ∃ (x1_1 x5_1 : Int), v1 = .int .i64 x1_1 ∧ v5 = .int .i64 x5_1 ∧ Aside0 (0 ≤ x5_1 ∧ x5_1 ≤ ll.length ∧ kq = ll.length - x5_1.toNat) ∧ Aside0 (x1_1 = a + cntKeySS (ll.take x5_1.toNat)) ∧ Aside0 (Kd.S (Kd.slice 27 k27) 40 w' w0.heap.size (fun k_ => P k_ ∨ w.heap.size ≤ k_) (.slice A ll.length c) (midL mkKeyS cntKeyS ll a x5_1.toNat)) ∧ Aside0 (Kept w w' P) ∧ Aside0 (Below w0.heap.size w0 w'))
  case atStart => exact ⟨a, 0, rfl, rfl, ⟨by omega⟩, ⟨by simp [cntKeySS, cntL]⟩, HO0, HK, HB⟩
  case round =>
    clear HO0 HK HB
    obtain ⟨x1_1, x5_1, rfl, rfl, HI, HX, HO, HK, HB⟩ := hrel
    by_cases c3 : x5_1 < (ll.length : Int)
    · have c3b0 : decide (x5_1 < (ll.length : Int)) = true := decide_eq_true c3
      have p1 : 0 ≤ x5_1 := HI.out.1
      obtain ⟨i, hi⟩ : ∃ i : Nat, i = x5_1.toNat := ⟨_, rfl⟩
      have hil : i < ll.length := by omega
      obtain ⟨go, co, eo, gb, gl, cl, HG⟩ := Kd.S_form HO.out (by rw [midL_length mkKeyS cntKeyS ll a _ (by omega)]; omega)
      rw [midL_length mkKeyS cntKeyS ll a _ (by omega)] at eo
      cases eo
      obtain ⟨oki, v, hoki, hR, hcell, hback⟩ := Mem.lent HO.out x5_1 p1 c3 (fun k hk => .inr (Nat.le_trans HK.out.1 hk))
      rw [← hi, midL_getD mkKeyS cntKeyS [] ll a i hil] at hR
      obtain ⟨Ai, ci, rfl⟩ := Kd.R_slice hR
      have ht := cntKeySS_take ll i
      have hx := HX.out
      rw [← hi] at hx
      have hc := HC.out
      have h0 := H0.out
      have h1 := H1.out
      obtain ⟨K, hK⟩ := markKeyS_ev (ll.getD i []) x1_1 (okKeySS_at HOK.out i hil) (by omega) (by omega)
      have hcall := laws_markKeyS.calls K oki _ (ll.getD i []) x1_1 (x1_1 + cntKeyS (ll.getD i [])) (mkKeyS (ll.getD i []) x1_1) w0 wr HB.out hR (hK K (Nat.le_refl _))
      have HCALL := Aside0.mk hcall
      have HN := Aside0.mk (show cntKeySS (ll.take (i + 1)) = cntKeySS (ll.take i) + cntKeyS (ll.getD i []) from cntL_take cntKeyS [] ll i hil)
      have HS := Aside0.mk (midL_set mkKeyS cntKeyS [] ll a i hil)
      have HBK := Aside0.mk hback
      have HOKI := Aside0.mk hoki
      have HI' := Aside0.mk hi
      have HX' := Aside0.mk hx
      have HIL := Aside0.mk hil
      have HE := Aside0.mk (show rdOf [] ll x5_1 = ll.getD i [] by unfold rdOf; rw [hi])
      clear hK hcall hback hoki hx hc h0 h1 ht hil hR
      clear HO
      replace p1 := eq_true p1
      replace c3 := eq_true c3
      generalize ll.getD i [] = y at *
      clear hi
      go_wp2_with (first | ((with_reducible refine gate_callee (f := 25) rfl ?_); refine goesL_ (some 17) rfl rfl Try.func25 (by kernel_rfl) rfl #[.slice Ai y.length ci, .int .i64 x1_1] rfl (by (try simp only [List.map_toArray, List.map_cons, List.map_nil]); first | done | rfl) ?_; refine HCALL.out.mono ?_; rintro e w1 ⟨rfl, hR1, hB1, hK1⟩; refine ⟨_, rfl, ?_⟩; have n0 := Aside0.mk (HBK.out w1 _ hK1 hR1); have n1 := Aside0.mk (Kept.then_ HK.out hK1 (fun k hk => HOKI.out k hk)); clear HK HB; have HO := n0; have HK := n1; have HB := Aside0.mk hB1; clear n0 n1 hK1 hR1 hB1))
      go_roundg (ll.length - (x5_1.toNat + 1))
      case measure => have := HI.out; have := HIL.out; have := HI'.out; omega
      case rel =>
        have hI := HI.out
        have hi := HI'.out
        have hil := HIL.out
        have hw : wrap64 (x5_1 + 1) = x5_1 + 1 := w64 (by omega) (by have := HL.out; omega)
        have ht : (x5_1 + 1).toNat = i + 1 := by omega
        refine ⟨_, x5_1 + 1, rfl, by first | rfl | (rw [hw]) | (simp [hw]), ⟨by omega⟩, ⟨?_⟩, ⟨?_⟩, HK, HB⟩
        · rw [ht, HN.out, HX'.out]; omega
        · have h := HO.out
          have hS : (midL mkKeyS cntKeyS ll a i).set i (mkKeyS y (a + cntKeySS (ll.take i))) = midL mkKeyS cntKeyS ll a (i + 1) := HS.out
          rw [← HX'.out] at hS
          rw [ht, ← hS, hi]
          exact h
    · have c3b0 : decide (x5_1 < (ll.length : Int)) = false := decide_eq_false c3
      have hI := HI.out
      have hx := HX.out
      have ho := HO.out
      have e1 : x5_1.toNat = ll.length := by omega
      rw [e1, List.take_length] at hx
      rw [e1, midL_all] at ho
      have HO' := Aside0.mk ho
      have HX' := Aside0.mk hx
      clear hI hx ho e1 c3
      go_wp2
      go_ret
      exact ⟨by rw [HX'.out]; rfl, HO'.out, HB.out, HK.out⟩
set_option maxHeartbeats 4000000 in
set_option maxRecDepth 100000 in
theorem laws_markNode.calls (P0_0_ : Nat → Prop) (u9000_ : Value) (l0_0 : List (List S27)) (a1 : Int) (r1 : Int) (r2 : List (List S27)) (w0 w : World) (hB : Below w0.heap.size w0 w) (ho0_0 : Kd.S (Kd.slice 27 k27) 40 w w0.heap.size P0_0_ u9000_ l0_0) (h : laws_markKeySS.f l0_0 a1 = some (r1, r2)) :
    Calls Try.prog 26 #[.agg #[u9000_], .int .i64 a1] w fun e w' => e = .returned (.int .i64 r1) ∧ Kd.S (Kd.slice 27 k27) 40 w' w0.heap.size (fun k_ => (P0_0_ k_ ∨ w.heap.size ≤ k_)) u9000_ r2 ∧ Below w0.heap.size w0 w' ∧ Kept w w' (fun k_ => P0_0_ k_) := by
  have hu := Try.underlying32
  obtain ⟨A, c, rfl⟩ := Kd.S_slice ho0_0
  have HO := Aside0.mk ho0_0
  have HB := Aside0.mk hB
  have H := Aside0.mk h
  clear ho0_0 hB h
  go_enter Try.func26, Try.ntmps26
  go_wp2_with (first | ((with_reducible refine gate_dst (N := 2) rfl ?_); refine box_event ?hg (N := 2) ?hd (cs := #[.slice A l0_0.length c]) (t := 32) ?hr ?_; (case hd => rfl); (case hg => rfl); (case hr => first | (go_simp; done) | (go_simp; rfl)); intro gb hg_ w1 hbox hb; have HBX := Aside0.mk hb; have hz : w1.cell? ⟨gb, 0, none⟩ = some (.slice A l0_0.length c) := (blk_cell hbox 0).trans rfl; clear hbox hb hg_) | ((with_reducible refine gate_callee (f := 59) rfl ?_); refine goesL_ (some 8) rfl rfl Try.func59 (by kernel_rfl) rfl #[.slice A l0_0.length c, .int .i64 a1] rfl (by (try simp only [List.map_toArray, List.map_cons, List.map_nil]); first | done | rfl) ?_; (with_reducible refine (laws_markKeySS.calls P0_0_ _ l0_0 a1 r1 r2 w0 w1 ?s1 ?s2 H.out).mono ?_); (case s1 => exact below_then HB.out HB.out.size HBX.out); (case s2 => exact Kd.S_below HO.out HBX.out); rintro e w2 ⟨rfl, hs, hb2, hk⟩; refine ⟨_, rfl, ?_⟩; have HS := Aside0.mk hs; have HB2 := Aside0.mk hb2; have HK := Aside0.mk hk; clear hs hb2 hk))
  go_ret
  exact ⟨rfl, Kd.S_mono HS.out (fun k_ hk => hk.imp (fun h => h) (fun h => Nat.le_trans HBX.out.size h)), HB2.out, (Kept.of_below HBX.out _).then_ HK.out (fun k_ hk => .inl hk)⟩

set_option maxHeartbeats 8000000 in
set_option maxRecDepth 100000 in
theorem walkFnExactNodePackbig (A0_0 : Option Addr) (c0_0 : Nat) (l0_0 : List (List (S50))) (k1 : Nat) (r1_0 : Int) (w : World) (hr0_0 : Kd.C (Kd.slice 50 k50) w A0_0 l0_0.length l0_0) (hc0_0 : l0_0.length ≤ c0_0) (A1x : laws_szNode.f k1 l0_0 1048576 = some r1_0) (pr1_0 : r1_0 < 0) :
    Calls Try.prog 7 #[.agg #[.slice A0_0 l0_0.length c0_0]] w fun e w' => e = .returned (.bool true) ∧ Below w.heap.size w w' := by
  have hu24 := Try.underlying24
  have HR0_0 := Aside0.mk hr0_0
  have HC0_0 := Aside0.mk hc0_0
  clear hr0_0 hc0_0
  have A1 := Aside0.mk A1x
  clear A1x
  have dr1_0 : decide (r1_0 < 0) = true := by simp; omega
  clear pr1_0
  have HB := Aside0.mk (Below.refl w.heap.size w)
  have HORD := Aside0.mk (Nat.le_refl w.heap.size)
  have HT := Aside0.mk (Nat.le_refl w.heap.size)
  go_enter Try.func7, Try.ntmps7
  go_wp2_with (first | ((with_reducible refine gate_dst (N := 1) rfl ?_); refine box_event ?hg (N := 1) ?hd (cs := #[.slice A0_0 l0_0.length c0_0]) (t := 24) ?hr ?_; (case hd => rfl); (case hg => rfl); (case hr => first | (go_simp; done) | (go_simp; rfl)); intro gb1 hg_ w1 hbox hb; have hge_ : w.heap.size ≤ gb1 := (by rw [hg_]; exact HT.out); have hlt_ : gb1 + 1 ≤ w1.heap.size := blk_lt hbox; have n0_ := Aside0.mk (below_step HB.out hb); have n1_ := Aside0.mk (hbox); have n2_ := Aside0.mk (And.intro HORD.out (And.intro hge_ (Nat.le_succ gb1))); have n3_ := Aside0.mk (hlt_); (try clear HB); (try clear BK1); (try clear HORD); (try clear HT); have HB := n0_; have BK1 := n1_; have HORD := n2_; have HT := n3_; clear n0_ n1_ n2_ n3_; clear hb hbox hg_ hge_ hlt_; have hzgb1_0_1 : w1.cell? ⟨gb1, 0, none⟩ = some (.slice A0_0 l0_0.length c0_0) := (blk_cell BK1.out 0).trans rfl; have hygb1_0_1 := blk_frozen BK1.out 0) | ((with_reducible refine gate_callee (f := 14) rfl ?_); refine goesL_ (some 13) rfl rfl Try.func14 (by kernel_rfl) rfl #[.agg #[.slice A0_0 l0_0.length c0_0], .int .i64 1048576] rfl (by (try simp only [List.map_toArray, List.map_cons, List.map_nil]); first | done | rfl | (simp only [List.length_drop, List.length_take]; rfl)) ?_; (with_reducible refine (laws_szNode.calls k1 _ _ l0_0 1048576 r1_0 _ ?s1 ?s2 A1.out).mono ?_); (case s1 => exact (Kd.C_below HR0_0.out HB.out)); (case s2 => exact HC0_0.out); rintro e_ w2 ⟨rfl, hb⟩; refine ⟨_, rfl, ?_⟩; have n0_ := Aside0.mk (blk_below BK1.out hb); have n1_ := Aside0.mk (below_step HB.out hb); have n2_ := Aside0.mk (Nat.le_trans HT.out hb.size); (try clear BK1); (try clear HB); (try clear HT); have BK1 := n0_; have HB := n1_; have HT := n2_; clear n0_ n1_ n2_; (try clear hb); have hzgb1_0_2 : w2.cell? ⟨gb1, 0, none⟩ = some (.slice A0_0 l0_0.length c0_0) := (blk_cell BK1.out 0).trans rfl; have hygb1_0_2 := blk_frozen BK1.out 0))
  have hres_ := @results_tmp Try.f7 2 (by kernel_rfl)
  refine bodyPost_ret (fn := Try.f7) (P := Try.prog) (hres_ _ _ _) rfl ?_
  exact ⟨rfl, HB.out⟩
set_option maxHeartbeats 8000000 in
set_option maxRecDepth 100000 in
theorem walkFnExactNodePack (A0_0 : Option Addr) (c0_0 : Nat) (l0_0 : List (List (S50))) (k1 : Nat) (k2 : Nat) (k3 : Nat) (k4 : Nat) (k5 : Nat) (k6 : Nat) (k9 : Nat) (r1_0 : Int) (r2_0 : List (List (S27))) (r3_0 : List (List (S27))) (r4_0 : List (List (S27))) (r7_1 : Int) (r7_2 : List (List S27)) (r8_1 : Int) (r8_2 : List (List S27)) (w : World) (hr0_0 : Kd.C (Kd.slice 50 k50) w A0_0 l0_0.length l0_0) (hc0_0 : l0_0.length ≤ c0_0) (A1x : laws_szNode.f k1 l0_0 1048576 = some r1_0) (A2x : laws_toNode.f k2 l0_0 = some r2_0) (A3x : spec_NodePack.f k3 r2_0 = some r3_0) (A4x : impl_NodePack.f k4 r2_0 = some r4_0) (A5x : laws_eqNode.f k5 r4_0 r3_0 = some true) (A6x : laws_eqNode.f k6 r2_0 r2_0 = some true) (A7x : laws_markKeySS.f r2_0 1 = some (r7_1, r7_2)) (A8x : laws_markKeySS.f r4_0 1 = some (r8_1, r8_2)) (A9x : laws_heldNode.f k9 r8_2 1 = some r8_1) (pr1_0 : 0 ≤ r1_0) (pr7_1 : 0 ≤ r7_1) (pr8_1 : 0 ≤ r8_1) :
    Calls Try.prog 7 #[.agg #[.slice A0_0 l0_0.length c0_0]] w fun e w' => e = .returned (.bool true) ∧ Below w.heap.size w w' := by
  have hu24 := Try.underlying24
  have hu32 := Try.underlying32
  have HR0_0 := Aside0.mk hr0_0
  have HC0_0 := Aside0.mk hc0_0
  clear hr0_0 hc0_0
  have A1 := Aside0.mk A1x
  clear A1x
  have A2 := Aside0.mk A2x
  clear A2x
  have A3 := Aside0.mk A3x
  clear A3x
  have A4 := Aside0.mk A4x
  clear A4x
  have A5 := Aside0.mk A5x
  clear A5x
  have A6 := Aside0.mk A6x
  clear A6x
  have A7 := Aside0.mk A7x
  clear A7x
  have A8 := Aside0.mk A8x
  clear A8x
  have A9 := Aside0.mk A9x
  clear A9x
  have dr1_0 : decide (r1_0 < 0) = false := by simp; omega
  clear pr1_0
  have dr7_1 : decide (r7_1 < 0) = false := by simp; omega
  clear pr7_1
  have dr8_1 : decide (r8_1 < 0) = false := by simp; omega
  clear pr8_1
  have HB := Aside0.mk (Below.refl w.heap.size w)
  have HORD := Aside0.mk (Nat.le_refl w.heap.size)
  have HT := Aside0.mk (Nat.le_refl w.heap.size)
  go_enter Try.func7, Try.ntmps7
  go_wp2_with (first | ((with_reducible refine gate_dst (N := 1) rfl ?_); refine box_event ?hg (N := 1) ?hd (cs := #[.slice A0_0 l0_0.length c0_0]) (t := 24) ?hr ?_; (case hd => rfl); (case hg => rfl); (case hr => first | (go_simp; done) | (go_simp; rfl)); intro gb1 hg_ w1 hbox hb; have hge_ : w.heap.size ≤ gb1 := (by rw [hg_]; exact HT.out); have hlt_ : gb1 + 1 ≤ w1.heap.size := blk_lt hbox; have n0_ := Aside0.mk (below_step HB.out hb); have n1_ := Aside0.mk (hbox); have n2_ := Aside0.mk (And.intro HORD.out (And.intro hge_ (Nat.le_succ gb1))); have n3_ := Aside0.mk (hlt_); (try clear HB); (try clear BK1); (try clear HORD); (try clear HT); have HB := n0_; have BK1 := n1_; have HORD := n2_; have HT := n3_; clear n0_ n1_ n2_ n3_; clear hb hbox hg_ hge_ hlt_; have hzgb1_0_1 : w1.cell? ⟨gb1, 0, none⟩ = some (.slice A0_0 l0_0.length c0_0) := (blk_cell BK1.out 0).trans rfl; have hygb1_0_1 := blk_frozen BK1.out 0) | ((with_reducible refine gate_callee (f := 14) rfl ?_); refine goesL_ (some 13) rfl rfl Try.func14 (by kernel_rfl) rfl #[.agg #[.slice A0_0 l0_0.length c0_0], .int .i64 1048576] rfl (by (try simp only [List.map_toArray, List.map_cons, List.map_nil]); first | done | rfl | (simp only [List.length_drop, List.length_take]; rfl)) ?_; (with_reducible refine (laws_szNode.calls k1 _ _ l0_0 1048576 r1_0 _ ?s1 ?s2 A1.out).mono ?_); (case s1 => exact (Kd.C_below HR0_0.out HB.out)); (case s2 => exact HC0_0.out); rintro e_ w2 ⟨rfl, hb⟩; refine ⟨_, rfl, ?_⟩; have n0_ := Aside0.mk (blk_below BK1.out hb); have n1_ := Aside0.mk (below_step HB.out hb); have n2_ := Aside0.mk (Nat.le_trans HT.out hb.size); (try clear BK1); (try clear HB); (try clear HT); have BK1 := n0_; have HB := n1_; have HT := n2_; clear n0_ n1_ n2_; (try clear hb); have hzgb1_0_2 : w2.cell? ⟨gb1, 0, none⟩ = some (.slice A0_0 l0_0.length c0_0) := (blk_cell BK1.out 0).trans rfl; have hygb1_0_2 := blk_frozen BK1.out 0) | ((with_reducible refine gate_callee (f := 16) rfl ?_); refine goesL_ (some 17) rfl rfl Try.func16 (by kernel_rfl) rfl #[.agg #[.slice A0_0 l0_0.length c0_0]] rfl (by (try simp only [List.map_toArray, List.map_cons, List.map_nil]); first | done | rfl | (simp only [List.length_drop, List.length_take]; rfl)) ?_; (with_reducible refine (laws_toNode.calls k2 _ _ l0_0 r2_0 _ ?s1 ?s2 A2.out).mono ?_); (case s1 => exact (Kd.C_below HR0_0.out HB.out)); (case s2 => exact HC0_0.out); rintro e_ w3 ⟨v0_, rfl, ho0, hb⟩; refine ⟨_, rfl, ?_⟩; obtain ⟨lo3, hi3, el_, eh_, ol_, oh_⟩ := Mem.times HT.out hb; (try rw [← el_] at ho0); obtain ⟨A3_0, c3_0, ev_, hc0_, hf0_, hs0_⟩ := Mem.new_S ho0 eh_; subst ev_; have n0_ := Aside0.mk (blk_below BK1.out hb); have n1_ := Aside0.mk (below_step HB.out hb); have n2_ := Aside0.mk (hf0_); have n3_ := Aside0.mk (hc0_); have n4_ := Aside0.mk (hs0_); have n5_ := Aside0.mk (And.intro HORD.out (And.intro ol_ oh_)); have n6_ := Aside0.mk (Nat.le_of_eq eh_); (try clear BK1); (try clear HB); (try clear HF3_0); (try clear HC3_0); (try clear HS3_0); (try clear HORD); (try clear HT); have BK1 := n0_; have HB := n1_; have HF3_0 := n2_; have HC3_0 := n3_; have HS3_0 := n4_; have HORD := n5_; have HT := n6_; clear n0_ n1_ n2_ n3_ n4_ n5_ n6_; clear ol_ oh_ el_ eh_ ho0 hf0_ hc0_ hs0_; (try clear hb); have hzgb1_0_3 : w3.cell? ⟨gb1, 0, none⟩ = some (.slice A0_0 l0_0.length c0_0) := (blk_cell BK1.out 0).trans rfl; have hygb1_0_3 := blk_frozen BK1.out 0) | ((with_reducible refine gate_callee (f := 33) rfl ?_); refine goesL_ (some 18) rfl rfl Try.func33 (by kernel_rfl) rfl #[.agg #[.slice A3_0 r2_0.length c3_0]] rfl (by (try simp only [List.map_toArray, List.map_cons, List.map_nil]); first | done | rfl | (simp only [List.length_drop, List.length_take]; rfl)) ?_; (with_reducible refine (spec_NodePack.calls k3 _ _ r2_0 r3_0 _ ?s1 ?s2 A3.out).mono ?_); (case s1 => exact (Kd.F_now HF3_0.out)); (case s2 => exact HC3_0.out); rintro e_ w4 ⟨v0_, rfl, ho0, hb⟩; refine ⟨_, rfl, ?_⟩; obtain ⟨lo4, hi4, el_, eh_, ol_, oh_⟩ := Mem.times HT.out hb; (try rw [← el_] at ho0); obtain ⟨A4_0, c4_0, ev_, hc0_, hf0_⟩ := Mem.new_N ho0 eh_; subst ev_; have n0_ := Aside0.mk (blk_below BK1.out hb); have n1_ := Aside0.mk (below_step HB.out hb); have n2_ := Aside0.mk (hf0_); have n3_ := Aside0.mk (hc0_); have n4_ := Aside0.mk (And.intro HORD.out (And.intro ol_ oh_)); have n5_ := Aside0.mk (Nat.le_of_eq eh_); (try clear HF3_0); (try clear HS3_0); (try clear HC3_0); (try clear BK1); (try clear HB); (try clear HF4_0); (try clear HC4_0); (try clear HORD); (try clear HT); have BK1 := n0_; have HB := n1_; have HF4_0 := n2_; have HC4_0 := n3_; have HORD := n4_; have HT := n5_; clear n0_ n1_ n2_ n3_ n4_ n5_; clear ol_ oh_ el_ eh_ ho0 hf0_ hc0_; (try clear hb); have hzgb1_0_4 : w4.cell? ⟨gb1, 0, none⟩ = some (.slice A0_0 l0_0.length c0_0) := (blk_cell BK1.out 0).trans rfl; have hygb1_0_4 := blk_frozen BK1.out 0) | ((with_reducible refine gate_dst (N := 4) rfl ?_); refine box_event ?hg (N := 4) ?hd (cs := #[.slice none 0 0]) (t := 32) ?hr ?_; (case hd => rfl); (case hg => rfl); (case hr => first | (go_simp; done) | (go_simp; rfl)); intro gb5 hg_ w5 hbox hb; have hge_ : hi4 ≤ gb5 := (by rw [hg_]; exact HT.out); have hlt_ : gb5 + 1 ≤ w5.heap.size := blk_lt hbox; have n0_ := Aside0.mk (Kd.F_below HF4_0.out hb); have n1_ := Aside0.mk (blk_below BK1.out hb); have n2_ := Aside0.mk (below_step HB.out hb); have n3_ := Aside0.mk (hbox); have n4_ := Aside0.mk (And.intro HORD.out (And.intro hge_ (Nat.le_succ gb5))); have n5_ := Aside0.mk (hlt_); (try clear HF4_0); (try clear BK1); (try clear HB); (try clear BK5); (try clear HORD); (try clear HT); have HF4_0 := n0_; have BK1 := n1_; have HB := n2_; have BK5 := n3_; have HORD := n4_; have HT := n5_; clear n0_ n1_ n2_ n3_ n4_ n5_; clear hb hbox hg_ hge_ hlt_; have hzgb1_0_5 : w5.cell? ⟨gb1, 0, none⟩ = some (.slice A0_0 l0_0.length c0_0) := (blk_cell BK1.out 0).trans rfl; have hygb1_0_5 := blk_frozen BK1.out 0; have hzgb5_0_5 : w5.cell? ⟨gb5, 0, none⟩ = some (.slice none 0 0) := (blk_cell BK5.out 0).trans rfl; have hygb5_0_5 := blk_frozen BK5.out 0) | ((with_reducible refine gate_store (t := 32) (p := 4) rfl ?_); refine store_event (t := 32) (p := 4) (v := ?vo_w6) (w1 := (w5.setCell ⟨gb5, 0, none⟩ (.slice A4_0 r3_0.length c4_0))) ?hg ?ho ?hn ?hr ?_; (case ho => rfl); (case hg => rfl); (case hn => rfl); (case hr => first | (go_simp; done) | (go_simp; rfl)); intro w6 hw_; have hkp : Kept w5 w6 (fun k_ => k_ = gb5) := (by rw [hw_]; exact Kept.setCell (Kept.refl w5 (fun k_ => k_ = gb5)) (.inl rfl) (.slice A4_0 r3_0.length c4_0)); have hge_ : w.heap.size ≤ gb5 := (by have o_ := HORD.out; (try unfold In at *); (try show _ ≠ _); omega); have hbn_ : Below w.heap.size w w6 := (by rw [hw_]; exact below_set (HB.out) hge_); have hbk_ : w6.heap[gb5]? = some (.cells #[.slice A4_0 r3_0.length c4_0] 32 (0, 0)) := (by rw [hw_]; exact blk_put (cs := #[.slice none 0 0]) (cs' := #[.slice A4_0 r3_0.length c4_0]) (BK5.out) 0 _ rfl); have hsz_ : (gb5 + 1) ≤ w6.heap.size := Nat.le_trans HT.out hkp.1; have n0_ := Aside0.mk (Kd.F_kept HF4_0.out hkp (fun k_ h1_ h2_ => by have o_ := HORD.out; unfold In at h1_; omega)); have n1_ := Aside0.mk (blk_kept BK1.out hkp (fun h2_ => by have o_ := HORD.out; omega)); have n2_ := Aside0.mk (hbn_); have n3_ := Aside0.mk (hbk_); have n4_ := Aside0.mk (hsz_); (try clear HF4_0); (try clear BK1); (try clear HB); (try clear BK5); (try clear HT); have HF4_0 := n0_; have BK1 := n1_; have HB := n2_; have BK5 := n3_; have HT := n4_; clear n0_ n1_ n2_ n3_ n4_; clear hw_ hkp hge_ hbn_ hbk_ hsz_; have hzgb1_0_6 : w6.cell? ⟨gb1, 0, none⟩ = some (.slice A0_0 l0_0.length c0_0) := (blk_cell BK1.out 0).trans rfl; have hygb1_0_6 := blk_frozen BK1.out 0; have hzgb5_0_6 : w6.cell? ⟨gb5, 0, none⟩ = some (.slice A4_0 r3_0.length c4_0) := (blk_cell BK5.out 0).trans rfl; have hygb5_0_6 := blk_frozen BK5.out 0) | ((with_reducible refine gate_callee (f := 16) rfl ?_); refine goesL_ (some 20) rfl rfl Try.func16 (by kernel_rfl) rfl #[.agg #[.slice A0_0 l0_0.length c0_0]] rfl (by (try simp only [List.map_toArray, List.map_cons, List.map_nil]); first | done | rfl | (simp only [List.length_drop, List.length_take]; rfl)) ?_; (with_reducible refine (laws_toNode.calls k2 _ _ l0_0 r2_0 _ ?s1 ?s2 A2.out).mono ?_); (case s1 => exact (Kd.C_below HR0_0.out HB.out)); (case s2 => exact HC0_0.out); rintro e_ w7 ⟨v0_, rfl, ho0, hb⟩; refine ⟨_, rfl, ?_⟩; obtain ⟨lo7, hi7, el_, eh_, ol_, oh_⟩ := Mem.times HT.out hb; (try rw [← el_] at ho0); obtain ⟨A7_0, c7_0, ev_, hc0_, hf0_, hs0_⟩ := Mem.new_S ho0 eh_; subst ev_; have n0_ := Aside0.mk (Kd.F_below HF4_0.out hb); have n1_ := Aside0.mk (blk_below BK1.out hb); have n2_ := Aside0.mk (blk_below BK5.out hb); have n3_ := Aside0.mk (below_step HB.out hb); have n4_ := Aside0.mk (hf0_); have n5_ := Aside0.mk (hc0_); have n6_ := Aside0.mk (hs0_); have n7_ := Aside0.mk (And.intro HORD.out (And.intro ol_ oh_)); have n8_ := Aside0.mk (Nat.le_of_eq eh_); (try clear HF4_0); (try clear BK1); (try clear BK5); (try clear HB); (try clear HF7_0); (try clear HC7_0); (try clear HS7_0); (try clear HORD); (try clear HT); have HF4_0 := n0_; have BK1 := n1_; have BK5 := n2_; have HB := n3_; have HF7_0 := n4_; have HC7_0 := n5_; have HS7_0 := n6_; have HORD := n7_; have HT := n8_; clear n0_ n1_ n2_ n3_ n4_ n5_ n6_ n7_ n8_; clear ol_ oh_ el_ eh_ ho0 hf0_ hc0_ hs0_; (try clear hb); have hzgb1_0_7 : w7.cell? ⟨gb1, 0, none⟩ = some (.slice A0_0 l0_0.length c0_0) := (blk_cell BK1.out 0).trans rfl; have hygb1_0_7 := blk_frozen BK1.out 0; have hzgb5_0_7 : w7.cell? ⟨gb5, 0, none⟩ = some (.slice A4_0 r3_0.length c4_0) := (blk_cell BK5.out 0).trans rfl; have hygb5_0_7 := blk_frozen BK5.out 0) | ((with_reducible refine gate_dst (N := 5) rfl ?_); refine box_event ?hg (N := 5) ?hd (cs := #[.slice none 0 0]) (t := 32) ?hr ?_; (case hd => rfl); (case hg => rfl); (case hr => first | (go_simp; done) | (go_simp; rfl)); intro gb8 hg_ w8 hbox hb; have hge_ : hi7 ≤ gb8 := (by rw [hg_]; exact HT.out); have hlt_ : gb8 + 1 ≤ w8.heap.size := blk_lt hbox; have n0_ := Aside0.mk (Kd.F_below HF4_0.out hb); have n1_ := Aside0.mk (Kd.F_below HF7_0.out hb); have n2_ := Aside0.mk (Kd.S_below HS7_0.out hb); have n3_ := Aside0.mk (blk_below BK1.out hb); have n4_ := Aside0.mk (blk_below BK5.out hb); have n5_ := Aside0.mk (below_step HB.out hb); have n6_ := Aside0.mk (hbox); have n7_ := Aside0.mk (And.intro HORD.out (And.intro hge_ (Nat.le_succ gb8))); have n8_ := Aside0.mk (hlt_); (try clear HF4_0); (try clear HF7_0); (try clear HS7_0); (try clear BK1); (try clear BK5); (try clear HB); (try clear BK8); (try clear HORD); (try clear HT); have HF4_0 := n0_; have HF7_0 := n1_; have HS7_0 := n2_; have BK1 := n3_; have BK5 := n4_; have HB := n5_; have BK8 := n6_; have HORD := n7_; have HT := n8_; clear n0_ n1_ n2_ n3_ n4_ n5_ n6_ n7_ n8_; clear hb hbox hg_ hge_ hlt_; have hzgb1_0_8 : w8.cell? ⟨gb1, 0, none⟩ = some (.slice A0_0 l0_0.length c0_0) := (blk_cell BK1.out 0).trans rfl; have hygb1_0_8 := blk_frozen BK1.out 0; have hzgb5_0_8 : w8.cell? ⟨gb5, 0, none⟩ = some (.slice A4_0 r3_0.length c4_0) := (blk_cell BK5.out 0).trans rfl; have hygb5_0_8 := blk_frozen BK5.out 0; have hzgb8_0_8 : w8.cell? ⟨gb8, 0, none⟩ = some (.slice none 0 0) := (blk_cell BK8.out 0).trans rfl; have hygb8_0_8 := blk_frozen BK8.out 0) | ((with_reducible refine gate_store (t := 32) (p := 5) rfl ?_); refine store_event (t := 32) (p := 5) (v := ?vo_w9) (w1 := (w8.setCell ⟨gb8, 0, none⟩ (.slice A7_0 r2_0.length c7_0))) ?hg ?ho ?hn ?hr ?_; (case ho => rfl); (case hg => rfl); (case hn => rfl); (case hr => first | (go_simp; done) | (go_simp; rfl)); intro w9 hw_; have hkp : Kept w8 w9 (fun k_ => k_ = gb8) := (by rw [hw_]; exact Kept.setCell (Kept.refl w8 (fun k_ => k_ = gb8)) (.inl rfl) (.slice A7_0 r2_0.length c7_0)); have hge_ : w.heap.size ≤ gb8 := (by have o_ := HORD.out; (try unfold In at *); (try show _ ≠ _); omega); have hbn_ : Below w.heap.size w w9 := (by rw [hw_]; exact below_set (HB.out) hge_); have hbk_ : w9.heap[gb8]? = some (.cells #[.slice A7_0 r2_0.length c7_0] 32 (0, 0)) := (by rw [hw_]; exact blk_put (cs := #[.slice none 0 0]) (cs' := #[.slice A7_0 r2_0.length c7_0]) (BK8.out) 0 _ rfl); have hsz_ : (gb8 + 1) ≤ w9.heap.size := Nat.le_trans HT.out hkp.1; have n0_ := Aside0.mk (Kd.F_kept HF4_0.out hkp (fun k_ h1_ h2_ => by have o_ := HORD.out; unfold In at h1_; omega)); have n1_ := Aside0.mk (Kd.F_kept HF7_0.out hkp (fun k_ h1_ h2_ => by have o_ := HORD.out; unfold In at h1_; omega)); have n2_ := Aside0.mk (Kd.S_kept HS7_0.out hkp (fun k_ h1_ h2_ => by have o_ := HORD.out; unfold In at h1_; omega)); have n3_ := Aside0.mk (blk_kept BK1.out hkp (fun h2_ => by have o_ := HORD.out; omega)); have n4_ := Aside0.mk (blk_kept BK5.out hkp (fun h2_ => by have o_ := HORD.out; omega)); have n5_ := Aside0.mk (hbn_); have n6_ := Aside0.mk (hbk_); have n7_ := Aside0.mk (hsz_); (try clear HF4_0); (try clear HF7_0); (try clear HS7_0); (try clear BK1); (try clear BK5); (try clear HB); (try clear BK8); (try clear HT); have HF4_0 := n0_; have HF7_0 := n1_; have HS7_0 := n2_; have BK1 := n3_; have BK5 := n4_; have HB := n5_; have BK8 := n6_; have HT := n7_; clear n0_ n1_ n2_ n3_ n4_ n5_ n6_ n7_; clear hw_ hkp hge_ hbn_ hbk_ hsz_; have hzgb1_0_9 : w9.cell? ⟨gb1, 0, none⟩ = some (.slice A0_0 l0_0.length c0_0) := (blk_cell BK1.out 0).trans rfl; have hygb1_0_9 := blk_frozen BK1.out 0; have hzgb5_0_9 : w9.cell? ⟨gb5, 0, none⟩ = some (.slice A4_0 r3_0.length c4_0) := (blk_cell BK5.out 0).trans rfl; have hygb5_0_9 := blk_frozen BK5.out 0; have hzgb8_0_9 : w9.cell? ⟨gb8, 0, none⟩ = some (.slice A7_0 r2_0.length c7_0) := (blk_cell BK8.out 0).trans rfl; have hygb8_0_9 := blk_frozen BK8.out 0) | ((with_reducible refine gate_callee (f := 34) rfl ?_); refine goesL_ (some 22) rfl rfl Try.func34 (by kernel_rfl) rfl #[.agg #[.slice A7_0 r2_0.length c7_0]] rfl (by (try simp only [List.map_toArray, List.map_cons, List.map_nil]); first | done | rfl | (simp only [List.length_drop, List.length_take]; rfl)) ?_; (with_reducible refine (impl_NodePack.calls k4 _ _ r2_0 r4_0 _ ?s1 ?s2 A4.out).mono ?_); (case s1 => exact (Kd.F_now HF7_0.out)); (case s2 => exact HC7_0.out); rintro e_ w10 ⟨v0_, rfl, ho0, hb⟩; refine ⟨_, rfl, ?_⟩; obtain ⟨lo10, hi10, el_, eh_, ol_, oh_⟩ := Mem.times HT.out hb; (try rw [← el_] at ho0); obtain ⟨A10_0, c10_0, ev_, hc0_, hf0_, hs0_⟩ := Mem.new_S ho0 eh_; subst ev_; have n0_ := Aside0.mk (Kd.F_below HF4_0.out hb); have n1_ := Aside0.mk (Kd.F_below HF7_0.out hb); have n2_ := Aside0.mk (Kd.S_below HS7_0.out hb); have n3_ := Aside0.mk (blk_below BK1.out hb); have n4_ := Aside0.mk (blk_below BK5.out hb); have n5_ := Aside0.mk (blk_below BK8.out hb); have n6_ := Aside0.mk (below_step HB.out hb); have n7_ := Aside0.mk (hf0_); have n8_ := Aside0.mk (hc0_); have n9_ := Aside0.mk (hs0_); have n10_ := Aside0.mk (And.intro HORD.out (And.intro ol_ oh_)); have n11_ := Aside0.mk (Nat.le_of_eq eh_); (try clear HF4_0); (try clear HF7_0); (try clear HS7_0); (try clear BK1); (try clear BK5); (try clear BK8); (try clear HB); (try clear HF10_0); (try clear HC10_0); (try clear HS10_0); (try clear HORD); (try clear HT); have HF4_0 := n0_; have HF7_0 := n1_; have HS7_0 := n2_; have BK1 := n3_; have BK5 := n4_; have BK8 := n5_; have HB := n6_; have HF10_0 := n7_; have HC10_0 := n8_; have HS10_0 := n9_; have HORD := n10_; have HT := n11_; clear n0_ n1_ n2_ n3_ n4_ n5_ n6_ n7_ n8_ n9_ n10_ n11_; clear ol_ oh_ el_ eh_ ho0 hf0_ hc0_ hs0_; (try clear hb); have hzgb1_0_10 : w10.cell? ⟨gb1, 0, none⟩ = some (.slice A0_0 l0_0.length c0_0) := (blk_cell BK1.out 0).trans rfl; have hygb1_0_10 := blk_frozen BK1.out 0; have hzgb5_0_10 : w10.cell? ⟨gb5, 0, none⟩ = some (.slice A4_0 r3_0.length c4_0) := (blk_cell BK5.out 0).trans rfl; have hygb5_0_10 := blk_frozen BK5.out 0; have hzgb8_0_10 : w10.cell? ⟨gb8, 0, none⟩ = some (.slice A7_0 r2_0.length c7_0) := (blk_cell BK8.out 0).trans rfl; have hygb8_0_10 := blk_frozen BK8.out 0) | ((with_reducible refine gate_dst (N := 6) rfl ?_); refine box_event ?hg (N := 6) ?hd (cs := #[.slice none 0 0]) (t := 32) ?hr ?_; (case hd => rfl); (case hg => rfl); (case hr => first | (go_simp; done) | (go_simp; rfl)); intro gb11 hg_ w11 hbox hb; have hge_ : hi10 ≤ gb11 := (by rw [hg_]; exact HT.out); have hlt_ : gb11 + 1 ≤ w11.heap.size := blk_lt hbox; have n0_ := Aside0.mk (Kd.F_below HF4_0.out hb); have n1_ := Aside0.mk (Kd.F_below HF7_0.out hb); have n2_ := Aside0.mk (Kd.S_below HS7_0.out hb); have n3_ := Aside0.mk (Kd.F_below HF10_0.out hb); have n4_ := Aside0.mk (Kd.S_below HS10_0.out hb); have n5_ := Aside0.mk (blk_below BK1.out hb); have n6_ := Aside0.mk (blk_below BK5.out hb); have n7_ := Aside0.mk (blk_below BK8.out hb); have n8_ := Aside0.mk (below_step HB.out hb); have n9_ := Aside0.mk (hbox); have n10_ := Aside0.mk (And.intro HORD.out (And.intro hge_ (Nat.le_succ gb11))); have n11_ := Aside0.mk (hlt_); (try clear HF4_0); (try clear HF7_0); (try clear HS7_0); (try clear HF10_0); (try clear HS10_0); (try clear BK1); (try clear BK5); (try clear BK8); (try clear HB); (try clear BK11); (try clear HORD); (try clear HT); have HF4_0 := n0_; have HF7_0 := n1_; have HS7_0 := n2_; have HF10_0 := n3_; have HS10_0 := n4_; have BK1 := n5_; have BK5 := n6_; have BK8 := n7_; have HB := n8_; have BK11 := n9_; have HORD := n10_; have HT := n11_; clear n0_ n1_ n2_ n3_ n4_ n5_ n6_ n7_ n8_ n9_ n10_ n11_; clear hb hbox hg_ hge_ hlt_; have hzgb1_0_11 : w11.cell? ⟨gb1, 0, none⟩ = some (.slice A0_0 l0_0.length c0_0) := (blk_cell BK1.out 0).trans rfl; have hygb1_0_11 := blk_frozen BK1.out 0; have hzgb5_0_11 : w11.cell? ⟨gb5, 0, none⟩ = some (.slice A4_0 r3_0.length c4_0) := (blk_cell BK5.out 0).trans rfl; have hygb5_0_11 := blk_frozen BK5.out 0; have hzgb8_0_11 : w11.cell? ⟨gb8, 0, none⟩ = some (.slice A7_0 r2_0.length c7_0) := (blk_cell BK8.out 0).trans rfl; have hygb8_0_11 := blk_frozen BK8.out 0; have hzgb11_0_11 : w11.cell? ⟨gb11, 0, none⟩ = some (.slice none 0 0) := (blk_cell BK11.out 0).trans rfl; have hygb11_0_11 := blk_frozen BK11.out 0) | ((with_reducible refine gate_store (t := 32) (p := 6) rfl ?_); refine store_event (t := 32) (p := 6) (v := ?vo_w12) (w1 := (w11.setCell ⟨gb11, 0, none⟩ (.slice A10_0 r4_0.length c10_0))) ?hg ?ho ?hn ?hr ?_; (case ho => rfl); (case hg => rfl); (case hn => rfl); (case hr => first | (go_simp; done) | (go_simp; rfl)); intro w12 hw_; have hkp : Kept w11 w12 (fun k_ => k_ = gb11) := (by rw [hw_]; exact Kept.setCell (Kept.refl w11 (fun k_ => k_ = gb11)) (.inl rfl) (.slice A10_0 r4_0.length c10_0)); have hge_ : w.heap.size ≤ gb11 := (by have o_ := HORD.out; (try unfold In at *); (try show _ ≠ _); omega); have hbn_ : Below w.heap.size w w12 := (by rw [hw_]; exact below_set (HB.out) hge_); have hbk_ : w12.heap[gb11]? = some (.cells #[.slice A10_0 r4_0.length c10_0] 32 (0, 0)) := (by rw [hw_]; exact blk_put (cs := #[.slice none 0 0]) (cs' := #[.slice A10_0 r4_0.length c10_0]) (BK11.out) 0 _ rfl); have hsz_ : (gb11 + 1) ≤ w12.heap.size := Nat.le_trans HT.out hkp.1; have n0_ := Aside0.mk (Kd.F_kept HF4_0.out hkp (fun k_ h1_ h2_ => by have o_ := HORD.out; unfold In at h1_; omega)); have n1_ := Aside0.mk (Kd.F_kept HF7_0.out hkp (fun k_ h1_ h2_ => by have o_ := HORD.out; unfold In at h1_; omega)); have n2_ := Aside0.mk (Kd.S_kept HS7_0.out hkp (fun k_ h1_ h2_ => by have o_ := HORD.out; unfold In at h1_; omega)); have n3_ := Aside0.mk (Kd.F_kept HF10_0.out hkp (fun k_ h1_ h2_ => by have o_ := HORD.out; unfold In at h1_; omega)); have n4_ := Aside0.mk (Kd.S_kept HS10_0.out hkp (fun k_ h1_ h2_ => by have o_ := HORD.out; unfold In at h1_; omega)); have n5_ := Aside0.mk (blk_kept BK1.out hkp (fun h2_ => by have o_ := HORD.out; omega)); have n6_ := Aside0.mk (blk_kept BK5.out hkp (fun h2_ => by have o_ := HORD.out; omega)); have n7_ := Aside0.mk (blk_kept BK8.out hkp (fun h2_ => by have o_ := HORD.out; omega)); have n8_ := Aside0.mk (hbn_); have n9_ := Aside0.mk (hbk_); have n10_ := Aside0.mk (hsz_); (try clear HF4_0); (try clear HF7_0); (try clear HS7_0); (try clear HF10_0); (try clear HS10_0); (try clear BK1); (try clear BK5); (try clear BK8); (try clear HB); (try clear BK11); (try clear HT); have HF4_0 := n0_; have HF7_0 := n1_; have HS7_0 := n2_; have HF10_0 := n3_; have HS10_0 := n4_; have BK1 := n5_; have BK5 := n6_; have BK8 := n7_; have HB := n8_; have BK11 := n9_; have HT := n10_; clear n0_ n1_ n2_ n3_ n4_ n5_ n6_ n7_ n8_ n9_ n10_; clear hw_ hkp hge_ hbn_ hbk_ hsz_; have hzgb1_0_12 : w12.cell? ⟨gb1, 0, none⟩ = some (.slice A0_0 l0_0.length c0_0) := (blk_cell BK1.out 0).trans rfl; have hygb1_0_12 := blk_frozen BK1.out 0; have hzgb5_0_12 : w12.cell? ⟨gb5, 0, none⟩ = some (.slice A4_0 r3_0.length c4_0) := (blk_cell BK5.out 0).trans rfl; have hygb5_0_12 := blk_frozen BK5.out 0; have hzgb8_0_12 : w12.cell? ⟨gb8, 0, none⟩ = some (.slice A7_0 r2_0.length c7_0) := (blk_cell BK8.out 0).trans rfl; have hygb8_0_12 := blk_frozen BK8.out 0; have hzgb11_0_12 : w12.cell? ⟨gb11, 0, none⟩ = some (.slice A10_0 r4_0.length c10_0) := (blk_cell BK11.out 0).trans rfl; have hygb11_0_12 := blk_frozen BK11.out 0) | ((with_reducible refine gate_callee (f := 19) rfl ?_); refine goesL_ (some 25) rfl rfl Try.func19 (by kernel_rfl) rfl #[.agg #[.slice A10_0 r4_0.length c10_0], .agg #[.slice A4_0 r3_0.length c4_0]] rfl (by (try simp only [List.map_toArray, List.map_cons, List.map_nil]); first | done | rfl | (simp only [List.length_drop, List.length_take]; rfl)) ?_; (with_reducible refine (laws_eqNode.calls k5 _ _ r4_0 _ _ r3_0 true _ ?s1 ?s2 ?s3 ?s4 A5.out).mono ?_); (case s1 => exact (Kd.F_now HF10_0.out)); (case s2 => exact HC10_0.out); (case s3 => exact (Kd.F_now HF4_0.out)); (case s4 => exact HC4_0.out); rintro e_ w13 ⟨rfl, hb⟩; refine ⟨_, rfl, ?_⟩; have n0_ := Aside0.mk (Kd.F_below HF4_0.out hb); have n1_ := Aside0.mk (Kd.F_below HF7_0.out hb); have n2_ := Aside0.mk (Kd.S_below HS7_0.out hb); have n3_ := Aside0.mk (Kd.F_below HF10_0.out hb); have n4_ := Aside0.mk (Kd.S_below HS10_0.out hb); have n5_ := Aside0.mk (blk_below BK1.out hb); have n6_ := Aside0.mk (blk_below BK5.out hb); have n7_ := Aside0.mk (blk_below BK8.out hb); have n8_ := Aside0.mk (blk_below BK11.out hb); have n9_ := Aside0.mk (below_step HB.out hb); have n10_ := Aside0.mk (Nat.le_trans HT.out hb.size); (try clear HF4_0); (try clear HF7_0); (try clear HS7_0); (try clear HF10_0); (try clear HS10_0); (try clear BK1); (try clear BK5); (try clear BK8); (try clear BK11); (try clear HB); (try clear HT); have HF4_0 := n0_; have HF7_0 := n1_; have HS7_0 := n2_; have HF10_0 := n3_; have HS10_0 := n4_; have BK1 := n5_; have BK5 := n6_; have BK8 := n7_; have BK11 := n8_; have HB := n9_; have HT := n10_; clear n0_ n1_ n2_ n3_ n4_ n5_ n6_ n7_ n8_ n9_ n10_; (try clear hb); have hzgb1_0_13 : w13.cell? ⟨gb1, 0, none⟩ = some (.slice A0_0 l0_0.length c0_0) := (blk_cell BK1.out 0).trans rfl; have hygb1_0_13 := blk_frozen BK1.out 0; have hzgb5_0_13 : w13.cell? ⟨gb5, 0, none⟩ = some (.slice A4_0 r3_0.length c4_0) := (blk_cell BK5.out 0).trans rfl; have hygb5_0_13 := blk_frozen BK5.out 0; have hzgb8_0_13 : w13.cell? ⟨gb8, 0, none⟩ = some (.slice A7_0 r2_0.length c7_0) := (blk_cell BK8.out 0).trans rfl; have hygb8_0_13 := blk_frozen BK8.out 0; have hzgb11_0_13 : w13.cell? ⟨gb11, 0, none⟩ = some (.slice A10_0 r4_0.length c10_0) := (blk_cell BK11.out 0).trans rfl; have hygb11_0_13 := blk_frozen BK11.out 0))
  have n_ := Aside0.mk (Kd.F_drew HF4_0.out)
  clear HF4_0
  have HF4_0 := n_
  clear n_
  have n_ := Aside0.mk (Kd.F_drew HF7_0.out)
  clear HF7_0
  have HF7_0 := n_
  clear n_
  have n_ := Aside0.mk (Kd.S_drew HS7_0.out)
  clear HS7_0
  have HS7_0 := n_
  clear n_
  have n_ := Aside0.mk (Kd.F_drew HF10_0.out)
  clear HF10_0
  have HF10_0 := n_
  clear n_
  have n_ := Aside0.mk (Kd.S_drew HS10_0.out)
  clear HS10_0
  have HS10_0 := n_
  clear n_
  have n_ := Aside0.mk (blk_drew BK1.out)
  clear BK1
  have BK1 := n_
  clear n_
  have n_ := Aside0.mk (blk_drew BK5.out)
  clear BK5
  have BK5 := n_
  clear n_
  have n_ := Aside0.mk (blk_drew BK8.out)
  clear BK8
  have BK8 := n_
  clear n_
  have n_ := Aside0.mk (blk_drew BK11.out)
  clear BK11
  have BK11 := n_
  clear n_
  have n_ := Aside0.mk (below_drew1 HB.out)
  clear HB
  have HB := n_
  clear n_
  have n_ := Aside0.mk (show _ ≤ w13.drew.heap.size from HT.out)
  clear HT
  have HT := n_
  clear n_
  refine start_ (n := 5) (S := fun w' => w'.cell? ⟨gb8, 0, none⟩ = some (.slice A7_0 r2_0.length c7_0) ∧ w'.cell? ⟨gb1, 0, none⟩ = some (.slice A0_0 l0_0.length c0_0)) (ds := []) #[false, false, false, false, false] (by kernel_rfl) rfl rfl ⟨(blk_cell BK8.out 0).trans rfl, (blk_cell BK1.out 0).trans rfl⟩ (fun hHeld => ?_)
  generalize w13.drew = w14 at HF4_0 HF7_0 HS7_0 HF10_0 HS10_0 BK1 BK5 BK8 BK11 HB HT hHeld ⊢
  refine take_ (i := 0) (N := some 27) (v := ?_) (a' := ?_) #[true, false, false, false, false] rfl rfl (by kernel_rfl) (fun _ _ _ h => h) (Or.inl ⟨by rfl, ?_⟩) hHeld ?_ ?_
  rotate_left
  · rintro w' ⟨s0, s1⟩
    go_simp
    with_reducible rfl
  rotate_left
  · simp only [Act.put, List.setIfInBounds_toArray, List.set_cons_zero, List.set_cons_succ, i64_w, i32_w]
    rfl
  refine take_ (i := 1) (N := some 28) (v := ?_) (a' := ?_) #[true, true, false, false, false] rfl rfl (by kernel_rfl) (fun _ _ _ h => h) (Or.inl ⟨by rfl, ?_⟩) hHeld ?_ ?_
  rotate_left
  · rintro w' ⟨s0, s1⟩
    go_simp
    with_reducible rfl
  rotate_left
  · simp only [Act.put, List.setIfInBounds_toArray, List.set_cons_zero, List.set_cons_succ, i64_w, i32_w]
    rfl
  refine one_ (i := 2) (N := some 29) #[true, true, true, false, false] rfl rfl (by kernel_rfl) (by decide) (fun K hK => ?_)
  refine goes_ Try.func16 (by kernel_rfl) rfl #[.agg #[.slice A0_0 l0_0.length c0_0]] (by rfl) rfl rfl (by (try simp only [List.map_toArray, List.map_cons, List.map_nil]); first | done | rfl | (simp only [List.length_drop, List.length_take]; rfl)) ?_
  (with_reducible refine (laws_toNode.calls k2 _ _ l0_0 r2_0 _ ?s1 ?s2 A2.out).mono ?_)
  (case s1 => exact (Kd.C_below HR0_0.out HB.out))
  (case s2 => exact HC0_0.out)
  rintro e_ w15 ⟨v0_, rfl, ho0, hb⟩
  refine ⟨_, rfl, ?_⟩
  obtain ⟨lo15, hi15, el_, eh_, ol_, oh_⟩ := Mem.times HT.out hb
  (try rw [← el_] at ho0)
  obtain ⟨A15_0, c15_0, ev_, hc0_, hf0_, hs0_⟩ := Mem.new_S ho0 eh_
  subst ev_
  have n0_ := Aside0.mk (Kd.F_below HF4_0.out hb)
  have n1_ := Aside0.mk (Kd.F_below HF7_0.out hb)
  have n2_ := Aside0.mk (Kd.S_below HS7_0.out hb)
  have n3_ := Aside0.mk (Kd.F_below HF10_0.out hb)
  have n4_ := Aside0.mk (Kd.S_below HS10_0.out hb)
  have n5_ := Aside0.mk (blk_below BK1.out hb)
  have n6_ := Aside0.mk (blk_below BK5.out hb)
  have n7_ := Aside0.mk (blk_below BK8.out hb)
  have n8_ := Aside0.mk (blk_below BK11.out hb)
  have n9_ := Aside0.mk (below_step HB.out hb)
  have n10_ := Aside0.mk (hf0_)
  have n11_ := Aside0.mk (hc0_)
  have n12_ := Aside0.mk (hs0_)
  have n13_ := Aside0.mk (And.intro HORD.out (And.intro ol_ oh_))
  have n14_ := Aside0.mk (Nat.le_of_eq eh_)
  (try clear HF4_0)
  (try clear HF7_0)
  (try clear HS7_0)
  (try clear HF10_0)
  (try clear HS10_0)
  (try clear BK1)
  (try clear BK5)
  (try clear BK8)
  (try clear BK11)
  (try clear HB)
  (try clear HF15_0)
  (try clear HC15_0)
  (try clear HS15_0)
  (try clear HORD)
  (try clear HT)
  have HF4_0 := n0_
  have HF7_0 := n1_
  have HS7_0 := n2_
  have HF10_0 := n3_
  have HS10_0 := n4_
  have BK1 := n5_
  have BK5 := n6_
  have BK8 := n7_
  have BK11 := n8_
  have HB := n9_
  have HF15_0 := n10_
  have HC15_0 := n11_
  have HS15_0 := n12_
  have HORD := n13_
  have HT := n14_
  clear n0_ n1_ n2_ n3_ n4_ n5_ n6_ n7_ n8_ n9_ n10_ n11_ n12_ n13_ n14_
  clear ol_ oh_ el_ eh_ ho0 hf0_ hc0_ hs0_
  (try clear hb)
  refine hK.out _ _ ⟨(blk_cell BK8.out 0).trans rfl, (blk_cell BK1.out 0).trans rfl⟩ (fun hHeld => ?_)
  clear hK K
  refine norm_ (a' := ?_) ?_ ?_
  rotate_left
  · show Act.put _ (some 29) _ = _
    simp only [Act.put, List.setIfInBounds_toArray, List.set_cons_zero, List.set_cons_succ, i64_w, i32_w]
    rfl
  refine one_ (i := 3) (N := some 30) #[true, true, true, true, false] rfl rfl (by kernel_rfl) (by decide) (fun K hK => ?_)
  refine goes_ Try.func19 (by kernel_rfl) rfl #[.agg #[.slice A7_0 r2_0.length c7_0], .agg #[.slice A15_0 r2_0.length c15_0]] (by rfl) rfl rfl (by (try simp only [List.map_toArray, List.map_cons, List.map_nil]); first | done | rfl | (simp only [List.length_drop, List.length_take]; rfl)) ?_
  (with_reducible refine (laws_eqNode.calls k6 _ _ r2_0 _ _ r2_0 true _ ?s1 ?s2 ?s3 ?s4 A6.out).mono ?_)
  (case s1 => exact (Kd.F_now HF7_0.out))
  (case s2 => exact HC7_0.out)
  (case s3 => exact (Kd.F_now HF15_0.out))
  (case s4 => exact HC15_0.out)
  rintro e_ w16 ⟨rfl, hb⟩
  refine ⟨_, rfl, ?_⟩
  have n0_ := Aside0.mk (Kd.F_below HF4_0.out hb)
  have n1_ := Aside0.mk (Kd.F_below HF7_0.out hb)
  have n2_ := Aside0.mk (Kd.S_below HS7_0.out hb)
  have n3_ := Aside0.mk (Kd.F_below HF10_0.out hb)
  have n4_ := Aside0.mk (Kd.S_below HS10_0.out hb)
  have n5_ := Aside0.mk (blk_below BK1.out hb)
  have n6_ := Aside0.mk (blk_below BK5.out hb)
  have n7_ := Aside0.mk (blk_below BK8.out hb)
  have n8_ := Aside0.mk (blk_below BK11.out hb)
  have n9_ := Aside0.mk (below_step HB.out hb)
  have n10_ := Aside0.mk (Nat.le_trans HT.out hb.size)
  (try clear HF15_0)
  (try clear HS15_0)
  (try clear HC15_0)
  (try clear HF4_0)
  (try clear HF7_0)
  (try clear HS7_0)
  (try clear HF10_0)
  (try clear HS10_0)
  (try clear BK1)
  (try clear BK5)
  (try clear BK8)
  (try clear BK11)
  (try clear HB)
  (try clear HT)
  have HF4_0 := n0_
  have HF7_0 := n1_
  have HS7_0 := n2_
  have HF10_0 := n3_
  have HS10_0 := n4_
  have BK1 := n5_
  have BK5 := n6_
  have BK8 := n7_
  have BK11 := n8_
  have HB := n9_
  have HT := n10_
  clear n0_ n1_ n2_ n3_ n4_ n5_ n6_ n7_ n8_ n9_ n10_
  (try clear hb)
  refine hK.out _ _ ⟨(blk_cell BK8.out 0).trans rfl, (blk_cell BK1.out 0).trans rfl⟩ (fun hHeld => ?_)
  clear hK K
  refine norm_ (a' := ?_) ?_ ?_
  rotate_left
  · show Act.put _ (some 30) _ = _
    simp only [Act.put, List.setIfInBounds_toArray, List.set_cons_zero, List.set_cons_succ, i64_w, i32_w]
    rfl
  refine pure_ (i := 4) (N := some 31) (v := ?_) (a' := ?_) #[true, true, true, true, true] rfl rfl (by kernel_rfl) (fun _ _ _ h => h) (Or.inl ⟨by rfl, ?_⟩) ?_ ?_
  rotate_left
  · intro w'
    go_simp
    with_reducible rfl
  rotate_left
  · simp only [Act.put, List.setIfInBounds_toArray, List.set_cons_zero, List.set_cons_succ, i64_w, i32_w]
    rfl
  refine done_ (by kernel_rfl) ?_
  have hzgb1_0_16 : w16.cell? ⟨gb1, 0, none⟩ = some (.slice A0_0 l0_0.length c0_0) := (blk_cell BK1.out 0).trans rfl
  have hygb1_0_16 := blk_frozen BK1.out 0
  have hzgb5_0_16 : w16.cell? ⟨gb5, 0, none⟩ = some (.slice A4_0 r3_0.length c4_0) := (blk_cell BK5.out 0).trans rfl
  have hygb5_0_16 := blk_frozen BK5.out 0
  have hzgb8_0_16 : w16.cell? ⟨gb8, 0, none⟩ = some (.slice A7_0 r2_0.length c7_0) := (blk_cell BK8.out 0).trans rfl
  have hygb8_0_16 := blk_frozen BK8.out 0
  have hzgb11_0_16 : w16.cell? ⟨gb11, 0, none⟩ = some (.slice A10_0 r4_0.length c10_0) := (blk_cell BK11.out 0).trans rfl
  have hygb11_0_16 := blk_frozen BK11.out 0
  go_wp2_with (first | ((with_reducible refine gate_callee (f := 26) rfl ?_); refine goesL_ (some 34) rfl rfl Try.func26 (by kernel_rfl) rfl #[.agg #[.slice A7_0 r2_0.length c7_0], .int .i64 1] rfl (by (try simp only [List.map_toArray, List.map_cons, List.map_nil]); first | done | rfl | (simp only [List.length_drop, List.length_take]; rfl)) ?_; (with_reducible refine (laws_markNode.calls (In lo7 hi7) (.slice A7_0 r2_0.length c7_0) r2_0 1 r7_1 r7_2 w _ ?s1 ?s2 A7.out).mono ?_); (case s1 => exact HB.out); (case s2 => exact Kd.S_lower HS7_0.out (by have o_ := HORD.out; omega)); rintro e_ w17 ⟨rfl, ho0, hbn_, hkp⟩; refine ⟨_, rfl, ?_⟩; have hkq : Kept w16 w17 (In lo7 hi7) := Kept.mono hkp (fun k_ h_ => by first | exact h_ | (rcases h_ with h_ | h_ <;> exact h_)); have n0_ := Aside0.mk (Kd.F_kept HF4_0.out hkq (fun k_ h1_ h2_ => by have o_ := HORD.out; unfold In at h1_ h2_; omega)); have n1_ := Aside0.mk (Kd.F_kept HF10_0.out hkq (fun k_ h1_ h2_ => by have o_ := HORD.out; unfold In at h1_ h2_; omega)); have n2_ := Aside0.mk (Kd.S_kept HS10_0.out hkq (fun k_ h1_ h2_ => by have o_ := HORD.out; unfold In at h1_ h2_; omega)); have n3_ := Aside0.mk (blk_kept BK1.out hkq (fun h2_ => by have o_ := HORD.out; unfold In at h2_; omega)); have n4_ := Aside0.mk (blk_kept BK5.out hkq (fun h2_ => by have o_ := HORD.out; unfold In at h2_; omega)); have n5_ := Aside0.mk (blk_kept BK8.out hkq (fun h2_ => by have o_ := HORD.out; unfold In at h2_; omega)); have n6_ := Aside0.mk (blk_kept BK11.out hkq (fun h2_ => by have o_ := HORD.out; unfold In at h2_; omega)); have n7_ := Aside0.mk (hbn_); have n8_ := Aside0.mk (Nat.le_trans HT.out hkq.1); (try clear HF7_0); (try clear HS7_0); (try clear HC7_0); (try clear HF4_0); (try clear HF10_0); (try clear HS10_0); (try clear BK1); (try clear BK5); (try clear BK8); (try clear BK11); (try clear HB); (try clear HT); have HF4_0 := n0_; have HF10_0 := n1_; have HS10_0 := n2_; have BK1 := n3_; have BK5 := n4_; have BK8 := n5_; have BK11 := n6_; have HB := n7_; have HT := n8_; clear n0_ n1_ n2_ n3_ n4_ n5_ n6_ n7_ n8_; clear hbn_ hkp hkq ho0; have hzgb1_0_17 : w17.cell? ⟨gb1, 0, none⟩ = some (.slice A0_0 l0_0.length c0_0) := (blk_cell BK1.out 0).trans rfl; have hygb1_0_17 := blk_frozen BK1.out 0; have hzgb5_0_17 : w17.cell? ⟨gb5, 0, none⟩ = some (.slice A4_0 r3_0.length c4_0) := (blk_cell BK5.out 0).trans rfl; have hygb5_0_17 := blk_frozen BK5.out 0; have hzgb8_0_17 : w17.cell? ⟨gb8, 0, none⟩ = some (.slice A7_0 r2_0.length c7_0) := (blk_cell BK8.out 0).trans rfl; have hygb8_0_17 := blk_frozen BK8.out 0; have hzgb11_0_17 : w17.cell? ⟨gb11, 0, none⟩ = some (.slice A10_0 r4_0.length c10_0) := (blk_cell BK11.out 0).trans rfl; have hygb11_0_17 := blk_frozen BK11.out 0) | ((with_reducible refine gate_callee (f := 19) rfl ?_); refine gate_guard (by first | rfl | kernel_rfl) ?_; refine goesL_ (some 40) rfl rfl Try.func19 (by kernel_rfl) rfl #[.agg #[.slice A10_0 r4_0.length c10_0], .agg #[.slice A4_0 r3_0.length c4_0]] rfl (by (try simp only [List.map_toArray, List.map_cons, List.map_nil]); first | done | rfl | (simp only [List.length_drop, List.length_take]; rfl)) ?_; (with_reducible refine (laws_eqNode.calls k5 _ _ r4_0 _ _ r3_0 true _ ?s1 ?s2 ?s3 ?s4 A5.out).mono ?_); (case s1 => exact (Kd.F_now HF10_0.out)); (case s2 => exact HC10_0.out); (case s3 => exact (Kd.F_now HF4_0.out)); (case s4 => exact HC4_0.out); rintro e_ w18 ⟨rfl, hb⟩; refine ⟨_, rfl, ?_⟩; have n0_ := Aside0.mk (Kd.F_below HF4_0.out hb); have n1_ := Aside0.mk (Kd.F_below HF10_0.out hb); have n2_ := Aside0.mk (Kd.S_below HS10_0.out hb); have n3_ := Aside0.mk (blk_below BK1.out hb); have n4_ := Aside0.mk (blk_below BK5.out hb); have n5_ := Aside0.mk (blk_below BK8.out hb); have n6_ := Aside0.mk (blk_below BK11.out hb); have n7_ := Aside0.mk (below_step HB.out hb); have n8_ := Aside0.mk (Nat.le_trans HT.out hb.size); (try clear HF4_0); (try clear HF10_0); (try clear HS10_0); (try clear BK1); (try clear BK5); (try clear BK8); (try clear BK11); (try clear HB); (try clear HT); have HF4_0 := n0_; have HF10_0 := n1_; have HS10_0 := n2_; have BK1 := n3_; have BK5 := n4_; have BK8 := n5_; have BK11 := n6_; have HB := n7_; have HT := n8_; clear n0_ n1_ n2_ n3_ n4_ n5_ n6_ n7_ n8_; (try clear hb); have hzgb1_0_18 : w18.cell? ⟨gb1, 0, none⟩ = some (.slice A0_0 l0_0.length c0_0) := (blk_cell BK1.out 0).trans rfl; have hygb1_0_18 := blk_frozen BK1.out 0; have hzgb5_0_18 : w18.cell? ⟨gb5, 0, none⟩ = some (.slice A4_0 r3_0.length c4_0) := (blk_cell BK5.out 0).trans rfl; have hygb5_0_18 := blk_frozen BK5.out 0; have hzgb8_0_18 : w18.cell? ⟨gb8, 0, none⟩ = some (.slice A7_0 r2_0.length c7_0) := (blk_cell BK8.out 0).trans rfl; have hygb8_0_18 := blk_frozen BK8.out 0; have hzgb11_0_18 : w18.cell? ⟨gb11, 0, none⟩ = some (.slice A10_0 r4_0.length c10_0) := (blk_cell BK11.out 0).trans rfl; have hygb11_0_18 := blk_frozen BK11.out 0) | ((with_reducible refine gate_callee (f := 26) rfl ?_); refine goesL_ (some 45) rfl rfl Try.func26 (by kernel_rfl) rfl #[.agg #[.slice A10_0 r4_0.length c10_0], .int .i64 1] rfl (by (try simp only [List.map_toArray, List.map_cons, List.map_nil]); first | done | rfl | (simp only [List.length_drop, List.length_take]; rfl)) ?_; (with_reducible refine (laws_markNode.calls (In lo10 hi10) (.slice A10_0 r4_0.length c10_0) r4_0 1 r8_1 r8_2 w _ ?s1 ?s2 A8.out).mono ?_); (case s1 => exact HB.out); (case s2 => exact Kd.S_lower HS10_0.out (by have o_ := HORD.out; omega)); rintro e_ w19 ⟨rfl, ho0, hbn_, hkp⟩; refine ⟨_, rfl, ?_⟩; have hkq : Kept w18 w19 (In lo10 hi10) := Kept.mono hkp (fun k_ h_ => by first | exact h_ | (rcases h_ with h_ | h_ <;> exact h_)); obtain ⟨hi19, e2_⟩ : ∃ n_, n_ = w19.heap.size := ⟨_, rfl⟩; have ol_ : hi15 ≤ hi19 := (by rw [e2_]; exact Nat.le_trans HT.out hkq.1); obtain ⟨he0_, hc0_, hf0_⟩ := Mem.back_S (h2 := hi19) (lo := lo10) ho0 (by have o_ := HORD.out; have t_ := HT.out; omega) e2_; have n0_ := Aside0.mk (Kd.F_kept HF4_0.out hkq (fun k_ h1_ h2_ => by have o_ := HORD.out; unfold In at h1_ h2_; omega)); have n1_ := Aside0.mk (blk_kept BK1.out hkq (fun h2_ => by have o_ := HORD.out; unfold In at h2_; omega)); have n2_ := Aside0.mk (blk_kept BK5.out hkq (fun h2_ => by have o_ := HORD.out; unfold In at h2_; omega)); have n3_ := Aside0.mk (blk_kept BK8.out hkq (fun h2_ => by have o_ := HORD.out; unfold In at h2_; omega)); have n4_ := Aside0.mk (blk_kept BK11.out hkq (fun h2_ => by have o_ := HORD.out; unfold In at h2_; omega)); have n5_ := Aside0.mk (hbn_); have n6_ := Aside0.mk (And.intro HORD.out ol_); have n7_ := Aside0.mk (Nat.le_of_eq e2_); have n8_ := Aside0.mk (he0_); have n9_ := Aside0.mk (hf0_); have n10_ := Aside0.mk (hc0_); (try clear HF4_0); (try clear BK1); (try clear BK5); (try clear BK8); (try clear BK11); (try clear HB); (try clear HORD); (try clear HT); (try clear HL19_0); (try clear HF19_0); (try clear HC19_0); have HF4_0 := n0_; have BK1 := n1_; have BK5 := n2_; have BK8 := n3_; have BK11 := n4_; have HB := n5_; have HORD := n6_; have HT := n7_; have HL19_0 := n8_; have HF19_0 := n9_; have HC19_0 := n10_; clear n0_ n1_ n2_ n3_ n4_ n5_ n6_ n7_ n8_ n9_ n10_; clear ol_ e2_ hbn_ hkp hkq ho0 he0_ hc0_ hf0_; have hzgb1_0_19 : w19.cell? ⟨gb1, 0, none⟩ = some (.slice A0_0 l0_0.length c0_0) := (blk_cell BK1.out 0).trans rfl; have hygb1_0_19 := blk_frozen BK1.out 0; have hzgb5_0_19 : w19.cell? ⟨gb5, 0, none⟩ = some (.slice A4_0 r3_0.length c4_0) := (blk_cell BK5.out 0).trans rfl; have hygb5_0_19 := blk_frozen BK5.out 0; have hzgb8_0_19 : w19.cell? ⟨gb8, 0, none⟩ = some (.slice A7_0 r2_0.length c7_0) := (blk_cell BK8.out 0).trans rfl; have hygb8_0_19 := blk_frozen BK8.out 0; have hzgb11_0_19 : w19.cell? ⟨gb11, 0, none⟩ = some (.slice A10_0 r4_0.length c10_0) := (blk_cell BK11.out 0).trans rfl; have hygb11_0_19 := blk_frozen BK11.out 0) | ((with_reducible refine gate_callee (f := 27) rfl ?_); refine goesL_ (some 48) rfl rfl Try.func27 (by kernel_rfl) rfl #[.agg #[.slice A10_0 r4_0.length c10_0], .int .i64 1] rfl (by (try simp only [List.map_toArray, List.map_cons, List.map_nil]); first | done | rfl | (simp only [List.length_drop, List.length_take]; rfl)) ?_; refine calls_of_args (args' := #[.agg #[.slice A10_0 r8_2.length c10_0], .int .i64 1]) (by simp only [HL19_0.out]) ?_; (with_reducible refine (laws_heldNode.calls k9 _ _ r8_2 1 r8_1 _ ?s1 ?s2 A9.out).mono ?_); (case s1 => exact (Kd.F_now HF19_0.out)); (case s2 => exact HC19_0.out); rintro e_ w20 ⟨rfl, hb⟩; refine ⟨_, rfl, ?_⟩; have n0_ := Aside0.mk (Kd.F_below HF4_0.out hb); have n1_ := Aside0.mk (Kd.F_below HF19_0.out hb); have n2_ := Aside0.mk (blk_below BK1.out hb); have n3_ := Aside0.mk (blk_below BK5.out hb); have n4_ := Aside0.mk (blk_below BK8.out hb); have n5_ := Aside0.mk (blk_below BK11.out hb); have n6_ := Aside0.mk (below_step HB.out hb); have n7_ := Aside0.mk (Nat.le_trans HT.out hb.size); (try clear HF4_0); (try clear HF19_0); (try clear BK1); (try clear BK5); (try clear BK8); (try clear BK11); (try clear HB); (try clear HT); have HF4_0 := n0_; have HF19_0 := n1_; have BK1 := n2_; have BK5 := n3_; have BK8 := n4_; have BK11 := n5_; have HB := n6_; have HT := n7_; clear n0_ n1_ n2_ n3_ n4_ n5_ n6_ n7_; (try clear hb); have hzgb1_0_20 : w20.cell? ⟨gb1, 0, none⟩ = some (.slice A0_0 l0_0.length c0_0) := (blk_cell BK1.out 0).trans rfl; have hygb1_0_20 := blk_frozen BK1.out 0; have hzgb5_0_20 : w20.cell? ⟨gb5, 0, none⟩ = some (.slice A4_0 r3_0.length c4_0) := (blk_cell BK5.out 0).trans rfl; have hygb5_0_20 := blk_frozen BK5.out 0; have hzgb8_0_20 : w20.cell? ⟨gb8, 0, none⟩ = some (.slice A7_0 r2_0.length c7_0) := (blk_cell BK8.out 0).trans rfl; have hygb8_0_20 := blk_frozen BK8.out 0; have hzgb11_0_20 : w20.cell? ⟨gb11, 0, none⟩ = some (.slice A10_0 r4_0.length c10_0) := (blk_cell BK11.out 0).trans rfl; have hygb11_0_20 := blk_frozen BK11.out 0) | ((with_reducible refine gate_callee (f := 16) rfl ?_); refine goesL_ (some 55) rfl rfl Try.func16 (by kernel_rfl) rfl #[.agg #[.slice A0_0 l0_0.length c0_0]] rfl (by (try simp only [List.map_toArray, List.map_cons, List.map_nil]); first | done | rfl | (simp only [List.length_drop, List.length_take]; rfl)) ?_; (with_reducible refine (laws_toNode.calls k2 _ _ l0_0 r2_0 _ ?s1 ?s2 A2.out).mono ?_); (case s1 => exact (Kd.C_below HR0_0.out HB.out)); (case s2 => exact HC0_0.out); rintro e_ w21 ⟨v0_, rfl, ho0, hb⟩; refine ⟨_, rfl, ?_⟩; obtain ⟨lo21, hi21, el_, eh_, ol_, oh_⟩ := Mem.times HT.out hb; (try rw [← el_] at ho0); obtain ⟨A21_0, c21_0, ev_, hc0_, hf0_, hs0_⟩ := Mem.new_S ho0 eh_; subst ev_; have n0_ := Aside0.mk (Kd.F_below HF4_0.out hb); have n1_ := Aside0.mk (Kd.F_below HF19_0.out hb); have n2_ := Aside0.mk (blk_below BK1.out hb); have n3_ := Aside0.mk (blk_below BK5.out hb); have n4_ := Aside0.mk (blk_below BK8.out hb); have n5_ := Aside0.mk (blk_below BK11.out hb); have n6_ := Aside0.mk (below_step HB.out hb); have n7_ := Aside0.mk (hf0_); have n8_ := Aside0.mk (hc0_); have n9_ := Aside0.mk (hs0_); have n10_ := Aside0.mk (And.intro HORD.out (And.intro ol_ oh_)); have n11_ := Aside0.mk (Nat.le_of_eq eh_); (try clear HF4_0); (try clear HF19_0); (try clear BK1); (try clear BK5); (try clear BK8); (try clear BK11); (try clear HB); (try clear HF21_0); (try clear HC21_0); (try clear HS21_0); (try clear HORD); (try clear HT); have HF4_0 := n0_; have HF19_0 := n1_; have BK1 := n2_; have BK5 := n3_; have BK8 := n4_; have BK11 := n5_; have HB := n6_; have HF21_0 := n7_; have HC21_0 := n8_; have HS21_0 := n9_; have HORD := n10_; have HT := n11_; clear n0_ n1_ n2_ n3_ n4_ n5_ n6_ n7_ n8_ n9_ n10_ n11_; clear ol_ oh_ el_ eh_ ho0 hf0_ hc0_ hs0_; (try clear hb); have hzgb1_0_21 : w21.cell? ⟨gb1, 0, none⟩ = some (.slice A0_0 l0_0.length c0_0) := (blk_cell BK1.out 0).trans rfl; have hygb1_0_21 := blk_frozen BK1.out 0; have hzgb5_0_21 : w21.cell? ⟨gb5, 0, none⟩ = some (.slice A4_0 r3_0.length c4_0) := (blk_cell BK5.out 0).trans rfl; have hygb5_0_21 := blk_frozen BK5.out 0; have hzgb8_0_21 : w21.cell? ⟨gb8, 0, none⟩ = some (.slice A7_0 r2_0.length c7_0) := (blk_cell BK8.out 0).trans rfl; have hygb8_0_21 := blk_frozen BK8.out 0; have hzgb11_0_21 : w21.cell? ⟨gb11, 0, none⟩ = some (.slice A10_0 r4_0.length c10_0) := (blk_cell BK11.out 0).trans rfl; have hygb11_0_21 := blk_frozen BK11.out 0) | ((with_reducible refine gate_callee (f := 34) rfl ?_); refine goesL_ (some 56) rfl rfl Try.func34 (by kernel_rfl) rfl #[.agg #[.slice A21_0 r2_0.length c21_0]] rfl (by (try simp only [List.map_toArray, List.map_cons, List.map_nil]); first | done | rfl | (simp only [List.length_drop, List.length_take]; rfl)) ?_; (with_reducible refine (impl_NodePack.calls k4 _ _ r2_0 r4_0 _ ?s1 ?s2 A4.out).mono ?_); (case s1 => exact (Kd.F_now HF21_0.out)); (case s2 => exact HC21_0.out); rintro e_ w22 ⟨v0_, rfl, ho0, hb⟩; refine ⟨_, rfl, ?_⟩; obtain ⟨lo22, hi22, el_, eh_, ol_, oh_⟩ := Mem.times HT.out hb; (try rw [← el_] at ho0); obtain ⟨A22_0, c22_0, ev_, hc0_, hf0_, hs0_⟩ := Mem.new_S ho0 eh_; subst ev_; have n0_ := Aside0.mk (Kd.F_below HF4_0.out hb); have n1_ := Aside0.mk (Kd.F_below HF19_0.out hb); have n2_ := Aside0.mk (blk_below BK1.out hb); have n3_ := Aside0.mk (blk_below BK5.out hb); have n4_ := Aside0.mk (blk_below BK8.out hb); have n5_ := Aside0.mk (blk_below BK11.out hb); have n6_ := Aside0.mk (below_step HB.out hb); have n7_ := Aside0.mk (hf0_); have n8_ := Aside0.mk (hc0_); have n9_ := Aside0.mk (hs0_); have n10_ := Aside0.mk (And.intro HORD.out (And.intro ol_ oh_)); have n11_ := Aside0.mk (Nat.le_of_eq eh_); (try clear HF21_0); (try clear HS21_0); (try clear HC21_0); (try clear HF4_0); (try clear HF19_0); (try clear BK1); (try clear BK5); (try clear BK8); (try clear BK11); (try clear HB); (try clear HF22_0); (try clear HC22_0); (try clear HS22_0); (try clear HORD); (try clear HT); have HF4_0 := n0_; have HF19_0 := n1_; have BK1 := n2_; have BK5 := n3_; have BK8 := n4_; have BK11 := n5_; have HB := n6_; have HF22_0 := n7_; have HC22_0 := n8_; have HS22_0 := n9_; have HORD := n10_; have HT := n11_; clear n0_ n1_ n2_ n3_ n4_ n5_ n6_ n7_ n8_ n9_ n10_ n11_; clear ol_ oh_ el_ eh_ ho0 hf0_ hc0_ hs0_; (try clear hb); have hzgb1_0_22 : w22.cell? ⟨gb1, 0, none⟩ = some (.slice A0_0 l0_0.length c0_0) := (blk_cell BK1.out 0).trans rfl; have hygb1_0_22 := blk_frozen BK1.out 0; have hzgb5_0_22 : w22.cell? ⟨gb5, 0, none⟩ = some (.slice A4_0 r3_0.length c4_0) := (blk_cell BK5.out 0).trans rfl; have hygb5_0_22 := blk_frozen BK5.out 0; have hzgb8_0_22 : w22.cell? ⟨gb8, 0, none⟩ = some (.slice A7_0 r2_0.length c7_0) := (blk_cell BK8.out 0).trans rfl; have hygb8_0_22 := blk_frozen BK8.out 0; have hzgb11_0_22 : w22.cell? ⟨gb11, 0, none⟩ = some (.slice A10_0 r4_0.length c10_0) := (blk_cell BK11.out 0).trans rfl; have hygb11_0_22 := blk_frozen BK11.out 0) | ((with_reducible refine gate_dst (N := 10) rfl ?_); refine box_event ?hg (N := 10) ?hd (cs := #[.slice none 0 0]) (t := 32) ?hr ?_; (case hd => rfl); (case hg => rfl); (case hr => first | (go_simp; done) | (go_simp; rfl)); intro gb23 hg_ w23 hbox hb; have hge_ : hi22 ≤ gb23 := (by rw [hg_]; exact HT.out); have hlt_ : gb23 + 1 ≤ w23.heap.size := blk_lt hbox; have n0_ := Aside0.mk (Kd.F_below HF4_0.out hb); have n1_ := Aside0.mk (Kd.F_below HF19_0.out hb); have n2_ := Aside0.mk (Kd.F_below HF22_0.out hb); have n3_ := Aside0.mk (Kd.S_below HS22_0.out hb); have n4_ := Aside0.mk (blk_below BK1.out hb); have n5_ := Aside0.mk (blk_below BK5.out hb); have n6_ := Aside0.mk (blk_below BK8.out hb); have n7_ := Aside0.mk (blk_below BK11.out hb); have n8_ := Aside0.mk (below_step HB.out hb); have n9_ := Aside0.mk (hbox); have n10_ := Aside0.mk (And.intro HORD.out (And.intro hge_ (Nat.le_succ gb23))); have n11_ := Aside0.mk (hlt_); (try clear HF4_0); (try clear HF19_0); (try clear HF22_0); (try clear HS22_0); (try clear BK1); (try clear BK5); (try clear BK8); (try clear BK11); (try clear HB); (try clear BK23); (try clear HORD); (try clear HT); have HF4_0 := n0_; have HF19_0 := n1_; have HF22_0 := n2_; have HS22_0 := n3_; have BK1 := n4_; have BK5 := n5_; have BK8 := n6_; have BK11 := n7_; have HB := n8_; have BK23 := n9_; have HORD := n10_; have HT := n11_; clear n0_ n1_ n2_ n3_ n4_ n5_ n6_ n7_ n8_ n9_ n10_ n11_; clear hb hbox hg_ hge_ hlt_; have hzgb1_0_23 : w23.cell? ⟨gb1, 0, none⟩ = some (.slice A0_0 l0_0.length c0_0) := (blk_cell BK1.out 0).trans rfl; have hygb1_0_23 := blk_frozen BK1.out 0; have hzgb5_0_23 : w23.cell? ⟨gb5, 0, none⟩ = some (.slice A4_0 r3_0.length c4_0) := (blk_cell BK5.out 0).trans rfl; have hygb5_0_23 := blk_frozen BK5.out 0; have hzgb8_0_23 : w23.cell? ⟨gb8, 0, none⟩ = some (.slice A7_0 r2_0.length c7_0) := (blk_cell BK8.out 0).trans rfl; have hygb8_0_23 := blk_frozen BK8.out 0; have hzgb11_0_23 : w23.cell? ⟨gb11, 0, none⟩ = some (.slice A10_0 r4_0.length c10_0) := (blk_cell BK11.out 0).trans rfl; have hygb11_0_23 := blk_frozen BK11.out 0; have hzgb23_0_23 : w23.cell? ⟨gb23, 0, none⟩ = some (.slice none 0 0) := (blk_cell BK23.out 0).trans rfl; have hygb23_0_23 := blk_frozen BK23.out 0) | ((with_reducible refine gate_store (t := 32) (p := 10) rfl ?_); refine store_event (t := 32) (p := 10) (v := ?vo_w24) (w1 := (w23.setCell ⟨gb23, 0, none⟩ (.slice A22_0 r4_0.length c22_0))) ?hg ?ho ?hn ?hr ?_; (case ho => rfl); (case hg => rfl); (case hn => rfl); (case hr => first | (go_simp; done) | (go_simp; rfl)); intro w24 hw_; have hkp : Kept w23 w24 (fun k_ => k_ = gb23) := (by rw [hw_]; exact Kept.setCell (Kept.refl w23 (fun k_ => k_ = gb23)) (.inl rfl) (.slice A22_0 r4_0.length c22_0)); have hge_ : w.heap.size ≤ gb23 := (by have o_ := HORD.out; (try unfold In at *); (try show _ ≠ _); omega); have hbn_ : Below w.heap.size w w24 := (by rw [hw_]; exact below_set (HB.out) hge_); have hbk_ : w24.heap[gb23]? = some (.cells #[.slice A22_0 r4_0.length c22_0] 32 (0, 0)) := (by rw [hw_]; exact blk_put (cs := #[.slice none 0 0]) (cs' := #[.slice A22_0 r4_0.length c22_0]) (BK23.out) 0 _ rfl); have hsz_ : (gb23 + 1) ≤ w24.heap.size := Nat.le_trans HT.out hkp.1; have n0_ := Aside0.mk (Kd.F_kept HF4_0.out hkp (fun k_ h1_ h2_ => by have o_ := HORD.out; unfold In at h1_; omega)); have n1_ := Aside0.mk (Kd.F_kept HF19_0.out hkp (fun k_ h1_ h2_ => by have o_ := HORD.out; unfold In at h1_; omega)); have n2_ := Aside0.mk (Kd.F_kept HF22_0.out hkp (fun k_ h1_ h2_ => by have o_ := HORD.out; unfold In at h1_; omega)); have n3_ := Aside0.mk (Kd.S_kept HS22_0.out hkp (fun k_ h1_ h2_ => by have o_ := HORD.out; unfold In at h1_; omega)); have n4_ := Aside0.mk (blk_kept BK1.out hkp (fun h2_ => by have o_ := HORD.out; omega)); have n5_ := Aside0.mk (blk_kept BK5.out hkp (fun h2_ => by have o_ := HORD.out; omega)); have n6_ := Aside0.mk (blk_kept BK8.out hkp (fun h2_ => by have o_ := HORD.out; omega)); have n7_ := Aside0.mk (blk_kept BK11.out hkp (fun h2_ => by have o_ := HORD.out; omega)); have n8_ := Aside0.mk (hbn_); have n9_ := Aside0.mk (hbk_); have n10_ := Aside0.mk (hsz_); (try clear HF4_0); (try clear HF19_0); (try clear HF22_0); (try clear HS22_0); (try clear BK1); (try clear BK5); (try clear BK8); (try clear BK11); (try clear HB); (try clear BK23); (try clear HT); have HF4_0 := n0_; have HF19_0 := n1_; have HF22_0 := n2_; have HS22_0 := n3_; have BK1 := n4_; have BK5 := n5_; have BK8 := n6_; have BK11 := n7_; have HB := n8_; have BK23 := n9_; have HT := n10_; clear n0_ n1_ n2_ n3_ n4_ n5_ n6_ n7_ n8_ n9_ n10_; clear hw_ hkp hge_ hbn_ hbk_ hsz_; have hzgb1_0_24 : w24.cell? ⟨gb1, 0, none⟩ = some (.slice A0_0 l0_0.length c0_0) := (blk_cell BK1.out 0).trans rfl; have hygb1_0_24 := blk_frozen BK1.out 0; have hzgb5_0_24 : w24.cell? ⟨gb5, 0, none⟩ = some (.slice A4_0 r3_0.length c4_0) := (blk_cell BK5.out 0).trans rfl; have hygb5_0_24 := blk_frozen BK5.out 0; have hzgb8_0_24 : w24.cell? ⟨gb8, 0, none⟩ = some (.slice A7_0 r2_0.length c7_0) := (blk_cell BK8.out 0).trans rfl; have hygb8_0_24 := blk_frozen BK8.out 0; have hzgb11_0_24 : w24.cell? ⟨gb11, 0, none⟩ = some (.slice A10_0 r4_0.length c10_0) := (blk_cell BK11.out 0).trans rfl; have hygb11_0_24 := blk_frozen BK11.out 0; have hzgb23_0_24 : w24.cell? ⟨gb23, 0, none⟩ = some (.slice A22_0 r4_0.length c22_0) := (blk_cell BK23.out 0).trans rfl; have hygb23_0_24 := blk_frozen BK23.out 0) | ((with_reducible refine gate_callee (f := 19) rfl ?_); refine goesL_ (some 59) rfl rfl Try.func19 (by kernel_rfl) rfl #[.agg #[.slice A22_0 r4_0.length c22_0], .agg #[.slice A4_0 r3_0.length c4_0]] rfl (by (try simp only [List.map_toArray, List.map_cons, List.map_nil]); first | done | rfl | (simp only [List.length_drop, List.length_take]; rfl)) ?_; (with_reducible refine (laws_eqNode.calls k5 _ _ r4_0 _ _ r3_0 true _ ?s1 ?s2 ?s3 ?s4 A5.out).mono ?_); (case s1 => exact (Kd.F_now HF22_0.out)); (case s2 => exact HC22_0.out); (case s3 => exact (Kd.F_now HF4_0.out)); (case s4 => exact HC4_0.out); rintro e_ w25 ⟨rfl, hb⟩; refine ⟨_, rfl, ?_⟩; have n0_ := Aside0.mk (Kd.F_below HF19_0.out hb); have n1_ := Aside0.mk (blk_below BK1.out hb); have n2_ := Aside0.mk (blk_below BK5.out hb); have n3_ := Aside0.mk (blk_below BK8.out hb); have n4_ := Aside0.mk (blk_below BK11.out hb); have n5_ := Aside0.mk (blk_below BK23.out hb); have n6_ := Aside0.mk (below_step HB.out hb); have n7_ := Aside0.mk (Nat.le_trans HT.out hb.size); (try clear HF4_0); (try clear HC4_0); (try clear HF22_0); (try clear HS22_0); (try clear HC22_0); (try clear HF19_0); (try clear BK1); (try clear BK5); (try clear BK8); (try clear BK11); (try clear BK23); (try clear HB); (try clear HT); have HF19_0 := n0_; have BK1 := n1_; have BK5 := n2_; have BK8 := n3_; have BK11 := n4_; have BK23 := n5_; have HB := n6_; have HT := n7_; clear n0_ n1_ n2_ n3_ n4_ n5_ n6_ n7_; (try clear hb); have hzgb1_0_25 : w25.cell? ⟨gb1, 0, none⟩ = some (.slice A0_0 l0_0.length c0_0) := (blk_cell BK1.out 0).trans rfl; have hygb1_0_25 := blk_frozen BK1.out 0; have hzgb5_0_25 : w25.cell? ⟨gb5, 0, none⟩ = some (.slice A4_0 r3_0.length c4_0) := (blk_cell BK5.out 0).trans rfl; have hygb5_0_25 := blk_frozen BK5.out 0; have hzgb8_0_25 : w25.cell? ⟨gb8, 0, none⟩ = some (.slice A7_0 r2_0.length c7_0) := (blk_cell BK8.out 0).trans rfl; have hygb8_0_25 := blk_frozen BK8.out 0; have hzgb11_0_25 : w25.cell? ⟨gb11, 0, none⟩ = some (.slice A10_0 r4_0.length c10_0) := (blk_cell BK11.out 0).trans rfl; have hygb11_0_25 := blk_frozen BK11.out 0; have hzgb23_0_25 : w25.cell? ⟨gb23, 0, none⟩ = some (.slice A22_0 r4_0.length c22_0) := (blk_cell BK23.out 0).trans rfl; have hygb23_0_25 := blk_frozen BK23.out 0) | ((with_reducible refine gate_callee (f := 27) rfl ?_); refine goesL_ (some 63) rfl rfl Try.func27 (by kernel_rfl) rfl #[.agg #[.slice A10_0 r4_0.length c10_0], .int .i64 1] rfl (by (try simp only [List.map_toArray, List.map_cons, List.map_nil]); first | done | rfl | (simp only [List.length_drop, List.length_take]; rfl)) ?_; refine calls_of_args (args' := #[.agg #[.slice A10_0 r8_2.length c10_0], .int .i64 1]) (by simp only [HL19_0.out]) ?_; (with_reducible refine (laws_heldNode.calls k9 _ _ r8_2 1 r8_1 _ ?s1 ?s2 A9.out).mono ?_); (case s1 => exact (Kd.F_now HF19_0.out)); (case s2 => exact HC19_0.out); rintro e_ w26 ⟨rfl, hb⟩; refine ⟨_, rfl, ?_⟩; have n0_ := Aside0.mk (blk_below BK1.out hb); have n1_ := Aside0.mk (blk_below BK5.out hb); have n2_ := Aside0.mk (blk_below BK8.out hb); have n3_ := Aside0.mk (blk_below BK11.out hb); have n4_ := Aside0.mk (blk_below BK23.out hb); have n5_ := Aside0.mk (below_step HB.out hb); have n6_ := Aside0.mk (Nat.le_trans HT.out hb.size); (try clear HF19_0); (try clear HC19_0); (try clear HL19_0); (try clear BK1); (try clear BK5); (try clear BK8); (try clear BK11); (try clear BK23); (try clear HB); (try clear HT); have BK1 := n0_; have BK5 := n1_; have BK8 := n2_; have BK11 := n3_; have BK23 := n4_; have HB := n5_; have HT := n6_; clear n0_ n1_ n2_ n3_ n4_ n5_ n6_; (try clear hb); have hzgb1_0_26 : w26.cell? ⟨gb1, 0, none⟩ = some (.slice A0_0 l0_0.length c0_0) := (blk_cell BK1.out 0).trans rfl; have hygb1_0_26 := blk_frozen BK1.out 0; have hzgb5_0_26 : w26.cell? ⟨gb5, 0, none⟩ = some (.slice A4_0 r3_0.length c4_0) := (blk_cell BK5.out 0).trans rfl; have hygb5_0_26 := blk_frozen BK5.out 0; have hzgb8_0_26 : w26.cell? ⟨gb8, 0, none⟩ = some (.slice A7_0 r2_0.length c7_0) := (blk_cell BK8.out 0).trans rfl; have hygb8_0_26 := blk_frozen BK8.out 0; have hzgb11_0_26 : w26.cell? ⟨gb11, 0, none⟩ = some (.slice A10_0 r4_0.length c10_0) := (blk_cell BK11.out 0).trans rfl; have hygb11_0_26 := blk_frozen BK11.out 0; have hzgb23_0_26 : w26.cell? ⟨gb23, 0, none⟩ = some (.slice A22_0 r4_0.length c22_0) := (blk_cell BK23.out 0).trans rfl; have hygb23_0_26 := blk_frozen BK23.out 0))
  have hres_ := @results_tmp Try.f7 2 (by kernel_rfl)
  refine bodyPost_ret (fn := Try.f7) (P := Try.prog) (hres_ _ _ _) rfl ?_
  exact ⟨rfl, HB.out⟩

set_option maxHeartbeats 2000000 in
theorem laws_FnExactNodePack.calls (A0_0 : Option Addr) (c0_0 : Nat) (l0_0 : List (List (S50))) (w : World) (hr0_0 : Kd.C (Kd.slice 50 k50) w A0_0 l0_0.length l0_0) (hc0_0 : l0_0.length ≤ c0_0) (h0 : (l0_0.length ≤ 9223372036854775807 ∧ ∀ y0 ∈ l0_0, (y0.length ≤ 9223372036854775807 ∧ ∀ y1 ∈ y0, ((Lit.int .i64 y1.f0).wf = true ∧ (Lit.int .i64 y1.f1).wf = true ∧ (Lit.int .i64 y1.f2).wf = true ∧ (Lit.int .i64 y1.f3).wf = true ∧ (Lit.int .i64 y1.f4).wf = true)))) :
    Calls Try.prog 7 #[.agg #[.slice A0_0 l0_0.length c0_0]] w fun e w' => e = .returned (.bool true) ∧ Below w.heap.size w w' := by
  have u0_0 := sumKeySS_pos l0_0
  by_cases c0 : 1048576 < sumKeySS l0_0
  · obtain ⟨_, A1⟩ : ∃ k : Nat, laws_szNode.f k l0_0 1048576 = some (-1) := evGet (szNode_big l0_0 _ ⟨h0.1, fun x hx => (h0.2 x hx).1⟩ (by omega) (by omega) c0)
    exact walkFnExactNodePackbig _ _ _ _ _ w hr0_0 hc0_0 A1 (by decide)
  obtain ⟨_, A1⟩ : ∃ k : Nat, laws_szNode.f k l0_0 1048576 = some (1048576 - sumKeySS l0_0) := evGet (szNode_fit l0_0 _ ⟨h0.1, fun x hx => (h0.2 x hx).1⟩ (by omega) (by omega) c0)
  have i0 : inKeySS l0_0 := in_of_sumKeySS (by omega)
  have o0_0 : okKeySS (convKeySS l0_0) := ok_of_inKeySS i0
  have q0_0 := cntKeySS_nn o0_0
  have oR0 : okKeySS (nodeNew (nodeKeys (convKeySS l0_0))) := (okKeySS_nodeNew (by have h1 := nodeKeys_length (convKeySS l0_0); have h2 := countK_bulk (convKeySS l0_0); have h3 := bulk_convKeySS l0_0; unfold inKeySS at i0; omega))
  have qR0 := cntKeySS_nn oR0
  obtain ⟨_, A2⟩ : ∃ k : Nat, laws_toNode.f k l0_0 = some ((convKeySS l0_0)) := evGet (toNode_ev _ (by assumption))
  obtain ⟨_, A3⟩ : ∃ k : Nat, spec_NodePack.f k ((convKeySS l0_0)) = some (nodeNew (nodeKeys (convKeySS l0_0))) := evGet (spec_NodePack_ev _ (by assumption))
  obtain ⟨_, A4⟩ : ∃ k : Nat, impl_NodePack.f k ((convKeySS l0_0)) = some (nodeNew (nodeKeys (convKeySS l0_0))) := evGet (impl_NodePack_ev _ (by assumption))
  obtain ⟨_, A5⟩ : ∃ k : Nat, laws_eqNode.f k (nodeNew (nodeKeys (convKeySS l0_0))) (nodeNew (nodeKeys (convKeySS l0_0))) = some true := evGet (eqNode_ev _ (by assumption))
  obtain ⟨_, A6⟩ : ∃ k : Nat, laws_eqNode.f k ((convKeySS l0_0)) ((convKeySS l0_0)) = some true := evGet (eqNode_ev _ (by assumption))
  obtain ⟨_, A7⟩ : ∃ k : Nat, laws_markKeySS.f ((convKeySS l0_0)) 1 = some ((1 + cntKeySS ((convKeySS l0_0))), (mkKeySS ((convKeySS l0_0)) 1)) := ⟨0, markKeySS_f (by assumption) (by omega) (by omega)⟩
  obtain ⟨_, A8⟩ : ∃ k : Nat, laws_markKeySS.f (nodeNew (nodeKeys (convKeySS l0_0))) 1 = some ((1 + cntKeySS (nodeNew (nodeKeys (convKeySS l0_0)))), (mkKeySS (nodeNew (nodeKeys (convKeySS l0_0))) 1)) := ⟨0, markKeySS_f (by assumption) (by omega) (by omega)⟩
  obtain ⟨_, A9⟩ : ∃ k : Nat, laws_heldNode.f k (mkKeySS (nodeNew (nodeKeys (convKeySS l0_0))) 1) 1 = some (1 + cntKeySS (nodeNew (nodeKeys (convKeySS l0_0)))) := evGet (heldNode_ev _ _ (by assumption) (by omega) (by omega))
  exact walkFnExactNodePack _ _ _ _ _ _ _ _ _ _ _ _ _ _ _ _ _ _ w hr0_0 hc0_0 A1 A2 A3 A4 A5 A6 A7 A8 A9 (by omega) (by omega) (by omega)

end Go.Proofs.Ythpfihklkcnckaa.Law
