/- The law: the functions that it reaches, each with the proof that the machine's call comes to its answer, what they answer, and the law's row; each theorem says its conditions itself. -/
import Derived.Test.YthpfihklkcnckaaZFnExactNodePut1
namespace Go.Proofs.Ythpfihklkcnckaa.PFnExactNodePut
open Go.RowKit Go.Proofs.YthpfihklkcnckaaW.PrintWords Go.Proofs.YthpfihklkcnckaaW.PrintLast Go.Proofs.YthpfihklkcnckaaW.PrintMore
attribute [local go_sem] max2_int min2_int max_two min_two max_three min_three max_four min_four   -- for this text's walks alone
set_option linter.unusedVariables false
set_option linter.unusedSimpArgs false
mutual
def spec_NodePut.j0 : Nat → Int → Bool → List (List (S27)) → Int → Int → Int → Int → Int → List (List (S27)) → Option ((List (List (S27))) × Bool)
 | 0, _, _, _, _, _, _, _, _, _ => none
 | k + 1, x7, x8, x263000, x264000, x264001, x264002, x264003, x264004, x269000 => if x7 ≥ 0 then (if 0 ≤ x7 then (if x7 < (x269000.length : Int) then (if ((rd_L4 x269000 x7).length : Int) < 4 then (spec_NodePut.j1 k x7 true x263000 x264000 x264001 x264002 x264003 x264004 x269000) else (spec_NodePut.j1 k x7 x8 x263000 x264000 x264001 x264002 x264003 x264004 x269000)) else (none)) else (none)) else (spec_NodePut.j1 k x7 false x263000 x264000 x264001 x264002 x264003 x264004 x269000)
def spec_NodePut.j1 : Nat → Int → Bool → List (List (S27)) → Int → Int → Int → Int → Int → List (List (S27)) → Option ((List (List (S27))) × Bool)
 | 0, _, _, _, _, _, _, _, _, _ => none
 | k + 1, x7, x44, x263000, x264000, x264001, x264002, x264003, x264004, x269000 => if x44 = true then (if 0 ≤ x7 then (if x7 < (x269000.length : Int) then ((spec_SetPut.f k (rd_L4 x269000 x7) x264000 x264001 x264002 x264003 x264004).bind fun t278 => (spec_NodePut.j2 k x263000 x264000 x264001 x264002 x264003 x264004 (x269000.set (x7 : Int).toNat t278))) else (none)) else (none)) else (if x269000.length < 5864062014805 then (spec_NodePut.j2 k x263000 x264000 x264001 x264002 x264003 x264004 (x269000 ++ [(([(⟨x264000, x264001, x264002, x264003, x264004⟩ : S27)] : List (S27)))])) else (none))
def spec_NodePut.j2 : Nat → List (List (S27)) → Int → Int → Int → Int → Int → List (List (S27)) → Option ((List (List (S27))) × Bool)
 | 0, _, _, _, _, _, _, _ => none
 | k + 1, x263000, x264000, x264001, x264002, x264003, x264004, x269000 => (spec_NodeOk.f k x269000).bind fun t288 => (if t288 = true then (some (x269000, true)) else ((spec_NodeKeys.f k x263000).bind fun t289 => ((spec_SetPut.f k t289 x264000 x264001 x264002 x264003 x264004).bind fun t292 => ((spec_Drop.f k t292).bind fun t295 => (if (t295.length : Int) > 8 then (spec_NodePut.j3 k t295 true x263000) else ((spec_NodeNew.f t295).bind fun t298 => ((spec_NodeOk.f k t298).bind fun t301 => (spec_NodePut.j3 k t295 (!t301) x263000))))))))
def spec_NodePut.j3 : Nat → List (S27) → Bool → List (List (S27)) → Option ((List (List (S27))) × Bool)
 | 0, _, _, _ => none
 | k + 1, x9, x79, x263000 => if x79 = true then ((spec_l5Copy.f k x263000).bind fun t302 => (some (t302, false))) else ((spec_NodeNew.f x9).bind fun t305 => (some (t305, true)))
end
def spec_NodePut.f (k : Nat) (l0_0 : List (List (S27))) (a1_0 : Int) (a1_1 : Int) (a1_2 : Int) (a1_3 : Int) (a1_4 : Int) : Option ((List (List (S27))) × Bool) := (spec_l5Copy.f k l0_0).bind fun t265 => (if (wrap64 ((t265.length : Int) - 1)) ≥ 0 then (if 0 ≤ (wrap64 ((t265.length : Int) - 1)) then (if (wrap64 ((t265.length : Int) - 1)) < (t265.length : Int) then ((spec_SetAt.f k (rd_L4 t265 (wrap64 ((t265.length : Int) - 1))) a1_0 a1_1).bind fun bt270 => (spec_NodePut.j0 k (wrap64 ((t265.length : Int) - 1)) bt270.2.2.2.2.2 l0_0 a1_0 a1_1 a1_2 a1_3 a1_4 t265)) else (none)) else (none)) else (spec_NodePut.j0 k (wrap64 ((t265.length : Int) - 1)) false l0_0 a1_0 a1_1 a1_2 a1_3 a1_4 t265))
def spec_NodePut.T5 : Bool × List (List Nat × List Nat) := (true, [([], []), ([0], [0]), ([], []), ([1, 2], [1, 2]), ([3], [3]), ([], []), ([5], [5]), ([], []), ([7], [7]), ([4, 6, 8], [4, 6, 8]), ([9], [9]), ([10], [10]), ([10], [10]), ([12, 9, 0, 1, 2, 3, 4, 5, 6, 7, 8, 9, 10, 11, 12], [12])])
def spec_NodePut.B5 : List Nat := [0, 1, 0, 7, 15, 0, 32, 0, 128, 511, 1023, 2047, 2047, 8191]
theorem spec_NodePut.tab5 : rtab .any (opsOf Try.f35 5) = spec_NodePut.T5 := by kernel_rfl
theorem spec_NodePut.bits5 : waitsOk spec_NodePut.T5.2 spec_NodePut.B5 = true := by kernel_rfl
def spec_NodePut.T7 : Bool × List (List Nat × List Nat) := (true, [([], []), ([0], [0]), ([], []), ([], []), ([3], [3]), ([], []), ([4, 5], [4, 5]), ([6], [6]), ([], []), ([7, 8], [7, 8]), ([1, 2, 0, 1, 2, 3, 4, 5, 6, 7, 8, 9], [1, 2]), ([10, 9, 9, 0, 1, 2, 3, 4, 5, 6, 7, 8, 9], [9, 10])])
def spec_NodePut.B7 : List Nat := [0, 1, 0, 0, 8, 0, 56, 120, 0, 504, 1023, 2047]
theorem spec_NodePut.tab7 : rtab .any (opsOf Try.f35 7) = spec_NodePut.T7 := by kernel_rfl
theorem spec_NodePut.bits7 : waitsOk spec_NodePut.T7.2 spec_NodePut.B7 = true := by kernel_rfl
set_option maxHeartbeats 8000000 in
set_option maxRecDepth 100000 in
theorem spec_NodePut.calls (k : Nat) (A0_0 : Option Addr) (c0_0 : Nat) (l0_0 : List (List (S27))) (a1_0 : Int) (a1_1 : Int) (a1_2 : Int) (a1_3 : Int) (a1_4 : Int) (r1 : List (List (S27))) (r2 : Bool) (w : World) (hr0_0 : Kd.C (Kd.slice 27 k27) w A0_0 l0_0.length l0_0) (hc0_0 : l0_0.length ≤ c0_0) (h : spec_NodePut.f k l0_0 a1_0 a1_1 a1_2 a1_3 a1_4 = some (r1, r2)) :
  Calls Try.prog 35 #[.agg #[.slice A0_0 l0_0.length c0_0], .agg #[.int .i64 a1_0, .int .i64 a1_1, .int .i64 a1_2, .int .i64 a1_3, .int .i64 a1_4]] w fun e w' => ∃ v0_ : Value, e = .returned (.tuple #[.agg #[v0_], .bool r2]) ∧ Kd.N (Kd.slice 27 k27) 40 w' w.heap.size (fun k_ => (w.heap.size ≤ k_)) v0_ r1 ∧ Below w.heap.size w w' := by
 have hu32 := Try.underlying32
 have hu27 := Try.underlying27
 have HR0_0 := aA.mk hr0_0
 have HC0_0 := aA.mk hc0_0
 clear hr0_0 hc0_0
 have HB := aA.mk (Below.refl w.heap.size w)
 have H : ((spec_l5Copy.f k l0_0).bind fun t265 => (if (wrap64 ((t265.length : Int) - 1)) ≥ 0 then (if 0 ≤ (wrap64 ((t265.length : Int) - 1)) then (if (wrap64 ((t265.length : Int) - 1)) < (t265.length : Int) then ((spec_SetAt.f k (rd_L4 t265 (wrap64 ((t265.length : Int) - 1))) a1_0 a1_1).bind fun bt270 => (spec_NodePut.j0 k (wrap64 ((t265.length : Int) - 1)) bt270.2.2.2.2.2 l0_0 a1_0 a1_1 a1_2 a1_3 a1_4 t265)) else (none)) else (none)) else (spec_NodePut.j0 k (wrap64 ((t265.length : Int) - 1)) false l0_0 a1_0 a1_1 a1_2 a1_3 a1_4 t265))) = some (r1, r2) := h
 clear h
 replace H := lF H
 obtain ⟨t265, A30, H⟩ := H
 replace H : (if (wrap64 ((t265.length : Int) - 1)) ≥ 0 then (if 0 ≤ (wrap64 ((t265.length : Int) - 1)) then (if (wrap64 ((t265.length : Int) - 1)) < (t265.length : Int) then ((spec_SetAt.f k (rd_L4 t265 (wrap64 ((t265.length : Int) - 1))) a1_0 a1_1).bind fun bt270 => (spec_NodePut.j0 k (wrap64 ((t265.length : Int) - 1)) bt270.2.2.2.2.2 l0_0 a1_0 a1_1 a1_2 a1_3 a1_4 t265)) else (none)) else (none)) else (spec_NodePut.j0 k (wrap64 ((t265.length : Int) - 1)) false l0_0 a1_0 a1_1 a1_2 a1_3 a1_4 t265)) = some (r1, r2) := H
 have A3 := aA.mk A30
 clear A30
 have HC4 := aA.mk H
 clear H
 go_enter Try.func35, Try.ntmps35
 go_upto_if 17 with (first | ((with_reducible refine bA (N := 2) rfl ?_); (try (refine gate_guard (by rfl) ?_; dsimp only)); refine bC ?hg (N := 2) ?hd (cs := #[.slice A0_0 l0_0.length c0_0]) (t := 32) ?hr ?_; (case hd => rfl); (case hg => rfl); (case hr => first | (go_simp; done) | (go_simp; rfl)); intro gb262 hg w5 hbox hb; have BK262 := aA.mk (hbox); have GW262 := aA.mk ((by rw [hg]; exact (aQ HB.out) : w.heap.size ≤ gb262)); have GE262 := aA.mk ((by rw [hg]; exact (aQ HB.out) : w.heap.size ≤ gb262)); replace HB := aA.mk (aT HB.out hb); clear hb hbox hg) | ((with_reducible refine bA (N := 3) rfl ?_); (try (refine gate_guard (by rfl) ?_; dsimp only)); refine bC ?hg (N := 3) ?hd (cs := #[.int .i64 a1_0, .int .i64 a1_1, .int .i64 a1_2, .int .i64 a1_3, .int .i64 a1_4]) (t := 27) ?hr ?_; (case hd => rfl); (case hg => rfl); (case hr => first | (go_simp; done) | (go_simp; rfl)); intro gb263 hg w6 hbox hb; have BK263 := aA.mk (hbox); have GW263 := aA.mk ((by rw [hg]; exact (aQ HB.out) : w.heap.size ≤ gb263)); have GE263 := aA.mk ((by rw [hg]; exact (aQ HB.out) : w.heap.size ≤ gb263)); replace HB := aA.mk (aT HB.out hb); have NB262_263 := aA.mk ((by rw [hg]; exact Nat.ne_of_lt (aY (g := gb262) (o := .cells #[.slice A0_0 l0_0.length c0_0] 32 (0, 0)) BK262.out) : gb262 ≠ gb263)); have NB263_262 := aA.mk ((by rw [hg]; exact Nat.ne_of_gt (aY (g := gb262) (o := .cells #[.slice A0_0 l0_0.length c0_0] 32 (0, 0)) BK262.out) : gb263 ≠ gb262)); replace BK262 := aA.mk (aG (g := gb262) (o := .cells #[.slice A0_0 l0_0.length c0_0] 32 (0, 0)) BK262.out hb); clear hb hbox hg) | ((with_reducible refine bA (N := 4) rfl ?_); (try (refine gate_guard (by rfl) ?_; dsimp only)); refine bC ?hg (N := 4) ?hd (cs := #[.slice none 0 0]) (t := 32) ?hr ?_; (case hd => rfl); (case hg => rfl); (case hr => first | (go_simp; done) | (go_simp; rfl)); intro gb264 hg w7 hbox hb; have BK264 := aA.mk (hbox); have GW264 := aA.mk ((by rw [hg]; exact (aQ HB.out) : w.heap.size ≤ gb264)); have GE264 := aA.mk ((by rw [hg]; exact (aQ HB.out) : w.heap.size ≤ gb264)); replace HB := aA.mk (aT HB.out hb); have NB262_264 := aA.mk ((by rw [hg]; exact Nat.ne_of_lt (aY (g := gb262) (o := .cells #[.slice A0_0 l0_0.length c0_0] 32 (0, 0)) BK262.out) : gb262 ≠ gb264)); have NB264_262 := aA.mk ((by rw [hg]; exact Nat.ne_of_gt (aY (g := gb262) (o := .cells #[.slice A0_0 l0_0.length c0_0] 32 (0, 0)) BK262.out) : gb264 ≠ gb262)); replace BK262 := aA.mk (aG (g := gb262) (o := .cells #[.slice A0_0 l0_0.length c0_0] 32 (0, 0)) BK262.out hb); have NB263_264 := aA.mk ((by rw [hg]; exact Nat.ne_of_lt (aY (g := gb263) (o := .cells #[.int .i64 a1_0, .int .i64 a1_1, .int .i64 a1_2, .int .i64 a1_3, .int .i64 a1_4] 27 (0, 0)) BK263.out) : gb263 ≠ gb264)); have NB264_263 := aA.mk ((by rw [hg]; exact Nat.ne_of_gt (aY (g := gb263) (o := .cells #[.int .i64 a1_0, .int .i64 a1_1, .int .i64 a1_2, .int .i64 a1_3, .int .i64 a1_4] 27 (0, 0)) BK263.out) : gb264 ≠ gb263)); replace BK263 := aA.mk (aG (g := gb263) (o := .cells #[.int .i64 a1_0, .int .i64 a1_1, .int .i64 a1_2, .int .i64 a1_3, .int .i64 a1_4] 27 (0, 0)) BK263.out hb); clear hb hbox hg; have hnb8 := NB262_263.out; have hnc8 := NB263_262.out; have hnb9 := NB262_264.out; have hnc9 := NB264_262.out; have hcz10_0 := cs1 BK262.out; have hfz10_0 := fs1 BK262.out) | ((with_reducible refine bD (f := 68) rfl ?_); refine bL (some 11) rfl rfl Try.func68 (by kernel_rfl) rfl #[.agg #[.slice A0_0 l0_0.length c0_0]] rfl (by (try simp only [List.map_toArray, List.map_cons, List.map_nil]); first | done | rfl) ?_; (with_reducible refine (spec_l5Copy.calls k _ _ l0_0 t265 _ ?side1 ?side2 A3.out).mono ?_); (case side1 => exact (Kd.bN HR0_0.out HB.out)); (case side2 => exact HC0_0.out); rintro e w11 ⟨v266, rfl, ho0, hb⟩; refine ⟨_, rfl, ?_⟩; have HO267 := aA.mk (Kd.N_lower (Kd.N_mono (ok' := fun k_ => (w.heap.size ≤ k_) ∧ k_ ≠ gb262 ∧ k_ ≠ gb263 ∧ k_ ≠ gb264) (Kd.S_N (Kd.S_bound ho0)) (fun k_ hk_ => ⟨(Nat.le_trans (aQ HB.out) hk_.2.1), (Kd.freshB (g := gb262) (o := .cells #[.slice A0_0 l0_0.length c0_0] 32 (0, 0)) BK262.out k_ hk_.2.1), (Kd.freshB (g := gb263) (o := .cells #[.int .i64 a1_0, .int .i64 a1_1, .int .i64 a1_2, .int .i64 a1_3, .int .i64 a1_4] 27 (0, 0)) BK263.out k_ hk_.2.1), (Kd.freshB (g := gb264) (o := .cells #[.slice none 0 0] 32 (0, 0)) BK264.out k_ hk_.2.1)⟩)) (aQ HB.out)); replace BK262 := aA.mk (aG (g := gb262) (o := .cells #[.slice A0_0 l0_0.length c0_0] 32 (0, 0)) BK262.out hb); replace BK263 := aA.mk (aG (g := gb263) (o := .cells #[.int .i64 a1_0, .int .i64 a1_1, .int .i64 a1_2, .int .i64 a1_3, .int .i64 a1_4] 27 (0, 0)) BK263.out hb); replace BK264 := aA.mk (aG (g := gb264) (o := .cells #[.slice none 0 0] 32 (0, 0)) BK264.out hb); replace HB := aA.mk (aT HB.out hb); (try clear hb); (try clear ho0)) | ((with_reducible refine bA (N := 6) rfl ?_); (try (refine gate_guard (by rfl) ?_; dsimp only)); refine bC ?hg (N := 6) ?hd (cs := #[.slice none 0 0]) (t := 32) ?hr ?_; (case hd => rfl); (case hg => rfl); (case hr => first | (go_simp; done) | (go_simp; rfl)); intro gb268 hg w12 hbox hb; replace HO267 := aA.mk (Kd.N_below (Kd.N_elderB HO267.out gb268 (Nat.le_of_eq hg.symm)) hb); have BK268 := aA.mk (hbox); have GW268 := aA.mk ((by rw [hg]; exact (aQ HB.out) : w.heap.size ≤ gb268)); have GE268 := aA.mk ((by rw [hg]; exact (aQ HB.out) : w.heap.size ≤ gb268)); replace HB := aA.mk (aT HB.out hb); have NB262_268 := aA.mk ((by rw [hg]; exact Nat.ne_of_lt (aY (g := gb262) (o := .cells #[.slice A0_0 l0_0.length c0_0] 32 (0, 0)) BK262.out) : gb262 ≠ gb268)); have NB268_262 := aA.mk ((by rw [hg]; exact Nat.ne_of_gt (aY (g := gb262) (o := .cells #[.slice A0_0 l0_0.length c0_0] 32 (0, 0)) BK262.out) : gb268 ≠ gb262)); replace BK262 := aA.mk (aG (g := gb262) (o := .cells #[.slice A0_0 l0_0.length c0_0] 32 (0, 0)) BK262.out hb); have NB263_268 := aA.mk ((by rw [hg]; exact Nat.ne_of_lt (aY (g := gb263) (o := .cells #[.int .i64 a1_0, .int .i64 a1_1, .int .i64 a1_2, .int .i64 a1_3, .int .i64 a1_4] 27 (0, 0)) BK263.out) : gb263 ≠ gb268)); have NB268_263 := aA.mk ((by rw [hg]; exact Nat.ne_of_gt (aY (g := gb263) (o := .cells #[.int .i64 a1_0, .int .i64 a1_1, .int .i64 a1_2, .int .i64 a1_3, .int .i64 a1_4] 27 (0, 0)) BK263.out) : gb268 ≠ gb263)); replace BK263 := aA.mk (aG (g := gb263) (o := .cells #[.int .i64 a1_0, .int .i64 a1_1, .int .i64 a1_2, .int .i64 a1_3, .int .i64 a1_4] 27 (0, 0)) BK263.out hb); have NB264_268 := aA.mk ((by rw [hg]; exact Nat.ne_of_lt (aY (g := gb264) (o := .cells #[.slice none 0 0] 32 (0, 0)) BK264.out) : gb264 ≠ gb268)); have NB268_264 := aA.mk ((by rw [hg]; exact Nat.ne_of_gt (aY (g := gb264) (o := .cells #[.slice none 0 0] 32 (0, 0)) BK264.out) : gb268 ≠ gb264)); replace BK264 := aA.mk (aG (g := gb264) (o := .cells #[.slice none 0 0] 32 (0, 0)) BK264.out hb); clear hb hbox hg; obtain ⟨Ao13, co13, eo13⟩ := Kd.N_slice HO267.out; subst eo13; have hnb14 := NB268_262.out; have hnc14 := NB262_268.out; have hnb15 := NB268_263.out; have hnc15 := NB263_268.out; have hnb16 := NB268_264.out; have hnc16 := NB264_268.out; have hcz17_0 := cs1 BK268.out; have hfz17_0 := fs1 BK268.out))
 (try simp only [Act.put, lA, lB, lC])
 go_cut [8] (fun v8 wc => ∃ (kq : Nat) (x8_3 : Bool), v8 = .bool x8_3 ∧ aA (spec_NodePut.j0 kq (wrap64 ((t265.length : Int) - 1)) x8_3 l0_0 a1_0 a1_1 a1_2 a1_3 a1_4 t265 = some (r1, r2)) ∧ aA (kq ≤ k) ∧ aA (Kd.N (Kd.slice 27 k27) 40 wc w.heap.size (fun k_ => (w.heap.size ≤ k_) ∧ k_ ≠ gb262 ∧ k_ ≠ gb263 ∧ k_ ≠ gb264 ∧ k_ ≠ gb268) (.slice Ao13 t265.length co13) t265) ∧ aA (wc.heap[gb262]? = some (.cells #[(.slice A0_0 l0_0.length c0_0)] 32 (0, 0))) ∧ aA (wc.heap[gb263]? = some (.cells #[.int .i64 a1_0, .int .i64 a1_1, .int .i64 a1_2, .int .i64 a1_3, .int .i64 a1_4] 27 (0, 0))) ∧ aA (wc.heap[gb264]? = some (.cells #[(.slice none 0 0)] 32 (0, 0))) ∧ aA (wc.heap[gb268]? = some (.cells #[(.slice Ao13 t265.length co13)] 32 (0, 0))) ∧ aA (Below w.heap.size w wc))
 case first =>
  have H := HC4.out
  clear HC4
  by_cases c18 : (wrap64 ((t265.length : Int) - 1)) ≥ 0
  ·rw [if_pos c18] at H
   have c18b0 : decide (0 ≤ (wrap64 ((t265.length : Int) - 1))) = true := decide_eq_true c18
   clear c18
   (first | rw [c18b0] | (simp only [aU, aV]; rw [c18b0]) | skip)
   obtain ⟨ji19, hji19⟩ : ∃ j_ : Int, (wrap64 ((t265.length : Int) - 1)) = j_ := ⟨_, rfl⟩
   replace H : (if 0 ≤ (ji19) then (if (ji19) < (t265.length : Int) then ((spec_SetAt.f k (rd_L4 t265 (ji19)) a1_0 a1_1).bind fun bt270 => (spec_NodePut.j0 k ji19 bt270.2.2.2.2.2 l0_0 a1_0 a1_1 a1_2 a1_3 a1_4 t265)) else (none)) else (none)) = some (r1, r2) := by first | (rw [hji19] at H; exact H) | (simp only [hji19] at H ⊢; exact H)
   (try rw [hji19] at c18b0)
   have hji19w : (IntKind.i64.wrap ((t265.length : Int) - 1)) = ji19 := (aU _).trans hji19
   by_cases c20 : 0 ≤ (ji19)
   ·rw [if_pos c20] at H
    have c20b0 : decide (0 ≤ (ji19)) = true := decide_eq_true c20
    clear c20
    by_cases c21 : (ji19) < (t265.length : Int)
    ·rw [if_pos c21] at H
     have c21b0 : decide ((ji19) < (t265.length : Int)) = true := decide_eq_true c21
     clear c21
     replace H := lF H
     obtain ⟨⟨t270, t271, t272, t273, t274, t275⟩, A220, H⟩ := H
     replace H : (spec_NodePut.j0 k ji19 t275 l0_0 a1_0 a1_1 a1_2 a1_3 a1_4 t265) = some (r1, r2) := H
     have A22 := aA.mk A220
     clear A220
     have H' := aA.mk H
     clear H
     try go_wp2
     have n0_ : aA (Kd.N (Kd.slice 27 k27) 40 (w12.setCell ⟨gb268, 0, none⟩ (.slice Ao13 t265.length co13)) w.heap.size (fun k_ => (w.heap.size ≤ k_) ∧ k_ ≠ gb262 ∧ k_ ≠ gb263 ∧ k_ ≠ gb264 ∧ k_ ≠ gb268) (.slice Ao13 t265.length co13) t265) := ⟨by (with_reducible repeat (first | apply Kd.N_alloc | apply Kd.N_drewN | apply Kd.N_drew)); exact Kd.N_mono (Kd.N_far (p := ⟨gb268, 0, none⟩) (Kd.N_mono HO267.out (fun k_ hk => (⟨hk, hk.2⟩ : _ ∧ k_ ≠ gb268))) (fun _ hk => hk.2) (.slice Ao13 t265.length co13)) (fun _ hk => ⟨hk.1.1.1, ⟨hk.1.1.2.1, ⟨hk.1.1.2.2.1, ⟨hk.1.1.2.2.2, hk.1.2⟩⟩⟩⟩)⟩
     have n1_ : aA ((w12.setCell ⟨gb268, 0, none⟩ (.slice Ao13 t265.length co13)).heap[gb262]? = some (.cells #[.slice A0_0 l0_0.length c0_0] 32 (0, 0))) := ⟨by (with_reducible repeat (first | refine aM ?_ _ | refine aJ ?_ | refine aK ?_ _)); refine bB ?_ NB262_268.out _; (with_reducible repeat (first | refine aM ?_ _ | refine aJ ?_ | refine aK ?_ _)); exact BK262.out⟩
     have n2_ : aA ((w12.setCell ⟨gb268, 0, none⟩ (.slice Ao13 t265.length co13)).heap[gb263]? = some (.cells #[.int .i64 a1_0, .int .i64 a1_1, .int .i64 a1_2, .int .i64 a1_3, .int .i64 a1_4] 27 (0, 0))) := ⟨by (with_reducible repeat (first | refine aM ?_ _ | refine aJ ?_ | refine aK ?_ _)); refine bB ?_ NB263_268.out _; (with_reducible repeat (first | refine aM ?_ _ | refine aJ ?_ | refine aK ?_ _)); exact BK263.out⟩
     have n3_ : aA ((w12.setCell ⟨gb268, 0, none⟩ (.slice Ao13 t265.length co13)).heap[gb264]? = some (.cells #[.slice none 0 0] 32 (0, 0))) := ⟨by (with_reducible repeat (first | refine aM ?_ _ | refine aJ ?_ | refine aK ?_ _)); refine bB ?_ NB264_268.out _; (with_reducible repeat (first | refine aM ?_ _ | refine aJ ?_ | refine aK ?_ _)); exact BK264.out⟩
     have n4_ : aA ((w12.setCell ⟨gb268, 0, none⟩ (.slice Ao13 t265.length co13)).heap[gb268]? = some (.cells #[.slice Ao13 t265.length co13] 32 (0, 0))) := ⟨by (with_reducible repeat (first | refine aM ?_ _ | refine aJ ?_ | refine aK ?_ _)); refine bE (cs := #[.slice none 0 0]) ?_ 0 _ rfl; (with_reducible repeat (first | refine aM ?_ _ | refine aJ ?_ | refine aK ?_ _)); exact BK268.out⟩
     have n5_ : aA (Below w.heap.size w (w12.setCell ⟨gb268, 0, none⟩ (.slice Ao13 t265.length co13))) := ⟨by repeat (first | (with_reducible first | exact HB.out | apply aN | apply aE | apply aH | refine aC ?_ GE262.out | refine aC ?_ GE263.out | refine aC ?_ GE264.out | refine aC ?_ GE268.out) | exact HB.out)⟩
     (try clear HO267)
     (try clear BK262)
     (try clear BK263)
     (try clear BK264)
     (try clear BK268)
     (try clear HB)
     generalize (w12.setCell ⟨gb268, 0, none⟩ (.slice Ao13 t265.length co13)) = w23 at n0_ n1_ n2_ n3_ n4_ n5_ ⊢
     have HO267 := n0_
     have BK262 := n1_
     have BK263 := n2_
     have BK264 := n3_
     have BK268 := n4_
     have HB := n5_
     clear n0_ n1_ n2_ n3_ n4_ n5_
     replace HO267 := aA.mk (Kd.N_drew HO267.out)
     replace BK262 := aA.mk (aJ BK262.out)
     replace BK263 := aA.mk (aJ BK263.out)
     replace BK264 := aA.mk (aJ BK264.out)
     replace BK268 := aA.mk (aJ BK268.out)
     replace HB := aA.mk (aH HB.out)
     have p269 : 0 ≤ ((ji19) : Int) := lE (by assumption)
     have q269 : (ji19) < (t265.length : Int) := lE (by assumption)
     obtain ⟨ad269, A269_0, c269_0, e269, hx269_0, hl269_0, hi269_0⟩ := at_L4 (Kd.N_reads' HO267.out).2.2 (ji19) p269 q269
     cases e269
     obtain ⟨ce269, hce269, hMe269, hcc269⟩ := Kd.N_get HO267.out [] (ji19) p269 (by first | exact q269 | exact lE (by assumption) | (have e_ := (Kd.N_reads' HO267.out).1; omega))
     obtain ⟨ua269_0, uc269_0, rfl, ul269_0, ge269_0⟩ := Kd.FK_slice_open hMe269
     have hv269_0 := hcc269 0 _ rfl
     rw [Nat.add_zero, show ((Kd.slice 27 k27)).sz = 1 from rfl, Nat.mul_one] at hv269_0
     replace hv269_0 := Option.some.inj (hv269_0.symm.trans hx269_0)
     injection hv269_0 with hva_ hvn_ hvc_
     rw [hva_] at ge269_0
     rw [hvc_] at ul269_0
     have HL269_0 := aA.mk (show Kd.V k27 27 _ w.heap.size _ _ (rd_L4 t265 (ji19)) from Kd.V_mk ul269_0 ge269_0)
     clear hva_ hvn_ hvc_ ge269_0 ul269_0
     clear hcc269 hce269
     have HR269_0 := aA.mk hi269_0
     have HC269_0 := aA.mk hl269_0
     clear hi269_0 hl269_0
     replace p269 := eq_true p269
     replace q269 := eq_true q269
     refine start_ (n := 14) (S := fun w' => w'.cell? ⟨gb268, 0, none⟩ = some (.slice (some ad269) t265.length co13) ∧ w'.cell? ⟨gb263, 0, none⟩ = some (.int .i64 a1_0) ∧ w'.cell? ⟨gb263, 1, none⟩ = some (.int .i64 a1_1) ∧ w'.cell? ⟨gb263, 2, none⟩ = some (.int .i64 a1_2) ∧ w'.cell? ⟨gb263, 3, none⟩ = some (.int .i64 a1_3) ∧ w'.cell? ⟨gb263, 4, none⟩ = some (.int .i64 a1_4) ∧ w'.cell? (ad269.add ((ji19)).toNat) = some (.slice A269_0 (rd_L4 t265 (ji19)).length c269_0)) (ds := []) #[false, false, false, false, false, false, false, false, false, false, false, false, false, false] (by kernel_rfl) rfl rfl ⟨(aD BK268.out 0).trans rfl, (aD BK263.out 0).trans rfl, (aD BK263.out 1).trans rfl, (aD BK263.out 2).trans rfl, (aD BK263.out 3).trans rfl, (aD BK263.out 4).trans rfl, hx269_0⟩ (fun hHeld => ?_); refine with_tabW spec_NodePut.tab5 spec_NodePut.bits5 (fun HT_ HW_ => ?_)
     generalize w23.drew = w24 at HO267 BK262 BK263 BK264 BK268 HB HL269_0 HR269_0 hx269_0 hHeld ⊢
     refine aW (i := 0) (N := some 19) (v := ?_) (a' := ?_) #[true, false, false, false, false, false, false, false, false, false, false, false, false, false] rfl rfl (aZ HT_.out (by kernel_rfl)) (fun _ _ _ h => h) (Or.inl ⟨by rfl, ?_⟩) ?_ ?_
     rotate_left
     ·intro w'
      go_simp
      with_reducible rfl
     rotate_left
     ·simp only [Act.put, lA, lB, lC, aU, aV]
      rfl
     refine aW (i := 2) (N := some 21) (v := ?_) (a' := ?_) #[true, false, true, false, false, false, false, false, false, false, false, false, false, false] rfl rfl (aZ HT_.out (by kernel_rfl)) (fun _ _ _ h => h) (Or.inl ⟨by rfl, ?_⟩) ?_ ?_
     rotate_left
     ·intro w'
      go_simp
      with_reducible rfl
     rotate_left
     ·simp only [Act.put, lA, lB, lC, aU, aV]
      rfl
     refine aW (i := 5) (N := some 24) (v := ?_) (a' := ?_) #[true, false, true, false, false, true, false, false, false, false, false, false, false, false] rfl rfl (aZ HT_.out (by kernel_rfl)) (fun _ _ _ h => h) (Or.inl ⟨by rfl, ?_⟩) ?_ ?_
     rotate_left
     ·intro w'
      go_simp
      with_reducible rfl
     rotate_left
     ·simp only [Act.put, lA, lB, lC, aU, aV]
      rfl
     refine aW (i := 7) (N := some 26) (v := ?_) (a' := ?_) #[true, false, true, false, false, true, false, true, false, false, false, false, false, false] rfl rfl (aZ HT_.out (by kernel_rfl)) (fun _ _ _ h => h) (Or.inl ⟨by rfl, ?_⟩) ?_ ?_
     rotate_left
     ·intro w'
      go_simp
      with_reducible rfl
     rotate_left
     ·simp only [Act.put, lA, lB, lC, aU, aV]
      rfl
     refine take_ (i := 1) (N := some 20) (v := ?_) (a' := ?_) #[true, true, true, false, false, true, false, true, false, false, false, false, false, false] rfl rfl (bV HT_.out HW_.out (by kernel_rfl)) (fun _ _ _ h => h) (Or.inl ⟨by rfl, ?_⟩) hHeld ?_ ?_
     rotate_left
     ·rintro w' ⟨s0, s1, s2, s3, s4, s5, s6⟩
      go_simp
      with_reducible rfl
     rotate_left
     ·simp only [Act.put, lA, lB, lC, aU, aV]
      rfl
     refine aW (i := 3) (N := some 22) (v := ?_) (a' := ?_) #[true, true, true, true, false, true, false, true, false, false, false, false, false, false] rfl rfl (aZ HT_.out (by kernel_rfl)) (fun _ _ _ h => h) (Or.inl ⟨by rfl, ?_⟩) ?_ ?_
     rotate_left
     ·intro w'
      go_simp
      with_reducible rfl
     rotate_left
     ·simp only [Act.put, lA, lB, lC, aU, aV]
      rfl
     refine take_ (i := 4) (N := some 23) (v := ?_) (a' := ?_) #[true, true, true, true, true, true, false, true, false, false, false, false, false, false] rfl rfl (bV HT_.out HW_.out (by kernel_rfl)) (fun _ _ _ h => h) (Or.inl ⟨by rfl, ?_⟩) hHeld ?_ ?_
     rotate_left
     ·rintro w' ⟨s0, s1, s2, s3, s4, s5, s6⟩
      go_simp
      with_reducible rfl
     rotate_left
     ·simp only [Act.put, lA, lB, lC, aU, aV]
      rfl
     refine take_ (i := 6) (N := some 25) (v := ?_) (a' := ?_) #[true, true, true, true, true, true, true, true, false, false, false, false, false, false] rfl rfl (bV HT_.out HW_.out (by kernel_rfl)) (fun _ _ _ h => h) (Or.inl ⟨by rfl, ?_⟩) hHeld ?_ ?_
     rotate_left
     ·rintro w' ⟨s0, s1, s2, s3, s4, s5, s6⟩
      go_simp
      with_reducible rfl
     rotate_left
     ·simp only [Act.put, lA, lB, lC, aU, aV]
      rfl
     refine take_ (i := 8) (N := some 27) (v := ?_) (a' := ?_) #[true, true, true, true, true, true, true, true, true, false, false, false, false, false] rfl rfl (bV HT_.out HW_.out (by kernel_rfl)) (fun _ _ _ h => h) (Or.inl ⟨by rfl, ?_⟩) hHeld ?_ ?_
     rotate_left
     ·rintro w' ⟨s0, s1, s2, s3, s4, s5, s6⟩
      go_simp
      with_reducible rfl
     rotate_left
     ·simp only [Act.put, lA, lB, lC, aU, aV]
      rfl
     refine one_ (i := 9) (N := some 28) #[true, true, true, true, true, true, true, true, true, true, false, false, false, false] rfl rfl (one_of HT_.out (by kernel_rfl)) (by decide) (fun K hK => ?_)
     refine goes_ Try.func54 (by kernel_rfl) rfl #[.slice A269_0 (rd_L4 t265 (ji19)).length c269_0, .int .i64 a1_0, .int .i64 a1_1] (by rfl) rfl rfl (by (try simp only [List.map_toArray, List.map_cons, List.map_nil]); first | done | (simp only [hji19]; rfl) | rfl | (simp only [List.length_drop, List.length_take]; rfl)) ?_
     with_reducible refine (spec_SetAt.calls k _ _ (rd_L4 t265 (ji19)) a1_0 a1_1 t270 t271 t272 t273 t274 t275 _ ?side1 ?side2 A22.out).mono ?_
     (case side1 => exact (by repeat (first | (with_reducible exact HR269_0.out) | (with_reducible refine Kd.C_alloc ?_ _) | (with_reducible refine Kd.C_drewN ?_ _) | (with_reducible refine Kd.C_drew ?_) | exact HR269_0.out)))
     (case side2 => exact HC269_0.out)
     rintro e w25 ⟨rfl, hb⟩
     have HS6_ := (hb.cell (lD _ _ (hHeld.2.2.2.2.2.2))).trans (hHeld.2.2.2.2.2.2)
     refine ⟨_, rfl, ?_⟩
     replace HO267 := aA.mk (Kd.N_below HO267.out hb)
     replace HL269_0 := aA.mk (Kd.V_below HL269_0.out hb)
     replace BK262 := aA.mk (aG (g := gb262) (o := .cells #[.slice A0_0 l0_0.length c0_0] 32 (0, 0)) BK262.out hb)
     replace BK263 := aA.mk (aG (g := gb263) (o := .cells #[.int .i64 a1_0, .int .i64 a1_1, .int .i64 a1_2, .int .i64 a1_3, .int .i64 a1_4] 27 (0, 0)) BK263.out hb)
     replace BK264 := aA.mk (aG (g := gb264) (o := .cells #[.slice none 0 0] 32 (0, 0)) BK264.out hb)
     replace BK268 := aA.mk (aG (g := gb268) (o := .cells #[.slice (some ad269) t265.length co13] 32 (0, 0)) BK268.out hb)
     replace HR269_0 := aA.mk (Kd.bN (by repeat (first | (with_reducible exact HR269_0.out) | (with_reducible refine Kd.C_alloc ?_ _) | (with_reducible refine Kd.C_drewN ?_ _) | (with_reducible refine Kd.C_drew ?_) | exact HR269_0.out)) hb)
     replace HB := aA.mk (aT HB.out hb)
     (try clear hb)
     (try clear hb2)
     (try clear hk)
     (try clear hi)
     refine hK.out _ _ ⟨(aD BK268.out 0).trans rfl, (aD BK263.out 0).trans rfl, (aD BK263.out 1).trans rfl, (aD BK263.out 2).trans rfl, (aD BK263.out 3).trans rfl, (aD BK263.out 4).trans rfl, HS6_⟩ (fun hHeld => ?_)
     clear hK K
     refine bJ (a' := ?_) ?_ ?_
     rotate_left
     ·show Act.put _ (some 28) _ = _
      simp only [Act.put, lA, lB, lC, aU, aV]
      rfl
     refine aW (i := 10) (N := some 18) (v := ?_) (a' := ?_) #[true, true, true, true, true, true, true, true, true, true, true, false, false, false] rfl rfl (aZ HT_.out (by kernel_rfl)) (fun _ _ _ h => h) (Or.inl ⟨by rfl, ?_⟩) ?_ ?_
     rotate_left
     ·intro w'
      go_simp
      with_reducible rfl
     rotate_left
     ·simp only [Act.put, lA, lB, lC, aU, aV]
      rfl
     refine aW (i := 11) (N := some 29) (v := ?_) (a' := ?_) #[true, true, true, true, true, true, true, true, true, true, true, true, false, false] rfl rfl (aZ HT_.out (by kernel_rfl)) (fun _ _ _ h => h) (Or.inl ⟨by rfl, ?_⟩) ?_ ?_
     rotate_left
     ·intro w'
      go_simp
      with_reducible rfl
     rotate_left
     ·simp only [Act.put, lA, lB, lC, aU, aV]
      rfl
     refine aW (i := 12) (N := some 30) (v := ?_) (a' := ?_) #[true, true, true, true, true, true, true, true, true, true, true, true, true, false] rfl rfl (aZ HT_.out (by kernel_rfl)) (fun _ _ _ h => h) (Or.inl ⟨by rfl, ?_⟩) ?_ ?_
     rotate_left
     ·intro w'
      go_simp
      with_reducible rfl
     rotate_left
     ·simp only [Act.put, lA, lB, lC, aU, aV]
      rfl
     refine aW (i := 13) (N := some 8) (v := ?_) (a' := ?_) #[true, true, true, true, true, true, true, true, true, true, true, true, true, true] rfl rfl (aZ HT_.out (by kernel_rfl)) (fun _ _ _ h => h) (Or.inl ⟨by rfl, ?_⟩) ?_ ?_
     rotate_left
     ·intro w'
      go_simp
      with_reducible rfl
     rotate_left
     ·simp only [Act.put, lA, lB, lC, aU, aV]
      rfl
     refine done_ (done_of HT_.out (by kernel_rfl)) ?_
     try go_wp2
     subst hji19
     go_meet
     case rel => exact ⟨_, (t275), (by first | rfl | (simp; done) | (simp [*]; done)), H', ⟨by first | omega | exact Nat.le_refl _⟩, ⟨by (with_reducible repeat (first | apply Kd.N_alloc | apply Kd.N_drewN | apply Kd.N_drew)); exact HO267.out⟩, ⟨by (with_reducible repeat (first | refine aM ?_ _ | refine aJ ?_ | refine aK ?_ _)); exact BK262.out⟩, ⟨by (with_reducible repeat (first | refine aM ?_ _ | refine aJ ?_ | refine aK ?_ _)); exact BK263.out⟩, ⟨by (with_reducible repeat (first | refine aM ?_ _ | refine aJ ?_ | refine aK ?_ _)); exact BK264.out⟩, ⟨by (with_reducible repeat (first | refine aM ?_ _ | refine aJ ?_ | refine aK ?_ _)); exact BK268.out⟩, ⟨by repeat (first | (with_reducible first | exact HB.out | apply aN | apply aE | apply aH | refine aC ?_ GE262.out | refine aC ?_ GE263.out | refine aC ?_ GE264.out | refine aC ?_ GE268.out) | exact HB.out)⟩⟩
    ·rw [if_neg c21] at H
     exact absurd H (by simp)
   ·rw [if_neg c20] at H
    exact absurd H (by simp)
  ·rw [if_neg c18] at H
   have c18b0 : decide (0 ≤ (wrap64 ((t265.length : Int) - 1))) = false := decide_eq_false c18
   clear c18
   (first | rw [c18b0] | (simp only [aU, aV]; rw [c18b0]) | skip)
   have H' := aA.mk H
   clear H
   go_wp2
   go_meet
   case rel => exact ⟨_, (false), (by first | rfl | (simp; done) | (simp [*]; done)), H', ⟨by first | omega | exact Nat.le_refl _⟩, ⟨by (with_reducible repeat (first | apply Kd.N_alloc | apply Kd.N_drewN | apply Kd.N_drew)); exact Kd.N_mono (Kd.N_far (p := ⟨gb268, 0, none⟩) (Kd.N_mono HO267.out (fun k_ hk => (⟨hk, hk.2⟩ : _ ∧ k_ ≠ gb268))) (fun _ hk => hk.2) (.slice Ao13 t265.length co13)) (fun _ hk => ⟨hk.1.1.1, ⟨hk.1.1.2.1, ⟨hk.1.1.2.2.1, ⟨hk.1.1.2.2.2, hk.1.2⟩⟩⟩⟩)⟩, ⟨by (with_reducible repeat (first | refine aM ?_ _ | refine aJ ?_ | refine aK ?_ _)); refine bB ?_ NB262_268.out _; (with_reducible repeat (first | refine aM ?_ _ | refine aJ ?_ | refine aK ?_ _)); exact BK262.out⟩, ⟨by (with_reducible repeat (first | refine aM ?_ _ | refine aJ ?_ | refine aK ?_ _)); refine bB ?_ NB263_268.out _; (with_reducible repeat (first | refine aM ?_ _ | refine aJ ?_ | refine aK ?_ _)); exact BK263.out⟩, ⟨by (with_reducible repeat (first | refine aM ?_ _ | refine aJ ?_ | refine aK ?_ _)); refine bB ?_ NB264_268.out _; (with_reducible repeat (first | refine aM ?_ _ | refine aJ ?_ | refine aK ?_ _)); exact BK264.out⟩, ⟨by (with_reducible repeat (first | refine aM ?_ _ | refine aJ ?_ | refine aK ?_ _)); refine bE (cs := #[.slice none 0 0]) ?_ 0 _ rfl; (with_reducible repeat (first | refine aM ?_ _ | refine aJ ?_ | refine aK ?_ _)); exact BK268.out⟩, ⟨by repeat (first | (with_reducible first | exact HB.out | apply aN | apply aE | apply aH | refine aC ?_ GE262.out | refine aC ?_ GE263.out | refine aC ?_ GE264.out | refine aC ?_ GE268.out) | exact HB.out)⟩⟩
 case rest =>
  clear HC4
  try clear c1
  try clear c2
  try clear p2
  try clear q2
  try clear hx2
  try clear c3
  try clear c5
  try clear c6
  try clear p6
  try clear c8
  try clear c9
  try clear c14
  try clear c15
  try clear c16
  try clear c18
  try clear c18b0
  try clear c20
  try clear c20b0
  try clear c21
  try clear c21b0
  try clear hcz10_0
  try clear hcz17_0
  try clear hfz10_0
  try clear hfz17_0
  try clear hx269_0
  try clear p269
  try clear q269
  obtain ⟨kq, x8_3, rfl, HA, HJ3, HO_269000, BK262, BK263, BK264, BK268, HB⟩ := hcut
  cases kq with
  | zero => exact absurd HA.out (by simp [spec_NodePut.j0])
  | succ kj3 =>
   have H := HA.out
   clear HA
   simp only [spec_NodePut.j0] at H
   have HC26 := aA.mk H
   clear H
   go_upto_region 6 with (fail)
   go_cut [44] (fun v44 wc => ∃ (kq : Nat) (x44_25 : Bool), v44 = .bool x44_25 ∧ aA (spec_NodePut.j1 kq (wrap64 ((t265.length : Int) - 1)) x44_25 l0_0 a1_0 a1_1 a1_2 a1_3 a1_4 t265 = some (r1, r2)) ∧ aA (kq ≤ kj3) ∧ aA (Kd.N (Kd.slice 27 k27) 40 wc w.heap.size (fun k_ => (w.heap.size ≤ k_) ∧ k_ ≠ gb262 ∧ k_ ≠ gb263 ∧ k_ ≠ gb264 ∧ k_ ≠ gb268) (.slice Ao13 t265.length co13) t265) ∧ aA (wc.heap[gb262]? = some (.cells #[(.slice A0_0 l0_0.length c0_0)] 32 (0, 0))) ∧ aA (wc.heap[gb263]? = some (.cells #[.int .i64 a1_0, .int .i64 a1_1, .int .i64 a1_2, .int .i64 a1_3, .int .i64 a1_4] 27 (0, 0))) ∧ aA (wc.heap[gb264]? = some (.cells #[(.slice none 0 0)] 32 (0, 0))) ∧ aA (wc.heap[gb268]? = some (.cells #[(.slice Ao13 t265.length co13)] 32 (0, 0))) ∧ aA (Below w.heap.size w wc))
   case first =>
    have H := HC26.out
    clear HC26
    by_cases c27 : (wrap64 ((t265.length : Int) - 1)) ≥ 0
    ·rw [if_pos c27] at H
     have c27b0 : decide (0 ≤ (wrap64 ((t265.length : Int) - 1))) = true := decide_eq_true c27
     clear c27
     (first | rw [c27b0] | (simp only [aU, aV]; rw [c27b0]) | skip)
     obtain ⟨ji28, hji28⟩ : ∃ j_ : Int, (wrap64 ((t265.length : Int) - 1)) = j_ := ⟨_, rfl⟩
     replace H : (if 0 ≤ (ji28) then (if (ji28) < (t265.length : Int) then (if ((rd_L4 t265 (ji28)).length : Int) < 4 then (spec_NodePut.j1 kj3 (ji28) true l0_0 a1_0 a1_1 a1_2 a1_3 a1_4 t265) else (spec_NodePut.j1 kj3 (ji28) x8_3 l0_0 a1_0 a1_1 a1_2 a1_3 a1_4 t265)) else (none)) else (none)) = some (r1, r2) := by first | (rw [hji28] at H; exact H) | (simp only [hji28] at H ⊢; exact H)
     (try rw [hji28] at c27b0)
     have hji28w : (IntKind.i64.wrap ((t265.length : Int) - 1)) = ji28 := (aU _).trans hji28
     by_cases c29 : 0 ≤ (ji28)
     ·rw [if_pos c29] at H
      have c29b0 : decide (0 ≤ (ji28)) = true := decide_eq_true c29
      clear c29
      by_cases c30 : (ji28) < (t265.length : Int)
      ·rw [if_pos c30] at H
       have c30b0 : decide ((ji28) < (t265.length : Int)) = true := decide_eq_true c30
       clear c30
       by_cases c31 : ((rd_L4 t265 (ji28)).length : Int) < 4
       ·rw [if_pos c31] at H
        have c31b0 : decide (((rd_L4 t265 (ji28)).length : Int) < 4) = true := decide_eq_true c31
        have c31b1 : decide ((rd_L4 t265 (ji28)).length < 4) = true := decide_eq_true (by omega)
        clear c31
        have H' := aA.mk H
        clear H
        have hnb32 := NB268_262.out
        have hnc32 := NB262_268.out
        have hnb33 := NB268_263.out
        have hnc33 := NB263_268.out
        have hnb34 := NB268_264.out
        have hnc34 := NB264_268.out
        have hcz35_0 := cs1 BK268.out
        have hfz35_0 := fs1 BK268.out
        have p276 : 0 ≤ ((ji28) : Int) := lE (by assumption)
        have q276 : (ji28) < (t265.length : Int) := lE (by assumption)
        obtain ⟨ad276, A276_0, c276_0, e276, hx276_0, hl276_0, hi276_0⟩ := at_L4 (Kd.N_reads' HO_269000.out).2.2 (ji28) p276 q276
        cases e276
        obtain ⟨ce276, hce276, hMe276, hcc276⟩ := Kd.N_get HO_269000.out [] (ji28) p276 (by first | exact q276 | exact lE (by assumption) | (have e_ := (Kd.N_reads' HO_269000.out).1; omega))
        obtain ⟨ua276_0, uc276_0, rfl, ul276_0, ge276_0⟩ := Kd.FK_slice_open hMe276
        have hv276_0 := hcc276 0 _ rfl
        rw [Nat.add_zero, show ((Kd.slice 27 k27)).sz = 1 from rfl, Nat.mul_one] at hv276_0
        replace hv276_0 := Option.some.inj (hv276_0.symm.trans hx276_0)
        injection hv276_0 with hva_ hvn_ hvc_
        rw [hva_] at ge276_0
        rw [hvc_] at ul276_0
        have HL276_0 := aA.mk (show Kd.V k27 27 _ w.heap.size _ _ (rd_L4 t265 (ji28)) from Kd.V_mk ul276_0 ge276_0)
        clear hva_ hvn_ hvc_ ge276_0 ul276_0
        clear hcc276 hce276
        have HR276_0 := aA.mk hi276_0
        have HC276_0 := aA.mk hl276_0
        clear hi276_0 hl276_0
        replace p276 := eq_true p276
        replace q276 := eq_true q276
        go_wp2
        subst hji28
        go_meet
        case rel => exact ⟨_, (true), (by first | rfl | (simp; done) | (simp [*]; done)), H', ⟨by have := HJ3.out; first | omega | exact Nat.le_refl _⟩, ⟨by (with_reducible repeat (first | apply Kd.N_alloc | apply Kd.N_drewN | apply Kd.N_drew)); exact HO_269000.out⟩, ⟨by (with_reducible repeat (first | refine aM ?_ _ | refine aJ ?_ | refine aK ?_ _)); exact BK262.out⟩, ⟨by (with_reducible repeat (first | refine aM ?_ _ | refine aJ ?_ | refine aK ?_ _)); exact BK263.out⟩, ⟨by (with_reducible repeat (first | refine aM ?_ _ | refine aJ ?_ | refine aK ?_ _)); exact BK264.out⟩, ⟨by (with_reducible repeat (first | refine aM ?_ _ | refine aJ ?_ | refine aK ?_ _)); exact BK268.out⟩, ⟨by repeat (first | (with_reducible first | exact HB.out | apply aN | apply aE | apply aH | refine aC ?_ GE262.out | refine aC ?_ GE263.out | refine aC ?_ GE264.out | refine aC ?_ GE268.out) | exact HB.out)⟩⟩
       ·rw [if_neg c31] at H
        have c31b0 : decide (((rd_L4 t265 (ji28)).length : Int) < 4) = false := decide_eq_false c31
        have c31b1 : decide ((rd_L4 t265 (ji28)).length < 4) = false := decide_eq_false (by omega)
        clear c31
        have H' := aA.mk H
        clear H
        have hnb36 := NB268_262.out
        have hnc36 := NB262_268.out
        have hnb37 := NB268_263.out
        have hnc37 := NB263_268.out
        have hnb38 := NB268_264.out
        have hnc38 := NB264_268.out
        have hcz39_0 := cs1 BK268.out
        have hfz39_0 := fs1 BK268.out
        have p276 : 0 ≤ ((ji28) : Int) := lE (by assumption)
        have q276 : (ji28) < (t265.length : Int) := lE (by assumption)
        obtain ⟨ad276, A276_0, c276_0, e276, hx276_0, hl276_0, hi276_0⟩ := at_L4 (Kd.N_reads' HO_269000.out).2.2 (ji28) p276 q276
        cases e276
        obtain ⟨ce276, hce276, hMe276, hcc276⟩ := Kd.N_get HO_269000.out [] (ji28) p276 (by first | exact q276 | exact lE (by assumption) | (have e_ := (Kd.N_reads' HO_269000.out).1; omega))
        obtain ⟨ua276_0, uc276_0, rfl, ul276_0, ge276_0⟩ := Kd.FK_slice_open hMe276
        have hv276_0 := hcc276 0 _ rfl
        rw [Nat.add_zero, show ((Kd.slice 27 k27)).sz = 1 from rfl, Nat.mul_one] at hv276_0
        replace hv276_0 := Option.some.inj (hv276_0.symm.trans hx276_0)
        injection hv276_0 with hva_ hvn_ hvc_
        rw [hva_] at ge276_0
        rw [hvc_] at ul276_0
        have HL276_0 := aA.mk (show Kd.V k27 27 _ w.heap.size _ _ (rd_L4 t265 (ji28)) from Kd.V_mk ul276_0 ge276_0)
        clear hva_ hvn_ hvc_ ge276_0 ul276_0
        clear hcc276 hce276
        have HR276_0 := aA.mk hi276_0
        have HC276_0 := aA.mk hl276_0
        clear hi276_0 hl276_0
        replace p276 := eq_true p276
        replace q276 := eq_true q276
        go_wp2
        subst hji28
        go_meet
        case rel => exact ⟨_, (x8_3), (by first | rfl | (simp; done) | (simp [*]; done)), H', ⟨by have := HJ3.out; first | omega | exact Nat.le_refl _⟩, ⟨by (with_reducible repeat (first | apply Kd.N_alloc | apply Kd.N_drewN | apply Kd.N_drew)); exact HO_269000.out⟩, ⟨by (with_reducible repeat (first | refine aM ?_ _ | refine aJ ?_ | refine aK ?_ _)); exact BK262.out⟩, ⟨by (with_reducible repeat (first | refine aM ?_ _ | refine aJ ?_ | refine aK ?_ _)); exact BK263.out⟩, ⟨by (with_reducible repeat (first | refine aM ?_ _ | refine aJ ?_ | refine aK ?_ _)); exact BK264.out⟩, ⟨by (with_reducible repeat (first | refine aM ?_ _ | refine aJ ?_ | refine aK ?_ _)); exact BK268.out⟩, ⟨by repeat (first | (with_reducible first | exact HB.out | apply aN | apply aE | apply aH | refine aC ?_ GE262.out | refine aC ?_ GE263.out | refine aC ?_ GE264.out | refine aC ?_ GE268.out) | exact HB.out)⟩⟩
      ·rw [if_neg c30] at H
       exact absurd H (by simp)
     ·rw [if_neg c29] at H
      exact absurd H (by simp)
    ·rw [if_neg c27] at H
     have c27b0 : decide (0 ≤ (wrap64 ((t265.length : Int) - 1))) = false := decide_eq_false c27
     clear c27
     (first | rw [c27b0] | (simp only [aU, aV]; rw [c27b0]) | skip)
     have H' := aA.mk H
     clear H
     go_wp2
     go_meet
     case rel => exact ⟨_, (false), (by first | rfl | (simp; done) | (simp [*]; done)), H', ⟨by have := HJ3.out; first | omega | exact Nat.le_refl _⟩, ⟨by (with_reducible repeat (first | apply Kd.N_alloc | apply Kd.N_drewN | apply Kd.N_drew)); exact HO_269000.out⟩, ⟨by (with_reducible repeat (first | refine aM ?_ _ | refine aJ ?_ | refine aK ?_ _)); exact BK262.out⟩, ⟨by (with_reducible repeat (first | refine aM ?_ _ | refine aJ ?_ | refine aK ?_ _)); exact BK263.out⟩, ⟨by (with_reducible repeat (first | refine aM ?_ _ | refine aJ ?_ | refine aK ?_ _)); exact BK264.out⟩, ⟨by (with_reducible repeat (first | refine aM ?_ _ | refine aJ ?_ | refine aK ?_ _)); exact BK268.out⟩, ⟨by repeat (first | (with_reducible first | exact HB.out | apply aN | apply aE | apply aH | refine aC ?_ GE262.out | refine aC ?_ GE263.out | refine aC ?_ GE264.out | refine aC ?_ GE268.out) | exact HB.out)⟩⟩
   case rest =>
    clear HC26
    try clear c1
    try clear c2
    try clear p2
    try clear q2
    try clear hx2
    try clear c3
    try clear c5
    try clear c6
    try clear p6
    try clear c8
    try clear c9
    try clear c14
    try clear c15
    try clear c16
    try clear c18
    try clear c18b0
    try clear c20
    try clear c20b0
    try clear c21
    try clear c21b0
    try clear c26
    try clear p26
    try clear q26
    try clear hx26
    try clear c27
    try clear c27b0
    try clear p27
    try clear q27
    try clear hx27
    try clear c29
    try clear c29b0
    try clear c30
    try clear c30b0
    try clear c31
    try clear c31b0
    try clear c31b1
    try clear c32
    try clear c33
    try clear c34
    try clear c35
    try clear c36
    try clear c37
    try clear c38
    try clear hcz10_0
    try clear hcz17_0
    try clear hcz35_0
    try clear hcz39_0
    try clear hfz10_0
    try clear hfz17_0
    try clear hfz35_0
    try clear hfz39_0
    try clear hx269_0
    try clear hx276_0
    try clear p2
    try clear p269
    try clear p276
    try clear p6
    try clear q2
    try clear q269
    try clear q276
    obtain ⟨kq, x44_25, rfl, HA, HJ25, HO_269000, BK262, BK263, BK264, BK268, HB⟩ := hcut
    cases kq with
    | zero => exact absurd HA.out (by simp [spec_NodePut.j1])
    | succ kj25 =>
     have H := HA.out
     clear HA
     simp only [spec_NodePut.j1] at H
     have HC40 := aA.mk H
     clear H
     go_upto_if 44 with (fail)
     go_cut [] (fun wc => ∃ (kq : Nat) (x269000_39 : List (List (S27))) (u269000 : Value), aA (spec_NodePut.j2 kq l0_0 a1_0 a1_1 a1_2 a1_3 a1_4 x269000_39 = some (r1, r2)) ∧ aA (kq ≤ kj25) ∧ aA (Kd.N (Kd.slice 27 k27) 40 wc w.heap.size (fun k_ => (w.heap.size ≤ k_) ∧ k_ ≠ gb262 ∧ k_ ≠ gb263 ∧ k_ ≠ gb264 ∧ k_ ≠ gb268) u269000 x269000_39) ∧ aA (wc.heap[gb262]? = some (.cells #[(.slice A0_0 l0_0.length c0_0)] 32 (0, 0))) ∧ aA (wc.heap[gb263]? = some (.cells #[.int .i64 a1_0, .int .i64 a1_1, .int .i64 a1_2, .int .i64 a1_3, .int .i64 a1_4] 27 (0, 0))) ∧ aA (wc.heap[gb264]? = some (.cells #[(.slice none 0 0)] 32 (0, 0))) ∧ aA (wc.heap[gb268]? = some (.cells #[u269000] 32 (0, 0))) ∧ aA (Below w.heap.size w wc))
     case first =>
      have H := HC40.out
      clear HC40
      by_cases c41 : x44_25 = true
      ·subst c41
       have H1 : (if 0 ≤ (wrap64 ((t265.length : Int) - 1)) then (if (wrap64 ((t265.length : Int) - 1)) < (t265.length : Int) then ((spec_SetPut.f kj25 (rd_L4 t265 (wrap64 ((t265.length : Int) - 1))) a1_0 a1_1 a1_2 a1_3 a1_4).bind fun t278 => (spec_NodePut.j2 kj25 l0_0 a1_0 a1_1 a1_2 a1_3 a1_4 (t265.set ((wrap64 ((t265.length : Int) - 1)) : Int).toNat t278))) else (none)) else (none)) = some (r1, r2) := by rw [if_pos rfl] at H; exact H
       clear H
       have H := H1
       clear H1
       obtain ⟨ji42, hji42⟩ : ∃ j_ : Int, (wrap64 ((t265.length : Int) - 1)) = j_ := ⟨_, rfl⟩
       replace H : (if 0 ≤ (ji42) then (if (ji42) < (t265.length : Int) then ((spec_SetPut.f kj25 (rd_L4 t265 (ji42)) a1_0 a1_1 a1_2 a1_3 a1_4).bind fun t278 => (spec_NodePut.j2 kj25 l0_0 a1_0 a1_1 a1_2 a1_3 a1_4 (t265.set ((ji42) : Int).toNat t278))) else (none)) else (none)) = some (r1, r2) := by first | (rw [hji42] at H; exact H) | (simp only [hji42] at H ⊢; exact H)
       have hji42w : (IntKind.i64.wrap ((t265.length : Int) - 1)) = ji42 := (aU _).trans hji42
       by_cases c43 : 0 ≤ (ji42)
       ·rw [if_pos c43] at H
        have c43b0 : decide (0 ≤ (ji42)) = true := decide_eq_true c43
        clear c43
        (first | rw [c43b0] | (simp only [aU, aV]; rw [c43b0]) | skip)
        by_cases c44 : (ji42) < (t265.length : Int)
        ·rw [if_pos c44] at H
         have c44b0 : decide ((ji42) < (t265.length : Int)) = true := decide_eq_true c44
         clear c44
         replace H := lF H
         obtain ⟨t278, A450, H⟩ := H
         replace H : (spec_NodePut.j2 kj25 l0_0 a1_0 a1_1 a1_2 a1_3 a1_4 (t265.set ((ji42) : Int).toNat t278)) = some (r1, r2) := H
         have A45 := aA.mk A450
         clear A450
         obtain ⟨y281, hy281⟩ : ∃ y_ : List (List (S27)), y_ = (t265.set ((ji42) : Int).toNat t278) := ⟨_, rfl⟩
         replace H : (spec_NodePut.j2 kj25 l0_0 a1_0 a1_1 a1_2 a1_3 a1_4 y281) = some (r1, r2) := by first | (rw [hy281]; with_reducible exact H) | (have H2_ := (Option.bind_some _ _).symm.trans H; rw [hy281]; with_reducible exact H2_) | (have H2_ := (Option.bind_some _ _).symm.trans H; with_reducible exact H2_) | with_reducible exact H | (rw [hy281]; exact H) | exact H
         have Ny281 := aA.mk hy281
         clear hy281
         have H' := aA.mk H
         clear H
         try go_wp2
         replace HO_269000 := aA.mk (Kd.N_drew HO_269000.out)
         replace BK262 := aA.mk (aJ BK262.out)
         replace BK263 := aA.mk (aJ BK263.out)
         replace BK264 := aA.mk (aJ BK264.out)
         replace BK268 := aA.mk (aJ BK268.out)
         replace HB := aA.mk (aH HB.out)
         have p277 : 0 ≤ ((ji42) : Int) := lE (by assumption)
         have q277 : (ji42) < (t265.length : Int) := lE (by assumption)
         obtain ⟨ad277, A277_0, c277_0, e277, hx277_0, hl277_0, hi277_0⟩ := at_L4 (Kd.N_reads' HO_269000.out).2.2 (ji42) p277 q277
         cases e277
         obtain ⟨ce277, hce277, hMe277, hcc277⟩ := Kd.N_get HO_269000.out [] (ji42) p277 (by first | exact q277 | exact lE (by assumption) | (have e_ := (Kd.N_reads' HO_269000.out).1; omega))
         obtain ⟨ua277_0, uc277_0, rfl, ul277_0, ge277_0⟩ := Kd.FK_slice_open hMe277
         have hv277_0 := hcc277 0 _ rfl
         rw [Nat.add_zero, show ((Kd.slice 27 k27)).sz = 1 from rfl, Nat.mul_one] at hv277_0
         replace hv277_0 := Option.some.inj (hv277_0.symm.trans hx277_0)
         injection hv277_0 with hva_ hvn_ hvc_
         rw [hva_] at ge277_0
         rw [hvc_] at ul277_0
         have HL277_0 := aA.mk (show Kd.V k27 27 _ w.heap.size _ _ (rd_L4 t265 (ji42)) from Kd.V_mk ul277_0 ge277_0)
         clear hva_ hvn_ hvc_ ge277_0 ul277_0
         clear hcc277 hce277
         have HR277_0 := aA.mk hi277_0
         have HC277_0 := aA.mk hl277_0
         clear hi277_0 hl277_0
         replace p277 := eq_true p277
         replace q277 := eq_true q277
         refine start_ (n := 12) (S := fun w' => w'.cell? ⟨gb268, 0, none⟩ = some (.slice (some ad277) t265.length co13) ∧ w'.cell? ⟨gb263, 0, none⟩ = some (.int .i64 a1_0) ∧ w'.cell? ⟨gb263, 1, none⟩ = some (.int .i64 a1_1) ∧ w'.cell? ⟨gb263, 2, none⟩ = some (.int .i64 a1_2) ∧ w'.cell? ⟨gb263, 3, none⟩ = some (.int .i64 a1_3) ∧ w'.cell? ⟨gb263, 4, none⟩ = some (.int .i64 a1_4) ∧ w'.cell? (ad277.add ((ji42)).toNat) = some (.slice A277_0 (rd_L4 t265 (ji42)).length c277_0)) (ds := [11]) #[false, false, false, false, false, false, false, false, false, false, false, false] (by kernel_rfl) rfl rfl ⟨(aD BK268.out 0).trans rfl, (aD BK263.out 0).trans rfl, (aD BK263.out 1).trans rfl, (aD BK263.out 2).trans rfl, (aD BK263.out 3).trans rfl, (aD BK263.out 4).trans rfl, hx277_0⟩ (fun hHeld => ?_); refine with_tabW spec_NodePut.tab7 spec_NodePut.bits7 (fun HT_ HW_ => ?_)
         generalize wc.drew = w47 at HO_269000 BK262 BK263 BK264 BK268 HB HL277_0 HR277_0 hx277_0 hHeld ⊢
         refine aW (i := 0) (N := some 45) (v := ?_) (a' := ?_) #[true, false, false, false, false, false, false, false, false, false, false, false] rfl rfl (aZ HT_.out (by kernel_rfl)) (fun _ _ _ h => h) (Or.inl ⟨by rfl, ?_⟩) ?_ ?_
         rotate_left
         ·intro w'
          go_simp
          with_reducible rfl
         rotate_left
         ·simp only [Act.put, lA, lB, lC, aU, aV]
          rfl
         refine aW (i := 2) (N := some 47) (v := ?_) (a' := ?_) #[true, false, true, false, false, false, false, false, false, false, false, false] rfl rfl (aZ HT_.out (by kernel_rfl)) (fun _ _ _ h => h) (Or.inl ⟨by rfl, ?_⟩) ?_ ?_
         rotate_left
         ·intro w'
          go_simp
          with_reducible rfl
         rotate_left
         ·simp only [Act.put, lA, lB, lC, aU, aV]
          rfl
         refine aW (i := 3) (N := some 48) (v := ?_) (a' := ?_) #[true, false, true, true, false, false, false, false, false, false, false, false] rfl rfl (aZ HT_.out (by kernel_rfl)) (fun _ _ _ h => h) (Or.inl ⟨by rfl, ?_⟩) ?_ ?_
         rotate_left
         ·intro w'
          go_simp
          with_reducible rfl
         rotate_left
         ·simp only [Act.put, lA, lB, lC, aU, aV]
          rfl
         refine aW (i := 5) (N := some 50) (v := ?_) (a' := ?_) #[true, false, true, true, false, true, false, false, false, false, false, false] rfl rfl (aZ HT_.out (by kernel_rfl)) (fun _ _ _ h => h) (Or.inl ⟨by rfl, ?_⟩) ?_ ?_
         rotate_left
         ·intro w'
          go_simp
          with_reducible rfl
         rotate_left
         ·simp only [Act.put, lA, lB, lC, aU, aV]
          rfl
         refine take_ (i := 1) (N := some 46) (v := ?_) (a' := ?_) #[true, true, true, true, false, true, false, false, false, false, false, false] rfl rfl (bV HT_.out HW_.out (by kernel_rfl)) (fun _ _ _ h => h) (Or.inl ⟨by rfl, ?_⟩) hHeld ?_ ?_
         rotate_left
         ·rintro w' ⟨s0, s1, s2, s3, s4, s5, s6⟩
          go_simp
          with_reducible rfl
         rotate_left
         ·simp only [Act.put, lA, lB, lC, aU, aV]
          rfl
         refine take_ (i := 4) (N := some 49) (v := ?_) (a' := ?_) #[true, true, true, true, true, true, false, false, false, false, false, false] rfl rfl (bV HT_.out HW_.out (by kernel_rfl)) (fun _ _ _ h => h) (Or.inl ⟨by rfl, ?_⟩) hHeld ?_ ?_
         rotate_left
         ·rintro w' ⟨s0, s1, s2, s3, s4, s5, s6⟩
          go_simp
          with_reducible rfl
         rotate_left
         ·simp only [Act.put, lA, lB, lC, aU, aV]
          rfl
         refine aW (i := 6) (N := some 51) (v := ?_) (a' := ?_) #[true, true, true, true, true, true, true, false, false, false, false, false] rfl rfl (aZ HT_.out (by kernel_rfl)) (fun _ _ _ h => h) (Or.inl ⟨by rfl, ?_⟩) ?_ ?_
         rotate_left
         ·intro w'
          go_simp
          with_reducible rfl
         rotate_left
         ·simp only [Act.put, lA, lB, lC, aU, aV]
          rfl
         refine take_ (i := 7) (N := some 52) (v := ?_) (a' := ?_) #[true, true, true, true, true, true, true, true, false, false, false, false] rfl rfl (bV HT_.out HW_.out (by kernel_rfl)) (fun _ _ _ h => h) (Or.inl ⟨by rfl, ?_⟩) hHeld ?_ ?_
         rotate_left
         ·rintro w' ⟨s0, s1, s2, s3, s4, s5, s6⟩
          go_simp
          with_reducible rfl
         rotate_left
         ·simp only [Act.put, lA, lB, lC, aU, aV]
          rfl
         refine take_ (i := 8) (N := some 53) (v := ?_) (a' := ?_) #[true, true, true, true, true, true, true, true, true, false, false, false] rfl rfl (bV HT_.out HW_.out (by kernel_rfl)) (fun _ _ _ h => h) (Or.inl ⟨by rfl, ?_⟩) hHeld ?_ ?_
         rotate_left
         ·rintro w' ⟨s0, s1, s2, s3, s4, s5, s6⟩
          go_simp
          with_reducible rfl
         rotate_left
         ·simp only [Act.put, lA, lB, lC, aU, aV]
          rfl
         refine one_ (i := 9) (N := some 54) #[true, true, true, true, true, true, true, true, true, true, false, false] rfl rfl (one_of HT_.out (by kernel_rfl)) (by decide) (fun K hK => ?_)
         refine goes_ Try.func69 (by kernel_rfl) rfl #[.slice A277_0 (rd_L4 t265 (ji42)).length c277_0, .agg #[.int .i64 a1_0, .int .i64 a1_1, .int .i64 a1_2, .int .i64 a1_3, .int .i64 a1_4]] (by rfl) rfl rfl (by (try simp only [List.map_toArray, List.map_cons, List.map_nil]); first | done | (simp only [hji42]; rfl) | rfl | (simp only [List.length_drop, List.length_take]; rfl)) ?_
         with_reducible refine (spec_SetPut.calls kj25 _ _ (rd_L4 t265 (ji42)) a1_0 a1_1 a1_2 a1_3 a1_4 t278 _ ?side1 ?side2 A45.out).mono ?_
         (case side1 => exact (by repeat (first | (with_reducible exact HR277_0.out) | (with_reducible refine Kd.C_alloc ?_ _) | (with_reducible refine Kd.C_drewN ?_ _) | (with_reducible refine Kd.C_drew ?_) | exact HR277_0.out)))
         (case side2 => exact HC277_0.out)
         rintro e w48 ⟨v279, rfl, ho0, hb⟩
         have HS6_ := (hb.cell (lD _ _ (hHeld.2.2.2.2.2.2))).trans (hHeld.2.2.2.2.2.2)
         refine ⟨_, rfl, ?_⟩
         replace HO_269000 := aA.mk (Kd.N_elder' HO_269000.out (Kd.R_base ho0) hb)
         replace HL277_0 := aA.mk (Kd.V_elder' HL277_0.out (Kd.R_base ho0) hb)
         have HO280 := aA.mk (Kd.R_lower (Kd.R_newB (Kd.R_newM (M := fun k_ => (w.heap.size ≤ k_)) ho0 (aQ HB.out) (fun k_ h_ => h_)) (g := gb263) (o := .cells #[.int .i64 a1_0, .int .i64 a1_1, .int .i64 a1_2, .int .i64 a1_3, .int .i64 a1_4] 27 (0, 0)) BK263.out) (aQ HB.out))
         replace BK262 := aA.mk (aG (g := gb262) (o := .cells #[.slice A0_0 l0_0.length c0_0] 32 (0, 0)) BK262.out hb)
         replace BK263 := aA.mk (aG (g := gb263) (o := .cells #[.int .i64 a1_0, .int .i64 a1_1, .int .i64 a1_2, .int .i64 a1_3, .int .i64 a1_4] 27 (0, 0)) BK263.out hb)
         replace BK264 := aA.mk (aG (g := gb264) (o := .cells #[.slice none 0 0] 32 (0, 0)) BK264.out hb)
         replace BK268 := aA.mk (aG (g := gb268) (o := .cells #[.slice (some ad277) t265.length co13] 32 (0, 0)) BK268.out hb)
         replace HR277_0 := aA.mk (Kd.bN (by repeat (first | (with_reducible exact HR277_0.out) | (with_reducible refine Kd.C_alloc ?_ _) | (with_reducible refine Kd.C_drewN ?_ _) | (with_reducible refine Kd.C_drew ?_) | exact HR277_0.out)) hb)
         replace HB := aA.mk (aT HB.out hb)
         (try clear hb)
         (try clear hb2)
         (try clear hk)
         (try clear hi)
         (try clear ho0)
         have p46 : 0 ≤ ((ji42) : Int) := lE (by assumption)
         have q46 : ((ji42) : Int) < ((t265.length : Int) : Int) := lE (by assumption)
         obtain ⟨go46, co46, eo46, gb46, gl46, cl46, HG46⟩ := Kd.N_form HO_269000.out (by omega)
         (first | cases eo46 | (injection eo46 with ea_ en_ ec_; (first | subst ea_ | (injection ea_ with ea_; subst ea_)); subst ec_; clear en_))
         have GB46 := aA.mk gb46
         have GG46 := aA.mk HG46
         clear gb46 gl46 HG46
         (first | simp only [add_plain] at hx277_0 | skip)
         obtain ⟨ce46, hcl46, hM46, hcc46, hfr46⟩ := Kd.N_elem HO_269000.out [] ((ji42) : Int) p46 q46
         obtain ⟨ua46_0, uc46_0, rfl, ul46_0, ge46_0⟩ := Kd.FK_slice_open hM46
         have hx46_0 := hcc46 0 _ rfl
         have hf46_0 := hfr46 0
         (try simp only [show ((Kd.slice 27 k27)).sz = 1 from rfl, Nat.mul_one, Nat.add_zero] at hx46_0)
         (try simp only [show ((Kd.slice 27 k27)).sz = 1 from rfl, Nat.mul_one, Nat.add_zero] at hf46_0)
         clear hcl46 hcc46 hfr46 hM46
         replace p46 := eq_true p46
         replace q46 := eq_true q46
         have HX49 := aA.mk (show Kd.N (Kd.slice 27 k27) 40 _ w.heap.size (fun k_ => (w.heap.size ≤ k_) ∧ some k_ ≠ (v279 : Value).ownBlock ∧ k_ ≠ gb262 ∧ k_ ≠ gb263 ∧ k_ ≠ gb264 ∧ k_ ≠ gb268) (.slice (some ⟨go46, 0, none⟩) t265.length co13) t265 from (Kd.N_mono (HO_269000.out) (fun k_ hk => ⟨hk.1.1, ⟨hk.2, ⟨hk.1.2.1, ⟨hk.1.2.2.1, ⟨hk.1.2.2.2.1, hk.1.2.2.2.2⟩⟩⟩⟩⟩)))
         replace HX49 := aA.mk (show Kd.N (Kd.slice 27 k27) 40 _ w.heap.size (fun k_ => (w.heap.size ≤ k_) ∧ k_ ≠ gb262 ∧ k_ ≠ gb263 ∧ k_ ≠ gb264 ∧ k_ ≠ gb268) (.slice (some ⟨go46, 0, none⟩) t265.length co13) t265 from Kd.N_mono HX49.out (fun k_ hk => ⟨hk.1, ⟨hk.2.2.1, ⟨hk.2.2.2.1, ⟨hk.2.2.2.2.1, hk.2.2.2.2.2⟩⟩⟩⟩))
         obtain ⟨ce49, hcl49, hM49, hcc49, hfr49⟩ := Kd.N_elem HX49.out [] ((ji42) : Int) (lE (by assumption)) (by have h_ : ((ji42) : Int) < ((t265.length : Int) : Int) := lE (by assumption); first | exact h_ | (have e_ := (Kd.N_reads' HO_269000.out).1; omega) | simpa using h_)
         obtain ⟨ua49_0, uc49_0, rfl, ul49_0, ge49_0⟩ := Kd.FK_slice_open hM49
         have hXr_ := (Kd.R_types (Kd.R_types (Kd.R_types (Kd.R_apart' (HO280.out) (Kd.N_typed HO_269000.out) (by decide)) BK262.out (by decide)) BK264.out (by decide)) BK268.out (by decide))
         have hXm_ := Kd.bK (ok' := (fun k_ => ((fun k_ => (w.heap.size ≤ k_) ∧ k_ ≠ gb262 ∧ k_ ≠ gb263 ∧ k_ ≠ gb264 ∧ k_ ≠ gb268)) k_ ∧ k_ ≠ go46)) hXr_ (fun k_ hk => ⟨⟨hk.1.1.1.1.1.1, ⟨hk.1.1.2, ⟨hk.1.1.1.1.2, ⟨hk.1.2, hk.2⟩⟩⟩⟩, fun e_ => (hk.1.1.1.2) (by rw [e_]; rfl)⟩)
         obtain ⟨Az_, cz_, ez_⟩ := Kd.R_slice hXm_
         have hXq_ := hXm_
         rw [ez_] at hXq_
         have HP49 := (Kd.N_seg HX49.out ((ji42) : Int) (lE (by assumption)) (by have h_ : ((ji42) : Int) < ((t265.length : Int) : Int) := lE (by assumption); first | exact h_ | (have e_ := (Kd.N_reads' HO_269000.out).1; omega) | simpa using h_) (seg := [v279]) (j := 0) hcl49 hcc49 (show 1 ≤ 1 from by decide) (x' := t278) (by rw [ez_]; exact Kd.FK_slice_mk (Kd.R_reads' hXq_).2.1 (Kd.R_F hXq_)) (fun _ hk => hk)).1
         clear hXq_ ez_ hXm_ hXr_
         clear cz_ Az_
         (try simp only [show ((Kd.slice 27 k27)).sz = 1 from rfl, Nat.mul_one, Nat.add_zero] at HP49)
         rw [← Ny281.out] at HP49
         have HQ49 := aA.mk HP49
         clear hcl49 hcc49 hfr49 hM49 HP49
         refine hK.out _ _ ⟨(aD BK268.out 0).trans rfl, (aD BK263.out 0).trans rfl, (aD BK263.out 1).trans rfl, (aD BK263.out 2).trans rfl, (aD BK263.out 3).trans rfl, (aD BK263.out 4).trans rfl, HS6_⟩ (fun hHeld => ?_)
         clear hK K
         refine bJ (a' := ?_) ?_ ?_
         rotate_left
         ·show Act.put _ (some 54) _ = _
          simp only [Act.put, lA, lB, lC, aU, aV]
          rfl
         refine aW (i := 10) (N := some 55) (v := ?_) (a' := ?_) #[true, true, true, true, true, true, true, true, true, true, true, false] rfl rfl (aZ HT_.out (by kernel_rfl)) (fun _ _ _ h => h) (Or.inl ⟨by rfl, ?_⟩) ?_ ?_
         rotate_left
         ·intro w'
          go_simp
          with_reducible rfl
         rotate_left
         ·simp only [Act.put, lA, lB, lC, aU, aV]
          rfl
         refine last_ (i := 11) (N := none) #[true, true, true, true, true, true, true, true, true, true, true, true] rfl rfl (one_of HT_.out (by kernel_rfl)) (by decide) (fun K hK => ?_)
         (obtain ⟨Az_, cz_, ez_, _⟩ := Kd.R_reads HO280.out; subst ez_)
         refine skip_ (w1 := ?_) (by rfl) rfl ?_ ?_
         rotate_left
         ·go_simp
          rfl
         refine hK.out _ _ ?_
         clear hK K
         refine done_ (done_of HT_.out (by kernel_rfl)) ?_
         try go_wp2
         subst hji42
         go_meet
         case rel => exact ⟨_, (y281), (.slice (some ⟨go46, 0, none⟩) t265.length co13), H', ⟨by have := HJ3.out; have := HJ25.out; first | omega | exact Nat.le_refl _⟩, ⟨by (with_reducible repeat (first | apply Kd.N_alloc | apply Kd.N_drewN | apply Kd.N_drew)); exact HQ49.out⟩, ⟨by (with_reducible repeat (first | refine aM ?_ _ | refine aJ ?_ | refine aK ?_ _)); refine bB ?_ (by have h_ := Kd.N_away HO_269000.out (fun _ hk => hk.1.2.1); intro e_; exact h_ (by rw [e_]; rfl)) _; (with_reducible repeat (first | refine aM ?_ _ | refine aJ ?_ | refine aK ?_ _)); exact BK262.out⟩, ⟨by (with_reducible repeat (first | refine aM ?_ _ | refine aJ ?_ | refine aK ?_ _)); refine bB ?_ (by have h_ := Kd.N_away HO_269000.out (fun _ hk => hk.1.2.2.1); intro e_; exact h_ (by rw [e_]; rfl)) _; (with_reducible repeat (first | refine aM ?_ _ | refine aJ ?_ | refine aK ?_ _)); exact BK263.out⟩, ⟨by (with_reducible repeat (first | refine aM ?_ _ | refine aJ ?_ | refine aK ?_ _)); refine bB ?_ (by have h_ := Kd.N_away HO_269000.out (fun _ hk => hk.1.2.2.2.1); intro e_; exact h_ (by rw [e_]; rfl)) _; (with_reducible repeat (first | refine aM ?_ _ | refine aJ ?_ | refine aK ?_ _)); exact BK264.out⟩, ⟨by (with_reducible repeat (first | refine aM ?_ _ | refine aJ ?_ | refine aK ?_ _)); refine bB ?_ (by have h_ := Kd.N_away HO_269000.out (fun _ hk => hk.1.2.2.2.2); intro e_; exact h_ (by rw [e_]; rfl)) _; (with_reducible repeat (first | refine aM ?_ _ | refine aJ ?_ | refine aK ?_ _)); exact BK268.out⟩, ⟨by repeat (first | (with_reducible first | exact HB.out | apply aN | apply aE | apply aH | refine aC ?_ GB46.out | refine aC ?_ GE262.out | refine aC ?_ GE263.out | refine aC ?_ GE264.out | refine aC ?_ GE268.out) | exact HB.out)⟩⟩
        ·rw [if_neg c44] at H
         exact absurd H (by simp)
       ·rw [if_neg c43] at H
        exact absurd H (by simp)
      ·replace c41 := Bool.eq_false_iff.mpr c41
       subst c41
       have H1 : (if t265.length < 5864062014805 then (spec_NodePut.j2 kj25 l0_0 a1_0 a1_1 a1_2 a1_3 a1_4 (t265 ++ [(([(⟨a1_0, a1_1, a1_2, a1_3, a1_4⟩ : S27)] : List (S27)))])) else (none)) = some (r1, r2) := by rw [if_neg (show ¬ (false = true) by decide)] at H; exact H
       clear H
       have H := H1
       clear H1
       obtain ⟨y282, hy282⟩ : ∃ y_ : List (S27), y_ = (([(⟨a1_0, a1_1, a1_2, a1_3, a1_4⟩ : S27)] : List (S27))) := ⟨_, rfl⟩
       replace H : (if t265.length < 5864062014805 then (spec_NodePut.j2 kj25 l0_0 a1_0 a1_1 a1_2 a1_3 a1_4 (t265 ++ [y282])) else (none)) = some (r1, r2) := by first | (rw [hy282]; with_reducible exact H) | (have H2_ := (Option.bind_some _ _).symm.trans H; rw [hy282]; with_reducible exact H2_) | (have H2_ := (Option.bind_some _ _).symm.trans H; with_reducible exact H2_) | with_reducible exact H | (rw [hy282]; exact H) | exact H
       have Ny282 := aA.mk hy282
       clear hy282
       by_cases c50 : t265.length < 5864062014805
       ·rw [if_pos c50] at H
        have LMc50 := aA.mk c50
        clear c50
        obtain ⟨y285, hy285⟩ : ∃ y_ : List (List (S27)), y_ = (t265 ++ [y282]) := ⟨_, rfl⟩
        replace H : (spec_NodePut.j2 kj25 l0_0 a1_0 a1_1 a1_2 a1_3 a1_4 y285) = some (r1, r2) := by first | (rw [hy285]; with_reducible exact H) | (have H2_ := (Option.bind_some _ _).symm.trans H; rw [hy285]; with_reducible exact H2_) | (have H2_ := (Option.bind_some _ _).symm.trans H; with_reducible exact H2_) | with_reducible exact H | (rw [hy285]; exact H) | exact H
        have Ny285 := aA.mk hy285
        clear hy285
        have H' := aA.mk H
        clear H
        have hnb51 := NB268_262.out
        have hnc51 := NB262_268.out
        have hnb52 := NB268_263.out
        have hnc52 := NB263_268.out
        have hnb53 := NB268_264.out
        have hnc53 := NB264_268.out
        have hcz54_0 := cs1 BK268.out
        have hfz54_0 := fs1 BK268.out
        have hnb55 := NB263_262.out
        have hnc55 := NB262_263.out
        have hnb56 := NB263_264.out
        have hnc56 := NB264_263.out
        obtain ⟨hcz57_0, hcz57_1, hcz57_2, hcz57_3, hcz57_4⟩ := cs5 BK263.out
        obtain ⟨hfz57_0, hfz57_1, hfz57_2, hfz57_3, hfz57_4⟩ := fs5 BK263.out
        go_wp2_with (first | ((with_reducible refine bA (N := 59) rfl ?_); (try (refine gate_guard (by rfl) ?_; dsimp only)); refine Kd.R_lit k27 _ 27 ?hg (N := 59) ?hd (xs := ([(⟨a1_0, a1_1, a1_2, a1_3, a1_4⟩ : S27)] : List (S27))) (inner := [.int .i64 a1_0, .int .i64 a1_1, .int .i64 a1_2, .int .i64 a1_3, .int .i64 a1_4]) (ok := fun _ => True) (okp := fun _ => True) ?hr ?hp (fun _ hk => hk) trivial (Below.refl _ _) (Nat.le_refl _) (by simp) ?_; (case hd => rfl); (case hg => rfl); (case hr => first | (go_simp; done) | (go_simp; rfl)); (case hp => exact (Reps.c5 (show Kd.M k27 _ _ _ (⟨a1_0, a1_1, a1_2, a1_3, a1_4⟩ : S27) [.int .i64 a1_0, .int .i64 a1_1, .int .i64 a1_2, .int .i64 a1_3, .int .i64 a1_4] from (k27_mkM _ _ _ (⟨a1_0, a1_1, a1_2, a1_3, a1_4⟩ : S27) )) (Reps.none _ _))); intro v283 w58 ho59 hb hg_ hnew_; clear hg_ hnew_; (first | rw [← Ny282.out] at ho59 | (simp only [Int.reduceToNat] at ho59; rw [← Ny282.out] at ho59)); replace HO_269000 := aA.mk (Kd.N_elder' HO_269000.out (Kd.R_base ho59) hb); have HO284 := aA.mk (Kd.R_lower (Kd.R_newB (Kd.R_newM (M := fun k_ => (w.heap.size ≤ k_)) ho59 (aQ HB.out) (fun k_ h_ => h_)) (g := gb263) (o := .cells #[.int .i64 a1_0, .int .i64 a1_1, .int .i64 a1_2, .int .i64 a1_3, .int .i64 a1_4] 27 (0, 0)) BK263.out) (aQ HB.out)); replace BK262 := aA.mk (aG (g := gb262) (o := .cells #[.slice A0_0 l0_0.length c0_0] 32 (0, 0)) BK262.out hb); replace BK263 := aA.mk (aG (g := gb263) (o := .cells #[.int .i64 a1_0, .int .i64 a1_1, .int .i64 a1_2, .int .i64 a1_3, .int .i64 a1_4] 27 (0, 0)) BK263.out hb); replace BK264 := aA.mk (aG (g := gb264) (o := .cells #[.slice none 0 0] 32 (0, 0)) BK264.out hb); replace BK268 := aA.mk (aG (g := gb268) (o := .cells #[.slice Ao13 t265.length co13] 32 (0, 0)) BK268.out hb); replace HB := aA.mk (aT HB.out hb); clear hb ho59; obtain ⟨Ao61, co61, eo61⟩ := Kd.R_slice HO284.out; subst eo61) | ((with_reducible refine gate_builtin (b := .append) (xs := #[.tmp 57, .tmp 60]) rfl ?_); (try (refine gate_guard (by rfl) ?_; dsimp only)); at_builtin; refine Kd.N_append (Kd.slice 27 k27) (w0 := w) w.heap.size rfl (.tmp 57) (.tmp 60) 30 40 (.slice none 0 0) 24 rfl Try.underlying30 info40 rfl (by decide) (by omega) (.slice Ao13 t265.length co13) t265 y282 [.slice Ao61 y282.length co61] (fun k_ => (w.heap.size ≤ k_) ∧ k_ ≠ gb262 ∧ k_ ≠ gb263 ∧ k_ ≠ gb264 ∧ k_ ≠ gb268) (fun k_ => ((fun k_ => (w.heap.size ≤ k_) ∧ k_ ≠ gb262 ∧ k_ ≠ gb263 ∧ k_ ≠ gb264 ∧ k_ ≠ gb268)) k_ ∧ some k_ ≠ (.slice Ao13 t265.length co13 : Value).ownBlock) rfl rfl ?aP (fun _ hk => hk) ?aF ?aO ?aB ?aS ?aL ?_; (case aP => exact (Kd.FK_slice_mk (Kd.R_reads' (Kd.bK (ok' := (fun k_ => ((fun k_ => (w.heap.size ≤ k_) ∧ k_ ≠ gb262 ∧ k_ ≠ gb263 ∧ k_ ≠ gb264 ∧ k_ ≠ gb268)) k_ ∧ some k_ ≠ (.slice Ao13 t265.length co13 : Value).ownBlock)) (Kd.R_types (Kd.R_types (Kd.R_types (Kd.R_apart' (HO284.out) (Kd.N_typed HO_269000.out) (by decide)) BK262.out (by decide)) BK264.out (by decide)) BK268.out (by decide)) (fun k_ hk => ⟨⟨hk.1.1.1.1.1.1, ⟨hk.1.1.2, ⟨hk.1.1.1.1.2, ⟨hk.1.2, hk.2⟩⟩⟩⟩, hk.1.1.1.2⟩))).2.1 (Kd.R_F (Kd.bK (ok' := (fun k_ => ((fun k_ => (w.heap.size ≤ k_) ∧ k_ ≠ gb262 ∧ k_ ≠ gb263 ∧ k_ ≠ gb264 ∧ k_ ≠ gb268)) k_ ∧ some k_ ≠ (.slice Ao13 t265.length co13 : Value).ownBlock)) (Kd.R_types (Kd.R_types (Kd.R_types (Kd.R_apart' (HO284.out) (Kd.N_typed HO_269000.out) (by decide)) BK262.out (by decide)) BK264.out (by decide)) BK268.out (by decide)) (fun k_ hk => ⟨⟨hk.1.1.1.1.1.1, ⟨hk.1.1.2, ⟨hk.1.1.1.1.2, ⟨hk.1.2, hk.2⟩⟩⟩⟩, hk.1.1.1.2⟩))))); (case aB => exact HB.out); (case aF => exact (fun k_ hk => ⟨(Nat.le_trans (aQ HB.out) hk), Kd.freshB (g := gb262) (o := .cells #[.slice A0_0 l0_0.length c0_0] 32 (0, 0)) BK262.out k_ hk, Kd.freshB (g := gb263) (o := .cells #[.int .i64 a1_0, .int .i64 a1_1, .int .i64 a1_2, .int .i64 a1_3, .int .i64 a1_4] 27 (0, 0)) BK263.out k_ hk, Kd.freshB (g := gb264) (o := .cells #[.slice none 0 0] 32 (0, 0)) BK264.out k_ hk, Kd.freshB (g := gb268) (o := .cells #[.slice Ao13 t265.length co13] 32 (0, 0)) BK268.out k_ hk⟩)); (case aO => exact (by (with_reducible repeat (first | apply Kd.N_alloc | apply Kd.N_drewN | apply Kd.N_drew)); exact Kd.N_mono HO_269000.out (fun _ hk => ⟨hk.1.1, ⟨hk.1.2.1, ⟨hk.1.2.2.1, ⟨hk.1.2.2.2.1, hk.1.2.2.2.2⟩⟩⟩⟩))); (case aS => exact (aQ HB.out)); (case aL => have := LMc50.out; omega); intro v286 w60 ho hb hg hat; rw [← Ny285.out] at ho; replace BK262 := aA.mk (blk_grown (g := gb262) (o := .cells #[.slice A0_0 l0_0.length c0_0] 32 (0, 0)) BK262.out hg (Kd.N_ne HO_269000.out BK262.out (by decide))); replace BK263 := aA.mk (blk_grown (g := gb263) (o := .cells #[.int .i64 a1_0, .int .i64 a1_1, .int .i64 a1_2, .int .i64 a1_3, .int .i64 a1_4] 27 (0, 0)) BK263.out hg (Kd.N_ne HO_269000.out BK263.out (by decide))); replace BK264 := aA.mk (blk_grown (g := gb264) (o := .cells #[.slice none 0 0] 32 (0, 0)) BK264.out hg (Kd.N_ne HO_269000.out BK264.out (by decide))); replace BK268 := aA.mk (blk_grown (g := gb268) (o := .cells #[.slice Ao13 t265.length co13] 32 (0, 0)) BK268.out hg (Kd.N_ne HO_269000.out BK268.out (by decide))); replace HB := aA.mk (hb); have HO287 := aA.mk (ho); clear HO_269000; clear HO284; clear ho hb hg hat; obtain ⟨Ao62, co62, eo62⟩ := Kd.N_slice HO287.out; subst eo62; have hcz63_0 := cs1 BK268.out; have hfz63_0 := fs1 BK268.out))
        go_meet
        case rel => exact ⟨_, (y285), (.slice Ao62 y285.length co62), H', ⟨by have := HJ3.out; have := HJ25.out; first | omega | exact Nat.le_refl _⟩, ⟨by (with_reducible repeat (first | apply Kd.N_alloc | apply Kd.N_drewN | apply Kd.N_drew)); exact Kd.N_mono (Kd.N_far (p := ⟨gb268, 0, none⟩) (Kd.N_mono HO287.out (fun k_ hk => (⟨hk, hk.2.2.2.2⟩ : _ ∧ k_ ≠ gb268))) (fun _ hk => hk.2) (.slice Ao62 y285.length co62)) (fun _ hk => ⟨hk.1.1, ⟨hk.1.2.1, ⟨hk.1.2.2.1, ⟨hk.1.2.2.2.1, hk.1.2.2.2.2⟩⟩⟩⟩)⟩, ⟨by (with_reducible repeat (first | refine aM ?_ _ | refine aJ ?_ | refine aK ?_ _)); refine bB ?_ NB262_268.out _; (with_reducible repeat (first | refine aM ?_ _ | refine aJ ?_ | refine aK ?_ _)); exact BK262.out⟩, ⟨by (with_reducible repeat (first | refine aM ?_ _ | refine aJ ?_ | refine aK ?_ _)); refine bB ?_ NB263_268.out _; (with_reducible repeat (first | refine aM ?_ _ | refine aJ ?_ | refine aK ?_ _)); exact BK263.out⟩, ⟨by (with_reducible repeat (first | refine aM ?_ _ | refine aJ ?_ | refine aK ?_ _)); refine bB ?_ NB264_268.out _; (with_reducible repeat (first | refine aM ?_ _ | refine aJ ?_ | refine aK ?_ _)); exact BK264.out⟩, ⟨by (with_reducible repeat (first | refine aM ?_ _ | refine aJ ?_ | refine aK ?_ _)); refine bE (cs := #[.slice Ao13 t265.length co13]) ?_ 0 _ rfl; (with_reducible repeat (first | refine aM ?_ _ | refine aJ ?_ | refine aK ?_ _)); exact BK268.out⟩, ⟨by repeat (first | (with_reducible first | exact HB.out | apply aN | apply aE | apply aH | refine aC ?_ GE262.out | refine aC ?_ GE263.out | refine aC ?_ GE264.out | refine aC ?_ GE268.out) | exact HB.out)⟩⟩
       ·rw [if_neg c50] at H
        exact absurd H (by simp)
     case rest =>
      clear HC40
      try clear c1
      try clear c2
      try clear p2
      try clear q2
      try clear hx2
      try clear c3
      try clear c4
      try clear p4
      try clear q4
      try clear hx4
      try clear hf4
      try clear c5
      try clear c6
      try clear p6
      try clear c8
      try clear c9
      try clear c14
      try clear c15
      try clear c16
      try clear c18
      try clear c18b0
      try clear c20
      try clear c20b0
      try clear c21
      try clear c21b0
      try clear c26
      try clear p26
      try clear q26
      try clear hx26
      try clear c27
      try clear c27b0
      try clear p27
      try clear q27
      try clear hx27
      try clear c29
      try clear c29b0
      try clear c30
      try clear c30b0
      try clear c31
      try clear c31b0
      try clear c31b1
      try clear c32
      try clear c33
      try clear c34
      try clear c35
      try clear c36
      try clear c37
      try clear c38
      try clear c41
      try clear c43
      try clear c43b0
      try clear c44
      try clear c44b0
      try clear c46
      try clear p46
      try clear q46
      try clear hx46
      try clear hf46
      try clear c49
      try clear c50
      try clear c51
      try clear c52
      try clear c53
      try clear c55
      try clear c56
      try clear hcz10_0
      try clear hcz17_0
      try clear hcz35_0
      try clear hcz39_0
      try clear hcz54_0
      try clear hcz57_0
      try clear hcz57_1
      try clear hcz57_2
      try clear hcz57_3
      try clear hcz57_4
      try clear hcz63_0
      try clear hfz10_0
      try clear hfz17_0
      try clear hfz35_0
      try clear hfz39_0
      try clear hfz54_0
      try clear hfz57_0
      try clear hfz57_1
      try clear hfz57_2
      try clear hfz57_3
      try clear hfz57_4
      try clear hfz63_0
      try clear hx269_0
      try clear hx276_0
      try clear hx277_0
      try clear hx46_0
      try clear p2
      try clear p26
      try clear p269
      try clear p27
      try clear p276
      try clear p277
      try clear p46
      try clear p6
      try clear q2
      try clear q26
      try clear q269
      try clear q27
      try clear q276
      try clear q277
      try clear q46
      obtain ⟨kq, x269000_39, u269000, HA, HJ39, HO_269000, BK262, BK263, BK264, BK268, HB⟩ := hcut
      cases kq with
      | zero => exact absurd HA.out (by simp [spec_NodePut.j2])
      | succ kj39 =>
       have H := HA.out
       clear HA
       simp only [spec_NodePut.j2] at H
       replace H := lF H
       obtain ⟨t288, A640, H⟩ := H
       replace H : (if t288 = true then (some (x269000_39, true)) else ((spec_NodeKeys.f kj39 l0_0).bind fun t289 => ((spec_SetPut.f kj39 t289 a1_0 a1_1 a1_2 a1_3 a1_4).bind fun t292 => ((spec_Drop.f kj39 t292).bind fun t295 => (if (t295.length : Int) > 8 then (spec_NodePut.j3 kj39 t295 true l0_0) else ((spec_NodeNew.f t295).bind fun t298 => ((spec_NodeOk.f kj39 t298).bind fun t301 => (spec_NodePut.j3 kj39 t295 (!t301) l0_0)))))))) = some (r1, r2) := H
       have A64 := aA.mk A640
       clear A640
       by_cases c65 : t288 = true
       ·subst c65
        have H1 : (some (x269000_39, true)) = some (r1, r2) := by rw [if_pos rfl] at H; exact H
        clear H
        have H := H1
        clear H1
        simp only [Option.some.injEq, Prod.mk.injEq] at H
        obtain ⟨rfl, rfl⟩ := H
        have hnb66 := NB268_262.out
        have hnc66 := NB262_268.out
        have hnb67 := NB268_263.out
        have hnc67 := NB263_268.out
        have hnb68 := NB268_264.out
        have hnc68 := NB264_268.out
        have hcz69_0 := cs1 BK268.out
        have hfz69_0 := fs1 BK268.out
        obtain ⟨Ao70, co70, eo70⟩ := Kd.N_slice HO_269000.out
        subst eo70
        go_wp2_with (first | ((with_reducible refine bD (f := 28) rfl ?_); refine bL (some 64) rfl rfl Try.func28 (by kernel_rfl) rfl #[.agg #[.slice Ao70 x269000_39.length co70]] rfl (by (try simp only [List.map_toArray, List.map_cons, List.map_nil]); first | done | rfl) ?_; (with_reducible refine (spec_NodeOk.calls kj39 _ _ x269000_39 true _ ?side1 ?side2 A64.out).mono ?_); (case side1 => repeat (first | exact (Kd.N_reads' HO_269000.out).2.2 | (with_reducible refine Kd.C_alloc ?_ _) | (with_reducible refine Kd.C_drewN ?_ _) | (with_reducible refine Kd.C_drew ?_))); (case side2 => exact (Kd.N_reads' HO_269000.out).2.1); rintro e w71 ⟨rfl, hb⟩; refine ⟨_, rfl, ?_⟩; replace HO_269000 := aA.mk (Kd.N_below HO_269000.out hb); replace BK262 := aA.mk (aG (g := gb262) (o := .cells #[.slice A0_0 l0_0.length c0_0] 32 (0, 0)) BK262.out hb); replace BK263 := aA.mk (aG (g := gb263) (o := .cells #[.int .i64 a1_0, .int .i64 a1_1, .int .i64 a1_2, .int .i64 a1_3, .int .i64 a1_4] 27 (0, 0)) BK263.out hb); replace BK264 := aA.mk (aG (g := gb264) (o := .cells #[.slice none 0 0] 32 (0, 0)) BK264.out hb); replace BK268 := aA.mk (aG (g := gb268) (o := .cells #[.slice Ao70 x269000_39.length co70] 32 (0, 0)) BK268.out hb); replace HB := aA.mk (aT HB.out hb); (try clear hb); have hcz72_0 := cs1 BK268.out; have hfz72_0 := fs1 BK268.out; have hnb73 := NB264_262.out; have hnc73 := NB262_264.out; have hnb74 := NB264_263.out; have hnc74 := NB263_264.out; have hcz75_0 := cs1 BK264.out; have hfz75_0 := fs1 BK264.out))
        refine bodyPost_ret (results_ct rfl _ _ gb264 32 #[.slice Ao70 x269000_39.length co70] (0, 0) _ rfl (by (with_reducible repeat (first | refine aM ?_ _ | refine aJ ?_ | refine aK ?_ _)); refine bE (cs := #[.slice none 0 0]) ?_ 0 _ rfl; (with_reducible repeat (first | refine aM ?_ _ | refine aJ ?_ | refine aK ?_ _)); exact BK264.out) Try.underlying32 rfl (by kernel_rfl)) rfl ?_
        exact ⟨_, by first | rfl | (simp [errW_none, errW_some] <;> rfl) | (simp [*, errW_none, errW_some] <;> rfl), by (with_reducible repeat (first | apply Kd.N_alloc | apply Kd.N_drewN | apply Kd.N_drew)); exact Kd.N_mono (Kd.N_far (p := ⟨gb264, 0, none⟩) (Kd.N_mono HO_269000.out (fun k_ hk => (⟨hk, hk.2.2.2.1⟩ : _ ∧ k_ ≠ gb264))) (fun _ hk => hk.2) (.slice Ao70 x269000_39.length co70)) (fun _ hk => hk.1.1), by repeat (first | (with_reducible first | exact HB.out | apply aN | apply aE | apply aH | refine aC ?_ GE262.out | refine aC ?_ GE263.out | refine aC ?_ GE264.out | refine aC ?_ GE268.out) | exact HB.out)⟩
       ·replace c65 := Bool.eq_false_iff.mpr c65
        subst c65
        have H1 : ((spec_NodeKeys.f kj39 l0_0).bind fun t289 => ((spec_SetPut.f kj39 t289 a1_0 a1_1 a1_2 a1_3 a1_4).bind fun t292 => ((spec_Drop.f kj39 t292).bind fun t295 => (if (t295.length : Int) > 8 then (spec_NodePut.j3 kj39 t295 true l0_0) else ((spec_NodeNew.f t295).bind fun t298 => ((spec_NodeOk.f kj39 t298).bind fun t301 => (spec_NodePut.j3 kj39 t295 (!t301) l0_0))))))) = some (r1, r2) := by rw [if_neg (show ¬ (false = true) by decide)] at H; exact H
        clear H
        have H := H1
        clear H1
        replace H := lF H
        obtain ⟨t289, A760, H⟩ := H
        replace H : ((spec_SetPut.f kj39 t289 a1_0 a1_1 a1_2 a1_3 a1_4).bind fun t292 => ((spec_Drop.f kj39 t292).bind fun t295 => (if (t295.length : Int) > 8 then (spec_NodePut.j3 kj39 t295 true l0_0) else ((spec_NodeNew.f t295).bind fun t298 => ((spec_NodeOk.f kj39 t298).bind fun t301 => (spec_NodePut.j3 kj39 t295 (!t301) l0_0)))))) = some (r1, r2) := H
        have A76 := aA.mk A760
        clear A760
        replace H := lF H
        obtain ⟨t292, A770, H⟩ := H
        replace H : ((spec_Drop.f kj39 t292).bind fun t295 => (if (t295.length : Int) > 8 then (spec_NodePut.j3 kj39 t295 true l0_0) else ((spec_NodeNew.f t295).bind fun t298 => ((spec_NodeOk.f kj39 t298).bind fun t301 => (spec_NodePut.j3 kj39 t295 (!t301) l0_0))))) = some (r1, r2) := H
        have A77 := aA.mk A770
        clear A770
        replace H := lF H
        obtain ⟨t295, A780, H⟩ := H
        replace H : (if (t295.length : Int) > 8 then (spec_NodePut.j3 kj39 t295 true l0_0) else ((spec_NodeNew.f t295).bind fun t298 => ((spec_NodeOk.f kj39 t298).bind fun t301 => (spec_NodePut.j3 kj39 t295 (!t301) l0_0)))) = some (r1, r2) := H
        have A78 := aA.mk A780
        clear A780
        have HC79 := aA.mk H
        clear H
        have hnb80 := NB268_262.out
        have hnc80 := NB262_268.out
        have hnb81 := NB268_263.out
        have hnc81 := NB263_268.out
        have hnb82 := NB268_264.out
        have hnc82 := NB264_268.out
        have hcz83_0 := cs1 BK268.out
        have hfz83_0 := fs1 BK268.out
        obtain ⟨Ao84, co84, eo84⟩ := Kd.N_slice HO_269000.out
        subst eo84
        try go_wp2_with (first | ((with_reducible refine bD (f := 28) rfl ?_); refine bL (some 64) rfl rfl Try.func28 (by kernel_rfl) rfl #[.agg #[.slice Ao84 x269000_39.length co84]] rfl (by (try simp only [List.map_toArray, List.map_cons, List.map_nil]); first | done | rfl) ?_; (with_reducible refine (spec_NodeOk.calls kj39 _ _ x269000_39 false _ ?side1 ?side2 A64.out).mono ?_); (case side1 => repeat (first | exact (Kd.N_reads' HO_269000.out).2.2 | (with_reducible refine Kd.C_alloc ?_ _) | (with_reducible refine Kd.C_drewN ?_ _) | (with_reducible refine Kd.C_drew ?_))); (case side2 => exact (Kd.N_reads' HO_269000.out).2.1); rintro e w85 ⟨rfl, hb⟩; refine ⟨_, rfl, ?_⟩; replace HO_269000 := aA.mk (Kd.N_below HO_269000.out hb); replace BK262 := aA.mk (aG (g := gb262) (o := .cells #[.slice A0_0 l0_0.length c0_0] 32 (0, 0)) BK262.out hb); replace BK263 := aA.mk (aG (g := gb263) (o := .cells #[.int .i64 a1_0, .int .i64 a1_1, .int .i64 a1_2, .int .i64 a1_3, .int .i64 a1_4] 27 (0, 0)) BK263.out hb); replace BK264 := aA.mk (aG (g := gb264) (o := .cells #[.slice none 0 0] 32 (0, 0)) BK264.out hb); replace BK268 := aA.mk (aG (g := gb268) (o := .cells #[.slice Ao84 x269000_39.length co84] 32 (0, 0)) BK268.out hb); replace HB := aA.mk (aT HB.out hb); (try clear hb)))
        replace HO_269000 := aA.mk (Kd.N_drew HO_269000.out)
        replace BK262 := aA.mk (aJ BK262.out)
        replace BK263 := aA.mk (aJ BK263.out)
        replace BK264 := aA.mk (aJ BK264.out)
        replace BK268 := aA.mk (aJ BK268.out)
        replace HB := aA.mk (aH HB.out)
        refine start_ (n := 6) (S := fun w' => w'.cell? ⟨gb262, 0, none⟩ = some (.slice A0_0 l0_0.length c0_0) ∧ w'.cell? ⟨gb263, 0, none⟩ = some (.int .i64 a1_0) ∧ w'.cell? ⟨gb263, 1, none⟩ = some (.int .i64 a1_1) ∧ w'.cell? ⟨gb263, 2, none⟩ = some (.int .i64 a1_2) ∧ w'.cell? ⟨gb263, 3, none⟩ = some (.int .i64 a1_3) ∧ w'.cell? ⟨gb263, 4, none⟩ = some (.int .i64 a1_4)) (ds := []) #[false, false, false, false, false, false] (by kernel_rfl) rfl rfl ⟨(aD BK262.out 0).trans rfl, (aD BK263.out 0).trans rfl, (aD BK263.out 1).trans rfl, (aD BK263.out 2).trans rfl, (aD BK263.out 3).trans rfl, (aD BK263.out 4).trans rfl⟩ (fun hHeld => ?_)
        generalize w85.drew = w86 at HO_269000 BK262 BK263 BK264 BK268 HB hHeld ⊢
        refine take_ (i := 0) (N := some 66) (v := ?_) (a' := ?_) #[true, false, false, false, false, false] rfl rfl (by kernel_rfl) (fun _ _ _ h => h) (Or.inl ⟨by rfl, ?_⟩) hHeld ?_ ?_
        rotate_left
        ·rintro w' ⟨s0, s1, s2, s3, s4, s5⟩
         go_simp
         with_reducible rfl
        rotate_left
        ·simp only [Act.put, lA, lB, lC, aU, aV]
         rfl
        refine take_ (i := 2) (N := some 68) (v := ?_) (a' := ?_) #[true, false, true, false, false, false] rfl rfl (by kernel_rfl) (fun _ _ _ h => h) (Or.inl ⟨by rfl, ?_⟩) hHeld ?_ ?_
        rotate_left
        ·rintro w' ⟨s0, s1, s2, s3, s4, s5⟩
         go_simp
         with_reducible rfl
        rotate_left
        ·simp only [Act.put, lA, lB, lC, aU, aV]
         rfl
        refine one_ (i := 1) (N := some 67) #[true, true, true, false, false, false] rfl rfl (by kernel_rfl) (by decide) (fun K hK => ?_)
        refine goes_ Try.func30 (by kernel_rfl) rfl #[.agg #[.slice A0_0 l0_0.length c0_0]] (by rfl) rfl rfl (by (try simp only [List.map_toArray, List.map_cons, List.map_nil]); first | done | rfl) ?_
        with_reducible refine (spec_NodeKeys.calls kj39 _ _ l0_0 t289 _ ?side1 ?side2 A76.out).mono ?_
        (case side1 => exact (Kd.bN HR0_0.out HB.out))
        (case side2 => exact HC0_0.out)
        rintro e w87 ⟨v290, rfl, ho0, hb⟩
        refine ⟨_, rfl, ?_⟩
        replace HO_269000 := aA.mk (Kd.N_elder' HO_269000.out (Kd.R_base ho0) hb)
        have HO291 := aA.mk (Kd.R_lower (Kd.R_newB (Kd.R_newM (M := fun k_ => (w.heap.size ≤ k_)) ho0 (aQ HB.out) (fun k_ h_ => h_)) (g := gb263) (o := .cells #[.int .i64 a1_0, .int .i64 a1_1, .int .i64 a1_2, .int .i64 a1_3, .int .i64 a1_4] 27 (0, 0)) BK263.out) (aQ HB.out))
        replace BK262 := aA.mk (aG (g := gb262) (o := .cells #[.slice A0_0 l0_0.length c0_0] 32 (0, 0)) BK262.out hb)
        replace BK263 := aA.mk (aG (g := gb263) (o := .cells #[.int .i64 a1_0, .int .i64 a1_1, .int .i64 a1_2, .int .i64 a1_3, .int .i64 a1_4] 27 (0, 0)) BK263.out hb)
        replace BK264 := aA.mk (aG (g := gb264) (o := .cells #[.slice none 0 0] 32 (0, 0)) BK264.out hb)
        replace BK268 := aA.mk (aG (g := gb268) (o := .cells #[.slice Ao84 x269000_39.length co84] 32 (0, 0)) BK268.out hb)
        replace HB := aA.mk (aT HB.out hb)
        (try clear hb)
        (try clear hb2)
        (try clear hk)
        (try clear hi)
        (try clear ho0)
        obtain ⟨Ao88, co88, eo88⟩ := Kd.R_slice HO291.out
        (first | subst eo88 | (injection eo88 with f1_ f2_ f3_; have f4_ := f1_.symm; have f5_ := f3_.symm; clear f1_ f2_ f3_; subst f4_; subst f5_))
        refine hK.out _ _ ⟨(aD BK262.out 0).trans rfl, (aD BK263.out 0).trans rfl, (aD BK263.out 1).trans rfl, (aD BK263.out 2).trans rfl, (aD BK263.out 3).trans rfl, (aD BK263.out 4).trans rfl⟩ (fun hHeld => ?_)
        clear hK K
        refine bJ (a' := ?_) ?_ ?_
        rotate_left
        ·show Act.put _ (some 67) _ = _
         simp only [Act.put, lA, lB, lC, aU, aV]
         rfl
        refine one_ (i := 3) (N := some 69) #[true, true, true, true, false, false] rfl rfl (by kernel_rfl) (by decide) (fun K hK => ?_)
        refine goes_ Try.func69 (by kernel_rfl) rfl #[.slice Ao88 t289.length co88, .agg #[.int .i64 a1_0, .int .i64 a1_1, .int .i64 a1_2, .int .i64 a1_3, .int .i64 a1_4]] (by rfl) rfl rfl (by (try simp only [List.map_toArray, List.map_cons, List.map_nil]); first | done | rfl) ?_
        with_reducible refine (spec_SetPut.calls kj39 _ _ t289 a1_0 a1_1 a1_2 a1_3 a1_4 t292 _ ?side1 ?side2 A77.out).mono ?_
        (case side1 => repeat (first | exact (Kd.R_reads' HO291.out).2.2 | (with_reducible refine Kd.C_alloc ?_ _) | (with_reducible refine Kd.C_drewN ?_ _) | (with_reducible refine Kd.C_drew ?_)))
        (case side2 => exact (Kd.R_reads' HO291.out).2.1)
        rintro e w89 ⟨v293, rfl, ho0, hb⟩
        refine ⟨_, rfl, ?_⟩
        replace HO_269000 := aA.mk (Kd.N_elder' HO_269000.out (Kd.R_base ho0) hb)
        have HO294 := aA.mk (Kd.R_lower (Kd.R_newB (Kd.R_new' (Kd.R_newM (M := fun k_ => (w.heap.size ≤ k_)) ho0 (aQ HB.out) (fun k_ h_ => h_)) (Kd.R_lt HO291.out)) (g := gb263) (o := .cells #[.int .i64 a1_0, .int .i64 a1_1, .int .i64 a1_2, .int .i64 a1_3, .int .i64 a1_4] 27 (0, 0)) BK263.out) (aQ HB.out))
        replace HO291 := aA.mk (Kd.R_elder' HO291.out (Kd.R_base ho0) hb)
        replace BK262 := aA.mk (aG (g := gb262) (o := .cells #[.slice A0_0 l0_0.length c0_0] 32 (0, 0)) BK262.out hb)
        replace BK263 := aA.mk (aG (g := gb263) (o := .cells #[.int .i64 a1_0, .int .i64 a1_1, .int .i64 a1_2, .int .i64 a1_3, .int .i64 a1_4] 27 (0, 0)) BK263.out hb)
        replace BK264 := aA.mk (aG (g := gb264) (o := .cells #[.slice none 0 0] 32 (0, 0)) BK264.out hb)
        replace BK268 := aA.mk (aG (g := gb268) (o := .cells #[.slice Ao84 x269000_39.length co84] 32 (0, 0)) BK268.out hb)
        replace HB := aA.mk (aT HB.out hb)
        (try clear hb)
        (try clear hb2)
        (try clear hk)
        (try clear hi)
        (try clear ho0)
        obtain ⟨Ao90, co90, eo90⟩ := Kd.R_slice HO294.out
        (first | subst eo90 | (injection eo90 with f1_ f2_ f3_; have f4_ := f1_.symm; have f5_ := f3_.symm; clear f1_ f2_ f3_; subst f4_; subst f5_))
        refine hK.out _ _ ⟨(aD BK262.out 0).trans rfl, (aD BK263.out 0).trans rfl, (aD BK263.out 1).trans rfl, (aD BK263.out 2).trans rfl, (aD BK263.out 3).trans rfl, (aD BK263.out 4).trans rfl⟩ (fun hHeld => ?_)
        clear hK K
        refine bJ (a' := ?_) ?_ ?_
        rotate_left
        ·show Act.put _ (some 69) _ = _
         simp only [Act.put, lA, lB, lC, aU, aV]
         rfl
        refine one_ (i := 4) (N := some 70) #[true, true, true, true, true, false] rfl rfl (by kernel_rfl) (by decide) (fun K hK => ?_)
        refine goes_ Try.func65 (by kernel_rfl) rfl #[.slice Ao90 t292.length co90] (by rfl) rfl rfl (by (try simp only [List.map_toArray, List.map_cons, List.map_nil]); first | done | rfl) ?_
        with_reducible refine (spec_Drop.calls kj39 _ _ t292 t295 _ ?side1 ?side2 A78.out).mono ?_
        (case side1 => repeat (first | exact (Kd.R_reads' HO294.out).2.2 | (with_reducible refine Kd.C_alloc ?_ _) | (with_reducible refine Kd.C_drewN ?_ _) | (with_reducible refine Kd.C_drew ?_)))
        (case side2 => exact (Kd.R_reads' HO294.out).2.1)
        rintro e w91 ⟨v296, rfl, ho0, hb⟩
        refine ⟨_, rfl, ?_⟩
        replace HO_269000 := aA.mk (Kd.N_elder' HO_269000.out (Kd.R_base ho0) hb)
        have HO297 := aA.mk (Kd.R_lower (Kd.R_newB (Kd.R_new' (Kd.R_new' (Kd.R_newM (M := fun k_ => (w.heap.size ≤ k_)) ho0 (aQ HB.out) (fun k_ h_ => h_)) (Kd.R_lt HO291.out)) (Kd.R_lt HO294.out)) (g := gb263) (o := .cells #[.int .i64 a1_0, .int .i64 a1_1, .int .i64 a1_2, .int .i64 a1_3, .int .i64 a1_4] 27 (0, 0)) BK263.out) (aQ HB.out))
        replace HO291 := aA.mk (Kd.R_elder' HO291.out (Kd.R_base ho0) hb)
        replace HO294 := aA.mk (Kd.R_elder' HO294.out (Kd.R_base ho0) hb)
        replace BK262 := aA.mk (aG (g := gb262) (o := .cells #[.slice A0_0 l0_0.length c0_0] 32 (0, 0)) BK262.out hb)
        replace BK263 := aA.mk (aG (g := gb263) (o := .cells #[.int .i64 a1_0, .int .i64 a1_1, .int .i64 a1_2, .int .i64 a1_3, .int .i64 a1_4] 27 (0, 0)) BK263.out hb)
        replace BK264 := aA.mk (aG (g := gb264) (o := .cells #[.slice none 0 0] 32 (0, 0)) BK264.out hb)
        replace BK268 := aA.mk (aG (g := gb268) (o := .cells #[.slice Ao84 x269000_39.length co84] 32 (0, 0)) BK268.out hb)
        replace HB := aA.mk (aT HB.out hb)
        (try clear hb)
        (try clear hb2)
        (try clear hk)
        (try clear hi)
        (try clear ho0)
        refine hK.out _ _ ⟨(aD BK262.out 0).trans rfl, (aD BK263.out 0).trans rfl, (aD BK263.out 1).trans rfl, (aD BK263.out 2).trans rfl, (aD BK263.out 3).trans rfl, (aD BK263.out 4).trans rfl⟩ (fun hHeld => ?_)
        clear hK K
        refine bJ (a' := ?_) ?_ ?_
        rotate_left
        ·show Act.put _ (some 70) _ = _
         simp only [Act.put, lA, lB, lC, aU, aV]
         rfl
        refine aW (i := 5) (N := some 9) (v := ?_) (a' := ?_) #[true, true, true, true, true, true] rfl rfl (by kernel_rfl) (fun _ _ _ h => h) (Or.inl ⟨by rfl, ?_⟩) ?_ ?_
        rotate_left
        ·intro w'
         go_simp
         with_reducible rfl
        rotate_left
        ·simp only [Act.put, lA, lB, lC, aU, aV]
         rfl
        refine done_ (by kernel_rfl) ?_
        go_upto_region 12 with (fail)
        go_cut [79] (fun v79 wc => ∃ (kq : Nat) (x79_78 : Bool), v79 = .bool x79_78 ∧ aA (spec_NodePut.j3 kq t295 x79_78 l0_0 = some (r1, r2)) ∧ aA (kq ≤ kj39) ∧ aA (Kd.R k27 27 wc w.heap.size (fun k_ => (w.heap.size ≤ k_) ∧ k_ ≠ gb263) v296 t295) ∧ aA (Kd.N (Kd.slice 27 k27) 40 wc w.heap.size (fun k_ => (w.heap.size ≤ k_) ∧ some k_ ≠ (v296 : Value).ownBlock ∧ k_ ≠ gb262 ∧ k_ ≠ gb263 ∧ k_ ≠ gb264 ∧ k_ ≠ gb268) (.slice Ao84 x269000_39.length co84) x269000_39) ∧ aA (wc.heap[gb262]? = some (.cells #[(.slice A0_0 l0_0.length c0_0)] 32 (0, 0))) ∧ aA (wc.heap[gb263]? = some (.cells #[.int .i64 a1_0, .int .i64 a1_1, .int .i64 a1_2, .int .i64 a1_3, .int .i64 a1_4] 27 (0, 0))) ∧ aA (wc.heap[gb264]? = some (.cells #[(.slice none 0 0)] 32 (0, 0))) ∧ aA (wc.heap[gb268]? = some (.cells #[(.slice Ao84 x269000_39.length co84)] 32 (0, 0))) ∧ aA (Below w.heap.size w wc))
        case first =>
         have H := HC79.out
         clear HC79
         by_cases c92 : (t295.length : Int) > 8
         ·rw [if_pos c92] at H
          have c92b0 : decide (8 < (t295.length : Int)) = true := decide_eq_true c92
          have c92b1 : decide (8 < t295.length) = true := decide_eq_true (by omega)
          clear c92
          (first | rw [c92b0] | (simp only [aU, aV]; rw [c92b0]) | skip)
          have H' := aA.mk H
          clear H
          obtain ⟨Ao93, co93, eo93⟩ := Kd.R_slice HO297.out
          subst eo93
          go_wp2
          go_meet
          case rel => exact ⟨_, (true), (by first | rfl | (simp; done) | (simp [*]; done)), H', ⟨by have := HJ3.out; have := HJ25.out; have := HJ39.out; first | omega | exact Nat.le_refl _⟩, ⟨by (with_reducible repeat (first | apply Kd.bQ | apply Kd.bR | apply Kd.bU)); exact Kd.bK HO297.out (fun _ hk => ⟨hk.1.1.1.1, hk.2⟩)⟩, ⟨by (with_reducible repeat (first | apply Kd.N_alloc | apply Kd.N_drewN | apply Kd.N_drew)); exact Kd.N_mono HO_269000.out (fun _ hk => ⟨hk.1.1.1.1, ⟨hk.2, ⟨hk.1.1.1.2.1, ⟨hk.1.1.1.2.2.1, ⟨hk.1.1.1.2.2.2.1, hk.1.1.1.2.2.2.2⟩⟩⟩⟩⟩)⟩, ⟨by (with_reducible repeat (first | refine aM ?_ _ | refine aJ ?_ | refine aK ?_ _)); exact BK262.out⟩, ⟨by (with_reducible repeat (first | refine aM ?_ _ | refine aJ ?_ | refine aK ?_ _)); exact BK263.out⟩, ⟨by (with_reducible repeat (first | refine aM ?_ _ | refine aJ ?_ | refine aK ?_ _)); exact BK264.out⟩, ⟨by (with_reducible repeat (first | refine aM ?_ _ | refine aJ ?_ | refine aK ?_ _)); exact BK268.out⟩, ⟨by repeat (first | (with_reducible first | exact HB.out | apply aN | apply aE | apply aH | refine aC ?_ GE262.out | refine aC ?_ GE263.out | refine aC ?_ GE264.out | refine aC ?_ GE268.out) | exact HB.out)⟩⟩
         ·rw [if_neg c92] at H
          have c92b0 : decide (8 < (t295.length : Int)) = false := decide_eq_false c92
          have c92b1 : decide (8 < t295.length) = false := decide_eq_false (by omega)
          clear c92
          (first | rw [c92b0] | (simp only [aU, aV]; rw [c92b0]) | skip)
          replace H := lF H
          obtain ⟨t298, A940, H⟩ := H
          replace H : ((spec_NodeOk.f kj39 t298).bind fun t301 => (spec_NodePut.j3 kj39 t295 (!t301) l0_0)) = some (r1, r2) := H
          have A94 := aA.mk A940
          clear A940
          replace H := lF H
          obtain ⟨t301, A950, H⟩ := H
          replace H : (spec_NodePut.j3 kj39 t295 (!t301) l0_0) = some (r1, r2) := H
          have A95 := aA.mk A950
          clear A950
          have H' := aA.mk H
          clear H
          obtain ⟨Ao96, co96, eo96⟩ := Kd.R_slice HO297.out
          subst eo96
          go_wp2_with (first | (go_at_call 21; (with_reducible refine (spec_NodeNew.calls _ _ t295 t298 _ ?side1 ?side2 A94.out).mono ?_); (case side1 => repeat (first | exact (Kd.R_reads' HO297.out).2.2 | (with_reducible refine Kd.C_alloc ?_ _) | (with_reducible refine Kd.C_drewN ?_ _) | (with_reducible refine Kd.C_drew ?_))); (case side2 => exact (Kd.R_reads' HO297.out).2.1); rintro e w97 ⟨v299, rfl, ho0, hb⟩; have n0_ := aA.mk (Kd.N_elder' HO_269000.out (Kd.N_base ho0) hb); have n1_ := aA.mk (Kd.R_below HO291.out hb); have n2_ := aA.mk (Kd.R_below HO294.out hb); have n3_ := aA.mk (Kd.R_below HO297.out hb); have n4_ := aA.mk (Kd.N_lower (Kd.N_mono (ok' := fun k_ => (w.heap.size ≤ k_) ∧ some k_ ≠ (.slice Ao84 x269000_39.length co84 : Value).ownBlock ∧ some k_ ≠ (.slice Ao88 t289.length co88 : Value).ownBlock ∧ some k_ ≠ (.slice Ao90 t292.length co90 : Value).ownBlock ∧ some k_ ≠ (.slice Ao96 t295.length co96 : Value).ownBlock ∧ k_ ≠ gb262 ∧ k_ ≠ gb263 ∧ k_ ≠ gb264 ∧ k_ ≠ gb268) ho0 (fun k_ hk_ => ⟨(Nat.le_trans (aQ HB.out) hk_), (Kd.fresh' (Kd.N_lt HO_269000.out) k_ hk_), (Kd.fresh' (Kd.R_lt HO291.out) k_ hk_), (Kd.fresh' (Kd.R_lt HO294.out) k_ hk_), (Kd.fresh' (Kd.R_lt HO297.out) k_ hk_), (Kd.freshB (g := gb262) (o := .cells #[.slice A0_0 l0_0.length c0_0] 32 (0, 0)) BK262.out k_ hk_), (Kd.freshB (g := gb263) (o := .cells #[.int .i64 a1_0, .int .i64 a1_1, .int .i64 a1_2, .int .i64 a1_3, .int .i64 a1_4] 27 (0, 0)) BK263.out k_ hk_), (Kd.freshB (g := gb264) (o := .cells #[.slice none 0 0] 32 (0, 0)) BK264.out k_ hk_), (Kd.freshB (g := gb268) (o := .cells #[.slice Ao84 x269000_39.length co84] 32 (0, 0)) BK268.out k_ hk_)⟩)) (aQ HB.out)); have n5_ := aA.mk (aG (g := gb262) (o := .cells #[.slice A0_0 l0_0.length c0_0] 32 (0, 0)) BK262.out hb); have n6_ := aA.mk (aG (g := gb263) (o := .cells #[.int .i64 a1_0, .int .i64 a1_1, .int .i64 a1_2, .int .i64 a1_3, .int .i64 a1_4] 27 (0, 0)) BK263.out hb); have n7_ := aA.mk (aG (g := gb264) (o := .cells #[.slice none 0 0] 32 (0, 0)) BK264.out hb); have n8_ := aA.mk (aG (g := gb268) (o := .cells #[.slice Ao84 x269000_39.length co84] 32 (0, 0)) BK268.out hb); have n9_ := aA.mk (aT HB.out hb); clear HO_269000; clear HO291; clear HO294; clear HO297; clear BK262; clear BK263; clear BK264; clear BK268; clear HB; have HO_269000 := n0_; have HO291 := n1_; have HO294 := n2_; have HO297 := n3_; have HO300 := n4_; have BK262 := n5_; have BK263 := n6_; have BK264 := n7_; have BK268 := n8_; have HB := n9_; clear n0_ n1_ n2_ n3_ n4_ n5_ n6_ n7_ n8_ n9_; (try clear hb); (try clear ho0); obtain ⟨Ao98, co98, eo98⟩ := Kd.N_slice HO300.out; subst eo98) | (go_at_call 28; (with_reducible refine (spec_NodeOk.calls kj39 _ _ t298 t301 _ ?side1 ?side2 A95.out).mono ?_); (case side1 => repeat (first | exact (Kd.N_reads' HO300.out).2.2 | (with_reducible refine Kd.C_alloc ?_ _) | (with_reducible refine Kd.C_drewN ?_ _) | (with_reducible refine Kd.C_drew ?_))); (case side2 => exact (Kd.N_reads' HO300.out).2.1); rintro e w99 ⟨rfl, hb⟩; have n0_ := aA.mk (Kd.N_below HO_269000.out hb); have n1_ := aA.mk (Kd.R_below HO291.out hb); have n2_ := aA.mk (Kd.R_below HO294.out hb); have n3_ := aA.mk (Kd.R_below HO297.out hb); have n4_ := aA.mk (Kd.N_below HO300.out hb); have n5_ := aA.mk (aG (g := gb262) (o := .cells #[.slice A0_0 l0_0.length c0_0] 32 (0, 0)) BK262.out hb); have n6_ := aA.mk (aG (g := gb263) (o := .cells #[.int .i64 a1_0, .int .i64 a1_1, .int .i64 a1_2, .int .i64 a1_3, .int .i64 a1_4] 27 (0, 0)) BK263.out hb); have n7_ := aA.mk (aG (g := gb264) (o := .cells #[.slice none 0 0] 32 (0, 0)) BK264.out hb); have n8_ := aA.mk (aG (g := gb268) (o := .cells #[.slice Ao84 x269000_39.length co84] 32 (0, 0)) BK268.out hb); have n9_ := aA.mk (aT HB.out hb); clear HO_269000; clear HO291; clear HO294; clear HO297; clear HO300; clear BK262; clear BK263; clear BK264; clear BK268; clear HB; have HO_269000 := n0_; have HO291 := n1_; have HO294 := n2_; have HO297 := n3_; have HO300 := n4_; have BK262 := n5_; have BK263 := n6_; have BK264 := n7_; have BK268 := n8_; have HB := n9_; clear n0_ n1_ n2_ n3_ n4_ n5_ n6_ n7_ n8_ n9_; (try clear hb)))
          go_meet
          case rel => exact ⟨_, (!t301), (by first | rfl | (simp; done) | (simp [*]; done)), H', ⟨by have := HJ3.out; have := HJ25.out; have := HJ39.out; first | omega | exact Nat.le_refl _⟩, ⟨by (with_reducible repeat (first | apply Kd.bQ | apply Kd.bR | apply Kd.bU)); exact Kd.bK HO297.out (fun _ hk => ⟨hk.1.1.1.1, hk.2⟩)⟩, ⟨by (with_reducible repeat (first | apply Kd.N_alloc | apply Kd.N_drewN | apply Kd.N_drew)); exact Kd.N_mono HO_269000.out (fun _ hk => ⟨hk.1.1.1.1.1, ⟨hk.1.2, ⟨hk.1.1.1.1.2.1, ⟨hk.1.1.1.1.2.2.1, ⟨hk.1.1.1.1.2.2.2.1, hk.1.1.1.1.2.2.2.2⟩⟩⟩⟩⟩)⟩, ⟨by (with_reducible repeat (first | refine aM ?_ _ | refine aJ ?_ | refine aK ?_ _)); exact BK262.out⟩, ⟨by (with_reducible repeat (first | refine aM ?_ _ | refine aJ ?_ | refine aK ?_ _)); exact BK263.out⟩, ⟨by (with_reducible repeat (first | refine aM ?_ _ | refine aJ ?_ | refine aK ?_ _)); exact BK264.out⟩, ⟨by (with_reducible repeat (first | refine aM ?_ _ | refine aJ ?_ | refine aK ?_ _)); exact BK268.out⟩, ⟨by repeat (first | (with_reducible first | exact HB.out | apply aN | apply aE | apply aH | refine aC ?_ GE262.out | refine aC ?_ GE263.out | refine aC ?_ GE264.out | refine aC ?_ GE268.out) | exact HB.out)⟩⟩
        case rest =>
         clear HC79
         try clear c1
         try clear c2
         try clear p2
         try clear q2
         try clear hx2
         try clear c3
         try clear c4
         try clear p4
         try clear q4
         try clear hx4
         try clear hf4
         try clear c5
         try clear c6
         try clear p6
         try clear c7
         try clear c8
         try clear c9
         try clear c14
         try clear c15
         try clear c16
         try clear c18
         try clear c18b0
         try clear c20
         try clear c20b0
         try clear c21
         try clear c21b0
         try clear c26
         try clear p26
         try clear q26
         try clear hx26
         try clear c27
         try clear c27b0
         try clear p27
         try clear q27
         try clear hx27
         try clear c28
         try clear c29
         try clear c29b0
         try clear c30
         try clear c30b0
         try clear c31
         try clear c31b0
         try clear c31b1
         try clear c32
         try clear c33
         try clear c34
         try clear c35
         try clear c36
         try clear c37
         try clear c38
         try clear c41
         try clear c43
         try clear c43b0
         try clear c44
         try clear c44b0
         try clear c46
         try clear p46
         try clear q46
         try clear hx46
         try clear hf46
         try clear c49
         try clear c50
         try clear c51
         try clear c52
         try clear c53
         try clear c55
         try clear c56
         try clear c65
         try clear c66
         try clear c67
         try clear c68
         try clear c69
         try clear c73
         try clear c74
         try clear c80
         try clear c81
         try clear c82
         try clear c92
         try clear c92b0
         try clear c92b1
         try clear hcz10_0
         try clear hcz17_0
         try clear hcz35_0
         try clear hcz39_0
         try clear hcz54_0
         try clear hcz57_0
         try clear hcz57_1
         try clear hcz57_2
         try clear hcz57_3
         try clear hcz57_4
         try clear hcz63_0
         try clear hcz69_0
         try clear hcz72_0
         try clear hcz75_0
         try clear hcz83_0
         try clear hfz10_0
         try clear hfz17_0
         try clear hfz35_0
         try clear hfz39_0
         try clear hfz54_0
         try clear hfz57_0
         try clear hfz57_1
         try clear hfz57_2
         try clear hfz57_3
         try clear hfz57_4
         try clear hfz63_0
         try clear hfz69_0
         try clear hfz72_0
         try clear hfz75_0
         try clear hfz83_0
         try clear hx269_0
         try clear hx276_0
         try clear hx277_0
         try clear hx46_0
         try clear p2
         try clear p26
         try clear p269
         try clear p27
         try clear p276
         try clear p277
         try clear p4
         try clear p46
         try clear p6
         try clear q2
         try clear q26
         try clear q269
         try clear q27
         try clear q276
         try clear q277
         try clear q4
         try clear q46
         obtain ⟨kq, x79_78, rfl, HA, HJ78, HO_9, HO_269000, BK262, BK263, BK264, BK268, HB⟩ := hcut
         cases kq with
         | zero => exact absurd HA.out (by simp [spec_NodePut.j3])
         | succ kj78 =>
          have H := HA.out
          clear HA
          simp only [spec_NodePut.j3] at H
          by_cases c100 : x79_78 = true
          ·subst c100
           have H1 : ((spec_l5Copy.f kj78 l0_0).bind fun t302 => (some (t302, false))) = some (r1, r2) := by rw [if_pos rfl] at H; exact H
           clear H
           have H := H1
           clear H1
           replace H := lF H
           obtain ⟨t302, A1010, H⟩ := H
           replace H : (some (t302, false)) = some (r1, r2) := H
           have A101 := aA.mk A1010
           clear A1010
           simp only [Option.some.injEq, Prod.mk.injEq] at H
           obtain ⟨rfl, rfl⟩ := H
           have hnb102 := NB262_263.out
           have hnc102 := NB263_262.out
           have hnb103 := NB262_264.out
           have hnc103 := NB264_262.out
           have hnb104 := NB262_268.out
           have hnc104 := NB268_262.out
           have hcz105_0 := cs1 BK262.out
           have hfz105_0 := fs1 BK262.out
           go_wp2_with (first | ((with_reducible refine bD (f := 68) rfl ?_); refine bL (some 81) rfl rfl Try.func68 (by kernel_rfl) rfl #[.agg #[.slice A0_0 l0_0.length c0_0]] rfl (by (try simp only [List.map_toArray, List.map_cons, List.map_nil]); first | done | rfl) ?_; (with_reducible refine (spec_l5Copy.calls kj78 _ _ l0_0 t302 _ ?side1 ?side2 A101.out).mono ?_); (case side1 => exact (Kd.bN HR0_0.out HB.out)); (case side2 => exact HC0_0.out); rintro e w106 ⟨v303, rfl, ho0, hb⟩; refine ⟨_, rfl, ?_⟩; have HO304 := aA.mk (Kd.N_lower (Kd.N_mono (ok' := fun k_ => (w.heap.size ≤ k_) ∧ some k_ ≠ (v296 : Value).ownBlock ∧ some k_ ≠ (.slice Ao84 x269000_39.length co84 : Value).ownBlock ∧ k_ ≠ gb262 ∧ k_ ≠ gb263 ∧ k_ ≠ gb264 ∧ k_ ≠ gb268) (Kd.S_N (Kd.S_bound ho0)) (fun k_ hk_ => ⟨(Nat.le_trans (aQ HB.out) hk_.2.1), (Kd.fresh' (Kd.R_lt HO_9.out) k_ hk_.2.1), (Kd.fresh' (Kd.N_lt HO_269000.out) k_ hk_.2.1), (Kd.freshB (g := gb262) (o := .cells #[.slice A0_0 l0_0.length c0_0] 32 (0, 0)) BK262.out k_ hk_.2.1), (Kd.freshB (g := gb263) (o := .cells #[.int .i64 a1_0, .int .i64 a1_1, .int .i64 a1_2, .int .i64 a1_3, .int .i64 a1_4] 27 (0, 0)) BK263.out k_ hk_.2.1), (Kd.freshB (g := gb264) (o := .cells #[.slice none 0 0] 32 (0, 0)) BK264.out k_ hk_.2.1), (Kd.freshB (g := gb268) (o := .cells #[.slice Ao84 x269000_39.length co84] 32 (0, 0)) BK268.out k_ hk_.2.1)⟩)) (aQ HB.out)); replace HO_9 := aA.mk (Kd.R_below HO_9.out hb); replace HO_269000 := aA.mk (Kd.N_elder' HO_269000.out (Kd.S_base ho0) hb); replace BK262 := aA.mk (aG (g := gb262) (o := .cells #[.slice A0_0 l0_0.length c0_0] 32 (0, 0)) BK262.out hb); replace BK263 := aA.mk (aG (g := gb263) (o := .cells #[.int .i64 a1_0, .int .i64 a1_1, .int .i64 a1_2, .int .i64 a1_3, .int .i64 a1_4] 27 (0, 0)) BK263.out hb); replace BK264 := aA.mk (aG (g := gb264) (o := .cells #[.slice none 0 0] 32 (0, 0)) BK264.out hb); replace BK268 := aA.mk (aG (g := gb268) (o := .cells #[.slice Ao84 x269000_39.length co84] 32 (0, 0)) BK268.out hb); replace HB := aA.mk (aT HB.out hb); (try clear hb); (try clear ho0); obtain ⟨Ao107, co107, eo107⟩ := Kd.N_slice HO304.out; subst eo107; have hnb108 := NB264_263.out; have hnc108 := NB263_264.out; have hnb109 := NB264_268.out; have hnc109 := NB268_264.out; have hcz110_0 := cs1 BK264.out; have hfz110_0 := fs1 BK264.out))
           refine bodyPost_ret (results_ct rfl _ _ gb264 32 #[.slice Ao107 t302.length co107] (0, 0) _ rfl (by (with_reducible repeat (first | refine aM ?_ _ | refine aJ ?_ | refine aK ?_ _)); refine bE (cs := #[.slice none 0 0]) ?_ 0 _ rfl; (with_reducible repeat (first | refine aM ?_ _ | refine aJ ?_ | refine aK ?_ _)); exact BK264.out) Try.underlying32 rfl (by kernel_rfl)) rfl ?_
           exact ⟨_, by first | rfl | (simp [errW_none, errW_some] <;> rfl) | (simp [*, errW_none, errW_some] <;> rfl), by (with_reducible repeat (first | apply Kd.N_alloc | apply Kd.N_drewN | apply Kd.N_drew)); exact Kd.N_mono (Kd.N_far (p := ⟨gb264, 0, none⟩) (Kd.N_mono HO304.out (fun k_ hk => (⟨hk, hk.2.2.2.2.2.1⟩ : _ ∧ k_ ≠ gb264))) (fun _ hk => hk.2) (.slice Ao107 t302.length co107)) (fun _ hk => hk.1.1), by repeat (first | (with_reducible first | exact HB.out | apply aN | apply aE | apply aH | refine aC ?_ GE262.out | refine aC ?_ GE263.out | refine aC ?_ GE264.out | refine aC ?_ GE268.out) | exact HB.out)⟩
          ·replace c100 := Bool.eq_false_iff.mpr c100
           subst c100
           have H1 : ((spec_NodeNew.f t295).bind fun t305 => (some (t305, true))) = some (r1, r2) := by rw [if_neg (show ¬ (false = true) by decide)] at H; exact H
           clear H
           have H := H1
           clear H1
           replace H := lF H
           obtain ⟨t305, A1110, H⟩ := H
           replace H : (some (t305, true)) = some (r1, r2) := H
           have A111 := aA.mk A1110
           clear A1110
           simp only [Option.some.injEq, Prod.mk.injEq] at H
           obtain ⟨rfl, rfl⟩ := H
           obtain ⟨Ao112, co112, eo112⟩ := Kd.R_slice HO_9.out
           subst eo112
           go_wp2_with (first | ((with_reducible refine bD (f := 21) rfl ?_); refine bL (some 83) rfl rfl Try.func21 (by kernel_rfl) rfl #[.slice Ao112 t295.length co112] rfl (by (try simp only [List.map_toArray, List.map_cons, List.map_nil]); first | done | rfl) ?_; (with_reducible refine (spec_NodeNew.calls _ _ t295 t305 _ ?side1 ?side2 A111.out).mono ?_); (case side1 => repeat (first | exact (Kd.R_reads' HO_9.out).2.2 | (with_reducible refine Kd.C_alloc ?_ _) | (with_reducible refine Kd.C_drewN ?_ _) | (with_reducible refine Kd.C_drew ?_))); (case side2 => exact (Kd.R_reads' HO_9.out).2.1); rintro e w113 ⟨v306, rfl, ho0, hb⟩; refine ⟨_, rfl, ?_⟩; have HO307 := aA.mk (Kd.N_lower (Kd.N_mono (ok' := fun k_ => (w.heap.size ≤ k_) ∧ some k_ ≠ (.slice Ao112 t295.length co112 : Value).ownBlock ∧ some k_ ≠ (.slice Ao84 x269000_39.length co84 : Value).ownBlock ∧ k_ ≠ gb262 ∧ k_ ≠ gb263 ∧ k_ ≠ gb264 ∧ k_ ≠ gb268) ho0 (fun k_ hk_ => ⟨(Nat.le_trans (aQ HB.out) hk_), (Kd.fresh' (Kd.R_lt HO_9.out) k_ hk_), (Kd.fresh' (Kd.N_lt HO_269000.out) k_ hk_), (Kd.freshB (g := gb262) (o := .cells #[.slice A0_0 l0_0.length c0_0] 32 (0, 0)) BK262.out k_ hk_), (Kd.freshB (g := gb263) (o := .cells #[.int .i64 a1_0, .int .i64 a1_1, .int .i64 a1_2, .int .i64 a1_3, .int .i64 a1_4] 27 (0, 0)) BK263.out k_ hk_), (Kd.freshB (g := gb264) (o := .cells #[.slice none 0 0] 32 (0, 0)) BK264.out k_ hk_), (Kd.freshB (g := gb268) (o := .cells #[.slice Ao84 x269000_39.length co84] 32 (0, 0)) BK268.out k_ hk_)⟩)) (aQ HB.out)); replace HO_9 := aA.mk (Kd.R_below HO_9.out hb); replace HO_269000 := aA.mk (Kd.N_elder' HO_269000.out (Kd.N_base ho0) hb); replace BK262 := aA.mk (aG (g := gb262) (o := .cells #[.slice A0_0 l0_0.length c0_0] 32 (0, 0)) BK262.out hb); replace BK263 := aA.mk (aG (g := gb263) (o := .cells #[.int .i64 a1_0, .int .i64 a1_1, .int .i64 a1_2, .int .i64 a1_3, .int .i64 a1_4] 27 (0, 0)) BK263.out hb); replace BK264 := aA.mk (aG (g := gb264) (o := .cells #[.slice none 0 0] 32 (0, 0)) BK264.out hb); replace BK268 := aA.mk (aG (g := gb268) (o := .cells #[.slice Ao84 x269000_39.length co84] 32 (0, 0)) BK268.out hb); replace HB := aA.mk (aT HB.out hb); (try clear hb); (try clear ho0); obtain ⟨Ao114, co114, eo114⟩ := Kd.N_slice HO307.out; subst eo114; have hnb115 := NB264_262.out; have hnc115 := NB262_264.out; have hnb116 := NB264_263.out; have hnc116 := NB263_264.out; have hnb117 := NB264_268.out; have hnc117 := NB268_264.out; have hcz118_0 := cs1 BK264.out; have hfz118_0 := fs1 BK264.out))
           refine bodyPost_ret (results_ct rfl _ _ gb264 32 #[.slice Ao114 t305.length co114] (0, 0) _ rfl (by (with_reducible repeat (first | refine aM ?_ _ | refine aJ ?_ | refine aK ?_ _)); refine bE (cs := #[.slice none 0 0]) ?_ 0 _ rfl; (with_reducible repeat (first | refine aM ?_ _ | refine aJ ?_ | refine aK ?_ _)); exact BK264.out) Try.underlying32 rfl (by kernel_rfl)) rfl ?_
           exact ⟨_, by first | rfl | (simp [errW_none, errW_some] <;> rfl) | (simp [*, errW_none, errW_some] <;> rfl), by (with_reducible repeat (first | apply Kd.N_alloc | apply Kd.N_drewN | apply Kd.N_drew)); exact Kd.N_mono (Kd.N_far (p := ⟨gb264, 0, none⟩) (Kd.N_mono HO307.out (fun k_ hk => (⟨hk, hk.2.2.2.2.2.1⟩ : _ ∧ k_ ≠ gb264))) (fun _ hk => hk.2) (.slice Ao114 t305.length co114)) (fun _ hk => hk.1.1), by repeat (first | (with_reducible first | exact HB.out | apply aN | apply aE | apply aH | refine aC ?_ GE262.out | refine aC ?_ GE263.out | refine aC ?_ GE264.out | refine aC ?_ GE268.out) | exact HB.out)⟩
end Go.Proofs.Ythpfihklkcnckaa.PFnExactNodePut

namespace Go.Proofs.Ythpfihklkcnckaa.PFnExactNodePut
open Go.RowKit Go.Proofs.YthpfihklkcnckaaW.PrintWords Go.Proofs.YthpfihklkcnckaaW.PrintLast Go.Proofs.YthpfihklkcnckaaW.PrintMore
attribute [local go_sem] max2_int min2_int max_two min_two max_three min_three max_four min_four   -- for this text's walks alone
set_option linter.unusedVariables false
set_option linter.unusedSimpArgs false
def impl_copyKeys.f (l0 : List (S27)) : Option ((List (S27))) := (some (([] : List (S27)) : List (S27))).bind fun y308 => (if y308.length + l0.length < 3518437208883 then (some (y308 ++ l0)) else (none))
set_option maxHeartbeats 8000000 in
set_option maxRecDepth 100000 in
theorem impl_copyKeys.calls (A0 : Option Addr) (c0 : Nat) (l0 : List (S27)) (r : List (S27)) (w : World) (hr0 : Kd.C k27 w A0 l0.length l0) (hc0 : l0.length ≤ c0) (h : impl_copyKeys.f l0 = some r) :
  Calls Try.prog 58 #[.slice A0 l0.length c0] w fun e w' => ∃ v0_ : Value, e = .returned (v0_) ∧ Kd.R k27 27 w' w.heap.size (fun _ => True) v0_ r ∧ Below w.heap.size w w' := by
 have HR0 := aA.mk hr0
 have HC0 := aA.mk hc0
 clear hr0 hc0
 have HB := aA.mk (Below.refl w.heap.size w)
 have H : ((some (([] : List (S27)) : List (S27))).bind fun y308 => (if y308.length + l0.length < 3518437208883 then (some (y308 ++ l0)) else (none))) = some r := h
 clear h
 obtain ⟨y308, hy308⟩ : ∃ y_ : List (S27), y_ = (([] : List (S27))) := ⟨_, rfl⟩
 replace H : (if y308.length + l0.length < 3518437208883 then (some (y308 ++ l0)) else (none)) = some r := by first | (rw [hy308]; with_reducible exact H) | (have H2_ := (Option.bind_some _ _).symm.trans H; rw [hy308]; with_reducible exact H2_) | (have H2_ := (Option.bind_some _ _).symm.trans H; with_reducible exact H2_) | with_reducible exact H | (rw [hy308]; exact H) | exact H
 have Ny308 := aA.mk hy308
 clear hy308
 by_cases c2 : y308.length + l0.length < 3518437208883
 ·rw [if_pos c2] at H
  have LMc2 := aA.mk c2
  clear c2
  obtain ⟨y311, hy311⟩ : ∃ y_ : List (S27), y_ = (y308 ++ l0) := ⟨_, rfl⟩
  replace H : (some y311) = some r := by first | (rw [hy311]; with_reducible exact H) | (have H2_ := (Option.bind_some _ _).symm.trans H; rw [hy311]; with_reducible exact H2_) | (have H2_ := (Option.bind_some _ _).symm.trans H; with_reducible exact H2_) | with_reducible exact H | (rw [hy311]; exact H) | exact H
  have Ny311 := aA.mk hy311
  clear hy311
  obtain rfl := Option.some.inj H
  go_enter Try.func58, Try.ntmps58
  go_wp2_with (first | ((with_reducible refine bA (N := 3) rfl ?_); refine Kd.R_lit k27 _ 27 ?hg (N := 3) ?hd (xs := ([] : List (S27))) (inner := []) (ok := fun _ => True) (okp := fun _ => True) ?hr ?hp (fun _ hk => hk) trivial (Below.refl _ _) (Nat.le_refl _) (by simp) ?_; (case hd => rfl); (case hg => rfl); (case hr => first | (go_simp; done) | (go_simp; rfl)); (case hp => exact (Reps.none _ _)); intro v309 w3 ho4 hb hg_ hnew_; clear hg_ hnew_; (first | rw [← Ny308.out] at ho4 | (simp only [Int.reduceToNat] at ho4; rw [← Ny308.out] at ho4)); have HO310 := aA.mk (Kd.R_lower ho4 (aQ HB.out)); replace HB := aA.mk (aT HB.out hb); clear hb ho4) | ((with_reducible refine gate_builtin (b := .append) (xs := #[.tmp 3, .tmp 4]) rfl ?_); at_builtin; refine Kd.R_append_rows k27 (w0 := w) w.heap.size rfl (.tmp 3) (.tmp 4) 40 27 (.agg #[(.int .i64 0), (.int .i64 0), (.int .i64 0), (.int .i64 0), (.int .i64 0)]) 40 rfl Try.underlying40 info27 rfl (by decide) (by omega) v309 y308 l0 _ _ _ (fun _ => True) (fun _ => False) rfl rfl ?aO ?aR (fun _ _ h => h) (fun _ h => h.elim) ?aF ?aB ?aS ?aL ?_; (case aR => exact (Kd.bN HR0.out HB.out)); (case aB => exact HB.out); (case aF => exact (fun _ _ => trivial)); (case aO => exact HO310.out); (case aS => exact (aQ HB.out)); (case aL => have := LMc2.out; omega); intro v312 w5 ho hb hg hat; rw [← Ny311.out] at ho; replace HB := aA.mk (hb); have HO313 := aA.mk (ho); clear HO310; clear ho hb hg hat))
  go_ret
  exact ⟨_, by first | rfl | (simp [errW_none, errW_some] <;> rfl) | (simp [*, errW_none, errW_some] <;> rfl), by (with_reducible repeat (first | apply Kd.bQ | apply Kd.bR | apply Kd.bU)); exact HO313.out, by repeat (first | (with_reducible first | exact HB.out | apply aN | apply aE | apply aH) | exact HB.out)⟩
 ·rw [if_neg c2] at H
  exact absurd H (by simp)
def impl_NodeNew.f (l0 : List (S27)) : Option ((List (List (S27)))) := if (l0.length : Int) = 0 then (some ([] : List (List (S27)))) else ((impl_copyKeys.f l0).bind fun t => (some (([t] : List (List (S27))))))
set_option maxHeartbeats 8000000 in
set_option maxRecDepth 100000 in
theorem impl_NodeNew.calls (A0 : Option Addr) (c0 : Nat) (l0 : List (S27)) (r : List (List (S27))) (w : World) (hr0 : Kd.C k27 w A0 l0.length l0) (hc0 : l0.length ≤ c0) (h : impl_NodeNew.f l0 = some r) :
  Calls Try.prog 23 #[.slice A0 l0.length c0] w fun e w' => ∃ v0_ : Value, e = .returned (.agg #[v0_]) ∧ Kd.S (Kd.slice 27 k27) 40 w' w.heap.size (fun _ => True) v0_ r ∧ Below w.heap.size w w' := by
 have hu := Try.underlying32
 have HR0 := aA.mk hr0
 have HC0 := aA.mk hc0
 clear hr0 hc0
 unfold impl_NodeNew.f at h
 by_cases c2 : (l0.length : Int) = 0
 ·rw [if_pos c2] at h
  have c2b0 : ((l0.length : Int) == 0) = true := beq_iff_eq.mpr c2
  clear c2
  obtain rfl := Option.some.inj h
  clear h
  go_enter Try.func23, Try.ntmps23
  go_wp2_with (first | ((with_reducible refine bA (N := 2) rfl ?_); refine bC ?hg (N := 2) ?hd (cs := #[.slice none 0 0]) (t := 32) ?hr ?_; (case hd => rfl); (case hg => rfl); (case hr => first | (go_simp; done) | (go_simp; rfl)); intro gb hg w3 hbox hb; have HB := aA.mk hb; have BK := aA.mk hbox; have GE := aA.mk (Nat.le_of_eq hg.symm); clear hb hbox hg; have hz0 : w3.cell? ⟨gb, 0, none⟩ = some (.slice none 0 0) := (aD BK.out 0).trans rfl; have hz1 := aX BK.out 0))
  refine bodyPost_ret (results_cell_row rfl _ _ gb 32 #[.slice none 0 0] (0, 0) _ rfl (by refine bE (cs := #[.slice none 0 0]) ?_ 0 _ rfl; exact BK.out) Try.underlying32 rfl (by kernel_rfl)) rfl ?_
  exact ⟨_, rfl, Kd.S_nil _ _ _ _ _, aC HB.out GE.out⟩
 ·rw [if_neg c2] at h
  have c2b0 : ((l0.length : Int) == 0) = false := beq_eq_false_iff_ne.mpr c2
  clear c2
  obtain ⟨t, ht, h⟩ := lF h
  obtain rfl := Option.some.inj h
  clear h
  have HT := aA.mk ht
  clear ht
  go_enter Try.func23, Try.ntmps23
  go_wp2_with (first | ((with_reducible refine bA (N := 2) rfl ?_); refine bC ?hg (N := 2) ?hd (cs := #[.slice none 0 0]) (t := 32) ?hr ?_; (case hd => rfl); (case hg => rfl); (case hr => first | (go_simp; done) | (go_simp; rfl)); intro gb hg w3 hbox hb; have HB := aA.mk hb; have BK := aA.mk hbox; have GE := aA.mk (Nat.le_of_eq hg.symm); clear hb hbox hg) | ((with_reducible refine bD (f := 58) rfl ?_); refine bL (some 8) rfl rfl Try.func58 (by kernel_rfl) rfl #[.slice A0 l0.length c0] rfl (by (try simp only [List.map_toArray, List.map_cons, List.map_nil]); first | done | rfl) ?_; (with_reducible refine (impl_copyKeys.calls _ _ l0 t _ ?s1 ?s2 HT.out).mono ?_); (case s1 => exact Kd.bN HR0.out HB.out); (case s2 => exact HC0.out); rintro e w7 ⟨v, rfl, ho0, hb⟩; refine ⟨_, rfl, ?_⟩; obtain ⟨Ao, co, eo⟩ := Kd.R_slice ho0; subst eo; have HO := aA.mk (Kd.R_bound (Kd.R_lower ho0 HB.out.size)); have HB7 := aA.mk (aT HB.out hb); have BK7 := aA.mk (aG BK.out hb); clear ho0 hb) | ((with_reducible refine bA (N := 9) rfl ?_); refine Kd.S_lits (Kd.slice 27 k27) w.heap.size 40 ?hg (N := 9) ?hd (xs := ([t] : List (List (S27)))) (inner := [.slice Ao t.length co]) (ok := fun _ => True) (fun j k_ => j = 0 ∧ k_ < w7.heap.size) ?hr rfl ?hp ?ha (fun _ _ _ => trivial) trivial HB7.out HB7.out.size (by simp) ?_; (case hd => rfl); (case hg => rfl); (case hr => first | (go_simp; done) | (go_simp; rfl)); (case ha => exact (fun i j k h1 h2 => h1.1.trans h2.1.symm)); (case hp => exact (fun j x hx => by match j, hx with | 0, hx => (obtain rfl := Option.some.inj hx; exact ⟨_, rfl, Kd.bK HO.out (fun k hk => ⟨rfl, hk.2.2.1⟩)⟩) | j + 1, hx => simp at hx)); intro v1 w9 ho10 hb hg_ hnew_; obtain ⟨A1, c1, e1⟩ := Kd.S_slice ho10; subst e1; have BK9 := aA.mk (blk_grown BK7.out hg_ (by simp)); have HS := aA.mk ho10; have HB9 := aA.mk hb; clear hb hg_ hnew_ ho10; have hz0 : w9.cell? ⟨gb, 0, none⟩ = some (.slice none 0 0) := (aD BK9.out 0).trans rfl; have hz1 := aX BK9.out 0))
  refine bodyPost_ret (results_cell_row rfl _ _ gb 32 #[.slice A1 ([t] : List (List (S27))).length c1] (0, 0) _ rfl (by refine bE (cs := #[.slice none 0 0]) ?_ 0 _ rfl; exact BK9.out) Try.underlying32 rfl (by kernel_rfl)) rfl ?_
  exact ⟨_, rfl, Kd.bP (Kd.S_far (p := ⟨gb, 0, none⟩) (Kd.S_types HS.out BK9.out (by decide)) (fun _ hk => hk.2) _) (fun _ _ => trivial), aC HB9.out GE.out⟩
def impl_within.f (a0 : Int) (a1 : Int) (a2 : Int) : Option (Bool) := if a0 ≥ a1 then (some (decide (a0 ≤ a2))) else (some false)
set_option maxHeartbeats 8000000 in
set_option maxRecDepth 100000 in
theorem impl_within.calls (a0 : Int) (a1 : Int) (a2 : Int) (r : Bool) (w : World) (h : impl_within.f a0 a1 a2 = some r) :
  Calls Try.prog 86 #[.int .i64 a0, .int .i64 a1, .int .i64 a2] w fun e w' => e = .returned (.bool r) ∧ bT w w' := by
 have H : (if a0 ≥ a1 then (some (decide (a0 ≤ a2))) else (some false)) = some r := h
 clear h
 by_cases c4 : a0 ≥ a1
 ·rw [if_pos c4] at H
  have c4b0 : decide (a1 ≤ a0) = true := decide_eq_true c4
  clear c4
  obtain rfl := Option.some.inj H
  go_enter Try.func86, Try.ntmps86
  go_wp2
  go_ret
  exact ⟨by first | rfl | (simp; done) | (simp [*]; done), by repeat (first | exact bT.refl _ | apply bT.step)⟩
 ·rw [if_neg c4] at H
  have c4b0 : decide (a1 ≤ a0) = false := decide_eq_false c4
  clear c4
  obtain rfl := Option.some.inj H
  go_enter Try.func86, Try.ntmps86
  go_wp2
  go_ret
  exact ⟨by first | rfl | (simp; done) | (simp [*]; done), by repeat (first | exact bT.refl _ | apply bT.step)⟩
def impl_KeyOk.j0 : Nat → Bool → Int → Int → Int → Int → Int → Option (Bool)
 | 0, _, _, _, _, _, _ => none
 | k + 1, x18, x315000, x315001, x315002, x315003, x315004 => if x18 = true then (some false) else (if x315002 = 1 then ((impl_within.f x315003 0 23).bind fun t318 => (if t318 = true then ((impl_within.f x315004 0 999).bind fun t319 => (some t319)) else (some false))) else (if x315003 = 0 then (some (x315004 == 0)) else (some false)))
def impl_KeyOk.f (k : Nat) (a0_0 : Int) (a0_1 : Int) (a0_2 : Int) (a0_3 : Int) (a0_4 : Int) : Option (Bool) := (impl_within.f a0_0 0 15).bind fun t315 => (if t315 = true then ((impl_within.f a0_1 1 60).bind fun t316 => (if t316 = true then ((impl_within.f a0_2 0 2).bind fun t317 => (impl_KeyOk.j0 k (!t317) a0_0 a0_1 a0_2 a0_3 a0_4)) else (impl_KeyOk.j0 k true a0_0 a0_1 a0_2 a0_3 a0_4))) else (impl_KeyOk.j0 k true a0_0 a0_1 a0_2 a0_3 a0_4))
set_option maxHeartbeats 8000000 in
set_option maxRecDepth 100000 in
theorem impl_KeyOk.calls (k : Nat) (a0_0 : Int) (a0_1 : Int) (a0_2 : Int) (a0_3 : Int) (a0_4 : Int) (r : Bool) (w : World) (h : impl_KeyOk.f k a0_0 a0_1 a0_2 a0_3 a0_4 = some r) :
  Calls Try.prog 91 #[.agg #[.int .i64 a0_0, .int .i64 a0_1, .int .i64 a0_2, .int .i64 a0_3, .int .i64 a0_4]] w fun e w' => e = .returned (.bool r) ∧ Below w.heap.size w w' := by
 have hu27 := Try.underlying27
 have HB := aA.mk (Below.refl w.heap.size w)
 have H : ((impl_within.f a0_0 0 15).bind fun t315 => (if t315 = true then ((impl_within.f a0_1 1 60).bind fun t316 => (if t316 = true then ((impl_within.f a0_2 0 2).bind fun t317 => (impl_KeyOk.j0 k (!t317) a0_0 a0_1 a0_2 a0_3 a0_4)) else (impl_KeyOk.j0 k true a0_0 a0_1 a0_2 a0_3 a0_4))) else (impl_KeyOk.j0 k true a0_0 a0_1 a0_2 a0_3 a0_4))) = some r := h
 clear h
 have HC2 := aA.mk H
 clear H
 go_enter Try.func91, Try.ntmps91
 go_upto_region 1 with (first | ((with_reducible refine bA (N := 1) rfl ?_); refine bC ?hg (N := 1) ?hd (cs := #[.int .i64 a0_0, .int .i64 a0_1, .int .i64 a0_2, .int .i64 a0_3, .int .i64 a0_4]) (t := 27) ?hr ?_; (case hd => rfl); (case hg => rfl); (case hr => first | (go_simp; done) | (go_simp; rfl)); intro gb314 hg w3 hbox hb; have BK314 := aA.mk (hbox); have GW314 := aA.mk ((by rw [hg]; exact (aQ HB.out) : w.heap.size ≤ gb314)); have GE314 := aA.mk ((by rw [hg]; exact (aQ HB.out) : w.heap.size ≤ gb314)); replace HB := aA.mk (aT HB.out hb); clear hb hbox hg))
 (try simp only [Act.put, lA, lB, lC])
 go_cut [18] (fun v18 wc => ∃ (kq : Nat) (x18_1 : Bool), v18 = .bool x18_1 ∧ aA (impl_KeyOk.j0 kq x18_1 a0_0 a0_1 a0_2 a0_3 a0_4 = some r) ∧ aA (kq ≤ k) ∧ aA (wc.heap[gb314]? = some (.cells #[.int .i64 a0_0, .int .i64 a0_1, .int .i64 a0_2, .int .i64 a0_3, .int .i64 a0_4] 27 (0, 0))) ∧ aA (Below w.heap.size w wc))
 case first =>
  have H := HC2.out
  clear HC2
  replace H := lF H
  obtain ⟨t315, A40, H⟩ := H
  replace H : (if t315 = true then ((impl_within.f a0_1 1 60).bind fun t316 => (if t316 = true then ((impl_within.f a0_2 0 2).bind fun t317 => (impl_KeyOk.j0 k (!t317) a0_0 a0_1 a0_2 a0_3 a0_4)) else (impl_KeyOk.j0 k true a0_0 a0_1 a0_2 a0_3 a0_4))) else (impl_KeyOk.j0 k true a0_0 a0_1 a0_2 a0_3 a0_4)) = some r := H
  have A4 := aA.mk A40
  clear A40
  by_cases c5 : t315 = true
  ·subst c5
   have H1 : ((impl_within.f a0_1 1 60).bind fun t316 => (if t316 = true then ((impl_within.f a0_2 0 2).bind fun t317 => (impl_KeyOk.j0 k (!t317) a0_0 a0_1 a0_2 a0_3 a0_4)) else (impl_KeyOk.j0 k true a0_0 a0_1 a0_2 a0_3 a0_4))) = some r := by rw [if_pos rfl] at H; exact H
   clear H
   have H := H1
   clear H1
   replace H := lF H
   obtain ⟨t316, A60, H⟩ := H
   replace H : (if t316 = true then ((impl_within.f a0_2 0 2).bind fun t317 => (impl_KeyOk.j0 k (!t317) a0_0 a0_1 a0_2 a0_3 a0_4)) else (impl_KeyOk.j0 k true a0_0 a0_1 a0_2 a0_3 a0_4)) = some r := H
   have A6 := aA.mk A60
   clear A60
   by_cases c7 : t316 = true
   ·subst c7
    have H1 : ((impl_within.f a0_2 0 2).bind fun t317 => (impl_KeyOk.j0 k (!t317) a0_0 a0_1 a0_2 a0_3 a0_4)) = some r := by rw [if_pos rfl] at H; exact H
    clear H
    have H := H1
    clear H1
    replace H := lF H
    obtain ⟨t317, A80, H⟩ := H
    replace H : (impl_KeyOk.j0 k (!t317) a0_0 a0_1 a0_2 a0_3 a0_4) = some r := H
    have A8 := aA.mk A80
    clear A80
    have H' := aA.mk H
    clear H
    obtain ⟨hcz9_0, hcz9_1, hcz9_2, hcz9_3, hcz9_4⟩ := cs5 BK314.out
    obtain ⟨hfz9_0, hfz9_1, hfz9_2, hfz9_3, hfz9_4⟩ := fs5 BK314.out
    go_wp2_with (first | ((with_reducible refine bD (f := 86) rfl ?_); refine bL (some 5) rfl rfl Try.func86 (by kernel_rfl) rfl #[.int .i64 a0_0, .int .i64 0, .int .i64 15] rfl (by (try simp only [List.map_toArray, List.map_cons, List.map_nil]); first | done | rfl) ?_; (with_reducible refine (impl_within.calls a0_0 0 15 true _ A4.out).mono ?_); rintro e w' ⟨rfl, ⟨nd, rfl⟩⟩; refine ⟨_, rfl, ?_⟩) | (go_at_call 86; (with_reducible refine (impl_within.calls a0_1 1 60 true _ A6.out).mono ?_); rintro e w' ⟨rfl, ⟨nd, rfl⟩⟩) | (go_at_call 86; (with_reducible refine (impl_within.calls a0_2 0 2 t317 _ A8.out).mono ?_); rintro e w' ⟨rfl, ⟨nd, rfl⟩⟩))
    go_meet
    case rel => exact ⟨_, (!t317), (by first | rfl | (simp; done) | (simp [*]; done)), H', ⟨by first | omega | exact Nat.le_refl _⟩, ⟨by (with_reducible repeat (first | refine aM ?_ _ | refine aJ ?_ | refine aK ?_ _)); exact BK314.out⟩, ⟨by repeat (first | (with_reducible first | exact HB.out | apply aN | apply aE | apply aH | refine aC ?_ GE314.out) | exact HB.out)⟩⟩
   ·replace c7 := Bool.eq_false_iff.mpr c7
    subst c7
    have H1 : (impl_KeyOk.j0 k true a0_0 a0_1 a0_2 a0_3 a0_4) = some r := by rw [if_neg (show ¬ (false = true) by decide)] at H; exact H
    clear H
    have H := H1
    clear H1
    have H' := aA.mk H
    clear H
    obtain ⟨hcz10_0, hcz10_1, hcz10_2, hcz10_3, hcz10_4⟩ := cs5 BK314.out
    obtain ⟨hfz10_0, hfz10_1, hfz10_2, hfz10_3, hfz10_4⟩ := fs5 BK314.out
    go_wp2_with (first | ((with_reducible refine bD (f := 86) rfl ?_); refine bL (some 5) rfl rfl Try.func86 (by kernel_rfl) rfl #[.int .i64 a0_0, .int .i64 0, .int .i64 15] rfl (by (try simp only [List.map_toArray, List.map_cons, List.map_nil]); first | done | rfl) ?_; (with_reducible refine (impl_within.calls a0_0 0 15 true _ A4.out).mono ?_); rintro e w' ⟨rfl, ⟨nd, rfl⟩⟩; refine ⟨_, rfl, ?_⟩) | (go_at_call 86; (with_reducible refine (impl_within.calls a0_1 1 60 false _ A6.out).mono ?_); rintro e w' ⟨rfl, ⟨nd, rfl⟩⟩))
    go_meet
    case rel => exact ⟨_, (true), (by first | rfl | (simp; done) | (simp [*]; done)), H', ⟨by first | omega | exact Nat.le_refl _⟩, ⟨by (with_reducible repeat (first | refine aM ?_ _ | refine aJ ?_ | refine aK ?_ _)); exact BK314.out⟩, ⟨by repeat (first | (with_reducible first | exact HB.out | apply aN | apply aE | apply aH | refine aC ?_ GE314.out) | exact HB.out)⟩⟩
  ·replace c5 := Bool.eq_false_iff.mpr c5
   subst c5
   have H1 : (impl_KeyOk.j0 k true a0_0 a0_1 a0_2 a0_3 a0_4) = some r := by rw [if_neg (show ¬ (false = true) by decide)] at H; exact H
   clear H
   have H := H1
   clear H1
   have H' := aA.mk H
   clear H
   obtain ⟨hcz11_0, hcz11_1, hcz11_2, hcz11_3, hcz11_4⟩ := cs5 BK314.out
   obtain ⟨hfz11_0, hfz11_1, hfz11_2, hfz11_3, hfz11_4⟩ := fs5 BK314.out
   go_wp2_with (first | ((with_reducible refine bD (f := 86) rfl ?_); refine bL (some 5) rfl rfl Try.func86 (by kernel_rfl) rfl #[.int .i64 a0_0, .int .i64 0, .int .i64 15] rfl (by (try simp only [List.map_toArray, List.map_cons, List.map_nil]); first | done | rfl) ?_; (with_reducible refine (impl_within.calls a0_0 0 15 false _ A4.out).mono ?_); rintro e w' ⟨rfl, ⟨nd, rfl⟩⟩; refine ⟨_, rfl, ?_⟩))
   go_meet
   case rel => exact ⟨_, (true), (by first | rfl | (simp; done) | (simp [*]; done)), H', ⟨by first | omega | exact Nat.le_refl _⟩, ⟨by (with_reducible repeat (first | refine aM ?_ _ | refine aJ ?_ | refine aK ?_ _)); exact BK314.out⟩, ⟨by repeat (first | (with_reducible first | exact HB.out | apply aN | apply aE | apply aH | refine aC ?_ GE314.out) | exact HB.out)⟩⟩
 case rest =>
  clear HC2
  try clear p2
  try clear c5
  try clear c7
  try clear c8
  try clear c9
  try clear hcz10_0
  try clear hcz10_1
  try clear hcz10_2
  try clear hcz10_3
  try clear hcz10_4
  try clear hcz11_0
  try clear hcz11_1
  try clear hcz11_2
  try clear hcz11_3
  try clear hcz11_4
  try clear hcz9_0
  try clear hcz9_1
  try clear hcz9_2
  try clear hcz9_3
  try clear hcz9_4
  try clear hfz10_0
  try clear hfz10_1
  try clear hfz10_2
  try clear hfz10_3
  try clear hfz10_4
  try clear hfz11_0
  try clear hfz11_1
  try clear hfz11_2
  try clear hfz11_3
  try clear hfz11_4
  try clear hfz9_0
  try clear hfz9_1
  try clear hfz9_2
  try clear hfz9_3
  try clear hfz9_4
  obtain ⟨kq, x18_1, rfl, HA, HJ1, BK314, HB⟩ := hcut
  cases kq with
  | zero => exact absurd HA.out (by simp [impl_KeyOk.j0])
  | succ kj1 =>
   have H := HA.out
   clear HA
   simp only [impl_KeyOk.j0] at H
   by_cases c12 : x18_1 = true
   ·subst c12
    have H1 : (some false) = some r := by rw [if_pos rfl] at H; exact H
    clear H
    have H := H1
    clear H1
    obtain rfl := Option.some.inj H
    go_wp2
    go_ret
    exact ⟨by first | rfl | (simp [errW_none, errW_some] <;> rfl) | (simp [*, errW_none, errW_some] <;> rfl), by repeat (first | (with_reducible first | exact HB.out | apply aN | apply aE | apply aH | refine aC ?_ GE314.out) | exact HB.out)⟩
   ·replace c12 := Bool.eq_false_iff.mpr c12
    subst c12
    have H1 : (if a0_2 = 1 then ((impl_within.f a0_3 0 23).bind fun t318 => (if t318 = true then ((impl_within.f a0_4 0 999).bind fun t319 => (some t319)) else (some false))) else (if a0_3 = 0 then (some (a0_4 == 0)) else (some false))) = some r := by rw [if_neg (show ¬ (false = true) by decide)] at H; exact H
    clear H
    have H := H1
    clear H1
    by_cases c13 : a0_2 = 1
    ·rw [if_pos c13] at H
     have c13b0 : (a0_2 == 1) = true := beq_iff_eq.mpr c13
     have c13b1 : (a0_2 != 1) = false := bne_eq_false_iff_eq.mpr c13
     clear c13
     replace H := lF H
     obtain ⟨t318, A140, H⟩ := H
     replace H : (if t318 = true then ((impl_within.f a0_4 0 999).bind fun t319 => (some t319)) else (some false)) = some r := H
     have A14 := aA.mk A140
     clear A140
     by_cases c15 : t318 = true
     ·subst c15
      have H1 : ((impl_within.f a0_4 0 999).bind fun t319 => (some t319)) = some r := by rw [if_pos rfl] at H; exact H
      clear H
      have H := H1
      clear H1
      replace H := lF H
      obtain ⟨t319, A160, H⟩ := H
      replace H : (some t319) = some r := H
      have A16 := aA.mk A160
      clear A160
      obtain rfl := Option.some.inj H
      obtain ⟨hcz17_0, hcz17_1, hcz17_2, hcz17_3, hcz17_4⟩ := cs5 BK314.out
      obtain ⟨hfz17_0, hfz17_1, hfz17_2, hfz17_3, hfz17_4⟩ := fs5 BK314.out
      go_wp2_with (first | ((with_reducible refine bD (f := 86) rfl ?_); refine bL (some 32) rfl rfl Try.func86 (by kernel_rfl) rfl #[.int .i64 a0_3, .int .i64 0, .int .i64 23] rfl (by (try simp only [List.map_toArray, List.map_cons, List.map_nil]); first | done | rfl) ?_; (with_reducible refine (impl_within.calls a0_3 0 23 true _ A14.out).mono ?_); rintro e w' ⟨rfl, ⟨nd, rfl⟩⟩; refine ⟨_, rfl, ?_⟩) | (go_at_call 86; (with_reducible refine (impl_within.calls a0_4 0 999 t319 _ A16.out).mono ?_); rintro e w' ⟨rfl, ⟨nd, rfl⟩⟩))
      go_ret
      exact ⟨by first | rfl | (simp [errW_none, errW_some] <;> rfl) | (simp [*, errW_none, errW_some] <;> rfl), by repeat (first | (with_reducible first | exact HB.out | apply aN | apply aE | apply aH | refine aC ?_ GE314.out) | exact HB.out)⟩
     ·replace c15 := Bool.eq_false_iff.mpr c15
      subst c15
      have H1 : (some false) = some r := by rw [if_neg (show ¬ (false = true) by decide)] at H; exact H
      clear H
      have H := H1
      clear H1
      obtain rfl := Option.some.inj H
      obtain ⟨hcz18_0, hcz18_1, hcz18_2, hcz18_3, hcz18_4⟩ := cs5 BK314.out
      obtain ⟨hfz18_0, hfz18_1, hfz18_2, hfz18_3, hfz18_4⟩ := fs5 BK314.out
      go_wp2_with (first | ((with_reducible refine bD (f := 86) rfl ?_); refine bL (some 32) rfl rfl Try.func86 (by kernel_rfl) rfl #[.int .i64 a0_3, .int .i64 0, .int .i64 23] rfl (by (try simp only [List.map_toArray, List.map_cons, List.map_nil]); first | done | rfl) ?_; (with_reducible refine (impl_within.calls a0_3 0 23 false _ A14.out).mono ?_); rintro e w' ⟨rfl, ⟨nd, rfl⟩⟩; refine ⟨_, rfl, ?_⟩))
      go_ret
      exact ⟨by first | rfl | (simp [errW_none, errW_some] <;> rfl) | (simp [*, errW_none, errW_some] <;> rfl), by repeat (first | (with_reducible first | exact HB.out | apply aN | apply aE | apply aH | refine aC ?_ GE314.out) | exact HB.out)⟩
    ·rw [if_neg c13] at H
     have c13b0 : (a0_2 == 1) = false := beq_eq_false_iff_ne.mpr c13
     have c13b1 : (a0_2 != 1) = true := bne_iff_ne.mpr c13
     by_cases c19 : a0_3 = 0
     ·rw [if_pos c19] at H
      have c19b0 : (a0_3 == 0) = true := beq_iff_eq.mpr c19
      have c19b1 : (a0_3 != 0) = false := bne_eq_false_iff_eq.mpr c19
      clear c19
      obtain rfl := Option.some.inj H
      obtain ⟨hcz20_0, hcz20_1, hcz20_2, hcz20_3, hcz20_4⟩ := cs5 BK314.out
      obtain ⟨hfz20_0, hfz20_1, hfz20_2, hfz20_3, hfz20_4⟩ := fs5 BK314.out
      go_wp2
      go_ret
      exact ⟨by first | rfl | (simp [errW_none, errW_some] <;> rfl) | (simp [*, errW_none, errW_some] <;> rfl), by repeat (first | (with_reducible first | exact HB.out | apply aN | apply aE | apply aH | refine aC ?_ GE314.out) | exact HB.out)⟩
     ·rw [if_neg c19] at H
      have c19b0 : (a0_3 == 0) = false := beq_eq_false_iff_ne.mpr c19
      have c19b1 : (a0_3 != 0) = true := bne_iff_ne.mpr c19
      obtain rfl := Option.some.inj H
      obtain ⟨hcz21_0, hcz21_1, hcz21_2, hcz21_3, hcz21_4⟩ := cs5 BK314.out
      obtain ⟨hfz21_0, hfz21_1, hfz21_2, hfz21_3, hfz21_4⟩ := fs5 BK314.out
      go_wp2
      go_ret
      exact ⟨by first | rfl | (simp [errW_none, errW_some] <;> rfl) | (simp [*, errW_none, errW_some] <;> rfl), by repeat (first | (with_reducible first | exact HB.out | apply aN | apply aE | apply aH | refine aC ?_ GE314.out) | exact HB.out)⟩
def impl_LessKey.f (a0_0 : Int) (a0_1 : Int) (a0_2 : Int) (a0_3 : Int) (a0_4 : Int) (a1_0 : Int) (a1_1 : Int) (a1_2 : Int) (a1_3 : Int) (a1_4 : Int) : Option (Bool) := if a0_0 < a1_0 then (some true) else (if a0_0 = a1_0 then (some (decide (a0_1 < a1_1))) else (some false))
set_option maxHeartbeats 8000000 in
set_option maxRecDepth 100000 in
theorem impl_LessKey.calls (a0_0 : Int) (a0_1 : Int) (a0_2 : Int) (a0_3 : Int) (a0_4 : Int) (a1_0 : Int) (a1_1 : Int) (a1_2 : Int) (a1_3 : Int) (a1_4 : Int) (r : Bool) (w : World) (h : impl_LessKey.f a0_0 a0_1 a0_2 a0_3 a0_4 a1_0 a1_1 a1_2 a1_3 a1_4 = some r) :
  Calls Try.prog 92 #[.agg #[.int .i64 a0_0, .int .i64 a0_1, .int .i64 a0_2, .int .i64 a0_3, .int .i64 a0_4], .agg #[.int .i64 a1_0, .int .i64 a1_1, .int .i64 a1_2, .int .i64 a1_3, .int .i64 a1_4]] w fun e w' => e = .returned (.bool r) ∧ Below w.heap.size w w' := by
 have hu27 := Try.underlying27
 have HB := aA.mk (Below.refl w.heap.size w)
 have H : (if a0_0 < a1_0 then (some true) else (if a0_0 = a1_0 then (some (decide (a0_1 < a1_1))) else (some false))) = some r := h
 clear h
 by_cases c3 : a0_0 < a1_0
 ·rw [if_pos c3] at H
  have c3b0 : decide (a0_0 < a1_0) = true := decide_eq_true c3
  clear c3
  obtain rfl := Option.some.inj H
  go_enter Try.func92, Try.ntmps92
  go_wp2_with (first | ((with_reducible refine bA (N := 2) rfl ?_); refine bC ?hg (N := 2) ?hd (cs := #[.int .i64 a0_0, .int .i64 a0_1, .int .i64 a0_2, .int .i64 a0_3, .int .i64 a0_4]) (t := 27) ?hr ?_; (case hd => rfl); (case hg => rfl); (case hr => first | (go_simp; done) | (go_simp; rfl)); intro gb320 hg w4 hbox hb; have BK320 := aA.mk (hbox); have GW320 := aA.mk ((by rw [hg]; exact (aQ HB.out) : w.heap.size ≤ gb320)); have GE320 := aA.mk ((by rw [hg]; exact (aQ HB.out) : w.heap.size ≤ gb320)); replace HB := aA.mk (aT HB.out hb); clear hb hbox hg) | ((with_reducible refine bA (N := 3) rfl ?_); refine bC ?hg (N := 3) ?hd (cs := #[.int .i64 a1_0, .int .i64 a1_1, .int .i64 a1_2, .int .i64 a1_3, .int .i64 a1_4]) (t := 27) ?hr ?_; (case hd => rfl); (case hg => rfl); (case hr => first | (go_simp; done) | (go_simp; rfl)); intro gb321 hg w5 hbox hb; have BK321 := aA.mk (hbox); have GW321 := aA.mk ((by rw [hg]; exact (aQ HB.out) : w.heap.size ≤ gb321)); have GE321 := aA.mk ((by rw [hg]; exact (aQ HB.out) : w.heap.size ≤ gb321)); replace HB := aA.mk (aT HB.out hb); have NB320_321 := aA.mk ((by rw [hg]; exact Nat.ne_of_lt (aY (g := gb320) (o := .cells #[.int .i64 a0_0, .int .i64 a0_1, .int .i64 a0_2, .int .i64 a0_3, .int .i64 a0_4] 27 (0, 0)) BK320.out) : gb320 ≠ gb321)); have NB321_320 := aA.mk ((by rw [hg]; exact Nat.ne_of_gt (aY (g := gb320) (o := .cells #[.int .i64 a0_0, .int .i64 a0_1, .int .i64 a0_2, .int .i64 a0_3, .int .i64 a0_4] 27 (0, 0)) BK320.out) : gb321 ≠ gb320)); replace BK320 := aA.mk (aG (g := gb320) (o := .cells #[.int .i64 a0_0, .int .i64 a0_1, .int .i64 a0_2, .int .i64 a0_3, .int .i64 a0_4] 27 (0, 0)) BK320.out hb); clear hb hbox hg; have hnb6 := NB320_321.out; have hnc6 := NB321_320.out; obtain ⟨hcz7_0, hcz7_1, hcz7_2, hcz7_3, hcz7_4⟩ := cs5 BK320.out; obtain ⟨hfz7_0, hfz7_1, hfz7_2, hfz7_3, hfz7_4⟩ := fs5 BK320.out; obtain ⟨hcz8_0, hcz8_1, hcz8_2, hcz8_3, hcz8_4⟩ := cs5 BK321.out; obtain ⟨hfz8_0, hfz8_1, hfz8_2, hfz8_3, hfz8_4⟩ := fs5 BK321.out))
  go_ret
  exact ⟨by first | rfl | (simp [errW_none, errW_some] <;> rfl) | (simp [*, errW_none, errW_some] <;> rfl), by repeat (first | (with_reducible first | exact HB.out | apply aN | apply aE | apply aH | refine aC ?_ GE320.out | refine aC ?_ GE321.out) | exact HB.out)⟩
 ·rw [if_neg c3] at H
  have c3b0 : decide (a0_0 < a1_0) = false := decide_eq_false c3
  clear c3
  by_cases c9 : a0_0 = a1_0
  ·rw [if_pos c9] at H
   have c9b0 : (a0_0 == a1_0) = true := beq_iff_eq.mpr c9
   have c9b1 : (a0_0 != a1_0) = false := bne_eq_false_iff_eq.mpr c9
   clear c9
   obtain rfl := Option.some.inj H
   go_enter Try.func92, Try.ntmps92
   go_wp2_with (first | ((with_reducible refine bA (N := 2) rfl ?_); refine bC ?hg (N := 2) ?hd (cs := #[.int .i64 a0_0, .int .i64 a0_1, .int .i64 a0_2, .int .i64 a0_3, .int .i64 a0_4]) (t := 27) ?hr ?_; (case hd => rfl); (case hg => rfl); (case hr => first | (go_simp; done) | (go_simp; rfl)); intro gb320 hg w10 hbox hb; have BK320 := aA.mk (hbox); have GW320 := aA.mk ((by rw [hg]; exact (aQ HB.out) : w.heap.size ≤ gb320)); have GE320 := aA.mk ((by rw [hg]; exact (aQ HB.out) : w.heap.size ≤ gb320)); replace HB := aA.mk (aT HB.out hb); clear hb hbox hg) | ((with_reducible refine bA (N := 3) rfl ?_); refine bC ?hg (N := 3) ?hd (cs := #[.int .i64 a1_0, .int .i64 a1_1, .int .i64 a1_2, .int .i64 a1_3, .int .i64 a1_4]) (t := 27) ?hr ?_; (case hd => rfl); (case hg => rfl); (case hr => first | (go_simp; done) | (go_simp; rfl)); intro gb321 hg w11 hbox hb; have BK321 := aA.mk (hbox); have GW321 := aA.mk ((by rw [hg]; exact (aQ HB.out) : w.heap.size ≤ gb321)); have GE321 := aA.mk ((by rw [hg]; exact (aQ HB.out) : w.heap.size ≤ gb321)); replace HB := aA.mk (aT HB.out hb); have NB320_321 := aA.mk ((by rw [hg]; exact Nat.ne_of_lt (aY (g := gb320) (o := .cells #[.int .i64 a0_0, .int .i64 a0_1, .int .i64 a0_2, .int .i64 a0_3, .int .i64 a0_4] 27 (0, 0)) BK320.out) : gb320 ≠ gb321)); have NB321_320 := aA.mk ((by rw [hg]; exact Nat.ne_of_gt (aY (g := gb320) (o := .cells #[.int .i64 a0_0, .int .i64 a0_1, .int .i64 a0_2, .int .i64 a0_3, .int .i64 a0_4] 27 (0, 0)) BK320.out) : gb321 ≠ gb320)); replace BK320 := aA.mk (aG (g := gb320) (o := .cells #[.int .i64 a0_0, .int .i64 a0_1, .int .i64 a0_2, .int .i64 a0_3, .int .i64 a0_4] 27 (0, 0)) BK320.out hb); clear hb hbox hg; have hnb12 := NB320_321.out; have hnc12 := NB321_320.out; obtain ⟨hcz13_0, hcz13_1, hcz13_2, hcz13_3, hcz13_4⟩ := cs5 BK320.out; obtain ⟨hfz13_0, hfz13_1, hfz13_2, hfz13_3, hfz13_4⟩ := fs5 BK320.out; obtain ⟨hcz14_0, hcz14_1, hcz14_2, hcz14_3, hcz14_4⟩ := cs5 BK321.out; obtain ⟨hfz14_0, hfz14_1, hfz14_2, hfz14_3, hfz14_4⟩ := fs5 BK321.out))
   go_ret
   exact ⟨by first | rfl | (simp [errW_none, errW_some] <;> rfl) | (simp [*, errW_none, errW_some] <;> rfl), by repeat (first | (with_reducible first | exact HB.out | apply aN | apply aE | apply aH | refine aC ?_ GE320.out | refine aC ?_ GE321.out) | exact HB.out)⟩
  ·rw [if_neg c9] at H
   have c9b0 : (a0_0 == a1_0) = false := beq_eq_false_iff_ne.mpr c9
   have c9b1 : (a0_0 != a1_0) = true := bne_iff_ne.mpr c9
   obtain rfl := Option.some.inj H
   go_enter Try.func92, Try.ntmps92
   go_wp2_with (first | ((with_reducible refine bA (N := 2) rfl ?_); refine bC ?hg (N := 2) ?hd (cs := #[.int .i64 a0_0, .int .i64 a0_1, .int .i64 a0_2, .int .i64 a0_3, .int .i64 a0_4]) (t := 27) ?hr ?_; (case hd => rfl); (case hg => rfl); (case hr => first | (go_simp; done) | (go_simp; rfl)); intro gb320 hg w15 hbox hb; have BK320 := aA.mk (hbox); have GW320 := aA.mk ((by rw [hg]; exact (aQ HB.out) : w.heap.size ≤ gb320)); have GE320 := aA.mk ((by rw [hg]; exact (aQ HB.out) : w.heap.size ≤ gb320)); replace HB := aA.mk (aT HB.out hb); clear hb hbox hg) | ((with_reducible refine bA (N := 3) rfl ?_); refine bC ?hg (N := 3) ?hd (cs := #[.int .i64 a1_0, .int .i64 a1_1, .int .i64 a1_2, .int .i64 a1_3, .int .i64 a1_4]) (t := 27) ?hr ?_; (case hd => rfl); (case hg => rfl); (case hr => first | (go_simp; done) | (go_simp; rfl)); intro gb321 hg w16 hbox hb; have BK321 := aA.mk (hbox); have GW321 := aA.mk ((by rw [hg]; exact (aQ HB.out) : w.heap.size ≤ gb321)); have GE321 := aA.mk ((by rw [hg]; exact (aQ HB.out) : w.heap.size ≤ gb321)); replace HB := aA.mk (aT HB.out hb); have NB320_321 := aA.mk ((by rw [hg]; exact Nat.ne_of_lt (aY (g := gb320) (o := .cells #[.int .i64 a0_0, .int .i64 a0_1, .int .i64 a0_2, .int .i64 a0_3, .int .i64 a0_4] 27 (0, 0)) BK320.out) : gb320 ≠ gb321)); have NB321_320 := aA.mk ((by rw [hg]; exact Nat.ne_of_gt (aY (g := gb320) (o := .cells #[.int .i64 a0_0, .int .i64 a0_1, .int .i64 a0_2, .int .i64 a0_3, .int .i64 a0_4] 27 (0, 0)) BK320.out) : gb321 ≠ gb320)); replace BK320 := aA.mk (aG (g := gb320) (o := .cells #[.int .i64 a0_0, .int .i64 a0_1, .int .i64 a0_2, .int .i64 a0_3, .int .i64 a0_4] 27 (0, 0)) BK320.out hb); clear hb hbox hg; have hnb17 := NB320_321.out; have hnc17 := NB321_320.out; obtain ⟨hcz18_0, hcz18_1, hcz18_2, hcz18_3, hcz18_4⟩ := cs5 BK320.out; obtain ⟨hfz18_0, hfz18_1, hfz18_2, hfz18_3, hfz18_4⟩ := fs5 BK320.out; obtain ⟨hcz19_0, hcz19_1, hcz19_2, hcz19_3, hcz19_4⟩ := cs5 BK321.out; obtain ⟨hfz19_0, hfz19_1, hfz19_2, hfz19_3, hfz19_4⟩ := fs5 BK321.out))
   go_ret
   exact ⟨by first | rfl | (simp [errW_none, errW_some] <;> rfl) | (simp [*, errW_none, errW_some] <;> rfl), by repeat (first | (with_reducible first | exact HB.out | apply aN | apply aE | apply aH | refine aC ?_ GE320.out | refine aC ?_ GE321.out) | exact HB.out)⟩
end Go.Proofs.Ythpfihklkcnckaa.PFnExactNodePut

namespace Go.Proofs.Ythpfihklkcnckaa.PFnExactNodePut
open Go.RowKit Go.Proofs.YthpfihklkcnckaaW.PrintWords Go.Proofs.YthpfihklkcnckaaW.PrintLast Go.Proofs.YthpfihklkcnckaaW.PrintMore
attribute [local go_sem] max2_int min2_int max_two min_two max_three min_three max_four min_four   -- for this text's walks alone
set_option linter.unusedVariables false
set_option linter.unusedSimpArgs false
def impl_SetOk.l0 : Nat → List (S27) → List (S27) → Int → Int → Option (Bool)
 | 0, _, _, _, _ => none
 | k + 1, x0, x5, x6, x7 => if x7 < x6 then (if 0 ≤ x7 then (if x7 < (x5.length : Int) then ((impl_KeyOk.f k ((rd_T27 x5 x7).f0) ((rd_T27 x5 x7).f1) ((rd_T27 x5 x7).f2) ((rd_T27 x5 x7).f3) ((rd_T27 x5 x7).f4)).bind fun t324 => (if t324 = true then (if x7 > 0 then (if 0 ≤ (wrap64 (x7 - 1)) then (if (wrap64 (x7 - 1)) < (x0.length : Int) then ((impl_LessKey.f ((rd_T27 x0 (wrap64 (x7 - 1))).f0) ((rd_T27 x0 (wrap64 (x7 - 1))).f1) ((rd_T27 x0 (wrap64 (x7 - 1))).f2) ((rd_T27 x0 (wrap64 (x7 - 1))).f3) ((rd_T27 x0 (wrap64 (x7 - 1))).f4) ((rd_T27 x5 x7).f0) ((rd_T27 x5 x7).f1) ((rd_T27 x5 x7).f2) ((rd_T27 x5 x7).f3) ((rd_T27 x5 x7).f4)).bind fun t326 => (if t326 = true then (impl_SetOk.l0 k x0 x5 x6 (wrap64 (x7 + 1))) else (some false))) else (none)) else (none)) else (impl_SetOk.l0 k x0 x5 x6 (wrap64 (x7 + 1)))) else (some false))) else (none)) else (none)) else (some (decide ((x0.length : Int) ≤ 60)))
def impl_SetOk.f (k : Nat) (l0 : List (S27)) : Option (Bool) := impl_SetOk.l0 k l0 l0 (l0.length : Int) 0
def impl_SetOk.T4 : Bool × List (List Nat × List Nat) := (true, [([], []), ([0], [0]), ([1], [1]), ([2, 1], [2]), ([3], [3]), ([4, 3], [3, 4]), ([5, 3, 3], [3, 5]), ([6], [6]), ([6], [6]), ([8, 6], [6, 8]), ([7, 9, 6], [6, 7, 9]), ([10, 6], [6, 10]), ([6], [6]), ([11, 12, 6, 6], [6, 11, 12]), ([13, 6], [6, 13]), ([6, 14, 3], [3, 6, 14]), ([3, 15], [3, 15])])
def impl_SetOk.B4 : List Nat := [0, 1, 3, 7, 15, 31, 63, 127, 127, 383, 1023, 2047, 127, 8191, 16383, 32767, 65535]
theorem impl_SetOk.tab4 : rtab .any (opsOf Try.f63 4) = impl_SetOk.T4 := by kernel_rfl
theorem impl_SetOk.bits4 : waitsOk impl_SetOk.T4.2 impl_SetOk.B4 = true := by kernel_rfl
set_option maxHeartbeats 8000000 in
set_option maxRecDepth 100000 in
theorem impl_SetOk.calls (k : Nat) (A0 : Option Addr) (c0 : Nat) (l0 : List (S27)) (r : Bool) (w : World) (hr0 : Kd.C k27 w A0 l0.length l0) (hc0 : l0.length ≤ c0) (h : impl_SetOk.f k l0 = some r) :
  Calls Try.prog 63 #[.slice A0 l0.length c0] w fun e w' => e = .returned (.bool r) ∧ Below w.heap.size w w' := by
 have hu27 := Try.underlying27
 have HR0 := aA.mk hr0
 have HC0 := aA.mk hc0
 clear hr0 hc0
 have HB := aA.mk (Below.refl w.heap.size w)
 have H : (impl_SetOk.l0 k l0 l0 (l0.length : Int) 0) = some r := h
 clear h
 have H' := aA.mk H
 clear H
 go_enter Try.func63, Try.ntmps63
 go_wp2
 go_loopg [7] k (fun kq v7 w' => ∃ (x7_1 : Int), v7 = .int .i64 x7_1 ∧ aA (impl_SetOk.l0 kq l0 l0 (l0.length : Int) x7_1 = some r) ∧ aA (kq ≤ k) ∧ aA (Below w.heap.size w w'))
 case atStart => exact ⟨(0), (by first | rfl | (simp; done) | (simp [*]; done)), H', ⟨Nat.le_refl _⟩, ⟨by repeat (first | (with_reducible first | exact HB.out | apply aN | apply aE | apply aH) | exact HB.out)⟩⟩
 case round =>
  clear H'
  obtain ⟨x7_1, rfl, HA, HK1, HB⟩ := hrel
  cases gk with
  | zero => exact absurd HA.out (by simp [impl_SetOk.l0])
  | succ k1 =>
   have H := HA.out
   clear HA
   simp only [impl_SetOk.l0] at H
   by_cases c2 : x7_1 < (l0.length : Int)
   ·rw [if_pos c2] at H
    have c2b0 : decide (x7_1 < (l0.length : Int)) = true := decide_eq_true c2
    clear c2
    by_cases c3 : 0 ≤ x7_1
    ·rw [if_pos c3] at H
     have c3b0 : decide (0 ≤ x7_1) = true := decide_eq_true c3
     clear c3
     by_cases c4 : x7_1 < (l0.length : Int)
     ·rw [if_pos c4] at H
      have c4b0 : decide (x7_1 < (l0.length : Int)) = true := decide_eq_true c4
      clear c4
      replace H := lF H
      obtain ⟨t324, A50, H⟩ := H
      replace H : (if t324 = true then (if x7_1 > 0 then (if 0 ≤ (wrap64 (x7_1 - 1)) then (if (wrap64 (x7_1 - 1)) < (l0.length : Int) then ((impl_LessKey.f ((rd_T27 l0 (wrap64 (x7_1 - 1))).f0) ((rd_T27 l0 (wrap64 (x7_1 - 1))).f1) ((rd_T27 l0 (wrap64 (x7_1 - 1))).f2) ((rd_T27 l0 (wrap64 (x7_1 - 1))).f3) ((rd_T27 l0 (wrap64 (x7_1 - 1))).f4) ((rd_T27 l0 x7_1).f0) ((rd_T27 l0 x7_1).f1) ((rd_T27 l0 x7_1).f2) ((rd_T27 l0 x7_1).f3) ((rd_T27 l0 x7_1).f4)).bind fun t326 => (if t326 = true then (impl_SetOk.l0 k1 l0 l0 (l0.length : Int) (wrap64 (x7_1 + 1))) else (some false))) else (none)) else (none)) else (impl_SetOk.l0 k1 l0 l0 (l0.length : Int) (wrap64 (x7_1 + 1)))) else (some false)) = some r := H
      have A5 := aA.mk A50
      clear A50
      by_cases c6 : t324 = true
      ·subst c6
       have H1 : (if x7_1 > 0 then (if 0 ≤ (wrap64 (x7_1 - 1)) then (if (wrap64 (x7_1 - 1)) < (l0.length : Int) then ((impl_LessKey.f ((rd_T27 l0 (wrap64 (x7_1 - 1))).f0) ((rd_T27 l0 (wrap64 (x7_1 - 1))).f1) ((rd_T27 l0 (wrap64 (x7_1 - 1))).f2) ((rd_T27 l0 (wrap64 (x7_1 - 1))).f3) ((rd_T27 l0 (wrap64 (x7_1 - 1))).f4) ((rd_T27 l0 x7_1).f0) ((rd_T27 l0 x7_1).f1) ((rd_T27 l0 x7_1).f2) ((rd_T27 l0 x7_1).f3) ((rd_T27 l0 x7_1).f4)).bind fun t326 => (if t326 = true then (impl_SetOk.l0 k1 l0 l0 (l0.length : Int) (wrap64 (x7_1 + 1))) else (some false))) else (none)) else (none)) else (impl_SetOk.l0 k1 l0 l0 (l0.length : Int) (wrap64 (x7_1 + 1)))) = some r := by rw [if_pos rfl] at H; exact H
       clear H
       have H := H1
       clear H1
       by_cases c7 : x7_1 > 0
       ·rw [if_pos c7] at H
        have c7b0 : decide (0 < x7_1) = true := decide_eq_true c7
        clear c7
        obtain ⟨ji8, hji8⟩ : ∃ j_ : Int, (wrap64 (x7_1 - 1)) = j_ := ⟨_, rfl⟩
        replace H : (if 0 ≤ (ji8) then (if (ji8) < (l0.length : Int) then ((impl_LessKey.f ((rd_T27 l0 (ji8)).f0) ((rd_T27 l0 (ji8)).f1) ((rd_T27 l0 (ji8)).f2) ((rd_T27 l0 (ji8)).f3) ((rd_T27 l0 (ji8)).f4) ((rd_T27 l0 x7_1).f0) ((rd_T27 l0 x7_1).f1) ((rd_T27 l0 x7_1).f2) ((rd_T27 l0 x7_1).f3) ((rd_T27 l0 x7_1).f4)).bind fun t326 => (if t326 = true then (impl_SetOk.l0 k1 l0 l0 (l0.length : Int) (wrap64 (x7_1 + 1))) else (some false))) else (none)) else (none)) = some r := by first | (rw [hji8] at H; exact H) | (simp only [hji8] at H ⊢; exact H)
        (try rw [hji8] at A5)
        have hji8w : (IntKind.i64.wrap (x7_1 - 1)) = ji8 := (aU _).trans hji8
        by_cases c9 : 0 ≤ (ji8)
        ·rw [if_pos c9] at H
         have c9b0 : decide (0 ≤ (ji8)) = true := decide_eq_true c9
         clear c9
         by_cases c10 : (ji8) < (l0.length : Int)
         ·rw [if_pos c10] at H
          have c10b0 : decide ((ji8) < (l0.length : Int)) = true := decide_eq_true c10
          clear c10
          replace H := lF H
          obtain ⟨t326, A110, H⟩ := H
          replace H : (if t326 = true then (impl_SetOk.l0 k1 l0 l0 (l0.length : Int) (wrap64 (x7_1 + 1))) else (some false)) = some r := H
          have A11 := aA.mk A110
          clear A110
          by_cases c12 : t326 = true
          ·subst c12
           have H1 : (impl_SetOk.l0 k1 l0 l0 (l0.length : Int) (wrap64 (x7_1 + 1))) = some r := by rw [if_pos rfl] at H; exact H
           clear H
           have H := H1
           clear H1
           have H' := aA.mk H
           clear H
           have p322 : 0 ≤ (x7_1 : Int) := lE (by assumption)
           have q322 : x7_1 < (l0.length : Int) := lE (by assumption)
           obtain ⟨ad322, e322, hx322_0, hx322_1, hx322_2, hx322_3, hx322_4⟩ := at_T27 HR0.out x7_1 p322 q322
           cases e322
           replace hx322_0 := (HB.out.cell (lD w _ hx322_0)).trans hx322_0
           replace hx322_1 := (HB.out.cell (lD w _ hx322_1)).trans hx322_1
           replace hx322_2 := (HB.out.cell (lD w _ hx322_2)).trans hx322_2
           replace hx322_3 := (HB.out.cell (lD w _ hx322_3)).trans hx322_3
           replace hx322_4 := (HB.out.cell (lD w _ hx322_4)).trans hx322_4
           replace p322 := eq_true p322
           replace q322 := eq_true q322
           try go_wp2_with (first | ((with_reducible refine bA (N := 4) rfl ?_); refine bC ?hg (N := 4) ?hd (cs := #[.int .i64 0, .int .i64 0, .int .i64 0, .int .i64 0, .int .i64 0]) (t := 27) ?hr ?_; (case hd => rfl); (case hg => rfl); (case hr => first | (go_simp; done) | (go_simp; rfl)); intro gb323 hg w13 hbox hb; have BK323 := aA.mk (hbox); have GW323 := aA.mk ((by rw [hg]; exact (aQ HB.out) : w.heap.size ≤ gb323)); have GE323 := aA.mk ((by rw [hg]; exact (aQ HB.out) : w.heap.size ≤ gb323)); replace HB := aA.mk (aT HB.out hb); clear hb hbox hg; obtain ⟨hcz14_0, hcz14_1, hcz14_2, hcz14_3, hcz14_4⟩ := cs5 BK323.out; obtain ⟨hfz14_0, hfz14_1, hfz14_2, hfz14_3, hfz14_4⟩ := fs5 BK323.out))
           have n0_ : aA ((((((w13.setCell ⟨gb323, 0, none⟩ (.int .i64 ((rd_T27 l0 x7_1).f0))).setCell ⟨gb323, 1, none⟩ (.int .i64 ((rd_T27 l0 x7_1).f1))).setCell ⟨gb323, 2, none⟩ (.int .i64 ((rd_T27 l0 x7_1).f2))).setCell ⟨gb323, 3, none⟩ (.int .i64 ((rd_T27 l0 x7_1).f3))).setCell ⟨gb323, 4, none⟩ (.int .i64 ((rd_T27 l0 x7_1).f4))).heap[gb323]? = some (.cells #[.int .i64 ((rd_T27 l0 x7_1).f0), .int .i64 ((rd_T27 l0 x7_1).f1), .int .i64 ((rd_T27 l0 x7_1).f2), .int .i64 ((rd_T27 l0 x7_1).f3), .int .i64 ((rd_T27 l0 x7_1).f4)] 27 (0, 0))) := ⟨by (with_reducible repeat (first | refine aM ?_ _ | refine aJ ?_ | refine aK ?_ _)); refine bE (cs := #[.int .i64 ((rd_T27 l0 x7_1).f0), .int .i64 ((rd_T27 l0 x7_1).f1), .int .i64 ((rd_T27 l0 x7_1).f2), .int .i64 ((rd_T27 l0 x7_1).f3), .int .i64 0]) ?_ 4 _ rfl; (with_reducible repeat (first | refine aM ?_ _ | refine aJ ?_ | refine aK ?_ _)); refine bE (cs := #[.int .i64 ((rd_T27 l0 x7_1).f0), .int .i64 ((rd_T27 l0 x7_1).f1), .int .i64 ((rd_T27 l0 x7_1).f2), .int .i64 0, .int .i64 0]) ?_ 3 _ rfl; (with_reducible repeat (first | refine aM ?_ _ | refine aJ ?_ | refine aK ?_ _)); refine bE (cs := #[.int .i64 ((rd_T27 l0 x7_1).f0), .int .i64 ((rd_T27 l0 x7_1).f1), .int .i64 0, .int .i64 0, .int .i64 0]) ?_ 2 _ rfl; (with_reducible repeat (first | refine aM ?_ _ | refine aJ ?_ | refine aK ?_ _)); refine bE (cs := #[.int .i64 ((rd_T27 l0 x7_1).f0), .int .i64 0, .int .i64 0, .int .i64 0, .int .i64 0]) ?_ 1 _ rfl; (with_reducible repeat (first | refine aM ?_ _ | refine aJ ?_ | refine aK ?_ _)); refine bE (cs := #[.int .i64 0, .int .i64 0, .int .i64 0, .int .i64 0, .int .i64 0]) ?_ 0 _ rfl; (with_reducible repeat (first | refine aM ?_ _ | refine aJ ?_ | refine aK ?_ _)); exact BK323.out⟩
           have n1_ : aA (Below w.heap.size w (((((w13.setCell ⟨gb323, 0, none⟩ (.int .i64 ((rd_T27 l0 x7_1).f0))).setCell ⟨gb323, 1, none⟩ (.int .i64 ((rd_T27 l0 x7_1).f1))).setCell ⟨gb323, 2, none⟩ (.int .i64 ((rd_T27 l0 x7_1).f2))).setCell ⟨gb323, 3, none⟩ (.int .i64 ((rd_T27 l0 x7_1).f3))).setCell ⟨gb323, 4, none⟩ (.int .i64 ((rd_T27 l0 x7_1).f4)))) := ⟨by repeat (first | (with_reducible first | exact HB.out | apply aN | apply aE | apply aH | refine aC ?_ GE323.out) | exact HB.out)⟩
           (try clear BK323)
           (try clear HB)
           generalize (((((w13.setCell ⟨gb323, 0, none⟩ (.int .i64 ((rd_T27 l0 x7_1).f0))).setCell ⟨gb323, 1, none⟩ (.int .i64 ((rd_T27 l0 x7_1).f1))).setCell ⟨gb323, 2, none⟩ (.int .i64 ((rd_T27 l0 x7_1).f2))).setCell ⟨gb323, 3, none⟩ (.int .i64 ((rd_T27 l0 x7_1).f3))).setCell ⟨gb323, 4, none⟩ (.int .i64 ((rd_T27 l0 x7_1).f4))) = w15 at n0_ n1_ ⊢
           have BK323 := n0_
           have HB := n1_
           clear n0_ n1_
           replace BK323 := aA.mk (aJ BK323.out)
           replace HB := aA.mk (aH HB.out)
           have p325 : 0 ≤ ((ji8) : Int) := lE (by assumption)
           have q325 : (ji8) < (l0.length : Int) := lE (by assumption)
           obtain ⟨ad325, e325, hx325_0, hx325_1, hx325_2, hx325_3, hx325_4⟩ := at_T27 HR0.out (ji8) p325 q325
           have hw325_4 := hx325_4
           have hw325_3 := hx325_3
           have hw325_2 := hx325_2
           have hw325_1 := hx325_1
           have hw325_0 := hx325_0
           obtain rfl : ad322 = ad325 := (by injection e325)
           replace hx325_0 := (HB.out.cell (lD w _ hx325_0)).trans hx325_0
           replace hx325_1 := (HB.out.cell (lD w _ hx325_1)).trans hx325_1
           replace hx325_2 := (HB.out.cell (lD w _ hx325_2)).trans hx325_2
           replace hx325_3 := (HB.out.cell (lD w _ hx325_3)).trans hx325_3
           replace hx325_4 := (HB.out.cell (lD w _ hx325_4)).trans hx325_4
           replace p325 := eq_true p325
           replace q325 := eq_true q325
           refine start_ (n := 17) (S := fun w' => w'.cell? ⟨gb323, 0, none⟩ = some (.int .i64 ((rd_T27 l0 x7_1).f0)) ∧ w'.cell? ⟨gb323, 1, none⟩ = some (.int .i64 ((rd_T27 l0 x7_1).f1)) ∧ w'.cell? ⟨gb323, 2, none⟩ = some (.int .i64 ((rd_T27 l0 x7_1).f2)) ∧ w'.cell? ⟨gb323, 3, none⟩ = some (.int .i64 ((rd_T27 l0 x7_1).f3)) ∧ w'.cell? ⟨gb323, 4, none⟩ = some (.int .i64 ((rd_T27 l0 x7_1).f4)) ∧ w'.cell? (ad322.add (((ji8)).toNat * 5)) = some (.int .i64 ((rd_T27 l0 (ji8)).f0)) ∧ w'.cell? ⟨(ad322.add (((ji8)).toNat * 5)).block, (ad322.add (((ji8)).toNat * 5)).off + 1, none⟩ = some (.int .i64 ((rd_T27 l0 (ji8)).f1)) ∧ w'.cell? ⟨(ad322.add (((ji8)).toNat * 5)).block, (ad322.add (((ji8)).toNat * 5)).off + 2, none⟩ = some (.int .i64 ((rd_T27 l0 (ji8)).f2)) ∧ w'.cell? ⟨(ad322.add (((ji8)).toNat * 5)).block, (ad322.add (((ji8)).toNat * 5)).off + 3, none⟩ = some (.int .i64 ((rd_T27 l0 (ji8)).f3)) ∧ w'.cell? ⟨(ad322.add (((ji8)).toNat * 5)).block, (ad322.add (((ji8)).toNat * 5)).off + 4, none⟩ = some (.int .i64 ((rd_T27 l0 (ji8)).f4))) (ds := []) #[false, false, false, false, false, false, false, false, false, false, false, false, false, false, false, false, false] (by kernel_rfl) rfl rfl ⟨(aD BK323.out 0).trans rfl, (aD BK323.out 1).trans rfl, (aD BK323.out 2).trans rfl, (aD BK323.out 3).trans rfl, (aD BK323.out 4).trans rfl, ((HB.out.cell (lD w _ hw325_0)).trans hw325_0), ((HB.out.cell (lD w _ hw325_1)).trans hw325_1), ((HB.out.cell (lD w _ hw325_2)).trans hw325_2), ((HB.out.cell (lD w _ hw325_3)).trans hw325_3), ((HB.out.cell (lD w _ hw325_4)).trans hw325_4)⟩ (fun hHeld => ?_); refine with_tabW impl_SetOk.tab4 impl_SetOk.bits4 (fun HT_ HW_ => ?_)
           generalize w15.drew = w16 at BK323 HB hx325_0 hx325_1 hx325_2 hx325_3 hx325_4 hHeld ⊢
           refine take_ (i := 0) (N := some 12) (v := ?_) (a' := ?_) #[true, false, false, false, false, false, false, false, false, false, false, false, false, false, false, false, false] rfl rfl (bV HT_.out HW_.out (by kernel_rfl)) (fun _ _ _ h => h) (Or.inl ⟨by rfl, ?_⟩) hHeld ?_ ?_
           rotate_left
           ·rintro w' ⟨s0, s1, s2, s3, s4, s5, s6, s7, s8, s9⟩
            go_simp
            with_reducible rfl
           rotate_left
           ·simp only [Act.put, lA, lB, lC, aU, aV]
            rfl
           refine one_ (i := 1) (N := some 13) #[true, true, false, false, false, false, false, false, false, false, false, false, false, false, false, false, false] rfl rfl (one_of HT_.out (by kernel_rfl)) (by decide) (fun K hK => ?_)
           refine goes_ Try.func91 (by kernel_rfl) rfl #[.agg #[.int .i64 ((rd_T27 l0 x7_1).f0), .int .i64 ((rd_T27 l0 x7_1).f1), .int .i64 ((rd_T27 l0 x7_1).f2), .int .i64 ((rd_T27 l0 x7_1).f3), .int .i64 ((rd_T27 l0 x7_1).f4)]] (by rfl) rfl rfl (by (try simp only [List.map_toArray, List.map_cons, List.map_nil]); first | done | rfl) ?_
           with_reducible refine (impl_KeyOk.calls k1 ((rd_T27 l0 x7_1).f0) ((rd_T27 l0 x7_1).f1) ((rd_T27 l0 x7_1).f2) ((rd_T27 l0 x7_1).f3) ((rd_T27 l0 x7_1).f4) true _ A5.out).mono ?_
           rintro e w17 ⟨rfl, hb⟩
           refine ⟨_, rfl, ?_⟩
           replace BK323 := aA.mk (aG (g := gb323) (o := .cells #[.int .i64 ((rd_T27 l0 x7_1).f0), .int .i64 ((rd_T27 l0 x7_1).f1), .int .i64 ((rd_T27 l0 x7_1).f2), .int .i64 ((rd_T27 l0 x7_1).f3), .int .i64 ((rd_T27 l0 x7_1).f4)] 27 (0, 0)) BK323.out hb)
           replace HB := aA.mk (aT HB.out hb)
           (try clear hb)
           (try clear hb2)
           (try clear hk)
           (try clear hi)
           refine hK.out _ _ ⟨(aD BK323.out 0).trans rfl, (aD BK323.out 1).trans rfl, (aD BK323.out 2).trans rfl, (aD BK323.out 3).trans rfl, (aD BK323.out 4).trans rfl, ((HB.out.cell (lD w _ hw325_0)).trans hw325_0), ((HB.out.cell (lD w _ hw325_1)).trans hw325_1), ((HB.out.cell (lD w _ hw325_2)).trans hw325_2), ((HB.out.cell (lD w _ hw325_3)).trans hw325_3), ((HB.out.cell (lD w _ hw325_4)).trans hw325_4)⟩ (fun hHeld => ?_)
           clear hK K
           refine bJ (a' := ?_) ?_ ?_
           rotate_left
           ·show Act.put _ (some 13) _ = _
            simp only [Act.put, lA, lB, lC, aU, aV]
            rfl
           refine aW (i := 2) (N := some 14) (v := ?_) (a' := ?_) #[true, true, true, false, false, false, false, false, false, false, false, false, false, false, false, false, false] rfl rfl (aZ HT_.out (by kernel_rfl)) (fun _ _ _ h => h) (Or.inl ⟨by rfl, ?_⟩) ?_ ?_
           rotate_left
           ·intro w'
            go_simp
            with_reducible rfl
           rotate_left
           ·simp only [Act.put, lA, lB, lC, aU, aV]
            rfl
           refine aW (i := 3) (N := some 15) (v := ?_) (a' := ?_) #[true, true, true, true, false, false, false, false, false, false, false, false, false, false, false, false, false] rfl rfl (aZ HT_.out (by kernel_rfl)) (fun _ _ _ h => h) (Or.inl ⟨by rfl, ?_⟩) ?_ ?_
           rotate_left
           ·intro w'
            go_simp
            with_reducible rfl
           rotate_left
           ·simp only [Act.put, lA, lB, lC, aU, aV]
            rfl
           refine aW (i := 4) (N := some 16) (v := ?_) (a' := ?_) #[true, true, true, true, true, false, false, false, false, false, false, false, false, false, false, false, false] rfl rfl (aZ HT_.out (by kernel_rfl)) (fun _ _ _ h => h) (Or.inl ⟨by rfl, ?_⟩) ?_ ?_
           rotate_left
           ·intro w'
            go_simp
            with_reducible rfl
           rotate_left
           ·simp only [Act.put, lA, lB, lC, aU, aV]
            rfl
           refine aW (i := 5) (N := some 17) (v := ?_) (a' := ?_) #[true, true, true, true, true, true, false, false, false, false, false, false, false, false, false, false, false] rfl rfl (aZ HT_.out (by kernel_rfl)) (fun _ _ _ h => h) (Or.inl ⟨by rfl, ?_⟩) ?_ ?_
           rotate_left
           ·intro w'
            go_simp
            with_reducible rfl
           rotate_left
           ·simp only [Act.put, lA, lB, lC, aU, aV]
            rfl
           refine aW (i := 6) (N := some 18) (v := ?_) (a' := ?_) #[true, true, true, true, true, true, true, false, false, false, false, false, false, false, false, false, false] rfl rfl (aZ HT_.out (by kernel_rfl)) (fun _ _ _ h => h) (Or.inl ⟨by rfl, ?_⟩) ?_ ?_
           rotate_left
           ·intro w'
            go_simp
            with_reducible rfl
           rotate_left
           ·simp only [Act.put, lA, lB, lC, aU, aV]
            rfl
           refine aW (i := 7) (N := some 19) (v := ?_) (a' := ?_) #[true, true, true, true, true, true, true, true, false, false, false, false, false, false, false, false, false] rfl rfl (aZ HT_.out (by kernel_rfl)) (fun _ _ _ h => h) (Or.inl ⟨by rfl, ?_⟩) ?_ ?_
           rotate_left
           ·intro w'
            go_simp
            with_reducible rfl
           rotate_left
           ·simp only [Act.put, lA, lB, lC, aU, aV]
            rfl
           refine aW (i := 8) (N := some 20) (v := ?_) (a' := ?_) #[true, true, true, true, true, true, true, true, true, false, false, false, false, false, false, false, false] rfl rfl (aZ HT_.out (by kernel_rfl)) (fun _ _ _ h => h) (Or.inl ⟨by rfl, ?_⟩) ?_ ?_
           rotate_left
           ·intro w'
            go_simp
            with_reducible rfl
           rotate_left
           ·simp only [Act.put, lA, lB, lC, aU, aV]
            rfl
           refine aW (i := 9) (N := some 21) (v := ?_) (a' := ?_) #[true, true, true, true, true, true, true, true, true, true, false, false, false, false, false, false, false] rfl rfl (aZ HT_.out (by kernel_rfl)) (fun _ _ _ h => h) (Or.inl ⟨by rfl, ?_⟩) ?_ ?_
           rotate_left
           ·intro w'
            go_simp
            with_reducible rfl
           rotate_left
           ·simp only [Act.put, lA, lB, lC, aU, aV]
            rfl
           refine aW (i := 10) (N := some 22) (v := ?_) (a' := ?_) #[true, true, true, true, true, true, true, true, true, true, true, false, false, false, false, false, false] rfl rfl (aZ HT_.out (by kernel_rfl)) (fun _ _ _ h => h) (Or.inl ⟨by rfl, ?_⟩) ?_ ?_
           rotate_left
           ·intro w'
            go_simp
            with_reducible rfl
           rotate_left
           ·simp only [Act.put, lA, lB, lC, aU, aV]
            rfl
           refine take_ (i := 11) (N := some 23) (v := ?_) (a' := ?_) #[true, true, true, true, true, true, true, true, true, true, true, true, false, false, false, false, false] rfl rfl (bV HT_.out HW_.out (by kernel_rfl)) (fun _ _ _ h => h) (Or.inl ⟨by rfl, ?_⟩) hHeld ?_ ?_
           rotate_left
           ·rintro w' ⟨s0, s1, s2, s3, s4, s5, s6, s7, s8, s9⟩
            go_simp
            with_reducible rfl
           rotate_left
           ·simp only [Act.put, lA, lB, lC, aU, aV]
            rfl
           refine take_ (i := 12) (N := some 24) (v := ?_) (a' := ?_) #[true, true, true, true, true, true, true, true, true, true, true, true, true, false, false, false, false] rfl rfl (bV HT_.out HW_.out (by kernel_rfl)) (fun _ _ _ h => h) (Or.inl ⟨by rfl, ?_⟩) hHeld ?_ ?_
           rotate_left
           ·rintro w' ⟨s0, s1, s2, s3, s4, s5, s6, s7, s8, s9⟩
            go_simp
            with_reducible rfl
           rotate_left
           ·simp only [Act.put, lA, lB, lC, aU, aV]
            rfl
           refine one_ (i := 13) (N := some 25) #[true, true, true, true, true, true, true, true, true, true, true, true, true, true, false, false, false] rfl rfl (one_of HT_.out (by kernel_rfl)) (by decide) (fun K hK => ?_)
           refine goes_ Try.func92 (by kernel_rfl) rfl #[.agg #[.int .i64 ((rd_T27 l0 (ji8)).f0), .int .i64 ((rd_T27 l0 (ji8)).f1), .int .i64 ((rd_T27 l0 (ji8)).f2), .int .i64 ((rd_T27 l0 (ji8)).f3), .int .i64 ((rd_T27 l0 (ji8)).f4)], .agg #[.int .i64 ((rd_T27 l0 x7_1).f0), .int .i64 ((rd_T27 l0 x7_1).f1), .int .i64 ((rd_T27 l0 x7_1).f2), .int .i64 ((rd_T27 l0 x7_1).f3), .int .i64 ((rd_T27 l0 x7_1).f4)]] (by rfl) rfl rfl (by (try simp only [List.map_toArray, List.map_cons, List.map_nil]); first | done | (simp only [hji8]; rfl) | rfl | (simp only [List.length_drop, List.length_take]; rfl)) ?_
           with_reducible refine (impl_LessKey.calls ((rd_T27 l0 (ji8)).f0) ((rd_T27 l0 (ji8)).f1) ((rd_T27 l0 (ji8)).f2) ((rd_T27 l0 (ji8)).f3) ((rd_T27 l0 (ji8)).f4) ((rd_T27 l0 x7_1).f0) ((rd_T27 l0 x7_1).f1) ((rd_T27 l0 x7_1).f2) ((rd_T27 l0 x7_1).f3) ((rd_T27 l0 x7_1).f4) true _ A11.out).mono ?_
           rintro e w18 ⟨rfl, hb⟩
           refine ⟨_, rfl, ?_⟩
           replace BK323 := aA.mk (aG (g := gb323) (o := .cells #[.int .i64 ((rd_T27 l0 x7_1).f0), .int .i64 ((rd_T27 l0 x7_1).f1), .int .i64 ((rd_T27 l0 x7_1).f2), .int .i64 ((rd_T27 l0 x7_1).f3), .int .i64 ((rd_T27 l0 x7_1).f4)] 27 (0, 0)) BK323.out hb)
           replace HB := aA.mk (aT HB.out hb)
           (try clear hb)
           (try clear hb2)
           (try clear hk)
           (try clear hi)
           refine hK.out _ _ ⟨(aD BK323.out 0).trans rfl, (aD BK323.out 1).trans rfl, (aD BK323.out 2).trans rfl, (aD BK323.out 3).trans rfl, (aD BK323.out 4).trans rfl, ((HB.out.cell (lD w _ hw325_0)).trans hw325_0), ((HB.out.cell (lD w _ hw325_1)).trans hw325_1), ((HB.out.cell (lD w _ hw325_2)).trans hw325_2), ((HB.out.cell (lD w _ hw325_3)).trans hw325_3), ((HB.out.cell (lD w _ hw325_4)).trans hw325_4)⟩ (fun hHeld => ?_)
           clear hK K
           refine bJ (a' := ?_) ?_ ?_
           rotate_left
           ·show Act.put _ (some 25) _ = _
            simp only [Act.put, lA, lB, lC, aU, aV]
            rfl
           refine aW (i := 14) (N := some 26) (v := ?_) (a' := ?_) #[true, true, true, true, true, true, true, true, true, true, true, true, true, true, true, false, false] rfl rfl (aZ HT_.out (by kernel_rfl)) (fun _ _ _ h => h) (Or.inl ⟨by rfl, ?_⟩) ?_ ?_
           rotate_left
           ·intro w'
            go_simp
            with_reducible rfl
           rotate_left
           ·simp only [Act.put, lA, lB, lC, aU, aV]
            rfl
           refine aW (i := 15) (N := some 27) (v := ?_) (a' := ?_) #[true, true, true, true, true, true, true, true, true, true, true, true, true, true, true, true, false] rfl rfl (aZ HT_.out (by kernel_rfl)) (fun _ _ _ h => h) (Or.inl ⟨by rfl, ?_⟩) ?_ ?_
           rotate_left
           ·intro w'
            go_simp
            with_reducible rfl
           rotate_left
           ·simp only [Act.put, lA, lB, lC, aU, aV]
            rfl
           refine aW (i := 16) (N := some 28) (v := ?_) (a' := ?_) #[true, true, true, true, true, true, true, true, true, true, true, true, true, true, true, true, true] rfl rfl (aZ HT_.out (by kernel_rfl)) (fun _ _ _ h => h) (Or.inl ⟨by rfl, ?_⟩) ?_ ?_
           rotate_left
           ·intro w'
            go_simp
            with_reducible rfl
           rotate_left
           ·simp only [Act.put, lA, lB, lC, aU, aV]
            rfl
           refine done_ (done_of HT_.out (by kernel_rfl)) ?_
           try go_wp2
           go_roundg k1
           case measure => have := HK1.out; omega
           case rel => exact ⟨(wrap64 (x7_1 + 1)), (by first | rfl | (simp; done) | (simp [*]; done)), H', ⟨by have := HK1.out; omega⟩, ⟨by repeat (first | (with_reducible first | exact HB.out | apply aN | apply aE | apply aH | refine aC ?_ GE323.out) | exact HB.out)⟩⟩
          ·replace c12 := Bool.eq_false_iff.mpr c12
           subst c12
           have H1 : (some false) = some r := by rw [if_neg (show ¬ (false = true) by decide)] at H; exact H
           clear H
           have H := H1
           clear H1
           obtain rfl := Option.some.inj H
           have p322 : 0 ≤ (x7_1 : Int) := lE (by assumption)
           have q322 : x7_1 < (l0.length : Int) := lE (by assumption)
           obtain ⟨ad322, e322, hx322_0, hx322_1, hx322_2, hx322_3, hx322_4⟩ := at_T27 HR0.out x7_1 p322 q322
           cases e322
           replace hx322_0 := (HB.out.cell (lD w _ hx322_0)).trans hx322_0
           replace hx322_1 := (HB.out.cell (lD w _ hx322_1)).trans hx322_1
           replace hx322_2 := (HB.out.cell (lD w _ hx322_2)).trans hx322_2
           replace hx322_3 := (HB.out.cell (lD w _ hx322_3)).trans hx322_3
           replace hx322_4 := (HB.out.cell (lD w _ hx322_4)).trans hx322_4
           replace p322 := eq_true p322
           replace q322 := eq_true q322
           try go_wp2_with (first | ((with_reducible refine bA (N := 4) rfl ?_); refine bC ?hg (N := 4) ?hd (cs := #[.int .i64 0, .int .i64 0, .int .i64 0, .int .i64 0, .int .i64 0]) (t := 27) ?hr ?_; (case hd => rfl); (case hg => rfl); (case hr => first | (go_simp; done) | (go_simp; rfl)); intro gb323 hg w19 hbox hb; have BK323 := aA.mk (hbox); have GW323 := aA.mk ((by rw [hg]; exact (aQ HB.out) : w.heap.size ≤ gb323)); have GE323 := aA.mk ((by rw [hg]; exact (aQ HB.out) : w.heap.size ≤ gb323)); replace HB := aA.mk (aT HB.out hb); clear hb hbox hg; obtain ⟨hcz20_0, hcz20_1, hcz20_2, hcz20_3, hcz20_4⟩ := cs5 BK323.out; obtain ⟨hfz20_0, hfz20_1, hfz20_2, hfz20_3, hfz20_4⟩ := fs5 BK323.out))
           have n0_ : aA ((((((w19.setCell ⟨gb323, 0, none⟩ (.int .i64 ((rd_T27 l0 x7_1).f0))).setCell ⟨gb323, 1, none⟩ (.int .i64 ((rd_T27 l0 x7_1).f1))).setCell ⟨gb323, 2, none⟩ (.int .i64 ((rd_T27 l0 x7_1).f2))).setCell ⟨gb323, 3, none⟩ (.int .i64 ((rd_T27 l0 x7_1).f3))).setCell ⟨gb323, 4, none⟩ (.int .i64 ((rd_T27 l0 x7_1).f4))).heap[gb323]? = some (.cells #[.int .i64 ((rd_T27 l0 x7_1).f0), .int .i64 ((rd_T27 l0 x7_1).f1), .int .i64 ((rd_T27 l0 x7_1).f2), .int .i64 ((rd_T27 l0 x7_1).f3), .int .i64 ((rd_T27 l0 x7_1).f4)] 27 (0, 0))) := ⟨by (with_reducible repeat (first | refine aM ?_ _ | refine aJ ?_ | refine aK ?_ _)); refine bE (cs := #[.int .i64 ((rd_T27 l0 x7_1).f0), .int .i64 ((rd_T27 l0 x7_1).f1), .int .i64 ((rd_T27 l0 x7_1).f2), .int .i64 ((rd_T27 l0 x7_1).f3), .int .i64 0]) ?_ 4 _ rfl; (with_reducible repeat (first | refine aM ?_ _ | refine aJ ?_ | refine aK ?_ _)); refine bE (cs := #[.int .i64 ((rd_T27 l0 x7_1).f0), .int .i64 ((rd_T27 l0 x7_1).f1), .int .i64 ((rd_T27 l0 x7_1).f2), .int .i64 0, .int .i64 0]) ?_ 3 _ rfl; (with_reducible repeat (first | refine aM ?_ _ | refine aJ ?_ | refine aK ?_ _)); refine bE (cs := #[.int .i64 ((rd_T27 l0 x7_1).f0), .int .i64 ((rd_T27 l0 x7_1).f1), .int .i64 0, .int .i64 0, .int .i64 0]) ?_ 2 _ rfl; (with_reducible repeat (first | refine aM ?_ _ | refine aJ ?_ | refine aK ?_ _)); refine bE (cs := #[.int .i64 ((rd_T27 l0 x7_1).f0), .int .i64 0, .int .i64 0, .int .i64 0, .int .i64 0]) ?_ 1 _ rfl; (with_reducible repeat (first | refine aM ?_ _ | refine aJ ?_ | refine aK ?_ _)); refine bE (cs := #[.int .i64 0, .int .i64 0, .int .i64 0, .int .i64 0, .int .i64 0]) ?_ 0 _ rfl; (with_reducible repeat (first | refine aM ?_ _ | refine aJ ?_ | refine aK ?_ _)); exact BK323.out⟩
           have n1_ : aA (Below w.heap.size w (((((w19.setCell ⟨gb323, 0, none⟩ (.int .i64 ((rd_T27 l0 x7_1).f0))).setCell ⟨gb323, 1, none⟩ (.int .i64 ((rd_T27 l0 x7_1).f1))).setCell ⟨gb323, 2, none⟩ (.int .i64 ((rd_T27 l0 x7_1).f2))).setCell ⟨gb323, 3, none⟩ (.int .i64 ((rd_T27 l0 x7_1).f3))).setCell ⟨gb323, 4, none⟩ (.int .i64 ((rd_T27 l0 x7_1).f4)))) := ⟨by repeat (first | (with_reducible first | exact HB.out | apply aN | apply aE | apply aH | refine aC ?_ GE323.out) | exact HB.out)⟩
           (try clear BK323)
           (try clear HB)
           generalize (((((w19.setCell ⟨gb323, 0, none⟩ (.int .i64 ((rd_T27 l0 x7_1).f0))).setCell ⟨gb323, 1, none⟩ (.int .i64 ((rd_T27 l0 x7_1).f1))).setCell ⟨gb323, 2, none⟩ (.int .i64 ((rd_T27 l0 x7_1).f2))).setCell ⟨gb323, 3, none⟩ (.int .i64 ((rd_T27 l0 x7_1).f3))).setCell ⟨gb323, 4, none⟩ (.int .i64 ((rd_T27 l0 x7_1).f4))) = w21 at n0_ n1_ ⊢
           have BK323 := n0_
           have HB := n1_
           clear n0_ n1_
           replace BK323 := aA.mk (aJ BK323.out)
           replace HB := aA.mk (aH HB.out)
           have p325 : 0 ≤ ((ji8) : Int) := lE (by assumption)
           have q325 : (ji8) < (l0.length : Int) := lE (by assumption)
           obtain ⟨ad325, e325, hx325_0, hx325_1, hx325_2, hx325_3, hx325_4⟩ := at_T27 HR0.out (ji8) p325 q325
           have hw325_4 := hx325_4
           have hw325_3 := hx325_3
           have hw325_2 := hx325_2
           have hw325_1 := hx325_1
           have hw325_0 := hx325_0
           obtain rfl : ad322 = ad325 := (by injection e325)
           replace hx325_0 := (HB.out.cell (lD w _ hx325_0)).trans hx325_0
           replace hx325_1 := (HB.out.cell (lD w _ hx325_1)).trans hx325_1
           replace hx325_2 := (HB.out.cell (lD w _ hx325_2)).trans hx325_2
           replace hx325_3 := (HB.out.cell (lD w _ hx325_3)).trans hx325_3
           replace hx325_4 := (HB.out.cell (lD w _ hx325_4)).trans hx325_4
           replace p325 := eq_true p325
           replace q325 := eq_true q325
           refine start_ (n := 17) (S := fun w' => w'.cell? ⟨gb323, 0, none⟩ = some (.int .i64 ((rd_T27 l0 x7_1).f0)) ∧ w'.cell? ⟨gb323, 1, none⟩ = some (.int .i64 ((rd_T27 l0 x7_1).f1)) ∧ w'.cell? ⟨gb323, 2, none⟩ = some (.int .i64 ((rd_T27 l0 x7_1).f2)) ∧ w'.cell? ⟨gb323, 3, none⟩ = some (.int .i64 ((rd_T27 l0 x7_1).f3)) ∧ w'.cell? ⟨gb323, 4, none⟩ = some (.int .i64 ((rd_T27 l0 x7_1).f4)) ∧ w'.cell? (ad322.add (((ji8)).toNat * 5)) = some (.int .i64 ((rd_T27 l0 (ji8)).f0)) ∧ w'.cell? ⟨(ad322.add (((ji8)).toNat * 5)).block, (ad322.add (((ji8)).toNat * 5)).off + 1, none⟩ = some (.int .i64 ((rd_T27 l0 (ji8)).f1)) ∧ w'.cell? ⟨(ad322.add (((ji8)).toNat * 5)).block, (ad322.add (((ji8)).toNat * 5)).off + 2, none⟩ = some (.int .i64 ((rd_T27 l0 (ji8)).f2)) ∧ w'.cell? ⟨(ad322.add (((ji8)).toNat * 5)).block, (ad322.add (((ji8)).toNat * 5)).off + 3, none⟩ = some (.int .i64 ((rd_T27 l0 (ji8)).f3)) ∧ w'.cell? ⟨(ad322.add (((ji8)).toNat * 5)).block, (ad322.add (((ji8)).toNat * 5)).off + 4, none⟩ = some (.int .i64 ((rd_T27 l0 (ji8)).f4))) (ds := []) #[false, false, false, false, false, false, false, false, false, false, false, false, false, false, false, false, false] (by kernel_rfl) rfl rfl ⟨(aD BK323.out 0).trans rfl, (aD BK323.out 1).trans rfl, (aD BK323.out 2).trans rfl, (aD BK323.out 3).trans rfl, (aD BK323.out 4).trans rfl, ((HB.out.cell (lD w _ hw325_0)).trans hw325_0), ((HB.out.cell (lD w _ hw325_1)).trans hw325_1), ((HB.out.cell (lD w _ hw325_2)).trans hw325_2), ((HB.out.cell (lD w _ hw325_3)).trans hw325_3), ((HB.out.cell (lD w _ hw325_4)).trans hw325_4)⟩ (fun hHeld => ?_); refine with_tabW impl_SetOk.tab4 impl_SetOk.bits4 (fun HT_ HW_ => ?_)
           generalize w21.drew = w22 at BK323 HB hx325_0 hx325_1 hx325_2 hx325_3 hx325_4 hHeld ⊢
           refine take_ (i := 0) (N := some 12) (v := ?_) (a' := ?_) #[true, false, false, false, false, false, false, false, false, false, false, false, false, false, false, false, false] rfl rfl (bV HT_.out HW_.out (by kernel_rfl)) (fun _ _ _ h => h) (Or.inl ⟨by rfl, ?_⟩) hHeld ?_ ?_
           rotate_left
           ·rintro w' ⟨s0, s1, s2, s3, s4, s5, s6, s7, s8, s9⟩
            go_simp
            with_reducible rfl
           rotate_left
           ·simp only [Act.put, lA, lB, lC, aU, aV]
            rfl
           refine one_ (i := 1) (N := some 13) #[true, true, false, false, false, false, false, false, false, false, false, false, false, false, false, false, false] rfl rfl (one_of HT_.out (by kernel_rfl)) (by decide) (fun K hK => ?_)
           refine goes_ Try.func91 (by kernel_rfl) rfl #[.agg #[.int .i64 ((rd_T27 l0 x7_1).f0), .int .i64 ((rd_T27 l0 x7_1).f1), .int .i64 ((rd_T27 l0 x7_1).f2), .int .i64 ((rd_T27 l0 x7_1).f3), .int .i64 ((rd_T27 l0 x7_1).f4)]] (by rfl) rfl rfl (by (try simp only [List.map_toArray, List.map_cons, List.map_nil]); first | done | rfl) ?_
           with_reducible refine (impl_KeyOk.calls k1 ((rd_T27 l0 x7_1).f0) ((rd_T27 l0 x7_1).f1) ((rd_T27 l0 x7_1).f2) ((rd_T27 l0 x7_1).f3) ((rd_T27 l0 x7_1).f4) true _ A5.out).mono ?_
           rintro e w23 ⟨rfl, hb⟩
           refine ⟨_, rfl, ?_⟩
           replace BK323 := aA.mk (aG (g := gb323) (o := .cells #[.int .i64 ((rd_T27 l0 x7_1).f0), .int .i64 ((rd_T27 l0 x7_1).f1), .int .i64 ((rd_T27 l0 x7_1).f2), .int .i64 ((rd_T27 l0 x7_1).f3), .int .i64 ((rd_T27 l0 x7_1).f4)] 27 (0, 0)) BK323.out hb)
           replace HB := aA.mk (aT HB.out hb)
           (try clear hb)
           (try clear hb2)
           (try clear hk)
           (try clear hi)
           refine hK.out _ _ ⟨(aD BK323.out 0).trans rfl, (aD BK323.out 1).trans rfl, (aD BK323.out 2).trans rfl, (aD BK323.out 3).trans rfl, (aD BK323.out 4).trans rfl, ((HB.out.cell (lD w _ hw325_0)).trans hw325_0), ((HB.out.cell (lD w _ hw325_1)).trans hw325_1), ((HB.out.cell (lD w _ hw325_2)).trans hw325_2), ((HB.out.cell (lD w _ hw325_3)).trans hw325_3), ((HB.out.cell (lD w _ hw325_4)).trans hw325_4)⟩ (fun hHeld => ?_)
           clear hK K
           refine bJ (a' := ?_) ?_ ?_
           rotate_left
           ·show Act.put _ (some 13) _ = _
            simp only [Act.put, lA, lB, lC, aU, aV]
            rfl
           refine aW (i := 2) (N := some 14) (v := ?_) (a' := ?_) #[true, true, true, false, false, false, false, false, false, false, false, false, false, false, false, false, false] rfl rfl (aZ HT_.out (by kernel_rfl)) (fun _ _ _ h => h) (Or.inl ⟨by rfl, ?_⟩) ?_ ?_
           rotate_left
           ·intro w'
            go_simp
            with_reducible rfl
           rotate_left
           ·simp only [Act.put, lA, lB, lC, aU, aV]
            rfl
           refine aW (i := 3) (N := some 15) (v := ?_) (a' := ?_) #[true, true, true, true, false, false, false, false, false, false, false, false, false, false, false, false, false] rfl rfl (aZ HT_.out (by kernel_rfl)) (fun _ _ _ h => h) (Or.inl ⟨by rfl, ?_⟩) ?_ ?_
           rotate_left
           ·intro w'
            go_simp
            with_reducible rfl
           rotate_left
           ·simp only [Act.put, lA, lB, lC, aU, aV]
            rfl
           refine aW (i := 4) (N := some 16) (v := ?_) (a' := ?_) #[true, true, true, true, true, false, false, false, false, false, false, false, false, false, false, false, false] rfl rfl (aZ HT_.out (by kernel_rfl)) (fun _ _ _ h => h) (Or.inl ⟨by rfl, ?_⟩) ?_ ?_
           rotate_left
           ·intro w'
            go_simp
            with_reducible rfl
           rotate_left
           ·simp only [Act.put, lA, lB, lC, aU, aV]
            rfl
           refine aW (i := 5) (N := some 17) (v := ?_) (a' := ?_) #[true, true, true, true, true, true, false, false, false, false, false, false, false, false, false, false, false] rfl rfl (aZ HT_.out (by kernel_rfl)) (fun _ _ _ h => h) (Or.inl ⟨by rfl, ?_⟩) ?_ ?_
           rotate_left
           ·intro w'
            go_simp
            with_reducible rfl
           rotate_left
           ·simp only [Act.put, lA, lB, lC, aU, aV]
            rfl
           refine aW (i := 6) (N := some 18) (v := ?_) (a' := ?_) #[true, true, true, true, true, true, true, false, false, false, false, false, false, false, false, false, false] rfl rfl (aZ HT_.out (by kernel_rfl)) (fun _ _ _ h => h) (Or.inl ⟨by rfl, ?_⟩) ?_ ?_
           rotate_left
           ·intro w'
            go_simp
            with_reducible rfl
           rotate_left
           ·simp only [Act.put, lA, lB, lC, aU, aV]
            rfl
           refine aW (i := 7) (N := some 19) (v := ?_) (a' := ?_) #[true, true, true, true, true, true, true, true, false, false, false, false, false, false, false, false, false] rfl rfl (aZ HT_.out (by kernel_rfl)) (fun _ _ _ h => h) (Or.inl ⟨by rfl, ?_⟩) ?_ ?_
           rotate_left
           ·intro w'
            go_simp
            with_reducible rfl
           rotate_left
           ·simp only [Act.put, lA, lB, lC, aU, aV]
            rfl
           refine aW (i := 8) (N := some 20) (v := ?_) (a' := ?_) #[true, true, true, true, true, true, true, true, true, false, false, false, false, false, false, false, false] rfl rfl (aZ HT_.out (by kernel_rfl)) (fun _ _ _ h => h) (Or.inl ⟨by rfl, ?_⟩) ?_ ?_
           rotate_left
           ·intro w'
            go_simp
            with_reducible rfl
           rotate_left
           ·simp only [Act.put, lA, lB, lC, aU, aV]
            rfl
           refine aW (i := 9) (N := some 21) (v := ?_) (a' := ?_) #[true, true, true, true, true, true, true, true, true, true, false, false, false, false, false, false, false] rfl rfl (aZ HT_.out (by kernel_rfl)) (fun _ _ _ h => h) (Or.inl ⟨by rfl, ?_⟩) ?_ ?_
           rotate_left
           ·intro w'
            go_simp
            with_reducible rfl
           rotate_left
           ·simp only [Act.put, lA, lB, lC, aU, aV]
            rfl
           refine aW (i := 10) (N := some 22) (v := ?_) (a' := ?_) #[true, true, true, true, true, true, true, true, true, true, true, false, false, false, false, false, false] rfl rfl (aZ HT_.out (by kernel_rfl)) (fun _ _ _ h => h) (Or.inl ⟨by rfl, ?_⟩) ?_ ?_
           rotate_left
           ·intro w'
            go_simp
            with_reducible rfl
           rotate_left
           ·simp only [Act.put, lA, lB, lC, aU, aV]
            rfl
           refine take_ (i := 11) (N := some 23) (v := ?_) (a' := ?_) #[true, true, true, true, true, true, true, true, true, true, true, true, false, false, false, false, false] rfl rfl (bV HT_.out HW_.out (by kernel_rfl)) (fun _ _ _ h => h) (Or.inl ⟨by rfl, ?_⟩) hHeld ?_ ?_
           rotate_left
           ·rintro w' ⟨s0, s1, s2, s3, s4, s5, s6, s7, s8, s9⟩
            go_simp
            with_reducible rfl
           rotate_left
           ·simp only [Act.put, lA, lB, lC, aU, aV]
            rfl
           refine take_ (i := 12) (N := some 24) (v := ?_) (a' := ?_) #[true, true, true, true, true, true, true, true, true, true, true, true, true, false, false, false, false] rfl rfl (bV HT_.out HW_.out (by kernel_rfl)) (fun _ _ _ h => h) (Or.inl ⟨by rfl, ?_⟩) hHeld ?_ ?_
           rotate_left
           ·rintro w' ⟨s0, s1, s2, s3, s4, s5, s6, s7, s8, s9⟩
            go_simp
            with_reducible rfl
           rotate_left
           ·simp only [Act.put, lA, lB, lC, aU, aV]
            rfl
           refine one_ (i := 13) (N := some 25) #[true, true, true, true, true, true, true, true, true, true, true, true, true, true, false, false, false] rfl rfl (one_of HT_.out (by kernel_rfl)) (by decide) (fun K hK => ?_)
           refine goes_ Try.func92 (by kernel_rfl) rfl #[.agg #[.int .i64 ((rd_T27 l0 (ji8)).f0), .int .i64 ((rd_T27 l0 (ji8)).f1), .int .i64 ((rd_T27 l0 (ji8)).f2), .int .i64 ((rd_T27 l0 (ji8)).f3), .int .i64 ((rd_T27 l0 (ji8)).f4)], .agg #[.int .i64 ((rd_T27 l0 x7_1).f0), .int .i64 ((rd_T27 l0 x7_1).f1), .int .i64 ((rd_T27 l0 x7_1).f2), .int .i64 ((rd_T27 l0 x7_1).f3), .int .i64 ((rd_T27 l0 x7_1).f4)]] (by rfl) rfl rfl (by (try simp only [List.map_toArray, List.map_cons, List.map_nil]); first | done | (simp only [hji8]; rfl) | rfl | (simp only [List.length_drop, List.length_take]; rfl)) ?_
           with_reducible refine (impl_LessKey.calls ((rd_T27 l0 (ji8)).f0) ((rd_T27 l0 (ji8)).f1) ((rd_T27 l0 (ji8)).f2) ((rd_T27 l0 (ji8)).f3) ((rd_T27 l0 (ji8)).f4) ((rd_T27 l0 x7_1).f0) ((rd_T27 l0 x7_1).f1) ((rd_T27 l0 x7_1).f2) ((rd_T27 l0 x7_1).f3) ((rd_T27 l0 x7_1).f4) false _ A11.out).mono ?_
           rintro e w24 ⟨rfl, hb⟩
           refine ⟨_, rfl, ?_⟩
           replace BK323 := aA.mk (aG (g := gb323) (o := .cells #[.int .i64 ((rd_T27 l0 x7_1).f0), .int .i64 ((rd_T27 l0 x7_1).f1), .int .i64 ((rd_T27 l0 x7_1).f2), .int .i64 ((rd_T27 l0 x7_1).f3), .int .i64 ((rd_T27 l0 x7_1).f4)] 27 (0, 0)) BK323.out hb)
           replace HB := aA.mk (aT HB.out hb)
           (try clear hb)
           (try clear hb2)
           (try clear hk)
           (try clear hi)
           refine hK.out _ _ ⟨(aD BK323.out 0).trans rfl, (aD BK323.out 1).trans rfl, (aD BK323.out 2).trans rfl, (aD BK323.out 3).trans rfl, (aD BK323.out 4).trans rfl, ((HB.out.cell (lD w _ hw325_0)).trans hw325_0), ((HB.out.cell (lD w _ hw325_1)).trans hw325_1), ((HB.out.cell (lD w _ hw325_2)).trans hw325_2), ((HB.out.cell (lD w _ hw325_3)).trans hw325_3), ((HB.out.cell (lD w _ hw325_4)).trans hw325_4)⟩ (fun hHeld => ?_)
           clear hK K
           refine bJ (a' := ?_) ?_ ?_
           rotate_left
           ·show Act.put _ (some 25) _ = _
            simp only [Act.put, lA, lB, lC, aU, aV]
            rfl
           refine aW (i := 14) (N := some 26) (v := ?_) (a' := ?_) #[true, true, true, true, true, true, true, true, true, true, true, true, true, true, true, false, false] rfl rfl (aZ HT_.out (by kernel_rfl)) (fun _ _ _ h => h) (Or.inl ⟨by rfl, ?_⟩) ?_ ?_
           rotate_left
           ·intro w'
            go_simp
            with_reducible rfl
           rotate_left
           ·simp only [Act.put, lA, lB, lC, aU, aV]
            rfl
           refine aW (i := 15) (N := some 27) (v := ?_) (a' := ?_) #[true, true, true, true, true, true, true, true, true, true, true, true, true, true, true, true, false] rfl rfl (aZ HT_.out (by kernel_rfl)) (fun _ _ _ h => h) (Or.inl ⟨by rfl, ?_⟩) ?_ ?_
           rotate_left
           ·intro w'
            go_simp
            with_reducible rfl
           rotate_left
           ·simp only [Act.put, lA, lB, lC, aU, aV]
            rfl
           refine aW (i := 16) (N := some 28) (v := ?_) (a' := ?_) #[true, true, true, true, true, true, true, true, true, true, true, true, true, true, true, true, true] rfl rfl (aZ HT_.out (by kernel_rfl)) (fun _ _ _ h => h) (Or.inl ⟨by rfl, ?_⟩) ?_ ?_
           rotate_left
           ·intro w'
            go_simp
            with_reducible rfl
           rotate_left
           ·simp only [Act.put, lA, lB, lC, aU, aV]
            rfl
           refine done_ (done_of HT_.out (by kernel_rfl)) ?_
           try go_wp2
           go_ret
           exact ⟨by first | rfl | (simp [errW_none, errW_some] <;> rfl) | (simp only [← hji8]; first | rfl | (simp [errW_none, errW_some] <;> rfl)) | (simp [*, errW_none, errW_some] <;> rfl), by repeat (first | (with_reducible first | exact HB.out | apply aN | apply aE | apply aH | refine aC ?_ GE323.out) | exact HB.out)⟩
         ·rw [if_neg c10] at H
          exact absurd H (by simp)
        ·rw [if_neg c9] at H
         exact absurd H (by simp)
       ·rw [if_neg c7] at H
        have c7b0 : decide (0 < x7_1) = false := decide_eq_false c7
        clear c7
        have H' := aA.mk H
        clear H
        have p322 : 0 ≤ (x7_1 : Int) := lE (by assumption)
        have q322 : x7_1 < (l0.length : Int) := lE (by assumption)
        obtain ⟨ad322, e322, hx322_0, hx322_1, hx322_2, hx322_3, hx322_4⟩ := at_T27 HR0.out x7_1 p322 q322
        cases e322
        replace hx322_0 := (HB.out.cell (lD w _ hx322_0)).trans hx322_0
        replace hx322_1 := (HB.out.cell (lD w _ hx322_1)).trans hx322_1
        replace hx322_2 := (HB.out.cell (lD w _ hx322_2)).trans hx322_2
        replace hx322_3 := (HB.out.cell (lD w _ hx322_3)).trans hx322_3
        replace hx322_4 := (HB.out.cell (lD w _ hx322_4)).trans hx322_4
        replace p322 := eq_true p322
        replace q322 := eq_true q322
        try go_wp2_with (first | ((with_reducible refine bA (N := 4) rfl ?_); refine bC ?hg (N := 4) ?hd (cs := #[.int .i64 0, .int .i64 0, .int .i64 0, .int .i64 0, .int .i64 0]) (t := 27) ?hr ?_; (case hd => rfl); (case hg => rfl); (case hr => first | (go_simp; done) | (go_simp; rfl)); intro gb323 hg w25 hbox hb; have BK323 := aA.mk (hbox); have GW323 := aA.mk ((by rw [hg]; exact (aQ HB.out) : w.heap.size ≤ gb323)); have GE323 := aA.mk ((by rw [hg]; exact (aQ HB.out) : w.heap.size ≤ gb323)); replace HB := aA.mk (aT HB.out hb); clear hb hbox hg; obtain ⟨hcz26_0, hcz26_1, hcz26_2, hcz26_3, hcz26_4⟩ := cs5 BK323.out; obtain ⟨hfz26_0, hfz26_1, hfz26_2, hfz26_3, hfz26_4⟩ := fs5 BK323.out))
        have n0_ : aA ((((((w25.setCell ⟨gb323, 0, none⟩ (.int .i64 ((rd_T27 l0 x7_1).f0))).setCell ⟨gb323, 1, none⟩ (.int .i64 ((rd_T27 l0 x7_1).f1))).setCell ⟨gb323, 2, none⟩ (.int .i64 ((rd_T27 l0 x7_1).f2))).setCell ⟨gb323, 3, none⟩ (.int .i64 ((rd_T27 l0 x7_1).f3))).setCell ⟨gb323, 4, none⟩ (.int .i64 ((rd_T27 l0 x7_1).f4))).heap[gb323]? = some (.cells #[.int .i64 ((rd_T27 l0 x7_1).f0), .int .i64 ((rd_T27 l0 x7_1).f1), .int .i64 ((rd_T27 l0 x7_1).f2), .int .i64 ((rd_T27 l0 x7_1).f3), .int .i64 ((rd_T27 l0 x7_1).f4)] 27 (0, 0))) := ⟨by (with_reducible repeat (first | refine aM ?_ _ | refine aJ ?_ | refine aK ?_ _)); refine bE (cs := #[.int .i64 ((rd_T27 l0 x7_1).f0), .int .i64 ((rd_T27 l0 x7_1).f1), .int .i64 ((rd_T27 l0 x7_1).f2), .int .i64 ((rd_T27 l0 x7_1).f3), .int .i64 0]) ?_ 4 _ rfl; (with_reducible repeat (first | refine aM ?_ _ | refine aJ ?_ | refine aK ?_ _)); refine bE (cs := #[.int .i64 ((rd_T27 l0 x7_1).f0), .int .i64 ((rd_T27 l0 x7_1).f1), .int .i64 ((rd_T27 l0 x7_1).f2), .int .i64 0, .int .i64 0]) ?_ 3 _ rfl; (with_reducible repeat (first | refine aM ?_ _ | refine aJ ?_ | refine aK ?_ _)); refine bE (cs := #[.int .i64 ((rd_T27 l0 x7_1).f0), .int .i64 ((rd_T27 l0 x7_1).f1), .int .i64 0, .int .i64 0, .int .i64 0]) ?_ 2 _ rfl; (with_reducible repeat (first | refine aM ?_ _ | refine aJ ?_ | refine aK ?_ _)); refine bE (cs := #[.int .i64 ((rd_T27 l0 x7_1).f0), .int .i64 0, .int .i64 0, .int .i64 0, .int .i64 0]) ?_ 1 _ rfl; (with_reducible repeat (first | refine aM ?_ _ | refine aJ ?_ | refine aK ?_ _)); refine bE (cs := #[.int .i64 0, .int .i64 0, .int .i64 0, .int .i64 0, .int .i64 0]) ?_ 0 _ rfl; (with_reducible repeat (first | refine aM ?_ _ | refine aJ ?_ | refine aK ?_ _)); exact BK323.out⟩
        have n1_ : aA (Below w.heap.size w (((((w25.setCell ⟨gb323, 0, none⟩ (.int .i64 ((rd_T27 l0 x7_1).f0))).setCell ⟨gb323, 1, none⟩ (.int .i64 ((rd_T27 l0 x7_1).f1))).setCell ⟨gb323, 2, none⟩ (.int .i64 ((rd_T27 l0 x7_1).f2))).setCell ⟨gb323, 3, none⟩ (.int .i64 ((rd_T27 l0 x7_1).f3))).setCell ⟨gb323, 4, none⟩ (.int .i64 ((rd_T27 l0 x7_1).f4)))) := ⟨by repeat (first | (with_reducible first | exact HB.out | apply aN | apply aE | apply aH | refine aC ?_ GE323.out) | exact HB.out)⟩
        (try clear BK323)
        (try clear HB)
        generalize (((((w25.setCell ⟨gb323, 0, none⟩ (.int .i64 ((rd_T27 l0 x7_1).f0))).setCell ⟨gb323, 1, none⟩ (.int .i64 ((rd_T27 l0 x7_1).f1))).setCell ⟨gb323, 2, none⟩ (.int .i64 ((rd_T27 l0 x7_1).f2))).setCell ⟨gb323, 3, none⟩ (.int .i64 ((rd_T27 l0 x7_1).f3))).setCell ⟨gb323, 4, none⟩ (.int .i64 ((rd_T27 l0 x7_1).f4))) = w27 at n0_ n1_ ⊢
        have BK323 := n0_
        have HB := n1_
        clear n0_ n1_
        replace BK323 := aA.mk (aJ BK323.out)
        replace HB := aA.mk (aH HB.out)
        refine start_ (n := 17) (S := fun w' => w'.cell? ⟨gb323, 0, none⟩ = some (.int .i64 ((rd_T27 l0 x7_1).f0)) ∧ w'.cell? ⟨gb323, 1, none⟩ = some (.int .i64 ((rd_T27 l0 x7_1).f1)) ∧ w'.cell? ⟨gb323, 2, none⟩ = some (.int .i64 ((rd_T27 l0 x7_1).f2)) ∧ w'.cell? ⟨gb323, 3, none⟩ = some (.int .i64 ((rd_T27 l0 x7_1).f3)) ∧ w'.cell? ⟨gb323, 4, none⟩ = some (.int .i64 ((rd_T27 l0 x7_1).f4))) (ds := []) #[false, false, false, false, false, false, false, false, false, false, false, false, false, false, false, false, false] (by kernel_rfl) rfl rfl ⟨(aD BK323.out 0).trans rfl, (aD BK323.out 1).trans rfl, (aD BK323.out 2).trans rfl, (aD BK323.out 3).trans rfl, (aD BK323.out 4).trans rfl⟩ (fun hHeld => ?_); refine with_tabW impl_SetOk.tab4 impl_SetOk.bits4 (fun HT_ HW_ => ?_)
        generalize w27.drew = w28 at BK323 HB hHeld ⊢
        refine take_ (i := 0) (N := some 12) (v := ?_) (a' := ?_) #[true, false, false, false, false, false, false, false, false, false, false, false, false, false, false, false, false] rfl rfl (bV HT_.out HW_.out (by kernel_rfl)) (fun _ _ _ h => h) (Or.inl ⟨by rfl, ?_⟩) hHeld ?_ ?_
        rotate_left
        ·rintro w' ⟨s0, s1, s2, s3, s4⟩
         go_simp
         with_reducible rfl
        rotate_left
        ·simp only [Act.put, lA, lB, lC, aU, aV]
         rfl
        refine one_ (i := 1) (N := some 13) #[true, true, false, false, false, false, false, false, false, false, false, false, false, false, false, false, false] rfl rfl (one_of HT_.out (by kernel_rfl)) (by decide) (fun K hK => ?_)
        refine goes_ Try.func91 (by kernel_rfl) rfl #[.agg #[.int .i64 ((rd_T27 l0 x7_1).f0), .int .i64 ((rd_T27 l0 x7_1).f1), .int .i64 ((rd_T27 l0 x7_1).f2), .int .i64 ((rd_T27 l0 x7_1).f3), .int .i64 ((rd_T27 l0 x7_1).f4)]] (by rfl) rfl rfl (by (try simp only [List.map_toArray, List.map_cons, List.map_nil]); first | done | rfl) ?_
        with_reducible refine (impl_KeyOk.calls k1 ((rd_T27 l0 x7_1).f0) ((rd_T27 l0 x7_1).f1) ((rd_T27 l0 x7_1).f2) ((rd_T27 l0 x7_1).f3) ((rd_T27 l0 x7_1).f4) true _ A5.out).mono ?_
        rintro e w29 ⟨rfl, hb⟩
        refine ⟨_, rfl, ?_⟩
        replace BK323 := aA.mk (aG (g := gb323) (o := .cells #[.int .i64 ((rd_T27 l0 x7_1).f0), .int .i64 ((rd_T27 l0 x7_1).f1), .int .i64 ((rd_T27 l0 x7_1).f2), .int .i64 ((rd_T27 l0 x7_1).f3), .int .i64 ((rd_T27 l0 x7_1).f4)] 27 (0, 0)) BK323.out hb)
        replace HB := aA.mk (aT HB.out hb)
        (try clear hb)
        (try clear hb2)
        (try clear hk)
        (try clear hi)
        refine hK.out _ _ ⟨(aD BK323.out 0).trans rfl, (aD BK323.out 1).trans rfl, (aD BK323.out 2).trans rfl, (aD BK323.out 3).trans rfl, (aD BK323.out 4).trans rfl⟩ (fun hHeld => ?_)
        clear hK K
        refine bJ (a' := ?_) ?_ ?_
        rotate_left
        ·show Act.put _ (some 13) _ = _
         simp only [Act.put, lA, lB, lC, aU, aV]
         rfl
        refine aW (i := 2) (N := some 14) (v := ?_) (a' := ?_) #[true, true, true, false, false, false, false, false, false, false, false, false, false, false, false, false, false] rfl rfl (aZ HT_.out (by kernel_rfl)) (fun _ _ _ h => h) (Or.inl ⟨by rfl, ?_⟩) ?_ ?_
        rotate_left
        ·intro w'
         go_simp
         with_reducible rfl
        rotate_left
        ·simp only [Act.put, lA, lB, lC, aU, aV]
         rfl
        refine aW (i := 3) (N := some 15) (v := ?_) (a' := ?_) #[true, true, true, true, false, false, false, false, false, false, false, false, false, false, false, false, false] rfl rfl (aZ HT_.out (by kernel_rfl)) (fun _ _ _ h => h) (Or.inl ⟨by rfl, ?_⟩) ?_ ?_
        rotate_left
        ·intro w'
         go_simp
         with_reducible rfl
        rotate_left
        ·simp only [Act.put, lA, lB, lC, aU, aV]
         rfl
        refine aW (i := 4) (N := some 16) (v := ?_) (a' := ?_) #[true, true, true, true, true, false, false, false, false, false, false, false, false, false, false, false, false] rfl rfl (aZ HT_.out (by kernel_rfl)) (fun _ _ _ h => h) (Or.inl ⟨by rfl, ?_⟩) ?_ ?_
        rotate_left
        ·intro w'
         go_simp
         with_reducible rfl
        rotate_left
        ·simp only [Act.put, lA, lB, lC, aU, aV]
         rfl
        refine aW (i := 5) (N := some 17) (v := ?_) (a' := ?_) #[true, true, true, true, true, true, false, false, false, false, false, false, false, false, false, false, false] rfl rfl (aZ HT_.out (by kernel_rfl)) (fun _ _ _ h => h) (Or.inl ⟨by rfl, ?_⟩) ?_ ?_
        rotate_left
        ·intro w'
         go_simp
         with_reducible rfl
        rotate_left
        ·simp only [Act.put, lA, lB, lC, aU, aV]
         rfl
        refine aW (i := 6) (N := some 18) (v := ?_) (a' := ?_) #[true, true, true, true, true, true, true, false, false, false, false, false, false, false, false, false, false] rfl rfl (aZ HT_.out (by kernel_rfl)) (fun _ _ _ h => h) (Or.inl ⟨by rfl, ?_⟩) ?_ ?_
        rotate_left
        ·intro w'
         go_simp
         with_reducible rfl
        rotate_left
        ·simp only [Act.put, lA, lB, lC, aU, aV]
         rfl
        refine aW (i := 7) (N := some 19) (v := undef) (a' := ?_) #[true, true, true, true, true, true, true, true, false, false, false, false, false, false, false, false, false] rfl rfl (aZ HT_.out (by kernel_rfl)) (fun _ _ _ h => h) (Or.inr ⟨by rfl, rfl⟩) ?_ ?_
        rotate_left
        ·simp only [Act.put, lA, lB, lC, aU, aV]
         rfl
        refine aW (i := 8) (N := some 20) (v := undef) (a' := ?_) #[true, true, true, true, true, true, true, true, true, false, false, false, false, false, false, false, false] rfl rfl (aZ HT_.out (by kernel_rfl)) (fun _ _ _ h => h) (Or.inr ⟨by rfl, rfl⟩) ?_ ?_
        rotate_left
        ·simp only [Act.put, lA, lB, lC, aU, aV]
         rfl
        refine aW (i := 9) (N := some 21) (v := undef) (a' := ?_) #[true, true, true, true, true, true, true, true, true, true, false, false, false, false, false, false, false] rfl rfl (aZ HT_.out (by kernel_rfl)) (fun _ _ _ h => h) (Or.inr ⟨by rfl, rfl⟩) ?_ ?_
        rotate_left
        ·simp only [Act.put, lA, lB, lC, aU, aV]
         rfl
        refine aW (i := 10) (N := some 22) (v := undef) (a' := ?_) #[true, true, true, true, true, true, true, true, true, true, true, false, false, false, false, false, false] rfl rfl (aZ HT_.out (by kernel_rfl)) (fun _ _ _ h => h) (Or.inr ⟨by rfl, rfl⟩) ?_ ?_
        rotate_left
        ·simp only [Act.put, lA, lB, lC, aU, aV]
         rfl
        refine aW (i := 11) (N := some 23) (v := undef) (a' := ?_) #[true, true, true, true, true, true, true, true, true, true, true, true, false, false, false, false, false] rfl rfl (aZ HT_.out (by kernel_rfl)) (fun _ _ _ h => h) (Or.inr ⟨by rfl, rfl⟩) ?_ ?_
        rotate_left
        ·simp only [Act.put, lA, lB, lC, aU, aV]
         rfl
        refine aW (i := 12) (N := some 24) (v := undef) (a' := ?_) #[true, true, true, true, true, true, true, true, true, true, true, true, true, false, false, false, false] rfl rfl (aZ HT_.out (by kernel_rfl)) (fun _ _ _ h => h) (Or.inr ⟨by rfl, rfl⟩) ?_ ?_
        rotate_left
        ·simp only [Act.put, lA, lB, lC, aU, aV]
         rfl
        refine aW (i := 13) (N := some 25) (v := undef) (a' := ?_) #[true, true, true, true, true, true, true, true, true, true, true, true, true, true, false, false, false] rfl rfl (aZ HT_.out (by kernel_rfl)) (fun _ _ _ h => h) (Or.inr ⟨by rfl, rfl⟩) ?_ ?_
        rotate_left
        ·simp only [Act.put, lA, lB, lC, aU, aV]
         rfl
        refine aW (i := 14) (N := some 26) (v := undef) (a' := ?_) #[true, true, true, true, true, true, true, true, true, true, true, true, true, true, true, false, false] rfl rfl (aZ HT_.out (by kernel_rfl)) (fun _ _ _ h => h) (Or.inr ⟨by rfl, rfl⟩) ?_ ?_
        rotate_left
        ·simp only [Act.put, lA, lB, lC, aU, aV]
         rfl
        refine aW (i := 15) (N := some 27) (v := ?_) (a' := ?_) #[true, true, true, true, true, true, true, true, true, true, true, true, true, true, true, true, false] rfl rfl (aZ HT_.out (by kernel_rfl)) (fun _ _ _ h => h) (Or.inl ⟨by rfl, ?_⟩) ?_ ?_
        rotate_left
        ·intro w'
         go_simp
         with_reducible rfl
        rotate_left
        ·simp only [Act.put, lA, lB, lC, aU, aV]
         rfl
        refine aW (i := 16) (N := some 28) (v := ?_) (a' := ?_) #[true, true, true, true, true, true, true, true, true, true, true, true, true, true, true, true, true] rfl rfl (aZ HT_.out (by kernel_rfl)) (fun _ _ _ h => h) (Or.inl ⟨by rfl, ?_⟩) ?_ ?_
        rotate_left
        ·intro w'
         go_simp
         with_reducible rfl
        rotate_left
        ·simp only [Act.put, lA, lB, lC, aU, aV]
         rfl
        refine done_ (done_of HT_.out (by kernel_rfl)) ?_
        try go_wp2
        go_roundg k1
        case measure => have := HK1.out; omega
        case rel => exact ⟨(wrap64 (x7_1 + 1)), (by first | rfl | (simp; done) | (simp [*]; done)), H', ⟨by have := HK1.out; omega⟩, ⟨by repeat (first | (with_reducible first | exact HB.out | apply aN | apply aE | apply aH | refine aC ?_ GE323.out) | exact HB.out)⟩⟩
      ·replace c6 := Bool.eq_false_iff.mpr c6
       subst c6
       have H1 : (some false) = some r := by rw [if_neg (show ¬ (false = true) by decide)] at H; exact H
       clear H
       have H := H1
       clear H1
       obtain rfl := Option.some.inj H
       have p322 : 0 ≤ (x7_1 : Int) := lE (by assumption)
       have q322 : x7_1 < (l0.length : Int) := lE (by assumption)
       obtain ⟨ad322, e322, hx322_0, hx322_1, hx322_2, hx322_3, hx322_4⟩ := at_T27 HR0.out x7_1 p322 q322
       cases e322
       replace hx322_0 := (HB.out.cell (lD w _ hx322_0)).trans hx322_0
       replace hx322_1 := (HB.out.cell (lD w _ hx322_1)).trans hx322_1
       replace hx322_2 := (HB.out.cell (lD w _ hx322_2)).trans hx322_2
       replace hx322_3 := (HB.out.cell (lD w _ hx322_3)).trans hx322_3
       replace hx322_4 := (HB.out.cell (lD w _ hx322_4)).trans hx322_4
       replace p322 := eq_true p322
       replace q322 := eq_true q322
       try go_wp2_with (first | ((with_reducible refine bA (N := 4) rfl ?_); refine bC ?hg (N := 4) ?hd (cs := #[.int .i64 0, .int .i64 0, .int .i64 0, .int .i64 0, .int .i64 0]) (t := 27) ?hr ?_; (case hd => rfl); (case hg => rfl); (case hr => first | (go_simp; done) | (go_simp; rfl)); intro gb323 hg w30 hbox hb; have BK323 := aA.mk (hbox); have GW323 := aA.mk ((by rw [hg]; exact (aQ HB.out) : w.heap.size ≤ gb323)); have GE323 := aA.mk ((by rw [hg]; exact (aQ HB.out) : w.heap.size ≤ gb323)); replace HB := aA.mk (aT HB.out hb); clear hb hbox hg; obtain ⟨hcz31_0, hcz31_1, hcz31_2, hcz31_3, hcz31_4⟩ := cs5 BK323.out; obtain ⟨hfz31_0, hfz31_1, hfz31_2, hfz31_3, hfz31_4⟩ := fs5 BK323.out))
       have n0_ : aA ((((((w30.setCell ⟨gb323, 0, none⟩ (.int .i64 ((rd_T27 l0 x7_1).f0))).setCell ⟨gb323, 1, none⟩ (.int .i64 ((rd_T27 l0 x7_1).f1))).setCell ⟨gb323, 2, none⟩ (.int .i64 ((rd_T27 l0 x7_1).f2))).setCell ⟨gb323, 3, none⟩ (.int .i64 ((rd_T27 l0 x7_1).f3))).setCell ⟨gb323, 4, none⟩ (.int .i64 ((rd_T27 l0 x7_1).f4))).heap[gb323]? = some (.cells #[.int .i64 ((rd_T27 l0 x7_1).f0), .int .i64 ((rd_T27 l0 x7_1).f1), .int .i64 ((rd_T27 l0 x7_1).f2), .int .i64 ((rd_T27 l0 x7_1).f3), .int .i64 ((rd_T27 l0 x7_1).f4)] 27 (0, 0))) := ⟨by (with_reducible repeat (first | refine aM ?_ _ | refine aJ ?_ | refine aK ?_ _)); refine bE (cs := #[.int .i64 ((rd_T27 l0 x7_1).f0), .int .i64 ((rd_T27 l0 x7_1).f1), .int .i64 ((rd_T27 l0 x7_1).f2), .int .i64 ((rd_T27 l0 x7_1).f3), .int .i64 0]) ?_ 4 _ rfl; (with_reducible repeat (first | refine aM ?_ _ | refine aJ ?_ | refine aK ?_ _)); refine bE (cs := #[.int .i64 ((rd_T27 l0 x7_1).f0), .int .i64 ((rd_T27 l0 x7_1).f1), .int .i64 ((rd_T27 l0 x7_1).f2), .int .i64 0, .int .i64 0]) ?_ 3 _ rfl; (with_reducible repeat (first | refine aM ?_ _ | refine aJ ?_ | refine aK ?_ _)); refine bE (cs := #[.int .i64 ((rd_T27 l0 x7_1).f0), .int .i64 ((rd_T27 l0 x7_1).f1), .int .i64 0, .int .i64 0, .int .i64 0]) ?_ 2 _ rfl; (with_reducible repeat (first | refine aM ?_ _ | refine aJ ?_ | refine aK ?_ _)); refine bE (cs := #[.int .i64 ((rd_T27 l0 x7_1).f0), .int .i64 0, .int .i64 0, .int .i64 0, .int .i64 0]) ?_ 1 _ rfl; (with_reducible repeat (first | refine aM ?_ _ | refine aJ ?_ | refine aK ?_ _)); refine bE (cs := #[.int .i64 0, .int .i64 0, .int .i64 0, .int .i64 0, .int .i64 0]) ?_ 0 _ rfl; (with_reducible repeat (first | refine aM ?_ _ | refine aJ ?_ | refine aK ?_ _)); exact BK323.out⟩
       have n1_ : aA (Below w.heap.size w (((((w30.setCell ⟨gb323, 0, none⟩ (.int .i64 ((rd_T27 l0 x7_1).f0))).setCell ⟨gb323, 1, none⟩ (.int .i64 ((rd_T27 l0 x7_1).f1))).setCell ⟨gb323, 2, none⟩ (.int .i64 ((rd_T27 l0 x7_1).f2))).setCell ⟨gb323, 3, none⟩ (.int .i64 ((rd_T27 l0 x7_1).f3))).setCell ⟨gb323, 4, none⟩ (.int .i64 ((rd_T27 l0 x7_1).f4)))) := ⟨by repeat (first | (with_reducible first | exact HB.out | apply aN | apply aE | apply aH | refine aC ?_ GE323.out) | exact HB.out)⟩
       (try clear BK323)
       (try clear HB)
       generalize (((((w30.setCell ⟨gb323, 0, none⟩ (.int .i64 ((rd_T27 l0 x7_1).f0))).setCell ⟨gb323, 1, none⟩ (.int .i64 ((rd_T27 l0 x7_1).f1))).setCell ⟨gb323, 2, none⟩ (.int .i64 ((rd_T27 l0 x7_1).f2))).setCell ⟨gb323, 3, none⟩ (.int .i64 ((rd_T27 l0 x7_1).f3))).setCell ⟨gb323, 4, none⟩ (.int .i64 ((rd_T27 l0 x7_1).f4))) = w32 at n0_ n1_ ⊢
       have BK323 := n0_
       have HB := n1_
       clear n0_ n1_
       replace BK323 := aA.mk (aJ BK323.out)
       replace HB := aA.mk (aH HB.out)
       refine start_ (n := 17) (S := fun w' => w'.cell? ⟨gb323, 0, none⟩ = some (.int .i64 ((rd_T27 l0 x7_1).f0)) ∧ w'.cell? ⟨gb323, 1, none⟩ = some (.int .i64 ((rd_T27 l0 x7_1).f1)) ∧ w'.cell? ⟨gb323, 2, none⟩ = some (.int .i64 ((rd_T27 l0 x7_1).f2)) ∧ w'.cell? ⟨gb323, 3, none⟩ = some (.int .i64 ((rd_T27 l0 x7_1).f3)) ∧ w'.cell? ⟨gb323, 4, none⟩ = some (.int .i64 ((rd_T27 l0 x7_1).f4))) (ds := []) #[false, false, false, false, false, false, false, false, false, false, false, false, false, false, false, false, false] (by kernel_rfl) rfl rfl ⟨(aD BK323.out 0).trans rfl, (aD BK323.out 1).trans rfl, (aD BK323.out 2).trans rfl, (aD BK323.out 3).trans rfl, (aD BK323.out 4).trans rfl⟩ (fun hHeld => ?_); refine with_tabW impl_SetOk.tab4 impl_SetOk.bits4 (fun HT_ HW_ => ?_)
       generalize w32.drew = w33 at BK323 HB hHeld ⊢
       refine take_ (i := 0) (N := some 12) (v := ?_) (a' := ?_) #[true, false, false, false, false, false, false, false, false, false, false, false, false, false, false, false, false] rfl rfl (bV HT_.out HW_.out (by kernel_rfl)) (fun _ _ _ h => h) (Or.inl ⟨by rfl, ?_⟩) hHeld ?_ ?_
       rotate_left
       ·rintro w' ⟨s0, s1, s2, s3, s4⟩
        go_simp
        with_reducible rfl
       rotate_left
       ·simp only [Act.put, lA, lB, lC, aU, aV]
        rfl
       refine one_ (i := 1) (N := some 13) #[true, true, false, false, false, false, false, false, false, false, false, false, false, false, false, false, false] rfl rfl (one_of HT_.out (by kernel_rfl)) (by decide) (fun K hK => ?_)
       refine goes_ Try.func91 (by kernel_rfl) rfl #[.agg #[.int .i64 ((rd_T27 l0 x7_1).f0), .int .i64 ((rd_T27 l0 x7_1).f1), .int .i64 ((rd_T27 l0 x7_1).f2), .int .i64 ((rd_T27 l0 x7_1).f3), .int .i64 ((rd_T27 l0 x7_1).f4)]] (by rfl) rfl rfl (by (try simp only [List.map_toArray, List.map_cons, List.map_nil]); first | done | rfl) ?_
       with_reducible refine (impl_KeyOk.calls k1 ((rd_T27 l0 x7_1).f0) ((rd_T27 l0 x7_1).f1) ((rd_T27 l0 x7_1).f2) ((rd_T27 l0 x7_1).f3) ((rd_T27 l0 x7_1).f4) false _ A5.out).mono ?_
       rintro e w34 ⟨rfl, hb⟩
       refine ⟨_, rfl, ?_⟩
       replace BK323 := aA.mk (aG (g := gb323) (o := .cells #[.int .i64 ((rd_T27 l0 x7_1).f0), .int .i64 ((rd_T27 l0 x7_1).f1), .int .i64 ((rd_T27 l0 x7_1).f2), .int .i64 ((rd_T27 l0 x7_1).f3), .int .i64 ((rd_T27 l0 x7_1).f4)] 27 (0, 0)) BK323.out hb)
       replace HB := aA.mk (aT HB.out hb)
       (try clear hb)
       (try clear hb2)
       (try clear hk)
       (try clear hi)
       refine hK.out _ _ ⟨(aD BK323.out 0).trans rfl, (aD BK323.out 1).trans rfl, (aD BK323.out 2).trans rfl, (aD BK323.out 3).trans rfl, (aD BK323.out 4).trans rfl⟩ (fun hHeld => ?_)
       clear hK K
       refine bJ (a' := ?_) ?_ ?_
       rotate_left
       ·show Act.put _ (some 13) _ = _
        simp only [Act.put, lA, lB, lC, aU, aV]
        rfl
       refine aW (i := 2) (N := some 14) (v := ?_) (a' := ?_) #[true, true, true, false, false, false, false, false, false, false, false, false, false, false, false, false, false] rfl rfl (aZ HT_.out (by kernel_rfl)) (fun _ _ _ h => h) (Or.inl ⟨by rfl, ?_⟩) ?_ ?_
       rotate_left
       ·intro w'
        go_simp
        with_reducible rfl
       rotate_left
       ·simp only [Act.put, lA, lB, lC, aU, aV]
        rfl
       refine aW (i := 3) (N := some 15) (v := ?_) (a' := ?_) #[true, true, true, true, false, false, false, false, false, false, false, false, false, false, false, false, false] rfl rfl (aZ HT_.out (by kernel_rfl)) (fun _ _ _ h => h) (Or.inl ⟨by rfl, ?_⟩) ?_ ?_
       rotate_left
       ·intro w'
        go_simp
        with_reducible rfl
       rotate_left
       ·simp only [Act.put, lA, lB, lC, aU, aV]
        rfl
       refine aW (i := 4) (N := some 16) (v := undef) (a' := ?_) #[true, true, true, true, true, false, false, false, false, false, false, false, false, false, false, false, false] rfl rfl (aZ HT_.out (by kernel_rfl)) (fun _ _ _ h => h) (Or.inr ⟨by rfl, rfl⟩) ?_ ?_
       rotate_left
       ·simp only [Act.put, lA, lB, lC, aU, aV]
        rfl
       refine aW (i := 5) (N := some 17) (v := undef) (a' := ?_) #[true, true, true, true, true, true, false, false, false, false, false, false, false, false, false, false, false] rfl rfl (aZ HT_.out (by kernel_rfl)) (fun _ _ _ h => h) (Or.inr ⟨by rfl, rfl⟩) ?_ ?_
       rotate_left
       ·simp only [Act.put, lA, lB, lC, aU, aV]
        rfl
       refine aW (i := 6) (N := some 18) (v := undef) (a' := ?_) #[true, true, true, true, true, true, true, false, false, false, false, false, false, false, false, false, false] rfl rfl (aZ HT_.out (by kernel_rfl)) (fun _ _ _ h => h) (Or.inr ⟨by rfl, rfl⟩) ?_ ?_
       rotate_left
       ·simp only [Act.put, lA, lB, lC, aU, aV]
        rfl
       refine aW (i := 7) (N := some 19) (v := undef) (a' := ?_) #[true, true, true, true, true, true, true, true, false, false, false, false, false, false, false, false, false] rfl rfl (aZ HT_.out (by kernel_rfl)) (fun _ _ _ h => h) (Or.inr ⟨by rfl, rfl⟩) ?_ ?_
       rotate_left
       ·simp only [Act.put, lA, lB, lC, aU, aV]
        rfl
       refine aW (i := 8) (N := some 20) (v := undef) (a' := ?_) #[true, true, true, true, true, true, true, true, true, false, false, false, false, false, false, false, false] rfl rfl (aZ HT_.out (by kernel_rfl)) (fun _ _ _ h => h) (Or.inr ⟨by rfl, rfl⟩) ?_ ?_
       rotate_left
       ·simp only [Act.put, lA, lB, lC, aU, aV]
        rfl
       refine aW (i := 9) (N := some 21) (v := undef) (a' := ?_) #[true, true, true, true, true, true, true, true, true, true, false, false, false, false, false, false, false] rfl rfl (aZ HT_.out (by kernel_rfl)) (fun _ _ _ h => h) (Or.inr ⟨by rfl, rfl⟩) ?_ ?_
       rotate_left
       ·simp only [Act.put, lA, lB, lC, aU, aV]
        rfl
       refine aW (i := 10) (N := some 22) (v := undef) (a' := ?_) #[true, true, true, true, true, true, true, true, true, true, true, false, false, false, false, false, false] rfl rfl (aZ HT_.out (by kernel_rfl)) (fun _ _ _ h => h) (Or.inr ⟨by rfl, rfl⟩) ?_ ?_
       rotate_left
       ·simp only [Act.put, lA, lB, lC, aU, aV]
        rfl
       refine aW (i := 11) (N := some 23) (v := undef) (a' := ?_) #[true, true, true, true, true, true, true, true, true, true, true, true, false, false, false, false, false] rfl rfl (aZ HT_.out (by kernel_rfl)) (fun _ _ _ h => h) (Or.inr ⟨by rfl, rfl⟩) ?_ ?_
       rotate_left
       ·simp only [Act.put, lA, lB, lC, aU, aV]
        rfl
       refine aW (i := 12) (N := some 24) (v := undef) (a' := ?_) #[true, true, true, true, true, true, true, true, true, true, true, true, true, false, false, false, false] rfl rfl (aZ HT_.out (by kernel_rfl)) (fun _ _ _ h => h) (Or.inr ⟨by rfl, rfl⟩) ?_ ?_
       rotate_left
       ·simp only [Act.put, lA, lB, lC, aU, aV]
        rfl
       refine aW (i := 13) (N := some 25) (v := undef) (a' := ?_) #[true, true, true, true, true, true, true, true, true, true, true, true, true, true, false, false, false] rfl rfl (aZ HT_.out (by kernel_rfl)) (fun _ _ _ h => h) (Or.inr ⟨by rfl, rfl⟩) ?_ ?_
       rotate_left
       ·simp only [Act.put, lA, lB, lC, aU, aV]
        rfl
       refine aW (i := 14) (N := some 26) (v := undef) (a' := ?_) #[true, true, true, true, true, true, true, true, true, true, true, true, true, true, true, false, false] rfl rfl (aZ HT_.out (by kernel_rfl)) (fun _ _ _ h => h) (Or.inr ⟨by rfl, rfl⟩) ?_ ?_
       rotate_left
       ·simp only [Act.put, lA, lB, lC, aU, aV]
        rfl
       refine aW (i := 15) (N := some 27) (v := undef) (a' := ?_) #[true, true, true, true, true, true, true, true, true, true, true, true, true, true, true, true, false] rfl rfl (aZ HT_.out (by kernel_rfl)) (fun _ _ _ h => h) (Or.inr ⟨by rfl, rfl⟩) ?_ ?_
       rotate_left
       ·simp only [Act.put, lA, lB, lC, aU, aV]
        rfl
       refine aW (i := 16) (N := some 28) (v := ?_) (a' := ?_) #[true, true, true, true, true, true, true, true, true, true, true, true, true, true, true, true, true] rfl rfl (aZ HT_.out (by kernel_rfl)) (fun _ _ _ h => h) (Or.inl ⟨by rfl, ?_⟩) ?_ ?_
       rotate_left
       ·intro w'
        go_simp
        with_reducible rfl
       rotate_left
       ·simp only [Act.put, lA, lB, lC, aU, aV]
        rfl
       refine done_ (done_of HT_.out (by kernel_rfl)) ?_
       try go_wp2
       go_ret
       exact ⟨by first | rfl | (simp [errW_none, errW_some] <;> rfl) | (simp [*, errW_none, errW_some] <;> rfl), by repeat (first | (with_reducible first | exact HB.out | apply aN | apply aE | apply aH | refine aC ?_ GE323.out) | exact HB.out)⟩
     ·rw [if_neg c4] at H
      exact absurd H (by simp)
    ·rw [if_neg c3] at H
     exact absurd H (by simp)
   ·rw [if_neg c2] at H
    have c2b0 : decide (x7_1 < (l0.length : Int)) = false := decide_eq_false c2
    clear c2
    obtain rfl := Option.some.inj H
    go_wp2
    go_ret
    exact ⟨by first | rfl | (simp [errW_none, errW_some] <;> rfl) | (simp [*, errW_none, errW_some] <;> rfl), by repeat (first | (with_reducible first | exact HB.out | apply aN | apply aE | apply aH) | exact HB.out)⟩
end Go.Proofs.Ythpfihklkcnckaa.PFnExactNodePut
