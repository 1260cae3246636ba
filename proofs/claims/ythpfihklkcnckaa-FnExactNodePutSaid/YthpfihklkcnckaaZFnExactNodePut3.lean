/- The law: the functions that it reaches, each with the proof that the machine's call comes to its answer, what they answer, and the law's row; each theorem says its conditions itself. -/
import Derived.Test.YthpfihklkcnckaaZFnExactNodePut2
namespace Go.Proofs.Ythpfihklkcnckaa.PFnExactNodePut
open Go.RowKit Go.Proofs.YthpfihklkcnckaaW.PrintWords Go.Proofs.YthpfihklkcnckaaW.PrintLast Go.Proofs.YthpfihklkcnckaaW.PrintMore
attribute [local go_sem] max2_int min2_int max_two min_two max_three min_three max_four min_four   -- for this text's walks alone
set_option linter.unusedVariables false
set_option linter.unusedSimpArgs false
def impl_NodeOk.l0 : Nat → Int → List (List (S27)) → Int → Int → List (List (S27)) → Option (Bool)
 | 0, _, _, _, _, _ => none
 | k + 1, x3, x7, x8, x9, x328000 => if x9 < x8 then (if 0 ≤ x9 then (if x9 < (x7.length : Int) then ((impl_SetOk.f k (rd_L4 x7 x9)).bind fun t329 => (if t329 = true then (if ((rd_L4 x7 x9).length : Int) = 0 then (some false) else (impl_NodeOk.l0 k (wrap64 (x3 + ((rd_L4 x7 x9).length : Int))) x7 x8 (wrap64 (x9 + 1)) x328000)) else (some false))) else (none)) else (none)) else (if (x328000.length : Int) ≤ 3 then (some (decide (x3 ≤ 8))) else (some false))
def impl_NodeOk.f (k : Nat) (l0_0 : List (List (S27))) : Option (Bool) := impl_NodeOk.l0 k 0 l0_0 (l0_0.length : Int) 0 l0_0
set_option maxHeartbeats 8000000 in
set_option maxRecDepth 100000 in
theorem impl_NodeOk.calls (k : Nat) (A0_0 : Option Addr) (c0_0 : Nat) (l0_0 : List (List (S27))) (r : Bool) (w : World) (hr0_0 : Kd.C (Kd.slice 27 k27) w A0_0 l0_0.length l0_0) (hc0_0 : l0_0.length ≤ c0_0) (h : impl_NodeOk.f k l0_0 = some r) :
  Calls Try.prog 29 #[.agg #[.slice A0_0 l0_0.length c0_0]] w fun e w' => e = .returned (.bool r) ∧ Below w.heap.size w w' := by
 have hu32 := Try.underlying32
 have HR0_0 := aA.mk hr0_0
 have HC0_0 := aA.mk hc0_0
 clear hr0_0 hc0_0
 have HB := aA.mk (Below.refl w.heap.size w)
 have H : (impl_NodeOk.l0 k 0 l0_0 (l0_0.length : Int) 0 l0_0) = some r := h
 clear h
 have H' := aA.mk H
 clear H
 go_enter Try.func29, Try.ntmps29
 go_wp2_with (first | ((with_reducible refine bA (N := 1) rfl ?_); (try (refine gate_guard (by rfl) ?_; dsimp only)); refine bC ?hg (N := 1) ?hd (cs := #[.slice A0_0 l0_0.length c0_0]) (t := 32) ?hr ?_; (case hd => rfl); (case hg => rfl); (case hr => first | (go_simp; done) | (go_simp; rfl)); intro gb327 hg w2 hbox hb; have BK327 := aA.mk (hbox); have GW327 := aA.mk ((by rw [hg]; exact (aQ HB.out) : w.heap.size ≤ gb327)); have GE327 := aA.mk ((by rw [hg]; exact (aQ HB.out) : w.heap.size ≤ gb327)); replace HB := aA.mk (aT HB.out hb); clear hb hbox hg; have hcz3_0 := cs1 BK327.out; have hfz3_0 := fs1 BK327.out))
 go_loopg [3, 9] k (fun kq v3 v9 w' => ∃ (x3_1 : Int) (x9_1 : Int), v3 = .int .i64 x3_1 ∧ v9 = .int .i64 x9_1 ∧ aA (impl_NodeOk.l0 kq x3_1 l0_0 (l0_0.length : Int) x9_1 l0_0 = some r) ∧ aA (kq ≤ k) ∧ aA (w'.heap[gb327]? = some (.cells #[(.slice A0_0 l0_0.length c0_0)] 32 (0, 0))) ∧ aA (Below w.heap.size w w'))
 case atStart => exact ⟨(0), (0), (by first | rfl | (simp; done) | (simp [*]; done)), (by first | rfl | (simp; done) | (simp [*]; done)), H', ⟨Nat.le_refl _⟩, ⟨by (with_reducible repeat (first | refine aM ?_ _ | refine aJ ?_ | refine aK ?_ _)); exact BK327.out⟩, ⟨by repeat (first | (with_reducible first | exact HB.out | apply aN | apply aE | apply aH | refine aC ?_ GE327.out) | exact HB.out)⟩⟩
 case round =>
  clear H'
  try clear c2
  try clear p2
  try clear hcz3_0
  try clear hfz3_0
  obtain ⟨x3_1, x9_1, rfl, rfl, HA, HK1, BK327, HB⟩ := hrel
  cases gk with
  | zero => exact absurd HA.out (by simp [impl_NodeOk.l0])
  | succ k1 =>
   have H := HA.out
   clear HA
   simp only [impl_NodeOk.l0] at H
   by_cases c4 : x9_1 < (l0_0.length : Int)
   ·rw [if_pos c4] at H
    have c4b0 : decide (x9_1 < (l0_0.length : Int)) = true := decide_eq_true c4
    clear c4
    by_cases c5 : 0 ≤ x9_1
    ·rw [if_pos c5] at H
     have c5b0 : decide (0 ≤ x9_1) = true := decide_eq_true c5
     clear c5
     by_cases c6 : x9_1 < (l0_0.length : Int)
     ·rw [if_pos c6] at H
      have c6b0 : decide (x9_1 < (l0_0.length : Int)) = true := decide_eq_true c6
      clear c6
      replace H := lF H
      obtain ⟨t329, A70, H⟩ := H
      replace H : (if t329 = true then (if ((rd_L4 l0_0 x9_1).length : Int) = 0 then (some false) else (impl_NodeOk.l0 k1 (wrap64 (x3_1 + ((rd_L4 l0_0 x9_1).length : Int))) l0_0 (l0_0.length : Int) (wrap64 (x9_1 + 1)) l0_0)) else (some false)) = some r := H
      have A7 := aA.mk A70
      clear A70
      by_cases c8 : t329 = true
      ·subst c8
       have H1 : (if ((rd_L4 l0_0 x9_1).length : Int) = 0 then (some false) else (impl_NodeOk.l0 k1 (wrap64 (x3_1 + ((rd_L4 l0_0 x9_1).length : Int))) l0_0 (l0_0.length : Int) (wrap64 (x9_1 + 1)) l0_0)) = some r := by rw [if_pos rfl] at H; exact H
       clear H
       have H := H1
       clear H1
       by_cases c9 : ((rd_L4 l0_0 x9_1).length : Int) = 0
       ·rw [if_pos c9] at H
        have c9b0 : (((rd_L4 l0_0 x9_1).length : Int) == 0) = true := beq_iff_eq.mpr c9
        have c9b1 : (((rd_L4 l0_0 x9_1).length : Int) != 0) = false := bne_eq_false_iff_eq.mpr c9
        clear c9
        obtain rfl := Option.some.inj H
        have p328 : 0 ≤ (x9_1 : Int) := lE (by assumption)
        have q328 : x9_1 < (l0_0.length : Int) := lE (by assumption)
        obtain ⟨ad328, A328_0, c328_0, e328, hx328_0, hl328_0, hi328_0⟩ := at_L4 HR0_0.out x9_1 p328 q328
        cases e328
        replace hx328_0 := (HB.out.cell (lD w _ hx328_0)).trans hx328_0
        have HR328_0 := aA.mk hi328_0
        have HC328_0 := aA.mk hl328_0
        clear hi328_0 hl328_0
        replace p328 := eq_true p328
        replace q328 := eq_true q328
        go_wp2_with (first | ((with_reducible refine bD (f := 63) rfl ?_); refine bL (some 14) rfl rfl Try.func63 (by kernel_rfl) rfl #[.slice A328_0 (rd_L4 l0_0 x9_1).length c328_0] rfl (by (try simp only [List.map_toArray, List.map_cons, List.map_nil]); first | done | rfl) ?_; (with_reducible refine (impl_SetOk.calls k1 _ _ (rd_L4 l0_0 x9_1) true _ ?side1 ?side2 A7.out).mono ?_); (case side1 => exact (Kd.bN HR328_0.out HB.out)); (case side2 => exact HC328_0.out); rintro e w10 ⟨rfl, hb⟩; refine ⟨_, rfl, ?_⟩; replace BK327 := aA.mk (aG (g := gb327) (o := .cells #[.slice (some ad328) l0_0.length c0_0] 32 (0, 0)) BK327.out hb); replace HB := aA.mk (aT HB.out hb); (try clear hb)))
        go_ret
        exact ⟨by first | rfl | (simp [errW_none, errW_some] <;> rfl) | (simp [*, errW_none, errW_some] <;> rfl), by repeat (first | (with_reducible first | exact HB.out | apply aN | apply aE | apply aH | refine aC ?_ GE327.out) | exact HB.out)⟩
       ·rw [if_neg c9] at H
        have c9b0 : (((rd_L4 l0_0 x9_1).length : Int) == 0) = false := beq_eq_false_iff_ne.mpr c9
        have c9b1 : (((rd_L4 l0_0 x9_1).length : Int) != 0) = true := bne_iff_ne.mpr c9
        have c9b2 : ¬ ((rd_L4 l0_0 x9_1) = []) := fun h_ => c9 (by rw [h_]; rfl)
        have H' := aA.mk H
        clear H
        have p328 : 0 ≤ (x9_1 : Int) := lE (by assumption)
        have q328 : x9_1 < (l0_0.length : Int) := lE (by assumption)
        obtain ⟨ad328, A328_0, c328_0, e328, hx328_0, hl328_0, hi328_0⟩ := at_L4 HR0_0.out x9_1 p328 q328
        cases e328
        replace hx328_0 := (HB.out.cell (lD w _ hx328_0)).trans hx328_0
        have HR328_0 := aA.mk hi328_0
        have HC328_0 := aA.mk hl328_0
        clear hi328_0 hl328_0
        replace p328 := eq_true p328
        replace q328 := eq_true q328
        go_wp2_with (first | ((with_reducible refine bD (f := 63) rfl ?_); refine bL (some 14) rfl rfl Try.func63 (by kernel_rfl) rfl #[.slice A328_0 (rd_L4 l0_0 x9_1).length c328_0] rfl (by (try simp only [List.map_toArray, List.map_cons, List.map_nil]); first | done | rfl) ?_; (with_reducible refine (impl_SetOk.calls k1 _ _ (rd_L4 l0_0 x9_1) true _ ?side1 ?side2 A7.out).mono ?_); (case side1 => exact (Kd.bN HR328_0.out HB.out)); (case side2 => exact HC328_0.out); rintro e w11 ⟨rfl, hb⟩; refine ⟨_, rfl, ?_⟩; replace BK327 := aA.mk (aG (g := gb327) (o := .cells #[.slice (some ad328) l0_0.length c0_0] 32 (0, 0)) BK327.out hb); replace HB := aA.mk (aT HB.out hb); (try clear hb)))
        go_roundg k1
        case measure => have := HK1.out; omega
        case rel => exact ⟨(wrap64 (x3_1 + ((rd_L4 l0_0 x9_1).length : Int))), (wrap64 (x9_1 + 1)), (by first | rfl | (simp; done) | (simp [*]; done)), (by first | rfl | (simp; done) | (simp [*]; done)), H', ⟨by have := HK1.out; omega⟩, ⟨by (with_reducible repeat (first | refine aM ?_ _ | refine aJ ?_ | refine aK ?_ _)); exact BK327.out⟩, ⟨by repeat (first | (with_reducible first | exact HB.out | apply aN | apply aE | apply aH | refine aC ?_ GE327.out) | exact HB.out)⟩⟩
      ·replace c8 := Bool.eq_false_iff.mpr c8
       subst c8
       have H1 : (some false) = some r := by rw [if_neg (show ¬ (false = true) by decide)] at H; exact H
       clear H
       have H := H1
       clear H1
       obtain rfl := Option.some.inj H
       have p328 : 0 ≤ (x9_1 : Int) := lE (by assumption)
       have q328 : x9_1 < (l0_0.length : Int) := lE (by assumption)
       obtain ⟨ad328, A328_0, c328_0, e328, hx328_0, hl328_0, hi328_0⟩ := at_L4 HR0_0.out x9_1 p328 q328
       cases e328
       replace hx328_0 := (HB.out.cell (lD w _ hx328_0)).trans hx328_0
       have HR328_0 := aA.mk hi328_0
       have HC328_0 := aA.mk hl328_0
       clear hi328_0 hl328_0
       replace p328 := eq_true p328
       replace q328 := eq_true q328
       go_wp2_with (first | ((with_reducible refine bD (f := 63) rfl ?_); refine bL (some 14) rfl rfl Try.func63 (by kernel_rfl) rfl #[.slice A328_0 (rd_L4 l0_0 x9_1).length c328_0] rfl (by (try simp only [List.map_toArray, List.map_cons, List.map_nil]); first | done | rfl) ?_; (with_reducible refine (impl_SetOk.calls k1 _ _ (rd_L4 l0_0 x9_1) false _ ?side1 ?side2 A7.out).mono ?_); (case side1 => exact (Kd.bN HR328_0.out HB.out)); (case side2 => exact HC328_0.out); rintro e w12 ⟨rfl, hb⟩; refine ⟨_, rfl, ?_⟩; replace BK327 := aA.mk (aG (g := gb327) (o := .cells #[.slice (some ad328) l0_0.length c0_0] 32 (0, 0)) BK327.out hb); replace HB := aA.mk (aT HB.out hb); (try clear hb)))
       go_ret
       exact ⟨by first | rfl | (simp [errW_none, errW_some] <;> rfl) | (simp [*, errW_none, errW_some] <;> rfl), by repeat (first | (with_reducible first | exact HB.out | apply aN | apply aE | apply aH | refine aC ?_ GE327.out) | exact HB.out)⟩
     ·rw [if_neg c6] at H
      exact absurd H (by simp)
    ·rw [if_neg c5] at H
     exact absurd H (by simp)
   ·rw [if_neg c4] at H
    have c4b0 : decide (x9_1 < (l0_0.length : Int)) = false := decide_eq_false c4
    clear c4
    by_cases c13 : (l0_0.length : Int) ≤ 3
    ·rw [if_pos c13] at H
     have c13b0 : decide ((l0_0.length : Int) ≤ 3) = true := decide_eq_true c13
     have c13b1 : decide (l0_0.length ≤ 3) = true := decide_eq_true (by omega)
     clear c13
     obtain rfl := Option.some.inj H
     have hcz14_0 := cs1 BK327.out
     have hfz14_0 := fs1 BK327.out
     go_wp2
     go_ret
     exact ⟨by first | rfl | (simp [errW_none, errW_some] <;> rfl) | (simp [*, errW_none, errW_some] <;> rfl), by repeat (first | (with_reducible first | exact HB.out | apply aN | apply aE | apply aH | refine aC ?_ GE327.out) | exact HB.out)⟩
    ·rw [if_neg c13] at H
     have c13b0 : decide ((l0_0.length : Int) ≤ 3) = false := decide_eq_false c13
     have c13b1 : decide (l0_0.length ≤ 3) = false := decide_eq_false (by omega)
     clear c13
     obtain rfl := Option.some.inj H
     have hcz15_0 := cs1 BK327.out
     have hfz15_0 := fs1 BK327.out
     go_wp2
     go_ret
     exact ⟨by first | rfl | (simp [errW_none, errW_some] <;> rfl) | (simp [*, errW_none, errW_some] <;> rfl), by repeat (first | (with_reducible first | exact HB.out | apply aN | apply aE | apply aH | refine aC ?_ GE327.out) | exact HB.out)⟩
def impl_SetAt.l0 : Nat → Int → Int → List (S27) → Int → Int → Option (Int × Int × Int × Int × Int × Bool)
 | 0, _, _, _, _, _ => none
 | k + 1, x1, x2, x10, x11, x12 => if x12 < x11 then (if 0 ≤ x12 then (if x12 < (x10.length : Int) then (if ((rd_T27 x10 x12).f0) = x1 then (if ((rd_T27 x10 x12).f1) = x2 then (some ((rd_T27 x10 x12).f0, (rd_T27 x10 x12).f1, (rd_T27 x10 x12).f2, (rd_T27 x10 x12).f3, (rd_T27 x10 x12).f4, true)) else (impl_SetAt.l0 k x1 x2 x10 x11 (wrap64 (x12 + 1)))) else (impl_SetAt.l0 k x1 x2 x10 x11 (wrap64 (x12 + 1)))) else (none)) else (none)) else (some (0, 0, 0, 0, 0, false))
def impl_SetAt.f (k : Nat) (l0 : List (S27)) (a1 : Int) (a2 : Int) : Option (Int × Int × Int × Int × Int × Bool) := impl_SetAt.l0 k a1 a2 l0 (l0.length : Int) 0
set_option maxHeartbeats 8000000 in
set_option maxRecDepth 100000 in
theorem impl_SetAt.calls (k : Nat) (A0 : Option Addr) (c0 : Nat) (l0 : List (S27)) (a1 : Int) (a2 : Int) (r1 : Int) (r2 : Int) (r3 : Int) (r4 : Int) (r5 : Int) (r6 : Bool) (w : World) (hr0 : Kd.C k27 w A0 l0.length l0) (hc0 : l0.length ≤ c0) (h : impl_SetAt.f k l0 a1 a2 = some (r1, r2, r3, r4, r5, r6)) :
  Calls Try.prog 56 #[.slice A0 l0.length c0, .int .i64 a1, .int .i64 a2] w fun e w' => e = .returned (.tuple #[.agg #[.int .i64 r1, .int .i64 r2, .int .i64 r3, .int .i64 r4, .int .i64 r5], .bool r6]) ∧ Below w.heap.size w w' := by
 have hu27 := Try.underlying27
 have HR0 := aA.mk hr0
 have HC0 := aA.mk hc0
 clear hr0 hc0
 have HB := aA.mk (Below.refl w.heap.size w)
 have H : (impl_SetAt.l0 k a1 a2 l0 (l0.length : Int) 0) = some (r1, r2, r3, r4, r5, r6) := h
 clear h
 have H' := aA.mk H
 clear H
 go_enter Try.func56, Try.ntmps56
 go_wp2_with (first | ((with_reducible refine bA (N := 6) rfl ?_); refine bC ?hg (N := 6) ?hd (cs := #[.int .i64 0, .int .i64 0, .int .i64 0, .int .i64 0, .int .i64 0]) (t := 27) ?hr ?_; (case hd => rfl); (case hg => rfl); (case hr => first | (go_simp; done) | (go_simp; rfl)); intro gb330 hg w4 hbox hb; have BK330 := aA.mk (hbox); have GW330 := aA.mk ((by rw [hg]; exact (aQ HB.out) : w.heap.size ≤ gb330)); have GE330 := aA.mk ((by rw [hg]; exact (aQ HB.out) : w.heap.size ≤ gb330)); replace HB := aA.mk (aT HB.out hb); clear hb hbox hg))
 go_loopg [12] k (fun kq v12 w' => ∃ (x12_1 : Int) (x331000_1 : Int) (x331001_1 : Int) (x331002_1 : Int) (x331003_1 : Int) (x331004_1 : Int), v12 = .int .i64 x12_1 ∧ aA (impl_SetAt.l0 kq a1 a2 l0 (l0.length : Int) x12_1 = some (r1, r2, r3, r4, r5, r6)) ∧ aA (kq ≤ k) ∧ aA (w'.heap[gb330]? = some (.cells #[.int .i64 x331000_1, .int .i64 x331001_1, .int .i64 x331002_1, .int .i64 x331003_1, .int .i64 x331004_1] 27 (0, 0))) ∧ aA (Below w.heap.size w w'))
 case atStart => exact ⟨(0), (0), (0), (0), (0), (0), (by first | rfl | (simp; done) | (simp [*]; done)), H', ⟨Nat.le_refl _⟩, ⟨by (with_reducible repeat (first | refine aM ?_ _ | refine aJ ?_ | refine aK ?_ _)); exact BK330.out⟩, ⟨by repeat (first | (with_reducible first | exact HB.out | apply aN | apply aE | apply aH | refine aC ?_ GE330.out) | exact HB.out)⟩⟩
 case round =>
  clear H'
  try clear p2
  obtain ⟨x12_1, x331000_1, x331001_1, x331002_1, x331003_1, x331004_1, rfl, HA, HK1, BK330, HB⟩ := hrel
  cases gk with
  | zero => exact absurd HA.out (by simp [impl_SetAt.l0])
  | succ k1 =>
   have H := HA.out
   clear HA
   simp only [impl_SetAt.l0] at H
   by_cases c5 : x12_1 < (l0.length : Int)
   ·rw [if_pos c5] at H
    have c5b0 : decide (x12_1 < (l0.length : Int)) = true := decide_eq_true c5
    clear c5
    by_cases c6 : 0 ≤ x12_1
    ·rw [if_pos c6] at H
     have c6b0 : decide (0 ≤ x12_1) = true := decide_eq_true c6
     clear c6
     by_cases c7 : x12_1 < (l0.length : Int)
     ·rw [if_pos c7] at H
      have c7b0 : decide (x12_1 < (l0.length : Int)) = true := decide_eq_true c7
      clear c7
      by_cases c8 : ((rd_T27 l0 x12_1).f0) = a1
      ·rw [if_pos c8] at H
       have c8b0 : (((rd_T27 l0 x12_1).f0) == a1) = true := beq_iff_eq.mpr c8
       have c8b1 : (((rd_T27 l0 x12_1).f0) != a1) = false := bne_eq_false_iff_eq.mpr c8
       clear c8
       by_cases c9 : ((rd_T27 l0 x12_1).f1) = a2
       ·rw [if_pos c9] at H
        have c9b0 : (((rd_T27 l0 x12_1).f1) == a2) = true := beq_iff_eq.mpr c9
        have c9b1 : (((rd_T27 l0 x12_1).f1) != a2) = false := bne_eq_false_iff_eq.mpr c9
        clear c9
        simp only [Option.some.injEq, Prod.mk.injEq] at H
        obtain ⟨rfl, rfl, rfl, rfl, rfl, rfl⟩ := H
        have p331 : 0 ≤ (x12_1 : Int) := lE (by assumption)
        have q331 : x12_1 < (l0.length : Int) := lE (by assumption)
        obtain ⟨ad331, e331, hx331_0, hx331_1, hx331_2, hx331_3, hx331_4⟩ := at_T27 HR0.out x12_1 p331 q331
        cases e331
        replace hx331_0 := (HB.out.cell (lD w _ hx331_0)).trans hx331_0
        replace hx331_1 := (HB.out.cell (lD w _ hx331_1)).trans hx331_1
        replace hx331_2 := (HB.out.cell (lD w _ hx331_2)).trans hx331_2
        replace hx331_3 := (HB.out.cell (lD w _ hx331_3)).trans hx331_3
        replace hx331_4 := (HB.out.cell (lD w _ hx331_4)).trans hx331_4
        replace p331 := eq_true p331
        replace q331 := eq_true q331
        go_wp2_with (first | ((with_reducible refine bA (N := 9) rfl ?_); refine bC ?hg (N := 9) ?hd (cs := #[.int .i64 0, .int .i64 0, .int .i64 0, .int .i64 0, .int .i64 0]) (t := 27) ?hr ?_; (case hd => rfl); (case hg => rfl); (case hr => first | (go_simp; done) | (go_simp; rfl)); intro gb332 hg w10 hbox hb; have BK332 := aA.mk (hbox); have GW332 := aA.mk ((by rw [hg]; exact (aQ HB.out) : w.heap.size ≤ gb332)); have GE332 := aA.mk ((by rw [hg]; exact (aQ HB.out) : w.heap.size ≤ gb332)); replace HB := aA.mk (aT HB.out hb); have NB330_332 := aA.mk ((by rw [hg]; exact Nat.ne_of_lt (aY (g := gb330) (o := .cells #[.int .i64 x331000_1, .int .i64 x331001_1, .int .i64 x331002_1, .int .i64 x331003_1, .int .i64 x331004_1] 27 (0, 0)) BK330.out) : gb330 ≠ gb332)); have NB332_330 := aA.mk ((by rw [hg]; exact Nat.ne_of_gt (aY (g := gb330) (o := .cells #[.int .i64 x331000_1, .int .i64 x331001_1, .int .i64 x331002_1, .int .i64 x331003_1, .int .i64 x331004_1] 27 (0, 0)) BK330.out) : gb332 ≠ gb330)); replace BK330 := aA.mk (aG (g := gb330) (o := .cells #[.int .i64 x331000_1, .int .i64 x331001_1, .int .i64 x331002_1, .int .i64 x331003_1, .int .i64 x331004_1] 27 (0, 0)) BK330.out hb); clear hb hbox hg; have hnb11 := NB332_330.out; have hnc11 := NB330_332.out; obtain ⟨hcz12_0, hcz12_1, hcz12_2, hcz12_3, hcz12_4⟩ := cs5 BK332.out; obtain ⟨hfz12_0, hfz12_1, hfz12_2, hfz12_3, hfz12_4⟩ := fs5 BK332.out; obtain ⟨hcz13_0, hcz13_1, hcz13_2, hcz13_3, hcz13_4⟩ := cs5 BK330.out; obtain ⟨hfz13_0, hfz13_1, hfz13_2, hfz13_3, hfz13_4⟩ := fs5 BK330.out))
        refine bodyPost_ret (results_ct rfl _ _ gb330 27 #[.int .i64 ((rd_T27 l0 x12_1).f0), .int .i64 ((rd_T27 l0 x12_1).f1), .int .i64 ((rd_T27 l0 x12_1).f2), .int .i64 ((rd_T27 l0 x12_1).f3), .int .i64 ((rd_T27 l0 x12_1).f4)] (0, 0) _ rfl (by (with_reducible repeat (first | refine aM ?_ _ | refine aJ ?_ | refine aK ?_ _)); refine bE (cs := #[.int .i64 ((rd_T27 l0 x12_1).f0), .int .i64 ((rd_T27 l0 x12_1).f1), .int .i64 ((rd_T27 l0 x12_1).f2), .int .i64 ((rd_T27 l0 x12_1).f3), .int .i64 x331004_1]) ?_ 4 _ rfl; (with_reducible repeat (first | refine aM ?_ _ | refine aJ ?_ | refine aK ?_ _)); refine bE (cs := #[.int .i64 ((rd_T27 l0 x12_1).f0), .int .i64 ((rd_T27 l0 x12_1).f1), .int .i64 ((rd_T27 l0 x12_1).f2), .int .i64 x331003_1, .int .i64 x331004_1]) ?_ 3 _ rfl; (with_reducible repeat (first | refine aM ?_ _ | refine aJ ?_ | refine aK ?_ _)); refine bE (cs := #[.int .i64 ((rd_T27 l0 x12_1).f0), .int .i64 ((rd_T27 l0 x12_1).f1), .int .i64 x331002_1, .int .i64 x331003_1, .int .i64 x331004_1]) ?_ 2 _ rfl; (with_reducible repeat (first | refine aM ?_ _ | refine aJ ?_ | refine aK ?_ _)); refine bE (cs := #[.int .i64 ((rd_T27 l0 x12_1).f0), .int .i64 x331001_1, .int .i64 x331002_1, .int .i64 x331003_1, .int .i64 x331004_1]) ?_ 1 _ rfl; (with_reducible repeat (first | refine aM ?_ _ | refine aJ ?_ | refine aK ?_ _)); refine bE (cs := #[.int .i64 x331000_1, .int .i64 x331001_1, .int .i64 x331002_1, .int .i64 x331003_1, .int .i64 x331004_1]) ?_ 0 _ rfl; (with_reducible repeat (first | refine aM ?_ _ | refine aJ ?_ | refine aK ?_ _)); refine bB ?_ NB330_332.out _; (with_reducible repeat (first | refine aM ?_ _ | refine aJ ?_ | refine aK ?_ _)); refine bB ?_ NB330_332.out _; (with_reducible repeat (first | refine aM ?_ _ | refine aJ ?_ | refine aK ?_ _)); refine bB ?_ NB330_332.out _; (with_reducible repeat (first | refine aM ?_ _ | refine aJ ?_ | refine aK ?_ _)); refine bB ?_ NB330_332.out _; (with_reducible repeat (first | refine aM ?_ _ | refine aJ ?_ | refine aK ?_ _)); refine bB ?_ NB330_332.out _; (with_reducible repeat (first | refine aM ?_ _ | refine aJ ?_ | refine aK ?_ _)); exact BK330.out) Try.underlying27 rfl (by kernel_rfl)) rfl ?_
        exact ⟨by first | rfl | (simp [errW_none, errW_some] <;> rfl) | (simp [*, errW_none, errW_some] <;> rfl), by repeat (first | (with_reducible first | exact HB.out | apply aN | apply aE | apply aH | refine aC ?_ GE330.out | refine aC ?_ GE332.out) | exact HB.out)⟩
       ·rw [if_neg c9] at H
        have c9b0 : (((rd_T27 l0 x12_1).f1) == a2) = false := beq_eq_false_iff_ne.mpr c9
        have c9b1 : (((rd_T27 l0 x12_1).f1) != a2) = true := bne_iff_ne.mpr c9
        have H' := aA.mk H
        clear H
        have p331 : 0 ≤ (x12_1 : Int) := lE (by assumption)
        have q331 : x12_1 < (l0.length : Int) := lE (by assumption)
        obtain ⟨ad331, e331, hx331_0, hx331_1, hx331_2, hx331_3, hx331_4⟩ := at_T27 HR0.out x12_1 p331 q331
        cases e331
        replace hx331_0 := (HB.out.cell (lD w _ hx331_0)).trans hx331_0
        replace hx331_1 := (HB.out.cell (lD w _ hx331_1)).trans hx331_1
        replace hx331_2 := (HB.out.cell (lD w _ hx331_2)).trans hx331_2
        replace hx331_3 := (HB.out.cell (lD w _ hx331_3)).trans hx331_3
        replace hx331_4 := (HB.out.cell (lD w _ hx331_4)).trans hx331_4
        replace p331 := eq_true p331
        replace q331 := eq_true q331
        go_wp2_with (first | ((with_reducible refine bA (N := 9) rfl ?_); refine bC ?hg (N := 9) ?hd (cs := #[.int .i64 0, .int .i64 0, .int .i64 0, .int .i64 0, .int .i64 0]) (t := 27) ?hr ?_; (case hd => rfl); (case hg => rfl); (case hr => first | (go_simp; done) | (go_simp; rfl)); intro gb332 hg w14 hbox hb; have BK332 := aA.mk (hbox); have GW332 := aA.mk ((by rw [hg]; exact (aQ HB.out) : w.heap.size ≤ gb332)); have GE332 := aA.mk ((by rw [hg]; exact (aQ HB.out) : w.heap.size ≤ gb332)); replace HB := aA.mk (aT HB.out hb); have NB330_332 := aA.mk ((by rw [hg]; exact Nat.ne_of_lt (aY (g := gb330) (o := .cells #[.int .i64 x331000_1, .int .i64 x331001_1, .int .i64 x331002_1, .int .i64 x331003_1, .int .i64 x331004_1] 27 (0, 0)) BK330.out) : gb330 ≠ gb332)); have NB332_330 := aA.mk ((by rw [hg]; exact Nat.ne_of_gt (aY (g := gb330) (o := .cells #[.int .i64 x331000_1, .int .i64 x331001_1, .int .i64 x331002_1, .int .i64 x331003_1, .int .i64 x331004_1] 27 (0, 0)) BK330.out) : gb332 ≠ gb330)); replace BK330 := aA.mk (aG (g := gb330) (o := .cells #[.int .i64 x331000_1, .int .i64 x331001_1, .int .i64 x331002_1, .int .i64 x331003_1, .int .i64 x331004_1] 27 (0, 0)) BK330.out hb); clear hb hbox hg; have hnb15 := NB332_330.out; have hnc15 := NB330_332.out; obtain ⟨hcz16_0, hcz16_1, hcz16_2, hcz16_3, hcz16_4⟩ := cs5 BK332.out; obtain ⟨hfz16_0, hfz16_1, hfz16_2, hfz16_3, hfz16_4⟩ := fs5 BK332.out))
        go_roundg k1
        case measure => have := HK1.out; omega
        case rel => exact ⟨(wrap64 (x12_1 + 1)), (x331000_1), (x331001_1), (x331002_1), (x331003_1), (x331004_1), (by first | rfl | (simp; done) | (simp [*]; done)), H', ⟨by have := HK1.out; omega⟩, ⟨by (with_reducible repeat (first | refine aM ?_ _ | refine aJ ?_ | refine aK ?_ _)); refine bB ?_ NB330_332.out _; (with_reducible repeat (first | refine aM ?_ _ | refine aJ ?_ | refine aK ?_ _)); refine bB ?_ NB330_332.out _; (with_reducible repeat (first | refine aM ?_ _ | refine aJ ?_ | refine aK ?_ _)); refine bB ?_ NB330_332.out _; (with_reducible repeat (first | refine aM ?_ _ | refine aJ ?_ | refine aK ?_ _)); refine bB ?_ NB330_332.out _; (with_reducible repeat (first | refine aM ?_ _ | refine aJ ?_ | refine aK ?_ _)); refine bB ?_ NB330_332.out _; (with_reducible repeat (first | refine aM ?_ _ | refine aJ ?_ | refine aK ?_ _)); exact BK330.out⟩, ⟨by repeat (first | (with_reducible first | exact HB.out | apply aN | apply aE | apply aH | refine aC ?_ GE330.out | refine aC ?_ GE332.out) | exact HB.out)⟩⟩
      ·rw [if_neg c8] at H
       have c8b0 : (((rd_T27 l0 x12_1).f0) == a1) = false := beq_eq_false_iff_ne.mpr c8
       have c8b1 : (((rd_T27 l0 x12_1).f0) != a1) = true := bne_iff_ne.mpr c8
       have H' := aA.mk H
       clear H
       have p331 : 0 ≤ (x12_1 : Int) := lE (by assumption)
       have q331 : x12_1 < (l0.length : Int) := lE (by assumption)
       obtain ⟨ad331, e331, hx331_0, hx331_1, hx331_2, hx331_3, hx331_4⟩ := at_T27 HR0.out x12_1 p331 q331
       cases e331
       replace hx331_0 := (HB.out.cell (lD w _ hx331_0)).trans hx331_0
       replace hx331_1 := (HB.out.cell (lD w _ hx331_1)).trans hx331_1
       replace hx331_2 := (HB.out.cell (lD w _ hx331_2)).trans hx331_2
       replace hx331_3 := (HB.out.cell (lD w _ hx331_3)).trans hx331_3
       replace hx331_4 := (HB.out.cell (lD w _ hx331_4)).trans hx331_4
       replace p331 := eq_true p331
       replace q331 := eq_true q331
       go_wp2_with (first | ((with_reducible refine bA (N := 9) rfl ?_); refine bC ?hg (N := 9) ?hd (cs := #[.int .i64 0, .int .i64 0, .int .i64 0, .int .i64 0, .int .i64 0]) (t := 27) ?hr ?_; (case hd => rfl); (case hg => rfl); (case hr => first | (go_simp; done) | (go_simp; rfl)); intro gb332 hg w17 hbox hb; have BK332 := aA.mk (hbox); have GW332 := aA.mk ((by rw [hg]; exact (aQ HB.out) : w.heap.size ≤ gb332)); have GE332 := aA.mk ((by rw [hg]; exact (aQ HB.out) : w.heap.size ≤ gb332)); replace HB := aA.mk (aT HB.out hb); have NB330_332 := aA.mk ((by rw [hg]; exact Nat.ne_of_lt (aY (g := gb330) (o := .cells #[.int .i64 x331000_1, .int .i64 x331001_1, .int .i64 x331002_1, .int .i64 x331003_1, .int .i64 x331004_1] 27 (0, 0)) BK330.out) : gb330 ≠ gb332)); have NB332_330 := aA.mk ((by rw [hg]; exact Nat.ne_of_gt (aY (g := gb330) (o := .cells #[.int .i64 x331000_1, .int .i64 x331001_1, .int .i64 x331002_1, .int .i64 x331003_1, .int .i64 x331004_1] 27 (0, 0)) BK330.out) : gb332 ≠ gb330)); replace BK330 := aA.mk (aG (g := gb330) (o := .cells #[.int .i64 x331000_1, .int .i64 x331001_1, .int .i64 x331002_1, .int .i64 x331003_1, .int .i64 x331004_1] 27 (0, 0)) BK330.out hb); clear hb hbox hg; have hnb18 := NB332_330.out; have hnc18 := NB330_332.out; obtain ⟨hcz19_0, hcz19_1, hcz19_2, hcz19_3, hcz19_4⟩ := cs5 BK332.out; obtain ⟨hfz19_0, hfz19_1, hfz19_2, hfz19_3, hfz19_4⟩ := fs5 BK332.out))
       go_roundg k1
       case measure => have := HK1.out; omega
       case rel => exact ⟨(wrap64 (x12_1 + 1)), (x331000_1), (x331001_1), (x331002_1), (x331003_1), (x331004_1), (by first | rfl | (simp; done) | (simp [*]; done)), H', ⟨by have := HK1.out; omega⟩, ⟨by (with_reducible repeat (first | refine aM ?_ _ | refine aJ ?_ | refine aK ?_ _)); refine bB ?_ NB330_332.out _; (with_reducible repeat (first | refine aM ?_ _ | refine aJ ?_ | refine aK ?_ _)); refine bB ?_ NB330_332.out _; (with_reducible repeat (first | refine aM ?_ _ | refine aJ ?_ | refine aK ?_ _)); refine bB ?_ NB330_332.out _; (with_reducible repeat (first | refine aM ?_ _ | refine aJ ?_ | refine aK ?_ _)); refine bB ?_ NB330_332.out _; (with_reducible repeat (first | refine aM ?_ _ | refine aJ ?_ | refine aK ?_ _)); refine bB ?_ NB330_332.out _; (with_reducible repeat (first | refine aM ?_ _ | refine aJ ?_ | refine aK ?_ _)); exact BK330.out⟩, ⟨by repeat (first | (with_reducible first | exact HB.out | apply aN | apply aE | apply aH | refine aC ?_ GE330.out | refine aC ?_ GE332.out) | exact HB.out)⟩⟩
     ·rw [if_neg c7] at H
      exact absurd H (by simp)
    ·rw [if_neg c6] at H
     exact absurd H (by simp)
   ·rw [if_neg c5] at H
    have c5b0 : decide (x12_1 < (l0.length : Int)) = false := decide_eq_false c5
    clear c5
    simp only [Option.some.injEq, Prod.mk.injEq] at H
    obtain ⟨rfl, rfl, rfl, rfl, rfl, rfl⟩ := H
    obtain ⟨hcz20_0, hcz20_1, hcz20_2, hcz20_3, hcz20_4⟩ := cs5 BK330.out
    obtain ⟨hfz20_0, hfz20_1, hfz20_2, hfz20_3, hfz20_4⟩ := fs5 BK330.out
    go_wp2
    refine bodyPost_ret (results_ct rfl _ _ gb330 27 #[.int .i64 0, .int .i64 0, .int .i64 0, .int .i64 0, .int .i64 0] (0, 0) _ rfl (by (with_reducible repeat (first | refine aM ?_ _ | refine aJ ?_ | refine aK ?_ _)); refine bE (cs := #[.int .i64 0, .int .i64 0, .int .i64 0, .int .i64 0, .int .i64 x331004_1]) ?_ 4 _ rfl; (with_reducible repeat (first | refine aM ?_ _ | refine aJ ?_ | refine aK ?_ _)); refine bE (cs := #[.int .i64 0, .int .i64 0, .int .i64 0, .int .i64 x331003_1, .int .i64 x331004_1]) ?_ 3 _ rfl; (with_reducible repeat (first | refine aM ?_ _ | refine aJ ?_ | refine aK ?_ _)); refine bE (cs := #[.int .i64 0, .int .i64 0, .int .i64 x331002_1, .int .i64 x331003_1, .int .i64 x331004_1]) ?_ 2 _ rfl; (with_reducible repeat (first | refine aM ?_ _ | refine aJ ?_ | refine aK ?_ _)); refine bE (cs := #[.int .i64 0, .int .i64 x331001_1, .int .i64 x331002_1, .int .i64 x331003_1, .int .i64 x331004_1]) ?_ 1 _ rfl; (with_reducible repeat (first | refine aM ?_ _ | refine aJ ?_ | refine aK ?_ _)); refine bE (cs := #[.int .i64 x331000_1, .int .i64 x331001_1, .int .i64 x331002_1, .int .i64 x331003_1, .int .i64 x331004_1]) ?_ 0 _ rfl; (with_reducible repeat (first | refine aM ?_ _ | refine aJ ?_ | refine aK ?_ _)); exact BK330.out) Try.underlying27 rfl (by kernel_rfl)) rfl ?_
    exact ⟨by first | rfl | (simp [errW_none, errW_some] <;> rfl) | (simp [*, errW_none, errW_some] <;> rfl), by repeat (first | (with_reducible first | exact HB.out | apply aN | apply aE | apply aH | refine aC ?_ GE330.out) | exact HB.out)⟩
def impl_copyNode.l0 : Nat → List (List (S27)) → Int → Int → List (List (S27)) → Option ((List (List (S27))))
 | 0, _, _, _, _ => none
 | k + 1, x8, x9, x10, x336000 => if x10 < x9 then (if 0 ≤ x10 then (if x10 < (x8.length : Int) then ((impl_copyKeys.f (rd_L4 x8 x10)).bind fun t337 => (if x336000.length < 5864062014805 then (impl_copyNode.l0 k x8 x9 (wrap64 (x10 + 1)) (x336000 ++ [t337])) else (none))) else (none)) else (none)) else (some x336000)
def impl_copyNode.f (k : Nat) (l0_0 : List (List (S27))) : Option ((List (List (S27)))) := impl_copyNode.l0 k l0_0 (l0_0.length : Int) 0 ([] : List (List (S27)))
def impl_copyNode.T5 : Bool × List (List Nat × List Nat) := (true, [([], []), ([0], [0]), ([], []), ([2], [2]), ([3], [3]), ([1, 4, 3], [1, 4]), ([0, 1, 2, 3, 4, 5], []), ([6, 5, 5, 0, 1, 2, 3, 4, 5], [5, 6])])
def impl_copyNode.B5 : List Nat := [0, 1, 0, 4, 12, 31, 63, 127]
theorem impl_copyNode.tab5 : rtab .any (opsOf Try.f70 5) = impl_copyNode.T5 := by kernel_rfl
theorem impl_copyNode.bits5 : waitsOk impl_copyNode.T5.2 impl_copyNode.B5 = true := by kernel_rfl
set_option maxHeartbeats 8000000 in
set_option maxRecDepth 100000 in
theorem impl_copyNode.calls (k : Nat) (A0_0 : Option Addr) (c0_0 : Nat) (l0_0 : List (List (S27))) (r : List (List (S27))) (w : World) (hr0_0 : Kd.C (Kd.slice 27 k27) w A0_0 l0_0.length l0_0) (hc0_0 : l0_0.length ≤ c0_0) (h : impl_copyNode.f k l0_0 = some r) :
  Calls Try.prog 70 #[.agg #[.slice A0_0 l0_0.length c0_0]] w fun e w' => ∃ v0_ : Value, e = .returned (.agg #[v0_]) ∧ Kd.S (Kd.slice 27 k27) 40 w' w.heap.size (fun _ => True) v0_ r ∧ Below w.heap.size w w' := by
 have hu32 := Try.underlying32
 have HR0_0 := aA.mk hr0_0
 have HC0_0 := aA.mk hc0_0
 clear hr0_0 hc0_0
 have HB := aA.mk (Below.refl w.heap.size w)
 have H : (impl_copyNode.l0 k l0_0 (l0_0.length : Int) 0 ([] : List (List (S27)))) = some r := h
 clear h
 have H' := aA.mk H
 clear H
 go_enter Try.func70, Try.ntmps70
 go_wp2_with (first | ((with_reducible refine bA (N := 1) rfl ?_); refine bC ?hg (N := 1) ?hd (cs := #[.slice A0_0 l0_0.length c0_0]) (t := 32) ?hr ?_; (case hd => rfl); (case hg => rfl); (case hr => first | (go_simp; done) | (go_simp; rfl)); intro gb333 hg w2 hbox hb; have BK333 := aA.mk (hbox); have GW333 := aA.mk ((by rw [hg]; exact (aQ HB.out) : w.heap.size ≤ gb333)); have GE333 := aA.mk ((by rw [hg]; exact (aQ HB.out) : w.heap.size ≤ gb333)); replace HB := aA.mk (aT HB.out hb); clear hb hbox hg) | ((with_reducible refine bA (N := 2) rfl ?_); refine bC ?hg (N := 2) ?hd (cs := #[.slice none 0 0]) (t := 32) ?hr ?_; (case hd => rfl); (case hg => rfl); (case hr => first | (go_simp; done) | (go_simp; rfl)); intro gb334 hg w3 hbox hb; have BK334 := aA.mk (hbox); have GW334 := aA.mk ((by rw [hg]; exact (aQ HB.out) : w.heap.size ≤ gb334)); have GE334 := aA.mk ((by rw [hg]; exact (aQ HB.out) : w.heap.size ≤ gb334)); replace HB := aA.mk (aT HB.out hb); have NB333_334 := aA.mk ((by rw [hg]; exact Nat.ne_of_lt (aY (g := gb333) (o := .cells #[.slice A0_0 l0_0.length c0_0] 32 (0, 0)) BK333.out) : gb333 ≠ gb334)); have NB334_333 := aA.mk ((by rw [hg]; exact Nat.ne_of_gt (aY (g := gb333) (o := .cells #[.slice A0_0 l0_0.length c0_0] 32 (0, 0)) BK333.out) : gb334 ≠ gb333)); replace BK333 := aA.mk (aG (g := gb333) (o := .cells #[.slice A0_0 l0_0.length c0_0] 32 (0, 0)) BK333.out hb); clear hb hbox hg) | ((with_reducible refine bA (N := 3) rfl ?_); refine bC ?hg (N := 3) ?hd (cs := #[.slice none 0 0]) (t := 32) ?hr ?_; (case hd => rfl); (case hg => rfl); (case hr => first | (go_simp; done) | (go_simp; rfl)); intro gb335 hg w4 hbox hb; have BK335 := aA.mk (hbox); have GW335 := aA.mk ((by rw [hg]; exact (aQ HB.out) : w.heap.size ≤ gb335)); have GE335 := aA.mk ((by rw [hg]; exact (aQ HB.out) : w.heap.size ≤ gb335)); replace HB := aA.mk (aT HB.out hb); have NB333_335 := aA.mk ((by rw [hg]; exact Nat.ne_of_lt (aY (g := gb333) (o := .cells #[.slice A0_0 l0_0.length c0_0] 32 (0, 0)) BK333.out) : gb333 ≠ gb335)); have NB335_333 := aA.mk ((by rw [hg]; exact Nat.ne_of_gt (aY (g := gb333) (o := .cells #[.slice A0_0 l0_0.length c0_0] 32 (0, 0)) BK333.out) : gb335 ≠ gb333)); replace BK333 := aA.mk (aG (g := gb333) (o := .cells #[.slice A0_0 l0_0.length c0_0] 32 (0, 0)) BK333.out hb); have NB334_335 := aA.mk ((by rw [hg]; exact Nat.ne_of_lt (aY (g := gb334) (o := .cells #[.slice none 0 0] 32 (0, 0)) BK334.out) : gb334 ≠ gb335)); have NB335_334 := aA.mk ((by rw [hg]; exact Nat.ne_of_gt (aY (g := gb334) (o := .cells #[.slice none 0 0] 32 (0, 0)) BK334.out) : gb335 ≠ gb334)); replace BK334 := aA.mk (aG (g := gb334) (o := .cells #[.slice none 0 0] 32 (0, 0)) BK334.out hb); clear hb hbox hg; have hnb5 := NB335_333.out; have hnc5 := NB333_335.out; have hnb6 := NB335_334.out; have hnc6 := NB334_335.out; have hcz7_0 := cs1 BK335.out; have hfz7_0 := fs1 BK335.out; have hnb8 := NB333_334.out; have hnc8 := NB334_333.out; have hcz9_0 := cs1 BK333.out; have hfz9_0 := fs1 BK333.out))
 go_loopg [10] k (fun kq v10 w' => ∃ (x10_1 : Int) (x336000_1 : List (List (S27))) (u336000 : Value), v10 = .int .i64 x10_1 ∧ aA (impl_copyNode.l0 kq l0_0 (l0_0.length : Int) x10_1 x336000_1 = some r) ∧ aA (kq ≤ k) ∧ aA (Kd.S (Kd.slice 27 k27) 40 w' w.heap.size (fun _ => True) u336000 x336000_1) ∧ aA (w'.heap[gb333]? = some (.cells #[(.slice A0_0 l0_0.length c0_0)] 32 (0, 0))) ∧ aA (w'.heap[gb334]? = some (.cells #[(.slice none 0 0)] 32 (0, 0))) ∧ aA (w'.heap[gb335]? = some (.cells #[u336000] 32 (0, 0))) ∧ aA (Below w.heap.size w w'))
 case atStart => exact ⟨(0), (([] : List (List (S27)))), (.slice none 0 0), (by first | rfl | (simp; done) | (simp [*]; done)), H', ⟨Nat.le_refl _⟩, ⟨by first | exact Kd.S_nil _ _ _ _ _ | exact Kd.N_nil _ _ _ _ _ | exact Kd.V_nil _ _ _ _ _ | exact Kd.Q_nil _ _ _ _ _ | exact Kd.R_nil _ _ _ _ _⟩, ⟨by (with_reducible repeat (first | refine aM ?_ _ | refine aJ ?_ | refine aK ?_ _)); refine bB ?_ NB333_335.out _; (with_reducible repeat (first | refine aM ?_ _ | refine aJ ?_ | refine aK ?_ _)); exact BK333.out⟩, ⟨by (with_reducible repeat (first | refine aM ?_ _ | refine aJ ?_ | refine aK ?_ _)); refine bB ?_ NB334_335.out _; (with_reducible repeat (first | refine aM ?_ _ | refine aJ ?_ | refine aK ?_ _)); exact BK334.out⟩, ⟨by (with_reducible repeat (first | refine aM ?_ _ | refine aJ ?_ | refine aK ?_ _)); refine bE (cs := #[.slice none 0 0]) ?_ 0 _ rfl; (with_reducible repeat (first | refine aM ?_ _ | refine aJ ?_ | refine aK ?_ _)); exact BK335.out⟩, ⟨by repeat (first | (with_reducible first | exact HB.out | apply aN | apply aE | apply aH | refine aC ?_ GE333.out | refine aC ?_ GE334.out | refine aC ?_ GE335.out) | exact HB.out)⟩⟩
 case round =>
  clear H'
  try clear p2
  try clear c5
  try clear c6
  try clear c7
  try clear c8
  try clear hcz7_0
  try clear hcz9_0
  try clear hfz7_0
  try clear hfz9_0
  obtain ⟨x10_1, x336000_1, u336000, rfl, HA, HK1, HO_336000, BK333, BK334, BK335, HB⟩ := hrel
  cases gk with
  | zero => exact absurd HA.out (by simp [impl_copyNode.l0])
  | succ k1 =>
   have H := HA.out
   clear HA
   simp only [impl_copyNode.l0] at H
   by_cases c10 : x10_1 < (l0_0.length : Int)
   ·rw [if_pos c10] at H
    have c10b0 : decide (x10_1 < (l0_0.length : Int)) = true := decide_eq_true c10
    clear c10
    by_cases c11 : 0 ≤ x10_1
    ·rw [if_pos c11] at H
     have c11b0 : decide (0 ≤ x10_1) = true := decide_eq_true c11
     clear c11
     by_cases c12 : x10_1 < (l0_0.length : Int)
     ·rw [if_pos c12] at H
      have c12b0 : decide (x10_1 < (l0_0.length : Int)) = true := decide_eq_true c12
      clear c12
      replace H := lF H
      obtain ⟨t337, A130, H⟩ := H
      replace H : (if x336000_1.length < 5864062014805 then (impl_copyNode.l0 k1 l0_0 (l0_0.length : Int) (wrap64 (x10_1 + 1)) (x336000_1 ++ [t337])) else (none)) = some r := H
      have A13 := aA.mk A130
      clear A130
      by_cases c14 : x336000_1.length < 5864062014805
      ·rw [if_pos c14] at H
       have LMc14 := aA.mk c14
       clear c14
       obtain ⟨y340, hy340⟩ : ∃ y_ : List (List (S27)), y_ = (x336000_1 ++ [t337]) := ⟨_, rfl⟩
       replace H : (impl_copyNode.l0 k1 l0_0 (l0_0.length : Int) (wrap64 (x10_1 + 1)) y340) = some r := by first | (rw [hy340]; with_reducible exact H) | (have H2_ := (Option.bind_some _ _).symm.trans H; rw [hy340]; with_reducible exact H2_) | (have H2_ := (Option.bind_some _ _).symm.trans H; with_reducible exact H2_) | with_reducible exact H | (rw [hy340]; exact H) | exact H
       have Ny340 := aA.mk hy340
       clear hy340
       have H' := aA.mk H
       clear H
       have p336 : 0 ≤ (x10_1 : Int) := lE (by assumption)
       have q336 : x10_1 < (l0_0.length : Int) := lE (by assumption)
       obtain ⟨ad336, A336_0, c336_0, e336, hx336_0, hl336_0, hi336_0⟩ := at_L4 HR0_0.out x10_1 p336 q336
       cases e336
       replace hx336_0 := (HB.out.cell (lD w _ hx336_0)).trans hx336_0
       have HR336_0 := aA.mk hi336_0
       have HC336_0 := aA.mk hl336_0
       clear hi336_0 hl336_0
       replace p336 := eq_true p336
       replace q336 := eq_true q336
       try go_wp2
       replace HO_336000 := aA.mk (Kd.S_drew HO_336000.out)
       replace BK333 := aA.mk (aJ BK333.out)
       replace BK334 := aA.mk (aJ BK334.out)
       replace BK335 := aA.mk (aJ BK335.out)
       replace HB := aA.mk (aH HB.out)
       refine start_ (n := 8) (S := fun w' => w'.cell? ⟨gb335, 0, none⟩ = some (u336000)) (ds := [7]) #[false, false, false, false, false, false, false, false] (by kernel_rfl) rfl rfl ((aD BK335.out 0).trans rfl) (fun hHeld => ?_); refine with_tabW impl_copyNode.tab5 impl_copyNode.bits5 (fun HT_ HW_ => ?_)
       generalize wr.drew = w15 at HO_336000 BK333 BK334 BK335 HB hHeld ⊢
       refine aW (i := 0) (N := some 14) (v := ?_) (a' := ?_) #[true, false, false, false, false, false, false, false] rfl rfl (aZ HT_.out (by kernel_rfl)) (fun _ _ _ h => h) (Or.inl ⟨by rfl, ?_⟩) ?_ ?_
       rotate_left
       ·intro w'
        go_simp
        with_reducible rfl
       rotate_left
       ·simp only [Act.put, lA, lB, lC, aU, aV]
        rfl
       refine aW (i := 2) (N := some 16) (v := ?_) (a' := ?_) #[true, false, true, false, false, false, false, false] rfl rfl (aZ HT_.out (by kernel_rfl)) (fun _ _ _ h => h) (Or.inl ⟨by rfl, ?_⟩) ?_ ?_
       rotate_left
       ·intro w'
        go_simp
        with_reducible rfl
       rotate_left
       ·simp only [Act.put, lA, lB, lC, aU, aV]
        rfl
       refine take_ (i := 1) (N := some 15) (v := ?_) (a' := ?_) #[true, true, true, false, false, false, false, false] rfl rfl (bV HT_.out HW_.out (by kernel_rfl)) (fun _ _ _ h => h) (Or.inl ⟨by rfl, ?_⟩) hHeld ?_ ?_
       rotate_left
       ·intro w' s0
        go_simp
        with_reducible rfl
       rotate_left
       ·simp only [Act.put, lA, lB, lC, aU, aV]
        rfl
       refine one_ (i := 3) (N := some 17) #[true, true, true, true, false, false, false, false] rfl rfl (one_of HT_.out (by kernel_rfl)) (by decide) (fun K hK => ?_)
       refine goes_ Try.func58 (by kernel_rfl) rfl #[.slice A336_0 (rd_L4 l0_0 x10_1).length c336_0] (by rfl) rfl rfl (by (try simp only [List.map_toArray, List.map_cons, List.map_nil]); first | done | rfl) ?_
       with_reducible refine (impl_copyKeys.calls _ _ (rd_L4 l0_0 x10_1) t337 _ ?side1 ?side2 A13.out).mono ?_
       (case side1 => exact (Kd.bN HR336_0.out HB.out))
       (case side2 => exact HC336_0.out)
       rintro e w16 ⟨v338, rfl, ho0, hb⟩
       refine ⟨_, rfl, ?_⟩
       replace HO_336000 := aA.mk (Kd.S_elder' HO_336000.out (Kd.R_base ho0) hb)
       have HO339 := aA.mk (Kd.R_lower ho0 (aQ HB.out))
       replace BK333 := aA.mk (aG (g := gb333) (o := .cells #[.slice (some ad336) l0_0.length c0_0] 32 (0, 0)) BK333.out hb)
       replace BK334 := aA.mk (aG (g := gb334) (o := .cells #[.slice none 0 0] 32 (0, 0)) BK334.out hb)
       replace BK335 := aA.mk (aG (g := gb335) (o := .cells #[u336000] 32 (0, 0)) BK335.out hb)
       replace HB := aA.mk (aT HB.out hb)
       (try clear hb)
       (try clear hb2)
       (try clear hk)
       (try clear hi)
       (try clear ho0)
       obtain ⟨Ao18, co18, eo18⟩ := Kd.R_slice HO339.out
       (first | subst eo18 | (injection eo18 with f1_ f2_ f3_; have f4_ := f1_.symm; have f5_ := f3_.symm; clear f1_ f2_ f3_; subst f4_; subst f5_))
       refine hK.out _ _ ((aD BK335.out 0).trans rfl) (fun hHeld => ?_)
       clear hK K
       refine bJ (a' := ?_) ?_ ?_
       rotate_left
       ·show Act.put _ (some 17) _ = _
        simp only [Act.put, lA, lB, lC, aU, aV]
        rfl
       refine one_ (i := 4) (N := some 18) #[true, true, true, true, true, false, false, false] rfl rfl (one_of HT_.out (by kernel_rfl)) (by decide) (fun K hK => ?_)
       refine value_ (w1 := ?_) (v := ?_) (by rfl) rfl ?_ ?_
       rotate_left 2
       ·go_simp
        constructor
        ·rfl
        ·rfl
       refine hK.out _ _ ((aD (aK BK335.out _) 0).trans rfl) (fun hHeld => ?_)
       clear hK K
       refine bJ (a' := ?_) ?_ ?_
       rotate_left
       ·show Act.put _ (some 18) _ = _
        simp only [Act.put, lA, lB, lC, aU, aV]
        rfl
       refine one_ (i := 5) (N := some 19) #[true, true, true, true, true, true, false, false] rfl rfl (one_of HT_.out (by kernel_rfl)) (by decide) (fun K hK => ?_)
       refine Kd.S_append_step (Kd.slice 27 k27) (w0 := w) w.heap.size (by rfl) (.tmp 15) (.tmp 18) 30 40 (.slice none 0 0) 24 rfl Try.underlying30 info40 rfl (by decide) (by omega) u336000 x336000_1 t337 [.slice Ao18 t337.length co18] (fun _ => True) (fun k_ => some k_ = (.slice Ao18 t337.length co18 : Value).ownBlock) rfl rfl ?aP (fun k_ hk_ => ((Kd.bK (ok' := fun k_ => ((fun _ => True)) k_ ∧ some k_ ≠ (u336000 : Value).ownBlock) (Kd.R_apart' (HO339.out) (Kd.S_typed HO_336000.out) (by decide)) (fun k_ hk => ⟨trivial, hk.2⟩))).1 k_ hk_.symm) ?aF ?aO ?aB ?aS ?aL ?_
       (case aP => exact Kd.M_row (Kd.bK (Kd.R_tight rfl (Kd.bK (ok' := fun k_ => ((fun _ => True)) k_ ∧ some k_ ≠ (u336000 : Value).ownBlock) (Kd.R_apart' (HO339.out) (Kd.S_typed HO_336000.out) (by decide)) (fun k_ hk => ⟨trivial, hk.2⟩))) (fun _ h_ => h_)))
       (case aB => exact HB.out)
       (case aF => exact (fun _ _ => trivial))
       (case aO => exact (by (with_reducible repeat (first | apply Kd.S_alloc | apply Kd.S_drewN | apply Kd.S_drew)); exact Kd.bP HO_336000.out (fun k_ hk => ⟨trivial, fun e_ => hk.2 e_⟩)))
       (case aS => exact (aQ HB.out))
       (case aL => have := LMc14.out; omega)
       intro v341 w17 ho hb hg hat
       rw [← Ny340.out] at ho
       replace BK333 := aA.mk (blk_grown (g := gb333) (o := .cells #[.slice (some ad336) l0_0.length c0_0] 32 (0, 0)) BK333.out hg (Kd.S_ne HO_336000.out BK333.out (by decide)))
       replace BK334 := aA.mk (blk_grown (g := gb334) (o := .cells #[.slice none 0 0] 32 (0, 0)) BK334.out hg (Kd.S_ne HO_336000.out BK334.out (by decide)))
       replace BK335 := aA.mk (blk_grown (g := gb335) (o := .cells #[u336000] 32 (0, 0)) BK335.out hg (Kd.S_ne HO_336000.out BK335.out (by decide)))
       replace HB := aA.mk (hb)
       have HO342 := aA.mk (ho)
       clear HO_336000
       clear HO339
       clear ho hb hg hat
       obtain ⟨Ao19, co19, eo19⟩ := Kd.S_slice HO342.out
       (first | subst eo19 | (injection eo19 with f1_ f2_ f3_; have f4_ := f1_.symm; have f5_ := f3_.symm; clear f1_ f2_ f3_; subst f4_; subst f5_))
       refine hK.out _ _ ((aD BK335.out 0).trans rfl) (fun hHeld => ?_)
       clear hK K
       refine bJ (a' := ?_) ?_ ?_
       rotate_left
       ·show Act.put _ (some 19) _ = _
        simp only [Act.put, lA, lB, lC, aU, aV]
        rfl
       refine aW (i := 6) (N := some 20) (v := ?_) (a' := ?_) #[true, true, true, true, true, true, true, false] rfl rfl (aZ HT_.out (by kernel_rfl)) (fun _ _ _ h => h) (Or.inl ⟨by rfl, ?_⟩) ?_ ?_
       rotate_left
       ·intro w'
        go_simp
        with_reducible rfl
       rotate_left
       ·simp only [Act.put, lA, lB, lC, aU, aV]
        rfl
       refine last_ (i := 7) (N := none) #[true, true, true, true, true, true, true, true] rfl rfl (one_of HT_.out (by kernel_rfl)) (by decide) (fun K hK => ?_)
       have hs20 : w17.cell? ⟨gb335, 0, none⟩ = some (u336000) := (aD BK335.out 0).trans rfl
       have hfs20 := aX BK335.out 0
       have hns20_0 := NB333_335.out
       have hns20_1 := NB334_335.out
       have hms20_0 := NB335_333.out
       have hms20_1 := NB335_334.out
       refine skip_ (w1 := ?_) (by rfl) rfl ?_ ?_
       rotate_left
       ·go_simp
        rfl
       refine hK.out _ _ ?_
       clear hK K
       refine done_ (done_of HT_.out (by kernel_rfl)) ?_
       try go_wp2
       go_roundg k1
       case measure => have := HK1.out; omega
       case rel => exact ⟨(wrap64 (x10_1 + 1)), (y340), (.slice Ao19 y340.length co19), (by first | rfl | (simp; done) | (simp [*]; done)), H', ⟨by have := HK1.out; omega⟩, ⟨by (with_reducible repeat (first | apply Kd.S_alloc | apply Kd.S_drewN | apply Kd.S_drew)); exact Kd.bP (Kd.S_far (p := ⟨gb335, 0, none⟩) (Kd.S_types HO342.out BK335.out (by decide)) (fun _ hk => hk.2) (.slice Ao19 y340.length co19)) (fun _ hk => trivial)⟩, ⟨by (with_reducible repeat (first | refine aM ?_ _ | refine aJ ?_ | refine aK ?_ _)); refine bB ?_ NB333_335.out _; (with_reducible repeat (first | refine aM ?_ _ | refine aJ ?_ | refine aK ?_ _)); exact BK333.out⟩, ⟨by (with_reducible repeat (first | refine aM ?_ _ | refine aJ ?_ | refine aK ?_ _)); refine bB ?_ NB334_335.out _; (with_reducible repeat (first | refine aM ?_ _ | refine aJ ?_ | refine aK ?_ _)); exact BK334.out⟩, ⟨by (with_reducible repeat (first | refine aM ?_ _ | refine aJ ?_ | refine aK ?_ _)); refine bE (cs := #[u336000]) ?_ 0 _ rfl; (with_reducible repeat (first | refine aM ?_ _ | refine aJ ?_ | refine aK ?_ _)); exact BK335.out⟩, ⟨by repeat (first | (with_reducible first | exact HB.out | apply aN | apply aE | apply aH | refine aC ?_ GE333.out | refine aC ?_ GE334.out | refine aC ?_ GE335.out) | exact HB.out)⟩⟩
      ·rw [if_neg c14] at H
       exact absurd H (by simp)
     ·rw [if_neg c12] at H
      exact absurd H (by simp)
    ·rw [if_neg c11] at H
     exact absurd H (by simp)
   ·rw [if_neg c10] at H
    have c10b0 : decide (x10_1 < (l0_0.length : Int)) = false := decide_eq_false c10
    clear c10
    obtain rfl := Option.some.inj H
    have hnb21 := NB335_333.out
    have hnc21 := NB333_335.out
    have hnb22 := NB335_334.out
    have hnc22 := NB334_335.out
    have hcz23_0 := cs1 BK335.out
    have hfz23_0 := fs1 BK335.out
    obtain ⟨Ao24, co24, eo24⟩ := Kd.S_slice HO_336000.out
    subst eo24
    have hnb25 := NB334_333.out
    have hnc25 := NB333_334.out
    have hcz26_0 := cs1 BK334.out
    have hfz26_0 := fs1 BK334.out
    go_wp2
    refine bodyPost_ret (results_cell_row rfl _ _ gb334 32 #[.slice Ao24 x336000_1.length co24] (0, 0) _ rfl (by (with_reducible repeat (first | refine aM ?_ _ | refine aJ ?_ | refine aK ?_ _)); refine bE (cs := #[.slice none 0 0]) ?_ 0 _ rfl; (with_reducible repeat (first | refine aM ?_ _ | refine aJ ?_ | refine aK ?_ _)); exact BK334.out) Try.underlying32 rfl (by kernel_rfl)) rfl ?_
    exact ⟨_, by first | rfl | (simp [errW_none, errW_some] <;> rfl) | (simp [*, errW_none, errW_some] <;> rfl), by (with_reducible repeat (first | apply Kd.S_alloc | apply Kd.S_drewN | apply Kd.S_drew)); exact Kd.bP (Kd.S_far (p := ⟨gb334, 0, none⟩) (Kd.S_types HO_336000.out BK334.out (by decide)) (fun _ hk => hk.2) (.slice Ao24 x336000_1.length co24)) (fun _ hk => trivial), by repeat (first | (with_reducible first | exact HB.out | apply aN | apply aE | apply aH | refine aC ?_ GE333.out | refine aC ?_ GE334.out | refine aC ?_ GE335.out) | exact HB.out)⟩
def impl_SameSpot.f (a0_0 : Int) (a0_1 : Int) (a0_2 : Int) (a0_3 : Int) (a0_4 : Int) (a1_0 : Int) (a1_1 : Int) (a1_2 : Int) (a1_3 : Int) (a1_4 : Int) : Option (Bool) := if a0_0 = a1_0 then (some (a0_1 == a1_1)) else (some false)
set_option maxHeartbeats 8000000 in
set_option maxRecDepth 100000 in
theorem impl_SameSpot.calls (a0_0 : Int) (a0_1 : Int) (a0_2 : Int) (a0_3 : Int) (a0_4 : Int) (a1_0 : Int) (a1_1 : Int) (a1_2 : Int) (a1_3 : Int) (a1_4 : Int) (r : Bool) (w : World) (h : impl_SameSpot.f a0_0 a0_1 a0_2 a0_3 a0_4 a1_0 a1_1 a1_2 a1_3 a1_4 = some r) :
  Calls Try.prog 95 #[.agg #[.int .i64 a0_0, .int .i64 a0_1, .int .i64 a0_2, .int .i64 a0_3, .int .i64 a0_4], .agg #[.int .i64 a1_0, .int .i64 a1_1, .int .i64 a1_2, .int .i64 a1_3, .int .i64 a1_4]] w fun e w' => e = .returned (.bool r) ∧ Below w.heap.size w w' := by
 have hu27 := Try.underlying27
 have HB := aA.mk (Below.refl w.heap.size w)
 have H : (if a0_0 = a1_0 then (some (a0_1 == a1_1)) else (some false)) = some r := h
 clear h
 by_cases c3 : a0_0 = a1_0
 ·rw [if_pos c3] at H
  have c3b0 : (a0_0 == a1_0) = true := beq_iff_eq.mpr c3
  have c3b1 : (a0_0 != a1_0) = false := bne_eq_false_iff_eq.mpr c3
  clear c3
  obtain rfl := Option.some.inj H
  go_enter Try.func95, Try.ntmps95
  go_wp2_with (first | ((with_reducible refine bA (N := 2) rfl ?_); refine bC ?hg (N := 2) ?hd (cs := #[.int .i64 a0_0, .int .i64 a0_1, .int .i64 a0_2, .int .i64 a0_3, .int .i64 a0_4]) (t := 27) ?hr ?_; (case hd => rfl); (case hg => rfl); (case hr => first | (go_simp; done) | (go_simp; rfl)); intro gb343 hg w4 hbox hb; have BK343 := aA.mk (hbox); have GW343 := aA.mk ((by rw [hg]; exact (aQ HB.out) : w.heap.size ≤ gb343)); have GE343 := aA.mk ((by rw [hg]; exact (aQ HB.out) : w.heap.size ≤ gb343)); replace HB := aA.mk (aT HB.out hb); clear hb hbox hg) | ((with_reducible refine bA (N := 3) rfl ?_); refine bC ?hg (N := 3) ?hd (cs := #[.int .i64 a1_0, .int .i64 a1_1, .int .i64 a1_2, .int .i64 a1_3, .int .i64 a1_4]) (t := 27) ?hr ?_; (case hd => rfl); (case hg => rfl); (case hr => first | (go_simp; done) | (go_simp; rfl)); intro gb344 hg w5 hbox hb; have BK344 := aA.mk (hbox); have GW344 := aA.mk ((by rw [hg]; exact (aQ HB.out) : w.heap.size ≤ gb344)); have GE344 := aA.mk ((by rw [hg]; exact (aQ HB.out) : w.heap.size ≤ gb344)); replace HB := aA.mk (aT HB.out hb); have NB343_344 := aA.mk ((by rw [hg]; exact Nat.ne_of_lt (aY (g := gb343) (o := .cells #[.int .i64 a0_0, .int .i64 a0_1, .int .i64 a0_2, .int .i64 a0_3, .int .i64 a0_4] 27 (0, 0)) BK343.out) : gb343 ≠ gb344)); have NB344_343 := aA.mk ((by rw [hg]; exact Nat.ne_of_gt (aY (g := gb343) (o := .cells #[.int .i64 a0_0, .int .i64 a0_1, .int .i64 a0_2, .int .i64 a0_3, .int .i64 a0_4] 27 (0, 0)) BK343.out) : gb344 ≠ gb343)); replace BK343 := aA.mk (aG (g := gb343) (o := .cells #[.int .i64 a0_0, .int .i64 a0_1, .int .i64 a0_2, .int .i64 a0_3, .int .i64 a0_4] 27 (0, 0)) BK343.out hb); clear hb hbox hg; have hnb6 := NB343_344.out; have hnc6 := NB344_343.out; obtain ⟨hcz7_0, hcz7_1, hcz7_2, hcz7_3, hcz7_4⟩ := cs5 BK343.out; obtain ⟨hfz7_0, hfz7_1, hfz7_2, hfz7_3, hfz7_4⟩ := fs5 BK343.out; obtain ⟨hcz8_0, hcz8_1, hcz8_2, hcz8_3, hcz8_4⟩ := cs5 BK344.out; obtain ⟨hfz8_0, hfz8_1, hfz8_2, hfz8_3, hfz8_4⟩ := fs5 BK344.out))
  go_ret
  exact ⟨by first | rfl | (simp [errW_none, errW_some] <;> rfl) | (simp [*, errW_none, errW_some] <;> rfl), by repeat (first | (with_reducible first | exact HB.out | apply aN | apply aE | apply aH | refine aC ?_ GE343.out | refine aC ?_ GE344.out) | exact HB.out)⟩
 ·rw [if_neg c3] at H
  have c3b0 : (a0_0 == a1_0) = false := beq_eq_false_iff_ne.mpr c3
  have c3b1 : (a0_0 != a1_0) = true := bne_iff_ne.mpr c3
  obtain rfl := Option.some.inj H
  go_enter Try.func95, Try.ntmps95
  go_wp2_with (first | ((with_reducible refine bA (N := 2) rfl ?_); refine bC ?hg (N := 2) ?hd (cs := #[.int .i64 a0_0, .int .i64 a0_1, .int .i64 a0_2, .int .i64 a0_3, .int .i64 a0_4]) (t := 27) ?hr ?_; (case hd => rfl); (case hg => rfl); (case hr => first | (go_simp; done) | (go_simp; rfl)); intro gb343 hg w9 hbox hb; have BK343 := aA.mk (hbox); have GW343 := aA.mk ((by rw [hg]; exact (aQ HB.out) : w.heap.size ≤ gb343)); have GE343 := aA.mk ((by rw [hg]; exact (aQ HB.out) : w.heap.size ≤ gb343)); replace HB := aA.mk (aT HB.out hb); clear hb hbox hg) | ((with_reducible refine bA (N := 3) rfl ?_); refine bC ?hg (N := 3) ?hd (cs := #[.int .i64 a1_0, .int .i64 a1_1, .int .i64 a1_2, .int .i64 a1_3, .int .i64 a1_4]) (t := 27) ?hr ?_; (case hd => rfl); (case hg => rfl); (case hr => first | (go_simp; done) | (go_simp; rfl)); intro gb344 hg w10 hbox hb; have BK344 := aA.mk (hbox); have GW344 := aA.mk ((by rw [hg]; exact (aQ HB.out) : w.heap.size ≤ gb344)); have GE344 := aA.mk ((by rw [hg]; exact (aQ HB.out) : w.heap.size ≤ gb344)); replace HB := aA.mk (aT HB.out hb); have NB343_344 := aA.mk ((by rw [hg]; exact Nat.ne_of_lt (aY (g := gb343) (o := .cells #[.int .i64 a0_0, .int .i64 a0_1, .int .i64 a0_2, .int .i64 a0_3, .int .i64 a0_4] 27 (0, 0)) BK343.out) : gb343 ≠ gb344)); have NB344_343 := aA.mk ((by rw [hg]; exact Nat.ne_of_gt (aY (g := gb343) (o := .cells #[.int .i64 a0_0, .int .i64 a0_1, .int .i64 a0_2, .int .i64 a0_3, .int .i64 a0_4] 27 (0, 0)) BK343.out) : gb344 ≠ gb343)); replace BK343 := aA.mk (aG (g := gb343) (o := .cells #[.int .i64 a0_0, .int .i64 a0_1, .int .i64 a0_2, .int .i64 a0_3, .int .i64 a0_4] 27 (0, 0)) BK343.out hb); clear hb hbox hg; have hnb11 := NB343_344.out; have hnc11 := NB344_343.out; obtain ⟨hcz12_0, hcz12_1, hcz12_2, hcz12_3, hcz12_4⟩ := cs5 BK343.out; obtain ⟨hfz12_0, hfz12_1, hfz12_2, hfz12_3, hfz12_4⟩ := fs5 BK343.out; obtain ⟨hcz13_0, hcz13_1, hcz13_2, hcz13_3, hcz13_4⟩ := cs5 BK344.out; obtain ⟨hfz13_0, hfz13_1, hfz13_2, hfz13_3, hfz13_4⟩ := fs5 BK344.out))
  go_ret
  exact ⟨by first | rfl | (simp [errW_none, errW_some] <;> rfl) | (simp [*, errW_none, errW_some] <;> rfl), by repeat (first | (with_reducible first | exact HB.out | apply aN | apply aE | apply aH | refine aC ?_ GE343.out | refine aC ?_ GE344.out) | exact HB.out)⟩
end Go.Proofs.Ythpfihklkcnckaa.PFnExactNodePut

namespace Go.Proofs.Ythpfihklkcnckaa.PFnExactNodePut
open Go.RowKit Go.Proofs.YthpfihklkcnckaaW.PrintWords Go.Proofs.YthpfihklkcnckaaW.PrintLast Go.Proofs.YthpfihklkcnckaaW.PrintMore
attribute [local go_sem] max2_int min2_int max_two min_two max_three min_three max_four min_four   -- for this text's walks alone
set_option linter.unusedVariables false
set_option linter.unusedSimpArgs false
mutual
def impl_SetPut.l0 : Nat → List (S27) → Bool → List (S27) → Int → Int → Int → Int → Int → Int → Int → Option ((List (S27)))
 | 0, _, _, _, _, _, _, _, _, _, _ => none
 | k + 1, x5, x6, x10, x11, x12, x346000, x346001, x346002, x346003, x346004 => if x12 < x11 then (if 0 ≤ x12 then (if x12 < (x10.length : Int) then (if x6 = true then (impl_SetPut.j1 k x5 x6 x10 x11 x12 false x346000 x346001 x346002 x346003 x346004 ((rd_T27 x10 x12).f0) ((rd_T27 x10 x12).f1) ((rd_T27 x10 x12).f2) ((rd_T27 x10 x12).f3) ((rd_T27 x10 x12).f4)) else ((impl_LessKey.f ((rd_T27 x10 x12).f0) ((rd_T27 x10 x12).f1) ((rd_T27 x10 x12).f2) ((rd_T27 x10 x12).f3) ((rd_T27 x10 x12).f4) x346000 x346001 x346002 x346003 x346004).bind fun t354 => (impl_SetPut.j1 k x5 x6 x10 x11 x12 (!t354) x346000 x346001 x346002 x346003 x346004 ((rd_T27 x10 x12).f0) ((rd_T27 x10 x12).f1) ((rd_T27 x10 x12).f2) ((rd_T27 x10 x12).f3) ((rd_T27 x10 x12).f4)))) else (none)) else (none)) else (if x6 = true then (some x5) else (if x5.length < 3518437208883 then (some (x5 ++ [(⟨x346000, x346001, x346002, x346003, x346004⟩ : S27)])) else (none)))
def impl_SetPut.j1 : Nat → List (S27) → Bool → List (S27) → Int → Int → Bool → Int → Int → Int → Int → Int → Int → Int → Int → Int → Int → Option ((List (S27)))
 | 0, _, _, _, _, _, _, _, _, _, _, _, _, _, _, _, _ => none
 | k + 1, x5, x6, x10, x11, x12, x23, x346000, x346001, x346002, x346003, x346004, x354000, x354001, x354002, x354003, x354004 => if x23 = true then (if x5.length < 3518437208883 then ((some (x5 ++ [(⟨x346000, x346001, x346002, x346003, x346004⟩ : S27)] : List (S27))).bind fun y355 => ((impl_SameSpot.f x354000 x354001 x354002 x354003 x354004 x346000 x346001 x346002 x346003 x346004).bind fun t358 => (if t358 = true then (impl_SetPut.l0 k y355 true x10 x11 (wrap64 (x12 + 1)) x346000 x346001 x346002 x346003 x346004) else (if y355.length < 3518437208883 then (impl_SetPut.l0 k (y355 ++ [(⟨x354000, x354001, x354002, x354003, x354004⟩ : S27)]) true x10 x11 (wrap64 (x12 + 1)) x346000 x346001 x346002 x346003 x346004) else (none))))) else (none)) else ((impl_SameSpot.f x354000 x354001 x354002 x354003 x354004 x346000 x346001 x346002 x346003 x346004).bind fun t362 => (if t362 = true then (impl_SetPut.l0 k x5 x6 x10 x11 (wrap64 (x12 + 1)) x346000 x346001 x346002 x346003 x346004) else (if x5.length < 3518437208883 then (impl_SetPut.l0 k (x5 ++ [(⟨x354000, x354001, x354002, x354003, x354004⟩ : S27)]) x6 x10 x11 (wrap64 (x12 + 1)) x346000 x346001 x346002 x346003 x346004) else (none))))
end
def impl_SetPut.f (k : Nat) (l0 : List (S27)) (a1_0 : Int) (a1_1 : Int) (a1_2 : Int) (a1_3 : Int) (a1_4 : Int) : Option ((List (S27))) := impl_SetPut.l0 k (([] : List (S27))) false l0 (l0.length : Int) 0 a1_0 a1_1 a1_2 a1_3 a1_4
set_option maxHeartbeats 8000000 in
set_option maxRecDepth 100000 in
theorem impl_SetPut.calls (k : Nat) (A0 : Option Addr) (c0 : Nat) (l0 : List (S27)) (a1_0 : Int) (a1_1 : Int) (a1_2 : Int) (a1_3 : Int) (a1_4 : Int) (r : List (S27)) (w : World) (hr0 : Kd.C k27 w A0 l0.length l0) (hc0 : l0.length ≤ c0) (h : impl_SetPut.f k l0 a1_0 a1_1 a1_2 a1_3 a1_4 = some r) :
  Calls Try.prog 71 #[.slice A0 l0.length c0, .agg #[.int .i64 a1_0, .int .i64 a1_1, .int .i64 a1_2, .int .i64 a1_3, .int .i64 a1_4]] w fun e w' => ∃ v0_ : Value, e = .returned (v0_) ∧ Kd.R k27 27 w' w.heap.size (fun _ => True) v0_ r ∧ Below w.heap.size w w' := by
 have hu27 := Try.underlying27
 have HR0 := aA.mk hr0
 have HC0 := aA.mk hc0
 clear hr0 hc0
 have HB := aA.mk (Below.refl w.heap.size w)
 have H : (impl_SetPut.l0 k (([] : List (S27))) false l0 (l0.length : Int) 0 a1_0 a1_1 a1_2 a1_3 a1_4) = some r := h
 clear h
 obtain ⟨y346, hy346⟩ : ∃ y_ : List (S27), y_ = (([] : List (S27))) := ⟨_, rfl⟩
 replace H : (impl_SetPut.l0 k y346 false l0 (l0.length : Int) 0 a1_0 a1_1 a1_2 a1_3 a1_4) = some r := by first | (rw [hy346]; with_reducible exact H) | (have H2_ := (Option.bind_some _ _).symm.trans H; rw [hy346]; with_reducible exact H2_) | (have H2_ := (Option.bind_some _ _).symm.trans H; with_reducible exact H2_) | with_reducible exact H | (rw [hy346]; exact H) | exact H
 have Ny346 := aA.mk hy346
 clear hy346
 have H' := aA.mk H
 clear H
 go_enter Try.func71, Try.ntmps71
 go_wp2_with (first | ((with_reducible refine bA (N := 3) rfl ?_); refine bC ?hg (N := 3) ?hd (cs := #[.int .i64 a1_0, .int .i64 a1_1, .int .i64 a1_2, .int .i64 a1_3, .int .i64 a1_4]) (t := 27) ?hr ?_; (case hd => rfl); (case hg => rfl); (case hr => first | (go_simp; done) | (go_simp; rfl)); intro gb345 hg w3 hbox hb; have n0_ := aA.mk (aT (by repeat (first | (with_reducible first | exact HB.out | apply aN | apply aE | apply aH) | exact HB.out)) hb); have n1_ := aA.mk (hbox); have n2_ := aA.mk ((by rw [hg]; exact (aQ (by repeat (first | (with_reducible first | exact HB.out | apply aN | apply aE | apply aH) | exact HB.out))) : w.heap.size ≤ gb345)); have n3_ := aA.mk ((by rw [hg]; exact (aQ (by repeat (first | (with_reducible first | exact HB.out | apply aN | apply aE | apply aH) | exact HB.out))) : w.heap.size ≤ gb345)); clear HB; have HB := n0_; have BK345 := n1_; have GW345 := n2_; have GE345 := n3_; clear n0_ n1_ n2_ n3_; clear hb hbox hg) | ((with_reducible refine bA (N := 9) rfl ?_); refine Kd.R_lit k27 _ 27 ?hg (N := 9) ?hd (xs := ([] : List (S27))) (inner := []) (ok := fun _ => True) (okp := fun _ => True) ?hr ?hp (fun _ hk => hk) trivial (Below.refl _ _) (Nat.le_refl _) (by simp) ?_; (case hd => rfl); (case hg => rfl); (case hr => first | (go_simp; done) | (go_simp; rfl)); (case hp => exact (Reps.none _ _)); intro v347 w4 ho5 hb hg_ hnew_; clear hg_ hnew_; (first | rw [← Ny346.out] at ho5 | (simp only [Int.reduceToNat] at ho5; rw [← Ny346.out] at ho5)); have n0_ := aA.mk (Kd.R_lower (Kd.R_newB ho5 (g := gb345) (o := .cells #[.int .i64 a1_0, .int .i64 a1_1, .int .i64 a1_2, .int .i64 a1_3, .int .i64 a1_4] 27 (0, 0)) BK345.out) (aQ (by repeat (first | (with_reducible first | exact HB.out | apply aN | apply aE | apply aH | refine aC ?_ GE345.out) | exact HB.out)))); have n1_ := aA.mk (aG (g := gb345) (o := .cells #[.int .i64 a1_0, .int .i64 a1_1, .int .i64 a1_2, .int .i64 a1_3, .int .i64 a1_4] 27 (0, 0)) BK345.out hb); have n2_ := aA.mk (aT (by repeat (first | (with_reducible first | exact HB.out | apply aN | apply aE | apply aH | refine aC ?_ GE345.out) | exact HB.out)) hb); clear BK345; clear HB; have HO348 := n0_; have BK345 := n1_; have HB := n2_; clear n0_ n1_ n2_; clear hb ho5))
 go_loopg [5, 6, 12] k (fun kq v5 v6 v12 w' => ∃ (x5_1 : List (S27)) (x6_1 : Bool) (x12_1 : Int), v6 = .bool x6_1 ∧ v12 = .int .i64 x12_1 ∧ aA (impl_SetPut.l0 kq x5_1 x6_1 l0 (l0.length : Int) x12_1 a1_0 a1_1 a1_2 a1_3 a1_4 = some r) ∧ aA (kq ≤ k) ∧ aA (Kd.R k27 27 w' w.heap.size (fun k_ => k_ ≠ gb345) v5 x5_1) ∧ aA (w'.heap[gb345]? = some (.cells #[.int .i64 a1_0, .int .i64 a1_1, .int .i64 a1_2, .int .i64 a1_3, .int .i64 a1_4] 27 (0, 0))) ∧ aA (Below w.heap.size w w'))
 case atStart => exact ⟨(y346), (false), (0), (by first | rfl | (simp; done) | (simp [*]; done)), (by first | rfl | (simp; done) | (simp [*]; done)), H', ⟨Nat.le_refl _⟩, ⟨by (with_reducible repeat (first | apply Kd.bQ | apply Kd.bR | apply Kd.bU)); exact Kd.bK HO348.out (fun _ hk => hk.2)⟩, ⟨by (with_reducible repeat (first | refine aM ?_ _ | refine aJ ?_ | refine aK ?_ _)); exact BK345.out⟩, ⟨by repeat (first | (with_reducible first | exact HB.out | apply aN | apply aE | apply aH | refine aC ?_ GE345.out) | exact HB.out)⟩⟩
 case round =>
  clear H'
  try clear p2
  obtain ⟨x5_1, x6_1, x12_1, rfl, rfl, HA, HK1, HO_5, BK345, HB⟩ := hrel
  cases gk with
  | zero => exact absurd HA.out (by simp [impl_SetPut.l0])
  | succ k1 =>
   have H := HA.out
   clear HA
   simp only [impl_SetPut.l0] at H
   by_cases c6 : x12_1 < (l0.length : Int)
   ·rw [if_pos c6] at H
    have c6b0 : decide (x12_1 < (l0.length : Int)) = true := decide_eq_true c6
    clear c6
    by_cases c7 : 0 ≤ x12_1
    ·rw [if_pos c7] at H
     have c7b0 : decide (0 ≤ x12_1) = true := decide_eq_true c7
     clear c7
     by_cases c8 : x12_1 < (l0.length : Int)
     ·rw [if_pos c8] at H
      have c8b0 : decide (x12_1 < (l0.length : Int)) = true := decide_eq_true c8
      clear c8
      have HC9 := aA.mk H
      clear H
      have p352 : 0 ≤ (x12_1 : Int) := lE (by assumption)
      have q352 : x12_1 < (l0.length : Int) := lE (by assumption)
      obtain ⟨ad352, e352, hx352_0, hx352_1, hx352_2, hx352_3, hx352_4⟩ := at_T27 HR0.out x12_1 p352 q352
      cases e352
      replace hx352_0 := (HB.out.cell (lD w _ hx352_0)).trans hx352_0
      replace hx352_1 := (HB.out.cell (lD w _ hx352_1)).trans hx352_1
      replace hx352_2 := (HB.out.cell (lD w _ hx352_2)).trans hx352_2
      replace hx352_3 := (HB.out.cell (lD w _ hx352_3)).trans hx352_3
      replace hx352_4 := (HB.out.cell (lD w _ hx352_4)).trans hx352_4
      replace p352 := eq_true p352
      replace q352 := eq_true q352
      go_upto_region 6 with (first | ((with_reducible refine bA (N := 8) rfl ?_); refine bC ?hg (N := 8) ?hd (cs := #[.int .i64 0, .int .i64 0, .int .i64 0, .int .i64 0, .int .i64 0]) (t := 27) ?hr ?_; (case hd => rfl); (case hg => rfl); (case hr => first | (go_simp; done) | (go_simp; rfl)); intro gb353 hg w10 hbox hb; have n0_ := aA.mk (Kd.R_below (Kd.R_elderB HO_5.out gb353 (Nat.le_of_eq hg.symm)) hb); have n1_ := aA.mk (aG (g := gb345) (o := .cells #[.int .i64 a1_0, .int .i64 a1_1, .int .i64 a1_2, .int .i64 a1_3, .int .i64 a1_4] 27 (0, 0)) BK345.out hb); have n2_ := aA.mk (aT (by repeat (first | (with_reducible first | exact HB.out | apply aN | apply aE | apply aH | refine aC ?_ GE345.out) | exact HB.out)) hb); have n3_ := aA.mk (hbox); have n4_ := aA.mk ((by rw [hg]; exact (aQ (by repeat (first | (with_reducible first | exact HB.out | apply aN | apply aE | apply aH | refine aC ?_ GE345.out) | exact HB.out))) : w.heap.size ≤ gb353)); have n5_ := aA.mk ((by rw [hg]; exact (aQ (by repeat (first | (with_reducible first | exact HB.out | apply aN | apply aE | apply aH | refine aC ?_ GE345.out) | exact HB.out))) : w.heap.size ≤ gb353)); have n6_ := aA.mk ((by rw [hg]; exact Nat.ne_of_lt (aY (g := gb345) (o := .cells #[.int .i64 a1_0, .int .i64 a1_1, .int .i64 a1_2, .int .i64 a1_3, .int .i64 a1_4] 27 (0, 0)) BK345.out) : gb345 ≠ gb353)); have n7_ := aA.mk ((by rw [hg]; exact Nat.ne_of_gt (aY (g := gb345) (o := .cells #[.int .i64 a1_0, .int .i64 a1_1, .int .i64 a1_2, .int .i64 a1_3, .int .i64 a1_4] 27 (0, 0)) BK345.out) : gb353 ≠ gb345)); clear HO_5; clear BK345; clear HB; have HO_5 := n0_; have BK345 := n1_; have HB := n2_; have BK353 := n3_; have GW353 := n4_; have GE353 := n5_; have NB345_353 := n6_; have NB353_345 := n7_; clear n0_ n1_ n2_ n3_ n4_ n5_ n6_ n7_; clear hb hbox hg; have hnb11 := NB353_345.out; have hnc11 := NB345_353.out; have hcz12_0 : w10.cell? ⟨gb353, 0, none⟩ = some (.int .i64 0) := (aD BK353.out 0).trans rfl; have hcz12_1 : w10.cell? ⟨gb353, 1, none⟩ = some (.int .i64 0) := (aD BK353.out 1).trans rfl; have hcz12_2 : w10.cell? ⟨gb353, 2, none⟩ = some (.int .i64 0) := (aD BK353.out 2).trans rfl; have hcz12_3 : w10.cell? ⟨gb353, 3, none⟩ = some (.int .i64 0) := (aD BK353.out 3).trans rfl; have hcz12_4 : w10.cell? ⟨gb353, 4, none⟩ = some (.int .i64 0) := (aD BK353.out 4).trans rfl; have hfz12_0 := aX BK353.out 0; have hfz12_1 := aX BK353.out 1; have hfz12_2 := aX BK353.out 2; have hfz12_3 := aX BK353.out 3; have hfz12_4 := aX BK353.out 4))
      (try simp only [Act.put, lA, lB, lC])
      go_cut [23] (fun v23 wc => ∃ (kq : Nat) (x23_8 : Bool), v23 = .bool x23_8 ∧ aA (impl_SetPut.j1 kq x5_1 x6_1 l0 (l0.length : Int) x12_1 x23_8 a1_0 a1_1 a1_2 a1_3 a1_4 ((rd_T27 l0 x12_1).f0) ((rd_T27 l0 x12_1).f1) ((rd_T27 l0 x12_1).f2) ((rd_T27 l0 x12_1).f3) ((rd_T27 l0 x12_1).f4) = some r) ∧ aA (kq ≤ k1) ∧ aA (Kd.R k27 27 wc w.heap.size (fun k_ => k_ ≠ gb345 ∧ k_ ≠ gb353) u5 x5_1) ∧ aA (wc.heap[gb345]? = some (.cells #[.int .i64 a1_0, .int .i64 a1_1, .int .i64 a1_2, .int .i64 a1_3, .int .i64 a1_4] 27 (0, 0))) ∧ aA (wc.heap[gb353]? = some (.cells #[.int .i64 ((rd_T27 l0 x12_1).f0), .int .i64 ((rd_T27 l0 x12_1).f1), .int .i64 ((rd_T27 l0 x12_1).f2), .int .i64 ((rd_T27 l0 x12_1).f3), .int .i64 ((rd_T27 l0 x12_1).f4)] 27 (0, 0))) ∧ aA (Below w.heap.size w wc))
      case first =>
       have H := HC9.out
       clear HC9
       by_cases c13 : x6_1 = true
       ·subst c13
        have H1 : (impl_SetPut.j1 k1 x5_1 true l0 (l0.length : Int) x12_1 false a1_0 a1_1 a1_2 a1_3 a1_4 ((rd_T27 l0 x12_1).f0) ((rd_T27 l0 x12_1).f1) ((rd_T27 l0 x12_1).f2) ((rd_T27 l0 x12_1).f3) ((rd_T27 l0 x12_1).f4)) = some r := by rw [if_pos rfl] at H; exact H
        clear H
        have H := H1
        clear H1
        have H' := aA.mk H
        clear H
        go_wp2
        go_meet
        case rel => exact ⟨_, (false), (by first | rfl | (simp; done) | (simp [*]; done)), H', ⟨by have := HK1.out; first | omega | exact Nat.le_refl _⟩, ⟨by (with_reducible repeat (first | apply Kd.bQ | apply Kd.bR | apply Kd.bU)); exact Kd.bK (Kd.R_far (p := ⟨gb353, 4, none⟩) (Kd.R_far (p := ⟨gb353, 3, none⟩) (Kd.R_far (p := ⟨gb353, 2, none⟩) (Kd.R_far (p := ⟨gb353, 1, none⟩) (Kd.R_far (p := ⟨gb353, 0, none⟩) (Kd.bK HO_5.out (fun k_ hk => (⟨hk, hk.2⟩ : _ ∧ k_ ≠ gb353))) (fun _ hk => hk.2) (.int .i64 ((rd_T27 l0 x12_1).f0))) (fun _ hk => hk.2) (.int .i64 ((rd_T27 l0 x12_1).f1))) (fun _ hk => hk.2) (.int .i64 ((rd_T27 l0 x12_1).f2))) (fun _ hk => hk.2) (.int .i64 ((rd_T27 l0 x12_1).f3))) (fun _ hk => hk.2) (.int .i64 ((rd_T27 l0 x12_1).f4))) (fun _ hk => ⟨hk.1.1, hk.1.2⟩)⟩, ⟨by (with_reducible repeat (first | refine aM ?_ _ | refine aJ ?_ | refine aK ?_ _)); refine bB ?_ NB345_353.out _; (with_reducible repeat (first | refine aM ?_ _ | refine aJ ?_ | refine aK ?_ _)); refine bB ?_ NB345_353.out _; (with_reducible repeat (first | refine aM ?_ _ | refine aJ ?_ | refine aK ?_ _)); refine bB ?_ NB345_353.out _; (with_reducible repeat (first | refine aM ?_ _ | refine aJ ?_ | refine aK ?_ _)); refine bB ?_ NB345_353.out _; (with_reducible repeat (first | refine aM ?_ _ | refine aJ ?_ | refine aK ?_ _)); refine bB ?_ NB345_353.out _; (with_reducible repeat (first | refine aM ?_ _ | refine aJ ?_ | refine aK ?_ _)); exact BK345.out⟩, ⟨by (with_reducible repeat (first | refine aM ?_ _ | refine aJ ?_ | refine aK ?_ _)); refine bE (cs := #[.int .i64 ((rd_T27 l0 x12_1).f0), .int .i64 ((rd_T27 l0 x12_1).f1), .int .i64 ((rd_T27 l0 x12_1).f2), .int .i64 ((rd_T27 l0 x12_1).f3), .int .i64 0]) ?_ 4 _ rfl; (with_reducible repeat (first | refine aM ?_ _ | refine aJ ?_ | refine aK ?_ _)); refine bE (cs := #[.int .i64 ((rd_T27 l0 x12_1).f0), .int .i64 ((rd_T27 l0 x12_1).f1), .int .i64 ((rd_T27 l0 x12_1).f2), .int .i64 0, .int .i64 0]) ?_ 3 _ rfl; (with_reducible repeat (first | refine aM ?_ _ | refine aJ ?_ | refine aK ?_ _)); refine bE (cs := #[.int .i64 ((rd_T27 l0 x12_1).f0), .int .i64 ((rd_T27 l0 x12_1).f1), .int .i64 0, .int .i64 0, .int .i64 0]) ?_ 2 _ rfl; (with_reducible repeat (first | refine aM ?_ _ | refine aJ ?_ | refine aK ?_ _)); refine bE (cs := #[.int .i64 ((rd_T27 l0 x12_1).f0), .int .i64 0, .int .i64 0, .int .i64 0, .int .i64 0]) ?_ 1 _ rfl; (with_reducible repeat (first | refine aM ?_ _ | refine aJ ?_ | refine aK ?_ _)); refine bE (cs := #[.int .i64 0, .int .i64 0, .int .i64 0, .int .i64 0, .int .i64 0]) ?_ 0 _ rfl; (with_reducible repeat (first | refine aM ?_ _ | refine aJ ?_ | refine aK ?_ _)); exact BK353.out⟩, ⟨by repeat (first | (with_reducible first | exact HB.out | apply aN | apply aE | apply aH | refine aC ?_ GE345.out | refine aC ?_ GE353.out) | exact HB.out)⟩⟩
       ·replace c13 := Bool.eq_false_iff.mpr c13
        subst c13
        have H1 : ((impl_LessKey.f ((rd_T27 l0 x12_1).f0) ((rd_T27 l0 x12_1).f1) ((rd_T27 l0 x12_1).f2) ((rd_T27 l0 x12_1).f3) ((rd_T27 l0 x12_1).f4) a1_0 a1_1 a1_2 a1_3 a1_4).bind fun t354 => (impl_SetPut.j1 k1 x5_1 false l0 (l0.length : Int) x12_1 (!t354) a1_0 a1_1 a1_2 a1_3 a1_4 ((rd_T27 l0 x12_1).f0) ((rd_T27 l0 x12_1).f1) ((rd_T27 l0 x12_1).f2) ((rd_T27 l0 x12_1).f3) ((rd_T27 l0 x12_1).f4))) = some r := by rw [if_neg (show ¬ (false = true) by decide)] at H; exact H
        clear H
        have H := H1
        clear H1
        replace H := lF H
        obtain ⟨t354, A140, H⟩ := H
        replace H : (impl_SetPut.j1 k1 x5_1 false l0 (l0.length : Int) x12_1 (!t354) a1_0 a1_1 a1_2 a1_3 a1_4 ((rd_T27 l0 x12_1).f0) ((rd_T27 l0 x12_1).f1) ((rd_T27 l0 x12_1).f2) ((rd_T27 l0 x12_1).f3) ((rd_T27 l0 x12_1).f4)) = some r := H
        have A14 := aA.mk A140
        clear A140
        have H' := aA.mk H
        clear H
        have hnb15 := NB353_345.out
        have hnc15 := NB345_353.out
        have hcz16_0 : w10.cell? ⟨gb353, 0, none⟩ = some (.int .i64 0) := (aD BK353.out 0).trans rfl
        have hcz16_1 : w10.cell? ⟨gb353, 1, none⟩ = some (.int .i64 0) := (aD BK353.out 1).trans rfl
        have hcz16_2 : w10.cell? ⟨gb353, 2, none⟩ = some (.int .i64 0) := (aD BK353.out 2).trans rfl
        have hcz16_3 : w10.cell? ⟨gb353, 3, none⟩ = some (.int .i64 0) := (aD BK353.out 3).trans rfl
        have hcz16_4 : w10.cell? ⟨gb353, 4, none⟩ = some (.int .i64 0) := (aD BK353.out 4).trans rfl
        have hfz16_0 := aX BK353.out 0
        have hfz16_1 := aX BK353.out 1
        have hfz16_2 := aX BK353.out 2
        have hfz16_3 := aX BK353.out 3
        have hfz16_4 := aX BK353.out 4
        have hcz17_0 : w10.cell? ⟨gb345, 0, none⟩ = some (.int .i64 a1_0) := (aD BK345.out 0).trans rfl
        have hcz17_1 : w10.cell? ⟨gb345, 1, none⟩ = some (.int .i64 a1_1) := (aD BK345.out 1).trans rfl
        have hcz17_2 : w10.cell? ⟨gb345, 2, none⟩ = some (.int .i64 a1_2) := (aD BK345.out 2).trans rfl
        have hcz17_3 : w10.cell? ⟨gb345, 3, none⟩ = some (.int .i64 a1_3) := (aD BK345.out 3).trans rfl
        have hcz17_4 : w10.cell? ⟨gb345, 4, none⟩ = some (.int .i64 a1_4) := (aD BK345.out 4).trans rfl
        have hfz17_0 := aX BK345.out 0
        have hfz17_1 := aX BK345.out 1
        have hfz17_2 := aX BK345.out 2
        have hfz17_3 := aX BK345.out 3
        have hfz17_4 := aX BK345.out 4
        go_wp2_with (first | (go_at_call 92; (with_reducible refine (impl_LessKey.calls ((rd_T27 l0 x12_1).f0) ((rd_T27 l0 x12_1).f1) ((rd_T27 l0 x12_1).f2) ((rd_T27 l0 x12_1).f3) ((rd_T27 l0 x12_1).f4) a1_0 a1_1 a1_2 a1_3 a1_4 t354 _ A14.out).mono ?_); rintro e w18 ⟨rfl, hb⟩; have n0_ := aA.mk (Kd.R_below (by (with_reducible repeat (first | apply Kd.bQ | apply Kd.bR | apply Kd.bU)); exact (Kd.bK (Kd.R_far (p := ⟨gb353, 4, none⟩) (Kd.R_far (p := ⟨gb353, 3, none⟩) (Kd.R_far (p := ⟨gb353, 2, none⟩) (Kd.R_far (p := ⟨gb353, 1, none⟩) (Kd.R_far (p := ⟨gb353, 0, none⟩) (Kd.bK HO_5.out (fun k_ hk => (⟨hk, hk.2⟩ : _ ∧ k_ ≠ gb353))) (fun _ hk => hk.2) (.int .i64 ((rd_T27 l0 x12_1).f0))) (fun _ hk => hk.2) (.int .i64 ((rd_T27 l0 x12_1).f1))) (fun _ hk => hk.2) (.int .i64 ((rd_T27 l0 x12_1).f2))) (fun _ hk => hk.2) (.int .i64 ((rd_T27 l0 x12_1).f3))) (fun _ hk => hk.2) (.int .i64 ((rd_T27 l0 x12_1).f4))) (fun _ h_ => h_.1))) hb); have n1_ := aA.mk (aG (g := gb345) (o := .cells #[.int .i64 a1_0, .int .i64 a1_1, .int .i64 a1_2, .int .i64 a1_3, .int .i64 a1_4] 27 (0, 0)) (by (with_reducible repeat (first | refine aM ?_ _ | refine aJ ?_ | refine aK ?_ _)); refine bB ?_ NB345_353.out _; (with_reducible repeat (first | refine aM ?_ _ | refine aJ ?_ | refine aK ?_ _)); refine bB ?_ NB345_353.out _; (with_reducible repeat (first | refine aM ?_ _ | refine aJ ?_ | refine aK ?_ _)); refine bB ?_ NB345_353.out _; (with_reducible repeat (first | refine aM ?_ _ | refine aJ ?_ | refine aK ?_ _)); refine bB ?_ NB345_353.out _; (with_reducible repeat (first | refine aM ?_ _ | refine aJ ?_ | refine aK ?_ _)); refine bB ?_ NB345_353.out _; (with_reducible repeat (first | refine aM ?_ _ | refine aJ ?_ | refine aK ?_ _)); exact BK345.out) hb); have n2_ := aA.mk (aG (g := gb353) (o := .cells #[.int .i64 ((rd_T27 l0 x12_1).f0), .int .i64 ((rd_T27 l0 x12_1).f1), .int .i64 ((rd_T27 l0 x12_1).f2), .int .i64 ((rd_T27 l0 x12_1).f3), .int .i64 ((rd_T27 l0 x12_1).f4)] 27 (0, 0)) (by (with_reducible repeat (first | refine aM ?_ _ | refine aJ ?_ | refine aK ?_ _)); refine bE (cs := #[.int .i64 ((rd_T27 l0 x12_1).f0), .int .i64 ((rd_T27 l0 x12_1).f1), .int .i64 ((rd_T27 l0 x12_1).f2), .int .i64 ((rd_T27 l0 x12_1).f3), .int .i64 0]) ?_ 4 _ rfl; (with_reducible repeat (first | refine aM ?_ _ | refine aJ ?_ | refine aK ?_ _)); refine bE (cs := #[.int .i64 ((rd_T27 l0 x12_1).f0), .int .i64 ((rd_T27 l0 x12_1).f1), .int .i64 ((rd_T27 l0 x12_1).f2), .int .i64 0, .int .i64 0]) ?_ 3 _ rfl; (with_reducible repeat (first | refine aM ?_ _ | refine aJ ?_ | refine aK ?_ _)); refine bE (cs := #[.int .i64 ((rd_T27 l0 x12_1).f0), .int .i64 ((rd_T27 l0 x12_1).f1), .int .i64 0, .int .i64 0, .int .i64 0]) ?_ 2 _ rfl; (with_reducible repeat (first | refine aM ?_ _ | refine aJ ?_ | refine aK ?_ _)); refine bE (cs := #[.int .i64 ((rd_T27 l0 x12_1).f0), .int .i64 0, .int .i64 0, .int .i64 0, .int .i64 0]) ?_ 1 _ rfl; (with_reducible repeat (first | refine aM ?_ _ | refine aJ ?_ | refine aK ?_ _)); refine bE (cs := #[.int .i64 0, .int .i64 0, .int .i64 0, .int .i64 0, .int .i64 0]) ?_ 0 _ rfl; (with_reducible repeat (first | refine aM ?_ _ | refine aJ ?_ | refine aK ?_ _)); exact BK353.out) hb); have n3_ := aA.mk (aT (by repeat (first | (with_reducible first | exact HB.out | apply aN | apply aE | apply aH | refine aC ?_ GE345.out | refine aC ?_ GE353.out) | exact HB.out)) hb); clear HO_5; clear BK345; clear BK353; clear HB; have HO_5 := n0_; have BK345 := n1_; have BK353 := n2_; have HB := n3_; clear n0_ n1_ n2_ n3_; (try clear hb); (try clear hk)))
        go_meet
        case rel => exact ⟨_, (!t354), (by first | rfl | (simp; done) | (simp [*]; done)), H', ⟨by have := HK1.out; first | omega | exact Nat.le_refl _⟩, ⟨by (with_reducible repeat (first | apply Kd.bQ | apply Kd.bR | apply Kd.bU)); exact HO_5.out⟩, ⟨by (with_reducible repeat (first | refine aM ?_ _ | refine aJ ?_ | refine aK ?_ _)); exact BK345.out⟩, ⟨by (with_reducible repeat (first | refine aM ?_ _ | refine aJ ?_ | refine aK ?_ _)); exact BK353.out⟩, ⟨by repeat (first | (with_reducible first | exact HB.out | apply aN | apply aE | apply aH | refine aC ?_ GE345.out | refine aC ?_ GE353.out) | exact HB.out)⟩⟩
      case rest =>
       clear HC9
       try clear c1
       try clear p2
       try clear p3
       try clear q3
       try clear hx3
       try clear c6
       try clear c6b0
       try clear c7
       try clear c7b0
       try clear c8
       try clear c8b0
       try clear c11
       try clear c13
       try clear c15
       try clear hcz12_0
       try clear hcz12_1
       try clear hcz12_2
       try clear hcz12_3
       try clear hcz12_4
       try clear hcz16_0
       try clear hcz16_1
       try clear hcz16_2
       try clear hcz16_3
       try clear hcz16_4
       try clear hcz17_0
       try clear hcz17_1
       try clear hcz17_2
       try clear hcz17_3
       try clear hcz17_4
       try clear hfz12_0
       try clear hfz12_1
       try clear hfz12_2
       try clear hfz12_3
       try clear hfz12_4
       try clear hfz16_0
       try clear hfz16_1
       try clear hfz16_2
       try clear hfz16_3
       try clear hfz16_4
       try clear hfz17_0
       try clear hfz17_1
       try clear hfz17_2
       try clear hfz17_3
       try clear hfz17_4
       try clear hx352_0
       try clear hx352_1
       try clear hx352_2
       try clear hx352_3
       try clear hx352_4
       try clear p2
       try clear p352
       try clear q352
       obtain ⟨kq, x23_8, rfl, HA, HJ8, HO_5, BK345, BK353, HB⟩ := hcut
       cases kq with
       | zero => exact absurd HA.out (by simp [impl_SetPut.j1])
       | succ kj8 =>
        have H := HA.out
        clear HA
        simp only [impl_SetPut.j1] at H
        by_cases c19 : x23_8 = true
        ·subst c19
         have H1 : (if x5_1.length < 3518437208883 then ((some (x5_1 ++ [(⟨a1_0, a1_1, a1_2, a1_3, a1_4⟩ : S27)] : List (S27))).bind fun y355 => ((impl_SameSpot.f ((rd_T27 l0 x12_1).f0) ((rd_T27 l0 x12_1).f1) ((rd_T27 l0 x12_1).f2) ((rd_T27 l0 x12_1).f3) ((rd_T27 l0 x12_1).f4) a1_0 a1_1 a1_2 a1_3 a1_4).bind fun t358 => (if t358 = true then (impl_SetPut.l0 kj8 y355 true l0 (l0.length : Int) (wrap64 (x12_1 + 1)) a1_0 a1_1 a1_2 a1_3 a1_4) else (if y355.length < 3518437208883 then (impl_SetPut.l0 kj8 (y355 ++ [(⟨((rd_T27 l0 x12_1).f0), ((rd_T27 l0 x12_1).f1), ((rd_T27 l0 x12_1).f2), ((rd_T27 l0 x12_1).f3), ((rd_T27 l0 x12_1).f4)⟩ : S27)]) true l0 (l0.length : Int) (wrap64 (x12_1 + 1)) a1_0 a1_1 a1_2 a1_3 a1_4) else (none))))) else (none)) = some r := by rw [if_pos rfl] at H; exact H
         clear H
         have H := H1
         clear H1
         by_cases c20 : x5_1.length < 3518437208883
         ·rw [if_pos c20] at H
          have LMc20 := aA.mk c20
          clear c20
          obtain ⟨y355, hy355⟩ : ∃ y_ : List (S27), y_ = (x5_1 ++ [(⟨a1_0, a1_1, a1_2, a1_3, a1_4⟩ : S27)]) := ⟨_, rfl⟩
          replace H : ((impl_SameSpot.f ((rd_T27 l0 x12_1).f0) ((rd_T27 l0 x12_1).f1) ((rd_T27 l0 x12_1).f2) ((rd_T27 l0 x12_1).f3) ((rd_T27 l0 x12_1).f4) a1_0 a1_1 a1_2 a1_3 a1_4).bind fun t358 => (if t358 = true then (impl_SetPut.l0 kj8 y355 true l0 (l0.length : Int) (wrap64 (x12_1 + 1)) a1_0 a1_1 a1_2 a1_3 a1_4) else (if y355.length < 3518437208883 then (impl_SetPut.l0 kj8 (y355 ++ [(⟨((rd_T27 l0 x12_1).f0), ((rd_T27 l0 x12_1).f1), ((rd_T27 l0 x12_1).f2), ((rd_T27 l0 x12_1).f3), ((rd_T27 l0 x12_1).f4)⟩ : S27)]) true l0 (l0.length : Int) (wrap64 (x12_1 + 1)) a1_0 a1_1 a1_2 a1_3 a1_4) else (none)))) = some r := by first | (rw [hy355]; with_reducible exact H) | (have H2_ := (Option.bind_some _ _).symm.trans H; rw [hy355]; with_reducible exact H2_) | (have H2_ := (Option.bind_some _ _).symm.trans H; with_reducible exact H2_) | with_reducible exact H | (rw [hy355]; exact H) | exact H
          have Ny355 := aA.mk hy355
          clear hy355
          replace H := lF H
          obtain ⟨t358, A210, H⟩ := H
          replace H : (if t358 = true then (impl_SetPut.l0 kj8 y355 true l0 (l0.length : Int) (wrap64 (x12_1 + 1)) a1_0 a1_1 a1_2 a1_3 a1_4) else (if y355.length < 3518437208883 then (impl_SetPut.l0 kj8 (y355 ++ [(⟨((rd_T27 l0 x12_1).f0), ((rd_T27 l0 x12_1).f1), ((rd_T27 l0 x12_1).f2), ((rd_T27 l0 x12_1).f3), ((rd_T27 l0 x12_1).f4)⟩ : S27)]) true l0 (l0.length : Int) (wrap64 (x12_1 + 1)) a1_0 a1_1 a1_2 a1_3 a1_4) else (none))) = some r := H
          have A21 := aA.mk A210
          clear A210
          by_cases c22 : t358 = true
          ·subst c22
           have H1 : (impl_SetPut.l0 kj8 y355 true l0 (l0.length : Int) (wrap64 (x12_1 + 1)) a1_0 a1_1 a1_2 a1_3 a1_4) = some r := by rw [if_pos rfl] at H; exact H
           clear H
           have H := H1
           clear H1
           have H' := aA.mk H
           clear H
           have hnb23 := NB345_353.out
           have hnc23 := NB353_345.out
           have hcz24_0 : wc.cell? ⟨gb345, 0, none⟩ = some (.int .i64 a1_0) := (aD BK345.out 0).trans rfl
           have hcz24_1 : wc.cell? ⟨gb345, 1, none⟩ = some (.int .i64 a1_1) := (aD BK345.out 1).trans rfl
           have hcz24_2 : wc.cell? ⟨gb345, 2, none⟩ = some (.int .i64 a1_2) := (aD BK345.out 2).trans rfl
           have hcz24_3 : wc.cell? ⟨gb345, 3, none⟩ = some (.int .i64 a1_3) := (aD BK345.out 3).trans rfl
           have hcz24_4 : wc.cell? ⟨gb345, 4, none⟩ = some (.int .i64 a1_4) := (aD BK345.out 4).trans rfl
           have hfz24_0 := aX BK345.out 0
           have hfz24_1 := aX BK345.out 1
           have hfz24_2 := aX BK345.out 2
           have hfz24_3 := aX BK345.out 3
           have hfz24_4 := aX BK345.out 4
           go_wp2_with (first | ((with_reducible refine gate_builtin (b := .append) (xs := #[.tmp 24, .tmp 26]) rfl ?_); at_builtin; refine Kd.R_append k27 (w0 := w) w.heap.size rfl (.tmp 24) (.tmp 26) 40 27 (.agg #[(.int .i64 0), (.int .i64 0), (.int .i64 0), (.int .i64 0), (.int .i64 0)]) 40 rfl Try.underlying40 info27 rfl (by decide) (by omega) u5 x5_1 (⟨a1_0, a1_1, a1_2, a1_3, a1_4⟩ : S27) [.int .i64 a1_0, .int .i64 a1_1, .int .i64 a1_2, .int .i64 a1_3, .int .i64 a1_4] (fun k_ => k_ ≠ gb345 ∧ k_ ≠ gb353) (fun _ => False) rfl rfl ?aP (fun _ hk => hk.elim) ?aF ?aO ?aB ?aS ?aL ?_; (case aP => exact k27_mkM _ _ _ (⟨a1_0, a1_1, a1_2, a1_3, a1_4⟩ : S27)); (case aB => exact (by repeat (first | (with_reducible first | exact HB.out | apply aN | apply aE | apply aH | refine aC ?_ GE345.out | refine aC ?_ GE353.out) | exact HB.out))); (case aF => exact (fun k_ hk => ⟨Kd.freshB (g := gb345) (o := .cells #[.int .i64 a1_0, .int .i64 a1_1, .int .i64 a1_2, .int .i64 a1_3, .int .i64 a1_4] 27 (0, 0)) BK345.out k_ hk, Kd.freshB (g := gb353) (o := .cells #[.int .i64 ((rd_T27 l0 x12_1).f0), .int .i64 ((rd_T27 l0 x12_1).f1), .int .i64 ((rd_T27 l0 x12_1).f2), .int .i64 ((rd_T27 l0 x12_1).f3), .int .i64 ((rd_T27 l0 x12_1).f4)] 27 (0, 0)) BK353.out k_ hk⟩)); (case aO => exact HO_5.out); (case aS => exact (aQ (by repeat (first | (with_reducible first | exact HB.out | apply aN | apply aE | apply aH | refine aC ?_ GE345.out | refine aC ?_ GE353.out) | exact HB.out)))); (case aL => have := LMc20.out; omega); intro v356 w25 ho hb hg hat; rw [← Ny355.out] at ho; have n0_ := aA.mk (blk_grown (g := gb345) (o := .cells #[.int .i64 a1_0, .int .i64 a1_1, .int .i64 a1_2, .int .i64 a1_3, .int .i64 a1_4] 27 (0, 0)) BK345.out hg (Kd.R_away HO_5.out (fun _ hk => hk.1))); have n1_ := aA.mk (blk_grown (g := gb353) (o := .cells #[.int .i64 ((rd_T27 l0 x12_1).f0), .int .i64 ((rd_T27 l0 x12_1).f1), .int .i64 ((rd_T27 l0 x12_1).f2), .int .i64 ((rd_T27 l0 x12_1).f3), .int .i64 ((rd_T27 l0 x12_1).f4)] 27 (0, 0)) BK353.out hg (Kd.R_away HO_5.out (fun _ hk => hk.2))); have n2_ := aA.mk (hb); have n3_ := aA.mk (ho); clear BK345; clear BK353; clear HB; clear HO_5; have BK345 := n0_; have BK353 := n1_; have HB := n2_; have HO357 := n3_; clear n0_ n1_ n2_ n3_; clear ho hb hg hat; have hcz26_0 : w25.cell? ⟨gb353, 0, none⟩ = some (.int .i64 ((rd_T27 l0 x12_1).f0)) := (aD BK353.out 0).trans rfl; have hcz26_1 : w25.cell? ⟨gb353, 1, none⟩ = some (.int .i64 ((rd_T27 l0 x12_1).f1)) := (aD BK353.out 1).trans rfl; have hcz26_2 : w25.cell? ⟨gb353, 2, none⟩ = some (.int .i64 ((rd_T27 l0 x12_1).f2)) := (aD BK353.out 2).trans rfl; have hcz26_3 : w25.cell? ⟨gb353, 3, none⟩ = some (.int .i64 ((rd_T27 l0 x12_1).f3)) := (aD BK353.out 3).trans rfl; have hcz26_4 : w25.cell? ⟨gb353, 4, none⟩ = some (.int .i64 ((rd_T27 l0 x12_1).f4)) := (aD BK353.out 4).trans rfl; have hfz26_0 := aX BK353.out 0; have hfz26_1 := aX BK353.out 1; have hfz26_2 := aX BK353.out 2; have hfz26_3 := aX BK353.out 3; have hfz26_4 := aX BK353.out 4; have hcz27_0 : w25.cell? ⟨gb345, 0, none⟩ = some (.int .i64 a1_0) := (aD BK345.out 0).trans rfl; have hcz27_1 : w25.cell? ⟨gb345, 1, none⟩ = some (.int .i64 a1_1) := (aD BK345.out 1).trans rfl; have hcz27_2 : w25.cell? ⟨gb345, 2, none⟩ = some (.int .i64 a1_2) := (aD BK345.out 2).trans rfl; have hcz27_3 : w25.cell? ⟨gb345, 3, none⟩ = some (.int .i64 a1_3) := (aD BK345.out 3).trans rfl; have hcz27_4 : w25.cell? ⟨gb345, 4, none⟩ = some (.int .i64 a1_4) := (aD BK345.out 4).trans rfl; have hfz27_0 := aX BK345.out 0; have hfz27_1 := aX BK345.out 1; have hfz27_2 := aX BK345.out 2; have hfz27_3 := aX BK345.out 3; have hfz27_4 := aX BK345.out 4) | ((with_reducible refine bD (f := 95) rfl ?_); refine bL (some 30) rfl rfl Try.func95 (by kernel_rfl) rfl #[.agg #[.int .i64 ((rd_T27 l0 x12_1).f0), .int .i64 ((rd_T27 l0 x12_1).f1), .int .i64 ((rd_T27 l0 x12_1).f2), .int .i64 ((rd_T27 l0 x12_1).f3), .int .i64 ((rd_T27 l0 x12_1).f4)], .agg #[.int .i64 a1_0, .int .i64 a1_1, .int .i64 a1_2, .int .i64 a1_3, .int .i64 a1_4]] rfl (by (try simp only [List.map_toArray, List.map_cons, List.map_nil]); first | done | rfl) ?_; (with_reducible refine (impl_SameSpot.calls ((rd_T27 l0 x12_1).f0) ((rd_T27 l0 x12_1).f1) ((rd_T27 l0 x12_1).f2) ((rd_T27 l0 x12_1).f3) ((rd_T27 l0 x12_1).f4) a1_0 a1_1 a1_2 a1_3 a1_4 true _ A21.out).mono ?_); rintro e w28 ⟨rfl, hb⟩; refine ⟨_, rfl, ?_⟩; have n0_ := aA.mk (Kd.R_below HO357.out hb); have n1_ := aA.mk (aG (g := gb345) (o := .cells #[.int .i64 a1_0, .int .i64 a1_1, .int .i64 a1_2, .int .i64 a1_3, .int .i64 a1_4] 27 (0, 0)) BK345.out hb); have n2_ := aA.mk (aG (g := gb353) (o := .cells #[.int .i64 ((rd_T27 l0 x12_1).f0), .int .i64 ((rd_T27 l0 x12_1).f1), .int .i64 ((rd_T27 l0 x12_1).f2), .int .i64 ((rd_T27 l0 x12_1).f3), .int .i64 ((rd_T27 l0 x12_1).f4)] 27 (0, 0)) BK353.out hb); have n3_ := aA.mk (aT (by repeat (first | (with_reducible first | exact HB.out | apply aN | apply aE | apply aH | refine aC ?_ GE345.out | refine aC ?_ GE353.out) | exact HB.out)) hb); clear HO357; clear BK345; clear BK353; clear HB; have HO357 := n0_; have BK345 := n1_; have BK353 := n2_; have HB := n3_; clear n0_ n1_ n2_ n3_; (try clear hb); (try clear hk)))
           go_roundg kj8
           case measure => have := HK1.out; have := HJ8.out; omega
           case rel => exact ⟨(y355), (true), (wrap64 (x12_1 + 1)), (by first | rfl | (simp; done) | (simp [*]; done)), (by first | rfl | (simp; done) | (simp [*]; done)), H', ⟨by have := HK1.out; have := HJ8.out; omega⟩, ⟨by (with_reducible repeat (first | apply Kd.bQ | apply Kd.bR | apply Kd.bU)); exact Kd.bK HO357.out (fun _ hk => hk.1)⟩, ⟨by (with_reducible repeat (first | refine aM ?_ _ | refine aJ ?_ | refine aK ?_ _)); exact BK345.out⟩, ⟨by repeat (first | (with_reducible first | exact HB.out | apply aN | apply aE | apply aH | refine aC ?_ GE345.out | refine aC ?_ GE353.out) | exact HB.out)⟩⟩
          ·replace c22 := Bool.eq_false_iff.mpr c22
           subst c22
           have H1 : (if y355.length < 3518437208883 then (impl_SetPut.l0 kj8 (y355 ++ [(⟨((rd_T27 l0 x12_1).f0), ((rd_T27 l0 x12_1).f1), ((rd_T27 l0 x12_1).f2), ((rd_T27 l0 x12_1).f3), ((rd_T27 l0 x12_1).f4)⟩ : S27)]) true l0 (l0.length : Int) (wrap64 (x12_1 + 1)) a1_0 a1_1 a1_2 a1_3 a1_4) else (none)) = some r := by rw [if_neg (show ¬ (false = true) by decide)] at H; exact H
           clear H
           have H := H1
           clear H1
           by_cases c29 : y355.length < 3518437208883
           ·rw [if_pos c29] at H
            have LMc29 := aA.mk c29
            clear c29
            obtain ⟨y359, hy359⟩ : ∃ y_ : List (S27), y_ = (y355 ++ [(⟨((rd_T27 l0 x12_1).f0), ((rd_T27 l0 x12_1).f1), ((rd_T27 l0 x12_1).f2), ((rd_T27 l0 x12_1).f3), ((rd_T27 l0 x12_1).f4)⟩ : S27)]) := ⟨_, rfl⟩
            replace H : (impl_SetPut.l0 kj8 y359 true l0 (l0.length : Int) (wrap64 (x12_1 + 1)) a1_0 a1_1 a1_2 a1_3 a1_4) = some r := by first | (rw [hy359]; with_reducible exact H) | (have H2_ := (Option.bind_some _ _).symm.trans H; rw [hy359]; with_reducible exact H2_) | (have H2_ := (Option.bind_some _ _).symm.trans H; with_reducible exact H2_) | with_reducible exact H | (rw [hy359]; exact H) | exact H
            have Ny359 := aA.mk hy359
            clear hy359
            have H' := aA.mk H
            clear H
            have hnb30 := NB345_353.out
            have hnc30 := NB353_345.out
            have hcz31_0 : wc.cell? ⟨gb345, 0, none⟩ = some (.int .i64 a1_0) := (aD BK345.out 0).trans rfl
            have hcz31_1 : wc.cell? ⟨gb345, 1, none⟩ = some (.int .i64 a1_1) := (aD BK345.out 1).trans rfl
            have hcz31_2 : wc.cell? ⟨gb345, 2, none⟩ = some (.int .i64 a1_2) := (aD BK345.out 2).trans rfl
            have hcz31_3 : wc.cell? ⟨gb345, 3, none⟩ = some (.int .i64 a1_3) := (aD BK345.out 3).trans rfl
            have hcz31_4 : wc.cell? ⟨gb345, 4, none⟩ = some (.int .i64 a1_4) := (aD BK345.out 4).trans rfl
            have hfz31_0 := aX BK345.out 0
            have hfz31_1 := aX BK345.out 1
            have hfz31_2 := aX BK345.out 2
            have hfz31_3 := aX BK345.out 3
            have hfz31_4 := aX BK345.out 4
            go_wp2_with (first | ((with_reducible refine gate_builtin (b := .append) (xs := #[.tmp 24, .tmp 26]) rfl ?_); at_builtin; refine Kd.R_append k27 (w0 := w) w.heap.size rfl (.tmp 24) (.tmp 26) 40 27 (.agg #[(.int .i64 0), (.int .i64 0), (.int .i64 0), (.int .i64 0), (.int .i64 0)]) 40 rfl Try.underlying40 info27 rfl (by decide) (by omega) u5 x5_1 (⟨a1_0, a1_1, a1_2, a1_3, a1_4⟩ : S27) [.int .i64 a1_0, .int .i64 a1_1, .int .i64 a1_2, .int .i64 a1_3, .int .i64 a1_4] (fun k_ => k_ ≠ gb345 ∧ k_ ≠ gb353) (fun _ => False) rfl rfl ?aP (fun _ hk => hk.elim) ?aF ?aO ?aB ?aS ?aL ?_; (case aP => exact k27_mkM _ _ _ (⟨a1_0, a1_1, a1_2, a1_3, a1_4⟩ : S27)); (case aB => exact (by repeat (first | (with_reducible first | exact HB.out | apply aN | apply aE | apply aH | refine aC ?_ GE345.out | refine aC ?_ GE353.out) | exact HB.out))); (case aF => exact (fun k_ hk => ⟨Kd.freshB (g := gb345) (o := .cells #[.int .i64 a1_0, .int .i64 a1_1, .int .i64 a1_2, .int .i64 a1_3, .int .i64 a1_4] 27 (0, 0)) BK345.out k_ hk, Kd.freshB (g := gb353) (o := .cells #[.int .i64 ((rd_T27 l0 x12_1).f0), .int .i64 ((rd_T27 l0 x12_1).f1), .int .i64 ((rd_T27 l0 x12_1).f2), .int .i64 ((rd_T27 l0 x12_1).f3), .int .i64 ((rd_T27 l0 x12_1).f4)] 27 (0, 0)) BK353.out k_ hk⟩)); (case aO => exact HO_5.out); (case aS => exact (aQ (by repeat (first | (with_reducible first | exact HB.out | apply aN | apply aE | apply aH | refine aC ?_ GE345.out | refine aC ?_ GE353.out) | exact HB.out)))); (case aL => have := LMc20.out; omega); intro v356 w32 ho hb hg hat; rw [← Ny355.out] at ho; have n0_ := aA.mk (blk_grown (g := gb345) (o := .cells #[.int .i64 a1_0, .int .i64 a1_1, .int .i64 a1_2, .int .i64 a1_3, .int .i64 a1_4] 27 (0, 0)) BK345.out hg (Kd.R_away HO_5.out (fun _ hk => hk.1))); have n1_ := aA.mk (blk_grown (g := gb353) (o := .cells #[.int .i64 ((rd_T27 l0 x12_1).f0), .int .i64 ((rd_T27 l0 x12_1).f1), .int .i64 ((rd_T27 l0 x12_1).f2), .int .i64 ((rd_T27 l0 x12_1).f3), .int .i64 ((rd_T27 l0 x12_1).f4)] 27 (0, 0)) BK353.out hg (Kd.R_away HO_5.out (fun _ hk => hk.2))); have n2_ := aA.mk (hb); have n3_ := aA.mk (ho); clear BK345; clear BK353; clear HB; clear HO_5; have BK345 := n0_; have BK353 := n1_; have HB := n2_; have HO357 := n3_; clear n0_ n1_ n2_ n3_; clear ho hb hg hat; have hcz33_0 : w32.cell? ⟨gb353, 0, none⟩ = some (.int .i64 ((rd_T27 l0 x12_1).f0)) := (aD BK353.out 0).trans rfl; have hcz33_1 : w32.cell? ⟨gb353, 1, none⟩ = some (.int .i64 ((rd_T27 l0 x12_1).f1)) := (aD BK353.out 1).trans rfl; have hcz33_2 : w32.cell? ⟨gb353, 2, none⟩ = some (.int .i64 ((rd_T27 l0 x12_1).f2)) := (aD BK353.out 2).trans rfl; have hcz33_3 : w32.cell? ⟨gb353, 3, none⟩ = some (.int .i64 ((rd_T27 l0 x12_1).f3)) := (aD BK353.out 3).trans rfl; have hcz33_4 : w32.cell? ⟨gb353, 4, none⟩ = some (.int .i64 ((rd_T27 l0 x12_1).f4)) := (aD BK353.out 4).trans rfl; have hfz33_0 := aX BK353.out 0; have hfz33_1 := aX BK353.out 1; have hfz33_2 := aX BK353.out 2; have hfz33_3 := aX BK353.out 3; have hfz33_4 := aX BK353.out 4; have hcz34_0 : w32.cell? ⟨gb345, 0, none⟩ = some (.int .i64 a1_0) := (aD BK345.out 0).trans rfl; have hcz34_1 : w32.cell? ⟨gb345, 1, none⟩ = some (.int .i64 a1_1) := (aD BK345.out 1).trans rfl; have hcz34_2 : w32.cell? ⟨gb345, 2, none⟩ = some (.int .i64 a1_2) := (aD BK345.out 2).trans rfl; have hcz34_3 : w32.cell? ⟨gb345, 3, none⟩ = some (.int .i64 a1_3) := (aD BK345.out 3).trans rfl; have hcz34_4 : w32.cell? ⟨gb345, 4, none⟩ = some (.int .i64 a1_4) := (aD BK345.out 4).trans rfl; have hfz34_0 := aX BK345.out 0; have hfz34_1 := aX BK345.out 1; have hfz34_2 := aX BK345.out 2; have hfz34_3 := aX BK345.out 3; have hfz34_4 := aX BK345.out 4) | ((with_reducible refine bD (f := 95) rfl ?_); refine bL (some 30) rfl rfl Try.func95 (by kernel_rfl) rfl #[.agg #[.int .i64 ((rd_T27 l0 x12_1).f0), .int .i64 ((rd_T27 l0 x12_1).f1), .int .i64 ((rd_T27 l0 x12_1).f2), .int .i64 ((rd_T27 l0 x12_1).f3), .int .i64 ((rd_T27 l0 x12_1).f4)], .agg #[.int .i64 a1_0, .int .i64 a1_1, .int .i64 a1_2, .int .i64 a1_3, .int .i64 a1_4]] rfl (by (try simp only [List.map_toArray, List.map_cons, List.map_nil]); first | done | rfl) ?_; (with_reducible refine (impl_SameSpot.calls ((rd_T27 l0 x12_1).f0) ((rd_T27 l0 x12_1).f1) ((rd_T27 l0 x12_1).f2) ((rd_T27 l0 x12_1).f3) ((rd_T27 l0 x12_1).f4) a1_0 a1_1 a1_2 a1_3 a1_4 false _ A21.out).mono ?_); rintro e w35 ⟨rfl, hb⟩; refine ⟨_, rfl, ?_⟩; have n0_ := aA.mk (Kd.R_below HO357.out hb); have n1_ := aA.mk (aG (g := gb345) (o := .cells #[.int .i64 a1_0, .int .i64 a1_1, .int .i64 a1_2, .int .i64 a1_3, .int .i64 a1_4] 27 (0, 0)) BK345.out hb); have n2_ := aA.mk (aG (g := gb353) (o := .cells #[.int .i64 ((rd_T27 l0 x12_1).f0), .int .i64 ((rd_T27 l0 x12_1).f1), .int .i64 ((rd_T27 l0 x12_1).f2), .int .i64 ((rd_T27 l0 x12_1).f3), .int .i64 ((rd_T27 l0 x12_1).f4)] 27 (0, 0)) BK353.out hb); have n3_ := aA.mk (aT (by repeat (first | (with_reducible first | exact HB.out | apply aN | apply aE | apply aH | refine aC ?_ GE345.out | refine aC ?_ GE353.out) | exact HB.out)) hb); clear HO357; clear BK345; clear BK353; clear HB; have HO357 := n0_; have BK345 := n1_; have BK353 := n2_; have HB := n3_; clear n0_ n1_ n2_ n3_; (try clear hb); (try clear hk); have hcz36_0 : w35.cell? ⟨gb353, 0, none⟩ = some (.int .i64 ((rd_T27 l0 x12_1).f0)) := (aD BK353.out 0).trans rfl; have hcz36_1 : w35.cell? ⟨gb353, 1, none⟩ = some (.int .i64 ((rd_T27 l0 x12_1).f1)) := (aD BK353.out 1).trans rfl; have hcz36_2 : w35.cell? ⟨gb353, 2, none⟩ = some (.int .i64 ((rd_T27 l0 x12_1).f2)) := (aD BK353.out 2).trans rfl; have hcz36_3 : w35.cell? ⟨gb353, 3, none⟩ = some (.int .i64 ((rd_T27 l0 x12_1).f3)) := (aD BK353.out 3).trans rfl; have hcz36_4 : w35.cell? ⟨gb353, 4, none⟩ = some (.int .i64 ((rd_T27 l0 x12_1).f4)) := (aD BK353.out 4).trans rfl; have hfz36_0 := aX BK353.out 0; have hfz36_1 := aX BK353.out 1; have hfz36_2 := aX BK353.out 2; have hfz36_3 := aX BK353.out 3; have hfz36_4 := aX BK353.out 4) | ((with_reducible refine gate_builtin (b := .append) (xs := #[.tmp 32, .tmp 34]) rfl ?_); at_builtin; refine Kd.R_append k27 (w0 := w) w.heap.size rfl (.tmp 32) (.tmp 34) 40 27 (.agg #[(.int .i64 0), (.int .i64 0), (.int .i64 0), (.int .i64 0), (.int .i64 0)]) 40 rfl Try.underlying40 info27 rfl (by decide) (by omega) v356 y355 (⟨((rd_T27 l0 x12_1).f0), ((rd_T27 l0 x12_1).f1), ((rd_T27 l0 x12_1).f2), ((rd_T27 l0 x12_1).f3), ((rd_T27 l0 x12_1).f4)⟩ : S27) [.int .i64 ((rd_T27 l0 x12_1).f0), .int .i64 ((rd_T27 l0 x12_1).f1), .int .i64 ((rd_T27 l0 x12_1).f2), .int .i64 ((rd_T27 l0 x12_1).f3), .int .i64 ((rd_T27 l0 x12_1).f4)] (fun k_ => k_ ≠ gb345 ∧ k_ ≠ gb353) (fun _ => False) rfl rfl ?aP (fun _ hk => hk.elim) ?aF ?aO ?aB ?aS ?aL ?_; (case aP => exact k27_mkM _ _ _ (⟨((rd_T27 l0 x12_1).f0), ((rd_T27 l0 x12_1).f1), ((rd_T27 l0 x12_1).f2), ((rd_T27 l0 x12_1).f3), ((rd_T27 l0 x12_1).f4)⟩ : S27)); (case aB => exact (by repeat (first | (with_reducible first | exact HB.out | apply aN | apply aE | apply aH | refine aC ?_ GE345.out | refine aC ?_ GE353.out) | exact HB.out))); (case aF => exact (fun k_ hk => ⟨Kd.freshB (g := gb345) (o := .cells #[.int .i64 a1_0, .int .i64 a1_1, .int .i64 a1_2, .int .i64 a1_3, .int .i64 a1_4] 27 (0, 0)) BK345.out k_ hk, Kd.freshB (g := gb353) (o := .cells #[.int .i64 ((rd_T27 l0 x12_1).f0), .int .i64 ((rd_T27 l0 x12_1).f1), .int .i64 ((rd_T27 l0 x12_1).f2), .int .i64 ((rd_T27 l0 x12_1).f3), .int .i64 ((rd_T27 l0 x12_1).f4)] 27 (0, 0)) BK353.out k_ hk⟩)); (case aO => exact HO357.out); (case aS => exact (aQ (by repeat (first | (with_reducible first | exact HB.out | apply aN | apply aE | apply aH | refine aC ?_ GE345.out | refine aC ?_ GE353.out) | exact HB.out)))); (case aL => have := LMc29.out; omega); intro v360 w37 ho hb hg hat; rw [← Ny359.out] at ho; have n0_ := aA.mk (blk_grown (g := gb345) (o := .cells #[.int .i64 a1_0, .int .i64 a1_1, .int .i64 a1_2, .int .i64 a1_3, .int .i64 a1_4] 27 (0, 0)) BK345.out hg (Kd.R_away HO357.out (fun _ hk => hk.1))); have n1_ := aA.mk (blk_grown (g := gb353) (o := .cells #[.int .i64 ((rd_T27 l0 x12_1).f0), .int .i64 ((rd_T27 l0 x12_1).f1), .int .i64 ((rd_T27 l0 x12_1).f2), .int .i64 ((rd_T27 l0 x12_1).f3), .int .i64 ((rd_T27 l0 x12_1).f4)] 27 (0, 0)) BK353.out hg (Kd.R_away HO357.out (fun _ hk => hk.2))); have n2_ := aA.mk (hb); have n3_ := aA.mk (ho); clear BK345; clear BK353; clear HB; clear HO357; have BK345 := n0_; have BK353 := n1_; have HB := n2_; have HO361 := n3_; clear n0_ n1_ n2_ n3_; clear ho hb hg hat))
            go_roundg kj8
            case measure => have := HK1.out; have := HJ8.out; omega
            case rel => exact ⟨(y359), (true), (wrap64 (x12_1 + 1)), (by first | rfl | (simp; done) | (simp [*]; done)), (by first | rfl | (simp; done) | (simp [*]; done)), H', ⟨by have := HK1.out; have := HJ8.out; omega⟩, ⟨by (with_reducible repeat (first | apply Kd.bQ | apply Kd.bR | apply Kd.bU)); exact Kd.bK HO361.out (fun _ hk => hk.1)⟩, ⟨by (with_reducible repeat (first | refine aM ?_ _ | refine aJ ?_ | refine aK ?_ _)); exact BK345.out⟩, ⟨by repeat (first | (with_reducible first | exact HB.out | apply aN | apply aE | apply aH | refine aC ?_ GE345.out | refine aC ?_ GE353.out) | exact HB.out)⟩⟩
           ·rw [if_neg c29] at H
            exact absurd H (by simp)
         ·rw [if_neg c20] at H
          exact absurd H (by simp)
        ·replace c19 := Bool.eq_false_iff.mpr c19
         subst c19
         have H1 : ((impl_SameSpot.f ((rd_T27 l0 x12_1).f0) ((rd_T27 l0 x12_1).f1) ((rd_T27 l0 x12_1).f2) ((rd_T27 l0 x12_1).f3) ((rd_T27 l0 x12_1).f4) a1_0 a1_1 a1_2 a1_3 a1_4).bind fun t362 => (if t362 = true then (impl_SetPut.l0 kj8 x5_1 x6_1 l0 (l0.length : Int) (wrap64 (x12_1 + 1)) a1_0 a1_1 a1_2 a1_3 a1_4) else (if x5_1.length < 3518437208883 then (impl_SetPut.l0 kj8 (x5_1 ++ [(⟨((rd_T27 l0 x12_1).f0), ((rd_T27 l0 x12_1).f1), ((rd_T27 l0 x12_1).f2), ((rd_T27 l0 x12_1).f3), ((rd_T27 l0 x12_1).f4)⟩ : S27)]) x6_1 l0 (l0.length : Int) (wrap64 (x12_1 + 1)) a1_0 a1_1 a1_2 a1_3 a1_4) else (none)))) = some r := by rw [if_neg (show ¬ (false = true) by decide)] at H; exact H
         clear H
         have H := H1
         clear H1
         replace H := lF H
         obtain ⟨t362, A380, H⟩ := H
         replace H : (if t362 = true then (impl_SetPut.l0 kj8 x5_1 x6_1 l0 (l0.length : Int) (wrap64 (x12_1 + 1)) a1_0 a1_1 a1_2 a1_3 a1_4) else (if x5_1.length < 3518437208883 then (impl_SetPut.l0 kj8 (x5_1 ++ [(⟨((rd_T27 l0 x12_1).f0), ((rd_T27 l0 x12_1).f1), ((rd_T27 l0 x12_1).f2), ((rd_T27 l0 x12_1).f3), ((rd_T27 l0 x12_1).f4)⟩ : S27)]) x6_1 l0 (l0.length : Int) (wrap64 (x12_1 + 1)) a1_0 a1_1 a1_2 a1_3 a1_4) else (none))) = some r := H
         have A38 := aA.mk A380
         clear A380
         by_cases c39 : t362 = true
         ·subst c39
          have H1 : (impl_SetPut.l0 kj8 x5_1 x6_1 l0 (l0.length : Int) (wrap64 (x12_1 + 1)) a1_0 a1_1 a1_2 a1_3 a1_4) = some r := by rw [if_pos rfl] at H; exact H
          clear H
          have H := H1
          clear H1
          have H' := aA.mk H
          clear H
          have hnb40 := NB353_345.out
          have hnc40 := NB345_353.out
          have hcz41_0 : wc.cell? ⟨gb353, 0, none⟩ = some (.int .i64 ((rd_T27 l0 x12_1).f0)) := (aD BK353.out 0).trans rfl
          have hcz41_1 : wc.cell? ⟨gb353, 1, none⟩ = some (.int .i64 ((rd_T27 l0 x12_1).f1)) := (aD BK353.out 1).trans rfl
          have hcz41_2 : wc.cell? ⟨gb353, 2, none⟩ = some (.int .i64 ((rd_T27 l0 x12_1).f2)) := (aD BK353.out 2).trans rfl
          have hcz41_3 : wc.cell? ⟨gb353, 3, none⟩ = some (.int .i64 ((rd_T27 l0 x12_1).f3)) := (aD BK353.out 3).trans rfl
          have hcz41_4 : wc.cell? ⟨gb353, 4, none⟩ = some (.int .i64 ((rd_T27 l0 x12_1).f4)) := (aD BK353.out 4).trans rfl
          have hfz41_0 := aX BK353.out 0
          have hfz41_1 := aX BK353.out 1
          have hfz41_2 := aX BK353.out 2
          have hfz41_3 := aX BK353.out 3
          have hfz41_4 := aX BK353.out 4
          have hcz42_0 : wc.cell? ⟨gb345, 0, none⟩ = some (.int .i64 a1_0) := (aD BK345.out 0).trans rfl
          have hcz42_1 : wc.cell? ⟨gb345, 1, none⟩ = some (.int .i64 a1_1) := (aD BK345.out 1).trans rfl
          have hcz42_2 : wc.cell? ⟨gb345, 2, none⟩ = some (.int .i64 a1_2) := (aD BK345.out 2).trans rfl
          have hcz42_3 : wc.cell? ⟨gb345, 3, none⟩ = some (.int .i64 a1_3) := (aD BK345.out 3).trans rfl
          have hcz42_4 : wc.cell? ⟨gb345, 4, none⟩ = some (.int .i64 a1_4) := (aD BK345.out 4).trans rfl
          have hfz42_0 := aX BK345.out 0
          have hfz42_1 := aX BK345.out 1
          have hfz42_2 := aX BK345.out 2
          have hfz42_3 := aX BK345.out 3
          have hfz42_4 := aX BK345.out 4
          go_wp2_with (first | ((with_reducible refine bD (f := 95) rfl ?_); refine bL (some 30) rfl rfl Try.func95 (by kernel_rfl) rfl #[.agg #[.int .i64 ((rd_T27 l0 x12_1).f0), .int .i64 ((rd_T27 l0 x12_1).f1), .int .i64 ((rd_T27 l0 x12_1).f2), .int .i64 ((rd_T27 l0 x12_1).f3), .int .i64 ((rd_T27 l0 x12_1).f4)], .agg #[.int .i64 a1_0, .int .i64 a1_1, .int .i64 a1_2, .int .i64 a1_3, .int .i64 a1_4]] rfl (by (try simp only [List.map_toArray, List.map_cons, List.map_nil]); first | done | rfl) ?_; (with_reducible refine (impl_SameSpot.calls ((rd_T27 l0 x12_1).f0) ((rd_T27 l0 x12_1).f1) ((rd_T27 l0 x12_1).f2) ((rd_T27 l0 x12_1).f3) ((rd_T27 l0 x12_1).f4) a1_0 a1_1 a1_2 a1_3 a1_4 true _ A38.out).mono ?_); rintro e w43 ⟨rfl, hb⟩; refine ⟨_, rfl, ?_⟩; have n0_ := aA.mk (Kd.R_below HO_5.out hb); have n1_ := aA.mk (aG (g := gb345) (o := .cells #[.int .i64 a1_0, .int .i64 a1_1, .int .i64 a1_2, .int .i64 a1_3, .int .i64 a1_4] 27 (0, 0)) BK345.out hb); have n2_ := aA.mk (aG (g := gb353) (o := .cells #[.int .i64 ((rd_T27 l0 x12_1).f0), .int .i64 ((rd_T27 l0 x12_1).f1), .int .i64 ((rd_T27 l0 x12_1).f2), .int .i64 ((rd_T27 l0 x12_1).f3), .int .i64 ((rd_T27 l0 x12_1).f4)] 27 (0, 0)) BK353.out hb); have n3_ := aA.mk (aT (by repeat (first | (with_reducible first | exact HB.out | apply aN | apply aE | apply aH | refine aC ?_ GE345.out | refine aC ?_ GE353.out) | exact HB.out)) hb); clear HO_5; clear BK345; clear BK353; clear HB; have HO_5 := n0_; have BK345 := n1_; have BK353 := n2_; have HB := n3_; clear n0_ n1_ n2_ n3_; (try clear hb)))
          go_roundg kj8
          case measure => have := HK1.out; have := HJ8.out; omega
          case rel => exact ⟨(x5_1), (x6_1), (wrap64 (x12_1 + 1)), (by first | rfl | (simp; done) | (simp [*]; done)), (by first | rfl | (simp; done) | (simp [*]; done)), H', ⟨by have := HK1.out; have := HJ8.out; omega⟩, ⟨by (with_reducible repeat (first | apply Kd.bQ | apply Kd.bR | apply Kd.bU)); exact Kd.bK HO_5.out (fun _ hk => hk.1)⟩, ⟨by (with_reducible repeat (first | refine aM ?_ _ | refine aJ ?_ | refine aK ?_ _)); exact BK345.out⟩, ⟨by repeat (first | (with_reducible first | exact HB.out | apply aN | apply aE | apply aH | refine aC ?_ GE345.out | refine aC ?_ GE353.out) | exact HB.out)⟩⟩
         ·replace c39 := Bool.eq_false_iff.mpr c39
          subst c39
          have H1 : (if x5_1.length < 3518437208883 then (impl_SetPut.l0 kj8 (x5_1 ++ [(⟨((rd_T27 l0 x12_1).f0), ((rd_T27 l0 x12_1).f1), ((rd_T27 l0 x12_1).f2), ((rd_T27 l0 x12_1).f3), ((rd_T27 l0 x12_1).f4)⟩ : S27)]) x6_1 l0 (l0.length : Int) (wrap64 (x12_1 + 1)) a1_0 a1_1 a1_2 a1_3 a1_4) else (none)) = some r := by rw [if_neg (show ¬ (false = true) by decide)] at H; exact H
          clear H
          have H := H1
          clear H1
          by_cases c44 : x5_1.length < 3518437208883
          ·rw [if_pos c44] at H
           have LMc44 := aA.mk c44
           clear c44
           obtain ⟨y363, hy363⟩ : ∃ y_ : List (S27), y_ = (x5_1 ++ [(⟨((rd_T27 l0 x12_1).f0), ((rd_T27 l0 x12_1).f1), ((rd_T27 l0 x12_1).f2), ((rd_T27 l0 x12_1).f3), ((rd_T27 l0 x12_1).f4)⟩ : S27)]) := ⟨_, rfl⟩
           replace H : (impl_SetPut.l0 kj8 y363 x6_1 l0 (l0.length : Int) (wrap64 (x12_1 + 1)) a1_0 a1_1 a1_2 a1_3 a1_4) = some r := by first | (rw [hy363]; with_reducible exact H) | (have H2_ := (Option.bind_some _ _).symm.trans H; rw [hy363]; with_reducible exact H2_) | (have H2_ := (Option.bind_some _ _).symm.trans H; with_reducible exact H2_) | with_reducible exact H | (rw [hy363]; exact H) | exact H
           have Ny363 := aA.mk hy363
           clear hy363
           have H' := aA.mk H
           clear H
           have hnb45 := NB353_345.out
           have hnc45 := NB345_353.out
           have hcz46_0 : wc.cell? ⟨gb353, 0, none⟩ = some (.int .i64 ((rd_T27 l0 x12_1).f0)) := (aD BK353.out 0).trans rfl
           have hcz46_1 : wc.cell? ⟨gb353, 1, none⟩ = some (.int .i64 ((rd_T27 l0 x12_1).f1)) := (aD BK353.out 1).trans rfl
           have hcz46_2 : wc.cell? ⟨gb353, 2, none⟩ = some (.int .i64 ((rd_T27 l0 x12_1).f2)) := (aD BK353.out 2).trans rfl
           have hcz46_3 : wc.cell? ⟨gb353, 3, none⟩ = some (.int .i64 ((rd_T27 l0 x12_1).f3)) := (aD BK353.out 3).trans rfl
           have hcz46_4 : wc.cell? ⟨gb353, 4, none⟩ = some (.int .i64 ((rd_T27 l0 x12_1).f4)) := (aD BK353.out 4).trans rfl
           have hfz46_0 := aX BK353.out 0
           have hfz46_1 := aX BK353.out 1
           have hfz46_2 := aX BK353.out 2
           have hfz46_3 := aX BK353.out 3
           have hfz46_4 := aX BK353.out 4
           have hcz47_0 : wc.cell? ⟨gb345, 0, none⟩ = some (.int .i64 a1_0) := (aD BK345.out 0).trans rfl
           have hcz47_1 : wc.cell? ⟨gb345, 1, none⟩ = some (.int .i64 a1_1) := (aD BK345.out 1).trans rfl
           have hcz47_2 : wc.cell? ⟨gb345, 2, none⟩ = some (.int .i64 a1_2) := (aD BK345.out 2).trans rfl
           have hcz47_3 : wc.cell? ⟨gb345, 3, none⟩ = some (.int .i64 a1_3) := (aD BK345.out 3).trans rfl
           have hcz47_4 : wc.cell? ⟨gb345, 4, none⟩ = some (.int .i64 a1_4) := (aD BK345.out 4).trans rfl
           have hfz47_0 := aX BK345.out 0
           have hfz47_1 := aX BK345.out 1
           have hfz47_2 := aX BK345.out 2
           have hfz47_3 := aX BK345.out 3
           have hfz47_4 := aX BK345.out 4
           go_wp2_with (first | ((with_reducible refine bD (f := 95) rfl ?_); refine bL (some 30) rfl rfl Try.func95 (by kernel_rfl) rfl #[.agg #[.int .i64 ((rd_T27 l0 x12_1).f0), .int .i64 ((rd_T27 l0 x12_1).f1), .int .i64 ((rd_T27 l0 x12_1).f2), .int .i64 ((rd_T27 l0 x12_1).f3), .int .i64 ((rd_T27 l0 x12_1).f4)], .agg #[.int .i64 a1_0, .int .i64 a1_1, .int .i64 a1_2, .int .i64 a1_3, .int .i64 a1_4]] rfl (by (try simp only [List.map_toArray, List.map_cons, List.map_nil]); first | done | rfl) ?_; (with_reducible refine (impl_SameSpot.calls ((rd_T27 l0 x12_1).f0) ((rd_T27 l0 x12_1).f1) ((rd_T27 l0 x12_1).f2) ((rd_T27 l0 x12_1).f3) ((rd_T27 l0 x12_1).f4) a1_0 a1_1 a1_2 a1_3 a1_4 false _ A38.out).mono ?_); rintro e w48 ⟨rfl, hb⟩; refine ⟨_, rfl, ?_⟩; have n0_ := aA.mk (Kd.R_below HO_5.out hb); have n1_ := aA.mk (aG (g := gb345) (o := .cells #[.int .i64 a1_0, .int .i64 a1_1, .int .i64 a1_2, .int .i64 a1_3, .int .i64 a1_4] 27 (0, 0)) BK345.out hb); have n2_ := aA.mk (aG (g := gb353) (o := .cells #[.int .i64 ((rd_T27 l0 x12_1).f0), .int .i64 ((rd_T27 l0 x12_1).f1), .int .i64 ((rd_T27 l0 x12_1).f2), .int .i64 ((rd_T27 l0 x12_1).f3), .int .i64 ((rd_T27 l0 x12_1).f4)] 27 (0, 0)) BK353.out hb); have n3_ := aA.mk (aT (by repeat (first | (with_reducible first | exact HB.out | apply aN | apply aE | apply aH | refine aC ?_ GE345.out | refine aC ?_ GE353.out) | exact HB.out)) hb); clear HO_5; clear BK345; clear BK353; clear HB; have HO_5 := n0_; have BK345 := n1_; have BK353 := n2_; have HB := n3_; clear n0_ n1_ n2_ n3_; (try clear hb); (try clear hk); have hcz49_0 : w48.cell? ⟨gb353, 0, none⟩ = some (.int .i64 ((rd_T27 l0 x12_1).f0)) := (aD BK353.out 0).trans rfl; have hcz49_1 : w48.cell? ⟨gb353, 1, none⟩ = some (.int .i64 ((rd_T27 l0 x12_1).f1)) := (aD BK353.out 1).trans rfl; have hcz49_2 : w48.cell? ⟨gb353, 2, none⟩ = some (.int .i64 ((rd_T27 l0 x12_1).f2)) := (aD BK353.out 2).trans rfl; have hcz49_3 : w48.cell? ⟨gb353, 3, none⟩ = some (.int .i64 ((rd_T27 l0 x12_1).f3)) := (aD BK353.out 3).trans rfl; have hcz49_4 : w48.cell? ⟨gb353, 4, none⟩ = some (.int .i64 ((rd_T27 l0 x12_1).f4)) := (aD BK353.out 4).trans rfl; have hfz49_0 := aX BK353.out 0; have hfz49_1 := aX BK353.out 1; have hfz49_2 := aX BK353.out 2; have hfz49_3 := aX BK353.out 3; have hfz49_4 := aX BK353.out 4) | ((with_reducible refine gate_builtin (b := .append) (xs := #[.tmp 32, .tmp 34]) rfl ?_); at_builtin; refine Kd.R_append k27 (w0 := w) w.heap.size rfl (.tmp 32) (.tmp 34) 40 27 (.agg #[(.int .i64 0), (.int .i64 0), (.int .i64 0), (.int .i64 0), (.int .i64 0)]) 40 rfl Try.underlying40 info27 rfl (by decide) (by omega) u5 x5_1 (⟨((rd_T27 l0 x12_1).f0), ((rd_T27 l0 x12_1).f1), ((rd_T27 l0 x12_1).f2), ((rd_T27 l0 x12_1).f3), ((rd_T27 l0 x12_1).f4)⟩ : S27) [.int .i64 ((rd_T27 l0 x12_1).f0), .int .i64 ((rd_T27 l0 x12_1).f1), .int .i64 ((rd_T27 l0 x12_1).f2), .int .i64 ((rd_T27 l0 x12_1).f3), .int .i64 ((rd_T27 l0 x12_1).f4)] (fun k_ => k_ ≠ gb345 ∧ k_ ≠ gb353) (fun _ => False) rfl rfl ?aP (fun _ hk => hk.elim) ?aF ?aO ?aB ?aS ?aL ?_; (case aP => exact k27_mkM _ _ _ (⟨((rd_T27 l0 x12_1).f0), ((rd_T27 l0 x12_1).f1), ((rd_T27 l0 x12_1).f2), ((rd_T27 l0 x12_1).f3), ((rd_T27 l0 x12_1).f4)⟩ : S27)); (case aB => exact (by repeat (first | (with_reducible first | exact HB.out | apply aN | apply aE | apply aH | refine aC ?_ GE345.out | refine aC ?_ GE353.out) | exact HB.out))); (case aF => exact (fun k_ hk => ⟨Kd.freshB (g := gb345) (o := .cells #[.int .i64 a1_0, .int .i64 a1_1, .int .i64 a1_2, .int .i64 a1_3, .int .i64 a1_4] 27 (0, 0)) BK345.out k_ hk, Kd.freshB (g := gb353) (o := .cells #[.int .i64 ((rd_T27 l0 x12_1).f0), .int .i64 ((rd_T27 l0 x12_1).f1), .int .i64 ((rd_T27 l0 x12_1).f2), .int .i64 ((rd_T27 l0 x12_1).f3), .int .i64 ((rd_T27 l0 x12_1).f4)] 27 (0, 0)) BK353.out k_ hk⟩)); (case aO => exact HO_5.out); (case aS => exact (aQ (by repeat (first | (with_reducible first | exact HB.out | apply aN | apply aE | apply aH | refine aC ?_ GE345.out | refine aC ?_ GE353.out) | exact HB.out)))); (case aL => have := LMc44.out; omega); intro v364 w50 ho hb hg hat; rw [← Ny363.out] at ho; have n0_ := aA.mk (blk_grown (g := gb345) (o := .cells #[.int .i64 a1_0, .int .i64 a1_1, .int .i64 a1_2, .int .i64 a1_3, .int .i64 a1_4] 27 (0, 0)) BK345.out hg (Kd.R_away HO_5.out (fun _ hk => hk.1))); have n1_ := aA.mk (blk_grown (g := gb353) (o := .cells #[.int .i64 ((rd_T27 l0 x12_1).f0), .int .i64 ((rd_T27 l0 x12_1).f1), .int .i64 ((rd_T27 l0 x12_1).f2), .int .i64 ((rd_T27 l0 x12_1).f3), .int .i64 ((rd_T27 l0 x12_1).f4)] 27 (0, 0)) BK353.out hg (Kd.R_away HO_5.out (fun _ hk => hk.2))); have n2_ := aA.mk (hb); have n3_ := aA.mk (ho); clear BK345; clear BK353; clear HB; clear HO_5; have BK345 := n0_; have BK353 := n1_; have HB := n2_; have HO365 := n3_; clear n0_ n1_ n2_ n3_; clear ho hb hg hat))
           go_roundg kj8
           case measure => have := HK1.out; have := HJ8.out; omega
           case rel => exact ⟨(y363), (x6_1), (wrap64 (x12_1 + 1)), (by first | rfl | (simp; done) | (simp [*]; done)), (by first | rfl | (simp; done) | (simp [*]; done)), H', ⟨by have := HK1.out; have := HJ8.out; omega⟩, ⟨by (with_reducible repeat (first | apply Kd.bQ | apply Kd.bR | apply Kd.bU)); exact Kd.bK HO365.out (fun _ hk => hk.1)⟩, ⟨by (with_reducible repeat (first | refine aM ?_ _ | refine aJ ?_ | refine aK ?_ _)); exact BK345.out⟩, ⟨by repeat (first | (with_reducible first | exact HB.out | apply aN | apply aE | apply aH | refine aC ?_ GE345.out | refine aC ?_ GE353.out) | exact HB.out)⟩⟩
          ·rw [if_neg c44] at H
           exact absurd H (by simp)
     ·rw [if_neg c8] at H
      exact absurd H (by simp)
    ·rw [if_neg c7] at H
     exact absurd H (by simp)
   ·rw [if_neg c6] at H
    have c6b0 : decide (x12_1 < (l0.length : Int)) = false := decide_eq_false c6
    clear c6
    by_cases c51 : x6_1 = true
    ·subst c51
     have H1 : (some x5_1) = some r := by rw [if_pos rfl] at H; exact H
     clear H
     have H := H1
     clear H1
     obtain rfl := Option.some.inj H
     go_wp2
     go_ret
     exact ⟨_, by first | rfl | (simp [errW_none, errW_some] <;> rfl) | (simp [*, errW_none, errW_some] <;> rfl), by (with_reducible repeat (first | apply Kd.bQ | apply Kd.bR | apply Kd.bU)); exact Kd.bK HO_5.out (fun _ hk => trivial), by repeat (first | (with_reducible first | exact HB.out | apply aN | apply aE | apply aH | refine aC ?_ GE345.out) | exact HB.out)⟩
    ·replace c51 := Bool.eq_false_iff.mpr c51
     subst c51
     have H1 : (if x5_1.length < 3518437208883 then (some (x5_1 ++ [(⟨a1_0, a1_1, a1_2, a1_3, a1_4⟩ : S27)])) else (none)) = some r := by rw [if_neg (show ¬ (false = true) by decide)] at H; exact H
     clear H
     have H := H1
     clear H1
     by_cases c52 : x5_1.length < 3518437208883
     ·rw [if_pos c52] at H
      have LMc52 := aA.mk c52
      clear c52
      obtain ⟨y349, hy349⟩ : ∃ y_ : List (S27), y_ = (x5_1 ++ [(⟨a1_0, a1_1, a1_2, a1_3, a1_4⟩ : S27)]) := ⟨_, rfl⟩
      replace H : (some y349) = some r := by first | (rw [hy349]; with_reducible exact H) | (have H2_ := (Option.bind_some _ _).symm.trans H; rw [hy349]; with_reducible exact H2_) | (have H2_ := (Option.bind_some _ _).symm.trans H; with_reducible exact H2_) | with_reducible exact H | (rw [hy349]; exact H) | exact H
      have Ny349 := aA.mk hy349
      clear hy349
      obtain rfl := Option.some.inj H
      have hcz53_0 : wr.cell? ⟨gb345, 0, none⟩ = some (.int .i64 a1_0) := (aD BK345.out 0).trans rfl
      have hcz53_1 : wr.cell? ⟨gb345, 1, none⟩ = some (.int .i64 a1_1) := (aD BK345.out 1).trans rfl
      have hcz53_2 : wr.cell? ⟨gb345, 2, none⟩ = some (.int .i64 a1_2) := (aD BK345.out 2).trans rfl
      have hcz53_3 : wr.cell? ⟨gb345, 3, none⟩ = some (.int .i64 a1_3) := (aD BK345.out 3).trans rfl
      have hcz53_4 : wr.cell? ⟨gb345, 4, none⟩ = some (.int .i64 a1_4) := (aD BK345.out 4).trans rfl
      have hfz53_0 := aX BK345.out 0
      have hfz53_1 := aX BK345.out 1
      have hfz53_2 := aX BK345.out 2
      have hfz53_3 := aX BK345.out 3
      have hfz53_4 := aX BK345.out 4
      go_wp2_with (first | ((with_reducible refine gate_builtin (b := .append) (xs := #[.tmp 39, .tmp 41]) rfl ?_); at_builtin; refine Kd.R_append k27 (w0 := w) w.heap.size rfl (.tmp 39) (.tmp 41) 40 27 (.agg #[(.int .i64 0), (.int .i64 0), (.int .i64 0), (.int .i64 0), (.int .i64 0)]) 40 rfl Try.underlying40 info27 rfl (by decide) (by omega) u5 x5_1 (⟨a1_0, a1_1, a1_2, a1_3, a1_4⟩ : S27) [.int .i64 a1_0, .int .i64 a1_1, .int .i64 a1_2, .int .i64 a1_3, .int .i64 a1_4] (fun k_ => k_ ≠ gb345) (fun _ => False) rfl rfl ?aP (fun _ hk => hk.elim) ?aF ?aO ?aB ?aS ?aL ?_; (case aP => exact k27_mkM _ _ _ (⟨a1_0, a1_1, a1_2, a1_3, a1_4⟩ : S27)); (case aB => exact (by repeat (first | (with_reducible first | exact HB.out | apply aN | apply aE | apply aH | refine aC ?_ GE345.out) | exact HB.out))); (case aF => exact (fun k_ hk => Kd.freshB (g := gb345) (o := .cells #[.int .i64 a1_0, .int .i64 a1_1, .int .i64 a1_2, .int .i64 a1_3, .int .i64 a1_4] 27 (0, 0)) BK345.out k_ hk)); (case aO => exact HO_5.out); (case aS => exact (aQ (by repeat (first | (with_reducible first | exact HB.out | apply aN | apply aE | apply aH | refine aC ?_ GE345.out) | exact HB.out)))); (case aL => have := LMc52.out; omega); intro v350 w54 ho hb hg hat; rw [← Ny349.out] at ho; have n0_ := aA.mk (blk_grown (g := gb345) (o := .cells #[.int .i64 a1_0, .int .i64 a1_1, .int .i64 a1_2, .int .i64 a1_3, .int .i64 a1_4] 27 (0, 0)) BK345.out hg (Kd.R_away HO_5.out (fun _ hk => hk))); have n1_ := aA.mk (hb); have n2_ := aA.mk (ho); clear BK345; clear HB; clear HO_5; have BK345 := n0_; have HB := n1_; have HO351 := n2_; clear n0_ n1_ n2_; clear ho hb hg hat))
      go_ret
      exact ⟨_, by first | rfl | (simp [errW_none, errW_some] <;> rfl) | (simp [*, errW_none, errW_some] <;> rfl), by (with_reducible repeat (first | apply Kd.bQ | apply Kd.bR | apply Kd.bU)); exact Kd.bK HO351.out (fun _ hk => trivial), by repeat (first | (with_reducible first | exact HB.out | apply aN | apply aE | apply aH | refine aC ?_ GE345.out) | exact HB.out)⟩
     ·rw [if_neg c52] at H
      exact absurd H (by simp)
def impl_MergeSets.l0 : Nat → List (S27) → List (S27) → Int → Int → Option ((List (S27)))
 | 0, _, _, _, _ => none
 | k + 1, x5, x10, x11, x12 => if x12 < x11 then (if 0 ≤ x12 then (if x12 < (x10.length : Int) then ((impl_SetPut.f k x5 ((rd_T27 x10 x12).f0) ((rd_T27 x10 x12).f1) ((rd_T27 x10 x12).f2) ((rd_T27 x10 x12).f3) ((rd_T27 x10 x12).f4)).bind fun t371 => (impl_MergeSets.l0 k t371 x10 x11 (wrap64 (x12 + 1)))) else (none)) else (none)) else (some x5)
def impl_MergeSets.f (k : Nat) (l0 : List (S27)) (l1 : List (S27)) : Option ((List (S27))) := (impl_copyKeys.f l0).bind fun t366 => (impl_MergeSets.l0 k t366 l1 (l1.length : Int) 0)
set_option maxHeartbeats 8000000 in
set_option maxRecDepth 100000 in
theorem impl_MergeSets.calls (k : Nat) (A0 : Option Addr) (c0 : Nat) (l0 : List (S27)) (A1 : Option Addr) (c1 : Nat) (l1 : List (S27)) (r : List (S27)) (w : World) (hr0 : Kd.C k27 w A0 l0.length l0) (hc0 : l0.length ≤ c0) (hr1 : Kd.C k27 w A1 l1.length l1) (hc1 : l1.length ≤ c1) (h : impl_MergeSets.f k l0 l1 = some r) :
  Calls Try.prog 66 #[.slice A0 l0.length c0, .slice A1 l1.length c1] w fun e w' => ∃ v0_ : Value, e = .returned (v0_) ∧ Kd.R k27 27 w' w.heap.size (fun _ => True) v0_ r ∧ Below w.heap.size w w' := by
 have hu27 := Try.underlying27
 have HR0 := aA.mk hr0
 have HC0 := aA.mk hc0
 clear hr0 hc0
 have HR1 := aA.mk hr1
 have HC1 := aA.mk hc1
 clear hr1 hc1
 have HB := aA.mk (Below.refl w.heap.size w)
 have H : ((impl_copyKeys.f l0).bind fun t366 => (impl_MergeSets.l0 k t366 l1 (l1.length : Int) 0)) = some r := h
 clear h
 replace H := lF H
 obtain ⟨t366, A30, H⟩ := H
 replace H : (impl_MergeSets.l0 k t366 l1 (l1.length : Int) 0) = some r := H
 have A3 := aA.mk A30
 clear A30
 have H' := aA.mk H
 clear H
 go_enter Try.func66, Try.ntmps66
 go_wp2_with (first | ((with_reducible refine bD (f := 58) rfl ?_); refine bL (some 9) rfl rfl Try.func58 (by kernel_rfl) rfl #[.slice A0 l0.length c0] rfl (by (try simp only [List.map_toArray, List.map_cons, List.map_nil]); first | done | rfl) ?_; (with_reducible refine (impl_copyKeys.calls _ _ l0 t366 _ ?side1 ?side2 A3.out).mono ?_); (case side1 => repeat (first | exact HR0.out | (with_reducible refine Kd.C_alloc ?_ _) | (with_reducible refine Kd.C_drewN ?_ _) | (with_reducible refine Kd.C_drew ?_))); (case side2 => exact HC0.out); rintro e w4 ⟨v367, rfl, ho0, hb⟩; refine ⟨_, rfl, ?_⟩; have n0_ := aA.mk (Kd.R_lower ho0 (aQ (by repeat (first | (with_reducible first | exact HB.out | apply aN | apply aE | apply aH) | exact HB.out)))); have n1_ := aA.mk (aT (by repeat (first | (with_reducible first | exact HB.out | apply aN | apply aE | apply aH) | exact HB.out)) hb); clear HB; have HO368 := n0_; have HB := n1_; clear n0_ n1_; (try clear hb); (try clear ho0)))
 go_loopg [5, 12] k (fun kq v5 v12 w' => ∃ (x5_1 : List (S27)) (x12_1 : Int), v12 = .int .i64 x12_1 ∧ aA (impl_MergeSets.l0 kq x5_1 l1 (l1.length : Int) x12_1 = some r) ∧ aA (kq ≤ k) ∧ aA (Kd.R k27 27 w' w.heap.size (fun _ => True) v5 x5_1) ∧ aA (Below w.heap.size w w'))
 case atStart => exact ⟨(t366), (0), (by first | rfl | (simp; done) | (simp [*]; done)), H', ⟨Nat.le_refl _⟩, ⟨by (with_reducible repeat (first | apply Kd.bQ | apply Kd.bR | apply Kd.bU)); exact HO368.out⟩, ⟨by repeat (first | (with_reducible first | exact HB.out | apply aN | apply aE | apply aH) | exact HB.out)⟩⟩
 case round =>
  clear H'
  try clear c1
  try clear p2
  obtain ⟨x5_1, x12_1, rfl, HA, HK1, HO_5, HB⟩ := hrel
  cases gk with
  | zero => exact absurd HA.out (by simp [impl_MergeSets.l0])
  | succ k1 =>
   have H := HA.out
   clear HA
   simp only [impl_MergeSets.l0] at H
   by_cases c5 : x12_1 < (l1.length : Int)
   ·rw [if_pos c5] at H
    have c5b0 : decide (x12_1 < (l1.length : Int)) = true := decide_eq_true c5
    clear c5
    by_cases c6 : 0 ≤ x12_1
    ·rw [if_pos c6] at H
     have c6b0 : decide (0 ≤ x12_1) = true := decide_eq_true c6
     clear c6
     by_cases c7 : x12_1 < (l1.length : Int)
     ·rw [if_pos c7] at H
      have c7b0 : decide (x12_1 < (l1.length : Int)) = true := decide_eq_true c7
      clear c7
      replace H := lF H
      obtain ⟨t371, A80, H⟩ := H
      replace H : (impl_MergeSets.l0 k1 t371 l1 (l1.length : Int) (wrap64 (x12_1 + 1))) = some r := H
      have A8 := aA.mk A80
      clear A80
      have H' := aA.mk H
      clear H
      have p369 : 0 ≤ (x12_1 : Int) := lE (by assumption)
      have q369 : x12_1 < (l1.length : Int) := lE (by assumption)
      obtain ⟨ad369, e369, hx369_0, hx369_1, hx369_2, hx369_3, hx369_4⟩ := at_T27 HR1.out x12_1 p369 q369
      cases e369
      replace hx369_0 := (HB.out.cell (lD w _ hx369_0)).trans hx369_0
      replace hx369_1 := (HB.out.cell (lD w _ hx369_1)).trans hx369_1
      replace hx369_2 := (HB.out.cell (lD w _ hx369_2)).trans hx369_2
      replace hx369_3 := (HB.out.cell (lD w _ hx369_3)).trans hx369_3
      replace hx369_4 := (HB.out.cell (lD w _ hx369_4)).trans hx369_4
      replace p369 := eq_true p369
      replace q369 := eq_true q369
      go_wp2_with (first | ((with_reducible refine bA (N := 7) rfl ?_); refine bC ?hg (N := 7) ?hd (cs := #[.int .i64 0, .int .i64 0, .int .i64 0, .int .i64 0, .int .i64 0]) (t := 27) ?hr ?_; (case hd => rfl); (case hg => rfl); (case hr => first | (go_simp; done) | (go_simp; rfl)); intro gb370 hg w9 hbox hb; have n0_ := aA.mk (Kd.R_below (Kd.R_elderB HO_5.out gb370 (Nat.le_of_eq hg.symm)) hb); have n1_ := aA.mk (aT (by repeat (first | (with_reducible first | exact HB.out | apply aN | apply aE | apply aH) | exact HB.out)) hb); have n2_ := aA.mk (hbox); have n3_ := aA.mk ((by rw [hg]; exact (aQ (by repeat (first | (with_reducible first | exact HB.out | apply aN | apply aE | apply aH) | exact HB.out))) : w.heap.size ≤ gb370)); have n4_ := aA.mk ((by rw [hg]; exact (aQ (by repeat (first | (with_reducible first | exact HB.out | apply aN | apply aE | apply aH) | exact HB.out))) : w.heap.size ≤ gb370)); clear HO_5; clear HB; have HO_5 := n0_; have HB := n1_; have BK370 := n2_; have GW370 := n3_; have GE370 := n4_; clear n0_ n1_ n2_ n3_ n4_; clear hb hbox hg; have hcz10_0 : w9.cell? ⟨gb370, 0, none⟩ = some (.int .i64 0) := (aD BK370.out 0).trans rfl; have hcz10_1 : w9.cell? ⟨gb370, 1, none⟩ = some (.int .i64 0) := (aD BK370.out 1).trans rfl; have hcz10_2 : w9.cell? ⟨gb370, 2, none⟩ = some (.int .i64 0) := (aD BK370.out 2).trans rfl; have hcz10_3 : w9.cell? ⟨gb370, 3, none⟩ = some (.int .i64 0) := (aD BK370.out 3).trans rfl; have hcz10_4 : w9.cell? ⟨gb370, 4, none⟩ = some (.int .i64 0) := (aD BK370.out 4).trans rfl; have hfz10_0 := aX BK370.out 0; have hfz10_1 := aX BK370.out 1; have hfz10_2 := aX BK370.out 2; have hfz10_3 := aX BK370.out 3; have hfz10_4 := aX BK370.out 4; obtain ⟨Ao11, co11, eo11⟩ := Kd.R_slice HO_5.out; subst eo11) | ((with_reducible refine bD (f := 71) rfl ?_); refine bL (some 18) rfl rfl Try.func71 (by kernel_rfl) rfl #[.slice Ao11 x5_1.length co11, .agg #[.int .i64 ((rd_T27 l1 x12_1).f0), .int .i64 ((rd_T27 l1 x12_1).f1), .int .i64 ((rd_T27 l1 x12_1).f2), .int .i64 ((rd_T27 l1 x12_1).f3), .int .i64 ((rd_T27 l1 x12_1).f4)]] rfl (by (try simp only [List.map_toArray, List.map_cons, List.map_nil]); first | done | rfl) ?_; (with_reducible refine (impl_SetPut.calls k1 _ _ x5_1 ((rd_T27 l1 x12_1).f0) ((rd_T27 l1 x12_1).f1) ((rd_T27 l1 x12_1).f2) ((rd_T27 l1 x12_1).f3) ((rd_T27 l1 x12_1).f4) t371 _ ?side1 ?side2 A8.out).mono ?_); (case side1 => refine (Kd.R_reads' (e := 27) (base := w.heap.size) (ok := fun k_ => (True ∧ k_ ≠ gb370)) (n := x5_1.length) (c := co11) ?_).2.2; exact (by (with_reducible repeat (first | apply Kd.bQ | apply Kd.bR | apply Kd.bU)); exact (Kd.bK (Kd.R_far (p := ⟨gb370, 4, none⟩) (Kd.R_far (p := ⟨gb370, 3, none⟩) (Kd.R_far (p := ⟨gb370, 2, none⟩) (Kd.R_far (p := ⟨gb370, 1, none⟩) (Kd.R_far (p := ⟨gb370, 0, none⟩) (Kd.bK HO_5.out (fun k_ hk => (⟨hk, hk.2⟩ : _ ∧ k_ ≠ gb370))) (fun _ hk => hk.2) (.int .i64 ((rd_T27 l1 x12_1).f0))) (fun _ hk => hk.2) (.int .i64 ((rd_T27 l1 x12_1).f1))) (fun _ hk => hk.2) (.int .i64 ((rd_T27 l1 x12_1).f2))) (fun _ hk => hk.2) (.int .i64 ((rd_T27 l1 x12_1).f3))) (fun _ hk => hk.2) (.int .i64 ((rd_T27 l1 x12_1).f4))) (fun _ h_ => h_.1)))); (case side2 => exact (Kd.R_reads' HO_5.out).2.1); rintro e w12 ⟨v372, rfl, ho0, hb⟩; refine ⟨_, rfl, ?_⟩; have n0_ := aA.mk (Kd.R_elder' (by (with_reducible repeat (first | apply Kd.bQ | apply Kd.bR | apply Kd.bU)); exact (Kd.bK (Kd.R_far (p := ⟨gb370, 4, none⟩) (Kd.R_far (p := ⟨gb370, 3, none⟩) (Kd.R_far (p := ⟨gb370, 2, none⟩) (Kd.R_far (p := ⟨gb370, 1, none⟩) (Kd.R_far (p := ⟨gb370, 0, none⟩) (Kd.bK HO_5.out (fun k_ hk => (⟨hk, hk.2⟩ : _ ∧ k_ ≠ gb370))) (fun _ hk => hk.2) (.int .i64 ((rd_T27 l1 x12_1).f0))) (fun _ hk => hk.2) (.int .i64 ((rd_T27 l1 x12_1).f1))) (fun _ hk => hk.2) (.int .i64 ((rd_T27 l1 x12_1).f2))) (fun _ hk => hk.2) (.int .i64 ((rd_T27 l1 x12_1).f3))) (fun _ hk => hk.2) (.int .i64 ((rd_T27 l1 x12_1).f4))) (fun _ h_ => h_.1))) (Kd.R_base ho0) hb); have n1_ := aA.mk (Kd.R_lower (Kd.R_newB (Kd.R_new' ho0 (Kd.R_lt (by (with_reducible repeat (first | apply Kd.bQ | apply Kd.bR | apply Kd.bU)); exact (Kd.bK (Kd.R_far (p := ⟨gb370, 4, none⟩) (Kd.R_far (p := ⟨gb370, 3, none⟩) (Kd.R_far (p := ⟨gb370, 2, none⟩) (Kd.R_far (p := ⟨gb370, 1, none⟩) (Kd.R_far (p := ⟨gb370, 0, none⟩) (Kd.bK HO_5.out (fun k_ hk => (⟨hk, hk.2⟩ : _ ∧ k_ ≠ gb370))) (fun _ hk => hk.2) (.int .i64 ((rd_T27 l1 x12_1).f0))) (fun _ hk => hk.2) (.int .i64 ((rd_T27 l1 x12_1).f1))) (fun _ hk => hk.2) (.int .i64 ((rd_T27 l1 x12_1).f2))) (fun _ hk => hk.2) (.int .i64 ((rd_T27 l1 x12_1).f3))) (fun _ hk => hk.2) (.int .i64 ((rd_T27 l1 x12_1).f4))) (fun _ h_ => h_.1))))) (g := gb370) (o := .cells #[.int .i64 ((rd_T27 l1 x12_1).f0), .int .i64 ((rd_T27 l1 x12_1).f1), .int .i64 ((rd_T27 l1 x12_1).f2), .int .i64 ((rd_T27 l1 x12_1).f3), .int .i64 ((rd_T27 l1 x12_1).f4)] 27 (0, 0)) (by (with_reducible repeat (first | refine aM ?_ _ | refine aJ ?_ | refine aK ?_ _)); refine bE (cs := #[.int .i64 ((rd_T27 l1 x12_1).f0), .int .i64 ((rd_T27 l1 x12_1).f1), .int .i64 ((rd_T27 l1 x12_1).f2), .int .i64 ((rd_T27 l1 x12_1).f3), .int .i64 0]) ?_ 4 _ rfl; (with_reducible repeat (first | refine aM ?_ _ | refine aJ ?_ | refine aK ?_ _)); refine bE (cs := #[.int .i64 ((rd_T27 l1 x12_1).f0), .int .i64 ((rd_T27 l1 x12_1).f1), .int .i64 ((rd_T27 l1 x12_1).f2), .int .i64 0, .int .i64 0]) ?_ 3 _ rfl; (with_reducible repeat (first | refine aM ?_ _ | refine aJ ?_ | refine aK ?_ _)); refine bE (cs := #[.int .i64 ((rd_T27 l1 x12_1).f0), .int .i64 ((rd_T27 l1 x12_1).f1), .int .i64 0, .int .i64 0, .int .i64 0]) ?_ 2 _ rfl; (with_reducible repeat (first | refine aM ?_ _ | refine aJ ?_ | refine aK ?_ _)); refine bE (cs := #[.int .i64 ((rd_T27 l1 x12_1).f0), .int .i64 0, .int .i64 0, .int .i64 0, .int .i64 0]) ?_ 1 _ rfl; (with_reducible repeat (first | refine aM ?_ _ | refine aJ ?_ | refine aK ?_ _)); refine bE (cs := #[.int .i64 0, .int .i64 0, .int .i64 0, .int .i64 0, .int .i64 0]) ?_ 0 _ rfl; (with_reducible repeat (first | refine aM ?_ _ | refine aJ ?_ | refine aK ?_ _)); exact BK370.out)) (aQ (by repeat (first | (with_reducible first | exact HB.out | apply aN | apply aE | apply aH | refine aC ?_ GE370.out) | exact HB.out)))); have n2_ := aA.mk (aG (g := gb370) (o := .cells #[.int .i64 ((rd_T27 l1 x12_1).f0), .int .i64 ((rd_T27 l1 x12_1).f1), .int .i64 ((rd_T27 l1 x12_1).f2), .int .i64 ((rd_T27 l1 x12_1).f3), .int .i64 ((rd_T27 l1 x12_1).f4)] 27 (0, 0)) (by (with_reducible repeat (first | refine aM ?_ _ | refine aJ ?_ | refine aK ?_ _)); refine bE (cs := #[.int .i64 ((rd_T27 l1 x12_1).f0), .int .i64 ((rd_T27 l1 x12_1).f1), .int .i64 ((rd_T27 l1 x12_1).f2), .int .i64 ((rd_T27 l1 x12_1).f3), .int .i64 0]) ?_ 4 _ rfl; (with_reducible repeat (first | refine aM ?_ _ | refine aJ ?_ | refine aK ?_ _)); refine bE (cs := #[.int .i64 ((rd_T27 l1 x12_1).f0), .int .i64 ((rd_T27 l1 x12_1).f1), .int .i64 ((rd_T27 l1 x12_1).f2), .int .i64 0, .int .i64 0]) ?_ 3 _ rfl; (with_reducible repeat (first | refine aM ?_ _ | refine aJ ?_ | refine aK ?_ _)); refine bE (cs := #[.int .i64 ((rd_T27 l1 x12_1).f0), .int .i64 ((rd_T27 l1 x12_1).f1), .int .i64 0, .int .i64 0, .int .i64 0]) ?_ 2 _ rfl; (with_reducible repeat (first | refine aM ?_ _ | refine aJ ?_ | refine aK ?_ _)); refine bE (cs := #[.int .i64 ((rd_T27 l1 x12_1).f0), .int .i64 0, .int .i64 0, .int .i64 0, .int .i64 0]) ?_ 1 _ rfl; (with_reducible repeat (first | refine aM ?_ _ | refine aJ ?_ | refine aK ?_ _)); refine bE (cs := #[.int .i64 0, .int .i64 0, .int .i64 0, .int .i64 0, .int .i64 0]) ?_ 0 _ rfl; (with_reducible repeat (first | refine aM ?_ _ | refine aJ ?_ | refine aK ?_ _)); exact BK370.out) hb); have n3_ := aA.mk (aT (by repeat (first | (with_reducible first | exact HB.out | apply aN | apply aE | apply aH | refine aC ?_ GE370.out) | exact HB.out)) hb); clear HO_5; clear BK370; clear HB; have HO_5 := n0_; have HO373 := n1_; have BK370 := n2_; have HB := n3_; clear n0_ n1_ n2_ n3_; (try clear hb); (try clear hk); (try clear ho0)))
      go_roundg k1
      case measure => have := HK1.out; omega
      case rel => exact ⟨(t371), (wrap64 (x12_1 + 1)), (by first | rfl | (simp; done) | (simp [*]; done)), H', ⟨by have := HK1.out; omega⟩, ⟨by (with_reducible repeat (first | apply Kd.bQ | apply Kd.bR | apply Kd.bU)); exact Kd.bK HO373.out (fun _ hk => trivial)⟩, ⟨by repeat (first | (with_reducible first | exact HB.out | apply aN | apply aE | apply aH | refine aC ?_ GE370.out) | exact HB.out)⟩⟩
     ·rw [if_neg c7] at H
      exact absurd H (by simp)
    ·rw [if_neg c6] at H
     exact absurd H (by simp)
   ·rw [if_neg c5] at H
    have c5b0 : decide (x12_1 < (l1.length : Int)) = false := decide_eq_false c5
    clear c5
    obtain rfl := Option.some.inj H
    go_wp2
    go_ret
    exact ⟨_, by first | rfl | (simp [errW_none, errW_some] <;> rfl) | (simp [*, errW_none, errW_some] <;> rfl), by (with_reducible repeat (first | apply Kd.bQ | apply Kd.bR | apply Kd.bU)); exact HO_5.out, by repeat (first | (with_reducible first | exact HB.out | apply aN | apply aE | apply aH) | exact HB.out)⟩
def impl_Drop.l0 : Nat → List (S27) → List (S27) → Int → Int → Option ((List (S27)))
 | 0, _, _, _, _ => none
 | k + 1, x3, x7, x8, x9 => if x9 < x8 then (if 0 ≤ x9 then (if x9 < (x7.length : Int) then (if ((rd_T27 x7 x9).f2) = 0 then (impl_Drop.l0 k x3 x7 x8 (wrap64 (x9 + 1))) else (if x3.length < 3518437208883 then (impl_Drop.l0 k (x3 ++ [(⟨(rd_T27 x7 x9).f0, (rd_T27 x7 x9).f1, (rd_T27 x7 x9).f2, (rd_T27 x7 x9).f3, (rd_T27 x7 x9).f4⟩ : S27)]) x7 x8 (wrap64 (x9 + 1))) else (none))) else (none)) else (none)) else (some x3)
def impl_Drop.f (k : Nat) (l0 : List (S27)) : Option ((List (S27))) := impl_Drop.l0 k (([] : List (S27))) l0 (l0.length : Int) 0
set_option maxHeartbeats 8000000 in
set_option maxRecDepth 100000 in
theorem impl_Drop.calls (k : Nat) (A0 : Option Addr) (c0 : Nat) (l0 : List (S27)) (r : List (S27)) (w : World) (hr0 : Kd.C k27 w A0 l0.length l0) (hc0 : l0.length ≤ c0) (h : impl_Drop.f k l0 = some r) :
  Calls Try.prog 67 #[.slice A0 l0.length c0] w fun e w' => ∃ v0_ : Value, e = .returned (v0_) ∧ Kd.R k27 27 w' w.heap.size (fun _ => True) v0_ r ∧ Below w.heap.size w w' := by
 have hu27 := Try.underlying27
 have HR0 := aA.mk hr0
 have HC0 := aA.mk hc0
 clear hr0 hc0
 have HB := aA.mk (Below.refl w.heap.size w)
 have H : (impl_Drop.l0 k (([] : List (S27))) l0 (l0.length : Int) 0) = some r := h
 clear h
 obtain ⟨y374, hy374⟩ : ∃ y_ : List (S27), y_ = (([] : List (S27))) := ⟨_, rfl⟩
 replace H : (impl_Drop.l0 k y374 l0 (l0.length : Int) 0) = some r := by first | (rw [hy374]; with_reducible exact H) | (have H2_ := (Option.bind_some _ _).symm.trans H; rw [hy374]; with_reducible exact H2_) | (have H2_ := (Option.bind_some _ _).symm.trans H; with_reducible exact H2_) | with_reducible exact H | (rw [hy374]; exact H) | exact H
 have Ny374 := aA.mk hy374
 clear hy374
 have H' := aA.mk H
 clear H
 go_enter Try.func67, Try.ntmps67
 go_wp2_with (first | ((with_reducible refine bA (N := 6) rfl ?_); refine Kd.R_lit k27 _ 27 ?hg (N := 6) ?hd (xs := ([] : List (S27))) (inner := []) (ok := fun _ => True) (okp := fun _ => True) ?hr ?hp (fun _ hk => hk) trivial (Below.refl _ _) (Nat.le_refl _) (by simp) ?_; (case hd => rfl); (case hg => rfl); (case hr => first | (go_simp; done) | (go_simp; rfl)); (case hp => exact (Reps.none _ _)); intro v375 w2 ho3 hb hg_ hnew_; clear hg_ hnew_; (first | rw [← Ny374.out] at ho3 | (simp only [Int.reduceToNat] at ho3; rw [← Ny374.out] at ho3)); have HO376 := aA.mk (Kd.R_lower ho3 (aQ (by repeat (first | (with_reducible first | exact HB.out | apply aN | apply aE | apply aH) | exact HB.out)))); replace HB := aA.mk (aT (by repeat (first | (with_reducible first | exact HB.out | apply aN | apply aE | apply aH) | exact HB.out)) hb); clear hb ho3))
 go_loopg [3, 9] k (fun kq v3 v9 w' => ∃ (x3_1 : List (S27)) (x9_1 : Int), v9 = .int .i64 x9_1 ∧ aA (impl_Drop.l0 kq x3_1 l0 (l0.length : Int) x9_1 = some r) ∧ aA (kq ≤ k) ∧ aA (Kd.R k27 27 w' w.heap.size (fun _ => True) v3 x3_1) ∧ aA (Below w.heap.size w w'))
 case atStart => exact ⟨(y374), (0), (by first | rfl | (simp; done) | (simp [*]; done)), H', ⟨Nat.le_refl _⟩, ⟨by (with_reducible repeat (first | apply Kd.bQ | apply Kd.bR | apply Kd.bU)); exact HO376.out⟩, ⟨by repeat (first | (with_reducible first | exact HB.out | apply aN | apply aE | apply aH) | exact HB.out)⟩⟩
 case round =>
  clear H'
  try clear p2
  obtain ⟨x3_1, x9_1, rfl, HA, HK1, HO_3, HB⟩ := hrel
  cases gk with
  | zero => exact absurd HA.out (by simp [impl_Drop.l0])
  | succ k1 =>
   have H := HA.out
   clear HA
   simp only [impl_Drop.l0] at H
   by_cases c4 : x9_1 < (l0.length : Int)
   ·rw [if_pos c4] at H
    have c4b0 : decide (x9_1 < (l0.length : Int)) = true := decide_eq_true c4
    clear c4
    by_cases c5 : 0 ≤ x9_1
    ·rw [if_pos c5] at H
     have c5b0 : decide (0 ≤ x9_1) = true := decide_eq_true c5
     clear c5
     by_cases c6 : x9_1 < (l0.length : Int)
     ·rw [if_pos c6] at H
      have c6b0 : decide (x9_1 < (l0.length : Int)) = true := decide_eq_true c6
      clear c6
      by_cases c7 : ((rd_T27 l0 x9_1).f2) = 0
      ·rw [if_pos c7] at H
       have c7b0 : (((rd_T27 l0 x9_1).f2) == 0) = true := beq_iff_eq.mpr c7
       have c7b1 : (((rd_T27 l0 x9_1).f2) != 0) = false := bne_eq_false_iff_eq.mpr c7
       clear c7
       have H' := aA.mk H
       clear H
       have p377 : 0 ≤ (x9_1 : Int) := lE (by assumption)
       have q377 : x9_1 < (l0.length : Int) := lE (by assumption)
       obtain ⟨ad377, e377, hx377_0, hx377_1, hx377_2, hx377_3, hx377_4⟩ := at_T27 HR0.out x9_1 p377 q377
       cases e377
       replace hx377_0 := (HB.out.cell (lD w _ hx377_0)).trans hx377_0
       replace hx377_1 := (HB.out.cell (lD w _ hx377_1)).trans hx377_1
       replace hx377_2 := (HB.out.cell (lD w _ hx377_2)).trans hx377_2
       replace hx377_3 := (HB.out.cell (lD w _ hx377_3)).trans hx377_3
       replace hx377_4 := (HB.out.cell (lD w _ hx377_4)).trans hx377_4
       replace p377 := eq_true p377
       replace q377 := eq_true q377
       go_wp2_with (first | ((with_reducible refine bA (N := 5) rfl ?_); refine bC ?hg (N := 5) ?hd (cs := #[.int .i64 0, .int .i64 0, .int .i64 0, .int .i64 0, .int .i64 0]) (t := 27) ?hr ?_; (case hd => rfl); (case hg => rfl); (case hr => first | (go_simp; done) | (go_simp; rfl)); intro gb378 hg w8 hbox hb; replace HO_3 := aA.mk (Kd.R_below (Kd.R_elderB HO_3.out gb378 (Nat.le_of_eq hg.symm)) hb); have BK378 := aA.mk (hbox); have GW378 := aA.mk ((by rw [hg]; exact (aQ (by repeat (first | (with_reducible first | exact HB.out | apply aN | apply aE | apply aH) | exact HB.out))) : w.heap.size ≤ gb378)); have GE378 := aA.mk ((by rw [hg]; exact (aQ (by repeat (first | (with_reducible first | exact HB.out | apply aN | apply aE | apply aH) | exact HB.out))) : w.heap.size ≤ gb378)); replace HB := aA.mk (aT (by repeat (first | (with_reducible first | exact HB.out | apply aN | apply aE | apply aH) | exact HB.out)) hb); clear hb hbox hg; obtain ⟨hcz9_0, hcz9_1, hcz9_2, hcz9_3, hcz9_4⟩ := cs5 BK378.out; obtain ⟨hfz9_0, hfz9_1, hfz9_2, hfz9_3, hfz9_4⟩ := fs5 BK378.out))
       go_roundg k1
       case measure => have := HK1.out; omega
       case rel => exact ⟨(x3_1), (wrap64 (x9_1 + 1)), (by first | rfl | (simp; done) | (simp [*]; done)), H', ⟨by have := HK1.out; omega⟩, ⟨by (with_reducible repeat (first | apply Kd.bQ | apply Kd.bR | apply Kd.bU)); exact Kd.bK (Kd.R_far (p := ⟨gb378, 4, none⟩) (Kd.R_far (p := ⟨gb378, 3, none⟩) (Kd.R_far (p := ⟨gb378, 2, none⟩) (Kd.R_far (p := ⟨gb378, 1, none⟩) (Kd.R_far (p := ⟨gb378, 0, none⟩) (Kd.bK HO_3.out (fun k_ hk => (⟨hk, hk.2⟩ : _ ∧ k_ ≠ gb378))) (fun _ hk => hk.2) (.int .i64 ((rd_T27 l0 x9_1).f0))) (fun _ hk => hk.2) (.int .i64 ((rd_T27 l0 x9_1).f1))) (fun _ hk => hk.2) (.int .i64 ((rd_T27 l0 x9_1).f2))) (fun _ hk => hk.2) (.int .i64 ((rd_T27 l0 x9_1).f3))) (fun _ hk => hk.2) (.int .i64 ((rd_T27 l0 x9_1).f4))) (fun _ hk => trivial)⟩, ⟨by repeat (first | (with_reducible first | exact HB.out | apply aN | apply aE | apply aH | refine aC ?_ GE378.out) | exact HB.out)⟩⟩
      ·rw [if_neg c7] at H
       have c7b0 : (((rd_T27 l0 x9_1).f2) == 0) = false := beq_eq_false_iff_ne.mpr c7
       have c7b1 : (((rd_T27 l0 x9_1).f2) != 0) = true := bne_iff_ne.mpr c7
       by_cases c10 : x3_1.length < 3518437208883
       ·rw [if_pos c10] at H
        have LMc10 := aA.mk c10
        clear c10
        obtain ⟨y379, hy379⟩ : ∃ y_ : List (S27), y_ = (x3_1 ++ [(⟨(rd_T27 l0 x9_1).f0, (rd_T27 l0 x9_1).f1, (rd_T27 l0 x9_1).f2, (rd_T27 l0 x9_1).f3, (rd_T27 l0 x9_1).f4⟩ : S27)]) := ⟨_, rfl⟩
        replace H : (impl_Drop.l0 k1 y379 l0 (l0.length : Int) (wrap64 (x9_1 + 1))) = some r := by first | (rw [hy379]; with_reducible exact H) | (have H2_ := (Option.bind_some _ _).symm.trans H; rw [hy379]; with_reducible exact H2_) | (have H2_ := (Option.bind_some _ _).symm.trans H; with_reducible exact H2_) | with_reducible exact H | (rw [hy379]; exact H) | exact H
        have Ny379 := aA.mk hy379
        clear hy379
        have H' := aA.mk H
        clear H
        have p377 : 0 ≤ (x9_1 : Int) := lE (by assumption)
        have q377 : x9_1 < (l0.length : Int) := lE (by assumption)
        obtain ⟨ad377, e377, hx377_0, hx377_1, hx377_2, hx377_3, hx377_4⟩ := at_T27 HR0.out x9_1 p377 q377
        cases e377
        replace hx377_0 := (HB.out.cell (lD w _ hx377_0)).trans hx377_0
        replace hx377_1 := (HB.out.cell (lD w _ hx377_1)).trans hx377_1
        replace hx377_2 := (HB.out.cell (lD w _ hx377_2)).trans hx377_2
        replace hx377_3 := (HB.out.cell (lD w _ hx377_3)).trans hx377_3
        replace hx377_4 := (HB.out.cell (lD w _ hx377_4)).trans hx377_4
        replace p377 := eq_true p377
        replace q377 := eq_true q377
        go_wp2_with (first | ((with_reducible refine bA (N := 5) rfl ?_); refine bC ?hg (N := 5) ?hd (cs := #[.int .i64 0, .int .i64 0, .int .i64 0, .int .i64 0, .int .i64 0]) (t := 27) ?hr ?_; (case hd => rfl); (case hg => rfl); (case hr => first | (go_simp; done) | (go_simp; rfl)); intro gb378 hg w11 hbox hb; replace HO_3 := aA.mk (Kd.R_below (Kd.R_elderB HO_3.out gb378 (Nat.le_of_eq hg.symm)) hb); have BK378 := aA.mk (hbox); have GW378 := aA.mk ((by rw [hg]; exact (aQ (by repeat (first | (with_reducible first | exact HB.out | apply aN | apply aE | apply aH) | exact HB.out))) : w.heap.size ≤ gb378)); have GE378 := aA.mk ((by rw [hg]; exact (aQ (by repeat (first | (with_reducible first | exact HB.out | apply aN | apply aE | apply aH) | exact HB.out))) : w.heap.size ≤ gb378)); replace HB := aA.mk (aT (by repeat (first | (with_reducible first | exact HB.out | apply aN | apply aE | apply aH) | exact HB.out)) hb); clear hb hbox hg; obtain ⟨hcz12_0, hcz12_1, hcz12_2, hcz12_3, hcz12_4⟩ := cs5 BK378.out; obtain ⟨hfz12_0, hfz12_1, hfz12_2, hfz12_3, hfz12_4⟩ := fs5 BK378.out) | ((with_reducible refine gate_builtin (b := .append) (xs := #[.tmp 16, .tmp 18]) rfl ?_); at_builtin; refine Kd.R_append k27 (w0 := w) w.heap.size rfl (.tmp 16) (.tmp 18) 40 27 (.agg #[(.int .i64 0), (.int .i64 0), (.int .i64 0), (.int .i64 0), (.int .i64 0)]) 40 rfl Try.underlying40 info27 rfl (by decide) (by omega) u3 x3_1 (⟨(rd_T27 l0 x9_1).f0, (rd_T27 l0 x9_1).f1, (rd_T27 l0 x9_1).f2, (rd_T27 l0 x9_1).f3, (rd_T27 l0 x9_1).f4⟩ : S27) [.int .i64 ((rd_T27 l0 x9_1).f0), .int .i64 ((rd_T27 l0 x9_1).f1), .int .i64 ((rd_T27 l0 x9_1).f2), .int .i64 ((rd_T27 l0 x9_1).f3), .int .i64 ((rd_T27 l0 x9_1).f4)] (fun k_ => k_ ≠ gb378) (fun _ => False) rfl (by first | (go_simp; done) | (go_simp; rfl)) ?aP (fun _ hk => hk.elim) ?aF ?aO ?aB ?aS ?aL ?_; (case aP => exact k27_mkM _ _ _ (⟨(rd_T27 l0 x9_1).f0, (rd_T27 l0 x9_1).f1, (rd_T27 l0 x9_1).f2, (rd_T27 l0 x9_1).f3, (rd_T27 l0 x9_1).f4⟩ : S27)); (case aB => exact (by repeat (first | (with_reducible first | exact HB.out | apply aN | apply aE | apply aH | refine aC ?_ GE378.out) | exact HB.out))); (case aF => exact (fun k_ hk => Kd.freshB (g := gb378) (o := .cells #[.int .i64 ((rd_T27 l0 x9_1).f0), .int .i64 ((rd_T27 l0 x9_1).f1), .int .i64 ((rd_T27 l0 x9_1).f2), .int .i64 ((rd_T27 l0 x9_1).f3), .int .i64 ((rd_T27 l0 x9_1).f4)] 27 (0, 0)) (by (with_reducible repeat (first | refine aM ?_ _ | refine aJ ?_ | refine aK ?_ _)); refine bE (cs := #[.int .i64 ((rd_T27 l0 x9_1).f0), .int .i64 ((rd_T27 l0 x9_1).f1), .int .i64 ((rd_T27 l0 x9_1).f2), .int .i64 ((rd_T27 l0 x9_1).f3), .int .i64 0]) ?_ 4 _ rfl; (with_reducible repeat (first | refine aM ?_ _ | refine aJ ?_ | refine aK ?_ _)); refine bE (cs := #[.int .i64 ((rd_T27 l0 x9_1).f0), .int .i64 ((rd_T27 l0 x9_1).f1), .int .i64 ((rd_T27 l0 x9_1).f2), .int .i64 0, .int .i64 0]) ?_ 3 _ rfl; (with_reducible repeat (first | refine aM ?_ _ | refine aJ ?_ | refine aK ?_ _)); refine bE (cs := #[.int .i64 ((rd_T27 l0 x9_1).f0), .int .i64 ((rd_T27 l0 x9_1).f1), .int .i64 0, .int .i64 0, .int .i64 0]) ?_ 2 _ rfl; (with_reducible repeat (first | refine aM ?_ _ | refine aJ ?_ | refine aK ?_ _)); refine bE (cs := #[.int .i64 ((rd_T27 l0 x9_1).f0), .int .i64 0, .int .i64 0, .int .i64 0, .int .i64 0]) ?_ 1 _ rfl; (with_reducible repeat (first | refine aM ?_ _ | refine aJ ?_ | refine aK ?_ _)); refine bE (cs := #[.int .i64 0, .int .i64 0, .int .i64 0, .int .i64 0, .int .i64 0]) ?_ 0 _ rfl; (with_reducible repeat (first | refine aM ?_ _ | refine aJ ?_ | refine aK ?_ _)); exact BK378.out) k_ hk)); (case aO => exact (by (with_reducible repeat (first | apply Kd.bQ | apply Kd.bR | apply Kd.bU)); exact Kd.bK (Kd.R_far (p := ⟨gb378, 4, none⟩) (Kd.R_far (p := ⟨gb378, 3, none⟩) (Kd.R_far (p := ⟨gb378, 2, none⟩) (Kd.R_far (p := ⟨gb378, 1, none⟩) (Kd.R_far (p := ⟨gb378, 0, none⟩) (Kd.bK HO_3.out (fun k_ hk => (⟨hk, hk.2⟩ : _ ∧ k_ ≠ gb378))) (fun _ hk => hk.2) (.int .i64 ((rd_T27 l0 x9_1).f0))) (fun _ hk => hk.2) (.int .i64 ((rd_T27 l0 x9_1).f1))) (fun _ hk => hk.2) (.int .i64 ((rd_T27 l0 x9_1).f2))) (fun _ hk => hk.2) (.int .i64 ((rd_T27 l0 x9_1).f3))) (fun _ hk => hk.2) (.int .i64 ((rd_T27 l0 x9_1).f4))) (fun _ hk => hk.1.2))); (case aS => exact (aQ (by repeat (first | (with_reducible first | exact HB.out | apply aN | apply aE | apply aH | refine aC ?_ GE378.out) | exact HB.out)))); (case aL => have := LMc10.out; omega); intro v380 w13 ho hb hg hat; rw [← Ny379.out] at ho; replace BK378 := aA.mk (blk_grown (g := gb378) (o := .cells #[.int .i64 ((rd_T27 l0 x9_1).f0), .int .i64 ((rd_T27 l0 x9_1).f1), .int .i64 ((rd_T27 l0 x9_1).f2), .int .i64 ((rd_T27 l0 x9_1).f3), .int .i64 ((rd_T27 l0 x9_1).f4)] 27 (0, 0)) (by (with_reducible repeat (first | refine aM ?_ _ | refine aJ ?_ | refine aK ?_ _)); refine bE (cs := #[.int .i64 ((rd_T27 l0 x9_1).f0), .int .i64 ((rd_T27 l0 x9_1).f1), .int .i64 ((rd_T27 l0 x9_1).f2), .int .i64 ((rd_T27 l0 x9_1).f3), .int .i64 0]) ?_ 4 _ rfl; (with_reducible repeat (first | refine aM ?_ _ | refine aJ ?_ | refine aK ?_ _)); refine bE (cs := #[.int .i64 ((rd_T27 l0 x9_1).f0), .int .i64 ((rd_T27 l0 x9_1).f1), .int .i64 ((rd_T27 l0 x9_1).f2), .int .i64 0, .int .i64 0]) ?_ 3 _ rfl; (with_reducible repeat (first | refine aM ?_ _ | refine aJ ?_ | refine aK ?_ _)); refine bE (cs := #[.int .i64 ((rd_T27 l0 x9_1).f0), .int .i64 ((rd_T27 l0 x9_1).f1), .int .i64 0, .int .i64 0, .int .i64 0]) ?_ 2 _ rfl; (with_reducible repeat (first | refine aM ?_ _ | refine aJ ?_ | refine aK ?_ _)); refine bE (cs := #[.int .i64 ((rd_T27 l0 x9_1).f0), .int .i64 0, .int .i64 0, .int .i64 0, .int .i64 0]) ?_ 1 _ rfl; (with_reducible repeat (first | refine aM ?_ _ | refine aJ ?_ | refine aK ?_ _)); refine bE (cs := #[.int .i64 0, .int .i64 0, .int .i64 0, .int .i64 0, .int .i64 0]) ?_ 0 _ rfl; (with_reducible repeat (first | refine aM ?_ _ | refine aJ ?_ | refine aK ?_ _)); exact BK378.out) hg (Kd.R_away HO_3.out (fun _ hk => hk.2))); replace HB := aA.mk (hb); have HO381 := aA.mk (ho); clear HO_3; clear ho hb hg hat))
        go_roundg k1
        case measure => have := HK1.out; omega
        case rel => exact ⟨(y379), (wrap64 (x9_1 + 1)), (by first | rfl | (simp; done) | (simp [*]; done)), H', ⟨by have := HK1.out; omega⟩, ⟨by (with_reducible repeat (first | apply Kd.bQ | apply Kd.bR | apply Kd.bU)); exact Kd.bK HO381.out (fun _ hk => trivial)⟩, ⟨by repeat (first | (with_reducible first | exact HB.out | apply aN | apply aE | apply aH | refine aC ?_ GE378.out) | exact HB.out)⟩⟩
       ·rw [if_neg c10] at H
        exact absurd H (by simp)
     ·rw [if_neg c6] at H
      exact absurd H (by simp)
    ·rw [if_neg c5] at H
     exact absurd H (by simp)
   ·rw [if_neg c4] at H
    have c4b0 : decide (x9_1 < (l0.length : Int)) = false := decide_eq_false c4
    clear c4
    obtain rfl := Option.some.inj H
    go_wp2
    go_ret
    exact ⟨_, by first | rfl | (simp [errW_none, errW_some] <;> rfl) | (simp [*, errW_none, errW_some] <;> rfl), by (with_reducible repeat (first | apply Kd.bQ | apply Kd.bR | apply Kd.bU)); exact HO_3.out, by repeat (first | (with_reducible first | exact HB.out | apply aN | apply aE | apply aH) | exact HB.out)⟩
def impl_NodeKeys.l0 : Nat → List (S27) → List (List (S27)) → Int → Int → Option ((List (S27)))
 | 0, _, _, _, _ => none
 | k + 1, x3, x8, x9, x10 => if x10 < x9 then (if 0 ≤ x10 then (if x10 < (x8.length : Int) then ((impl_MergeSets.f k x3 (rd_L4 x8 x10)).bind fun t387 => (impl_NodeKeys.l0 k t387 x8 x9 (wrap64 (x10 + 1)))) else (none)) else (none)) else ((impl_Drop.f k x3).bind fun t390 => (some t390))
def impl_NodeKeys.f (k : Nat) (l0_0 : List (List (S27))) : Option ((List (S27))) := impl_NodeKeys.l0 k (([] : List (S27))) l0_0 (l0_0.length : Int) 0
set_option maxHeartbeats 8000000 in
set_option maxRecDepth 100000 in
theorem impl_NodeKeys.calls (k : Nat) (A0_0 : Option Addr) (c0_0 : Nat) (l0_0 : List (List (S27))) (r : List (S27)) (w : World) (hr0_0 : Kd.C (Kd.slice 27 k27) w A0_0 l0_0.length l0_0) (hc0_0 : l0_0.length ≤ c0_0) (h : impl_NodeKeys.f k l0_0 = some r) :
  Calls Try.prog 31 #[.agg #[.slice A0_0 l0_0.length c0_0]] w fun e w' => ∃ v0_ : Value, e = .returned (v0_) ∧ Kd.R k27 27 w' w.heap.size (fun _ => True) v0_ r ∧ Below w.heap.size w w' := by
 have hu32 := Try.underlying32
 have HR0_0 := aA.mk hr0_0
 have HC0_0 := aA.mk hc0_0
 clear hr0_0 hc0_0
 have HB := aA.mk (Below.refl w.heap.size w)
 have H : (impl_NodeKeys.l0 k (([] : List (S27))) l0_0 (l0_0.length : Int) 0) = some r := h
 clear h
 obtain ⟨y383, hy383⟩ : ∃ y_ : List (S27), y_ = (([] : List (S27))) := ⟨_, rfl⟩
 replace H : (impl_NodeKeys.l0 k y383 l0_0 (l0_0.length : Int) 0) = some r := by first | (rw [hy383]; with_reducible exact H) | (have H2_ := (Option.bind_some _ _).symm.trans H; rw [hy383]; with_reducible exact H2_) | (have H2_ := (Option.bind_some _ _).symm.trans H; with_reducible exact H2_) | with_reducible exact H | (rw [hy383]; exact H) | exact H
 have Ny383 := aA.mk hy383
 clear hy383
 have H' := aA.mk H
 clear H
 go_enter Try.func31, Try.ntmps31
 go_wp2_with (first | ((with_reducible refine bA (N := 1) rfl ?_); refine bC ?hg (N := 1) ?hd (cs := #[.slice A0_0 l0_0.length c0_0]) (t := 32) ?hr ?_; (case hd => rfl); (case hg => rfl); (case hr => first | (go_simp; done) | (go_simp; rfl)); intro gb382 hg w2 hbox hb; have BK382 := aA.mk (hbox); have GW382 := aA.mk ((by rw [hg]; exact (aQ (by repeat (first | (with_reducible first | exact HB.out | apply aN | apply aE | apply aH) | exact HB.out))) : w.heap.size ≤ gb382)); have GE382 := aA.mk ((by rw [hg]; exact (aQ (by repeat (first | (with_reducible first | exact HB.out | apply aN | apply aE | apply aH) | exact HB.out))) : w.heap.size ≤ gb382)); replace HB := aA.mk (aT (by repeat (first | (with_reducible first | exact HB.out | apply aN | apply aE | apply aH) | exact HB.out)) hb); clear hb hbox hg) | ((with_reducible refine bA (N := 6) rfl ?_); refine Kd.R_lit k27 _ 27 ?hg (N := 6) ?hd (xs := ([] : List (S27))) (inner := []) (ok := fun _ => True) (okp := fun _ => True) ?hr ?hp (fun _ hk => hk) trivial (Below.refl _ _) (Nat.le_refl _) (by simp) ?_; (case hd => rfl); (case hg => rfl); (case hr => first | (go_simp; done) | (go_simp; rfl)); (case hp => exact (Reps.none _ _)); intro v384 w3 ho4 hb hg_ hnew_; clear hg_ hnew_; (first | rw [← Ny383.out] at ho4 | (simp only [Int.reduceToNat] at ho4; rw [← Ny383.out] at ho4)); have HO385 := aA.mk (Kd.R_lower ho4 (aQ (by repeat (first | (with_reducible first | exact HB.out | apply aN | apply aE | apply aH | refine aC ?_ GE382.out) | exact HB.out)))); replace BK382 := aA.mk (aG (g := gb382) (o := .cells #[.slice A0_0 l0_0.length c0_0] 32 (0, 0)) BK382.out hb); replace HB := aA.mk (aT (by repeat (first | (with_reducible first | exact HB.out | apply aN | apply aE | apply aH | refine aC ?_ GE382.out) | exact HB.out)) hb); clear hb ho4; have hcz5_0 := cs1 BK382.out; have hfz5_0 := fs1 BK382.out))
 go_loopg [3, 10] k (fun kq v3 v10 w' => ∃ (x3_1 : List (S27)) (x10_1 : Int), v10 = .int .i64 x10_1 ∧ aA (impl_NodeKeys.l0 kq x3_1 l0_0 (l0_0.length : Int) x10_1 = some r) ∧ aA (kq ≤ k) ∧ aA (Kd.R k27 27 w' w.heap.size (fun _ => True) v3 x3_1) ∧ aA (w'.heap[gb382]? = some (.cells #[(.slice A0_0 l0_0.length c0_0)] 32 (0, 0))) ∧ aA (Below w.heap.size w w'))
 case atStart => exact ⟨(y383), (0), (by first | rfl | (simp; done) | (simp [*]; done)), H', ⟨Nat.le_refl _⟩, ⟨by (with_reducible repeat (first | apply Kd.bQ | apply Kd.bR | apply Kd.bU)); exact HO385.out⟩, ⟨by (with_reducible repeat (first | refine aM ?_ _ | refine aJ ?_ | refine aK ?_ _)); exact BK382.out⟩, ⟨by repeat (first | (with_reducible first | exact HB.out | apply aN | apply aE | apply aH | refine aC ?_ GE382.out) | exact HB.out)⟩⟩
 case round =>
  clear H'
  try clear p2
  try clear c3
  try clear hcz5_0
  try clear hfz5_0
  obtain ⟨x3_1, x10_1, rfl, HA, HK1, HO_3, BK382, HB⟩ := hrel
  cases gk with
  | zero => exact absurd HA.out (by simp [impl_NodeKeys.l0])
  | succ k1 =>
   have H := HA.out
   clear HA
   simp only [impl_NodeKeys.l0] at H
   by_cases c6 : x10_1 < (l0_0.length : Int)
   ·rw [if_pos c6] at H
    have c6b0 : decide (x10_1 < (l0_0.length : Int)) = true := decide_eq_true c6
    clear c6
    by_cases c7 : 0 ≤ x10_1
    ·rw [if_pos c7] at H
     have c7b0 : decide (0 ≤ x10_1) = true := decide_eq_true c7
     clear c7
     by_cases c8 : x10_1 < (l0_0.length : Int)
     ·rw [if_pos c8] at H
      have c8b0 : decide (x10_1 < (l0_0.length : Int)) = true := decide_eq_true c8
      clear c8
      replace H := lF H
      obtain ⟨t387, A90, H⟩ := H
      replace H : (impl_NodeKeys.l0 k1 t387 l0_0 (l0_0.length : Int) (wrap64 (x10_1 + 1))) = some r := H
      have A9 := aA.mk A90
      clear A90
      have H' := aA.mk H
      clear H
      have p386 : 0 ≤ (x10_1 : Int) := lE (by assumption)
      have q386 : x10_1 < (l0_0.length : Int) := lE (by assumption)
      obtain ⟨ad386, A386_0, c386_0, e386, hx386_0, hl386_0, hi386_0⟩ := at_L4 HR0_0.out x10_1 p386 q386
      cases e386
      replace hx386_0 := (HB.out.cell (lD w _ hx386_0)).trans hx386_0
      have HR386_0 := aA.mk hi386_0
      have HC386_0 := aA.mk hl386_0
      clear hi386_0 hl386_0
      replace p386 := eq_true p386
      replace q386 := eq_true q386
      obtain ⟨Ao10, co10, eo10⟩ := Kd.R_slice HO_3.out
      subst eo10
      go_wp2_with (first | ((with_reducible refine bD (f := 66) rfl ?_); refine bL (some 16) rfl rfl Try.func66 (by kernel_rfl) rfl #[.slice Ao10 x3_1.length co10, .slice A386_0 (rd_L4 l0_0 x10_1).length c386_0] rfl (by (try simp only [List.map_toArray, List.map_cons, List.map_nil]); first | done | rfl) ?_; (with_reducible refine (impl_MergeSets.calls k1 _ _ x3_1 _ _ (rd_L4 l0_0 x10_1) t387 _ ?side1 ?side2 ?side3 ?side4 A9.out).mono ?_); (case side1 => repeat (first | exact (Kd.R_reads' HO_3.out).2.2 | (with_reducible refine Kd.C_alloc ?_ _) | (with_reducible refine Kd.C_drewN ?_ _) | (with_reducible refine Kd.C_drew ?_))); (case side2 => exact (Kd.R_reads' HO_3.out).2.1); (case side3 => repeat (first | exact (Kd.bN HR386_0.out HB.out) | (with_reducible refine Kd.C_alloc ?_ _) | (with_reducible refine Kd.C_drewN ?_ _) | (with_reducible refine Kd.C_drew ?_))); (case side4 => exact HC386_0.out); rintro e w11 ⟨v388, rfl, ho0, hb⟩; refine ⟨_, rfl, ?_⟩; have HO389 := aA.mk (Kd.R_lower (Kd.R_new' ho0 (Kd.R_lt HO_3.out)) (aQ (by repeat (first | (with_reducible first | exact HB.out | apply aN | apply aE | apply aH | refine aC ?_ GE382.out) | exact HB.out)))); replace HO_3 := aA.mk (Kd.R_elder' HO_3.out (Kd.R_base ho0) hb); replace BK382 := aA.mk (aG (g := gb382) (o := .cells #[.slice (some ad386) l0_0.length c0_0] 32 (0, 0)) BK382.out hb); replace HB := aA.mk (aT (by repeat (first | (with_reducible first | exact HB.out | apply aN | apply aE | apply aH | refine aC ?_ GE382.out) | exact HB.out)) hb); (try clear hb); (try clear ho0)))
      go_roundg k1
      case measure => have := HK1.out; omega
      case rel => exact ⟨(t387), (wrap64 (x10_1 + 1)), (by first | rfl | (simp; done) | (simp [*]; done)), H', ⟨by have := HK1.out; omega⟩, ⟨by (with_reducible repeat (first | apply Kd.bQ | apply Kd.bR | apply Kd.bU)); exact Kd.bK HO389.out (fun _ hk => trivial)⟩, ⟨by (with_reducible repeat (first | refine aM ?_ _ | refine aJ ?_ | refine aK ?_ _)); exact BK382.out⟩, ⟨by repeat (first | (with_reducible first | exact HB.out | apply aN | apply aE | apply aH | refine aC ?_ GE382.out) | exact HB.out)⟩⟩
     ·rw [if_neg c8] at H
      exact absurd H (by simp)
    ·rw [if_neg c7] at H
     exact absurd H (by simp)
   ·rw [if_neg c6] at H
    have c6b0 : decide (x10_1 < (l0_0.length : Int)) = false := decide_eq_false c6
    clear c6
    replace H := lF H
    obtain ⟨t390, A120, H⟩ := H
    replace H : (some t390) = some r := H
    have A12 := aA.mk A120
    clear A120
    obtain rfl := Option.some.inj H
    obtain ⟨Ao13, co13, eo13⟩ := Kd.R_slice HO_3.out
    subst eo13
    go_wp2_with (first | ((with_reducible refine bD (f := 67) rfl ?_); refine bL (some 19) rfl rfl Try.func67 (by kernel_rfl) rfl #[.slice Ao13 x3_1.length co13] rfl (by (try simp only [List.map_toArray, List.map_cons, List.map_nil]); first | done | rfl) ?_; (with_reducible refine (impl_Drop.calls k1 _ _ x3_1 t390 _ ?side1 ?side2 A12.out).mono ?_); (case side1 => repeat (first | exact (Kd.R_reads' HO_3.out).2.2 | (with_reducible refine Kd.C_alloc ?_ _) | (with_reducible refine Kd.C_drewN ?_ _) | (with_reducible refine Kd.C_drew ?_))); (case side2 => exact (Kd.R_reads' HO_3.out).2.1); rintro e w14 ⟨v391, rfl, ho0, hb⟩; refine ⟨_, rfl, ?_⟩; have HO392 := aA.mk (Kd.R_lower (Kd.R_new' ho0 (Kd.R_lt HO_3.out)) (aQ (by repeat (first | (with_reducible first | exact HB.out | apply aN | apply aE | apply aH | refine aC ?_ GE382.out) | exact HB.out)))); replace HO_3 := aA.mk (Kd.R_elder' HO_3.out (Kd.R_base ho0) hb); replace BK382 := aA.mk (aG (g := gb382) (o := .cells #[.slice A0_0 l0_0.length c0_0] 32 (0, 0)) BK382.out hb); replace HB := aA.mk (aT (by repeat (first | (with_reducible first | exact HB.out | apply aN | apply aE | apply aH | refine aC ?_ GE382.out) | exact HB.out)) hb); (try clear hb); (try clear ho0)))
    go_ret
    exact ⟨_, by first | rfl | (simp [errW_none, errW_some] <;> rfl) | (simp [*, errW_none, errW_some] <;> rfl), by (with_reducible repeat (first | apply Kd.bQ | apply Kd.bR | apply Kd.bU)); exact Kd.bK HO392.out (fun _ hk => trivial), by repeat (first | (with_reducible first | exact HB.out | apply aN | apply aE | apply aH | refine aC ?_ GE382.out) | exact HB.out)⟩
end Go.Proofs.Ythpfihklkcnckaa.PFnExactNodePut

namespace Go.Proofs.Ythpfihklkcnckaa.PFnExactNodePut
open Go.RowKit Go.Proofs.YthpfihklkcnckaaW.PrintWords Go.Proofs.YthpfihklkcnckaaW.PrintLast Go.Proofs.YthpfihklkcnckaaW.PrintMore
attribute [local go_sem] max2_int min2_int max_two min_two max_three min_three max_four min_four   -- for this text's walks alone
set_option linter.unusedVariables false
set_option linter.unusedSimpArgs false
def impl_keysWith.f (k : Nat) (l0_0 : List (List (S27))) (a1_0 : Int) (a1_1 : Int) (a1_2 : Int) (a1_3 : Int) (a1_4 : Int) : Option ((List (S27))) := (impl_NodeKeys.f k l0_0).bind fun t395 => ((impl_SetPut.f k t395 a1_0 a1_1 a1_2 a1_3 a1_4).bind fun t398 => ((impl_Drop.f k t398).bind fun t401 => (some t401)))
set_option maxHeartbeats 8000000 in
set_option maxRecDepth 100000 in
theorem impl_keysWith.calls (k : Nat) (A0_0 : Option Addr) (c0_0 : Nat) (l0_0 : List (List (S27))) (a1_0 : Int) (a1_1 : Int) (a1_2 : Int) (a1_3 : Int) (a1_4 : Int) (r : List (S27)) (w : World) (hr0_0 : Kd.C (Kd.slice 27 k27) w A0_0 l0_0.length l0_0) (hc0_0 : l0_0.length ≤ c0_0) (h : impl_keysWith.f k l0_0 a1_0 a1_1 a1_2 a1_3 a1_4 = some r) :
  Calls Try.prog 72 #[.agg #[.slice A0_0 l0_0.length c0_0], .agg #[.int .i64 a1_0, .int .i64 a1_1, .int .i64 a1_2, .int .i64 a1_3, .int .i64 a1_4]] w fun e w' => ∃ v0_ : Value, e = .returned (v0_) ∧ Kd.R k27 27 w' w.heap.size (fun _ => True) v0_ r ∧ Below w.heap.size w w' := by
 have hu32 := Try.underlying32
 have hu27 := Try.underlying27
 have HR0_0 := aA.mk hr0_0
 have HC0_0 := aA.mk hc0_0
 clear hr0_0 hc0_0
 have HB := aA.mk (Below.refl w.heap.size w)
 have H : ((impl_NodeKeys.f k l0_0).bind fun t395 => ((impl_SetPut.f k t395 a1_0 a1_1 a1_2 a1_3 a1_4).bind fun t398 => ((impl_Drop.f k t398).bind fun t401 => (some t401)))) = some r := h
 clear h
 replace H := lF H
 obtain ⟨t395, A30, H⟩ := H
 replace H : ((impl_SetPut.f k t395 a1_0 a1_1 a1_2 a1_3 a1_4).bind fun t398 => ((impl_Drop.f k t398).bind fun t401 => (some t401))) = some r := H
 have A3 := aA.mk A30
 clear A30
 replace H := lF H
 obtain ⟨t398, A40, H⟩ := H
 replace H : ((impl_Drop.f k t398).bind fun t401 => (some t401)) = some r := H
 have A4 := aA.mk A40
 clear A40
 replace H := lF H
 obtain ⟨t401, A50, H⟩ := H
 replace H : (some t401) = some r := H
 have A5 := aA.mk A50
 clear A50
 obtain rfl := Option.some.inj H
 go_enter Try.func72, Try.ntmps72
 try go_wp2_with (first | ((with_reducible refine bA (N := 2) rfl ?_); refine bC ?hg (N := 2) ?hd (cs := #[.slice A0_0 l0_0.length c0_0]) (t := 32) ?hr ?_; (case hd => rfl); (case hg => rfl); (case hr => first | (go_simp; done) | (go_simp; rfl)); intro gb393 hg w6 hbox hb; have BK393 := aA.mk (hbox); have GW393 := aA.mk ((by rw [hg]; exact (aQ HB.out) : w.heap.size ≤ gb393)); have GE393 := aA.mk ((by rw [hg]; exact (aQ HB.out) : w.heap.size ≤ gb393)); replace HB := aA.mk (aT HB.out hb); clear hb hbox hg) | ((with_reducible refine bA (N := 3) rfl ?_); refine bC ?hg (N := 3) ?hd (cs := #[.int .i64 a1_0, .int .i64 a1_1, .int .i64 a1_2, .int .i64 a1_3, .int .i64 a1_4]) (t := 27) ?hr ?_; (case hd => rfl); (case hg => rfl); (case hr => first | (go_simp; done) | (go_simp; rfl)); intro gb394 hg w7 hbox hb; have BK394 := aA.mk (hbox); have GW394 := aA.mk ((by rw [hg]; exact (aQ HB.out) : w.heap.size ≤ gb394)); have GE394 := aA.mk ((by rw [hg]; exact (aQ HB.out) : w.heap.size ≤ gb394)); replace HB := aA.mk (aT HB.out hb); have NB393_394 := aA.mk ((by rw [hg]; exact Nat.ne_of_lt (aY (g := gb393) (o := .cells #[.slice A0_0 l0_0.length c0_0] 32 (0, 0)) BK393.out) : gb393 ≠ gb394)); have NB394_393 := aA.mk ((by rw [hg]; exact Nat.ne_of_gt (aY (g := gb393) (o := .cells #[.slice A0_0 l0_0.length c0_0] 32 (0, 0)) BK393.out) : gb394 ≠ gb393)); replace BK393 := aA.mk (aG (g := gb393) (o := .cells #[.slice A0_0 l0_0.length c0_0] 32 (0, 0)) BK393.out hb); clear hb hbox hg))
 replace BK393 := aA.mk (aJ BK393.out)
 replace BK394 := aA.mk (aJ BK394.out)
 replace HB := aA.mk (aH HB.out)
 refine start_ (n := 6) (S := fun w' => w'.cell? ⟨gb393, 0, none⟩ = some (.slice A0_0 l0_0.length c0_0) ∧ w'.cell? ⟨gb394, 0, none⟩ = some (.int .i64 a1_0) ∧ w'.cell? ⟨gb394, 1, none⟩ = some (.int .i64 a1_1) ∧ w'.cell? ⟨gb394, 2, none⟩ = some (.int .i64 a1_2) ∧ w'.cell? ⟨gb394, 3, none⟩ = some (.int .i64 a1_3) ∧ w'.cell? ⟨gb394, 4, none⟩ = some (.int .i64 a1_4)) (ds := []) #[false, false, false, false, false, false] (by kernel_rfl) rfl rfl ⟨(aD BK393.out 0).trans rfl, (aD BK394.out 0).trans rfl, (aD BK394.out 1).trans rfl, (aD BK394.out 2).trans rfl, (aD BK394.out 3).trans rfl, (aD BK394.out 4).trans rfl⟩ (fun hHeld => ?_)
 generalize w7.drew = w8 at BK393 BK394 HB hHeld ⊢
 refine take_ (i := 0) (N := some 5) (v := ?_) (a' := ?_) #[true, false, false, false, false, false] rfl rfl (by kernel_rfl) (fun _ _ _ h => h) (Or.inl ⟨by rfl, ?_⟩) hHeld ?_ ?_
 rotate_left
 ·rintro w' ⟨s0, s1, s2, s3, s4, s5⟩
  go_simp
  with_reducible rfl
 rotate_left
 ·simp only [Act.put, lA, lB, lC, aU, aV]
  rfl
 refine take_ (i := 2) (N := some 7) (v := ?_) (a' := ?_) #[true, false, true, false, false, false] rfl rfl (by kernel_rfl) (fun _ _ _ h => h) (Or.inl ⟨by rfl, ?_⟩) hHeld ?_ ?_
 rotate_left
 ·rintro w' ⟨s0, s1, s2, s3, s4, s5⟩
  go_simp
  with_reducible rfl
 rotate_left
 ·simp only [Act.put, lA, lB, lC, aU, aV]
  rfl
 refine one_ (i := 1) (N := some 6) #[true, true, true, false, false, false] rfl rfl (by kernel_rfl) (by decide) (fun K hK => ?_)
 refine goes_ Try.func31 (by kernel_rfl) rfl #[.agg #[.slice A0_0 l0_0.length c0_0]] (by rfl) rfl rfl (by (try simp only [List.map_toArray, List.map_cons, List.map_nil]); first | done | rfl) ?_
 with_reducible refine (impl_NodeKeys.calls k _ _ l0_0 t395 _ ?side1 ?side2 A3.out).mono ?_
 (case side1 => exact (Kd.bN HR0_0.out HB.out))
 (case side2 => exact HC0_0.out)
 rintro e w9 ⟨v396, rfl, ho0, hb⟩
 refine ⟨_, rfl, ?_⟩
 have HO397 := aA.mk (Kd.R_lower (Kd.R_newB ho0 (g := gb394) (o := .cells #[.int .i64 a1_0, .int .i64 a1_1, .int .i64 a1_2, .int .i64 a1_3, .int .i64 a1_4] 27 (0, 0)) BK394.out) (aQ HB.out))
 replace BK393 := aA.mk (aG (g := gb393) (o := .cells #[.slice A0_0 l0_0.length c0_0] 32 (0, 0)) BK393.out hb)
 replace BK394 := aA.mk (aG (g := gb394) (o := .cells #[.int .i64 a1_0, .int .i64 a1_1, .int .i64 a1_2, .int .i64 a1_3, .int .i64 a1_4] 27 (0, 0)) BK394.out hb)
 replace HB := aA.mk (aT HB.out hb)
 (try clear hb)
 (try clear hb2)
 (try clear hk)
 (try clear hi)
 (try clear ho0)
 obtain ⟨Ao10, co10, eo10⟩ := Kd.R_slice HO397.out
 (first | subst eo10 | (injection eo10 with f1_ f2_ f3_; have f4_ := f1_.symm; have f5_ := f3_.symm; clear f1_ f2_ f3_; subst f4_; subst f5_))
 refine hK.out _ _ ⟨(aD BK393.out 0).trans rfl, (aD BK394.out 0).trans rfl, (aD BK394.out 1).trans rfl, (aD BK394.out 2).trans rfl, (aD BK394.out 3).trans rfl, (aD BK394.out 4).trans rfl⟩ (fun hHeld => ?_)
 clear hK K
 refine bJ (a' := ?_) ?_ ?_
 rotate_left
 ·show Act.put _ (some 6) _ = _
  simp only [Act.put, lA, lB, lC, aU, aV]
  rfl
 refine one_ (i := 3) (N := some 8) #[true, true, true, true, false, false] rfl rfl (by kernel_rfl) (by decide) (fun K hK => ?_)
 refine goes_ Try.func71 (by kernel_rfl) rfl #[.slice Ao10 t395.length co10, .agg #[.int .i64 a1_0, .int .i64 a1_1, .int .i64 a1_2, .int .i64 a1_3, .int .i64 a1_4]] (by rfl) rfl rfl (by (try simp only [List.map_toArray, List.map_cons, List.map_nil]); first | done | rfl) ?_
 with_reducible refine (impl_SetPut.calls k _ _ t395 a1_0 a1_1 a1_2 a1_3 a1_4 t398 _ ?side1 ?side2 A4.out).mono ?_
 (case side1 => repeat (first | exact (Kd.R_reads' HO397.out).2.2 | (with_reducible refine Kd.C_alloc ?_ _) | (with_reducible refine Kd.C_drewN ?_ _) | (with_reducible refine Kd.C_drew ?_)))
 (case side2 => exact (Kd.R_reads' HO397.out).2.1)
 rintro e w11 ⟨v399, rfl, ho0, hb⟩
 refine ⟨_, rfl, ?_⟩
 have HO400 := aA.mk (Kd.R_lower (Kd.R_newB (Kd.R_new' ho0 (Kd.R_lt HO397.out)) (g := gb394) (o := .cells #[.int .i64 a1_0, .int .i64 a1_1, .int .i64 a1_2, .int .i64 a1_3, .int .i64 a1_4] 27 (0, 0)) BK394.out) (aQ HB.out))
 replace HO397 := aA.mk (Kd.R_elder' HO397.out (Kd.R_base ho0) hb)
 replace BK393 := aA.mk (aG (g := gb393) (o := .cells #[.slice A0_0 l0_0.length c0_0] 32 (0, 0)) BK393.out hb)
 replace BK394 := aA.mk (aG (g := gb394) (o := .cells #[.int .i64 a1_0, .int .i64 a1_1, .int .i64 a1_2, .int .i64 a1_3, .int .i64 a1_4] 27 (0, 0)) BK394.out hb)
 replace HB := aA.mk (aT HB.out hb)
 (try clear hb)
 (try clear hb2)
 (try clear hk)
 (try clear hi)
 (try clear ho0)
 obtain ⟨Ao12, co12, eo12⟩ := Kd.R_slice HO400.out
 (first | subst eo12 | (injection eo12 with f1_ f2_ f3_; have f4_ := f1_.symm; have f5_ := f3_.symm; clear f1_ f2_ f3_; subst f4_; subst f5_))
 refine hK.out _ _ ⟨(aD BK393.out 0).trans rfl, (aD BK394.out 0).trans rfl, (aD BK394.out 1).trans rfl, (aD BK394.out 2).trans rfl, (aD BK394.out 3).trans rfl, (aD BK394.out 4).trans rfl⟩ (fun hHeld => ?_)
 clear hK K
 refine bJ (a' := ?_) ?_ ?_
 rotate_left
 ·show Act.put _ (some 8) _ = _
  simp only [Act.put, lA, lB, lC, aU, aV]
  rfl
 refine one_ (i := 4) (N := some 9) #[true, true, true, true, true, false] rfl rfl (by kernel_rfl) (by decide) (fun K hK => ?_)
 refine goes_ Try.func67 (by kernel_rfl) rfl #[.slice Ao12 t398.length co12] (by rfl) rfl rfl (by (try simp only [List.map_toArray, List.map_cons, List.map_nil]); first | done | rfl) ?_
 with_reducible refine (impl_Drop.calls k _ _ t398 t401 _ ?side1 ?side2 A5.out).mono ?_
 (case side1 => repeat (first | exact (Kd.R_reads' HO400.out).2.2 | (with_reducible refine Kd.C_alloc ?_ _) | (with_reducible refine Kd.C_drewN ?_ _) | (with_reducible refine Kd.C_drew ?_)))
 (case side2 => exact (Kd.R_reads' HO400.out).2.1)
 rintro e w13 ⟨v402, rfl, ho0, hb⟩
 refine ⟨_, rfl, ?_⟩
 have HO403 := aA.mk (Kd.R_lower (Kd.R_newB (Kd.R_new' (Kd.R_new' ho0 (Kd.R_lt HO397.out)) (Kd.R_lt HO400.out)) (g := gb394) (o := .cells #[.int .i64 a1_0, .int .i64 a1_1, .int .i64 a1_2, .int .i64 a1_3, .int .i64 a1_4] 27 (0, 0)) BK394.out) (aQ HB.out))
 replace HO397 := aA.mk (Kd.R_elder' HO397.out (Kd.R_base ho0) hb)
 replace HO400 := aA.mk (Kd.R_elder' HO400.out (Kd.R_base ho0) hb)
 replace BK393 := aA.mk (aG (g := gb393) (o := .cells #[.slice A0_0 l0_0.length c0_0] 32 (0, 0)) BK393.out hb)
 replace BK394 := aA.mk (aG (g := gb394) (o := .cells #[.int .i64 a1_0, .int .i64 a1_1, .int .i64 a1_2, .int .i64 a1_3, .int .i64 a1_4] 27 (0, 0)) BK394.out hb)
 replace HB := aA.mk (aT HB.out hb)
 (try clear hb)
 (try clear hb2)
 (try clear hk)
 (try clear hi)
 (try clear ho0)
 refine hK.out _ _ ⟨(aD BK393.out 0).trans rfl, (aD BK394.out 0).trans rfl, (aD BK394.out 1).trans rfl, (aD BK394.out 2).trans rfl, (aD BK394.out 3).trans rfl, (aD BK394.out 4).trans rfl⟩ (fun hHeld => ?_)
 clear hK K
 refine bJ (a' := ?_) ?_ ?_
 rotate_left
 ·show Act.put _ (some 9) _ = _
  simp only [Act.put, lA, lB, lC, aU, aV]
  rfl
 refine aW (i := 5) (N := some 4) (v := ?_) (a' := ?_) #[true, true, true, true, true, true] rfl rfl (by kernel_rfl) (fun _ _ _ h => h) (Or.inl ⟨by rfl, ?_⟩) ?_ ?_
 rotate_left
 ·intro w'
  go_simp
  with_reducible rfl
 rotate_left
 ·simp only [Act.put, lA, lB, lC, aU, aV]
  rfl
 refine done_ (by kernel_rfl) ?_
 try go_wp2
 go_ret
 exact ⟨_, by first | rfl | (simp [errW_none, errW_some] <;> rfl) | (simp [*, errW_none, errW_some] <;> rfl), by (with_reducible repeat (first | apply Kd.bQ | apply Kd.bR | apply Kd.bU)); exact Kd.bK HO403.out (fun _ hk => trivial), by repeat (first | (with_reducible first | exact HB.out | apply aN | apply aE | apply aH | refine aC ?_ GE393.out | refine aC ?_ GE394.out) | exact HB.out)⟩
end Go.Proofs.Ythpfihklkcnckaa.PFnExactNodePut
