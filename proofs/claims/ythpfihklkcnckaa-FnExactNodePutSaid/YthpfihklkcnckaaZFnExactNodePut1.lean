/- The law: the functions that it reaches, each with the proof that the machine's call comes to its answer, what they answer, and the law's row; each theorem says its conditions itself. -/
import Derived.Test.YthpfihklkcnckaaZFnExactNodePut0
namespace Go.Proofs.Ythpfihklkcnckaa.PFnExactNodePut
open Go.RowKit Go.Proofs.YthpfihklkcnckaaW.PrintWords Go.Proofs.YthpfihklkcnckaaW.PrintLast Go.Proofs.YthpfihklkcnckaaW.PrintMore
attribute [local go_sem] max2_int min2_int max_two min_two max_three min_three max_four min_four   -- for this text's walks alone
set_option linter.unusedVariables false
set_option linter.unusedSimpArgs false
def spec_l5Count.l0 : Nat → Int → Int → List (List (S27)) → Option (Int)
 | 0, _, _, _ => none
 | k + 1, x3, x4, x184000 => if x4 < (x184000.length : Int) then (if 0 ≤ x4 then (spec_l5Count.l0 k (wrap64 (x3 + ((rd_L4 x184000 x4).length : Int))) (wrap64 (x4 + 1)) x184000) else (none)) else (some x3)
def spec_l5Count.f (k : Nat) (l0_0 : List (List (S27))) : Option (Int) := spec_l5Count.l0 k 0 0 l0_0
set_option maxHeartbeats 8000000 in
set_option maxRecDepth 100000 in
theorem spec_l5Count.calls (k : Nat) (A0_0 : Option Addr) (c0_0 : Nat) (l0_0 : List (List (S27))) (r : Int) (w : World) (hr0_0 : Kd.C (Kd.slice 27 k27) w A0_0 l0_0.length l0_0) (hc0_0 : l0_0.length ≤ c0_0) (h : spec_l5Count.f k l0_0 = some r) :
  Calls Try.prog 62 #[.agg #[.slice A0_0 l0_0.length c0_0]] w fun e w' => e = .returned (.int .i64 r) ∧ Below w.heap.size w w' := by
 have hu32 := Try.underlying32
 have HR0_0 := aA.mk hr0_0
 have HC0_0 := aA.mk hc0_0
 clear hr0_0 hc0_0
 have HB := aA.mk (Below.refl w.heap.size w)
 have H : (spec_l5Count.l0 k 0 0 l0_0) = some r := h
 clear h
 have H' := aA.mk H
 clear H
 go_enter Try.func62, Try.ntmps62
 go_wp2_with (first | ((with_reducible refine bA (N := 1) rfl ?_); refine bC ?hg (N := 1) ?hd (cs := #[.slice A0_0 l0_0.length c0_0]) (t := 32) ?hr ?_; (case hd => rfl); (case hg => rfl); (case hr => first | (go_simp; done) | (go_simp; rfl)); intro gb183 hg w2 hbox hb; have BK183 := aA.mk (hbox); have GW183 := aA.mk ((by rw [hg]; exact (aQ HB.out) : w.heap.size ≤ gb183)); have GE183 := aA.mk ((by rw [hg]; exact (aQ HB.out) : w.heap.size ≤ gb183)); replace HB := aA.mk (aT HB.out hb); clear hb hbox hg))
 go_loopg [3, 4] k (fun kq v3 v4 w' => ∃ (x3_1 : Int) (x4_1 : Int), v3 = .int .i64 x3_1 ∧ v4 = .int .i64 x4_1 ∧ aA (spec_l5Count.l0 kq x3_1 x4_1 l0_0 = some r) ∧ aA (kq ≤ k) ∧ aA (w'.heap[gb183]? = some (.cells #[(.slice A0_0 l0_0.length c0_0)] 32 (0, 0))) ∧ aA (Below w.heap.size w w'))
 case atStart => exact ⟨(0), (0), (by first | rfl | (simp; done) | (simp [*]; done)), (by first | rfl | (simp; done) | (simp [*]; done)), H', ⟨Nat.le_refl _⟩, ⟨by (with_reducible repeat (first | refine aM ?_ _ | refine aJ ?_ | refine aK ?_ _)); exact BK183.out⟩, ⟨by repeat (first | (with_reducible first | exact HB.out | apply aN | apply aE | apply aH | refine aC ?_ GE183.out) | exact HB.out)⟩⟩
 case round =>
  clear H'
  try clear p2
  obtain ⟨x3_1, x4_1, rfl, rfl, HA, HK1, BK183, HB⟩ := hrel
  cases gk with
  | zero => exact absurd HA.out (by simp [spec_l5Count.l0])
  | succ k1 =>
   have H := HA.out
   clear HA
   simp only [spec_l5Count.l0] at H
   by_cases c3 : x4_1 < (l0_0.length : Int)
   ·rw [if_pos c3] at H
    have c3b0 : decide (x4_1 < (l0_0.length : Int)) = true := decide_eq_true c3
    clear c3
    by_cases c4 : 0 ≤ x4_1
    ·rw [if_pos c4] at H
     have c4b0 : decide (0 ≤ x4_1) = true := decide_eq_true c4
     clear c4
     have H' := aA.mk H
     clear H
     have hcz5_0 := cs1 BK183.out
     have hfz5_0 := fs1 BK183.out
     have p184 : 0 ≤ (x4_1 : Int) := lE (by assumption)
     have q184 : x4_1 < (l0_0.length : Int) := lE (by assumption)
     obtain ⟨ad184, A184_0, c184_0, e184, hx184_0, hl184_0, hi184_0⟩ := at_L4 HR0_0.out x4_1 p184 q184
     cases e184
     replace hx184_0 := (HB.out.cell (lD w _ hx184_0)).trans hx184_0
     have HR184_0 := aA.mk hi184_0
     have HC184_0 := aA.mk hl184_0
     clear hi184_0 hl184_0
     replace p184 := eq_true p184
     replace q184 := eq_true q184
     go_wp2
     go_roundg k1
     case measure => have := HK1.out; omega
     case rel => exact ⟨(wrap64 (x3_1 + ((rd_L4 l0_0 x4_1).length : Int))), (wrap64 (x4_1 + 1)), (by first | rfl | (simp; done) | (simp [*]; done)), (by first | rfl | (simp; done) | (simp [*]; done)), H', ⟨by have := HK1.out; omega⟩, ⟨by (with_reducible repeat (first | refine aM ?_ _ | refine aJ ?_ | refine aK ?_ _)); exact BK183.out⟩, ⟨by repeat (first | (with_reducible first | exact HB.out | apply aN | apply aE | apply aH | refine aC ?_ GE183.out) | exact HB.out)⟩⟩
    ·rw [if_neg c4] at H
     exact absurd H (by simp)
   ·rw [if_neg c3] at H
    have c3b0 : decide (x4_1 < (l0_0.length : Int)) = false := decide_eq_false c3
    clear c3
    obtain rfl := Option.some.inj H
    have hcz6_0 := cs1 BK183.out
    have hfz6_0 := fs1 BK183.out
    go_wp2
    go_ret
    exact ⟨by first | rfl | (simp [errW_none, errW_some] <;> rfl) | (simp [*, errW_none, errW_some] <;> rfl), by repeat (first | (with_reducible first | exact HB.out | apply aN | apply aE | apply aH | refine aC ?_ GE183.out) | exact HB.out)⟩
def spec_NodeOk.l0 : Nat → Int → List (List (S27)) → Option (Bool)
 | 0, _, _ => none
 | k + 1, x3, x186000 => if x3 < (x186000.length : Int) then (if 0 ≤ x3 then ((spec_SetOk.f k (rd_L4 x186000 x3)).bind fun t187 => (if t187 = true then (if ((rd_L4 x186000 x3).length : Int) = 0 then (some false) else (spec_NodeOk.l0 k (wrap64 (x3 + 1)) x186000)) else (some false))) else (none)) else (if (x186000.length : Int) ≤ 3 then ((spec_l5Count.f k x186000).bind fun t189 => (some (decide (t189 ≤ 8)))) else (some false))
def spec_NodeOk.f (k : Nat) (l0_0 : List (List (S27))) : Option (Bool) := spec_NodeOk.l0 k 0 l0_0
set_option maxHeartbeats 8000000 in
set_option maxRecDepth 100000 in
theorem spec_NodeOk.calls (k : Nat) (A0_0 : Option Addr) (c0_0 : Nat) (l0_0 : List (List (S27))) (r : Bool) (w : World) (hr0_0 : Kd.C (Kd.slice 27 k27) w A0_0 l0_0.length l0_0) (hc0_0 : l0_0.length ≤ c0_0) (h : spec_NodeOk.f k l0_0 = some r) :
  Calls Try.prog 28 #[.agg #[.slice A0_0 l0_0.length c0_0]] w fun e w' => e = .returned (.bool r) ∧ Below w.heap.size w w' := by
 have hu32 := Try.underlying32
 have HR0_0 := aA.mk hr0_0
 have HC0_0 := aA.mk hc0_0
 clear hr0_0 hc0_0
 have HB := aA.mk (Below.refl w.heap.size w)
 have H : (spec_NodeOk.l0 k 0 l0_0) = some r := h
 clear h
 have H' := aA.mk H
 clear H
 go_enter Try.func28, Try.ntmps28
 go_wp2_with (first | ((with_reducible refine bA (N := 1) rfl ?_); (try (refine gate_guard (by rfl) ?_; dsimp only)); refine bC ?hg (N := 1) ?hd (cs := #[.slice A0_0 l0_0.length c0_0]) (t := 32) ?hr ?_; (case hd => rfl); (case hg => rfl); (case hr => first | (go_simp; done) | (go_simp; rfl)); intro gb185 hg w2 hbox hb; have BK185 := aA.mk (hbox); have GW185 := aA.mk ((by rw [hg]; exact (aQ HB.out) : w.heap.size ≤ gb185)); have GE185 := aA.mk ((by rw [hg]; exact (aQ HB.out) : w.heap.size ≤ gb185)); replace HB := aA.mk (aT HB.out hb); clear hb hbox hg))
 go_loopg [3] k (fun kq v3 w' => ∃ (x3_1 : Int), v3 = .int .i64 x3_1 ∧ aA (spec_NodeOk.l0 kq x3_1 l0_0 = some r) ∧ aA (kq ≤ k) ∧ aA (w'.heap[gb185]? = some (.cells #[(.slice A0_0 l0_0.length c0_0)] 32 (0, 0))) ∧ aA (Below w.heap.size w w'))
 case atStart => exact ⟨(0), (by first | rfl | (simp; done) | (simp [*]; done)), H', ⟨Nat.le_refl _⟩, ⟨by (with_reducible repeat (first | refine aM ?_ _ | refine aJ ?_ | refine aK ?_ _)); exact BK185.out⟩, ⟨by repeat (first | (with_reducible first | exact HB.out | apply aN | apply aE | apply aH | refine aC ?_ GE185.out) | exact HB.out)⟩⟩
 case round =>
  clear H'
  try clear c2
  try clear p2
  obtain ⟨x3_1, rfl, HA, HK1, BK185, HB⟩ := hrel
  cases gk with
  | zero => exact absurd HA.out (by simp [spec_NodeOk.l0])
  | succ k1 =>
   have H := HA.out
   clear HA
   simp only [spec_NodeOk.l0] at H
   by_cases c3 : x3_1 < (l0_0.length : Int)
   ·rw [if_pos c3] at H
    have c3b0 : decide (x3_1 < (l0_0.length : Int)) = true := decide_eq_true c3
    clear c3
    by_cases c4 : 0 ≤ x3_1
    ·rw [if_pos c4] at H
     have c4b0 : decide (0 ≤ x3_1) = true := decide_eq_true c4
     clear c4
     replace H := lF H
     obtain ⟨t187, A50, H⟩ := H
     replace H : (if t187 = true then (if ((rd_L4 l0_0 x3_1).length : Int) = 0 then (some false) else (spec_NodeOk.l0 k1 (wrap64 (x3_1 + 1)) l0_0)) else (some false)) = some r := H
     have A5 := aA.mk A50
     clear A50
     by_cases c6 : t187 = true
     ·subst c6
      have H1 : (if ((rd_L4 l0_0 x3_1).length : Int) = 0 then (some false) else (spec_NodeOk.l0 k1 (wrap64 (x3_1 + 1)) l0_0)) = some r := by rw [if_pos rfl] at H; exact H
      clear H
      have H := H1
      clear H1
      by_cases c7 : ((rd_L4 l0_0 x3_1).length : Int) = 0
      ·rw [if_pos c7] at H
       have c7b0 : (((rd_L4 l0_0 x3_1).length : Int) == 0) = true := beq_iff_eq.mpr c7
       have c7b1 : (((rd_L4 l0_0 x3_1).length : Int) != 0) = false := bne_eq_false_iff_eq.mpr c7
       clear c7
       obtain rfl := Option.some.inj H
       have hcz8_0 := cs1 BK185.out
       have hfz8_0 := fs1 BK185.out
       have p186 : 0 ≤ (x3_1 : Int) := lE (by assumption)
       have q186 : x3_1 < (l0_0.length : Int) := lE (by assumption)
       obtain ⟨ad186, A186_0, c186_0, e186, hx186_0, hl186_0, hi186_0⟩ := at_L4 HR0_0.out x3_1 p186 q186
       cases e186
       replace hx186_0 := (HB.out.cell (lD w _ hx186_0)).trans hx186_0
       have HR186_0 := aA.mk hi186_0
       have HC186_0 := aA.mk hl186_0
       clear hi186_0 hl186_0
       replace p186 := eq_true p186
       replace q186 := eq_true q186
       go_wp2_with (first | ((with_reducible refine bD (f := 61) rfl ?_); refine bL (some 16) rfl rfl Try.func61 (by kernel_rfl) rfl #[.slice A186_0 (rd_L4 l0_0 x3_1).length c186_0] rfl (by (try simp only [List.map_toArray, List.map_cons, List.map_nil]); first | done | rfl) ?_; (with_reducible refine (spec_SetOk.calls k1 _ _ (rd_L4 l0_0 x3_1) true _ ?side1 ?side2 A5.out).mono ?_); (case side1 => exact (Kd.bN HR186_0.out HB.out)); (case side2 => exact HC186_0.out); rintro e w9 ⟨rfl, hb⟩; refine ⟨_, rfl, ?_⟩; replace BK185 := aA.mk (aG (g := gb185) (o := .cells #[.slice (some ad186) l0_0.length c0_0] 32 (0, 0)) BK185.out hb); replace HB := aA.mk (aT HB.out hb); (try clear hb); have hcz10_0 := cs1 BK185.out; have hfz10_0 := fs1 BK185.out; have p188 : 0 ≤ (x3_1 : Int) := lE (by assumption); have q188 : x3_1 < (l0_0.length : Int) := lE (by assumption); obtain ⟨ad188, A188_0, c188_0, e188, hx188_0, hl188_0, hi188_0⟩ := at_L4 HR0_0.out x3_1 p188 q188; obtain rfl : ad186 = ad188 := (by injection e188); replace hx188_0 := (HB.out.cell (lD w _ hx188_0)).trans hx188_0; have HR188_0 := aA.mk hi188_0; have HC188_0 := aA.mk hl188_0; clear hi188_0 hl188_0; replace p188 := eq_true p188; replace q188 := eq_true q188))
       go_ret
       exact ⟨by first | rfl | (simp [errW_none, errW_some] <;> rfl) | (simp [*, errW_none, errW_some] <;> rfl), by repeat (first | (with_reducible first | exact HB.out | apply aN | apply aE | apply aH | refine aC ?_ GE185.out) | exact HB.out)⟩
      ·rw [if_neg c7] at H
       have c7b0 : (((rd_L4 l0_0 x3_1).length : Int) == 0) = false := beq_eq_false_iff_ne.mpr c7
       have c7b1 : (((rd_L4 l0_0 x3_1).length : Int) != 0) = true := bne_iff_ne.mpr c7
       have c7b2 : ¬ ((rd_L4 l0_0 x3_1) = []) := fun h_ => c7 (by rw [h_]; rfl)
       have H' := aA.mk H
       clear H
       have hcz11_0 := cs1 BK185.out
       have hfz11_0 := fs1 BK185.out
       have p186 : 0 ≤ (x3_1 : Int) := lE (by assumption)
       have q186 : x3_1 < (l0_0.length : Int) := lE (by assumption)
       obtain ⟨ad186, A186_0, c186_0, e186, hx186_0, hl186_0, hi186_0⟩ := at_L4 HR0_0.out x3_1 p186 q186
       cases e186
       replace hx186_0 := (HB.out.cell (lD w _ hx186_0)).trans hx186_0
       have HR186_0 := aA.mk hi186_0
       have HC186_0 := aA.mk hl186_0
       clear hi186_0 hl186_0
       replace p186 := eq_true p186
       replace q186 := eq_true q186
       go_wp2_with (first | ((with_reducible refine bD (f := 61) rfl ?_); refine bL (some 16) rfl rfl Try.func61 (by kernel_rfl) rfl #[.slice A186_0 (rd_L4 l0_0 x3_1).length c186_0] rfl (by (try simp only [List.map_toArray, List.map_cons, List.map_nil]); first | done | rfl) ?_; (with_reducible refine (spec_SetOk.calls k1 _ _ (rd_L4 l0_0 x3_1) true _ ?side1 ?side2 A5.out).mono ?_); (case side1 => exact (Kd.bN HR186_0.out HB.out)); (case side2 => exact HC186_0.out); rintro e w12 ⟨rfl, hb⟩; refine ⟨_, rfl, ?_⟩; replace BK185 := aA.mk (aG (g := gb185) (o := .cells #[.slice (some ad186) l0_0.length c0_0] 32 (0, 0)) BK185.out hb); replace HB := aA.mk (aT HB.out hb); (try clear hb); have hcz13_0 := cs1 BK185.out; have hfz13_0 := fs1 BK185.out; have p188 : 0 ≤ (x3_1 : Int) := lE (by assumption); have q188 : x3_1 < (l0_0.length : Int) := lE (by assumption); obtain ⟨ad188, A188_0, c188_0, e188, hx188_0, hl188_0, hi188_0⟩ := at_L4 HR0_0.out x3_1 p188 q188; obtain rfl : ad186 = ad188 := (by injection e188); replace hx188_0 := (HB.out.cell (lD w _ hx188_0)).trans hx188_0; have HR188_0 := aA.mk hi188_0; have HC188_0 := aA.mk hl188_0; clear hi188_0 hl188_0; replace p188 := eq_true p188; replace q188 := eq_true q188))
       go_roundg k1
       case measure => have := HK1.out; omega
       case rel => exact ⟨(wrap64 (x3_1 + 1)), (by first | rfl | (simp; done) | (simp [*]; done)), H', ⟨by have := HK1.out; omega⟩, ⟨by (with_reducible repeat (first | refine aM ?_ _ | refine aJ ?_ | refine aK ?_ _)); exact BK185.out⟩, ⟨by repeat (first | (with_reducible first | exact HB.out | apply aN | apply aE | apply aH | refine aC ?_ GE185.out) | exact HB.out)⟩⟩
     ·replace c6 := Bool.eq_false_iff.mpr c6
      subst c6
      have H1 : (some false) = some r := by rw [if_neg (show ¬ (false = true) by decide)] at H; exact H
      clear H
      have H := H1
      clear H1
      obtain rfl := Option.some.inj H
      have hcz14_0 := cs1 BK185.out
      have hfz14_0 := fs1 BK185.out
      have p186 : 0 ≤ (x3_1 : Int) := lE (by assumption)
      have q186 : x3_1 < (l0_0.length : Int) := lE (by assumption)
      obtain ⟨ad186, A186_0, c186_0, e186, hx186_0, hl186_0, hi186_0⟩ := at_L4 HR0_0.out x3_1 p186 q186
      cases e186
      replace hx186_0 := (HB.out.cell (lD w _ hx186_0)).trans hx186_0
      have HR186_0 := aA.mk hi186_0
      have HC186_0 := aA.mk hl186_0
      clear hi186_0 hl186_0
      replace p186 := eq_true p186
      replace q186 := eq_true q186
      go_wp2_with (first | ((with_reducible refine bD (f := 61) rfl ?_); refine bL (some 16) rfl rfl Try.func61 (by kernel_rfl) rfl #[.slice A186_0 (rd_L4 l0_0 x3_1).length c186_0] rfl (by (try simp only [List.map_toArray, List.map_cons, List.map_nil]); first | done | rfl) ?_; (with_reducible refine (spec_SetOk.calls k1 _ _ (rd_L4 l0_0 x3_1) false _ ?side1 ?side2 A5.out).mono ?_); (case side1 => exact (Kd.bN HR186_0.out HB.out)); (case side2 => exact HC186_0.out); rintro e w15 ⟨rfl, hb⟩; refine ⟨_, rfl, ?_⟩; replace BK185 := aA.mk (aG (g := gb185) (o := .cells #[.slice (some ad186) l0_0.length c0_0] 32 (0, 0)) BK185.out hb); replace HB := aA.mk (aT HB.out hb); (try clear hb)))
      go_ret
      exact ⟨by first | rfl | (simp [errW_none, errW_some] <;> rfl) | (simp [*, errW_none, errW_some] <;> rfl), by repeat (first | (with_reducible first | exact HB.out | apply aN | apply aE | apply aH | refine aC ?_ GE185.out) | exact HB.out)⟩
    ·rw [if_neg c4] at H
     exact absurd H (by simp)
   ·rw [if_neg c3] at H
    have c3b0 : decide (x3_1 < (l0_0.length : Int)) = false := decide_eq_false c3
    clear c3
    by_cases c16 : (l0_0.length : Int) ≤ 3
    ·rw [if_pos c16] at H
     have c16b0 : decide ((l0_0.length : Int) ≤ 3) = true := decide_eq_true c16
     have c16b1 : decide (l0_0.length ≤ 3) = true := decide_eq_true (by omega)
     clear c16
     replace H := lF H
     obtain ⟨t189, A170, H⟩ := H
     replace H : (some (decide (t189 ≤ 8))) = some r := H
     have A17 := aA.mk A170
     clear A170
     obtain rfl := Option.some.inj H
     have hcz18_0 := cs1 BK185.out
     have hfz18_0 := fs1 BK185.out
     go_wp2_with (first | (go_at_call 62; (with_reducible refine (spec_l5Count.calls k1 _ _ l0_0 t189 _ ?side1 ?side2 A17.out).mono ?_); (case side1 => exact (Kd.bN HR0_0.out HB.out)); (case side2 => exact HC0_0.out); rintro e w19 ⟨rfl, hb⟩; have n0_ := aA.mk (aG (g := gb185) (o := .cells #[.slice A0_0 l0_0.length c0_0] 32 (0, 0)) BK185.out hb); have n1_ := aA.mk (aT HB.out hb); clear BK185; clear HB; have BK185 := n0_; have HB := n1_; clear n0_ n1_; (try clear hb)))
     go_ret
     exact ⟨by first | rfl | (simp [errW_none, errW_some] <;> rfl) | (simp [*, errW_none, errW_some] <;> rfl), by repeat (first | (with_reducible first | exact HB.out | apply aN | apply aE | apply aH | refine aC ?_ GE185.out) | exact HB.out)⟩
    ·rw [if_neg c16] at H
     have c16b0 : decide ((l0_0.length : Int) ≤ 3) = false := decide_eq_false c16
     have c16b1 : decide (l0_0.length ≤ 3) = false := decide_eq_false (by omega)
     clear c16
     obtain rfl := Option.some.inj H
     have hcz20_0 := cs1 BK185.out
     have hfz20_0 := fs1 BK185.out
     go_wp2
     go_ret
     exact ⟨by first | rfl | (simp [errW_none, errW_some] <;> rfl) | (simp [*, errW_none, errW_some] <;> rfl), by repeat (first | (with_reducible first | exact HB.out | apply aN | apply aE | apply aH | refine aC ?_ GE185.out) | exact HB.out)⟩
def spec_SameSpot.f (a0_0 : Int) (a0_1 : Int) (a0_2 : Int) (a0_3 : Int) (a0_4 : Int) (a1_0 : Int) (a1_1 : Int) (a1_2 : Int) (a1_3 : Int) (a1_4 : Int) : Option (Bool) := if a0_0 = a1_0 then (some (a0_1 == a1_1)) else (some false)
set_option maxHeartbeats 8000000 in
set_option maxRecDepth 100000 in
theorem spec_SameSpot.calls (a0_0 : Int) (a0_1 : Int) (a0_2 : Int) (a0_3 : Int) (a0_4 : Int) (a1_0 : Int) (a1_1 : Int) (a1_2 : Int) (a1_3 : Int) (a1_4 : Int) (r : Bool) (w : World) (h : spec_SameSpot.f a0_0 a0_1 a0_2 a0_3 a0_4 a1_0 a1_1 a1_2 a1_3 a1_4 = some r) :
  Calls Try.prog 94 #[.agg #[.int .i64 a0_0, .int .i64 a0_1, .int .i64 a0_2, .int .i64 a0_3, .int .i64 a0_4], .agg #[.int .i64 a1_0, .int .i64 a1_1, .int .i64 a1_2, .int .i64 a1_3, .int .i64 a1_4]] w fun e w' => e = .returned (.bool r) ∧ Below w.heap.size w w' := by
 have hu27 := Try.underlying27
 have HB := aA.mk (Below.refl w.heap.size w)
 have H : (if a0_0 = a1_0 then (some (a0_1 == a1_1)) else (some false)) = some r := h
 clear h
 by_cases c3 : a0_0 = a1_0
 ·rw [if_pos c3] at H
  have c3b0 : (a0_0 == a1_0) = true := beq_iff_eq.mpr c3
  have c3b1 : (a0_0 != a1_0) = false := bne_eq_false_iff_eq.mpr c3
  clear c3
  obtain rfl := Option.some.inj H
  go_enter Try.func94, Try.ntmps94
  go_wp2_with (first | ((with_reducible refine bA (N := 2) rfl ?_); refine bC ?hg (N := 2) ?hd (cs := #[.int .i64 a0_0, .int .i64 a0_1, .int .i64 a0_2, .int .i64 a0_3, .int .i64 a0_4]) (t := 27) ?hr ?_; (case hd => rfl); (case hg => rfl); (case hr => first | (go_simp; done) | (go_simp; rfl)); intro gb190 hg w4 hbox hb; have BK190 := aA.mk (hbox); have GW190 := aA.mk ((by rw [hg]; exact (aQ HB.out) : w.heap.size ≤ gb190)); have GE190 := aA.mk ((by rw [hg]; exact (aQ HB.out) : w.heap.size ≤ gb190)); replace HB := aA.mk (aT HB.out hb); clear hb hbox hg) | ((with_reducible refine bA (N := 3) rfl ?_); refine bC ?hg (N := 3) ?hd (cs := #[.int .i64 a1_0, .int .i64 a1_1, .int .i64 a1_2, .int .i64 a1_3, .int .i64 a1_4]) (t := 27) ?hr ?_; (case hd => rfl); (case hg => rfl); (case hr => first | (go_simp; done) | (go_simp; rfl)); intro gb191 hg w5 hbox hb; have BK191 := aA.mk (hbox); have GW191 := aA.mk ((by rw [hg]; exact (aQ HB.out) : w.heap.size ≤ gb191)); have GE191 := aA.mk ((by rw [hg]; exact (aQ HB.out) : w.heap.size ≤ gb191)); replace HB := aA.mk (aT HB.out hb); have NB190_191 := aA.mk ((by rw [hg]; exact Nat.ne_of_lt (aY (g := gb190) (o := .cells #[.int .i64 a0_0, .int .i64 a0_1, .int .i64 a0_2, .int .i64 a0_3, .int .i64 a0_4] 27 (0, 0)) BK190.out) : gb190 ≠ gb191)); have NB191_190 := aA.mk ((by rw [hg]; exact Nat.ne_of_gt (aY (g := gb190) (o := .cells #[.int .i64 a0_0, .int .i64 a0_1, .int .i64 a0_2, .int .i64 a0_3, .int .i64 a0_4] 27 (0, 0)) BK190.out) : gb191 ≠ gb190)); replace BK190 := aA.mk (aG (g := gb190) (o := .cells #[.int .i64 a0_0, .int .i64 a0_1, .int .i64 a0_2, .int .i64 a0_3, .int .i64 a0_4] 27 (0, 0)) BK190.out hb); clear hb hbox hg; have hnb6 := NB190_191.out; have hnc6 := NB191_190.out; obtain ⟨hcz7_0, hcz7_1, hcz7_2, hcz7_3, hcz7_4⟩ := cs5 BK190.out; obtain ⟨hfz7_0, hfz7_1, hfz7_2, hfz7_3, hfz7_4⟩ := fs5 BK190.out; obtain ⟨hcz8_0, hcz8_1, hcz8_2, hcz8_3, hcz8_4⟩ := cs5 BK191.out; obtain ⟨hfz8_0, hfz8_1, hfz8_2, hfz8_3, hfz8_4⟩ := fs5 BK191.out))
  go_ret
  exact ⟨by first | rfl | (simp [errW_none, errW_some] <;> rfl) | (simp [*, errW_none, errW_some] <;> rfl), by repeat (first | (with_reducible first | exact HB.out | apply aN | apply aE | apply aH | refine aC ?_ GE190.out | refine aC ?_ GE191.out) | exact HB.out)⟩
 ·rw [if_neg c3] at H
  have c3b0 : (a0_0 == a1_0) = false := beq_eq_false_iff_ne.mpr c3
  have c3b1 : (a0_0 != a1_0) = true := bne_iff_ne.mpr c3
  obtain rfl := Option.some.inj H
  go_enter Try.func94, Try.ntmps94
  go_wp2_with (first | ((with_reducible refine bA (N := 2) rfl ?_); refine bC ?hg (N := 2) ?hd (cs := #[.int .i64 a0_0, .int .i64 a0_1, .int .i64 a0_2, .int .i64 a0_3, .int .i64 a0_4]) (t := 27) ?hr ?_; (case hd => rfl); (case hg => rfl); (case hr => first | (go_simp; done) | (go_simp; rfl)); intro gb190 hg w9 hbox hb; have BK190 := aA.mk (hbox); have GW190 := aA.mk ((by rw [hg]; exact (aQ HB.out) : w.heap.size ≤ gb190)); have GE190 := aA.mk ((by rw [hg]; exact (aQ HB.out) : w.heap.size ≤ gb190)); replace HB := aA.mk (aT HB.out hb); clear hb hbox hg) | ((with_reducible refine bA (N := 3) rfl ?_); refine bC ?hg (N := 3) ?hd (cs := #[.int .i64 a1_0, .int .i64 a1_1, .int .i64 a1_2, .int .i64 a1_3, .int .i64 a1_4]) (t := 27) ?hr ?_; (case hd => rfl); (case hg => rfl); (case hr => first | (go_simp; done) | (go_simp; rfl)); intro gb191 hg w10 hbox hb; have BK191 := aA.mk (hbox); have GW191 := aA.mk ((by rw [hg]; exact (aQ HB.out) : w.heap.size ≤ gb191)); have GE191 := aA.mk ((by rw [hg]; exact (aQ HB.out) : w.heap.size ≤ gb191)); replace HB := aA.mk (aT HB.out hb); have NB190_191 := aA.mk ((by rw [hg]; exact Nat.ne_of_lt (aY (g := gb190) (o := .cells #[.int .i64 a0_0, .int .i64 a0_1, .int .i64 a0_2, .int .i64 a0_3, .int .i64 a0_4] 27 (0, 0)) BK190.out) : gb190 ≠ gb191)); have NB191_190 := aA.mk ((by rw [hg]; exact Nat.ne_of_gt (aY (g := gb190) (o := .cells #[.int .i64 a0_0, .int .i64 a0_1, .int .i64 a0_2, .int .i64 a0_3, .int .i64 a0_4] 27 (0, 0)) BK190.out) : gb191 ≠ gb190)); replace BK190 := aA.mk (aG (g := gb190) (o := .cells #[.int .i64 a0_0, .int .i64 a0_1, .int .i64 a0_2, .int .i64 a0_3, .int .i64 a0_4] 27 (0, 0)) BK190.out hb); clear hb hbox hg; have hnb11 := NB190_191.out; have hnc11 := NB191_190.out; obtain ⟨hcz12_0, hcz12_1, hcz12_2, hcz12_3, hcz12_4⟩ := cs5 BK190.out; obtain ⟨hfz12_0, hfz12_1, hfz12_2, hfz12_3, hfz12_4⟩ := fs5 BK190.out; obtain ⟨hcz13_0, hcz13_1, hcz13_2, hcz13_3, hcz13_4⟩ := cs5 BK191.out; obtain ⟨hfz13_0, hfz13_1, hfz13_2, hfz13_3, hfz13_4⟩ := fs5 BK191.out))
  go_ret
  exact ⟨by first | rfl | (simp [errW_none, errW_some] <;> rfl) | (simp [*, errW_none, errW_some] <;> rfl), by repeat (first | (with_reducible first | exact HB.out | apply aN | apply aE | apply aH | refine aC ?_ GE190.out | refine aC ?_ GE191.out) | exact HB.out)⟩
end Go.Proofs.Ythpfihklkcnckaa.PFnExactNodePut

namespace Go.Proofs.Ythpfihklkcnckaa.PFnExactNodePut
open Go.RowKit Go.Proofs.YthpfihklkcnckaaW.PrintWords Go.Proofs.YthpfihklkcnckaaW.PrintLast Go.Proofs.YthpfihklkcnckaaW.PrintMore
attribute [local go_sem] max2_int min2_int max_two min_two max_three min_three max_four min_four   -- for this text's walks alone
set_option linter.unusedVariables false
set_option linter.unusedSimpArgs false
mutual
def spec_SetPut.l0 : Nat → List (S27) → List (S27) → Bool → Int → Int → Int → Int → Int → Int → Option ((List (S27)))
 | 0, _, _, _, _, _, _, _, _, _ => none
 | k + 1, x0, x5, x6, x7, x193000, x193001, x193002, x193003, x193004 => if x7 < (x0.length : Int) then (if x6 = true then (spec_SetPut.j1 k x0 x5 x6 x7 false x193000 x193001 x193002 x193003 x193004) else (if 0 ≤ x7 then ((spec_LessKey.f ((rd_T27 x0 x7).f0) ((rd_T27 x0 x7).f1) ((rd_T27 x0 x7).f2) ((rd_T27 x0 x7).f3) ((rd_T27 x0 x7).f4) x193000 x193001 x193002 x193003 x193004).bind fun t200 => (spec_SetPut.j1 k x0 x5 x6 x7 (!t200) x193000 x193001 x193002 x193003 x193004)) else (none))) else (if x6 = true then (some x5) else (if x5.length < 3518437208883 then (some (x5 ++ [(⟨x193000, x193001, x193002, x193003, x193004⟩ : S27)])) else (none)))
def spec_SetPut.j1 : Nat → List (S27) → List (S27) → Bool → Int → Bool → Int → Int → Int → Int → Int → Option ((List (S27)))
 | 0, _, _, _, _, _, _, _, _, _, _ => none
 | k + 1, x0, x5, x6, x7, x25, x193000, x193001, x193002, x193003, x193004 => if x25 = true then (if x5.length < 3518437208883 then ((some (x5 ++ [(⟨x193000, x193001, x193002, x193003, x193004⟩ : S27)] : List (S27))).bind fun y201 => (if 0 ≤ x7 then (if x7 < (x0.length : Int) then ((spec_SameSpot.f ((rd_T27 x0 x7).f0) ((rd_T27 x0 x7).f1) ((rd_T27 x0 x7).f2) ((rd_T27 x0 x7).f3) ((rd_T27 x0 x7).f4) x193000 x193001 x193002 x193003 x193004).bind fun t205 => (if t205 = true then (spec_SetPut.l0 k x0 y201 true (wrap64 (x7 + 1)) x193000 x193001 x193002 x193003 x193004) else (if y201.length < 3518437208883 then (spec_SetPut.l0 k x0 (y201 ++ [(⟨(rd_T27 x0 x7).f0, (rd_T27 x0 x7).f1, (rd_T27 x0 x7).f2, (rd_T27 x0 x7).f3, (rd_T27 x0 x7).f4⟩ : S27)]) true (wrap64 (x7 + 1)) x193000 x193001 x193002 x193003 x193004) else (none)))) else (none)) else (none))) else (none)) else (if 0 ≤ x7 then (if x7 < (x0.length : Int) then ((spec_SameSpot.f ((rd_T27 x0 x7).f0) ((rd_T27 x0 x7).f1) ((rd_T27 x0 x7).f2) ((rd_T27 x0 x7).f3) ((rd_T27 x0 x7).f4) x193000 x193001 x193002 x193003 x193004).bind fun t211 => (if t211 = true then (spec_SetPut.l0 k x0 x5 x6 (wrap64 (x7 + 1)) x193000 x193001 x193002 x193003 x193004) else (if x5.length < 3518437208883 then (spec_SetPut.l0 k x0 (x5 ++ [(⟨(rd_T27 x0 x7).f0, (rd_T27 x0 x7).f1, (rd_T27 x0 x7).f2, (rd_T27 x0 x7).f3, (rd_T27 x0 x7).f4⟩ : S27)]) x6 (wrap64 (x7 + 1)) x193000 x193001 x193002 x193003 x193004) else (none)))) else (none)) else (none))
end
def spec_SetPut.f (k : Nat) (l0 : List (S27)) (a1_0 : Int) (a1_1 : Int) (a1_2 : Int) (a1_3 : Int) (a1_4 : Int) : Option ((List (S27))) := spec_SetPut.l0 k l0 (([] : List (S27))) false 0 a1_0 a1_1 a1_2 a1_3 a1_4
def spec_SetPut.T6 : Bool × List (List Nat × List Nat) := (true, [([], []), ([0], [0]), ([1], [1]), ([2], [2]), ([2], [2]), ([3, 4, 2], [2, 3, 4]), ([5, 2], [2, 5]), ([2], [2]), ([6, 7, 2, 2], [2, 6, 7]), ([8, 2], [2, 8]), ([2, 9], [2, 9])])
def spec_SetPut.B6 : List Nat := [0, 1, 3, 7, 7, 31, 63, 7, 255, 511, 1023]
theorem spec_SetPut.tab6 : rtab .any (opsOf Try.f69 6) = spec_SetPut.T6 := by kernel_rfl
theorem spec_SetPut.bits6 : waitsOk spec_SetPut.T6.2 spec_SetPut.B6 = true := by kernel_rfl
set_option maxHeartbeats 8000000 in
set_option maxRecDepth 100000 in
theorem spec_SetPut.calls (k : Nat) (A0 : Option Addr) (c0 : Nat) (l0 : List (S27)) (a1_0 : Int) (a1_1 : Int) (a1_2 : Int) (a1_3 : Int) (a1_4 : Int) (r : List (S27)) (w : World) (hr0 : Kd.C k27 w A0 l0.length l0) (hc0 : l0.length ≤ c0) (h : spec_SetPut.f k l0 a1_0 a1_1 a1_2 a1_3 a1_4 = some r) :
  Calls Try.prog 69 #[.slice A0 l0.length c0, .agg #[.int .i64 a1_0, .int .i64 a1_1, .int .i64 a1_2, .int .i64 a1_3, .int .i64 a1_4]] w fun e w' => ∃ v0_ : Value, e = .returned (v0_) ∧ Kd.R k27 27 w' w.heap.size (fun _ => True) v0_ r ∧ Below w.heap.size w w' := by
 have hu27 := Try.underlying27
 have HR0 := aA.mk hr0
 have HC0 := aA.mk hc0
 clear hr0 hc0
 have HB := aA.mk (Below.refl w.heap.size w)
 have H : (spec_SetPut.l0 k l0 (([] : List (S27))) false 0 a1_0 a1_1 a1_2 a1_3 a1_4) = some r := h
 clear h
 obtain ⟨y193, hy193⟩ : ∃ y_ : List (S27), y_ = (([] : List (S27))) := ⟨_, rfl⟩
 replace H : (spec_SetPut.l0 k l0 y193 false 0 a1_0 a1_1 a1_2 a1_3 a1_4) = some r := by first | (rw [hy193]; with_reducible exact H) | (have H2_ := (Option.bind_some _ _).symm.trans H; rw [hy193]; with_reducible exact H2_) | (have H2_ := (Option.bind_some _ _).symm.trans H; with_reducible exact H2_) | with_reducible exact H | (rw [hy193]; exact H) | exact H
 have Ny193 := aA.mk hy193
 clear hy193
 have H' := aA.mk H
 clear H
 go_enter Try.func69, Try.ntmps69
 go_wp2_with (first | ((with_reducible refine bA (N := 3) rfl ?_); refine bC ?hg (N := 3) ?hd (cs := #[.int .i64 a1_0, .int .i64 a1_1, .int .i64 a1_2, .int .i64 a1_3, .int .i64 a1_4]) (t := 27) ?hr ?_; (case hd => rfl); (case hg => rfl); (case hr => first | (go_simp; done) | (go_simp; rfl)); intro gb192 hg w3 hbox hb; have BK192 := aA.mk (hbox); have GW192 := aA.mk ((by rw [hg]; exact (aQ HB.out) : w.heap.size ≤ gb192)); have GE192 := aA.mk ((by rw [hg]; exact (aQ HB.out) : w.heap.size ≤ gb192)); replace HB := aA.mk (aT HB.out hb); clear hb hbox hg) | ((with_reducible refine bA (N := 8) rfl ?_); refine Kd.R_lit k27 _ 27 ?hg (N := 8) ?hd (xs := ([] : List (S27))) (inner := []) (ok := fun _ => True) (okp := fun _ => True) ?hr ?hp (fun _ hk => hk) trivial (Below.refl _ _) (Nat.le_refl _) (by simp) ?_; (case hd => rfl); (case hg => rfl); (case hr => first | (go_simp; done) | (go_simp; rfl)); (case hp => exact (Reps.none _ _)); intro v194 w4 ho5 hb hg_ hnew_; clear hg_ hnew_; (first | rw [← Ny193.out] at ho5 | (simp only [Int.reduceToNat] at ho5; rw [← Ny193.out] at ho5)); have HO195 := aA.mk (Kd.R_lower (Kd.R_newB ho5 (g := gb192) (o := .cells #[.int .i64 a1_0, .int .i64 a1_1, .int .i64 a1_2, .int .i64 a1_3, .int .i64 a1_4] 27 (0, 0)) BK192.out) (aQ HB.out)); replace BK192 := aA.mk (aG (g := gb192) (o := .cells #[.int .i64 a1_0, .int .i64 a1_1, .int .i64 a1_2, .int .i64 a1_3, .int .i64 a1_4] 27 (0, 0)) BK192.out hb); replace HB := aA.mk (aT HB.out hb); clear hb ho5))
 go_loopg [5, 6, 7] k (fun kq v5 v6 v7 w' => ∃ (x5_1 : List (S27)) (x6_1 : Bool) (x7_1 : Int), v6 = .bool x6_1 ∧ v7 = .int .i64 x7_1 ∧ aA (spec_SetPut.l0 kq l0 x5_1 x6_1 x7_1 a1_0 a1_1 a1_2 a1_3 a1_4 = some r) ∧ aA (kq ≤ k) ∧ aA (Kd.R k27 27 w' w.heap.size (fun k_ => k_ ≠ gb192) v5 x5_1) ∧ aA (w'.heap[gb192]? = some (.cells #[.int .i64 a1_0, .int .i64 a1_1, .int .i64 a1_2, .int .i64 a1_3, .int .i64 a1_4] 27 (0, 0))) ∧ aA (Below w.heap.size w w'))
 case atStart => exact ⟨(y193), (false), (0), (by first | rfl | (simp; done) | (simp [*]; done)), (by first | rfl | (simp; done) | (simp [*]; done)), H', ⟨Nat.le_refl _⟩, ⟨by (with_reducible repeat (first | apply Kd.bQ | apply Kd.bR | apply Kd.bU)); exact Kd.bK HO195.out (fun _ hk => hk.2)⟩, ⟨by (with_reducible repeat (first | refine aM ?_ _ | refine aJ ?_ | refine aK ?_ _)); exact BK192.out⟩, ⟨by repeat (first | (with_reducible first | exact HB.out | apply aN | apply aE | apply aH | refine aC ?_ GE192.out) | exact HB.out)⟩⟩
 case round =>
  clear H'
  try clear p2
  obtain ⟨x5_1, x6_1, x7_1, rfl, rfl, HA, HK1, HO_5, BK192, HB⟩ := hrel
  cases gk with
  | zero => exact absurd HA.out (by simp [spec_SetPut.l0])
  | succ k1 =>
   have H := HA.out
   clear HA
   simp only [spec_SetPut.l0] at H
   by_cases c6 : x7_1 < (l0.length : Int)
   ·rw [if_pos c6] at H
    have c6b0 : decide (x7_1 < (l0.length : Int)) = true := decide_eq_true c6
    clear c6
    have HC7 := aA.mk H
    clear H
    go_upto_region 6 with (fail)
    go_cut [25] (fun v25 wc => ∃ (kq : Nat) (x25_6 : Bool), v25 = .bool x25_6 ∧ aA (spec_SetPut.j1 kq l0 x5_1 x6_1 x7_1 x25_6 a1_0 a1_1 a1_2 a1_3 a1_4 = some r) ∧ aA (kq ≤ k1) ∧ aA (Kd.R k27 27 wc w.heap.size (fun k_ => k_ ≠ gb192) u5 x5_1) ∧ aA (wc.heap[gb192]? = some (.cells #[.int .i64 a1_0, .int .i64 a1_1, .int .i64 a1_2, .int .i64 a1_3, .int .i64 a1_4] 27 (0, 0))) ∧ aA (Below w.heap.size w wc))
    case first =>
     have H := HC7.out
     clear HC7
     by_cases c8 : x6_1 = true
     ·subst c8
      have H1 : (spec_SetPut.j1 k1 l0 x5_1 true x7_1 false a1_0 a1_1 a1_2 a1_3 a1_4) = some r := by rw [if_pos rfl] at H; exact H
      clear H
      have H := H1
      clear H1
      have H' := aA.mk H
      clear H
      try go_wp2
      replace HO_5 := aA.mk (Kd.bU HO_5.out)
      replace BK192 := aA.mk (aJ BK192.out)
      replace HB := aA.mk (aH HB.out)
      refine start_ (n := 11) (S := fun w' => True) (ds := []) #[false, false, false, false, false, false, false, false, false, false, false] (by kernel_rfl) rfl rfl trivial (fun hHeld => ?_); refine with_tabW spec_SetPut.tab6 spec_SetPut.bits6 (fun HT_ HW_ => ?_)
      generalize wr.drew = w9 at HO_5 BK192 HB hHeld ⊢
      refine aW (i := 0) (N := some 15) (v := ?_) (a' := ?_) #[true, false, false, false, false, false, false, false, false, false, false] rfl rfl (aZ HT_.out (by kernel_rfl)) (fun _ _ _ h => h) (Or.inl ⟨by rfl, ?_⟩) ?_ ?_
      rotate_left
      ·intro w'
       go_simp
       with_reducible rfl
      rotate_left
      ·simp only [Act.put, lA, lB, lC, aU, aV]
       rfl
      refine aW (i := 1) (N := some 16) (v := ?_) (a' := ?_) #[true, true, false, false, false, false, false, false, false, false, false] rfl rfl (aZ HT_.out (by kernel_rfl)) (fun _ _ _ h => h) (Or.inl ⟨by rfl, ?_⟩) ?_ ?_
      rotate_left
      ·intro w'
       go_simp
       with_reducible rfl
      rotate_left
      ·simp only [Act.put, lA, lB, lC, aU, aV]
       rfl
      refine aW (i := 2) (N := some 17) (v := ?_) (a' := ?_) #[true, true, true, false, false, false, false, false, false, false, false] rfl rfl (aZ HT_.out (by kernel_rfl)) (fun _ _ _ h => h) (Or.inl ⟨by rfl, ?_⟩) ?_ ?_
      rotate_left
      ·intro w'
       go_simp
       with_reducible rfl
      rotate_left
      ·simp only [Act.put, lA, lB, lC, aU, aV]
       rfl
      refine aW (i := 3) (N := some 18) (v := undef) (a' := ?_) #[true, true, true, true, false, false, false, false, false, false, false] rfl rfl (aZ HT_.out (by kernel_rfl)) (fun _ _ _ h => h) (Or.inr ⟨by rfl, rfl⟩) ?_ ?_
      rotate_left
      ·simp only [Act.put, lA, lB, lC, aU, aV]
       rfl
      refine aW (i := 4) (N := some 19) (v := undef) (a' := ?_) #[true, true, true, true, true, false, false, false, false, false, false] rfl rfl (aZ HT_.out (by kernel_rfl)) (fun _ _ _ h => h) (Or.inr ⟨by rfl, rfl⟩) ?_ ?_
      rotate_left
      ·simp only [Act.put, lA, lB, lC, aU, aV]
       rfl
      refine aW (i := 5) (N := some 20) (v := undef) (a' := ?_) #[true, true, true, true, true, true, false, false, false, false, false] rfl rfl (aZ HT_.out (by kernel_rfl)) (fun _ _ _ h => h) (Or.inr ⟨by rfl, rfl⟩) ?_ ?_
      rotate_left
      ·simp only [Act.put, lA, lB, lC, aU, aV]
       rfl
      refine aW (i := 6) (N := some 21) (v := undef) (a' := ?_) #[true, true, true, true, true, true, true, false, false, false, false] rfl rfl (aZ HT_.out (by kernel_rfl)) (fun _ _ _ h => h) (Or.inr ⟨by rfl, rfl⟩) ?_ ?_
      rotate_left
      ·simp only [Act.put, lA, lB, lC, aU, aV]
       rfl
      refine aW (i := 7) (N := some 22) (v := undef) (a' := ?_) #[true, true, true, true, true, true, true, true, false, false, false] rfl rfl (aZ HT_.out (by kernel_rfl)) (fun _ _ _ h => h) (Or.inr ⟨by rfl, rfl⟩) ?_ ?_
      rotate_left
      ·simp only [Act.put, lA, lB, lC, aU, aV]
       rfl
      refine aW (i := 8) (N := some 23) (v := undef) (a' := ?_) #[true, true, true, true, true, true, true, true, true, false, false] rfl rfl (aZ HT_.out (by kernel_rfl)) (fun _ _ _ h => h) (Or.inr ⟨by rfl, rfl⟩) ?_ ?_
      rotate_left
      ·simp only [Act.put, lA, lB, lC, aU, aV]
       rfl
      refine aW (i := 9) (N := some 24) (v := undef) (a' := ?_) #[true, true, true, true, true, true, true, true, true, true, false] rfl rfl (aZ HT_.out (by kernel_rfl)) (fun _ _ _ h => h) (Or.inr ⟨by rfl, rfl⟩) ?_ ?_
      rotate_left
      ·simp only [Act.put, lA, lB, lC, aU, aV]
       rfl
      refine aW (i := 10) (N := some 25) (v := ?_) (a' := ?_) #[true, true, true, true, true, true, true, true, true, true, true] rfl rfl (aZ HT_.out (by kernel_rfl)) (fun _ _ _ h => h) (Or.inl ⟨by rfl, ?_⟩) ?_ ?_
      rotate_left
      ·intro w'
       go_simp
       with_reducible rfl
      rotate_left
      ·simp only [Act.put, lA, lB, lC, aU, aV]
       rfl
      refine done_ (done_of HT_.out (by kernel_rfl)) ?_
      try go_wp2
      go_meet
      case rel => exact ⟨_, (false), (by first | rfl | (simp; done) | (simp [*]; done)), H', ⟨by have := HK1.out; first | omega | exact Nat.le_refl _⟩, ⟨by (with_reducible repeat (first | apply Kd.bQ | apply Kd.bR | apply Kd.bU)); exact HO_5.out⟩, ⟨by (with_reducible repeat (first | refine aM ?_ _ | refine aJ ?_ | refine aK ?_ _)); exact BK192.out⟩, ⟨by repeat (first | (with_reducible first | exact HB.out | apply aN | apply aE | apply aH | refine aC ?_ GE192.out) | exact HB.out)⟩⟩
     ·replace c8 := Bool.eq_false_iff.mpr c8
      subst c8
      have H1 : (if 0 ≤ x7_1 then ((spec_LessKey.f ((rd_T27 l0 x7_1).f0) ((rd_T27 l0 x7_1).f1) ((rd_T27 l0 x7_1).f2) ((rd_T27 l0 x7_1).f3) ((rd_T27 l0 x7_1).f4) a1_0 a1_1 a1_2 a1_3 a1_4).bind fun t200 => (spec_SetPut.j1 k1 l0 x5_1 false x7_1 (!t200) a1_0 a1_1 a1_2 a1_3 a1_4)) else (none)) = some r := by rw [if_neg (show ¬ (false = true) by decide)] at H; exact H
      clear H
      have H := H1
      clear H1
      by_cases c10 : 0 ≤ x7_1
      ·rw [if_pos c10] at H
       have c10b0 : decide (0 ≤ x7_1) = true := decide_eq_true c10
       clear c10
       (first | rw [c10b0] | (simp only [aU, aV]; rw [c10b0]) | skip)
       replace H := lF H
       obtain ⟨t200, A110, H⟩ := H
       replace H : (spec_SetPut.j1 k1 l0 x5_1 false x7_1 (!t200) a1_0 a1_1 a1_2 a1_3 a1_4) = some r := H
       have A11 := aA.mk A110
       clear A110
       have H' := aA.mk H
       clear H
       try go_wp2
       replace HO_5 := aA.mk (Kd.bU HO_5.out)
       replace BK192 := aA.mk (aJ BK192.out)
       replace HB := aA.mk (aH HB.out)
       have p199 : 0 ≤ (x7_1 : Int) := lE (by assumption)
       have q199 : x7_1 < (l0.length : Int) := lE (by assumption)
       obtain ⟨ad199, e199, hx199_0, hx199_1, hx199_2, hx199_3, hx199_4⟩ := at_T27 HR0.out x7_1 p199 q199
       have hw199_4 := hx199_4
       have hw199_3 := hx199_3
       have hw199_2 := hx199_2
       have hw199_1 := hx199_1
       have hw199_0 := hx199_0
       cases e199
       replace hx199_0 := (HB.out.cell (lD w _ hx199_0)).trans hx199_0
       replace hx199_1 := (HB.out.cell (lD w _ hx199_1)).trans hx199_1
       replace hx199_2 := (HB.out.cell (lD w _ hx199_2)).trans hx199_2
       replace hx199_3 := (HB.out.cell (lD w _ hx199_3)).trans hx199_3
       replace hx199_4 := (HB.out.cell (lD w _ hx199_4)).trans hx199_4
       replace p199 := eq_true p199
       replace q199 := eq_true q199
       refine start_ (n := 11) (S := fun w' => w'.cell? ⟨gb192, 0, none⟩ = some (.int .i64 a1_0) ∧ w'.cell? ⟨gb192, 1, none⟩ = some (.int .i64 a1_1) ∧ w'.cell? ⟨gb192, 2, none⟩ = some (.int .i64 a1_2) ∧ w'.cell? ⟨gb192, 3, none⟩ = some (.int .i64 a1_3) ∧ w'.cell? ⟨gb192, 4, none⟩ = some (.int .i64 a1_4) ∧ w'.cell? (ad199.add ((x7_1).toNat * 5)) = some (.int .i64 ((rd_T27 l0 x7_1).f0)) ∧ w'.cell? ⟨(ad199.add ((x7_1).toNat * 5)).block, (ad199.add ((x7_1).toNat * 5)).off + 1, none⟩ = some (.int .i64 ((rd_T27 l0 x7_1).f1)) ∧ w'.cell? ⟨(ad199.add ((x7_1).toNat * 5)).block, (ad199.add ((x7_1).toNat * 5)).off + 2, none⟩ = some (.int .i64 ((rd_T27 l0 x7_1).f2)) ∧ w'.cell? ⟨(ad199.add ((x7_1).toNat * 5)).block, (ad199.add ((x7_1).toNat * 5)).off + 3, none⟩ = some (.int .i64 ((rd_T27 l0 x7_1).f3)) ∧ w'.cell? ⟨(ad199.add ((x7_1).toNat * 5)).block, (ad199.add ((x7_1).toNat * 5)).off + 4, none⟩ = some (.int .i64 ((rd_T27 l0 x7_1).f4))) (ds := []) #[false, false, false, false, false, false, false, false, false, false, false] (by kernel_rfl) rfl rfl ⟨(aD BK192.out 0).trans rfl, (aD BK192.out 1).trans rfl, (aD BK192.out 2).trans rfl, (aD BK192.out 3).trans rfl, (aD BK192.out 4).trans rfl, ((HB.out.cell (lD w _ hw199_0)).trans hw199_0), ((HB.out.cell (lD w _ hw199_1)).trans hw199_1), ((HB.out.cell (lD w _ hw199_2)).trans hw199_2), ((HB.out.cell (lD w _ hw199_3)).trans hw199_3), ((HB.out.cell (lD w _ hw199_4)).trans hw199_4)⟩ (fun hHeld => ?_); refine with_tabW spec_SetPut.tab6 spec_SetPut.bits6 (fun HT_ HW_ => ?_)
       generalize wr.drew = w12 at HO_5 BK192 HB hx199_0 hx199_1 hx199_2 hx199_3 hx199_4 hHeld ⊢
       refine aW (i := 0) (N := some 15) (v := ?_) (a' := ?_) #[true, false, false, false, false, false, false, false, false, false, false] rfl rfl (aZ HT_.out (by kernel_rfl)) (fun _ _ _ h => h) (Or.inl ⟨by rfl, ?_⟩) ?_ ?_
       rotate_left
       ·intro w'
        go_simp
        with_reducible rfl
       rotate_left
       ·simp only [Act.put, lA, lB, lC, aU, aV]
        rfl
       refine aW (i := 1) (N := some 16) (v := ?_) (a' := ?_) #[true, true, false, false, false, false, false, false, false, false, false] rfl rfl (aZ HT_.out (by kernel_rfl)) (fun _ _ _ h => h) (Or.inl ⟨by rfl, ?_⟩) ?_ ?_
       rotate_left
       ·intro w'
        go_simp
        with_reducible rfl
       rotate_left
       ·simp only [Act.put, lA, lB, lC, aU, aV]
        rfl
       refine aW (i := 2) (N := some 17) (v := ?_) (a' := ?_) #[true, true, true, false, false, false, false, false, false, false, false] rfl rfl (aZ HT_.out (by kernel_rfl)) (fun _ _ _ h => h) (Or.inl ⟨by rfl, ?_⟩) ?_ ?_
       rotate_left
       ·intro w'
        go_simp
        with_reducible rfl
       rotate_left
       ·simp only [Act.put, lA, lB, lC, aU, aV]
        rfl
       refine aW (i := 3) (N := some 18) (v := ?_) (a' := ?_) #[true, true, true, true, false, false, false, false, false, false, false] rfl rfl (aZ HT_.out (by kernel_rfl)) (fun _ _ _ h => h) (Or.inl ⟨by rfl, ?_⟩) ?_ ?_
       rotate_left
       ·intro w'
        go_simp
        with_reducible rfl
       rotate_left
       ·simp only [Act.put, lA, lB, lC, aU, aV]
        rfl
       refine aW (i := 4) (N := some 19) (v := ?_) (a' := ?_) #[true, true, true, true, true, false, false, false, false, false, false] rfl rfl (aZ HT_.out (by kernel_rfl)) (fun _ _ _ h => h) (Or.inl ⟨by rfl, ?_⟩) ?_ ?_
       rotate_left
       ·intro w'
        go_simp
        with_reducible rfl
       rotate_left
       ·simp only [Act.put, lA, lB, lC, aU, aV]
        rfl
       refine aW (i := 5) (N := some 20) (v := ?_) (a' := ?_) #[true, true, true, true, true, true, false, false, false, false, false] rfl rfl (aZ HT_.out (by kernel_rfl)) (fun _ _ _ h => h) (Or.inl ⟨by rfl, ?_⟩) ?_ ?_
       rotate_left
       ·intro w'
        go_simp
        with_reducible rfl
       rotate_left
       ·simp only [Act.put, lA, lB, lC, aU, aV]
        rfl
       refine take_ (i := 6) (N := some 21) (v := ?_) (a' := ?_) #[true, true, true, true, true, true, true, false, false, false, false] rfl rfl (bV HT_.out HW_.out (by kernel_rfl)) (fun _ _ _ h => h) (Or.inl ⟨by rfl, ?_⟩) hHeld ?_ ?_
       rotate_left
       ·rintro w' ⟨s0, s1, s2, s3, s4, s5, s6, s7, s8, s9⟩
        go_simp
        with_reducible rfl
       rotate_left
       ·simp only [Act.put, lA, lB, lC, aU, aV]
        rfl
       refine take_ (i := 7) (N := some 22) (v := ?_) (a' := ?_) #[true, true, true, true, true, true, true, true, false, false, false] rfl rfl (bV HT_.out HW_.out (by kernel_rfl)) (fun _ _ _ h => h) (Or.inl ⟨by rfl, ?_⟩) hHeld ?_ ?_
       rotate_left
       ·rintro w' ⟨s0, s1, s2, s3, s4, s5, s6, s7, s8, s9⟩
        go_simp
        with_reducible rfl
       rotate_left
       ·simp only [Act.put, lA, lB, lC, aU, aV]
        rfl
       refine one_ (i := 8) (N := some 23) #[true, true, true, true, true, true, true, true, true, false, false] rfl rfl (one_of HT_.out (by kernel_rfl)) (by decide) (fun K hK => ?_)
       refine goes_ Try.func93 (by kernel_rfl) rfl #[.agg #[.int .i64 ((rd_T27 l0 x7_1).f0), .int .i64 ((rd_T27 l0 x7_1).f1), .int .i64 ((rd_T27 l0 x7_1).f2), .int .i64 ((rd_T27 l0 x7_1).f3), .int .i64 ((rd_T27 l0 x7_1).f4)], .agg #[.int .i64 a1_0, .int .i64 a1_1, .int .i64 a1_2, .int .i64 a1_3, .int .i64 a1_4]] (by rfl) rfl rfl (by (try simp only [List.map_toArray, List.map_cons, List.map_nil]); first | done | rfl) ?_
       with_reducible refine (spec_LessKey.calls ((rd_T27 l0 x7_1).f0) ((rd_T27 l0 x7_1).f1) ((rd_T27 l0 x7_1).f2) ((rd_T27 l0 x7_1).f3) ((rd_T27 l0 x7_1).f4) a1_0 a1_1 a1_2 a1_3 a1_4 t200 _ A11.out).mono ?_
       rintro e w13 ⟨rfl, hb⟩
       refine ⟨_, rfl, ?_⟩
       replace HO_5 := aA.mk (Kd.R_below HO_5.out hb)
       replace BK192 := aA.mk (aG (g := gb192) (o := .cells #[.int .i64 a1_0, .int .i64 a1_1, .int .i64 a1_2, .int .i64 a1_3, .int .i64 a1_4] 27 (0, 0)) BK192.out hb)
       replace HB := aA.mk (aT HB.out hb)
       (try clear hb)
       (try clear hb2)
       (try clear hk)
       (try clear hi)
       refine hK.out _ _ ⟨(aD BK192.out 0).trans rfl, (aD BK192.out 1).trans rfl, (aD BK192.out 2).trans rfl, (aD BK192.out 3).trans rfl, (aD BK192.out 4).trans rfl, ((HB.out.cell (lD w _ hw199_0)).trans hw199_0), ((HB.out.cell (lD w _ hw199_1)).trans hw199_1), ((HB.out.cell (lD w _ hw199_2)).trans hw199_2), ((HB.out.cell (lD w _ hw199_3)).trans hw199_3), ((HB.out.cell (lD w _ hw199_4)).trans hw199_4)⟩ (fun hHeld => ?_)
       clear hK K
       refine bJ (a' := ?_) ?_ ?_
       rotate_left
       ·show Act.put _ (some 23) _ = _
        simp only [Act.put, lA, lB, lC, aU, aV]
        rfl
       refine aW (i := 9) (N := some 24) (v := ?_) (a' := ?_) #[true, true, true, true, true, true, true, true, true, true, false] rfl rfl (aZ HT_.out (by kernel_rfl)) (fun _ _ _ h => h) (Or.inl ⟨by rfl, ?_⟩) ?_ ?_
       rotate_left
       ·intro w'
        go_simp
        with_reducible rfl
       rotate_left
       ·simp only [Act.put, lA, lB, lC, aU, aV]
        rfl
       refine aW (i := 10) (N := some 25) (v := ?_) (a' := ?_) #[true, true, true, true, true, true, true, true, true, true, true] rfl rfl (aZ HT_.out (by kernel_rfl)) (fun _ _ _ h => h) (Or.inl ⟨by rfl, ?_⟩) ?_ ?_
       rotate_left
       ·intro w'
        go_simp
        with_reducible rfl
       rotate_left
       ·simp only [Act.put, lA, lB, lC, aU, aV]
        rfl
       refine done_ (done_of HT_.out (by kernel_rfl)) ?_
       try go_wp2
       go_meet
       case rel => exact ⟨_, (!t200), (by first | rfl | (simp; done) | (simp [*]; done)), H', ⟨by have := HK1.out; first | omega | exact Nat.le_refl _⟩, ⟨by (with_reducible repeat (first | apply Kd.bQ | apply Kd.bR | apply Kd.bU)); exact HO_5.out⟩, ⟨by (with_reducible repeat (first | refine aM ?_ _ | refine aJ ?_ | refine aK ?_ _)); exact BK192.out⟩, ⟨by repeat (first | (with_reducible first | exact HB.out | apply aN | apply aE | apply aH | refine aC ?_ GE192.out) | exact HB.out)⟩⟩
      ·rw [if_neg c10] at H
       exact absurd H (by simp)
    case rest =>
     clear HC7
     try clear c1
     try clear p1
     try clear q1
     try clear hx1
     try clear p2
     try clear c6
     try clear c6b0
     try clear c8
     try clear c9
     try clear c10
     try clear c10b0
     try clear hx199_0
     try clear hx199_1
     try clear hx199_2
     try clear hx199_3
     try clear hx199_4
     try clear p199
     try clear p2
     try clear q199
     obtain ⟨kq, x25_6, rfl, HA, HJ6, HO_5, BK192, HB⟩ := hcut
     cases kq with
     | zero => exact absurd HA.out (by simp [spec_SetPut.j1])
     | succ kj6 =>
      have H := HA.out
      clear HA
      simp only [spec_SetPut.j1] at H
      by_cases c14 : x25_6 = true
      ·subst c14
       have H1 : (if x5_1.length < 3518437208883 then ((some (x5_1 ++ [(⟨a1_0, a1_1, a1_2, a1_3, a1_4⟩ : S27)] : List (S27))).bind fun y201 => (if 0 ≤ x7_1 then (if x7_1 < (l0.length : Int) then ((spec_SameSpot.f ((rd_T27 l0 x7_1).f0) ((rd_T27 l0 x7_1).f1) ((rd_T27 l0 x7_1).f2) ((rd_T27 l0 x7_1).f3) ((rd_T27 l0 x7_1).f4) a1_0 a1_1 a1_2 a1_3 a1_4).bind fun t205 => (if t205 = true then (spec_SetPut.l0 kj6 l0 y201 true (wrap64 (x7_1 + 1)) a1_0 a1_1 a1_2 a1_3 a1_4) else (if y201.length < 3518437208883 then (spec_SetPut.l0 kj6 l0 (y201 ++ [(⟨(rd_T27 l0 x7_1).f0, (rd_T27 l0 x7_1).f1, (rd_T27 l0 x7_1).f2, (rd_T27 l0 x7_1).f3, (rd_T27 l0 x7_1).f4⟩ : S27)]) true (wrap64 (x7_1 + 1)) a1_0 a1_1 a1_2 a1_3 a1_4) else (none)))) else (none)) else (none))) else (none)) = some r := by rw [if_pos rfl] at H; exact H
       clear H
       have H := H1
       clear H1
       by_cases c15 : x5_1.length < 3518437208883
       ·rw [if_pos c15] at H
        have LMc15 := aA.mk c15
        clear c15
        obtain ⟨y201, hy201⟩ : ∃ y_ : List (S27), y_ = (x5_1 ++ [(⟨a1_0, a1_1, a1_2, a1_3, a1_4⟩ : S27)]) := ⟨_, rfl⟩
        replace H : (if 0 ≤ x7_1 then (if x7_1 < (l0.length : Int) then ((spec_SameSpot.f ((rd_T27 l0 x7_1).f0) ((rd_T27 l0 x7_1).f1) ((rd_T27 l0 x7_1).f2) ((rd_T27 l0 x7_1).f3) ((rd_T27 l0 x7_1).f4) a1_0 a1_1 a1_2 a1_3 a1_4).bind fun t205 => (if t205 = true then (spec_SetPut.l0 kj6 l0 y201 true (wrap64 (x7_1 + 1)) a1_0 a1_1 a1_2 a1_3 a1_4) else (if y201.length < 3518437208883 then (spec_SetPut.l0 kj6 l0 (y201 ++ [(⟨(rd_T27 l0 x7_1).f0, (rd_T27 l0 x7_1).f1, (rd_T27 l0 x7_1).f2, (rd_T27 l0 x7_1).f3, (rd_T27 l0 x7_1).f4⟩ : S27)]) true (wrap64 (x7_1 + 1)) a1_0 a1_1 a1_2 a1_3 a1_4) else (none)))) else (none)) else (none)) = some r := by first | (rw [hy201]; with_reducible exact H) | (have H2_ := (Option.bind_some _ _).symm.trans H; rw [hy201]; with_reducible exact H2_) | (have H2_ := (Option.bind_some _ _).symm.trans H; with_reducible exact H2_) | with_reducible exact H | (rw [hy201]; exact H) | exact H
        have Ny201 := aA.mk hy201
        clear hy201
        by_cases c16 : 0 ≤ x7_1
        ·rw [if_pos c16] at H
         have c16b0 : decide (0 ≤ x7_1) = true := decide_eq_true c16
         clear c16
         by_cases c17 : x7_1 < (l0.length : Int)
         ·rw [if_pos c17] at H
          have c17b0 : decide (x7_1 < (l0.length : Int)) = true := decide_eq_true c17
          clear c17
          replace H := lF H
          obtain ⟨t205, A180, H⟩ := H
          replace H : (if t205 = true then (spec_SetPut.l0 kj6 l0 y201 true (wrap64 (x7_1 + 1)) a1_0 a1_1 a1_2 a1_3 a1_4) else (if y201.length < 3518437208883 then (spec_SetPut.l0 kj6 l0 (y201 ++ [(⟨(rd_T27 l0 x7_1).f0, (rd_T27 l0 x7_1).f1, (rd_T27 l0 x7_1).f2, (rd_T27 l0 x7_1).f3, (rd_T27 l0 x7_1).f4⟩ : S27)]) true (wrap64 (x7_1 + 1)) a1_0 a1_1 a1_2 a1_3 a1_4) else (none))) = some r := H
          have A18 := aA.mk A180
          clear A180
          by_cases c19 : t205 = true
          ·subst c19
           have H1 : (spec_SetPut.l0 kj6 l0 y201 true (wrap64 (x7_1 + 1)) a1_0 a1_1 a1_2 a1_3 a1_4) = some r := by rw [if_pos rfl] at H; exact H
           clear H
           have H := H1
           clear H1
           have H' := aA.mk H
           clear H
           obtain ⟨hcz20_0, hcz20_1, hcz20_2, hcz20_3, hcz20_4⟩ := cs5 BK192.out
           obtain ⟨hfz20_0, hfz20_1, hfz20_2, hfz20_3, hfz20_4⟩ := fs5 BK192.out
           try go_wp2_with (first | ((with_reducible refine gate_builtin (b := .append) (xs := #[.tmp 26, .tmp 28]) rfl ?_); at_builtin; refine Kd.R_append k27 (w0 := w) w.heap.size rfl (.tmp 26) (.tmp 28) 40 27 (.agg #[(.int .i64 0), (.int .i64 0), (.int .i64 0), (.int .i64 0), (.int .i64 0)]) 40 rfl Try.underlying40 info27 rfl (by decide) (by omega) u5 x5_1 (⟨a1_0, a1_1, a1_2, a1_3, a1_4⟩ : S27) [.int .i64 a1_0, .int .i64 a1_1, .int .i64 a1_2, .int .i64 a1_3, .int .i64 a1_4] (fun k_ => k_ ≠ gb192) (fun _ => False) rfl rfl ?aP (fun _ hk => hk.elim) ?aF ?aO ?aB ?aS ?aL ?_; (case aP => exact k27_mkM _ _ _ (⟨a1_0, a1_1, a1_2, a1_3, a1_4⟩ : S27)); (case aB => exact HB.out); (case aF => exact (fun k_ hk => Kd.freshB (g := gb192) (o := .cells #[.int .i64 a1_0, .int .i64 a1_1, .int .i64 a1_2, .int .i64 a1_3, .int .i64 a1_4] 27 (0, 0)) BK192.out k_ hk)); (case aO => exact HO_5.out); (case aS => exact (aQ HB.out)); (case aL => have := LMc15.out; omega); intro v202 w21 ho hb hg hat; rw [← Ny201.out] at ho; replace BK192 := aA.mk (blk_grown (g := gb192) (o := .cells #[.int .i64 a1_0, .int .i64 a1_1, .int .i64 a1_2, .int .i64 a1_3, .int .i64 a1_4] 27 (0, 0)) BK192.out hg (Kd.R_away HO_5.out (fun _ hk => hk))); replace HB := aA.mk (hb); have HO203 := aA.mk (ho); clear HO_5; clear ho hb hg hat))
           replace HO203 := aA.mk (Kd.bU HO203.out)
           replace BK192 := aA.mk (aJ BK192.out)
           replace HB := aA.mk (aH HB.out)
           have p204 : 0 ≤ (x7_1 : Int) := lE (by assumption)
           have q204 : x7_1 < (l0.length : Int) := lE (by assumption)
           obtain ⟨ad204, e204, hx204_0, hx204_1, hx204_2, hx204_3, hx204_4⟩ := at_T27 HR0.out x7_1 p204 q204
           have hw204_4 := hx204_4
           have hw204_3 := hx204_3
           have hw204_2 := hx204_2
           have hw204_1 := hx204_1
           have hw204_0 := hx204_0
           cases e204
           replace hx204_0 := (HB.out.cell (lD w _ hx204_0)).trans hx204_0
           replace hx204_1 := (HB.out.cell (lD w _ hx204_1)).trans hx204_1
           replace hx204_2 := (HB.out.cell (lD w _ hx204_2)).trans hx204_2
           replace hx204_3 := (HB.out.cell (lD w _ hx204_3)).trans hx204_3
           replace hx204_4 := (HB.out.cell (lD w _ hx204_4)).trans hx204_4
           replace p204 := eq_true p204
           replace q204 := eq_true q204
           refine start_ (n := 7) (S := fun w' => w'.cell? ⟨gb192, 0, none⟩ = some (.int .i64 a1_0) ∧ w'.cell? ⟨gb192, 1, none⟩ = some (.int .i64 a1_1) ∧ w'.cell? ⟨gb192, 2, none⟩ = some (.int .i64 a1_2) ∧ w'.cell? ⟨gb192, 3, none⟩ = some (.int .i64 a1_3) ∧ w'.cell? ⟨gb192, 4, none⟩ = some (.int .i64 a1_4) ∧ w'.cell? (ad204.add ((x7_1).toNat * 5)) = some (.int .i64 ((rd_T27 l0 x7_1).f0)) ∧ w'.cell? ⟨(ad204.add ((x7_1).toNat * 5)).block, (ad204.add ((x7_1).toNat * 5)).off + 1, none⟩ = some (.int .i64 ((rd_T27 l0 x7_1).f1)) ∧ w'.cell? ⟨(ad204.add ((x7_1).toNat * 5)).block, (ad204.add ((x7_1).toNat * 5)).off + 2, none⟩ = some (.int .i64 ((rd_T27 l0 x7_1).f2)) ∧ w'.cell? ⟨(ad204.add ((x7_1).toNat * 5)).block, (ad204.add ((x7_1).toNat * 5)).off + 3, none⟩ = some (.int .i64 ((rd_T27 l0 x7_1).f3)) ∧ w'.cell? ⟨(ad204.add ((x7_1).toNat * 5)).block, (ad204.add ((x7_1).toNat * 5)).off + 4, none⟩ = some (.int .i64 ((rd_T27 l0 x7_1).f4))) (ds := []) #[false, false, false, false, false, false, false] (by kernel_rfl) rfl rfl ⟨(aD BK192.out 0).trans rfl, (aD BK192.out 1).trans rfl, (aD BK192.out 2).trans rfl, (aD BK192.out 3).trans rfl, (aD BK192.out 4).trans rfl, ((HB.out.cell (lD w _ hw204_0)).trans hw204_0), ((HB.out.cell (lD w _ hw204_1)).trans hw204_1), ((HB.out.cell (lD w _ hw204_2)).trans hw204_2), ((HB.out.cell (lD w _ hw204_3)).trans hw204_3), ((HB.out.cell (lD w _ hw204_4)).trans hw204_4)⟩ (fun hHeld => ?_)
           generalize w21.drew = w22 at HO203 BK192 HB hx204_0 hx204_1 hx204_2 hx204_3 hx204_4 hHeld ⊢
           refine aW (i := 0) (N := some 30) (v := ?_) (a' := ?_) #[true, false, false, false, false, false, false] rfl rfl (by kernel_rfl) (fun _ _ _ h => h) (Or.inl ⟨by rfl, ?_⟩) ?_ ?_
           rotate_left
           ·intro w'
            go_simp
            with_reducible rfl
           rotate_left
           ·simp only [Act.put, lA, lB, lC, aU, aV]
            rfl
           refine aW (i := 1) (N := some 31) (v := ?_) (a' := ?_) #[true, true, false, false, false, false, false] rfl rfl (by kernel_rfl) (fun _ _ _ h => h) (Or.inl ⟨by rfl, ?_⟩) ?_ ?_
           rotate_left
           ·intro w'
            go_simp
            with_reducible rfl
           rotate_left
           ·simp only [Act.put, lA, lB, lC, aU, aV]
            rfl
           refine aW (i := 2) (N := some 32) (v := ?_) (a' := ?_) #[true, true, true, false, false, false, false] rfl rfl (by kernel_rfl) (fun _ _ _ h => h) (Or.inl ⟨by rfl, ?_⟩) ?_ ?_
           rotate_left
           ·intro w'
            go_simp
            with_reducible rfl
           rotate_left
           ·simp only [Act.put, lA, lB, lC, aU, aV]
            rfl
           refine take_ (i := 3) (N := some 33) (v := ?_) (a' := ?_) #[true, true, true, true, false, false, false] rfl rfl (by kernel_rfl) (fun _ _ _ h => h) (Or.inl ⟨by rfl, ?_⟩) hHeld ?_ ?_
           rotate_left
           ·rintro w' ⟨s0, s1, s2, s3, s4, s5, s6, s7, s8, s9⟩
            go_simp
            with_reducible rfl
           rotate_left
           ·simp only [Act.put, lA, lB, lC, aU, aV]
            rfl
           refine take_ (i := 4) (N := some 34) (v := ?_) (a' := ?_) #[true, true, true, true, true, false, false] rfl rfl (by kernel_rfl) (fun _ _ _ h => h) (Or.inl ⟨by rfl, ?_⟩) hHeld ?_ ?_
           rotate_left
           ·rintro w' ⟨s0, s1, s2, s3, s4, s5, s6, s7, s8, s9⟩
            go_simp
            with_reducible rfl
           rotate_left
           ·simp only [Act.put, lA, lB, lC, aU, aV]
            rfl
           refine one_ (i := 5) (N := some 35) #[true, true, true, true, true, true, false] rfl rfl (by kernel_rfl) (by decide) (fun K hK => ?_)
           refine goes_ Try.func94 (by kernel_rfl) rfl #[.agg #[.int .i64 ((rd_T27 l0 x7_1).f0), .int .i64 ((rd_T27 l0 x7_1).f1), .int .i64 ((rd_T27 l0 x7_1).f2), .int .i64 ((rd_T27 l0 x7_1).f3), .int .i64 ((rd_T27 l0 x7_1).f4)], .agg #[.int .i64 a1_0, .int .i64 a1_1, .int .i64 a1_2, .int .i64 a1_3, .int .i64 a1_4]] (by rfl) rfl rfl (by (try simp only [List.map_toArray, List.map_cons, List.map_nil]); first | done | rfl) ?_
           with_reducible refine (spec_SameSpot.calls ((rd_T27 l0 x7_1).f0) ((rd_T27 l0 x7_1).f1) ((rd_T27 l0 x7_1).f2) ((rd_T27 l0 x7_1).f3) ((rd_T27 l0 x7_1).f4) a1_0 a1_1 a1_2 a1_3 a1_4 true _ A18.out).mono ?_
           rintro e w23 ⟨rfl, hb⟩
           refine ⟨_, rfl, ?_⟩
           replace HO203 := aA.mk (Kd.R_below HO203.out hb)
           replace BK192 := aA.mk (aG (g := gb192) (o := .cells #[.int .i64 a1_0, .int .i64 a1_1, .int .i64 a1_2, .int .i64 a1_3, .int .i64 a1_4] 27 (0, 0)) BK192.out hb)
           replace HB := aA.mk (aT HB.out hb)
           (try clear hb)
           (try clear hb2)
           (try clear hk)
           (try clear hi)
           refine hK.out _ _ ⟨(aD BK192.out 0).trans rfl, (aD BK192.out 1).trans rfl, (aD BK192.out 2).trans rfl, (aD BK192.out 3).trans rfl, (aD BK192.out 4).trans rfl, ((HB.out.cell (lD w _ hw204_0)).trans hw204_0), ((HB.out.cell (lD w _ hw204_1)).trans hw204_1), ((HB.out.cell (lD w _ hw204_2)).trans hw204_2), ((HB.out.cell (lD w _ hw204_3)).trans hw204_3), ((HB.out.cell (lD w _ hw204_4)).trans hw204_4)⟩ (fun hHeld => ?_)
           clear hK K
           refine bJ (a' := ?_) ?_ ?_
           rotate_left
           ·show Act.put _ (some 35) _ = _
            simp only [Act.put, lA, lB, lC, aU, aV]
            rfl
           refine aW (i := 6) (N := some 36) (v := ?_) (a' := ?_) #[true, true, true, true, true, true, true] rfl rfl (by kernel_rfl) (fun _ _ _ h => h) (Or.inl ⟨by rfl, ?_⟩) ?_ ?_
           rotate_left
           ·intro w'
            go_simp
            with_reducible rfl
           rotate_left
           ·simp only [Act.put, lA, lB, lC, aU, aV]
            rfl
           refine done_ (by kernel_rfl) ?_
           try go_wp2
           go_roundg kj6
           case measure => have := HK1.out; have := HJ6.out; omega
           case rel => exact ⟨(y201), (true), (wrap64 (x7_1 + 1)), (by first | rfl | (simp; done) | (simp [*]; done)), (by first | rfl | (simp; done) | (simp [*]; done)), H', ⟨by have := HK1.out; have := HJ6.out; omega⟩, ⟨by (with_reducible repeat (first | apply Kd.bQ | apply Kd.bR | apply Kd.bU)); exact HO203.out⟩, ⟨by (with_reducible repeat (first | refine aM ?_ _ | refine aJ ?_ | refine aK ?_ _)); exact BK192.out⟩, ⟨by repeat (first | (with_reducible first | exact HB.out | apply aN | apply aE | apply aH | refine aC ?_ GE192.out) | exact HB.out)⟩⟩
          ·replace c19 := Bool.eq_false_iff.mpr c19
           subst c19
           have H1 : (if y201.length < 3518437208883 then (spec_SetPut.l0 kj6 l0 (y201 ++ [(⟨(rd_T27 l0 x7_1).f0, (rd_T27 l0 x7_1).f1, (rd_T27 l0 x7_1).f2, (rd_T27 l0 x7_1).f3, (rd_T27 l0 x7_1).f4⟩ : S27)]) true (wrap64 (x7_1 + 1)) a1_0 a1_1 a1_2 a1_3 a1_4) else (none)) = some r := by rw [if_neg (show ¬ (false = true) by decide)] at H; exact H
           clear H
           have H := H1
           clear H1
           by_cases c24 : y201.length < 3518437208883
           ·rw [if_pos c24] at H
            have LMc24 := aA.mk c24
            clear c24
            obtain ⟨y207, hy207⟩ : ∃ y_ : List (S27), y_ = (y201 ++ [(⟨(rd_T27 l0 x7_1).f0, (rd_T27 l0 x7_1).f1, (rd_T27 l0 x7_1).f2, (rd_T27 l0 x7_1).f3, (rd_T27 l0 x7_1).f4⟩ : S27)]) := ⟨_, rfl⟩
            replace H : (spec_SetPut.l0 kj6 l0 y207 true (wrap64 (x7_1 + 1)) a1_0 a1_1 a1_2 a1_3 a1_4) = some r := by first | (rw [hy207]; with_reducible exact H) | (have H2_ := (Option.bind_some _ _).symm.trans H; rw [hy207]; with_reducible exact H2_) | (have H2_ := (Option.bind_some _ _).symm.trans H; with_reducible exact H2_) | with_reducible exact H | (rw [hy207]; exact H) | exact H
            have Ny207 := aA.mk hy207
            clear hy207
            have H' := aA.mk H
            clear H
            obtain ⟨hcz25_0, hcz25_1, hcz25_2, hcz25_3, hcz25_4⟩ := cs5 BK192.out
            obtain ⟨hfz25_0, hfz25_1, hfz25_2, hfz25_3, hfz25_4⟩ := fs5 BK192.out
            try go_wp2_with (first | ((with_reducible refine gate_builtin (b := .append) (xs := #[.tmp 26, .tmp 28]) rfl ?_); at_builtin; refine Kd.R_append k27 (w0 := w) w.heap.size rfl (.tmp 26) (.tmp 28) 40 27 (.agg #[(.int .i64 0), (.int .i64 0), (.int .i64 0), (.int .i64 0), (.int .i64 0)]) 40 rfl Try.underlying40 info27 rfl (by decide) (by omega) u5 x5_1 (⟨a1_0, a1_1, a1_2, a1_3, a1_4⟩ : S27) [.int .i64 a1_0, .int .i64 a1_1, .int .i64 a1_2, .int .i64 a1_3, .int .i64 a1_4] (fun k_ => k_ ≠ gb192) (fun _ => False) rfl rfl ?aP (fun _ hk => hk.elim) ?aF ?aO ?aB ?aS ?aL ?_; (case aP => exact k27_mkM _ _ _ (⟨a1_0, a1_1, a1_2, a1_3, a1_4⟩ : S27)); (case aB => exact HB.out); (case aF => exact (fun k_ hk => Kd.freshB (g := gb192) (o := .cells #[.int .i64 a1_0, .int .i64 a1_1, .int .i64 a1_2, .int .i64 a1_3, .int .i64 a1_4] 27 (0, 0)) BK192.out k_ hk)); (case aO => exact HO_5.out); (case aS => exact (aQ HB.out)); (case aL => have := LMc15.out; omega); intro v202 w26 ho hb hg hat; rw [← Ny201.out] at ho; replace BK192 := aA.mk (blk_grown (g := gb192) (o := .cells #[.int .i64 a1_0, .int .i64 a1_1, .int .i64 a1_2, .int .i64 a1_3, .int .i64 a1_4] 27 (0, 0)) BK192.out hg (Kd.R_away HO_5.out (fun _ hk => hk))); replace HB := aA.mk (hb); have HO203 := aA.mk (ho); clear HO_5; clear ho hb hg hat))
            replace HO203 := aA.mk (Kd.bU HO203.out)
            replace BK192 := aA.mk (aJ BK192.out)
            replace HB := aA.mk (aH HB.out)
            have p204 : 0 ≤ (x7_1 : Int) := lE (by assumption)
            have q204 : x7_1 < (l0.length : Int) := lE (by assumption)
            obtain ⟨ad204, e204, hx204_0, hx204_1, hx204_2, hx204_3, hx204_4⟩ := at_T27 HR0.out x7_1 p204 q204
            have hw204_4 := hx204_4
            have hw204_3 := hx204_3
            have hw204_2 := hx204_2
            have hw204_1 := hx204_1
            have hw204_0 := hx204_0
            cases e204
            replace hx204_0 := (HB.out.cell (lD w _ hx204_0)).trans hx204_0
            replace hx204_1 := (HB.out.cell (lD w _ hx204_1)).trans hx204_1
            replace hx204_2 := (HB.out.cell (lD w _ hx204_2)).trans hx204_2
            replace hx204_3 := (HB.out.cell (lD w _ hx204_3)).trans hx204_3
            replace hx204_4 := (HB.out.cell (lD w _ hx204_4)).trans hx204_4
            replace p204 := eq_true p204
            replace q204 := eq_true q204
            refine start_ (n := 7) (S := fun w' => w'.cell? ⟨gb192, 0, none⟩ = some (.int .i64 a1_0) ∧ w'.cell? ⟨gb192, 1, none⟩ = some (.int .i64 a1_1) ∧ w'.cell? ⟨gb192, 2, none⟩ = some (.int .i64 a1_2) ∧ w'.cell? ⟨gb192, 3, none⟩ = some (.int .i64 a1_3) ∧ w'.cell? ⟨gb192, 4, none⟩ = some (.int .i64 a1_4) ∧ w'.cell? (ad204.add ((x7_1).toNat * 5)) = some (.int .i64 ((rd_T27 l0 x7_1).f0)) ∧ w'.cell? ⟨(ad204.add ((x7_1).toNat * 5)).block, (ad204.add ((x7_1).toNat * 5)).off + 1, none⟩ = some (.int .i64 ((rd_T27 l0 x7_1).f1)) ∧ w'.cell? ⟨(ad204.add ((x7_1).toNat * 5)).block, (ad204.add ((x7_1).toNat * 5)).off + 2, none⟩ = some (.int .i64 ((rd_T27 l0 x7_1).f2)) ∧ w'.cell? ⟨(ad204.add ((x7_1).toNat * 5)).block, (ad204.add ((x7_1).toNat * 5)).off + 3, none⟩ = some (.int .i64 ((rd_T27 l0 x7_1).f3)) ∧ w'.cell? ⟨(ad204.add ((x7_1).toNat * 5)).block, (ad204.add ((x7_1).toNat * 5)).off + 4, none⟩ = some (.int .i64 ((rd_T27 l0 x7_1).f4))) (ds := []) #[false, false, false, false, false, false, false] (by kernel_rfl) rfl rfl ⟨(aD BK192.out 0).trans rfl, (aD BK192.out 1).trans rfl, (aD BK192.out 2).trans rfl, (aD BK192.out 3).trans rfl, (aD BK192.out 4).trans rfl, ((HB.out.cell (lD w _ hw204_0)).trans hw204_0), ((HB.out.cell (lD w _ hw204_1)).trans hw204_1), ((HB.out.cell (lD w _ hw204_2)).trans hw204_2), ((HB.out.cell (lD w _ hw204_3)).trans hw204_3), ((HB.out.cell (lD w _ hw204_4)).trans hw204_4)⟩ (fun hHeld => ?_)
            generalize w26.drew = w27 at HO203 BK192 HB hx204_0 hx204_1 hx204_2 hx204_3 hx204_4 hHeld ⊢
            refine aW (i := 0) (N := some 30) (v := ?_) (a' := ?_) #[true, false, false, false, false, false, false] rfl rfl (by kernel_rfl) (fun _ _ _ h => h) (Or.inl ⟨by rfl, ?_⟩) ?_ ?_
            rotate_left
            ·intro w'
             go_simp
             with_reducible rfl
            rotate_left
            ·simp only [Act.put, lA, lB, lC, aU, aV]
             rfl
            refine aW (i := 1) (N := some 31) (v := ?_) (a' := ?_) #[true, true, false, false, false, false, false] rfl rfl (by kernel_rfl) (fun _ _ _ h => h) (Or.inl ⟨by rfl, ?_⟩) ?_ ?_
            rotate_left
            ·intro w'
             go_simp
             with_reducible rfl
            rotate_left
            ·simp only [Act.put, lA, lB, lC, aU, aV]
             rfl
            refine aW (i := 2) (N := some 32) (v := ?_) (a' := ?_) #[true, true, true, false, false, false, false] rfl rfl (by kernel_rfl) (fun _ _ _ h => h) (Or.inl ⟨by rfl, ?_⟩) ?_ ?_
            rotate_left
            ·intro w'
             go_simp
             with_reducible rfl
            rotate_left
            ·simp only [Act.put, lA, lB, lC, aU, aV]
             rfl
            refine take_ (i := 3) (N := some 33) (v := ?_) (a' := ?_) #[true, true, true, true, false, false, false] rfl rfl (by kernel_rfl) (fun _ _ _ h => h) (Or.inl ⟨by rfl, ?_⟩) hHeld ?_ ?_
            rotate_left
            ·rintro w' ⟨s0, s1, s2, s3, s4, s5, s6, s7, s8, s9⟩
             go_simp
             with_reducible rfl
            rotate_left
            ·simp only [Act.put, lA, lB, lC, aU, aV]
             rfl
            refine take_ (i := 4) (N := some 34) (v := ?_) (a' := ?_) #[true, true, true, true, true, false, false] rfl rfl (by kernel_rfl) (fun _ _ _ h => h) (Or.inl ⟨by rfl, ?_⟩) hHeld ?_ ?_
            rotate_left
            ·rintro w' ⟨s0, s1, s2, s3, s4, s5, s6, s7, s8, s9⟩
             go_simp
             with_reducible rfl
            rotate_left
            ·simp only [Act.put, lA, lB, lC, aU, aV]
             rfl
            refine one_ (i := 5) (N := some 35) #[true, true, true, true, true, true, false] rfl rfl (by kernel_rfl) (by decide) (fun K hK => ?_)
            refine goes_ Try.func94 (by kernel_rfl) rfl #[.agg #[.int .i64 ((rd_T27 l0 x7_1).f0), .int .i64 ((rd_T27 l0 x7_1).f1), .int .i64 ((rd_T27 l0 x7_1).f2), .int .i64 ((rd_T27 l0 x7_1).f3), .int .i64 ((rd_T27 l0 x7_1).f4)], .agg #[.int .i64 a1_0, .int .i64 a1_1, .int .i64 a1_2, .int .i64 a1_3, .int .i64 a1_4]] (by rfl) rfl rfl (by (try simp only [List.map_toArray, List.map_cons, List.map_nil]); first | done | rfl) ?_
            with_reducible refine (spec_SameSpot.calls ((rd_T27 l0 x7_1).f0) ((rd_T27 l0 x7_1).f1) ((rd_T27 l0 x7_1).f2) ((rd_T27 l0 x7_1).f3) ((rd_T27 l0 x7_1).f4) a1_0 a1_1 a1_2 a1_3 a1_4 false _ A18.out).mono ?_
            rintro e w28 ⟨rfl, hb⟩
            refine ⟨_, rfl, ?_⟩
            replace HO203 := aA.mk (Kd.R_below HO203.out hb)
            replace BK192 := aA.mk (aG (g := gb192) (o := .cells #[.int .i64 a1_0, .int .i64 a1_1, .int .i64 a1_2, .int .i64 a1_3, .int .i64 a1_4] 27 (0, 0)) BK192.out hb)
            replace HB := aA.mk (aT HB.out hb)
            (try clear hb)
            (try clear hb2)
            (try clear hk)
            (try clear hi)
            refine hK.out _ _ ⟨(aD BK192.out 0).trans rfl, (aD BK192.out 1).trans rfl, (aD BK192.out 2).trans rfl, (aD BK192.out 3).trans rfl, (aD BK192.out 4).trans rfl, ((HB.out.cell (lD w _ hw204_0)).trans hw204_0), ((HB.out.cell (lD w _ hw204_1)).trans hw204_1), ((HB.out.cell (lD w _ hw204_2)).trans hw204_2), ((HB.out.cell (lD w _ hw204_3)).trans hw204_3), ((HB.out.cell (lD w _ hw204_4)).trans hw204_4)⟩ (fun hHeld => ?_)
            clear hK K
            refine bJ (a' := ?_) ?_ ?_
            rotate_left
            ·show Act.put _ (some 35) _ = _
             simp only [Act.put, lA, lB, lC, aU, aV]
             rfl
            refine aW (i := 6) (N := some 36) (v := ?_) (a' := ?_) #[true, true, true, true, true, true, true] rfl rfl (by kernel_rfl) (fun _ _ _ h => h) (Or.inl ⟨by rfl, ?_⟩) ?_ ?_
            rotate_left
            ·intro w'
             go_simp
             with_reducible rfl
            rotate_left
            ·simp only [Act.put, lA, lB, lC, aU, aV]
             rfl
            refine done_ (by kernel_rfl) ?_
            have p206 : 0 ≤ (x7_1 : Int) := lE (by assumption)
            have q206 : x7_1 < (l0.length : Int) := lE (by assumption)
            obtain ⟨ad206, e206, hx206_0, hx206_1, hx206_2, hx206_3, hx206_4⟩ := at_T27 HR0.out x7_1 p206 q206
            obtain rfl : ad204 = ad206 := (by injection e206)
            replace hx206_0 := (HB.out.cell (lD w _ hx206_0)).trans hx206_0
            replace hx206_1 := (HB.out.cell (lD w _ hx206_1)).trans hx206_1
            replace hx206_2 := (HB.out.cell (lD w _ hx206_2)).trans hx206_2
            replace hx206_3 := (HB.out.cell (lD w _ hx206_3)).trans hx206_3
            replace hx206_4 := (HB.out.cell (lD w _ hx206_4)).trans hx206_4
            replace p206 := eq_true p206
            replace q206 := eq_true q206
            try go_wp2_with (first | ((with_reducible refine gate_builtin (b := .append) (xs := #[.tmp 37, .tmp 42]) rfl ?_); at_builtin; refine Kd.R_append k27 (w0 := w) w.heap.size rfl (.tmp 37) (.tmp 42) 40 27 (.agg #[(.int .i64 0), (.int .i64 0), (.int .i64 0), (.int .i64 0), (.int .i64 0)]) 40 rfl Try.underlying40 info27 rfl (by decide) (by omega) v202 y201 (⟨(rd_T27 l0 x7_1).f0, (rd_T27 l0 x7_1).f1, (rd_T27 l0 x7_1).f2, (rd_T27 l0 x7_1).f3, (rd_T27 l0 x7_1).f4⟩ : S27) [.int .i64 ((rd_T27 l0 x7_1).f0), .int .i64 ((rd_T27 l0 x7_1).f1), .int .i64 ((rd_T27 l0 x7_1).f2), .int .i64 ((rd_T27 l0 x7_1).f3), .int .i64 ((rd_T27 l0 x7_1).f4)] (fun k_ => k_ ≠ gb192) (fun _ => False) rfl rfl ?aP (fun _ hk => hk.elim) ?aF ?aO ?aB ?aS ?aL ?_; (case aP => exact k27_mkM _ _ _ (⟨(rd_T27 l0 x7_1).f0, (rd_T27 l0 x7_1).f1, (rd_T27 l0 x7_1).f2, (rd_T27 l0 x7_1).f3, (rd_T27 l0 x7_1).f4⟩ : S27)); (case aB => exact HB.out); (case aF => exact (fun k_ hk => Kd.freshB (g := gb192) (o := .cells #[.int .i64 a1_0, .int .i64 a1_1, .int .i64 a1_2, .int .i64 a1_3, .int .i64 a1_4] 27 (0, 0)) BK192.out k_ hk)); (case aO => exact HO203.out); (case aS => exact (aQ HB.out)); (case aL => have := LMc24.out; omega); intro v208 w29 ho hb hg hat; rw [← Ny207.out] at ho; replace BK192 := aA.mk (blk_grown (g := gb192) (o := .cells #[.int .i64 a1_0, .int .i64 a1_1, .int .i64 a1_2, .int .i64 a1_3, .int .i64 a1_4] 27 (0, 0)) BK192.out hg (Kd.R_away HO203.out (fun _ hk => hk))); replace HB := aA.mk (hb); have HO209 := aA.mk (ho); clear HO203; clear ho hb hg hat))
            go_roundg kj6
            case measure => have := HK1.out; have := HJ6.out; omega
            case rel => exact ⟨(y207), (true), (wrap64 (x7_1 + 1)), (by first | rfl | (simp; done) | (simp [*]; done)), (by first | rfl | (simp; done) | (simp [*]; done)), H', ⟨by have := HK1.out; have := HJ6.out; omega⟩, ⟨by (with_reducible repeat (first | apply Kd.bQ | apply Kd.bR | apply Kd.bU)); exact HO209.out⟩, ⟨by (with_reducible repeat (first | refine aM ?_ _ | refine aJ ?_ | refine aK ?_ _)); exact BK192.out⟩, ⟨by repeat (first | (with_reducible first | exact HB.out | apply aN | apply aE | apply aH | refine aC ?_ GE192.out) | exact HB.out)⟩⟩
           ·rw [if_neg c24] at H
            exact absurd H (by simp)
         ·rw [if_neg c17] at H
          exact absurd H (by simp)
        ·rw [if_neg c16] at H
         exact absurd H (by simp)
       ·rw [if_neg c15] at H
        exact absurd H (by simp)
      ·replace c14 := Bool.eq_false_iff.mpr c14
       subst c14
       have H1 : (if 0 ≤ x7_1 then (if x7_1 < (l0.length : Int) then ((spec_SameSpot.f ((rd_T27 l0 x7_1).f0) ((rd_T27 l0 x7_1).f1) ((rd_T27 l0 x7_1).f2) ((rd_T27 l0 x7_1).f3) ((rd_T27 l0 x7_1).f4) a1_0 a1_1 a1_2 a1_3 a1_4).bind fun t211 => (if t211 = true then (spec_SetPut.l0 kj6 l0 x5_1 x6_1 (wrap64 (x7_1 + 1)) a1_0 a1_1 a1_2 a1_3 a1_4) else (if x5_1.length < 3518437208883 then (spec_SetPut.l0 kj6 l0 (x5_1 ++ [(⟨(rd_T27 l0 x7_1).f0, (rd_T27 l0 x7_1).f1, (rd_T27 l0 x7_1).f2, (rd_T27 l0 x7_1).f3, (rd_T27 l0 x7_1).f4⟩ : S27)]) x6_1 (wrap64 (x7_1 + 1)) a1_0 a1_1 a1_2 a1_3 a1_4) else (none)))) else (none)) else (none)) = some r := by rw [if_neg (show ¬ (false = true) by decide)] at H; exact H
       clear H
       have H := H1
       clear H1
       by_cases c30 : 0 ≤ x7_1
       ·rw [if_pos c30] at H
        have c30b0 : decide (0 ≤ x7_1) = true := decide_eq_true c30
        clear c30
        by_cases c31 : x7_1 < (l0.length : Int)
        ·rw [if_pos c31] at H
         have c31b0 : decide (x7_1 < (l0.length : Int)) = true := decide_eq_true c31
         clear c31
         replace H := lF H
         obtain ⟨t211, A320, H⟩ := H
         replace H : (if t211 = true then (spec_SetPut.l0 kj6 l0 x5_1 x6_1 (wrap64 (x7_1 + 1)) a1_0 a1_1 a1_2 a1_3 a1_4) else (if x5_1.length < 3518437208883 then (spec_SetPut.l0 kj6 l0 (x5_1 ++ [(⟨(rd_T27 l0 x7_1).f0, (rd_T27 l0 x7_1).f1, (rd_T27 l0 x7_1).f2, (rd_T27 l0 x7_1).f3, (rd_T27 l0 x7_1).f4⟩ : S27)]) x6_1 (wrap64 (x7_1 + 1)) a1_0 a1_1 a1_2 a1_3 a1_4) else (none))) = some r := H
         have A32 := aA.mk A320
         clear A320
         by_cases c33 : t211 = true
         ·subst c33
          have H1 : (spec_SetPut.l0 kj6 l0 x5_1 x6_1 (wrap64 (x7_1 + 1)) a1_0 a1_1 a1_2 a1_3 a1_4) = some r := by rw [if_pos rfl] at H; exact H
          clear H
          have H := H1
          clear H1
          have H' := aA.mk H
          clear H
          try go_wp2
          replace HO_5 := aA.mk (Kd.bU HO_5.out)
          replace BK192 := aA.mk (aJ BK192.out)
          replace HB := aA.mk (aH HB.out)
          have p210 : 0 ≤ (x7_1 : Int) := lE (by assumption)
          have q210 : x7_1 < (l0.length : Int) := lE (by assumption)
          obtain ⟨ad210, e210, hx210_0, hx210_1, hx210_2, hx210_3, hx210_4⟩ := at_T27 HR0.out x7_1 p210 q210
          have hw210_4 := hx210_4
          have hw210_3 := hx210_3
          have hw210_2 := hx210_2
          have hw210_1 := hx210_1
          have hw210_0 := hx210_0
          cases e210
          replace hx210_0 := (HB.out.cell (lD w _ hx210_0)).trans hx210_0
          replace hx210_1 := (HB.out.cell (lD w _ hx210_1)).trans hx210_1
          replace hx210_2 := (HB.out.cell (lD w _ hx210_2)).trans hx210_2
          replace hx210_3 := (HB.out.cell (lD w _ hx210_3)).trans hx210_3
          replace hx210_4 := (HB.out.cell (lD w _ hx210_4)).trans hx210_4
          replace p210 := eq_true p210
          replace q210 := eq_true q210
          refine start_ (n := 7) (S := fun w' => w'.cell? ⟨gb192, 0, none⟩ = some (.int .i64 a1_0) ∧ w'.cell? ⟨gb192, 1, none⟩ = some (.int .i64 a1_1) ∧ w'.cell? ⟨gb192, 2, none⟩ = some (.int .i64 a1_2) ∧ w'.cell? ⟨gb192, 3, none⟩ = some (.int .i64 a1_3) ∧ w'.cell? ⟨gb192, 4, none⟩ = some (.int .i64 a1_4) ∧ w'.cell? (ad210.add ((x7_1).toNat * 5)) = some (.int .i64 ((rd_T27 l0 x7_1).f0)) ∧ w'.cell? ⟨(ad210.add ((x7_1).toNat * 5)).block, (ad210.add ((x7_1).toNat * 5)).off + 1, none⟩ = some (.int .i64 ((rd_T27 l0 x7_1).f1)) ∧ w'.cell? ⟨(ad210.add ((x7_1).toNat * 5)).block, (ad210.add ((x7_1).toNat * 5)).off + 2, none⟩ = some (.int .i64 ((rd_T27 l0 x7_1).f2)) ∧ w'.cell? ⟨(ad210.add ((x7_1).toNat * 5)).block, (ad210.add ((x7_1).toNat * 5)).off + 3, none⟩ = some (.int .i64 ((rd_T27 l0 x7_1).f3)) ∧ w'.cell? ⟨(ad210.add ((x7_1).toNat * 5)).block, (ad210.add ((x7_1).toNat * 5)).off + 4, none⟩ = some (.int .i64 ((rd_T27 l0 x7_1).f4))) (ds := []) #[false, false, false, false, false, false, false] (by kernel_rfl) rfl rfl ⟨(aD BK192.out 0).trans rfl, (aD BK192.out 1).trans rfl, (aD BK192.out 2).trans rfl, (aD BK192.out 3).trans rfl, (aD BK192.out 4).trans rfl, ((HB.out.cell (lD w _ hw210_0)).trans hw210_0), ((HB.out.cell (lD w _ hw210_1)).trans hw210_1), ((HB.out.cell (lD w _ hw210_2)).trans hw210_2), ((HB.out.cell (lD w _ hw210_3)).trans hw210_3), ((HB.out.cell (lD w _ hw210_4)).trans hw210_4)⟩ (fun hHeld => ?_)
          generalize wc.drew = w34 at HO_5 BK192 HB hx210_0 hx210_1 hx210_2 hx210_3 hx210_4 hHeld ⊢
          refine aW (i := 0) (N := some 30) (v := ?_) (a' := ?_) #[true, false, false, false, false, false, false] rfl rfl (by kernel_rfl) (fun _ _ _ h => h) (Or.inl ⟨by rfl, ?_⟩) ?_ ?_
          rotate_left
          ·intro w'
           go_simp
           with_reducible rfl
          rotate_left
          ·simp only [Act.put, lA, lB, lC, aU, aV]
           rfl
          refine aW (i := 1) (N := some 31) (v := ?_) (a' := ?_) #[true, true, false, false, false, false, false] rfl rfl (by kernel_rfl) (fun _ _ _ h => h) (Or.inl ⟨by rfl, ?_⟩) ?_ ?_
          rotate_left
          ·intro w'
           go_simp
           with_reducible rfl
          rotate_left
          ·simp only [Act.put, lA, lB, lC, aU, aV]
           rfl
          refine aW (i := 2) (N := some 32) (v := ?_) (a' := ?_) #[true, true, true, false, false, false, false] rfl rfl (by kernel_rfl) (fun _ _ _ h => h) (Or.inl ⟨by rfl, ?_⟩) ?_ ?_
          rotate_left
          ·intro w'
           go_simp
           with_reducible rfl
          rotate_left
          ·simp only [Act.put, lA, lB, lC, aU, aV]
           rfl
          refine take_ (i := 3) (N := some 33) (v := ?_) (a' := ?_) #[true, true, true, true, false, false, false] rfl rfl (by kernel_rfl) (fun _ _ _ h => h) (Or.inl ⟨by rfl, ?_⟩) hHeld ?_ ?_
          rotate_left
          ·rintro w' ⟨s0, s1, s2, s3, s4, s5, s6, s7, s8, s9⟩
           go_simp
           with_reducible rfl
          rotate_left
          ·simp only [Act.put, lA, lB, lC, aU, aV]
           rfl
          refine take_ (i := 4) (N := some 34) (v := ?_) (a' := ?_) #[true, true, true, true, true, false, false] rfl rfl (by kernel_rfl) (fun _ _ _ h => h) (Or.inl ⟨by rfl, ?_⟩) hHeld ?_ ?_
          rotate_left
          ·rintro w' ⟨s0, s1, s2, s3, s4, s5, s6, s7, s8, s9⟩
           go_simp
           with_reducible rfl
          rotate_left
          ·simp only [Act.put, lA, lB, lC, aU, aV]
           rfl
          refine one_ (i := 5) (N := some 35) #[true, true, true, true, true, true, false] rfl rfl (by kernel_rfl) (by decide) (fun K hK => ?_)
          refine goes_ Try.func94 (by kernel_rfl) rfl #[.agg #[.int .i64 ((rd_T27 l0 x7_1).f0), .int .i64 ((rd_T27 l0 x7_1).f1), .int .i64 ((rd_T27 l0 x7_1).f2), .int .i64 ((rd_T27 l0 x7_1).f3), .int .i64 ((rd_T27 l0 x7_1).f4)], .agg #[.int .i64 a1_0, .int .i64 a1_1, .int .i64 a1_2, .int .i64 a1_3, .int .i64 a1_4]] (by rfl) rfl rfl (by (try simp only [List.map_toArray, List.map_cons, List.map_nil]); first | done | rfl) ?_
          with_reducible refine (spec_SameSpot.calls ((rd_T27 l0 x7_1).f0) ((rd_T27 l0 x7_1).f1) ((rd_T27 l0 x7_1).f2) ((rd_T27 l0 x7_1).f3) ((rd_T27 l0 x7_1).f4) a1_0 a1_1 a1_2 a1_3 a1_4 true _ A32.out).mono ?_
          rintro e w35 ⟨rfl, hb⟩
          refine ⟨_, rfl, ?_⟩
          replace HO_5 := aA.mk (Kd.R_below HO_5.out hb)
          replace BK192 := aA.mk (aG (g := gb192) (o := .cells #[.int .i64 a1_0, .int .i64 a1_1, .int .i64 a1_2, .int .i64 a1_3, .int .i64 a1_4] 27 (0, 0)) BK192.out hb)
          replace HB := aA.mk (aT HB.out hb)
          (try clear hb)
          (try clear hb2)
          (try clear hk)
          (try clear hi)
          refine hK.out _ _ ⟨(aD BK192.out 0).trans rfl, (aD BK192.out 1).trans rfl, (aD BK192.out 2).trans rfl, (aD BK192.out 3).trans rfl, (aD BK192.out 4).trans rfl, ((HB.out.cell (lD w _ hw210_0)).trans hw210_0), ((HB.out.cell (lD w _ hw210_1)).trans hw210_1), ((HB.out.cell (lD w _ hw210_2)).trans hw210_2), ((HB.out.cell (lD w _ hw210_3)).trans hw210_3), ((HB.out.cell (lD w _ hw210_4)).trans hw210_4)⟩ (fun hHeld => ?_)
          clear hK K
          refine bJ (a' := ?_) ?_ ?_
          rotate_left
          ·show Act.put _ (some 35) _ = _
           simp only [Act.put, lA, lB, lC, aU, aV]
           rfl
          refine aW (i := 6) (N := some 36) (v := ?_) (a' := ?_) #[true, true, true, true, true, true, true] rfl rfl (by kernel_rfl) (fun _ _ _ h => h) (Or.inl ⟨by rfl, ?_⟩) ?_ ?_
          rotate_left
          ·intro w'
           go_simp
           with_reducible rfl
          rotate_left
          ·simp only [Act.put, lA, lB, lC, aU, aV]
           rfl
          refine done_ (by kernel_rfl) ?_
          try go_wp2
          go_roundg kj6
          case measure => have := HK1.out; have := HJ6.out; omega
          case rel => exact ⟨(x5_1), (x6_1), (wrap64 (x7_1 + 1)), (by first | rfl | (simp; done) | (simp [*]; done)), (by first | rfl | (simp; done) | (simp [*]; done)), H', ⟨by have := HK1.out; have := HJ6.out; omega⟩, ⟨by (with_reducible repeat (first | apply Kd.bQ | apply Kd.bR | apply Kd.bU)); exact HO_5.out⟩, ⟨by (with_reducible repeat (first | refine aM ?_ _ | refine aJ ?_ | refine aK ?_ _)); exact BK192.out⟩, ⟨by repeat (first | (with_reducible first | exact HB.out | apply aN | apply aE | apply aH | refine aC ?_ GE192.out) | exact HB.out)⟩⟩
         ·replace c33 := Bool.eq_false_iff.mpr c33
          subst c33
          have H1 : (if x5_1.length < 3518437208883 then (spec_SetPut.l0 kj6 l0 (x5_1 ++ [(⟨(rd_T27 l0 x7_1).f0, (rd_T27 l0 x7_1).f1, (rd_T27 l0 x7_1).f2, (rd_T27 l0 x7_1).f3, (rd_T27 l0 x7_1).f4⟩ : S27)]) x6_1 (wrap64 (x7_1 + 1)) a1_0 a1_1 a1_2 a1_3 a1_4) else (none)) = some r := by rw [if_neg (show ¬ (false = true) by decide)] at H; exact H
          clear H
          have H := H1
          clear H1
          by_cases c36 : x5_1.length < 3518437208883
          ·rw [if_pos c36] at H
           have LMc36 := aA.mk c36
           clear c36
           obtain ⟨y213, hy213⟩ : ∃ y_ : List (S27), y_ = (x5_1 ++ [(⟨(rd_T27 l0 x7_1).f0, (rd_T27 l0 x7_1).f1, (rd_T27 l0 x7_1).f2, (rd_T27 l0 x7_1).f3, (rd_T27 l0 x7_1).f4⟩ : S27)]) := ⟨_, rfl⟩
           replace H : (spec_SetPut.l0 kj6 l0 y213 x6_1 (wrap64 (x7_1 + 1)) a1_0 a1_1 a1_2 a1_3 a1_4) = some r := by first | (rw [hy213]; with_reducible exact H) | (have H2_ := (Option.bind_some _ _).symm.trans H; rw [hy213]; with_reducible exact H2_) | (have H2_ := (Option.bind_some _ _).symm.trans H; with_reducible exact H2_) | with_reducible exact H | (rw [hy213]; exact H) | exact H
           have Ny213 := aA.mk hy213
           clear hy213
           have H' := aA.mk H
           clear H
           try go_wp2
           replace HO_5 := aA.mk (Kd.bU HO_5.out)
           replace BK192 := aA.mk (aJ BK192.out)
           replace HB := aA.mk (aH HB.out)
           have p210 : 0 ≤ (x7_1 : Int) := lE (by assumption)
           have q210 : x7_1 < (l0.length : Int) := lE (by assumption)
           obtain ⟨ad210, e210, hx210_0, hx210_1, hx210_2, hx210_3, hx210_4⟩ := at_T27 HR0.out x7_1 p210 q210
           have hw210_4 := hx210_4
           have hw210_3 := hx210_3
           have hw210_2 := hx210_2
           have hw210_1 := hx210_1
           have hw210_0 := hx210_0
           cases e210
           replace hx210_0 := (HB.out.cell (lD w _ hx210_0)).trans hx210_0
           replace hx210_1 := (HB.out.cell (lD w _ hx210_1)).trans hx210_1
           replace hx210_2 := (HB.out.cell (lD w _ hx210_2)).trans hx210_2
           replace hx210_3 := (HB.out.cell (lD w _ hx210_3)).trans hx210_3
           replace hx210_4 := (HB.out.cell (lD w _ hx210_4)).trans hx210_4
           replace p210 := eq_true p210
           replace q210 := eq_true q210
           refine start_ (n := 7) (S := fun w' => w'.cell? ⟨gb192, 0, none⟩ = some (.int .i64 a1_0) ∧ w'.cell? ⟨gb192, 1, none⟩ = some (.int .i64 a1_1) ∧ w'.cell? ⟨gb192, 2, none⟩ = some (.int .i64 a1_2) ∧ w'.cell? ⟨gb192, 3, none⟩ = some (.int .i64 a1_3) ∧ w'.cell? ⟨gb192, 4, none⟩ = some (.int .i64 a1_4) ∧ w'.cell? (ad210.add ((x7_1).toNat * 5)) = some (.int .i64 ((rd_T27 l0 x7_1).f0)) ∧ w'.cell? ⟨(ad210.add ((x7_1).toNat * 5)).block, (ad210.add ((x7_1).toNat * 5)).off + 1, none⟩ = some (.int .i64 ((rd_T27 l0 x7_1).f1)) ∧ w'.cell? ⟨(ad210.add ((x7_1).toNat * 5)).block, (ad210.add ((x7_1).toNat * 5)).off + 2, none⟩ = some (.int .i64 ((rd_T27 l0 x7_1).f2)) ∧ w'.cell? ⟨(ad210.add ((x7_1).toNat * 5)).block, (ad210.add ((x7_1).toNat * 5)).off + 3, none⟩ = some (.int .i64 ((rd_T27 l0 x7_1).f3)) ∧ w'.cell? ⟨(ad210.add ((x7_1).toNat * 5)).block, (ad210.add ((x7_1).toNat * 5)).off + 4, none⟩ = some (.int .i64 ((rd_T27 l0 x7_1).f4))) (ds := []) #[false, false, false, false, false, false, false] (by kernel_rfl) rfl rfl ⟨(aD BK192.out 0).trans rfl, (aD BK192.out 1).trans rfl, (aD BK192.out 2).trans rfl, (aD BK192.out 3).trans rfl, (aD BK192.out 4).trans rfl, ((HB.out.cell (lD w _ hw210_0)).trans hw210_0), ((HB.out.cell (lD w _ hw210_1)).trans hw210_1), ((HB.out.cell (lD w _ hw210_2)).trans hw210_2), ((HB.out.cell (lD w _ hw210_3)).trans hw210_3), ((HB.out.cell (lD w _ hw210_4)).trans hw210_4)⟩ (fun hHeld => ?_)
           generalize wc.drew = w37 at HO_5 BK192 HB hx210_0 hx210_1 hx210_2 hx210_3 hx210_4 hHeld ⊢
           refine aW (i := 0) (N := some 30) (v := ?_) (a' := ?_) #[true, false, false, false, false, false, false] rfl rfl (by kernel_rfl) (fun _ _ _ h => h) (Or.inl ⟨by rfl, ?_⟩) ?_ ?_
           rotate_left
           ·intro w'
            go_simp
            with_reducible rfl
           rotate_left
           ·simp only [Act.put, lA, lB, lC, aU, aV]
            rfl
           refine aW (i := 1) (N := some 31) (v := ?_) (a' := ?_) #[true, true, false, false, false, false, false] rfl rfl (by kernel_rfl) (fun _ _ _ h => h) (Or.inl ⟨by rfl, ?_⟩) ?_ ?_
           rotate_left
           ·intro w'
            go_simp
            with_reducible rfl
           rotate_left
           ·simp only [Act.put, lA, lB, lC, aU, aV]
            rfl
           refine aW (i := 2) (N := some 32) (v := ?_) (a' := ?_) #[true, true, true, false, false, false, false] rfl rfl (by kernel_rfl) (fun _ _ _ h => h) (Or.inl ⟨by rfl, ?_⟩) ?_ ?_
           rotate_left
           ·intro w'
            go_simp
            with_reducible rfl
           rotate_left
           ·simp only [Act.put, lA, lB, lC, aU, aV]
            rfl
           refine take_ (i := 3) (N := some 33) (v := ?_) (a' := ?_) #[true, true, true, true, false, false, false] rfl rfl (by kernel_rfl) (fun _ _ _ h => h) (Or.inl ⟨by rfl, ?_⟩) hHeld ?_ ?_
           rotate_left
           ·rintro w' ⟨s0, s1, s2, s3, s4, s5, s6, s7, s8, s9⟩
            go_simp
            with_reducible rfl
           rotate_left
           ·simp only [Act.put, lA, lB, lC, aU, aV]
            rfl
           refine take_ (i := 4) (N := some 34) (v := ?_) (a' := ?_) #[true, true, true, true, true, false, false] rfl rfl (by kernel_rfl) (fun _ _ _ h => h) (Or.inl ⟨by rfl, ?_⟩) hHeld ?_ ?_
           rotate_left
           ·rintro w' ⟨s0, s1, s2, s3, s4, s5, s6, s7, s8, s9⟩
            go_simp
            with_reducible rfl
           rotate_left
           ·simp only [Act.put, lA, lB, lC, aU, aV]
            rfl
           refine one_ (i := 5) (N := some 35) #[true, true, true, true, true, true, false] rfl rfl (by kernel_rfl) (by decide) (fun K hK => ?_)
           refine goes_ Try.func94 (by kernel_rfl) rfl #[.agg #[.int .i64 ((rd_T27 l0 x7_1).f0), .int .i64 ((rd_T27 l0 x7_1).f1), .int .i64 ((rd_T27 l0 x7_1).f2), .int .i64 ((rd_T27 l0 x7_1).f3), .int .i64 ((rd_T27 l0 x7_1).f4)], .agg #[.int .i64 a1_0, .int .i64 a1_1, .int .i64 a1_2, .int .i64 a1_3, .int .i64 a1_4]] (by rfl) rfl rfl (by (try simp only [List.map_toArray, List.map_cons, List.map_nil]); first | done | rfl) ?_
           with_reducible refine (spec_SameSpot.calls ((rd_T27 l0 x7_1).f0) ((rd_T27 l0 x7_1).f1) ((rd_T27 l0 x7_1).f2) ((rd_T27 l0 x7_1).f3) ((rd_T27 l0 x7_1).f4) a1_0 a1_1 a1_2 a1_3 a1_4 false _ A32.out).mono ?_
           rintro e w38 ⟨rfl, hb⟩
           refine ⟨_, rfl, ?_⟩
           replace HO_5 := aA.mk (Kd.R_below HO_5.out hb)
           replace BK192 := aA.mk (aG (g := gb192) (o := .cells #[.int .i64 a1_0, .int .i64 a1_1, .int .i64 a1_2, .int .i64 a1_3, .int .i64 a1_4] 27 (0, 0)) BK192.out hb)
           replace HB := aA.mk (aT HB.out hb)
           (try clear hb)
           (try clear hb2)
           (try clear hk)
           (try clear hi)
           refine hK.out _ _ ⟨(aD BK192.out 0).trans rfl, (aD BK192.out 1).trans rfl, (aD BK192.out 2).trans rfl, (aD BK192.out 3).trans rfl, (aD BK192.out 4).trans rfl, ((HB.out.cell (lD w _ hw210_0)).trans hw210_0), ((HB.out.cell (lD w _ hw210_1)).trans hw210_1), ((HB.out.cell (lD w _ hw210_2)).trans hw210_2), ((HB.out.cell (lD w _ hw210_3)).trans hw210_3), ((HB.out.cell (lD w _ hw210_4)).trans hw210_4)⟩ (fun hHeld => ?_)
           clear hK K
           refine bJ (a' := ?_) ?_ ?_
           rotate_left
           ·show Act.put _ (some 35) _ = _
            simp only [Act.put, lA, lB, lC, aU, aV]
            rfl
           refine aW (i := 6) (N := some 36) (v := ?_) (a' := ?_) #[true, true, true, true, true, true, true] rfl rfl (by kernel_rfl) (fun _ _ _ h => h) (Or.inl ⟨by rfl, ?_⟩) ?_ ?_
           rotate_left
           ·intro w'
            go_simp
            with_reducible rfl
           rotate_left
           ·simp only [Act.put, lA, lB, lC, aU, aV]
            rfl
           refine done_ (by kernel_rfl) ?_
           have p212 : 0 ≤ (x7_1 : Int) := lE (by assumption)
           have q212 : x7_1 < (l0.length : Int) := lE (by assumption)
           obtain ⟨ad212, e212, hx212_0, hx212_1, hx212_2, hx212_3, hx212_4⟩ := at_T27 HR0.out x7_1 p212 q212
           obtain rfl : ad210 = ad212 := (by injection e212)
           replace hx212_0 := (HB.out.cell (lD w _ hx212_0)).trans hx212_0
           replace hx212_1 := (HB.out.cell (lD w _ hx212_1)).trans hx212_1
           replace hx212_2 := (HB.out.cell (lD w _ hx212_2)).trans hx212_2
           replace hx212_3 := (HB.out.cell (lD w _ hx212_3)).trans hx212_3
           replace hx212_4 := (HB.out.cell (lD w _ hx212_4)).trans hx212_4
           replace p212 := eq_true p212
           replace q212 := eq_true q212
           try go_wp2_with (first | ((with_reducible refine gate_builtin (b := .append) (xs := #[.tmp 37, .tmp 42]) rfl ?_); at_builtin; refine Kd.R_append k27 (w0 := w) w.heap.size rfl (.tmp 37) (.tmp 42) 40 27 (.agg #[(.int .i64 0), (.int .i64 0), (.int .i64 0), (.int .i64 0), (.int .i64 0)]) 40 rfl Try.underlying40 info27 rfl (by decide) (by omega) u5 x5_1 (⟨(rd_T27 l0 x7_1).f0, (rd_T27 l0 x7_1).f1, (rd_T27 l0 x7_1).f2, (rd_T27 l0 x7_1).f3, (rd_T27 l0 x7_1).f4⟩ : S27) [.int .i64 ((rd_T27 l0 x7_1).f0), .int .i64 ((rd_T27 l0 x7_1).f1), .int .i64 ((rd_T27 l0 x7_1).f2), .int .i64 ((rd_T27 l0 x7_1).f3), .int .i64 ((rd_T27 l0 x7_1).f4)] (fun k_ => k_ ≠ gb192) (fun _ => False) rfl rfl ?aP (fun _ hk => hk.elim) ?aF ?aO ?aB ?aS ?aL ?_; (case aP => exact k27_mkM _ _ _ (⟨(rd_T27 l0 x7_1).f0, (rd_T27 l0 x7_1).f1, (rd_T27 l0 x7_1).f2, (rd_T27 l0 x7_1).f3, (rd_T27 l0 x7_1).f4⟩ : S27)); (case aB => exact HB.out); (case aF => exact (fun k_ hk => Kd.freshB (g := gb192) (o := .cells #[.int .i64 a1_0, .int .i64 a1_1, .int .i64 a1_2, .int .i64 a1_3, .int .i64 a1_4] 27 (0, 0)) BK192.out k_ hk)); (case aO => exact HO_5.out); (case aS => exact (aQ HB.out)); (case aL => have := LMc36.out; omega); intro v214 w39 ho hb hg hat; rw [← Ny213.out] at ho; replace BK192 := aA.mk (blk_grown (g := gb192) (o := .cells #[.int .i64 a1_0, .int .i64 a1_1, .int .i64 a1_2, .int .i64 a1_3, .int .i64 a1_4] 27 (0, 0)) BK192.out hg (Kd.R_away HO_5.out (fun _ hk => hk))); replace HB := aA.mk (hb); have HO215 := aA.mk (ho); clear HO_5; clear ho hb hg hat))
           go_roundg kj6
           case measure => have := HK1.out; have := HJ6.out; omega
           case rel => exact ⟨(y213), (x6_1), (wrap64 (x7_1 + 1)), (by first | rfl | (simp; done) | (simp [*]; done)), (by first | rfl | (simp; done) | (simp [*]; done)), H', ⟨by have := HK1.out; have := HJ6.out; omega⟩, ⟨by (with_reducible repeat (first | apply Kd.bQ | apply Kd.bR | apply Kd.bU)); exact HO215.out⟩, ⟨by (with_reducible repeat (first | refine aM ?_ _ | refine aJ ?_ | refine aK ?_ _)); exact BK192.out⟩, ⟨by repeat (first | (with_reducible first | exact HB.out | apply aN | apply aE | apply aH | refine aC ?_ GE192.out) | exact HB.out)⟩⟩
          ·rw [if_neg c36] at H
           exact absurd H (by simp)
        ·rw [if_neg c31] at H
         exact absurd H (by simp)
       ·rw [if_neg c30] at H
        exact absurd H (by simp)
   ·rw [if_neg c6] at H
    have c6b0 : decide (x7_1 < (l0.length : Int)) = false := decide_eq_false c6
    clear c6
    by_cases c40 : x6_1 = true
    ·subst c40
     have H1 : (some x5_1) = some r := by rw [if_pos rfl] at H; exact H
     clear H
     have H := H1
     clear H1
     obtain rfl := Option.some.inj H
     go_wp2
     go_ret
     exact ⟨_, by first | rfl | (simp [errW_none, errW_some] <;> rfl) | (simp [*, errW_none, errW_some] <;> rfl), by (with_reducible repeat (first | apply Kd.bQ | apply Kd.bR | apply Kd.bU)); exact Kd.bK HO_5.out (fun _ hk => trivial), by repeat (first | (with_reducible first | exact HB.out | apply aN | apply aE | apply aH | refine aC ?_ GE192.out) | exact HB.out)⟩
    ·replace c40 := Bool.eq_false_iff.mpr c40
     subst c40
     have H1 : (if x5_1.length < 3518437208883 then (some (x5_1 ++ [(⟨a1_0, a1_1, a1_2, a1_3, a1_4⟩ : S27)])) else (none)) = some r := by rw [if_neg (show ¬ (false = true) by decide)] at H; exact H
     clear H
     have H := H1
     clear H1
     by_cases c41 : x5_1.length < 3518437208883
     ·rw [if_pos c41] at H
      have LMc41 := aA.mk c41
      clear c41
      obtain ⟨y196, hy196⟩ : ∃ y_ : List (S27), y_ = (x5_1 ++ [(⟨a1_0, a1_1, a1_2, a1_3, a1_4⟩ : S27)]) := ⟨_, rfl⟩
      replace H : (some y196) = some r := by first | (rw [hy196]; with_reducible exact H) | (have H2_ := (Option.bind_some _ _).symm.trans H; rw [hy196]; with_reducible exact H2_) | (have H2_ := (Option.bind_some _ _).symm.trans H; with_reducible exact H2_) | with_reducible exact H | (rw [hy196]; exact H) | exact H
      have Ny196 := aA.mk hy196
      clear hy196
      obtain rfl := Option.some.inj H
      obtain ⟨hcz42_0, hcz42_1, hcz42_2, hcz42_3, hcz42_4⟩ := cs5 BK192.out
      obtain ⟨hfz42_0, hfz42_1, hfz42_2, hfz42_3, hfz42_4⟩ := fs5 BK192.out
      go_wp2_with (first | ((with_reducible refine gate_builtin (b := .append) (xs := #[.tmp 46, .tmp 48]) rfl ?_); at_builtin; refine Kd.R_append k27 (w0 := w) w.heap.size rfl (.tmp 46) (.tmp 48) 40 27 (.agg #[(.int .i64 0), (.int .i64 0), (.int .i64 0), (.int .i64 0), (.int .i64 0)]) 40 rfl Try.underlying40 info27 rfl (by decide) (by omega) u5 x5_1 (⟨a1_0, a1_1, a1_2, a1_3, a1_4⟩ : S27) [.int .i64 a1_0, .int .i64 a1_1, .int .i64 a1_2, .int .i64 a1_3, .int .i64 a1_4] (fun k_ => k_ ≠ gb192) (fun _ => False) rfl rfl ?aP (fun _ hk => hk.elim) ?aF ?aO ?aB ?aS ?aL ?_; (case aP => exact k27_mkM _ _ _ (⟨a1_0, a1_1, a1_2, a1_3, a1_4⟩ : S27)); (case aB => exact HB.out); (case aF => exact (fun k_ hk => Kd.freshB (g := gb192) (o := .cells #[.int .i64 a1_0, .int .i64 a1_1, .int .i64 a1_2, .int .i64 a1_3, .int .i64 a1_4] 27 (0, 0)) BK192.out k_ hk)); (case aO => exact HO_5.out); (case aS => exact (aQ HB.out)); (case aL => have := LMc41.out; omega); intro v197 w43 ho hb hg hat; rw [← Ny196.out] at ho; replace BK192 := aA.mk (blk_grown (g := gb192) (o := .cells #[.int .i64 a1_0, .int .i64 a1_1, .int .i64 a1_2, .int .i64 a1_3, .int .i64 a1_4] 27 (0, 0)) BK192.out hg (Kd.R_away HO_5.out (fun _ hk => hk))); replace HB := aA.mk (hb); have HO198 := aA.mk (ho); clear HO_5; clear ho hb hg hat))
      go_ret
      exact ⟨_, by first | rfl | (simp [errW_none, errW_some] <;> rfl) | (simp [*, errW_none, errW_some] <;> rfl), by (with_reducible repeat (first | apply Kd.bQ | apply Kd.bR | apply Kd.bU)); exact Kd.bK HO198.out (fun _ hk => trivial), by repeat (first | (with_reducible first | exact HB.out | apply aN | apply aE | apply aH | refine aC ?_ GE192.out) | exact HB.out)⟩
     ·rw [if_neg c41] at H
      exact absurd H (by simp)
end Go.Proofs.Ythpfihklkcnckaa.PFnExactNodePut

namespace Go.Proofs.Ythpfihklkcnckaa.PFnExactNodePut
open Go.RowKit Go.Proofs.YthpfihklkcnckaaW.PrintWords Go.Proofs.YthpfihklkcnckaaW.PrintLast Go.Proofs.YthpfihklkcnckaaW.PrintMore
attribute [local go_sem] max2_int min2_int max_two min_two max_three min_three max_four min_four   -- for this text's walks alone
set_option linter.unusedVariables false
set_option linter.unusedSimpArgs false
def spec_MergeSets.l0 : Nat → List (S27) → List (S27) → Int → Option ((List (S27)))
 | 0, _, _, _ => none
 | k + 1, x1, x5, x6 => if x6 < (x1.length : Int) then (if 0 ≤ x6 then ((spec_SetPut.f k x5 ((rd_T27 x1 x6).f0) ((rd_T27 x1 x6).f1) ((rd_T27 x1 x6).f2) ((rd_T27 x1 x6).f3) ((rd_T27 x1 x6).f4)).bind fun t223 => (spec_MergeSets.l0 k x1 t223 (wrap64 (x6 + 1)))) else (none)) else (some x5)
def spec_MergeSets.f (k : Nat) (l0 : List (S27)) (l1 : List (S27)) : Option ((List (S27))) := (some (([] : List (S27)) : List (S27))).bind fun y216 => (if y216.length + l0.length < 3518437208883 then (spec_MergeSets.l0 k l1 (y216 ++ l0) 0) else (none))
set_option maxHeartbeats 8000000 in
set_option maxRecDepth 100000 in
theorem spec_MergeSets.calls (k : Nat) (A0 : Option Addr) (c0 : Nat) (l0 : List (S27)) (A1 : Option Addr) (c1 : Nat) (l1 : List (S27)) (r : List (S27)) (w : World) (hr0 : Kd.C k27 w A0 l0.length l0) (hc0 : l0.length ≤ c0) (hr1 : Kd.C k27 w A1 l1.length l1) (hc1 : l1.length ≤ c1) (h : spec_MergeSets.f k l0 l1 = some r) :
  Calls Try.prog 64 #[.slice A0 l0.length c0, .slice A1 l1.length c1] w fun e w' => ∃ v0_ : Value, e = .returned (v0_) ∧ Kd.R k27 27 w' w.heap.size (fun _ => True) v0_ r ∧ Below w.heap.size w w' := by
 have hu27 := Try.underlying27
 have HR0 := aA.mk hr0
 have HC0 := aA.mk hc0
 clear hr0 hc0
 have HR1 := aA.mk hr1
 have HC1 := aA.mk hc1
 clear hr1 hc1
 have HB := aA.mk (Below.refl w.heap.size w)
 have H : ((some (([] : List (S27)) : List (S27))).bind fun y216 => (if y216.length + l0.length < 3518437208883 then (spec_MergeSets.l0 k l1 (y216 ++ l0) 0) else (none))) = some r := h
 clear h
 obtain ⟨y216, hy216⟩ : ∃ y_ : List (S27), y_ = (([] : List (S27))) := ⟨_, rfl⟩
 replace H : (if y216.length + l0.length < 3518437208883 then (spec_MergeSets.l0 k l1 (y216 ++ l0) 0) else (none)) = some r := by first | (rw [hy216]; with_reducible exact H) | (have H2_ := (Option.bind_some _ _).symm.trans H; rw [hy216]; with_reducible exact H2_) | (have H2_ := (Option.bind_some _ _).symm.trans H; with_reducible exact H2_) | with_reducible exact H | (rw [hy216]; exact H) | exact H
 have Ny216 := aA.mk hy216
 clear hy216
 by_cases c3 : y216.length + l0.length < 3518437208883
 ·rw [if_pos c3] at H
  have LMc3 := aA.mk c3
  clear c3
  obtain ⟨y219, hy219⟩ : ∃ y_ : List (S27), y_ = (y216 ++ l0) := ⟨_, rfl⟩
  replace H : (spec_MergeSets.l0 k l1 y219 0) = some r := by first | (rw [hy219]; with_reducible exact H) | (have H2_ := (Option.bind_some _ _).symm.trans H; rw [hy219]; with_reducible exact H2_) | (have H2_ := (Option.bind_some _ _).symm.trans H; with_reducible exact H2_) | with_reducible exact H | (rw [hy219]; exact H) | exact H
  have Ny219 := aA.mk hy219
  clear hy219
  have H' := aA.mk H
  clear H
  go_enter Try.func64, Try.ntmps64
  go_wp2_with (first | ((with_reducible refine bA (N := 7) rfl ?_); refine Kd.R_lit k27 _ 27 ?hg (N := 7) ?hd (xs := ([] : List (S27))) (inner := []) (ok := fun _ => True) (okp := fun _ => True) ?hr ?hp (fun _ hk => hk) trivial (Below.refl _ _) (Nat.le_refl _) (by simp) ?_; (case hd => rfl); (case hg => rfl); (case hr => first | (go_simp; done) | (go_simp; rfl)); (case hp => exact (Reps.none _ _)); intro v217 w4 ho5 hb hg_ hnew_; clear hg_ hnew_; (first | rw [← Ny216.out] at ho5 | (simp only [Int.reduceToNat] at ho5; rw [← Ny216.out] at ho5)); have HO218 := aA.mk (Kd.R_lower ho5 (aQ HB.out)); replace HB := aA.mk (aT HB.out hb); clear hb ho5) | ((with_reducible refine gate_builtin (b := .append) (xs := #[.tmp 7, .tmp 8]) rfl ?_); at_builtin; refine Kd.R_append_rows k27 (w0 := w) w.heap.size rfl (.tmp 7) (.tmp 8) 40 27 (.agg #[(.int .i64 0), (.int .i64 0), (.int .i64 0), (.int .i64 0), (.int .i64 0)]) 40 rfl Try.underlying40 info27 rfl (by decide) (by omega) v217 y216 l0 _ _ _ (fun _ => True) (fun _ => False) rfl rfl ?aO ?aR (fun _ _ h => h) (fun _ h => h.elim) ?aF ?aB ?aS ?aL ?_; (case aR => exact (Kd.bN HR0.out HB.out)); (case aB => exact HB.out); (case aF => exact (fun _ _ => trivial)); (case aO => exact HO218.out); (case aS => exact (aQ HB.out)); (case aL => have := LMc3.out; omega); intro v220 w6 ho hb hg hat; rw [← Ny219.out] at ho; replace HB := aA.mk (hb); have HO221 := aA.mk (ho); clear HO218; clear ho hb hg hat))
  go_loopg [5, 6] k (fun kq v5 v6 w' => ∃ (x5_1 : List (S27)) (x6_1 : Int), v6 = .int .i64 x6_1 ∧ aA (spec_MergeSets.l0 kq l1 x5_1 x6_1 = some r) ∧ aA (kq ≤ k) ∧ aA (Kd.R k27 27 w' w.heap.size (fun _ => True) v5 x5_1) ∧ aA (Below w.heap.size w w'))
  case atStart => exact ⟨(y219), (0), (by first | rfl | (simp; done) | (simp [*]; done)), H', ⟨Nat.le_refl _⟩, ⟨by (with_reducible repeat (first | apply Kd.bQ | apply Kd.bR | apply Kd.bU)); exact HO221.out⟩, ⟨by repeat (first | (with_reducible first | exact HB.out | apply aN | apply aE | apply aH) | exact HB.out)⟩⟩
  case round =>
   clear H'
   try clear c1
   try clear p2
   try clear c3
   try clear c6
   obtain ⟨x5_1, x6_1, rfl, HA, HK1, HO_5, HB⟩ := hrel
   cases gk with
   | zero => exact absurd HA.out (by simp [spec_MergeSets.l0])
   | succ k1 =>
    have H := HA.out
    clear HA
    simp only [spec_MergeSets.l0] at H
    by_cases c7 : x6_1 < (l1.length : Int)
    ·rw [if_pos c7] at H
     have c7b0 : decide (x6_1 < (l1.length : Int)) = true := decide_eq_true c7
     clear c7
     by_cases c8 : 0 ≤ x6_1
     ·rw [if_pos c8] at H
      have c8b0 : decide (0 ≤ x6_1) = true := decide_eq_true c8
      clear c8
      replace H := lF H
      obtain ⟨t223, A90, H⟩ := H
      replace H : (spec_MergeSets.l0 k1 l1 t223 (wrap64 (x6_1 + 1))) = some r := H
      have A9 := aA.mk A90
      clear A90
      have H' := aA.mk H
      clear H
      have p222 : 0 ≤ (x6_1 : Int) := lE (by assumption)
      have q222 : x6_1 < (l1.length : Int) := lE (by assumption)
      obtain ⟨ad222, e222, hx222_0, hx222_1, hx222_2, hx222_3, hx222_4⟩ := at_T27 HR1.out x6_1 p222 q222
      cases e222
      replace hx222_0 := (HB.out.cell (lD w _ hx222_0)).trans hx222_0
      replace hx222_1 := (HB.out.cell (lD w _ hx222_1)).trans hx222_1
      replace hx222_2 := (HB.out.cell (lD w _ hx222_2)).trans hx222_2
      replace hx222_3 := (HB.out.cell (lD w _ hx222_3)).trans hx222_3
      replace hx222_4 := (HB.out.cell (lD w _ hx222_4)).trans hx222_4
      replace p222 := eq_true p222
      replace q222 := eq_true q222
      obtain ⟨Ao10, co10, eo10⟩ := Kd.R_slice HO_5.out
      subst eo10
      go_wp2_with (first | ((with_reducible refine bD (f := 69) rfl ?_); refine bL (some 21) rfl rfl Try.func69 (by kernel_rfl) rfl #[.slice Ao10 x5_1.length co10, .agg #[.int .i64 ((rd_T27 l1 x6_1).f0), .int .i64 ((rd_T27 l1 x6_1).f1), .int .i64 ((rd_T27 l1 x6_1).f2), .int .i64 ((rd_T27 l1 x6_1).f3), .int .i64 ((rd_T27 l1 x6_1).f4)]] rfl (by (try simp only [List.map_toArray, List.map_cons, List.map_nil]); first | done | rfl) ?_; (with_reducible refine (spec_SetPut.calls k1 _ _ x5_1 ((rd_T27 l1 x6_1).f0) ((rd_T27 l1 x6_1).f1) ((rd_T27 l1 x6_1).f2) ((rd_T27 l1 x6_1).f3) ((rd_T27 l1 x6_1).f4) t223 _ ?side1 ?side2 A9.out).mono ?_); (case side1 => repeat (first | exact (Kd.R_reads' HO_5.out).2.2 | (with_reducible refine Kd.C_alloc ?_ _) | (with_reducible refine Kd.C_drewN ?_ _) | (with_reducible refine Kd.C_drew ?_))); (case side2 => exact (Kd.R_reads' HO_5.out).2.1); rintro e w11 ⟨v224, rfl, ho0, hb⟩; refine ⟨_, rfl, ?_⟩; have HO225 := aA.mk (Kd.R_lower (Kd.R_new' ho0 (Kd.R_lt HO_5.out)) (aQ HB.out)); replace HO_5 := aA.mk (Kd.R_elder' HO_5.out (Kd.R_base ho0) hb); replace HB := aA.mk (aT HB.out hb); (try clear hb); (try clear ho0)))
      go_roundg k1
      case measure => have := HK1.out; omega
      case rel => exact ⟨(t223), (wrap64 (x6_1 + 1)), (by first | rfl | (simp; done) | (simp [*]; done)), H', ⟨by have := HK1.out; omega⟩, ⟨by (with_reducible repeat (first | apply Kd.bQ | apply Kd.bR | apply Kd.bU)); exact Kd.bK HO225.out (fun _ hk => trivial)⟩, ⟨by repeat (first | (with_reducible first | exact HB.out | apply aN | apply aE | apply aH) | exact HB.out)⟩⟩
     ·rw [if_neg c8] at H
      exact absurd H (by simp)
    ·rw [if_neg c7] at H
     have c7b0 : decide (x6_1 < (l1.length : Int)) = false := decide_eq_false c7
     clear c7
     obtain rfl := Option.some.inj H
     go_wp2
     go_ret
     exact ⟨_, by first | rfl | (simp [errW_none, errW_some] <;> rfl) | (simp [*, errW_none, errW_some] <;> rfl), by (with_reducible repeat (first | apply Kd.bQ | apply Kd.bR | apply Kd.bU)); exact HO_5.out, by repeat (first | (with_reducible first | exact HB.out | apply aN | apply aE | apply aH) | exact HB.out)⟩
 ·rw [if_neg c3] at H
  exact absurd H (by simp)
def spec_Drop.l0 : Nat → List (S27) → List (S27) → Int → Option ((List (S27)))
 | 0, _, _, _ => none
 | k + 1, x0, x3, x4 => if x4 < (x0.length : Int) then (if 0 ≤ x4 then (if ((rd_T27 x0 x4).f2) = 0 then (spec_Drop.l0 k x0 x3 (wrap64 (x4 + 1))) else (if x3.length < 3518437208883 then (spec_Drop.l0 k x0 (x3 ++ [(⟨(rd_T27 x0 x4).f0, (rd_T27 x0 x4).f1, (rd_T27 x0 x4).f2, (rd_T27 x0 x4).f3, (rd_T27 x0 x4).f4⟩ : S27)]) (wrap64 (x4 + 1))) else (none))) else (none)) else (some x3)
def spec_Drop.f (k : Nat) (l0 : List (S27)) : Option ((List (S27))) := spec_Drop.l0 k l0 (([] : List (S27))) 0
set_option maxHeartbeats 8000000 in
set_option maxRecDepth 100000 in
theorem spec_Drop.calls (k : Nat) (A0 : Option Addr) (c0 : Nat) (l0 : List (S27)) (r : List (S27)) (w : World) (hr0 : Kd.C k27 w A0 l0.length l0) (hc0 : l0.length ≤ c0) (h : spec_Drop.f k l0 = some r) :
  Calls Try.prog 65 #[.slice A0 l0.length c0] w fun e w' => ∃ v0_ : Value, e = .returned (v0_) ∧ Kd.R k27 27 w' w.heap.size (fun _ => True) v0_ r ∧ Below w.heap.size w w' := by
 have hu27 := Try.underlying27
 have HR0 := aA.mk hr0
 have HC0 := aA.mk hc0
 clear hr0 hc0
 have HB := aA.mk (Below.refl w.heap.size w)
 have H : (spec_Drop.l0 k l0 (([] : List (S27))) 0) = some r := h
 clear h
 obtain ⟨y226, hy226⟩ : ∃ y_ : List (S27), y_ = (([] : List (S27))) := ⟨_, rfl⟩
 replace H : (spec_Drop.l0 k l0 y226 0) = some r := by first | (rw [hy226]; with_reducible exact H) | (have H2_ := (Option.bind_some _ _).symm.trans H; rw [hy226]; with_reducible exact H2_) | (have H2_ := (Option.bind_some _ _).symm.trans H; with_reducible exact H2_) | with_reducible exact H | (rw [hy226]; exact H) | exact H
 have Ny226 := aA.mk hy226
 clear hy226
 have H' := aA.mk H
 clear H
 go_enter Try.func65, Try.ntmps65
 go_wp2_with (first | ((with_reducible refine bA (N := 5) rfl ?_); refine Kd.R_lit k27 _ 27 ?hg (N := 5) ?hd (xs := ([] : List (S27))) (inner := []) (ok := fun _ => True) (okp := fun _ => True) ?hr ?hp (fun _ hk => hk) trivial (Below.refl _ _) (Nat.le_refl _) (by simp) ?_; (case hd => rfl); (case hg => rfl); (case hr => first | (go_simp; done) | (go_simp; rfl)); (case hp => exact (Reps.none _ _)); intro v227 w2 ho3 hb hg_ hnew_; clear hg_ hnew_; (first | rw [← Ny226.out] at ho3 | (simp only [Int.reduceToNat] at ho3; rw [← Ny226.out] at ho3)); have HO228 := aA.mk (Kd.R_lower ho3 (aQ HB.out)); replace HB := aA.mk (aT HB.out hb); clear hb ho3))
 go_loopg [3, 4] k (fun kq v3 v4 w' => ∃ (x3_1 : List (S27)) (x4_1 : Int), v4 = .int .i64 x4_1 ∧ aA (spec_Drop.l0 kq l0 x3_1 x4_1 = some r) ∧ aA (kq ≤ k) ∧ aA (Kd.R k27 27 w' w.heap.size (fun _ => True) v3 x3_1) ∧ aA (Below w.heap.size w w'))
 case atStart => exact ⟨(y226), (0), (by first | rfl | (simp; done) | (simp [*]; done)), H', ⟨Nat.le_refl _⟩, ⟨by (with_reducible repeat (first | apply Kd.bQ | apply Kd.bR | apply Kd.bU)); exact HO228.out⟩, ⟨by repeat (first | (with_reducible first | exact HB.out | apply aN | apply aE | apply aH) | exact HB.out)⟩⟩
 case round =>
  clear H'
  try clear p2
  obtain ⟨x3_1, x4_1, rfl, HA, HK1, HO_3, HB⟩ := hrel
  cases gk with
  | zero => exact absurd HA.out (by simp [spec_Drop.l0])
  | succ k1 =>
   have H := HA.out
   clear HA
   simp only [spec_Drop.l0] at H
   by_cases c4 : x4_1 < (l0.length : Int)
   ·rw [if_pos c4] at H
    have c4b0 : decide (x4_1 < (l0.length : Int)) = true := decide_eq_true c4
    clear c4
    by_cases c5 : 0 ≤ x4_1
    ·rw [if_pos c5] at H
     have c5b0 : decide (0 ≤ x4_1) = true := decide_eq_true c5
     clear c5
     by_cases c6 : ((rd_T27 l0 x4_1).f2) = 0
     ·rw [if_pos c6] at H
      have c6b0 : (((rd_T27 l0 x4_1).f2) == 0) = true := beq_iff_eq.mpr c6
      have c6b1 : (((rd_T27 l0 x4_1).f2) != 0) = false := bne_eq_false_iff_eq.mpr c6
      clear c6
      have H' := aA.mk H
      clear H
      have p229 : 0 ≤ (x4_1 : Int) := lE (by assumption)
      have q229 : x4_1 < (l0.length : Int) := lE (by assumption)
      obtain ⟨ad229, e229, hx229_0, hx229_1, hx229_2, hx229_3, hx229_4⟩ := at_T27 HR0.out x4_1 p229 q229
      cases e229
      replace hx229_0 := (HB.out.cell (lD w _ hx229_0)).trans hx229_0
      replace hx229_1 := (HB.out.cell (lD w _ hx229_1)).trans hx229_1
      replace hx229_2 := (HB.out.cell (lD w _ hx229_2)).trans hx229_2
      replace hx229_3 := (HB.out.cell (lD w _ hx229_3)).trans hx229_3
      replace hx229_4 := (HB.out.cell (lD w _ hx229_4)).trans hx229_4
      replace p229 := eq_true p229
      replace q229 := eq_true q229
      go_wp2
      go_roundg k1
      case measure => have := HK1.out; omega
      case rel => exact ⟨(x3_1), (wrap64 (x4_1 + 1)), (by first | rfl | (simp; done) | (simp [*]; done)), H', ⟨by have := HK1.out; omega⟩, ⟨by (with_reducible repeat (first | apply Kd.bQ | apply Kd.bR | apply Kd.bU)); exact HO_3.out⟩, ⟨by repeat (first | (with_reducible first | exact HB.out | apply aN | apply aE | apply aH) | exact HB.out)⟩⟩
     ·rw [if_neg c6] at H
      have c6b0 : (((rd_T27 l0 x4_1).f2) == 0) = false := beq_eq_false_iff_ne.mpr c6
      have c6b1 : (((rd_T27 l0 x4_1).f2) != 0) = true := bne_iff_ne.mpr c6
      by_cases c7 : x3_1.length < 3518437208883
      ·rw [if_pos c7] at H
       have LMc7 := aA.mk c7
       clear c7
       obtain ⟨y231, hy231⟩ : ∃ y_ : List (S27), y_ = (x3_1 ++ [(⟨(rd_T27 l0 x4_1).f0, (rd_T27 l0 x4_1).f1, (rd_T27 l0 x4_1).f2, (rd_T27 l0 x4_1).f3, (rd_T27 l0 x4_1).f4⟩ : S27)]) := ⟨_, rfl⟩
       replace H : (spec_Drop.l0 k1 l0 y231 (wrap64 (x4_1 + 1))) = some r := by first | (rw [hy231]; with_reducible exact H) | (have H2_ := (Option.bind_some _ _).symm.trans H; rw [hy231]; with_reducible exact H2_) | (have H2_ := (Option.bind_some _ _).symm.trans H; with_reducible exact H2_) | with_reducible exact H | (rw [hy231]; exact H) | exact H
       have Ny231 := aA.mk hy231
       clear hy231
       have H' := aA.mk H
       clear H
       have p229 : 0 ≤ (x4_1 : Int) := lE (by assumption)
       have q229 : x4_1 < (l0.length : Int) := lE (by assumption)
       obtain ⟨ad229, e229, hx229_0, hx229_1, hx229_2, hx229_3, hx229_4⟩ := at_T27 HR0.out x4_1 p229 q229
       cases e229
       replace hx229_0 := (HB.out.cell (lD w _ hx229_0)).trans hx229_0
       replace hx229_1 := (HB.out.cell (lD w _ hx229_1)).trans hx229_1
       replace hx229_2 := (HB.out.cell (lD w _ hx229_2)).trans hx229_2
       replace hx229_3 := (HB.out.cell (lD w _ hx229_3)).trans hx229_3
       replace hx229_4 := (HB.out.cell (lD w _ hx229_4)).trans hx229_4
       replace p229 := eq_true p229
       replace q229 := eq_true q229
       have p230 : 0 ≤ (x4_1 : Int) := lE (by assumption)
       have q230 : x4_1 < (l0.length : Int) := lE (by assumption)
       obtain ⟨ad230, e230, hx230_0, hx230_1, hx230_2, hx230_3, hx230_4⟩ := at_T27 HR0.out x4_1 p230 q230
       obtain rfl : ad229 = ad230 := (by injection e230)
       replace hx230_0 := (HB.out.cell (lD w _ hx230_0)).trans hx230_0
       replace hx230_1 := (HB.out.cell (lD w _ hx230_1)).trans hx230_1
       replace hx230_2 := (HB.out.cell (lD w _ hx230_2)).trans hx230_2
       replace hx230_3 := (HB.out.cell (lD w _ hx230_3)).trans hx230_3
       replace hx230_4 := (HB.out.cell (lD w _ hx230_4)).trans hx230_4
       replace p230 := eq_true p230
       replace q230 := eq_true q230
       go_wp2_with (first | ((with_reducible refine gate_builtin (b := .append) (xs := #[.tmp 18, .tmp 23]) rfl ?_); at_builtin; refine Kd.R_append k27 (w0 := w) w.heap.size rfl (.tmp 18) (.tmp 23) 40 27 (.agg #[(.int .i64 0), (.int .i64 0), (.int .i64 0), (.int .i64 0), (.int .i64 0)]) 40 rfl Try.underlying40 info27 rfl (by decide) (by omega) u3 x3_1 (⟨(rd_T27 l0 x4_1).f0, (rd_T27 l0 x4_1).f1, (rd_T27 l0 x4_1).f2, (rd_T27 l0 x4_1).f3, (rd_T27 l0 x4_1).f4⟩ : S27) [.int .i64 ((rd_T27 l0 x4_1).f0), .int .i64 ((rd_T27 l0 x4_1).f1), .int .i64 ((rd_T27 l0 x4_1).f2), .int .i64 ((rd_T27 l0 x4_1).f3), .int .i64 ((rd_T27 l0 x4_1).f4)] (fun _ => True) (fun _ => False) rfl rfl ?aP (fun _ hk => hk.elim) ?aF ?aO ?aB ?aS ?aL ?_; (case aP => exact k27_mkM _ _ _ (⟨(rd_T27 l0 x4_1).f0, (rd_T27 l0 x4_1).f1, (rd_T27 l0 x4_1).f2, (rd_T27 l0 x4_1).f3, (rd_T27 l0 x4_1).f4⟩ : S27)); (case aB => exact HB.out); (case aF => exact (fun _ _ => trivial)); (case aO => exact HO_3.out); (case aS => exact (aQ HB.out)); (case aL => have := LMc7.out; omega); intro v232 w8 ho hb hg hat; rw [← Ny231.out] at ho; replace HB := aA.mk (hb); have HO233 := aA.mk (ho); clear HO_3; clear ho hb hg hat))
       go_roundg k1
       case measure => have := HK1.out; omega
       case rel => exact ⟨(y231), (wrap64 (x4_1 + 1)), (by first | rfl | (simp; done) | (simp [*]; done)), H', ⟨by have := HK1.out; omega⟩, ⟨by (with_reducible repeat (first | apply Kd.bQ | apply Kd.bR | apply Kd.bU)); exact HO233.out⟩, ⟨by repeat (first | (with_reducible first | exact HB.out | apply aN | apply aE | apply aH) | exact HB.out)⟩⟩
      ·rw [if_neg c7] at H
       exact absurd H (by simp)
    ·rw [if_neg c5] at H
     exact absurd H (by simp)
   ·rw [if_neg c4] at H
    have c4b0 : decide (x4_1 < (l0.length : Int)) = false := decide_eq_false c4
    clear c4
    obtain rfl := Option.some.inj H
    go_wp2
    go_ret
    exact ⟨_, by first | rfl | (simp [errW_none, errW_some] <;> rfl) | (simp [*, errW_none, errW_some] <;> rfl), by (with_reducible repeat (first | apply Kd.bQ | apply Kd.bR | apply Kd.bU)); exact HO_3.out, by repeat (first | (with_reducible first | exact HB.out | apply aN | apply aE | apply aH) | exact HB.out)⟩
def spec_NodeKeys.l0 : Nat → List (S27) → Int → List (List (S27)) → Option ((List (S27)))
 | 0, _, _, _ => none
 | k + 1, x3, x4, x235000 => if x4 < (x235000.length : Int) then (if 0 ≤ x4 then ((spec_MergeSets.f k x3 (rd_L4 x235000 x4)).bind fun t239 => (spec_NodeKeys.l0 k t239 (wrap64 (x4 + 1)) x235000)) else (none)) else ((spec_Drop.f k x3).bind fun t242 => (some t242))
def spec_NodeKeys.f (k : Nat) (l0_0 : List (List (S27))) : Option ((List (S27))) := spec_NodeKeys.l0 k (([] : List (S27))) 0 l0_0
set_option maxHeartbeats 8000000 in
set_option maxRecDepth 100000 in
theorem spec_NodeKeys.calls (k : Nat) (A0_0 : Option Addr) (c0_0 : Nat) (l0_0 : List (List (S27))) (r : List (S27)) (w : World) (hr0_0 : Kd.C (Kd.slice 27 k27) w A0_0 l0_0.length l0_0) (hc0_0 : l0_0.length ≤ c0_0) (h : spec_NodeKeys.f k l0_0 = some r) :
  Calls Try.prog 30 #[.agg #[.slice A0_0 l0_0.length c0_0]] w fun e w' => ∃ v0_ : Value, e = .returned (v0_) ∧ Kd.R k27 27 w' w.heap.size (fun _ => True) v0_ r ∧ Below w.heap.size w w' := by
 have hu32 := Try.underlying32
 have HR0_0 := aA.mk hr0_0
 have HC0_0 := aA.mk hc0_0
 clear hr0_0 hc0_0
 have HB := aA.mk (Below.refl w.heap.size w)
 have H : (spec_NodeKeys.l0 k (([] : List (S27))) 0 l0_0) = some r := h
 clear h
 obtain ⟨y235, hy235⟩ : ∃ y_ : List (S27), y_ = (([] : List (S27))) := ⟨_, rfl⟩
 replace H : (spec_NodeKeys.l0 k y235 0 l0_0) = some r := by first | (rw [hy235]; with_reducible exact H) | (have H2_ := (Option.bind_some _ _).symm.trans H; rw [hy235]; with_reducible exact H2_) | (have H2_ := (Option.bind_some _ _).symm.trans H; with_reducible exact H2_) | with_reducible exact H | (rw [hy235]; exact H) | exact H
 have Ny235 := aA.mk hy235
 clear hy235
 have H' := aA.mk H
 clear H
 go_enter Try.func30, Try.ntmps30
 go_wp2_with (first | ((with_reducible refine bA (N := 1) rfl ?_); refine bC ?hg (N := 1) ?hd (cs := #[.slice A0_0 l0_0.length c0_0]) (t := 32) ?hr ?_; (case hd => rfl); (case hg => rfl); (case hr => first | (go_simp; done) | (go_simp; rfl)); intro gb234 hg w2 hbox hb; have BK234 := aA.mk (hbox); have GW234 := aA.mk ((by rw [hg]; exact (aQ HB.out) : w.heap.size ≤ gb234)); have GE234 := aA.mk ((by rw [hg]; exact (aQ HB.out) : w.heap.size ≤ gb234)); replace HB := aA.mk (aT HB.out hb); clear hb hbox hg) | ((with_reducible refine bA (N := 5) rfl ?_); refine Kd.R_lit k27 _ 27 ?hg (N := 5) ?hd (xs := ([] : List (S27))) (inner := []) (ok := fun _ => True) (okp := fun _ => True) ?hr ?hp (fun _ hk => hk) trivial (Below.refl _ _) (Nat.le_refl _) (by simp) ?_; (case hd => rfl); (case hg => rfl); (case hr => first | (go_simp; done) | (go_simp; rfl)); (case hp => exact (Reps.none _ _)); intro v236 w3 ho4 hb hg_ hnew_; clear hg_ hnew_; (first | rw [← Ny235.out] at ho4 | (simp only [Int.reduceToNat] at ho4; rw [← Ny235.out] at ho4)); have HO237 := aA.mk (Kd.R_lower ho4 (aQ HB.out)); replace BK234 := aA.mk (aG (g := gb234) (o := .cells #[.slice A0_0 l0_0.length c0_0] 32 (0, 0)) BK234.out hb); replace HB := aA.mk (aT HB.out hb); clear hb ho4))
 go_loopg [3, 4] k (fun kq v3 v4 w' => ∃ (x3_1 : List (S27)) (x4_1 : Int), v4 = .int .i64 x4_1 ∧ aA (spec_NodeKeys.l0 kq x3_1 x4_1 l0_0 = some r) ∧ aA (kq ≤ k) ∧ aA (Kd.R k27 27 w' w.heap.size (fun _ => True) v3 x3_1) ∧ aA (w'.heap[gb234]? = some (.cells #[(.slice A0_0 l0_0.length c0_0)] 32 (0, 0))) ∧ aA (Below w.heap.size w w'))
 case atStart => exact ⟨(y235), (0), (by first | rfl | (simp; done) | (simp [*]; done)), H', ⟨Nat.le_refl _⟩, ⟨by (with_reducible repeat (first | apply Kd.bQ | apply Kd.bR | apply Kd.bU)); exact HO237.out⟩, ⟨by (with_reducible repeat (first | refine aM ?_ _ | refine aJ ?_ | refine aK ?_ _)); exact BK234.out⟩, ⟨by repeat (first | (with_reducible first | exact HB.out | apply aN | apply aE | apply aH | refine aC ?_ GE234.out) | exact HB.out)⟩⟩
 case round =>
  clear H'
  try clear p2
  try clear c3
  obtain ⟨x3_1, x4_1, rfl, HA, HK1, HO_3, BK234, HB⟩ := hrel
  cases gk with
  | zero => exact absurd HA.out (by simp [spec_NodeKeys.l0])
  | succ k1 =>
   have H := HA.out
   clear HA
   simp only [spec_NodeKeys.l0] at H
   by_cases c5 : x4_1 < (l0_0.length : Int)
   ·rw [if_pos c5] at H
    have c5b0 : decide (x4_1 < (l0_0.length : Int)) = true := decide_eq_true c5
    clear c5
    by_cases c6 : 0 ≤ x4_1
    ·rw [if_pos c6] at H
     have c6b0 : decide (0 ≤ x4_1) = true := decide_eq_true c6
     clear c6
     replace H := lF H
     obtain ⟨t239, A70, H⟩ := H
     replace H : (spec_NodeKeys.l0 k1 t239 (wrap64 (x4_1 + 1)) l0_0) = some r := H
     have A7 := aA.mk A70
     clear A70
     have H' := aA.mk H
     clear H
     have hcz8_0 := cs1 BK234.out
     have hfz8_0 := fs1 BK234.out
     have p238 : 0 ≤ (x4_1 : Int) := lE (by assumption)
     have q238 : x4_1 < (l0_0.length : Int) := lE (by assumption)
     obtain ⟨ad238, A238_0, c238_0, e238, hx238_0, hl238_0, hi238_0⟩ := at_L4 HR0_0.out x4_1 p238 q238
     cases e238
     replace hx238_0 := (HB.out.cell (lD w _ hx238_0)).trans hx238_0
     have HR238_0 := aA.mk hi238_0
     have HC238_0 := aA.mk hl238_0
     clear hi238_0 hl238_0
     replace p238 := eq_true p238
     replace q238 := eq_true q238
     obtain ⟨Ao9, co9, eo9⟩ := Kd.R_slice HO_3.out
     subst eo9
     go_wp2_with (first | ((with_reducible refine bD (f := 64) rfl ?_); refine bL (some 19) rfl rfl Try.func64 (by kernel_rfl) rfl #[.slice Ao9 x3_1.length co9, .slice A238_0 (rd_L4 l0_0 x4_1).length c238_0] rfl (by (try simp only [List.map_toArray, List.map_cons, List.map_nil]); first | done | rfl) ?_; (with_reducible refine (spec_MergeSets.calls k1 _ _ x3_1 _ _ (rd_L4 l0_0 x4_1) t239 _ ?side1 ?side2 ?side3 ?side4 A7.out).mono ?_); (case side1 => repeat (first | exact (Kd.R_reads' HO_3.out).2.2 | (with_reducible refine Kd.C_alloc ?_ _) | (with_reducible refine Kd.C_drewN ?_ _) | (with_reducible refine Kd.C_drew ?_))); (case side2 => exact (Kd.R_reads' HO_3.out).2.1); (case side3 => exact (Kd.bN HR238_0.out HB.out)); (case side4 => exact HC238_0.out); rintro e w10 ⟨v240, rfl, ho0, hb⟩; refine ⟨_, rfl, ?_⟩; have HO241 := aA.mk (Kd.R_lower (Kd.R_new' ho0 (Kd.R_lt HO_3.out)) (aQ HB.out)); replace HO_3 := aA.mk (Kd.R_elder' HO_3.out (Kd.R_base ho0) hb); replace BK234 := aA.mk (aG (g := gb234) (o := .cells #[.slice (some ad238) l0_0.length c0_0] 32 (0, 0)) BK234.out hb); replace HB := aA.mk (aT HB.out hb); (try clear hb); (try clear ho0)))
     go_roundg k1
     case measure => have := HK1.out; omega
     case rel => exact ⟨(t239), (wrap64 (x4_1 + 1)), (by first | rfl | (simp; done) | (simp [*]; done)), H', ⟨by have := HK1.out; omega⟩, ⟨by (with_reducible repeat (first | apply Kd.bQ | apply Kd.bR | apply Kd.bU)); exact Kd.bK HO241.out (fun _ hk => trivial)⟩, ⟨by (with_reducible repeat (first | refine aM ?_ _ | refine aJ ?_ | refine aK ?_ _)); exact BK234.out⟩, ⟨by repeat (first | (with_reducible first | exact HB.out | apply aN | apply aE | apply aH | refine aC ?_ GE234.out) | exact HB.out)⟩⟩
    ·rw [if_neg c6] at H
     exact absurd H (by simp)
   ·rw [if_neg c5] at H
    have c5b0 : decide (x4_1 < (l0_0.length : Int)) = false := decide_eq_false c5
    clear c5
    replace H := lF H
    obtain ⟨t242, A110, H⟩ := H
    replace H : (some t242) = some r := H
    have A11 := aA.mk A110
    clear A110
    obtain rfl := Option.some.inj H
    have hcz12_0 := cs1 BK234.out
    have hfz12_0 := fs1 BK234.out
    obtain ⟨Ao13, co13, eo13⟩ := Kd.R_slice HO_3.out
    subst eo13
    go_wp2_with (first | ((with_reducible refine bD (f := 65) rfl ?_); refine bL (some 21) rfl rfl Try.func65 (by kernel_rfl) rfl #[.slice Ao13 x3_1.length co13] rfl (by (try simp only [List.map_toArray, List.map_cons, List.map_nil]); first | done | rfl) ?_; (with_reducible refine (spec_Drop.calls k1 _ _ x3_1 t242 _ ?side1 ?side2 A11.out).mono ?_); (case side1 => repeat (first | exact (Kd.R_reads' HO_3.out).2.2 | (with_reducible refine Kd.C_alloc ?_ _) | (with_reducible refine Kd.C_drewN ?_ _) | (with_reducible refine Kd.C_drew ?_))); (case side2 => exact (Kd.R_reads' HO_3.out).2.1); rintro e w14 ⟨v243, rfl, ho0, hb⟩; refine ⟨_, rfl, ?_⟩; have HO244 := aA.mk (Kd.R_lower (Kd.R_new' ho0 (Kd.R_lt HO_3.out)) (aQ HB.out)); replace HO_3 := aA.mk (Kd.R_elder' HO_3.out (Kd.R_base ho0) hb); replace BK234 := aA.mk (aG (g := gb234) (o := .cells #[.slice A0_0 l0_0.length c0_0] 32 (0, 0)) BK234.out hb); replace HB := aA.mk (aT HB.out hb); (try clear hb); (try clear ho0)))
    go_ret
    exact ⟨_, by first | rfl | (simp [errW_none, errW_some] <;> rfl) | (simp [*, errW_none, errW_some] <;> rfl), by (with_reducible repeat (first | apply Kd.bQ | apply Kd.bR | apply Kd.bU)); exact Kd.bK HO244.out (fun _ hk => trivial), by repeat (first | (with_reducible first | exact HB.out | apply aN | apply aE | apply aH | refine aC ?_ GE234.out) | exact HB.out)⟩
def spec_SetAt.l0 : Nat → List (S27) → Int → Int → Int → Option (Int × Int × Int × Int × Int × Bool)
 | 0, _, _, _, _ => none
 | k + 1, x0, x1, x2, x8 => if x8 < (x0.length : Int) then (if 0 ≤ x8 then (if ((rd_T27 x0 x8).f0) = x1 then (if ((rd_T27 x0 x8).f1) = x2 then (some ((rd_T27 x0 x8).f0, (rd_T27 x0 x8).f1, (rd_T27 x0 x8).f2, (rd_T27 x0 x8).f3, (rd_T27 x0 x8).f4, true)) else (spec_SetAt.l0 k x0 x1 x2 (wrap64 (x8 + 1)))) else (spec_SetAt.l0 k x0 x1 x2 (wrap64 (x8 + 1)))) else (none)) else (some (0, 0, 0, 0, 0, false))
def spec_SetAt.f (k : Nat) (l0 : List (S27)) (a1 : Int) (a2 : Int) : Option (Int × Int × Int × Int × Int × Bool) := spec_SetAt.l0 k l0 a1 a2 0
set_option maxHeartbeats 8000000 in
set_option maxRecDepth 100000 in
theorem spec_SetAt.calls (k : Nat) (A0 : Option Addr) (c0 : Nat) (l0 : List (S27)) (a1 : Int) (a2 : Int) (r1 : Int) (r2 : Int) (r3 : Int) (r4 : Int) (r5 : Int) (r6 : Bool) (w : World) (hr0 : Kd.C k27 w A0 l0.length l0) (hc0 : l0.length ≤ c0) (h : spec_SetAt.f k l0 a1 a2 = some (r1, r2, r3, r4, r5, r6)) :
  Calls Try.prog 54 #[.slice A0 l0.length c0, .int .i64 a1, .int .i64 a2] w fun e w' => e = .returned (.tuple #[.agg #[.int .i64 r1, .int .i64 r2, .int .i64 r3, .int .i64 r4, .int .i64 r5], .bool r6]) ∧ Below w.heap.size w w' := by
 have hu27 := Try.underlying27
 have HR0 := aA.mk hr0
 have HC0 := aA.mk hc0
 clear hr0 hc0
 have HB := aA.mk (Below.refl w.heap.size w)
 have H : (spec_SetAt.l0 k l0 a1 a2 0) = some (r1, r2, r3, r4, r5, r6) := h
 clear h
 have H' := aA.mk H
 clear H
 go_enter Try.func54, Try.ntmps54
 go_wp2_with (first | ((with_reducible refine bA (N := 6) rfl ?_); refine bC ?hg (N := 6) ?hd (cs := #[.int .i64 0, .int .i64 0, .int .i64 0, .int .i64 0, .int .i64 0]) (t := 27) ?hr ?_; (case hd => rfl); (case hg => rfl); (case hr => first | (go_simp; done) | (go_simp; rfl)); intro gb245 hg w4 hbox hb; have BK245 := aA.mk (hbox); have GW245 := aA.mk ((by rw [hg]; exact (aQ HB.out) : w.heap.size ≤ gb245)); have GE245 := aA.mk ((by rw [hg]; exact (aQ HB.out) : w.heap.size ≤ gb245)); replace HB := aA.mk (aT HB.out hb); clear hb hbox hg))
 go_loopg [8] k (fun kq v8 w' => ∃ (x8_1 : Int) (x246000_1 : Int) (x246001_1 : Int) (x246002_1 : Int) (x246003_1 : Int) (x246004_1 : Int), v8 = .int .i64 x8_1 ∧ aA (spec_SetAt.l0 kq l0 a1 a2 x8_1 = some (r1, r2, r3, r4, r5, r6)) ∧ aA (kq ≤ k) ∧ aA (w'.heap[gb245]? = some (.cells #[.int .i64 x246000_1, .int .i64 x246001_1, .int .i64 x246002_1, .int .i64 x246003_1, .int .i64 x246004_1] 27 (0, 0))) ∧ aA (Below w.heap.size w w'))
 case atStart => exact ⟨(0), (0), (0), (0), (0), (0), (by first | rfl | (simp; done) | (simp [*]; done)), H', ⟨Nat.le_refl _⟩, ⟨by (with_reducible repeat (first | refine aM ?_ _ | refine aJ ?_ | refine aK ?_ _)); exact BK245.out⟩, ⟨by repeat (first | (with_reducible first | exact HB.out | apply aN | apply aE | apply aH | refine aC ?_ GE245.out) | exact HB.out)⟩⟩
 case round =>
  clear H'
  try clear p2
  obtain ⟨x8_1, x246000_1, x246001_1, x246002_1, x246003_1, x246004_1, rfl, HA, HK1, BK245, HB⟩ := hrel
  cases gk with
  | zero => exact absurd HA.out (by simp [spec_SetAt.l0])
  | succ k1 =>
   have H := HA.out
   clear HA
   simp only [spec_SetAt.l0] at H
   by_cases c5 : x8_1 < (l0.length : Int)
   ·rw [if_pos c5] at H
    have c5b0 : decide (x8_1 < (l0.length : Int)) = true := decide_eq_true c5
    clear c5
    by_cases c6 : 0 ≤ x8_1
    ·rw [if_pos c6] at H
     have c6b0 : decide (0 ≤ x8_1) = true := decide_eq_true c6
     clear c6
     by_cases c7 : ((rd_T27 l0 x8_1).f0) = a1
     ·rw [if_pos c7] at H
      have c7b0 : (((rd_T27 l0 x8_1).f0) == a1) = true := beq_iff_eq.mpr c7
      have c7b1 : (((rd_T27 l0 x8_1).f0) != a1) = false := bne_eq_false_iff_eq.mpr c7
      clear c7
      by_cases c8 : ((rd_T27 l0 x8_1).f1) = a2
      ·rw [if_pos c8] at H
       have c8b0 : (((rd_T27 l0 x8_1).f1) == a2) = true := beq_iff_eq.mpr c8
       have c8b1 : (((rd_T27 l0 x8_1).f1) != a2) = false := bne_eq_false_iff_eq.mpr c8
       clear c8
       simp only [Option.some.injEq, Prod.mk.injEq] at H
       obtain ⟨rfl, rfl, rfl, rfl, rfl, rfl⟩ := H
       have p246 : 0 ≤ (x8_1 : Int) := lE (by assumption)
       have q246 : x8_1 < (l0.length : Int) := lE (by assumption)
       obtain ⟨ad246, e246, hx246_0, hx246_1, hx246_2, hx246_3, hx246_4⟩ := at_T27 HR0.out x8_1 p246 q246
       cases e246
       replace hx246_0 := (HB.out.cell (lD w _ hx246_0)).trans hx246_0
       replace hx246_1 := (HB.out.cell (lD w _ hx246_1)).trans hx246_1
       replace hx246_2 := (HB.out.cell (lD w _ hx246_2)).trans hx246_2
       replace hx246_3 := (HB.out.cell (lD w _ hx246_3)).trans hx246_3
       replace hx246_4 := (HB.out.cell (lD w _ hx246_4)).trans hx246_4
       replace p246 := eq_true p246
       replace q246 := eq_true q246
       have p247 : 0 ≤ (x8_1 : Int) := lE (by assumption)
       have q247 : x8_1 < (l0.length : Int) := lE (by assumption)
       obtain ⟨ad247, e247, hx247_0, hx247_1, hx247_2, hx247_3, hx247_4⟩ := at_T27 HR0.out x8_1 p247 q247
       obtain rfl : ad246 = ad247 := (by injection e247)
       replace hx247_0 := (HB.out.cell (lD w _ hx247_0)).trans hx247_0
       replace hx247_1 := (HB.out.cell (lD w _ hx247_1)).trans hx247_1
       replace hx247_2 := (HB.out.cell (lD w _ hx247_2)).trans hx247_2
       replace hx247_3 := (HB.out.cell (lD w _ hx247_3)).trans hx247_3
       replace hx247_4 := (HB.out.cell (lD w _ hx247_4)).trans hx247_4
       replace p247 := eq_true p247
       replace q247 := eq_true q247
       have p248 : 0 ≤ (x8_1 : Int) := lE (by assumption)
       have q248 : x8_1 < (l0.length : Int) := lE (by assumption)
       obtain ⟨ad248, e248, hx248_0, hx248_1, hx248_2, hx248_3, hx248_4⟩ := at_T27 HR0.out x8_1 p248 q248
       obtain rfl : ad246 = ad248 := (by injection e248)
       replace hx248_0 := (HB.out.cell (lD w _ hx248_0)).trans hx248_0
       replace hx248_1 := (HB.out.cell (lD w _ hx248_1)).trans hx248_1
       replace hx248_2 := (HB.out.cell (lD w _ hx248_2)).trans hx248_2
       replace hx248_3 := (HB.out.cell (lD w _ hx248_3)).trans hx248_3
       replace hx248_4 := (HB.out.cell (lD w _ hx248_4)).trans hx248_4
       replace p248 := eq_true p248
       replace q248 := eq_true q248
       obtain ⟨hcz9_0, hcz9_1, hcz9_2, hcz9_3, hcz9_4⟩ := cs5 BK245.out
       obtain ⟨hfz9_0, hfz9_1, hfz9_2, hfz9_3, hfz9_4⟩ := fs5 BK245.out
       go_wp2
       refine bodyPost_ret (results_ct rfl _ _ gb245 27 #[.int .i64 ((rd_T27 l0 x8_1).f0), .int .i64 ((rd_T27 l0 x8_1).f1), .int .i64 ((rd_T27 l0 x8_1).f2), .int .i64 ((rd_T27 l0 x8_1).f3), .int .i64 ((rd_T27 l0 x8_1).f4)] (0, 0) _ rfl (by (with_reducible repeat (first | refine aM ?_ _ | refine aJ ?_ | refine aK ?_ _)); refine bE (cs := #[.int .i64 ((rd_T27 l0 x8_1).f0), .int .i64 ((rd_T27 l0 x8_1).f1), .int .i64 ((rd_T27 l0 x8_1).f2), .int .i64 ((rd_T27 l0 x8_1).f3), .int .i64 x246004_1]) ?_ 4 _ rfl; (with_reducible repeat (first | refine aM ?_ _ | refine aJ ?_ | refine aK ?_ _)); refine bE (cs := #[.int .i64 ((rd_T27 l0 x8_1).f0), .int .i64 ((rd_T27 l0 x8_1).f1), .int .i64 ((rd_T27 l0 x8_1).f2), .int .i64 x246003_1, .int .i64 x246004_1]) ?_ 3 _ rfl; (with_reducible repeat (first | refine aM ?_ _ | refine aJ ?_ | refine aK ?_ _)); refine bE (cs := #[.int .i64 ((rd_T27 l0 x8_1).f0), .int .i64 ((rd_T27 l0 x8_1).f1), .int .i64 x246002_1, .int .i64 x246003_1, .int .i64 x246004_1]) ?_ 2 _ rfl; (with_reducible repeat (first | refine aM ?_ _ | refine aJ ?_ | refine aK ?_ _)); refine bE (cs := #[.int .i64 ((rd_T27 l0 x8_1).f0), .int .i64 x246001_1, .int .i64 x246002_1, .int .i64 x246003_1, .int .i64 x246004_1]) ?_ 1 _ rfl; (with_reducible repeat (first | refine aM ?_ _ | refine aJ ?_ | refine aK ?_ _)); refine bE (cs := #[.int .i64 x246000_1, .int .i64 x246001_1, .int .i64 x246002_1, .int .i64 x246003_1, .int .i64 x246004_1]) ?_ 0 _ rfl; (with_reducible repeat (first | refine aM ?_ _ | refine aJ ?_ | refine aK ?_ _)); exact BK245.out) Try.underlying27 rfl (by kernel_rfl)) rfl ?_
       exact ⟨by first | rfl | (simp [errW_none, errW_some] <;> rfl) | (simp [*, errW_none, errW_some] <;> rfl), by repeat (first | (with_reducible first | exact HB.out | apply aN | apply aE | apply aH | refine aC ?_ GE245.out) | exact HB.out)⟩
      ·rw [if_neg c8] at H
       have c8b0 : (((rd_T27 l0 x8_1).f1) == a2) = false := beq_eq_false_iff_ne.mpr c8
       have c8b1 : (((rd_T27 l0 x8_1).f1) != a2) = true := bne_iff_ne.mpr c8
       have H' := aA.mk H
       clear H
       have p246 : 0 ≤ (x8_1 : Int) := lE (by assumption)
       have q246 : x8_1 < (l0.length : Int) := lE (by assumption)
       obtain ⟨ad246, e246, hx246_0, hx246_1, hx246_2, hx246_3, hx246_4⟩ := at_T27 HR0.out x8_1 p246 q246
       cases e246
       replace hx246_0 := (HB.out.cell (lD w _ hx246_0)).trans hx246_0
       replace hx246_1 := (HB.out.cell (lD w _ hx246_1)).trans hx246_1
       replace hx246_2 := (HB.out.cell (lD w _ hx246_2)).trans hx246_2
       replace hx246_3 := (HB.out.cell (lD w _ hx246_3)).trans hx246_3
       replace hx246_4 := (HB.out.cell (lD w _ hx246_4)).trans hx246_4
       replace p246 := eq_true p246
       replace q246 := eq_true q246
       have p247 : 0 ≤ (x8_1 : Int) := lE (by assumption)
       have q247 : x8_1 < (l0.length : Int) := lE (by assumption)
       obtain ⟨ad247, e247, hx247_0, hx247_1, hx247_2, hx247_3, hx247_4⟩ := at_T27 HR0.out x8_1 p247 q247
       obtain rfl : ad246 = ad247 := (by injection e247)
       replace hx247_0 := (HB.out.cell (lD w _ hx247_0)).trans hx247_0
       replace hx247_1 := (HB.out.cell (lD w _ hx247_1)).trans hx247_1
       replace hx247_2 := (HB.out.cell (lD w _ hx247_2)).trans hx247_2
       replace hx247_3 := (HB.out.cell (lD w _ hx247_3)).trans hx247_3
       replace hx247_4 := (HB.out.cell (lD w _ hx247_4)).trans hx247_4
       replace p247 := eq_true p247
       replace q247 := eq_true q247
       go_wp2
       go_roundg k1
       case measure => have := HK1.out; omega
       case rel => exact ⟨(wrap64 (x8_1 + 1)), (x246000_1), (x246001_1), (x246002_1), (x246003_1), (x246004_1), (by first | rfl | (simp; done) | (simp [*]; done)), H', ⟨by have := HK1.out; omega⟩, ⟨by (with_reducible repeat (first | refine aM ?_ _ | refine aJ ?_ | refine aK ?_ _)); exact BK245.out⟩, ⟨by repeat (first | (with_reducible first | exact HB.out | apply aN | apply aE | apply aH | refine aC ?_ GE245.out) | exact HB.out)⟩⟩
     ·rw [if_neg c7] at H
      have c7b0 : (((rd_T27 l0 x8_1).f0) == a1) = false := beq_eq_false_iff_ne.mpr c7
      have c7b1 : (((rd_T27 l0 x8_1).f0) != a1) = true := bne_iff_ne.mpr c7
      have H' := aA.mk H
      clear H
      have p246 : 0 ≤ (x8_1 : Int) := lE (by assumption)
      have q246 : x8_1 < (l0.length : Int) := lE (by assumption)
      obtain ⟨ad246, e246, hx246_0, hx246_1, hx246_2, hx246_3, hx246_4⟩ := at_T27 HR0.out x8_1 p246 q246
      cases e246
      replace hx246_0 := (HB.out.cell (lD w _ hx246_0)).trans hx246_0
      replace hx246_1 := (HB.out.cell (lD w _ hx246_1)).trans hx246_1
      replace hx246_2 := (HB.out.cell (lD w _ hx246_2)).trans hx246_2
      replace hx246_3 := (HB.out.cell (lD w _ hx246_3)).trans hx246_3
      replace hx246_4 := (HB.out.cell (lD w _ hx246_4)).trans hx246_4
      replace p246 := eq_true p246
      replace q246 := eq_true q246
      go_wp2
      go_roundg k1
      case measure => have := HK1.out; omega
      case rel => exact ⟨(wrap64 (x8_1 + 1)), (x246000_1), (x246001_1), (x246002_1), (x246003_1), (x246004_1), (by first | rfl | (simp; done) | (simp [*]; done)), H', ⟨by have := HK1.out; omega⟩, ⟨by (with_reducible repeat (first | refine aM ?_ _ | refine aJ ?_ | refine aK ?_ _)); exact BK245.out⟩, ⟨by repeat (first | (with_reducible first | exact HB.out | apply aN | apply aE | apply aH | refine aC ?_ GE245.out) | exact HB.out)⟩⟩
    ·rw [if_neg c6] at H
     exact absurd H (by simp)
   ·rw [if_neg c5] at H
    have c5b0 : decide (x8_1 < (l0.length : Int)) = false := decide_eq_false c5
    clear c5
    simp only [Option.some.injEq, Prod.mk.injEq] at H
    obtain ⟨rfl, rfl, rfl, rfl, rfl, rfl⟩ := H
    obtain ⟨hcz10_0, hcz10_1, hcz10_2, hcz10_3, hcz10_4⟩ := cs5 BK245.out
    obtain ⟨hfz10_0, hfz10_1, hfz10_2, hfz10_3, hfz10_4⟩ := fs5 BK245.out
    go_wp2
    refine bodyPost_ret (results_ct rfl _ _ gb245 27 #[.int .i64 0, .int .i64 0, .int .i64 0, .int .i64 0, .int .i64 0] (0, 0) _ rfl (by (with_reducible repeat (first | refine aM ?_ _ | refine aJ ?_ | refine aK ?_ _)); refine bE (cs := #[.int .i64 0, .int .i64 0, .int .i64 0, .int .i64 0, .int .i64 x246004_1]) ?_ 4 _ rfl; (with_reducible repeat (first | refine aM ?_ _ | refine aJ ?_ | refine aK ?_ _)); refine bE (cs := #[.int .i64 0, .int .i64 0, .int .i64 0, .int .i64 x246003_1, .int .i64 x246004_1]) ?_ 3 _ rfl; (with_reducible repeat (first | refine aM ?_ _ | refine aJ ?_ | refine aK ?_ _)); refine bE (cs := #[.int .i64 0, .int .i64 0, .int .i64 x246002_1, .int .i64 x246003_1, .int .i64 x246004_1]) ?_ 2 _ rfl; (with_reducible repeat (first | refine aM ?_ _ | refine aJ ?_ | refine aK ?_ _)); refine bE (cs := #[.int .i64 0, .int .i64 x246001_1, .int .i64 x246002_1, .int .i64 x246003_1, .int .i64 x246004_1]) ?_ 1 _ rfl; (with_reducible repeat (first | refine aM ?_ _ | refine aJ ?_ | refine aK ?_ _)); refine bE (cs := #[.int .i64 x246000_1, .int .i64 x246001_1, .int .i64 x246002_1, .int .i64 x246003_1, .int .i64 x246004_1]) ?_ 0 _ rfl; (with_reducible repeat (first | refine aM ?_ _ | refine aJ ?_ | refine aK ?_ _)); exact BK245.out) Try.underlying27 rfl (by kernel_rfl)) rfl ?_
    exact ⟨by first | rfl | (simp [errW_none, errW_some] <;> rfl) | (simp [*, errW_none, errW_some] <;> rfl), by repeat (first | (with_reducible first | exact HB.out | apply aN | apply aE | apply aH | refine aC ?_ GE245.out) | exact HB.out)⟩
end Go.Proofs.Ythpfihklkcnckaa.PFnExactNodePut

namespace Go.Proofs.Ythpfihklkcnckaa.PFnExactNodePut
open Go.RowKit Go.Proofs.YthpfihklkcnckaaW.PrintWords Go.Proofs.YthpfihklkcnckaaW.PrintLast Go.Proofs.YthpfihklkcnckaaW.PrintMore
attribute [local go_sem] max2_int min2_int max_two min_two max_three min_three max_four min_four   -- for this text's walks alone
set_option linter.unusedVariables false
set_option linter.unusedSimpArgs false
def spec_l5Copy.l0 : Nat → Int → List (List (S27)) → List (List (S27)) → Option ((List (List (S27))))
 | 0, _, _, _ => none
 | k + 1, x4, x250000, x252000 => if x4 < (x250000.length : Int) then ((some (([] : List (S27)) : List (S27))).bind fun y252 => (if 0 ≤ x4 then (if y252.length + (rd_L4 x250000 x4).length < 3518437208883 then (if x252000.length < 5864062014805 then (spec_l5Copy.l0 k (wrap64 (x4 + 1)) x250000 (x252000 ++ [(y252 ++ (rd_L4 x250000 x4))])) else (none)) else (none)) else (none))) else (some x252000)
def spec_l5Copy.f (k : Nat) (l0_0 : List (List (S27))) : Option ((List (List (S27)))) := spec_l5Copy.l0 k 0 l0_0 ([] : List (List (S27)))
def spec_l5Copy.T5 : Bool × List (List Nat × List Nat) := (true, [([], []), ([0], [0]), ([], []), ([], []), ([3], [3]), ([], []), ([4, 5], [4, 5]), ([6], [6]), ([2, 7], [2, 7]), ([8], [8]), ([1, 9, 8], [1, 9]), ([0, 1, 2, 3, 4, 5, 6, 7, 8, 9, 10], []), ([11, 10, 10, 0, 1, 2, 3, 4, 5, 6, 7, 8, 9, 10], [10, 11])])
def spec_l5Copy.B5 : List Nat := [0, 1, 0, 0, 8, 0, 56, 120, 252, 508, 1023, 2047, 4095]
theorem spec_l5Copy.tab5 : rtab .any (opsOf Try.f68 5) = spec_l5Copy.T5 := by kernel_rfl
theorem spec_l5Copy.bits5 : waitsOk spec_l5Copy.T5.2 spec_l5Copy.B5 = true := by kernel_rfl
set_option maxHeartbeats 8000000 in
set_option maxRecDepth 100000 in
theorem spec_l5Copy.calls (k : Nat) (A0_0 : Option Addr) (c0_0 : Nat) (l0_0 : List (List (S27))) (r : List (List (S27))) (w : World) (hr0_0 : Kd.C (Kd.slice 27 k27) w A0_0 l0_0.length l0_0) (hc0_0 : l0_0.length ≤ c0_0) (h : spec_l5Copy.f k l0_0 = some r) :
  Calls Try.prog 68 #[.agg #[.slice A0_0 l0_0.length c0_0]] w fun e w' => ∃ v0_ : Value, e = .returned (.agg #[v0_]) ∧ Kd.S (Kd.slice 27 k27) 40 w' w.heap.size (fun _ => True) v0_ r ∧ Below w.heap.size w w' := by
 have hu32 := Try.underlying32
 have HR0_0 := aA.mk hr0_0
 have HC0_0 := aA.mk hc0_0
 clear hr0_0 hc0_0
 have HB := aA.mk (Below.refl w.heap.size w)
 have H : (spec_l5Copy.l0 k 0 l0_0 ([] : List (List (S27)))) = some r := h
 clear h
 have H' := aA.mk H
 clear H
 go_enter Try.func68, Try.ntmps68
 go_wp2_with (first | ((with_reducible refine bA (N := 1) rfl ?_); refine bC ?hg (N := 1) ?hd (cs := #[.slice A0_0 l0_0.length c0_0]) (t := 32) ?hr ?_; (case hd => rfl); (case hg => rfl); (case hr => first | (go_simp; done) | (go_simp; rfl)); intro gb249 hg w2 hbox hb; have BK249 := aA.mk (hbox); have GW249 := aA.mk ((by rw [hg]; exact (aQ HB.out) : w.heap.size ≤ gb249)); have GE249 := aA.mk ((by rw [hg]; exact (aQ HB.out) : w.heap.size ≤ gb249)); replace HB := aA.mk (aT HB.out hb); clear hb hbox hg) | ((with_reducible refine bA (N := 2) rfl ?_); refine bC ?hg (N := 2) ?hd (cs := #[.slice none 0 0]) (t := 32) ?hr ?_; (case hd => rfl); (case hg => rfl); (case hr => first | (go_simp; done) | (go_simp; rfl)); intro gb250 hg w3 hbox hb; have BK250 := aA.mk (hbox); have GW250 := aA.mk ((by rw [hg]; exact (aQ HB.out) : w.heap.size ≤ gb250)); have GE250 := aA.mk ((by rw [hg]; exact (aQ HB.out) : w.heap.size ≤ gb250)); replace HB := aA.mk (aT HB.out hb); have NB249_250 := aA.mk ((by rw [hg]; exact Nat.ne_of_lt (aY (g := gb249) (o := .cells #[.slice A0_0 l0_0.length c0_0] 32 (0, 0)) BK249.out) : gb249 ≠ gb250)); have NB250_249 := aA.mk ((by rw [hg]; exact Nat.ne_of_gt (aY (g := gb249) (o := .cells #[.slice A0_0 l0_0.length c0_0] 32 (0, 0)) BK249.out) : gb250 ≠ gb249)); replace BK249 := aA.mk (aG (g := gb249) (o := .cells #[.slice A0_0 l0_0.length c0_0] 32 (0, 0)) BK249.out hb); clear hb hbox hg) | ((with_reducible refine bA (N := 3) rfl ?_); refine bC ?hg (N := 3) ?hd (cs := #[.slice none 0 0]) (t := 32) ?hr ?_; (case hd => rfl); (case hg => rfl); (case hr => first | (go_simp; done) | (go_simp; rfl)); intro gb251 hg w4 hbox hb; have BK251 := aA.mk (hbox); have GW251 := aA.mk ((by rw [hg]; exact (aQ HB.out) : w.heap.size ≤ gb251)); have GE251 := aA.mk ((by rw [hg]; exact (aQ HB.out) : w.heap.size ≤ gb251)); replace HB := aA.mk (aT HB.out hb); have NB249_251 := aA.mk ((by rw [hg]; exact Nat.ne_of_lt (aY (g := gb249) (o := .cells #[.slice A0_0 l0_0.length c0_0] 32 (0, 0)) BK249.out) : gb249 ≠ gb251)); have NB251_249 := aA.mk ((by rw [hg]; exact Nat.ne_of_gt (aY (g := gb249) (o := .cells #[.slice A0_0 l0_0.length c0_0] 32 (0, 0)) BK249.out) : gb251 ≠ gb249)); replace BK249 := aA.mk (aG (g := gb249) (o := .cells #[.slice A0_0 l0_0.length c0_0] 32 (0, 0)) BK249.out hb); have NB250_251 := aA.mk ((by rw [hg]; exact Nat.ne_of_lt (aY (g := gb250) (o := .cells #[.slice none 0 0] 32 (0, 0)) BK250.out) : gb250 ≠ gb251)); have NB251_250 := aA.mk ((by rw [hg]; exact Nat.ne_of_gt (aY (g := gb250) (o := .cells #[.slice none 0 0] 32 (0, 0)) BK250.out) : gb251 ≠ gb250)); replace BK250 := aA.mk (aG (g := gb250) (o := .cells #[.slice none 0 0] 32 (0, 0)) BK250.out hb); clear hb hbox hg; have hnb5 := NB251_249.out; have hnc5 := NB249_251.out; have hnb6 := NB251_250.out; have hnc6 := NB250_251.out; have hcz7_0 := cs1 BK251.out; have hfz7_0 := fs1 BK251.out))
 go_loopg [4] k (fun kq v4 w' => ∃ (x4_1 : Int) (x252000_1 : List (List (S27))) (u252000 : Value), v4 = .int .i64 x4_1 ∧ aA (spec_l5Copy.l0 kq x4_1 l0_0 x252000_1 = some r) ∧ aA (kq ≤ k) ∧ aA (Kd.S (Kd.slice 27 k27) 40 w' w.heap.size (fun _ => True) u252000 x252000_1) ∧ aA (w'.heap[gb249]? = some (.cells #[(.slice A0_0 l0_0.length c0_0)] 32 (0, 0))) ∧ aA (w'.heap[gb250]? = some (.cells #[(.slice none 0 0)] 32 (0, 0))) ∧ aA (w'.heap[gb251]? = some (.cells #[u252000] 32 (0, 0))) ∧ aA (Below w.heap.size w w'))
 case atStart => exact ⟨(0), (([] : List (List (S27)))), (.slice none 0 0), (by first | rfl | (simp; done) | (simp [*]; done)), H', ⟨Nat.le_refl _⟩, ⟨by first | exact Kd.S_nil _ _ _ _ _ | exact Kd.N_nil _ _ _ _ _ | exact Kd.V_nil _ _ _ _ _ | exact Kd.Q_nil _ _ _ _ _ | exact Kd.R_nil _ _ _ _ _⟩, ⟨by (with_reducible repeat (first | refine aM ?_ _ | refine aJ ?_ | refine aK ?_ _)); refine bB ?_ NB249_251.out _; (with_reducible repeat (first | refine aM ?_ _ | refine aJ ?_ | refine aK ?_ _)); exact BK249.out⟩, ⟨by (with_reducible repeat (first | refine aM ?_ _ | refine aJ ?_ | refine aK ?_ _)); refine bB ?_ NB250_251.out _; (with_reducible repeat (first | refine aM ?_ _ | refine aJ ?_ | refine aK ?_ _)); exact BK250.out⟩, ⟨by (with_reducible repeat (first | refine aM ?_ _ | refine aJ ?_ | refine aK ?_ _)); refine bE (cs := #[.slice none 0 0]) ?_ 0 _ rfl; (with_reducible repeat (first | refine aM ?_ _ | refine aJ ?_ | refine aK ?_ _)); exact BK251.out⟩, ⟨by repeat (first | (with_reducible first | exact HB.out | apply aN | apply aE | apply aH | refine aC ?_ GE249.out | refine aC ?_ GE250.out | refine aC ?_ GE251.out) | exact HB.out)⟩⟩
 case round =>
  clear H'
  try clear p2
  try clear c5
  try clear c6
  try clear hcz7_0
  try clear hfz7_0
  obtain ⟨x4_1, x252000_1, u252000, rfl, HA, HK1, HO_252000, BK249, BK250, BK251, HB⟩ := hrel
  cases gk with
  | zero => exact absurd HA.out (by simp [spec_l5Copy.l0])
  | succ k1 =>
   have H := HA.out
   clear HA
   simp only [spec_l5Copy.l0] at H
   by_cases c8 : x4_1 < (l0_0.length : Int)
   ·rw [if_pos c8] at H
    have c8b0 : decide (x4_1 < (l0_0.length : Int)) = true := decide_eq_true c8
    clear c8
    obtain ⟨y252, hy252⟩ : ∃ y_ : List (S27), y_ = (([] : List (S27))) := ⟨_, rfl⟩
    replace H : (if 0 ≤ x4_1 then (if y252.length + (rd_L4 l0_0 x4_1).length < 3518437208883 then (if x252000_1.length < 5864062014805 then (spec_l5Copy.l0 k1 (wrap64 (x4_1 + 1)) l0_0 (x252000_1 ++ [(y252 ++ (rd_L4 l0_0 x4_1))])) else (none)) else (none)) else (none)) = some r := by first | (rw [hy252]; with_reducible exact H) | (have H2_ := (Option.bind_some _ _).symm.trans H; rw [hy252]; with_reducible exact H2_) | (have H2_ := (Option.bind_some _ _).symm.trans H; with_reducible exact H2_) | with_reducible exact H | (rw [hy252]; exact H) | exact H
    have Ny252 := aA.mk hy252
    clear hy252
    by_cases c9 : 0 ≤ x4_1
    ·rw [if_pos c9] at H
     have c9b0 : decide (0 ≤ x4_1) = true := decide_eq_true c9
     clear c9
     by_cases c10 : y252.length + (rd_L4 l0_0 x4_1).length < 3518437208883
     ·rw [if_pos c10] at H
      have LMc10 := aA.mk c10
      clear c10
      obtain ⟨y256, hy256⟩ : ∃ y_ : List (S27), y_ = (y252 ++ (rd_L4 l0_0 x4_1)) := ⟨_, rfl⟩
      replace H : (if x252000_1.length < 5864062014805 then (spec_l5Copy.l0 k1 (wrap64 (x4_1 + 1)) l0_0 (x252000_1 ++ [y256])) else (none)) = some r := by first | (rw [hy256]; with_reducible exact H) | (have H2_ := (Option.bind_some _ _).symm.trans H; rw [hy256]; with_reducible exact H2_) | (have H2_ := (Option.bind_some _ _).symm.trans H; with_reducible exact H2_) | with_reducible exact H | (rw [hy256]; exact H) | exact H
      have Ny256 := aA.mk hy256
      clear hy256
      by_cases c11 : x252000_1.length < 5864062014805
      ·rw [if_pos c11] at H
       have LMc11 := aA.mk c11
       clear c11
       obtain ⟨y259, hy259⟩ : ∃ y_ : List (List (S27)), y_ = (x252000_1 ++ [y256]) := ⟨_, rfl⟩
       replace H : (spec_l5Copy.l0 k1 (wrap64 (x4_1 + 1)) l0_0 y259) = some r := by first | (rw [hy259]; with_reducible exact H) | (have H2_ := (Option.bind_some _ _).symm.trans H; rw [hy259]; with_reducible exact H2_) | (have H2_ := (Option.bind_some _ _).symm.trans H; with_reducible exact H2_) | with_reducible exact H | (rw [hy259]; exact H) | exact H
       have Ny259 := aA.mk hy259
       clear hy259
       have H' := aA.mk H
       clear H
       have hnb12 := NB249_250.out
       have hnc12 := NB250_249.out
       have hnb13 := NB249_251.out
       have hnc13 := NB251_249.out
       have hcz14_0 := cs1 BK249.out
       have hfz14_0 := fs1 BK249.out
       try go_wp2
       replace HO_252000 := aA.mk (Kd.S_drew HO_252000.out)
       replace BK249 := aA.mk (aJ BK249.out)
       replace BK250 := aA.mk (aJ BK250.out)
       replace BK251 := aA.mk (aJ BK251.out)
       replace HB := aA.mk (aH HB.out)
       have p255 : 0 ≤ (x4_1 : Int) := lE (by assumption)
       have q255 : x4_1 < (l0_0.length : Int) := lE (by assumption)
       obtain ⟨ad255, A255_0, c255_0, e255, hx255_0, hl255_0, hi255_0⟩ := at_L4 HR0_0.out x4_1 p255 q255
       have hw255_0 := hx255_0
       cases e255
       replace hx255_0 := (HB.out.cell (lD w _ hx255_0)).trans hx255_0
       have HR255_0 := aA.mk hi255_0
       have HC255_0 := aA.mk hl255_0
       clear hi255_0 hl255_0
       replace p255 := eq_true p255
       replace q255 := eq_true q255
       refine start_ (n := 13) (S := fun w' => w'.cell? ⟨gb251, 0, none⟩ = some (u252000) ∧ w'.cell? ⟨gb249, 0, none⟩ = some (.slice (some ad255) l0_0.length c0_0) ∧ w'.cell? (ad255.add (x4_1).toNat) = some (.slice A255_0 (rd_L4 l0_0 x4_1).length c255_0)) (ds := [12]) #[false, false, false, false, false, false, false, false, false, false, false, false, false] (by kernel_rfl) rfl rfl ⟨(aD BK251.out 0).trans rfl, (aD BK249.out 0).trans rfl, ((HB.out.cell (lD w _ hw255_0)).trans hw255_0)⟩ (fun hHeld => ?_); refine with_tabW spec_l5Copy.tab5 spec_l5Copy.bits5 (fun HT_ HW_ => ?_)
       generalize wr.drew = w15 at HO_252000 BK249 BK250 BK251 HB HR255_0 hx255_0 hHeld ⊢
       refine aW (i := 0) (N := some 13) (v := ?_) (a' := ?_) #[true, false, false, false, false, false, false, false, false, false, false, false, false] rfl rfl (aZ HT_.out (by kernel_rfl)) (fun _ _ _ h => h) (Or.inl ⟨by rfl, ?_⟩) ?_ ?_
       rotate_left
       ·intro w'
        go_simp
        with_reducible rfl
       rotate_left
       ·simp only [Act.put, lA, lB, lC, aU, aV]
        rfl
       refine aW (i := 3) (N := some 16) (v := ?_) (a' := ?_) #[true, false, false, true, false, false, false, false, false, false, false, false, false] rfl rfl (aZ HT_.out (by kernel_rfl)) (fun _ _ _ h => h) (Or.inl ⟨by rfl, ?_⟩) ?_ ?_
       rotate_left
       ·intro w'
        go_simp
        with_reducible rfl
       rotate_left
       ·simp only [Act.put, lA, lB, lC, aU, aV]
        rfl
       refine aW (i := 5) (N := some 18) (v := ?_) (a' := ?_) #[true, false, false, true, false, true, false, false, false, false, false, false, false] rfl rfl (aZ HT_.out (by kernel_rfl)) (fun _ _ _ h => h) (Or.inl ⟨by rfl, ?_⟩) ?_ ?_
       rotate_left
       ·intro w'
        go_simp
        with_reducible rfl
       rotate_left
       ·simp only [Act.put, lA, lB, lC, aU, aV]
        rfl
       refine take_ (i := 1) (N := some 14) (v := ?_) (a' := ?_) #[true, true, false, true, false, true, false, false, false, false, false, false, false] rfl rfl (bV HT_.out HW_.out (by kernel_rfl)) (fun _ _ _ h => h) (Or.inl ⟨by rfl, ?_⟩) hHeld ?_ ?_
       rotate_left
       ·rintro w' ⟨s0, s1, s2⟩
        go_simp
        with_reducible rfl
       rotate_left
       ·simp only [Act.put, lA, lB, lC, aU, aV]
        rfl
       refine take_ (i := 4) (N := some 17) (v := ?_) (a' := ?_) #[true, true, false, true, true, true, false, false, false, false, false, false, false] rfl rfl (bV HT_.out HW_.out (by kernel_rfl)) (fun _ _ _ h => h) (Or.inl ⟨by rfl, ?_⟩) hHeld ?_ ?_
       rotate_left
       ·rintro w' ⟨s0, s1, s2⟩
        go_simp
        with_reducible rfl
       rotate_left
       ·simp only [Act.put, lA, lB, lC, aU, aV]
        rfl
       refine aW (i := 6) (N := some 19) (v := ?_) (a' := ?_) #[true, true, false, true, true, true, true, false, false, false, false, false, false] rfl rfl (aZ HT_.out (by kernel_rfl)) (fun _ _ _ h => h) (Or.inl ⟨by rfl, ?_⟩) ?_ ?_
       rotate_left
       ·intro w'
        go_simp
        with_reducible rfl
       rotate_left
       ·simp only [Act.put, lA, lB, lC, aU, aV]
        rfl
       refine take_ (i := 7) (N := some 20) (v := ?_) (a' := ?_) #[true, true, false, true, true, true, true, true, false, false, false, false, false] rfl rfl (bV HT_.out HW_.out (by kernel_rfl)) (fun _ _ _ h => h) (Or.inl ⟨by rfl, ?_⟩) hHeld ?_ ?_
       rotate_left
       ·rintro w' ⟨s0, s1, s2⟩
        go_simp
        with_reducible rfl
       rotate_left
       ·simp only [Act.put, lA, lB, lC, aU, aV]
        rfl
       refine one_ (i := 2) (N := some 15) #[true, true, true, true, true, true, true, true, false, false, false, false, false] rfl rfl (one_of HT_.out (by kernel_rfl)) (by decide) (fun K hK => ?_)
       refine Kd.R_lit_step k27 _ 27 ?hg (N := 15) ?hd (xs := ([] : List (S27))) (inner := []) (ok := fun _ => True) (okp := fun _ => True) ?hr ?hp (fun _ hk => hk) trivial (Below.refl _ _) (Nat.le_refl _) (by simp) ?_; (case hd => rfl); (case hg => rfl); (case hr => first | (go_simp; done) | (go_simp; rfl)); (case hp => exact (Reps.none _ _))
       intro v253 w16 ho17 hb hg_ hnew_
       clear hg_ hnew_
       (first | rw [← Ny252.out] at ho17 | (simp only [Int.reduceToNat] at ho17; rw [← Ny252.out] at ho17))
       replace HO_252000 := aA.mk (Kd.S_elder' HO_252000.out (Kd.R_base ho17) hb)
       have HO254 := aA.mk (Kd.R_lower ho17 (aQ HB.out))
       replace BK249 := aA.mk (aG (g := gb249) (o := .cells #[.slice (some ad255) l0_0.length c0_0] 32 (0, 0)) BK249.out hb)
       replace BK250 := aA.mk (aG (g := gb250) (o := .cells #[.slice none 0 0] 32 (0, 0)) BK250.out hb)
       replace BK251 := aA.mk (aG (g := gb251) (o := .cells #[u252000] 32 (0, 0)) BK251.out hb)
       replace HB := aA.mk (aT HB.out hb)
       clear hb ho17
       refine hK.out _ _ ⟨(aD BK251.out 0).trans rfl, (aD BK249.out 0).trans rfl, ((HB.out.cell (lD w _ hw255_0)).trans hw255_0)⟩ (fun hHeld => ?_)
       clear hK K
       refine bJ (a' := ?_) ?_ ?_
       rotate_left
       ·show Act.put _ (some 15) _ = _
        simp only [Act.put, lA, lB, lC, aU, aV]
        rfl
       refine one_ (i := 8) (N := some 21) #[true, true, true, true, true, true, true, true, true, false, false, false, false] rfl rfl (one_of HT_.out (by kernel_rfl)) (by decide) (fun K hK => ?_)
       refine Kd.R_append_rows_step k27 (w0 := w) w.heap.size (by rfl) (.tmp 15) (.tmp 20) 40 27 (.agg #[(.int .i64 0), (.int .i64 0), (.int .i64 0), (.int .i64 0), (.int .i64 0)]) 40 rfl Try.underlying40 info27 rfl (by decide) (by omega) v253 y252 (rd_L4 l0_0 x4_1) _ _ _ (fun _ => True) (fun _ => False) rfl rfl ?aO ?aR (fun _ _ h => h) (fun _ h => h.elim) ?aF ?aB ?aS ?aL ?_
       (case aR => exact (Kd.bN HR255_0.out HB.out))
       (case aB => exact HB.out)
       (case aF => exact (fun _ _ => trivial))
       (case aO => exact HO254.out)
       (case aS => exact (aQ HB.out))
       (case aL => have := LMc10.out; omega)
       intro v257 w18 ho hb hg hat
       rw [← Ny256.out] at ho
       replace HO_252000 := aA.mk (Kd.S_after (ok := (fun _ => True)) HO_252000.out hg hat)
       replace BK249 := aA.mk (blk_grown (g := gb249) (o := .cells #[.slice (some ad255) l0_0.length c0_0] 32 (0, 0)) BK249.out hg (Kd.R_ne HO254.out BK249.out (by decide)))
       replace BK250 := aA.mk (blk_grown (g := gb250) (o := .cells #[.slice none 0 0] 32 (0, 0)) BK250.out hg (Kd.R_ne HO254.out BK250.out (by decide)))
       replace BK251 := aA.mk (blk_grown (g := gb251) (o := .cells #[u252000] 32 (0, 0)) BK251.out hg (Kd.R_ne HO254.out BK251.out (by decide)))
       replace HB := aA.mk (hb)
       have HO258 := aA.mk (ho)
       clear HO254
       clear ho hb hg hat
       obtain ⟨Ao20, co20, eo20⟩ := Kd.R_slice HO258.out
       (first | subst eo20 | (injection eo20 with f1_ f2_ f3_; have f4_ := f1_.symm; have f5_ := f3_.symm; clear f1_ f2_ f3_; subst f4_; subst f5_))
       refine hK.out _ _ ⟨(aD BK251.out 0).trans rfl, (aD BK249.out 0).trans rfl, ((HB.out.cell (lD w _ hw255_0)).trans hw255_0)⟩ (fun hHeld => ?_)
       clear hK K
       refine bJ (a' := ?_) ?_ ?_
       rotate_left
       ·show Act.put _ (some 21) _ = _
        simp only [Act.put, lA, lB, lC, aU, aV]
        rfl
       refine one_ (i := 9) (N := some 22) #[true, true, true, true, true, true, true, true, true, true, false, false, false] rfl rfl (one_of HT_.out (by kernel_rfl)) (by decide) (fun K hK => ?_)
       refine value_ (w1 := ?_) (v := ?_) (by rfl) rfl ?_ ?_
       rotate_left 2
       ·go_simp
        constructor
        ·rfl
        ·rfl
       refine hK.out _ _ ⟨(aD (aK BK251.out _) 0).trans rfl, (aD (aK BK249.out _) 0).trans rfl, (World.cell?_alloc_lt _ _ _ (lD _ _ (((HB.out.cell (lD w _ hw255_0)).trans hw255_0)))).trans (((HB.out.cell (lD w _ hw255_0)).trans hw255_0))⟩ (fun hHeld => ?_)
       clear hK K
       refine bJ (a' := ?_) ?_ ?_
       rotate_left
       ·show Act.put _ (some 22) _ = _
        simp only [Act.put, lA, lB, lC, aU, aV]
        rfl
       refine one_ (i := 10) (N := some 23) #[true, true, true, true, true, true, true, true, true, true, true, false, false] rfl rfl (one_of HT_.out (by kernel_rfl)) (by decide) (fun K hK => ?_)
       refine Kd.S_append_step (Kd.slice 27 k27) (w0 := w) w.heap.size (by rfl) (.tmp 14) (.tmp 22) 30 40 (.slice none 0 0) 24 rfl Try.underlying30 info40 rfl (by decide) (by omega) u252000 x252000_1 y256 [.slice Ao20 y256.length co20] (fun _ => True) (fun k_ => some k_ = (.slice Ao20 y256.length co20 : Value).ownBlock) rfl rfl ?aP (fun k_ hk_ => ((Kd.bK (ok' := fun k_ => ((fun _ => True)) k_ ∧ some k_ ≠ (u252000 : Value).ownBlock) (Kd.R_apart' (HO258.out) (Kd.S_typed HO_252000.out) (by decide)) (fun k_ hk => ⟨trivial, hk.2⟩))).1 k_ hk_.symm) ?aF ?aO ?aB ?aS ?aL ?_
       (case aP => exact Kd.M_row (Kd.bK (Kd.R_tight rfl (Kd.bK (ok' := fun k_ => ((fun _ => True)) k_ ∧ some k_ ≠ (u252000 : Value).ownBlock) (Kd.R_apart' (HO258.out) (Kd.S_typed HO_252000.out) (by decide)) (fun k_ hk => ⟨trivial, hk.2⟩))) (fun _ h_ => h_)))
       (case aB => exact HB.out)
       (case aF => exact (fun _ _ => trivial))
       (case aO => exact (by (with_reducible repeat (first | apply Kd.S_alloc | apply Kd.S_drewN | apply Kd.S_drew)); exact Kd.bP HO_252000.out (fun k_ hk => ⟨trivial, fun e_ => hk.2 e_⟩)))
       (case aS => exact (aQ HB.out))
       (case aL => have := LMc11.out; omega)
       intro v260 w19 ho hb hg hat
       rw [← Ny259.out] at ho
       replace BK249 := aA.mk (blk_grown (g := gb249) (o := .cells #[.slice (some ad255) l0_0.length c0_0] 32 (0, 0)) BK249.out hg (Kd.S_ne HO_252000.out BK249.out (by decide)))
       replace BK250 := aA.mk (blk_grown (g := gb250) (o := .cells #[.slice none 0 0] 32 (0, 0)) BK250.out hg (Kd.S_ne HO_252000.out BK250.out (by decide)))
       replace BK251 := aA.mk (blk_grown (g := gb251) (o := .cells #[u252000] 32 (0, 0)) BK251.out hg (Kd.S_ne HO_252000.out BK251.out (by decide)))
       replace HB := aA.mk (hb)
       have HO261 := aA.mk (ho)
       clear HO_252000
       clear HO258
       clear ho hb hg hat
       obtain ⟨Ao21, co21, eo21⟩ := Kd.S_slice HO261.out
       (first | subst eo21 | (injection eo21 with f1_ f2_ f3_; have f4_ := f1_.symm; have f5_ := f3_.symm; clear f1_ f2_ f3_; subst f4_; subst f5_))
       refine hK.out _ _ ⟨(aD BK251.out 0).trans rfl, (aD BK249.out 0).trans rfl, ((HB.out.cell (lD w _ hw255_0)).trans hw255_0)⟩ (fun hHeld => ?_)
       clear hK K
       refine bJ (a' := ?_) ?_ ?_
       rotate_left
       ·show Act.put _ (some 23) _ = _
        simp only [Act.put, lA, lB, lC, aU, aV]
        rfl
       refine aW (i := 11) (N := some 24) (v := ?_) (a' := ?_) #[true, true, true, true, true, true, true, true, true, true, true, true, false] rfl rfl (aZ HT_.out (by kernel_rfl)) (fun _ _ _ h => h) (Or.inl ⟨by rfl, ?_⟩) ?_ ?_
       rotate_left
       ·intro w'
        go_simp
        with_reducible rfl
       rotate_left
       ·simp only [Act.put, lA, lB, lC, aU, aV]
        rfl
       refine last_ (i := 12) (N := none) #[true, true, true, true, true, true, true, true, true, true, true, true, true] rfl rfl (one_of HT_.out (by kernel_rfl)) (by decide) (fun K hK => ?_)
       have hs22 : w19.cell? ⟨gb251, 0, none⟩ = some (u252000) := (aD BK251.out 0).trans rfl
       have hfs22 := aX BK251.out 0
       have hns22_0 := NB249_251.out
       have hns22_1 := NB250_251.out
       have hms22_0 := NB251_249.out
       have hms22_1 := NB251_250.out
       refine skip_ (w1 := ?_) (by rfl) rfl ?_ ?_
       rotate_left
       ·go_simp
        rfl
       refine hK.out _ _ ?_
       clear hK K
       refine done_ (done_of HT_.out (by kernel_rfl)) ?_
       try go_wp2
       go_roundg k1
       case measure => have := HK1.out; omega
       case rel => exact ⟨(wrap64 (x4_1 + 1)), (y259), (.slice Ao21 y259.length co21), (by first | rfl | (simp; done) | (simp [*]; done)), H', ⟨by have := HK1.out; omega⟩, ⟨by (with_reducible repeat (first | apply Kd.S_alloc | apply Kd.S_drewN | apply Kd.S_drew)); exact Kd.bP (Kd.S_far (p := ⟨gb251, 0, none⟩) (Kd.S_types HO261.out BK251.out (by decide)) (fun _ hk => hk.2) (.slice Ao21 y259.length co21)) (fun _ hk => trivial)⟩, ⟨by (with_reducible repeat (first | refine aM ?_ _ | refine aJ ?_ | refine aK ?_ _)); refine bB ?_ NB249_251.out _; (with_reducible repeat (first | refine aM ?_ _ | refine aJ ?_ | refine aK ?_ _)); exact BK249.out⟩, ⟨by (with_reducible repeat (first | refine aM ?_ _ | refine aJ ?_ | refine aK ?_ _)); refine bB ?_ NB250_251.out _; (with_reducible repeat (first | refine aM ?_ _ | refine aJ ?_ | refine aK ?_ _)); exact BK250.out⟩, ⟨by (with_reducible repeat (first | refine aM ?_ _ | refine aJ ?_ | refine aK ?_ _)); refine bE (cs := #[u252000]) ?_ 0 _ rfl; (with_reducible repeat (first | refine aM ?_ _ | refine aJ ?_ | refine aK ?_ _)); exact BK251.out⟩, ⟨by repeat (first | (with_reducible first | exact HB.out | apply aN | apply aE | apply aH | refine aC ?_ GE249.out | refine aC ?_ GE250.out | refine aC ?_ GE251.out) | exact HB.out)⟩⟩
      ·rw [if_neg c11] at H
       exact absurd H (by simp)
     ·rw [if_neg c10] at H
      exact absurd H (by simp)
    ·rw [if_neg c9] at H
     exact absurd H (by simp)
   ·rw [if_neg c8] at H
    have c8b0 : decide (x4_1 < (l0_0.length : Int)) = false := decide_eq_false c8
    clear c8
    obtain rfl := Option.some.inj H
    have hnb23 := NB249_250.out
    have hnc23 := NB250_249.out
    have hnb24 := NB249_251.out
    have hnc24 := NB251_249.out
    have hcz25_0 := cs1 BK249.out
    have hfz25_0 := fs1 BK249.out
    have hnb26 := NB251_250.out
    have hnc26 := NB250_251.out
    have hcz27_0 := cs1 BK251.out
    have hfz27_0 := fs1 BK251.out
    obtain ⟨Ao28, co28, eo28⟩ := Kd.S_slice HO_252000.out
    subst eo28
    have hcz29_0 := cs1 BK250.out
    have hfz29_0 := fs1 BK250.out
    go_wp2
    refine bodyPost_ret (results_cell_row rfl _ _ gb250 32 #[.slice Ao28 x252000_1.length co28] (0, 0) _ rfl (by (with_reducible repeat (first | refine aM ?_ _ | refine aJ ?_ | refine aK ?_ _)); refine bE (cs := #[.slice none 0 0]) ?_ 0 _ rfl; (with_reducible repeat (first | refine aM ?_ _ | refine aJ ?_ | refine aK ?_ _)); exact BK250.out) Try.underlying32 rfl (by kernel_rfl)) rfl ?_
    exact ⟨_, by first | rfl | (simp [errW_none, errW_some] <;> rfl) | (simp [*, errW_none, errW_some] <;> rfl), by (with_reducible repeat (first | apply Kd.S_alloc | apply Kd.S_drewN | apply Kd.S_drew)); exact Kd.bP (Kd.S_far (p := ⟨gb250, 0, none⟩) (Kd.S_types HO_252000.out BK250.out (by decide)) (fun _ hk => hk.2) (.slice Ao28 x252000_1.length co28)) (fun _ hk => trivial), by repeat (first | (with_reducible first | exact HB.out | apply aN | apply aE | apply aH | refine aC ?_ GE249.out | refine aC ?_ GE250.out | refine aC ?_ GE251.out) | exact HB.out)⟩
end Go.Proofs.Ythpfihklkcnckaa.PFnExactNodePut
