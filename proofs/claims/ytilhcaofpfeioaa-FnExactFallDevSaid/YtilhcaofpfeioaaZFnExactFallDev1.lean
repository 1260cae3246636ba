/- The law: the functions that it reaches, each with the proof that the machine's call comes to its answer, what they answer, and the law's row; each theorem says its conditions itself. -/
import Derived.Test.YtilhcaofpfeioaaZFnExactFallDev0
namespace Go.Proofs.Ytilhcaofpfeioaa.PFnExactFallDev
open Go.RowKit Go.Proofs.YtilhcaofpfeioaaW.PrintWords Go.Proofs.YtilhcaofpfeioaaW.PrintLast Go.Proofs.YtilhcaofpfeioaaW.PrintMore
attribute [local go_sem] max2_int min2_int max_two min_two max_three min_three max_four min_four   -- for this text's walks alone
set_option linter.unusedVariables false
set_option linter.unusedSimpArgs false
mutual
def spec_DevOk.l0 : Nat → Int → List (List Int) → List (S50) → Int → Bool → Option (Bool)
 | 0, _, _, _, _, _ => none
 | k + 1, x3, x175000, x175001, x175002, x175003 => if x3 < (x175000.length : Int) then (if 0 ≤ x3 then (if ((rd_L1 x175000 x3).length : Int) > 80 then (some false) else (spec_DevOk.l0 k (wrap64 (x3 + 1)) x175000 x175001 x175002 x175003)) else (none)) else (spec_DevOk.l1 k 0 x175000 x175001 x175002 x175003)
def spec_DevOk.l1 : Nat → Int → List (List Int) → List (S50) → Int → Bool → Option (Bool)
 | 0, _, _, _, _, _ => none
 | k + 1, x4, x175000, x175001, x175002, x175003 => if x4 < (x175001.length : Int) then (if 0 ≤ x4 then ((spec_l1In.f ((rd_T50 x175001 x4).f0) 0 (wrap64 ((x175000.length : Int) - 1))).bind fun t177 => (if t177 = true then (if (((rd_T50 x175001 x4).f1).length : Int) > 80 then (some false) else (spec_DevOk.l1 k (wrap64 (x4 + 1)) x175000 x175001 x175002 x175003)) else (some false))) else (none)) else ((spec_l1In.f (x175000.length : Int) 1 60).bind fun t179 => (if t179 = true then (if (x175001.length : Int) ≤ 60 then ((spec_l1In.f x175002 (-1) 1000).bind fun t180 => (some t180)) else (some false)) else (some false)))
end
def spec_DevOk.f (k : Nat) (l0_0 : List (List Int)) (l0_1 : List (S50)) (a0_2 : Int) (a0_3 : Bool) : Option (Bool) := spec_DevOk.l0 k 0 l0_0 l0_1 a0_2 a0_3
set_option maxHeartbeats 8000000 in
set_option maxRecDepth 100000 in
theorem spec_DevOk.calls (k : Nat) (A0_0 : Option Addr) (c0_0 : Nat) (l0_0 : List (List Int)) (A0_1 : Option Addr) (c0_1 : Nat) (l0_1 : List (S50)) (a0_2 : Int) (a0_3 : Bool) (r : Bool) (w : World) (hr0_0 : Kd.C (Kd.slice 5 (Kd.int .u8)) w A0_0 l0_0.length l0_0) (hc0_0 : l0_0.length ≤ c0_0) (hr0_1 : Kd.C k50 w A0_1 l0_1.length l0_1) (hc0_1 : l0_1.length ≤ c0_1) (h : spec_DevOk.f k l0_0 l0_1 a0_2 a0_3 = some r) :
  Calls Try.prog 18 #[.agg #[.slice A0_0 l0_0.length c0_0, .slice A0_1 l0_1.length c0_1, .int .i64 a0_2, .bool a0_3]] w fun e w' => e = .returned (.bool r) ∧ Below w.heap.size w w' := by
 have hu25 := Try.underlying25
 have HR0_0 := aC.mk hr0_0
 have HC0_0 := aC.mk hc0_0
 clear hr0_0 hc0_0
 have HR0_1 := aC.mk hr0_1
 have HC0_1 := aC.mk hc0_1
 clear hr0_1 hc0_1
 have HB := aC.mk (Below.refl w.heap.size w)
 have H : (spec_DevOk.l0 k 0 l0_0 l0_1 a0_2 a0_3) = some r := h
 clear h
 have H' := aC.mk H
 clear H
 go_enter Try.func18, Try.ntmps18
 go_wp2_with (first | ((with_reducible refine bC (N := 1) rfl ?_); (try (refine gate_guard (by rfl) ?_; dsimp only)); refine bB ?hg (N := 1) ?hd (cs := #[.slice A0_0 l0_0.length c0_0, .slice A0_1 l0_1.length c0_1, .int .i64 a0_2, .bool a0_3]) (t := 25) ?hr ?_; (case hd => rfl); (case hg => rfl); (case hr => first | (go_simp; done) | (go_simp; rfl)); intro gb174 hg w2 hbox hb; have n0_ := aC.mk (aU (by repeat (first | (with_reducible first | exact HB.out | apply aJ | apply aE | apply aH) | exact HB.out)) hb); have n1_ := aC.mk (hbox); have n2_ := aC.mk ((by rw [hg]; exact (aW (by repeat (first | (with_reducible first | exact HB.out | apply aJ | apply aE | apply aH) | exact HB.out))) : w.heap.size ≤ gb174)); have n3_ := aC.mk ((by rw [hg]; exact (aW (by repeat (first | (with_reducible first | exact HB.out | apply aJ | apply aE | apply aH) | exact HB.out))) : w.heap.size ≤ gb174)); clear HB; have HB := n0_; have BK174 := n1_; have GW174 := n2_; have GE174 := n3_; clear n0_ n1_ n2_ n3_; clear hb hbox hg))
 repeat (go_quiet (first | ((with_reducible refine bC (N := 1) rfl ?_); (try (refine gate_guard (by rfl) ?_; dsimp only)); refine bB ?hg (N := 1) ?hd (cs := #[.slice A0_0 l0_0.length c0_0, .slice A0_1 l0_1.length c0_1, .int .i64 a0_2, .bool a0_3]) (t := 25) ?hr ?_; (case hd => rfl); (case hg => rfl); (case hr => first | (go_simp; done) | (go_simp; rfl)); intro gb174 hg w2 hbox hb; have n0_ := aC.mk (aU (by repeat (first | (with_reducible first | exact HB.out | apply aJ | apply aE | apply aH) | exact HB.out)) hb); have n1_ := aC.mk (hbox); have n2_ := aC.mk ((by rw [hg]; exact (aW (by repeat (first | (with_reducible first | exact HB.out | apply aJ | apply aE | apply aH) | exact HB.out))) : w.heap.size ≤ gb174)); have n3_ := aC.mk ((by rw [hg]; exact (aW (by repeat (first | (with_reducible first | exact HB.out | apply aJ | apply aE | apply aH) | exact HB.out))) : w.heap.size ≤ gb174)); clear HB; have HB := n0_; have BK174 := n1_; have GW174 := n2_; have GE174 := n3_; clear n0_ n1_ n2_ n3_; clear hb hbox hg)); try go_wp2_with (first | ((with_reducible refine bC (N := 1) rfl ?_); (try (refine gate_guard (by rfl) ?_; dsimp only)); refine bB ?hg (N := 1) ?hd (cs := #[.slice A0_0 l0_0.length c0_0, .slice A0_1 l0_1.length c0_1, .int .i64 a0_2, .bool a0_3]) (t := 25) ?hr ?_; (case hd => rfl); (case hg => rfl); (case hr => first | (go_simp; done) | (go_simp; rfl)); intro gb174 hg w2 hbox hb; have n0_ := aC.mk (aU (by repeat (first | (with_reducible first | exact HB.out | apply aJ | apply aE | apply aH) | exact HB.out)) hb); have n1_ := aC.mk (hbox); have n2_ := aC.mk ((by rw [hg]; exact (aW (by repeat (first | (with_reducible first | exact HB.out | apply aJ | apply aE | apply aH) | exact HB.out))) : w.heap.size ≤ gb174)); have n3_ := aC.mk ((by rw [hg]; exact (aW (by repeat (first | (with_reducible first | exact HB.out | apply aJ | apply aE | apply aH) | exact HB.out))) : w.heap.size ≤ gb174)); clear HB; have HB := n0_; have BK174 := n1_; have GW174 := n2_; have GE174 := n3_; clear n0_ n1_ n2_ n3_; clear hb hbox hg)))
 go_loopg [3] k (fun kq v3 w' => ∃ (x3_1 : Int), v3 = .int .i64 x3_1 ∧ aC (spec_DevOk.l0 kq x3_1 l0_0 l0_1 a0_2 a0_3 = some r) ∧ aC (kq ≤ k) ∧ aC (w'.heap[gb174]? = some (.cells #[(.slice A0_0 l0_0.length c0_0), (.slice A0_1 l0_1.length c0_1), .int .i64 a0_2, .bool a0_3] 25 (0, 0))) ∧ aC (Below w.heap.size w w'))
 case atStart => exact ⟨(0), (by first | rfl | (simp; done) | (simp [*]; done)), H', ⟨Nat.le_refl _⟩, ⟨by (with_reducible repeat (first | refine aN ?_ _ | refine aQ ?_ | refine aM ?_ _)); exact BK174.out⟩, ⟨by repeat (first | (with_reducible first | exact HB.out | apply aJ | apply aE | apply aH | refine aG ?_ GE174.out) | exact HB.out)⟩⟩
 case round =>
  clear H'
  try clear c1
  try clear p2
  obtain ⟨x3_1, rfl, HA, HK1, BK174, HB⟩ := hrel
  cases gk with
  | zero => exact absurd HA.out (by simp [spec_DevOk.l0])
  | succ k1 =>
   have H := HA.out
   clear HA
   simp only [spec_DevOk.l0] at H
   by_cases c3 : x3_1 < (l0_0.length : Int)
   ·rw [if_pos c3] at H
    have c3b0 : decide (x3_1 < (l0_0.length : Int)) = true := decide_eq_true c3
    clear c3
    by_cases c4 : 0 ≤ x3_1
    ·rw [if_pos c4] at H
     have c4b0 : decide (0 ≤ x3_1) = true := decide_eq_true c4
     clear c4
     by_cases c5 : ((rd_L1 l0_0 x3_1).length : Int) > 80
     ·rw [if_pos c5] at H
      have c5b0 : decide (80 < ((rd_L1 l0_0 x3_1).length : Int)) = true := decide_eq_true c5
      have c5b1 : decide (80 < (rd_L1 l0_0 x3_1).length) = true := decide_eq_true (by omega)
      clear c5
      obtain rfl := Option.some.inj H
      have hcz6_0 : wr.cell? ⟨gb174, 0, none⟩ = some (.slice A0_0 l0_0.length c0_0) := (aD BK174.out 0).trans rfl
      have hcz6_1 : wr.cell? ⟨gb174, 1, none⟩ = some (.slice A0_1 l0_1.length c0_1) := (aD BK174.out 1).trans rfl
      have hcz6_2 : wr.cell? ⟨gb174, 2, none⟩ = some (.int .i64 a0_2) := (aD BK174.out 2).trans rfl
      have hcz6_3 : wr.cell? ⟨gb174, 3, none⟩ = some (.bool a0_3) := (aD BK174.out 3).trans rfl
      have hfz6_0 := aA BK174.out 0
      have hfz6_1 := aA BK174.out 1
      have hfz6_2 := aA BK174.out 2
      have hfz6_3 := aA BK174.out 3
      have p175 : 0 ≤ (x3_1 : Int) := lE (by first | (with_reducible assumption) | assumption)
      have q175 : x3_1 < (l0_0.length : Int) := lE (by first | (with_reducible assumption) | assumption)
      obtain ⟨ad175, A175_0, c175_0, e175, hx175_0, hl175_0, hi175_0⟩ := at_L1 HR0_0.out x3_1 p175 q175
      cases e175
      replace hx175_0 := (HB.out.cell (lD w _ hx175_0)).trans hx175_0
      have HR175_0 := aC.mk hi175_0
      have HC175_0 := aC.mk hl175_0
      clear hi175_0 hl175_0
      replace p175 := eq_true p175
      replace q175 := eq_true q175
      go_wp2
      repeat (go_quiet (fail); try go_wp2)
      go_ret
      exact ⟨by first | rfl | (simp [errW_none, errW_some] <;> rfl) | (simp [*, errW_none, errW_some] <;> rfl), by repeat (first | (with_reducible first | exact HB.out | apply aJ | apply aE | apply aH | refine aG ?_ GE174.out) | exact HB.out)⟩
     ·rw [if_neg c5] at H
      have c5b0 : decide (80 < ((rd_L1 l0_0 x3_1).length : Int)) = false := decide_eq_false c5
      have c5b1 : decide (80 < (rd_L1 l0_0 x3_1).length) = false := decide_eq_false (by omega)
      clear c5
      have H' := aC.mk H
      clear H
      have hcz7_0 : wr.cell? ⟨gb174, 0, none⟩ = some (.slice A0_0 l0_0.length c0_0) := (aD BK174.out 0).trans rfl
      have hcz7_1 : wr.cell? ⟨gb174, 1, none⟩ = some (.slice A0_1 l0_1.length c0_1) := (aD BK174.out 1).trans rfl
      have hcz7_2 : wr.cell? ⟨gb174, 2, none⟩ = some (.int .i64 a0_2) := (aD BK174.out 2).trans rfl
      have hcz7_3 : wr.cell? ⟨gb174, 3, none⟩ = some (.bool a0_3) := (aD BK174.out 3).trans rfl
      have hfz7_0 := aA BK174.out 0
      have hfz7_1 := aA BK174.out 1
      have hfz7_2 := aA BK174.out 2
      have hfz7_3 := aA BK174.out 3
      have p175 : 0 ≤ (x3_1 : Int) := lE (by first | (with_reducible assumption) | assumption)
      have q175 : x3_1 < (l0_0.length : Int) := lE (by first | (with_reducible assumption) | assumption)
      obtain ⟨ad175, A175_0, c175_0, e175, hx175_0, hl175_0, hi175_0⟩ := at_L1 HR0_0.out x3_1 p175 q175
      cases e175
      replace hx175_0 := (HB.out.cell (lD w _ hx175_0)).trans hx175_0
      have HR175_0 := aC.mk hi175_0
      have HC175_0 := aC.mk hl175_0
      clear hi175_0 hl175_0
      replace p175 := eq_true p175
      replace q175 := eq_true q175
      go_wp2
      repeat (go_quiet (fail); try go_wp2)
      go_roundg k1
      case measure => have := HK1.out; omega
      case rel => exact ⟨(wrap64 (x3_1 + 1)), (by first | rfl | (simp; done) | (simp [*]; done)), H', ⟨by have := HK1.out; omega⟩, ⟨by (with_reducible repeat (first | refine aN ?_ _ | refine aQ ?_ | refine aM ?_ _)); exact BK174.out⟩, ⟨by repeat (first | (with_reducible first | exact HB.out | apply aJ | apply aE | apply aH | refine aG ?_ GE174.out) | exact HB.out)⟩⟩
    ·rw [if_neg c4] at H
     exact absurd H (by simp)
   ·rw [if_neg c3] at H
    have c3b0 : decide (x3_1 < (l0_0.length : Int)) = false := decide_eq_false c3
    clear c3
    have H' := aC.mk H
    clear H
    have hcz8_0 : wr.cell? ⟨gb174, 0, none⟩ = some (.slice A0_0 l0_0.length c0_0) := (aD BK174.out 0).trans rfl
    have hcz8_1 : wr.cell? ⟨gb174, 1, none⟩ = some (.slice A0_1 l0_1.length c0_1) := (aD BK174.out 1).trans rfl
    have hcz8_2 : wr.cell? ⟨gb174, 2, none⟩ = some (.int .i64 a0_2) := (aD BK174.out 2).trans rfl
    have hcz8_3 : wr.cell? ⟨gb174, 3, none⟩ = some (.bool a0_3) := (aD BK174.out 3).trans rfl
    have hfz8_0 := aA BK174.out 0
    have hfz8_1 := aA BK174.out 1
    have hfz8_2 := aA BK174.out 2
    have hfz8_3 := aA BK174.out 3
    go_wp2
    repeat (go_quiet (fail); try go_wp2)
    go_loopg [4] k1 (fun kq v4 w' => ∃ (x4_2 : Int), v4 = .int .i64 x4_2 ∧ aC (spec_DevOk.l1 kq x4_2 l0_0 l0_1 a0_2 a0_3 = some r) ∧ aC (kq ≤ k1) ∧ aC (w'.heap[gb174]? = some (.cells #[(.slice A0_0 l0_0.length c0_0), (.slice A0_1 l0_1.length c0_1), .int .i64 a0_2, .bool a0_3] 25 (0, 0))) ∧ aC (Below w.heap.size w w'))
    case atStart => exact ⟨(0), (by first | rfl | (simp; done) | (simp [*]; done)), H', ⟨Nat.le_refl _⟩, ⟨by (with_reducible repeat (first | refine aN ?_ _ | refine aQ ?_ | refine aM ?_ _)); exact BK174.out⟩, ⟨by repeat (first | (with_reducible first | exact HB.out | apply aJ | apply aE | apply aH | refine aG ?_ GE174.out) | exact HB.out)⟩⟩
    case round =>
     clear H'
     try clear c1
     try clear p1
     try clear q1
     try clear hx1
     try clear p2
     try clear c3
     try clear c3b0
     try clear c4
     try clear c4b0
     try clear c5
     try clear c5b0
     try clear c5b1
     try clear p6
     try clear hcz6_0
     try clear hcz6_1
     try clear hcz6_2
     try clear hcz6_3
     try clear hcz7_0
     try clear hcz7_1
     try clear hcz7_2
     try clear hcz7_3
     try clear hcz8_0
     try clear hcz8_1
     try clear hcz8_2
     try clear hcz8_3
     try clear hfz6_0
     try clear hfz6_1
     try clear hfz6_2
     try clear hfz6_3
     try clear hfz7_0
     try clear hfz7_1
     try clear hfz7_2
     try clear hfz7_3
     try clear hfz8_0
     try clear hfz8_1
     try clear hfz8_2
     try clear hfz8_3
     try clear hx175_0
     try clear p175
     try clear p2
     try clear q175
     obtain ⟨x4_2, rfl, HA, HK2, BK174, HB⟩ := hrel
     cases gk with
     | zero => exact absurd HA.out (by simp [spec_DevOk.l1])
     | succ k2 =>
      have H := HA.out
      clear HA
      simp only [spec_DevOk.l1] at H
      by_cases c9 : x4_2 < (l0_1.length : Int)
      ·rw [if_pos c9] at H
       have c9b0 : decide (x4_2 < (l0_1.length : Int)) = true := decide_eq_true c9
       clear c9
       by_cases c10 : 0 ≤ x4_2
       ·rw [if_pos c10] at H
        have c10b0 : decide (0 ≤ x4_2) = true := decide_eq_true c10
        clear c10
        replace H := lF H
        obtain ⟨t177, A110, H⟩ := H
        replace H : (if t177 = true then (if (((rd_T50 l0_1 x4_2).f1).length : Int) > 80 then (some false) else (spec_DevOk.l1 k2 (wrap64 (x4_2 + 1)) l0_0 l0_1 a0_2 a0_3)) else (some false)) = some r := H
        have A11 := aC.mk A110
        clear A110
        by_cases c12 : t177 = true
        ·subst c12
         have H1 : (if (((rd_T50 l0_1 x4_2).f1).length : Int) > 80 then (some false) else (spec_DevOk.l1 k2 (wrap64 (x4_2 + 1)) l0_0 l0_1 a0_2 a0_3)) = some r := by rw [if_pos rfl] at H; exact H
         clear H
         have H := H1
         clear H1
         by_cases c13 : (((rd_T50 l0_1 x4_2).f1).length : Int) > 80
         ·rw [if_pos c13] at H
          have c13b0 : decide (80 < (((rd_T50 l0_1 x4_2).f1).length : Int)) = true := decide_eq_true c13
          have c13b1 : decide (80 < ((rd_T50 l0_1 x4_2).f1).length) = true := decide_eq_true (by omega)
          clear c13
          obtain rfl := Option.some.inj H
          have hcz14_0 : wr.cell? ⟨gb174, 0, none⟩ = some (.slice A0_0 l0_0.length c0_0) := (aD BK174.out 0).trans rfl
          have hcz14_1 : wr.cell? ⟨gb174, 1, none⟩ = some (.slice A0_1 l0_1.length c0_1) := (aD BK174.out 1).trans rfl
          have hcz14_2 : wr.cell? ⟨gb174, 2, none⟩ = some (.int .i64 a0_2) := (aD BK174.out 2).trans rfl
          have hcz14_3 : wr.cell? ⟨gb174, 3, none⟩ = some (.bool a0_3) := (aD BK174.out 3).trans rfl
          have hfz14_0 := aA BK174.out 0
          have hfz14_1 := aA BK174.out 1
          have hfz14_2 := aA BK174.out 2
          have hfz14_3 := aA BK174.out 3
          have p176 : 0 ≤ (x4_2 : Int) := lE (by first | (with_reducible assumption) | assumption)
          have q176 : x4_2 < (l0_1.length : Int) := lE (by first | (with_reducible assumption) | assumption)
          obtain ⟨ad176, A176_1, c176_1, e176, hx176_0, hx176_1, hl176_1, hi176_1⟩ := at_T50 HR0_1.out x4_2 p176 q176
          cases e176
          replace hx176_0 := (HB.out.cell (lD w _ hx176_0)).trans hx176_0
          replace hx176_1 := (HB.out.cell (lD w _ hx176_1)).trans hx176_1
          have HR176_1 := aC.mk hi176_1
          have HC176_1 := aC.mk hl176_1
          clear hi176_1 hl176_1
          replace p176 := eq_true p176
          replace q176 := eq_true q176
          have hwq0_ : IntKind.i64.wrap ((l0_0.length : Int) - 1) = wrap64 ((l0_0.length : Int) - 1) := by rw [IntKind.wrap_i64]; unfold wrap64; rfl
          go_wp2_with (first | (go_at_call 43; (with_reducible refine (spec_l1In.calls ((rd_T50 l0_1 x4_2).f0) 0 (wrap64 ((l0_0.length : Int) - 1)) true _ A11.out).mono ?_); rintro e w' ⟨rfl, ⟨nd, rfl⟩⟩; (try first | exact ⟨rfl, _, World.drewN_drewN _ _ _⟩ | exact ⟨rfl, _, Eq.trans (World.drewN_drewN _ _ _) (congrArg (World.drewN _) (Nat.add_assoc _ _ _))⟩); have p178 : 0 ≤ (x4_2 : Int) := lE (by first | (with_reducible assumption) | assumption); have q178 : x4_2 < (l0_1.length : Int) := lE (by first | (with_reducible assumption) | assumption); obtain ⟨ad178, A178_1, c178_1, e178, hx178_0, hx178_1, hl178_1, hi178_1⟩ := at_T50 HR0_1.out x4_2 p178 q178; obtain rfl : ad176 = ad178 := (by injection e178); replace hx178_0 := (HB.out.cell (lD w _ hx178_0)).trans hx178_0; replace hx178_1 := (HB.out.cell (lD w _ hx178_1)).trans hx178_1; have HR178_1 := aC.mk hi178_1; have HC178_1 := aC.mk hl178_1; clear hi178_1 hl178_1; replace p178 := eq_true p178; replace q178 := eq_true q178; have ea_ := Option.some.inj (hx176_1.symm.trans hx178_1); injection ea_ with ea_ en_ ec_; subst ea_; subst ec_; clear en_))
          repeat (go_quiet (first | (go_at_call 43; (with_reducible refine (spec_l1In.calls ((rd_T50 l0_1 x4_2).f0) 0 (wrap64 ((l0_0.length : Int) - 1)) true _ A11.out).mono ?_); rintro e w' ⟨rfl, ⟨nd, rfl⟩⟩; (try first | exact ⟨rfl, _, World.drewN_drewN _ _ _⟩ | exact ⟨rfl, _, Eq.trans (World.drewN_drewN _ _ _) (congrArg (World.drewN _) (Nat.add_assoc _ _ _))⟩); have p178 : 0 ≤ (x4_2 : Int) := lE (by first | (with_reducible assumption) | assumption); have q178 : x4_2 < (l0_1.length : Int) := lE (by first | (with_reducible assumption) | assumption); obtain ⟨ad178, A178_1, c178_1, e178, hx178_0, hx178_1, hl178_1, hi178_1⟩ := at_T50 HR0_1.out x4_2 p178 q178; obtain rfl : ad176 = ad178 := (by injection e178); replace hx178_0 := (HB.out.cell (lD w _ hx178_0)).trans hx178_0; replace hx178_1 := (HB.out.cell (lD w _ hx178_1)).trans hx178_1; have HR178_1 := aC.mk hi178_1; have HC178_1 := aC.mk hl178_1; clear hi178_1 hl178_1; replace p178 := eq_true p178; replace q178 := eq_true q178; have ea_ := Option.some.inj (hx176_1.symm.trans hx178_1); injection ea_ with ea_ en_ ec_; subst ea_; subst ec_; clear en_)); try go_wp2_with (first | (go_at_call 43; (with_reducible refine (spec_l1In.calls ((rd_T50 l0_1 x4_2).f0) 0 (wrap64 ((l0_0.length : Int) - 1)) true _ A11.out).mono ?_); rintro e w' ⟨rfl, ⟨nd, rfl⟩⟩; (try first | exact ⟨rfl, _, World.drewN_drewN _ _ _⟩ | exact ⟨rfl, _, Eq.trans (World.drewN_drewN _ _ _) (congrArg (World.drewN _) (Nat.add_assoc _ _ _))⟩); have p178 : 0 ≤ (x4_2 : Int) := lE (by first | (with_reducible assumption) | assumption); have q178 : x4_2 < (l0_1.length : Int) := lE (by first | (with_reducible assumption) | assumption); obtain ⟨ad178, A178_1, c178_1, e178, hx178_0, hx178_1, hl178_1, hi178_1⟩ := at_T50 HR0_1.out x4_2 p178 q178; obtain rfl : ad176 = ad178 := (by injection e178); replace hx178_0 := (HB.out.cell (lD w _ hx178_0)).trans hx178_0; replace hx178_1 := (HB.out.cell (lD w _ hx178_1)).trans hx178_1; have HR178_1 := aC.mk hi178_1; have HC178_1 := aC.mk hl178_1; clear hi178_1 hl178_1; replace p178 := eq_true p178; replace q178 := eq_true q178; have ea_ := Option.some.inj (hx176_1.symm.trans hx178_1); injection ea_ with ea_ en_ ec_; subst ea_; subst ec_; clear en_)))
          go_ret
          exact ⟨by first | rfl | (simp [errW_none, errW_some] <;> rfl) | (simp [*, errW_none, errW_some] <;> rfl), by repeat (first | (with_reducible first | exact HB.out | apply aJ | apply aE | apply aH | refine aG ?_ GE174.out) | exact HB.out)⟩
         ·rw [if_neg c13] at H
          have c13b0 : decide (80 < (((rd_T50 l0_1 x4_2).f1).length : Int)) = false := decide_eq_false c13
          have c13b1 : decide (80 < ((rd_T50 l0_1 x4_2).f1).length) = false := decide_eq_false (by omega)
          clear c13
          have H' := aC.mk H
          clear H
          have hcz15_0 : wr.cell? ⟨gb174, 0, none⟩ = some (.slice A0_0 l0_0.length c0_0) := (aD BK174.out 0).trans rfl
          have hcz15_1 : wr.cell? ⟨gb174, 1, none⟩ = some (.slice A0_1 l0_1.length c0_1) := (aD BK174.out 1).trans rfl
          have hcz15_2 : wr.cell? ⟨gb174, 2, none⟩ = some (.int .i64 a0_2) := (aD BK174.out 2).trans rfl
          have hcz15_3 : wr.cell? ⟨gb174, 3, none⟩ = some (.bool a0_3) := (aD BK174.out 3).trans rfl
          have hfz15_0 := aA BK174.out 0
          have hfz15_1 := aA BK174.out 1
          have hfz15_2 := aA BK174.out 2
          have hfz15_3 := aA BK174.out 3
          have p176 : 0 ≤ (x4_2 : Int) := lE (by first | (with_reducible assumption) | assumption)
          have q176 : x4_2 < (l0_1.length : Int) := lE (by first | (with_reducible assumption) | assumption)
          obtain ⟨ad176, A176_1, c176_1, e176, hx176_0, hx176_1, hl176_1, hi176_1⟩ := at_T50 HR0_1.out x4_2 p176 q176
          cases e176
          replace hx176_0 := (HB.out.cell (lD w _ hx176_0)).trans hx176_0
          replace hx176_1 := (HB.out.cell (lD w _ hx176_1)).trans hx176_1
          have HR176_1 := aC.mk hi176_1
          have HC176_1 := aC.mk hl176_1
          clear hi176_1 hl176_1
          replace p176 := eq_true p176
          replace q176 := eq_true q176
          have hwq0_ : IntKind.i64.wrap ((l0_0.length : Int) - 1) = wrap64 ((l0_0.length : Int) - 1) := by rw [IntKind.wrap_i64]; unfold wrap64; rfl
          go_wp2_with (first | (go_at_call 43; (with_reducible refine (spec_l1In.calls ((rd_T50 l0_1 x4_2).f0) 0 (wrap64 ((l0_0.length : Int) - 1)) true _ A11.out).mono ?_); rintro e w' ⟨rfl, ⟨nd, rfl⟩⟩; (try first | exact ⟨rfl, _, World.drewN_drewN _ _ _⟩ | exact ⟨rfl, _, Eq.trans (World.drewN_drewN _ _ _) (congrArg (World.drewN _) (Nat.add_assoc _ _ _))⟩); have p178 : 0 ≤ (x4_2 : Int) := lE (by first | (with_reducible assumption) | assumption); have q178 : x4_2 < (l0_1.length : Int) := lE (by first | (with_reducible assumption) | assumption); obtain ⟨ad178, A178_1, c178_1, e178, hx178_0, hx178_1, hl178_1, hi178_1⟩ := at_T50 HR0_1.out x4_2 p178 q178; obtain rfl : ad176 = ad178 := (by injection e178); replace hx178_0 := (HB.out.cell (lD w _ hx178_0)).trans hx178_0; replace hx178_1 := (HB.out.cell (lD w _ hx178_1)).trans hx178_1; have HR178_1 := aC.mk hi178_1; have HC178_1 := aC.mk hl178_1; clear hi178_1 hl178_1; replace p178 := eq_true p178; replace q178 := eq_true q178; have ea_ := Option.some.inj (hx176_1.symm.trans hx178_1); injection ea_ with ea_ en_ ec_; subst ea_; subst ec_; clear en_))
          repeat (go_quiet (first | (go_at_call 43; (with_reducible refine (spec_l1In.calls ((rd_T50 l0_1 x4_2).f0) 0 (wrap64 ((l0_0.length : Int) - 1)) true _ A11.out).mono ?_); rintro e w' ⟨rfl, ⟨nd, rfl⟩⟩; (try first | exact ⟨rfl, _, World.drewN_drewN _ _ _⟩ | exact ⟨rfl, _, Eq.trans (World.drewN_drewN _ _ _) (congrArg (World.drewN _) (Nat.add_assoc _ _ _))⟩); have p178 : 0 ≤ (x4_2 : Int) := lE (by first | (with_reducible assumption) | assumption); have q178 : x4_2 < (l0_1.length : Int) := lE (by first | (with_reducible assumption) | assumption); obtain ⟨ad178, A178_1, c178_1, e178, hx178_0, hx178_1, hl178_1, hi178_1⟩ := at_T50 HR0_1.out x4_2 p178 q178; obtain rfl : ad176 = ad178 := (by injection e178); replace hx178_0 := (HB.out.cell (lD w _ hx178_0)).trans hx178_0; replace hx178_1 := (HB.out.cell (lD w _ hx178_1)).trans hx178_1; have HR178_1 := aC.mk hi178_1; have HC178_1 := aC.mk hl178_1; clear hi178_1 hl178_1; replace p178 := eq_true p178; replace q178 := eq_true q178; have ea_ := Option.some.inj (hx176_1.symm.trans hx178_1); injection ea_ with ea_ en_ ec_; subst ea_; subst ec_; clear en_)); try go_wp2_with (first | (go_at_call 43; (with_reducible refine (spec_l1In.calls ((rd_T50 l0_1 x4_2).f0) 0 (wrap64 ((l0_0.length : Int) - 1)) true _ A11.out).mono ?_); rintro e w' ⟨rfl, ⟨nd, rfl⟩⟩; (try first | exact ⟨rfl, _, World.drewN_drewN _ _ _⟩ | exact ⟨rfl, _, Eq.trans (World.drewN_drewN _ _ _) (congrArg (World.drewN _) (Nat.add_assoc _ _ _))⟩); have p178 : 0 ≤ (x4_2 : Int) := lE (by first | (with_reducible assumption) | assumption); have q178 : x4_2 < (l0_1.length : Int) := lE (by first | (with_reducible assumption) | assumption); obtain ⟨ad178, A178_1, c178_1, e178, hx178_0, hx178_1, hl178_1, hi178_1⟩ := at_T50 HR0_1.out x4_2 p178 q178; obtain rfl : ad176 = ad178 := (by injection e178); replace hx178_0 := (HB.out.cell (lD w _ hx178_0)).trans hx178_0; replace hx178_1 := (HB.out.cell (lD w _ hx178_1)).trans hx178_1; have HR178_1 := aC.mk hi178_1; have HC178_1 := aC.mk hl178_1; clear hi178_1 hl178_1; replace p178 := eq_true p178; replace q178 := eq_true q178; have ea_ := Option.some.inj (hx176_1.symm.trans hx178_1); injection ea_ with ea_ en_ ec_; subst ea_; subst ec_; clear en_)))
          go_roundg k2
          case measure => have := HK1.out; have := HK2.out; omega
          case rel => exact ⟨(wrap64 (x4_2 + 1)), (by first | rfl | (simp; done) | (simp [*]; done)), H', ⟨by have := HK1.out; have := HK2.out; omega⟩, ⟨by (with_reducible repeat (first | refine aN ?_ _ | refine aQ ?_ | refine aM ?_ _)); exact BK174.out⟩, ⟨by repeat (first | (with_reducible first | exact HB.out | apply aJ | apply aE | apply aH | refine aG ?_ GE174.out) | exact HB.out)⟩⟩
        ·replace c12 := Bool.eq_false_iff.mpr c12
         subst c12
         have H1 : (some false) = some r := by rw [if_neg (show ¬ (false = true) by decide)] at H; exact H
         clear H
         have H := H1
         clear H1
         obtain rfl := Option.some.inj H
         have hcz16_0 : wr.cell? ⟨gb174, 0, none⟩ = some (.slice A0_0 l0_0.length c0_0) := (aD BK174.out 0).trans rfl
         have hcz16_1 : wr.cell? ⟨gb174, 1, none⟩ = some (.slice A0_1 l0_1.length c0_1) := (aD BK174.out 1).trans rfl
         have hcz16_2 : wr.cell? ⟨gb174, 2, none⟩ = some (.int .i64 a0_2) := (aD BK174.out 2).trans rfl
         have hcz16_3 : wr.cell? ⟨gb174, 3, none⟩ = some (.bool a0_3) := (aD BK174.out 3).trans rfl
         have hfz16_0 := aA BK174.out 0
         have hfz16_1 := aA BK174.out 1
         have hfz16_2 := aA BK174.out 2
         have hfz16_3 := aA BK174.out 3
         have p176 : 0 ≤ (x4_2 : Int) := lE (by first | (with_reducible assumption) | assumption)
         have q176 : x4_2 < (l0_1.length : Int) := lE (by first | (with_reducible assumption) | assumption)
         obtain ⟨ad176, A176_1, c176_1, e176, hx176_0, hx176_1, hl176_1, hi176_1⟩ := at_T50 HR0_1.out x4_2 p176 q176
         cases e176
         replace hx176_0 := (HB.out.cell (lD w _ hx176_0)).trans hx176_0
         replace hx176_1 := (HB.out.cell (lD w _ hx176_1)).trans hx176_1
         have HR176_1 := aC.mk hi176_1
         have HC176_1 := aC.mk hl176_1
         clear hi176_1 hl176_1
         replace p176 := eq_true p176
         replace q176 := eq_true q176
         have hwq0_ : IntKind.i64.wrap ((l0_0.length : Int) - 1) = wrap64 ((l0_0.length : Int) - 1) := by rw [IntKind.wrap_i64]; unfold wrap64; rfl
         go_wp2_with (first | (go_at_call 43; (with_reducible refine (spec_l1In.calls ((rd_T50 l0_1 x4_2).f0) 0 (wrap64 ((l0_0.length : Int) - 1)) false _ A11.out).mono ?_); rintro e w' ⟨rfl, ⟨nd, rfl⟩⟩; (try first | exact ⟨rfl, _, World.drewN_drewN _ _ _⟩ | exact ⟨rfl, _, Eq.trans (World.drewN_drewN _ _ _) (congrArg (World.drewN _) (Nat.add_assoc _ _ _))⟩)))
         repeat (go_quiet (first | (go_at_call 43; (with_reducible refine (spec_l1In.calls ((rd_T50 l0_1 x4_2).f0) 0 (wrap64 ((l0_0.length : Int) - 1)) false _ A11.out).mono ?_); rintro e w' ⟨rfl, ⟨nd, rfl⟩⟩; (try first | exact ⟨rfl, _, World.drewN_drewN _ _ _⟩ | exact ⟨rfl, _, Eq.trans (World.drewN_drewN _ _ _) (congrArg (World.drewN _) (Nat.add_assoc _ _ _))⟩))); try go_wp2_with (first | (go_at_call 43; (with_reducible refine (spec_l1In.calls ((rd_T50 l0_1 x4_2).f0) 0 (wrap64 ((l0_0.length : Int) - 1)) false _ A11.out).mono ?_); rintro e w' ⟨rfl, ⟨nd, rfl⟩⟩; (try first | exact ⟨rfl, _, World.drewN_drewN _ _ _⟩ | exact ⟨rfl, _, Eq.trans (World.drewN_drewN _ _ _) (congrArg (World.drewN _) (Nat.add_assoc _ _ _))⟩))))
         go_ret
         exact ⟨by first | rfl | (simp [errW_none, errW_some] <;> rfl) | (simp [*, errW_none, errW_some] <;> rfl), by repeat (first | (with_reducible first | exact HB.out | apply aJ | apply aE | apply aH | refine aG ?_ GE174.out) | exact HB.out)⟩
       ·rw [if_neg c10] at H
        exact absurd H (by simp)
      ·rw [if_neg c9] at H
       have c9b0 : decide (x4_2 < (l0_1.length : Int)) = false := decide_eq_false c9
       clear c9
       replace H := lF H
       obtain ⟨t179, A170, H⟩ := H
       replace H : (if t179 = true then (if (l0_1.length : Int) ≤ 60 then ((spec_l1In.f a0_2 (-1) 1000).bind fun t180 => (some t180)) else (some false)) else (some false)) = some r := H
       have A17 := aC.mk A170
       clear A170
       by_cases c18 : t179 = true
       ·subst c18
        have H1 : (if (l0_1.length : Int) ≤ 60 then ((spec_l1In.f a0_2 (-1) 1000).bind fun t180 => (some t180)) else (some false)) = some r := by rw [if_pos rfl] at H; exact H
        clear H
        have H := H1
        clear H1
        by_cases c19 : (l0_1.length : Int) ≤ 60
        ·rw [if_pos c19] at H
         have c19b0 : decide ((l0_1.length : Int) ≤ 60) = true := decide_eq_true c19
         have c19b1 : decide (l0_1.length ≤ 60) = true := decide_eq_true (by omega)
         clear c19
         replace H := lF H
         obtain ⟨t180, A200, H⟩ := H
         replace H : (some t180) = some r := H
         have A20 := aC.mk A200
         clear A200
         obtain rfl := Option.some.inj H
         have hcz21_0 : wr.cell? ⟨gb174, 0, none⟩ = some (.slice A0_0 l0_0.length c0_0) := (aD BK174.out 0).trans rfl
         have hcz21_1 : wr.cell? ⟨gb174, 1, none⟩ = some (.slice A0_1 l0_1.length c0_1) := (aD BK174.out 1).trans rfl
         have hcz21_2 : wr.cell? ⟨gb174, 2, none⟩ = some (.int .i64 a0_2) := (aD BK174.out 2).trans rfl
         have hcz21_3 : wr.cell? ⟨gb174, 3, none⟩ = some (.bool a0_3) := (aD BK174.out 3).trans rfl
         have hfz21_0 := aA BK174.out 0
         have hfz21_1 := aA BK174.out 1
         have hfz21_2 := aA BK174.out 2
         have hfz21_3 := aA BK174.out 3
         go_wp2_with (first | (go_at_call 43; (with_reducible refine (spec_l1In.calls (l0_0.length : Int) 1 60 true _ A17.out).mono ?_); rintro e w' ⟨rfl, ⟨nd, rfl⟩⟩; (try first | exact ⟨rfl, _, World.drewN_drewN _ _ _⟩ | exact ⟨rfl, _, Eq.trans (World.drewN_drewN _ _ _) (congrArg (World.drewN _) (Nat.add_assoc _ _ _))⟩)) | (go_at_call 43; (with_reducible refine (spec_l1In.calls a0_2 (-1) 1000 t180 _ A20.out).mono ?_); rintro e w' ⟨rfl, ⟨nd, rfl⟩⟩; (try first | exact ⟨rfl, _, World.drewN_drewN _ _ _⟩ | exact ⟨rfl, _, Eq.trans (World.drewN_drewN _ _ _) (congrArg (World.drewN _) (Nat.add_assoc _ _ _))⟩)))
         repeat (go_quiet (first | (go_at_call 43; (with_reducible refine (spec_l1In.calls (l0_0.length : Int) 1 60 true _ A17.out).mono ?_); rintro e w' ⟨rfl, ⟨nd, rfl⟩⟩; (try first | exact ⟨rfl, _, World.drewN_drewN _ _ _⟩ | exact ⟨rfl, _, Eq.trans (World.drewN_drewN _ _ _) (congrArg (World.drewN _) (Nat.add_assoc _ _ _))⟩)) | (go_at_call 43; (with_reducible refine (spec_l1In.calls a0_2 (-1) 1000 t180 _ A20.out).mono ?_); rintro e w' ⟨rfl, ⟨nd, rfl⟩⟩; (try first | exact ⟨rfl, _, World.drewN_drewN _ _ _⟩ | exact ⟨rfl, _, Eq.trans (World.drewN_drewN _ _ _) (congrArg (World.drewN _) (Nat.add_assoc _ _ _))⟩))); try go_wp2_with (first | (go_at_call 43; (with_reducible refine (spec_l1In.calls (l0_0.length : Int) 1 60 true _ A17.out).mono ?_); rintro e w' ⟨rfl, ⟨nd, rfl⟩⟩; (try first | exact ⟨rfl, _, World.drewN_drewN _ _ _⟩ | exact ⟨rfl, _, Eq.trans (World.drewN_drewN _ _ _) (congrArg (World.drewN _) (Nat.add_assoc _ _ _))⟩)) | (go_at_call 43; (with_reducible refine (spec_l1In.calls a0_2 (-1) 1000 t180 _ A20.out).mono ?_); rintro e w' ⟨rfl, ⟨nd, rfl⟩⟩; (try first | exact ⟨rfl, _, World.drewN_drewN _ _ _⟩ | exact ⟨rfl, _, Eq.trans (World.drewN_drewN _ _ _) (congrArg (World.drewN _) (Nat.add_assoc _ _ _))⟩))))
         go_ret
         exact ⟨by first | rfl | (simp [errW_none, errW_some] <;> rfl) | (simp [*, errW_none, errW_some] <;> rfl), by repeat (first | (with_reducible first | exact HB.out | apply aJ | apply aE | apply aH | refine aG ?_ GE174.out) | exact HB.out)⟩
        ·rw [if_neg c19] at H
         have c19b0 : decide ((l0_1.length : Int) ≤ 60) = false := decide_eq_false c19
         have c19b1 : decide (l0_1.length ≤ 60) = false := decide_eq_false (by omega)
         clear c19
         obtain rfl := Option.some.inj H
         have hcz22_0 : wr.cell? ⟨gb174, 0, none⟩ = some (.slice A0_0 l0_0.length c0_0) := (aD BK174.out 0).trans rfl
         have hcz22_1 : wr.cell? ⟨gb174, 1, none⟩ = some (.slice A0_1 l0_1.length c0_1) := (aD BK174.out 1).trans rfl
         have hcz22_2 : wr.cell? ⟨gb174, 2, none⟩ = some (.int .i64 a0_2) := (aD BK174.out 2).trans rfl
         have hcz22_3 : wr.cell? ⟨gb174, 3, none⟩ = some (.bool a0_3) := (aD BK174.out 3).trans rfl
         have hfz22_0 := aA BK174.out 0
         have hfz22_1 := aA BK174.out 1
         have hfz22_2 := aA BK174.out 2
         have hfz22_3 := aA BK174.out 3
         go_wp2_with (first | (go_at_call 43; (with_reducible refine (spec_l1In.calls (l0_0.length : Int) 1 60 true _ A17.out).mono ?_); rintro e w' ⟨rfl, ⟨nd, rfl⟩⟩; (try first | exact ⟨rfl, _, World.drewN_drewN _ _ _⟩ | exact ⟨rfl, _, Eq.trans (World.drewN_drewN _ _ _) (congrArg (World.drewN _) (Nat.add_assoc _ _ _))⟩)))
         repeat (go_quiet (first | (go_at_call 43; (with_reducible refine (spec_l1In.calls (l0_0.length : Int) 1 60 true _ A17.out).mono ?_); rintro e w' ⟨rfl, ⟨nd, rfl⟩⟩; (try first | exact ⟨rfl, _, World.drewN_drewN _ _ _⟩ | exact ⟨rfl, _, Eq.trans (World.drewN_drewN _ _ _) (congrArg (World.drewN _) (Nat.add_assoc _ _ _))⟩))); try go_wp2_with (first | (go_at_call 43; (with_reducible refine (spec_l1In.calls (l0_0.length : Int) 1 60 true _ A17.out).mono ?_); rintro e w' ⟨rfl, ⟨nd, rfl⟩⟩; (try first | exact ⟨rfl, _, World.drewN_drewN _ _ _⟩ | exact ⟨rfl, _, Eq.trans (World.drewN_drewN _ _ _) (congrArg (World.drewN _) (Nat.add_assoc _ _ _))⟩))))
         go_ret
         exact ⟨by first | rfl | (simp [errW_none, errW_some] <;> rfl) | (simp [*, errW_none, errW_some] <;> rfl), by repeat (first | (with_reducible first | exact HB.out | apply aJ | apply aE | apply aH | refine aG ?_ GE174.out) | exact HB.out)⟩
       ·replace c18 := Bool.eq_false_iff.mpr c18
        subst c18
        have H1 : (some false) = some r := by rw [if_neg (show ¬ (false = true) by decide)] at H; exact H
        clear H
        have H := H1
        clear H1
        obtain rfl := Option.some.inj H
        have hcz23_0 : wr.cell? ⟨gb174, 0, none⟩ = some (.slice A0_0 l0_0.length c0_0) := (aD BK174.out 0).trans rfl
        have hcz23_1 : wr.cell? ⟨gb174, 1, none⟩ = some (.slice A0_1 l0_1.length c0_1) := (aD BK174.out 1).trans rfl
        have hcz23_2 : wr.cell? ⟨gb174, 2, none⟩ = some (.int .i64 a0_2) := (aD BK174.out 2).trans rfl
        have hcz23_3 : wr.cell? ⟨gb174, 3, none⟩ = some (.bool a0_3) := (aD BK174.out 3).trans rfl
        have hfz23_0 := aA BK174.out 0
        have hfz23_1 := aA BK174.out 1
        have hfz23_2 := aA BK174.out 2
        have hfz23_3 := aA BK174.out 3
        go_wp2_with (first | (go_at_call 43; (with_reducible refine (spec_l1In.calls (l0_0.length : Int) 1 60 false _ A17.out).mono ?_); rintro e w' ⟨rfl, ⟨nd, rfl⟩⟩; (try first | exact ⟨rfl, _, World.drewN_drewN _ _ _⟩ | exact ⟨rfl, _, Eq.trans (World.drewN_drewN _ _ _) (congrArg (World.drewN _) (Nat.add_assoc _ _ _))⟩)))
        repeat (go_quiet (first | (go_at_call 43; (with_reducible refine (spec_l1In.calls (l0_0.length : Int) 1 60 false _ A17.out).mono ?_); rintro e w' ⟨rfl, ⟨nd, rfl⟩⟩; (try first | exact ⟨rfl, _, World.drewN_drewN _ _ _⟩ | exact ⟨rfl, _, Eq.trans (World.drewN_drewN _ _ _) (congrArg (World.drewN _) (Nat.add_assoc _ _ _))⟩))); try go_wp2_with (first | (go_at_call 43; (with_reducible refine (spec_l1In.calls (l0_0.length : Int) 1 60 false _ A17.out).mono ?_); rintro e w' ⟨rfl, ⟨nd, rfl⟩⟩; (try first | exact ⟨rfl, _, World.drewN_drewN _ _ _⟩ | exact ⟨rfl, _, Eq.trans (World.drewN_drewN _ _ _) (congrArg (World.drewN _) (Nat.add_assoc _ _ _))⟩))))
        go_ret
        exact ⟨by first | rfl | (simp [errW_none, errW_some] <;> rfl) | (simp [*, errW_none, errW_some] <;> rfl), by repeat (first | (with_reducible first | exact HB.out | apply aJ | apply aE | apply aH | refine aG ?_ GE174.out) | exact HB.out)⟩
end Go.Proofs.Ytilhcaofpfeioaa.PFnExactFallDev

namespace Go.Proofs.Ytilhcaofpfeioaa.PFnExactFallDev
open Go.RowKit Go.Proofs.YtilhcaofpfeioaaW.PrintWords Go.Proofs.YtilhcaofpfeioaaW.PrintLast Go.Proofs.YtilhcaofpfeioaaW.PrintMore
attribute [local go_sem] max2_int min2_int max_two min_two max_three min_three max_four min_four   -- for this text's walks alone
set_option linter.unusedVariables false
set_option linter.unusedSimpArgs false
mutual
def spec_l2Copy.l0 : Nat → Int → List (List Int) → List (S50) → Int → Bool → List (List Int) → Int → Bool → Option ((List (List Int)) × (List (S50)) × Int × Bool)
 | 0, _, _, _, _, _, _, _, _ => none
 | k + 1, x4, x182000, x182001, x182002, x182003, x184000, x184002, x184003 => if x4 < (x182000.length : Int) then ((some (([] : List Int) : List Int)).bind fun y184 => (if 0 ≤ x4 then (if y184.length + (rd_L1 x182000 x4).length < 140737488355328 then (if x184000.length < 5864062014805 then (spec_l2Copy.l0 k (wrap64 (x4 + 1)) x182000 x182001 x182002 x182003 (x184000 ++ [(y184 ++ (rd_L1 x182000 x4))]) x184002 x184003) else (none)) else (none)) else (none))) else (spec_l2Copy.l1 k 0 x182000 x182001 x182002 x182003 x184000 ([] : List (S50)) x184002 x184003)
def spec_l2Copy.l1 : Nat → Int → List (List Int) → List (S50) → Int → Bool → List (List Int) → List (S50) → Int → Bool → Option ((List (List Int)) × (List (S50)) × Int × Bool)
 | 0, _, _, _, _, _, _, _, _, _ => none
 | k + 1, x5, x182000, x182001, x182002, x182003, x184000, x184001, x184002, x184003 => if x5 < (x182001.length : Int) then (if 0 ≤ x5 then ((some (([] : List Int) : List Int)).bind fun y195 => (if y195.length + ((rd_T50 x182001 x5).f1).length < 140737488355328 then (if x184001.length < 4398046511104 then (spec_l2Copy.l1 k (wrap64 (x5 + 1)) x182000 x182001 x182002 x182003 x184000 (x184001 ++ [(⟨(rd_T50 x182001 x5).f0, (y195 ++ ((rd_T50 x182001 x5).f1))⟩ : S50)]) x184002 x184003) else (none)) else (none))) else (none)) else (some (x184000, x184001, x184002, x184003))
end
def spec_l2Copy.f (k : Nat) (l0_0 : List (List Int)) (l0_1 : List (S50)) (a0_2 : Int) (a0_3 : Bool) : Option ((List (List Int)) × (List (S50)) × Int × Bool) := spec_l2Copy.l0 k 0 l0_0 l0_1 a0_2 a0_3 ([] : List (List Int)) a0_2 a0_3
def spec_l2Copy.T5 : Bool × List (List Nat × List Nat) := (true, [([], []), ([0], [0]), ([], []), ([], []), ([3], [3]), ([], []), ([4, 5], [4, 5]), ([6], [6]), ([2, 7], [2, 7]), ([8], [8]), ([1, 9, 8], [1, 9]), ([0, 1, 2, 3, 4, 5, 6, 7, 8, 9, 10], []), ([11, 10, 10, 0, 1, 2, 3, 4, 5, 6, 7, 8, 9, 10], [10, 11])])
def spec_l2Copy.B5 : List Nat := [0, 1, 0, 0, 8, 0, 56, 120, 252, 508, 1023, 2047, 4095]
theorem spec_l2Copy.tab5 : rtab .any (opsOf Try.f56 5) = spec_l2Copy.T5 := by kernel_rfl
theorem spec_l2Copy.bits5 : waitsOk spec_l2Copy.T5.2 spec_l2Copy.B5 = true := by kernel_rfl
def spec_l2Copy.T9 : Bool × List (List Nat × List Nat) := (true, [([], []), ([0], [0]), ([], []), ([2], [2]), ([], []), ([3, 4], [3, 4]), ([5], [5]), ([6], [6]), ([], []), ([], []), ([9], [9]), ([], []), ([10, 11], [10, 11]), ([12], [12]), ([13], [13]), ([8, 14], [8, 14]), ([7, 15], [7, 15]), ([16], [16]), ([1, 17, 15], [1, 17]), ([0, 1, 2, 3, 4, 5, 6, 7, 8, 9, 10, 11, 12, 13, 14, 15, 16, 17, 18], []), ([19, 18, 18, 0, 1, 2, 3, 4, 5, 6, 7, 8, 9, 10, 11, 12, 13, 14, 15, 16, 17, 18], [18, 19])])
def spec_l2Copy.B9 : List Nat := [0, 1, 0, 4, 0, 28, 60, 124, 0, 0, 512, 0, 3584, 7680, 15872, 32512, 65532, 131068, 262143, 524287, 1048575]
theorem spec_l2Copy.tab9 : rtab .any (opsOf Try.f56 9) = spec_l2Copy.T9 := by kernel_rfl
theorem spec_l2Copy.bits9 : waitsOk spec_l2Copy.T9.2 spec_l2Copy.B9 = true := by kernel_rfl
set_option maxHeartbeats 8000000 in
set_option maxRecDepth 100000 in
theorem spec_l2Copy.calls (k : Nat) (A0_0 : Option Addr) (c0_0 : Nat) (l0_0 : List (List Int)) (A0_1 : Option Addr) (c0_1 : Nat) (l0_1 : List (S50)) (a0_2 : Int) (a0_3 : Bool) (r1 : List (List Int)) (r2 : List (S50)) (r3 : Int) (r4 : Bool) (w : World) (hr0_0 : Kd.C (Kd.slice 5 (Kd.int .u8)) w A0_0 l0_0.length l0_0) (hc0_0 : l0_0.length ≤ c0_0) (hr0_1 : Kd.C k50 w A0_1 l0_1.length l0_1) (hc0_1 : l0_1.length ≤ c0_1) (h : spec_l2Copy.f k l0_0 l0_1 a0_2 a0_3 = some (r1, r2, r3, r4)) :
  Calls Try.prog 56 #[.agg #[.slice A0_0 l0_0.length c0_0, .slice A0_1 l0_1.length c0_1, .int .i64 a0_2, .bool a0_3]] w fun e w' => ∃ v0_ v1_ : Value, e = .returned (.agg #[v0_, v1_, .int .i64 r3, .bool r4]) ∧ Kd.S (Kd.slice 5 (Kd.int .u8)) 37 w' w.heap.size (fun _ => True) v0_ r1 ∧ Kd.S k50 50 w' w.heap.size (fun _ => True) v1_ r2 ∧ Below w.heap.size w w' := by
 have hu25 := Try.underlying25
 have hu50 := Try.underlying50
 have HR0_0 := aC.mk hr0_0
 have HC0_0 := aC.mk hc0_0
 clear hr0_0 hc0_0
 have HR0_1 := aC.mk hr0_1
 have HC0_1 := aC.mk hc0_1
 clear hr0_1 hc0_1
 have HB := aC.mk (Below.refl w.heap.size w)
 have H : (spec_l2Copy.l0 k 0 l0_0 l0_1 a0_2 a0_3 ([] : List (List Int)) a0_2 a0_3) = some (r1, r2, r3, r4) := h
 clear h
 have H' := aC.mk H
 clear H
 go_enter Try.func56, Try.ntmps56
 go_wp2_with (first | ((with_reducible refine bC (N := 1) rfl ?_); refine bB ?hg (N := 1) ?hd (cs := #[.slice A0_0 l0_0.length c0_0, .slice A0_1 l0_1.length c0_1, .int .i64 a0_2, .bool a0_3]) (t := 25) ?hr ?_; (case hd => rfl); (case hg => rfl); (case hr => first | (go_simp; done) | (go_simp; rfl)); intro gb181 hg w2 hbox hb; have n0_ := aC.mk (aU (by repeat (first | (with_reducible first | exact HB.out | apply aJ | apply aE | apply aH) | exact HB.out)) hb); have n1_ := aC.mk (hbox); have n2_ := aC.mk ((by rw [hg]; exact (aW (by repeat (first | (with_reducible first | exact HB.out | apply aJ | apply aE | apply aH) | exact HB.out))) : w.heap.size ≤ gb181)); have n3_ := aC.mk ((by rw [hg]; exact (aW (by repeat (first | (with_reducible first | exact HB.out | apply aJ | apply aE | apply aH) | exact HB.out))) : w.heap.size ≤ gb181)); clear HB; have HB := n0_; have BK181 := n1_; have GW181 := n2_; have GE181 := n3_; clear n0_ n1_ n2_ n3_; clear hb hbox hg) | ((with_reducible refine bC (N := 2) rfl ?_); refine bB ?hg (N := 2) ?hd (cs := #[.slice none 0 0, .slice none 0 0, .int .i64 0, .bool false]) (t := 25) ?hr ?_; (case hd => rfl); (case hg => rfl); (case hr => first | (go_simp; done) | (go_simp; rfl)); intro gb182 hg w3 hbox hb; have n0_ := aC.mk (aT (g := gb181) (o := .cells #[.slice A0_0 l0_0.length c0_0, .slice A0_1 l0_1.length c0_1, .int .i64 a0_2, .bool a0_3] 25 (0, 0)) (by (with_reducible repeat (first | refine aN ?_ _ | refine aQ ?_ | refine aM ?_ _)); exact BK181.out) hb); have n1_ := aC.mk (aU (by repeat (first | (with_reducible first | exact HB.out | apply aJ | apply aE | apply aH | refine aG ?_ GE181.out) | exact HB.out)) hb); have n2_ := aC.mk (hbox); have n3_ := aC.mk ((by rw [hg]; exact (aW (by repeat (first | (with_reducible first | exact HB.out | apply aJ | apply aE | apply aH | refine aG ?_ GE181.out) | exact HB.out))) : w.heap.size ≤ gb182)); have n4_ := aC.mk ((by rw [hg]; exact (aW (by repeat (first | (with_reducible first | exact HB.out | apply aJ | apply aE | apply aH | refine aG ?_ GE181.out) | exact HB.out))) : w.heap.size ≤ gb182)); have n5_ := aC.mk ((by rw [hg]; exact Nat.ne_of_lt (bH (g := gb181) (o := .cells #[.slice A0_0 l0_0.length c0_0, .slice A0_1 l0_1.length c0_1, .int .i64 a0_2, .bool a0_3] 25 (0, 0)) (by (with_reducible repeat (first | refine aN ?_ _ | refine aQ ?_ | refine aM ?_ _)); exact BK181.out)) : gb181 ≠ gb182)); have n6_ := aC.mk ((by rw [hg]; exact Nat.ne_of_gt (bH (g := gb181) (o := .cells #[.slice A0_0 l0_0.length c0_0, .slice A0_1 l0_1.length c0_1, .int .i64 a0_2, .bool a0_3] 25 (0, 0)) (by (with_reducible repeat (first | refine aN ?_ _ | refine aQ ?_ | refine aM ?_ _)); exact BK181.out)) : gb182 ≠ gb181)); clear BK181; clear HB; have BK181 := n0_; have HB := n1_; have BK182 := n2_; have GW182 := n3_; have GE182 := n4_; have NB181_182 := n5_; have NB182_181 := n6_; clear n0_ n1_ n2_ n3_ n4_ n5_ n6_; clear hb hbox hg; have hnb4 := NB181_182.out; have hnc4 := NB182_181.out; have hcz5_0 : w3.cell? ⟨gb181, 0, none⟩ = some (.slice A0_0 l0_0.length c0_0) := (aD BK181.out 0).trans rfl; have hcz5_1 : w3.cell? ⟨gb181, 1, none⟩ = some (.slice A0_1 l0_1.length c0_1) := (aD BK181.out 1).trans rfl; have hcz5_2 : w3.cell? ⟨gb181, 2, none⟩ = some (.int .i64 a0_2) := (aD BK181.out 2).trans rfl; have hcz5_3 : w3.cell? ⟨gb181, 3, none⟩ = some (.bool a0_3) := (aD BK181.out 3).trans rfl; have hfz5_0 := aA BK181.out 0; have hfz5_1 := aA BK181.out 1; have hfz5_2 := aA BK181.out 2; have hfz5_3 := aA BK181.out 3) | ((with_reducible refine bC (N := 3) rfl ?_); refine bB ?hg (N := 3) ?hd (cs := #[.slice none 0 0, .slice none 0 0, .int .i64 0, .bool false]) (t := 25) ?hr ?_; (case hd => rfl); (case hg => rfl); (case hr => first | (go_simp; done) | (go_simp; rfl)); intro gb183 hg w6 hbox hb; have n0_ := aC.mk (aT (g := gb181) (o := .cells #[.slice A0_0 l0_0.length c0_0, .slice A0_1 l0_1.length c0_1, .int .i64 a0_2, .bool a0_3] 25 (0, 0)) (by (with_reducible repeat (first | refine aN ?_ _ | refine aQ ?_ | refine aM ?_ _)); exact BK181.out) hb); have n1_ := aC.mk (aT (g := gb182) (o := .cells #[.slice none 0 0, .slice none 0 0, .int .i64 0, .bool false] 25 (0, 0)) (by (with_reducible repeat (first | refine aN ?_ _ | refine aQ ?_ | refine aM ?_ _)); exact BK182.out) hb); have n2_ := aC.mk (aU (by repeat (first | (with_reducible first | exact HB.out | apply aJ | apply aE | apply aH | refine aG ?_ GE181.out | refine aG ?_ GE182.out) | exact HB.out)) hb); have n3_ := aC.mk (hbox); have n4_ := aC.mk ((by rw [hg]; exact (aW (by repeat (first | (with_reducible first | exact HB.out | apply aJ | apply aE | apply aH | refine aG ?_ GE181.out | refine aG ?_ GE182.out) | exact HB.out))) : w.heap.size ≤ gb183)); have n5_ := aC.mk ((by rw [hg]; exact (aW (by repeat (first | (with_reducible first | exact HB.out | apply aJ | apply aE | apply aH | refine aG ?_ GE181.out | refine aG ?_ GE182.out) | exact HB.out))) : w.heap.size ≤ gb183)); have n6_ := aC.mk ((by rw [hg]; exact Nat.ne_of_lt (bH (g := gb181) (o := .cells #[.slice A0_0 l0_0.length c0_0, .slice A0_1 l0_1.length c0_1, .int .i64 a0_2, .bool a0_3] 25 (0, 0)) (by (with_reducible repeat (first | refine aN ?_ _ | refine aQ ?_ | refine aM ?_ _)); exact BK181.out)) : gb181 ≠ gb183)); have n7_ := aC.mk ((by rw [hg]; exact Nat.ne_of_gt (bH (g := gb181) (o := .cells #[.slice A0_0 l0_0.length c0_0, .slice A0_1 l0_1.length c0_1, .int .i64 a0_2, .bool a0_3] 25 (0, 0)) (by (with_reducible repeat (first | refine aN ?_ _ | refine aQ ?_ | refine aM ?_ _)); exact BK181.out)) : gb183 ≠ gb181)); have n8_ := aC.mk ((by rw [hg]; exact Nat.ne_of_lt (bH (g := gb182) (o := .cells #[.slice none 0 0, .slice none 0 0, .int .i64 0, .bool false] 25 (0, 0)) (by (with_reducible repeat (first | refine aN ?_ _ | refine aQ ?_ | refine aM ?_ _)); exact BK182.out)) : gb182 ≠ gb183)); have n9_ := aC.mk ((by rw [hg]; exact Nat.ne_of_gt (bH (g := gb182) (o := .cells #[.slice none 0 0, .slice none 0 0, .int .i64 0, .bool false] 25 (0, 0)) (by (with_reducible repeat (first | refine aN ?_ _ | refine aQ ?_ | refine aM ?_ _)); exact BK182.out)) : gb183 ≠ gb182)); clear BK181; clear BK182; clear HB; have BK181 := n0_; have BK182 := n1_; have HB := n2_; have BK183 := n3_; have GW183 := n4_; have GE183 := n5_; have NB181_183 := n6_; have NB183_181 := n7_; have NB182_183 := n8_; have NB183_182 := n9_; clear n0_ n1_ n2_ n3_ n4_ n5_ n6_ n7_ n8_ n9_; clear hb hbox hg; have hnb7 := NB183_181.out; have hnc7 := NB181_183.out; have hnb8 := NB183_182.out; have hnc8 := NB182_183.out; have hcz9_0 : w6.cell? ⟨gb183, 0, none⟩ = some (.slice none 0 0) := (aD BK183.out 0).trans rfl; have hcz9_1 : w6.cell? ⟨gb183, 1, none⟩ = some (.slice none 0 0) := (aD BK183.out 1).trans rfl; have hcz9_2 : w6.cell? ⟨gb183, 2, none⟩ = some (.int .i64 0) := (aD BK183.out 2).trans rfl; have hcz9_3 : w6.cell? ⟨gb183, 3, none⟩ = some (.bool false) := (aD BK183.out 3).trans rfl; have hfz9_0 := aA BK183.out 0; have hfz9_1 := aA BK183.out 1; have hfz9_2 := aA BK183.out 2; have hfz9_3 := aA BK183.out 3))
 go_loopg [4] k (fun kq v4 w' => ∃ (x4_1 : Int) (x184000_1 : List (List Int)) (u184000 : Value), v4 = .int .i64 x4_1 ∧ aC (spec_l2Copy.l0 kq x4_1 l0_0 l0_1 a0_2 a0_3 x184000_1 a0_2 a0_3 = some (r1, r2, r3, r4)) ∧ aC (kq ≤ k) ∧ aC (Kd.S (Kd.slice 5 (Kd.int .u8)) 37 w' w.heap.size (fun _ => True) u184000 x184000_1) ∧ aC (w'.heap[gb181]? = some (.cells #[(.slice A0_0 l0_0.length c0_0), (.slice A0_1 l0_1.length c0_1), .int .i64 a0_2, .bool a0_3] 25 (0, 0))) ∧ aC (w'.heap[gb182]? = some (.cells #[(.slice none 0 0), (.slice none 0 0), .int .i64 0, .bool false] 25 (0, 0))) ∧ aC (w'.heap[gb183]? = some (.cells #[u184000, (.slice none 0 0), .int .i64 a0_2, .bool a0_3] 25 (0, 0))) ∧ aC (Below w.heap.size w w'))
 case atStart => exact ⟨(0), (([] : List (List Int))), (.slice none 0 0), (by first | rfl | (simp; done) | (simp [*]; done)), H', ⟨Nat.le_refl _⟩, ⟨by first | exact Kd.S_nil _ _ _ _ _ | exact Kd.N_nil _ _ _ _ _ | exact Kd.V_nil _ _ _ _ _ | exact Kd.Q_nil _ _ _ _ _ | exact Kd.R_nil _ _ _ _ _⟩, ⟨by (with_reducible repeat (first | refine aN ?_ _ | refine aQ ?_ | refine aM ?_ _)); refine blk_far ?_ NB181_183.out _; (with_reducible repeat (first | refine aN ?_ _ | refine aQ ?_ | refine aM ?_ _)); refine blk_far ?_ NB181_183.out _; (with_reducible repeat (first | refine aN ?_ _ | refine aQ ?_ | refine aM ?_ _)); refine blk_far ?_ NB181_183.out _; (with_reducible repeat (first | refine aN ?_ _ | refine aQ ?_ | refine aM ?_ _)); refine blk_far ?_ NB181_183.out _; (with_reducible repeat (first | refine aN ?_ _ | refine aQ ?_ | refine aM ?_ _)); exact BK181.out⟩, ⟨by (with_reducible repeat (first | refine aN ?_ _ | refine aQ ?_ | refine aM ?_ _)); refine blk_far ?_ NB182_183.out _; (with_reducible repeat (first | refine aN ?_ _ | refine aQ ?_ | refine aM ?_ _)); refine blk_far ?_ NB182_183.out _; (with_reducible repeat (first | refine aN ?_ _ | refine aQ ?_ | refine aM ?_ _)); refine blk_far ?_ NB182_183.out _; (with_reducible repeat (first | refine aN ?_ _ | refine aQ ?_ | refine aM ?_ _)); refine blk_far ?_ NB182_183.out _; (with_reducible repeat (first | refine aN ?_ _ | refine aQ ?_ | refine aM ?_ _)); exact BK182.out⟩, ⟨by (with_reducible repeat (first | refine aN ?_ _ | refine aQ ?_ | refine aM ?_ _)); refine aZ (cs := #[.slice none 0 0, .slice none 0 0, .int .i64 a0_2, .bool false]) ?_ 3 _ rfl; (with_reducible repeat (first | refine aN ?_ _ | refine aQ ?_ | refine aM ?_ _)); refine aZ (cs := #[.slice none 0 0, .slice none 0 0, .int .i64 0, .bool false]) ?_ 2 _ rfl; (with_reducible repeat (first | refine aN ?_ _ | refine aQ ?_ | refine aM ?_ _)); refine aZ (cs := #[.slice none 0 0, .slice none 0 0, .int .i64 0, .bool false]) ?_ 1 _ rfl; (with_reducible repeat (first | refine aN ?_ _ | refine aQ ?_ | refine aM ?_ _)); refine aZ (cs := #[.slice none 0 0, .slice none 0 0, .int .i64 0, .bool false]) ?_ 0 _ rfl; (with_reducible repeat (first | refine aN ?_ _ | refine aQ ?_ | refine aM ?_ _)); exact BK183.out⟩, ⟨by repeat (first | (with_reducible first | exact HB.out | apply aJ | apply aE | apply aH | refine aG ?_ GE181.out | refine aG ?_ GE182.out | refine aG ?_ GE183.out) | exact HB.out)⟩⟩
 case round =>
  clear H'
  try clear p2
  try clear c4
  try clear c5
  try clear c7
  try clear c8
  try clear hcz5_0
  try clear hcz5_1
  try clear hcz5_2
  try clear hcz5_3
  try clear hcz9_0
  try clear hcz9_1
  try clear hcz9_2
  try clear hcz9_3
  try clear hfz5_0
  try clear hfz5_1
  try clear hfz5_2
  try clear hfz5_3
  try clear hfz9_0
  try clear hfz9_1
  try clear hfz9_2
  try clear hfz9_3
  obtain ⟨x4_1, x184000_1, u184000, rfl, HA, HK1, HO_184000, BK181, BK182, BK183, HB⟩ := hrel
  cases gk with
  | zero => exact absurd HA.out (by simp [spec_l2Copy.l0])
  | succ k1 =>
   have H := HA.out
   clear HA
   simp only [spec_l2Copy.l0] at H
   by_cases c10 : x4_1 < (l0_0.length : Int)
   ·rw [if_pos c10] at H
    have c10b0 : decide (x4_1 < (l0_0.length : Int)) = true := decide_eq_true c10
    clear c10
    obtain ⟨y184, hy184⟩ : ∃ y_ : List Int, y_ = (([] : List Int)) := ⟨_, rfl⟩
    replace H : (if 0 ≤ x4_1 then (if y184.length + (rd_L1 l0_0 x4_1).length < 140737488355328 then (if x184000_1.length < 5864062014805 then (spec_l2Copy.l0 k1 (wrap64 (x4_1 + 1)) l0_0 l0_1 a0_2 a0_3 (x184000_1 ++ [(y184 ++ (rd_L1 l0_0 x4_1))]) a0_2 a0_3) else (none)) else (none)) else (none)) = some (r1, r2, r3, r4) := by first | (rw [hy184]; with_reducible exact H) | (have H2_ := (Option.bind_some _ _).symm.trans H; rw [hy184]; with_reducible exact H2_) | (have H2_ := (Option.bind_some _ _).symm.trans H; with_reducible exact H2_) | with_reducible exact H | (rw [hy184]; exact H) | exact H
    have Ny184 := aC.mk hy184
    clear hy184
    by_cases c11 : 0 ≤ x4_1
    ·rw [if_pos c11] at H
     have c11b0 : decide (0 ≤ x4_1) = true := decide_eq_true c11
     clear c11
     by_cases c12 : y184.length + (rd_L1 l0_0 x4_1).length < 140737488355328
     ·rw [if_pos c12] at H
      have LMc12 := aC.mk c12
      clear c12
      obtain ⟨y188, hy188⟩ : ∃ y_ : List Int, y_ = (y184 ++ (rd_L1 l0_0 x4_1)) := ⟨_, rfl⟩
      replace H : (if x184000_1.length < 5864062014805 then (spec_l2Copy.l0 k1 (wrap64 (x4_1 + 1)) l0_0 l0_1 a0_2 a0_3 (x184000_1 ++ [y188]) a0_2 a0_3) else (none)) = some (r1, r2, r3, r4) := by first | (rw [hy188]; with_reducible exact H) | (have H2_ := (Option.bind_some _ _).symm.trans H; rw [hy188]; with_reducible exact H2_) | (have H2_ := (Option.bind_some _ _).symm.trans H; with_reducible exact H2_) | with_reducible exact H | (rw [hy188]; exact H) | exact H
      have Ny188 := aC.mk hy188
      clear hy188
      by_cases c13 : x184000_1.length < 5864062014805
      ·rw [if_pos c13] at H
       have LMc13 := aC.mk c13
       clear c13
       obtain ⟨y191, hy191⟩ : ∃ y_ : List (List Int), y_ = (x184000_1 ++ [y188]) := ⟨_, rfl⟩
       replace H : (spec_l2Copy.l0 k1 (wrap64 (x4_1 + 1)) l0_0 l0_1 a0_2 a0_3 y191 a0_2 a0_3) = some (r1, r2, r3, r4) := by first | (rw [hy191]; with_reducible exact H) | (have H2_ := (Option.bind_some _ _).symm.trans H; rw [hy191]; with_reducible exact H2_) | (have H2_ := (Option.bind_some _ _).symm.trans H; with_reducible exact H2_) | with_reducible exact H | (rw [hy191]; exact H) | exact H
       have Ny191 := aC.mk hy191
       clear hy191
       have H' := aC.mk H
       clear H
       have hnb14 := NB181_182.out
       have hnc14 := NB182_181.out
       have hnb15 := NB181_183.out
       have hnc15 := NB183_181.out
       have hcz16_0 : wr.cell? ⟨gb181, 0, none⟩ = some (.slice A0_0 l0_0.length c0_0) := (aD BK181.out 0).trans rfl
       have hcz16_1 : wr.cell? ⟨gb181, 1, none⟩ = some (.slice A0_1 l0_1.length c0_1) := (aD BK181.out 1).trans rfl
       have hcz16_2 : wr.cell? ⟨gb181, 2, none⟩ = some (.int .i64 a0_2) := (aD BK181.out 2).trans rfl
       have hcz16_3 : wr.cell? ⟨gb181, 3, none⟩ = some (.bool a0_3) := (aD BK181.out 3).trans rfl
       have hfz16_0 := aA BK181.out 0
       have hfz16_1 := aA BK181.out 1
       have hfz16_2 := aA BK181.out 2
       have hfz16_3 := aA BK181.out 3
       try go_wp2
       have n0_ := aC.mk (Kd.S_drew HO_184000.out)
       have n1_ := aC.mk (aQ BK181.out)
       have n2_ := aC.mk (aQ BK182.out)
       have n3_ := aC.mk (aQ BK183.out)
       have n4_ := aC.mk (aH HB.out)
       clear HO_184000
       clear BK181
       clear BK182
       clear BK183
       clear HB
       have HO_184000 := n0_
       have BK181 := n1_
       have BK182 := n2_
       have BK183 := n3_
       have HB := n4_
       clear n0_ n1_ n2_ n3_ n4_
       have p187 : 0 ≤ (x4_1 : Int) := lE (by first | (with_reducible assumption) | assumption)
       have q187 : x4_1 < (l0_0.length : Int) := lE (by first | (with_reducible assumption) | assumption)
       obtain ⟨ad187, A187_0, c187_0, e187, hx187_0, hl187_0, hi187_0⟩ := at_L1 HR0_0.out x4_1 p187 q187
       have hw187_0 := hx187_0
       cases e187
       replace hx187_0 := (HB.out.cell (lD w _ hx187_0)).trans hx187_0
       have HR187_0 := aC.mk hi187_0
       have HC187_0 := aC.mk hl187_0
       clear hi187_0 hl187_0
       replace p187 := eq_true p187
       replace q187 := eq_true q187
       refine start_ (n := 13) (S := fun w' => w'.cell? ⟨gb183, 0, none⟩ = some (u184000) ∧ w'.cell? ⟨gb183, 1, none⟩ = some (.slice none 0 0) ∧ w'.cell? ⟨gb183, 2, none⟩ = some (.int .i64 a0_2) ∧ w'.cell? ⟨gb183, 3, none⟩ = some (.bool a0_3) ∧ w'.cell? ⟨gb181, 0, none⟩ = some (.slice (some ad187) l0_0.length c0_0) ∧ w'.cell? ⟨gb181, 1, none⟩ = some (.slice A0_1 l0_1.length c0_1) ∧ w'.cell? ⟨gb181, 2, none⟩ = some (.int .i64 a0_2) ∧ w'.cell? ⟨gb181, 3, none⟩ = some (.bool a0_3) ∧ w'.cell? (ad187.add (x4_1).toNat) = some (.slice A187_0 (rd_L1 l0_0 x4_1).length c187_0)) (ds := [12]) #[false, false, false, false, false, false, false, false, false, false, false, false, false] (by kernel_rfl) rfl rfl ⟨(aD BK183.out 0).trans rfl, (aD BK183.out 1).trans rfl, (aD BK183.out 2).trans rfl, (aD BK183.out 3).trans rfl, (aD BK181.out 0).trans rfl, (aD BK181.out 1).trans rfl, (aD BK181.out 2).trans rfl, (aD BK181.out 3).trans rfl, ((HB.out.cell (lD w _ hw187_0)).trans hw187_0)⟩ (fun hHeld => ?_); refine with_tabW spec_l2Copy.tab5 spec_l2Copy.bits5 (fun HT_ HW_ => ?_)
       generalize wr.drew = w17 at HO_184000 BK181 BK182 BK183 HB HR187_0 hx187_0 hHeld ⊢
       refine pure_ (i := 0) (N := some 18) (v := ?_) (a' := ?_) #[true, false, false, false, false, false, false, false, false, false, false, false, false] rfl rfl (any_of HT_.out (by kernel_rfl)) (fun _ _ _ h => h) (Or.inl ⟨by rfl, ?_⟩) ?_ ?_
       rotate_left
       ·intro w'
        go_simp
        with_reducible rfl
       rotate_left
       ·simp only [Act.put, lA, lB, lC, bF, bE]
        rfl
       refine pure_ (i := 3) (N := some 21) (v := ?_) (a' := ?_) #[true, false, false, true, false, false, false, false, false, false, false, false, false] rfl rfl (any_of HT_.out (by kernel_rfl)) (fun _ _ _ h => h) (Or.inl ⟨by rfl, ?_⟩) ?_ ?_
       rotate_left
       ·intro w'
        go_simp
        with_reducible rfl
       rotate_left
       ·simp only [Act.put, lA, lB, lC, bF, bE]
        rfl
       refine pure_ (i := 5) (N := some 23) (v := ?_) (a' := ?_) #[true, false, false, true, false, true, false, false, false, false, false, false, false] rfl rfl (any_of HT_.out (by kernel_rfl)) (fun _ _ _ h => h) (Or.inl ⟨by rfl, ?_⟩) ?_ ?_
       rotate_left
       ·intro w'
        go_simp
        with_reducible rfl
       rotate_left
       ·simp only [Act.put, lA, lB, lC, bF, bE]
        rfl
       refine take_ (i := 1) (N := some 19) (v := ?_) (a' := ?_) #[true, true, false, true, false, true, false, false, false, false, false, false, false] rfl rfl (take_ofW HT_.out HW_.out (by kernel_rfl)) (fun _ _ _ h => h) (Or.inl ⟨by rfl, ?_⟩) hHeld ?_ ?_
       rotate_left
       ·rintro w' ⟨s0, s1, s2, s3, s4, s5, s6, s7, s8⟩
        go_simp
        with_reducible rfl
       rotate_left
       ·simp only [Act.put, lA, lB, lC, bF, bE]
        rfl
       refine take_ (i := 4) (N := some 22) (v := ?_) (a' := ?_) #[true, true, false, true, true, true, false, false, false, false, false, false, false] rfl rfl (take_ofW HT_.out HW_.out (by kernel_rfl)) (fun _ _ _ h => h) (Or.inl ⟨by rfl, ?_⟩) hHeld ?_ ?_
       rotate_left
       ·rintro w' ⟨s0, s1, s2, s3, s4, s5, s6, s7, s8⟩
        go_simp
        with_reducible rfl
       rotate_left
       ·simp only [Act.put, lA, lB, lC, bF, bE]
        rfl
       refine pure_ (i := 6) (N := some 24) (v := ?_) (a' := ?_) #[true, true, false, true, true, true, true, false, false, false, false, false, false] rfl rfl (any_of HT_.out (by kernel_rfl)) (fun _ _ _ h => h) (Or.inl ⟨by rfl, ?_⟩) ?_ ?_
       rotate_left
       ·intro w'
        go_simp
        with_reducible rfl
       rotate_left
       ·simp only [Act.put, lA, lB, lC, bF, bE]
        rfl
       refine take_ (i := 7) (N := some 25) (v := ?_) (a' := ?_) #[true, true, false, true, true, true, true, true, false, false, false, false, false] rfl rfl (take_ofW HT_.out HW_.out (by kernel_rfl)) (fun _ _ _ h => h) (Or.inl ⟨by rfl, ?_⟩) hHeld ?_ ?_
       rotate_left
       ·rintro w' ⟨s0, s1, s2, s3, s4, s5, s6, s7, s8⟩
        go_simp
        with_reducible rfl
       rotate_left
       ·simp only [Act.put, lA, lB, lC, bF, bE]
        rfl
       refine one_ (i := 2) (N := some 20) #[true, true, true, true, true, true, true, true, false, false, false, false, false] rfl rfl (one_of HT_.out (by kernel_rfl)) (by decide) (fun K hK => ?_)
       refine Kd.R_lit_step (Kd.int .u8) _ 5 ?hg (N := 20) ?hd (xs := ([] : List Int)) (inner := []) (ok := fun _ => True) (okp := fun _ => True) ?hr ?hp (fun _ hk => hk) trivial (Below.refl _ _) (Nat.le_refl _) (by simp) ?_; (case hd => rfl); (case hg => rfl); (case hr => first | (go_simp; done) | (go_simp; rfl)); (case hp => exact (Reps.none _ _))
       intro v185 w18 ho19 hb hg_ hnew_
       clear hg_ hnew_
       (first | rw [← Ny184.out] at ho19 | (simp only [Int.reduceToNat] at ho19; rw [← Ny184.out] at ho19))
       have n0_ := aC.mk (Kd.S_elder' (by (with_reducible repeat (first | apply Kd.S_alloc | apply Kd.S_drewN | apply Kd.S_drew)); exact HO_184000.out) (Kd.R_base ho19) hb)
       have n1_ := aC.mk (Kd.R_lower ho19 (aW (by repeat (first | (with_reducible first | exact HB.out | apply aJ | apply aE | apply aH | refine aG ?_ GE181.out | refine aG ?_ GE182.out | refine aG ?_ GE183.out) | exact HB.out))))
       have n2_ := aC.mk (aT (g := gb181) (o := .cells #[.slice (some ad187) l0_0.length c0_0, .slice A0_1 l0_1.length c0_1, .int .i64 a0_2, .bool a0_3] 25 (0, 0)) (by (with_reducible repeat (first | refine aN ?_ _ | refine aQ ?_ | refine aM ?_ _)); exact BK181.out) hb)
       have n3_ := aC.mk (aT (g := gb182) (o := .cells #[.slice none 0 0, .slice none 0 0, .int .i64 0, .bool false] 25 (0, 0)) (by (with_reducible repeat (first | refine aN ?_ _ | refine aQ ?_ | refine aM ?_ _)); exact BK182.out) hb)
       have n4_ := aC.mk (aT (g := gb183) (o := .cells #[u184000, .slice none 0 0, .int .i64 a0_2, .bool a0_3] 25 (0, 0)) (by (with_reducible repeat (first | refine aN ?_ _ | refine aQ ?_ | refine aM ?_ _)); exact BK183.out) hb)
       have n5_ := aC.mk (aU (by repeat (first | (with_reducible first | exact HB.out | apply aJ | apply aE | apply aH | refine aG ?_ GE181.out | refine aG ?_ GE182.out | refine aG ?_ GE183.out) | exact HB.out)) hb)
       clear HO_184000
       clear BK181
       clear BK182
       clear BK183
       clear HB
       have HO_184000 := n0_
       have HO186 := n1_
       have BK181 := n2_
       have BK182 := n3_
       have BK183 := n4_
       have HB := n5_
       clear n0_ n1_ n2_ n3_ n4_ n5_
       clear hb ho19
       refine hK.out _ _ ⟨(aD BK183.out 0).trans rfl, (aD BK183.out 1).trans rfl, (aD BK183.out 2).trans rfl, (aD BK183.out 3).trans rfl, (aD BK181.out 0).trans rfl, (aD BK181.out 1).trans rfl, (aD BK181.out 2).trans rfl, (aD BK181.out 3).trans rfl, ((HB.out.cell (lD w _ hw187_0)).trans hw187_0)⟩ (fun hHeld => ?_)
       clear hK K
       refine norm_ (a' := ?_) ?_ ?_
       rotate_left
       ·show Act.put _ (some 20) _ = _
        simp only [Act.put, lA, lB, lC, bF, bE]
        rfl
       refine one_ (i := 8) (N := some 26) #[true, true, true, true, true, true, true, true, true, false, false, false, false] rfl rfl (one_of HT_.out (by kernel_rfl)) (by decide) (fun K hK => ?_)
       refine Kd.R_append_rows_step (Kd.int .u8) (w0 := w) w.heap.size (by rfl) (.tmp 20) (.tmp 25) 37 5 (.int .u8 0) 1 rfl Try.underlying37 info5 rfl (by decide) (by omega) v185 y184 (rd_L1 l0_0 x4_1) _ _ _ (fun _ => True) (fun _ => False) rfl rfl ?aO ?aR (fun _ _ h => h) (fun _ h => h.elim) ?aF ?aB ?aS ?aL ?_
       (case aR => repeat (first | exact (Kd.bG HR187_0.out HB.out) | (with_reducible refine Kd.bL ?_ _) | (with_reducible refine Kd.bK ?_ _) | (with_reducible refine Kd.bN ?_)))
       (case aB => exact (by repeat (first | (with_reducible first | exact HB.out | apply aJ | apply aE | apply aH | refine aG ?_ GE181.out | refine aG ?_ GE182.out | refine aG ?_ GE183.out) | exact HB.out)))
       (case aF => exact (fun _ _ => trivial))
       (case aO => exact (by (with_reducible repeat (first | apply Kd.R_alloc | apply Kd.R_drewN | apply Kd.R_drew)); exact HO186.out))
       (case aS => exact (aW (by repeat (first | (with_reducible first | exact HB.out | apply aJ | apply aE | apply aH | refine aG ?_ GE181.out | refine aG ?_ GE182.out | refine aG ?_ GE183.out) | exact HB.out))))
       (case aL => have := LMc12.out; omega)
       intro v189 w20 ho hb hg hat
       rw [← Ny188.out] at ho
       have n0_ := aC.mk (Kd.S_after (ok := (fun _ => True)) (by (with_reducible repeat (first | apply Kd.S_alloc | apply Kd.S_drewN | apply Kd.S_drew)); exact HO_184000.out) hg hat)
       have n1_ := aC.mk (blk_grown (g := gb181) (o := .cells #[.slice (some ad187) l0_0.length c0_0, .slice A0_1 l0_1.length c0_1, .int .i64 a0_2, .bool a0_3] 25 (0, 0)) (by (with_reducible repeat (first | refine aN ?_ _ | refine aQ ?_ | refine aM ?_ _)); exact BK181.out) hg (Kd.R_ne HO186.out BK181.out (by decide)))
       have n2_ := aC.mk (blk_grown (g := gb182) (o := .cells #[.slice none 0 0, .slice none 0 0, .int .i64 0, .bool false] 25 (0, 0)) (by (with_reducible repeat (first | refine aN ?_ _ | refine aQ ?_ | refine aM ?_ _)); exact BK182.out) hg (Kd.R_ne HO186.out BK182.out (by decide)))
       have n3_ := aC.mk (blk_grown (g := gb183) (o := .cells #[u184000, .slice none 0 0, .int .i64 a0_2, .bool a0_3] 25 (0, 0)) (by (with_reducible repeat (first | refine aN ?_ _ | refine aQ ?_ | refine aM ?_ _)); exact BK183.out) hg (Kd.R_ne HO186.out BK183.out (by decide)))
       have n4_ := aC.mk (hb)
       have n5_ := aC.mk (ho)
       clear HO_184000
       clear BK181
       clear BK182
       clear BK183
       clear HB
       clear HO186
       have HO_184000 := n0_
       have BK181 := n1_
       have BK182 := n2_
       have BK183 := n3_
       have HB := n4_
       have HO190 := n5_
       clear n0_ n1_ n2_ n3_ n4_ n5_
       clear ho hb hg hat
       obtain ⟨Ao22, co22, eo22⟩ := Kd.R_slice HO190.out
       (first | subst eo22 | (injection eo22 with f1_ f2_ f3_; have f4_ := f1_.symm; have f5_ := f3_.symm; clear f1_ f2_ f3_; subst f4_; subst f5_))
       refine hK.out _ _ ⟨(aD BK183.out 0).trans rfl, (aD BK183.out 1).trans rfl, (aD BK183.out 2).trans rfl, (aD BK183.out 3).trans rfl, (aD BK181.out 0).trans rfl, (aD BK181.out 1).trans rfl, (aD BK181.out 2).trans rfl, (aD BK181.out 3).trans rfl, ((HB.out.cell (lD w _ hw187_0)).trans hw187_0)⟩ (fun hHeld => ?_)
       clear hK K
       refine norm_ (a' := ?_) ?_ ?_
       rotate_left
       ·show Act.put _ (some 26) _ = _
        simp only [Act.put, lA, lB, lC, bF, bE]
        rfl
       refine one_ (i := 9) (N := some 27) #[true, true, true, true, true, true, true, true, true, true, false, false, false] rfl rfl (one_of HT_.out (by kernel_rfl)) (by decide) (fun K hK => ?_)
       refine value_ (w1 := ?_) (v := ?_) (by rfl) rfl ?_ ?_
       rotate_left 2
       ·go_simp
        constructor
        ·rfl
        ·rfl
       refine hK.out _ _ ⟨(aD (aM BK183.out _) 0).trans rfl, (aD (aM BK183.out _) 1).trans rfl, (aD (aM BK183.out _) 2).trans rfl, (aD (aM BK183.out _) 3).trans rfl, (aD (aM BK181.out _) 0).trans rfl, (aD (aM BK181.out _) 1).trans rfl, (aD (aM BK181.out _) 2).trans rfl, (aD (aM BK181.out _) 3).trans rfl, (World.cell?_alloc_lt _ _ _ (lD _ _ (((HB.out.cell (lD w _ hw187_0)).trans hw187_0)))).trans (((HB.out.cell (lD w _ hw187_0)).trans hw187_0))⟩ (fun hHeld => ?_)
       clear hK K
       refine norm_ (a' := ?_) ?_ ?_
       rotate_left
       ·show Act.put _ (some 27) _ = _
        simp only [Act.put, lA, lB, lC, bF, bE]
        rfl
       refine one_ (i := 10) (N := some 28) #[true, true, true, true, true, true, true, true, true, true, true, false, false] rfl rfl (one_of HT_.out (by kernel_rfl)) (by decide) (fun K hK => ?_)
       refine Kd.S_append_step (Kd.slice 5 (Kd.int .u8)) (w0 := w) w.heap.size (by rfl) (.tmp 19) (.tmp 27) 22 37 (.slice none 0 0) 24 rfl Try.underlying22 info37 rfl (by decide) (by omega) u184000 x184000_1 y188 [.slice Ao22 y188.length co22] (fun _ => True) (fun k_ => some k_ = (.slice Ao22 y188.length co22 : Value).ownBlock) rfl rfl ?aP (fun k_ hk_ => ((Kd.R_mono (ok' := fun k_ => ((fun _ => True)) k_ ∧ some k_ ≠ (u184000 : Value).ownBlock) (Kd.R_apart' (HO190.out) (Kd.S_typed HO_184000.out) (by decide)) (fun k_ hk => ⟨trivial, hk.2⟩))).1 k_ hk_.symm) ?aF ?aO ?aB ?aS ?aL ?_
       (case aP => exact Kd.M_row (Kd.R_mono (Kd.R_tight rfl (Kd.R_mono (ok' := fun k_ => ((fun _ => True)) k_ ∧ some k_ ≠ (u184000 : Value).ownBlock) (Kd.R_apart' (HO190.out) (Kd.S_typed HO_184000.out) (by decide)) (fun k_ hk => ⟨trivial, hk.2⟩))) (fun _ h_ => h_)))
       (case aB => exact (by repeat (first | (with_reducible first | exact HB.out | apply aJ | apply aE | apply aH | refine aG ?_ GE181.out | refine aG ?_ GE182.out | refine aG ?_ GE183.out) | exact HB.out)))
       (case aF => exact (fun _ _ => trivial))
       (case aO => exact (by (with_reducible repeat (first | apply Kd.S_alloc | apply Kd.S_drewN | apply Kd.S_drew)); exact Kd.S_mono HO_184000.out (fun k_ hk => ⟨trivial, fun e_ => hk.2 e_⟩)))
       (case aS => exact (aW (by repeat (first | (with_reducible first | exact HB.out | apply aJ | apply aE | apply aH | refine aG ?_ GE181.out | refine aG ?_ GE182.out | refine aG ?_ GE183.out) | exact HB.out))))
       (case aL => have := LMc13.out; omega)
       intro v192 w21 ho hb hg hat
       rw [← Ny191.out] at ho
       have n0_ := aC.mk (blk_grown (g := gb181) (o := .cells #[.slice (some ad187) l0_0.length c0_0, .slice A0_1 l0_1.length c0_1, .int .i64 a0_2, .bool a0_3] 25 (0, 0)) (by (with_reducible repeat (first | refine aN ?_ _ | refine aQ ?_ | refine aM ?_ _)); exact BK181.out) hg (Kd.S_ne HO_184000.out BK181.out (by decide)))
       have n1_ := aC.mk (blk_grown (g := gb182) (o := .cells #[.slice none 0 0, .slice none 0 0, .int .i64 0, .bool false] 25 (0, 0)) (by (with_reducible repeat (first | refine aN ?_ _ | refine aQ ?_ | refine aM ?_ _)); exact BK182.out) hg (Kd.S_ne HO_184000.out BK182.out (by decide)))
       have n2_ := aC.mk (blk_grown (g := gb183) (o := .cells #[u184000, .slice none 0 0, .int .i64 a0_2, .bool a0_3] 25 (0, 0)) (by (with_reducible repeat (first | refine aN ?_ _ | refine aQ ?_ | refine aM ?_ _)); exact BK183.out) hg (Kd.S_ne HO_184000.out BK183.out (by decide)))
       have n3_ := aC.mk (hb)
       have n4_ := aC.mk (ho)
       clear BK181
       clear BK182
       clear BK183
       clear HB
       clear HO_184000
       clear HO190
       have BK181 := n0_
       have BK182 := n1_
       have BK183 := n2_
       have HB := n3_
       have HO193 := n4_
       clear n0_ n1_ n2_ n3_ n4_
       clear ho hb hg hat
       obtain ⟨Ao23, co23, eo23⟩ := Kd.S_slice HO193.out
       (first | subst eo23 | (injection eo23 with f1_ f2_ f3_; have f4_ := f1_.symm; have f5_ := f3_.symm; clear f1_ f2_ f3_; subst f4_; subst f5_))
       refine hK.out _ _ ⟨(aD BK183.out 0).trans rfl, (aD BK183.out 1).trans rfl, (aD BK183.out 2).trans rfl, (aD BK183.out 3).trans rfl, (aD BK181.out 0).trans rfl, (aD BK181.out 1).trans rfl, (aD BK181.out 2).trans rfl, (aD BK181.out 3).trans rfl, ((HB.out.cell (lD w _ hw187_0)).trans hw187_0)⟩ (fun hHeld => ?_)
       clear hK K
       refine norm_ (a' := ?_) ?_ ?_
       rotate_left
       ·show Act.put _ (some 28) _ = _
        simp only [Act.put, lA, lB, lC, bF, bE]
        rfl
       refine pure_ (i := 11) (N := some 29) (v := ?_) (a' := ?_) #[true, true, true, true, true, true, true, true, true, true, true, true, false] rfl rfl (any_of HT_.out (by kernel_rfl)) (fun _ _ _ h => h) (Or.inl ⟨by rfl, ?_⟩) ?_ ?_
       rotate_left
       ·intro w'
        go_simp
        with_reducible rfl
       rotate_left
       ·simp only [Act.put, lA, lB, lC, bF, bE]
        rfl
       refine last_ (i := 12) (N := none) #[true, true, true, true, true, true, true, true, true, true, true, true, true] rfl rfl (one_of HT_.out (by kernel_rfl)) (by decide) (fun K hK => ?_)
       have hs24 : w21.cell? ⟨gb183, 0, none⟩ = some (u184000) := (aD BK183.out 0).trans rfl
       have hfs24 := aA BK183.out 0
       have hns24_0 := NB181_183.out
       have hns24_1 := NB182_183.out
       have hms24_0 := NB183_181.out
       have hms24_1 := NB183_182.out
       refine skip_ (w1 := ?_) (by rfl) rfl ?_ ?_
       rotate_left
       ·go_simp
        rfl
       refine hK.out _ _ ?_
       clear hK K
       refine done_ (done_of HT_.out (by kernel_rfl)) ?_
       try go_wp2
       go_roundg k1
       case measure => have := HK1.out; omega
       case rel => exact ⟨(wrap64 (x4_1 + 1)), (y191), (.slice Ao23 y191.length co23), (by first | rfl | (simp; done) | (simp [*]; done)), H', ⟨by have := HK1.out; omega⟩, ⟨by (with_reducible repeat (first | apply Kd.S_alloc | apply Kd.S_drewN | apply Kd.S_drew)); exact Kd.S_mono (Kd.S_far (p := ⟨gb183, 0, none⟩) (Kd.S_types HO193.out BK183.out (by decide)) (fun _ hk => hk.2) (.slice Ao23 y191.length co23)) (fun _ hk => trivial)⟩, ⟨by (with_reducible repeat (first | refine aN ?_ _ | refine aQ ?_ | refine aM ?_ _)); refine blk_far ?_ NB181_183.out _; (with_reducible repeat (first | refine aN ?_ _ | refine aQ ?_ | refine aM ?_ _)); exact BK181.out⟩, ⟨by (with_reducible repeat (first | refine aN ?_ _ | refine aQ ?_ | refine aM ?_ _)); refine blk_far ?_ NB182_183.out _; (with_reducible repeat (first | refine aN ?_ _ | refine aQ ?_ | refine aM ?_ _)); exact BK182.out⟩, ⟨by (with_reducible repeat (first | refine aN ?_ _ | refine aQ ?_ | refine aM ?_ _)); refine aZ (cs := #[u184000, .slice none 0 0, .int .i64 a0_2, .bool a0_3]) ?_ 0 _ rfl; (with_reducible repeat (first | refine aN ?_ _ | refine aQ ?_ | refine aM ?_ _)); exact BK183.out⟩, ⟨by repeat (first | (with_reducible first | exact HB.out | apply aJ | apply aE | apply aH | refine aG ?_ GE181.out | refine aG ?_ GE182.out | refine aG ?_ GE183.out) | exact HB.out)⟩⟩
      ·rw [if_neg c13] at H
       exact absurd H (by simp)
     ·rw [if_neg c12] at H
      exact absurd H (by simp)
    ·rw [if_neg c11] at H
     exact absurd H (by simp)
   ·rw [if_neg c10] at H
    have c10b0 : decide (x4_1 < (l0_0.length : Int)) = false := decide_eq_false c10
    clear c10
    have H' := aC.mk H
    clear H
    have hnb25 := NB181_182.out
    have hnc25 := NB182_181.out
    have hnb26 := NB181_183.out
    have hnc26 := NB183_181.out
    have hcz27_0 : wr.cell? ⟨gb181, 0, none⟩ = some (.slice A0_0 l0_0.length c0_0) := (aD BK181.out 0).trans rfl
    have hcz27_1 : wr.cell? ⟨gb181, 1, none⟩ = some (.slice A0_1 l0_1.length c0_1) := (aD BK181.out 1).trans rfl
    have hcz27_2 : wr.cell? ⟨gb181, 2, none⟩ = some (.int .i64 a0_2) := (aD BK181.out 2).trans rfl
    have hcz27_3 : wr.cell? ⟨gb181, 3, none⟩ = some (.bool a0_3) := (aD BK181.out 3).trans rfl
    have hfz27_0 := aA BK181.out 0
    have hfz27_1 := aA BK181.out 1
    have hfz27_2 := aA BK181.out 2
    have hfz27_3 := aA BK181.out 3
    go_wp2
    go_loopg [5] k1 (fun kq v5 w' => ∃ (x5_2 : Int) (x184001_2 : List (S50)) (u184001 : Value), v5 = .int .i64 x5_2 ∧ aC (spec_l2Copy.l1 kq x5_2 l0_0 l0_1 a0_2 a0_3 x184000_1 x184001_2 a0_2 a0_3 = some (r1, r2, r3, r4)) ∧ aC (kq ≤ k1) ∧ aC (Kd.S (Kd.slice 5 (Kd.int .u8)) 37 w' w.heap.size (fun _ => True) u184000 x184000_1) ∧ aC (Kd.S k50 50 w' w.heap.size (fun _ => True) u184001 x184001_2) ∧ aC (w'.heap[gb181]? = some (.cells #[(.slice A0_0 l0_0.length c0_0), (.slice A0_1 l0_1.length c0_1), .int .i64 a0_2, .bool a0_3] 25 (0, 0))) ∧ aC (w'.heap[gb182]? = some (.cells #[(.slice none 0 0), (.slice none 0 0), .int .i64 0, .bool false] 25 (0, 0))) ∧ aC (w'.heap[gb183]? = some (.cells #[u184000, u184001, .int .i64 a0_2, .bool a0_3] 25 (0, 0))) ∧ aC (Below w.heap.size w w'))
    case atStart => exact ⟨(0), (([] : List (S50))), (.slice none 0 0), (by first | rfl | (simp; done) | (simp [*]; done)), H', ⟨Nat.le_refl _⟩, ⟨by (with_reducible repeat (first | apply Kd.S_alloc | apply Kd.S_drewN | apply Kd.S_drew)); exact HO_184000.out⟩, ⟨by first | exact Kd.S_nil _ _ _ _ _ | exact Kd.N_nil _ _ _ _ _ | exact Kd.V_nil _ _ _ _ _ | exact Kd.Q_nil _ _ _ _ _ | exact Kd.R_nil _ _ _ _ _⟩, ⟨by (with_reducible repeat (first | refine aN ?_ _ | refine aQ ?_ | refine aM ?_ _)); exact BK181.out⟩, ⟨by (with_reducible repeat (first | refine aN ?_ _ | refine aQ ?_ | refine aM ?_ _)); exact BK182.out⟩, ⟨by (with_reducible repeat (first | refine aN ?_ _ | refine aQ ?_ | refine aM ?_ _)); exact BK183.out⟩, ⟨by repeat (first | (with_reducible first | exact HB.out | apply aJ | apply aE | apply aH | refine aG ?_ GE181.out | refine aG ?_ GE182.out | refine aG ?_ GE183.out) | exact HB.out)⟩⟩
    case round =>
     clear H'
     try clear c1
     try clear p1
     try clear q1
     try clear hx1
     try clear c2
     try clear p2
     try clear c4
     try clear c5
     try clear p6
     try clear c7
     try clear c8
     try clear c10
     try clear c10b0
     try clear c11
     try clear c11b0
     try clear c12
     try clear c13
     try clear c14
     try clear c15
     try clear c18
     try clear p18
     try clear q18
     try clear hx18
     try clear c25
     try clear c26
     try clear hcz16_0
     try clear hcz16_1
     try clear hcz16_2
     try clear hcz16_3
     try clear hcz27_0
     try clear hcz27_1
     try clear hcz27_2
     try clear hcz27_3
     try clear hcz5_0
     try clear hcz5_1
     try clear hcz5_2
     try clear hcz5_3
     try clear hcz9_0
     try clear hcz9_1
     try clear hcz9_2
     try clear hcz9_3
     try clear hfz16_0
     try clear hfz16_1
     try clear hfz16_2
     try clear hfz16_3
     try clear hfz27_0
     try clear hfz27_1
     try clear hfz27_2
     try clear hfz27_3
     try clear hfz5_0
     try clear hfz5_1
     try clear hfz5_2
     try clear hfz5_3
     try clear hfz9_0
     try clear hfz9_1
     try clear hfz9_2
     try clear hfz9_3
     try clear hx187_0
     try clear p187
     try clear p2
     try clear q187
     obtain ⟨x5_2, x184001_2, u184001, rfl, HA, HK2, HO_184000, HO_184001, BK181, BK182, BK183, HB⟩ := hrel
     cases gk with
     | zero => exact absurd HA.out (by simp [spec_l2Copy.l1])
     | succ k2 =>
      have H := HA.out
      clear HA
      simp only [spec_l2Copy.l1] at H
      by_cases c28 : x5_2 < (l0_1.length : Int)
      ·rw [if_pos c28] at H
       have c28b0 : decide (x5_2 < (l0_1.length : Int)) = true := decide_eq_true c28
       clear c28
       by_cases c29 : 0 ≤ x5_2
       ·rw [if_pos c29] at H
        have c29b0 : decide (0 ≤ x5_2) = true := decide_eq_true c29
        clear c29
        obtain ⟨y195, hy195⟩ : ∃ y_ : List Int, y_ = (([] : List Int)) := ⟨_, rfl⟩
        replace H : (if y195.length + ((rd_T50 l0_1 x5_2).f1).length < 140737488355328 then (if x184001_2.length < 4398046511104 then (spec_l2Copy.l1 k2 (wrap64 (x5_2 + 1)) l0_0 l0_1 a0_2 a0_3 x184000_1 (x184001_2 ++ [(⟨(rd_T50 l0_1 x5_2).f0, (y195 ++ ((rd_T50 l0_1 x5_2).f1))⟩ : S50)]) a0_2 a0_3) else (none)) else (none)) = some (r1, r2, r3, r4) := by first | (rw [hy195]; with_reducible exact H) | (have H2_ := (Option.bind_some _ _).symm.trans H; rw [hy195]; with_reducible exact H2_) | (have H2_ := (Option.bind_some _ _).symm.trans H; with_reducible exact H2_) | with_reducible exact H | (rw [hy195]; exact H) | exact H
        have Ny195 := aC.mk hy195
        clear hy195
        by_cases c30 : y195.length + ((rd_T50 l0_1 x5_2).f1).length < 140737488355328
        ·rw [if_pos c30] at H
         have LMc30 := aC.mk c30
         clear c30
         obtain ⟨y199, hy199⟩ : ∃ y_ : List Int, y_ = (y195 ++ ((rd_T50 l0_1 x5_2).f1)) := ⟨_, rfl⟩
         replace H : (if x184001_2.length < 4398046511104 then (spec_l2Copy.l1 k2 (wrap64 (x5_2 + 1)) l0_0 l0_1 a0_2 a0_3 x184000_1 (x184001_2 ++ [(⟨(rd_T50 l0_1 x5_2).f0, y199⟩ : S50)]) a0_2 a0_3) else (none)) = some (r1, r2, r3, r4) := by first | (rw [hy199]; with_reducible exact H) | (have H2_ := (Option.bind_some _ _).symm.trans H; rw [hy199]; with_reducible exact H2_) | (have H2_ := (Option.bind_some _ _).symm.trans H; with_reducible exact H2_) | with_reducible exact H | (rw [hy199]; exact H) | exact H
         have Ny199 := aC.mk hy199
         clear hy199
         by_cases c31 : x184001_2.length < 4398046511104
         ·rw [if_pos c31] at H
          have LMc31 := aC.mk c31
          clear c31
          obtain ⟨y202, hy202⟩ : ∃ y_ : List (S50), y_ = (x184001_2 ++ [(⟨(rd_T50 l0_1 x5_2).f0, y199⟩ : S50)]) := ⟨_, rfl⟩
          replace H : (spec_l2Copy.l1 k2 (wrap64 (x5_2 + 1)) l0_0 l0_1 a0_2 a0_3 x184000_1 y202 a0_2 a0_3) = some (r1, r2, r3, r4) := by first | (rw [hy202]; with_reducible exact H) | (have H2_ := (Option.bind_some _ _).symm.trans H; rw [hy202]; with_reducible exact H2_) | (have H2_ := (Option.bind_some _ _).symm.trans H; with_reducible exact H2_) | with_reducible exact H | (rw [hy202]; exact H) | exact H
          have Ny202 := aC.mk hy202
          clear hy202
          have H' := aC.mk H
          clear H
          have hnb32 := NB181_182.out
          have hnc32 := NB182_181.out
          have hnb33 := NB181_183.out
          have hnc33 := NB183_181.out
          have hcz34_0 : wr.cell? ⟨gb181, 0, none⟩ = some (.slice A0_0 l0_0.length c0_0) := (aD BK181.out 0).trans rfl
          have hcz34_1 : wr.cell? ⟨gb181, 1, none⟩ = some (.slice A0_1 l0_1.length c0_1) := (aD BK181.out 1).trans rfl
          have hcz34_2 : wr.cell? ⟨gb181, 2, none⟩ = some (.int .i64 a0_2) := (aD BK181.out 2).trans rfl
          have hcz34_3 : wr.cell? ⟨gb181, 3, none⟩ = some (.bool a0_3) := (aD BK181.out 3).trans rfl
          have hfz34_0 := aA BK181.out 0
          have hfz34_1 := aA BK181.out 1
          have hfz34_2 := aA BK181.out 2
          have hfz34_3 := aA BK181.out 3
          try go_wp2
          have n0_ := aC.mk (Kd.S_drew HO_184000.out)
          have n1_ := aC.mk (Kd.S_drew HO_184001.out)
          have n2_ := aC.mk (aQ BK181.out)
          have n3_ := aC.mk (aQ BK182.out)
          have n4_ := aC.mk (aQ BK183.out)
          have n5_ := aC.mk (aH HB.out)
          clear HO_184000
          clear HO_184001
          clear BK181
          clear BK182
          clear BK183
          clear HB
          have HO_184000 := n0_
          have HO_184001 := n1_
          have BK181 := n2_
          have BK182 := n3_
          have BK183 := n4_
          have HB := n5_
          clear n0_ n1_ n2_ n3_ n4_ n5_
          have p194 : 0 ≤ (x5_2 : Int) := lE (by first | (with_reducible assumption) | assumption)
          have q194 : x5_2 < (l0_1.length : Int) := lE (by first | (with_reducible assumption) | assumption)
          obtain ⟨ad194, A194_1, c194_1, e194, hx194_0, hx194_1, hl194_1, hi194_1⟩ := at_T50 HR0_1.out x5_2 p194 q194
          have hw194_1 := hx194_1
          have hw194_0 := hx194_0
          cases e194
          replace hx194_0 := (HB.out.cell (lD w _ hx194_0)).trans hx194_0
          replace hx194_1 := (HB.out.cell (lD w _ hx194_1)).trans hx194_1
          have HR194_1 := aC.mk hi194_1
          have HC194_1 := aC.mk hl194_1
          clear hi194_1 hl194_1
          replace p194 := eq_true p194
          replace q194 := eq_true q194
          have p198 : 0 ≤ (x5_2 : Int) := lE (by first | (with_reducible assumption) | assumption)
          have q198 : x5_2 < (l0_1.length : Int) := lE (by first | (with_reducible assumption) | assumption)
          obtain ⟨ad198, A198_1, c198_1, e198, hx198_0, hx198_1, hl198_1, hi198_1⟩ := at_T50 HR0_1.out x5_2 p198 q198
          have hw198_1 := hx198_1
          have hw198_0 := hx198_0
          obtain rfl : ad194 = ad198 := (by injection e198)
          replace hx198_0 := (HB.out.cell (lD w _ hx198_0)).trans hx198_0
          replace hx198_1 := (HB.out.cell (lD w _ hx198_1)).trans hx198_1
          have HR198_1 := aC.mk hi198_1
          have HC198_1 := aC.mk hl198_1
          clear hi198_1 hl198_1
          replace p198 := eq_true p198
          replace q198 := eq_true q198
          have ea_ := Option.some.inj (hx194_1.symm.trans hx198_1)
          injection ea_ with ea_ en_ ec_
          subst ea_
          subst ec_
          clear en_
          refine start_ (n := 21) (S := fun w' => w'.cell? ⟨gb183, 0, none⟩ = some (u184000) ∧ w'.cell? ⟨gb183, 1, none⟩ = some (u184001) ∧ w'.cell? ⟨gb183, 2, none⟩ = some (.int .i64 a0_2) ∧ w'.cell? ⟨gb183, 3, none⟩ = some (.bool a0_3) ∧ w'.cell? ⟨gb181, 0, none⟩ = some (.slice A0_0 l0_0.length c0_0) ∧ w'.cell? ⟨gb181, 1, none⟩ = some (.slice (some ad194) l0_1.length c0_1) ∧ w'.cell? ⟨gb181, 2, none⟩ = some (.int .i64 a0_2) ∧ w'.cell? ⟨gb181, 3, none⟩ = some (.bool a0_3) ∧ w'.cell? (ad194.add ((x5_2).toNat * 2)) = some (.int .i64 ((rd_T50 l0_1 x5_2).f0)) ∧ w'.cell? ⟨(ad194.add ((x5_2).toNat * 2)).block, (ad194.add ((x5_2).toNat * 2)).off + 1, none⟩ = some (.slice A194_1 ((rd_T50 l0_1 x5_2).f1).length c194_1) ∧ w'.cell? (ad194.add ((x5_2).toNat * 2)) = some (.int .i64 ((rd_T50 l0_1 x5_2).f0)) ∧ w'.cell? ⟨(ad194.add ((x5_2).toNat * 2)).block, (ad194.add ((x5_2).toNat * 2)).off + 1, none⟩ = some (.slice A194_1 ((rd_T50 l0_1 x5_2).f1).length c194_1)) (ds := [20]) #[false, false, false, false, false, false, false, false, false, false, false, false, false, false, false, false, false, false, false, false, false] (by kernel_rfl) rfl rfl ⟨(aD BK183.out 0).trans rfl, (aD BK183.out 1).trans rfl, (aD BK183.out 2).trans rfl, (aD BK183.out 3).trans rfl, (aD BK181.out 0).trans rfl, (aD BK181.out 1).trans rfl, (aD BK181.out 2).trans rfl, (aD BK181.out 3).trans rfl, ((HB.out.cell (lD w _ hw194_0)).trans hw194_0), ((HB.out.cell (lD w _ hw194_1)).trans hw194_1), ((HB.out.cell (lD w _ hw198_0)).trans hw198_0), ((HB.out.cell (lD w _ hw198_1)).trans hw198_1)⟩ (fun hHeld => ?_); refine with_tabW spec_l2Copy.tab9 spec_l2Copy.bits9 (fun HT_ HW_ => ?_)
          generalize wr.drew = w35 at HO_184000 HO_184001 BK181 BK182 BK183 HB HR194_1 HR198_1 hx194_0 hx194_1 hx198_0 hx198_1 hHeld ⊢
          refine pure_ (i := 0) (N := some 37) (v := ?_) (a' := ?_) #[true, false, false, false, false, false, false, false, false, false, false, false, false, false, false, false, false, false, false, false, false] rfl rfl (any_of HT_.out (by kernel_rfl)) (fun _ _ _ h => h) (Or.inl ⟨by rfl, ?_⟩) ?_ ?_
          rotate_left
          ·intro w'
           go_simp
           with_reducible rfl
          rotate_left
          ·simp only [Act.put, lA, lB, lC, bF, bE]
           rfl
          refine pure_ (i := 2) (N := some 39) (v := ?_) (a' := ?_) #[true, false, true, false, false, false, false, false, false, false, false, false, false, false, false, false, false, false, false, false, false] rfl rfl (any_of HT_.out (by kernel_rfl)) (fun _ _ _ h => h) (Or.inl ⟨by rfl, ?_⟩) ?_ ?_
          rotate_left
          ·intro w'
           go_simp
           with_reducible rfl
          rotate_left
          ·simp only [Act.put, lA, lB, lC, bF, bE]
           rfl
          refine pure_ (i := 4) (N := some 41) (v := ?_) (a' := ?_) #[true, false, true, false, true, false, false, false, false, false, false, false, false, false, false, false, false, false, false, false, false] rfl rfl (any_of HT_.out (by kernel_rfl)) (fun _ _ _ h => h) (Or.inl ⟨by rfl, ?_⟩) ?_ ?_
          rotate_left
          ·intro w'
           go_simp
           with_reducible rfl
          rotate_left
          ·simp only [Act.put, lA, lB, lC, bF, bE]
           rfl
          refine pure_ (i := 9) (N := some 46) (v := ?_) (a' := ?_) #[true, false, true, false, true, false, false, false, false, true, false, false, false, false, false, false, false, false, false, false, false] rfl rfl (any_of HT_.out (by kernel_rfl)) (fun _ _ _ h => h) (Or.inl ⟨by rfl, ?_⟩) ?_ ?_
          rotate_left
          ·intro w'
           go_simp
           with_reducible rfl
          rotate_left
          ·simp only [Act.put, lA, lB, lC, bF, bE]
           rfl
          refine pure_ (i := 11) (N := some 48) (v := ?_) (a' := ?_) #[true, false, true, false, true, false, false, false, false, true, false, true, false, false, false, false, false, false, false, false, false] rfl rfl (any_of HT_.out (by kernel_rfl)) (fun _ _ _ h => h) (Or.inl ⟨by rfl, ?_⟩) ?_ ?_
          rotate_left
          ·intro w'
           go_simp
           with_reducible rfl
          rotate_left
          ·simp only [Act.put, lA, lB, lC, bF, bE]
           rfl
          refine take_ (i := 1) (N := some 38) (v := ?_) (a' := ?_) #[true, true, true, false, true, false, false, false, false, true, false, true, false, false, false, false, false, false, false, false, false] rfl rfl (take_ofW HT_.out HW_.out (by kernel_rfl)) (fun _ _ _ h => h) (Or.inl ⟨by rfl, ?_⟩) hHeld ?_ ?_
          rotate_left
          ·rintro w' ⟨s0, s1, s2, s3, s4, s5, s6, s7, s8, s9, s10, s11⟩
           go_simp
           with_reducible rfl
          rotate_left
          ·simp only [Act.put, lA, lB, lC, bF, bE]
           rfl
          refine take_ (i := 3) (N := some 40) (v := ?_) (a' := ?_) #[true, true, true, true, true, false, false, false, false, true, false, true, false, false, false, false, false, false, false, false, false] rfl rfl (take_ofW HT_.out HW_.out (by kernel_rfl)) (fun _ _ _ h => h) (Or.inl ⟨by rfl, ?_⟩) hHeld ?_ ?_
          rotate_left
          ·rintro w' ⟨s0, s1, s2, s3, s4, s5, s6, s7, s8, s9, s10, s11⟩
           go_simp
           with_reducible rfl
          rotate_left
          ·simp only [Act.put, lA, lB, lC, bF, bE]
           rfl
          refine pure_ (i := 5) (N := some 42) (v := ?_) (a' := ?_) #[true, true, true, true, true, true, false, false, false, true, false, true, false, false, false, false, false, false, false, false, false] rfl rfl (any_of HT_.out (by kernel_rfl)) (fun _ _ _ h => h) (Or.inl ⟨by rfl, ?_⟩) ?_ ?_
          rotate_left
          ·intro w'
           go_simp
           with_reducible rfl
          rotate_left
          ·simp only [Act.put, lA, lB, lC, bF, bE]
           rfl
          refine pure_ (i := 6) (N := some 43) (v := ?_) (a' := ?_) #[true, true, true, true, true, true, true, false, false, true, false, true, false, false, false, false, false, false, false, false, false] rfl rfl (any_of HT_.out (by kernel_rfl)) (fun _ _ _ h => h) (Or.inl ⟨by rfl, ?_⟩) ?_ ?_
          rotate_left
          ·intro w'
           go_simp
           with_reducible rfl
          rotate_left
          ·simp only [Act.put, lA, lB, lC, bF, bE]
           rfl
          refine take_ (i := 7) (N := some 44) (v := ?_) (a' := ?_) #[true, true, true, true, true, true, true, true, false, true, false, true, false, false, false, false, false, false, false, false, false] rfl rfl (take_ofW HT_.out HW_.out (by kernel_rfl)) (fun _ _ _ h => h) (Or.inl ⟨by rfl, ?_⟩) hHeld ?_ ?_
          rotate_left
          ·rintro w' ⟨s0, s1, s2, s3, s4, s5, s6, s7, s8, s9, s10, s11⟩
           go_simp
           with_reducible rfl
          rotate_left
          ·simp only [Act.put, lA, lB, lC, bF, bE]
           rfl
          refine take_ (i := 10) (N := some 47) (v := ?_) (a' := ?_) #[true, true, true, true, true, true, true, true, false, true, true, true, false, false, false, false, false, false, false, false, false] rfl rfl (take_ofW HT_.out HW_.out (by kernel_rfl)) (fun _ _ _ h => h) (Or.inl ⟨by rfl, ?_⟩) hHeld ?_ ?_
          rotate_left
          ·rintro w' ⟨s0, s1, s2, s3, s4, s5, s6, s7, s8, s9, s10, s11⟩
           go_simp
           with_reducible rfl
          rotate_left
          ·simp only [Act.put, lA, lB, lC, bF, bE]
           rfl
          refine pure_ (i := 12) (N := some 49) (v := ?_) (a' := ?_) #[true, true, true, true, true, true, true, true, false, true, true, true, true, false, false, false, false, false, false, false, false] rfl rfl (any_of HT_.out (by kernel_rfl)) (fun _ _ _ h => h) (Or.inl ⟨by rfl, ?_⟩) ?_ ?_
          rotate_left
          ·intro w'
           go_simp
           with_reducible rfl
          rotate_left
          ·simp only [Act.put, lA, lB, lC, bF, bE]
           rfl
          refine pure_ (i := 13) (N := some 50) (v := ?_) (a' := ?_) #[true, true, true, true, true, true, true, true, false, true, true, true, true, true, false, false, false, false, false, false, false] rfl rfl (any_of HT_.out (by kernel_rfl)) (fun _ _ _ h => h) (Or.inl ⟨by rfl, ?_⟩) ?_ ?_
          rotate_left
          ·intro w'
           go_simp
           with_reducible rfl
          rotate_left
          ·simp only [Act.put, lA, lB, lC, bF, bE]
           rfl
          refine take_ (i := 14) (N := some 51) (v := ?_) (a' := ?_) #[true, true, true, true, true, true, true, true, false, true, true, true, true, true, true, false, false, false, false, false, false] rfl rfl (take_ofW HT_.out HW_.out (by kernel_rfl)) (fun _ _ _ h => h) (Or.inl ⟨by rfl, ?_⟩) hHeld ?_ ?_
          rotate_left
          ·rintro w' ⟨s0, s1, s2, s3, s4, s5, s6, s7, s8, s9, s10, s11⟩
           go_simp
           with_reducible rfl
          rotate_left
          ·simp only [Act.put, lA, lB, lC, bF, bE]
           rfl
          refine one_ (i := 8) (N := some 45) #[true, true, true, true, true, true, true, true, true, true, true, true, true, true, true, false, false, false, false, false, false] rfl rfl (one_of HT_.out (by kernel_rfl)) (by decide) (fun K hK => ?_)
          refine Kd.R_lit_step (Kd.int .u8) _ 5 ?hg (N := 45) ?hd (xs := ([] : List Int)) (inner := []) (ok := fun _ => True) (okp := fun _ => True) ?hr ?hp (fun _ hk => hk) trivial (Below.refl _ _) (Nat.le_refl _) (by simp) ?_; (case hd => rfl); (case hg => rfl); (case hr => first | (go_simp; done) | (go_simp; rfl)); (case hp => exact (Reps.none _ _))
          intro v196 w36 ho37 hb hg_ hnew_
          clear hg_ hnew_
          (first | rw [← Ny195.out] at ho37 | (simp only [Int.reduceToNat] at ho37; rw [← Ny195.out] at ho37))
          have n0_ := aC.mk (Kd.S_elder' (by (with_reducible repeat (first | apply Kd.S_alloc | apply Kd.S_drewN | apply Kd.S_drew)); exact HO_184000.out) (Kd.R_base ho37) hb)
          have n1_ := aC.mk (Kd.S_elder' (by (with_reducible repeat (first | apply Kd.S_alloc | apply Kd.S_drewN | apply Kd.S_drew)); exact HO_184001.out) (Kd.R_base ho37) hb)
          have n2_ := aC.mk (Kd.R_lower ho37 (aW (by repeat (first | (with_reducible first | exact HB.out | apply aJ | apply aE | apply aH | refine aG ?_ GE181.out | refine aG ?_ GE182.out | refine aG ?_ GE183.out) | exact HB.out))))
          have n3_ := aC.mk (aT (g := gb181) (o := .cells #[.slice A0_0 l0_0.length c0_0, .slice (some ad194) l0_1.length c0_1, .int .i64 a0_2, .bool a0_3] 25 (0, 0)) (by (with_reducible repeat (first | refine aN ?_ _ | refine aQ ?_ | refine aM ?_ _)); exact BK181.out) hb)
          have n4_ := aC.mk (aT (g := gb182) (o := .cells #[.slice none 0 0, .slice none 0 0, .int .i64 0, .bool false] 25 (0, 0)) (by (with_reducible repeat (first | refine aN ?_ _ | refine aQ ?_ | refine aM ?_ _)); exact BK182.out) hb)
          have n5_ := aC.mk (aT (g := gb183) (o := .cells #[u184000, u184001, .int .i64 a0_2, .bool a0_3] 25 (0, 0)) (by (with_reducible repeat (first | refine aN ?_ _ | refine aQ ?_ | refine aM ?_ _)); exact BK183.out) hb)
          have n6_ := aC.mk (aU (by repeat (first | (with_reducible first | exact HB.out | apply aJ | apply aE | apply aH | refine aG ?_ GE181.out | refine aG ?_ GE182.out | refine aG ?_ GE183.out) | exact HB.out)) hb)
          clear HO_184000
          clear HO_184001
          clear BK181
          clear BK182
          clear BK183
          clear HB
          have HO_184000 := n0_
          have HO_184001 := n1_
          have HO197 := n2_
          have BK181 := n3_
          have BK182 := n4_
          have BK183 := n5_
          have HB := n6_
          clear n0_ n1_ n2_ n3_ n4_ n5_ n6_
          clear hb ho37
          refine hK.out _ _ ⟨(aD BK183.out 0).trans rfl, (aD BK183.out 1).trans rfl, (aD BK183.out 2).trans rfl, (aD BK183.out 3).trans rfl, (aD BK181.out 0).trans rfl, (aD BK181.out 1).trans rfl, (aD BK181.out 2).trans rfl, (aD BK181.out 3).trans rfl, ((HB.out.cell (lD w _ hw194_0)).trans hw194_0), ((HB.out.cell (lD w _ hw194_1)).trans hw194_1), ((HB.out.cell (lD w _ hw198_0)).trans hw198_0), ((HB.out.cell (lD w _ hw198_1)).trans hw198_1)⟩ (fun hHeld => ?_)
          clear hK K
          refine norm_ (a' := ?_) ?_ ?_
          rotate_left
          ·show Act.put _ (some 45) _ = _
           simp only [Act.put, lA, lB, lC, bF, bE]
           rfl
          refine one_ (i := 15) (N := some 52) #[true, true, true, true, true, true, true, true, true, true, true, true, true, true, true, true, false, false, false, false, false] rfl rfl (one_of HT_.out (by kernel_rfl)) (by decide) (fun K hK => ?_)
          refine Kd.R_append_rows_step (Kd.int .u8) (w0 := w) w.heap.size (by rfl) (.tmp 45) (.tmp 51) 37 5 (.int .u8 0) 1 rfl Try.underlying37 info5 rfl (by decide) (by omega) v196 y195 ((rd_T50 l0_1 x5_2).f1) _ _ _ (fun _ => True) (fun _ => False) rfl rfl ?aO ?aR (fun _ _ h => h) (fun _ h => h.elim) ?aF ?aB ?aS ?aL ?_
          (case aR => repeat (first | exact (Kd.bG HR198_1.out HB.out) | (with_reducible refine Kd.bL ?_ _) | (with_reducible refine Kd.bK ?_ _) | (with_reducible refine Kd.bN ?_)))
          (case aB => exact (by repeat (first | (with_reducible first | exact HB.out | apply aJ | apply aE | apply aH | refine aG ?_ GE181.out | refine aG ?_ GE182.out | refine aG ?_ GE183.out) | exact HB.out)))
          (case aF => exact (fun _ _ => trivial))
          (case aO => exact (by (with_reducible repeat (first | apply Kd.R_alloc | apply Kd.R_drewN | apply Kd.R_drew)); exact HO197.out))
          (case aS => exact (aW (by repeat (first | (with_reducible first | exact HB.out | apply aJ | apply aE | apply aH | refine aG ?_ GE181.out | refine aG ?_ GE182.out | refine aG ?_ GE183.out) | exact HB.out))))
          (case aL => have := LMc30.out; omega)
          intro v200 w38 ho hb hg hat
          rw [← Ny199.out] at ho
          have n0_ := aC.mk (Kd.S_after (ok := (fun _ => True)) (by (with_reducible repeat (first | apply Kd.S_alloc | apply Kd.S_drewN | apply Kd.S_drew)); exact HO_184000.out) hg hat)
          have n1_ := aC.mk (Kd.S_after (ok := (fun _ => True)) (by (with_reducible repeat (first | apply Kd.S_alloc | apply Kd.S_drewN | apply Kd.S_drew)); exact HO_184001.out) hg hat)
          have n2_ := aC.mk (blk_grown (g := gb181) (o := .cells #[.slice A0_0 l0_0.length c0_0, .slice (some ad194) l0_1.length c0_1, .int .i64 a0_2, .bool a0_3] 25 (0, 0)) (by (with_reducible repeat (first | refine aN ?_ _ | refine aQ ?_ | refine aM ?_ _)); exact BK181.out) hg (Kd.R_ne HO197.out BK181.out (by decide)))
          have n3_ := aC.mk (blk_grown (g := gb182) (o := .cells #[.slice none 0 0, .slice none 0 0, .int .i64 0, .bool false] 25 (0, 0)) (by (with_reducible repeat (first | refine aN ?_ _ | refine aQ ?_ | refine aM ?_ _)); exact BK182.out) hg (Kd.R_ne HO197.out BK182.out (by decide)))
          have n4_ := aC.mk (blk_grown (g := gb183) (o := .cells #[u184000, u184001, .int .i64 a0_2, .bool a0_3] 25 (0, 0)) (by (with_reducible repeat (first | refine aN ?_ _ | refine aQ ?_ | refine aM ?_ _)); exact BK183.out) hg (Kd.R_ne HO197.out BK183.out (by decide)))
          have n5_ := aC.mk (hb)
          have n6_ := aC.mk (ho)
          clear HO_184000
          clear HO_184001
          clear BK181
          clear BK182
          clear BK183
          clear HB
          clear HO197
          have HO_184000 := n0_
          have HO_184001 := n1_
          have BK181 := n2_
          have BK182 := n3_
          have BK183 := n4_
          have HB := n5_
          have HO201 := n6_
          clear n0_ n1_ n2_ n3_ n4_ n5_ n6_
          clear ho hb hg hat
          obtain ⟨Ao39, co39, eo39⟩ := Kd.R_slice HO201.out
          (first | subst eo39 | (injection eo39 with f1_ f2_ f3_; have f4_ := f1_.symm; have f5_ := f3_.symm; clear f1_ f2_ f3_; subst f4_; subst f5_))
          refine hK.out _ _ ⟨(aD BK183.out 0).trans rfl, (aD BK183.out 1).trans rfl, (aD BK183.out 2).trans rfl, (aD BK183.out 3).trans rfl, (aD BK181.out 0).trans rfl, (aD BK181.out 1).trans rfl, (aD BK181.out 2).trans rfl, (aD BK181.out 3).trans rfl, ((HB.out.cell (lD w _ hw194_0)).trans hw194_0), ((HB.out.cell (lD w _ hw194_1)).trans hw194_1), ((HB.out.cell (lD w _ hw198_0)).trans hw198_0), ((HB.out.cell (lD w _ hw198_1)).trans hw198_1)⟩ (fun hHeld => ?_)
          clear hK K
          refine norm_ (a' := ?_) ?_ ?_
          rotate_left
          ·show Act.put _ (some 52) _ = _
           simp only [Act.put, lA, lB, lC, bF, bE]
           rfl
          refine pure_ (i := 16) (N := some 53) (v := ?_) (a' := ?_) #[true, true, true, true, true, true, true, true, true, true, true, true, true, true, true, true, true, false, false, false, false] rfl rfl (any_of HT_.out (by kernel_rfl)) (fun _ _ _ h => h) (Or.inl ⟨by rfl, ?_⟩) ?_ ?_
          rotate_left
          ·intro w'
           go_simp
           with_reducible rfl
          rotate_left
          ·simp only [Act.put, lA, lB, lC, bF, bE]
           rfl
          refine one_ (i := 17) (N := some 54) #[true, true, true, true, true, true, true, true, true, true, true, true, true, true, true, true, true, true, false, false, false] rfl rfl (one_of HT_.out (by kernel_rfl)) (by decide) (fun K hK => ?_)
          refine value_ (w1 := ?_) (v := ?_) (by rfl) rfl ?_ ?_
          rotate_left 2
          ·go_simp
           constructor
           ·rfl
           ·rfl
          refine hK.out _ _ ⟨(aD (aM BK183.out _) 0).trans rfl, (aD (aM BK183.out _) 1).trans rfl, (aD (aM BK183.out _) 2).trans rfl, (aD (aM BK183.out _) 3).trans rfl, (aD (aM BK181.out _) 0).trans rfl, (aD (aM BK181.out _) 1).trans rfl, (aD (aM BK181.out _) 2).trans rfl, (aD (aM BK181.out _) 3).trans rfl, (World.cell?_alloc_lt _ _ _ (lD _ _ (((HB.out.cell (lD w _ hw194_0)).trans hw194_0)))).trans (((HB.out.cell (lD w _ hw194_0)).trans hw194_0)), (World.cell?_alloc_lt _ _ _ (lD _ _ (((HB.out.cell (lD w _ hw194_1)).trans hw194_1)))).trans (((HB.out.cell (lD w _ hw194_1)).trans hw194_1)), (World.cell?_alloc_lt _ _ _ (lD _ _ (((HB.out.cell (lD w _ hw198_0)).trans hw198_0)))).trans (((HB.out.cell (lD w _ hw198_0)).trans hw198_0)), (World.cell?_alloc_lt _ _ _ (lD _ _ (((HB.out.cell (lD w _ hw198_1)).trans hw198_1)))).trans (((HB.out.cell (lD w _ hw198_1)).trans hw198_1))⟩ (fun hHeld => ?_)
          clear hK K
          refine norm_ (a' := ?_) ?_ ?_
          rotate_left
          ·show Act.put _ (some 54) _ = _
           simp only [Act.put, lA, lB, lC, bF, bE]
           rfl
          refine one_ (i := 18) (N := some 55) #[true, true, true, true, true, true, true, true, true, true, true, true, true, true, true, true, true, true, true, false, false] rfl rfl (one_of HT_.out (by kernel_rfl)) (by decide) (fun K hK => ?_)
          refine Kd.S_append_step k50 (w0 := w) w.heap.size (by rfl) (.tmp 38) (.tmp 54) 23 50 (.agg #[(.int .i64 0), (.slice none 0 0)]) 32 rfl Try.underlying23 info50 rfl (by decide) (by omega) u184001 x184001_2 (⟨(rd_T50 l0_1 x5_2).f0, y199⟩ : S50) [.int .i64 ((rd_T50 l0_1 x5_2).f0), .slice Ao39 y199.length co39] (fun _ => True) (fun k_ => some k_ = (.slice Ao39 y199.length co39 : Value).ownBlock) rfl rfl ?aP (fun k_ hk_ => ((Kd.R_mono (ok' := fun k_ => ((fun _ => True)) k_ ∧ some k_ ≠ (u184001 : Value).ownBlock) (Kd.R_apart' (HO201.out) (Kd.S_typed HO_184001.out) (by decide)) (fun k_ hk => ⟨trivial, hk.2⟩))).1 k_ hk_.symm) ?aF ?aO ?aB ?aS ?aL ?_
          (case aP => exact k50_mkM _ _ _ (⟨(rd_T50 l0_1 x5_2).f0, y199⟩ : S50) (Kd.R_mono (Kd.R_tight rfl (Kd.R_mono (ok' := fun k_ => ((fun _ => True)) k_ ∧ some k_ ≠ (u184001 : Value).ownBlock) (Kd.R_apart' (HO201.out) (Kd.S_typed HO_184001.out) (by decide)) (fun k_ hk => ⟨trivial, hk.2⟩))) (fun _ h_ => h_)))
          (case aB => exact (by repeat (first | (with_reducible first | exact HB.out | apply aJ | apply aE | apply aH | refine aG ?_ GE181.out | refine aG ?_ GE182.out | refine aG ?_ GE183.out) | exact HB.out)))
          (case aF => exact (fun _ _ => trivial))
          (case aO => exact (by (with_reducible repeat (first | apply Kd.S_alloc | apply Kd.S_drewN | apply Kd.S_drew)); exact Kd.S_mono HO_184001.out (fun k_ hk => ⟨trivial, fun e_ => hk.2 e_⟩)))
          (case aS => exact (aW (by repeat (first | (with_reducible first | exact HB.out | apply aJ | apply aE | apply aH | refine aG ?_ GE181.out | refine aG ?_ GE182.out | refine aG ?_ GE183.out) | exact HB.out))))
          (case aL => have := LMc31.out; omega)
          intro v203 w40 ho hb hg hat
          rw [← Ny202.out] at ho
          have n0_ := aC.mk (Kd.S_over' (by (with_reducible repeat (first | apply Kd.S_alloc | apply Kd.S_drewN | apply Kd.S_drew)); exact HO_184000.out) (Kd.S_typed (by (with_reducible repeat (first | apply Kd.S_alloc | apply Kd.S_drewN | apply Kd.S_drew)); exact HO_184001.out)) (by decide) hg)
          have n1_ := aC.mk (blk_grown (g := gb181) (o := .cells #[.slice A0_0 l0_0.length c0_0, .slice (some ad194) l0_1.length c0_1, .int .i64 a0_2, .bool a0_3] 25 (0, 0)) (by (with_reducible repeat (first | refine aN ?_ _ | refine aQ ?_ | refine aM ?_ _)); exact BK181.out) hg (Kd.S_ne HO_184001.out BK181.out (by decide)))
          have n2_ := aC.mk (blk_grown (g := gb182) (o := .cells #[.slice none 0 0, .slice none 0 0, .int .i64 0, .bool false] 25 (0, 0)) (by (with_reducible repeat (first | refine aN ?_ _ | refine aQ ?_ | refine aM ?_ _)); exact BK182.out) hg (Kd.S_ne HO_184001.out BK182.out (by decide)))
          have n3_ := aC.mk (blk_grown (g := gb183) (o := .cells #[u184000, u184001, .int .i64 a0_2, .bool a0_3] 25 (0, 0)) (by (with_reducible repeat (first | refine aN ?_ _ | refine aQ ?_ | refine aM ?_ _)); exact BK183.out) hg (Kd.S_ne HO_184001.out BK183.out (by decide)))
          have n4_ := aC.mk (hb)
          have n5_ := aC.mk (ho)
          clear HO_184000
          clear BK181
          clear BK182
          clear BK183
          clear HB
          clear HO_184001
          clear HO201
          have HO_184000 := n0_
          have BK181 := n1_
          have BK182 := n2_
          have BK183 := n3_
          have HB := n4_
          have HO204 := n5_
          clear n0_ n1_ n2_ n3_ n4_ n5_
          clear ho hb hg hat
          obtain ⟨Ao41, co41, eo41⟩ := Kd.S_slice HO204.out
          (first | subst eo41 | (injection eo41 with f1_ f2_ f3_; have f4_ := f1_.symm; have f5_ := f3_.symm; clear f1_ f2_ f3_; subst f4_; subst f5_))
          refine hK.out _ _ ⟨(aD BK183.out 0).trans rfl, (aD BK183.out 1).trans rfl, (aD BK183.out 2).trans rfl, (aD BK183.out 3).trans rfl, (aD BK181.out 0).trans rfl, (aD BK181.out 1).trans rfl, (aD BK181.out 2).trans rfl, (aD BK181.out 3).trans rfl, ((HB.out.cell (lD w _ hw194_0)).trans hw194_0), ((HB.out.cell (lD w _ hw194_1)).trans hw194_1), ((HB.out.cell (lD w _ hw198_0)).trans hw198_0), ((HB.out.cell (lD w _ hw198_1)).trans hw198_1)⟩ (fun hHeld => ?_)
          clear hK K
          refine norm_ (a' := ?_) ?_ ?_
          rotate_left
          ·show Act.put _ (some 55) _ = _
           simp only [Act.put, lA, lB, lC, bF, bE]
           rfl
          refine pure_ (i := 19) (N := some 56) (v := ?_) (a' := ?_) #[true, true, true, true, true, true, true, true, true, true, true, true, true, true, true, true, true, true, true, true, false] rfl rfl (any_of HT_.out (by kernel_rfl)) (fun _ _ _ h => h) (Or.inl ⟨by rfl, ?_⟩) ?_ ?_
          rotate_left
          ·intro w'
           go_simp
           with_reducible rfl
          rotate_left
          ·simp only [Act.put, lA, lB, lC, bF, bE]
           rfl
          refine last_ (i := 20) (N := none) #[true, true, true, true, true, true, true, true, true, true, true, true, true, true, true, true, true, true, true, true, true] rfl rfl (one_of HT_.out (by kernel_rfl)) (by decide) (fun K hK => ?_)
          have hs42 : w40.cell? ⟨gb183, 1, none⟩ = some (u184001) := (aD BK183.out 1).trans rfl
          have hfs42 := aA BK183.out 1
          have hns42_0 := NB181_183.out
          have hns42_1 := NB182_183.out
          have hms42_0 := NB183_181.out
          have hms42_1 := NB183_182.out
          refine skip_ (w1 := ?_) (by rfl) rfl ?_ ?_
          rotate_left
          ·go_simp
           rfl
          refine hK.out _ _ ?_
          clear hK K
          refine done_ (done_of HT_.out (by kernel_rfl)) ?_
          try go_wp2
          go_roundg k2
          case measure => have := HK1.out; have := HK2.out; omega
          case rel => exact ⟨(wrap64 (x5_2 + 1)), (y202), (.slice Ao41 y202.length co41), (by first | rfl | (simp; done) | (simp [*]; done)), H', ⟨by have := HK1.out; have := HK2.out; omega⟩, ⟨by (with_reducible repeat (first | apply Kd.S_alloc | apply Kd.S_drewN | apply Kd.S_drew)); exact Kd.S_mono (Kd.S_far (p := ⟨gb183, 1, none⟩) (Kd.S_types HO_184000.out BK183.out (by decide)) (fun _ hk => hk.2) (.slice Ao41 y202.length co41)) (fun _ hk => trivial)⟩, ⟨by (with_reducible repeat (first | apply Kd.S_alloc | apply Kd.S_drewN | apply Kd.S_drew)); exact Kd.S_mono (Kd.S_far (p := ⟨gb183, 1, none⟩) (Kd.S_types HO204.out BK183.out (by decide)) (fun _ hk => hk.2) (.slice Ao41 y202.length co41)) (fun _ hk => trivial)⟩, ⟨by (with_reducible repeat (first | refine aN ?_ _ | refine aQ ?_ | refine aM ?_ _)); refine blk_far ?_ NB181_183.out _; (with_reducible repeat (first | refine aN ?_ _ | refine aQ ?_ | refine aM ?_ _)); exact BK181.out⟩, ⟨by (with_reducible repeat (first | refine aN ?_ _ | refine aQ ?_ | refine aM ?_ _)); refine blk_far ?_ NB182_183.out _; (with_reducible repeat (first | refine aN ?_ _ | refine aQ ?_ | refine aM ?_ _)); exact BK182.out⟩, ⟨by (with_reducible repeat (first | refine aN ?_ _ | refine aQ ?_ | refine aM ?_ _)); refine aZ (cs := #[u184000, u184001, .int .i64 a0_2, .bool a0_3]) ?_ 1 _ rfl; (with_reducible repeat (first | refine aN ?_ _ | refine aQ ?_ | refine aM ?_ _)); exact BK183.out⟩, ⟨by repeat (first | (with_reducible first | exact HB.out | apply aJ | apply aE | apply aH | refine aG ?_ GE181.out | refine aG ?_ GE182.out | refine aG ?_ GE183.out) | exact HB.out)⟩⟩
         ·rw [if_neg c31] at H
          exact absurd H (by simp)
        ·rw [if_neg c30] at H
         exact absurd H (by simp)
       ·rw [if_neg c29] at H
        exact absurd H (by simp)
      ·rw [if_neg c28] at H
       have c28b0 : decide (x5_2 < (l0_1.length : Int)) = false := decide_eq_false c28
       clear c28
       simp only [Option.some.injEq, Prod.mk.injEq] at H
       obtain ⟨rfl, rfl, rfl, rfl⟩ := H
       have hnb43 := NB181_182.out
       have hnc43 := NB182_181.out
       have hnb44 := NB181_183.out
       have hnc44 := NB183_181.out
       have hcz45_0 : wr.cell? ⟨gb181, 0, none⟩ = some (.slice A0_0 l0_0.length c0_0) := (aD BK181.out 0).trans rfl
       have hcz45_1 : wr.cell? ⟨gb181, 1, none⟩ = some (.slice A0_1 l0_1.length c0_1) := (aD BK181.out 1).trans rfl
       have hcz45_2 : wr.cell? ⟨gb181, 2, none⟩ = some (.int .i64 a0_2) := (aD BK181.out 2).trans rfl
       have hcz45_3 : wr.cell? ⟨gb181, 3, none⟩ = some (.bool a0_3) := (aD BK181.out 3).trans rfl
       have hfz45_0 := aA BK181.out 0
       have hfz45_1 := aA BK181.out 1
       have hfz45_2 := aA BK181.out 2
       have hfz45_3 := aA BK181.out 3
       have hnb46 := NB183_182.out
       have hnc46 := NB182_183.out
       have hcz47_0 : wr.cell? ⟨gb183, 0, none⟩ = some (u184000) := (aD BK183.out 0).trans rfl
       have hcz47_1 : wr.cell? ⟨gb183, 1, none⟩ = some (u184001) := (aD BK183.out 1).trans rfl
       have hcz47_2 : wr.cell? ⟨gb183, 2, none⟩ = some (.int .i64 a0_2) := (aD BK183.out 2).trans rfl
       have hcz47_3 : wr.cell? ⟨gb183, 3, none⟩ = some (.bool a0_3) := (aD BK183.out 3).trans rfl
       have hfz47_0 := aA BK183.out 0
       have hfz47_1 := aA BK183.out 1
       have hfz47_2 := aA BK183.out 2
       have hfz47_3 := aA BK183.out 3
       obtain ⟨Ao48, co48, eo48⟩ := Kd.S_slice HO_184000.out
       subst eo48
       have hcz49_0 : wr.cell? ⟨gb182, 0, none⟩ = some (.slice none 0 0) := (aD BK182.out 0).trans rfl
       have hcz49_1 : wr.cell? ⟨gb182, 1, none⟩ = some (.slice none 0 0) := (aD BK182.out 1).trans rfl
       have hcz49_2 : wr.cell? ⟨gb182, 2, none⟩ = some (.int .i64 0) := (aD BK182.out 2).trans rfl
       have hcz49_3 : wr.cell? ⟨gb182, 3, none⟩ = some (.bool false) := (aD BK182.out 3).trans rfl
       have hfz49_0 := aA BK182.out 0
       have hfz49_1 := aA BK182.out 1
       have hfz49_2 := aA BK182.out 2
       have hfz49_3 := aA BK182.out 3
       obtain ⟨Ao50, co50, eo50⟩ := Kd.S_slice HO_184001.out
       subst eo50
       go_wp2
       refine bodyPost_ret (results_cell_row rfl _ _ gb182 25 #[.slice Ao48 x184000_1.length co48, .slice Ao50 x184001_2.length co50, .int .i64 a0_2, .bool a0_3] (0, 0) _ rfl (by (with_reducible repeat (first | refine aN ?_ _ | refine aQ ?_ | refine aM ?_ _)); refine aZ (cs := #[.slice Ao48 x184000_1.length co48, .slice Ao50 x184001_2.length co50, .int .i64 a0_2, .bool false]) ?_ 3 _ rfl; (with_reducible repeat (first | refine aN ?_ _ | refine aQ ?_ | refine aM ?_ _)); refine aZ (cs := #[.slice Ao48 x184000_1.length co48, .slice Ao50 x184001_2.length co50, .int .i64 0, .bool false]) ?_ 2 _ rfl; (with_reducible repeat (first | refine aN ?_ _ | refine aQ ?_ | refine aM ?_ _)); refine aZ (cs := #[.slice Ao48 x184000_1.length co48, .slice none 0 0, .int .i64 0, .bool false]) ?_ 1 _ rfl; (with_reducible repeat (first | refine aN ?_ _ | refine aQ ?_ | refine aM ?_ _)); refine aZ (cs := #[.slice none 0 0, .slice none 0 0, .int .i64 0, .bool false]) ?_ 0 _ rfl; (with_reducible repeat (first | refine aN ?_ _ | refine aQ ?_ | refine aM ?_ _)); exact BK182.out) Try.underlying25 rfl (by kernel_rfl)) rfl ?_
       exact ⟨_, _, by first | rfl | (simp [errW_none, errW_some] <;> rfl) | (simp [*, errW_none, errW_some] <;> rfl), by (with_reducible repeat (first | apply Kd.S_alloc | apply Kd.S_drewN | apply Kd.S_drew)); exact Kd.S_mono (Kd.S_far (p := ⟨gb182, 3, none⟩) (Kd.S_far (p := ⟨gb182, 2, none⟩) (Kd.S_far (p := ⟨gb182, 1, none⟩) (Kd.S_far (p := ⟨gb182, 0, none⟩) (Kd.S_types HO_184000.out BK182.out (by decide)) (fun _ hk => hk.2) (.slice Ao48 x184000_1.length co48)) (fun _ hk => hk.2) (.slice Ao50 x184001_2.length co50)) (fun _ hk => hk.2) (.int .i64 a0_2)) (fun _ hk => hk.2) (.bool a0_3)) (fun _ hk => trivial), by (with_reducible repeat (first | apply Kd.S_alloc | apply Kd.S_drewN | apply Kd.S_drew)); exact Kd.S_mono (Kd.S_far (p := ⟨gb182, 3, none⟩) (Kd.S_far (p := ⟨gb182, 2, none⟩) (Kd.S_far (p := ⟨gb182, 1, none⟩) (Kd.S_far (p := ⟨gb182, 0, none⟩) (Kd.S_types HO_184001.out BK182.out (by decide)) (fun _ hk => hk.2) (.slice Ao48 x184000_1.length co48)) (fun _ hk => hk.2) (.slice Ao50 x184001_2.length co50)) (fun _ hk => hk.2) (.int .i64 a0_2)) (fun _ hk => hk.2) (.bool a0_3)) (fun _ hk => trivial), by repeat (first | (with_reducible first | exact HB.out | apply aJ | apply aE | apply aH | refine aG ?_ GE181.out | refine aG ?_ GE182.out | refine aG ?_ GE183.out) | exact HB.out)⟩
end Go.Proofs.Ytilhcaofpfeioaa.PFnExactFallDev

namespace Go.Proofs.Ytilhcaofpfeioaa.PFnExactFallDev
open Go.RowKit Go.Proofs.YtilhcaofpfeioaaW.PrintWords Go.Proofs.YtilhcaofpfeioaaW.PrintLast Go.Proofs.YtilhcaofpfeioaaW.PrintMore
attribute [local go_sem] max2_int min2_int max_two min_two max_three min_three max_four min_four   -- for this text's walks alone
set_option linter.unusedVariables false
set_option linter.unusedSimpArgs false
mutual
def spec_FallDev.j0 : Nat → Int → List (List Int) → List (S50) → Int → Bool → Option ((List (List Int)) × (List (S50)) × Int × Bool)
 | 0, _, _, _, _, _ => none
 | k + 1, x1, x216000, x216001, x216002, x216003 => spec_FallDev.l0 k x1 0 x216000 x216001 x216002 x216003
def spec_FallDev.l0 : Nat → Int → Int → List (List Int) → List (S50) → Int → Bool → Option ((List (List Int)) × (List (S50)) × Int × Bool)
 | 0, _, _, _, _, _, _ => none
 | k + 1, x1, x6, x216000, x216001, x216002, x216003 => if x6 < (x216001.length : Int) then (spec_FallDev.j2 k x1 x6 (decide (x6 < 30)) x216000 x216001 x216002 x216003) else (spec_FallDev.j2 k x1 x6 false x216000 x216001 x216002 x216003)
def spec_FallDev.j2 : Nat → Int → Int → Bool → List (List Int) → List (S50) → Int → Bool → Option ((List (List Int)) × (List (S50)) × Int × Bool)
 | 0, _, _, _, _, _, _, _ => none
 | k + 1, x1, x6, x24, x216000, x216001, x216002, x216003 => if x24 = true then (if 0 ≤ (IntKind.u64.wrap (x6)) then (if (Go.bits .and .i64 (shr .i64 x1 (IntKind.u64.wrap (x6))) 1) = 1 then (if 0 ≤ x6 then (if x6 < (x216001.length : Int) then (if 0 ≤ ((rd_T50 x216001 x6).f0) then (if ((rd_T50 x216001 x6).f0) < (x216000.length : Int) then (spec_FallDev.l0 k x1 (wrap64 (x6 + 1)) (x216000.set (((rd_T50 x216001 x6).f0) : Int).toNat ((rd_T50 x216001 x6).f1)) x216001 x216002 x216003) else (none)) else (none)) else (none)) else (none)) else (spec_FallDev.l0 k x1 (wrap64 (x6 + 1)) x216000 x216001 x216002 x216003)) else (none)) else (some (x216000, (([] : List (S50))), (-1), false))
end
def spec_FallDev.f (k : Nat) (l0_0 : List (List Int)) (l0_1 : List (S50)) (a0_2 : Int) (a0_3 : Bool) (a1 : Int) : Option ((List (List Int)) × (List (S50)) × Int × Bool) := (spec_l2Copy.f k l0_0 l0_1 a0_2 a0_3).bind fun bt207 => ((spec_DevOk.f k l0_0 l0_1 a0_2 a0_3).bind fun t216 => (if t216 = true then ((spec_l1In.f a1 0 1073741823).bind fun t217 => (if t217 = true then (spec_FallDev.j0 k a1 bt207.1 bt207.2.1 bt207.2.2.1 bt207.2.2.2) else (spec_FallDev.j0 k 0 bt207.1 bt207.2.1 bt207.2.2.1 bt207.2.2.2))) else (some (bt207.1, bt207.2.1, bt207.2.2.1, bt207.2.2.2))))
def spec_FallDev.T10 : Bool × List (List Nat × List Nat) := (true, [([], []), ([0], [0]), ([], []), ([2], [2]), ([], []), ([3, 4], [3, 4]), ([5], [5]), ([6], [6]), ([], []), ([8], [8]), ([], []), ([9, 10], [9, 10]), ([11], [11]), ([12], [12]), ([1, 7, 0, 1, 2, 3, 4, 5, 6, 7, 8, 9, 10, 11, 12, 13], [1, 7]), ([14, 13, 0, 1, 2, 3, 4, 5, 6, 7, 8, 9, 10, 11, 12, 13], [13, 14])])
def spec_FallDev.B10 : List Nat := [0, 1, 0, 4, 0, 28, 60, 124, 0, 256, 0, 1792, 3840, 7936, 16383, 32767]
theorem spec_FallDev.tab10 : rtab .any (opsOf Try.f31 10) = spec_FallDev.T10 := by kernel_rfl
theorem spec_FallDev.bits10 : waitsOk spec_FallDev.T10.2 spec_FallDev.B10 = true := by kernel_rfl
set_option maxHeartbeats 8000000 in
set_option maxRecDepth 100000 in
theorem spec_FallDev.calls (k : Nat) (A0_0 : Option Addr) (c0_0 : Nat) (l0_0 : List (List Int)) (A0_1 : Option Addr) (c0_1 : Nat) (l0_1 : List (S50)) (a0_2 : Int) (a0_3 : Bool) (a1 : Int) (r1 : List (List Int)) (r2 : List (S50)) (r3 : Int) (r4 : Bool) (w : World) (hr0_0 : Kd.C (Kd.slice 5 (Kd.int .u8)) w A0_0 l0_0.length l0_0) (hc0_0 : l0_0.length ≤ c0_0) (hr0_1 : Kd.C k50 w A0_1 l0_1.length l0_1) (hc0_1 : l0_1.length ≤ c0_1) (h : spec_FallDev.f k l0_0 l0_1 a0_2 a0_3 a1 = some (r1, r2, r3, r4)) :
  Calls Try.prog 31 #[.agg #[.slice A0_0 l0_0.length c0_0, .slice A0_1 l0_1.length c0_1, .int .i64 a0_2, .bool a0_3], .int .i64 a1] w fun e w' => ∃ v0_ v1_ : Value, e = .returned (.agg #[v0_, v1_, .int .i64 r3, .bool r4]) ∧ Kd.N (Kd.slice 5 (Kd.int .u8)) 37 w' w.heap.size (fun k_ => (w.heap.size ≤ k_) ∧ some k_ ≠ (v1_ : Value).ownBlock) v0_ r1 ∧ Kd.N k50 50 w' w.heap.size (fun k_ => (w.heap.size ≤ k_) ∧ some k_ ≠ (v0_ : Value).ownBlock) v1_ r2 ∧ Below w.heap.size w w' := by
 have hu25 := Try.underlying25
 have HR0_0 := aC.mk hr0_0
 have HC0_0 := aC.mk hc0_0
 clear hr0_0 hc0_0
 have HR0_1 := aC.mk hr0_1
 have HC0_1 := aC.mk hc0_1
 clear hr0_1 hc0_1
 have HB := aC.mk (Below.refl w.heap.size w)
 have H : ((spec_l2Copy.f k l0_0 l0_1 a0_2 a0_3).bind fun bt207 => ((spec_DevOk.f k l0_0 l0_1 a0_2 a0_3).bind fun t216 => (if t216 = true then ((spec_l1In.f a1 0 1073741823).bind fun t217 => (if t217 = true then (spec_FallDev.j0 k a1 bt207.1 bt207.2.1 bt207.2.2.1 bt207.2.2.2) else (spec_FallDev.j0 k 0 bt207.1 bt207.2.1 bt207.2.2.1 bt207.2.2.2))) else (some (bt207.1, bt207.2.1, bt207.2.2.1, bt207.2.2.2))))) = some (r1, r2, r3, r4) := h
 clear h
 replace H := lF H
 obtain ⟨⟨t207, t210, t213, t214⟩, A30, H⟩ := H
 replace H : ((spec_DevOk.f k l0_0 l0_1 a0_2 a0_3).bind fun t216 => (if t216 = true then ((spec_l1In.f a1 0 1073741823).bind fun t217 => (if t217 = true then (spec_FallDev.j0 k a1 t207 t210 t213 t214) else (spec_FallDev.j0 k 0 t207 t210 t213 t214))) else (some (t207, t210, t213, t214)))) = some (r1, r2, r3, r4) := H
 have A3 := aC.mk A30
 clear A30
 replace H := lF H
 obtain ⟨t216, A40, H⟩ := H
 replace H : (if t216 = true then ((spec_l1In.f a1 0 1073741823).bind fun t217 => (if t217 = true then (spec_FallDev.j0 k a1 t207 t210 t213 t214) else (spec_FallDev.j0 k 0 t207 t210 t213 t214))) else (some (t207, t210, t213, t214))) = some (r1, r2, r3, r4) := H
 have A4 := aC.mk A40
 clear A40
 by_cases c5 : t216 = true
 ·subst c5
  have H1 : ((spec_l1In.f a1 0 1073741823).bind fun t217 => (if t217 = true then (spec_FallDev.j0 k a1 t207 t210 t213 t214) else (spec_FallDev.j0 k 0 t207 t210 t213 t214))) = some (r1, r2, r3, r4) := by rw [if_pos rfl] at H; exact H
  clear H
  have H := H1
  clear H1
  replace H := lF H
  obtain ⟨t217, A60, H⟩ := H
  replace H : (if t217 = true then (spec_FallDev.j0 k a1 t207 t210 t213 t214) else (spec_FallDev.j0 k 0 t207 t210 t213 t214)) = some (r1, r2, r3, r4) := H
  have A6 := aC.mk A60
  clear A60
  have HC7 := aC.mk H
  clear H
  go_enter Try.func31, Try.ntmps31
  go_upto_if 15 with (first | ((with_reducible refine bC (N := 2) rfl ?_); refine bB ?hg (N := 2) ?hd (cs := #[.slice A0_0 l0_0.length c0_0, .slice A0_1 l0_1.length c0_1, .int .i64 a0_2, .bool a0_3]) (t := 25) ?hr ?_; (case hd => rfl); (case hg => rfl); (case hr => first | (go_simp; done) | (go_simp; rfl)); intro gb205 hg w8 hbox hb; have n0_ := aC.mk (aU (by repeat (first | (with_reducible first | exact HB.out | apply aJ | apply aE | apply aH) | exact HB.out)) hb); have n1_ := aC.mk (hbox); have n2_ := aC.mk ((by rw [hg]; exact (aW (by repeat (first | (with_reducible first | exact HB.out | apply aJ | apply aE | apply aH) | exact HB.out))) : w.heap.size ≤ gb205)); have n3_ := aC.mk ((by rw [hg]; exact (aW (by repeat (first | (with_reducible first | exact HB.out | apply aJ | apply aE | apply aH) | exact HB.out))) : w.heap.size ≤ gb205)); clear HB; have HB := n0_; have BK205 := n1_; have GW205 := n2_; have GE205 := n3_; clear n0_ n1_ n2_ n3_; clear hb hbox hg) | ((with_reducible refine bC (N := 4) rfl ?_); refine bB ?hg (N := 4) ?hd (cs := #[.slice none 0 0, .slice none 0 0, .int .i64 0, .bool false]) (t := 25) ?hr ?_; (case hd => rfl); (case hg => rfl); (case hr => first | (go_simp; done) | (go_simp; rfl)); intro gb206 hg w9 hbox hb; have n0_ := aC.mk (aT (g := gb205) (o := .cells #[.slice A0_0 l0_0.length c0_0, .slice A0_1 l0_1.length c0_1, .int .i64 a0_2, .bool a0_3] 25 (0, 0)) (by (with_reducible repeat (first | refine aN ?_ _ | refine aQ ?_ | refine aM ?_ _)); exact BK205.out) hb); have n1_ := aC.mk (aU (by repeat (first | (with_reducible first | exact HB.out | apply aJ | apply aE | apply aH | refine aG ?_ GE205.out) | exact HB.out)) hb); have n2_ := aC.mk (hbox); have n3_ := aC.mk ((by rw [hg]; exact (aW (by repeat (first | (with_reducible first | exact HB.out | apply aJ | apply aE | apply aH | refine aG ?_ GE205.out) | exact HB.out))) : w.heap.size ≤ gb206)); have n4_ := aC.mk ((by rw [hg]; exact (aW (by repeat (first | (with_reducible first | exact HB.out | apply aJ | apply aE | apply aH | refine aG ?_ GE205.out) | exact HB.out))) : w.heap.size ≤ gb206)); have n5_ := aC.mk ((by rw [hg]; exact Nat.ne_of_lt (bH (g := gb205) (o := .cells #[.slice A0_0 l0_0.length c0_0, .slice A0_1 l0_1.length c0_1, .int .i64 a0_2, .bool a0_3] 25 (0, 0)) (by (with_reducible repeat (first | refine aN ?_ _ | refine aQ ?_ | refine aM ?_ _)); exact BK205.out)) : gb205 ≠ gb206)); have n6_ := aC.mk ((by rw [hg]; exact Nat.ne_of_gt (bH (g := gb205) (o := .cells #[.slice A0_0 l0_0.length c0_0, .slice A0_1 l0_1.length c0_1, .int .i64 a0_2, .bool a0_3] 25 (0, 0)) (by (with_reducible repeat (first | refine aN ?_ _ | refine aQ ?_ | refine aM ?_ _)); exact BK205.out)) : gb206 ≠ gb205)); clear BK205; clear HB; have BK205 := n0_; have HB := n1_; have BK206 := n2_; have GW206 := n3_; have GE206 := n4_; have NB205_206 := n5_; have NB206_205 := n6_; clear n0_ n1_ n2_ n3_ n4_ n5_ n6_; clear hb hbox hg; have hnb10 := NB205_206.out; have hnc10 := NB206_205.out; have hcz11_0 : w9.cell? ⟨gb205, 0, none⟩ = some (.slice A0_0 l0_0.length c0_0) := (aD BK205.out 0).trans rfl; have hcz11_1 : w9.cell? ⟨gb205, 1, none⟩ = some (.slice A0_1 l0_1.length c0_1) := (aD BK205.out 1).trans rfl; have hcz11_2 : w9.cell? ⟨gb205, 2, none⟩ = some (.int .i64 a0_2) := (aD BK205.out 2).trans rfl; have hcz11_3 : w9.cell? ⟨gb205, 3, none⟩ = some (.bool a0_3) := (aD BK205.out 3).trans rfl; have hfz11_0 := aA BK205.out 0; have hfz11_1 := aA BK205.out 1; have hfz11_2 := aA BK205.out 2; have hfz11_3 := aA BK205.out 3) | ((with_reducible refine aX (f := 56) rfl ?_); refine bM (some 8) rfl rfl Try.func56 (by kernel_rfl) rfl #[.agg #[.slice A0_0 l0_0.length c0_0, .slice A0_1 l0_1.length c0_1, .int .i64 a0_2, .bool a0_3]] rfl (by (try simp only [List.map_toArray, List.map_cons, List.map_nil]); first | done | rfl | (simp only [List.length_drop, List.length_take]; rfl)) ?_; (with_reducible refine (spec_l2Copy.calls k _ _ l0_0 _ _ l0_1 a0_2 a0_3 t207 t210 t213 t214 _ ?side1 ?side2 ?side3 ?side4 A3.out).mono ?_); (case side1 => repeat (first | exact (Kd.bG HR0_0.out HB.out) | (with_reducible refine Kd.bL ?_ _) | (with_reducible refine Kd.bK ?_ _) | (with_reducible refine Kd.bN ?_))); (case side2 => exact HC0_0.out); (case side3 => repeat (first | exact (Kd.bG HR0_1.out HB.out) | (with_reducible refine Kd.bL ?_ _) | (with_reducible refine Kd.bK ?_ _) | (with_reducible refine Kd.bN ?_))); (case side4 => exact HC0_1.out); rintro e w12 ⟨v208, v211, rfl, ho0, ho1, hb⟩; refine ⟨_, rfl, ?_⟩; have n0_ := aC.mk (Kd.N_lower (Kd.N_mono (ok' := fun k_ => (w.heap.size ≤ k_) ∧ some k_ ≠ (v211 : Value).ownBlock ∧ k_ ≠ gb205 ∧ k_ ≠ gb206) (Kd.S_N (Kd.S_bound (Kd.S_apart' ho0 (Kd.S_typed ho1) (by decide)))) (fun k_ hk_ => ⟨(Nat.le_trans (aW (by repeat (first | (with_reducible first | exact HB.out | apply aJ | apply aE | apply aH | refine aG ?_ GE205.out | refine aG ?_ GE206.out) | exact HB.out))) hk_.2.1), hk_.1.2, (Kd.freshB (g := gb205) (o := .cells #[.slice A0_0 l0_0.length c0_0, .slice A0_1 l0_1.length c0_1, .int .i64 a0_2, .bool a0_3] 25 (0, 0)) (by (with_reducible repeat (first | refine aN ?_ _ | refine aQ ?_ | refine aM ?_ _)); exact BK205.out) k_ hk_.2.1), (Kd.freshB (g := gb206) (o := .cells #[.slice none 0 0, .slice none 0 0, .int .i64 0, .bool false] 25 (0, 0)) (by (with_reducible repeat (first | refine aN ?_ _ | refine aQ ?_ | refine aM ?_ _)); exact BK206.out) k_ hk_.2.1)⟩)) (aW (by repeat (first | (with_reducible first | exact HB.out | apply aJ | apply aE | apply aH | refine aG ?_ GE205.out | refine aG ?_ GE206.out) | exact HB.out)))); have n1_ := aC.mk (Kd.N_lower (Kd.N_mono (ok' := fun k_ => (w.heap.size ≤ k_) ∧ some k_ ≠ (v208 : Value).ownBlock ∧ k_ ≠ gb205 ∧ k_ ≠ gb206) (Kd.S_N (Kd.S_bound (Kd.S_apart' ho1 (Kd.S_typed ho0) (by decide)))) (fun k_ hk_ => ⟨(Nat.le_trans (aW (by repeat (first | (with_reducible first | exact HB.out | apply aJ | apply aE | apply aH | refine aG ?_ GE205.out | refine aG ?_ GE206.out) | exact HB.out))) hk_.2.1), hk_.1.2, (Kd.freshB (g := gb205) (o := .cells #[.slice A0_0 l0_0.length c0_0, .slice A0_1 l0_1.length c0_1, .int .i64 a0_2, .bool a0_3] 25 (0, 0)) (by (with_reducible repeat (first | refine aN ?_ _ | refine aQ ?_ | refine aM ?_ _)); exact BK205.out) k_ hk_.2.1), (Kd.freshB (g := gb206) (o := .cells #[.slice none 0 0, .slice none 0 0, .int .i64 0, .bool false] 25 (0, 0)) (by (with_reducible repeat (first | refine aN ?_ _ | refine aQ ?_ | refine aM ?_ _)); exact BK206.out) k_ hk_.2.1)⟩)) (aW (by repeat (first | (with_reducible first | exact HB.out | apply aJ | apply aE | apply aH | refine aG ?_ GE205.out | refine aG ?_ GE206.out) | exact HB.out)))); have n2_ := aC.mk (aT (g := gb205) (o := .cells #[.slice A0_0 l0_0.length c0_0, .slice A0_1 l0_1.length c0_1, .int .i64 a0_2, .bool a0_3] 25 (0, 0)) (by (with_reducible repeat (first | refine aN ?_ _ | refine aQ ?_ | refine aM ?_ _)); exact BK205.out) hb); have n3_ := aC.mk (aT (g := gb206) (o := .cells #[.slice none 0 0, .slice none 0 0, .int .i64 0, .bool false] 25 (0, 0)) (by (with_reducible repeat (first | refine aN ?_ _ | refine aQ ?_ | refine aM ?_ _)); exact BK206.out) hb); have n4_ := aC.mk (aU (by repeat (first | (with_reducible first | exact HB.out | apply aJ | apply aE | apply aH | refine aG ?_ GE205.out | refine aG ?_ GE206.out) | exact HB.out)) hb); clear BK205; clear BK206; clear HB; have HO209 := n0_; have HO212 := n1_; have BK205 := n2_; have BK206 := n3_; have HB := n4_; clear n0_ n1_ n2_ n3_ n4_; (try clear hb); (try clear hk); (try clear ho0); (try clear ho1)) | ((with_reducible refine bC (N := 5) rfl ?_); refine bB ?hg (N := 5) ?hd (cs := #[.slice none 0 0, .slice none 0 0, .int .i64 0, .bool false]) (t := 25) ?hr ?_; (case hd => rfl); (case hg => rfl); (case hr => first | (go_simp; done) | (go_simp; rfl)); intro gb215 hg w13 hbox hb; have n0_ := aC.mk (Kd.N_below (Kd.N_elderB (by (with_reducible repeat (first | apply Kd.N_alloc | apply Kd.N_drewN | apply Kd.N_drew)); exact HO209.out) gb215 (Nat.le_of_eq hg.symm)) hb); have n1_ := aC.mk (Kd.N_below (Kd.N_elderB (by (with_reducible repeat (first | apply Kd.N_alloc | apply Kd.N_drewN | apply Kd.N_drew)); exact HO212.out) gb215 (Nat.le_of_eq hg.symm)) hb); have n2_ := aC.mk (aT (g := gb205) (o := .cells #[.slice A0_0 l0_0.length c0_0, .slice A0_1 l0_1.length c0_1, .int .i64 a0_2, .bool a0_3] 25 (0, 0)) (by (with_reducible repeat (first | refine aN ?_ _ | refine aQ ?_ | refine aM ?_ _)); exact BK205.out) hb); have n3_ := aC.mk (aT (g := gb206) (o := .cells #[.slice none 0 0, .slice none 0 0, .int .i64 0, .bool false] 25 (0, 0)) (by (with_reducible repeat (first | refine aN ?_ _ | refine aQ ?_ | refine aM ?_ _)); exact BK206.out) hb); have n4_ := aC.mk (aU (by repeat (first | (with_reducible first | exact HB.out | apply aJ | apply aE | apply aH | refine aG ?_ GE205.out | refine aG ?_ GE206.out) | exact HB.out)) hb); have n5_ := aC.mk (hbox); have n6_ := aC.mk ((by rw [hg]; exact (aW (by repeat (first | (with_reducible first | exact HB.out | apply aJ | apply aE | apply aH | refine aG ?_ GE205.out | refine aG ?_ GE206.out) | exact HB.out))) : w.heap.size ≤ gb215)); have n7_ := aC.mk ((by rw [hg]; exact (aW (by repeat (first | (with_reducible first | exact HB.out | apply aJ | apply aE | apply aH | refine aG ?_ GE205.out | refine aG ?_ GE206.out) | exact HB.out))) : w.heap.size ≤ gb215)); have n8_ := aC.mk ((by rw [hg]; exact Nat.ne_of_lt (bH (g := gb205) (o := .cells #[.slice A0_0 l0_0.length c0_0, .slice A0_1 l0_1.length c0_1, .int .i64 a0_2, .bool a0_3] 25 (0, 0)) (by (with_reducible repeat (first | refine aN ?_ _ | refine aQ ?_ | refine aM ?_ _)); exact BK205.out)) : gb205 ≠ gb215)); have n9_ := aC.mk ((by rw [hg]; exact Nat.ne_of_gt (bH (g := gb205) (o := .cells #[.slice A0_0 l0_0.length c0_0, .slice A0_1 l0_1.length c0_1, .int .i64 a0_2, .bool a0_3] 25 (0, 0)) (by (with_reducible repeat (first | refine aN ?_ _ | refine aQ ?_ | refine aM ?_ _)); exact BK205.out)) : gb215 ≠ gb205)); have n10_ := aC.mk ((by rw [hg]; exact Nat.ne_of_lt (bH (g := gb206) (o := .cells #[.slice none 0 0, .slice none 0 0, .int .i64 0, .bool false] 25 (0, 0)) (by (with_reducible repeat (first | refine aN ?_ _ | refine aQ ?_ | refine aM ?_ _)); exact BK206.out)) : gb206 ≠ gb215)); have n11_ := aC.mk ((by rw [hg]; exact Nat.ne_of_gt (bH (g := gb206) (o := .cells #[.slice none 0 0, .slice none 0 0, .int .i64 0, .bool false] 25 (0, 0)) (by (with_reducible repeat (first | refine aN ?_ _ | refine aQ ?_ | refine aM ?_ _)); exact BK206.out)) : gb215 ≠ gb206)); clear HO209; clear HO212; clear BK205; clear BK206; clear HB; have HO209 := n0_; have HO212 := n1_; have BK205 := n2_; have BK206 := n3_; have HB := n4_; have BK215 := n5_; have GW215 := n6_; have GE215 := n7_; have NB205_215 := n8_; have NB215_205 := n9_; have NB206_215 := n10_; have NB215_206 := n11_; clear n0_ n1_ n2_ n3_ n4_ n5_ n6_ n7_ n8_ n9_ n10_ n11_; clear hb hbox hg; obtain ⟨Ao14, co14, eo14⟩ := Kd.N_slice HO209.out; subst eo14; have hnb15 := NB215_205.out; have hnc15 := NB205_215.out; have hnb16 := NB215_206.out; have hnc16 := NB206_215.out; have hcz17_0 : w13.cell? ⟨gb215, 0, none⟩ = some (.slice none 0 0) := (aD BK215.out 0).trans rfl; have hcz17_1 : w13.cell? ⟨gb215, 1, none⟩ = some (.slice none 0 0) := (aD BK215.out 1).trans rfl; have hcz17_2 : w13.cell? ⟨gb215, 2, none⟩ = some (.int .i64 0) := (aD BK215.out 2).trans rfl; have hcz17_3 : w13.cell? ⟨gb215, 3, none⟩ = some (.bool false) := (aD BK215.out 3).trans rfl; have hfz17_0 := aA BK215.out 0; have hfz17_1 := aA BK215.out 1; have hfz17_2 := aA BK215.out 2; have hfz17_3 := aA BK215.out 3; obtain ⟨Ao18, co18, eo18⟩ := Kd.N_slice HO212.out; subst eo18; have hcz19_0 : w13.cell? ⟨gb205, 0, none⟩ = some (.slice A0_0 l0_0.length c0_0) := (aD BK205.out 0).trans rfl; have hcz19_1 : w13.cell? ⟨gb205, 1, none⟩ = some (.slice A0_1 l0_1.length c0_1) := (aD BK205.out 1).trans rfl; have hcz19_2 : w13.cell? ⟨gb205, 2, none⟩ = some (.int .i64 a0_2) := (aD BK205.out 2).trans rfl; have hcz19_3 : w13.cell? ⟨gb205, 3, none⟩ = some (.bool a0_3) := (aD BK205.out 3).trans rfl; have hfz19_0 := aA BK205.out 0; have hfz19_1 := aA BK205.out 1; have hfz19_2 := aA BK205.out 2; have hfz19_3 := aA BK205.out 3) | ((with_reducible refine aX (f := 18) rfl ?_); refine bM (some 10) rfl rfl Try.func18 (by kernel_rfl) rfl #[.agg #[.slice A0_0 l0_0.length c0_0, .slice A0_1 l0_1.length c0_1, .int .i64 a0_2, .bool a0_3]] rfl (by (try simp only [List.map_toArray, List.map_cons, List.map_nil]); first | done | rfl | (simp only [List.length_drop, List.length_take]; rfl)) ?_; (with_reducible refine (spec_DevOk.calls k _ _ l0_0 _ _ l0_1 a0_2 a0_3 true _ ?side1 ?side2 ?side3 ?side4 A4.out).mono ?_); (case side1 => exact Kd.bG HR0_0.out (by repeat (first | (with_reducible first | exact HB.out | apply aJ | apply aE | apply aH | refine aG ?_ GE205.out | refine aG ?_ GE206.out | refine aG ?_ GE215.out) | exact HB.out))); (case side2 => exact HC0_0.out); (case side3 => exact Kd.bG HR0_1.out (by repeat (first | (with_reducible first | exact HB.out | apply aJ | apply aE | apply aH | refine aG ?_ GE205.out | refine aG ?_ GE206.out | refine aG ?_ GE215.out) | exact HB.out))); (case side4 => exact HC0_1.out); rintro e w20 ⟨rfl, hb⟩; refine ⟨_, rfl, ?_⟩; have n0_ := aC.mk (Kd.N_below (by (with_reducible repeat (first | apply Kd.N_alloc | apply Kd.N_drewN | apply Kd.N_drew)); exact (Kd.N_mono (Kd.N_far (p := ⟨gb215, 3, none⟩) (Kd.N_far (p := ⟨gb215, 2, none⟩) (Kd.N_far (p := ⟨gb215, 1, none⟩) (Kd.N_far (p := ⟨gb215, 0, none⟩) (Kd.N_mono HO209.out (fun k_ hk => (⟨hk, hk.2⟩ : _ ∧ k_ ≠ gb215))) (fun _ hk => hk.2) (.slice Ao14 t207.length co14)) (fun _ hk => hk.2) (.slice Ao18 t210.length co18)) (fun _ hk => hk.2) (.int .i64 t213)) (fun _ hk => hk.2) (.bool t214)) (fun _ h_ => h_.1))) hb); have n1_ := aC.mk (Kd.N_below (by (with_reducible repeat (first | apply Kd.N_alloc | apply Kd.N_drewN | apply Kd.N_drew)); exact (Kd.N_mono (Kd.N_far (p := ⟨gb215, 3, none⟩) (Kd.N_far (p := ⟨gb215, 2, none⟩) (Kd.N_far (p := ⟨gb215, 1, none⟩) (Kd.N_far (p := ⟨gb215, 0, none⟩) (Kd.N_mono HO212.out (fun k_ hk => (⟨hk, hk.2⟩ : _ ∧ k_ ≠ gb215))) (fun _ hk => hk.2) (.slice Ao14 t207.length co14)) (fun _ hk => hk.2) (.slice Ao18 t210.length co18)) (fun _ hk => hk.2) (.int .i64 t213)) (fun _ hk => hk.2) (.bool t214)) (fun _ h_ => h_.1))) hb); have n2_ := aC.mk (aT (g := gb205) (o := .cells #[.slice A0_0 l0_0.length c0_0, .slice A0_1 l0_1.length c0_1, .int .i64 a0_2, .bool a0_3] 25 (0, 0)) (by (with_reducible repeat (first | refine aN ?_ _ | refine aQ ?_ | refine aM ?_ _)); refine blk_far ?_ NB205_215.out _; (with_reducible repeat (first | refine aN ?_ _ | refine aQ ?_ | refine aM ?_ _)); refine blk_far ?_ NB205_215.out _; (with_reducible repeat (first | refine aN ?_ _ | refine aQ ?_ | refine aM ?_ _)); refine blk_far ?_ NB205_215.out _; (with_reducible repeat (first | refine aN ?_ _ | refine aQ ?_ | refine aM ?_ _)); refine blk_far ?_ NB205_215.out _; (with_reducible repeat (first | refine aN ?_ _ | refine aQ ?_ | refine aM ?_ _)); exact BK205.out) hb); have n3_ := aC.mk (aT (g := gb206) (o := .cells #[.slice none 0 0, .slice none 0 0, .int .i64 0, .bool false] 25 (0, 0)) (by (with_reducible repeat (first | refine aN ?_ _ | refine aQ ?_ | refine aM ?_ _)); refine blk_far ?_ NB206_215.out _; (with_reducible repeat (first | refine aN ?_ _ | refine aQ ?_ | refine aM ?_ _)); refine blk_far ?_ NB206_215.out _; (with_reducible repeat (first | refine aN ?_ _ | refine aQ ?_ | refine aM ?_ _)); refine blk_far ?_ NB206_215.out _; (with_reducible repeat (first | refine aN ?_ _ | refine aQ ?_ | refine aM ?_ _)); refine blk_far ?_ NB206_215.out _; (with_reducible repeat (first | refine aN ?_ _ | refine aQ ?_ | refine aM ?_ _)); exact BK206.out) hb); have n4_ := aC.mk (aT (g := gb215) (o := .cells #[.slice Ao14 t207.length co14, .slice Ao18 t210.length co18, .int .i64 t213, .bool t214] 25 (0, 0)) (by (with_reducible repeat (first | refine aN ?_ _ | refine aQ ?_ | refine aM ?_ _)); refine aZ (cs := #[.slice Ao14 t207.length co14, .slice Ao18 t210.length co18, .int .i64 t213, .bool false]) ?_ 3 _ rfl; (with_reducible repeat (first | refine aN ?_ _ | refine aQ ?_ | refine aM ?_ _)); refine aZ (cs := #[.slice Ao14 t207.length co14, .slice Ao18 t210.length co18, .int .i64 0, .bool false]) ?_ 2 _ rfl; (with_reducible repeat (first | refine aN ?_ _ | refine aQ ?_ | refine aM ?_ _)); refine aZ (cs := #[.slice Ao14 t207.length co14, .slice none 0 0, .int .i64 0, .bool false]) ?_ 1 _ rfl; (with_reducible repeat (first | refine aN ?_ _ | refine aQ ?_ | refine aM ?_ _)); refine aZ (cs := #[.slice none 0 0, .slice none 0 0, .int .i64 0, .bool false]) ?_ 0 _ rfl; (with_reducible repeat (first | refine aN ?_ _ | refine aQ ?_ | refine aM ?_ _)); exact BK215.out) hb); have n5_ := aC.mk (aU (by repeat (first | (with_reducible first | exact HB.out | apply aJ | apply aE | apply aH | refine aG ?_ GE205.out | refine aG ?_ GE206.out | refine aG ?_ GE215.out) | exact HB.out)) hb); clear HO209; clear HO212; clear BK205; clear BK206; clear BK215; clear HB; have HO209 := n0_; have HO212 := n1_; have BK205 := n2_; have BK206 := n3_; have BK215 := n4_; have HB := n5_; clear n0_ n1_ n2_ n3_ n4_ n5_; (try clear hb); (try clear hk)) | ((with_reducible refine aX (f := 43) rfl ?_); refine bM (some 14) rfl rfl Try.func43 (by kernel_rfl) rfl #[.int .i64 a1, .int .i64 0, .int .i64 1073741823] rfl (by (try simp only [List.map_toArray, List.map_cons, List.map_nil]); first | done | rfl | (simp only [List.length_drop, List.length_take]; rfl)) ?_; (with_reducible refine (spec_l1In.calls a1 0 1073741823 t217 _ A6.out).mono ?_); rintro e w' ⟨rfl, ⟨nd, rfl⟩⟩; refine ⟨_, rfl, ?_⟩))
  (try simp only [Act.put, lA, lB, lC])
  go_cut [1] (fun v1 wc => ∃ (kq : Nat) (x1_6 : Int), v1 = .int .i64 x1_6 ∧ aC (spec_FallDev.j0 kq x1_6 t207 t210 t213 t214 = some (r1, r2, r3, r4)) ∧ aC (kq ≤ k) ∧ aC (Kd.N (Kd.slice 5 (Kd.int .u8)) 37 wc w.heap.size (fun k_ => (w.heap.size ≤ k_) ∧ some k_ ≠ ((.slice Ao18 t210.length co18) : Value).ownBlock ∧ k_ ≠ gb205 ∧ k_ ≠ gb206 ∧ k_ ≠ gb215) (.slice Ao14 t207.length co14) t207) ∧ aC (Kd.N k50 50 wc w.heap.size (fun k_ => (w.heap.size ≤ k_) ∧ some k_ ≠ ((.slice Ao14 t207.length co14) : Value).ownBlock ∧ k_ ≠ gb205 ∧ k_ ≠ gb206 ∧ k_ ≠ gb215) (.slice Ao18 t210.length co18) t210) ∧ aC (wc.heap[gb205]? = some (.cells #[(.slice A0_0 l0_0.length c0_0), (.slice A0_1 l0_1.length c0_1), .int .i64 a0_2, .bool a0_3] 25 (0, 0))) ∧ aC (wc.heap[gb206]? = some (.cells #[(.slice none 0 0), (.slice none 0 0), .int .i64 0, .bool false] 25 (0, 0))) ∧ aC (wc.heap[gb215]? = some (.cells #[(.slice Ao14 t207.length co14), (.slice Ao18 t210.length co18), .int .i64 t213, .bool t214] 25 (0, 0))) ∧ aC (Below w.heap.size w wc))
  case first =>
   have H := HC7.out
   clear HC7
   by_cases c21 : t217 = true
   ·subst c21
    have H1 : (spec_FallDev.j0 k a1 t207 t210 t213 t214) = some (r1, r2, r3, r4) := by rw [if_pos rfl] at H; exact H
    clear H
    have H := H1
    clear H1
    have H' := aC.mk H
    clear H
    go_wp2
    go_meet
    case rel => exact ⟨_, (a1), (by first | rfl | (simp; done) | (simp [*]; done)), H', ⟨by first | omega | exact Nat.le_refl _⟩, ⟨by (with_reducible repeat (first | apply Kd.N_alloc | apply Kd.N_drewN | apply Kd.N_drew)); exact Kd.N_mono HO209.out (fun _ hk => ⟨hk.1.1, ⟨hk.1.2.1, ⟨hk.1.2.2.1, ⟨hk.1.2.2.2, hk.2⟩⟩⟩⟩)⟩, ⟨by (with_reducible repeat (first | apply Kd.N_alloc | apply Kd.N_drewN | apply Kd.N_drew)); exact Kd.N_mono HO212.out (fun _ hk => ⟨hk.1.1, ⟨hk.1.2.1, ⟨hk.1.2.2.1, ⟨hk.1.2.2.2, hk.2⟩⟩⟩⟩)⟩, ⟨by (with_reducible repeat (first | refine aN ?_ _ | refine aQ ?_ | refine aM ?_ _)); exact BK205.out⟩, ⟨by (with_reducible repeat (first | refine aN ?_ _ | refine aQ ?_ | refine aM ?_ _)); exact BK206.out⟩, ⟨by (with_reducible repeat (first | refine aN ?_ _ | refine aQ ?_ | refine aM ?_ _)); exact BK215.out⟩, ⟨by repeat (first | (with_reducible first | exact HB.out | apply aJ | apply aE | apply aH | refine aG ?_ GE205.out | refine aG ?_ GE206.out | refine aG ?_ GE215.out) | exact HB.out)⟩⟩
   ·replace c21 := Bool.eq_false_iff.mpr c21
    subst c21
    have H1 : (spec_FallDev.j0 k 0 t207 t210 t213 t214) = some (r1, r2, r3, r4) := by rw [if_neg (show ¬ (false = true) by decide)] at H; exact H
    clear H
    have H := H1
    clear H1
    have H' := aC.mk H
    clear H
    go_wp2
    go_meet
    case rel => exact ⟨_, (0), (by first | rfl | (simp; done) | (simp [*]; done)), H', ⟨by first | omega | exact Nat.le_refl _⟩, ⟨by (with_reducible repeat (first | apply Kd.N_alloc | apply Kd.N_drewN | apply Kd.N_drew)); exact Kd.N_mono HO209.out (fun _ hk => ⟨hk.1.1, ⟨hk.1.2.1, ⟨hk.1.2.2.1, ⟨hk.1.2.2.2, hk.2⟩⟩⟩⟩)⟩, ⟨by (with_reducible repeat (first | apply Kd.N_alloc | apply Kd.N_drewN | apply Kd.N_drew)); exact Kd.N_mono HO212.out (fun _ hk => ⟨hk.1.1, ⟨hk.1.2.1, ⟨hk.1.2.2.1, ⟨hk.1.2.2.2, hk.2⟩⟩⟩⟩)⟩, ⟨by (with_reducible repeat (first | refine aN ?_ _ | refine aQ ?_ | refine aM ?_ _)); exact BK205.out⟩, ⟨by (with_reducible repeat (first | refine aN ?_ _ | refine aQ ?_ | refine aM ?_ _)); exact BK206.out⟩, ⟨by (with_reducible repeat (first | refine aN ?_ _ | refine aQ ?_ | refine aM ?_ _)); exact BK215.out⟩, ⟨by repeat (first | (with_reducible first | exact HB.out | apply aJ | apply aE | apply aH | refine aG ?_ GE205.out | refine aG ?_ GE206.out | refine aG ?_ GE215.out) | exact HB.out)⟩⟩
  case rest =>
   clear HC7
   try clear c1
   try clear c2
   try clear p2
   try clear c3
   try clear c4
   try clear c5
   try clear c10
   try clear c15
   try clear c16
   try clear c18
   try clear c21
   try clear hcz11_0
   try clear hcz11_1
   try clear hcz11_2
   try clear hcz11_3
   try clear hcz17_0
   try clear hcz17_1
   try clear hcz17_2
   try clear hcz17_3
   try clear hcz19_0
   try clear hcz19_1
   try clear hcz19_2
   try clear hcz19_3
   try clear hfz11_0
   try clear hfz11_1
   try clear hfz11_2
   try clear hfz11_3
   try clear hfz17_0
   try clear hfz17_1
   try clear hfz17_2
   try clear hfz17_3
   try clear hfz19_0
   try clear hfz19_1
   try clear hfz19_2
   try clear hfz19_3
   obtain ⟨kq, x1_6, rfl, HA, HJ6, HO_216000, HO_216001, BK205, BK206, BK215, HB⟩ := hcut
   cases kq with
   | zero => exact absurd HA.out (by simp [spec_FallDev.j0])
   | succ kj6 =>
    have H := HA.out
    clear HA
    simp only [spec_FallDev.j0] at H
    have H' := aC.mk H
    clear H
    go_wp2
    go_loopg [6] kj6 (fun kq v6 w' => ∃ (x6_2 : Int) (x216000_2 : List (List Int)) (u216000 : Value), v6 = .int .i64 x6_2 ∧ aC (spec_FallDev.l0 kq x1_6 x6_2 x216000_2 t210 t213 t214 = some (r1, r2, r3, r4)) ∧ aC (kq ≤ kj6) ∧ aC (Kd.N (Kd.slice 5 (Kd.int .u8)) 37 w' w.heap.size (fun k_ => (w.heap.size ≤ k_) ∧ some k_ ≠ ((.slice Ao18 t210.length co18) : Value).ownBlock ∧ k_ ≠ gb205 ∧ k_ ≠ gb206 ∧ k_ ≠ gb215) u216000 x216000_2) ∧ aC (Kd.N k50 50 w' w.heap.size (fun k_ => (w.heap.size ≤ k_) ∧ some k_ ≠ (u216000 : Value).ownBlock ∧ k_ ≠ gb205 ∧ k_ ≠ gb206 ∧ k_ ≠ gb215) (.slice Ao18 t210.length co18) t210) ∧ aC (w'.heap[gb205]? = some (.cells #[(.slice A0_0 l0_0.length c0_0), (.slice A0_1 l0_1.length c0_1), .int .i64 a0_2, .bool a0_3] 25 (0, 0))) ∧ aC (w'.heap[gb206]? = some (.cells #[(.slice none 0 0), (.slice none 0 0), .int .i64 0, .bool false] 25 (0, 0))) ∧ aC (w'.heap[gb215]? = some (.cells #[u216000, (.slice Ao18 t210.length co18), .int .i64 t213, .bool t214] 25 (0, 0))) ∧ aC (Below w.heap.size w w'))
    case atStart => exact ⟨(0), (t207), (.slice Ao14 t207.length co14), (by first | rfl | (simp; done) | (simp [*]; done)), H', ⟨Nat.le_refl _⟩, ⟨by (with_reducible repeat (first | apply Kd.N_alloc | apply Kd.N_drewN | apply Kd.N_drew)); exact HO_216000.out⟩, ⟨by (with_reducible repeat (first | apply Kd.N_alloc | apply Kd.N_drewN | apply Kd.N_drew)); exact HO_216001.out⟩, ⟨by (with_reducible repeat (first | refine aN ?_ _ | refine aQ ?_ | refine aM ?_ _)); exact BK205.out⟩, ⟨by (with_reducible repeat (first | refine aN ?_ _ | refine aQ ?_ | refine aM ?_ _)); exact BK206.out⟩, ⟨by (with_reducible repeat (first | refine aN ?_ _ | refine aQ ?_ | refine aM ?_ _)); exact BK215.out⟩, ⟨by repeat (first | (with_reducible first | exact HB.out | apply aJ | apply aE | apply aH | refine aG ?_ GE205.out | refine aG ?_ GE206.out | refine aG ?_ GE215.out) | exact HB.out)⟩⟩
    case round =>
     clear H'
     try clear c1
     try clear c2
     try clear p2
     try clear c3
     try clear c4
     try clear c5
     try clear c10
     try clear c15
     try clear c16
     try clear c18
     try clear c21
     try clear hcz11_0
     try clear hcz11_1
     try clear hcz11_2
     try clear hcz11_3
     try clear hcz17_0
     try clear hcz17_1
     try clear hcz17_2
     try clear hcz17_3
     try clear hcz19_0
     try clear hcz19_1
     try clear hcz19_2
     try clear hcz19_3
     try clear hfz11_0
     try clear hfz11_1
     try clear hfz11_2
     try clear hfz11_3
     try clear hfz17_0
     try clear hfz17_1
     try clear hfz17_2
     try clear hfz17_3
     try clear hfz19_0
     try clear hfz19_1
     try clear hfz19_2
     try clear hfz19_3
     try clear p2
     obtain ⟨x6_2, x216000_2, u216000, rfl, HA, HK2, HO_216000, HO_216001, BK205, BK206, BK215, HB⟩ := hrel
     cases gk with
     | zero => exact absurd HA.out (by simp [spec_FallDev.l0])
     | succ k2 =>
      have H := HA.out
      clear HA
      simp only [spec_FallDev.l0] at H
      have HC22 := aC.mk H
      clear H
      go_upto_region 7 with (fail)
      go_cut [24] (fun v24 wc => ∃ (kq : Nat) (x24_21 : Bool), v24 = .bool x24_21 ∧ aC (spec_FallDev.j2 kq x1_6 x6_2 x24_21 x216000_2 t210 t213 t214 = some (r1, r2, r3, r4)) ∧ aC (kq ≤ k2) ∧ aC (Kd.N (Kd.slice 5 (Kd.int .u8)) 37 wc w.heap.size (fun k_ => (w.heap.size ≤ k_) ∧ some k_ ≠ ((.slice Ao18 t210.length co18) : Value).ownBlock ∧ k_ ≠ gb205 ∧ k_ ≠ gb206 ∧ k_ ≠ gb215) u216000 x216000_2) ∧ aC (Kd.N k50 50 wc w.heap.size (fun k_ => (w.heap.size ≤ k_) ∧ some k_ ≠ (u216000 : Value).ownBlock ∧ k_ ≠ gb205 ∧ k_ ≠ gb206 ∧ k_ ≠ gb215) (.slice Ao18 t210.length co18) t210) ∧ aC (wc.heap[gb205]? = some (.cells #[(.slice A0_0 l0_0.length c0_0), (.slice A0_1 l0_1.length c0_1), .int .i64 a0_2, .bool a0_3] 25 (0, 0))) ∧ aC (wc.heap[gb206]? = some (.cells #[(.slice none 0 0), (.slice none 0 0), .int .i64 0, .bool false] 25 (0, 0))) ∧ aC (wc.heap[gb215]? = some (.cells #[u216000, (.slice Ao18 t210.length co18), .int .i64 t213, .bool t214] 25 (0, 0))) ∧ aC (Below w.heap.size w wc))
      case first =>
       have H := HC22.out
       clear HC22
       by_cases c23 : x6_2 < (t210.length : Int)
       ·rw [if_pos c23] at H
        have c23b0 : decide (x6_2 < (t210.length : Int)) = true := decide_eq_true c23
        clear c23
        (first | rw [c23b0] | (simp only [bF, bE]; rw [c23b0]) | skip)
        have H' := aC.mk H
        clear H
        have hnb24 := NB215_205.out
        have hnc24 := NB205_215.out
        have hnb25 := NB215_206.out
        have hnc25 := NB206_215.out
        have hcz26_0 : wr.cell? ⟨gb215, 0, none⟩ = some (u216000) := (aD BK215.out 0).trans rfl
        have hcz26_1 : wr.cell? ⟨gb215, 1, none⟩ = some (.slice Ao18 t210.length co18) := (aD BK215.out 1).trans rfl
        have hcz26_2 : wr.cell? ⟨gb215, 2, none⟩ = some (.int .i64 t213) := (aD BK215.out 2).trans rfl
        have hcz26_3 : wr.cell? ⟨gb215, 3, none⟩ = some (.bool t214) := (aD BK215.out 3).trans rfl
        have hfz26_0 := aA BK215.out 0
        have hfz26_1 := aA BK215.out 1
        have hfz26_2 := aA BK215.out 2
        have hfz26_3 := aA BK215.out 3
        go_wp2
        go_meet
        case rel => exact ⟨_, (decide (x6_2 < 30)), (by first | rfl | (simp; done) | (simp [*]; done)), H', ⟨by have := HJ6.out; have := HK2.out; first | omega | exact Nat.le_refl _⟩, ⟨by (with_reducible repeat (first | apply Kd.N_alloc | apply Kd.N_drewN | apply Kd.N_drew)); exact HO_216000.out⟩, ⟨by (with_reducible repeat (first | apply Kd.N_alloc | apply Kd.N_drewN | apply Kd.N_drew)); exact HO_216001.out⟩, ⟨by (with_reducible repeat (first | refine aN ?_ _ | refine aQ ?_ | refine aM ?_ _)); exact BK205.out⟩, ⟨by (with_reducible repeat (first | refine aN ?_ _ | refine aQ ?_ | refine aM ?_ _)); exact BK206.out⟩, ⟨by (with_reducible repeat (first | refine aN ?_ _ | refine aQ ?_ | refine aM ?_ _)); exact BK215.out⟩, ⟨by repeat (first | (with_reducible first | exact HB.out | apply aJ | apply aE | apply aH | refine aG ?_ GE205.out | refine aG ?_ GE206.out | refine aG ?_ GE215.out) | exact HB.out)⟩⟩
       ·rw [if_neg c23] at H
        have c23b0 : decide (x6_2 < (t210.length : Int)) = false := decide_eq_false c23
        clear c23
        (first | rw [c23b0] | (simp only [bF, bE]; rw [c23b0]) | skip)
        have H' := aC.mk H
        clear H
        have hnb27 := NB215_205.out
        have hnc27 := NB205_215.out
        have hnb28 := NB215_206.out
        have hnc28 := NB206_215.out
        have hcz29_0 : wr.cell? ⟨gb215, 0, none⟩ = some (u216000) := (aD BK215.out 0).trans rfl
        have hcz29_1 : wr.cell? ⟨gb215, 1, none⟩ = some (.slice Ao18 t210.length co18) := (aD BK215.out 1).trans rfl
        have hcz29_2 : wr.cell? ⟨gb215, 2, none⟩ = some (.int .i64 t213) := (aD BK215.out 2).trans rfl
        have hcz29_3 : wr.cell? ⟨gb215, 3, none⟩ = some (.bool t214) := (aD BK215.out 3).trans rfl
        have hfz29_0 := aA BK215.out 0
        have hfz29_1 := aA BK215.out 1
        have hfz29_2 := aA BK215.out 2
        have hfz29_3 := aA BK215.out 3
        go_wp2
        go_meet
        case rel => exact ⟨_, (false), (by first | rfl | (simp; done) | (simp [*]; done)), H', ⟨by have := HJ6.out; have := HK2.out; first | omega | exact Nat.le_refl _⟩, ⟨by (with_reducible repeat (first | apply Kd.N_alloc | apply Kd.N_drewN | apply Kd.N_drew)); exact HO_216000.out⟩, ⟨by (with_reducible repeat (first | apply Kd.N_alloc | apply Kd.N_drewN | apply Kd.N_drew)); exact HO_216001.out⟩, ⟨by (with_reducible repeat (first | refine aN ?_ _ | refine aQ ?_ | refine aM ?_ _)); exact BK205.out⟩, ⟨by (with_reducible repeat (first | refine aN ?_ _ | refine aQ ?_ | refine aM ?_ _)); exact BK206.out⟩, ⟨by (with_reducible repeat (first | refine aN ?_ _ | refine aQ ?_ | refine aM ?_ _)); exact BK215.out⟩, ⟨by repeat (first | (with_reducible first | exact HB.out | apply aJ | apply aE | apply aH | refine aG ?_ GE205.out | refine aG ?_ GE206.out | refine aG ?_ GE215.out) | exact HB.out)⟩⟩
      case rest =>
       clear HC22
       try clear c1
       try clear c2
       try clear p2
       try clear c3
       try clear c4
       try clear c5
       try clear c10
       try clear c15
       try clear c16
       try clear c18
       try clear c21
       try clear c23
       try clear c23b0
       try clear c24
       try clear c25
       try clear c27
       try clear c28
       try clear hcz11_0
       try clear hcz11_1
       try clear hcz11_2
       try clear hcz11_3
       try clear hcz17_0
       try clear hcz17_1
       try clear hcz17_2
       try clear hcz17_3
       try clear hcz19_0
       try clear hcz19_1
       try clear hcz19_2
       try clear hcz19_3
       try clear hcz26_0
       try clear hcz26_1
       try clear hcz26_2
       try clear hcz26_3
       try clear hcz29_0
       try clear hcz29_1
       try clear hcz29_2
       try clear hcz29_3
       try clear hfz11_0
       try clear hfz11_1
       try clear hfz11_2
       try clear hfz11_3
       try clear hfz17_0
       try clear hfz17_1
       try clear hfz17_2
       try clear hfz17_3
       try clear hfz19_0
       try clear hfz19_1
       try clear hfz19_2
       try clear hfz19_3
       try clear hfz26_0
       try clear hfz26_1
       try clear hfz26_2
       try clear hfz26_3
       try clear hfz29_0
       try clear hfz29_1
       try clear hfz29_2
       try clear hfz29_3
       try clear p2
       obtain ⟨kq, x24_21, rfl, HA, HJ21, HO_216000, HO_216001, BK205, BK206, BK215, HB⟩ := hcut
       cases kq with
       | zero => exact absurd HA.out (by simp [spec_FallDev.j2])
       | succ kj21 =>
        have H := HA.out
        clear HA
        simp only [spec_FallDev.j2] at H
        by_cases c30 : x24_21 = true
        ·subst c30
         have H1 : (if 0 ≤ (IntKind.u64.wrap (x6_2)) then (if (Go.bits .and .i64 (shr .i64 x1_6 (IntKind.u64.wrap (x6_2))) 1) = 1 then (if 0 ≤ x6_2 then (if x6_2 < (t210.length : Int) then (if 0 ≤ ((rd_T50 t210 x6_2).f0) then (if ((rd_T50 t210 x6_2).f0) < (x216000_2.length : Int) then (spec_FallDev.l0 kj21 x1_6 (wrap64 (x6_2 + 1)) (x216000_2.set (((rd_T50 t210 x6_2).f0) : Int).toNat ((rd_T50 t210 x6_2).f1)) t210 t213 t214) else (none)) else (none)) else (none)) else (none)) else (spec_FallDev.l0 kj21 x1_6 (wrap64 (x6_2 + 1)) x216000_2 t210 t213 t214)) else (none)) = some (r1, r2, r3, r4) := by rw [if_pos rfl] at H; exact H
         clear H
         have H := H1
         clear H1
         obtain ⟨ji31, hji31⟩ : ∃ j_ : Int, (IntKind.u64.wrap (x6_2)) = j_ := ⟨_, rfl⟩
         replace H : (if 0 ≤ (ji31) then (if (Go.bits .and .i64 (shr .i64 x1_6 (ji31)) 1) = 1 then (if 0 ≤ x6_2 then (if x6_2 < (t210.length : Int) then (if 0 ≤ ((rd_T50 t210 x6_2).f0) then (if ((rd_T50 t210 x6_2).f0) < (x216000_2.length : Int) then (spec_FallDev.l0 kj21 x1_6 (wrap64 (x6_2 + 1)) (x216000_2.set (((rd_T50 t210 x6_2).f0) : Int).toNat ((rd_T50 t210 x6_2).f1)) t210 t213 t214) else (none)) else (none)) else (none)) else (none)) else (spec_FallDev.l0 kj21 x1_6 (wrap64 (x6_2 + 1)) x216000_2 t210 t213 t214)) else (none)) = some (r1, r2, r3, r4) := by first | (rw [hji31] at H; exact H) | (simp only [hji31] at H ⊢; exact H)
         by_cases c32 : 0 ≤ (ji31)
         ·rw [if_pos c32] at H
          have c32b0 := eq_true c32
          have c32b1 : decide (0 ≤ (ji31)) = true := decide_eq_true c32
          clear c32
          obtain ⟨ji33, hji33⟩ : ∃ j_ : Int, (shr .i64 x1_6 (ji31)) = j_ := ⟨_, rfl⟩
          replace H : (if (Go.bits .and .i64 (ji33) 1) = 1 then (if 0 ≤ x6_2 then (if x6_2 < (t210.length : Int) then (if 0 ≤ ((rd_T50 t210 x6_2).f0) then (if ((rd_T50 t210 x6_2).f0) < (x216000_2.length : Int) then (spec_FallDev.l0 kj21 x1_6 (wrap64 (x6_2 + 1)) (x216000_2.set (((rd_T50 t210 x6_2).f0) : Int).toNat ((rd_T50 t210 x6_2).f1)) t210 t213 t214) else (none)) else (none)) else (none)) else (none)) else (spec_FallDev.l0 kj21 x1_6 (wrap64 (x6_2 + 1)) x216000_2 t210 t213 t214)) = some (r1, r2, r3, r4) := by first | (rw [hji33] at H; exact H) | (simp only [hji33] at H ⊢; exact H)
          have hji33_ : (x1_6 / 2 ^ min (ji31).toNat 64) = ji33 := hji33
          have hji33z : (ji31) ≤ 64 → (x1_6 / 2 ^ (ji31).toNat) = ji33 := shr_small hji33
          by_cases c34 : (Go.bits .and .i64 (ji33) 1) = 1
          ·rw [if_pos c34] at H
           have c34b0 : ((Go.bits .and .i64 (ji33) 1) == 1) = true := beq_iff_eq.mpr c34
           have c34b1 : ((Go.bits .and .i64 (ji33) 1) != 1) = false := bne_eq_false_iff_eq.mpr c34
           clear c34
           by_cases c35 : 0 ≤ x6_2
           ·rw [if_pos c35] at H
            have c35b0 : decide (0 ≤ x6_2) = true := decide_eq_true c35
            clear c35
            by_cases c36 : x6_2 < (t210.length : Int)
            ·rw [if_pos c36] at H
             have c36b0 : decide (x6_2 < (t210.length : Int)) = true := decide_eq_true c36
             clear c36
             by_cases c37 : 0 ≤ ((rd_T50 t210 x6_2).f0)
             ·rw [if_pos c37] at H
              have c37b0 : decide (0 ≤ ((rd_T50 t210 x6_2).f0)) = true := decide_eq_true c37
              clear c37
              by_cases c38 : ((rd_T50 t210 x6_2).f0) < (x216000_2.length : Int)
              ·rw [if_pos c38] at H
               have c38b0 : decide (((rd_T50 t210 x6_2).f0) < (x216000_2.length : Int)) = true := decide_eq_true c38
               clear c38
               obtain ⟨y220, hy220⟩ : ∃ y_ : List (List Int), y_ = (x216000_2.set (((rd_T50 t210 x6_2).f0) : Int).toNat ((rd_T50 t210 x6_2).f1)) := ⟨_, rfl⟩
               replace H : (spec_FallDev.l0 kj21 x1_6 (wrap64 (x6_2 + 1)) y220 t210 t213 t214) = some (r1, r2, r3, r4) := by first | (rw [hy220]; with_reducible exact H) | (have H2_ := (Option.bind_some _ _).symm.trans H; rw [hy220]; with_reducible exact H2_) | (have H2_ := (Option.bind_some _ _).symm.trans H; with_reducible exact H2_) | with_reducible exact H | (rw [hy220]; exact H) | exact H
               have Ny220 := aC.mk hy220
               clear hy220
               have H' := aC.mk H
               clear H
               try go_wp2
               have n0_ := aC.mk (Kd.N_drew HO_216000.out)
               have n1_ := aC.mk (Kd.N_drew HO_216001.out)
               have n2_ := aC.mk (aQ BK205.out)
               have n3_ := aC.mk (aQ BK206.out)
               have n4_ := aC.mk (aQ BK215.out)
               have n5_ := aC.mk (aH HB.out)
               clear HO_216000
               clear HO_216001
               clear BK205
               clear BK206
               clear BK215
               clear HB
               have HO_216000 := n0_
               have HO_216001 := n1_
               have BK205 := n2_
               have BK206 := n3_
               have BK215 := n4_
               have HB := n5_
               clear n0_ n1_ n2_ n3_ n4_ n5_
               have p218 : 0 ≤ (x6_2 : Int) := lE (by first | (with_reducible assumption) | assumption)
               have q218 : x6_2 < (t210.length : Int) := lE (by first | (with_reducible assumption) | assumption)
               obtain ⟨ad218, A218_1, c218_1, e218, hx218_0, hx218_1, hl218_1, hi218_1⟩ := at_T50 (Kd.N_reads' HO_216001.out).2.2 x6_2 p218 q218
               cases e218
               obtain ⟨ce218, hce218, hMe218, hcc218⟩ := Kd.N_get HO_216001.out z50 x6_2 p218 (by first | exact q218 | exact lE (by first | (with_reducible assumption) | assumption) | (have e_ := (Kd.N_reads' HO_216001.out).1; omega))
               obtain ⟨ua218_1, uc218_1, rfl, ul218_1, ge218_1⟩ := k50_openF hMe218
               have hv218_1 := hcc218 1 _ rfl
               rw [add_field _ _ 1 (by omega)] at hv218_1
               replace hv218_1 := Option.some.inj (hv218_1.symm.trans hx218_1)
               injection hv218_1 with hva_ hvn_ hvc_
               rw [hva_] at ge218_1
               rw [hvc_] at ul218_1
               have HL218_1 := aC.mk (show Kd.V (Kd.int .u8) 5 _ w.heap.size _ _ ((rd_T50 t210 x6_2).f1) from Kd.V_mk ul218_1 ge218_1)
               clear hva_ hvn_ hvc_ ge218_1 ul218_1
               clear hcc218 hce218
               have HR218_1 := aC.mk hi218_1
               have HC218_1 := aC.mk hl218_1
               clear hi218_1 hl218_1
               replace p218 := eq_true p218
               replace q218 := eq_true q218
               have p219 : 0 ≤ (x6_2 : Int) := lE (by first | (with_reducible assumption) | assumption)
               have q219 : x6_2 < (t210.length : Int) := lE (by first | (with_reducible assumption) | assumption)
               obtain ⟨ad219, A219_1, c219_1, e219, hx219_0, hx219_1, hl219_1, hi219_1⟩ := at_T50 (Kd.N_reads' HO_216001.out).2.2 x6_2 p219 q219
               obtain rfl : ad218 = ad219 := (by injection e219)
               obtain ⟨ce219, hce219, hMe219, hcc219⟩ := Kd.N_get HO_216001.out z50 x6_2 p219 (by first | exact q219 | exact lE (by first | (with_reducible assumption) | assumption) | (have e_ := (Kd.N_reads' HO_216001.out).1; omega))
               obtain ⟨ua219_1, uc219_1, rfl, ul219_1, ge219_1⟩ := k50_openF hMe219
               have hv219_1 := hcc219 1 _ rfl
               rw [add_field _ _ 1 (by omega)] at hv219_1
               replace hv219_1 := Option.some.inj (hv219_1.symm.trans hx219_1)
               injection hv219_1 with hva_ hvn_ hvc_
               rw [hva_] at ge219_1
               rw [hvc_] at ul219_1
               have HL219_1 := aC.mk (show Kd.V (Kd.int .u8) 5 _ w.heap.size _ _ ((rd_T50 t210 x6_2).f1) from Kd.V_mk ul219_1 ge219_1)
               clear hva_ hvn_ hvc_ ge219_1 ul219_1
               clear hcc219 hce219
               have HR219_1 := aC.mk hi219_1
               have HC219_1 := aC.mk hl219_1
               clear hi219_1 hl219_1
               replace p219 := eq_true p219
               replace q219 := eq_true q219
               have ea_ := Option.some.inj (hx218_1.symm.trans hx219_1)
               injection ea_ with ea_ en_ ec_
               subst ea_
               subst ec_
               clear en_
               have p39 : 0 ≤ (((rd_T50 t210 x6_2).f0) : Int) := lE (by first | (with_reducible assumption) | assumption)
               have q39 : (((rd_T50 t210 x6_2).f0) : Int) < ((x216000_2.length : Int) : Int) := lE (by first | (with_reducible assumption) | assumption)
               obtain ⟨go39, co39, eo39, gb39, gl39, cl39, HG39⟩ := Kd.N_form HO_216000.out (by omega)
               (first | cases eo39 | (injection eo39 with ea_ en_ ec_; (first | subst ea_ | (injection ea_ with ea_; subst ea_)); subst ec_; clear en_))
               have GB39 := aC.mk gb39
               have GG39 := aC.mk HG39
               clear gb39 gl39 HG39
               obtain ⟨ce39, hcl39, hM39, hcc39, hfr39⟩ := Kd.N_elem HO_216000.out [] (((rd_T50 t210 x6_2).f0) : Int) p39 q39
               obtain ⟨ua39_0, uc39_0, rfl, ul39_0, ge39_0⟩ := Kd.FK_slice_open hM39
               have hx39_0 := hcc39 0 _ rfl
               have hf39_0 := hfr39 0
               (try simp only [show ((Kd.slice 5 (Kd.int .u8))).sz = 1 from rfl, Nat.mul_one, Nat.add_zero] at hx39_0)
               (try simp only [show ((Kd.slice 5 (Kd.int .u8))).sz = 1 from rfl, Nat.mul_one, Nat.add_zero] at hf39_0)
               clear hcl39 hcc39 hfr39 hM39
               replace p39 := eq_true p39
               replace q39 := eq_true q39
               have HX41 := aC.mk (show Kd.N (Kd.slice 5 (Kd.int .u8)) 37 _ w.heap.size (fun k_ => (w.heap.size ≤ k_) ∧ some k_ ≠ (.slice (some ad218) t210.length co18 : Value).ownBlock ∧ k_ ≠ gb205 ∧ k_ ≠ gb206 ∧ k_ ≠ gb215) (.slice (some ⟨go39, 0, none⟩) x216000_2.length co39) x216000_2 from (Kd.N_mono (HO_216000.out) (fun k_ hk => ⟨hk.1, ⟨hk.2.1, ⟨hk.2.2.1, ⟨hk.2.2.2.1, hk.2.2.2.2⟩⟩⟩⟩)))
               obtain ⟨ce41, hcl41, hM41, hcc41, hfr41⟩ := Kd.N_elem HX41.out [] (((rd_T50 t210 x6_2).f0) : Int) (lE (by first | (with_reducible assumption) | assumption)) (by have h_ : (((rd_T50 t210 x6_2).f0) : Int) < ((x216000_2.length : Int) : Int) := lE (by first | (with_reducible assumption) | assumption); first | exact h_ | (have e_ := (Kd.N_reads' HO_216000.out).1; omega) | simpa using h_)
               obtain ⟨ua41_0, uc41_0, rfl, ul41_0, ge41_0⟩ := Kd.FK_slice_open hM41
               have HP41 := (Kd.N_seg HX41.out (((rd_T50 t210 x6_2).f0) : Int) (lE (by first | (with_reducible assumption) | assumption)) (by have h_ : (((rd_T50 t210 x6_2).f0) : Int) < ((x216000_2.length : Int) : Int) := lE (by first | (with_reducible assumption) | assumption); first | exact h_ | (have e_ := (Kd.N_reads' HO_216000.out).1; omega) | simpa using h_) (seg := [.slice A218_1 ((rd_T50 t210 x6_2).f1).length c218_1]) (j := 0) hcl41 hcc41 (show 1 ≤ 1 from by decide) (x' := (rd_T50 t210 x6_2).f1) (Kd.FK_slice_mk (Kd.V_reads' (Kd.V_mono (ok' := (fun k_ => ((fun k_ => (w.heap.size ≤ k_) ∧ some k_ ≠ (.slice (some ad218) t210.length co18 : Value).ownBlock ∧ k_ ≠ gb205 ∧ k_ ≠ gb206 ∧ k_ ≠ gb215)) k_ ∧ k_ ≠ go39)) (HL219_1.out) (fun k_ hk => ⟨⟨hk.1.1, ⟨hk.2, ⟨hk.1.2.2.1, ⟨hk.1.2.2.2.1, hk.1.2.2.2.2⟩⟩⟩⟩, fun e_ => (hk.1.2.1) (by rw [e_]; rfl)⟩))).2.1 (Kd.V_F (Kd.V_mono (ok' := (fun k_ => ((fun k_ => (w.heap.size ≤ k_) ∧ some k_ ≠ (.slice (some ad218) t210.length co18 : Value).ownBlock ∧ k_ ≠ gb205 ∧ k_ ≠ gb206 ∧ k_ ≠ gb215)) k_ ∧ k_ ≠ go39)) (HL219_1.out) (fun k_ hk => ⟨⟨hk.1.1, ⟨hk.2, ⟨hk.1.2.2.1, ⟨hk.1.2.2.2.1, hk.1.2.2.2.2⟩⟩⟩⟩, fun e_ => (hk.1.2.1) (by rw [e_]; rfl)⟩)))) (fun _ hk => hk)).1
               (try simp only [show ((Kd.slice 5 (Kd.int .u8))).sz = 1 from rfl, Nat.mul_one, Nat.add_zero] at HP41)
               rw [← Ny220.out] at HP41
               have HQ41 := aC.mk HP41
               clear hcl41 hcc41 hfr41 hM41 HP41
               refine start_ (n := 16) (S := fun w' => w'.cell? ⟨gb215, 0, none⟩ = some (.slice (some ⟨go39, 0, none⟩) x216000_2.length co39) ∧ w'.cell? ⟨gb215, 1, none⟩ = some (.slice (some ad218) t210.length co18) ∧ w'.cell? ⟨gb215, 2, none⟩ = some (.int .i64 t213) ∧ w'.cell? ⟨gb215, 3, none⟩ = some (.bool t214) ∧ w'.cell? (ad218.add ((x6_2).toNat * 2)) = some (.int .i64 ((rd_T50 t210 x6_2).f0)) ∧ w'.cell? ⟨(ad218.add ((x6_2).toNat * 2)).block, (ad218.add ((x6_2).toNat * 2)).off + 1, none⟩ = some (.slice A218_1 ((rd_T50 t210 x6_2).f1).length c218_1) ∧ w'.cell? (ad218.add ((x6_2).toNat * 2)) = some (.int .i64 ((rd_T50 t210 x6_2).f0)) ∧ w'.cell? ⟨(ad218.add ((x6_2).toNat * 2)).block, (ad218.add ((x6_2).toNat * 2)).off + 1, none⟩ = some (.slice A218_1 ((rd_T50 t210 x6_2).f1).length c218_1)) (ds := [15]) #[false, false, false, false, false, false, false, false, false, false, false, false, false, false, false, false] (by kernel_rfl) rfl rfl ⟨(aD BK215.out 0).trans rfl, (aD BK215.out 1).trans rfl, (aD BK215.out 2).trans rfl, (aD BK215.out 3).trans rfl, hx218_0, hx218_1, hx219_0, hx219_1⟩ (fun hHeld => ?_); refine with_tabW spec_FallDev.tab10 spec_FallDev.bits10 (fun HT_ HW_ => ?_)
               generalize wc.drew = w40 at HO_216000 HO_216001 BK205 BK206 BK215 HB GG39 HL218_1 HL219_1 HQ41 HR218_1 HR219_1 hf39_0 hx218_0 hx218_1 hx219_0 hx219_1 hx39_0 hHeld ⊢
               refine pure_ (i := 0) (N := some 33) (v := ?_) (a' := ?_) #[true, false, false, false, false, false, false, false, false, false, false, false, false, false, false, false] rfl rfl (any_of HT_.out (by kernel_rfl)) (fun _ _ _ h => h) (Or.inl ⟨by rfl, ?_⟩) ?_ ?_
               rotate_left
               ·intro w'
                go_simp
                with_reducible rfl
               rotate_left
               ·simp only [Act.put, lA, lB, lC, bF, bE]
                rfl
               refine pure_ (i := 2) (N := some 35) (v := ?_) (a' := ?_) #[true, false, true, false, false, false, false, false, false, false, false, false, false, false, false, false] rfl rfl (any_of HT_.out (by kernel_rfl)) (fun _ _ _ h => h) (Or.inl ⟨by rfl, ?_⟩) ?_ ?_
               rotate_left
               ·intro w'
                go_simp
                with_reducible rfl
               rotate_left
               ·simp only [Act.put, lA, lB, lC, bF, bE]
                rfl
               refine pure_ (i := 4) (N := some 37) (v := ?_) (a' := ?_) #[true, false, true, false, true, false, false, false, false, false, false, false, false, false, false, false] rfl rfl (any_of HT_.out (by kernel_rfl)) (fun _ _ _ h => h) (Or.inl ⟨by rfl, ?_⟩) ?_ ?_
               rotate_left
               ·intro w'
                go_simp
                with_reducible rfl
               rotate_left
               ·simp only [Act.put, lA, lB, lC, bF, bE]
                rfl
               refine pure_ (i := 8) (N := some 41) (v := ?_) (a' := ?_) #[true, false, true, false, true, false, false, false, true, false, false, false, false, false, false, false] rfl rfl (any_of HT_.out (by kernel_rfl)) (fun _ _ _ h => h) (Or.inl ⟨by rfl, ?_⟩) ?_ ?_
               rotate_left
               ·intro w'
                go_simp
                with_reducible rfl
               rotate_left
               ·simp only [Act.put, lA, lB, lC, bF, bE]
                rfl
               refine pure_ (i := 10) (N := some 43) (v := ?_) (a' := ?_) #[true, false, true, false, true, false, false, false, true, false, true, false, false, false, false, false] rfl rfl (any_of HT_.out (by kernel_rfl)) (fun _ _ _ h => h) (Or.inl ⟨by rfl, ?_⟩) ?_ ?_
               rotate_left
               ·intro w'
                go_simp
                with_reducible rfl
               rotate_left
               ·simp only [Act.put, lA, lB, lC, bF, bE]
                rfl
               refine take_ (i := 1) (N := some 34) (v := ?_) (a' := ?_) #[true, true, true, false, true, false, false, false, true, false, true, false, false, false, false, false] rfl rfl (take_ofW HT_.out HW_.out (by kernel_rfl)) (fun _ _ _ h => h) (Or.inl ⟨by rfl, ?_⟩) hHeld ?_ ?_
               rotate_left
               ·rintro w' ⟨s0, s1, s2, s3, s4, s5, s6, s7⟩
                go_simp
                with_reducible rfl
               rotate_left
               ·simp only [Act.put, lA, lB, lC, bF, bE]
                rfl
               refine take_ (i := 3) (N := some 36) (v := ?_) (a' := ?_) #[true, true, true, true, true, false, false, false, true, false, true, false, false, false, false, false] rfl rfl (take_ofW HT_.out HW_.out (by kernel_rfl)) (fun _ _ _ h => h) (Or.inl ⟨by rfl, ?_⟩) hHeld ?_ ?_
               rotate_left
               ·rintro w' ⟨s0, s1, s2, s3, s4, s5, s6, s7⟩
                go_simp
                with_reducible rfl
               rotate_left
               ·simp only [Act.put, lA, lB, lC, bF, bE]
                rfl
               refine pure_ (i := 5) (N := some 38) (v := ?_) (a' := ?_) #[true, true, true, true, true, true, false, false, true, false, true, false, false, false, false, false] rfl rfl (any_of HT_.out (by kernel_rfl)) (fun _ _ _ h => h) (Or.inl ⟨by rfl, ?_⟩) ?_ ?_
               rotate_left
               ·intro w'
                go_simp
                with_reducible rfl
               rotate_left
               ·simp only [Act.put, lA, lB, lC, bF, bE]
                rfl
               refine pure_ (i := 6) (N := some 39) (v := ?_) (a' := ?_) #[true, true, true, true, true, true, true, false, true, false, true, false, false, false, false, false] rfl rfl (any_of HT_.out (by kernel_rfl)) (fun _ _ _ h => h) (Or.inl ⟨by rfl, ?_⟩) ?_ ?_
               rotate_left
               ·intro w'
                go_simp
                with_reducible rfl
               rotate_left
               ·simp only [Act.put, lA, lB, lC, bF, bE]
                rfl
               refine take_ (i := 7) (N := some 40) (v := ?_) (a' := ?_) #[true, true, true, true, true, true, true, true, true, false, true, false, false, false, false, false] rfl rfl (take_ofW HT_.out HW_.out (by kernel_rfl)) (fun _ _ _ h => h) (Or.inl ⟨by rfl, ?_⟩) hHeld ?_ ?_
               rotate_left
               ·rintro w' ⟨s0, s1, s2, s3, s4, s5, s6, s7⟩
                go_simp
                with_reducible rfl
               rotate_left
               ·simp only [Act.put, lA, lB, lC, bF, bE]
                rfl
               refine take_ (i := 9) (N := some 42) (v := ?_) (a' := ?_) #[true, true, true, true, true, true, true, true, true, true, true, false, false, false, false, false] rfl rfl (take_ofW HT_.out HW_.out (by kernel_rfl)) (fun _ _ _ h => h) (Or.inl ⟨by rfl, ?_⟩) hHeld ?_ ?_
               rotate_left
               ·rintro w' ⟨s0, s1, s2, s3, s4, s5, s6, s7⟩
                go_simp
                with_reducible rfl
               rotate_left
               ·simp only [Act.put, lA, lB, lC, bF, bE]
                rfl
               refine pure_ (i := 11) (N := some 44) (v := ?_) (a' := ?_) #[true, true, true, true, true, true, true, true, true, true, true, true, false, false, false, false] rfl rfl (any_of HT_.out (by kernel_rfl)) (fun _ _ _ h => h) (Or.inl ⟨by rfl, ?_⟩) ?_ ?_
               rotate_left
               ·intro w'
                go_simp
                with_reducible rfl
               rotate_left
               ·simp only [Act.put, lA, lB, lC, bF, bE]
                rfl
               refine pure_ (i := 12) (N := some 45) (v := ?_) (a' := ?_) #[true, true, true, true, true, true, true, true, true, true, true, true, true, false, false, false] rfl rfl (any_of HT_.out (by kernel_rfl)) (fun _ _ _ h => h) (Or.inl ⟨by rfl, ?_⟩) ?_ ?_
               rotate_left
               ·intro w'
                go_simp
                with_reducible rfl
               rotate_left
               ·simp only [Act.put, lA, lB, lC, bF, bE]
                rfl
               refine take_ (i := 13) (N := some 46) (v := ?_) (a' := ?_) #[true, true, true, true, true, true, true, true, true, true, true, true, true, true, false, false] rfl rfl (take_ofW HT_.out HW_.out (by kernel_rfl)) (fun _ _ _ h => h) (Or.inl ⟨by rfl, ?_⟩) hHeld ?_ ?_
               rotate_left
               ·rintro w' ⟨s0, s1, s2, s3, s4, s5, s6, s7⟩
                go_simp
                with_reducible rfl
               rotate_left
               ·simp only [Act.put, lA, lB, lC, bF, bE]
                rfl
               refine pure_ (i := 14) (N := some 47) (v := ?_) (a' := ?_) #[true, true, true, true, true, true, true, true, true, true, true, true, true, true, true, false] rfl rfl (any_of HT_.out (by kernel_rfl)) (fun _ _ _ h => h) (Or.inl ⟨by rfl, ?_⟩) ?_ ?_
               rotate_left
               ·intro w'
                go_simp
                with_reducible rfl
               rotate_left
               ·simp only [Act.put, lA, lB, lC, bF, bE]
                rfl
               refine last_ (i := 15) (N := none) #[true, true, true, true, true, true, true, true, true, true, true, true, true, true, true, true] rfl rfl (one_of HT_.out (by kernel_rfl)) (by decide) (fun K hK => ?_)
               refine skip_ (w1 := ?_) (by rfl) rfl ?_ ?_
               rotate_left
               ·go_simp
                rfl
               refine hK.out _ _ ?_
               clear hK K
               refine done_ (done_of HT_.out (by kernel_rfl)) ?_
               try go_wp2
               go_roundg kj21
               case measure => have := HJ6.out; have := HK2.out; have := HJ21.out; omega
               case rel => exact ⟨(wrap64 (x6_2 + 1)), (y220), (.slice (some ⟨go39, 0, none⟩) x216000_2.length co39), (by first | rfl | (simp; done) | (simp [*]; done)), H', ⟨by have := HJ6.out; have := HK2.out; have := HJ21.out; omega⟩, ⟨by (with_reducible repeat (first | apply Kd.N_alloc | apply Kd.N_drewN | apply Kd.N_drew)); exact HQ41.out⟩, ⟨by (with_reducible repeat (first | apply Kd.N_alloc | apply Kd.N_drewN | apply Kd.N_drew)); exact Kd.N_mono (Kd.N_far (p := ⟨go39, (((rd_T50 t210 x6_2).f0) : Int).toNat, none⟩) (Kd.N_mono HO_216001.out (fun k_ hk => (⟨hk, fun e_ => hk.2.1 (by rw [e_]; rfl)⟩ : _ ∧ k_ ≠ go39))) (fun _ hk => hk.2) (.slice A218_1 ((rd_T50 t210 x6_2).f1).length c218_1)) (fun _ hk => ⟨hk.1.1, ⟨hk.1.2.1, ⟨hk.1.2.2.1, ⟨hk.1.2.2.2.1, hk.1.2.2.2.2⟩⟩⟩⟩)⟩, ⟨by (with_reducible repeat (first | refine aN ?_ _ | refine aQ ?_ | refine aM ?_ _)); refine blk_far ?_ (by have h_ := Kd.N_away HO_216000.out (fun _ hk => hk.2.2.1); intro e_; exact h_ (by rw [e_]; rfl)) _; (with_reducible repeat (first | refine aN ?_ _ | refine aQ ?_ | refine aM ?_ _)); exact BK205.out⟩, ⟨by (with_reducible repeat (first | refine aN ?_ _ | refine aQ ?_ | refine aM ?_ _)); refine blk_far ?_ (by have h_ := Kd.N_away HO_216000.out (fun _ hk => hk.2.2.2.1); intro e_; exact h_ (by rw [e_]; rfl)) _; (with_reducible repeat (first | refine aN ?_ _ | refine aQ ?_ | refine aM ?_ _)); exact BK206.out⟩, ⟨by (with_reducible repeat (first | refine aN ?_ _ | refine aQ ?_ | refine aM ?_ _)); refine blk_far ?_ (by have h_ := Kd.N_away HO_216000.out (fun _ hk => hk.2.2.2.2); intro e_; exact h_ (by rw [e_]; rfl)) _; (with_reducible repeat (first | refine aN ?_ _ | refine aQ ?_ | refine aM ?_ _)); exact BK215.out⟩, ⟨by repeat (first | (with_reducible first | exact HB.out | apply aJ | apply aE | apply aH | refine aG ?_ GB39.out | refine aG ?_ GE205.out | refine aG ?_ GE206.out | refine aG ?_ GE215.out) | exact HB.out)⟩⟩
              ·rw [if_neg c38] at H
               exact absurd H (by simp)
             ·rw [if_neg c37] at H
              exact absurd H (by simp)
            ·rw [if_neg c36] at H
             exact absurd H (by simp)
           ·rw [if_neg c35] at H
            exact absurd H (by simp)
          ·rw [if_neg c34] at H
           have c34b0 : ((Go.bits .and .i64 (ji33) 1) == 1) = false := beq_eq_false_iff_ne.mpr c34
           have c34b1 : ((Go.bits .and .i64 (ji33) 1) != 1) = true := bne_iff_ne.mpr c34
           have H' := aC.mk H
           clear H
           go_wp2
           go_roundg kj21
           case measure => have := HJ6.out; have := HK2.out; have := HJ21.out; omega
           case rel => exact ⟨(wrap64 (x6_2 + 1)), (x216000_2), (u216000), (by first | rfl | (simp; done) | (simp [*]; done)), H', ⟨by have := HJ6.out; have := HK2.out; have := HJ21.out; omega⟩, ⟨by (with_reducible repeat (first | apply Kd.N_alloc | apply Kd.N_drewN | apply Kd.N_drew)); exact HO_216000.out⟩, ⟨by (with_reducible repeat (first | apply Kd.N_alloc | apply Kd.N_drewN | apply Kd.N_drew)); exact HO_216001.out⟩, ⟨by (with_reducible repeat (first | refine aN ?_ _ | refine aQ ?_ | refine aM ?_ _)); exact BK205.out⟩, ⟨by (with_reducible repeat (first | refine aN ?_ _ | refine aQ ?_ | refine aM ?_ _)); exact BK206.out⟩, ⟨by (with_reducible repeat (first | refine aN ?_ _ | refine aQ ?_ | refine aM ?_ _)); exact BK215.out⟩, ⟨by repeat (first | (with_reducible first | exact HB.out | apply aJ | apply aE | apply aH | refine aG ?_ GE205.out | refine aG ?_ GE206.out | refine aG ?_ GE215.out) | exact HB.out)⟩⟩
         ·rw [if_neg c32] at H
          exact absurd H (by simp)
        ·replace c30 := Bool.eq_false_iff.mpr c30
         subst c30
         have H1 : (some (x216000_2, (([] : List (S50))), (-1), false)) = some (r1, r2, r3, r4) := by rw [if_neg (show ¬ (false = true) by decide)] at H; exact H
         clear H
         have H := H1
         clear H1
         obtain ⟨y221, hy221⟩ : ∃ y_ : List (S50), y_ = (([] : List (S50))) := ⟨_, rfl⟩
         replace H : (some (x216000_2, y221, (-1), false)) = some (r1, r2, r3, r4) := by first | (rw [hy221]; with_reducible exact H) | (have H2_ := (Option.bind_some _ _).symm.trans H; rw [hy221]; with_reducible exact H2_) | (have H2_ := (Option.bind_some _ _).symm.trans H; with_reducible exact H2_) | with_reducible exact H | (rw [hy221]; exact H) | exact H
         have Ny221 := aC.mk hy221
         clear hy221
         simp only [Option.some.injEq, Prod.mk.injEq] at H
         obtain ⟨rfl, rfl, rfl, rfl⟩ := H
         go_wp2_with (first | ((with_reducible refine bC (N := 48) rfl ?_); refine Kd.N_lit k50 _ 50 ?hg (N' := 48) ?hd (xs := ([] : List (S50))) (inner := []) (ok := (fun k_ => (w.heap.size ≤ k_) ∧ some k_ ≠ (u216000 : Value).ownBlock ∧ some k_ ≠ (.slice Ao18 t210.length co18 : Value).ownBlock ∧ k_ ≠ gb205 ∧ k_ ≠ gb206 ∧ k_ ≠ gb215)) (okp := (fun k_ => (w.heap.size ≤ k_) ∧ some k_ ≠ (u216000 : Value).ownBlock ∧ some k_ ≠ (.slice Ao18 t210.length co18 : Value).ownBlock ∧ k_ ≠ gb205 ∧ k_ ≠ gb206 ∧ k_ ≠ gb215)) ?hr ?hp (fun _ hk => hk) ((show ∀ k_, wc.heap.size ≤ k_ → (fun k_ => (w.heap.size ≤ k_) ∧ some k_ ≠ (u216000 : Value).ownBlock ∧ some k_ ≠ (.slice Ao18 t210.length co18 : Value).ownBlock ∧ k_ ≠ gb205 ∧ k_ ≠ gb206 ∧ k_ ≠ gb215) k_ from fun k_ hk => ⟨(Nat.le_trans (aW (by repeat (first | (with_reducible first | exact HB.out | apply aJ | apply aE | apply aH | refine aG ?_ GE205.out | refine aG ?_ GE206.out | refine aG ?_ GE215.out) | exact HB.out))) hk), Kd.fresh' (Kd.N_lt (by (with_reducible repeat (first | apply Kd.N_alloc | apply Kd.N_drewN | apply Kd.N_drew)); exact HO_216000.out)) k_ hk, Kd.fresh' (Kd.N_lt (by (with_reducible repeat (first | apply Kd.N_alloc | apply Kd.N_drewN | apply Kd.N_drew)); exact HO_216001.out)) k_ hk, Kd.freshB (g := gb205) (o := .cells #[.slice A0_0 l0_0.length c0_0, .slice A0_1 l0_1.length c0_1, .int .i64 a0_2, .bool a0_3] 25 (0, 0)) (by (with_reducible repeat (first | refine aN ?_ _ | refine aQ ?_ | refine aM ?_ _)); exact BK205.out) k_ hk, Kd.freshB (g := gb206) (o := .cells #[.slice none 0 0, .slice none 0 0, .int .i64 0, .bool false] 25 (0, 0)) (by (with_reducible repeat (first | refine aN ?_ _ | refine aQ ?_ | refine aM ?_ _)); exact BK206.out) k_ hk, Kd.freshB (g := gb215) (o := .cells #[u216000, .slice Ao18 t210.length co18, .int .i64 t213, .bool t214] 25 (0, 0)) (by (with_reducible repeat (first | refine aN ?_ _ | refine aQ ?_ | refine aM ?_ _)); exact BK215.out) k_ hk⟩) _ (Nat.le_refl _)) (Below.refl _ _) (Nat.le_refl _) (by simp) ?_; (case hd => rfl); (case hg => rfl); (case hr => first | (go_simp; done) | (go_simp; rfl)); (case hp => exact (Reps.none _ _)); intro v222 w42 ho43 hb hg_ hnew_; clear hg_ hnew_; (first | rw [← Ny221.out] at ho43 | (simp only [Int.reduceToNat] at ho43; rw [← Ny221.out] at ho43)); have n0_ := aC.mk (Kd.N_elder' (by (with_reducible repeat (first | apply Kd.N_alloc | apply Kd.N_drewN | apply Kd.N_drew)); exact HO_216000.out) (Kd.N_base ho43) hb); have n1_ := aC.mk (Kd.N_elder' (by (with_reducible repeat (first | apply Kd.N_alloc | apply Kd.N_drewN | apply Kd.N_drew)); exact HO_216001.out) (Kd.N_base ho43) hb); have n2_ := aC.mk (Kd.N_lower ho43 (aW (by repeat (first | (with_reducible first | exact HB.out | apply aJ | apply aE | apply aH | refine aG ?_ GE205.out | refine aG ?_ GE206.out | refine aG ?_ GE215.out) | exact HB.out)))); have n3_ := aC.mk (aT (g := gb205) (o := .cells #[.slice A0_0 l0_0.length c0_0, .slice A0_1 l0_1.length c0_1, .int .i64 a0_2, .bool a0_3] 25 (0, 0)) (by (with_reducible repeat (first | refine aN ?_ _ | refine aQ ?_ | refine aM ?_ _)); exact BK205.out) hb); have n4_ := aC.mk (aT (g := gb206) (o := .cells #[.slice none 0 0, .slice none 0 0, .int .i64 0, .bool false] 25 (0, 0)) (by (with_reducible repeat (first | refine aN ?_ _ | refine aQ ?_ | refine aM ?_ _)); exact BK206.out) hb); have n5_ := aC.mk (aT (g := gb215) (o := .cells #[u216000, .slice Ao18 t210.length co18, .int .i64 t213, .bool t214] 25 (0, 0)) (by (with_reducible repeat (first | refine aN ?_ _ | refine aQ ?_ | refine aM ?_ _)); exact BK215.out) hb); have n6_ := aC.mk (aU (by repeat (first | (with_reducible first | exact HB.out | apply aJ | apply aE | apply aH | refine aG ?_ GE205.out | refine aG ?_ GE206.out | refine aG ?_ GE215.out) | exact HB.out)) hb); clear HO_216000; clear HO_216001; clear BK205; clear BK206; clear BK215; clear HB; have HO_216000 := n0_; have HO_216001 := n1_; have HO223 := n2_; have BK205 := n3_; have BK206 := n4_; have BK215 := n5_; have HB := n6_; clear n0_ n1_ n2_ n3_ n4_ n5_ n6_; clear hb ho43; obtain ⟨Ao44, co44, eo44⟩ := Kd.N_slice HO223.out; subst eo44; have hnb45 := NB215_205.out; have hnc45 := NB205_215.out; have hnb46 := NB215_206.out; have hnc46 := NB206_215.out; have hcz47_0 : w42.cell? ⟨gb215, 0, none⟩ = some (u216000) := (aD BK215.out 0).trans rfl; have hcz47_1 : w42.cell? ⟨gb215, 1, none⟩ = some (.slice Ao18 t210.length co18) := (aD BK215.out 1).trans rfl; have hcz47_2 : w42.cell? ⟨gb215, 2, none⟩ = some (.int .i64 t213) := (aD BK215.out 2).trans rfl; have hcz47_3 : w42.cell? ⟨gb215, 3, none⟩ = some (.bool t214) := (aD BK215.out 3).trans rfl; have hfz47_0 := aA BK215.out 0; have hfz47_1 := aA BK215.out 1; have hfz47_2 := aA BK215.out 2; have hfz47_3 := aA BK215.out 3; obtain ⟨Ao48, co48, eo48⟩ := Kd.N_slice HO_216000.out; subst eo48; have hnb49 := NB206_205.out; have hnc49 := NB205_206.out; have hcz50_0 : w42.cell? ⟨gb206, 0, none⟩ = some (.slice none 0 0) := (aD BK206.out 0).trans rfl; have hcz50_1 : w42.cell? ⟨gb206, 1, none⟩ = some (.slice none 0 0) := (aD BK206.out 1).trans rfl; have hcz50_2 : w42.cell? ⟨gb206, 2, none⟩ = some (.int .i64 0) := (aD BK206.out 2).trans rfl; have hcz50_3 : w42.cell? ⟨gb206, 3, none⟩ = some (.bool false) := (aD BK206.out 3).trans rfl; have hfz50_0 := aA BK206.out 0; have hfz50_1 := aA BK206.out 1; have hfz50_2 := aA BK206.out 2; have hfz50_3 := aA BK206.out 3))
         refine bodyPost_ret (results_cell_row rfl _ _ gb206 25 #[.slice Ao48 x216000_2.length co48, .slice Ao44 y221.length co44, .int .i64 (-1), .bool false] (0, 0) _ rfl (by (with_reducible repeat (first | refine aN ?_ _ | refine aQ ?_ | refine aM ?_ _)); refine aZ (cs := #[.slice Ao48 x216000_2.length co48, .slice Ao44 y221.length co44, .int .i64 (-1), .bool false]) ?_ 3 _ rfl; (with_reducible repeat (first | refine aN ?_ _ | refine aQ ?_ | refine aM ?_ _)); refine aZ (cs := #[.slice Ao48 x216000_2.length co48, .slice Ao44 y221.length co44, .int .i64 0, .bool false]) ?_ 2 _ rfl; (with_reducible repeat (first | refine aN ?_ _ | refine aQ ?_ | refine aM ?_ _)); refine aZ (cs := #[.slice Ao48 x216000_2.length co48, .slice none 0 0, .int .i64 0, .bool false]) ?_ 1 _ rfl; (with_reducible repeat (first | refine aN ?_ _ | refine aQ ?_ | refine aM ?_ _)); refine aZ (cs := #[.slice none 0 0, .slice none 0 0, .int .i64 0, .bool false]) ?_ 0 _ rfl; (with_reducible repeat (first | refine aN ?_ _ | refine aQ ?_ | refine aM ?_ _)); refine blk_far ?_ NB206_215.out _; (with_reducible repeat (first | refine aN ?_ _ | refine aQ ?_ | refine aM ?_ _)); refine blk_far ?_ NB206_215.out _; (with_reducible repeat (first | refine aN ?_ _ | refine aQ ?_ | refine aM ?_ _)); refine blk_far ?_ NB206_215.out _; (with_reducible repeat (first | refine aN ?_ _ | refine aQ ?_ | refine aM ?_ _)); exact BK206.out) Try.underlying25 rfl (by kernel_rfl)) rfl ?_
         exact ⟨_, _, by first | rfl | (simp [errW_none, errW_some] <;> rfl) | (simp [*, errW_none, errW_some] <;> rfl), by (with_reducible repeat (first | apply Kd.N_alloc | apply Kd.N_drewN | apply Kd.N_drew)); exact Kd.N_mono (Kd.N_far (p := ⟨gb206, 3, none⟩) (Kd.N_far (p := ⟨gb206, 2, none⟩) (Kd.N_far (p := ⟨gb206, 1, none⟩) (Kd.N_far (p := ⟨gb206, 0, none⟩) (Kd.N_far (p := ⟨gb215, 2, none⟩) (Kd.N_far (p := ⟨gb215, 3, none⟩) (Kd.N_far (p := ⟨gb215, 1, none⟩) (Kd.N_mono (Kd.N_mono HO_216000.out (fun k_ hk => (⟨hk, hk.1.2.2.2.2⟩ : _ ∧ k_ ≠ gb215))) (fun k_ hk => (⟨hk, hk.1.1.2.2.2.1⟩ : _ ∧ k_ ≠ gb206))) (fun _ hk => hk.1.2) (.slice Ao44 y221.length co44)) (fun _ hk => hk.1.2) (.bool false)) (fun _ hk => hk.1.2) (.int .i64 (-1))) (fun _ hk => hk.2) (.slice Ao48 x216000_2.length co48)) (fun _ hk => hk.2) (.slice Ao44 y221.length co44)) (fun _ hk => hk.2) (.int .i64 (-1))) (fun _ hk => hk.2) (.bool false)) (fun _ hk => ⟨hk.1.1.1.1, hk.1.1.2⟩), by (with_reducible repeat (first | apply Kd.N_alloc | apply Kd.N_drewN | apply Kd.N_drew)); exact Kd.N_mono (Kd.N_far (p := ⟨gb206, 3, none⟩) (Kd.N_far (p := ⟨gb206, 2, none⟩) (Kd.N_far (p := ⟨gb206, 1, none⟩) (Kd.N_far (p := ⟨gb206, 0, none⟩) (Kd.N_far (p := ⟨gb215, 2, none⟩) (Kd.N_far (p := ⟨gb215, 3, none⟩) (Kd.N_far (p := ⟨gb215, 1, none⟩) (Kd.N_mono (Kd.N_mono HO223.out (fun k_ hk => (⟨hk, hk.2.2.2.2.2⟩ : _ ∧ k_ ≠ gb215))) (fun k_ hk => (⟨hk, hk.1.2.2.2.2.1⟩ : _ ∧ k_ ≠ gb206))) (fun _ hk => hk.1.2) (.slice Ao44 y221.length co44)) (fun _ hk => hk.1.2) (.bool false)) (fun _ hk => hk.1.2) (.int .i64 (-1))) (fun _ hk => hk.2) (.slice Ao48 x216000_2.length co48)) (fun _ hk => hk.2) (.slice Ao44 y221.length co44)) (fun _ hk => hk.2) (.int .i64 (-1))) (fun _ hk => hk.2) (.bool false)) (fun _ hk => ⟨hk.1.1.1, hk.1.1.2.1⟩), by repeat (first | (with_reducible first | exact HB.out | apply aJ | apply aE | apply aH | refine aG ?_ GE205.out | refine aG ?_ GE206.out | refine aG ?_ GE215.out) | exact HB.out)⟩
 ·replace c5 := Bool.eq_false_iff.mpr c5
  subst c5
  have H1 : (some (t207, t210, t213, t214)) = some (r1, r2, r3, r4) := by rw [if_neg (show ¬ (false = true) by decide)] at H; exact H
  clear H
  have H := H1
  clear H1
  simp only [Option.some.injEq, Prod.mk.injEq] at H
  obtain ⟨rfl, rfl, rfl, rfl⟩ := H
  go_enter Try.func31, Try.ntmps31
  go_wp2_with (first | ((with_reducible refine bC (N := 2) rfl ?_); refine bB ?hg (N := 2) ?hd (cs := #[.slice A0_0 l0_0.length c0_0, .slice A0_1 l0_1.length c0_1, .int .i64 a0_2, .bool a0_3]) (t := 25) ?hr ?_; (case hd => rfl); (case hg => rfl); (case hr => first | (go_simp; done) | (go_simp; rfl)); intro gb205 hg w51 hbox hb; have n0_ := aC.mk (aU (by repeat (first | (with_reducible first | exact HB.out | apply aJ | apply aE | apply aH) | exact HB.out)) hb); have n1_ := aC.mk (hbox); have n2_ := aC.mk ((by rw [hg]; exact (aW (by repeat (first | (with_reducible first | exact HB.out | apply aJ | apply aE | apply aH) | exact HB.out))) : w.heap.size ≤ gb205)); have n3_ := aC.mk ((by rw [hg]; exact (aW (by repeat (first | (with_reducible first | exact HB.out | apply aJ | apply aE | apply aH) | exact HB.out))) : w.heap.size ≤ gb205)); clear HB; have HB := n0_; have BK205 := n1_; have GW205 := n2_; have GE205 := n3_; clear n0_ n1_ n2_ n3_; clear hb hbox hg) | ((with_reducible refine bC (N := 4) rfl ?_); refine bB ?hg (N := 4) ?hd (cs := #[.slice none 0 0, .slice none 0 0, .int .i64 0, .bool false]) (t := 25) ?hr ?_; (case hd => rfl); (case hg => rfl); (case hr => first | (go_simp; done) | (go_simp; rfl)); intro gb206 hg w52 hbox hb; have n0_ := aC.mk (aT (g := gb205) (o := .cells #[.slice A0_0 l0_0.length c0_0, .slice A0_1 l0_1.length c0_1, .int .i64 a0_2, .bool a0_3] 25 (0, 0)) (by (with_reducible repeat (first | refine aN ?_ _ | refine aQ ?_ | refine aM ?_ _)); exact BK205.out) hb); have n1_ := aC.mk (aU (by repeat (first | (with_reducible first | exact HB.out | apply aJ | apply aE | apply aH | refine aG ?_ GE205.out) | exact HB.out)) hb); have n2_ := aC.mk (hbox); have n3_ := aC.mk ((by rw [hg]; exact (aW (by repeat (first | (with_reducible first | exact HB.out | apply aJ | apply aE | apply aH | refine aG ?_ GE205.out) | exact HB.out))) : w.heap.size ≤ gb206)); have n4_ := aC.mk ((by rw [hg]; exact (aW (by repeat (first | (with_reducible first | exact HB.out | apply aJ | apply aE | apply aH | refine aG ?_ GE205.out) | exact HB.out))) : w.heap.size ≤ gb206)); have n5_ := aC.mk ((by rw [hg]; exact Nat.ne_of_lt (bH (g := gb205) (o := .cells #[.slice A0_0 l0_0.length c0_0, .slice A0_1 l0_1.length c0_1, .int .i64 a0_2, .bool a0_3] 25 (0, 0)) (by (with_reducible repeat (first | refine aN ?_ _ | refine aQ ?_ | refine aM ?_ _)); exact BK205.out)) : gb205 ≠ gb206)); have n6_ := aC.mk ((by rw [hg]; exact Nat.ne_of_gt (bH (g := gb205) (o := .cells #[.slice A0_0 l0_0.length c0_0, .slice A0_1 l0_1.length c0_1, .int .i64 a0_2, .bool a0_3] 25 (0, 0)) (by (with_reducible repeat (first | refine aN ?_ _ | refine aQ ?_ | refine aM ?_ _)); exact BK205.out)) : gb206 ≠ gb205)); clear BK205; clear HB; have BK205 := n0_; have HB := n1_; have BK206 := n2_; have GW206 := n3_; have GE206 := n4_; have NB205_206 := n5_; have NB206_205 := n6_; clear n0_ n1_ n2_ n3_ n4_ n5_ n6_; clear hb hbox hg; have hnb53 := NB205_206.out; have hnc53 := NB206_205.out; have hcz54_0 : w52.cell? ⟨gb205, 0, none⟩ = some (.slice A0_0 l0_0.length c0_0) := (aD BK205.out 0).trans rfl; have hcz54_1 : w52.cell? ⟨gb205, 1, none⟩ = some (.slice A0_1 l0_1.length c0_1) := (aD BK205.out 1).trans rfl; have hcz54_2 : w52.cell? ⟨gb205, 2, none⟩ = some (.int .i64 a0_2) := (aD BK205.out 2).trans rfl; have hcz54_3 : w52.cell? ⟨gb205, 3, none⟩ = some (.bool a0_3) := (aD BK205.out 3).trans rfl; have hfz54_0 := aA BK205.out 0; have hfz54_1 := aA BK205.out 1; have hfz54_2 := aA BK205.out 2; have hfz54_3 := aA BK205.out 3) | ((with_reducible refine aX (f := 56) rfl ?_); refine bM (some 8) rfl rfl Try.func56 (by kernel_rfl) rfl #[.agg #[.slice A0_0 l0_0.length c0_0, .slice A0_1 l0_1.length c0_1, .int .i64 a0_2, .bool a0_3]] rfl (by (try simp only [List.map_toArray, List.map_cons, List.map_nil]); first | done | rfl | (simp only [List.length_drop, List.length_take]; rfl)) ?_; (with_reducible refine (spec_l2Copy.calls k _ _ l0_0 _ _ l0_1 a0_2 a0_3 t207 t210 t213 t214 _ ?side1 ?side2 ?side3 ?side4 A3.out).mono ?_); (case side1 => repeat (first | exact (Kd.bG HR0_0.out HB.out) | (with_reducible refine Kd.bL ?_ _) | (with_reducible refine Kd.bK ?_ _) | (with_reducible refine Kd.bN ?_))); (case side2 => exact HC0_0.out); (case side3 => repeat (first | exact (Kd.bG HR0_1.out HB.out) | (with_reducible refine Kd.bL ?_ _) | (with_reducible refine Kd.bK ?_ _) | (with_reducible refine Kd.bN ?_))); (case side4 => exact HC0_1.out); rintro e w55 ⟨v208, v211, rfl, ho0, ho1, hb⟩; refine ⟨_, rfl, ?_⟩; have n0_ := aC.mk (Kd.N_lower (Kd.N_mono (ok' := fun k_ => (w.heap.size ≤ k_) ∧ some k_ ≠ (v211 : Value).ownBlock ∧ k_ ≠ gb205 ∧ k_ ≠ gb206) (Kd.S_N (Kd.S_bound (Kd.S_apart' ho0 (Kd.S_typed ho1) (by decide)))) (fun k_ hk_ => ⟨(Nat.le_trans (aW (by repeat (first | (with_reducible first | exact HB.out | apply aJ | apply aE | apply aH | refine aG ?_ GE205.out | refine aG ?_ GE206.out) | exact HB.out))) hk_.2.1), hk_.1.2, (Kd.freshB (g := gb205) (o := .cells #[.slice A0_0 l0_0.length c0_0, .slice A0_1 l0_1.length c0_1, .int .i64 a0_2, .bool a0_3] 25 (0, 0)) (by (with_reducible repeat (first | refine aN ?_ _ | refine aQ ?_ | refine aM ?_ _)); exact BK205.out) k_ hk_.2.1), (Kd.freshB (g := gb206) (o := .cells #[.slice none 0 0, .slice none 0 0, .int .i64 0, .bool false] 25 (0, 0)) (by (with_reducible repeat (first | refine aN ?_ _ | refine aQ ?_ | refine aM ?_ _)); exact BK206.out) k_ hk_.2.1)⟩)) (aW (by repeat (first | (with_reducible first | exact HB.out | apply aJ | apply aE | apply aH | refine aG ?_ GE205.out | refine aG ?_ GE206.out) | exact HB.out)))); have n1_ := aC.mk (Kd.N_lower (Kd.N_mono (ok' := fun k_ => (w.heap.size ≤ k_) ∧ some k_ ≠ (v208 : Value).ownBlock ∧ k_ ≠ gb205 ∧ k_ ≠ gb206) (Kd.S_N (Kd.S_bound (Kd.S_apart' ho1 (Kd.S_typed ho0) (by decide)))) (fun k_ hk_ => ⟨(Nat.le_trans (aW (by repeat (first | (with_reducible first | exact HB.out | apply aJ | apply aE | apply aH | refine aG ?_ GE205.out | refine aG ?_ GE206.out) | exact HB.out))) hk_.2.1), hk_.1.2, (Kd.freshB (g := gb205) (o := .cells #[.slice A0_0 l0_0.length c0_0, .slice A0_1 l0_1.length c0_1, .int .i64 a0_2, .bool a0_3] 25 (0, 0)) (by (with_reducible repeat (first | refine aN ?_ _ | refine aQ ?_ | refine aM ?_ _)); exact BK205.out) k_ hk_.2.1), (Kd.freshB (g := gb206) (o := .cells #[.slice none 0 0, .slice none 0 0, .int .i64 0, .bool false] 25 (0, 0)) (by (with_reducible repeat (first | refine aN ?_ _ | refine aQ ?_ | refine aM ?_ _)); exact BK206.out) k_ hk_.2.1)⟩)) (aW (by repeat (first | (with_reducible first | exact HB.out | apply aJ | apply aE | apply aH | refine aG ?_ GE205.out | refine aG ?_ GE206.out) | exact HB.out)))); have n2_ := aC.mk (aT (g := gb205) (o := .cells #[.slice A0_0 l0_0.length c0_0, .slice A0_1 l0_1.length c0_1, .int .i64 a0_2, .bool a0_3] 25 (0, 0)) (by (with_reducible repeat (first | refine aN ?_ _ | refine aQ ?_ | refine aM ?_ _)); exact BK205.out) hb); have n3_ := aC.mk (aT (g := gb206) (o := .cells #[.slice none 0 0, .slice none 0 0, .int .i64 0, .bool false] 25 (0, 0)) (by (with_reducible repeat (first | refine aN ?_ _ | refine aQ ?_ | refine aM ?_ _)); exact BK206.out) hb); have n4_ := aC.mk (aU (by repeat (first | (with_reducible first | exact HB.out | apply aJ | apply aE | apply aH | refine aG ?_ GE205.out | refine aG ?_ GE206.out) | exact HB.out)) hb); clear BK205; clear BK206; clear HB; have HO209 := n0_; have HO212 := n1_; have BK205 := n2_; have BK206 := n3_; have HB := n4_; clear n0_ n1_ n2_ n3_ n4_; (try clear hb); (try clear hk); (try clear ho0); (try clear ho1)) | ((with_reducible refine bC (N := 5) rfl ?_); refine bB ?hg (N := 5) ?hd (cs := #[.slice none 0 0, .slice none 0 0, .int .i64 0, .bool false]) (t := 25) ?hr ?_; (case hd => rfl); (case hg => rfl); (case hr => first | (go_simp; done) | (go_simp; rfl)); intro gb215 hg w56 hbox hb; have n0_ := aC.mk (Kd.N_below (Kd.N_elderB (by (with_reducible repeat (first | apply Kd.N_alloc | apply Kd.N_drewN | apply Kd.N_drew)); exact HO209.out) gb215 (Nat.le_of_eq hg.symm)) hb); have n1_ := aC.mk (Kd.N_below (Kd.N_elderB (by (with_reducible repeat (first | apply Kd.N_alloc | apply Kd.N_drewN | apply Kd.N_drew)); exact HO212.out) gb215 (Nat.le_of_eq hg.symm)) hb); have n2_ := aC.mk (aT (g := gb205) (o := .cells #[.slice A0_0 l0_0.length c0_0, .slice A0_1 l0_1.length c0_1, .int .i64 a0_2, .bool a0_3] 25 (0, 0)) (by (with_reducible repeat (first | refine aN ?_ _ | refine aQ ?_ | refine aM ?_ _)); exact BK205.out) hb); have n3_ := aC.mk (aT (g := gb206) (o := .cells #[.slice none 0 0, .slice none 0 0, .int .i64 0, .bool false] 25 (0, 0)) (by (with_reducible repeat (first | refine aN ?_ _ | refine aQ ?_ | refine aM ?_ _)); exact BK206.out) hb); have n4_ := aC.mk (aU (by repeat (first | (with_reducible first | exact HB.out | apply aJ | apply aE | apply aH | refine aG ?_ GE205.out | refine aG ?_ GE206.out) | exact HB.out)) hb); have n5_ := aC.mk (hbox); have n6_ := aC.mk ((by rw [hg]; exact (aW (by repeat (first | (with_reducible first | exact HB.out | apply aJ | apply aE | apply aH | refine aG ?_ GE205.out | refine aG ?_ GE206.out) | exact HB.out))) : w.heap.size ≤ gb215)); have n7_ := aC.mk ((by rw [hg]; exact (aW (by repeat (first | (with_reducible first | exact HB.out | apply aJ | apply aE | apply aH | refine aG ?_ GE205.out | refine aG ?_ GE206.out) | exact HB.out))) : w.heap.size ≤ gb215)); have n8_ := aC.mk ((by rw [hg]; exact Nat.ne_of_lt (bH (g := gb205) (o := .cells #[.slice A0_0 l0_0.length c0_0, .slice A0_1 l0_1.length c0_1, .int .i64 a0_2, .bool a0_3] 25 (0, 0)) (by (with_reducible repeat (first | refine aN ?_ _ | refine aQ ?_ | refine aM ?_ _)); exact BK205.out)) : gb205 ≠ gb215)); have n9_ := aC.mk ((by rw [hg]; exact Nat.ne_of_gt (bH (g := gb205) (o := .cells #[.slice A0_0 l0_0.length c0_0, .slice A0_1 l0_1.length c0_1, .int .i64 a0_2, .bool a0_3] 25 (0, 0)) (by (with_reducible repeat (first | refine aN ?_ _ | refine aQ ?_ | refine aM ?_ _)); exact BK205.out)) : gb215 ≠ gb205)); have n10_ := aC.mk ((by rw [hg]; exact Nat.ne_of_lt (bH (g := gb206) (o := .cells #[.slice none 0 0, .slice none 0 0, .int .i64 0, .bool false] 25 (0, 0)) (by (with_reducible repeat (first | refine aN ?_ _ | refine aQ ?_ | refine aM ?_ _)); exact BK206.out)) : gb206 ≠ gb215)); have n11_ := aC.mk ((by rw [hg]; exact Nat.ne_of_gt (bH (g := gb206) (o := .cells #[.slice none 0 0, .slice none 0 0, .int .i64 0, .bool false] 25 (0, 0)) (by (with_reducible repeat (first | refine aN ?_ _ | refine aQ ?_ | refine aM ?_ _)); exact BK206.out)) : gb215 ≠ gb206)); clear HO209; clear HO212; clear BK205; clear BK206; clear HB; have HO209 := n0_; have HO212 := n1_; have BK205 := n2_; have BK206 := n3_; have HB := n4_; have BK215 := n5_; have GW215 := n6_; have GE215 := n7_; have NB205_215 := n8_; have NB215_205 := n9_; have NB206_215 := n10_; have NB215_206 := n11_; clear n0_ n1_ n2_ n3_ n4_ n5_ n6_ n7_ n8_ n9_ n10_ n11_; clear hb hbox hg; obtain ⟨Ao57, co57, eo57⟩ := Kd.N_slice HO209.out; subst eo57; have hnb58 := NB215_205.out; have hnc58 := NB205_215.out; have hnb59 := NB215_206.out; have hnc59 := NB206_215.out; have hcz60_0 : w56.cell? ⟨gb215, 0, none⟩ = some (.slice none 0 0) := (aD BK215.out 0).trans rfl; have hcz60_1 : w56.cell? ⟨gb215, 1, none⟩ = some (.slice none 0 0) := (aD BK215.out 1).trans rfl; have hcz60_2 : w56.cell? ⟨gb215, 2, none⟩ = some (.int .i64 0) := (aD BK215.out 2).trans rfl; have hcz60_3 : w56.cell? ⟨gb215, 3, none⟩ = some (.bool false) := (aD BK215.out 3).trans rfl; have hfz60_0 := aA BK215.out 0; have hfz60_1 := aA BK215.out 1; have hfz60_2 := aA BK215.out 2; have hfz60_3 := aA BK215.out 3; obtain ⟨Ao61, co61, eo61⟩ := Kd.N_slice HO212.out; subst eo61; have hcz62_0 : w56.cell? ⟨gb205, 0, none⟩ = some (.slice A0_0 l0_0.length c0_0) := (aD BK205.out 0).trans rfl; have hcz62_1 : w56.cell? ⟨gb205, 1, none⟩ = some (.slice A0_1 l0_1.length c0_1) := (aD BK205.out 1).trans rfl; have hcz62_2 : w56.cell? ⟨gb205, 2, none⟩ = some (.int .i64 a0_2) := (aD BK205.out 2).trans rfl; have hcz62_3 : w56.cell? ⟨gb205, 3, none⟩ = some (.bool a0_3) := (aD BK205.out 3).trans rfl; have hfz62_0 := aA BK205.out 0; have hfz62_1 := aA BK205.out 1; have hfz62_2 := aA BK205.out 2; have hfz62_3 := aA BK205.out 3) | ((with_reducible refine aX (f := 18) rfl ?_); refine bM (some 10) rfl rfl Try.func18 (by kernel_rfl) rfl #[.agg #[.slice A0_0 l0_0.length c0_0, .slice A0_1 l0_1.length c0_1, .int .i64 a0_2, .bool a0_3]] rfl (by (try simp only [List.map_toArray, List.map_cons, List.map_nil]); first | done | rfl | (simp only [List.length_drop, List.length_take]; rfl)) ?_; (with_reducible refine (spec_DevOk.calls k _ _ l0_0 _ _ l0_1 a0_2 a0_3 false _ ?side1 ?side2 ?side3 ?side4 A4.out).mono ?_); (case side1 => exact Kd.bG HR0_0.out (by repeat (first | (with_reducible first | exact HB.out | apply aJ | apply aE | apply aH | refine aG ?_ GE205.out | refine aG ?_ GE206.out | refine aG ?_ GE215.out) | exact HB.out))); (case side2 => exact HC0_0.out); (case side3 => exact Kd.bG HR0_1.out (by repeat (first | (with_reducible first | exact HB.out | apply aJ | apply aE | apply aH | refine aG ?_ GE205.out | refine aG ?_ GE206.out | refine aG ?_ GE215.out) | exact HB.out))); (case side4 => exact HC0_1.out); rintro e w63 ⟨rfl, hb⟩; refine ⟨_, rfl, ?_⟩; have n0_ := aC.mk (Kd.N_below (by (with_reducible repeat (first | apply Kd.N_alloc | apply Kd.N_drewN | apply Kd.N_drew)); exact (Kd.N_mono (Kd.N_far (p := ⟨gb215, 3, none⟩) (Kd.N_far (p := ⟨gb215, 2, none⟩) (Kd.N_far (p := ⟨gb215, 1, none⟩) (Kd.N_far (p := ⟨gb215, 0, none⟩) (Kd.N_mono HO209.out (fun k_ hk => (⟨hk, hk.2⟩ : _ ∧ k_ ≠ gb215))) (fun _ hk => hk.2) (.slice Ao57 t207.length co57)) (fun _ hk => hk.2) (.slice Ao61 t210.length co61)) (fun _ hk => hk.2) (.int .i64 t213)) (fun _ hk => hk.2) (.bool t214)) (fun _ h_ => h_.1))) hb); have n1_ := aC.mk (Kd.N_below (by (with_reducible repeat (first | apply Kd.N_alloc | apply Kd.N_drewN | apply Kd.N_drew)); exact (Kd.N_mono (Kd.N_far (p := ⟨gb215, 3, none⟩) (Kd.N_far (p := ⟨gb215, 2, none⟩) (Kd.N_far (p := ⟨gb215, 1, none⟩) (Kd.N_far (p := ⟨gb215, 0, none⟩) (Kd.N_mono HO212.out (fun k_ hk => (⟨hk, hk.2⟩ : _ ∧ k_ ≠ gb215))) (fun _ hk => hk.2) (.slice Ao57 t207.length co57)) (fun _ hk => hk.2) (.slice Ao61 t210.length co61)) (fun _ hk => hk.2) (.int .i64 t213)) (fun _ hk => hk.2) (.bool t214)) (fun _ h_ => h_.1))) hb); have n2_ := aC.mk (aT (g := gb205) (o := .cells #[.slice A0_0 l0_0.length c0_0, .slice A0_1 l0_1.length c0_1, .int .i64 a0_2, .bool a0_3] 25 (0, 0)) (by (with_reducible repeat (first | refine aN ?_ _ | refine aQ ?_ | refine aM ?_ _)); refine blk_far ?_ NB205_215.out _; (with_reducible repeat (first | refine aN ?_ _ | refine aQ ?_ | refine aM ?_ _)); refine blk_far ?_ NB205_215.out _; (with_reducible repeat (first | refine aN ?_ _ | refine aQ ?_ | refine aM ?_ _)); refine blk_far ?_ NB205_215.out _; (with_reducible repeat (first | refine aN ?_ _ | refine aQ ?_ | refine aM ?_ _)); refine blk_far ?_ NB205_215.out _; (with_reducible repeat (first | refine aN ?_ _ | refine aQ ?_ | refine aM ?_ _)); exact BK205.out) hb); have n3_ := aC.mk (aT (g := gb206) (o := .cells #[.slice none 0 0, .slice none 0 0, .int .i64 0, .bool false] 25 (0, 0)) (by (with_reducible repeat (first | refine aN ?_ _ | refine aQ ?_ | refine aM ?_ _)); refine blk_far ?_ NB206_215.out _; (with_reducible repeat (first | refine aN ?_ _ | refine aQ ?_ | refine aM ?_ _)); refine blk_far ?_ NB206_215.out _; (with_reducible repeat (first | refine aN ?_ _ | refine aQ ?_ | refine aM ?_ _)); refine blk_far ?_ NB206_215.out _; (with_reducible repeat (first | refine aN ?_ _ | refine aQ ?_ | refine aM ?_ _)); refine blk_far ?_ NB206_215.out _; (with_reducible repeat (first | refine aN ?_ _ | refine aQ ?_ | refine aM ?_ _)); exact BK206.out) hb); have n4_ := aC.mk (aT (g := gb215) (o := .cells #[.slice Ao57 t207.length co57, .slice Ao61 t210.length co61, .int .i64 t213, .bool t214] 25 (0, 0)) (by (with_reducible repeat (first | refine aN ?_ _ | refine aQ ?_ | refine aM ?_ _)); refine aZ (cs := #[.slice Ao57 t207.length co57, .slice Ao61 t210.length co61, .int .i64 t213, .bool false]) ?_ 3 _ rfl; (with_reducible repeat (first | refine aN ?_ _ | refine aQ ?_ | refine aM ?_ _)); refine aZ (cs := #[.slice Ao57 t207.length co57, .slice Ao61 t210.length co61, .int .i64 0, .bool false]) ?_ 2 _ rfl; (with_reducible repeat (first | refine aN ?_ _ | refine aQ ?_ | refine aM ?_ _)); refine aZ (cs := #[.slice Ao57 t207.length co57, .slice none 0 0, .int .i64 0, .bool false]) ?_ 1 _ rfl; (with_reducible repeat (first | refine aN ?_ _ | refine aQ ?_ | refine aM ?_ _)); refine aZ (cs := #[.slice none 0 0, .slice none 0 0, .int .i64 0, .bool false]) ?_ 0 _ rfl; (with_reducible repeat (first | refine aN ?_ _ | refine aQ ?_ | refine aM ?_ _)); exact BK215.out) hb); have n5_ := aC.mk (aU (by repeat (first | (with_reducible first | exact HB.out | apply aJ | apply aE | apply aH | refine aG ?_ GE205.out | refine aG ?_ GE206.out | refine aG ?_ GE215.out) | exact HB.out)) hb); clear HO209; clear HO212; clear BK205; clear BK206; clear BK215; clear HB; have HO209 := n0_; have HO212 := n1_; have BK205 := n2_; have BK206 := n3_; have BK215 := n4_; have HB := n5_; clear n0_ n1_ n2_ n3_ n4_ n5_; (try clear hb); (try clear hk); have hcz64_0 : w63.cell? ⟨gb215, 0, none⟩ = some (.slice Ao57 t207.length co57) := (aD BK215.out 0).trans rfl; have hcz64_1 : w63.cell? ⟨gb215, 1, none⟩ = some (.slice Ao61 t210.length co61) := (aD BK215.out 1).trans rfl; have hcz64_2 : w63.cell? ⟨gb215, 2, none⟩ = some (.int .i64 t213) := (aD BK215.out 2).trans rfl; have hcz64_3 : w63.cell? ⟨gb215, 3, none⟩ = some (.bool t214) := (aD BK215.out 3).trans rfl; have hfz64_0 := aA BK215.out 0; have hfz64_1 := aA BK215.out 1; have hfz64_2 := aA BK215.out 2; have hfz64_3 := aA BK215.out 3; have hcz65_0 : w63.cell? ⟨gb206, 0, none⟩ = some (.slice none 0 0) := (aD BK206.out 0).trans rfl; have hcz65_1 : w63.cell? ⟨gb206, 1, none⟩ = some (.slice none 0 0) := (aD BK206.out 1).trans rfl; have hcz65_2 : w63.cell? ⟨gb206, 2, none⟩ = some (.int .i64 0) := (aD BK206.out 2).trans rfl; have hcz65_3 : w63.cell? ⟨gb206, 3, none⟩ = some (.bool false) := (aD BK206.out 3).trans rfl; have hfz65_0 := aA BK206.out 0; have hfz65_1 := aA BK206.out 1; have hfz65_2 := aA BK206.out 2; have hfz65_3 := aA BK206.out 3))
  refine bodyPost_ret (results_cell_row rfl _ _ gb206 25 #[.slice Ao57 t207.length co57, .slice Ao61 t210.length co61, .int .i64 t213, .bool t214] (0, 0) _ rfl (by (with_reducible repeat (first | refine aN ?_ _ | refine aQ ?_ | refine aM ?_ _)); refine aZ (cs := #[.slice Ao57 t207.length co57, .slice Ao61 t210.length co61, .int .i64 t213, .bool false]) ?_ 3 _ rfl; (with_reducible repeat (first | refine aN ?_ _ | refine aQ ?_ | refine aM ?_ _)); refine aZ (cs := #[.slice Ao57 t207.length co57, .slice Ao61 t210.length co61, .int .i64 0, .bool false]) ?_ 2 _ rfl; (with_reducible repeat (first | refine aN ?_ _ | refine aQ ?_ | refine aM ?_ _)); refine aZ (cs := #[.slice Ao57 t207.length co57, .slice none 0 0, .int .i64 0, .bool false]) ?_ 1 _ rfl; (with_reducible repeat (first | refine aN ?_ _ | refine aQ ?_ | refine aM ?_ _)); refine aZ (cs := #[.slice none 0 0, .slice none 0 0, .int .i64 0, .bool false]) ?_ 0 _ rfl; (with_reducible repeat (first | refine aN ?_ _ | refine aQ ?_ | refine aM ?_ _)); exact BK206.out) Try.underlying25 rfl (by kernel_rfl)) rfl ?_
  exact ⟨_, _, by first | rfl | (simp [errW_none, errW_some] <;> rfl) | (simp [*, errW_none, errW_some] <;> rfl), by (with_reducible repeat (first | apply Kd.N_alloc | apply Kd.N_drewN | apply Kd.N_drew)); exact Kd.N_mono (Kd.N_far (p := ⟨gb206, 3, none⟩) (Kd.N_far (p := ⟨gb206, 2, none⟩) (Kd.N_far (p := ⟨gb206, 1, none⟩) (Kd.N_far (p := ⟨gb206, 0, none⟩) (Kd.N_mono HO209.out (fun k_ hk => (⟨hk, hk.1.2.2.2⟩ : _ ∧ k_ ≠ gb206))) (fun _ hk => hk.2) (.slice Ao57 t207.length co57)) (fun _ hk => hk.2) (.slice Ao61 t210.length co61)) (fun _ hk => hk.2) (.int .i64 t213)) (fun _ hk => hk.2) (.bool t214)) (fun _ hk => ⟨hk.1.1.1, hk.1.1.2.1⟩), by (with_reducible repeat (first | apply Kd.N_alloc | apply Kd.N_drewN | apply Kd.N_drew)); exact Kd.N_mono (Kd.N_far (p := ⟨gb206, 3, none⟩) (Kd.N_far (p := ⟨gb206, 2, none⟩) (Kd.N_far (p := ⟨gb206, 1, none⟩) (Kd.N_far (p := ⟨gb206, 0, none⟩) (Kd.N_mono HO212.out (fun k_ hk => (⟨hk, hk.1.2.2.2⟩ : _ ∧ k_ ≠ gb206))) (fun _ hk => hk.2) (.slice Ao57 t207.length co57)) (fun _ hk => hk.2) (.slice Ao61 t210.length co61)) (fun _ hk => hk.2) (.int .i64 t213)) (fun _ hk => hk.2) (.bool t214)) (fun _ hk => ⟨hk.1.1.1, hk.1.1.2.1⟩), by repeat (first | (with_reducible first | exact HB.out | apply aJ | apply aE | apply aH | refine aG ?_ GE205.out | refine aG ?_ GE206.out | refine aG ?_ GE215.out) | exact HB.out)⟩
def impl_within.f (a0 : Int) (a1 : Int) (a2 : Int) : Option (Bool) := if a0 ≥ a1 then (some (decide (a0 ≤ a2))) else (some false)
set_option maxHeartbeats 8000000 in
set_option maxRecDepth 100000 in
theorem impl_within.calls (a0 : Int) (a1 : Int) (a2 : Int) (r : Bool) (w : World) (h : impl_within.f a0 a1 a2 = some r) :
  Calls Try.prog 44 #[.int .i64 a0, .int .i64 a1, .int .i64 a2] w fun e w' => e = .returned (.bool r) ∧ bD w w' := by
 have H : (if a0 ≥ a1 then (some (decide (a0 ≤ a2))) else (some false)) = some r := h
 clear h
 by_cases c4 : a0 ≥ a1
 ·rw [if_pos c4] at H
  have c4b0 : decide (a1 ≤ a0) = true := decide_eq_true c4
  clear c4
  obtain rfl := Option.some.inj H
  go_enter Try.func44, Try.ntmps44
  go_wp2
  go_ret
  exact ⟨by first | rfl | (simp; done) | (simp [*]; done), by repeat (first | exact bD.refl _ | apply bD.step)⟩
 ·rw [if_neg c4] at H
  have c4b0 : decide (a1 ≤ a0) = false := decide_eq_false c4
  clear c4
  obtain rfl := Option.some.inj H
  go_enter Try.func44, Try.ntmps44
  go_wp2
  go_ret
  exact ⟨by first | rfl | (simp; done) | (simp [*]; done), by repeat (first | exact bD.refl _ | apply bD.step)⟩
end Go.Proofs.Ytilhcaofpfeioaa.PFnExactFallDev

namespace Go.Proofs.Ytilhcaofpfeioaa.PFnExactFallDev
open Go.RowKit Go.Proofs.YtilhcaofpfeioaaW.PrintWords Go.Proofs.YtilhcaofpfeioaaW.PrintLast Go.Proofs.YtilhcaofpfeioaaW.PrintMore
attribute [local go_sem] max2_int min2_int max_two min_two max_three min_three max_four min_four   -- for this text's walks alone
set_option linter.unusedVariables false
set_option linter.unusedSimpArgs false
mutual
def impl_DevOk.j0 : Nat → Bool → List (List Int) → List (S50) → Int → Bool → Option (Bool)
 | 0, _, _, _, _, _ => none
 | k + 1, x23, x225000, x225001, x225002, x225003 => if x23 = true then (some false) else (impl_DevOk.l0 k x225000 (x225000.length : Int) 0 x225000 x225001 x225002 x225003)
def impl_DevOk.l0 : Nat → List (List Int) → Int → Int → List (List Int) → List (S50) → Int → Bool → Option (Bool)
 | 0, _, _, _, _, _, _, _ => none
 | k + 1, x25, x26, x27, x225000, x225001, x225002, x225003 => if x27 < x26 then (if 0 ≤ x27 then (if x27 < (x25.length : Int) then (if ((rd_L1 x25 x27).length : Int) > 80 then (some false) else (impl_DevOk.l0 k x25 x26 (wrap64 (x27 + 1)) x225000 x225001 x225002 x225003)) else (none)) else (none)) else (impl_DevOk.l1 k x225001 (x225001.length : Int) 0 x225000 x225001 x225002 x225003)
def impl_DevOk.l1 : Nat → List (S50) → Int → Int → List (List Int) → List (S50) → Int → Bool → Option (Bool)
 | 0, _, _, _, _, _, _, _ => none
 | k + 1, x36, x37, x38, x225000, x225001, x225002, x225003 => if x38 < x37 then (if 0 ≤ x38 then (if x38 < (x36.length : Int) then ((impl_within.f ((rd_T50 x36 x38).f0) 0 (wrap64 ((x225000.length : Int) - 1))).bind fun t230 => (if t230 = true then (if (((rd_T50 x36 x38).f1).length : Int) > 80 then (some false) else (impl_DevOk.l1 k x36 x37 (wrap64 (x38 + 1)) x225000 x225001 x225002 x225003)) else (some false))) else (none)) else (none)) else (some true)
end
def impl_DevOk.f (k : Nat) (l0_0 : List (List Int)) (l0_1 : List (S50)) (a0_2 : Int) (a0_3 : Bool) : Option (Bool) := (impl_within.f (l0_0.length : Int) 1 60).bind fun t225 => (if t225 = true then (if (l0_1.length : Int) > 60 then (impl_DevOk.j0 k true l0_0 l0_1 a0_2 a0_3) else ((impl_within.f a0_2 (-1) 1000).bind fun t226 => (impl_DevOk.j0 k (!t226) l0_0 l0_1 a0_2 a0_3))) else (impl_DevOk.j0 k true l0_0 l0_1 a0_2 a0_3))
set_option maxHeartbeats 8000000 in
set_option maxRecDepth 100000 in
theorem impl_DevOk.calls (k : Nat) (A0_0 : Option Addr) (c0_0 : Nat) (l0_0 : List (List Int)) (A0_1 : Option Addr) (c0_1 : Nat) (l0_1 : List (S50)) (a0_2 : Int) (a0_3 : Bool) (r : Bool) (w : World) (hr0_0 : Kd.C (Kd.slice 5 (Kd.int .u8)) w A0_0 l0_0.length l0_0) (hc0_0 : l0_0.length ≤ c0_0) (hr0_1 : Kd.C k50 w A0_1 l0_1.length l0_1) (hc0_1 : l0_1.length ≤ c0_1) (h : impl_DevOk.f k l0_0 l0_1 a0_2 a0_3 = some r) :
  Calls Try.prog 20 #[.agg #[.slice A0_0 l0_0.length c0_0, .slice A0_1 l0_1.length c0_1, .int .i64 a0_2, .bool a0_3]] w fun e w' => e = .returned (.bool r) ∧ Below w.heap.size w w' := by
 have hu25 := Try.underlying25
 have hu50 := Try.underlying50
 have HR0_0 := aC.mk hr0_0
 have HC0_0 := aC.mk hc0_0
 clear hr0_0 hc0_0
 have HR0_1 := aC.mk hr0_1
 have HC0_1 := aC.mk hc0_1
 clear hr0_1 hc0_1
 have HB := aC.mk (Below.refl w.heap.size w)
 have H : ((impl_within.f (l0_0.length : Int) 1 60).bind fun t225 => (if t225 = true then (if (l0_1.length : Int) > 60 then (impl_DevOk.j0 k true l0_0 l0_1 a0_2 a0_3) else ((impl_within.f a0_2 (-1) 1000).bind fun t226 => (impl_DevOk.j0 k (!t226) l0_0 l0_1 a0_2 a0_3))) else (impl_DevOk.j0 k true l0_0 l0_1 a0_2 a0_3))) = some r := h
 clear h
 have HC2 := aC.mk H
 clear H
 go_enter Try.func20, Try.ntmps20
 go_upto_region 1 with (first | ((with_reducible refine bC (N := 1) rfl ?_); (try (refine gate_guard (by rfl) ?_; dsimp only)); refine bB ?hg (N := 1) ?hd (cs := #[.slice A0_0 l0_0.length c0_0, .slice A0_1 l0_1.length c0_1, .int .i64 a0_2, .bool a0_3]) (t := 25) ?hr ?_; (case hd => rfl); (case hg => rfl); (case hr => first | (go_simp; done) | (go_simp; rfl)); intro gb224 hg w3 hbox hb; have n0_ := aC.mk (aU (by repeat (first | (with_reducible first | exact HB.out | apply aJ | apply aE | apply aH) | exact HB.out)) hb); have n1_ := aC.mk (hbox); have n2_ := aC.mk ((by rw [hg]; exact (aW (by repeat (first | (with_reducible first | exact HB.out | apply aJ | apply aE | apply aH) | exact HB.out))) : w.heap.size ≤ gb224)); have n3_ := aC.mk ((by rw [hg]; exact (aW (by repeat (first | (with_reducible first | exact HB.out | apply aJ | apply aE | apply aH) | exact HB.out))) : w.heap.size ≤ gb224)); clear HB; have HB := n0_; have BK224 := n1_; have GW224 := n2_; have GE224 := n3_; clear n0_ n1_ n2_ n3_; clear hb hbox hg))
 (try simp only [Act.put, lA, lB, lC])
 go_cut [23] (fun v23 wc => ∃ (kq : Nat) (x23_1 : Bool), v23 = .bool x23_1 ∧ aC (impl_DevOk.j0 kq x23_1 l0_0 l0_1 a0_2 a0_3 = some r) ∧ aC (kq ≤ k) ∧ aC (wc.heap[gb224]? = some (.cells #[(.slice A0_0 l0_0.length c0_0), (.slice A0_1 l0_1.length c0_1), .int .i64 a0_2, .bool a0_3] 25 (0, 0))) ∧ aC (Below w.heap.size w wc))
 case first =>
  have H := HC2.out
  clear HC2
  replace H := lF H
  obtain ⟨t225, A40, H⟩ := H
  replace H : (if t225 = true then (if (l0_1.length : Int) > 60 then (impl_DevOk.j0 k true l0_0 l0_1 a0_2 a0_3) else ((impl_within.f a0_2 (-1) 1000).bind fun t226 => (impl_DevOk.j0 k (!t226) l0_0 l0_1 a0_2 a0_3))) else (impl_DevOk.j0 k true l0_0 l0_1 a0_2 a0_3)) = some r := H
  have A4 := aC.mk A40
  clear A40
  by_cases c5 : t225 = true
  ·subst c5
   have H1 : (if (l0_1.length : Int) > 60 then (impl_DevOk.j0 k true l0_0 l0_1 a0_2 a0_3) else ((impl_within.f a0_2 (-1) 1000).bind fun t226 => (impl_DevOk.j0 k (!t226) l0_0 l0_1 a0_2 a0_3))) = some r := by rw [if_pos rfl] at H; exact H
   clear H
   have H := H1
   clear H1
   by_cases c6 : (l0_1.length : Int) > 60
   ·rw [if_pos c6] at H
    have c6b0 : decide (60 < (l0_1.length : Int)) = true := decide_eq_true c6
    have c6b1 : decide (60 < l0_1.length) = true := decide_eq_true (by omega)
    clear c6
    (first | rw [c6b0] | (simp only [bF, bE]; rw [c6b0]) | skip)
    have H' := aC.mk H
    clear H
    have hcz7_0 : w3.cell? ⟨gb224, 0, none⟩ = some (.slice A0_0 l0_0.length c0_0) := (aD BK224.out 0).trans rfl
    have hcz7_1 : w3.cell? ⟨gb224, 1, none⟩ = some (.slice A0_1 l0_1.length c0_1) := (aD BK224.out 1).trans rfl
    have hcz7_2 : w3.cell? ⟨gb224, 2, none⟩ = some (.int .i64 a0_2) := (aD BK224.out 2).trans rfl
    have hcz7_3 : w3.cell? ⟨gb224, 3, none⟩ = some (.bool a0_3) := (aD BK224.out 3).trans rfl
    have hfz7_0 := aA BK224.out 0
    have hfz7_1 := aA BK224.out 1
    have hfz7_2 := aA BK224.out 2
    have hfz7_3 := aA BK224.out 3
    go_wp2_with (first | ((with_reducible refine aX (f := 44) rfl ?_); refine bM (some 10) rfl rfl Try.func44 (by kernel_rfl) rfl #[.int .i64 (l0_0.length : Int), .int .i64 1, .int .i64 60] rfl (by (try simp only [List.map_toArray, List.map_cons, List.map_nil]); first | done | rfl | (simp only [List.length_drop, List.length_take]; rfl)) ?_; (with_reducible refine (impl_within.calls (l0_0.length : Int) 1 60 true _ A4.out).mono ?_); rintro e w' ⟨rfl, ⟨nd, rfl⟩⟩; refine ⟨_, rfl, ?_⟩))
    go_meet
    case rel => exact ⟨_, (true), (by first | rfl | (simp; done) | (simp [*]; done)), H', ⟨by first | omega | exact Nat.le_refl _⟩, ⟨by (with_reducible repeat (first | refine aN ?_ _ | refine aQ ?_ | refine aM ?_ _)); exact BK224.out⟩, ⟨by repeat (first | (with_reducible first | exact HB.out | apply aJ | apply aE | apply aH | refine aG ?_ GE224.out) | exact HB.out)⟩⟩
   ·rw [if_neg c6] at H
    have c6b0 : decide (60 < (l0_1.length : Int)) = false := decide_eq_false c6
    have c6b1 : decide (60 < l0_1.length) = false := decide_eq_false (by omega)
    clear c6
    (first | rw [c6b0] | (simp only [bF, bE]; rw [c6b0]) | skip)
    replace H := lF H
    obtain ⟨t226, A80, H⟩ := H
    replace H : (impl_DevOk.j0 k (!t226) l0_0 l0_1 a0_2 a0_3) = some r := H
    have A8 := aC.mk A80
    clear A80
    have H' := aC.mk H
    clear H
    have hcz9_0 : w3.cell? ⟨gb224, 0, none⟩ = some (.slice A0_0 l0_0.length c0_0) := (aD BK224.out 0).trans rfl
    have hcz9_1 : w3.cell? ⟨gb224, 1, none⟩ = some (.slice A0_1 l0_1.length c0_1) := (aD BK224.out 1).trans rfl
    have hcz9_2 : w3.cell? ⟨gb224, 2, none⟩ = some (.int .i64 a0_2) := (aD BK224.out 2).trans rfl
    have hcz9_3 : w3.cell? ⟨gb224, 3, none⟩ = some (.bool a0_3) := (aD BK224.out 3).trans rfl
    have hfz9_0 := aA BK224.out 0
    have hfz9_1 := aA BK224.out 1
    have hfz9_2 := aA BK224.out 2
    have hfz9_3 := aA BK224.out 3
    go_wp2_with (first | ((with_reducible refine aX (f := 44) rfl ?_); refine bM (some 10) rfl rfl Try.func44 (by kernel_rfl) rfl #[.int .i64 (l0_0.length : Int), .int .i64 1, .int .i64 60] rfl (by (try simp only [List.map_toArray, List.map_cons, List.map_nil]); first | done | rfl | (simp only [List.length_drop, List.length_take]; rfl)) ?_; (with_reducible refine (impl_within.calls (l0_0.length : Int) 1 60 true _ A4.out).mono ?_); rintro e w' ⟨rfl, ⟨nd, rfl⟩⟩; refine ⟨_, rfl, ?_⟩) | (go_at_call 44; (with_reducible refine (impl_within.calls a0_2 (-1) 1000 t226 _ A8.out).mono ?_); rintro e w' ⟨rfl, ⟨nd, rfl⟩⟩))
    go_meet
    case rel => exact ⟨_, (!t226), (by first | rfl | (simp; done) | (simp [*]; done)), H', ⟨by first | omega | exact Nat.le_refl _⟩, ⟨by (with_reducible repeat (first | refine aN ?_ _ | refine aQ ?_ | refine aM ?_ _)); exact BK224.out⟩, ⟨by repeat (first | (with_reducible first | exact HB.out | apply aJ | apply aE | apply aH | refine aG ?_ GE224.out) | exact HB.out)⟩⟩
  ·replace c5 := Bool.eq_false_iff.mpr c5
   subst c5
   have H1 : (impl_DevOk.j0 k true l0_0 l0_1 a0_2 a0_3) = some r := by rw [if_neg (show ¬ (false = true) by decide)] at H; exact H
   clear H
   have H := H1
   clear H1
   have H' := aC.mk H
   clear H
   have hcz10_0 : w3.cell? ⟨gb224, 0, none⟩ = some (.slice A0_0 l0_0.length c0_0) := (aD BK224.out 0).trans rfl
   have hcz10_1 : w3.cell? ⟨gb224, 1, none⟩ = some (.slice A0_1 l0_1.length c0_1) := (aD BK224.out 1).trans rfl
   have hcz10_2 : w3.cell? ⟨gb224, 2, none⟩ = some (.int .i64 a0_2) := (aD BK224.out 2).trans rfl
   have hcz10_3 : w3.cell? ⟨gb224, 3, none⟩ = some (.bool a0_3) := (aD BK224.out 3).trans rfl
   have hfz10_0 := aA BK224.out 0
   have hfz10_1 := aA BK224.out 1
   have hfz10_2 := aA BK224.out 2
   have hfz10_3 := aA BK224.out 3
   go_wp2_with (first | ((with_reducible refine aX (f := 44) rfl ?_); refine bM (some 10) rfl rfl Try.func44 (by kernel_rfl) rfl #[.int .i64 (l0_0.length : Int), .int .i64 1, .int .i64 60] rfl (by (try simp only [List.map_toArray, List.map_cons, List.map_nil]); first | done | rfl | (simp only [List.length_drop, List.length_take]; rfl)) ?_; (with_reducible refine (impl_within.calls (l0_0.length : Int) 1 60 false _ A4.out).mono ?_); rintro e w' ⟨rfl, ⟨nd, rfl⟩⟩; refine ⟨_, rfl, ?_⟩))
   go_meet
   case rel => exact ⟨_, (true), (by first | rfl | (simp; done) | (simp [*]; done)), H', ⟨by first | omega | exact Nat.le_refl _⟩, ⟨by (with_reducible repeat (first | refine aN ?_ _ | refine aQ ?_ | refine aM ?_ _)); exact BK224.out⟩, ⟨by repeat (first | (with_reducible first | exact HB.out | apply aJ | apply aE | apply aH | refine aG ?_ GE224.out) | exact HB.out)⟩⟩
 case rest =>
  clear HC2
  try clear c2
  try clear p2
  try clear c4
  try clear c5
  try clear c6
  try clear c6b0
  try clear c6b1
  try clear hcz10_0
  try clear hcz10_1
  try clear hcz10_2
  try clear hcz10_3
  try clear hcz7_0
  try clear hcz7_1
  try clear hcz7_2
  try clear hcz7_3
  try clear hcz9_0
  try clear hcz9_1
  try clear hcz9_2
  try clear hcz9_3
  try clear hfz10_0
  try clear hfz10_1
  try clear hfz10_2
  try clear hfz10_3
  try clear hfz7_0
  try clear hfz7_1
  try clear hfz7_2
  try clear hfz7_3
  try clear hfz9_0
  try clear hfz9_1
  try clear hfz9_2
  try clear hfz9_3
  obtain ⟨kq, x23_1, rfl, HA, HJ1, BK224, HB⟩ := hcut
  cases kq with
  | zero => exact absurd HA.out (by simp [impl_DevOk.j0])
  | succ kj1 =>
   have H := HA.out
   clear HA
   simp only [impl_DevOk.j0] at H
   by_cases c11 : x23_1 = true
   ·subst c11
    have H1 : (some false) = some r := by rw [if_pos rfl] at H; exact H
    clear H
    have H := H1
    clear H1
    obtain rfl := Option.some.inj H
    go_wp2
    go_ret
    exact ⟨by first | rfl | (simp [errW_none, errW_some] <;> rfl) | (simp [*, errW_none, errW_some] <;> rfl), by repeat (first | (with_reducible first | exact HB.out | apply aJ | apply aE | apply aH | refine aG ?_ GE224.out) | exact HB.out)⟩
   ·replace c11 := Bool.eq_false_iff.mpr c11
    subst c11
    have H1 : (impl_DevOk.l0 kj1 l0_0 (l0_0.length : Int) 0 l0_0 l0_1 a0_2 a0_3) = some r := by rw [if_neg (show ¬ (false = true) by decide)] at H; exact H
    clear H
    have H := H1
    clear H1
    have H' := aC.mk H
    clear H
    have hcz12_0 : wc.cell? ⟨gb224, 0, none⟩ = some (.slice A0_0 l0_0.length c0_0) := (aD BK224.out 0).trans rfl
    have hcz12_1 : wc.cell? ⟨gb224, 1, none⟩ = some (.slice A0_1 l0_1.length c0_1) := (aD BK224.out 1).trans rfl
    have hcz12_2 : wc.cell? ⟨gb224, 2, none⟩ = some (.int .i64 a0_2) := (aD BK224.out 2).trans rfl
    have hcz12_3 : wc.cell? ⟨gb224, 3, none⟩ = some (.bool a0_3) := (aD BK224.out 3).trans rfl
    have hfz12_0 := aA BK224.out 0
    have hfz12_1 := aA BK224.out 1
    have hfz12_2 := aA BK224.out 2
    have hfz12_3 := aA BK224.out 3
    go_wp2
    go_loopg [27] kj1 (fun kq v27 w' => ∃ (x27_2 : Int), v27 = .int .i64 x27_2 ∧ aC (impl_DevOk.l0 kq l0_0 (l0_0.length : Int) x27_2 l0_0 l0_1 a0_2 a0_3 = some r) ∧ aC (kq ≤ kj1) ∧ aC (w'.heap[gb224]? = some (.cells #[(.slice A0_0 l0_0.length c0_0), (.slice A0_1 l0_1.length c0_1), .int .i64 a0_2, .bool a0_3] 25 (0, 0))) ∧ aC (Below w.heap.size w w'))
    case atStart => exact ⟨(0), (by first | rfl | (simp; done) | (simp [*]; done)), H', ⟨Nat.le_refl _⟩, ⟨by (with_reducible repeat (first | refine aN ?_ _ | refine aQ ?_ | refine aM ?_ _)); exact BK224.out⟩, ⟨by repeat (first | (with_reducible first | exact HB.out | apply aJ | apply aE | apply aH | refine aG ?_ GE224.out) | exact HB.out)⟩⟩
    case round =>
     clear H'
     try clear c1
     try clear c2
     try clear p2
     try clear c4
     try clear c5
     try clear c6
     try clear c6b0
     try clear c6b1
     try clear c11
     try clear hcz10_0
     try clear hcz10_1
     try clear hcz10_2
     try clear hcz10_3
     try clear hcz12_0
     try clear hcz12_1
     try clear hcz12_2
     try clear hcz12_3
     try clear hcz7_0
     try clear hcz7_1
     try clear hcz7_2
     try clear hcz7_3
     try clear hcz9_0
     try clear hcz9_1
     try clear hcz9_2
     try clear hcz9_3
     try clear hfz10_0
     try clear hfz10_1
     try clear hfz10_2
     try clear hfz10_3
     try clear hfz12_0
     try clear hfz12_1
     try clear hfz12_2
     try clear hfz12_3
     try clear hfz7_0
     try clear hfz7_1
     try clear hfz7_2
     try clear hfz7_3
     try clear hfz9_0
     try clear hfz9_1
     try clear hfz9_2
     try clear hfz9_3
     try clear p2
     obtain ⟨x27_2, rfl, HA, HK2, BK224, HB⟩ := hrel
     cases gk with
     | zero => exact absurd HA.out (by simp [impl_DevOk.l0])
     | succ k2 =>
      have H := HA.out
      clear HA
      simp only [impl_DevOk.l0] at H
      by_cases c13 : x27_2 < (l0_0.length : Int)
      ·rw [if_pos c13] at H
       have c13b0 : decide (x27_2 < (l0_0.length : Int)) = true := decide_eq_true c13
       clear c13
       by_cases c14 : 0 ≤ x27_2
       ·rw [if_pos c14] at H
        have c14b0 : decide (0 ≤ x27_2) = true := decide_eq_true c14
        clear c14
        by_cases c15 : x27_2 < (l0_0.length : Int)
        ·rw [if_pos c15] at H
         have c15b0 : decide (x27_2 < (l0_0.length : Int)) = true := decide_eq_true c15
         clear c15
         by_cases c16 : ((rd_L1 l0_0 x27_2).length : Int) > 80
         ·rw [if_pos c16] at H
          have c16b0 : decide (80 < ((rd_L1 l0_0 x27_2).length : Int)) = true := decide_eq_true c16
          have c16b1 : decide (80 < (rd_L1 l0_0 x27_2).length) = true := decide_eq_true (by omega)
          clear c16
          obtain rfl := Option.some.inj H
          have p227 : 0 ≤ (x27_2 : Int) := lE (by first | (with_reducible assumption) | assumption)
          have q227 : x27_2 < (l0_0.length : Int) := lE (by first | (with_reducible assumption) | assumption)
          obtain ⟨ad227, A227_0, c227_0, e227, hx227_0, hl227_0, hi227_0⟩ := at_L1 HR0_0.out x27_2 p227 q227
          cases e227
          replace hx227_0 := (HB.out.cell (lD w _ hx227_0)).trans hx227_0
          have HR227_0 := aC.mk hi227_0
          have HC227_0 := aC.mk hl227_0
          clear hi227_0 hl227_0
          replace p227 := eq_true p227
          replace q227 := eq_true q227
          go_wp2
          go_ret
          exact ⟨by first | rfl | (simp [errW_none, errW_some] <;> rfl) | (simp [*, errW_none, errW_some] <;> rfl), by repeat (first | (with_reducible first | exact HB.out | apply aJ | apply aE | apply aH | refine aG ?_ GE224.out) | exact HB.out)⟩
         ·rw [if_neg c16] at H
          have c16b0 : decide (80 < ((rd_L1 l0_0 x27_2).length : Int)) = false := decide_eq_false c16
          have c16b1 : decide (80 < (rd_L1 l0_0 x27_2).length) = false := decide_eq_false (by omega)
          clear c16
          have H' := aC.mk H
          clear H
          have p227 : 0 ≤ (x27_2 : Int) := lE (by first | (with_reducible assumption) | assumption)
          have q227 : x27_2 < (l0_0.length : Int) := lE (by first | (with_reducible assumption) | assumption)
          obtain ⟨ad227, A227_0, c227_0, e227, hx227_0, hl227_0, hi227_0⟩ := at_L1 HR0_0.out x27_2 p227 q227
          cases e227
          replace hx227_0 := (HB.out.cell (lD w _ hx227_0)).trans hx227_0
          have HR227_0 := aC.mk hi227_0
          have HC227_0 := aC.mk hl227_0
          clear hi227_0 hl227_0
          replace p227 := eq_true p227
          replace q227 := eq_true q227
          go_wp2
          go_roundg k2
          case measure => have := HJ1.out; have := HK2.out; omega
          case rel => exact ⟨(wrap64 (x27_2 + 1)), (by first | rfl | (simp; done) | (simp [*]; done)), H', ⟨by have := HJ1.out; have := HK2.out; omega⟩, ⟨by (with_reducible repeat (first | refine aN ?_ _ | refine aQ ?_ | refine aM ?_ _)); exact BK224.out⟩, ⟨by repeat (first | (with_reducible first | exact HB.out | apply aJ | apply aE | apply aH | refine aG ?_ GE224.out) | exact HB.out)⟩⟩
        ·rw [if_neg c15] at H
         exact absurd H (by simp)
       ·rw [if_neg c14] at H
        exact absurd H (by simp)
      ·rw [if_neg c13] at H
       have c13b0 : decide (x27_2 < (l0_0.length : Int)) = false := decide_eq_false c13
       clear c13
       have H' := aC.mk H
       clear H
       have hcz17_0 : wr.cell? ⟨gb224, 0, none⟩ = some (.slice A0_0 l0_0.length c0_0) := (aD BK224.out 0).trans rfl
       have hcz17_1 : wr.cell? ⟨gb224, 1, none⟩ = some (.slice A0_1 l0_1.length c0_1) := (aD BK224.out 1).trans rfl
       have hcz17_2 : wr.cell? ⟨gb224, 2, none⟩ = some (.int .i64 a0_2) := (aD BK224.out 2).trans rfl
       have hcz17_3 : wr.cell? ⟨gb224, 3, none⟩ = some (.bool a0_3) := (aD BK224.out 3).trans rfl
       have hfz17_0 := aA BK224.out 0
       have hfz17_1 := aA BK224.out 1
       have hfz17_2 := aA BK224.out 2
       have hfz17_3 := aA BK224.out 3
       go_wp2
       go_loopg [38] k2 (fun kq v38 w' => ∃ (x38_3 : Int), v38 = .int .i64 x38_3 ∧ aC (impl_DevOk.l1 kq l0_1 (l0_1.length : Int) x38_3 l0_0 l0_1 a0_2 a0_3 = some r) ∧ aC (kq ≤ k2) ∧ aC (w'.heap[gb224]? = some (.cells #[(.slice A0_0 l0_0.length c0_0), (.slice A0_1 l0_1.length c0_1), .int .i64 a0_2, .bool a0_3] 25 (0, 0))) ∧ aC (Below w.heap.size w w'))
       case atStart => exact ⟨(0), (by first | rfl | (simp; done) | (simp [*]; done)), H', ⟨Nat.le_refl _⟩, ⟨by (with_reducible repeat (first | refine aN ?_ _ | refine aQ ?_ | refine aM ?_ _)); exact BK224.out⟩, ⟨by repeat (first | (with_reducible first | exact HB.out | apply aJ | apply aE | apply aH | refine aG ?_ GE224.out) | exact HB.out)⟩⟩
       case round =>
        clear H'
        try clear c1
        try clear c2
        try clear p2
        try clear q2
        try clear hx2
        try clear c4
        try clear c5
        try clear c6
        try clear c6b0
        try clear c6b1
        try clear p6
        try clear c11
        try clear c13
        try clear c13b0
        try clear c14
        try clear c14b0
        try clear c15
        try clear c15b0
        try clear c16
        try clear c16b0
        try clear c16b1
        try clear hcz10_0
        try clear hcz10_1
        try clear hcz10_2
        try clear hcz10_3
        try clear hcz12_0
        try clear hcz12_1
        try clear hcz12_2
        try clear hcz12_3
        try clear hcz17_0
        try clear hcz17_1
        try clear hcz17_2
        try clear hcz17_3
        try clear hcz7_0
        try clear hcz7_1
        try clear hcz7_2
        try clear hcz7_3
        try clear hcz9_0
        try clear hcz9_1
        try clear hcz9_2
        try clear hcz9_3
        try clear hfz10_0
        try clear hfz10_1
        try clear hfz10_2
        try clear hfz10_3
        try clear hfz12_0
        try clear hfz12_1
        try clear hfz12_2
        try clear hfz12_3
        try clear hfz17_0
        try clear hfz17_1
        try clear hfz17_2
        try clear hfz17_3
        try clear hfz7_0
        try clear hfz7_1
        try clear hfz7_2
        try clear hfz7_3
        try clear hfz9_0
        try clear hfz9_1
        try clear hfz9_2
        try clear hfz9_3
        try clear hx227_0
        try clear p2
        try clear p227
        try clear q227
        obtain ⟨x38_3, rfl, HA, HK3, BK224, HB⟩ := hrel
        cases gk with
        | zero => exact absurd HA.out (by simp [impl_DevOk.l1])
        | succ k3 =>
         have H := HA.out
         clear HA
         simp only [impl_DevOk.l1] at H
         by_cases c18 : x38_3 < (l0_1.length : Int)
         ·rw [if_pos c18] at H
          have c18b0 : decide (x38_3 < (l0_1.length : Int)) = true := decide_eq_true c18
          clear c18
          by_cases c19 : 0 ≤ x38_3
          ·rw [if_pos c19] at H
           have c19b0 : decide (0 ≤ x38_3) = true := decide_eq_true c19
           clear c19
           by_cases c20 : x38_3 < (l0_1.length : Int)
           ·rw [if_pos c20] at H
            have c20b0 : decide (x38_3 < (l0_1.length : Int)) = true := decide_eq_true c20
            clear c20
            replace H := lF H
            obtain ⟨t230, A210, H⟩ := H
            replace H : (if t230 = true then (if (((rd_T50 l0_1 x38_3).f1).length : Int) > 80 then (some false) else (impl_DevOk.l1 k3 l0_1 (l0_1.length : Int) (wrap64 (x38_3 + 1)) l0_0 l0_1 a0_2 a0_3)) else (some false)) = some r := H
            have A21 := aC.mk A210
            clear A210
            by_cases c22 : t230 = true
            ·subst c22
             have H1 : (if (((rd_T50 l0_1 x38_3).f1).length : Int) > 80 then (some false) else (impl_DevOk.l1 k3 l0_1 (l0_1.length : Int) (wrap64 (x38_3 + 1)) l0_0 l0_1 a0_2 a0_3)) = some r := by rw [if_pos rfl] at H; exact H
             clear H
             have H := H1
             clear H1
             by_cases c23 : (((rd_T50 l0_1 x38_3).f1).length : Int) > 80
             ·rw [if_pos c23] at H
              have c23b0 : decide (80 < (((rd_T50 l0_1 x38_3).f1).length : Int)) = true := decide_eq_true c23
              have c23b1 : decide (80 < ((rd_T50 l0_1 x38_3).f1).length) = true := decide_eq_true (by omega)
              clear c23
              obtain rfl := Option.some.inj H
              have p228 : 0 ≤ (x38_3 : Int) := lE (by first | (with_reducible assumption) | assumption)
              have q228 : x38_3 < (l0_1.length : Int) := lE (by first | (with_reducible assumption) | assumption)
              obtain ⟨ad228, A228_1, c228_1, e228, hx228_0, hx228_1, hl228_1, hi228_1⟩ := at_T50 HR0_1.out x38_3 p228 q228
              cases e228
              replace hx228_0 := (HB.out.cell (lD w _ hx228_0)).trans hx228_0
              replace hx228_1 := (HB.out.cell (lD w _ hx228_1)).trans hx228_1
              have HR228_1 := aC.mk hi228_1
              have HC228_1 := aC.mk hl228_1
              clear hi228_1 hl228_1
              replace p228 := eq_true p228
              replace q228 := eq_true q228
              go_wp2_with (first | ((with_reducible refine bC (N := 6) rfl ?_); (try (refine gate_guard (by rfl) ?_; dsimp only)); refine bB ?hg (N := 6) ?hd (cs := #[.int .i64 0, .slice none 0 0]) (t := 50) ?hr ?_; (case hd => rfl); (case hg => rfl); (case hr => first | (go_simp; done) | (go_simp; rfl)); intro gb229 hg w24 hbox hb; have n0_ := aC.mk (aT (g := gb224) (o := .cells #[.slice A0_0 l0_0.length c0_0, .slice (some ad228) l0_1.length c0_1, .int .i64 a0_2, .bool a0_3] 25 (0, 0)) (by (with_reducible repeat (first | refine aN ?_ _ | refine aQ ?_ | refine aM ?_ _)); exact BK224.out) hb); have n1_ := aC.mk (aU (by repeat (first | (with_reducible first | exact HB.out | apply aJ | apply aE | apply aH | refine aG ?_ GE224.out) | exact HB.out)) hb); have n2_ := aC.mk (hbox); have n3_ := aC.mk ((by rw [hg]; exact (aW (by repeat (first | (with_reducible first | exact HB.out | apply aJ | apply aE | apply aH | refine aG ?_ GE224.out) | exact HB.out))) : w.heap.size ≤ gb229)); have n4_ := aC.mk ((by rw [hg]; exact (aW (by repeat (first | (with_reducible first | exact HB.out | apply aJ | apply aE | apply aH | refine aG ?_ GE224.out) | exact HB.out))) : w.heap.size ≤ gb229)); have n5_ := aC.mk ((by rw [hg]; exact Nat.ne_of_lt (bH (g := gb224) (o := .cells #[.slice A0_0 l0_0.length c0_0, .slice (some ad228) l0_1.length c0_1, .int .i64 a0_2, .bool a0_3] 25 (0, 0)) (by (with_reducible repeat (first | refine aN ?_ _ | refine aQ ?_ | refine aM ?_ _)); exact BK224.out)) : gb224 ≠ gb229)); have n6_ := aC.mk ((by rw [hg]; exact Nat.ne_of_gt (bH (g := gb224) (o := .cells #[.slice A0_0 l0_0.length c0_0, .slice (some ad228) l0_1.length c0_1, .int .i64 a0_2, .bool a0_3] 25 (0, 0)) (by (with_reducible repeat (first | refine aN ?_ _ | refine aQ ?_ | refine aM ?_ _)); exact BK224.out)) : gb229 ≠ gb224)); clear BK224; clear HB; have BK224 := n0_; have HB := n1_; have BK229 := n2_; have GW229 := n3_; have GE229 := n4_; have NB224_229 := n5_; have NB229_224 := n6_; clear n0_ n1_ n2_ n3_ n4_ n5_ n6_; clear hb hbox hg; have hnb25 := NB229_224.out; have hnc25 := NB224_229.out; have hcz26_0 : w24.cell? ⟨gb229, 0, none⟩ = some (.int .i64 0) := (aD BK229.out 0).trans rfl; have hcz26_1 : w24.cell? ⟨gb229, 1, none⟩ = some (.slice none 0 0) := (aD BK229.out 1).trans rfl; have hfz26_0 := aA BK229.out 0; have hfz26_1 := aA BK229.out 1; have hcz27_0 : w24.cell? ⟨gb224, 0, none⟩ = some (.slice A0_0 l0_0.length c0_0) := (aD BK224.out 0).trans rfl; have hcz27_1 : w24.cell? ⟨gb224, 1, none⟩ = some (.slice (some ad228) l0_1.length c0_1) := (aD BK224.out 1).trans rfl; have hcz27_2 : w24.cell? ⟨gb224, 2, none⟩ = some (.int .i64 a0_2) := (aD BK224.out 2).trans rfl; have hcz27_3 : w24.cell? ⟨gb224, 3, none⟩ = some (.bool a0_3) := (aD BK224.out 3).trans rfl; have hfz27_0 := aA BK224.out 0; have hfz27_1 := aA BK224.out 1; have hfz27_2 := aA BK224.out 2; have hfz27_3 := aA BK224.out 3) | ((with_reducible refine aX (f := 44) rfl ?_); refine bM (some 48) rfl rfl Try.func44 (by kernel_rfl) rfl #[.int .i64 ((rd_T50 l0_1 x38_3).f0), .int .i64 0, .int .i64 (wrap64 ((l0_0.length : Int) - 1))] rfl (by (try simp only [List.map_toArray, List.map_cons, List.map_nil]); first | done | rfl | (simp only [List.length_drop, List.length_take]; rfl)) ?_; (with_reducible refine (impl_within.calls ((rd_T50 l0_1 x38_3).f0) 0 (wrap64 ((l0_0.length : Int) - 1)) true _ A21.out).mono ?_); rintro e w' ⟨rfl, ⟨nd, rfl⟩⟩; refine ⟨_, rfl, ?_⟩))
              go_ret
              exact ⟨by first | rfl | (simp [errW_none, errW_some] <;> rfl) | (simp [*, errW_none, errW_some] <;> rfl), by repeat (first | (with_reducible first | exact HB.out | apply aJ | apply aE | apply aH | refine aG ?_ GE224.out | refine aG ?_ GE229.out) | exact HB.out)⟩
             ·rw [if_neg c23] at H
              have c23b0 : decide (80 < (((rd_T50 l0_1 x38_3).f1).length : Int)) = false := decide_eq_false c23
              have c23b1 : decide (80 < ((rd_T50 l0_1 x38_3).f1).length) = false := decide_eq_false (by omega)
              clear c23
              have H' := aC.mk H
              clear H
              have p228 : 0 ≤ (x38_3 : Int) := lE (by first | (with_reducible assumption) | assumption)
              have q228 : x38_3 < (l0_1.length : Int) := lE (by first | (with_reducible assumption) | assumption)
              obtain ⟨ad228, A228_1, c228_1, e228, hx228_0, hx228_1, hl228_1, hi228_1⟩ := at_T50 HR0_1.out x38_3 p228 q228
              cases e228
              replace hx228_0 := (HB.out.cell (lD w _ hx228_0)).trans hx228_0
              replace hx228_1 := (HB.out.cell (lD w _ hx228_1)).trans hx228_1
              have HR228_1 := aC.mk hi228_1
              have HC228_1 := aC.mk hl228_1
              clear hi228_1 hl228_1
              replace p228 := eq_true p228
              replace q228 := eq_true q228
              go_wp2_with (first | ((with_reducible refine bC (N := 6) rfl ?_); (try (refine gate_guard (by rfl) ?_; dsimp only)); refine bB ?hg (N := 6) ?hd (cs := #[.int .i64 0, .slice none 0 0]) (t := 50) ?hr ?_; (case hd => rfl); (case hg => rfl); (case hr => first | (go_simp; done) | (go_simp; rfl)); intro gb229 hg w28 hbox hb; have n0_ := aC.mk (aT (g := gb224) (o := .cells #[.slice A0_0 l0_0.length c0_0, .slice (some ad228) l0_1.length c0_1, .int .i64 a0_2, .bool a0_3] 25 (0, 0)) (by (with_reducible repeat (first | refine aN ?_ _ | refine aQ ?_ | refine aM ?_ _)); exact BK224.out) hb); have n1_ := aC.mk (aU (by repeat (first | (with_reducible first | exact HB.out | apply aJ | apply aE | apply aH | refine aG ?_ GE224.out) | exact HB.out)) hb); have n2_ := aC.mk (hbox); have n3_ := aC.mk ((by rw [hg]; exact (aW (by repeat (first | (with_reducible first | exact HB.out | apply aJ | apply aE | apply aH | refine aG ?_ GE224.out) | exact HB.out))) : w.heap.size ≤ gb229)); have n4_ := aC.mk ((by rw [hg]; exact (aW (by repeat (first | (with_reducible first | exact HB.out | apply aJ | apply aE | apply aH | refine aG ?_ GE224.out) | exact HB.out))) : w.heap.size ≤ gb229)); have n5_ := aC.mk ((by rw [hg]; exact Nat.ne_of_lt (bH (g := gb224) (o := .cells #[.slice A0_0 l0_0.length c0_0, .slice (some ad228) l0_1.length c0_1, .int .i64 a0_2, .bool a0_3] 25 (0, 0)) (by (with_reducible repeat (first | refine aN ?_ _ | refine aQ ?_ | refine aM ?_ _)); exact BK224.out)) : gb224 ≠ gb229)); have n6_ := aC.mk ((by rw [hg]; exact Nat.ne_of_gt (bH (g := gb224) (o := .cells #[.slice A0_0 l0_0.length c0_0, .slice (some ad228) l0_1.length c0_1, .int .i64 a0_2, .bool a0_3] 25 (0, 0)) (by (with_reducible repeat (first | refine aN ?_ _ | refine aQ ?_ | refine aM ?_ _)); exact BK224.out)) : gb229 ≠ gb224)); clear BK224; clear HB; have BK224 := n0_; have HB := n1_; have BK229 := n2_; have GW229 := n3_; have GE229 := n4_; have NB224_229 := n5_; have NB229_224 := n6_; clear n0_ n1_ n2_ n3_ n4_ n5_ n6_; clear hb hbox hg; have hnb29 := NB229_224.out; have hnc29 := NB224_229.out; have hcz30_0 : w28.cell? ⟨gb229, 0, none⟩ = some (.int .i64 0) := (aD BK229.out 0).trans rfl; have hcz30_1 : w28.cell? ⟨gb229, 1, none⟩ = some (.slice none 0 0) := (aD BK229.out 1).trans rfl; have hfz30_0 := aA BK229.out 0; have hfz30_1 := aA BK229.out 1; have hcz31_0 : w28.cell? ⟨gb224, 0, none⟩ = some (.slice A0_0 l0_0.length c0_0) := (aD BK224.out 0).trans rfl; have hcz31_1 : w28.cell? ⟨gb224, 1, none⟩ = some (.slice (some ad228) l0_1.length c0_1) := (aD BK224.out 1).trans rfl; have hcz31_2 : w28.cell? ⟨gb224, 2, none⟩ = some (.int .i64 a0_2) := (aD BK224.out 2).trans rfl; have hcz31_3 : w28.cell? ⟨gb224, 3, none⟩ = some (.bool a0_3) := (aD BK224.out 3).trans rfl; have hfz31_0 := aA BK224.out 0; have hfz31_1 := aA BK224.out 1; have hfz31_2 := aA BK224.out 2; have hfz31_3 := aA BK224.out 3) | ((with_reducible refine aX (f := 44) rfl ?_); refine bM (some 48) rfl rfl Try.func44 (by kernel_rfl) rfl #[.int .i64 ((rd_T50 l0_1 x38_3).f0), .int .i64 0, .int .i64 (wrap64 ((l0_0.length : Int) - 1))] rfl (by (try simp only [List.map_toArray, List.map_cons, List.map_nil]); first | done | rfl | (simp only [List.length_drop, List.length_take]; rfl)) ?_; (with_reducible refine (impl_within.calls ((rd_T50 l0_1 x38_3).f0) 0 (wrap64 ((l0_0.length : Int) - 1)) true _ A21.out).mono ?_); rintro e w' ⟨rfl, ⟨nd, rfl⟩⟩; refine ⟨_, rfl, ?_⟩))
              go_roundg k3
              case measure => have := HJ1.out; have := HK2.out; have := HK3.out; omega
              case rel => exact ⟨(wrap64 (x38_3 + 1)), (by first | rfl | (simp; done) | (simp [*]; done)), H', ⟨by have := HJ1.out; have := HK2.out; have := HK3.out; omega⟩, ⟨by (with_reducible repeat (first | refine aN ?_ _ | refine aQ ?_ | refine aM ?_ _)); refine blk_far ?_ NB224_229.out _; (with_reducible repeat (first | refine aN ?_ _ | refine aQ ?_ | refine aM ?_ _)); refine blk_far ?_ NB224_229.out _; (with_reducible repeat (first | refine aN ?_ _ | refine aQ ?_ | refine aM ?_ _)); exact BK224.out⟩, ⟨by repeat (first | (with_reducible first | exact HB.out | apply aJ | apply aE | apply aH | refine aG ?_ GE224.out | refine aG ?_ GE229.out) | exact HB.out)⟩⟩
            ·replace c22 := Bool.eq_false_iff.mpr c22
             subst c22
             have H1 : (some false) = some r := by rw [if_neg (show ¬ (false = true) by decide)] at H; exact H
             clear H
             have H := H1
             clear H1
             obtain rfl := Option.some.inj H
             have p228 : 0 ≤ (x38_3 : Int) := lE (by first | (with_reducible assumption) | assumption)
             have q228 : x38_3 < (l0_1.length : Int) := lE (by first | (with_reducible assumption) | assumption)
             obtain ⟨ad228, A228_1, c228_1, e228, hx228_0, hx228_1, hl228_1, hi228_1⟩ := at_T50 HR0_1.out x38_3 p228 q228
             cases e228
             replace hx228_0 := (HB.out.cell (lD w _ hx228_0)).trans hx228_0
             replace hx228_1 := (HB.out.cell (lD w _ hx228_1)).trans hx228_1
             have HR228_1 := aC.mk hi228_1
             have HC228_1 := aC.mk hl228_1
             clear hi228_1 hl228_1
             replace p228 := eq_true p228
             replace q228 := eq_true q228
             go_wp2_with (first | ((with_reducible refine bC (N := 6) rfl ?_); (try (refine gate_guard (by rfl) ?_; dsimp only)); refine bB ?hg (N := 6) ?hd (cs := #[.int .i64 0, .slice none 0 0]) (t := 50) ?hr ?_; (case hd => rfl); (case hg => rfl); (case hr => first | (go_simp; done) | (go_simp; rfl)); intro gb229 hg w32 hbox hb; have n0_ := aC.mk (aT (g := gb224) (o := .cells #[.slice A0_0 l0_0.length c0_0, .slice (some ad228) l0_1.length c0_1, .int .i64 a0_2, .bool a0_3] 25 (0, 0)) (by (with_reducible repeat (first | refine aN ?_ _ | refine aQ ?_ | refine aM ?_ _)); exact BK224.out) hb); have n1_ := aC.mk (aU (by repeat (first | (with_reducible first | exact HB.out | apply aJ | apply aE | apply aH | refine aG ?_ GE224.out) | exact HB.out)) hb); have n2_ := aC.mk (hbox); have n3_ := aC.mk ((by rw [hg]; exact (aW (by repeat (first | (with_reducible first | exact HB.out | apply aJ | apply aE | apply aH | refine aG ?_ GE224.out) | exact HB.out))) : w.heap.size ≤ gb229)); have n4_ := aC.mk ((by rw [hg]; exact (aW (by repeat (first | (with_reducible first | exact HB.out | apply aJ | apply aE | apply aH | refine aG ?_ GE224.out) | exact HB.out))) : w.heap.size ≤ gb229)); have n5_ := aC.mk ((by rw [hg]; exact Nat.ne_of_lt (bH (g := gb224) (o := .cells #[.slice A0_0 l0_0.length c0_0, .slice (some ad228) l0_1.length c0_1, .int .i64 a0_2, .bool a0_3] 25 (0, 0)) (by (with_reducible repeat (first | refine aN ?_ _ | refine aQ ?_ | refine aM ?_ _)); exact BK224.out)) : gb224 ≠ gb229)); have n6_ := aC.mk ((by rw [hg]; exact Nat.ne_of_gt (bH (g := gb224) (o := .cells #[.slice A0_0 l0_0.length c0_0, .slice (some ad228) l0_1.length c0_1, .int .i64 a0_2, .bool a0_3] 25 (0, 0)) (by (with_reducible repeat (first | refine aN ?_ _ | refine aQ ?_ | refine aM ?_ _)); exact BK224.out)) : gb229 ≠ gb224)); clear BK224; clear HB; have BK224 := n0_; have HB := n1_; have BK229 := n2_; have GW229 := n3_; have GE229 := n4_; have NB224_229 := n5_; have NB229_224 := n6_; clear n0_ n1_ n2_ n3_ n4_ n5_ n6_; clear hb hbox hg; have hnb33 := NB229_224.out; have hnc33 := NB224_229.out; have hcz34_0 : w32.cell? ⟨gb229, 0, none⟩ = some (.int .i64 0) := (aD BK229.out 0).trans rfl; have hcz34_1 : w32.cell? ⟨gb229, 1, none⟩ = some (.slice none 0 0) := (aD BK229.out 1).trans rfl; have hfz34_0 := aA BK229.out 0; have hfz34_1 := aA BK229.out 1; have hcz35_0 : w32.cell? ⟨gb224, 0, none⟩ = some (.slice A0_0 l0_0.length c0_0) := (aD BK224.out 0).trans rfl; have hcz35_1 : w32.cell? ⟨gb224, 1, none⟩ = some (.slice (some ad228) l0_1.length c0_1) := (aD BK224.out 1).trans rfl; have hcz35_2 : w32.cell? ⟨gb224, 2, none⟩ = some (.int .i64 a0_2) := (aD BK224.out 2).trans rfl; have hcz35_3 : w32.cell? ⟨gb224, 3, none⟩ = some (.bool a0_3) := (aD BK224.out 3).trans rfl; have hfz35_0 := aA BK224.out 0; have hfz35_1 := aA BK224.out 1; have hfz35_2 := aA BK224.out 2; have hfz35_3 := aA BK224.out 3) | ((with_reducible refine aX (f := 44) rfl ?_); refine bM (some 48) rfl rfl Try.func44 (by kernel_rfl) rfl #[.int .i64 ((rd_T50 l0_1 x38_3).f0), .int .i64 0, .int .i64 (wrap64 ((l0_0.length : Int) - 1))] rfl (by (try simp only [List.map_toArray, List.map_cons, List.map_nil]); first | done | rfl | (simp only [List.length_drop, List.length_take]; rfl)) ?_; (with_reducible refine (impl_within.calls ((rd_T50 l0_1 x38_3).f0) 0 (wrap64 ((l0_0.length : Int) - 1)) false _ A21.out).mono ?_); rintro e w' ⟨rfl, ⟨nd, rfl⟩⟩; refine ⟨_, rfl, ?_⟩))
             go_ret
             exact ⟨by first | rfl | (simp [errW_none, errW_some] <;> rfl) | (simp [*, errW_none, errW_some] <;> rfl), by repeat (first | (with_reducible first | exact HB.out | apply aJ | apply aE | apply aH | refine aG ?_ GE224.out | refine aG ?_ GE229.out) | exact HB.out)⟩
           ·rw [if_neg c20] at H
            exact absurd H (by simp)
          ·rw [if_neg c19] at H
           exact absurd H (by simp)
         ·rw [if_neg c18] at H
          have c18b0 : decide (x38_3 < (l0_1.length : Int)) = false := decide_eq_false c18
          clear c18
          obtain rfl := Option.some.inj H
          go_wp2
          go_ret
          exact ⟨by first | rfl | (simp [errW_none, errW_some] <;> rfl) | (simp [*, errW_none, errW_some] <;> rfl), by repeat (first | (with_reducible first | exact HB.out | apply aJ | apply aE | apply aH | refine aG ?_ GE224.out) | exact HB.out)⟩
def impl_joined.l0 : Nat → List Int → List (List Int) → Int → Int → Option (List Int)
 | 0, _, _, _, _ => none
 | k + 1, x3, x7, x8, x9 => if x9 < x8 then (if 0 ≤ x9 then (if x9 < (x7.length : Int) then (if x3.length + (rd_L1 x7 x9).length < 140737488355328 then (impl_joined.l0 k (x3 ++ (rd_L1 x7 x9)) x7 x8 (wrap64 (x9 + 1))) else (none)) else (none)) else (none)) else (some x3)
def impl_joined.f (k : Nat) (l0 : List (List Int)) : Option (List Int) := impl_joined.l0 k (([] : List Int)) l0 (l0.length : Int) 0
set_option maxHeartbeats 8000000 in
set_option maxRecDepth 100000 in
theorem impl_joined.calls (k : Nat) (A0 : Option Addr) (c0 : Nat) (l0 : List (List Int)) (r : List Int) (w : World) (hr0 : Kd.C (Kd.slice 5 (Kd.int .u8)) w A0 l0.length l0) (hc0 : l0.length ≤ c0) (h : impl_joined.f k l0 = some r) :
  Calls Try.prog 55 #[.slice A0 l0.length c0] w fun e w' => ∃ v0_ : Value, e = .returned (v0_) ∧ Kd.R (Kd.int .u8) 5 w' w.heap.size (fun _ => True) v0_ r ∧ Below w.heap.size w w' := by
 have HR0 := aC.mk hr0
 have HC0 := aC.mk hc0
 clear hr0 hc0
 have HB := aC.mk (Below.refl w.heap.size w)
 have H : (impl_joined.l0 k (([] : List Int)) l0 (l0.length : Int) 0) = some r := h
 clear h
 obtain ⟨y231, hy231⟩ : ∃ y_ : List Int, y_ = (([] : List Int)) := ⟨_, rfl⟩
 replace H : (impl_joined.l0 k y231 l0 (l0.length : Int) 0) = some r := by first | (rw [hy231]; with_reducible exact H) | (have H2_ := (Option.bind_some _ _).symm.trans H; rw [hy231]; with_reducible exact H2_) | (have H2_ := (Option.bind_some _ _).symm.trans H; with_reducible exact H2_) | with_reducible exact H | (rw [hy231]; exact H) | exact H
 have Ny231 := aC.mk hy231
 clear hy231
 have H' := aC.mk H
 clear H
 go_enter Try.func55, Try.ntmps55
 go_wp2_with (first | ((with_reducible refine bC (N := 6) rfl ?_); refine Kd.R_lit (Kd.int .u8) _ 5 ?hg (N := 6) ?hd (xs := ([] : List Int)) (inner := []) (ok := fun _ => True) (okp := fun _ => True) ?hr ?hp (fun _ hk => hk) trivial (Below.refl _ _) (Nat.le_refl _) (by simp) ?_; (case hd => rfl); (case hg => rfl); (case hr => first | (go_simp; done) | (go_simp; rfl)); (case hp => exact (Reps.none _ _)); intro v232 w2 ho3 hb hg_ hnew_; clear hg_ hnew_; (first | rw [← Ny231.out] at ho3 | (simp only [Int.reduceToNat] at ho3; rw [← Ny231.out] at ho3)); have n0_ := aC.mk (Kd.R_lower ho3 (aW (by repeat (first | (with_reducible first | exact HB.out | apply aJ | apply aE | apply aH) | exact HB.out)))); have n1_ := aC.mk (aU (by repeat (first | (with_reducible first | exact HB.out | apply aJ | apply aE | apply aH) | exact HB.out)) hb); clear HB; have HO233 := n0_; have HB := n1_; clear n0_ n1_; clear hb ho3))
 go_loopg [3, 9] k (fun kq v3 v9 w' => ∃ (x3_1 : List Int) (x9_1 : Int), v9 = .int .i64 x9_1 ∧ aC (impl_joined.l0 kq x3_1 l0 (l0.length : Int) x9_1 = some r) ∧ aC (kq ≤ k) ∧ aC (Kd.R (Kd.int .u8) 5 w' w.heap.size (fun _ => True) v3 x3_1) ∧ aC (Below w.heap.size w w'))
 case atStart => exact ⟨(y231), (0), (by first | rfl | (simp; done) | (simp [*]; done)), H', ⟨Nat.le_refl _⟩, ⟨by (with_reducible repeat (first | apply Kd.R_alloc | apply Kd.R_drewN | apply Kd.R_drew)); exact HO233.out⟩, ⟨by repeat (first | (with_reducible first | exact HB.out | apply aJ | apply aE | apply aH) | exact HB.out)⟩⟩
 case round =>
  clear H'
  try clear p2
  obtain ⟨x3_1, x9_1, rfl, HA, HK1, HO_3, HB⟩ := hrel
  cases gk with
  | zero => exact absurd HA.out (by simp [impl_joined.l0])
  | succ k1 =>
   have H := HA.out
   clear HA
   simp only [impl_joined.l0] at H
   by_cases c4 : x9_1 < (l0.length : Int)
   ·rw [if_pos c4] at H
    have c4b0 : decide (x9_1 < (l0.length : Int)) = true := decide_eq_true c4
    clear c4
    by_cases c5 : 0 ≤ x9_1
    ·rw [if_pos c5] at H
     have c5b0 : decide (0 ≤ x9_1) = true := decide_eq_true c5
     clear c5
     by_cases c6 : x9_1 < (l0.length : Int)
     ·rw [if_pos c6] at H
      have c6b0 : decide (x9_1 < (l0.length : Int)) = true := decide_eq_true c6
      clear c6
      by_cases c7 : x3_1.length + (rd_L1 l0 x9_1).length < 140737488355328
      ·rw [if_pos c7] at H
       have LMc7 := aC.mk c7
       clear c7
       obtain ⟨y235, hy235⟩ : ∃ y_ : List Int, y_ = (x3_1 ++ (rd_L1 l0 x9_1)) := ⟨_, rfl⟩
       replace H : (impl_joined.l0 k1 y235 l0 (l0.length : Int) (wrap64 (x9_1 + 1))) = some r := by first | (rw [hy235]; with_reducible exact H) | (have H2_ := (Option.bind_some _ _).symm.trans H; rw [hy235]; with_reducible exact H2_) | (have H2_ := (Option.bind_some _ _).symm.trans H; with_reducible exact H2_) | with_reducible exact H | (rw [hy235]; exact H) | exact H
       have Ny235 := aC.mk hy235
       clear hy235
       have H' := aC.mk H
       clear H
       have p234 : 0 ≤ (x9_1 : Int) := lE (by first | (with_reducible assumption) | assumption)
       have q234 : x9_1 < (l0.length : Int) := lE (by first | (with_reducible assumption) | assumption)
       obtain ⟨ad234, A234_0, c234_0, e234, hx234_0, hl234_0, hi234_0⟩ := at_L1 HR0.out x9_1 p234 q234
       cases e234
       replace hx234_0 := (HB.out.cell (lD w _ hx234_0)).trans hx234_0
       have HR234_0 := aC.mk hi234_0
       have HC234_0 := aC.mk hl234_0
       clear hi234_0 hl234_0
       replace p234 := eq_true p234
       replace q234 := eq_true q234
       go_wp2_with (first | ((with_reducible refine gate_builtin (b := .append) (xs := #[.tmp 13, .tmp 14]) rfl ?_); at_builtin; refine Kd.R_append_rows (Kd.int .u8) (w0 := w) w.heap.size rfl (.tmp 13) (.tmp 14) 37 5 (.int .u8 0) 1 rfl Try.underlying37 info5 rfl (by decide) (by omega) u3 x3_1 (rd_L1 l0 x9_1) _ _ _ (fun _ => True) (fun _ => False) rfl rfl ?aO ?aR (fun _ _ h => h) (fun _ h => h.elim) ?aF ?aB ?aS ?aL ?_; (case aR => repeat (first | exact (Kd.bG HR234_0.out HB.out) | (with_reducible refine Kd.bL ?_ _) | (with_reducible refine Kd.bK ?_ _) | (with_reducible refine Kd.bN ?_))); (case aB => exact (by repeat (first | (with_reducible first | exact HB.out | apply aJ | apply aE | apply aH) | exact HB.out))); (case aF => exact (fun _ _ => trivial)); (case aO => exact (by (with_reducible repeat (first | apply Kd.R_alloc | apply Kd.R_drewN | apply Kd.R_drew)); exact HO_3.out)); (case aS => exact (aW (by repeat (first | (with_reducible first | exact HB.out | apply aJ | apply aE | apply aH) | exact HB.out)))); (case aL => have := LMc7.out; omega); intro v236 w8 ho hb hg hat; rw [← Ny235.out] at ho; have n0_ := aC.mk (hb); have n1_ := aC.mk (ho); clear HB; clear HO_3; have HB := n0_; have HO237 := n1_; clear n0_ n1_; clear ho hb hg hat))
       go_roundg k1
       case measure => have := HK1.out; omega
       case rel => exact ⟨(y235), (wrap64 (x9_1 + 1)), (by first | rfl | (simp; done) | (simp [*]; done)), H', ⟨by have := HK1.out; omega⟩, ⟨by (with_reducible repeat (first | apply Kd.R_alloc | apply Kd.R_drewN | apply Kd.R_drew)); exact HO237.out⟩, ⟨by repeat (first | (with_reducible first | exact HB.out | apply aJ | apply aE | apply aH) | exact HB.out)⟩⟩
      ·rw [if_neg c7] at H
       exact absurd H (by simp)
     ·rw [if_neg c6] at H
      exact absurd H (by simp)
    ·rw [if_neg c5] at H
     exact absurd H (by simp)
   ·rw [if_neg c4] at H
    have c4b0 : decide (x9_1 < (l0.length : Int)) = false := decide_eq_false c4
    clear c4
    obtain rfl := Option.some.inj H
    go_wp2
    go_ret
    exact ⟨_, by first | rfl | (simp [errW_none, errW_some] <;> rfl) | (simp [*, errW_none, errW_some] <;> rfl), by (with_reducible repeat (first | apply Kd.R_alloc | apply Kd.R_drewN | apply Kd.R_drew)); exact HO_3.out, by repeat (first | (with_reducible first | exact HB.out | apply aJ | apply aE | apply aH) | exact HB.out)⟩
end Go.Proofs.Ytilhcaofpfeioaa.PFnExactFallDev
