/- The law: the functions that it reaches, each with the proof that the machine's call comes to its answer, what they answer, and the law's row; each theorem says its conditions itself. -/
import Derived.Test.YtilhcaofpfeioaaZFnExactFlushDev0
import Derived.IntWalk
import Derived.Laws.BitsLemmas
namespace Go.Proofs.Ytilhcaofpfeioaa.PFnExactFlushDev
open Go.RowKit Go.Proofs.YtilhcaofpfeioaaW.PrintWords Go.Proofs.YtilhcaofpfeioaaW.PrintLast Go.Proofs.YtilhcaofpfeioaaW.PrintMore
attribute [local go_sem] max2_int min2_int max_two min_two max_three min_three max_four min_four   -- for this text's walks alone
set_option linter.unusedVariables false
set_option linter.unusedSimpArgs false
mutual
def spec_DevOk.l0 : Nat → Int → List (List Int) → List (S50) → Int → Bool → Option (Bool)
 | 0, _, _, _, _, _ => none
 | k + 1, x3, x175000, x175001, x175002, x175003 => if x3 < (x175000.length : Int) then (if 0 ≤ x3 then (if ((rd_L1 x175000 x3).length : Int) > 80 then (some false) else (spec_DevOk.l0 k (wrap64 (x3 + 1)) x175000 x175001 x175002 x175003)) else (none)) else (spec_DevOk.l1 k 0 x175000 x175001 x175002 x175003)
def spec_DevOk.l1 : Nat → Int → List (List Int) → List (S50) → Int → Bool → Option (Bool)
 | 0, _, _, _, _, _ => none
 | k + 1, x4, x175000, x175001, x175002, x175003 => if x4 < (x175001.length : Int) then (if 0 ≤ x4 then ((spec_l1In.f ((rd_T50 x175001 x4).f0) 0 (wrap64 ((x175000.length : Int) - 1))).bind fun t177 => (if t177 = true then (if (((rd_T50 x175001 x4).f1).length : Int) > 80 then (some false) else (spec_DevOk.l1 k (wrap64 (x4 + 1)) x175000 x175001 x175002 x175003)) else (some false))) else (none)) else ((spec_l1In.f (x175000.length : Int) 1 60).bind fun t179 => (if t179 = true then (if (x175001.length : Int) ≤ 60 then ((spec_l1In.f x175002 (-1) 1000).bind fun t180 => (some t180)) else (some false)) else (some false)))
end
def spec_DevOk.f (k : Nat) (l0_0 : List (List Int)) (l0_1 : List (S50)) (a0_2 : Int) (a0_3 : Bool) : Option (Bool) := spec_DevOk.l0 k 0 l0_0 l0_1 a0_2 a0_3
set_option maxHeartbeats 8000000 in
set_option maxRecDepth 100000 in
theorem spec_DevOk.calls (k : Nat) (A0_0 : Option Addr) (c0_0 : Nat) (l0_0 : List (List Int)) (A0_1 : Option Addr) (c0_1 : Nat) (l0_1 : List (S50)) (a0_2 : Int) (a0_3 : Bool) (r : Bool) (w : World) (hr0_0 : Kd.C (Kd.slice 5 (Kd.int .u8)) w A0_0 l0_0.length l0_0) (hc0_0 : l0_0.length ≤ c0_0) (hr0_1 : Kd.C k50 w A0_1 l0_1.length l0_1) (hc0_1 : l0_1.length ≤ c0_1) (h : spec_DevOk.f k l0_0 l0_1 a0_2 a0_3 = some r) :
  Calls Try.prog 18 #[.agg #[.slice A0_0 l0_0.length c0_0, .slice A0_1 l0_1.length c0_1, .int .i64 a0_2, .bool a0_3]] w fun e w' => e = .returned (.bool r) ∧ Below w.heap.size w w' := by
 have hu25 := Try.underlying25
 have HR0_0 := aC.mk hr0_0
 have HC0_0 := aC.mk hc0_0
 clear hr0_0 hc0_0
 have HR0_1 := aC.mk hr0_1
 have HC0_1 := aC.mk hc0_1
 clear hr0_1 hc0_1
 have HB := aC.mk (Below.refl w.heap.size w)
 have H : (spec_DevOk.l0 k 0 l0_0 l0_1 a0_2 a0_3) = some r := h
 clear h
 have H' := aC.mk H
 clear H
 go_enter Try.func18, Try.ntmps18
 go_wp2_with (first | ((with_reducible refine bC (N := 1) rfl ?_); (try (refine gate_guard (by rfl) ?_; dsimp only)); refine bB ?hg (N := 1) ?hd (cs := #[.slice A0_0 l0_0.length c0_0, .slice A0_1 l0_1.length c0_1, .int .i64 a0_2, .bool a0_3]) (t := 25) ?hr ?_; (case hd => rfl); (case hg => rfl); (case hr => first | (go_simp; done) | (go_simp; rfl)); intro gb174 hg w2 hbox hb; have n0_ := aC.mk (aV (by repeat (first | (with_reducible first | exact HB.out | apply aJ | apply aE | apply aH) | exact HB.out)) hb); have n1_ := aC.mk (hbox); have n2_ := aC.mk ((by rw [hg]; exact (aW (by repeat (first | (with_reducible first | exact HB.out | apply aJ | apply aE | apply aH) | exact HB.out))) : w.heap.size ≤ gb174)); have n3_ := aC.mk ((by rw [hg]; exact (aW (by repeat (first | (with_reducible first | exact HB.out | apply aJ | apply aE | apply aH) | exact HB.out))) : w.heap.size ≤ gb174)); clear HB; have HB := n0_; have BK174 := n1_; have GW174 := n2_; have GE174 := n3_; clear n0_ n1_ n2_ n3_; clear hb hbox hg))
 repeat (go_quiet (first | ((with_reducible refine bC (N := 1) rfl ?_); (try (refine gate_guard (by rfl) ?_; dsimp only)); refine bB ?hg (N := 1) ?hd (cs := #[.slice A0_0 l0_0.length c0_0, .slice A0_1 l0_1.length c0_1, .int .i64 a0_2, .bool a0_3]) (t := 25) ?hr ?_; (case hd => rfl); (case hg => rfl); (case hr => first | (go_simp; done) | (go_simp; rfl)); intro gb174 hg w2 hbox hb; have n0_ := aC.mk (aV (by repeat (first | (with_reducible first | exact HB.out | apply aJ | apply aE | apply aH) | exact HB.out)) hb); have n1_ := aC.mk (hbox); have n2_ := aC.mk ((by rw [hg]; exact (aW (by repeat (first | (with_reducible first | exact HB.out | apply aJ | apply aE | apply aH) | exact HB.out))) : w.heap.size ≤ gb174)); have n3_ := aC.mk ((by rw [hg]; exact (aW (by repeat (first | (with_reducible first | exact HB.out | apply aJ | apply aE | apply aH) | exact HB.out))) : w.heap.size ≤ gb174)); clear HB; have HB := n0_; have BK174 := n1_; have GW174 := n2_; have GE174 := n3_; clear n0_ n1_ n2_ n3_; clear hb hbox hg)); try go_wp2_with (first | ((with_reducible refine bC (N := 1) rfl ?_); (try (refine gate_guard (by rfl) ?_; dsimp only)); refine bB ?hg (N := 1) ?hd (cs := #[.slice A0_0 l0_0.length c0_0, .slice A0_1 l0_1.length c0_1, .int .i64 a0_2, .bool a0_3]) (t := 25) ?hr ?_; (case hd => rfl); (case hg => rfl); (case hr => first | (go_simp; done) | (go_simp; rfl)); intro gb174 hg w2 hbox hb; have n0_ := aC.mk (aV (by repeat (first | (with_reducible first | exact HB.out | apply aJ | apply aE | apply aH) | exact HB.out)) hb); have n1_ := aC.mk (hbox); have n2_ := aC.mk ((by rw [hg]; exact (aW (by repeat (first | (with_reducible first | exact HB.out | apply aJ | apply aE | apply aH) | exact HB.out))) : w.heap.size ≤ gb174)); have n3_ := aC.mk ((by rw [hg]; exact (aW (by repeat (first | (with_reducible first | exact HB.out | apply aJ | apply aE | apply aH) | exact HB.out))) : w.heap.size ≤ gb174)); clear HB; have HB := n0_; have BK174 := n1_; have GW174 := n2_; have GE174 := n3_; clear n0_ n1_ n2_ n3_; clear hb hbox hg)))
 go_loopg [3] k (fun kq v3 w' => ∃ (x3_1 : Int), v3 = .int .i64 x3_1 ∧ aC (spec_DevOk.l0 kq x3_1 l0_0 l0_1 a0_2 a0_3 = some r) ∧ aC (kq ≤ k) ∧ aC (w'.heap[gb174]? = some (.cells #[(.slice A0_0 l0_0.length c0_0), (.slice A0_1 l0_1.length c0_1), .int .i64 a0_2, .bool a0_3] 25 (0, 0))) ∧ aC (Below w.heap.size w w'))
 case atStart => exact ⟨(0), (by first | rfl | (simp; done) | (simp [*]; done)), H', ⟨Nat.le_refl _⟩, ⟨by (with_reducible repeat (first | refine aT ?_ _ | refine aQ ?_ | refine aN ?_ _)); exact BK174.out⟩, ⟨by repeat (first | (with_reducible first | exact HB.out | apply aJ | apply aE | apply aH | refine aG ?_ GE174.out) | exact HB.out)⟩⟩
 case round =>
  clear H'
  try clear c1
  try clear p2
  obtain ⟨x3_1, rfl, HA, HK1, BK174, HB⟩ := hrel
  cases gk with
  | zero => exact absurd HA.out (by simp [spec_DevOk.l0])
  | succ k1 =>
   have H := HA.out
   clear HA
   simp only [spec_DevOk.l0] at H
   by_cases c3 : x3_1 < (l0_0.length : Int)
   ·rw [if_pos c3] at H
    have c3b0 : decide (x3_1 < (l0_0.length : Int)) = true := decide_eq_true c3
    clear c3
    by_cases c4 : 0 ≤ x3_1
    ·rw [if_pos c4] at H
     have c4b0 : decide (0 ≤ x3_1) = true := decide_eq_true c4
     clear c4
     by_cases c5 : ((rd_L1 l0_0 x3_1).length : Int) > 80
     ·rw [if_pos c5] at H
      have c5b0 : decide (80 < ((rd_L1 l0_0 x3_1).length : Int)) = true := decide_eq_true c5
      have c5b1 : decide (80 < (rd_L1 l0_0 x3_1).length) = true := decide_eq_true (by omega)
      clear c5
      obtain rfl := Option.some.inj H
      have hcz6_0 : wr.cell? ⟨gb174, 0, none⟩ = some (.slice A0_0 l0_0.length c0_0) := (aD BK174.out 0).trans rfl
      have hcz6_1 : wr.cell? ⟨gb174, 1, none⟩ = some (.slice A0_1 l0_1.length c0_1) := (aD BK174.out 1).trans rfl
      have hcz6_2 : wr.cell? ⟨gb174, 2, none⟩ = some (.int .i64 a0_2) := (aD BK174.out 2).trans rfl
      have hcz6_3 : wr.cell? ⟨gb174, 3, none⟩ = some (.bool a0_3) := (aD BK174.out 3).trans rfl
      have hfz6_0 := aA BK174.out 0
      have hfz6_1 := aA BK174.out 1
      have hfz6_2 := aA BK174.out 2
      have hfz6_3 := aA BK174.out 3
      have p175 : 0 ≤ (x3_1 : Int) := lE (by first | (with_reducible assumption) | assumption)
      have q175 : x3_1 < (l0_0.length : Int) := lE (by first | (with_reducible assumption) | assumption)
      obtain ⟨ad175, A175_0, c175_0, e175, hx175_0, hl175_0, hi175_0⟩ := at_L1 HR0_0.out x3_1 p175 q175
      cases e175
      replace hx175_0 := (HB.out.cell (lD w _ hx175_0)).trans hx175_0
      have HR175_0 := aC.mk hi175_0
      have HC175_0 := aC.mk hl175_0
      clear hi175_0 hl175_0
      replace p175 := eq_true p175
      replace q175 := eq_true q175
      go_wp2
      repeat (go_quiet (fail); try go_wp2)
      go_ret
      exact ⟨by first | rfl | (simp [errW_none, errW_some] <;> rfl) | (simp [*, errW_none, errW_some] <;> rfl), by repeat (first | (with_reducible first | exact HB.out | apply aJ | apply aE | apply aH | refine aG ?_ GE174.out) | exact HB.out)⟩
     ·rw [if_neg c5] at H
      have c5b0 : decide (80 < ((rd_L1 l0_0 x3_1).length : Int)) = false := decide_eq_false c5
      have c5b1 : decide (80 < (rd_L1 l0_0 x3_1).length) = false := decide_eq_false (by omega)
      clear c5
      have H' := aC.mk H
      clear H
      have hcz7_0 : wr.cell? ⟨gb174, 0, none⟩ = some (.slice A0_0 l0_0.length c0_0) := (aD BK174.out 0).trans rfl
      have hcz7_1 : wr.cell? ⟨gb174, 1, none⟩ = some (.slice A0_1 l0_1.length c0_1) := (aD BK174.out 1).trans rfl
      have hcz7_2 : wr.cell? ⟨gb174, 2, none⟩ = some (.int .i64 a0_2) := (aD BK174.out 2).trans rfl
      have hcz7_3 : wr.cell? ⟨gb174, 3, none⟩ = some (.bool a0_3) := (aD BK174.out 3).trans rfl
      have hfz7_0 := aA BK174.out 0
      have hfz7_1 := aA BK174.out 1
      have hfz7_2 := aA BK174.out 2
      have hfz7_3 := aA BK174.out 3
      have p175 : 0 ≤ (x3_1 : Int) := lE (by first | (with_reducible assumption) | assumption)
      have q175 : x3_1 < (l0_0.length : Int) := lE (by first | (with_reducible assumption) | assumption)
      obtain ⟨ad175, A175_0, c175_0, e175, hx175_0, hl175_0, hi175_0⟩ := at_L1 HR0_0.out x3_1 p175 q175
      cases e175
      replace hx175_0 := (HB.out.cell (lD w _ hx175_0)).trans hx175_0
      have HR175_0 := aC.mk hi175_0
      have HC175_0 := aC.mk hl175_0
      clear hi175_0 hl175_0
      replace p175 := eq_true p175
      replace q175 := eq_true q175
      go_wp2
      repeat (go_quiet (fail); try go_wp2)
      go_roundg k1
      case measure => have := HK1.out; omega
      case rel => exact ⟨(wrap64 (x3_1 + 1)), (by first | rfl | (simp; done) | (simp [*]; done)), H', ⟨by have := HK1.out; omega⟩, ⟨by (with_reducible repeat (first | refine aT ?_ _ | refine aQ ?_ | refine aN ?_ _)); exact BK174.out⟩, ⟨by repeat (first | (with_reducible first | exact HB.out | apply aJ | apply aE | apply aH | refine aG ?_ GE174.out) | exact HB.out)⟩⟩
    ·rw [if_neg c4] at H
     exact absurd H (by simp)
   ·rw [if_neg c3] at H
    have c3b0 : decide (x3_1 < (l0_0.length : Int)) = false := decide_eq_false c3
    clear c3
    have H' := aC.mk H
    clear H
    have hcz8_0 : wr.cell? ⟨gb174, 0, none⟩ = some (.slice A0_0 l0_0.length c0_0) := (aD BK174.out 0).trans rfl
    have hcz8_1 : wr.cell? ⟨gb174, 1, none⟩ = some (.slice A0_1 l0_1.length c0_1) := (aD BK174.out 1).trans rfl
    have hcz8_2 : wr.cell? ⟨gb174, 2, none⟩ = some (.int .i64 a0_2) := (aD BK174.out 2).trans rfl
    have hcz8_3 : wr.cell? ⟨gb174, 3, none⟩ = some (.bool a0_3) := (aD BK174.out 3).trans rfl
    have hfz8_0 := aA BK174.out 0
    have hfz8_1 := aA BK174.out 1
    have hfz8_2 := aA BK174.out 2
    have hfz8_3 := aA BK174.out 3
    go_wp2
    repeat (go_quiet (fail); try go_wp2)
    go_loopg [4] k1 (fun kq v4 w' => ∃ (x4_2 : Int), v4 = .int .i64 x4_2 ∧ aC (spec_DevOk.l1 kq x4_2 l0_0 l0_1 a0_2 a0_3 = some r) ∧ aC (kq ≤ k1) ∧ aC (w'.heap[gb174]? = some (.cells #[(.slice A0_0 l0_0.length c0_0), (.slice A0_1 l0_1.length c0_1), .int .i64 a0_2, .bool a0_3] 25 (0, 0))) ∧ aC (Below w.heap.size w w'))
    case atStart => exact ⟨(0), (by first | rfl | (simp; done) | (simp [*]; done)), H', ⟨Nat.le_refl _⟩, ⟨by (with_reducible repeat (first | refine aT ?_ _ | refine aQ ?_ | refine aN ?_ _)); exact BK174.out⟩, ⟨by repeat (first | (with_reducible first | exact HB.out | apply aJ | apply aE | apply aH | refine aG ?_ GE174.out) | exact HB.out)⟩⟩
    case round =>
     clear H'
     try clear c1
     try clear p1
     try clear q1
     try clear hx1
     try clear p2
     try clear c3
     try clear c3b0
     try clear c4
     try clear c4b0
     try clear c5
     try clear c5b0
     try clear c5b1
     try clear p6
     try clear hcz6_0
     try clear hcz6_1
     try clear hcz6_2
     try clear hcz6_3
     try clear hcz7_0
     try clear hcz7_1
     try clear hcz7_2
     try clear hcz7_3
     try clear hcz8_0
     try clear hcz8_1
     try clear hcz8_2
     try clear hcz8_3
     try clear hfz6_0
     try clear hfz6_1
     try clear hfz6_2
     try clear hfz6_3
     try clear hfz7_0
     try clear hfz7_1
     try clear hfz7_2
     try clear hfz7_3
     try clear hfz8_0
     try clear hfz8_1
     try clear hfz8_2
     try clear hfz8_3
     try clear hx175_0
     try clear p175
     try clear p2
     try clear q175
     obtain ⟨x4_2, rfl, HA, HK2, BK174, HB⟩ := hrel
     cases gk with
     | zero => exact absurd HA.out (by simp [spec_DevOk.l1])
     | succ k2 =>
      have H := HA.out
      clear HA
      simp only [spec_DevOk.l1] at H
      by_cases c9 : x4_2 < (l0_1.length : Int)
      ·rw [if_pos c9] at H
       have c9b0 : decide (x4_2 < (l0_1.length : Int)) = true := decide_eq_true c9
       clear c9
       by_cases c10 : 0 ≤ x4_2
       ·rw [if_pos c10] at H
        have c10b0 : decide (0 ≤ x4_2) = true := decide_eq_true c10
        clear c10
        replace H := lF H
        obtain ⟨t177, A110, H⟩ := H
        replace H : (if t177 = true then (if (((rd_T50 l0_1 x4_2).f1).length : Int) > 80 then (some false) else (spec_DevOk.l1 k2 (wrap64 (x4_2 + 1)) l0_0 l0_1 a0_2 a0_3)) else (some false)) = some r := H
        have A11 := aC.mk A110
        clear A110
        by_cases c12 : t177 = true
        ·subst c12
         have H1 : (if (((rd_T50 l0_1 x4_2).f1).length : Int) > 80 then (some false) else (spec_DevOk.l1 k2 (wrap64 (x4_2 + 1)) l0_0 l0_1 a0_2 a0_3)) = some r := by rw [if_pos rfl] at H; exact H
         clear H
         have H := H1
         clear H1
         by_cases c13 : (((rd_T50 l0_1 x4_2).f1).length : Int) > 80
         ·rw [if_pos c13] at H
          have c13b0 : decide (80 < (((rd_T50 l0_1 x4_2).f1).length : Int)) = true := decide_eq_true c13
          have c13b1 : decide (80 < ((rd_T50 l0_1 x4_2).f1).length) = true := decide_eq_true (by omega)
          clear c13
          obtain rfl := Option.some.inj H
          have hcz14_0 : wr.cell? ⟨gb174, 0, none⟩ = some (.slice A0_0 l0_0.length c0_0) := (aD BK174.out 0).trans rfl
          have hcz14_1 : wr.cell? ⟨gb174, 1, none⟩ = some (.slice A0_1 l0_1.length c0_1) := (aD BK174.out 1).trans rfl
          have hcz14_2 : wr.cell? ⟨gb174, 2, none⟩ = some (.int .i64 a0_2) := (aD BK174.out 2).trans rfl
          have hcz14_3 : wr.cell? ⟨gb174, 3, none⟩ = some (.bool a0_3) := (aD BK174.out 3).trans rfl
          have hfz14_0 := aA BK174.out 0
          have hfz14_1 := aA BK174.out 1
          have hfz14_2 := aA BK174.out 2
          have hfz14_3 := aA BK174.out 3
          have p176 : 0 ≤ (x4_2 : Int) := lE (by first | (with_reducible assumption) | assumption)
          have q176 : x4_2 < (l0_1.length : Int) := lE (by first | (with_reducible assumption) | assumption)
          obtain ⟨ad176, A176_1, c176_1, e176, hx176_0, hx176_1, hl176_1, hi176_1⟩ := at_T50 HR0_1.out x4_2 p176 q176
          cases e176
          replace hx176_0 := (HB.out.cell (lD w _ hx176_0)).trans hx176_0
          replace hx176_1 := (HB.out.cell (lD w _ hx176_1)).trans hx176_1
          have HR176_1 := aC.mk hi176_1
          have HC176_1 := aC.mk hl176_1
          clear hi176_1 hl176_1
          replace p176 := eq_true p176
          replace q176 := eq_true q176
          have hwq0_ : IntKind.i64.wrap ((l0_0.length : Int) - 1) = wrap64 ((l0_0.length : Int) - 1) := by rw [IntKind.wrap_i64]; unfold wrap64; rfl
          go_wp2_with (first | (go_at_call 43; (with_reducible refine (spec_l1In.calls ((rd_T50 l0_1 x4_2).f0) 0 (wrap64 ((l0_0.length : Int) - 1)) true _ A11.out).mono ?_); rintro e w' ⟨rfl, ⟨nd, rfl⟩⟩; (try first | exact ⟨rfl, _, World.drewN_drewN _ _ _⟩ | exact ⟨rfl, _, Eq.trans (World.drewN_drewN _ _ _) (congrArg (World.drewN _) (Nat.add_assoc _ _ _))⟩); have p178 : 0 ≤ (x4_2 : Int) := lE (by first | (with_reducible assumption) | assumption); have q178 : x4_2 < (l0_1.length : Int) := lE (by first | (with_reducible assumption) | assumption); obtain ⟨ad178, A178_1, c178_1, e178, hx178_0, hx178_1, hl178_1, hi178_1⟩ := at_T50 HR0_1.out x4_2 p178 q178; obtain rfl : ad176 = ad178 := (by injection e178); replace hx178_0 := (HB.out.cell (lD w _ hx178_0)).trans hx178_0; replace hx178_1 := (HB.out.cell (lD w _ hx178_1)).trans hx178_1; have HR178_1 := aC.mk hi178_1; have HC178_1 := aC.mk hl178_1; clear hi178_1 hl178_1; replace p178 := eq_true p178; replace q178 := eq_true q178; have ea_ := Option.some.inj (hx176_1.symm.trans hx178_1); injection ea_ with ea_ en_ ec_; subst ea_; subst ec_; clear en_))
          repeat (go_quiet (first | (go_at_call 43; (with_reducible refine (spec_l1In.calls ((rd_T50 l0_1 x4_2).f0) 0 (wrap64 ((l0_0.length : Int) - 1)) true _ A11.out).mono ?_); rintro e w' ⟨rfl, ⟨nd, rfl⟩⟩; (try first | exact ⟨rfl, _, World.drewN_drewN _ _ _⟩ | exact ⟨rfl, _, Eq.trans (World.drewN_drewN _ _ _) (congrArg (World.drewN _) (Nat.add_assoc _ _ _))⟩); have p178 : 0 ≤ (x4_2 : Int) := lE (by first | (with_reducible assumption) | assumption); have q178 : x4_2 < (l0_1.length : Int) := lE (by first | (with_reducible assumption) | assumption); obtain ⟨ad178, A178_1, c178_1, e178, hx178_0, hx178_1, hl178_1, hi178_1⟩ := at_T50 HR0_1.out x4_2 p178 q178; obtain rfl : ad176 = ad178 := (by injection e178); replace hx178_0 := (HB.out.cell (lD w _ hx178_0)).trans hx178_0; replace hx178_1 := (HB.out.cell (lD w _ hx178_1)).trans hx178_1; have HR178_1 := aC.mk hi178_1; have HC178_1 := aC.mk hl178_1; clear hi178_1 hl178_1; replace p178 := eq_true p178; replace q178 := eq_true q178; have ea_ := Option.some.inj (hx176_1.symm.trans hx178_1); injection ea_ with ea_ en_ ec_; subst ea_; subst ec_; clear en_)); try go_wp2_with (first | (go_at_call 43; (with_reducible refine (spec_l1In.calls ((rd_T50 l0_1 x4_2).f0) 0 (wrap64 ((l0_0.length : Int) - 1)) true _ A11.out).mono ?_); rintro e w' ⟨rfl, ⟨nd, rfl⟩⟩; (try first | exact ⟨rfl, _, World.drewN_drewN _ _ _⟩ | exact ⟨rfl, _, Eq.trans (World.drewN_drewN _ _ _) (congrArg (World.drewN _) (Nat.add_assoc _ _ _))⟩); have p178 : 0 ≤ (x4_2 : Int) := lE (by first | (with_reducible assumption) | assumption); have q178 : x4_2 < (l0_1.length : Int) := lE (by first | (with_reducible assumption) | assumption); obtain ⟨ad178, A178_1, c178_1, e178, hx178_0, hx178_1, hl178_1, hi178_1⟩ := at_T50 HR0_1.out x4_2 p178 q178; obtain rfl : ad176 = ad178 := (by injection e178); replace hx178_0 := (HB.out.cell (lD w _ hx178_0)).trans hx178_0; replace hx178_1 := (HB.out.cell (lD w _ hx178_1)).trans hx178_1; have HR178_1 := aC.mk hi178_1; have HC178_1 := aC.mk hl178_1; clear hi178_1 hl178_1; replace p178 := eq_true p178; replace q178 := eq_true q178; have ea_ := Option.some.inj (hx176_1.symm.trans hx178_1); injection ea_ with ea_ en_ ec_; subst ea_; subst ec_; clear en_)))
          go_ret
          exact ⟨by first | rfl | (simp [errW_none, errW_some] <;> rfl) | (simp [*, errW_none, errW_some] <;> rfl), by repeat (first | (with_reducible first | exact HB.out | apply aJ | apply aE | apply aH | refine aG ?_ GE174.out) | exact HB.out)⟩
         ·rw [if_neg c13] at H
          have c13b0 : decide (80 < (((rd_T50 l0_1 x4_2).f1).length : Int)) = false := decide_eq_false c13
          have c13b1 : decide (80 < ((rd_T50 l0_1 x4_2).f1).length) = false := decide_eq_false (by omega)
          clear c13
          have H' := aC.mk H
          clear H
          have hcz15_0 : wr.cell? ⟨gb174, 0, none⟩ = some (.slice A0_0 l0_0.length c0_0) := (aD BK174.out 0).trans rfl
          have hcz15_1 : wr.cell? ⟨gb174, 1, none⟩ = some (.slice A0_1 l0_1.length c0_1) := (aD BK174.out 1).trans rfl
          have hcz15_2 : wr.cell? ⟨gb174, 2, none⟩ = some (.int .i64 a0_2) := (aD BK174.out 2).trans rfl
          have hcz15_3 : wr.cell? ⟨gb174, 3, none⟩ = some (.bool a0_3) := (aD BK174.out 3).trans rfl
          have hfz15_0 := aA BK174.out 0
          have hfz15_1 := aA BK174.out 1
          have hfz15_2 := aA BK174.out 2
          have hfz15_3 := aA BK174.out 3
          have p176 : 0 ≤ (x4_2 : Int) := lE (by first | (with_reducible assumption) | assumption)
          have q176 : x4_2 < (l0_1.length : Int) := lE (by first | (with_reducible assumption) | assumption)
          obtain ⟨ad176, A176_1, c176_1, e176, hx176_0, hx176_1, hl176_1, hi176_1⟩ := at_T50 HR0_1.out x4_2 p176 q176
          cases e176
          replace hx176_0 := (HB.out.cell (lD w _ hx176_0)).trans hx176_0
          replace hx176_1 := (HB.out.cell (lD w _ hx176_1)).trans hx176_1
          have HR176_1 := aC.mk hi176_1
          have HC176_1 := aC.mk hl176_1
          clear hi176_1 hl176_1
          replace p176 := eq_true p176
          replace q176 := eq_true q176
          have hwq0_ : IntKind.i64.wrap ((l0_0.length : Int) - 1) = wrap64 ((l0_0.length : Int) - 1) := by rw [IntKind.wrap_i64]; unfold wrap64; rfl
          go_wp2_with (first | (go_at_call 43; (with_reducible refine (spec_l1In.calls ((rd_T50 l0_1 x4_2).f0) 0 (wrap64 ((l0_0.length : Int) - 1)) true _ A11.out).mono ?_); rintro e w' ⟨rfl, ⟨nd, rfl⟩⟩; (try first | exact ⟨rfl, _, World.drewN_drewN _ _ _⟩ | exact ⟨rfl, _, Eq.trans (World.drewN_drewN _ _ _) (congrArg (World.drewN _) (Nat.add_assoc _ _ _))⟩); have p178 : 0 ≤ (x4_2 : Int) := lE (by first | (with_reducible assumption) | assumption); have q178 : x4_2 < (l0_1.length : Int) := lE (by first | (with_reducible assumption) | assumption); obtain ⟨ad178, A178_1, c178_1, e178, hx178_0, hx178_1, hl178_1, hi178_1⟩ := at_T50 HR0_1.out x4_2 p178 q178; obtain rfl : ad176 = ad178 := (by injection e178); replace hx178_0 := (HB.out.cell (lD w _ hx178_0)).trans hx178_0; replace hx178_1 := (HB.out.cell (lD w _ hx178_1)).trans hx178_1; have HR178_1 := aC.mk hi178_1; have HC178_1 := aC.mk hl178_1; clear hi178_1 hl178_1; replace p178 := eq_true p178; replace q178 := eq_true q178; have ea_ := Option.some.inj (hx176_1.symm.trans hx178_1); injection ea_ with ea_ en_ ec_; subst ea_; subst ec_; clear en_))
          repeat (go_quiet (first | (go_at_call 43; (with_reducible refine (spec_l1In.calls ((rd_T50 l0_1 x4_2).f0) 0 (wrap64 ((l0_0.length : Int) - 1)) true _ A11.out).mono ?_); rintro e w' ⟨rfl, ⟨nd, rfl⟩⟩; (try first | exact ⟨rfl, _, World.drewN_drewN _ _ _⟩ | exact ⟨rfl, _, Eq.trans (World.drewN_drewN _ _ _) (congrArg (World.drewN _) (Nat.add_assoc _ _ _))⟩); have p178 : 0 ≤ (x4_2 : Int) := lE (by first | (with_reducible assumption) | assumption); have q178 : x4_2 < (l0_1.length : Int) := lE (by first | (with_reducible assumption) | assumption); obtain ⟨ad178, A178_1, c178_1, e178, hx178_0, hx178_1, hl178_1, hi178_1⟩ := at_T50 HR0_1.out x4_2 p178 q178; obtain rfl : ad176 = ad178 := (by injection e178); replace hx178_0 := (HB.out.cell (lD w _ hx178_0)).trans hx178_0; replace hx178_1 := (HB.out.cell (lD w _ hx178_1)).trans hx178_1; have HR178_1 := aC.mk hi178_1; have HC178_1 := aC.mk hl178_1; clear hi178_1 hl178_1; replace p178 := eq_true p178; replace q178 := eq_true q178; have ea_ := Option.some.inj (hx176_1.symm.trans hx178_1); injection ea_ with ea_ en_ ec_; subst ea_; subst ec_; clear en_)); try go_wp2_with (first | (go_at_call 43; (with_reducible refine (spec_l1In.calls ((rd_T50 l0_1 x4_2).f0) 0 (wrap64 ((l0_0.length : Int) - 1)) true _ A11.out).mono ?_); rintro e w' ⟨rfl, ⟨nd, rfl⟩⟩; (try first | exact ⟨rfl, _, World.drewN_drewN _ _ _⟩ | exact ⟨rfl, _, Eq.trans (World.drewN_drewN _ _ _) (congrArg (World.drewN _) (Nat.add_assoc _ _ _))⟩); have p178 : 0 ≤ (x4_2 : Int) := lE (by first | (with_reducible assumption) | assumption); have q178 : x4_2 < (l0_1.length : Int) := lE (by first | (with_reducible assumption) | assumption); obtain ⟨ad178, A178_1, c178_1, e178, hx178_0, hx178_1, hl178_1, hi178_1⟩ := at_T50 HR0_1.out x4_2 p178 q178; obtain rfl : ad176 = ad178 := (by injection e178); replace hx178_0 := (HB.out.cell (lD w _ hx178_0)).trans hx178_0; replace hx178_1 := (HB.out.cell (lD w _ hx178_1)).trans hx178_1; have HR178_1 := aC.mk hi178_1; have HC178_1 := aC.mk hl178_1; clear hi178_1 hl178_1; replace p178 := eq_true p178; replace q178 := eq_true q178; have ea_ := Option.some.inj (hx176_1.symm.trans hx178_1); injection ea_ with ea_ en_ ec_; subst ea_; subst ec_; clear en_)))
          go_roundg k2
          case measure => have := HK1.out; have := HK2.out; omega
          case rel => exact ⟨(wrap64 (x4_2 + 1)), (by first | rfl | (simp; done) | (simp [*]; done)), H', ⟨by have := HK1.out; have := HK2.out; omega⟩, ⟨by (with_reducible repeat (first | refine aT ?_ _ | refine aQ ?_ | refine aN ?_ _)); exact BK174.out⟩, ⟨by repeat (first | (with_reducible first | exact HB.out | apply aJ | apply aE | apply aH | refine aG ?_ GE174.out) | exact HB.out)⟩⟩
        ·replace c12 := Bool.eq_false_iff.mpr c12
         subst c12
         have H1 : (some false) = some r := by rw [if_neg (show ¬ (false = true) by decide)] at H; exact H
         clear H
         have H := H1
         clear H1
         obtain rfl := Option.some.inj H
         have hcz16_0 : wr.cell? ⟨gb174, 0, none⟩ = some (.slice A0_0 l0_0.length c0_0) := (aD BK174.out 0).trans rfl
         have hcz16_1 : wr.cell? ⟨gb174, 1, none⟩ = some (.slice A0_1 l0_1.length c0_1) := (aD BK174.out 1).trans rfl
         have hcz16_2 : wr.cell? ⟨gb174, 2, none⟩ = some (.int .i64 a0_2) := (aD BK174.out 2).trans rfl
         have hcz16_3 : wr.cell? ⟨gb174, 3, none⟩ = some (.bool a0_3) := (aD BK174.out 3).trans rfl
         have hfz16_0 := aA BK174.out 0
         have hfz16_1 := aA BK174.out 1
         have hfz16_2 := aA BK174.out 2
         have hfz16_3 := aA BK174.out 3
         have p176 : 0 ≤ (x4_2 : Int) := lE (by first | (with_reducible assumption) | assumption)
         have q176 : x4_2 < (l0_1.length : Int) := lE (by first | (with_reducible assumption) | assumption)
         obtain ⟨ad176, A176_1, c176_1, e176, hx176_0, hx176_1, hl176_1, hi176_1⟩ := at_T50 HR0_1.out x4_2 p176 q176
         cases e176
         replace hx176_0 := (HB.out.cell (lD w _ hx176_0)).trans hx176_0
         replace hx176_1 := (HB.out.cell (lD w _ hx176_1)).trans hx176_1
         have HR176_1 := aC.mk hi176_1
         have HC176_1 := aC.mk hl176_1
         clear hi176_1 hl176_1
         replace p176 := eq_true p176
         replace q176 := eq_true q176
         have hwq0_ : IntKind.i64.wrap ((l0_0.length : Int) - 1) = wrap64 ((l0_0.length : Int) - 1) := by rw [IntKind.wrap_i64]; unfold wrap64; rfl
         go_wp2_with (first | (go_at_call 43; (with_reducible refine (spec_l1In.calls ((rd_T50 l0_1 x4_2).f0) 0 (wrap64 ((l0_0.length : Int) - 1)) false _ A11.out).mono ?_); rintro e w' ⟨rfl, ⟨nd, rfl⟩⟩; (try first | exact ⟨rfl, _, World.drewN_drewN _ _ _⟩ | exact ⟨rfl, _, Eq.trans (World.drewN_drewN _ _ _) (congrArg (World.drewN _) (Nat.add_assoc _ _ _))⟩)))
         repeat (go_quiet (first | (go_at_call 43; (with_reducible refine (spec_l1In.calls ((rd_T50 l0_1 x4_2).f0) 0 (wrap64 ((l0_0.length : Int) - 1)) false _ A11.out).mono ?_); rintro e w' ⟨rfl, ⟨nd, rfl⟩⟩; (try first | exact ⟨rfl, _, World.drewN_drewN _ _ _⟩ | exact ⟨rfl, _, Eq.trans (World.drewN_drewN _ _ _) (congrArg (World.drewN _) (Nat.add_assoc _ _ _))⟩))); try go_wp2_with (first | (go_at_call 43; (with_reducible refine (spec_l1In.calls ((rd_T50 l0_1 x4_2).f0) 0 (wrap64 ((l0_0.length : Int) - 1)) false _ A11.out).mono ?_); rintro e w' ⟨rfl, ⟨nd, rfl⟩⟩; (try first | exact ⟨rfl, _, World.drewN_drewN _ _ _⟩ | exact ⟨rfl, _, Eq.trans (World.drewN_drewN _ _ _) (congrArg (World.drewN _) (Nat.add_assoc _ _ _))⟩))))
         go_ret
         exact ⟨by first | rfl | (simp [errW_none, errW_some] <;> rfl) | (simp [*, errW_none, errW_some] <;> rfl), by repeat (first | (with_reducible first | exact HB.out | apply aJ | apply aE | apply aH | refine aG ?_ GE174.out) | exact HB.out)⟩
       ·rw [if_neg c10] at H
        exact absurd H (by simp)
      ·rw [if_neg c9] at H
       have c9b0 : decide (x4_2 < (l0_1.length : Int)) = false := decide_eq_false c9
       clear c9
       replace H := lF H
       obtain ⟨t179, A170, H⟩ := H
       replace H : (if t179 = true then (if (l0_1.length : Int) ≤ 60 then ((spec_l1In.f a0_2 (-1) 1000).bind fun t180 => (some t180)) else (some false)) else (some false)) = some r := H
       have A17 := aC.mk A170
       clear A170
       by_cases c18 : t179 = true
       ·subst c18
        have H1 : (if (l0_1.length : Int) ≤ 60 then ((spec_l1In.f a0_2 (-1) 1000).bind fun t180 => (some t180)) else (some false)) = some r := by rw [if_pos rfl] at H; exact H
        clear H
        have H := H1
        clear H1
        by_cases c19 : (l0_1.length : Int) ≤ 60
        ·rw [if_pos c19] at H
         have c19b0 : decide ((l0_1.length : Int) ≤ 60) = true := decide_eq_true c19
         have c19b1 : decide (l0_1.length ≤ 60) = true := decide_eq_true (by omega)
         clear c19
         replace H := lF H
         obtain ⟨t180, A200, H⟩ := H
         replace H : (some t180) = some r := H
         have A20 := aC.mk A200
         clear A200
         obtain rfl := Option.some.inj H
         have hcz21_0 : wr.cell? ⟨gb174, 0, none⟩ = some (.slice A0_0 l0_0.length c0_0) := (aD BK174.out 0).trans rfl
         have hcz21_1 : wr.cell? ⟨gb174, 1, none⟩ = some (.slice A0_1 l0_1.length c0_1) := (aD BK174.out 1).trans rfl
         have hcz21_2 : wr.cell? ⟨gb174, 2, none⟩ = some (.int .i64 a0_2) := (aD BK174.out 2).trans rfl
         have hcz21_3 : wr.cell? ⟨gb174, 3, none⟩ = some (.bool a0_3) := (aD BK174.out 3).trans rfl
         have hfz21_0 := aA BK174.out 0
         have hfz21_1 := aA BK174.out 1
         have hfz21_2 := aA BK174.out 2
         have hfz21_3 := aA BK174.out 3
         go_wp2_with (first | (go_at_call 43; (with_reducible refine (spec_l1In.calls (l0_0.length : Int) 1 60 true _ A17.out).mono ?_); rintro e w' ⟨rfl, ⟨nd, rfl⟩⟩; (try first | exact ⟨rfl, _, World.drewN_drewN _ _ _⟩ | exact ⟨rfl, _, Eq.trans (World.drewN_drewN _ _ _) (congrArg (World.drewN _) (Nat.add_assoc _ _ _))⟩)) | (go_at_call 43; (with_reducible refine (spec_l1In.calls a0_2 (-1) 1000 t180 _ A20.out).mono ?_); rintro e w' ⟨rfl, ⟨nd, rfl⟩⟩; (try first | exact ⟨rfl, _, World.drewN_drewN _ _ _⟩ | exact ⟨rfl, _, Eq.trans (World.drewN_drewN _ _ _) (congrArg (World.drewN _) (Nat.add_assoc _ _ _))⟩)))
         repeat (go_quiet (first | (go_at_call 43; (with_reducible refine (spec_l1In.calls (l0_0.length : Int) 1 60 true _ A17.out).mono ?_); rintro e w' ⟨rfl, ⟨nd, rfl⟩⟩; (try first | exact ⟨rfl, _, World.drewN_drewN _ _ _⟩ | exact ⟨rfl, _, Eq.trans (World.drewN_drewN _ _ _) (congrArg (World.drewN _) (Nat.add_assoc _ _ _))⟩)) | (go_at_call 43; (with_reducible refine (spec_l1In.calls a0_2 (-1) 1000 t180 _ A20.out).mono ?_); rintro e w' ⟨rfl, ⟨nd, rfl⟩⟩; (try first | exact ⟨rfl, _, World.drewN_drewN _ _ _⟩ | exact ⟨rfl, _, Eq.trans (World.drewN_drewN _ _ _) (congrArg (World.drewN _) (Nat.add_assoc _ _ _))⟩))); try go_wp2_with (first | (go_at_call 43; (with_reducible refine (spec_l1In.calls (l0_0.length : Int) 1 60 true _ A17.out).mono ?_); rintro e w' ⟨rfl, ⟨nd, rfl⟩⟩; (try first | exact ⟨rfl, _, World.drewN_drewN _ _ _⟩ | exact ⟨rfl, _, Eq.trans (World.drewN_drewN _ _ _) (congrArg (World.drewN _) (Nat.add_assoc _ _ _))⟩)) | (go_at_call 43; (with_reducible refine (spec_l1In.calls a0_2 (-1) 1000 t180 _ A20.out).mono ?_); rintro e w' ⟨rfl, ⟨nd, rfl⟩⟩; (try first | exact ⟨rfl, _, World.drewN_drewN _ _ _⟩ | exact ⟨rfl, _, Eq.trans (World.drewN_drewN _ _ _) (congrArg (World.drewN _) (Nat.add_assoc _ _ _))⟩))))
         go_ret
         exact ⟨by first | rfl | (simp [errW_none, errW_some] <;> rfl) | (simp [*, errW_none, errW_some] <;> rfl), by repeat (first | (with_reducible first | exact HB.out | apply aJ | apply aE | apply aH | refine aG ?_ GE174.out) | exact HB.out)⟩
        ·rw [if_neg c19] at H
         have c19b0 : decide ((l0_1.length : Int) ≤ 60) = false := decide_eq_false c19
         have c19b1 : decide (l0_1.length ≤ 60) = false := decide_eq_false (by omega)
         clear c19
         obtain rfl := Option.some.inj H
         have hcz22_0 : wr.cell? ⟨gb174, 0, none⟩ = some (.slice A0_0 l0_0.length c0_0) := (aD BK174.out 0).trans rfl
         have hcz22_1 : wr.cell? ⟨gb174, 1, none⟩ = some (.slice A0_1 l0_1.length c0_1) := (aD BK174.out 1).trans rfl
         have hcz22_2 : wr.cell? ⟨gb174, 2, none⟩ = some (.int .i64 a0_2) := (aD BK174.out 2).trans rfl
         have hcz22_3 : wr.cell? ⟨gb174, 3, none⟩ = some (.bool a0_3) := (aD BK174.out 3).trans rfl
         have hfz22_0 := aA BK174.out 0
         have hfz22_1 := aA BK174.out 1
         have hfz22_2 := aA BK174.out 2
         have hfz22_3 := aA BK174.out 3
         go_wp2_with (first | (go_at_call 43; (with_reducible refine (spec_l1In.calls (l0_0.length : Int) 1 60 true _ A17.out).mono ?_); rintro e w' ⟨rfl, ⟨nd, rfl⟩⟩; (try first | exact ⟨rfl, _, World.drewN_drewN _ _ _⟩ | exact ⟨rfl, _, Eq.trans (World.drewN_drewN _ _ _) (congrArg (World.drewN _) (Nat.add_assoc _ _ _))⟩)))
         repeat (go_quiet (first | (go_at_call 43; (with_reducible refine (spec_l1In.calls (l0_0.length : Int) 1 60 true _ A17.out).mono ?_); rintro e w' ⟨rfl, ⟨nd, rfl⟩⟩; (try first | exact ⟨rfl, _, World.drewN_drewN _ _ _⟩ | exact ⟨rfl, _, Eq.trans (World.drewN_drewN _ _ _) (congrArg (World.drewN _) (Nat.add_assoc _ _ _))⟩))); try go_wp2_with (first | (go_at_call 43; (with_reducible refine (spec_l1In.calls (l0_0.length : Int) 1 60 true _ A17.out).mono ?_); rintro e w' ⟨rfl, ⟨nd, rfl⟩⟩; (try first | exact ⟨rfl, _, World.drewN_drewN _ _ _⟩ | exact ⟨rfl, _, Eq.trans (World.drewN_drewN _ _ _) (congrArg (World.drewN _) (Nat.add_assoc _ _ _))⟩))))
         go_ret
         exact ⟨by first | rfl | (simp [errW_none, errW_some] <;> rfl) | (simp [*, errW_none, errW_some] <;> rfl), by repeat (first | (with_reducible first | exact HB.out | apply aJ | apply aE | apply aH | refine aG ?_ GE174.out) | exact HB.out)⟩
       ·replace c18 := Bool.eq_false_iff.mpr c18
        subst c18
        have H1 : (some false) = some r := by rw [if_neg (show ¬ (false = true) by decide)] at H; exact H
        clear H
        have H := H1
        clear H1
        obtain rfl := Option.some.inj H
        have hcz23_0 : wr.cell? ⟨gb174, 0, none⟩ = some (.slice A0_0 l0_0.length c0_0) := (aD BK174.out 0).trans rfl
        have hcz23_1 : wr.cell? ⟨gb174, 1, none⟩ = some (.slice A0_1 l0_1.length c0_1) := (aD BK174.out 1).trans rfl
        have hcz23_2 : wr.cell? ⟨gb174, 2, none⟩ = some (.int .i64 a0_2) := (aD BK174.out 2).trans rfl
        have hcz23_3 : wr.cell? ⟨gb174, 3, none⟩ = some (.bool a0_3) := (aD BK174.out 3).trans rfl
        have hfz23_0 := aA BK174.out 0
        have hfz23_1 := aA BK174.out 1
        have hfz23_2 := aA BK174.out 2
        have hfz23_3 := aA BK174.out 3
        go_wp2_with (first | (go_at_call 43; (with_reducible refine (spec_l1In.calls (l0_0.length : Int) 1 60 false _ A17.out).mono ?_); rintro e w' ⟨rfl, ⟨nd, rfl⟩⟩; (try first | exact ⟨rfl, _, World.drewN_drewN _ _ _⟩ | exact ⟨rfl, _, Eq.trans (World.drewN_drewN _ _ _) (congrArg (World.drewN _) (Nat.add_assoc _ _ _))⟩)))
        repeat (go_quiet (first | (go_at_call 43; (with_reducible refine (spec_l1In.calls (l0_0.length : Int) 1 60 false _ A17.out).mono ?_); rintro e w' ⟨rfl, ⟨nd, rfl⟩⟩; (try first | exact ⟨rfl, _, World.drewN_drewN _ _ _⟩ | exact ⟨rfl, _, Eq.trans (World.drewN_drewN _ _ _) (congrArg (World.drewN _) (Nat.add_assoc _ _ _))⟩))); try go_wp2_with (first | (go_at_call 43; (with_reducible refine (spec_l1In.calls (l0_0.length : Int) 1 60 false _ A17.out).mono ?_); rintro e w' ⟨rfl, ⟨nd, rfl⟩⟩; (try first | exact ⟨rfl, _, World.drewN_drewN _ _ _⟩ | exact ⟨rfl, _, Eq.trans (World.drewN_drewN _ _ _) (congrArg (World.drewN _) (Nat.add_assoc _ _ _))⟩))))
        go_ret
        exact ⟨by first | rfl | (simp [errW_none, errW_some] <;> rfl) | (simp [*, errW_none, errW_some] <;> rfl), by repeat (first | (with_reducible first | exact HB.out | apply aJ | apply aE | apply aH | refine aG ?_ GE174.out) | exact HB.out)⟩
end Go.Proofs.Ytilhcaofpfeioaa.PFnExactFlushDev

namespace Go.Proofs.Ytilhcaofpfeioaa.PFnExactFlushDev
open Go.RowKit Go.Proofs.YtilhcaofpfeioaaW.PrintWords Go.Proofs.YtilhcaofpfeioaaW.PrintLast Go.Proofs.YtilhcaofpfeioaaW.PrintMore
attribute [local go_sem] max2_int min2_int max_two min_two max_three min_three max_four min_four   -- for this text's walks alone
set_option linter.unusedVariables false
set_option linter.unusedSimpArgs false
mutual
def spec_l2Copy.l0 : Nat → Int → List (List Int) → List (S50) → Int → Bool → List (List Int) → Int → Bool → Option ((List (List Int)) × (List (S50)) × Int × Bool)
 | 0, _, _, _, _, _, _, _, _ => none
 | k + 1, x4, x182000, x182001, x182002, x182003, x184000, x184002, x184003 => if x4 < (x182000.length : Int) then ((some (([] : List Int) : List Int)).bind fun y184 => (if 0 ≤ x4 then (if y184.length + (rd_L1 x182000 x4).length < 140737488355328 then (if x184000.length < 5864062014805 then (spec_l2Copy.l0 k (wrap64 (x4 + 1)) x182000 x182001 x182002 x182003 (x184000 ++ [(y184 ++ (rd_L1 x182000 x4))]) x184002 x184003) else (none)) else (none)) else (none))) else (spec_l2Copy.l1 k 0 x182000 x182001 x182002 x182003 x184000 ([] : List (S50)) x184002 x184003)
def spec_l2Copy.l1 : Nat → Int → List (List Int) → List (S50) → Int → Bool → List (List Int) → List (S50) → Int → Bool → Option ((List (List Int)) × (List (S50)) × Int × Bool)
 | 0, _, _, _, _, _, _, _, _, _ => none
 | k + 1, x5, x182000, x182001, x182002, x182003, x184000, x184001, x184002, x184003 => if x5 < (x182001.length : Int) then (if 0 ≤ x5 then ((some (([] : List Int) : List Int)).bind fun y195 => (if y195.length + ((rd_T50 x182001 x5).f1).length < 140737488355328 then (if x184001.length < 4398046511104 then (spec_l2Copy.l1 k (wrap64 (x5 + 1)) x182000 x182001 x182002 x182003 x184000 (x184001 ++ [(⟨(rd_T50 x182001 x5).f0, (y195 ++ ((rd_T50 x182001 x5).f1))⟩ : S50)]) x184002 x184003) else (none)) else (none))) else (none)) else (some (x184000, x184001, x184002, x184003))
end
def spec_l2Copy.f (k : Nat) (l0_0 : List (List Int)) (l0_1 : List (S50)) (a0_2 : Int) (a0_3 : Bool) : Option ((List (List Int)) × (List (S50)) × Int × Bool) := spec_l2Copy.l0 k 0 l0_0 l0_1 a0_2 a0_3 ([] : List (List Int)) a0_2 a0_3
def spec_l2Copy.T5 : Bool × List (List Nat × List Nat) := (true, [([], []), ([0], [0]), ([], []), ([], []), ([3], [3]), ([], []), ([4, 5], [4, 5]), ([6], [6]), ([2, 7], [2, 7]), ([8], [8]), ([1, 9, 8], [1, 9]), ([0, 1, 2, 3, 4, 5, 6, 7, 8, 9, 10], []), ([11, 10, 10, 0, 1, 2, 3, 4, 5, 6, 7, 8, 9, 10], [10, 11])])
def spec_l2Copy.B5 : List Nat := [0, 1, 0, 0, 8, 0, 56, 120, 252, 508, 1023, 2047, 4095]
theorem spec_l2Copy.tab5 : rtab .any (opsOf Try.f56 5) = spec_l2Copy.T5 := by kernel_rfl
theorem spec_l2Copy.bits5 : waitsOk spec_l2Copy.T5.2 spec_l2Copy.B5 = true := by kernel_rfl
def spec_l2Copy.T9 : Bool × List (List Nat × List Nat) := (true, [([], []), ([0], [0]), ([], []), ([2], [2]), ([], []), ([3, 4], [3, 4]), ([5], [5]), ([6], [6]), ([], []), ([], []), ([9], [9]), ([], []), ([10, 11], [10, 11]), ([12], [12]), ([13], [13]), ([8, 14], [8, 14]), ([7, 15], [7, 15]), ([16], [16]), ([1, 17, 15], [1, 17]), ([0, 1, 2, 3, 4, 5, 6, 7, 8, 9, 10, 11, 12, 13, 14, 15, 16, 17, 18], []), ([19, 18, 18, 0, 1, 2, 3, 4, 5, 6, 7, 8, 9, 10, 11, 12, 13, 14, 15, 16, 17, 18], [18, 19])])
def spec_l2Copy.B9 : List Nat := [0, 1, 0, 4, 0, 28, 60, 124, 0, 0, 512, 0, 3584, 7680, 15872, 32512, 65532, 131068, 262143, 524287, 1048575]
theorem spec_l2Copy.tab9 : rtab .any (opsOf Try.f56 9) = spec_l2Copy.T9 := by kernel_rfl
theorem spec_l2Copy.bits9 : waitsOk spec_l2Copy.T9.2 spec_l2Copy.B9 = true := by kernel_rfl
set_option maxHeartbeats 8000000 in
set_option maxRecDepth 100000 in
theorem spec_l2Copy.calls (k : Nat) (A0_0 : Option Addr) (c0_0 : Nat) (l0_0 : List (List Int)) (A0_1 : Option Addr) (c0_1 : Nat) (l0_1 : List (S50)) (a0_2 : Int) (a0_3 : Bool) (r1 : List (List Int)) (r2 : List (S50)) (r3 : Int) (r4 : Bool) (w : World) (hr0_0 : Kd.C (Kd.slice 5 (Kd.int .u8)) w A0_0 l0_0.length l0_0) (hc0_0 : l0_0.length ≤ c0_0) (hr0_1 : Kd.C k50 w A0_1 l0_1.length l0_1) (hc0_1 : l0_1.length ≤ c0_1) (h : spec_l2Copy.f k l0_0 l0_1 a0_2 a0_3 = some (r1, r2, r3, r4)) :
  Calls Try.prog 56 #[.agg #[.slice A0_0 l0_0.length c0_0, .slice A0_1 l0_1.length c0_1, .int .i64 a0_2, .bool a0_3]] w fun e w' => ∃ v0_ v1_ : Value, e = .returned (.agg #[v0_, v1_, .int .i64 r3, .bool r4]) ∧ Kd.S (Kd.slice 5 (Kd.int .u8)) 37 w' w.heap.size (fun _ => True) v0_ r1 ∧ Kd.S k50 50 w' w.heap.size (fun _ => True) v1_ r2 ∧ Below w.heap.size w w' := by
 have hu25 := Try.underlying25
 have hu50 := Try.underlying50
 have HR0_0 := aC.mk hr0_0
 have HC0_0 := aC.mk hc0_0
 clear hr0_0 hc0_0
 have HR0_1 := aC.mk hr0_1
 have HC0_1 := aC.mk hc0_1
 clear hr0_1 hc0_1
 have HB := aC.mk (Below.refl w.heap.size w)
 have H : (spec_l2Copy.l0 k 0 l0_0 l0_1 a0_2 a0_3 ([] : List (List Int)) a0_2 a0_3) = some (r1, r2, r3, r4) := h
 clear h
 have H' := aC.mk H
 clear H
 go_enter Try.func56, Try.ntmps56
 go_wp2_with (first | ((with_reducible refine bC (N := 1) rfl ?_); refine bB ?hg (N := 1) ?hd (cs := #[.slice A0_0 l0_0.length c0_0, .slice A0_1 l0_1.length c0_1, .int .i64 a0_2, .bool a0_3]) (t := 25) ?hr ?_; (case hd => rfl); (case hg => rfl); (case hr => first | (go_simp; done) | (go_simp; rfl)); intro gb181 hg w2 hbox hb; have n0_ := aC.mk (aV (by repeat (first | (with_reducible first | exact HB.out | apply aJ | apply aE | apply aH) | exact HB.out)) hb); have n1_ := aC.mk (hbox); have n2_ := aC.mk ((by rw [hg]; exact (aW (by repeat (first | (with_reducible first | exact HB.out | apply aJ | apply aE | apply aH) | exact HB.out))) : w.heap.size ≤ gb181)); have n3_ := aC.mk ((by rw [hg]; exact (aW (by repeat (first | (with_reducible first | exact HB.out | apply aJ | apply aE | apply aH) | exact HB.out))) : w.heap.size ≤ gb181)); clear HB; have HB := n0_; have BK181 := n1_; have GW181 := n2_; have GE181 := n3_; clear n0_ n1_ n2_ n3_; clear hb hbox hg) | ((with_reducible refine bC (N := 2) rfl ?_); refine bB ?hg (N := 2) ?hd (cs := #[.slice none 0 0, .slice none 0 0, .int .i64 0, .bool false]) (t := 25) ?hr ?_; (case hd => rfl); (case hg => rfl); (case hr => first | (go_simp; done) | (go_simp; rfl)); intro gb182 hg w3 hbox hb; have n0_ := aC.mk (aM (g := gb181) (o := .cells #[.slice A0_0 l0_0.length c0_0, .slice A0_1 l0_1.length c0_1, .int .i64 a0_2, .bool a0_3] 25 (0, 0)) (by (with_reducible repeat (first | refine aT ?_ _ | refine aQ ?_ | refine aN ?_ _)); exact BK181.out) hb); have n1_ := aC.mk (aV (by repeat (first | (with_reducible first | exact HB.out | apply aJ | apply aE | apply aH | refine aG ?_ GE181.out) | exact HB.out)) hb); have n2_ := aC.mk (hbox); have n3_ := aC.mk ((by rw [hg]; exact (aW (by repeat (first | (with_reducible first | exact HB.out | apply aJ | apply aE | apply aH | refine aG ?_ GE181.out) | exact HB.out))) : w.heap.size ≤ gb182)); have n4_ := aC.mk ((by rw [hg]; exact (aW (by repeat (first | (with_reducible first | exact HB.out | apply aJ | apply aE | apply aH | refine aG ?_ GE181.out) | exact HB.out))) : w.heap.size ≤ gb182)); have n5_ := aC.mk ((by rw [hg]; exact Nat.ne_of_lt (bG (g := gb181) (o := .cells #[.slice A0_0 l0_0.length c0_0, .slice A0_1 l0_1.length c0_1, .int .i64 a0_2, .bool a0_3] 25 (0, 0)) (by (with_reducible repeat (first | refine aT ?_ _ | refine aQ ?_ | refine aN ?_ _)); exact BK181.out)) : gb181 ≠ gb182)); have n6_ := aC.mk ((by rw [hg]; exact Nat.ne_of_gt (bG (g := gb181) (o := .cells #[.slice A0_0 l0_0.length c0_0, .slice A0_1 l0_1.length c0_1, .int .i64 a0_2, .bool a0_3] 25 (0, 0)) (by (with_reducible repeat (first | refine aT ?_ _ | refine aQ ?_ | refine aN ?_ _)); exact BK181.out)) : gb182 ≠ gb181)); clear BK181; clear HB; have BK181 := n0_; have HB := n1_; have BK182 := n2_; have GW182 := n3_; have GE182 := n4_; have NB181_182 := n5_; have NB182_181 := n6_; clear n0_ n1_ n2_ n3_ n4_ n5_ n6_; clear hb hbox hg; have hnb4 := NB181_182.out; have hnc4 := NB182_181.out; have hcz5_0 : w3.cell? ⟨gb181, 0, none⟩ = some (.slice A0_0 l0_0.length c0_0) := (aD BK181.out 0).trans rfl; have hcz5_1 : w3.cell? ⟨gb181, 1, none⟩ = some (.slice A0_1 l0_1.length c0_1) := (aD BK181.out 1).trans rfl; have hcz5_2 : w3.cell? ⟨gb181, 2, none⟩ = some (.int .i64 a0_2) := (aD BK181.out 2).trans rfl; have hcz5_3 : w3.cell? ⟨gb181, 3, none⟩ = some (.bool a0_3) := (aD BK181.out 3).trans rfl; have hfz5_0 := aA BK181.out 0; have hfz5_1 := aA BK181.out 1; have hfz5_2 := aA BK181.out 2; have hfz5_3 := aA BK181.out 3) | ((with_reducible refine bC (N := 3) rfl ?_); refine bB ?hg (N := 3) ?hd (cs := #[.slice none 0 0, .slice none 0 0, .int .i64 0, .bool false]) (t := 25) ?hr ?_; (case hd => rfl); (case hg => rfl); (case hr => first | (go_simp; done) | (go_simp; rfl)); intro gb183 hg w6 hbox hb; have n0_ := aC.mk (aM (g := gb181) (o := .cells #[.slice A0_0 l0_0.length c0_0, .slice A0_1 l0_1.length c0_1, .int .i64 a0_2, .bool a0_3] 25 (0, 0)) (by (with_reducible repeat (first | refine aT ?_ _ | refine aQ ?_ | refine aN ?_ _)); exact BK181.out) hb); have n1_ := aC.mk (aM (g := gb182) (o := .cells #[.slice none 0 0, .slice none 0 0, .int .i64 0, .bool false] 25 (0, 0)) (by (with_reducible repeat (first | refine aT ?_ _ | refine aQ ?_ | refine aN ?_ _)); exact BK182.out) hb); have n2_ := aC.mk (aV (by repeat (first | (with_reducible first | exact HB.out | apply aJ | apply aE | apply aH | refine aG ?_ GE181.out | refine aG ?_ GE182.out) | exact HB.out)) hb); have n3_ := aC.mk (hbox); have n4_ := aC.mk ((by rw [hg]; exact (aW (by repeat (first | (with_reducible first | exact HB.out | apply aJ | apply aE | apply aH | refine aG ?_ GE181.out | refine aG ?_ GE182.out) | exact HB.out))) : w.heap.size ≤ gb183)); have n5_ := aC.mk ((by rw [hg]; exact (aW (by repeat (first | (with_reducible first | exact HB.out | apply aJ | apply aE | apply aH | refine aG ?_ GE181.out | refine aG ?_ GE182.out) | exact HB.out))) : w.heap.size ≤ gb183)); have n6_ := aC.mk ((by rw [hg]; exact Nat.ne_of_lt (bG (g := gb181) (o := .cells #[.slice A0_0 l0_0.length c0_0, .slice A0_1 l0_1.length c0_1, .int .i64 a0_2, .bool a0_3] 25 (0, 0)) (by (with_reducible repeat (first | refine aT ?_ _ | refine aQ ?_ | refine aN ?_ _)); exact BK181.out)) : gb181 ≠ gb183)); have n7_ := aC.mk ((by rw [hg]; exact Nat.ne_of_gt (bG (g := gb181) (o := .cells #[.slice A0_0 l0_0.length c0_0, .slice A0_1 l0_1.length c0_1, .int .i64 a0_2, .bool a0_3] 25 (0, 0)) (by (with_reducible repeat (first | refine aT ?_ _ | refine aQ ?_ | refine aN ?_ _)); exact BK181.out)) : gb183 ≠ gb181)); have n8_ := aC.mk ((by rw [hg]; exact Nat.ne_of_lt (bG (g := gb182) (o := .cells #[.slice none 0 0, .slice none 0 0, .int .i64 0, .bool false] 25 (0, 0)) (by (with_reducible repeat (first | refine aT ?_ _ | refine aQ ?_ | refine aN ?_ _)); exact BK182.out)) : gb182 ≠ gb183)); have n9_ := aC.mk ((by rw [hg]; exact Nat.ne_of_gt (bG (g := gb182) (o := .cells #[.slice none 0 0, .slice none 0 0, .int .i64 0, .bool false] 25 (0, 0)) (by (with_reducible repeat (first | refine aT ?_ _ | refine aQ ?_ | refine aN ?_ _)); exact BK182.out)) : gb183 ≠ gb182)); clear BK181; clear BK182; clear HB; have BK181 := n0_; have BK182 := n1_; have HB := n2_; have BK183 := n3_; have GW183 := n4_; have GE183 := n5_; have NB181_183 := n6_; have NB183_181 := n7_; have NB182_183 := n8_; have NB183_182 := n9_; clear n0_ n1_ n2_ n3_ n4_ n5_ n6_ n7_ n8_ n9_; clear hb hbox hg; have hnb7 := NB183_181.out; have hnc7 := NB181_183.out; have hnb8 := NB183_182.out; have hnc8 := NB182_183.out; have hcz9_0 : w6.cell? ⟨gb183, 0, none⟩ = some (.slice none 0 0) := (aD BK183.out 0).trans rfl; have hcz9_1 : w6.cell? ⟨gb183, 1, none⟩ = some (.slice none 0 0) := (aD BK183.out 1).trans rfl; have hcz9_2 : w6.cell? ⟨gb183, 2, none⟩ = some (.int .i64 0) := (aD BK183.out 2).trans rfl; have hcz9_3 : w6.cell? ⟨gb183, 3, none⟩ = some (.bool false) := (aD BK183.out 3).trans rfl; have hfz9_0 := aA BK183.out 0; have hfz9_1 := aA BK183.out 1; have hfz9_2 := aA BK183.out 2; have hfz9_3 := aA BK183.out 3))
 go_loopg [4] k (fun kq v4 w' => ∃ (x4_1 : Int) (x184000_1 : List (List Int)) (u184000 : Value), v4 = .int .i64 x4_1 ∧ aC (spec_l2Copy.l0 kq x4_1 l0_0 l0_1 a0_2 a0_3 x184000_1 a0_2 a0_3 = some (r1, r2, r3, r4)) ∧ aC (kq ≤ k) ∧ aC (Kd.S (Kd.slice 5 (Kd.int .u8)) 37 w' w.heap.size (fun _ => True) u184000 x184000_1) ∧ aC (w'.heap[gb181]? = some (.cells #[(.slice A0_0 l0_0.length c0_0), (.slice A0_1 l0_1.length c0_1), .int .i64 a0_2, .bool a0_3] 25 (0, 0))) ∧ aC (w'.heap[gb182]? = some (.cells #[(.slice none 0 0), (.slice none 0 0), .int .i64 0, .bool false] 25 (0, 0))) ∧ aC (w'.heap[gb183]? = some (.cells #[u184000, (.slice none 0 0), .int .i64 a0_2, .bool a0_3] 25 (0, 0))) ∧ aC (Below w.heap.size w w'))
 case atStart => exact ⟨(0), (([] : List (List Int))), (.slice none 0 0), (by first | rfl | (simp; done) | (simp [*]; done)), H', ⟨Nat.le_refl _⟩, ⟨by first | exact Kd.S_nil _ _ _ _ _ | exact Kd.N_nil _ _ _ _ _ | exact Kd.V_nil _ _ _ _ _ | exact Kd.Q_nil _ _ _ _ _ | exact Kd.R_nil _ _ _ _ _⟩, ⟨by (with_reducible repeat (first | refine aT ?_ _ | refine aQ ?_ | refine aN ?_ _)); refine blk_far ?_ NB181_183.out _; (with_reducible repeat (first | refine aT ?_ _ | refine aQ ?_ | refine aN ?_ _)); refine blk_far ?_ NB181_183.out _; (with_reducible repeat (first | refine aT ?_ _ | refine aQ ?_ | refine aN ?_ _)); refine blk_far ?_ NB181_183.out _; (with_reducible repeat (first | refine aT ?_ _ | refine aQ ?_ | refine aN ?_ _)); refine blk_far ?_ NB181_183.out _; (with_reducible repeat (first | refine aT ?_ _ | refine aQ ?_ | refine aN ?_ _)); exact BK181.out⟩, ⟨by (with_reducible repeat (first | refine aT ?_ _ | refine aQ ?_ | refine aN ?_ _)); refine blk_far ?_ NB182_183.out _; (with_reducible repeat (first | refine aT ?_ _ | refine aQ ?_ | refine aN ?_ _)); refine blk_far ?_ NB182_183.out _; (with_reducible repeat (first | refine aT ?_ _ | refine aQ ?_ | refine aN ?_ _)); refine blk_far ?_ NB182_183.out _; (with_reducible repeat (first | refine aT ?_ _ | refine aQ ?_ | refine aN ?_ _)); refine blk_far ?_ NB182_183.out _; (with_reducible repeat (first | refine aT ?_ _ | refine aQ ?_ | refine aN ?_ _)); exact BK182.out⟩, ⟨by (with_reducible repeat (first | refine aT ?_ _ | refine aQ ?_ | refine aN ?_ _)); refine aX (cs := #[.slice none 0 0, .slice none 0 0, .int .i64 a0_2, .bool false]) ?_ 3 _ rfl; (with_reducible repeat (first | refine aT ?_ _ | refine aQ ?_ | refine aN ?_ _)); refine aX (cs := #[.slice none 0 0, .slice none 0 0, .int .i64 0, .bool false]) ?_ 2 _ rfl; (with_reducible repeat (first | refine aT ?_ _ | refine aQ ?_ | refine aN ?_ _)); refine aX (cs := #[.slice none 0 0, .slice none 0 0, .int .i64 0, .bool false]) ?_ 1 _ rfl; (with_reducible repeat (first | refine aT ?_ _ | refine aQ ?_ | refine aN ?_ _)); refine aX (cs := #[.slice none 0 0, .slice none 0 0, .int .i64 0, .bool false]) ?_ 0 _ rfl; (with_reducible repeat (first | refine aT ?_ _ | refine aQ ?_ | refine aN ?_ _)); exact BK183.out⟩, ⟨by repeat (first | (with_reducible first | exact HB.out | apply aJ | apply aE | apply aH | refine aG ?_ GE181.out | refine aG ?_ GE182.out | refine aG ?_ GE183.out) | exact HB.out)⟩⟩
 case round =>
  clear H'
  try clear p2
  try clear c4
  try clear c5
  try clear c7
  try clear c8
  try clear hcz5_0
  try clear hcz5_1
  try clear hcz5_2
  try clear hcz5_3
  try clear hcz9_0
  try clear hcz9_1
  try clear hcz9_2
  try clear hcz9_3
  try clear hfz5_0
  try clear hfz5_1
  try clear hfz5_2
  try clear hfz5_3
  try clear hfz9_0
  try clear hfz9_1
  try clear hfz9_2
  try clear hfz9_3
  obtain ⟨x4_1, x184000_1, u184000, rfl, HA, HK1, HO_184000, BK181, BK182, BK183, HB⟩ := hrel
  cases gk with
  | zero => exact absurd HA.out (by simp [spec_l2Copy.l0])
  | succ k1 =>
   have H := HA.out
   clear HA
   simp only [spec_l2Copy.l0] at H
   by_cases c10 : x4_1 < (l0_0.length : Int)
   ·rw [if_pos c10] at H
    have c10b0 : decide (x4_1 < (l0_0.length : Int)) = true := decide_eq_true c10
    clear c10
    obtain ⟨y184, hy184⟩ : ∃ y_ : List Int, y_ = (([] : List Int)) := ⟨_, rfl⟩
    replace H : (if 0 ≤ x4_1 then (if y184.length + (rd_L1 l0_0 x4_1).length < 140737488355328 then (if x184000_1.length < 5864062014805 then (spec_l2Copy.l0 k1 (wrap64 (x4_1 + 1)) l0_0 l0_1 a0_2 a0_3 (x184000_1 ++ [(y184 ++ (rd_L1 l0_0 x4_1))]) a0_2 a0_3) else (none)) else (none)) else (none)) = some (r1, r2, r3, r4) := by first | (rw [hy184]; with_reducible exact H) | (have H2_ := (Option.bind_some _ _).symm.trans H; rw [hy184]; with_reducible exact H2_) | (have H2_ := (Option.bind_some _ _).symm.trans H; with_reducible exact H2_) | with_reducible exact H | (rw [hy184]; exact H) | exact H
    have Ny184 := aC.mk hy184
    clear hy184
    by_cases c11 : 0 ≤ x4_1
    ·rw [if_pos c11] at H
     have c11b0 : decide (0 ≤ x4_1) = true := decide_eq_true c11
     clear c11
     by_cases c12 : y184.length + (rd_L1 l0_0 x4_1).length < 140737488355328
     ·rw [if_pos c12] at H
      have LMc12 := aC.mk c12
      clear c12
      obtain ⟨y188, hy188⟩ : ∃ y_ : List Int, y_ = (y184 ++ (rd_L1 l0_0 x4_1)) := ⟨_, rfl⟩
      replace H : (if x184000_1.length < 5864062014805 then (spec_l2Copy.l0 k1 (wrap64 (x4_1 + 1)) l0_0 l0_1 a0_2 a0_3 (x184000_1 ++ [y188]) a0_2 a0_3) else (none)) = some (r1, r2, r3, r4) := by first | (rw [hy188]; with_reducible exact H) | (have H2_ := (Option.bind_some _ _).symm.trans H; rw [hy188]; with_reducible exact H2_) | (have H2_ := (Option.bind_some _ _).symm.trans H; with_reducible exact H2_) | with_reducible exact H | (rw [hy188]; exact H) | exact H
      have Ny188 := aC.mk hy188
      clear hy188
      by_cases c13 : x184000_1.length < 5864062014805
      ·rw [if_pos c13] at H
       have LMc13 := aC.mk c13
       clear c13
       obtain ⟨y191, hy191⟩ : ∃ y_ : List (List Int), y_ = (x184000_1 ++ [y188]) := ⟨_, rfl⟩
       replace H : (spec_l2Copy.l0 k1 (wrap64 (x4_1 + 1)) l0_0 l0_1 a0_2 a0_3 y191 a0_2 a0_3) = some (r1, r2, r3, r4) := by first | (rw [hy191]; with_reducible exact H) | (have H2_ := (Option.bind_some _ _).symm.trans H; rw [hy191]; with_reducible exact H2_) | (have H2_ := (Option.bind_some _ _).symm.trans H; with_reducible exact H2_) | with_reducible exact H | (rw [hy191]; exact H) | exact H
       have Ny191 := aC.mk hy191
       clear hy191
       have H' := aC.mk H
       clear H
       have hnb14 := NB181_182.out
       have hnc14 := NB182_181.out
       have hnb15 := NB181_183.out
       have hnc15 := NB183_181.out
       have hcz16_0 : wr.cell? ⟨gb181, 0, none⟩ = some (.slice A0_0 l0_0.length c0_0) := (aD BK181.out 0).trans rfl
       have hcz16_1 : wr.cell? ⟨gb181, 1, none⟩ = some (.slice A0_1 l0_1.length c0_1) := (aD BK181.out 1).trans rfl
       have hcz16_2 : wr.cell? ⟨gb181, 2, none⟩ = some (.int .i64 a0_2) := (aD BK181.out 2).trans rfl
       have hcz16_3 : wr.cell? ⟨gb181, 3, none⟩ = some (.bool a0_3) := (aD BK181.out 3).trans rfl
       have hfz16_0 := aA BK181.out 0
       have hfz16_1 := aA BK181.out 1
       have hfz16_2 := aA BK181.out 2
       have hfz16_3 := aA BK181.out 3
       try go_wp2
       have n0_ := aC.mk (Kd.S_drew HO_184000.out)
       have n1_ := aC.mk (aQ BK181.out)
       have n2_ := aC.mk (aQ BK182.out)
       have n3_ := aC.mk (aQ BK183.out)
       have n4_ := aC.mk (aH HB.out)
       clear HO_184000
       clear BK181
       clear BK182
       clear BK183
       clear HB
       have HO_184000 := n0_
       have BK181 := n1_
       have BK182 := n2_
       have BK183 := n3_
       have HB := n4_
       clear n0_ n1_ n2_ n3_ n4_
       have p187 : 0 ≤ (x4_1 : Int) := lE (by first | (with_reducible assumption) | assumption)
       have q187 : x4_1 < (l0_0.length : Int) := lE (by first | (with_reducible assumption) | assumption)
       obtain ⟨ad187, A187_0, c187_0, e187, hx187_0, hl187_0, hi187_0⟩ := at_L1 HR0_0.out x4_1 p187 q187
       have hw187_0 := hx187_0
       cases e187
       replace hx187_0 := (HB.out.cell (lD w _ hx187_0)).trans hx187_0
       have HR187_0 := aC.mk hi187_0
       have HC187_0 := aC.mk hl187_0
       clear hi187_0 hl187_0
       replace p187 := eq_true p187
       replace q187 := eq_true q187
       refine start_ (n := 13) (S := fun w' => w'.cell? ⟨gb183, 0, none⟩ = some (u184000) ∧ w'.cell? ⟨gb183, 1, none⟩ = some (.slice none 0 0) ∧ w'.cell? ⟨gb183, 2, none⟩ = some (.int .i64 a0_2) ∧ w'.cell? ⟨gb183, 3, none⟩ = some (.bool a0_3) ∧ w'.cell? ⟨gb181, 0, none⟩ = some (.slice (some ad187) l0_0.length c0_0) ∧ w'.cell? ⟨gb181, 1, none⟩ = some (.slice A0_1 l0_1.length c0_1) ∧ w'.cell? ⟨gb181, 2, none⟩ = some (.int .i64 a0_2) ∧ w'.cell? ⟨gb181, 3, none⟩ = some (.bool a0_3) ∧ w'.cell? (ad187.add (x4_1).toNat) = some (.slice A187_0 (rd_L1 l0_0 x4_1).length c187_0)) (ds := [12]) #[false, false, false, false, false, false, false, false, false, false, false, false, false] (by kernel_rfl) rfl rfl ⟨(aD BK183.out 0).trans rfl, (aD BK183.out 1).trans rfl, (aD BK183.out 2).trans rfl, (aD BK183.out 3).trans rfl, (aD BK181.out 0).trans rfl, (aD BK181.out 1).trans rfl, (aD BK181.out 2).trans rfl, (aD BK181.out 3).trans rfl, ((HB.out.cell (lD w _ hw187_0)).trans hw187_0)⟩ (fun hHeld => ?_); refine with_tabW spec_l2Copy.tab5 spec_l2Copy.bits5 (fun HT_ HW_ => ?_)
       generalize wr.drew = w17 at HO_184000 BK181 BK182 BK183 HB HR187_0 hx187_0 hHeld ⊢
       refine pure_ (i := 0) (N := some 18) (v := ?_) (a' := ?_) #[true, false, false, false, false, false, false, false, false, false, false, false, false] rfl rfl (any_of HT_.out (by kernel_rfl)) (fun _ _ _ h => h) (Or.inl ⟨by rfl, ?_⟩) ?_ ?_
       rotate_left
       ·intro w'
        go_simp
        with_reducible rfl
       rotate_left
       ·simp only [Act.put, lA, lB, lC, bE, bF]
        rfl
       refine pure_ (i := 3) (N := some 21) (v := ?_) (a' := ?_) #[true, false, false, true, false, false, false, false, false, false, false, false, false] rfl rfl (any_of HT_.out (by kernel_rfl)) (fun _ _ _ h => h) (Or.inl ⟨by rfl, ?_⟩) ?_ ?_
       rotate_left
       ·intro w'
        go_simp
        with_reducible rfl
       rotate_left
       ·simp only [Act.put, lA, lB, lC, bE, bF]
        rfl
       refine pure_ (i := 5) (N := some 23) (v := ?_) (a' := ?_) #[true, false, false, true, false, true, false, false, false, false, false, false, false] rfl rfl (any_of HT_.out (by kernel_rfl)) (fun _ _ _ h => h) (Or.inl ⟨by rfl, ?_⟩) ?_ ?_
       rotate_left
       ·intro w'
        go_simp
        with_reducible rfl
       rotate_left
       ·simp only [Act.put, lA, lB, lC, bE, bF]
        rfl
       refine take_ (i := 1) (N := some 19) (v := ?_) (a' := ?_) #[true, true, false, true, false, true, false, false, false, false, false, false, false] rfl rfl (take_ofW HT_.out HW_.out (by kernel_rfl)) (fun _ _ _ h => h) (Or.inl ⟨by rfl, ?_⟩) hHeld ?_ ?_
       rotate_left
       ·rintro w' ⟨s0, s1, s2, s3, s4, s5, s6, s7, s8⟩
        go_simp
        with_reducible rfl
       rotate_left
       ·simp only [Act.put, lA, lB, lC, bE, bF]
        rfl
       refine take_ (i := 4) (N := some 22) (v := ?_) (a' := ?_) #[true, true, false, true, true, true, false, false, false, false, false, false, false] rfl rfl (take_ofW HT_.out HW_.out (by kernel_rfl)) (fun _ _ _ h => h) (Or.inl ⟨by rfl, ?_⟩) hHeld ?_ ?_
       rotate_left
       ·rintro w' ⟨s0, s1, s2, s3, s4, s5, s6, s7, s8⟩
        go_simp
        with_reducible rfl
       rotate_left
       ·simp only [Act.put, lA, lB, lC, bE, bF]
        rfl
       refine pure_ (i := 6) (N := some 24) (v := ?_) (a' := ?_) #[true, true, false, true, true, true, true, false, false, false, false, false, false] rfl rfl (any_of HT_.out (by kernel_rfl)) (fun _ _ _ h => h) (Or.inl ⟨by rfl, ?_⟩) ?_ ?_
       rotate_left
       ·intro w'
        go_simp
        with_reducible rfl
       rotate_left
       ·simp only [Act.put, lA, lB, lC, bE, bF]
        rfl
       refine take_ (i := 7) (N := some 25) (v := ?_) (a' := ?_) #[true, true, false, true, true, true, true, true, false, false, false, false, false] rfl rfl (take_ofW HT_.out HW_.out (by kernel_rfl)) (fun _ _ _ h => h) (Or.inl ⟨by rfl, ?_⟩) hHeld ?_ ?_
       rotate_left
       ·rintro w' ⟨s0, s1, s2, s3, s4, s5, s6, s7, s8⟩
        go_simp
        with_reducible rfl
       rotate_left
       ·simp only [Act.put, lA, lB, lC, bE, bF]
        rfl
       refine one_ (i := 2) (N := some 20) #[true, true, true, true, true, true, true, true, false, false, false, false, false] rfl rfl (one_of HT_.out (by kernel_rfl)) (by decide) (fun K hK => ?_)
       refine Kd.R_lit_step (Kd.int .u8) _ 5 ?hg (N := 20) ?hd (xs := ([] : List Int)) (inner := []) (ok := fun _ => True) (okp := fun _ => True) ?hr ?hp (fun _ hk => hk) trivial (Below.refl _ _) (Nat.le_refl _) (by simp) ?_; (case hd => rfl); (case hg => rfl); (case hr => first | (go_simp; done) | (go_simp; rfl)); (case hp => exact (Reps.none _ _))
       intro v185 w18 ho19 hb hg_ hnew_
       clear hg_ hnew_
       (first | rw [← Ny184.out] at ho19 | (simp only [Int.reduceToNat] at ho19; rw [← Ny184.out] at ho19))
       have n0_ := aC.mk (Kd.S_elder' (by (with_reducible repeat (first | apply Kd.S_alloc | apply Kd.S_drewN | apply Kd.S_drew)); exact HO_184000.out) (Kd.R_base ho19) hb)
       have n1_ := aC.mk (Kd.R_lower ho19 (aW (by repeat (first | (with_reducible first | exact HB.out | apply aJ | apply aE | apply aH | refine aG ?_ GE181.out | refine aG ?_ GE182.out | refine aG ?_ GE183.out) | exact HB.out))))
       have n2_ := aC.mk (aM (g := gb181) (o := .cells #[.slice (some ad187) l0_0.length c0_0, .slice A0_1 l0_1.length c0_1, .int .i64 a0_2, .bool a0_3] 25 (0, 0)) (by (with_reducible repeat (first | refine aT ?_ _ | refine aQ ?_ | refine aN ?_ _)); exact BK181.out) hb)
       have n3_ := aC.mk (aM (g := gb182) (o := .cells #[.slice none 0 0, .slice none 0 0, .int .i64 0, .bool false] 25 (0, 0)) (by (with_reducible repeat (first | refine aT ?_ _ | refine aQ ?_ | refine aN ?_ _)); exact BK182.out) hb)
       have n4_ := aC.mk (aM (g := gb183) (o := .cells #[u184000, .slice none 0 0, .int .i64 a0_2, .bool a0_3] 25 (0, 0)) (by (with_reducible repeat (first | refine aT ?_ _ | refine aQ ?_ | refine aN ?_ _)); exact BK183.out) hb)
       have n5_ := aC.mk (aV (by repeat (first | (with_reducible first | exact HB.out | apply aJ | apply aE | apply aH | refine aG ?_ GE181.out | refine aG ?_ GE182.out | refine aG ?_ GE183.out) | exact HB.out)) hb)
       clear HO_184000
       clear BK181
       clear BK182
       clear BK183
       clear HB
       have HO_184000 := n0_
       have HO186 := n1_
       have BK181 := n2_
       have BK182 := n3_
       have BK183 := n4_
       have HB := n5_
       clear n0_ n1_ n2_ n3_ n4_ n5_
       clear hb ho19
       refine hK.out _ _ ⟨(aD BK183.out 0).trans rfl, (aD BK183.out 1).trans rfl, (aD BK183.out 2).trans rfl, (aD BK183.out 3).trans rfl, (aD BK181.out 0).trans rfl, (aD BK181.out 1).trans rfl, (aD BK181.out 2).trans rfl, (aD BK181.out 3).trans rfl, ((HB.out.cell (lD w _ hw187_0)).trans hw187_0)⟩ (fun hHeld => ?_)
       clear hK K
       refine norm_ (a' := ?_) ?_ ?_
       rotate_left
       ·show Act.put _ (some 20) _ = _
        simp only [Act.put, lA, lB, lC, bE, bF]
        rfl
       refine one_ (i := 8) (N := some 26) #[true, true, true, true, true, true, true, true, true, false, false, false, false] rfl rfl (one_of HT_.out (by kernel_rfl)) (by decide) (fun K hK => ?_)
       refine Kd.R_append_rows_step (Kd.int .u8) (w0 := w) w.heap.size (by rfl) (.tmp 20) (.tmp 25) 37 5 (.int .u8 0) 1 rfl Try.underlying37 info5 rfl (by decide) (by omega) v185 y184 (rd_L1 l0_0 x4_1) _ _ _ (fun _ => True) (fun _ => False) rfl rfl ?aO ?aR (fun _ _ h => h) (fun _ h => h.elim) ?aF ?aB ?aS ?aL ?_
       (case aR => repeat (first | exact (Kd.bL HR187_0.out HB.out) | (with_reducible refine Kd.bN ?_ _) | (with_reducible refine Kd.bM ?_ _) | (with_reducible refine Kd.bQ ?_)))
       (case aB => exact (by repeat (first | (with_reducible first | exact HB.out | apply aJ | apply aE | apply aH | refine aG ?_ GE181.out | refine aG ?_ GE182.out | refine aG ?_ GE183.out) | exact HB.out)))
       (case aF => exact (fun _ _ => trivial))
       (case aO => exact (by (with_reducible repeat (first | apply Kd.R_alloc | apply Kd.R_drewN | apply Kd.R_drew)); exact HO186.out))
       (case aS => exact (aW (by repeat (first | (with_reducible first | exact HB.out | apply aJ | apply aE | apply aH | refine aG ?_ GE181.out | refine aG ?_ GE182.out | refine aG ?_ GE183.out) | exact HB.out))))
       (case aL => have := LMc12.out; omega)
       intro v189 w20 ho hb hg hat
       rw [← Ny188.out] at ho
       have n0_ := aC.mk (Kd.S_after (ok := (fun _ => True)) (by (with_reducible repeat (first | apply Kd.S_alloc | apply Kd.S_drewN | apply Kd.S_drew)); exact HO_184000.out) hg hat)
       have n1_ := aC.mk (blk_grown (g := gb181) (o := .cells #[.slice (some ad187) l0_0.length c0_0, .slice A0_1 l0_1.length c0_1, .int .i64 a0_2, .bool a0_3] 25 (0, 0)) (by (with_reducible repeat (first | refine aT ?_ _ | refine aQ ?_ | refine aN ?_ _)); exact BK181.out) hg (Kd.R_ne HO186.out BK181.out (by decide)))
       have n2_ := aC.mk (blk_grown (g := gb182) (o := .cells #[.slice none 0 0, .slice none 0 0, .int .i64 0, .bool false] 25 (0, 0)) (by (with_reducible repeat (first | refine aT ?_ _ | refine aQ ?_ | refine aN ?_ _)); exact BK182.out) hg (Kd.R_ne HO186.out BK182.out (by decide)))
       have n3_ := aC.mk (blk_grown (g := gb183) (o := .cells #[u184000, .slice none 0 0, .int .i64 a0_2, .bool a0_3] 25 (0, 0)) (by (with_reducible repeat (first | refine aT ?_ _ | refine aQ ?_ | refine aN ?_ _)); exact BK183.out) hg (Kd.R_ne HO186.out BK183.out (by decide)))
       have n4_ := aC.mk (hb)
       have n5_ := aC.mk (ho)
       clear HO_184000
       clear BK181
       clear BK182
       clear BK183
       clear HB
       clear HO186
       have HO_184000 := n0_
       have BK181 := n1_
       have BK182 := n2_
       have BK183 := n3_
       have HB := n4_
       have HO190 := n5_
       clear n0_ n1_ n2_ n3_ n4_ n5_
       clear ho hb hg hat
       obtain ⟨Ao22, co22, eo22⟩ := Kd.R_slice HO190.out
       (first | subst eo22 | (injection eo22 with f1_ f2_ f3_; have f4_ := f1_.symm; have f5_ := f3_.symm; clear f1_ f2_ f3_; subst f4_; subst f5_))
       refine hK.out _ _ ⟨(aD BK183.out 0).trans rfl, (aD BK183.out 1).trans rfl, (aD BK183.out 2).trans rfl, (aD BK183.out 3).trans rfl, (aD BK181.out 0).trans rfl, (aD BK181.out 1).trans rfl, (aD BK181.out 2).trans rfl, (aD BK181.out 3).trans rfl, ((HB.out.cell (lD w _ hw187_0)).trans hw187_0)⟩ (fun hHeld => ?_)
       clear hK K
       refine norm_ (a' := ?_) ?_ ?_
       rotate_left
       ·show Act.put _ (some 26) _ = _
        simp only [Act.put, lA, lB, lC, bE, bF]
        rfl
       refine one_ (i := 9) (N := some 27) #[true, true, true, true, true, true, true, true, true, true, false, false, false] rfl rfl (one_of HT_.out (by kernel_rfl)) (by decide) (fun K hK => ?_)
       refine value_ (w1 := ?_) (v := ?_) (by rfl) rfl ?_ ?_
       rotate_left 2
       ·go_simp
        constructor
        ·rfl
        ·rfl
       refine hK.out _ _ ⟨(aD (aN BK183.out _) 0).trans rfl, (aD (aN BK183.out _) 1).trans rfl, (aD (aN BK183.out _) 2).trans rfl, (aD (aN BK183.out _) 3).trans rfl, (aD (aN BK181.out _) 0).trans rfl, (aD (aN BK181.out _) 1).trans rfl, (aD (aN BK181.out _) 2).trans rfl, (aD (aN BK181.out _) 3).trans rfl, (World.cell?_alloc_lt _ _ _ (lD _ _ (((HB.out.cell (lD w _ hw187_0)).trans hw187_0)))).trans (((HB.out.cell (lD w _ hw187_0)).trans hw187_0))⟩ (fun hHeld => ?_)
       clear hK K
       refine norm_ (a' := ?_) ?_ ?_
       rotate_left
       ·show Act.put _ (some 27) _ = _
        simp only [Act.put, lA, lB, lC, bE, bF]
        rfl
       refine one_ (i := 10) (N := some 28) #[true, true, true, true, true, true, true, true, true, true, true, false, false] rfl rfl (one_of HT_.out (by kernel_rfl)) (by decide) (fun K hK => ?_)
       refine Kd.S_append_step (Kd.slice 5 (Kd.int .u8)) (w0 := w) w.heap.size (by rfl) (.tmp 19) (.tmp 27) 22 37 (.slice none 0 0) 24 rfl Try.underlying22 info37 rfl (by decide) (by omega) u184000 x184000_1 y188 [.slice Ao22 y188.length co22] (fun _ => True) (fun k_ => some k_ = (.slice Ao22 y188.length co22 : Value).ownBlock) rfl rfl ?aP (fun k_ hk_ => ((Kd.R_mono (ok' := fun k_ => ((fun _ => True)) k_ ∧ some k_ ≠ (u184000 : Value).ownBlock) (Kd.R_apart' (HO190.out) (Kd.S_typed HO_184000.out) (by decide)) (fun k_ hk => ⟨trivial, hk.2⟩))).1 k_ hk_.symm) ?aF ?aO ?aB ?aS ?aL ?_
       (case aP => exact Kd.M_row (Kd.R_mono (Kd.R_tight rfl (Kd.R_mono (ok' := fun k_ => ((fun _ => True)) k_ ∧ some k_ ≠ (u184000 : Value).ownBlock) (Kd.R_apart' (HO190.out) (Kd.S_typed HO_184000.out) (by decide)) (fun k_ hk => ⟨trivial, hk.2⟩))) (fun _ h_ => h_)))
       (case aB => exact (by repeat (first | (with_reducible first | exact HB.out | apply aJ | apply aE | apply aH | refine aG ?_ GE181.out | refine aG ?_ GE182.out | refine aG ?_ GE183.out) | exact HB.out)))
       (case aF => exact (fun _ _ => trivial))
       (case aO => exact (by (with_reducible repeat (first | apply Kd.S_alloc | apply Kd.S_drewN | apply Kd.S_drew)); exact Kd.S_mono HO_184000.out (fun k_ hk => ⟨trivial, fun e_ => hk.2 e_⟩)))
       (case aS => exact (aW (by repeat (first | (with_reducible first | exact HB.out | apply aJ | apply aE | apply aH | refine aG ?_ GE181.out | refine aG ?_ GE182.out | refine aG ?_ GE183.out) | exact HB.out))))
       (case aL => have := LMc13.out; omega)
       intro v192 w21 ho hb hg hat
       rw [← Ny191.out] at ho
       have n0_ := aC.mk (blk_grown (g := gb181) (o := .cells #[.slice (some ad187) l0_0.length c0_0, .slice A0_1 l0_1.length c0_1, .int .i64 a0_2, .bool a0_3] 25 (0, 0)) (by (with_reducible repeat (first | refine aT ?_ _ | refine aQ ?_ | refine aN ?_ _)); exact BK181.out) hg (Kd.S_ne HO_184000.out BK181.out (by decide)))
       have n1_ := aC.mk (blk_grown (g := gb182) (o := .cells #[.slice none 0 0, .slice none 0 0, .int .i64 0, .bool false] 25 (0, 0)) (by (with_reducible repeat (first | refine aT ?_ _ | refine aQ ?_ | refine aN ?_ _)); exact BK182.out) hg (Kd.S_ne HO_184000.out BK182.out (by decide)))
       have n2_ := aC.mk (blk_grown (g := gb183) (o := .cells #[u184000, .slice none 0 0, .int .i64 a0_2, .bool a0_3] 25 (0, 0)) (by (with_reducible repeat (first | refine aT ?_ _ | refine aQ ?_ | refine aN ?_ _)); exact BK183.out) hg (Kd.S_ne HO_184000.out BK183.out (by decide)))
       have n3_ := aC.mk (hb)
       have n4_ := aC.mk (ho)
       clear BK181
       clear BK182
       clear BK183
       clear HB
       clear HO_184000
       clear HO190
       have BK181 := n0_
       have BK182 := n1_
       have BK183 := n2_
       have HB := n3_
       have HO193 := n4_
       clear n0_ n1_ n2_ n3_ n4_
       clear ho hb hg hat
       obtain ⟨Ao23, co23, eo23⟩ := Kd.S_slice HO193.out
       (first | subst eo23 | (injection eo23 with f1_ f2_ f3_; have f4_ := f1_.symm; have f5_ := f3_.symm; clear f1_ f2_ f3_; subst f4_; subst f5_))
       refine hK.out _ _ ⟨(aD BK183.out 0).trans rfl, (aD BK183.out 1).trans rfl, (aD BK183.out 2).trans rfl, (aD BK183.out 3).trans rfl, (aD BK181.out 0).trans rfl, (aD BK181.out 1).trans rfl, (aD BK181.out 2).trans rfl, (aD BK181.out 3).trans rfl, ((HB.out.cell (lD w _ hw187_0)).trans hw187_0)⟩ (fun hHeld => ?_)
       clear hK K
       refine norm_ (a' := ?_) ?_ ?_
       rotate_left
       ·show Act.put _ (some 28) _ = _
        simp only [Act.put, lA, lB, lC, bE, bF]
        rfl
       refine pure_ (i := 11) (N := some 29) (v := ?_) (a' := ?_) #[true, true, true, true, true, true, true, true, true, true, true, true, false] rfl rfl (any_of HT_.out (by kernel_rfl)) (fun _ _ _ h => h) (Or.inl ⟨by rfl, ?_⟩) ?_ ?_
       rotate_left
       ·intro w'
        go_simp
        with_reducible rfl
       rotate_left
       ·simp only [Act.put, lA, lB, lC, bE, bF]
        rfl
       refine last_ (i := 12) (N := none) #[true, true, true, true, true, true, true, true, true, true, true, true, true] rfl rfl (one_of HT_.out (by kernel_rfl)) (by decide) (fun K hK => ?_)
       have hs24 : w21.cell? ⟨gb183, 0, none⟩ = some (u184000) := (aD BK183.out 0).trans rfl
       have hfs24 := aA BK183.out 0
       have hns24_0 := NB181_183.out
       have hns24_1 := NB182_183.out
       have hms24_0 := NB183_181.out
       have hms24_1 := NB183_182.out
       refine skip_ (w1 := ?_) (by rfl) rfl ?_ ?_
       rotate_left
       ·go_simp
        rfl
       refine hK.out _ _ ?_
       clear hK K
       refine done_ (done_of HT_.out (by kernel_rfl)) ?_
       try go_wp2
       go_roundg k1
       case measure => have := HK1.out; omega
       case rel => exact ⟨(wrap64 (x4_1 + 1)), (y191), (.slice Ao23 y191.length co23), (by first | rfl | (simp; done) | (simp [*]; done)), H', ⟨by have := HK1.out; omega⟩, ⟨by (with_reducible repeat (first | apply Kd.S_alloc | apply Kd.S_drewN | apply Kd.S_drew)); exact Kd.S_mono (Kd.S_far (p := ⟨gb183, 0, none⟩) (Kd.S_types HO193.out BK183.out (by decide)) (fun _ hk => hk.2) (.slice Ao23 y191.length co23)) (fun _ hk => trivial)⟩, ⟨by (with_reducible repeat (first | refine aT ?_ _ | refine aQ ?_ | refine aN ?_ _)); refine blk_far ?_ NB181_183.out _; (with_reducible repeat (first | refine aT ?_ _ | refine aQ ?_ | refine aN ?_ _)); exact BK181.out⟩, ⟨by (with_reducible repeat (first | refine aT ?_ _ | refine aQ ?_ | refine aN ?_ _)); refine blk_far ?_ NB182_183.out _; (with_reducible repeat (first | refine aT ?_ _ | refine aQ ?_ | refine aN ?_ _)); exact BK182.out⟩, ⟨by (with_reducible repeat (first | refine aT ?_ _ | refine aQ ?_ | refine aN ?_ _)); refine aX (cs := #[u184000, .slice none 0 0, .int .i64 a0_2, .bool a0_3]) ?_ 0 _ rfl; (with_reducible repeat (first | refine aT ?_ _ | refine aQ ?_ | refine aN ?_ _)); exact BK183.out⟩, ⟨by repeat (first | (with_reducible first | exact HB.out | apply aJ | apply aE | apply aH | refine aG ?_ GE181.out | refine aG ?_ GE182.out | refine aG ?_ GE183.out) | exact HB.out)⟩⟩
      ·rw [if_neg c13] at H
       exact absurd H (by simp)
     ·rw [if_neg c12] at H
      exact absurd H (by simp)
    ·rw [if_neg c11] at H
     exact absurd H (by simp)
   ·rw [if_neg c10] at H
    have c10b0 : decide (x4_1 < (l0_0.length : Int)) = false := decide_eq_false c10
    clear c10
    have H' := aC.mk H
    clear H
    have hnb25 := NB181_182.out
    have hnc25 := NB182_181.out
    have hnb26 := NB181_183.out
    have hnc26 := NB183_181.out
    have hcz27_0 : wr.cell? ⟨gb181, 0, none⟩ = some (.slice A0_0 l0_0.length c0_0) := (aD BK181.out 0).trans rfl
    have hcz27_1 : wr.cell? ⟨gb181, 1, none⟩ = some (.slice A0_1 l0_1.length c0_1) := (aD BK181.out 1).trans rfl
    have hcz27_2 : wr.cell? ⟨gb181, 2, none⟩ = some (.int .i64 a0_2) := (aD BK181.out 2).trans rfl
    have hcz27_3 : wr.cell? ⟨gb181, 3, none⟩ = some (.bool a0_3) := (aD BK181.out 3).trans rfl
    have hfz27_0 := aA BK181.out 0
    have hfz27_1 := aA BK181.out 1
    have hfz27_2 := aA BK181.out 2
    have hfz27_3 := aA BK181.out 3
    go_wp2
    go_loopg [5] k1 (fun kq v5 w' => ∃ (x5_2 : Int) (x184001_2 : List (S50)) (u184001 : Value), v5 = .int .i64 x5_2 ∧ aC (spec_l2Copy.l1 kq x5_2 l0_0 l0_1 a0_2 a0_3 x184000_1 x184001_2 a0_2 a0_3 = some (r1, r2, r3, r4)) ∧ aC (kq ≤ k1) ∧ aC (Kd.S (Kd.slice 5 (Kd.int .u8)) 37 w' w.heap.size (fun _ => True) u184000 x184000_1) ∧ aC (Kd.S k50 50 w' w.heap.size (fun _ => True) u184001 x184001_2) ∧ aC (w'.heap[gb181]? = some (.cells #[(.slice A0_0 l0_0.length c0_0), (.slice A0_1 l0_1.length c0_1), .int .i64 a0_2, .bool a0_3] 25 (0, 0))) ∧ aC (w'.heap[gb182]? = some (.cells #[(.slice none 0 0), (.slice none 0 0), .int .i64 0, .bool false] 25 (0, 0))) ∧ aC (w'.heap[gb183]? = some (.cells #[u184000, u184001, .int .i64 a0_2, .bool a0_3] 25 (0, 0))) ∧ aC (Below w.heap.size w w'))
    case atStart => exact ⟨(0), (([] : List (S50))), (.slice none 0 0), (by first | rfl | (simp; done) | (simp [*]; done)), H', ⟨Nat.le_refl _⟩, ⟨by (with_reducible repeat (first | apply Kd.S_alloc | apply Kd.S_drewN | apply Kd.S_drew)); exact HO_184000.out⟩, ⟨by first | exact Kd.S_nil _ _ _ _ _ | exact Kd.N_nil _ _ _ _ _ | exact Kd.V_nil _ _ _ _ _ | exact Kd.Q_nil _ _ _ _ _ | exact Kd.R_nil _ _ _ _ _⟩, ⟨by (with_reducible repeat (first | refine aT ?_ _ | refine aQ ?_ | refine aN ?_ _)); exact BK181.out⟩, ⟨by (with_reducible repeat (first | refine aT ?_ _ | refine aQ ?_ | refine aN ?_ _)); exact BK182.out⟩, ⟨by (with_reducible repeat (first | refine aT ?_ _ | refine aQ ?_ | refine aN ?_ _)); exact BK183.out⟩, ⟨by repeat (first | (with_reducible first | exact HB.out | apply aJ | apply aE | apply aH | refine aG ?_ GE181.out | refine aG ?_ GE182.out | refine aG ?_ GE183.out) | exact HB.out)⟩⟩
    case round =>
     clear H'
     try clear c1
     try clear p1
     try clear q1
     try clear hx1
     try clear c2
     try clear p2
     try clear c4
     try clear c5
     try clear p6
     try clear c7
     try clear c8
     try clear c10
     try clear c10b0
     try clear c11
     try clear c11b0
     try clear c12
     try clear c13
     try clear c14
     try clear c15
     try clear c18
     try clear p18
     try clear q18
     try clear hx18
     try clear c25
     try clear c26
     try clear hcz16_0
     try clear hcz16_1
     try clear hcz16_2
     try clear hcz16_3
     try clear hcz27_0
     try clear hcz27_1
     try clear hcz27_2
     try clear hcz27_3
     try clear hcz5_0
     try clear hcz5_1
     try clear hcz5_2
     try clear hcz5_3
     try clear hcz9_0
     try clear hcz9_1
     try clear hcz9_2
     try clear hcz9_3
     try clear hfz16_0
     try clear hfz16_1
     try clear hfz16_2
     try clear hfz16_3
     try clear hfz27_0
     try clear hfz27_1
     try clear hfz27_2
     try clear hfz27_3
     try clear hfz5_0
     try clear hfz5_1
     try clear hfz5_2
     try clear hfz5_3
     try clear hfz9_0
     try clear hfz9_1
     try clear hfz9_2
     try clear hfz9_3
     try clear hx187_0
     try clear p187
     try clear p2
     try clear q187
     obtain ⟨x5_2, x184001_2, u184001, rfl, HA, HK2, HO_184000, HO_184001, BK181, BK182, BK183, HB⟩ := hrel
     cases gk with
     | zero => exact absurd HA.out (by simp [spec_l2Copy.l1])
     | succ k2 =>
      have H := HA.out
      clear HA
      simp only [spec_l2Copy.l1] at H
      by_cases c28 : x5_2 < (l0_1.length : Int)
      ·rw [if_pos c28] at H
       have c28b0 : decide (x5_2 < (l0_1.length : Int)) = true := decide_eq_true c28
       clear c28
       by_cases c29 : 0 ≤ x5_2
       ·rw [if_pos c29] at H
        have c29b0 : decide (0 ≤ x5_2) = true := decide_eq_true c29
        clear c29
        obtain ⟨y195, hy195⟩ : ∃ y_ : List Int, y_ = (([] : List Int)) := ⟨_, rfl⟩
        replace H : (if y195.length + ((rd_T50 l0_1 x5_2).f1).length < 140737488355328 then (if x184001_2.length < 4398046511104 then (spec_l2Copy.l1 k2 (wrap64 (x5_2 + 1)) l0_0 l0_1 a0_2 a0_3 x184000_1 (x184001_2 ++ [(⟨(rd_T50 l0_1 x5_2).f0, (y195 ++ ((rd_T50 l0_1 x5_2).f1))⟩ : S50)]) a0_2 a0_3) else (none)) else (none)) = some (r1, r2, r3, r4) := by first | (rw [hy195]; with_reducible exact H) | (have H2_ := (Option.bind_some _ _).symm.trans H; rw [hy195]; with_reducible exact H2_) | (have H2_ := (Option.bind_some _ _).symm.trans H; with_reducible exact H2_) | with_reducible exact H | (rw [hy195]; exact H) | exact H
        have Ny195 := aC.mk hy195
        clear hy195
        by_cases c30 : y195.length + ((rd_T50 l0_1 x5_2).f1).length < 140737488355328
        ·rw [if_pos c30] at H
         have LMc30 := aC.mk c30
         clear c30
         obtain ⟨y199, hy199⟩ : ∃ y_ : List Int, y_ = (y195 ++ ((rd_T50 l0_1 x5_2).f1)) := ⟨_, rfl⟩
         replace H : (if x184001_2.length < 4398046511104 then (spec_l2Copy.l1 k2 (wrap64 (x5_2 + 1)) l0_0 l0_1 a0_2 a0_3 x184000_1 (x184001_2 ++ [(⟨(rd_T50 l0_1 x5_2).f0, y199⟩ : S50)]) a0_2 a0_3) else (none)) = some (r1, r2, r3, r4) := by first | (rw [hy199]; with_reducible exact H) | (have H2_ := (Option.bind_some _ _).symm.trans H; rw [hy199]; with_reducible exact H2_) | (have H2_ := (Option.bind_some _ _).symm.trans H; with_reducible exact H2_) | with_reducible exact H | (rw [hy199]; exact H) | exact H
         have Ny199 := aC.mk hy199
         clear hy199
         by_cases c31 : x184001_2.length < 4398046511104
         ·rw [if_pos c31] at H
          have LMc31 := aC.mk c31
          clear c31
          obtain ⟨y202, hy202⟩ : ∃ y_ : List (S50), y_ = (x184001_2 ++ [(⟨(rd_T50 l0_1 x5_2).f0, y199⟩ : S50)]) := ⟨_, rfl⟩
          replace H : (spec_l2Copy.l1 k2 (wrap64 (x5_2 + 1)) l0_0 l0_1 a0_2 a0_3 x184000_1 y202 a0_2 a0_3) = some (r1, r2, r3, r4) := by first | (rw [hy202]; with_reducible exact H) | (have H2_ := (Option.bind_some _ _).symm.trans H; rw [hy202]; with_reducible exact H2_) | (have H2_ := (Option.bind_some _ _).symm.trans H; with_reducible exact H2_) | with_reducible exact H | (rw [hy202]; exact H) | exact H
          have Ny202 := aC.mk hy202
          clear hy202
          have H' := aC.mk H
          clear H
          have hnb32 := NB181_182.out
          have hnc32 := NB182_181.out
          have hnb33 := NB181_183.out
          have hnc33 := NB183_181.out
          have hcz34_0 : wr.cell? ⟨gb181, 0, none⟩ = some (.slice A0_0 l0_0.length c0_0) := (aD BK181.out 0).trans rfl
          have hcz34_1 : wr.cell? ⟨gb181, 1, none⟩ = some (.slice A0_1 l0_1.length c0_1) := (aD BK181.out 1).trans rfl
          have hcz34_2 : wr.cell? ⟨gb181, 2, none⟩ = some (.int .i64 a0_2) := (aD BK181.out 2).trans rfl
          have hcz34_3 : wr.cell? ⟨gb181, 3, none⟩ = some (.bool a0_3) := (aD BK181.out 3).trans rfl
          have hfz34_0 := aA BK181.out 0
          have hfz34_1 := aA BK181.out 1
          have hfz34_2 := aA BK181.out 2
          have hfz34_3 := aA BK181.out 3
          try go_wp2
          have n0_ := aC.mk (Kd.S_drew HO_184000.out)
          have n1_ := aC.mk (Kd.S_drew HO_184001.out)
          have n2_ := aC.mk (aQ BK181.out)
          have n3_ := aC.mk (aQ BK182.out)
          have n4_ := aC.mk (aQ BK183.out)
          have n5_ := aC.mk (aH HB.out)
          clear HO_184000
          clear HO_184001
          clear BK181
          clear BK182
          clear BK183
          clear HB
          have HO_184000 := n0_
          have HO_184001 := n1_
          have BK181 := n2_
          have BK182 := n3_
          have BK183 := n4_
          have HB := n5_
          clear n0_ n1_ n2_ n3_ n4_ n5_
          have p194 : 0 ≤ (x5_2 : Int) := lE (by first | (with_reducible assumption) | assumption)
          have q194 : x5_2 < (l0_1.length : Int) := lE (by first | (with_reducible assumption) | assumption)
          obtain ⟨ad194, A194_1, c194_1, e194, hx194_0, hx194_1, hl194_1, hi194_1⟩ := at_T50 HR0_1.out x5_2 p194 q194
          have hw194_1 := hx194_1
          have hw194_0 := hx194_0
          cases e194
          replace hx194_0 := (HB.out.cell (lD w _ hx194_0)).trans hx194_0
          replace hx194_1 := (HB.out.cell (lD w _ hx194_1)).trans hx194_1
          have HR194_1 := aC.mk hi194_1
          have HC194_1 := aC.mk hl194_1
          clear hi194_1 hl194_1
          replace p194 := eq_true p194
          replace q194 := eq_true q194
          have p198 : 0 ≤ (x5_2 : Int) := lE (by first | (with_reducible assumption) | assumption)
          have q198 : x5_2 < (l0_1.length : Int) := lE (by first | (with_reducible assumption) | assumption)
          obtain ⟨ad198, A198_1, c198_1, e198, hx198_0, hx198_1, hl198_1, hi198_1⟩ := at_T50 HR0_1.out x5_2 p198 q198
          have hw198_1 := hx198_1
          have hw198_0 := hx198_0
          obtain rfl : ad194 = ad198 := (by injection e198)
          replace hx198_0 := (HB.out.cell (lD w _ hx198_0)).trans hx198_0
          replace hx198_1 := (HB.out.cell (lD w _ hx198_1)).trans hx198_1
          have HR198_1 := aC.mk hi198_1
          have HC198_1 := aC.mk hl198_1
          clear hi198_1 hl198_1
          replace p198 := eq_true p198
          replace q198 := eq_true q198
          have ea_ := Option.some.inj (hx194_1.symm.trans hx198_1)
          injection ea_ with ea_ en_ ec_
          subst ea_
          subst ec_
          clear en_
          refine start_ (n := 21) (S := fun w' => w'.cell? ⟨gb183, 0, none⟩ = some (u184000) ∧ w'.cell? ⟨gb183, 1, none⟩ = some (u184001) ∧ w'.cell? ⟨gb183, 2, none⟩ = some (.int .i64 a0_2) ∧ w'.cell? ⟨gb183, 3, none⟩ = some (.bool a0_3) ∧ w'.cell? ⟨gb181, 0, none⟩ = some (.slice A0_0 l0_0.length c0_0) ∧ w'.cell? ⟨gb181, 1, none⟩ = some (.slice (some ad194) l0_1.length c0_1) ∧ w'.cell? ⟨gb181, 2, none⟩ = some (.int .i64 a0_2) ∧ w'.cell? ⟨gb181, 3, none⟩ = some (.bool a0_3) ∧ w'.cell? (ad194.add ((x5_2).toNat * 2)) = some (.int .i64 ((rd_T50 l0_1 x5_2).f0)) ∧ w'.cell? ⟨(ad194.add ((x5_2).toNat * 2)).block, (ad194.add ((x5_2).toNat * 2)).off + 1, none⟩ = some (.slice A194_1 ((rd_T50 l0_1 x5_2).f1).length c194_1) ∧ w'.cell? (ad194.add ((x5_2).toNat * 2)) = some (.int .i64 ((rd_T50 l0_1 x5_2).f0)) ∧ w'.cell? ⟨(ad194.add ((x5_2).toNat * 2)).block, (ad194.add ((x5_2).toNat * 2)).off + 1, none⟩ = some (.slice A194_1 ((rd_T50 l0_1 x5_2).f1).length c194_1)) (ds := [20]) #[false, false, false, false, false, false, false, false, false, false, false, false, false, false, false, false, false, false, false, false, false] (by kernel_rfl) rfl rfl ⟨(aD BK183.out 0).trans rfl, (aD BK183.out 1).trans rfl, (aD BK183.out 2).trans rfl, (aD BK183.out 3).trans rfl, (aD BK181.out 0).trans rfl, (aD BK181.out 1).trans rfl, (aD BK181.out 2).trans rfl, (aD BK181.out 3).trans rfl, ((HB.out.cell (lD w _ hw194_0)).trans hw194_0), ((HB.out.cell (lD w _ hw194_1)).trans hw194_1), ((HB.out.cell (lD w _ hw198_0)).trans hw198_0), ((HB.out.cell (lD w _ hw198_1)).trans hw198_1)⟩ (fun hHeld => ?_); refine with_tabW spec_l2Copy.tab9 spec_l2Copy.bits9 (fun HT_ HW_ => ?_)
          generalize wr.drew = w35 at HO_184000 HO_184001 BK181 BK182 BK183 HB HR194_1 HR198_1 hx194_0 hx194_1 hx198_0 hx198_1 hHeld ⊢
          refine pure_ (i := 0) (N := some 37) (v := ?_) (a' := ?_) #[true, false, false, false, false, false, false, false, false, false, false, false, false, false, false, false, false, false, false, false, false] rfl rfl (any_of HT_.out (by kernel_rfl)) (fun _ _ _ h => h) (Or.inl ⟨by rfl, ?_⟩) ?_ ?_
          rotate_left
          ·intro w'
           go_simp
           with_reducible rfl
          rotate_left
          ·simp only [Act.put, lA, lB, lC, bE, bF]
           rfl
          refine pure_ (i := 2) (N := some 39) (v := ?_) (a' := ?_) #[true, false, true, false, false, false, false, false, false, false, false, false, false, false, false, false, false, false, false, false, false] rfl rfl (any_of HT_.out (by kernel_rfl)) (fun _ _ _ h => h) (Or.inl ⟨by rfl, ?_⟩) ?_ ?_
          rotate_left
          ·intro w'
           go_simp
           with_reducible rfl
          rotate_left
          ·simp only [Act.put, lA, lB, lC, bE, bF]
           rfl
          refine pure_ (i := 4) (N := some 41) (v := ?_) (a' := ?_) #[true, false, true, false, true, false, false, false, false, false, false, false, false, false, false, false, false, false, false, false, false] rfl rfl (any_of HT_.out (by kernel_rfl)) (fun _ _ _ h => h) (Or.inl ⟨by rfl, ?_⟩) ?_ ?_
          rotate_left
          ·intro w'
           go_simp
           with_reducible rfl
          rotate_left
          ·simp only [Act.put, lA, lB, lC, bE, bF]
           rfl
          refine pure_ (i := 9) (N := some 46) (v := ?_) (a' := ?_) #[true, false, true, false, true, false, false, false, false, true, false, false, false, false, false, false, false, false, false, false, false] rfl rfl (any_of HT_.out (by kernel_rfl)) (fun _ _ _ h => h) (Or.inl ⟨by rfl, ?_⟩) ?_ ?_
          rotate_left
          ·intro w'
           go_simp
           with_reducible rfl
          rotate_left
          ·simp only [Act.put, lA, lB, lC, bE, bF]
           rfl
          refine pure_ (i := 11) (N := some 48) (v := ?_) (a' := ?_) #[true, false, true, false, true, false, false, false, false, true, false, true, false, false, false, false, false, false, false, false, false] rfl rfl (any_of HT_.out (by kernel_rfl)) (fun _ _ _ h => h) (Or.inl ⟨by rfl, ?_⟩) ?_ ?_
          rotate_left
          ·intro w'
           go_simp
           with_reducible rfl
          rotate_left
          ·simp only [Act.put, lA, lB, lC, bE, bF]
           rfl
          refine take_ (i := 1) (N := some 38) (v := ?_) (a' := ?_) #[true, true, true, false, true, false, false, false, false, true, false, true, false, false, false, false, false, false, false, false, false] rfl rfl (take_ofW HT_.out HW_.out (by kernel_rfl)) (fun _ _ _ h => h) (Or.inl ⟨by rfl, ?_⟩) hHeld ?_ ?_
          rotate_left
          ·rintro w' ⟨s0, s1, s2, s3, s4, s5, s6, s7, s8, s9, s10, s11⟩
           go_simp
           with_reducible rfl
          rotate_left
          ·simp only [Act.put, lA, lB, lC, bE, bF]
           rfl
          refine take_ (i := 3) (N := some 40) (v := ?_) (a' := ?_) #[true, true, true, true, true, false, false, false, false, true, false, true, false, false, false, false, false, false, false, false, false] rfl rfl (take_ofW HT_.out HW_.out (by kernel_rfl)) (fun _ _ _ h => h) (Or.inl ⟨by rfl, ?_⟩) hHeld ?_ ?_
          rotate_left
          ·rintro w' ⟨s0, s1, s2, s3, s4, s5, s6, s7, s8, s9, s10, s11⟩
           go_simp
           with_reducible rfl
          rotate_left
          ·simp only [Act.put, lA, lB, lC, bE, bF]
           rfl
          refine pure_ (i := 5) (N := some 42) (v := ?_) (a' := ?_) #[true, true, true, true, true, true, false, false, false, true, false, true, false, false, false, false, false, false, false, false, false] rfl rfl (any_of HT_.out (by kernel_rfl)) (fun _ _ _ h => h) (Or.inl ⟨by rfl, ?_⟩) ?_ ?_
          rotate_left
          ·intro w'
           go_simp
           with_reducible rfl
          rotate_left
          ·simp only [Act.put, lA, lB, lC, bE, bF]
           rfl
          refine pure_ (i := 6) (N := some 43) (v := ?_) (a' := ?_) #[true, true, true, true, true, true, true, false, false, true, false, true, false, false, false, false, false, false, false, false, false] rfl rfl (any_of HT_.out (by kernel_rfl)) (fun _ _ _ h => h) (Or.inl ⟨by rfl, ?_⟩) ?_ ?_
          rotate_left
          ·intro w'
           go_simp
           with_reducible rfl
          rotate_left
          ·simp only [Act.put, lA, lB, lC, bE, bF]
           rfl
          refine take_ (i := 7) (N := some 44) (v := ?_) (a' := ?_) #[true, true, true, true, true, true, true, true, false, true, false, true, false, false, false, false, false, false, false, false, false] rfl rfl (take_ofW HT_.out HW_.out (by kernel_rfl)) (fun _ _ _ h => h) (Or.inl ⟨by rfl, ?_⟩) hHeld ?_ ?_
          rotate_left
          ·rintro w' ⟨s0, s1, s2, s3, s4, s5, s6, s7, s8, s9, s10, s11⟩
           go_simp
           with_reducible rfl
          rotate_left
          ·simp only [Act.put, lA, lB, lC, bE, bF]
           rfl
          refine take_ (i := 10) (N := some 47) (v := ?_) (a' := ?_) #[true, true, true, true, true, true, true, true, false, true, true, true, false, false, false, false, false, false, false, false, false] rfl rfl (take_ofW HT_.out HW_.out (by kernel_rfl)) (fun _ _ _ h => h) (Or.inl ⟨by rfl, ?_⟩) hHeld ?_ ?_
          rotate_left
          ·rintro w' ⟨s0, s1, s2, s3, s4, s5, s6, s7, s8, s9, s10, s11⟩
           go_simp
           with_reducible rfl
          rotate_left
          ·simp only [Act.put, lA, lB, lC, bE, bF]
           rfl
          refine pure_ (i := 12) (N := some 49) (v := ?_) (a' := ?_) #[true, true, true, true, true, true, true, true, false, true, true, true, true, false, false, false, false, false, false, false, false] rfl rfl (any_of HT_.out (by kernel_rfl)) (fun _ _ _ h => h) (Or.inl ⟨by rfl, ?_⟩) ?_ ?_
          rotate_left
          ·intro w'
           go_simp
           with_reducible rfl
          rotate_left
          ·simp only [Act.put, lA, lB, lC, bE, bF]
           rfl
          refine pure_ (i := 13) (N := some 50) (v := ?_) (a' := ?_) #[true, true, true, true, true, true, true, true, false, true, true, true, true, true, false, false, false, false, false, false, false] rfl rfl (any_of HT_.out (by kernel_rfl)) (fun _ _ _ h => h) (Or.inl ⟨by rfl, ?_⟩) ?_ ?_
          rotate_left
          ·intro w'
           go_simp
           with_reducible rfl
          rotate_left
          ·simp only [Act.put, lA, lB, lC, bE, bF]
           rfl
          refine take_ (i := 14) (N := some 51) (v := ?_) (a' := ?_) #[true, true, true, true, true, true, true, true, false, true, true, true, true, true, true, false, false, false, false, false, false] rfl rfl (take_ofW HT_.out HW_.out (by kernel_rfl)) (fun _ _ _ h => h) (Or.inl ⟨by rfl, ?_⟩) hHeld ?_ ?_
          rotate_left
          ·rintro w' ⟨s0, s1, s2, s3, s4, s5, s6, s7, s8, s9, s10, s11⟩
           go_simp
           with_reducible rfl
          rotate_left
          ·simp only [Act.put, lA, lB, lC, bE, bF]
           rfl
          refine one_ (i := 8) (N := some 45) #[true, true, true, true, true, true, true, true, true, true, true, true, true, true, true, false, false, false, false, false, false] rfl rfl (one_of HT_.out (by kernel_rfl)) (by decide) (fun K hK => ?_)
          refine Kd.R_lit_step (Kd.int .u8) _ 5 ?hg (N := 45) ?hd (xs := ([] : List Int)) (inner := []) (ok := fun _ => True) (okp := fun _ => True) ?hr ?hp (fun _ hk => hk) trivial (Below.refl _ _) (Nat.le_refl _) (by simp) ?_; (case hd => rfl); (case hg => rfl); (case hr => first | (go_simp; done) | (go_simp; rfl)); (case hp => exact (Reps.none _ _))
          intro v196 w36 ho37 hb hg_ hnew_
          clear hg_ hnew_
          (first | rw [← Ny195.out] at ho37 | (simp only [Int.reduceToNat] at ho37; rw [← Ny195.out] at ho37))
          have n0_ := aC.mk (Kd.S_elder' (by (with_reducible repeat (first | apply Kd.S_alloc | apply Kd.S_drewN | apply Kd.S_drew)); exact HO_184000.out) (Kd.R_base ho37) hb)
          have n1_ := aC.mk (Kd.S_elder' (by (with_reducible repeat (first | apply Kd.S_alloc | apply Kd.S_drewN | apply Kd.S_drew)); exact HO_184001.out) (Kd.R_base ho37) hb)
          have n2_ := aC.mk (Kd.R_lower ho37 (aW (by repeat (first | (with_reducible first | exact HB.out | apply aJ | apply aE | apply aH | refine aG ?_ GE181.out | refine aG ?_ GE182.out | refine aG ?_ GE183.out) | exact HB.out))))
          have n3_ := aC.mk (aM (g := gb181) (o := .cells #[.slice A0_0 l0_0.length c0_0, .slice (some ad194) l0_1.length c0_1, .int .i64 a0_2, .bool a0_3] 25 (0, 0)) (by (with_reducible repeat (first | refine aT ?_ _ | refine aQ ?_ | refine aN ?_ _)); exact BK181.out) hb)
          have n4_ := aC.mk (aM (g := gb182) (o := .cells #[.slice none 0 0, .slice none 0 0, .int .i64 0, .bool false] 25 (0, 0)) (by (with_reducible repeat (first | refine aT ?_ _ | refine aQ ?_ | refine aN ?_ _)); exact BK182.out) hb)
          have n5_ := aC.mk (aM (g := gb183) (o := .cells #[u184000, u184001, .int .i64 a0_2, .bool a0_3] 25 (0, 0)) (by (with_reducible repeat (first | refine aT ?_ _ | refine aQ ?_ | refine aN ?_ _)); exact BK183.out) hb)
          have n6_ := aC.mk (aV (by repeat (first | (with_reducible first | exact HB.out | apply aJ | apply aE | apply aH | refine aG ?_ GE181.out | refine aG ?_ GE182.out | refine aG ?_ GE183.out) | exact HB.out)) hb)
          clear HO_184000
          clear HO_184001
          clear BK181
          clear BK182
          clear BK183
          clear HB
          have HO_184000 := n0_
          have HO_184001 := n1_
          have HO197 := n2_
          have BK181 := n3_
          have BK182 := n4_
          have BK183 := n5_
          have HB := n6_
          clear n0_ n1_ n2_ n3_ n4_ n5_ n6_
          clear hb ho37
          refine hK.out _ _ ⟨(aD BK183.out 0).trans rfl, (aD BK183.out 1).trans rfl, (aD BK183.out 2).trans rfl, (aD BK183.out 3).trans rfl, (aD BK181.out 0).trans rfl, (aD BK181.out 1).trans rfl, (aD BK181.out 2).trans rfl, (aD BK181.out 3).trans rfl, ((HB.out.cell (lD w _ hw194_0)).trans hw194_0), ((HB.out.cell (lD w _ hw194_1)).trans hw194_1), ((HB.out.cell (lD w _ hw198_0)).trans hw198_0), ((HB.out.cell (lD w _ hw198_1)).trans hw198_1)⟩ (fun hHeld => ?_)
          clear hK K
          refine norm_ (a' := ?_) ?_ ?_
          rotate_left
          ·show Act.put _ (some 45) _ = _
           simp only [Act.put, lA, lB, lC, bE, bF]
           rfl
          refine one_ (i := 15) (N := some 52) #[true, true, true, true, true, true, true, true, true, true, true, true, true, true, true, true, false, false, false, false, false] rfl rfl (one_of HT_.out (by kernel_rfl)) (by decide) (fun K hK => ?_)
          refine Kd.R_append_rows_step (Kd.int .u8) (w0 := w) w.heap.size (by rfl) (.tmp 45) (.tmp 51) 37 5 (.int .u8 0) 1 rfl Try.underlying37 info5 rfl (by decide) (by omega) v196 y195 ((rd_T50 l0_1 x5_2).f1) _ _ _ (fun _ => True) (fun _ => False) rfl rfl ?aO ?aR (fun _ _ h => h) (fun _ h => h.elim) ?aF ?aB ?aS ?aL ?_
          (case aR => repeat (first | exact (Kd.bL HR198_1.out HB.out) | (with_reducible refine Kd.bN ?_ _) | (with_reducible refine Kd.bM ?_ _) | (with_reducible refine Kd.bQ ?_)))
          (case aB => exact (by repeat (first | (with_reducible first | exact HB.out | apply aJ | apply aE | apply aH | refine aG ?_ GE181.out | refine aG ?_ GE182.out | refine aG ?_ GE183.out) | exact HB.out)))
          (case aF => exact (fun _ _ => trivial))
          (case aO => exact (by (with_reducible repeat (first | apply Kd.R_alloc | apply Kd.R_drewN | apply Kd.R_drew)); exact HO197.out))
          (case aS => exact (aW (by repeat (first | (with_reducible first | exact HB.out | apply aJ | apply aE | apply aH | refine aG ?_ GE181.out | refine aG ?_ GE182.out | refine aG ?_ GE183.out) | exact HB.out))))
          (case aL => have := LMc30.out; omega)
          intro v200 w38 ho hb hg hat
          rw [← Ny199.out] at ho
          have n0_ := aC.mk (Kd.S_after (ok := (fun _ => True)) (by (with_reducible repeat (first | apply Kd.S_alloc | apply Kd.S_drewN | apply Kd.S_drew)); exact HO_184000.out) hg hat)
          have n1_ := aC.mk (Kd.S_after (ok := (fun _ => True)) (by (with_reducible repeat (first | apply Kd.S_alloc | apply Kd.S_drewN | apply Kd.S_drew)); exact HO_184001.out) hg hat)
          have n2_ := aC.mk (blk_grown (g := gb181) (o := .cells #[.slice A0_0 l0_0.length c0_0, .slice (some ad194) l0_1.length c0_1, .int .i64 a0_2, .bool a0_3] 25 (0, 0)) (by (with_reducible repeat (first | refine aT ?_ _ | refine aQ ?_ | refine aN ?_ _)); exact BK181.out) hg (Kd.R_ne HO197.out BK181.out (by decide)))
          have n3_ := aC.mk (blk_grown (g := gb182) (o := .cells #[.slice none 0 0, .slice none 0 0, .int .i64 0, .bool false] 25 (0, 0)) (by (with_reducible repeat (first | refine aT ?_ _ | refine aQ ?_ | refine aN ?_ _)); exact BK182.out) hg (Kd.R_ne HO197.out BK182.out (by decide)))
          have n4_ := aC.mk (blk_grown (g := gb183) (o := .cells #[u184000, u184001, .int .i64 a0_2, .bool a0_3] 25 (0, 0)) (by (with_reducible repeat (first | refine aT ?_ _ | refine aQ ?_ | refine aN ?_ _)); exact BK183.out) hg (Kd.R_ne HO197.out BK183.out (by decide)))
          have n5_ := aC.mk (hb)
          have n6_ := aC.mk (ho)
          clear HO_184000
          clear HO_184001
          clear BK181
          clear BK182
          clear BK183
          clear HB
          clear HO197
          have HO_184000 := n0_
          have HO_184001 := n1_
          have BK181 := n2_
          have BK182 := n3_
          have BK183 := n4_
          have HB := n5_
          have HO201 := n6_
          clear n0_ n1_ n2_ n3_ n4_ n5_ n6_
          clear ho hb hg hat
          obtain ⟨Ao39, co39, eo39⟩ := Kd.R_slice HO201.out
          (first | subst eo39 | (injection eo39 with f1_ f2_ f3_; have f4_ := f1_.symm; have f5_ := f3_.symm; clear f1_ f2_ f3_; subst f4_; subst f5_))
          refine hK.out _ _ ⟨(aD BK183.out 0).trans rfl, (aD BK183.out 1).trans rfl, (aD BK183.out 2).trans rfl, (aD BK183.out 3).trans rfl, (aD BK181.out 0).trans rfl, (aD BK181.out 1).trans rfl, (aD BK181.out 2).trans rfl, (aD BK181.out 3).trans rfl, ((HB.out.cell (lD w _ hw194_0)).trans hw194_0), ((HB.out.cell (lD w _ hw194_1)).trans hw194_1), ((HB.out.cell (lD w _ hw198_0)).trans hw198_0), ((HB.out.cell (lD w _ hw198_1)).trans hw198_1)⟩ (fun hHeld => ?_)
          clear hK K
          refine norm_ (a' := ?_) ?_ ?_
          rotate_left
          ·show Act.put _ (some 52) _ = _
           simp only [Act.put, lA, lB, lC, bE, bF]
           rfl
          refine pure_ (i := 16) (N := some 53) (v := ?_) (a' := ?_) #[true, true, true, true, true, true, true, true, true, true, true, true, true, true, true, true, true, false, false, false, false] rfl rfl (any_of HT_.out (by kernel_rfl)) (fun _ _ _ h => h) (Or.inl ⟨by rfl, ?_⟩) ?_ ?_
          rotate_left
          ·intro w'
           go_simp
           with_reducible rfl
          rotate_left
          ·simp only [Act.put, lA, lB, lC, bE, bF]
           rfl
          refine one_ (i := 17) (N := some 54) #[true, true, true, true, true, true, true, true, true, true, true, true, true, true, true, true, true, true, false, false, false] rfl rfl (one_of HT_.out (by kernel_rfl)) (by decide) (fun K hK => ?_)
          refine value_ (w1 := ?_) (v := ?_) (by rfl) rfl ?_ ?_
          rotate_left 2
          ·go_simp
           constructor
           ·rfl
           ·rfl
          refine hK.out _ _ ⟨(aD (aN BK183.out _) 0).trans rfl, (aD (aN BK183.out _) 1).trans rfl, (aD (aN BK183.out _) 2).trans rfl, (aD (aN BK183.out _) 3).trans rfl, (aD (aN BK181.out _) 0).trans rfl, (aD (aN BK181.out _) 1).trans rfl, (aD (aN BK181.out _) 2).trans rfl, (aD (aN BK181.out _) 3).trans rfl, (World.cell?_alloc_lt _ _ _ (lD _ _ (((HB.out.cell (lD w _ hw194_0)).trans hw194_0)))).trans (((HB.out.cell (lD w _ hw194_0)).trans hw194_0)), (World.cell?_alloc_lt _ _ _ (lD _ _ (((HB.out.cell (lD w _ hw194_1)).trans hw194_1)))).trans (((HB.out.cell (lD w _ hw194_1)).trans hw194_1)), (World.cell?_alloc_lt _ _ _ (lD _ _ (((HB.out.cell (lD w _ hw198_0)).trans hw198_0)))).trans (((HB.out.cell (lD w _ hw198_0)).trans hw198_0)), (World.cell?_alloc_lt _ _ _ (lD _ _ (((HB.out.cell (lD w _ hw198_1)).trans hw198_1)))).trans (((HB.out.cell (lD w _ hw198_1)).trans hw198_1))⟩ (fun hHeld => ?_)
          clear hK K
          refine norm_ (a' := ?_) ?_ ?_
          rotate_left
          ·show Act.put _ (some 54) _ = _
           simp only [Act.put, lA, lB, lC, bE, bF]
           rfl
          refine one_ (i := 18) (N := some 55) #[true, true, true, true, true, true, true, true, true, true, true, true, true, true, true, true, true, true, true, false, false] rfl rfl (one_of HT_.out (by kernel_rfl)) (by decide) (fun K hK => ?_)
          refine Kd.S_append_step k50 (w0 := w) w.heap.size (by rfl) (.tmp 38) (.tmp 54) 23 50 (.agg #[(.int .i64 0), (.slice none 0 0)]) 32 rfl Try.underlying23 info50 rfl (by decide) (by omega) u184001 x184001_2 (⟨(rd_T50 l0_1 x5_2).f0, y199⟩ : S50) [.int .i64 ((rd_T50 l0_1 x5_2).f0), .slice Ao39 y199.length co39] (fun _ => True) (fun k_ => some k_ = (.slice Ao39 y199.length co39 : Value).ownBlock) rfl rfl ?aP (fun k_ hk_ => ((Kd.R_mono (ok' := fun k_ => ((fun _ => True)) k_ ∧ some k_ ≠ (u184001 : Value).ownBlock) (Kd.R_apart' (HO201.out) (Kd.S_typed HO_184001.out) (by decide)) (fun k_ hk => ⟨trivial, hk.2⟩))).1 k_ hk_.symm) ?aF ?aO ?aB ?aS ?aL ?_
          (case aP => exact k50_mkM _ _ _ (⟨(rd_T50 l0_1 x5_2).f0, y199⟩ : S50) (Kd.R_mono (Kd.R_tight rfl (Kd.R_mono (ok' := fun k_ => ((fun _ => True)) k_ ∧ some k_ ≠ (u184001 : Value).ownBlock) (Kd.R_apart' (HO201.out) (Kd.S_typed HO_184001.out) (by decide)) (fun k_ hk => ⟨trivial, hk.2⟩))) (fun _ h_ => h_)))
          (case aB => exact (by repeat (first | (with_reducible first | exact HB.out | apply aJ | apply aE | apply aH | refine aG ?_ GE181.out | refine aG ?_ GE182.out | refine aG ?_ GE183.out) | exact HB.out)))
          (case aF => exact (fun _ _ => trivial))
          (case aO => exact (by (with_reducible repeat (first | apply Kd.S_alloc | apply Kd.S_drewN | apply Kd.S_drew)); exact Kd.S_mono HO_184001.out (fun k_ hk => ⟨trivial, fun e_ => hk.2 e_⟩)))
          (case aS => exact (aW (by repeat (first | (with_reducible first | exact HB.out | apply aJ | apply aE | apply aH | refine aG ?_ GE181.out | refine aG ?_ GE182.out | refine aG ?_ GE183.out) | exact HB.out))))
          (case aL => have := LMc31.out; omega)
          intro v203 w40 ho hb hg hat
          rw [← Ny202.out] at ho
          have n0_ := aC.mk (Kd.S_over' (by (with_reducible repeat (first | apply Kd.S_alloc | apply Kd.S_drewN | apply Kd.S_drew)); exact HO_184000.out) (Kd.S_typed (by (with_reducible repeat (first | apply Kd.S_alloc | apply Kd.S_drewN | apply Kd.S_drew)); exact HO_184001.out)) (by decide) hg)
          have n1_ := aC.mk (blk_grown (g := gb181) (o := .cells #[.slice A0_0 l0_0.length c0_0, .slice (some ad194) l0_1.length c0_1, .int .i64 a0_2, .bool a0_3] 25 (0, 0)) (by (with_reducible repeat (first | refine aT ?_ _ | refine aQ ?_ | refine aN ?_ _)); exact BK181.out) hg (Kd.S_ne HO_184001.out BK181.out (by decide)))
          have n2_ := aC.mk (blk_grown (g := gb182) (o := .cells #[.slice none 0 0, .slice none 0 0, .int .i64 0, .bool false] 25 (0, 0)) (by (with_reducible repeat (first | refine aT ?_ _ | refine aQ ?_ | refine aN ?_ _)); exact BK182.out) hg (Kd.S_ne HO_184001.out BK182.out (by decide)))
          have n3_ := aC.mk (blk_grown (g := gb183) (o := .cells #[u184000, u184001, .int .i64 a0_2, .bool a0_3] 25 (0, 0)) (by (with_reducible repeat (first | refine aT ?_ _ | refine aQ ?_ | refine aN ?_ _)); exact BK183.out) hg (Kd.S_ne HO_184001.out BK183.out (by decide)))
          have n4_ := aC.mk (hb)
          have n5_ := aC.mk (ho)
          clear HO_184000
          clear BK181
          clear BK182
          clear BK183
          clear HB
          clear HO_184001
          clear HO201
          have HO_184000 := n0_
          have BK181 := n1_
          have BK182 := n2_
          have BK183 := n3_
          have HB := n4_
          have HO204 := n5_
          clear n0_ n1_ n2_ n3_ n4_ n5_
          clear ho hb hg hat
          obtain ⟨Ao41, co41, eo41⟩ := Kd.S_slice HO204.out
          (first | subst eo41 | (injection eo41 with f1_ f2_ f3_; have f4_ := f1_.symm; have f5_ := f3_.symm; clear f1_ f2_ f3_; subst f4_; subst f5_))
          refine hK.out _ _ ⟨(aD BK183.out 0).trans rfl, (aD BK183.out 1).trans rfl, (aD BK183.out 2).trans rfl, (aD BK183.out 3).trans rfl, (aD BK181.out 0).trans rfl, (aD BK181.out 1).trans rfl, (aD BK181.out 2).trans rfl, (aD BK181.out 3).trans rfl, ((HB.out.cell (lD w _ hw194_0)).trans hw194_0), ((HB.out.cell (lD w _ hw194_1)).trans hw194_1), ((HB.out.cell (lD w _ hw198_0)).trans hw198_0), ((HB.out.cell (lD w _ hw198_1)).trans hw198_1)⟩ (fun hHeld => ?_)
          clear hK K
          refine norm_ (a' := ?_) ?_ ?_
          rotate_left
          ·show Act.put _ (some 55) _ = _
           simp only [Act.put, lA, lB, lC, bE, bF]
           rfl
          refine pure_ (i := 19) (N := some 56) (v := ?_) (a' := ?_) #[true, true, true, true, true, true, true, true, true, true, true, true, true, true, true, true, true, true, true, true, false] rfl rfl (any_of HT_.out (by kernel_rfl)) (fun _ _ _ h => h) (Or.inl ⟨by rfl, ?_⟩) ?_ ?_
          rotate_left
          ·intro w'
           go_simp
           with_reducible rfl
          rotate_left
          ·simp only [Act.put, lA, lB, lC, bE, bF]
           rfl
          refine last_ (i := 20) (N := none) #[true, true, true, true, true, true, true, true, true, true, true, true, true, true, true, true, true, true, true, true, true] rfl rfl (one_of HT_.out (by kernel_rfl)) (by decide) (fun K hK => ?_)
          have hs42 : w40.cell? ⟨gb183, 1, none⟩ = some (u184001) := (aD BK183.out 1).trans rfl
          have hfs42 := aA BK183.out 1
          have hns42_0 := NB181_183.out
          have hns42_1 := NB182_183.out
          have hms42_0 := NB183_181.out
          have hms42_1 := NB183_182.out
          refine skip_ (w1 := ?_) (by rfl) rfl ?_ ?_
          rotate_left
          ·go_simp
           rfl
          refine hK.out _ _ ?_
          clear hK K
          refine done_ (done_of HT_.out (by kernel_rfl)) ?_
          try go_wp2
          go_roundg k2
          case measure => have := HK1.out; have := HK2.out; omega
          case rel => exact ⟨(wrap64 (x5_2 + 1)), (y202), (.slice Ao41 y202.length co41), (by first | rfl | (simp; done) | (simp [*]; done)), H', ⟨by have := HK1.out; have := HK2.out; omega⟩, ⟨by (with_reducible repeat (first | apply Kd.S_alloc | apply Kd.S_drewN | apply Kd.S_drew)); exact Kd.S_mono (Kd.S_far (p := ⟨gb183, 1, none⟩) (Kd.S_types HO_184000.out BK183.out (by decide)) (fun _ hk => hk.2) (.slice Ao41 y202.length co41)) (fun _ hk => trivial)⟩, ⟨by (with_reducible repeat (first | apply Kd.S_alloc | apply Kd.S_drewN | apply Kd.S_drew)); exact Kd.S_mono (Kd.S_far (p := ⟨gb183, 1, none⟩) (Kd.S_types HO204.out BK183.out (by decide)) (fun _ hk => hk.2) (.slice Ao41 y202.length co41)) (fun _ hk => trivial)⟩, ⟨by (with_reducible repeat (first | refine aT ?_ _ | refine aQ ?_ | refine aN ?_ _)); refine blk_far ?_ NB181_183.out _; (with_reducible repeat (first | refine aT ?_ _ | refine aQ ?_ | refine aN ?_ _)); exact BK181.out⟩, ⟨by (with_reducible repeat (first | refine aT ?_ _ | refine aQ ?_ | refine aN ?_ _)); refine blk_far ?_ NB182_183.out _; (with_reducible repeat (first | refine aT ?_ _ | refine aQ ?_ | refine aN ?_ _)); exact BK182.out⟩, ⟨by (with_reducible repeat (first | refine aT ?_ _ | refine aQ ?_ | refine aN ?_ _)); refine aX (cs := #[u184000, u184001, .int .i64 a0_2, .bool a0_3]) ?_ 1 _ rfl; (with_reducible repeat (first | refine aT ?_ _ | refine aQ ?_ | refine aN ?_ _)); exact BK183.out⟩, ⟨by repeat (first | (with_reducible first | exact HB.out | apply aJ | apply aE | apply aH | refine aG ?_ GE181.out | refine aG ?_ GE182.out | refine aG ?_ GE183.out) | exact HB.out)⟩⟩
         ·rw [if_neg c31] at H
          exact absurd H (by simp)
        ·rw [if_neg c30] at H
         exact absurd H (by simp)
       ·rw [if_neg c29] at H
        exact absurd H (by simp)
      ·rw [if_neg c28] at H
       have c28b0 : decide (x5_2 < (l0_1.length : Int)) = false := decide_eq_false c28
       clear c28
       simp only [Option.some.injEq, Prod.mk.injEq] at H
       obtain ⟨rfl, rfl, rfl, rfl⟩ := H
       have hnb43 := NB181_182.out
       have hnc43 := NB182_181.out
       have hnb44 := NB181_183.out
       have hnc44 := NB183_181.out
       have hcz45_0 : wr.cell? ⟨gb181, 0, none⟩ = some (.slice A0_0 l0_0.length c0_0) := (aD BK181.out 0).trans rfl
       have hcz45_1 : wr.cell? ⟨gb181, 1, none⟩ = some (.slice A0_1 l0_1.length c0_1) := (aD BK181.out 1).trans rfl
       have hcz45_2 : wr.cell? ⟨gb181, 2, none⟩ = some (.int .i64 a0_2) := (aD BK181.out 2).trans rfl
       have hcz45_3 : wr.cell? ⟨gb181, 3, none⟩ = some (.bool a0_3) := (aD BK181.out 3).trans rfl
       have hfz45_0 := aA BK181.out 0
       have hfz45_1 := aA BK181.out 1
       have hfz45_2 := aA BK181.out 2
       have hfz45_3 := aA BK181.out 3
       have hnb46 := NB183_182.out
       have hnc46 := NB182_183.out
       have hcz47_0 : wr.cell? ⟨gb183, 0, none⟩ = some (u184000) := (aD BK183.out 0).trans rfl
       have hcz47_1 : wr.cell? ⟨gb183, 1, none⟩ = some (u184001) := (aD BK183.out 1).trans rfl
       have hcz47_2 : wr.cell? ⟨gb183, 2, none⟩ = some (.int .i64 a0_2) := (aD BK183.out 2).trans rfl
       have hcz47_3 : wr.cell? ⟨gb183, 3, none⟩ = some (.bool a0_3) := (aD BK183.out 3).trans rfl
       have hfz47_0 := aA BK183.out 0
       have hfz47_1 := aA BK183.out 1
       have hfz47_2 := aA BK183.out 2
       have hfz47_3 := aA BK183.out 3
       obtain ⟨Ao48, co48, eo48⟩ := Kd.S_slice HO_184000.out
       subst eo48
       have hcz49_0 : wr.cell? ⟨gb182, 0, none⟩ = some (.slice none 0 0) := (aD BK182.out 0).trans rfl
       have hcz49_1 : wr.cell? ⟨gb182, 1, none⟩ = some (.slice none 0 0) := (aD BK182.out 1).trans rfl
       have hcz49_2 : wr.cell? ⟨gb182, 2, none⟩ = some (.int .i64 0) := (aD BK182.out 2).trans rfl
       have hcz49_3 : wr.cell? ⟨gb182, 3, none⟩ = some (.bool false) := (aD BK182.out 3).trans rfl
       have hfz49_0 := aA BK182.out 0
       have hfz49_1 := aA BK182.out 1
       have hfz49_2 := aA BK182.out 2
       have hfz49_3 := aA BK182.out 3
       obtain ⟨Ao50, co50, eo50⟩ := Kd.S_slice HO_184001.out
       subst eo50
       go_wp2
       refine bodyPost_ret (results_cell_row rfl _ _ gb182 25 #[.slice Ao48 x184000_1.length co48, .slice Ao50 x184001_2.length co50, .int .i64 a0_2, .bool a0_3] (0, 0) _ rfl (by (with_reducible repeat (first | refine aT ?_ _ | refine aQ ?_ | refine aN ?_ _)); refine aX (cs := #[.slice Ao48 x184000_1.length co48, .slice Ao50 x184001_2.length co50, .int .i64 a0_2, .bool false]) ?_ 3 _ rfl; (with_reducible repeat (first | refine aT ?_ _ | refine aQ ?_ | refine aN ?_ _)); refine aX (cs := #[.slice Ao48 x184000_1.length co48, .slice Ao50 x184001_2.length co50, .int .i64 0, .bool false]) ?_ 2 _ rfl; (with_reducible repeat (first | refine aT ?_ _ | refine aQ ?_ | refine aN ?_ _)); refine aX (cs := #[.slice Ao48 x184000_1.length co48, .slice none 0 0, .int .i64 0, .bool false]) ?_ 1 _ rfl; (with_reducible repeat (first | refine aT ?_ _ | refine aQ ?_ | refine aN ?_ _)); refine aX (cs := #[.slice none 0 0, .slice none 0 0, .int .i64 0, .bool false]) ?_ 0 _ rfl; (with_reducible repeat (first | refine aT ?_ _ | refine aQ ?_ | refine aN ?_ _)); exact BK182.out) Try.underlying25 rfl (by kernel_rfl)) rfl ?_
       exact ⟨_, _, by first | rfl | (simp [errW_none, errW_some] <;> rfl) | (simp [*, errW_none, errW_some] <;> rfl), by (with_reducible repeat (first | apply Kd.S_alloc | apply Kd.S_drewN | apply Kd.S_drew)); exact Kd.S_mono (Kd.S_far (p := ⟨gb182, 3, none⟩) (Kd.S_far (p := ⟨gb182, 2, none⟩) (Kd.S_far (p := ⟨gb182, 1, none⟩) (Kd.S_far (p := ⟨gb182, 0, none⟩) (Kd.S_types HO_184000.out BK182.out (by decide)) (fun _ hk => hk.2) (.slice Ao48 x184000_1.length co48)) (fun _ hk => hk.2) (.slice Ao50 x184001_2.length co50)) (fun _ hk => hk.2) (.int .i64 a0_2)) (fun _ hk => hk.2) (.bool a0_3)) (fun _ hk => trivial), by (with_reducible repeat (first | apply Kd.S_alloc | apply Kd.S_drewN | apply Kd.S_drew)); exact Kd.S_mono (Kd.S_far (p := ⟨gb182, 3, none⟩) (Kd.S_far (p := ⟨gb182, 2, none⟩) (Kd.S_far (p := ⟨gb182, 1, none⟩) (Kd.S_far (p := ⟨gb182, 0, none⟩) (Kd.S_types HO_184001.out BK182.out (by decide)) (fun _ hk => hk.2) (.slice Ao48 x184000_1.length co48)) (fun _ hk => hk.2) (.slice Ao50 x184001_2.length co50)) (fun _ hk => hk.2) (.int .i64 a0_2)) (fun _ hk => hk.2) (.bool a0_3)) (fun _ hk => trivial), by repeat (first | (with_reducible first | exact HB.out | apply aJ | apply aE | apply aH | refine aG ?_ GE181.out | refine aG ?_ GE182.out | refine aG ?_ GE183.out) | exact HB.out)⟩
end Go.Proofs.Ytilhcaofpfeioaa.PFnExactFlushDev

namespace Go.Proofs.Ytilhcaofpfeioaa.PFnExactFlushDev
open Go.RowKit Go.Proofs.YtilhcaofpfeioaaW.PrintWords Go.Proofs.YtilhcaofpfeioaaW.PrintLast Go.Proofs.YtilhcaofpfeioaaW.PrintMore
attribute [local go_sem] max2_int min2_int max_two min_two max_three min_three max_four min_four   -- for this text's walks alone
set_option linter.unusedVariables false
set_option linter.unusedSimpArgs false
/-- A state of type 25 at block g of W; what its slices lead to came in by w0. -/
def IsS25 (w0 W : World) (g : Nat) (f0 : List (List Int)) (f1 : List (S50)) (f2 : Int) (f3 : Bool) : Prop := ∃ A0 c0, ∃ A1 c1, W.heap[g]? = some (.cells #[.slice A0 f0.length c0, .slice A1 f1.length c1, .int .i64 f2, .bool f3] 25 (0, 0)) ∧ w0.heap.size ≤ g ∧ Kd.C (Kd.slice 5 (Kd.int .u8)) w0 A0 f0.length f0 ∧ Kd.C k50 w0 A1 f1.length f1
theorem IsS25.grown {w0 W : World} {g : Nat} {f0 : List (List Int)} {f1 : List (S50)} {f2 : Int} {f3 : Bool} {W1 : World} {row : Option Nat} (h : IsS25 w0 W g f0 f1 f2 f3) (hw : W.grownBy W1 row) (hne : some g ≠ row) : IsS25 w0 W1 g f0 f1 f2 f3 := by
 obtain ⟨A0, c0, A1, c1, hb, hg, hr0, hr1⟩ := h
 exact ⟨A0, c0, A1, c1, blk_grown hb hw hne, hg, hr0, hr1⟩
theorem IsS25.kept {w0 W : World} {g : Nat} {f0 : List (List Int)} {f1 : List (S50)} {f2 : Int} {f3 : Bool} {W1 : World} {S : Nat → Prop} (h : IsS25 w0 W g f0 f1 f2 f3) (hk : Kept W W1 S) (hne : ¬ S g) : IsS25 w0 W1 g f0 f1 f2 f3 := by
 obtain ⟨A0, c0, A1, c1, hb, hg, hr0, hr1⟩ := h
 exact ⟨A0, c0, A1, c1, bA hb hk hne, hg, hr0, hr1⟩
theorem IsS25.below {w0 W : World} {g : Nat} {f0 : List (List Int)} {f1 : List (S50)} {f2 : Int} {f3 : Bool} {W1 : World} (h : IsS25 w0 W g f0 f1 f2 f3) (hw : Below W.heap.size W W1) : IsS25 w0 W1 g f0 f1 f2 f3 := h.grown (grown_of_below hw none) (by simp)
theorem IsS25.alloc {w0 W : World} {g : Nat} {f0 : List (List Int)} {f1 : List (S50)} {f2 : Int} {f3 : Bool} (h : IsS25 w0 W g f0 f1 f2 f3) (o : Obj) : IsS25 w0 (W.alloc o) g f0 f1 f2 f3 := h.below (aJ (Below.refl _ _) o)
theorem IsS25.drewN {w0 W : World} {g : Nat} {f0 : List (List Int)} {f1 : List (S50)} {f2 : Int} {f3 : Bool} (h : IsS25 w0 W g f0 f1 f2 f3) (m : Nat) : IsS25 w0 (W.drewN m) g f0 f1 f2 f3 := h
theorem IsS25.drew {w0 W : World} {g : Nat} {f0 : List (List Int)} {f1 : List (S50)} {f2 : Int} {f3 : Bool} (h : IsS25 w0 W g f0 f1 f2 f3) : IsS25 w0 W.drew g f0 f1 f2 f3 := h
theorem IsS25.at_ {w0 W : World} {g : Nat} {f0 : List (List Int)} {f1 : List (S50)} {f2 : Int} {f3 : Bool} {w' : World} {m : Nat} (hq : W.drewN m = w') (h : IsS25 w0 W g f0 f1 f2 f3) : IsS25 w0 w' g f0 f1 f2 f3 := by subst hq; exact IsS25.drewN h m
theorem IsS25.apart {w0 W : World} {g : Nat} {f0 : List (List Int)} {f1 : List (S50)} {f2 : Int} {f3 : Bool} {α : Type} {d : Kd α} {e : Nat} {base : Nat} {ok : Nat → Prop} {v : Value} {xs : List α} (h : IsS25 w0 W g f0 f1 f2 f3) (ho : d.R e W base ok v xs) (ht : ∀ q, q ∈ e :: d.E → q ≠ 25) : d.R e W base (fun k => ok k ∧ k ≠ g) v xs := by
 obtain ⟨A0, c0, A1, c1, hb, hg, hr0, hr1⟩ := h
 exact Kd.R_types ho hb ht
theorem IsS25.own_ne {w0 W : World} {g : Nat} {f0 : List (List Int)} {f1 : List (S50)} {f2 : Int} {f3 : Bool} {α : Type} {d : Kd α} {e : Nat} {base : Nat} {ok : Nat → Prop} {v : Value} {xs : List α} (h : IsS25 w0 W g f0 f1 f2 f3) (ho : d.R e W base ok v xs) (ht : e ≠ 25) : some g ≠ v.ownBlock := by
 obtain ⟨A0, c0, A1, c1, hb, hg, hr0, hr1⟩ := h
 exact Kd.R_ne ho hb ht
theorem IsS25.far {w0 W : World} {g : Nat} {f0 : List (List Int)} {f1 : List (S50)} {f2 : Int} {f3 : Bool} {p : Addr} (h : IsS25 w0 W g f0 f1 f2 f3) (hne : g ≠ p.block) (u : Value) : IsS25 w0 (W.setCell p u) g f0 f1 f2 f3 := by
 obtain ⟨A0, c0, A1, c1, hb, hg, hr0, hr1⟩ := h
 exact ⟨A0, c0, A1, c1, blk_far hb hne u, hg, hr0, hr1⟩
theorem IsS25.new (w0 W : World) (A0 : Option Addr) (c0 : Nat) (A1 : Option Addr) (c1 : Nat) (f0 : List (List Int)) (f1 : List (S50)) (f2 : Int) (f3 : Bool) (hB : Below w0.heap.size w0 W) (hr0 : Kd.C (Kd.slice 5 (Kd.int .u8)) w0 A0 f0.length f0) (hr1 : Kd.C k50 w0 A1 f1.length f1) : IsS25 w0 (W.alloc (.cells #[.slice A0 f0.length c0, .slice A1 f1.length c1, .int .i64 f2, .bool f3] 25)) W.heap.size f0 f1 f2 f3 := ⟨A0, c0, A1, c1, by simpa using heap_alloc_new W _, hB.size, hr0, hr1⟩
def spec_l2Op.f (s0_0 : List (List Int)) (s0_1 : List (S50)) (s0_2 : Int) (s0_3 : Bool) : Option (Bool × Int × Bool) := if s0_2 = 0 then (some (false, (-1), true)) else (if s0_2 > 0 then (some (true, wrap64 (s0_2 - 1), s0_3)) else (some (true, s0_2, s0_3)))
-- NOT PRINTED: function 60 (spec_l2Flush)
-- NOT PRINTED: function 29 (spec_FlushDev)
def impl_within.f (a0 : Int) (a1 : Int) (a2 : Int) : Option (Bool) := if a0 ≥ a1 then (some (decide (a0 ≤ a2))) else (some false)
set_option maxHeartbeats 8000000 in
set_option maxRecDepth 100000 in
theorem impl_within.calls (a0 : Int) (a1 : Int) (a2 : Int) (r : Bool) (w : World) (h : impl_within.f a0 a1 a2 = some r) :
  Calls Try.prog 44 #[.int .i64 a0, .int .i64 a1, .int .i64 a2] w fun e w' => e = .returned (.bool r) ∧ bD w w' := by
 have H : (if a0 ≥ a1 then (some (decide (a0 ≤ a2))) else (some false)) = some r := h
 clear h
 by_cases c4 : a0 ≥ a1
 ·rw [if_pos c4] at H
  have c4b0 : decide (a1 ≤ a0) = true := decide_eq_true c4
  clear c4
  obtain rfl := Option.some.inj H
  go_enter Try.func44, Try.ntmps44
  go_wp2
  go_ret
  exact ⟨by first | rfl | (simp; done) | (simp [*]; done), by repeat (first | exact bD.refl _ | apply bD.step)⟩
 ·rw [if_neg c4] at H
  have c4b0 : decide (a1 ≤ a0) = false := decide_eq_false c4
  clear c4
  obtain rfl := Option.some.inj H
  go_enter Try.func44, Try.ntmps44
  go_wp2
  go_ret
  exact ⟨by first | rfl | (simp; done) | (simp [*]; done), by repeat (first | exact bD.refl _ | apply bD.step)⟩
mutual
def impl_DevOk.j0 : Nat → Bool → List (List Int) → List (S50) → Int → Bool → Option (Bool)
 | 0, _, _, _, _, _ => none
 | k + 1, x23, x223000, x223001, x223002, x223003 => if x23 = true then (some false) else (impl_DevOk.l0 k x223000 (x223000.length : Int) 0 x223000 x223001 x223002 x223003)
def impl_DevOk.l0 : Nat → List (List Int) → Int → Int → List (List Int) → List (S50) → Int → Bool → Option (Bool)
 | 0, _, _, _, _, _, _, _ => none
 | k + 1, x25, x26, x27, x223000, x223001, x223002, x223003 => if x27 < x26 then (if 0 ≤ x27 then (if x27 < (x25.length : Int) then (if ((rd_L1 x25 x27).length : Int) > 80 then (some false) else (impl_DevOk.l0 k x25 x26 (wrap64 (x27 + 1)) x223000 x223001 x223002 x223003)) else (none)) else (none)) else (impl_DevOk.l1 k x223001 (x223001.length : Int) 0 x223000 x223001 x223002 x223003)
def impl_DevOk.l1 : Nat → List (S50) → Int → Int → List (List Int) → List (S50) → Int → Bool → Option (Bool)
 | 0, _, _, _, _, _, _, _ => none
 | k + 1, x36, x37, x38, x223000, x223001, x223002, x223003 => if x38 < x37 then (if 0 ≤ x38 then (if x38 < (x36.length : Int) then ((impl_within.f ((rd_T50 x36 x38).f0) 0 (wrap64 ((x223000.length : Int) - 1))).bind fun t228 => (if t228 = true then (if (((rd_T50 x36 x38).f1).length : Int) > 80 then (some false) else (impl_DevOk.l1 k x36 x37 (wrap64 (x38 + 1)) x223000 x223001 x223002 x223003)) else (some false))) else (none)) else (none)) else (some true)
end
def impl_DevOk.f (k : Nat) (l0_0 : List (List Int)) (l0_1 : List (S50)) (a0_2 : Int) (a0_3 : Bool) : Option (Bool) := (impl_within.f (l0_0.length : Int) 1 60).bind fun t223 => (if t223 = true then (if (l0_1.length : Int) > 60 then (impl_DevOk.j0 k true l0_0 l0_1 a0_2 a0_3) else ((impl_within.f a0_2 (-1) 1000).bind fun t224 => (impl_DevOk.j0 k (!t224) l0_0 l0_1 a0_2 a0_3))) else (impl_DevOk.j0 k true l0_0 l0_1 a0_2 a0_3))
set_option maxHeartbeats 8000000 in
set_option maxRecDepth 100000 in
theorem impl_DevOk.calls (k : Nat) (A0_0 : Option Addr) (c0_0 : Nat) (l0_0 : List (List Int)) (A0_1 : Option Addr) (c0_1 : Nat) (l0_1 : List (S50)) (a0_2 : Int) (a0_3 : Bool) (r : Bool) (w : World) (hr0_0 : Kd.C (Kd.slice 5 (Kd.int .u8)) w A0_0 l0_0.length l0_0) (hc0_0 : l0_0.length ≤ c0_0) (hr0_1 : Kd.C k50 w A0_1 l0_1.length l0_1) (hc0_1 : l0_1.length ≤ c0_1) (h : impl_DevOk.f k l0_0 l0_1 a0_2 a0_3 = some r) :
  Calls Try.prog 20 #[.agg #[.slice A0_0 l0_0.length c0_0, .slice A0_1 l0_1.length c0_1, .int .i64 a0_2, .bool a0_3]] w fun e w' => e = .returned (.bool r) ∧ Below w.heap.size w w' := by
 have hu25 := Try.underlying25
 have hu50 := Try.underlying50
 have HR0_0 := aC.mk hr0_0
 have HC0_0 := aC.mk hc0_0
 clear hr0_0 hc0_0
 have HR0_1 := aC.mk hr0_1
 have HC0_1 := aC.mk hc0_1
 clear hr0_1 hc0_1
 have HB := aC.mk (Below.refl w.heap.size w)
 have H : ((impl_within.f (l0_0.length : Int) 1 60).bind fun t223 => (if t223 = true then (if (l0_1.length : Int) > 60 then (impl_DevOk.j0 k true l0_0 l0_1 a0_2 a0_3) else ((impl_within.f a0_2 (-1) 1000).bind fun t224 => (impl_DevOk.j0 k (!t224) l0_0 l0_1 a0_2 a0_3))) else (impl_DevOk.j0 k true l0_0 l0_1 a0_2 a0_3))) = some r := h
 clear h
 have HC2 := aC.mk H
 clear H
 go_enter Try.func20, Try.ntmps20
 go_upto_region 1 with (first | ((with_reducible refine bC (N := 1) rfl ?_); (try (refine gate_guard (by rfl) ?_; dsimp only)); refine bB ?hg (N := 1) ?hd (cs := #[.slice A0_0 l0_0.length c0_0, .slice A0_1 l0_1.length c0_1, .int .i64 a0_2, .bool a0_3]) (t := 25) ?hr ?_; (case hd => rfl); (case hg => rfl); (case hr => first | (go_simp; done) | (go_simp; rfl)); intro gb222 hg w3 hbox hb; have n0_ := aC.mk (aV (by repeat (first | (with_reducible first | exact HB.out | apply aJ | apply aE | apply aH) | exact HB.out)) hb); have n1_ := aC.mk (hbox); have n2_ := aC.mk ((by rw [hg]; exact (aW (by repeat (first | (with_reducible first | exact HB.out | apply aJ | apply aE | apply aH) | exact HB.out))) : w.heap.size ≤ gb222)); have n3_ := aC.mk ((by rw [hg]; exact (aW (by repeat (first | (with_reducible first | exact HB.out | apply aJ | apply aE | apply aH) | exact HB.out))) : w.heap.size ≤ gb222)); clear HB; have HB := n0_; have BK222 := n1_; have GW222 := n2_; have GE222 := n3_; clear n0_ n1_ n2_ n3_; clear hb hbox hg))
 (try simp only [Act.put, lA, lB, lC])
 go_cut [23] (fun v23 wc => ∃ (kq : Nat) (x23_1 : Bool), v23 = .bool x23_1 ∧ aC (impl_DevOk.j0 kq x23_1 l0_0 l0_1 a0_2 a0_3 = some r) ∧ aC (kq ≤ k) ∧ aC (wc.heap[gb222]? = some (.cells #[(.slice A0_0 l0_0.length c0_0), (.slice A0_1 l0_1.length c0_1), .int .i64 a0_2, .bool a0_3] 25 (0, 0))) ∧ aC (Below w.heap.size w wc))
 case first =>
  have H := HC2.out
  clear HC2
  replace H := lF H
  obtain ⟨t223, A40, H⟩ := H
  replace H : (if t223 = true then (if (l0_1.length : Int) > 60 then (impl_DevOk.j0 k true l0_0 l0_1 a0_2 a0_3) else ((impl_within.f a0_2 (-1) 1000).bind fun t224 => (impl_DevOk.j0 k (!t224) l0_0 l0_1 a0_2 a0_3))) else (impl_DevOk.j0 k true l0_0 l0_1 a0_2 a0_3)) = some r := H
  have A4 := aC.mk A40
  clear A40
  by_cases c5 : t223 = true
  ·subst c5
   have H1 : (if (l0_1.length : Int) > 60 then (impl_DevOk.j0 k true l0_0 l0_1 a0_2 a0_3) else ((impl_within.f a0_2 (-1) 1000).bind fun t224 => (impl_DevOk.j0 k (!t224) l0_0 l0_1 a0_2 a0_3))) = some r := by rw [if_pos rfl] at H; exact H
   clear H
   have H := H1
   clear H1
   by_cases c6 : (l0_1.length : Int) > 60
   ·rw [if_pos c6] at H
    have c6b0 : decide (60 < (l0_1.length : Int)) = true := decide_eq_true c6
    have c6b1 : decide (60 < l0_1.length) = true := decide_eq_true (by omega)
    clear c6
    (first | rw [c6b0] | (simp only [bE, bF]; rw [c6b0]) | skip)
    have H' := aC.mk H
    clear H
    have hcz7_0 : w3.cell? ⟨gb222, 0, none⟩ = some (.slice A0_0 l0_0.length c0_0) := (aD BK222.out 0).trans rfl
    have hcz7_1 : w3.cell? ⟨gb222, 1, none⟩ = some (.slice A0_1 l0_1.length c0_1) := (aD BK222.out 1).trans rfl
    have hcz7_2 : w3.cell? ⟨gb222, 2, none⟩ = some (.int .i64 a0_2) := (aD BK222.out 2).trans rfl
    have hcz7_3 : w3.cell? ⟨gb222, 3, none⟩ = some (.bool a0_3) := (aD BK222.out 3).trans rfl
    have hfz7_0 := aA BK222.out 0
    have hfz7_1 := aA BK222.out 1
    have hfz7_2 := aA BK222.out 2
    have hfz7_3 := aA BK222.out 3
    go_wp2_with (first | ((with_reducible refine aY (f := 44) rfl ?_); refine bJ (some 10) rfl rfl Try.func44 (by kernel_rfl) rfl #[.int .i64 (l0_0.length : Int), .int .i64 1, .int .i64 60] rfl (by (try simp only [List.map_toArray, List.map_cons, List.map_nil]); first | done | rfl | (simp only [List.length_drop, List.length_take]; rfl)) ?_; (with_reducible refine (impl_within.calls (l0_0.length : Int) 1 60 true _ A4.out).mono ?_); rintro e w' ⟨rfl, ⟨nd, rfl⟩⟩; refine ⟨_, rfl, ?_⟩))
    go_meet
    case rel => exact ⟨_, (true), (by first | rfl | (simp; done) | (simp [*]; done)), H', ⟨by first | omega | exact Nat.le_refl _⟩, ⟨by (with_reducible repeat (first | refine aT ?_ _ | refine aQ ?_ | refine aN ?_ _)); exact BK222.out⟩, ⟨by repeat (first | (with_reducible first | exact HB.out | apply aJ | apply aE | apply aH | refine aG ?_ GE222.out) | exact HB.out)⟩⟩
   ·rw [if_neg c6] at H
    have c6b0 : decide (60 < (l0_1.length : Int)) = false := decide_eq_false c6
    have c6b1 : decide (60 < l0_1.length) = false := decide_eq_false (by omega)
    clear c6
    (first | rw [c6b0] | (simp only [bE, bF]; rw [c6b0]) | skip)
    replace H := lF H
    obtain ⟨t224, A80, H⟩ := H
    replace H : (impl_DevOk.j0 k (!t224) l0_0 l0_1 a0_2 a0_3) = some r := H
    have A8 := aC.mk A80
    clear A80
    have H' := aC.mk H
    clear H
    have hcz9_0 : w3.cell? ⟨gb222, 0, none⟩ = some (.slice A0_0 l0_0.length c0_0) := (aD BK222.out 0).trans rfl
    have hcz9_1 : w3.cell? ⟨gb222, 1, none⟩ = some (.slice A0_1 l0_1.length c0_1) := (aD BK222.out 1).trans rfl
    have hcz9_2 : w3.cell? ⟨gb222, 2, none⟩ = some (.int .i64 a0_2) := (aD BK222.out 2).trans rfl
    have hcz9_3 : w3.cell? ⟨gb222, 3, none⟩ = some (.bool a0_3) := (aD BK222.out 3).trans rfl
    have hfz9_0 := aA BK222.out 0
    have hfz9_1 := aA BK222.out 1
    have hfz9_2 := aA BK222.out 2
    have hfz9_3 := aA BK222.out 3
    go_wp2_with (first | ((with_reducible refine aY (f := 44) rfl ?_); refine bJ (some 10) rfl rfl Try.func44 (by kernel_rfl) rfl #[.int .i64 (l0_0.length : Int), .int .i64 1, .int .i64 60] rfl (by (try simp only [List.map_toArray, List.map_cons, List.map_nil]); first | done | rfl | (simp only [List.length_drop, List.length_take]; rfl)) ?_; (with_reducible refine (impl_within.calls (l0_0.length : Int) 1 60 true _ A4.out).mono ?_); rintro e w' ⟨rfl, ⟨nd, rfl⟩⟩; refine ⟨_, rfl, ?_⟩) | (go_at_call 44; (with_reducible refine (impl_within.calls a0_2 (-1) 1000 t224 _ A8.out).mono ?_); rintro e w' ⟨rfl, ⟨nd, rfl⟩⟩))
    go_meet
    case rel => exact ⟨_, (!t224), (by first | rfl | (simp; done) | (simp [*]; done)), H', ⟨by first | omega | exact Nat.le_refl _⟩, ⟨by (with_reducible repeat (first | refine aT ?_ _ | refine aQ ?_ | refine aN ?_ _)); exact BK222.out⟩, ⟨by repeat (first | (with_reducible first | exact HB.out | apply aJ | apply aE | apply aH | refine aG ?_ GE222.out) | exact HB.out)⟩⟩
  ·replace c5 := Bool.eq_false_iff.mpr c5
   subst c5
   have H1 : (impl_DevOk.j0 k true l0_0 l0_1 a0_2 a0_3) = some r := by rw [if_neg (show ¬ (false = true) by decide)] at H; exact H
   clear H
   have H := H1
   clear H1
   have H' := aC.mk H
   clear H
   have hcz10_0 : w3.cell? ⟨gb222, 0, none⟩ = some (.slice A0_0 l0_0.length c0_0) := (aD BK222.out 0).trans rfl
   have hcz10_1 : w3.cell? ⟨gb222, 1, none⟩ = some (.slice A0_1 l0_1.length c0_1) := (aD BK222.out 1).trans rfl
   have hcz10_2 : w3.cell? ⟨gb222, 2, none⟩ = some (.int .i64 a0_2) := (aD BK222.out 2).trans rfl
   have hcz10_3 : w3.cell? ⟨gb222, 3, none⟩ = some (.bool a0_3) := (aD BK222.out 3).trans rfl
   have hfz10_0 := aA BK222.out 0
   have hfz10_1 := aA BK222.out 1
   have hfz10_2 := aA BK222.out 2
   have hfz10_3 := aA BK222.out 3
   go_wp2_with (first | ((with_reducible refine aY (f := 44) rfl ?_); refine bJ (some 10) rfl rfl Try.func44 (by kernel_rfl) rfl #[.int .i64 (l0_0.length : Int), .int .i64 1, .int .i64 60] rfl (by (try simp only [List.map_toArray, List.map_cons, List.map_nil]); first | done | rfl | (simp only [List.length_drop, List.length_take]; rfl)) ?_; (with_reducible refine (impl_within.calls (l0_0.length : Int) 1 60 false _ A4.out).mono ?_); rintro e w' ⟨rfl, ⟨nd, rfl⟩⟩; refine ⟨_, rfl, ?_⟩))
   go_meet
   case rel => exact ⟨_, (true), (by first | rfl | (simp; done) | (simp [*]; done)), H', ⟨by first | omega | exact Nat.le_refl _⟩, ⟨by (with_reducible repeat (first | refine aT ?_ _ | refine aQ ?_ | refine aN ?_ _)); exact BK222.out⟩, ⟨by repeat (first | (with_reducible first | exact HB.out | apply aJ | apply aE | apply aH | refine aG ?_ GE222.out) | exact HB.out)⟩⟩
 case rest =>
  clear HC2
  try clear c2
  try clear p2
  try clear c4
  try clear c5
  try clear c6
  try clear c6b0
  try clear c6b1
  try clear hcz10_0
  try clear hcz10_1
  try clear hcz10_2
  try clear hcz10_3
  try clear hcz7_0
  try clear hcz7_1
  try clear hcz7_2
  try clear hcz7_3
  try clear hcz9_0
  try clear hcz9_1
  try clear hcz9_2
  try clear hcz9_3
  try clear hfz10_0
  try clear hfz10_1
  try clear hfz10_2
  try clear hfz10_3
  try clear hfz7_0
  try clear hfz7_1
  try clear hfz7_2
  try clear hfz7_3
  try clear hfz9_0
  try clear hfz9_1
  try clear hfz9_2
  try clear hfz9_3
  obtain ⟨kq, x23_1, rfl, HA, HJ1, BK222, HB⟩ := hcut
  cases kq with
  | zero => exact absurd HA.out (by simp [impl_DevOk.j0])
  | succ kj1 =>
   have H := HA.out
   clear HA
   simp only [impl_DevOk.j0] at H
   by_cases c11 : x23_1 = true
   ·subst c11
    have H1 : (some false) = some r := by rw [if_pos rfl] at H; exact H
    clear H
    have H := H1
    clear H1
    obtain rfl := Option.some.inj H
    go_wp2
    go_ret
    exact ⟨by first | rfl | (simp [errW_none, errW_some] <;> rfl) | (simp [*, errW_none, errW_some] <;> rfl), by repeat (first | (with_reducible first | exact HB.out | apply aJ | apply aE | apply aH | refine aG ?_ GE222.out) | exact HB.out)⟩
   ·replace c11 := Bool.eq_false_iff.mpr c11
    subst c11
    have H1 : (impl_DevOk.l0 kj1 l0_0 (l0_0.length : Int) 0 l0_0 l0_1 a0_2 a0_3) = some r := by rw [if_neg (show ¬ (false = true) by decide)] at H; exact H
    clear H
    have H := H1
    clear H1
    have H' := aC.mk H
    clear H
    have hcz12_0 : wc.cell? ⟨gb222, 0, none⟩ = some (.slice A0_0 l0_0.length c0_0) := (aD BK222.out 0).trans rfl
    have hcz12_1 : wc.cell? ⟨gb222, 1, none⟩ = some (.slice A0_1 l0_1.length c0_1) := (aD BK222.out 1).trans rfl
    have hcz12_2 : wc.cell? ⟨gb222, 2, none⟩ = some (.int .i64 a0_2) := (aD BK222.out 2).trans rfl
    have hcz12_3 : wc.cell? ⟨gb222, 3, none⟩ = some (.bool a0_3) := (aD BK222.out 3).trans rfl
    have hfz12_0 := aA BK222.out 0
    have hfz12_1 := aA BK222.out 1
    have hfz12_2 := aA BK222.out 2
    have hfz12_3 := aA BK222.out 3
    go_wp2
    go_loopg [27] kj1 (fun kq v27 w' => ∃ (x27_2 : Int), v27 = .int .i64 x27_2 ∧ aC (impl_DevOk.l0 kq l0_0 (l0_0.length : Int) x27_2 l0_0 l0_1 a0_2 a0_3 = some r) ∧ aC (kq ≤ kj1) ∧ aC (w'.heap[gb222]? = some (.cells #[(.slice A0_0 l0_0.length c0_0), (.slice A0_1 l0_1.length c0_1), .int .i64 a0_2, .bool a0_3] 25 (0, 0))) ∧ aC (Below w.heap.size w w'))
    case atStart => exact ⟨(0), (by first | rfl | (simp; done) | (simp [*]; done)), H', ⟨Nat.le_refl _⟩, ⟨by (with_reducible repeat (first | refine aT ?_ _ | refine aQ ?_ | refine aN ?_ _)); exact BK222.out⟩, ⟨by repeat (first | (with_reducible first | exact HB.out | apply aJ | apply aE | apply aH | refine aG ?_ GE222.out) | exact HB.out)⟩⟩
    case round =>
     clear H'
     try clear c1
     try clear c2
     try clear p2
     try clear c4
     try clear c5
     try clear c6
     try clear c6b0
     try clear c6b1
     try clear c11
     try clear hcz10_0
     try clear hcz10_1
     try clear hcz10_2
     try clear hcz10_3
     try clear hcz12_0
     try clear hcz12_1
     try clear hcz12_2
     try clear hcz12_3
     try clear hcz7_0
     try clear hcz7_1
     try clear hcz7_2
     try clear hcz7_3
     try clear hcz9_0
     try clear hcz9_1
     try clear hcz9_2
     try clear hcz9_3
     try clear hfz10_0
     try clear hfz10_1
     try clear hfz10_2
     try clear hfz10_3
     try clear hfz12_0
     try clear hfz12_1
     try clear hfz12_2
     try clear hfz12_3
     try clear hfz7_0
     try clear hfz7_1
     try clear hfz7_2
     try clear hfz7_3
     try clear hfz9_0
     try clear hfz9_1
     try clear hfz9_2
     try clear hfz9_3
     try clear p2
     obtain ⟨x27_2, rfl, HA, HK2, BK222, HB⟩ := hrel
     cases gk with
     | zero => exact absurd HA.out (by simp [impl_DevOk.l0])
     | succ k2 =>
      have H := HA.out
      clear HA
      simp only [impl_DevOk.l0] at H
      by_cases c13 : x27_2 < (l0_0.length : Int)
      ·rw [if_pos c13] at H
       have c13b0 : decide (x27_2 < (l0_0.length : Int)) = true := decide_eq_true c13
       clear c13
       by_cases c14 : 0 ≤ x27_2
       ·rw [if_pos c14] at H
        have c14b0 : decide (0 ≤ x27_2) = true := decide_eq_true c14
        clear c14
        by_cases c15 : x27_2 < (l0_0.length : Int)
        ·rw [if_pos c15] at H
         have c15b0 : decide (x27_2 < (l0_0.length : Int)) = true := decide_eq_true c15
         clear c15
         by_cases c16 : ((rd_L1 l0_0 x27_2).length : Int) > 80
         ·rw [if_pos c16] at H
          have c16b0 : decide (80 < ((rd_L1 l0_0 x27_2).length : Int)) = true := decide_eq_true c16
          have c16b1 : decide (80 < (rd_L1 l0_0 x27_2).length) = true := decide_eq_true (by omega)
          clear c16
          obtain rfl := Option.some.inj H
          have p225 : 0 ≤ (x27_2 : Int) := lE (by first | (with_reducible assumption) | assumption)
          have q225 : x27_2 < (l0_0.length : Int) := lE (by first | (with_reducible assumption) | assumption)
          obtain ⟨ad225, A225_0, c225_0, e225, hx225_0, hl225_0, hi225_0⟩ := at_L1 HR0_0.out x27_2 p225 q225
          cases e225
          replace hx225_0 := (HB.out.cell (lD w _ hx225_0)).trans hx225_0
          have HR225_0 := aC.mk hi225_0
          have HC225_0 := aC.mk hl225_0
          clear hi225_0 hl225_0
          replace p225 := eq_true p225
          replace q225 := eq_true q225
          go_wp2
          go_ret
          exact ⟨by first | rfl | (simp [errW_none, errW_some] <;> rfl) | (simp [*, errW_none, errW_some] <;> rfl), by repeat (first | (with_reducible first | exact HB.out | apply aJ | apply aE | apply aH | refine aG ?_ GE222.out) | exact HB.out)⟩
         ·rw [if_neg c16] at H
          have c16b0 : decide (80 < ((rd_L1 l0_0 x27_2).length : Int)) = false := decide_eq_false c16
          have c16b1 : decide (80 < (rd_L1 l0_0 x27_2).length) = false := decide_eq_false (by omega)
          clear c16
          have H' := aC.mk H
          clear H
          have p225 : 0 ≤ (x27_2 : Int) := lE (by first | (with_reducible assumption) | assumption)
          have q225 : x27_2 < (l0_0.length : Int) := lE (by first | (with_reducible assumption) | assumption)
          obtain ⟨ad225, A225_0, c225_0, e225, hx225_0, hl225_0, hi225_0⟩ := at_L1 HR0_0.out x27_2 p225 q225
          cases e225
          replace hx225_0 := (HB.out.cell (lD w _ hx225_0)).trans hx225_0
          have HR225_0 := aC.mk hi225_0
          have HC225_0 := aC.mk hl225_0
          clear hi225_0 hl225_0
          replace p225 := eq_true p225
          replace q225 := eq_true q225
          go_wp2
          go_roundg k2
          case measure => have := HJ1.out; have := HK2.out; omega
          case rel => exact ⟨(wrap64 (x27_2 + 1)), (by first | rfl | (simp; done) | (simp [*]; done)), H', ⟨by have := HJ1.out; have := HK2.out; omega⟩, ⟨by (with_reducible repeat (first | refine aT ?_ _ | refine aQ ?_ | refine aN ?_ _)); exact BK222.out⟩, ⟨by repeat (first | (with_reducible first | exact HB.out | apply aJ | apply aE | apply aH | refine aG ?_ GE222.out) | exact HB.out)⟩⟩
        ·rw [if_neg c15] at H
         exact absurd H (by simp)
       ·rw [if_neg c14] at H
        exact absurd H (by simp)
      ·rw [if_neg c13] at H
       have c13b0 : decide (x27_2 < (l0_0.length : Int)) = false := decide_eq_false c13
       clear c13
       have H' := aC.mk H
       clear H
       have hcz17_0 : wr.cell? ⟨gb222, 0, none⟩ = some (.slice A0_0 l0_0.length c0_0) := (aD BK222.out 0).trans rfl
       have hcz17_1 : wr.cell? ⟨gb222, 1, none⟩ = some (.slice A0_1 l0_1.length c0_1) := (aD BK222.out 1).trans rfl
       have hcz17_2 : wr.cell? ⟨gb222, 2, none⟩ = some (.int .i64 a0_2) := (aD BK222.out 2).trans rfl
       have hcz17_3 : wr.cell? ⟨gb222, 3, none⟩ = some (.bool a0_3) := (aD BK222.out 3).trans rfl
       have hfz17_0 := aA BK222.out 0
       have hfz17_1 := aA BK222.out 1
       have hfz17_2 := aA BK222.out 2
       have hfz17_3 := aA BK222.out 3
       go_wp2
       go_loopg [38] k2 (fun kq v38 w' => ∃ (x38_3 : Int), v38 = .int .i64 x38_3 ∧ aC (impl_DevOk.l1 kq l0_1 (l0_1.length : Int) x38_3 l0_0 l0_1 a0_2 a0_3 = some r) ∧ aC (kq ≤ k2) ∧ aC (w'.heap[gb222]? = some (.cells #[(.slice A0_0 l0_0.length c0_0), (.slice A0_1 l0_1.length c0_1), .int .i64 a0_2, .bool a0_3] 25 (0, 0))) ∧ aC (Below w.heap.size w w'))
       case atStart => exact ⟨(0), (by first | rfl | (simp; done) | (simp [*]; done)), H', ⟨Nat.le_refl _⟩, ⟨by (with_reducible repeat (first | refine aT ?_ _ | refine aQ ?_ | refine aN ?_ _)); exact BK222.out⟩, ⟨by repeat (first | (with_reducible first | exact HB.out | apply aJ | apply aE | apply aH | refine aG ?_ GE222.out) | exact HB.out)⟩⟩
       case round =>
        clear H'
        try clear c1
        try clear c2
        try clear p2
        try clear q2
        try clear hx2
        try clear c4
        try clear c5
        try clear c6
        try clear c6b0
        try clear c6b1
        try clear p6
        try clear c11
        try clear c13
        try clear c13b0
        try clear c14
        try clear c14b0
        try clear c15
        try clear c15b0
        try clear c16
        try clear c16b0
        try clear c16b1
        try clear hcz10_0
        try clear hcz10_1
        try clear hcz10_2
        try clear hcz10_3
        try clear hcz12_0
        try clear hcz12_1
        try clear hcz12_2
        try clear hcz12_3
        try clear hcz17_0
        try clear hcz17_1
        try clear hcz17_2
        try clear hcz17_3
        try clear hcz7_0
        try clear hcz7_1
        try clear hcz7_2
        try clear hcz7_3
        try clear hcz9_0
        try clear hcz9_1
        try clear hcz9_2
        try clear hcz9_3
        try clear hfz10_0
        try clear hfz10_1
        try clear hfz10_2
        try clear hfz10_3
        try clear hfz12_0
        try clear hfz12_1
        try clear hfz12_2
        try clear hfz12_3
        try clear hfz17_0
        try clear hfz17_1
        try clear hfz17_2
        try clear hfz17_3
        try clear hfz7_0
        try clear hfz7_1
        try clear hfz7_2
        try clear hfz7_3
        try clear hfz9_0
        try clear hfz9_1
        try clear hfz9_2
        try clear hfz9_3
        try clear hx225_0
        try clear p2
        try clear p225
        try clear q225
        obtain ⟨x38_3, rfl, HA, HK3, BK222, HB⟩ := hrel
        cases gk with
        | zero => exact absurd HA.out (by simp [impl_DevOk.l1])
        | succ k3 =>
         have H := HA.out
         clear HA
         simp only [impl_DevOk.l1] at H
         by_cases c18 : x38_3 < (l0_1.length : Int)
         ·rw [if_pos c18] at H
          have c18b0 : decide (x38_3 < (l0_1.length : Int)) = true := decide_eq_true c18
          clear c18
          by_cases c19 : 0 ≤ x38_3
          ·rw [if_pos c19] at H
           have c19b0 : decide (0 ≤ x38_3) = true := decide_eq_true c19
           clear c19
           by_cases c20 : x38_3 < (l0_1.length : Int)
           ·rw [if_pos c20] at H
            have c20b0 : decide (x38_3 < (l0_1.length : Int)) = true := decide_eq_true c20
            clear c20
            replace H := lF H
            obtain ⟨t228, A210, H⟩ := H
            replace H : (if t228 = true then (if (((rd_T50 l0_1 x38_3).f1).length : Int) > 80 then (some false) else (impl_DevOk.l1 k3 l0_1 (l0_1.length : Int) (wrap64 (x38_3 + 1)) l0_0 l0_1 a0_2 a0_3)) else (some false)) = some r := H
            have A21 := aC.mk A210
            clear A210
            by_cases c22 : t228 = true
            ·subst c22
             have H1 : (if (((rd_T50 l0_1 x38_3).f1).length : Int) > 80 then (some false) else (impl_DevOk.l1 k3 l0_1 (l0_1.length : Int) (wrap64 (x38_3 + 1)) l0_0 l0_1 a0_2 a0_3)) = some r := by rw [if_pos rfl] at H; exact H
             clear H
             have H := H1
             clear H1
             by_cases c23 : (((rd_T50 l0_1 x38_3).f1).length : Int) > 80
             ·rw [if_pos c23] at H
              have c23b0 : decide (80 < (((rd_T50 l0_1 x38_3).f1).length : Int)) = true := decide_eq_true c23
              have c23b1 : decide (80 < ((rd_T50 l0_1 x38_3).f1).length) = true := decide_eq_true (by omega)
              clear c23
              obtain rfl := Option.some.inj H
              have p226 : 0 ≤ (x38_3 : Int) := lE (by first | (with_reducible assumption) | assumption)
              have q226 : x38_3 < (l0_1.length : Int) := lE (by first | (with_reducible assumption) | assumption)
              obtain ⟨ad226, A226_1, c226_1, e226, hx226_0, hx226_1, hl226_1, hi226_1⟩ := at_T50 HR0_1.out x38_3 p226 q226
              cases e226
              replace hx226_0 := (HB.out.cell (lD w _ hx226_0)).trans hx226_0
              replace hx226_1 := (HB.out.cell (lD w _ hx226_1)).trans hx226_1
              have HR226_1 := aC.mk hi226_1
              have HC226_1 := aC.mk hl226_1
              clear hi226_1 hl226_1
              replace p226 := eq_true p226
              replace q226 := eq_true q226
              go_wp2_with (first | ((with_reducible refine bC (N := 6) rfl ?_); (try (refine gate_guard (by rfl) ?_; dsimp only)); refine bB ?hg (N := 6) ?hd (cs := #[.int .i64 0, .slice none 0 0]) (t := 50) ?hr ?_; (case hd => rfl); (case hg => rfl); (case hr => first | (go_simp; done) | (go_simp; rfl)); intro gb227 hg w24 hbox hb; have n0_ := aC.mk (aM (g := gb222) (o := .cells #[.slice A0_0 l0_0.length c0_0, .slice (some ad226) l0_1.length c0_1, .int .i64 a0_2, .bool a0_3] 25 (0, 0)) (by (with_reducible repeat (first | refine aT ?_ _ | refine aQ ?_ | refine aN ?_ _)); exact BK222.out) hb); have n1_ := aC.mk (aV (by repeat (first | (with_reducible first | exact HB.out | apply aJ | apply aE | apply aH | refine aG ?_ GE222.out) | exact HB.out)) hb); have n2_ := aC.mk (hbox); have n3_ := aC.mk ((by rw [hg]; exact (aW (by repeat (first | (with_reducible first | exact HB.out | apply aJ | apply aE | apply aH | refine aG ?_ GE222.out) | exact HB.out))) : w.heap.size ≤ gb227)); have n4_ := aC.mk ((by rw [hg]; exact (aW (by repeat (first | (with_reducible first | exact HB.out | apply aJ | apply aE | apply aH | refine aG ?_ GE222.out) | exact HB.out))) : w.heap.size ≤ gb227)); have n5_ := aC.mk ((by rw [hg]; exact Nat.ne_of_lt (bG (g := gb222) (o := .cells #[.slice A0_0 l0_0.length c0_0, .slice (some ad226) l0_1.length c0_1, .int .i64 a0_2, .bool a0_3] 25 (0, 0)) (by (with_reducible repeat (first | refine aT ?_ _ | refine aQ ?_ | refine aN ?_ _)); exact BK222.out)) : gb222 ≠ gb227)); have n6_ := aC.mk ((by rw [hg]; exact Nat.ne_of_gt (bG (g := gb222) (o := .cells #[.slice A0_0 l0_0.length c0_0, .slice (some ad226) l0_1.length c0_1, .int .i64 a0_2, .bool a0_3] 25 (0, 0)) (by (with_reducible repeat (first | refine aT ?_ _ | refine aQ ?_ | refine aN ?_ _)); exact BK222.out)) : gb227 ≠ gb222)); clear BK222; clear HB; have BK222 := n0_; have HB := n1_; have BK227 := n2_; have GW227 := n3_; have GE227 := n4_; have NB222_227 := n5_; have NB227_222 := n6_; clear n0_ n1_ n2_ n3_ n4_ n5_ n6_; clear hb hbox hg; have hnb25 := NB227_222.out; have hnc25 := NB222_227.out; have hcz26_0 : w24.cell? ⟨gb227, 0, none⟩ = some (.int .i64 0) := (aD BK227.out 0).trans rfl; have hcz26_1 : w24.cell? ⟨gb227, 1, none⟩ = some (.slice none 0 0) := (aD BK227.out 1).trans rfl; have hfz26_0 := aA BK227.out 0; have hfz26_1 := aA BK227.out 1; have hcz27_0 : w24.cell? ⟨gb222, 0, none⟩ = some (.slice A0_0 l0_0.length c0_0) := (aD BK222.out 0).trans rfl; have hcz27_1 : w24.cell? ⟨gb222, 1, none⟩ = some (.slice (some ad226) l0_1.length c0_1) := (aD BK222.out 1).trans rfl; have hcz27_2 : w24.cell? ⟨gb222, 2, none⟩ = some (.int .i64 a0_2) := (aD BK222.out 2).trans rfl; have hcz27_3 : w24.cell? ⟨gb222, 3, none⟩ = some (.bool a0_3) := (aD BK222.out 3).trans rfl; have hfz27_0 := aA BK222.out 0; have hfz27_1 := aA BK222.out 1; have hfz27_2 := aA BK222.out 2; have hfz27_3 := aA BK222.out 3) | ((with_reducible refine aY (f := 44) rfl ?_); refine bJ (some 48) rfl rfl Try.func44 (by kernel_rfl) rfl #[.int .i64 ((rd_T50 l0_1 x38_3).f0), .int .i64 0, .int .i64 (wrap64 ((l0_0.length : Int) - 1))] rfl (by (try simp only [List.map_toArray, List.map_cons, List.map_nil]); first | done | rfl | (simp only [List.length_drop, List.length_take]; rfl)) ?_; (with_reducible refine (impl_within.calls ((rd_T50 l0_1 x38_3).f0) 0 (wrap64 ((l0_0.length : Int) - 1)) true _ A21.out).mono ?_); rintro e w' ⟨rfl, ⟨nd, rfl⟩⟩; refine ⟨_, rfl, ?_⟩))
              go_ret
              exact ⟨by first | rfl | (simp [errW_none, errW_some] <;> rfl) | (simp [*, errW_none, errW_some] <;> rfl), by repeat (first | (with_reducible first | exact HB.out | apply aJ | apply aE | apply aH | refine aG ?_ GE222.out | refine aG ?_ GE227.out) | exact HB.out)⟩
             ·rw [if_neg c23] at H
              have c23b0 : decide (80 < (((rd_T50 l0_1 x38_3).f1).length : Int)) = false := decide_eq_false c23
              have c23b1 : decide (80 < ((rd_T50 l0_1 x38_3).f1).length) = false := decide_eq_false (by omega)
              clear c23
              have H' := aC.mk H
              clear H
              have p226 : 0 ≤ (x38_3 : Int) := lE (by first | (with_reducible assumption) | assumption)
              have q226 : x38_3 < (l0_1.length : Int) := lE (by first | (with_reducible assumption) | assumption)
              obtain ⟨ad226, A226_1, c226_1, e226, hx226_0, hx226_1, hl226_1, hi226_1⟩ := at_T50 HR0_1.out x38_3 p226 q226
              cases e226
              replace hx226_0 := (HB.out.cell (lD w _ hx226_0)).trans hx226_0
              replace hx226_1 := (HB.out.cell (lD w _ hx226_1)).trans hx226_1
              have HR226_1 := aC.mk hi226_1
              have HC226_1 := aC.mk hl226_1
              clear hi226_1 hl226_1
              replace p226 := eq_true p226
              replace q226 := eq_true q226
              go_wp2_with (first | ((with_reducible refine bC (N := 6) rfl ?_); (try (refine gate_guard (by rfl) ?_; dsimp only)); refine bB ?hg (N := 6) ?hd (cs := #[.int .i64 0, .slice none 0 0]) (t := 50) ?hr ?_; (case hd => rfl); (case hg => rfl); (case hr => first | (go_simp; done) | (go_simp; rfl)); intro gb227 hg w28 hbox hb; have n0_ := aC.mk (aM (g := gb222) (o := .cells #[.slice A0_0 l0_0.length c0_0, .slice (some ad226) l0_1.length c0_1, .int .i64 a0_2, .bool a0_3] 25 (0, 0)) (by (with_reducible repeat (first | refine aT ?_ _ | refine aQ ?_ | refine aN ?_ _)); exact BK222.out) hb); have n1_ := aC.mk (aV (by repeat (first | (with_reducible first | exact HB.out | apply aJ | apply aE | apply aH | refine aG ?_ GE222.out) | exact HB.out)) hb); have n2_ := aC.mk (hbox); have n3_ := aC.mk ((by rw [hg]; exact (aW (by repeat (first | (with_reducible first | exact HB.out | apply aJ | apply aE | apply aH | refine aG ?_ GE222.out) | exact HB.out))) : w.heap.size ≤ gb227)); have n4_ := aC.mk ((by rw [hg]; exact (aW (by repeat (first | (with_reducible first | exact HB.out | apply aJ | apply aE | apply aH | refine aG ?_ GE222.out) | exact HB.out))) : w.heap.size ≤ gb227)); have n5_ := aC.mk ((by rw [hg]; exact Nat.ne_of_lt (bG (g := gb222) (o := .cells #[.slice A0_0 l0_0.length c0_0, .slice (some ad226) l0_1.length c0_1, .int .i64 a0_2, .bool a0_3] 25 (0, 0)) (by (with_reducible repeat (first | refine aT ?_ _ | refine aQ ?_ | refine aN ?_ _)); exact BK222.out)) : gb222 ≠ gb227)); have n6_ := aC.mk ((by rw [hg]; exact Nat.ne_of_gt (bG (g := gb222) (o := .cells #[.slice A0_0 l0_0.length c0_0, .slice (some ad226) l0_1.length c0_1, .int .i64 a0_2, .bool a0_3] 25 (0, 0)) (by (with_reducible repeat (first | refine aT ?_ _ | refine aQ ?_ | refine aN ?_ _)); exact BK222.out)) : gb227 ≠ gb222)); clear BK222; clear HB; have BK222 := n0_; have HB := n1_; have BK227 := n2_; have GW227 := n3_; have GE227 := n4_; have NB222_227 := n5_; have NB227_222 := n6_; clear n0_ n1_ n2_ n3_ n4_ n5_ n6_; clear hb hbox hg; have hnb29 := NB227_222.out; have hnc29 := NB222_227.out; have hcz30_0 : w28.cell? ⟨gb227, 0, none⟩ = some (.int .i64 0) := (aD BK227.out 0).trans rfl; have hcz30_1 : w28.cell? ⟨gb227, 1, none⟩ = some (.slice none 0 0) := (aD BK227.out 1).trans rfl; have hfz30_0 := aA BK227.out 0; have hfz30_1 := aA BK227.out 1; have hcz31_0 : w28.cell? ⟨gb222, 0, none⟩ = some (.slice A0_0 l0_0.length c0_0) := (aD BK222.out 0).trans rfl; have hcz31_1 : w28.cell? ⟨gb222, 1, none⟩ = some (.slice (some ad226) l0_1.length c0_1) := (aD BK222.out 1).trans rfl; have hcz31_2 : w28.cell? ⟨gb222, 2, none⟩ = some (.int .i64 a0_2) := (aD BK222.out 2).trans rfl; have hcz31_3 : w28.cell? ⟨gb222, 3, none⟩ = some (.bool a0_3) := (aD BK222.out 3).trans rfl; have hfz31_0 := aA BK222.out 0; have hfz31_1 := aA BK222.out 1; have hfz31_2 := aA BK222.out 2; have hfz31_3 := aA BK222.out 3) | ((with_reducible refine aY (f := 44) rfl ?_); refine bJ (some 48) rfl rfl Try.func44 (by kernel_rfl) rfl #[.int .i64 ((rd_T50 l0_1 x38_3).f0), .int .i64 0, .int .i64 (wrap64 ((l0_0.length : Int) - 1))] rfl (by (try simp only [List.map_toArray, List.map_cons, List.map_nil]); first | done | rfl | (simp only [List.length_drop, List.length_take]; rfl)) ?_; (with_reducible refine (impl_within.calls ((rd_T50 l0_1 x38_3).f0) 0 (wrap64 ((l0_0.length : Int) - 1)) true _ A21.out).mono ?_); rintro e w' ⟨rfl, ⟨nd, rfl⟩⟩; refine ⟨_, rfl, ?_⟩))
              go_roundg k3
              case measure => have := HJ1.out; have := HK2.out; have := HK3.out; omega
              case rel => exact ⟨(wrap64 (x38_3 + 1)), (by first | rfl | (simp; done) | (simp [*]; done)), H', ⟨by have := HJ1.out; have := HK2.out; have := HK3.out; omega⟩, ⟨by (with_reducible repeat (first | refine aT ?_ _ | refine aQ ?_ | refine aN ?_ _)); refine blk_far ?_ NB222_227.out _; (with_reducible repeat (first | refine aT ?_ _ | refine aQ ?_ | refine aN ?_ _)); refine blk_far ?_ NB222_227.out _; (with_reducible repeat (first | refine aT ?_ _ | refine aQ ?_ | refine aN ?_ _)); exact BK222.out⟩, ⟨by repeat (first | (with_reducible first | exact HB.out | apply aJ | apply aE | apply aH | refine aG ?_ GE222.out | refine aG ?_ GE227.out) | exact HB.out)⟩⟩
            ·replace c22 := Bool.eq_false_iff.mpr c22
             subst c22
             have H1 : (some false) = some r := by rw [if_neg (show ¬ (false = true) by decide)] at H; exact H
             clear H
             have H := H1
             clear H1
             obtain rfl := Option.some.inj H
             have p226 : 0 ≤ (x38_3 : Int) := lE (by first | (with_reducible assumption) | assumption)
             have q226 : x38_3 < (l0_1.length : Int) := lE (by first | (with_reducible assumption) | assumption)
             obtain ⟨ad226, A226_1, c226_1, e226, hx226_0, hx226_1, hl226_1, hi226_1⟩ := at_T50 HR0_1.out x38_3 p226 q226
             cases e226
             replace hx226_0 := (HB.out.cell (lD w _ hx226_0)).trans hx226_0
             replace hx226_1 := (HB.out.cell (lD w _ hx226_1)).trans hx226_1
             have HR226_1 := aC.mk hi226_1
             have HC226_1 := aC.mk hl226_1
             clear hi226_1 hl226_1
             replace p226 := eq_true p226
             replace q226 := eq_true q226
             go_wp2_with (first | ((with_reducible refine bC (N := 6) rfl ?_); (try (refine gate_guard (by rfl) ?_; dsimp only)); refine bB ?hg (N := 6) ?hd (cs := #[.int .i64 0, .slice none 0 0]) (t := 50) ?hr ?_; (case hd => rfl); (case hg => rfl); (case hr => first | (go_simp; done) | (go_simp; rfl)); intro gb227 hg w32 hbox hb; have n0_ := aC.mk (aM (g := gb222) (o := .cells #[.slice A0_0 l0_0.length c0_0, .slice (some ad226) l0_1.length c0_1, .int .i64 a0_2, .bool a0_3] 25 (0, 0)) (by (with_reducible repeat (first | refine aT ?_ _ | refine aQ ?_ | refine aN ?_ _)); exact BK222.out) hb); have n1_ := aC.mk (aV (by repeat (first | (with_reducible first | exact HB.out | apply aJ | apply aE | apply aH | refine aG ?_ GE222.out) | exact HB.out)) hb); have n2_ := aC.mk (hbox); have n3_ := aC.mk ((by rw [hg]; exact (aW (by repeat (first | (with_reducible first | exact HB.out | apply aJ | apply aE | apply aH | refine aG ?_ GE222.out) | exact HB.out))) : w.heap.size ≤ gb227)); have n4_ := aC.mk ((by rw [hg]; exact (aW (by repeat (first | (with_reducible first | exact HB.out | apply aJ | apply aE | apply aH | refine aG ?_ GE222.out) | exact HB.out))) : w.heap.size ≤ gb227)); have n5_ := aC.mk ((by rw [hg]; exact Nat.ne_of_lt (bG (g := gb222) (o := .cells #[.slice A0_0 l0_0.length c0_0, .slice (some ad226) l0_1.length c0_1, .int .i64 a0_2, .bool a0_3] 25 (0, 0)) (by (with_reducible repeat (first | refine aT ?_ _ | refine aQ ?_ | refine aN ?_ _)); exact BK222.out)) : gb222 ≠ gb227)); have n6_ := aC.mk ((by rw [hg]; exact Nat.ne_of_gt (bG (g := gb222) (o := .cells #[.slice A0_0 l0_0.length c0_0, .slice (some ad226) l0_1.length c0_1, .int .i64 a0_2, .bool a0_3] 25 (0, 0)) (by (with_reducible repeat (first | refine aT ?_ _ | refine aQ ?_ | refine aN ?_ _)); exact BK222.out)) : gb227 ≠ gb222)); clear BK222; clear HB; have BK222 := n0_; have HB := n1_; have BK227 := n2_; have GW227 := n3_; have GE227 := n4_; have NB222_227 := n5_; have NB227_222 := n6_; clear n0_ n1_ n2_ n3_ n4_ n5_ n6_; clear hb hbox hg; have hnb33 := NB227_222.out; have hnc33 := NB222_227.out; have hcz34_0 : w32.cell? ⟨gb227, 0, none⟩ = some (.int .i64 0) := (aD BK227.out 0).trans rfl; have hcz34_1 : w32.cell? ⟨gb227, 1, none⟩ = some (.slice none 0 0) := (aD BK227.out 1).trans rfl; have hfz34_0 := aA BK227.out 0; have hfz34_1 := aA BK227.out 1; have hcz35_0 : w32.cell? ⟨gb222, 0, none⟩ = some (.slice A0_0 l0_0.length c0_0) := (aD BK222.out 0).trans rfl; have hcz35_1 : w32.cell? ⟨gb222, 1, none⟩ = some (.slice (some ad226) l0_1.length c0_1) := (aD BK222.out 1).trans rfl; have hcz35_2 : w32.cell? ⟨gb222, 2, none⟩ = some (.int .i64 a0_2) := (aD BK222.out 2).trans rfl; have hcz35_3 : w32.cell? ⟨gb222, 3, none⟩ = some (.bool a0_3) := (aD BK222.out 3).trans rfl; have hfz35_0 := aA BK222.out 0; have hfz35_1 := aA BK222.out 1; have hfz35_2 := aA BK222.out 2; have hfz35_3 := aA BK222.out 3) | ((with_reducible refine aY (f := 44) rfl ?_); refine bJ (some 48) rfl rfl Try.func44 (by kernel_rfl) rfl #[.int .i64 ((rd_T50 l0_1 x38_3).f0), .int .i64 0, .int .i64 (wrap64 ((l0_0.length : Int) - 1))] rfl (by (try simp only [List.map_toArray, List.map_cons, List.map_nil]); first | done | rfl | (simp only [List.length_drop, List.length_take]; rfl)) ?_; (with_reducible refine (impl_within.calls ((rd_T50 l0_1 x38_3).f0) 0 (wrap64 ((l0_0.length : Int) - 1)) false _ A21.out).mono ?_); rintro e w' ⟨rfl, ⟨nd, rfl⟩⟩; refine ⟨_, rfl, ?_⟩))
             go_ret
             exact ⟨by first | rfl | (simp [errW_none, errW_some] <;> rfl) | (simp [*, errW_none, errW_some] <;> rfl), by repeat (first | (with_reducible first | exact HB.out | apply aJ | apply aE | apply aH | refine aG ?_ GE222.out | refine aG ?_ GE227.out) | exact HB.out)⟩
           ·rw [if_neg c20] at H
            exact absurd H (by simp)
          ·rw [if_neg c19] at H
           exact absurd H (by simp)
         ·rw [if_neg c18] at H
          have c18b0 : decide (x38_3 < (l0_1.length : Int)) = false := decide_eq_false c18
          clear c18
          obtain rfl := Option.some.inj H
          go_wp2
          go_ret
          exact ⟨by first | rfl | (simp [errW_none, errW_some] <;> rfl) | (simp [*, errW_none, errW_some] <;> rfl), by repeat (first | (with_reducible first | exact HB.out | apply aJ | apply aE | apply aH | refine aG ?_ GE222.out) | exact HB.out)⟩
def impl_joined.l0 : Nat → List Int → List (List Int) → Int → Int → Option (List Int)
 | 0, _, _, _, _ => none
 | k + 1, x3, x7, x8, x9 => if x9 < x8 then (if 0 ≤ x9 then (if x9 < (x7.length : Int) then (if x3.length + (rd_L1 x7 x9).length < 140737488355328 then (impl_joined.l0 k (x3 ++ (rd_L1 x7 x9)) x7 x8 (wrap64 (x9 + 1))) else (none)) else (none)) else (none)) else (some x3)
def impl_joined.f (k : Nat) (l0 : List (List Int)) : Option (List Int) := impl_joined.l0 k (([] : List Int)) l0 (l0.length : Int) 0
set_option maxHeartbeats 8000000 in
set_option maxRecDepth 100000 in
theorem impl_joined.calls (k : Nat) (A0 : Option Addr) (c0 : Nat) (l0 : List (List Int)) (r : List Int) (w : World) (hr0 : Kd.C (Kd.slice 5 (Kd.int .u8)) w A0 l0.length l0) (hc0 : l0.length ≤ c0) (h : impl_joined.f k l0 = some r) :
  Calls Try.prog 55 #[.slice A0 l0.length c0] w fun e w' => ∃ v0_ : Value, e = .returned (v0_) ∧ Kd.R (Kd.int .u8) 5 w' w.heap.size (fun _ => True) v0_ r ∧ Below w.heap.size w w' := by
 have HR0 := aC.mk hr0
 have HC0 := aC.mk hc0
 clear hr0 hc0
 have HB := aC.mk (Below.refl w.heap.size w)
 have H : (impl_joined.l0 k (([] : List Int)) l0 (l0.length : Int) 0) = some r := h
 clear h
 obtain ⟨y229, hy229⟩ : ∃ y_ : List Int, y_ = (([] : List Int)) := ⟨_, rfl⟩
 replace H : (impl_joined.l0 k y229 l0 (l0.length : Int) 0) = some r := by first | (rw [hy229]; with_reducible exact H) | (have H2_ := (Option.bind_some _ _).symm.trans H; rw [hy229]; with_reducible exact H2_) | (have H2_ := (Option.bind_some _ _).symm.trans H; with_reducible exact H2_) | with_reducible exact H | (rw [hy229]; exact H) | exact H
 have Ny229 := aC.mk hy229
 clear hy229
 have H' := aC.mk H
 clear H
 go_enter Try.func55, Try.ntmps55
 go_wp2_with (first | ((with_reducible refine bC (N := 6) rfl ?_); refine Kd.R_lit (Kd.int .u8) _ 5 ?hg (N := 6) ?hd (xs := ([] : List Int)) (inner := []) (ok := fun _ => True) (okp := fun _ => True) ?hr ?hp (fun _ hk => hk) trivial (Below.refl _ _) (Nat.le_refl _) (by simp) ?_; (case hd => rfl); (case hg => rfl); (case hr => first | (go_simp; done) | (go_simp; rfl)); (case hp => exact (Reps.none _ _)); intro v230 w2 ho3 hb hg_ hnew_; clear hg_ hnew_; (first | rw [← Ny229.out] at ho3 | (simp only [Int.reduceToNat] at ho3; rw [← Ny229.out] at ho3)); have n0_ := aC.mk (Kd.R_lower ho3 (aW (by repeat (first | (with_reducible first | exact HB.out | apply aJ | apply aE | apply aH) | exact HB.out)))); have n1_ := aC.mk (aV (by repeat (first | (with_reducible first | exact HB.out | apply aJ | apply aE | apply aH) | exact HB.out)) hb); clear HB; have HO231 := n0_; have HB := n1_; clear n0_ n1_; clear hb ho3))
 go_loopg [3, 9] k (fun kq v3 v9 w' => ∃ (x3_1 : List Int) (x9_1 : Int), v9 = .int .i64 x9_1 ∧ aC (impl_joined.l0 kq x3_1 l0 (l0.length : Int) x9_1 = some r) ∧ aC (kq ≤ k) ∧ aC (Kd.R (Kd.int .u8) 5 w' w.heap.size (fun _ => True) v3 x3_1) ∧ aC (Below w.heap.size w w'))
 case atStart => exact ⟨(y229), (0), (by first | rfl | (simp; done) | (simp [*]; done)), H', ⟨Nat.le_refl _⟩, ⟨by (with_reducible repeat (first | apply Kd.R_alloc | apply Kd.R_drewN | apply Kd.R_drew)); exact HO231.out⟩, ⟨by repeat (first | (with_reducible first | exact HB.out | apply aJ | apply aE | apply aH) | exact HB.out)⟩⟩
 case round =>
  clear H'
  try clear p2
  obtain ⟨x3_1, x9_1, rfl, HA, HK1, HO_3, HB⟩ := hrel
  cases gk with
  | zero => exact absurd HA.out (by simp [impl_joined.l0])
  | succ k1 =>
   have H := HA.out
   clear HA
   simp only [impl_joined.l0] at H
   by_cases c4 : x9_1 < (l0.length : Int)
   ·rw [if_pos c4] at H
    have c4b0 : decide (x9_1 < (l0.length : Int)) = true := decide_eq_true c4
    clear c4
    by_cases c5 : 0 ≤ x9_1
    ·rw [if_pos c5] at H
     have c5b0 : decide (0 ≤ x9_1) = true := decide_eq_true c5
     clear c5
     by_cases c6 : x9_1 < (l0.length : Int)
     ·rw [if_pos c6] at H
      have c6b0 : decide (x9_1 < (l0.length : Int)) = true := decide_eq_true c6
      clear c6
      by_cases c7 : x3_1.length + (rd_L1 l0 x9_1).length < 140737488355328
      ·rw [if_pos c7] at H
       have LMc7 := aC.mk c7
       clear c7
       obtain ⟨y233, hy233⟩ : ∃ y_ : List Int, y_ = (x3_1 ++ (rd_L1 l0 x9_1)) := ⟨_, rfl⟩
       replace H : (impl_joined.l0 k1 y233 l0 (l0.length : Int) (wrap64 (x9_1 + 1))) = some r := by first | (rw [hy233]; with_reducible exact H) | (have H2_ := (Option.bind_some _ _).symm.trans H; rw [hy233]; with_reducible exact H2_) | (have H2_ := (Option.bind_some _ _).symm.trans H; with_reducible exact H2_) | with_reducible exact H | (rw [hy233]; exact H) | exact H
       have Ny233 := aC.mk hy233
       clear hy233
       have H' := aC.mk H
       clear H
       have p232 : 0 ≤ (x9_1 : Int) := lE (by first | (with_reducible assumption) | assumption)
       have q232 : x9_1 < (l0.length : Int) := lE (by first | (with_reducible assumption) | assumption)
       obtain ⟨ad232, A232_0, c232_0, e232, hx232_0, hl232_0, hi232_0⟩ := at_L1 HR0.out x9_1 p232 q232
       cases e232
       replace hx232_0 := (HB.out.cell (lD w _ hx232_0)).trans hx232_0
       have HR232_0 := aC.mk hi232_0
       have HC232_0 := aC.mk hl232_0
       clear hi232_0 hl232_0
       replace p232 := eq_true p232
       replace q232 := eq_true q232
       go_wp2_with (first | ((with_reducible refine gate_builtin (b := .append) (xs := #[.tmp 13, .tmp 14]) rfl ?_); at_builtin; refine Kd.R_append_rows (Kd.int .u8) (w0 := w) w.heap.size rfl (.tmp 13) (.tmp 14) 37 5 (.int .u8 0) 1 rfl Try.underlying37 info5 rfl (by decide) (by omega) u3 x3_1 (rd_L1 l0 x9_1) _ _ _ (fun _ => True) (fun _ => False) rfl rfl ?aO ?aR (fun _ _ h => h) (fun _ h => h.elim) ?aF ?aB ?aS ?aL ?_; (case aR => repeat (first | exact (Kd.bL HR232_0.out HB.out) | (with_reducible refine Kd.bN ?_ _) | (with_reducible refine Kd.bM ?_ _) | (with_reducible refine Kd.bQ ?_))); (case aB => exact (by repeat (first | (with_reducible first | exact HB.out | apply aJ | apply aE | apply aH) | exact HB.out))); (case aF => exact (fun _ _ => trivial)); (case aO => exact (by (with_reducible repeat (first | apply Kd.R_alloc | apply Kd.R_drewN | apply Kd.R_drew)); exact HO_3.out)); (case aS => exact (aW (by repeat (first | (with_reducible first | exact HB.out | apply aJ | apply aE | apply aH) | exact HB.out)))); (case aL => have := LMc7.out; omega); intro v234 w8 ho hb hg hat; rw [← Ny233.out] at ho; have n0_ := aC.mk (hb); have n1_ := aC.mk (ho); clear HB; clear HO_3; have HB := n0_; have HO235 := n1_; clear n0_ n1_; clear ho hb hg hat))
       go_roundg k1
       case measure => have := HK1.out; omega
       case rel => exact ⟨(y233), (wrap64 (x9_1 + 1)), (by first | rfl | (simp; done) | (simp [*]; done)), H', ⟨by have := HK1.out; omega⟩, ⟨by (with_reducible repeat (first | apply Kd.R_alloc | apply Kd.R_drewN | apply Kd.R_drew)); exact HO235.out⟩, ⟨by repeat (first | (with_reducible first | exact HB.out | apply aJ | apply aE | apply aH) | exact HB.out)⟩⟩
      ·rw [if_neg c7] at H
       exact absurd H (by simp)
     ·rw [if_neg c6] at H
      exact absurd H (by simp)
    ·rw [if_neg c5] at H
     exact absurd H (by simp)
   ·rw [if_neg c4] at H
    have c4b0 : decide (x9_1 < (l0.length : Int)) = false := decide_eq_false c4
    clear c4
    obtain rfl := Option.some.inj H
    go_wp2
    go_ret
    exact ⟨_, by first | rfl | (simp [errW_none, errW_some] <;> rfl) | (simp [*, errW_none, errW_some] <;> rfl), by (with_reducible repeat (first | apply Kd.R_alloc | apply Kd.R_drewN | apply Kd.R_drew)); exact HO_3.out, by repeat (first | (with_reducible first | exact HB.out | apply aJ | apply aE | apply aH) | exact HB.out)⟩
end Go.Proofs.Ytilhcaofpfeioaa.PFnExactFlushDev

namespace Go.Proofs.Ytilhcaofpfeioaa.PFnExactFlushDev
open Go.RowKit Go.Proofs.YtilhcaofpfeioaaW.PrintWords Go.Proofs.YtilhcaofpfeioaaW.PrintLast Go.Proofs.YtilhcaofpfeioaaW.PrintMore
attribute [local go_sem] max2_int min2_int max_two min_two max_three min_three max_four min_four   -- for this text's walks alone
set_option linter.unusedVariables false
set_option linter.unusedSimpArgs false
mutual
def impl_copyDev.l0 : Nat → List (List Int) → Int → Int → List (List Int) → List (S50) → Int → Bool → List (List Int) → Int → Bool → Option ((List (List Int)) × (List (S50)) × Int × Bool)
 | 0, _, _, _, _, _, _, _, _, _, _ => none
 | k + 1, x14, x15, x16, x237000, x237001, x237002, x237003, x239000, x239002, x239003 => if x16 < x15 then (if 0 ≤ x16 then (if x16 < (x14.length : Int) then ((impl_joined.f k (([rd_L1 x14 x16] : List (List Int)))).bind fun t243 => (if x239000.length < 5864062014805 then (impl_copyDev.l0 k x14 x15 (wrap64 (x16 + 1)) x237000 x237001 x237002 x237003 (x239000 ++ [t243]) x239002 x239003) else (none))) else (none)) else (none)) else (impl_copyDev.l1 k x237001 (x237001.length : Int) 0 x239000 ([] : List (S50)) x239002 x239003)
def impl_copyDev.l1 : Nat → List (S50) → Int → Int → List (List Int) → List (S50) → Int → Bool → Option ((List (List Int)) × (List (S50)) × Int × Bool)
 | 0, _, _, _, _, _, _, _ => none
 | k + 1, x30, x31, x32, x239000, x239001, x239002, x239003 => if x32 < x31 then (if 0 ≤ x32 then (if x32 < (x30.length : Int) then ((impl_joined.f k (([(rd_T50 x30 x32).f1] : List (List Int)))).bind fun t254 => (if x239001.length < 4398046511104 then (impl_copyDev.l1 k x30 x31 (wrap64 (x32 + 1)) x239000 (x239001 ++ [(⟨(rd_T50 x30 x32).f0, t254⟩ : S50)]) x239002 x239003) else (none))) else (none)) else (none)) else (some (x239000, x239001, x239002, x239003))
end
def impl_copyDev.f (k : Nat) (l0_0 : List (List Int)) (l0_1 : List (S50)) (a0_2 : Int) (a0_3 : Bool) : Option ((List (List Int)) × (List (S50)) × Int × Bool) := impl_copyDev.l0 k l0_0 (l0_0.length : Int) 0 l0_0 l0_1 a0_2 a0_3 ([] : List (List Int)) a0_2 a0_3
def impl_copyDev.T5 : Bool × List (List Nat × List Nat) := (true, [([], []), ([0], [0]), ([], []), ([2], [2]), ([3], [3]), ([4], [4]), ([1, 5, 4], [1, 5]), ([0, 1, 2, 3, 4, 5, 6], []), ([7, 6, 6, 0, 1, 2, 3, 4, 5, 6], [6, 7])])
def impl_copyDev.B5 : List Nat := [0, 1, 0, 4, 12, 28, 63, 127, 255]
def impl_copyDev.T10 : Bool × List (List Nat × List Nat) := (true, [([], []), ([0], [0]), ([], []), ([2], [2]), ([], []), ([4], [4]), ([5], [5]), ([6], [6]), ([3, 7], [3, 7]), ([8], [8]), ([1, 9, 7], [1, 9]), ([0, 1, 2, 3, 4, 5, 6, 7, 8, 9, 10], []), ([11, 10, 10, 0, 1, 2, 3, 4, 5, 6, 7, 8, 9, 10], [10, 11])])
def impl_copyDev.B10 : List Nat := [0, 1, 0, 4, 0, 16, 48, 112, 252, 508, 1023, 2047, 4095]
end Go.Proofs.Ytilhcaofpfeioaa.PFnExactFlushDev

namespace Go.Proofs.Ytilhcaofpfeioaa.PFnExactFlushDev
open Go.RowKit Go.Proofs.YtilhcaofpfeioaaW.PrintWords Go.Proofs.YtilhcaofpfeioaaW.PrintLast Go.Proofs.YtilhcaofpfeioaaW.PrintMore
attribute [local go_sem] max2_int min2_int max_two min_two max_three min_three max_four min_four   -- for this text's walks alone
set_option linter.unusedVariables false
set_option linter.unusedSimpArgs false
def impl_burn.f (l0_0 : List (List Int)) (l0_1 : List (S50)) (a0_2 : Int) (a0_3 : Bool) : Option ((List (List Int)) × (List (S50)) × Int × Bool × Bool) := if a0_2 = 0 then (some (l0_0, l0_1, (-1), true, false)) else (if a0_2 > 0 then (some (l0_0, l0_1, wrap64 (a0_2 - 1), a0_3, true)) else (some (l0_0, l0_1, a0_2, a0_3, true)))
-- NOT PRINTED: function 30 (impl_FlushDev)
-- NOT PRINTED: function 7 (laws_FnExactFlushDev)
end Go.Proofs.Ytilhcaofpfeioaa.PFnExactFlushDev

namespace Go.Proofs.Ytilhcaofpfeioaa.Core
open Go.RowKit Go.Proofs.YtilhcaofpfeioaaW.PrintWords
theorem w64 {x : Int} (h0 : -9223372036854775808 ≤ x) (h1 : x ≤ 9223372036854775807) : wrap64 x = x := by unfold wrap64; omega
theorem w64s (n : Nat) (h : n ≤ 4611686018427387904) : wrap64 ((n : Int) + 1) = ((n + 1 : Nat) : Int) := by unfold wrap64; omega
theorem evOf {α : Type} {g : Nat → Option α} {r : α} (h : ∀ k, g k = some r) : Ev g r := ⟨0, fun k _ => h k⟩
theorem evGet {α : Type} {g : Nat → Option α} {r : α} (h : Ev g r) : ∃ k, g k = some r := by
 obtain ⟨K, h⟩ := h
 exact ⟨K, h K (Nat.le_refl _)⟩
theorem evSucc {α : Type} {g : Nat → Option α} {r : α} (h : ∃ K d, ∀ k, K ≤ k → g (k + d) = some r) : Ev g r := by
 obtain ⟨K, d, h⟩ := h
 refine ⟨K + d, fun k hk => ?_⟩
 obtain ⟨m, rfl⟩ : ∃ m, k = m + d := ⟨k - d, by omega⟩
 exact h m (by omega)
theorem evRange {σ ρ : Type} (n : Nat) (l : Nat → σ → Int → Option ρ) (Inv : Nat → σ → Prop) (M : Nat → σ → ρ)
  (step : ∀ i s, i < n → Inv i s → (∃ s', Inv (i + 1) s' ∧ M (i + 1) s' = M i s ∧ ∃ K d, ∀ k, K ≤ k → l (k + d) s (i : Int) = l k s' ((i + 1 : Nat) : Int)) ∨ (∃ K d, ∀ k, K ≤ k → l (k + d) s (i : Int) = some (M i s)))
  (done : ∀ s, Inv n s → ∃ K d, ∀ k, K ≤ k → l (k + d) s (n : Int) = some (M n s)) :
  ∀ i s, i ≤ n → Inv i s → Ev (fun k => l k s (i : Int)) (M i s) := by
 have key : ∀ d i s, n - i = d → i ≤ n → Inv i s → Ev (fun k => l k s (i : Int)) (M i s) := by
  intro d
  induction d with
  | zero =>
   intro i s hd hi hinv
   obtain rfl : i = n := by omega
   exact evSucc (done s hinv)
  | succ d ih =>
   intro i s hd hi hinv
   rcases step i s (by omega) hinv with ⟨s', hinv', hM, K, e, h⟩ | h
   ·obtain ⟨K', h'⟩ := ih (i + 1) s' (by omega) (by omega) hinv'
    refine evSucc ⟨K + K', e, fun k hk' => ?_⟩
    show l (k + e) s i = _
    rw [h k (by omega), ← hM]
    exact h' k (by omega)
   ·exact evSucc h
 exact fun i s hi => key _ i s rfl hi
theorem evRange0 {σ ρ : Type} (n : Nat) (l : Nat → σ → Int → Option ρ) (Inv : Nat → σ → Prop) (M : Nat → σ → ρ) (s : σ) (h0 : Inv 0 s)
  (step : ∀ i s, i < n → Inv i s → (∃ s', Inv (i + 1) s' ∧ M (i + 1) s' = M i s ∧ ∃ K d, ∀ k, K ≤ k → l (k + d) s (i : Int) = l k s' ((i + 1 : Nat) : Int)) ∨ (∃ K d, ∀ k, K ≤ k → l (k + d) s (i : Int) = some (M i s)))
  (done : ∀ s, Inv n s → ∃ K d, ∀ k, K ≤ k → l (k + d) s (n : Int) = some (M n s)) :
  Ev (fun k => l k s 0) (M 0 s) := evRange n l Inv M step done 0 s (Nat.zero_le _) h0
def allFrom (p : Nat → Bool) (n i : Nat) : Bool := (List.range' i (n - i)).all p
theorem allFrom_lt {p : Nat → Bool} {n i : Nat} (h : i < n) : allFrom p n i = (p i && allFrom p n (i + 1)) := by
 unfold allFrom
 rw [show n - i = (n - (i + 1)) + 1 by omega, List.range'_succ, List.all_cons]
theorem allFrom_end (p : Nat → Bool) (n : Nat) : allFrom p n n = true := by simp [allFrom]
theorem allFrom_iff {p : Nat → Bool} {n i : Nat} : allFrom p n i = true ↔ ∀ j, i ≤ j → j < n → p j = true := by
 simp only [allFrom, List.all_eq_true, List.mem_range'_1]
 constructor
 ·intro h j h1 h2; exact h j ⟨h1, by omega⟩
 ·intro h j hj; exact h j hj.1 (by omega)
theorem evAll (n : Nat) (l : Nat → Int → Option Bool) (p : Nat → Bool) (fin : Bool)
  (step : ∀ i, i < n → ∃ K d, ∀ k, K ≤ k → l (k + d) (i : Int) = if p i = true then l k ((i + 1 : Nat) : Int) else some false)
  (done : ∃ K d, ∀ k, K ≤ k → l (k + d) (n : Int) = some fin) (i : Nat) (hi : i ≤ n) : Ev (fun k => l k (i : Int)) (allFrom p n i && fin) := by
 refine evRange (σ := Unit) n (fun k _ i => l k i) (fun _ _ => True) (fun i _ => allFrom p n i && fin) ?_ ?_ i () hi trivial
 ·intro i _ hi _
  obtain ⟨K, d, h⟩ := step i hi
  cases hp : p i with
  | true => exact .inl ⟨(), trivial, by simp [allFrom_lt hi, hp], K, d, fun k hk => by simp only [h k hk, hp, if_true]⟩
  | false => exact .inr ⟨K, d, fun k hk => by simp only [h k hk, hp, allFrom_lt hi, Bool.false_and]; rfl⟩
 ·intro _ _
  obtain ⟨K, d, h⟩ := done
  exact ⟨K, d, fun k hk => by rw [h k hk, allFrom_end, Bool.true_and]⟩
def fill {β : Type} (c : Nat → β) (l : List β) (i : Nat) : List β := (List.range i).map c ++ l.drop i
theorem fill_zero {β : Type} (c : Nat → β) (l : List β) : fill c l 0 = l := by simp [fill]
theorem fill_length {β : Type} (c : Nat → β) (l : List β) (i : Nat) (h : i ≤ l.length) : (fill c l i).length = l.length := by simp [fill]; omega
theorem fill_all {β : Type} (c : Nat → β) (l : List β) : fill c l l.length = (List.range l.length).map c := by simp [fill]
theorem fill_getElem? {β : Type} (c : Nat → β) (l : List β) (i j : Nat) : (fill c l i)[j]? = if j < i then some (c j) else l[j]? := by
 unfold fill
 by_cases h : j < i
 ·rw [if_pos h, List.getElem?_append_left (by simpa using h)]; simp [h]
 ·rw [if_neg h, List.getElem?_append_right (by simp; omega), List.getElem?_drop]; simp; congr 1; omega
theorem fill_set {β : Type} (c : Nat → β) (l : List β) (i : Nat) (h : i < l.length) {v : β} (hv : v = c i) : (fill c l i).set i v = fill c l (i + 1) := by
 subst hv
 apply List.ext_getElem?
 intro j
 rw [List.getElem?_set, fill_getElem?, fill_getElem?, fill_length c l i (by omega)]
 by_cases e : i = j
 ·subst e; simp [h]
 ·rw [if_neg e]
  by_cases h1 : j < i
  ·rw [if_pos h1, if_pos (by omega)]
  ·rw [if_neg h1, if_neg (by omega)]
theorem range_getD {β : Type} (c : Nat → β) (n i : Nat) (z : β) (h : i < n) : ((List.range n).map c).getD i z = c i := by
 rw [List.getD_eq_getElem?_getD]; simp [h]
theorem range_map {α β : Type} (f : α → β) (l : List α) (z : α) : (List.range l.length).map (fun i => f (l.getD i z)) = l.map f := by
 apply List.ext_getElem?
 intro j
 by_cases h : j < l.length
 ·simp [h]
 ·simp [h]
theorem range_id {α : Type} (l : List α) (z : α) : (List.range l.length).map (fun i => l.getD i z) = l := by
 rw [range_map (fun x => x)]; simp
theorem drop_getD {α : Type} (l : List α) (i : Nat) (z : α) (h : i < l.length) : l.drop i = l.getD i z :: l.drop (i + 1) := by
 rw [List.drop_eq_getElem_cons h, List.getD_eq_getElem?_getD, List.getElem?_eq_getElem h]; rfl
theorem take_getD {α : Type} (l : List α) (i : Nat) (z : α) (h : i < l.length) : l.take (i + 1) = l.take i ++ [l.getD i z] := by
 rw [List.take_succ_eq_append_getElem h, List.getD_eq_getElem?_getD, List.getElem?_eq_getElem h]; rfl
theorem getD_mem {α : Type} (l : List α) (i : Nat) (z : α) (h : i < l.length) : l.getD i z ∈ l := by
 rw [List.getD_eq_getElem?_getD, List.getElem?_eq_getElem h]; exact List.getElem_mem h
theorem rd_nat (l : List Int) (i : Nat) : rd l (i : Int) = l.getD i 0 := by simp [rd]
end Go.Proofs.Ytilhcaofpfeioaa.Core

namespace Go.Proofs.Ytilhcaofpfeioaa.Core
open Go.RowKit Go.Proofs.YtilhcaofpfeioaaW.PrintWords
section
variable {α : Type} (mk : α → Int → α) (cnt : α → Int)
def cntL : List α → Int
 | [] => 0
 | x :: xs => cnt x + cntL xs
def mkL : List α → Int → List α
 | [], _ => []
 | x :: xs, a => mk x a :: mkL xs (a + cnt x)
theorem mkL_length : ∀ (l : List α) (a : Int), (mkL mk cnt l a).length = l.length
 | [], _ => rfl
 | x :: xs, a => by simp only [mkL, List.length_cons, mkL_length xs]
theorem cntL_take (z : α) : ∀ (l : List α) (i : Nat), i < l.length → cntL cnt (l.take (i + 1)) = cntL cnt (l.take i) + cnt (l.getD i z)
 | x :: xs, 0, _ => by simp [cntL]
 | x :: xs, i + 1, h => by
  have := cntL_take z xs i (by simpa using h)
  simp only [List.take_succ_cons, cntL, List.getD_cons_succ, this]
  omega
theorem cntL_nn (h : ∀ x, 0 ≤ cnt x) : ∀ l : List α, 0 ≤ cntL cnt l
 | [] => by simp [cntL]
 | x :: xs => by have := cntL_nn h xs; have := h x; simp only [cntL]; omega
theorem cntL_take_le (h : ∀ x, 0 ≤ cnt x) : ∀ (l : List α) (i : Nat), cntL cnt (l.take i) ≤ cntL cnt l
 | [], i => by simp [cntL]
 | x :: xs, 0 => by have := cntL_nn cnt h xs; have := h x; simp only [List.take_zero, cntL]; omega
 | x :: xs, i + 1 => by have := cntL_take_le h xs i; simp only [List.take_succ_cons, cntL]; omega
theorem mkL_getD (z : α) : ∀ (l : List α) (a : Int) (i : Nat), i < l.length → (mkL mk cnt l a).getD i z = mk (l.getD i z) (a + cntL cnt (l.take i))
 | x :: xs, a, 0, _ => by simp [mkL, cntL]
 | x :: xs, a, i + 1, h => by
  have := mkL_getD z xs (a + cnt x) i (by simpa using h)
  simp only [mkL, List.getD_cons_succ, List.take_succ_cons, cntL]
  rw [this]
  congr 1
  omega
/-- The first i are marked. -/
def midL (l : List α) (a : Int) (i : Nat) : List α := (mkL mk cnt l a).take i ++ l.drop i
theorem midL_zero (l : List α) (a : Int) : midL mk cnt l a 0 = l := by simp [midL]
theorem midL_all (l : List α) (a : Int) : midL mk cnt l a l.length = mkL mk cnt l a := by
 simp only [midL, List.drop_length, List.append_nil]
 rw [List.take_of_length_le (by rw [mkL_length]; omega)]
theorem midL_length (l : List α) (a : Int) (i : Nat) (h : i ≤ l.length) : (midL mk cnt l a i).length = l.length := by
 simp only [midL, List.length_append, List.length_take, List.length_drop, mkL_length]
 omega
theorem midL_getElem? (l : List α) (a : Int) (i j : Nat) (h : i ≤ l.length) : (midL mk cnt l a i)[j]? = if j < i then (mkL mk cnt l a)[j]? else l[j]? := by
 have hl : ((mkL mk cnt l a).take i).length = i := by rw [List.length_take, mkL_length]; omega
 unfold midL
 by_cases hj : j < i
 ·rw [if_pos hj, List.getElem?_append_left (by omega), List.getElem?_take, if_pos hj]
 ·rw [if_neg hj, List.getElem?_append_right (by omega), List.getElem?_drop, hl]
  congr 1
  omega
theorem midL_getD (z : α) (l : List α) (a : Int) (i : Nat) (h : i < l.length) : (midL mk cnt l a i).getD i z = l.getD i z := by
 rw [List.getD_eq_getElem?_getD, List.getD_eq_getElem?_getD, midL_getElem? mk cnt l a i i (by omega), if_neg (by omega)]
theorem midL_set (z : α) (l : List α) (a : Int) (i : Nat) (h : i < l.length) : (midL mk cnt l a i).set i (mk (l.getD i z) (a + cntL cnt (l.take i))) = midL mk cnt l a (i + 1) := by
 apply List.ext_getElem?
 intro j
 rw [List.getElem?_set, midL_length mk cnt l a i (by omega), midL_getElem? mk cnt l a i j (by omega), midL_getElem? mk cnt l a (i + 1) j (by omega)]
 by_cases hj : i = j
 ·subst hj
  rw [if_pos rfl, if_pos h, if_pos (by omega), ← mkL_getD mk cnt z l a i h, List.getD_eq_getElem?_getD, List.getElem?_eq_getElem (by rw [mkL_length]; exact h)]
  rfl
 ·rw [if_neg hj]
  by_cases h1 : j < i
  ·rw [if_pos h1, if_pos (by omega)]
  ·rw [if_neg h1, if_neg (by omega)]
end
/-- The blocks from lo on, below hi. -/
def In (lo hi k : Nat) : Prop := lo ≤ k ∧ k < hi
theorem In.off {a b c d : Nat} (h : b ≤ c) : ∀ k, In a b k → ¬ In c d k := fun _ h1 h2 => by unfold In at *; omega
namespace Mem
open Kd
section
variable {α : Type} {d : Kd α} {e n m c base lo hi top : Nat} {w w1 W : World} {A : Option Addr} {v : Value} {xs : List α} {ok P : Nat → Prop}
theorem times (hs : top ≤ W.heap.size) (hb : Below W.heap.size W w1) : ∃ lo hi, lo = W.heap.size ∧ hi = w1.heap.size ∧ top ≤ lo ∧ lo ≤ hi := ⟨_, _, rfl, rfl, hs, hb.size⟩
theorem new_R (h : d.R e w1 lo ok v xs) (eh : hi = w1.heap.size) : ∃ A c, v = .slice A xs.length c ∧ xs.length ≤ c ∧ F d w1 (In lo hi) A xs.length xs ∧ d.R e w1 lo (In lo hi) (.slice A xs.length c) xs := by
 subst eh
 obtain ⟨A, c, rfl, hl, _⟩ := R_reads h
 have h2 : d.R e w1 lo (In lo w1.heap.size) (.slice A xs.length c) xs := R_mono (R_bound h) (fun k hk => ⟨hk.2.1, hk.2.2.1⟩)
 exact ⟨A, c, rfl, hl, R_F h2, h2⟩
theorem new_S (h : Kd.S d e w1 lo ok v xs) (eh : hi = w1.heap.size) : ∃ A c, v = .slice A xs.length c ∧ xs.length ≤ c ∧ F d w1 (In lo hi) A xs.length xs ∧ Kd.S d e w1 lo (In lo hi) (.slice A xs.length c) xs := by
 subst eh
 obtain ⟨A, c, rfl, hl, _⟩ := S_reads h
 have h2 : Kd.S d e w1 lo (In lo w1.heap.size) (.slice A xs.length c) xs := S_mono (S_bound h) (fun k hk => ⟨hk.2.1, hk.2.2.1⟩)
 exact ⟨A, c, rfl, hl, S_F h2, h2⟩
theorem new_SI (h : Kd.S d e w1 lo (In lo hi) v xs) : ∃ A c, v = .slice A xs.length c ∧ xs.length ≤ c ∧ F d w1 (In lo hi) A xs.length xs ∧ Kd.S d e w1 lo (In lo hi) (.slice A xs.length c) xs := by
 obtain ⟨A, c, rfl, hl, _⟩ := S_reads h
 exact ⟨A, c, rfl, hl, S_F h, h⟩
theorem new_N (h : Kd.N d e w1 lo (fun k_ => lo ≤ k_) v xs) (eh : hi = w1.heap.size) : ∃ A c, v = .slice A xs.length c ∧ xs.length ≤ c ∧ F d w1 (In lo hi) A xs.length xs := by
 subst eh
 obtain ⟨A, c, rfl, hl, _⟩ := N_reads h
 exact ⟨A, c, rfl, hl, F_mono (F_bound (N_F h)) (fun k hk => ⟨hk.1, hk.2⟩)⟩
end
theorem back_V {α : Type} {d : Kd α} {e m c base lo : Nat} {w1 : World} {A : Option Addr} {xs : List α} {ok : Nat → Prop} {h2 : Nat} (h : Kd.V d e w1 base ok (.slice A m c) xs) (hl : ∀ k, ok k → lo ≤ k) (eh : h2 = w1.heap.size) : m = xs.length ∧ xs.length ≤ c ∧ Kd.F d w1 (In lo h2) A xs.length xs := by
 subst eh
 obtain ⟨A', c', e, hc, hf⟩ := h
 injection e with e1 e2 e3
 subst e1
 subst e2
 subst e3
 exact ⟨rfl, hc, Kd.F_mono (Kd.F_bound hf) (fun k hk => ⟨hl k hk.1, hk.2⟩)⟩
theorem lent {α : Type} {d : Kd α} {e e2 g n cap base : Nat} {P : Nat → Prop} {W : World} {xs : List (List α)} (h : Kd.S (Kd.slice e d) e2 W base P (.slice (some ⟨g, 0, none⟩) n cap) xs) (i : Int) (h0 : 0 ≤ i) (h1 : i < n) (hnew : ∀ k, W.heap.size ≤ k → P k) :
  ∃ (oki : Nat → Prop) (v : Value), (∀ k, oki k → P k) ∧ d.R e W base oki v (xs.getD i.toNat []) ∧ W.cell? ⟨g, i.toNat, none⟩ = some v ∧
   ∀ (w1 : World) (x' : List α), Kept W w1 oki → d.R e w1 base (fun k => oki k ∨ W.heap.size ≤ k) v x' → Kd.S (Kd.slice e d) e2 w1 base P (.slice (some ⟨g, 0, none⟩) n cap) (xs.set i.toNat x') := by
 obtain ⟨oki, c, hcl, hM, hcc, hoki, hH⟩ := S_lend h [] i h0 h1
 obtain ⟨v, rfl, hR⟩ := hM
 refine ⟨oki, v, fun k hk => (hoki k hk).1, hR, ?_, fun w1 x' hk hR' => ?_⟩
 ·have := hcc 0 v rfl
  simpa [show (Kd.slice e d).sz = 1 from rfl] using this
 ·refine H_back (H_step (H_widen hH) (fun k ho hn hlt => hk.2 k hlt (fun h2 => hn (.inl h2)))) (okp := fun k => oki k ∨ W.heap.size ≤ k) ⟨v, rfl, hR'⟩ (fun k hk' => ?_)
  rcases hk' with hk' | hk'
  ·exact .inl hk'
  ·exact .inr ⟨hnew k hk', hk'⟩
end Mem
end Go.Proofs.Ytilhcaofpfeioaa.Core

namespace Go.Proofs.Ytilhcaofpfeioaa.Pure
open Go.RowKit Go.Proofs.Ytilhcaofpfeioaa.PFnExactFlushDev Go.Proofs.Ytilhcaofpfeioaa.Core Go.Proofs.YtilhcaofpfeioaaW.PrintWords Go.Proofs.YtilhcaofpfeioaaW.PrintLast Go.Proofs.YtilhcaofpfeioaaW.PrintMore
set_option linter.unusedSimpArgs false
set_option linter.unusedVariables false
def okByteS (l : List Int) : Prop := l.length ≤ 4194304
def cntByteS (l : List Int) : Int := l.length
def inByteS (l : List Int) : Prop := l.length ≤ 1048576
def sumByteS (l : List Int) : Int := l.length
theorem sumByteS_nn (l : List Int) : 0 ≤ sumByteS l := by unfold sumByteS; omega
theorem in_of_sumByteS {l : List Int} (h : sumByteS l ≤ 1048576) : inByteS l := by unfold sumByteS at h; unfold inByteS; omega
theorem eqByteS_ev (l : List Int) (ho : okByteS l) : Ev (fun k => laws_eqByteS.f k l l) true := by
 have h : l.length ≤ 4194304 := ho
 obtain ⟨K, hk⟩ := evRange0 (σ := Unit) l.length (fun k _ i => laws_eqByteS.l0 k l l i) (fun _ _ => True) (fun _ _ => true) () trivial
  (by
   intro i _ hi _
   refine .inl ⟨(), trivial, rfl, 0, 1, fun k _ => ?_⟩
   simp only [laws_eqByteS.l0]
   rw [if_pos (by omega), if_pos (by omega), if_pos (by omega), if_pos trivial, w64s i (by omega)])
  (by
   intro _ _
   refine ⟨0, 1, fun k _ => ?_⟩
   simp only [laws_eqByteS.l0]
   rw [if_neg (by omega)])
 refine ⟨K, fun k hk' => ?_⟩
 simp only [laws_eqByteS.f]
 rw [if_pos trivial]
 exact hk k hk'
theorem szByteS_f (l : List Int) (a : Int) (hl : l.length ≤ 9223372036854775807) (h0 : 0 ≤ a) (h1 : a ≤ 1048576) : laws_szByteS.f l a = some (if a < sumByteS l then -1 else a - sumByteS l) := by
 unfold laws_szByteS.f sumByteS
 rw [w64 (by omega) (by omega)]
 by_cases h : a < (l.length : Int)
 ·rw [if_pos (by omega), if_pos h]
 ·rw [if_neg (by omega), if_neg h]
theorem szByteS_big (l : List Int) (a : Int) (hl : l.length ≤ 9223372036854775807) (h0 : 0 ≤ a) (h1 : a ≤ 1048576) (h : a < sumByteS l) : Ev (fun _ => laws_szByteS.f l a) (-1) := evOf fun _ => by rw [szByteS_f l a hl h0 h1, if_pos h]
theorem szByteS_fit (l : List Int) (a : Int) (hl : l.length ≤ 9223372036854775807) (h0 : 0 ≤ a) (h1 : a ≤ 1048576) (h : ¬ a < sumByteS l) : Ev (fun _ => laws_szByteS.f l a) (a - sumByteS l) := evOf fun _ => by rw [szByteS_f l a hl h0 h1, if_neg h]
def convByteSS (l : List (List Int)) : List (List Int) := l.map fun x => x
def sumByteSS : List (List Int) → Int
 | [] => 0
 | x :: xs => 1 + sumByteS x + sumByteSS xs
theorem sumByteSS_nn : ∀ l : List (List Int), (l.length : Int) ≤ sumByteSS l
 | [] => by simp [sumByteSS]
 | x :: xs => by
  have := sumByteSS_nn xs
  have := sumByteS_nn x
  simp only [sumByteSS, List.length_cons]
  omega
theorem sumByteSS_pos (l : List (List Int)) : 0 ≤ sumByteSS l := by have := sumByteSS_nn l; omega
theorem sumByteSS_at : ∀ (l : List (List Int)) (i : Nat), i < l.length → 1 + sumByteS (l.getD i []) + sumByteSS (l.drop (i + 1)) = sumByteSS (l.drop i) := by
 intro l i hi
 rw [drop_getD l i [] hi]
 rfl
theorem sumByteSS_drop : ∀ (l : List (List Int)) (i : Nat), sumByteSS (l.drop i) ≤ sumByteSS l
 | [], i => by simp
 | x :: xs, 0 => by simp
 | x :: xs, i + 1 => by
  have := sumByteSS_drop xs i
  have := sumByteS_nn x
  simp only [List.drop_succ_cons, sumByteSS]
  omega
def inByteSS (l : List (List Int)) : Prop := sumByteSS l ≤ 1048576
theorem in_of_sumByteSS {l : List (List Int)} (h : sumByteSS l ≤ 1048576) : inByteSS l := h
theorem inByteSS_len {l : List (List Int)} (h : inByteSS l) : l.length ≤ 1048576 := by have := sumByteSS_nn l; unfold inByteSS at h; omega
theorem inByteSS_at {l : List (List Int)} (h : inByteSS l) (i : Nat) (hi : i < l.length) : inByteS (l.getD i []) := by
 have h1 := sumByteSS_at l i hi
 have h2 := sumByteSS_drop l i
 have h3 := sumByteSS_nn (l.drop (i + 1))
 unfold inByteSS at h
 exact in_of_sumByteS (by omega)
/-- What the impl's side holds, all in all. -/
def bulkByteSS : List (List Int) → Nat
 | [] => 0
 | x :: xs => 1 + x.length + bulkByteSS xs
def okByteSS (l : List (List Int)) : Prop := bulkByteSS l ≤ 4194304
theorem bulkByteSS_len : ∀ l : List (List Int), l.length ≤ bulkByteSS l
 | [] => by simp [bulkByteSS]
 | x :: xs => by have := bulkByteSS_len xs; simp only [bulkByteSS, List.length_cons]; omega
theorem bulkByteSS_at : ∀ (l : List (List Int)) (i : Nat), i < l.length → (l.getD i []).length ≤ bulkByteSS l
 | x :: xs, 0, _ => by simp only [bulkByteSS, List.getD_cons_zero]; omega
 | x :: xs, i + 1, h => by
  have := bulkByteSS_at xs i (by simpa using h)
  simp only [bulkByteSS, List.getD_cons_succ]; omega
theorem okByteSS_at {l : List (List Int)} (h : okByteSS l) (i : Nat) (hi : i < l.length) : okByteS (l.getD i []) := by
 have h1 := bulkByteSS_at l i hi
 unfold okByteSS at h
 show (l.getD i []).length ≤ 4194304
 omega
theorem okByteSS_len {l : List (List Int)} (h : okByteSS l) : l.length ≤ 4194304 := by have := bulkByteSS_len l; unfold okByteSS at h; omega
theorem bulk_convByteSS : ∀ l : List (List Int), (bulkByteSS (convByteSS l) : Int) = sumByteSS l
 | [] => rfl
 | x :: xs => by
  have h1 := bulk_convByteSS xs
  have h2 : (((x).length : Nat) : Int) = sumByteS x := rfl
  (try simp only at h2)
  simp only [convByteSS] at h1
  simp only [convByteSS, List.map_cons, bulkByteSS, sumByteSS]
  omega
theorem ok_of_inByteSS {l : List (List Int)} (h : inByteSS l) : okByteSS (convByteSS l) := by
 have := bulk_convByteSS l
 unfold inByteSS at h
 unfold okByteSS
 omega
theorem eqByteSS_ev (l : List (List Int)) (ho : okByteSS l) : Ev (fun k => laws_eqByteSS.f k l l) true := by
 have h := okByteSS_len ho
 obtain ⟨K, hk⟩ := evRange0 (σ := Unit) l.length (fun k _ i => laws_eqByteSS.l0 k l l i) (fun _ _ => True) (fun _ _ => true) () trivial
  (by
   intro i _ hi _
   have hr : rd_L1 l (i : Int) = l.getD i [] := by simp [rd_L1]
   obtain ⟨K, e⟩ := eqByteS_ev (l.getD i []) (okByteSS_at ho i hi)
   refine .inl ⟨(), trivial, rfl, K, 1, fun k hk => ?_⟩
   have e1 := e k hk
   simp only at e1
   simp only [laws_eqByteSS.l0, hr, e1, Option.bind_some]
   rw [if_pos (by omega), if_pos (by omega), if_pos (by omega), if_pos trivial, w64s i (by omega)])
  (by
   intro _ _
   refine ⟨0, 1, fun k _ => ?_⟩
   simp only [laws_eqByteSS.l0]
   rw [if_neg (by omega)])
 refine ⟨K, fun k hk' => ?_⟩
 simp only [laws_eqByteSS.f]
 rw [if_pos trivial]
 exact hk k hk'
theorem eqWr_ev (n : Int) (l : List Int) (ho : okByteS l) : Ev (fun k => laws_eqWr.f k n l n l) true := by
 obtain ⟨K, e⟩ := eqByteS_ev l ho
 refine ⟨K, fun k hk => ?_⟩
 have e1 := e k hk
 simp only at e1
 simp only [laws_eqWr.f, e1, Option.bind_some, if_true]
theorem szWr_big (n : Int) (l : List Int) (a : Int) (hl : l.length ≤ 9223372036854775807) (h0 : 0 ≤ a) (h1 : a ≤ 1048576) (h : a < sumByteS l) : Ev (fun _ => laws_szWr.f n l a) (-1) := evOf fun _ => by
 simp only [laws_szWr.f, szByteS_f l a hl h0 h1, if_pos h, Option.bind_some]; rfl
theorem szWr_fit (n : Int) (l : List Int) (a : Int) (hl : l.length ≤ 9223372036854775807) (h0 : 0 ≤ a) (h1 : a ≤ 1048576) (h : ¬ a < sumByteS l) : Ev (fun _ => laws_szWr.f n l a) (a - sumByteS l) := evOf fun _ => by
 simp only [laws_szWr.f, szByteS_f l a hl h0 h1, if_neg h, Option.bind_some]; rw [if_neg (by omega)]
def convWrS (l : List (S81)) : List (S50) := l.map fun x => (⟨x.f0, x.f1⟩ : S50)
def sumWrS : List (S81) → Int
 | [] => 0
 | x :: xs => 1 + sumByteS x.f1 + sumWrS xs
theorem sumWrS_nn : ∀ l : List (S81), (l.length : Int) ≤ sumWrS l
 | [] => by simp [sumWrS]
 | x :: xs => by
  have := sumWrS_nn xs
  have := sumByteS_nn x.f1
  simp only [sumWrS, List.length_cons]
  omega
theorem sumWrS_pos (l : List (S81)) : 0 ≤ sumWrS l := by have := sumWrS_nn l; omega
theorem sumWrS_at : ∀ (l : List (S81)) (i : Nat), i < l.length → 1 + sumByteS (l.getD i z81).f1 + sumWrS (l.drop (i + 1)) = sumWrS (l.drop i) := by
 intro l i hi
 rw [drop_getD l i z81 hi]
 rfl
theorem sumWrS_drop : ∀ (l : List (S81)) (i : Nat), sumWrS (l.drop i) ≤ sumWrS l
 | [], i => by simp
 | x :: xs, 0 => by simp
 | x :: xs, i + 1 => by
  have := sumWrS_drop xs i
  have := sumByteS_nn x.f1
  simp only [List.drop_succ_cons, sumWrS]
  omega
def inWrS (l : List (S81)) : Prop := sumWrS l ≤ 1048576
theorem in_of_sumWrS {l : List (S81)} (h : sumWrS l ≤ 1048576) : inWrS l := h
theorem inWrS_len {l : List (S81)} (h : inWrS l) : l.length ≤ 1048576 := by have := sumWrS_nn l; unfold inWrS at h; omega
theorem inWrS_at {l : List (S81)} (h : inWrS l) (i : Nat) (hi : i < l.length) : inByteS (l.getD i z81).f1 := by
 have h1 := sumWrS_at l i hi
 have h2 := sumWrS_drop l i
 have h3 := sumWrS_nn (l.drop (i + 1))
 unfold inWrS at h
 exact in_of_sumByteS (by omega)
/-- What the impl's side holds, all in all. -/
def bulkWrS : List (S50) → Nat
 | [] => 0
 | x :: xs => 1 + x.f1.length + bulkWrS xs
def okWrS (l : List (S50)) : Prop := bulkWrS l ≤ 4194304
theorem bulkWrS_len : ∀ l : List (S50), l.length ≤ bulkWrS l
 | [] => by simp [bulkWrS]
 | x :: xs => by have := bulkWrS_len xs; simp only [bulkWrS, List.length_cons]; omega
theorem bulkWrS_at : ∀ (l : List (S50)) (i : Nat), i < l.length → (l.getD i z50).f1.length ≤ bulkWrS l
 | x :: xs, 0, _ => by simp only [bulkWrS, List.getD_cons_zero]; omega
 | x :: xs, i + 1, h => by
  have := bulkWrS_at xs i (by simpa using h)
  simp only [bulkWrS, List.getD_cons_succ]; omega
theorem okWrS_at {l : List (S50)} (h : okWrS l) (i : Nat) (hi : i < l.length) : okByteS (l.getD i z50).f1 := by
 have h1 := bulkWrS_at l i hi
 unfold okWrS at h
 show (l.getD i z50).f1.length ≤ 4194304
 omega
theorem okWrS_len {l : List (S50)} (h : okWrS l) : l.length ≤ 4194304 := by have := bulkWrS_len l; unfold okWrS at h; omega
theorem bulk_convWrS : ∀ l : List (S81), (bulkWrS (convWrS l) : Int) = sumWrS l
 | [] => rfl
 | x :: xs => by
  have h1 := bulk_convWrS xs
  have h2 : ((((⟨x.f0, x.f1⟩ : S50)).f1.length : Nat) : Int) = sumByteS x.f1 := rfl
  (try simp only at h2)
  simp only [convWrS] at h1
  simp only [convWrS, List.map_cons, bulkWrS, sumWrS]
  omega
theorem ok_of_inWrS {l : List (S81)} (h : inWrS l) : okWrS (convWrS l) := by
 have := bulk_convWrS l
 unfold inWrS at h
 unfold okWrS
 omega
theorem eqWrS_ev (l : List (S50)) (ho : okWrS l) : Ev (fun k => laws_eqWrS.f k l l) true := by
 have h := okWrS_len ho
 obtain ⟨K, hk⟩ := evRange0 (σ := Unit) l.length (fun k _ i => laws_eqWrS.l0 k l l i) (fun _ _ => True) (fun _ _ => true) () trivial
  (by
   intro i _ hi _
   have hr : rd_T50 l (i : Int) = l.getD i z50 := by simp [rd_T50]
   obtain ⟨K, e⟩ := eqWr_ev (l.getD i z50).f0 (l.getD i z50).f1 (okWrS_at ho i hi)
   refine .inl ⟨(), trivial, rfl, K, 1, fun k hk => ?_⟩
   have e1 := e k hk
   simp only at e1
   simp only [laws_eqWrS.l0, hr, e1, Option.bind_some]
   rw [if_pos (by omega), if_pos (by omega), if_pos (by omega), if_pos trivial, w64s i (by omega)])
  (by
   intro _ _
   refine ⟨0, 1, fun k _ => ?_⟩
   simp only [laws_eqWrS.l0]
   rw [if_neg (by omega)])
 refine ⟨K, fun k hk' => ?_⟩
 simp only [laws_eqWrS.f]
 rw [if_pos trivial]
 exact hk k hk'
theorem eqDev_ev (l : List (List Int)) (n : List S50) (f : Int) (d : Bool) (h1 : okByteSS l) (h2 : okWrS n) : Ev (fun k => laws_eqDev.f k l n f d l n f d) true := by
 obtain ⟨K, e⟩ := eqByteSS_ev l h1
 obtain ⟨K2, e2⟩ := eqWrS_ev n h2
 refine ⟨K + K2, fun k hk => ?_⟩
 have a1 := e k (by omega)
 have a2 := e2 k (by omega)
 simp only at a1 a2
 simp only [laws_eqDev.f, a1, a2, Option.bind_some, if_true, bne_self_eq_false, Bool.false_eq_true, if_false]
def mkByteS (l : List Int) (a : Int) : List Int := (List.range l.length).map fun (i : Nat) => (a + (i : Int)) % 256
theorem mkByteS_length (l : List Int) (a : Int) : (mkByteS l a).length = l.length := by simp [mkByteS]
theorem markByteS_ev (l : List Int) (a : Int) (ho : okByteS l) (h0 : 0 ≤ a) (h1 : a ≤ 1099511627776) : Ev (fun k => laws_markByteS.f k l a) (a + cntByteS l, mkByteS l a) := by
 have h : l.length ≤ 4194304 := ho
 obtain ⟨K, hk⟩ := evRange0 (σ := List Int × Int) l.length (fun k s i => laws_markByteS.l0 k s.1 s.2 i) (fun i s => s = (fill (fun i => (a + (i : Int)) % 256) l i, a + i)) (fun _ _ => (a + cntByteS l, mkByteS l a)) (l, a) (by simp [fill_zero])
  (by
   intro i s hi hs
   subst hs
   refine .inl ⟨_, rfl, rfl, 0, 1, fun k _ => ?_⟩
   have hl := fill_length (fun i => (a + (i : Int)) % 256) l i (by omega)
   simp only [laws_markByteS.l0]
   rw [if_pos (by omega), if_pos (by omega), w64 (x := a + (i : Int) + 1) (by omega) (by omega), w64s i (by omega), Int.toNat_natCast, fill_set _ l i hi rfl]
   congr 1
   push_cast
   omega)
  (by
   intro s hs
   subst hs
   refine ⟨0, 1, fun k _ => ?_⟩
   have hl := fill_length (fun i => (a + (i : Int)) % 256) l l.length (by omega)
   simp only [laws_markByteS.l0]
   rw [if_neg (by omega), fill_all]
   rfl)
 exact ⟨K, fun k hk' => hk k hk'⟩
theorem heldByteS_ev (l : List Int) (a : Int) (ho : okByteS l) (h0 : 0 ≤ a) (h1 : a ≤ 1099511627776) : Ev (fun k => laws_heldByteS.f k (mkByteS l a) a) (a + cntByteS l) := by
 have h : l.length ≤ 4194304 := ho
 have hl := mkByteS_length l a
 obtain ⟨K, hk⟩ := evRange0 (σ := Int) l.length (fun k s i => laws_heldByteS.l0 k (mkByteS l a) s i) (fun i s => s = a + i) (fun _ _ => a + cntByteS l) a (by simp)
  (by
   intro i s hi hs
   subst hs
   refine .inl ⟨_, rfl, rfl, 0, 1, fun k _ => ?_⟩
   have hr : rd (mkByteS l a) (i : Int) = (a + (i : Int)) % 256 := by
    unfold mkByteS
    rw [rd_nat, range_getD _ _ _ _ hi]
   simp only [laws_heldByteS.l0]
   rw [if_pos (by omega), if_pos (by omega), if_pos hr, w64 (x := a + (i : Int) + 1) (by omega) (by omega), w64s i (by omega)]
   congr 1
   push_cast
   omega)
  (by
   intro s hs
   subst hs
   refine ⟨0, 1, fun k _ => ?_⟩
   simp only [laws_heldByteS.l0]
   rw [if_neg (by omega)]
   rfl)
 exact ⟨K, fun k hk' => hk k hk'⟩
theorem cntByteS_nn' (x : List Int) : 0 ≤ cntByteS x := by unfold cntByteS; omega
def cntByteSS (l : List (List Int)) : Int := cntL cntByteS l
def mkByteSS (l : List (List Int)) (a : Int) : List (List Int) := mkL mkByteS cntByteS l a
theorem cntByteSS_nn0 (l : List (List Int)) : 0 ≤ cntByteSS l := cntL_nn cntByteS cntByteS_nn' l
theorem cntByteSS_bulk : ∀ l : List (List Int), cntByteSS l ≤ (bulkByteSS l : Int)
 | [] => by simp [cntByteSS, cntL, bulkByteSS]
 | x :: xs => by
  have := cntByteSS_bulk xs
  simp only [cntByteSS] at this
  simp only [cntByteSS, cntL, bulkByteSS, cntByteS]
  push_cast
  omega
theorem cntByteSS_nn {l : List (List Int)} (h : okByteSS l) : 0 ≤ cntByteSS l ∧ cntByteSS l ≤ 4194304 := by
 have := cntByteSS_bulk l
 have := cntByteSS_nn0 l
 unfold okByteSS at h
 omega
theorem cntByteSS_take (l : List (List Int)) (i : Nat) : 0 ≤ cntByteSS (l.take i) ∧ cntByteSS (l.take i) ≤ cntByteSS l := ⟨cntByteSS_nn0 _, cntL_take_le cntByteS cntByteS_nn' l i⟩
theorem heldByteSS_ev (l : List (List Int)) (a : Int) (ho : okByteSS l) (h0 : 0 ≤ a) (h1 : a ≤ 1000000000000) : Ev (fun k => laws_heldByteSS.f k (mkByteSS l a) a) (a + cntByteSS l) := by
 have h := okByteSS_len ho
 have hl : (mkByteSS l a).length = l.length := mkL_length _ _ _ _
 have hc := cntByteSS_nn ho
 obtain ⟨K, hk⟩ := evRange0 (σ := Int) l.length (fun k s i => laws_heldByteSS.l0 k (mkByteSS l a) s i) (fun i s => s = a + cntByteSS (l.take i)) (fun _ _ => a + cntByteSS l) a (by simp [cntByteSS, cntL])
  (by
   intro i s hi hs
   subst hs
   have ht := cntByteSS_take l i
   have hr : rd_L1 (mkByteSS l a) (i : Int) = mkByteS (l.getD i []) (a + cntByteSS (l.take i)) := by
    unfold rd_L1
    rw [Int.toNat_natCast]
    exact mkL_getD mkByteS cntByteS [] l a i hi
   obtain ⟨K, e⟩ := heldByteS_ev (l.getD i []) (a + cntByteSS (l.take i)) (okByteSS_at ho i hi) (by omega) (by omega)
   have hs' : cntByteSS (l.take (i + 1)) = cntByteSS (l.take i) + cntByteS (l.getD i []) := cntL_take cntByteS [] l i hi
   have hn := cntByteS_nn' (l.getD i [])
   refine .inl ⟨_, rfl, rfl, K, 1, fun k hk => ?_⟩
   have e1 := e k hk
   simp only at e1
   simp only [laws_heldByteSS.l0, hr, e1, Option.bind_some]
   rw [if_pos (by omega), if_pos (by omega), if_neg (by omega), w64s i (by omega), hs']
   congr 1
   omega)
  (by
   intro s hs
   subst hs
   refine ⟨0, 1, fun k _ => ?_⟩
   simp only [laws_heldByteSS.l0]
   rw [if_neg (by omega), List.take_length])
 exact ⟨K, fun k hk' => hk k hk'⟩
def mkWr (x : S50) (a : Int) : S50 := ⟨a, mkByteS x.f1 (a + 1)⟩
def cntWr (x : S50) : Int := 1 + cntByteS x.f1
theorem cntWr_nn (x : S50) : 0 ≤ cntWr x := by unfold cntWr cntByteS; omega
def cntWrS (l : List S50) : Int := cntL cntWr l
def mkWrS (l : List S50) (a : Int) : List S50 := mkL mkWr cntWr l a
theorem cntWrS_nn0 (l : List S50) : 0 ≤ cntWrS l := cntL_nn cntWr cntWr_nn l
theorem cntWrS_bulk : ∀ l : List S50, cntWrS l ≤ (bulkWrS l : Int)
 | [] => by simp [cntWrS, cntL, bulkWrS]
 | x :: xs => by
  have := cntWrS_bulk xs
  simp only [cntWrS] at this
  simp only [cntWrS, cntL, bulkWrS, cntWr, cntByteS]
  push_cast
  omega
theorem cntWrS_nn {l : List S50} (h : okWrS l) : 0 ≤ cntWrS l ∧ cntWrS l ≤ 4194304 := by
 have := cntWrS_bulk l
 have := cntWrS_nn0 l
 unfold okWrS at h
 omega
theorem cntWrS_take (l : List S50) (i : Nat) : 0 ≤ cntWrS (l.take i) ∧ cntWrS (l.take i) ≤ cntWrS l := ⟨cntWrS_nn0 _, cntL_take_le cntWr cntWr_nn l i⟩
theorem heldWrS_ev (l : List S50) (a : Int) (ho : okWrS l) (h0 : 0 ≤ a) (h1 : a ≤ 1000000000000) : Ev (fun k => laws_heldWrS.f k (mkWrS l a) a) (a + cntWrS l) := by
 have h := okWrS_len ho
 have hl : (mkWrS l a).length = l.length := mkL_length _ _ _ _
 have hc := cntWrS_nn ho
 obtain ⟨K, hk⟩ := evRange0 (σ := Int) l.length (fun k s i => laws_heldWrS.l0 k (mkWrS l a) s i) (fun i s => s = a + cntWrS (l.take i)) (fun _ _ => a + cntWrS l) a (by simp [cntWrS, cntL])
  (by
   intro i s hi hs
   subst hs
   have ht := cntWrS_take l i
   have hr : rd_T50 (mkWrS l a) (i : Int) = mkWr (l.getD i z50) (a + cntWrS (l.take i)) := by
    unfold rd_T50
    rw [Int.toNat_natCast]
    exact mkL_getD mkWr cntWr z50 l a i hi
   obtain ⟨K, e⟩ := heldByteS_ev (l.getD i z50).f1 (a + cntWrS (l.take i) + 1) (okWrS_at ho i hi) (by omega) (by omega)
   have hs' : cntWrS (l.take (i + 1)) = cntWrS (l.take i) + cntWr (l.getD i z50) := cntL_take cntWr z50 l i hi
   have hn : 0 ≤ cntByteS (l.getD i z50).f1 := by unfold cntByteS; omega
   refine .inl ⟨_, rfl, rfl, K, 1, fun k hk => ?_⟩
   have e1 := e k hk
   simp only at e1
   simp only [laws_heldWrS.l0, hr, mkWr]
   rw [if_pos (by omega), if_pos (by omega), if_pos trivial, w64 (x := a + cntWrS (l.take i) + 1) (by omega) (by omega), e1]
   simp only [Option.bind_some]
   rw [if_neg (by omega), w64s i (by omega), hs']
   unfold cntWr
   congr 1
   omega)
  (by
   intro s hs
   subst hs
   refine ⟨0, 1, fun k _ => ?_⟩
   simp only [laws_heldWrS.l0]
   rw [if_neg (by omega), List.take_length])
 exact ⟨K, fun k hk' => hk k hk'⟩
theorem heldDev_ev (l : List (List Int)) (m : List S50) (x : Int) (y : Bool) (a : Int) (ho : okByteSS l) (ho2 : okWrS m) (h0 : 0 ≤ a) (h1 : a ≤ 900000000000) : Ev (fun k => laws_heldDev.f k (mkByteSS l a) (mkWrS m (a + cntByteSS l)) x y a) (a + (cntByteSS l + cntWrS m)) := by
 have hc := cntByteSS_nn ho
 have hc2 := cntWrS_nn ho2
 unfold laws_heldDev.f
 refine Ev.bind (heldByteSS_ev l a ho h0 (by omega)) ?_
 simp only [if_neg (show ¬ a + cntByteSS l < 0 by omega)]
 refine Ev.bind (heldWrS_ev m _ ho2 (by omega) (by omega)) ?_
 simp only [if_neg (show ¬ a + cntByteSS l + cntWrS m < 0 by omega)]
 rw [show a + (cntByteSS l + cntWrS m) = a + cntByteSS l + cntWrS m by omega]
 exact Ev.now _
def goodByteSS (l : List (List Int)) : Prop := l.length ≤ 9223372036854775807 ∧ ∀ x ∈ l, x.length ≤ 9223372036854775807
theorem szByteSS_l0 (l : List (List Int)) (hg : goodByteSS l) : ∀ (d i : Nat) (s : Int), l.length - i = d → i ≤ l.length → 0 ≤ s → s ≤ 1048576 → l.length ≤ 1048576 → Ev (fun k => laws_szByteSS.l0 k l s (i : Int)) (if s < sumByteSS (l.drop i) - ((l.length : Int) - i) then -1 else s - (sumByteSS (l.drop i) - ((l.length : Int) - i))) := by
 intro d
 induction d with
 | zero =>
  intro i s hd hi h0 h1 hl
  obtain rfl : i = l.length := by omega
  refine evSucc ⟨0, 1, fun k _ => ?_⟩
  simp only [laws_szByteSS.l0]
  rw [if_neg (by omega), List.drop_length]
  rw [show sumByteSS [] = 0 from rfl, if_neg (by omega)]
  congr 1; omega
 | succ d ih =>
  intro i s hd hi h0 h1 hl
  have hlt : i < l.length := by omega
  have hs := sumByteSS_at l i hlt
  have hn := sumByteSS_nn (l.drop (i + 1))
  rw [List.length_drop] at hn
  have hr : rd_L1 l (i : Int) = l.getD i [] := by simp [rd_L1]
  have hgx := hg.2 _ (getD_mem l i [] hlt)
  generalize l.getD i [] = y at *
  have hy := sumByteS_nn y
  by_cases c : s < sumByteS y
  ·obtain ⟨K, e⟩ := szByteS_big y s hgx h0 h1 c
   refine evSucc ⟨K, 1, fun k hk => ?_⟩
   have e1 := e k hk
   simp only at e1
   simp only [laws_szByteSS.l0, hr, e1, Option.bind_some]
   rw [if_pos (by omega), if_pos (by omega), if_pos (by decide), if_pos (by omega)]
  ·obtain ⟨K, e⟩ := szByteS_fit y s hgx h0 h1 c
   obtain ⟨K2, e2⟩ := ih (i + 1) (s - sumByteS y) (by omega) (by omega) (by omega) (by omega) hl
   refine evSucc ⟨K + K2, 1, fun k hk => ?_⟩
   have e1 := e k (by omega)
   have e3 := e2 k (by omega)
   simp only at e1 e3
   simp only [laws_szByteSS.l0, hr, e1, Option.bind_some]
   rw [if_pos (by omega), if_pos (by omega), if_neg (by omega), w64s i (by omega), e3]
   have hc : ((i + 1 : Nat) : Int) = (i : Int) + 1 := by omega
   rw [hc]
   by_cases c2 : s - sumByteS y < sumByteSS (l.drop (i + 1)) - ((l.length : Int) - ((i : Int) + 1))
   ·rw [if_pos c2, if_pos (by omega)]
   ·rw [if_neg c2, if_neg (by omega)]; congr 1; omega
theorem szByteSS_big (l : List (List Int)) (a : Int) (hg : goodByteSS l) (h0 : 0 ≤ a) (h1 : a ≤ 1048576) (h : a < sumByteSS l) : Ev (fun k => laws_szByteSS.f k l a) (-1) := by
 have hn := hg.1
 by_cases c : a < l.length
 ·refine evOf fun k => ?_
  simp only [laws_szByteSS.f]
  rw [w64 (by omega) (by omega), if_pos (by omega)]
 ·obtain ⟨K, e⟩ := szByteSS_l0 l hg _ 0 (a - l.length) rfl (Nat.zero_le _) (by omega) (by omega) (by omega)
  refine ⟨K, fun k hk => ?_⟩
  have e1 := e k hk
  simp only [laws_szByteSS.f]
  rw [w64 (by omega) (by omega), if_neg (by omega)]
  simp only [List.drop_zero, Int.natCast_zero] at e1
  rw [if_pos (by omega)] at e1
  exact e1
theorem szByteSS_fit (l : List (List Int)) (a : Int) (hg : goodByteSS l) (h0 : 0 ≤ a) (h1 : a ≤ 1048576) (h : ¬ a < sumByteSS l) : Ev (fun k => laws_szByteSS.f k l a) (a - sumByteSS l) := by
 have hn := sumByteSS_nn l
 obtain ⟨K, e⟩ := szByteSS_l0 l hg _ 0 (a - l.length) rfl (Nat.zero_le _) (by omega) (by omega) (by omega)
 refine ⟨K, fun k hk => ?_⟩
 have e1 := e k hk
 simp only [laws_szByteSS.f]
 rw [w64 (by omega) (by omega), if_neg (by omega)]
 simp only [List.drop_zero, Int.natCast_zero] at e1
 rw [if_neg (by omega)] at e1
 rw [show a - sumByteSS l = a - ↑l.length - (sumByteSS l - (↑l.length - 0)) by omega]
 exact e1
def goodWrS (l : List (S81)) : Prop := l.length ≤ 9223372036854775807 ∧ ∀ x ∈ l, x.f1.length ≤ 9223372036854775807
theorem szWrS_l0 (l : List (S81)) (hg : goodWrS l) : ∀ (d i : Nat) (s : Int), l.length - i = d → i ≤ l.length → 0 ≤ s → s ≤ 1048576 → l.length ≤ 1048576 → Ev (fun k => laws_szWrS.l0 k l s (i : Int)) (if s < sumWrS (l.drop i) - ((l.length : Int) - i) then -1 else s - (sumWrS (l.drop i) - ((l.length : Int) - i))) := by
 intro d
 induction d with
 | zero =>
  intro i s hd hi h0 h1 hl
  obtain rfl : i = l.length := by omega
  refine evSucc ⟨0, 1, fun k _ => ?_⟩
  simp only [laws_szWrS.l0]
  rw [if_neg (by omega), List.drop_length]
  rw [show sumWrS [] = 0 from rfl, if_neg (by omega)]
  congr 1; omega
 | succ d ih =>
  intro i s hd hi h0 h1 hl
  have hlt : i < l.length := by omega
  have hs := sumWrS_at l i hlt
  have hn := sumWrS_nn (l.drop (i + 1))
  rw [List.length_drop] at hn
  have hr : rd_T81 l (i : Int) = l.getD i z81 := by simp [rd_T81]
  have hgx := hg.2 _ (getD_mem l i z81 hlt)
  generalize l.getD i z81 = y at *
  have hy := sumByteS_nn y.f1
  by_cases c : s < sumByteS y.f1
  ·obtain ⟨K, e⟩ := szWr_big y.f0 y.f1 s hgx h0 h1 c
   refine evSucc ⟨K, 1, fun k hk => ?_⟩
   have e1 := e k hk
   simp only at e1
   simp only [laws_szWrS.l0, hr, e1, Option.bind_some]
   rw [if_pos (by omega), if_pos (by omega), if_pos (by decide), if_pos (by omega)]
  ·obtain ⟨K, e⟩ := szWr_fit y.f0 y.f1 s hgx h0 h1 c
   obtain ⟨K2, e2⟩ := ih (i + 1) (s - sumByteS y.f1) (by omega) (by omega) (by omega) (by omega) hl
   refine evSucc ⟨K + K2, 1, fun k hk => ?_⟩
   have e1 := e k (by omega)
   have e3 := e2 k (by omega)
   simp only at e1 e3
   simp only [laws_szWrS.l0, hr, e1, Option.bind_some]
   rw [if_pos (by omega), if_pos (by omega), if_neg (by omega), w64s i (by omega), e3]
   have hc : ((i + 1 : Nat) : Int) = (i : Int) + 1 := by omega
   rw [hc]
   by_cases c2 : s - sumByteS y.f1 < sumWrS (l.drop (i + 1)) - ((l.length : Int) - ((i : Int) + 1))
   ·rw [if_pos c2, if_pos (by omega)]
   ·rw [if_neg c2, if_neg (by omega)]; congr 1; omega
theorem szWrS_big (l : List (S81)) (a : Int) (hg : goodWrS l) (h0 : 0 ≤ a) (h1 : a ≤ 1048576) (h : a < sumWrS l) : Ev (fun k => laws_szWrS.f k l a) (-1) := by
 have hn := hg.1
 by_cases c : a < l.length
 ·refine evOf fun k => ?_
  simp only [laws_szWrS.f]
  rw [w64 (by omega) (by omega), if_pos (by omega)]
 ·obtain ⟨K, e⟩ := szWrS_l0 l hg _ 0 (a - l.length) rfl (Nat.zero_le _) (by omega) (by omega) (by omega)
  refine ⟨K, fun k hk => ?_⟩
  have e1 := e k hk
  simp only [laws_szWrS.f]
  rw [w64 (by omega) (by omega), if_neg (by omega)]
  simp only [List.drop_zero, Int.natCast_zero] at e1
  rw [if_pos (by omega)] at e1
  exact e1
theorem szWrS_fit (l : List (S81)) (a : Int) (hg : goodWrS l) (h0 : 0 ≤ a) (h1 : a ≤ 1048576) (h : ¬ a < sumWrS l) : Ev (fun k => laws_szWrS.f k l a) (a - sumWrS l) := by
 have hn := sumWrS_nn l
 obtain ⟨K, e⟩ := szWrS_l0 l hg _ 0 (a - l.length) rfl (Nat.zero_le _) (by omega) (by omega) (by omega)
 refine ⟨K, fun k hk => ?_⟩
 have e1 := e k hk
 simp only [laws_szWrS.f]
 rw [w64 (by omega) (by omega), if_neg (by omega)]
 simp only [List.drop_zero, Int.natCast_zero] at e1
 rw [if_neg (by omega)] at e1
 rw [show a - sumWrS l = a - ↑l.length - (sumWrS l - (↑l.length - 0)) by omega]
 exact e1
def sumDev (l : List (List Int)) (n : List S81) : Int := sumByteSS l + sumWrS n
theorem szDev_big (l : List (List Int)) (n : List S81) (f : Int) (d : Bool) (a : Int) (hl : goodByteSS l) (hg : goodWrS n) (h0 : 0 ≤ a) (h1 : a ≤ 1048576) (h : a < sumDev l n) : Ev (fun k => laws_szDev.f k l n f d a) (-1) := by
 have u := sumByteSS_pos l
 unfold sumDev at h
 by_cases c : a < sumByteSS l
 ·obtain ⟨K, e⟩ := szByteSS_big l a hl h0 h1 c
  refine ⟨K, fun k hk => ?_⟩
  have e1 := e k hk
  simp only at e1
  simp only [laws_szDev.f, e1, Option.bind_some]
  rfl
 ·obtain ⟨K0, e0⟩ := szByteSS_fit l a hl h0 h1 c
  obtain ⟨K, e⟩ := szWrS_big n (a - sumByteSS l) hg (by omega) (by omega) (by omega)
  refine ⟨K + K0, fun k hk => ?_⟩
  have e1 := e k (by omega)
  have e2 := e0 k (by omega)
  simp only at e1 e2
  simp only [laws_szDev.f, e2, Option.bind_some, e1]
  rw [if_neg (by omega)]
  rfl
theorem szDev_fit (l : List (List Int)) (n : List S81) (f : Int) (d : Bool) (a : Int) (hl : goodByteSS l) (hg : goodWrS n) (h0 : 0 ≤ a) (h1 : a ≤ 1048576) (h : ¬ a < sumDev l n) : Ev (fun k => laws_szDev.f k l n f d a) (a - sumDev l n) := by
 have u := sumByteSS_pos l
 have u2 := sumWrS_pos n
 unfold sumDev at h
 obtain ⟨K0, e0⟩ := szByteSS_fit l a hl h0 h1 (by omega)
 obtain ⟨K, e⟩ := szWrS_fit n (a - sumByteSS l) hg (by omega) (by omega) (by omega)
 refine ⟨K + K0, fun k hk => ?_⟩
 have e1 := e k (by omega)
 have e2 := e0 k (by omega)
 simp only at e1 e2
 simp only [laws_szDev.f, e2, Option.bind_some, e1]
 rw [if_neg (by omega), if_neg (by omega)]
 unfold sumDev
 congr 1
 omega
theorem toByteS_ev (l : List Int) (hi : inByteS l) : Ev (fun k => laws_toByteS.f k l) l := by
 have h : l.length ≤ 1048576 := hi
 have hl : ∀ i, i ≤ l.length → (fill (fun i => l.getD i 0) (List.replicate l.length (0 : Int)) i).length = l.length := fun i hi => by rw [fill_length _ _ _ (by simpa using hi)]; simp
 obtain ⟨K, hk⟩ := evRange0 (σ := List Int) l.length (fun k s i => laws_toByteS.l0 k l s i) (fun i s => s = fill (fun i => l.getD i 0) (List.replicate l.length (0 : Int)) i) (fun _ _ => l) (List.replicate l.length (0 : Int)) (fill_zero _ _).symm
  (by
   intro i s hi hs
   subst hs
   refine .inl ⟨_, rfl, rfl, 0, 1, fun k _ => ?_⟩
   have h1 := hl i (by omega)
   simp only [laws_toByteS.l0]
   rw [if_pos (by omega), if_pos (by omega), if_pos (by omega), w64s i (by omega), Int.toNat_natCast, fill_set _ _ _ (by simpa using hi) (rd_nat l i)])
  (by
   intro s hs
   subst hs
   refine ⟨0, 1, fun k _ => ?_⟩
   simp only [laws_toByteS.l0]
   rw [if_neg (by omega)]
   have := fill_all (fun i => l.getD i 0) (List.replicate l.length (0 : Int))
   rw [List.length_replicate] at this
   rw [this, range_id])
 refine ⟨K, fun k hk' => ?_⟩
 simp only [laws_toByteS.f]
 rw [if_pos (by omega), if_pos (by omega)]
 have e := hk k hk'
 simpa using e
theorem toByteSS_ev (l : List (List Int)) (hin : inByteSS l) : Ev (fun k => laws_toByteSS.f k l) (convByteSS l) := by
 have h := inByteSS_len hin
 have hl : ∀ i, i ≤ l.length → (fill (fun i => (l.getD i [])) (List.replicate l.length ([] : List Int)) i).length = l.length := fun i hi => by rw [fill_length _ _ _ (by simpa using hi)]; simp
 obtain ⟨K, hk⟩ := evRange0 (σ := List (List Int)) l.length (fun k s i => laws_toByteSS.l0 k l s i) (fun i s => s = fill (fun i => (l.getD i [])) (List.replicate l.length ([] : List Int)) i) (fun _ _ => convByteSS l) (List.replicate l.length ([] : List Int)) (fill_zero _ _).symm
  (by
   intro i s hi hs
   subst hs
   have h1 := hl i (by omega)
   have hr : rd_L1 l (i : Int) = l.getD i [] := by simp [rd_L1]
   obtain ⟨K, e⟩ := toByteS_ev (l.getD i []) (inByteSS_at hin i hi)
   refine .inl ⟨_, rfl, rfl, K, 1, fun k hk => ?_⟩
   have e1 := e k hk
   simp only at e1
   simp only [laws_toByteSS.l0, hr, e1, Option.bind_some]
   rw [if_pos (by omega), if_pos (by omega), if_pos (by omega), w64s i (by omega), Int.toNat_natCast, fill_set _ _ _ (by simpa using hi) rfl])
  (by
   intro s hs
   subst hs
   refine ⟨0, 1, fun k _ => ?_⟩
   simp only [laws_toByteSS.l0]
   rw [if_neg (by omega)]
   have := fill_all (fun i => (l.getD i [])) (List.replicate l.length ([] : List Int))
   rw [List.length_replicate] at this
   rw [this, range_map (fun x => x) l []]
   rfl)
 refine ⟨K, fun k hk' => ?_⟩
 simp only [laws_toByteSS.f]
 rw [if_pos (by omega), if_pos (by omega)]
 have e := hk k hk'
 simp only [Int.toNat_natCast]
 exact e
theorem toWr_ev (n : Int) (l : List Int) (hi : inByteS l) : Ev (fun k => laws_toWr.f k n l) (n, l) := by
 obtain ⟨K, e⟩ := toByteS_ev l hi
 refine ⟨K, fun k hk => ?_⟩
 have e1 := e k hk
 simp only at e1
 simp only [laws_toWr.f, e1, Option.bind_some]
theorem toWrS_ev (l : List (S81)) (hin : inWrS l) : Ev (fun k => laws_toWrS.f k l) (convWrS l) := by
 have h := inWrS_len hin
 have hl : ∀ i, i ≤ l.length → (fill (fun i => (⟨(l.getD i z81).f0, (l.getD i z81).f1⟩ : S50)) (List.replicate l.length (z50 : S50)) i).length = l.length := fun i hi => by rw [fill_length _ _ _ (by simpa using hi)]; simp
 obtain ⟨K, hk⟩ := evRange0 (σ := List (S50)) l.length (fun k s i => laws_toWrS.l0 k l s i) (fun i s => s = fill (fun i => (⟨(l.getD i z81).f0, (l.getD i z81).f1⟩ : S50)) (List.replicate l.length (z50 : S50)) i) (fun _ _ => convWrS l) (List.replicate l.length (z50 : S50)) (fill_zero _ _).symm
  (by
   intro i s hi hs
   subst hs
   have h1 := hl i (by omega)
   have hr : rd_T81 l (i : Int) = l.getD i z81 := by simp [rd_T81]
   obtain ⟨K, e⟩ := toWr_ev (l.getD i z81).f0 (l.getD i z81).f1 (inWrS_at hin i hi)
   refine .inl ⟨_, rfl, rfl, K, 1, fun k hk => ?_⟩
   have e1 := e k hk
   simp only at e1
   simp only [laws_toWrS.l0, hr, e1, Option.bind_some]
   rw [if_pos (by omega), if_pos (by omega), if_pos (by omega), w64s i (by omega), Int.toNat_natCast, fill_set _ _ _ (by simpa using hi) rfl])
  (by
   intro s hs
   subst hs
   refine ⟨0, 1, fun k _ => ?_⟩
   simp only [laws_toWrS.l0]
   rw [if_neg (by omega)]
   have := fill_all (fun i => (⟨(l.getD i z81).f0, (l.getD i z81).f1⟩ : S50)) (List.replicate l.length (z50 : S50))
   rw [List.length_replicate] at this
   rw [this, range_map (fun x => (⟨x.f0, x.f1⟩ : S50)) l z81]
   rfl)
 refine ⟨K, fun k hk' => ?_⟩
 simp only [laws_toWrS.f]
 rw [if_pos (by omega), if_pos (by omega)]
 have e := hk k hk'
 simp only [Int.toNat_natCast]
 exact e
theorem toDev_ev (l : List (List Int)) (n : List S81) (f : Int) (d : Bool) (h1 : inByteSS l) (h2 : inWrS n) : Ev (fun k => laws_toDev.f k l n f d) (convByteSS l, convWrS n, f, d) := by
 obtain ⟨K, e⟩ := toByteSS_ev l h1
 obtain ⟨K2, e2⟩ := toWrS_ev n h2
 refine ⟨K + K2, fun k hk => ?_⟩
 have a1 := e k (by omega)
 have a2 := e2 k (by omega)
 simp only at a1 a2
 simp only [laws_toDev.f, a1, a2, Option.bind_some]
theorem spec_l1In_f (a b c : Int) : spec_l1In.f a b c = some (decide (b ≤ a ∧ a ≤ c)) := by
 unfold spec_l1In.f
 by_cases h : a ≥ b
 ·rw [if_pos h]; congr 1; rw [Bool.eq_iff_iff]; simp; omega
 ·rw [if_neg h]; congr 1; rw [Bool.eq_iff_iff]; simp; omega
def wrOkB (n : Nat) (x : S50) : Bool := decide (0 ≤ x.f0 ∧ x.f0 ≤ (n : Int) - 1) && decide ((x.f1.length : Int) ≤ 80)
def devOkB (s : List (List Int)) (c : List S50) (f : Int) : Bool :=
 allFrom (fun i => decide (((s.getD i []).length : Int) ≤ 80)) s.length 0 && (allFrom (fun i => wrOkB s.length (c.getD i z50)) c.length 0 && (decide (1 ≤ (s.length : Int) ∧ (s.length : Int) ≤ 60) && (decide ((c.length : Int) ≤ 60) && decide (-1 ≤ f ∧ f ≤ 1000))))
theorem spec_DevOk_ev (s : List (List Int)) (c : List S50) (f : Int) (d : Bool) (h1 : okByteSS s) (h2 : okWrS c) : Ev (fun k => spec_DevOk.f k s c f d) (devOkB s c f) := by
 have hs := okByteSS_len h1
 have hc := okWrS_len h2
 obtain ⟨K0, e0⟩ := evAll c.length (fun k i => spec_DevOk.l1 k i s c f d) (fun i => wrOkB s.length (c.getD i z50)) (decide (1 ≤ (s.length : Int) ∧ (s.length : Int) ≤ 60) && (decide ((c.length : Int) ≤ 60) && decide (-1 ≤ f ∧ f ≤ 1000)))
  (by
   intro i hi
   have hr : rd_T50 c (i : Int) = c.getD i z50 := by simp [rd_T50]
   refine ⟨0, 1, fun k _ => ?_⟩
   simp only [spec_DevOk.l1, hr, spec_l1In_f, Option.bind_some, wrOkB]
   rw [if_pos (by omega), if_pos (by omega), w64 (x := (s.length : Int) - 1) (by omega) (by omega), w64s i (by omega)]
   generalize c.getD i z50 = y at *
   by_cases q0 : 0 ≤ y.f0 ∧ y.f0 ≤ (s.length : Int) - 1
   ·simp only [decide_eq_true q0, Bool.true_and, if_true, decide_eq_true_eq]
    by_cases q : (y.f1.length : Int) > 80
    ·rw [if_pos q, if_neg (by omega)]
    ·rw [if_neg q, if_pos (by omega)]
   ·simp only [decide_eq_false q0, Bool.false_and, Bool.false_eq_true, if_false])
  (by
   refine ⟨0, 1, fun k _ => ?_⟩
   simp only [spec_DevOk.l1, spec_l1In_f, Option.bind_some]
   rw [if_neg (by omega)]
   cases decide (1 ≤ (s.length : Int) ∧ (s.length : Int) ≤ 60) with
   | false => simp only [Bool.false_and, Bool.false_eq_true, if_false]
   | true =>
    simp only [Bool.true_and, if_true]
    by_cases q : (c.length : Int) ≤ 60
    ·rw [if_pos q, decide_eq_true q, Bool.true_and]
    ·rw [if_neg q, decide_eq_false q, Bool.false_and]) 0 (Nat.zero_le _)
 have := evAll s.length (fun k i => spec_DevOk.l0 k i s c f d) (fun i => decide (((s.getD i []).length : Int) ≤ 80)) (allFrom (fun i => wrOkB s.length (c.getD i z50)) c.length 0 && (decide (1 ≤ (s.length : Int) ∧ (s.length : Int) ≤ 60) && (decide ((c.length : Int) ≤ 60) && decide (-1 ≤ f ∧ f ≤ 1000))))
  (by
   intro i hi
   have hr : rd_L1 s (i : Int) = s.getD i [] := by simp [rd_L1]
   refine ⟨0, 1, fun k _ => ?_⟩
   simp only [spec_DevOk.l0, hr, decide_eq_true_eq]
   rw [if_pos (by omega), if_pos (by omega), w64s i (by omega)]
   generalize s.getD i [] = y at *
   by_cases q : (y.length : Int) > 80
   ·rw [if_pos q, if_neg (by omega)]
   ·rw [if_neg q, if_pos (by omega)])
  (by
   refine ⟨K0, 1, fun k hk => ?_⟩
   have e1 := e0 k hk
   simp only [spec_DevOk.l0]
   rw [if_neg (by omega)]
   exact e1) 0 (Nat.zero_le _)
 obtain ⟨K, hk⟩ := this
 exact ⟨K, fun k hk' => hk k hk'⟩
theorem spec_l2Copy_ev (s : List (List Int)) (c : List S50) (f : Int) (d : Bool) (h1 : okByteSS s) (h2 : okWrS c) : Ev (fun k => spec_l2Copy.f k s c f d) (s, c, f, d) := by
 have hs := okByteSS_len h1
 have hc := okWrS_len h2
 obtain ⟨K1, e1⟩ := evRange0 (σ := List S50) c.length (fun k x i => spec_l2Copy.l1 k i s c f d s x f d) (fun i x => x = c.take i) (fun _ _ => (s, c, f, d)) [] rfl
  (by
   intro i x hi hx
   subst hx
   have hr : rd_T50 c (i : Int) = c.getD i z50 := by simp [rd_T50]
   have hl := okWrS_at h2 i hi
   unfold okByteS at hl
   refine .inl ⟨_, rfl, rfl, 0, 1, fun k _ => ?_⟩
   simp only [spec_l2Copy.l1, hr, Option.bind_some]
   rw [take_getD c i z50 hi]
   generalize c.getD i z50 = y at *
   rw [if_pos (by omega), if_pos (by omega), if_pos (by simp only [List.length_nil]; omega), if_pos (by rw [List.length_take]; omega), w64s i (by omega), List.nil_append])
  (by
   intro x hx
   subst hx
   refine ⟨0, 1, fun k _ => ?_⟩
   simp only [spec_l2Copy.l1]
   rw [if_neg (by omega), List.take_length])
 obtain ⟨K0, e0⟩ := evRange0 (σ := List (List Int)) s.length (fun k x i => spec_l2Copy.l0 k i s c f d x f d) (fun i x => x = s.take i) (fun _ _ => (s, c, f, d)) [] rfl
  (by
   intro i x hi hx
   subst hx
   have hr : rd_L1 s (i : Int) = s.getD i [] := by simp [rd_L1]
   have hl := okByteSS_at h1 i hi
   unfold okByteS at hl
   refine .inl ⟨_, rfl, rfl, 0, 1, fun k _ => ?_⟩
   simp only [spec_l2Copy.l0, hr, Option.bind_some]
   rw [take_getD s i [] hi]
   generalize s.getD i [] = y at *
   rw [if_pos (by omega), if_pos (by omega), if_pos (by simp only [List.length_nil]; omega), if_pos (by rw [List.length_take]; omega), w64s i (by omega), List.nil_append])
  (by
   intro x hx
   subst hx
   refine ⟨K1, 1, fun k hk => ?_⟩
   simp only [spec_l2Copy.l0]
   rw [if_neg (by omega), List.take_length]
   exact e1 k hk)
 exact ⟨K0, fun k hk => e0 k hk⟩
theorem impl_within_f (a b c : Int) : impl_within.f a b c = some (decide (b ≤ a ∧ a ≤ c)) := by
 unfold impl_within.f
 by_cases h : a ≥ b
 ·rw [if_pos h]; congr 1; rw [Bool.eq_iff_iff]; simp; omega
 ·rw [if_neg h]; congr 1; rw [Bool.eq_iff_iff]; simp; omega
theorem impl_DevOk_ev (s : List (List Int)) (c : List S50) (f : Int) (d : Bool) (h1 : okByteSS s) (h2 : okWrS c) : Ev (fun k => impl_DevOk.f k s c f d) (devOkB s c f) := by
 have hs := okByteSS_len h1
 have hc := okWrS_len h2
 obtain ⟨K0, e0⟩ := evAll c.length (fun k i => impl_DevOk.l1 k c (c.length : Int) i s c f d) (fun i => wrOkB s.length (c.getD i z50)) true
  (by
   intro i hi
   have hr : rd_T50 c (i : Int) = c.getD i z50 := by simp [rd_T50]
   refine ⟨0, 1, fun k _ => ?_⟩
   simp only [impl_DevOk.l1, hr, impl_within_f, Option.bind_some, wrOkB]
   rw [if_pos (by omega), if_pos (by omega), if_pos (by omega), w64 (x := (s.length : Int) - 1) (by omega) (by omega), w64s i (by omega)]
   generalize c.getD i z50 = y at *
   by_cases q0 : 0 ≤ y.f0 ∧ y.f0 ≤ (s.length : Int) - 1
   ·simp only [decide_eq_true q0, Bool.true_and, if_true, decide_eq_true_eq]
    by_cases q : (y.f1.length : Int) > 80
    ·rw [if_pos q, if_neg (by omega)]
    ·rw [if_neg q, if_pos (by omega)]
   ·simp only [decide_eq_false q0, Bool.false_and, Bool.false_eq_true, if_false])
  (by
   refine ⟨0, 1, fun k _ => ?_⟩
   simp only [impl_DevOk.l1]
   rw [if_neg (by omega)]) 0 (Nat.zero_le _)
 obtain ⟨K, e⟩ := evAll s.length (fun k i => impl_DevOk.l0 k s (s.length : Int) i s c f d) (fun i => decide (((s.getD i []).length : Int) ≤ 80)) (allFrom (fun i => wrOkB s.length (c.getD i z50)) c.length 0)
  (by
   intro i hi
   have hr : rd_L1 s (i : Int) = s.getD i [] := by simp [rd_L1]
   refine ⟨0, 1, fun k _ => ?_⟩
   simp only [impl_DevOk.l0, hr, decide_eq_true_eq]
   rw [if_pos (by omega), if_pos (by omega), if_pos (by omega), w64s i (by omega)]
   generalize s.getD i [] = y at *
   by_cases q : (y.length : Int) > 80
   ·rw [if_pos q, if_neg (by omega)]
   ·rw [if_neg q, if_pos (by omega)])
  (by
   refine ⟨K0, 1, fun k hk => ?_⟩
   have e1 := e0 k hk
   simp only [Bool.and_true] at e1
   simp only [impl_DevOk.l0]
   rw [if_neg (by omega)]
   exact e1) 0 (Nat.zero_le _)
 refine evSucc ⟨K, 1, fun k hk => ?_⟩
 have e1 : impl_DevOk.l0 k s (s.length : Int) 0 s c f d = _ := e k hk
 simp only [impl_DevOk.f, impl_within_f, Option.bind_some, impl_DevOk.j0, e1, devOkB]
 cases q1 : decide (1 ≤ (s.length : Int) ∧ (s.length : Int) ≤ 60) with
 | false => simp
 | true =>
  simp only [if_true, Bool.true_and]
  by_cases q2 : (c.length : Int) > 60
  ·rw [if_pos q2, decide_eq_false (by omega)]; simp
  ·rw [if_neg q2, decide_eq_true (show (c.length : Int) ≤ 60 by omega)]
   cases decide (-1 ≤ f ∧ f ≤ 1000) <;> simp
theorem impl_joined_ev (ls : List (List Int)) (h : ls.flatten.length ≤ 4194304) (h2 : ls.length ≤ 4194304) : Ev (fun k => impl_joined.f k ls) ls.flatten := by
 obtain ⟨K, hk⟩ := evRange0 (σ := List Int) ls.length (fun k s i => impl_joined.l0 k s ls (ls.length : Int) i) (fun i s => s ++ (ls.drop i).flatten = ls.flatten) (fun _ _ => ls.flatten) [] (by simp)
  (by
   intro i s hi hs
   have hd := drop_getD ls i [] hi
   have hr : rd_L1 ls (i : Int) = ls.getD i [] := by simp [rd_L1]
   rw [hd, List.flatten_cons] at hs
   generalize ls.getD i [] = y at *
   have hl : s.length + y.length ≤ 4194304 := by
    have := congrArg List.length hs
    simp only [List.length_append] at this
    omega
   refine .inl ⟨s ++ y, by rw [List.append_assoc]; exact hs, rfl, 0, 1, fun k _ => ?_⟩
   simp only [impl_joined.l0, hr]
   rw [if_pos (by omega), if_pos (by omega), if_pos (by omega), if_pos (by omega), w64s i (by omega)])
  (by
   intro s hs
   refine ⟨0, 1, fun k _ => ?_⟩
   simp only [impl_joined.l0]
   rw [if_neg (by omega)]
   simpa using hs)
 exact ⟨K, fun k hk' => hk k hk'⟩
def bitB (k : Int) (i : Nat) : Bool := decide (i < 30) && decide (Go.bits .and .i64 (shr .i64 k (i : Int)) 1 = 1)
def fallSecs (s : List (List Int)) (c : List S50) (k : Int) : Nat → List (List Int)
 | 0 => s
 | i + 1 => if bitB k i = true then (fallSecs s c k i).set (c.getD i z50).f0.toNat (c.getD i z50).f1 else fallSecs s c k i
def keepOf (k : Int) : Int := if 0 ≤ k ∧ k ≤ 1073741823 then k else 0
def fallDev (s : List (List Int)) (c : List S50) (f : Int) (d : Bool) (k : Int) : List (List Int) × List S50 × Int × Bool := if devOkB s c f = true then (fallSecs s c (keepOf k) c.length, [], -1, false) else (s, c, f, d)
theorem bulkByteSS_set : ∀ (l : List (List Int)) (i : Nat) (x : List Int), bulkByteSS (l.set i x) ≤ bulkByteSS l + x.length
 | [], i, x => by simp [bulkByteSS]
 | y :: ys, 0, x => by simp only [lB, bulkByteSS]; omega
 | y :: ys, i + 1, x => by
  have := bulkByteSS_set ys i x
  simp only [lC, bulkByteSS]
  omega
theorem bulkWrS_take (c : List S50) : ∀ i, i < c.length → bulkWrS (c.take i) + (c.getD i z50).f1.length + 1 ≤ bulkWrS (c.take (i + 1)) := by
 induction c with
 | nil => intro i h; simp at h
 | cons y ys ih =>
  intro i h
  cases i with
  | zero => simp [bulkWrS]; omega
  | succ i =>
   have := ih i (by simpa using h)
   simp only [List.take_succ_cons, bulkWrS, List.getD_cons_succ]
   omega
def burnF (a : Int) (d : Bool) : Int × Bool × Bool := if a = 0 then (-1, true, false) else if 0 < a then (wrap64 (a - 1), d, true) else (a, d, true)
def flushSecs (s : List (List Int)) (c : List S50) : Nat → List (List Int)
 | 0 => s
 | i + 1 => (flushSecs s c i).set (c.getD i z50).f0.toNat (c.getD i z50).f1
theorem flushSecs_length (s : List (List Int)) (c : List S50) : ∀ i, (flushSecs s c i).length = s.length
 | 0 => rfl
 | i + 1 => by
  unfold flushSecs
  rw [List.length_set, flushSecs_length s c i]
theorem bulk_flushSecs (s : List (List Int)) (c : List S50) : ∀ i, i ≤ c.length → bulkByteSS (flushSecs s c i) ≤ bulkByteSS s + bulkWrS (c.take i)
 | 0, _ => by simp [flushSecs]
 | i + 1, h => by
  have h1 := bulk_flushSecs s c i (by omega)
  have h2 := bulkWrS_take c i (by omega)
  have := bulkByteSS_set (flushSecs s c i) (c.getD i z50).f0.toNat (c.getD i z50).f1
  unfold flushSecs
  omega
def flushed (s : List (List Int)) (c : List S50) (f : Int) (d : Bool) : List (List Int) × List S50 × Int × Bool :=
 if d = true then (s, c, f, d) else if (burnF f false).2.2 = true then (flushSecs s c c.length, [], (burnF f false).1, (burnF f false).2.1) else (s, c, (burnF f false).1, (burnF f false).2.1)
def flushDev (s : List (List Int)) (c : List S50) (f : Int) (d : Bool) : List (List Int) × List S50 × Int × Bool := if devOkB s c f = true then flushed s c f d else (s, c, f, d)
theorem flushDev_ok1 {s : List (List Int)} {c : List S50} (f : Int) (d : Bool) (h : bulkByteSS s + bulkWrS c ≤ 4194304) : okByteSS (flushDev s c f d).1 := by
 have h1 := bulk_flushSecs s c c.length (Nat.le_refl _)
 rw [List.take_length] at h1
 unfold flushDev flushed okByteSS
 split
 ·split
  ·simp only; omega
  ·split
   ·simp only; omega
   ·simp only; omega
 ·simp only; omega
theorem flushDev_ok2 {s : List (List Int)} {c : List S50} (f : Int) (d : Bool) (h : okWrS c) : okWrS (flushDev s c f d).2.1 := by
 unfold flushDev flushed
 split
 ·split
  ·exact h
  ·split
   ·simp [okWrS, bulkWrS]
   ·exact h
 ·exact h
end Go.Proofs.Ytilhcaofpfeioaa.Pure
