/- The law: the functions that it reaches, each with the proof that the machine's call comes to its answer, what they answer, and the law's row; each theorem says its conditions itself. -/
import Derived.Test.YtilhcaofpfeioaaZFnFalls1
namespace Go.Proofs.Ytilhcaofpfeioaa.PFnFalls
open Go.Proofs.Ytilhcaofpfeioaa.Law Go.Proofs.Ytilhcaofpfeioaa.Core
open Go.RowKit Go.Proofs.YtilhcaofpfeioaaW.PrintWords Go.Proofs.YtilhcaofpfeioaaW.PrintLast Go.Proofs.YtilhcaofpfeioaaW.PrintMore
attribute [local go_sem] max2_int min2_int max_two min_two max_three min_three max_four min_four   -- for this text's walks alone
set_option linter.unusedVariables false
set_option linter.unusedSimpArgs false
def impl_FallDev.f (l0_0 : List (List Int)) (l0_1 : List (S50)) (a0_2 : Int) (a0_3 : Bool) (a1 : Int) : Option ((List (List Int)) × (List (S50)) × Int × Bool) := impl_FallDevS.f l0_0 l0_1 a0_2 a0_3 a1
theorem impl_FallDev.calls (A0_0 : Option Addr) (c0_0 : Nat) (l0_0 : List (List Int)) (A0_1 : Option Addr) (c0_1 : Nat) (l0_1 : List (S50)) (a0_2 : Int) (a0_3 : Bool) (a1 : Int) (r1 : List (List Int)) (r2 : List (S50)) (r3 : Int) (r4 : Bool) (w : World) (hr0_0 : Kd.C (Kd.slice 5 (Kd.int .u8)) w A0_0 l0_0.length l0_0) (hc0_0 : l0_0.length ≤ c0_0) (hr0_1 : Kd.C k50 w A0_1 l0_1.length l0_1) (hc0_1 : l0_1.length ≤ c0_1) (h : impl_FallDev.f l0_0 l0_1 a0_2 a0_3 a1 = some (r1, r2, r3, r4)) :
  Calls Try.prog 32 #[.agg #[.slice A0_0 l0_0.length c0_0, .slice A0_1 l0_1.length c0_1, .int .i64 a0_2, .bool a0_3], .int .i64 a1] w fun e w' => ∃ v0_ v1_ : Value, e = .returned (.agg #[v0_, v1_, .int .i64 r3, .bool r4]) ∧ Kd.N (Kd.slice 5 (Kd.int .u8)) 37 w' w.heap.size (fun k_ => (w.heap.size ≤ k_) ∧ some k_ ≠ (v1_ : Value).ownBlock) v0_ r1 ∧ Kd.N k50 50 w' w.heap.size (fun k_ => (w.heap.size ≤ k_) ∧ some k_ ≠ (v0_ : Value).ownBlock) v1_ r2 ∧ Below w.heap.size w w' := by
 exact (impl_FallDevS.calls (In 0 w.heap.size) A0_0 c0_0 l0_0 (In 0 w.heap.size) A0_1 c0_1 l0_1 a0_2 a0_3 a1 r1 r2 r3 r4 w ⟨_, _, rfl, hc0_0, C_F (Kd.heap_slice _ (Kd.heap_int _)) hr0_0⟩ ⟨_, _, rfl, hc0_1, C_F (Kd.heap_iso _ (Kd.heap_pair (Kd.heap_int _) (Kd.heap_slice _ (Kd.heap_int _)))) hr0_1⟩ h).mono fun e w' ⟨v0, v1, m, he, h1, h2, h3, h4, h5⟩ => ⟨v0, v1, he, Kd.bA (Kd.R_N (Kd.S_R h3)) (fun k_ hk_ => ⟨hk_.1, fun he_ => by have h6 := (Kd.S_R h4).1 k_ he_.symm; unfold In at h6 hk_; omega⟩), Kd.bA (Kd.R_N (Kd.S_R h4)) (fun k_ hk_ => ⟨Nat.le_trans h1 hk_.1, fun he_ => by have h6 := (Kd.S_R h3).1 k_ he_.symm; unfold In at h6 hk_; omega⟩), h5⟩
def laws_big.f (l0 : List Int) : Option (Bool) := some (decide ((l0.length : Int) > 1048576))
set_option maxHeartbeats 8000000 in
set_option maxRecDepth 100000 in
theorem laws_big.calls (A0 : Option Addr) (c0 : Nat) (l0 : List Int) (r : Bool) (w : World) (hr0 : Kd.C (Kd.int .u8) w A0 l0.length l0) (hc0 : l0.length ≤ c0) (h : laws_big.f l0 = some r) :
  Calls Try.prog 33 #[.slice A0 l0.length c0] w fun e w' => e = .returned (.bool r) ∧ Drawn0 w w' := by
 have HR0 := aA.mk hr0
 have HC0 := aA.mk hc0
 clear hr0 hc0
 have H : (some (decide ((l0.length : Int) > 1048576))) = some r := h
 clear h
 obtain rfl := Option.some.inj H
 go_enter Try.func33, Try.ntmps33
 go_wp2
 go_ret
 exact ⟨by first | rfl | (simp; done) | (simp [*]; done), by repeat (first | exact Drawn0.refl _ | apply Drawn0.step)⟩
/-- A state of type 85 at block g of W; what its slices lead to came in by w0. -/
def IsS85 (w0 W : World) (g : Nat) (f0 : List Int) (f1 : Int) (f2 : Int) : Prop := ∃ A0 c0, W.heap[g]? = some (.cells #[.slice A0 f0.length c0, .int .i64 f1, .int .i64 f2] 85 (0, 0)) ∧ w0.heap.size ≤ g ∧ Kd.C (Kd.int .u8) w0 A0 f0.length f0
theorem IsS85.grown {w0 W : World} {g : Nat} {f0 : List Int} {f1 : Int} {f2 : Int} {W1 : World} {row : Option Nat} (h : IsS85 w0 W g f0 f1 f2) (hw : W.grownBy W1 row) (hne : some g ≠ row) : IsS85 w0 W1 g f0 f1 f2 := by
 obtain ⟨A0, c0, hb, hg, hr0⟩ := h
 exact ⟨A0, c0, blk_grown hb hw hne, hg, hr0⟩
theorem IsS85.fresh {w0 W : World} {g : Nat} {f0 : List Int} {f1 : Int} {f2 : Int} (h : IsS85 w0 W g f0 f1 f2) : ∀ k, W.heap.size ≤ k → k ≠ g := by
 obtain ⟨A0, c0, hb, hg, hr0⟩ := h
 exact Kd.freshB hb
theorem IsS85.kept {w0 W : World} {g : Nat} {f0 : List Int} {f1 : Int} {f2 : Int} {W1 : World} {S : Nat → Prop} (h : IsS85 w0 W g f0 f1 f2) (hk : Kept W W1 S) (hne : ¬ S g) : IsS85 w0 W1 g f0 f1 f2 := by
 obtain ⟨A0, c0, hb, hg, hr0⟩ := h
 exact ⟨A0, c0, bG hb hk hne, hg, hr0⟩
theorem IsS85.below {w0 W : World} {g : Nat} {f0 : List Int} {f1 : Int} {f2 : Int} {W1 : World} (h : IsS85 w0 W g f0 f1 f2) (hw : Below W.heap.size W W1) : IsS85 w0 W1 g f0 f1 f2 := h.grown (grown_of_below hw none) (by simp)
theorem IsS85.alloc {w0 W : World} {g : Nat} {f0 : List Int} {f1 : Int} {f2 : Int} (h : IsS85 w0 W g f0 f1 f2) (o : Obj) : IsS85 w0 (W.alloc o) g f0 f1 f2 := h.below (aM (Below.refl _ _) o)
theorem IsS85.drewN {w0 W : World} {g : Nat} {f0 : List Int} {f1 : Int} {f2 : Int} (h : IsS85 w0 W g f0 f1 f2) (m : Nat) : IsS85 w0 (W.drewN m) g f0 f1 f2 := h
theorem IsS85.drew {w0 W : World} {g : Nat} {f0 : List Int} {f1 : Int} {f2 : Int} (h : IsS85 w0 W g f0 f1 f2) : IsS85 w0 W.drew g f0 f1 f2 := h
theorem IsS85.at_ {w0 W : World} {g : Nat} {f0 : List Int} {f1 : Int} {f2 : Int} {w' : World} {m : Nat} (hq : W.drewN m = w') (h : IsS85 w0 W g f0 f1 f2) : IsS85 w0 w' g f0 f1 f2 := by subst hq; exact IsS85.drewN h m
theorem IsS85.apart {w0 W : World} {g : Nat} {f0 : List Int} {f1 : Int} {f2 : Int} {α : Type} {d : Kd α} {e : Nat} {base : Nat} {ok : Nat → Prop} {v : Value} {xs : List α} (h : IsS85 w0 W g f0 f1 f2) (ho : d.R e W base ok v xs) (ht : ∀ q, q ∈ e :: d.E → q ≠ 85) : d.R e W base (fun k => ok k ∧ k ≠ g) v xs := by
 obtain ⟨A0, c0, hb, hg, hr0⟩ := h
 exact Kd.R_types ho hb ht
theorem IsS85.own_ne {w0 W : World} {g : Nat} {f0 : List Int} {f1 : Int} {f2 : Int} {α : Type} {d : Kd α} {e : Nat} {base : Nat} {ok : Nat → Prop} {v : Value} {xs : List α} (h : IsS85 w0 W g f0 f1 f2) (ho : d.R e W base ok v xs) (ht : e ≠ 85) : some g ≠ v.ownBlock := by
 obtain ⟨A0, c0, hb, hg, hr0⟩ := h
 exact Kd.R_ne ho hb ht
theorem IsS85.lt {w0 W : World} {g : Nat} {f0 : List Int} {f1 : Int} {f2 : Int} (h : IsS85 w0 W g f0 f1 f2) : g < W.heap.size := by
 obtain ⟨A0, c0, hb, hg, hr0⟩ := h
 exact blk_lt hb
theorem IsS85.ge {w0 W : World} {g : Nat} {f0 : List Int} {f1 : Int} {f2 : Int} (h : IsS85 w0 W g f0 f1 f2) : w0.heap.size ≤ g := by
 obtain ⟨A0, c0, hb, hg, hr0⟩ := h
 exact hg
theorem IsS85.ne_blk {w0 W : World} {g : Nat} {f0 : List Int} {f1 : Int} {f2 : Int} {a : Nat} {cs : Array Value} {t : TypeId} {fr : Nat × Nat} (h : IsS85 w0 W g f0 f1 f2) (hb2 : W.heap[a]? = some (.cells cs t fr)) (ht : t ≠ 85) : g ≠ a := by
 obtain ⟨A0, c0, hb, hg, hr0⟩ := h
 rintro rfl
 rw [hb] at hb2
 injection hb2 with hb2
 injection hb2 with _ ht2
 exact ht ht2.symm
theorem IsS85.far {w0 W : World} {g : Nat} {f0 : List Int} {f1 : Int} {f2 : Int} {p : Addr} (h : IsS85 w0 W g f0 f1 f2) (hne : g ≠ p.block) (u : Value) : IsS85 w0 (W.setCell p u) g f0 f1 f2 := by
 obtain ⟨A0, c0, hb, hg, hr0⟩ := h
 exact ⟨A0, c0, blk_far hb hne u, hg, hr0⟩
theorem cellS85_0 {W : World} {g : Nat} {A0 : Option Addr} {c0 : Nat} {f0 : List Int} {f1 : Int} {f2 : Int} (h : W.heap[g]? = some (.cells #[.slice A0 f0.length c0, .int .i64 f1, .int .i64 f2] 85 (0, 0))) : W.cell? ⟨g, 0, none⟩ = some (.slice A0 f0.length c0) := (aD h 0).trans rfl
theorem cellS85_1 {W : World} {g : Nat} {A0 : Option Addr} {c0 : Nat} {f0 : List Int} {f1 : Int} {f2 : Int} (h : W.heap[g]? = some (.cells #[.slice A0 f0.length c0, .int .i64 f1, .int .i64 f2] 85 (0, 0))) : W.cell? ⟨g, 1, none⟩ = some (.int .i64 f1) := (aD h 1).trans rfl
theorem IsS85.set_1 {w0 W : World} {g : Nat} {f0 : List Int} {f1 : Int} {f2 : Int} (h : IsS85 w0 W g f0 f1 f2) (x : Int) : IsS85 w0 (W.setCell ⟨g, 1, none⟩ (.int .i64 x)) g f0 x f2 := by
 obtain ⟨A0, c0, hb, hg, hr0⟩ := h
 exact ⟨A0, c0, by simpa using blk_set hb 1 (.int .i64 x), hg, hr0⟩
theorem cellS85_2 {W : World} {g : Nat} {A0 : Option Addr} {c0 : Nat} {f0 : List Int} {f1 : Int} {f2 : Int} (h : W.heap[g]? = some (.cells #[.slice A0 f0.length c0, .int .i64 f1, .int .i64 f2] 85 (0, 0))) : W.cell? ⟨g, 2, none⟩ = some (.int .i64 f2) := (aD h 2).trans rfl
theorem IsS85.set_2 {w0 W : World} {g : Nat} {f0 : List Int} {f1 : Int} {f2 : Int} (h : IsS85 w0 W g f0 f1 f2) (x : Int) : IsS85 w0 (W.setCell ⟨g, 2, none⟩ (.int .i64 x)) g f0 f1 x := by
 obtain ⟨A0, c0, hb, hg, hr0⟩ := h
 exact ⟨A0, c0, by simpa using blk_set hb 2 (.int .i64 x), hg, hr0⟩
theorem IsS85.new (w0 W : World) (A0 : Option Addr) (c0 : Nat) (f0 : List Int) (f1 : Int) (f2 : Int) (hB : Below w0.heap.size w0 W) (hr0 : Kd.C (Kd.int .u8) w0 A0 f0.length f0) : IsS85 w0 (W.alloc (.cells #[.slice A0 f0.length c0, .int .i64 f1, .int .i64 f2] 85)) W.heap.size f0 f1 f2 := ⟨A0, c0, by simpa using heap_alloc_new W _, hB.size, hr0⟩
def spec_l1New.l0 : Nat → List Int → Int → Int → Option (List Int × Int × Int)
 | 0, _, _, _ => none
 | k + 1, x0, x3, x4 => if x4 < (x0.length : Int) then (if x4 < 4000 then (if 0 ≤ x4 then (spec_l1New.l0 k x0 (Go.bits .and .i64 (wrap64 ((wrap64 ((wrap64 (x3 * 137)) + (wrap64 (rd x0 x4)))) + 11)) 1073741823) (wrap64 (x4 + 1))) else (none)) else (some (x0, 0, x3))) else (some (x0, 0, x3))
def spec_l1New.f (k : Nat) (l0 : List Int) : Option (List Int × Int × Int) := spec_l1New.l0 k l0 (wrap64 (941941 + (l0.length : Int))) 0
set_option maxHeartbeats 8000000 in
set_option maxRecDepth 100000 in
theorem spec_l1New.calls (k : Nat) (A0 : Option Addr) (c0 : Nat) (l0 : List Int) (r1 : List Int) (r2 : Int) (r3 : Int) (w0 w : World) (hB : Below w0.heap.size w0 w) (hr0 : Kd.C (Kd.int .u8) w0 A0 l0.length l0) (hc0 : l0.length ≤ c0) (h : spec_l1New.f k l0 = some (r1, r2, r3)) :
  Calls Try.prog 61 #[.slice A0 l0.length c0] w fun e w' => ∃ g_ : Nat, e = .returned (.pointer (some ⟨g_, 0, none⟩)) ∧ IsS85 w0 w' g_ r1 r2 r3 ∧ Below w0.heap.size w0 w' ∧ Below w.heap.size w w' := by
 have hu85 := Try.underlying85
 have HR0 := aA.mk hr0
 have HC0 := aA.mk hc0
 clear hr0 hc0
 have HBW := aA.mk (Below.refl w.heap.size w)
 have HW0 := aA.mk hB.size
 have HB := aA.mk hB
 clear hB
 have H : (spec_l1New.l0 k l0 (wrap64 (941941 + (l0.length : Int))) 0) = some (r1, r2, r3) := h
 clear h
 have H' := aA.mk H
 clear H
 go_enter Try.func61, Try.ntmps61
 go_wp2
 go_loopg [3, 4] k (fun kq v3 v4 w' => ∃ (x3_1 : Int) (x4_1 : Int), v3 = .int .i64 x3_1 ∧ v4 = .int .i64 x4_1 ∧ aA (spec_l1New.l0 kq l0 x3_1 x4_1 = some (r1, r2, r3)) ∧ aA (kq ≤ k) ∧ aA (Below w0.heap.size w0 w') ∧ aA (Below w.heap.size w w'))
 case atStart => exact ⟨(wrap64 (941941 + (l0.length : Int))), (0), (by first | rfl | (simp; done) | (simp [*]; done)), (by first | rfl | (simp; done) | (simp [*]; done)), H', ⟨Nat.le_refl _⟩, ⟨by repeat (first | (with_reducible first | exact HB.out | apply aM | apply aG | apply aJ) | exact HB.out)⟩, ⟨by repeat (first | (with_reducible first | exact HBW.out | apply aM | apply aG | apply aJ) | exact HBW.out)⟩⟩
 case round =>
  clear H'
  obtain ⟨x3_1, x4_1, rfl, rfl, HA, HK1, HB, HBW⟩ := hrel
  cases gk with
  | zero => exact absurd HA.out (by simp [spec_l1New.l0])
  | succ k1 =>
   have H := HA.out
   clear HA
   simp only [spec_l1New.l0] at H
   by_cases c2 : x4_1 < (l0.length : Int)
   ·rw [if_pos c2] at H
    have c2b0 : decide (x4_1 < (l0.length : Int)) = true := decide_eq_true c2
    clear c2
    by_cases c3 : x4_1 < 4000
    ·rw [if_pos c3] at H
     have c3b0 : decide (x4_1 < 4000) = true := decide_eq_true c3
     clear c3
     by_cases c4 : 0 ≤ x4_1
     ·rw [if_pos c4] at H
      have c4b0 : decide (0 ≤ x4_1) = true := decide_eq_true c4
      clear c4
      have H' := aA.mk H
      clear H
      have p139 : 0 ≤ (x4_1 : Int) := lE (by first | (with_reducible assumption) | assumption)
      have q139 : x4_1 < (l0.length : Int) := lE (by first | (with_reducible assumption) | assumption)
      obtain ⟨ad139, e139, hx139_0⟩ := Kd.at_int HR0.out x4_1 p139 q139
      cases e139
      replace hx139_0 := pw_cell_below HB.out hx139_0
      replace p139 := eq_true p139
      replace q139 := eq_true q139
      go_wp2
      go_roundg k1
      case measure => have := HK1.out; omega
      case rel => exact ⟨(Go.bits .and .i64 (wrap64 ((wrap64 ((wrap64 (x3_1 * 137)) + (wrap64 (rd l0 x4_1)))) + 11)) 1073741823), (wrap64 (x4_1 + 1)), (by first | rfl | (simp; done) | (simp [*]; done)), (by first | rfl | (simp; done) | (simp [*]; done)), H', ⟨by have := HK1.out; omega⟩, ⟨by repeat (first | (with_reducible first | exact HB.out | apply aM | apply aG | apply aJ) | exact HB.out)⟩, ⟨by repeat (first | (with_reducible first | exact HBW.out | apply aM | apply aG | apply aJ) | exact HBW.out)⟩⟩
     ·rw [if_neg c4] at H
      exact absurd H (by simp)
    ·rw [if_neg c3] at H
     have c3b0 : decide (x4_1 < 4000) = false := decide_eq_false c3
     clear c3
     simp only [Option.some.injEq, Prod.mk.injEq] at H
     obtain ⟨rfl, rfl, rfl⟩ := H
     go_wp2_with (first | ((with_reducible refine gate_dst (N := 31) rfl ?_); refine box_event ?hg (N := 31) ?hd (cs := #[.slice A0 l0.length c0, .int .i64 0, .int .i64 x3_1]) (t := 85) ?hr ?_; (case hd => rfl); (case hg => rfl); (case hr => first | (go_simp; done) | (go_simp; rfl)); intro gb140 hg w5 hbox hb; have n0_ := aA.mk (bD HBW.out hb); have n1_ := aA.mk (bD (by repeat (first | (with_reducible first | exact HB.out | apply aM | apply aG | apply aJ) | exact HB.out)) hb); have n2_ := aA.mk (hbox); have n3_ := aA.mk ((by rw [hg]; exact (bH (by repeat (first | (with_reducible first | exact HBW.out | apply aM | apply aG | apply aJ) | exact HBW.out))) : w.heap.size ≤ gb140)); have n4_ := aA.mk ((Nat.le_trans HW0.out (by rw [hg]; exact (bH (by repeat (first | (with_reducible first | exact HBW.out | apply aM | apply aG | apply aJ) | exact HBW.out))) : w.heap.size ≤ gb140) : w0.heap.size ≤ gb140)); clear HBW; clear HB; have HBW := n0_; have HB := n1_; have BK140 := n2_; have GW140 := n3_; have GE140 := n4_; clear n0_ n1_ n2_ n3_ n4_; clear hb hbox hg))
     go_ret
     exact ⟨_, rfl, (show IsS85 w0 _ gb140 l0 0 x3_1 from ⟨_, _, by (with_reducible repeat (first | refine aQ ?_ _ | refine aN ?_ | refine aH ?_ _)); exact BK140.out, GE140.out, HR0.out⟩), by repeat (first | (with_reducible first | exact HB.out | apply aM | apply aG | apply aJ | refine aE ?_ GE140.out) | exact HB.out), by repeat (first | (with_reducible first | exact HBW.out | apply aM | apply aG | apply aJ | refine aE ?_ GW140.out) | exact HBW.out)⟩
   ·rw [if_neg c2] at H
    have c2b0 : decide (x4_1 < (l0.length : Int)) = false := decide_eq_false c2
    clear c2
    simp only [Option.some.injEq, Prod.mk.injEq] at H
    obtain ⟨rfl, rfl, rfl⟩ := H
    go_wp2_with (first | ((with_reducible refine gate_dst (N := 31) rfl ?_); refine box_event ?hg (N := 31) ?hd (cs := #[.slice A0 l0.length c0, .int .i64 0, .int .i64 x3_1]) (t := 85) ?hr ?_; (case hd => rfl); (case hg => rfl); (case hr => first | (go_simp; done) | (go_simp; rfl)); intro gb141 hg w6 hbox hb; have n0_ := aA.mk (bD HBW.out hb); have n1_ := aA.mk (bD (by repeat (first | (with_reducible first | exact HB.out | apply aM | apply aG | apply aJ) | exact HB.out)) hb); have n2_ := aA.mk (hbox); have n3_ := aA.mk ((by rw [hg]; exact (bH (by repeat (first | (with_reducible first | exact HBW.out | apply aM | apply aG | apply aJ) | exact HBW.out))) : w.heap.size ≤ gb141)); have n4_ := aA.mk ((Nat.le_trans HW0.out (by rw [hg]; exact (bH (by repeat (first | (with_reducible first | exact HBW.out | apply aM | apply aG | apply aJ) | exact HBW.out))) : w.heap.size ≤ gb141) : w0.heap.size ≤ gb141)); clear HBW; clear HB; have HBW := n0_; have HB := n1_; have BK141 := n2_; have GW141 := n3_; have GE141 := n4_; clear n0_ n1_ n2_ n3_ n4_; clear hb hbox hg))
    go_ret
    exact ⟨_, rfl, (show IsS85 w0 _ gb141 l0 0 x3_1 from ⟨_, _, by (with_reducible repeat (first | refine aQ ?_ _ | refine aN ?_ | refine aH ?_ _)); exact BK141.out, GE141.out, HR0.out⟩), by repeat (first | (with_reducible first | exact HB.out | apply aM | apply aG | apply aJ | refine aE ?_ GE141.out) | exact HB.out), by repeat (first | (with_reducible first | exact HBW.out | apply aM | apply aG | apply aJ | refine aE ?_ GW141.out) | exact HBW.out)⟩
def spec_l1In.f (a0 : Int) (a1 : Int) (a2 : Int) : Option (Bool) := if a0 ≥ a1 then (some (decide (a0 ≤ a2))) else (some false)
set_option maxHeartbeats 8000000 in
set_option maxRecDepth 100000 in
theorem spec_l1In.calls (a0 : Int) (a1 : Int) (a2 : Int) (r : Bool) (w : World) (h : spec_l1In.f a0 a1 a2 = some r) :
  Calls Try.prog 43 #[.int .i64 a0, .int .i64 a1, .int .i64 a2] w fun e w' => e = .returned (.bool r) ∧ Drawn0 w w' := by
 have H : (if a0 ≥ a1 then (some (decide (a0 ≤ a2))) else (some false)) = some r := h
 clear h
 by_cases c4 : a0 ≥ a1
 ·rw [if_pos c4] at H
  have c4b0 : decide (a1 ≤ a0) = true := decide_eq_true c4
  clear c4
  obtain rfl := Option.some.inj H
  go_enter Try.func43, Try.ntmps43
  go_wp2
  go_ret
  exact ⟨by first | rfl | (simp; done) | (simp [*]; done), by repeat (first | exact Drawn0.refl _ | apply Drawn0.step)⟩
 ·rw [if_neg c4] at H
  have c4b0 : decide (a1 ≤ a0) = false := decide_eq_false c4
  clear c4
  obtain rfl := Option.some.inj H
  go_enter Try.func43, Try.ntmps43
  go_wp2
  go_ret
  exact ⟨by first | rfl | (simp; done) | (simp [*]; done), by repeat (first | exact Drawn0.refl _ | apply Drawn0.step)⟩
def spec_DevNew.l0 : Nat → Int → Int → List (List Int) → Int → Bool → Option ((List (List Int)) × (List (S50)) × Int × Bool)
 | 0, _, _, _, _, _ => none
 | k + 1, x0, x4, x145000, x145002, x145003 => if x4 < x0 then (if x145000.length < 5864062014805 then (spec_DevNew.l0 k x0 (wrap64 (x4 + 1)) (x145000 ++ [(([] : List Int))]) x145002 x145003) else (none)) else (some (x145000, ([] : List (S50)), x145002, x145003))
def spec_DevNew.f (k : Nat) (a0 : Int) : Option ((List (List Int)) × (List (S50)) × Int × Bool) := (spec_l1In.f a0 1 60).bind fun t143 => (if t143 = true then (spec_DevNew.l0 k a0 0 ([] : List (List Int)) (-1) false) else (some (([] : List (List Int)), ([] : List (S50)), 0, false)))
set_option maxHeartbeats 8000000 in
set_option maxRecDepth 100000 in
theorem spec_DevNew.calls (k : Nat) (a0 : Int) (r1 : List (List Int)) (r2 : List (S50)) (r3 : Int) (r4 : Bool) (w : World) (h : spec_DevNew.f k a0 = some (r1, r2, r3, r4)) :
  Calls Try.prog 12 #[.int .i64 a0] w fun e w' => ∃ v0_ v1_ : Value, e = .returned (.agg #[v0_, v1_, .int .i64 r3, .bool r4]) ∧ Kd.S (Kd.slice 5 (Kd.int .u8)) 37 w' w.heap.size (fun _ => True) v0_ r1 ∧ Kd.S k50 50 w' w.heap.size (fun _ => True) v1_ r2 ∧ Below w.heap.size w w' := by
 have hu25 := Try.underlying25
 have HB := aA.mk (Below.refl w.heap.size w)
 have H : ((spec_l1In.f a0 1 60).bind fun t143 => (if t143 = true then (spec_DevNew.l0 k a0 0 ([] : List (List Int)) (-1) false) else (some (([] : List (List Int)), ([] : List (S50)), 0, false)))) = some (r1, r2, r3, r4) := h
 clear h
 replace H := lF H
 obtain ⟨t143, A20, H⟩ := H
 replace H : (if t143 = true then (spec_DevNew.l0 k a0 0 ([] : List (List Int)) (-1) false) else (some (([] : List (List Int)), ([] : List (S50)), 0, false))) = some (r1, r2, r3, r4) := H
 have A2 := aA.mk A20
 clear A20
 by_cases c3 : t143 = true
 ·subst c3
  have H1 : (spec_DevNew.l0 k a0 0 ([] : List (List Int)) (-1) false) = some (r1, r2, r3, r4) := by rw [if_pos rfl] at H; exact H
  clear H
  have H := H1
  clear H1
  have H' := aA.mk H
  clear H
  go_enter Try.func12, Try.ntmps12
  go_wp2_with (first | ((with_reducible refine gate_dst (N := 2) rfl ?_); refine box_event ?hg (N := 2) ?hd (cs := #[.slice none 0 0, .slice none 0 0, .int .i64 0, .bool false]) (t := 25) ?hr ?_; (case hd => rfl); (case hg => rfl); (case hr => first | (go_simp; done) | (go_simp; rfl)); intro gb142 hg w4 hbox hb; have n0_ := aA.mk (bD (by repeat (first | (with_reducible first | exact HB.out | apply aM | apply aG | apply aJ) | exact HB.out)) hb); have n1_ := aA.mk (hbox); have n2_ := aA.mk ((by rw [hg]; exact (bH (by repeat (first | (with_reducible first | exact HB.out | apply aM | apply aG | apply aJ) | exact HB.out))) : w.heap.size ≤ gb142)); have n3_ := aA.mk ((by rw [hg]; exact (bH (by repeat (first | (with_reducible first | exact HB.out | apply aM | apply aG | apply aJ) | exact HB.out))) : w.heap.size ≤ gb142)); clear HB; have HB := n0_; have BK142 := n1_; have GW142 := n2_; have GE142 := n3_; clear n0_ n1_ n2_ n3_; clear hb hbox hg) | ((with_reducible refine bJ (f := 43) rfl ?_); refine goesL_ (some 6) rfl rfl Try.func43 (by kernel_rfl) rfl #[.int .i64 a0, .int .i64 1, .int .i64 60] rfl (by (try simp only [List.map_toArray, List.map_cons, List.map_nil]); first | done | rfl | (simp only [List.length_drop, List.length_take]; rfl)) ?_; (with_reducible refine (spec_l1In.calls a0 1 60 true _ A2.out).mono ?_); rintro e w' ⟨rfl, ⟨nd, rfl⟩⟩; refine ⟨_, rfl, ?_⟩; (try (rw [drewN_self w4]; generalize hq_ : World.drewN w4 _ = w4; have n0_ : aA (w4.heap[gb142]? = some (.cells #[.slice none 0 0, .slice none 0 0, .int .i64 0, .bool false] 25 (0, 0))) := ⟨by rw [← hq_]; exact (by (with_reducible repeat (first | refine aQ ?_ _ | refine aN ?_ | refine aH ?_ _)); exact BK142.out)⟩; have n1_ : aA (Below w.heap.size w w4) := ⟨by rw [← hq_]; exact (by repeat (first | (with_reducible first | exact HB.out | apply aM | apply aG | apply aJ | refine aE ?_ GE142.out) | exact HB.out))⟩; clear BK142 HB hq_; have BK142 := n0_; have HB := n1_; clear n0_ n1_))) | ((with_reducible refine gate_dst (N := 3) rfl ?_); refine box_event ?hg (N := 3) ?hd (cs := #[.slice none 0 0, .slice none 0 0, .int .i64 0, .bool false]) (t := 25) ?hr ?_; (case hd => rfl); (case hg => rfl); (case hr => first | (go_simp; done) | (go_simp; rfl)); intro gb144 hg w5 hbox hb; have n0_ := aA.mk (aW (g := gb142) (o := .cells #[.slice none 0 0, .slice none 0 0, .int .i64 0, .bool false] 25 (0, 0)) (by (with_reducible repeat (first | refine aQ ?_ _ | refine aN ?_ | refine aH ?_ _)); exact BK142.out) hb); have n1_ := aA.mk (bD (by repeat (first | (with_reducible first | exact HB.out | apply aM | apply aG | apply aJ | refine aE ?_ GE142.out) | exact HB.out)) hb); have n2_ := aA.mk (hbox); have n3_ := aA.mk ((by rw [hg]; exact (bH (by repeat (first | (with_reducible first | exact HB.out | apply aM | apply aG | apply aJ | refine aE ?_ GE142.out) | exact HB.out))) : w.heap.size ≤ gb144)); have n4_ := aA.mk ((by rw [hg]; exact (bH (by repeat (first | (with_reducible first | exact HB.out | apply aM | apply aG | apply aJ | refine aE ?_ GE142.out) | exact HB.out))) : w.heap.size ≤ gb144)); have n5_ := aA.mk ((by rw [hg]; exact Nat.ne_of_lt (blk_lt (g := gb142) (o := .cells #[.slice none 0 0, .slice none 0 0, .int .i64 0, .bool false] 25 (0, 0)) (by (with_reducible repeat (first | refine aQ ?_ _ | refine aN ?_ | refine aH ?_ _)); exact BK142.out)) : gb142 ≠ gb144)); have n6_ := aA.mk ((by rw [hg]; exact Nat.ne_of_gt (blk_lt (g := gb142) (o := .cells #[.slice none 0 0, .slice none 0 0, .int .i64 0, .bool false] 25 (0, 0)) (by (with_reducible repeat (first | refine aQ ?_ _ | refine aN ?_ | refine aH ?_ _)); exact BK142.out)) : gb144 ≠ gb142)); clear BK142; clear HB; have BK142 := n0_; have HB := n1_; have BK144 := n2_; have GW144 := n3_; have GE144 := n4_; have NB142_144 := n5_; have NB144_142 := n6_; clear n0_ n1_ n2_ n3_ n4_ n5_ n6_; clear hb hbox hg; have hnb6 := NB144_142.out; have hnc6 := NB142_144.out; have hcz7_0 : w5.cell? ⟨gb144, 0, none⟩ = some (.slice none 0 0) := (aD BK144.out 0).trans rfl; have hcz7_1 : w5.cell? ⟨gb144, 1, none⟩ = some (.slice none 0 0) := (aD BK144.out 1).trans rfl; have hcz7_2 : w5.cell? ⟨gb144, 2, none⟩ = some (.int .i64 0) := (aD BK144.out 2).trans rfl; have hcz7_3 : w5.cell? ⟨gb144, 3, none⟩ = some (.bool false) := (aD BK144.out 3).trans rfl; have hfz7_0 := aC BK144.out 0; have hfz7_1 := aC BK144.out 1; have hfz7_2 := aC BK144.out 2; have hfz7_3 := aC BK144.out 3))
  go_loopg [4] k (fun kq v4 w' => ∃ (x4_1 : Int) (x145000_1 : List (List Int)) (u145000 : Value), v4 = .int .i64 x4_1 ∧ aA (spec_DevNew.l0 kq a0 x4_1 x145000_1 (-1) false = some (r1, r2, r3, r4)) ∧ aA (kq ≤ k) ∧ aA (Kd.S (Kd.slice 5 (Kd.int .u8)) 37 w' w.heap.size (fun _ => True) u145000 x145000_1) ∧ aA (w'.heap[gb142]? = some (.cells #[(.slice none 0 0), (.slice none 0 0), .int .i64 0, .bool false] 25 (0, 0))) ∧ aA (w'.heap[gb144]? = some (.cells #[u145000, (.slice none 0 0), .int .i64 (-1), .bool false] 25 (0, 0))) ∧ aA (Below w.heap.size w w'))
  case atStart => exact ⟨(0), (([] : List (List Int))), (.slice none 0 0), (by first | rfl | (simp; done) | (simp [*]; done)), H', ⟨Nat.le_refl _⟩, ⟨by first | exact Kd.S_nil _ _ _ _ _ | exact Kd.N_nil _ _ _ _ _ | exact Kd.V_nil _ _ _ _ _ | exact Kd.Q_nil _ _ _ _ _ | exact Kd.R_nil _ _ _ _ _⟩, ⟨by (with_reducible repeat (first | refine aQ ?_ _ | refine aN ?_ | refine aH ?_ _)); refine blk_far ?_ NB142_144.out _; (with_reducible repeat (first | refine aQ ?_ _ | refine aN ?_ | refine aH ?_ _)); refine blk_far ?_ NB142_144.out _; (with_reducible repeat (first | refine aQ ?_ _ | refine aN ?_ | refine aH ?_ _)); refine blk_far ?_ NB142_144.out _; (with_reducible repeat (first | refine aQ ?_ _ | refine aN ?_ | refine aH ?_ _)); refine blk_far ?_ NB142_144.out _; (with_reducible repeat (first | refine aQ ?_ _ | refine aN ?_ | refine aH ?_ _)); exact BK142.out⟩, ⟨by (with_reducible repeat (first | refine aQ ?_ _ | refine aN ?_ | refine aH ?_ _)); refine bE (cs := #[.slice none 0 0, .slice none 0 0, .int .i64 (-1), .bool false]) ?_ 3 _ rfl; (with_reducible repeat (first | refine aQ ?_ _ | refine aN ?_ | refine aH ?_ _)); refine bE (cs := #[.slice none 0 0, .slice none 0 0, .int .i64 0, .bool false]) ?_ 2 _ rfl; (with_reducible repeat (first | refine aQ ?_ _ | refine aN ?_ | refine aH ?_ _)); refine bE (cs := #[.slice none 0 0, .slice none 0 0, .int .i64 0, .bool false]) ?_ 1 _ rfl; (with_reducible repeat (first | refine aQ ?_ _ | refine aN ?_ | refine aH ?_ _)); refine bE (cs := #[.slice none 0 0, .slice none 0 0, .int .i64 0, .bool false]) ?_ 0 _ rfl; (with_reducible repeat (first | refine aQ ?_ _ | refine aN ?_ | refine aH ?_ _)); exact BK144.out⟩, ⟨by repeat (first | (with_reducible first | exact HB.out | apply aM | apply aG | apply aJ | refine aE ?_ GE142.out | refine aE ?_ GE144.out) | exact HB.out)⟩⟩
  case round =>
   clear H'
   try clear c1
   try clear p2
   try clear c3
   try clear c4
   try clear c6
   try clear hcz7_0
   try clear hcz7_1
   try clear hcz7_2
   try clear hcz7_3
   try clear hfz7_0
   try clear hfz7_1
   try clear hfz7_2
   try clear hfz7_3
   obtain ⟨x4_1, x145000_1, u145000, rfl, HA, HK1, HO_145000, BK142, BK144, HB⟩ := hrel
   cases gk with
   | zero => exact absurd HA.out (by simp [spec_DevNew.l0])
   | succ k1 =>
    have H := HA.out
    clear HA
    simp only [spec_DevNew.l0] at H
    by_cases c8 : x4_1 < a0
    ·rw [if_pos c8] at H
     have c8b0 : decide (x4_1 < a0) = true := decide_eq_true c8
     clear c8
     obtain ⟨y145, hy145⟩ : ∃ y_ : List Int, y_ = (([] : List Int)) := ⟨_, rfl⟩
     replace H : (if x145000_1.length < 5864062014805 then (spec_DevNew.l0 k1 a0 (wrap64 (x4_1 + 1)) (x145000_1 ++ [y145]) (-1) false) else (none)) = some (r1, r2, r3, r4) := by first | (rw [hy145]; with_reducible exact H) | (have H2_ := (Option.bind_some _ _).symm.trans H; rw [hy145]; with_reducible exact H2_) | (have H2_ := (Option.bind_some _ _).symm.trans H; with_reducible exact H2_) | with_reducible exact H | (rw [hy145]; exact H) | exact H
     have Ny145 := aA.mk hy145
     clear hy145
     by_cases c9 : x145000_1.length < 5864062014805
     ·rw [if_pos c9] at H
      have LMc9 := aA.mk c9
      clear c9
      obtain ⟨y148, hy148⟩ : ∃ y_ : List (List Int), y_ = (x145000_1 ++ [y145]) := ⟨_, rfl⟩
      replace H : (spec_DevNew.l0 k1 a0 (wrap64 (x4_1 + 1)) y148 (-1) false) = some (r1, r2, r3, r4) := by first | (rw [hy148]; with_reducible exact H) | (have H2_ := (Option.bind_some _ _).symm.trans H; rw [hy148]; with_reducible exact H2_) | (have H2_ := (Option.bind_some _ _).symm.trans H; with_reducible exact H2_) | with_reducible exact H | (rw [hy148]; exact H) | exact H
      have Ny148 := aA.mk hy148
      clear hy148
      have H' := aA.mk H
      clear H
      have hnb10 := NB144_142.out
      have hnc10 := NB142_144.out
      have hcz11_0 : wr.cell? ⟨gb144, 0, none⟩ = some (u145000) := (aD BK144.out 0).trans rfl
      have hcz11_1 : wr.cell? ⟨gb144, 1, none⟩ = some (.slice none 0 0) := (aD BK144.out 1).trans rfl
      have hcz11_2 : wr.cell? ⟨gb144, 2, none⟩ = some (.int .i64 (-1)) := (aD BK144.out 2).trans rfl
      have hcz11_3 : wr.cell? ⟨gb144, 3, none⟩ = some (.bool false) := (aD BK144.out 3).trans rfl
      have hfz11_0 := aC BK144.out 0
      have hfz11_1 := aC BK144.out 1
      have hfz11_2 := aC BK144.out 2
      have hfz11_3 := aC BK144.out 3
      go_wp2_with (first | ((with_reducible refine gate_dst (N := 17) rfl ?_); refine Kd.R_lit (Kd.int .u8) _ 5 ?hg (N := 17) ?hd (xs := ([] : List Int)) (inner := []) (ok := fun _ => True) (okp := fun _ => True) ?hr ?hp (fun _ hk => hk) trivial (Below.refl _ _) (Nat.le_refl _) (by simp) ?_; (case hd => rfl); (case hg => rfl); (case hr => first | (go_simp; done) | (go_simp; rfl)); (case hp => exact (Reps.none _ _)); intro v146 w12 ho13 hb hg_ hnew_; clear hg_ hnew_; (first | rw [← Ny145.out] at ho13 | (simp only [Int.reduceToNat] at ho13; rw [← Ny145.out] at ho13)); have n0_ := aA.mk (Kd.S_elder' (by (with_reducible repeat (first | apply Kd.S_alloc | apply Kd.S_drewN | apply Kd.S_drew)); exact HO_145000.out) (Kd.R_base ho13) hb); have n1_ := aA.mk (Kd.R_lower ho13 (bH (by repeat (first | (with_reducible first | exact HB.out | apply aM | apply aG | apply aJ | refine aE ?_ GE142.out | refine aE ?_ GE144.out) | exact HB.out)))); have n2_ := aA.mk (aW (g := gb142) (o := .cells #[.slice none 0 0, .slice none 0 0, .int .i64 0, .bool false] 25 (0, 0)) (by (with_reducible repeat (first | refine aQ ?_ _ | refine aN ?_ | refine aH ?_ _)); exact BK142.out) hb); have n3_ := aA.mk (aW (g := gb144) (o := .cells #[u145000, .slice none 0 0, .int .i64 (-1), .bool false] 25 (0, 0)) (by (with_reducible repeat (first | refine aQ ?_ _ | refine aN ?_ | refine aH ?_ _)); exact BK144.out) hb); have n4_ := aA.mk (bD (by repeat (first | (with_reducible first | exact HB.out | apply aM | apply aG | apply aJ | refine aE ?_ GE142.out | refine aE ?_ GE144.out) | exact HB.out)) hb); clear HO_145000; clear BK142; clear BK144; clear HB; have HO_145000 := n0_; have HO147 := n1_; have BK142 := n2_; have BK144 := n3_; have HB := n4_; clear n0_ n1_ n2_ n3_ n4_; clear hb ho13; obtain ⟨Ao15, co15, eo15⟩ := Kd.R_slice HO147.out; subst eo15) | ((with_reducible refine gate_builtin (b := .append) (xs := #[.tmp 16, .tmp 18]) rfl ?_); at_builtin; refine Kd.S_append (Kd.slice 5 (Kd.int .u8)) (w0 := w) w.heap.size rfl (.tmp 16) (.tmp 18) 22 37 (.slice none 0 0) 24 rfl Try.underlying22 info37 rfl (by decide) (by omega) u145000 x145000_1 y145 [.slice Ao15 y145.length co15] (fun _ => True) (fun k_ => some k_ = (.slice Ao15 y145.length co15 : Value).ownBlock) rfl rfl ?aP (fun k_ hk_ => ((Kd.R_mono (ok' := fun k_ => ((fun _ => True)) k_ ∧ some k_ ≠ (u145000 : Value).ownBlock) (Kd.R_apart' (HO147.out) (Kd.S_typed HO_145000.out) (by decide)) (fun k_ hk => ⟨trivial, hk.2⟩))).1 k_ hk_.symm) ?aF ?aO ?aB ?aS ?aL ?_; (case aP => exact Kd.M_row (Kd.R_mono (Kd.R_tight rfl (Kd.R_mono (ok' := fun k_ => ((fun _ => True)) k_ ∧ some k_ ≠ (u145000 : Value).ownBlock) (Kd.R_apart' (HO147.out) (Kd.S_typed HO_145000.out) (by decide)) (fun k_ hk => ⟨trivial, hk.2⟩))) (fun _ h_ => h_))); (case aB => exact (by repeat (first | (with_reducible first | exact HB.out | apply aM | apply aG | apply aJ | refine aE ?_ GE142.out | refine aE ?_ GE144.out) | exact HB.out))); (case aF => exact (fun _ _ => trivial)); (case aO => exact (by (with_reducible repeat (first | apply Kd.S_alloc | apply Kd.S_drewN | apply Kd.S_drew)); exact Kd.S_mono HO_145000.out (fun k_ hk => ⟨trivial, fun e_ => hk.2 e_⟩))); (case aS => exact (bH (by repeat (first | (with_reducible first | exact HB.out | apply aM | apply aG | apply aJ | refine aE ?_ GE142.out | refine aE ?_ GE144.out) | exact HB.out)))); (case aL => have := LMc9.out; omega); intro v149 w14 ho hb hg hat; rw [← Ny148.out] at ho; have n0_ := aA.mk (blk_grown (g := gb142) (o := .cells #[.slice none 0 0, .slice none 0 0, .int .i64 0, .bool false] 25 (0, 0)) (by (with_reducible repeat (first | refine aQ ?_ _ | refine aN ?_ | refine aH ?_ _)); exact BK142.out) hg (Kd.S_ne HO_145000.out BK142.out (by decide))); have n1_ := aA.mk (blk_grown (g := gb144) (o := .cells #[u145000, .slice none 0 0, .int .i64 (-1), .bool false] 25 (0, 0)) (by (with_reducible repeat (first | refine aQ ?_ _ | refine aN ?_ | refine aH ?_ _)); exact BK144.out) hg (Kd.S_ne HO_145000.out BK144.out (by decide))); have n2_ := aA.mk (hb); have n3_ := aA.mk (ho); clear BK142; clear BK144; clear HB; clear HO_145000; clear HO147; have BK142 := n0_; have BK144 := n1_; have HB := n2_; have HO150 := n3_; clear n0_ n1_ n2_ n3_; clear ho hb hg hat; obtain ⟨Ao16, co16, eo16⟩ := Kd.S_slice HO150.out; subst eo16; have hcz17_0 : w14.cell? ⟨gb144, 0, none⟩ = some (u145000) := (aD BK144.out 0).trans rfl; have hcz17_1 : w14.cell? ⟨gb144, 1, none⟩ = some (.slice none 0 0) := (aD BK144.out 1).trans rfl; have hcz17_2 : w14.cell? ⟨gb144, 2, none⟩ = some (.int .i64 (-1)) := (aD BK144.out 2).trans rfl; have hcz17_3 : w14.cell? ⟨gb144, 3, none⟩ = some (.bool false) := (aD BK144.out 3).trans rfl; have hfz17_0 := aC BK144.out 0; have hfz17_1 := aC BK144.out 1; have hfz17_2 := aC BK144.out 2; have hfz17_3 := aC BK144.out 3))
      go_roundg k1
      case measure => have := HK1.out; omega
      case rel => exact ⟨(wrap64 (x4_1 + 1)), (y148), (.slice Ao16 y148.length co16), (by first | rfl | (simp; done) | (simp [*]; done)), H', ⟨by have := HK1.out; omega⟩, ⟨by (with_reducible repeat (first | apply Kd.S_alloc | apply Kd.S_drewN | apply Kd.S_drew)); exact Kd.S_mono (Kd.S_far (p := ⟨gb144, 0, none⟩) (Kd.S_types HO150.out BK144.out (by decide)) (fun _ hk => hk.2) (.slice Ao16 y148.length co16)) (fun _ hk => trivial)⟩, ⟨by (with_reducible repeat (first | refine aQ ?_ _ | refine aN ?_ | refine aH ?_ _)); refine blk_far ?_ NB142_144.out _; (with_reducible repeat (first | refine aQ ?_ _ | refine aN ?_ | refine aH ?_ _)); exact BK142.out⟩, ⟨by (with_reducible repeat (first | refine aQ ?_ _ | refine aN ?_ | refine aH ?_ _)); refine bE (cs := #[u145000, .slice none 0 0, .int .i64 (-1), .bool false]) ?_ 0 _ rfl; (with_reducible repeat (first | refine aQ ?_ _ | refine aN ?_ | refine aH ?_ _)); exact BK144.out⟩, ⟨by repeat (first | (with_reducible first | exact HB.out | apply aM | apply aG | apply aJ | refine aE ?_ GE142.out | refine aE ?_ GE144.out) | exact HB.out)⟩⟩
     ·rw [if_neg c9] at H
      exact absurd H (by simp)
    ·rw [if_neg c8] at H
     have c8b0 : decide (x4_1 < a0) = false := decide_eq_false c8
     clear c8
     simp only [Option.some.injEq, Prod.mk.injEq] at H
     obtain ⟨rfl, rfl, rfl, rfl⟩ := H
     have hnb18 := NB144_142.out
     have hnc18 := NB142_144.out
     have hcz19_0 : wr.cell? ⟨gb144, 0, none⟩ = some (u145000) := (aD BK144.out 0).trans rfl
     have hcz19_1 : wr.cell? ⟨gb144, 1, none⟩ = some (.slice none 0 0) := (aD BK144.out 1).trans rfl
     have hcz19_2 : wr.cell? ⟨gb144, 2, none⟩ = some (.int .i64 (-1)) := (aD BK144.out 2).trans rfl
     have hcz19_3 : wr.cell? ⟨gb144, 3, none⟩ = some (.bool false) := (aD BK144.out 3).trans rfl
     have hfz19_0 := aC BK144.out 0
     have hfz19_1 := aC BK144.out 1
     have hfz19_2 := aC BK144.out 2
     have hfz19_3 := aC BK144.out 3
     obtain ⟨Ao20, co20, eo20⟩ := Kd.S_slice HO_145000.out
     subst eo20
     have hcz21_0 : wr.cell? ⟨gb142, 0, none⟩ = some (.slice none 0 0) := (aD BK142.out 0).trans rfl
     have hcz21_1 : wr.cell? ⟨gb142, 1, none⟩ = some (.slice none 0 0) := (aD BK142.out 1).trans rfl
     have hcz21_2 : wr.cell? ⟨gb142, 2, none⟩ = some (.int .i64 0) := (aD BK142.out 2).trans rfl
     have hcz21_3 : wr.cell? ⟨gb142, 3, none⟩ = some (.bool false) := (aD BK142.out 3).trans rfl
     have hfz21_0 := aC BK142.out 0
     have hfz21_1 := aC BK142.out 1
     have hfz21_2 := aC BK142.out 2
     have hfz21_3 := aC BK142.out 3
     go_wp2
     refine bodyPost_ret (results_cell_row rfl _ _ gb142 25 #[.slice Ao20 x145000_1.length co20, .slice none 0 0, .int .i64 (-1), .bool false] (0, 0) _ rfl (by (with_reducible repeat (first | refine aQ ?_ _ | refine aN ?_ | refine aH ?_ _)); refine bE (cs := #[.slice Ao20 x145000_1.length co20, .slice none 0 0, .int .i64 (-1), .bool false]) ?_ 3 _ rfl; (with_reducible repeat (first | refine aQ ?_ _ | refine aN ?_ | refine aH ?_ _)); refine bE (cs := #[.slice Ao20 x145000_1.length co20, .slice none 0 0, .int .i64 0, .bool false]) ?_ 2 _ rfl; (with_reducible repeat (first | refine aQ ?_ _ | refine aN ?_ | refine aH ?_ _)); refine bE (cs := #[.slice Ao20 x145000_1.length co20, .slice none 0 0, .int .i64 0, .bool false]) ?_ 1 _ rfl; (with_reducible repeat (first | refine aQ ?_ _ | refine aN ?_ | refine aH ?_ _)); refine bE (cs := #[.slice none 0 0, .slice none 0 0, .int .i64 0, .bool false]) ?_ 0 _ rfl; (with_reducible repeat (first | refine aQ ?_ _ | refine aN ?_ | refine aH ?_ _)); exact BK142.out) Try.underlying25 rfl (by kernel_rfl)) rfl ?_
     exact ⟨_, _, by first | rfl | (simp [errW_none, errW_some] <;> rfl) | (simp [*, errW_none, errW_some] <;> rfl), by (with_reducible repeat (first | apply Kd.S_alloc | apply Kd.S_drewN | apply Kd.S_drew)); exact Kd.S_mono (Kd.S_far (p := ⟨gb142, 3, none⟩) (Kd.S_far (p := ⟨gb142, 2, none⟩) (Kd.S_far (p := ⟨gb142, 1, none⟩) (Kd.S_far (p := ⟨gb142, 0, none⟩) (Kd.S_types HO_145000.out BK142.out (by decide)) (fun _ hk => hk.2) (.slice Ao20 x145000_1.length co20)) (fun _ hk => hk.2) (.slice none 0 0)) (fun _ hk => hk.2) (.int .i64 (-1))) (fun _ hk => hk.2) (.bool false)) (fun _ hk => trivial), by first | exact Kd.S_nil _ _ _ _ _ | exact Kd.N_nil _ _ _ _ _ | exact Kd.V_nil _ _ _ _ _ | exact Kd.Q_nil _ _ _ _ _ | exact Kd.R_nil _ _ _ _ _, by repeat (first | (with_reducible first | exact HB.out | apply aM | apply aG | apply aJ | refine aE ?_ GE142.out | refine aE ?_ GE144.out) | exact HB.out)⟩
 ·replace c3 := Bool.eq_false_iff.mpr c3
  subst c3
  have H1 : (some (([] : List (List Int)), ([] : List (S50)), 0, false)) = some (r1, r2, r3, r4) := by rw [if_neg (show ¬ (false = true) by decide)] at H; exact H
  clear H
  have H := H1
  clear H1
  simp only [Option.some.injEq, Prod.mk.injEq] at H
  obtain ⟨rfl, rfl, rfl, rfl⟩ := H
  go_enter Try.func12, Try.ntmps12
  go_wp2_with (first | ((with_reducible refine gate_dst (N := 2) rfl ?_); refine box_event ?hg (N := 2) ?hd (cs := #[.slice none 0 0, .slice none 0 0, .int .i64 0, .bool false]) (t := 25) ?hr ?_; (case hd => rfl); (case hg => rfl); (case hr => first | (go_simp; done) | (go_simp; rfl)); intro gb142 hg w22 hbox hb; have n0_ := aA.mk (bD (by repeat (first | (with_reducible first | exact HB.out | apply aM | apply aG | apply aJ) | exact HB.out)) hb); have n1_ := aA.mk (hbox); have n2_ := aA.mk ((by rw [hg]; exact (bH (by repeat (first | (with_reducible first | exact HB.out | apply aM | apply aG | apply aJ) | exact HB.out))) : w.heap.size ≤ gb142)); have n3_ := aA.mk ((by rw [hg]; exact (bH (by repeat (first | (with_reducible first | exact HB.out | apply aM | apply aG | apply aJ) | exact HB.out))) : w.heap.size ≤ gb142)); clear HB; have HB := n0_; have BK142 := n1_; have GW142 := n2_; have GE142 := n3_; clear n0_ n1_ n2_ n3_; clear hb hbox hg) | ((with_reducible refine bJ (f := 43) rfl ?_); refine goesL_ (some 6) rfl rfl Try.func43 (by kernel_rfl) rfl #[.int .i64 a0, .int .i64 1, .int .i64 60] rfl (by (try simp only [List.map_toArray, List.map_cons, List.map_nil]); first | done | rfl | (simp only [List.length_drop, List.length_take]; rfl)) ?_; (with_reducible refine (spec_l1In.calls a0 1 60 false _ A2.out).mono ?_); rintro e w' ⟨rfl, ⟨nd, rfl⟩⟩; refine ⟨_, rfl, ?_⟩; (try (rw [drewN_self w22]; generalize hq_ : World.drewN w22 _ = w22; have n0_ : aA (w22.heap[gb142]? = some (.cells #[.slice none 0 0, .slice none 0 0, .int .i64 0, .bool false] 25 (0, 0))) := ⟨by rw [← hq_]; exact (by (with_reducible repeat (first | refine aQ ?_ _ | refine aN ?_ | refine aH ?_ _)); exact BK142.out)⟩; have n1_ : aA (Below w.heap.size w w22) := ⟨by rw [← hq_]; exact (by repeat (first | (with_reducible first | exact HB.out | apply aM | apply aG | apply aJ | refine aE ?_ GE142.out) | exact HB.out))⟩; clear BK142 HB hq_; have BK142 := n0_; have HB := n1_; clear n0_ n1_)); (try have hcz23_0 : w22.cell? ⟨gb142, 0, none⟩ = some (.slice none 0 0) := (aD BK142.out 0).trans rfl); (try have hfz23_0 := aC BK142.out 0); (try have hcz23_1 : w22.cell? ⟨gb142, 1, none⟩ = some (.slice none 0 0) := (aD BK142.out 1).trans rfl); (try have hfz23_1 := aC BK142.out 1); (try have hcz23_2 : w22.cell? ⟨gb142, 2, none⟩ = some (.int .i64 0) := (aD BK142.out 2).trans rfl); (try have hfz23_2 := aC BK142.out 2); (try have hcz23_3 : w22.cell? ⟨gb142, 3, none⟩ = some (.bool false) := (aD BK142.out 3).trans rfl); (try have hfz23_3 := aC BK142.out 3); have hcz23_0 : w22.cell? ⟨gb142, 0, none⟩ = some (.slice none 0 0) := (aD BK142.out 0).trans rfl; have hcz23_1 : w22.cell? ⟨gb142, 1, none⟩ = some (.slice none 0 0) := (aD BK142.out 1).trans rfl; have hcz23_2 : w22.cell? ⟨gb142, 2, none⟩ = some (.int .i64 0) := (aD BK142.out 2).trans rfl; have hcz23_3 : w22.cell? ⟨gb142, 3, none⟩ = some (.bool false) := (aD BK142.out 3).trans rfl; have hfz23_0 := aC BK142.out 0; have hfz23_1 := aC BK142.out 1; have hfz23_2 := aC BK142.out 2; have hfz23_3 := aC BK142.out 3))
  refine bodyPost_ret (results_cell_row rfl _ _ gb142 25 #[.slice none 0 0, .slice none 0 0, .int .i64 0, .bool false] (0, 0) _ rfl (by (with_reducible repeat (first | refine aQ ?_ _ | refine aN ?_ | refine aH ?_ _)); refine bE (cs := #[.slice none 0 0, .slice none 0 0, .int .i64 0, .bool false]) ?_ 3 _ rfl; (with_reducible repeat (first | refine aQ ?_ _ | refine aN ?_ | refine aH ?_ _)); refine bE (cs := #[.slice none 0 0, .slice none 0 0, .int .i64 0, .bool false]) ?_ 2 _ rfl; (with_reducible repeat (first | refine aQ ?_ _ | refine aN ?_ | refine aH ?_ _)); refine bE (cs := #[.slice none 0 0, .slice none 0 0, .int .i64 0, .bool false]) ?_ 1 _ rfl; (with_reducible repeat (first | refine aQ ?_ _ | refine aN ?_ | refine aH ?_ _)); refine bE (cs := #[.slice none 0 0, .slice none 0 0, .int .i64 0, .bool false]) ?_ 0 _ rfl; (with_reducible repeat (first | refine aQ ?_ _ | refine aN ?_ | refine aH ?_ _)); exact BK142.out) Try.underlying25 rfl (by kernel_rfl)) rfl ?_
  exact ⟨_, _, by first | rfl | (simp [errW_none, errW_some] <;> rfl) | (simp [*, errW_none, errW_some] <;> rfl), by first | exact Kd.S_nil _ _ _ _ _ | exact Kd.N_nil _ _ _ _ _ | exact Kd.V_nil _ _ _ _ _ | exact Kd.Q_nil _ _ _ _ _ | exact Kd.R_nil _ _ _ _ _, by first | exact Kd.S_nil _ _ _ _ _ | exact Kd.N_nil _ _ _ _ _ | exact Kd.V_nil _ _ _ _ _ | exact Kd.Q_nil _ _ _ _ _ | exact Kd.R_nil _ _ _ _ _, by repeat (first | (with_reducible first | exact HB.out | apply aM | apply aG | apply aJ | refine aE ?_ GE142.out) | exact HB.out)⟩
/-- A state of type 25 at block g of W; what its slices lead to came in by w0. -/
def IsS25 (w0 W : World) (g : Nat) (f0 : List (List Int)) (f1 : List (S50)) (f2 : Int) (f3 : Bool) : Prop := ∃ A0 c0, ∃ A1 c1, W.heap[g]? = some (.cells #[.slice A0 f0.length c0, .slice A1 f1.length c1, .int .i64 f2, .bool f3] 25 (0, 0)) ∧ w0.heap.size ≤ g ∧ Kd.C (Kd.slice 5 (Kd.int .u8)) w0 A0 f0.length f0 ∧ Kd.C k50 w0 A1 f1.length f1
theorem IsS25.grown {w0 W : World} {g : Nat} {f0 : List (List Int)} {f1 : List (S50)} {f2 : Int} {f3 : Bool} {W1 : World} {row : Option Nat} (h : IsS25 w0 W g f0 f1 f2 f3) (hw : W.grownBy W1 row) (hne : some g ≠ row) : IsS25 w0 W1 g f0 f1 f2 f3 := by
 obtain ⟨A0, c0, A1, c1, hb, hg, hr0, hr1⟩ := h
 exact ⟨A0, c0, A1, c1, blk_grown hb hw hne, hg, hr0, hr1⟩
theorem IsS25.fresh {w0 W : World} {g : Nat} {f0 : List (List Int)} {f1 : List (S50)} {f2 : Int} {f3 : Bool} (h : IsS25 w0 W g f0 f1 f2 f3) : ∀ k, W.heap.size ≤ k → k ≠ g := by
 obtain ⟨A0, c0, A1, c1, hb, hg, hr0, hr1⟩ := h
 exact Kd.freshB hb
theorem IsS25.kept {w0 W : World} {g : Nat} {f0 : List (List Int)} {f1 : List (S50)} {f2 : Int} {f3 : Bool} {W1 : World} {S : Nat → Prop} (h : IsS25 w0 W g f0 f1 f2 f3) (hk : Kept W W1 S) (hne : ¬ S g) : IsS25 w0 W1 g f0 f1 f2 f3 := by
 obtain ⟨A0, c0, A1, c1, hb, hg, hr0, hr1⟩ := h
 exact ⟨A0, c0, A1, c1, bG hb hk hne, hg, hr0, hr1⟩
theorem IsS25.below {w0 W : World} {g : Nat} {f0 : List (List Int)} {f1 : List (S50)} {f2 : Int} {f3 : Bool} {W1 : World} (h : IsS25 w0 W g f0 f1 f2 f3) (hw : Below W.heap.size W W1) : IsS25 w0 W1 g f0 f1 f2 f3 := h.grown (grown_of_below hw none) (by simp)
theorem IsS25.alloc {w0 W : World} {g : Nat} {f0 : List (List Int)} {f1 : List (S50)} {f2 : Int} {f3 : Bool} (h : IsS25 w0 W g f0 f1 f2 f3) (o : Obj) : IsS25 w0 (W.alloc o) g f0 f1 f2 f3 := h.below (aM (Below.refl _ _) o)
theorem IsS25.drewN {w0 W : World} {g : Nat} {f0 : List (List Int)} {f1 : List (S50)} {f2 : Int} {f3 : Bool} (h : IsS25 w0 W g f0 f1 f2 f3) (m : Nat) : IsS25 w0 (W.drewN m) g f0 f1 f2 f3 := h
theorem IsS25.drew {w0 W : World} {g : Nat} {f0 : List (List Int)} {f1 : List (S50)} {f2 : Int} {f3 : Bool} (h : IsS25 w0 W g f0 f1 f2 f3) : IsS25 w0 W.drew g f0 f1 f2 f3 := h
theorem IsS25.at_ {w0 W : World} {g : Nat} {f0 : List (List Int)} {f1 : List (S50)} {f2 : Int} {f3 : Bool} {w' : World} {m : Nat} (hq : W.drewN m = w') (h : IsS25 w0 W g f0 f1 f2 f3) : IsS25 w0 w' g f0 f1 f2 f3 := by subst hq; exact IsS25.drewN h m
theorem IsS25.apart {w0 W : World} {g : Nat} {f0 : List (List Int)} {f1 : List (S50)} {f2 : Int} {f3 : Bool} {α : Type} {d : Kd α} {e : Nat} {base : Nat} {ok : Nat → Prop} {v : Value} {xs : List α} (h : IsS25 w0 W g f0 f1 f2 f3) (ho : d.R e W base ok v xs) (ht : ∀ q, q ∈ e :: d.E → q ≠ 25) : d.R e W base (fun k => ok k ∧ k ≠ g) v xs := by
 obtain ⟨A0, c0, A1, c1, hb, hg, hr0, hr1⟩ := h
 exact Kd.R_types ho hb ht
theorem IsS25.own_ne {w0 W : World} {g : Nat} {f0 : List (List Int)} {f1 : List (S50)} {f2 : Int} {f3 : Bool} {α : Type} {d : Kd α} {e : Nat} {base : Nat} {ok : Nat → Prop} {v : Value} {xs : List α} (h : IsS25 w0 W g f0 f1 f2 f3) (ho : d.R e W base ok v xs) (ht : e ≠ 25) : some g ≠ v.ownBlock := by
 obtain ⟨A0, c0, A1, c1, hb, hg, hr0, hr1⟩ := h
 exact Kd.R_ne ho hb ht
theorem IsS25.lt {w0 W : World} {g : Nat} {f0 : List (List Int)} {f1 : List (S50)} {f2 : Int} {f3 : Bool} (h : IsS25 w0 W g f0 f1 f2 f3) : g < W.heap.size := by
 obtain ⟨A0, c0, A1, c1, hb, hg, hr0, hr1⟩ := h
 exact blk_lt hb
theorem IsS25.ge {w0 W : World} {g : Nat} {f0 : List (List Int)} {f1 : List (S50)} {f2 : Int} {f3 : Bool} (h : IsS25 w0 W g f0 f1 f2 f3) : w0.heap.size ≤ g := by
 obtain ⟨A0, c0, A1, c1, hb, hg, hr0, hr1⟩ := h
 exact hg
theorem IsS25.ne_blk {w0 W : World} {g : Nat} {f0 : List (List Int)} {f1 : List (S50)} {f2 : Int} {f3 : Bool} {a : Nat} {cs : Array Value} {t : TypeId} {fr : Nat × Nat} (h : IsS25 w0 W g f0 f1 f2 f3) (hb2 : W.heap[a]? = some (.cells cs t fr)) (ht : t ≠ 25) : g ≠ a := by
 obtain ⟨A0, c0, A1, c1, hb, hg, hr0, hr1⟩ := h
 rintro rfl
 rw [hb] at hb2
 injection hb2 with hb2
 injection hb2 with _ ht2
 exact ht ht2.symm
theorem IsS25.far {w0 W : World} {g : Nat} {f0 : List (List Int)} {f1 : List (S50)} {f2 : Int} {f3 : Bool} {p : Addr} (h : IsS25 w0 W g f0 f1 f2 f3) (hne : g ≠ p.block) (u : Value) : IsS25 w0 (W.setCell p u) g f0 f1 f2 f3 := by
 obtain ⟨A0, c0, A1, c1, hb, hg, hr0, hr1⟩ := h
 exact ⟨A0, c0, A1, c1, blk_far hb hne u, hg, hr0, hr1⟩
theorem IsS25.set_2 {w0 W : World} {g : Nat} {f0 : List (List Int)} {f1 : List (S50)} {f2 : Int} {f3 : Bool} (h : IsS25 w0 W g f0 f1 f2 f3) (x : Int) : IsS25 w0 (W.setCell ⟨g, 2, none⟩ (.int .i64 x)) g f0 f1 x f3 := by
 obtain ⟨A0, c0, A1, c1, hb, hg, hr0, hr1⟩ := h
 exact ⟨A0, c0, A1, c1, by simpa using blk_set hb 2 (.int .i64 x), hg, hr0, hr1⟩
theorem IsS25.new (w0 W : World) (A0 : Option Addr) (c0 : Nat) (A1 : Option Addr) (c1 : Nat) (f0 : List (List Int)) (f1 : List (S50)) (f2 : Int) (f3 : Bool) (hB : Below w0.heap.size w0 W) (hr0 : Kd.C (Kd.slice 5 (Kd.int .u8)) w0 A0 f0.length f0) (hr1 : Kd.C k50 w0 A1 f1.length f1) : IsS25 w0 (W.alloc (.cells #[.slice A0 f0.length c0, .slice A1 f1.length c1, .int .i64 f2, .bool f3] 25)) W.heap.size f0 f1 f2 f3 := ⟨A0, c0, A1, c1, by simpa using heap_alloc_new W _, hB.size, hr0, hr1⟩
def spec_l2Op.f (s0_0 : List (List Int)) (s0_1 : List (S50)) (s0_2 : Int) (s0_3 : Bool) : Option (Bool × Int × Bool) := if s0_2 = 0 then (some (false, (-1), true)) else (if s0_2 > 0 then (some (true, wrap64 (s0_2 - 1), s0_3)) else (some (true, s0_2, s0_3)))
-- NOT PRINTED: function 57 (spec_l2Write)
-- NOT PRINTED: function 60 (spec_l2Flush)
def spec_l1Byte.f (s0_0 : List Int) (s0_1 : Int) (s0_2 : Int) : Option (Int × Int × Int) := if s0_1 < (s0_0.length : Int) then (if 0 ≤ s0_1 then (some (Go.bits .and .i64 (wrap64 ((Go.bits .and .i64 (Go.bits .xor .i64 ((wrap64 ((wrap64 (s0_2 * 6364136223846793005)) + 1442695040888963407)) / 8589934592) ((wrap64 ((wrap64 (s0_2 * 6364136223846793005)) + 1442695040888963407)) / 140737488355328)) 255) + (wrap64 (rd s0_0 s0_1)))) 255, wrap64 (s0_1 + 1), wrap64 ((wrap64 (s0_2 * 6364136223846793005)) + 1442695040888963407))) else (none)) else (some (Go.bits .and .i64 (Go.bits .xor .i64 ((wrap64 ((wrap64 (s0_2 * 6364136223846793005)) + 1442695040888963407)) / 8589934592) ((wrap64 ((wrap64 (s0_2 * 6364136223846793005)) + 1442695040888963407)) / 140737488355328)) 255, s0_1, wrap64 ((wrap64 (s0_2 * 6364136223846793005)) + 1442695040888963407)))
set_option maxHeartbeats 8000000 in
set_option maxRecDepth 100000 in
theorem spec_l1Byte.calls (g : Nat) (s0_0 : List Int) (s0_1 : Int) (s0_2 : Int) (r1 : Int) (r2 : Int) (r3 : Int) (w0 w : World) (hI : IsS85 w0 w g s0_0 s0_1 s0_2) (hB : Below w0.heap.size w0 w) (h : spec_l1Byte.f s0_0 s0_1 s0_2 = some (r1, r2, r3)) :
  Calls Try.prog 73 #[.pointer (some ⟨g, 0, none⟩)] w fun e w' => e = .returned (.int .i64 r1) ∧ IsS85 w0 w' g s0_0 r2 r3 ∧ Below w0.heap.size w0 w' ∧ KeepBut w w' g none := by
 have HI0 := aA.mk hI
 have HK := aA.mk (KeepBut.refl w g none)
 have HL := aA.mk hB.size
 clear hI
 have HW0 := aA.mk hB.size
 have HB := aA.mk hB
 clear hB
 have H : (if s0_1 < (s0_0.length : Int) then (if 0 ≤ s0_1 then (some (Go.bits .and .i64 (wrap64 ((Go.bits .and .i64 (Go.bits .xor .i64 ((wrap64 ((wrap64 (s0_2 * 6364136223846793005)) + 1442695040888963407)) / 8589934592) ((wrap64 ((wrap64 (s0_2 * 6364136223846793005)) + 1442695040888963407)) / 140737488355328)) 255) + (wrap64 (rd s0_0 s0_1)))) 255, wrap64 (s0_1 + 1), wrap64 ((wrap64 (s0_2 * 6364136223846793005)) + 1442695040888963407))) else (none)) else (some (Go.bits .and .i64 (Go.bits .xor .i64 ((wrap64 ((wrap64 (s0_2 * 6364136223846793005)) + 1442695040888963407)) / 8589934592) ((wrap64 ((wrap64 (s0_2 * 6364136223846793005)) + 1442695040888963407)) / 140737488355328)) 255, s0_1, wrap64 ((wrap64 (s0_2 * 6364136223846793005)) + 1442695040888963407)))) = some (r1, r2, r3) := h
 clear h
 by_cases c2 : s0_1 < (s0_0.length : Int)
 ·rw [if_pos c2] at H
  have c2b0 : decide (s0_1 < (s0_0.length : Int)) = true := decide_eq_true c2
  clear c2
  by_cases c3 : 0 ≤ s0_1
  ·rw [if_pos c3] at H
   have c3b0 : decide (0 ≤ s0_1) = true := decide_eq_true c3
   clear c3
   simp only [Option.some.injEq, Prod.mk.injEq] at H
   obtain ⟨rfl, rfl, rfl⟩ := H
   obtain ⟨ASz4_0, cSz4_0, HGz4, hgz4, HSz4_0⟩ := HI0.out
   have hcz4_0 := cellS85_0 HGz4
   have hcz4_1 := cellS85_1 HGz4
   have hcz4_2 := cellS85_2 HGz4
   have hfz4_1 := aC HGz4 1
   have hfz4_2 := aC HGz4 2
   clear HGz4 hgz4
   have p166 : 0 ≤ (s0_1 : Int) := lE (by first | (with_reducible assumption) | assumption)
   have q166 : s0_1 < (s0_0.length : Int) := lE (by first | (with_reducible assumption) | assumption)
   obtain ⟨ad166, e166, hx166_0⟩ := Kd.at_int HSz4_0 s0_1 p166 q166
   cases e166
   have hn166_0 : ad166.block ≠ g := Nat.ne_of_lt (Nat.lt_of_lt_of_le (by have := lD _ _ hx166_0; first | rwa [add_block] at this | exact this) (IsS85.ge HI0.out))
   replace hx166_0 := pw_cell_below HB.out hx166_0
   replace hx166_0 := (cell_far (p := ⟨g, 2, none⟩) (by first | (rw [add_block]; exact hn166_0) | (show (Addr.add _ _).block ≠ _; rw [add_block]; exact hn166_0) | exact hn166_0) (.int .i64 (wrap64 ((wrap64 (s0_2 * 6364136223846793005)) + 1442695040888963407)))).trans hx166_0
   (try have hy166_0 := fun (n_ : Nat) => (show (((w.drewN n_).setCell ⟨g, 2, none⟩ (.int .i64 (wrap64 ((wrap64 (s0_2 * 6364136223846793005)) + 1442695040888963407))))).cell? _ = some _ from hx166_0))
   clear hn166_0
   replace p166 := eq_true p166
   replace q166 := eq_true q166
   go_enter Try.func73, Try.ntmps73
   go_wp2
   repeat (go_quiet (fail); try go_wp2)
   go_ret
   exact ⟨by first | rfl | (simp [errW_none, errW_some] <;> rfl) | (simp [*, errW_none, errW_some] <;> rfl), by repeat (first | (with_reducible first | exact HI0.out | apply IsS85.alloc | apply IsS85.drewN | apply IsS85.drew | apply IsS85.set_1 | apply IsS85.set_2) | exact HI0.out), by repeat (first | (with_reducible first | exact HB.out | apply aM | apply aG | apply aJ | refine aE ?_ (IsS85.ge HI0.out)) | exact HB.out), by repeat (first | (with_reducible first | exact HK.out | apply KeepBut.set_ | apply keep_drewN | apply keep_drew | apply keep_alloc) | exact HK.out)⟩
  ·rw [if_neg c3] at H
   exact absurd H (by simp)
 ·rw [if_neg c2] at H
  have c2b0 : decide (s0_1 < (s0_0.length : Int)) = false := decide_eq_false c2
  clear c2
  simp only [Option.some.injEq, Prod.mk.injEq] at H
  obtain ⟨rfl, rfl, rfl⟩ := H
  obtain ⟨ASz5_0, cSz5_0, HGz5, hgz5, HSz5_0⟩ := HI0.out
  have hcz5_0 := cellS85_0 HGz5
  have hcz5_1 := cellS85_1 HGz5
  have hcz5_2 := cellS85_2 HGz5
  have hfz5_1 := aC HGz5 1
  have hfz5_2 := aC HGz5 2
  clear HGz5 hgz5
  go_enter Try.func73, Try.ntmps73
  go_wp2
  repeat (go_quiet (fail); try go_wp2)
  go_ret
  exact ⟨by first | rfl | (simp [errW_none, errW_some] <;> rfl) | (simp [*, errW_none, errW_some] <;> rfl), by repeat (first | (with_reducible first | exact HI0.out | apply IsS85.alloc | apply IsS85.drewN | apply IsS85.drew | apply IsS85.set_1 | apply IsS85.set_2) | exact HI0.out), by repeat (first | (with_reducible first | exact HB.out | apply aM | apply aG | apply aJ | refine aE ?_ (IsS85.ge HI0.out)) | exact HB.out), by repeat (first | (with_reducible first | exact HK.out | apply KeepBut.set_ | apply keep_drewN | apply keep_drew | apply keep_alloc) | exact HK.out)⟩
def spec_l1Bytes.l0 : Nat → Int → List Int → Int → List Int → Int → Int → Option (List Int × Int × Int)
 | 0, _, _, _, _, _, _ => none
 | k + 1, x1, x5, x6, x1000, x1001, x1002 => if x6 < x1 then ((spec_l1Byte.f x1000 x1001 x1002).bind fun bt170 => (if x5.length < 140737488355328 then (spec_l1Bytes.l0 k x1 (x5 ++ [(bt170.1) % 256]) (wrap64 (x6 + 1)) x1000 bt170.2.1 bt170.2.2) else (none))) else (some (x5, x1001, x1002))
def spec_l1Bytes.f (k : Nat) (s0_0 : List Int) (s0_1 : Int) (s0_2 : Int) (a1 : Int) : Option (List Int × Int × Int) := spec_l1Bytes.l0 k a1 (([] : List Int)) 0 s0_0 s0_1 s0_2
set_option maxHeartbeats 8000000 in
set_option maxRecDepth 100000 in
theorem spec_l1Bytes.calls (k : Nat) (g : Nat) (s0_0 : List Int) (s0_1 : Int) (s0_2 : Int) (a1 : Int) (r1 : List Int) (r2 : Int) (r3 : Int) (w0 w : World) (hI : IsS85 w0 w g s0_0 s0_1 s0_2) (hB : Below w0.heap.size w0 w) (h : spec_l1Bytes.f k s0_0 s0_1 s0_2 a1 = some (r1, r2, r3)) :
  Calls Try.prog 65 #[.pointer (some ⟨g, 0, none⟩), .int .i64 a1] w fun e w' => ∃ v0_ : Value, e = .returned (v0_) ∧ Kd.R (Kd.int .u8) 5 w' w.heap.size (fun _ => True) v0_ r1 ∧ IsS85 w0 w' g s0_0 r2 r3 ∧ Below w0.heap.size w0 w' ∧ KeepBut w w' g none := by
 have HI0 := aA.mk hI
 have HK := aA.mk (KeepBut.refl w g none)
 have HL := aA.mk hB.size
 clear hI
 have HW0 := aA.mk hB.size
 have HB := aA.mk hB
 clear hB
 have H : (spec_l1Bytes.l0 k a1 (([] : List Int)) 0 s0_0 s0_1 s0_2) = some (r1, r2, r3) := h
 clear h
 obtain ⟨y167, hy167⟩ : ∃ y_ : List Int, y_ = (([] : List Int)) := ⟨_, rfl⟩
 replace H : (spec_l1Bytes.l0 k a1 y167 0 s0_0 s0_1 s0_2) = some (r1, r2, r3) := by first | (rw [hy167]; with_reducible exact H) | (have H2_ := (Option.bind_some _ _).symm.trans H; rw [hy167]; with_reducible exact H2_) | (have H2_ := (Option.bind_some _ _).symm.trans H; with_reducible exact H2_) | with_reducible exact H | (rw [hy167]; exact H) | exact H
 have Ny167 := aA.mk hy167
 clear hy167
 have H' := aA.mk H
 clear H
 go_enter Try.func65, Try.ntmps65
 go_wp2_with (first | ((with_reducible refine gate_dst (N := 7) rfl ?_); refine Kd.R_lit (Kd.int .u8) _ 5 ?hg (N := 7) ?hd (xs := ([] : List Int)) (inner := []) (ok := fun _ => True) (okp := fun _ => True) ?hr ?hp (fun _ hk => hk) trivial (Below.refl _ _) (Nat.le_refl _) (by simp) ?_; (case hd => rfl); (case hg => rfl); (case hr => first | (go_simp; done) | (go_simp; rfl)); (case hp => exact (Reps.none _ _)); intro v168 w3 ho4 hb hg_ hnew_; clear hg_ hnew_; (first | rw [← Ny167.out] at ho4 | (simp only [Int.reduceToNat] at ho4; rw [← Ny167.out] at ho4)); have n0_ := aA.mk (Kd.R_lower ho4 (keep_size (w := w) (g := g) (row := none) (by repeat (first | (with_reducible first | exact HK.out | apply KeepBut.set_ | apply keep_drewN | apply keep_drew | apply keep_alloc) | exact HK.out)))); have n1_ := aA.mk (IsS85.below (by repeat (first | (with_reducible first | exact HI0.out | apply IsS85.alloc | apply IsS85.drewN | apply IsS85.drew | apply IsS85.set_1 | apply IsS85.set_2) | exact HI0.out)) hb); have n2_ := aA.mk (KeepBut.trans (by repeat (first | (with_reducible first | exact HK.out | apply KeepBut.set_ | apply keep_drewN | apply keep_drew | apply keep_alloc) | exact HK.out)) (KeepBut.of_below hb g none) (.inl rfl)); have n3_ := aA.mk (bD (by repeat (first | (with_reducible first | exact HB.out | apply aM | apply aG | apply aJ | refine aE ?_ (IsS85.ge HI0.out)) | exact HB.out)) hb); clear HI0; clear HK; clear HB; have HO169 := n0_; have HI0 := n1_; have HK := n2_; have HB := n3_; clear n0_ n1_ n2_ n3_; clear hb ho4))
 go_loopg [5, 6] k (fun kq v5 v6 w' => ∃ (x5_1 : List Int) (x6_1 : Int) (x1001_1 : Int) (x1002_1 : Int), v6 = .int .i64 x6_1 ∧ aA (spec_l1Bytes.l0 kq a1 x5_1 x6_1 s0_0 x1001_1 x1002_1 = some (r1, r2, r3)) ∧ aA (kq ≤ k) ∧ aA (Kd.R (Kd.int .u8) 5 w' w.heap.size (fun _ => True) v5 x5_1) ∧ aA (IsS85 w0 w' g s0_0 x1001_1 x1002_1) ∧ aA (KeepBut w w' g none) ∧ aA (Below w0.heap.size w0 w'))
 case atStart => exact ⟨(y167), (0), (s0_1), (s0_2), (by first | rfl | (simp; done) | (simp [*]; done)), H', ⟨Nat.le_refl _⟩, ⟨by (with_reducible repeat (first | apply Kd.R_alloc | apply Kd.R_drewN | apply Kd.R_drew)); exact HO169.out⟩, ⟨by repeat (first | (with_reducible first | exact HI0.out | apply IsS85.alloc | apply IsS85.drewN | apply IsS85.drew | apply IsS85.set_1 | apply IsS85.set_2) | exact HI0.out)⟩, ⟨by repeat (first | (with_reducible first | exact HK.out | apply KeepBut.set_ | apply keep_drewN | apply keep_drew | apply keep_alloc) | exact HK.out)⟩, ⟨by repeat (first | (with_reducible first | exact HB.out | apply aM | apply aG | apply aJ | refine aE ?_ (IsS85.ge HI0.out)) | exact HB.out)⟩⟩
 case round =>
  clear H'
  try clear p2
  obtain ⟨x5_1, x6_1, x1001_1, x1002_1, rfl, HA, HK1, HO_5, HI0, HK, HB⟩ := hrel
  cases gk with
  | zero => exact absurd HA.out (by simp [spec_l1Bytes.l0])
  | succ k1 =>
   have H := HA.out
   clear HA
   simp only [spec_l1Bytes.l0] at H
   by_cases c5 : x6_1 < a1
   ·rw [if_pos c5] at H
    have c5b0 : decide (x6_1 < a1) = true := decide_eq_true c5
    clear c5
    replace H := lF H
    obtain ⟨⟨t170, t171, t172⟩, A60, H⟩ := H
    replace H : (if x5_1.length < 140737488355328 then (spec_l1Bytes.l0 k1 a1 (x5_1 ++ [(t170) % 256]) (wrap64 (x6_1 + 1)) s0_0 t171 t172) else (none)) = some (r1, r2, r3) := H
    have A6 := aA.mk A60
    clear A60
    by_cases c7 : x5_1.length < 140737488355328
    ·rw [if_pos c7] at H
     have LMc7 := aA.mk c7
     clear c7
     obtain ⟨y173, hy173⟩ : ∃ y_ : List Int, y_ = (x5_1 ++ [(t170) % 256]) := ⟨_, rfl⟩
     replace H : (spec_l1Bytes.l0 k1 a1 y173 (wrap64 (x6_1 + 1)) s0_0 t171 t172) = some (r1, r2, r3) := by first | (rw [hy173]; with_reducible exact H) | (have H2_ := (Option.bind_some _ _).symm.trans H; rw [hy173]; with_reducible exact H2_) | (have H2_ := (Option.bind_some _ _).symm.trans H; with_reducible exact H2_) | with_reducible exact H | (rw [hy173]; exact H) | exact H
     have Ny173 := aA.mk hy173
     clear hy173
     have H' := aA.mk H
     clear H
     go_wp2_with (first | ((with_reducible refine bJ (f := 73) rfl ?_); refine goesL_ (some 15) rfl rfl Try.func73 (by kernel_rfl) rfl #[.pointer (some ⟨g, 0, none⟩)] rfl (by (try simp only [List.map_toArray, List.map_cons, List.map_nil]); first | done | rfl | (simp only [List.length_drop, List.length_take]; rfl)) ?_; (with_reducible refine (spec_l1Byte.calls g s0_0 x1001_1 x1002_1 t170 t171 t172 w0 _ ?side1 ?side2 A6.out).mono ?_); (case side1 => repeat (first | (with_reducible first | exact HI0.out | apply IsS85.alloc | apply IsS85.drewN | apply IsS85.drew | apply IsS85.set_1 | apply IsS85.set_2) | exact HI0.out)); (case side2 => repeat (first | (with_reducible first | exact HB.out | apply aM | apply aG | apply aJ | refine aE ?_ (IsS85.ge HI0.out)) | exact HB.out)); rintro e w8 ⟨rfl, hi, hb, hk⟩; refine ⟨_, rfl, ?_⟩; have n0_ := aA.mk (Kd.R_mono (Kd.R_keep (IsS85.apart (show IsS85 w0 _ g s0_0 x1001_1 x1002_1 from by repeat (first | (with_reducible first | exact HI0.out | apply IsS85.alloc | apply IsS85.drewN | apply IsS85.drew | apply IsS85.set_1 | apply IsS85.set_2) | exact HI0.out)) (by (with_reducible repeat (first | apply Kd.R_alloc | apply Kd.R_drewN | apply Kd.R_drew)); exact HO_5.out) (by decide)) hk (fun _ h => h.2)) (fun _ h => h.1)); have n1_ := aA.mk (KeepBut.trans (by repeat (first | (with_reducible first | exact HK.out | apply KeepBut.set_ | apply keep_drewN | apply keep_drew | apply keep_alloc) | exact HK.out)) hk (.inl rfl)); have n2_ := aA.mk (hb); have n3_ := aA.mk (hi); clear HO_5; clear HK; clear HB; clear HI0; have HO_5 := n0_; have HK := n1_; have HB := n2_; have HI0 := n3_; clear n0_ n1_ n2_ n3_; (try clear hb); (try clear hk); (try clear hi)) | ((with_reducible refine gate_builtin (b := .append) (xs := #[.tmp 13, .tmp 17]) rfl ?_); at_builtin; refine Kd.R_append (Kd.int .u8) w.heap.size rfl (.tmp 13) (.tmp 17) 37 5 (.int .u8 0) 1 rfl Try.underlying37 info5 rfl (by decide) (by omega) u5 x5_1 ((t170) % 256) [.int .u8 ((t170) % 256)] (fun _ => True) (fun _ => False) rfl rfl ?aP (fun _ hk => hk.elim) ?aF ?aO (Below.refl _ _) ?aS ?aL ?_; (case aP => exact rfl); (case aF => exact (fun _ _ => trivial)); (case aO => exact (by (with_reducible repeat (first | apply Kd.R_alloc | apply Kd.R_drewN | apply Kd.R_drew)); exact HO_5.out)); (case aS => exact (keep_size (w := w) (g := g) (row := none) (by repeat (first | (with_reducible first | exact HK.out | apply KeepBut.set_ | apply keep_drewN | apply keep_drew | apply keep_alloc) | exact HK.out)))); (case aL => have := LMc7.out; omega); intro v174 w9 ho hb hg hat; rw [← Ny173.out] at ho; have n0_ := aA.mk (IsS85.grown (by repeat (first | (with_reducible first | exact HI0.out | apply IsS85.alloc | apply IsS85.drewN | apply IsS85.drew | apply IsS85.set_1 | apply IsS85.set_2) | exact HI0.out)) hg (IsS85.own_ne HI0.out HO_5.out (by decide))); have n1_ := aA.mk (below_weaken (by repeat (first | (with_reducible first | exact HB.out | apply aM | apply aG | apply aJ | refine aE ?_ (IsS85.ge HI0.out)) | exact HB.out)) HL.out hb); have n2_ := aA.mk (KeepBut.trans (by repeat (first | (with_reducible first | exact HK.out | apply KeepBut.set_ | apply keep_drewN | apply keep_drew | apply keep_alloc) | exact HK.out)) (KeepBut.of_grown hg g) (Kd.R_base2 HO_5.out)); have n3_ := aA.mk (ho); clear HI0; clear HB; clear HK; clear HO_5; have HI0 := n0_; have HB := n1_; have HK := n2_; have HO175 := n3_; clear n0_ n1_ n2_ n3_; clear ho hb hg hat))
     go_roundg k1
     case measure => have := HK1.out; omega
     case rel => exact ⟨(y173), (wrap64 (x6_1 + 1)), (t171), (t172), (by first | rfl | (simp; done) | (simp [*]; done)), H', ⟨by have := HK1.out; omega⟩, ⟨by (with_reducible repeat (first | apply Kd.R_alloc | apply Kd.R_drewN | apply Kd.R_drew)); exact HO175.out⟩, ⟨by repeat (first | (with_reducible first | exact HI0.out | apply IsS85.alloc | apply IsS85.drewN | apply IsS85.drew | apply IsS85.set_1 | apply IsS85.set_2) | exact HI0.out)⟩, ⟨by repeat (first | (with_reducible first | exact HK.out | apply KeepBut.set_ | apply keep_drewN | apply keep_drew | apply keep_alloc) | exact HK.out)⟩, ⟨by repeat (first | (with_reducible first | exact HB.out | apply aM | apply aG | apply aJ | refine aE ?_ (IsS85.ge HI0.out)) | exact HB.out)⟩⟩
    ·rw [if_neg c7] at H
     exact absurd H (by simp)
   ·rw [if_neg c5] at H
    have c5b0 : decide (x6_1 < a1) = false := decide_eq_false c5
    clear c5
    simp only [Option.some.injEq, Prod.mk.injEq] at H
    obtain ⟨rfl, rfl, rfl⟩ := H
    go_wp2
    go_ret
    exact ⟨_, by first | rfl | (simp [errW_none, errW_some] <;> rfl) | (simp [*, errW_none, errW_some] <;> rfl), by (with_reducible repeat (first | apply Kd.R_alloc | apply Kd.R_drewN | apply Kd.R_drew)); exact HO_5.out, by repeat (first | (with_reducible first | exact HI0.out | apply IsS85.alloc | apply IsS85.drewN | apply IsS85.drew | apply IsS85.set_1 | apply IsS85.set_2) | exact HI0.out), by repeat (first | (with_reducible first | exact HB.out | apply aM | apply aG | apply aJ | refine aE ?_ (IsS85.ge HI0.out)) | exact HB.out), by repeat (first | (with_reducible first | exact HK.out | apply KeepBut.set_ | apply keep_drewN | apply keep_drew | apply keep_alloc) | exact HK.out)⟩
def spec_l1Below.f (s0_0 : List Int) (s0_1 : Int) (s0_2 : Int) (a1 : Int) : Option (Int × Int × Int) := if a1 ≤ 0 then (some (0, s0_1, s0_2)) else (if a1 ≤ 256 then ((spec_l1Byte.f s0_0 s0_1 s0_2).bind fun bt176 => (if a1 = 0 then (none) else (some (Int.tmod bt176.1 a1, bt176.2.1, bt176.2.2)))) else ((spec_l1Byte.f s0_0 s0_1 s0_2).bind fun bt179 => ((spec_l1Byte.f s0_0 bt179.2.1 bt179.2.2).bind fun bt182 => ((spec_l1Byte.f s0_0 bt182.2.1 bt182.2.2).bind fun bt185 => (if a1 = 0 then (none) else (some (Int.tmod (wrap64 ((wrap64 ((wrap64 (bt179.1 * 65536)) + (wrap64 (bt182.1 * 256)))) + bt185.1)) a1, bt185.2.1, bt185.2.2)))))))
set_option maxHeartbeats 8000000 in
set_option maxRecDepth 100000 in
theorem spec_l1Below.calls (g : Nat) (s0_0 : List Int) (s0_1 : Int) (s0_2 : Int) (a1 : Int) (r1 : Int) (r2 : Int) (r3 : Int) (w0 w : World) (hI : IsS85 w0 w g s0_0 s0_1 s0_2) (hB : Below w0.heap.size w0 w) (h : spec_l1Below.f s0_0 s0_1 s0_2 a1 = some (r1, r2, r3)) :
  Calls Try.prog 66 #[.pointer (some ⟨g, 0, none⟩), .int .i64 a1] w fun e w' => e = .returned (.int .i64 r1) ∧ IsS85 w0 w' g s0_0 r2 r3 ∧ Below w0.heap.size w0 w' ∧ KeepBut w w' g none := by
 have HI0 := aA.mk hI
 have HK := aA.mk (KeepBut.refl w g none)
 have HL := aA.mk hB.size
 clear hI
 have HW0 := aA.mk hB.size
 have HB := aA.mk hB
 clear hB
 have H : (if a1 ≤ 0 then (some (0, s0_1, s0_2)) else (if a1 ≤ 256 then ((spec_l1Byte.f s0_0 s0_1 s0_2).bind fun bt176 => (if a1 = 0 then (none) else (some (Int.tmod bt176.1 a1, bt176.2.1, bt176.2.2)))) else ((spec_l1Byte.f s0_0 s0_1 s0_2).bind fun bt179 => ((spec_l1Byte.f s0_0 bt179.2.1 bt179.2.2).bind fun bt182 => ((spec_l1Byte.f s0_0 bt182.2.1 bt182.2.2).bind fun bt185 => (if a1 = 0 then (none) else (some (Int.tmod (wrap64 ((wrap64 ((wrap64 (bt179.1 * 65536)) + (wrap64 (bt182.1 * 256)))) + bt185.1)) a1, bt185.2.1, bt185.2.2)))))))) = some (r1, r2, r3) := h
 clear h
 by_cases c3 : a1 ≤ 0
 ·rw [if_pos c3] at H
  have c3b0 : decide (a1 ≤ 0) = true := decide_eq_true c3
  clear c3
  simp only [Option.some.injEq, Prod.mk.injEq] at H
  obtain ⟨rfl, rfl, rfl⟩ := H
  go_enter Try.func66, Try.ntmps66
  go_wp2
  go_ret
  exact ⟨by first | rfl | (simp [errW_none, errW_some] <;> rfl) | (simp [*, errW_none, errW_some] <;> rfl), by repeat (first | (with_reducible first | exact HI0.out | apply IsS85.alloc | apply IsS85.drewN | apply IsS85.drew | apply IsS85.set_1 | apply IsS85.set_2) | exact HI0.out), by repeat (first | (with_reducible first | exact HB.out | apply aM | apply aG | apply aJ | refine aE ?_ (IsS85.ge HI0.out)) | exact HB.out), by repeat (first | (with_reducible first | exact HK.out | apply KeepBut.set_ | apply keep_drewN | apply keep_drew | apply keep_alloc) | exact HK.out)⟩
 ·rw [if_neg c3] at H
  have c3b0 : decide (a1 ≤ 0) = false := decide_eq_false c3
  clear c3
  by_cases c4 : a1 ≤ 256
  ·rw [if_pos c4] at H
   have c4b0 : decide (a1 ≤ 256) = true := decide_eq_true c4
   clear c4
   replace H := lF H
   obtain ⟨⟨t176, t177, t178⟩, A50, H⟩ := H
   replace H : (if a1 = 0 then (none) else (some (Int.tmod t176 a1, t177, t178))) = some (r1, r2, r3) := H
   have A5 := aA.mk A50
   clear A50
   by_cases c6 : a1 = 0
   ·rw [if_pos c6] at H
    exact absurd H (by simp)
   ·rw [if_neg c6] at H
    have c6b0 : (a1 == 0) = false := beq_eq_false_iff_ne.mpr c6
    have c6b1 : (a1 != 0) = true := bne_iff_ne.mpr c6
    simp only [Option.some.injEq, Prod.mk.injEq] at H
    obtain ⟨rfl, rfl, rfl⟩ := H
    go_enter Try.func66, Try.ntmps66
    go_wp2_with (first | ((with_reducible refine bJ (f := 73) rfl ?_); refine goesL_ (some 13) rfl rfl Try.func73 (by kernel_rfl) rfl #[.pointer (some ⟨g, 0, none⟩)] rfl (by (try simp only [List.map_toArray, List.map_cons, List.map_nil]); first | done | rfl | (simp only [List.length_drop, List.length_take]; rfl)) ?_; (with_reducible refine (spec_l1Byte.calls g s0_0 s0_1 s0_2 t176 t177 t178 w0 _ ?side1 ?side2 A5.out).mono ?_); (case side1 => repeat (first | (with_reducible first | exact HI0.out | apply IsS85.alloc | apply IsS85.drewN | apply IsS85.drew | apply IsS85.set_1 | apply IsS85.set_2) | exact HI0.out)); (case side2 => repeat (first | (with_reducible first | exact HB.out | apply aM | apply aG | apply aJ | refine aE ?_ (IsS85.ge HI0.out)) | exact HB.out)); rintro e w7 ⟨rfl, hi, hb, hk⟩; refine ⟨_, rfl, ?_⟩; have n0_ := aA.mk (KeepBut.trans (by repeat (first | (with_reducible first | exact HK.out | apply KeepBut.set_ | apply keep_drewN | apply keep_drew | apply keep_alloc) | exact HK.out)) hk (.inl rfl)); have n1_ := aA.mk (hb); have n2_ := aA.mk (hi); clear HK; clear HB; clear HI0; have HK := n0_; have HB := n1_; have HI0 := n2_; clear n0_ n1_ n2_; (try clear hb); (try clear hk); (try clear hi)))
    go_ret
    exact ⟨by first | rfl | (simp [errW_none, errW_some] <;> rfl) | (simp [*, errW_none, errW_some] <;> rfl), by repeat (first | (with_reducible first | exact HI0.out | apply IsS85.alloc | apply IsS85.drewN | apply IsS85.drew | apply IsS85.set_1 | apply IsS85.set_2) | exact HI0.out), by repeat (first | (with_reducible first | exact HB.out | apply aM | apply aG | apply aJ | refine aE ?_ (IsS85.ge HI0.out)) | exact HB.out), by repeat (first | (with_reducible first | exact HK.out | apply KeepBut.set_ | apply keep_drewN | apply keep_drew | apply keep_alloc) | exact HK.out)⟩
  ·rw [if_neg c4] at H
   have c4b0 : decide (a1 ≤ 256) = false := decide_eq_false c4
   clear c4
   replace H := lF H
   obtain ⟨⟨t179, t180, t181⟩, A80, H⟩ := H
   replace H : ((spec_l1Byte.f s0_0 t180 t181).bind fun bt182 => ((spec_l1Byte.f s0_0 bt182.2.1 bt182.2.2).bind fun bt185 => (if a1 = 0 then (none) else (some (Int.tmod (wrap64 ((wrap64 ((wrap64 (t179 * 65536)) + (wrap64 (bt182.1 * 256)))) + bt185.1)) a1, bt185.2.1, bt185.2.2))))) = some (r1, r2, r3) := H
   have A8 := aA.mk A80
   clear A80
   replace H := lF H
   obtain ⟨⟨t182, t183, t184⟩, A90, H⟩ := H
   replace H : ((spec_l1Byte.f s0_0 t183 t184).bind fun bt185 => (if a1 = 0 then (none) else (some (Int.tmod (wrap64 ((wrap64 ((wrap64 (t179 * 65536)) + (wrap64 (t182 * 256)))) + bt185.1)) a1, bt185.2.1, bt185.2.2)))) = some (r1, r2, r3) := H
   have A9 := aA.mk A90
   clear A90
   replace H := lF H
   obtain ⟨⟨t185, t186, t187⟩, A100, H⟩ := H
   replace H : (if a1 = 0 then (none) else (some (Int.tmod (wrap64 ((wrap64 ((wrap64 (t179 * 65536)) + (wrap64 (t182 * 256)))) + t185)) a1, t186, t187))) = some (r1, r2, r3) := H
   have A10 := aA.mk A100
   clear A100
   by_cases c11 : a1 = 0
   ·rw [if_pos c11] at H
    exact absurd H (by simp)
   ·rw [if_neg c11] at H
    have c11b0 : (a1 == 0) = false := beq_eq_false_iff_ne.mpr c11
    have c11b1 : (a1 != 0) = true := bne_iff_ne.mpr c11
    simp only [Option.some.injEq, Prod.mk.injEq] at H
    obtain ⟨rfl, rfl, rfl⟩ := H
    go_enter Try.func66, Try.ntmps66
    go_wp2_with (first | ((with_reducible refine bJ (f := 73) rfl ?_); refine goesL_ (some 17) rfl rfl Try.func73 (by kernel_rfl) rfl #[.pointer (some ⟨g, 0, none⟩)] rfl (by (try simp only [List.map_toArray, List.map_cons, List.map_nil]); first | done | rfl | (simp only [List.length_drop, List.length_take]; rfl)) ?_; (with_reducible refine (spec_l1Byte.calls g s0_0 s0_1 s0_2 t179 t180 t181 w0 _ ?side1 ?side2 A8.out).mono ?_); (case side1 => repeat (first | (with_reducible first | exact HI0.out | apply IsS85.alloc | apply IsS85.drewN | apply IsS85.drew | apply IsS85.set_1 | apply IsS85.set_2) | exact HI0.out)); (case side2 => repeat (first | (with_reducible first | exact HB.out | apply aM | apply aG | apply aJ | refine aE ?_ (IsS85.ge HI0.out)) | exact HB.out)); rintro e w12 ⟨rfl, hi, hb, hk⟩; refine ⟨_, rfl, ?_⟩; have n0_ := aA.mk (KeepBut.trans (by repeat (first | (with_reducible first | exact HK.out | apply KeepBut.set_ | apply keep_drewN | apply keep_drew | apply keep_alloc) | exact HK.out)) hk (.inl rfl)); have n1_ := aA.mk (hb); have n2_ := aA.mk (hi); clear HK; clear HB; clear HI0; have HK := n0_; have HB := n1_; have HI0 := n2_; clear n0_ n1_ n2_; (try clear hb); (try clear hk); (try clear hi)) | ((with_reducible refine bJ (f := 73) rfl ?_); refine goesL_ (some 19) rfl rfl Try.func73 (by kernel_rfl) rfl #[.pointer (some ⟨g, 0, none⟩)] rfl (by (try simp only [List.map_toArray, List.map_cons, List.map_nil]); first | done | rfl | (simp only [List.length_drop, List.length_take]; rfl)) ?_; (with_reducible refine (spec_l1Byte.calls g s0_0 t180 t181 t182 t183 t184 w0 _ ?side1 ?side2 A9.out).mono ?_); (case side1 => repeat (first | (with_reducible first | exact HI0.out | apply IsS85.alloc | apply IsS85.drewN | apply IsS85.drew | apply IsS85.set_1 | apply IsS85.set_2) | exact HI0.out)); (case side2 => repeat (first | (with_reducible first | exact HB.out | apply aM | apply aG | apply aJ | refine aE ?_ (IsS85.ge HI0.out)) | exact HB.out)); rintro e w13 ⟨rfl, hi, hb, hk⟩; refine ⟨_, rfl, ?_⟩; have n0_ := aA.mk (KeepBut.trans (by repeat (first | (with_reducible first | exact HK.out | apply KeepBut.set_ | apply keep_drewN | apply keep_drew | apply keep_alloc) | exact HK.out)) hk (.inl rfl)); have n1_ := aA.mk (hb); have n2_ := aA.mk (hi); clear HK; clear HB; clear HI0; have HK := n0_; have HB := n1_; have HI0 := n2_; clear n0_ n1_ n2_; (try clear hb); (try clear hk); (try clear hi)) | ((with_reducible refine bJ (f := 73) rfl ?_); refine goesL_ (some 21) rfl rfl Try.func73 (by kernel_rfl) rfl #[.pointer (some ⟨g, 0, none⟩)] rfl (by (try simp only [List.map_toArray, List.map_cons, List.map_nil]); first | done | rfl | (simp only [List.length_drop, List.length_take]; rfl)) ?_; (with_reducible refine (spec_l1Byte.calls g s0_0 t183 t184 t185 t186 t187 w0 _ ?side1 ?side2 A10.out).mono ?_); (case side1 => repeat (first | (with_reducible first | exact HI0.out | apply IsS85.alloc | apply IsS85.drewN | apply IsS85.drew | apply IsS85.set_1 | apply IsS85.set_2) | exact HI0.out)); (case side2 => repeat (first | (with_reducible first | exact HB.out | apply aM | apply aG | apply aJ | refine aE ?_ (IsS85.ge HI0.out)) | exact HB.out)); rintro e w14 ⟨rfl, hi, hb, hk⟩; refine ⟨_, rfl, ?_⟩; have n0_ := aA.mk (KeepBut.trans (by repeat (first | (with_reducible first | exact HK.out | apply KeepBut.set_ | apply keep_drewN | apply keep_drew | apply keep_alloc) | exact HK.out)) hk (.inl rfl)); have n1_ := aA.mk (hb); have n2_ := aA.mk (hi); clear HK; clear HB; clear HI0; have HK := n0_; have HB := n1_; have HI0 := n2_; clear n0_ n1_ n2_; (try clear hb); (try clear hk); (try clear hi)))
    go_ret
    exact ⟨by first | rfl | (simp [errW_none, errW_some] <;> rfl) | (simp [*, errW_none, errW_some] <;> rfl), by repeat (first | (with_reducible first | exact HI0.out | apply IsS85.alloc | apply IsS85.drewN | apply IsS85.drew | apply IsS85.set_1 | apply IsS85.set_2) | exact HI0.out), by repeat (first | (with_reducible first | exact HB.out | apply aM | apply aG | apply aJ | refine aE ?_ (IsS85.ge HI0.out)) | exact HB.out), by repeat (first | (with_reducible first | exact HK.out | apply KeepBut.set_ | apply keep_drewN | apply keep_drew | apply keep_alloc) | exact HK.out)⟩
def spec_l1Once.f (s0_0 : List Int) (s0_1 : Int) (s0_2 : Int) (a1 : Int) : Option (Bool × Int × Int) := (spec_l1Below.f s0_0 s0_1 s0_2 a1).bind fun bt188 => (some ((bt188.1 == 0), bt188.2.1, bt188.2.2))
set_option maxHeartbeats 8000000 in
set_option maxRecDepth 100000 in
theorem spec_l1Once.calls (g : Nat) (s0_0 : List Int) (s0_1 : Int) (s0_2 : Int) (a1 : Int) (r1 : Bool) (r2 : Int) (r3 : Int) (w0 w : World) (hI : IsS85 w0 w g s0_0 s0_1 s0_2) (hB : Below w0.heap.size w0 w) (h : spec_l1Once.f s0_0 s0_1 s0_2 a1 = some (r1, r2, r3)) :
  Calls Try.prog 67 #[.pointer (some ⟨g, 0, none⟩), .int .i64 a1] w fun e w' => e = .returned (.bool r1) ∧ IsS85 w0 w' g s0_0 r2 r3 ∧ Below w0.heap.size w0 w' ∧ KeepBut w w' g none := by
 have HI0 := aA.mk hI
 have HK := aA.mk (KeepBut.refl w g none)
 have HL := aA.mk hB.size
 clear hI
 have HW0 := aA.mk hB.size
 have HB := aA.mk hB
 clear hB
 have H : ((spec_l1Below.f s0_0 s0_1 s0_2 a1).bind fun bt188 => (some ((bt188.1 == 0), bt188.2.1, bt188.2.2))) = some (r1, r2, r3) := h
 clear h
 replace H := lF H
 obtain ⟨⟨t188, t189, t190⟩, A30, H⟩ := H
 replace H : (some ((t188 == 0), t189, t190)) = some (r1, r2, r3) := H
 have A3 := aA.mk A30
 clear A30
 simp only [Option.some.injEq, Prod.mk.injEq] at H
 obtain ⟨rfl, rfl, rfl⟩ := H
 go_enter Try.func67, Try.ntmps67
 go_wp2_with (first | ((with_reducible refine bJ (f := 66) rfl ?_); refine goesL_ (some 7) rfl rfl Try.func66 (by kernel_rfl) rfl #[.pointer (some ⟨g, 0, none⟩), .int .i64 a1] rfl (by (try simp only [List.map_toArray, List.map_cons, List.map_nil]); first | done | rfl | (simp only [List.length_drop, List.length_take]; rfl)) ?_; (with_reducible refine (spec_l1Below.calls g s0_0 s0_1 s0_2 a1 t188 t189 t190 w0 _ ?side1 ?side2 A3.out).mono ?_); (case side1 => repeat (first | (with_reducible first | exact HI0.out | apply IsS85.alloc | apply IsS85.drewN | apply IsS85.drew | apply IsS85.set_1 | apply IsS85.set_2) | exact HI0.out)); (case side2 => repeat (first | (with_reducible first | exact HB.out | apply aM | apply aG | apply aJ | refine aE ?_ (IsS85.ge HI0.out)) | exact HB.out)); rintro e w4 ⟨rfl, hi, hb, hk⟩; refine ⟨_, rfl, ?_⟩; have n0_ := aA.mk (KeepBut.trans (by repeat (first | (with_reducible first | exact HK.out | apply KeepBut.set_ | apply keep_drewN | apply keep_drew | apply keep_alloc) | exact HK.out)) hk (.inl rfl)); have n1_ := aA.mk (hb); have n2_ := aA.mk (hi); clear HK; clear HB; clear HI0; have HK := n0_; have HB := n1_; have HI0 := n2_; clear n0_ n1_ n2_; (try clear hb); (try clear hk); (try clear hi)))
 go_ret
 exact ⟨by first | rfl | (simp [errW_none, errW_some] <;> rfl) | (simp [*, errW_none, errW_some] <;> rfl), by repeat (first | (with_reducible first | exact HI0.out | apply IsS85.alloc | apply IsS85.drewN | apply IsS85.drew | apply IsS85.set_1 | apply IsS85.set_2) | exact HI0.out), by repeat (first | (with_reducible first | exact HB.out | apply aM | apply aG | apply aJ | refine aE ?_ (IsS85.ge HI0.out)) | exact HB.out), by repeat (first | (with_reducible first | exact HK.out | apply KeepBut.set_ | apply keep_drewN | apply keep_drew | apply keep_alloc) | exact HK.out)⟩
end Go.Proofs.Ytilhcaofpfeioaa.PFnFalls

namespace Go.Proofs.Ytilhcaofpfeioaa.Law
open Go.RowKit Go.Proofs.Ytilhcaofpfeioaa.PFnFalls Go.Proofs.Ytilhcaofpfeioaa.Core Go.Proofs.YtilhcaofpfeioaaW.PrintWords Go.Proofs.YtilhcaofpfeioaaW.PrintLast Go.Proofs.YtilhcaofpfeioaaW.PrintMore Go.Proofs.Ytilhcaofpfeioaa.Pure
set_option linter.unusedSimpArgs false
set_option linter.unusedVariables false
theorem spec_l1In_f (a b c : Int) : spec_l1In.f a b c = some (decide (b ≤ a ∧ a ≤ c)) := by
 unfold spec_l1In.f
 by_cases h : a ≥ b
 ·rw [if_pos h]; congr 1; rw [Bool.eq_iff_iff]; simp; omega
 ·rw [if_neg h]; congr 1; rw [Bool.eq_iff_iff]; simp; omega
set_option maxHeartbeats 8000000 in
set_option maxRecDepth 100000 in
theorem walk_l2Op0 (u0_ u1_ : Value) (a0_3 : Bool) (w wi : World) (g : Nat) (hB : Below w.heap.size w wi) (hbk : wi.heap[g]? = some (.cells #[u0_, u1_, .int .i64 0, .bool a0_3] 25 (0, 0))) (hgg : w.heap.size ≤ g) :
  Calls Try.prog 72 #[.pointer (some ⟨g, 0, none⟩)] wi fun e w' => e = .returned (.bool false) ∧ w'.heap[g]? = some (.cells #[u0_, u1_, .int .i64 (-1), .bool true] 25 (0, 0)) ∧ Below w.heap.size w w' ∧ Kept wi w' (fun k_ => k_ = g) := by
 have hu25 := Try.underlying25
 have HB := aA.mk hB
 have BKg := aA.mk hbk
 have HKP := aA.mk (Kept.refl wi (fun k_ => k_ = g))
 have HORD := aA.mk (And.intro hgg (Nat.le_succ g))
 have HT := aA.mk (show g + 1 ≤ wi.heap.size from blk_lt hbk)
 clear hB hbk
 go_enter Try.func72, Try.ntmps72
 have hzg_0_0 : wi.cell? ⟨g, 0, none⟩ = some (u0_) := (aD BKg.out 0).trans rfl
 have hyg_0_0 := aC BKg.out 0
 have hzg_1_0 : wi.cell? ⟨g, 1, none⟩ = some (u1_) := (aD BKg.out 1).trans rfl
 have hyg_1_0 := aC BKg.out 1
 have hzg_2_0 : wi.cell? ⟨g, 2, none⟩ = some (.int .i64 0) := (aD BKg.out 2).trans rfl
 have hyg_2_0 := aC BKg.out 2
 have hzg_3_0 : wi.cell? ⟨g, 3, none⟩ = some (.bool a0_3) := (aD BKg.out 3).trans rfl
 have hyg_3_0 := aC BKg.out 3
 go_wp2_with (first | ((with_reducible refine gate_store (t := 4) (p := 10) rfl ?_); refine store_event (t := 4) (p := 10) (v := ?vo_w1) (w1 := (wi.setCell ⟨g, 3, none⟩ (.bool true))) ?hg ?ho ?hn ?hr ?_; (case ho => rfl); (case hg => rfl); (case hn => rfl); (case hr => first | (go_simp; done) | (go_simp; rfl)); intro w1 hw_; have hkp : Kept wi w1 (fun k_ => k_ = g) := (by rw [hw_]; exact Kept.setCell (Kept.refl wi (fun k_ => k_ = g)) (.inl rfl) (.bool true)); have hge_ : w.heap.size ≤ g := (by have o_ := HORD.out; (try unfold In at *); (try show _ ≠ _); omega); have hbn_ : Below w.heap.size w w1 := (by rw [hw_]; exact aE (HB.out) hge_); have hbk_ : w1.heap[g]? = some (.cells #[u0_, u1_, .int .i64 0, .bool true] 25 (0, 0)) := (by rw [hw_]; exact bE (cs := #[u0_, u1_, .int .i64 0, .bool a0_3]) (cs' := #[u0_, u1_, .int .i64 0, .bool true]) (BKg.out) 3 _ rfl); have hsz_ : (g + 1) ≤ w1.heap.size := Nat.le_trans HT.out hkp.1; have n0_ := aA.mk (HKP.out.then_ hkp (fun k_ h_ => by have o_ := HORD.out; have t_ := HT.out; (try simp only [In2, Up, In, Ex, Exb] at h_ ⊢); omega)); have n1_ := aA.mk (hbn_); have n2_ := aA.mk (hbk_); have n3_ := aA.mk (hsz_); (try clear HKP); (try clear HB); (try clear BKg); (try clear HT); have HKP := n0_; have HB := n1_; have BKg := n2_; have HT := n3_; clear n0_ n1_ n2_ n3_; clear hw_ hkp hge_ hbn_ hbk_ hsz_; have hzg_0_1 : w1.cell? ⟨g, 0, none⟩ = some (u0_) := (aD BKg.out 0).trans rfl; have hyg_0_1 := aC BKg.out 0; have hzg_1_1 : w1.cell? ⟨g, 1, none⟩ = some (u1_) := (aD BKg.out 1).trans rfl; have hyg_1_1 := aC BKg.out 1; have hzg_2_1 : w1.cell? ⟨g, 2, none⟩ = some (.int .i64 0) := (aD BKg.out 2).trans rfl; have hyg_2_1 := aC BKg.out 2; have hzg_3_1 : w1.cell? ⟨g, 3, none⟩ = some (.bool true) := (aD BKg.out 3).trans rfl; have hyg_3_1 := aC BKg.out 3) | ((with_reducible refine gate_store (t := 3) (p := 13) rfl ?_); refine store_event (t := 3) (p := 13) (v := ?vo_w2) (w1 := (w1.setCell ⟨g, 2, none⟩ (.int .i64 ((-1))))) ?hg ?ho ?hn ?hr ?_; (case ho => rfl); (case hg => rfl); (case hn => rfl); (case hr => first | (go_simp; done) | (go_simp; rfl)); intro w2 hw_; have hkp : Kept w1 w2 (fun k_ => k_ = g) := (by rw [hw_]; exact Kept.setCell (Kept.refl w1 (fun k_ => k_ = g)) (.inl rfl) (.int .i64 ((-1)))); have hge_ : w.heap.size ≤ g := (by have o_ := HORD.out; (try unfold In at *); (try show _ ≠ _); omega); have hbn_ : Below w.heap.size w w2 := (by rw [hw_]; exact aE (HB.out) hge_); have hbk_ : w2.heap[g]? = some (.cells #[u0_, u1_, .int .i64 ((-1)), .bool true] 25 (0, 0)) := (by rw [hw_]; exact bE (cs := #[u0_, u1_, .int .i64 0, .bool true]) (cs' := #[u0_, u1_, .int .i64 ((-1)), .bool true]) (BKg.out) 2 _ rfl); have hsz_ : (g + 1) ≤ w2.heap.size := Nat.le_trans HT.out hkp.1; have n0_ := aA.mk (HKP.out.then_ hkp (fun k_ h_ => by have o_ := HORD.out; have t_ := HT.out; (try simp only [In2, Up, In, Ex, Exb] at h_ ⊢); omega)); have n1_ := aA.mk (hbn_); have n2_ := aA.mk (hbk_); have n3_ := aA.mk (hsz_); (try clear HKP); (try clear HB); (try clear BKg); (try clear HT); have HKP := n0_; have HB := n1_; have BKg := n2_; have HT := n3_; clear n0_ n1_ n2_ n3_; clear hw_ hkp hge_ hbn_ hbk_ hsz_; have hzg_0_2 : w2.cell? ⟨g, 0, none⟩ = some (u0_) := (aD BKg.out 0).trans rfl; have hyg_0_2 := aC BKg.out 0; have hzg_1_2 : w2.cell? ⟨g, 1, none⟩ = some (u1_) := (aD BKg.out 1).trans rfl; have hyg_1_2 := aC BKg.out 1; have hzg_2_2 : w2.cell? ⟨g, 2, none⟩ = some (.int .i64 ((-1))) := (aD BKg.out 2).trans rfl; have hyg_2_2 := aC BKg.out 2; have hzg_3_2 : w2.cell? ⟨g, 3, none⟩ = some (.bool true) := (aD BKg.out 3).trans rfl; have hyg_3_2 := aC BKg.out 3))
 have hres_ := @results_tmp Try.f72 2 (by kernel_rfl)
 refine bodyPost_ret (fn := Try.f72) (P := Try.prog) (hres_ _ _ _) rfl ?_
 exact ⟨rfl, BKg.out, HB.out, HKP.out⟩
set_option maxHeartbeats 8000000 in
set_option maxRecDepth 100000 in
theorem walk_l2Op1 (u0_ u1_ : Value) (a0_2 : Int) (a0_3 : Bool) (w wi : World) (g : Nat) (hB : Below w.heap.size w wi) (hbk : wi.heap[g]? = some (.cells #[u0_, u1_, .int .i64 a0_2, .bool a0_3] 25 (0, 0))) (hgg : w.heap.size ≤ g) (hp0 : 0 < a0_2) :
  Calls Try.prog 72 #[.pointer (some ⟨g, 0, none⟩)] wi fun e w' => e = .returned (.bool true) ∧ w'.heap[g]? = some (.cells #[u0_, u1_, .int .i64 (wrap64 (a0_2 - 1)), .bool a0_3] 25 (0, 0)) ∧ Below w.heap.size w w' ∧ Kept wi w' (fun k_ => k_ = g) := by
 have hu25 := Try.underlying25
 have HB := aA.mk hB
 have BKg := aA.mk hbk
 have HKP := aA.mk (Kept.refl wi (fun k_ => k_ = g))
 have HORD := aA.mk (And.intro hgg (Nat.le_succ g))
 have HT := aA.mk (show g + 1 ≤ wi.heap.size from blk_lt hbk)
 have d1_ : (a0_2 == 0) = false := beq_eq_false_iff_ne.mpr (by omega)
 have d2_ : decide (0 < a0_2) = true := decide_eq_true hp0
 clear hB hbk
 go_enter Try.func72, Try.ntmps72
 have hzg_0_0 : wi.cell? ⟨g, 0, none⟩ = some (u0_) := (aD BKg.out 0).trans rfl
 have hyg_0_0 := aC BKg.out 0
 have hzg_1_0 : wi.cell? ⟨g, 1, none⟩ = some (u1_) := (aD BKg.out 1).trans rfl
 have hyg_1_0 := aC BKg.out 1
 have hzg_2_0 : wi.cell? ⟨g, 2, none⟩ = some (.int .i64 a0_2) := (aD BKg.out 2).trans rfl
 have hyg_2_0 := aC BKg.out 2
 have hzg_3_0 : wi.cell? ⟨g, 3, none⟩ = some (.bool a0_3) := (aD BKg.out 3).trans rfl
 have hyg_3_0 := aC BKg.out 3
 go_wp2_with (first | ((with_reducible refine gate_store (t := 3) (p := 26) rfl ?_); refine store_event (t := 3) (p := 26) (v := ?vo_w1) (w1 := (wi.setCell ⟨g, 2, none⟩ (.int .i64 ((wrap64 (a0_2 - 1)))))) ?hg ?ho ?hn ?hr ?_; (case ho => rfl); (case hg => rfl); (case hn => rfl); (case hr => first | (go_simp; done) | (go_simp; rfl)); intro w1 hw_; have hkp : Kept wi w1 (fun k_ => k_ = g) := (by rw [hw_]; exact Kept.setCell (Kept.refl wi (fun k_ => k_ = g)) (.inl rfl) (.int .i64 ((wrap64 (a0_2 - 1))))); have hge_ : w.heap.size ≤ g := (by have o_ := HORD.out; (try unfold In at *); (try show _ ≠ _); omega); have hbn_ : Below w.heap.size w w1 := (by rw [hw_]; exact aE (HB.out) hge_); have hbk_ : w1.heap[g]? = some (.cells #[u0_, u1_, .int .i64 ((wrap64 (a0_2 - 1))), .bool a0_3] 25 (0, 0)) := (by rw [hw_]; exact bE (cs := #[u0_, u1_, .int .i64 a0_2, .bool a0_3]) (cs' := #[u0_, u1_, .int .i64 ((wrap64 (a0_2 - 1))), .bool a0_3]) (BKg.out) 2 _ rfl); have hsz_ : (g + 1) ≤ w1.heap.size := Nat.le_trans HT.out hkp.1; have n0_ := aA.mk (HKP.out.then_ hkp (fun k_ h_ => by have o_ := HORD.out; have t_ := HT.out; (try simp only [In2, Up, In, Ex, Exb] at h_ ⊢); omega)); have n1_ := aA.mk (hbn_); have n2_ := aA.mk (hbk_); have n3_ := aA.mk (hsz_); (try clear HKP); (try clear HB); (try clear BKg); (try clear HT); have HKP := n0_; have HB := n1_; have BKg := n2_; have HT := n3_; clear n0_ n1_ n2_ n3_; clear hw_ hkp hge_ hbn_ hbk_ hsz_; have hzg_0_1 : w1.cell? ⟨g, 0, none⟩ = some (u0_) := (aD BKg.out 0).trans rfl; have hyg_0_1 := aC BKg.out 0; have hzg_1_1 : w1.cell? ⟨g, 1, none⟩ = some (u1_) := (aD BKg.out 1).trans rfl; have hyg_1_1 := aC BKg.out 1; have hzg_2_1 : w1.cell? ⟨g, 2, none⟩ = some (.int .i64 ((wrap64 (a0_2 - 1)))) := (aD BKg.out 2).trans rfl; have hyg_2_1 := aC BKg.out 2; have hzg_3_1 : w1.cell? ⟨g, 3, none⟩ = some (.bool a0_3) := (aD BKg.out 3).trans rfl; have hyg_3_1 := aC BKg.out 3))
 have hres_ := @results_tmp Try.f72 2 (by kernel_rfl)
 refine bodyPost_ret (fn := Try.f72) (P := Try.prog) (hres_ _ _ _) rfl ?_
 exact ⟨rfl, BKg.out, HB.out, HKP.out⟩
set_option maxHeartbeats 8000000 in
set_option maxRecDepth 100000 in
theorem walk_l2Op2 (u0_ u1_ : Value) (a0_2 : Int) (a0_3 : Bool) (w wi : World) (g : Nat) (hB : Below w.heap.size w wi) (hbk : wi.heap[g]? = some (.cells #[u0_, u1_, .int .i64 a0_2, .bool a0_3] 25 (0, 0))) (hgg : w.heap.size ≤ g) (hp0 : a0_2 < 0) :
  Calls Try.prog 72 #[.pointer (some ⟨g, 0, none⟩)] wi fun e w' => e = .returned (.bool true) ∧ w'.heap[g]? = some (.cells #[u0_, u1_, .int .i64 a0_2, .bool a0_3] 25 (0, 0)) ∧ Below w.heap.size w w' ∧ Kept wi w' (fun k_ => k_ = g) := by
 have hu25 := Try.underlying25
 have HB := aA.mk hB
 have BKg := aA.mk hbk
 have HKP := aA.mk (Kept.refl wi (fun k_ => k_ = g))
 have HORD := aA.mk (And.intro hgg (Nat.le_succ g))
 have HT := aA.mk (show g + 1 ≤ wi.heap.size from blk_lt hbk)
 have d1_ : (a0_2 == 0) = false := beq_eq_false_iff_ne.mpr (by omega)
 have d2_ : decide (0 < a0_2) = false := decide_eq_false (by omega)
 clear hB hbk
 go_enter Try.func72, Try.ntmps72
 have hzg_0_0 : wi.cell? ⟨g, 0, none⟩ = some (u0_) := (aD BKg.out 0).trans rfl
 have hyg_0_0 := aC BKg.out 0
 have hzg_1_0 : wi.cell? ⟨g, 1, none⟩ = some (u1_) := (aD BKg.out 1).trans rfl
 have hyg_1_0 := aC BKg.out 1
 have hzg_2_0 : wi.cell? ⟨g, 2, none⟩ = some (.int .i64 a0_2) := (aD BKg.out 2).trans rfl
 have hyg_2_0 := aC BKg.out 2
 have hzg_3_0 : wi.cell? ⟨g, 3, none⟩ = some (.bool a0_3) := (aD BKg.out 3).trans rfl
 have hyg_3_0 := aC BKg.out 3
 try go_wp2
 have hres_ := @results_tmp Try.f72 2 (by kernel_rfl)
 refine bodyPost_ret (fn := Try.f72) (P := Try.prog) (hres_ _ _ _) rfl ?_
 exact ⟨rfl, BKg.out, HB.out, HKP.out⟩
theorem spec_l2OpS.calls (u0_ u1_ : Value) (a0_2 : Int) (a0_3 : Bool) (r1 : Int) (r2 : Bool) (r3 : Bool) (w wi : World) (g : Nat) (hB : Below w.heap.size w wi) (hbk : wi.heap[g]? = some (.cells #[u0_, u1_, .int .i64 a0_2, .bool a0_3] 25 (0, 0))) (hgg : w.heap.size ≤ g) (h : burnF a0_2 a0_3 = (r1, r2, r3)) :
  Calls Try.prog 72 #[.pointer (some ⟨g, 0, none⟩)] wi fun e w' => e = .returned (.bool r3) ∧ w'.heap[g]? = some (.cells #[u0_, u1_, .int .i64 r1, .bool r2] 25 (0, 0)) ∧ Below w.heap.size w w' ∧ Kept wi w' (fun k_ => k_ = g) := by
 unfold burnF at h
 by_cases h0 : a0_2 = 0
 ·rw [if_pos h0] at h
  subst h0
  simp only [Prod.mk.injEq] at h
  obtain ⟨rfl, rfl, rfl⟩ := h
  exact walk_l2Op0 _ _ _ w wi g hB hbk hgg
 ·rw [if_neg h0] at h
  by_cases h1 : 0 < a0_2
  ·rw [if_pos h1] at h
   simp only [Prod.mk.injEq] at h
   obtain ⟨rfl, rfl, rfl⟩ := h
   exact walk_l2Op1 _ _ _ _ w wi g hB hbk hgg h1
  ·rw [if_neg h1] at h
   simp only [Prod.mk.injEq] at h
   obtain ⟨rfl, rfl, rfl⟩ := h
   exact walk_l2Op2 _ _ _ _ w wi g hB hbk hgg (by omega)
def WrPost (w wi w' : World) (a g gS : Nat) (u0 : Value) (s : List (List Int)) (c : List (S50)) (f : Int) (d : Bool) : Prop := ∃ (u1 : Value) (gn : Nat), w'.heap[g]? = some (.cells #[u0, u1, .int .i64 f, .bool d] 25 (0, 0)) ∧ (∀ k, u1.ownBlock = some k → k = gn) ∧ (gn < w'.heap.size ∧ g ≠ gn) ∧ Kd.N (Kd.slice 5 (Kd.int .u8)) 37 w' w.heap.size (Ex a gn g) u0 s ∧ Kd.N k50 50 w' w.heap.size (Ex a gS g) u1 c ∧ Below w.heap.size w w' ∧ Kept wi w' (fun k => a ≤ k)
def FlPost (w wi w' : World) (a g gS : Nat) (s : List (List Int)) (c : List (S50)) (f : Int) (d : Bool) : Prop := ∃ (u0 u1 : Value) (gn : Nat), w'.heap[g]? = some (.cells #[u0, u1, .int .i64 f, .bool d] 25 (0, 0)) ∧ (∀ k, u1.ownBlock = some k → k = gn) ∧ (gn < w'.heap.size ∧ g ≠ gn) ∧ (∀ k, u0.ownBlock = some k → k = gS) ∧ Kd.N (Kd.slice 5 (Kd.int .u8)) 37 w' w.heap.size (Ex a gn g) u0 s ∧ Kd.N k50 50 w' w.heap.size (Ex a gS g) u1 c ∧ Below w.heap.size w w' ∧ Kept wi w' (fun k => a ≤ k)
set_option maxHeartbeats 8000000 in
set_option maxRecDepth 100000 in
theorem walk_l2Write1 (A0_0 : Option Addr) (c0_0 : Nat) (l0_0 : List (List Int)) (A0_1 : Option Addr) (c0_1 : Nat) (l0_1 : List (S50)) (a0_2 : Int) (a1 : Int) (A2 : Option Addr) (c2 : Nat) (l2 : List (Int)) (w wi : World) (g : Nat) (hB : Below w.heap.size w wi) (hbk : wi.heap[g]? = some (.cells #[.slice A0_0 l0_0.length c0_0, .slice A0_1 l0_1.length c0_1, .int .i64 a0_2, .bool true] 25 (0, 0))) (a gS gC : Nat) (hwa : w.heap.size ≤ a ∧ 0 < a) (hag : a ≤ g) (hSt : gS < wi.heap.size ∧ g ≠ gS) (hCt : gC < wi.heap.size ∧ g ≠ gC) (hgC : ∀ k_, (Value.slice A0_1 l0_1.length c0_1).ownBlock = some k_ → k_ = gC) (hgS : ∀ k_, (Value.slice A0_0 l0_0.length c0_0).ownBlock = some k_ → k_ = gS) (hn0 : Kd.N (Kd.slice 5 (Kd.int .u8)) 37 wi w.heap.size (Ex a gC g) (.slice A0_0 l0_0.length c0_0) l0_0) (hn1 : Kd.N k50 50 wi w.heap.size (Ex a gS g) (.slice A0_1 l0_1.length c0_1) l0_1) (hf2 : Kd.F (Kd.int .u8) wi (Ex 0 g g) A2 l2.length l2) (hc2 : l2.length ≤ c2) :
  Calls Try.prog 57 #[.pointer (some ⟨g, 0, none⟩), .int .i64 a1, .slice A2 l2.length c2] wi fun e w' => e = .returned (.tuple #[]) ∧ WrPost w wi w' a g gS (.slice A0_0 l0_0.length c0_0) l0_0 l0_1 a0_2 true := by
 have hu25 := Try.underlying25
 have hu50 := Try.underlying50
 have HB := aA.mk hB
 have BKg := aA.mk hbk
 have HKP := aA.mk (Kept.refl wi (fun k_ => a ≤ k_))
 obtain ⟨top, et_⟩ : ∃ n_, n_ = wi.heap.size := ⟨_, rfl⟩
 have HORD := aA.mk (show ((w.heap.size ≤ a ∧ 0 < a) ∧ a ≤ g) ∧ g + 1 ≤ top ∧ (gS < top ∧ g ≠ gS) ∧ (gC < top ∧ g ≠ gC) from ⟨⟨hwa, hag⟩, by rw [et_]; exact blk_lt hbk, by rw [et_]; exact hSt, by rw [et_]; exact hCt⟩)
 have HT := aA.mk (Nat.le_of_eq et_)
 have HN0 := aA.mk (Kd.bA (ok' := Exb a gC g top) (Kd.N_bound hn0) (fun k_ hk_ => ⟨hk_.1, by rw [et_]; exact hk_.2⟩))
 have HN1 := aA.mk (Kd.bA (ok' := Exb a gS g top) (Kd.N_bound hn1) (fun k_ hk_ => ⟨hk_.1, by rw [et_]; exact hk_.2⟩))
 have HGC := aA.mk hgC
 have HGS := aA.mk hgS
 have HTE := aA.mk et_
 clear hn0 hn1 hgC hgS et_ hwa hag hSt hCt
 have HF2 := aA.mk (Kd.F_mono (ok' := Exb 0 g g top) (Kd.F_bound hf2) (fun k_ hk_ => ⟨hk_.1, Nat.lt_of_lt_of_le hk_.2 (Nat.le_of_eq HTE.out.symm)⟩))
 have HC2 := aA.mk hc2
 clear hf2 hc2
 clear hB hbk
 go_enter Try.func57, Try.ntmps57
 have hzg_0_0 : wi.cell? ⟨g, 0, none⟩ = some (.slice A0_0 l0_0.length c0_0) := (aD BKg.out 0).trans rfl
 have hyg_0_0 := aC BKg.out 0
 have hzg_1_0 : wi.cell? ⟨g, 1, none⟩ = some (.slice A0_1 l0_1.length c0_1) := (aD BKg.out 1).trans rfl
 have hyg_1_0 := aC BKg.out 1
 have hzg_2_0 : wi.cell? ⟨g, 2, none⟩ = some (.int .i64 a0_2) := (aD BKg.out 2).trans rfl
 have hyg_2_0 := aC BKg.out 2
 have hzg_3_0 : wi.cell? ⟨g, 3, none⟩ = some (.bool true) := (aD BKg.out 3).trans rfl
 have hyg_3_0 := aC BKg.out 3
 try go_wp2
 first | go_end0 | refine bodyPost_ret (fn := Try.f57) (results_none rfl _ _ _) rfl ?_
 exact ⟨rfl, by unfold WrPost; exact ⟨_, gC, BKg.out, HGC.out, (by have o_ := HORD.out; have t_ := HT.out; omega), Kd.bA HN0.out (fun k_ hk_ => by have o_ := HORD.out; have t_ := HT.out; (try simp only [In2, Up, In, Ex, Exb] at hk_ ⊢); omega), Kd.bA HN1.out (fun k_ hk_ => by have o_ := HORD.out; have t_ := HT.out; (try simp only [In2, Up, In, Ex, Exb] at hk_ ⊢); omega), HB.out, HKP.out⟩⟩
set_option maxHeartbeats 8000000 in
set_option maxRecDepth 100000 in
theorem walk_l2Write2 (A0_0 : Option Addr) (c0_0 : Nat) (l0_0 : List (List Int)) (A0_1 : Option Addr) (c0_1 : Nat) (l0_1 : List (S50)) (a0_2 : Int) (a1 : Int) (A2 : Option Addr) (c2 : Nat) (l2 : List (Int)) (w wi : World) (g : Nat) (hB : Below w.heap.size w wi) (hbk : wi.heap[g]? = some (.cells #[.slice A0_0 l0_0.length c0_0, .slice A0_1 l0_1.length c0_1, .int .i64 a0_2, .bool false] 25 (0, 0))) (a gS gC : Nat) (hwa : w.heap.size ≤ a ∧ 0 < a) (hag : a ≤ g) (hSt : gS < wi.heap.size ∧ g ≠ gS) (hCt : gC < wi.heap.size ∧ g ≠ gC) (hgC : ∀ k_, (Value.slice A0_1 l0_1.length c0_1).ownBlock = some k_ → k_ = gC) (hgS : ∀ k_, (Value.slice A0_0 l0_0.length c0_0).ownBlock = some k_ → k_ = gS) (hn0 : Kd.N (Kd.slice 5 (Kd.int .u8)) 37 wi w.heap.size (Ex a gC g) (.slice A0_0 l0_0.length c0_0) l0_0) (hn1 : Kd.N k50 50 wi w.heap.size (Ex a gS g) (.slice A0_1 l0_1.length c0_1) l0_1) (hf2 : Kd.F (Kd.int .u8) wi (Ex 0 g g) A2 l2.length l2) (hc2 : l2.length ≤ c2) (hwi : decide (0 ≤ a1 ∧ a1 ≤ wrap64 ((l0_0.length : Int) - 1)) = false) :
  Calls Try.prog 57 #[.pointer (some ⟨g, 0, none⟩), .int .i64 a1, .slice A2 l2.length c2] wi fun e w' => e = .returned (.tuple #[]) ∧ WrPost w wi w' a g gS (.slice A0_0 l0_0.length c0_0) l0_0 l0_1 a0_2 false := by
 have hu25 := Try.underlying25
 have hu50 := Try.underlying50
 have HB := aA.mk hB
 have BKg := aA.mk hbk
 have HKP := aA.mk (Kept.refl wi (fun k_ => a ≤ k_))
 obtain ⟨top, et_⟩ : ∃ n_, n_ = wi.heap.size := ⟨_, rfl⟩
 have HORD := aA.mk (show ((w.heap.size ≤ a ∧ 0 < a) ∧ a ≤ g) ∧ g + 1 ≤ top ∧ (gS < top ∧ g ≠ gS) ∧ (gC < top ∧ g ≠ gC) from ⟨⟨hwa, hag⟩, by rw [et_]; exact blk_lt hbk, by rw [et_]; exact hSt, by rw [et_]; exact hCt⟩)
 have HT := aA.mk (Nat.le_of_eq et_)
 have HN0 := aA.mk (Kd.bA (ok' := Exb a gC g top) (Kd.N_bound hn0) (fun k_ hk_ => ⟨hk_.1, by rw [et_]; exact hk_.2⟩))
 have HN1 := aA.mk (Kd.bA (ok' := Exb a gS g top) (Kd.N_bound hn1) (fun k_ hk_ => ⟨hk_.1, by rw [et_]; exact hk_.2⟩))
 have HGC := aA.mk hgC
 have HGS := aA.mk hgS
 have HTE := aA.mk et_
 clear hn0 hn1 hgC hgS et_ hwa hag hSt hCt
 have HF2 := aA.mk (Kd.F_mono (ok' := Exb 0 g g top) (Kd.F_bound hf2) (fun k_ hk_ => ⟨hk_.1, Nat.lt_of_lt_of_le hk_.2 (Nat.le_of_eq HTE.out.symm)⟩))
 have HC2 := aA.mk hc2
 clear hf2 hc2
 have JW := aA.mk (show spec_l1In.f a1 0 (wrap64 ((l0_0.length : Int) - 1)) = some false from by rw [spec_l1In_f, hwi])
 clear hB hbk
 go_enter Try.func57, Try.ntmps57
 have hzg_0_0 : wi.cell? ⟨g, 0, none⟩ = some (.slice A0_0 l0_0.length c0_0) := (aD BKg.out 0).trans rfl
 have hyg_0_0 := aC BKg.out 0
 have hzg_1_0 : wi.cell? ⟨g, 1, none⟩ = some (.slice A0_1 l0_1.length c0_1) := (aD BKg.out 1).trans rfl
 have hyg_1_0 := aC BKg.out 1
 have hzg_2_0 : wi.cell? ⟨g, 2, none⟩ = some (.int .i64 a0_2) := (aD BKg.out 2).trans rfl
 have hyg_2_0 := aC BKg.out 2
 have hzg_3_0 : wi.cell? ⟨g, 3, none⟩ = some (.bool false) := (aD BKg.out 3).trans rfl
 have hyg_3_0 := aC BKg.out 3
 go_wp2_with (first | ((with_reducible refine bJ (f := 43) rfl ?_); refine gate_guard (by first | rfl | kernel_rfl) ?_; refine goesL_ (some 18) rfl rfl Try.func43 (by kernel_rfl) rfl #[.int .i64 a1, .int .i64 0, .int .i64 ((wrap64 ((l0_0.length : Int) - 1)))] rfl (by (try simp only [List.map_toArray, List.map_cons, List.map_nil]); first | done | rfl | (simp only [List.length_drop, List.length_take]; rfl)) ?_; (with_reducible refine (spec_l1In.calls a1 0 ((wrap64 ((l0_0.length : Int) - 1))) false _ JW.out).mono ?_); rintro e_ w1 ⟨rfl, hd⟩; refine ⟨_, rfl, ?_⟩; have hb := hd.below; clear hd; have n0_ := aA.mk (Kd.aZ HF2.out hb); have n1_ := aA.mk (Kd.bL HN0.out hb); have n2_ := aA.mk (Kd.bL HN1.out hb); have n3_ := aA.mk (HKP.out.then_ (Kept.of_below hb (fun _ => False)) (fun _ h_ => h_.elim)); have n4_ := aA.mk (aW BKg.out hb); have n5_ := aA.mk (bD HB.out hb); have n6_ := aA.mk (Nat.le_trans HT.out hb.size); (try clear HF2); (try clear HN0); (try clear HN1); (try clear HKP); (try clear BKg); (try clear HB); (try clear HT); have HF2 := n0_; have HN0 := n1_; have HN1 := n2_; have HKP := n3_; have BKg := n4_; have HB := n5_; have HT := n6_; clear n0_ n1_ n2_ n3_ n4_ n5_ n6_; (try clear hb); have hzg_0_1 : w1.cell? ⟨g, 0, none⟩ = some (.slice A0_0 l0_0.length c0_0) := (aD BKg.out 0).trans rfl; have hyg_0_1 := aC BKg.out 0; have hzg_1_1 : w1.cell? ⟨g, 1, none⟩ = some (.slice A0_1 l0_1.length c0_1) := (aD BKg.out 1).trans rfl; have hyg_1_1 := aC BKg.out 1; have hzg_2_1 : w1.cell? ⟨g, 2, none⟩ = some (.int .i64 a0_2) := (aD BKg.out 2).trans rfl; have hyg_2_1 := aC BKg.out 2; have hzg_3_1 : w1.cell? ⟨g, 3, none⟩ = some (.bool false) := (aD BKg.out 3).trans rfl; have hyg_3_1 := aC BKg.out 3))
 first | go_end0 | refine bodyPost_ret (fn := Try.f57) (results_none rfl _ _ _) rfl ?_
 exact ⟨rfl, by unfold WrPost; exact ⟨_, gC, BKg.out, HGC.out, (by have o_ := HORD.out; have t_ := HT.out; omega), Kd.bA HN0.out (fun k_ hk_ => by have o_ := HORD.out; have t_ := HT.out; (try simp only [In2, Up, In, Ex, Exb] at hk_ ⊢); omega), Kd.bA HN1.out (fun k_ hk_ => by have o_ := HORD.out; have t_ := HT.out; (try simp only [In2, Up, In, Ex, Exb] at hk_ ⊢); omega), HB.out, HKP.out⟩⟩
set_option maxHeartbeats 8000000 in
set_option maxRecDepth 100000 in
theorem walk_l2Write3 (A0_0 : Option Addr) (c0_0 : Nat) (l0_0 : List (List Int)) (A0_1 : Option Addr) (c0_1 : Nat) (l0_1 : List (S50)) (a0_2 : Int) (a1 : Int) (A2 : Option Addr) (c2 : Nat) (l2 : List (Int)) (w wi : World) (g : Nat) (hB : Below w.heap.size w wi) (hbk : wi.heap[g]? = some (.cells #[.slice A0_0 l0_0.length c0_0, .slice A0_1 l0_1.length c0_1, .int .i64 a0_2, .bool false] 25 (0, 0))) (a gS gC : Nat) (hwa : w.heap.size ≤ a ∧ 0 < a) (hag : a ≤ g) (hSt : gS < wi.heap.size ∧ g ≠ gS) (hCt : gC < wi.heap.size ∧ g ≠ gC) (hgC : ∀ k_, (Value.slice A0_1 l0_1.length c0_1).ownBlock = some k_ → k_ = gC) (hgS : ∀ k_, (Value.slice A0_0 l0_0.length c0_0).ownBlock = some k_ → k_ = gS) (hn0 : Kd.N (Kd.slice 5 (Kd.int .u8)) 37 wi w.heap.size (Ex a gC g) (.slice A0_0 l0_0.length c0_0) l0_0) (hn1 : Kd.N k50 50 wi w.heap.size (Ex a gS g) (.slice A0_1 l0_1.length c0_1) l0_1) (hf2 : Kd.F (Kd.int .u8) wi (Ex 0 g g) A2 l2.length l2) (hc2 : l2.length ≤ c2) (hwi : decide (0 ≤ a1 ∧ a1 ≤ wrap64 ((l0_0.length : Int) - 1)) = true) (h80 : 80 < (l2.length : Int)) :
  Calls Try.prog 57 #[.pointer (some ⟨g, 0, none⟩), .int .i64 a1, .slice A2 l2.length c2] wi fun e w' => e = .returned (.tuple #[]) ∧ WrPost w wi w' a g gS (.slice A0_0 l0_0.length c0_0) l0_0 l0_1 a0_2 false := by
 have hu25 := Try.underlying25
 have hu50 := Try.underlying50
 have HB := aA.mk hB
 have BKg := aA.mk hbk
 have HKP := aA.mk (Kept.refl wi (fun k_ => a ≤ k_))
 obtain ⟨top, et_⟩ : ∃ n_, n_ = wi.heap.size := ⟨_, rfl⟩
 have HORD := aA.mk (show ((w.heap.size ≤ a ∧ 0 < a) ∧ a ≤ g) ∧ g + 1 ≤ top ∧ (gS < top ∧ g ≠ gS) ∧ (gC < top ∧ g ≠ gC) from ⟨⟨hwa, hag⟩, by rw [et_]; exact blk_lt hbk, by rw [et_]; exact hSt, by rw [et_]; exact hCt⟩)
 have HT := aA.mk (Nat.le_of_eq et_)
 have HN0 := aA.mk (Kd.bA (ok' := Exb a gC g top) (Kd.N_bound hn0) (fun k_ hk_ => ⟨hk_.1, by rw [et_]; exact hk_.2⟩))
 have HN1 := aA.mk (Kd.bA (ok' := Exb a gS g top) (Kd.N_bound hn1) (fun k_ hk_ => ⟨hk_.1, by rw [et_]; exact hk_.2⟩))
 have HGC := aA.mk hgC
 have HGS := aA.mk hgS
 have HTE := aA.mk et_
 clear hn0 hn1 hgC hgS et_ hwa hag hSt hCt
 have HF2 := aA.mk (Kd.F_mono (ok' := Exb 0 g g top) (Kd.F_bound hf2) (fun k_ hk_ => ⟨hk_.1, Nat.lt_of_lt_of_le hk_.2 (Nat.le_of_eq HTE.out.symm)⟩))
 have HC2 := aA.mk hc2
 clear hf2 hc2
 have JW := aA.mk (show spec_l1In.f a1 0 (wrap64 ((l0_0.length : Int) - 1)) = some true from by rw [spec_l1In_f, hwi])
 have d1_ : decide (80 < (l2.length : Int)) = true := decide_eq_true h80
 clear hB hbk
 go_enter Try.func57, Try.ntmps57
 have hzg_0_0 : wi.cell? ⟨g, 0, none⟩ = some (.slice A0_0 l0_0.length c0_0) := (aD BKg.out 0).trans rfl
 have hyg_0_0 := aC BKg.out 0
 have hzg_1_0 : wi.cell? ⟨g, 1, none⟩ = some (.slice A0_1 l0_1.length c0_1) := (aD BKg.out 1).trans rfl
 have hyg_1_0 := aC BKg.out 1
 have hzg_2_0 : wi.cell? ⟨g, 2, none⟩ = some (.int .i64 a0_2) := (aD BKg.out 2).trans rfl
 have hyg_2_0 := aC BKg.out 2
 have hzg_3_0 : wi.cell? ⟨g, 3, none⟩ = some (.bool false) := (aD BKg.out 3).trans rfl
 have hyg_3_0 := aC BKg.out 3
 go_wp2_with (first | ((with_reducible refine bJ (f := 43) rfl ?_); refine gate_guard (by first | rfl | kernel_rfl) ?_; refine goesL_ (some 18) rfl rfl Try.func43 (by kernel_rfl) rfl #[.int .i64 a1, .int .i64 0, .int .i64 ((wrap64 ((l0_0.length : Int) - 1)))] rfl (by (try simp only [List.map_toArray, List.map_cons, List.map_nil]); first | done | rfl | (simp only [List.length_drop, List.length_take]; rfl)) ?_; (with_reducible refine (spec_l1In.calls a1 0 ((wrap64 ((l0_0.length : Int) - 1))) true _ JW.out).mono ?_); rintro e_ w1 ⟨rfl, hd⟩; refine ⟨_, rfl, ?_⟩; have hb := hd.below; clear hd; have n0_ := aA.mk (Kd.aZ HF2.out hb); have n1_ := aA.mk (Kd.bL HN0.out hb); have n2_ := aA.mk (Kd.bL HN1.out hb); have n3_ := aA.mk (HKP.out.then_ (Kept.of_below hb (fun _ => False)) (fun _ h_ => h_.elim)); have n4_ := aA.mk (aW BKg.out hb); have n5_ := aA.mk (bD HB.out hb); have n6_ := aA.mk (Nat.le_trans HT.out hb.size); (try clear HF2); (try clear HN0); (try clear HN1); (try clear HKP); (try clear BKg); (try clear HB); (try clear HT); have HF2 := n0_; have HN0 := n1_; have HN1 := n2_; have HKP := n3_; have BKg := n4_; have HB := n5_; have HT := n6_; clear n0_ n1_ n2_ n3_ n4_ n5_ n6_; (try clear hb); have hzg_0_1 : w1.cell? ⟨g, 0, none⟩ = some (.slice A0_0 l0_0.length c0_0) := (aD BKg.out 0).trans rfl; have hyg_0_1 := aC BKg.out 0; have hzg_1_1 : w1.cell? ⟨g, 1, none⟩ = some (.slice A0_1 l0_1.length c0_1) := (aD BKg.out 1).trans rfl; have hyg_1_1 := aC BKg.out 1; have hzg_2_1 : w1.cell? ⟨g, 2, none⟩ = some (.int .i64 a0_2) := (aD BKg.out 2).trans rfl; have hyg_2_1 := aC BKg.out 2; have hzg_3_1 : w1.cell? ⟨g, 3, none⟩ = some (.bool false) := (aD BKg.out 3).trans rfl; have hyg_3_1 := aC BKg.out 3))
 first | go_end0 | refine bodyPost_ret (fn := Try.f57) (results_none rfl _ _ _) rfl ?_
 exact ⟨rfl, by unfold WrPost; exact ⟨_, gC, BKg.out, HGC.out, (by have o_ := HORD.out; have t_ := HT.out; omega), Kd.bA HN0.out (fun k_ hk_ => by have o_ := HORD.out; have t_ := HT.out; (try simp only [In2, Up, In, Ex, Exb] at hk_ ⊢); omega), Kd.bA HN1.out (fun k_ hk_ => by have o_ := HORD.out; have t_ := HT.out; (try simp only [In2, Up, In, Ex, Exb] at hk_ ⊢); omega), HB.out, HKP.out⟩⟩
set_option maxHeartbeats 8000000 in
set_option maxRecDepth 100000 in
theorem walk_l2Write4 (A0_0 : Option Addr) (c0_0 : Nat) (l0_0 : List (List Int)) (A0_1 : Option Addr) (c0_1 : Nat) (l0_1 : List (S50)) (a0_2 : Int) (a1 : Int) (A2 : Option Addr) (c2 : Nat) (l2 : List (Int)) (w wi : World) (g : Nat) (hB : Below w.heap.size w wi) (hbk : wi.heap[g]? = some (.cells #[.slice A0_0 l0_0.length c0_0, .slice A0_1 l0_1.length c0_1, .int .i64 a0_2, .bool false] 25 (0, 0))) (a gS gC : Nat) (hwa : w.heap.size ≤ a ∧ 0 < a) (hag : a ≤ g) (hSt : gS < wi.heap.size ∧ g ≠ gS) (hCt : gC < wi.heap.size ∧ g ≠ gC) (hgC : ∀ k_, (Value.slice A0_1 l0_1.length c0_1).ownBlock = some k_ → k_ = gC) (hgS : ∀ k_, (Value.slice A0_0 l0_0.length c0_0).ownBlock = some k_ → k_ = gS) (hn0 : Kd.N (Kd.slice 5 (Kd.int .u8)) 37 wi w.heap.size (Ex a gC g) (.slice A0_0 l0_0.length c0_0) l0_0) (hn1 : Kd.N k50 50 wi w.heap.size (Ex a gS g) (.slice A0_1 l0_1.length c0_1) l0_1) (hf2 : Kd.F (Kd.int .u8) wi (Ex 0 g g) A2 l2.length l2) (hc2 : l2.length ≤ c2) (hwi : decide (0 ≤ a1 ∧ a1 ≤ wrap64 ((l0_0.length : Int) - 1)) = true) (h80 : ¬ 80 < (l2.length : Int)) (h60 : 60 ≤ (l0_1.length : Int)) :
  Calls Try.prog 57 #[.pointer (some ⟨g, 0, none⟩), .int .i64 a1, .slice A2 l2.length c2] wi fun e w' => e = .returned (.tuple #[]) ∧ WrPost w wi w' a g gS (.slice A0_0 l0_0.length c0_0) l0_0 l0_1 a0_2 false := by
 have hu25 := Try.underlying25
 have hu50 := Try.underlying50
 have HB := aA.mk hB
 have BKg := aA.mk hbk
 have HKP := aA.mk (Kept.refl wi (fun k_ => a ≤ k_))
 obtain ⟨top, et_⟩ : ∃ n_, n_ = wi.heap.size := ⟨_, rfl⟩
 have HORD := aA.mk (show ((w.heap.size ≤ a ∧ 0 < a) ∧ a ≤ g) ∧ g + 1 ≤ top ∧ (gS < top ∧ g ≠ gS) ∧ (gC < top ∧ g ≠ gC) from ⟨⟨hwa, hag⟩, by rw [et_]; exact blk_lt hbk, by rw [et_]; exact hSt, by rw [et_]; exact hCt⟩)
 have HT := aA.mk (Nat.le_of_eq et_)
 have HN0 := aA.mk (Kd.bA (ok' := Exb a gC g top) (Kd.N_bound hn0) (fun k_ hk_ => ⟨hk_.1, by rw [et_]; exact hk_.2⟩))
 have HN1 := aA.mk (Kd.bA (ok' := Exb a gS g top) (Kd.N_bound hn1) (fun k_ hk_ => ⟨hk_.1, by rw [et_]; exact hk_.2⟩))
 have HGC := aA.mk hgC
 have HGS := aA.mk hgS
 have HTE := aA.mk et_
 clear hn0 hn1 hgC hgS et_ hwa hag hSt hCt
 have HF2 := aA.mk (Kd.F_mono (ok' := Exb 0 g g top) (Kd.F_bound hf2) (fun k_ hk_ => ⟨hk_.1, Nat.lt_of_lt_of_le hk_.2 (Nat.le_of_eq HTE.out.symm)⟩))
 have HC2 := aA.mk hc2
 clear hf2 hc2
 have JW := aA.mk (show spec_l1In.f a1 0 (wrap64 ((l0_0.length : Int) - 1)) = some true from by rw [spec_l1In_f, hwi])
 have d1_ : decide (80 < (l2.length : Int)) = false := decide_eq_false h80
 have d2_ : decide (60 ≤ (l0_1.length : Int)) = true := decide_eq_true h60
 clear hB hbk
 go_enter Try.func57, Try.ntmps57
 have hzg_0_0 : wi.cell? ⟨g, 0, none⟩ = some (.slice A0_0 l0_0.length c0_0) := (aD BKg.out 0).trans rfl
 have hyg_0_0 := aC BKg.out 0
 have hzg_1_0 : wi.cell? ⟨g, 1, none⟩ = some (.slice A0_1 l0_1.length c0_1) := (aD BKg.out 1).trans rfl
 have hyg_1_0 := aC BKg.out 1
 have hzg_2_0 : wi.cell? ⟨g, 2, none⟩ = some (.int .i64 a0_2) := (aD BKg.out 2).trans rfl
 have hyg_2_0 := aC BKg.out 2
 have hzg_3_0 : wi.cell? ⟨g, 3, none⟩ = some (.bool false) := (aD BKg.out 3).trans rfl
 have hyg_3_0 := aC BKg.out 3
 go_wp2_with (first | ((with_reducible refine bJ (f := 43) rfl ?_); refine gate_guard (by first | rfl | kernel_rfl) ?_; refine goesL_ (some 18) rfl rfl Try.func43 (by kernel_rfl) rfl #[.int .i64 a1, .int .i64 0, .int .i64 ((wrap64 ((l0_0.length : Int) - 1)))] rfl (by (try simp only [List.map_toArray, List.map_cons, List.map_nil]); first | done | rfl | (simp only [List.length_drop, List.length_take]; rfl)) ?_; (with_reducible refine (spec_l1In.calls a1 0 ((wrap64 ((l0_0.length : Int) - 1))) true _ JW.out).mono ?_); rintro e_ w1 ⟨rfl, hd⟩; refine ⟨_, rfl, ?_⟩; have hb := hd.below; clear hd; have n0_ := aA.mk (Kd.aZ HF2.out hb); have n1_ := aA.mk (Kd.bL HN0.out hb); have n2_ := aA.mk (Kd.bL HN1.out hb); have n3_ := aA.mk (HKP.out.then_ (Kept.of_below hb (fun _ => False)) (fun _ h_ => h_.elim)); have n4_ := aA.mk (aW BKg.out hb); have n5_ := aA.mk (bD HB.out hb); have n6_ := aA.mk (Nat.le_trans HT.out hb.size); (try clear HF2); (try clear HN0); (try clear HN1); (try clear HKP); (try clear BKg); (try clear HB); (try clear HT); have HF2 := n0_; have HN0 := n1_; have HN1 := n2_; have HKP := n3_; have BKg := n4_; have HB := n5_; have HT := n6_; clear n0_ n1_ n2_ n3_ n4_ n5_ n6_; (try clear hb); have hzg_0_1 : w1.cell? ⟨g, 0, none⟩ = some (.slice A0_0 l0_0.length c0_0) := (aD BKg.out 0).trans rfl; have hyg_0_1 := aC BKg.out 0; have hzg_1_1 : w1.cell? ⟨g, 1, none⟩ = some (.slice A0_1 l0_1.length c0_1) := (aD BKg.out 1).trans rfl; have hyg_1_1 := aC BKg.out 1; have hzg_2_1 : w1.cell? ⟨g, 2, none⟩ = some (.int .i64 a0_2) := (aD BKg.out 2).trans rfl; have hyg_2_1 := aC BKg.out 2; have hzg_3_1 : w1.cell? ⟨g, 3, none⟩ = some (.bool false) := (aD BKg.out 3).trans rfl; have hyg_3_1 := aC BKg.out 3))
 first | go_end0 | refine bodyPost_ret (fn := Try.f57) (results_none rfl _ _ _) rfl ?_
 exact ⟨rfl, by unfold WrPost; exact ⟨_, gC, BKg.out, HGC.out, (by have o_ := HORD.out; have t_ := HT.out; omega), Kd.bA HN0.out (fun k_ hk_ => by have o_ := HORD.out; have t_ := HT.out; (try simp only [In2, Up, In, Ex, Exb] at hk_ ⊢); omega), Kd.bA HN1.out (fun k_ hk_ => by have o_ := HORD.out; have t_ := HT.out; (try simp only [In2, Up, In, Ex, Exb] at hk_ ⊢); omega), HB.out, HKP.out⟩⟩
set_option maxHeartbeats 8000000 in
set_option maxRecDepth 100000 in
theorem walk_l2Write5 (A0_0 : Option Addr) (c0_0 : Nat) (l0_0 : List (List Int)) (A0_1 : Option Addr) (c0_1 : Nat) (l0_1 : List (S50)) (a0_2 : Int) (a1 : Int) (A2 : Option Addr) (c2 : Nat) (l2 : List (Int)) (w wi : World) (g : Nat) (hB : Below w.heap.size w wi) (hbk : wi.heap[g]? = some (.cells #[.slice A0_0 l0_0.length c0_0, .slice A0_1 l0_1.length c0_1, .int .i64 a0_2, .bool false] 25 (0, 0))) (a gS gC : Nat) (hwa : w.heap.size ≤ a ∧ 0 < a) (hag : a ≤ g) (hSt : gS < wi.heap.size ∧ g ≠ gS) (hCt : gC < wi.heap.size ∧ g ≠ gC) (hgC : ∀ k_, (Value.slice A0_1 l0_1.length c0_1).ownBlock = some k_ → k_ = gC) (hgS : ∀ k_, (Value.slice A0_0 l0_0.length c0_0).ownBlock = some k_ → k_ = gS) (hn0 : Kd.N (Kd.slice 5 (Kd.int .u8)) 37 wi w.heap.size (Ex a gC g) (.slice A0_0 l0_0.length c0_0) l0_0) (hn1 : Kd.N k50 50 wi w.heap.size (Ex a gS g) (.slice A0_1 l0_1.length c0_1) l0_1) (hf2 : Kd.F (Kd.int .u8) wi (Ex 0 g g) A2 l2.length l2) (hc2 : l2.length ≤ c2) (hwi : decide (0 ≤ a1 ∧ a1 ≤ wrap64 ((l0_0.length : Int) - 1)) = true) (h80 : ¬ 80 < (l2.length : Int)) (h60 : ¬ 60 ≤ (l0_1.length : Int)) (f1 : Int) (b1 : Bool) (hbu : burnF a0_2 false = (f1, b1, false)) :
  Calls Try.prog 57 #[.pointer (some ⟨g, 0, none⟩), .int .i64 a1, .slice A2 l2.length c2] wi fun e w' => e = .returned (.tuple #[]) ∧ WrPost w wi w' a g gS (.slice A0_0 l0_0.length c0_0) l0_0 l0_1 f1 b1 := by
 have hu25 := Try.underlying25
 have hu50 := Try.underlying50
 have HB := aA.mk hB
 have BKg := aA.mk hbk
 have HKP := aA.mk (Kept.refl wi (fun k_ => a ≤ k_))
 obtain ⟨top, et_⟩ : ∃ n_, n_ = wi.heap.size := ⟨_, rfl⟩
 have HORD := aA.mk (show ((w.heap.size ≤ a ∧ 0 < a) ∧ a ≤ g) ∧ g + 1 ≤ top ∧ (gS < top ∧ g ≠ gS) ∧ (gC < top ∧ g ≠ gC) from ⟨⟨hwa, hag⟩, by rw [et_]; exact blk_lt hbk, by rw [et_]; exact hSt, by rw [et_]; exact hCt⟩)
 have HT := aA.mk (Nat.le_of_eq et_)
 have HN0 := aA.mk (Kd.bA (ok' := Exb a gC g top) (Kd.N_bound hn0) (fun k_ hk_ => ⟨hk_.1, by rw [et_]; exact hk_.2⟩))
 have HN1 := aA.mk (Kd.bA (ok' := Exb a gS g top) (Kd.N_bound hn1) (fun k_ hk_ => ⟨hk_.1, by rw [et_]; exact hk_.2⟩))
 have HGC := aA.mk hgC
 have HGS := aA.mk hgS
 have HTE := aA.mk et_
 clear hn0 hn1 hgC hgS et_ hwa hag hSt hCt
 have HF2 := aA.mk (Kd.F_mono (ok' := Exb 0 g g top) (Kd.F_bound hf2) (fun k_ hk_ => ⟨hk_.1, Nat.lt_of_lt_of_le hk_.2 (Nat.le_of_eq HTE.out.symm)⟩))
 have HC2 := aA.mk hc2
 clear hf2 hc2
 have JW := aA.mk (show spec_l1In.f a1 0 (wrap64 ((l0_0.length : Int) - 1)) = some true from by rw [spec_l1In_f, hwi])
 have d1_ : decide (80 < (l2.length : Int)) = false := decide_eq_false h80
 have d2_ : decide (60 ≤ (l0_1.length : Int)) = false := decide_eq_false h60
 have JO := aA.mk hbu
 clear hB hbk
 go_enter Try.func57, Try.ntmps57
 have hzg_0_0 : wi.cell? ⟨g, 0, none⟩ = some (.slice A0_0 l0_0.length c0_0) := (aD BKg.out 0).trans rfl
 have hyg_0_0 := aC BKg.out 0
 have hzg_1_0 : wi.cell? ⟨g, 1, none⟩ = some (.slice A0_1 l0_1.length c0_1) := (aD BKg.out 1).trans rfl
 have hyg_1_0 := aC BKg.out 1
 have hzg_2_0 : wi.cell? ⟨g, 2, none⟩ = some (.int .i64 a0_2) := (aD BKg.out 2).trans rfl
 have hyg_2_0 := aC BKg.out 2
 have hzg_3_0 : wi.cell? ⟨g, 3, none⟩ = some (.bool false) := (aD BKg.out 3).trans rfl
 have hyg_3_0 := aC BKg.out 3
 go_wp2_with (first | ((with_reducible refine bJ (f := 43) rfl ?_); refine gate_guard (by first | rfl | kernel_rfl) ?_; refine goesL_ (some 18) rfl rfl Try.func43 (by kernel_rfl) rfl #[.int .i64 a1, .int .i64 0, .int .i64 ((wrap64 ((l0_0.length : Int) - 1)))] rfl (by (try simp only [List.map_toArray, List.map_cons, List.map_nil]); first | done | rfl | (simp only [List.length_drop, List.length_take]; rfl)) ?_; (with_reducible refine (spec_l1In.calls a1 0 ((wrap64 ((l0_0.length : Int) - 1))) true _ JW.out).mono ?_); rintro e_ w1 ⟨rfl, hd⟩; refine ⟨_, rfl, ?_⟩; have hb := hd.below; clear hd; have n0_ := aA.mk (Kd.aZ HF2.out hb); have n1_ := aA.mk (Kd.bL HN0.out hb); have n2_ := aA.mk (Kd.bL HN1.out hb); have n3_ := aA.mk (HKP.out.then_ (Kept.of_below hb (fun _ => False)) (fun _ h_ => h_.elim)); have n4_ := aA.mk (aW BKg.out hb); have n5_ := aA.mk (bD HB.out hb); have n6_ := aA.mk (Nat.le_trans HT.out hb.size); (try clear HF2); (try clear HN0); (try clear HN1); (try clear HKP); (try clear BKg); (try clear HB); (try clear HT); have HF2 := n0_; have HN0 := n1_; have HN1 := n2_; have HKP := n3_; have BKg := n4_; have HB := n5_; have HT := n6_; clear n0_ n1_ n2_ n3_ n4_ n5_ n6_; (try clear hb); have hzg_0_1 : w1.cell? ⟨g, 0, none⟩ = some (.slice A0_0 l0_0.length c0_0) := (aD BKg.out 0).trans rfl; have hyg_0_1 := aC BKg.out 0; have hzg_1_1 : w1.cell? ⟨g, 1, none⟩ = some (.slice A0_1 l0_1.length c0_1) := (aD BKg.out 1).trans rfl; have hyg_1_1 := aC BKg.out 1; have hzg_2_1 : w1.cell? ⟨g, 2, none⟩ = some (.int .i64 a0_2) := (aD BKg.out 2).trans rfl; have hyg_2_1 := aC BKg.out 2; have hzg_3_1 : w1.cell? ⟨g, 3, none⟩ = some (.bool false) := (aD BKg.out 3).trans rfl; have hyg_3_1 := aC BKg.out 3) | ((with_reducible refine bJ (f := 72) rfl ?_); refine gate_guard (by first | rfl | kernel_rfl) ?_; refine goesL_ (some 36) rfl rfl Try.func72 (by kernel_rfl) rfl #[.pointer (some ⟨g, 0, none⟩)] rfl (by (try simp only [List.map_toArray, List.map_cons, List.map_nil]); first | done | rfl | (simp only [List.length_drop, List.length_take]; rfl)) ?_; (with_reducible refine (spec_l2OpS.calls (.slice A0_0 l0_0.length c0_0) (.slice A0_1 l0_1.length c0_1) _ _ f1 b1 false w _ g ?s1 ?s2 ?s3 JO.out).mono ?_); (case s1 => exact HB.out); (case s2 => exact BKg.out); (case s3 => exact (by have o_ := HORD.out; omega)); rintro e_ w2 ⟨rfl, hbk_, hbn_, hkp⟩; refine ⟨_, rfl, ?_⟩; have n0_ := aA.mk (Kd.bF HF2.out hkp (fun k_ h1_ h2_ => by have o_ := HORD.out; have t_ := HT.out; (try simp only [In2, Up, In, Ex, Exb] at h1_ h2_); omega)); have n1_ := aA.mk (Kd.N_kept HN0.out hkp (fun k_ h1_ h2_ => by have o_ := HORD.out; have t_ := HT.out; (try simp only [In2, Up, In, Ex, Exb] at h1_ h2_); omega)); have n2_ := aA.mk (Kd.N_kept HN1.out hkp (fun k_ h1_ h2_ => by have o_ := HORD.out; have t_ := HT.out; (try simp only [In2, Up, In, Ex, Exb] at h1_ h2_); omega)); have n3_ := aA.mk (HKP.out.then_ hkp (fun k_ h_ => by have o_ := HORD.out; have t_ := HT.out; (try simp only [In2, Up, In, Ex, Exb] at h_ ⊢); omega)); have n4_ := aA.mk (hbn_); have n5_ := aA.mk (hbk_); have n6_ := aA.mk (Nat.le_trans HT.out hkp.1); (try clear HF2); (try clear HN0); (try clear HN1); (try clear HKP); (try clear HB); (try clear BKg); (try clear HT); have HF2 := n0_; have HN0 := n1_; have HN1 := n2_; have HKP := n3_; have HB := n4_; have BKg := n5_; have HT := n6_; clear n0_ n1_ n2_ n3_ n4_ n5_ n6_; clear hbk_ hbn_ hkp; have hzg_0_2 : w2.cell? ⟨g, 0, none⟩ = some (.slice A0_0 l0_0.length c0_0) := (aD BKg.out 0).trans rfl; have hyg_0_2 := aC BKg.out 0; have hzg_1_2 : w2.cell? ⟨g, 1, none⟩ = some (.slice A0_1 l0_1.length c0_1) := (aD BKg.out 1).trans rfl; have hyg_1_2 := aC BKg.out 1; have hzg_2_2 : w2.cell? ⟨g, 2, none⟩ = some (.int .i64 f1) := (aD BKg.out 2).trans rfl; have hyg_2_2 := aC BKg.out 2; have hzg_3_2 : w2.cell? ⟨g, 3, none⟩ = some (.bool b1) := (aD BKg.out 3).trans rfl; have hyg_3_2 := aC BKg.out 3))
 first | go_end0 | refine bodyPost_ret (fn := Try.f57) (results_none rfl _ _ _) rfl ?_
 exact ⟨rfl, by unfold WrPost; exact ⟨_, gC, BKg.out, HGC.out, (by have o_ := HORD.out; have t_ := HT.out; omega), Kd.bA HN0.out (fun k_ hk_ => by have o_ := HORD.out; have t_ := HT.out; (try simp only [In2, Up, In, Ex, Exb] at hk_ ⊢); omega), Kd.bA HN1.out (fun k_ hk_ => by have o_ := HORD.out; have t_ := HT.out; (try simp only [In2, Up, In, Ex, Exb] at hk_ ⊢); omega), HB.out, HKP.out⟩⟩
set_option maxHeartbeats 8000000 in
set_option maxRecDepth 100000 in
theorem walk_l2Write6 (A0_0 : Option Addr) (c0_0 : Nat) (l0_0 : List (List Int)) (A0_1 : Option Addr) (c0_1 : Nat) (l0_1 : List (S50)) (a0_2 : Int) (a1 : Int) (A2 : Option Addr) (c2 : Nat) (l2 : List (Int)) (w wi : World) (g : Nat) (hB : Below w.heap.size w wi) (hbk : wi.heap[g]? = some (.cells #[.slice A0_0 l0_0.length c0_0, .slice A0_1 l0_1.length c0_1, .int .i64 a0_2, .bool false] 25 (0, 0))) (a gS gC : Nat) (hwa : w.heap.size ≤ a ∧ 0 < a) (hag : a ≤ g) (hSt : gS < wi.heap.size ∧ g ≠ gS) (hCt : gC < wi.heap.size ∧ g ≠ gC) (hgC : ∀ k_, (Value.slice A0_1 l0_1.length c0_1).ownBlock = some k_ → k_ = gC) (hgS : ∀ k_, (Value.slice A0_0 l0_0.length c0_0).ownBlock = some k_ → k_ = gS) (hn0 : Kd.N (Kd.slice 5 (Kd.int .u8)) 37 wi w.heap.size (Ex a gC g) (.slice A0_0 l0_0.length c0_0) l0_0) (hn1 : Kd.N k50 50 wi w.heap.size (Ex a gS g) (.slice A0_1 l0_1.length c0_1) l0_1) (hf2 : Kd.F (Kd.int .u8) wi (Ex 0 g g) A2 l2.length l2) (hc2 : l2.length ≤ c2) (hwi : decide (0 ≤ a1 ∧ a1 ≤ wrap64 ((l0_0.length : Int) - 1)) = true) (h80 : ¬ 80 < (l2.length : Int)) (h60 : ¬ 60 ≤ (l0_1.length : Int)) (f1 : Int) (b1 : Bool) (hbu : burnF a0_2 false = (f1, b1, true)) :
  Calls Try.prog 57 #[.pointer (some ⟨g, 0, none⟩), .int .i64 a1, .slice A2 l2.length c2] wi fun e w' => e = .returned (.tuple #[]) ∧ WrPost w wi w' a g gS (.slice A0_0 l0_0.length c0_0) l0_0 (l0_1 ++ [(⟨a1, l2⟩ : S50)]) f1 b1 := by
 have hu25 := Try.underlying25
 have hu50 := Try.underlying50
 have HB := aA.mk hB
 have BKg := aA.mk hbk
 have HKP := aA.mk (Kept.refl wi (fun k_ => a ≤ k_))
 obtain ⟨top, et_⟩ : ∃ n_, n_ = wi.heap.size := ⟨_, rfl⟩
 have HORD := aA.mk (show ((w.heap.size ≤ a ∧ 0 < a) ∧ a ≤ g) ∧ g + 1 ≤ top ∧ (gS < top ∧ g ≠ gS) ∧ (gC < top ∧ g ≠ gC) from ⟨⟨hwa, hag⟩, by rw [et_]; exact blk_lt hbk, by rw [et_]; exact hSt, by rw [et_]; exact hCt⟩)
 have HT := aA.mk (Nat.le_of_eq et_)
 have HN0 := aA.mk (Kd.bA (ok' := Exb a gC g top) (Kd.N_bound hn0) (fun k_ hk_ => ⟨hk_.1, by rw [et_]; exact hk_.2⟩))
 have HN1 := aA.mk (Kd.bA (ok' := Exb a gS g top) (Kd.N_bound hn1) (fun k_ hk_ => ⟨hk_.1, by rw [et_]; exact hk_.2⟩))
 have HGC := aA.mk hgC
 have HGS := aA.mk hgS
 have HTE := aA.mk et_
 clear hn0 hn1 hgC hgS et_ hwa hag hSt hCt
 have HF2 := aA.mk (Kd.F_mono (ok' := Exb 0 g g top) (Kd.F_bound hf2) (fun k_ hk_ => ⟨hk_.1, Nat.lt_of_lt_of_le hk_.2 (Nat.le_of_eq HTE.out.symm)⟩))
 have HC2 := aA.mk hc2
 clear hf2 hc2
 have JW := aA.mk (show spec_l1In.f a1 0 (wrap64 ((l0_0.length : Int) - 1)) = some true from by rw [spec_l1In_f, hwi])
 have d1_ : decide (80 < (l2.length : Int)) = false := decide_eq_false h80
 have d2_ : decide (60 ≤ (l0_1.length : Int)) = false := decide_eq_false h60
 have JO := aA.mk hbu
 clear hB hbk
 go_enter Try.func57, Try.ntmps57
 have hzg_0_0 : wi.cell? ⟨g, 0, none⟩ = some (.slice A0_0 l0_0.length c0_0) := (aD BKg.out 0).trans rfl
 have hyg_0_0 := aC BKg.out 0
 have hzg_1_0 : wi.cell? ⟨g, 1, none⟩ = some (.slice A0_1 l0_1.length c0_1) := (aD BKg.out 1).trans rfl
 have hyg_1_0 := aC BKg.out 1
 have hzg_2_0 : wi.cell? ⟨g, 2, none⟩ = some (.int .i64 a0_2) := (aD BKg.out 2).trans rfl
 have hyg_2_0 := aC BKg.out 2
 have hzg_3_0 : wi.cell? ⟨g, 3, none⟩ = some (.bool false) := (aD BKg.out 3).trans rfl
 have hyg_3_0 := aC BKg.out 3
 go_wp2_with (first | ((with_reducible refine bJ (f := 43) rfl ?_); refine gate_guard (by first | rfl | kernel_rfl) ?_; refine goesL_ (some 18) rfl rfl Try.func43 (by kernel_rfl) rfl #[.int .i64 a1, .int .i64 0, .int .i64 ((wrap64 ((l0_0.length : Int) - 1)))] rfl (by (try simp only [List.map_toArray, List.map_cons, List.map_nil]); first | done | rfl | (simp only [List.length_drop, List.length_take]; rfl)) ?_; (with_reducible refine (spec_l1In.calls a1 0 ((wrap64 ((l0_0.length : Int) - 1))) true _ JW.out).mono ?_); rintro e_ w1 ⟨rfl, hd⟩; refine ⟨_, rfl, ?_⟩; have hb := hd.below; clear hd; have n0_ := aA.mk (Kd.aZ HF2.out hb); have n1_ := aA.mk (Kd.bL HN0.out hb); have n2_ := aA.mk (Kd.bL HN1.out hb); have n3_ := aA.mk (HKP.out.then_ (Kept.of_below hb (fun _ => False)) (fun _ h_ => h_.elim)); have n4_ := aA.mk (aW BKg.out hb); have n5_ := aA.mk (bD HB.out hb); have n6_ := aA.mk (Nat.le_trans HT.out hb.size); (try clear HF2); (try clear HN0); (try clear HN1); (try clear HKP); (try clear BKg); (try clear HB); (try clear HT); have HF2 := n0_; have HN0 := n1_; have HN1 := n2_; have HKP := n3_; have BKg := n4_; have HB := n5_; have HT := n6_; clear n0_ n1_ n2_ n3_ n4_ n5_ n6_; (try clear hb); have hzg_0_1 : w1.cell? ⟨g, 0, none⟩ = some (.slice A0_0 l0_0.length c0_0) := (aD BKg.out 0).trans rfl; have hyg_0_1 := aC BKg.out 0; have hzg_1_1 : w1.cell? ⟨g, 1, none⟩ = some (.slice A0_1 l0_1.length c0_1) := (aD BKg.out 1).trans rfl; have hyg_1_1 := aC BKg.out 1; have hzg_2_1 : w1.cell? ⟨g, 2, none⟩ = some (.int .i64 a0_2) := (aD BKg.out 2).trans rfl; have hyg_2_1 := aC BKg.out 2; have hzg_3_1 : w1.cell? ⟨g, 3, none⟩ = some (.bool false) := (aD BKg.out 3).trans rfl; have hyg_3_1 := aC BKg.out 3) | ((with_reducible refine bJ (f := 72) rfl ?_); refine gate_guard (by first | rfl | kernel_rfl) ?_; refine goesL_ (some 36) rfl rfl Try.func72 (by kernel_rfl) rfl #[.pointer (some ⟨g, 0, none⟩)] rfl (by (try simp only [List.map_toArray, List.map_cons, List.map_nil]); first | done | rfl | (simp only [List.length_drop, List.length_take]; rfl)) ?_; (with_reducible refine (spec_l2OpS.calls (.slice A0_0 l0_0.length c0_0) (.slice A0_1 l0_1.length c0_1) _ _ f1 b1 true w _ g ?s1 ?s2 ?s3 JO.out).mono ?_); (case s1 => exact HB.out); (case s2 => exact BKg.out); (case s3 => exact (by have o_ := HORD.out; omega)); rintro e_ w2 ⟨rfl, hbk_, hbn_, hkp⟩; refine ⟨_, rfl, ?_⟩; have n0_ := aA.mk (Kd.bF HF2.out hkp (fun k_ h1_ h2_ => by have o_ := HORD.out; have t_ := HT.out; (try simp only [In2, Up, In, Ex, Exb] at h1_ h2_); omega)); have n1_ := aA.mk (Kd.N_kept HN0.out hkp (fun k_ h1_ h2_ => by have o_ := HORD.out; have t_ := HT.out; (try simp only [In2, Up, In, Ex, Exb] at h1_ h2_); omega)); have n2_ := aA.mk (Kd.N_kept HN1.out hkp (fun k_ h1_ h2_ => by have o_ := HORD.out; have t_ := HT.out; (try simp only [In2, Up, In, Ex, Exb] at h1_ h2_); omega)); have n3_ := aA.mk (HKP.out.then_ hkp (fun k_ h_ => by have o_ := HORD.out; have t_ := HT.out; (try simp only [In2, Up, In, Ex, Exb] at h_ ⊢); omega)); have n4_ := aA.mk (hbn_); have n5_ := aA.mk (hbk_); have n6_ := aA.mk (Nat.le_trans HT.out hkp.1); (try clear HF2); (try clear HN0); (try clear HN1); (try clear HKP); (try clear HB); (try clear BKg); (try clear HT); have HF2 := n0_; have HN0 := n1_; have HN1 := n2_; have HKP := n3_; have HB := n4_; have BKg := n5_; have HT := n6_; clear n0_ n1_ n2_ n3_ n4_ n5_ n6_; clear hbk_ hbn_ hkp; have hzg_0_2 : w2.cell? ⟨g, 0, none⟩ = some (.slice A0_0 l0_0.length c0_0) := (aD BKg.out 0).trans rfl; have hyg_0_2 := aC BKg.out 0; have hzg_1_2 : w2.cell? ⟨g, 1, none⟩ = some (.slice A0_1 l0_1.length c0_1) := (aD BKg.out 1).trans rfl; have hyg_1_2 := aC BKg.out 1; have hzg_2_2 : w2.cell? ⟨g, 2, none⟩ = some (.int .i64 f1) := (aD BKg.out 2).trans rfl; have hyg_2_2 := aC BKg.out 2; have hzg_3_2 : w2.cell? ⟨g, 3, none⟩ = some (.bool b1) := (aD BKg.out 3).trans rfl; have hyg_3_2 := aC BKg.out 3))
 have n_ := aA.mk (Kd.F_drew HF2.out)
 clear HF2
 have HF2 := n_
 clear n_
 have n_ := aA.mk (Kd.aV HN0.out)
 clear HN0
 have HN0 := n_
 clear n_
 have n_ := aA.mk (Kd.aV HN1.out)
 clear HN1
 have HN1 := n_
 clear n_
 have n_ := aA.mk (aN BKg.out)
 clear BKg
 have BKg := n_
 clear n_
 have n_ := aA.mk (aJ HB.out)
 clear HB
 have HB := n_
 clear n_
 have n_ := aA.mk (show _ ≤ w2.drew.heap.size from HT.out)
 clear HT
 have HT := n_
 clear n_
 have n_ := aA.mk (show Kept wi w2.drew (fun k_ => a ≤ k_) from HKP.out)
 clear HKP
 have HKP := n_
 clear n_
 refine start_ (n := 15) (S := fun w' => w'.cell? ⟨g, 0, none⟩ = some (.slice A0_0 l0_0.length c0_0) ∧ w'.cell? ⟨g, 1, none⟩ = some (.slice A0_1 l0_1.length c0_1) ∧ w'.cell? ⟨g, 2, none⟩ = some (.int .i64 f1) ∧ w'.cell? ⟨g, 3, none⟩ = some (.bool b1)) (ds := [14]) #[false, false, false, false, false, false, false, false, false, false, false, false, false, false, false] (by kernel_rfl) rfl rfl ⟨(aD BKg.out 0).trans rfl, (aD BKg.out 1).trans rfl, (aD BKg.out 2).trans rfl, (aD BKg.out 3).trans rfl⟩ (fun hHeld => ?_)
 generalize w2.drew = w3 at HF2 HN0 HN1 BKg HB HT HKP hHeld ⊢
 refine bB (i := 0) (N := some 39) (v := ?_) (a' := ?_) #[true, false, false, false, false, false, false, false, false, false, false, false, false, false, false] rfl rfl (by kernel_rfl) (fun _ _ _ h => h) (Or.inl ⟨by rfl, ?_⟩) ?_ ?_
 rotate_left
 ·intro w'
  go_simp
  with_reducible rfl
 rotate_left
 ·simp only [Act.put, lA, lB, lC, aU, aT]
  rfl
 refine bB (i := 1) (N := some 40) (v := ?_) (a' := ?_) #[true, true, false, false, false, false, false, false, false, false, false, false, false, false, false] rfl rfl (by kernel_rfl) (fun _ _ _ h => h) (Or.inl ⟨by rfl, ?_⟩) ?_ ?_
 rotate_left
 ·intro w'
  go_simp
  with_reducible rfl
 rotate_left
 ·simp only [Act.put, lA, lB, lC, aU, aT]
  rfl
 refine bB (i := 2) (N := some 41) (v := ?_) (a' := ?_) #[true, true, true, false, false, false, false, false, false, false, false, false, false, false, false] rfl rfl (by kernel_rfl) (fun _ _ _ h => h) (Or.inl ⟨by rfl, ?_⟩) ?_ ?_
 rotate_left
 ·intro w'
  go_simp
  with_reducible rfl
 rotate_left
 ·simp only [Act.put, lA, lB, lC, aU, aT]
  rfl
 refine bB (i := 3) (N := some 42) (v := ?_) (a' := ?_) #[true, true, true, true, false, false, false, false, false, false, false, false, false, false, false] rfl rfl (by kernel_rfl) (fun _ _ _ h => h) (Or.inl ⟨by rfl, ?_⟩) ?_ ?_
 rotate_left
 ·intro w'
  go_simp
  with_reducible rfl
 rotate_left
 ·simp only [Act.put, lA, lB, lC, aU, aT]
  rfl
 refine take_ (i := 4) (N := some 43) (v := ?_) (a' := ?_) #[true, true, true, true, true, false, false, false, false, false, false, false, false, false, false] rfl rfl (by kernel_rfl) (fun _ _ _ h => h) (Or.inl ⟨by rfl, ?_⟩) hHeld ?_ ?_
 rotate_left
 ·rintro w' ⟨s0, s1, s2, s3⟩
  go_simp
  with_reducible rfl
 rotate_left
 ·simp only [Act.put, lA, lB, lC, aU, aT]
  rfl
 refine bB (i := 5) (N := some 44) (v := ?_) (a' := ?_) #[true, true, true, true, true, true, false, false, false, false, false, false, false, false, false] rfl rfl (by kernel_rfl) (fun _ _ _ h => h) (Or.inl ⟨by rfl, ?_⟩) ?_ ?_
 rotate_left
 ·intro w'
  go_simp
  with_reducible rfl
 rotate_left
 ·simp only [Act.put, lA, lB, lC, aU, aT]
  rfl
 refine bB (i := 7) (N := some 46) (v := ?_) (a' := ?_) #[true, true, true, true, true, true, false, true, false, false, false, false, false, false, false] rfl rfl (by kernel_rfl) (fun _ _ _ h => h) (Or.inl ⟨by rfl, ?_⟩) ?_ ?_
 rotate_left
 ·intro w'
  go_simp
  with_reducible rfl
 rotate_left
 ·simp only [Act.put, lA, lB, lC, aU, aT]
  rfl
 refine one_ (i := 6) (N := some 45) #[true, true, true, true, true, true, true, true, false, false, false, false, false, false, false] rfl rfl (by kernel_rfl) (by decide) (fun K hK => ?_)
 refine Kd.R_lit_step (Kd.int .u8) _ 5 ?hg (N := 45) ?hd (xs := ([] : List (Int))) (inner := []) (ok := fun _ => True) (okp := fun _ => True) ?hr ?hp (fun _ hk => hk) trivial (Below.refl _ _) (Nat.le_refl _) (by simp) ?_
 (case hd => rfl)
 (case hg => rfl)
 (case hr => first | (go_simp; done) | (go_simp; rfl))
 (case hp => exact (Reps.none _ _))
 intro v4 w4 ho_ hb hg_ hat_
 clear hg_ hat_
 obtain ⟨ys4, ey_⟩ : ∃ y_ : List (Int), y_ = [] := ⟨_, rfl⟩
 rw [← ey_] at ho_
 have HY4 := aA.mk ey_
 clear ey_
 obtain ⟨lo4, hi4, el_, eh_, ol_, oh_⟩ := Mem.times HT.out hb
 rw [← el_] at ho_
 obtain ⟨A4, c4, ev_, hc_, hf_, hs_⟩ := Mem.new_R ho_ eh_
 subst ev_
 have n0_ := aA.mk (Kd.aZ HF2.out hb)
 have n1_ := aA.mk (Kd.bL HN0.out hb)
 have n2_ := aA.mk (Kd.bL HN1.out hb)
 have n3_ := aA.mk (HKP.out.then_ (Kept.of_below hb (fun _ => False)) (fun _ h_ => h_.elim))
 have n4_ := aA.mk (aW BKg.out hb)
 have n5_ := aA.mk (bD HB.out hb)
 have n6_ := aA.mk (And.intro HORD.out (And.intro ol_ oh_))
 have n7_ := aA.mk (Nat.le_of_eq eh_)
 have n8_ := aA.mk (hf_)
 have n9_ := aA.mk (hc_)
 have n10_ := aA.mk (hs_)
 (try clear HF2)
 (try clear HN0)
 (try clear HN1)
 (try clear HKP)
 (try clear BKg)
 (try clear HB)
 (try clear HORD)
 (try clear HT)
 (try clear HF4)
 (try clear HC4)
 (try clear HS4)
 have HF2 := n0_
 have HN0 := n1_
 have HN1 := n2_
 have HKP := n3_
 have BKg := n4_
 have HB := n5_
 have HORD := n6_
 have HT := n7_
 have HF4 := n8_
 have HC4 := n9_
 have HS4 := n10_
 clear n0_ n1_ n2_ n3_ n4_ n5_ n6_ n7_ n8_ n9_ n10_
 clear hb ho_ hc_ hf_ hs_ ol_ oh_ el_ eh_
 refine hK.out _ _ ⟨(aD BKg.out 0).trans rfl, (aD BKg.out 1).trans rfl, (aD BKg.out 2).trans rfl, (aD BKg.out 3).trans rfl⟩ (fun hHeld => ?_)
 clear hK K
 refine norm_ (a' := ?_) ?_ ?_
 rotate_left
 ·show Act.put _ (some 45) _ = _
  simp only [Act.put, lA, lB, lC, aU, aT]
  rfl
 refine one_ (i := 8) (N := some 47) #[true, true, true, true, true, true, true, true, true, false, false, false, false, false, false] rfl rfl (by kernel_rfl) (by decide) (fun K hK => ?_)
 refine Kd.R_append_rows_step (Kd.int .u8) (w0 := w) w.heap.size (by rfl) (.tmp 45) (.tmp 46) 37 5 (.int .u8 0) 1 rfl Try.underlying37 info5 rfl (by decide) (by omega) (.slice A4 ys4.length c4) ys4 l2 _ _ _ (fun k_ => lo4 ≤ k_) (fun _ => False) rfl rfl ?aO ?aR (fun _ _ h => h) (fun _ h => h.elim) ?aF ?aB ?aS ?aL ?_
 (case aR => exact (Kd.F_now HF2.out))
 (case aB => exact HB.out)
 (case aS => exact bH HB.out)
 (case aF => exact (fun k_ hk_ => by have o_ := HORD.out; have t_ := HT.out; omega))
 (case aO => exact Kd.R_mono (Kd.R_lower HS4.out (by have o_ := HORD.out; omega)) (fun k_ hk_ => hk_.1))
 (case aL => (have h1_ := congrArg List.length HY4.out; simp only [List.length_nil] at h1_; have h2_ := (show l2.length ≤ 80 by omega); omega))
 intro v5 w5 ho_ hbn_ hg_ hat_
 obtain ⟨ys5, ey_⟩ : ∃ y_, y_ = ys4 ++ l2 := ⟨_, rfl⟩
 rw [← ey_] at ho_
 have HY5 := aA.mk (show ys5 = l2 by rw [ey_, HY4.out, List.nil_append])
 clear ey_
 have hkp := kept_grown (S := (In lo4 hi4)) hg_ (fun k_ he_ => (HS4.out).1 k_ he_)
 obtain ⟨A5, c5, ev_⟩ := Kd.R_slice ho_
 subst ev_
 obtain ⟨hi5, e2_⟩ : ∃ n_, n_ = w5.heap.size := ⟨_, rfl⟩
 have ol_ : hi4 ≤ hi5 := (by rw [e2_]; exact Nat.le_trans HT.out hkp.1)
 have hs_ := Kd.R_mono (ok' := In lo4 hi5) (Kd.R_bound ho_) (fun k_ hk_ => ⟨hk_.1, by rw [e2_]; exact hk_.2.2.1⟩)
 have n0_ := aA.mk (Kd.bF HF2.out hkp (fun k_ h1_ h2_ => by have o_ := HORD.out; have t_ := HT.out; (try simp only [In2, Up, In, Ex, Exb] at h1_ h2_); omega))
 have n1_ := aA.mk (Kd.N_kept HN0.out hkp (fun k_ h1_ h2_ => by have o_ := HORD.out; have t_ := HT.out; (try simp only [In2, Up, In, Ex, Exb] at h1_ h2_); omega))
 have n2_ := aA.mk (Kd.N_kept HN1.out hkp (fun k_ h1_ h2_ => by have o_ := HORD.out; have t_ := HT.out; (try simp only [In2, Up, In, Ex, Exb] at h1_ h2_); omega))
 have n3_ := aA.mk (HKP.out.then_ hkp (fun k_ h_ => by have o_ := HORD.out; have t_ := HT.out; (try simp only [In2, Up, In, Ex, Exb] at h_ ⊢); omega))
 have n4_ := aA.mk (bG BKg.out hkp (fun h2_ => by have o_ := HORD.out; have t_ := HT.out; (try simp only [In2, Up, In, Ex, Exb] at h2_); omega))
 have n5_ := aA.mk (hbn_)
 have n6_ := aA.mk (And.intro HORD.out ol_)
 have n7_ := aA.mk (Nat.le_of_eq e2_)
 have n8_ := aA.mk (hs_)
 have n9_ := aA.mk (Kd.R_F hs_)
 have n10_ := aA.mk ((Kd.R_reads' hs_).2.1)
 (try clear HF2)
 (try clear HN0)
 (try clear HN1)
 (try clear HKP)
 (try clear BKg)
 (try clear HB)
 (try clear HORD)
 (try clear HT)
 (try clear HS5)
 (try clear HF5)
 (try clear HC5)
 have HF2 := n0_
 have HN0 := n1_
 have HN1 := n2_
 have HKP := n3_
 have BKg := n4_
 have HB := n5_
 have HORD := n6_
 have HT := n7_
 have HS5 := n8_
 have HF5 := n9_
 have HC5 := n10_
 clear n0_ n1_ n2_ n3_ n4_ n5_ n6_ n7_ n8_ n9_ n10_
 clear hs_ ho_ hbn_ hg_ hat_ hkp ol_ e2_
 refine hK.out _ _ ⟨(aD BKg.out 0).trans rfl, (aD BKg.out 1).trans rfl, (aD BKg.out 2).trans rfl, (aD BKg.out 3).trans rfl⟩ (fun hHeld => ?_)
 clear hK K
 refine norm_ (a' := ?_) ?_ ?_
 rotate_left
 ·show Act.put _ (some 47) _ = _
  simp only [Act.put, lA, lB, lC, aU, aT]
  rfl
 refine bB (i := 9) (N := some 48) (v := ?_) (a' := ?_) #[true, true, true, true, true, true, true, true, true, true, false, false, false, false, false] rfl rfl (by kernel_rfl) (fun _ _ _ h => h) (Or.inl ⟨by rfl, ?_⟩) ?_ ?_
 rotate_left
 ·intro w'
  go_simp
  with_reducible rfl
 rotate_left
 ·simp only [Act.put, lA, lB, lC, aU, aT]
  rfl
 refine one_ (i := 10) (N := some 49) #[true, true, true, true, true, true, true, true, true, true, true, false, false, false, false] rfl rfl (by kernel_rfl) (by decide) (fun K hK => ?_)
 refine value_ (w1 := ?_) (v := ?_) (by rfl) rfl ?_ ?_
 rotate_left 2
 ·go_simp
  constructor
  ·rfl
  ·rfl
 refine hK.out _ _ ⟨(aD (aH BKg.out _) 0).trans rfl, (aD (aH BKg.out _) 1).trans rfl, (aD (aH BKg.out _) 2).trans rfl, (aD (aH BKg.out _) 3).trans rfl⟩ (fun hHeld => ?_)
 clear hK K
 refine norm_ (a' := ?_) ?_ ?_
 rotate_left
 ·show Act.put _ (some 49) _ = _
  simp only [Act.put, lA, lB, lC, aU, aT]
  rfl
 refine one_ (i := 11) (N := some 50) #[true, true, true, true, true, true, true, true, true, true, true, true, false, false, false] rfl rfl (by kernel_rfl) (by decide) (fun K hK => ?_)
 refine Kd.N_append_step k50 (w0 := w) w.heap.size (by rfl) (.tmp 43) (.tmp 49) 23 50 (.agg #[.int .i64 0, .slice none 0 0]) 32 rfl Try.underlying23 info50 rfl (by decide) (by omega) (.slice A0_1 l0_1.length c0_1) l0_1 ((⟨a1, ys5⟩ : S50)) [.int .i64 a1, .slice A5 ys5.length c5] (Ex a gS g) (fun k_ => (Ex a gS g) k_ ∧ some k_ ≠ (.slice A0_1 l0_1.length c0_1 : Value).ownBlock) rfl rfl ?aP (fun _ hk => hk) ?aF ?aO ?aB ?aS ?aL ?_
 (case aP => exact k50_mkF _ _ _ HC5.out (Kd.F_mono HF5.out (fun k_ hk_ => ⟨(by have o_ := HORD.out; have t_ := HT.out; (try simp only [In2, Up, In, Ex, Exb] at hk_ ⊢); omega), (fun he_ => by have hz_ := HGC.out k_ he_.symm; have o_ := HORD.out; have t_ := HT.out; (try simp only [In2, Up, In, Ex, Exb] at hk_); omega)⟩)))
 (case aF => exact (fun k_ hk_ => by have o_ := HORD.out; have t_ := HT.out; (try simp only [In2, Up, In, Ex, Exb] at hk_ ⊢); omega))
 (case aO => exact Kd.bA HN1.out (fun k_ hk_ => by (try simp only [In2, Up, In, Ex, Exb] at hk_ ⊢); omega))
 (case aB => exact HB.out)
 (case aS => exact bH HB.out)
 (case aL => omega)
 intro v6 w6 ho_ hbn_ hg_ hat_
 obtain ⟨ys6, ey_⟩ : ∃ y_, y_ = l0_1 ++ [(⟨a1, ys5⟩ : S50)] := ⟨_, rfl⟩
 rw [← ey_] at ho_
 have HY6 := aA.mk ey_
 clear ey_
 have hkp := kept_grown (S := fun k_ => k_ = gC ∧ a ≤ k_) hg_ (fun k_ he_ => ⟨HGC.out k_ he_, ((HN1.out).1 k_ he_).1.1⟩)
 obtain ⟨gn6, hgn_, hgo_⟩ : ∃ x_, (∀ k_, v6.ownBlock = some k_ → k_ = x_) ∧ (x_ = gC ∨ (hi5 ≤ x_ ∧ x_ < w6.heap.size)) := by
  rcases hat_ with hat_ | ⟨b_, hb_, hle_⟩
  ·exact ⟨gC, fun k_ hk_ => HGC.out k_ (hat_ ▸ hk_), .inl rfl⟩
  ·exact ⟨b_, fun k_ hk_ => by rw [hb_] at hk_; injection hk_ with hk_; exact hk_.symm, .inr ⟨Nat.le_trans HT.out hle_, Kd.N_lt ho_ b_ hb_⟩⟩
 obtain ⟨A6, c6, ev_⟩ := Kd.N_slice ho_
 subst ev_
 obtain ⟨hi6, e2_⟩ : ∃ n_, n_ = w6.heap.size := ⟨_, rfl⟩
 have ol_ : hi5 ≤ hi6 := (by rw [e2_]; exact Nat.le_trans HT.out hkp.1)
 rw [← e2_] at hgo_
 have hs_ := Kd.bA (ok' := Exb a gS g hi6) (Kd.N_bound ho_) (fun k_ hk_ => ⟨hk_.1, by rw [e2_]; exact hk_.2⟩)
 have n0_ := aA.mk (Kd.N_kept HN0.out hkp (fun k_ h1_ h2_ => by have o_ := HORD.out; have t_ := HT.out; (try simp only [In2, Up, In, Ex, Exb] at h1_ h2_); omega))
 have n1_ := aA.mk (HKP.out.then_ hkp (fun k_ h_ => by have o_ := HORD.out; have t_ := HT.out; (try simp only [In2, Up, In, Ex, Exb] at h_ ⊢); omega))
 have n2_ := aA.mk (bG BKg.out hkp (fun h2_ => by have o_ := HORD.out; have t_ := HT.out; (try simp only [In2, Up, In, Ex, Exb] at h2_); omega))
 have n3_ := aA.mk (hbn_)
 have n4_ := aA.mk (And.intro HORD.out (And.intro ol_ hgo_))
 have n5_ := aA.mk (Nat.le_of_eq e2_)
 have n6_ := aA.mk (hs_)
 have n7_ := aA.mk ((Kd.N_reads' ho_).2.1)
 have n8_ := aA.mk (hgn_)
 (try clear HN0)
 (try clear HKP)
 (try clear BKg)
 (try clear HB)
 (try clear HORD)
 (try clear HT)
 (try clear HS6)
 (try clear HC6)
 (try clear HG6)
 have HN0 := n0_
 have HKP := n1_
 have BKg := n2_
 have HB := n3_
 have HORD := n4_
 have HT := n5_
 have HS6 := n6_
 have HC6 := n7_
 have HG6 := n8_
 clear n0_ n1_ n2_ n3_ n4_ n5_ n6_ n7_ n8_
 clear hs_ ho_ hbn_ hg_ hat_ hkp ol_ e2_ hgn_ hgo_
 refine hK.out _ _ ⟨(aD BKg.out 0).trans rfl, (aD BKg.out 1).trans rfl, (aD BKg.out 2).trans rfl, (aD BKg.out 3).trans rfl⟩ (fun hHeld => ?_)
 clear hK K
 refine norm_ (a' := ?_) ?_ ?_
 rotate_left
 ·show Act.put _ (some 50) _ = _
  simp only [Act.put, lA, lB, lC, aU, aT]
  rfl
 refine bB (i := 12) (N := some 51) (v := ?_) (a' := ?_) #[true, true, true, true, true, true, true, true, true, true, true, true, true, false, false] rfl rfl (by kernel_rfl) (fun _ _ _ h => h) (Or.inl ⟨by rfl, ?_⟩) ?_ ?_
 rotate_left
 ·intro w'
  go_simp
  with_reducible rfl
 rotate_left
 ·simp only [Act.put, lA, lB, lC, aU, aT]
  rfl
 refine bB (i := 13) (N := some 52) (v := ?_) (a' := ?_) #[true, true, true, true, true, true, true, true, true, true, true, true, true, true, false] rfl rfl (by kernel_rfl) (fun _ _ _ h => h) (Or.inl ⟨by rfl, ?_⟩) ?_ ?_
 rotate_left
 ·intro w'
  go_simp
  with_reducible rfl
 rotate_left
 ·simp only [Act.put, lA, lB, lC, aU, aT]
  rfl
 refine last_ (i := 14) (N := none) #[true, true, true, true, true, true, true, true, true, true, true, true, true, true, true] rfl rfl (by kernel_rfl) (by decide) (fun K hK => ?_)
 have hzg_0_7 : w6.cell? ⟨g, 0, none⟩ = some (.slice A0_0 l0_0.length c0_0) := (aD BKg.out 0).trans rfl
 have hyg_0_7 := aC BKg.out 0
 have hzg_1_7 : w6.cell? ⟨g, 1, none⟩ = some (.slice A0_1 l0_1.length c0_1) := (aD BKg.out 1).trans rfl
 have hyg_1_7 := aC BKg.out 1
 have hzg_2_7 : w6.cell? ⟨g, 2, none⟩ = some (.int .i64 f1) := (aD BKg.out 2).trans rfl
 have hyg_2_7 := aC BKg.out 2
 have hzg_3_7 : w6.cell? ⟨g, 3, none⟩ = some (.bool b1) := (aD BKg.out 3).trans rfl
 have hyg_3_7 := aC BKg.out 3
 have hge_ : w.heap.size ≤ g := (by have o_ := HORD.out; omega)
 refine skip_ (w1 := ?_) (by rfl) rfl ?_ ?_
 rotate_left
 ·go_simp
  rfl
 refine hK.out _ _ ?_
 clear hK K
 refine done_ (by kernel_rfl) ?_
 obtain ⟨w7, hw_⟩ : ∃ z_, z_ = (w6.setCell ⟨g, 1, none⟩ (.slice A6 ys6.length c6)) := ⟨_, rfl⟩
 (try rw [← hw_])
 have hkp : Kept w6 w7 (fun k_ => k_ = g) := (by rw [hw_]; exact Kept.setCell (Kept.refl w6 (fun k_ => k_ = g)) (.inl rfl) (.slice A6 ys6.length c6))
 have hbn_ : Below w.heap.size w w7 := (by rw [hw_]; exact aE (HB.out) hge_)
 have hbk_ : w7.heap[g]? = some (.cells #[.slice A0_0 l0_0.length c0_0, .slice A6 ys6.length c6, .int .i64 f1, .bool b1] 25 (0, 0)) := (by rw [hw_]; exact bE (cs := #[.slice A0_0 l0_0.length c0_0, .slice A0_1 l0_1.length c0_1, .int .i64 f1, .bool b1]) (cs' := #[.slice A0_0 l0_0.length c0_0, .slice A6 ys6.length c6, .int .i64 f1, .bool b1]) (BKg.out) 1 _ rfl)
 have hsz_ : hi6 ≤ w7.heap.size := Nat.le_trans HT.out hkp.1
 have n0_ := aA.mk (Kd.N_kept HN0.out hkp (fun k_ h1_ h2_ => by have o_ := HORD.out; have t_ := HT.out; (try simp only [In2, Up, In, Ex, Exb] at h1_ h2_); omega))
 have n1_ := aA.mk (Kd.N_kept HS6.out hkp (fun k_ h1_ h2_ => by have o_ := HORD.out; have t_ := HT.out; (try simp only [In2, Up, In, Ex, Exb] at h1_ h2_); omega))
 have n2_ := aA.mk (HKP.out.then_ hkp (fun k_ h_ => by have o_ := HORD.out; have t_ := HT.out; (try simp only [In2, Up, In, Ex, Exb] at h_ ⊢); omega))
 have n3_ := aA.mk (hbn_)
 have n4_ := aA.mk (hbk_)
 have n5_ := aA.mk (hsz_)
 (try clear HN0)
 (try clear HS6)
 (try clear HKP)
 (try clear HB)
 (try clear BKg)
 (try clear HT)
 have HN0 := n0_
 have HS6 := n1_
 have HKP := n2_
 have HB := n3_
 have BKg := n4_
 have HT := n5_
 clear n0_ n1_ n2_ n3_ n4_ n5_
 clear hw_ hkp hge_ hbn_ hbk_ hsz_
 have hzg_0_7 : w7.cell? ⟨g, 0, none⟩ = some (.slice A0_0 l0_0.length c0_0) := (aD BKg.out 0).trans rfl
 have hyg_0_7 := aC BKg.out 0
 have hzg_1_7 : w7.cell? ⟨g, 1, none⟩ = some (.slice A6 ys6.length c6) := (aD BKg.out 1).trans rfl
 have hyg_1_7 := aC BKg.out 1
 have hzg_2_7 : w7.cell? ⟨g, 2, none⟩ = some (.int .i64 f1) := (aD BKg.out 2).trans rfl
 have hyg_2_7 := aC BKg.out 2
 have hzg_3_7 : w7.cell? ⟨g, 3, none⟩ = some (.bool b1) := (aD BKg.out 3).trans rfl
 have hyg_3_7 := aC BKg.out 3
 try go_wp2
 first | go_end0 | refine bodyPost_ret (fn := Try.f57) (results_none rfl _ _ _) rfl ?_
 exact ⟨rfl, by unfold WrPost; exact ⟨_, gn6, BKg.out, HG6.out, (by have o_ := HORD.out; have t_ := HT.out; omega), Kd.bA HN0.out (fun k_ hk_ => by have o_ := HORD.out; have t_ := HT.out; (try simp only [In2, Up, In, Ex, Exb] at hk_ ⊢); omega), (by rw [show l0_1 ++ [(⟨a1, l2⟩ : S50)] = ys6 from by rw [HY6.out, HY5.out]]; exact Kd.bA HS6.out (fun k_ hk_ => by have o_ := HORD.out; have t_ := HT.out; (try simp only [In2, Up, In, Ex, Exb] at hk_ ⊢); omega)), HB.out, HKP.out⟩⟩
theorem spec_l2WriteS.calls (A0_0 : Option Addr) (c0_0 : Nat) (l0_0 : List (List Int)) (A0_1 : Option Addr) (c0_1 : Nat) (l0_1 : List (S50)) (a0_2 : Int) (a0_3 : Bool) (a1 : Int) (A2 : Option Addr) (c2 : Nat) (l2 : List Int) (w wi : World) (g : Nat) (hB : Below w.heap.size w wi) (hbk : wi.heap[g]? = some (.cells #[.slice A0_0 l0_0.length c0_0, .slice A0_1 l0_1.length c0_1, .int .i64 a0_2, .bool a0_3] 25 (0, 0))) (a gS gC : Nat) (hwa : w.heap.size ≤ a ∧ 0 < a) (hag : a ≤ g) (hSt : gS < wi.heap.size ∧ g ≠ gS) (hCt : gC < wi.heap.size ∧ g ≠ gC) (hgC : ∀ k_, (Value.slice A0_1 l0_1.length c0_1).ownBlock = some k_ → k_ = gC) (hgS : ∀ k_, (Value.slice A0_0 l0_0.length c0_0).ownBlock = some k_ → k_ = gS) (hn0 : Kd.N (Kd.slice 5 (Kd.int .u8)) 37 wi w.heap.size (Ex a gC g) (.slice A0_0 l0_0.length c0_0) l0_0) (hn1 : Kd.N k50 50 wi w.heap.size (Ex a gS g) (.slice A0_1 l0_1.length c0_1) l0_1) (hf2 : Kd.F (Kd.int .u8) wi (Ex 0 g g) A2 l2.length l2) (hc2 : l2.length ≤ c2) :
  Calls Try.prog 57 #[.pointer (some ⟨g, 0, none⟩), .int .i64 a1, .slice A2 l2.length c2] wi fun e w' => e = .returned (.tuple #[]) ∧ WrPost w wi w' a g gS (.slice A0_0 l0_0.length c0_0) l0_0 (wrote l0_0 l0_1 a0_2 a0_3 a1 l2).1 (wrote l0_0 l0_1 a0_2 a0_3 a1 l2).2.1 (wrote l0_0 l0_1 a0_2 a0_3 a1 l2).2.2 := by
 unfold wrote
 by_cases hp : putsB l0_0 l0_1 a0_3 a1 l2 = true
 ·rw [if_pos hp]
  unfold putsB at hp
  simp only [Bool.and_eq_true, Bool.not_eq_true', decide_eq_false_iff_not] at hp
  obtain ⟨hd, hwi, h80, h60⟩ := hp
  subst hd
  obtain ⟨⟨f1, b1, o1⟩, hbu⟩ : ∃ z, burnF a0_2 false = z := ⟨_, rfl⟩
  rw [hbu]
  cases o1 with
  | true => exact walk_l2Write6 _ _ _ _ _ _ _ _ _ _ _ w wi g hB hbk a gS gC hwa hag hSt hCt hgC hgS hn0 hn1 hf2 hc2 hwi h80 h60 _ _ hbu
  | false => exact walk_l2Write5 _ _ _ _ _ _ _ _ _ _ _ w wi g hB hbk a gS gC hwa hag hSt hCt hgC hgS hn0 hn1 hf2 hc2 hwi h80 h60 _ _ hbu
 ·rw [if_neg hp]
  cases a0_3 with
  | true => exact walk_l2Write1 _ _ _ _ _ _ _ _ _ _ _ w wi g hB hbk a gS gC hwa hag hSt hCt hgC hgS hn0 hn1 hf2 hc2
  | false =>
   by_cases hwi : decide (0 ≤ a1 ∧ a1 ≤ wrap64 ((l0_0.length : Int) - 1)) = true
   ·by_cases h80 : 80 < (l2.length : Int)
    ·exact walk_l2Write3 _ _ _ _ _ _ _ _ _ _ _ w wi g hB hbk a gS gC hwa hag hSt hCt hgC hgS hn0 hn1 hf2 hc2 hwi h80
    ·by_cases h60 : 60 ≤ (l0_1.length : Int)
     ·exact walk_l2Write4 _ _ _ _ _ _ _ _ _ _ _ w wi g hB hbk a gS gC hwa hag hSt hCt hgC hgS hn0 hn1 hf2 hc2 hwi h80 h60
     ·exact absurd (by unfold putsB; rw [hwi, decide_eq_false h80, decide_eq_false h60]; rfl) hp
   ·exact walk_l2Write2 _ _ _ _ _ _ _ _ _ _ _ w wi g hB hbk a gS gC hwa hag hSt hCt hgC hgS hn0 hn1 hf2 hc2 (by simpa using hwi)
set_option maxHeartbeats 8000000 in
set_option maxRecDepth 100000 in
theorem walk_l2Flush1 (A0_0 : Option Addr) (c0_0 : Nat) (l0_0 : List (List Int)) (A0_1 : Option Addr) (c0_1 : Nat) (l0_1 : List (S50)) (a0_2 : Int) (w wi : World) (g : Nat) (hB : Below w.heap.size w wi) (hbk : wi.heap[g]? = some (.cells #[.slice A0_0 l0_0.length c0_0, .slice A0_1 l0_1.length c0_1, .int .i64 a0_2, .bool true] 25 (0, 0))) (a gS gC : Nat) (hwa : w.heap.size ≤ a ∧ 0 < a) (hag : a ≤ g) (hSt : gS < wi.heap.size ∧ g ≠ gS) (hCt : gC < wi.heap.size ∧ g ≠ gC) (hgC : ∀ k_, (Value.slice A0_1 l0_1.length c0_1).ownBlock = some k_ → k_ = gC) (hgS : ∀ k_, (Value.slice A0_0 l0_0.length c0_0).ownBlock = some k_ → k_ = gS) (hn0 : Kd.N (Kd.slice 5 (Kd.int .u8)) 37 wi w.heap.size (Ex a gC g) (.slice A0_0 l0_0.length c0_0) l0_0) (hn1 : Kd.N k50 50 wi w.heap.size (Ex a gS g) (.slice A0_1 l0_1.length c0_1) l0_1) :
  Calls Try.prog 60 #[.pointer (some ⟨g, 0, none⟩)] wi fun e w' => e = .returned (.tuple #[]) ∧ FlPost w wi w' a g gS l0_0 l0_1 a0_2 true := by
 have hu25 := Try.underlying25
 have hu50 := Try.underlying50
 have HB := aA.mk hB
 have BKg := aA.mk hbk
 have HKP := aA.mk (Kept.refl wi (fun k_ => a ≤ k_))
 obtain ⟨top, et_⟩ : ∃ n_, n_ = wi.heap.size := ⟨_, rfl⟩
 have HORD := aA.mk (show ((w.heap.size ≤ a ∧ 0 < a) ∧ a ≤ g) ∧ g + 1 ≤ top ∧ (gS < top ∧ g ≠ gS) ∧ (gC < top ∧ g ≠ gC) from ⟨⟨hwa, hag⟩, by rw [et_]; exact blk_lt hbk, by rw [et_]; exact hSt, by rw [et_]; exact hCt⟩)
 have HT := aA.mk (Nat.le_of_eq et_)
 have HN0 := aA.mk (Kd.bA (ok' := Exb a gC g top) (Kd.N_bound hn0) (fun k_ hk_ => ⟨hk_.1, by rw [et_]; exact hk_.2⟩))
 have HN1 := aA.mk (Kd.bA (ok' := Exb a gS g top) (Kd.N_bound hn1) (fun k_ hk_ => ⟨hk_.1, by rw [et_]; exact hk_.2⟩))
 have HGC := aA.mk hgC
 have HGS := aA.mk hgS
 have HTE := aA.mk et_
 clear hn0 hn1 hgC hgS et_ hwa hag hSt hCt
 clear hB hbk
 go_enter Try.func60, Try.ntmps60
 have hzg_0_0 : wi.cell? ⟨g, 0, none⟩ = some (.slice A0_0 l0_0.length c0_0) := (aD BKg.out 0).trans rfl
 have hyg_0_0 := aC BKg.out 0
 have hzg_1_0 : wi.cell? ⟨g, 1, none⟩ = some (.slice A0_1 l0_1.length c0_1) := (aD BKg.out 1).trans rfl
 have hyg_1_0 := aC BKg.out 1
 have hzg_2_0 : wi.cell? ⟨g, 2, none⟩ = some (.int .i64 a0_2) := (aD BKg.out 2).trans rfl
 have hyg_2_0 := aC BKg.out 2
 have hzg_3_0 : wi.cell? ⟨g, 3, none⟩ = some (.bool true) := (aD BKg.out 3).trans rfl
 have hyg_3_0 := aC BKg.out 3
 try go_wp2
 first | go_end0 | refine bodyPost_ret (fn := Try.f60) (results_none rfl _ _ _) rfl ?_
 exact ⟨rfl, by unfold FlPost; exact ⟨_, _, gC, BKg.out, HGC.out, (by have o_ := HORD.out; have t_ := HT.out; omega), (fun k_ hk_ => HGS.out k_ hk_), Kd.bA HN0.out (fun k_ hk_ => by have o_ := HORD.out; have t_ := HT.out; (try simp only [In2, Up, In, Ex, Exb] at hk_ ⊢); omega), Kd.bA HN1.out (fun k_ hk_ => by have o_ := HORD.out; have t_ := HT.out; (try simp only [In2, Up, In, Ex, Exb] at hk_ ⊢); omega), HB.out, HKP.out⟩⟩
set_option maxHeartbeats 8000000 in
set_option maxRecDepth 100000 in
theorem walk_l2Flush2 (A0_0 : Option Addr) (c0_0 : Nat) (l0_0 : List (List Int)) (A0_1 : Option Addr) (c0_1 : Nat) (l0_1 : List (S50)) (a0_2 : Int) (w wi : World) (g : Nat) (hB : Below w.heap.size w wi) (hbk : wi.heap[g]? = some (.cells #[.slice A0_0 l0_0.length c0_0, .slice A0_1 l0_1.length c0_1, .int .i64 a0_2, .bool false] 25 (0, 0))) (a gS gC : Nat) (hwa : w.heap.size ≤ a ∧ 0 < a) (hag : a ≤ g) (hSt : gS < wi.heap.size ∧ g ≠ gS) (hCt : gC < wi.heap.size ∧ g ≠ gC) (hgC : ∀ k_, (Value.slice A0_1 l0_1.length c0_1).ownBlock = some k_ → k_ = gC) (hgS : ∀ k_, (Value.slice A0_0 l0_0.length c0_0).ownBlock = some k_ → k_ = gS) (hn0 : Kd.N (Kd.slice 5 (Kd.int .u8)) 37 wi w.heap.size (Ex a gC g) (.slice A0_0 l0_0.length c0_0) l0_0) (hn1 : Kd.N k50 50 wi w.heap.size (Ex a gS g) (.slice A0_1 l0_1.length c0_1) l0_1) (f1 : Int) (b1 : Bool) (hbu : burnF a0_2 false = (f1, b1, false)) :
  Calls Try.prog 60 #[.pointer (some ⟨g, 0, none⟩)] wi fun e w' => e = .returned (.tuple #[]) ∧ FlPost w wi w' a g gS l0_0 l0_1 f1 b1 := by
 have hu25 := Try.underlying25
 have hu50 := Try.underlying50
 have HB := aA.mk hB
 have BKg := aA.mk hbk
 have HKP := aA.mk (Kept.refl wi (fun k_ => a ≤ k_))
 obtain ⟨top, et_⟩ : ∃ n_, n_ = wi.heap.size := ⟨_, rfl⟩
 have HORD := aA.mk (show ((w.heap.size ≤ a ∧ 0 < a) ∧ a ≤ g) ∧ g + 1 ≤ top ∧ (gS < top ∧ g ≠ gS) ∧ (gC < top ∧ g ≠ gC) from ⟨⟨hwa, hag⟩, by rw [et_]; exact blk_lt hbk, by rw [et_]; exact hSt, by rw [et_]; exact hCt⟩)
 have HT := aA.mk (Nat.le_of_eq et_)
 have HN0 := aA.mk (Kd.bA (ok' := Exb a gC g top) (Kd.N_bound hn0) (fun k_ hk_ => ⟨hk_.1, by rw [et_]; exact hk_.2⟩))
 have HN1 := aA.mk (Kd.bA (ok' := Exb a gS g top) (Kd.N_bound hn1) (fun k_ hk_ => ⟨hk_.1, by rw [et_]; exact hk_.2⟩))
 have HGC := aA.mk hgC
 have HGS := aA.mk hgS
 have HTE := aA.mk et_
 clear hn0 hn1 hgC hgS et_ hwa hag hSt hCt
 have JO := aA.mk hbu
 clear hB hbk
 go_enter Try.func60, Try.ntmps60
 have hzg_0_0 : wi.cell? ⟨g, 0, none⟩ = some (.slice A0_0 l0_0.length c0_0) := (aD BKg.out 0).trans rfl
 have hyg_0_0 := aC BKg.out 0
 have hzg_1_0 : wi.cell? ⟨g, 1, none⟩ = some (.slice A0_1 l0_1.length c0_1) := (aD BKg.out 1).trans rfl
 have hyg_1_0 := aC BKg.out 1
 have hzg_2_0 : wi.cell? ⟨g, 2, none⟩ = some (.int .i64 a0_2) := (aD BKg.out 2).trans rfl
 have hyg_2_0 := aC BKg.out 2
 have hzg_3_0 : wi.cell? ⟨g, 3, none⟩ = some (.bool false) := (aD BKg.out 3).trans rfl
 have hyg_3_0 := aC BKg.out 3
 go_wp2_with (first | ((with_reducible refine bJ (f := 72) rfl ?_); refine gate_guard (by first | rfl | kernel_rfl) ?_; refine goesL_ (some 9) rfl rfl Try.func72 (by kernel_rfl) rfl #[.pointer (some ⟨g, 0, none⟩)] rfl (by (try simp only [List.map_toArray, List.map_cons, List.map_nil]); first | done | rfl | (simp only [List.length_drop, List.length_take]; rfl)) ?_; (with_reducible refine (spec_l2OpS.calls (.slice A0_0 l0_0.length c0_0) (.slice A0_1 l0_1.length c0_1) _ _ f1 b1 false w _ g ?s1 ?s2 ?s3 JO.out).mono ?_); (case s1 => exact HB.out); (case s2 => exact BKg.out); (case s3 => exact (by have o_ := HORD.out; omega)); rintro e_ w1 ⟨rfl, hbk_, hbn_, hkp⟩; refine ⟨_, rfl, ?_⟩; have n0_ := aA.mk (Kd.N_kept HN0.out hkp (fun k_ h1_ h2_ => by have o_ := HORD.out; have t_ := HT.out; (try simp only [In2, Up, In, Ex, Exb] at h1_ h2_); omega)); have n1_ := aA.mk (Kd.N_kept HN1.out hkp (fun k_ h1_ h2_ => by have o_ := HORD.out; have t_ := HT.out; (try simp only [In2, Up, In, Ex, Exb] at h1_ h2_); omega)); have n2_ := aA.mk (HKP.out.then_ hkp (fun k_ h_ => by have o_ := HORD.out; have t_ := HT.out; (try simp only [In2, Up, In, Ex, Exb] at h_ ⊢); omega)); have n3_ := aA.mk (hbn_); have n4_ := aA.mk (hbk_); have n5_ := aA.mk (Nat.le_trans HT.out hkp.1); (try clear HN0); (try clear HN1); (try clear HKP); (try clear HB); (try clear BKg); (try clear HT); have HN0 := n0_; have HN1 := n1_; have HKP := n2_; have HB := n3_; have BKg := n4_; have HT := n5_; clear n0_ n1_ n2_ n3_ n4_ n5_; clear hbk_ hbn_ hkp; have hzg_0_1 : w1.cell? ⟨g, 0, none⟩ = some (.slice A0_0 l0_0.length c0_0) := (aD BKg.out 0).trans rfl; have hyg_0_1 := aC BKg.out 0; have hzg_1_1 : w1.cell? ⟨g, 1, none⟩ = some (.slice A0_1 l0_1.length c0_1) := (aD BKg.out 1).trans rfl; have hyg_1_1 := aC BKg.out 1; have hzg_2_1 : w1.cell? ⟨g, 2, none⟩ = some (.int .i64 f1) := (aD BKg.out 2).trans rfl; have hyg_2_1 := aC BKg.out 2; have hzg_3_1 : w1.cell? ⟨g, 3, none⟩ = some (.bool b1) := (aD BKg.out 3).trans rfl; have hyg_3_1 := aC BKg.out 3))
 first | go_end0 | refine bodyPost_ret (fn := Try.f60) (results_none rfl _ _ _) rfl ?_
 exact ⟨rfl, by unfold FlPost; exact ⟨_, _, gC, BKg.out, HGC.out, (by have o_ := HORD.out; have t_ := HT.out; omega), (fun k_ hk_ => HGS.out k_ hk_), Kd.bA HN0.out (fun k_ hk_ => by have o_ := HORD.out; have t_ := HT.out; (try simp only [In2, Up, In, Ex, Exb] at hk_ ⊢); omega), Kd.bA HN1.out (fun k_ hk_ => by have o_ := HORD.out; have t_ := HT.out; (try simp only [In2, Up, In, Ex, Exb] at hk_ ⊢); omega), HB.out, HKP.out⟩⟩
set_option maxHeartbeats 8000000 in
set_option maxRecDepth 100000 in
theorem walk_l2Flush3 (A0_0 : Option Addr) (c0_0 : Nat) (l0_0 : List (List Int)) (A0_1 : Option Addr) (c0_1 : Nat) (l0_1 : List (S50)) (a0_2 : Int) (w wi : World) (g : Nat) (hB : Below w.heap.size w wi) (hbk : wi.heap[g]? = some (.cells #[.slice A0_0 l0_0.length c0_0, .slice A0_1 l0_1.length c0_1, .int .i64 a0_2, .bool false] 25 (0, 0))) (a gS gC : Nat) (hwa : w.heap.size ≤ a ∧ 0 < a) (hag : a ≤ g) (hSt : gS < wi.heap.size ∧ g ≠ gS) (hCt : gC < wi.heap.size ∧ g ≠ gC) (hgC : ∀ k_, (Value.slice A0_1 l0_1.length c0_1).ownBlock = some k_ → k_ = gC) (hgS : ∀ k_, (Value.slice A0_0 l0_0.length c0_0).ownBlock = some k_ → k_ = gS) (hn0 : Kd.N (Kd.slice 5 (Kd.int .u8)) 37 wi w.heap.size (Ex a gC g) (.slice A0_0 l0_0.length c0_0) l0_0) (hn1 : Kd.N k50 50 wi w.heap.size (Ex a gS g) (.slice A0_1 l0_1.length c0_1) l0_1) (hl1 : l0_1.length ≤ 4194304) (hin : ∀ {x : Int} (i : Nat), x = (i : Int) → i < l0_1.length → 0 ≤ (rdW l0_1 x).f0 ∧ (rdW l0_1 x).f0 < (l0_0.length : Int)) (f1 : Int) (b1 : Bool) (hbu : burnF a0_2 false = (f1, b1, true)) :
  Calls Try.prog 60 #[.pointer (some ⟨g, 0, none⟩)] wi fun e w' => e = .returned (.tuple #[]) ∧ FlPost w wi w' a g gS ((flushSecs l0_0 l0_1 l0_1.length)) (([] : List (S50))) f1 b1 := by
 have hu25 := Try.underlying25
 have hu50 := Try.underlying50
 have HB := aA.mk hB
 have BKg := aA.mk hbk
 have HKP := aA.mk (Kept.refl wi (fun k_ => a ≤ k_))
 obtain ⟨top, et_⟩ : ∃ n_, n_ = wi.heap.size := ⟨_, rfl⟩
 have HORD := aA.mk (show ((w.heap.size ≤ a ∧ 0 < a) ∧ a ≤ g) ∧ g + 1 ≤ top ∧ (gS < top ∧ g ≠ gS) ∧ (gC < top ∧ g ≠ gC) from ⟨⟨hwa, hag⟩, by rw [et_]; exact blk_lt hbk, by rw [et_]; exact hSt, by rw [et_]; exact hCt⟩)
 have HT := aA.mk (Nat.le_of_eq et_)
 have HN0 := aA.mk (Kd.bA (ok' := Exb a gC g top) (Kd.N_bound hn0) (fun k_ hk_ => ⟨hk_.1, by rw [et_]; exact hk_.2⟩))
 have HN1 := aA.mk (Kd.bA (ok' := Exb a gS g top) (Kd.N_bound hn1) (fun k_ hk_ => ⟨hk_.1, by rw [et_]; exact hk_.2⟩))
 have HGC := aA.mk hgC
 have HGS := aA.mk hgS
 have HTE := aA.mk et_
 clear hn0 hn1 hgC hgS et_ hwa hag hSt hCt
 have HL1 := aA.mk (Kd.bA (ok' := Exb a gS g top) HN1.out (fun _ h_ => h_))
 have HF1 := aA.mk (Kd.N_F HN1.out)
 have HC1 := aA.mk (Kd.N_reads' HN1.out).2.1
 have JO := aA.mk hbu
 clear hB hbk
 go_enter Try.func60, Try.ntmps60
 have hzg_0_0 : wi.cell? ⟨g, 0, none⟩ = some (.slice A0_0 l0_0.length c0_0) := (aD BKg.out 0).trans rfl
 have hyg_0_0 := aC BKg.out 0
 have hzg_1_0 : wi.cell? ⟨g, 1, none⟩ = some (.slice A0_1 l0_1.length c0_1) := (aD BKg.out 1).trans rfl
 have hyg_1_0 := aC BKg.out 1
 have hzg_2_0 : wi.cell? ⟨g, 2, none⟩ = some (.int .i64 a0_2) := (aD BKg.out 2).trans rfl
 have hyg_2_0 := aC BKg.out 2
 have hzg_3_0 : wi.cell? ⟨g, 3, none⟩ = some (.bool false) := (aD BKg.out 3).trans rfl
 have hyg_3_0 := aC BKg.out 3
 go_wp2_with (first | ((with_reducible refine bJ (f := 72) rfl ?_); refine gate_guard (by first | rfl | kernel_rfl) ?_; refine goesL_ (some 9) rfl rfl Try.func72 (by kernel_rfl) rfl #[.pointer (some ⟨g, 0, none⟩)] rfl (by (try simp only [List.map_toArray, List.map_cons, List.map_nil]); first | done | rfl | (simp only [List.length_drop, List.length_take]; rfl)) ?_; (with_reducible refine (spec_l2OpS.calls (.slice A0_0 l0_0.length c0_0) (.slice A0_1 l0_1.length c0_1) _ _ f1 b1 true w _ g ?s1 ?s2 ?s3 JO.out).mono ?_); (case s1 => exact HB.out); (case s2 => exact BKg.out); (case s3 => exact (by have o_ := HORD.out; omega)); rintro e_ w1 ⟨rfl, hbk_, hbn_, hkp⟩; refine ⟨_, rfl, ?_⟩; have n0_ := aA.mk (Kd.N_kept HN0.out hkp (fun k_ h1_ h2_ => by have o_ := HORD.out; have t_ := HT.out; (try simp only [In2, Up, In, Ex, Exb] at h1_ h2_); omega)); have n1_ := aA.mk (Kd.bF HF1.out hkp (fun k_ h1_ h2_ => by have o_ := HORD.out; have t_ := HT.out; (try simp only [In2, Up, In, Ex, Exb] at h1_ h2_); omega)); have n2_ := aA.mk (Kd.N_kept HN1.out hkp (fun k_ h1_ h2_ => by have o_ := HORD.out; have t_ := HT.out; (try simp only [In2, Up, In, Ex, Exb] at h1_ h2_); omega)); have n3_ := aA.mk (HKP.out.then_ hkp (fun k_ h_ => by have o_ := HORD.out; have t_ := HT.out; (try simp only [In2, Up, In, Ex, Exb] at h_ ⊢); omega)); have n4_ := aA.mk (hbn_); have n5_ := aA.mk (hbk_); have n6_ := aA.mk (Nat.le_trans HT.out hkp.1); (try clear HN0); (try clear HF1); (try clear HN1); (try clear HKP); (try clear HB); (try clear BKg); (try clear HT); have HN0 := n0_; have HF1 := n1_; have HN1 := n2_; have HKP := n3_; have HB := n4_; have BKg := n5_; have HT := n6_; clear n0_ n1_ n2_ n3_ n4_ n5_ n6_; clear hbk_ hbn_ hkp; have hzg_0_1 : w1.cell? ⟨g, 0, none⟩ = some (.slice A0_0 l0_0.length c0_0) := (aD BKg.out 0).trans rfl; have hyg_0_1 := aC BKg.out 0; have hzg_1_1 : w1.cell? ⟨g, 1, none⟩ = some (.slice A0_1 l0_1.length c0_1) := (aD BKg.out 1).trans rfl; have hyg_1_1 := aC BKg.out 1; have hzg_2_1 : w1.cell? ⟨g, 2, none⟩ = some (.int .i64 f1) := (aD BKg.out 2).trans rfl; have hyg_2_1 := aC BKg.out 2; have hzg_3_1 : w1.cell? ⟨g, 3, none⟩ = some (.bool b1) := (aD BKg.out 3).trans rfl; have hyg_3_1 := aC BKg.out 3))
 go_loopg [2] (l0_1.length) (fun kq  v2 w' => ∃ (i2 : Nat) (x2 : Int) (u2 : Value), v2 = .int .i64 x2 ∧ aA (x2 = (i2 : Int)) ∧ aA (i2 + kq = l0_1.length) ∧ aA (top ≤ w'.heap.size) ∧ aA (Kd.N (Kd.slice 5 (Kd.int .u8)) 37 w' w.heap.size (Exb a g g top) u2 (flushSecs l0_0 l0_1 i2)) ∧ aA (∀ k_, (u2 : Value).ownBlock = some k_ → k_ = gS) ∧ aA (Kd.F k50 w' (Exb a gS g top) A0_1 l0_1.length l0_1) ∧ aA (Kd.N k50 50 w' w.heap.size (Exb a gS g top) (.slice A0_1 l0_1.length c0_1) l0_1) ∧ aA (Kept wi w' (fun k_ => a ≤ k_)) ∧ aA (w'.heap[g]? = some (.cells #[u2, .slice A0_1 l0_1.length c0_1, .int .i64 f1, .bool b1] 25 (0, 0))) ∧ aA (Below w.heap.size w w'))
 case atStart => exact ⟨0, 0, _, rfl, ⟨rfl⟩, ⟨Nat.zero_add _⟩, HT, ⟨by rw [show flushSecs l0_0 l0_1 0 = l0_0 from rfl]; exact Kd.bA HN0.out (fun k_ hk_ => by have o_ := HORD.out; (try simp only [In2, Up, In, Ex, Exb] at hk_ ⊢); omega)⟩, ⟨fun k_ hk_ => HGS.out k_ hk_⟩, HF1, HN1, HKP, BKg, HB⟩
 clear HF1 HN1 HKP BKg HB HT HN0
 obtain ⟨i2, x2, u2, rfl, HI2, HK2, HT, HS2, HGN, HF1, HN1, HKP, BKg, HB⟩ := hrel
 obtain ⟨xs2, ex_⟩ : ∃ y_, y_ = flushSecs l0_0 l0_1 i2 := ⟨_, rfl⟩
 rw [← ex_] at HS2
 have HX2 := aA.mk ex_
 clear ex_
 obtain ⟨A2, c2, ev_⟩ := Kd.N_slice HS2.out
 subst ev_
 rcases gk with _ | k1
 rotate_left
 ·have hp_ : 0 ≤ x2 := (by have := HI2.out; omega)
  have hq_ : x2 < (l0_1.length : Int) := (by have := HI2.out; have := HK2.out; omega)
  have hd_ : decide (x2 < (l0_1.length : Int)) = true := decide_eq_true hq_
  have hzg_0_2 : wr.cell? ⟨g, 0, none⟩ = some (.slice A2 xs2.length c2) := (aD BKg.out 0).trans rfl
  have hyg_0_2 := aC BKg.out 0
  have hzg_1_2 : wr.cell? ⟨g, 1, none⟩ = some (.slice A0_1 l0_1.length c0_1) := (aD BKg.out 1).trans rfl
  have hyg_1_2 := aC BKg.out 1
  have hzg_2_2 : wr.cell? ⟨g, 2, none⟩ = some (.int .i64 f1) := (aD BKg.out 2).trans rfl
  have hyg_2_2 := aC BKg.out 2
  have hzg_3_2 : wr.cell? ⟨g, 3, none⟩ = some (.bool b1) := (aD BKg.out 3).trans rfl
  have hyg_3_2 := aC BKg.out 3
  ·have WA_ := aA.mk hp_
   try go_wp2
   obtain ⟨ad3, Ae3, ce3, ee3, hx3_0, hx3_1, hl3, hf3⟩ := F_wr HF1.out x2 hp_ hq_
   cases ee3
   have HF3 := aA.mk hf3
   have HC3 := aA.mk hl3
   clear hf3 hl3
   have n_ := aA.mk (Kd.F_drew HF1.out)
   clear HF1
   have HF1 := n_
   clear n_
   have n_ := aA.mk (Kd.aV HN1.out)
   clear HN1
   have HN1 := n_
   clear n_
   have n_ := aA.mk (Kd.aV HS2.out)
   clear HS2
   have HS2 := n_
   clear n_
   have n_ := aA.mk (Kd.F_drew HF3.out)
   clear HF3
   have HF3 := n_
   clear n_
   have n_ := aA.mk (aN BKg.out)
   clear BKg
   have BKg := n_
   clear n_
   have n_ := aA.mk (aJ HB.out)
   clear HB
   have HB := n_
   clear n_
   have n_ := aA.mk (show _ ≤ wr.drew.heap.size from HT.out)
   clear HT
   have HT := n_
   clear n_
   have n_ := aA.mk (show Kept wi wr.drew (fun k_ => a ≤ k_) from HKP.out)
   clear HKP
   have HKP := n_
   clear n_
   refine start_ (n := 22) (S := fun w' => w'.cell? ⟨g, 0, none⟩ = some (.slice A2 xs2.length c2) ∧ w'.cell? ⟨g, 1, none⟩ = some (.slice (some ad3) l0_1.length c0_1) ∧ w'.cell? ⟨g, 2, none⟩ = some (.int .i64 f1) ∧ w'.cell? ⟨g, 3, none⟩ = some (.bool b1) ∧ w'.cell? (ad3.add (x2.toNat * 2)) = some (.int .i64 (rdW l0_1 x2).f0) ∧ w'.cell? ⟨(ad3.add (x2.toNat * 2)).block, (ad3.add (x2.toNat * 2)).off + 1, none⟩ = some (.slice Ae3 ((rdW l0_1 x2).f1).length ce3)) (ds := [21]) #[false, false, false, false, false, false, false, false, false, false, false, false, false, false, false, false, false, false, false, false, false, false] (by kernel_rfl) rfl rfl ⟨(aD BKg.out 0).trans rfl, (aD BKg.out 1).trans rfl, (aD BKg.out 2).trans rfl, (aD BKg.out 3).trans rfl, hx3_0, hx3_1⟩ (fun hHeld => ?_)
   generalize wr.drew = w4 at HF1 HN1 HS2 HF3 BKg HB HT HKP hHeld ⊢
   refine bB (i := 0) (N := some 21) (v := ?_) (a' := ?_) #[true, false, false, false, false, false, false, false, false, false, false, false, false, false, false, false, false, false, false, false, false, false] rfl rfl (by kernel_rfl) (fun _ _ _ h => h) (Or.inl ⟨by rfl, ?_⟩) ?_ ?_
   rotate_left
   ·intro w'
    go_simp
    with_reducible rfl
   rotate_left
   ·simp only [Act.put, lA, lB, lC, aU, aT]
    rfl
   refine bB (i := 1) (N := some 22) (v := ?_) (a' := ?_) #[true, true, false, false, false, false, false, false, false, false, false, false, false, false, false, false, false, false, false, false, false, false] rfl rfl (by kernel_rfl) (fun _ _ _ h => h) (Or.inl ⟨by rfl, ?_⟩) ?_ ?_
   rotate_left
   ·intro w'
    go_simp
    with_reducible rfl
   rotate_left
   ·simp only [Act.put, lA, lB, lC, aU, aT]
    rfl
   refine bB (i := 2) (N := some 23) (v := ?_) (a' := ?_) #[true, true, true, false, false, false, false, false, false, false, false, false, false, false, false, false, false, false, false, false, false, false] rfl rfl (by kernel_rfl) (fun _ _ _ h => h) (Or.inl ⟨by rfl, ?_⟩) ?_ ?_
   rotate_left
   ·intro w'
    go_simp
    with_reducible rfl
   rotate_left
   ·simp only [Act.put, lA, lB, lC, aU, aT]
    rfl
   refine take_ (i := 3) (N := some 24) (v := ?_) (a' := ?_) #[true, true, true, true, false, false, false, false, false, false, false, false, false, false, false, false, false, false, false, false, false, false] rfl rfl (by kernel_rfl) (fun _ _ _ h => h) (Or.inl ⟨by rfl, ?_⟩) hHeld ?_ ?_
   rotate_left
   ·rintro w' ⟨s0, s1, s2, s3, s4, s5⟩
    go_simp
    with_reducible rfl
   rotate_left
   ·simp only [Act.put, lA, lB, lC, aU, aT]
    rfl
   refine bB (i := 4) (N := some 25) (v := ?_) (a' := ?_) #[true, true, true, true, true, false, false, false, false, false, false, false, false, false, false, false, false, false, false, false, false, false] rfl rfl (by kernel_rfl) (fun _ _ _ h => h) (Or.inl ⟨by rfl, ?_⟩) ?_ ?_
   rotate_left
   ·intro w'
    go_simp
    with_reducible rfl
   rotate_left
   ·simp only [Act.put, lA, lB, lC, aU, aT]
    rfl
   refine bB (i := 5) (N := some 26) (v := ?_) (a' := ?_) #[true, true, true, true, true, true, false, false, false, false, false, false, false, false, false, false, false, false, false, false, false, false] rfl rfl (by kernel_rfl) (fun _ _ _ h => h) (Or.inl ⟨by rfl, ?_⟩) ?_ ?_
   rotate_left
   ·intro w'
    go_simp
    with_reducible rfl
   rotate_left
   ·simp only [Act.put, lA, lB, lC, aU, aT]
    rfl
   refine bB (i := 6) (N := some 27) (v := ?_) (a' := ?_) #[true, true, true, true, true, true, true, false, false, false, false, false, false, false, false, false, false, false, false, false, false, false] rfl rfl (by kernel_rfl) (fun _ _ _ h => h) (Or.inl ⟨by rfl, ?_⟩) ?_ ?_
   rotate_left
   ·intro w'
    go_simp
    with_reducible rfl
   rotate_left
   ·simp only [Act.put, lA, lB, lC, aU, aT]
    rfl
   refine take_ (i := 7) (N := some 28) (v := ?_) (a' := ?_) #[true, true, true, true, true, true, true, true, false, false, false, false, false, false, false, false, false, false, false, false, false, false] rfl rfl (by kernel_rfl) (fun _ _ _ h => h) (Or.inl ⟨by rfl, ?_⟩) hHeld ?_ ?_
   rotate_left
   ·rintro w' ⟨s0, s1, s2, s3, s4, s5⟩
    go_simp
    with_reducible rfl
   rotate_left
   ·simp only [Act.put, lA, lB, lC, aU, aT]
    rfl
   refine bB (i := 8) (N := some 29) (v := ?_) (a' := ?_) #[true, true, true, true, true, true, true, true, true, false, false, false, false, false, false, false, false, false, false, false, false, false] rfl rfl (by kernel_rfl) (fun _ _ _ h => h) (Or.inl ⟨by rfl, ?_⟩) ?_ ?_
   rotate_left
   ·intro w'
    go_simp
    with_reducible rfl
   rotate_left
   ·simp only [Act.put, lA, lB, lC, aU, aT]
    rfl
   refine bB (i := 9) (N := some 30) (v := ?_) (a' := ?_) #[true, true, true, true, true, true, true, true, true, true, false, false, false, false, false, false, false, false, false, false, false, false] rfl rfl (by kernel_rfl) (fun _ _ _ h => h) (Or.inl ⟨by rfl, ?_⟩) ?_ ?_
   rotate_left
   ·intro w'
    go_simp
    with_reducible rfl
   rotate_left
   ·simp only [Act.put, lA, lB, lC, aU, aT]
    rfl
   refine bB (i := 10) (N := some 31) (v := ?_) (a' := ?_) #[true, true, true, true, true, true, true, true, true, true, true, false, false, false, false, false, false, false, false, false, false, false] rfl rfl (by kernel_rfl) (fun _ _ _ h => h) (Or.inl ⟨by rfl, ?_⟩) ?_ ?_
   rotate_left
   ·intro w'
    go_simp
    with_reducible rfl
   rotate_left
   ·simp only [Act.put, lA, lB, lC, aU, aT]
    rfl
   refine take_ (i := 11) (N := some 32) (v := ?_) (a' := ?_) #[true, true, true, true, true, true, true, true, true, true, true, true, false, false, false, false, false, false, false, false, false, false] rfl rfl (by kernel_rfl) (fun _ _ _ h => h) (Or.inl ⟨by rfl, ?_⟩) hHeld ?_ ?_
   rotate_left
   ·rintro w' ⟨s0, s1, s2, s3, s4, s5⟩
    go_simp
    with_reducible rfl
   rotate_left
   ·simp only [Act.put, lA, lB, lC, aU, aT]
    rfl
   refine bB (i := 12) (N := some 33) (v := ?_) (a' := ?_) #[true, true, true, true, true, true, true, true, true, true, true, true, true, false, false, false, false, false, false, false, false, false] rfl rfl (by kernel_rfl) (fun _ _ _ h => h) (Or.inl ⟨by rfl, ?_⟩) ?_ ?_
   rotate_left
   ·intro w'
    go_simp
    with_reducible rfl
   rotate_left
   ·simp only [Act.put, lA, lB, lC, aU, aT]
    rfl
   refine bB (i := 13) (N := some 34) (v := ?_) (a' := ?_) #[true, true, true, true, true, true, true, true, true, true, true, true, true, true, false, false, false, false, false, false, false, false] rfl rfl (by kernel_rfl) (fun _ _ _ h => h) (Or.inl ⟨by rfl, ?_⟩) ?_ ?_
   rotate_left
   ·intro w'
    go_simp
    with_reducible rfl
   rotate_left
   ·simp only [Act.put, lA, lB, lC, aU, aT]
    rfl
   refine bB (i := 14) (N := some 35) (v := ?_) (a' := ?_) #[true, true, true, true, true, true, true, true, true, true, true, true, true, true, true, false, false, false, false, false, false, false] rfl rfl (by kernel_rfl) (fun _ _ _ h => h) (Or.inl ⟨by rfl, ?_⟩) ?_ ?_
   rotate_left
   ·intro w'
    go_simp
    with_reducible rfl
   rotate_left
   ·simp only [Act.put, lA, lB, lC, aU, aT]
    rfl
   refine take_ (i := 15) (N := some 36) (v := ?_) (a' := ?_) #[true, true, true, true, true, true, true, true, true, true, true, true, true, true, true, true, false, false, false, false, false, false] rfl rfl (by kernel_rfl) (fun _ _ _ h => h) (Or.inl ⟨by rfl, ?_⟩) hHeld ?_ ?_
   rotate_left
   ·rintro w' ⟨s0, s1, s2, s3, s4, s5⟩
    go_simp
    with_reducible rfl
   rotate_left
   ·simp only [Act.put, lA, lB, lC, aU, aT]
    rfl
   refine bB (i := 16) (N := some 37) (v := ?_) (a' := ?_) #[true, true, true, true, true, true, true, true, true, true, true, true, true, true, true, true, true, false, false, false, false, false] rfl rfl (by kernel_rfl) (fun _ _ _ h => h) (Or.inl ⟨by rfl, ?_⟩) ?_ ?_
   rotate_left
   ·intro w'
    go_simp
    with_reducible rfl
   rotate_left
   ·simp only [Act.put, lA, lB, lC, aU, aT]
    rfl
   refine bB (i := 17) (N := some 38) (v := ?_) (a' := ?_) #[true, true, true, true, true, true, true, true, true, true, true, true, true, true, true, true, true, true, false, false, false, false] rfl rfl (by kernel_rfl) (fun _ _ _ h => h) (Or.inl ⟨by rfl, ?_⟩) ?_ ?_
   rotate_left
   ·intro w'
    go_simp
    with_reducible rfl
   rotate_left
   ·simp only [Act.put, lA, lB, lC, aU, aT]
    rfl
   refine bB (i := 18) (N := some 39) (v := ?_) (a' := ?_) #[true, true, true, true, true, true, true, true, true, true, true, true, true, true, true, true, true, true, true, false, false, false] rfl rfl (by kernel_rfl) (fun _ _ _ h => h) (Or.inl ⟨by rfl, ?_⟩) ?_ ?_
   rotate_left
   ·intro w'
    go_simp
    with_reducible rfl
   rotate_left
   ·simp only [Act.put, lA, lB, lC, aU, aT]
    rfl
   refine take_ (i := 19) (N := some 40) (v := ?_) (a' := ?_) #[true, true, true, true, true, true, true, true, true, true, true, true, true, true, true, true, true, true, true, true, false, false] rfl rfl (by kernel_rfl) (fun _ _ _ h => h) (Or.inl ⟨by rfl, ?_⟩) hHeld ?_ ?_
   rotate_left
   ·rintro w' ⟨s0, s1, s2, s3, s4, s5⟩
    go_simp
    with_reducible rfl
   rotate_left
   ·simp only [Act.put, lA, lB, lC, aU, aT]
    rfl
   have pI5 : 0 ≤ ((rdW l0_1 x2).f0) := (hin _ HI2.out (by have := HK2.out; omega)).1
   have qI5 : ((rdW l0_1 x2).f0) < ((xs2).length : Int) := (by have h_ := (hin _ HI2.out (by have := HK2.out; omega)).2; rw [HX2.out, flushSecs_length]; exact h_)
   obtain ⟨go5, co5, eo_, gb_, gl_, GG_⟩ := Kd.N_form HS2.out (by omega)
   injection eo_ with ea_ en_ ec_
   subst ea_
   subst ec_
   clear en_ GG_ gl_
   have GO5 := aA.mk ((HS2.out).1 go5 rfl)
   have GB5 := aA.mk gb_
   clear gb_
   have GN5 := aA.mk (HGN.out go5 rfl)
   obtain ⟨ce_, hcl_, hM_, hcc_, hfr_⟩ := Kd.N_elem HS2.out [] ((rdW l0_1 x2).f0) pI5 qI5
   obtain ⟨ua_, uc_, rfl, _, _⟩ := Kd.FK_slice_open hM_
   have hx5 := hcc_ 0 _ rfl
   have hf5 := hfr_ 0
   (try simp only [show (Kd.slice 5 (Kd.int .u8)).sz = 1 from rfl, Nat.mul_one, Nat.add_zero] at hx5)
   (try simp only [show (Kd.slice 5 (Kd.int .u8)).sz = 1 from rfl, Nat.mul_one, Nat.add_zero] at hf5)
   clear hcl_ hcc_ hfr_ hM_
   have PI5 := aA.mk pI5
   have QI5 := aA.mk qI5
   replace pI5 := eq_true pI5
   replace qI5 := eq_true qI5
   refine bB (i := 20) (N := some 41) (v := ?_) (a' := ?_) #[true, true, true, true, true, true, true, true, true, true, true, true, true, true, true, true, true, true, true, true, true, false] rfl rfl (by kernel_rfl) (fun _ _ _ h => h) (Or.inl ⟨by rfl, ?_⟩) ?_ ?_
   rotate_left
   ·intro w'
    go_simp
    with_reducible rfl
   rotate_left
   ·simp only [Act.put, lA, lB, lC, aU, aT]
    rfl
   refine last_ (i := 21) (N := none) #[true, true, true, true, true, true, true, true, true, true, true, true, true, true, true, true, true, true, true, true, true, true] rfl rfl (by kernel_rfl) (by decide) (fun K hK => ?_)
   obtain ⟨ce_, hcl_, hM_, hcc_, hfr_⟩ := Kd.N_elem HS2.out [] ((rdW l0_1 x2).f0) PI5.out QI5.out
   obtain ⟨ua_, uc_, rfl, _, _⟩ := Kd.FK_slice_open hM_
   have hp_ := (Kd.N_seg HS2.out ((rdW l0_1 x2).f0) PI5.out QI5.out (seg := [.slice Ae3 ((rdW l0_1 x2).f1).length ce3]) (j := 0) hcl_ hcc_ (show 1 ≤ 1 by decide) (x' := ((rdW l0_1 x2).f1)) (Kd.FK_slice_mk HC3.out (Kd.F_mono HF3.out (fun k_ hk_ => ⟨by (try simp only [In2, Up, In, Ex, Exb] at hk_ ⊢); omega, by have g_ := GN5.out; (try simp only [In2, Up, In, Ex, Exb] at hk_); omega⟩))) (fun _ hk => hk)).1
   (try simp only [show (Kd.slice 5 (Kd.int .u8)).sz = 1 from rfl, Nat.mul_one, Nat.add_zero] at hp_)
   have HP_ := aA.mk (show Kd.N (Kd.slice 5 (Kd.int .u8)) 37 (w4.setCell ⟨go5, ((rdW l0_1 x2).f0).toNat, none⟩ (.slice Ae3 ((rdW l0_1 x2).f1).length ce3)) w.heap.size (Exb a g g top) (.slice (some ⟨go5, 0, none⟩) xs2.length c2) (xs2.set ((rdW l0_1 x2).f0).toNat ((rdW l0_1 x2).f1)) from hp_)
   clear hp_ hfr_ hcc_ hcl_ hM_
   refine skip_ (w1 := ?_) (by rfl) rfl ?_ ?_
   rotate_left
   ·go_simp
    rfl
   refine hK.out _ _ ?_
   clear hK K
   refine done_ (by kernel_rfl) ?_
   obtain ⟨w6, hw_⟩ : ∃ z_, z_ = (w4.setCell ⟨go5, ((rdW l0_1 x2).f0).toNat, none⟩ (.slice Ae3 ((rdW l0_1 x2).f1).length ce3)) := ⟨_, rfl⟩
   (try rw [← hw_])
   have hs0_ := HP_.out
   clear HP_
   rw [← hw_] at hs0_
   obtain ⟨ys6, ey_⟩ : ∃ y_, y_ = xs2.set ((rdW l0_1 x2).f0).toNat ((rdW l0_1 x2).f1) := ⟨_, rfl⟩
   rw [← ey_] at hs0_
   have hle_ : ys6.length = (xs2).length := by rw [ey_, List.length_set]
   have HY6 := aA.mk ey_
   clear ey_
   rw [← hle_] at hs0_
   have hkp : Kept w4 w6 (fun k_ => k_ = go5) := (by rw [hw_]; exact Kept.setCell (Kept.refl w4 (fun k_ => k_ = go5)) (.inl rfl) (.slice Ae3 ((rdW l0_1 x2).f1).length ce3))
   have hbn_ : Below w.heap.size w w6 := (by rw [hw_]; exact aE HB.out (Nat.le_trans (by have o_ := HORD.out; omega) GB5.out))
   have hgo_ : go5 = gS ∧ a ≤ go5 := ⟨GN5.out, by have g_ := GO5.out; (try simp only [In2, Up, In, Ex, Exb] at g_); omega⟩
   have n_ := aA.mk (And.intro HORD.out hgo_)
   clear HORD
   have HORD := n_
   clear n_
   have n0_ := aA.mk (Kd.bF HF1.out hkp (fun k_ h1_ h2_ => by have o_ := HORD.out; have t_ := HT.out; (try simp only [In2, Up, In, Ex, Exb] at h1_ h2_); omega))
   have n1_ := aA.mk (Kd.N_kept HN1.out hkp (fun k_ h1_ h2_ => by have o_ := HORD.out; have t_ := HT.out; (try simp only [In2, Up, In, Ex, Exb] at h1_ h2_); omega))
   have n2_ := aA.mk (HKP.out.then_ hkp (fun k_ h_ => by have o_ := HORD.out; have t_ := HT.out; (try simp only [In2, Up, In, Ex, Exb] at h_ ⊢); omega))
   have n3_ := aA.mk (bG BKg.out hkp (fun h2_ => by have o_ := HORD.out; have t_ := HT.out; (try simp only [In2, Up, In, Ex, Exb] at h2_); omega))
   have n4_ := aA.mk (hbn_)
   have n5_ := aA.mk (Nat.le_trans HT.out hkp.1)
   have n6_ := aA.mk (hs0_)
   (try clear HF1)
   (try clear HN1)
   (try clear HKP)
   (try clear BKg)
   (try clear HB)
   (try clear HT)
   (try clear HS6)
   have HF1 := n0_
   have HN1 := n1_
   have HKP := n2_
   have BKg := n3_
   have HB := n4_
   have HT := n5_
   have HS6 := n6_
   clear n0_ n1_ n2_ n3_ n4_ n5_ n6_
   rw [← hle_] at BKg
   clear hle_ hs0_ hbn_ hkp hw_ hgo_
   have hzg_0_6 : w6.cell? ⟨g, 0, none⟩ = some (.slice (some ⟨go5, 0, none⟩) ys6.length c2) := (aD BKg.out 0).trans rfl
   have hyg_0_6 := aC BKg.out 0
   have hzg_1_6 : w6.cell? ⟨g, 1, none⟩ = some (.slice (some ad3) l0_1.length c0_1) := (aD BKg.out 1).trans rfl
   have hyg_1_6 := aC BKg.out 1
   have hzg_2_6 : w6.cell? ⟨g, 2, none⟩ = some (.int .i64 f1) := (aD BKg.out 2).trans rfl
   have hyg_2_6 := aC BKg.out 2
   have hzg_3_6 : w6.cell? ⟨g, 3, none⟩ = some (.bool b1) := (aD BKg.out 3).trans rfl
   have hyg_3_6 := aC BKg.out 3
   try go_wp2
   go_roundg k1
   case measure => omega
   case rel => exact ⟨i2 + 1, _, _, rfl, ⟨show _ = ((i2 + 1 : Nat) : Int) by have := HI2.out; have hm_ := hl1; have := HK2.out; first | (rw [w64 (by omega) (by omega)]; omega) | omega⟩, ⟨by have := HK2.out; omega⟩, ⟨Nat.le_trans (by have o_ := HORD.out; omega) HT.out⟩, ⟨by rw [show flushSecs l0_0 l0_1 (i2 + 1) = ys6 from (by rw [HY6.out, HX2.out]; exact flush_t HI2.out)]; exact HS6.out⟩, ⟨by intro k_ hk_; exact HGN.out k_ hk_⟩, HF1, HN1, HKP, BKg, HB⟩
 have hi0_ : i2 = l0_1.length := (by have := HK2.out; omega)
 have hd_ : decide (x2 < (l0_1.length : Int)) = false := decide_eq_false (by have := HI2.out; omega)
 have eall_ : xs2 = (flushSecs l0_0 l0_1 l0_1.length) := (by rw [HX2.out, hi0_])
 rw [eall_] at HS2 BKg HGN
 have hzg_0_6 : wr.cell? ⟨g, 0, none⟩ = some (.slice A2 ((flushSecs l0_0 l0_1 l0_1.length)).length c2) := (aD BKg.out 0).trans rfl
 have hyg_0_6 := aC BKg.out 0
 have hzg_1_6 : wr.cell? ⟨g, 1, none⟩ = some (.slice A0_1 l0_1.length c0_1) := (aD BKg.out 1).trans rfl
 have hyg_1_6 := aC BKg.out 1
 have hzg_2_6 : wr.cell? ⟨g, 2, none⟩ = some (.int .i64 f1) := (aD BKg.out 2).trans rfl
 have hyg_2_6 := aC BKg.out 2
 have hzg_3_6 : wr.cell? ⟨g, 3, none⟩ = some (.bool b1) := (aD BKg.out 3).trans rfl
 have hyg_3_6 := aC BKg.out 3
 go_wp2_with (first | ((with_reducible refine gate_dst (N := 43) rfl ?_); refine Kd.N_lit k50 _ 50 ?hg (N' := 43) ?hd (xs := ([] : List (S50))) (inner := []) (ok := fun k_ => top ≤ k_) (okp := fun _ => False) ?hr ?hp (fun _ hk => hk.elim) HT.out (Below.refl _ _) (Nat.le_refl _) (by simp) ?_; (case hd => rfl); (case hg => rfl); (case hr => first | (go_simp; done) | (go_simp; rfl)); (case hp => exact (Reps.none _ _)); intro v7 w7 ho_ hb hg_ hat_; obtain ⟨gn7, hat_, hle_⟩ := hat_; have hgn_ : ∀ k_, v7.ownBlock = some k_ → k_ = gn7 := fun k_ hk_ => (by rw [hat_] at hk_; injection hk_ with hk_; exact hk_.symm); have hlt_ := Kd.N_lt ho_ gn7 hat_; obtain ⟨ys7, ey_⟩ : ∃ y_ : List (S50), y_ = [] := ⟨_, rfl⟩; rw [← ey_] at ho_; have HY7 := aA.mk ey_; clear ey_; obtain ⟨A7, c7, ev_⟩ := Kd.N_slice ho_; subst ev_; obtain ⟨hi7, e2_⟩ : ∃ n_, n_ = w7.heap.size := ⟨_, rfl⟩; have ol_ : top ≤ hi7 := (by rw [e2_]; exact Nat.le_trans HT.out hb.size); rw [← e2_] at hlt_; have hle2_ : top ≤ gn7 := Nat.le_trans HT.out hle_; have ho2_ := Kd.N_lower ho_ (bH HB.out); have n0_ := aA.mk (Kd.aZ HF1.out hb); have n1_ := aA.mk (Kd.bL HN1.out hb); have n2_ := aA.mk (Kd.bL HS2.out hb); have n3_ := aA.mk (HKP.out.then_ (Kept.of_below hb (fun _ => False)) (fun _ h_ => h_.elim)); have n4_ := aA.mk (aW BKg.out hb); have n5_ := aA.mk (bD HB.out hb); have n6_ := aA.mk (And.intro HORD.out (And.intro ol_ (And.intro hle2_ hlt_))); have n7_ := aA.mk (Nat.le_of_eq e2_); have n8_ := aA.mk (ho2_); have n9_ := aA.mk (hgn_); (try clear HF1); (try clear HN1); (try clear HS2); (try clear HKP); (try clear BKg); (try clear HB); (try clear HORD); (try clear HT); (try clear HS7); (try clear HG7); have HF1 := n0_; have HN1 := n1_; have HS2 := n2_; have HKP := n3_; have BKg := n4_; have HB := n5_; have HORD := n6_; have HT := n7_; have HS7 := n8_; have HG7 := n9_; clear n0_ n1_ n2_ n3_ n4_ n5_ n6_ n7_ n8_ n9_; clear hb ho_ ho2_ hg_ hat_ hle_ hle2_ hlt_ hgn_ ol_ e2_; have hzg_0_7 : w7.cell? ⟨g, 0, none⟩ = some (.slice A2 ((flushSecs l0_0 l0_1 l0_1.length)).length c2) := (aD BKg.out 0).trans rfl; have hyg_0_7 := aC BKg.out 0; have hzg_1_7 : w7.cell? ⟨g, 1, none⟩ = some (.slice A0_1 l0_1.length c0_1) := (aD BKg.out 1).trans rfl; have hyg_1_7 := aC BKg.out 1; have hzg_2_7 : w7.cell? ⟨g, 2, none⟩ = some (.int .i64 f1) := (aD BKg.out 2).trans rfl; have hyg_2_7 := aC BKg.out 2; have hzg_3_7 : w7.cell? ⟨g, 3, none⟩ = some (.bool b1) := (aD BKg.out 3).trans rfl; have hyg_3_7 := aC BKg.out 3) | ((with_reducible refine gate_store (t := 23) (p := 45) rfl ?_); refine store_event (t := 23) (p := 45) (v := ?vo_w8) (w1 := (w7.setCell ⟨g, 1, none⟩ (.slice A7 ys7.length c7))) ?hg ?ho ?hn ?hr ?_; (case ho => rfl); (case hg => rfl); (case hn => rfl); (case hr => first | (go_simp; done) | (go_simp; rfl)); intro w8 hw_; have hkp : Kept w7 w8 (fun k_ => k_ = g) := (by rw [hw_]; exact Kept.setCell (Kept.refl w7 (fun k_ => k_ = g)) (.inl rfl) (.slice A7 ys7.length c7)); have hge_ : w.heap.size ≤ g := (by have o_ := HORD.out; (try unfold In at *); (try show _ ≠ _); omega); have hbn_ : Below w.heap.size w w8 := (by rw [hw_]; exact aE (HB.out) hge_); have hbk_ : w8.heap[g]? = some (.cells #[.slice A2 ((flushSecs l0_0 l0_1 l0_1.length)).length c2, .slice A7 ys7.length c7, .int .i64 f1, .bool b1] 25 (0, 0)) := (by rw [hw_]; exact bE (cs := #[.slice A2 ((flushSecs l0_0 l0_1 l0_1.length)).length c2, .slice A0_1 l0_1.length c0_1, .int .i64 f1, .bool b1]) (cs' := #[.slice A2 ((flushSecs l0_0 l0_1 l0_1.length)).length c2, .slice A7 ys7.length c7, .int .i64 f1, .bool b1]) (BKg.out) 1 _ rfl); have hsz_ : hi7 ≤ w8.heap.size := Nat.le_trans HT.out hkp.1; have n0_ := aA.mk (Kd.bF HF1.out hkp (fun k_ h1_ h2_ => by have o_ := HORD.out; have t_ := HT.out; (try simp only [In2, Up, In, Ex, Exb] at h1_ h2_); omega)); have n1_ := aA.mk (Kd.N_kept HN1.out hkp (fun k_ h1_ h2_ => by have o_ := HORD.out; have t_ := HT.out; (try simp only [In2, Up, In, Ex, Exb] at h1_ h2_); omega)); have n2_ := aA.mk (Kd.N_kept HS2.out hkp (fun k_ h1_ h2_ => by have o_ := HORD.out; have t_ := HT.out; (try simp only [In2, Up, In, Ex, Exb] at h1_ h2_); omega)); have n3_ := aA.mk (Kd.N_kept HS7.out hkp (fun k_ h1_ h2_ => by have o_ := HORD.out; have t_ := HT.out; (try simp only [In2, Up, In, Ex, Exb] at h1_ h2_); omega)); have n4_ := aA.mk (HKP.out.then_ hkp (fun k_ h_ => by have o_ := HORD.out; have t_ := HT.out; (try simp only [In2, Up, In, Ex, Exb] at h_ ⊢); omega)); have n5_ := aA.mk (hbn_); have n6_ := aA.mk (hbk_); have n7_ := aA.mk (hsz_); (try clear HF1); (try clear HN1); (try clear HS2); (try clear HS7); (try clear HKP); (try clear HB); (try clear BKg); (try clear HT); have HF1 := n0_; have HN1 := n1_; have HS2 := n2_; have HS7 := n3_; have HKP := n4_; have HB := n5_; have BKg := n6_; have HT := n7_; clear n0_ n1_ n2_ n3_ n4_ n5_ n6_ n7_; clear hw_ hkp hge_ hbn_ hbk_ hsz_; have hzg_0_8 : w8.cell? ⟨g, 0, none⟩ = some (.slice A2 ((flushSecs l0_0 l0_1 l0_1.length)).length c2) := (aD BKg.out 0).trans rfl; have hyg_0_8 := aC BKg.out 0; have hzg_1_8 : w8.cell? ⟨g, 1, none⟩ = some (.slice A7 ys7.length c7) := (aD BKg.out 1).trans rfl; have hyg_1_8 := aC BKg.out 1; have hzg_2_8 : w8.cell? ⟨g, 2, none⟩ = some (.int .i64 f1) := (aD BKg.out 2).trans rfl; have hyg_2_8 := aC BKg.out 2; have hzg_3_8 : w8.cell? ⟨g, 3, none⟩ = some (.bool b1) := (aD BKg.out 3).trans rfl; have hyg_3_8 := aC BKg.out 3))
 first | go_end0 | refine bodyPost_ret (fn := Try.f60) (results_none rfl _ _ _) rfl ?_
 exact ⟨rfl, by unfold FlPost; exact ⟨_, _, gn7, BKg.out, HG7.out, (by have o_ := HORD.out; have t_ := HT.out; omega), (fun k_ hk_ => HGN.out k_ hk_), Kd.bA HS2.out (fun k_ hk_ => by have o_ := HORD.out; have t_ := HT.out; (try simp only [In2, Up, In, Ex, Exb] at hk_ ⊢); omega), (by rw [← HY7.out]; exact Kd.bA HS7.out (fun k_ hk_ => by have o_ := HORD.out; have t_ := HT.out; (try simp only [In2, Up, In, Ex, Exb] at hk_ ⊢); omega)), HB.out, HKP.out⟩⟩
theorem spec_l2FlushS.calls (A0_0 : Option Addr) (c0_0 : Nat) (l0_0 : List (List Int)) (A0_1 : Option Addr) (c0_1 : Nat) (l0_1 : List (S50)) (a0_2 : Int) (a0_3 : Bool) (w wi : World) (g : Nat) (hB : Below w.heap.size w wi) (hbk : wi.heap[g]? = some (.cells #[.slice A0_0 l0_0.length c0_0, .slice A0_1 l0_1.length c0_1, .int .i64 a0_2, .bool a0_3] 25 (0, 0))) (a gS gC : Nat) (hwa : w.heap.size ≤ a ∧ 0 < a) (hag : a ≤ g) (hSt : gS < wi.heap.size ∧ g ≠ gS) (hCt : gC < wi.heap.size ∧ g ≠ gC) (hgC : ∀ k_, (Value.slice A0_1 l0_1.length c0_1).ownBlock = some k_ → k_ = gC) (hgS : ∀ k_, (Value.slice A0_0 l0_0.length c0_0).ownBlock = some k_ → k_ = gS) (hn0 : Kd.N (Kd.slice 5 (Kd.int .u8)) 37 wi w.heap.size (Ex a gC g) (.slice A0_0 l0_0.length c0_0) l0_0) (hn1 : Kd.N k50 50 wi w.heap.size (Ex a gS g) (.slice A0_1 l0_1.length c0_1) l0_1) (hl1 : l0_1.length ≤ 4194304) (hin : ∀ {x : Int} (i : Nat), x = (i : Int) → i < l0_1.length → 0 ≤ (rdW l0_1 x).f0 ∧ (rdW l0_1 x).f0 < (l0_0.length : Int)) :
  Calls Try.prog 60 #[.pointer (some ⟨g, 0, none⟩)] wi fun e w' => e = .returned (.tuple #[]) ∧ FlPost w wi w' a g gS (flushed l0_0 l0_1 a0_2 a0_3).1 (flushed l0_0 l0_1 a0_2 a0_3).2.1 (flushed l0_0 l0_1 a0_2 a0_3).2.2.1 (flushed l0_0 l0_1 a0_2 a0_3).2.2.2 := by
 unfold flushed
 cases a0_3 with
 | true => exact walk_l2Flush1 _ _ _ _ _ _ _ w wi g hB hbk a gS gC hwa hag hSt hCt hgC hgS hn0 hn1
 | false =>
  rw [if_neg (by decide)]
  obtain ⟨⟨f1, b1, o1⟩, hbu⟩ : ∃ z, burnF a0_2 false = z := ⟨_, rfl⟩
  rw [hbu]
  cases o1 with
  | true => exact walk_l2Flush3 _ _ _ _ _ _ _ w wi g hB hbk a gS gC hwa hag hSt hCt hgC hgS hn0 hn1 hl1 hin _ _ hbu
  | false => exact walk_l2Flush2 _ _ _ _ _ _ _ w wi g hB hbk a gS gC hwa hag hSt hCt hgC hgS hn0 hn1 _ _ hbu
end Go.Proofs.Ytilhcaofpfeioaa.Law

namespace Go.Proofs.Ytilhcaofpfeioaa.Law
open Go.RowKit Go.Proofs.Ytilhcaofpfeioaa.PFnFalls Go.Proofs.Ytilhcaofpfeioaa.Core Go.Proofs.YtilhcaofpfeioaaW.PrintWords Go.Proofs.YtilhcaofpfeioaaW.PrintLast Go.Proofs.YtilhcaofpfeioaaW.PrintMore Go.Proofs.Ytilhcaofpfeioaa.Pure
set_option linter.unusedSimpArgs false
set_option linter.unusedVariables false
def flOk (s : List (List Int)) (c : List (S50)) : Bool := decide (c.length ≤ 4194304) && allFrom (fun i => decide (0 ≤ (c.getD i z50).f0 ∧ (c.getD i z50).f0 < (s.length : Int))) c.length 0
def spec_l2Draw.l0 : Nat → Int → List (List Int) → List (S50) → Int → Bool → List Int → Int → Int → Option (List (List Int) × List (S50) × Int × Bool × Int × Int)
 | 0, _, _, _, _, _, _, _, _ => none
 | k + 1, i, s, c, f, d, x0, x1, x2 => if i > 0 then ((spec_l1Once.f x0 x1 x2 4).bind fun b => (if b.1 = true then (if flOk s c = true then spec_l2Draw.l0 k (wrap64 (i - 1)) (flushed s c f d).1 (flushed s c f d).2.1 (flushed s c f d).2.2.1 (flushed s c f d).2.2.2 x0 b.2.1 b.2.2 else none) else ((spec_l1Below.f x0 b.2.1 b.2.2 (s.length : Int)).bind fun n => ((spec_l1Below.f x0 n.2.1 n.2.2 4).bind fun q => ((spec_l1Bytes.f k x0 q.2.1 q.2.2 q.1).bind fun y => (spec_l2Draw.l0 k (wrap64 (i - 1)) s (wrote s c f d n.1 y.1).1 (wrote s c f d n.1 y.1).2.1 (wrote s c f d n.1 y.1).2.2 x0 y.2.1 y.2.2)))))) else some (s, c, f, d, x1, x2)
def spec_l2Draw.g (k : Nat) (x0 : List Int) (x1 : Int) (x2 : Int) : Option (List (List Int) × List (S50) × Int × Bool × Int × Int) := (spec_l1Below.f x0 x1 x2 6).bind fun n => ((spec_DevNew.f k (wrap64 (2 + n.1))).bind fun v => ((spec_l1Below.f x0 n.2.1 n.2.2 8).bind fun q => (spec_l2Draw.l0 k q.1 v.1 v.2.1 v.2.2.1 v.2.2.2 x0 q.2.1 q.2.2)))
theorem flOk_at {s : List (List Int)} {c : List (S50)} {x : Int} (h : flOk s c = true) (i : Nat) (hx : x = (i : Int)) (hi : i < c.length) : 0 ≤ (rdW c x).f0 ∧ (rdW c x).f0 < (s.length : Int) := by
 subst hx
 unfold flOk at h
 simp only [Bool.and_eq_true, decide_eq_true_eq] at h
 have h2 := allFrom_iff.1 h.2 i (Nat.zero_le i) hi
 simp only [decide_eq_true_eq] at h2
 unfold rdW
 rw [Int.toNat_natCast]
 exact h2
theorem flOk_len {s : List (List Int)} {c : List (S50)} (h : flOk s c = true) : c.length ≤ 4194304 := by
 unfold flOk at h
 simp only [Bool.and_eq_true, decide_eq_true_eq] at h
 exact h.1
set_option maxHeartbeats 8000000 in
set_option maxRecDepth 100000 in
theorem spec_l2Draw_calls (k : Nat) (g : Nat) (x0 : List Int) (x1 : Int) (x2 : Int) (r1 : List (List Int)) (r2 : List (S50)) (r3 : Int) (r4 : Bool) (r5 : Int) (r6 : Int) (w wi : World) (hI : IsS85 w wi g x0 x1 x2) (hB : Below w.heap.size w wi) (h : spec_l2Draw.g k x0 x1 x2 = some (r1, r2, r3, r4, r5, r6)) :
  Calls Try.prog 62 #[.pointer (some ⟨g, 0, none⟩)] wi fun e w' => ∃ v0_ v1_ : Value, e = .returned (.agg #[v0_, v1_, .int .i64 r3, .bool r4]) ∧ Kd.N (Kd.slice 5 (Kd.int .u8)) 37 w' wi.heap.size (fun k_ => (wi.heap.size ≤ k_) ∧ some k_ ≠ (v1_ : Value).ownBlock) v0_ r1 ∧ Kd.N k50 50 w' wi.heap.size (fun k_ => (wi.heap.size ≤ k_) ∧ some k_ ≠ (v0_ : Value).ownBlock) v1_ r2 ∧ IsS85 w w' g x0 r5 r6 ∧ Below w.heap.size w w' ∧ KeepBut wi w' g none := by
 have hu25 := Try.underlying25
 have hgl := IsS85.lt hI
 have hge := IsS85.ge hI
 obtain ⟨top, et_⟩ : ∃ n_, n_ = wi.heap.size := ⟨_, rfl⟩
 have HORD := aA.mk (show (w.heap.size ≤ g ∧ g + 1 ≤ top) ∧ top = wi.heap.size from ⟨⟨hge, by rw [et_]; exact hgl⟩, et_⟩)
 have HT := aA.mk (Nat.le_of_eq et_)
 have HI := aA.mk hI
 have HB := aA.mk hB
 have HKP := aA.mk (Kept.refl wi (fun k_ => k_ = g))
 unfold spec_l2Draw.g at h
 obtain ⟨⟨n1, y1, y2⟩, hA1, h⟩ := lF h
 obtain ⟨⟨s0, c0, f0, d0⟩, hA2, h⟩ := lF h
 obtain ⟨⟨q1, z1, z2⟩, hA3, h⟩ := lF h
 (try dsimp only at hA2 hA3 h)
 have A1 := aA.mk hA1
 have A2 := aA.mk hA2
 have A3 := aA.mk hA3
 have HH := aA.mk h
 have HTOP := aA.mk et_
 clear hA1 hA2 hA3 h hI hB hgl hge et_
 go_enter Try.func62, Try.ntmps62
 go_wp2_with (first | ((with_reducible refine gate_dst (N := 2) rfl ?_); refine box_event ?hg (N := 2) ?hd (cs := #[.slice none 0 0, .slice none 0 0, .int .i64 0, .bool false]) (t := 25) ?hr ?_; (case hd => rfl); (case hg => rfl); (case hr => first | (go_simp; done) | (go_simp; rfl)); intro gb1 hg_ w1 hbox hb; have hge_ : top ≤ gb1 := (by rw [hg_]; exact HT.out); have hlt_ : gb1 + 1 ≤ w1.heap.size := blk_lt hbox; have n0_ := aA.mk (IsS85.below HI.out hb); have n1_ := aA.mk (HKP.out.then_ (Kept.of_below hb (fun _ => False)) (fun _ h_ => h_.elim)); have n2_ := aA.mk (bD HB.out hb); have n3_ := aA.mk (hbox); have n4_ := aA.mk (And.intro HORD.out (And.intro hge_ (Nat.le_succ gb1))); have n5_ := aA.mk (hlt_); (try clear HI); (try clear HKP); (try clear HB); (try clear BK1); (try clear HORD); (try clear HT); have HI := n0_; have HKP := n1_; have HB := n2_; have BK1 := n3_; have HORD := n4_; have HT := n5_; clear n0_ n1_ n2_ n3_ n4_ n5_; clear hb hbox hg_ hge_ hlt_; have hzgb1_0_1 : w1.cell? ⟨gb1, 0, none⟩ = some (.slice none 0 0) := (aD BK1.out 0).trans rfl; have hygb1_0_1 := aC BK1.out 0; have hzgb1_1_1 : w1.cell? ⟨gb1, 1, none⟩ = some (.slice none 0 0) := (aD BK1.out 1).trans rfl; have hygb1_1_1 := aC BK1.out 1; have hzgb1_2_1 : w1.cell? ⟨gb1, 2, none⟩ = some (.int .i64 0) := (aD BK1.out 2).trans rfl; have hygb1_2_1 := aC BK1.out 2; have hzgb1_3_1 : w1.cell? ⟨gb1, 3, none⟩ = some (.bool false) := (aD BK1.out 3).trans rfl; have hygb1_3_1 := aC BK1.out 3) | ((with_reducible refine bJ (f := 66) rfl ?_); refine goesL_ (some 6) rfl rfl Try.func66 (by kernel_rfl) rfl #[.pointer (some ⟨g, 0, none⟩), .int .i64 6] rfl (by (try simp only [List.map_toArray, List.map_cons, List.map_nil]); first | done | rfl | (simp only [List.length_drop, List.length_take]; rfl)) ?_; (with_reducible refine (spec_l1Below.calls g x0 x1 x2 6 n1 y1 y2 w _ HI.out HB.out A1.out).mono ?_); rintro e_ w2 ⟨rfl, hi_, hbn_, hk_⟩; refine ⟨_, rfl, ?_⟩; have hkp := kept_keep hk_; have n0_ := aA.mk (HKP.out.then_ hkp (fun k_ h_ => by have o_ := HORD.out; have t_ := HT.out; (try simp only [In2, Up, In, Ex, Exb] at h_ ⊢); omega)); have n1_ := aA.mk (bG BK1.out hkp (fun h2_ => by have o_ := HORD.out; have t_ := HT.out; (try simp only [In2, Up, In, Ex, Exb] at h2_); omega)); have n2_ := aA.mk (hbn_); have n3_ := aA.mk (hi_); have n4_ := aA.mk (Nat.le_trans HT.out hkp.1); (try clear HKP); (try clear BK1); (try clear HB); (try clear HI); (try clear HT); have HKP := n0_; have BK1 := n1_; have HB := n2_; have HI := n3_; have HT := n4_; clear n0_ n1_ n2_ n3_ n4_; clear hi_ hbn_ hk_ hkp; have hzgb1_0_2 : w2.cell? ⟨gb1, 0, none⟩ = some (.slice none 0 0) := (aD BK1.out 0).trans rfl; have hygb1_0_2 := aC BK1.out 0; have hzgb1_1_2 : w2.cell? ⟨gb1, 1, none⟩ = some (.slice none 0 0) := (aD BK1.out 1).trans rfl; have hygb1_1_2 := aC BK1.out 1; have hzgb1_2_2 : w2.cell? ⟨gb1, 2, none⟩ = some (.int .i64 0) := (aD BK1.out 2).trans rfl; have hygb1_2_2 := aC BK1.out 2; have hzgb1_3_2 : w2.cell? ⟨gb1, 3, none⟩ = some (.bool false) := (aD BK1.out 3).trans rfl; have hygb1_3_2 := aC BK1.out 3) | ((with_reducible refine bJ (f := 12) rfl ?_); refine goesL_ (some 8) rfl rfl Try.func12 (by kernel_rfl) rfl #[.int .i64 ((wrap64 (2 + n1)))] rfl (by (try simp only [List.map_toArray, List.map_cons, List.map_nil]); first | done | rfl | (simp only [List.length_drop, List.length_take]; rfl)) ?_; (with_reducible refine (spec_DevNew.calls k ((wrap64 (2 + n1))) s0 c0 f0 d0 _ A2.out).mono ?_); rintro e_ w3 ⟨v0_, v1_, rfl, ho0, ho1, hb⟩; refine ⟨_, rfl, ?_⟩; obtain ⟨lo3, hi3, el_, eh_, ol_, oh_⟩ := Mem.times HT.out hb; (try rw [← el_] at ho0); obtain ⟨A3_0, c3_0, ev_, hc0_, hf0_, hs0_⟩ := Mem.new_S ho0 eh_; subst ev_; (try rw [← el_] at ho1); obtain ⟨A3_1, c3_1, ev_, hc1_, hf1_, hs1_⟩ := Mem.new_S ho1 eh_; subst ev_; have n0_ := aA.mk (IsS85.below HI.out hb); have n1_ := aA.mk (HKP.out.then_ (Kept.of_below hb (fun _ => False)) (fun _ h_ => h_.elim)); have n2_ := aA.mk (aW BK1.out hb); have n3_ := aA.mk (bD HB.out hb); have n4_ := aA.mk (hf0_); have n5_ := aA.mk (hc0_); have n6_ := aA.mk (hs0_); have n7_ := aA.mk (hf1_); have n8_ := aA.mk (hc1_); have n9_ := aA.mk (hs1_); have n10_ := aA.mk (And.intro HORD.out (And.intro ol_ oh_)); have n11_ := aA.mk (Nat.le_of_eq eh_); (try clear HI); (try clear HKP); (try clear BK1); (try clear HB); (try clear HF3_0); (try clear HC3_0); (try clear HS3_0); (try clear HF3_1); (try clear HC3_1); (try clear HS3_1); (try clear HORD); (try clear HT); have HI := n0_; have HKP := n1_; have BK1 := n2_; have HB := n3_; have HF3_0 := n4_; have HC3_0 := n5_; have HS3_0 := n6_; have HF3_1 := n7_; have HC3_1 := n8_; have HS3_1 := n9_; have HORD := n10_; have HT := n11_; clear n0_ n1_ n2_ n3_ n4_ n5_ n6_ n7_ n8_ n9_ n10_ n11_; clear ol_ oh_ el_ eh_ ho0 hf0_ hc0_ hs0_ ho1 hf1_ hc1_ hs1_; (try clear hb); have hzgb1_0_3 : w3.cell? ⟨gb1, 0, none⟩ = some (.slice none 0 0) := (aD BK1.out 0).trans rfl; have hygb1_0_3 := aC BK1.out 0; have hzgb1_1_3 : w3.cell? ⟨gb1, 1, none⟩ = some (.slice none 0 0) := (aD BK1.out 1).trans rfl; have hygb1_1_3 := aC BK1.out 1; have hzgb1_2_3 : w3.cell? ⟨gb1, 2, none⟩ = some (.int .i64 0) := (aD BK1.out 2).trans rfl; have hygb1_2_3 := aC BK1.out 2; have hzgb1_3_3 : w3.cell? ⟨gb1, 3, none⟩ = some (.bool false) := (aD BK1.out 3).trans rfl; have hygb1_3_3 := aC BK1.out 3) | ((with_reducible refine gate_dst (N := 3) rfl ?_); refine box_event ?hg (N := 3) ?hd (cs := #[.slice none 0 0, .slice none 0 0, .int .i64 0, .bool false]) (t := 25) ?hr ?_; (case hd => rfl); (case hg => rfl); (case hr => first | (go_simp; done) | (go_simp; rfl)); intro gb4 hg_ w4 hbox hb; have hge_ : hi3 ≤ gb4 := (by rw [hg_]; exact HT.out); have hlt_ : gb4 + 1 ≤ w4.heap.size := blk_lt hbox; have n0_ := aA.mk (Kd.aZ HF3_0.out hb); have n1_ := aA.mk (Kd.S_below HS3_0.out hb); have n2_ := aA.mk (Kd.aZ HF3_1.out hb); have n3_ := aA.mk (Kd.S_below HS3_1.out hb); have n4_ := aA.mk (IsS85.below HI.out hb); have n5_ := aA.mk (HKP.out.then_ (Kept.of_below hb (fun _ => False)) (fun _ h_ => h_.elim)); have n6_ := aA.mk (aW BK1.out hb); have n7_ := aA.mk (bD HB.out hb); have n8_ := aA.mk (hbox); have n9_ := aA.mk (And.intro HORD.out (And.intro hge_ (Nat.le_succ gb4))); have n10_ := aA.mk (hlt_); (try clear HF3_0); (try clear HS3_0); (try clear HF3_1); (try clear HS3_1); (try clear HI); (try clear HKP); (try clear BK1); (try clear HB); (try clear BK4); (try clear HORD); (try clear HT); have HF3_0 := n0_; have HS3_0 := n1_; have HF3_1 := n2_; have HS3_1 := n3_; have HI := n4_; have HKP := n5_; have BK1 := n6_; have HB := n7_; have BK4 := n8_; have HORD := n9_; have HT := n10_; clear n0_ n1_ n2_ n3_ n4_ n5_ n6_ n7_ n8_ n9_ n10_; clear hb hbox hg_ hge_ hlt_; have hzgb1_0_4 : w4.cell? ⟨gb1, 0, none⟩ = some (.slice none 0 0) := (aD BK1.out 0).trans rfl; have hygb1_0_4 := aC BK1.out 0; have hzgb1_1_4 : w4.cell? ⟨gb1, 1, none⟩ = some (.slice none 0 0) := (aD BK1.out 1).trans rfl; have hygb1_1_4 := aC BK1.out 1; have hzgb1_2_4 : w4.cell? ⟨gb1, 2, none⟩ = some (.int .i64 0) := (aD BK1.out 2).trans rfl; have hygb1_2_4 := aC BK1.out 2; have hzgb1_3_4 : w4.cell? ⟨gb1, 3, none⟩ = some (.bool false) := (aD BK1.out 3).trans rfl; have hygb1_3_4 := aC BK1.out 3; have hzgb4_0_4 : w4.cell? ⟨gb4, 0, none⟩ = some (.slice none 0 0) := (aD BK4.out 0).trans rfl; have hygb4_0_4 := aC BK4.out 0; have hzgb4_1_4 : w4.cell? ⟨gb4, 1, none⟩ = some (.slice none 0 0) := (aD BK4.out 1).trans rfl; have hygb4_1_4 := aC BK4.out 1; have hzgb4_2_4 : w4.cell? ⟨gb4, 2, none⟩ = some (.int .i64 0) := (aD BK4.out 2).trans rfl; have hygb4_2_4 := aC BK4.out 2; have hzgb4_3_4 : w4.cell? ⟨gb4, 3, none⟩ = some (.bool false) := (aD BK4.out 3).trans rfl; have hygb4_3_4 := aC BK4.out 3) | ((with_reducible refine gate_store (t := 25) (p := 3) rfl ?_); refine store_event (t := 25) (p := 3) (v := ?vo_w5) (w1 := ((((w4.setCell ⟨gb4, 0, none⟩ (.slice A3_0 s0.length c3_0)).setCell ⟨gb4, 1, none⟩ (.slice A3_1 c0.length c3_1)).setCell ⟨gb4, 2, none⟩ (.int .i64 f0)).setCell ⟨gb4, 3, none⟩ (.bool d0))) ?hg ?ho ?hn ?hr ?_; (case ho => rfl); (case hg => rfl); (case hn => rfl); (case hr => first | (go_simp; done) | (go_simp; rfl)); intro w5 hw_; have hkp : Kept w4 w5 (fun k_ => k_ = gb4) := (by rw [hw_]; exact Kept.setCell (Kept.setCell (Kept.setCell (Kept.setCell (Kept.refl w4 (fun k_ => k_ = gb4)) (.inl rfl) (.slice A3_0 s0.length c3_0)) (.inl rfl) (.slice A3_1 c0.length c3_1)) (.inl rfl) (.int .i64 f0)) (.inl rfl) (.bool d0)); have hge_ : w.heap.size ≤ gb4 := (by have o_ := HORD.out; (try unfold In at *); (try show _ ≠ _); omega); have hbn_ : Below w.heap.size w w5 := (by rw [hw_]; exact aE (aE (aE (aE (HB.out) hge_) hge_) hge_) hge_); have hbk_ : w5.heap[gb4]? = some (.cells #[.slice A3_0 s0.length c3_0, .slice A3_1 c0.length c3_1, .int .i64 f0, .bool d0] 25 (0, 0)) := (by rw [hw_]; exact bE (cs := #[.slice A3_0 s0.length c3_0, .slice A3_1 c0.length c3_1, .int .i64 f0, .bool false]) (cs' := #[.slice A3_0 s0.length c3_0, .slice A3_1 c0.length c3_1, .int .i64 f0, .bool d0]) (bE (cs := #[.slice A3_0 s0.length c3_0, .slice A3_1 c0.length c3_1, .int .i64 0, .bool false]) (cs' := #[.slice A3_0 s0.length c3_0, .slice A3_1 c0.length c3_1, .int .i64 f0, .bool false]) (bE (cs := #[.slice A3_0 s0.length c3_0, .slice none 0 0, .int .i64 0, .bool false]) (cs' := #[.slice A3_0 s0.length c3_0, .slice A3_1 c0.length c3_1, .int .i64 0, .bool false]) (bE (cs := #[.slice none 0 0, .slice none 0 0, .int .i64 0, .bool false]) (cs' := #[.slice A3_0 s0.length c3_0, .slice none 0 0, .int .i64 0, .bool false]) (BK4.out) 0 _ rfl) 1 _ rfl) 2 _ rfl) 3 _ rfl); have hsz_ : (gb4 + 1) ≤ w5.heap.size := Nat.le_trans HT.out hkp.1; have n0_ := aA.mk (Kd.bF HF3_0.out hkp (fun k_ h1_ h2_ => by have o_ := HORD.out; have t_ := HT.out; (try simp only [In2, Up, In, Ex, Exb] at h1_ h2_); omega)); have n1_ := aA.mk (Kd.S_kept HS3_0.out hkp (fun k_ h1_ h2_ => by have o_ := HORD.out; have t_ := HT.out; (try simp only [In2, Up, In, Ex, Exb] at h1_ h2_); omega)); have n2_ := aA.mk (Kd.bF HF3_1.out hkp (fun k_ h1_ h2_ => by have o_ := HORD.out; have t_ := HT.out; (try simp only [In2, Up, In, Ex, Exb] at h1_ h2_); omega)); have n3_ := aA.mk (Kd.S_kept HS3_1.out hkp (fun k_ h1_ h2_ => by have o_ := HORD.out; have t_ := HT.out; (try simp only [In2, Up, In, Ex, Exb] at h1_ h2_); omega)); have n4_ := aA.mk (IsS85.kept HI.out hkp (fun h2_ => by have o_ := HORD.out; have t_ := HT.out; (try simp only [In2, Up, In, Ex, Exb] at h2_); omega)); have n5_ := aA.mk (HKP.out.then_ hkp (fun k_ h_ => by have o_ := HORD.out; have t_ := HT.out; (try simp only [In2, Up, In, Ex, Exb] at h_ ⊢); omega)); have n6_ := aA.mk (bG BK1.out hkp (fun h2_ => by have o_ := HORD.out; have t_ := HT.out; (try simp only [In2, Up, In, Ex, Exb] at h2_); omega)); have n7_ := aA.mk (hbn_); have n8_ := aA.mk (hbk_); have n9_ := aA.mk (hsz_); (try clear HF3_0); (try clear HS3_0); (try clear HF3_1); (try clear HS3_1); (try clear HI); (try clear HKP); (try clear BK1); (try clear HB); (try clear BK4); (try clear HT); have HF3_0 := n0_; have HS3_0 := n1_; have HF3_1 := n2_; have HS3_1 := n3_; have HI := n4_; have HKP := n5_; have BK1 := n6_; have HB := n7_; have BK4 := n8_; have HT := n9_; clear n0_ n1_ n2_ n3_ n4_ n5_ n6_ n7_ n8_ n9_; clear hw_ hkp hge_ hbn_ hbk_ hsz_; have hzgb1_0_5 : w5.cell? ⟨gb1, 0, none⟩ = some (.slice none 0 0) := (aD BK1.out 0).trans rfl; have hygb1_0_5 := aC BK1.out 0; have hzgb1_1_5 : w5.cell? ⟨gb1, 1, none⟩ = some (.slice none 0 0) := (aD BK1.out 1).trans rfl; have hygb1_1_5 := aC BK1.out 1; have hzgb1_2_5 : w5.cell? ⟨gb1, 2, none⟩ = some (.int .i64 0) := (aD BK1.out 2).trans rfl; have hygb1_2_5 := aC BK1.out 2; have hzgb1_3_5 : w5.cell? ⟨gb1, 3, none⟩ = some (.bool false) := (aD BK1.out 3).trans rfl; have hygb1_3_5 := aC BK1.out 3; have hzgb4_0_5 : w5.cell? ⟨gb4, 0, none⟩ = some (.slice A3_0 s0.length c3_0) := (aD BK4.out 0).trans rfl; have hygb4_0_5 := aC BK4.out 0; have hzgb4_1_5 : w5.cell? ⟨gb4, 1, none⟩ = some (.slice A3_1 c0.length c3_1) := (aD BK4.out 1).trans rfl; have hygb4_1_5 := aC BK4.out 1; have hzgb4_2_5 : w5.cell? ⟨gb4, 2, none⟩ = some (.int .i64 f0) := (aD BK4.out 2).trans rfl; have hygb4_2_5 := aC BK4.out 2; have hzgb4_3_5 : w5.cell? ⟨gb4, 3, none⟩ = some (.bool d0) := (aD BK4.out 3).trans rfl; have hygb4_3_5 := aC BK4.out 3) | ((with_reducible refine bJ (f := 66) rfl ?_); refine goesL_ (some 10) rfl rfl Try.func66 (by kernel_rfl) rfl #[.pointer (some ⟨g, 0, none⟩), .int .i64 8] rfl (by (try simp only [List.map_toArray, List.map_cons, List.map_nil]); first | done | rfl | (simp only [List.length_drop, List.length_take]; rfl)) ?_; (with_reducible refine (spec_l1Below.calls g x0 y1 y2 8 q1 z1 z2 w _ HI.out HB.out A3.out).mono ?_); rintro e_ w6 ⟨rfl, hi_, hbn_, hk_⟩; refine ⟨_, rfl, ?_⟩; have hkp := kept_keep hk_; have n0_ := aA.mk (Kd.bF HF3_0.out hkp (fun k_ h1_ h2_ => by have o_ := HORD.out; have t_ := HT.out; (try simp only [In2, Up, In, Ex, Exb] at h1_ h2_); omega)); have n1_ := aA.mk (Kd.S_kept HS3_0.out hkp (fun k_ h1_ h2_ => by have o_ := HORD.out; have t_ := HT.out; (try simp only [In2, Up, In, Ex, Exb] at h1_ h2_); omega)); have n2_ := aA.mk (Kd.bF HF3_1.out hkp (fun k_ h1_ h2_ => by have o_ := HORD.out; have t_ := HT.out; (try simp only [In2, Up, In, Ex, Exb] at h1_ h2_); omega)); have n3_ := aA.mk (Kd.S_kept HS3_1.out hkp (fun k_ h1_ h2_ => by have o_ := HORD.out; have t_ := HT.out; (try simp only [In2, Up, In, Ex, Exb] at h1_ h2_); omega)); have n4_ := aA.mk (HKP.out.then_ hkp (fun k_ h_ => by have o_ := HORD.out; have t_ := HT.out; (try simp only [In2, Up, In, Ex, Exb] at h_ ⊢); omega)); have n5_ := aA.mk (bG BK1.out hkp (fun h2_ => by have o_ := HORD.out; have t_ := HT.out; (try simp only [In2, Up, In, Ex, Exb] at h2_); omega)); have n6_ := aA.mk (bG BK4.out hkp (fun h2_ => by have o_ := HORD.out; have t_ := HT.out; (try simp only [In2, Up, In, Ex, Exb] at h2_); omega)); have n7_ := aA.mk (hbn_); have n8_ := aA.mk (hi_); have n9_ := aA.mk (Nat.le_trans HT.out hkp.1); (try clear HF3_0); (try clear HS3_0); (try clear HF3_1); (try clear HS3_1); (try clear HKP); (try clear BK1); (try clear BK4); (try clear HB); (try clear HI); (try clear HT); have HF3_0 := n0_; have HS3_0 := n1_; have HF3_1 := n2_; have HS3_1 := n3_; have HKP := n4_; have BK1 := n5_; have BK4 := n6_; have HB := n7_; have HI := n8_; have HT := n9_; clear n0_ n1_ n2_ n3_ n4_ n5_ n6_ n7_ n8_ n9_; clear hi_ hbn_ hk_ hkp; have hzgb1_0_6 : w6.cell? ⟨gb1, 0, none⟩ = some (.slice none 0 0) := (aD BK1.out 0).trans rfl; have hygb1_0_6 := aC BK1.out 0; have hzgb1_1_6 : w6.cell? ⟨gb1, 1, none⟩ = some (.slice none 0 0) := (aD BK1.out 1).trans rfl; have hygb1_1_6 := aC BK1.out 1; have hzgb1_2_6 : w6.cell? ⟨gb1, 2, none⟩ = some (.int .i64 0) := (aD BK1.out 2).trans rfl; have hygb1_2_6 := aC BK1.out 2; have hzgb1_3_6 : w6.cell? ⟨gb1, 3, none⟩ = some (.bool false) := (aD BK1.out 3).trans rfl; have hygb1_3_6 := aC BK1.out 3; have hzgb4_0_6 : w6.cell? ⟨gb4, 0, none⟩ = some (.slice A3_0 s0.length c3_0) := (aD BK4.out 0).trans rfl; have hygb4_0_6 := aC BK4.out 0; have hzgb4_1_6 : w6.cell? ⟨gb4, 1, none⟩ = some (.slice A3_1 c0.length c3_1) := (aD BK4.out 1).trans rfl; have hygb4_1_6 := aC BK4.out 1; have hzgb4_2_6 : w6.cell? ⟨gb4, 2, none⟩ = some (.int .i64 f0) := (aD BK4.out 2).trans rfl; have hygb4_2_6 := aC BK4.out 2; have hzgb4_3_6 : w6.cell? ⟨gb4, 3, none⟩ = some (.bool d0) := (aD BK4.out 3).trans rfl; have hygb4_3_6 := aC BK4.out 3))
 obtain ⟨gS_, hSl_, hSe_, hS4_⟩ := own_num (.slice A3_0 s0.length c3_0) w6.heap.size (by have o_ := HORD.out; have t_ := HT.out; omega) (Kd.S_lt HS3_0.out)
 obtain ⟨gC_, hCl_, hCe_, hC4_⟩ := own_num (.slice A3_1 c0.length c3_1) w6.heap.size (by have o_ := HORD.out; have t_ := HT.out; omega) (Kd.S_lt HS3_1.out)
 have hn0_ := Kd.bA (ok' := Ex lo3 gC_ gb4) (Kd.R_N (Kd.S_R (Kd.S_apart' (Kd.S_lower HS3_0.out (by have o_ := HORD.out; omega) : Kd.S (Kd.slice 5 (Kd.int .u8)) 37 w6 w.heap.size (In lo3 hi3) (.slice A3_0 s0.length c3_0) s0) (Kd.S_typed HS3_1.out) (by decide)))) (fun k_ hk_ => ⟨hk_.1.1, ex_of hC4_ hCe_ hk_.2 (by have h1_ := hk_.1.1; have o_ := HORD.out; omega), by have h1_ := hk_.1.2; have o_ := HORD.out; omega⟩)
 have hn1_ := Kd.bA (ok' := Ex lo3 gS_ gb4) (Kd.R_N (Kd.S_R (Kd.S_apart' (Kd.S_lower HS3_1.out (by have o_ := HORD.out; omega) : Kd.S k50 50 w6 w.heap.size (In lo3 hi3) (.slice A3_1 c0.length c3_1) c0) (Kd.S_typed HS3_0.out) (by decide)))) (fun k_ hk_ => ⟨hk_.1.1, ex_of hS4_ hSe_ hk_.2 (by have h1_ := hk_.1.1; have o_ := HORD.out; omega), by have h1_ := hk_.1.2; have o_ := HORD.out; omega⟩)
 have hgS_ := ex_of hS4_ hSe_ (Kd.S_ne HS3_0.out BK4.out (by decide)) (by have o_ := HORD.out; have t_ := HT.out; omega)
 have hgC_ := ex_of hC4_ hCe_ (Kd.S_ne HS3_1.out BK4.out (by decide)) (by have o_ := HORD.out; have t_ := HT.out; omega)
 go_loopg [4] k (fun kq v4 w' => ∃ (i : Int) (s : List (List Int)) (c : List (S50)) (f : Int) (d : Bool) (p1 p2 : Int) (u0 u1 : Value) (gS gC : Nat), v4 = .int .i64 i ∧ aA (spec_l2Draw.l0 kq i s c f d x0 p1 p2 = some (r1, r2, r3, r4, r5, r6)) ∧ aA ((gb4 + 1) ≤ w'.heap.size) ∧ aA ((gS < w'.heap.size ∧ gb4 ≠ gS) ∧ gC < w'.heap.size ∧ gb4 ≠ gC) ∧ aA (∀ k_, u0.ownBlock = some k_ → k_ = gS) ∧ aA (∀ k_, u1.ownBlock = some k_ → k_ = gC) ∧ aA (Kd.N (Kd.slice 5 (Kd.int .u8)) 37 w' w.heap.size (Ex lo3 gC gb4) u0 s) ∧ aA (Kd.N k50 50 w' w.heap.size (Ex lo3 gS gb4) u1 c) ∧ aA (IsS85 w w' g x0 p1 p2) ∧ aA (w'.heap[gb1]? = some (.cells #[.slice none 0 0, .slice none 0 0, .int .i64 0, .bool false] 25 (0, 0))) ∧ aA (w'.heap[gb4]? = some (.cells #[u0, u1, .int .i64 f, .bool d] 25 (0, 0))) ∧ aA (Below w.heap.size w w') ∧ aA (Kept wi w' (fun k_ => k_ = g)) ∧ aA (kq ≤ k))
 case atStart => exact ⟨q1, s0, c0, f0, d0, z1, z2, _, _, gS_, gC_, rfl, HH, HT, ⟨⟨hSl_, hgS_⟩, hCl_, hgC_⟩, ⟨hSe_⟩, ⟨hCe_⟩, ⟨hn0_⟩, ⟨hn1_⟩, HI, BK1, BK4, HB, HKP, ⟨Nat.le_refl _⟩⟩
 clear HH HT HI HB HKP BK1 BK4 hSl_ hSe_ hS4_ hCl_ hCe_ hC4_ hn0_ hn1_ hgS_ hgC_ HS3_0 HF3_0 HS3_1 HF3_1
 obtain ⟨i, s, c, f, d, p1, p2, u0, u1, gS, gC, rfl, HH, HT, HGG, HGS, HGC, HN0, HN1, HI, BK1, BK4, HB, HKP, HKK⟩ := hrel
 obtain ⟨A0, c0_0, ev_⟩ := Kd.N_slice HN0.out
 subst ev_
 obtain ⟨A1_, c0_1, ev_⟩ := Kd.N_slice HN1.out
 subst ev_
 obtain ⟨top2, e2_⟩ : ∃ n_, n_ = wr.heap.size := ⟨_, rfl⟩
 have n0_ := aA.mk (show _ ∧ (gb4 + 1) ≤ top2 ∧ (gS < top2 ∧ gb4 ≠ gS) ∧ gC < top2 ∧ gb4 ≠ gC from ⟨HORD.out, by rw [e2_]; exact HT.out, by rw [e2_]; exact HGG.out.1, by rw [e2_]; exact HGG.out.2⟩)
 have n1_ := aA.mk (Nat.le_of_eq e2_)
 clear HORD HT HGG
 have HORD := n0_
 have HT := n1_
 clear n0_ n1_ e2_
 rcases gk with _ | k1
 ·exact absurd HH.out (by simp [spec_l2Draw.l0])
 have h := HH.out
 simp only [spec_l2Draw.l0] at h
 by_cases hi : i > 0
 rotate_left
 ·rw [if_neg hi] at h
  simp only [Option.some.injEq, Prod.mk.injEq] at h
  obtain ⟨rfl, rfl, rfl, rfl, rfl, rfl⟩ := h
  have hd_ : decide (0 < i) = false := decide_eq_false hi
  clear hi HH
  have hzgb1_0_6 : wr.cell? ⟨gb1, 0, none⟩ = some (.slice none 0 0) := (aD BK1.out 0).trans rfl
  have hygb1_0_6 := aC BK1.out 0
  have hzgb1_1_6 : wr.cell? ⟨gb1, 1, none⟩ = some (.slice none 0 0) := (aD BK1.out 1).trans rfl
  have hygb1_1_6 := aC BK1.out 1
  have hzgb1_2_6 : wr.cell? ⟨gb1, 2, none⟩ = some (.int .i64 0) := (aD BK1.out 2).trans rfl
  have hygb1_2_6 := aC BK1.out 2
  have hzgb1_3_6 : wr.cell? ⟨gb1, 3, none⟩ = some (.bool false) := (aD BK1.out 3).trans rfl
  have hygb1_3_6 := aC BK1.out 3
  have hzgb4_0_6 : wr.cell? ⟨gb4, 0, none⟩ = some (.slice A0 s.length c0_0) := (aD BK4.out 0).trans rfl
  have hygb4_0_6 := aC BK4.out 0
  have hzgb4_1_6 : wr.cell? ⟨gb4, 1, none⟩ = some (.slice A1_ c.length c0_1) := (aD BK4.out 1).trans rfl
  have hygb4_1_6 := aC BK4.out 1
  have hzgb4_2_6 : wr.cell? ⟨gb4, 2, none⟩ = some (.int .i64 f) := (aD BK4.out 2).trans rfl
  have hygb4_2_6 := aC BK4.out 2
  have hzgb4_3_6 : wr.cell? ⟨gb4, 3, none⟩ = some (.bool d) := (aD BK4.out 3).trans rfl
  have hygb4_3_6 := aC BK4.out 3
  go_wp2_with (first | ((with_reducible refine gate_store (t := 25) (p := 2) rfl ?_); refine store_event (t := 25) (p := 2) (v := ?vo_w7) (w1 := ((((wr.setCell ⟨gb1, 0, none⟩ (.slice A0 s.length c0_0)).setCell ⟨gb1, 1, none⟩ (.slice A1_ c.length c0_1)).setCell ⟨gb1, 2, none⟩ (.int .i64 f)).setCell ⟨gb1, 3, none⟩ (.bool d))) ?hg ?ho ?hn ?hr ?_; (case ho => rfl); (case hg => rfl); (case hn => rfl); (case hr => first | (go_simp; done) | (go_simp; rfl)); intro w7 hw_; have hkp : Kept wr w7 (fun k_ => k_ = gb1) := (by rw [hw_]; exact Kept.setCell (Kept.setCell (Kept.setCell (Kept.setCell (Kept.refl wr (fun k_ => k_ = gb1)) (.inl rfl) (.slice A0 s.length c0_0)) (.inl rfl) (.slice A1_ c.length c0_1)) (.inl rfl) (.int .i64 f)) (.inl rfl) (.bool d)); have hge_ : w.heap.size ≤ gb1 := (by have o_ := HORD.out; (try unfold In at *); (try show _ ≠ _); omega); have hbn_ : Below w.heap.size w w7 := (by rw [hw_]; exact aE (aE (aE (aE (HB.out) hge_) hge_) hge_) hge_); have hbk_ : w7.heap[gb1]? = some (.cells #[.slice A0 s.length c0_0, .slice A1_ c.length c0_1, .int .i64 f, .bool d] 25 (0, 0)) := (by rw [hw_]; exact bE (cs := #[.slice A0 s.length c0_0, .slice A1_ c.length c0_1, .int .i64 f, .bool false]) (cs' := #[.slice A0 s.length c0_0, .slice A1_ c.length c0_1, .int .i64 f, .bool d]) (bE (cs := #[.slice A0 s.length c0_0, .slice A1_ c.length c0_1, .int .i64 0, .bool false]) (cs' := #[.slice A0 s.length c0_0, .slice A1_ c.length c0_1, .int .i64 f, .bool false]) (bE (cs := #[.slice A0 s.length c0_0, .slice none 0 0, .int .i64 0, .bool false]) (cs' := #[.slice A0 s.length c0_0, .slice A1_ c.length c0_1, .int .i64 0, .bool false]) (bE (cs := #[.slice none 0 0, .slice none 0 0, .int .i64 0, .bool false]) (cs' := #[.slice A0 s.length c0_0, .slice none 0 0, .int .i64 0, .bool false]) (BK1.out) 0 _ rfl) 1 _ rfl) 2 _ rfl) 3 _ rfl); have hsz_ : top2 ≤ w7.heap.size := Nat.le_trans HT.out hkp.1; have n0_ := aA.mk (Kd.N_kept HN0.out hkp (fun k_ h1_ h2_ => by have o_ := HORD.out; have t_ := HT.out; (try simp only [In2, Up, In, Ex, Exb] at h1_ h2_); omega)); have n1_ := aA.mk (Kd.N_kept HN1.out hkp (fun k_ h1_ h2_ => by have o_ := HORD.out; have t_ := HT.out; (try simp only [In2, Up, In, Ex, Exb] at h1_ h2_); omega)); have n2_ := aA.mk (IsS85.kept HI.out hkp (fun h2_ => by have o_ := HORD.out; have t_ := HT.out; (try simp only [In2, Up, In, Ex, Exb] at h2_); omega)); have n3_ := aA.mk (HKP.out.then_ hkp (fun k_ h_ => by have o_ := HORD.out; have t_ := HT.out; (try simp only [In2, Up, In, Ex, Exb] at h_ ⊢); omega)); have n4_ := aA.mk (bG BK4.out hkp (fun h2_ => by have o_ := HORD.out; have t_ := HT.out; (try simp only [In2, Up, In, Ex, Exb] at h2_); omega)); have n5_ := aA.mk (hbn_); have n6_ := aA.mk (hbk_); have n7_ := aA.mk (hsz_); (try clear HN0); (try clear HN1); (try clear HI); (try clear HKP); (try clear BK4); (try clear HB); (try clear BK1); (try clear HT); have HN0 := n0_; have HN1 := n1_; have HI := n2_; have HKP := n3_; have BK4 := n4_; have HB := n5_; have BK1 := n6_; have HT := n7_; clear n0_ n1_ n2_ n3_ n4_ n5_ n6_ n7_; clear hw_ hkp hge_ hbn_ hbk_ hsz_; have hzgb1_0_7 : w7.cell? ⟨gb1, 0, none⟩ = some (.slice A0 s.length c0_0) := (aD BK1.out 0).trans rfl; have hygb1_0_7 := aC BK1.out 0; have hzgb1_1_7 : w7.cell? ⟨gb1, 1, none⟩ = some (.slice A1_ c.length c0_1) := (aD BK1.out 1).trans rfl; have hygb1_1_7 := aC BK1.out 1; have hzgb1_2_7 : w7.cell? ⟨gb1, 2, none⟩ = some (.int .i64 f) := (aD BK1.out 2).trans rfl; have hygb1_2_7 := aC BK1.out 2; have hzgb1_3_7 : w7.cell? ⟨gb1, 3, none⟩ = some (.bool d) := (aD BK1.out 3).trans rfl; have hygb1_3_7 := aC BK1.out 3; have hzgb4_0_7 : w7.cell? ⟨gb4, 0, none⟩ = some (.slice A0 s.length c0_0) := (aD BK4.out 0).trans rfl; have hygb4_0_7 := aC BK4.out 0; have hzgb4_1_7 : w7.cell? ⟨gb4, 1, none⟩ = some (.slice A1_ c.length c0_1) := (aD BK4.out 1).trans rfl; have hygb4_1_7 := aC BK4.out 1; have hzgb4_2_7 : w7.cell? ⟨gb4, 2, none⟩ = some (.int .i64 f) := (aD BK4.out 2).trans rfl; have hygb4_2_7 := aC BK4.out 2; have hzgb4_3_7 : w7.cell? ⟨gb4, 3, none⟩ = some (.bool d) := (aD BK4.out 3).trans rfl; have hygb4_3_7 := aC BK4.out 3))
  refine bodyPost_ret (fn := Try.f62) (P := Try.prog) (results_cell_row rfl _ _ gb1 25 #[.slice A0 s.length c0_0, .slice A1_ c.length c0_1, .int .i64 f, .bool d] (0, 0) _ rfl BK1.out Try.underlying25 rfl (by kernel_rfl)) rfl ?_
  exact ⟨_, _, rfl, Kd.bA (N_raise HN0.out (fun k_ he_ => by have h1_ := HN0.out.1 k_ he_; have o_ := HORD.out; (try simp only [Ex] at h1_); omega)) (fun k_ hk_ => ⟨by have o_ := HORD.out; (try simp only [Ex] at hk_); omega, fun he_ => hk_.2.1 (HGC.out k_ he_.symm)⟩), Kd.bA (N_raise HN1.out (fun k_ he_ => by have h1_ := HN1.out.1 k_ he_; have o_ := HORD.out; (try simp only [Ex] at h1_); omega)) (fun k_ hk_ => ⟨by have o_ := HORD.out; (try simp only [Ex] at hk_); omega, fun he_ => hk_.2.1 (HGS.out k_ he_.symm)⟩), HI.out, HB.out, keep_kept HKP.out⟩
 rw [if_pos hi] at h
 obtain ⟨⟨b_, t1, t2⟩, hB1, h⟩ := lF h
 (try dsimp only at h)
 have B1 := aA.mk hB1
 clear hB1
 cases b_
 ·have hd_ : decide (0 < i) = true := decide_eq_true hi
  rw [if_neg (by decide)] at h
  obtain ⟨⟨m1, e1, e2⟩, hB2, h⟩ := lF h
  obtain ⟨⟨m2, e3, e4⟩, hB3, h⟩ := lF h
  obtain ⟨⟨yy, e5, e6⟩, hB4, h⟩ := lF h
  have B2 := aA.mk hB2
  have B3 := aA.mk hB3
  have B4 := aA.mk hB4
  clear hB2 hB3 hB4
  (try dsimp only at h)
  have H2 := aA.mk h
  clear h hi HH
  have hzgb1_0_9 : wr.cell? ⟨gb1, 0, none⟩ = some (.slice none 0 0) := (aD BK1.out 0).trans rfl
  have hygb1_0_9 := aC BK1.out 0
  have hzgb1_1_9 : wr.cell? ⟨gb1, 1, none⟩ = some (.slice none 0 0) := (aD BK1.out 1).trans rfl
  have hygb1_1_9 := aC BK1.out 1
  have hzgb1_2_9 : wr.cell? ⟨gb1, 2, none⟩ = some (.int .i64 0) := (aD BK1.out 2).trans rfl
  have hygb1_2_9 := aC BK1.out 2
  have hzgb1_3_9 : wr.cell? ⟨gb1, 3, none⟩ = some (.bool false) := (aD BK1.out 3).trans rfl
  have hygb1_3_9 := aC BK1.out 3
  have hzgb4_0_9 : wr.cell? ⟨gb4, 0, none⟩ = some (.slice A0 s.length c0_0) := (aD BK4.out 0).trans rfl
  have hygb4_0_9 := aC BK4.out 0
  have hzgb4_1_9 : wr.cell? ⟨gb4, 1, none⟩ = some (.slice A1_ c.length c0_1) := (aD BK4.out 1).trans rfl
  have hygb4_1_9 := aC BK4.out 1
  have hzgb4_2_9 : wr.cell? ⟨gb4, 2, none⟩ = some (.int .i64 f) := (aD BK4.out 2).trans rfl
  have hygb4_2_9 := aC BK4.out 2
  have hzgb4_3_9 : wr.cell? ⟨gb4, 3, none⟩ = some (.bool d) := (aD BK4.out 3).trans rfl
  have hygb4_3_9 := aC BK4.out 3
  go_wp2_with (first | ((with_reducible refine bJ (f := 67) rfl ?_); refine goesL_ (some 16) rfl rfl Try.func67 (by kernel_rfl) rfl #[.pointer (some ⟨g, 0, none⟩), .int .i64 4] rfl (by (try simp only [List.map_toArray, List.map_cons, List.map_nil]); first | done | rfl | (simp only [List.length_drop, List.length_take]; rfl)) ?_; (with_reducible refine (spec_l1Once.calls g x0 p1 p2 4 false t1 t2 w _ HI.out HB.out B1.out).mono ?_); rintro e_ w10 ⟨rfl, hi_, hbn_, hk_⟩; refine ⟨_, rfl, ?_⟩; have hkp := kept_keep hk_; have n0_ := aA.mk (Kd.N_kept HN0.out hkp (fun k_ h1_ h2_ => by have o_ := HORD.out; have t_ := HT.out; (try simp only [In2, Up, In, Ex, Exb] at h1_ h2_); omega)); have n1_ := aA.mk (Kd.N_kept HN1.out hkp (fun k_ h1_ h2_ => by have o_ := HORD.out; have t_ := HT.out; (try simp only [In2, Up, In, Ex, Exb] at h1_ h2_); omega)); have n2_ := aA.mk (HKP.out.then_ hkp (fun k_ h_ => by have o_ := HORD.out; have t_ := HT.out; (try simp only [In2, Up, In, Ex, Exb] at h_ ⊢); omega)); have n3_ := aA.mk (bG BK1.out hkp (fun h2_ => by have o_ := HORD.out; have t_ := HT.out; (try simp only [In2, Up, In, Ex, Exb] at h2_); omega)); have n4_ := aA.mk (bG BK4.out hkp (fun h2_ => by have o_ := HORD.out; have t_ := HT.out; (try simp only [In2, Up, In, Ex, Exb] at h2_); omega)); have n5_ := aA.mk (hbn_); have n6_ := aA.mk (hi_); have n7_ := aA.mk (Nat.le_trans HT.out hkp.1); (try clear HN0); (try clear HN1); (try clear HKP); (try clear BK1); (try clear BK4); (try clear HB); (try clear HI); (try clear HT); have HN0 := n0_; have HN1 := n1_; have HKP := n2_; have BK1 := n3_; have BK4 := n4_; have HB := n5_; have HI := n6_; have HT := n7_; clear n0_ n1_ n2_ n3_ n4_ n5_ n6_ n7_; clear hi_ hbn_ hk_ hkp; have hzgb1_0_10 : w10.cell? ⟨gb1, 0, none⟩ = some (.slice none 0 0) := (aD BK1.out 0).trans rfl; have hygb1_0_10 := aC BK1.out 0; have hzgb1_1_10 : w10.cell? ⟨gb1, 1, none⟩ = some (.slice none 0 0) := (aD BK1.out 1).trans rfl; have hygb1_1_10 := aC BK1.out 1; have hzgb1_2_10 : w10.cell? ⟨gb1, 2, none⟩ = some (.int .i64 0) := (aD BK1.out 2).trans rfl; have hygb1_2_10 := aC BK1.out 2; have hzgb1_3_10 : w10.cell? ⟨gb1, 3, none⟩ = some (.bool false) := (aD BK1.out 3).trans rfl; have hygb1_3_10 := aC BK1.out 3; have hzgb4_0_10 : w10.cell? ⟨gb4, 0, none⟩ = some (.slice A0 s.length c0_0) := (aD BK4.out 0).trans rfl; have hygb4_0_10 := aC BK4.out 0; have hzgb4_1_10 : w10.cell? ⟨gb4, 1, none⟩ = some (.slice A1_ c.length c0_1) := (aD BK4.out 1).trans rfl; have hygb4_1_10 := aC BK4.out 1; have hzgb4_2_10 : w10.cell? ⟨gb4, 2, none⟩ = some (.int .i64 f) := (aD BK4.out 2).trans rfl; have hygb4_2_10 := aC BK4.out 2; have hzgb4_3_10 : w10.cell? ⟨gb4, 3, none⟩ = some (.bool d) := (aD BK4.out 3).trans rfl; have hygb4_3_10 := aC BK4.out 3) | ((with_reducible refine bJ (f := 66) rfl ?_); refine goesL_ (some 22) rfl rfl Try.func66 (by kernel_rfl) rfl #[.pointer (some ⟨g, 0, none⟩), .int .i64 ((s.length : Int))] rfl (by (try simp only [List.map_toArray, List.map_cons, List.map_nil]); first | done | rfl | (simp only [List.length_drop, List.length_take]; rfl)) ?_; (with_reducible refine (spec_l1Below.calls g x0 t1 t2 ((s.length : Int)) m1 e1 e2 w _ HI.out HB.out B2.out).mono ?_); rintro e_ w11 ⟨rfl, hi_, hbn_, hk_⟩; refine ⟨_, rfl, ?_⟩; have hkp := kept_keep hk_; have n0_ := aA.mk (Kd.N_kept HN0.out hkp (fun k_ h1_ h2_ => by have o_ := HORD.out; have t_ := HT.out; (try simp only [In2, Up, In, Ex, Exb] at h1_ h2_); omega)); have n1_ := aA.mk (Kd.N_kept HN1.out hkp (fun k_ h1_ h2_ => by have o_ := HORD.out; have t_ := HT.out; (try simp only [In2, Up, In, Ex, Exb] at h1_ h2_); omega)); have n2_ := aA.mk (HKP.out.then_ hkp (fun k_ h_ => by have o_ := HORD.out; have t_ := HT.out; (try simp only [In2, Up, In, Ex, Exb] at h_ ⊢); omega)); have n3_ := aA.mk (bG BK1.out hkp (fun h2_ => by have o_ := HORD.out; have t_ := HT.out; (try simp only [In2, Up, In, Ex, Exb] at h2_); omega)); have n4_ := aA.mk (bG BK4.out hkp (fun h2_ => by have o_ := HORD.out; have t_ := HT.out; (try simp only [In2, Up, In, Ex, Exb] at h2_); omega)); have n5_ := aA.mk (hbn_); have n6_ := aA.mk (hi_); have n7_ := aA.mk (Nat.le_trans HT.out hkp.1); (try clear HN0); (try clear HN1); (try clear HKP); (try clear BK1); (try clear BK4); (try clear HB); (try clear HI); (try clear HT); have HN0 := n0_; have HN1 := n1_; have HKP := n2_; have BK1 := n3_; have BK4 := n4_; have HB := n5_; have HI := n6_; have HT := n7_; clear n0_ n1_ n2_ n3_ n4_ n5_ n6_ n7_; clear hi_ hbn_ hk_ hkp; have hzgb1_0_11 : w11.cell? ⟨gb1, 0, none⟩ = some (.slice none 0 0) := (aD BK1.out 0).trans rfl; have hygb1_0_11 := aC BK1.out 0; have hzgb1_1_11 : w11.cell? ⟨gb1, 1, none⟩ = some (.slice none 0 0) := (aD BK1.out 1).trans rfl; have hygb1_1_11 := aC BK1.out 1; have hzgb1_2_11 : w11.cell? ⟨gb1, 2, none⟩ = some (.int .i64 0) := (aD BK1.out 2).trans rfl; have hygb1_2_11 := aC BK1.out 2; have hzgb1_3_11 : w11.cell? ⟨gb1, 3, none⟩ = some (.bool false) := (aD BK1.out 3).trans rfl; have hygb1_3_11 := aC BK1.out 3; have hzgb4_0_11 : w11.cell? ⟨gb4, 0, none⟩ = some (.slice A0 s.length c0_0) := (aD BK4.out 0).trans rfl; have hygb4_0_11 := aC BK4.out 0; have hzgb4_1_11 : w11.cell? ⟨gb4, 1, none⟩ = some (.slice A1_ c.length c0_1) := (aD BK4.out 1).trans rfl; have hygb4_1_11 := aC BK4.out 1; have hzgb4_2_11 : w11.cell? ⟨gb4, 2, none⟩ = some (.int .i64 f) := (aD BK4.out 2).trans rfl; have hygb4_2_11 := aC BK4.out 2; have hzgb4_3_11 : w11.cell? ⟨gb4, 3, none⟩ = some (.bool d) := (aD BK4.out 3).trans rfl; have hygb4_3_11 := aC BK4.out 3) | ((with_reducible refine bJ (f := 66) rfl ?_); refine goesL_ (some 25) rfl rfl Try.func66 (by kernel_rfl) rfl #[.pointer (some ⟨g, 0, none⟩), .int .i64 4] rfl (by (try simp only [List.map_toArray, List.map_cons, List.map_nil]); first | done | rfl | (simp only [List.length_drop, List.length_take]; rfl)) ?_; (with_reducible refine (spec_l1Below.calls g x0 e1 e2 4 m2 e3 e4 w _ HI.out HB.out B3.out).mono ?_); rintro e_ w12 ⟨rfl, hi_, hbn_, hk_⟩; refine ⟨_, rfl, ?_⟩; have hkp := kept_keep hk_; have n0_ := aA.mk (Kd.N_kept HN0.out hkp (fun k_ h1_ h2_ => by have o_ := HORD.out; have t_ := HT.out; (try simp only [In2, Up, In, Ex, Exb] at h1_ h2_); omega)); have n1_ := aA.mk (Kd.N_kept HN1.out hkp (fun k_ h1_ h2_ => by have o_ := HORD.out; have t_ := HT.out; (try simp only [In2, Up, In, Ex, Exb] at h1_ h2_); omega)); have n2_ := aA.mk (HKP.out.then_ hkp (fun k_ h_ => by have o_ := HORD.out; have t_ := HT.out; (try simp only [In2, Up, In, Ex, Exb] at h_ ⊢); omega)); have n3_ := aA.mk (bG BK1.out hkp (fun h2_ => by have o_ := HORD.out; have t_ := HT.out; (try simp only [In2, Up, In, Ex, Exb] at h2_); omega)); have n4_ := aA.mk (bG BK4.out hkp (fun h2_ => by have o_ := HORD.out; have t_ := HT.out; (try simp only [In2, Up, In, Ex, Exb] at h2_); omega)); have n5_ := aA.mk (hbn_); have n6_ := aA.mk (hi_); have n7_ := aA.mk (Nat.le_trans HT.out hkp.1); (try clear HN0); (try clear HN1); (try clear HKP); (try clear BK1); (try clear BK4); (try clear HB); (try clear HI); (try clear HT); have HN0 := n0_; have HN1 := n1_; have HKP := n2_; have BK1 := n3_; have BK4 := n4_; have HB := n5_; have HI := n6_; have HT := n7_; clear n0_ n1_ n2_ n3_ n4_ n5_ n6_ n7_; clear hi_ hbn_ hk_ hkp; have hzgb1_0_12 : w12.cell? ⟨gb1, 0, none⟩ = some (.slice none 0 0) := (aD BK1.out 0).trans rfl; have hygb1_0_12 := aC BK1.out 0; have hzgb1_1_12 : w12.cell? ⟨gb1, 1, none⟩ = some (.slice none 0 0) := (aD BK1.out 1).trans rfl; have hygb1_1_12 := aC BK1.out 1; have hzgb1_2_12 : w12.cell? ⟨gb1, 2, none⟩ = some (.int .i64 0) := (aD BK1.out 2).trans rfl; have hygb1_2_12 := aC BK1.out 2; have hzgb1_3_12 : w12.cell? ⟨gb1, 3, none⟩ = some (.bool false) := (aD BK1.out 3).trans rfl; have hygb1_3_12 := aC BK1.out 3; have hzgb4_0_12 : w12.cell? ⟨gb4, 0, none⟩ = some (.slice A0 s.length c0_0) := (aD BK4.out 0).trans rfl; have hygb4_0_12 := aC BK4.out 0; have hzgb4_1_12 : w12.cell? ⟨gb4, 1, none⟩ = some (.slice A1_ c.length c0_1) := (aD BK4.out 1).trans rfl; have hygb4_1_12 := aC BK4.out 1; have hzgb4_2_12 : w12.cell? ⟨gb4, 2, none⟩ = some (.int .i64 f) := (aD BK4.out 2).trans rfl; have hygb4_2_12 := aC BK4.out 2; have hzgb4_3_12 : w12.cell? ⟨gb4, 3, none⟩ = some (.bool d) := (aD BK4.out 3).trans rfl; have hygb4_3_12 := aC BK4.out 3) | ((with_reducible refine bJ (f := 65) rfl ?_); refine goesL_ (some 26) rfl rfl Try.func65 (by kernel_rfl) rfl #[.pointer (some ⟨g, 0, none⟩), .int .i64 m2] rfl (by (try simp only [List.map_toArray, List.map_cons, List.map_nil]); first | done | rfl | (simp only [List.length_drop, List.length_take]; rfl)) ?_; (with_reducible refine (spec_l1Bytes.calls k1 g x0 e3 e4 m2 yy e5 e6 w _ HI.out HB.out B4.out).mono ?_); rintro e_ w13 ⟨v0_, rfl, ho_, hi_, hbn_, hk_⟩; refine ⟨_, rfl, ?_⟩; have hkp := kept_keep hk_; obtain ⟨lo13, el_⟩ : ∃ n_, n_ = w12.heap.size := ⟨_, rfl⟩; obtain ⟨hi13, eh_⟩ : ∃ n_, n_ = w13.heap.size := ⟨_, rfl⟩; have ol_ : top2 ≤ lo13 := (by rw [el_]; exact HT.out); have oh_ : lo13 ≤ hi13 := (by rw [el_, eh_]; exact hkp.1); rw [← el_] at ho_; obtain ⟨A13, c13, ev_, hc_, hf_, hs_⟩ := Mem.new_R ho_ eh_; subst ev_; have n0_ := aA.mk (Kd.N_kept HN0.out hkp (fun k_ h1_ h2_ => by have o_ := HORD.out; have t_ := HT.out; (try simp only [In2, Up, In, Ex, Exb] at h1_ h2_); omega)); have n1_ := aA.mk (Kd.N_kept HN1.out hkp (fun k_ h1_ h2_ => by have o_ := HORD.out; have t_ := HT.out; (try simp only [In2, Up, In, Ex, Exb] at h1_ h2_); omega)); have n2_ := aA.mk (HKP.out.then_ hkp (fun k_ h_ => by have o_ := HORD.out; have t_ := HT.out; (try simp only [In2, Up, In, Ex, Exb] at h_ ⊢); omega)); have n3_ := aA.mk (bG BK1.out hkp (fun h2_ => by have o_ := HORD.out; have t_ := HT.out; (try simp only [In2, Up, In, Ex, Exb] at h2_); omega)); have n4_ := aA.mk (bG BK4.out hkp (fun h2_ => by have o_ := HORD.out; have t_ := HT.out; (try simp only [In2, Up, In, Ex, Exb] at h2_); omega)); have n5_ := aA.mk (hbn_); have n6_ := aA.mk (hi_); have n7_ := aA.mk (And.intro HORD.out (And.intro ol_ oh_)); have n8_ := aA.mk (Nat.le_of_eq eh_); have n9_ := aA.mk (hf_); have n10_ := aA.mk (hc_); have n11_ := aA.mk (hs_); (try clear HN0); (try clear HN1); (try clear HKP); (try clear BK1); (try clear BK4); (try clear HB); (try clear HI); (try clear HORD); (try clear HT); (try clear HF13); (try clear HC13); (try clear HS13); have HN0 := n0_; have HN1 := n1_; have HKP := n2_; have BK1 := n3_; have BK4 := n4_; have HB := n5_; have HI := n6_; have HORD := n7_; have HT := n8_; have HF13 := n9_; have HC13 := n10_; have HS13 := n11_; clear n0_ n1_ n2_ n3_ n4_ n5_ n6_ n7_ n8_ n9_ n10_ n11_; clear hi_ hbn_ hk_ hkp ho_ ol_ oh_ el_ eh_ hc_ hf_ hs_; have hzgb1_0_13 : w13.cell? ⟨gb1, 0, none⟩ = some (.slice none 0 0) := (aD BK1.out 0).trans rfl; have hygb1_0_13 := aC BK1.out 0; have hzgb1_1_13 : w13.cell? ⟨gb1, 1, none⟩ = some (.slice none 0 0) := (aD BK1.out 1).trans rfl; have hygb1_1_13 := aC BK1.out 1; have hzgb1_2_13 : w13.cell? ⟨gb1, 2, none⟩ = some (.int .i64 0) := (aD BK1.out 2).trans rfl; have hygb1_2_13 := aC BK1.out 2; have hzgb1_3_13 : w13.cell? ⟨gb1, 3, none⟩ = some (.bool false) := (aD BK1.out 3).trans rfl; have hygb1_3_13 := aC BK1.out 3; have hzgb4_0_13 : w13.cell? ⟨gb4, 0, none⟩ = some (.slice A0 s.length c0_0) := (aD BK4.out 0).trans rfl; have hygb4_0_13 := aC BK4.out 0; have hzgb4_1_13 : w13.cell? ⟨gb4, 1, none⟩ = some (.slice A1_ c.length c0_1) := (aD BK4.out 1).trans rfl; have hygb4_1_13 := aC BK4.out 1; have hzgb4_2_13 : w13.cell? ⟨gb4, 2, none⟩ = some (.int .i64 f) := (aD BK4.out 2).trans rfl; have hygb4_2_13 := aC BK4.out 2; have hzgb4_3_13 : w13.cell? ⟨gb4, 3, none⟩ = some (.bool d) := (aD BK4.out 3).trans rfl; have hygb4_3_13 := aC BK4.out 3) | ((with_reducible refine bJ (f := 57) rfl ?_); refine goesL_ (some 27) rfl rfl Try.func57 (by kernel_rfl) rfl #[.pointer (some ⟨gb4, 0, none⟩), .int .i64 m1, .slice A13 yy.length c13] rfl (by (try simp only [List.map_toArray, List.map_cons, List.map_nil]); first | done | rfl | (simp only [List.length_drop, List.length_take]; rfl)) ?_; (with_reducible refine (spec_l2WriteS.calls _ _ s _ _ c f d (m1) _ _ yy w _ gb4 HB.out BK4.out lo3 gS gC ?s1 ?s2 ?s3 ?s4 HGC.out HGS.out ?s5 ?s6 ?s7 HC13.out).mono ?_); (case s1 => exact (by have o_ := HORD.out; have t_ := HT.out; omega)); (case s2 => exact (by have o_ := HORD.out; have t_ := HT.out; omega)); (case s3 => exact (by have o_ := HORD.out; have t_ := HT.out; omega)); (case s4 => exact (by have o_ := HORD.out; have t_ := HT.out; omega)); (case s5 => exact Kd.bA HN0.out (fun k_ hk_ => by have o_ := HORD.out; (try simp only [In2, Up, In, Ex, Exb] at hk_ ⊢); omega)); (case s6 => exact Kd.bA HN1.out (fun k_ hk_ => by have o_ := HORD.out; (try simp only [In2, Up, In, Ex, Exb] at hk_ ⊢); omega)); (case s7 => exact Kd.F_mono HF13.out (fun k_ hk_ => by have o_ := HORD.out; (try simp only [In2, Up, In, Ex, Exb] at hk_ ⊢); omega)); rintro e_ w14 ⟨rfl, hwp_⟩; refine ⟨_, rfl, ?_⟩; unfold WrPost at hwp_; obtain ⟨u1_, gn14, hbk_, hgn_, hgl_, hm0_, hm1_, hbn_, hkp⟩ := hwp_; obtain ⟨hi14, e2_⟩ : ∃ n_, n_ = w14.heap.size := ⟨_, rfl⟩; have ol_ : hi13 ≤ hi14 := (by rw [e2_]; exact Nat.le_trans HT.out hkp.1); rw [← e2_] at hgl_; have n0_ := aA.mk (IsS85.kept HI.out hkp (fun h2_ => by have o_ := HORD.out; have t_ := HT.out; (try simp only [In2, Up, In, Ex, Exb] at h2_); omega)); have n1_ := aA.mk (HKP.out.then_ hkp (fun k_ h_ => by have o_ := HORD.out; have t_ := HT.out; (try simp only [In2, Up, In, Ex, Exb] at h_ ⊢); omega)); have n2_ := aA.mk (bG BK1.out hkp (fun h2_ => by have o_ := HORD.out; have t_ := HT.out; (try simp only [In2, Up, In, Ex, Exb] at h2_); omega)); have n3_ := aA.mk (hbn_); have n4_ := aA.mk (hbk_); have n5_ := aA.mk (And.intro HORD.out (And.intro ol_ hgl_)); have n6_ := aA.mk (Nat.le_of_eq e2_); have n7_ := aA.mk (hm0_); have n8_ := aA.mk (hm1_); have n9_ := aA.mk (hgn_); (try clear HI); (try clear HKP); (try clear BK1); (try clear HB); (try clear BK4); (try clear HORD); (try clear HT); (try clear HM14); (try clear HN14); (try clear HMC14); have HI := n0_; have HKP := n1_; have BK1 := n2_; have HB := n3_; have BK4 := n4_; have HORD := n5_; have HT := n6_; have HM14 := n7_; have HN14 := n8_; have HMC14 := n9_; clear n0_ n1_ n2_ n3_ n4_ n5_ n6_ n7_ n8_ n9_; have hzgb1_0_14 : w14.cell? ⟨gb1, 0, none⟩ = some (.slice none 0 0) := (aD BK1.out 0).trans rfl; have hygb1_0_14 := aC BK1.out 0; have hzgb1_1_14 : w14.cell? ⟨gb1, 1, none⟩ = some (.slice none 0 0) := (aD BK1.out 1).trans rfl; have hygb1_1_14 := aC BK1.out 1; have hzgb1_2_14 : w14.cell? ⟨gb1, 2, none⟩ = some (.int .i64 0) := (aD BK1.out 2).trans rfl; have hygb1_2_14 := aC BK1.out 2; have hzgb1_3_14 : w14.cell? ⟨gb1, 3, none⟩ = some (.bool false) := (aD BK1.out 3).trans rfl; have hygb1_3_14 := aC BK1.out 3; have hzgb4_0_14 : w14.cell? ⟨gb4, 0, none⟩ = some (.slice A0 s.length c0_0) := (aD BK4.out 0).trans rfl; have hygb4_0_14 := aC BK4.out 0; have hzgb4_1_14 : w14.cell? ⟨gb4, 1, none⟩ = some (u1_) := (aD BK4.out 1).trans rfl; have hygb4_1_14 := aC BK4.out 1; have hzgb4_2_14 : w14.cell? ⟨gb4, 2, none⟩ = some (.int .i64 ((wrote s c f d m1 yy).2.1)) := (aD BK4.out 2).trans rfl; have hygb4_2_14 := aC BK4.out 2; have hzgb4_3_14 : w14.cell? ⟨gb4, 3, none⟩ = some (.bool ((wrote s c f d m1 yy).2.2)) := (aD BK4.out 3).trans rfl; have hygb4_3_14 := aC BK4.out 3))
  go_roundg k1
  case measure => omega
  case rel => exact ⟨_, _, _, _, _, _, _, _, _, gS, gn14, rfl, H2, ⟨Nat.le_trans (by have o_ := HORD.out; omega) HT.out⟩, ⟨by have o_ := HORD.out; have t_ := HT.out; omega⟩, ⟨fun k_ hk_ => HGS.out k_ hk_⟩, ⟨fun k_ hk_ => HMC14.out k_ hk_⟩, HM14, HN14, HI, BK1, BK4, HB, HKP, ⟨by have := HKK.out; omega⟩⟩
 ·have hd_ : decide (0 < i) = true := decide_eq_true hi
  rw [if_pos rfl] at h
  by_cases hfo : flOk s c = true
  rotate_left
  ·rw [if_neg hfo] at h; exact absurd h (by simp)
  rw [if_pos hfo] at h
  have HFO := aA.mk hfo
  clear hfo
  (try dsimp only at h)
  have H2 := aA.mk h
  clear h hi HH
  have hzgb1_0_7 : wr.cell? ⟨gb1, 0, none⟩ = some (.slice none 0 0) := (aD BK1.out 0).trans rfl
  have hygb1_0_7 := aC BK1.out 0
  have hzgb1_1_7 : wr.cell? ⟨gb1, 1, none⟩ = some (.slice none 0 0) := (aD BK1.out 1).trans rfl
  have hygb1_1_7 := aC BK1.out 1
  have hzgb1_2_7 : wr.cell? ⟨gb1, 2, none⟩ = some (.int .i64 0) := (aD BK1.out 2).trans rfl
  have hygb1_2_7 := aC BK1.out 2
  have hzgb1_3_7 : wr.cell? ⟨gb1, 3, none⟩ = some (.bool false) := (aD BK1.out 3).trans rfl
  have hygb1_3_7 := aC BK1.out 3
  have hzgb4_0_7 : wr.cell? ⟨gb4, 0, none⟩ = some (.slice A0 s.length c0_0) := (aD BK4.out 0).trans rfl
  have hygb4_0_7 := aC BK4.out 0
  have hzgb4_1_7 : wr.cell? ⟨gb4, 1, none⟩ = some (.slice A1_ c.length c0_1) := (aD BK4.out 1).trans rfl
  have hygb4_1_7 := aC BK4.out 1
  have hzgb4_2_7 : wr.cell? ⟨gb4, 2, none⟩ = some (.int .i64 f) := (aD BK4.out 2).trans rfl
  have hygb4_2_7 := aC BK4.out 2
  have hzgb4_3_7 : wr.cell? ⟨gb4, 3, none⟩ = some (.bool d) := (aD BK4.out 3).trans rfl
  have hygb4_3_7 := aC BK4.out 3
  go_wp2_with (first | ((with_reducible refine bJ (f := 67) rfl ?_); refine goesL_ (some 16) rfl rfl Try.func67 (by kernel_rfl) rfl #[.pointer (some ⟨g, 0, none⟩), .int .i64 4] rfl (by (try simp only [List.map_toArray, List.map_cons, List.map_nil]); first | done | rfl | (simp only [List.length_drop, List.length_take]; rfl)) ?_; (with_reducible refine (spec_l1Once.calls g x0 p1 p2 4 true t1 t2 w _ HI.out HB.out B1.out).mono ?_); rintro e_ w8 ⟨rfl, hi_, hbn_, hk_⟩; refine ⟨_, rfl, ?_⟩; have hkp := kept_keep hk_; have n0_ := aA.mk (Kd.N_kept HN0.out hkp (fun k_ h1_ h2_ => by have o_ := HORD.out; have t_ := HT.out; (try simp only [In2, Up, In, Ex, Exb] at h1_ h2_); omega)); have n1_ := aA.mk (Kd.N_kept HN1.out hkp (fun k_ h1_ h2_ => by have o_ := HORD.out; have t_ := HT.out; (try simp only [In2, Up, In, Ex, Exb] at h1_ h2_); omega)); have n2_ := aA.mk (HKP.out.then_ hkp (fun k_ h_ => by have o_ := HORD.out; have t_ := HT.out; (try simp only [In2, Up, In, Ex, Exb] at h_ ⊢); omega)); have n3_ := aA.mk (bG BK1.out hkp (fun h2_ => by have o_ := HORD.out; have t_ := HT.out; (try simp only [In2, Up, In, Ex, Exb] at h2_); omega)); have n4_ := aA.mk (bG BK4.out hkp (fun h2_ => by have o_ := HORD.out; have t_ := HT.out; (try simp only [In2, Up, In, Ex, Exb] at h2_); omega)); have n5_ := aA.mk (hbn_); have n6_ := aA.mk (hi_); have n7_ := aA.mk (Nat.le_trans HT.out hkp.1); (try clear HN0); (try clear HN1); (try clear HKP); (try clear BK1); (try clear BK4); (try clear HB); (try clear HI); (try clear HT); have HN0 := n0_; have HN1 := n1_; have HKP := n2_; have BK1 := n3_; have BK4 := n4_; have HB := n5_; have HI := n6_; have HT := n7_; clear n0_ n1_ n2_ n3_ n4_ n5_ n6_ n7_; clear hi_ hbn_ hk_ hkp; have hzgb1_0_8 : w8.cell? ⟨gb1, 0, none⟩ = some (.slice none 0 0) := (aD BK1.out 0).trans rfl; have hygb1_0_8 := aC BK1.out 0; have hzgb1_1_8 : w8.cell? ⟨gb1, 1, none⟩ = some (.slice none 0 0) := (aD BK1.out 1).trans rfl; have hygb1_1_8 := aC BK1.out 1; have hzgb1_2_8 : w8.cell? ⟨gb1, 2, none⟩ = some (.int .i64 0) := (aD BK1.out 2).trans rfl; have hygb1_2_8 := aC BK1.out 2; have hzgb1_3_8 : w8.cell? ⟨gb1, 3, none⟩ = some (.bool false) := (aD BK1.out 3).trans rfl; have hygb1_3_8 := aC BK1.out 3; have hzgb4_0_8 : w8.cell? ⟨gb4, 0, none⟩ = some (.slice A0 s.length c0_0) := (aD BK4.out 0).trans rfl; have hygb4_0_8 := aC BK4.out 0; have hzgb4_1_8 : w8.cell? ⟨gb4, 1, none⟩ = some (.slice A1_ c.length c0_1) := (aD BK4.out 1).trans rfl; have hygb4_1_8 := aC BK4.out 1; have hzgb4_2_8 : w8.cell? ⟨gb4, 2, none⟩ = some (.int .i64 f) := (aD BK4.out 2).trans rfl; have hygb4_2_8 := aC BK4.out 2; have hzgb4_3_8 : w8.cell? ⟨gb4, 3, none⟩ = some (.bool d) := (aD BK4.out 3).trans rfl; have hygb4_3_8 := aC BK4.out 3) | ((with_reducible refine bJ (f := 60) rfl ?_); refine goesL_ (some 17) rfl rfl Try.func60 (by kernel_rfl) rfl #[.pointer (some ⟨gb4, 0, none⟩)] rfl (by (try simp only [List.map_toArray, List.map_cons, List.map_nil]); first | done | rfl | (simp only [List.length_drop, List.length_take]; rfl)) ?_; (with_reducible refine (spec_l2FlushS.calls _ _ s _ _ c f d w _ gb4 HB.out BK4.out lo3 gS gC ?s1 ?s2 ?s3 ?s4 HGC.out HGS.out ?s5 ?s6 (flOk_len HFO.out) (fun i_ hx_ hi_ => flOk_at HFO.out i_ hx_ hi_)).mono ?_); (case s1 => exact (by have o_ := HORD.out; have t_ := HT.out; omega)); (case s2 => exact (by have o_ := HORD.out; have t_ := HT.out; omega)); (case s3 => exact (by have o_ := HORD.out; have t_ := HT.out; omega)); (case s4 => exact (by have o_ := HORD.out; have t_ := HT.out; omega)); (case s5 => exact Kd.bA HN0.out (fun k_ hk_ => by have o_ := HORD.out; (try simp only [In2, Up, In, Ex, Exb] at hk_ ⊢); omega)); (case s6 => exact Kd.bA HN1.out (fun k_ hk_ => by have o_ := HORD.out; (try simp only [In2, Up, In, Ex, Exb] at hk_ ⊢); omega)); rintro e_ w9 ⟨rfl, hwp_⟩; refine ⟨_, rfl, ?_⟩; unfold FlPost at hwp_; obtain ⟨u0_, u1_, gn9, hbk_, hgn_, hgl_, hme_, hm0_, hm1_, hbn_, hkp⟩ := hwp_; obtain ⟨hi9, e2_⟩ : ∃ n_, n_ = w9.heap.size := ⟨_, rfl⟩; have ol_ : top2 ≤ hi9 := (by rw [e2_]; exact Nat.le_trans HT.out hkp.1); rw [← e2_] at hgl_; have n0_ := aA.mk (IsS85.kept HI.out hkp (fun h2_ => by have o_ := HORD.out; have t_ := HT.out; (try simp only [In2, Up, In, Ex, Exb] at h2_); omega)); have n1_ := aA.mk (HKP.out.then_ hkp (fun k_ h_ => by have o_ := HORD.out; have t_ := HT.out; (try simp only [In2, Up, In, Ex, Exb] at h_ ⊢); omega)); have n2_ := aA.mk (bG BK1.out hkp (fun h2_ => by have o_ := HORD.out; have t_ := HT.out; (try simp only [In2, Up, In, Ex, Exb] at h2_); omega)); have n3_ := aA.mk (hbn_); have n4_ := aA.mk (hbk_); have n5_ := aA.mk (And.intro HORD.out (And.intro ol_ hgl_)); have n6_ := aA.mk (Nat.le_of_eq e2_); have n7_ := aA.mk (hm0_); have n8_ := aA.mk (hm1_); have n9_ := aA.mk (hgn_); have n10_ := aA.mk (hme_); (try clear HI); (try clear HKP); (try clear BK1); (try clear HB); (try clear BK4); (try clear HORD); (try clear HT); (try clear HM9); (try clear HN9); (try clear HMC9); (try clear HMS9); have HI := n0_; have HKP := n1_; have BK1 := n2_; have HB := n3_; have BK4 := n4_; have HORD := n5_; have HT := n6_; have HM9 := n7_; have HN9 := n8_; have HMC9 := n9_; have HMS9 := n10_; clear n0_ n1_ n2_ n3_ n4_ n5_ n6_ n7_ n8_ n9_ n10_; have hzgb1_0_9 : w9.cell? ⟨gb1, 0, none⟩ = some (.slice none 0 0) := (aD BK1.out 0).trans rfl; have hygb1_0_9 := aC BK1.out 0; have hzgb1_1_9 : w9.cell? ⟨gb1, 1, none⟩ = some (.slice none 0 0) := (aD BK1.out 1).trans rfl; have hygb1_1_9 := aC BK1.out 1; have hzgb1_2_9 : w9.cell? ⟨gb1, 2, none⟩ = some (.int .i64 0) := (aD BK1.out 2).trans rfl; have hygb1_2_9 := aC BK1.out 2; have hzgb1_3_9 : w9.cell? ⟨gb1, 3, none⟩ = some (.bool false) := (aD BK1.out 3).trans rfl; have hygb1_3_9 := aC BK1.out 3; have hzgb4_0_9 : w9.cell? ⟨gb4, 0, none⟩ = some (u0_) := (aD BK4.out 0).trans rfl; have hygb4_0_9 := aC BK4.out 0; have hzgb4_1_9 : w9.cell? ⟨gb4, 1, none⟩ = some (u1_) := (aD BK4.out 1).trans rfl; have hygb4_1_9 := aC BK4.out 1; have hzgb4_2_9 : w9.cell? ⟨gb4, 2, none⟩ = some (.int .i64 ((flushed s c f d).2.2.1)) := (aD BK4.out 2).trans rfl; have hygb4_2_9 := aC BK4.out 2; have hzgb4_3_9 : w9.cell? ⟨gb4, 3, none⟩ = some (.bool ((flushed s c f d).2.2.2)) := (aD BK4.out 3).trans rfl; have hygb4_3_9 := aC BK4.out 3))
  go_roundg k1
  case measure => omega
  case rel => exact ⟨_, _, _, _, _, _, _, _, _, gS, gn9, rfl, H2, ⟨Nat.le_trans (by have o_ := HORD.out; omega) HT.out⟩, ⟨by have o_ := HORD.out; have t_ := HT.out; omega⟩, ⟨fun k_ hk_ => HMS9.out k_ hk_⟩, ⟨fun k_ hk_ => HMC9.out k_ hk_⟩, HM9, HN9, HI, BK1, BK4, HB, HKP, ⟨by have := HKK.out; omega⟩⟩
end Go.Proofs.Ytilhcaofpfeioaa.Law

namespace Go.Proofs.Ytilhcaofpfeioaa.PFnFalls
open Go.Proofs.Ytilhcaofpfeioaa.Law Go.Proofs.Ytilhcaofpfeioaa.Core
open Go.RowKit Go.Proofs.YtilhcaofpfeioaaW.PrintWords Go.Proofs.YtilhcaofpfeioaaW.PrintLast Go.Proofs.YtilhcaofpfeioaaW.PrintMore
attribute [local go_sem] max2_int min2_int max_two min_two max_three min_three max_four min_four   -- for this text's walks alone
set_option linter.unusedVariables false
set_option linter.unusedSimpArgs false
def spec_l2Draw.f (k : Nat) (s0_0 : List Int) (s0_1 : Int) (s0_2 : Int) : Option (List (List Int) × List (S50) × Int × Bool × Int × Int) := spec_l2Draw.g k s0_0 s0_1 s0_2
theorem spec_l2Draw.calls (k : Nat) (g : Nat) (s0_0 : List Int) (s0_1 : Int) (s0_2 : Int) (r1 : List (List Int)) (r2 : List (S50)) (r3 : Int) (r4 : Bool) (r5 : Int) (r6 : Int) (w0 w : World) (hI : IsS85 w0 w g s0_0 s0_1 s0_2) (hB : Below w0.heap.size w0 w) (h : spec_l2Draw.f k s0_0 s0_1 s0_2 = some (r1, r2, r3, r4, r5, r6)) :
  Calls Try.prog 62 #[.pointer (some ⟨g, 0, none⟩)] w fun e w' => ∃ v0_ v1_ : Value, e = .returned (.agg #[v0_, v1_, .int .i64 r3, .bool r4]) ∧ Kd.N (Kd.slice 5 (Kd.int .u8)) 37 w' w.heap.size (fun k_ => (w.heap.size ≤ k_) ∧ some k_ ≠ (v1_ : Value).ownBlock) v0_ r1 ∧ Kd.N k50 50 w' w.heap.size (fun k_ => (w.heap.size ≤ k_) ∧ some k_ ≠ (v0_ : Value).ownBlock) v1_ r2 ∧ IsS85 w0 w' g s0_0 r5 r6 ∧ Below w0.heap.size w0 w' ∧ KeepBut w w' g none := by
 exact spec_l2Draw_calls k g s0_0 s0_1 s0_2 r1 r2 r3 r4 r5 r6 w0 w hI hB h
def spec_DrawDev.f (k : Nat) (l0 : List Int) : Option ((List (List Int)) × (List (S50)) × Int × Bool) := (spec_l1New.f k l0).bind fun bt192 => ((spec_l2Draw.f k bt192.1 bt192.2.1 bt192.2.2).bind fun bt196 => (some (bt196.1, bt196.2.1, bt196.2.2.1, bt196.2.2.2.1)))
set_option maxHeartbeats 8000000 in
set_option maxRecDepth 100000 in
theorem spec_DrawDev.calls (k : Nat) (A0 : Option Addr) (c0 : Nat) (l0 : List Int) (r1 : List (List Int)) (r2 : List (S50)) (r3 : Int) (r4 : Bool) (w : World) (hr0 : Kd.C (Kd.int .u8) w A0 l0.length l0) (hc0 : l0.length ≤ c0) (h : spec_DrawDev.f k l0 = some (r1, r2, r3, r4)) :
  Calls Try.prog 34 #[.slice A0 l0.length c0] w fun e w' => ∃ v0_ v1_ : Value, e = .returned (.agg #[v0_, v1_, .int .i64 r3, .bool r4]) ∧ Kd.N (Kd.slice 5 (Kd.int .u8)) 37 w' w.heap.size (fun k_ => (w.heap.size ≤ k_) ∧ some k_ ≠ (v1_ : Value).ownBlock) v0_ r1 ∧ Kd.N k50 50 w' w.heap.size (fun k_ => (w.heap.size ≤ k_) ∧ some k_ ≠ (v0_ : Value).ownBlock) v1_ r2 ∧ Below w.heap.size w w' := by
 have hu25 := Try.underlying25
 have HR0 := aA.mk hr0
 have HC0 := aA.mk hc0
 clear hr0 hc0
 have HB := aA.mk (Below.refl w.heap.size w)
 have H : ((spec_l1New.f k l0).bind fun bt192 => ((spec_l2Draw.f k bt192.1 bt192.2.1 bt192.2.2).bind fun bt196 => (some (bt196.1, bt196.2.1, bt196.2.2.1, bt196.2.2.2.1)))) = some (r1, r2, r3, r4) := h
 clear h
 replace H := lF H
 obtain ⟨⟨t192, t193, t194⟩, A20, H⟩ := H
 replace H : ((spec_l2Draw.f k t192 t193 t194).bind fun bt196 => (some (bt196.1, bt196.2.1, bt196.2.2.1, bt196.2.2.2.1))) = some (r1, r2, r3, r4) := H
 have A2 := aA.mk A20
 clear A20
 replace H := lF H
 obtain ⟨⟨t196, t199, t202, t203, t204, t205⟩, A30, H⟩ := H
 replace H : (some (t196, t199, t202, t203)) = some (r1, r2, r3, r4) := H
 have A3 := aA.mk A30
 clear A30
 simp only [Option.some.injEq, Prod.mk.injEq] at H
 obtain ⟨rfl, rfl, rfl, rfl⟩ := H
 go_enter Try.func34, Try.ntmps34
 go_wp2_with (first | ((with_reducible refine gate_dst (N := 2) rfl ?_); refine box_event ?hg (N := 2) ?hd (cs := #[.slice none 0 0, .slice none 0 0, .int .i64 0, .bool false]) (t := 25) ?hr ?_; (case hd => rfl); (case hg => rfl); (case hr => first | (go_simp; done) | (go_simp; rfl)); intro gb191 hg w4 hbox hb; have n0_ := aA.mk (bD (by repeat (first | (with_reducible first | exact HB.out | apply aM | apply aG | apply aJ) | exact HB.out)) hb); have n1_ := aA.mk (hbox); have n2_ := aA.mk ((by rw [hg]; exact (bH (by repeat (first | (with_reducible first | exact HB.out | apply aM | apply aG | apply aJ) | exact HB.out))) : w.heap.size ≤ gb191)); have n3_ := aA.mk ((by rw [hg]; exact (bH (by repeat (first | (with_reducible first | exact HB.out | apply aM | apply aG | apply aJ) | exact HB.out))) : w.heap.size ≤ gb191)); clear HB; have HB := n0_; have BK191 := n1_; have GW191 := n2_; have GE191 := n3_; clear n0_ n1_ n2_ n3_; clear hb hbox hg) | ((with_reducible refine bJ (f := 61) rfl ?_); refine goesL_ (some 5) rfl rfl Try.func61 (by kernel_rfl) rfl #[.slice A0 l0.length c0] rfl (by (try simp only [List.map_toArray, List.map_cons, List.map_nil]); first | done | rfl | (simp only [List.length_drop, List.length_take]; rfl)) ?_; (with_reducible refine (spec_l1New.calls k _ _ l0 t192 t193 t194 w _ ?side1 ?side2 ?side3 A2.out).mono ?_); (case side1 => repeat (first | (with_reducible first | exact HB.out | apply aM | apply aG | apply aJ | refine aE ?_ GE191.out) | exact HB.out)); (case side2 => exact HR0.out); (case side3 => exact HC0.out); rintro e w5 ⟨g195, rfl, hi, hb, hb2⟩; refine ⟨_, rfl, ?_⟩; have n0_ := aA.mk (aW (g := gb191) (o := .cells #[.slice none 0 0, .slice none 0 0, .int .i64 0, .bool false] 25 (0, 0)) (by (with_reducible repeat (first | refine aQ ?_ _ | refine aN ?_ | refine aH ?_ _)); exact BK191.out) hb2); have n1_ := aA.mk (hb); have n2_ := aA.mk (hi); have n3_ := aA.mk (IsS85.ne_blk hi (aW (g := gb191) (o := .cells #[.slice none 0 0, .slice none 0 0, .int .i64 0, .bool false] 25 (0, 0)) (by (with_reducible repeat (first | refine aQ ?_ _ | refine aN ?_ | refine aH ?_ _)); exact BK191.out) hb2) (by decide)); have n4_ := aA.mk (Ne.symm (IsS85.ne_blk hi (aW (g := gb191) (o := .cells #[.slice none 0 0, .slice none 0 0, .int .i64 0, .bool false] 25 (0, 0)) (by (with_reducible repeat (first | refine aQ ?_ _ | refine aN ?_ | refine aH ?_ _)); exact BK191.out) hb2) (by decide))); clear BK191; clear HB; have BK191 := n0_; have HB := n1_; have HI195 := n2_; have NB195_191 := n3_; have NB191_195 := n4_; clear n0_ n1_ n2_ n3_ n4_; (try clear hb); (try clear hb2); (try clear hk); (try clear hi)) | ((with_reducible refine bJ (f := 62) rfl ?_); refine goesL_ (some 7) rfl rfl Try.func62 (by kernel_rfl) rfl #[.pointer (some ⟨g195, 0, none⟩)] rfl (by (try simp only [List.map_toArray, List.map_cons, List.map_nil]); first | done | rfl | (simp only [List.length_drop, List.length_take]; rfl)) ?_; (with_reducible refine (spec_l2Draw.calls k g195 t192 t193 t194 t196 t199 t202 t203 t204 t205 w _ ?side1 ?side2 A3.out).mono ?_); (case side1 => repeat (first | (with_reducible first | exact HI195.out | apply IsS85.alloc | apply IsS85.drewN | apply IsS85.drew | apply IsS85.set_1 | apply IsS85.set_2 | apply IsS85.far (hne := NB195_191.out)) | exact HI195.out)); (case side2 => repeat (first | (with_reducible first | exact HB.out | apply aM | apply aG | apply aJ | refine aE ?_ (IsS85.ge HI195.out) | refine aE ?_ GE191.out) | exact HB.out)); rintro e w6 ⟨v197, v200, rfl, ho0, ho1, hi, hb, hk⟩; refine ⟨_, rfl, ?_⟩; have n0_ := aA.mk (KeepBut.blk hk (g' := gb191) (o := .cells #[.slice none 0 0, .slice none 0 0, .int .i64 0, .bool false] 25 (0, 0)) (by (with_reducible repeat (first | refine aQ ?_ _ | refine aN ?_ | refine aH ?_ _)); exact BK191.out) NB191_195.out (by simp)); have n1_ := aA.mk (Kd.N_lower (Kd.bA (ok' := fun k_ => (w.heap.size ≤ k_) ∧ some k_ ≠ (v200 : Value).ownBlock ∧ k_ ≠ gb191 ∧ k_ ≠ g195) ho0 (fun k_ hk_ => ⟨(Nat.le_trans (bH (by repeat (first | (with_reducible first | exact HB.out | apply aM | apply aG | apply aJ | refine aE ?_ (IsS85.ge HI195.out) | refine aE ?_ GE191.out) | exact HB.out))) hk_.1), hk_.2, (Kd.freshB (g := gb191) (o := .cells #[.slice none 0 0, .slice none 0 0, .int .i64 0, .bool false] 25 (0, 0)) (by (with_reducible repeat (first | refine aQ ?_ _ | refine aN ?_ | refine aH ?_ _)); exact BK191.out) k_ hk_.1), (IsS85.fresh (by repeat (first | (with_reducible first | exact HI195.out | apply IsS85.alloc | apply IsS85.drewN | apply IsS85.drew | apply IsS85.set_1 | apply IsS85.set_2 | apply IsS85.far (hne := NB195_191.out)) | exact HI195.out)) k_ hk_.1)⟩)) (bH (by repeat (first | (with_reducible first | exact HB.out | apply aM | apply aG | apply aJ | refine aE ?_ (IsS85.ge HI195.out) | refine aE ?_ GE191.out) | exact HB.out)))); have n2_ := aA.mk (Kd.N_lower (Kd.bA (ok' := fun k_ => (w.heap.size ≤ k_) ∧ some k_ ≠ (v197 : Value).ownBlock ∧ k_ ≠ gb191 ∧ k_ ≠ g195) ho1 (fun k_ hk_ => ⟨(Nat.le_trans (bH (by repeat (first | (with_reducible first | exact HB.out | apply aM | apply aG | apply aJ | refine aE ?_ (IsS85.ge HI195.out) | refine aE ?_ GE191.out) | exact HB.out))) hk_.1), hk_.2, (Kd.freshB (g := gb191) (o := .cells #[.slice none 0 0, .slice none 0 0, .int .i64 0, .bool false] 25 (0, 0)) (by (with_reducible repeat (first | refine aQ ?_ _ | refine aN ?_ | refine aH ?_ _)); exact BK191.out) k_ hk_.1), (IsS85.fresh (by repeat (first | (with_reducible first | exact HI195.out | apply IsS85.alloc | apply IsS85.drewN | apply IsS85.drew | apply IsS85.set_1 | apply IsS85.set_2 | apply IsS85.far (hne := NB195_191.out)) | exact HI195.out)) k_ hk_.1)⟩)) (bH (by repeat (first | (with_reducible first | exact HB.out | apply aM | apply aG | apply aJ | refine aE ?_ (IsS85.ge HI195.out) | refine aE ?_ GE191.out) | exact HB.out)))); have n3_ := aA.mk (hb); have n4_ := aA.mk (hi); clear BK191; clear HB; clear HI195; have BK191 := n0_; have HO198 := n1_; have HO201 := n2_; have HB := n3_; have HI195 := n4_; clear n0_ n1_ n2_ n3_ n4_; (try clear hb); (try clear hb2); (try clear hk); (try clear hi); (try clear ho0); (try clear ho1); obtain ⟨Ao7, co7, eo7⟩ := Kd.N_slice HO198.out; subst eo7; have hnb8 := NB191_195.out; have hnc8 := NB195_191.out; have hcz9_0 : w6.cell? ⟨gb191, 0, none⟩ = some (.slice none 0 0) := (aD BK191.out 0).trans rfl; have hcz9_1 : w6.cell? ⟨gb191, 1, none⟩ = some (.slice none 0 0) := (aD BK191.out 1).trans rfl; have hcz9_2 : w6.cell? ⟨gb191, 2, none⟩ = some (.int .i64 0) := (aD BK191.out 2).trans rfl; have hcz9_3 : w6.cell? ⟨gb191, 3, none⟩ = some (.bool false) := (aD BK191.out 3).trans rfl; have hfz9_0 := aC BK191.out 0; have hfz9_1 := aC BK191.out 1; have hfz9_2 := aC BK191.out 2; have hfz9_3 := aC BK191.out 3; obtain ⟨Ao10, co10, eo10⟩ := Kd.N_slice HO201.out; subst eo10))
 refine bodyPost_ret (results_cell_row rfl _ _ gb191 25 #[.slice Ao7 t196.length co7, .slice Ao10 t199.length co10, .int .i64 t202, .bool t203] (0, 0) _ rfl (by (with_reducible repeat (first | refine aQ ?_ _ | refine aN ?_ | refine aH ?_ _)); refine bE (cs := #[.slice Ao7 t196.length co7, .slice Ao10 t199.length co10, .int .i64 t202, .bool false]) ?_ 3 _ rfl; (with_reducible repeat (first | refine aQ ?_ _ | refine aN ?_ | refine aH ?_ _)); refine bE (cs := #[.slice Ao7 t196.length co7, .slice Ao10 t199.length co10, .int .i64 0, .bool false]) ?_ 2 _ rfl; (with_reducible repeat (first | refine aQ ?_ _ | refine aN ?_ | refine aH ?_ _)); refine bE (cs := #[.slice Ao7 t196.length co7, .slice none 0 0, .int .i64 0, .bool false]) ?_ 1 _ rfl; (with_reducible repeat (first | refine aQ ?_ _ | refine aN ?_ | refine aH ?_ _)); refine bE (cs := #[.slice none 0 0, .slice none 0 0, .int .i64 0, .bool false]) ?_ 0 _ rfl; (with_reducible repeat (first | refine aQ ?_ _ | refine aN ?_ | refine aH ?_ _)); exact BK191.out) Try.underlying25 rfl (by kernel_rfl)) rfl ?_
 exact ⟨_, _, by first | rfl | (simp [errW_none, errW_some] <;> rfl) | (simp [*, errW_none, errW_some] <;> rfl), by (with_reducible repeat (first | apply Kd.aY | apply Kd.aX | apply Kd.aV)); exact Kd.bA (Kd.bK (p := ⟨gb191, 3, none⟩) (Kd.bK (p := ⟨gb191, 2, none⟩) (Kd.bK (p := ⟨gb191, 1, none⟩) (Kd.bK (p := ⟨gb191, 0, none⟩) (Kd.bA HO198.out (fun k_ hk => (⟨hk, hk.2.2.1⟩ : _ ∧ k_ ≠ gb191))) (fun _ hk => hk.2) (.slice Ao7 t196.length co7)) (fun _ hk => hk.2) (.slice Ao10 t199.length co10)) (fun _ hk => hk.2) (.int .i64 t202)) (fun _ hk => hk.2) (.bool t203)) (fun _ hk => ⟨hk.1.1, hk.1.2.1⟩), by (with_reducible repeat (first | apply Kd.aY | apply Kd.aX | apply Kd.aV)); exact Kd.bA (Kd.bK (p := ⟨gb191, 3, none⟩) (Kd.bK (p := ⟨gb191, 2, none⟩) (Kd.bK (p := ⟨gb191, 1, none⟩) (Kd.bK (p := ⟨gb191, 0, none⟩) (Kd.bA HO201.out (fun k_ hk => (⟨hk, hk.2.2.1⟩ : _ ∧ k_ ≠ gb191))) (fun _ hk => hk.2) (.slice Ao7 t196.length co7)) (fun _ hk => hk.2) (.slice Ao10 t199.length co10)) (fun _ hk => hk.2) (.int .i64 t202)) (fun _ hk => hk.2) (.bool t203)) (fun _ hk => ⟨hk.1.1, hk.1.2.1⟩), by repeat (first | (with_reducible first | exact HB.out | apply aM | apply aG | apply aJ | refine aE ?_ (IsS85.ge HI195.out) | refine aE ?_ GE191.out) | exact HB.out)⟩
def laws_at.f (l0 : List Int) (a1 : Int) : Option (Int) := if a1 < (l0.length : Int) then (if 0 ≤ a1 then (some (wrap64 (rd l0 a1))) else (none)) else (some (Int.tmod (wrap64 ((wrap64 (a1 * 31)) + (wrap64 ((l0.length : Int) * 7)))) 256))
set_option maxHeartbeats 8000000 in
set_option maxRecDepth 100000 in
theorem laws_at.calls (A0 : Option Addr) (c0 : Nat) (l0 : List Int) (a1 : Int) (r : Int) (w : World) (hr0 : Kd.C (Kd.int .u8) w A0 l0.length l0) (hc0 : l0.length ≤ c0) (h : laws_at.f l0 a1 = some r) :
  Calls Try.prog 35 #[.slice A0 l0.length c0, .int .i64 a1] w fun e w' => e = .returned (.int .i64 r) ∧ Drawn0 w w' := by
 have HR0 := aA.mk hr0
 have HC0 := aA.mk hc0
 clear hr0 hc0
 have H : (if a1 < (l0.length : Int) then (if 0 ≤ a1 then (some (wrap64 (rd l0 a1))) else (none)) else (some (Int.tmod (wrap64 ((wrap64 (a1 * 31)) + (wrap64 ((l0.length : Int) * 7)))) 256))) = some r := h
 clear h
 by_cases c3 : a1 < (l0.length : Int)
 ·rw [if_pos c3] at H
  have c3b0 : decide (a1 < (l0.length : Int)) = true := decide_eq_true c3
  clear c3
  by_cases c4 : 0 ≤ a1
  ·rw [if_pos c4] at H
   have c4b0 : decide (0 ≤ a1) = true := decide_eq_true c4
   clear c4
   obtain rfl := Option.some.inj H
   have p206 : 0 ≤ (a1 : Int) := lE (by first | (with_reducible assumption) | assumption)
   have q206 : a1 < (l0.length : Int) := lE (by first | (with_reducible assumption) | assumption)
   obtain ⟨ad206, e206, hx206_0⟩ := Kd.at_int HR0.out a1 p206 q206
   cases e206
   replace p206 := eq_true p206
   replace q206 := eq_true q206
   go_enter Try.func35, Try.ntmps35
   go_wp2
   go_ret
   exact ⟨by first | rfl | (simp; done) | (simp [*]; done), by repeat (first | exact Drawn0.refl _ | apply Drawn0.step)⟩
  ·rw [if_neg c4] at H
   exact absurd H (by simp)
 ·rw [if_neg c3] at H
  have c3b0 : decide (a1 < (l0.length : Int)) = false := decide_eq_false c3
  clear c3
  obtain rfl := Option.some.inj H
  go_enter Try.func35, Try.ntmps35
  go_wp2
  go_ret
  exact ⟨by first | rfl | (simp; done) | (simp [*]; done), by repeat (first | exact Drawn0.refl _ | apply Drawn0.step)⟩
end Go.Proofs.Ytilhcaofpfeioaa.PFnFalls
