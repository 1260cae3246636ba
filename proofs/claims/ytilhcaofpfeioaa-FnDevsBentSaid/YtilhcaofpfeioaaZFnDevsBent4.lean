/- The law: the functions that it reaches, each with the proof that the machine's call comes to its answer, what they answer, and the law's row; each theorem says its conditions itself. -/
import Derived.Test.YtilhcaofpfeioaaZFnDevsBent3
import Derived.ChangeArms
import Derived.ChangeShapes
import Derived.WideShapes
import Derived.Test.YtilhcaofpfeioaaRows
import Derived.WalkKit
import Derived.ProofKit
import Derived.OpenShut
import Derived.ShutString
import Derived.ChangeOld
import Derived.Below
import Derived.SizedLaws
namespace Go.Proofs.Ytilhcaofpfeioaa.PFnDevsBent
open Go.RowKit Go.Proofs.YtilhcaofpfeioaaW.PrintWords Go.Proofs.YtilhcaofpfeioaaW.PrintLast Go.Proofs.YtilhcaofpfeioaaW.PrintMore
attribute [local go_sem] max2_int min2_int max_two min_two max_three min_three max_four min_four   -- for this text's walks alone
set_option linter.unusedVariables false
set_option linter.unusedSimpArgs false
mutual
def laws_sameDev.j0:Nat → Bool → List (List Int) → List (S50) → Int → Bool → List (List Int) → List (S50) → Int → Bool → Option (Bool)
 | 0,_,_,_,_,_,_,_,_,_=>none
 | k + 1,x36,x494000,x494001,x494002,x494003,x495000,x495001,x495002,x495003=>if x36 = true then (some false) else (laws_sameDev.l0 k 0 x494000 x494001 x494002 x494003 x495000 x495001 x495002 x495003)
def laws_sameDev.l0:Nat → Int → List (List Int) → List (S50) → Int → Bool → List (List Int) → List (S50) → Int → Bool → Option (Bool)
 | 0,_,_,_,_,_,_,_,_,_=>none
 | k + 1,x5,x494000,x494001,x494002,x494003,x495000,x495001,x495002,x495003=>if x5 < (x494000.length:Int) then (if 0 ≤ x5 then (if x5 < (x495000.length:Int) then (if (strOfNums (rd_L1 x494000 x5)).toList = (strOfNums (rd_L1 x495000 x5)).toList then (laws_sameDev.l0 k (wrap64 (x5 + 1)) x494000 x494001 x494002 x494003 x495000 x495001 x495002 x495003) else (some false)) else (none)) else (none)) else (laws_sameDev.l1 k 0 x494000 x494001 x494002 x494003 x495000 x495001 x495002 x495003)
def laws_sameDev.l1:Nat → Int → List (List Int) → List (S50) → Int → Bool → List (List Int) → List (S50) → Int → Bool → Option (Bool)
 | 0,_,_,_,_,_,_,_,_,_=>none
 | k + 1,x6,x494000,x494001,x494002,x494003,x495000,x495001,x495002,x495003=>if x6 < (x494001.length:Int) then (if 0 ≤ x6 then (if x6 < (x495001.length:Int) then (if ((rd_T50 x494001 x6).f0) = ((rd_T50 x495001 x6).f0) then (if (strOfNums ((rd_T50 x494001 x6).f1)).toList = (strOfNums ((rd_T50 x495001 x6).f1)).toList then (laws_sameDev.l1 k (wrap64 (x6 + 1)) x494000 x494001 x494002 x494003 x495000 x495001 x495002 x495003) else (some false)) else (some false)) else (none)) else (none)) else (some true)
end
def laws_sameDev.f (k:Nat) (l0_0:List (List Int)) (l0_1:List (S50)) (a0_2:Int) (a0_3:Bool) (l1_0:List (List Int)) (l1_1:List (S50)) (a1_2:Int) (a1_3:Bool):Option (Bool):=if (l0_0.length:Int) = (l1_0.length:Int) then (if (l0_1.length:Int) = (l1_1.length:Int) then (if a0_2 = a1_2 then (laws_sameDev.j0 k (a0_3 != a1_3) l0_0 l0_1 a0_2 a0_3 l1_0 l1_1 a1_2 a1_3) else (laws_sameDev.j0 k true l0_0 l0_1 a0_2 a0_3 l1_0 l1_1 a1_2 a1_3)) else (laws_sameDev.j0 k true l0_0 l0_1 a0_2 a0_3 l1_0 l1_1 a1_2 a1_3)) else (laws_sameDev.j0 k true l0_0 l0_1 a0_2 a0_3 l1_0 l1_1 a1_2 a1_3)
set_option maxHeartbeats 8000000 in
set_option maxRecDepth 100000 in
theorem laws_sameDev.calls (k:Nat) (A0_0:Option Addr) (c0_0:Nat) (l0_0:List (List Int)) (A0_1:Option Addr) (c0_1:Nat) (l0_1:List (S50)) (a0_2:Int) (a0_3:Bool) (A1_0:Option Addr) (c1_0:Nat) (l1_0:List (List Int)) (A1_1:Option Addr) (c1_1:Nat) (l1_1:List (S50)) (a1_2:Int) (a1_3:Bool) (r:Bool) (w:World) (hr0_0:Kd.C (Kd.slice 5 (Kd.int .u8)) w A0_0 l0_0.length l0_0) (hc0_0:l0_0.length ≤ c0_0) (hr0_1:Kd.C k50 w A0_1 l0_1.length l0_1) (hc0_1:l0_1.length ≤ c0_1) (hr1_0:Kd.C (Kd.slice 5 (Kd.int .u8)) w A1_0 l1_0.length l1_0) (hc1_0:l1_0.length ≤ c1_0) (hr1_1:Kd.C k50 w A1_1 l1_1.length l1_1) (hc1_1:l1_1.length ≤ c1_1) (h:laws_sameDev.f k l0_0 l0_1 a0_2 a0_3 l1_0 l1_1 a1_2 a1_3 = some r) :
  Calls Try.prog 42 #[.agg #[.slice A0_0 l0_0.length c0_0,.slice A0_1 l0_1.length c0_1,.int .i64 a0_2,.bool a0_3],.agg #[.slice A1_0 l1_0.length c1_0,.slice A1_1 l1_1.length c1_1,.int .i64 a1_2,.bool a1_3]] w fun e w'=>e = .returned (.bool r) ∧ Below w.heap.size w w':=by
 have hu25:=Try.underlying25
 have HR0_0:=aA.mk hr0_0
 have HC0_0:=aA.mk hc0_0
 clear hr0_0 hc0_0
 have HR0_1:=aA.mk hr0_1
 have HC0_1:=aA.mk hc0_1
 clear hr0_1 hc0_1
 have HR1_0:=aA.mk hr1_0
 have HC1_0:=aA.mk hc1_0
 clear hr1_0 hc1_0
 have HR1_1:=aA.mk hr1_1
 have HC1_1:=aA.mk hc1_1
 clear hr1_1 hc1_1
 have HB:=aA.mk (Below.refl w.heap.size w)
 have H:(if (l0_0.length:Int) = (l1_0.length:Int) then (if (l0_1.length:Int) = (l1_1.length:Int) then (if a0_2 = a1_2 then (laws_sameDev.j0 k (a0_3 != a1_3) l0_0 l0_1 a0_2 a0_3 l1_0 l1_1 a1_2 a1_3) else (laws_sameDev.j0 k true l0_0 l0_1 a0_2 a0_3 l1_0 l1_1 a1_2 a1_3)) else (laws_sameDev.j0 k true l0_0 l0_1 a0_2 a0_3 l1_0 l1_1 a1_2 a1_3)) else (laws_sameDev.j0 k true l0_0 l0_1 a0_2 a0_3 l1_0 l1_1 a1_2 a1_3)) = some r:=h
 clear h
 have HC3:=aA.mk H
 clear H
 go_enter Try.func42,Try.ntmps42
 go_upto_region 1 with (first|((with_reducible refine bC (N:=2) rfl ?_);(try (refine cC wN ?_;dsimp only));refine bD ?hg (N:=2) ?hd (cs:=#[.slice A0_0 l0_0.length c0_0,.slice A0_1 l0_1.length c0_1,.int .i64 a0_2,.bool a0_3]) (t:=25) ?hr ?_;(case hd=>rfl);(case hg=>rfl);(case hr=>exact tE);intro gb493 hg w4 hbox hb;have BK493:=aA.mk (hbox);have GW493:=aA.mk ((by rw [hg];exact (aX HB.out):w.heap.size ≤ gb493));have GE493:=aA.mk ((by rw [hg];exact (aX HB.out):w.heap.size ≤ gb493));replace HB:=aA.mk (aT HB.out hb);clear hb hbox hg)|((with_reducible refine bC (N:=3) rfl ?_);(try (refine cC wN ?_;dsimp only));refine bD ?hg (N:=3) ?hd (cs:=#[.slice A1_0 l1_0.length c1_0,.slice A1_1 l1_1.length c1_1,.int .i64 a1_2,.bool a1_3]) (t:=25) ?hr ?_;(case hd=>rfl);(case hg=>rfl);(case hr=>exact tE);intro gb494 hg w5 hbox hb;have BK494:=aA.mk (hbox);have GW494:=aA.mk ((by rw [hg];exact (aX HB.out):w.heap.size ≤ gb494));have GE494:=aA.mk ((by rw [hg];exact (aX HB.out):w.heap.size ≤ gb494));replace HB:=aA.mk (aT HB.out hb);have NB493_494:=aA.mk ((by rw [hg];exact Nat.ne_of_lt (bJ (g:=gb493) (o:=.cells #[.slice A0_0 l0_0.length c0_0,.slice A0_1 l0_1.length c0_1,.int .i64 a0_2,.bool a0_3] 25 (0,0)) BK493.out):gb493 ≠ gb494));have NB494_493:=aA.mk ((by rw [hg];exact Nat.ne_of_gt (bJ (g:=gb493) (o:=.cells #[.slice A0_0 l0_0.length c0_0,.slice A0_1 l0_1.length c0_1,.int .i64 a0_2,.bool a0_3] 25 (0,0)) BK493.out):gb494 ≠ gb493));replace BK493:=aA.mk (bM (g:=gb493) (o:=.cells #[.slice A0_0 l0_0.length c0_0,.slice A0_1 l0_1.length c0_1,.int .i64 a0_2,.bool a0_3] 25 (0,0)) BK493.out hb);clear hb hbox hg))
 repeat (go_quiet (first|((with_reducible refine bC (N:=2) rfl ?_);(try (refine cC wN ?_;dsimp only));refine bD ?hg (N:=2) ?hd (cs:=#[.slice A0_0 l0_0.length c0_0,.slice A0_1 l0_1.length c0_1,.int .i64 a0_2,.bool a0_3]) (t:=25) ?hr ?_;(case hd=>rfl);(case hg=>rfl);(case hr=>exact tE);intro gb493 hg w4 hbox hb;have BK493:=aA.mk (hbox);have GW493:=aA.mk ((by rw [hg];exact (aX HB.out):w.heap.size ≤ gb493));have GE493:=aA.mk ((by rw [hg];exact (aX HB.out):w.heap.size ≤ gb493));replace HB:=aA.mk (aT HB.out hb);clear hb hbox hg)|((with_reducible refine bC (N:=3) rfl ?_);(try (refine cC wN ?_;dsimp only));refine bD ?hg (N:=3) ?hd (cs:=#[.slice A1_0 l1_0.length c1_0,.slice A1_1 l1_1.length c1_1,.int .i64 a1_2,.bool a1_3]) (t:=25) ?hr ?_;(case hd=>rfl);(case hg=>rfl);(case hr=>exact tE);intro gb494 hg w5 hbox hb;have BK494:=aA.mk (hbox);have GW494:=aA.mk ((by rw [hg];exact (aX HB.out):w.heap.size ≤ gb494));have GE494:=aA.mk ((by rw [hg];exact (aX HB.out):w.heap.size ≤ gb494));replace HB:=aA.mk (aT HB.out hb);have NB493_494:=aA.mk ((by rw [hg];exact Nat.ne_of_lt (bJ (g:=gb493) (o:=.cells #[.slice A0_0 l0_0.length c0_0,.slice A0_1 l0_1.length c0_1,.int .i64 a0_2,.bool a0_3] 25 (0,0)) BK493.out):gb493 ≠ gb494));have NB494_493:=aA.mk ((by rw [hg];exact Nat.ne_of_gt (bJ (g:=gb493) (o:=.cells #[.slice A0_0 l0_0.length c0_0,.slice A0_1 l0_1.length c0_1,.int .i64 a0_2,.bool a0_3] 25 (0,0)) BK493.out):gb494 ≠ gb493));replace BK493:=aA.mk (bM (g:=gb493) (o:=.cells #[.slice A0_0 l0_0.length c0_0,.slice A0_1 l0_1.length c0_1,.int .i64 a0_2,.bool a0_3] 25 (0,0)) BK493.out hb);clear hb hbox hg));go_upto_region 1 with (first|((with_reducible refine bC (N:=2) rfl ?_);(try (refine cC wN ?_;dsimp only));refine bD ?hg (N:=2) ?hd (cs:=#[.slice A0_0 l0_0.length c0_0,.slice A0_1 l0_1.length c0_1,.int .i64 a0_2,.bool a0_3]) (t:=25) ?hr ?_;(case hd=>rfl);(case hg=>rfl);(case hr=>exact tE);intro gb493 hg w4 hbox hb;have BK493:=aA.mk (hbox);have GW493:=aA.mk ((by rw [hg];exact (aX HB.out):w.heap.size ≤ gb493));have GE493:=aA.mk ((by rw [hg];exact (aX HB.out):w.heap.size ≤ gb493));replace HB:=aA.mk (aT HB.out hb);clear hb hbox hg)|((with_reducible refine bC (N:=3) rfl ?_);(try (refine cC wN ?_;dsimp only));refine bD ?hg (N:=3) ?hd (cs:=#[.slice A1_0 l1_0.length c1_0,.slice A1_1 l1_1.length c1_1,.int .i64 a1_2,.bool a1_3]) (t:=25) ?hr ?_;(case hd=>rfl);(case hg=>rfl);(case hr=>exact tE);intro gb494 hg w5 hbox hb;have BK494:=aA.mk (hbox);have GW494:=aA.mk ((by rw [hg];exact (aX HB.out):w.heap.size ≤ gb494));have GE494:=aA.mk ((by rw [hg];exact (aX HB.out):w.heap.size ≤ gb494));replace HB:=aA.mk (aT HB.out hb);have NB493_494:=aA.mk ((by rw [hg];exact Nat.ne_of_lt (bJ (g:=gb493) (o:=.cells #[.slice A0_0 l0_0.length c0_0,.slice A0_1 l0_1.length c0_1,.int .i64 a0_2,.bool a0_3] 25 (0,0)) BK493.out):gb493 ≠ gb494));have NB494_493:=aA.mk ((by rw [hg];exact Nat.ne_of_gt (bJ (g:=gb493) (o:=.cells #[.slice A0_0 l0_0.length c0_0,.slice A0_1 l0_1.length c0_1,.int .i64 a0_2,.bool a0_3] 25 (0,0)) BK493.out):gb494 ≠ gb493));replace BK493:=aA.mk (bM (g:=gb493) (o:=.cells #[.slice A0_0 l0_0.length c0_0,.slice A0_1 l0_1.length c0_1,.int .i64 a0_2,.bool a0_3] 25 (0,0)) BK493.out hb);clear hb hbox hg)))
 (try simp only [Act.put,lA,lB,lC])
 go_cut [36] (fun v36 wc=>∃ (kq:Nat) (x36_2:Bool),v36 = .bool x36_2 ∧ aA (laws_sameDev.j0 kq x36_2 l0_0 l0_1 a0_2 a0_3 l1_0 l1_1 a1_2 a1_3 = some r) ∧ aA (kq ≤ k) ∧ aA (wc.heap[gb493]? = some (.cells #[(.slice A0_0 l0_0.length c0_0),(.slice A0_1 l0_1.length c0_1),.int .i64 a0_2,.bool a0_3] 25 (0,0))) ∧ aA (wc.heap[gb494]? = some (.cells #[(.slice A1_0 l1_0.length c1_0),(.slice A1_1 l1_1.length c1_1),.int .i64 a1_2,.bool a1_3] 25 (0,0))) ∧ aA (Below w.heap.size w wc))
 case first =>
  have H:=HC3.out
  clear HC3
  by_cases c6:(l0_0.length:Int) = (l1_0.length:Int)
  ·rw [if_pos c6] at H
   have c6b0:((l0_0.length:Int) == (l1_0.length:Int)) = true:=beq_iff_eq.mpr c6
   have c6b1:((l0_0.length:Int) != (l1_0.length:Int)) = false:=bne_eq_false_iff_eq.mpr c6
   have c6b2:(l0_0.length == l1_0.length) = true:=by first|simpa using c6|(simp at c6 ⊢;omega)
   clear c6
   (first|rw [c6b0]|(simp only [bE,bG];rw [c6b0])|skip)
   by_cases c7:(l0_1.length:Int) = (l1_1.length:Int)
   ·rw [if_pos c7] at H
    have c7b0:((l0_1.length:Int) == (l1_1.length:Int)) = true:=beq_iff_eq.mpr c7
    have c7b1:((l0_1.length:Int) != (l1_1.length:Int)) = false:=bne_eq_false_iff_eq.mpr c7
    have c7b2:(l0_1.length == l1_1.length) = true:=by first|simpa using c7|(simp at c7 ⊢;omega)
    clear c7
    by_cases c8:a0_2 = a1_2
    ·rw [if_pos c8] at H
     have c8b0:(a0_2 == a1_2) = true:=beq_iff_eq.mpr c8
     have c8b1:(a0_2 != a1_2) = false:=bne_eq_false_iff_eq.mpr c8
     clear c8
     have H':=aA.mk H
     clear H
     have hnb9:=NB493_494.out
     have hnc9:=NB494_493.out
     obtain ⟨hcz10_0,hcz10_1,hcz10_2,hcz10_3⟩:=cs4 BK493.out
     obtain ⟨hfz10_0,hfz10_1,hfz10_2,hfz10_3⟩:=fs4 BK493.out
     obtain ⟨hcz11_0,hcz11_1,hcz11_2,hcz11_3⟩:=cs4 BK494.out
     obtain ⟨hfz11_0,hfz11_1,hfz11_2,hfz11_3⟩:=fs4 BK494.out
     go_wp2
     repeat (go_quiet (fail);try go_wp2)
     go_meet
     case rel=>exact ⟨_,((a0_3 != a1_3)),td,H',⟨wW⟩,⟨vp⟩,⟨vn⟩,⟨tn⟩⟩
    ·rw [if_neg c8] at H
     have c8b0:(a0_2 == a1_2) = false:=beq_eq_false_iff_ne.mpr c8
     have c8b1:(a0_2 != a1_2) = true:=bne_iff_ne.mpr c8
     have H':=aA.mk H
     clear H
     have hnb12:=NB493_494.out
     have hnc12:=NB494_493.out
     obtain ⟨hcz13_0,hcz13_1,hcz13_2,hcz13_3⟩:=cs4 BK493.out
     obtain ⟨hfz13_0,hfz13_1,hfz13_2,hfz13_3⟩:=fs4 BK493.out
     obtain ⟨hcz14_0,hcz14_1,hcz14_2,hcz14_3⟩:=cs4 BK494.out
     obtain ⟨hfz14_0,hfz14_1,hfz14_2,hfz14_3⟩:=fs4 BK494.out
     go_wp2
     repeat (go_quiet (fail);try go_wp2)
     go_meet
     case rel=>exact ⟨_,(true),td,H',⟨wW⟩,⟨vp⟩,⟨vn⟩,⟨tn⟩⟩
   ·rw [if_neg c7] at H
    have c7b0:((l0_1.length:Int) == (l1_1.length:Int)) = false:=beq_eq_false_iff_ne.mpr c7
    have c7b1:((l0_1.length:Int) != (l1_1.length:Int)) = true:=bne_iff_ne.mpr c7
    have c7b2:(l0_1.length == l1_1.length) = false:=by first|simpa using c7|(simp at c7 ⊢;omega)
    have H':=aA.mk H
    clear H
    have hnb15:=NB493_494.out
    have hnc15:=NB494_493.out
    obtain ⟨hcz16_0,hcz16_1,hcz16_2,hcz16_3⟩:=cs4 BK493.out
    obtain ⟨hfz16_0,hfz16_1,hfz16_2,hfz16_3⟩:=fs4 BK493.out
    obtain ⟨hcz17_0,hcz17_1,hcz17_2,hcz17_3⟩:=cs4 BK494.out
    obtain ⟨hfz17_0,hfz17_1,hfz17_2,hfz17_3⟩:=fs4 BK494.out
    go_wp2
    repeat (go_quiet (fail);try go_wp2)
    go_meet
    case rel=>exact ⟨_,(true),td,H',⟨wW⟩,⟨vp⟩,⟨vn⟩,⟨tn⟩⟩
  ·rw [if_neg c6] at H
   have c6b0:((l0_0.length:Int) == (l1_0.length:Int)) = false:=beq_eq_false_iff_ne.mpr c6
   have c6b1:((l0_0.length:Int) != (l1_0.length:Int)) = true:=bne_iff_ne.mpr c6
   have c6b2:(l0_0.length == l1_0.length) = false:=by first|simpa using c6|(simp at c6 ⊢;omega)
   (first|rw [c6b0]|(simp only [bE,bG];rw [c6b0])|skip)
   have H':=aA.mk H
   clear H
   have hnb18:=NB493_494.out
   have hnc18:=NB494_493.out
   obtain ⟨hcz19_0,hcz19_1,hcz19_2,hcz19_3⟩:=cs4 BK493.out
   obtain ⟨hfz19_0,hfz19_1,hfz19_2,hfz19_3⟩:=fs4 BK493.out
   obtain ⟨hcz20_0,hcz20_1,hcz20_2,hcz20_3⟩:=cs4 BK494.out
   obtain ⟨hfz20_0,hfz20_1,hfz20_2,hfz20_3⟩:=fs4 BK494.out
   go_wp2
   repeat (go_quiet (fail);try go_wp2)
   go_meet
   case rel=>exact ⟨_,(true),td,H',⟨wW⟩,⟨vp⟩,⟨vn⟩,⟨tn⟩⟩
 case rest =>
  clear HC3
  try clear c1
  try clear p2
  try clear c4
  try clear c6
  try clear c6b0
  try clear c6b1
  try clear c6b2
  try clear c7
  try clear c7b0
  try clear c7b1
  try clear c7b2
  try clear c8
  try clear c8b0
  try clear c8b1
  try clear c9
  try clear c12
  try clear c15
  try clear c18
  try clear hcz10_0
  try clear hcz10_1
  try clear hcz10_2
  try clear hcz10_3
  try clear hcz11_0
  try clear hcz11_1
  try clear hcz11_2
  try clear hcz11_3
  try clear hcz13_0
  try clear hcz13_1
  try clear hcz13_2
  try clear hcz13_3
  try clear hcz14_0
  try clear hcz14_1
  try clear hcz14_2
  try clear hcz14_3
  try clear hcz16_0
  try clear hcz16_1
  try clear hcz16_2
  try clear hcz16_3
  try clear hcz17_0
  try clear hcz17_1
  try clear hcz17_2
  try clear hcz17_3
  try clear hcz19_0
  try clear hcz19_1
  try clear hcz19_2
  try clear hcz19_3
  try clear hcz20_0
  try clear hcz20_1
  try clear hcz20_2
  try clear hcz20_3
  try clear hfz10_0
  try clear hfz10_1
  try clear hfz10_2
  try clear hfz10_3
  try clear hfz11_0
  try clear hfz11_1
  try clear hfz11_2
  try clear hfz11_3
  try clear hfz13_0
  try clear hfz13_1
  try clear hfz13_2
  try clear hfz13_3
  try clear hfz14_0
  try clear hfz14_1
  try clear hfz14_2
  try clear hfz14_3
  try clear hfz16_0
  try clear hfz16_1
  try clear hfz16_2
  try clear hfz16_3
  try clear hfz17_0
  try clear hfz17_1
  try clear hfz17_2
  try clear hfz17_3
  try clear hfz19_0
  try clear hfz19_1
  try clear hfz19_2
  try clear hfz19_3
  try clear hfz20_0
  try clear hfz20_1
  try clear hfz20_2
  try clear hfz20_3
  obtain ⟨kq,x36_2,rfl,HA,HJ2,BK493,BK494,HB⟩:=hcut
  cases kq with
  | zero=>exact absurd HA.out (by simp [laws_sameDev.j0])
  | succ kj2 =>
   have H:=HA.out
   clear HA
   simp only [laws_sameDev.j0] at H
   by_cases c21:x36_2 = true
   ·subst c21
    have H1:(some false) = some r:=by rw [if_pos rfl] at H;exact H
    clear H
    have H:=H1
    clear H1
    obtain rfl:=Option.some.inj H
    go_wp2
    repeat (go_quiet (fail);try go_wp2)
    go_ret
    exact ⟨tN,tn⟩
   ·replace c21:=Bool.eq_false_iff.mpr c21
    subst c21
    have H1:(laws_sameDev.l0 kj2 0 l0_0 l0_1 a0_2 a0_3 l1_0 l1_1 a1_2 a1_3) = some r:=by rw [if_neg (show ¬ (false = true) by decide)] at H;exact H
    clear H
    have H:=H1
    clear H1
    have H':=aA.mk H
    clear H
    go_wp2
    repeat (go_quiet (fail);try go_wp2)
    go_loopg [5] kj2 (fun kq v5 w'=>∃ (x5_2:Int),v5 = .int .i64 x5_2 ∧ aA (laws_sameDev.l0 kq x5_2 l0_0 l0_1 a0_2 a0_3 l1_0 l1_1 a1_2 a1_3 = some r) ∧ aA (kq ≤ kj2) ∧ aA (w'.heap[gb493]? = some (.cells #[(.slice A0_0 l0_0.length c0_0),(.slice A0_1 l0_1.length c0_1),.int .i64 a0_2,.bool a0_3] 25 (0,0))) ∧ aA (w'.heap[gb494]? = some (.cells #[(.slice A1_0 l1_0.length c1_0),(.slice A1_1 l1_1.length c1_1),.int .i64 a1_2,.bool a1_3] 25 (0,0))) ∧ aA (Below w.heap.size w w'))
    case atStart=>exact ⟨(0),td,H',⟨Nat.le_refl _⟩,⟨vp⟩,⟨vn⟩,⟨tn⟩⟩
    case round =>
     clear H'
     try clear c1
     try clear c2
     try clear p2
     try clear c4
     try clear c6
     try clear c6b0
     try clear c6b1
     try clear c6b2
     try clear c7
     try clear c7b0
     try clear c7b1
     try clear c7b2
     try clear c8
     try clear c8b0
     try clear c8b1
     try clear c9
     try clear c12
     try clear c15
     try clear c18
     try clear c21
     try clear hcz10_0
     try clear hcz10_1
     try clear hcz10_2
     try clear hcz10_3
     try clear hcz11_0
     try clear hcz11_1
     try clear hcz11_2
     try clear hcz11_3
     try clear hcz13_0
     try clear hcz13_1
     try clear hcz13_2
     try clear hcz13_3
     try clear hcz14_0
     try clear hcz14_1
     try clear hcz14_2
     try clear hcz14_3
     try clear hcz16_0
     try clear hcz16_1
     try clear hcz16_2
     try clear hcz16_3
     try clear hcz17_0
     try clear hcz17_1
     try clear hcz17_2
     try clear hcz17_3
     try clear hcz19_0
     try clear hcz19_1
     try clear hcz19_2
     try clear hcz19_3
     try clear hcz20_0
     try clear hcz20_1
     try clear hcz20_2
     try clear hcz20_3
     try clear hfz10_0
     try clear hfz10_1
     try clear hfz10_2
     try clear hfz10_3
     try clear hfz11_0
     try clear hfz11_1
     try clear hfz11_2
     try clear hfz11_3
     try clear hfz13_0
     try clear hfz13_1
     try clear hfz13_2
     try clear hfz13_3
     try clear hfz14_0
     try clear hfz14_1
     try clear hfz14_2
     try clear hfz14_3
     try clear hfz16_0
     try clear hfz16_1
     try clear hfz16_2
     try clear hfz16_3
     try clear hfz17_0
     try clear hfz17_1
     try clear hfz17_2
     try clear hfz17_3
     try clear hfz19_0
     try clear hfz19_1
     try clear hfz19_2
     try clear hfz19_3
     try clear hfz20_0
     try clear hfz20_1
     try clear hfz20_2
     try clear hfz20_3
     try clear p2
     obtain ⟨x5_2,rfl,HA,HK2,BK493,BK494,HB⟩:=hrel
     cases gk with
     | zero=>exact absurd HA.out (by simp [laws_sameDev.l0])
     | succ k2 =>
      have H:=HA.out
      clear HA
      simp only [laws_sameDev.l0] at H
      by_cases c22:x5_2 < (l0_0.length:Int)
      ·rw [if_pos c22] at H
       have c22b0:decide (x5_2 < (l0_0.length:Int)) = true:=decide_eq_true c22
       clear c22
       by_cases c23:0 ≤ x5_2
       ·rw [if_pos c23] at H
        have c23b0:decide (0 ≤ x5_2) = true:=decide_eq_true c23
        clear c23
        by_cases c24:x5_2 < (l1_0.length:Int)
        ·rw [if_pos c24] at H
         have c24b0:decide (x5_2 < (l1_0.length:Int)) = true:=decide_eq_true c24
         clear c24
         by_cases c25:(strOfNums (rd_L1 l0_0 x5_2)).toList = (strOfNums (rd_L1 l1_0 x5_2)).toList
         ·rw [if_pos c25] at H
          have c25b0:((strOfNums (rd_L1 l0_0 x5_2)).toList == (strOfNums (rd_L1 l1_0 x5_2)).toList) = true:=beq_iff_eq.mpr c25
          have c25b1:((strOfNums (rd_L1 l0_0 x5_2)).toList != (strOfNums (rd_L1 l1_0 x5_2)).toList) = false:=bne_eq_false_iff_eq.mpr c25
          clear c25
          have H':=aA.mk H
          clear H
          have hnb26:=NB493_494.out
          have hnc26:=NB494_493.out
          obtain ⟨hcz27_0,hcz27_1,hcz27_2,hcz27_3⟩:=cs4 BK493.out
          obtain ⟨hfz27_0,hfz27_1,hfz27_2,hfz27_3⟩:=fs4 BK493.out
          have p495:0 ≤ (x5_2:Int):=lE tx
          have q495:x5_2 < (l0_0.length:Int):=lE tx
          obtain ⟨ad495,A495_0,c495_0,e495,hx495_0,hl495_0,hi495_0⟩:=at_L1 HR0_0.out x5_2 p495 q495
          cases e495
          replace hx495_0:=(HB.out.cell (lD w _ hx495_0)).trans hx495_0
          have HR495_0:=aA.mk hi495_0
          have HC495_0:=aA.mk hl495_0
          clear hi495_0 hl495_0
          replace p495:=eq_true p495
          replace q495:=eq_true q495
          have hcv28:=fun m_=>Kd.C_string (P:=Try.prog) (A:=A495_0) (c:=c495_0) Try.underlying37 Try.underlying5 Try.underlying9 (Kd.C_drewN (Kd.C_below HR495_0.out HB.out) m_)
          obtain ⟨hcz29_0,hcz29_1,hcz29_2,hcz29_3⟩:=cs4 BK494.out
          obtain ⟨hfz29_0,hfz29_1,hfz29_2,hfz29_3⟩:=fs4 BK494.out
          have p496:0 ≤ (x5_2:Int):=lE tx
          have q496:x5_2 < (l1_0.length:Int):=lE tx
          obtain ⟨ad496,A496_0,c496_0,e496,hx496_0,hl496_0,hi496_0⟩:=at_L1 HR1_0.out x5_2 p496 q496
          cases e496
          replace hx496_0:=(HB.out.cell (lD w _ hx496_0)).trans hx496_0
          have HR496_0:=aA.mk hi496_0
          have HC496_0:=aA.mk hl496_0
          clear hi496_0 hl496_0
          replace p496:=eq_true p496
          replace q496:=eq_true q496
          have hcv30:=fun m_=>Kd.C_string (P:=Try.prog) (A:=A496_0) (c:=c496_0) Try.underlying37 Try.underlying5 Try.underlying9 (Kd.C_drewN (Kd.C_below HR496_0.out HB.out) m_)
          go_wp2
          repeat (go_quiet (fail);try go_wp2)
          go_roundg k2
          case measure=>have:=HJ2.out;have:=HK2.out;omega
          case rel=>exact ⟨(wrap64 (x5_2 + 1)),td,H',⟨by have:=HJ2.out;have:=HK2.out;omega⟩,⟨vp⟩,⟨vn⟩,⟨tn⟩⟩
         ·rw [if_neg c25] at H
          have c25b0:((strOfNums (rd_L1 l0_0 x5_2)).toList == (strOfNums (rd_L1 l1_0 x5_2)).toList) = false:=beq_eq_false_iff_ne.mpr c25
          have c25b1:((strOfNums (rd_L1 l0_0 x5_2)).toList != (strOfNums (rd_L1 l1_0 x5_2)).toList) = true:=bne_iff_ne.mpr c25
          obtain rfl:=Option.some.inj H
          have hnb31:=NB493_494.out
          have hnc31:=NB494_493.out
          obtain ⟨hcz32_0,hcz32_1,hcz32_2,hcz32_3⟩:=cs4 BK493.out
          obtain ⟨hfz32_0,hfz32_1,hfz32_2,hfz32_3⟩:=fs4 BK493.out
          have p495:0 ≤ (x5_2:Int):=lE tx
          have q495:x5_2 < (l0_0.length:Int):=lE tx
          obtain ⟨ad495,A495_0,c495_0,e495,hx495_0,hl495_0,hi495_0⟩:=at_L1 HR0_0.out x5_2 p495 q495
          cases e495
          replace hx495_0:=(HB.out.cell (lD w _ hx495_0)).trans hx495_0
          have HR495_0:=aA.mk hi495_0
          have HC495_0:=aA.mk hl495_0
          clear hi495_0 hl495_0
          replace p495:=eq_true p495
          replace q495:=eq_true q495
          have hcv33:=fun m_=>Kd.C_string (P:=Try.prog) (A:=A495_0) (c:=c495_0) Try.underlying37 Try.underlying5 Try.underlying9 (Kd.C_drewN (Kd.C_below HR495_0.out HB.out) m_)
          obtain ⟨hcz34_0,hcz34_1,hcz34_2,hcz34_3⟩:=cs4 BK494.out
          obtain ⟨hfz34_0,hfz34_1,hfz34_2,hfz34_3⟩:=fs4 BK494.out
          have p496:0 ≤ (x5_2:Int):=lE tx
          have q496:x5_2 < (l1_0.length:Int):=lE tx
          obtain ⟨ad496,A496_0,c496_0,e496,hx496_0,hl496_0,hi496_0⟩:=at_L1 HR1_0.out x5_2 p496 q496
          cases e496
          replace hx496_0:=(HB.out.cell (lD w _ hx496_0)).trans hx496_0
          have HR496_0:=aA.mk hi496_0
          have HC496_0:=aA.mk hl496_0
          clear hi496_0 hl496_0
          replace p496:=eq_true p496
          replace q496:=eq_true q496
          have hcv35:=fun m_=>Kd.C_string (P:=Try.prog) (A:=A496_0) (c:=c496_0) Try.underlying37 Try.underlying5 Try.underlying9 (Kd.C_drewN (Kd.C_below HR496_0.out HB.out) m_)
          go_wp2
          repeat (go_quiet (fail);try go_wp2)
          go_ret
          exact ⟨tN,tn⟩
        ·rw [if_neg c24] at H
         exact wX
       ·rw [if_neg c23] at H
        exact wX
      ·rw [if_neg c22] at H
       have c22b0:decide (x5_2 < (l0_0.length:Int)) = false:=decide_eq_false c22
       clear c22
       have H':=aA.mk H
       clear H
       have hnb36:=NB493_494.out
       have hnc36:=NB494_493.out
       obtain ⟨hcz37_0,hcz37_1,hcz37_2,hcz37_3⟩:=cs4 BK493.out
       obtain ⟨hfz37_0,hfz37_1,hfz37_2,hfz37_3⟩:=fs4 BK493.out
       go_wp2
       repeat (go_quiet (fail);try go_wp2)
       go_loopg [6] k2 (fun kq v6 w'=>∃ (x6_3:Int),v6 = .int .i64 x6_3 ∧ aA (laws_sameDev.l1 kq x6_3 l0_0 l0_1 a0_2 a0_3 l1_0 l1_1 a1_2 a1_3 = some r) ∧ aA (kq ≤ k2) ∧ aA (w'.heap[gb493]? = some (.cells #[(.slice A0_0 l0_0.length c0_0),(.slice A0_1 l0_1.length c0_1),.int .i64 a0_2,.bool a0_3] 25 (0,0))) ∧ aA (w'.heap[gb494]? = some (.cells #[(.slice A1_0 l1_0.length c1_0),(.slice A1_1 l1_1.length c1_1),.int .i64 a1_2,.bool a1_3] 25 (0,0))) ∧ aA (Below w.heap.size w w'))
       case atStart=>exact ⟨(0),td,H',⟨Nat.le_refl _⟩,⟨vp⟩,⟨vn⟩,⟨tn⟩⟩
       case round =>
        clear H'
        try clear c1
        try clear c2
        try clear p2
        try clear hcv2
        try clear c3
        try clear hcv3
        try clear c4
        try clear p4
        try clear q4
        try clear hx4
        try clear c6
        try clear c6b0
        try clear c6b1
        try clear c6b2
        try clear p6
        try clear c7
        try clear c7b0
        try clear c7b1
        try clear c7b2
        try clear c8
        try clear c8b0
        try clear c8b1
        try clear c9
        try clear c12
        try clear c15
        try clear c18
        try clear c21
        try clear c22
        try clear c22b0
        try clear c23
        try clear c23b0
        try clear c24
        try clear c24b0
        try clear c25
        try clear c25b0
        try clear c25b1
        try clear c26
        try clear hcv28
        try clear hcv30
        try clear c31
        try clear hcv33
        try clear hcv35
        try clear c36
        try clear hcz10_0
        try clear hcz10_1
        try clear hcz10_2
        try clear hcz10_3
        try clear hcz11_0
        try clear hcz11_1
        try clear hcz11_2
        try clear hcz11_3
        try clear hcz13_0
        try clear hcz13_1
        try clear hcz13_2
        try clear hcz13_3
        try clear hcz14_0
        try clear hcz14_1
        try clear hcz14_2
        try clear hcz14_3
        try clear hcz16_0
        try clear hcz16_1
        try clear hcz16_2
        try clear hcz16_3
        try clear hcz17_0
        try clear hcz17_1
        try clear hcz17_2
        try clear hcz17_3
        try clear hcz19_0
        try clear hcz19_1
        try clear hcz19_2
        try clear hcz19_3
        try clear hcz20_0
        try clear hcz20_1
        try clear hcz20_2
        try clear hcz20_3
        try clear hcz27_0
        try clear hcz27_1
        try clear hcz27_2
        try clear hcz27_3
        try clear hcz29_0
        try clear hcz29_1
        try clear hcz29_2
        try clear hcz29_3
        try clear hcz32_0
        try clear hcz32_1
        try clear hcz32_2
        try clear hcz32_3
        try clear hcz34_0
        try clear hcz34_1
        try clear hcz34_2
        try clear hcz34_3
        try clear hcz37_0
        try clear hcz37_1
        try clear hcz37_2
        try clear hcz37_3
        try clear hfz10_0
        try clear hfz10_1
        try clear hfz10_2
        try clear hfz10_3
        try clear hfz11_0
        try clear hfz11_1
        try clear hfz11_2
        try clear hfz11_3
        try clear hfz13_0
        try clear hfz13_1
        try clear hfz13_2
        try clear hfz13_3
        try clear hfz14_0
        try clear hfz14_1
        try clear hfz14_2
        try clear hfz14_3
        try clear hfz16_0
        try clear hfz16_1
        try clear hfz16_2
        try clear hfz16_3
        try clear hfz17_0
        try clear hfz17_1
        try clear hfz17_2
        try clear hfz17_3
        try clear hfz19_0
        try clear hfz19_1
        try clear hfz19_2
        try clear hfz19_3
        try clear hfz20_0
        try clear hfz20_1
        try clear hfz20_2
        try clear hfz20_3
        try clear hfz27_0
        try clear hfz27_1
        try clear hfz27_2
        try clear hfz27_3
        try clear hfz29_0
        try clear hfz29_1
        try clear hfz29_2
        try clear hfz29_3
        try clear hfz32_0
        try clear hfz32_1
        try clear hfz32_2
        try clear hfz32_3
        try clear hfz34_0
        try clear hfz34_1
        try clear hfz34_2
        try clear hfz34_3
        try clear hfz37_0
        try clear hfz37_1
        try clear hfz37_2
        try clear hfz37_3
        try clear hx495_0
        try clear hx496_0
        try clear p2
        try clear p495
        try clear p496
        try clear q495
        try clear q496
        obtain ⟨x6_3,rfl,HA,HK3,BK493,BK494,HB⟩:=hrel
        cases gk with
        | zero=>exact absurd HA.out (by simp [laws_sameDev.l1])
        | succ k3 =>
         have H:=HA.out
         clear HA
         simp only [laws_sameDev.l1] at H
         by_cases c38:x6_3 < (l0_1.length:Int)
         ·rw [if_pos c38] at H
          have c38b0:decide (x6_3 < (l0_1.length:Int)) = true:=decide_eq_true c38
          clear c38
          by_cases c39:0 ≤ x6_3
          ·rw [if_pos c39] at H
           have c39b0:decide (0 ≤ x6_3) = true:=decide_eq_true c39
           clear c39
           by_cases c40:x6_3 < (l1_1.length:Int)
           ·rw [if_pos c40] at H
            have c40b0:decide (x6_3 < (l1_1.length:Int)) = true:=decide_eq_true c40
            clear c40
            by_cases c41:((rd_T50 l0_1 x6_3).f0) = ((rd_T50 l1_1 x6_3).f0)
            ·rw [if_pos c41] at H
             have c41b0:(((rd_T50 l0_1 x6_3).f0) == ((rd_T50 l1_1 x6_3).f0)) = true:=beq_iff_eq.mpr c41
             have c41b1:(((rd_T50 l0_1 x6_3).f0) != ((rd_T50 l1_1 x6_3).f0)) = false:=bne_eq_false_iff_eq.mpr c41
             clear c41
             by_cases c42:(strOfNums ((rd_T50 l0_1 x6_3).f1)).toList = (strOfNums ((rd_T50 l1_1 x6_3).f1)).toList
             ·rw [if_pos c42] at H
              have c42b0:((strOfNums ((rd_T50 l0_1 x6_3).f1)).toList == (strOfNums ((rd_T50 l1_1 x6_3).f1)).toList) = true:=beq_iff_eq.mpr c42
              have c42b1:((strOfNums ((rd_T50 l0_1 x6_3).f1)).toList != (strOfNums ((rd_T50 l1_1 x6_3).f1)).toList) = false:=bne_eq_false_iff_eq.mpr c42
              clear c42
              have H':=aA.mk H
              clear H
              have hnb43:=NB493_494.out
              have hnc43:=NB494_493.out
              obtain ⟨hcz44_0,hcz44_1,hcz44_2,hcz44_3⟩:=cs4 BK493.out
              obtain ⟨hfz44_0,hfz44_1,hfz44_2,hfz44_3⟩:=fs4 BK493.out
              have p497:0 ≤ (x6_3:Int):=lE tx
              have q497:x6_3 < (l0_1.length:Int):=lE tx
              obtain ⟨ad497,A497_1,c497_1,e497,hx497_0,hx497_1,hl497_1,hi497_1⟩:=at_T50 HR0_1.out x6_3 p497 q497
              cases e497
              replace hx497_0:=(HB.out.cell (lD w _ hx497_0)).trans hx497_0
              replace hx497_1:=(HB.out.cell (lD w _ hx497_1)).trans hx497_1
              have HR497_1:=aA.mk hi497_1
              have HC497_1:=aA.mk hl497_1
              clear hi497_1 hl497_1
              replace p497:=eq_true p497
              replace q497:=eq_true q497
              obtain ⟨hcz45_0,hcz45_1,hcz45_2,hcz45_3⟩:=cs4 BK494.out
              obtain ⟨hfz45_0,hfz45_1,hfz45_2,hfz45_3⟩:=fs4 BK494.out
              have p498:0 ≤ (x6_3:Int):=lE tx
              have q498:x6_3 < (l1_1.length:Int):=lE tx
              obtain ⟨ad498,A498_1,c498_1,e498,hx498_0,hx498_1,hl498_1,hi498_1⟩:=at_T50 HR1_1.out x6_3 p498 q498
              cases e498
              replace hx498_0:=(HB.out.cell (lD w _ hx498_0)).trans hx498_0
              replace hx498_1:=(HB.out.cell (lD w _ hx498_1)).trans hx498_1
              have HR498_1:=aA.mk hi498_1
              have HC498_1:=aA.mk hl498_1
              clear hi498_1 hl498_1
              replace p498:=eq_true p498
              replace q498:=eq_true q498
              have p499:0 ≤ (x6_3:Int):=lE tx
              have q499:x6_3 < (l0_1.length:Int):=lE tx
              obtain ⟨ad499,A499_1,c499_1,e499,hx499_0,hx499_1,hl499_1,hi499_1⟩:=at_T50 HR0_1.out x6_3 p499 q499
              obtain rfl:ad497 = ad499:=(by injection e499)
              replace hx499_0:=(HB.out.cell (lD w _ hx499_0)).trans hx499_0
              replace hx499_1:=(HB.out.cell (lD w _ hx499_1)).trans hx499_1
              have HR499_1:=aA.mk hi499_1
              have HC499_1:=aA.mk hl499_1
              clear hi499_1 hl499_1
              replace p499:=eq_true p499
              replace q499:=eq_true q499
              have ea_:=Option.some.inj (hx497_1.symm.trans hx499_1)
              injection ea_ with ea_ en_ ec_
              subst ea_
              subst ec_
              clear en_
              have hcv46:=fun m_=>Kd.C_string (P:=Try.prog) (A:=A497_1) (c:=c497_1) Try.underlying37 Try.underlying5 Try.underlying9 (Kd.C_drewN (Kd.C_below HR499_1.out HB.out) m_)
              have p500:0 ≤ (x6_3:Int):=lE tx
              have q500:x6_3 < (l1_1.length:Int):=lE tx
              obtain ⟨ad500,A500_1,c500_1,e500,hx500_0,hx500_1,hl500_1,hi500_1⟩:=at_T50 HR1_1.out x6_3 p500 q500
              obtain rfl:ad498 = ad500:=(by injection e500)
              replace hx500_0:=(HB.out.cell (lD w _ hx500_0)).trans hx500_0
              replace hx500_1:=(HB.out.cell (lD w _ hx500_1)).trans hx500_1
              have HR500_1:=aA.mk hi500_1
              have HC500_1:=aA.mk hl500_1
              clear hi500_1 hl500_1
              replace p500:=eq_true p500
              replace q500:=eq_true q500
              have ea_:=Option.some.inj (hx498_1.symm.trans hx500_1)
              injection ea_ with ea_ en_ ec_
              subst ea_
              subst ec_
              clear en_
              have hcv47:=fun m_=>Kd.C_string (P:=Try.prog) (A:=A498_1) (c:=c498_1) Try.underlying37 Try.underlying5 Try.underlying9 (Kd.C_drewN (Kd.C_below HR500_1.out HB.out) m_)
              go_wp2
              repeat (go_quiet (fail);try go_wp2)
              go_roundg k3
              case measure=>have:=HJ2.out;have:=HK2.out;have:=HK3.out;omega
              case rel=>exact ⟨(wrap64 (x6_3 + 1)),td,H',⟨by have:=HJ2.out;have:=HK2.out;have:=HK3.out;omega⟩,⟨vp⟩,⟨vn⟩,⟨tn⟩⟩
             ·rw [if_neg c42] at H
              have c42b0:((strOfNums ((rd_T50 l0_1 x6_3).f1)).toList == (strOfNums ((rd_T50 l1_1 x6_3).f1)).toList) = false:=beq_eq_false_iff_ne.mpr c42
              have c42b1:((strOfNums ((rd_T50 l0_1 x6_3).f1)).toList != (strOfNums ((rd_T50 l1_1 x6_3).f1)).toList) = true:=bne_iff_ne.mpr c42
              obtain rfl:=Option.some.inj H
              have hnb48:=NB493_494.out
              have hnc48:=NB494_493.out
              obtain ⟨hcz49_0,hcz49_1,hcz49_2,hcz49_3⟩:=cs4 BK493.out
              obtain ⟨hfz49_0,hfz49_1,hfz49_2,hfz49_3⟩:=fs4 BK493.out
              have p497:0 ≤ (x6_3:Int):=lE tx
              have q497:x6_3 < (l0_1.length:Int):=lE tx
              obtain ⟨ad497,A497_1,c497_1,e497,hx497_0,hx497_1,hl497_1,hi497_1⟩:=at_T50 HR0_1.out x6_3 p497 q497
              cases e497
              replace hx497_0:=(HB.out.cell (lD w _ hx497_0)).trans hx497_0
              replace hx497_1:=(HB.out.cell (lD w _ hx497_1)).trans hx497_1
              have HR497_1:=aA.mk hi497_1
              have HC497_1:=aA.mk hl497_1
              clear hi497_1 hl497_1
              replace p497:=eq_true p497
              replace q497:=eq_true q497
              obtain ⟨hcz50_0,hcz50_1,hcz50_2,hcz50_3⟩:=cs4 BK494.out
              obtain ⟨hfz50_0,hfz50_1,hfz50_2,hfz50_3⟩:=fs4 BK494.out
              have p498:0 ≤ (x6_3:Int):=lE tx
              have q498:x6_3 < (l1_1.length:Int):=lE tx
              obtain ⟨ad498,A498_1,c498_1,e498,hx498_0,hx498_1,hl498_1,hi498_1⟩:=at_T50 HR1_1.out x6_3 p498 q498
              cases e498
              replace hx498_0:=(HB.out.cell (lD w _ hx498_0)).trans hx498_0
              replace hx498_1:=(HB.out.cell (lD w _ hx498_1)).trans hx498_1
              have HR498_1:=aA.mk hi498_1
              have HC498_1:=aA.mk hl498_1
              clear hi498_1 hl498_1
              replace p498:=eq_true p498
              replace q498:=eq_true q498
              have p499:0 ≤ (x6_3:Int):=lE tx
              have q499:x6_3 < (l0_1.length:Int):=lE tx
              obtain ⟨ad499,A499_1,c499_1,e499,hx499_0,hx499_1,hl499_1,hi499_1⟩:=at_T50 HR0_1.out x6_3 p499 q499
              obtain rfl:ad497 = ad499:=(by injection e499)
              replace hx499_0:=(HB.out.cell (lD w _ hx499_0)).trans hx499_0
              replace hx499_1:=(HB.out.cell (lD w _ hx499_1)).trans hx499_1
              have HR499_1:=aA.mk hi499_1
              have HC499_1:=aA.mk hl499_1
              clear hi499_1 hl499_1
              replace p499:=eq_true p499
              replace q499:=eq_true q499
              have ea_:=Option.some.inj (hx497_1.symm.trans hx499_1)
              injection ea_ with ea_ en_ ec_
              subst ea_
              subst ec_
              clear en_
              have hcv51:=fun m_=>Kd.C_string (P:=Try.prog) (A:=A497_1) (c:=c497_1) Try.underlying37 Try.underlying5 Try.underlying9 (Kd.C_drewN (Kd.C_below HR499_1.out HB.out) m_)
              have p500:0 ≤ (x6_3:Int):=lE tx
              have q500:x6_3 < (l1_1.length:Int):=lE tx
              obtain ⟨ad500,A500_1,c500_1,e500,hx500_0,hx500_1,hl500_1,hi500_1⟩:=at_T50 HR1_1.out x6_3 p500 q500
              obtain rfl:ad498 = ad500:=(by injection e500)
              replace hx500_0:=(HB.out.cell (lD w _ hx500_0)).trans hx500_0
              replace hx500_1:=(HB.out.cell (lD w _ hx500_1)).trans hx500_1
              have HR500_1:=aA.mk hi500_1
              have HC500_1:=aA.mk hl500_1
              clear hi500_1 hl500_1
              replace p500:=eq_true p500
              replace q500:=eq_true q500
              have ea_:=Option.some.inj (hx498_1.symm.trans hx500_1)
              injection ea_ with ea_ en_ ec_
              subst ea_
              subst ec_
              clear en_
              have hcv52:=fun m_=>Kd.C_string (P:=Try.prog) (A:=A498_1) (c:=c498_1) Try.underlying37 Try.underlying5 Try.underlying9 (Kd.C_drewN (Kd.C_below HR500_1.out HB.out) m_)
              go_wp2
              repeat (go_quiet (fail);try go_wp2)
              go_ret
              exact ⟨tN,tn⟩
            ·rw [if_neg c41] at H
             have c41b0:(((rd_T50 l0_1 x6_3).f0) == ((rd_T50 l1_1 x6_3).f0)) = false:=beq_eq_false_iff_ne.mpr c41
             have c41b1:(((rd_T50 l0_1 x6_3).f0) != ((rd_T50 l1_1 x6_3).f0)) = true:=bne_iff_ne.mpr c41
             obtain rfl:=Option.some.inj H
             have hnb53:=NB493_494.out
             have hnc53:=NB494_493.out
             obtain ⟨hcz54_0,hcz54_1,hcz54_2,hcz54_3⟩:=cs4 BK493.out
             obtain ⟨hfz54_0,hfz54_1,hfz54_2,hfz54_3⟩:=fs4 BK493.out
             have p497:0 ≤ (x6_3:Int):=lE tx
             have q497:x6_3 < (l0_1.length:Int):=lE tx
             obtain ⟨ad497,A497_1,c497_1,e497,hx497_0,hx497_1,hl497_1,hi497_1⟩:=at_T50 HR0_1.out x6_3 p497 q497
             cases e497
             replace hx497_0:=(HB.out.cell (lD w _ hx497_0)).trans hx497_0
             replace hx497_1:=(HB.out.cell (lD w _ hx497_1)).trans hx497_1
             have HR497_1:=aA.mk hi497_1
             have HC497_1:=aA.mk hl497_1
             clear hi497_1 hl497_1
             replace p497:=eq_true p497
             replace q497:=eq_true q497
             obtain ⟨hcz55_0,hcz55_1,hcz55_2,hcz55_3⟩:=cs4 BK494.out
             obtain ⟨hfz55_0,hfz55_1,hfz55_2,hfz55_3⟩:=fs4 BK494.out
             have p498:0 ≤ (x6_3:Int):=lE tx
             have q498:x6_3 < (l1_1.length:Int):=lE tx
             obtain ⟨ad498,A498_1,c498_1,e498,hx498_0,hx498_1,hl498_1,hi498_1⟩:=at_T50 HR1_1.out x6_3 p498 q498
             cases e498
             replace hx498_0:=(HB.out.cell (lD w _ hx498_0)).trans hx498_0
             replace hx498_1:=(HB.out.cell (lD w _ hx498_1)).trans hx498_1
             have HR498_1:=aA.mk hi498_1
             have HC498_1:=aA.mk hl498_1
             clear hi498_1 hl498_1
             replace p498:=eq_true p498
             replace q498:=eq_true q498
             go_wp2
             repeat (go_quiet (fail);try go_wp2)
             go_ret
             exact ⟨tN,tn⟩
           ·rw [if_neg c40] at H
            exact wX
          ·rw [if_neg c39] at H
           exact wX
         ·rw [if_neg c38] at H
          have c38b0:decide (x6_3 < (l0_1.length:Int)) = false:=decide_eq_false c38
          clear c38
          obtain rfl:=Option.some.inj H
          have hnb56:=NB493_494.out
          have hnc56:=NB494_493.out
          obtain ⟨hcz57_0,hcz57_1,hcz57_2,hcz57_3⟩:=cs4 BK493.out
          obtain ⟨hfz57_0,hfz57_1,hfz57_2,hfz57_3⟩:=fs4 BK493.out
          go_wp2
          repeat (go_quiet (fail);try go_wp2)
          go_ret
          exact ⟨tN,tn⟩
end Go.Proofs.Ytilhcaofpfeioaa.PFnDevsBent

namespace Go.Proofs.Ytilhcaofpfeioaa.PFnDevsBent
open Go.RowKit Go.Proofs.YtilhcaofpfeioaaW.PrintWords Go.Proofs.YtilhcaofpfeioaaW.PrintLast Go.Proofs.YtilhcaofpfeioaaW.PrintMore
attribute [local go_sem] max2_int min2_int max_two min_two max_three min_three max_four min_four   -- for this text's walks alone
set_option linter.unusedVariables false
set_option linter.unusedSimpArgs false
-- NOT PRINTED: function 11 (laws_FnDevsBent)
end Go.Proofs.Ytilhcaofpfeioaa.PFnDevsBent

namespace Go.Proofs.Ytilhcaofpfeioaa.Law
open Go.RowKit Go.Proofs.Ytilhcaofpfeioaa.PFnDevsBent Go.Proofs.Ytilhcaofpfeioaa.Core Go.Proofs.YtilhcaofpfeioaaW.PrintWords Go.Proofs.YtilhcaofpfeioaaW.PrintLast Go.Proofs.YtilhcaofpfeioaaW.PrintMore Go.Proofs.Ytilhcaofpfeioaa.Pure
set_option linter.unusedSimpArgs false
set_option linter.unusedVariables false
set_option maxHeartbeats 8000000 in
set_option maxRecDepth 100000 in
theorem walk_WriteSecspec_1 (A0_0:Option Addr) (c0_0:Nat) (l0_0:List (List (Int))) (A0_1:Option Addr) (c0_1:Nat) (l0_1:List (S50)) (a0_2:Int) (a0_3:Bool) (a1:Int) (A2:Option Addr) (c2:Nat) (l2:List (Int)) (w:World) (hf0_0:Kd.F (Kd.slice 5 (Kd.int .u8)) w (In 0 w.heap.size) A0_0 l0_0.length l0_0) (hc0_0:l0_0.length ≤ c0_0) (hf0_1:Kd.F k50 w (In 0 w.heap.size) A0_1 l0_1.length l0_1) (hc0_1:l0_1.length ≤ c0_1) (hf2:Kd.F (Kd.int .u8) w (In 0 w.heap.size) A2 l2.length l2) (hc2:l2.length ≤ c2) (hok0:okByteSS l0_0) (hok1:okWrS l0_1) (hdo:devOkB l0_0 l0_1 a0_2 = false) :
  Calls Try.prog 26 #[.agg #[.slice A0_0 l0_0.length c0_0,.slice A0_1 l0_1.length c0_1,.int .i64 a0_2,.bool a0_3],.int .i64 a1,.slice A2 l2.length c2] w fun e w'=>∃ v0_ v1_:Value,e = .returned (.agg #[v0_,v1_,.int .i64 a0_2,.bool a0_3]) ∧ Kd.N (Kd.slice 5 (Kd.int .u8)) 37 w' w.heap.size (fun k_=>w.heap.size ≤ k_) v0_ l0_0 ∧ Kd.N k50 50 w' w.heap.size (fun k_=>w.heap.size ≤ k_) v1_ l0_1 ∧ Below w.heap.size w w':=by
 have hu25:=Try.underlying25
 have hu50:=Try.underlying50
 have HF0_0:=aA.mk hf0_0
 have HC0_0:=aA.mk hc0_0
 clear hf0_0 hc0_0
 have HF0_1:=aA.mk hf0_1
 have HC0_1:=aA.mk hc0_1
 clear hf0_1 hc0_1
 have HF2:=aA.mk hf2
 have HC2:=aA.mk hc2
 clear hf2 hc2
 have HB:=aA.mk (Below.refl w.heap.size w)
 have HORD:=aA.mk (Nat.le_refl w.heap.size)
 have HT:=aA.mk (Nat.le_refl w.heap.size)
 obtain ⟨kc,hc0_⟩:=evGet (spec_l2Copy_ev l0_0 l0_1 a0_2 a0_3 hok0 hok1)
 have JC:=aA.mk hc0_
 obtain ⟨kd,hd0_⟩:=evGet (spec_DevOk_ev l0_0 l0_1 a0_2 a0_3 hok0 hok1)
 rw [hdo] at hd0_
 have JD:=aA.mk hd0_
 clear hc0_ hd0_
 go_enter Try.func26,Try.ntmps26
 go_wp2_with (first|((with_reducible refine bC (N:=3) rfl ?_);refine bD ?hg (N:=3) ?hd (cs:=#[.slice A0_0 l0_0.length c0_0,.slice A0_1 l0_1.length c0_1,.int .i64 a0_2,.bool a0_3]) (t:=25) ?hr ?_;(case hd=>rfl);(case hg=>rfl);(case hr=>exact tE);intro gb1 hg_ w1 hbox hb;have hge_:w.heap.size ≤ gb1:=tk;have hlt_:gb1 + 1 ≤ w1.heap.size:=bJ hbox;replace HF0_0:=nF HF0_0;replace HF0_1:=nF HF0_1;replace HF2:=nF HF2;replace HB:=aA.mk (aT HB.out hb);replace BK1:=aA.mk (hbox);replace HORD:=aA.mk (And.intro HORD.out (And.intro hge_ (Nat.le_succ gb1)));replace HT:=aA.mk (hlt_);clear hb hbox hg_ hge_ hlt_;have:=bs4 BK1.out)|((with_reducible refine bC (N:=6) rfl ?_);refine bD ?hg (N:=6) ?hd (cs:=#[.slice none 0 0,.slice none 0 0,.int .i64 0,.bool false]) (t:=25) ?hr ?_;(case hd=>rfl);(case hg=>rfl);(case hr=>exact tE);intro gb2 hg_ w2 hbox hb;have hge_:(gb1 + 1) ≤ gb2:=tk;have hlt_:gb2 + 1 ≤ w2.heap.size:=bJ hbox;replace HF0_0:=nF HF0_0;replace HF0_1:=nF HF0_1;replace HF2:=nF HF2;replace BK1:=nB BK1;replace HB:=aA.mk (aT HB.out hb);replace BK2:=aA.mk (hbox);replace HORD:=aA.mk (And.intro HORD.out (And.intro hge_ (Nat.le_succ gb2)));replace HT:=aA.mk (hlt_);clear hb hbox hg_ hge_ hlt_;have:=bs4 BK1.out;have:=bs4 BK2.out)|((with_reducible refine aW (f:=56) rfl ?_);refine bK (some 9) rfl rfl Try.func56 tG rfl #[.agg #[.slice A0_0 l0_0.length c0_0,.slice A0_1 l0_1.length c0_1,.int .i64 a0_2,.bool a0_3]] rfl tC ?_;(with_reducible refine (spec_l2Copy.calls kc _ _ l0_0 _ _ l0_1 a0_2 a0_3 l0_0 l0_1 a0_2 a0_3 _ ?s1 ?s2 ?s3 ?s4 JC.out).mono ?_);(case s1=>exact wn);(case s2=>exact Ay);(case s3=>exact wm);(case s4=>exact Ax);rintro e_ w3 ⟨v0_,v1_,rfl,ho0,ho1,hb⟩;refine ⟨_,rfl,?_⟩;obtain ⟨lo3,hi3,el_,eh_,ol_,oh_⟩:=Mem.times HT.out hb;(try rw [← el_] at ho0);obtain ⟨A3_0,c3_0,ev_,hc0_,hf0_,hs0_⟩:=Mem.new_S ho0 eh_;subst ev_;(try rw [← el_] at ho1);obtain ⟨A3_1,c3_1,ev_,hc1_,hf1_,hs1_⟩:=Mem.new_S ho1 eh_;subst ev_;replace HF0_0:=nF HF0_0;replace HF0_1:=nF HF0_1;replace HF2:=nF HF2;replace BK1:=nB BK1;replace BK2:=nB BK2;replace HB:=aA.mk (aT HB.out hb);replace HF3_0:=aA.mk (hf0_);replace HC3_0:=aA.mk (hc0_);replace HS3_0:=aA.mk (hs0_);replace HF3_1:=aA.mk (hf1_);replace HC3_1:=aA.mk (hc1_);replace HS3_1:=aA.mk (hs1_);replace HORD:=aA.mk (And.intro HORD.out (And.intro ol_ oh_));replace HT:=aA.mk (Nat.le_of_eq eh_);clear ol_ oh_ el_ eh_ ho0 hf0_ hc0_ hs0_ ho1 hf1_ hc1_ hs1_;(try clear hb);have:=bs4 BK1.out;have:=bs4 BK2.out)|((with_reducible refine bC (N:=7) rfl ?_);refine bD ?hg (N:=7) ?hd (cs:=#[.slice none 0 0,.slice none 0 0,.int .i64 0,.bool false]) (t:=25) ?hr ?_;(case hd=>rfl);(case hg=>rfl);(case hr=>exact tE);intro gb4 hg_ w4 hbox hb;have hge_:hi3 ≤ gb4:=tk;have hlt_:gb4 + 1 ≤ w4.heap.size:=bJ hbox;replace HF0_0:=nF HF0_0;replace HF0_1:=nF HF0_1;replace HF2:=nF HF2;replace HF3_0:=nF HF3_0;replace HS3_0:=nS HS3_0;replace HF3_1:=nF HF3_1;replace HS3_1:=nS HS3_1;replace BK1:=nB BK1;replace BK2:=nB BK2;replace HB:=aA.mk (aT HB.out hb);replace BK4:=aA.mk (hbox);replace HORD:=aA.mk (And.intro HORD.out (And.intro hge_ (Nat.le_succ gb4)));replace HT:=aA.mk (hlt_);clear hb hbox hg_ hge_ hlt_;have:=bs4 BK1.out;have:=bs4 BK2.out;have:=bs4 BK4.out)|((with_reducible refine bN (t:=25) (p:=7) rfl ?_);refine bL (t:=25) (p:=7) (v:=?vo_w5) (w1:=((((w4.setCell ⟨gb4,0,none⟩ (.slice A3_0 l0_0.length c3_0)).setCell ⟨gb4,1,none⟩ (.slice A3_1 l0_1.length c3_1)).setCell ⟨gb4,2,none⟩ (.int .i64 a0_2)).setCell ⟨gb4,3,none⟩ (.bool a0_3))) ?hg ?ho ?hn ?hr ?_;(case ho=>rfl);(case hg=>rfl);(case hn=>rfl);(case hr=>exact tE);intro w5 hw_;have hkp:Kept w4 w5 (fun k_=>k_ = gb4):=tj;have hge_:w.heap.size ≤ gb4:=tL;have hbn_:Below w.heap.size w w5:=tU;have hbk_:w5.heap[gb4]? = some (.cells #[.slice A3_0 l0_0.length c3_0,.slice A3_1 l0_1.length c3_1,.int .i64 a0_2,.bool a0_3] 25 (0,0)):=tF;have hsz_:(gb4 + 1) ≤ w5.heap.size:=Nat.le_trans HT.out hkp.1;replace HF0_0:=aA.mk (Kd.aU HF0_0.out hkp tA);replace HF0_1:=aA.mk (Kd.aU HF0_1.out hkp tA);replace HF2:=aA.mk (Kd.aU HF2.out hkp tA);replace HF3_0:=aA.mk (Kd.aU HF3_0.out hkp tA);replace HS3_0:=aA.mk (Kd.bP HS3_0.out hkp tA);replace HF3_1:=aA.mk (Kd.aU HF3_1.out hkp tA);replace HS3_1:=aA.mk (Kd.bP HS3_1.out hkp tA);replace BK1:=aA.mk (aY BK1.out hkp tB);replace BK2:=aA.mk (aY BK2.out hkp tB);replace HB:=aA.mk (hbn_);replace BK4:=aA.mk (hbk_);replace HT:=aA.mk (hsz_);clear hw_ hkp hge_ hbn_ hbk_ hsz_;have:=bs4 BK1.out;have:=bs4 BK2.out;have:=bs4 BK4.out)|((with_reducible refine aW (f:=18) rfl ?_);refine bK (some 11) rfl rfl Try.func18 tG rfl #[.agg #[.slice A0_0 l0_0.length c0_0,.slice A0_1 l0_1.length c0_1,.int .i64 a0_2,.bool a0_3]] rfl tC ?_;(with_reducible refine (spec_DevOk.calls kd _ _ l0_0 _ _ l0_1 a0_2 a0_3 false _ ?s1 ?s2 ?s3 ?s4 JD.out).mono ?_);(case s1=>exact wn);(case s2=>exact Ay);(case s3=>exact wm);(case s4=>exact Ax);rintro e_ w6 ⟨rfl,hb⟩;refine ⟨_,rfl,?_⟩;replace HF0_0:=nF HF0_0;replace HF0_1:=nF HF0_1;replace HF2:=nF HF2;replace HF3_0:=nF HF3_0;replace HS3_0:=nS HS3_0;replace HF3_1:=nF HF3_1;replace HS3_1:=nS HS3_1;replace BK1:=nB BK1;replace BK2:=nB BK2;replace BK4:=nB BK4;replace HB:=aA.mk (aT HB.out hb);replace HT:=aA.mk (Nat.le_trans HT.out hb.size);(try clear hb);have:=bs4 BK1.out;have:=bs4 BK2.out;have:=bs4 BK4.out)|((with_reducible refine bN (t:=25) (p:=6) rfl ?_);refine bL (t:=25) (p:=6) (v:=?vo_w7) (w1:=((((w6.setCell ⟨gb2,0,none⟩ (.slice A3_0 l0_0.length c3_0)).setCell ⟨gb2,1,none⟩ (.slice A3_1 l0_1.length c3_1)).setCell ⟨gb2,2,none⟩ (.int .i64 a0_2)).setCell ⟨gb2,3,none⟩ (.bool a0_3))) ?hg ?ho ?hn ?hr ?_;(case ho=>rfl);(case hg=>rfl);(case hn=>rfl);(case hr=>exact tE);intro w7 hw_;have hkp:Kept w6 w7 (fun k_=>k_ = gb2):=vJ;have hge_:w.heap.size ≤ gb2:=tL;have hbn_:Below w.heap.size w w7:=tU;have hbk_:w7.heap[gb2]? = some (.cells #[.slice A3_0 l0_0.length c3_0,.slice A3_1 l0_1.length c3_1,.int .i64 a0_2,.bool a0_3] 25 (0,0)):=tW;have hsz_:(gb4 + 1) ≤ w7.heap.size:=Nat.le_trans HT.out hkp.1;replace HF0_0:=aA.mk (Kd.aU HF0_0.out hkp tA);replace HF0_1:=aA.mk (Kd.aU HF0_1.out hkp tA);replace HF2:=aA.mk (Kd.aU HF2.out hkp tA);replace HF3_0:=aA.mk (Kd.aU HF3_0.out hkp tA);replace HS3_0:=aA.mk (Kd.bP HS3_0.out hkp tA);replace HF3_1:=aA.mk (Kd.aU HF3_1.out hkp tA);replace HS3_1:=aA.mk (Kd.bP HS3_1.out hkp tA);replace BK1:=aA.mk (aY BK1.out hkp tB);replace BK4:=aA.mk (aY BK4.out hkp tB);replace HB:=aA.mk (hbn_);replace BK2:=aA.mk (hbk_);replace HT:=aA.mk (hsz_);clear hw_ hkp hge_ hbn_ hbk_ hsz_;have:=bs4 BK1.out;have:=bs4 BK2.out;have:=bs4 BK4.out))
 refine bodyPost_ret (fn:=Try.f26) (P:=Try.prog) (results_cell_row rfl _ _ gb2 25 #[.slice A3_0 l0_0.length c3_0,.slice A3_1 l0_1.length c3_1,.int .i64 a0_2,.bool a0_3] (0,0) _ rfl BK2.out Try.underlying25 rfl tG) rfl ?_
 exact ⟨_,_,rfl,Kd.aV (Kd.N_lower (Kd.R_N (Kd.S_R HS3_0.out)) tq) vY,Kd.aV (Kd.N_lower (Kd.R_N (Kd.S_R HS3_1.out)) tq) vY,HB.out⟩
set_option maxHeartbeats 8000000 in
set_option maxRecDepth 100000 in
theorem walk_WriteSecspec_2 (A0_0:Option Addr) (c0_0:Nat) (l0_0:List (List (Int))) (A0_1:Option Addr) (c0_1:Nat) (l0_1:List (S50)) (a0_2:Int) (a0_3:Bool) (a1:Int) (A2:Option Addr) (c2:Nat) (l2:List (Int)) (w:World) (hf0_0:Kd.F (Kd.slice 5 (Kd.int .u8)) w (In 0 w.heap.size) A0_0 l0_0.length l0_0) (hc0_0:l0_0.length ≤ c0_0) (hf0_1:Kd.F k50 w (In 0 w.heap.size) A0_1 l0_1.length l0_1) (hc0_1:l0_1.length ≤ c0_1) (hf2:Kd.F (Kd.int .u8) w (In 0 w.heap.size) A2 l2.length l2) (hc2:l2.length ≤ c2) (hok0:okByteSS l0_0) (hok1:okWrS l0_1) (hdo:devOkB l0_0 l0_1 a0_2 = true) :
  Calls Try.prog 26 #[.agg #[.slice A0_0 l0_0.length c0_0,.slice A0_1 l0_1.length c0_1,.int .i64 a0_2,.bool a0_3],.int .i64 a1,.slice A2 l2.length c2] w fun e w'=>∃ v0_ v1_:Value,e = .returned (.agg #[v0_,v1_,.int .i64 (wrote l0_0 l0_1 a0_2 a0_3 a1 l2).2.1,.bool (wrote l0_0 l0_1 a0_2 a0_3 a1 l2).2.2]) ∧ Kd.N (Kd.slice 5 (Kd.int .u8)) 37 w' w.heap.size (fun k_=>w.heap.size ≤ k_) v0_ l0_0 ∧ Kd.N k50 50 w' w.heap.size (fun k_=>w.heap.size ≤ k_) v1_ (wrote l0_0 l0_1 a0_2 a0_3 a1 l2).1 ∧ Below w.heap.size w w':=by
 have hu25:=Try.underlying25
 have hu50:=Try.underlying50
 have HF0_0:=aA.mk hf0_0
 have HC0_0:=aA.mk hc0_0
 clear hf0_0 hc0_0
 have HF0_1:=aA.mk hf0_1
 have HC0_1:=aA.mk hc0_1
 clear hf0_1 hc0_1
 have HF2:=aA.mk hf2
 have HC2:=aA.mk hc2
 clear hf2 hc2
 have HB:=aA.mk (Below.refl w.heap.size w)
 have HORD:=aA.mk (Nat.le_refl w.heap.size)
 have HT:=aA.mk (Nat.le_refl w.heap.size)
 obtain ⟨kc,hc0_⟩:=evGet (spec_l2Copy_ev l0_0 l0_1 a0_2 a0_3 hok0 hok1)
 have JC:=aA.mk hc0_
 obtain ⟨kd,hd0_⟩:=evGet (spec_DevOk_ev l0_0 l0_1 a0_2 a0_3 hok0 hok1)
 rw [hdo] at hd0_
 have JD:=aA.mk hd0_
 clear hc0_ hd0_
 go_enter Try.func26,Try.ntmps26
 go_wp2_with (first|((with_reducible refine bC (N:=3) rfl ?_);refine bD ?hg (N:=3) ?hd (cs:=#[.slice A0_0 l0_0.length c0_0,.slice A0_1 l0_1.length c0_1,.int .i64 a0_2,.bool a0_3]) (t:=25) ?hr ?_;(case hd=>rfl);(case hg=>rfl);(case hr=>exact tE);intro gb1 hg_ w1 hbox hb;have hge_:w.heap.size ≤ gb1:=tk;have hlt_:gb1 + 1 ≤ w1.heap.size:=bJ hbox;replace HF0_0:=nF HF0_0;replace HF0_1:=nF HF0_1;replace HF2:=nF HF2;replace HB:=aA.mk (aT HB.out hb);replace BK1:=aA.mk (hbox);replace HORD:=aA.mk (And.intro HORD.out (And.intro hge_ (Nat.le_succ gb1)));replace HT:=aA.mk (hlt_);clear hb hbox hg_ hge_ hlt_;have:=bs4 BK1.out)|((with_reducible refine bC (N:=6) rfl ?_);refine bD ?hg (N:=6) ?hd (cs:=#[.slice none 0 0,.slice none 0 0,.int .i64 0,.bool false]) (t:=25) ?hr ?_;(case hd=>rfl);(case hg=>rfl);(case hr=>exact tE);intro gb2 hg_ w2 hbox hb;have hge_:(gb1 + 1) ≤ gb2:=tk;have hlt_:gb2 + 1 ≤ w2.heap.size:=bJ hbox;replace HF0_0:=nF HF0_0;replace HF0_1:=nF HF0_1;replace HF2:=nF HF2;replace BK1:=nB BK1;replace HB:=aA.mk (aT HB.out hb);replace BK2:=aA.mk (hbox);replace HORD:=aA.mk (And.intro HORD.out (And.intro hge_ (Nat.le_succ gb2)));replace HT:=aA.mk (hlt_);clear hb hbox hg_ hge_ hlt_;have:=bs4 BK1.out;have:=bs4 BK2.out)|((with_reducible refine aW (f:=56) rfl ?_);refine bK (some 9) rfl rfl Try.func56 tG rfl #[.agg #[.slice A0_0 l0_0.length c0_0,.slice A0_1 l0_1.length c0_1,.int .i64 a0_2,.bool a0_3]] rfl tC ?_;(with_reducible refine (spec_l2Copy.calls kc _ _ l0_0 _ _ l0_1 a0_2 a0_3 l0_0 l0_1 a0_2 a0_3 _ ?s1 ?s2 ?s3 ?s4 JC.out).mono ?_);(case s1=>exact wn);(case s2=>exact Ay);(case s3=>exact wm);(case s4=>exact Ax);rintro e_ w3 ⟨v0_,v1_,rfl,ho0,ho1,hb⟩;refine ⟨_,rfl,?_⟩;obtain ⟨lo3,hi3,el_,eh_,ol_,oh_⟩:=Mem.times HT.out hb;(try rw [← el_] at ho0);obtain ⟨A3_0,c3_0,ev_,hc0_,hf0_,hs0_⟩:=Mem.new_S ho0 eh_;subst ev_;(try rw [← el_] at ho1);obtain ⟨A3_1,c3_1,ev_,hc1_,hf1_,hs1_⟩:=Mem.new_S ho1 eh_;subst ev_;replace HF0_0:=nF HF0_0;replace HF0_1:=nF HF0_1;replace HF2:=nF HF2;replace BK1:=nB BK1;replace BK2:=nB BK2;replace HB:=aA.mk (aT HB.out hb);replace HF3_0:=aA.mk (hf0_);replace HC3_0:=aA.mk (hc0_);replace HS3_0:=aA.mk (hs0_);replace HF3_1:=aA.mk (hf1_);replace HC3_1:=aA.mk (hc1_);replace HS3_1:=aA.mk (hs1_);replace HORD:=aA.mk (And.intro HORD.out (And.intro ol_ oh_));replace HT:=aA.mk (Nat.le_of_eq eh_);clear ol_ oh_ el_ eh_ ho0 hf0_ hc0_ hs0_ ho1 hf1_ hc1_ hs1_;(try clear hb);have:=bs4 BK1.out;have:=bs4 BK2.out)|((with_reducible refine bC (N:=7) rfl ?_);refine bD ?hg (N:=7) ?hd (cs:=#[.slice none 0 0,.slice none 0 0,.int .i64 0,.bool false]) (t:=25) ?hr ?_;(case hd=>rfl);(case hg=>rfl);(case hr=>exact tE);intro gb4 hg_ w4 hbox hb;have hge_:hi3 ≤ gb4:=tk;have hlt_:gb4 + 1 ≤ w4.heap.size:=bJ hbox;replace HF0_0:=nF HF0_0;replace HF0_1:=nF HF0_1;replace HF2:=nF HF2;replace HF3_0:=nF HF3_0;replace HS3_0:=nS HS3_0;replace HF3_1:=nF HF3_1;replace HS3_1:=nS HS3_1;replace BK1:=nB BK1;replace BK2:=nB BK2;replace HB:=aA.mk (aT HB.out hb);replace BK4:=aA.mk (hbox);replace HORD:=aA.mk (And.intro HORD.out (And.intro hge_ (Nat.le_succ gb4)));replace HT:=aA.mk (hlt_);clear hb hbox hg_ hge_ hlt_;have:=bs4 BK1.out;have:=bs4 BK2.out;have:=bs4 BK4.out)|((with_reducible refine bN (t:=25) (p:=7) rfl ?_);refine bL (t:=25) (p:=7) (v:=?vo_w5) (w1:=((((w4.setCell ⟨gb4,0,none⟩ (.slice A3_0 l0_0.length c3_0)).setCell ⟨gb4,1,none⟩ (.slice A3_1 l0_1.length c3_1)).setCell ⟨gb4,2,none⟩ (.int .i64 a0_2)).setCell ⟨gb4,3,none⟩ (.bool a0_3))) ?hg ?ho ?hn ?hr ?_;(case ho=>rfl);(case hg=>rfl);(case hn=>rfl);(case hr=>exact tE);intro w5 hw_;have hkp:Kept w4 w5 (fun k_=>k_ = gb4):=tj;have hge_:w.heap.size ≤ gb4:=tL;have hbn_:Below w.heap.size w w5:=tU;have hbk_:w5.heap[gb4]? = some (.cells #[.slice A3_0 l0_0.length c3_0,.slice A3_1 l0_1.length c3_1,.int .i64 a0_2,.bool a0_3] 25 (0,0)):=tF;have hsz_:(gb4 + 1) ≤ w5.heap.size:=Nat.le_trans HT.out hkp.1;replace HF0_0:=aA.mk (Kd.aU HF0_0.out hkp tA);replace HF0_1:=aA.mk (Kd.aU HF0_1.out hkp tA);replace HF2:=aA.mk (Kd.aU HF2.out hkp tA);replace HF3_0:=aA.mk (Kd.aU HF3_0.out hkp tA);replace HS3_0:=aA.mk (Kd.bP HS3_0.out hkp tA);replace HF3_1:=aA.mk (Kd.aU HF3_1.out hkp tA);replace HS3_1:=aA.mk (Kd.bP HS3_1.out hkp tA);replace BK1:=aA.mk (aY BK1.out hkp tB);replace BK2:=aA.mk (aY BK2.out hkp tB);replace HB:=aA.mk (hbn_);replace BK4:=aA.mk (hbk_);replace HT:=aA.mk (hsz_);clear hw_ hkp hge_ hbn_ hbk_ hsz_;have:=bs4 BK1.out;have:=bs4 BK2.out;have:=bs4 BK4.out)|((with_reducible refine aW (f:=18) rfl ?_);refine bK (some 11) rfl rfl Try.func18 tG rfl #[.agg #[.slice A0_0 l0_0.length c0_0,.slice A0_1 l0_1.length c0_1,.int .i64 a0_2,.bool a0_3]] rfl tC ?_;(with_reducible refine (spec_DevOk.calls kd _ _ l0_0 _ _ l0_1 a0_2 a0_3 true _ ?s1 ?s2 ?s3 ?s4 JD.out).mono ?_);(case s1=>exact wn);(case s2=>exact Ay);(case s3=>exact wm);(case s4=>exact Ax);rintro e_ w6 ⟨rfl,hb⟩;refine ⟨_,rfl,?_⟩;replace HF0_0:=nF HF0_0;replace HF0_1:=nF HF0_1;replace HF2:=nF HF2;replace HF3_0:=nF HF3_0;replace HS3_0:=nS HS3_0;replace HF3_1:=nF HF3_1;replace HS3_1:=nS HS3_1;replace BK1:=nB BK1;replace BK2:=nB BK2;replace BK4:=nB BK4;replace HB:=aA.mk (aT HB.out hb);replace HT:=aA.mk (Nat.le_trans HT.out hb.size);(try clear hb);have:=bs4 BK1.out;have:=bs4 BK2.out;have:=bs4 BK4.out)|((with_reducible refine aW (f:=57) rfl ?_);refine bK (some 14) rfl rfl Try.func57 tG rfl #[.pointer (some ⟨gb4,0,none⟩),.int .i64 a1,.slice A2 l2.length c2] rfl tC ?_;obtain ⟨gS_,hSl_,hSe_,hS4_⟩:=own_num (.slice A3_0 l0_0.length c3_0) w6.heap.size tH (Kd.S_lt HS3_0.out);obtain ⟨gC_,hCl_,hCe_,hC4_⟩:=own_num (.slice A3_1 l0_1.length c3_1) w6.heap.size tH (Kd.S_lt HS3_1.out);have hn0_:=Kd.aV (ok':=Ex lo3 gC_ gb4) (Kd.R_N (Kd.S_R (Kd.S_apart' (Kd.bZ HS3_0.out tq:Kd.S (Kd.slice 5 (Kd.int .u8)) 37 w6 w.heap.size (In lo3 hi3) (.slice A3_0 l0_0.length c3_0) l0_0) (Kd.S_typed HS3_1.out) tf))) (fun k_ hk_=>⟨hk_.1.1,ex_of hC4_ hCe_ hk_.2 AD,AK⟩);have hn1_:=Kd.aV (ok':=Ex lo3 gS_ gb4) (Kd.R_N (Kd.S_R (Kd.S_apart' (Kd.bZ HS3_1.out tq:Kd.S k50 50 w6 w.heap.size (In lo3 hi3) (.slice A3_1 l0_1.length c3_1) l0_1) (Kd.S_typed HS3_0.out) tf))) (fun k_ hk_=>⟨hk_.1.1,ex_of hS4_ hSe_ hk_.2 AD,AK⟩);have hgS_:=ex_of hS4_ hSe_ (Kd.S_ne HS3_0.out BK4.out tf) tH;have hgC_:=ex_of hC4_ hCe_ (Kd.S_ne HS3_1.out BK4.out tf) tH;(with_reducible refine (spec_l2WriteS.calls _ _ l0_0 _ _ l0_1 a0_2 a0_3 (a1) _ _ l2 w _ gb4 HB.out BK4.out lo3 gS_ gC_ ?s1 ?s2 ⟨hSl_,hgS_⟩ ⟨hCl_,hgC_⟩ hCe_ hSe_ hn0_ hn1_ ?s3 HC2.out).mono ?_);(case s1=>exact tH);(case s2=>exact tH);(case s3=>exact Kd.F_mono HF2.out (fun k_ hk_=>by have o_:=HORD.out;(try simp only [In2,Up,In,Ex] at hk_ ⊢);omega));rintro e_ w7 ⟨rfl,hwp_⟩;refine ⟨_,rfl,?_⟩;unfold WrPost at hwp_;obtain ⟨u1_,gn7,hbk_,hgn_,hgl_,hm0_,hm1_,hbn_,hkp⟩:=hwp_;obtain ⟨ys7,ey_⟩:∃ y_,y_ = (wrote l0_0 l0_1 a0_2 a0_3 a1 l2).1:=⟨_,rfl⟩;rw [← ey_] at hm1_;have HY7:=aA.mk ey_;obtain ⟨A7,c7,ev_⟩:=Kd.cB hm1_;subst ev_;obtain ⟨hi7,e2_⟩:∃ n_,n_ = w7.heap.size:=⟨_,rfl⟩;have ol_:(gb4 + 1) ≤ hi7:=wT;rw [← e2_] at hgl_;replace hm0_:=Kd.aV (ok':=Exb lo3 gn7 gb4 hi7) (Kd.N_bound hm0_) (fun k_ hk_=>⟨hk_.1,by rw [e2_];exact hk_.2⟩);replace hm1_:=Kd.aV (ok':=Exb lo3 gS_ gb4 hi7) (Kd.N_bound hm1_) (fun k_ hk_=>⟨hk_.1,by rw [e2_];exact hk_.2⟩);replace HF0_0:=aA.mk (Kd.aU HF0_0.out hkp tA);replace HF0_1:=aA.mk (Kd.aU HF0_1.out hkp tA);replace HF2:=aA.mk (Kd.aU HF2.out hkp tA);replace BK1:=aA.mk (aY BK1.out hkp tB);replace BK2:=aA.mk (aY BK2.out hkp tB);replace HB:=aA.mk (hbn_);replace BK4:=aA.mk (hbk_);replace HORD:=aA.mk (And.intro HORD.out (And.intro ol_ hgl_));replace HT:=aA.mk (Nat.le_of_eq e2_);replace HM7:=aA.mk (hm0_);replace HN7:=aA.mk (hm1_);clear hbk_ hbn_ hkp hm0_ hm1_ hgn_ hgl_ ol_ e2_ ey_;have:=bs4 BK1.out;have:=bs4 BK2.out;have:=bs4 BK4.out)|((with_reducible refine bN (t:=25) (p:=6) rfl ?_);refine bL (t:=25) (p:=6) (v:=?vo_w8) (w1:=((((w7.setCell ⟨gb2,0,none⟩ (.slice A3_0 l0_0.length c3_0)).setCell ⟨gb2,1,none⟩ (.slice A7 ys7.length c7)).setCell ⟨gb2,2,none⟩ (.int .i64 ((wrote l0_0 l0_1 a0_2 a0_3 a1 l2).2.1))).setCell ⟨gb2,3,none⟩ (.bool ((wrote l0_0 l0_1 a0_2 a0_3 a1 l2).2.2)))) ?hg ?ho ?hn ?hr ?_;(case ho=>rfl);(case hg=>rfl);(case hn=>rfl);(case hr=>exact tE);intro w8 hw_;have hkp:Kept w7 w8 (fun k_=>k_ = gb2):=(by rw [hw_];exact Kept.setCell (Kept.setCell (Kept.setCell (Kept.setCell (Kept.refl w7 (fun k_=>k_ = gb2)) (.inl rfl) (.slice A3_0 l0_0.length c3_0)) (.inl rfl) (.slice A7 ys7.length c7)) (.inl rfl) (.int .i64 ((wrote l0_0 l0_1 a0_2 a0_3 a1 l2).2.1))) (.inl rfl) (.bool ((wrote l0_0 l0_1 a0_2 a0_3 a1 l2).2.2)));have hge_:w.heap.size ≤ gb2:=tL;have hbn_:Below w.heap.size w w8:=tU;have hbk_:w8.heap[gb2]? = some (.cells #[.slice A3_0 l0_0.length c3_0,.slice A7 ys7.length c7,.int .i64 ((wrote l0_0 l0_1 a0_2 a0_3 a1 l2).2.1),.bool ((wrote l0_0 l0_1 a0_2 a0_3 a1 l2).2.2)] 25 (0,0)):=(by rw [hw_];exact aQ (cs:=#[.slice A3_0 l0_0.length c3_0,.slice A7 ys7.length c7,.int .i64 ((wrote l0_0 l0_1 a0_2 a0_3 a1 l2).2.1),.bool false]) (cs':=#[.slice A3_0 l0_0.length c3_0,.slice A7 ys7.length c7,.int .i64 ((wrote l0_0 l0_1 a0_2 a0_3 a1 l2).2.1),.bool ((wrote l0_0 l0_1 a0_2 a0_3 a1 l2).2.2)]) (aQ (cs:=#[.slice A3_0 l0_0.length c3_0,.slice A7 ys7.length c7,.int .i64 0,.bool false]) (cs':=#[.slice A3_0 l0_0.length c3_0,.slice A7 ys7.length c7,.int .i64 ((wrote l0_0 l0_1 a0_2 a0_3 a1 l2).2.1),.bool false]) (aQ (cs:=#[.slice A3_0 l0_0.length c3_0,.slice none 0 0,.int .i64 0,.bool false]) (cs':=#[.slice A3_0 l0_0.length c3_0,.slice A7 ys7.length c7,.int .i64 0,.bool false]) (aQ (cs:=#[.slice none 0 0,.slice none 0 0,.int .i64 0,.bool false]) (cs':=#[.slice A3_0 l0_0.length c3_0,.slice none 0 0,.int .i64 0,.bool false]) (BK2.out) 0 _ rfl) 1 _ rfl) 2 _ rfl) 3 _ rfl);have hsz_:hi7 ≤ w8.heap.size:=Nat.le_trans HT.out hkp.1;replace HF0_0:=aA.mk (Kd.aU HF0_0.out hkp tA);replace HF0_1:=aA.mk (Kd.aU HF0_1.out hkp tA);replace HF2:=aA.mk (Kd.aU HF2.out hkp tA);replace HM7:=aA.mk (Kd.N_kept HM7.out hkp tA);replace HN7:=aA.mk (Kd.N_kept HN7.out hkp tA);replace BK1:=aA.mk (aY BK1.out hkp tB);replace BK4:=aA.mk (aY BK4.out hkp tB);replace HB:=aA.mk (hbn_);replace BK2:=aA.mk (hbk_);replace HT:=aA.mk (hsz_);clear hw_ hkp hge_ hbn_ hbk_ hsz_;have:=bs4 BK1.out;have:=bs4 BK2.out;have:=bs4 BK4.out))
 refine bodyPost_ret (fn:=Try.f26) (P:=Try.prog) (results_cell_row rfl _ _ gb2 25 #[.slice A3_0 l0_0.length c3_0,.slice A7 ys7.length c7,.int .i64 ((wrote l0_0 l0_1 a0_2 a0_3 a1 l2).2.1),.bool ((wrote l0_0 l0_1 a0_2 a0_3 a1 l2).2.2)] (0,0) _ rfl BK2.out Try.underlying25 rfl tG) rfl ?_
 exact ⟨_,_,rfl,Kd.aV (Kd.N_lower (HM7.out) tq) vY,(by rw [← HY7.out];exact Kd.aV (Kd.N_lower (HN7.out) tq) vY),HB.out⟩
def spec_WriteSec.f (l0_0:List (List Int)) (l0_1:List (S50)) (a0_2:Int) (a0_3:Bool) (a1:Int) (l2:List Int):Option (List (List Int) × List (S50) × Int × Bool):=if okDevB l0_0 l0_1 = true then some (writeSec l0_0 l0_1 a0_2 a0_3 a1 l2) else none
theorem spec_WriteSec.calls (P0_0_:Nat → Prop) (A0_0:Option Addr) (c0_0:Nat) (l0_0:List (List Int)) (P0_1_:Nat → Prop) (A0_1:Option Addr) (c0_1:Nat) (l0_1:List (S50)) (a0_2:Int) (a0_3:Bool) (a1:Int) (P2_:Nat → Prop) (A2:Option Addr) (c2:Nat) (l2:List Int) (r1:List (List Int)) (r2:List (S50)) (r3:Int) (r4:Bool) (w:World) (hs0_0:Kd.V (Kd.slice 5 (Kd.int .u8)) 37 w w.heap.size (fun k_=>P0_0_ k_) (.slice A0_0 l0_0.length c0_0) l0_0) (hs0_1:Kd.V k50 50 w w.heap.size (fun k_=>P0_1_ k_) (.slice A0_1 l0_1.length c0_1) l0_1) (hs2:Kd.V (Kd.int .u8) 5 w w.heap.size (fun k_=>P2_ k_) (.slice A2 l2.length c2) l2) (h:spec_WriteSec.f l0_0 l0_1 a0_2 a0_3 a1 l2 = some (r1,r2,r3,r4)) :
  Calls Try.prog 26 #[.agg #[.slice A0_0 l0_0.length c0_0,.slice A0_1 l0_1.length c0_1,.int .i64 a0_2,.bool a0_3],.int .i64 a1,.slice A2 l2.length c2] w fun e w'=>∃ v0_ v1_:Value,e = .returned (.agg #[v0_,v1_,.int .i64 r3,.bool r4]) ∧ Kd.N (Kd.slice 5 (Kd.int .u8)) 37 w' w.heap.size (fun k_=>w.heap.size ≤ k_) v0_ r1 ∧ Kd.N k50 50 w' w.heap.size (fun k_=>w.heap.size ≤ k_) v1_ r2 ∧ Below w.heap.size w w':=by
 obtain ⟨_,hc0_,hf0_⟩:=Kd.V_at hs0_0
 obtain ⟨_,hc1_,hf1_⟩:=Kd.V_at hs0_1
 replace hf0_:=Kd.F_mono (ok':=In 0 w.heap.size) (Kd.F_bound hf0_) (fun k hk=>⟨Nat.zero_le k,hk.2⟩)
 replace hf1_:=Kd.F_mono (ok':=In 0 w.heap.size) (Kd.F_bound hf1_) (fun k hk=>⟨Nat.zero_le k,hk.2⟩)
 obtain ⟨_,hc2_,hf2_⟩:=Kd.V_at hs2
 replace hf2_:=Kd.F_mono (ok':=In 0 w.heap.size) (Kd.F_bound hf2_) (fun k hk=>⟨Nat.zero_le k,hk.2⟩)
 unfold spec_WriteSec.f at h
 split at h
 ·rename_i hok
  unfold okDevB at hok
  simp only [Bool.and_eq_true,decide_eq_true_eq] at hok
  obtain ⟨hok0,hok1⟩:=hok
  injection h with h
  unfold writeSec at h
  by_cases hdo:devOkB l0_0 l0_1 a0_2 = true
  ·rw [if_pos hdo] at h
   simp only [Prod.mk.injEq,Prod.ext_iff] at h
   obtain ⟨rfl,rfl,rfl,rfl⟩:=h
   exact walk_WriteSecspec_2 _ _ _ _ _ _ _ _ _ _ _ _ w hf0_ hc0_ hf1_ hc1_ hf2_ hc2_ hok0 hok1 hdo
  ·rw [if_neg hdo] at h
   simp only [Prod.mk.injEq] at h
   obtain ⟨rfl,rfl,rfl,rfl⟩:=h
   exact walk_WriteSecspec_1 _ _ _ _ _ _ _ _ _ _ _ _ w hf0_ hc0_ hf1_ hc1_ hf2_ hc2_ hok0 hok1 (by simpa using hdo)
 ·cases h
set_option maxHeartbeats 8000000 in
set_option maxRecDepth 100000 in
theorem walk_FlushDevspec_1 (A0_0:Option Addr) (c0_0:Nat) (l0_0:List (List (Int))) (A0_1:Option Addr) (c0_1:Nat) (l0_1:List (S50)) (a0_2:Int) (a0_3:Bool) (w:World) (hf0_0:Kd.F (Kd.slice 5 (Kd.int .u8)) w (In 0 w.heap.size) A0_0 l0_0.length l0_0) (hc0_0:l0_0.length ≤ c0_0) (hf0_1:Kd.F k50 w (In 0 w.heap.size) A0_1 l0_1.length l0_1) (hc0_1:l0_1.length ≤ c0_1) (hok0:okByteSS l0_0) (hok1:okWrS l0_1) (hdo:devOkB l0_0 l0_1 a0_2 = false) :
  Calls Try.prog 29 #[.agg #[.slice A0_0 l0_0.length c0_0,.slice A0_1 l0_1.length c0_1,.int .i64 a0_2,.bool a0_3]] w fun e w'=>∃ v0_ v1_:Value,e = .returned (.agg #[v0_,v1_,.int .i64 a0_2,.bool a0_3]) ∧ Kd.N (Kd.slice 5 (Kd.int .u8)) 37 w' w.heap.size (fun k_=>w.heap.size ≤ k_) v0_ l0_0 ∧ Kd.N k50 50 w' w.heap.size (fun k_=>w.heap.size ≤ k_) v1_ l0_1 ∧ Below w.heap.size w w':=by
 have hu25:=Try.underlying25
 have hu50:=Try.underlying50
 have HF0_0:=aA.mk hf0_0
 have HC0_0:=aA.mk hc0_0
 clear hf0_0 hc0_0
 have HF0_1:=aA.mk hf0_1
 have HC0_1:=aA.mk hc0_1
 clear hf0_1 hc0_1
 have HB:=aA.mk (Below.refl w.heap.size w)
 have HORD:=aA.mk (Nat.le_refl w.heap.size)
 have HT:=aA.mk (Nat.le_refl w.heap.size)
 obtain ⟨kc,hc0_⟩:=evGet (spec_l2Copy_ev l0_0 l0_1 a0_2 a0_3 hok0 hok1)
 have JC:=aA.mk hc0_
 obtain ⟨kd,hd0_⟩:=evGet (spec_DevOk_ev l0_0 l0_1 a0_2 a0_3 hok0 hok1)
 rw [hdo] at hd0_
 have JD:=aA.mk hd0_
 clear hc0_ hd0_
 go_enter Try.func29,Try.ntmps29
 go_wp2_with (first|((with_reducible refine bC (N:=1) rfl ?_);refine bD ?hg (N:=1) ?hd (cs:=#[.slice A0_0 l0_0.length c0_0,.slice A0_1 l0_1.length c0_1,.int .i64 a0_2,.bool a0_3]) (t:=25) ?hr ?_;(case hd=>rfl);(case hg=>rfl);(case hr=>exact tE);intro gb1 hg_ w1 hbox hb;have hge_:w.heap.size ≤ gb1:=tk;have hlt_:gb1 + 1 ≤ w1.heap.size:=bJ hbox;replace HF0_0:=nF HF0_0;replace HF0_1:=nF HF0_1;replace HB:=aA.mk (aT HB.out hb);replace BK1:=aA.mk (hbox);replace HORD:=aA.mk (And.intro HORD.out (And.intro hge_ (Nat.le_succ gb1)));replace HT:=aA.mk (hlt_);clear hb hbox hg_ hge_ hlt_;have:=bs4 BK1.out)|((with_reducible refine bC (N:=2) rfl ?_);refine bD ?hg (N:=2) ?hd (cs:=#[.slice none 0 0,.slice none 0 0,.int .i64 0,.bool false]) (t:=25) ?hr ?_;(case hd=>rfl);(case hg=>rfl);(case hr=>exact tE);intro gb2 hg_ w2 hbox hb;have hge_:(gb1 + 1) ≤ gb2:=tk;have hlt_:gb2 + 1 ≤ w2.heap.size:=bJ hbox;replace HF0_0:=nF HF0_0;replace HF0_1:=nF HF0_1;replace BK1:=nB BK1;replace HB:=aA.mk (aT HB.out hb);replace BK2:=aA.mk (hbox);replace HORD:=aA.mk (And.intro HORD.out (And.intro hge_ (Nat.le_succ gb2)));replace HT:=aA.mk (hlt_);clear hb hbox hg_ hge_ hlt_;have:=bs4 BK1.out;have:=bs4 BK2.out)|((with_reducible refine aW (f:=56) rfl ?_);refine bK (some 5) rfl rfl Try.func56 tG rfl #[.agg #[.slice A0_0 l0_0.length c0_0,.slice A0_1 l0_1.length c0_1,.int .i64 a0_2,.bool a0_3]] rfl tC ?_;(with_reducible refine (spec_l2Copy.calls kc _ _ l0_0 _ _ l0_1 a0_2 a0_3 l0_0 l0_1 a0_2 a0_3 _ ?s1 ?s2 ?s3 ?s4 JC.out).mono ?_);(case s1=>exact wn);(case s2=>exact Ay);(case s3=>exact wm);(case s4=>exact Ax);rintro e_ w3 ⟨v0_,v1_,rfl,ho0,ho1,hb⟩;refine ⟨_,rfl,?_⟩;obtain ⟨lo3,hi3,el_,eh_,ol_,oh_⟩:=Mem.times HT.out hb;(try rw [← el_] at ho0);obtain ⟨A3_0,c3_0,ev_,hc0_,hf0_,hs0_⟩:=Mem.new_S ho0 eh_;subst ev_;(try rw [← el_] at ho1);obtain ⟨A3_1,c3_1,ev_,hc1_,hf1_,hs1_⟩:=Mem.new_S ho1 eh_;subst ev_;replace HF0_0:=nF HF0_0;replace HF0_1:=nF HF0_1;replace BK1:=nB BK1;replace BK2:=nB BK2;replace HB:=aA.mk (aT HB.out hb);replace HF3_0:=aA.mk (hf0_);replace HC3_0:=aA.mk (hc0_);replace HS3_0:=aA.mk (hs0_);replace HF3_1:=aA.mk (hf1_);replace HC3_1:=aA.mk (hc1_);replace HS3_1:=aA.mk (hs1_);replace HORD:=aA.mk (And.intro HORD.out (And.intro ol_ oh_));replace HT:=aA.mk (Nat.le_of_eq eh_);clear ol_ oh_ el_ eh_ ho0 hf0_ hc0_ hs0_ ho1 hf1_ hc1_ hs1_;(try clear hb);have:=bs4 BK1.out;have:=bs4 BK2.out)|((with_reducible refine bC (N:=3) rfl ?_);refine bD ?hg (N:=3) ?hd (cs:=#[.slice none 0 0,.slice none 0 0,.int .i64 0,.bool false]) (t:=25) ?hr ?_;(case hd=>rfl);(case hg=>rfl);(case hr=>exact tE);intro gb4 hg_ w4 hbox hb;have hge_:hi3 ≤ gb4:=tk;have hlt_:gb4 + 1 ≤ w4.heap.size:=bJ hbox;replace HF0_0:=nF HF0_0;replace HF0_1:=nF HF0_1;replace HF3_0:=nF HF3_0;replace HS3_0:=nS HS3_0;replace HF3_1:=nF HF3_1;replace HS3_1:=nS HS3_1;replace BK1:=nB BK1;replace BK2:=nB BK2;replace HB:=aA.mk (aT HB.out hb);replace BK4:=aA.mk (hbox);replace HORD:=aA.mk (And.intro HORD.out (And.intro hge_ (Nat.le_succ gb4)));replace HT:=aA.mk (hlt_);clear hb hbox hg_ hge_ hlt_;have:=bs4 BK1.out;have:=bs4 BK2.out;have:=bs4 BK4.out)|((with_reducible refine bN (t:=25) (p:=3) rfl ?_);refine bL (t:=25) (p:=3) (v:=?vo_w5) (w1:=((((w4.setCell ⟨gb4,0,none⟩ (.slice A3_0 l0_0.length c3_0)).setCell ⟨gb4,1,none⟩ (.slice A3_1 l0_1.length c3_1)).setCell ⟨gb4,2,none⟩ (.int .i64 a0_2)).setCell ⟨gb4,3,none⟩ (.bool a0_3))) ?hg ?ho ?hn ?hr ?_;(case ho=>rfl);(case hg=>rfl);(case hn=>rfl);(case hr=>exact tE);intro w5 hw_;have hkp:Kept w4 w5 (fun k_=>k_ = gb4):=tj;have hge_:w.heap.size ≤ gb4:=tL;have hbn_:Below w.heap.size w w5:=tU;have hbk_:w5.heap[gb4]? = some (.cells #[.slice A3_0 l0_0.length c3_0,.slice A3_1 l0_1.length c3_1,.int .i64 a0_2,.bool a0_3] 25 (0,0)):=tF;have hsz_:(gb4 + 1) ≤ w5.heap.size:=Nat.le_trans HT.out hkp.1;replace HF0_0:=aA.mk (Kd.aU HF0_0.out hkp tA);replace HF0_1:=aA.mk (Kd.aU HF0_1.out hkp tA);replace HF3_0:=aA.mk (Kd.aU HF3_0.out hkp tA);replace HS3_0:=aA.mk (Kd.bP HS3_0.out hkp tA);replace HF3_1:=aA.mk (Kd.aU HF3_1.out hkp tA);replace HS3_1:=aA.mk (Kd.bP HS3_1.out hkp tA);replace BK1:=aA.mk (aY BK1.out hkp tB);replace BK2:=aA.mk (aY BK2.out hkp tB);replace HB:=aA.mk (hbn_);replace BK4:=aA.mk (hbk_);replace HT:=aA.mk (hsz_);clear hw_ hkp hge_ hbn_ hbk_ hsz_;have:=bs4 BK1.out;have:=bs4 BK2.out;have:=bs4 BK4.out)|((with_reducible refine aW (f:=18) rfl ?_);refine bK (some 7) rfl rfl Try.func18 tG rfl #[.agg #[.slice A0_0 l0_0.length c0_0,.slice A0_1 l0_1.length c0_1,.int .i64 a0_2,.bool a0_3]] rfl tC ?_;(with_reducible refine (spec_DevOk.calls kd _ _ l0_0 _ _ l0_1 a0_2 a0_3 false _ ?s1 ?s2 ?s3 ?s4 JD.out).mono ?_);(case s1=>exact wn);(case s2=>exact Ay);(case s3=>exact wm);(case s4=>exact Ax);rintro e_ w6 ⟨rfl,hb⟩;refine ⟨_,rfl,?_⟩;replace HF0_0:=nF HF0_0;replace HF0_1:=nF HF0_1;replace HF3_0:=nF HF3_0;replace HS3_0:=nS HS3_0;replace HF3_1:=nF HF3_1;replace HS3_1:=nS HS3_1;replace BK1:=nB BK1;replace BK2:=nB BK2;replace BK4:=nB BK4;replace HB:=aA.mk (aT HB.out hb);replace HT:=aA.mk (Nat.le_trans HT.out hb.size);(try clear hb);have:=bs4 BK1.out;have:=bs4 BK2.out;have:=bs4 BK4.out)|((with_reducible refine bN (t:=25) (p:=2) rfl ?_);refine bL (t:=25) (p:=2) (v:=?vo_w7) (w1:=((((w6.setCell ⟨gb2,0,none⟩ (.slice A3_0 l0_0.length c3_0)).setCell ⟨gb2,1,none⟩ (.slice A3_1 l0_1.length c3_1)).setCell ⟨gb2,2,none⟩ (.int .i64 a0_2)).setCell ⟨gb2,3,none⟩ (.bool a0_3))) ?hg ?ho ?hn ?hr ?_;(case ho=>rfl);(case hg=>rfl);(case hn=>rfl);(case hr=>exact tE);intro w7 hw_;have hkp:Kept w6 w7 (fun k_=>k_ = gb2):=vJ;have hge_:w.heap.size ≤ gb2:=tL;have hbn_:Below w.heap.size w w7:=tU;have hbk_:w7.heap[gb2]? = some (.cells #[.slice A3_0 l0_0.length c3_0,.slice A3_1 l0_1.length c3_1,.int .i64 a0_2,.bool a0_3] 25 (0,0)):=tW;have hsz_:(gb4 + 1) ≤ w7.heap.size:=Nat.le_trans HT.out hkp.1;replace HF0_0:=aA.mk (Kd.aU HF0_0.out hkp tA);replace HF0_1:=aA.mk (Kd.aU HF0_1.out hkp tA);replace HF3_0:=aA.mk (Kd.aU HF3_0.out hkp tA);replace HS3_0:=aA.mk (Kd.bP HS3_0.out hkp tA);replace HF3_1:=aA.mk (Kd.aU HF3_1.out hkp tA);replace HS3_1:=aA.mk (Kd.bP HS3_1.out hkp tA);replace BK1:=aA.mk (aY BK1.out hkp tB);replace BK4:=aA.mk (aY BK4.out hkp tB);replace HB:=aA.mk (hbn_);replace BK2:=aA.mk (hbk_);replace HT:=aA.mk (hsz_);clear hw_ hkp hge_ hbn_ hbk_ hsz_;have:=bs4 BK1.out;have:=bs4 BK2.out;have:=bs4 BK4.out))
 refine bodyPost_ret (fn:=Try.f29) (P:=Try.prog) (results_cell_row rfl _ _ gb2 25 #[.slice A3_0 l0_0.length c3_0,.slice A3_1 l0_1.length c3_1,.int .i64 a0_2,.bool a0_3] (0,0) _ rfl BK2.out Try.underlying25 rfl tG) rfl ?_
 exact ⟨_,_,rfl,Kd.aV (Kd.N_lower (Kd.R_N (Kd.S_R HS3_0.out)) tq) vY,Kd.aV (Kd.N_lower (Kd.R_N (Kd.S_R HS3_1.out)) tq) vY,HB.out⟩
set_option maxHeartbeats 8000000 in
set_option maxRecDepth 100000 in
theorem walk_FlushDevspec_2 (A0_0:Option Addr) (c0_0:Nat) (l0_0:List (List (Int))) (A0_1:Option Addr) (c0_1:Nat) (l0_1:List (S50)) (a0_2:Int) (a0_3:Bool) (w:World) (hf0_0:Kd.F (Kd.slice 5 (Kd.int .u8)) w (In 0 w.heap.size) A0_0 l0_0.length l0_0) (hc0_0:l0_0.length ≤ c0_0) (hf0_1:Kd.F k50 w (In 0 w.heap.size) A0_1 l0_1.length l0_1) (hc0_1:l0_1.length ≤ c0_1) (hok0:okByteSS l0_0) (hok1:okWrS l0_1) (hdo:devOkB l0_0 l0_1 a0_2 = true) :
  Calls Try.prog 29 #[.agg #[.slice A0_0 l0_0.length c0_0,.slice A0_1 l0_1.length c0_1,.int .i64 a0_2,.bool a0_3]] w fun e w'=>∃ v0_ v1_:Value,e = .returned (.agg #[v0_,v1_,.int .i64 (flushed l0_0 l0_1 a0_2 a0_3).2.2.1,.bool (flushed l0_0 l0_1 a0_2 a0_3).2.2.2]) ∧ Kd.N (Kd.slice 5 (Kd.int .u8)) 37 w' w.heap.size (fun k_=>w.heap.size ≤ k_) v0_ (flushed l0_0 l0_1 a0_2 a0_3).1 ∧ Kd.N k50 50 w' w.heap.size (fun k_=>w.heap.size ≤ k_) v1_ (flushed l0_0 l0_1 a0_2 a0_3).2.1 ∧ Below w.heap.size w w':=by
 have hu25:=Try.underlying25
 have hu50:=Try.underlying50
 have HF0_0:=aA.mk hf0_0
 have HC0_0:=aA.mk hc0_0
 clear hf0_0 hc0_0
 have HF0_1:=aA.mk hf0_1
 have HC0_1:=aA.mk hc0_1
 clear hf0_1 hc0_1
 have HB:=aA.mk (Below.refl w.heap.size w)
 have HORD:=aA.mk (Nat.le_refl w.heap.size)
 have HT:=aA.mk (Nat.le_refl w.heap.size)
 obtain ⟨kc,hc0_⟩:=evGet (spec_l2Copy_ev l0_0 l0_1 a0_2 a0_3 hok0 hok1)
 have JC:=aA.mk hc0_
 obtain ⟨kd,hd0_⟩:=evGet (spec_DevOk_ev l0_0 l0_1 a0_2 a0_3 hok0 hok1)
 rw [hdo] at hd0_
 have JD:=aA.mk hd0_
 clear hc0_ hd0_
 go_enter Try.func29,Try.ntmps29
 go_wp2_with (first|((with_reducible refine bC (N:=1) rfl ?_);refine bD ?hg (N:=1) ?hd (cs:=#[.slice A0_0 l0_0.length c0_0,.slice A0_1 l0_1.length c0_1,.int .i64 a0_2,.bool a0_3]) (t:=25) ?hr ?_;(case hd=>rfl);(case hg=>rfl);(case hr=>exact tE);intro gb1 hg_ w1 hbox hb;have hge_:w.heap.size ≤ gb1:=tk;have hlt_:gb1 + 1 ≤ w1.heap.size:=bJ hbox;replace HF0_0:=nF HF0_0;replace HF0_1:=nF HF0_1;replace HB:=aA.mk (aT HB.out hb);replace BK1:=aA.mk (hbox);replace HORD:=aA.mk (And.intro HORD.out (And.intro hge_ (Nat.le_succ gb1)));replace HT:=aA.mk (hlt_);clear hb hbox hg_ hge_ hlt_;have:=bs4 BK1.out)|((with_reducible refine bC (N:=2) rfl ?_);refine bD ?hg (N:=2) ?hd (cs:=#[.slice none 0 0,.slice none 0 0,.int .i64 0,.bool false]) (t:=25) ?hr ?_;(case hd=>rfl);(case hg=>rfl);(case hr=>exact tE);intro gb2 hg_ w2 hbox hb;have hge_:(gb1 + 1) ≤ gb2:=tk;have hlt_:gb2 + 1 ≤ w2.heap.size:=bJ hbox;replace HF0_0:=nF HF0_0;replace HF0_1:=nF HF0_1;replace BK1:=nB BK1;replace HB:=aA.mk (aT HB.out hb);replace BK2:=aA.mk (hbox);replace HORD:=aA.mk (And.intro HORD.out (And.intro hge_ (Nat.le_succ gb2)));replace HT:=aA.mk (hlt_);clear hb hbox hg_ hge_ hlt_;have:=bs4 BK1.out;have:=bs4 BK2.out)|((with_reducible refine aW (f:=56) rfl ?_);refine bK (some 5) rfl rfl Try.func56 tG rfl #[.agg #[.slice A0_0 l0_0.length c0_0,.slice A0_1 l0_1.length c0_1,.int .i64 a0_2,.bool a0_3]] rfl tC ?_;(with_reducible refine (spec_l2Copy.calls kc _ _ l0_0 _ _ l0_1 a0_2 a0_3 l0_0 l0_1 a0_2 a0_3 _ ?s1 ?s2 ?s3 ?s4 JC.out).mono ?_);(case s1=>exact wn);(case s2=>exact Ay);(case s3=>exact wm);(case s4=>exact Ax);rintro e_ w3 ⟨v0_,v1_,rfl,ho0,ho1,hb⟩;refine ⟨_,rfl,?_⟩;obtain ⟨lo3,hi3,el_,eh_,ol_,oh_⟩:=Mem.times HT.out hb;(try rw [← el_] at ho0);obtain ⟨A3_0,c3_0,ev_,hc0_,hf0_,hs0_⟩:=Mem.new_S ho0 eh_;subst ev_;(try rw [← el_] at ho1);obtain ⟨A3_1,c3_1,ev_,hc1_,hf1_,hs1_⟩:=Mem.new_S ho1 eh_;subst ev_;replace HF0_0:=nF HF0_0;replace HF0_1:=nF HF0_1;replace BK1:=nB BK1;replace BK2:=nB BK2;replace HB:=aA.mk (aT HB.out hb);replace HF3_0:=aA.mk (hf0_);replace HC3_0:=aA.mk (hc0_);replace HS3_0:=aA.mk (hs0_);replace HF3_1:=aA.mk (hf1_);replace HC3_1:=aA.mk (hc1_);replace HS3_1:=aA.mk (hs1_);replace HORD:=aA.mk (And.intro HORD.out (And.intro ol_ oh_));replace HT:=aA.mk (Nat.le_of_eq eh_);clear ol_ oh_ el_ eh_ ho0 hf0_ hc0_ hs0_ ho1 hf1_ hc1_ hs1_;(try clear hb);have:=bs4 BK1.out;have:=bs4 BK2.out)|((with_reducible refine bC (N:=3) rfl ?_);refine bD ?hg (N:=3) ?hd (cs:=#[.slice none 0 0,.slice none 0 0,.int .i64 0,.bool false]) (t:=25) ?hr ?_;(case hd=>rfl);(case hg=>rfl);(case hr=>exact tE);intro gb4 hg_ w4 hbox hb;have hge_:hi3 ≤ gb4:=tk;have hlt_:gb4 + 1 ≤ w4.heap.size:=bJ hbox;replace HF0_0:=nF HF0_0;replace HF0_1:=nF HF0_1;replace HF3_0:=nF HF3_0;replace HS3_0:=nS HS3_0;replace HF3_1:=nF HF3_1;replace HS3_1:=nS HS3_1;replace BK1:=nB BK1;replace BK2:=nB BK2;replace HB:=aA.mk (aT HB.out hb);replace BK4:=aA.mk (hbox);replace HORD:=aA.mk (And.intro HORD.out (And.intro hge_ (Nat.le_succ gb4)));replace HT:=aA.mk (hlt_);clear hb hbox hg_ hge_ hlt_;have:=bs4 BK1.out;have:=bs4 BK2.out;have:=bs4 BK4.out)|((with_reducible refine bN (t:=25) (p:=3) rfl ?_);refine bL (t:=25) (p:=3) (v:=?vo_w5) (w1:=((((w4.setCell ⟨gb4,0,none⟩ (.slice A3_0 l0_0.length c3_0)).setCell ⟨gb4,1,none⟩ (.slice A3_1 l0_1.length c3_1)).setCell ⟨gb4,2,none⟩ (.int .i64 a0_2)).setCell ⟨gb4,3,none⟩ (.bool a0_3))) ?hg ?ho ?hn ?hr ?_;(case ho=>rfl);(case hg=>rfl);(case hn=>rfl);(case hr=>exact tE);intro w5 hw_;have hkp:Kept w4 w5 (fun k_=>k_ = gb4):=tj;have hge_:w.heap.size ≤ gb4:=tL;have hbn_:Below w.heap.size w w5:=tU;have hbk_:w5.heap[gb4]? = some (.cells #[.slice A3_0 l0_0.length c3_0,.slice A3_1 l0_1.length c3_1,.int .i64 a0_2,.bool a0_3] 25 (0,0)):=tF;have hsz_:(gb4 + 1) ≤ w5.heap.size:=Nat.le_trans HT.out hkp.1;replace HF0_0:=aA.mk (Kd.aU HF0_0.out hkp tA);replace HF0_1:=aA.mk (Kd.aU HF0_1.out hkp tA);replace HF3_0:=aA.mk (Kd.aU HF3_0.out hkp tA);replace HS3_0:=aA.mk (Kd.bP HS3_0.out hkp tA);replace HF3_1:=aA.mk (Kd.aU HF3_1.out hkp tA);replace HS3_1:=aA.mk (Kd.bP HS3_1.out hkp tA);replace BK1:=aA.mk (aY BK1.out hkp tB);replace BK2:=aA.mk (aY BK2.out hkp tB);replace HB:=aA.mk (hbn_);replace BK4:=aA.mk (hbk_);replace HT:=aA.mk (hsz_);clear hw_ hkp hge_ hbn_ hbk_ hsz_;have:=bs4 BK1.out;have:=bs4 BK2.out;have:=bs4 BK4.out)|((with_reducible refine aW (f:=18) rfl ?_);refine bK (some 7) rfl rfl Try.func18 tG rfl #[.agg #[.slice A0_0 l0_0.length c0_0,.slice A0_1 l0_1.length c0_1,.int .i64 a0_2,.bool a0_3]] rfl tC ?_;(with_reducible refine (spec_DevOk.calls kd _ _ l0_0 _ _ l0_1 a0_2 a0_3 true _ ?s1 ?s2 ?s3 ?s4 JD.out).mono ?_);(case s1=>exact wn);(case s2=>exact Ay);(case s3=>exact wm);(case s4=>exact Ax);rintro e_ w6 ⟨rfl,hb⟩;refine ⟨_,rfl,?_⟩;replace HF0_0:=nF HF0_0;replace HF0_1:=nF HF0_1;replace HF3_0:=nF HF3_0;replace HS3_0:=nS HS3_0;replace HF3_1:=nF HF3_1;replace HS3_1:=nS HS3_1;replace BK1:=nB BK1;replace BK2:=nB BK2;replace BK4:=nB BK4;replace HB:=aA.mk (aT HB.out hb);replace HT:=aA.mk (Nat.le_trans HT.out hb.size);(try clear hb);have:=bs4 BK1.out;have:=bs4 BK2.out;have:=bs4 BK4.out)|((with_reducible refine aW (f:=60) rfl ?_);refine bK (some 8) rfl rfl Try.func60 tG rfl #[.pointer (some ⟨gb4,0,none⟩)] rfl tC ?_;obtain ⟨gS_,hSl_,hSe_,hS4_⟩:=own_num (.slice A3_0 l0_0.length c3_0) w6.heap.size tH (Kd.S_lt HS3_0.out);obtain ⟨gC_,hCl_,hCe_,hC4_⟩:=own_num (.slice A3_1 l0_1.length c3_1) w6.heap.size tH (Kd.S_lt HS3_1.out);have hn0_:=Kd.aV (ok':=Ex lo3 gC_ gb4) (Kd.R_N (Kd.S_R (Kd.S_apart' (Kd.bZ HS3_0.out tq:Kd.S (Kd.slice 5 (Kd.int .u8)) 37 w6 w.heap.size (In lo3 hi3) (.slice A3_0 l0_0.length c3_0) l0_0) (Kd.S_typed HS3_1.out) tf))) (fun k_ hk_=>⟨hk_.1.1,ex_of hC4_ hCe_ hk_.2 AD,AK⟩);have hn1_:=Kd.aV (ok':=Ex lo3 gS_ gb4) (Kd.R_N (Kd.S_R (Kd.S_apart' (Kd.bZ HS3_1.out tq:Kd.S k50 50 w6 w.heap.size (In lo3 hi3) (.slice A3_1 l0_1.length c3_1) l0_1) (Kd.S_typed HS3_0.out) tf))) (fun k_ hk_=>⟨hk_.1.1,ex_of hS4_ hSe_ hk_.2 AD,AK⟩);have hgS_:=ex_of hS4_ hSe_ (Kd.S_ne HS3_0.out BK4.out tf) tH;have hgC_:=ex_of hC4_ hCe_ (Kd.S_ne HS3_1.out BK4.out tf) tH;(with_reducible refine (spec_l2FlushS.calls _ _ l0_0 _ _ l0_1 a0_2 a0_3 w _ gb4 HB.out BK4.out lo3 gS_ gC_ ?s1 ?s2 ⟨hSl_,hgS_⟩ ⟨hCl_,hgC_⟩ hCe_ hSe_ hn0_ hn1_ (okWrS_len hok1) (fun i_ hx_ hi_=>devOk_at hdo hx_ hi_)).mono ?_);(case s1=>exact tH);(case s2=>exact tH);rintro e_ w7 ⟨rfl,hwp_⟩;refine ⟨_,rfl,?_⟩;unfold FlPost at hwp_;obtain ⟨u0_,u1_,gn7,hbk_,hgn_,hgl_,_,hm0_,hm1_,hbn_,hkp⟩:=hwp_;obtain ⟨ys7,ey_⟩:∃ y_,y_ = (flushed l0_0 l0_1 a0_2 a0_3).2.1:=⟨_,rfl⟩;obtain ⟨ys7a,ey2_⟩:∃ y_,y_ = (flushed l0_0 l0_1 a0_2 a0_3).1:=⟨_,rfl⟩;rw [← ey2_] at hm0_;have HY7a:=aA.mk ey2_;clear ey2_;obtain ⟨A7a,c7a,ev_⟩:=Kd.cB hm0_;subst ev_;rw [← ey_] at hm1_;have HY7:=aA.mk ey_;obtain ⟨A7,c7,ev_⟩:=Kd.cB hm1_;subst ev_;obtain ⟨hi7,e2_⟩:∃ n_,n_ = w7.heap.size:=⟨_,rfl⟩;have ol_:(gb4 + 1) ≤ hi7:=wT;rw [← e2_] at hgl_;replace hm0_:=Kd.aV (ok':=Exb lo3 gn7 gb4 hi7) (Kd.N_bound hm0_) (fun k_ hk_=>⟨hk_.1,by rw [e2_];exact hk_.2⟩);replace hm1_:=Kd.aV (ok':=Exb lo3 gS_ gb4 hi7) (Kd.N_bound hm1_) (fun k_ hk_=>⟨hk_.1,by rw [e2_];exact hk_.2⟩);replace HF0_0:=aA.mk (Kd.aU HF0_0.out hkp tA);replace HF0_1:=aA.mk (Kd.aU HF0_1.out hkp tA);replace BK1:=aA.mk (aY BK1.out hkp tB);replace BK2:=aA.mk (aY BK2.out hkp tB);replace HB:=aA.mk (hbn_);replace BK4:=aA.mk (hbk_);replace HORD:=aA.mk (And.intro HORD.out (And.intro ol_ hgl_));replace HT:=aA.mk (Nat.le_of_eq e2_);replace HM7:=aA.mk (hm0_);replace HN7:=aA.mk (hm1_);clear hbk_ hbn_ hkp hm0_ hm1_ hgn_ hgl_ ol_ e2_ ey_;have:=bs4 BK1.out;have:=bs4 BK2.out;have:=bs4 BK4.out)|((with_reducible refine bN (t:=25) (p:=2) rfl ?_);refine bL (t:=25) (p:=2) (v:=?vo_w8) (w1:=((((w7.setCell ⟨gb2,0,none⟩ (.slice A7a ys7a.length c7a)).setCell ⟨gb2,1,none⟩ (.slice A7 ys7.length c7)).setCell ⟨gb2,2,none⟩ (.int .i64 ((flushed l0_0 l0_1 a0_2 a0_3).2.2.1))).setCell ⟨gb2,3,none⟩ (.bool ((flushed l0_0 l0_1 a0_2 a0_3).2.2.2)))) ?hg ?ho ?hn ?hr ?_;(case ho=>rfl);(case hg=>rfl);(case hn=>rfl);(case hr=>exact tE);intro w8 hw_;have hkp:Kept w7 w8 (fun k_=>k_ = gb2):=(by rw [hw_];exact Kept.setCell (Kept.setCell (Kept.setCell (Kept.setCell (Kept.refl w7 (fun k_=>k_ = gb2)) (.inl rfl) (.slice A7a ys7a.length c7a)) (.inl rfl) (.slice A7 ys7.length c7)) (.inl rfl) (.int .i64 ((flushed l0_0 l0_1 a0_2 a0_3).2.2.1))) (.inl rfl) (.bool ((flushed l0_0 l0_1 a0_2 a0_3).2.2.2)));have hge_:w.heap.size ≤ gb2:=tL;have hbn_:Below w.heap.size w w8:=tU;have hbk_:w8.heap[gb2]? = some (.cells #[.slice A7a ys7a.length c7a,.slice A7 ys7.length c7,.int .i64 ((flushed l0_0 l0_1 a0_2 a0_3).2.2.1),.bool ((flushed l0_0 l0_1 a0_2 a0_3).2.2.2)] 25 (0,0)):=(by rw [hw_];exact aQ (cs:=#[.slice A7a ys7a.length c7a,.slice A7 ys7.length c7,.int .i64 ((flushed l0_0 l0_1 a0_2 a0_3).2.2.1),.bool false]) (cs':=#[.slice A7a ys7a.length c7a,.slice A7 ys7.length c7,.int .i64 ((flushed l0_0 l0_1 a0_2 a0_3).2.2.1),.bool ((flushed l0_0 l0_1 a0_2 a0_3).2.2.2)]) (aQ (cs:=#[.slice A7a ys7a.length c7a,.slice A7 ys7.length c7,.int .i64 0,.bool false]) (cs':=#[.slice A7a ys7a.length c7a,.slice A7 ys7.length c7,.int .i64 ((flushed l0_0 l0_1 a0_2 a0_3).2.2.1),.bool false]) (aQ (cs:=#[.slice A7a ys7a.length c7a,.slice none 0 0,.int .i64 0,.bool false]) (cs':=#[.slice A7a ys7a.length c7a,.slice A7 ys7.length c7,.int .i64 0,.bool false]) (aQ (cs:=#[.slice none 0 0,.slice none 0 0,.int .i64 0,.bool false]) (cs':=#[.slice A7a ys7a.length c7a,.slice none 0 0,.int .i64 0,.bool false]) (BK2.out) 0 _ rfl) 1 _ rfl) 2 _ rfl) 3 _ rfl);have hsz_:hi7 ≤ w8.heap.size:=Nat.le_trans HT.out hkp.1;replace HF0_0:=aA.mk (Kd.aU HF0_0.out hkp tA);replace HF0_1:=aA.mk (Kd.aU HF0_1.out hkp tA);replace HM7:=aA.mk (Kd.N_kept HM7.out hkp tA);replace HN7:=aA.mk (Kd.N_kept HN7.out hkp tA);replace BK1:=aA.mk (aY BK1.out hkp tB);replace BK4:=aA.mk (aY BK4.out hkp tB);replace HB:=aA.mk (hbn_);replace BK2:=aA.mk (hbk_);replace HT:=aA.mk (hsz_);clear hw_ hkp hge_ hbn_ hbk_ hsz_;have:=bs4 BK1.out;have:=bs4 BK2.out;have:=bs4 BK4.out))
 refine bodyPost_ret (fn:=Try.f29) (P:=Try.prog) (results_cell_row rfl _ _ gb2 25 #[.slice A7a ys7a.length c7a,.slice A7 ys7.length c7,.int .i64 ((flushed l0_0 l0_1 a0_2 a0_3).2.2.1),.bool ((flushed l0_0 l0_1 a0_2 a0_3).2.2.2)] (0,0) _ rfl BK2.out Try.underlying25 rfl tG) rfl ?_
 exact ⟨_,_,rfl,(by rw [← HY7a.out];exact Kd.aV (Kd.N_lower (HM7.out) tq) vY),(by rw [← HY7.out];exact Kd.aV (Kd.N_lower (HN7.out) tq) vY),HB.out⟩
def spec_FlushDev.f (l0_0:List (List Int)) (l0_1:List (S50)) (a0_2:Int) (a0_3:Bool):Option (List (List Int) × List (S50) × Int × Bool):=if okDevB l0_0 l0_1 = true then some (flushDev l0_0 l0_1 a0_2 a0_3) else none
theorem spec_FlushDev.calls (P0_0_:Nat → Prop) (A0_0:Option Addr) (c0_0:Nat) (l0_0:List (List Int)) (P0_1_:Nat → Prop) (A0_1:Option Addr) (c0_1:Nat) (l0_1:List (S50)) (a0_2:Int) (a0_3:Bool) (r1:List (List Int)) (r2:List (S50)) (r3:Int) (r4:Bool) (w:World) (hs0_0:Kd.V (Kd.slice 5 (Kd.int .u8)) 37 w w.heap.size (fun k_=>P0_0_ k_) (.slice A0_0 l0_0.length c0_0) l0_0) (hs0_1:Kd.V k50 50 w w.heap.size (fun k_=>P0_1_ k_) (.slice A0_1 l0_1.length c0_1) l0_1) (h:spec_FlushDev.f l0_0 l0_1 a0_2 a0_3 = some (r1,r2,r3,r4)) :
  Calls Try.prog 29 #[.agg #[.slice A0_0 l0_0.length c0_0,.slice A0_1 l0_1.length c0_1,.int .i64 a0_2,.bool a0_3]] w fun e w'=>∃ v0_ v1_:Value,e = .returned (.agg #[v0_,v1_,.int .i64 r3,.bool r4]) ∧ Kd.N (Kd.slice 5 (Kd.int .u8)) 37 w' w.heap.size (fun k_=>w.heap.size ≤ k_) v0_ r1 ∧ Kd.N k50 50 w' w.heap.size (fun k_=>w.heap.size ≤ k_) v1_ r2 ∧ Below w.heap.size w w':=by
 obtain ⟨_,hc0_,hf0_⟩:=Kd.V_at hs0_0
 obtain ⟨_,hc1_,hf1_⟩:=Kd.V_at hs0_1
 replace hf0_:=Kd.F_mono (ok':=In 0 w.heap.size) (Kd.F_bound hf0_) (fun k hk=>⟨Nat.zero_le k,hk.2⟩)
 replace hf1_:=Kd.F_mono (ok':=In 0 w.heap.size) (Kd.F_bound hf1_) (fun k hk=>⟨Nat.zero_le k,hk.2⟩)
 unfold spec_FlushDev.f at h
 split at h
 ·rename_i hok
  unfold okDevB at hok
  simp only [Bool.and_eq_true,decide_eq_true_eq] at hok
  obtain ⟨hok0,hok1⟩:=hok
  injection h with h
  unfold flushDev at h
  by_cases hdo:devOkB l0_0 l0_1 a0_2 = true
  ·rw [if_pos hdo] at h
   simp only [Prod.mk.injEq,Prod.ext_iff] at h
   obtain ⟨rfl,rfl,rfl,rfl⟩:=h
   exact walk_FlushDevspec_2 _ _ _ _ _ _ _ _ w hf0_ hc0_ hf1_ hc1_  hok0 hok1 hdo
  ·rw [if_neg hdo] at h
   simp only [Prod.mk.injEq] at h
   obtain ⟨rfl,rfl,rfl,rfl⟩:=h
   exact walk_FlushDevspec_1 _ _ _ _ _ _ _ _ w hf0_ hc0_ hf1_ hc1_  hok0 hok1 (by simpa using hdo)
 ·cases h
end Go.Proofs.Ytilhcaofpfeioaa.Law

namespace Go.Proofs.Ytilhcaofpfeioaa.Pure
open Go.Proofs.Ytilhcaofpfeioaa.Law
open Go.RowKit Go.Proofs.Ytilhcaofpfeioaa.PFnDevsBent Go.Proofs.Ytilhcaofpfeioaa.Core Go.Proofs.YtilhcaofpfeioaaW.PrintWords Go.Proofs.YtilhcaofpfeioaaW.PrintLast
set_option linter.unusedSimpArgs false
set_option linter.unusedVariables false
def devNew (n:Int):List (List Int) × List S50 × Int × Bool:=if 1 ≤ n ∧ n ≤ 60 then (List.replicate n.toNat [],[],-1,false) else ([],[],0,false)
theorem devNew_cache (n:Int):(devNew n).2.1 = []:=by unfold devNew;split <;> rfl
theorem bulkByteSS_replicate:∀ n:Nat,bulkByteSS (List.replicate n []) = n
 | 0=>rfl
 | n + 1=>by rw [List.replicate_succ];simp only [bulkByteSS,bulkByteSS_replicate n,List.length_nil];omega
theorem okByteSS_devNew (n:Int):okByteSS (devNew n).1:=by
 unfold devNew okByteSS
 split
 ·simp only [bulkByteSS_replicate];omega
 ·simp [bulkByteSS]
theorem okWrS_devNew (n:Int):okWrS (devNew n).2.1:=by rw [devNew_cache];simp [okWrS,bulkWrS]
theorem spec_DevNew_ev (n:Int):Ev (fun k=>spec_DevNew.f k n) (devNew n):=by
 unfold spec_DevNew.f devNew
 simp only [spec_l1In_f,Option.bind_some]
 by_cases c:1 ≤ n ∧ n ≤ 60
 ·simp only [decide_eq_true c,if_true,if_pos c]
  obtain ⟨m,rfl⟩:=Int.eq_ofNat_of_zero_le (show 0 ≤ n by omega)
  obtain ⟨K,hk⟩:=evRange0 (σ:=List (List Int)) m (fun k s i=>spec_DevNew.l0 k (m:Int) i s (-1) false) (fun i s=>s = List.replicate i []) (fun _ _=>(List.replicate m [],[],-1,false)) [] rfl
   (by
    intro i s hi hs
    subst hs
    refine .inl ⟨_,rfl,rfl,0,1,fun k _=>?_⟩
    simp only [spec_DevNew.l0]
    rw [if_pos tZ,if_pos (by rw [List.length_replicate];omega),w64s i tZ,List.replicate_succ'])
   (by
    intro s hs
    subst hs
    refine ⟨0,1,fun k _=>?_⟩
    simp only [spec_DevNew.l0]
    rw [if_neg tZ])
  exact ⟨K,fun k hk'=>by simpa using hk k hk'⟩
 ·simp only [decide_eq_false c,if_neg c]
  exact evOf fun _=>by simp
theorem impl_DevNew_ev (n:Int):Ev (fun _=>impl_DevNew.f n) (devNew n):=by
 refine evOf fun _=>?_
 simp only [impl_DevNew.f,impl_within_f,Option.bind_some,devNew]
 by_cases c:1 ≤ n ∧ n ≤ 60
 ·rw [decide_eq_true c,if_pos rfl,if_pos tZ,if_pos tZ,if_pos c]
 ·rw [decide_eq_false c,if_neg vN,if_neg c]
def pickB (c:List S50) (n:Int) (b:List Int):Nat → List Int
 | 0=>b
 | i + 1=>if (c.getD i z50).f0 = n then (c.getD i z50).f1 else pickB c n b i
theorem pickB_len (c:List S50) (n:Int) (b:List Int) (hc:okWrS c) (hb:b.length ≤ 4194304):∀ i,i ≤ c.length → (pickB c n b i).length ≤ 4194304
 | 0,_=>hb
 | i + 1,h=>by
  unfold pickB
  split
  ·exact okWrS_at hc i tZ
  ·exact pickB_len c n b hc hb i tZ
def readSec (s:List (List Int)) (c:List S50) (f:Int) (n:Int):List Int:=if devOkB s c f = true ∧ 0 ≤ n ∧ n ≤ (s.length:Int) - 1 then pickB c n (s.getD n.toNat []) c.length else []
theorem getD_len {s:List (List Int)} (h:okByteSS s) (i:Nat):(s.getD i []).length ≤ 4194304:=by
 by_cases c:i < s.length
 ·exact okByteSS_at h i c
 ·rw [List.getD_eq_getElem?_getD,List.getElem?_eq_none tZ];simp
theorem spec_ReadSec_l0 (s:List (List Int)) (c:List S50) (f n:Int) (d:Bool) (b:List Int) (hc:okWrS c) (hb:b.length ≤ 4194304):Ev (fun k=>spec_ReadSec.l0 k n b 0 s c f d) (pickB c n b c.length):=by
 have h:=okWrS_len hc
 obtain ⟨K,hk⟩:=evRange0 (σ:=List Int) c.length (fun k x i=>spec_ReadSec.l0 k n x i s c f d) (fun i x=>x = pickB c n b i) (fun _ _=>pickB c n b c.length) b rfl
  (by
   intro i x hi hx
   subst hx
   have hr:rd_T50 c (i:Int) = c.getD i z50:=by simp [rd_T50]
   refine .inl ⟨_,rfl,rfl,0,1,fun k _=>?_⟩
   simp only [spec_ReadSec.l0,hr]
   rw [if_pos tZ,if_pos tZ,w64s i tZ]
   conv=>rhs;rw [pickB]
   by_cases e:(c.getD i z50).f0 = n
   ·rw [if_pos e,if_pos e]
   ·rw [if_neg e,if_neg e])
  (by
   intro x hx
   subst hx
   have hl:=pickB_len c n b hc hb c.length (Nat.le_refl _)
   refine ⟨0,1,fun k _=>?_⟩
   simp only [spec_ReadSec.l0,Option.bind_some,List.nil_append,List.length_nil,Nat.zero_add]
   rw [if_neg tZ,if_pos tZ])
 exact ⟨K,fun k hk'=>hk k hk'⟩
theorem spec_ReadSec_ev (s:List (List Int)) (c:List S50) (f:Int) (d:Bool) (n:Int) (hs:okByteSS s) (hc:okWrS c):Ev (fun k=>spec_ReadSec.f k s c f d n) (readSec s c f n):=by
 have h:=okByteSS_len hs
 obtain ⟨K,e⟩:=spec_DevOk_ev s c f d hs hc
 obtain ⟨K2,e2⟩:=spec_ReadSec_l0 s c f n d (s.getD n.toNat []) hc (getD_len hs _)
 refine ⟨K + K2 + 1,fun k hk=>?_⟩
 obtain ⟨k,rfl⟩:∃ m,k = m + 1:=⟨k - 1,by omega⟩
 have a1:=e (k + 1) tZ
 have a2:=e2 k tZ
 simp only at a1 a2
 simp only [spec_ReadSec.f,a1,Option.bind_some,readSec]
 rw [w64 (x:=(s.length:Int) - 1) tZ tZ]
 cases hq:devOkB s c f with
 | false=>simp [spec_ReadSec.j0]
 | true =>
  simp only [if_true,spec_l1In_f,Option.bind_some,spec_ReadSec.j0,true_and]
  by_cases hn:0 ≤ n ∧ n ≤ (s.length:Int) - 1
  ·have hr:rd_L1 s n = s.getD n.toNat []:=by simp [rd_L1]
   rw [decide_eq_true hn,if_pos hn,if_neg vN,if_pos hn.1,if_pos tZ,hr]
   exact a2
  ·rw [decide_eq_false hn,if_neg hn,if_pos vN]
theorem impl_ReadSec_l0 (s:List (List Int)) (c:List S50) (f n:Int) (d:Bool) (hs:okByteSS s) (hc:okWrS c) (h0:0 ≤ n) (h1:n ≤ (s.length:Int) - 1):∀ i,i ≤ c.length → Ev (fun k=>impl_ReadSec.l0 k n ((i:Int) - 1) s c f d) (pickB c n (s.getD n.toNat []) i):=by
 have h:=okWrS_len hc
 intro i
 induction i with
 | zero =>
  intro _
  obtain ⟨K,e⟩:=impl_joined_ev [s.getD n.toNat []] (by have:=getD_len hs n.toNat;simpa using this) vN
  refine evSucc ⟨K,1,fun k hk=>?_⟩
  have hr:rd_L1 s n = s.getD n.toNat []:=by simp [rd_L1]
  have e1:=e k hk
  simp only at e1
  simp only [impl_ReadSec.l0,hr,e1,Option.bind_some]
  rw [if_neg tZ,if_pos h0,if_pos tZ]
  simp [pickB]
 | succ i ih =>
  intro hn
  obtain ⟨K,e⟩:=ih tZ
  obtain ⟨K2,e2⟩:=impl_joined_ev [(c.getD i z50).f1] (by have:=okWrS_at hc i tZ;unfold okByteS at this;simpa using this) vN
  refine evSucc ⟨K + K2,1,fun k hk=>?_⟩
  have a1:=e k tZ
  have a2:=e2 k tZ
  have hc':((i + 1:Nat):Int) - 1 = (i:Int):=by omega
  have hr:rd_T50 c (i:Int) = c.getD i z50:=by simp [rd_T50]
  simp only at a1 a2
  simp only [impl_ReadSec.l0,hc',hr,a2,Option.bind_some,pickB]
  rw [if_pos tZ,if_pos tZ,if_pos tZ,w64 (x:=(i:Int) - 1) tZ tZ,a1]
  by_cases c1:(c.getD i z50).f0 = n
  ·rw [if_pos c1,if_pos c1];simp
  ·rw [if_neg c1,if_neg c1]
theorem impl_ReadSec_ev (s:List (List Int)) (c:List S50) (f:Int) (d:Bool) (n:Int) (hs:okByteSS s) (hc:okWrS c):Ev (fun k=>impl_ReadSec.f k s c f d n) (readSec s c f n):=by
 have h:=okByteSS_len hs
 have h2:=okWrS_len hc
 obtain ⟨K,e⟩:=impl_DevOk_ev s c f d hs hc
 by_cases hn:0 ≤ n ∧ n ≤ (s.length:Int) - 1
 ·obtain ⟨K2,e2⟩:=impl_ReadSec_l0 s c f n d hs hc hn.1 hn.2 c.length (Nat.le_refl _)
  refine ⟨K + K2 + 1,fun k hk=>?_⟩
  obtain ⟨k,rfl⟩:∃ m,k = m + 1:=⟨k - 1,by omega⟩
  have a1:=e (k + 1) tZ
  have a2:=e2 k tZ
  simp only at a1 a2
  simp only [impl_ReadSec.f,a1,Option.bind_some,readSec,impl_within_f,impl_ReadSec.j0]
  rw [w64 (x:=(s.length:Int) - 1) tZ tZ,w64 (x:=(c.length:Int) - 1) tZ tZ,a2,decide_eq_true hn]
  cases hq:devOkB s c f with
  | false=>simp
  | true=>simp [hn]
 ·refine ⟨K + 1,fun k hk=>?_⟩
  obtain ⟨k,rfl⟩:∃ m,k = m + 1:=⟨k - 1,by omega⟩
  have a1:=e (k + 1) tZ
  simp only at a1
  simp only [impl_ReadSec.f,a1,Option.bind_some,readSec,impl_within_f,impl_ReadSec.j0]
  rw [w64 (x:=(s.length:Int) - 1) tZ tZ,decide_eq_false hn]
  cases hq:devOkB s c f with
  | false=>simp
  | true=>simp;intro h3 h4;exact absurd ⟨h3,h4⟩ hn
theorem spec_FallDev_ev (s:List (List Int)) (c:List S50) (f:Int) (d:Bool) (k:Int) (h1:okByteSS s) (h2:okWrS c):Ev (fun n=>spec_FallDev.f n s c f d k) (fallDev s c f d k):=by
 have hs:=okByteSS_len h1
 have hc:=okWrS_len h2
 obtain ⟨K1,e1⟩:=spec_l2Copy_ev s c f d h1 h2
 obtain ⟨K2,e2⟩:=spec_DevOk_ev s c f d h1 h2
 by_cases hd:devOkB s c f = true
 ·-- the loop
  have loop:∀ q:Int,Ev (fun n=>spec_FallDev.j0 n q s c f d) (fallSecs s c q c.length,[],-1,false):=by
   intro q
   obtain ⟨K,e⟩:=evRange0 (σ:=List (List Int)) (min c.length 30) (fun n x i=>spec_FallDev.l0 n q i x c f d) (fun i x=>x = fallSecs s c q i) (fun _ _=>(fallSecs s c q c.length,[],-1,false)) s rfl
    (by
     intro i x hi hx
     subst hx
     have hr:rd_T50 c (i:Int) = c.getD i z50:=by simp [rd_T50]
     have hw:=devOk_wr hd (show i < c.length by omega)
     have hu:IntKind.u64.wrap (i:Int) = (i:Int):=by rw [IntKind.wrap_u64];omega
     have hl:=fallSecs_length s c q i
     refine .inl ⟨_,rfl,rfl,0,2,fun n _=>?_⟩
     simp only [spec_FallDev.l0]
     rw [if_pos tZ]
     simp only [spec_FallDev.j2,hr,hu]
     rw [decide_eq_true (show (i:Int) < 30 by omega),if_pos rfl,if_pos tZ]
     show _ = spec_FallDev.l0 n q _ (if bitB q i = true then _ else _) c f d
     unfold bitB
     rw [decide_eq_true (show i < 30 by omega),Bool.true_and]
     generalize c.getD i z50 = y at *
     by_cases hb:Go.bits .and .i64 (shr .i64 q (i:Int)) 1 = 1
     ·rw [if_pos hb,if_pos tZ,if_pos tZ,if_pos tZ,if_pos tZ,w64s i tZ,if_pos (decide_eq_true hb)]
     ·rw [if_neg hb,w64s i tZ,if_neg (by rw [decide_eq_false hb];decide)])
    (by
     intro x hx
     subst hx
     refine ⟨0,2,fun n _=>?_⟩
     simp only [spec_FallDev.l0]
     have hend:fallSecs s c q (min c.length 30) = fallSecs s c q c.length:=by
      by_cases h30:c.length ≤ 30
      ·rw [Nat.min_eq_left h30]
      ·rw [Nat.min_eq_right tZ,show c.length = 30 + (c.length - 30) by omega,fallSecs_far s c q 30 (Nat.le_refl _)]
     by_cases hl:((min c.length 30:Nat):Int) < (c.length:Int)
     ·rw [if_pos hl]
      simp only [spec_FallDev.j2]
      rw [decide_eq_false tZ,if_neg tf,hend]
     ·rw [if_neg hl]
      simp only [spec_FallDev.j2]
      rw [if_neg tf,hend])
   refine ⟨K + 1,fun n hn=>?_⟩
   obtain ⟨m,rfl⟩:∃ m,n = m + 1:=⟨n - 1,by omega⟩
   show spec_FallDev.j0 (m + 1) q s c f d = _
   simp only [spec_FallDev.j0]
   exact e m tZ
  obtain ⟨K3,e3⟩:=loop (keepOf k)
  refine ⟨K1 + K2 + K3,fun n hn=>?_⟩
  have a1:spec_l2Copy.f n s c f d = some (s,c,f,d):=e1 n tZ
  have a2:spec_DevOk.f n s c f d = some true:=by rw [← hd];exact e2 n tZ
  have a3:spec_FallDev.j0 n (keepOf k) s c f d = some (fallSecs s c (keepOf k) c.length,[],-1,false):=e3 n tZ
  show spec_FallDev.f n s c f d k = some (fallDev s c f d k)
  unfold spec_FallDev.f fallDev
  simp only [a1,a2,spec_l1In_f,Option.bind_some,if_true,hd]
  unfold keepOf at a3 ⊢
  by_cases hk:0 ≤ k ∧ k ≤ 1073741823
  ·rw [if_pos hk] at a3 ⊢
   rw [decide_eq_true hk,if_pos rfl]
   exact a3
  ·rw [if_neg hk] at a3 ⊢
   rw [decide_eq_false hk,if_neg tf]
   exact a3
 ·refine ⟨K1 + K2,fun n hn=>?_⟩
  have a1:spec_l2Copy.f n s c f d = some (s,c,f,d):=e1 n tZ
  have hd':devOkB s c f = false:=by simpa using hd
  have a2:spec_DevOk.f n s c f d = some false:=by rw [← hd'];exact e2 n tZ
  show spec_FallDev.f n s c f d k = some (fallDev s c f d k)
  unfold spec_FallDev.f fallDev
  simp only [a1,a2,Option.bind_some,hd',Bool.false_eq_true,if_false]
def bytesIn (l:List Int):Prop:=∀ x ∈ l,0 ≤ x ∧ x ≤ 255
def getW (l:List Int) (a:Int):Int × Int × Bool:=if 0 ≤ a ∧ a ≤ (l.length:Int) - 2 then (l.getD a.toNat 0 * 256 + l.getD (a.toNat + 1) 0,a + 2,true) else (0,0,false)
def curOk (b:List Int) (i:Int):Prop:=bytesIn b ∧ b.length ≤ 1048576 ∧ 0 ≤ i ∧ i ≤ (b.length:Int)
theorem l1Byte_ex (b:List Int) (i h:Int) (hc:curOk b i):∃ x j g,spec_l1Byte.f b i h = some (x,j,g) ∧ (0 ≤ x ∧ x ≤ 255) ∧ curOk b j:=by
 obtain ⟨hb,hl,h0,h1⟩:=hc
 unfold spec_l1Byte.f
 simp only [and255]
 by_cases c:i < (b.length:Int)
 ·rw [if_pos c,if_pos h0]
  exact ⟨_,_,_,rfl,⟨by omega,by omega⟩,hb,hl,by rw [w64 tZ tZ];omega,by rw [w64 tZ tZ];omega⟩
 ·rw [if_neg c]
  exact ⟨_,_,_,rfl,⟨by omega,by omega⟩,hb,hl,h0,h1⟩
theorem l1Below_ex (b:List Int) (i h n:Int) (hc:curOk b i) (hn:n ≤ 9223372036854775807):∃ x j g,spec_l1Below.f b i h n = some (x,j,g) ∧ (0 ≤ x ∧ (0 < n → x < n) ∧ (n ≤ 0 → x = 0)) ∧ curOk b j:=by
 unfold spec_l1Below.f
 by_cases c:n ≤ 0
 ·rw [if_pos c];exact ⟨_,_,_,rfl,⟨by omega,by omega,fun _=>rfl⟩,hc⟩
 rw [if_neg c]
 by_cases c2:n ≤ 256
 ·rw [if_pos c2]
  obtain ⟨x,j,g,e,hx,hj⟩:=l1Byte_ex b i h hc
  simp only [e,Option.bind_some]
  rw [if_neg tZ]
  have h1:=Int.tmod_nonneg (b:=n) hx.1
  have h2:=Int.tmod_lt_of_pos x (show 0 < n by omega)
  exact ⟨_,_,_,rfl,⟨h1,fun _=>h2,fun h=>by omega⟩,hj⟩
 ·rw [if_neg c2]
  obtain ⟨x,j,g,e,hx,hj⟩:=l1Byte_ex b i h hc
  obtain ⟨x2,j2,g2,e2,hx2,hj2⟩:=l1Byte_ex b j g hj
  obtain ⟨x3,j3,g3,e3,hx3,hj3⟩:=l1Byte_ex b j2 g2 hj2
  simp only [e,e2,e3,Option.bind_some]
  rw [if_neg tZ,w64 (x:=x * 65536) tZ tZ,w64 (x:=x2 * 256) tZ tZ,w64 (x:=x * 65536 + x2 * 256) tZ tZ,w64 (x:=x * 65536 + x2 * 256 + x3) tZ tZ]
  have h1:=Int.tmod_nonneg (b:=n) (show 0 ≤ x * 65536 + x2 * 256 + x3 by omega)
  have h2:=Int.tmod_lt_of_pos (x * 65536 + x2 * 256 + x3) (show 0 < n by omega)
  exact ⟨_,_,_,rfl,⟨h1,fun _=>h2,fun h=>by omega⟩,hj3⟩
theorem rd_mem (l:List Int) (i:Int) (h0:0 ≤ i) (h1:i < (l.length:Int)):rd l i ∈ l:=by unfold rd;exact getD_mem l i.toNat 0 tZ
theorem l1Int_ex (b:List Int) (i h:Int) (l:List Int) (hc:curOk b i) (hl:0 < l.length) (hm:l.length ≤ 1048576):∃ x j g,spec_l1Int.f b i h l = some (x,j,g) ∧ x ∈ l ∧ curOk b j:=by
 obtain ⟨x,j,g,e,hx,hj⟩:=l1Below_ex b i h (l.length:Int) hc tZ
 have h1:=hx.2.1 tZ
 unfold spec_l1Int.f
 simp only [e,Option.bind_some]
 rw [if_pos hx.1,if_pos h1]
 exact ⟨_,_,_,rfl,rd_mem l x hx.1 h1,hj⟩
theorem sameDev_l1 (s:List (List Int)) (c:List S50) (f:Int) (d:Bool) (hc:c.length ≤ 4194304):∀ (n i:Nat),c.length - i = n → i ≤ c.length → Ev (fun k=>laws_sameDev.l1 k (i:Int) s c f d s c f d) true
 | 0,i,hn,hi=>evSucc ⟨0,1,fun k _=>by simp only [laws_sameDev.l1];rw [if_neg tZ]⟩
 | n + 1,i,hn,hi=>by
  obtain ⟨K,hK⟩:=sameDev_l1 s c f d hc n (i + 1) tZ tZ
  refine evSucc ⟨K,1,fun k hk=>?_⟩
  have a:=hK k hk
  simp only at a
  simp only [laws_sameDev.l1]
  rw [if_pos tZ,if_pos tZ,if_pos tZ,if_pos (by trivial),if_pos (by trivial),w64s i tZ]
  exact a
theorem sameDev_l0 (s:List (List Int)) (c:List S50) (f:Int) (d:Bool) (hs:s.length ≤ 4194304) (hc:c.length ≤ 4194304):∀ (n i:Nat),s.length - i = n → i ≤ s.length → Ev (fun k=>laws_sameDev.l0 k (i:Int) s c f d s c f d) true
 | 0,i,hn,hi=>by
  obtain ⟨K,hK⟩:=sameDev_l1 s c f d hc c.length 0 tZ tZ
  refine evSucc ⟨K,1,fun k hk=>?_⟩
  have a:=hK k hk
  simp only at a
  simp only [laws_sameDev.l0]
  rw [if_neg tZ]
  exact a
 | n + 1,i,hn,hi=>by
  obtain ⟨K,hK⟩:=sameDev_l0 s c f d hs hc n (i + 1) tZ tZ
  refine evSucc ⟨K,1,fun k hk=>?_⟩
  have a:=hK k hk
  simp only at a
  simp only [laws_sameDev.l0]
  rw [if_pos tZ,if_pos tZ,if_pos tZ,if_pos (by trivial),w64s i tZ]
  exact a
theorem sameDev_ev (s:List (List Int)) (c:List S50) (f:Int) (d:Bool) (hs:s.length ≤ 4194304) (hc:c.length ≤ 4194304):Ev (fun k=>laws_sameDev.f k s c f d s c f d) true:=by
 obtain ⟨K,hK⟩:=sameDev_l0 s c f d hs hc s.length 0 tZ tZ
 refine evSucc ⟨K,1,fun k hk=>?_⟩
 have a:=hK k hk
 have e:(d != d) = false:=by simp
 simp only at a
 simp only [laws_sameDev.f,e]
 rw [if_pos (by trivial),if_pos (by trivial),if_pos (by trivial)]
 simp only [laws_sameDev.j0]
 rw [if_neg tf]
 exact a
theorem l1New_ex (b:List Int) (hb:bytesIn b) (hl:b.length ≤ 1048576):∃ h,Ev (fun k=>spec_l1New.f k b) (b,0,h):=by
 obtain ⟨r,⟨h,rfl⟩,K,hk⟩:=evRangeEx (σ:=Int) b.length (fun k s i=>spec_l1New.l0 k b s i) (fun _ _=>True) (fun r=>∃ h,r = (b,0,h))
  (by
   intro i s hi _
   by_cases c:i < 4000
   ·refine .inl ⟨Go.bits .and .i64 (wrap64 ((wrap64 ((wrap64 (s * 137)) + (wrap64 (rd b (i:Int))))) + 11)) 1073741823,trivial,0,1,fun k _=>?_⟩
    simp only [spec_l1New.l0]
    rw [if_pos tZ,if_pos tZ,if_pos tZ,w64s i tZ]
   ·refine .inr ⟨(b,0,s),⟨s,rfl⟩,0,1,fun k _=>?_⟩
    simp only [spec_l1New.l0]
    rw [if_pos tZ,if_neg tZ])
  (by
   intro s _
   refine ⟨(b,0,s),⟨s,rfl⟩,0,1,fun k _=>?_⟩
   simp only [spec_l1New.l0]
   rw [if_neg tZ]) 0 (wrap64 (941941 + (b.length:Int))) (Nat.zero_le _) trivial
 exact ⟨h,K,fun k hk'=>hk k hk'⟩
theorem l1Bytes_ex (b:List Int) (i h n:Int) (hc:curOk b i) (h0:0 ≤ n) (hn:n ≤ 1048576):∃ r:List Int × Int × Int,(r.1.length = n.toNat ∧ bytesIn r.1 ∧ curOk b r.2.1) ∧ Ev (fun k=>spec_l1Bytes.f k b i h n) r:=by
 obtain ⟨m,rfl⟩:=Int.eq_ofNat_of_zero_le h0
 obtain ⟨r,hp,K,hk⟩:=evRangeEx (σ:=List Int × Int × Int) m (fun k s i=>spec_l1Bytes.l0 k (m:Int) s.1 i b s.2.1 s.2.2) (fun i s=>s.1.length = i ∧ bytesIn s.1 ∧ curOk b s.2.1) (fun r=>r.1.length = m ∧ bytesIn r.1 ∧ curOk b r.2.1)
  (by
   rintro i ⟨l,p,q⟩ hi ⟨h1,h2,h3⟩
   simp only at h1 h2 h3
   obtain ⟨x,j,g,e,hx,hj⟩:=l1Byte_ex b p q h3
   refine .inl ⟨(l ++ [x % 256],j,g),⟨by simp;omega,?_,hj⟩,0,1,fun k _=>?_⟩
   ·intro y hy
    rcases List.mem_append.1 hy with hy|hy
    ·exact h2 y hy
    ·rw [List.mem_singleton.1 hy];omega
   ·simp only [spec_l1Bytes.l0,e,Option.bind_some]
    rw [if_pos tZ,if_pos tZ,w64s i tZ])
  (by
   rintro ⟨l,p,q⟩ ⟨h1,h2,h3⟩
   refine ⟨(l,p,q),⟨h1,h2,h3⟩,0,1,fun k _=>?_⟩
   simp only [spec_l1Bytes.l0]
   rw [if_neg tZ]) 0 ([],i,h) (Nat.zero_le _) ⟨rfl,(by intro x hx;cases hx),hc⟩
 exact ⟨r,by simpa using hp,K,fun k hk'=>hk k hk'⟩
def putW (l:List Int) (n:Int):List Int:=l ++ [n / 256 % 256,n % 256]
def keyOk5 (a b c d e:Int):Bool:=decide (0 ≤ a ∧ a ≤ 15) && (decide (1 ≤ b ∧ b ≤ 60) && (decide (0 ≤ c ∧ c ≤ 2) && if c = 1 then decide (0 ≤ d ∧ d ≤ 23) && decide (0 ≤ e ∧ e ≤ 999) else decide (d = 0) && decide (e = 0)))
def putKey (l:List Int) (a b c d e:Int):List Int:=if keyOk5 a b c d e = true then putW (l ++ [a % 256,b % 256,c % 256,d % 256]) e else l
def okD (m:Nat) (s:List (List Int)) (c:List S50):Prop:=(2 ≤ s.length ∧ s.length ≤ 7) ∧ (∀ x ∈ s,x.length ≤ 4) ∧ c.length ≤ m ∧ ∀ x ∈ c,(0 ≤ x.f0 ∧ x.f0 < (s.length:Int)) ∧ x.f1.length ≤ 4
theorem okD_at {m:Nat} {s:List (List Int)} {c:List S50} (h:okD m s c) (i:Nat) (hi:i < c.length):(0 ≤ (c.getD i z50).f0 ∧ (c.getD i z50).f0 < (s.length:Int)) ∧ (c.getD i z50).f1.length ≤ 4:=h.2.2.2 _ (getD_mem c i z50 hi)
theorem burnF_none (d:Bool):burnF (-1) d = (-1,d,true):=by unfold burnF;rw [if_neg tf,if_neg tf]
theorem flushed_none (s:List (List Int)) (c:List S50):flushed s c (-1) false = (flushSecs s c c.length,[],-1,false):=by
 unfold flushed
 rw [if_neg tf,burnF_none]
 rfl
theorem flushSecs_small {m:Nat} {s:List (List Int)} {c:List S50} (h:okD m s c):∀ i,i ≤ c.length → ∀ x ∈ flushSecs s c i,x.length ≤ 4
 | 0,_,x,hx=>h.2.1 x hx
 | i + 1,hi,x,hx=>by
  unfold flushSecs at hx
  rcases List.mem_or_eq_of_mem_set hx with q|q
  ·exact flushSecs_small h i tZ x q
  ·rw [q];exact (okD_at h i tZ).2
theorem okD_flush {m n:Nat} {s:List (List Int)} {c:List S50} (h:okD m s c):okD n (flushSecs s c c.length) []:=by
 refine ⟨by rw [flushSecs_length];exact h.1,flushSecs_small h _ (Nat.le_refl _),by simp,fun x hx=>by cases hx⟩
theorem okD_mono {m n:Nat} {s:List (List Int)} {c:List S50} (h:okD m s c) (hn:m ≤ n):okD n s c:=⟨h.1,h.2.1,by have:=h.2.2.1;omega,h.2.2.2⟩
theorem flOk_of {m:Nat} {s:List (List Int)} {c:List S50} (h:okD m s c) (hm:m ≤ 100):flOk s c = true:=by
 unfold flOk
 rw [Bool.and_eq_true,decide_eq_true_eq]
 refine ⟨by have:=h.2.2.1;omega,allFrom_iff.2 fun i _ hi=>?_⟩
 simp only [decide_eq_true_eq]
 exact (okD_at h i hi).1
theorem wrote_none (s:List (List Int)) (c:List S50) (n:Int) (b:List Int):wrote s c (-1) false n b = (if putsB s c false n b = true then c ++ [⟨n,b⟩] else c,-1,false):=by
 unfold wrote
 rw [burnF_none]
 split <;> rfl
theorem okD_wrote {m:Nat} {s:List (List Int)} {c:List S50} (n:Int) (b:List Int) (h:okD m s c) (hn:0 ≤ n ∧ n < (s.length:Int)) (hb:b.length ≤ 4):okD (m + 1) s (if putsB s c false n b = true then c ++ [⟨n,b⟩] else c):=by
 split
 ·refine ⟨h.1,h.2.1,by rw [List.length_append];have:=h.2.2.1;simp only [List.length_cons,List.length_nil];omega,fun x hx=>?_⟩
  rcases List.mem_append.1 hx with hx|hx
  ·exact h.2.2.2 x hx
  ·rw [List.mem_singleton.1 hx];exact ⟨hn,hb⟩
 ·exact okD_mono h tZ
theorem l2Go_ex (b:List Int):∀ (n m:Nat) (s:List (List Int)) (c:List S50) (j g:Int),n + m ≤ 8 → okD m s c → curOk b j → ∃ s' c' j' g',(okD 8 s' c' ∧ curOk b j') ∧ Ev (fun k=>spec_l2Draw.l0 k (n:Int) s c (-1) false b j g) (s',c',-1,false,j',g')
 | 0,m,s,c,j,g,hm,hd,hc=>⟨s,c,j,g,⟨okD_mono hd tZ,hc⟩,evSucc ⟨0,1,fun k _=>by simp only [spec_l2Draw.l0];rw [if_neg tZ]⟩⟩
 | n + 1,m,s,c,j,g,hm,hd,hc=>by
  obtain ⟨x,j1,g1,e,hx,hj1⟩:=l1Below_ex b j g 4 hc tf
  cases hz:(x == 0) with
  | true =>
   obtain ⟨s',c',j',g',hok,K,hK⟩:=l2Go_ex b n (m + 1) (flushSecs s c c.length) [] j1 g1 tZ (okD_flush hd) hj1
   refine ⟨s',c',j',g',hok,evSucc ⟨K,1,fun k hk=>?_⟩⟩
   have a1:=hK k hk
   simp only at a1
   simp only [spec_l2Draw.l0,spec_l1Once.f,e,Option.bind_some,hz,if_true]
   rw [if_pos tZ,if_pos (flOk_of hd tZ),flushed_none,w64 (x:=((n + 1:Nat):Int) - 1) tZ tZ,show ((n + 1:Nat):Int) - 1 = (n:Int) by omega]
   exact a1
  | false =>
   have hsl:=hd.1
   obtain ⟨y,j2,g2,e2,hy,hj2⟩:=l1Below_ex b j1 g1 (s.length:Int) hj1 tZ
   obtain ⟨z,j3,g3,e3,hz3,hj3⟩:=l1Below_ex b j2 g2 4 hj2 tf
   have hz4:=hz3.2.1 tf
   obtain ⟨⟨r,j4,g4⟩,⟨hr,_,hj4⟩,K2,hK2⟩:=l1Bytes_ex b j3 g3 z hj3 hz3.1 tZ
   simp only at hr hj4
   obtain ⟨s',c',j',g',hok,K,hK⟩:=l2Go_ex b n (m + 1) s _ j4 g4 tZ (okD_wrote y r hd ⟨hy.1,hy.2.1 tZ⟩ tZ) hj4
   refine ⟨s',c',j',g',hok,evSucc ⟨K + K2,1,fun k hk=>?_⟩⟩
   have a1:=hK k tZ
   have a2:=hK2 k tZ
   simp only at a1 a2
   simp only [spec_l2Draw.l0,spec_l1Once.f,e,Option.bind_some,hz,Bool.false_eq_true,if_false,e2,e3,a2]
   rw [if_pos tZ,wrote_none,w64 (x:=((n + 1:Nat):Int) - 1) tZ tZ,show ((n + 1:Nat):Int) - 1 = (n:Int) by omega]
   exact a1
theorem l2Draw_ex (b:List Int) (i h:Int) (hc:curOk b i):∃ s c j g,(okD 8 s c ∧ curOk b j) ∧ Ev (fun k=>spec_l2Draw.f k b i h) (s,c,-1,false,j,g):=by
 obtain ⟨x,j1,g1,e1,hx,hj1⟩:=l1Below_ex b i h 6 hc tf
 have hx6:=hx.2.1 tf
 obtain ⟨K1,hK1⟩:=spec_DevNew_ev (2 + x)
 obtain ⟨n,j2,g2,e2,hn,hj2⟩:=l1Below_ex b j1 g1 8 hj1 tf
 have hn8:=hn.2.1 tf
 obtain ⟨m,rfl⟩:=Int.eq_ofNat_of_zero_le hn.1
 have hdn:devNew (2 + x) = (List.replicate (2 + x).toNat [],[],-1,false):=by unfold devNew;rw [if_pos tZ]
 have hok:okD 0 (List.replicate (2 + x).toNat ([]:List Int)) ([]:List S50):=⟨by rw [List.length_replicate];omega,fun y hy=>by rw [(List.mem_replicate.1 hy).2];simp,by simp,fun y hy=>by cases hy⟩
 obtain ⟨s',c',j',g',hok',K2,hK2⟩:=l2Go_ex b m 0 _ _ j2 g2 tZ hok hj2
 refine ⟨s',c',j',g',hok',K1 + K2,fun k hk=>?_⟩
 have a1:=hK1 k tZ
 have a2:=hK2 k tZ
 rw [hdn] at a1
 simp only at a1 a2
 simp only [spec_l2Draw.f,spec_l2Draw.g,e1,Option.bind_some,w64 (x:=2 + x) tZ tZ,a1,e2,a2]
theorem bulkW_small:∀ (c:List S50),(∀ x ∈ c,x.f1.length ≤ 4) → bulkWrS c ≤ 5 * c.length
 | [],_=>by simp [bulkWrS]
 | x :: xs,h=>by
  have h1:=h x vN
  have h2:=bulkW_small xs (fun y hy=>h y (by simp [hy]))
  simp only [bulkWrS,List.length_cons]
  omega
def okE (s:List (List Int)) (c:List S50):Prop:=s.length ≤ 7 ∧ (∀ x ∈ s,x.length ≤ 81) ∧ c.length ≤ 61 ∧ ∀ x ∈ c,x.f1.length ≤ 4
theorem okE_of {s:List (List Int)} {c:List S50} (h:okD 8 s c):okE s c:=⟨h.1.2,fun x hx=>by have:=h.2.1 x hx;omega,by have:=h.2.2.1;omega,fun x hx=>(h.2.2.2 x hx).2⟩
theorem okE_app {s:List (List Int)} {c:List S50} (h:okE s c) (hc:c.length ≤ 60) (x:S50) (hx:x.f1.length ≤ 4):okE s (c ++ [x]):=by
 refine ⟨h.1,h.2.1,by rw [List.length_append];simp only [List.length_cons,List.length_nil];omega,fun y hy=>?_⟩
 rcases List.mem_append.1 hy with hy|hy
 ·exact h.2.2.2 y hy
 ·rw [List.mem_singleton.1 hy];exact hx
theorem bulk_E:∀ (s:List (List Int)),(∀ x ∈ s,x.length ≤ 81) → bulkByteSS s ≤ 82 * s.length
 | [],_=>by simp [bulkByteSS]
 | x :: xs,h=>by
  have h1:=h x vN
  have h2:=bulk_E xs (fun y hy=>h y (by simp [hy]))
  simp only [bulkByteSS,List.length_cons]
  omega
theorem okE_bulk {s:List (List Int)} {c:List S50} (h:okE s c):bulkByteSS s ≤ 574 ∧ bulkWrS c ≤ 305:=by
 have h1:=bulk_E s h.2.1
 have h2:=bulkW_small c h.2.2.2
 have h3:=h.1
 have h4:=h.2.2.1
 omega
theorem l2Fill_ex (b:List Int):∀ (n:Nat) (s:List (List Int)) (c:List S50) (f:Int) (d:Bool) (j g:Int),62 - c.length ≤ n → okE s c → curOk b j → ∃ c' j' g',(okE s c' ∧ curOk b j') ∧ Ev (fun k=>spec_l2Any.l0 k b j g s c f d) (s,c',f,d,j',g')
 | 0,s,c,f,d,j,g,hn,h,hc=>absurd h.2.2.1 tZ
 | n + 1,s,c,f,d,j,g,hn,h,hc=>by
  obtain ⟨x,j1,g1,e,hx,hj1⟩:=l1Below_ex b j g 3 hc tf
  have hx3:=hx.2.1 tf
  have hcl:=h.2.2.1
  by_cases q:(c.length:Int) < 59 + x
  ·obtain ⟨c',j',g',hok,K,hK⟩:=l2Fill_ex b n s (c ++ [⟨0,[]⟩]) f d j1 g1 (by rw [List.length_append];simp only [List.length_cons,List.length_nil];omega) (okE_app h tZ _ vN) hj1
   refine ⟨c',j',g',hok,evSucc ⟨K,1,fun k hk=>?_⟩⟩
   have a:=hK k hk
   simp only at a
   simp only [spec_l2Any.l0,e,Option.bind_some,w64 (x:=59 + x) tZ tZ]
   rw [if_pos q,if_pos tZ]
   exact a
  ·refine ⟨c,j1,g1,⟨h,hj1⟩,evSucc ⟨0,1,fun k _=>?_⟩⟩
   simp only [spec_l2Any.l0,e,Option.bind_some,w64 (x:=59 + x) tZ tZ]
   rw [if_neg q]
theorem l2Any_ex (b:List Int) (i h:Int) (hc:curOk b i):∃ s c f d j g,(okE s c ∧ curOk b j) ∧ Ev (fun k=>spec_l2Any.f k b i h) (s,c,f,d,j,g):=by
 obtain ⟨s,c,j,g,⟨hok,hj⟩,K,eK⟩:=l2Draw_ex b i h hc
 have hE:=okE_of hok
 have hs1:=hok.1
 have hc1:=hok.2.2.1
 obtain ⟨x,j1,g1,e1,hx,hj1⟩:=l1Below_ex b j g 12 hj tf
 by_cases q0:x = 0
 ·obtain ⟨y,j2,g2,e2,hy,hj2⟩:=l1Below_ex b j1 g1 2 hj1 tf
  have hy2:=hy.2.1 tf
  refine ⟨s.set (0:Int).toNat (List.replicate (80 + y).toNat 0),c,-1,false,j2,g2,⟨⟨by rw [List.length_set];exact hE.1,fun z hz=>?_,hE.2.2⟩,hj2⟩,K,fun k hk=>?_⟩
  ·rcases List.mem_or_eq_of_mem_set hz with hz|hz
   ·exact hE.2.1 z hz
   ·rw [hz,List.length_replicate];omega
  ·have a:=eK k hk
   simp only at a
   simp only [spec_l2Any.f,a,e1,Option.bind_some]
   rw [if_pos q0]
   simp only [e2,Option.bind_some,w64 (x:=80 + y) tZ tZ]
   rw [if_pos tZ,if_pos tZ,if_pos tZ]
 by_cases q1:x = 1
 ·obtain ⟨y,j2,g2,e2,hy,hj2⟩:=l1Int_ex b j1 g1 [-1,0,99] hj1 tf tf
  obtain ⟨⟨z,j3,g3⟩,⟨hz,_,hj3⟩,K2,hK2⟩:=l1Bytes_ex b j2 g2 2 hj2 tf tf
  simp only at hz hj3
  refine ⟨s,c ++ [⟨y,z⟩],-1,false,j3,g3,⟨okE_app hE tZ _ (by show z.length ≤ 4;rw [hz];decide),hj3⟩,K + K2,fun k hk=>?_⟩
  have a:=eK k tZ
  have a2:=hK2 k tZ
  simp only at a a2
  simp only [spec_l2Any.f,a,e1,Option.bind_some]
  rw [if_neg q0,if_pos q1]
  simp only [e2,a2,Option.bind_some]
  rw [if_pos tZ]
 by_cases q2:x = 2
 ·obtain ⟨c',j',g',hok',K2,hK2⟩:=l2Fill_ex b 62 s c (-1) false j1 g1 tZ hE hj1
  refine ⟨s,c',-1,false,j',g',hok',K + K2,fun k hk=>?_⟩
  have a:=eK k tZ
  have a2:=hK2 k tZ
  simp only at a a2
  simp only [spec_l2Any.f,a,e1,Option.bind_some]
  rw [if_neg q0,if_neg q1,if_pos q2]
  exact a2
 by_cases q3:x = 3
 ·obtain ⟨y,j2,g2,e2,hy,hj2⟩:=l1Int_ex b j1 g1 [0,1,5,-2,1001] hj1 tf tf
  refine ⟨s,c,y,false,j2,g2,⟨hE,hj2⟩,K,fun k hk=>?_⟩
  have a:=eK k hk
  simp only at a
  simp only [spec_l2Any.f,a,e1,Option.bind_some]
  rw [if_neg q0,if_neg q1,if_neg q2,if_pos q3]
  simp only [e2,Option.bind_some]
 by_cases q4:x = 4
 ·refine ⟨s,c,-1,true,j1,g1,⟨hE,hj1⟩,K,fun k hk=>?_⟩
  have a:=eK k hk
  simp only at a
  simp only [spec_l2Any.f,a,e1,Option.bind_some]
  rw [if_neg q0,if_neg q1,if_neg q2,if_neg q3,if_pos q4]
 by_cases q5:x = 5
 ·refine ⟨s,c,0,false,j1,g1,⟨hE,hj1⟩,K,fun k hk=>?_⟩
  have a:=eK k hk
  simp only at a
  simp only [spec_l2Any.f,a,e1,Option.bind_some]
  rw [if_neg q0,if_neg q1,if_neg q2,if_neg q3,if_neg q4,if_pos q5]
 ·refine ⟨s,c,-1,false,j1,g1,⟨hE,hj1⟩,K,fun k hk=>?_⟩
  have a:=eK k hk
  simp only at a
  simp only [spec_l2Any.f,a,e1,Option.bind_some]
  rw [if_neg q0,if_neg q1,if_neg q2,if_neg q3,if_neg q4,if_neg q5]
theorem DrawDevOk_ex (b:List Int) (hb:bytesIn b) (hl:b.length ≤ 1048576):∃ s c f d,okE s c ∧ Ev (fun k=>spec_DrawDevOk.f k b) (s,c,f,d):=by
 obtain ⟨h,K0,e0⟩:=l1New_ex b hb hl
 obtain ⟨s,c,f,d,j,g,hok,K,e⟩:=l2Any_ex b 0 h ⟨hb,hl,by omega,by omega⟩
 refine ⟨s,c,f,d,hok.1,K0 + K,fun k hk=>?_⟩
 have a0:=e0 k tZ
 have a1:=e k tZ
 simp only at a0 a1
 simp only [spec_DrawDevOk.f,a0,a1,Option.bind_some]
theorem DrawFlushDev_ex (b:List Int) (hb:bytesIn b) (hl:b.length ≤ 1048576):∃ s c f d,okE s c ∧ Ev (fun k=>spec_DrawFlushDev.f k b) (s,c,f,d):=by
 obtain ⟨h,K0,e0⟩:=l1New_ex b hb hl
 obtain ⟨s,c,f,d,j,g,hok,K,e⟩:=l2Any_ex b 0 h ⟨hb,hl,by omega,by omega⟩
 refine ⟨s,c,f,d,hok.1,K0 + K,fun k hk=>?_⟩
 have a0:=e0 k tZ
 have a1:=e k tZ
 simp only at a0 a1
 simp only [spec_DrawFlushDev.f,a0,a1,Option.bind_some]
theorem DrawReadSec_ex (b:List Int) (hb:bytesIn b) (hl:b.length ≤ 1048576):∃ s c f d n,okE s c ∧ Ev (fun k=>spec_DrawReadSec.f k b) (s,c,f,d,n):=by
 obtain ⟨h,K0,e0⟩:=l1New_ex b hb hl
 obtain ⟨s,c,f,d,j,g,hok,K,e⟩:=l2Any_ex b 0 h ⟨hb,hl,by omega,by omega⟩
 obtain ⟨n,j2,g2,e2,_,_⟩:=l1Int_ex b j g [0,0,1,2,-1,60] hok.2 tf tf
 refine ⟨s,c,f,d,n,hok.1,K0 + K,fun k hk=>?_⟩
 have a0:=e0 k tZ
 have a1:=e k tZ
 simp only at a0 a1
 simp only [spec_DrawReadSec.f,a0,a1,e2,Option.bind_some]
theorem DrawFallDev_ex (b:List Int) (hb:bytesIn b) (hl:b.length ≤ 1048576):∃ s c f d n,okE s c ∧ Ev (fun k=>spec_DrawFallDev.f k b) (s,c,f,d,n):=by
 obtain ⟨h,K0,e0⟩:=l1New_ex b hb hl
 obtain ⟨s,c,f,d,j,g,hok,K,e⟩:=l2Any_ex b 0 h ⟨hb,hl,by omega,by omega⟩
 obtain ⟨n,j2,g2,e2,_,_⟩:=l1Int_ex b j g [0,1,2,3,5,10,1073741823,-1,1073741824] hok.2 tf tf
 refine ⟨s,c,f,d,n,hok.1,K0 + K,fun k hk=>?_⟩
 have a0:=e0 k tZ
 have a1:=e k tZ
 simp only at a0 a1
 simp only [spec_DrawFallDev.f,a0,a1,e2,Option.bind_some]
theorem DrawDevNew_ex (b:List Int) (hb:bytesIn b) (hl:b.length ≤ 1048576):∃ n,Ev (fun k=>spec_DrawDevNew.f k b) n:=by
 obtain ⟨h,K0,e0⟩:=l1New_ex b hb hl
 obtain ⟨n,j2,g2,e2,_,_⟩:=l1Int_ex b 0 h [1,9,60,0,61,-1] ⟨hb,hl,by omega,by omega⟩ tf tf
 refine ⟨n,K0,fun k hk=>?_⟩
 have a0:=e0 k tZ
 simp only at a0
 simp only [spec_DrawDevNew.f,a0,e2,Option.bind_some]
theorem DrawWriteSec_ex (b:List Int) (hb:bytesIn b) (hl:b.length ≤ 1048576):∃ s c f d n y,(okE s c ∧ y.length ≤ 81) ∧ Ev (fun k=>spec_DrawWriteSec.f k b) (s,c,f,d,n,y):=by
 obtain ⟨h,K0,e0⟩:=l1New_ex b hb hl
 obtain ⟨x,j1,g1,e1,hx,hj1⟩:=l1Below_ex b 0 h 5 ⟨hb,hl,by omega,by omega⟩ tf
 have hx5:=hx.2.1 tf
 obtain ⟨⟨y,j2,g2⟩,⟨hy,_,hj2⟩,K2,hK2⟩:=l1Bytes_ex b j1 g1 x hj1 hx.1 tZ
 simp only at hy hj2
 obtain ⟨z,j3,g3,e3,hz,hj3⟩:=l1Below_ex b j2 g2 10 hj2 tf
 cases hzz:(z == 0) with
 | true =>
  obtain ⟨v,j4,g4,e4,hv,hj4⟩:=l1Below_ex b j3 g3 2 hj3 tf
  have hv2:=hv.2.1 tf
  obtain ⟨s,c,f,d,j,g,hok,K,e⟩:=l2Any_ex b j4 g4 hj4
  obtain ⟨n,j6,g6,e6,_,_⟩:=l1Int_ex b j g [0,0,1,2,-1,60] hok.2 tf tf
  refine ⟨s,c,f,d,n,List.replicate (80 + v).toNat 0,⟨hok.1,by rw [List.length_replicate];omega⟩,K0 + K + K2,fun k hk=>?_⟩
  have a0:=e0 k tZ
  have a1:=e k tZ
  have a2:=hK2 k tZ
  simp only at a0 a1 a2
  simp only [spec_DrawWriteSec.f,spec_l1Once.f,a0,e1,a2,e3,hzz,Option.bind_some,if_true,e4,w64 (x:=80 + v) tZ tZ]
  rw [if_pos tZ,if_pos tZ]
  simp only [a1,e6,Option.bind_some]
 | false =>
  obtain ⟨s,c,f,d,j,g,hok,K,e⟩:=l2Any_ex b j3 g3 hj3
  obtain ⟨n,j6,g6,e6,_,_⟩:=l1Int_ex b j g [0,0,1,2,-1,60] hok.2 tf tf
  refine ⟨s,c,f,d,n,y,⟨hok.1,by omega⟩,K0 + K + K2,fun k hk=>?_⟩
  have a0:=e0 k tZ
  have a1:=e k tZ
  have a2:=hK2 k tZ
  simp only at a0 a1 a2
  simp only [spec_DrawWriteSec.f,spec_l1Once.f,a0,e1,a2,e3,hzz,Option.bind_some,Bool.false_eq_true,if_false,a1,e6]
end Go.Proofs.Ytilhcaofpfeioaa.Pure

namespace Go.Proofs.Ytilhcaofpfeioaa.Law
open Go.RowKit Go.Proofs.Ytilhcaofpfeioaa.PFnDevsBent Go.Proofs.Ytilhcaofpfeioaa.Core Go.Proofs.YtilhcaofpfeioaaW.PrintWords Go.Proofs.YtilhcaofpfeioaaW.PrintLast Go.Proofs.YtilhcaofpfeioaaW.PrintMore Go.Proofs.Ytilhcaofpfeioaa.Pure
set_option linter.unusedSimpArgs false
set_option linter.unusedVariables false
theorem wp_restart {P:Program} {md:Region.Mode} {ops:Array Oper} {Q:Exit → Act → World → Prop} {S S':World → Prop} (hs:∀ w,S' w → S w):∀ (n:Nat) (l:Array Bool) (a:Act) (w:World),S' w → wpAnyLast P md ops Q S' [] n l a w → wpAnyLast P md ops Q S [] n l a w
 | 0,_,_,_,_,h=>h
 | n + 1,_,_,_,h',h=>⟨h.1,fun i hi=>wpOp_mono (fun a' w' hh=>⟨fun hd _=>hs _ (hh.1 hd h'),wp_restart hs n _ a' w' (hh.1 vN h') hh.2⟩) (h.2 i hi)⟩
theorem restart_ {P:Program} {md:Region.Mode} {ops:Array Oper} {Q:Exit → Act → World → Prop} {S S':World → Prop} {n:Nat} {l:Array Bool} {a:Act} {w:World} (hs:∀ w,S' w → S w) (h':S' w) (h:S' w → wpAnyLast P md ops Q S' [] n l a w):wpAnyLast P md ops Q S [] n l a w:=wp_restart hs n l a w h' (h h')
set_option maxHeartbeats 8000000 in
set_option maxRecDepth 100000 in
theorem walkFnDevsBentbig (A0:Option Addr) (c0:Nat) (l0:List (Int)) (s1 s2 s3 s4 s5 s6 s7 s8 s9:List (List Int)) (c1 c2 c3 c4 c5 c6 c7 c8 c9:List (S50)) (f1 f2 f3 f4 f5 f6 f7 f8 f9 n2 n3 n5 n6:Int) (d1 d2 d3 d4 d5 d6 d7 d8 d9 b1:Bool) (y2 y3:List Int) (w:World) (hf0:Kd.F (Kd.int .u8) w (In 0 w.heap.size) A0 l0.length l0) (hc0:l0.length ≤ c0) (Q1x:laws_big.f l0 = some true) :
  Calls Try.prog 11 #[.slice A0 l0.length c0] w fun e w'=>e = .returned (.bool true) ∧ Below w.heap.size w w':=by
 have HF0:=aA.mk hf0
 have HC0:=aA.mk hc0
 clear hf0 hc0
 have Q1:=aA.mk Q1x
 clear Q1x
 have HB:=aA.mk (Below.refl w.heap.size w)
 have HORD:=aA.mk (Nat.le_refl w.heap.size)
 have HT:=aA.mk (Nat.le_refl w.heap.size)
 go_enter Try.func11,Try.ntmps11
 go_wp2_with (first|((with_reducible refine aW (f:=33) rfl ?_);refine bK (some 14) rfl rfl Try.func33 tG rfl #[.slice A0 l0.length c0] rfl tC ?_;(with_reducible refine (laws_big.calls _ _ l0 true _ ?s1 ?s2 Q1.out).mono ?_);(case s1=>exact (Kd.bR HF0.out));(case s2=>exact HC0.out);rintro e_ w1 ⟨rfl,hd⟩;refine ⟨_,rfl,?_⟩;have hb:=hd.below;clear hd;replace HF0:=nF HF0;replace HB:=aA.mk (aT HB.out hb);replace HT:=aA.mk (Nat.le_trans HT.out hb.size);(try clear hb)))
 have hres_:=@results_tmp Try.f11 2 tG
 refine bodyPost_ret (fn:=Try.f11) (P:=Try.prog) (hres_ _ _ _) rfl ?_
 exact ⟨rfl,HB.out⟩
set_option maxHeartbeats 8000000 in
set_option maxRecDepth 100000 in
theorem walkFnDevsBent (A0:Option Addr) (c0:Nat) (l0:List (Int)) (s1 s2 s3 s4 s5 s6 s7 s8 s9:List (List Int)) (c1 c2 c3 c4 c5 c6 c7 c8 c9:List (S50)) (f1 f2 f3 f4 f5 f6 f7 f8 f9 n2 n3 n5 n6:Int) (d1 d2 d3 d4 d5 d6 d7 d8 d9 b1:Bool) (y2 y3:List Int) (k_Q2:Nat) (k_Q3:Nat) (k_Q4:Nat) (k_Q5:Nat) (k_Q6:Nat) (k_Q7:Nat) (k_Q8:Nat) (k_Q9:Nat) (k_Qa:Nat) (k_Qb:Nat) (k_Qh:Nat) (k_Qj:Nat) (k_S6:Nat) (k_S7:Nat) (k_S8:Nat) (k_S9:Nat) (w:World) (hf0:Kd.F (Kd.int .u8) w (In 0 w.heap.size) A0 l0.length l0) (hc0:l0.length ≤ c0) (Q1x:laws_big.f l0 = some false) (Q2x:spec_DrawDevOk.f k_Q2 l0 = some (s1,c1,f1,d1)) (Q3x:spec_DrawReadSec.f k_Q3 l0 = some (s2,c2,f2,d2,n2)) (Q4x:spec_DrawWriteSec.f k_Q4 l0 = some (s3,c3,f3,d3,n3,y3)) (Q5x:spec_DrawFlushDev.f k_Q5 l0 = some (s4,c4,f4,d4)) (Q6x:spec_DrawFallDev.f k_Q6 l0 = some (s5,c5,f5,d5,n5)) (Q7x:spec_DrawDevNew.f k_Q7 l0 = some n6) (Q8x:impl_DevOk.f k_Q8 s1 c1 f1 d1 = some b1) (Q9x:spec_DevOk.f k_Q9 s1 c1 f1 d1 = some b1) (Qax:impl_ReadSec.f k_Qa s2 c2 f2 d2 n2 = some y2) (Qbx:spec_ReadSec.f k_Qb s2 c2 f2 d2 n2 = some y2) (Qcx:impl_WriteSec.f s3 c3 f3 d3 n3 y3 = some (s6,c6,f6,d6)) (Qdx:spec_WriteSec.f s3 c3 f3 d3 n3 y3 = some (s6,c6,f6,d6)) (Qex:impl_FlushDev.f s4 c4 f4 d4 = some (s7,c7,f7,d7)) (Qfx:spec_FlushDev.f s4 c4 f4 d4 = some (s7,c7,f7,d7)) (Qgx:impl_FallDev.f s5 c5 f5 d5 n5 = some (s8,c8,f8,d8)) (Qhx:spec_FallDev.f k_Qh s5 c5 f5 d5 n5 = some (s8,c8,f8,d8)) (Qix:impl_DevNew.f n6 = some (s9,c9,f9,d9)) (Qjx:spec_DevNew.f k_Qj n6 = some (s9,c9,f9,d9)) (S6x:laws_sameDev.f k_S6 s6 c6 f6 d6 s6 c6 f6 d6 = some true) (S7x:laws_sameDev.f k_S7 s7 c7 f7 d7 s7 c7 f7 d7 = some true) (S8x:laws_sameDev.f k_S8 s8 c8 f8 d8 s8 c8 f8 d8 = some true) (S9x:laws_sameDev.f k_S9 s9 c9 f9 d9 s9 c9 f9 d9 = some true) :
  Calls Try.prog 11 #[.slice A0 l0.length c0] w fun e w'=>e = .returned (.bool true) ∧ Below w.heap.size w w':=by
 have hu25:=Try.underlying25
 have HF0:=aA.mk hf0
 have HC0:=aA.mk hc0
 clear hf0 hc0
 have Q1:=aA.mk Q1x
 clear Q1x
 have Q2:=aA.mk Q2x
 clear Q2x
 have Q3:=aA.mk Q3x
 clear Q3x
 have Q4:=aA.mk Q4x
 clear Q4x
 have Q5:=aA.mk Q5x
 clear Q5x
 have Q6:=aA.mk Q6x
 clear Q6x
 have Q7:=aA.mk Q7x
 clear Q7x
 have Q8:=aA.mk Q8x
 clear Q8x
 have Q9:=aA.mk Q9x
 clear Q9x
 have Qa:=aA.mk Qax
 clear Qax
 have Qb:=aA.mk Qbx
 clear Qbx
 have Qc:=aA.mk Qcx
 clear Qcx
 have Qd:=aA.mk Qdx
 clear Qdx
 have Qe:=aA.mk Qex
 clear Qex
 have Qf:=aA.mk Qfx
 clear Qfx
 have Qg:=aA.mk Qgx
 clear Qgx
 have Qh:=aA.mk Qhx
 clear Qhx
 have Qi:=aA.mk Qix
 clear Qix
 have Qj:=aA.mk Qjx
 clear Qjx
 have S6:=aA.mk S6x
 clear S6x
 have S7:=aA.mk S7x
 clear S7x
 have S8:=aA.mk S8x
 clear S8x
 have S9:=aA.mk S9x
 clear S9x
 have HB:=aA.mk (Below.refl w.heap.size w)
 have HORD:=aA.mk (Nat.le_refl w.heap.size)
 have HT:=aA.mk (Nat.le_refl w.heap.size)
 have hse1_:((strOfNums y2).toList == (strOfNums y2).toList) = true:=beq_self_eq_true _
 have hsb_:(b1 == b1) = true:=beq_self_eq_true _
 go_enter Try.func11,Try.ntmps11
 go_wp2_with (first|((with_reducible refine aW (f:=33) rfl ?_);refine bK (some 14) rfl rfl Try.func33 tG rfl #[.slice A0 l0.length c0] rfl tC ?_;(with_reducible refine (laws_big.calls _ _ l0 false _ ?s1 ?s2 Q1.out).mono ?_);(case s1=>exact (Kd.bR HF0.out));(case s2=>exact HC0.out);rintro e_ w1 ⟨rfl,hd⟩;refine ⟨_,rfl,?_⟩;have hb:=hd.below;clear hd;replace HF0:=nF HF0;replace HB:=aA.mk (aT HB.out hb);replace HT:=aA.mk (Nat.le_trans HT.out hb.size);(try clear hb))|((with_reducible refine aW (f:=36) rfl ?_);refine bK (some 16) rfl rfl Try.func36 tG rfl #[.slice A0 l0.length c0] rfl tC ?_;(with_reducible refine (spec_DrawDevOk.calls k_Q2 _ _ l0 s1 c1 f1 d1 _ ?s1 ?s2 Q2.out).mono ?_);(case s1=>exact (Kd.bR HF0.out));(case s2=>exact HC0.out);rintro e_ w2 ⟨v0_,v1_,rfl,ho0,ho1,hb⟩;refine ⟨_,rfl,?_⟩;obtain ⟨lo2,hi2,el_,eh_,ol_,oh_⟩:=Mem.times HT.out hb;(try rw [← el_] at ho0);obtain ⟨A2_0,c2_0,ev_,hc0_,hf0_⟩:=Mem.new_N (Kd.aV (ok':=fun k_=>lo2 ≤ k_) ho0 vP) eh_;subst ev_;(try rw [← el_] at ho1);obtain ⟨A2_1,c2_1,ev_,hc1_,hf1_⟩:=Mem.new_N (Kd.aV (ok':=fun k_=>lo2 ≤ k_) ho1 vP) eh_;subst ev_;replace HF0:=nF HF0;replace HB:=aA.mk (aT HB.out hb);replace HF2_0:=aA.mk (hf0_);replace HC2_0:=aA.mk (hc0_);replace HF2_1:=aA.mk (hf1_);replace HC2_1:=aA.mk (hc1_);replace HORD:=aA.mk (And.intro HORD.out (And.intro ol_ oh_));replace HT:=aA.mk (Nat.le_of_eq eh_);clear ol_ oh_ el_ eh_ ho0 hf0_ hc0_ ho1 hf1_ hc1_;(try clear hb))|((with_reducible refine bC (N:=3) rfl ?_);refine bD ?hg (N:=3) ?hd (cs:=#[.slice none 0 0,.slice none 0 0,.int .i64 0,.bool false]) (t:=25) ?hr ?_;(case hd=>rfl);(case hg=>rfl);(case hr=>exact tE);intro gb3 hg_ w3 hbox hb;have hge_:hi2 ≤ gb3:=tk;have hlt_:gb3 + 1 ≤ w3.heap.size:=bJ hbox;replace HF0:=nF HF0;replace HF2_0:=nF HF2_0;replace HF2_1:=nF HF2_1;replace HB:=aA.mk (aT HB.out hb);replace BK3:=aA.mk (hbox);replace HORD:=aA.mk (And.intro HORD.out (And.intro hge_ (Nat.le_succ gb3)));replace HT:=aA.mk (hlt_);clear hb hbox hg_ hge_ hlt_;have:=bs4 BK3.out)|((with_reducible refine bN (t:=25) (p:=3) rfl ?_);refine bL (t:=25) (p:=3) (v:=?vo_w4) (w1:=((((w3.setCell ⟨gb3,0,none⟩ (.slice A2_0 s1.length c2_0)).setCell ⟨gb3,1,none⟩ (.slice A2_1 c1.length c2_1)).setCell ⟨gb3,2,none⟩ (.int .i64 f1)).setCell ⟨gb3,3,none⟩ (.bool d1))) ?hg ?ho ?hn ?hr ?_;(case ho=>rfl);(case hg=>rfl);(case hn=>rfl);(case hr=>exact tE);intro w4 hw_;have hkp:Kept w3 w4 (fun k_=>k_ = gb3):=(by rw [hw_];exact Kept.setCell (Kept.setCell (Kept.setCell (Kept.setCell (Kept.refl w3 (fun k_=>k_ = gb3)) (.inl rfl) (.slice A2_0 s1.length c2_0)) (.inl rfl) (.slice A2_1 c1.length c2_1)) (.inl rfl) (.int .i64 f1)) (.inl rfl) (.bool d1));have hge_:w.heap.size ≤ gb3:=tL;have hbn_:Below w.heap.size w w4:=tU;have hbk_:w4.heap[gb3]? = some (.cells #[.slice A2_0 s1.length c2_0,.slice A2_1 c1.length c2_1,.int .i64 f1,.bool d1] 25 (0,0)):=(by rw [hw_];exact aQ (cs:=#[.slice A2_0 s1.length c2_0,.slice A2_1 c1.length c2_1,.int .i64 f1,.bool false]) (cs':=#[.slice A2_0 s1.length c2_0,.slice A2_1 c1.length c2_1,.int .i64 f1,.bool d1]) (aQ (cs:=#[.slice A2_0 s1.length c2_0,.slice A2_1 c1.length c2_1,.int .i64 0,.bool false]) (cs':=#[.slice A2_0 s1.length c2_0,.slice A2_1 c1.length c2_1,.int .i64 f1,.bool false]) (aQ (cs:=#[.slice A2_0 s1.length c2_0,.slice none 0 0,.int .i64 0,.bool false]) (cs':=#[.slice A2_0 s1.length c2_0,.slice A2_1 c1.length c2_1,.int .i64 0,.bool false]) (aQ (cs:=#[.slice none 0 0,.slice none 0 0,.int .i64 0,.bool false]) (cs':=#[.slice A2_0 s1.length c2_0,.slice none 0 0,.int .i64 0,.bool false]) (BK3.out) 0 _ rfl) 1 _ rfl) 2 _ rfl) 3 _ rfl);have hsz_:(gb3 + 1) ≤ w4.heap.size:=Nat.le_trans HT.out hkp.1;replace HF0:=aA.mk (Kd.aU HF0.out hkp tA);replace HF2_0:=aA.mk (Kd.aU HF2_0.out hkp tA);replace HF2_1:=aA.mk (Kd.aU HF2_1.out hkp tA);replace HB:=aA.mk (hbn_);replace BK3:=aA.mk (hbk_);replace HT:=aA.mk (hsz_);clear hw_ hkp hge_ hbn_ hbk_ hsz_;have:=bs4 BK3.out)|((with_reducible refine aW (f:=37) rfl ?_);refine bK (some 19) rfl rfl Try.func37 tG rfl #[.slice A0 l0.length c0] rfl tC ?_;(with_reducible refine (spec_DrawReadSec.calls k_Q3 _ _ l0 s2 c2 f2 d2 n2 _ ?s1 ?s2 Q3.out).mono ?_);(case s1=>exact (Kd.bR HF0.out));(case s2=>exact HC0.out);rintro e_ w5 ⟨v0_,v1_,rfl,ho0,ho1,hb⟩;refine ⟨_,rfl,?_⟩;obtain ⟨lo5,hi5,el_,eh_,ol_,oh_⟩:=Mem.times HT.out hb;(try rw [← el_] at ho0);obtain ⟨A5_0,c5_0,ev_,hc0_,hf0_⟩:=Mem.new_N (Kd.aV (ok':=fun k_=>lo5 ≤ k_) ho0 vP) eh_;subst ev_;(try rw [← el_] at ho1);obtain ⟨A5_1,c5_1,ev_,hc1_,hf1_⟩:=Mem.new_N (Kd.aV (ok':=fun k_=>lo5 ≤ k_) ho1 vP) eh_;subst ev_;replace HF0:=nF HF0;replace HF2_0:=nF HF2_0;replace HF2_1:=nF HF2_1;replace BK3:=nB BK3;replace HB:=aA.mk (aT HB.out hb);replace HF5_0:=aA.mk (hf0_);replace HC5_0:=aA.mk (hc0_);replace HF5_1:=aA.mk (hf1_);replace HC5_1:=aA.mk (hc1_);replace HORD:=aA.mk (And.intro HORD.out (And.intro ol_ oh_));replace HT:=aA.mk (Nat.le_of_eq eh_);clear ol_ oh_ el_ eh_ ho0 hf0_ hc0_ ho1 hf1_ hc1_;(try clear hb);have:=bs4 BK3.out)|((with_reducible refine bC (N:=4) rfl ?_);refine bD ?hg (N:=4) ?hd (cs:=#[.slice none 0 0,.slice none 0 0,.int .i64 0,.bool false]) (t:=25) ?hr ?_;(case hd=>rfl);(case hg=>rfl);(case hr=>exact tE);intro gb6 hg_ w6 hbox hb;have hge_:hi5 ≤ gb6:=tk;have hlt_:gb6 + 1 ≤ w6.heap.size:=bJ hbox;replace HF0:=nF HF0;replace HF2_0:=nF HF2_0;replace HF2_1:=nF HF2_1;replace HF5_0:=nF HF5_0;replace HF5_1:=nF HF5_1;replace BK3:=nB BK3;replace HB:=aA.mk (aT HB.out hb);replace BK6:=aA.mk (hbox);replace HORD:=aA.mk (And.intro HORD.out (And.intro hge_ (Nat.le_succ gb6)));replace HT:=aA.mk (hlt_);clear hb hbox hg_ hge_ hlt_;have:=bs4 BK3.out;have:=bs4 BK6.out)|((with_reducible refine bN (t:=25) (p:=4) rfl ?_);refine bL (t:=25) (p:=4) (v:=?vo_w7) (w1:=((((w6.setCell ⟨gb6,0,none⟩ (.slice A5_0 s2.length c5_0)).setCell ⟨gb6,1,none⟩ (.slice A5_1 c2.length c5_1)).setCell ⟨gb6,2,none⟩ (.int .i64 f2)).setCell ⟨gb6,3,none⟩ (.bool d2))) ?hg ?ho ?hn ?hr ?_;(case ho=>rfl);(case hg=>rfl);(case hn=>rfl);(case hr=>exact tE);intro w7 hw_;have hkp:Kept w6 w7 (fun k_=>k_ = gb6):=(by rw [hw_];exact Kept.setCell (Kept.setCell (Kept.setCell (Kept.setCell (Kept.refl w6 (fun k_=>k_ = gb6)) (.inl rfl) (.slice A5_0 s2.length c5_0)) (.inl rfl) (.slice A5_1 c2.length c5_1)) (.inl rfl) (.int .i64 f2)) (.inl rfl) (.bool d2));have hge_:w.heap.size ≤ gb6:=tL;have hbn_:Below w.heap.size w w7:=tU;have hbk_:w7.heap[gb6]? = some (.cells #[.slice A5_0 s2.length c5_0,.slice A5_1 c2.length c5_1,.int .i64 f2,.bool d2] 25 (0,0)):=(by rw [hw_];exact aQ (cs:=#[.slice A5_0 s2.length c5_0,.slice A5_1 c2.length c5_1,.int .i64 f2,.bool false]) (cs':=#[.slice A5_0 s2.length c5_0,.slice A5_1 c2.length c5_1,.int .i64 f2,.bool d2]) (aQ (cs:=#[.slice A5_0 s2.length c5_0,.slice A5_1 c2.length c5_1,.int .i64 0,.bool false]) (cs':=#[.slice A5_0 s2.length c5_0,.slice A5_1 c2.length c5_1,.int .i64 f2,.bool false]) (aQ (cs:=#[.slice A5_0 s2.length c5_0,.slice none 0 0,.int .i64 0,.bool false]) (cs':=#[.slice A5_0 s2.length c5_0,.slice A5_1 c2.length c5_1,.int .i64 0,.bool false]) (aQ (cs:=#[.slice none 0 0,.slice none 0 0,.int .i64 0,.bool false]) (cs':=#[.slice A5_0 s2.length c5_0,.slice none 0 0,.int .i64 0,.bool false]) (BK6.out) 0 _ rfl) 1 _ rfl) 2 _ rfl) 3 _ rfl);have hsz_:(gb6 + 1) ≤ w7.heap.size:=Nat.le_trans HT.out hkp.1;replace HF0:=aA.mk (Kd.aU HF0.out hkp tA);replace HF2_0:=aA.mk (Kd.aU HF2_0.out hkp tA);replace HF2_1:=aA.mk (Kd.aU HF2_1.out hkp tA);replace HF5_0:=aA.mk (Kd.aU HF5_0.out hkp tA);replace HF5_1:=aA.mk (Kd.aU HF5_1.out hkp tA);replace BK3:=aA.mk (aY BK3.out hkp tB);replace HB:=aA.mk (hbn_);replace BK6:=aA.mk (hbk_);replace HT:=aA.mk (hsz_);clear hw_ hkp hge_ hbn_ hbk_ hsz_;have:=bs4 BK3.out;have:=bs4 BK6.out)|((with_reducible refine aW (f:=38) rfl ?_);refine bK (some 24) rfl rfl Try.func38 tG rfl #[.slice A0 l0.length c0] rfl tC ?_;(with_reducible refine (spec_DrawWriteSec.calls k_Q4 _ _ l0 s3 c3 f3 d3 n3 y3 _ ?s1 ?s2 Q4.out).mono ?_);(case s1=>exact (Kd.bR HF0.out));(case s2=>exact HC0.out);rintro e_ w8 ⟨v0_,v1_,v2_,rfl,ho0,ho1,ho2,hb⟩;refine ⟨_,rfl,?_⟩;obtain ⟨lo8,hi8,el_,eh_,ol_,oh_⟩:=Mem.times HT.out hb;(try rw [← el_] at ho0);obtain ⟨A8_0,c8_0,ev_,hc0_,hf0_⟩:=Mem.new_N (Kd.aV (ok':=fun k_=>lo8 ≤ k_) ho0 vP) eh_;subst ev_;(try rw [← el_] at ho1);obtain ⟨A8_1,c8_1,ev_,hc1_,hf1_⟩:=Mem.new_N (Kd.aV (ok':=fun k_=>lo8 ≤ k_) ho1 vP) eh_;subst ev_;(try rw [← el_] at ho2);obtain ⟨A8_2,c8_2,ev_,hc2_,hf2_,hs2_⟩:=Mem.new_R ho2 eh_;subst ev_;replace HF0:=nF HF0;replace HF2_0:=nF HF2_0;replace HF2_1:=nF HF2_1;replace HF5_0:=nF HF5_0;replace HF5_1:=nF HF5_1;replace BK3:=nB BK3;replace BK6:=nB BK6;replace HB:=aA.mk (aT HB.out hb);replace HF8_0:=aA.mk (hf0_);replace HC8_0:=aA.mk (hc0_);replace HF8_1:=aA.mk (hf1_);replace HC8_1:=aA.mk (hc1_);replace HF8_2:=aA.mk (hf2_);replace HC8_2:=aA.mk (hc2_);replace HS8_2:=aA.mk (hs2_);replace HORD:=aA.mk (And.intro HORD.out (And.intro ol_ oh_));replace HT:=aA.mk (Nat.le_of_eq eh_);clear ol_ oh_ el_ eh_ ho0 hf0_ hc0_ ho1 hf1_ hc1_ ho2 hf2_ hc2_ hs2_;(try clear hb);have:=bs4 BK3.out;have:=bs4 BK6.out)|((with_reducible refine bC (N:=6) rfl ?_);refine bD ?hg (N:=6) ?hd (cs:=#[.slice none 0 0,.slice none 0 0,.int .i64 0,.bool false]) (t:=25) ?hr ?_;(case hd=>rfl);(case hg=>rfl);(case hr=>exact tE);intro gb9 hg_ w9 hbox hb;have hge_:hi8 ≤ gb9:=tk;have hlt_:gb9 + 1 ≤ w9.heap.size:=bJ hbox;replace HF0:=nF HF0;replace HF2_0:=nF HF2_0;replace HF2_1:=nF HF2_1;replace HF5_0:=nF HF5_0;replace HF5_1:=nF HF5_1;replace HF8_0:=nF HF8_0;replace HF8_1:=nF HF8_1;replace HF8_2:=nF HF8_2;replace HS8_2:=aA.mk (Kd.cA HS8_2.out hb);replace BK3:=nB BK3;replace BK6:=nB BK6;replace HB:=aA.mk (aT HB.out hb);replace BK9:=aA.mk (hbox);replace HORD:=aA.mk (And.intro HORD.out (And.intro hge_ (Nat.le_succ gb9)));replace HT:=aA.mk (hlt_);clear hb hbox hg_ hge_ hlt_;have:=bs4 BK3.out;have:=bs4 BK6.out;have:=bs4 BK9.out)|((with_reducible refine bN (t:=25) (p:=6) rfl ?_);refine bL (t:=25) (p:=6) (v:=?vo_w10) (w1:=((((w9.setCell ⟨gb9,0,none⟩ (.slice A8_0 s3.length c8_0)).setCell ⟨gb9,1,none⟩ (.slice A8_1 c3.length c8_1)).setCell ⟨gb9,2,none⟩ (.int .i64 f3)).setCell ⟨gb9,3,none⟩ (.bool d3))) ?hg ?ho ?hn ?hr ?_;(case ho=>rfl);(case hg=>rfl);(case hn=>rfl);(case hr=>exact tE);intro w10 hw_;have hkp:Kept w9 w10 (fun k_=>k_ = gb9):=(by rw [hw_];exact Kept.setCell (Kept.setCell (Kept.setCell (Kept.setCell (Kept.refl w9 (fun k_=>k_ = gb9)) (.inl rfl) (.slice A8_0 s3.length c8_0)) (.inl rfl) (.slice A8_1 c3.length c8_1)) (.inl rfl) (.int .i64 f3)) (.inl rfl) (.bool d3));have hge_:w.heap.size ≤ gb9:=tL;have hbn_:Below w.heap.size w w10:=tU;have hbk_:w10.heap[gb9]? = some (.cells #[.slice A8_0 s3.length c8_0,.slice A8_1 c3.length c8_1,.int .i64 f3,.bool d3] 25 (0,0)):=(by rw [hw_];exact aQ (cs:=#[.slice A8_0 s3.length c8_0,.slice A8_1 c3.length c8_1,.int .i64 f3,.bool false]) (cs':=#[.slice A8_0 s3.length c8_0,.slice A8_1 c3.length c8_1,.int .i64 f3,.bool d3]) (aQ (cs:=#[.slice A8_0 s3.length c8_0,.slice A8_1 c3.length c8_1,.int .i64 0,.bool false]) (cs':=#[.slice A8_0 s3.length c8_0,.slice A8_1 c3.length c8_1,.int .i64 f3,.bool false]) (aQ (cs:=#[.slice A8_0 s3.length c8_0,.slice none 0 0,.int .i64 0,.bool false]) (cs':=#[.slice A8_0 s3.length c8_0,.slice A8_1 c3.length c8_1,.int .i64 0,.bool false]) (aQ (cs:=#[.slice none 0 0,.slice none 0 0,.int .i64 0,.bool false]) (cs':=#[.slice A8_0 s3.length c8_0,.slice none 0 0,.int .i64 0,.bool false]) (BK9.out) 0 _ rfl) 1 _ rfl) 2 _ rfl) 3 _ rfl);have hsz_:(gb9 + 1) ≤ w10.heap.size:=Nat.le_trans HT.out hkp.1;replace HF0:=aA.mk (Kd.aU HF0.out hkp tA);replace HF2_0:=aA.mk (Kd.aU HF2_0.out hkp tA);replace HF2_1:=aA.mk (Kd.aU HF2_1.out hkp tA);replace HF5_0:=aA.mk (Kd.aU HF5_0.out hkp tA);replace HF5_1:=aA.mk (Kd.aU HF5_1.out hkp tA);replace HF8_0:=aA.mk (Kd.aU HF8_0.out hkp tA);replace HF8_1:=aA.mk (Kd.aU HF8_1.out hkp tA);replace HF8_2:=aA.mk (Kd.aU HF8_2.out hkp tA);replace HS8_2:=aA.mk (Kd.R_kept HS8_2.out hkp tA);replace BK3:=aA.mk (aY BK3.out hkp tB);replace BK6:=aA.mk (aY BK6.out hkp tB);replace HB:=aA.mk (hbn_);replace BK9:=aA.mk (hbk_);replace HT:=aA.mk (hsz_);clear hw_ hkp hge_ hbn_ hbk_ hsz_;have:=bs4 BK3.out;have:=bs4 BK6.out;have:=bs4 BK9.out)|((with_reducible refine aW (f:=39) rfl ?_);refine bK (some 29) rfl rfl Try.func39 tG rfl #[.slice A0 l0.length c0] rfl tC ?_;(with_reducible refine (spec_DrawFlushDev.calls k_Q5 _ _ l0 s4 c4 f4 d4 _ ?s1 ?s2 Q5.out).mono ?_);(case s1=>exact (Kd.bR HF0.out));(case s2=>exact HC0.out);rintro e_ w11 ⟨v0_,v1_,rfl,ho0,ho1,hb⟩;refine ⟨_,rfl,?_⟩;obtain ⟨lo11,hi11,el_,eh_,ol_,oh_⟩:=Mem.times HT.out hb;(try rw [← el_] at ho0);obtain ⟨A11_0,c11_0,ev_,hc0_,hf0_⟩:=Mem.new_N (Kd.aV (ok':=fun k_=>lo11 ≤ k_) ho0 vP) eh_;subst ev_;(try rw [← el_] at ho1);obtain ⟨A11_1,c11_1,ev_,hc1_,hf1_⟩:=Mem.new_N (Kd.aV (ok':=fun k_=>lo11 ≤ k_) ho1 vP) eh_;subst ev_;replace HF0:=nF HF0;replace HF2_0:=nF HF2_0;replace HF2_1:=nF HF2_1;replace HF5_0:=nF HF5_0;replace HF5_1:=nF HF5_1;replace HF8_0:=nF HF8_0;replace HF8_1:=nF HF8_1;replace HF8_2:=nF HF8_2;replace HS8_2:=aA.mk (Kd.cA HS8_2.out hb);replace BK3:=nB BK3;replace BK6:=nB BK6;replace BK9:=nB BK9;replace HB:=aA.mk (aT HB.out hb);replace HF11_0:=aA.mk (hf0_);replace HC11_0:=aA.mk (hc0_);replace HF11_1:=aA.mk (hf1_);replace HC11_1:=aA.mk (hc1_);replace HORD:=aA.mk (And.intro HORD.out (And.intro ol_ oh_));replace HT:=aA.mk (Nat.le_of_eq eh_);clear ol_ oh_ el_ eh_ ho0 hf0_ hc0_ ho1 hf1_ hc1_;(try clear hb);have:=bs4 BK3.out;have:=bs4 BK6.out;have:=bs4 BK9.out)|((with_reducible refine bC (N:=9) rfl ?_);refine bD ?hg (N:=9) ?hd (cs:=#[.slice none 0 0,.slice none 0 0,.int .i64 0,.bool false]) (t:=25) ?hr ?_;(case hd=>rfl);(case hg=>rfl);(case hr=>exact tE);intro gb12 hg_ w12 hbox hb;have hge_:hi11 ≤ gb12:=tk;have hlt_:gb12 + 1 ≤ w12.heap.size:=bJ hbox;replace HF0:=nF HF0;replace HF2_0:=nF HF2_0;replace HF2_1:=nF HF2_1;replace HF5_0:=nF HF5_0;replace HF5_1:=nF HF5_1;replace HF8_0:=nF HF8_0;replace HF8_1:=nF HF8_1;replace HF8_2:=nF HF8_2;replace HS8_2:=aA.mk (Kd.cA HS8_2.out hb);replace HF11_0:=nF HF11_0;replace HF11_1:=nF HF11_1;replace BK3:=nB BK3;replace BK6:=nB BK6;replace BK9:=nB BK9;replace HB:=aA.mk (aT HB.out hb);replace BK12:=aA.mk (hbox);replace HORD:=aA.mk (And.intro HORD.out (And.intro hge_ (Nat.le_succ gb12)));replace HT:=aA.mk (hlt_);clear hb hbox hg_ hge_ hlt_;have:=bs4 BK3.out;have:=bs4 BK6.out;have:=bs4 BK9.out;have:=bs4 BK12.out)|((with_reducible refine bN (t:=25) (p:=9) rfl ?_);refine bL (t:=25) (p:=9) (v:=?vo_w13) (w1:=((((w12.setCell ⟨gb12,0,none⟩ (.slice A11_0 s4.length c11_0)).setCell ⟨gb12,1,none⟩ (.slice A11_1 c4.length c11_1)).setCell ⟨gb12,2,none⟩ (.int .i64 f4)).setCell ⟨gb12,3,none⟩ (.bool d4))) ?hg ?ho ?hn ?hr ?_;(case ho=>rfl);(case hg=>rfl);(case hn=>rfl);(case hr=>exact tE);intro w13 hw_;have hkp:Kept w12 w13 (fun k_=>k_ = gb12):=(by rw [hw_];exact Kept.setCell (Kept.setCell (Kept.setCell (Kept.setCell (Kept.refl w12 (fun k_=>k_ = gb12)) (.inl rfl) (.slice A11_0 s4.length c11_0)) (.inl rfl) (.slice A11_1 c4.length c11_1)) (.inl rfl) (.int .i64 f4)) (.inl rfl) (.bool d4));have hge_:w.heap.size ≤ gb12:=tL;have hbn_:Below w.heap.size w w13:=tU;have hbk_:w13.heap[gb12]? = some (.cells #[.slice A11_0 s4.length c11_0,.slice A11_1 c4.length c11_1,.int .i64 f4,.bool d4] 25 (0,0)):=(by rw [hw_];exact aQ (cs:=#[.slice A11_0 s4.length c11_0,.slice A11_1 c4.length c11_1,.int .i64 f4,.bool false]) (cs':=#[.slice A11_0 s4.length c11_0,.slice A11_1 c4.length c11_1,.int .i64 f4,.bool d4]) (aQ (cs:=#[.slice A11_0 s4.length c11_0,.slice A11_1 c4.length c11_1,.int .i64 0,.bool false]) (cs':=#[.slice A11_0 s4.length c11_0,.slice A11_1 c4.length c11_1,.int .i64 f4,.bool false]) (aQ (cs:=#[.slice A11_0 s4.length c11_0,.slice none 0 0,.int .i64 0,.bool false]) (cs':=#[.slice A11_0 s4.length c11_0,.slice A11_1 c4.length c11_1,.int .i64 0,.bool false]) (aQ (cs:=#[.slice none 0 0,.slice none 0 0,.int .i64 0,.bool false]) (cs':=#[.slice A11_0 s4.length c11_0,.slice none 0 0,.int .i64 0,.bool false]) (BK12.out) 0 _ rfl) 1 _ rfl) 2 _ rfl) 3 _ rfl);have hsz_:(gb12 + 1) ≤ w13.heap.size:=Nat.le_trans HT.out hkp.1;replace HF0:=aA.mk (Kd.aU HF0.out hkp tA);replace HF2_0:=aA.mk (Kd.aU HF2_0.out hkp tA);replace HF2_1:=aA.mk (Kd.aU HF2_1.out hkp tA);replace HF5_0:=aA.mk (Kd.aU HF5_0.out hkp tA);replace HF5_1:=aA.mk (Kd.aU HF5_1.out hkp tA);replace HF8_0:=aA.mk (Kd.aU HF8_0.out hkp tA);replace HF8_1:=aA.mk (Kd.aU HF8_1.out hkp tA);replace HF8_2:=aA.mk (Kd.aU HF8_2.out hkp tA);replace HS8_2:=aA.mk (Kd.R_kept HS8_2.out hkp tA);replace HF11_0:=aA.mk (Kd.aU HF11_0.out hkp tA);replace HF11_1:=aA.mk (Kd.aU HF11_1.out hkp tA);replace BK3:=aA.mk (aY BK3.out hkp tB);replace BK6:=aA.mk (aY BK6.out hkp tB);replace BK9:=aA.mk (aY BK9.out hkp tB);replace HB:=aA.mk (hbn_);replace BK12:=aA.mk (hbk_);replace HT:=aA.mk (hsz_);clear hw_ hkp hge_ hbn_ hbk_ hsz_;have:=bs4 BK3.out;have:=bs4 BK6.out;have:=bs4 BK9.out;have:=bs4 BK12.out)|((with_reducible refine aW (f:=40) rfl ?_);refine bK (some 32) rfl rfl Try.func40 tG rfl #[.slice A0 l0.length c0] rfl tC ?_;(with_reducible refine (spec_DrawFallDev.calls k_Q6 _ _ l0 s5 c5 f5 d5 n5 _ ?s1 ?s2 Q6.out).mono ?_);(case s1=>exact (Kd.bR HF0.out));(case s2=>exact HC0.out);rintro e_ w14 ⟨v0_,v1_,rfl,ho0,ho1,hb⟩;refine ⟨_,rfl,?_⟩;obtain ⟨lo14,hi14,el_,eh_,ol_,oh_⟩:=Mem.times HT.out hb;(try rw [← el_] at ho0);obtain ⟨A14_0,c14_0,ev_,hc0_,hf0_⟩:=Mem.new_N (Kd.aV (ok':=fun k_=>lo14 ≤ k_) ho0 vP) eh_;subst ev_;(try rw [← el_] at ho1);obtain ⟨A14_1,c14_1,ev_,hc1_,hf1_⟩:=Mem.new_N (Kd.aV (ok':=fun k_=>lo14 ≤ k_) ho1 vP) eh_;subst ev_;replace HF0:=nF HF0;replace HF2_0:=nF HF2_0;replace HF2_1:=nF HF2_1;replace HF5_0:=nF HF5_0;replace HF5_1:=nF HF5_1;replace HF8_0:=nF HF8_0;replace HF8_1:=nF HF8_1;replace HF8_2:=nF HF8_2;replace HS8_2:=aA.mk (Kd.cA HS8_2.out hb);replace HF11_0:=nF HF11_0;replace HF11_1:=nF HF11_1;replace BK3:=nB BK3;replace BK6:=nB BK6;replace BK9:=nB BK9;replace BK12:=nB BK12;replace HB:=aA.mk (aT HB.out hb);replace HF14_0:=aA.mk (hf0_);replace HC14_0:=aA.mk (hc0_);replace HF14_1:=aA.mk (hf1_);replace HC14_1:=aA.mk (hc1_);replace HORD:=aA.mk (And.intro HORD.out (And.intro ol_ oh_));replace HT:=aA.mk (Nat.le_of_eq eh_);clear ol_ oh_ el_ eh_ ho0 hf0_ hc0_ ho1 hf1_ hc1_;(try clear hb);have:=bs4 BK3.out;have:=bs4 BK6.out;have:=bs4 BK9.out;have:=bs4 BK12.out)|((with_reducible refine bC (N:=10) rfl ?_);refine bD ?hg (N:=10) ?hd (cs:=#[.slice none 0 0,.slice none 0 0,.int .i64 0,.bool false]) (t:=25) ?hr ?_;(case hd=>rfl);(case hg=>rfl);(case hr=>exact tE);intro gb15 hg_ w15 hbox hb;have hge_:hi14 ≤ gb15:=tk;have hlt_:gb15 + 1 ≤ w15.heap.size:=bJ hbox;replace HF0:=nF HF0;replace HF2_0:=nF HF2_0;replace HF2_1:=nF HF2_1;replace HF5_0:=nF HF5_0;replace HF5_1:=nF HF5_1;replace HF8_0:=nF HF8_0;replace HF8_1:=nF HF8_1;replace HF8_2:=nF HF8_2;replace HS8_2:=aA.mk (Kd.cA HS8_2.out hb);replace HF11_0:=nF HF11_0;replace HF11_1:=nF HF11_1;replace HF14_0:=nF HF14_0;replace HF14_1:=nF HF14_1;replace BK3:=nB BK3;replace BK6:=nB BK6;replace BK9:=nB BK9;replace BK12:=nB BK12;replace HB:=aA.mk (aT HB.out hb);replace BK15:=aA.mk (hbox);replace HORD:=aA.mk (And.intro HORD.out (And.intro hge_ (Nat.le_succ gb15)));replace HT:=aA.mk (hlt_);clear hb hbox hg_ hge_ hlt_;have:=bs4 BK3.out;have:=bs4 BK6.out;have:=bs4 BK9.out;have:=bs4 BK12.out;have:=bs4 BK15.out)|((with_reducible refine bN (t:=25) (p:=10) rfl ?_);refine bL (t:=25) (p:=10) (v:=?vo_w16) (w1:=((((w15.setCell ⟨gb15,0,none⟩ (.slice A14_0 s5.length c14_0)).setCell ⟨gb15,1,none⟩ (.slice A14_1 c5.length c14_1)).setCell ⟨gb15,2,none⟩ (.int .i64 f5)).setCell ⟨gb15,3,none⟩ (.bool d5))) ?hg ?ho ?hn ?hr ?_;(case ho=>rfl);(case hg=>rfl);(case hn=>rfl);(case hr=>exact tE);intro w16 hw_;have hkp:Kept w15 w16 (fun k_=>k_ = gb15):=(by rw [hw_];exact Kept.setCell (Kept.setCell (Kept.setCell (Kept.setCell (Kept.refl w15 (fun k_=>k_ = gb15)) (.inl rfl) (.slice A14_0 s5.length c14_0)) (.inl rfl) (.slice A14_1 c5.length c14_1)) (.inl rfl) (.int .i64 f5)) (.inl rfl) (.bool d5));have hge_:w.heap.size ≤ gb15:=tL;have hbn_:Below w.heap.size w w16:=tU;have hbk_:w16.heap[gb15]? = some (.cells #[.slice A14_0 s5.length c14_0,.slice A14_1 c5.length c14_1,.int .i64 f5,.bool d5] 25 (0,0)):=(by rw [hw_];exact aQ (cs:=#[.slice A14_0 s5.length c14_0,.slice A14_1 c5.length c14_1,.int .i64 f5,.bool false]) (cs':=#[.slice A14_0 s5.length c14_0,.slice A14_1 c5.length c14_1,.int .i64 f5,.bool d5]) (aQ (cs:=#[.slice A14_0 s5.length c14_0,.slice A14_1 c5.length c14_1,.int .i64 0,.bool false]) (cs':=#[.slice A14_0 s5.length c14_0,.slice A14_1 c5.length c14_1,.int .i64 f5,.bool false]) (aQ (cs:=#[.slice A14_0 s5.length c14_0,.slice none 0 0,.int .i64 0,.bool false]) (cs':=#[.slice A14_0 s5.length c14_0,.slice A14_1 c5.length c14_1,.int .i64 0,.bool false]) (aQ (cs:=#[.slice none 0 0,.slice none 0 0,.int .i64 0,.bool false]) (cs':=#[.slice A14_0 s5.length c14_0,.slice none 0 0,.int .i64 0,.bool false]) (BK15.out) 0 _ rfl) 1 _ rfl) 2 _ rfl) 3 _ rfl);have hsz_:(gb15 + 1) ≤ w16.heap.size:=Nat.le_trans HT.out hkp.1;replace HF0:=aA.mk (Kd.aU HF0.out hkp tA);replace HF2_0:=aA.mk (Kd.aU HF2_0.out hkp tA);replace HF2_1:=aA.mk (Kd.aU HF2_1.out hkp tA);replace HF5_0:=aA.mk (Kd.aU HF5_0.out hkp tA);replace HF5_1:=aA.mk (Kd.aU HF5_1.out hkp tA);replace HF8_0:=aA.mk (Kd.aU HF8_0.out hkp tA);replace HF8_1:=aA.mk (Kd.aU HF8_1.out hkp tA);replace HF8_2:=aA.mk (Kd.aU HF8_2.out hkp tA);replace HS8_2:=aA.mk (Kd.R_kept HS8_2.out hkp tA);replace HF11_0:=aA.mk (Kd.aU HF11_0.out hkp tA);replace HF11_1:=aA.mk (Kd.aU HF11_1.out hkp tA);replace HF14_0:=aA.mk (Kd.aU HF14_0.out hkp tA);replace HF14_1:=aA.mk (Kd.aU HF14_1.out hkp tA);replace BK3:=aA.mk (aY BK3.out hkp tB);replace BK6:=aA.mk (aY BK6.out hkp tB);replace BK9:=aA.mk (aY BK9.out hkp tB);replace BK12:=aA.mk (aY BK12.out hkp tB);replace HB:=aA.mk (hbn_);replace BK15:=aA.mk (hbk_);replace HT:=aA.mk (hsz_);clear hw_ hkp hge_ hbn_ hbk_ hsz_;have:=bs4 BK3.out;have:=bs4 BK6.out;have:=bs4 BK9.out;have:=bs4 BK12.out;have:=bs4 BK15.out)|((with_reducible refine aW (f:=41) rfl ?_);refine bK (some 36) rfl rfl Try.func41 tG rfl #[.slice A0 l0.length c0] rfl tC ?_;(with_reducible refine (spec_DrawDevNew.calls k_Q7 _ _ l0 n6 _ ?s1 ?s2 Q7.out).mono ?_);(case s1=>exact (Kd.bR HF0.out));(case s2=>exact HC0.out);rintro e_ w17 ⟨rfl,hb⟩;refine ⟨_,rfl,?_⟩;replace HF0:=nF HF0;replace HF2_0:=nF HF2_0;replace HF2_1:=nF HF2_1;replace HF5_0:=nF HF5_0;replace HF5_1:=nF HF5_1;replace HF8_0:=nF HF8_0;replace HF8_1:=nF HF8_1;replace HF8_2:=nF HF8_2;replace HS8_2:=aA.mk (Kd.cA HS8_2.out hb);replace HF11_0:=nF HF11_0;replace HF11_1:=nF HF11_1;replace HF14_0:=nF HF14_0;replace HF14_1:=nF HF14_1;replace BK3:=nB BK3;replace BK6:=nB BK6;replace BK9:=nB BK9;replace BK12:=nB BK12;replace BK15:=nB BK15;replace HB:=aA.mk (aT HB.out hb);replace HT:=aA.mk (Nat.le_trans HT.out hb.size);(try clear hb);have:=bs4 BK3.out;have:=bs4 BK6.out;have:=bs4 BK9.out;have:=bs4 BK12.out;have:=bs4 BK15.out))
 replace HF0:=aA.mk (Kd.F_drew HF0.out)
 replace HF2_0:=aA.mk (Kd.F_drew HF2_0.out)
 replace HF2_1:=aA.mk (Kd.F_drew HF2_1.out)
 replace HF5_0:=aA.mk (Kd.F_drew HF5_0.out)
 replace HF5_1:=aA.mk (Kd.F_drew HF5_1.out)
 replace HF8_0:=aA.mk (Kd.F_drew HF8_0.out)
 replace HF8_1:=aA.mk (Kd.F_drew HF8_1.out)
 replace HF8_2:=aA.mk (Kd.F_drew HF8_2.out)
 replace HS8_2:=aA.mk (Kd.R_drew HS8_2.out)
 replace HF11_0:=aA.mk (Kd.F_drew HF11_0.out)
 replace HF11_1:=aA.mk (Kd.F_drew HF11_1.out)
 replace HF14_0:=aA.mk (Kd.F_drew HF14_0.out)
 replace HF14_1:=aA.mk (Kd.F_drew HF14_1.out)
 replace BK3:=aA.mk (aN BK3.out)
 replace BK6:=aA.mk (aN BK6.out)
 replace BK9:=aA.mk (aN BK9.out)
 replace BK12:=aA.mk (aN BK12.out)
 replace BK15:=aA.mk (aN BK15.out)
 replace HB:=aA.mk (aH HB.out)
 replace HT:=aA.mk (show _ ≤ w17.drew.heap.size from HT.out)
 refine start_ (n:=51) (S:=fun w'=>w'.cell? ⟨gb3,0,none⟩ = some (.slice A2_0 s1.length c2_0) ∧ w'.cell? ⟨gb3,1,none⟩ = some (.slice A2_1 c1.length c2_1) ∧ w'.cell? ⟨gb3,2,none⟩ = some (.int .i64 f1) ∧ w'.cell? ⟨gb3,3,none⟩ = some (.bool d1) ∧ w'.cell? ⟨gb6,0,none⟩ = some (.slice A5_0 s2.length c5_0) ∧ w'.cell? ⟨gb6,1,none⟩ = some (.slice A5_1 c2.length c5_1) ∧ w'.cell? ⟨gb6,2,none⟩ = some (.int .i64 f2) ∧ w'.cell? ⟨gb6,3,none⟩ = some (.bool d2) ∧ w'.cell? ⟨gb9,0,none⟩ = some (.slice A8_0 s3.length c8_0) ∧ w'.cell? ⟨gb9,1,none⟩ = some (.slice A8_1 c3.length c8_1) ∧ w'.cell? ⟨gb9,2,none⟩ = some (.int .i64 f3) ∧ w'.cell? ⟨gb9,3,none⟩ = some (.bool d3) ∧ w'.cell? ⟨gb12,0,none⟩ = some (.slice A11_0 s4.length c11_0) ∧ w'.cell? ⟨gb12,1,none⟩ = some (.slice A11_1 c4.length c11_1) ∧ w'.cell? ⟨gb12,2,none⟩ = some (.int .i64 f4) ∧ w'.cell? ⟨gb12,3,none⟩ = some (.bool d4) ∧ w'.cell? ⟨gb15,0,none⟩ = some (.slice A14_0 s5.length c14_0) ∧ w'.cell? ⟨gb15,1,none⟩ = some (.slice A14_1 c5.length c14_1) ∧ w'.cell? ⟨gb15,2,none⟩ = some (.int .i64 f5) ∧ w'.cell? ⟨gb15,3,none⟩ = some (.bool d5)) (ds:=[]) #[F0,F0,F0,F0,F0,F0,F0,F0,F0,F0,F0,F0,F0,F0,F0,F0,F0,F0,F0,F0,F0,F0,F0,F0,F0,F0,F0,F0,F0,F0,F0,F0,F0,F0,F0,F0,F0,F0,F0,F0,F0,F0,F0,F0,F0,F0,F0,F0,F0,F0,F0] tG rfl rfl ⟨(aD BK3.out 0).trans rfl,(aD BK3.out 1).trans rfl,(aD BK3.out 2).trans rfl,(aD BK3.out 3).trans rfl,(aD BK6.out 0).trans rfl,(aD BK6.out 1).trans rfl,(aD BK6.out 2).trans rfl,(aD BK6.out 3).trans rfl,(aD BK9.out 0).trans rfl,(aD BK9.out 1).trans rfl,(aD BK9.out 2).trans rfl,(aD BK9.out 3).trans rfl,(aD BK12.out 0).trans rfl,(aD BK12.out 1).trans rfl,(aD BK12.out 2).trans rfl,(aD BK12.out 3).trans rfl,(aD BK15.out 0).trans rfl,(aD BK15.out 1).trans rfl,(aD BK15.out 2).trans rfl,(aD BK15.out 3).trans rfl⟩ (fun hHeld=>?_)
 generalize w17.drew = w18 at HF0 HF2_0 HF2_1 HF5_0 HF5_1 HF8_0 HF8_1 HF8_2 HS8_2 HF11_0 HF11_1 HF14_0 HF14_1 BK3 BK6 BK9 BK12 BK15 HB HT hHeld ⊢
 refine take_ (i:=0) (N:=some 37) (v:=?_) (a':=?_) #[T1,F0,F0,F0,F0,F0,F0,F0,F0,F0,F0,F0,F0,F0,F0,F0,F0,F0,F0,F0,F0,F0,F0,F0,F0,F0,F0,F0,F0,F0,F0,F0,F0,F0,F0,F0,F0,F0,F0,F0,F0,F0,F0,F0,F0,F0,F0,F0,F0,F0,F0] rfl rfl tG (fun _ _ _ h=>h) (Or.inl ⟨vr,?_⟩) hHeld ?_ ?_
 rotate_left
 ·rintro w' ⟨s0,s1,s2,s3,s4,s5,s6,s7,s8,s9,s10,s11,s12,s13,s14,s15,s16,s17,s18,s19⟩
  go_simp
  with_reducible rfl
 rotate_left
 ·simp only [Act.put,lA,lB,lC,bE,bG]
  rfl
 refine take_ (i:=2) (N:=some 39) (v:=?_) (a':=?_) #[T1,F0,T1,F0,F0,F0,F0,F0,F0,F0,F0,F0,F0,F0,F0,F0,F0,F0,F0,F0,F0,F0,F0,F0,F0,F0,F0,F0,F0,F0,F0,F0,F0,F0,F0,F0,F0,F0,F0,F0,F0,F0,F0,F0,F0,F0,F0,F0,F0,F0,F0] rfl rfl tG (fun _ _ _ h=>h) (Or.inl ⟨vr,?_⟩) hHeld ?_ ?_
 rotate_left
 ·rintro w' ⟨s0,s1,s2,s3,s4,s5,s6,s7,s8,s9,s10,s11,s12,s13,s14,s15,s16,s17,s18,s19⟩
  go_simp
  with_reducible rfl
 rotate_left
 ·simp only [Act.put,lA,lB,lC,bE,bG]
  rfl
 refine one_ (i:=1) (N:=some 38) #[T1,T1,T1,F0,F0,F0,F0,F0,F0,F0,F0,F0,F0,F0,F0,F0,F0,F0,F0,F0,F0,F0,F0,F0,F0,F0,F0,F0,F0,F0,F0,F0,F0,F0,F0,F0,F0,F0,F0,F0,F0,F0,F0,F0,F0,F0,F0,F0,F0,F0,F0] rfl rfl tG tf (fun K hK=>?_)
 refine goes_ Try.func20 tG rfl #[.agg #[.slice A2_0 s1.length c2_0,.slice A2_1 c1.length c2_1,.int .i64 f1,.bool d1]] wN rfl rfl tC ?_
 (with_reducible refine (impl_DevOk.calls k_Q8 _ _ s1 _ _ c1 f1 d1 b1 _ ?s1 ?s2 ?s3 ?s4 Q8.out).mono ?_)
 (case s1=>exact (Kd.bR HF2_0.out))
 (case s2=>exact HC2_0.out)
 (case s3=>exact (Kd.bR HF2_1.out))
 (case s4=>exact HC2_1.out)
 rintro e_ w19 ⟨rfl,hb⟩
 refine ⟨_,rfl,?_⟩
 replace HF0:=nF HF0
 replace HF2_0:=nF HF2_0
 replace HF2_1:=nF HF2_1
 replace HF5_0:=nF HF5_0
 replace HF5_1:=nF HF5_1
 replace HF8_0:=nF HF8_0
 replace HF8_1:=nF HF8_1
 replace HF8_2:=nF HF8_2
 replace HS8_2:=aA.mk (Kd.cA HS8_2.out hb)
 replace HF11_0:=nF HF11_0
 replace HF11_1:=nF HF11_1
 replace HF14_0:=nF HF14_0
 replace HF14_1:=nF HF14_1
 replace BK3:=nB BK3
 replace BK6:=nB BK6
 replace BK9:=nB BK9
 replace BK12:=nB BK12
 replace BK15:=nB BK15
 replace HB:=aA.mk (aT HB.out hb)
 replace HT:=aA.mk (Nat.le_trans HT.out hb.size)
 (try clear hb)
 refine hK.out _ _ ⟨(aD BK3.out 0).trans rfl,(aD BK3.out 1).trans rfl,(aD BK3.out 2).trans rfl,(aD BK3.out 3).trans rfl,(aD BK6.out 0).trans rfl,(aD BK6.out 1).trans rfl,(aD BK6.out 2).trans rfl,(aD BK6.out 3).trans rfl,(aD BK9.out 0).trans rfl,(aD BK9.out 1).trans rfl,(aD BK9.out 2).trans rfl,(aD BK9.out 3).trans rfl,(aD BK12.out 0).trans rfl,(aD BK12.out 1).trans rfl,(aD BK12.out 2).trans rfl,(aD BK12.out 3).trans rfl,(aD BK15.out 0).trans rfl,(aD BK15.out 1).trans rfl,(aD BK15.out 2).trans rfl,(aD BK15.out 3).trans rfl⟩ (fun hHeld=>?_)
 clear hK K
 refine norm_ (a':=?_) ?_ ?_
 rotate_left
 ·show Act.put _ (some 38) _ = _
  simp only [Act.put,lA,lB,lC,bE,bG]
  rfl
 refine one_ (i:=3) (N:=some 40) #[T1,T1,T1,T1,F0,F0,F0,F0,F0,F0,F0,F0,F0,F0,F0,F0,F0,F0,F0,F0,F0,F0,F0,F0,F0,F0,F0,F0,F0,F0,F0,F0,F0,F0,F0,F0,F0,F0,F0,F0,F0,F0,F0,F0,F0,F0,F0,F0,F0,F0,F0] rfl rfl tG tf (fun K hK=>?_)
 refine goes_ Try.func18 tG rfl #[.agg #[.slice A2_0 s1.length c2_0,.slice A2_1 c1.length c2_1,.int .i64 f1,.bool d1]] wN rfl rfl tC ?_
 (with_reducible refine (spec_DevOk.calls k_Q9 _ _ s1 _ _ c1 f1 d1 b1 _ ?s1 ?s2 ?s3 ?s4 Q9.out).mono ?_)
 (case s1=>exact (Kd.bR HF2_0.out))
 (case s2=>exact HC2_0.out)
 (case s3=>exact (Kd.bR HF2_1.out))
 (case s4=>exact HC2_1.out)
 rintro e_ w20 ⟨rfl,hb⟩
 refine ⟨_,rfl,?_⟩
 replace HF0:=nF HF0
 replace HF2_0:=nF HF2_0
 replace HF2_1:=nF HF2_1
 replace HF5_0:=nF HF5_0
 replace HF5_1:=nF HF5_1
 replace HF8_0:=nF HF8_0
 replace HF8_1:=nF HF8_1
 replace HF8_2:=nF HF8_2
 replace HS8_2:=aA.mk (Kd.cA HS8_2.out hb)
 replace HF11_0:=nF HF11_0
 replace HF11_1:=nF HF11_1
 replace HF14_0:=nF HF14_0
 replace HF14_1:=nF HF14_1
 replace BK3:=nB BK3
 replace BK6:=nB BK6
 replace BK9:=nB BK9
 replace BK12:=nB BK12
 replace BK15:=nB BK15
 replace HB:=aA.mk (aT HB.out hb)
 replace HT:=aA.mk (Nat.le_trans HT.out hb.size)
 (try clear hb)
 refine hK.out _ _ ⟨(aD BK3.out 0).trans rfl,(aD BK3.out 1).trans rfl,(aD BK3.out 2).trans rfl,(aD BK3.out 3).trans rfl,(aD BK6.out 0).trans rfl,(aD BK6.out 1).trans rfl,(aD BK6.out 2).trans rfl,(aD BK6.out 3).trans rfl,(aD BK9.out 0).trans rfl,(aD BK9.out 1).trans rfl,(aD BK9.out 2).trans rfl,(aD BK9.out 3).trans rfl,(aD BK12.out 0).trans rfl,(aD BK12.out 1).trans rfl,(aD BK12.out 2).trans rfl,(aD BK12.out 3).trans rfl,(aD BK15.out 0).trans rfl,(aD BK15.out 1).trans rfl,(aD BK15.out 2).trans rfl,(aD BK15.out 3).trans rfl⟩ (fun hHeld=>?_)
 clear hK K
 refine norm_ (a':=?_) ?_ ?_
 rotate_left
 ·show Act.put _ (some 40) _ = _
  simp only [Act.put,lA,lB,lC,bE,bG]
  rfl
 refine bT (i:=4) (N:=some 41) (v:=?_) (a':=?_) #[T1,T1,T1,T1,T1,F0,F0,F0,F0,F0,F0,F0,F0,F0,F0,F0,F0,F0,F0,F0,F0,F0,F0,F0,F0,F0,F0,F0,F0,F0,F0,F0,F0,F0,F0,F0,F0,F0,F0,F0,F0,F0,F0,F0,F0,F0,F0,F0,F0,F0,F0] rfl rfl tG (fun _ _ _ h=>h) (Or.inl ⟨vr,?_⟩) ?_ ?_
 rotate_left
 ·intro w'
  go_simp
  with_reducible rfl
 rotate_left
 ·simp only [Act.put,lA,lB,lC,bE,bG]
  rfl
 refine bT (i:=5) (N:=some 42) (v:=?_) (a':=?_) #[T1,T1,T1,T1,T1,T1,F0,F0,F0,F0,F0,F0,F0,F0,F0,F0,F0,F0,F0,F0,F0,F0,F0,F0,F0,F0,F0,F0,F0,F0,F0,F0,F0,F0,F0,F0,F0,F0,F0,F0,F0,F0,F0,F0,F0,F0,F0,F0,F0,F0,F0] rfl rfl tG (fun _ _ _ h=>h) (Or.inl ⟨vr,?_⟩) ?_ ?_
 rotate_left
 ·intro w'
  go_simp
  with_reducible rfl
 rotate_left
 ·simp only [Act.put,lA,lB,lC,bE,bG]
  rfl
 refine take_ (i:=6) (N:=some 43) (v:=?_) (a':=?_) #[T1,T1,T1,T1,T1,T1,T1,F0,F0,F0,F0,F0,F0,F0,F0,F0,F0,F0,F0,F0,F0,F0,F0,F0,F0,F0,F0,F0,F0,F0,F0,F0,F0,F0,F0,F0,F0,F0,F0,F0,F0,F0,F0,F0,F0,F0,F0,F0,F0,F0,F0] rfl rfl tG (fun _ _ _ h=>h) (Or.inl ⟨vr,?_⟩) hHeld ?_ ?_
 rotate_left
 ·rintro w' ⟨s0,s1,s2,s3,s4,s5,s6,s7,s8,s9,s10,s11,s12,s13,s14,s15,s16,s17,s18,s19⟩
  go_simp
  with_reducible rfl
 rotate_left
 ·simp only [Act.put,lA,lB,lC,bE,bG]
  rfl
 refine bT (i:=7) (N:=some 44) (v:=?_) (a':=?_) #[T1,T1,T1,T1,T1,T1,T1,T1,F0,F0,F0,F0,F0,F0,F0,F0,F0,F0,F0,F0,F0,F0,F0,F0,F0,F0,F0,F0,F0,F0,F0,F0,F0,F0,F0,F0,F0,F0,F0,F0,F0,F0,F0,F0,F0,F0,F0,F0,F0,F0,F0] rfl rfl tG (fun _ _ _ h=>h) (Or.inl ⟨vr,?_⟩) ?_ ?_
 rotate_left
 ·intro w'
  go_simp
  with_reducible rfl
 rotate_left
 ·simp only [Act.put,lA,lB,lC,bE,bG]
  rfl
 refine take_ (i:=10) (N:=some 47) (v:=?_) (a':=?_) #[T1,T1,T1,T1,T1,T1,T1,T1,F0,F0,T1,F0,F0,F0,F0,F0,F0,F0,F0,F0,F0,F0,F0,F0,F0,F0,F0,F0,F0,F0,F0,F0,F0,F0,F0,F0,F0,F0,F0,F0,F0,F0,F0,F0,F0,F0,F0,F0,F0,F0,F0] rfl rfl tG (fun _ _ _ h=>h) (Or.inl ⟨vr,?_⟩) hHeld ?_ ?_
 rotate_left
 ·rintro w' ⟨s0,s1,s2,s3,s4,s5,s6,s7,s8,s9,s10,s11,s12,s13,s14,s15,s16,s17,s18,s19⟩
  go_simp
  with_reducible rfl
 rotate_left
 ·simp only [Act.put,lA,lB,lC,bE,bG]
  rfl
 refine bT (i:=11) (N:=some 48) (v:=?_) (a':=?_) #[T1,T1,T1,T1,T1,T1,T1,T1,F0,F0,T1,T1,F0,F0,F0,F0,F0,F0,F0,F0,F0,F0,F0,F0,F0,F0,F0,F0,F0,F0,F0,F0,F0,F0,F0,F0,F0,F0,F0,F0,F0,F0,F0,F0,F0,F0,F0,F0,F0,F0,F0] rfl rfl tG (fun _ _ _ h=>h) (Or.inl ⟨vr,?_⟩) ?_ ?_
 rotate_left
 ·intro w'
  go_simp
  with_reducible rfl
 rotate_left
 ·simp only [Act.put,lA,lB,lC,bE,bG]
  rfl
 refine one_ (i:=8) (N:=some 45) #[T1,T1,T1,T1,T1,T1,T1,T1,T1,F0,T1,T1,F0,F0,F0,F0,F0,F0,F0,F0,F0,F0,F0,F0,F0,F0,F0,F0,F0,F0,F0,F0,F0,F0,F0,F0,F0,F0,F0,F0,F0,F0,F0,F0,F0,F0,F0,F0,F0,F0,F0] rfl rfl tG tf (fun K hK=>?_)
 refine goes_ Try.func22 tG rfl #[.agg #[.slice A5_0 s2.length c5_0,.slice A5_1 c2.length c5_1,.int .i64 f2,.bool d2],.int .i64 n2] wN rfl rfl tC ?_
 (with_reducible refine (impl_ReadSec.calls k_Qa (In lo5 hi5) _ _ s2 (In lo5 hi5) _ _ c2 f2 d2 n2 y2 _ ?s1 ?s2 Qa.out).mono ?_)
 (case s1=>exact ⟨_,_,rfl,HC5_0.out,HF5_0.out⟩)
 (case s2=>exact ⟨_,_,rfl,HC5_1.out,HF5_1.out⟩)
 rintro e_ w21 ⟨v0_,rfl,ho0,hb⟩
 refine ⟨_,rfl,?_⟩
 obtain ⟨lo21,hi21,el_,eh_,ol_,oh_⟩:=Mem.times HT.out hb
 (try rw [← el_] at ho0)
 obtain ⟨A21_0,c21_0,ev_,hc0_,hf0_,hs0_⟩:=Mem.new_R ho0 eh_
 subst ev_
 replace HF0:=nF HF0
 replace HF2_0:=nF HF2_0
 replace HF2_1:=nF HF2_1
 replace HF5_0:=nF HF5_0
 replace HF5_1:=nF HF5_1
 replace HF8_0:=nF HF8_0
 replace HF8_1:=nF HF8_1
 replace HF8_2:=nF HF8_2
 replace HS8_2:=aA.mk (Kd.cA HS8_2.out hb)
 replace HF11_0:=nF HF11_0
 replace HF11_1:=nF HF11_1
 replace HF14_0:=nF HF14_0
 replace HF14_1:=nF HF14_1
 replace BK3:=nB BK3
 replace BK6:=nB BK6
 replace BK9:=nB BK9
 replace BK12:=nB BK12
 replace BK15:=nB BK15
 replace HB:=aA.mk (aT HB.out hb)
 replace HF21_0:=aA.mk (hf0_)
 replace HC21_0:=aA.mk (hc0_)
 replace HS21_0:=aA.mk (hs0_)
 replace HORD:=aA.mk (And.intro HORD.out (And.intro ol_ oh_))
 replace HT:=aA.mk (Nat.le_of_eq eh_)
 clear ol_ oh_ el_ eh_ ho0 hf0_ hc0_ hs0_
 (try clear hb)
 refine hK.out _ _ ⟨(aD BK3.out 0).trans rfl,(aD BK3.out 1).trans rfl,(aD BK3.out 2).trans rfl,(aD BK3.out 3).trans rfl,(aD BK6.out 0).trans rfl,(aD BK6.out 1).trans rfl,(aD BK6.out 2).trans rfl,(aD BK6.out 3).trans rfl,(aD BK9.out 0).trans rfl,(aD BK9.out 1).trans rfl,(aD BK9.out 2).trans rfl,(aD BK9.out 3).trans rfl,(aD BK12.out 0).trans rfl,(aD BK12.out 1).trans rfl,(aD BK12.out 2).trans rfl,(aD BK12.out 3).trans rfl,(aD BK15.out 0).trans rfl,(aD BK15.out 1).trans rfl,(aD BK15.out 2).trans rfl,(aD BK15.out 3).trans rfl⟩ (fun hHeld=>?_)
 clear hK K
 refine norm_ (a':=?_) ?_ ?_
 rotate_left
 ·show Act.put _ (some 45) _ = _
  simp only [Act.put,lA,lB,lC,bE,bG]
  rfl
 clear hHeld
 refine restart_ (S':=fun w'=>w'.cell? ⟨gb3,0,none⟩ = some (.slice A2_0 s1.length c2_0) ∧ w'.cell? ⟨gb3,1,none⟩ = some (.slice A2_1 c1.length c2_1) ∧ w'.cell? ⟨gb3,2,none⟩ = some (.int .i64 f1) ∧ w'.cell? ⟨gb3,3,none⟩ = some (.bool d1) ∧ w'.cell? ⟨gb6,0,none⟩ = some (.slice A5_0 s2.length c5_0) ∧ w'.cell? ⟨gb6,1,none⟩ = some (.slice A5_1 c2.length c5_1) ∧ w'.cell? ⟨gb6,2,none⟩ = some (.int .i64 f2) ∧ w'.cell? ⟨gb6,3,none⟩ = some (.bool d2) ∧ w'.cell? ⟨gb9,0,none⟩ = some (.slice A8_0 s3.length c8_0) ∧ w'.cell? ⟨gb9,1,none⟩ = some (.slice A8_1 c3.length c8_1) ∧ w'.cell? ⟨gb9,2,none⟩ = some (.int .i64 f3) ∧ w'.cell? ⟨gb9,3,none⟩ = some (.bool d3) ∧ w'.cell? ⟨gb12,0,none⟩ = some (.slice A11_0 s4.length c11_0) ∧ w'.cell? ⟨gb12,1,none⟩ = some (.slice A11_1 c4.length c11_1) ∧ w'.cell? ⟨gb12,2,none⟩ = some (.int .i64 f4) ∧ w'.cell? ⟨gb12,3,none⟩ = some (.bool d4) ∧ w'.cell? ⟨gb15,0,none⟩ = some (.slice A14_0 s5.length c14_0) ∧ w'.cell? ⟨gb15,1,none⟩ = some (.slice A14_1 c5.length c14_1) ∧ w'.cell? ⟨gb15,2,none⟩ = some (.int .i64 f5) ∧ w'.cell? ⟨gb15,3,none⟩ = some (.bool d5) ∧ Kd.C (Kd.int .u8) w' A21_0 y2.length y2) (fun w' h_=>(by obtain ⟨s0,s1,s2,s3,s4,s5,s6,s7,s8,s9,s10,s11,s12,s13,s14,s15,s16,s17,s18,s19,_⟩:=h_;exact ⟨s0,s1,s2,s3,s4,s5,s6,s7,s8,s9,s10,s11,s12,s13,s14,s15,s16,s17,s18,s19⟩)) ⟨(aD BK3.out 0).trans rfl,(aD BK3.out 1).trans rfl,(aD BK3.out 2).trans rfl,(aD BK3.out 3).trans rfl,(aD BK6.out 0).trans rfl,(aD BK6.out 1).trans rfl,(aD BK6.out 2).trans rfl,(aD BK6.out 3).trans rfl,(aD BK9.out 0).trans rfl,(aD BK9.out 1).trans rfl,(aD BK9.out 2).trans rfl,(aD BK9.out 3).trans rfl,(aD BK12.out 0).trans rfl,(aD BK12.out 1).trans rfl,(aD BK12.out 2).trans rfl,(aD BK12.out 3).trans rfl,(aD BK15.out 0).trans rfl,(aD BK15.out 1).trans rfl,(aD BK15.out 2).trans rfl,(aD BK15.out 3).trans rfl,(Kd.bR HF21_0.out)⟩ (fun hHeld=>?_)
 refine take_ (i:=9) (N:=some 46) (v:=?_) (a':=?_) #[T1,T1,T1,T1,T1,T1,T1,T1,T1,T1,T1,T1,F0,F0,F0,F0,F0,F0,F0,F0,F0,F0,F0,F0,F0,F0,F0,F0,F0,F0,F0,F0,F0,F0,F0,F0,F0,F0,F0,F0,F0,F0,F0,F0,F0,F0,F0,F0,F0,F0,F0] rfl rfl tG (fun _ _ _ h=>h) (Or.inl ⟨vr,?_⟩) hHeld ?_ ?_
 rotate_left
 ·rintro w' ⟨s0,s1,s2,s3,s4,s5,s6,s7,s8,s9,s10,s11,s12,s13,s14,s15,s16,s17,s18,s19,s20⟩
  have hcv_:=Kd.C_string (P:=Try.prog) (A:=A21_0) (c:=c21_0) Try.underlying37 Try.underlying5 Try.underlying9 s20
  go_simp
  with_reducible rfl
 rotate_left
 ·simp only [Act.put,lA,lB,lC,bE,bG]
  rfl
 refine one_ (i:=12) (N:=some 49) #[T1,T1,T1,T1,T1,T1,T1,T1,T1,T1,T1,T1,T1,F0,F0,F0,F0,F0,F0,F0,F0,F0,F0,F0,F0,F0,F0,F0,F0,F0,F0,F0,F0,F0,F0,F0,F0,F0,F0,F0,F0,F0,F0,F0,F0,F0,F0,F0,F0,F0,F0] rfl rfl tG tf (fun K hK=>?_)
 refine goes_ Try.func21 tG rfl #[.agg #[.slice A5_0 s2.length c5_0,.slice A5_1 c2.length c5_1,.int .i64 f2,.bool d2],.int .i64 n2] wN rfl rfl tC ?_
 (with_reducible refine (spec_ReadSec.calls k_Qb (In lo5 hi5) _ _ s2 (In lo5 hi5) _ _ c2 f2 d2 n2 y2 _ ?s1 ?s2 Qb.out).mono ?_)
 (case s1=>exact ⟨_,_,rfl,HC5_0.out,HF5_0.out⟩)
 (case s2=>exact ⟨_,_,rfl,HC5_1.out,HF5_1.out⟩)
 rintro e_ w22 ⟨v0_,rfl,ho0,hb⟩
 refine ⟨_,rfl,?_⟩
 obtain ⟨lo22,hi22,el_,eh_,ol_,oh_⟩:=Mem.times HT.out hb
 (try rw [← el_] at ho0)
 obtain ⟨A22_0,c22_0,ev_,hc0_,hf0_,hs0_⟩:=Mem.new_R ho0 eh_
 subst ev_
 replace HF0:=nF HF0
 replace HF2_0:=nF HF2_0
 replace HF2_1:=nF HF2_1
 replace HF5_0:=nF HF5_0
 replace HF5_1:=nF HF5_1
 replace HF8_0:=nF HF8_0
 replace HF8_1:=nF HF8_1
 replace HF8_2:=nF HF8_2
 replace HS8_2:=aA.mk (Kd.cA HS8_2.out hb)
 replace HF11_0:=nF HF11_0
 replace HF11_1:=nF HF11_1
 replace HF14_0:=nF HF14_0
 replace HF14_1:=nF HF14_1
 replace HF21_0:=nF HF21_0
 replace HS21_0:=aA.mk (Kd.cA HS21_0.out hb)
 replace BK3:=nB BK3
 replace BK6:=nB BK6
 replace BK9:=nB BK9
 replace BK12:=nB BK12
 replace BK15:=nB BK15
 replace HB:=aA.mk (aT HB.out hb)
 replace HF22_0:=aA.mk (hf0_)
 replace HC22_0:=aA.mk (hc0_)
 replace HS22_0:=aA.mk (hs0_)
 replace HORD:=aA.mk (And.intro HORD.out (And.intro ol_ oh_))
 replace HT:=aA.mk (Nat.le_of_eq eh_)
 clear ol_ oh_ el_ eh_ ho0 hf0_ hc0_ hs0_
 (try clear hb)
 refine hK.out _ _ ⟨(aD BK3.out 0).trans rfl,(aD BK3.out 1).trans rfl,(aD BK3.out 2).trans rfl,(aD BK3.out 3).trans rfl,(aD BK6.out 0).trans rfl,(aD BK6.out 1).trans rfl,(aD BK6.out 2).trans rfl,(aD BK6.out 3).trans rfl,(aD BK9.out 0).trans rfl,(aD BK9.out 1).trans rfl,(aD BK9.out 2).trans rfl,(aD BK9.out 3).trans rfl,(aD BK12.out 0).trans rfl,(aD BK12.out 1).trans rfl,(aD BK12.out 2).trans rfl,(aD BK12.out 3).trans rfl,(aD BK15.out 0).trans rfl,(aD BK15.out 1).trans rfl,(aD BK15.out 2).trans rfl,(aD BK15.out 3).trans rfl,(Kd.bR HF21_0.out)⟩ (fun hHeld=>?_)
 clear hK K
 refine norm_ (a':=?_) ?_ ?_
 rotate_left
 ·show Act.put _ (some 49) _ = _
  simp only [Act.put,lA,lB,lC,bE,bG]
  rfl
 clear hHeld
 refine restart_ (S':=fun w'=>w'.cell? ⟨gb3,0,none⟩ = some (.slice A2_0 s1.length c2_0) ∧ w'.cell? ⟨gb3,1,none⟩ = some (.slice A2_1 c1.length c2_1) ∧ w'.cell? ⟨gb3,2,none⟩ = some (.int .i64 f1) ∧ w'.cell? ⟨gb3,3,none⟩ = some (.bool d1) ∧ w'.cell? ⟨gb6,0,none⟩ = some (.slice A5_0 s2.length c5_0) ∧ w'.cell? ⟨gb6,1,none⟩ = some (.slice A5_1 c2.length c5_1) ∧ w'.cell? ⟨gb6,2,none⟩ = some (.int .i64 f2) ∧ w'.cell? ⟨gb6,3,none⟩ = some (.bool d2) ∧ w'.cell? ⟨gb9,0,none⟩ = some (.slice A8_0 s3.length c8_0) ∧ w'.cell? ⟨gb9,1,none⟩ = some (.slice A8_1 c3.length c8_1) ∧ w'.cell? ⟨gb9,2,none⟩ = some (.int .i64 f3) ∧ w'.cell? ⟨gb9,3,none⟩ = some (.bool d3) ∧ w'.cell? ⟨gb12,0,none⟩ = some (.slice A11_0 s4.length c11_0) ∧ w'.cell? ⟨gb12,1,none⟩ = some (.slice A11_1 c4.length c11_1) ∧ w'.cell? ⟨gb12,2,none⟩ = some (.int .i64 f4) ∧ w'.cell? ⟨gb12,3,none⟩ = some (.bool d4) ∧ w'.cell? ⟨gb15,0,none⟩ = some (.slice A14_0 s5.length c14_0) ∧ w'.cell? ⟨gb15,1,none⟩ = some (.slice A14_1 c5.length c14_1) ∧ w'.cell? ⟨gb15,2,none⟩ = some (.int .i64 f5) ∧ w'.cell? ⟨gb15,3,none⟩ = some (.bool d5) ∧ Kd.C (Kd.int .u8) w' A21_0 y2.length y2 ∧ Kd.C (Kd.int .u8) w' A22_0 y2.length y2) (fun w' h_=>(by obtain ⟨s0,s1,s2,s3,s4,s5,s6,s7,s8,s9,s10,s11,s12,s13,s14,s15,s16,s17,s18,s19,s20,_⟩:=h_;exact ⟨s0,s1,s2,s3,s4,s5,s6,s7,s8,s9,s10,s11,s12,s13,s14,s15,s16,s17,s18,s19,s20⟩)) ⟨(aD BK3.out 0).trans rfl,(aD BK3.out 1).trans rfl,(aD BK3.out 2).trans rfl,(aD BK3.out 3).trans rfl,(aD BK6.out 0).trans rfl,(aD BK6.out 1).trans rfl,(aD BK6.out 2).trans rfl,(aD BK6.out 3).trans rfl,(aD BK9.out 0).trans rfl,(aD BK9.out 1).trans rfl,(aD BK9.out 2).trans rfl,(aD BK9.out 3).trans rfl,(aD BK12.out 0).trans rfl,(aD BK12.out 1).trans rfl,(aD BK12.out 2).trans rfl,(aD BK12.out 3).trans rfl,(aD BK15.out 0).trans rfl,(aD BK15.out 1).trans rfl,(aD BK15.out 2).trans rfl,(aD BK15.out 3).trans rfl,(Kd.bR HF21_0.out),(Kd.bR HF22_0.out)⟩ (fun hHeld=>?_)
 refine take_ (i:=13) (N:=some 50) (v:=?_) (a':=?_) #[T1,T1,T1,T1,T1,T1,T1,T1,T1,T1,T1,T1,T1,T1,F0,F0,F0,F0,F0,F0,F0,F0,F0,F0,F0,F0,F0,F0,F0,F0,F0,F0,F0,F0,F0,F0,F0,F0,F0,F0,F0,F0,F0,F0,F0,F0,F0,F0,F0,F0,F0] rfl rfl tG (fun _ _ _ h=>h) (Or.inl ⟨vr,?_⟩) hHeld ?_ ?_
 rotate_left
 ·rintro w' ⟨s0,s1,s2,s3,s4,s5,s6,s7,s8,s9,s10,s11,s12,s13,s14,s15,s16,s17,s18,s19,s20,s21⟩
  have hcv_:=Kd.C_string (P:=Try.prog) (A:=A22_0) (c:=c22_0) Try.underlying37 Try.underlying5 Try.underlying9 s21
  go_simp
  with_reducible rfl
 rotate_left
 ·simp only [Act.put,lA,lB,lC,bE,bG]
  rfl
 refine bT (i:=14) (N:=some 51) (v:=?_) (a':=?_) #[T1,T1,T1,T1,T1,T1,T1,T1,T1,T1,T1,T1,T1,T1,T1,F0,F0,F0,F0,F0,F0,F0,F0,F0,F0,F0,F0,F0,F0,F0,F0,F0,F0,F0,F0,F0,F0,F0,F0,F0,F0,F0,F0,F0,F0,F0,F0,F0,F0,F0,F0] rfl rfl tG (fun _ _ _ h=>h) (Or.inl ⟨vr,?_⟩) ?_ ?_
 rotate_left
 ·intro w'
  go_simp
  with_reducible rfl
 rotate_left
 ·simp only [Act.put,lA,lB,lC,bE,bG]
  rfl
 refine bT (i:=15) (N:=some 52) (v:=?_) (a':=?_) #[T1,T1,T1,T1,T1,T1,T1,T1,T1,T1,T1,T1,T1,T1,T1,T1,F0,F0,F0,F0,F0,F0,F0,F0,F0,F0,F0,F0,F0,F0,F0,F0,F0,F0,F0,F0,F0,F0,F0,F0,F0,F0,F0,F0,F0,F0,F0,F0,F0,F0,F0] rfl rfl tG (fun _ _ _ h=>h) (Or.inl ⟨vr,?_⟩) ?_ ?_
 rotate_left
 ·intro w'
  go_simp
  with_reducible rfl
 rotate_left
 ·simp only [Act.put,lA,lB,lC,bE,bG]
  rfl
 refine bT (i:=16) (N:=some 53) (v:=?_) (a':=?_) #[T1,T1,T1,T1,T1,T1,T1,T1,T1,T1,T1,T1,T1,T1,T1,T1,T1,F0,F0,F0,F0,F0,F0,F0,F0,F0,F0,F0,F0,F0,F0,F0,F0,F0,F0,F0,F0,F0,F0,F0,F0,F0,F0,F0,F0,F0,F0,F0,F0,F0,F0] rfl rfl tG (fun _ _ _ h=>h) (Or.inl ⟨vr,?_⟩) ?_ ?_
 rotate_left
 ·intro w'
  go_simp
  with_reducible rfl
 rotate_left
 ·simp only [Act.put,lA,lB,lC,bE,bG]
  rfl
 refine take_ (i:=17) (N:=some 54) (v:=?_) (a':=?_) #[T1,T1,T1,T1,T1,T1,T1,T1,T1,T1,T1,T1,T1,T1,T1,T1,T1,T1,F0,F0,F0,F0,F0,F0,F0,F0,F0,F0,F0,F0,F0,F0,F0,F0,F0,F0,F0,F0,F0,F0,F0,F0,F0,F0,F0,F0,F0,F0,F0,F0,F0] rfl rfl tG (fun _ _ _ h=>h) (Or.inl ⟨vr,?_⟩) hHeld ?_ ?_
 rotate_left
 ·rintro w' ⟨s0,s1,s2,s3,s4,s5,s6,s7,s8,s9,s10,s11,s12,s13,s14,s15,s16,s17,s18,s19,s20,s21⟩
  go_simp
  with_reducible rfl
 rotate_left
 ·simp only [Act.put,lA,lB,lC,bE,bG]
  rfl
 refine bT (i:=18) (N:=some 55) (v:=?_) (a':=?_) #[T1,T1,T1,T1,T1,T1,T1,T1,T1,T1,T1,T1,T1,T1,T1,T1,T1,T1,T1,F0,F0,F0,F0,F0,F0,F0,F0,F0,F0,F0,F0,F0,F0,F0,F0,F0,F0,F0,F0,F0,F0,F0,F0,F0,F0,F0,F0,F0,F0,F0,F0] rfl rfl tG (fun _ _ _ h=>h) (Or.inl ⟨vr,?_⟩) ?_ ?_
 rotate_left
 ·intro w'
  go_simp
  with_reducible rfl
 rotate_left
 ·simp only [Act.put,lA,lB,lC,bE,bG]
  rfl
 refine bT (i:=19) (N:=some 56) (v:=?_) (a':=?_) #[T1,T1,T1,T1,T1,T1,T1,T1,T1,T1,T1,T1,T1,T1,T1,T1,T1,T1,T1,T1,F0,F0,F0,F0,F0,F0,F0,F0,F0,F0,F0,F0,F0,F0,F0,F0,F0,F0,F0,F0,F0,F0,F0,F0,F0,F0,F0,F0,F0,F0,F0] rfl rfl tG (fun _ _ _ h=>h) (Or.inl ⟨vr,?_⟩) ?_ ?_
 rotate_left
 ·intro w'
  go_simp
  with_reducible rfl
 rotate_left
 ·simp only [Act.put,lA,lB,lC,bE,bG]
  rfl
 refine take_ (i:=21) (N:=some 58) (v:=?_) (a':=?_) #[T1,T1,T1,T1,T1,T1,T1,T1,T1,T1,T1,T1,T1,T1,T1,T1,T1,T1,T1,T1,F0,T1,F0,F0,F0,F0,F0,F0,F0,F0,F0,F0,F0,F0,F0,F0,F0,F0,F0,F0,F0,F0,F0,F0,F0,F0,F0,F0,F0,F0,F0] rfl rfl tG (fun _ _ _ h=>h) (Or.inl ⟨vr,?_⟩) hHeld ?_ ?_
 rotate_left
 ·rintro w' ⟨s0,s1,s2,s3,s4,s5,s6,s7,s8,s9,s10,s11,s12,s13,s14,s15,s16,s17,s18,s19,s20,s21⟩
  go_simp
  with_reducible rfl
 rotate_left
 ·simp only [Act.put,lA,lB,lC,bE,bG]
  rfl
 refine bT (i:=22) (N:=some 59) (v:=?_) (a':=?_) #[T1,T1,T1,T1,T1,T1,T1,T1,T1,T1,T1,T1,T1,T1,T1,T1,T1,T1,T1,T1,F0,T1,T1,F0,F0,F0,F0,F0,F0,F0,F0,F0,F0,F0,F0,F0,F0,F0,F0,F0,F0,F0,F0,F0,F0,F0,F0,F0,F0,F0,F0] rfl rfl tG (fun _ _ _ h=>h) (Or.inl ⟨vr,?_⟩) ?_ ?_
 rotate_left
 ·intro w'
  go_simp
  with_reducible rfl
 rotate_left
 ·simp only [Act.put,lA,lB,lC,bE,bG]
  rfl
 refine bT (i:=23) (N:=some 60) (v:=?_) (a':=?_) #[T1,T1,T1,T1,T1,T1,T1,T1,T1,T1,T1,T1,T1,T1,T1,T1,T1,T1,T1,T1,F0,T1,T1,T1,F0,F0,F0,F0,F0,F0,F0,F0,F0,F0,F0,F0,F0,F0,F0,F0,F0,F0,F0,F0,F0,F0,F0,F0,F0,F0,F0] rfl rfl tG (fun _ _ _ h=>h) (Or.inl ⟨vr,?_⟩) ?_ ?_
 rotate_left
 ·intro w'
  go_simp
  with_reducible rfl
 rotate_left
 ·simp only [Act.put,lA,lB,lC,bE,bG]
  rfl
 refine one_ (i:=20) (N:=some 57) #[T1,T1,T1,T1,T1,T1,T1,T1,T1,T1,T1,T1,T1,T1,T1,T1,T1,T1,T1,T1,T1,T1,T1,T1,F0,F0,F0,F0,F0,F0,F0,F0,F0,F0,F0,F0,F0,F0,F0,F0,F0,F0,F0,F0,F0,F0,F0,F0,F0,F0,F0] rfl rfl tG tf (fun K hK=>?_)
 refine goes_ Try.func28 tG rfl #[.agg #[.slice A8_0 s3.length c8_0,.slice A8_1 c3.length c8_1,.int .i64 f3,.bool d3],.int .i64 n3,.slice A8_2 y3.length c8_2] wN rfl rfl tC ?_
 (with_reducible refine (impl_WriteSec.calls _ _ s3 _ _ c3 f3 d3 n3 _ _ y3 s6 c6 f6 d6 _ ?s1 ?s2 ?s3 ?s4 ?s5 ?s6 Qc.out).mono ?_)
 (case s1=>exact (Kd.bR HF8_0.out))
 (case s2=>exact HC8_0.out)
 (case s3=>exact (Kd.bR HF8_1.out))
 (case s4=>exact HC8_1.out)
 (case s5=>exact (Kd.bR HF8_2.out))
 (case s6=>exact HC8_2.out)
 rintro e_ w23 ⟨v0_,v1_,rfl,ho0,ho1,hb⟩
 refine ⟨_,rfl,?_⟩
 obtain ⟨lo23,hi23,el_,eh_,ol_,oh_⟩:=Mem.times HT.out hb
 (try rw [← el_] at ho0)
 obtain ⟨A23_0,c23_0,ev_,hc0_,hf0_⟩:=Mem.new_N (Kd.aV (ok':=fun k_=>lo23 ≤ k_) ho0 vP) eh_
 subst ev_
 (try rw [← el_] at ho1)
 obtain ⟨A23_1,c23_1,ev_,hc1_,hf1_⟩:=Mem.new_N (Kd.aV (ok':=fun k_=>lo23 ≤ k_) ho1 vP) eh_
 subst ev_
 replace HF0:=nF HF0
 replace HF2_0:=nF HF2_0
 replace HF2_1:=nF HF2_1
 replace HF5_0:=nF HF5_0
 replace HF5_1:=nF HF5_1
 replace HF8_0:=nF HF8_0
 replace HF8_1:=nF HF8_1
 replace HF8_2:=nF HF8_2
 replace HS8_2:=aA.mk (Kd.cA HS8_2.out hb)
 replace HF11_0:=nF HF11_0
 replace HF11_1:=nF HF11_1
 replace HF14_0:=nF HF14_0
 replace HF14_1:=nF HF14_1
 replace HF21_0:=nF HF21_0
 replace HS21_0:=aA.mk (Kd.cA HS21_0.out hb)
 replace HF22_0:=nF HF22_0
 replace HS22_0:=aA.mk (Kd.cA HS22_0.out hb)
 replace BK3:=nB BK3
 replace BK6:=nB BK6
 replace BK9:=nB BK9
 replace BK12:=nB BK12
 replace BK15:=nB BK15
 replace HB:=aA.mk (aT HB.out hb)
 replace HF23_0:=aA.mk (hf0_)
 replace HC23_0:=aA.mk (hc0_)
 replace HF23_1:=aA.mk (hf1_)
 replace HC23_1:=aA.mk (hc1_)
 replace HORD:=aA.mk (And.intro HORD.out (And.intro ol_ oh_))
 replace HT:=aA.mk (Nat.le_of_eq eh_)
 clear ol_ oh_ el_ eh_ ho0 hf0_ hc0_ ho1 hf1_ hc1_
 (try clear hb)
 refine hK.out _ _ ⟨(aD BK3.out 0).trans rfl,(aD BK3.out 1).trans rfl,(aD BK3.out 2).trans rfl,(aD BK3.out 3).trans rfl,(aD BK6.out 0).trans rfl,(aD BK6.out 1).trans rfl,(aD BK6.out 2).trans rfl,(aD BK6.out 3).trans rfl,(aD BK9.out 0).trans rfl,(aD BK9.out 1).trans rfl,(aD BK9.out 2).trans rfl,(aD BK9.out 3).trans rfl,(aD BK12.out 0).trans rfl,(aD BK12.out 1).trans rfl,(aD BK12.out 2).trans rfl,(aD BK12.out 3).trans rfl,(aD BK15.out 0).trans rfl,(aD BK15.out 1).trans rfl,(aD BK15.out 2).trans rfl,(aD BK15.out 3).trans rfl,(Kd.bR HF21_0.out),(Kd.bR HF22_0.out)⟩ (fun hHeld=>?_)
 clear hK K
 refine norm_ (a':=?_) ?_ ?_
 rotate_left
 ·show Act.put _ (some 57) _ = _
  simp only [Act.put,lA,lB,lC,bE,bG]
  rfl
 refine one_ (i:=24) (N:=some 61) #[T1,T1,T1,T1,T1,T1,T1,T1,T1,T1,T1,T1,T1,T1,T1,T1,T1,T1,T1,T1,T1,T1,T1,T1,T1,F0,F0,F0,F0,F0,F0,F0,F0,F0,F0,F0,F0,F0,F0,F0,F0,F0,F0,F0,F0,F0,F0,F0,F0,F0,F0] rfl rfl tG tf (fun K hK=>?_)
 refine goes_ Try.func26 tG rfl #[.agg #[.slice A8_0 s3.length c8_0,.slice A8_1 c3.length c8_1,.int .i64 f3,.bool d3],.int .i64 n3,.slice A8_2 y3.length c8_2] wN rfl rfl tC ?_
 (with_reducible refine (spec_WriteSec.calls (In lo8 hi8) _ _ s3 (In lo8 hi8) _ _ c3 f3 d3 n3 (In lo8 hi8) _ _ y3 s6 c6 f6 d6 _ ?s1 ?s2 ?s3 Qd.out).mono ?_)
 (case s1=>exact ⟨_,_,rfl,HC8_0.out,HF8_0.out⟩)
 (case s2=>exact ⟨_,_,rfl,HC8_1.out,HF8_1.out⟩)
 (case s3=>exact ⟨_,_,rfl,HC8_2.out,HF8_2.out⟩)
 rintro e_ w24 ⟨v0_,v1_,rfl,ho0,ho1,hb⟩
 refine ⟨_,rfl,?_⟩
 obtain ⟨lo24,hi24,el_,eh_,ol_,oh_⟩:=Mem.times HT.out hb
 (try rw [← el_] at ho0)
 obtain ⟨A24_0,c24_0,ev_,hc0_,hf0_⟩:=Mem.new_N (Kd.aV (ok':=fun k_=>lo24 ≤ k_) ho0 vP) eh_
 subst ev_
 (try rw [← el_] at ho1)
 obtain ⟨A24_1,c24_1,ev_,hc1_,hf1_⟩:=Mem.new_N (Kd.aV (ok':=fun k_=>lo24 ≤ k_) ho1 vP) eh_
 subst ev_
 replace HF0:=nF HF0
 replace HF2_0:=nF HF2_0
 replace HF2_1:=nF HF2_1
 replace HF5_0:=nF HF5_0
 replace HF5_1:=nF HF5_1
 replace HF8_0:=nF HF8_0
 replace HF8_1:=nF HF8_1
 replace HF8_2:=nF HF8_2
 replace HS8_2:=aA.mk (Kd.cA HS8_2.out hb)
 replace HF11_0:=nF HF11_0
 replace HF11_1:=nF HF11_1
 replace HF14_0:=nF HF14_0
 replace HF14_1:=nF HF14_1
 replace HF21_0:=nF HF21_0
 replace HS21_0:=aA.mk (Kd.cA HS21_0.out hb)
 replace HF22_0:=nF HF22_0
 replace HS22_0:=aA.mk (Kd.cA HS22_0.out hb)
 replace HF23_0:=nF HF23_0
 replace HF23_1:=nF HF23_1
 replace BK3:=nB BK3
 replace BK6:=nB BK6
 replace BK9:=nB BK9
 replace BK12:=nB BK12
 replace BK15:=nB BK15
 replace HB:=aA.mk (aT HB.out hb)
 replace HF24_0:=aA.mk (hf0_)
 replace HC24_0:=aA.mk (hc0_)
 replace HF24_1:=aA.mk (hf1_)
 replace HC24_1:=aA.mk (hc1_)
 replace HORD:=aA.mk (And.intro HORD.out (And.intro ol_ oh_))
 replace HT:=aA.mk (Nat.le_of_eq eh_)
 clear ol_ oh_ el_ eh_ ho0 hf0_ hc0_ ho1 hf1_ hc1_
 (try clear hb)
 refine hK.out _ _ ⟨(aD BK3.out 0).trans rfl,(aD BK3.out 1).trans rfl,(aD BK3.out 2).trans rfl,(aD BK3.out 3).trans rfl,(aD BK6.out 0).trans rfl,(aD BK6.out 1).trans rfl,(aD BK6.out 2).trans rfl,(aD BK6.out 3).trans rfl,(aD BK9.out 0).trans rfl,(aD BK9.out 1).trans rfl,(aD BK9.out 2).trans rfl,(aD BK9.out 3).trans rfl,(aD BK12.out 0).trans rfl,(aD BK12.out 1).trans rfl,(aD BK12.out 2).trans rfl,(aD BK12.out 3).trans rfl,(aD BK15.out 0).trans rfl,(aD BK15.out 1).trans rfl,(aD BK15.out 2).trans rfl,(aD BK15.out 3).trans rfl,(Kd.bR HF21_0.out),(Kd.bR HF22_0.out)⟩ (fun hHeld=>?_)
 clear hK K
 refine norm_ (a':=?_) ?_ ?_
 rotate_left
 ·show Act.put _ (some 61) _ = _
  simp only [Act.put,lA,lB,lC,bE,bG]
  rfl
 refine one_ (i:=25) (N:=some 62) #[T1,T1,T1,T1,T1,T1,T1,T1,T1,T1,T1,T1,T1,T1,T1,T1,T1,T1,T1,T1,T1,T1,T1,T1,T1,T1,F0,F0,F0,F0,F0,F0,F0,F0,F0,F0,F0,F0,F0,F0,F0,F0,F0,F0,F0,F0,F0,F0,F0,F0,F0] rfl rfl tG tf (fun K hK=>?_)
 refine goes_ Try.func42 tG rfl #[.agg #[.slice A23_0 s6.length c23_0,.slice A23_1 c6.length c23_1,.int .i64 f6,.bool d6],.agg #[.slice A24_0 s6.length c24_0,.slice A24_1 c6.length c24_1,.int .i64 f6,.bool d6]] wN rfl rfl tC ?_
 (with_reducible refine (laws_sameDev.calls k_S6 _ _ s6 _ _ c6 f6 d6 _ _ s6 _ _ c6 f6 d6 true _ ?s1 ?s2 ?s3 ?s4 ?s5 ?s6 ?s7 ?s8 S6.out).mono ?_)
 (case s1=>exact (Kd.bR HF23_0.out))
 (case s2=>exact HC23_0.out)
 (case s3=>exact (Kd.bR HF23_1.out))
 (case s4=>exact HC23_1.out)
 (case s5=>exact (Kd.bR HF24_0.out))
 (case s6=>exact HC24_0.out)
 (case s7=>exact (Kd.bR HF24_1.out))
 (case s8=>exact HC24_1.out)
 rintro e_ w25 ⟨rfl,hb⟩
 refine ⟨_,rfl,?_⟩
 replace HF0:=nF HF0
 replace HF2_0:=nF HF2_0
 replace HF2_1:=nF HF2_1
 replace HF5_0:=nF HF5_0
 replace HF5_1:=nF HF5_1
 replace HF8_0:=nF HF8_0
 replace HF8_1:=nF HF8_1
 replace HF8_2:=nF HF8_2
 replace HS8_2:=aA.mk (Kd.cA HS8_2.out hb)
 replace HF11_0:=nF HF11_0
 replace HF11_1:=nF HF11_1
 replace HF14_0:=nF HF14_0
 replace HF14_1:=nF HF14_1
 replace HF21_0:=nF HF21_0
 replace HS21_0:=aA.mk (Kd.cA HS21_0.out hb)
 replace HF22_0:=nF HF22_0
 replace HS22_0:=aA.mk (Kd.cA HS22_0.out hb)
 replace HF23_0:=nF HF23_0
 replace HF23_1:=nF HF23_1
 replace HF24_0:=nF HF24_0
 replace HF24_1:=nF HF24_1
 replace BK3:=nB BK3
 replace BK6:=nB BK6
 replace BK9:=nB BK9
 replace BK12:=nB BK12
 replace BK15:=nB BK15
 replace HB:=aA.mk (aT HB.out hb)
 replace HT:=aA.mk (Nat.le_trans HT.out hb.size)
 (try clear hb)
 refine hK.out _ _ ⟨(aD BK3.out 0).trans rfl,(aD BK3.out 1).trans rfl,(aD BK3.out 2).trans rfl,(aD BK3.out 3).trans rfl,(aD BK6.out 0).trans rfl,(aD BK6.out 1).trans rfl,(aD BK6.out 2).trans rfl,(aD BK6.out 3).trans rfl,(aD BK9.out 0).trans rfl,(aD BK9.out 1).trans rfl,(aD BK9.out 2).trans rfl,(aD BK9.out 3).trans rfl,(aD BK12.out 0).trans rfl,(aD BK12.out 1).trans rfl,(aD BK12.out 2).trans rfl,(aD BK12.out 3).trans rfl,(aD BK15.out 0).trans rfl,(aD BK15.out 1).trans rfl,(aD BK15.out 2).trans rfl,(aD BK15.out 3).trans rfl,(Kd.bR HF21_0.out),(Kd.bR HF22_0.out)⟩ (fun hHeld=>?_)
 clear hK K
 refine norm_ (a':=?_) ?_ ?_
 rotate_left
 ·show Act.put _ (some 62) _ = _
  simp only [Act.put,lA,lB,lC,bE,bG]
  rfl
 refine bT (i:=26) (N:=some 63) (v:=?_) (a':=?_) #[T1,T1,T1,T1,T1,T1,T1,T1,T1,T1,T1,T1,T1,T1,T1,T1,T1,T1,T1,T1,T1,T1,T1,T1,T1,T1,T1,F0,F0,F0,F0,F0,F0,F0,F0,F0,F0,F0,F0,F0,F0,F0,F0,F0,F0,F0,F0,F0,F0,F0,F0] rfl rfl tG (fun _ _ _ h=>h) (Or.inl ⟨vr,?_⟩) ?_ ?_
 rotate_left
 ·intro w'
  go_simp
  with_reducible rfl
 rotate_left
 ·simp only [Act.put,lA,lB,lC,bE,bG]
  rfl
 refine bT (i:=27) (N:=some 64) (v:=?_) (a':=?_) #[T1,T1,T1,T1,T1,T1,T1,T1,T1,T1,T1,T1,T1,T1,T1,T1,T1,T1,T1,T1,T1,T1,T1,T1,T1,T1,T1,T1,F0,F0,F0,F0,F0,F0,F0,F0,F0,F0,F0,F0,F0,F0,F0,F0,F0,F0,F0,F0,F0,F0,F0] rfl rfl tG (fun _ _ _ h=>h) (Or.inl ⟨vr,?_⟩) ?_ ?_
 rotate_left
 ·intro w'
  go_simp
  with_reducible rfl
 rotate_left
 ·simp only [Act.put,lA,lB,lC,bE,bG]
  rfl
 refine take_ (i:=28) (N:=some 65) (v:=?_) (a':=?_) #[T1,T1,T1,T1,T1,T1,T1,T1,T1,T1,T1,T1,T1,T1,T1,T1,T1,T1,T1,T1,T1,T1,T1,T1,T1,T1,T1,T1,T1,F0,F0,F0,F0,F0,F0,F0,F0,F0,F0,F0,F0,F0,F0,F0,F0,F0,F0,F0,F0,F0,F0] rfl rfl tG (fun _ _ _ h=>h) (Or.inl ⟨vr,?_⟩) hHeld ?_ ?_
 rotate_left
 ·rintro w' ⟨s0,s1,s2,s3,s4,s5,s6,s7,s8,s9,s10,s11,s12,s13,s14,s15,s16,s17,s18,s19,s20,s21⟩
  go_simp
  with_reducible rfl
 rotate_left
 ·simp only [Act.put,lA,lB,lC,bE,bG]
  rfl
 refine take_ (i:=30) (N:=some 67) (v:=?_) (a':=?_) #[T1,T1,T1,T1,T1,T1,T1,T1,T1,T1,T1,T1,T1,T1,T1,T1,T1,T1,T1,T1,T1,T1,T1,T1,T1,T1,T1,T1,T1,F0,T1,F0,F0,F0,F0,F0,F0,F0,F0,F0,F0,F0,F0,F0,F0,F0,F0,F0,F0,F0,F0] rfl rfl tG (fun _ _ _ h=>h) (Or.inl ⟨vr,?_⟩) hHeld ?_ ?_
 rotate_left
 ·rintro w' ⟨s0,s1,s2,s3,s4,s5,s6,s7,s8,s9,s10,s11,s12,s13,s14,s15,s16,s17,s18,s19,s20,s21⟩
  go_simp
  with_reducible rfl
 rotate_left
 ·simp only [Act.put,lA,lB,lC,bE,bG]
  rfl
 refine one_ (i:=29) (N:=some 66) #[T1,T1,T1,T1,T1,T1,T1,T1,T1,T1,T1,T1,T1,T1,T1,T1,T1,T1,T1,T1,T1,T1,T1,T1,T1,T1,T1,T1,T1,T1,T1,F0,F0,F0,F0,F0,F0,F0,F0,F0,F0,F0,F0,F0,F0,F0,F0,F0,F0,F0,F0] rfl rfl tG tf (fun K hK=>?_)
 refine goes_ Try.func30 tG rfl #[.agg #[.slice A11_0 s4.length c11_0,.slice A11_1 c4.length c11_1,.int .i64 f4,.bool d4]] wN rfl rfl tC ?_
 (with_reducible refine (impl_FlushDev.calls _ _ s4 _ _ c4 f4 d4 s7 c7 f7 d7 _ ?s1 ?s2 ?s3 ?s4 Qe.out).mono ?_)
 (case s1=>exact (Kd.bR HF11_0.out))
 (case s2=>exact HC11_0.out)
 (case s3=>exact (Kd.bR HF11_1.out))
 (case s4=>exact HC11_1.out)
 rintro e_ w26 ⟨v0_,v1_,rfl,ho0,ho1,hb⟩
 refine ⟨_,rfl,?_⟩
 obtain ⟨lo26,hi26,el_,eh_,ol_,oh_⟩:=Mem.times HT.out hb
 (try rw [← el_] at ho0)
 obtain ⟨A26_0,c26_0,ev_,hc0_,hf0_⟩:=Mem.new_N (Kd.aV (ok':=fun k_=>lo26 ≤ k_) ho0 vP) eh_
 subst ev_
 (try rw [← el_] at ho1)
 obtain ⟨A26_1,c26_1,ev_,hc1_,hf1_⟩:=Mem.new_N (Kd.aV (ok':=fun k_=>lo26 ≤ k_) ho1 vP) eh_
 subst ev_
 replace HF0:=nF HF0
 replace HF2_0:=nF HF2_0
 replace HF2_1:=nF HF2_1
 replace HF5_0:=nF HF5_0
 replace HF5_1:=nF HF5_1
 replace HF8_0:=nF HF8_0
 replace HF8_1:=nF HF8_1
 replace HF8_2:=nF HF8_2
 replace HS8_2:=aA.mk (Kd.cA HS8_2.out hb)
 replace HF11_0:=nF HF11_0
 replace HF11_1:=nF HF11_1
 replace HF14_0:=nF HF14_0
 replace HF14_1:=nF HF14_1
 replace HF21_0:=nF HF21_0
 replace HS21_0:=aA.mk (Kd.cA HS21_0.out hb)
 replace HF22_0:=nF HF22_0
 replace HS22_0:=aA.mk (Kd.cA HS22_0.out hb)
 replace HF23_0:=nF HF23_0
 replace HF23_1:=nF HF23_1
 replace HF24_0:=nF HF24_0
 replace HF24_1:=nF HF24_1
 replace BK3:=nB BK3
 replace BK6:=nB BK6
 replace BK9:=nB BK9
 replace BK12:=nB BK12
 replace BK15:=nB BK15
 replace HB:=aA.mk (aT HB.out hb)
 replace HF26_0:=aA.mk (hf0_)
 replace HC26_0:=aA.mk (hc0_)
 replace HF26_1:=aA.mk (hf1_)
 replace HC26_1:=aA.mk (hc1_)
 replace HORD:=aA.mk (And.intro HORD.out (And.intro ol_ oh_))
 replace HT:=aA.mk (Nat.le_of_eq eh_)
 clear ol_ oh_ el_ eh_ ho0 hf0_ hc0_ ho1 hf1_ hc1_
 (try clear hb)
 refine hK.out _ _ ⟨(aD BK3.out 0).trans rfl,(aD BK3.out 1).trans rfl,(aD BK3.out 2).trans rfl,(aD BK3.out 3).trans rfl,(aD BK6.out 0).trans rfl,(aD BK6.out 1).trans rfl,(aD BK6.out 2).trans rfl,(aD BK6.out 3).trans rfl,(aD BK9.out 0).trans rfl,(aD BK9.out 1).trans rfl,(aD BK9.out 2).trans rfl,(aD BK9.out 3).trans rfl,(aD BK12.out 0).trans rfl,(aD BK12.out 1).trans rfl,(aD BK12.out 2).trans rfl,(aD BK12.out 3).trans rfl,(aD BK15.out 0).trans rfl,(aD BK15.out 1).trans rfl,(aD BK15.out 2).trans rfl,(aD BK15.out 3).trans rfl,(Kd.bR HF21_0.out),(Kd.bR HF22_0.out)⟩ (fun hHeld=>?_)
 clear hK K
 refine norm_ (a':=?_) ?_ ?_
 rotate_left
 ·show Act.put _ (some 66) _ = _
  simp only [Act.put,lA,lB,lC,bE,bG]
  rfl
 refine one_ (i:=31) (N:=some 68) #[T1,T1,T1,T1,T1,T1,T1,T1,T1,T1,T1,T1,T1,T1,T1,T1,T1,T1,T1,T1,T1,T1,T1,T1,T1,T1,T1,T1,T1,T1,T1,T1,F0,F0,F0,F0,F0,F0,F0,F0,F0,F0,F0,F0,F0,F0,F0,F0,F0,F0,F0] rfl rfl tG tf (fun K hK=>?_)
 refine goes_ Try.func29 tG rfl #[.agg #[.slice A11_0 s4.length c11_0,.slice A11_1 c4.length c11_1,.int .i64 f4,.bool d4]] wN rfl rfl tC ?_
 (with_reducible refine (spec_FlushDev.calls (In lo11 hi11) _ _ s4 (In lo11 hi11) _ _ c4 f4 d4 s7 c7 f7 d7 _ ?s1 ?s2 Qf.out).mono ?_)
 (case s1=>exact ⟨_,_,rfl,HC11_0.out,HF11_0.out⟩)
 (case s2=>exact ⟨_,_,rfl,HC11_1.out,HF11_1.out⟩)
 rintro e_ w27 ⟨v0_,v1_,rfl,ho0,ho1,hb⟩
 refine ⟨_,rfl,?_⟩
 obtain ⟨lo27,hi27,el_,eh_,ol_,oh_⟩:=Mem.times HT.out hb
 (try rw [← el_] at ho0)
 obtain ⟨A27_0,c27_0,ev_,hc0_,hf0_⟩:=Mem.new_N (Kd.aV (ok':=fun k_=>lo27 ≤ k_) ho0 vP) eh_
 subst ev_
 (try rw [← el_] at ho1)
 obtain ⟨A27_1,c27_1,ev_,hc1_,hf1_⟩:=Mem.new_N (Kd.aV (ok':=fun k_=>lo27 ≤ k_) ho1 vP) eh_
 subst ev_
 replace HF0:=nF HF0
 replace HF2_0:=nF HF2_0
 replace HF2_1:=nF HF2_1
 replace HF5_0:=nF HF5_0
 replace HF5_1:=nF HF5_1
 replace HF8_0:=nF HF8_0
 replace HF8_1:=nF HF8_1
 replace HF8_2:=nF HF8_2
 replace HS8_2:=aA.mk (Kd.cA HS8_2.out hb)
 replace HF11_0:=nF HF11_0
 replace HF11_1:=nF HF11_1
 replace HF14_0:=nF HF14_0
 replace HF14_1:=nF HF14_1
 replace HF21_0:=nF HF21_0
 replace HS21_0:=aA.mk (Kd.cA HS21_0.out hb)
 replace HF22_0:=nF HF22_0
 replace HS22_0:=aA.mk (Kd.cA HS22_0.out hb)
 replace HF23_0:=nF HF23_0
 replace HF23_1:=nF HF23_1
 replace HF24_0:=nF HF24_0
 replace HF24_1:=nF HF24_1
 replace HF26_0:=nF HF26_0
 replace HF26_1:=nF HF26_1
 replace BK3:=nB BK3
 replace BK6:=nB BK6
 replace BK9:=nB BK9
 replace BK12:=nB BK12
 replace BK15:=nB BK15
 replace HB:=aA.mk (aT HB.out hb)
 replace HF27_0:=aA.mk (hf0_)
 replace HC27_0:=aA.mk (hc0_)
 replace HF27_1:=aA.mk (hf1_)
 replace HC27_1:=aA.mk (hc1_)
 replace HORD:=aA.mk (And.intro HORD.out (And.intro ol_ oh_))
 replace HT:=aA.mk (Nat.le_of_eq eh_)
 clear ol_ oh_ el_ eh_ ho0 hf0_ hc0_ ho1 hf1_ hc1_
 (try clear hb)
 refine hK.out _ _ ⟨(aD BK3.out 0).trans rfl,(aD BK3.out 1).trans rfl,(aD BK3.out 2).trans rfl,(aD BK3.out 3).trans rfl,(aD BK6.out 0).trans rfl,(aD BK6.out 1).trans rfl,(aD BK6.out 2).trans rfl,(aD BK6.out 3).trans rfl,(aD BK9.out 0).trans rfl,(aD BK9.out 1).trans rfl,(aD BK9.out 2).trans rfl,(aD BK9.out 3).trans rfl,(aD BK12.out 0).trans rfl,(aD BK12.out 1).trans rfl,(aD BK12.out 2).trans rfl,(aD BK12.out 3).trans rfl,(aD BK15.out 0).trans rfl,(aD BK15.out 1).trans rfl,(aD BK15.out 2).trans rfl,(aD BK15.out 3).trans rfl,(Kd.bR HF21_0.out),(Kd.bR HF22_0.out)⟩ (fun hHeld=>?_)
 clear hK K
 refine norm_ (a':=?_) ?_ ?_
 rotate_left
 ·show Act.put _ (some 68) _ = _
  simp only [Act.put,lA,lB,lC,bE,bG]
  rfl
 refine one_ (i:=32) (N:=some 69) #[T1,T1,T1,T1,T1,T1,T1,T1,T1,T1,T1,T1,T1,T1,T1,T1,T1,T1,T1,T1,T1,T1,T1,T1,T1,T1,T1,T1,T1,T1,T1,T1,T1,F0,F0,F0,F0,F0,F0,F0,F0,F0,F0,F0,F0,F0,F0,F0,F0,F0,F0] rfl rfl tG tf (fun K hK=>?_)
 refine goes_ Try.func42 tG rfl #[.agg #[.slice A26_0 s7.length c26_0,.slice A26_1 c7.length c26_1,.int .i64 f7,.bool d7],.agg #[.slice A27_0 s7.length c27_0,.slice A27_1 c7.length c27_1,.int .i64 f7,.bool d7]] wN rfl rfl tC ?_
 (with_reducible refine (laws_sameDev.calls k_S7 _ _ s7 _ _ c7 f7 d7 _ _ s7 _ _ c7 f7 d7 true _ ?s1 ?s2 ?s3 ?s4 ?s5 ?s6 ?s7 ?s8 S7.out).mono ?_)
 (case s1=>exact (Kd.bR HF26_0.out))
 (case s2=>exact HC26_0.out)
 (case s3=>exact (Kd.bR HF26_1.out))
 (case s4=>exact HC26_1.out)
 (case s5=>exact (Kd.bR HF27_0.out))
 (case s6=>exact HC27_0.out)
 (case s7=>exact (Kd.bR HF27_1.out))
 (case s8=>exact HC27_1.out)
 rintro e_ w28 ⟨rfl,hb⟩
 refine ⟨_,rfl,?_⟩
 replace HF0:=nF HF0
 replace HF2_0:=nF HF2_0
 replace HF2_1:=nF HF2_1
 replace HF5_0:=nF HF5_0
 replace HF5_1:=nF HF5_1
 replace HF8_0:=nF HF8_0
 replace HF8_1:=nF HF8_1
 replace HF8_2:=nF HF8_2
 replace HS8_2:=aA.mk (Kd.cA HS8_2.out hb)
 replace HF11_0:=nF HF11_0
 replace HF11_1:=nF HF11_1
 replace HF14_0:=nF HF14_0
 replace HF14_1:=nF HF14_1
 replace HF21_0:=nF HF21_0
 replace HS21_0:=aA.mk (Kd.cA HS21_0.out hb)
 replace HF22_0:=nF HF22_0
 replace HS22_0:=aA.mk (Kd.cA HS22_0.out hb)
 replace HF23_0:=nF HF23_0
 replace HF23_1:=nF HF23_1
 replace HF24_0:=nF HF24_0
 replace HF24_1:=nF HF24_1
 replace HF26_0:=nF HF26_0
 replace HF26_1:=nF HF26_1
 replace HF27_0:=nF HF27_0
 replace HF27_1:=nF HF27_1
 replace BK3:=nB BK3
 replace BK6:=nB BK6
 replace BK9:=nB BK9
 replace BK12:=nB BK12
 replace BK15:=nB BK15
 replace HB:=aA.mk (aT HB.out hb)
 replace HT:=aA.mk (Nat.le_trans HT.out hb.size)
 (try clear hb)
 refine hK.out _ _ ⟨(aD BK3.out 0).trans rfl,(aD BK3.out 1).trans rfl,(aD BK3.out 2).trans rfl,(aD BK3.out 3).trans rfl,(aD BK6.out 0).trans rfl,(aD BK6.out 1).trans rfl,(aD BK6.out 2).trans rfl,(aD BK6.out 3).trans rfl,(aD BK9.out 0).trans rfl,(aD BK9.out 1).trans rfl,(aD BK9.out 2).trans rfl,(aD BK9.out 3).trans rfl,(aD BK12.out 0).trans rfl,(aD BK12.out 1).trans rfl,(aD BK12.out 2).trans rfl,(aD BK12.out 3).trans rfl,(aD BK15.out 0).trans rfl,(aD BK15.out 1).trans rfl,(aD BK15.out 2).trans rfl,(aD BK15.out 3).trans rfl,(Kd.bR HF21_0.out),(Kd.bR HF22_0.out)⟩ (fun hHeld=>?_)
 clear hK K
 refine norm_ (a':=?_) ?_ ?_
 rotate_left
 ·show Act.put _ (some 69) _ = _
  simp only [Act.put,lA,lB,lC,bE,bG]
  rfl
 refine bT (i:=33) (N:=some 70) (v:=?_) (a':=?_) #[T1,T1,T1,T1,T1,T1,T1,T1,T1,T1,T1,T1,T1,T1,T1,T1,T1,T1,T1,T1,T1,T1,T1,T1,T1,T1,T1,T1,T1,T1,T1,T1,T1,T1,F0,F0,F0,F0,F0,F0,F0,F0,F0,F0,F0,F0,F0,F0,F0,F0,F0] rfl rfl tG (fun _ _ _ h=>h) (Or.inl ⟨vr,?_⟩) ?_ ?_
 rotate_left
 ·intro w'
  go_simp
  with_reducible rfl
 rotate_left
 ·simp only [Act.put,lA,lB,lC,bE,bG]
  rfl
 refine bT (i:=34) (N:=some 71) (v:=?_) (a':=?_) #[T1,T1,T1,T1,T1,T1,T1,T1,T1,T1,T1,T1,T1,T1,T1,T1,T1,T1,T1,T1,T1,T1,T1,T1,T1,T1,T1,T1,T1,T1,T1,T1,T1,T1,T1,F0,F0,F0,F0,F0,F0,F0,F0,F0,F0,F0,F0,F0,F0,F0,F0] rfl rfl tG (fun _ _ _ h=>h) (Or.inl ⟨vr,?_⟩) ?_ ?_
 rotate_left
 ·intro w'
  go_simp
  with_reducible rfl
 rotate_left
 ·simp only [Act.put,lA,lB,lC,bE,bG]
  rfl
 refine take_ (i:=35) (N:=some 72) (v:=?_) (a':=?_) #[T1,T1,T1,T1,T1,T1,T1,T1,T1,T1,T1,T1,T1,T1,T1,T1,T1,T1,T1,T1,T1,T1,T1,T1,T1,T1,T1,T1,T1,T1,T1,T1,T1,T1,T1,T1,F0,F0,F0,F0,F0,F0,F0,F0,F0,F0,F0,F0,F0,F0,F0] rfl rfl tG (fun _ _ _ h=>h) (Or.inl ⟨vr,?_⟩) hHeld ?_ ?_
 rotate_left
 ·rintro w' ⟨s0,s1,s2,s3,s4,s5,s6,s7,s8,s9,s10,s11,s12,s13,s14,s15,s16,s17,s18,s19,s20,s21⟩
  go_simp
  with_reducible rfl
 rotate_left
 ·simp only [Act.put,lA,lB,lC,bE,bG]
  rfl
 refine bT (i:=36) (N:=some 73) (v:=?_) (a':=?_) #[T1,T1,T1,T1,T1,T1,T1,T1,T1,T1,T1,T1,T1,T1,T1,T1,T1,T1,T1,T1,T1,T1,T1,T1,T1,T1,T1,T1,T1,T1,T1,T1,T1,T1,T1,T1,T1,F0,F0,F0,F0,F0,F0,F0,F0,F0,F0,F0,F0,F0,F0] rfl rfl tG (fun _ _ _ h=>h) (Or.inl ⟨vr,?_⟩) ?_ ?_
 rotate_left
 ·intro w'
  go_simp
  with_reducible rfl
 rotate_left
 ·simp only [Act.put,lA,lB,lC,bE,bG]
  rfl
 refine take_ (i:=38) (N:=some 75) (v:=?_) (a':=?_) #[T1,T1,T1,T1,T1,T1,T1,T1,T1,T1,T1,T1,T1,T1,T1,T1,T1,T1,T1,T1,T1,T1,T1,T1,T1,T1,T1,T1,T1,T1,T1,T1,T1,T1,T1,T1,T1,F0,T1,F0,F0,F0,F0,F0,F0,F0,F0,F0,F0,F0,F0] rfl rfl tG (fun _ _ _ h=>h) (Or.inl ⟨vr,?_⟩) hHeld ?_ ?_
 rotate_left
 ·rintro w' ⟨s0,s1,s2,s3,s4,s5,s6,s7,s8,s9,s10,s11,s12,s13,s14,s15,s16,s17,s18,s19,s20,s21⟩
  go_simp
  with_reducible rfl
 rotate_left
 ·simp only [Act.put,lA,lB,lC,bE,bG]
  rfl
 refine bT (i:=39) (N:=some 76) (v:=?_) (a':=?_) #[T1,T1,T1,T1,T1,T1,T1,T1,T1,T1,T1,T1,T1,T1,T1,T1,T1,T1,T1,T1,T1,T1,T1,T1,T1,T1,T1,T1,T1,T1,T1,T1,T1,T1,T1,T1,T1,F0,T1,T1,F0,F0,F0,F0,F0,F0,F0,F0,F0,F0,F0] rfl rfl tG (fun _ _ _ h=>h) (Or.inl ⟨vr,?_⟩) ?_ ?_
 rotate_left
 ·intro w'
  go_simp
  with_reducible rfl
 rotate_left
 ·simp only [Act.put,lA,lB,lC,bE,bG]
  rfl
 refine one_ (i:=37) (N:=some 74) #[T1,T1,T1,T1,T1,T1,T1,T1,T1,T1,T1,T1,T1,T1,T1,T1,T1,T1,T1,T1,T1,T1,T1,T1,T1,T1,T1,T1,T1,T1,T1,T1,T1,T1,T1,T1,T1,T1,T1,T1,F0,F0,F0,F0,F0,F0,F0,F0,F0,F0,F0] rfl rfl tG tf (fun K hK=>?_)
 refine goes_ Try.func32 tG rfl #[.agg #[.slice A14_0 s5.length c14_0,.slice A14_1 c5.length c14_1,.int .i64 f5,.bool d5],.int .i64 n5] wN rfl rfl tC ?_
 (with_reducible refine (impl_FallDev.calls _ _ s5 _ _ c5 f5 d5 n5 s8 c8 f8 d8 _ ?s1 ?s2 ?s3 ?s4 Qg.out).mono ?_)
 (case s1=>exact (Kd.bR HF14_0.out))
 (case s2=>exact HC14_0.out)
 (case s3=>exact (Kd.bR HF14_1.out))
 (case s4=>exact HC14_1.out)
 rintro e_ w29 ⟨v0_,v1_,rfl,ho0,ho1,hb⟩
 refine ⟨_,rfl,?_⟩
 obtain ⟨lo29,hi29,el_,eh_,ol_,oh_⟩:=Mem.times HT.out hb
 (try rw [← el_] at ho0)
 obtain ⟨A29_0,c29_0,ev_,hc0_,hf0_⟩:=Mem.new_N (Kd.aV (ok':=fun k_=>lo29 ≤ k_) ho0 vP) eh_
 subst ev_
 (try rw [← el_] at ho1)
 obtain ⟨A29_1,c29_1,ev_,hc1_,hf1_⟩:=Mem.new_N (Kd.aV (ok':=fun k_=>lo29 ≤ k_) ho1 vP) eh_
 subst ev_
 replace HF0:=nF HF0
 replace HF2_0:=nF HF2_0
 replace HF2_1:=nF HF2_1
 replace HF5_0:=nF HF5_0
 replace HF5_1:=nF HF5_1
 replace HF8_0:=nF HF8_0
 replace HF8_1:=nF HF8_1
 replace HF8_2:=nF HF8_2
 replace HS8_2:=aA.mk (Kd.cA HS8_2.out hb)
 replace HF11_0:=nF HF11_0
 replace HF11_1:=nF HF11_1
 replace HF14_0:=nF HF14_0
 replace HF14_1:=nF HF14_1
 replace HF21_0:=nF HF21_0
 replace HS21_0:=aA.mk (Kd.cA HS21_0.out hb)
 replace HF22_0:=nF HF22_0
 replace HS22_0:=aA.mk (Kd.cA HS22_0.out hb)
 replace HF23_0:=nF HF23_0
 replace HF23_1:=nF HF23_1
 replace HF24_0:=nF HF24_0
 replace HF24_1:=nF HF24_1
 replace HF26_0:=nF HF26_0
 replace HF26_1:=nF HF26_1
 replace HF27_0:=nF HF27_0
 replace HF27_1:=nF HF27_1
 replace BK3:=nB BK3
 replace BK6:=nB BK6
 replace BK9:=nB BK9
 replace BK12:=nB BK12
 replace BK15:=nB BK15
 replace HB:=aA.mk (aT HB.out hb)
 replace HF29_0:=aA.mk (hf0_)
 replace HC29_0:=aA.mk (hc0_)
 replace HF29_1:=aA.mk (hf1_)
 replace HC29_1:=aA.mk (hc1_)
 replace HORD:=aA.mk (And.intro HORD.out (And.intro ol_ oh_))
 replace HT:=aA.mk (Nat.le_of_eq eh_)
 clear ol_ oh_ el_ eh_ ho0 hf0_ hc0_ ho1 hf1_ hc1_
 (try clear hb)
 refine hK.out _ _ ⟨(aD BK3.out 0).trans rfl,(aD BK3.out 1).trans rfl,(aD BK3.out 2).trans rfl,(aD BK3.out 3).trans rfl,(aD BK6.out 0).trans rfl,(aD BK6.out 1).trans rfl,(aD BK6.out 2).trans rfl,(aD BK6.out 3).trans rfl,(aD BK9.out 0).trans rfl,(aD BK9.out 1).trans rfl,(aD BK9.out 2).trans rfl,(aD BK9.out 3).trans rfl,(aD BK12.out 0).trans rfl,(aD BK12.out 1).trans rfl,(aD BK12.out 2).trans rfl,(aD BK12.out 3).trans rfl,(aD BK15.out 0).trans rfl,(aD BK15.out 1).trans rfl,(aD BK15.out 2).trans rfl,(aD BK15.out 3).trans rfl,(Kd.bR HF21_0.out),(Kd.bR HF22_0.out)⟩ (fun hHeld=>?_)
 clear hK K
 refine norm_ (a':=?_) ?_ ?_
 rotate_left
 ·show Act.put _ (some 74) _ = _
  simp only [Act.put,lA,lB,lC,bE,bG]
  rfl
 refine one_ (i:=40) (N:=some 77) #[T1,T1,T1,T1,T1,T1,T1,T1,T1,T1,T1,T1,T1,T1,T1,T1,T1,T1,T1,T1,T1,T1,T1,T1,T1,T1,T1,T1,T1,T1,T1,T1,T1,T1,T1,T1,T1,T1,T1,T1,T1,F0,F0,F0,F0,F0,F0,F0,F0,F0,F0] rfl rfl tG tf (fun K hK=>?_)
 refine goes_ Try.func31 tG rfl #[.agg #[.slice A14_0 s5.length c14_0,.slice A14_1 c5.length c14_1,.int .i64 f5,.bool d5],.int .i64 n5] wN rfl rfl tC ?_
 (with_reducible refine (spec_FallDev.calls k_Qh _ _ s5 _ _ c5 f5 d5 n5 s8 c8 f8 d8 _ ?s1 ?s2 ?s3 ?s4 Qh.out).mono ?_)
 (case s1=>exact (Kd.bR HF14_0.out))
 (case s2=>exact HC14_0.out)
 (case s3=>exact (Kd.bR HF14_1.out))
 (case s4=>exact HC14_1.out)
 rintro e_ w30 ⟨v0_,v1_,rfl,ho0,ho1,hb⟩
 refine ⟨_,rfl,?_⟩
 obtain ⟨lo30,hi30,el_,eh_,ol_,oh_⟩:=Mem.times HT.out hb
 (try rw [← el_] at ho0)
 obtain ⟨A30_0,c30_0,ev_,hc0_,hf0_⟩:=Mem.new_N (Kd.aV (ok':=fun k_=>lo30 ≤ k_) ho0 vP) eh_
 subst ev_
 (try rw [← el_] at ho1)
 obtain ⟨A30_1,c30_1,ev_,hc1_,hf1_⟩:=Mem.new_N (Kd.aV (ok':=fun k_=>lo30 ≤ k_) ho1 vP) eh_
 subst ev_
 replace HF0:=nF HF0
 replace HF2_0:=nF HF2_0
 replace HF2_1:=nF HF2_1
 replace HF5_0:=nF HF5_0
 replace HF5_1:=nF HF5_1
 replace HF8_0:=nF HF8_0
 replace HF8_1:=nF HF8_1
 replace HF8_2:=nF HF8_2
 replace HS8_2:=aA.mk (Kd.cA HS8_2.out hb)
 replace HF11_0:=nF HF11_0
 replace HF11_1:=nF HF11_1
 replace HF14_0:=nF HF14_0
 replace HF14_1:=nF HF14_1
 replace HF21_0:=nF HF21_0
 replace HS21_0:=aA.mk (Kd.cA HS21_0.out hb)
 replace HF22_0:=nF HF22_0
 replace HS22_0:=aA.mk (Kd.cA HS22_0.out hb)
 replace HF23_0:=nF HF23_0
 replace HF23_1:=nF HF23_1
 replace HF24_0:=nF HF24_0
 replace HF24_1:=nF HF24_1
 replace HF26_0:=nF HF26_0
 replace HF26_1:=nF HF26_1
 replace HF27_0:=nF HF27_0
 replace HF27_1:=nF HF27_1
 replace HF29_0:=nF HF29_0
 replace HF29_1:=nF HF29_1
 replace BK3:=nB BK3
 replace BK6:=nB BK6
 replace BK9:=nB BK9
 replace BK12:=nB BK12
 replace BK15:=nB BK15
 replace HB:=aA.mk (aT HB.out hb)
 replace HF30_0:=aA.mk (hf0_)
 replace HC30_0:=aA.mk (hc0_)
 replace HF30_1:=aA.mk (hf1_)
 replace HC30_1:=aA.mk (hc1_)
 replace HORD:=aA.mk (And.intro HORD.out (And.intro ol_ oh_))
 replace HT:=aA.mk (Nat.le_of_eq eh_)
 clear ol_ oh_ el_ eh_ ho0 hf0_ hc0_ ho1 hf1_ hc1_
 (try clear hb)
 refine hK.out _ _ ⟨(aD BK3.out 0).trans rfl,(aD BK3.out 1).trans rfl,(aD BK3.out 2).trans rfl,(aD BK3.out 3).trans rfl,(aD BK6.out 0).trans rfl,(aD BK6.out 1).trans rfl,(aD BK6.out 2).trans rfl,(aD BK6.out 3).trans rfl,(aD BK9.out 0).trans rfl,(aD BK9.out 1).trans rfl,(aD BK9.out 2).trans rfl,(aD BK9.out 3).trans rfl,(aD BK12.out 0).trans rfl,(aD BK12.out 1).trans rfl,(aD BK12.out 2).trans rfl,(aD BK12.out 3).trans rfl,(aD BK15.out 0).trans rfl,(aD BK15.out 1).trans rfl,(aD BK15.out 2).trans rfl,(aD BK15.out 3).trans rfl,(Kd.bR HF21_0.out),(Kd.bR HF22_0.out)⟩ (fun hHeld=>?_)
 clear hK K
 refine norm_ (a':=?_) ?_ ?_
 rotate_left
 ·show Act.put _ (some 77) _ = _
  simp only [Act.put,lA,lB,lC,bE,bG]
  rfl
 refine one_ (i:=41) (N:=some 78) #[T1,T1,T1,T1,T1,T1,T1,T1,T1,T1,T1,T1,T1,T1,T1,T1,T1,T1,T1,T1,T1,T1,T1,T1,T1,T1,T1,T1,T1,T1,T1,T1,T1,T1,T1,T1,T1,T1,T1,T1,T1,T1,F0,F0,F0,F0,F0,F0,F0,F0,F0] rfl rfl tG tf (fun K hK=>?_)
 refine goes_ Try.func42 tG rfl #[.agg #[.slice A29_0 s8.length c29_0,.slice A29_1 c8.length c29_1,.int .i64 f8,.bool d8],.agg #[.slice A30_0 s8.length c30_0,.slice A30_1 c8.length c30_1,.int .i64 f8,.bool d8]] wN rfl rfl tC ?_
 (with_reducible refine (laws_sameDev.calls k_S8 _ _ s8 _ _ c8 f8 d8 _ _ s8 _ _ c8 f8 d8 true _ ?s1 ?s2 ?s3 ?s4 ?s5 ?s6 ?s7 ?s8 S8.out).mono ?_)
 (case s1=>exact (Kd.bR HF29_0.out))
 (case s2=>exact HC29_0.out)
 (case s3=>exact (Kd.bR HF29_1.out))
 (case s4=>exact HC29_1.out)
 (case s5=>exact (Kd.bR HF30_0.out))
 (case s6=>exact HC30_0.out)
 (case s7=>exact (Kd.bR HF30_1.out))
 (case s8=>exact HC30_1.out)
 rintro e_ w31 ⟨rfl,hb⟩
 refine ⟨_,rfl,?_⟩
 replace HF0:=nF HF0
 replace HF2_0:=nF HF2_0
 replace HF2_1:=nF HF2_1
 replace HF5_0:=nF HF5_0
 replace HF5_1:=nF HF5_1
 replace HF8_0:=nF HF8_0
 replace HF8_1:=nF HF8_1
 replace HF8_2:=nF HF8_2
 replace HS8_2:=aA.mk (Kd.cA HS8_2.out hb)
 replace HF11_0:=nF HF11_0
 replace HF11_1:=nF HF11_1
 replace HF14_0:=nF HF14_0
 replace HF14_1:=nF HF14_1
 replace HF21_0:=nF HF21_0
 replace HS21_0:=aA.mk (Kd.cA HS21_0.out hb)
 replace HF22_0:=nF HF22_0
 replace HS22_0:=aA.mk (Kd.cA HS22_0.out hb)
 replace HF23_0:=nF HF23_0
 replace HF23_1:=nF HF23_1
 replace HF24_0:=nF HF24_0
 replace HF24_1:=nF HF24_1
 replace HF26_0:=nF HF26_0
 replace HF26_1:=nF HF26_1
 replace HF27_0:=nF HF27_0
 replace HF27_1:=nF HF27_1
 replace HF29_0:=nF HF29_0
 replace HF29_1:=nF HF29_1
 replace HF30_0:=nF HF30_0
 replace HF30_1:=nF HF30_1
 replace BK3:=nB BK3
 replace BK6:=nB BK6
 replace BK9:=nB BK9
 replace BK12:=nB BK12
 replace BK15:=nB BK15
 replace HB:=aA.mk (aT HB.out hb)
 replace HT:=aA.mk (Nat.le_trans HT.out hb.size)
 (try clear hb)
 refine hK.out _ _ ⟨(aD BK3.out 0).trans rfl,(aD BK3.out 1).trans rfl,(aD BK3.out 2).trans rfl,(aD BK3.out 3).trans rfl,(aD BK6.out 0).trans rfl,(aD BK6.out 1).trans rfl,(aD BK6.out 2).trans rfl,(aD BK6.out 3).trans rfl,(aD BK9.out 0).trans rfl,(aD BK9.out 1).trans rfl,(aD BK9.out 2).trans rfl,(aD BK9.out 3).trans rfl,(aD BK12.out 0).trans rfl,(aD BK12.out 1).trans rfl,(aD BK12.out 2).trans rfl,(aD BK12.out 3).trans rfl,(aD BK15.out 0).trans rfl,(aD BK15.out 1).trans rfl,(aD BK15.out 2).trans rfl,(aD BK15.out 3).trans rfl,(Kd.bR HF21_0.out),(Kd.bR HF22_0.out)⟩ (fun hHeld=>?_)
 clear hK K
 refine norm_ (a':=?_) ?_ ?_
 rotate_left
 ·show Act.put _ (some 78) _ = _
  simp only [Act.put,lA,lB,lC,bE,bG]
  rfl
 refine bT (i:=42) (N:=some 79) (v:=?_) (a':=?_) #[T1,T1,T1,T1,T1,T1,T1,T1,T1,T1,T1,T1,T1,T1,T1,T1,T1,T1,T1,T1,T1,T1,T1,T1,T1,T1,T1,T1,T1,T1,T1,T1,T1,T1,T1,T1,T1,T1,T1,T1,T1,T1,T1,F0,F0,F0,F0,F0,F0,F0,F0] rfl rfl tG (fun _ _ _ h=>h) (Or.inl ⟨vr,?_⟩) ?_ ?_
 rotate_left
 ·intro w'
  go_simp
  with_reducible rfl
 rotate_left
 ·simp only [Act.put,lA,lB,lC,bE,bG]
  rfl
 refine bT (i:=43) (N:=some 80) (v:=?_) (a':=?_) #[T1,T1,T1,T1,T1,T1,T1,T1,T1,T1,T1,T1,T1,T1,T1,T1,T1,T1,T1,T1,T1,T1,T1,T1,T1,T1,T1,T1,T1,T1,T1,T1,T1,T1,T1,T1,T1,T1,T1,T1,T1,T1,T1,T1,F0,F0,F0,F0,F0,F0,F0] rfl rfl tG (fun _ _ _ h=>h) (Or.inl ⟨vr,?_⟩) ?_ ?_
 rotate_left
 ·intro w'
  go_simp
  with_reducible rfl
 rotate_left
 ·simp only [Act.put,lA,lB,lC,bE,bG]
  rfl
 refine bT (i:=44) (N:=some 81) (v:=?_) (a':=?_) #[T1,T1,T1,T1,T1,T1,T1,T1,T1,T1,T1,T1,T1,T1,T1,T1,T1,T1,T1,T1,T1,T1,T1,T1,T1,T1,T1,T1,T1,T1,T1,T1,T1,T1,T1,T1,T1,T1,T1,T1,T1,T1,T1,T1,T1,F0,F0,F0,F0,F0,F0] rfl rfl tG (fun _ _ _ h=>h) (Or.inl ⟨vr,?_⟩) ?_ ?_
 rotate_left
 ·intro w'
  go_simp
  with_reducible rfl
 rotate_left
 ·simp only [Act.put,lA,lB,lC,bE,bG]
  rfl
 refine bT (i:=46) (N:=some 83) (v:=?_) (a':=?_) #[T1,T1,T1,T1,T1,T1,T1,T1,T1,T1,T1,T1,T1,T1,T1,T1,T1,T1,T1,T1,T1,T1,T1,T1,T1,T1,T1,T1,T1,T1,T1,T1,T1,T1,T1,T1,T1,T1,T1,T1,T1,T1,T1,T1,T1,F0,T1,F0,F0,F0,F0] rfl rfl tG (fun _ _ _ h=>h) (Or.inl ⟨vr,?_⟩) ?_ ?_
 rotate_left
 ·intro w'
  go_simp
  with_reducible rfl
 rotate_left
 ·simp only [Act.put,lA,lB,lC,bE,bG]
  rfl
 refine one_ (i:=45) (N:=some 82) #[T1,T1,T1,T1,T1,T1,T1,T1,T1,T1,T1,T1,T1,T1,T1,T1,T1,T1,T1,T1,T1,T1,T1,T1,T1,T1,T1,T1,T1,T1,T1,T1,T1,T1,T1,T1,T1,T1,T1,T1,T1,T1,T1,T1,T1,T1,T1,F0,F0,F0,F0] rfl rfl tG tf (fun K hK=>?_)
 refine goes_ Try.func13 tG rfl #[.int .i64 n6] wN rfl rfl tC ?_
 (with_reducible refine (impl_DevNew.calls n6 s9 c9 f9 d9 _ Qi.out).mono ?_)
 rintro e_ w32 ⟨v0_,v1_,rfl,ho0,ho1,hb⟩
 refine ⟨_,rfl,?_⟩
 obtain ⟨lo32,hi32,el_,eh_,ol_,oh_⟩:=Mem.times HT.out hb
 (try rw [← el_] at ho0)
 obtain ⟨A32_0,c32_0,ev_,hc0_,hf0_,hs0_⟩:=Mem.new_S ho0 eh_
 subst ev_
 (try rw [← el_] at ho1)
 obtain ⟨A32_1,c32_1,ev_,hc1_,hf1_,hs1_⟩:=Mem.new_S ho1 eh_
 subst ev_
 replace HF0:=nF HF0
 replace HF2_0:=nF HF2_0
 replace HF2_1:=nF HF2_1
 replace HF5_0:=nF HF5_0
 replace HF5_1:=nF HF5_1
 replace HF8_0:=nF HF8_0
 replace HF8_1:=nF HF8_1
 replace HF8_2:=nF HF8_2
 replace HS8_2:=aA.mk (Kd.cA HS8_2.out hb)
 replace HF11_0:=nF HF11_0
 replace HF11_1:=nF HF11_1
 replace HF14_0:=nF HF14_0
 replace HF14_1:=nF HF14_1
 replace HF21_0:=nF HF21_0
 replace HS21_0:=aA.mk (Kd.cA HS21_0.out hb)
 replace HF22_0:=nF HF22_0
 replace HS22_0:=aA.mk (Kd.cA HS22_0.out hb)
 replace HF23_0:=nF HF23_0
 replace HF23_1:=nF HF23_1
 replace HF24_0:=nF HF24_0
 replace HF24_1:=nF HF24_1
 replace HF26_0:=nF HF26_0
 replace HF26_1:=nF HF26_1
 replace HF27_0:=nF HF27_0
 replace HF27_1:=nF HF27_1
 replace HF29_0:=nF HF29_0
 replace HF29_1:=nF HF29_1
 replace HF30_0:=nF HF30_0
 replace HF30_1:=nF HF30_1
 replace BK3:=nB BK3
 replace BK6:=nB BK6
 replace BK9:=nB BK9
 replace BK12:=nB BK12
 replace BK15:=nB BK15
 replace HB:=aA.mk (aT HB.out hb)
 replace HF32_0:=aA.mk (hf0_)
 replace HC32_0:=aA.mk (hc0_)
 replace HS32_0:=aA.mk (hs0_)
 replace HF32_1:=aA.mk (hf1_)
 replace HC32_1:=aA.mk (hc1_)
 replace HS32_1:=aA.mk (hs1_)
 replace HORD:=aA.mk (And.intro HORD.out (And.intro ol_ oh_))
 replace HT:=aA.mk (Nat.le_of_eq eh_)
 clear ol_ oh_ el_ eh_ ho0 hf0_ hc0_ hs0_ ho1 hf1_ hc1_ hs1_
 (try clear hb)
 refine hK.out _ _ ⟨(aD BK3.out 0).trans rfl,(aD BK3.out 1).trans rfl,(aD BK3.out 2).trans rfl,(aD BK3.out 3).trans rfl,(aD BK6.out 0).trans rfl,(aD BK6.out 1).trans rfl,(aD BK6.out 2).trans rfl,(aD BK6.out 3).trans rfl,(aD BK9.out 0).trans rfl,(aD BK9.out 1).trans rfl,(aD BK9.out 2).trans rfl,(aD BK9.out 3).trans rfl,(aD BK12.out 0).trans rfl,(aD BK12.out 1).trans rfl,(aD BK12.out 2).trans rfl,(aD BK12.out 3).trans rfl,(aD BK15.out 0).trans rfl,(aD BK15.out 1).trans rfl,(aD BK15.out 2).trans rfl,(aD BK15.out 3).trans rfl,(Kd.bR HF21_0.out),(Kd.bR HF22_0.out)⟩ (fun hHeld=>?_)
 clear hK K
 refine norm_ (a':=?_) ?_ ?_
 rotate_left
 ·show Act.put _ (some 82) _ = _
  simp only [Act.put,lA,lB,lC,bE,bG]
  rfl
 refine one_ (i:=47) (N:=some 84) #[T1,T1,T1,T1,T1,T1,T1,T1,T1,T1,T1,T1,T1,T1,T1,T1,T1,T1,T1,T1,T1,T1,T1,T1,T1,T1,T1,T1,T1,T1,T1,T1,T1,T1,T1,T1,T1,T1,T1,T1,T1,T1,T1,T1,T1,T1,T1,T1,F0,F0,F0] rfl rfl tG tf (fun K hK=>?_)
 refine goes_ Try.func12 tG rfl #[.int .i64 n6] wN rfl rfl tC ?_
 (with_reducible refine (spec_DevNew.calls k_Qj n6 s9 c9 f9 d9 _ Qj.out).mono ?_)
 rintro e_ w33 ⟨v0_,v1_,rfl,ho0,ho1,hb⟩
 refine ⟨_,rfl,?_⟩
 obtain ⟨lo33,hi33,el_,eh_,ol_,oh_⟩:=Mem.times HT.out hb
 (try rw [← el_] at ho0)
 obtain ⟨A33_0,c33_0,ev_,hc0_,hf0_,hs0_⟩:=Mem.new_S ho0 eh_
 subst ev_
 (try rw [← el_] at ho1)
 obtain ⟨A33_1,c33_1,ev_,hc1_,hf1_,hs1_⟩:=Mem.new_S ho1 eh_
 subst ev_
 replace HF0:=nF HF0
 replace HF2_0:=nF HF2_0
 replace HF2_1:=nF HF2_1
 replace HF5_0:=nF HF5_0
 replace HF5_1:=nF HF5_1
 replace HF8_0:=nF HF8_0
 replace HF8_1:=nF HF8_1
 replace HF8_2:=nF HF8_2
 replace HS8_2:=aA.mk (Kd.cA HS8_2.out hb)
 replace HF11_0:=nF HF11_0
 replace HF11_1:=nF HF11_1
 replace HF14_0:=nF HF14_0
 replace HF14_1:=nF HF14_1
 replace HF21_0:=nF HF21_0
 replace HS21_0:=aA.mk (Kd.cA HS21_0.out hb)
 replace HF22_0:=nF HF22_0
 replace HS22_0:=aA.mk (Kd.cA HS22_0.out hb)
 replace HF23_0:=nF HF23_0
 replace HF23_1:=nF HF23_1
 replace HF24_0:=nF HF24_0
 replace HF24_1:=nF HF24_1
 replace HF26_0:=nF HF26_0
 replace HF26_1:=nF HF26_1
 replace HF27_0:=nF HF27_0
 replace HF27_1:=nF HF27_1
 replace HF29_0:=nF HF29_0
 replace HF29_1:=nF HF29_1
 replace HF30_0:=nF HF30_0
 replace HF30_1:=nF HF30_1
 replace HF32_0:=nF HF32_0
 replace HS32_0:=nS HS32_0
 replace HF32_1:=nF HF32_1
 replace HS32_1:=nS HS32_1
 replace BK3:=nB BK3
 replace BK6:=nB BK6
 replace BK9:=nB BK9
 replace BK12:=nB BK12
 replace BK15:=nB BK15
 replace HB:=aA.mk (aT HB.out hb)
 replace HF33_0:=aA.mk (hf0_)
 replace HC33_0:=aA.mk (hc0_)
 replace HS33_0:=aA.mk (hs0_)
 replace HF33_1:=aA.mk (hf1_)
 replace HC33_1:=aA.mk (hc1_)
 replace HS33_1:=aA.mk (hs1_)
 replace HORD:=aA.mk (And.intro HORD.out (And.intro ol_ oh_))
 replace HT:=aA.mk (Nat.le_of_eq eh_)
 clear ol_ oh_ el_ eh_ ho0 hf0_ hc0_ hs0_ ho1 hf1_ hc1_ hs1_
 (try clear hb)
 refine hK.out _ _ ⟨(aD BK3.out 0).trans rfl,(aD BK3.out 1).trans rfl,(aD BK3.out 2).trans rfl,(aD BK3.out 3).trans rfl,(aD BK6.out 0).trans rfl,(aD BK6.out 1).trans rfl,(aD BK6.out 2).trans rfl,(aD BK6.out 3).trans rfl,(aD BK9.out 0).trans rfl,(aD BK9.out 1).trans rfl,(aD BK9.out 2).trans rfl,(aD BK9.out 3).trans rfl,(aD BK12.out 0).trans rfl,(aD BK12.out 1).trans rfl,(aD BK12.out 2).trans rfl,(aD BK12.out 3).trans rfl,(aD BK15.out 0).trans rfl,(aD BK15.out 1).trans rfl,(aD BK15.out 2).trans rfl,(aD BK15.out 3).trans rfl,(Kd.bR HF21_0.out),(Kd.bR HF22_0.out)⟩ (fun hHeld=>?_)
 clear hK K
 refine norm_ (a':=?_) ?_ ?_
 rotate_left
 ·show Act.put _ (some 84) _ = _
  simp only [Act.put,lA,lB,lC,bE,bG]
  rfl
 refine one_ (i:=48) (N:=some 85) #[T1,T1,T1,T1,T1,T1,T1,T1,T1,T1,T1,T1,T1,T1,T1,T1,T1,T1,T1,T1,T1,T1,T1,T1,T1,T1,T1,T1,T1,T1,T1,T1,T1,T1,T1,T1,T1,T1,T1,T1,T1,T1,T1,T1,T1,T1,T1,T1,T1,F0,F0] rfl rfl tG tf (fun K hK=>?_)
 refine goes_ Try.func42 tG rfl #[.agg #[.slice A32_0 s9.length c32_0,.slice A32_1 c9.length c32_1,.int .i64 f9,.bool d9],.agg #[.slice A33_0 s9.length c33_0,.slice A33_1 c9.length c33_1,.int .i64 f9,.bool d9]] wN rfl rfl tC ?_
 (with_reducible refine (laws_sameDev.calls k_S9 _ _ s9 _ _ c9 f9 d9 _ _ s9 _ _ c9 f9 d9 true _ ?s1 ?s2 ?s3 ?s4 ?s5 ?s6 ?s7 ?s8 S9.out).mono ?_)
 (case s1=>exact (Kd.bR HF32_0.out))
 (case s2=>exact HC32_0.out)
 (case s3=>exact (Kd.bR HF32_1.out))
 (case s4=>exact HC32_1.out)
 (case s5=>exact (Kd.bR HF33_0.out))
 (case s6=>exact HC33_0.out)
 (case s7=>exact (Kd.bR HF33_1.out))
 (case s8=>exact HC33_1.out)
 rintro e_ w34 ⟨rfl,hb⟩
 refine ⟨_,rfl,?_⟩
 replace HF0:=nF HF0
 replace HF2_0:=nF HF2_0
 replace HF2_1:=nF HF2_1
 replace HF5_0:=nF HF5_0
 replace HF5_1:=nF HF5_1
 replace HF8_0:=nF HF8_0
 replace HF8_1:=nF HF8_1
 replace HF8_2:=nF HF8_2
 replace HS8_2:=aA.mk (Kd.cA HS8_2.out hb)
 replace HF11_0:=nF HF11_0
 replace HF11_1:=nF HF11_1
 replace HF14_0:=nF HF14_0
 replace HF14_1:=nF HF14_1
 replace HF21_0:=nF HF21_0
 replace HS21_0:=aA.mk (Kd.cA HS21_0.out hb)
 replace HF22_0:=nF HF22_0
 replace HS22_0:=aA.mk (Kd.cA HS22_0.out hb)
 replace HF23_0:=nF HF23_0
 replace HF23_1:=nF HF23_1
 replace HF24_0:=nF HF24_0
 replace HF24_1:=nF HF24_1
 replace HF26_0:=nF HF26_0
 replace HF26_1:=nF HF26_1
 replace HF27_0:=nF HF27_0
 replace HF27_1:=nF HF27_1
 replace HF29_0:=nF HF29_0
 replace HF29_1:=nF HF29_1
 replace HF30_0:=nF HF30_0
 replace HF30_1:=nF HF30_1
 replace HF32_0:=nF HF32_0
 replace HS32_0:=nS HS32_0
 replace HF32_1:=nF HF32_1
 replace HS32_1:=nS HS32_1
 replace HF33_0:=nF HF33_0
 replace HS33_0:=nS HS33_0
 replace HF33_1:=nF HF33_1
 replace HS33_1:=nS HS33_1
 replace BK3:=nB BK3
 replace BK6:=nB BK6
 replace BK9:=nB BK9
 replace BK12:=nB BK12
 replace BK15:=nB BK15
 replace HB:=aA.mk (aT HB.out hb)
 replace HT:=aA.mk (Nat.le_trans HT.out hb.size)
 (try clear hb)
 refine hK.out _ _ ⟨(aD BK3.out 0).trans rfl,(aD BK3.out 1).trans rfl,(aD BK3.out 2).trans rfl,(aD BK3.out 3).trans rfl,(aD BK6.out 0).trans rfl,(aD BK6.out 1).trans rfl,(aD BK6.out 2).trans rfl,(aD BK6.out 3).trans rfl,(aD BK9.out 0).trans rfl,(aD BK9.out 1).trans rfl,(aD BK9.out 2).trans rfl,(aD BK9.out 3).trans rfl,(aD BK12.out 0).trans rfl,(aD BK12.out 1).trans rfl,(aD BK12.out 2).trans rfl,(aD BK12.out 3).trans rfl,(aD BK15.out 0).trans rfl,(aD BK15.out 1).trans rfl,(aD BK15.out 2).trans rfl,(aD BK15.out 3).trans rfl,(Kd.bR HF21_0.out),(Kd.bR HF22_0.out)⟩ (fun hHeld=>?_)
 clear hK K
 refine norm_ (a':=?_) ?_ ?_
 rotate_left
 ·show Act.put _ (some 85) _ = _
  simp only [Act.put,lA,lB,lC,bE,bG]
  rfl
 refine bT (i:=49) (N:=some 86) (v:=?_) (a':=?_) #[T1,T1,T1,T1,T1,T1,T1,T1,T1,T1,T1,T1,T1,T1,T1,T1,T1,T1,T1,T1,T1,T1,T1,T1,T1,T1,T1,T1,T1,T1,T1,T1,T1,T1,T1,T1,T1,T1,T1,T1,T1,T1,T1,T1,T1,T1,T1,T1,T1,T1,F0] rfl rfl tG (fun _ _ _ h=>h) (Or.inl ⟨vr,?_⟩) ?_ ?_
 rotate_left
 ·intro w'
  go_simp
  with_reducible rfl
 rotate_left
 ·simp only [Act.put,lA,lB,lC,bE,bG]
  rfl
 refine bT (i:=50) (N:=some 2) (v:=?_) (a':=?_) #[T1,T1,T1,T1,T1,T1,T1,T1,T1,T1,T1,T1,T1,T1,T1,T1,T1,T1,T1,T1,T1,T1,T1,T1,T1,T1,T1,T1,T1,T1,T1,T1,T1,T1,T1,T1,T1,T1,T1,T1,T1,T1,T1,T1,T1,T1,T1,T1,T1,T1,T1] rfl rfl tG (fun _ _ _ h=>h) (Or.inl ⟨vr,?_⟩) ?_ ?_
 rotate_left
 ·intro w'
  go_simp
  with_reducible rfl
 rotate_left
 ·simp only [Act.put,lA,lB,lC,bE,bG]
  rfl
 refine done_ tG ?_
 have:=bs4 BK3.out
 have:=bs4 BK6.out
 have:=bs4 BK9.out
 have:=bs4 BK12.out
 have:=bs4 BK15.out
 try go_wp2
 have hres_:=@results_tmp Try.f11 2 tG
 refine bodyPost_ret (fn:=Try.f11) (P:=Try.prog) (hres_ _ _ _) rfl ?_
 exact ⟨rfl,HB.out⟩
theorem okDev_E {s:List (List Int)} {c:List S50} (h:okE s c):okDevB s c = true:=by
 have hb:=okE_bulk h
 unfold okDevB
 simp only [Bool.and_eq_true,decide_eq_true_eq]
 omega
theorem laws_FnDevsBent.calls (A0:Option Addr) (c0:Nat) (l0:List (Int)) (w:World) (hr0:Kd.C (Kd.int .u8) w A0 l0.length l0) (hc0:l0.length ≤ c0) (h0:l0.length ≤ 9223372036854775807 ∧ ∀ x ∈ l0,(Lit.int .u8 x).wf = true) :
  Calls Try.prog 11 #[.slice A0 l0.length c0] w fun e w'=>e = .returned (.bool true) ∧ Below w.heap.size w w':=by
 have hf:=C_F (Kd.heap_int _) hr0
 have hB:bytesIn l0:=fun x hx=>wf_u8 (h0.2 x hx)
 by_cases hbig:(l0.length:Int) > 1048576
 ·exact walkFnDevsBentbig _ _ _ [] [] [] [] [] [] [] [] [] [] [] [] [] [] [] [] [] [] 0 0 0 0 0 0 0 0 0 0 0 0 0 false false false false false false false false false false [] [] w hf hc0 (by simp only [laws_big.f,decide_eq_true hbig])
 have hl:l0.length ≤ 1048576:=by omega
 obtain ⟨s1,c1,f1,d1,h1,E2⟩:=DrawDevOk_ex l0 hB hl
 obtain ⟨s2,c2,f2,d2,n2,h2,E3⟩:=DrawReadSec_ex l0 hB hl
 obtain ⟨s3,c3,f3,d3,n3,y3,⟨h3,hy3⟩,E4⟩:=DrawWriteSec_ex l0 hB hl
 obtain ⟨s4,c4,f4,d4,h4,E5⟩:=DrawFlushDev_ex l0 hB hl
 obtain ⟨s5,c5,f5,d5,n5,h5,E6⟩:=DrawFallDev_ex l0 hB hl
 obtain ⟨n6,E7⟩:=DrawDevNew_ex l0 hB hl
 obtain ⟨_,A2⟩:=evGet E2
 obtain ⟨_,A3⟩:=evGet E3
 obtain ⟨_,A4⟩:=evGet E4
 obtain ⟨_,A5⟩:=evGet E5
 obtain ⟨_,A6⟩:=evGet E6
 obtain ⟨_,A7⟩:=evGet E7
 have b1:=okE_bulk h1
 have b2:=okE_bulk h2
 have b3:=okE_bulk h3
 have b4:=okE_bulk h4
 have b5:=okE_bulk h5
 have o1:okByteSS s1 ∧ okWrS c1:=by unfold okByteSS okWrS;omega
 have o2:okByteSS s2 ∧ okWrS c2:=by unfold okByteSS okWrS;omega
 have o3:okByteSS s3 ∧ okWrS c3:=by unfold okByteSS okWrS;omega
 have o4:okByteSS s4 ∧ okWrS c4:=by unfold okByteSS okWrS;omega
 have o5:okByteSS s5 ∧ okWrS c5:=by unfold okByteSS okWrS;omega
 obtain ⟨_,A8⟩:=evGet (impl_DevOk_ev s1 c1 f1 d1 o1.1 o1.2)
 obtain ⟨_,A9⟩:=evGet (spec_DevOk_ev s1 c1 f1 d1 o1.1 o1.2)
 obtain ⟨_,Aa⟩:=evGet (impl_ReadSec_ev s2 c2 f2 d2 n2 o2.1 o2.2)
 obtain ⟨_,Ab⟩:=evGet (spec_ReadSec_ev s2 c2 f2 d2 n2 o2.1 o2.2)
 have Ac:impl_WriteSec.f s3 c3 f3 d3 n3 y3 = some (writeSec s3 c3 f3 d3 n3 y3):=by
  unfold impl_WriteSec.f impl_WriteSecS.f
  rw [if_pos (okDev_E h3)]
 have Ad:spec_WriteSec.f s3 c3 f3 d3 n3 y3 = some (writeSec s3 c3 f3 d3 n3 y3):=by
  unfold spec_WriteSec.f
  rw [if_pos (okDev_E h3)]
 have Ae:impl_FlushDev.f s4 c4 f4 d4 = some (flushDev s4 c4 f4 d4):=by
  unfold impl_FlushDev.f impl_FlushDevS.f
  rw [if_pos (okDev_E h4)]
 have Af:spec_FlushDev.f s4 c4 f4 d4 = some (flushDev s4 c4 f4 d4):=by
  unfold spec_FlushDev.f
  rw [if_pos (okDev_E h4)]
 have Ag:impl_FallDev.f s5 c5 f5 d5 n5 = some (fallDev s5 c5 f5 d5 n5):=by
  unfold impl_FallDev.f impl_FallDevS.f
  rw [if_pos (okDev_E h5)]
 obtain ⟨_,Ah⟩:=evGet (spec_FallDev_ev s5 c5 f5 d5 n5 o5.1 o5.2)
 obtain ⟨_,Ai⟩:=evGet (impl_DevNew_ev n6)
 obtain ⟨_,Aj⟩:=evGet (spec_DevNew_ev n6)
 have u6:=writeSec_ok1 (s:=s3) (c:=c3) f3 d3 n3 y3 o3.1
 have v6:=writeSec_ok2 (s:=s3) (c:=c3) f3 d3 n3 y3 tZ
 have u7:=flushDev_ok1 (s:=s4) (c:=c4) f4 d4 tZ
 have v7:=flushDev_ok2 (s:=s4) (c:=c4) f4 d4 o4.2
 have u8:=fallDev_ok1 (s:=s5) (c:=c5) f5 d5 n5 tZ
 have v8:=fallDev_ok2 (s:=s5) (c:=c5) f5 d5 n5 o5.2
 have u9:=okByteSS_devNew n6
 have v9:=okWrS_devNew n6
 generalize writeSec s3 c3 f3 d3 n3 y3 = v at *
 generalize flushDev s4 c4 f4 d4 = x at *
 generalize fallDev s5 c5 f5 d5 n5 = y at *
 generalize devNew n6 = z at *
 obtain ⟨s6,c6,f6,d6⟩:=v
 obtain ⟨s7,c7,f7,d7⟩:=x
 obtain ⟨s8,c8,f8,d8⟩:=y
 obtain ⟨s9,c9,f9,d9⟩:=z
 simp only at u6 v6 u7 v7 u8 v8 u9 v9
 obtain ⟨_,S6⟩:=evGet (sameDev_ev s6 c6 f6 d6 (okByteSS_len u6) (okWrS_len v6))
 obtain ⟨_,S7⟩:=evGet (sameDev_ev s7 c7 f7 d7 (okByteSS_len u7) (okWrS_len v7))
 obtain ⟨_,S8⟩:=evGet (sameDev_ev s8 c8 f8 d8 (okByteSS_len u8) (okWrS_len v8))
 obtain ⟨_,S9⟩:=evGet (sameDev_ev s9 c9 f9 d9 (okByteSS_len u9) (okWrS_len v9))
 exact walkFnDevsBent _ _ _ s1 s2 s3 s4 s5 s6 s7 s8 s9 c1 c2 c3 c4 c5 c6 c7 c8 c9 f1 f2 f3 f4 f5 f6 f7 f8 f9 n2 n3 n5 n6 d1 d2 d3 d4 d5 d6 d7 d8 d9 _ _ y3 _ _ _ _ _ _ _ _ _ _ _ _ _ _ _ _ w hf hc0
  (by simp only [laws_big.f,decide_eq_false hbig]) A2 A3 A4 A5 A6 A7 A8 A9 Aa Ab Ac Ad Ae Af Ag Ah Ai Aj S6 S7 S8 S9
end Go.Proofs.Ytilhcaofpfeioaa.Law

namespace Go.Proofs.Ytilhcaofpfeioaa.Op
open Go.RowKit Go.ChangeShapes Go.WideShapes Go.Proofs.YtilhcaofpfeioaaW.PrintWords
def Opens {α:Type} (P:Program) (t:TypeId) (d:Kd α) (g:α → Prop):Prop :=
 ∀ {H:Type} {enc:TypeId × Value → H} {w:World} {base:Nat} {spare:Nat → Bool} {held:Bool} {fuel:Nat} {cs:List Value} {x:DataW H × List MemPlace},
  DataW.trod enc P w base spare held fuel t cs = some x → ∃ a,d.K w a cs ∧ g a
theorem opens_int {P:Program} {t:TypeId} {k:IntKind} (ht:P.underlying t = some (.int k)):Opens P t (Kd.int k) (fun n=>(Lit.int k n).wf = true):=by
 intro H enc w base spare held fuel cs x h
 obtain ⟨n,rfl,_,hw⟩:=DataW.trod_int ht h
 exact ⟨n,rfl,hw⟩
theorem opens_slice {α:Type} {P:Program} {t e:TypeId} {d:Kd α} {g:α → Prop} (q:Nat) (ht:P.underlying t = some (.slice e)) (hd:Opens P e d g) (hc:P.cellsOf e = d.sz) :
  Opens P t (Kd.slice q d) (fun xs=>xs.length ≤ 9223372036854775807 ∧ ∀ x ∈ xs,g x):=by
 intro H enc w base spare held fuel cs x h
 rcases DataW.trod_slice ht h with ⟨rfl,_⟩|⟨a,len,cap,elems,rest,n,_,rfl,_,_,hl,hm,hlen,hel,_,_⟩
 ·exact ⟨[],⟨none,0,rfl,Nat.le_refl _,rfl,Nat.zero_le _,fun h=>by cases h⟩,by simp,by simp⟩
 ·have each:∀ i:Fin len,∃ y:α,g y ∧ ∃ c:List Value,c.length = d.sz ∧ d.K w y c ∧ ∀ j u,c[j]? = some u → w.cell? (a.add (i.val * d.sz + j)) = some u:=by
   intro i
   have h1:=hel i.val i.isLt
   rw [List.getElem?_eq_getElem tZ,Option.bind_eq_some_iff] at h1
   obtain ⟨c,hcs,hy⟩:=h1
   obtain ⟨_,hcl,hcell⟩:=World.cells?_some hcs
   obtain ⟨y,hK,hg⟩:=hd hy
   refine ⟨y,hg,c,by rw [hcl,hc],hK,fun j u hu=>?_⟩
   have hj:j < c.length:=(List.getElem?_eq_some_iff.1 hu).1
   have h2:=hcell j tZ
   rw [hu] at h2
   rw [← h2,hc]
   congr 1
   exact (Addr.add_add a _ _).symm
  obtain ⟨f,hf⟩:=Classical.axiomOfChoice each
  refine ⟨List.ofFn f,⟨some a,cap,by rw [List.length_ofFn],by rw [List.length_ofFn];exact hl,by rw [List.length_ofFn],by rw [List.length_ofFn];unfold maxLen at hm;omega,fun _=>⟨a,rfl,fun j p hp=>?_⟩⟩,by rw [List.length_ofFn];unfold maxLen at hm;omega,fun x hx=>?_⟩
  ·rw [List.getElem?_ofFn] at hp
   split at hp
   ·rename_i hj
    obtain rfl:=Option.some.inj hp
    obtain ⟨_,c,h1,h2,h3⟩:=hf ⟨j,hj⟩
    exact ⟨c,h1,h2,h3⟩
   ·cases hp
  ·obtain ⟨i,rfl⟩:=List.mem_ofFn.1 hx
   exact (hf i).1
/-- The fields from one offset on. -/
def OpensL {α:Type} (P:Program) (fs:List Field) (off:Nat) (d:Kd α) (g:α → Prop):Prop :=
 ∀ {H:Type} {enc:TypeId × Value → H} {w:World} {base:Nat} {spare:Nat → Bool} {held:Bool} {fuel:Nat} {cs:List Value},
  (∀ f ∈ fs,∃ x,DataW.trod enc P w base spare held fuel f.type ((cs.drop f.offset).take (P.cellsOf f.type)) = some x) → ∃ a,d.K w a ((cs.drop off).take d.sz) ∧ g a
end Go.Proofs.Ytilhcaofpfeioaa.Op

namespace Go.Proofs.Ytilhcaofpfeioaa.rowFnDevsBent
open Go.ChangeShapes Go.WideShapes Go.ChangeAt Go.RowKit
open Go.ChangeMaps (open_string shut_string)
open Go.Proofs.YtilhcaofpfeioaaW.PrintWords Go.Proofs.Ytilhcaofpfeioaa.Op Go.Proofs.Ytilhcaofpfeioaa.PFnDevsBent Go.Proofs.Ytilhcaofpfeioaa.Law
set_option linter.unusedVariables false
set_option linter.unusedSimpArgs false
theorem own:ownKnob Try.prog.godebug = none:=by kernel_rfl
theorem laidOut:laidOutB Try.prog = true:=by kernel_rfl
set_option maxRecDepth 100000 in
theorem lifted (os:Os) (started:os.Started) (H:Type) (enc:TypeId × Value → H) :
  ReturnsInHanded {} Try.checked os 11 .any (Rows.fnDevsBentSpec.pre6 enc Try.prog Try.f11 Rows.fnDevsBentRow.domain false) (Rows.fnDevsBentSpec.post enc Try.prog Try.f11 false true false false):=by
 refine returnsInHanded_of_change_sized (C:=Try.checked) own started tG Try.func11
  (ChangeSpec.witness6 (enc:=enc) (C:=Try.checked) false ⟨#[],#[.slice none 0 0],[]⟩ 8 tG tG tG tG) ?_
 intro W base args ds gs before hval0 hW hcnd hsz0 _
 have hval:∀ (j:Nat) t v,Try.f11.params[j]? = some t → args[j]? = some v → Value.okWide Try.prog W .any base t v:=hval0
 have hW':=hW
 obtain ⟨p,q,hA0,hV,rfl,hfz,hnd⟩:=hW
 have hA:DataW.TrodAll enc Try.prog W 0 (fun _=>true) true Try.f11.params.toList args.toList ds p:=hA0
 rw [Try.params11] at hA hval
 obtain ⟨v0,vs0,d0,ds0,p0,q0,hargs,rfl,rfl,h0,r0⟩:=trodAll_cons hA
 obtain ⟨rfl,rfl,rfl⟩:=trodAll_nil r0
 obtain rfl:args = #[v0]:=by cases args;simp_all
 obtain ⟨rfl,rfl⟩:=trodVars_none hV
 have k0:=h0
 have lt0:∀ x ∈ p0,x.block < W.heap.size:=by obtain ⟨m,hm⟩:=k0;exact DataW.trod_lt m _ _ _ hm
 obtain ⟨fuel0,hf0⟩:=h0
 obtain ⟨b0,len0,cap0,rfl⟩:=okWide_slice Try.underlying37 (hval 0 37 v0 rfl rfl)
 obtain ⟨l0,⟨A0,c0,e0,hc0,hC0⟩,g0⟩:=(opens_slice 5 Try.underlying37 (opens_int Try.underlying5) tG) hf0
 simp only [Value.cells,List.cons.injEq,Value.slice.injEq,and_true] at e0
 obtain ⟨rfl,rfl,rfl⟩:=e0
 clear hA0 hval0 hsz0
 refine (laws_FnDevsBent.calls _ _ _ W hC0 hc0 g0).mono fun e W' ⟨he,bel0⟩=>?_
 have bel:Below W.heap.size W W':=by first|exact bel0|exact bel0.below
 subst he
 exact ⟨_,rfl,_,_,_,[],_,[],hW',trodAll_mk1 (shut_bool Try.underlying4 _),(trodAll_cons_mk (Below.trod laidOut tG (lE tG) k0 bel lt0) trodAll_mk0),rfl,bel.frame _,fun h=>by cases h⟩
theorem over:Rows.fnDevsBentRow.holds Try.pinned (OpenSpec.ofChange Rows.fnDevsBentSpec) :=
 OpenClaim.holds_of_wide 11 Try.f11 rfl rfl rfl rfl rfl rfl rfl ⟨rfl,rfl,rfl,rfl,rfl⟩ rfl rfl rfl rfl rfl tG Try.func11 tG
  (lE tG) (by unfold Func.isWrapper;first|(rw [if_pos (by decide +kernel)];kernel_rfl)|(rw [if_neg (by decide +kernel)];exact ⟨rfl,rfl⟩))
  (fun os started H enc _=>lifted os started H enc)
theorem proved:Rows.FnDevsBentSaid:=over
#print axioms proved
end Go.Proofs.Ytilhcaofpfeioaa.rowFnDevsBent
namespace Go.Proofs.Ytilhcaofpfeioaa
theorem fnDevsBent_holds:Rows.FnDevsBentSaid:=rowFnDevsBent.proved
end Go.Proofs.Ytilhcaofpfeioaa
