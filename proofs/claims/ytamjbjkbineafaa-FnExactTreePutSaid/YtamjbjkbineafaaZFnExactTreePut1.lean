/- The law: the functions that it reaches, each with the proof that the machine's call comes to its answer, what they answer, and the law's row; each theorem says its conditions itself. -/
import Derived.Test.YtamjbjkbineafaaZFnExactTreePut0
import Derived.IntWalk
import Derived.Laws.BitsLemmas
import Derived.Test.YtamjbjkbineafaaProg
import Derived.Below
import Derived.Deep.AppendLies
import Derived.Maps.AppendAt
import Derived.OwnWalk
import Derived.Tactics
import Derived.WalkKit
import Derived.KernelRfl
import Derived.Orders
import Derived.Deep.MidRow
import Derived.Laws.IdiomCopy
namespace Go.Proofs.Ytamjbjkbineafaa.PFnExactTreePut
open Go.RowKit Go.Proofs.YtamjbjkbineafaaW.PrintWords Go.Proofs.YtamjbjkbineafaaW.PrintLast Go.Proofs.YtamjbjkbineafaaW.PrintMore
attribute [local go_sem] max2_int min2_int max_two min_two max_three min_three max_four min_four   -- for this text's walks alone
set_option linter.unusedVariables false
set_option linter.unusedSimpArgs false
def laws_heldNodeS.l0:Nat → List (S59) → Int → Int → Option (Int)
 | 0,_,_,_=>none
 | k + 1,x0,x1,x5=>if x5 < (x0.length:Int) then (if 0 ≤ x5 then ((laws_heldKeySS.f k ((rd_T59 x0 x5).f0) x1).bind fun t199=>(if t199 < 0 then (some (-1)) else (laws_heldNodeS.l0 k x0 t199 (wrap64 (x5 + 1))))) else (none)) else (some x1)
def laws_heldNodeS.f (k:Nat) (l0:List (S59)) (a1:Int):Option (Int):=laws_heldNodeS.l0 k l0 a1 0
set_option maxHeartbeats 8000000 in
set_option maxRecDepth 100000 in
theorem laws_heldNodeS.calls (k:Nat) (A0:Option Addr) (c0:Nat) (l0:List (S59)) (a1:Int) (r:Int) (w:World) (hr0:Kd.C k59 w A0 l0.length l0) (hc0:l0.length ≤ c0) (h:laws_heldNodeS.f k l0 a1 = some r) :
  Calls Try.prog 39 #[.slice A0 l0.length c0,.int .i64 a1] w fun e w'=>e = .returned (.int .i64 r) ∧ aU w w':=by
 have HR0:=aA.mk hr0
 have HC0:=aA.mk hc0
 clear hr0 hc0
 have H:(laws_heldNodeS.l0 k l0 a1 0) = some r:=h
 clear h
 have H':=aA.mk H
 clear H
 go_enter Try.func39,Try.ntmps39
 go_wp2
 go_loopg [1,5] k (fun kq v1 v5 w'=>∃ (x1_1:Int) (x5_1:Int),v1 = .int .i64 x1_1 ∧ v5 = .int .i64 x5_1 ∧ aA (laws_heldNodeS.l0 kq l0 x1_1 x5_1 = some r) ∧ aA (kq ≤ k) ∧ aU w w')
 case atStart=>exact ⟨(a1),(0),tK,tK,H',⟨Nat.le_refl _⟩,t7⟩
 case round =>
  clear H'
  try clear p2
  obtain ⟨x1_1,x5_1,rfl,rfl,HA,HK1,⟨m1,rfl⟩⟩:=hrel
  cases gk with
  | zero=>exact absurd HA.out (by simp [laws_heldNodeS.l0])
  | succ k1 =>
   have H:=HA.out
   clear HA
   simp only [laws_heldNodeS.l0] at H
   by_cases c3:x5_1 < (l0.length:Int)
   ·rw [if_pos c3] at H
    have c3b0:decide (x5_1 < (l0.length:Int)) = true:=decide_eq_true c3
    clear c3
    by_cases c4:0 ≤ x5_1
    ·rw [if_pos c4] at H
     have c4b0:decide (0 ≤ x5_1) = true:=decide_eq_true c4
     clear c4
     replace H:=lF H
     obtain ⟨t199,A50,H⟩:=H
     replace H:(if t199 < 0 then (some (-1)) else (laws_heldNodeS.l0 k1 l0 t199 (wrap64 (x5_1 + 1)))) = some r:=H
     have A5:=aA.mk A50
     clear A50
     by_cases c6:t199 < 0
     ·rw [if_pos c6] at H
      have c6b0:decide (t199 < 0) = true:=decide_eq_true c6
      clear c6
      obtain rfl:=Option.some.inj H
      have p198:0 ≤ (x5_1:Int):=lE tC
      have q198:x5_1 < (l0.length:Int):=lE tC
      obtain ⟨ad198,A198_0,c198_0,e198,hx198_0,hl198_0,hi198_0⟩:=at_T59 HR0.out x5_1 p198 q198
      cases e198
      have HR198_0:=aA.mk hi198_0
      have HC198_0:=aA.mk hl198_0
      clear hi198_0 hl198_0
      replace p198:=eq_true p198
      replace q198:=eq_true q198
      go_wp2_with (first|((with_reducible refine aT (f:=73) rfl ?_);refine goesL_ (some 18) rfl rfl Try.func73 tF rfl #[.slice A198_0 ((rd_T59 l0 x5_1).f0).length c198_0,.int .i64 x1_1] rfl tA ?_;(with_reducible refine (laws_heldKeySS.calls k1 _ _ ((rd_T59 l0 x5_1).f0) x1_1 t199 _ ?side1 ?side2 A5.out).mono ?_);(case side1=>repeat (first|exact HR198_0.out|(with_reducible refine Kd.C_alloc ?_ _)|(with_reducible refine Kd.C_drewN ?_ _)|(with_reducible refine Kd.C_drew ?_)));(case side2=>exact HC198_0.out);rintro e w' ⟨rfl,⟨nd,rfl⟩⟩;refine ⟨_,rfl,?_⟩))
      go_ret
      exact tR
     ·rw [if_neg c6] at H
      have c6b0:decide (t199 < 0) = false:=decide_eq_false c6
      clear c6
      have H':=aA.mk H
      clear H
      have p198:0 ≤ (x5_1:Int):=lE tC
      have q198:x5_1 < (l0.length:Int):=lE tC
      obtain ⟨ad198,A198_0,c198_0,e198,hx198_0,hl198_0,hi198_0⟩:=at_T59 HR0.out x5_1 p198 q198
      cases e198
      have HR198_0:=aA.mk hi198_0
      have HC198_0:=aA.mk hl198_0
      clear hi198_0 hl198_0
      replace p198:=eq_true p198
      replace q198:=eq_true q198
      go_wp2_with (first|((with_reducible refine aT (f:=73) rfl ?_);refine goesL_ (some 18) rfl rfl Try.func73 tF rfl #[.slice A198_0 ((rd_T59 l0 x5_1).f0).length c198_0,.int .i64 x1_1] rfl tA ?_;(with_reducible refine (laws_heldKeySS.calls k1 _ _ ((rd_T59 l0 x5_1).f0) x1_1 t199 _ ?side1 ?side2 A5.out).mono ?_);(case side1=>repeat (first|exact HR198_0.out|(with_reducible refine Kd.C_alloc ?_ _)|(with_reducible refine Kd.C_drewN ?_ _)|(with_reducible refine Kd.C_drew ?_)));(case side2=>exact HC198_0.out);rintro e w' ⟨rfl,⟨nd,rfl⟩⟩;refine ⟨_,rfl,?_⟩))
      go_roundg k1
      case measure=>have:=HK1.out;omega
      case rel=>exact ⟨(t199),(wrap64 (x5_1 + 1)),tK,tK,H',⟨vM⟩,t7⟩
    ·rw [if_neg c4] at H
     exact vX
   ·rw [if_neg c3] at H
    have c3b0:decide (x5_1 < (l0.length:Int)) = false:=decide_eq_false c3
    clear c3
    obtain rfl:=Option.some.inj H
    go_wp2
    go_ret
    exact tR
def laws_heldTree.f (k:Nat) (l0_0:List Int) (l0_1:List (S59)) (a1:Int):Option (Int):=(laws_heldIntS.f k l0_0 a1).bind fun t201=>(if t201 < 0 then (some (-1)) else ((laws_heldNodeS.f k l0_1 t201).bind fun t202=>(if t202 < 0 then (some (-1)) else (some t202))))
set_option maxHeartbeats 8000000 in
set_option maxRecDepth 100000 in
theorem laws_heldTree.calls (k:Nat) (A0_0:Option Addr) (c0_0:Nat) (l0_0:List Int) (A0_1:Option Addr) (c0_1:Nat) (l0_1:List (S59)) (a1:Int) (r:Int) (w:World) (hr0_0:Kd.C (Kd.int .i64) w A0_0 l0_0.length l0_0) (hc0_0:l0_0.length ≤ c0_0) (hr0_1:Kd.C k59 w A0_1 l0_1.length l0_1) (hc0_1:l0_1.length ≤ c0_1) (h:laws_heldTree.f k l0_0 l0_1 a1 = some r) :
  Calls Try.prog 12 #[.agg #[.slice A0_0 l0_0.length c0_0,.slice A0_1 l0_1.length c0_1],.int .i64 a1] w fun e w'=>e = .returned (.int .i64 r) ∧ Below w.heap.size w w':=by
 have hu29:=Try.underlying29
 have HR0_0:=aA.mk hr0_0
 have HC0_0:=aA.mk hc0_0
 clear hr0_0 hc0_0
 have HR0_1:=aA.mk hr0_1
 have HC0_1:=aA.mk hc0_1
 clear hr0_1 hc0_1
 have HB:=aA.mk (Below.refl w.heap.size w)
 have H:((laws_heldIntS.f k l0_0 a1).bind fun t201=>(if t201 < 0 then (some (-1)) else ((laws_heldNodeS.f k l0_1 t201).bind fun t202=>(if t202 < 0 then (some (-1)) else (some t202))))) = some r:=h
 clear h
 replace H:=lF H
 obtain ⟨t201,A30,H⟩:=H
 replace H:(if t201 < 0 then (some (-1)) else ((laws_heldNodeS.f k l0_1 t201).bind fun t202=>(if t202 < 0 then (some (-1)) else (some t202)))) = some r:=H
 have A3:=aA.mk A30
 clear A30
 by_cases c4:t201 < 0
 ·rw [if_pos c4] at H
  have c4b0:decide (t201 < 0) = true:=decide_eq_true c4
  clear c4
  obtain rfl:=Option.some.inj H
  go_enter Try.func12,Try.ntmps12
  go_wp2_with (first|((with_reducible refine aX (N:=2) rfl ?_);refine aW ?hg (N:=2) ?hd (cs:=#[.slice A0_0 l0_0.length c0_0,.slice A0_1 l0_1.length c0_1]) (t:=29) ?hr ?_;(case hd=>rfl);(case hg=>rfl);(case hr=>exact tP);intro gb200 hg w5 hbox hb;have n0_:=aA.mk (aJ tB hb);have n1_:=aA.mk (hbox);have n2_:=aA.mk ((by rw [hg];exact (aM tB):w.heap.size ≤ gb200));have n3_:=aA.mk ((by rw [hg];exact (aM tB):w.heap.size ≤ gb200));clear HB;have HB:=n0_;have BK200:=n1_;have GW200:=n2_;have GE200:=n3_;clear n0_ n1_ n2_ n3_;clear hb hbox hg;have hcz6_0:w5.cell? ⟨gb200,0,none⟩ = some (.slice A0_0 l0_0.length c0_0):=(aB BK200.out 0).trans rfl;have hcz6_1:w5.cell? ⟨gb200,1,none⟩ = some (.slice A0_1 l0_1.length c0_1):=(aB BK200.out 1).trans rfl;have hfz6_0:=aC BK200.out 0;have hfz6_1:=aC BK200.out 1)|((with_reducible refine aT (f:=38) rfl ?_);refine goesL_ (some 8) rfl rfl Try.func38 tF rfl #[.slice A0_0 l0_0.length c0_0,.int .i64 a1] rfl tA ?_;(with_reducible refine (laws_heldIntS.calls k _ _ l0_0 a1 t201 _ ?side1 ?side2 A3.out).mono ?_);(case side1=>exact tL);(case side2=>exact HC0_0.out);rintro e w' ⟨rfl,⟨nd,rfl⟩⟩;refine ⟨_,rfl,?_⟩))
  go_ret
  exact vm
 ·rw [if_neg c4] at H
  have c4b0:decide (t201 < 0) = false:=decide_eq_false c4
  clear c4
  replace H:=lF H
  obtain ⟨t202,A70,H⟩:=H
  replace H:(if t202 < 0 then (some (-1)) else (some t202)) = some r:=H
  have A7:=aA.mk A70
  clear A70
  by_cases c8:t202 < 0
  ·rw [if_pos c8] at H
   have c8b0:decide (t202 < 0) = true:=decide_eq_true c8
   clear c8
   obtain rfl:=Option.some.inj H
   go_enter Try.func12,Try.ntmps12
   go_wp2_with (first|((with_reducible refine aX (N:=2) rfl ?_);refine aW ?hg (N:=2) ?hd (cs:=#[.slice A0_0 l0_0.length c0_0,.slice A0_1 l0_1.length c0_1]) (t:=29) ?hr ?_;(case hd=>rfl);(case hg=>rfl);(case hr=>exact tP);intro gb200 hg w9 hbox hb;have n0_:=aA.mk (aJ tB hb);have n1_:=aA.mk (hbox);have n2_:=aA.mk ((by rw [hg];exact (aM tB):w.heap.size ≤ gb200));have n3_:=aA.mk ((by rw [hg];exact (aM tB):w.heap.size ≤ gb200));clear HB;have HB:=n0_;have BK200:=n1_;have GW200:=n2_;have GE200:=n3_;clear n0_ n1_ n2_ n3_;clear hb hbox hg;have hcz10_0:w9.cell? ⟨gb200,0,none⟩ = some (.slice A0_0 l0_0.length c0_0):=(aB BK200.out 0).trans rfl;have hcz10_1:w9.cell? ⟨gb200,1,none⟩ = some (.slice A0_1 l0_1.length c0_1):=(aB BK200.out 1).trans rfl;have hfz10_0:=aC BK200.out 0;have hfz10_1:=aC BK200.out 1)|((with_reducible refine aT (f:=38) rfl ?_);refine goesL_ (some 8) rfl rfl Try.func38 tF rfl #[.slice A0_0 l0_0.length c0_0,.int .i64 a1] rfl tA ?_;(with_reducible refine (laws_heldIntS.calls k _ _ l0_0 a1 t201 _ ?side1 ?side2 A3.out).mono ?_);(case side1=>exact tL);(case side2=>exact HC0_0.out);rintro e w' ⟨rfl,⟨nd,rfl⟩⟩;refine ⟨_,rfl,?_⟩)|((with_reducible refine aT (f:=39) rfl ?_);refine goesL_ (some 14) rfl rfl Try.func39 tF rfl #[.slice A0_1 l0_1.length c0_1,.int .i64 t201] rfl tA ?_;(with_reducible refine (laws_heldNodeS.calls k _ _ l0_1 t201 t202 _ ?side1 ?side2 A7.out).mono ?_);(case side1=>exact vj);(case side2=>exact HC0_1.out);rintro e w' ⟨rfl,⟨nd,rfl⟩⟩;refine ⟨_,rfl,?_⟩))
   go_ret
   exact vm
  ·rw [if_neg c8] at H
   have c8b0:decide (t202 < 0) = false:=decide_eq_false c8
   clear c8
   obtain rfl:=Option.some.inj H
   go_enter Try.func12,Try.ntmps12
   go_wp2_with (first|((with_reducible refine aX (N:=2) rfl ?_);refine aW ?hg (N:=2) ?hd (cs:=#[.slice A0_0 l0_0.length c0_0,.slice A0_1 l0_1.length c0_1]) (t:=29) ?hr ?_;(case hd=>rfl);(case hg=>rfl);(case hr=>exact tP);intro gb200 hg w11 hbox hb;have n0_:=aA.mk (aJ tB hb);have n1_:=aA.mk (hbox);have n2_:=aA.mk ((by rw [hg];exact (aM tB):w.heap.size ≤ gb200));have n3_:=aA.mk ((by rw [hg];exact (aM tB):w.heap.size ≤ gb200));clear HB;have HB:=n0_;have BK200:=n1_;have GW200:=n2_;have GE200:=n3_;clear n0_ n1_ n2_ n3_;clear hb hbox hg;have hcz12_0:w11.cell? ⟨gb200,0,none⟩ = some (.slice A0_0 l0_0.length c0_0):=(aB BK200.out 0).trans rfl;have hcz12_1:w11.cell? ⟨gb200,1,none⟩ = some (.slice A0_1 l0_1.length c0_1):=(aB BK200.out 1).trans rfl;have hfz12_0:=aC BK200.out 0;have hfz12_1:=aC BK200.out 1)|((with_reducible refine aT (f:=38) rfl ?_);refine goesL_ (some 8) rfl rfl Try.func38 tF rfl #[.slice A0_0 l0_0.length c0_0,.int .i64 a1] rfl tA ?_;(with_reducible refine (laws_heldIntS.calls k _ _ l0_0 a1 t201 _ ?side1 ?side2 A3.out).mono ?_);(case side1=>exact tL);(case side2=>exact HC0_0.out);rintro e w' ⟨rfl,⟨nd,rfl⟩⟩;refine ⟨_,rfl,?_⟩)|((with_reducible refine aT (f:=39) rfl ?_);refine goesL_ (some 14) rfl rfl Try.func39 tF rfl #[.slice A0_1 l0_1.length c0_1,.int .i64 t201] rfl tA ?_;(with_reducible refine (laws_heldNodeS.calls k _ _ l0_1 t201 t202 _ ?side1 ?side2 A7.out).mono ?_);(case side1=>exact vj);(case side2=>exact HC0_1.out);rintro e w' ⟨rfl,⟨nd,rfl⟩⟩;refine ⟨_,rfl,?_⟩))
   go_ret
   exact vm
def spec_l5Copy.l0:Nat → Int → List (List (S38)) → List (List (S38)) → Option ((List (List (S38))))
 | 0,_,_,_=>none
 | k + 1,x4,x204000,x206000=>if x4 < (x204000.length:Int) then ((some (([]:List (S38)):List (S38))).bind fun y206=>(if 0 ≤ x4 then (if y206.length + (rd_L6 x204000 x4).length < 3518437208883 then (if x206000.length < 5864062014805 then (spec_l5Copy.l0 k (wrap64 (x4 + 1)) x204000 (x206000 ++ [(y206 ++ (rd_L6 x204000 x4))])) else (none)) else (none)) else (none))) else (some x206000)
def spec_l5Copy.f (k:Nat) (l0_0:List (List (S38))):Option ((List (List (S38)))):=spec_l5Copy.l0 k 0 l0_0 ([]:List (List (S38)))
theorem spec_l5Copy.mono_l:∀ k,(∀ y0 y1 y2,LeO (spec_l5Copy.l0 k y0 y1 y2) (spec_l5Copy.l0 (k + 1) y0 y1 y2))
 | 0=>fun _ _ _ r h=>by simp [spec_l5Copy.l0] at h
 | k + 1=>by
  have ih0:=spec_l5Copy.mono_l k
  ·intro y0 y1 y2
   unfold spec_l5Copy.l0
   repeat' first
   | (with_reducible exact ih0 _ _ _)
   | (with_reducible exact LeO.refl _)
   | (with_reducible exact LeO.none _)
   | (with_reducible refine LeO.ite ?_ ?_)
   | (with_reducible refine LeO.bind ?_ (fun _=>?_))
   | exact ih0 _ _ _
   | exact LeO.none _
   | refine LeO.ite ?_ ?_
   | refine LeO.bind ?_ (fun _=>?_)
theorem spec_l5Copy.mono:∀ a0 k,LeO (spec_l5Copy.f k a0) (spec_l5Copy.f (k + 1) a0):=by
 intro a0 k
 have ih0:=spec_l5Copy.mono_l k
 unfold spec_l5Copy.f
 repeat' first
   | (with_reducible exact ih0 _ _ _)
   | (with_reducible exact LeO.refl _)
   | (with_reducible exact LeO.none _)
   | (with_reducible refine LeO.ite ?_ ?_)
   | (with_reducible refine LeO.bind ?_ (fun _=>?_))
   | exact ih0 _ _ _
   | exact LeO.none _
   | refine LeO.ite ?_ ?_
   | refine LeO.bind ?_ (fun _=>?_)
def spec_l5Copy.T5:Bool × List (List Nat × List Nat):=(true,[([],[]),([0],[0]),([],[]),([],[]),([3],[3]),([],[]),([4,5],[4,5]),([6],[6]),([2,7],[2,7]),([8],[8]),([1,9,8],[1,9]),([0,1,2,3,4,5,6,7,8,9,10],[]),([11,10,10,0,1,2,3,4,5,6,7,8,9,10],[10,11])])
def spec_l5Copy.B5:List Nat:=[0,1,0,0,8,0,56,120,252,508,1023,2047,4095]
set_option linter.unusedVariables false
set_option linter.unusedSimpArgs false
def spec_l6Copy.l0:Nat → Int → List Int → List (S59) → List Int → List (S59) → Option (List Int × (List (S59)))
 | 0,_,_,_,_,_=>none
 | k + 1,x4,x217000,x217001,x225000,x225001=>if x4 < (x217001.length:Int) then (if 0 ≤ x4 then ((spec_l5Copy.f k ((rd_T59 x217001 x4).f0)).bind fun t226=>(if x225001.length < 5864062014805 then (spec_l6Copy.l0 k (wrap64 (x4 + 1)) x217000 x217001 x225000 (x225001 ++ [(⟨t226⟩:S59)])) else (none))) else (none)) else (some (x225000,x225001))
def spec_l6Copy.f (k:Nat) (l0_0:List Int) (l0_1:List (S59)):Option (List Int × (List (S59))):=(some (([]:List Int):List Int)).bind fun y218=>(if y218.length + l0_0.length < 17592186044416 then (spec_l6Copy.l0 k 0 l0_0 l0_1 (y218 ++ l0_0) ([]:List (S59))) else (none))
def spec_l6Copy.T5:Bool × List (List Nat × List Nat):=(true,[([],[]),([0],[0]),([],[]),([2],[2]),([],[]),([3,4],[3,4]),([5],[5]),([6],[6]),([7],[7]),([1,8,7],[1,8]),([0,1,2,3,4,5,6,7,8,9],[]),([10,9,9,0,1,2,3,4,5,6,7,8,9],[9,10])])
def spec_l6Copy.B5:List Nat:=[0,1,0,4,0,28,60,124,252,511,1023,2047]
def spec_l1In.f (a0:Int) (a1:Int) (a2:Int):Option (Bool):=if a0 ≥ a1 then (some (decide (a0 ≤ a2))) else (some false)
def spec_Drop.l0:Nat → List (S38) → List (S38) → Int → Option ((List (S38)))
 | 0,_,_,_=>none
 | k + 1,x0,x3,x4=>if x4 < (x0.length:Int) then (if 0 ≤ x4 then (if ((rd_T38 x0 x4).f2) = 0 then (spec_Drop.l0 k x0 x3 (wrap64 (x4 + 1))) else (if x3.length < 3518437208883 then (spec_Drop.l0 k x0 (x3 ++ [(⟨(rd_T38 x0 x4).f0,(rd_T38 x0 x4).f1,(rd_T38 x0 x4).f2,(rd_T38 x0 x4).f3,(rd_T38 x0 x4).f4⟩:S38)]) (wrap64 (x4 + 1))) else (none))) else (none)) else (some x3)
def spec_Drop.f (k:Nat) (l0:List (S38)):Option ((List (S38))):=spec_Drop.l0 k l0 (([]:List (S38))) 0
def spec_LessKey.f (a0_0:Int) (a0_1:Int) (a0_2:Int) (a0_3:Int) (a0_4:Int) (a1_0:Int) (a1_1:Int) (a1_2:Int) (a1_3:Int) (a1_4:Int):Option (Bool):=if a0_0 = a1_0 then (some (decide (a0_1 < a1_1))) else (some (decide (a0_0 < a1_0)))
def spec_SameSpot.f (a0_0:Int) (a0_1:Int) (a0_2:Int) (a0_3:Int) (a0_4:Int) (a1_0:Int) (a1_1:Int) (a1_2:Int) (a1_3:Int) (a1_4:Int):Option (Bool):=if a0_0 = a1_0 then (some (a0_1 == a1_1)) else (some false)
set_option linter.unusedVariables false
set_option linter.unusedSimpArgs false
mutual
def spec_SetPut.l0:Nat → List (S38) → List (S38) → Bool → Int → Int → Int → Int → Int → Int → Option ((List (S38)))
 | 0,_,_,_,_,_,_,_,_,_=>none
 | k + 1,x0,x5,x6,x7,x245000,x245001,x245002,x245003,x245004=>if x7 < (x0.length:Int) then (if x6 = true then (spec_SetPut.j1 k x0 x5 x6 x7 false x245000 x245001 x245002 x245003 x245004) else (if 0 ≤ x7 then ((spec_LessKey.f ((rd_T38 x0 x7).f0) ((rd_T38 x0 x7).f1) ((rd_T38 x0 x7).f2) ((rd_T38 x0 x7).f3) ((rd_T38 x0 x7).f4) x245000 x245001 x245002 x245003 x245004).bind fun t252=>(spec_SetPut.j1 k x0 x5 x6 x7 (!t252) x245000 x245001 x245002 x245003 x245004)) else (none))) else (if x6 = true then (some x5) else (if x5.length < 3518437208883 then (some (x5 ++ [(⟨x245000,x245001,x245002,x245003,x245004⟩:S38)])) else (none)))
def spec_SetPut.j1:Nat → List (S38) → List (S38) → Bool → Int → Bool → Int → Int → Int → Int → Int → Option ((List (S38)))
 | 0,_,_,_,_,_,_,_,_,_,_=>none
 | k + 1,x0,x5,x6,x7,x25,x245000,x245001,x245002,x245003,x245004=>if x25 = true then (if x5.length < 3518437208883 then ((some (x5 ++ [(⟨x245000,x245001,x245002,x245003,x245004⟩:S38)]:List (S38))).bind fun y253=>(if 0 ≤ x7 then (if x7 < (x0.length:Int) then ((spec_SameSpot.f ((rd_T38 x0 x7).f0) ((rd_T38 x0 x7).f1) ((rd_T38 x0 x7).f2) ((rd_T38 x0 x7).f3) ((rd_T38 x0 x7).f4) x245000 x245001 x245002 x245003 x245004).bind fun t257=>(if t257 = true then (spec_SetPut.l0 k x0 y253 true (wrap64 (x7 + 1)) x245000 x245001 x245002 x245003 x245004) else (if y253.length < 3518437208883 then (spec_SetPut.l0 k x0 (y253 ++ [(⟨(rd_T38 x0 x7).f0,(rd_T38 x0 x7).f1,(rd_T38 x0 x7).f2,(rd_T38 x0 x7).f3,(rd_T38 x0 x7).f4⟩:S38)]) true (wrap64 (x7 + 1)) x245000 x245001 x245002 x245003 x245004) else (none)))) else (none)) else (none))) else (none)) else (if 0 ≤ x7 then (if x7 < (x0.length:Int) then ((spec_SameSpot.f ((rd_T38 x0 x7).f0) ((rd_T38 x0 x7).f1) ((rd_T38 x0 x7).f2) ((rd_T38 x0 x7).f3) ((rd_T38 x0 x7).f4) x245000 x245001 x245002 x245003 x245004).bind fun t263=>(if t263 = true then (spec_SetPut.l0 k x0 x5 x6 (wrap64 (x7 + 1)) x245000 x245001 x245002 x245003 x245004) else (if x5.length < 3518437208883 then (spec_SetPut.l0 k x0 (x5 ++ [(⟨(rd_T38 x0 x7).f0,(rd_T38 x0 x7).f1,(rd_T38 x0 x7).f2,(rd_T38 x0 x7).f3,(rd_T38 x0 x7).f4⟩:S38)]) x6 (wrap64 (x7 + 1)) x245000 x245001 x245002 x245003 x245004) else (none)))) else (none)) else (none))
end
def spec_SetPut.f (k:Nat) (l0:List (S38)) (a1_0:Int) (a1_1:Int) (a1_2:Int) (a1_3:Int) (a1_4:Int):Option ((List (S38))):=spec_SetPut.l0 k l0 (([]:List (S38))) false 0 a1_0 a1_1 a1_2 a1_3 a1_4
def spec_SetPut.T6:Bool × List (List Nat × List Nat):=(true,[([],[]),([0],[0]),([1],[1]),([2],[2]),([2],[2]),([3,4,2],[2,3,4]),([5,2],[2,5]),([2],[2]),([6,7,2,2],[2,6,7]),([8,2],[2,8]),([2,9],[2,9])])
def spec_SetPut.B6:List Nat:=[0,1,3,7,7,31,63,7,255,511,1023]
set_option linter.unusedVariables false
set_option linter.unusedSimpArgs false
def spec_MergeSets.l0:Nat → List (S38) → List (S38) → Int → Option ((List (S38)))
 | 0,_,_,_=>none
 | k + 1,x1,x5,x6=>if x6 < (x1.length:Int) then (if 0 ≤ x6 then ((spec_SetPut.f k x5 ((rd_T38 x1 x6).f0) ((rd_T38 x1 x6).f1) ((rd_T38 x1 x6).f2) ((rd_T38 x1 x6).f3) ((rd_T38 x1 x6).f4)).bind fun t275=>(spec_MergeSets.l0 k x1 t275 (wrap64 (x6 + 1)))) else (none)) else (some x5)
def spec_MergeSets.f (k:Nat) (l0:List (S38)) (l1:List (S38)):Option ((List (S38))):=(some (([]:List (S38)):List (S38))).bind fun y268=>(if y268.length + l0.length < 3518437208883 then (spec_MergeSets.l0 k l1 (y268 ++ l0) 0) else (none))
def spec_NodeKeys.l0:Nat → List (S38) → Int → List (List (S38)) → Option ((List (S38)))
 | 0,_,_,_=>none
 | k + 1,x3,x4,x279000=>if x4 < (x279000.length:Int) then (if 0 ≤ x4 then ((spec_MergeSets.f k x3 (rd_L6 x279000 x4)).bind fun t283=>(spec_NodeKeys.l0 k t283 (wrap64 (x4 + 1)) x279000)) else (none)) else ((spec_Drop.f k x3).bind fun t286=>(some t286))
def spec_NodeKeys.f (k:Nat) (l0_0:List (List (S38))):Option ((List (S38))):=spec_NodeKeys.l0 k (([]:List (S38))) 0 l0_0
def spec_SpotOf.f (a0:Int) (a1:Int):Option (Int):=some (wrap64 ((wrap64 (64 * a0)) + a1))
def spec_l6Spot.f (a0_0:Int) (a0_1:Int) (a0_2:Int) (a0_3:Int) (a0_4:Int):Option (Int):=(spec_SpotOf.f a0_0 a0_1).bind fun t290=>(some t290)
def spec_KeyOk.j0:Nat → Bool → Int → Int → Int → Int → Int → Option (Bool)
 | 0,_,_,_,_,_,_=>none
 | k + 1,x18,x292000,x292001,x292002,x292003,x292004=>if x18 = true then (some false) else (if x292002 = 1 then ((spec_l1In.f x292003 0 23).bind fun t295=>(if t295 = true then ((spec_l1In.f x292004 0 999).bind fun t296=>(some t296)) else (some false))) else (if x292003 = 0 then (some (x292004 == 0)) else (some false)))
def spec_KeyOk.f (k:Nat) (a0_0:Int) (a0_1:Int) (a0_2:Int) (a0_3:Int) (a0_4:Int):Option (Bool):=(spec_l1In.f a0_0 0 15).bind fun t292=>(if t292 = true then ((spec_l1In.f a0_1 1 60).bind fun t293=>(if t293 = true then ((spec_l1In.f a0_2 0 2).bind fun t294=>(spec_KeyOk.j0 k (!t294) a0_0 a0_1 a0_2 a0_3 a0_4)) else (spec_KeyOk.j0 k true a0_0 a0_1 a0_2 a0_3 a0_4))) else (spec_KeyOk.j0 k true a0_0 a0_1 a0_2 a0_3 a0_4))
set_option linter.unusedVariables false
set_option linter.unusedSimpArgs false
def spec_l4Rises.l0:Nat → List (S38) → Int → Option (Bool)
 | 0,_,_=>none
 | k + 1,x0,x3=>if x3 < (x0.length:Int) then (if 0 ≤ (wrap64 (x3 - 1)) then (if (wrap64 (x3 - 1)) < (x0.length:Int) then (if 0 ≤ x3 then ((spec_LessKey.f ((rd_T38 x0 (wrap64 (x3 - 1))).f0) ((rd_T38 x0 (wrap64 (x3 - 1))).f1) ((rd_T38 x0 (wrap64 (x3 - 1))).f2) ((rd_T38 x0 (wrap64 (x3 - 1))).f3) ((rd_T38 x0 (wrap64 (x3 - 1))).f4) ((rd_T38 x0 x3).f0) ((rd_T38 x0 x3).f1) ((rd_T38 x0 x3).f2) ((rd_T38 x0 x3).f3) ((rd_T38 x0 x3).f4)).bind fun t299=>(if t299 = true then (spec_l4Rises.l0 k x0 (wrap64 (x3 + 1))) else (some false))) else (none)) else (none)) else (none)) else (some true)
def spec_l4Rises.f (k:Nat) (l0:List (S38)):Option (Bool):=spec_l4Rises.l0 k l0 1
def spec_l4Rises.T4:Bool × List (List Nat × List Nat):=(true,[([],[]),([],[]),([1],[1]),([0,2],[0,2]),([3],[3]),([],[]),([],[]),([5,6],[5,6]),([7],[7]),([4,8],[4,8]),([9],[9])])
def spec_l4Rises.B4:List Nat:=[0,0,2,7,15,0,0,96,224,511,1023]
def spec_SetOk.l0:Nat → List (S38) → Int → Option (Bool)
 | 0,_,_=>none
 | k + 1,x0,x3=>if x3 < (x0.length:Int) then (if 0 ≤ x3 then ((spec_KeyOk.f k ((rd_T38 x0 x3).f0) ((rd_T38 x0 x3).f1) ((rd_T38 x0 x3).f2) ((rd_T38 x0 x3).f3) ((rd_T38 x0 x3).f4)).bind fun t301=>(if t301 = true then (spec_SetOk.l0 k x0 (wrap64 (x3 + 1))) else (some false))) else (none)) else ((spec_l4Rises.f k x0).bind fun t302=>(if t302 = true then (some (decide ((x0.length:Int) ≤ 60))) else (some false)))
def spec_SetOk.f (k:Nat) (l0:List (S38)):Option (Bool):=spec_SetOk.l0 k l0 0
def spec_l5Count.l0:Nat → Int → Int → List (List (S38)) → Option (Int)
 | 0,_,_,_=>none
 | k + 1,x3,x4,x304000=>if x4 < (x304000.length:Int) then (if 0 ≤ x4 then (spec_l5Count.l0 k (wrap64 (x3 + ((rd_L6 x304000 x4).length:Int))) (wrap64 (x4 + 1)) x304000) else (none)) else (some x3)
def spec_l5Count.f (k:Nat) (l0_0:List (List (S38))):Option (Int):=spec_l5Count.l0 k 0 0 l0_0
def spec_NodeOk.l0:Nat → Int → List (List (S38)) → Option (Bool)
 | 0,_,_=>none
 | k + 1,x3,x306000=>if x3 < (x306000.length:Int) then (if 0 ≤ x3 then ((spec_SetOk.f k (rd_L6 x306000 x3)).bind fun t307=>(if t307 = true then (if ((rd_L6 x306000 x3).length:Int) = 0 then (some false) else (spec_NodeOk.l0 k (wrap64 (x3 + 1)) x306000)) else (some false))) else (none)) else (if (x306000.length:Int) ≤ 3 then ((spec_l5Count.f k x306000).bind fun t309=>(some (decide (t309 ≤ 8)))) else (some false))
def spec_NodeOk.f (k:Nat) (l0_0:List (List (S38))):Option (Bool):=spec_NodeOk.l0 k 0 l0_0
set_option linter.unusedVariables false
set_option linter.unusedSimpArgs false
mutual
def spec_l6Node.j0:Nat → Int → Bool → List Int → List (S59) → List (List (S38)) → Option (Bool)
 | 0,_,_,_,_,_=>none
 | k + 1,x1,x26,x311000,x311001,x313000=>if x26 = true then (some false) else (spec_l6Node.l0 k x1 0 x311000 x311001 x313000)
def spec_l6Node.l0:Nat → Int → Int → List Int → List (S59) → List (List (S38)) → Option (Bool)
 | 0,_,_,_,_,_=>none
 | k + 1,x1,x6,x311000,x311001,x313000=>if x6 < (x313000.length:Int) then (spec_l6Node.l1 k x1 x6 0 x311000 x311001 x313000) else (some true)
def spec_l6Node.l1:Nat → Int → Int → Int → List Int → List (S59) → List (List (S38)) → Option (Bool)
 | 0,_,_,_,_,_,_=>none
 | k + 1,x1,x6,x7,x311000,x311001,x313000=>if 0 ≤ x6 then (if x6 < (x313000.length:Int) then (if x7 < ((rd_L6 x313000 x6).length:Int) then (if 0 ≤ x7 then ((spec_l6Spot.f ((rd_T38 (rd_L6 x313000 x6) x7).f0) ((rd_T38 (rd_L6 x313000 x6) x7).f1) ((rd_T38 (rd_L6 x313000 x6) x7).f2) ((rd_T38 (rd_L6 x313000 x6) x7).f3) ((rd_T38 (rd_L6 x313000 x6) x7).f4)).bind fun t320=>(if 0 ≤ x1 then (if x1 < (x311000.length:Int) then (if t320 < (rd x311000 x1) then (some false) else (if (wrap64 (x1 + 1)) < (x311000.length:Int) then (if 0 ≤ (wrap64 (x1 + 1)) then (if t320 ≥ (rd x311000 (wrap64 (x1 + 1))) then (some false) else (spec_l6Node.l1 k x1 x6 (wrap64 (x7 + 1)) x311000 x311001 x313000)) else (none)) else (spec_l6Node.l1 k x1 x6 (wrap64 (x7 + 1)) x311000 x311001 x313000))) else (none)) else (none))) else (none)) else (spec_l6Node.l0 k x1 (wrap64 (x6 + 1)) x311000 x311001 x313000)) else (none)) else (none)
end
def spec_l6Node.f (k:Nat) (l0_0:List Int) (l0_1:List (S59)) (a1:Int):Option (Bool):=if 0 ≤ a1 then (if a1 < (l0_1.length:Int) then ((spec_NodeOk.f k ((rd_T59 l0_1 a1).f0)).bind fun t313=>(if t313 = true then (if a1 > 0 then ((spec_NodeKeys.f k ((rd_T59 l0_1 a1).f0)).bind fun t314=>(spec_l6Node.j0 k a1 ((t314.length:Int) == 0) l0_0 l0_1 ((rd_T59 l0_1 a1).f0))) else (spec_l6Node.j0 k a1 false l0_0 l0_1 ((rd_T59 l0_1 a1).f0))) else (spec_l6Node.j0 k a1 true l0_0 l0_1 ((rd_T59 l0_1 a1).f0)))) else (none)) else (none)
def spec_TreeKeys.l0:Nat → List (S38) → Int → List Int → List (S59) → Option ((List (S38)))
 | 0,_,_,_,_=>none
 | k + 1,x3,x4,x324000,x324001=>if x4 < (x324001.length:Int) then (if 0 ≤ x4 then ((spec_NodeKeys.f k ((rd_T59 x324001 x4).f0)).bind fun t328=>(if x3.length + t328.length < 3518437208883 then (spec_TreeKeys.l0 k (x3 ++ t328) (wrap64 (x4 + 1)) x324000 x324001) else (none))) else (none)) else (some x3)
def spec_TreeKeys.f (k:Nat) (l0_0:List Int) (l0_1:List (S59)):Option ((List (S38))):=spec_TreeKeys.l0 k (([]:List (S38))) 0 l0_0 l0_1
set_option linter.unusedVariables false
set_option linter.unusedSimpArgs false
mutual
def spec_TreeOk.j0:Nat → Bool → List Int → List (S59) → Option (Bool)
 | 0,_,_,_=>none
 | k + 1,x24,x335000,x335001=>if x24 = true then (some false) else (spec_TreeOk.l0 k 0 x335000 x335001)
def spec_TreeOk.l0:Nat → Int → List Int → List (S59) → Option (Bool)
 | 0,_,_,_=>none
 | k + 1,x3,x335000,x335001=>if x3 < (x335001.length:Int) then (if x3 > 0 then (if 0 ≤ (wrap64 (x3 - 1)) then (if (wrap64 (x3 - 1)) < (x335000.length:Int) then (if 0 ≤ x3 then (if x3 < (x335000.length:Int) then (if (rd x335000 (wrap64 (x3 - 1))) ≥ (rd x335000 x3) then (some false) else ((spec_l6Node.f k x335000 x335001 x3).bind fun t339=>(if t339 = true then (spec_TreeOk.l0 k (wrap64 (x3 + 1)) x335000 x335001) else (some false)))) else (none)) else (none)) else (none)) else (none)) else ((spec_l6Node.f k x335000 x335001 x3).bind fun t340=>(if t340 = true then (spec_TreeOk.l0 k (wrap64 (x3 + 1)) x335000 x335001) else (some false)))) else ((spec_TreeKeys.f k x335000 x335001).bind fun t341=>(some (decide ((t341.length:Int) ≤ 60))))
end
def spec_TreeOk.f (k:Nat) (l0_0:List Int) (l0_1:List (S59)):Option (Bool):=(spec_l1In.f (l0_1.length:Int) 1 20).bind fun t335=>(if t335 = true then (if (l0_0.length:Int) = (l0_1.length:Int) then (if 0 < (l0_0.length:Int) then (spec_TreeOk.j0 k ((rd l0_0 0) != 0) l0_0 l0_1) else (none)) else (spec_TreeOk.j0 k true l0_0 l0_1)) else (spec_TreeOk.j0 k true l0_0 l0_1))
def spec_TreeOk.T6:Bool × List (List Nat × List Nat):=(true,[([],[]),([0],[0]),([1],[1]),([2],[2]),([3,2],[2,3]),([2],[2]),([5,2],[2,5]),([4,6,2],[2,4,6]),([7,2],[2,7]),([2],[2]),([9,2],[2,9]),([2],[2]),([10,11,2],[2,10,11]),([12,2],[2,12]),([8,13,2],[2,8,13]),([2,14],[2,14]),([15,2],[15]),([16],[16]),([16],[16]),([17,18,16,16],[16,17,18]),([19,16],[16,19]),([16,20],[16,20])])
def spec_TreeOk.B6:List Nat:=[0,1,3,7,15,7,39,127,255,7,519,7,3591,7687,16383,32767,65535,131071,131071,524287,1048575,2097151]
set_option linter.unusedVariables false
set_option linter.unusedSimpArgs false
def spec_WhereIn.l0:Nat → Int → Int → Int → Int → List Int → List (S59) → Option (Int)
 | 0,_,_,_,_,_,_=>none
 | k + 1,x1,x2,x7,x8,x345000,x345001=>if x8 < (x345000.length:Int) then (if 0 ≤ x8 then ((spec_SpotOf.f x1 x2).bind fun t346=>(if (rd x345000 x8) ≤ t346 then (spec_WhereIn.l0 k x1 x2 x8 (wrap64 (x8 + 1)) x345000 x345001) else (spec_WhereIn.l0 k x1 x2 x7 (wrap64 (x8 + 1)) x345000 x345001))) else (none)) else (some x7)
def spec_WhereIn.f (k:Nat) (l0_0:List Int) (l0_1:List (S59)) (a1:Int) (a2:Int):Option (Int):=spec_WhereIn.l0 k a1 a2 (-1) 0 l0_0 l0_1
def spec_NodeNew.f (l0:List (S38)):Option ((List (List (S38)))):=if (l0.length:Int) = 0 then (some ([]:List (List (S38)))) else ((some (([]:List (S38)):List (S38))).bind fun y348=>(if y348.length + l0.length < 3518437208883 then (some (([(y348 ++ l0)]:List (List (S38))))) else (none)))
def spec_SetAt.l0:Nat → List (S38) → Int → Int → Int → Option (Int × Int × Int × Int × Int × Bool)
 | 0,_,_,_,_=>none
 | k + 1,x0,x1,x2,x8=>if x8 < (x0.length:Int) then (if 0 ≤ x8 then (if ((rd_T38 x0 x8).f0) = x1 then (if ((rd_T38 x0 x8).f1) = x2 then (some ((rd_T38 x0 x8).f0,(rd_T38 x0 x8).f1,(rd_T38 x0 x8).f2,(rd_T38 x0 x8).f3,(rd_T38 x0 x8).f4,true)) else (spec_SetAt.l0 k x0 x1 x2 (wrap64 (x8 + 1)))) else (spec_SetAt.l0 k x0 x1 x2 (wrap64 (x8 + 1)))) else (none)) else (some (0,0,0,0,0,false))
def spec_SetAt.f (k:Nat) (l0:List (S38)) (a1:Int) (a2:Int):Option (Int × Int × Int × Int × Int × Bool):=spec_SetAt.l0 k l0 a1 a2 0
set_option linter.unusedVariables false
set_option linter.unusedSimpArgs false
mutual
def spec_NodePut.j0:Nat → Int → Bool → List (List (S38)) → Int → Int → Int → Int → Int → List (List (S38)) → Option ((List (List (S38))) × Bool)
 | 0,_,_,_,_,_,_,_,_,_=>none
 | k + 1,x7,x8,x362000,x363000,x363001,x363002,x363003,x363004,x368000=>if x7 ≥ 0 then (if 0 ≤ x7 then (if x7 < (x368000.length:Int) then (if ((rd_L6 x368000 x7).length:Int) < 4 then (spec_NodePut.j1 k x7 true x362000 x363000 x363001 x363002 x363003 x363004 x368000) else (spec_NodePut.j1 k x7 x8 x362000 x363000 x363001 x363002 x363003 x363004 x368000)) else (none)) else (none)) else (spec_NodePut.j1 k x7 false x362000 x363000 x363001 x363002 x363003 x363004 x368000)
def spec_NodePut.j1:Nat → Int → Bool → List (List (S38)) → Int → Int → Int → Int → Int → List (List (S38)) → Option ((List (List (S38))) × Bool)
 | 0,_,_,_,_,_,_,_,_,_=>none
 | k + 1,x7,x44,x362000,x363000,x363001,x363002,x363003,x363004,x368000=>if x44 = true then (if 0 ≤ x7 then (if x7 < (x368000.length:Int) then ((spec_SetPut.f k (rd_L6 x368000 x7) x363000 x363001 x363002 x363003 x363004).bind fun t377=>(spec_NodePut.j2 k x362000 x363000 x363001 x363002 x363003 x363004 (x368000.set (x7:Int).toNat t377))) else (none)) else (none)) else (if x368000.length < 5864062014805 then (spec_NodePut.j2 k x362000 x363000 x363001 x363002 x363003 x363004 (x368000 ++ [(([(⟨x363000,x363001,x363002,x363003,x363004⟩:S38)]:List (S38)))])) else (none))
def spec_NodePut.j2:Nat → List (List (S38)) → Int → Int → Int → Int → Int → List (List (S38)) → Option ((List (List (S38))) × Bool)
 | 0,_,_,_,_,_,_,_=>none
 | k + 1,x362000,x363000,x363001,x363002,x363003,x363004,x368000=>(spec_NodeOk.f k x368000).bind fun t387=>(if t387 = true then (some (x368000,true)) else ((spec_NodeKeys.f k x362000).bind fun t388=>((spec_SetPut.f k t388 x363000 x363001 x363002 x363003 x363004).bind fun t391=>((spec_Drop.f k t391).bind fun t394=>(if (t394.length:Int) > 8 then (spec_NodePut.j3 k t394 true x362000) else ((spec_NodeNew.f t394).bind fun t397=>((spec_NodeOk.f k t397).bind fun t400=>(spec_NodePut.j3 k t394 (!t400) x362000))))))))
def spec_NodePut.j3:Nat → List (S38) → Bool → List (List (S38)) → Option ((List (List (S38))) × Bool)
 | 0,_,_,_=>none
 | k + 1,x9,x79,x362000=>if x79 = true then ((spec_l5Copy.f k x362000).bind fun t401=>(some (t401,false))) else ((spec_NodeNew.f x9).bind fun t404=>(some (t404,true)))
end
def spec_NodePut.f (k:Nat) (l0_0:List (List (S38))) (a1_0:Int) (a1_1:Int) (a1_2:Int) (a1_3:Int) (a1_4:Int):Option ((List (List (S38))) × Bool):=(spec_l5Copy.f k l0_0).bind fun t364=>(if (wrap64 ((t364.length:Int) - 1)) ≥ 0 then (if 0 ≤ (wrap64 ((t364.length:Int) - 1)) then (if (wrap64 ((t364.length:Int) - 1)) < (t364.length:Int) then ((spec_SetAt.f k (rd_L6 t364 (wrap64 ((t364.length:Int) - 1))) a1_0 a1_1).bind fun bt369=>(spec_NodePut.j0 k (wrap64 ((t364.length:Int) - 1)) bt369.2.2.2.2.2 l0_0 a1_0 a1_1 a1_2 a1_3 a1_4 t364)) else (none)) else (none)) else (spec_NodePut.j0 k (wrap64 ((t364.length:Int) - 1)) false l0_0 a1_0 a1_1 a1_2 a1_3 a1_4 t364))
def spec_NodePut.T5:Bool × List (List Nat × List Nat):=(true,[([],[]),([0],[0]),([],[]),([1,2],[1,2]),([3],[3]),([],[]),([5],[5]),([],[]),([7],[7]),([4,6,8],[4,6,8]),([9],[9]),([10],[10]),([10],[10]),([12,9,0,1,2,3,4,5,6,7,8,9,10,11,12],[12])])
def spec_NodePut.B5:List Nat:=[0,1,0,7,15,0,32,0,128,511,1023,2047,2047,8191]
def spec_NodePut.T7:Bool × List (List Nat × List Nat):=(true,[([],[]),([0],[0]),([],[]),([],[]),([3],[3]),([],[]),([4,5],[4,5]),([6],[6]),([],[]),([7,8],[7,8]),([1,2,0,1,2,3,4,5,6,7,8,9],[1,2]),([10,9,9,0,1,2,3,4,5,6,7,8,9],[9,10])])
def spec_NodePut.B7:List Nat:=[0,1,0,0,8,0,56,120,0,504,1023,2047]
set_option linter.unusedVariables false
set_option linter.unusedSimpArgs false
def spec_l6Set.f (l0_0:List Int) (l0_1:List (S59)) (a1:Int) (l2:List Int) (l3:List (S59)):Option (List Int × (List (S59))):=(some (([]:List Int):List Int)).bind fun y410=>(if 0 ≤ a1 then (if a1 ≤ (l0_0.length:Int) then (if y410.length + (l0_0.take (a1:Int).toNat).length < 17592186044416 then ((some (y410 ++ (l0_0.take (a1:Int).toNat):List Int)).bind fun y414=>(if y414.length + l2.length < 17592186044416 then ((some (y414 ++ l2:List Int)).bind fun y417=>(if 0 ≤ (wrap64 (a1 + 1)) then (if (wrap64 (a1 + 1)) ≤ (l0_0.length:Int) then (if y417.length + (l0_0.drop ((wrap64 (a1 + 1)):Int).toNat).length < 17592186044416 then ((some (([]:List (S59)):List (S59))).bind fun y424=>(if a1 ≤ (l0_1.length:Int) then ((some (l0_1.take (a1:Int).toNat:List (S59))).bind fun y427=>(if y424.length + y427.length < 5864062014805 then ((some (y424 ++ y427:List (S59))).bind fun y432=>(if y432.length + l3.length < 5864062014805 then ((some (y432 ++ l3:List (S59))).bind fun y435=>(if (wrap64 (a1 + 1)) ≤ (l0_1.length:Int) then ((some (l0_1.drop ((wrap64 (a1 + 1)):Int).toNat:List (S59))).bind fun y438=>(if y435.length + y438.length < 5864062014805 then (some ((y417 ++ (l0_0.drop ((wrap64 (a1 + 1)):Int).toNat)),(y435 ++ y438))) else (none))) else (none))) else (none))) else (none))) else (none))) else (none)) else (none)) else (none))) else (none))) else (none)) else (none)) else (none))
def spec_l6Set.T2:Bool × List (List Nat × List Nat):=(true,[([],[]),([],[]),([1],[1]),([],[]),([2,3],[2,3]),([0,4],[0,4]),([],[]),([5,6,5],[5,6]),([],[]),([8],[8]),([],[]),([10],[10]),([9,11],[9,11]),([7,12,7],[7,12]),([0,1,2,3,4,5,6,7,8,9,10,11,12,13],[]),([14,13,13,0,1,2,3,4,5,6,7,8,9,10,11,12,13],[13,14])])
def spec_l6Set.B2:List Nat:=[0,0,2,0,14,31,0,127,0,256,0,1024,3840,8191,16383,32767]
def spec_l6Set.T3:Bool × List (List Nat × List Nat):=(true,[([],[]),([],[]),([1],[1]),([],[]),([2,3],[2,3]),([0,4],[0,4]),([],[]),([5,6,5],[5,6]),([],[]),([8],[8]),([],[]),([10],[10]),([9,11],[9,11]),([7,12,7],[7,12]),([0,1,2,3,4,5,6,7,8,9,10,11,12,13],[]),([14,13,13,0,1,2,3,4,5,6,7,8,9,10,11,12,13],[13,14])])
def spec_l6Set.B3:List Nat:=[0,0,2,0,14,31,0,127,0,256,0,1024,3840,8191,16383,32767]
set_option linter.unusedVariables false
set_option linter.unusedSimpArgs false
def spec_l6Pair.l0:Nat → Int → List Int → List (S59) → Option (Int)
 | 0,_,_,_=>none
 | k + 1,x3,x447000,x447001=>if (wrap64 (x3 + 1)) < (x447001.length:Int) then (if 0 ≤ x3 then (if x3 < (x447001.length:Int) then ((spec_NodeKeys.f k ((rd_T59 x447001 x3).f0)).bind fun t448=>(if 0 ≤ (wrap64 (x3 + 1)) then ((spec_NodeKeys.f k ((rd_T59 x447001 (wrap64 (x3 + 1))).f0)).bind fun t452=>(if (wrap64 ((t448.length:Int) + (t452.length:Int))) ≤ 6 then (some x3) else (spec_l6Pair.l0 k (wrap64 (x3 + 1)) x447000 x447001))) else (none))) else (none)) else (none)) else (some (-1))
def spec_l6Pair.f (k:Nat) (l0_0:List Int) (l0_1:List (S59)):Option (Int):=spec_l6Pair.l0 k 0 l0_0 l0_1
def spec_l6Pair.T4:Bool × List (List Nat × List Nat):=(true,[([],[]),([0],[0]),([],[]),([1,2],[1,2]),([3],[3]),([4],[4]),([5],[5]),([],[]),([7],[7]),([],[]),([9],[9]),([8,10],[8,10]),([11],[11]),([12,5],[12]),([13],[13]),([6,14],[6,14]),([15],[15])])
def spec_l6Pair.B4:List Nat:=[0,1,0,7,15,31,63,0,128,0,512,1920,3968,8127,16319,32767,65535]
set_option linter.unusedVariables false
set_option linter.unusedSimpArgs false
def spec_l6Join.l0:Nat → Int → List Int → List (S59) → Option (List Int × (List (S59)))
 | 0,_,_,_=>none
 | k + 1,x3,x456000,x456001=>if x3 ≥ 0 then (if 0 ≤ x3 then (if x3 < (x456001.length:Int) then ((spec_NodeKeys.f k ((rd_T59 x456001 x3).f0)).bind fun t459=>(if 0 ≤ (wrap64 (x3 + 1)) then (if (wrap64 (x3 + 1)) < (x456001.length:Int) then ((spec_NodeKeys.f k ((rd_T59 x456001 (wrap64 (x3 + 1))).f0)).bind fun t463=>(if t459.length + t463.length < 3518437208883 then ((some (([]:List Int):List Int)).bind fun y470=>(if (wrap64 (x3 + 1)) ≤ (x456000.length:Int) then ((some (x456000.take ((wrap64 (x3 + 1)):Int).toNat:List Int)).bind fun y473=>(if y470.length + y473.length < 17592186044416 then ((some (y470 ++ y473:List Int)).bind fun y478=>(if 0 ≤ (wrap64 (x3 + 2)) then (if (wrap64 (x3 + 2)) ≤ (x456000.length:Int) then ((some (x456000.drop ((wrap64 (x3 + 2)):Int).toNat:List Int)).bind fun y481=>(if y478.length + y481.length < 17592186044416 then ((some (y478 ++ y481:List Int)).bind fun y486=>((some (([]:List (S59)):List (S59))).bind fun y489=>(if x3 ≤ (x456001.length:Int) then ((some (x456001.take (x3:Int).toNat:List (S59))).bind fun y492=>(if y489.length + y492.length < 5864062014805 then ((some (y489 ++ y492:List (S59))).bind fun y497=>((spec_NodeNew.f (t459 ++ t463)).bind fun t500=>(if y497.length < 5864062014805 then ((some (y497 ++ [(⟨t500⟩:S59)]:List (S59))).bind fun y503=>(if (wrap64 (x3 + 2)) ≤ (x456001.length:Int) then ((some (x456001.drop ((wrap64 (x3 + 2)):Int).toNat:List (S59))).bind fun y506=>(if y503.length + y506.length < 5864062014805 then ((some (y503 ++ y506:List (S59))).bind fun y511=>((spec_l6Pair.f k y486 y511).bind fun t514=>(spec_l6Join.l0 k t514 y486 y511))) else (none))) else (none))) else (none)))) else (none))) else (none)))) else (none))) else (none)) else (none))) else (none))) else (none))) else (none))) else (none)) else (none))) else (none)) else (none)) else (some (x456000,x456001))
def spec_l6Join.f (k:Nat) (l0_0:List Int) (l0_1:List (S59)):Option (List Int × (List (S59))):=(spec_l6Pair.f k l0_0 l0_1).bind fun t457=>(spec_l6Join.l0 k t457 l0_0 l0_1)
def spec_l6Join.T4:Bool × List (List Nat × List Nat):=(true,[([],[]),([0],[0]),([],[]),([1,2],[1,2]),([3],[3]),([4],[4]),([],[]),([6],[6]),([],[]),([8],[8]),([7,9],[7,9]),([10],[10]),([11,5],[11]),([5,12,12],[5,12]),([13,13,0,1,2,3,4,5,6,7,8,9,10,11,12,13],[13])])
def spec_l6Join.B4:List Nat:=[0,1,0,7,15,31,0,64,0,256,960,1984,4095,8191,16383]
def spec_l6Join.T6:Bool × List (List Nat × List Nat):=(true,[([],[]),([],[]),([1],[1]),([],[]),([3],[3]),([2,4],[2,4]),([0,5],[0,5]),([],[]),([7],[7]),([],[]),([9],[9]),([8,10],[8,10]),([6,11,6],[6,11]),([0,1,2,3,4,5,6,7,8,9,10,11,12],[]),([13,12,12,0,1,2,3,4,5,6,7,8,9,10,11,12],[12,13])])
def spec_l6Join.B6:List Nat:=[0,0,2,0,8,30,63,0,128,0,512,1920,4095,8191,16383]
def spec_l6Join.T7:Bool × List (List Nat × List Nat):=(true,[([],[]),([],[]),([1],[1]),([],[]),([2,3],[2,3]),([0,4],[0,4]),([],[]),([6,5],[6]),([7],[7]),([5,8,7],[5,8]),([],[]),([10],[10]),([],[]),([12],[12]),([11,13],[11,13]),([9,14,9],[9,14]),([0,1,2,3,4,5,6,7,8,9,10,11,12,13,14,15],[]),([16,15,15,0,1,2,3,4,5,6,7,8,9,10,11,12,13,14,15],[15,16])])
def spec_l6Join.B7:List Nat:=[0,0,2,0,14,31,0,127,255,511,0,1024,0,4096,15360,32767,65535,131071]
set_option linter.unusedVariables false
set_option linter.unusedSimpArgs false
-- NOT PRINTED: function 21 (spec_TreePut)
def impl_within.f (a0:Int) (a1:Int) (a2:Int):Option (Bool):=if a0 ≥ a1 then (some (decide (a0 ≤ a2))) else (some false)
def impl_KeyOk.j0:Nat → Bool → Int → Int → Int → Int → Int → Option (Bool)
 | 0,_,_,_,_,_,_=>none
 | k + 1,x18,x612000,x612001,x612002,x612003,x612004=>if x18 = true then (some false) else (if x612002 = 1 then ((impl_within.f x612003 0 23).bind fun t615=>(if t615 = true then ((impl_within.f x612004 0 999).bind fun t616=>(some t616)) else (some false))) else (if x612003 = 0 then (some (x612004 == 0)) else (some false)))
def impl_KeyOk.f (k:Nat) (a0_0:Int) (a0_1:Int) (a0_2:Int) (a0_3:Int) (a0_4:Int):Option (Bool):=(impl_within.f a0_0 0 15).bind fun t612=>(if t612 = true then ((impl_within.f a0_1 1 60).bind fun t613=>(if t613 = true then ((impl_within.f a0_2 0 2).bind fun t614=>(impl_KeyOk.j0 k (!t614) a0_0 a0_1 a0_2 a0_3 a0_4)) else (impl_KeyOk.j0 k true a0_0 a0_1 a0_2 a0_3 a0_4))) else (impl_KeyOk.j0 k true a0_0 a0_1 a0_2 a0_3 a0_4))
def impl_LessKey.f (a0_0:Int) (a0_1:Int) (a0_2:Int) (a0_3:Int) (a0_4:Int) (a1_0:Int) (a1_1:Int) (a1_2:Int) (a1_3:Int) (a1_4:Int):Option (Bool):=if a0_0 < a1_0 then (some true) else (if a0_0 = a1_0 then (some (decide (a0_1 < a1_1))) else (some false))
set_option linter.unusedVariables false
set_option linter.unusedSimpArgs false
def impl_SetOk.l0:Nat → List (S38) → List (S38) → Int → Int → Option (Bool)
 | 0,_,_,_,_=>none
 | k + 1,x0,x5,x6,x7=>if x7 < x6 then (if 0 ≤ x7 then (if x7 < (x5.length:Int) then ((impl_KeyOk.f k ((rd_T38 x5 x7).f0) ((rd_T38 x5 x7).f1) ((rd_T38 x5 x7).f2) ((rd_T38 x5 x7).f3) ((rd_T38 x5 x7).f4)).bind fun t621=>(if t621 = true then (if x7 > 0 then (if 0 ≤ (wrap64 (x7 - 1)) then (if (wrap64 (x7 - 1)) < (x0.length:Int) then ((impl_LessKey.f ((rd_T38 x0 (wrap64 (x7 - 1))).f0) ((rd_T38 x0 (wrap64 (x7 - 1))).f1) ((rd_T38 x0 (wrap64 (x7 - 1))).f2) ((rd_T38 x0 (wrap64 (x7 - 1))).f3) ((rd_T38 x0 (wrap64 (x7 - 1))).f4) ((rd_T38 x5 x7).f0) ((rd_T38 x5 x7).f1) ((rd_T38 x5 x7).f2) ((rd_T38 x5 x7).f3) ((rd_T38 x5 x7).f4)).bind fun t623=>(if t623 = true then (impl_SetOk.l0 k x0 x5 x6 (wrap64 (x7 + 1))) else (some false))) else (none)) else (none)) else (impl_SetOk.l0 k x0 x5 x6 (wrap64 (x7 + 1)))) else (some false))) else (none)) else (none)) else (some (decide ((x0.length:Int) ≤ 60)))
def impl_SetOk.f (k:Nat) (l0:List (S38)):Option (Bool):=impl_SetOk.l0 k l0 l0 (l0.length:Int) 0
def impl_SetOk.T4:Bool × List (List Nat × List Nat):=(true,[([],[]),([0],[0]),([1],[1]),([2,1],[2]),([3],[3]),([4,3],[3,4]),([5,3,3],[3,5]),([6],[6]),([6],[6]),([8,6],[6,8]),([7,9,6],[6,7,9]),([10,6],[6,10]),([6],[6]),([11,12,6,6],[6,11,12]),([13,6],[6,13]),([6,14,3],[3,6,14]),([3,15],[3,15])])
def impl_SetOk.B4:List Nat:=[0,1,3,7,15,31,63,127,127,383,1023,2047,127,8191,16383,32767,65535]
set_option linter.unusedVariables false
set_option linter.unusedSimpArgs false
def impl_NodeOk.l0:Nat → Int → List (List (S38)) → Int → Int → List (List (S38)) → Option (Bool)
 | 0,_,_,_,_,_=>none
 | k + 1,x3,x7,x8,x9,x625000=>if x9 < x8 then (if 0 ≤ x9 then (if x9 < (x7.length:Int) then ((impl_SetOk.f k (rd_L6 x7 x9)).bind fun t626=>(if t626 = true then (if ((rd_L6 x7 x9).length:Int) = 0 then (some false) else (impl_NodeOk.l0 k (wrap64 (x3 + ((rd_L6 x7 x9).length:Int))) x7 x8 (wrap64 (x9 + 1)) x625000)) else (some false))) else (none)) else (none)) else (if (x625000.length:Int) ≤ 3 then (some (decide (x3 ≤ 8))) else (some false))
def impl_NodeOk.f (k:Nat) (l0_0:List (List (S38))):Option (Bool):=impl_NodeOk.l0 k 0 l0_0 (l0_0.length:Int) 0 l0_0
def impl_SpotOf.f (a0:Int) (a1:Int):Option (Int):=some (wrap64 ((wrap64 (64 * a0)) + a1))
mutual
def impl_inBounds.l0:Nat → Int → List (List (S38)) → Int → Int → List Int → List (S59) → Option (Bool)
 | 0,_,_,_,_,_,_=>none
 | k + 1,x1,x15,x16,x17,x628000,x628001=>if x17 < x16 then (if 0 ≤ x17 then (if x17 < (x15.length:Int) then (impl_inBounds.l1 k x1 x15 x16 x17 (rd_L6 x15 x17) ((rd_L6 x15 x17).length:Int) 0 x628000 x628001) else (none)) else (none)) else (some true)
def impl_inBounds.l1:Nat → Int → List (List (S38)) → Int → Int → List (S38) → Int → Int → List Int → List (S59) → Option (Bool)
 | 0,_,_,_,_,_,_,_,_,_=>none
 | k + 1,x1,x15,x16,x17,x21,x22,x23,x628000,x628001=>if x23 < x22 then (if 0 ≤ x23 then (if x23 < (x21.length:Int) then ((impl_SpotOf.f ((rd_T38 x21 x23).f0) ((rd_T38 x21 x23).f1)).bind fun t632=>(if 0 ≤ x1 then (if x1 < (x628000.length:Int) then (if t632 < (rd x628000 x1) then (some false) else (if (wrap64 (x1 + 1)) < (x628000.length:Int) then (if 0 ≤ (wrap64 (x1 + 1)) then (if t632 ≥ (rd x628000 (wrap64 (x1 + 1))) then (some false) else (impl_inBounds.l1 k x1 x15 x16 x17 x21 x22 (wrap64 (x23 + 1)) x628000 x628001)) else (none)) else (impl_inBounds.l1 k x1 x15 x16 x17 x21 x22 (wrap64 (x23 + 1)) x628000 x628001))) else (none)) else (none))) else (none)) else (none)) else (impl_inBounds.l0 k x1 x15 x16 (wrap64 (x17 + 1)) x628000 x628001)
end
def impl_inBounds.f (k:Nat) (l0_0:List Int) (l0_1:List (S59)) (a1:Int):Option (Bool):=if 0 ≤ a1 then (if a1 < (l0_1.length:Int) then (impl_inBounds.l0 k a1 ((rd_T59 l0_1 a1).f0) (((rd_T59 l0_1 a1).f0).length:Int) 0 l0_0 l0_1) else (none)) else (none)
def impl_SameSpot.f (a0_0:Int) (a0_1:Int) (a0_2:Int) (a0_3:Int) (a0_4:Int) (a1_0:Int) (a1_1:Int) (a1_2:Int) (a1_3:Int) (a1_4:Int):Option (Bool):=if a0_0 = a1_0 then (some (a0_1 == a1_1)) else (some false)
set_option linter.unusedVariables false
set_option linter.unusedSimpArgs false
mutual
def impl_SetPut.l0:Nat → List (S38) → Bool → List (S38) → Int → Int → Int → Int → Int → Int → Int → Option ((List (S38)))
 | 0,_,_,_,_,_,_,_,_,_,_=>none
 | k + 1,x5,x6,x10,x11,x12,x638000,x638001,x638002,x638003,x638004=>if x12 < x11 then (if 0 ≤ x12 then (if x12 < (x10.length:Int) then (if x6 = true then (impl_SetPut.j1 k x5 x6 x10 x11 x12 false x638000 x638001 x638002 x638003 x638004 ((rd_T38 x10 x12).f0) ((rd_T38 x10 x12).f1) ((rd_T38 x10 x12).f2) ((rd_T38 x10 x12).f3) ((rd_T38 x10 x12).f4)) else ((impl_LessKey.f ((rd_T38 x10 x12).f0) ((rd_T38 x10 x12).f1) ((rd_T38 x10 x12).f2) ((rd_T38 x10 x12).f3) ((rd_T38 x10 x12).f4) x638000 x638001 x638002 x638003 x638004).bind fun t646=>(impl_SetPut.j1 k x5 x6 x10 x11 x12 (!t646) x638000 x638001 x638002 x638003 x638004 ((rd_T38 x10 x12).f0) ((rd_T38 x10 x12).f1) ((rd_T38 x10 x12).f2) ((rd_T38 x10 x12).f3) ((rd_T38 x10 x12).f4)))) else (none)) else (none)) else (if x6 = true then (some x5) else (if x5.length < 3518437208883 then (some (x5 ++ [(⟨x638000,x638001,x638002,x638003,x638004⟩:S38)])) else (none)))
def impl_SetPut.j1:Nat → List (S38) → Bool → List (S38) → Int → Int → Bool → Int → Int → Int → Int → Int → Int → Int → Int → Int → Int → Option ((List (S38)))
 | 0,_,_,_,_,_,_,_,_,_,_,_,_,_,_,_,_=>none
 | k + 1,x5,x6,x10,x11,x12,x23,x638000,x638001,x638002,x638003,x638004,x646000,x646001,x646002,x646003,x646004=>if x23 = true then (if x5.length < 3518437208883 then ((some (x5 ++ [(⟨x638000,x638001,x638002,x638003,x638004⟩:S38)]:List (S38))).bind fun y647=>((impl_SameSpot.f x646000 x646001 x646002 x646003 x646004 x638000 x638001 x638002 x638003 x638004).bind fun t650=>(if t650 = true then (impl_SetPut.l0 k y647 true x10 x11 (wrap64 (x12 + 1)) x638000 x638001 x638002 x638003 x638004) else (if y647.length < 3518437208883 then (impl_SetPut.l0 k (y647 ++ [(⟨x646000,x646001,x646002,x646003,x646004⟩:S38)]) true x10 x11 (wrap64 (x12 + 1)) x638000 x638001 x638002 x638003 x638004) else (none))))) else (none)) else ((impl_SameSpot.f x646000 x646001 x646002 x646003 x646004 x638000 x638001 x638002 x638003 x638004).bind fun t654=>(if t654 = true then (impl_SetPut.l0 k x5 x6 x10 x11 (wrap64 (x12 + 1)) x638000 x638001 x638002 x638003 x638004) else (if x5.length < 3518437208883 then (impl_SetPut.l0 k (x5 ++ [(⟨x646000,x646001,x646002,x646003,x646004⟩:S38)]) x6 x10 x11 (wrap64 (x12 + 1)) x638000 x638001 x638002 x638003 x638004) else (none))))
end
def impl_SetPut.f (k:Nat) (l0:List (S38)) (a1_0:Int) (a1_1:Int) (a1_2:Int) (a1_3:Int) (a1_4:Int):Option ((List (S38))):=impl_SetPut.l0 k (([]:List (S38))) false l0 (l0.length:Int) 0 a1_0 a1_1 a1_2 a1_3 a1_4
def impl_copyKeys.f (l0:List (S38)):Option ((List (S38))):=(some (([]:List (S38)):List (S38))).bind fun y658=>(if y658.length + l0.length < 3518437208883 then (some (y658 ++ l0)) else (none))
def impl_MergeSets.l0:Nat → List (S38) → List (S38) → Int → Int → Option ((List (S38)))
 | 0,_,_,_,_=>none
 | k + 1,x5,x10,x11,x12=>if x12 < x11 then (if 0 ≤ x12 then (if x12 < (x10.length:Int) then ((impl_SetPut.f k x5 ((rd_T38 x10 x12).f0) ((rd_T38 x10 x12).f1) ((rd_T38 x10 x12).f2) ((rd_T38 x10 x12).f3) ((rd_T38 x10 x12).f4)).bind fun t669=>(impl_MergeSets.l0 k t669 x10 x11 (wrap64 (x12 + 1)))) else (none)) else (none)) else (some x5)
def impl_MergeSets.f (k:Nat) (l0:List (S38)) (l1:List (S38)):Option ((List (S38))):=(impl_copyKeys.f l0).bind fun t664=>(impl_MergeSets.l0 k t664 l1 (l1.length:Int) 0)
def impl_Drop.l0:Nat → List (S38) → List (S38) → Int → Int → Option ((List (S38)))
 | 0,_,_,_,_=>none
 | k + 1,x3,x7,x8,x9=>if x9 < x8 then (if 0 ≤ x9 then (if x9 < (x7.length:Int) then (if ((rd_T38 x7 x9).f2) = 0 then (impl_Drop.l0 k x3 x7 x8 (wrap64 (x9 + 1))) else (if x3.length < 3518437208883 then (impl_Drop.l0 k (x3 ++ [(⟨(rd_T38 x7 x9).f0,(rd_T38 x7 x9).f1,(rd_T38 x7 x9).f2,(rd_T38 x7 x9).f3,(rd_T38 x7 x9).f4⟩:S38)]) x7 x8 (wrap64 (x9 + 1))) else (none))) else (none)) else (none)) else (some x3)
def impl_Drop.f (k:Nat) (l0:List (S38)):Option ((List (S38))):=impl_Drop.l0 k (([]:List (S38))) l0 (l0.length:Int) 0
def impl_NodeKeys.l0:Nat → List (S38) → List (List (S38)) → Int → Int → Option ((List (S38)))
 | 0,_,_,_,_=>none
 | k + 1,x3,x8,x9,x10=>if x10 < x9 then (if 0 ≤ x10 then (if x10 < (x8.length:Int) then ((impl_MergeSets.f k x3 (rd_L6 x8 x10)).bind fun t685=>(impl_NodeKeys.l0 k t685 x8 x9 (wrap64 (x10 + 1)))) else (none)) else (none)) else ((impl_Drop.f k x3).bind fun t688=>(some t688))
def impl_NodeKeys.f (k:Nat) (l0_0:List (List (S38))):Option ((List (S38))):=impl_NodeKeys.l0 k (([]:List (S38))) l0_0 (l0_0.length:Int) 0
set_option linter.unusedVariables false
set_option linter.unusedSimpArgs false
mutual
def impl_TreeOk.j0:Nat → Bool → List Int → List (S59) → Option (Bool)
 | 0,_,_,_=>none
 | k + 1,x27,x692000,x692001=>if x27 = true then (some false) else (impl_TreeOk.l0 k 0 x692001 (x692001.length:Int) 0 x692000 x692001)
def impl_TreeOk.l0:Nat → Int → List (S59) → Int → Int → List Int → List (S59) → Option (Bool)
 | 0,_,_,_,_,_,_=>none
 | k + 1,x3,x29,x30,x31,x692000,x692001=>if x31 < x30 then (if 0 ≤ x31 then (if x31 < (x29.length:Int) then (if x31 > 0 then (if 0 ≤ (wrap64 (x31 - 1)) then (if (wrap64 (x31 - 1)) < (x692000.length:Int) then (if x31 < (x692000.length:Int) then (if (rd x692000 (wrap64 (x31 - 1))) ≥ (rd x692000 x31) then (impl_TreeOk.j2 k x3 x31 x29 x30 x31 true x692000 x692001 ((rd_T59 x29 x31).f0)) else ((impl_NodeOk.f k ((rd_T59 x29 x31).f0)).bind fun t698=>(if t698 = true then ((impl_inBounds.f k x692000 x692001 x31).bind fun t699=>(impl_TreeOk.j2 k x3 x31 x29 x30 x31 (!t699) x692000 x692001 ((rd_T59 x29 x31).f0))) else (impl_TreeOk.j2 k x3 x31 x29 x30 x31 true x692000 x692001 ((rd_T59 x29 x31).f0))))) else (none)) else (none)) else (none)) else ((impl_NodeOk.f k ((rd_T59 x29 x31).f0)).bind fun t700=>(if t700 = true then ((impl_inBounds.f k x692000 x692001 x31).bind fun t701=>(impl_TreeOk.j2 k x3 x31 x29 x30 x31 (!t701) x692000 x692001 ((rd_T59 x29 x31).f0))) else (impl_TreeOk.j2 k x3 x31 x29 x30 x31 true x692000 x692001 ((rd_T59 x29 x31).f0))))) else (none)) else (none)) else (some (decide (x3 ≤ 60)))
def impl_TreeOk.j2:Nat → Int → Int → List (S59) → Int → Int → Bool → List Int → List (S59) → List (List (S38)) → Option (Bool)
 | 0,_,_,_,_,_,_,_,_,_=>none
 | k + 1,x3,x4,x29,x30,x31,x62,x692000,x692001,x696000=>if x62 = true then (some false) else ((impl_NodeKeys.f k x696000).bind fun t702=>(if x4 > 0 then (if (t702.length:Int) = 0 then (some false) else (impl_TreeOk.l0 k (wrap64 (x3 + (t702.length:Int))) x29 x30 (wrap64 (x31 + 1)) x692000 x692001)) else (impl_TreeOk.l0 k (wrap64 (x3 + (t702.length:Int))) x29 x30 (wrap64 (x31 + 1)) x692000 x692001)))
end
def impl_TreeOk.f (k:Nat) (l0_0:List Int) (l0_1:List (S59)):Option (Bool):=(impl_within.f (l0_1.length:Int) 1 20).bind fun t692=>(if t692 = true then (if (l0_0.length:Int) = (l0_1.length:Int) then (if 0 < (l0_0.length:Int) then (impl_TreeOk.j0 k ((rd l0_0 0) != 0) l0_0 l0_1) else (none)) else (impl_TreeOk.j0 k true l0_0 l0_1)) else (impl_TreeOk.j0 k true l0_0 l0_1))
def impl_TreeOk.T7:Bool × List (List Nat × List Nat):=(true,[([],[]),([0],[0]),([1],[1]),([2],[2]),([3,2],[2,3]),([2],[2]),([5,2],[2,5]),([4,6,2],[2,4,6]),([7,2],[2,7]),([2],[2]),([9,2],[2,9]),([2],[2]),([10,11,2],[2,10,11]),([12,2],[2,12]),([8,13,2],[2,8,13]),([2,14],[2,14]),([15,2],[15]),([16],[16]),([17,16,16],[16,17]),([18,16],[16,18]),([16,19],[16,19]),([20,18],[20]),([21],[21]),([21],[21]),([22,23,21,21],[21,22,23]),([24,21],[21,24]),([21,25],[21,25])])
def impl_TreeOk.B7:List Nat:=[0,1,3,7,15,7,39,127,255,7,519,7,3591,7687,16383,32767,65535,131071,262143,524287,1048575,2097151,4194303,4194303,16777215,33554431,67108863]
set_option linter.unusedVariables false
set_option linter.unusedSimpArgs false
def impl_copyInts.f (l0:List Int):Option (List Int):=(some (([]:List Int):List Int)).bind fun y705=>(if y705.length + l0.length < 17592186044416 then (some (y705 ++ l0)) else (none))
def impl_copyNode.l0:Nat → List (List (S38)) → Int → Int → List (List (S38)) → Option ((List (List (S38))))
 | 0,_,_,_,_=>none
 | k + 1,x8,x9,x10,x714000=>if x10 < x9 then (if 0 ≤ x10 then (if x10 < (x8.length:Int) then ((impl_copyKeys.f (rd_L6 x8 x10)).bind fun t715=>(if x714000.length < 5864062014805 then (impl_copyNode.l0 k x8 x9 (wrap64 (x10 + 1)) (x714000 ++ [t715])) else (none))) else (none)) else (none)) else (some x714000)
def impl_copyNode.f (k:Nat) (l0_0:List (List (S38))):Option ((List (List (S38)))):=impl_copyNode.l0 k l0_0 (l0_0.length:Int) 0 ([]:List (List (S38)))
theorem impl_copyNode.mono_l:∀ k,(∀ y0 y1 y2 y3,LeO (impl_copyNode.l0 k y0 y1 y2 y3) (impl_copyNode.l0 (k + 1) y0 y1 y2 y3))
 | 0=>fun _ _ _ _ r h=>by simp [impl_copyNode.l0] at h
 | k + 1=>by
  have ih0:=impl_copyNode.mono_l k
  ·intro y0 y1 y2 y3
   unfold impl_copyNode.l0
   repeat' first
   | (with_reducible exact ih0 _ _ _ _)
   | (with_reducible exact LeO.refl _)
   | (with_reducible exact LeO.none _)
   | (with_reducible refine LeO.ite ?_ ?_)
   | (with_reducible refine LeO.bind ?_ (fun _=>?_))
   | exact ih0 _ _ _ _
   | exact LeO.none _
   | refine LeO.ite ?_ ?_
   | refine LeO.bind ?_ (fun _=>?_)
theorem impl_copyNode.mono:∀ a0 k,LeO (impl_copyNode.f k a0) (impl_copyNode.f (k + 1) a0):=by
 intro a0 k
 have ih0:=impl_copyNode.mono_l k
 unfold impl_copyNode.f
 repeat' first
   | (with_reducible exact ih0 _ _ _ _)
   | (with_reducible exact LeO.refl _)
   | (with_reducible exact LeO.none _)
   | (with_reducible refine LeO.ite ?_ ?_)
   | (with_reducible refine LeO.bind ?_ (fun _=>?_))
   | exact ih0 _ _ _ _
   | exact LeO.none _
   | refine LeO.ite ?_ ?_
   | refine LeO.bind ?_ (fun _=>?_)
def impl_copyNode.T5:Bool × List (List Nat × List Nat):=(true,[([],[]),([0],[0]),([],[]),([2],[2]),([3],[3]),([1,4,3],[1,4]),([0,1,2,3,4,5],[]),([6,5,5,0,1,2,3,4,5],[5,6])])
def impl_copyNode.B5:List Nat:=[0,1,0,4,12,31,63,127]
def impl_copyTree.l0:Nat → List (S59) → Int → Int → List Int → List (S59) → Option (List Int × (List (S59)))
 | 0,_,_,_,_,_=>none
 | k + 1,x11,x12,x13,x727000,x727001=>if x13 < x12 then (if 0 ≤ x13 then (if x13 < (x11.length:Int) then ((impl_copyNode.f k ((rd_T59 x11 x13).f0)).bind fun t729=>(if x727001.length < 5864062014805 then (impl_copyTree.l0 k x11 x12 (wrap64 (x13 + 1)) x727000 (x727001 ++ [(⟨t729⟩:S59)])) else (none))) else (none)) else (none)) else (some (x727000,x727001))
def impl_copyTree.f (k:Nat) (l0_0:List Int) (l0_1:List (S59)):Option (List Int × (List (S59))):=(impl_copyInts.f l0_0).bind fun t723=>(impl_copyTree.l0 k l0_1 (l0_1.length:Int) 0 t723 ([]:List (S59)))
theorem impl_copyTree.mono_l:∀ k,(∀ y0 y1 y2 y3 y4,LeO (impl_copyTree.l0 k y0 y1 y2 y3 y4) (impl_copyTree.l0 (k + 1) y0 y1 y2 y3 y4))
 | 0=>fun _ _ _ _ _ r h=>by simp [impl_copyTree.l0] at h
 | k + 1=>by
  have ih0:=impl_copyTree.mono_l k
  ·intro y0 y1 y2 y3 y4
   unfold impl_copyTree.l0
   repeat' first
   | (with_reducible exact ih0 _ _ _ _ _)
   | (with_reducible exact impl_copyNode.mono _ _)
   | (with_reducible exact LeO.refl _)
   | (with_reducible exact LeO.none _)
   | (with_reducible refine LeO.ite ?_ ?_)
   | (with_reducible refine LeO.bind ?_ (fun _=>?_))
   | exact ih0 _ _ _ _ _
   | exact impl_copyNode.mono _ _
   | exact LeO.none _
   | refine LeO.ite ?_ ?_
   | refine LeO.bind ?_ (fun _=>?_)
theorem impl_copyTree.mono:∀ a0 a1 k,LeO (impl_copyTree.f k a0 a1) (impl_copyTree.f (k + 1) a0 a1):=by
 intro a0 a1 k
 have ih0:=impl_copyTree.mono_l k
 unfold impl_copyTree.f
 repeat' first
   | (with_reducible exact ih0 _ _ _ _ _)
   | (with_reducible exact impl_copyNode.mono _ _)
   | (with_reducible exact LeO.refl _)
   | (with_reducible exact LeO.none _)
   | (with_reducible refine LeO.ite ?_ ?_)
   | (with_reducible refine LeO.bind ?_ (fun _=>?_))
   | exact ih0 _ _ _ _ _
   | exact impl_copyNode.mono _ _
   | exact LeO.none _
   | refine LeO.ite ?_ ?_
   | refine LeO.bind ?_ (fun _=>?_)
def impl_copyTree.T5:Bool × List (List Nat × List Nat):=(true,[([],[]),([0],[0]),([],[]),([2],[2]),([3],[3]),([1,4,3],[1,4]),([0,1,2,3,4,5],[]),([6,5,5,0,1,2,3,4,5],[5,6])])
def impl_copyTree.B5:List Nat:=[0,1,0,4,12,31,63,127]
def impl_WhereIn.l0:Nat → Int → Int → Int → List Int → List (S59) → Option (Int)
 | 0,_,_,_,_,_=>none
 | k + 1,x1,x2,x7,x736000,x736001=>if x7 ≥ 0 then (if 0 ≤ x7 then (if x7 < (x736000.length:Int) then ((impl_SpotOf.f x1 x2).bind fun t737=>(if (rd x736000 x7) ≤ t737 then (some x7) else (impl_WhereIn.l0 k x1 x2 (wrap64 (x7 - 1)) x736000 x736001))) else (none)) else (none)) else (some (-1))
def impl_WhereIn.f (k:Nat) (l0_0:List Int) (l0_1:List (S59)) (a1:Int) (a2:Int):Option (Int):=impl_WhereIn.l0 k a1 a2 (wrap64 ((l0_0.length:Int) - 1)) l0_0 l0_1
set_option linter.unusedVariables false
set_option linter.unusedSimpArgs false
def impl_keysWith.f (k:Nat) (l0_0:List (List (S38))) (a1_0:Int) (a1_1:Int) (a1_2:Int) (a1_3:Int) (a1_4:Int):Option ((List (S38))):=(impl_NodeKeys.f k l0_0).bind fun t740=>((impl_SetPut.f k t740 a1_0 a1_1 a1_2 a1_3 a1_4).bind fun t743=>((impl_Drop.f k t743).bind fun t746=>(some t746)))
def impl_NodeNew.f (l0:List (S38)):Option ((List (List (S38)))):=if (l0.length:Int) = 0 then (some ([]:List (List (S38)))) else ((impl_copyKeys.f l0).bind fun t=>(some (([t]:List (List (S38))))))
def impl_SetAt.l0:Nat → Int → Int → List (S38) → Int → Int → Option (Int × Int × Int × Int × Int × Bool)
 | 0,_,_,_,_,_=>none
 | k + 1,x1,x2,x10,x11,x12=>if x12 < x11 then (if 0 ≤ x12 then (if x12 < (x10.length:Int) then (if ((rd_T38 x10 x12).f0) = x1 then (if ((rd_T38 x10 x12).f1) = x2 then (some ((rd_T38 x10 x12).f0,(rd_T38 x10 x12).f1,(rd_T38 x10 x12).f2,(rd_T38 x10 x12).f3,(rd_T38 x10 x12).f4,true)) else (impl_SetAt.l0 k x1 x2 x10 x11 (wrap64 (x12 + 1)))) else (impl_SetAt.l0 k x1 x2 x10 x11 (wrap64 (x12 + 1)))) else (none)) else (none)) else (some (0,0,0,0,0,false))
def impl_SetAt.f (k:Nat) (l0:List (S38)) (a1:Int) (a2:Int):Option (Int × Int × Int × Int × Int × Bool):=impl_SetAt.l0 k a1 a2 l0 (l0.length:Int) 0
set_option linter.unusedVariables false
set_option linter.unusedSimpArgs false
mutual
def impl_NodePut.j0:Nat → Int → Bool → List (List (S38)) → Int → Int → Int → Int → Int → List (List (S38)) → Option ((List (List (S38))) × Bool)
 | 0,_,_,_,_,_,_,_,_,_=>none
 | k + 1,x7,x8,x753000,x754000,x754001,x754002,x754003,x754004,x759000=>if x8 = true then (if 0 ≤ x7 then (if x7 < (x753000.length:Int) then ((impl_SetPut.f k (rd_L6 x753000 x7) x754000 x754001 x754002 x754003 x754004).bind fun t769=>(if x7 < (x759000.length:Int) then (impl_NodePut.j1 k x753000 x754000 x754001 x754002 x754003 x754004 (x759000.set (x7:Int).toNat t769)) else (none))) else (none)) else (none)) else (if x759000.length < 5864062014805 then (impl_NodePut.j1 k x753000 x754000 x754001 x754002 x754003 x754004 (x759000 ++ [(([(⟨x754000,x754001,x754002,x754003,x754004⟩:S38)]:List (S38)))])) else (none))
def impl_NodePut.j1:Nat → List (List (S38)) → Int → Int → Int → Int → Int → List (List (S38)) → Option ((List (List (S38))) × Bool)
 | 0,_,_,_,_,_,_,_=>none
 | k + 1,x753000,x754000,x754001,x754002,x754003,x754004,x759000=>(impl_NodeOk.f k x759000).bind fun t779=>(if t779 = true then (some (x759000,true)) else ((impl_keysWith.f k x753000 x754000 x754001 x754002 x754003 x754004).bind fun t780=>((impl_NodeNew.f t780).bind fun t783=>(if (t780.length:Int) > 8 then ((impl_copyNode.f k x753000).bind fun t787=>(some (t787,false))) else ((impl_NodeOk.f k t783).bind fun t790=>(if t790 = true then (some (t783,true)) else ((impl_copyNode.f k x753000).bind fun t791=>(some (t791,false)))))))))
end
def impl_NodePut.f (k:Nat) (l0_0:List (List (S38))) (a1_0:Int) (a1_1:Int) (a1_2:Int) (a1_3:Int) (a1_4:Int):Option ((List (List (S38))) × Bool):=(impl_copyNode.f k l0_0).bind fun t755=>(if (wrap64 ((l0_0.length:Int) - 1)) ≥ 0 then (if 0 ≤ (wrap64 ((l0_0.length:Int) - 1)) then (if (wrap64 ((l0_0.length:Int) - 1)) < (l0_0.length:Int) then ((impl_SetAt.f k (rd_L6 l0_0 (wrap64 ((l0_0.length:Int) - 1))) a1_0 a1_1).bind fun bt760=>(if bt760.2.2.2.2.2 = true then (impl_NodePut.j0 k (wrap64 ((l0_0.length:Int) - 1)) true l0_0 a1_0 a1_1 a1_2 a1_3 a1_4 t755) else (impl_NodePut.j0 k (wrap64 ((l0_0.length:Int) - 1)) (decide (((rd_L6 l0_0 (wrap64 ((l0_0.length:Int) - 1))).length:Int) < 4)) l0_0 a1_0 a1_1 a1_2 a1_3 a1_4 t755))) else (none)) else (none)) else (impl_NodePut.j0 k (wrap64 ((l0_0.length:Int) - 1)) false l0_0 a1_0 a1_1 a1_2 a1_3 a1_4 t755))
def impl_NodePut.T5:Bool × List (List Nat × List Nat):=(true,[([],[]),([0],[0]),([],[]),([1,2],[1,2]),([3],[3]),([],[]),([5],[5]),([],[]),([7],[7]),([4,6,8],[4,6,8]),([9],[9]),([10],[10]),([10],[10]),([],[]),([13,11,9,0,1,2,3,4,5,6,7,8,9,10,11,13],[11,13]),([12,14,0,1,2,3,4,5,6,7,8,9,10,11,12,13,14],[12])])
def impl_NodePut.B5:List Nat:=[0,1,0,7,15,0,32,0,128,511,1023,2047,2047,0,12287,32767]
def impl_NodePut.T8:Bool × List (List Nat × List Nat):=(true,[([],[]),([0],[0]),([],[]),([],[]),([3],[3]),([],[]),([4,5],[4,5]),([6],[6]),([],[]),([7,8],[7,8]),([1,2,0,1,2,3,4,5,6,7,8,9],[1,2]),([10,9,9,0,1,2,3,4,5,6,7,8,9],[9,10])])
def impl_NodePut.B8:List Nat:=[0,1,0,0,8,0,56,120,0,504,1023,2047]
set_option linter.unusedVariables false
set_option linter.unusedSimpArgs false
def impl_replaced.f (l0_0:List Int) (l0_1:List (S59)) (a1:Int) (a2:Int) (l3:List Int) (l4:List (S59)):Option (List Int × (List (S59))):=if 0 ≤ a1 then (if a1 ≤ (l0_0.length:Int) then ((impl_copyInts.f (l0_0.take (a1:Int).toNat)).bind fun t797=>(if t797.length + l3.length < 17592186044416 then ((some (t797 ++ l3:List Int)).bind fun y801=>(if 0 ≤ (wrap64 (a1 + a2)) then (if (wrap64 (a1 + a2)) ≤ (l0_0.length:Int) then (if y801.length + (l0_0.drop ((wrap64 (a1 + a2)):Int).toNat).length < 17592186044416 then ((some (([]:List (S59)):List (S59))).bind fun y808=>(if a1 ≤ (l0_1.length:Int) then ((some (l0_1.take (a1:Int).toNat:List (S59))).bind fun y811=>(if y808.length + y811.length < 5864062014805 then ((some (y808 ++ y811:List (S59))).bind fun y816=>(if y816.length + l4.length < 5864062014805 then ((some (y816 ++ l4:List (S59))).bind fun y819=>(if (wrap64 (a1 + a2)) ≤ (l0_1.length:Int) then ((some (l0_1.drop ((wrap64 (a1 + a2)):Int).toNat:List (S59))).bind fun y822=>(if y819.length + y822.length < 5864062014805 then (some ((y801 ++ (l0_0.drop ((wrap64 (a1 + a2)):Int).toNat)),(y819 ++ y822))) else (none))) else (none))) else (none))) else (none))) else (none))) else (none)) else (none)) else (none))) else (none))) else (none)) else (none)
def impl_replaced.T2:Bool × List (List Nat × List Nat):=(true,[([],[]),([0],[0]),([],[]),([1,2],[1,2]),([],[]),([4],[4]),([],[]),([],[]),([6,7],[6,7]),([5,8],[5,8]),([3,9,3],[3,9]),([0,1,2,3,4,5,6,7,8,9,10],[]),([11,10,10,0,1,2,3,4,5,6,7,8,9,10],[10,11])])
def impl_replaced.B2:List Nat:=[0,1,0,7,0,16,0,0,192,496,1023,2047,4095]
def impl_replaced.T3:Bool × List (List Nat × List Nat):=(true,[([],[]),([],[]),([1],[1]),([],[]),([2,3],[2,3]),([0,4],[0,4]),([],[]),([5,6,5],[5,6]),([],[]),([8],[8]),([],[]),([],[]),([10,11],[10,11]),([9,12],[9,12]),([7,13,7],[7,13]),([0,1,2,3,4,5,6,7,8,9,10,11,12,13,14],[]),([15,14,14,0,1,2,3,4,5,6,7,8,9,10,11,12,13,14],[14,15])])
def impl_replaced.B3:List Nat:=[0,0,2,0,14,31,0,127,0,256,0,0,3072,7936,16383,32767,65535]
set_option linter.unusedVariables false
set_option linter.unusedSimpArgs false
def impl_merged.l0:Nat → Int → List Int → List (S59) → Option (List Int × (List (S59)))
 | 0,_,_,_=>none
 | k + 1,x3,x831000,x831001=>if (wrap64 (x3 + 1)) < (x831001.length:Int) then (if 0 ≤ x3 then (if x3 < (x831001.length:Int) then ((impl_NodeKeys.f k ((rd_T59 x831001 x3).f0)).bind fun t833=>(if 0 ≤ (wrap64 (x3 + 1)) then ((impl_NodeKeys.f k ((rd_T59 x831001 (wrap64 (x3 + 1))).f0)).bind fun t837=>(if t833.length + t837.length < 3518437208883 then ((some (t833 ++ t837:List (S38))).bind fun y840=>(if (y840.length:Int) ≤ 6 then (if x3 < (x831000.length:Int) then ((impl_NodeNew.f y840).bind fun t847=>((impl_replaced.f x831000 x831001 x3 2 (([rd x831000 x3]:List Int)) (([(⟨t847⟩:S59)]:List (S59)))).bind fun bt853=>(impl_merged.l0 k ((-1) + 1) bt853.1 bt853.2))) else (none)) else (impl_merged.l0 k (wrap64 (x3 + 1)) x831000 x831001))) else (none))) else (none))) else (none)) else (none)) else (some (x831000,x831001))
def impl_merged.f (k:Nat) (l0_0:List Int) (l0_1:List (S59)):Option (List Int × (List (S59))):=impl_merged.l0 k 0 l0_0 l0_1
def impl_merged.T4:Bool × List (List Nat × List Nat):=(true,[([],[]),([0],[0]),([],[]),([1,2],[1,2]),([3],[3]),([4],[4]),([],[]),([6],[6]),([],[]),([8],[8]),([7,9],[7,9]),([10],[10]),([11,5],[11]),([5,12,12],[5,12]),([13,13,0,1,2,3,4,5,6,7,8,9,10,11,12,13],[13])])
def impl_merged.B4:List Nat:=[0,1,0,7,15,31,0,64,0,256,960,1984,4095,8191,16383]
def impl_merged.T6:Bool × List (List Nat × List Nat):=(true,[([],[]),([],[]),([],[]),([2],[2]),([],[]),([3,4],[3,4]),([5],[5]),([6],[6]),([],[]),([8],[8]),([9],[9]),([0,1,7,10,9],[0,1,7,10]),([11,11,0,1,2,3,4,5,6,7,8,9,10,11],[11])])
def impl_merged.B6:List Nat:=[0,0,0,4,0,28,60,124,0,256,768,2047,4095]
end Go.Proofs.Ytamjbjkbineafaa.PFnExactTreePut

namespace Go.Proofs.Ytamjbjkbineafaa.PFnExactTreePut
open Go.RowKit Go.Proofs.YtamjbjkbineafaaW.PrintWords Go.Proofs.YtamjbjkbineafaaW.PrintLast Go.Proofs.YtamjbjkbineafaaW.PrintMore
set_option linter.unusedVariables false
set_option linter.unusedSimpArgs false
mutual
def spec_TreePut.j0:Nat → Bool → List Int → List (S59) → Int → Int → Int → Int → Int → List Int → List (S59) → Option (List Int × (List (S59)) × Bool)
 | 0,_,_,_,_,_,_,_,_,_,_=>none
 | k + 1,x22,x482000,x482001,x483000,x483001,x483002,x483003,x483004,x491000,x491001=>if x22 = true then (some (x491000,x491001,false)) else ((spec_WhereIn.f k x482000 x482001 x483000 x483001).bind fun t493=>(if 0 ≤ t493 then (if t493 < (x482001.length:Int) then ((spec_NodePut.f k ((rd_T59 x482001 t493).f0) x483000 x483001 x483002 x483003 x483004).bind fun bt495=>(if t493 < (x482000.length:Int) then ((spec_l6Set.f x491000 x491001 t493 (([rd x482000 t493]:List Int)) (([(⟨bt495.1⟩:S59)]:List (S59)))).bind fun bt507=>(if bt495.2 = true then (if t493 > 0 then ((spec_NodeKeys.f k bt495.1).bind fun t514=>(if (t514.length:Int) = 0 then ((spec_l6Set.f x491000 x491001 t493 (([]:List Int)) (([]:List (S59)))).bind fun bt523=>(spec_TreePut.j1 k x491000 x491001 bt523.1 bt523.2)) else (spec_TreePut.j1 k x491000 x491001 bt507.1 bt507.2))) else (spec_TreePut.j1 k x491000 x491001 bt507.1 bt507.2)) else ((spec_NodeKeys.f k ((rd_T59 x482001 t493).f0)).bind fun t530=>((spec_SetPut.f k t530 x483000 x483001 x483002 x483003 x483004).bind fun t533=>((spec_Drop.f k t533).bind fun t536=>(if 0 ≤ (wrap64 (Int.tdiv (wrap64 ((t536.length:Int) + 1)) 2)) then (if (wrap64 (Int.tdiv (wrap64 ((t536.length:Int) + 1)) 2)) < (t536.length:Int) then ((spec_l6Spot.f ((rd_T38 t536 (wrap64 (Int.tdiv (wrap64 ((t536.length:Int) + 1)) 2))).f0) ((rd_T38 t536 (wrap64 (Int.tdiv (wrap64 ((t536.length:Int) + 1)) 2))).f1) ((rd_T38 t536 (wrap64 (Int.tdiv (wrap64 ((t536.length:Int) + 1)) 2))).f2) ((rd_T38 t536 (wrap64 (Int.tdiv (wrap64 ((t536.length:Int) + 1)) 2))).f3) ((rd_T38 t536 (wrap64 (Int.tdiv (wrap64 ((t536.length:Int) + 1)) 2))).f4)).bind fun t541=>(if (wrap64 (Int.tdiv (wrap64 ((t536.length:Int) + 1)) 2)) ≤ (t536.length:Int) then ((spec_NodeNew.f (t536.take ((wrap64 (Int.tdiv (wrap64 ((t536.length:Int) + 1)) 2)):Int).toNat)).bind fun t550=>((spec_NodeNew.f (t536.drop ((wrap64 (Int.tdiv (wrap64 ((t536.length:Int) + 1)) 2)):Int).toNat)).bind fun t558=>((spec_l6Set.f x491000 x491001 t493 (([rd x482000 t493,t541]:List Int)) (([(⟨t550⟩:S59),(⟨t558⟩:S59)]:List (S59)))).bind fun bt564=>(spec_TreePut.j1 k x491000 x491001 bt564.1 bt564.2)))) else (none))) else (none)) else (none))))))) else (none))) else (none)) else (none)))
def spec_TreePut.j1:Nat → List Int → List (S59) → List Int → List (S59) → Option (List Int × (List (S59)) × Bool)
 | 0,_,_,_,_=>none
 | k + 1,x491000,x491001,x514000,x514001=>(spec_l6Join.f k x514000 x514001).bind fun bt570=>((spec_TreeOk.f k bt570.1 bt570.2).bind fun t576=>(if t576 = true then (some (bt570.1,bt570.2,true)) else (some (x491000,x491001,false))))
end
def spec_TreePut.f (k:Nat) (l0_0:List Int) (l0_1:List (S59)) (a1_0:Int) (a1_1:Int) (a1_2:Int) (a1_3:Int) (a1_4:Int):Option (List Int × (List (S59)) × Bool):=(spec_l6Copy.f k l0_0 l0_1).bind fun bt484=>((spec_TreeOk.f k l0_0 l0_1).bind fun t491=>(if t491 = true then ((spec_KeyOk.f k a1_0 a1_1 a1_2 a1_3 a1_4).bind fun t492=>(spec_TreePut.j0 k (!t492) l0_0 l0_1 a1_0 a1_1 a1_2 a1_3 a1_4 bt484.1 bt484.2)) else (spec_TreePut.j0 k true l0_0 l0_1 a1_0 a1_1 a1_2 a1_3 a1_4 bt484.1 bt484.2)))
mutual
def impl_TreePut.j0:Nat → Bool → List Int → List (S59) → Int → Int → Int → Int → Int → Option (List Int × (List (S59)) × Bool)
 | 0,_,_,_,_,_,_,_,_=>none
 | k + 1,x,s,l,a0,a1,a2,a3,a4=>if x = true then ((impl_copyTree.f k s l).bind fun c=>(some (c.1,c.2,false))) else ((impl_WhereIn.f k s l a0 a1).bind fun i=>((impl_copyTree.f k s l).bind fun o=>(if 0 ≤ i then (if i < (o.2.length:Int) then ((impl_NodePut.f k ((rd_T59 o.2 i).f0) a0 a1 a2 a3 a4).bind fun b=>(if b.2 = true then (if i > 0 then ((impl_NodeKeys.f k b.1).bind fun t=>(if (t.length:Int) = 0 then ((impl_replaced.f o.1 o.2 i 1 ([]:List Int) ([]:List (S59))).bind fun u=>(impl_TreePut.j1 k s l u.1 u.2)) else (impl_TreePut.j1 k s l o.1 (o.2.set i.toNat (⟨b.1⟩:S59))))) else (impl_TreePut.j1 k s l o.1 (o.2.set i.toNat (⟨b.1⟩:S59)))) else ((impl_keysWith.f k ((rd_T59 o.2 i).f0) a0 a1 a2 a3 a4).bind fun y=>(if 0 ≤ (wrap64 (Int.tdiv (wrap64 ((y.length:Int) + 1)) 2)) then (if (wrap64 (Int.tdiv (wrap64 ((y.length:Int) + 1)) 2)) < (y.length:Int) then (if i < (s.length:Int) then (if (wrap64 (Int.tdiv (wrap64 ((y.length:Int) + 1)) 2)) ≤ (y.length:Int) then ((impl_SpotOf.f ((rd_T38 y (wrap64 (Int.tdiv (wrap64 ((y.length:Int) + 1)) 2))).f0) ((rd_T38 y (wrap64 (Int.tdiv (wrap64 ((y.length:Int) + 1)) 2))).f1)).bind fun p=>((impl_NodeNew.f (y.take ((wrap64 (Int.tdiv (wrap64 ((y.length:Int) + 1)) 2)):Int).toNat)).bind fun n1=>((impl_NodeNew.f (y.drop ((wrap64 (Int.tdiv (wrap64 ((y.length:Int) + 1)) 2)):Int).toNat)).bind fun n2=>((impl_replaced.f o.1 o.2 i 1 ([rd s i,p]:List Int) ([(⟨n1⟩:S59),(⟨n2⟩:S59)]:List (S59))).bind fun u=>(impl_TreePut.j1 k s l u.1 u.2))))) else (none)) else (none)) else (none)) else (none))))) else (none)) else (none))))
def impl_TreePut.j1:Nat → List Int → List (S59) → List Int → List (S59) → Option (List Int × (List (S59)) × Bool)
 | 0,_,_,_,_=>none
 | k + 1,s,l,o0,o1=>(impl_merged.f k o0 o1).bind fun b=>((impl_TreeOk.f k b.1 b.2).bind fun t=>(if t = true then (some (b.1,b.2,true)) else ((impl_copyTree.f k s l).bind fun c=>(some (c.1,c.2,false)))))
end
def impl_TreePut.f (k:Nat) (s:List Int) (l:List (S59)) (a0:Int) (a1:Int) (a2:Int) (a3:Int) (a4:Int):Option (List Int × (List (S59)) × Bool):=(impl_TreeOk.f k s l).bind fun t=>(if t = true then ((impl_KeyOk.f k a0 a1 a2 a3 a4).bind fun u=>(impl_TreePut.j0 k (!u) s l a0 a1 a2 a3 a4)) else (impl_TreePut.j0 k true s l a0 a1 a2 a3 a4))
end Go.Proofs.Ytamjbjkbineafaa.PFnExactTreePut

namespace Go.Proofs.Ytamjbjkbineafaa.Core
open Go.RowKit Go.Proofs.YtamjbjkbineafaaW.PrintWords
theorem w64 {x:Int} (h0:-9223372036854775808 ≤ x) (h1:x ≤ 9223372036854775807):wrap64 x = x:=by unfold wrap64;omega
theorem w64s (n:Nat) (h:n ≤ 4611686018427387904):wrap64 ((n:Int) + 1) = ((n + 1:Nat):Int):=by unfold wrap64;omega
theorem evOf {α:Type} {g:Nat → Option α} {r:α} (h:∀ k,g k = some r):Ev g r:=⟨0,fun k _=>h k⟩
theorem evGet {α:Type} {g:Nat → Option α} {r:α} (h:Ev g r):∃ k,g k = some r:=by
 obtain ⟨K,h⟩:=h
 exact ⟨K,h K (Nat.le_refl _)⟩
theorem evSucc {α:Type} {g:Nat → Option α} {r:α} (h:∃ K d,∀ k,K ≤ k → g (k + d) = some r):Ev g r:=by
 obtain ⟨K,d,h⟩:=h
 refine ⟨K + d,fun k hk=>?_⟩
 obtain ⟨m,rfl⟩:∃ m,k = m + d:=⟨k - d,vG⟩
 exact h m tD
theorem evRange {σ ρ:Type} (n:Nat) (l:Nat → σ → Int → Option ρ) (Inv:Nat → σ → Prop) (M:Nat → σ → ρ)
  (step:∀ i s,i < n → Inv i s → (∃ s',Inv (i + 1) s' ∧ M (i + 1) s' = M i s ∧ ∃ K d,∀ k,K ≤ k → l (k + d) s (i:Int) = l k s' ((i + 1:Nat):Int)) ∨ (∃ K d,∀ k,K ≤ k → l (k + d) s (i:Int) = some (M i s)))
  (done:∀ s,Inv n s → ∃ K d,∀ k,K ≤ k → l (k + d) s (n:Int) = some (M n s)) :
  ∀ i s,i ≤ n → Inv i s → Ev (fun k=>l k s (i:Int)) (M i s):=by
 have key:∀ d i s,n - i = d → i ≤ n → Inv i s → Ev (fun k=>l k s (i:Int)) (M i s):=by
  intro d
  induction d with
  | zero =>
   intro i s hd hi hinv
   obtain rfl:i = n:=by omega
   exact evSucc (done s hinv)
  | succ d ih =>
   intro i s hd hi hinv
   rcases step i s tD hinv with ⟨s',hinv',hM,K,e,h⟩|h
   ·obtain ⟨K',h'⟩:=ih (i + 1) s' tD tD hinv'
    refine evSucc ⟨K + K',e,fun k hk'=>?_⟩
    show l (k + e) s i = _
    rw [h k tD,← hM]
    exact h' k tD
   ·exact evSucc h
 exact fun i s hi=>key _ i s rfl hi
theorem evRange0 {σ ρ:Type} (n:Nat) (l:Nat → σ → Int → Option ρ) (Inv:Nat → σ → Prop) (M:Nat → σ → ρ) (s:σ) (h0:Inv 0 s)
  (step:∀ i s,i < n → Inv i s → (∃ s',Inv (i + 1) s' ∧ M (i + 1) s' = M i s ∧ ∃ K d,∀ k,K ≤ k → l (k + d) s (i:Int) = l k s' ((i + 1:Nat):Int)) ∨ (∃ K d,∀ k,K ≤ k → l (k + d) s (i:Int) = some (M i s)))
  (done:∀ s,Inv n s → ∃ K d,∀ k,K ≤ k → l (k + d) s (n:Int) = some (M n s)) :
  Ev (fun k=>l k s 0) (M 0 s):=evRange n l Inv M step done 0 s (Nat.zero_le _) h0
def allFrom (p:Nat → Bool) (n i:Nat):Bool:=(List.range' i (n - i)).all p
theorem allFrom_lt {p:Nat → Bool} {n i:Nat} (h:i < n):allFrom p n i = (p i && allFrom p n (i + 1)):=by
 unfold allFrom
 rw [show n - i = (n - (i + 1)) + 1 by omega,List.range'_succ,List.all_cons]
theorem allFrom_end (p:Nat → Bool) (n:Nat):allFrom p n n = true:=by simp [allFrom]
theorem allFrom_iff {p:Nat → Bool} {n i:Nat}:allFrom p n i = true ↔ ∀ j,i ≤ j → j < n → p j = true:=by
 simp only [allFrom,List.all_eq_true,List.mem_range'_1]
 constructor
 ·intro h j h1 h2;exact h j ⟨h1,vG⟩
 ·intro h j hj;exact h j hj.1 tD
theorem evAll (n:Nat) (l:Nat → Int → Option Bool) (p:Nat → Bool) (fin:Bool)
  (step:∀ i,i < n → ∃ K d,∀ k,K ≤ k → l (k + d) (i:Int) = if p i = true then l k ((i + 1:Nat):Int) else some false)
  (done:∃ K d,∀ k,K ≤ k → l (k + d) (n:Int) = some fin) (i:Nat) (hi:i ≤ n):Ev (fun k=>l k (i:Int)) (allFrom p n i && fin):=by
 refine evRange (σ:=Unit) n (fun k _ i=>l k i) (fun _ _=>True) (fun i _=>allFrom p n i && fin) ?_ ?_ i () hi trivial
 ·intro i _ hi _
  obtain ⟨K,d,h⟩:=step i hi
  cases hp:p i with
  | true=>exact .inl ⟨(),trivial,by simp [allFrom_lt hi,hp],K,d,fun k hk=>by simp only [h k hk,hp,if_true]⟩
  | false=>exact .inr ⟨K,d,fun k hk=>by simp only [h k hk,hp,allFrom_lt hi,Bool.false_and];rfl⟩
 ·intro _ _
  obtain ⟨K,d,h⟩:=done
  exact ⟨K,d,fun k hk=>by rw [h k hk,allFrom_end,Bool.true_and]⟩
def fill {β:Type} (c:Nat → β) (l:List β) (i:Nat):List β:=(List.range i).map c ++ l.drop i
theorem fill_zero {β:Type} (c:Nat → β) (l:List β):fill c l 0 = l:=by simp [fill]
theorem fill_length {β:Type} (c:Nat → β) (l:List β) (i:Nat) (h:i ≤ l.length):(fill c l i).length = l.length:=by simp [fill];omega
theorem fill_all {β:Type} (c:Nat → β) (l:List β):fill c l l.length = (List.range l.length).map c:=by simp [fill]
theorem fill_getElem? {β:Type} (c:Nat → β) (l:List β) (i j:Nat):(fill c l i)[j]? = if j < i then some (c j) else l[j]?:=by
 unfold fill
 by_cases h:j < i
 ·rw [if_pos h,List.getElem?_append_left (by simpa using h)];simp [h]
 ·rw [if_neg h,List.getElem?_append_right (by simp;omega),List.getElem?_drop];simp;congr 1;omega
theorem fill_set {β:Type} (c:Nat → β) (l:List β) (i:Nat) (h:i < l.length) {v:β} (hv:v = c i):(fill c l i).set i v = fill c l (i + 1):=by
 subst hv
 apply List.ext_getElem?
 intro j
 rw [List.getElem?_set,fill_getElem?,fill_getElem?,fill_length c l i tD]
 by_cases e:i = j
 ·subst e;simp [h]
 ·rw [if_neg e]
  by_cases h1:j < i
  ·rw [if_pos h1,if_pos tD]
  ·rw [if_neg h1,if_neg tD]
theorem range_getD {β:Type} (c:Nat → β) (n i:Nat) (z:β) (h:i < n):((List.range n).map c).getD i z = c i:=by
 rw [List.getD_eq_getElem?_getD];simp [h]
theorem range_map {α β:Type} (f:α → β) (l:List α) (z:α):(List.range l.length).map (fun i=>f (l.getD i z)) = l.map f:=by
 apply List.ext_getElem?
 intro j
 by_cases h:j < l.length
 ·simp [h]
 ·simp [h]
theorem range_id {α:Type} (l:List α) (z:α):(List.range l.length).map (fun i=>l.getD i z) = l:=by
 rw [range_map (fun x=>x)];simp
theorem drop_getD {α:Type} (l:List α) (i:Nat) (z:α) (h:i < l.length):l.drop i = l.getD i z :: l.drop (i + 1):=by
 rw [List.drop_eq_getElem_cons h,List.getD_eq_getElem?_getD,List.getElem?_eq_getElem h];rfl
theorem take_getD {α:Type} (l:List α) (i:Nat) (z:α) (h:i < l.length):l.take (i + 1) = l.take i ++ [l.getD i z]:=by
 rw [List.take_succ_eq_append_getElem h,List.getD_eq_getElem?_getD,List.getElem?_eq_getElem h];rfl
theorem getD_mem {α:Type} (l:List α) (i:Nat) (z:α) (h:i < l.length):l.getD i z ∈ l:=by
 rw [List.getD_eq_getElem?_getD,List.getElem?_eq_getElem h];exact List.getElem_mem h
theorem rd_nat (l:List Int) (i:Nat):rd l (i:Int) = l.getD i 0:=by simp [rd]
end Go.Proofs.Ytamjbjkbineafaa.Core

namespace Go.Proofs.Ytamjbjkbineafaa.Core
open Go.RowKit Go.Proofs.YtamjbjkbineafaaW.PrintWords
section
variable {α:Type} (mk:α → Int → α) (cnt:α → Int)
def cntL:List α → Int
 | []=>0
 | x :: xs=>cnt x + cntL xs
def mkL:List α → Int → List α
 | [],_=>[]
 | x :: xs,a=>mk x a :: mkL xs (a + cnt x)
theorem mkL_length:∀ (l:List α) (a:Int),(mkL mk cnt l a).length = l.length
 | [],_=>rfl
 | x :: xs,a=>by simp only [mkL,List.length_cons,mkL_length xs]
theorem cntL_take (z:α):∀ (l:List α) (i:Nat),i < l.length → cntL cnt (l.take (i + 1)) = cntL cnt (l.take i) + cnt (l.getD i z)
 | x :: xs,0,_=>by simp [cntL]
 | x :: xs,i + 1,h=>by
  have:=cntL_take z xs i (by simpa using h)
  simp only [List.take_succ_cons,cntL,List.getD_cons_succ,this]
  omega
theorem cntL_nn (h:∀ x,0 ≤ cnt x):∀ l:List α,0 ≤ cntL cnt l
 | []=>by simp [cntL]
 | x :: xs=>by have:=cntL_nn h xs;have:=h x;simp only [cntL];omega
theorem cntL_take_le (h:∀ x,0 ≤ cnt x):∀ (l:List α) (i:Nat),cntL cnt (l.take i) ≤ cntL cnt l
 | [],i=>by simp [cntL]
 | x :: xs,0=>by have:=cntL_nn cnt h xs;have:=h x;simp only [List.take_zero,cntL];omega
 | x :: xs,i + 1=>by have:=cntL_take_le h xs i;simp only [List.take_succ_cons,cntL];omega
theorem mkL_getD (z:α):∀ (l:List α) (a:Int) (i:Nat),i < l.length → (mkL mk cnt l a).getD i z = mk (l.getD i z) (a + cntL cnt (l.take i))
 | x :: xs,a,0,_=>by simp [mkL,cntL]
 | x :: xs,a,i + 1,h=>by
  have:=mkL_getD z xs (a + cnt x) i (by simpa using h)
  simp only [mkL,List.getD_cons_succ,List.take_succ_cons,cntL]
  rw [this]
  congr 1
  omega
/-- The first i are marked. -/
def midL (l:List α) (a:Int) (i:Nat):List α:=(mkL mk cnt l a).take i ++ l.drop i
theorem midL_zero (l:List α) (a:Int):midL mk cnt l a 0 = l:=by simp [midL]
theorem midL_all (l:List α) (a:Int):midL mk cnt l a l.length = mkL mk cnt l a:=by
 simp only [midL,List.drop_length,List.append_nil]
 rw [List.take_of_length_le (by rw [mkL_length];omega)]
theorem midL_length (l:List α) (a:Int) (i:Nat) (h:i ≤ l.length):(midL mk cnt l a i).length = l.length:=by
 simp only [midL,List.length_append,List.length_take,List.length_drop,mkL_length]
 omega
theorem midL_getElem? (l:List α) (a:Int) (i j:Nat) (h:i ≤ l.length):(midL mk cnt l a i)[j]? = if j < i then (mkL mk cnt l a)[j]? else l[j]?:=by
 have hl:((mkL mk cnt l a).take i).length = i:=by rw [List.length_take,mkL_length];omega
 unfold midL
 by_cases hj:j < i
 ·rw [if_pos hj,List.getElem?_append_left tD,List.getElem?_take,if_pos hj]
 ·rw [if_neg hj,List.getElem?_append_right tD,List.getElem?_drop,hl]
  congr 1
  omega
theorem midL_getD (z:α) (l:List α) (a:Int) (i:Nat) (h:i < l.length):(midL mk cnt l a i).getD i z = l.getD i z:=by
 rw [List.getD_eq_getElem?_getD,List.getD_eq_getElem?_getD,midL_getElem? mk cnt l a i i tD,if_neg tD]
theorem midL_set (z:α) (l:List α) (a:Int) (i:Nat) (h:i < l.length):(midL mk cnt l a i).set i (mk (l.getD i z) (a + cntL cnt (l.take i))) = midL mk cnt l a (i + 1):=by
 apply List.ext_getElem?
 intro j
 rw [List.getElem?_set,midL_length mk cnt l a i tD,midL_getElem? mk cnt l a i j tD,midL_getElem? mk cnt l a (i + 1) j tD]
 by_cases hj:i = j
 ·subst hj
  rw [if_pos rfl,if_pos h,if_pos tD,← mkL_getD mk cnt z l a i h,List.getD_eq_getElem?_getD,List.getElem?_eq_getElem (by rw [mkL_length];exact h)]
  rfl
 ·rw [if_neg hj]
  by_cases h1:j < i
  ·rw [if_pos h1,if_pos tD]
  ·rw [if_neg h1,if_neg tD]
end
/-- The blocks from lo on, below hi. -/
def In (lo hi k:Nat):Prop:=lo ≤ k ∧ k < hi
theorem In.off {a b c d:Nat} (h:b ≤ c):∀ k,In a b k → ¬ In c d k:=fun _ h1 h2=>by unfold In at *;omega
namespace Mem
open Kd
section
variable {α:Type} {d:Kd α} {e n m c base lo hi top:Nat} {w w1 W:World} {A:Option Addr} {v:Value} {xs:List α} {ok P:Nat → Prop}
theorem times (hs:top ≤ W.heap.size) (hb:Below W.heap.size W w1):∃ lo hi,lo = W.heap.size ∧ hi = w1.heap.size ∧ top ≤ lo ∧ lo ≤ hi:=⟨_,_,rfl,rfl,hs,hb.size⟩
theorem new_R (h:d.R e w1 lo ok v xs) (eh:hi = w1.heap.size):∃ A c,v = .slice A xs.length c ∧ xs.length ≤ c ∧ F d w1 (In lo hi) A xs.length xs ∧ d.R e w1 lo (In lo hi) (.slice A xs.length c) xs:=by
 subst eh
 obtain ⟨A,c,rfl,hl,_⟩:=R_reads h
 have h2:d.R e w1 lo (In lo w1.heap.size) (.slice A xs.length c) xs:=R_mono (R_bound h) (fun k hk=>⟨hk.2.1,hk.2.2.1⟩)
 exact ⟨A,c,rfl,hl,R_F h2,h2⟩
theorem new_S (h:Kd.S d e w1 lo ok v xs) (eh:hi = w1.heap.size):∃ A c,v = .slice A xs.length c ∧ xs.length ≤ c ∧ F d w1 (In lo hi) A xs.length xs ∧ Kd.S d e w1 lo (In lo hi) (.slice A xs.length c) xs:=by
 subst eh
 obtain ⟨A,c,rfl,hl,_⟩:=S_reads h
 have h2:Kd.S d e w1 lo (In lo w1.heap.size) (.slice A xs.length c) xs:=S_mono (S_bound h) (fun k hk=>⟨hk.2.1,hk.2.2.1⟩)
 exact ⟨A,c,rfl,hl,S_F h2,h2⟩
end
theorem back_V {α:Type} {d:Kd α} {e m c base lo:Nat} {w1:World} {A:Option Addr} {xs:List α} {ok:Nat → Prop} {h2:Nat} (h:Kd.V d e w1 base ok (.slice A m c) xs) (hl:∀ k,ok k → lo ≤ k) (eh:h2 = w1.heap.size):m = xs.length ∧ xs.length ≤ c ∧ Kd.F d w1 (In lo h2) A xs.length xs:=by
 subst eh
 obtain ⟨A',c',e,hc,hf⟩:=h
 injection e with e1 e2 e3
 subst e1
 subst e2
 subst e3
 exact ⟨rfl,hc,Kd.F_mono (Kd.F_bound hf) (fun k hk=>⟨hl k hk.1,hk.2⟩)⟩
theorem lent {α:Type} {d:Kd α} {e e2 g n cap base:Nat} {P:Nat → Prop} {W:World} {xs:List (List α)} (h:Kd.S (Kd.slice e d) e2 W base P (.slice (some ⟨g,0,none⟩) n cap) xs) (i:Int) (h0:0 ≤ i) (h1:i < n) (hnew:∀ k,W.heap.size ≤ k → P k) :
  ∃ (oki:Nat → Prop) (v:Value),(∀ k,oki k → P k) ∧ d.R e W base oki v (xs.getD i.toNat []) ∧ W.cell? ⟨g,i.toNat,none⟩ = some v ∧
   ∀ (w1:World) (x':List α),Kept W w1 oki → d.R e w1 base (fun k=>oki k ∨ W.heap.size ≤ k) v x' → Kd.S (Kd.slice e d) e2 w1 base P (.slice (some ⟨g,0,none⟩) n cap) (xs.set i.toNat x'):=by
 obtain ⟨oki,c,hcl,hM,hcc,hoki,hH⟩:=S_lend h [] i h0 h1
 obtain ⟨v,rfl,hR⟩:=hM
 refine ⟨oki,v,fun k hk=>(hoki k hk).1,hR,?_,fun w1 x' hk hR'=>?_⟩
 ·have:=hcc 0 v rfl
  simpa [show (Kd.slice e d).sz = 1 from rfl] using this
 ·refine H_back (H_step (H_widen hH) (fun k ho hn hlt=>hk.2 k hlt (fun h2=>hn (.inl h2)))) (okp:=fun k=>oki k ∨ W.heap.size ≤ k) ⟨v,rfl,hR'⟩ (fun k hk'=>?_)
  rcases hk' with hk' | hk'
  ·exact .inl hk'
  ·exact .inr ⟨hnew k hk',hk'⟩
end Mem
end Go.Proofs.Ytamjbjkbineafaa.Core

namespace Go.Proofs.Ytamjbjkbineafaa.Pure
open Go.RowKit Go.Proofs.Ytamjbjkbineafaa.PFnExactTreePut Go.Proofs.Ytamjbjkbineafaa.Core Go.Proofs.YtamjbjkbineafaaW.PrintWords Go.Proofs.YtamjbjkbineafaaW.PrintLast Go.Proofs.YtamjbjkbineafaaW.PrintMore
set_option linter.unusedSimpArgs false
set_option linter.unusedVariables false
def okIntS (l:List Int):Prop:=l.length ≤ 4194304
def cntIntS (l:List Int):Int:=l.length
theorem cntIntS_nn {l:List Int} (h:okIntS l):0 ≤ cntIntS l ∧ cntIntS l ≤ 1073741824:=by unfold okIntS at h;unfold cntIntS;omega
def inIntS (l:List Int):Prop:=l.length ≤ 1048576
theorem ok_of_inIntS {l:List Int} (h:inIntS l):okIntS l:=by unfold inIntS at h;unfold okIntS;omega
def sumIntS (l:List Int):Int:=l.length
theorem sumIntS_nn (l:List Int):0 ≤ sumIntS l:=by unfold sumIntS;omega
theorem in_of_sumIntS {l:List Int} (h:sumIntS l ≤ 1048576):inIntS l:=by unfold sumIntS at h;unfold inIntS;omega
theorem szIntS_f (l:List Int) (a:Int) (hl:l.length ≤ 9223372036854775807) (h0:0 ≤ a) (h1:a ≤ 1048576):laws_szIntS.f l a = some (if a < sumIntS l then -1 else a - sumIntS l):=by
 unfold laws_szIntS.f sumIntS
 rw [w64 tD tD]
 by_cases h:a < (l.length:Int)
 ·rw [if_pos tD,if_pos h]
 ·rw [if_neg tD,if_neg h]
def toK (x:S48):S38:=⟨x.f0,x.f1,x.f2,x.f3,x.f4⟩
def okKeyS (l:List S38):Prop:=l.length ≤ 4194304
def cntKeyS (l:List S38):Int:=5 * l.length
def inKeyS (l:List S48):Prop:=l.length ≤ 1048576
def sumKeyS (l:List S48):Int:=l.length
theorem sumKeyS_nn (l:List S48):0 ≤ sumKeyS l:=by unfold sumKeyS;omega
theorem in_of_sumKeyS {l:List S48} (h:sumKeyS l ≤ 1048576):inKeyS l:=by unfold sumKeyS at h;unfold inKeyS;omega
def goodK (x:S48):Prop:=(Lit.int .i64 x.f0).wf = true ∧ (Lit.int .i64 x.f1).wf = true ∧ (Lit.int .i64 x.f2).wf = true ∧ (Lit.int .i64 x.f3).wf = true ∧ (Lit.int .i64 x.f4).wf = true
theorem szKeyS_f (l:List S48) (a:Int) (hl:l.length ≤ 9223372036854775807) (h0:0 ≤ a) (h1:a ≤ 1048576):laws_szKeyS.f l a = some (if a < sumKeyS l then -1 else a - sumKeyS l):=by
 unfold laws_szKeyS.f sumKeyS
 rw [w64 tD tD]
 by_cases h:a < (l.length:Int)
 ·rw [if_pos tD,if_pos h]
 ·rw [if_neg tD,if_neg h]
theorem szKeyS_big (l:List S48) (a:Int) (hl:l.length ≤ 9223372036854775807) (h0:0 ≤ a) (h1:a ≤ 1048576) (h:a < sumKeyS l):Ev (fun _=>laws_szKeyS.f l a) (-1):=evOf fun _=>by rw [szKeyS_f l a hl h0 h1,if_pos h]
theorem szKeyS_fit (l:List S48) (a:Int) (hl:l.length ≤ 9223372036854775807) (h0:0 ≤ a) (h1:a ≤ 1048576) (h:¬ a < sumKeyS l):Ev (fun _=>laws_szKeyS.f l a) (a - sumKeyS l):=evOf fun _=>by rw [szKeyS_f l a hl h0 h1,if_neg h]
def convKeySS (l:List (List S48)):List (List S38):=l.map fun x=>x.map toK
def sumKeySS:List (List S48) → Int
 | []=>0
 | x :: xs=>1 + sumKeyS x + sumKeySS xs
theorem sumKeySS_nn:∀ l:List (List S48),(l.length:Int) ≤ sumKeySS l
 | []=>by simp [sumKeySS]
 | x :: xs=>by
  have:=sumKeySS_nn xs
  have:=sumKeyS_nn x
  simp only [sumKeySS,List.length_cons]
  omega
theorem sumKeySS_at:∀ (l:List (List S48)) (i:Nat),i < l.length → 1 + sumKeyS (l.getD i []) + sumKeySS (l.drop (i + 1)) = sumKeySS (l.drop i):=by
 intro l i hi
 rw [drop_getD l i [] hi]
 rfl
theorem sumKeySS_drop:∀ (l:List (List S48)) (i:Nat),sumKeySS (l.drop i) ≤ sumKeySS l
 | [],i=>by simp
 | x :: xs,0=>by simp
 | x :: xs,i + 1=>by
  have:=sumKeySS_drop xs i
  have:=sumKeyS_nn x
  simp only [List.drop_succ_cons,sumKeySS]
  omega
def inKeySS (l:List (List S48)):Prop:=sumKeySS l ≤ 1048576
theorem in_of_sumKeySS {l:List (List S48)} (h:sumKeySS l ≤ 1048576):inKeySS l:=h
theorem inKeySS_len {l:List (List S48)} (h:inKeySS l):l.length ≤ 1048576:=by have:=sumKeySS_nn l;unfold inKeySS at h;omega
theorem inKeySS_at {l:List (List S48)} (h:inKeySS l) (i:Nat) (hi:i < l.length):inKeyS (l.getD i []):=by
 have h1:=sumKeySS_at l i hi
 have h2:=sumKeySS_drop l i
 have h3:=sumKeySS_nn (l.drop (i + 1))
 unfold inKeySS at h
 exact in_of_sumKeyS tD
/-- What the impl's side holds, all in all. -/
def bulkKeySS:List (List S38) → Nat
 | []=>0
 | x :: xs=>1 + x.length + bulkKeySS xs
def okKeySS (l:List (List S38)):Prop:=bulkKeySS l ≤ 4194304
theorem bulkKeySS_len:∀ l:List (List S38),l.length ≤ bulkKeySS l
 | []=>by simp [bulkKeySS]
 | x :: xs=>by have:=bulkKeySS_len xs;simp only [bulkKeySS,List.length_cons];omega
theorem bulkKeySS_at:∀ (l:List (List S38)) (i:Nat),i < l.length → (l.getD i []).length ≤ bulkKeySS l
 | x :: xs,0,_=>by simp only [bulkKeySS,List.getD_cons_zero];omega
 | x :: xs,i + 1,h=>by
  have:=bulkKeySS_at xs i (by simpa using h)
  simp only [bulkKeySS,List.getD_cons_succ];omega
theorem okKeySS_at {l:List (List S38)} (h:okKeySS l) (i:Nat) (hi:i < l.length):okKeyS (l.getD i []):=by
 have h1:=bulkKeySS_at l i hi
 unfold okKeySS at h
 show (l.getD i []).length ≤ 4194304
 omega
theorem okKeySS_len {l:List (List S38)} (h:okKeySS l):l.length ≤ 4194304:=by have:=bulkKeySS_len l;unfold okKeySS at h;omega
theorem bulk_convKeySS:∀ l:List (List S48),(bulkKeySS (convKeySS l):Int) = sumKeySS l
 | []=>rfl
 | x :: xs=>by
  have h1:=bulk_convKeySS xs
  have h2:(((x.map toK).length:Nat):Int) = sumKeyS x:=by rw [List.length_map];rfl
  (try simp only at h2)
  simp only [convKeySS] at h1
  simp only [convKeySS,List.map_cons,bulkKeySS,sumKeySS]
  omega
def goodKeySS (l:List (List S48)):Prop:=l.length ≤ 9223372036854775807 ∧ ∀ x ∈ l,x.length ≤ 9223372036854775807
theorem szKeySS_l0 (l:List (List S48)) (hg:goodKeySS l):∀ (d i:Nat) (s:Int),l.length - i = d → i ≤ l.length → 0 ≤ s → s ≤ 1048576 → l.length ≤ 1048576 → Ev (fun k=>laws_szKeySS.l0 k l s (i:Int)) (if s < sumKeySS (l.drop i) - ((l.length:Int) - i) then -1 else s - (sumKeySS (l.drop i) - ((l.length:Int) - i))):=by
 intro d
 induction d with
 | zero =>
  intro i s hd hi h0 h1 hl
  obtain rfl:i = l.length:=by omega
  refine evSucc ⟨0,1,fun k _=>?_⟩
  simp only [laws_szKeySS.l0]
  rw [if_neg tD,List.drop_length]
  rw [show sumKeySS [] = 0 from rfl,if_neg tD]
  congr 1;omega
 | succ d ih =>
  intro i s hd hi h0 h1 hl
  have hlt:i < l.length:=by omega
  have hs:=sumKeySS_at l i hlt
  have hn:=sumKeySS_nn (l.drop (i + 1))
  rw [List.length_drop] at hn
  have hr:rd_L2 l (i:Int) = l.getD i []:=by simp [rd_L2]
  have hgx:=hg.2 _ (getD_mem l i [] hlt)
  generalize l.getD i [] = y at *
  have hy:=sumKeyS_nn y
  by_cases c:s < sumKeyS y
  ·obtain ⟨K,e⟩:=szKeyS_big y s hgx h0 h1 c
   refine evSucc ⟨K,1,fun k hk=>?_⟩
   have e1:=e k hk
   simp only at e1
   simp only [laws_szKeySS.l0,hr,e1,Option.bind_some]
   rw [if_pos tD,if_pos tD,if_pos tq,if_pos tD]
  ·obtain ⟨K,e⟩:=szKeyS_fit y s hgx h0 h1 c
   obtain ⟨K2,e2⟩:=ih (i + 1) (s - sumKeyS y) tD tD tD tD hl
   refine evSucc ⟨K + K2,1,fun k hk=>?_⟩
   have e1:=e k tD
   have e3:=e2 k tD
   simp only at e1 e3
   simp only [laws_szKeySS.l0,hr,e1,Option.bind_some]
   rw [if_pos tD,if_pos tD,if_neg tD,w64s i tD,e3]
   have hc:((i + 1:Nat):Int) = (i:Int) + 1:=by omega
   rw [hc]
   by_cases c2:s - sumKeyS y < sumKeySS (l.drop (i + 1)) - ((l.length:Int) - ((i:Int) + 1))
   ·rw [if_pos c2,if_pos tD]
   ·rw [if_neg c2,if_neg tD];congr 1;omega
theorem szKeySS_big (l:List (List S48)) (a:Int) (hg:goodKeySS l) (h0:0 ≤ a) (h1:a ≤ 1048576) (h:a < sumKeySS l):Ev (fun k=>laws_szKeySS.f k l a) (-1):=by
 have hn:=hg.1
 by_cases c:a < l.length
 ·refine evOf fun k=>?_
  simp only [laws_szKeySS.f]
  rw [w64 tD tD,if_pos tD]
 ·obtain ⟨K,e⟩:=szKeySS_l0 l hg _ 0 (a - l.length) rfl (Nat.zero_le _) tD tD tD
  refine ⟨K,fun k hk=>?_⟩
  have e1:=e k hk
  simp only [laws_szKeySS.f]
  rw [w64 tD tD,if_neg tD]
  simp only [List.drop_zero,Int.natCast_zero] at e1
  rw [if_pos tD] at e1
  exact e1
theorem szKeySS_fit (l:List (List S48)) (a:Int) (hg:goodKeySS l) (h0:0 ≤ a) (h1:a ≤ 1048576) (h:¬ a < sumKeySS l):Ev (fun k=>laws_szKeySS.f k l a) (a - sumKeySS l):=by
 have hn:=sumKeySS_nn l
 obtain ⟨K,e⟩:=szKeySS_l0 l hg _ 0 (a - l.length) rfl (Nat.zero_le _) tD tD tD
 refine ⟨K,fun k hk=>?_⟩
 have e1:=e k hk
 simp only [laws_szKeySS.f]
 rw [w64 tD tD,if_neg tD]
 simp only [List.drop_zero,Int.natCast_zero] at e1
 rw [if_neg tD] at e1
 rw [show a - sumKeySS l = a - ↑l.length - (sumKeySS l - (↑l.length - 0)) by omega]
 exact e1
theorem szNode_big (l:List (List S48)) (a:Int) (hg:goodKeySS l) (h0:0 ≤ a) (h1:a ≤ 1048576) (h:a < sumKeySS l):Ev (fun k=>laws_szNode.f k l a) (-1):=by
 obtain ⟨K,e⟩:=szKeySS_big l a hg h0 h1 h
 refine ⟨K,fun k hk=>?_⟩
 have e1:=e k hk
 simp only at e1
 simp only [laws_szNode.f,e1,Option.bind_some]
 rfl
theorem szNode_fit (l:List (List S48)) (a:Int) (hg:goodKeySS l) (h0:0 ≤ a) (h1:a ≤ 1048576) (h:¬ a < sumKeySS l):Ev (fun k=>laws_szNode.f k l a) (a - sumKeySS l):=by
 obtain ⟨K,e⟩:=szKeySS_fit l a hg h0 h1 h
 refine ⟨K,fun k hk=>?_⟩
 have e1:=e k hk
 simp only at e1
 simp only [laws_szNode.f,e1,Option.bind_some]
 rw [if_neg tD]
def convNodeS (l:List (S87)):List (S59):=l.map fun x=>(⟨convKeySS x.f0⟩:S59)
def sumNodeS:List (S87) → Int
 | []=>0
 | x :: xs=>1 + sumKeySS x.f0 + sumNodeS xs
theorem sumNodeS_nn:∀ l:List (S87),(l.length:Int) ≤ sumNodeS l
 | []=>by simp [sumNodeS]
 | x :: xs=>by
  have:=sumNodeS_nn xs
  have:=sumKeySS_nn x.f0
  simp only [sumNodeS,List.length_cons]
  omega
theorem sumNodeS_pos (l:List (S87)):0 ≤ sumNodeS l:=by have:=sumNodeS_nn l;omega
theorem sumNodeS_at:∀ (l:List (S87)) (i:Nat),i < l.length → 1 + sumKeySS (l.getD i z87).f0 + sumNodeS (l.drop (i + 1)) = sumNodeS (l.drop i):=by
 intro l i hi
 rw [drop_getD l i z87 hi]
 rfl
theorem sumNodeS_drop:∀ (l:List (S87)) (i:Nat),sumNodeS (l.drop i) ≤ sumNodeS l
 | [],i=>by simp
 | x :: xs,0=>by simp
 | x :: xs,i + 1=>by
  have:=sumNodeS_drop xs i
  have:=sumKeySS_nn x.f0
  simp only [List.drop_succ_cons,sumNodeS]
  omega
def inNodeS (l:List (S87)):Prop:=sumNodeS l ≤ 1048576
theorem in_of_sumNodeS {l:List (S87)} (h:sumNodeS l ≤ 1048576):inNodeS l:=h
theorem inNodeS_len {l:List (S87)} (h:inNodeS l):l.length ≤ 1048576:=by have:=sumNodeS_nn l;unfold inNodeS at h;omega
theorem inNodeS_at {l:List (S87)} (h:inNodeS l) (i:Nat) (hi:i < l.length):inKeySS (l.getD i z87).f0:=by
 have h1:=sumNodeS_at l i hi
 have h2:=sumNodeS_drop l i
 have h3:=sumNodeS_nn (l.drop (i + 1))
 unfold inNodeS at h
 exact in_of_sumKeySS tD
/-- What the impl's side holds, all in all. -/
def bulkNodeS:List (S59) → Nat
 | []=>0
 | x :: xs=>1 + bulkKeySS x.f0 + bulkNodeS xs
def okNodeS (l:List (S59)):Prop:=bulkNodeS l ≤ 4194304
theorem bulkNodeS_len:∀ l:List (S59),l.length ≤ bulkNodeS l
 | []=>by simp [bulkNodeS]
 | x :: xs=>by have:=bulkNodeS_len xs;simp only [bulkNodeS,List.length_cons];omega
theorem bulkNodeS_at:∀ (l:List (S59)) (i:Nat),i < l.length → bulkKeySS (l.getD i z59).f0 ≤ bulkNodeS l
 | x :: xs,0,_=>by simp only [bulkNodeS,List.getD_cons_zero];omega
 | x :: xs,i + 1,h=>by
  have:=bulkNodeS_at xs i (by simpa using h)
  simp only [bulkNodeS,List.getD_cons_succ];omega
theorem okNodeS_at {l:List (S59)} (h:okNodeS l) (i:Nat) (hi:i < l.length):okKeySS (l.getD i z59).f0:=by
 have h1:=bulkNodeS_at l i hi
 unfold okNodeS at h
 show bulkKeySS (l.getD i z59).f0 ≤ 4194304
 omega
theorem okNodeS_len {l:List (S59)} (h:okNodeS l):l.length ≤ 4194304:=by have:=bulkNodeS_len l;unfold okNodeS at h;omega
theorem bulk_convNodeS:∀ l:List (S87),(bulkNodeS (convNodeS l):Int) = sumNodeS l
 | []=>rfl
 | x :: xs=>by
  have h1:=bulk_convNodeS xs
  have h2:((bulkKeySS ((⟨convKeySS x.f0⟩:S59)).f0:Nat):Int) = sumKeySS x.f0:=bulk_convKeySS x.f0
  (try simp only at h2)
  simp only [convNodeS] at h1
  simp only [convNodeS,List.map_cons,bulkNodeS,sumNodeS]
  omega
theorem ok_of_inNodeS {l:List (S87)} (h:inNodeS l):okNodeS (convNodeS l):=by
 have:=bulk_convNodeS l
 unfold inNodeS at h
 unfold okNodeS
 omega
def goodNodeS (l:List (S87)):Prop:=l.length ≤ 9223372036854775807 ∧ ∀ x ∈ l,goodKeySS x.f0
theorem szNodeS_l0 (l:List (S87)) (hg:goodNodeS l):∀ (d i:Nat) (s:Int),l.length - i = d → i ≤ l.length → 0 ≤ s → s ≤ 1048576 → l.length ≤ 1048576 → Ev (fun k=>laws_szNodeS.l0 k l s (i:Int)) (if s < sumNodeS (l.drop i) - ((l.length:Int) - i) then -1 else s - (sumNodeS (l.drop i) - ((l.length:Int) - i))):=by
 intro d
 induction d with
 | zero =>
  intro i s hd hi h0 h1 hl
  obtain rfl:i = l.length:=by omega
  refine evSucc ⟨0,1,fun k _=>?_⟩
  simp only [laws_szNodeS.l0]
  rw [if_neg tD,List.drop_length]
  rw [show sumNodeS [] = 0 from rfl,if_neg tD]
  congr 1;omega
 | succ d ih =>
  intro i s hd hi h0 h1 hl
  have hlt:i < l.length:=by omega
  have hs:=sumNodeS_at l i hlt
  have hn:=sumNodeS_nn (l.drop (i + 1))
  rw [List.length_drop] at hn
  have hr:rd_T87 l (i:Int) = l.getD i z87:=by simp [rd_T87]
  have hgx:=hg.2 _ (getD_mem l i z87 hlt)
  generalize l.getD i z87 = y at *
  have hy:=sumKeySS_nn y.f0
  by_cases c:s < sumKeySS y.f0
  ·obtain ⟨K,e⟩:=szNode_big y.f0 s hgx h0 h1 c
   refine evSucc ⟨K,1,fun k hk=>?_⟩
   have e1:=e k hk
   simp only at e1
   simp only [laws_szNodeS.l0,hr,e1,Option.bind_some]
   rw [if_pos tD,if_pos tD,if_pos tq,if_pos tD]
  ·obtain ⟨K,e⟩:=szNode_fit y.f0 s hgx h0 h1 c
   obtain ⟨K2,e2⟩:=ih (i + 1) (s - sumKeySS y.f0) tD tD tD tD hl
   refine evSucc ⟨K + K2,1,fun k hk=>?_⟩
   have e1:=e k tD
   have e3:=e2 k tD
   simp only at e1 e3
   simp only [laws_szNodeS.l0,hr,e1,Option.bind_some]
   rw [if_pos tD,if_pos tD,if_neg tD,w64s i tD,e3]
   have hc:((i + 1:Nat):Int) = (i:Int) + 1:=by omega
   rw [hc]
   by_cases c2:s - sumKeySS y.f0 < sumNodeS (l.drop (i + 1)) - ((l.length:Int) - ((i:Int) + 1))
   ·rw [if_pos c2,if_pos tD]
   ·rw [if_neg c2,if_neg tD];congr 1;omega
theorem szNodeS_big (l:List (S87)) (a:Int) (hg:goodNodeS l) (h0:0 ≤ a) (h1:a ≤ 1048576) (h:a < sumNodeS l):Ev (fun k=>laws_szNodeS.f k l a) (-1):=by
 have hn:=hg.1
 by_cases c:a < l.length
 ·refine evOf fun k=>?_
  simp only [laws_szNodeS.f]
  rw [w64 tD tD,if_pos tD]
 ·obtain ⟨K,e⟩:=szNodeS_l0 l hg _ 0 (a - l.length) rfl (Nat.zero_le _) tD tD tD
  refine ⟨K,fun k hk=>?_⟩
  have e1:=e k hk
  simp only [laws_szNodeS.f]
  rw [w64 tD tD,if_neg tD]
  simp only [List.drop_zero,Int.natCast_zero] at e1
  rw [if_pos tD] at e1
  exact e1
theorem szNodeS_fit (l:List (S87)) (a:Int) (hg:goodNodeS l) (h0:0 ≤ a) (h1:a ≤ 1048576) (h:¬ a < sumNodeS l):Ev (fun k=>laws_szNodeS.f k l a) (a - sumNodeS l):=by
 have hn:=sumNodeS_nn l
 obtain ⟨K,e⟩:=szNodeS_l0 l hg _ 0 (a - l.length) rfl (Nat.zero_le _) tD tD tD
 refine ⟨K,fun k hk=>?_⟩
 have e1:=e k hk
 simp only [laws_szNodeS.f]
 rw [w64 tD tD,if_neg tD]
 simp only [List.drop_zero,Int.natCast_zero] at e1
 rw [if_neg tD] at e1
 rw [show a - sumNodeS l = a - ↑l.length - (sumNodeS l - (↑l.length - 0)) by omega]
 exact e1
def sumTree (l:List Int) (n:List S87):Int:=sumIntS l + sumNodeS n
theorem szTree_big (l:List Int) (n:List S87) (a:Int) (hl:l.length ≤ 9223372036854775807) (hg:goodNodeS n) (h0:0 ≤ a) (h1:a ≤ 1048576) (h:a < sumTree l n):Ev (fun k=>laws_szTree.f k l n a) (-1):=by
 have u:=sumIntS_nn l
 unfold sumTree at h
 by_cases c:a < sumIntS l
 ·refine evOf fun k=>?_
  simp only [laws_szTree.f,szIntS_f l a hl h0 h1,if_pos c,Option.bind_some]
  rfl
 ·obtain ⟨K,e⟩:=szNodeS_big n (a - sumIntS l) hg tD tD tD
  refine ⟨K,fun k hk=>?_⟩
  have e1:=e k hk
  simp only at e1
  simp only [laws_szTree.f,szIntS_f l a hl h0 h1,if_neg c,Option.bind_some,e1]
  rw [if_neg tD]
  rfl
theorem szTree_fit (l:List Int) (n:List S87) (a:Int) (hl:l.length ≤ 9223372036854775807) (hg:goodNodeS n) (h0:0 ≤ a) (h1:a ≤ 1048576) (h:¬ a < sumTree l n):Ev (fun k=>laws_szTree.f k l n a) (a - sumTree l n):=by
 have u:=sumIntS_nn l
 have u2:=sumNodeS_pos n
 unfold sumTree at h
 obtain ⟨K,e⟩:=szNodeS_fit n (a - sumIntS l) hg tD tD tD
 refine ⟨K,fun k hk=>?_⟩
 have e1:=e k hk
 simp only at e1
 simp only [laws_szTree.f,szIntS_f l a hl h0 h1,if_neg (show ¬ a < sumIntS l by omega),Option.bind_some,e1]
 rw [if_neg tD,if_neg tD]
 unfold sumTree
 congr 1
 omega
theorem toIntS_ev (l:List Int) (hi:inIntS l):Ev (fun k=>laws_toIntS.f k l) l:=by
 have h:l.length ≤ 1048576:=hi
 have hl:∀ i,i ≤ l.length → (fill (fun i=>l.getD i 0) (List.replicate l.length (0:Int)) i).length = l.length:=fun i hi=>by rw [fill_length _ _ _ wD];simp
 obtain ⟨K,hk⟩:=evRange0 (σ:=List Int) l.length (fun k s i=>laws_toIntS.l0 k l s i) (fun i s=>s = fill (fun i=>l.getD i 0) (List.replicate l.length (0:Int)) i) (fun _ _=>l) (List.replicate l.length (0:Int)) (fill_zero _ _).symm
  (by
   intro i s hi hs
   subst hs
   refine .inl ⟨_,rfl,rfl,0,1,fun k _=>?_⟩
   have h1:=hl i tD
   simp only [laws_toIntS.l0]
   rw [if_pos tD,if_pos tD,if_pos tD,w64s i tD,Int.toNat_natCast,fill_set _ _ _ wD (rd_nat l i)])
  (by
   intro s hs
   subst hs
   refine ⟨0,1,fun k _=>?_⟩
   simp only [laws_toIntS.l0]
   rw [if_neg tD]
   have:=fill_all (fun i=>l.getD i 0) (List.replicate l.length (0:Int))
   rw [List.length_replicate] at this
   rw [this,range_id])
 refine ⟨K,fun k hk'=>?_⟩
 simp only [laws_toIntS.f]
 rw [if_pos tD,if_pos tD]
 have e:=hk k hk'
 simpa using e
theorem toKeyS_ev (l:List S48) (hi:inKeyS l):Ev (fun k=>laws_toKeyS.f k l) (l.map toK):=by
 have h:l.length ≤ 1048576:=hi
 have hl:∀ i,i ≤ l.length → (fill (fun i=>toK (l.getD i z48)) (List.replicate l.length z38) i).length = l.length:=fun i hi=>by rw [fill_length _ _ _ wD];simp
 obtain ⟨K,hk⟩:=evRange0 (σ:=List S38) l.length (fun k s i=>laws_toKeyS.l0 k l s i) (fun i s=>s = fill (fun i=>toK (l.getD i z48)) (List.replicate l.length z38) i) (fun _ _=>l.map toK) (List.replicate l.length z38) (fill_zero _ _).symm
  (by
   intro i s hi hs
   subst hs
   refine .inl ⟨_,rfl,rfl,0,1,fun k _=>?_⟩
   have h1:=hl i tD
   simp only [laws_toKeyS.l0]
   rw [if_pos tD,if_pos tD]
   simp only [laws_toKey.f,Option.bind_some]
   rw [if_pos tD,w64s i tD,Int.toNat_natCast,fill_set _ _ _ wD]
   simp [toK,rd_T48])
  (by
   intro s hs
   subst hs
   refine ⟨0,1,fun k _=>?_⟩
   simp only [laws_toKeyS.l0]
   rw [if_neg tD]
   have:=fill_all (fun i=>toK (l.getD i z48)) (List.replicate l.length z38)
   rw [List.length_replicate] at this
   rw [this,range_map])
 refine ⟨K,fun k hk'=>?_⟩
 simp only [laws_toKeyS.f]
 rw [if_pos tD,if_pos tD]
 have e:=hk k hk'
 simpa using e
theorem toKeySS_ev (l:List (List S48)) (hin:inKeySS l):Ev (fun k=>laws_toKeySS.f k l) (convKeySS l):=by
 have h:=inKeySS_len hin
 have hl:∀ i,i ≤ l.length → (fill (fun i=>(l.getD i []).map toK) (List.replicate l.length ([]:List S38)) i).length = l.length:=fun i hi=>by rw [fill_length _ _ _ wD];simp
 obtain ⟨K,hk⟩:=evRange0 (σ:=List (List S38)) l.length (fun k s i=>laws_toKeySS.l0 k l s i) (fun i s=>s = fill (fun i=>(l.getD i []).map toK) (List.replicate l.length ([]:List S38)) i) (fun _ _=>convKeySS l) (List.replicate l.length ([]:List S38)) (fill_zero _ _).symm
  (by
   intro i s hi hs
   subst hs
   have h1:=hl i tD
   have hr:rd_L2 l (i:Int) = l.getD i []:=by simp [rd_L2]
   obtain ⟨K,e⟩:=toKeyS_ev (l.getD i []) (inKeySS_at hin i hi)
   refine .inl ⟨_,rfl,rfl,K,1,fun k hk=>?_⟩
   have e1:=e k hk
   simp only at e1
   simp only [laws_toKeySS.l0,hr,e1,Option.bind_some]
   rw [if_pos tD,if_pos tD,if_pos tD,w64s i tD,Int.toNat_natCast,fill_set _ _ _ wD rfl])
  (by
   intro s hs
   subst hs
   refine ⟨0,1,fun k _=>?_⟩
   simp only [laws_toKeySS.l0]
   rw [if_neg tD]
   have:=fill_all (fun i=>(l.getD i []).map toK) (List.replicate l.length ([]:List S38))
   rw [List.length_replicate] at this
   rw [this,range_map (fun x=>x.map toK) l []]
   rfl)
 refine ⟨K,fun k hk'=>?_⟩
 simp only [laws_toKeySS.f]
 rw [if_pos tD,if_pos tD]
 have e:=hk k hk'
 simp only [Int.toNat_natCast]
 exact e
theorem toNode_ev (l:List (List S48)) (hin:inKeySS l):Ev (fun k=>laws_toNode.f k l) (convKeySS l):=by
 obtain ⟨K,e⟩:=toKeySS_ev l hin
 refine ⟨K,fun k hk=>?_⟩
 have e1:=e k hk
 simp only at e1
 simp only [laws_toNode.f,e1,Option.bind_some]
theorem toNodeS_ev (l:List (S87)) (hin:inNodeS l):Ev (fun k=>laws_toNodeS.f k l) (convNodeS l):=by
 have h:=inNodeS_len hin
 have hl:∀ i,i ≤ l.length → (fill (fun i=>(⟨convKeySS (l.getD i z87).f0⟩:S59)) (List.replicate l.length (z59:S59)) i).length = l.length:=fun i hi=>by rw [fill_length _ _ _ wD];simp
 obtain ⟨K,hk⟩:=evRange0 (σ:=List (S59)) l.length (fun k s i=>laws_toNodeS.l0 k l s i) (fun i s=>s = fill (fun i=>(⟨convKeySS (l.getD i z87).f0⟩:S59)) (List.replicate l.length (z59:S59)) i) (fun _ _=>convNodeS l) (List.replicate l.length (z59:S59)) (fill_zero _ _).symm
  (by
   intro i s hi hs
   subst hs
   have h1:=hl i tD
   have hr:rd_T87 l (i:Int) = l.getD i z87:=by simp [rd_T87]
   obtain ⟨K,e⟩:=toNode_ev (l.getD i z87).f0 (inNodeS_at hin i hi)
   refine .inl ⟨_,rfl,rfl,K,1,fun k hk=>?_⟩
   have e1:=e k hk
   simp only at e1
   simp only [laws_toNodeS.l0,hr,e1,Option.bind_some]
   rw [if_pos tD,if_pos tD,if_pos tD,w64s i tD,Int.toNat_natCast,fill_set _ _ _ wD rfl])
  (by
   intro s hs
   subst hs
   refine ⟨0,1,fun k _=>?_⟩
   simp only [laws_toNodeS.l0]
   rw [if_neg tD]
   have:=fill_all (fun i=>(⟨convKeySS (l.getD i z87).f0⟩:S59)) (List.replicate l.length (z59:S59))
   rw [List.length_replicate] at this
   rw [this,range_map (fun x=>(⟨convKeySS x.f0⟩:S59)) l z87]
   rfl)
 refine ⟨K,fun k hk'=>?_⟩
 simp only [laws_toNodeS.f]
 rw [if_pos tD,if_pos tD]
 have e:=hk k hk'
 simp only [Int.toNat_natCast]
 exact e
theorem toTree_ev (l:List Int) (n:List S87) (h1:inIntS l) (h2:inNodeS n):Ev (fun k=>laws_toTree.f k l n) (l,convNodeS n):=by
 obtain ⟨K,e⟩:=toIntS_ev l h1
 obtain ⟨K2,e2⟩:=toNodeS_ev n h2
 refine ⟨K + K2,fun k hk=>?_⟩
 have a1:=e k tD
 have a2:=e2 k tD
 simp only at a1 a2
 simp only [laws_toTree.f,a1,a2,Option.bind_some]
theorem eqIntS_ev (l:List Int) (ho:okIntS l):Ev (fun k=>laws_eqIntS.f k l l) true:=by
 have h:l.length ≤ 4194304:=ho
 obtain ⟨K,hk⟩:=evRange0 (σ:=Unit) l.length (fun k _ i=>laws_eqIntS.l0 k l l i) (fun _ _=>True) (fun _ _=>true) () trivial
  (by
   intro i _ hi _
   refine .inl ⟨(),trivial,rfl,0,1,fun k _=>?_⟩
   simp only [laws_eqIntS.l0]
   rw [if_pos tD,if_pos tD,if_pos tD,if_pos trivial,w64s i tD])
  (by
   intro _ _
   refine ⟨0,1,fun k _=>?_⟩
   simp only [laws_eqIntS.l0]
   rw [if_neg tD])
 refine ⟨K,fun k hk'=>?_⟩
 simp only [laws_eqIntS.f]
 rw [if_pos trivial]
 exact hk k hk'
theorem eqKey_refl (x:S38):laws_eqKey.f x.f0 x.f1 x.f2 x.f3 x.f4 x.f0 x.f1 x.f2 x.f3 x.f4 = some true:=by simp [laws_eqKey.f]
theorem eqKeyS_ev (l:List S38) (ho:okKeyS l):Ev (fun k=>laws_eqKeyS.f k l l) true:=by
 have h:l.length ≤ 4194304:=ho
 obtain ⟨K,hk⟩:=evRange0 (σ:=Unit) l.length (fun k _ i=>laws_eqKeyS.l0 k l l i) (fun _ _=>True) (fun _ _=>true) () trivial
  (by
   intro i _ hi _
   refine .inl ⟨(),trivial,rfl,0,1,fun k _=>?_⟩
   simp only [laws_eqKeyS.l0]
   rw [if_pos tD,if_pos tD,if_pos tD,eqKey_refl,w64s i tD]
   rfl)
  (by
   intro _ _
   refine ⟨0,1,fun k _=>?_⟩
   simp only [laws_eqKeyS.l0]
   rw [if_neg tD])
 refine ⟨K,fun k hk'=>?_⟩
 simp only [laws_eqKeyS.f]
 rw [if_pos trivial]
 exact hk k hk'
theorem eqKeySS_ev (l:List (List S38)) (ho:okKeySS l):Ev (fun k=>laws_eqKeySS.f k l l) true:=by
 have h:=okKeySS_len ho
 obtain ⟨K,hk⟩:=evRange0 (σ:=Unit) l.length (fun k _ i=>laws_eqKeySS.l0 k l l i) (fun _ _=>True) (fun _ _=>true) () trivial
  (by
   intro i _ hi _
   have hr:rd_L6 l (i:Int) = l.getD i []:=by simp [rd_L6]
   obtain ⟨K,e⟩:=eqKeyS_ev (l.getD i []) (okKeySS_at ho i hi)
   refine .inl ⟨(),trivial,rfl,K,1,fun k hk=>?_⟩
   have e1:=e k hk
   simp only at e1
   simp only [laws_eqKeySS.l0,hr,e1,Option.bind_some]
   rw [if_pos tD,if_pos tD,if_pos tD,if_pos trivial,w64s i tD])
  (by
   intro _ _
   refine ⟨0,1,fun k _=>?_⟩
   simp only [laws_eqKeySS.l0]
   rw [if_neg tD])
 refine ⟨K,fun k hk'=>?_⟩
 simp only [laws_eqKeySS.f]
 rw [if_pos trivial]
 exact hk k hk'
theorem eqNode_ev (l:List (List S38)) (ho:okKeySS l):Ev (fun k=>laws_eqNode.f k l l) true:=by
 obtain ⟨K,e⟩:=eqKeySS_ev l ho
 refine ⟨K,fun k hk=>?_⟩
 have e1:=e k hk
 simp only at e1
 simp only [laws_eqNode.f,e1,Option.bind_some]
 rfl
theorem eqNodeS_ev (l:List (S59)) (ho:okNodeS l):Ev (fun k=>laws_eqNodeS.f k l l) true:=by
 have h:=okNodeS_len ho
 obtain ⟨K,hk⟩:=evRange0 (σ:=Unit) l.length (fun k _ i=>laws_eqNodeS.l0 k l l i) (fun _ _=>True) (fun _ _=>true) () trivial
  (by
   intro i _ hi _
   have hr:rd_T59 l (i:Int) = l.getD i z59:=by simp [rd_T59]
   obtain ⟨K,e⟩:=eqNode_ev (l.getD i z59).f0 (okNodeS_at ho i hi)
   refine .inl ⟨(),trivial,rfl,K,1,fun k hk=>?_⟩
   have e1:=e k hk
   simp only at e1
   simp only [laws_eqNodeS.l0,hr,e1,Option.bind_some]
   rw [if_pos tD,if_pos tD,if_pos tD,if_pos trivial,w64s i tD])
  (by
   intro _ _
   refine ⟨0,1,fun k _=>?_⟩
   simp only [laws_eqNodeS.l0]
   rw [if_neg tD])
 refine ⟨K,fun k hk'=>?_⟩
 simp only [laws_eqNodeS.f]
 rw [if_pos trivial]
 exact hk k hk'
theorem eqTree_ev (l:List Int) (n:List S59) (h1:okIntS l) (h2:okNodeS n):Ev (fun k=>laws_eqTree.f k l n l n) true:=by
 obtain ⟨K,e⟩:=eqIntS_ev l h1
 obtain ⟨K2,e2⟩:=eqNodeS_ev n h2
 refine ⟨K + K2,fun k hk=>?_⟩
 have a1:=e k tD
 have a2:=e2 k tD
 simp only at a1 a2
 simp only [laws_eqTree.f,a1,a2,Option.bind_some]
 rfl
def mkIntS (l:List Int) (a:Int):List Int:=(List.range l.length).map fun (i:Nat)=>a + (i:Int)
theorem mkIntS_length (l:List Int) (a:Int):(mkIntS l a).length = l.length:=by simp [mkIntS]
theorem markIntS_ev (l:List Int) (a:Int) (ho:okIntS l) (h0:0 ≤ a) (h1:a ≤ 1099511627776):Ev (fun k=>laws_markIntS.f k l a) (a + cntIntS l,mkIntS l a):=by
 have h:l.length ≤ 4194304:=ho
 obtain ⟨K,hk⟩:=evRange0 (σ:=List Int × Int) l.length (fun k s i=>laws_markIntS.l0 k s.1 s.2 i) (fun i s=>s = (fill (fun i=>a + (i:Int)) l i,a + i)) (fun _ _=>(a + cntIntS l,mkIntS l a)) (l,a) (by simp [fill_zero])
  (by
   intro i s hi hs
   subst hs
   refine .inl ⟨_,rfl,rfl,0,1,fun k _=>?_⟩
   have hl:=fill_length (fun i=>a + (i:Int)) l i tD
   simp only [laws_markIntS.l0]
   rw [if_pos tD,if_pos tD,w64 (x:=a + (i:Int) + 1) tD tD,w64s i tD,Int.toNat_natCast,fill_set _ l i hi rfl]
   congr 1
   push_cast
   omega)
  (by
   intro s hs
   subst hs
   refine ⟨0,1,fun k _=>?_⟩
   have hl:=fill_length (fun i=>a + (i:Int)) l l.length tD
   simp only [laws_markIntS.l0]
   rw [if_neg tD,fill_all]
   rfl)
 exact tx
def mkK (a:Int) (i:Nat):S38:=⟨a + 5 * i,a + 5 * i + 1,a + 5 * i + 2,a + 5 * i + 3,a + 5 * i + 4⟩
def mkKeyS (l:List S38) (a:Int):List S38:=(List.range l.length).map (mkK a)
theorem mkKeyS_length (l:List S38) (a:Int):(mkKeyS l a).length = l.length:=by simp [mkKeyS]
theorem markKeyS_ev (l:List S38) (a:Int) (ho:okKeyS l) (h0:0 ≤ a) (h1:a ≤ 1099511627776):Ev (fun k=>laws_markKeyS.f k l a) (a + cntKeyS l,mkKeyS l a):=by
 have h:l.length ≤ 4194304:=ho
 obtain ⟨K,hk⟩:=evRange0 (σ:=List S38 × Int) l.length (fun k s i=>laws_markKeyS.l0 k s.1 s.2 i) (fun i s=>s = (fill (mkK a) l i,a + 5 * i)) (fun _ _=>(a + cntKeyS l,mkKeyS l a)) (l,a) (by simp [fill_zero])
  (by
   intro i s hi hs
   subst hs
   refine .inl ⟨_,rfl,rfl,0,1,fun k _=>?_⟩
   have hl:=fill_length (mkK a) l i tD
   simp only [laws_markKeyS.l0]
   rw [if_pos tD,if_pos tD]
   simp only [Option.bind_some]
   rw [w64 (x:=a + 5 * (i:Int) + 1) tD tD,w64 (x:=a + 5 * (i:Int) + 1 + 1) tD tD,w64 (x:=a + 5 * (i:Int) + 1 + 1 + 1) tD tD,w64 (x:=a + 5 * (i:Int) + 1 + 1 + 1 + 1) tD tD,w64 (x:=a + 5 * (i:Int) + 1 + 1 + 1 + 1 + 1) tD tD,w64s i tD,Int.toNat_natCast]
   have hr:∀ (m:List S38) (v:S38),i < m.length → rd_T38 (m.set i v) (i:Int) = v:=fun m v hm=>by simp [rd_T38,hm]
   rw [hr _ _ tD,hr _ _ (by simp;omega),hr _ _ (by simp;omega),hr _ _ (by simp;omega)]
   simp only [List.set_set]
   rw [fill_set (mkK a) l i hi (by simp only [mkK];congr 1 <;> omega)]
   congr 1
   push_cast
   omega)
  (by
   intro s hs
   subst hs
   refine ⟨0,1,fun k _=>?_⟩
   have hl:=fill_length (mkK a) l l.length tD
   simp only [laws_markKeyS.l0]
   rw [if_neg tD,fill_all]
   rfl)
 exact tx
theorem heldIntS_ev (l:List Int) (a:Int) (ho:okIntS l) (h0:0 ≤ a) (h1:a ≤ 1099511627776):Ev (fun k=>laws_heldIntS.f k (mkIntS l a) a) (a + cntIntS l):=by
 have h:l.length ≤ 4194304:=ho
 have hl:=mkIntS_length l a
 obtain ⟨K,hk⟩:=evRange0 (σ:=Int) l.length (fun k s i=>laws_heldIntS.l0 k (mkIntS l a) s i) (fun i s=>s = a + i) (fun _ _=>a + cntIntS l) a te
  (by
   intro i s hi hs
   subst hs
   refine .inl ⟨_,rfl,rfl,0,1,fun k _=>?_⟩
   have hr:rd (mkIntS l a) (i:Int) = a + (i:Int):=by
    unfold mkIntS
    rw [rd_nat,range_getD _ _ _ _ hi]
   simp only [laws_heldIntS.l0]
   rw [if_pos tD,if_pos tD,if_pos hr,w64 (x:=a + (i:Int) + 1) tD tD,w64s i tD]
   congr 1
   push_cast
   omega)
  (by
   intro s hs
   subst hs
   refine ⟨0,1,fun k _=>?_⟩
   simp only [laws_heldIntS.l0]
   rw [if_neg tD]
   rfl)
 exact tx
theorem heldKeyS_ev (l:List S38) (a:Int) (ho:okKeyS l) (h0:0 ≤ a) (h1:a ≤ 1099511627776):Ev (fun k=>laws_heldKeyS.f k (mkKeyS l a) a) (a + cntKeyS l):=by
 have h:l.length ≤ 4194304:=ho
 have hl:=mkKeyS_length l a
 obtain ⟨K,hk⟩:=evRange0 (σ:=Int) l.length (fun k s i=>laws_heldKeyS.l0 k (mkKeyS l a) s i) (fun i s=>s = a + 5 * i) (fun _ _=>a + cntKeyS l) a te
  (by
   intro i s hi hs
   subst hs
   refine .inl ⟨_,rfl,rfl,0,1,fun k _=>?_⟩
   have hr:rd_T38 (mkKeyS l a) (i:Int) = mkK a i:=by
    unfold rd_T38 mkKeyS
    rw [Int.toNat_natCast,range_getD _ _ _ _ hi]
   simp only [laws_heldKeyS.l0]
   rw [if_pos tD,if_pos tD,hr]
   rw [w64 (x:=a + 5 * (i:Int) + 1) tD tD,w64 (x:=a + 5 * (i:Int) + 1 + 1) tD tD,w64 (x:=a + 5 * (i:Int) + 1 + 1 + 1) tD tD,w64 (x:=a + 5 * (i:Int) + 1 + 1 + 1 + 1) tD tD,w64 (x:=a + 5 * (i:Int) + 1 + 1 + 1 + 1 + 1) tD tD,w64s i tD]
   rw [if_pos (show (mkK a i).f0 = a + 5 * (i:Int) from rfl),if_pos (show (mkK a i).f1 = a + 5 * (i:Int) + 1 from rfl),if_pos (show (mkK a i).f2 = a + 5 * (i:Int) + 1 + 1 by simp only [mkK];omega),if_pos (show (mkK a i).f3 = a + 5 * (i:Int) + 1 + 1 + 1 by simp only [mkK];omega),if_pos (show (mkK a i).f4 = a + 5 * (i:Int) + 1 + 1 + 1 + 1 by simp only [mkK];omega)]
   congr 1
   push_cast
   omega)
  (by
   intro s hs
   subst hs
   refine ⟨0,1,fun k _=>?_⟩
   simp only [laws_heldKeyS.l0]
   rw [if_neg tD]
   rfl)
 exact tx
theorem cntKeyS_nn' (x:List S38):0 ≤ cntKeyS x:=by unfold cntKeyS;omega
def cntKeySS (l:List (List S38)):Int:=cntL cntKeyS l
def mkKeySS (l:List (List S38)) (a:Int):List (List S38):=mkL mkKeyS cntKeyS l a
theorem cntKeySS_nn0 (l:List (List S38)):0 ≤ cntKeySS l:=cntL_nn cntKeyS cntKeyS_nn' l
theorem cntKeySS_bulk:∀ l:List (List S38),cntKeySS l ≤ 5 * (bulkKeySS l:Int)
 | []=>by simp [cntKeySS,cntL,bulkKeySS]
 | x :: xs=>by
  have:=cntKeySS_bulk xs
  simp only [cntKeySS] at this
  simp only [cntKeySS,cntL,bulkKeySS,cntKeyS]
  push_cast
  omega
theorem cntKeySS_nn {l:List (List S38)} (h:okKeySS l):0 ≤ cntKeySS l ∧ cntKeySS l ≤ 20971520:=by
 have:=cntKeySS_bulk l
 have:=cntKeySS_nn0 l
 unfold okKeySS at h
 omega
theorem cntKeySS_take (l:List (List S38)) (i:Nat):0 ≤ cntKeySS (l.take i) ∧ cntKeySS (l.take i) ≤ cntKeySS l:=⟨cntKeySS_nn0 _,cntL_take_le cntKeyS cntKeyS_nn' l i⟩
theorem heldKeySS_ev (l:List (List S38)) (a:Int) (ho:okKeySS l) (h0:0 ≤ a) (h1:a ≤ 1000000000000):Ev (fun k=>laws_heldKeySS.f k (mkKeySS l a) a) (a + cntKeySS l):=by
 have h:=okKeySS_len ho
 have hl:(mkKeySS l a).length = l.length:=mkL_length _ _ _ _
 have hc:=cntKeySS_nn ho
 obtain ⟨K,hk⟩:=evRange0 (σ:=Int) l.length (fun k s i=>laws_heldKeySS.l0 k (mkKeySS l a) s i) (fun i s=>s = a + cntKeySS (l.take i)) (fun _ _=>a + cntKeySS l) a (by simp [cntKeySS,cntL])
  (by
   intro i s hi hs
   subst hs
   have ht:=cntKeySS_take l i
   have hr:rd_L6 (mkKeySS l a) (i:Int) = mkKeyS (l.getD i []) (a + cntKeySS (l.take i)):=by
    unfold rd_L6
    rw [Int.toNat_natCast]
    exact mkL_getD mkKeyS cntKeyS [] l a i hi
   obtain ⟨K,e⟩:=heldKeyS_ev (l.getD i []) (a + cntKeySS (l.take i)) (okKeySS_at ho i hi) tD tD
   have hs':cntKeySS (l.take (i + 1)) = cntKeySS (l.take i) + cntKeyS (l.getD i []):=cntL_take cntKeyS [] l i hi
   have hn:=cntKeyS_nn' (l.getD i [])
   refine .inl ⟨_,rfl,rfl,K,1,fun k hk=>?_⟩
   have e1:=e k hk
   simp only at e1
   simp only [laws_heldKeySS.l0,hr,e1,Option.bind_some]
   rw [if_pos tD,if_pos tD,if_neg tD,w64s i tD,hs']
   congr 1
   omega)
  (by
   intro s hs
   subst hs
   refine ⟨0,1,fun k _=>?_⟩
   simp only [laws_heldKeySS.l0]
   rw [if_neg tD,List.take_length])
 exact tx
def mkNode (x:S59) (a:Int):S59:=⟨mkKeySS x.f0 a⟩
def cntNode (x:S59):Int:=cntKeySS x.f0
theorem cntNode_nn (x:S59):0 ≤ cntNode x:=cntKeySS_nn0 x.f0
def cntNodeS (l:List S59):Int:=cntL cntNode l
def mkNodeS (l:List S59) (a:Int):List S59:=mkL mkNode cntNode l a
theorem cntNodeS_nn0 (l:List S59):0 ≤ cntNodeS l:=cntL_nn cntNode cntNode_nn l
theorem cntNodeS_bulk:∀ l:List S59,cntNodeS l ≤ 5 * (bulkNodeS l:Int)
 | []=>by simp [cntNodeS,cntL,bulkNodeS]
 | x :: xs=>by
  have:=cntNodeS_bulk xs
  have:=cntKeySS_bulk x.f0
  simp only [cntNodeS] at *
  simp only [cntL,bulkNodeS,cntNode] at *
  push_cast
  omega
theorem cntNodeS_nn {l:List S59} (h:okNodeS l):0 ≤ cntNodeS l ∧ cntNodeS l ≤ 20971520:=by
 have:=cntNodeS_bulk l
 have:=cntNodeS_nn0 l
 unfold okNodeS at h
 omega
theorem cntNodeS_take (l:List S59) (i:Nat):0 ≤ cntNodeS (l.take i) ∧ cntNodeS (l.take i) ≤ cntNodeS l:=⟨cntNodeS_nn0 _,cntL_take_le cntNode cntNode_nn l i⟩
theorem heldNodeS_ev (l:List S59) (a:Int) (ho:okNodeS l) (h0:0 ≤ a) (h1:a ≤ 900000000000):Ev (fun k=>laws_heldNodeS.f k (mkNodeS l a) a) (a + cntNodeS l):=by
 have h:=okNodeS_len ho
 have hl:(mkNodeS l a).length = l.length:=mkL_length _ _ _ _
 have hc:=cntNodeS_nn ho
 obtain ⟨K,hk⟩:=evRange0 (σ:=Int) l.length (fun k s i=>laws_heldNodeS.l0 k (mkNodeS l a) s i) (fun i s=>s = a + cntNodeS (l.take i)) (fun _ _=>a + cntNodeS l) a (by simp [cntNodeS,cntL])
  (by
   intro i s hi hs
   subst hs
   have ht:=cntNodeS_take l i
   have hr:rd_T59 (mkNodeS l a) (i:Int) = mkNode (l.getD i z59) (a + cntNodeS (l.take i)):=by
    unfold rd_T59
    rw [Int.toNat_natCast]
    exact mkL_getD mkNode cntNode z59 l a i hi
   obtain ⟨K,e⟩:=heldKeySS_ev (l.getD i z59).f0 (a + cntNodeS (l.take i)) (okNodeS_at ho i hi) tD tD
   have hs':cntNodeS (l.take (i + 1)) = cntNodeS (l.take i) + cntNode (l.getD i z59):=cntL_take cntNode z59 l i hi
   have hn:0 ≤ cntKeySS (l.getD i z59).f0:=cntKeySS_nn0 _
   refine .inl ⟨_,rfl,rfl,K,1,fun k hk=>?_⟩
   have e1:=e k hk
   simp only at e1
   simp only [laws_heldNodeS.l0,hr,mkNode,e1,Option.bind_some]
   rw [if_pos tD,if_pos tD,if_neg tD,w64s i tD,hs']
   unfold cntNode
   congr 1
   omega)
  (by
   intro s hs
   subst hs
   refine ⟨0,1,fun k _=>?_⟩
   simp only [laws_heldNodeS.l0]
   rw [if_neg tD,List.take_length])
 exact tx
theorem heldTree_ev (l:List Int) (m:List S59) (a:Int) (ho:okIntS l) (ho2:okNodeS m) (h0:0 ≤ a) (h1:a ≤ 800000000000):Ev (fun k=>laws_heldTree.f k (mkIntS l a) (mkNodeS m (a + cntIntS l)) a) (a + (cntIntS l + cntNodeS m)):=by
 have hc:=cntIntS_nn ho
 have hc2:=cntNodeS_nn ho2
 unfold laws_heldTree.f
 refine Ev.bind (heldIntS_ev l a ho h0 tD) ?_
 simp only [if_neg (show ¬ a + cntIntS l < 0 by omega)]
 refine Ev.bind (heldNodeS_ev m _ ho2 tD tD) ?_
 simp only [if_neg (show ¬ a + cntIntS l + cntNodeS m < 0 by omega)]
 rw [show a + (cntIntS l + cntNodeS m) = a + cntIntS l + cntNodeS m by omega]
 exact Ev.now _
theorem spec_l5Copy_ev (ls:List (List S38)) (ho:okKeySS ls):Ev (fun k=>spec_l5Copy.f k ls) ls:=by
 have h:=okKeySS_len ho
 obtain ⟨K,hk⟩:=evRange0 (σ:=List (List S38)) ls.length (fun k s i=>spec_l5Copy.l0 k i ls s) (fun i s=>s = ls.take i) (fun _ _=>ls) [] te
  (by
   intro i s hi hs
   subst hs
   have hr:rd_L6 ls (i:Int) = ls.getD i []:=by simp [rd_L6]
   have hb:=okKeySS_at ho i hi
   unfold okKeyS at hb
   have hl:(ls.take i).length = i:=by simp;omega
   refine .inl ⟨ls.take (i + 1),rfl,rfl,0,1,fun k _=>?_⟩
   simp only [spec_l5Copy.l0,hr,Option.bind_some,List.length_nil,List.nil_append]
   rw [if_pos tD,if_pos tD,if_pos tD,if_pos tD,w64s i tD,take_getD ls i [] hi])
  (by
   intro s hs
   subst hs
   refine ⟨0,1,fun k _=>?_⟩
   simp only [spec_l5Copy.l0]
   rw [if_neg tD,List.take_length])
 exact tx
theorem spec_l6Copy_ev (s:List Int) (l:List S59) (hs:s.length ≤ 4194304) (ho:okNodeS l):Ev (fun k=>spec_l6Copy.f k s l) (s,l):=by
 have h:=okNodeS_len ho
 obtain ⟨K,hk⟩:=evRange0 (σ:=List S59) l.length (fun k x i=>spec_l6Copy.l0 k i s l s x) (fun i x=>x = l.take i) (fun _ _=>(s,l)) [] te
  (by
   intro i x hi hx
   subst hx
   have hr:rd_T59 l (i:Int) = l.getD i z59:=by simp [rd_T59]
   obtain ⟨K,e⟩:=spec_l5Copy_ev (l.getD i z59).f0 (okNodeS_at ho i hi)
   have hl:(l.take i).length = i:=by simp;omega
   refine .inl ⟨l.take (i + 1),rfl,rfl,K,1,fun k hk=>?_⟩
   have a:=e k hk
   simp only at a
   simp only [spec_l6Copy.l0,hr,a,Option.bind_some]
   rw [if_pos tD,if_pos tD,if_pos tD,w64s i tD,take_getD l i z59 hi])
  (by
   intro x hx
   subst hx
   refine ⟨0,1,fun k _=>?_⟩
   simp only [spec_l6Copy.l0]
   rw [if_neg tD,List.take_length])
 refine ⟨K,fun k hk'=>?_⟩
 simp only [spec_l6Copy.f,Option.bind_some,List.length_nil,List.nil_append]
 rw [if_pos tD]
 exact hk k hk'
theorem spec_l1In_f (a b c:Int):spec_l1In.f a b c = some (decide (b ≤ a ∧ a ≤ c)):=by
 unfold spec_l1In.f
 by_cases h:a ≥ b
 ·rw [if_pos h];congr 1;rw [Bool.eq_iff_iff];simp;omega
 ·rw [if_neg h];congr 1;rw [Bool.eq_iff_iff];simp;omega
def less (a b:S38):Bool:=decide (a.f0 < b.f0 ∨ a.f0 = b.f0 ∧ a.f1 < b.f1)
def same (a b:S38):Bool:=decide (a.f0 = b.f0 ∧ a.f1 = b.f1)
def putGo (k:S38):List S38 → Bool → List S38
 | [],p=>if p then [] else [k]
 | x :: xs,p=>(if p || less x k then [] else [k]) ++ ((if same x k then [] else [x]) ++ putGo k xs (p || !less x k))
def setPut (l:List S38) (k:S38):List S38:=putGo k l false
def mergeSets (a b:List S38):List S38:=b.foldl setPut a
def dropNone (l:List S38):List S38:=l.filter fun x=>x.f2 != 0
theorem putGo_length (k:S38):∀ (l:List S38) (p:Bool),(putGo k l p).length ≤ l.length + 1
 | [],p=>by cases p <;> simp [putGo]
 | x :: xs,p=>by
  have ih:=putGo_length k xs
  have ih1:p = true → (putGo k xs true).length ≤ xs.length:=fun _=>by
   clear ih
   induction xs with
   | nil=>simp [putGo]
   | cons y ys ih=>simp only [putGo,Bool.true_or,if_true,List.nil_append,List.length_append,List.length_cons];split <;> simp <;> omega
  simp only [putGo,List.length_append,List.length_cons]
  cases p with
  | true=>simp only [Bool.true_or,if_true,List.length_nil];have:=ih1 rfl;split <;> simp <;> omega
  | false =>
   cases hx:less x k with
   | true=>simp only [Bool.false_or,if_true,Bool.not_true,List.length_nil];have:=ih false;split <;> simp <;> omega
   | false =>
    simp only [Bool.false_or,Bool.not_false,if_false,Bool.false_eq_true,List.length_cons,List.length_nil]
    have h2:(putGo k xs true).length ≤ xs.length:=by
     clear ih ih1
     induction xs with
     | nil=>simp [putGo]
     | cons y ys ih=>simp only [putGo,Bool.true_or,if_true,List.nil_append,List.length_append,List.length_cons];split <;> simp <;> omega
    split <;> simp <;> omega
theorem setPut_length (l:List S38) (k:S38):(setPut l k).length ≤ l.length + 1:=putGo_length k l false
theorem mergeSets_length (a b:List S38):(mergeSets a b).length ≤ a.length + b.length:=by
 unfold mergeSets
 induction b generalizing a with
 | nil=>simp
 | cons x xs ih=>simp only [List.foldl_cons,List.length_cons];have:=ih (setPut a x);have:=setPut_length a x;omega
theorem spec_Drop_ev (l:List S38) (h:l.length ≤ 4194304):Ev (fun k=>spec_Drop.f k l) (dropNone l):=by
 obtain ⟨K,hk⟩:=evRange0 (σ:=List S38) l.length (fun k s i=>spec_Drop.l0 k l s i) (fun i s=>s.length ≤ i) (fun i s=>s ++ dropNone (l.drop i)) [] te
  (by
   intro i s hi hs
   have hd:=drop_getD l i z38 hi
   have hr:rd_T38 l (i:Int) = l.getD i z38:=by simp [rd_T38]
   generalize l.getD i z38 = y at *
   by_cases h1:y.f2 = 0
   ·refine .inl ⟨s,vG,?_,0,1,fun k _=>?_⟩
    ·rw [hd,dropNone,dropNone,List.filter_cons_of_neg (by simp [h1])]
    ·simp only [spec_Drop.l0,hr]
     rw [if_pos tD,if_pos tD,if_pos h1,w64s i tD]
   ·refine .inl ⟨s ++ [y],by simp;omega,?_,0,1,fun k _=>?_⟩
    ·rw [hd,dropNone,dropNone,List.filter_cons_of_pos (by simp [h1]),List.append_assoc];rfl
    ·simp only [spec_Drop.l0,hr]
     rw [if_pos tD,if_pos tD,if_neg h1,if_pos tD,w64s i tD])
  (by
   intro s _
   refine ⟨0,1,fun k _=>?_⟩
   simp only [spec_Drop.l0]
   rw [if_neg tD]
   simp [dropNone])
 exact tx
theorem spec_LessKey_f (a b:S38):spec_LessKey.f a.f0 a.f1 a.f2 a.f3 a.f4 b.f0 b.f1 b.f2 b.f3 b.f4 = some (less a b):=by
 unfold spec_LessKey.f less
 split
 ·simp [*]
 ·simp [*]
theorem spec_SameSpot_f (a b:S38):spec_SameSpot.f a.f0 a.f1 a.f2 a.f3 a.f4 b.f0 b.f1 b.f2 b.f3 b.f4 = some (same a b):=by
 unfold spec_SameSpot.f same
 split
 ·simp only [*,true_and,Option.some.injEq];rw [Bool.eq_iff_iff];simp
 ·simp [*]
theorem spec_SetPut_ev (l:List S38) (x:S38) (h:l.length ≤ 4194304):Ev (fun k=>spec_SetPut.f k l x.f0 x.f1 x.f2 x.f3 x.f4) (setPut l x):=by
 obtain ⟨K,hk⟩:=evRange0 (σ:=List S38 × Bool) l.length (fun k s i=>spec_SetPut.l0 k l s.1 s.2 i x.f0 x.f1 x.f2 x.f3 x.f4) (fun i s=>s.1.length ≤ 2 * i) (fun i s=>s.1 ++ putGo x (l.drop i) s.2) ([],false) te
  (by
   intro i s hi hs
   obtain ⟨out,put⟩:=s
   simp only at hs
   have hd:=drop_getD l i z38 hi
   have hr:rd_T38 l (i:Int) = l.getD i z38:=by simp [rd_T38]
   refine .inl ⟨(out ++ (if put || less (l.getD i z38) x then [] else [x]) ++ (if same (l.getD i z38) x then [] else [l.getD i z38]),put || !less (l.getD i z38) x),?_,?_,0,2,fun k _=>?_⟩
   ·simp only [List.length_append];split <;> split <;> simp <;> omega
   ·simp only [hd,putGo,List.append_assoc]
   ·generalize hy:l.getD i z38 = y at *
    have hw:=w64s i tD
    have c1:(i:Int) < (l.length:Int):=by omega
    have c2:0 ≤ (i:Int):=by omega
    simp only [spec_SetPut.l0,hr,spec_LessKey_f,Option.bind_some,spec_SetPut.j1,if_pos c1,if_pos c2]
    cases put <;> cases hl:less y x <;> cases hq:same y x <;>
     simp only [Bool.not_true,Bool.not_false,if_true,if_false,Bool.false_eq_true,reduceCtorEq,spec_SameSpot_f,Option.bind_some,hq,hw,Bool.or_true,Bool.true_or,Bool.or_false,Bool.false_or,List.append_nil,List.append_assoc] <;>
     (repeat rw [if_pos (by first|omega|(simp only [List.length_append,List.length_cons,List.length_nil];omega))]) <;> rfl)
  (by
   intro s hs
   obtain ⟨out,put⟩:=s
   simp only at hs
   refine ⟨0,1,fun k _=>?_⟩
   simp only [spec_SetPut.l0]
   rw [if_neg tD]
   cases put
   ·rw [if_neg te,if_pos tD];simp [putGo]
   ·rw [if_pos rfl];simp [putGo])
 exact tx
theorem spec_MergeSets_ev (a b:List S38) (h:a.length + b.length ≤ 4194304):Ev (fun k=>spec_MergeSets.f k a b) (mergeSets a b):=by
 obtain ⟨K,hk⟩:=evRange0 (σ:=List S38) b.length (fun k s i=>spec_MergeSets.l0 k b s i) (fun i s=>s.length ≤ a.length + i) (fun i s=>mergeSets s (b.drop i)) a te
  (by
   intro i s hi hs
   have hd:=drop_getD b i z38 hi
   have hr:rd_T38 b (i:Int) = b.getD i z38:=by simp [rd_T38]
   obtain ⟨K,e⟩:=spec_SetPut_ev s (b.getD i z38) tD
   have hlen:=setPut_length s (b.getD i z38)
   refine .inl ⟨setPut s (b.getD i z38),vG,by simp only [hd,mergeSets,List.foldl_cons],K,1,fun k hk=>?_⟩
   simp only [spec_MergeSets.l0,hr,e k hk,Option.bind_some]
   rw [if_pos tD,if_pos tD,w64s i tD])
  (by
   intro s hs
   refine ⟨0,1,fun k _=>?_⟩
   simp only [spec_MergeSets.l0]
   rw [if_neg tD]
   simp [mergeSets])
 refine ⟨K,fun k hk'=>?_⟩
 simp only [spec_MergeSets.f,Option.bind_some,List.length_nil,List.nil_append]
 rw [if_pos tD]
 exact hk k hk'
def keyOk5 (a b c d e:Int):Bool:=decide (0 ≤ a ∧ a ≤ 15) && (decide (1 ≤ b ∧ b ≤ 60) && (decide (0 ≤ c ∧ c ≤ 2) && if c = 1 then decide (0 ≤ d ∧ d ≤ 23) && decide (0 ≤ e ∧ e ≤ 999) else decide (d = 0) && decide (e = 0)))
def keyOkB (x:S38):Bool:=keyOk5 x.f0 x.f1 x.f2 x.f3 x.f4
def risesAt (l:List S38) (j:Nat):Bool:=less (l.getD (j - 1) z38) (l.getD j z38)
def setOkB (l:List S38):Bool:=allFrom (fun j=>keyOkB (l.getD j z38) && (j == 0 || risesAt l j)) l.length 0 && decide (l.length ≤ 60)
def countK:List (List S38) → Nat
 | []=>0
 | l :: ls=>l.length + countK ls
def nodeOkB (ls:List (List S38)):Bool:=allFrom (fun i=>setOkB (ls.getD i []) && !decide ((ls.getD i []).length = 0)) ls.length 0 && (decide (ls.length ≤ 3) && decide (countK ls ≤ 8))
theorem countK_bulk:∀ ls:List (List S38),countK ls ≤ bulkKeySS ls
 | []=>Nat.le_refl _
 | l :: ls=>by have:=countK_bulk ls;simp only [countK,bulkKeySS];omega
theorem countK_drop (ls:List (List S38)) (i:Nat) (h:i < ls.length):countK (ls.drop i) = (ls.getD i []).length + countK (ls.drop (i + 1)):=by
 rw [drop_getD ls i [] h];rfl
def spotOf (a b:Int):Int:=wrap64 (wrap64 (64 * a) + b)
/-- The last low at most x, or -1: counted down from n. -/
def whereGo (l:List Int) (x:Int):Nat → Int
 | 0=>-1
 | n + 1=>if l.getD n 0 ≤ x then (n:Int) else whereGo l x n
theorem whereGo_range (l:List Int) (x:Int):∀ n,-1 ≤ whereGo l x n ∧ whereGo l x n < n
 | 0=>by simp [whereGo]
 | n + 1=>by
  have:=whereGo_range l x n
  simp only [whereGo]
  split <;> omega
def mergeAll (s:List S38) (ls:List (List S38)):List S38:=ls.foldl mergeSets s
def nodeKeys (ls:List (List S38)):List S38:=dropNone (mergeAll [] ls)
theorem mergeAll_length:∀ (ls:List (List S38)) (s:List S38),(mergeAll s ls).length ≤ s.length + countK ls
 | [],s=>by simp [mergeAll]
 | l :: ls,s=>by
  have h1:=mergeAll_length ls (mergeSets s l)
  have h2:=mergeSets_length s l
  simp only [mergeAll,List.foldl_cons,countK] at *
  omega
theorem dropNone_length (l:List S38):(dropNone l).length ≤ l.length:=List.length_filter_le _ _
theorem nodeKeys_length (ls:List (List S38)):(nodeKeys ls).length ≤ countK ls:=by
 have h1:=mergeAll_length ls []
 have h2:=dropNone_length (mergeAll [] ls)
 simp only [List.length_nil] at h1
 unfold nodeKeys
 omega
def inBoundsB (lows:List Int) (i:Nat) (ls:List (List S38)):Bool:=ls.all fun l=>l.all fun x=>decide (lows.getD i 0 ≤ spotOf x.f0 x.f1) && !(decide (i + 1 < lows.length) && decide (lows.getD (i + 1) 0 ≤ spotOf x.f0 x.f1))
theorem spec_NodeKeys_ev (ls:List (List S38)) (ho:okKeySS ls):Ev (fun k=>spec_NodeKeys.f k ls) (nodeKeys ls):=by
 have h:=okKeySS_len ho
 have hb:=countK_bulk ls
 have hbb:bulkKeySS ls ≤ 4194304:=ho
 obtain ⟨K,hk⟩:=evRange0 (σ:=List S38) ls.length (fun k s i=>spec_NodeKeys.l0 k s i ls) (fun i s=>s.length + countK (ls.drop i) ≤ countK ls) (fun i s=>dropNone (mergeAll s (ls.drop i))) [] te
  (by
   intro i s hi hs
   have hd:=drop_getD ls i [] hi
   have hr:rd_L6 ls (i:Int) = ls.getD i []:=by simp [rd_L6]
   rw [countK_drop ls i hi] at hs
   obtain ⟨K,e⟩:=spec_MergeSets_ev s (ls.getD i []) tD
   have hl:=mergeSets_length s (ls.getD i [])
   refine .inl ⟨mergeSets s (ls.getD i []),vG,by rw [hd];rfl,K,1,fun k hk=>?_⟩
   have e1:=e k hk
   simp only at e1
   simp only [spec_NodeKeys.l0,hr,e1,Option.bind_some]
   rw [if_pos tD,if_pos tD,w64s i tD])
  (by
   intro s hs
   simp only [List.drop_length,countK] at hs
   obtain ⟨K,e⟩:=spec_Drop_ev s tD
   refine ⟨K,1,fun k hk=>?_⟩
   have e1:=e k hk
   simp only at e1
   simp only [spec_NodeKeys.l0,e1,Option.bind_some]
   rw [if_neg tD]
   simp [mergeAll])
 exact tx
theorem spec_KeyOk_ev (a b c d e:Int):Ev (fun k=>spec_KeyOk.f k a b c d e) (keyOk5 a b c d e):=by
 refine evSucc ⟨0,1,fun k _=>?_⟩
 simp only [spec_KeyOk.f,spec_l1In_f,Option.bind_some,spec_KeyOk.j0,keyOk5]
 cases h0:decide (0 ≤ a ∧ a ≤ 15) <;> cases h1:decide (1 ≤ b ∧ b ≤ 60) <;> cases h2:decide (0 ≤ c ∧ c ≤ 2) <;> simp only [Bool.false_and,Bool.true_and,Bool.false_eq_true,if_true,if_false,Bool.not_true,Bool.not_false]
 by_cases h3:c = 1
 ·rw [if_pos h3,if_pos h3]
  cases h4:decide (0 ≤ d ∧ d ≤ 23) <;> simp only [Bool.false_and,Bool.true_and,Bool.false_eq_true,if_true,if_false]
 ·rw [if_neg h3,if_neg h3]
  by_cases h4:d = 0
  ·rw [if_pos h4];simp [h4];rw [Bool.eq_iff_iff];simp
  ·rw [if_neg h4];simp [h4]
theorem spec_l4Rises_ev (l:List S38) (h:l.length ≤ 4194304):Ev (fun k=>spec_l4Rises.f k l) (allFrom (risesAt l) l.length 1):=by
 by_cases h0:l.length = 0
 ·refine evSucc ⟨0,1,fun k _=>?_⟩
  simp only [spec_l4Rises.f,spec_l4Rises.l0]
  rw [if_neg tD]
  simp [allFrom,h0]
 have:=evAll l.length (fun k i=>spec_l4Rises.l0 k l (if i = 0 then 1 else i)) (fun j=>j == 0 || risesAt l j) true
  (by
   intro i hi
   by_cases hz:i = 0
   ·subst hz
    exact ⟨0,0,fun k _=>by simp⟩
   have hr:rd_T38 l (i:Int) = l.getD i z38:=by simp [rd_T38]
   have hw:=w64s i tD
   have hw1:wrap64 ((i:Int) - 1) = ((i - 1:Nat):Int):=by rw [w64 tD tD];omega
   have hr1:rd_T38 l ((i - 1:Nat):Int) = l.getD (i - 1) z38:=by simp [rd_T38]
   refine ⟨0,1,fun k _=>?_⟩
   rw [if_neg (show ¬ (i:Int) = 0 by omega),if_neg (show ¬ ((i + 1:Nat):Int) = 0 by omega)]
   simp only [spec_l4Rises.l0]
   rw [if_pos tD,hw1,if_pos tD,if_pos tD,if_pos tD,hr,hr1,spec_LessKey_f,hw]
   simp only [Option.bind_some,beq_eq_false_iff_ne.mpr hz,Bool.false_or]
   rfl)
  (by
   refine ⟨0,1,fun k _=>?_⟩
   rw [if_neg (show ¬ (l.length:Int) = 0 by omega)]
   simp only [spec_l4Rises.l0]
   rw [if_neg tD]) 1 tD
 obtain ⟨K,hk⟩:=this
 refine ⟨K,fun k hk'=>?_⟩
 have e:=hk k hk'
 simp only [Bool.and_true] at e
 have e2:allFrom (fun j=>j == 0 || risesAt l j) l.length 1 = allFrom (risesAt l) l.length 1:=by
  rw [Bool.eq_iff_iff,allFrom_iff,allFrom_iff]
  constructor
  ·intro hh j h1 h2;have:=hh j h1 h2;simp only [Bool.or_eq_true,beq_iff_eq] at this;rcases this with h|h;omega;exact h
  ·intro hh j h1 h2;simp [hh j h1 h2]
 rw [e2] at e
 rw [← e]
 rfl
theorem spec_SetOk_ev (l:List S38) (h:l.length ≤ 4194304):Ev (fun k=>spec_SetOk.f k l) (setOkB l):=by
 obtain ⟨K0,e0⟩:=spec_l4Rises_ev l h
 have:=evAll l.length (fun k i=>spec_SetOk.l0 k l i) (fun j=>keyOkB (l.getD j z38)) (allFrom (risesAt l) l.length 1 && decide (l.length ≤ 60))
  (by
   intro i hi
   have hr:rd_T38 l (i:Int) = l.getD i z38:=by simp [rd_T38]
   obtain ⟨K,e⟩:=spec_KeyOk_ev (l.getD i z38).f0 (l.getD i z38).f1 (l.getD i z38).f2 (l.getD i z38).f3 (l.getD i z38).f4
   refine ⟨K,1,fun k hk=>?_⟩
   have e1:spec_KeyOk.f k (l.getD i z38).f0 (l.getD i z38).f1 (l.getD i z38).f2 (l.getD i z38).f3 (l.getD i z38).f4 = some (keyOkB (l.getD i z38)):=e k hk
   simp only [spec_SetOk.l0,hr,e1,Option.bind_some]
   rw [if_pos tD,if_pos tD,w64s i tD])
  (by
   refine ⟨K0,1,fun k hk=>?_⟩
   have e1:spec_l4Rises.f k l = some (allFrom (risesAt l) l.length 1):=e0 k hk
   simp only [spec_SetOk.l0,e1,Option.bind_some]
   rw [if_neg tD]
   have e2:decide ((l.length:Int) ≤ 60) = decide (l.length ≤ 60):=by rw [Bool.eq_iff_iff];simp;omega
   cases allFrom (risesAt l) l.length 1 <;> simp [e2]) 0 (Nat.zero_le _)
 obtain ⟨K,hk⟩:=this
 refine ⟨K,fun k hk'=>?_⟩
 have e:=hk k hk'
 simp only [Int.natCast_zero] at e
 show spec_SetOk.l0 k l 0 = _
 have e':spec_SetOk.l0 k l 0 = some (allFrom (fun j=>keyOkB (l.getD j z38)) l.length 0 && (allFrom (risesAt l) l.length 1 && decide (l.length ≤ 60))):=e
 rw [e',setOkB,← Bool.and_assoc]
 congr 2
 rw [Bool.eq_iff_iff,Bool.and_eq_true,allFrom_iff,allFrom_iff,allFrom_iff]
 constructor
 ·rintro ⟨h1,h2⟩ j hj hlt
  rw [h1 j hj hlt,Bool.true_and]
  by_cases hz:j = 0
  ·simp [hz]
  ·rw [h2 j tD hlt,Bool.or_true]
 ·intro h
  refine ⟨fun j hj hlt=>?_,fun j hj hlt=>?_⟩
  ·have:=h j hj hlt;simp only [Bool.and_eq_true] at this;exact this.1
  ·have:=h j tD hlt;simp only [Bool.and_eq_true,Bool.or_eq_true,beq_iff_eq] at this;rcases this.2 with h|h;omega;exact h
theorem spec_l5Count_ev (ls:List (List S38)) (ho:okKeySS ls):Ev (fun k=>spec_l5Count.f k ls) ((countK ls:Nat):Int):=by
 have h:=okKeySS_len ho
 have hb:=countK_bulk ls
 unfold okKeySS at ho
 obtain ⟨K,hk⟩:=evRange0 (σ:=Int) ls.length (fun k s i=>spec_l5Count.l0 k s i ls) (fun i s=>s + (countK (ls.drop i):Nat) = (countK ls:Nat) ∧ 0 ≤ s) (fun _ _=>((countK ls:Nat):Int)) 0 te
  (by
   rintro i s hi ⟨hs,h0⟩
   have hr:rd_L6 ls (i:Int) = ls.getD i []:=by simp [rd_L6]
   rw [countK_drop ls i hi] at hs
   refine .inl ⟨s + ((ls.getD i []).length:Int),⟨vG,vG⟩,rfl,0,1,fun k _=>?_⟩
   simp only [spec_l5Count.l0,hr]
   rw [if_pos tD,if_pos tD,w64 tD tD,w64s i tD])
  (by
   rintro s ⟨hs,h0⟩
   refine ⟨0,1,fun k _=>?_⟩
   simp only [spec_l5Count.l0]
   rw [if_neg tD]
   simp only [List.drop_length,countK] at hs
   congr 1;omega)
 exact tx
theorem spec_NodeOk_ev (ls:List (List S38)) (ho:okKeySS ls):Ev (fun k=>spec_NodeOk.f k ls) (nodeOkB ls):=by
 have h:=okKeySS_len ho
 obtain ⟨K0,e0⟩:=spec_l5Count_ev ls ho
 have:=evAll ls.length (fun k i=>spec_NodeOk.l0 k i ls) (fun i=>setOkB (ls.getD i []) && !decide ((ls.getD i []).length = 0)) (decide (ls.length ≤ 3) && decide (countK ls ≤ 8))
  (by
   intro i hi
   have hr:rd_L6 ls (i:Int) = ls.getD i []:=by simp [rd_L6]
   obtain ⟨K,e⟩:=spec_SetOk_ev (ls.getD i []) (okKeySS_at ho i hi)
   refine ⟨K,1,fun k hk=>?_⟩
   have e1:=e k hk
   simp only at e1
   simp only [spec_NodeOk.l0,hr,e1,Option.bind_some]
   rw [if_pos tD,if_pos tD,w64s i tD]
   generalize ls.getD i [] = y at *
   cases hq:setOkB y with
   | false=>simp only [Bool.false_and,Bool.false_eq_true,if_false]
   | true =>
    simp only [Bool.true_and,if_true]
    by_cases c:y.length = 0
    ·rw [if_pos tD];simp [c]
    ·rw [if_neg tD];simp [c])
  (by
   refine ⟨K0,1,fun k hk=>?_⟩
   have e1:=e0 k hk
   simp only at e1
   simp only [spec_NodeOk.l0,e1,Option.bind_some]
   rw [if_neg tD]
   by_cases c:ls.length ≤ 3
   ·rw [if_pos tD]
    congr 1
    rw [Bool.eq_iff_iff];simp [c];omega
   ·rw [if_neg tD];simp [c]) 0 (Nat.zero_le _)
 obtain ⟨K,hk⟩:=this
 exact tx
def sumKeysN:List S59 → Nat
 | []=>0
 | x :: xs=>(nodeKeys x.f0).length + sumKeysN xs
def treeKeys:List S59 → List S38
 | []=>[]
 | x :: xs=>nodeKeys x.f0 ++ treeKeys xs
theorem treeKeys_length:∀ n:List S59,(treeKeys n).length = sumKeysN n
 | []=>rfl
 | x :: xs=>by have:=treeKeys_length xs;simp only [treeKeys,sumKeysN,List.length_append];omega
theorem sumKeysN_bulk:∀ n:List S59,sumKeysN n ≤ bulkNodeS n
 | []=>Nat.le_refl _
 | x :: xs=>by
  have h1:=sumKeysN_bulk xs
  have h2:=nodeKeys_length x.f0
  have h3:=countK_bulk x.f0
  simp only [sumKeysN,bulkNodeS]
  omega
theorem treeKeys_drop (n:List S59) (i:Nat) (h:i < n.length):treeKeys (n.drop i) = nodeKeys (n.getD i z59).f0 ++ treeKeys (n.drop (i + 1)):=by
 rw [drop_getD n i z59 h];rfl
theorem sumKeysN_drop (n:List S59) (i:Nat) (h:i < n.length):sumKeysN (n.drop i) = (nodeKeys (n.getD i z59).f0).length + sumKeysN (n.drop (i + 1)):=by
 rw [drop_getD n i z59 h];rfl
def keysN (n:List S59):Nat → S59:=fun i=>n.getD i z59
def nodeFits (lows:List Int) (i:Nat) (x:S59):Bool:=nodeOkB x.f0 && ((i == 0 || !decide ((nodeKeys x.f0).length = 0)) && inBoundsB lows i x.f0)
def treeOkB (lows:List Int) (n:List S59):Bool :=
 if 1 ≤ (n.length:Int) ∧ (n.length:Int) ≤ 20 then if lows.length = n.length then if lows.getD 0 0 = 0 then
  allFrom (fun i=>(i == 0 || decide (lows.getD (i - 1) 0 < lows.getD i 0)) && nodeFits lows i (n.getD i z59)) n.length 0 && decide (sumKeysN n ≤ 60)
 else false else false else false
theorem spec_l6Node_l1 (lows:List Int) (n:List S59) (ls:List (List S38)) (hls:ls.length ≤ 4194304) (hlo:lows.length ≤ 4194304) (p:Nat) (hp:p < lows.length) (q:Nat) (hq:q < ls.length) (l:List S38) (hl:l.length ≤ 4194304) (b:Bool) (hrl:rd_L6 ls (q:Int) = l)
  (hnext:Ev (fun k=>spec_l6Node.l0 k (p:Int) ((q + 1:Nat):Int) lows n ls) b) :
  Ev (fun k=>spec_l6Node.l1 k (p:Int) (q:Int) 0 lows n ls) ((l.all fun x=>decide (lows.getD p 0 ≤ spotOf x.f0 x.f1) && !(decide (p + 1 < lows.length) && decide (lows.getD (p + 1) 0 ≤ spotOf x.f0 x.f1))) && b):=by
 obtain ⟨K0,e0⟩:=hnext
 obtain ⟨K,hk⟩:=evRange0 (σ:=Unit) l.length (fun k _ i=>spec_l6Node.l1 k (p:Int) (q:Int) i lows n ls) (fun _ _=>True)
  (fun i _=>((l.drop i).all fun x=>decide (lows.getD p 0 ≤ spotOf x.f0 x.f1) && !(decide (p + 1 < lows.length) && decide (lows.getD (p + 1) 0 ≤ spotOf x.f0 x.f1))) && b) () trivial
  (by
   intro i _ hi _
   have hd:=drop_getD l i z38 hi
   have hr:rd_T38 l (i:Int) = l.getD i z38:=by simp [rd_T38]
   generalize l.getD i z38 = y at *
   have hsp:wrap64 (wrap64 (64 * y.f0) + y.f1) = spotOf y.f0 y.f1:=rfl
   have hp1:=w64s p tD
   by_cases c1:lows.getD p 0 ≤ spotOf y.f0 y.f1
   ·by_cases c2:p + 1 < lows.length ∧ lows.getD (p + 1) 0 ≤ spotOf y.f0 y.f1
    ·refine .inr ⟨0,1,fun k _=>?_⟩
     simp only [spec_l6Node.l1,hrl,hr,spec_l6Spot.f,spec_SpotOf.f,Option.bind_some,hsp,rd_nat,hp1]
     rw [if_pos tD,if_pos tD,if_pos tD,if_pos tD,if_pos tD,if_pos tD,if_neg tD,if_pos tD,if_pos tD,if_pos c2.2,hd,List.all_cons,decide_eq_true c2.1,decide_eq_true c2.2,Bool.and_true,Bool.not_true,Bool.and_false,Bool.false_and,Bool.false_and]
    ·refine .inl ⟨(),trivial,?_,0,1,fun k _=>?_⟩
     ·rw [hd,List.all_cons]
      have e:(decide (p + 1 < lows.length) && decide (lows.getD (p + 1) 0 ≤ spotOf y.f0 y.f1)) = false:=by rw [← Bool.decide_and];simpa using c2
      rw [e,decide_eq_true c1];rfl
     ·simp only [spec_l6Node.l1,hrl,hr,spec_l6Spot.f,spec_SpotOf.f,Option.bind_some,hsp,rd_nat,hp1]
      rw [if_pos tD,if_pos tD,if_pos tD,if_pos tD,if_pos tD,if_pos tD,if_neg tD,w64s i tD]
      by_cases c3:p + 1 < lows.length
      ·rw [if_pos tD,if_pos tD,if_neg (fun h=>c2 ⟨c3,h⟩)]
      ·rw [if_neg tD]
   ·refine .inr ⟨0,1,fun k _=>?_⟩
    simp only [spec_l6Node.l1,hrl,hr,spec_l6Spot.f,spec_SpotOf.f,Option.bind_some,hsp,rd_nat,hp1]
    rw [if_pos tD,if_pos tD,if_pos tD,if_pos tD,if_pos tD,if_pos tD,if_pos tD,hd,List.all_cons,decide_eq_false c1]
    rfl)
  (by
   intro _ _
   refine ⟨K0,1,fun k hk=>?_⟩
   have e1:=e0 k hk
   simp only at e1
   simp only [spec_l6Node.l1,hrl]
   rw [if_pos tD,if_pos tD,if_neg tD,w64s q tD,e1]
   simp)
 exact tx
theorem spec_l6Node_l0 (lows:List Int) (n:List S59) (ls:List (List S38)) (ho:okKeySS ls) (hlo:lows.length ≤ 4194304) (p:Nat) (hp:p < lows.length) :
  ∀ (d q:Nat),ls.length - q = d → q ≤ ls.length → Ev (fun k=>spec_l6Node.l0 k (p:Int) (q:Int) lows n ls) (inBoundsB lows p (ls.drop q)):=by
 have hls:=okKeySS_len ho
 intro d
 induction d with
 | zero =>
  intro q hd hq
  obtain rfl:q = ls.length:=by omega
  refine evSucc ⟨0,1,fun k _=>?_⟩
  simp only [spec_l6Node.l0]
  rw [if_neg tD]
  simp [inBoundsB]
 | succ d ih =>
  intro q hd hq
  have hlt:q < ls.length:=by omega
  have hr:rd_L6 ls (q:Int) = ls.getD q []:=by simp [rd_L6]
  have ho1:(ls.getD q []).length ≤ 4194304:=okKeySS_at ho q hlt
  obtain ⟨K,e⟩:=spec_l6Node_l1 lows n ls hls hlo p hp q hlt (ls.getD q []) ho1 _ hr (ih (q + 1) tD tD)
  refine evSucc ⟨K,1,fun k hk=>?_⟩
  have e1:=e k hk
  simp only at e1
  simp only [spec_l6Node.l0]
  rw [if_pos tD,e1,drop_getD ls q [] hlt]
  rfl
theorem spec_l6Node_ev (lows:List Int) (n:List S59) (p:Nat) (hp:p < n.length) (hl:lows.length = n.length) (ho:okNodeS n):Ev (fun k=>spec_l6Node.f k lows n (p:Int)) (nodeFits lows p (n.getD p z59)):=by
 have hn:=okNodeS_len ho
 have hr:rd_T59 n (p:Int) = n.getD p z59:=by simp [rd_T59]
 have ho1:=okNodeS_at ho p hp
 generalize n.getD p z59 = y at *
 obtain ⟨K,e⟩:=spec_l6Node_l0 lows n y.f0 ho1 tD p tD _ 0 rfl (Nat.zero_le _)
 obtain ⟨K2,e2⟩:=spec_NodeOk_ev y.f0 ho1
 obtain ⟨K3,e3⟩:=spec_NodeKeys_ev y.f0 ho1
 refine evSucc ⟨K + K2 + K3,1,fun k hk=>?_⟩
 have a1:spec_l6Node.l0 k (p:Int) 0 lows n y.f0 = some (inBoundsB lows p y.f0):=e k tD
 have a2:=e2 (k + 1) tD
 have a3:=e3 (k + 1) tD
 simp only at a2 a3
 simp only [spec_l6Node.f,hr,a2,a3,Option.bind_some,spec_l6Node.j0,a1]
 rw [if_pos tD,if_pos tD]
 unfold nodeFits
 cases nodeOkB y.f0 with
 | false=>simp only [Bool.false_eq_true,if_false,if_true,Bool.false_and]
 | true =>
  simp only [if_true,Bool.true_and]
  by_cases c:p = 0
  ·subst c
   rw [if_neg tD]
   simp
  ·rw [if_pos tD]
   by_cases c2:(nodeKeys y.f0).length = 0
   ·simp [c,c2]
   ·have e4:(((nodeKeys y.f0).length:Int) == 0) = false:=by rw [beq_eq_false_iff_ne];omega
    simp only [e4,Bool.false_eq_true,if_false]
    simp [c,c2]
theorem spec_TreeKeys_ev (l:List Int) (n:List S59) (ho:okNodeS n):Ev (fun k=>spec_TreeKeys.f k l n) (treeKeys n):=by
 have h:=okNodeS_len ho
 have hb:=sumKeysN_bulk n
 have hbb:bulkNodeS n ≤ 4194304:=ho
 obtain ⟨K,hk⟩:=evRange0 (σ:=List S38) n.length (fun k s i=>spec_TreeKeys.l0 k s i l n) (fun i s=>s.length + sumKeysN (n.drop i) ≤ sumKeysN n) (fun i s=>s ++ treeKeys (n.drop i)) [] te
  (by
   intro i s hi hs
   have hr:rd_T59 n (i:Int) = n.getD i z59:=by simp [rd_T59]
   rw [sumKeysN_drop n i hi] at hs
   obtain ⟨K,e⟩:=spec_NodeKeys_ev (n.getD i z59).f0 (okNodeS_at ho i hi)
   refine .inl ⟨s ++ nodeKeys (n.getD i z59).f0,by simp only [List.length_append];omega,by rw [treeKeys_drop n i hi,List.append_assoc],K,1,fun k hk=>?_⟩
   have e1:=e k hk
   simp only at e1
   simp only [spec_TreeKeys.l0,hr,e1,Option.bind_some]
   rw [if_pos tD,if_pos tD,if_pos tD,w64s i tD])
  (by
   intro s hs
   refine ⟨0,1,fun k _=>?_⟩
   simp only [spec_TreeKeys.l0]
   rw [if_neg tD]
   simp [treeKeys])
 exact tx
theorem spec_TreeOk_ev (lows:List Int) (n:List S59) (h1:okIntS lows) (ho:okNodeS n):Ev (fun k=>spec_TreeOk.f k lows n) (treeOkB lows n):=by
 have hn:=okNodeS_len ho
 have hl:lows.length ≤ 4194304:=h1
 have hb:=sumKeysN_bulk n
 have hbb:bulkNodeS n ≤ 4194304:=ho
 unfold treeOkB
 by_cases c1:1 ≤ (n.length:Int) ∧ (n.length:Int) ≤ 20
 ·by_cases c2:lows.length = n.length
  ·by_cases c3:lows.getD 0 0 = 0
   ·rw [if_pos c1,if_pos c2,if_pos c3]
    obtain ⟨K0,e0⟩:=spec_TreeKeys_ev lows n ho
    have:=evAll n.length (fun k i=>spec_TreeOk.l0 k i lows n) (fun i=>(i == 0 || decide (lows.getD (i - 1) 0 < lows.getD i 0)) && nodeFits lows i (n.getD i z59)) (decide (sumKeysN n ≤ 60))
     (by
      intro i hi
      obtain ⟨K,e⟩:=spec_l6Node_ev lows n i hi c2 ho
      refine ⟨K,1,fun k hk=>?_⟩
      have e1:=e k hk
      simp only at e1
      simp only [spec_TreeOk.l0,e1,Option.bind_some,rd_nat,w64s i tD]
      rw [if_pos tD]
      by_cases hz:i = 0
      ·subst hz
       rw [if_neg tD]
       simp only [beq_self_eq_true,Bool.true_or,Bool.true_and]
      ·have hw1:wrap64 ((i:Int) - 1) = ((i - 1:Nat):Int):=by rw [w64 tD tD];omega
       rw [if_pos tD,hw1,if_pos tD,if_pos tD,if_pos tD,if_pos tD,rd_nat,beq_eq_false_iff_ne.mpr hz,Bool.false_or]
       by_cases c:lows.getD (i - 1) 0 < lows.getD i 0
       ·rw [if_neg tD,decide_eq_true c,Bool.true_and]
       ·rw [if_pos tD,decide_eq_false c,Bool.false_and];rfl)
     (by
      refine ⟨K0,1,fun k hk=>?_⟩
      have e1:=e0 k hk
      simp only at e1
      simp only [spec_TreeOk.l0,e1,Option.bind_some,treeKeys_length]
      rw [if_neg tD]
      congr 1;rw [Bool.eq_iff_iff];simp;omega) 0 (Nat.zero_le _)
    obtain ⟨K,hk⟩:=this
    refine evSucc ⟨K,1,fun k hk'=>?_⟩
    have e:=hk k hk'
    have hz:rd lows 0 = lows.getD 0 0:=rfl
    simp only [spec_TreeOk.f,spec_l1In_f,Option.bind_some,hz,c3,bne_self_eq_false,spec_TreeOk.j0,Bool.false_eq_true,if_false]
    rw [if_pos (by simpa using c1),if_pos tD,if_pos tD]
    exact e
   ·rw [if_pos c1,if_pos c2,if_neg c3]
    refine evSucc ⟨0,1,fun k hk'=>?_⟩
    have hz:rd lows 0 = lows.getD 0 0:=rfl
    have hb:(lows.getD 0 0 != 0) = true:=by simpa using c3
    simp only [spec_TreeOk.f,spec_l1In_f,Option.bind_some,hz,hb,spec_TreeOk.j0,if_true]
    rw [if_pos (by simpa using c1),if_pos tD,if_pos tD]
  ·rw [if_pos c1,if_neg c2]
   refine evSucc ⟨0,1,fun k hk'=>?_⟩
   simp only [spec_TreeOk.f,spec_l1In_f,Option.bind_some,spec_TreeOk.j0,if_true]
   rw [if_pos (by simpa using c1),if_neg tD]
 ·rw [if_neg c1]
  refine evSucc ⟨0,1,fun k hk'=>?_⟩
  simp only [spec_TreeOk.f,spec_l1In_f,Option.bind_some,spec_TreeOk.j0,if_true]
  rw [if_neg (by simpa using c1)]
theorem spec_WhereIn_ev (l:List Int) (n:List S59) (a b:Int) (h:l.length ≤ 4194304):Ev (fun k=>spec_WhereIn.f k l n a b) (whereGo l (spotOf a b) l.length):=by
 obtain ⟨K,hk⟩:=evRange0 (σ:=Int) l.length (fun k s i=>spec_WhereIn.l0 k a b s i l n) (fun i s=>s = whereGo l (spotOf a b) i) (fun _ _=>whereGo l (spotOf a b) l.length) (-1) rfl
  (by
   rintro i s hi rfl
   refine .inl ⟨whereGo l (spotOf a b) (i + 1),rfl,rfl,0,1,fun k _=>?_⟩
   simp only [spec_WhereIn.l0,rd_nat,spec_SpotOf.f,Option.bind_some,whereGo]
   rw [if_pos tD,if_pos tD,w64s i tD]
   show (if l.getD i 0 ≤ spotOf a b then _ else _) = _
   by_cases c:l.getD i 0 ≤ spotOf a b
   ·rw [if_pos c,if_pos c]
   ·rw [if_neg c,if_neg c])
  (by
   rintro s rfl
   refine ⟨0,1,fun k _=>?_⟩
   simp only [spec_WhereIn.l0]
   rw [if_neg tD])
 exact tx
def nodeNew (l:List S38):List (List S38):=if l.length = 0 then [] else [l]
theorem spec_NodeNew_ev (l:List S38) (h:l.length ≤ 4194304):Ev (fun _=>spec_NodeNew.f l) (nodeNew l):=by
 refine evOf fun _=>?_
 simp only [spec_NodeNew.f,nodeNew,Option.bind_some,List.nil_append,List.length_nil,Nat.zero_add]
 by_cases c:l.length = 0
 ·rw [if_pos tD,if_pos c]
 ·rw [if_neg tD,if_neg c,if_pos tD]
def at6:Option S38 → Int × Int × Int × Int × Int × Bool
 | some x=>(x.f0,x.f1,x.f2,x.f3,x.f4,true)
 | none=>(0,0,0,0,0,false)
def setAt (l:List S38) (a b:Int):Option S38:=l.find? fun x=>decide (x.f0 = a) && decide (x.f1 = b)
theorem spec_SetAt_ev (l:List S38) (a b:Int) (h:l.length ≤ 4194304):Ev (fun k=>spec_SetAt.f k l a b) (at6 (setAt l a b)):=by
 obtain ⟨K,hk⟩:=evRange0 (σ:=Unit) l.length (fun k _ i=>spec_SetAt.l0 k l a b i) (fun _ _=>True) (fun i _=>at6 (setAt (l.drop i) a b)) () trivial
  (by
   intro i _ hi _
   have hd:=drop_getD l i z38 hi
   have hr:rd_T38 l (i:Int) = l.getD i z38:=by simp [rd_T38]
   generalize l.getD i z38 = y at *
   by_cases h1:y.f0 = a ∧ y.f1 = b
   ·refine .inr ⟨0,1,fun k _=>?_⟩
    simp only [spec_SetAt.l0,hr]
    rw [if_pos tD,if_pos tD,if_pos h1.1,if_pos h1.2,hd,setAt,List.find?_cons_of_pos (by simp [h1])]
    rfl
   ·refine .inl ⟨(),trivial,?_,0,1,fun k _=>?_⟩
    ·rw [hd,setAt,setAt,List.find?_cons_of_neg (by simpa using h1)]
    ·simp only [spec_SetAt.l0,hr]
     rw [if_pos tD,if_pos tD,w64s i tD]
     by_cases h2:y.f0 = a
     ·rw [if_pos h2,if_neg (fun h3=>h1 ⟨h2,h3⟩)]
     ·rw [if_neg h2])
  (by
   intro _ _
   refine ⟨0,1,fun k _=>?_⟩
   simp only [spec_SetAt.l0]
   rw [if_neg tD]
   simp [setAt,at6])
 exact tx
def lastK (ls:List (List S38)):List S38:=ls.getD (ls.length - 1) []
def hereK (ls:List (List S38)) (x:S38):Bool:=(setAt (lastK ls) x.f0 x.f1).isSome || decide ((lastK ls).length < 4)
def nodeNext (ls:List (List S38)) (x:S38):List (List S38):=if ls.length ≠ 0 ∧ hereK ls x = true then ls.set (ls.length - 1) (setPut (lastK ls) x) else ls ++ [[x]]
def keysPut (ls:List (List S38)) (x:S38):List S38:=dropNone (setPut (nodeKeys ls) x)
def nodePut (ls:List (List S38)) (x:S38):List (List S38) × Bool :=
 if nodeOkB (nodeNext ls x) = true then (nodeNext ls x,true)
 else if (keysPut ls x).length ≤ 8 ∧ nodeOkB (nodeNew (keysPut ls x)) = true then (nodeNew (keysPut ls x),true)
 else (ls,false)
theorem bulkKeySS_app:∀ (a b:List (List S38)),bulkKeySS (a ++ b) = bulkKeySS a + bulkKeySS b
 | [],b=>by simp [bulkKeySS]
 | x :: a,b=>by have:=bulkKeySS_app a b;simp only [List.cons_append,bulkKeySS,this];omega
theorem bulkKeySS_set:∀ (a:List (List S38)) (i:Nat) (x:List S38),i < a.length → bulkKeySS (a.set i x) + (a.getD i []).length = bulkKeySS a + x.length
 | y :: a,0,x,_=>by simp only [lB,bulkKeySS,List.getD_cons_zero];omega
 | y :: a,i + 1,x,h=>by
  have:=bulkKeySS_set a i x (by simpa using h)
  simp only [lC,bulkKeySS,List.getD_cons_succ];omega
theorem bulk_nodeNext (ls:List (List S38)) (x:S38):bulkKeySS (nodeNext ls x) ≤ bulkKeySS ls + 2:=by
 unfold nodeNext
 split
 ·rename_i h
  have h1:=bulkKeySS_set ls (ls.length - 1) (setPut (lastK ls) x) tD
  have h2:=setPut_length (lastK ls) x
  unfold lastK at *
  omega
 ·rw [bulkKeySS_app]
  simp [bulkKeySS]
theorem keysPut_length (ls:List (List S38)) (x:S38):(keysPut ls x).length ≤ bulkKeySS ls + 1:=by
 have h1:=dropNone_length (setPut (nodeKeys ls) x)
 have h2:=setPut_length (nodeKeys ls) x
 have h3:=nodeKeys_length ls
 have h4:=countK_bulk ls
 unfold keysPut
 omega
theorem bulk_nodeNew (l:List S38):bulkKeySS (nodeNew l) ≤ l.length + 1:=by
 unfold nodeNew
 split
 ·simp [bulkKeySS]
 ·simp only [bulkKeySS];omega
theorem okKeySS_nodePut (ls:List (List S38)) (x:S38) (h:bulkKeySS ls ≤ 4194300):okKeySS (nodePut ls x).1:=by
 have h1:=bulk_nodeNext ls x
 have h2:=keysPut_length ls x
 have h3:=bulk_nodeNew (keysPut ls x)
 unfold nodePut okKeySS
 split
 ·show bulkKeySS (nodeNext ls x) ≤ _;omega
 ·split
  ·show bulkKeySS (nodeNew (keysPut ls x)) ≤ _;omega
  ·show bulkKeySS ls ≤ _;omega
theorem spec_NodePut_j3 (ls:List (List S38)) (l:List S38) (b:Bool) (ho:okKeySS ls) (hl:l.length ≤ 4194304):Ev (fun k=>spec_NodePut.j3 k l b ls) (if b = true then (ls,false) else (nodeNew l,true)):=by
 obtain ⟨K,e⟩:=spec_l5Copy_ev ls ho
 obtain ⟨K2,e2⟩:=spec_NodeNew_ev l hl
 refine evSucc ⟨K + K2,1,fun k hk=>?_⟩
 have e1:=e k tD
 have e3:=e2 k tD
 simp only at e1 e3
 cases b <;> simp [spec_NodePut.j3,e1,e3]
theorem spec_NodePut_j2 (ls cur:List (List S38)) (x:S38) (h:bulkKeySS ls ≤ 4194300) (hc:okKeySS cur):Ev (fun k=>spec_NodePut.j2 k ls x.f0 x.f1 x.f2 x.f3 x.f4 cur) (if nodeOkB cur = true then (cur,true) else if (keysPut ls x).length ≤ 8 ∧ nodeOkB (nodeNew (keysPut ls x)) = true then (nodeNew (keysPut ls x),true) else (ls,false)):=by
 have h1:=nodeKeys_length ls
 have h2:=countK_bulk ls
 have h3:=setPut_length (nodeKeys ls) x
 have h4:=keysPut_length ls x
 have h5:=bulk_nodeNew (keysPut ls x)
 have ho:okKeySS ls:=by unfold okKeySS;omega
 obtain ⟨K1,e1⟩:=spec_NodeOk_ev cur hc
 obtain ⟨K2,e2⟩:=spec_NodeKeys_ev ls ho
 obtain ⟨K3,e3⟩:=spec_SetPut_ev (nodeKeys ls) x tD
 obtain ⟨K4,e4⟩:=spec_Drop_ev (setPut (nodeKeys ls) x) tD
 obtain ⟨K5,e5⟩:=spec_NodeNew_ev (keysPut ls x) tD
 obtain ⟨K6,e6⟩:=spec_NodeOk_ev (nodeNew (keysPut ls x)) (by unfold okKeySS;omega)
 obtain ⟨K7,e7⟩:=spec_NodePut_j3 ls (keysPut ls x) true ho tD
 obtain ⟨K8,e8⟩:=spec_NodePut_j3 ls (keysPut ls x) (!nodeOkB (nodeNew (keysPut ls x))) ho tD
 refine evSucc ⟨K1 + K2 + K3 + K4 + K5 + K6 + K7 + K8,1,fun k hk=>?_⟩
 have a1:=e1 k tD
 have a2:=e2 k tD
 have a3:=e3 k tD
 have a4:=e4 k tD
 have a5:=e5 k tD
 have a6:=e6 k tD
 have a7:=e7 k tD
 have a8:=e8 k tD
 have hkp:dropNone (setPut (nodeKeys ls) x) = keysPut ls x:=rfl
 simp only at a1 a2 a3 a4 a5 a6 a7 a8
 simp only [spec_NodePut.j2,a1,a2,a3,a4,hkp,Option.bind_some]
 by_cases c1:nodeOkB cur = true
 ·rw [if_pos c1,if_pos c1]
 ·rw [if_neg c1,if_neg c1]
  by_cases c2:((keysPut ls x).length:Int) > 8
  ·rw [if_pos c2,if_neg tD,a7]
   rfl
  ·rw [if_neg c2]
   simp only [a5,Option.bind_some,a6,a8]
   have c3:(keysPut ls x).length ≤ 8:=by omega
   cases nodeOkB (nodeNew (keysPut ls x)) <;> simp [c3]
theorem spec_NodePut_ev (ls:List (List S38)) (x:S38) (h:bulkKeySS ls ≤ 4194300):Ev (fun k=>spec_NodePut.f k ls x.f0 x.f1 x.f2 x.f3 x.f4) (nodePut ls x):=by
 have ho:okKeySS ls:=by unfold okKeySS;omega
 have hlen:=okKeySS_len ho
 have hn:=bulk_nodeNext ls x
 have hj2:=spec_NodePut_j2 ls (nodeNext ls x) x h (by unfold okKeySS;omega)
 unfold spec_NodePut.f
 refine Ev.bind (spec_l5Copy_ev ls ho) ?_
 rw [w64 (x:=(ls.length:Int) - 1) tD tD]
 by_cases c:ls.length = 0
 ·simp only [if_neg (show ¬ ((ls.length:Int) - 1 ≥ 0) by omega)]
  have hnx:nodeNext ls x = ls ++ [[x]]:=by unfold nodeNext;rw [if_neg tD]
  rw [hnx] at hj2
  obtain ⟨K,e⟩:=hj2
  refine evSucc ⟨K,3,fun k hk=>?_⟩
  have a:=e k hk
  simp only at a
  simp only [spec_NodePut.j0,spec_NodePut.j1]
  rw [if_neg tD,if_neg te,if_pos tD]
  show spec_NodePut.j2 (k + 1) _ _ _ _ _ _ _ = _
  have a':=e (k + 1) tD
  simp only at a'
  rw [a']
  unfold nodePut
  rw [hnx]
 ·simp only [if_pos (show (ls.length:Int) - 1 ≥ 0 by omega),if_pos (show 0 ≤ (ls.length:Int) - 1 by omega),if_pos (show (ls.length:Int) - 1 < (ls.length:Int) by omega)]
  have hi:((ls.length:Int) - 1).toNat = ls.length - 1:=by omega
  have hr:rd_L6 ls ((ls.length:Int) - 1) = lastK ls:=by unfold rd_L6 lastK;rw [hi]
  have hlk:=okKeySS_at ho (ls.length - 1) tD
  have hlk':(lastK ls).length ≤ 4194304:=hlk
  rw [hr]
  refine Ev.bind (spec_SetAt_ev (lastK ls) x.f0 x.f1 hlk') ?_
  obtain ⟨K,e⟩:=hj2
  obtain ⟨K2,e2⟩:=spec_SetPut_ev (lastK ls) x hlk'
  have hb:(at6 (setAt (lastK ls) x.f0 x.f1)).2.2.2.2.2 = (setAt (lastK ls) x.f0 x.f1).isSome:=by cases setAt (lastK ls) x.f0 x.f1 <;> rfl
  rw [hb]
  refine evSucc ⟨K + K2,3,fun k hk=>?_⟩
  have a':=e (k + 1) tD
  have a2:=e2 (k + 1) tD
  simp only at a' a2
  have j1:∀ b:Bool,spec_NodePut.j1 (k + 2) ((ls.length:Int) - 1) b ls x.f0 x.f1 x.f2 x.f3 x.f4 ls = spec_NodePut.j2 (k + 1) ls x.f0 x.f1 x.f2 x.f3 x.f4 (if b = true then ls.set (ls.length - 1) (setPut (lastK ls) x) else ls ++ [[x]]):=by
   intro b
   cases b
   ·simp only [spec_NodePut.j1]
    rw [if_neg te,if_pos tD,if_neg te]
   ·simp only [spec_NodePut.j1]
    rw [if_pos trivial,if_pos tD,if_pos tD,hr,a2,hi]
    rfl
  show spec_NodePut.j0 (k + 3) _ _ _ _ _ _ _ _ _ = _
  simp only [spec_NodePut.j0]
  rw [if_pos tD,if_pos tD,if_pos tD,hr]
  have hfin:∀ b:Bool,hereK ls x = b → spec_NodePut.j2 (k + 1) ls x.f0 x.f1 x.f2 x.f3 x.f4 (if b = true then ls.set (ls.length - 1) (setPut (lastK ls) x) else ls ++ [[x]]) = some (nodePut ls x):=by
   intro b hb
   have:(if b = true then ls.set (ls.length - 1) (setPut (lastK ls) x) else ls ++ [[x]]) = nodeNext ls x:=by
    unfold nodeNext
    rw [hb]
    cases b
    ·simp
    ·simp [c]
   rw [this,a']
   rfl
  by_cases c4:((lastK ls).length:Int) < 4
  ·rw [if_pos c4,j1]
   exact hfin true (by unfold hereK;simp;right;omega)
  ·rw [if_neg c4,j1]
   exact hfin _ (by unfold hereK;have h4_:¬ (lastK ls).length < 4:=tD;simp [h4_])
def treePack (s:List Int) (l:List S59) (i:Int):List Int × List S59:=if 0 ≤ i ∧ i ≤ (l.length:Int) - 1 then (s,l.set i.toNat ⟨nodeNew (nodeKeys (l.getD i.toNat z59).f0)⟩) else (s,l)
def spotQ (a b:Int) (x:S38):Bool:=decide (x.f0 = a) && decide (x.f1 = b)
def Rise (l:List S38):Prop:=l.Pairwise fun x y=>less x y = true
theorem less_iff {x y:S38}:less x y = true ↔ x.f0 < y.f0 ∨ x.f0 = y.f0 ∧ x.f1 < y.f1:=by unfold less;exact decide_eq_true_iff
theorem same_iff {x y:S38}:same x y = true ↔ x.f0 = y.f0 ∧ x.f1 = y.f1:=by unfold same;exact decide_eq_true_iff
theorem putGo_mem (k:S38):∀ (l:List S38) (p:Bool) (y:S38),y ∈ putGo k l p → y = k ∨ y ∈ l
 | [],p,y,h=>by cases p <;> simp [putGo] at h;exact .inl h
 | x :: xs,p,y,h=>by
  simp only [putGo,List.mem_append] at h
  rcases h with h|h|h
  ·split at h <;> simp at h;exact .inl h
  ·split at h <;> simp at h;exact .inr (by simp [h])
  ·rcases putGo_mem k xs _ y h with h|h
   ·exact .inl h
   ·exact .inr (by simp [h])
theorem setPut_mem {l:List S38} {k y:S38} (h:y ∈ setPut l k):y = k ∨ y ∈ l:=putGo_mem k l false y h
theorem putGo_true (k:S38):∀ l:List S38,putGo k l true = l.filter fun x=>!same x k
 | []=>by simp [putGo]
 | x :: xs=>by
  simp only [putGo,Bool.true_or,if_true,List.nil_append,putGo_true k xs,List.filter_cons]
  cases same x k <;> simp
theorem rise_put (k:S38):∀ l:List S38,Rise l → Rise (setPut l k)
 | [],_=>by unfold setPut putGo Rise;simp
 | x :: xs,h=>by
  unfold Rise at h ⊢
  rw [List.pairwise_cons] at h
  have ih:=rise_put k xs h.2
  unfold setPut at ih ⊢
  unfold Rise at ih
  simp only [putGo,Bool.false_or]
  cases hl:less x k with
  | true =>
   have hs:same x k = false:=by
    cases h:same x k with
    | false=>rfl
    | true=>rw [less_iff] at hl;rw [same_iff] at h;omega
   simp only [if_true,hs,Bool.false_eq_true,if_false,List.nil_append,Bool.not_true,List.cons_append]
   rw [List.pairwise_cons]
   refine ⟨fun y hy=>?_,ih⟩
   rcases putGo_mem k xs false y hy with rfl|hy
   ·exact hl
   ·exact h.1 y hy
  | false =>
   simp only [Bool.false_eq_true,if_false,Bool.not_false,List.cons_append,List.nil_append,putGo_true]
   have e:((if same x k = true then [] else [x]) ++ xs.filter fun x=>!same x k) = (x :: xs).filter fun x=>!same x k:=by
    rw [List.filter_cons]
    cases same x k <;> simp
   rw [e,List.pairwise_cons]
   refine ⟨fun y hy=>?_,(List.pairwise_cons.2 h).filter _⟩
   rw [List.mem_filter] at hy
   have hn:¬ (x.f0 < k.f0 ∨ x.f0 = k.f0 ∧ x.f1 < k.f1):=fun h2=>by rw [less_iff.2 h2] at hl;cases hl
   have hy2:¬ (y.f0 = k.f0 ∧ y.f1 = k.f1):=fun h2=>by have:=same_iff.2 h2;simp [this] at hy
   rw [less_iff]
   rcases List.mem_cons.1 hy.1 with rfl|hm
   ·omega
   ·have:=less_iff.1 (h.1 y hm);omega
theorem rise_merge:∀ (b a:List S38),Rise a → Rise (mergeSets a b)
 | [],a,h=>h
 | x :: xs,a,h=>rise_merge xs (setPut a x) (rise_put x a h)
theorem mem_merge {y:S38}:∀ (b a:List S38),y ∈ mergeSets a b → y ∈ a ∨ y ∈ b
 | [],a,h=>.inl h
 | x :: xs,a,h=>by
  rcases mem_merge xs (setPut a x) h with h|h
  ·rcases setPut_mem h with h|h
   ·exact .inr (by simp [h])
   ·exact .inl h
  ·exact .inr (by simp [h])
theorem rise_at {l:List S38} (h:Rise l) (i:Nat) (h0:0 < i) (hi:i < l.length):less (l.getD (i - 1) z38) (l.getD i z38) = true:=by
 rw [List.getD_eq_getElem?_getD,List.getD_eq_getElem?_getD,List.getElem?_eq_getElem hi,List.getElem?_eq_getElem (show i - 1 < l.length by omega)]
 exact List.pairwise_iff_getElem.1 h (i - 1) i tD hi tD
theorem setOk_rise {l:List S38} (h:Rise l) (hk:∀ x ∈ l,keyOkB x = true) (hl:l.length ≤ 60):setOkB l = true:=by
 unfold setOkB
 simp only [Bool.and_eq_true,decide_eq_true_eq]
 refine ⟨allFrom_iff.2 fun j _ hj=>?_,hl⟩
 rw [hk _ (getD_mem l j z38 hj),Bool.true_and]
 rcases Nat.eq_zero_or_pos j with rfl|h0
 ·rfl
 ·unfold risesAt
  rw [rise_at h j h0 hj,Bool.or_true]
def nkAt (l:List S59) (i:Nat):List S38:=nodeKeys (l.getD i z59).f0
/-- The first of two nodes side by side that have few keys, n of them looked at from i on; -1: none. -/
def pairGo (l:List S59):Nat → Nat → Int
 | 0,_=>-1
 | n + 1,i=>if i + 1 < l.length then if (nkAt l i).length + (nkAt l (i + 1)).length ≤ 6 then (i:Int) else pairGo l n (i + 1) else -1
def pairAt (l:List S59):Int:=pairGo l l.length 0
def joinS (s:List Int) (i:Nat):List Int:=s.take (i + 1) ++ s.drop (i + 2)
def joinL (l:List S59) (i:Nat):List S59:=l.take i ++ [(⟨nodeNew (nkAt l i ++ nkAt l (i + 1))⟩:S59)] ++ l.drop (i + 2)
def treeJoin:Nat → List Int → List S59 → List Int × List S59
 | 0,s,l=>(s,l)
 | n + 1,s,l=>if 0 ≤ pairAt l then treeJoin n (joinS s (pairAt l).toNat) (joinL l (pairAt l).toNat) else (s,l)
def setS (s:List Int) (i c:Nat) (s2:List Int):List Int:=s.take i ++ s2 ++ s.drop (i + c)
def setL (l:List S59) (i c:Nat) (l2:List S59):List S59:=l.take i ++ l2 ++ l.drop (i + c)
/-- The lows and the nodes that take the place of node i's. -/
def putS (s:List Int) (l:List S59) (i:Nat) (x:S38):List Int :=
 if (nodePut (l.getD i z59).f0 x).2 = true then if 0 < i ∧ (nodeKeys (nodePut (l.getD i z59).f0 x).1).length = 0 then [] else [s.getD i 0]
 else [s.getD i 0,spotOf ((keysPut (l.getD i z59).f0 x).getD (((keysPut (l.getD i z59).f0 x).length + 1) / 2) z38).f0 ((keysPut (l.getD i z59).f0 x).getD (((keysPut (l.getD i z59).f0 x).length + 1) / 2) z38).f1]
def putL (l:List S59) (i:Nat) (x:S38):List S59 :=
 if (nodePut (l.getD i z59).f0 x).2 = true then if 0 < i ∧ (nodeKeys (nodePut (l.getD i z59).f0 x).1).length = 0 then [] else [(⟨(nodePut (l.getD i z59).f0 x).1⟩:S59)]
 else [(⟨nodeNew ((keysPut (l.getD i z59).f0 x).take (((keysPut (l.getD i z59).f0 x).length + 1) / 2))⟩:S59),(⟨nodeNew ((keysPut (l.getD i z59).f0 x).drop (((keysPut (l.getD i z59).f0 x).length + 1) / 2))⟩:S59)]
def whereAt (s:List Int) (x:S38):Nat:=(whereGo s (spotOf x.f0 x.f1) s.length).toNat
def putTree (s:List Int) (l:List S59) (x:S38):List Int × List S59 :=
 treeJoin (setL l (whereAt s x) 1 (putL l (whereAt s x) x)).length (setS s (whereAt s x) 1 (putS s l (whereAt s x) x)) (setL l (whereAt s x) 1 (putL l (whereAt s x) x))
def treePut (s:List Int) (l:List S59) (x:S38):List Int × List S59 × Bool :=
 if treeOkB s l = true ∧ keyOkB x = true then if treeOkB (putTree s l x).1 (putTree s l x).2 = true then ((putTree s l x).1,(putTree s l x).2,true) else (s,l,false)
 else (s,l,false)
theorem pairGo_range (l:List S59):∀ n i,pairGo l n i = -1 ∨ (0 ≤ pairGo l n i ∧ pairGo l n i + 1 < (l.length:Int))
 | 0,i=>.inl rfl
 | n + 1,i=>by
  simp only [pairGo]
  split
  ·split
   ·exact .inr ⟨vG,vG⟩
   ·exact pairGo_range l n (i + 1)
  ·exact .inl rfl
theorem pairAt_range (l:List S59):pairAt l = -1 ∨ (0 ≤ pairAt l ∧ pairAt l + 1 < (l.length:Int)):=pairGo_range l _ _
theorem bulkNodeS_app:∀ a b:List S59,bulkNodeS (a ++ b) = bulkNodeS a + bulkNodeS b
 | [],b=>by simp [bulkNodeS]
 | x :: a,b=>by have:=bulkNodeS_app a b;simp only [List.cons_append,bulkNodeS];omega
theorem bulkNodeS_cut (l:List S59) (i:Nat) (h:i < l.length):bulkNodeS (l.take i) + (1 + bulkKeySS (l.getD i z59).f0) + bulkNodeS (l.drop (i + 1)) = bulkNodeS l:=by
 have h1:bulkNodeS (l.take i ++ l.drop i) = bulkNodeS l:=by rw [List.take_append_drop]
 rw [bulkNodeS_app,drop_getD l i z59 h,bulkNodeS] at h1
 omega
theorem nkAt_len (l:List S59) (i:Nat):(nkAt l i).length ≤ bulkKeySS (l.getD i z59).f0:=by
 have h1:=nodeKeys_length (l.getD i z59).f0
 have h2:=countK_bulk (l.getD i z59).f0
 unfold nkAt
 omega
theorem bulk_joinL (l:List S59) (i:Nat) (h:i + 1 < l.length):bulkNodeS (joinL l i) ≤ bulkNodeS l:=by
 have h1:=bulkNodeS_cut l i tD
 have h3:bulkNodeS (l.drop (i + 1)) = 1 + bulkKeySS (l.getD (i + 1) z59).f0 + bulkNodeS (l.drop (i + 2)):=by rw [drop_getD l (i + 1) z59 h,bulkNodeS]
 have h4:=bulk_nodeNew (nkAt l i ++ nkAt l (i + 1))
 have h5:=nkAt_len l i
 have h6:=nkAt_len l (i + 1)
 rw [List.length_append] at h4
 unfold joinL
 rw [bulkNodeS_app,bulkNodeS_app]
 simp only [bulkNodeS]
 omega
theorem joinS_len (s:List Int) (i:Nat) (h:i + 1 < s.length):(joinS s i).length = s.length - 1:=by unfold joinS;simp;omega
theorem joinL_len (l:List S59) (i:Nat) (h:i + 1 < l.length):(joinL l i).length = l.length - 1:=by unfold joinL;simp;omega
theorem treeJoin_ok:∀ (n:Nat) (s:List Int) (l:List S59),s.length = l.length → (treeJoin n s l).1.length = (treeJoin n s l).2.length ∧ (treeJoin n s l).2.length ≤ l.length ∧ bulkNodeS (treeJoin n s l).2 ≤ bulkNodeS l
 | 0,s,l,h=>⟨h,Nat.le_refl _,Nat.le_refl _⟩
 | n + 1,s,l,h=>by
  simp only [treeJoin]
  split
  ·rename_i hp
   have hr:=pairAt_range l
   have hi:(pairAt l).toNat + 1 < l.length:=by omega
   have h1:=joinS_len s _ (by omega:(pairAt l).toNat + 1 < s.length)
   have h2:=joinL_len l _ hi
   have h3:=bulk_joinL l _ hi
   have h4:=treeJoin_ok n (joinS s (pairAt l).toNat) (joinL l (pairAt l).toNat) tD
   omega
  ·exact ⟨h,Nat.le_refl _,Nat.le_refl _⟩
theorem treeOk_facts {s:List Int} {l:List S59} (h:treeOkB s l = true):(1 ≤ l.length ∧ l.length ≤ 20) ∧ s.length = l.length ∧ s.getD 0 0 = 0 ∧ (∀ j,j < l.length → (j = 0 ∨ s.getD (j - 1) 0 < s.getD j 0) ∧ nodeFits s j (l.getD j z59) = true) ∧ sumKeysN l ≤ 60:=by
 unfold treeOkB at h
 split at h
 case isFalse=>cases h
 split at h
 case isFalse=>cases h
 split at h
 case isFalse=>cases h
 rename_i h1 h2 h3
 rw [Bool.and_eq_true,decide_eq_true_eq] at h
 refine ⟨vG,h2,h3,fun j hj=>?_,h.2⟩
 have:=allFrom_iff.1 h.1 j (Nat.zero_le _) hj
 rw [Bool.and_eq_true,Bool.or_eq_true,beq_iff_eq,decide_eq_true_eq] at this
 exact this
theorem nodeOk_bulk {ls:List (List S38)} (h:nodeOkB ls = true):bulkKeySS ls ≤ 11 ∧ countK ls ≤ 8:=by
 have hb:∀ ls:List (List S38),bulkKeySS ls = ls.length + countK ls:=by
  intro ls
  induction ls with
  | nil=>rfl
  | cons x xs ih=>simp only [bulkKeySS,countK,List.length_cons];omega
 unfold nodeOkB at h
 simp only [Bool.and_eq_true,decide_eq_true_eq] at h
 have:=hb ls
 omega
theorem fits_parts {s:List Int} {i:Nat} {x:S59} (h:nodeFits s i x = true):nodeOkB x.f0 = true ∧ (i = 0 ∨ (nodeKeys x.f0).length ≠ 0) ∧ inBoundsB s i x.f0 = true:=by
 unfold nodeFits at h
 simp only [Bool.and_eq_true,Bool.or_eq_true,beq_iff_eq,Bool.not_eq_true',decide_eq_false_iff_not] at h
 exact ⟨h.1,h.2.1,h.2.2⟩
theorem treeOk_bulk {s:List Int} {l:List S59} (h:treeOkB s l = true):bulkNodeS l ≤ 240:=by
 obtain ⟨h1,-,-,h4,-⟩:=treeOk_facts h
 have key:∀ n,n ≤ l.length → bulkNodeS (l.drop (l.length - n)) ≤ 12 * n:=by
  intro n
  induction n with
  | zero=>intro _;simp [bulkNodeS]
  | succ n ih =>
   intro hn
   have h5:=ih tD
   have h6:=(nodeOk_bulk (fits_parts (h4 (l.length - (n + 1)) tD).2).1).1
   rw [drop_getD l (l.length - (n + 1)) z59 tD,show l.length - (n + 1) + 1 = l.length - n by omega,bulkNodeS]
   omega
 have:=key l.length (Nat.le_refl _)
 rw [Nat.sub_self,List.drop_zero] at this
 omega
theorem keyOk_spot {x:S38} (h:keyOkB x = true):0 ≤ spotOf x.f0 x.f1:=by
 unfold keyOkB keyOk5 at h
 simp only [Bool.and_eq_true,decide_eq_true_eq] at h
 unfold spotOf wrap64
 omega
theorem whereGo_pos (s:List Int) (x:Int) (h:s.getD 0 0 ≤ x):∀ n,0 < n → 0 ≤ whereGo s x n
 | 0,h0=>by omega
 | n + 1,_=>by
  simp only [whereGo]
  split
  ·omega
  ·rcases Nat.eq_zero_or_pos n with rfl|hn
   ·contradiction
   ·exact whereGo_pos s x h n hn
theorem whereAt_spec {s:List Int} {l:List S59} {x:S38} (h:treeOkB s l = true) (hx:keyOkB x = true):whereGo s (spotOf x.f0 x.f1) s.length = (whereAt s x:Int) ∧ whereAt s x < l.length:=by
 obtain ⟨h1,h2,h3,-,-⟩:=treeOk_facts h
 have h4:=keyOk_spot hx
 have h5:=whereGo_pos s (spotOf x.f0 x.f1) tD s.length tD
 have h6:=whereGo_range s (spotOf x.f0 x.f1) s.length
 unfold whereAt
 omega
theorem mem_mergeAll {y:S38}:∀ (ls:List (List S38)) (s:List S38),y ∈ mergeAll s ls → y ∈ s ∨ ∃ a ∈ ls,y ∈ a
 | [],s,h=>.inl h
 | a :: ls,s,h=>by
  rcases mem_mergeAll ls (mergeSets s a) h with h|⟨b,hb,h⟩
  ·rcases mem_merge a s h with h|h
   ·exact .inl h
   ·exact .inr ⟨a,by simp,h⟩
  ·exact .inr ⟨b,by simp [hb],h⟩
theorem mem_nodeKeys {y:S38} {ls:List (List S38)} (h:y ∈ nodeKeys ls):∃ a ∈ ls,y ∈ a:=by
 unfold nodeKeys dropNone at h
 rcases mem_mergeAll ls [] (List.mem_filter.1 h).1 with h|h
 ·cases h
 ·exact h
theorem rise_mergeAll:∀ (ls:List (List S38)) (s:List S38),Rise s → Rise (mergeAll s ls)
 | [],s,h=>h
 | a :: ls,s,h=>rise_mergeAll ls (mergeSets s a) (rise_merge a s h)
theorem rise_dropNone {l:List S38} (h:Rise l):Rise (dropNone l):=List.Pairwise.filter _ h
theorem rise_nodeKeys (ls:List (List S38)):Rise (nodeKeys ls):=rise_dropNone (rise_mergeAll ls [] List.Pairwise.nil)
theorem nodeOk_keys {ls:List (List S38)} (h:nodeOkB ls = true) {a:List S38} (ha:a ∈ ls) {y:S38} (hy:y ∈ a):keyOkB y = true:=by
 unfold nodeOkB at h
 rw [Bool.and_eq_true] at h
 obtain ⟨i,hi,rfl⟩:=List.getElem_of_mem ha
 have h1:=allFrom_iff.1 h.1 i (Nat.zero_le _) hi
 rw [Bool.and_eq_true] at h1
 have h2:=h1.1
 unfold setOkB at h2
 rw [Bool.and_eq_true] at h2
 rw [List.getD_eq_getElem?_getD,List.getElem?_eq_getElem hi] at h2
 obtain ⟨j,hj,rfl⟩:=List.getElem_of_mem hy
 have h3:=allFrom_iff.1 h2.1 j (Nat.zero_le _) hj
 rw [Bool.and_eq_true] at h3
 have h4:=h3.1
 simp only [Option.getD_some] at h4
 rw [List.getD_eq_getElem?_getD,List.getElem?_eq_getElem hj] at h4
 exact h4
theorem nodeOk_new {l:List S38} (hr:Rise l) (hk:∀ y ∈ l,keyOkB y = true) (hl:l.length ≤ 8):nodeOkB (nodeNew l) = true:=by
 unfold nodeNew
 split
 ·rfl
 ·rename_i h0
  have h1:=setOk_rise hr hk tD
  unfold nodeOkB
  rw [Bool.and_eq_true,Bool.and_eq_true,decide_eq_true_eq,decide_eq_true_eq]
  refine ⟨allFrom_iff.2 fun j _ hj=>?_,by simp,by simp only [countK];omega⟩
  obtain rfl:j = 0:=by simp at hj;omega
  simp only [List.getD_cons_zero,h1,Bool.true_and,decide_eq_false h0,Bool.not_false]
theorem keysPut_many {ls:List (List S38)} {x:S38} (h:nodeOkB ls = true) (hx:keyOkB x = true) (hn:(nodePut ls x).2 = false):8 < (keysPut ls x).length:=by
 unfold nodePut at hn
 split at hn
 ·cases hn
 split at hn
 ·cases hn
 rename_i _ h2
 apply Nat.lt_of_not_le
 intro h3
 refine h2 ⟨h3,nodeOk_new (rise_dropNone (rise_put x _ (rise_nodeKeys ls))) (fun y hy=>?_) h3⟩
 unfold keysPut dropNone at hy
 rcases setPut_mem (List.mem_filter.1 hy).1 with rfl|hy
 ·exact hx
 ·obtain ⟨a,ha,hy⟩:=mem_nodeKeys hy
  exact nodeOk_keys h ha hy
theorem put_len (s:List Int) (l:List S59) (i:Nat) (x:S38):(putS s l i x).length = (putL l i x).length ∧ (putL l i x).length ≤ 2:=by
 unfold putS putL
 split
 ·split <;> simp
 ·simp
theorem bulk_putL (l:List S59) (i:Nat) (x:S38):bulkNodeS (putL l i x) ≤ 2 * bulkKeySS (l.getD i z59).f0 + 10:=by
 have h1:=bulk_nodeNext (l.getD i z59).f0 x
 have h2:=keysPut_length (l.getD i z59).f0 x
 have h3:=bulk_nodeNew (keysPut (l.getD i z59).f0 x)
 have h4:=bulk_nodeNew ((keysPut (l.getD i z59).f0 x).take (((keysPut (l.getD i z59).f0 x).length + 1) / 2))
 have h5:=bulk_nodeNew ((keysPut (l.getD i z59).f0 x).drop (((keysPut (l.getD i z59).f0 x).length + 1) / 2))
 rw [List.length_take] at h4
 rw [List.length_drop] at h5
 have h6:bulkKeySS (nodePut (l.getD i z59).f0 x).1 ≤ bulkKeySS (l.getD i z59).f0 + 2:=by
  unfold nodePut
  split
  ·show bulkKeySS (nodeNext _ x) ≤ _;omega
  ·split
   ·show bulkKeySS (nodeNew _) ≤ _;omega
   ·show bulkKeySS (l.getD i z59).f0 ≤ _;omega
 unfold putL
 split
 ·split
  ·simp only [bulkNodeS];omega
  ·simp only [bulkNodeS];omega
 ·simp only [bulkNodeS];omega
theorem setL_bulk (l:List S59) (i:Nat) (h:i < l.length) (x:S38):bulkNodeS (setL l i 1 (putL l i x)) ≤ 3 * bulkNodeS l + 10:=by
 have h1:=bulkNodeS_cut l i h
 have h2:=bulk_putL l i x
 have h3:=bulkNodeS_at l i h
 unfold setL
 rw [bulkNodeS_app,bulkNodeS_app]
 omega
theorem set_len (s:List Int) (l:List S59) (i:Nat) (x:S38) (hs:s.length = l.length) (h:i < l.length):(setS s i 1 (putS s l i x)).length = (setL l i 1 (putL l i x)).length ∧ (setL l i 1 (putL l i x)).length ≤ l.length + 1:=by
 have h1:=put_len s l i x
 unfold setS setL
 simp only [List.length_append,List.length_take,List.length_drop]
 omega
theorem spec_l6Set_f (s s2:List Int) (l l2:List S59) (i:Nat) (hi:i < s.length) (hs:s.length = l.length) (hl:l.length ≤ 4194304) (h2:s2.length ≤ 4194304) (h3:l2.length ≤ 4194304):spec_l6Set.f s l (i:Int) s2 l2 = some (setS s i 1 s2,setL l i 1 l2):=by
 simp only [spec_l6Set.f,Option.bind_some,w64s i tD,List.nil_append,Int.toNat_natCast]
 rw [if_pos tD,if_pos tD,if_pos (by simp only [List.length_nil,List.length_take];omega),if_pos (by simp only [List.length_take];omega),if_pos tD,if_pos tD]
 rw [if_pos vz,if_pos tD,if_pos (by simp only [List.length_nil,List.length_take];omega),if_pos (by simp only [List.length_take];omega),if_pos tD,if_pos vz]
 rfl
theorem rdT_nat (l:List S59) (i:Nat):rd_T59 l (i:Int) = l.getD i z59:=by simp [rd_T59]
theorem nk_small {l:List S59} (ho:okNodeS l) (i:Nat) (hi:i < l.length):(nodeKeys (l.getD i z59).f0).length ≤ 4194304:=by
 have h1:=nkAt_len l i
 have h2:=okNodeS_at ho i hi
 unfold okKeySS at h2
 unfold nkAt at h1
 omega
theorem spec_l6Pair_go (s:List Int) (l:List S59) (ho:okNodeS l):∀ n i,i + n = l.length → Ev (fun k=>spec_l6Pair.l0 k (i:Int) s l) (pairGo l n i)
 | 0,i,h=>evSucc ⟨0,1,fun k _=>by
   have hl:=okNodeS_len ho
   show spec_l6Pair.l0 (k + 1) (i:Int) s l = _
   unfold spec_l6Pair.l0
   rw [w64s i tD,if_neg tD]
   rfl⟩
 | n + 1,i,h=>by
  have hl:=okNodeS_len ho
  by_cases c:i + 1 < l.length
  ·obtain ⟨K1,e1⟩:=spec_NodeKeys_ev (l.getD i z59).f0 (okNodeS_at ho i tD)
   obtain ⟨K2,e2⟩:=spec_NodeKeys_ev (l.getD (i + 1) z59).f0 (okNodeS_at ho (i + 1) c)
   obtain ⟨K3,e3⟩:=spec_l6Pair_go s l ho n (i + 1) tD
   have b1:=nk_small ho i tD
   have b2:=nk_small ho (i + 1) c
   refine evSucc ⟨K1 + K2 + K3,1,fun k hk=>?_⟩
   have a1:=e1 k tD
   have a2:=e2 k tD
   have a3:=e3 k tD
   simp only at a1 a2 a3
   have hr0:=rdT_nat l i
   have hr1:=rdT_nat l (i + 1)
   have hw:=w64s i tD
   show spec_l6Pair.l0 (k + 1) (i:Int) s l = _
   unfold spec_l6Pair.l0
   rw [hw,hr0,hr1,a1,a2]
   rw [if_pos tD,if_pos tD,if_pos tD]
   rw [Option.bind_some,if_pos tD,Option.bind_some,w64 (x:=((nodeKeys (l.getD i z59).f0).length:Int) + ((nodeKeys (l.getD (i + 1) z59).f0).length:Int)) tD tD]
   simp only [pairGo]
   rw [if_pos c]
   by_cases q:(nkAt l i).length + (nkAt l (i + 1)).length ≤ 6
   ·rw [if_pos q,if_pos (by unfold nkAt at q;omega)]
   ·rw [if_neg q,if_neg (by unfold nkAt at q;omega)]
    exact a3
  ·refine evSucc ⟨0,1,fun k _=>?_⟩
   show spec_l6Pair.l0 (k + 1) (i:Int) s l = _
   unfold spec_l6Pair.l0
   rw [w64s i tD,if_neg tD]
   simp only [pairGo]
   rw [if_neg c]
theorem spec_l6Pair_ev (s:List Int) (l:List S59) (ho:okNodeS l):Ev (fun k=>spec_l6Pair.f k s l) (pairAt l):=by
 obtain ⟨K,e⟩:=spec_l6Pair_go s l ho l.length 0 tD
 exact ⟨K,fun k hk=>e k hk⟩
theorem spec_l6Join_go:∀ (n:Nat) (s:List Int) (l:List S59),l.length ≤ n → s.length = l.length → okNodeS l → Ev (fun k=>spec_l6Join.l0 k (pairAt l) s l) (treeJoin n s l)
 | 0,s,l,hn,hs,ho=>by
  have hr:=pairAt_range l
  refine evSucc ⟨0,1,fun k _=>?_⟩
  show spec_l6Join.l0 (k + 1) (pairAt l) s l = _
  unfold spec_l6Join.l0
  rw [if_neg tD]
  rfl
 | n + 1,s,l,hn,hs,ho=>by
  have hl:=okNodeS_len ho
  rcases pairAt_range l with c|⟨c0,c1⟩
  ·refine evSucc ⟨0,1,fun k _=>?_⟩
   show spec_l6Join.l0 (k + 1) (pairAt l) s l = _
   unfold spec_l6Join.l0
   simp only [treeJoin]
   rw [if_neg tD,if_neg tD]
  ·obtain ⟨i,hi⟩:∃ i:Nat,pairAt l = (i:Int):=⟨(pairAt l).toNat,vG⟩
   have hi1:i + 1 < l.length:=by omega
   have h2:=joinS_len s i tD
   have h3:=joinL_len l i hi1
   have h4:=bulk_joinL l i hi1
   have hoj:okNodeS (joinL l i):=by unfold okNodeS at ho ⊢;omega
   have b1:=nkAt_len l i
   have b2:=nkAt_len l (i + 1)
   have b3:=bulkNodeS_cut l i tD
   have b4:bulkNodeS (l.drop (i + 1)) = 1 + bulkKeySS (l.getD (i + 1) z59).f0 + bulkNodeS (l.drop (i + 2)):=by rw [drop_getD l (i + 1) z59 hi1,bulkNodeS]
   have bo:bulkNodeS l ≤ 4194304:=ho
   obtain ⟨K1,e1⟩:=spec_NodeKeys_ev (l.getD i z59).f0 (okNodeS_at ho i tD)
   obtain ⟨K2,e2⟩:=spec_NodeKeys_ev (l.getD (i + 1) z59).f0 (okNodeS_at ho (i + 1) hi1)
   obtain ⟨_,e3⟩:=evGet (spec_NodeNew_ev (nkAt l i ++ nkAt l (i + 1)) (by rw [List.length_append];omega))
   obtain ⟨K4,e4⟩:=spec_l6Pair_ev (joinS s i) (joinL l i) hoj
   obtain ⟨K5,e5⟩:=spec_l6Join_go n (joinS s i) (joinL l i) tD tD hoj
   refine evSucc ⟨K1 + K2 + K4 + K5,1,fun k hk=>?_⟩
   have a1:=e1 k tD
   have a2:=e2 k tD
   have a4:=e4 k tD
   have a5:=e5 k tD
   simp only at a1 a2 a4 a5
   simp only [treeJoin]
   rw [if_pos c0,hi,Int.toNat_natCast]
   have hr0:=rdT_nat l i
   have hr1:=rdT_nat l (i + 1)
   unfold nkAt at b1 b2
   show spec_l6Join.l0 (k + 1) (i:Int) s l = _
   unfold spec_l6Join.l0
   rw [w64s i tD]
   rw [show wrap64 ((i:Int) + 2) = ((i + 2:Nat):Int) from by rw [w64 tD tD];omega]
   rw [hr0,hr1,a1,a2]
   clear hr0 hr1 a1 a2
   rw [if_pos tD,if_pos tD,if_pos tD,Option.bind_some,if_pos tD,if_pos tD,Option.bind_some,if_pos tD]
   rw [Option.bind_some,if_pos tD,Option.bind_some,if_pos vB,Option.bind_some,if_pos tD,if_pos tD,Option.bind_some,if_pos vB,Option.bind_some]
   rw [Option.bind_some,if_pos tD,Option.bind_some,if_pos vB,Option.bind_some]
   rw [show spec_NodeNew.f (nodeKeys (l.getD i z59).f0 ++ nodeKeys (l.getD (i + 1) z59).f0) = some (nodeNew (nkAt l i ++ nkAt l (i + 1))) from e3]
   rw [Option.bind_some,if_pos vB,Option.bind_some,if_pos tD,Option.bind_some,if_pos vB,Option.bind_some]
   simp only [Int.toNat_natCast,List.nil_append]
   show (spec_l6Pair.f k (joinS s i) (joinL l i)).bind _ = _
   rw [a4]
   exact a5
theorem spec_l6Join_ev (s:List Int) (l:List S59) (hs:s.length = l.length) (ho:okNodeS l):Ev (fun k=>spec_l6Join.f k s l) (treeJoin l.length s l):=by
 unfold spec_l6Join.f
 exact Ev.bind (spec_l6Pair_ev s l ho) (spec_l6Join_go l.length s l (Nat.le_refl _) hs ho)
theorem impl_within_f (a b c:Int):impl_within.f a b c = some (decide (b ≤ a ∧ a ≤ c)):=by
 unfold impl_within.f
 by_cases h:a ≥ b
 ·rw [if_pos h];congr 1;rw [Bool.eq_iff_iff];simp;omega
 ·rw [if_neg h];congr 1;rw [Bool.eq_iff_iff];simp;omega
theorem impl_KeyOk_ev (a b c d e:Int):Ev (fun k=>impl_KeyOk.f k a b c d e) (keyOk5 a b c d e):=by
 refine evSucc ⟨0,1,fun k _=>?_⟩
 simp only [impl_KeyOk.f,impl_within_f,Option.bind_some,impl_KeyOk.j0,keyOk5]
 cases h0:decide (0 ≤ a ∧ a ≤ 15) <;> cases h1:decide (1 ≤ b ∧ b ≤ 60) <;> cases h2:decide (0 ≤ c ∧ c ≤ 2) <;> simp only [Bool.false_and,Bool.true_and,Bool.false_eq_true,if_true,if_false,Bool.not_true,Bool.not_false]
 by_cases h3:c = 1
 ·rw [if_pos h3,if_pos h3]
  cases h4:decide (0 ≤ d ∧ d ≤ 23) <;> simp only [Bool.false_and,Bool.true_and,Bool.false_eq_true,if_true,if_false]
 ·rw [if_neg h3,if_neg h3]
  by_cases h4:d = 0
  ·rw [if_pos h4];simp [h4];rw [Bool.eq_iff_iff];simp
  ·rw [if_neg h4];simp [h4]
theorem impl_LessKey_f (a b:S38):impl_LessKey.f a.f0 a.f1 a.f2 a.f3 a.f4 b.f0 b.f1 b.f2 b.f3 b.f4 = some (less a b):=by
 unfold impl_LessKey.f less
 split
 ·simp [*]
 ·split
  ·simp [*]
  ·simp [*]
theorem impl_SetOk_ev (l:List S38) (h:l.length ≤ 4194304):Ev (fun k=>impl_SetOk.f k l) (setOkB l):=by
 have:=evAll l.length (fun k i=>impl_SetOk.l0 k l l (l.length:Int) i) (fun j=>keyOkB (l.getD j z38) && (j == 0 || risesAt l j)) (decide (l.length ≤ 60))
  (by
   intro i hi
   have hr:rd_T38 l (i:Int) = l.getD i z38:=by simp [rd_T38]
   obtain ⟨K,e⟩:=impl_KeyOk_ev (l.getD i z38).f0 (l.getD i z38).f1 (l.getD i z38).f2 (l.getD i z38).f3 (l.getD i z38).f4
   refine ⟨K,1,fun k hk=>?_⟩
   have e1:impl_KeyOk.f k (l.getD i z38).f0 (l.getD i z38).f1 (l.getD i z38).f2 (l.getD i z38).f3 (l.getD i z38).f4 = some (keyOkB (l.getD i z38)):=e k hk
   have hra:risesAt l i = less (l.getD (i - 1) z38) (l.getD i z38):=rfl
   simp only [impl_SetOk.l0,hr,e1,Option.bind_some]
   rw [if_pos tD,if_pos tD,if_pos tD]
   have hw:=w64s i tD
   generalize l.getD i z38 = y at *
   cases hq:keyOkB y with
   | false=>simp only [Bool.false_and,Bool.false_eq_true,if_false]
   | true =>
    simp only [Bool.true_and,if_true]
    by_cases hz:i = 0
    ·subst hz;rw [if_neg tD,hw];rfl
    ·have hw1:wrap64 ((i:Int) - 1) = ((i - 1:Nat):Int):=by rw [w64 tD tD];omega
     have hr1:rd_T38 l ((i - 1:Nat):Int) = l.getD (i - 1) z38:=by simp [rd_T38]
     rw [if_pos tD,hw1,if_pos tD,if_pos tD,hr1,impl_LessKey_f,hw,hra]
     simp only [Option.bind_some,beq_iff_eq,hz,Bool.false_or,beq_eq_false_iff_ne.mpr hz])
  (by
   refine ⟨0,1,fun k _=>?_⟩
   simp only [impl_SetOk.l0]
   rw [if_neg tD]
   congr 1;rw [Bool.eq_iff_iff];simp;omega) 0 (Nat.zero_le _)
 obtain ⟨K,hk⟩:=this
 exact tx
theorem impl_NodeOk_ev (ls:List (List S38)) (ho:okKeySS ls):Ev (fun k=>impl_NodeOk.f k ls) (nodeOkB ls):=by
 have h:=okKeySS_len ho
 have hb:=countK_bulk ls
 have hbb:bulkKeySS ls ≤ 4194304:=ho
 obtain ⟨K,hk⟩:=evRange0 (σ:=Int) ls.length (fun k s i=>impl_NodeOk.l0 k s ls (ls.length:Int) i ls) (fun i s=>s + (countK (ls.drop i):Nat) = (countK ls:Nat) ∧ 0 ≤ s)
  (fun i _=>allFrom (fun i=>setOkB (ls.getD i []) && !decide ((ls.getD i []).length = 0)) ls.length i && (decide (ls.length ≤ 3) && decide (countK ls ≤ 8))) 0 te
  (by
   rintro i s hi ⟨hs,h0⟩
   have hr:rd_L6 ls (i:Int) = ls.getD i []:=by simp [rd_L6]
   obtain ⟨K,e⟩:=impl_SetOk_ev (ls.getD i []) (okKeySS_at ho i hi)
   rw [countK_drop ls i hi] at hs
   cases hq:setOkB (ls.getD i []) && !decide ((ls.getD i []).length = 0) with
   | false =>
    refine .inr ⟨K,1,fun k hk=>?_⟩
    have e1:=e k hk
    simp only at e1
    simp only [impl_NodeOk.l0,hr,e1,Option.bind_some]
    rw [if_pos tD,if_pos tD,if_pos tD,allFrom_lt hi,hq,Bool.false_and,Bool.false_and]
    generalize ls.getD i [] = y at *
    cases hq2:setOkB y with
    | false=>simp only [Bool.false_eq_true,if_false]
    | true =>
     rw [hq2] at hq
     simp only [Bool.true_and,Bool.not_eq_false',decide_eq_true_eq] at hq
     simp only [if_true]
     rw [if_pos tD]
   | true =>
    refine .inl ⟨s + ((ls.getD i []).length:Int),⟨vG,vG⟩,by rw [allFrom_lt hi,hq,Bool.true_and],K,1,fun k hk=>?_⟩
    have e1:=e k hk
    simp only at e1
    simp only [impl_NodeOk.l0,hr,e1,Option.bind_some]
    rw [if_pos tD,if_pos tD,if_pos tD,w64s i tD]
    generalize ls.getD i [] = y at *
    simp only [Bool.and_eq_true,Bool.not_eq_true',decide_eq_false_iff_not] at hq
    rw [if_pos hq.1,if_neg tD,w64 tD tD])
  (by
   rintro s ⟨hs,h0⟩
   refine ⟨0,1,fun k _=>?_⟩
   simp only [List.drop_length,countK] at hs
   simp only [impl_NodeOk.l0,allFrom_end,Bool.true_and]
   rw [if_neg tD]
   by_cases c:ls.length ≤ 3
   ·rw [if_pos tD]
    congr 1
    rw [Bool.eq_iff_iff];simp [c];omega
   ·rw [if_neg tD];simp [c])
 exact tx
theorem impl_inBounds_l1 (lows:List Int) (n:List S59) (ls:List (List S38)) (hls:ls.length ≤ 4194304) (hlo:lows.length ≤ 4194304) (p:Nat) (hp:p < lows.length) (q:Nat) (hq:q < ls.length) (l:List S38) (hl:l.length ≤ 4194304) (b:Bool)
  (hnext:Ev (fun k=>impl_inBounds.l0 k (p:Int) ls (ls.length:Int) ((q + 1:Nat):Int) lows n) b) :
  Ev (fun k=>impl_inBounds.l1 k (p:Int) ls (ls.length:Int) (q:Int) l (l.length:Int) 0 lows n) ((l.all fun x=>decide (lows.getD p 0 ≤ spotOf x.f0 x.f1) && !(decide (p + 1 < lows.length) && decide (lows.getD (p + 1) 0 ≤ spotOf x.f0 x.f1))) && b):=by
 obtain ⟨K0,e0⟩:=hnext
 obtain ⟨K,hk⟩:=evRange0 (σ:=Unit) l.length (fun k _ i=>impl_inBounds.l1 k (p:Int) ls (ls.length:Int) (q:Int) l (l.length:Int) i lows n) (fun _ _=>True)
  (fun i _=>((l.drop i).all fun x=>decide (lows.getD p 0 ≤ spotOf x.f0 x.f1) && !(decide (p + 1 < lows.length) && decide (lows.getD (p + 1) 0 ≤ spotOf x.f0 x.f1))) && b) () trivial
  (by
   intro i _ hi _
   have hd:=drop_getD l i z38 hi
   have hr:rd_T38 l (i:Int) = l.getD i z38:=by simp [rd_T38]
   generalize l.getD i z38 = y at *
   have hsp:wrap64 (wrap64 (64 * y.f0) + y.f1) = spotOf y.f0 y.f1:=rfl
   have hp1:=w64s p tD
   by_cases c1:lows.getD p 0 ≤ spotOf y.f0 y.f1
   ·by_cases c2:p + 1 < lows.length ∧ lows.getD (p + 1) 0 ≤ spotOf y.f0 y.f1
    ·refine .inr ⟨0,1,fun k _=>?_⟩
     simp only [impl_inBounds.l1,hr,impl_SpotOf.f,Option.bind_some,hsp,rd_nat,hp1]
     rw [if_pos tD,if_pos tD,if_pos tD,if_pos tD,if_pos tD,if_neg tD,if_pos tD,if_pos tD,if_pos c2.2,hd,List.all_cons,decide_eq_true c2.1,decide_eq_true c2.2,Bool.and_true,Bool.not_true,Bool.and_false,Bool.false_and,Bool.false_and]
    ·refine .inl ⟨(),trivial,?_,0,1,fun k _=>?_⟩
     ·rw [hd,List.all_cons]
      have e:(decide (p + 1 < lows.length) && decide (lows.getD (p + 1) 0 ≤ spotOf y.f0 y.f1)) = false:=by rw [← Bool.decide_and];simpa using c2
      rw [e,decide_eq_true c1];rfl
     ·simp only [impl_inBounds.l1,hr,impl_SpotOf.f,Option.bind_some,hsp,rd_nat,hp1]
      rw [if_pos tD,if_pos tD,if_pos tD,if_pos tD,if_pos tD,if_neg tD,w64s i tD]
      by_cases c3:p + 1 < lows.length
      ·rw [if_pos tD,if_pos tD,if_neg (fun h=>c2 ⟨c3,h⟩)]
      ·rw [if_neg tD]
   ·refine .inr ⟨0,1,fun k _=>?_⟩
    simp only [impl_inBounds.l1,hr,impl_SpotOf.f,Option.bind_some,hsp,rd_nat,hp1]
    rw [if_pos tD,if_pos tD,if_pos tD,if_pos tD,if_pos tD,if_pos tD,hd,List.all_cons,decide_eq_false c1]
    rfl)
  (by
   intro _ _
   refine ⟨K0,1,fun k hk=>?_⟩
   have e1:=e0 k hk
   simp only at e1
   simp only [impl_inBounds.l1]
   rw [if_neg tD,w64s q tD,e1]
   simp)
 exact tx
theorem impl_inBounds_l0 (lows:List Int) (n:List S59) (ls:List (List S38)) (ho:okKeySS ls) (hlo:lows.length ≤ 4194304) (p:Nat) (hp:p < lows.length) :
  ∀ (d q:Nat),ls.length - q = d → q ≤ ls.length → Ev (fun k=>impl_inBounds.l0 k (p:Int) ls (ls.length:Int) (q:Int) lows n) (inBoundsB lows p (ls.drop q)):=by
 have hls:=okKeySS_len ho
 intro d
 induction d with
 | zero =>
  intro q hd hq
  obtain rfl:q = ls.length:=by omega
  refine evSucc ⟨0,1,fun k _=>?_⟩
  simp only [impl_inBounds.l0]
  rw [if_neg tD]
  simp [inBoundsB]
 | succ d ih =>
  intro q hd hq
  have hlt:q < ls.length:=by omega
  have hr:rd_L6 ls (q:Int) = ls.getD q []:=by simp [rd_L6]
  have ho1:(ls.getD q []).length ≤ 4194304:=okKeySS_at ho q hlt
  obtain ⟨K,e⟩:=impl_inBounds_l1 lows n ls hls hlo p hp q hlt (ls.getD q []) ho1 _ (ih (q + 1) tD tD)
  refine evSucc ⟨K,1,fun k hk=>?_⟩
  have e1:=e k hk
  simp only at e1
  simp only [impl_inBounds.l0,hr]
  rw [if_pos tD,if_pos tD,if_pos tD,e1,drop_getD ls q [] hlt]
  rfl
theorem impl_inBounds_ev (lows:List Int) (n:List S59) (p:Nat) (hp:p < n.length) (hl:lows.length = n.length) (ho:okNodeS n):Ev (fun k=>impl_inBounds.f k lows n (p:Int)) (inBoundsB lows p (n.getD p z59).f0):=by
 have hn:=okNodeS_len ho
 have hr:rd_T59 n (p:Int) = n.getD p z59:=by simp [rd_T59]
 obtain ⟨K,e⟩:=impl_inBounds_l0 lows n (n.getD p z59).f0 (okNodeS_at ho p hp) tD p tD _ 0 rfl (Nat.zero_le _)
 refine ⟨K,fun k hk=>?_⟩
 have e1:=e k hk
 simp only [impl_inBounds.f,hr]
 rw [if_pos tD,if_pos tD]
 exact e1
theorem impl_SameSpot_f (a b:S38):impl_SameSpot.f a.f0 a.f1 a.f2 a.f3 a.f4 b.f0 b.f1 b.f2 b.f3 b.f4 = some (same a b):=by
 unfold impl_SameSpot.f same
 split
 ·simp only [*,true_and,Option.some.injEq];rw [Bool.eq_iff_iff];simp
 ·simp [*]
theorem impl_SetPut_ev (l:List S38) (x:S38) (h:l.length ≤ 4194304):Ev (fun k=>impl_SetPut.f k l x.f0 x.f1 x.f2 x.f3 x.f4) (setPut l x):=by
 obtain ⟨K,hk⟩:=evRange0 (σ:=List S38 × Bool) l.length (fun k s i=>impl_SetPut.l0 k s.1 s.2 l (l.length:Int) i x.f0 x.f1 x.f2 x.f3 x.f4) (fun i s=>s.1.length ≤ 2 * i) (fun i s=>s.1 ++ putGo x (l.drop i) s.2) ([],false) te
  (by
   intro i s hi hs
   obtain ⟨out,put⟩:=s
   simp only at hs
   have hd:=drop_getD l i z38 hi
   have hr:rd_T38 l (i:Int) = l.getD i z38:=by simp [rd_T38]
   refine .inl ⟨(out ++ (if put || less (l.getD i z38) x then [] else [x]) ++ (if same (l.getD i z38) x then [] else [l.getD i z38]),put || !less (l.getD i z38) x),?_,?_,0,2,fun k _=>?_⟩
   ·simp only [List.length_append];split <;> split <;> simp <;> omega
   ·simp only [hd,putGo,List.append_assoc]
   ·generalize hy:l.getD i z38 = y at *
    simp only [impl_SetPut.l0,hr]
    rw [if_pos tD,if_pos tD,if_pos tD]
    rw [impl_LessKey_f]
    simp only [Option.bind_some,impl_SetPut.j1]
    have hw:=w64s i tD
    cases put <;> cases hl:less y x <;> cases hq:same y x <;>
     simp only [Bool.not_true,Bool.not_false,if_true,if_false,Bool.false_eq_true,reduceCtorEq,impl_SameSpot_f,Option.bind_some,hq,hw,Bool.or_true,Bool.true_or,Bool.or_false,Bool.false_or,List.append_nil,List.append_assoc] <;>
     (repeat rw [if_pos (by first|omega|(simp only [List.length_append,List.length_cons,List.length_nil];omega))]) <;> rfl)
  (by
   intro s hs
   obtain ⟨out,put⟩:=s
   simp only at hs
   refine ⟨0,1,fun k _=>?_⟩
   simp only [impl_SetPut.l0]
   rw [if_neg tD]
   cases put
   ·rw [if_neg te,if_pos tD];simp [putGo]
   ·rw [if_pos rfl];simp [putGo])
 exact tx
theorem impl_copyKeys_f (a:List S38) (h:a.length ≤ 4194304):impl_copyKeys.f a = some a:=by
 simp only [impl_copyKeys.f,Option.bind_some,List.length_nil,List.nil_append]
 rw [if_pos tD]
theorem impl_MergeSets_ev (a b:List S38) (h:a.length + b.length ≤ 4194304):Ev (fun k=>impl_MergeSets.f k a b) (mergeSets a b):=by
 obtain ⟨K,hk⟩:=evRange0 (σ:=List S38) b.length (fun k s i=>impl_MergeSets.l0 k s b (b.length:Int) i) (fun i s=>s.length ≤ a.length + i) (fun i s=>mergeSets s (b.drop i)) a te
  (by
   intro i s hi hs
   have hd:=drop_getD b i z38 hi
   have hr:rd_T38 b (i:Int) = b.getD i z38:=by simp [rd_T38]
   obtain ⟨K,e⟩:=impl_SetPut_ev s (b.getD i z38) tD
   have hlen:=setPut_length s (b.getD i z38)
   refine .inl ⟨setPut s (b.getD i z38),vG,by simp only [hd,mergeSets,List.foldl_cons],K,1,fun k hk=>?_⟩
   simp only [impl_MergeSets.l0,hr,e k hk,Option.bind_some]
   rw [if_pos tD,if_pos tD,if_pos tD,w64s i tD])
  (by
   intro s hs
   refine ⟨0,1,fun k _=>?_⟩
   simp only [impl_MergeSets.l0]
   rw [if_neg tD]
   simp [mergeSets])
 refine ⟨K,fun k hk'=>?_⟩
 simp only [impl_MergeSets.f,impl_copyKeys_f a tD,Option.bind_some]
 exact hk k hk'
theorem impl_Drop_ev (l:List S38) (h:l.length ≤ 4194304):Ev (fun k=>impl_Drop.f k l) (dropNone l):=by
 obtain ⟨K,hk⟩:=evRange0 (σ:=List S38) l.length (fun k s i=>impl_Drop.l0 k s l (l.length:Int) i) (fun i s=>s.length ≤ i) (fun i s=>s ++ dropNone (l.drop i)) [] te
  (by
   intro i s hi hs
   have hd:=drop_getD l i z38 hi
   have hr:rd_T38 l (i:Int) = l.getD i z38:=by simp [rd_T38]
   generalize l.getD i z38 = y at *
   by_cases h1:y.f2 = 0
   ·refine .inl ⟨s,vG,?_,0,1,fun k _=>?_⟩
    ·rw [hd,dropNone,dropNone,List.filter_cons_of_neg (by simp [h1])]
    ·simp only [impl_Drop.l0,hr]
     rw [if_pos tD,if_pos tD,if_pos tD,if_pos h1,w64s i tD]
   ·refine .inl ⟨s ++ [y],by simp;omega,?_,0,1,fun k _=>?_⟩
    ·rw [hd,dropNone,dropNone,List.filter_cons_of_pos (by simp [h1]),List.append_assoc];rfl
    ·simp only [impl_Drop.l0,hr]
     rw [if_pos tD,if_pos tD,if_pos tD,if_neg h1,if_pos tD,w64s i tD])
  (by
   intro s _
   refine ⟨0,1,fun k _=>?_⟩
   simp only [impl_Drop.l0]
   rw [if_neg tD]
   simp [dropNone])
 exact tx
theorem impl_NodeKeys_ev (ls:List (List S38)) (ho:okKeySS ls):Ev (fun k=>impl_NodeKeys.f k ls) (nodeKeys ls):=by
 have h:=okKeySS_len ho
 have hb:=countK_bulk ls
 have hbb:bulkKeySS ls ≤ 4194304:=ho
 obtain ⟨K,hk⟩:=evRange0 (σ:=List S38) ls.length (fun k s i=>impl_NodeKeys.l0 k s ls (ls.length:Int) i) (fun i s=>s.length + countK (ls.drop i) ≤ countK ls) (fun i s=>dropNone (mergeAll s (ls.drop i))) [] te
  (by
   intro i s hi hs
   have hd:=drop_getD ls i [] hi
   have hr:rd_L6 ls (i:Int) = ls.getD i []:=by simp [rd_L6]
   rw [countK_drop ls i hi] at hs
   obtain ⟨K,e⟩:=impl_MergeSets_ev s (ls.getD i []) tD
   have hl:=mergeSets_length s (ls.getD i [])
   refine .inl ⟨mergeSets s (ls.getD i []),vG,by rw [hd];rfl,K,1,fun k hk=>?_⟩
   have e1:=e k hk
   simp only at e1
   simp only [impl_NodeKeys.l0,hr,e1,Option.bind_some]
   rw [if_pos tD,if_pos tD,if_pos tD,w64s i tD])
  (by
   intro s hs
   simp only [List.drop_length,countK] at hs
   obtain ⟨K,e⟩:=impl_Drop_ev s tD
   refine ⟨K,1,fun k hk=>?_⟩
   have e1:=e k hk
   simp only at e1
   simp only [impl_NodeKeys.l0,e1,Option.bind_some]
   rw [if_neg tD]
   simp [mergeAll])
 exact tx
theorem impl_TreeOk_ev (lows:List Int) (n:List S59) (h1:okIntS lows) (ho:okNodeS n):Ev (fun k=>impl_TreeOk.f k lows n) (treeOkB lows n):=by
 have hn:=okNodeS_len ho
 have hl:lows.length ≤ 4194304:=h1
 have hb:=sumKeysN_bulk n
 have hbb:bulkNodeS n ≤ 4194304:=ho
 unfold treeOkB
 by_cases c1:1 ≤ (n.length:Int) ∧ (n.length:Int) ≤ 20
 ·by_cases c2:lows.length = n.length
  ·by_cases c3:lows.getD 0 0 = 0
   ·rw [if_pos c1,if_pos c2,if_pos c3]
    obtain ⟨K,hk⟩:=evRange0 (σ:=Int) n.length (fun k s i=>impl_TreeOk.l0 k s n (n.length:Int) i lows n) (fun i s=>s + (sumKeysN (n.drop i):Nat) = (sumKeysN n:Nat) ∧ 0 ≤ s)
     (fun i _=>allFrom (fun i=>(i == 0 || decide (lows.getD (i - 1) 0 < lows.getD i 0)) && nodeFits lows i (n.getD i z59)) n.length i && decide (sumKeysN n ≤ 60)) 0 te
     (by
      rintro i s hi ⟨hs,h0⟩
      have hr:rd_T59 n (i:Int) = n.getD i z59:=by simp [rd_T59]
      rw [sumKeysN_drop n i hi] at hs
      have ho1:=okNodeS_at ho i hi
      obtain ⟨K,e⟩:=impl_inBounds_ev lows n i hi c2 ho
      obtain ⟨y,hgen⟩:∃ y,n.getD i z59 = y:=⟨_,rfl⟩
      rw [hgen] at hs hr ho1 e
      obtain ⟨K2,e2⟩:=impl_NodeOk_ev y.f0 ho1
      obtain ⟨K3,e3⟩:=impl_NodeKeys_ev y.f0 ho1
      have hw1:¬ i = 0 → wrap64 ((i:Int) - 1) = ((i - 1:Nat):Int):=fun _=>by rw [w64 tD tD];omega
      have key:∀ k,K + K2 + K3 ≤ k → impl_TreeOk.l0 (k + 2) s n (n.length:Int) (i:Int) lows n = if (i == 0 || decide (lows.getD (i - 1) 0 < lows.getD i 0)) && nodeFits lows i y then impl_TreeOk.l0 k (s + ((nodeKeys y.f0).length:Int)) n (n.length:Int) ((i + 1:Nat):Int) lows n else some false:=by
       intro k hk
       have a1:=e (k + 1) tD
       have a2:=e2 (k + 1) tD
       have a3:=e3 k tD
       simp only at a1 a2 a3
       simp only [impl_TreeOk.l0,hr,a1,a2,Option.bind_some,impl_TreeOk.j2,a3,w64s i tD,rd_nat]
       rw [if_pos tD,if_pos tD,if_pos tD]
       unfold nodeFits
       by_cases hz:i = 0
       ·subst hz
        have hng:¬ (((0:Nat):Int) > 0):=by omega
        simp only [hng,if_false,beq_self_eq_true,Bool.true_or,Bool.true_and]
        rw [w64 (x:=s + ((nodeKeys y.f0).length:Int)) tD tD]
        cases nodeOkB y.f0 <;> cases inBoundsB lows 0 y.f0 <;> simp only [if_true,if_false,Bool.false_eq_true,Bool.not_true,Bool.not_false,Bool.false_and,Bool.true_and]
       ·rw [if_pos tD,hw1 hz,if_pos tD,if_pos tD,if_pos tD,rd_nat,beq_eq_false_iff_ne.mpr hz,Bool.false_or,Bool.false_or,w64 (x:=s + ((nodeKeys y.f0).length:Int)) tD tD]
        by_cases c:lows.getD (i - 1) 0 < lows.getD i 0
        ·rw [if_neg tD,decide_eq_true c,Bool.true_and]
         have hip:(i:Int) > 0:=by omega
         by_cases c4:(nodeKeys y.f0).length = 0
         ·have c5:((nodeKeys y.f0).length:Int) = 0:=by omega
          have c6:=decide_eq_true c4
          cases nodeOkB y.f0 <;> cases inBoundsB lows i y.f0 <;> simp only [hip,if_pos c5,c6,if_true,if_false,Bool.false_eq_true,Bool.not_true,Bool.not_false,Bool.false_and,Bool.true_and]
         ·have c5:¬ ((nodeKeys y.f0).length:Int) = 0:=by omega
          have c6:=decide_eq_false c4
          cases nodeOkB y.f0 <;> cases inBoundsB lows i y.f0 <;> simp only [hip,if_neg c5,c6,if_true,if_false,Bool.false_eq_true,Bool.not_true,Bool.not_false,Bool.false_and,Bool.true_and]
        ·rw [if_pos tD,decide_eq_false c,Bool.false_and]
         simp only [if_true,Bool.false_eq_true,if_false]
      cases hq:(i == 0 || decide (lows.getD (i - 1) 0 < lows.getD i 0)) && nodeFits lows i y with
      | true =>
       refine .inl ⟨s + ((nodeKeys y.f0).length:Int),⟨vG,vG⟩,?_,K + K2 + K3,2,fun k hk=>?_⟩
       ·rw [allFrom_lt hi]
        simp only [hgen,hq,Bool.true_and]
       ·rw [key k hk,hq];rfl
      | false =>
       refine .inr ⟨K + K2 + K3,2,fun k hk=>?_⟩
       rw [key k hk,hq,allFrom_lt hi]
       simp only [hgen,hq,Bool.false_and]
       rfl)
     (by
      rintro s ⟨hs,h0⟩
      simp only [List.drop_length,sumKeysN] at hs
      refine ⟨0,1,fun k hk=>?_⟩
      simp only [impl_TreeOk.l0,allFrom_end,Bool.true_and]
      rw [if_neg tD]
      congr 1;rw [Bool.eq_iff_iff];simp;omega)
    refine evSucc ⟨K,1,fun k hk'=>?_⟩
    have e:=hk k hk'
    have hz:rd lows 0 = lows.getD 0 0:=rfl
    simp only [impl_TreeOk.f,impl_within_f,Option.bind_some,hz,c3,bne_self_eq_false,impl_TreeOk.j0,Bool.false_eq_true,if_false]
    rw [if_pos (by simpa using c1),if_pos tD,if_pos tD]
    exact e
   ·rw [if_pos c1,if_pos c2,if_neg c3]
    refine evSucc ⟨0,1,fun k hk'=>?_⟩
    have hz:rd lows 0 = lows.getD 0 0:=rfl
    have hb:(lows.getD 0 0 != 0) = true:=by simpa using c3
    simp only [impl_TreeOk.f,impl_within_f,Option.bind_some,hz,hb,impl_TreeOk.j0,if_true]
    rw [if_pos (by simpa using c1),if_pos tD,if_pos tD]
  ·rw [if_pos c1,if_neg c2]
   refine evSucc ⟨0,1,fun k hk'=>?_⟩
   simp only [impl_TreeOk.f,impl_within_f,Option.bind_some,impl_TreeOk.j0,if_true]
   rw [if_pos (by simpa using c1),if_neg tD]
 ·rw [if_neg c1]
  refine evSucc ⟨0,1,fun k hk'=>?_⟩
  simp only [impl_TreeOk.f,impl_within_f,Option.bind_some,impl_TreeOk.j0,if_true]
  rw [if_neg (by simpa using c1)]
theorem impl_copyNode_ev (ls:List (List S38)) (ho:okKeySS ls):Ev (fun k=>impl_copyNode.f k ls) ls:=by
 have h:=okKeySS_len ho
 obtain ⟨K,hk⟩:=evRange0 (σ:=List (List S38)) ls.length (fun k s i=>impl_copyNode.l0 k ls (ls.length:Int) i s) (fun i s=>s = ls.take i) (fun _ _=>ls) [] te
  (by
   intro i s hi hs
   subst hs
   have hr:rd_L6 ls (i:Int) = ls.getD i []:=by simp [rd_L6]
   have hb:=okKeySS_at ho i hi
   unfold okKeyS at hb
   have hc:=impl_copyKeys_f (ls.getD i []) hb
   have hl:(ls.take i).length = i:=by simp;omega
   refine .inl ⟨ls.take (i + 1),rfl,rfl,0,1,fun k _=>?_⟩
   simp only [impl_copyNode.l0,hr,hc,Option.bind_some]
   rw [if_pos tD,if_pos tD,if_pos tD,if_pos tD,w64s i tD,take_getD ls i [] hi])
  (by
   intro s hs
   subst hs
   refine ⟨0,1,fun k _=>?_⟩
   simp only [impl_copyNode.l0]
   rw [if_neg tD,List.take_length])
 exact tx
theorem impl_copyInts_f (s:List Int) (h:s.length ≤ 4194304):impl_copyInts.f s = some s:=by
 simp only [impl_copyInts.f,Option.bind_some,List.length_nil,List.nil_append]
 rw [if_pos tD]
theorem impl_copyTree_ev (s:List Int) (l:List S59) (hs:s.length ≤ 4194304) (ho:okNodeS l):Ev (fun k=>impl_copyTree.f k s l) (s,l):=by
 have h:=okNodeS_len ho
 obtain ⟨K,hk⟩:=evRange0 (σ:=List S59) l.length (fun k x i=>impl_copyTree.l0 k l (l.length:Int) i s x) (fun i x=>x = l.take i) (fun _ _=>(s,l)) [] te
  (by
   intro i x hi hx
   subst hx
   have hr:rd_T59 l (i:Int) = l.getD i z59:=by simp [rd_T59]
   obtain ⟨K,e⟩:=impl_copyNode_ev (l.getD i z59).f0 (okNodeS_at ho i hi)
   have hl:(l.take i).length = i:=by simp;omega
   refine .inl ⟨l.take (i + 1),rfl,rfl,K,1,fun k hk=>?_⟩
   have a:=e k hk
   simp only at a
   simp only [impl_copyTree.l0,hr,a,Option.bind_some]
   rw [if_pos tD,if_pos tD,if_pos tD,if_pos tD,w64s i tD,take_getD l i z59 hi])
  (by
   intro x hx
   subst hx
   refine ⟨0,1,fun k _=>?_⟩
   simp only [impl_copyTree.l0]
   rw [if_neg tD,List.take_length])
 refine ⟨K,fun k hk'=>?_⟩
 simp only [impl_copyTree.f,impl_copyInts_f s hs,Option.bind_some]
 exact hk k hk'
theorem impl_WhereIn_l0 (l:List Int) (n:List S59) (a b:Int) (h:l.length ≤ 4194304):∀ m,m ≤ l.length → Ev (fun k=>impl_WhereIn.l0 k a b ((m:Int) - 1) l n) (whereGo l (spotOf a b) m):=by
 intro m
 induction m with
 | zero =>
  intro _
  refine evSucc ⟨0,1,fun k _=>?_⟩
  simp only [impl_WhereIn.l0]
  rw [if_neg tD]
  rfl
 | succ m ih =>
  intro hm
  obtain ⟨K,e⟩:=ih tD
  refine evSucc ⟨K,1,fun k hk=>?_⟩
  have e1:=e k hk
  have hc:((m + 1:Nat):Int) - 1 = (m:Int):=by omega
  simp only at e1
  simp only [impl_WhereIn.l0,hc,rd_nat,impl_SpotOf.f,Option.bind_some,whereGo]
  rw [if_pos tD,if_pos tD,if_pos tD,w64 (x:=(m:Int) - 1) tD tD,e1]
  show (if l.getD m 0 ≤ spotOf a b then _ else _) = _
  by_cases c:l.getD m 0 ≤ spotOf a b
  ·rw [if_pos c,if_pos c]
  ·rw [if_neg c,if_neg c]
theorem impl_WhereIn_ev (l:List Int) (n:List S59) (a b:Int) (h:l.length ≤ 4194304):Ev (fun k=>impl_WhereIn.f k l n a b) (whereGo l (spotOf a b) l.length):=by
 obtain ⟨K,e⟩:=impl_WhereIn_l0 l n a b h l.length (Nat.le_refl _)
 refine ⟨K,fun k hk=>?_⟩
 simp only [impl_WhereIn.f]
 rw [w64 tD tD]
 exact e k hk
theorem impl_keysWith_ev (ls:List (List S38)) (x:S38) (h:bulkKeySS ls ≤ 4194300):Ev (fun k=>impl_keysWith.f k ls x.f0 x.f1 x.f2 x.f3 x.f4) (keysPut ls x):=by
 have h1:=nodeKeys_length ls
 have h2:=countK_bulk ls
 have h3:=setPut_length (nodeKeys ls) x
 unfold impl_keysWith.f keysPut
 refine Ev.bind (impl_NodeKeys_ev ls (by unfold okKeySS;omega)) ?_
 refine Ev.bind (impl_SetPut_ev (nodeKeys ls) x tD) ?_
 refine Ev.bind (impl_Drop_ev _ tD) ?_
 exact Ev.now _
theorem impl_NodeNew_ev (l:List S38) (h:l.length ≤ 4194304):Ev (fun _=>impl_NodeNew.f l) (nodeNew l):=by
 refine evOf fun _=>?_
 simp only [impl_NodeNew.f,impl_copyKeys.f,nodeNew,Option.bind_some,List.nil_append,List.length_nil,Nat.zero_add]
 by_cases c:l.length = 0
 ·rw [if_pos tD,if_pos c]
 ·rw [if_neg tD,if_neg c,if_pos tD]
  rfl
theorem impl_SetAt_ev (l:List S38) (a b:Int) (h:l.length ≤ 4194304):Ev (fun k=>impl_SetAt.f k l a b) (at6 (setAt l a b)):=by
 obtain ⟨K,hk⟩:=evRange0 (σ:=Unit) l.length (fun k _ i=>impl_SetAt.l0 k a b l (l.length:Int) i) (fun _ _=>True) (fun i _=>at6 (setAt (l.drop i) a b)) () trivial
  (by
   intro i _ hi _
   have hd:=drop_getD l i z38 hi
   have hr:rd_T38 l (i:Int) = l.getD i z38:=by simp [rd_T38]
   generalize l.getD i z38 = y at *
   by_cases h1:y.f0 = a ∧ y.f1 = b
   ·refine .inr ⟨0,1,fun k _=>?_⟩
    simp only [impl_SetAt.l0,hr]
    rw [if_pos tD,if_pos tD,if_pos tD,if_pos h1.1,if_pos h1.2,hd,setAt,List.find?_cons_of_pos (by simp [h1])]
    rfl
   ·refine .inl ⟨(),trivial,?_,0,1,fun k _=>?_⟩
    ·rw [hd,setAt,setAt,List.find?_cons_of_neg (by simpa using h1)]
    ·simp only [impl_SetAt.l0,hr]
     rw [if_pos tD,if_pos tD,if_pos tD,w64s i tD]
     by_cases h2:y.f0 = a
     ·rw [if_pos h2,if_neg (fun h3=>h1 ⟨h2,h3⟩)]
     ·rw [if_neg h2])
  (by
   intro _ _
   refine ⟨0,1,fun k _=>?_⟩
   simp only [impl_SetAt.l0]
   rw [if_neg tD]
   simp [setAt,at6])
 exact tx
theorem impl_NodePut_j1 (ls cur:List (List S38)) (x:S38) (h:bulkKeySS ls ≤ 4194300) (hc:okKeySS cur):Ev (fun k=>impl_NodePut.j1 k ls x.f0 x.f1 x.f2 x.f3 x.f4 cur) (if nodeOkB cur = true then (cur,true) else if (keysPut ls x).length ≤ 8 ∧ nodeOkB (nodeNew (keysPut ls x)) = true then (nodeNew (keysPut ls x),true) else (ls,false)):=by
 have h4:=keysPut_length ls x
 have h5:=bulk_nodeNew (keysPut ls x)
 have ho:okKeySS ls:=by unfold okKeySS;omega
 obtain ⟨K1,e1⟩:=impl_NodeOk_ev cur hc
 obtain ⟨K2,e2⟩:=impl_keysWith_ev ls x h
 obtain ⟨K5,e5⟩:=impl_NodeNew_ev (keysPut ls x) tD
 obtain ⟨K6,e6⟩:=impl_NodeOk_ev (nodeNew (keysPut ls x)) (by unfold okKeySS;omega)
 obtain ⟨K7,e7⟩:=impl_copyNode_ev ls ho
 refine evSucc ⟨K1 + K2 + K5 + K6 + K7,1,fun k hk=>?_⟩
 have a1:=e1 k tD
 have a2:=e2 k tD
 have a5:=e5 k tD
 have a6:=e6 k tD
 have a7:=e7 k tD
 simp only at a1 a2 a5 a6 a7
 simp only [impl_NodePut.j1,a1,a2,a5,Option.bind_some]
 by_cases c1:nodeOkB cur = true
 ·rw [if_pos c1,if_pos c1]
 ·rw [if_neg c1,if_neg c1]
  by_cases c2:((keysPut ls x).length:Int) > 8
  ·rw [if_pos c2,if_neg tD,a7]
   rfl
  ·rw [if_neg c2]
   simp only [a6,a7,Option.bind_some]
   have c3:(keysPut ls x).length ≤ 8:=by omega
   cases nodeOkB (nodeNew (keysPut ls x)) <;> simp [c3]
theorem impl_NodePut_ev (ls:List (List S38)) (x:S38) (h:bulkKeySS ls ≤ 4194300):Ev (fun k=>impl_NodePut.f k ls x.f0 x.f1 x.f2 x.f3 x.f4) (nodePut ls x):=by
 have ho:okKeySS ls:=by unfold okKeySS;omega
 have hlen:=okKeySS_len ho
 have hn:=bulk_nodeNext ls x
 have hj2:=impl_NodePut_j1 ls (nodeNext ls x) x h (by unfold okKeySS;omega)
 unfold impl_NodePut.f
 refine Ev.bind (impl_copyNode_ev ls ho) ?_
 rw [w64 (x:=(ls.length:Int) - 1) tD tD]
 obtain ⟨K,e⟩:=hj2
 by_cases c:ls.length = 0
 ·simp only [if_neg (show ¬ ((ls.length:Int) - 1 ≥ 0) by omega)]
  have hnx:nodeNext ls x = ls ++ [[x]]:=by unfold nodeNext;rw [if_neg tD]
  rw [hnx] at e
  refine evSucc ⟨K,1,fun k hk=>?_⟩
  have a:=e k hk
  simp only at a
  simp only [impl_NodePut.j0]
  rw [if_neg te,if_pos tD]
  rw [a]
  unfold nodePut
  rw [hnx]
 ·simp only [if_pos (show (ls.length:Int) - 1 ≥ 0 by omega),if_pos (show 0 ≤ (ls.length:Int) - 1 by omega),if_pos (show (ls.length:Int) - 1 < (ls.length:Int) by omega)]
  have hi:((ls.length:Int) - 1).toNat = ls.length - 1:=by omega
  have hr:rd_L6 ls ((ls.length:Int) - 1) = lastK ls:=by unfold rd_L6 lastK;rw [hi]
  have hlk:=okKeySS_at ho (ls.length - 1) tD
  have hlk':(lastK ls).length ≤ 4194304:=hlk
  rw [hr]
  refine Ev.bind (impl_SetAt_ev (lastK ls) x.f0 x.f1 hlk') ?_
  obtain ⟨K2,e2⟩:=impl_SetPut_ev (lastK ls) x hlk'
  have hb:(at6 (setAt (lastK ls) x.f0 x.f1)).2.2.2.2.2 = (setAt (lastK ls) x.f0 x.f1).isSome:=by cases setAt (lastK ls) x.f0 x.f1 <;> rfl
  rw [hb]
  have j0:∀ b:Bool,hereK ls x = b → Ev (fun k=>impl_NodePut.j0 k ((ls.length:Int) - 1) b ls x.f0 x.f1 x.f2 x.f3 x.f4 ls) (nodePut ls x):=by
   intro b hb
   have hnx:(if b = true then ls.set (ls.length - 1) (setPut (lastK ls) x) else ls ++ [[x]]) = nodeNext ls x:=by
    unfold nodeNext
    rw [hb]
    cases b
    ·simp
    ·simp [c]
   refine evSucc ⟨K + K2,1,fun k hk=>?_⟩
   have a':=e k tD
   have a2:=e2 k tD
   simp only at a' a2
   rw [← hnx] at a'
   cases b
   ·simp only [impl_NodePut.j0]
    rw [if_neg te,if_pos tD]
    rw [if_neg te] at a'
    rw [a']
    unfold nodePut
    rw [← hnx,if_neg (show ¬ (false = true) by decide)]
   ·simp only [impl_NodePut.j0]
    rw [if_pos rfl] at a'
    rw [if_pos trivial,if_pos tD,if_pos tD,hr,a2,hi]
    simp only [Option.bind_some]
    rw [if_pos tD,a']
    unfold nodePut
    rw [← hnx,if_pos rfl]
  by_cases c4:(setAt (lastK ls) x.f0 x.f1).isSome = true
  ·simp only [if_pos c4]
   exact j0 true (by unfold hereK;simp [c4])
  ·simp only [if_neg c4]
   refine j0 _ ?_
   unfold hereK
   have:(setAt (lastK ls) x.f0 x.f1).isSome = false:=by simpa using c4
   rw [this,Bool.false_or]
   exact decide_eq_decide.2 tD
theorem impl_replaced_f (s s2:List Int) (l l2:List S59) (i c:Nat) (hi:i + c ≤ s.length) (hs:s.length = l.length) (hl:l.length ≤ 4194304) (h2:s2.length ≤ 4194304) (h3:l2.length ≤ 4194304):impl_replaced.f s l (i:Int) (c:Int) s2 l2 = some (setS s i c s2,setL l i c l2):=by
 have hw:=aA.mk (show wrap64 ((i:Int) + (c:Int)) = ((i + c:Nat):Int) from by rw [w64 tD tD];omega)
 simp only [impl_replaced.f,Option.bind_some,hw.out,List.nil_append,Int.toNat_natCast]
 rw [if_pos tD,if_pos tD,impl_copyInts_f _ (by rw [List.length_take];omega),Option.bind_some,if_pos (by simp only [List.length_take];omega),if_pos tD,if_pos tD]
 rw [if_pos vz,if_pos tD,if_pos (by simp only [List.length_nil,List.length_take];omega),if_pos (by simp only [List.length_take];omega),if_pos tD,if_pos vz]
 rfl
/-- What merged comes to from node i on, m of them left. -/
def mergeFrom (n:Nat) (s:List Int) (l:List S59) (p:Int):List Int × List S59:=if 0 ≤ p then treeJoin (n - 1) (joinS s p.toNat) (joinL l p.toNat) else (s,l)
theorem mergeFrom_all (n:Nat) (s:List Int) (l:List S59) (h:l.length ≤ n):mergeFrom n s l (pairGo l l.length 0) = treeJoin n s l:=by
 unfold mergeFrom
 cases n with
 | zero =>
  rw [if_neg (by have:=pairGo_range l l.length 0;omega)]
  rfl
 | succ n=>rfl
theorem impl_merged_go:∀ (n:Nat) (s:List Int) (l:List S59),l.length ≤ n → s.length = l.length → okNodeS l → ∀ m i,i + m = l.length → Ev (fun k=>impl_merged.l0 k (i:Int) s l) (mergeFrom n s l (pairGo l m i))
 | n,s,l,hn,hs,ho,0,i,h=>by
  have hl:=okNodeS_len ho
  refine evSucc ⟨0,1,fun k _=>?_⟩
  show impl_merged.l0 (k + 1) (i:Int) s l = _
  unfold impl_merged.l0
  rw [w64s i tD,if_neg tD]
  rfl
 | 0,s,l,hn,hs,ho,m + 1,i,h=>by omega
 | n + 1,s,l,hn,hs,ho,m + 1,i,h=>by
  have hl:=okNodeS_len ho
  by_cases c:i + 1 < l.length
  ·have h2:=joinS_len s i tD
   have h3:=joinL_len l i c
   have h4:=bulk_joinL l i c
   have hoj:okNodeS (joinL l i):=by unfold okNodeS at ho ⊢;omega
   have b1:=nk_small ho i tD
   have b2:=nk_small ho (i + 1) c
   obtain ⟨K1,e1⟩:=impl_NodeKeys_ev (l.getD i z59).f0 (okNodeS_at ho i tD)
   obtain ⟨K2,e2⟩:=impl_NodeKeys_ev (l.getD (i + 1) z59).f0 (okNodeS_at ho (i + 1) c)
   have hr0:=rdT_nat l i
   have hr1:=rdT_nat l (i + 1)
   by_cases q:(nkAt l i).length + (nkAt l (i + 1)).length ≤ 6
   ·obtain ⟨_,e3⟩:=evGet (impl_NodeNew_ev (nkAt l i ++ nkAt l (i + 1)) (by rw [List.length_append];omega))
    obtain ⟨K4,e4⟩:=impl_merged_go n (joinS s i) (joinL l i) tD tD hoj (joinL l i).length 0 tD
    rw [mergeFrom_all n _ _ tD] at e4
    have e5:=impl_replaced_f s [s.getD i 0] l [(⟨nodeNew (nkAt l i ++ nkAt l (i + 1))⟩:S59)] i 2 tD hs hl te te
    have e6:setS s i 2 [s.getD i 0] = joinS s i:=by unfold setS joinS;rw [take_getD s i 0 tD]
    rw [e6] at e5
    refine evSucc ⟨K1 + K2 + K4,1,fun k hk=>?_⟩
    have a1:=e1 k tD
    have a2:=e2 k tD
    have a4:=e4 k tD
    simp only at a1 a2 a4
    show impl_merged.l0 (k + 1) (i:Int) s l = _
    unfold impl_merged.l0
    rw [w64s i tD,hr0,hr1,a1,a2]
    clear hr0 hr1 a1 a2
    rw [if_pos tD,if_pos tD,if_pos tD,Option.bind_some,if_pos tD,Option.bind_some,if_pos tD,Option.bind_some,if_pos (by rw [List.length_append];unfold nkAt at q;omega),if_pos tD]
    rw [show impl_NodeNew.f (nodeKeys (l.getD i z59).f0 ++ nodeKeys (l.getD (i + 1) z59).f0) = some (nodeNew (nkAt l i ++ nkAt l (i + 1))) from e3,Option.bind_some,show rd s (i:Int) = s.getD i 0 from by simp [rd]]
    rw [show impl_replaced.f s l (i:Int) 2 [s.getD i 0] [(⟨nodeNew (nkAt l i ++ nkAt l (i + 1))⟩:S59)] = some (joinS s i,joinL l i) from e5,Option.bind_some]
    simp only [pairGo]
    rw [if_pos c,if_pos q]
    exact a4
   ·obtain ⟨K3,e3⟩:=impl_merged_go (n + 1) s l hn hs ho m (i + 1) tD
    refine evSucc ⟨K1 + K2 + K3,1,fun k hk=>?_⟩
    have a1:=e1 k tD
    have a2:=e2 k tD
    have a3:=e3 k tD
    simp only at a1 a2 a3
    show impl_merged.l0 (k + 1) (i:Int) s l = _
    unfold impl_merged.l0
    rw [w64s i tD,hr0,hr1,a1,a2]
    clear hr0 hr1 a1 a2
    rw [if_pos tD,if_pos tD,if_pos tD,Option.bind_some,if_pos tD,Option.bind_some,if_pos tD,Option.bind_some,if_neg (by rw [List.length_append];unfold nkAt at q;omega)]
    simp only [pairGo]
    rw [if_pos c,if_neg q]
    exact a3
  ·refine evSucc ⟨0,1,fun k _=>?_⟩
   show impl_merged.l0 (k + 1) (i:Int) s l = _
   unfold impl_merged.l0
   rw [w64s i tD,if_neg tD]
   simp only [pairGo]
   rw [if_neg c]
   rfl
theorem impl_merged_ev (s:List Int) (l:List S59) (hs:s.length = l.length) (ho:okNodeS l):Ev (fun k=>impl_merged.f k s l) (treeJoin l.length s l):=by
 have h:=impl_merged_go l.length s l (Nat.le_refl _) hs ho l.length 0 tD
 rw [mergeFrom_all _ _ _ (Nat.le_refl _)] at h
 unfold impl_merged.f
 exact h
theorem spec_TreePut_j1 (s s2:List Int) (l l2:List S59) (hs:s2.length = l2.length) (ho:okNodeS l2) (ho2:okIntS (treeJoin l2.length s2 l2).1):Ev (fun k=>spec_TreePut.j1 k s l s2 l2) (if treeOkB (treeJoin l2.length s2 l2).1 (treeJoin l2.length s2 l2).2 = true then ((treeJoin l2.length s2 l2).1,(treeJoin l2.length s2 l2).2,true) else (s,l,false)):=by
 have h1:=treeJoin_ok l2.length s2 l2 hs
 obtain ⟨K,e⟩:=spec_l6Join_ev s2 l2 hs ho
 obtain ⟨K2,e2⟩:=spec_TreeOk_ev (treeJoin l2.length s2 l2).1 (treeJoin l2.length s2 l2).2 ho2 (by unfold okNodeS at ho ⊢;omega)
 refine evSucc ⟨K + K2,1,fun k hk=>?_⟩
 have a:=e k tD
 have a2:=e2 k tD
 simp only at a a2
 simp only [spec_TreePut.j1,a,a2,Option.bind_some]
 split <;> rfl
theorem put_oks {s:List Int} {l:List S59} {x:S38} (c1:treeOkB s l = true) (c2:keyOkB x = true):bulkKeySS (l.getD (whereAt s x) z59).f0 ≤ 240 ∧ okNodeS (setL l (whereAt s x) 1 (putL l (whereAt s x) x)) ∧ okIntS (treeJoin (setL l (whereAt s x) 1 (putL l (whereAt s x) x)).length (setS s (whereAt s x) 1 (putS s l (whereAt s x) x)) (setL l (whereAt s x) 1 (putL l (whereAt s x) x))).1 ∧ (setS s (whereAt s x) 1 (putS s l (whereAt s x) x)).length = (setL l (whereAt s x) 1 (putL l (whereAt s x) x)).length:=by
 obtain ⟨f1,f2,-,-,-⟩:=treeOk_facts c1
 have w2:=(whereAt_spec c1 c2).2
 have hb:=treeOk_bulk c1
 have hp:=set_len s l (whereAt s x) x f2 w2
 have hq:=setL_bulk l _ w2 x
 have hbn:=bulkNodeS_at l (whereAt s x) w2
 have hj:=treeJoin_ok (setL l (whereAt s x) 1 (putL l (whereAt s x) x)).length _ _ hp.1
 unfold okNodeS okIntS
 generalize treeJoin (setL l (whereAt s x) 1 (putL l (whereAt s x) x)).length (setS s (whereAt s x) 1 (putS s l (whereAt s x) x)) (setL l (whereAt s x) 1 (putL l (whereAt s x) x)) = y at *
 generalize setL l (whereAt s x) 1 (putL l (whereAt s x) x) = z at *
 generalize setS s (whereAt s x) 1 (putS s l (whereAt s x) x) = z2 at *
 generalize bulkKeySS (l.getD (whereAt s x) z59).f0 = z3 at *
 omega
theorem spec_TreePut_ev (s:List Int) (l:List S59) (x:S38) (h:okIntS s) (ho:okNodeS l):Ev (fun k=>spec_TreePut.f k s l x.f0 x.f1 x.f2 x.f3 x.f4) (treePut s l x):=by
 obtain ⟨K1,e1⟩:=spec_l6Copy_ev s l h ho
 obtain ⟨K2,e2⟩:=spec_TreeOk_ev s l h ho
 obtain ⟨K3,e3⟩:=spec_KeyOk_ev x.f0 x.f1 x.f2 x.f3 x.f4
 by_cases c:treeOkB s l = true ∧ keyOkB x = true
 ·obtain ⟨c1,c2⟩:=c
  obtain ⟨f1,f2,f3,f4,-⟩:=treeOk_facts c1
  obtain ⟨w1,w2⟩:=whereAt_spec c1 c2
  obtain ⟨hb5,ho9,hi9,hl9⟩:=put_oks c1 c2
  obtain ⟨K4,e4⟩:=spec_WhereIn_ev s l x.f0 x.f1 h
  rw [w1] at e4
  clear w1
  have hon:=okNodeS_at ho (whereAt s x) w2
  obtain ⟨K5,e5⟩:=spec_NodePut_ev (l.getD (whereAt s x) z59).f0 x (Nat.le_trans hb5 tq)
  obtain ⟨K9,e9⟩:=spec_TreePut_j1 s (setS s (whereAt s x) 1 (putS s l (whereAt s x) x)) l (setL l (whereAt s x) 1 (putL l (whereAt s x) x)) hl9 ho9 hi9
  clear hl9 ho9 hi9
  have ha:treePut s l x = (if treeOkB (putTree s l x).1 (putTree s l x).2 = true then ((putTree s l x).1,(putTree s l x).2,true) else (s,l,false)):=by unfold treePut;rw [if_pos ⟨c1,c2⟩]
  rw [ha]
  unfold putTree
  generalize hi:whereAt s x = i at *
  have hrd:rd s (i:Int) = s.getD i 0:=by simp [rd]
  have hrt:=rdT_nat l i
  -- what the call comes to, once the parts are known
  by_cases q:(nodePut (l.getD i z59).f0 x).2 = true
  ·obtain ⟨K6,e6⟩:=spec_NodeKeys_ev (nodePut (l.getD i z59).f0 x).1 (okKeySS_nodePut _ x (Nat.le_trans hb5 tq))
   refine evSucc ⟨K1 + K2 + K3 + K4 + K5 + K6 + K9,2,fun k hk=>?_⟩
   have a1:=e1 (k + 2) tD
   have a2:=e2 (k + 2) tD
   have a3:=e3 (k + 2) tD
   have a4:=e4 (k + 1) tD
   have a5:=e5 (k + 1) tD
   have a6:=e6 (k + 1) tD
   have a9:=e9 (k + 1) tD
   simp only at a1 a2 a3 a4 a5 a6 a9
   have k3:keyOk5 x.f0 x.f1 x.f2 x.f3 x.f4 = true:=c2
   simp only [spec_TreePut.f,a1,a2,a3,k3,c1,Option.bind_some,if_true,Bool.not_true,spec_TreePut.j0,Bool.false_eq_true,if_false,a4,hrt,a5,hrd]
   rw [if_pos tD,if_pos tD,if_pos tD,spec_l6Set_f s [s.getD i 0] l _ i tD f2 tD te te]
   simp only [Option.bind_some]
   rw [if_pos q]
   by_cases q2:0 < i ∧ (nodeKeys (nodePut (l.getD i z59).f0 x).1).length = 0
   ·rw [if_pos tD,a6]
    simp only [Option.bind_some]
    rw [if_pos tD,spec_l6Set_f s [] l [] i tD f2 tD te te]
    simp only [Option.bind_some]
    have p1:putS s l i x = []:=by unfold putS;rw [if_pos q,if_pos q2]
    have p2:putL l i x = []:=by unfold putL;rw [if_pos q,if_pos q2]
    rw [p1,p2] at a9
    rw [p1,p2]
    exact a9
   ·have p1:putS s l i x = [s.getD i 0]:=by unfold putS;rw [if_pos q,if_neg q2]
    have p2:putL l i x = [(⟨(nodePut (l.getD i z59).f0 x).1⟩:S59)]:=by unfold putL;rw [if_pos q,if_neg q2]
    rw [p1,p2] at a9
    rw [p1,p2]
    by_cases q3:0 < i
    ·rw [if_pos tD,a6]
     simp only [Option.bind_some]
     rw [if_neg tD]
     exact a9
    ·rw [if_neg tD]
     exact a9
  ·have q':(nodePut (l.getD i z59).f0 x).2 = false:=by simpa using q
   have hm:=keysPut_many (fits_parts (f4 i w2).2).1 c2 q'
   have hkl:=keysPut_length (l.getD i z59).f0 x
   have hkn:=nk_small ho i w2
   have hsp:=setPut_length (nodeKeys (l.getD i z59).f0) x
   obtain ⟨K6,e6⟩:=spec_NodeKeys_ev (l.getD i z59).f0 hon
   obtain ⟨K7,e7⟩:=spec_SetPut_ev (nodeKeys (l.getD i z59).f0) x hkn
   obtain ⟨K8,e8⟩:=spec_Drop_ev (setPut (nodeKeys (l.getD i z59).f0) x) (by have:=nkAt_len l i;unfold nkAt at this;omega)
   have hkp:dropNone (setPut (nodeKeys (l.getD i z59).f0) x) = keysPut (l.getD i z59).f0 x:=rfl
   rw [hkp] at e8
   have p1:putS s l i x = [s.getD i 0,spotOf ((keysPut (l.getD i z59).f0 x).getD (((keysPut (l.getD i z59).f0 x).length + 1) / 2) z38).f0 ((keysPut (l.getD i z59).f0 x).getD (((keysPut (l.getD i z59).f0 x).length + 1) / 2) z38).f1]:=by unfold putS;rw [if_neg q]
   have p2:putL l i x = [(⟨nodeNew ((keysPut (l.getD i z59).f0 x).take (((keysPut (l.getD i z59).f0 x).length + 1) / 2))⟩:S59),(⟨nodeNew ((keysPut (l.getD i z59).f0 x).drop (((keysPut (l.getD i z59).f0 x).length + 1) / 2))⟩:S59)]:=by unfold putL;rw [if_neg q]
   rw [p1,p2] at e9
   rw [p1,p2]
   generalize keysPut (l.getD i z59).f0 x = ks at *
   obtain ⟨h',hh⟩:∃ h':Nat,(ks.length + 1) / 2 = h':=⟨_,rfl⟩
   obtain ⟨_,n1⟩:=evGet (spec_NodeNew_ev (ks.take h') (by rw [List.length_take];omega))
   obtain ⟨_,n2⟩:=evGet (spec_NodeNew_ev (ks.drop h') (by rw [List.length_drop];omega))
   have hw:=aA.mk (show wrap64 (Int.tdiv (wrap64 ((ks.length:Int) + 1)) 2) = (h':Int) from by rw [w64 (x:=(ks.length:Int) + 1) tD tD,Int.tdiv_eq_ediv_of_nonneg tD,w64 tD tD];omega)
   have hrk:rd_T38 ks (h':Int) = ks.getD h' z38:=by simp [rd_T38]
   rw [hh] at e9
   rw [hh]
   refine evSucc ⟨K1 + K2 + K3 + K4 + K5 + K6 + K7 + K8 + K9,2,fun k hk=>?_⟩
   have a1:=e1 (k + 2) tD
   have a2:=e2 (k + 2) tD
   have a3:=e3 (k + 2) tD
   have a4:=e4 (k + 1) tD
   have a5:=e5 (k + 1) tD
   have a6:=e6 (k + 1) tD
   have a7:=e7 (k + 1) tD
   have a8:=e8 (k + 1) tD
   have a9:=e9 (k + 1) tD
   simp only at a1 a2 a3 a4 a5 a6 a7 a8 a9 n1 n2
   have k3:keyOk5 x.f0 x.f1 x.f2 x.f3 x.f4 = true:=c2
   simp only [spec_TreePut.f,a1,a2,a3,k3,c1,Option.bind_some,if_true,Bool.not_true,spec_TreePut.j0,Bool.false_eq_true,if_false,a4,hrt,a5,hrd]
   rw [if_pos tD,if_pos tD,if_pos tD,spec_l6Set_f s [s.getD i 0] l _ i tD f2 tD te te]
   simp only [Option.bind_some]
   rw [if_neg q]
   rw [a6,Option.bind_some,a7,Option.bind_some,a8,Option.bind_some,hw.out,hrk,Int.toNat_natCast]
   rw [if_pos tD,if_pos tD]
   simp only [spec_l6Spot.f,spec_SpotOf.f,Option.bind_some]
   rw [if_pos tD,n1,n2]
   simp only [Option.bind_some]
   rw [spec_l6Set_f s _ l _ i tD f2 tD te te]
   exact a9
 ·have ha:treePut s l x = (s,l,false):=by unfold treePut;rw [if_neg c]
  rw [ha]
  refine evSucc ⟨K1 + K2 + K3,1,fun k hk=>?_⟩
  have a1:=e1 (k + 1) tD
  have a2:=e2 (k + 1) tD
  have a3:=e3 (k + 1) tD
  simp only at a1 a2 a3
  simp only [spec_TreePut.f,a1,a2,a3,Option.bind_some]
  by_cases c1:treeOkB s l = true
  ·have c2:keyOk5 x.f0 x.f1 x.f2 x.f3 x.f4 = false:=by
    cases h:keyOk5 x.f0 x.f1 x.f2 x.f3 x.f4 with
    | false=>rfl
    | true=>exact absurd ⟨c1,h⟩ c
   simp only [c1,if_true,c2,Bool.not_false,spec_TreePut.j0]
  ·rw [if_neg c1]
   simp only [spec_TreePut.j0,if_true]
theorem impl_TreePut_j1 (s s2:List Int) (l l2:List S59) (h:okIntS s) (hol:okNodeS l) (hs:s2.length = l2.length) (ho:okNodeS l2) (ho2:okIntS (treeJoin l2.length s2 l2).1):Ev (fun k=>impl_TreePut.j1 k s l s2 l2) (if treeOkB (treeJoin l2.length s2 l2).1 (treeJoin l2.length s2 l2).2 = true then ((treeJoin l2.length s2 l2).1,(treeJoin l2.length s2 l2).2,true) else (s,l,false)):=by
 have h1:=treeJoin_ok l2.length s2 l2 hs
 obtain ⟨K,e⟩:=impl_merged_ev s2 l2 hs ho
 obtain ⟨K2,e2⟩:=impl_TreeOk_ev (treeJoin l2.length s2 l2).1 (treeJoin l2.length s2 l2).2 ho2 (by unfold okNodeS at ho ⊢;omega)
 obtain ⟨K3,e3⟩:=impl_copyTree_ev s l h hol
 refine evSucc ⟨K + K2 + K3,1,fun k hk=>?_⟩
 have a:=e k tD
 have a2:=e2 k tD
 have a3:=e3 k tD
 simp only at a a2 a3
 simp only [impl_TreePut.j1,a,a2,a3,Option.bind_some]
 split <;> rfl
theorem setL_one (l:List S59) (i:Nat) (x:S59) (h:i < l.length):setL l i 1 [x] = l.set i x:=by
 unfold setL
 rw [List.set_eq_take_append_cons_drop,if_pos h,List.append_assoc]
 rfl
theorem setS_same (s:List Int) (i:Nat) (h:i < s.length):setS s i 1 [s.getD i 0] = s:=by
 unfold setS
 rw [← take_getD s i 0 h,List.take_append_drop]
theorem impl_TreePut_ev (s:List Int) (l:List S59) (x:S38) (h:okIntS s) (ho:okNodeS l):Ev (fun k=>impl_TreePut.f k s l x.f0 x.f1 x.f2 x.f3 x.f4) (treePut s l x):=by
 obtain ⟨K1,e1⟩:=impl_copyTree_ev s l h ho
 obtain ⟨K2,e2⟩:=impl_TreeOk_ev s l h ho
 obtain ⟨K3,e3⟩:=impl_KeyOk_ev x.f0 x.f1 x.f2 x.f3 x.f4
 by_cases c:treeOkB s l = true ∧ keyOkB x = true
 ·obtain ⟨c1,c2⟩:=c
  obtain ⟨f1,f2,f3,f4,-⟩:=treeOk_facts c1
  obtain ⟨w1,w2⟩:=whereAt_spec c1 c2
  obtain ⟨hb5,ho9,hi9,hl9⟩:=put_oks c1 c2
  obtain ⟨K4,e4⟩:=impl_WhereIn_ev s l x.f0 x.f1 h
  rw [w1] at e4
  clear w1
  have hon:=okNodeS_at ho (whereAt s x) w2
  obtain ⟨K5,e5⟩:=impl_NodePut_ev (l.getD (whereAt s x) z59).f0 x (Nat.le_trans hb5 tq)
  obtain ⟨K9,e9⟩:=impl_TreePut_j1 s (setS s (whereAt s x) 1 (putS s l (whereAt s x) x)) l (setL l (whereAt s x) 1 (putL l (whereAt s x) x)) h ho hl9 ho9 hi9
  clear hl9 ho9 hi9
  have ha:treePut s l x = (if treeOkB (putTree s l x).1 (putTree s l x).2 = true then ((putTree s l x).1,(putTree s l x).2,true) else (s,l,false)):=by unfold treePut;rw [if_pos ⟨c1,c2⟩]
  rw [ha]
  unfold putTree
  generalize hi:whereAt s x = i at *
  have hrd:rd s (i:Int) = s.getD i 0:=by simp [rd]
  have hrt:=rdT_nat l i
  -- what the call comes to, once the parts are known
  by_cases q:(nodePut (l.getD i z59).f0 x).2 = true
  ·obtain ⟨K6,e6⟩:=impl_NodeKeys_ev (nodePut (l.getD i z59).f0 x).1 (okKeySS_nodePut _ x (Nat.le_trans hb5 tq))
   refine evSucc ⟨K1 + K2 + K3 + K4 + K5 + K6 + K9,2,fun k hk=>?_⟩
   have a1:=e1 (k + 1) tD
   have a2:=e2 (k + 2) tD
   have a3:=e3 (k + 2) tD
   have a4:=e4 (k + 1) tD
   have a5:=e5 (k + 1) tD
   have a6:=e6 (k + 1) tD
   have a9:=e9 (k + 1) tD
   simp only at a1 a2 a3 a4 a5 a6 a9
   have k3:keyOk5 x.f0 x.f1 x.f2 x.f3 x.f4 = true:=c2
   simp only [impl_TreePut.f,a1,a2,a3,k3,c1,Option.bind_some,if_true,Bool.not_true,impl_TreePut.j0,Bool.false_eq_true,if_false,a4,hrt,a5]
   rw [if_pos tD,if_pos tD,if_pos q]
   by_cases q2:0 < i ∧ (nodeKeys (nodePut (l.getD i z59).f0 x).1).length = 0
   ·rw [if_pos tD,a6]
    simp only [Option.bind_some]
    rw [if_pos tD,show impl_replaced.f s l (i:Int) 1 [] [] = some (setS s i 1 [],setL l i 1 []) from impl_replaced_f s [] l [] i 1 tD f2 tD te te]
    simp only [Option.bind_some]
    have p1:putS s l i x = []:=by unfold putS;rw [if_pos q,if_pos q2]
    have p2:putL l i x = []:=by unfold putL;rw [if_pos q,if_pos q2]
    rw [p1,p2] at a9
    rw [p1,p2]
    exact a9
   ·have p1:putS s l i x = [s.getD i 0]:=by unfold putS;rw [if_pos q,if_neg q2]
    have p2:putL l i x = [(⟨(nodePut (l.getD i z59).f0 x).1⟩:S59)]:=by unfold putL;rw [if_pos q,if_neg q2]
    rw [p1,p2,setS_same s i tD,setL_one l i _ w2] at a9
    rw [p1,p2,setS_same s i tD,setL_one l i _ w2]
    by_cases q3:0 < i
    ·rw [if_pos tD,a6]
     simp only [Option.bind_some,Int.toNat_natCast]
     rw [if_neg tD]
     exact a9
    ·rw [if_neg tD]
     simp only [Int.toNat_natCast]
     exact a9
  ·have q':(nodePut (l.getD i z59).f0 x).2 = false:=by simpa using q
   have hm:=keysPut_many (fits_parts (f4 i w2).2).1 c2 q'
   have hkl:=keysPut_length (l.getD i z59).f0 x
   have hkn:=nk_small ho i w2
   obtain ⟨K6,e6⟩:=impl_keysWith_ev (l.getD i z59).f0 x (Nat.le_trans hb5 tq)
   have p1:putS s l i x = [s.getD i 0,spotOf ((keysPut (l.getD i z59).f0 x).getD (((keysPut (l.getD i z59).f0 x).length + 1) / 2) z38).f0 ((keysPut (l.getD i z59).f0 x).getD (((keysPut (l.getD i z59).f0 x).length + 1) / 2) z38).f1]:=by unfold putS;rw [if_neg q]
   have p2:putL l i x = [(⟨nodeNew ((keysPut (l.getD i z59).f0 x).take (((keysPut (l.getD i z59).f0 x).length + 1) / 2))⟩:S59),(⟨nodeNew ((keysPut (l.getD i z59).f0 x).drop (((keysPut (l.getD i z59).f0 x).length + 1) / 2))⟩:S59)]:=by unfold putL;rw [if_neg q]
   rw [p1,p2] at e9
   rw [p1,p2]
   generalize keysPut (l.getD i z59).f0 x = ks at *
   obtain ⟨h',hh⟩:∃ h':Nat,(ks.length + 1) / 2 = h':=⟨_,rfl⟩
   obtain ⟨_,n1⟩:=evGet (impl_NodeNew_ev (ks.take h') (by rw [List.length_take];omega))
   obtain ⟨_,n2⟩:=evGet (impl_NodeNew_ev (ks.drop h') (by rw [List.length_drop];omega))
   have hw:=aA.mk (show wrap64 (Int.tdiv (wrap64 ((ks.length:Int) + 1)) 2) = (h':Int) from by rw [w64 (x:=(ks.length:Int) + 1) tD tD,Int.tdiv_eq_ediv_of_nonneg tD,w64 tD tD];omega)
   have hrk:rd_T38 ks (h':Int) = ks.getD h' z38:=by simp [rd_T38]
   rw [hh] at e9
   rw [hh]
   refine evSucc ⟨K1 + K2 + K3 + K4 + K5 + K6 + K9,2,fun k hk=>?_⟩
   have a1:=e1 (k + 1) tD
   have a2:=e2 (k + 2) tD
   have a3:=e3 (k + 2) tD
   have a4:=e4 (k + 1) tD
   have a5:=e5 (k + 1) tD
   have a6:=e6 (k + 1) tD
   have a9:=e9 (k + 1) tD
   simp only at a1 a2 a3 a4 a5 a6 a9 n1 n2
   have k3:keyOk5 x.f0 x.f1 x.f2 x.f3 x.f4 = true:=c2
   simp only [impl_TreePut.f,a1,a2,a3,k3,c1,Option.bind_some,if_true,Bool.not_true,impl_TreePut.j0,Bool.false_eq_true,if_false,a4,hrt,a5]
   rw [if_pos tD,if_pos tD,if_neg q]
   rw [a6,Option.bind_some,hw.out,hrk,hrd,Int.toNat_natCast]
   rw [if_pos tD,if_pos tD,if_pos tD,if_pos tD]
   simp only [impl_SpotOf.f,Option.bind_some]
   rw [n1,n2]
   simp only [Option.bind_some]
   have e8:=impl_replaced_f s [s.getD i 0,spotOf (ks.getD h' z38).f0 (ks.getD h' z38).f1] l [(⟨nodeNew (ks.take h')⟩:S59),(⟨nodeNew (ks.drop h')⟩:S59)] i 1 tD f2 tD te te
   rw [show impl_replaced.f s l (i:Int) 1 [s.getD i 0,wrap64 (wrap64 (64 * (ks.getD h' z38).f0) + (ks.getD h' z38).f1)] [(⟨nodeNew (ks.take h')⟩:S59),(⟨nodeNew (ks.drop h')⟩:S59)] = _ from e8]
   simp only [Option.bind_some]
   exact a9
 ·have ha:treePut s l x = (s,l,false):=by unfold treePut;rw [if_neg c]
  rw [ha]
  refine evSucc ⟨K1 + K2 + K3,1,fun k hk=>?_⟩
  have a1:=e1 k tD
  have a2:=e2 (k + 1) tD
  have a3:=e3 (k + 1) tD
  simp only at a1 a2 a3
  simp only [impl_TreePut.f,a2,a3,Option.bind_some]
  by_cases c1:treeOkB s l = true
  ·have c2:keyOk5 x.f0 x.f1 x.f2 x.f3 x.f4 = false:=by
    cases h:keyOk5 x.f0 x.f1 x.f2 x.f3 x.f4 with
    | false=>rfl
    | true=>exact absurd ⟨c1,h⟩ c
   simp only [c1,if_true,c2,Bool.not_false,impl_TreePut.j0,a1,Option.bind_some]
  ·rw [if_neg c1]
   simp only [impl_TreePut.j0,if_true,a1,Option.bind_some]
theorem treePut_oks {s:List Int} {l:List S59} (x:S38) (h:okIntS s) (ho:okNodeS l):okIntS (treePut s l x).1 ∧ okNodeS (treePut s l x).2.1:=by
 unfold treePut
 split
 ·rename_i c
  split
  ·rename_i c3
   obtain ⟨g1,g2,-,-,-⟩:=treeOk_facts c3
   have g3:=treeOk_bulk c3
   constructor
   ·show (putTree s l x).1.length ≤ _
    omega
   ·show bulkNodeS (putTree s l x).2 ≤ _
    omega
  ·exact ⟨h,ho⟩
 ·exact ⟨h,ho⟩
end Go.Proofs.Ytamjbjkbineafaa.Pure

namespace Go.Proofs.Ytamjbjkbineafaa.Ev
open Go Go.RowKit
set_option linter.unusedVariables false
set_option linter.unusedSimpArgs false
def tsz:Nat → Nat
 | 29=>2
 | 38=>5
 | _=>1
def tagg:Nat → Bool
 | 29=>true
 | 38=>true
 | 59=>true
 | _=>false
def known:Nat → Bool
 | 3=>true
 | 22=>true
 | 27=>true
 | 29=>true
 | 38=>true
 | 45=>true
 | 57=>true
 | 59=>true
 | _=>false
def elem?:Nat → Option Nat
 | 22=>some 3
 | 27=>some 59
 | 45=>some 38
 | 57=>some 45
 | _=>none
def tby:Nat → Nat
 | 3=>8
 | 38=>40
 | _=>24
def nilV:Value:=.slice none 0 0
def zeroC:Nat → List Value
 | 29=>[nilV,nilV]
 | 38=>[.int .i64 0,.int .i64 0,.int .i64 0,.int .i64 0,.int .i64 0]
 | 3=>[.int .i64 0]
 | _=>[nilV]
/-- What does not turn: a number, or a row (label, element's type, elements by cells). -/
inductive FV where
 | lit (v:Value)
 | row (l t:Nat) (es:List (List FV))
/-- A cell of a variable: what does not turn, or row number p, of length n when it was looked at. -/
inductive CV where
 | fv (x:FV)
 | own (p n:Nat)
inductive Sh where
 | one|agg|pr
 deriving DecidableEq
inductive AV where
 | any
 | v (sh:Sh) (cs:List CV)
 | addr (d off:Nat)
 | elt (e:List FV) (off:Nat)
 | eltO (p n i off:Nat)
structure Row where
 l:Nat
 t:Nat
 es:List (List FV)
 fz:Bool
structure Box where
 t:Nat
 cs:List CV
structure AS where
 tm:Nat → AV
 mem:Nat → Option Box
 rows:Nat → Option Row
structure PV where
 sh:Sh
 cs:List FV
inductive RC where
 | fv (x:FV)
 | own (l t:Nat) (es:List (List FV))
structure RV where
 sh:Sh
 cs:List RC
def upd {α:Type} (f:Nat → α) (i:Nat) (x:α):Nat → α:=fun j=>if j = i then x else f j
theorem upd_at {α:Type} (f:Nat → α) (i:Nat) (x:α) (j:Nat):upd f i x j = if j = i then x else f j:=rfl
theorem upd_same {α:Type} (f:Nat → α) (i:Nat) (x:α):upd f i x i = x:=by simp [upd]
theorem upd_ne {α:Type} {f:Nat → α} {i j:Nat} {x:α} (h:j ≠ i):upd f i x j = f j:=by simp [upd,h]
inductive Loc where
 | tm (i:Nat)
 | mem (d:Nat)
 | row (p:Nat)
 deriving DecidableEq
inductive W where
 | tm (i:Nat) (a:AV)
 | mem (d:Nat) (b:Option Box)
 | row (p:Nat) (r:Option Row)
def W.loc:W → Loc
 | .tm i _=>.tm i
 | .mem d _=>.mem d
 | .row p _=>.row p
def AS.put (s:AS):W → AS
 | .tm i a=>{ s with tm:=upd s.tm i a }
 | .mem d b=>{ s with mem:=upd s.mem d b }
 | .row p r=>{ s with rows:=upd s.rows p r }
def AS.app (s:AS):List W → AS
 | []=>s
 | x :: xs=>(s.put x).app xs
inductive M (α:Type) where
 | ret (a:α)
 | fail
 | tm (i:Nat) (k:AV → M α)
 | mem (d:Nat) (k:Option Box → M α)
 | row (p:Nat) (k:Option Row → M α)
def M.run {α:Type}:M α → AS → Option α
 | .ret a,_=>some a
 | .fail,_=>none
 | .tm i k,s=>(k (s.tm i)).run s
 | .mem d k,s=>(k (s.mem d)).run s
 | .row p k,s=>(k (s.rows p)).run s
def M.rds {α:Type}:M α → AS → List Loc
 | .ret _,_=>[]
 | .fail,_=>[]
 | .tm i k,s=>.tm i :: (k (s.tm i)).rds s
 | .mem d k,s=>.mem d :: (k (s.mem d)).rds s
 | .row p k,s=>.row p :: (k (s.rows p)).rds s
inductive Out where
 | done (ws:List W) (k:Nat)
 | call (f:Nat) (args:List PV) (g:RV → List W)
def litOk:Value → Bool
 | .bool _=>true
 | .int _ _=>true
 | .slice none 0 0=>true
 | _=>false
def litA (v:Value):AV:=.v .one [.fv (.lit v)]
def constA (v:Value):AV:=if litOk v then litA v else .any
section
variable {α:Type}
def evO (x:Operand) (k:AV → M α):M α :=
 match x with
 | .tmp t=>.tm t k
 | .const v=>k (constA v)
 | _=>k .any
def ownsP (p:Nat):CV → Bool
 | .own q _=>q == p
 | _=>false
def rowO (p n:Nat) (k:Row → M α):M α:=.row p fun r=>match r with
 | some r=>if n = r.es.length then k r else .fail
 | none=>.fail
def fzW (p:Nat) (r:Row):List W:=if r.fz then [] else [.row p (some { r with fz:=true })]
def fzC (c:CV) (k:FV → List W → M α):M α :=
 match c with
 | .fv x=>k x []
 | .own p n=>rowO p n fun r=>k (.row r.l r.t r.es) (fzW p r)
def fzL:List CV → (List FV → List W → M α) → M α
 | [],k=>k [] []
 | c :: cs,k=>fzC c fun x ws=>fzL cs fun xs ws'=>k (x :: xs) (ws ++ ws')
def cellsA (a:AV) (k:List CV → M α):M α :=
 match a with
 | .v .one cs=>k cs
 | .v .agg cs=>k cs
 | _=>.fail
def argsL:List Operand → (List PV → List W → M α) → M α
 | [],k=>k [] []
 | x :: xs,k=>evO x fun a=>match a with
  | .v .one cs=>fzL cs fun fs ws=>argsL xs fun ps ws'=>k (⟨.one,fs⟩ :: ps) (ws ++ ws')
  | .v .agg cs=>fzL cs fun fs ws=>argsL xs fun ps ws'=>k (⟨.agg,fs⟩ :: ps) (ws ++ ws')
  | _=>.fail
def partsL (n:Nat):List (Nat × Operand) → (List (List FV) → List W → M α) → M α
 | [],k=>k [] []
 | (_,x) :: xs,k=>evO x fun a=>cellsA a fun cs=>if cs.length = n then fzL cs fun fs ws=>partsL n xs fun es ws'=>k (fs :: es) (ws ++ ws') else .fail
def fillL:List (Nat × Operand) → List CV → (List CV → M α) → M α
 | [],cs,k=>k cs
 | (i,x) :: xs,cs,k=>evO x fun a=>match a with
  | .v .one [c]=>if i < cs.length then fillL xs (cs.set i c) k else .fail
  | _=>.fail
def intA (a:AV) (k:Int → M α):M α :=
 match a with
 | .v .one [.fv (.lit (.int .i64 n))]=>k n
 | _=>.fail
def boolA (a:AV) (k:Bool → M α):M α :=
 match a with
 | .v .one [.fv (.lit (.bool b))]=>k b
 | _=>.fail
/-- What a guard says; nothing, where its own operation was left out. -/
def guardA (a:AV) (k:Option Bool → M α):M α :=
 match a with
 | .v .one [.fv (.lit (.bool b))]=>k (some b)
 | .v .pr []=>k none
 | _=>.fail
/-- A row that is read: its element's type and elements. -/
def readA (a:AV) (k:Nat → List (List FV) → M α):M α :=
 match a with
 | .v .one [.fv (.row _ t es)]=>k t es
 | .v .one [.own p n]=>rowO p n fun r=>k r.t r.es
 | _=>.fail
end
def binV (op:BinOp) (a b:Int):Option Value :=
 match op with
 | .add=>some (.int .i64 (IntKind.i64.wrap (a + b)))
 | .sub=>some (.int .i64 (IntKind.i64.wrap (a - b)))
 | .mul=>some (.int .i64 (IntKind.i64.wrap (a * b)))
 | .quo=>if b = 0 then none else some (.int .i64 (IntKind.i64.wrap (a.tdiv b)))
 | .eql=>some (.bool (a == b))
 | .neq=>some (.bool (a != b))
 | .lss=>some (.bool (a < b))
 | .leq=>some (.bool (a ≤ b))
 | .gtr=>some (.bool (a > b))
 | .geq=>some (.bool (a ≥ b))
 | _=>none
def loadV (t:Nat) (cs:List CV) (k:AV → M Out):M Out :=
 if cs.length = tsz t then k (.v (if tagg t then .agg else .one) cs) else .fail
def importC (d:Nat):Nat → List RC → List CV
 | _,[]=>[]
 | j,.fv x :: cs=>.fv x :: importC d (j + 1) cs
 | j,.own l t es :: cs=>(if j < 2 then .own (1000 * (j + 1) + d) es.length else .fv (.row l t es)) :: importC d (j + 1) cs
def importW (d:Nat):Nat → List RC → List W
 | _,[]=>[]
 | j,.fv _ :: cs=>importW d (j + 1) cs
 | j,.own l t es :: cs=>(if j < 2 then [.row (1000 * (j + 1) + d) (some ⟨l,t,es,false⟩)] else []) ++ importW d (j + 1) cs
def importR (d:Nat) (r:RV):List W:=importW d 0 r.cs ++ [.tm d (.v r.sh (importC d 0 r.cs))]
/-- Labels are told from 1 on; 0: none is told. -/
def nx (k:Nat):Nat:=if k = 0 then 0 else k + 1
def Kok (k k':Nat):Prop:=k ≤ k' ∧ (k = 0 → k' = 0)
def isNone {α:Type}:Option α → Bool
 | none=>true
 | some _=>false
def semD (op:Op) (d:Nat) (k:Nat):M Out :=
 match op with
 | .move x=>evO x fun a=>.ret (.done [.tm d a] k)
 | .assign x=>evO x fun a=>.ret (.done [.tm d a] k)
 | .pick c a b=>evO c fun c=>boolA c fun c=>evO a fun a=>evO b fun b=>.ret (.done [.tm d (if c then a else b)] k)
 | .unOp .not _ x=>evO x fun a=>boolA a fun b=>.ret (.done [.tm d (litA (.bool !b))] k)
 | .binOp op _ x y _=>evO x fun a=>intA a fun a=>evO y fun b=>intA b fun b=>match binV op a b with
  | some v=>.ret (.done [.tm d (litA v)] k)
  | none=>.fail
 | .extract x i=>evO x fun a=>match a with
  | .v .pr (c0 :: cs)=>match i with
   | 0=>.ret (.done [.tm d (.v .agg (c0 :: cs).dropLast)] k)
   | 1=>match (c0 :: cs).getLast? with
    | some c=>.ret (.done [.tm d (.v .one [c])] k)
    | none=>.fail
   | _=>.fail
  | _=>.fail
 | .alloc t=>if known t then .mem d fun b=>if isNone b then .ret (.done [.mem d (some ⟨t,(zeroC t).map fun v=>.fv (.lit v)⟩),.tm d (.addr d 0)] k) else .fail else .fail
 | .box t x=>evO x fun a=>cellsA a fun cs=>if cs.length = tsz t then .mem d fun b=>if isNone b then .ret (.done [.mem d (some ⟨t,cs⟩),.tm d (.addr d 0)] k) else .fail else .fail
 | .build t ps=>if tagg t then fillL ps.toList ((zeroC t).map fun v=>.fv (.lit v)) fun cs=>.ret (.done [.tm d (.v .agg cs)] k) else .fail
 | .buildSlice t n ps=>match elem? t with
  | some e=>if ps.toList.map (·.1) = List.range n ∧ n ≤ 1000 then partsL (tsz e) ps.toList fun es ws=>.row d fun r=>if isNone r then .ret (.done (ws ++ [.row d (some ⟨k,e,es,false⟩),.tm d (.v .one [.own d es.length])]) (nx k)) else .fail else .fail
  | none=>.fail
 | .load t x=>if known t then evO x fun a=>match a with
  | .addr b off=>.mem b fun b=>match b with
   | some b=>loadV t ((b.cs.drop off).take (tsz t)) fun a=>.ret (.done [.tm d a] k)
   | none=>.fail
  | .elt e off=>loadV t (((e.drop off).take (tsz t)).map .fv) fun a=>.ret (.done [.tm d a] k)
  | .eltO p n i off=>rowO p n fun r=>match r.es[i]? with
   | some e=>loadV t (((e.drop off).take (tsz t)).map .fv) fun a=>.ret (.done [.tm d a] k)
   | none=>.fail
  | _=>.fail else .fail
 | .fieldAddr t x f=>if tagg t && decide (f < tsz t) then evO x fun a=>match a with
  | .addr b off=>.ret (.done [.tm d (.addr b (off + f))] k)
  | .elt e off=>.ret (.done [.tm d (.elt e (off + f))] k)
  | .eltO p n i off=>rowO p n fun _=>.ret (.done [.tm d (.eltO p n i (off + f))] k)
  | _=>.fail else .fail
 | .indexAddr t x i=>match elem? t with
  | some e=>evO x fun a=>evO i fun i=>intA i fun i=>match a with
   | .v .one [.fv (.row _ t es)]=>if t = e then if 0 ≤ i then match es[i.toNat]? with
    | some el=>.ret (.done [.tm d (.elt el 0)] k)
    | none=>.fail else .fail else .fail
   | .v .one [.own p n]=>rowO p n fun r=>if r.t = e then if 0 ≤ i ∧ i < n then .ret (.done [.tm d (.eltO p n i.toNat 0)] k) else .fail else .fail
   | _=>.fail
  | none=>.fail
 | .slice t x lo hi mx=>match elem? t,mx with
  | some e,none=>evO x fun a=>match a with
   | .v .one [c]=>fzC c fun c ws=>match c with
    | .row _ t es=>if t = e then match lo,hi with
     | none,some h=>evO h fun h=>intA h fun h=>if 0 ≤ h ∧ h ≤ es.length then .ret (.done (ws ++ [.tm d (.v .one [.fv (.row 0 e (es.take h.toNat))])]) k) else .fail
     | some l,none=>evO l fun l=>intA l fun l=>if 0 ≤ l ∧ l ≤ es.length then .ret (.done (ws ++ [.tm d (.v .one [.fv (.row 0 e (es.drop l.toNat))])]) k) else .fail
     | _,_=>.fail
     else .fail
    | _=>.fail
   | _=>.fail
  | _,_=>.fail
 | .call c=>match c.callee with
  | .builtin .len=>match c.args.toList,c.argTypes.toList with
   | [x],[t]=>if isNone (elem? t) then .fail else evO x fun a=>match a with
    | .v .one [.fv (.row _ _ es)]=>.ret (.done [.tm d (litA (.int .i64 es.length))] k)
    | .v .one [.own p n]=>rowO p n fun r=>.ret (.done [.tm d (litA (.int .i64 r.es.length))] k)
    | .v .one [.fv (.lit (.slice none 0 0))]=>.ret (.done [.tm d (litA (.int .i64 0))] k)
    | _=>.fail
   | _,_=>.fail
  | .builtin .append=>match c.args.toList,c.argTypes.toList with
   | [s,x],[t,t']=>match elem? t with
    | some e=>if t = t' then evO s fun s=>evO x fun x=>readA x fun xt xs=>if xt = e then match s with
     | .v .one [.fv (.lit (.slice none 0 0))]=>if xs.length * tby e ≤ 140737488355328 then .row d fun r=>if isNone r then .ret (.done [.row d (some ⟨k,e,xs,false⟩),.tm d (.v .one [.own d xs.length])] (nx k)) else .fail else .fail
     | .v .one [.own p n]=>rowO p n fun r=>if r.fz then .fail else if r.t = e then if (r.es.length + xs.length) * tby e ≤ 140737488355328 then .ret (.done [.row p (some ⟨r.l,e,r.es ++ xs,false⟩),.tm d (.v .one [.own p (r.es ++ xs).length])] k) else .fail else .fail
     | _=>.fail
     else .fail else .fail
    | none=>.fail
   | _,_=>.fail
  | .value (.func f)=>.row (1000 + d) fun r1=>.row (2000 + d) fun r2=>if isNone r1 && isNone r2 then argsL c.args.toList fun ps ws=>.ret (.call f ps fun r=>ws ++ importR d r) else .fail
  | _=>.fail
 | _=>.fail
def semS (op:Op) (k:Nat):M Out :=
 match op with
 | .store t x y=>if known t then evO x fun a=>evO y fun b=>cellsA b fun cs=>if cs.length = tsz t then match a with
  | .addr d off=>.mem d fun b=>match b with
   | some b=>if off + cs.length ≤ b.cs.length then .ret (.done [.mem d (some ⟨b.t,b.cs.take off ++ cs ++ b.cs.drop (off + cs.length)⟩)] k) else .fail
   | none=>.fail
  | .eltO p n i 0=>if cs.any (ownsP p) then .fail else fzL cs fun fs ws=>rowO p n fun r=>if r.fz then .fail else if r.t = t then if i < r.es.length then .ret (.done (ws ++ [.row p (some ⟨r.l,r.t,r.es.set i fs,false⟩)]) k) else .fail else .fail
  | _=>.fail else .fail else .fail
 | _=>.fail
def sem0 (o:Oper) (k:Nat):M Out :=
 match o.dst with
 | some d=>semD o.op d k
 | none=>semS o.op k
def dropW (o:Oper):List W :=
 match o.dst with
 | some d=>[.tm d (.v .pr [])]
 | none=>[]
def sem (ops:Array Oper) (o:Oper) (k:Nat):M Out :=
 match o.guard with
 | none=>sem0 o k
 | some (j,want)=>match (ops[j]?).bind (·.dst) with
  | none=>.fail
  | some t=>.tm t fun v=>guardA v fun b=>if b = some want then sem0 o k else .ret (.done (dropW o) k)
def asm:Sh → List Value → Value
 | .one,vs=>vs.headD undef
 | .agg,vs=>.agg vs.toArray
 | .pr,[]=>undef
 | .pr,v :: vs=>.tuple #[.agg (v :: vs).dropLast.toArray,(v :: vs).getLastD undef]
inductive Rep (own:Nat → Nat) (ro:Nat → Prop) (w:World):FV → Value → Prop
 | lit (v:Value) (h:litOk v = true):Rep own ro w (.lit v) v
 | row (l t:Nat) (es:List (List FV)) (A:Option Addr) (cap:Nat) (cv:Nat → Nat → Value)
   (hcap:es.length ≤ cap) (hmax:es.length ≤ 9223372036854775807)
   (hlen:∀ (i:Nat) e,es[i]? = some e → e.length = tsz t)
   (hcell:∀ (i:Nat) e,es[i]? = some e → ∃ ad,A = some ad ∧ ro ad.block ∧ ∀ (j:Nat) x,e[j]? = some x → w.cell? (ad.add (i * tsz t + j)) = some (cv i j))
   (hrep:∀ (i:Nat) e,es[i]? = some e → ∀ (j:Nat) x,e[j]? = some x → Rep own ro w x (cv i j))
   (hown:l ≠ 0 → ∃ xs,w.ownsRow 0 t (tsz t) (.slice A es.length cap) es.length xs ∧ ∀ ad,A = some ad → own ad.block = l ∧ ro ad.block) :
   Rep own ro w (.row l t es) (.slice A es.length cap)
inductive All2 {α β:Type} (R:α → β → Prop):List α → List β → Prop
 | nil:All2 R [] []
 | cons {a:α} {b:β} {xs:List α} {ys:List β} (h:R a b) (t:All2 R xs ys):All2 R (a :: xs) (b :: ys)
def RepPV (own:Nat → Nat) (ro:Nat → Prop) (w:World) (a:PV) (v:Value):Prop:=∃ vs,v = asm a.sh vs ∧ All2 (Rep own ro w) a.cs vs
/-- The cells of a row that is one's own. -/
def Flat (R:FV → Value → Prop) (t:Nat) (es:List (List FV)) (xs:List Value):Prop :=
 (∀ (i:Nat) e,es[i]? = some e → e.length = tsz t) ∧ ∀ (i:Nat) e,es[i]? = some e → ∀ (j:Nat) x,e[j]? = some x → ∃ u,xs[i * tsz t + j]? = some u ∧ R x u
/-- A result's cell number i; tg tells the blocks of the rows that are handed over. -/
def RepRC (own:Nat → Nat) (ro:Nat → Prop) (w:World) (base:Nat) (tg:Nat → Nat) (i:Nat) (c:RC) (v:Value):Prop :=
 match c with
 | .fv x=>Rep own (fun b=>(ro b ∨ (base ≤ b ∧ b < w.heap.size)) ∧ tg b = 0) w x v
 | .own l t es=>∃ xs,w.ownsRow base t (tsz t) v es.length xs ∧ Flat (Rep own (fun b=>(ro b ∨ (base ≤ b ∧ b < w.heap.size)) ∧ tg b = 0) w) t es xs ∧ ∀ b,v.ownBlock = some b → own b = l ∧ tg b = i + 1
def RepRV (own:Nat → Nat) (ro:Nat → Prop) (w:World) (base:Nat) (tg:Nat → Nat) (r:RV) (v:Value):Prop :=
 ∃ vs,v = asm r.sh vs ∧ vs.length = r.cs.length ∧ ∀ (i:Nat) c u,r.cs[i]? = some c → vs[i]? = some u → RepRC own ro w base tg i c u
def Callable (f : Nat) : Prop := ∃ fn, Try.prog.funcs[f]? = some fn ∧ (fn.name == "runtime.NumGoroutine") = false ∧ fn.body.isNone = false
/-- Function f, handed these lists, comes back with r; its new blocks bear labels from k to k'. -/
def SemCall (f:Nat) (args:List PV) (k:Nat) (r:RV) (k':Nat):Prop :=
 Kok k k' ∧ Callable f ∧ (r.sh = .one → r.cs.length = 1) ∧ (r.sh = .pr → r.cs ≠ []) ∧ (∀ l t es,RC.own l t es ∈ r.cs → l = 0 ∨ (k ≤ l ∧ l < k')) ∧ ∀ (own:Nat → Nat) (ro:Nat → Prop) (w:World) (vs:List Value),
  (∀ b,b < w.heap.size → ¬ (k ≤ own b ∧ own b < k')) → (∀ b,ro b → b < w.heap.size) → All2 (RepPV own ro w) args vs →
  Calls Try.prog f vs.toArray w fun e w'=>∃ v own' tg,e = .returned v ∧ (∀ b,b < w.heap.size → own' b = own b) ∧
   (∀ b,w.heap.size ≤ b → b < w'.heap.size → own' b = 0 ∨ (k ≤ own' b ∧ own' b < k')) ∧
   (∀ b,b < w.heap.size → tg b = 0) ∧ RepRV own' ro w' w.heap.size tg r v ∧ Below w.heap.size w w'
def isCall (o:Oper):Bool :=
 match o.op,o.dst with
 | .call _,some _=>true
 | _,_=>false
inductive Step1 (ops:Array Oper) (o:Oper) (k:Nat) (s:AS):Nat → AS → List Loc → List Loc → Prop
 | done {ws:List W} {k':Nat} (hk:Kok k k') (h:(sem ops o k).run s = some (.done ws k')):Step1 ops o k s k' (s.app ws) ((sem ops o k).rds s) (ws.map W.loc)
 | call {f:Nat} {args:List PV} {g:RV → List W} {r:RV} {k':Nat} (hop:isCall o = true) (h:(sem ops o k).run s = some (.call f args g)) (hc:SemCall f args k r k') :
   Step1 ops o k s k' (s.app (g r)) ((sem ops o k).rds s) ((g r).map W.loc)
structure It where
 i:Nat
 k:Nat
 k':Nat
 rd:List Loc
 wr:List Loc
inductive RunL (ops:Array Oper):List It → AS → AS → Prop
 | nil (s:AS):RunL ops [] s s
 | cons {it:It} {o:Oper} {L:List It} {s s1 s2:AS} (ho:ops[it.i]? = some o) (h:Step1 ops o it.k s it.k' s1 it.rd it.wr) (t:RunL ops L s1 s2):RunL ops (it :: L) s s2
end Go.Proofs.Ytamjbjkbineafaa.Ev

namespace Go.Proofs.Ytamjbjkbineafaa.Ev
open Go Go.RowKit
set_option linter.unusedVariables false
set_option linter.unusedSimpArgs false
def Agree (s t:AS):Loc → Prop
 | .tm i=>s.tm i = t.tm i
 | .mem d=>s.mem d = t.mem d
 | .row p=>s.rows p = t.rows p
theorem M.local_ {α:Type} (m:M α) (s t:AS) (h:∀ l ∈ m.rds s,Agree s t l):m.run t = m.run s ∧ m.rds t = m.rds s:=by
 induction m with
 | ret a=>exact ⟨rfl,rfl⟩
 | fail=>exact ⟨rfl,rfl⟩
 | tm i k ih =>
  have h0:s.tm i = t.tm i:=h (.tm i) (by simp [M.rds])
  have:=ih (s.tm i) (fun l hl=>h l (by simp [M.rds,hl]))
  simp only [M.run,M.rds,← h0,this,and_self]
 | mem i k ih =>
  have h0:s.mem i = t.mem i:=h (.mem i) (by simp [M.rds])
  have:=ih (s.mem i) (fun l hl=>h l (by simp [M.rds,hl]))
  simp only [M.run,M.rds,← h0,this,and_self]
 | row i k ih =>
  have h0:s.rows i = t.rows i:=h (.row i) (by simp [M.rds])
  have:=ih (s.rows i) (fun l hl=>h l (by simp [M.rds,hl]))
  simp only [M.run,M.rds,← h0,this,and_self]
theorem Agree.symm {s t:AS} {l:Loc} (h:Agree s t l):Agree t s l:=by cases l <;> exact Eq.symm h
theorem Agree.trans {s t u:AS} {l:Loc} (h:Agree s t l) (k:Agree t u l):Agree s u l:=by cases l <;> exact Eq.trans h k
theorem put_agree (s:AS) (x:W) (l:Loc) (h:x.loc ≠ l):Agree s (s.put x) l:=by
 cases x <;> cases l <;> simp only [Agree,AS.put,W.loc,ne_eq,Loc.tm.injEq,Loc.mem.injEq,Loc.row.injEq] at h ⊢
 all_goals exact (upd_ne (fun e=>h e.symm)).symm
theorem app_agree (ws:List W):∀ (s:AS) (l:Loc),l ∉ ws.map W.loc → Agree s (s.app ws) l:=by
 induction ws with
 | nil=>intro s l _;cases l <;> rfl
 | cons x xs ih =>
  intro s l h
  simp only [List.map_cons,List.mem_cons,not_or] at h
  exact (put_agree s x l (fun e=>h.1 e.symm)).trans (ih _ l h.2)
theorem upd_comm {α:Type} (f:Nat → α) {i j:Nat} (x y:α) (h:i ≠ j):upd (upd f i x) j y = upd (upd f j y) i x:=by
 funext q
 simp only [upd]
 by_cases h1:q = j <;> by_cases h2:q = i <;> simp [h1,h2] <;> omega
theorem put_comm_ (s:AS) (x y:W) (h:x.loc ≠ y.loc):(s.put x).put y = (s.put y).put x:=by
 cases x <;> cases y <;> simp only [AS.put,W.loc,ne_eq,Loc.tm.injEq,Loc.mem.injEq,Loc.row.injEq] at h ⊢
 all_goals first|rfl|(rw [upd_comm _ _ _ h])
theorem app_put (ws:List W):∀ (s:AS) (x:W),x.loc ∉ ws.map W.loc → (s.put x).app ws = (s.app ws).put x:=by
 induction ws with
 | nil=>intro s x _;rfl
 | cons y ys ih =>
  intro s x h
  simp only [List.map_cons,List.mem_cons,not_or] at h
  simp only [AS.app]
  rw [put_comm_ s x y h.1,ih _ x h.2]
theorem app_comm (vs ws:List W):∀ (s:AS),(∀ l ∈ vs.map W.loc,l ∉ ws.map W.loc) → (s.app vs).app ws = (s.app ws).app vs:=by
 induction vs with
 | nil=>intro s _;rfl
 | cons x xs ih =>
  intro s h
  simp only [AS.app]
  rw [ih _ (fun l hl=>h l (by simp only [List.map_cons,List.mem_cons];exact .inr hl)),app_put ws s x (h x.loc te)]
def Free (rx wx ry wy:List Loc):Prop:=(∀ l ∈ wx,l ∉ ry ∧ l ∉ wy) ∧ ∀ l ∈ wy,l ∉ rx
theorem Step1.writes {ops:Array Oper} {o:Oper} {k k':Nat} {s s':AS} {rd wr:List Loc} (h:Step1 ops o k s k' s' rd wr) :
  ∃ ws:List W,s' = s.app ws ∧ wr = ws.map W.loc ∧ ∀ t,(∀ l ∈ rd,Agree s t l) → Step1 ops o k t k' (t.app ws) rd wr:=by
 cases h with
 | done hk h =>
  refine ⟨_,rfl,rfl,fun t ht=>?_⟩
  have:=M.local_ (sem ops o k) s t ht
  have h2:=Step1.done (s:=t) hk (this.1.trans h)
  rw [this.2] at h2
  exact h2
 | call hop h hc =>
  refine ⟨_,rfl,rfl,fun t ht=>?_⟩
  have:=M.local_ (sem ops o k) s t ht
  have h2:=Step1.call (s:=t) hop (this.1.trans h) hc
  rw [this.2] at h2
  exact h2
theorem swap_ {ops:Array Oper} {x y:It} {L:List It} {s sf:AS} (hf:Free x.rd x.wr y.rd y.wr) (h:RunL ops (x :: y :: L) s sf):RunL ops (y :: x :: L) s sf:=by
 cases h with
 | cons hox hx t =>
  cases t with
  | cons hoy hy t =>
   obtain ⟨ws,rfl,hw,hx'⟩:=hx.writes
   obtain ⟨vs,rfl,hv,hy'⟩:=hy.writes
   have hy2:=hy' s (fun l hl=>(app_agree ws s l (fun hm=>(hf.1 l (hw ▸ hm)).1 hl)).symm)
   have hx2:=hx' (s.app vs) (fun l hl=>app_agree vs s l (fun hm=>hf.2 l (hv ▸ hm) hl))
   rw [app_comm ws vs s (fun l hl hm=>(hf.1 l (hw ▸ hl)).2 (hv ▸ hm))] at t
   exact .cons hoy hy2 (.cons hox hx2 t)
theorem bubble {ops:Array Oper} {y:It}:∀ {L1 L2:List It} {s sf:AS},(∀ x ∈ L1,Free x.rd x.wr y.rd y.wr) → RunL ops (L1 ++ y :: L2) s sf → RunL ops (y :: (L1 ++ L2)) s sf:=by
 intro L1
 induction L1 with
 | nil=>intro L2 s sf _ h;exact h
 | cons x xs ih =>
  intro L2 s sf hf h
  cases h with
  | cons hox hx t=>exact swap_ (hf x te) (.cons hox hx (ih (fun z hz=>hf z (by simp [hz])) t))
end Go.Proofs.Ytamjbjkbineafaa.Ev

namespace Go.Proofs.Ytamjbjkbineafaa.Ev
open Go Go.RowKit
set_option linter.unusedVariables false
set_option linter.unusedSimpArgs false
theorem t3:(Try.prog.info? 3).map (fun i=>(i.zero,i.size,i.bytes)) = some (some (.int .i64 0),1,8):=by kernel_rfl
theorem t22:(Try.prog.info? 22).map (fun i=>(i.zero,i.size,i.bytes)) = some (some nilV,1,24):=by kernel_rfl
theorem t27:(Try.prog.info? 27).map (fun i=>(i.zero,i.size,i.bytes)) = some (some nilV,1,24):=by kernel_rfl
theorem t29:(Try.prog.info? 29).map (fun i=>(i.zero,i.size,i.bytes)) = some (some (.agg #[nilV,nilV]),2,48):=by kernel_rfl
theorem t38:(Try.prog.info? 38).map (fun i=>(i.zero,i.size,i.bytes)) = some (some (.agg #[.int .i64 0,.int .i64 0,.int .i64 0,.int .i64 0,.int .i64 0]),5,40):=by kernel_rfl
theorem t45:(Try.prog.info? 45).map (fun i=>(i.zero,i.size,i.bytes)) = some (some nilV,1,24):=by kernel_rfl
theorem t57:(Try.prog.info? 57).map (fun i=>(i.zero,i.size,i.bytes)) = some (some nilV,1,24):=by kernel_rfl
theorem t59:(Try.prog.info? 59).map (fun i=>(i.zero,i.size,i.bytes)) = some (some (.agg #[nilV]),1,24):=by kernel_rfl
theorem info_of {t:Nat} {z:Value} {sz by_:Nat} (h:(Try.prog.info? t).map (fun i=>(i.zero,i.size,i.bytes)) = some (some z,sz,by_)) :
  ∃ i,Try.prog.info? t = some i ∧ i.zero = some z ∧ i.size = sz ∧ i.bytes = by_:=info_parts h
theorem ty_info {t:Nat} (h:known t = true):∃ i z,Try.prog.info? t = some i ∧ i.zero = some z ∧ z.cells.toList = zeroC t ∧ i.size = tsz t ∧ z.cells.size = tsz t:=by
 unfold known at h
 split at h
 ·obtain ⟨i,h1,h2,h3,_⟩:=info_of t3;exact v8
 ·obtain ⟨i,h1,h2,h3,_⟩:=info_of t22;exact v8
 ·obtain ⟨i,h1,h2,h3,_⟩:=info_of t27;exact v8
 ·obtain ⟨i,h1,h2,h3,_⟩:=info_of t29;exact v8
 ·obtain ⟨i,h1,h2,h3,_⟩:=info_of t38;exact v8
 ·obtain ⟨i,h1,h2,h3,_⟩:=info_of t45;exact v8
 ·obtain ⟨i,h1,h2,h3,_⟩:=info_of t57;exact v8
 ·obtain ⟨i,h1,h2,h3,_⟩:=info_of t59;exact v8
 ·cases h
theorem ty_size {t:Nat} (h:known t = true):∃ i,Try.prog.info? t = some i ∧ i.size = tsz t:=by
 obtain ⟨i,_,h1,_,_,h2,_⟩:=ty_info h
 exact ⟨i,h1,h2⟩
theorem tsz_pos (t:Nat):0 < tsz t:=by unfold tsz;split <;> decide
theorem ty_elem {t e:Nat} (h:elem? t = some e):Try.prog.underlying t = some (.slice e) ∧ known e = true ∧ ∃ i z,Try.prog.info? e = some i ∧ i.zero = some z ∧ i.size = tsz e ∧ i.bytes = tby e ∧ z.cells.size = tsz e ∧ z.cells.toList = zeroC e:=by
 unfold elem? at h
 split at h
 ·obtain rfl:=Option.some.inj h
  obtain ⟨i,h1,h2,h3,h4⟩:=info_of t3
  exact ⟨Try.underlying22,rfl,i,_,h1,h2,h3,h4,rfl,rfl⟩
 ·obtain rfl:=Option.some.inj h
  obtain ⟨i,h1,h2,h3,h4⟩:=info_of t59
  exact ⟨Try.underlying27,rfl,i,_,h1,h2,h3,h4,rfl,rfl⟩
 ·obtain rfl:=Option.some.inj h
  obtain ⟨i,h1,h2,h3,h4⟩:=info_of t38
  exact ⟨Try.underlying45,rfl,i,_,h1,h2,h3,h4,rfl,rfl⟩
 ·obtain rfl:=Option.some.inj h
  obtain ⟨i,h1,h2,h3,h4⟩:=info_of t45
  exact ⟨Try.underlying57,rfl,i,_,h1,h2,h3,h4,rfl,rfl⟩
 ·cases h
theorem ty_agg {t:Nat} (h:known t = true):if tagg t then ∃ fs,Try.prog.underlying t = some (.struct fs) ∧ ∀ f,f < tsz t → ∃ fd,fs[f]? = some fd ∧ fd.offset = f ∧ known fd.type = true else ∃ d,Try.prog.underlying t = some d ∧ d.isRow = false:=by
 unfold known at h
 split at h
 ·exact ⟨_,Try.underlying3,rfl⟩
 ·exact ⟨_,Try.underlying22,rfl⟩
 ·exact ⟨_,Try.underlying27,rfl⟩
 ·refine ⟨_,Try.underlying29,fun f hf=>?_⟩
  match f,hf with
  | 0,_=>exact ⟨_,rfl,rfl,rfl⟩
  | 1,_=>exact ⟨_,rfl,rfl,rfl⟩
 ·refine ⟨_,Try.underlying38,fun f hf=>?_⟩
  match f,hf with
  | 0,_=>exact ⟨_,rfl,rfl,rfl⟩
  | 1,_=>exact ⟨_,rfl,rfl,rfl⟩
  | 2,_=>exact ⟨_,rfl,rfl,rfl⟩
  | 3,_=>exact ⟨_,rfl,rfl,rfl⟩
  | 4,_=>exact ⟨_,rfl,rfl,rfl⟩
 ·exact ⟨_,Try.underlying45,rfl⟩
 ·exact ⟨_,Try.underlying57,rfl⟩
 ·refine ⟨_,Try.underlying59,fun f hf=>?_⟩
  match f,hf with
  | 0,_=>exact ⟨_,rfl,rfl,rfl⟩
 ·cases h
theorem tagg_known {t:Nat} (h:tagg t = true):known t = true:=by
 unfold tagg at h
 split at h <;> first|rfl|cases h
theorem All2.length {α β:Type} {R:α → β → Prop} {xs:List α} {ys:List β} (h:All2 R xs ys):xs.length = ys.length:=by
 induction h with
 | nil=>rfl
 | cons _ _ ih=>simp [ih]
theorem All2.imp {α β:Type} {R S:α → β → Prop} {xs:List α} {ys:List β} (h:All2 R xs ys) (hi:∀ a b,a ∈ xs → R a b → S a b):All2 S xs ys:=by
 induction h with
 | nil=>exact .nil
 | cons h _ ih=>exact .cons (hi _ _ te h) (ih (fun a b ha=>hi a b (by simp [ha])))
theorem All2.get {α β:Type} {R:α → β → Prop} {xs:List α} {ys:List β} (h:All2 R xs ys):∀ (i:Nat) a,xs[i]? = some a → ∃ b,ys[i]? = some b ∧ R a b:=by
 induction h with
 | nil=>intro i a h;simp at h
 | cons h _ ih =>
  intro i a ha
  cases i with
  | zero=>simp at ha;subst ha;exact ⟨_,rfl,h⟩
  | succ i=>simpa using ih i a (by simpa using ha)
theorem All2.of_get {α β:Type} {R:α → β → Prop}:∀ {xs:List α} {ys:List β},xs.length = ys.length → (∀ (i:Nat) a b,xs[i]? = some a → ys[i]? = some b → R a b) → All2 R xs ys:=by
 intro xs
 induction xs with
 | nil=>intro ys h _;cases ys with
  | nil=>exact .nil
  | cons _ _=>simp at h
 | cons x xs ih=>intro ys h hr;cases ys with
  | nil=>simp at h
  | cons y ys=>exact .cons (hr 0 x y rfl rfl) (ih (by simpa using h) (fun i a b h1 h2=>hr (i + 1) a b (by simpa using h1) (by simpa using h2)))
theorem All2.append {α β:Type} {R:α → β → Prop} {xs xs':List α} {ys ys':List β} (h:All2 R xs ys) (h':All2 R xs' ys'):All2 R (xs ++ xs') (ys ++ ys'):=by
 induction h with
 | nil=>exact h'
 | cons h _ ih=>exact .cons h ih
theorem All2.take {α β:Type} {R:α → β → Prop} {xs:List α} {ys:List β} (h:All2 R xs ys) (n:Nat):All2 R (xs.take n) (ys.take n):=by
 induction h generalizing n with
 | nil=>simp;exact .nil
 | cons h _ ih=>cases n with
  | zero=>simp;exact .nil
  | succ n=>simp;exact .cons h (ih n)
theorem All2.drop {α β:Type} {R:α → β → Prop} {xs:List α} {ys:List β} (h:All2 R xs ys) (n:Nat):All2 R (xs.drop n) (ys.drop n):=by
 induction h generalizing n with
 | nil=>simp;exact .nil
 | cons h t ih=>cases n with
  | zero=>simp;exact .cons h t
  | succ n=>simpa using ih n
theorem All2.set {α β:Type} {R:α → β → Prop} {xs:List α} {ys:List β} (h:All2 R xs ys) (i:Nat) {a:α} {b:β} (hr:R a b):All2 R (xs.set i a) (ys.set i b):=by
 induction h generalizing i with
 | nil=>simp;exact .nil
 | cons h t ih=>cases i with
  | zero=>simp;exact .cons hr t
  | succ i=>simp;exact .cons h (ih i)
theorem litOk_one {v:Value} (h:litOk v = true):v.oneCell' = true:=by
 unfold litOk at h
 split at h <;> first|rfl|cases h
theorem Rep.one {own:Nat → Nat} {ro:Nat → Prop} {w:World} {x:FV} {v:Value} (h:Rep own ro w x v):v.oneCell' = true:=by
 cases h with
 | lit v h=>exact litOk_one h
 | row=>rfl
theorem Rep.move {own own':Nat → Nat} {ro ro':Nat → Prop} {w w':World} {x:FV} {v:Value} (h:Rep own ro w x v)
  (hm:∀ b,ro b → ro' b ∧ own' b = own b ∧ w'.heap[b]? = w.heap[b]?):Rep own' ro' w' x v:=by
 induction h with
 | lit v h=>exact .lit v h
 | row l t es A cap cv hcap hmax hlen hcell hrep hown ih =>
  refine .row l t es A cap cv hcap hmax hlen (fun i e he=>?_) ih (fun hl=>?_)
  ·obtain ⟨ad,ha,hr,hc⟩:=hcell i e he
   refine ⟨ad,ha,(hm _ hr).1,fun j x hx=>?_⟩
   have h1:=hc j x hx
   have hb:(ad.add (i * tsz t + j)).block = ad.block:=by unfold Addr.add;split <;> rfl
   rw [World.cell?_of_block (w:=w) (by rw [hb];exact (hm _ hr).2.2)]
   exact h1
  ·obtain ⟨xs,ho,ha⟩:=hown hl
   refine ⟨xs,?_,fun ad had=>?_⟩
   ·refine ⟨ho.1,?_⟩
    rcases ho.2 with h2|⟨g,cap',cur,he,hg,hh,r⟩
    ·exact .inl h2
    ·refine .inr ⟨g,cap',cur,he,hg,?_,r⟩
     injection he with he _ _
     have:=ha _ he
     rw [(hm g this.2).2.2]
     exact hh
   ·have:=ha ad had
    exact ⟨by rw [(hm _ this.2).2.1];exact this.1,(hm _ this.2).1⟩
theorem Flat.imp {R S:FV → Value → Prop} {t:Nat} {es:List (List FV)} {xs:List Value} (h:Flat R t es xs) (hi:∀ x u,R x u → S x u):Flat S t es xs :=
 ⟨h.1,fun i e he j x hx=>by obtain ⟨u,h1,h2⟩:=h.2 i e he j x hx;exact ⟨u,h1,hi _ _ h2⟩⟩
end Go.Proofs.Ytamjbjkbineafaa.Ev
