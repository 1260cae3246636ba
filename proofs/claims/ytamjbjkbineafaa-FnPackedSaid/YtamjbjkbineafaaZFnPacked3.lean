/- The law: the functions that it reaches, each with the proof that the machine's call comes to its answer, what they answer, and the law's row; each theorem says its conditions itself. -/
import Derived.Test.YtamjbjkbineafaaZFnPacked2
import Derived.IntWalk
import Derived.Laws.BitsLemmas
namespace Go.Proofs.Ytamjbjkbineafaa.PFnPacked
open Go.RowKit Go.Proofs.YtamjbjkbineafaaW.PrintWords Go.Proofs.YtamjbjkbineafaaW.PrintLast Go.Proofs.YtamjbjkbineafaaW.PrintMore
attribute [local go_sem] max2_int min2_int max_two min_two max_three min_three max_four min_four   -- for this text's walks alone
set_option linter.unusedVariables false
set_option linter.unusedSimpArgs false
def laws_at.f (l0:List Int) (a1:Int):Option (Int):=if a1 < (l0.length:Int) then (if 0 ≤ a1 then (some (wrap64 (rd l0 a1))) else (none)) else (some (Int.tmod (wrap64 ((wrap64 (a1 * 31)) + (wrap64 ((l0.length:Int) * 7)))) 256))
set_option maxHeartbeats 8000000 in
set_option maxRecDepth 100000 in
theorem laws_at.calls (A0:Option Addr) (c0:Nat) (l0:List Int) (a1:Int) (r:Int) (w:World) (hr0:Kd.C (Kd.int .u8) w A0 l0.length l0) (hc0:l0.length ≤ c0) (h:laws_at.f l0 a1 = some r) :
  Calls Try.prog 15 #[.slice A0 l0.length c0,.int .i64 a1] w fun e w'=>e = .returned (.int .i64 r) ∧ Drawn0 w w':=by
 have HR0:=aA.mk hr0
 have HC0:=aA.mk hc0
 clear hr0 hc0
 have H:(if a1 < (l0.length:Int) then (if 0 ≤ a1 then (some (wrap64 (rd l0 a1))) else (none)) else (some (Int.tmod (wrap64 ((wrap64 (a1 * 31)) + (wrap64 ((l0.length:Int) * 7)))) 256))) = some r:=h
 clear h
 by_cases c3:a1 < (l0.length:Int)
 ·rw [if_pos c3] at H
  have c3b0:decide (a1 < (l0.length:Int)) = true:=decide_eq_true c3
  clear c3
  by_cases c4:0 ≤ a1
  ·rw [if_pos c4] at H
   have c4b0:decide (0 ≤ a1) = true:=decide_eq_true c4
   clear c4
   obtain rfl:=Option.some.inj H
   have p684:0 ≤ (a1:Int):=lE tF
   have q684:a1 < (l0.length:Int):=lE tF
   obtain ⟨ad684,e684,hx684_0⟩:=Kd.at_int HR0.out a1 p684 q684
   cases e684
   replace p684:=eq_true p684
   replace q684:=eq_true q684
   go_enter Try.func15,Try.ntmps15
   go_wp2
   go_ret
   exact tU
  ·rw [if_neg c4] at H
   exact vM
 ·rw [if_neg c3] at H
  have c3b0:decide (a1 < (l0.length:Int)) = false:=decide_eq_false c3
  clear c3
  obtain rfl:=Option.some.inj H
  go_enter Try.func15,Try.ntmps15
  go_wp2
  go_ret
  exact tU
def impl_TreeNew.f :Option (List Int × (List (S59))):=some ((([0]:List Int)),(([(⟨([]:List (List (S38)))⟩:S59)]:List (S59))))
set_option maxHeartbeats 8000000 in
set_option maxRecDepth 100000 in
theorem impl_TreeNew.calls  (r1:List Int) (r2:List (S59)) (w:World) (h:impl_TreeNew.f  = some (r1,r2)) :
  Calls Try.prog 16 #[] w fun e w'=>∃ v0_ v1_:Value,e = .returned (.agg #[v0_,v1_]) ∧ Kd.R (Kd.int .i64) 3 w' w.heap.size (fun _=>True) v0_ r1 ∧ Kd.R k59 59 w' w.heap.size (fun _=>True) v1_ r2 ∧ Below w.heap.size w w':=by
 have hu29:=Try.underlying29
 have hu59:=Try.underlying59
 have HB:=aA.mk (Below.refl w.heap.size w)
 have H:(some ((([0]:List Int)),(([(⟨([]:List (List (S38)))⟩:S59)]:List (S59))))) = some (r1,r2):=h
 clear h
 obtain ⟨y686,hy686⟩:∃ y_:List Int,y_ = (([0]:List Int)):=⟨_,rfl⟩
 replace H:(some (y686,(([(⟨([]:List (List (S38)))⟩:S59)]:List (S59))))) = some (r1,r2):=by first|(rw [hy686];with_reducible exact H)|(have H2_:=(Option.bind_some _ _).symm.trans H;rw [hy686];with_reducible exact H2_)|(have H2_:=(Option.bind_some _ _).symm.trans H;with_reducible exact H2_)|with_reducible exact H|(rw [hy686];exact H)|exact H
 have Ny686:=aA.mk hy686
 clear hy686
 obtain ⟨y689,hy689⟩:∃ y_:List (S59),y_ = (([(⟨([]:List (List (S38)))⟩:S59)]:List (S59))):=⟨_,rfl⟩
 replace H:(some (y686,y689)) = some (r1,r2):=by first|(rw [hy689];with_reducible exact H)|(have H2_:=(Option.bind_some _ _).symm.trans H;rw [hy689];with_reducible exact H2_)|(have H2_:=(Option.bind_some _ _).symm.trans H;with_reducible exact H2_)|with_reducible exact H|(rw [hy689];exact H)|exact H
 have Ny689:=aA.mk hy689
 clear hy689
 simp only [Option.some.injEq,Prod.mk.injEq] at H
 obtain ⟨rfl,rfl⟩:=H
 go_enter Try.func16,Try.ntmps16
 go_wp2_with (first|((with_reducible refine aZ (N:=0) rfl ?_);refine bB ?hg (N:=0) ?hd (cs:=#[.slice none 0 0,.slice none 0 0]) (t:=29) ?hr ?_;(case hd=>rfl);(case hg=>rfl);(case hr=>exact tJ);intro gb685 hg w1 hbox hb;have BK685:=aA.mk (hbox);have GW685:=aA.mk ((by rw [hg];exact (aM HB.out):w.heap.size ≤ gb685));have GE685:=aA.mk ((by rw [hg];exact (aM HB.out):w.heap.size ≤ gb685));replace HB:=aA.mk (aQ HB.out hb);clear hb hbox hg)|((with_reducible refine aZ (N:=1) rfl ?_);refine Kd.R_lit (Kd.int .i64) _ 3 ?hg (N:=1) ?hd (xs:=([0]:List Int)) (inner:=[.int .i64 0]) (ok:=fun _=>True) (okp:=fun _=>True) ?hr ?hp (fun _ hk=>hk) trivial (Below.refl _ _) (Nat.le_refl _) te ?_;(case hd=>rfl);(case hg=>rfl);(case hr=>exact tJ);(case hp=>exact (Reps.one (show Kd.M (Kd.int .i64) _ _ _ 0 [.int .i64 0] from rfl) (Reps.none _ _)));intro v687 w2 ho3 hb hg_ hnew_;clear hg_ hnew_;(first|rw [← Ny686.out] at ho3|(simp only [Int.reduceToNat] at ho3;rw [← Ny686.out] at ho3));have HO688:=aA.mk (Kd.R_lower ho3 (aM HB.out));replace BK685:=nB BK685;replace HB:=aA.mk (aQ HB.out hb);clear hb ho3)|((with_reducible refine aZ (N:=3) rfl ?_);refine Kd.R_lit k59 _ 59 ?hg (N:=3) ?hd (xs:=([(⟨([]:List (List (S38)))⟩:S59)]:List (S59))) (inner:=[.slice none 0 0]) (ok:=fun _=>True) (okp:=fun _=>True) ?hr ?hp (fun _ hk=>hk) trivial (Below.refl _ _) (Nat.le_refl _) te ?_;(case hd=>rfl);(case hg=>rfl);(case hr=>exact tJ);(case hp=>exact AH);intro v690 w4 ho5 hb hg_ hnew_;clear hg_ hnew_;(first|rw [← Ny689.out] at ho5|(simp only [Int.reduceToNat] at ho5;rw [← Ny689.out] at ho5));replace HO688:=nR HO688;have HO691:=aA.mk (Kd.R_lower ho5 (aM HB.out));replace BK685:=nB BK685;replace HB:=aA.mk (aQ HB.out hb);clear hb ho5;obtain ⟨Ao6,co6,eo6⟩:=Kd.R_slice HO691.out;subst eo6;obtain ⟨Ao7,co7,eo7⟩:=Kd.R_slice HO688.out;subst eo7;obtain ⟨hcz8_0,hcz8_1⟩:=cs2 BK685.out;obtain ⟨hfz8_0,hfz8_1⟩:=fs2 BK685.out))
 refine bodyPost_ret (results_cell_row rfl _ _ gb685 29 #[.slice Ao7 y686.length co7,.slice Ao6 y689.length co6] (0,0) _ rfl (by (with_reducible repeat (first|refine aG ?_ _|refine aH ?_|refine aE ?_ _));refine aT (cs:=#[.slice Ao7 y686.length co7,.slice none 0 0]) ?_ 1 _ rfl;(with_reducible repeat (first|refine aG ?_ _|refine aH ?_|refine aE ?_ _));refine aT (cs:=#[.slice none 0 0,.slice none 0 0]) ?_ 0 _ rfl;(with_reducible repeat (first|refine aG ?_ _|refine aH ?_|refine aE ?_ _));exact BK685.out) Try.underlying29 rfl tH) rfl ?_
 exact ⟨_,_,tC,by (with_reducible repeat (first|apply Kd.bC|apply Kd.bD|apply Kd.bG));exact Kd.bF (Kd.bJ (p:=⟨gb685,1,none⟩) (Kd.bJ (p:=⟨gb685,0,none⟩) (Kd.R_types HO688.out BK685.out tb) (fun _ hk=>hk.2) (.slice Ao7 y686.length co7)) (fun _ hk=>hk.2) (.slice Ao6 y689.length co6)) (fun _ hk=>trivial),by (with_reducible repeat (first|apply Kd.bC|apply Kd.bD|apply Kd.bG));exact Kd.bF (Kd.bJ (p:=⟨gb685,1,none⟩) (Kd.bJ (p:=⟨gb685,0,none⟩) (Kd.R_types HO691.out BK685.out tb) (fun _ hk=>hk.2) (.slice Ao7 y686.length co7)) (fun _ hk=>hk.2) (.slice Ao6 y689.length co6)) (fun _ hk=>trivial),by repeat (first|(with_reducible first|exact HB.out|apply aK|apply aC|apply aJ|refine aD ?_ GE685.out)|exact HB.out)⟩
def impl_KeyOk.j0:Nat → Bool → Int → Int → Int → Int → Int → Option (Bool)
 | 0,_,_,_,_,_,_=>none
 | k + 1,x18,x693000,x693001,x693002,x693003,x693004=>if x18 = true then (some false) else (if x693002 = 1 then ((impl_within.f x693003 0 23).bind fun t696=>(if t696 = true then ((impl_within.f x693004 0 999).bind fun t697=>(some t697)) else (some false))) else (if x693003 = 0 then (some (x693004 == 0)) else (some false)))
def impl_KeyOk.f (k:Nat) (a0_0:Int) (a0_1:Int) (a0_2:Int) (a0_3:Int) (a0_4:Int):Option (Bool):=(impl_within.f a0_0 0 15).bind fun t693=>(if t693 = true then ((impl_within.f a0_1 1 60).bind fun t694=>(if t694 = true then ((impl_within.f a0_2 0 2).bind fun t695=>(impl_KeyOk.j0 k (!t695) a0_0 a0_1 a0_2 a0_3 a0_4)) else (impl_KeyOk.j0 k true a0_0 a0_1 a0_2 a0_3 a0_4))) else (impl_KeyOk.j0 k true a0_0 a0_1 a0_2 a0_3 a0_4))
set_option maxHeartbeats 8000000 in
set_option maxRecDepth 100000 in
theorem impl_KeyOk.calls (k:Nat) (a0_0:Int) (a0_1:Int) (a0_2:Int) (a0_3:Int) (a0_4:Int) (r:Bool) (w:World) (h:impl_KeyOk.f k a0_0 a0_1 a0_2 a0_3 a0_4 = some r) :
  Calls Try.prog 58 #[.agg #[.int .i64 a0_0,.int .i64 a0_1,.int .i64 a0_2,.int .i64 a0_3,.int .i64 a0_4]] w fun e w'=>e = .returned (.bool r) ∧ Below w.heap.size w w':=by
 have hu38:=Try.underlying38
 have HB:=aA.mk (Below.refl w.heap.size w)
 have H:((impl_within.f a0_0 0 15).bind fun t693=>(if t693 = true then ((impl_within.f a0_1 1 60).bind fun t694=>(if t694 = true then ((impl_within.f a0_2 0 2).bind fun t695=>(impl_KeyOk.j0 k (!t695) a0_0 a0_1 a0_2 a0_3 a0_4)) else (impl_KeyOk.j0 k true a0_0 a0_1 a0_2 a0_3 a0_4))) else (impl_KeyOk.j0 k true a0_0 a0_1 a0_2 a0_3 a0_4))) = some r:=h
 clear h
 have HC2:=aA.mk H
 clear H
 go_enter Try.func58,Try.ntmps58
 go_upto_region 1 with (first|((with_reducible refine aZ (N:=1) rfl ?_);refine bB ?hg (N:=1) ?hd (cs:=#[.int .i64 a0_0,.int .i64 a0_1,.int .i64 a0_2,.int .i64 a0_3,.int .i64 a0_4]) (t:=38) ?hr ?_;(case hd=>rfl);(case hg=>rfl);(case hr=>exact tJ);intro gb692 hg w3 hbox hb;have BK692:=aA.mk (hbox);have GW692:=aA.mk ((by rw [hg];exact (aM HB.out):w.heap.size ≤ gb692));have GE692:=aA.mk ((by rw [hg];exact (aM HB.out):w.heap.size ≤ gb692));replace HB:=aA.mk (aQ HB.out hb);clear hb hbox hg))
 (try simp only [Act.put,lA,lB,lC])
 go_cut [18] (fun v18 wc=>∃ (kq:Nat) (x18_1:Bool),v18 = .bool x18_1 ∧ aA (impl_KeyOk.j0 kq x18_1 a0_0 a0_1 a0_2 a0_3 a0_4 = some r) ∧ aA (kq ≤ k) ∧ aA (wc.heap[gb692]? = some (.cells #[.int .i64 a0_0,.int .i64 a0_1,.int .i64 a0_2,.int .i64 a0_3,.int .i64 a0_4] 38 (0,0))) ∧ aA (Below w.heap.size w wc))
 case first =>
  have H:=HC2.out
  clear HC2
  replace H:=lF H
  obtain ⟨t693,A40,H⟩:=H
  replace H:(if t693 = true then ((impl_within.f a0_1 1 60).bind fun t694=>(if t694 = true then ((impl_within.f a0_2 0 2).bind fun t695=>(impl_KeyOk.j0 k (!t695) a0_0 a0_1 a0_2 a0_3 a0_4)) else (impl_KeyOk.j0 k true a0_0 a0_1 a0_2 a0_3 a0_4))) else (impl_KeyOk.j0 k true a0_0 a0_1 a0_2 a0_3 a0_4)) = some r:=H
  have A4:=aA.mk A40
  clear A40
  by_cases c5:t693 = true
  ·subst c5
   have H1:((impl_within.f a0_1 1 60).bind fun t694=>(if t694 = true then ((impl_within.f a0_2 0 2).bind fun t695=>(impl_KeyOk.j0 k (!t695) a0_0 a0_1 a0_2 a0_3 a0_4)) else (impl_KeyOk.j0 k true a0_0 a0_1 a0_2 a0_3 a0_4))) = some r:=by rw [if_pos rfl] at H;exact H
   clear H
   have H:=H1
   clear H1
   replace H:=lF H
   obtain ⟨t694,A60,H⟩:=H
   replace H:(if t694 = true then ((impl_within.f a0_2 0 2).bind fun t695=>(impl_KeyOk.j0 k (!t695) a0_0 a0_1 a0_2 a0_3 a0_4)) else (impl_KeyOk.j0 k true a0_0 a0_1 a0_2 a0_3 a0_4)) = some r:=H
   have A6:=aA.mk A60
   clear A60
   by_cases c7:t694 = true
   ·subst c7
    have H1:((impl_within.f a0_2 0 2).bind fun t695=>(impl_KeyOk.j0 k (!t695) a0_0 a0_1 a0_2 a0_3 a0_4)) = some r:=by rw [if_pos rfl] at H;exact H
    clear H
    have H:=H1
    clear H1
    replace H:=lF H
    obtain ⟨t695,A80,H⟩:=H
    replace H:(impl_KeyOk.j0 k (!t695) a0_0 a0_1 a0_2 a0_3 a0_4) = some r:=H
    have A8:=aA.mk A80
    clear A80
    have H':=aA.mk H
    clear H
    obtain ⟨hcz9_0,hcz9_1,hcz9_2,hcz9_3,hcz9_4⟩:=cs5 BK692.out
    obtain ⟨hfz9_0,hfz9_1,hfz9_2,hfz9_3,hfz9_4⟩:=fs5 BK692.out
    go_wp2_with (first|((with_reducible refine aY (f:=32) rfl ?_);refine goesL_ (some 5) rfl rfl Try.func32 tH rfl #[.int .i64 a0_0,.int .i64 0,.int .i64 15] rfl tA ?_;(with_reducible refine (impl_within.calls a0_0 0 15 true _ A4.out).mono ?_);rintro e w' ⟨rfl,⟨nd,rfl⟩⟩;refine ⟨_,rfl,?_⟩)|(go_at_call 32;(with_reducible refine (impl_within.calls a0_1 1 60 true _ A6.out).mono ?_);rintro e w' ⟨rfl,⟨nd,rfl⟩⟩)|(go_at_call 32;(with_reducible refine (impl_within.calls a0_2 0 2 t695 _ A8.out).mono ?_);rintro e w' ⟨rfl,⟨nd,rfl⟩⟩))
    go_meet
    case rel=>exact ⟨_,(!t695),tG,H',⟨AF⟩,⟨AE⟩,⟨tz⟩⟩
   ·replace c7:=Bool.eq_false_iff.mpr c7
    subst c7
    have H1:(impl_KeyOk.j0 k true a0_0 a0_1 a0_2 a0_3 a0_4) = some r:=by rw [if_neg (show ¬ (false = true) by decide)] at H;exact H
    clear H
    have H:=H1
    clear H1
    have H':=aA.mk H
    clear H
    obtain ⟨hcz10_0,hcz10_1,hcz10_2,hcz10_3,hcz10_4⟩:=cs5 BK692.out
    obtain ⟨hfz10_0,hfz10_1,hfz10_2,hfz10_3,hfz10_4⟩:=fs5 BK692.out
    go_wp2_with (first|((with_reducible refine aY (f:=32) rfl ?_);refine goesL_ (some 5) rfl rfl Try.func32 tH rfl #[.int .i64 a0_0,.int .i64 0,.int .i64 15] rfl tA ?_;(with_reducible refine (impl_within.calls a0_0 0 15 true _ A4.out).mono ?_);rintro e w' ⟨rfl,⟨nd,rfl⟩⟩;refine ⟨_,rfl,?_⟩)|(go_at_call 32;(with_reducible refine (impl_within.calls a0_1 1 60 false _ A6.out).mono ?_);rintro e w' ⟨rfl,⟨nd,rfl⟩⟩))
    go_meet
    case rel=>exact ⟨_,(true),tG,H',⟨AF⟩,⟨AE⟩,⟨tz⟩⟩
  ·replace c5:=Bool.eq_false_iff.mpr c5
   subst c5
   have H1:(impl_KeyOk.j0 k true a0_0 a0_1 a0_2 a0_3 a0_4) = some r:=by rw [if_neg (show ¬ (false = true) by decide)] at H;exact H
   clear H
   have H:=H1
   clear H1
   have H':=aA.mk H
   clear H
   obtain ⟨hcz11_0,hcz11_1,hcz11_2,hcz11_3,hcz11_4⟩:=cs5 BK692.out
   obtain ⟨hfz11_0,hfz11_1,hfz11_2,hfz11_3,hfz11_4⟩:=fs5 BK692.out
   go_wp2_with (first|((with_reducible refine aY (f:=32) rfl ?_);refine goesL_ (some 5) rfl rfl Try.func32 tH rfl #[.int .i64 a0_0,.int .i64 0,.int .i64 15] rfl tA ?_;(with_reducible refine (impl_within.calls a0_0 0 15 false _ A4.out).mono ?_);rintro e w' ⟨rfl,⟨nd,rfl⟩⟩;refine ⟨_,rfl,?_⟩))
   go_meet
   case rel=>exact ⟨_,(true),tG,H',⟨AF⟩,⟨AE⟩,⟨tz⟩⟩
 case rest =>
  clear HC2
  try clear p2
  try clear c3
  try clear c5
  try clear c7
  try clear hcz10_0
  try clear hcz10_1
  try clear hcz10_2
  try clear hcz10_3
  try clear hcz10_4
  try clear hcz11_0
  try clear hcz11_1
  try clear hcz11_2
  try clear hcz11_3
  try clear hcz11_4
  try clear hcz9_0
  try clear hcz9_1
  try clear hcz9_2
  try clear hcz9_3
  try clear hcz9_4
  try clear hfz10_0
  try clear hfz10_1
  try clear hfz10_2
  try clear hfz10_3
  try clear hfz10_4
  try clear hfz11_0
  try clear hfz11_1
  try clear hfz11_2
  try clear hfz11_3
  try clear hfz11_4
  try clear hfz9_0
  try clear hfz9_1
  try clear hfz9_2
  try clear hfz9_3
  try clear hfz9_4
  obtain ⟨kq,x18_1,rfl,HA,HJ1,BK692,HB⟩:=hcut
  cases kq with
  | zero=>exact absurd HA.out (by simp [impl_KeyOk.j0])
  | succ kj1 =>
   have H:=HA.out
   clear HA
   simp only [impl_KeyOk.j0] at H
   by_cases c12:x18_1 = true
   ·subst c12
    have H1:(some false) = some r:=by rw [if_pos rfl] at H;exact H
    clear H
    have H:=H1
    clear H1
    obtain rfl:=Option.some.inj H
    go_wp2
    go_ret
    exact ⟨tC,tz⟩
   ·replace c12:=Bool.eq_false_iff.mpr c12
    subst c12
    have H1:(if a0_2 = 1 then ((impl_within.f a0_3 0 23).bind fun t696=>(if t696 = true then ((impl_within.f a0_4 0 999).bind fun t697=>(some t697)) else (some false))) else (if a0_3 = 0 then (some (a0_4 == 0)) else (some false))) = some r:=by rw [if_neg (show ¬ (false = true) by decide)] at H;exact H
    clear H
    have H:=H1
    clear H1
    by_cases c13:a0_2 = 1
    ·rw [if_pos c13] at H
     have c13b0:(a0_2 == 1) = true:=beq_iff_eq.mpr c13
     have c13b1:(a0_2 != 1) = false:=bne_eq_false_iff_eq.mpr c13
     clear c13
     replace H:=lF H
     obtain ⟨t696,A140,H⟩:=H
     replace H:(if t696 = true then ((impl_within.f a0_4 0 999).bind fun t697=>(some t697)) else (some false)) = some r:=H
     have A14:=aA.mk A140
     clear A140
     by_cases c15:t696 = true
     ·subst c15
      have H1:((impl_within.f a0_4 0 999).bind fun t697=>(some t697)) = some r:=by rw [if_pos rfl] at H;exact H
      clear H
      have H:=H1
      clear H1
      replace H:=lF H
      obtain ⟨t697,A160,H⟩:=H
      replace H:(some t697) = some r:=H
      have A16:=aA.mk A160
      clear A160
      obtain rfl:=Option.some.inj H
      obtain ⟨hcz17_0,hcz17_1,hcz17_2,hcz17_3,hcz17_4⟩:=cs5 BK692.out
      obtain ⟨hfz17_0,hfz17_1,hfz17_2,hfz17_3,hfz17_4⟩:=fs5 BK692.out
      go_wp2_with (first|((with_reducible refine aY (f:=32) rfl ?_);refine goesL_ (some 32) rfl rfl Try.func32 tH rfl #[.int .i64 a0_3,.int .i64 0,.int .i64 23] rfl tA ?_;(with_reducible refine (impl_within.calls a0_3 0 23 true _ A14.out).mono ?_);rintro e w' ⟨rfl,⟨nd,rfl⟩⟩;refine ⟨_,rfl,?_⟩)|(go_at_call 32;(with_reducible refine (impl_within.calls a0_4 0 999 t697 _ A16.out).mono ?_);rintro e w' ⟨rfl,⟨nd,rfl⟩⟩))
      go_ret
      exact ⟨tC,tz⟩
     ·replace c15:=Bool.eq_false_iff.mpr c15
      subst c15
      have H1:(some false) = some r:=by rw [if_neg (show ¬ (false = true) by decide)] at H;exact H
      clear H
      have H:=H1
      clear H1
      obtain rfl:=Option.some.inj H
      obtain ⟨hcz18_0,hcz18_1,hcz18_2,hcz18_3,hcz18_4⟩:=cs5 BK692.out
      obtain ⟨hfz18_0,hfz18_1,hfz18_2,hfz18_3,hfz18_4⟩:=fs5 BK692.out
      go_wp2_with (first|((with_reducible refine aY (f:=32) rfl ?_);refine goesL_ (some 32) rfl rfl Try.func32 tH rfl #[.int .i64 a0_3,.int .i64 0,.int .i64 23] rfl tA ?_;(with_reducible refine (impl_within.calls a0_3 0 23 false _ A14.out).mono ?_);rintro e w' ⟨rfl,⟨nd,rfl⟩⟩;refine ⟨_,rfl,?_⟩))
      go_ret
      exact ⟨tC,tz⟩
    ·rw [if_neg c13] at H
     have c13b0:(a0_2 == 1) = false:=beq_eq_false_iff_ne.mpr c13
     have c13b1:(a0_2 != 1) = true:=bne_iff_ne.mpr c13
     by_cases c19:a0_3 = 0
     ·rw [if_pos c19] at H
      have c19b0:(a0_3 == 0) = true:=beq_iff_eq.mpr c19
      have c19b1:(a0_3 != 0) = false:=bne_eq_false_iff_eq.mpr c19
      clear c19
      obtain rfl:=Option.some.inj H
      obtain ⟨hcz20_0,hcz20_1,hcz20_2,hcz20_3,hcz20_4⟩:=cs5 BK692.out
      obtain ⟨hfz20_0,hfz20_1,hfz20_2,hfz20_3,hfz20_4⟩:=fs5 BK692.out
      go_wp2
      go_ret
      exact ⟨tC,tz⟩
     ·rw [if_neg c19] at H
      have c19b0:(a0_3 == 0) = false:=beq_eq_false_iff_ne.mpr c19
      have c19b1:(a0_3 != 0) = true:=bne_iff_ne.mpr c19
      obtain rfl:=Option.some.inj H
      obtain ⟨hcz21_0,hcz21_1,hcz21_2,hcz21_3,hcz21_4⟩:=cs5 BK692.out
      obtain ⟨hfz21_0,hfz21_1,hfz21_2,hfz21_3,hfz21_4⟩:=fs5 BK692.out
      go_wp2
      go_ret
      exact ⟨tC,tz⟩
end Go.Proofs.Ytamjbjkbineafaa.PFnPacked

namespace Go.Proofs.Ytamjbjkbineafaa.PFnPacked
open Go.RowKit Go.Proofs.YtamjbjkbineafaaW.PrintWords Go.Proofs.YtamjbjkbineafaaW.PrintLast Go.Proofs.YtamjbjkbineafaaW.PrintMore
attribute [local go_sem] max2_int min2_int max_two min_two max_three min_three max_four min_four   -- for this text's walks alone
set_option linter.unusedVariables false
set_option linter.unusedSimpArgs false
def impl_SetOk.l0:Nat → List (S38) → List (S38) → Int → Int → Option (Bool)
 | 0,_,_,_,_=>none
 | k + 1,x0,x5,x6,x7=>if x7 < x6 then (if 0 ≤ x7 then (if x7 < (x5.length:Int) then ((impl_KeyOk.f k ((rd_T38 x5 x7).f0) ((rd_T38 x5 x7).f1) ((rd_T38 x5 x7).f2) ((rd_T38 x5 x7).f3) ((rd_T38 x5 x7).f4)).bind fun t700=>(if t700 = true then (if x7 > 0 then (if 0 ≤ (wrap64 (x7 - 1)) then (if (wrap64 (x7 - 1)) < (x0.length:Int) then ((impl_LessKey.f ((rd_T38 x0 (wrap64 (x7 - 1))).f0) ((rd_T38 x0 (wrap64 (x7 - 1))).f1) ((rd_T38 x0 (wrap64 (x7 - 1))).f2) ((rd_T38 x0 (wrap64 (x7 - 1))).f3) ((rd_T38 x0 (wrap64 (x7 - 1))).f4) ((rd_T38 x5 x7).f0) ((rd_T38 x5 x7).f1) ((rd_T38 x5 x7).f2) ((rd_T38 x5 x7).f3) ((rd_T38 x5 x7).f4)).bind fun t702=>(if t702 = true then (impl_SetOk.l0 k x0 x5 x6 (wrap64 (x7 + 1))) else (some false))) else (none)) else (none)) else (impl_SetOk.l0 k x0 x5 x6 (wrap64 (x7 + 1)))) else (some false))) else (none)) else (none)) else (some (decide ((x0.length:Int) ≤ 60)))
def impl_SetOk.f (k:Nat) (l0:List (S38)):Option (Bool):=impl_SetOk.l0 k l0 l0 (l0.length:Int) 0
def impl_SetOk.T4:Bool × List (List Nat × List Nat):=(true,[([],[]),([0],[0]),([1],[1]),([2,1],[2]),([3],[3]),([4,3],[3,4]),([5,3,3],[3,5]),([6],[6]),([6],[6]),([8,6],[6,8]),([7,9,6],[6,7,9]),([10,6],[6,10]),([6],[6]),([11,12,6,6],[6,11,12]),([13,6],[6,13]),([6,14,3],[3,6,14]),([3,15],[3,15])])
def impl_SetOk.B4:List Nat:=[0,1,3,7,15,31,63,127,127,383,1023,2047,127,8191,16383,32767,65535]
theorem impl_SetOk.tab4:rtab .any (opsOf Try.f77 4) = impl_SetOk.T4:=by kernel_rfl
theorem impl_SetOk.bits4:waitsOk impl_SetOk.T4.2 impl_SetOk.B4 = true:=by kernel_rfl
set_option maxHeartbeats 8000000 in
set_option maxRecDepth 100000 in
theorem impl_SetOk.calls (k:Nat) (A0:Option Addr) (c0:Nat) (l0:List (S38)) (r:Bool) (w:World) (hr0:Kd.C k38 w A0 l0.length l0) (hc0:l0.length ≤ c0) (h:impl_SetOk.f k l0 = some r) :
  Calls Try.prog 77 #[.slice A0 l0.length c0] w fun e w'=>e = .returned (.bool r) ∧ Below w.heap.size w w':=by
 have hu38:=Try.underlying38
 have HR0:=aA.mk hr0
 have HC0:=aA.mk hc0
 clear hr0 hc0
 have HB:=aA.mk (Below.refl w.heap.size w)
 have H:(impl_SetOk.l0 k l0 l0 (l0.length:Int) 0) = some r:=h
 clear h
 have H':=aA.mk H
 clear H
 go_enter Try.func77,Try.ntmps77
 go_wp2
 go_loopg [7] k (fun kq v7 w'=>∃ (x7_1:Int),v7 = .int .i64 x7_1 ∧ aA (impl_SetOk.l0 kq l0 l0 (l0.length:Int) x7_1 = some r) ∧ aA (kq ≤ k) ∧ aA (Below w.heap.size w w'))
 case atStart=>exact ⟨(0),tG,H',⟨Nat.le_refl _⟩,⟨tj⟩⟩
 case round =>
  clear H'
  obtain ⟨x7_1,rfl,HA,HK1,HB⟩:=hrel
  cases gk with
  | zero=>exact absurd HA.out (by simp [impl_SetOk.l0])
  | succ k1 =>
   have H:=HA.out
   clear HA
   simp only [impl_SetOk.l0] at H
   by_cases c2:x7_1 < (l0.length:Int)
   ·rw [if_pos c2] at H
    have c2b0:decide (x7_1 < (l0.length:Int)) = true:=decide_eq_true c2
    clear c2
    by_cases c3:0 ≤ x7_1
    ·rw [if_pos c3] at H
     have c3b0:decide (0 ≤ x7_1) = true:=decide_eq_true c3
     clear c3
     by_cases c4:x7_1 < (l0.length:Int)
     ·rw [if_pos c4] at H
      have c4b0:decide (x7_1 < (l0.length:Int)) = true:=decide_eq_true c4
      clear c4
      replace H:=lF H
      obtain ⟨t700,A50,H⟩:=H
      replace H:(if t700 = true then (if x7_1 > 0 then (if 0 ≤ (wrap64 (x7_1 - 1)) then (if (wrap64 (x7_1 - 1)) < (l0.length:Int) then ((impl_LessKey.f ((rd_T38 l0 (wrap64 (x7_1 - 1))).f0) ((rd_T38 l0 (wrap64 (x7_1 - 1))).f1) ((rd_T38 l0 (wrap64 (x7_1 - 1))).f2) ((rd_T38 l0 (wrap64 (x7_1 - 1))).f3) ((rd_T38 l0 (wrap64 (x7_1 - 1))).f4) ((rd_T38 l0 x7_1).f0) ((rd_T38 l0 x7_1).f1) ((rd_T38 l0 x7_1).f2) ((rd_T38 l0 x7_1).f3) ((rd_T38 l0 x7_1).f4)).bind fun t702=>(if t702 = true then (impl_SetOk.l0 k1 l0 l0 (l0.length:Int) (wrap64 (x7_1 + 1))) else (some false))) else (none)) else (none)) else (impl_SetOk.l0 k1 l0 l0 (l0.length:Int) (wrap64 (x7_1 + 1)))) else (some false)) = some r:=H
      have A5:=aA.mk A50
      clear A50
      by_cases c6:t700 = true
      ·subst c6
       have H1:(if x7_1 > 0 then (if 0 ≤ (wrap64 (x7_1 - 1)) then (if (wrap64 (x7_1 - 1)) < (l0.length:Int) then ((impl_LessKey.f ((rd_T38 l0 (wrap64 (x7_1 - 1))).f0) ((rd_T38 l0 (wrap64 (x7_1 - 1))).f1) ((rd_T38 l0 (wrap64 (x7_1 - 1))).f2) ((rd_T38 l0 (wrap64 (x7_1 - 1))).f3) ((rd_T38 l0 (wrap64 (x7_1 - 1))).f4) ((rd_T38 l0 x7_1).f0) ((rd_T38 l0 x7_1).f1) ((rd_T38 l0 x7_1).f2) ((rd_T38 l0 x7_1).f3) ((rd_T38 l0 x7_1).f4)).bind fun t702=>(if t702 = true then (impl_SetOk.l0 k1 l0 l0 (l0.length:Int) (wrap64 (x7_1 + 1))) else (some false))) else (none)) else (none)) else (impl_SetOk.l0 k1 l0 l0 (l0.length:Int) (wrap64 (x7_1 + 1)))) = some r:=by rw [if_pos rfl] at H;exact H
       clear H
       have H:=H1
       clear H1
       by_cases c7:x7_1 > 0
       ·rw [if_pos c7] at H
        have c7b0:decide (0 < x7_1) = true:=decide_eq_true c7
        clear c7
        obtain ⟨ji8,hji8⟩:∃ j_:Int,(wrap64 (x7_1 - 1)) = j_:=⟨_,rfl⟩
        replace H:(if 0 ≤ (ji8) then (if (ji8) < (l0.length:Int) then ((impl_LessKey.f ((rd_T38 l0 (ji8)).f0) ((rd_T38 l0 (ji8)).f1) ((rd_T38 l0 (ji8)).f2) ((rd_T38 l0 (ji8)).f3) ((rd_T38 l0 (ji8)).f4) ((rd_T38 l0 x7_1).f0) ((rd_T38 l0 x7_1).f1) ((rd_T38 l0 x7_1).f2) ((rd_T38 l0 x7_1).f3) ((rd_T38 l0 x7_1).f4)).bind fun t702=>(if t702 = true then (impl_SetOk.l0 k1 l0 l0 (l0.length:Int) (wrap64 (x7_1 + 1))) else (some false))) else (none)) else (none)) = some r:=by first|(rw [hji8] at H;exact H)|(simp only [hji8] at H ⊢;exact H)
        (try rw [hji8] at A5)
        have hji8w:(IntKind.i64.wrap (x7_1 - 1)) = ji8:=(i64_w _).trans hji8
        by_cases c9:0 ≤ (ji8)
        ·rw [if_pos c9] at H
         have c9b0:decide (0 ≤ (ji8)) = true:=decide_eq_true c9
         clear c9
         by_cases c10:(ji8) < (l0.length:Int)
         ·rw [if_pos c10] at H
          have c10b0:decide ((ji8) < (l0.length:Int)) = true:=decide_eq_true c10
          clear c10
          replace H:=lF H
          obtain ⟨t702,A110,H⟩:=H
          replace H:(if t702 = true then (impl_SetOk.l0 k1 l0 l0 (l0.length:Int) (wrap64 (x7_1 + 1))) else (some false)) = some r:=H
          have A11:=aA.mk A110
          clear A110
          by_cases c12:t702 = true
          ·subst c12
           have H1:(impl_SetOk.l0 k1 l0 l0 (l0.length:Int) (wrap64 (x7_1 + 1))) = some r:=by rw [if_pos rfl] at H;exact H
           clear H
           have H:=H1
           clear H1
           have H':=aA.mk H
           clear H
           have p698:0 ≤ (x7_1:Int):=lE tF
           have q698:x7_1 < (l0.length:Int):=lE tF
           obtain ⟨ad698,e698,hx698_0,hx698_1,hx698_2,hx698_3,hx698_4⟩:=at_T38 HR0.out x7_1 p698 q698
           cases e698
           replace hx698_0:=(HB.out.cell (lD w _ hx698_0)).trans hx698_0
           replace hx698_1:=(HB.out.cell (lD w _ hx698_1)).trans hx698_1
           replace hx698_2:=(HB.out.cell (lD w _ hx698_2)).trans hx698_2
           replace hx698_3:=(HB.out.cell (lD w _ hx698_3)).trans hx698_3
           replace hx698_4:=(HB.out.cell (lD w _ hx698_4)).trans hx698_4
           replace p698:=eq_true p698
           replace q698:=eq_true q698
           try go_wp2_with (first|((with_reducible refine aZ (N:=4) rfl ?_);refine bB ?hg (N:=4) ?hd (cs:=#[.int .i64 0,.int .i64 0,.int .i64 0,.int .i64 0,.int .i64 0]) (t:=38) ?hr ?_;(case hd=>rfl);(case hg=>rfl);(case hr=>exact tJ);intro gb699 hg w13 hbox hb;have BK699:=aA.mk (hbox);have GW699:=aA.mk ((by rw [hg];exact (aM HB.out):w.heap.size ≤ gb699));have GE699:=aA.mk ((by rw [hg];exact (aM HB.out):w.heap.size ≤ gb699));replace HB:=aA.mk (aQ HB.out hb);clear hb hbox hg;obtain ⟨hcz14_0,hcz14_1,hcz14_2,hcz14_3,hcz14_4⟩:=cs5 BK699.out;obtain ⟨hfz14_0,hfz14_1,hfz14_2,hfz14_3,hfz14_4⟩:=fs5 BK699.out))
           have n0_:aA ((((((w13.setCell ⟨gb699,0,none⟩ (.int .i64 ((rd_T38 l0 x7_1).f0))).setCell ⟨gb699,1,none⟩ (.int .i64 ((rd_T38 l0 x7_1).f1))).setCell ⟨gb699,2,none⟩ (.int .i64 ((rd_T38 l0 x7_1).f2))).setCell ⟨gb699,3,none⟩ (.int .i64 ((rd_T38 l0 x7_1).f3))).setCell ⟨gb699,4,none⟩ (.int .i64 ((rd_T38 l0 x7_1).f4))).heap[gb699]? = some (.cells #[.int .i64 ((rd_T38 l0 x7_1).f0),.int .i64 ((rd_T38 l0 x7_1).f1),.int .i64 ((rd_T38 l0 x7_1).f2),.int .i64 ((rd_T38 l0 x7_1).f3),.int .i64 ((rd_T38 l0 x7_1).f4)] 38 (0,0))):=⟨tD⟩
           have n1_:aA (Below w.heap.size w (((((w13.setCell ⟨gb699,0,none⟩ (.int .i64 ((rd_T38 l0 x7_1).f0))).setCell ⟨gb699,1,none⟩ (.int .i64 ((rd_T38 l0 x7_1).f1))).setCell ⟨gb699,2,none⟩ (.int .i64 ((rd_T38 l0 x7_1).f2))).setCell ⟨gb699,3,none⟩ (.int .i64 ((rd_T38 l0 x7_1).f3))).setCell ⟨gb699,4,none⟩ (.int .i64 ((rd_T38 l0 x7_1).f4)))):=⟨tx⟩
           (try clear BK699)
           (try clear HB)
           generalize (((((w13.setCell ⟨gb699,0,none⟩ (.int .i64 ((rd_T38 l0 x7_1).f0))).setCell ⟨gb699,1,none⟩ (.int .i64 ((rd_T38 l0 x7_1).f1))).setCell ⟨gb699,2,none⟩ (.int .i64 ((rd_T38 l0 x7_1).f2))).setCell ⟨gb699,3,none⟩ (.int .i64 ((rd_T38 l0 x7_1).f3))).setCell ⟨gb699,4,none⟩ (.int .i64 ((rd_T38 l0 x7_1).f4))) = w15 at n0_ n1_ ⊢
           have BK699:=n0_
           have HB:=n1_
           clear n0_ n1_
           replace BK699:=aA.mk (aH BK699.out)
           replace HB:=aA.mk (aJ HB.out)
           have p701:0 ≤ ((ji8):Int):=lE tF
           have q701:(ji8) < (l0.length:Int):=lE tF
           obtain ⟨ad701,e701,hx701_0,hx701_1,hx701_2,hx701_3,hx701_4⟩:=at_T38 HR0.out (ji8) p701 q701
           have hw701_4:=hx701_4
           have hw701_3:=hx701_3
           have hw701_2:=hx701_2
           have hw701_1:=hx701_1
           have hw701_0:=hx701_0
           obtain rfl:ad698 = ad701:=(by injection e701)
           replace hx701_0:=(HB.out.cell (lD w _ hx701_0)).trans hx701_0
           replace hx701_1:=(HB.out.cell (lD w _ hx701_1)).trans hx701_1
           replace hx701_2:=(HB.out.cell (lD w _ hx701_2)).trans hx701_2
           replace hx701_3:=(HB.out.cell (lD w _ hx701_3)).trans hx701_3
           replace hx701_4:=(HB.out.cell (lD w _ hx701_4)).trans hx701_4
           replace p701:=eq_true p701
           replace q701:=eq_true q701
           refine start_ (n:=17) (S:=fun w'=>w'.cell? ⟨gb699,0,none⟩ = some (.int .i64 ((rd_T38 l0 x7_1).f0)) ∧ w'.cell? ⟨gb699,1,none⟩ = some (.int .i64 ((rd_T38 l0 x7_1).f1)) ∧ w'.cell? ⟨gb699,2,none⟩ = some (.int .i64 ((rd_T38 l0 x7_1).f2)) ∧ w'.cell? ⟨gb699,3,none⟩ = some (.int .i64 ((rd_T38 l0 x7_1).f3)) ∧ w'.cell? ⟨gb699,4,none⟩ = some (.int .i64 ((rd_T38 l0 x7_1).f4)) ∧ w'.cell? (ad698.add (((ji8)).toNat * 5)) = some (.int .i64 ((rd_T38 l0 (ji8)).f0)) ∧ w'.cell? ⟨(ad698.add (((ji8)).toNat * 5)).block,(ad698.add (((ji8)).toNat * 5)).off + 1,none⟩ = some (.int .i64 ((rd_T38 l0 (ji8)).f1)) ∧ w'.cell? ⟨(ad698.add (((ji8)).toNat * 5)).block,(ad698.add (((ji8)).toNat * 5)).off + 2,none⟩ = some (.int .i64 ((rd_T38 l0 (ji8)).f2)) ∧ w'.cell? ⟨(ad698.add (((ji8)).toNat * 5)).block,(ad698.add (((ji8)).toNat * 5)).off + 3,none⟩ = some (.int .i64 ((rd_T38 l0 (ji8)).f3)) ∧ w'.cell? ⟨(ad698.add (((ji8)).toNat * 5)).block,(ad698.add (((ji8)).toNat * 5)).off + 4,none⟩ = some (.int .i64 ((rd_T38 l0 (ji8)).f4))) (ds:=[]) #[F0,F0,F0,F0,F0,F0,F0,F0,F0,F0,F0,F0,F0,F0,F0,F0,F0] tH rfl rfl ⟨(aN BK699.out 0).trans rfl,(aN BK699.out 1).trans rfl,(aN BK699.out 2).trans rfl,(aN BK699.out 3).trans rfl,(aN BK699.out 4).trans rfl,((HB.out.cell (lD w _ hw701_0)).trans hw701_0),((HB.out.cell (lD w _ hw701_1)).trans hw701_1),((HB.out.cell (lD w _ hw701_2)).trans hw701_2),((HB.out.cell (lD w _ hw701_3)).trans hw701_3),((HB.out.cell (lD w _ hw701_4)).trans hw701_4)⟩ (fun hHeld=>?_);refine with_tabW impl_SetOk.tab4 impl_SetOk.bits4 (fun HT_ HW_=>?_)
           generalize w15.drew = w16 at BK699 HB hx701_0 hx701_1 hx701_2 hx701_3 hx701_4 hHeld ⊢
           refine tu10 (i:=0) (N:=some 12) (bq1 1 17) ?_
           refine one_ (i:=1) (N:=some 13) (bq1 3 17) rfl rfl (one_of HT_.out tH) tb (fun K hK=>?_)
           refine goes_ Try.func58 tH rfl #[.agg #[.int .i64 ((rd_T38 l0 x7_1).f0),.int .i64 ((rd_T38 l0 x7_1).f1),.int .i64 ((rd_T38 l0 x7_1).f2),.int .i64 ((rd_T38 l0 x7_1).f3),.int .i64 ((rd_T38 l0 x7_1).f4)]] vH rfl rfl tA ?_
           with_reducible refine (impl_KeyOk.calls k1 ((rd_T38 l0 x7_1).f0) ((rd_T38 l0 x7_1).f1) ((rd_T38 l0 x7_1).f2) ((rd_T38 l0 x7_1).f3) ((rd_T38 l0 x7_1).f4) true _ A5.out).mono ?_
           rintro e w17 ⟨rfl,hb⟩
           refine ⟨_,rfl,?_⟩
           replace BK699:=nB BK699
           replace HB:=aA.mk (aQ HB.out hb)
           (try clear hb)
           (try clear hb2)
           (try clear hk)
           (try clear hi)
           refine hK.out _ _ ⟨(aN BK699.out 0).trans rfl,(aN BK699.out 1).trans rfl,(aN BK699.out 2).trans rfl,(aN BK699.out 3).trans rfl,(aN BK699.out 4).trans rfl,((HB.out.cell (lD w _ hw701_0)).trans hw701_0),((HB.out.cell (lD w _ hw701_1)).trans hw701_1),((HB.out.cell (lD w _ hw701_2)).trans hw701_2),((HB.out.cell (lD w _ hw701_3)).trans hw701_3),((HB.out.cell (lD w _ hw701_4)).trans hw701_4)⟩ (fun hHeld=>?_)
           clear hK K
           refine norm_ (a':=?_) ?_ ?_
           rotate_left
           ·show Act.put _ (some 13) _ = _
            simp only [Act.put,lA,lB,lC,i64_w,i32_w]
            rfl
           refine pu (i:=2) (N:=some 14) (bq1 7 17) ?_
           refine pu (i:=3) (N:=some 15) (bq1 15 17) ?_
           refine pu (i:=4) (N:=some 16) (bq1 31 17) ?_
           refine pu (i:=5) (N:=some 17) (bq1 63 17) ?_
           refine pu (i:=6) (N:=some 18) (bq1 127 17) ?_
           refine pu (i:=7) (N:=some 19) (bq1 255 17) ?_
           refine pu (i:=8) (N:=some 20) (bq1 511 17) ?_
           refine pu (i:=9) (N:=some 21) (bq1 1023 17) ?_
           refine pu (i:=10) (N:=some 22) (bq1 2047 17) ?_
           refine tu10 (i:=11) (N:=some 23) (bq1 4095 17) ?_
           refine tu10 (i:=12) (N:=some 24) (bq1 8191 17) ?_
           refine one_ (i:=13) (N:=some 25) (bq1 16383 17) rfl rfl (one_of HT_.out tH) tb (fun K hK=>?_)
           refine goes_ Try.func99 tH rfl #[.agg #[.int .i64 ((rd_T38 l0 (ji8)).f0),.int .i64 ((rd_T38 l0 (ji8)).f1),.int .i64 ((rd_T38 l0 (ji8)).f2),.int .i64 ((rd_T38 l0 (ji8)).f3),.int .i64 ((rd_T38 l0 (ji8)).f4)],.agg #[.int .i64 ((rd_T38 l0 x7_1).f0),.int .i64 ((rd_T38 l0 x7_1).f1),.int .i64 ((rd_T38 l0 x7_1).f2),.int .i64 ((rd_T38 l0 x7_1).f3),.int .i64 ((rd_T38 l0 x7_1).f4)]] vH rfl rfl AM ?_
           with_reducible refine (impl_LessKey.calls ((rd_T38 l0 (ji8)).f0) ((rd_T38 l0 (ji8)).f1) ((rd_T38 l0 (ji8)).f2) ((rd_T38 l0 (ji8)).f3) ((rd_T38 l0 (ji8)).f4) ((rd_T38 l0 x7_1).f0) ((rd_T38 l0 x7_1).f1) ((rd_T38 l0 x7_1).f2) ((rd_T38 l0 x7_1).f3) ((rd_T38 l0 x7_1).f4) true _ A11.out).mono ?_
           rintro e w18 ⟨rfl,hb⟩
           refine ⟨_,rfl,?_⟩
           replace BK699:=nB BK699
           replace HB:=aA.mk (aQ HB.out hb)
           (try clear hb)
           (try clear hb2)
           (try clear hk)
           (try clear hi)
           refine hK.out _ _ ⟨(aN BK699.out 0).trans rfl,(aN BK699.out 1).trans rfl,(aN BK699.out 2).trans rfl,(aN BK699.out 3).trans rfl,(aN BK699.out 4).trans rfl,((HB.out.cell (lD w _ hw701_0)).trans hw701_0),((HB.out.cell (lD w _ hw701_1)).trans hw701_1),((HB.out.cell (lD w _ hw701_2)).trans hw701_2),((HB.out.cell (lD w _ hw701_3)).trans hw701_3),((HB.out.cell (lD w _ hw701_4)).trans hw701_4)⟩ (fun hHeld=>?_)
           clear hK K
           refine norm_ (a':=?_) ?_ ?_
           rotate_left
           ·show Act.put _ (some 25) _ = _
            simp only [Act.put,lA,lB,lC,i64_w,i32_w]
            rfl
           refine pu (i:=14) (N:=some 26) (bq1 32767 17) ?_
           refine pu (i:=15) (N:=some 27) (bq1 65535 17) ?_
           refine pu (i:=16) (N:=some 28) (bq1 131071 17) ?_
           refine done_ (done_of HT_.out tH) ?_
           try go_wp2
           go_roundg k1
           case measure=>have:=HK1.out;omega
           case rel=>exact ⟨(wrap64 (x7_1 + 1)),tG,H',⟨wX⟩,⟨tx⟩⟩
          ·replace c12:=Bool.eq_false_iff.mpr c12
           subst c12
           have H1:(some false) = some r:=by rw [if_neg (show ¬ (false = true) by decide)] at H;exact H
           clear H
           have H:=H1
           clear H1
           obtain rfl:=Option.some.inj H
           have p698:0 ≤ (x7_1:Int):=lE tF
           have q698:x7_1 < (l0.length:Int):=lE tF
           obtain ⟨ad698,e698,hx698_0,hx698_1,hx698_2,hx698_3,hx698_4⟩:=at_T38 HR0.out x7_1 p698 q698
           cases e698
           replace hx698_0:=(HB.out.cell (lD w _ hx698_0)).trans hx698_0
           replace hx698_1:=(HB.out.cell (lD w _ hx698_1)).trans hx698_1
           replace hx698_2:=(HB.out.cell (lD w _ hx698_2)).trans hx698_2
           replace hx698_3:=(HB.out.cell (lD w _ hx698_3)).trans hx698_3
           replace hx698_4:=(HB.out.cell (lD w _ hx698_4)).trans hx698_4
           replace p698:=eq_true p698
           replace q698:=eq_true q698
           try go_wp2_with (first|((with_reducible refine aZ (N:=4) rfl ?_);refine bB ?hg (N:=4) ?hd (cs:=#[.int .i64 0,.int .i64 0,.int .i64 0,.int .i64 0,.int .i64 0]) (t:=38) ?hr ?_;(case hd=>rfl);(case hg=>rfl);(case hr=>exact tJ);intro gb699 hg w19 hbox hb;have BK699:=aA.mk (hbox);have GW699:=aA.mk ((by rw [hg];exact (aM HB.out):w.heap.size ≤ gb699));have GE699:=aA.mk ((by rw [hg];exact (aM HB.out):w.heap.size ≤ gb699));replace HB:=aA.mk (aQ HB.out hb);clear hb hbox hg;obtain ⟨hcz20_0,hcz20_1,hcz20_2,hcz20_3,hcz20_4⟩:=cs5 BK699.out;obtain ⟨hfz20_0,hfz20_1,hfz20_2,hfz20_3,hfz20_4⟩:=fs5 BK699.out))
           have n0_:aA ((((((w19.setCell ⟨gb699,0,none⟩ (.int .i64 ((rd_T38 l0 x7_1).f0))).setCell ⟨gb699,1,none⟩ (.int .i64 ((rd_T38 l0 x7_1).f1))).setCell ⟨gb699,2,none⟩ (.int .i64 ((rd_T38 l0 x7_1).f2))).setCell ⟨gb699,3,none⟩ (.int .i64 ((rd_T38 l0 x7_1).f3))).setCell ⟨gb699,4,none⟩ (.int .i64 ((rd_T38 l0 x7_1).f4))).heap[gb699]? = some (.cells #[.int .i64 ((rd_T38 l0 x7_1).f0),.int .i64 ((rd_T38 l0 x7_1).f1),.int .i64 ((rd_T38 l0 x7_1).f2),.int .i64 ((rd_T38 l0 x7_1).f3),.int .i64 ((rd_T38 l0 x7_1).f4)] 38 (0,0))):=⟨tD⟩
           have n1_:aA (Below w.heap.size w (((((w19.setCell ⟨gb699,0,none⟩ (.int .i64 ((rd_T38 l0 x7_1).f0))).setCell ⟨gb699,1,none⟩ (.int .i64 ((rd_T38 l0 x7_1).f1))).setCell ⟨gb699,2,none⟩ (.int .i64 ((rd_T38 l0 x7_1).f2))).setCell ⟨gb699,3,none⟩ (.int .i64 ((rd_T38 l0 x7_1).f3))).setCell ⟨gb699,4,none⟩ (.int .i64 ((rd_T38 l0 x7_1).f4)))):=⟨tx⟩
           (try clear BK699)
           (try clear HB)
           generalize (((((w19.setCell ⟨gb699,0,none⟩ (.int .i64 ((rd_T38 l0 x7_1).f0))).setCell ⟨gb699,1,none⟩ (.int .i64 ((rd_T38 l0 x7_1).f1))).setCell ⟨gb699,2,none⟩ (.int .i64 ((rd_T38 l0 x7_1).f2))).setCell ⟨gb699,3,none⟩ (.int .i64 ((rd_T38 l0 x7_1).f3))).setCell ⟨gb699,4,none⟩ (.int .i64 ((rd_T38 l0 x7_1).f4))) = w21 at n0_ n1_ ⊢
           have BK699:=n0_
           have HB:=n1_
           clear n0_ n1_
           replace BK699:=aA.mk (aH BK699.out)
           replace HB:=aA.mk (aJ HB.out)
           have p701:0 ≤ ((ji8):Int):=lE tF
           have q701:(ji8) < (l0.length:Int):=lE tF
           obtain ⟨ad701,e701,hx701_0,hx701_1,hx701_2,hx701_3,hx701_4⟩:=at_T38 HR0.out (ji8) p701 q701
           have hw701_4:=hx701_4
           have hw701_3:=hx701_3
           have hw701_2:=hx701_2
           have hw701_1:=hx701_1
           have hw701_0:=hx701_0
           obtain rfl:ad698 = ad701:=(by injection e701)
           replace hx701_0:=(HB.out.cell (lD w _ hx701_0)).trans hx701_0
           replace hx701_1:=(HB.out.cell (lD w _ hx701_1)).trans hx701_1
           replace hx701_2:=(HB.out.cell (lD w _ hx701_2)).trans hx701_2
           replace hx701_3:=(HB.out.cell (lD w _ hx701_3)).trans hx701_3
           replace hx701_4:=(HB.out.cell (lD w _ hx701_4)).trans hx701_4
           replace p701:=eq_true p701
           replace q701:=eq_true q701
           refine start_ (n:=17) (S:=fun w'=>w'.cell? ⟨gb699,0,none⟩ = some (.int .i64 ((rd_T38 l0 x7_1).f0)) ∧ w'.cell? ⟨gb699,1,none⟩ = some (.int .i64 ((rd_T38 l0 x7_1).f1)) ∧ w'.cell? ⟨gb699,2,none⟩ = some (.int .i64 ((rd_T38 l0 x7_1).f2)) ∧ w'.cell? ⟨gb699,3,none⟩ = some (.int .i64 ((rd_T38 l0 x7_1).f3)) ∧ w'.cell? ⟨gb699,4,none⟩ = some (.int .i64 ((rd_T38 l0 x7_1).f4)) ∧ w'.cell? (ad698.add (((ji8)).toNat * 5)) = some (.int .i64 ((rd_T38 l0 (ji8)).f0)) ∧ w'.cell? ⟨(ad698.add (((ji8)).toNat * 5)).block,(ad698.add (((ji8)).toNat * 5)).off + 1,none⟩ = some (.int .i64 ((rd_T38 l0 (ji8)).f1)) ∧ w'.cell? ⟨(ad698.add (((ji8)).toNat * 5)).block,(ad698.add (((ji8)).toNat * 5)).off + 2,none⟩ = some (.int .i64 ((rd_T38 l0 (ji8)).f2)) ∧ w'.cell? ⟨(ad698.add (((ji8)).toNat * 5)).block,(ad698.add (((ji8)).toNat * 5)).off + 3,none⟩ = some (.int .i64 ((rd_T38 l0 (ji8)).f3)) ∧ w'.cell? ⟨(ad698.add (((ji8)).toNat * 5)).block,(ad698.add (((ji8)).toNat * 5)).off + 4,none⟩ = some (.int .i64 ((rd_T38 l0 (ji8)).f4))) (ds:=[]) #[F0,F0,F0,F0,F0,F0,F0,F0,F0,F0,F0,F0,F0,F0,F0,F0,F0] tH rfl rfl ⟨(aN BK699.out 0).trans rfl,(aN BK699.out 1).trans rfl,(aN BK699.out 2).trans rfl,(aN BK699.out 3).trans rfl,(aN BK699.out 4).trans rfl,((HB.out.cell (lD w _ hw701_0)).trans hw701_0),((HB.out.cell (lD w _ hw701_1)).trans hw701_1),((HB.out.cell (lD w _ hw701_2)).trans hw701_2),((HB.out.cell (lD w _ hw701_3)).trans hw701_3),((HB.out.cell (lD w _ hw701_4)).trans hw701_4)⟩ (fun hHeld=>?_);refine with_tabW impl_SetOk.tab4 impl_SetOk.bits4 (fun HT_ HW_=>?_)
           generalize w21.drew = w22 at BK699 HB hx701_0 hx701_1 hx701_2 hx701_3 hx701_4 hHeld ⊢
           refine tu10 (i:=0) (N:=some 12) (bq1 1 17) ?_
           refine one_ (i:=1) (N:=some 13) (bq1 3 17) rfl rfl (one_of HT_.out tH) tb (fun K hK=>?_)
           refine goes_ Try.func58 tH rfl #[.agg #[.int .i64 ((rd_T38 l0 x7_1).f0),.int .i64 ((rd_T38 l0 x7_1).f1),.int .i64 ((rd_T38 l0 x7_1).f2),.int .i64 ((rd_T38 l0 x7_1).f3),.int .i64 ((rd_T38 l0 x7_1).f4)]] vH rfl rfl tA ?_
           with_reducible refine (impl_KeyOk.calls k1 ((rd_T38 l0 x7_1).f0) ((rd_T38 l0 x7_1).f1) ((rd_T38 l0 x7_1).f2) ((rd_T38 l0 x7_1).f3) ((rd_T38 l0 x7_1).f4) true _ A5.out).mono ?_
           rintro e w23 ⟨rfl,hb⟩
           refine ⟨_,rfl,?_⟩
           replace BK699:=nB BK699
           replace HB:=aA.mk (aQ HB.out hb)
           (try clear hb)
           (try clear hb2)
           (try clear hk)
           (try clear hi)
           refine hK.out _ _ ⟨(aN BK699.out 0).trans rfl,(aN BK699.out 1).trans rfl,(aN BK699.out 2).trans rfl,(aN BK699.out 3).trans rfl,(aN BK699.out 4).trans rfl,((HB.out.cell (lD w _ hw701_0)).trans hw701_0),((HB.out.cell (lD w _ hw701_1)).trans hw701_1),((HB.out.cell (lD w _ hw701_2)).trans hw701_2),((HB.out.cell (lD w _ hw701_3)).trans hw701_3),((HB.out.cell (lD w _ hw701_4)).trans hw701_4)⟩ (fun hHeld=>?_)
           clear hK K
           refine norm_ (a':=?_) ?_ ?_
           rotate_left
           ·show Act.put _ (some 13) _ = _
            simp only [Act.put,lA,lB,lC,i64_w,i32_w]
            rfl
           refine pu (i:=2) (N:=some 14) (bq1 7 17) ?_
           refine pu (i:=3) (N:=some 15) (bq1 15 17) ?_
           refine pu (i:=4) (N:=some 16) (bq1 31 17) ?_
           refine pu (i:=5) (N:=some 17) (bq1 63 17) ?_
           refine pu (i:=6) (N:=some 18) (bq1 127 17) ?_
           refine pu (i:=7) (N:=some 19) (bq1 255 17) ?_
           refine pu (i:=8) (N:=some 20) (bq1 511 17) ?_
           refine pu (i:=9) (N:=some 21) (bq1 1023 17) ?_
           refine pu (i:=10) (N:=some 22) (bq1 2047 17) ?_
           refine tu10 (i:=11) (N:=some 23) (bq1 4095 17) ?_
           refine tu10 (i:=12) (N:=some 24) (bq1 8191 17) ?_
           refine one_ (i:=13) (N:=some 25) (bq1 16383 17) rfl rfl (one_of HT_.out tH) tb (fun K hK=>?_)
           refine goes_ Try.func99 tH rfl #[.agg #[.int .i64 ((rd_T38 l0 (ji8)).f0),.int .i64 ((rd_T38 l0 (ji8)).f1),.int .i64 ((rd_T38 l0 (ji8)).f2),.int .i64 ((rd_T38 l0 (ji8)).f3),.int .i64 ((rd_T38 l0 (ji8)).f4)],.agg #[.int .i64 ((rd_T38 l0 x7_1).f0),.int .i64 ((rd_T38 l0 x7_1).f1),.int .i64 ((rd_T38 l0 x7_1).f2),.int .i64 ((rd_T38 l0 x7_1).f3),.int .i64 ((rd_T38 l0 x7_1).f4)]] vH rfl rfl AM ?_
           with_reducible refine (impl_LessKey.calls ((rd_T38 l0 (ji8)).f0) ((rd_T38 l0 (ji8)).f1) ((rd_T38 l0 (ji8)).f2) ((rd_T38 l0 (ji8)).f3) ((rd_T38 l0 (ji8)).f4) ((rd_T38 l0 x7_1).f0) ((rd_T38 l0 x7_1).f1) ((rd_T38 l0 x7_1).f2) ((rd_T38 l0 x7_1).f3) ((rd_T38 l0 x7_1).f4) false _ A11.out).mono ?_
           rintro e w24 ⟨rfl,hb⟩
           refine ⟨_,rfl,?_⟩
           replace BK699:=nB BK699
           replace HB:=aA.mk (aQ HB.out hb)
           (try clear hb)
           (try clear hb2)
           (try clear hk)
           (try clear hi)
           refine hK.out _ _ ⟨(aN BK699.out 0).trans rfl,(aN BK699.out 1).trans rfl,(aN BK699.out 2).trans rfl,(aN BK699.out 3).trans rfl,(aN BK699.out 4).trans rfl,((HB.out.cell (lD w _ hw701_0)).trans hw701_0),((HB.out.cell (lD w _ hw701_1)).trans hw701_1),((HB.out.cell (lD w _ hw701_2)).trans hw701_2),((HB.out.cell (lD w _ hw701_3)).trans hw701_3),((HB.out.cell (lD w _ hw701_4)).trans hw701_4)⟩ (fun hHeld=>?_)
           clear hK K
           refine norm_ (a':=?_) ?_ ?_
           rotate_left
           ·show Act.put _ (some 25) _ = _
            simp only [Act.put,lA,lB,lC,i64_w,i32_w]
            rfl
           refine pu (i:=14) (N:=some 26) (bq1 32767 17) ?_
           refine pu (i:=15) (N:=some 27) (bq1 65535 17) ?_
           refine pu (i:=16) (N:=some 28) (bq1 131071 17) ?_
           refine done_ (done_of HT_.out tH) ?_
           try go_wp2
           go_ret
           exact ⟨by first|rfl|(simp [errW_none,errW_some] <;> rfl)|(simp only [← hji8];first|rfl|(simp [errW_none,errW_some] <;> rfl))|(simp [*,errW_none,errW_some] <;> rfl),tx⟩
         ·rw [if_neg c10] at H
          exact vM
        ·rw [if_neg c9] at H
         exact vM
       ·rw [if_neg c7] at H
        have c7b0:decide (0 < x7_1) = false:=decide_eq_false c7
        clear c7
        have H':=aA.mk H
        clear H
        have p698:0 ≤ (x7_1:Int):=lE tF
        have q698:x7_1 < (l0.length:Int):=lE tF
        obtain ⟨ad698,e698,hx698_0,hx698_1,hx698_2,hx698_3,hx698_4⟩:=at_T38 HR0.out x7_1 p698 q698
        cases e698
        replace hx698_0:=(HB.out.cell (lD w _ hx698_0)).trans hx698_0
        replace hx698_1:=(HB.out.cell (lD w _ hx698_1)).trans hx698_1
        replace hx698_2:=(HB.out.cell (lD w _ hx698_2)).trans hx698_2
        replace hx698_3:=(HB.out.cell (lD w _ hx698_3)).trans hx698_3
        replace hx698_4:=(HB.out.cell (lD w _ hx698_4)).trans hx698_4
        replace p698:=eq_true p698
        replace q698:=eq_true q698
        try go_wp2_with (first|((with_reducible refine aZ (N:=4) rfl ?_);refine bB ?hg (N:=4) ?hd (cs:=#[.int .i64 0,.int .i64 0,.int .i64 0,.int .i64 0,.int .i64 0]) (t:=38) ?hr ?_;(case hd=>rfl);(case hg=>rfl);(case hr=>exact tJ);intro gb699 hg w25 hbox hb;have BK699:=aA.mk (hbox);have GW699:=aA.mk ((by rw [hg];exact (aM HB.out):w.heap.size ≤ gb699));have GE699:=aA.mk ((by rw [hg];exact (aM HB.out):w.heap.size ≤ gb699));replace HB:=aA.mk (aQ HB.out hb);clear hb hbox hg;obtain ⟨hcz26_0,hcz26_1,hcz26_2,hcz26_3,hcz26_4⟩:=cs5 BK699.out;obtain ⟨hfz26_0,hfz26_1,hfz26_2,hfz26_3,hfz26_4⟩:=fs5 BK699.out))
        have n0_:aA ((((((w25.setCell ⟨gb699,0,none⟩ (.int .i64 ((rd_T38 l0 x7_1).f0))).setCell ⟨gb699,1,none⟩ (.int .i64 ((rd_T38 l0 x7_1).f1))).setCell ⟨gb699,2,none⟩ (.int .i64 ((rd_T38 l0 x7_1).f2))).setCell ⟨gb699,3,none⟩ (.int .i64 ((rd_T38 l0 x7_1).f3))).setCell ⟨gb699,4,none⟩ (.int .i64 ((rd_T38 l0 x7_1).f4))).heap[gb699]? = some (.cells #[.int .i64 ((rd_T38 l0 x7_1).f0),.int .i64 ((rd_T38 l0 x7_1).f1),.int .i64 ((rd_T38 l0 x7_1).f2),.int .i64 ((rd_T38 l0 x7_1).f3),.int .i64 ((rd_T38 l0 x7_1).f4)] 38 (0,0))):=⟨tD⟩
        have n1_:aA (Below w.heap.size w (((((w25.setCell ⟨gb699,0,none⟩ (.int .i64 ((rd_T38 l0 x7_1).f0))).setCell ⟨gb699,1,none⟩ (.int .i64 ((rd_T38 l0 x7_1).f1))).setCell ⟨gb699,2,none⟩ (.int .i64 ((rd_T38 l0 x7_1).f2))).setCell ⟨gb699,3,none⟩ (.int .i64 ((rd_T38 l0 x7_1).f3))).setCell ⟨gb699,4,none⟩ (.int .i64 ((rd_T38 l0 x7_1).f4)))):=⟨tx⟩
        (try clear BK699)
        (try clear HB)
        generalize (((((w25.setCell ⟨gb699,0,none⟩ (.int .i64 ((rd_T38 l0 x7_1).f0))).setCell ⟨gb699,1,none⟩ (.int .i64 ((rd_T38 l0 x7_1).f1))).setCell ⟨gb699,2,none⟩ (.int .i64 ((rd_T38 l0 x7_1).f2))).setCell ⟨gb699,3,none⟩ (.int .i64 ((rd_T38 l0 x7_1).f3))).setCell ⟨gb699,4,none⟩ (.int .i64 ((rd_T38 l0 x7_1).f4))) = w27 at n0_ n1_ ⊢
        have BK699:=n0_
        have HB:=n1_
        clear n0_ n1_
        replace BK699:=aA.mk (aH BK699.out)
        replace HB:=aA.mk (aJ HB.out)
        refine start_ (n:=17) (S:=fun w'=>w'.cell? ⟨gb699,0,none⟩ = some (.int .i64 ((rd_T38 l0 x7_1).f0)) ∧ w'.cell? ⟨gb699,1,none⟩ = some (.int .i64 ((rd_T38 l0 x7_1).f1)) ∧ w'.cell? ⟨gb699,2,none⟩ = some (.int .i64 ((rd_T38 l0 x7_1).f2)) ∧ w'.cell? ⟨gb699,3,none⟩ = some (.int .i64 ((rd_T38 l0 x7_1).f3)) ∧ w'.cell? ⟨gb699,4,none⟩ = some (.int .i64 ((rd_T38 l0 x7_1).f4))) (ds:=[]) #[F0,F0,F0,F0,F0,F0,F0,F0,F0,F0,F0,F0,F0,F0,F0,F0,F0] tH rfl rfl ⟨(aN BK699.out 0).trans rfl,(aN BK699.out 1).trans rfl,(aN BK699.out 2).trans rfl,(aN BK699.out 3).trans rfl,(aN BK699.out 4).trans rfl⟩ (fun hHeld=>?_);refine with_tabW impl_SetOk.tab4 impl_SetOk.bits4 (fun HT_ HW_=>?_)
        generalize w27.drew = w28 at BK699 HB hHeld ⊢
        refine tu5 (i:=0) (N:=some 12) (bq1 1 17) ?_
        refine one_ (i:=1) (N:=some 13) (bq1 3 17) rfl rfl (one_of HT_.out tH) tb (fun K hK=>?_)
        refine goes_ Try.func58 tH rfl #[.agg #[.int .i64 ((rd_T38 l0 x7_1).f0),.int .i64 ((rd_T38 l0 x7_1).f1),.int .i64 ((rd_T38 l0 x7_1).f2),.int .i64 ((rd_T38 l0 x7_1).f3),.int .i64 ((rd_T38 l0 x7_1).f4)]] vH rfl rfl tA ?_
        with_reducible refine (impl_KeyOk.calls k1 ((rd_T38 l0 x7_1).f0) ((rd_T38 l0 x7_1).f1) ((rd_T38 l0 x7_1).f2) ((rd_T38 l0 x7_1).f3) ((rd_T38 l0 x7_1).f4) true _ A5.out).mono ?_
        rintro e w29 ⟨rfl,hb⟩
        refine ⟨_,rfl,?_⟩
        replace BK699:=nB BK699
        replace HB:=aA.mk (aQ HB.out hb)
        (try clear hb)
        (try clear hb2)
        (try clear hk)
        (try clear hi)
        refine hK.out _ _ ⟨(aN BK699.out 0).trans rfl,(aN BK699.out 1).trans rfl,(aN BK699.out 2).trans rfl,(aN BK699.out 3).trans rfl,(aN BK699.out 4).trans rfl⟩ (fun hHeld=>?_)
        clear hK K
        refine norm_ (a':=?_) ?_ ?_
        rotate_left
        ·show Act.put _ (some 13) _ = _
         simp only [Act.put,lA,lB,lC,i64_w,i32_w]
         rfl
        refine pu (i:=2) (N:=some 14) (bq1 7 17) ?_
        refine pu (i:=3) (N:=some 15) (bq1 15 17) ?_
        refine pu (i:=4) (N:=some 16) (bq1 31 17) ?_
        refine pu (i:=5) (N:=some 17) (bq1 63 17) ?_
        refine pu (i:=6) (N:=some 18) (bq1 127 17) ?_
        refine pv (i:=7) (N:=some 19) (bq1 255 17) ?_
        refine pv (i:=8) (N:=some 20) (bq1 511 17) ?_
        refine pv (i:=9) (N:=some 21) (bq1 1023 17) ?_
        refine pv (i:=10) (N:=some 22) (bq1 2047 17) ?_
        refine pv (i:=11) (N:=some 23) (bq1 4095 17) ?_
        refine pv (i:=12) (N:=some 24) (bq1 8191 17) ?_
        refine pv (i:=13) (N:=some 25) (bq1 16383 17) ?_
        refine pv (i:=14) (N:=some 26) (bq1 32767 17) ?_
        refine pu (i:=15) (N:=some 27) (bq1 65535 17) ?_
        refine pu (i:=16) (N:=some 28) (bq1 131071 17) ?_
        refine done_ (done_of HT_.out tH) ?_
        try go_wp2
        go_roundg k1
        case measure=>have:=HK1.out;omega
        case rel=>exact ⟨(wrap64 (x7_1 + 1)),tG,H',⟨wX⟩,⟨tx⟩⟩
      ·replace c6:=Bool.eq_false_iff.mpr c6
       subst c6
       have H1:(some false) = some r:=by rw [if_neg (show ¬ (false = true) by decide)] at H;exact H
       clear H
       have H:=H1
       clear H1
       obtain rfl:=Option.some.inj H
       have p698:0 ≤ (x7_1:Int):=lE tF
       have q698:x7_1 < (l0.length:Int):=lE tF
       obtain ⟨ad698,e698,hx698_0,hx698_1,hx698_2,hx698_3,hx698_4⟩:=at_T38 HR0.out x7_1 p698 q698
       cases e698
       replace hx698_0:=(HB.out.cell (lD w _ hx698_0)).trans hx698_0
       replace hx698_1:=(HB.out.cell (lD w _ hx698_1)).trans hx698_1
       replace hx698_2:=(HB.out.cell (lD w _ hx698_2)).trans hx698_2
       replace hx698_3:=(HB.out.cell (lD w _ hx698_3)).trans hx698_3
       replace hx698_4:=(HB.out.cell (lD w _ hx698_4)).trans hx698_4
       replace p698:=eq_true p698
       replace q698:=eq_true q698
       try go_wp2_with (first|((with_reducible refine aZ (N:=4) rfl ?_);refine bB ?hg (N:=4) ?hd (cs:=#[.int .i64 0,.int .i64 0,.int .i64 0,.int .i64 0,.int .i64 0]) (t:=38) ?hr ?_;(case hd=>rfl);(case hg=>rfl);(case hr=>exact tJ);intro gb699 hg w30 hbox hb;have BK699:=aA.mk (hbox);have GW699:=aA.mk ((by rw [hg];exact (aM HB.out):w.heap.size ≤ gb699));have GE699:=aA.mk ((by rw [hg];exact (aM HB.out):w.heap.size ≤ gb699));replace HB:=aA.mk (aQ HB.out hb);clear hb hbox hg;obtain ⟨hcz31_0,hcz31_1,hcz31_2,hcz31_3,hcz31_4⟩:=cs5 BK699.out;obtain ⟨hfz31_0,hfz31_1,hfz31_2,hfz31_3,hfz31_4⟩:=fs5 BK699.out))
       have n0_:aA ((((((w30.setCell ⟨gb699,0,none⟩ (.int .i64 ((rd_T38 l0 x7_1).f0))).setCell ⟨gb699,1,none⟩ (.int .i64 ((rd_T38 l0 x7_1).f1))).setCell ⟨gb699,2,none⟩ (.int .i64 ((rd_T38 l0 x7_1).f2))).setCell ⟨gb699,3,none⟩ (.int .i64 ((rd_T38 l0 x7_1).f3))).setCell ⟨gb699,4,none⟩ (.int .i64 ((rd_T38 l0 x7_1).f4))).heap[gb699]? = some (.cells #[.int .i64 ((rd_T38 l0 x7_1).f0),.int .i64 ((rd_T38 l0 x7_1).f1),.int .i64 ((rd_T38 l0 x7_1).f2),.int .i64 ((rd_T38 l0 x7_1).f3),.int .i64 ((rd_T38 l0 x7_1).f4)] 38 (0,0))):=⟨tD⟩
       have n1_:aA (Below w.heap.size w (((((w30.setCell ⟨gb699,0,none⟩ (.int .i64 ((rd_T38 l0 x7_1).f0))).setCell ⟨gb699,1,none⟩ (.int .i64 ((rd_T38 l0 x7_1).f1))).setCell ⟨gb699,2,none⟩ (.int .i64 ((rd_T38 l0 x7_1).f2))).setCell ⟨gb699,3,none⟩ (.int .i64 ((rd_T38 l0 x7_1).f3))).setCell ⟨gb699,4,none⟩ (.int .i64 ((rd_T38 l0 x7_1).f4)))):=⟨tx⟩
       (try clear BK699)
       (try clear HB)
       generalize (((((w30.setCell ⟨gb699,0,none⟩ (.int .i64 ((rd_T38 l0 x7_1).f0))).setCell ⟨gb699,1,none⟩ (.int .i64 ((rd_T38 l0 x7_1).f1))).setCell ⟨gb699,2,none⟩ (.int .i64 ((rd_T38 l0 x7_1).f2))).setCell ⟨gb699,3,none⟩ (.int .i64 ((rd_T38 l0 x7_1).f3))).setCell ⟨gb699,4,none⟩ (.int .i64 ((rd_T38 l0 x7_1).f4))) = w32 at n0_ n1_ ⊢
       have BK699:=n0_
       have HB:=n1_
       clear n0_ n1_
       replace BK699:=aA.mk (aH BK699.out)
       replace HB:=aA.mk (aJ HB.out)
       refine start_ (n:=17) (S:=fun w'=>w'.cell? ⟨gb699,0,none⟩ = some (.int .i64 ((rd_T38 l0 x7_1).f0)) ∧ w'.cell? ⟨gb699,1,none⟩ = some (.int .i64 ((rd_T38 l0 x7_1).f1)) ∧ w'.cell? ⟨gb699,2,none⟩ = some (.int .i64 ((rd_T38 l0 x7_1).f2)) ∧ w'.cell? ⟨gb699,3,none⟩ = some (.int .i64 ((rd_T38 l0 x7_1).f3)) ∧ w'.cell? ⟨gb699,4,none⟩ = some (.int .i64 ((rd_T38 l0 x7_1).f4))) (ds:=[]) #[F0,F0,F0,F0,F0,F0,F0,F0,F0,F0,F0,F0,F0,F0,F0,F0,F0] tH rfl rfl ⟨(aN BK699.out 0).trans rfl,(aN BK699.out 1).trans rfl,(aN BK699.out 2).trans rfl,(aN BK699.out 3).trans rfl,(aN BK699.out 4).trans rfl⟩ (fun hHeld=>?_);refine with_tabW impl_SetOk.tab4 impl_SetOk.bits4 (fun HT_ HW_=>?_)
       generalize w32.drew = w33 at BK699 HB hHeld ⊢
       refine tu5 (i:=0) (N:=some 12) (bq1 1 17) ?_
       refine one_ (i:=1) (N:=some 13) (bq1 3 17) rfl rfl (one_of HT_.out tH) tb (fun K hK=>?_)
       refine goes_ Try.func58 tH rfl #[.agg #[.int .i64 ((rd_T38 l0 x7_1).f0),.int .i64 ((rd_T38 l0 x7_1).f1),.int .i64 ((rd_T38 l0 x7_1).f2),.int .i64 ((rd_T38 l0 x7_1).f3),.int .i64 ((rd_T38 l0 x7_1).f4)]] vH rfl rfl tA ?_
       with_reducible refine (impl_KeyOk.calls k1 ((rd_T38 l0 x7_1).f0) ((rd_T38 l0 x7_1).f1) ((rd_T38 l0 x7_1).f2) ((rd_T38 l0 x7_1).f3) ((rd_T38 l0 x7_1).f4) false _ A5.out).mono ?_
       rintro e w34 ⟨rfl,hb⟩
       refine ⟨_,rfl,?_⟩
       replace BK699:=nB BK699
       replace HB:=aA.mk (aQ HB.out hb)
       (try clear hb)
       (try clear hb2)
       (try clear hk)
       (try clear hi)
       refine hK.out _ _ ⟨(aN BK699.out 0).trans rfl,(aN BK699.out 1).trans rfl,(aN BK699.out 2).trans rfl,(aN BK699.out 3).trans rfl,(aN BK699.out 4).trans rfl⟩ (fun hHeld=>?_)
       clear hK K
       refine norm_ (a':=?_) ?_ ?_
       rotate_left
       ·show Act.put _ (some 13) _ = _
        simp only [Act.put,lA,lB,lC,i64_w,i32_w]
        rfl
       refine pu (i:=2) (N:=some 14) (bq1 7 17) ?_
       refine pu (i:=3) (N:=some 15) (bq1 15 17) ?_
       refine pv (i:=4) (N:=some 16) (bq1 31 17) ?_
       refine pv (i:=5) (N:=some 17) (bq1 63 17) ?_
       refine pv (i:=6) (N:=some 18) (bq1 127 17) ?_
       refine pv (i:=7) (N:=some 19) (bq1 255 17) ?_
       refine pv (i:=8) (N:=some 20) (bq1 511 17) ?_
       refine pv (i:=9) (N:=some 21) (bq1 1023 17) ?_
       refine pv (i:=10) (N:=some 22) (bq1 2047 17) ?_
       refine pv (i:=11) (N:=some 23) (bq1 4095 17) ?_
       refine pv (i:=12) (N:=some 24) (bq1 8191 17) ?_
       refine pv (i:=13) (N:=some 25) (bq1 16383 17) ?_
       refine pv (i:=14) (N:=some 26) (bq1 32767 17) ?_
       refine pv (i:=15) (N:=some 27) (bq1 65535 17) ?_
       refine pu (i:=16) (N:=some 28) (bq1 131071 17) ?_
       refine done_ (done_of HT_.out tH) ?_
       try go_wp2
       go_ret
       exact ⟨tC,tx⟩
     ·rw [if_neg c4] at H
      exact vM
    ·rw [if_neg c3] at H
     exact vM
   ·rw [if_neg c2] at H
    have c2b0:decide (x7_1 < (l0.length:Int)) = false:=decide_eq_false c2
    clear c2
    obtain rfl:=Option.some.inj H
    go_wp2
    go_ret
    exact ⟨tC,tj⟩
end Go.Proofs.Ytamjbjkbineafaa.PFnPacked

namespace Go.Proofs.Ytamjbjkbineafaa.PFnPacked
open Go.RowKit Go.Proofs.YtamjbjkbineafaaW.PrintWords Go.Proofs.YtamjbjkbineafaaW.PrintLast Go.Proofs.YtamjbjkbineafaaW.PrintMore
attribute [local go_sem] max2_int min2_int max_two min_two max_three min_three max_four min_four   -- for this text's walks alone
set_option linter.unusedVariables false
set_option linter.unusedSimpArgs false
def impl_NodeOk.l0:Nat → Int → List (List (S38)) → Int → Int → List (List (S38)) → Option (Bool)
 | 0,_,_,_,_,_=>none
 | k + 1,x3,x7,x8,x9,x704000=>if x9 < x8 then (if 0 ≤ x9 then (if x9 < (x7.length:Int) then ((impl_SetOk.f k (rd_L2 x7 x9)).bind fun t705=>(if t705 = true then (if ((rd_L2 x7 x9).length:Int) = 0 then (some false) else (impl_NodeOk.l0 k (wrap64 (x3 + ((rd_L2 x7 x9).length:Int))) x7 x8 (wrap64 (x9 + 1)) x704000)) else (some false))) else (none)) else (none)) else (if (x704000.length:Int) ≤ 3 then (some (decide (x3 ≤ 8))) else (some false))
def impl_NodeOk.f (k:Nat) (l0_0:List (List (S38))):Option (Bool):=impl_NodeOk.l0 k 0 l0_0 (l0_0.length:Int) 0 l0_0
set_option maxHeartbeats 8000000 in
set_option maxRecDepth 100000 in
theorem impl_NodeOk.calls (k:Nat) (A0_0:Option Addr) (c0_0:Nat) (l0_0:List (List (S38))) (r:Bool) (w:World) (hr0_0:Kd.C (Kd.slice 38 k38) w A0_0 l0_0.length l0_0) (hc0_0:l0_0.length ≤ c0_0) (h:impl_NodeOk.f k l0_0 = some r) :
  Calls Try.prog 44 #[.agg #[.slice A0_0 l0_0.length c0_0]] w fun e w'=>e = .returned (.bool r) ∧ Below w.heap.size w w':=by
 have hu59:=Try.underlying59
 have HR0_0:=aA.mk hr0_0
 have HC0_0:=aA.mk hc0_0
 clear hr0_0 hc0_0
 have HB:=aA.mk (Below.refl w.heap.size w)
 have H:(impl_NodeOk.l0 k 0 l0_0 (l0_0.length:Int) 0 l0_0) = some r:=h
 clear h
 have H':=aA.mk H
 clear H
 go_enter Try.func44,Try.ntmps44
 go_wp2_with (first|((with_reducible refine aZ (N:=1) rfl ?_);(try (refine gate_guard vH ?_;dsimp only));refine bB ?hg (N:=1) ?hd (cs:=#[.slice A0_0 l0_0.length c0_0]) (t:=59) ?hr ?_;(case hd=>rfl);(case hg=>rfl);(case hr=>exact tJ);intro gb703 hg w2 hbox hb;have BK703:=aA.mk (hbox);have GW703:=aA.mk ((by rw [hg];exact (aM HB.out):w.heap.size ≤ gb703));have GE703:=aA.mk ((by rw [hg];exact (aM HB.out):w.heap.size ≤ gb703));replace HB:=aA.mk (aQ HB.out hb);clear hb hbox hg;have hcz3_0:=cs1 BK703.out;have hfz3_0:=fs1 BK703.out))
 go_loopg [3,9] k (fun kq v3 v9 w'=>∃ (x3_1:Int) (x9_1:Int),v3 = .int .i64 x3_1 ∧ v9 = .int .i64 x9_1 ∧ aA (impl_NodeOk.l0 kq x3_1 l0_0 (l0_0.length:Int) x9_1 l0_0 = some r) ∧ aA (kq ≤ k) ∧ aA (w'.heap[gb703]? = some (.cells #[(.slice A0_0 l0_0.length c0_0)] 59 (0,0))) ∧ aA (Below w.heap.size w w'))
 case atStart=>exact ⟨(0),(0),tG,tG,H',⟨Nat.le_refl _⟩,⟨by (with_reducible repeat (first|refine aG ?_ _|refine aH ?_|refine aE ?_ _));exact BK703.out⟩,⟨vC⟩⟩
 case round =>
  clear H'
  try clear p2
  try clear hcz3_0
  try clear hfz3_0
  obtain ⟨x3_1,x9_1,rfl,rfl,HA,HK1,BK703,HB⟩:=hrel
  cases gk with
  | zero=>exact absurd HA.out (by simp [impl_NodeOk.l0])
  | succ k1 =>
   have H:=HA.out
   clear HA
   simp only [impl_NodeOk.l0] at H
   by_cases c4:x9_1 < (l0_0.length:Int)
   ·rw [if_pos c4] at H
    have c4b0:decide (x9_1 < (l0_0.length:Int)) = true:=decide_eq_true c4
    clear c4
    by_cases c5:0 ≤ x9_1
    ·rw [if_pos c5] at H
     have c5b0:decide (0 ≤ x9_1) = true:=decide_eq_true c5
     clear c5
     by_cases c6:x9_1 < (l0_0.length:Int)
     ·rw [if_pos c6] at H
      have c6b0:decide (x9_1 < (l0_0.length:Int)) = true:=decide_eq_true c6
      clear c6
      replace H:=lF H
      obtain ⟨t705,A70,H⟩:=H
      replace H:(if t705 = true then (if ((rd_L2 l0_0 x9_1).length:Int) = 0 then (some false) else (impl_NodeOk.l0 k1 (wrap64 (x3_1 + ((rd_L2 l0_0 x9_1).length:Int))) l0_0 (l0_0.length:Int) (wrap64 (x9_1 + 1)) l0_0)) else (some false)) = some r:=H
      have A7:=aA.mk A70
      clear A70
      by_cases c8:t705 = true
      ·subst c8
       have H1:(if ((rd_L2 l0_0 x9_1).length:Int) = 0 then (some false) else (impl_NodeOk.l0 k1 (wrap64 (x3_1 + ((rd_L2 l0_0 x9_1).length:Int))) l0_0 (l0_0.length:Int) (wrap64 (x9_1 + 1)) l0_0)) = some r:=by rw [if_pos rfl] at H;exact H
       clear H
       have H:=H1
       clear H1
       by_cases c9:((rd_L2 l0_0 x9_1).length:Int) = 0
       ·rw [if_pos c9] at H
        have c9b0:(((rd_L2 l0_0 x9_1).length:Int) == 0) = true:=beq_iff_eq.mpr c9
        have c9b1:(((rd_L2 l0_0 x9_1).length:Int) != 0) = false:=bne_eq_false_iff_eq.mpr c9
        clear c9
        obtain rfl:=Option.some.inj H
        have p704:0 ≤ (x9_1:Int):=lE tF
        have q704:x9_1 < (l0_0.length:Int):=lE tF
        obtain ⟨ad704,A704_0,c704_0,e704,hx704_0,hl704_0,hi704_0⟩:=at_L2 HR0_0.out x9_1 p704 q704
        cases e704
        replace hx704_0:=(HB.out.cell (lD w _ hx704_0)).trans hx704_0
        have HR704_0:=aA.mk hi704_0
        have HC704_0:=aA.mk hl704_0
        clear hi704_0 hl704_0
        replace p704:=eq_true p704
        replace q704:=eq_true q704
        go_wp2_with (first|((with_reducible refine aY (f:=77) rfl ?_);refine goesL_ (some 14) rfl rfl Try.func77 tH rfl #[.slice A704_0 (rd_L2 l0_0 x9_1).length c704_0] rfl tA ?_;(with_reducible refine (impl_SetOk.calls k1 _ _ (rd_L2 l0_0 x9_1) true _ ?side1 ?side2 A7.out).mono ?_);(case side1=>exact (Kd.C_below HR704_0.out HB.out));(case side2=>exact HC704_0.out);rintro e w10 ⟨rfl,hb⟩;refine ⟨_,rfl,?_⟩;replace BK703:=nB BK703;replace HB:=aA.mk (aQ HB.out hb);(try clear hb)))
        go_ret
        exact ⟨tC,vC⟩
       ·rw [if_neg c9] at H
        have c9b0:(((rd_L2 l0_0 x9_1).length:Int) == 0) = false:=beq_eq_false_iff_ne.mpr c9
        have c9b1:(((rd_L2 l0_0 x9_1).length:Int) != 0) = true:=bne_iff_ne.mpr c9
        have c9b2:¬ ((rd_L2 l0_0 x9_1) = []):=fun h_=>c9 (by rw [h_];rfl)
        have H':=aA.mk H
        clear H
        have p704:0 ≤ (x9_1:Int):=lE tF
        have q704:x9_1 < (l0_0.length:Int):=lE tF
        obtain ⟨ad704,A704_0,c704_0,e704,hx704_0,hl704_0,hi704_0⟩:=at_L2 HR0_0.out x9_1 p704 q704
        cases e704
        replace hx704_0:=(HB.out.cell (lD w _ hx704_0)).trans hx704_0
        have HR704_0:=aA.mk hi704_0
        have HC704_0:=aA.mk hl704_0
        clear hi704_0 hl704_0
        replace p704:=eq_true p704
        replace q704:=eq_true q704
        go_wp2_with (first|((with_reducible refine aY (f:=77) rfl ?_);refine goesL_ (some 14) rfl rfl Try.func77 tH rfl #[.slice A704_0 (rd_L2 l0_0 x9_1).length c704_0] rfl tA ?_;(with_reducible refine (impl_SetOk.calls k1 _ _ (rd_L2 l0_0 x9_1) true _ ?side1 ?side2 A7.out).mono ?_);(case side1=>exact (Kd.C_below HR704_0.out HB.out));(case side2=>exact HC704_0.out);rintro e w11 ⟨rfl,hb⟩;refine ⟨_,rfl,?_⟩;replace BK703:=nB BK703;replace HB:=aA.mk (aQ HB.out hb);(try clear hb)))
        go_roundg k1
        case measure=>have:=HK1.out;omega
        case rel=>exact ⟨(wrap64 (x3_1 + ((rd_L2 l0_0 x9_1).length:Int))),(wrap64 (x9_1 + 1)),tG,tG,H',⟨wX⟩,⟨by (with_reducible repeat (first|refine aG ?_ _|refine aH ?_|refine aE ?_ _));exact BK703.out⟩,⟨vC⟩⟩
      ·replace c8:=Bool.eq_false_iff.mpr c8
       subst c8
       have H1:(some false) = some r:=by rw [if_neg (show ¬ (false = true) by decide)] at H;exact H
       clear H
       have H:=H1
       clear H1
       obtain rfl:=Option.some.inj H
       have p704:0 ≤ (x9_1:Int):=lE tF
       have q704:x9_1 < (l0_0.length:Int):=lE tF
       obtain ⟨ad704,A704_0,c704_0,e704,hx704_0,hl704_0,hi704_0⟩:=at_L2 HR0_0.out x9_1 p704 q704
       cases e704
       replace hx704_0:=(HB.out.cell (lD w _ hx704_0)).trans hx704_0
       have HR704_0:=aA.mk hi704_0
       have HC704_0:=aA.mk hl704_0
       clear hi704_0 hl704_0
       replace p704:=eq_true p704
       replace q704:=eq_true q704
       go_wp2_with (first|((with_reducible refine aY (f:=77) rfl ?_);refine goesL_ (some 14) rfl rfl Try.func77 tH rfl #[.slice A704_0 (rd_L2 l0_0 x9_1).length c704_0] rfl tA ?_;(with_reducible refine (impl_SetOk.calls k1 _ _ (rd_L2 l0_0 x9_1) false _ ?side1 ?side2 A7.out).mono ?_);(case side1=>exact (Kd.C_below HR704_0.out HB.out));(case side2=>exact HC704_0.out);rintro e w12 ⟨rfl,hb⟩;refine ⟨_,rfl,?_⟩;replace BK703:=nB BK703;replace HB:=aA.mk (aQ HB.out hb);(try clear hb)))
       go_ret
       exact ⟨tC,vC⟩
     ·rw [if_neg c6] at H
      exact vM
    ·rw [if_neg c5] at H
     exact vM
   ·rw [if_neg c4] at H
    have c4b0:decide (x9_1 < (l0_0.length:Int)) = false:=decide_eq_false c4
    clear c4
    by_cases c13:(l0_0.length:Int) ≤ 3
    ·rw [if_pos c13] at H
     have c13b0:decide ((l0_0.length:Int) ≤ 3) = true:=decide_eq_true c13
     have c13b1:decide (l0_0.length ≤ 3) = true:=decide_eq_true tB
     clear c13
     obtain rfl:=Option.some.inj H
     have hcz14_0:=cs1 BK703.out
     have hfz14_0:=fs1 BK703.out
     go_wp2
     go_ret
     exact ⟨tC,vC⟩
    ·rw [if_neg c13] at H
     have c13b0:decide ((l0_0.length:Int) ≤ 3) = false:=decide_eq_false c13
     have c13b1:decide (l0_0.length ≤ 3) = false:=decide_eq_false tB
     clear c13
     obtain rfl:=Option.some.inj H
     have hcz15_0:=cs1 BK703.out
     have hfz15_0:=fs1 BK703.out
     go_wp2
     go_ret
     exact ⟨tC,vC⟩
def impl_SpotOf.f (a0:Int) (a1:Int):Option (Int):=some (wrap64 ((wrap64 (64 * a0)) + a1))
set_option maxHeartbeats 8000000 in
set_option maxRecDepth 100000 in
theorem impl_SpotOf.calls (a0:Int) (a1:Int) (r:Int) (w:World) (h:impl_SpotOf.f a0 a1 = some r) :
  Calls Try.prog 63 #[.int .i64 a0,.int .i64 a1] w fun e w'=>e = .returned (.int .i64 r) ∧ Drawn0 w w':=by
 have H:(some (wrap64 ((wrap64 (64 * a0)) + a1))) = some r:=h
 clear h
 obtain rfl:=Option.some.inj H
 go_enter Try.func63,Try.ntmps63
 go_wp2
 go_ret
 exact tU
mutual
def impl_inBounds.l0:Nat → Int → List (List (S38)) → Int → Int → List Int → List (S59) → Option (Bool)
 | 0,_,_,_,_,_,_=>none
 | k + 1,x1,x15,x16,x17,x707000,x707001=>if x17 < x16 then (if 0 ≤ x17 then (if x17 < (x15.length:Int) then (impl_inBounds.l1 k x1 x15 x16 x17 (rd_L2 x15 x17) ((rd_L2 x15 x17).length:Int) 0 x707000 x707001) else (none)) else (none)) else (some true)
def impl_inBounds.l1:Nat → Int → List (List (S38)) → Int → Int → List (S38) → Int → Int → List Int → List (S59) → Option (Bool)
 | 0,_,_,_,_,_,_,_,_,_=>none
 | k + 1,x1,x15,x16,x17,x21,x22,x23,x707000,x707001=>if x23 < x22 then (if 0 ≤ x23 then (if x23 < (x21.length:Int) then ((impl_SpotOf.f ((rd_T38 x21 x23).f0) ((rd_T38 x21 x23).f1)).bind fun t711=>(if 0 ≤ x1 then (if x1 < (x707000.length:Int) then (if t711 < (rd x707000 x1) then (some false) else (if (wrap64 (x1 + 1)) < (x707000.length:Int) then (if 0 ≤ (wrap64 (x1 + 1)) then (if t711 ≥ (rd x707000 (wrap64 (x1 + 1))) then (some false) else (impl_inBounds.l1 k x1 x15 x16 x17 x21 x22 (wrap64 (x23 + 1)) x707000 x707001)) else (none)) else (impl_inBounds.l1 k x1 x15 x16 x17 x21 x22 (wrap64 (x23 + 1)) x707000 x707001))) else (none)) else (none))) else (none)) else (none)) else (impl_inBounds.l0 k x1 x15 x16 (wrap64 (x17 + 1)) x707000 x707001)
end
def impl_inBounds.f (k:Nat) (l0_0:List Int) (l0_1:List (S59)) (a1:Int):Option (Bool):=if 0 ≤ a1 then (if a1 < (l0_1.length:Int) then (impl_inBounds.l0 k a1 ((rd_T59 l0_1 a1).f0) (((rd_T59 l0_1 a1).f0).length:Int) 0 l0_0 l0_1) else (none)) else (none)
set_option maxHeartbeats 8000000 in
set_option maxRecDepth 100000 in
theorem impl_inBounds.calls (k:Nat) (A0_0:Option Addr) (c0_0:Nat) (l0_0:List Int) (A0_1:Option Addr) (c0_1:Nat) (l0_1:List (S59)) (a1:Int) (r:Bool) (w:World) (hr0_0:Kd.C (Kd.int .i64) w A0_0 l0_0.length l0_0) (hc0_0:l0_0.length ≤ c0_0) (hr0_1:Kd.C k59 w A0_1 l0_1.length l0_1) (hc0_1:l0_1.length ≤ c0_1) (h:impl_inBounds.f k l0_0 l0_1 a1 = some r) :
  Calls Try.prog 45 #[.agg #[.slice A0_0 l0_0.length c0_0,.slice A0_1 l0_1.length c0_1],.int .i64 a1] w fun e w'=>e = .returned (.bool r) ∧ Below w.heap.size w w':=by
 have hu29:=Try.underlying29
 have hu38:=Try.underlying38
 have HR0_0:=aA.mk hr0_0
 have HC0_0:=aA.mk hc0_0
 clear hr0_0 hc0_0
 have HR0_1:=aA.mk hr0_1
 have HC0_1:=aA.mk hc0_1
 clear hr0_1 hc0_1
 have HB:=aA.mk (Below.refl w.heap.size w)
 have H:(if 0 ≤ a1 then (if a1 < (l0_1.length:Int) then (impl_inBounds.l0 k a1 ((rd_T59 l0_1 a1).f0) (((rd_T59 l0_1 a1).f0).length:Int) 0 l0_0 l0_1) else (none)) else (none)) = some r:=h
 clear h
 by_cases c3:0 ≤ a1
 ·rw [if_pos c3] at H
  have c3b0:decide (0 ≤ a1) = true:=decide_eq_true c3
  clear c3
  by_cases c4:a1 < (l0_1.length:Int)
  ·rw [if_pos c4] at H
   have c4b0:decide (a1 < (l0_1.length:Int)) = true:=decide_eq_true c4
   clear c4
   have H':=aA.mk H
   clear H
   go_enter Try.func45,Try.ntmps45
   go_wp2_with (first|((with_reducible refine aZ (N:=2) rfl ?_);(try (refine gate_guard vH ?_;dsimp only));refine bB ?hg (N:=2) ?hd (cs:=#[.slice A0_0 l0_0.length c0_0,.slice A0_1 l0_1.length c0_1]) (t:=29) ?hr ?_;(case hd=>rfl);(case hg=>rfl);(case hr=>exact tJ);intro gb706 hg w5 hbox hb;have BK706:=aA.mk (hbox);have GW706:=aA.mk ((by rw [hg];exact (aM HB.out):w.heap.size ≤ gb706));have GE706:=aA.mk ((by rw [hg];exact (aM HB.out):w.heap.size ≤ gb706));replace HB:=aA.mk (aQ HB.out hb);clear hb hbox hg;obtain ⟨hcz6_0,hcz6_1⟩:=cs2 BK706.out;obtain ⟨hfz6_0,hfz6_1⟩:=fs2 BK706.out;have p707:0 ≤ (a1:Int):=lE tF;have q707:a1 < (l0_1.length:Int):=lE tF;obtain ⟨ad707,A707_0,c707_0,e707,hx707_0,hl707_0,hi707_0⟩:=at_T59 HR0_1.out a1 p707 q707;cases e707;replace hx707_0:=(HB.out.cell (lD w _ hx707_0)).trans hx707_0;have HR707_0:=aA.mk hi707_0;have HC707_0:=aA.mk hl707_0;clear hi707_0 hl707_0;replace p707:=eq_true p707;replace q707:=eq_true q707))
   go_loopg [17] k (fun kq v17 w'=>∃ (x17_1:Int),v17 = .int .i64 x17_1 ∧ aA (impl_inBounds.l0 kq a1 ((rd_T59 l0_1 a1).f0) (((rd_T59 l0_1 a1).f0).length:Int) x17_1 l0_0 l0_1 = some r) ∧ aA (kq ≤ k) ∧ aA (w'.heap[gb706]? = some (.cells #[(.slice A0_0 l0_0.length c0_0),(.slice (some ad707) l0_1.length c0_1)] 29 (0,0))) ∧ aA (Below w.heap.size w w'))
   case atStart=>exact ⟨(0),tG,H',⟨Nat.le_refl _⟩,⟨AD⟩,⟨vy⟩⟩
   case round =>
    clear H'
    try clear p2
    try clear c3
    try clear c3b0
    try clear c4
    try clear c4b0
    try clear hcz6_0
    try clear hcz6_1
    try clear hfz6_0
    try clear hfz6_1
    try clear hx707_0
    try clear p707
    try clear q707
    obtain ⟨x17_1,rfl,HA,HK1,BK706,HB⟩:=hrel
    cases gk with
    | zero=>exact absurd HA.out (by simp [impl_inBounds.l0])
    | succ k1 =>
     have H:=HA.out
     clear HA
     simp only [impl_inBounds.l0] at H
     by_cases c7:x17_1 < (((rd_T59 l0_1 a1).f0).length:Int)
     ·rw [if_pos c7] at H
      have c7b0:decide (x17_1 < (((rd_T59 l0_1 a1).f0).length:Int)) = true:=decide_eq_true c7
      clear c7
      by_cases c8:0 ≤ x17_1
      ·rw [if_pos c8] at H
       have c8b0:decide (0 ≤ x17_1) = true:=decide_eq_true c8
       clear c8
       by_cases c9:x17_1 < (((rd_T59 l0_1 a1).f0).length:Int)
       ·rw [if_pos c9] at H
        have c9b0:decide (x17_1 < (((rd_T59 l0_1 a1).f0).length:Int)) = true:=decide_eq_true c9
        clear c9
        have H':=aA.mk H
        clear H
        have p708:0 ≤ (x17_1:Int):=lE tF
        have q708:x17_1 < (((rd_T59 l0_1 a1).f0).length:Int):=lE tF
        obtain ⟨ad708,A708_0,c708_0,e708,hx708_0,hl708_0,hi708_0⟩:=at_L2 HR707_0.out x17_1 p708 q708
        cases e708
        replace hx708_0:=(HB.out.cell (lD w _ hx708_0)).trans hx708_0
        have HR708_0:=aA.mk hi708_0
        have HC708_0:=aA.mk hl708_0
        clear hi708_0 hl708_0
        replace p708:=eq_true p708
        replace q708:=eq_true q708
        go_wp2
        go_loopg [23] k1 (fun kq v23 w'=>∃ (x23_2:Int),v23 = .int .i64 x23_2 ∧ aA (impl_inBounds.l1 kq a1 ((rd_T59 l0_1 a1).f0) (((rd_T59 l0_1 a1).f0).length:Int) x17_1 (rd_L2 ((rd_T59 l0_1 a1).f0) x17_1) ((rd_L2 ((rd_T59 l0_1 a1).f0) x17_1).length:Int) x23_2 l0_0 l0_1 = some r) ∧ aA (kq ≤ k1) ∧ aA (w'.heap[gb706]? = some (.cells #[(.slice A0_0 l0_0.length c0_0),(.slice (some ad707) l0_1.length c0_1)] 29 (0,0))) ∧ aA (Below w.heap.size w w'))
        case atStart=>exact ⟨(0),tG,H',⟨Nat.le_refl _⟩,⟨AD⟩,⟨vy⟩⟩
        case round =>
         clear H'
         try clear p2
         try clear c3
         try clear c3b0
         try clear c4
         try clear c4b0
         try clear c7
         try clear c7b0
         try clear p7
         try clear q7
         try clear hx7
         try clear c8
         try clear c8b0
         try clear c9
         try clear c9b0
         try clear hcz6_0
         try clear hcz6_1
         try clear hfz6_0
         try clear hfz6_1
         try clear hx707_0
         try clear hx708_0
         try clear p2
         try clear p707
         try clear p708
         try clear q707
         try clear q708
         obtain ⟨x23_2,rfl,HA,HK2,BK706,HB⟩:=hrel
         cases gk with
         | zero=>exact absurd HA.out (by simp [impl_inBounds.l1])
         | succ k2 =>
          have H:=HA.out
          clear HA
          simp only [impl_inBounds.l1] at H
          by_cases c10:x23_2 < ((rd_L2 ((rd_T59 l0_1 a1).f0) x17_1).length:Int)
          ·rw [if_pos c10] at H
           have c10b0:decide (x23_2 < ((rd_L2 ((rd_T59 l0_1 a1).f0) x17_1).length:Int)) = true:=decide_eq_true c10
           clear c10
           by_cases c11:0 ≤ x23_2
           ·rw [if_pos c11] at H
            have c11b0:decide (0 ≤ x23_2) = true:=decide_eq_true c11
            clear c11
            by_cases c12:x23_2 < ((rd_L2 ((rd_T59 l0_1 a1).f0) x17_1).length:Int)
            ·rw [if_pos c12] at H
             have c12b0:decide (x23_2 < ((rd_L2 ((rd_T59 l0_1 a1).f0) x17_1).length:Int)) = true:=decide_eq_true c12
             clear c12
             replace H:=lF H
             obtain ⟨t711,A130,H⟩:=H
             replace H:(if 0 ≤ a1 then (if a1 < (l0_0.length:Int) then (if t711 < (rd l0_0 a1) then (some false) else (if (wrap64 (a1 + 1)) < (l0_0.length:Int) then (if 0 ≤ (wrap64 (a1 + 1)) then (if t711 ≥ (rd l0_0 (wrap64 (a1 + 1))) then (some false) else (impl_inBounds.l1 k2 a1 ((rd_T59 l0_1 a1).f0) (((rd_T59 l0_1 a1).f0).length:Int) x17_1 (rd_L2 ((rd_T59 l0_1 a1).f0) x17_1) ((rd_L2 ((rd_T59 l0_1 a1).f0) x17_1).length:Int) (wrap64 (x23_2 + 1)) l0_0 l0_1)) else (none)) else (impl_inBounds.l1 k2 a1 ((rd_T59 l0_1 a1).f0) (((rd_T59 l0_1 a1).f0).length:Int) x17_1 (rd_L2 ((rd_T59 l0_1 a1).f0) x17_1) ((rd_L2 ((rd_T59 l0_1 a1).f0) x17_1).length:Int) (wrap64 (x23_2 + 1)) l0_0 l0_1))) else (none)) else (none)) = some r:=H
             have A13:=aA.mk A130
             clear A130
             by_cases c14:0 ≤ a1
             ·rw [if_pos c14] at H
              have c14b0:decide (0 ≤ a1) = true:=decide_eq_true c14
              clear c14
              by_cases c15:a1 < (l0_0.length:Int)
              ·rw [if_pos c15] at H
               have c15b0:decide (a1 < (l0_0.length:Int)) = true:=decide_eq_true c15
               clear c15
               by_cases c16:t711 < (rd l0_0 a1)
               ·rw [if_pos c16] at H
                have c16b0:decide (t711 < (rd l0_0 a1)) = true:=decide_eq_true c16
                clear c16
                obtain rfl:=Option.some.inj H
                have p709:0 ≤ (x23_2:Int):=lE tF
                have q709:x23_2 < ((rd_L2 ((rd_T59 l0_1 a1).f0) x17_1).length:Int):=lE tF
                obtain ⟨ad709,e709,hx709_0,hx709_1,hx709_2,hx709_3,hx709_4⟩:=at_T38 HR708_0.out x23_2 p709 q709
                cases e709
                replace hx709_0:=(HB.out.cell (lD w _ hx709_0)).trans hx709_0
                replace hx709_1:=(HB.out.cell (lD w _ hx709_1)).trans hx709_1
                replace hx709_2:=(HB.out.cell (lD w _ hx709_2)).trans hx709_2
                replace hx709_3:=(HB.out.cell (lD w _ hx709_3)).trans hx709_3
                replace hx709_4:=(HB.out.cell (lD w _ hx709_4)).trans hx709_4
                replace p709:=eq_true p709
                replace q709:=eq_true q709
                go_wp2_with (first|((with_reducible refine aZ (N:=8) rfl ?_);(try (refine gate_guard vH ?_;dsimp only));refine bB ?hg (N:=8) ?hd (cs:=#[.int .i64 0,.int .i64 0,.int .i64 0,.int .i64 0,.int .i64 0]) (t:=38) ?hr ?_;(case hd=>rfl);(case hg=>rfl);(case hr=>exact tJ);intro gb710 hg w17 hbox hb;have BK710:=aA.mk (hbox);have GW710:=aA.mk ((by rw [hg];exact (aM HB.out):w.heap.size ≤ gb710));have GE710:=aA.mk ((by rw [hg];exact (aM HB.out):w.heap.size ≤ gb710));replace HB:=aA.mk (aQ HB.out hb);have NB706_710:=nL BK706;have NB710_706:=nG BK706;replace BK706:=nB BK706;clear hb hbox hg;have hnb18:=NB710_706.out;have hnc18:=NB706_710.out;obtain ⟨hcz19_0,hcz19_1,hcz19_2,hcz19_3,hcz19_4⟩:=cs5 BK710.out;obtain ⟨hfz19_0,hfz19_1,hfz19_2,hfz19_3,hfz19_4⟩:=fs5 BK710.out)|((with_reducible refine aY (f:=63) rfl ?_);refine goesL_ (some 31) rfl rfl Try.func63 tH rfl #[.int .i64 ((rd_T38 (rd_L2 ((rd_T59 l0_1 a1).f0) x17_1) x23_2).f0),.int .i64 ((rd_T38 (rd_L2 ((rd_T59 l0_1 a1).f0) x17_1) x23_2).f1)] rfl tA ?_;(with_reducible refine (impl_SpotOf.calls ((rd_T38 (rd_L2 ((rd_T59 l0_1 a1).f0) x17_1) x23_2).f0) ((rd_T38 (rd_L2 ((rd_T59 l0_1 a1).f0) x17_1) x23_2).f1) t711 _ A13.out).mono ?_);rintro e w' ⟨rfl,⟨nd,rfl⟩⟩;refine ⟨_,rfl,?_⟩;obtain ⟨hcz20_0,hcz20_1⟩:=cs2 BK706.out;obtain ⟨hfz20_0,hfz20_1⟩:=fs2 BK706.out;have p712:0 ≤ (a1:Int):=lE tF;have q712:a1 < (l0_0.length:Int):=lE tF;obtain ⟨ad712,e712,hx712_0⟩:=Kd.at_int HR0_0.out a1 p712 q712;cases e712;have hn712_0:ad712.block ≠ gb710:=Nat.ne_of_lt (Nat.lt_of_lt_of_le tY GW710.out);have hn712_1:ad712.block ≠ gb710:=Nat.ne_of_lt (Nat.lt_of_lt_of_le tY GW710.out);have hn712_2:ad712.block ≠ gb710:=Nat.ne_of_lt (Nat.lt_of_lt_of_le tY GW710.out);have hn712_3:ad712.block ≠ gb710:=Nat.ne_of_lt (Nat.lt_of_lt_of_le tY GW710.out);have hn712_4:ad712.block ≠ gb710:=Nat.ne_of_lt (Nat.lt_of_lt_of_le tY GW710.out);replace hx712_0:=(HB.out.cell (lD w _ hx712_0)).trans hx712_0;replace hx712_0:=(bK (p:=⟨gb710,0,none⟩) wL (.int .i64 ((rd_T38 (rd_L2 ((rd_T59 l0_1 a1).f0) x17_1) x23_2).f0))).trans hx712_0;replace hx712_0:=(bK (p:=⟨gb710,1,none⟩) wK (.int .i64 ((rd_T38 (rd_L2 ((rd_T59 l0_1 a1).f0) x17_1) x23_2).f1))).trans hx712_0;replace hx712_0:=(bK (p:=⟨gb710,2,none⟩) wJ (.int .i64 ((rd_T38 (rd_L2 ((rd_T59 l0_1 a1).f0) x17_1) x23_2).f2))).trans hx712_0;replace hx712_0:=(bK (p:=⟨gb710,3,none⟩) wH (.int .i64 ((rd_T38 (rd_L2 ((rd_T59 l0_1 a1).f0) x17_1) x23_2).f3))).trans hx712_0;replace hx712_0:=(bK (p:=⟨gb710,4,none⟩) wG (.int .i64 ((rd_T38 (rd_L2 ((rd_T59 l0_1 a1).f0) x17_1) x23_2).f4))).trans hx712_0;clear hn712_0;clear hn712_1;clear hn712_2;clear hn712_3;clear hn712_4;replace p712:=eq_true p712;replace q712:=eq_true q712))
                go_ret
                exact ⟨tC,vn⟩
               ·rw [if_neg c16] at H
                have c16b0:decide (t711 < (rd l0_0 a1)) = false:=decide_eq_false c16
                clear c16
                by_cases c21:(wrap64 (a1 + 1)) < (l0_0.length:Int)
                ·rw [if_pos c21] at H
                 have c21b0:decide ((wrap64 (a1 + 1)) < (l0_0.length:Int)) = true:=decide_eq_true c21
                 clear c21
                 obtain ⟨ji22,hji22⟩:∃ j_:Int,(wrap64 (a1 + 1)) = j_:=⟨_,rfl⟩
                 replace H:(if 0 ≤ (ji22) then (if t711 ≥ (rd l0_0 (ji22)) then (some false) else (impl_inBounds.l1 k2 a1 ((rd_T59 l0_1 a1).f0) (((rd_T59 l0_1 a1).f0).length:Int) x17_1 (rd_L2 ((rd_T59 l0_1 a1).f0) x17_1) ((rd_L2 ((rd_T59 l0_1 a1).f0) x17_1).length:Int) (wrap64 (x23_2 + 1)) l0_0 l0_1)) else (none)) = some r:=by first|(rw [hji22] at H;exact H)|(simp only [hji22] at H ⊢;exact H)
                 (try rw [hji22] at c21b0)
                 (try rw [hji22] at A13)
                 have hji22w:(IntKind.i64.wrap (a1 + 1)) = ji22:=(i64_w _).trans hji22
                 by_cases c23:0 ≤ (ji22)
                 ·rw [if_pos c23] at H
                  have c23b0:decide (0 ≤ (ji22)) = true:=decide_eq_true c23
                  clear c23
                  by_cases c24:t711 ≥ (rd l0_0 (ji22))
                  ·rw [if_pos c24] at H
                   have c24b0:decide ((rd l0_0 (ji22)) ≤ t711) = true:=decide_eq_true c24
                   clear c24
                   obtain rfl:=Option.some.inj H
                   have p709:0 ≤ (x23_2:Int):=lE tF
                   have q709:x23_2 < ((rd_L2 ((rd_T59 l0_1 a1).f0) x17_1).length:Int):=lE tF
                   obtain ⟨ad709,e709,hx709_0,hx709_1,hx709_2,hx709_3,hx709_4⟩:=at_T38 HR708_0.out x23_2 p709 q709
                   cases e709
                   replace hx709_0:=(HB.out.cell (lD w _ hx709_0)).trans hx709_0
                   replace hx709_1:=(HB.out.cell (lD w _ hx709_1)).trans hx709_1
                   replace hx709_2:=(HB.out.cell (lD w _ hx709_2)).trans hx709_2
                   replace hx709_3:=(HB.out.cell (lD w _ hx709_3)).trans hx709_3
                   replace hx709_4:=(HB.out.cell (lD w _ hx709_4)).trans hx709_4
                   replace p709:=eq_true p709
                   replace q709:=eq_true q709
                   go_wp2_with (first|((with_reducible refine aZ (N:=8) rfl ?_);(try (refine gate_guard vH ?_;dsimp only));refine bB ?hg (N:=8) ?hd (cs:=#[.int .i64 0,.int .i64 0,.int .i64 0,.int .i64 0,.int .i64 0]) (t:=38) ?hr ?_;(case hd=>rfl);(case hg=>rfl);(case hr=>exact tJ);intro gb710 hg w25 hbox hb;have BK710:=aA.mk (hbox);have GW710:=aA.mk ((by rw [hg];exact (aM HB.out):w.heap.size ≤ gb710));have GE710:=aA.mk ((by rw [hg];exact (aM HB.out):w.heap.size ≤ gb710));replace HB:=aA.mk (aQ HB.out hb);have NB706_710:=nL BK706;have NB710_706:=nG BK706;replace BK706:=nB BK706;clear hb hbox hg;have hnb26:=NB710_706.out;have hnc26:=NB706_710.out;obtain ⟨hcz27_0,hcz27_1,hcz27_2,hcz27_3,hcz27_4⟩:=cs5 BK710.out;obtain ⟨hfz27_0,hfz27_1,hfz27_2,hfz27_3,hfz27_4⟩:=fs5 BK710.out)|((with_reducible refine aY (f:=63) rfl ?_);refine goesL_ (some 31) rfl rfl Try.func63 tH rfl #[.int .i64 ((rd_T38 (rd_L2 ((rd_T59 l0_1 a1).f0) x17_1) x23_2).f0),.int .i64 ((rd_T38 (rd_L2 ((rd_T59 l0_1 a1).f0) x17_1) x23_2).f1)] rfl tA ?_;(with_reducible refine (impl_SpotOf.calls ((rd_T38 (rd_L2 ((rd_T59 l0_1 a1).f0) x17_1) x23_2).f0) ((rd_T38 (rd_L2 ((rd_T59 l0_1 a1).f0) x17_1) x23_2).f1) t711 _ A13.out).mono ?_);rintro e w' ⟨rfl,⟨nd,rfl⟩⟩;refine ⟨_,rfl,?_⟩;obtain ⟨hcz28_0,hcz28_1⟩:=cs2 BK706.out;obtain ⟨hfz28_0,hfz28_1⟩:=fs2 BK706.out;have p712:0 ≤ (a1:Int):=lE tF;have q712:a1 < (l0_0.length:Int):=lE tF;obtain ⟨ad712,e712,hx712_0⟩:=Kd.at_int HR0_0.out a1 p712 q712;cases e712;have hn712_0:ad712.block ≠ gb710:=Nat.ne_of_lt (Nat.lt_of_lt_of_le tY GW710.out);have hn712_1:ad712.block ≠ gb710:=Nat.ne_of_lt (Nat.lt_of_lt_of_le tY GW710.out);have hn712_2:ad712.block ≠ gb710:=Nat.ne_of_lt (Nat.lt_of_lt_of_le tY GW710.out);have hn712_3:ad712.block ≠ gb710:=Nat.ne_of_lt (Nat.lt_of_lt_of_le tY GW710.out);have hn712_4:ad712.block ≠ gb710:=Nat.ne_of_lt (Nat.lt_of_lt_of_le tY GW710.out);replace hx712_0:=(HB.out.cell (lD w _ hx712_0)).trans hx712_0;replace hx712_0:=(bK (p:=⟨gb710,0,none⟩) wL (.int .i64 ((rd_T38 (rd_L2 ((rd_T59 l0_1 a1).f0) x17_1) x23_2).f0))).trans hx712_0;replace hx712_0:=(bK (p:=⟨gb710,1,none⟩) wK (.int .i64 ((rd_T38 (rd_L2 ((rd_T59 l0_1 a1).f0) x17_1) x23_2).f1))).trans hx712_0;replace hx712_0:=(bK (p:=⟨gb710,2,none⟩) wJ (.int .i64 ((rd_T38 (rd_L2 ((rd_T59 l0_1 a1).f0) x17_1) x23_2).f2))).trans hx712_0;replace hx712_0:=(bK (p:=⟨gb710,3,none⟩) wH (.int .i64 ((rd_T38 (rd_L2 ((rd_T59 l0_1 a1).f0) x17_1) x23_2).f3))).trans hx712_0;replace hx712_0:=(bK (p:=⟨gb710,4,none⟩) wG (.int .i64 ((rd_T38 (rd_L2 ((rd_T59 l0_1 a1).f0) x17_1) x23_2).f4))).trans hx712_0;clear hn712_0;clear hn712_1;clear hn712_2;clear hn712_3;clear hn712_4;replace p712:=eq_true p712;replace q712:=eq_true q712;have p713:0 ≤ ((ji22):Int):=lE tF;have q713:(ji22) < (l0_0.length:Int):=lE tF;obtain ⟨ad713,e713,hx713_0⟩:=Kd.at_int HR0_0.out (ji22) p713 q713;obtain rfl:ad712 = ad713:=(by injection e713);have hn713_0:ad712.block ≠ gb710:=Nat.ne_of_lt (Nat.lt_of_lt_of_le vK GW710.out);have hn713_1:ad712.block ≠ gb710:=Nat.ne_of_lt (Nat.lt_of_lt_of_le vK GW710.out);have hn713_2:ad712.block ≠ gb710:=Nat.ne_of_lt (Nat.lt_of_lt_of_le vK GW710.out);have hn713_3:ad712.block ≠ gb710:=Nat.ne_of_lt (Nat.lt_of_lt_of_le vK GW710.out);have hn713_4:ad712.block ≠ gb710:=Nat.ne_of_lt (Nat.lt_of_lt_of_le vK GW710.out);replace hx713_0:=(HB.out.cell (lD w _ hx713_0)).trans hx713_0;replace hx713_0:=(bK (p:=⟨gb710,0,none⟩) (by first|(rw [aU];exact hn713_0)|(show (Addr.add _ _).block ≠ _;rw [aU];exact hn713_0)|exact hn713_0) (.int .i64 ((rd_T38 (rd_L2 ((rd_T59 l0_1 a1).f0) x17_1) x23_2).f0))).trans hx713_0;replace hx713_0:=(bK (p:=⟨gb710,1,none⟩) (by first|(rw [aU];exact hn713_1)|(show (Addr.add _ _).block ≠ _;rw [aU];exact hn713_1)|exact hn713_1) (.int .i64 ((rd_T38 (rd_L2 ((rd_T59 l0_1 a1).f0) x17_1) x23_2).f1))).trans hx713_0;replace hx713_0:=(bK (p:=⟨gb710,2,none⟩) (by first|(rw [aU];exact hn713_2)|(show (Addr.add _ _).block ≠ _;rw [aU];exact hn713_2)|exact hn713_2) (.int .i64 ((rd_T38 (rd_L2 ((rd_T59 l0_1 a1).f0) x17_1) x23_2).f2))).trans hx713_0;replace hx713_0:=(bK (p:=⟨gb710,3,none⟩) (by first|(rw [aU];exact hn713_3)|(show (Addr.add _ _).block ≠ _;rw [aU];exact hn713_3)|exact hn713_3) (.int .i64 ((rd_T38 (rd_L2 ((rd_T59 l0_1 a1).f0) x17_1) x23_2).f3))).trans hx713_0;replace hx713_0:=(bK (p:=⟨gb710,4,none⟩) (by first|(rw [aU];exact hn713_4)|(show (Addr.add _ _).block ≠ _;rw [aU];exact hn713_4)|exact hn713_4) (.int .i64 ((rd_T38 (rd_L2 ((rd_T59 l0_1 a1).f0) x17_1) x23_2).f4))).trans hx713_0;clear hn713_0;clear hn713_1;clear hn713_2;clear hn713_3;clear hn713_4;replace p713:=eq_true p713;replace q713:=eq_true q713))
                   go_ret
                   exact ⟨by first|rfl|(simp [errW_none,errW_some] <;> rfl)|(simp only [← hji22];first|rfl|(simp [errW_none,errW_some] <;> rfl))|(simp [*,errW_none,errW_some] <;> rfl),vn⟩
                  ·rw [if_neg c24] at H
                   have c24b0:decide ((rd l0_0 (ji22)) ≤ t711) = false:=decide_eq_false c24
                   clear c24
                   have H':=aA.mk H
                   clear H
                   have p709:0 ≤ (x23_2:Int):=lE tF
                   have q709:x23_2 < ((rd_L2 ((rd_T59 l0_1 a1).f0) x17_1).length:Int):=lE tF
                   obtain ⟨ad709,e709,hx709_0,hx709_1,hx709_2,hx709_3,hx709_4⟩:=at_T38 HR708_0.out x23_2 p709 q709
                   cases e709
                   replace hx709_0:=(HB.out.cell (lD w _ hx709_0)).trans hx709_0
                   replace hx709_1:=(HB.out.cell (lD w _ hx709_1)).trans hx709_1
                   replace hx709_2:=(HB.out.cell (lD w _ hx709_2)).trans hx709_2
                   replace hx709_3:=(HB.out.cell (lD w _ hx709_3)).trans hx709_3
                   replace hx709_4:=(HB.out.cell (lD w _ hx709_4)).trans hx709_4
                   replace p709:=eq_true p709
                   replace q709:=eq_true q709
                   go_wp2_with (first|((with_reducible refine aZ (N:=8) rfl ?_);(try (refine gate_guard vH ?_;dsimp only));refine bB ?hg (N:=8) ?hd (cs:=#[.int .i64 0,.int .i64 0,.int .i64 0,.int .i64 0,.int .i64 0]) (t:=38) ?hr ?_;(case hd=>rfl);(case hg=>rfl);(case hr=>exact tJ);intro gb710 hg w29 hbox hb;have BK710:=aA.mk (hbox);have GW710:=aA.mk ((by rw [hg];exact (aM HB.out):w.heap.size ≤ gb710));have GE710:=aA.mk ((by rw [hg];exact (aM HB.out):w.heap.size ≤ gb710));replace HB:=aA.mk (aQ HB.out hb);have NB706_710:=nL BK706;have NB710_706:=nG BK706;replace BK706:=nB BK706;clear hb hbox hg;have hnb30:=NB710_706.out;have hnc30:=NB706_710.out;obtain ⟨hcz31_0,hcz31_1,hcz31_2,hcz31_3,hcz31_4⟩:=cs5 BK710.out;obtain ⟨hfz31_0,hfz31_1,hfz31_2,hfz31_3,hfz31_4⟩:=fs5 BK710.out)|((with_reducible refine aY (f:=63) rfl ?_);refine goesL_ (some 31) rfl rfl Try.func63 tH rfl #[.int .i64 ((rd_T38 (rd_L2 ((rd_T59 l0_1 a1).f0) x17_1) x23_2).f0),.int .i64 ((rd_T38 (rd_L2 ((rd_T59 l0_1 a1).f0) x17_1) x23_2).f1)] rfl tA ?_;(with_reducible refine (impl_SpotOf.calls ((rd_T38 (rd_L2 ((rd_T59 l0_1 a1).f0) x17_1) x23_2).f0) ((rd_T38 (rd_L2 ((rd_T59 l0_1 a1).f0) x17_1) x23_2).f1) t711 _ A13.out).mono ?_);rintro e w' ⟨rfl,⟨nd,rfl⟩⟩;refine ⟨_,rfl,?_⟩;obtain ⟨hcz32_0,hcz32_1⟩:=cs2 BK706.out;obtain ⟨hfz32_0,hfz32_1⟩:=fs2 BK706.out;have p712:0 ≤ (a1:Int):=lE tF;have q712:a1 < (l0_0.length:Int):=lE tF;obtain ⟨ad712,e712,hx712_0⟩:=Kd.at_int HR0_0.out a1 p712 q712;cases e712;have hn712_0:ad712.block ≠ gb710:=Nat.ne_of_lt (Nat.lt_of_lt_of_le tY GW710.out);have hn712_1:ad712.block ≠ gb710:=Nat.ne_of_lt (Nat.lt_of_lt_of_le tY GW710.out);have hn712_2:ad712.block ≠ gb710:=Nat.ne_of_lt (Nat.lt_of_lt_of_le tY GW710.out);have hn712_3:ad712.block ≠ gb710:=Nat.ne_of_lt (Nat.lt_of_lt_of_le tY GW710.out);have hn712_4:ad712.block ≠ gb710:=Nat.ne_of_lt (Nat.lt_of_lt_of_le tY GW710.out);replace hx712_0:=(HB.out.cell (lD w _ hx712_0)).trans hx712_0;replace hx712_0:=(bK (p:=⟨gb710,0,none⟩) wL (.int .i64 ((rd_T38 (rd_L2 ((rd_T59 l0_1 a1).f0) x17_1) x23_2).f0))).trans hx712_0;replace hx712_0:=(bK (p:=⟨gb710,1,none⟩) wK (.int .i64 ((rd_T38 (rd_L2 ((rd_T59 l0_1 a1).f0) x17_1) x23_2).f1))).trans hx712_0;replace hx712_0:=(bK (p:=⟨gb710,2,none⟩) wJ (.int .i64 ((rd_T38 (rd_L2 ((rd_T59 l0_1 a1).f0) x17_1) x23_2).f2))).trans hx712_0;replace hx712_0:=(bK (p:=⟨gb710,3,none⟩) wH (.int .i64 ((rd_T38 (rd_L2 ((rd_T59 l0_1 a1).f0) x17_1) x23_2).f3))).trans hx712_0;replace hx712_0:=(bK (p:=⟨gb710,4,none⟩) wG (.int .i64 ((rd_T38 (rd_L2 ((rd_T59 l0_1 a1).f0) x17_1) x23_2).f4))).trans hx712_0;clear hn712_0;clear hn712_1;clear hn712_2;clear hn712_3;clear hn712_4;replace p712:=eq_true p712;replace q712:=eq_true q712;have p713:0 ≤ ((ji22):Int):=lE tF;have q713:(ji22) < (l0_0.length:Int):=lE tF;obtain ⟨ad713,e713,hx713_0⟩:=Kd.at_int HR0_0.out (ji22) p713 q713;obtain rfl:ad712 = ad713:=(by injection e713);have hn713_0:ad712.block ≠ gb710:=Nat.ne_of_lt (Nat.lt_of_lt_of_le vK GW710.out);have hn713_1:ad712.block ≠ gb710:=Nat.ne_of_lt (Nat.lt_of_lt_of_le vK GW710.out);have hn713_2:ad712.block ≠ gb710:=Nat.ne_of_lt (Nat.lt_of_lt_of_le vK GW710.out);have hn713_3:ad712.block ≠ gb710:=Nat.ne_of_lt (Nat.lt_of_lt_of_le vK GW710.out);have hn713_4:ad712.block ≠ gb710:=Nat.ne_of_lt (Nat.lt_of_lt_of_le vK GW710.out);replace hx713_0:=(HB.out.cell (lD w _ hx713_0)).trans hx713_0;replace hx713_0:=(bK (p:=⟨gb710,0,none⟩) (by first|(rw [aU];exact hn713_0)|(show (Addr.add _ _).block ≠ _;rw [aU];exact hn713_0)|exact hn713_0) (.int .i64 ((rd_T38 (rd_L2 ((rd_T59 l0_1 a1).f0) x17_1) x23_2).f0))).trans hx713_0;replace hx713_0:=(bK (p:=⟨gb710,1,none⟩) (by first|(rw [aU];exact hn713_1)|(show (Addr.add _ _).block ≠ _;rw [aU];exact hn713_1)|exact hn713_1) (.int .i64 ((rd_T38 (rd_L2 ((rd_T59 l0_1 a1).f0) x17_1) x23_2).f1))).trans hx713_0;replace hx713_0:=(bK (p:=⟨gb710,2,none⟩) (by first|(rw [aU];exact hn713_2)|(show (Addr.add _ _).block ≠ _;rw [aU];exact hn713_2)|exact hn713_2) (.int .i64 ((rd_T38 (rd_L2 ((rd_T59 l0_1 a1).f0) x17_1) x23_2).f2))).trans hx713_0;replace hx713_0:=(bK (p:=⟨gb710,3,none⟩) (by first|(rw [aU];exact hn713_3)|(show (Addr.add _ _).block ≠ _;rw [aU];exact hn713_3)|exact hn713_3) (.int .i64 ((rd_T38 (rd_L2 ((rd_T59 l0_1 a1).f0) x17_1) x23_2).f3))).trans hx713_0;replace hx713_0:=(bK (p:=⟨gb710,4,none⟩) (by first|(rw [aU];exact hn713_4)|(show (Addr.add _ _).block ≠ _;rw [aU];exact hn713_4)|exact hn713_4) (.int .i64 ((rd_T38 (rd_L2 ((rd_T59 l0_1 a1).f0) x17_1) x23_2).f4))).trans hx713_0;clear hn713_0;clear hn713_1;clear hn713_2;clear hn713_3;clear hn713_4;replace p713:=eq_true p713;replace q713:=eq_true q713))
                   go_roundg k2
                   case measure=>have:=HK1.out;have:=HK2.out;omega
                   case rel=>exact ⟨(wrap64 (x23_2 + 1)),tG,H',⟨by have:=HK1.out;have:=HK2.out;omega⟩,⟨t7⟩,⟨vn⟩⟩
                 ·rw [if_neg c23] at H
                  exact vM
                ·rw [if_neg c21] at H
                 have c21b0:decide ((wrap64 (a1 + 1)) < (l0_0.length:Int)) = false:=decide_eq_false c21
                 clear c21
                 have H':=aA.mk H
                 clear H
                 have p709:0 ≤ (x23_2:Int):=lE tF
                 have q709:x23_2 < ((rd_L2 ((rd_T59 l0_1 a1).f0) x17_1).length:Int):=lE tF
                 obtain ⟨ad709,e709,hx709_0,hx709_1,hx709_2,hx709_3,hx709_4⟩:=at_T38 HR708_0.out x23_2 p709 q709
                 cases e709
                 replace hx709_0:=(HB.out.cell (lD w _ hx709_0)).trans hx709_0
                 replace hx709_1:=(HB.out.cell (lD w _ hx709_1)).trans hx709_1
                 replace hx709_2:=(HB.out.cell (lD w _ hx709_2)).trans hx709_2
                 replace hx709_3:=(HB.out.cell (lD w _ hx709_3)).trans hx709_3
                 replace hx709_4:=(HB.out.cell (lD w _ hx709_4)).trans hx709_4
                 replace p709:=eq_true p709
                 replace q709:=eq_true q709
                 go_wp2_with (first|((with_reducible refine aZ (N:=8) rfl ?_);(try (refine gate_guard vH ?_;dsimp only));refine bB ?hg (N:=8) ?hd (cs:=#[.int .i64 0,.int .i64 0,.int .i64 0,.int .i64 0,.int .i64 0]) (t:=38) ?hr ?_;(case hd=>rfl);(case hg=>rfl);(case hr=>exact tJ);intro gb710 hg w33 hbox hb;have BK710:=aA.mk (hbox);have GW710:=aA.mk ((by rw [hg];exact (aM HB.out):w.heap.size ≤ gb710));have GE710:=aA.mk ((by rw [hg];exact (aM HB.out):w.heap.size ≤ gb710));replace HB:=aA.mk (aQ HB.out hb);have NB706_710:=nL BK706;have NB710_706:=nG BK706;replace BK706:=nB BK706;clear hb hbox hg;have hnb34:=NB710_706.out;have hnc34:=NB706_710.out;obtain ⟨hcz35_0,hcz35_1,hcz35_2,hcz35_3,hcz35_4⟩:=cs5 BK710.out;obtain ⟨hfz35_0,hfz35_1,hfz35_2,hfz35_3,hfz35_4⟩:=fs5 BK710.out)|((with_reducible refine aY (f:=63) rfl ?_);refine goesL_ (some 31) rfl rfl Try.func63 tH rfl #[.int .i64 ((rd_T38 (rd_L2 ((rd_T59 l0_1 a1).f0) x17_1) x23_2).f0),.int .i64 ((rd_T38 (rd_L2 ((rd_T59 l0_1 a1).f0) x17_1) x23_2).f1)] rfl tA ?_;(with_reducible refine (impl_SpotOf.calls ((rd_T38 (rd_L2 ((rd_T59 l0_1 a1).f0) x17_1) x23_2).f0) ((rd_T38 (rd_L2 ((rd_T59 l0_1 a1).f0) x17_1) x23_2).f1) t711 _ A13.out).mono ?_);rintro e w' ⟨rfl,⟨nd,rfl⟩⟩;refine ⟨_,rfl,?_⟩;obtain ⟨hcz36_0,hcz36_1⟩:=cs2 BK706.out;obtain ⟨hfz36_0,hfz36_1⟩:=fs2 BK706.out;have p712:0 ≤ (a1:Int):=lE tF;have q712:a1 < (l0_0.length:Int):=lE tF;obtain ⟨ad712,e712,hx712_0⟩:=Kd.at_int HR0_0.out a1 p712 q712;cases e712;have hn712_0:ad712.block ≠ gb710:=Nat.ne_of_lt (Nat.lt_of_lt_of_le tY GW710.out);have hn712_1:ad712.block ≠ gb710:=Nat.ne_of_lt (Nat.lt_of_lt_of_le tY GW710.out);have hn712_2:ad712.block ≠ gb710:=Nat.ne_of_lt (Nat.lt_of_lt_of_le tY GW710.out);have hn712_3:ad712.block ≠ gb710:=Nat.ne_of_lt (Nat.lt_of_lt_of_le tY GW710.out);have hn712_4:ad712.block ≠ gb710:=Nat.ne_of_lt (Nat.lt_of_lt_of_le tY GW710.out);replace hx712_0:=(HB.out.cell (lD w _ hx712_0)).trans hx712_0;replace hx712_0:=(bK (p:=⟨gb710,0,none⟩) wL (.int .i64 ((rd_T38 (rd_L2 ((rd_T59 l0_1 a1).f0) x17_1) x23_2).f0))).trans hx712_0;replace hx712_0:=(bK (p:=⟨gb710,1,none⟩) wK (.int .i64 ((rd_T38 (rd_L2 ((rd_T59 l0_1 a1).f0) x17_1) x23_2).f1))).trans hx712_0;replace hx712_0:=(bK (p:=⟨gb710,2,none⟩) wJ (.int .i64 ((rd_T38 (rd_L2 ((rd_T59 l0_1 a1).f0) x17_1) x23_2).f2))).trans hx712_0;replace hx712_0:=(bK (p:=⟨gb710,3,none⟩) wH (.int .i64 ((rd_T38 (rd_L2 ((rd_T59 l0_1 a1).f0) x17_1) x23_2).f3))).trans hx712_0;replace hx712_0:=(bK (p:=⟨gb710,4,none⟩) wG (.int .i64 ((rd_T38 (rd_L2 ((rd_T59 l0_1 a1).f0) x17_1) x23_2).f4))).trans hx712_0;clear hn712_0;clear hn712_1;clear hn712_2;clear hn712_3;clear hn712_4;replace p712:=eq_true p712;replace q712:=eq_true q712))
                 go_roundg k2
                 case measure=>have:=HK1.out;have:=HK2.out;omega
                 case rel=>exact ⟨(wrap64 (x23_2 + 1)),tG,H',⟨by have:=HK1.out;have:=HK2.out;omega⟩,⟨t7⟩,⟨vn⟩⟩
              ·rw [if_neg c15] at H
               exact vM
             ·rw [if_neg c14] at H
              exact vM
            ·rw [if_neg c12] at H
             exact vM
           ·rw [if_neg c11] at H
            exact vM
          ·rw [if_neg c10] at H
           have c10b0:decide (x23_2 < ((rd_L2 ((rd_T59 l0_1 a1).f0) x17_1).length:Int)) = false:=decide_eq_false c10
           clear c10
           have H':=aA.mk H
           clear H
           go_wp2
           go_roundg k2
           case measure=>have:=HK1.out;have:=HK2.out;omega
           case rel=>exact ⟨(wrap64 (x17_1 + 1)),tG,H',⟨by have:=HK1.out;have:=HK2.out;omega⟩,⟨AD⟩,⟨vy⟩⟩
       ·rw [if_neg c9] at H
        exact vM
      ·rw [if_neg c8] at H
       exact vM
     ·rw [if_neg c7] at H
      have c7b0:decide (x17_1 < (((rd_T59 l0_1 a1).f0).length:Int)) = false:=decide_eq_false c7
      clear c7
      obtain rfl:=Option.some.inj H
      go_wp2
      go_ret
      exact ⟨tC,vy⟩
  ·rw [if_neg c4] at H
   exact vM
 ·rw [if_neg c3] at H
  exact vM
end Go.Proofs.Ytamjbjkbineafaa.PFnPacked

namespace Go.Proofs.Ytamjbjkbineafaa.PFnPacked
open Go.RowKit Go.Proofs.YtamjbjkbineafaaW.PrintWords Go.Proofs.YtamjbjkbineafaaW.PrintLast Go.Proofs.YtamjbjkbineafaaW.PrintMore
attribute [local go_sem] max2_int min2_int max_two min_two max_three min_three max_four min_four   -- for this text's walks alone
set_option linter.unusedVariables false
set_option linter.unusedSimpArgs false
mutual
def impl_TreeOk.j0:Nat → Bool → List Int → List (S59) → Option (Bool)
 | 0,_,_,_=>none
 | k + 1,x27,x715000,x715001=>if x27 = true then (some false) else (impl_TreeOk.l0 k 0 x715001 (x715001.length:Int) 0 x715000 x715001)
def impl_TreeOk.l0:Nat → Int → List (S59) → Int → Int → List Int → List (S59) → Option (Bool)
 | 0,_,_,_,_,_,_=>none
 | k + 1,x3,x29,x30,x31,x715000,x715001=>if x31 < x30 then (if 0 ≤ x31 then (if x31 < (x29.length:Int) then (if x31 > 0 then (if 0 ≤ (wrap64 (x31 - 1)) then (if (wrap64 (x31 - 1)) < (x715000.length:Int) then (if x31 < (x715000.length:Int) then (if (rd x715000 (wrap64 (x31 - 1))) ≥ (rd x715000 x31) then (impl_TreeOk.j2 k x3 x31 x29 x30 x31 true x715000 x715001 ((rd_T59 x29 x31).f0)) else ((impl_NodeOk.f k ((rd_T59 x29 x31).f0)).bind fun t721=>(if t721 = true then ((impl_inBounds.f k x715000 x715001 x31).bind fun t722=>(impl_TreeOk.j2 k x3 x31 x29 x30 x31 (!t722) x715000 x715001 ((rd_T59 x29 x31).f0))) else (impl_TreeOk.j2 k x3 x31 x29 x30 x31 true x715000 x715001 ((rd_T59 x29 x31).f0))))) else (none)) else (none)) else (none)) else ((impl_NodeOk.f k ((rd_T59 x29 x31).f0)).bind fun t723=>(if t723 = true then ((impl_inBounds.f k x715000 x715001 x31).bind fun t724=>(impl_TreeOk.j2 k x3 x31 x29 x30 x31 (!t724) x715000 x715001 ((rd_T59 x29 x31).f0))) else (impl_TreeOk.j2 k x3 x31 x29 x30 x31 true x715000 x715001 ((rd_T59 x29 x31).f0))))) else (none)) else (none)) else (some (decide (x3 ≤ 60)))
def impl_TreeOk.j2:Nat → Int → Int → List (S59) → Int → Int → Bool → List Int → List (S59) → List (List (S38)) → Option (Bool)
 | 0,_,_,_,_,_,_,_,_,_=>none
 | k + 1,x3,x4,x29,x30,x31,x62,x715000,x715001,x719000=>if x62 = true then (some false) else ((impl_NodeKeys.f k x719000).bind fun t725=>(if x4 > 0 then (if (t725.length:Int) = 0 then (some false) else (impl_TreeOk.l0 k (wrap64 (x3 + (t725.length:Int))) x29 x30 (wrap64 (x31 + 1)) x715000 x715001)) else (impl_TreeOk.l0 k (wrap64 (x3 + (t725.length:Int))) x29 x30 (wrap64 (x31 + 1)) x715000 x715001)))
end
def impl_TreeOk.f (k:Nat) (l0_0:List Int) (l0_1:List (S59)):Option (Bool):=(impl_within.f (l0_1.length:Int) 1 20).bind fun t715=>(if t715 = true then (if (l0_0.length:Int) = (l0_1.length:Int) then (if 0 < (l0_0.length:Int) then (impl_TreeOk.j0 k ((rd l0_0 0) != 0) l0_0 l0_1) else (none)) else (impl_TreeOk.j0 k true l0_0 l0_1)) else (impl_TreeOk.j0 k true l0_0 l0_1))
def impl_TreeOk.T7:Bool × List (List Nat × List Nat):=(true,[([],[]),([0],[0]),([1],[1]),([2],[2]),([3,2],[2,3]),([2],[2]),([5,2],[2,5]),([4,6,2],[2,4,6]),([7,2],[2,7]),([2],[2]),([9,2],[2,9]),([2],[2]),([10,11,2],[2,10,11]),([12,2],[2,12]),([8,13,2],[2,8,13]),([2,14],[2,14]),([15,2],[15]),([16],[16]),([17,16,16],[16,17]),([18,16],[16,18]),([16,19],[16,19]),([20,18],[20]),([21],[21]),([21],[21]),([22,23,21,21],[21,22,23]),([24,21],[21,24]),([21,25],[21,25])])
def impl_TreeOk.B7:List Nat:=[0,1,3,7,15,7,39,127,255,7,519,7,3591,7687,16383,32767,65535,131071,262143,524287,1048575,2097151,4194303,4194303,16777215,33554431,67108863]
theorem impl_TreeOk.tab7:rtab .any (opsOf Try.f17 7) = impl_TreeOk.T7:=by kernel_rfl
theorem impl_TreeOk.bits7:waitsOk impl_TreeOk.T7.2 impl_TreeOk.B7 = true:=by kernel_rfl
set_option maxHeartbeats 8000000 in
set_option maxRecDepth 100000 in
theorem impl_TreeOk.calls (k:Nat) (A0_0:Option Addr) (c0_0:Nat) (l0_0:List Int) (A0_1:Option Addr) (c0_1:Nat) (l0_1:List (S59)) (r:Bool) (w:World) (hr0_0:Kd.C (Kd.int .i64) w A0_0 l0_0.length l0_0) (hc0_0:l0_0.length ≤ c0_0) (hr0_1:Kd.C k59 w A0_1 l0_1.length l0_1) (hc0_1:l0_1.length ≤ c0_1) (h:impl_TreeOk.f k l0_0 l0_1 = some r) :
  Calls Try.prog 17 #[.agg #[.slice A0_0 l0_0.length c0_0,.slice A0_1 l0_1.length c0_1]] w fun e w'=>e = .returned (.bool r) ∧ Below w.heap.size w w':=by
 have hu29:=Try.underlying29
 have hu59:=Try.underlying59
 have HR0_0:=aA.mk hr0_0
 have HC0_0:=aA.mk hc0_0
 clear hr0_0 hc0_0
 have HR0_1:=aA.mk hr0_1
 have HC0_1:=aA.mk hc0_1
 clear hr0_1 hc0_1
 have HB:=aA.mk (Below.refl w.heap.size w)
 have H:((impl_within.f (l0_1.length:Int) 1 20).bind fun t715=>(if t715 = true then (if (l0_0.length:Int) = (l0_1.length:Int) then (if 0 < (l0_0.length:Int) then (impl_TreeOk.j0 k ((rd l0_0 0) != 0) l0_0 l0_1) else (none)) else (impl_TreeOk.j0 k true l0_0 l0_1)) else (impl_TreeOk.j0 k true l0_0 l0_1))) = some r:=h
 clear h
 have HC2:=aA.mk H
 clear H
 go_enter Try.func17,Try.ntmps17
 go_upto_region 1 with (first|((with_reducible refine aZ (N:=1) rfl ?_);(try (refine gate_guard vH ?_;dsimp only));refine bB ?hg (N:=1) ?hd (cs:=#[.slice A0_0 l0_0.length c0_0,.slice A0_1 l0_1.length c0_1]) (t:=29) ?hr ?_;(case hd=>rfl);(case hg=>rfl);(case hr=>exact tJ);intro gb714 hg w3 hbox hb;have BK714:=aA.mk (hbox);have GW714:=aA.mk ((by rw [hg];exact (aM HB.out):w.heap.size ≤ gb714));have GE714:=aA.mk ((by rw [hg];exact (aM HB.out):w.heap.size ≤ gb714));replace HB:=aA.mk (aQ HB.out hb);clear hb hbox hg))
 (try simp only [Act.put,lA,lB,lC])
 go_cut [27] (fun v27 wc=>∃ (kq:Nat) (x27_1:Bool),v27 = .bool x27_1 ∧ aA (impl_TreeOk.j0 kq x27_1 l0_0 l0_1 = some r) ∧ aA (kq ≤ k) ∧ aA (wc.heap[gb714]? = some (.cells #[(.slice A0_0 l0_0.length c0_0),(.slice A0_1 l0_1.length c0_1)] 29 (0,0))) ∧ aA (Below w.heap.size w wc))
 case first =>
  have H:=HC2.out
  clear HC2
  replace H:=lF H
  obtain ⟨t715,A40,H⟩:=H
  replace H:(if t715 = true then (if (l0_0.length:Int) = (l0_1.length:Int) then (if 0 < (l0_0.length:Int) then (impl_TreeOk.j0 k ((rd l0_0 0) != 0) l0_0 l0_1) else (none)) else (impl_TreeOk.j0 k true l0_0 l0_1)) else (impl_TreeOk.j0 k true l0_0 l0_1)) = some r:=H
  have A4:=aA.mk A40
  clear A40
  by_cases c5:t715 = true
  ·subst c5
   have H1:(if (l0_0.length:Int) = (l0_1.length:Int) then (if 0 < (l0_0.length:Int) then (impl_TreeOk.j0 k ((rd l0_0 0) != 0) l0_0 l0_1) else (none)) else (impl_TreeOk.j0 k true l0_0 l0_1)) = some r:=by rw [if_pos rfl] at H;exact H
   clear H
   have H:=H1
   clear H1
   by_cases c6:(l0_0.length:Int) = (l0_1.length:Int)
   ·rw [if_pos c6] at H
    have c6b0:((l0_0.length:Int) == (l0_1.length:Int)) = true:=beq_iff_eq.mpr c6
    have c6b1:((l0_0.length:Int) != (l0_1.length:Int)) = false:=bne_eq_false_iff_eq.mpr c6
    have c6b2:(l0_0.length == l0_1.length) = true:=by first|simpa using c6|(simp at c6 ⊢;omega)
    clear c6
    (first|rw [c6b0]|(simp only [i64_w,i32_w];rw [c6b0])|skip)
    by_cases c7:0 < (l0_0.length:Int)
    ·rw [if_pos c7] at H
     have c7b0:decide (0 < (l0_0.length:Int)) = true:=decide_eq_true c7
     have c7b1:decide (0 < l0_0.length) = true:=decide_eq_true tB
     clear c7
     have H':=aA.mk H
     clear H
     obtain ⟨hcz8_0,hcz8_1⟩:=cs2 BK714.out
     obtain ⟨hfz8_0,hfz8_1⟩:=fs2 BK714.out
     go_wp2_with (first|((with_reducible refine aY (f:=32) rfl ?_);refine goesL_ (some 10) rfl rfl Try.func32 tH rfl #[.int .i64 (l0_1.length:Int),.int .i64 1,.int .i64 20] rfl tA ?_;(with_reducible refine (impl_within.calls (l0_1.length:Int) 1 20 true _ A4.out).mono ?_);rintro e w' ⟨rfl,⟨nd,rfl⟩⟩;refine ⟨_,rfl,?_⟩;have p716:0 ≤ (0:Int):=tB;have q716:0 < (l0_0.length:Int):=lE tF;obtain ⟨ad716,e716,hx716_0⟩:=Kd.at_int HR0_0.out 0 p716 q716;cases e716;have qi716:(0 < l0_0.length) = True:=eq_true tB;(try rw [show ((0:Int)).toNat = 0 from rfl] at hx716_0);(try rw [Addr.add_zero'] at hx716_0);replace hx716_0:=(HB.out.cell (lD w _ hx716_0)).trans hx716_0;replace p716:=eq_true p716;replace q716:=eq_true q716))
     go_meet
     case rel=>exact ⟨_,(((rd l0_0 0) != 0)),tG,H',⟨AF⟩,⟨tn⟩,⟨vB⟩⟩
    ·rw [if_neg c7] at H
     exact vM
   ·rw [if_neg c6] at H
    have c6b0:((l0_0.length:Int) == (l0_1.length:Int)) = false:=beq_eq_false_iff_ne.mpr c6
    have c6b1:((l0_0.length:Int) != (l0_1.length:Int)) = true:=bne_iff_ne.mpr c6
    have c6b2:(l0_0.length == l0_1.length) = false:=by first|simpa using c6|(simp at c6 ⊢;omega)
    (first|rw [c6b0]|(simp only [i64_w,i32_w];rw [c6b0])|skip)
    have H':=aA.mk H
    clear H
    obtain ⟨hcz9_0,hcz9_1⟩:=cs2 BK714.out
    obtain ⟨hfz9_0,hfz9_1⟩:=fs2 BK714.out
    go_wp2_with (first|((with_reducible refine aY (f:=32) rfl ?_);refine goesL_ (some 10) rfl rfl Try.func32 tH rfl #[.int .i64 (l0_1.length:Int),.int .i64 1,.int .i64 20] rfl tA ?_;(with_reducible refine (impl_within.calls (l0_1.length:Int) 1 20 true _ A4.out).mono ?_);rintro e w' ⟨rfl,⟨nd,rfl⟩⟩;refine ⟨_,rfl,?_⟩))
    go_meet
    case rel=>exact ⟨_,(true),tG,H',⟨AF⟩,⟨tn⟩,⟨vB⟩⟩
  ·replace c5:=Bool.eq_false_iff.mpr c5
   subst c5
   have H1:(impl_TreeOk.j0 k true l0_0 l0_1) = some r:=by rw [if_neg (show ¬ (false = true) by decide)] at H;exact H
   clear H
   have H:=H1
   clear H1
   have H':=aA.mk H
   clear H
   obtain ⟨hcz10_0,hcz10_1⟩:=cs2 BK714.out
   obtain ⟨hfz10_0,hfz10_1⟩:=fs2 BK714.out
   go_wp2_with (first|((with_reducible refine aY (f:=32) rfl ?_);refine goesL_ (some 10) rfl rfl Try.func32 tH rfl #[.int .i64 (l0_1.length:Int),.int .i64 1,.int .i64 20] rfl tA ?_;(with_reducible refine (impl_within.calls (l0_1.length:Int) 1 20 false _ A4.out).mono ?_);rintro e w' ⟨rfl,⟨nd,rfl⟩⟩;refine ⟨_,rfl,?_⟩))
   go_meet
   case rel=>exact ⟨_,(true),tG,H',⟨AF⟩,⟨tn⟩,⟨vB⟩⟩
 case rest =>
  clear HC2
  try clear c1
  try clear p2
  try clear c3
  try clear c5
  try clear c6
  try clear c6b0
  try clear c6b1
  try clear c6b2
  try clear c7
  try clear c7b0
  try clear c7b1
  try clear p7
  try clear q7
  try clear hx7
  try clear qi7
  try clear hcz10_0
  try clear hcz10_1
  try clear hcz8_0
  try clear hcz8_1
  try clear hcz9_0
  try clear hcz9_1
  try clear hfz10_0
  try clear hfz10_1
  try clear hfz8_0
  try clear hfz8_1
  try clear hfz9_0
  try clear hfz9_1
  try clear hx716_0
  try clear p716
  try clear q716
  obtain ⟨kq,x27_1,rfl,HA,HJ1,BK714,HB⟩:=hcut
  cases kq with
  | zero=>exact absurd HA.out (by simp [impl_TreeOk.j0])
  | succ kj1 =>
   have H:=HA.out
   clear HA
   simp only [impl_TreeOk.j0] at H
   by_cases c11:x27_1 = true
   ·subst c11
    have H1:(some false) = some r:=by rw [if_pos rfl] at H;exact H
    clear H
    have H:=H1
    clear H1
    obtain rfl:=Option.some.inj H
    go_wp2
    go_ret
    exact ⟨tC,vB⟩
   ·replace c11:=Bool.eq_false_iff.mpr c11
    subst c11
    have H1:(impl_TreeOk.l0 kj1 0 l0_1 (l0_1.length:Int) 0 l0_0 l0_1) = some r:=by rw [if_neg (show ¬ (false = true) by decide)] at H;exact H
    clear H
    have H:=H1
    clear H1
    have H':=aA.mk H
    clear H
    obtain ⟨hcz12_0,hcz12_1⟩:=cs2 BK714.out
    obtain ⟨hfz12_0,hfz12_1⟩:=fs2 BK714.out
    go_wp2
    go_loopg [3,31] kj1 (fun kq v3 v31 w'=>∃ (x3_2:Int) (x31_2:Int),v3 = .int .i64 x3_2 ∧ v31 = .int .i64 x31_2 ∧ aA (impl_TreeOk.l0 kq x3_2 l0_1 (l0_1.length:Int) x31_2 l0_0 l0_1 = some r) ∧ aA (kq ≤ kj1) ∧ aA (w'.heap[gb714]? = some (.cells #[(.slice A0_0 l0_0.length c0_0),(.slice A0_1 l0_1.length c0_1)] 29 (0,0))) ∧ aA (Below w.heap.size w w'))
    case atStart=>exact ⟨(0),(0),tG,tG,H',⟨Nat.le_refl _⟩,⟨tn⟩,⟨vB⟩⟩
    case round =>
     clear H'
     try clear c1
     try clear p2
     try clear c3
     try clear c5
     try clear c6
     try clear c6b0
     try clear c6b1
     try clear c6b2
     try clear c7
     try clear c7b0
     try clear c7b1
     try clear p7
     try clear q7
     try clear hx7
     try clear qi7
     try clear c11
     try clear hcz10_0
     try clear hcz10_1
     try clear hcz12_0
     try clear hcz12_1
     try clear hcz8_0
     try clear hcz8_1
     try clear hcz9_0
     try clear hcz9_1
     try clear hfz10_0
     try clear hfz10_1
     try clear hfz12_0
     try clear hfz12_1
     try clear hfz8_0
     try clear hfz8_1
     try clear hfz9_0
     try clear hfz9_1
     try clear hx716_0
     try clear p2
     try clear p7
     try clear p716
     try clear q7
     try clear q716
     obtain ⟨x3_2,x31_2,rfl,rfl,HA,HK2,BK714,HB⟩:=hrel
     cases gk with
     | zero=>exact absurd HA.out (by simp [impl_TreeOk.l0])
     | succ k2 =>
      have H:=HA.out
      clear HA
      simp only [impl_TreeOk.l0] at H
      by_cases c13:x31_2 < (l0_1.length:Int)
      ·rw [if_pos c13] at H
       have c13b0:decide (x31_2 < (l0_1.length:Int)) = true:=decide_eq_true c13
       clear c13
       by_cases c14:0 ≤ x31_2
       ·rw [if_pos c14] at H
        have c14b0:decide (0 ≤ x31_2) = true:=decide_eq_true c14
        clear c14
        by_cases c15:x31_2 < (l0_1.length:Int)
        ·rw [if_pos c15] at H
         have c15b0:decide (x31_2 < (l0_1.length:Int)) = true:=decide_eq_true c15
         clear c15
         have HC16:=aA.mk H
         clear H
         have p717:0 ≤ (x31_2:Int):=lE tF
         have q717:x31_2 < (l0_1.length:Int):=lE tF
         obtain ⟨ad717,A717_0,c717_0,e717,hx717_0,hl717_0,hi717_0⟩:=at_T59 HR0_1.out x31_2 p717 q717
         cases e717
         replace hx717_0:=(HB.out.cell (lD w _ hx717_0)).trans hx717_0
         have HR717_0:=aA.mk hi717_0
         have HC717_0:=aA.mk hl717_0
         clear hi717_0 hl717_0
         replace p717:=eq_true p717
         replace q717:=eq_true q717
         go_upto_region 7 with (first|((with_reducible refine aZ (N:=5) rfl ?_);(try (refine gate_guard vH ?_;dsimp only));refine bB ?hg (N:=5) ?hd (cs:=#[.slice none 0 0]) (t:=59) ?hr ?_;(case hd=>rfl);(case hg=>rfl);(case hr=>exact tJ);intro gb718 hg w17 hbox hb;have BK718:=aA.mk (hbox);have GW718:=aA.mk ((by rw [hg];exact (aM HB.out):w.heap.size ≤ gb718));have GE718:=aA.mk ((by rw [hg];exact (aM HB.out):w.heap.size ≤ gb718));replace HB:=aA.mk (aQ HB.out hb);have NB714_718:=nL BK714;have NB718_714:=nG BK714;replace BK714:=nB BK714;clear hb hbox hg;have hnb18:=NB718_714.out;have hnc18:=NB714_718.out;have hcz19_0:=cs1 BK718.out;have hfz19_0:=fs1 BK718.out))
         (try simp only [Act.put,lA,lB,lC])
         go_cut [62] (fun v62 wc=>∃ (kq:Nat) (x62_15:Bool),v62 = .bool x62_15 ∧ aA (impl_TreeOk.j2 kq x3_2 x31_2 l0_1 (l0_1.length:Int) x31_2 x62_15 l0_0 l0_1 ((rd_T59 l0_1 x31_2).f0) = some r) ∧ aA (kq ≤ k2) ∧ aA (wc.heap[gb714]? = some (.cells #[(.slice A0_0 l0_0.length c0_0),(.slice (some ad717) l0_1.length c0_1)] 29 (0,0))) ∧ aA (wc.heap[gb718]? = some (.cells #[(.slice A717_0 ((rd_T59 l0_1 x31_2).f0).length c717_0)] 59 (0,0))) ∧ aA (Below w.heap.size w wc))
         case first =>
          have H:=HC16.out
          clear HC16
          by_cases c20:x31_2 > 0
          ·rw [if_pos c20] at H
           have c20b0:decide (0 < x31_2) = true:=decide_eq_true c20
           clear c20
           (first|rw [c20b0]|(simp only [i64_w,i32_w];rw [c20b0])|skip)
           obtain ⟨ji21,hji21⟩:∃ j_:Int,(wrap64 (x31_2 - 1)) = j_:=⟨_,rfl⟩
           replace H:(if 0 ≤ (ji21) then (if (ji21) < (l0_0.length:Int) then (if x31_2 < (l0_0.length:Int) then (if (rd l0_0 (ji21)) ≥ (rd l0_0 x31_2) then (impl_TreeOk.j2 k2 x3_2 x31_2 l0_1 (l0_1.length:Int) x31_2 true l0_0 l0_1 ((rd_T59 l0_1 x31_2).f0)) else ((impl_NodeOk.f k2 ((rd_T59 l0_1 x31_2).f0)).bind fun t721=>(if t721 = true then ((impl_inBounds.f k2 l0_0 l0_1 x31_2).bind fun t722=>(impl_TreeOk.j2 k2 x3_2 x31_2 l0_1 (l0_1.length:Int) x31_2 (!t722) l0_0 l0_1 ((rd_T59 l0_1 x31_2).f0))) else (impl_TreeOk.j2 k2 x3_2 x31_2 l0_1 (l0_1.length:Int) x31_2 true l0_0 l0_1 ((rd_T59 l0_1 x31_2).f0))))) else (none)) else (none)) else (none)) = some r:=by first|(rw [hji21] at H;exact H)|(simp only [hji21] at H ⊢;exact H)
           have hji21w:(IntKind.i64.wrap (x31_2 - 1)) = ji21:=(i64_w _).trans hji21
           by_cases c22:0 ≤ (ji21)
           ·rw [if_pos c22] at H
            have c22b0:decide (0 ≤ (ji21)) = true:=decide_eq_true c22
            clear c22
            by_cases c23:(ji21) < (l0_0.length:Int)
            ·rw [if_pos c23] at H
             have c23b0:decide ((ji21) < (l0_0.length:Int)) = true:=decide_eq_true c23
             clear c23
             by_cases c24:x31_2 < (l0_0.length:Int)
             ·rw [if_pos c24] at H
              have c24b0:decide (x31_2 < (l0_0.length:Int)) = true:=decide_eq_true c24
              clear c24
              by_cases c25:(rd l0_0 (ji21)) ≥ (rd l0_0 x31_2)
              ·rw [if_pos c25] at H
               have c25b0:decide ((rd l0_0 x31_2) ≤ (rd l0_0 (ji21))) = true:=decide_eq_true c25
               clear c25
               have H':=aA.mk H
               clear H
               try go_wp2
               have n0_:aA ((w17.setCell ⟨gb718,0,none⟩ (.slice A717_0 ((rd_T59 l0_1 x31_2).f0).length c717_0)).heap[gb714]? = some (.cells #[.slice A0_0 l0_0.length c0_0,.slice (some ad717) l0_1.length c0_1] 29 (0,0))):=⟨t0⟩
               have n1_:aA ((w17.setCell ⟨gb718,0,none⟩ (.slice A717_0 ((rd_T59 l0_1 x31_2).f0).length c717_0)).heap[gb718]? = some (.cells #[.slice A717_0 ((rd_T59 l0_1 x31_2).f0).length c717_0] 59 (0,0))):=⟨tr⟩
               have n2_:aA (Below w.heap.size w (w17.setCell ⟨gb718,0,none⟩ (.slice A717_0 ((rd_T59 l0_1 x31_2).f0).length c717_0))):=⟨tP⟩
               (try clear BK714)
               (try clear BK718)
               (try clear HB)
               generalize (w17.setCell ⟨gb718,0,none⟩ (.slice A717_0 ((rd_T59 l0_1 x31_2).f0).length c717_0)) = w26 at n0_ n1_ n2_ ⊢
               have BK714:=n0_
               have BK718:=n1_
               have HB:=n2_
               clear n0_ n1_ n2_
               replace BK714:=aA.mk (aH BK714.out)
               replace BK718:=aA.mk (aH BK718.out)
               replace HB:=aA.mk (aJ HB.out)
               have p719:0 ≤ ((ji21):Int):=lE tF
               have q719:(ji21) < (l0_0.length:Int):=lE tF
               obtain ⟨ad719,e719,hx719_0⟩:=Kd.at_int HR0_0.out (ji21) p719 q719
               have hw719_0:=hx719_0
               cases e719
               replace hx719_0:=(HB.out.cell (lD w _ hx719_0)).trans hx719_0
               replace p719:=eq_true p719
               replace q719:=eq_true q719
               have p720:0 ≤ (x31_2:Int):=lE tF
               have q720:x31_2 < (l0_0.length:Int):=lE tF
               obtain ⟨ad720,e720,hx720_0⟩:=Kd.at_int HR0_0.out x31_2 p720 q720
               have hw720_0:=hx720_0
               obtain rfl:ad719 = ad720:=(by injection e720)
               replace hx720_0:=(HB.out.cell (lD w _ hx720_0)).trans hx720_0
               replace p720:=eq_true p720
               replace q720:=eq_true q720
               refine start_ (n:=27) (S:=fun w'=>w'.cell? ⟨gb714,0,none⟩ = some (.slice (some ad719) l0_0.length c0_0) ∧ w'.cell? ⟨gb714,1,none⟩ = some (.slice (some ad717) l0_1.length c0_1) ∧ w'.cell? (ad719.add ((ji21)).toNat) = some (.int .i64 (rd l0_0 (ji21))) ∧ w'.cell? (ad719.add (x31_2).toNat) = some (.int .i64 (rd l0_0 x31_2))) (ds:=[]) #[F0,F0,F0,F0,F0,F0,F0,F0,F0,F0,F0,F0,F0,F0,F0,F0,F0,F0,F0,F0,F0,F0,F0,F0,F0,F0,F0] tH rfl rfl ⟨(aN BK714.out 0).trans rfl,(aN BK714.out 1).trans rfl,((HB.out.cell (lD w _ hw719_0)).trans hw719_0),((HB.out.cell (lD w _ hw720_0)).trans hw720_0)⟩ (fun hHeld=>?_);refine with_tabW impl_TreeOk.tab7 impl_TreeOk.bits7 (fun HT_ HW_=>?_)
               generalize w26.drew = w27 at BK714 BK718 HB hx719_0 hx720_0 hHeld ⊢
               refine pu (i:=0) (N:=some 36) (bq1 1 27) ?_
               refine pu (i:=1) (N:=some 37) (bq1 3 27) ?_
               refine pu (i:=2) (N:=some 38) (bq1 7 27) ?_
               refine pu (i:=3) (N:=some 39) (bq1 15 27) ?_
               refine pu (i:=5) (N:=some 41) (bq1 47 27) ?_
               refine pu (i:=6) (N:=some 42) (bq1 111 27) ?_
               refine pu (i:=9) (N:=some 45) (bq1 623 27) ?_
               refine pu (i:=11) (N:=some 47) (bq1 2671 27) ?_
               refine tu4 (i:=4) (N:=some 40) (bq1 2687 27) ?_
               refine pu (i:=7) (N:=some 43) (bq1 2815 27) ?_
               refine tu4 (i:=8) (N:=some 44) (bq1 3071 27) ?_
               refine tu4 (i:=10) (N:=some 46) (bq1 4095 27) ?_
               refine pu (i:=12) (N:=some 48) (bq1 8191 27) ?_
               refine tu4 (i:=13) (N:=some 49) (bq1 16383 27) ?_
               refine pu (i:=14) (N:=some 50) (bq1 32767 27) ?_
               refine pu (i:=15) (N:=some 51) (bq1 65535 27) ?_
               refine pu (i:=16) (N:=some 52) (bq1 131071 27) ?_
               refine pv (i:=17) (N:=some 53) (bq1 262143 27) ?_
               refine pv (i:=18) (N:=some 54) (bq1 524287 27) ?_
               refine pv (i:=19) (N:=some 55) (bq1 1048575 27) ?_
               refine pu (i:=20) (N:=some 56) (bq1 2097151 27) ?_
               refine pu (i:=21) (N:=some 57) (bq1 4194303 27) ?_
               refine pv (i:=22) (N:=some 58) (bq1 8388607 27) ?_
               refine pv (i:=23) (N:=some 59) (bq1 16777215 27) ?_
               refine pv (i:=24) (N:=some 60) (bq1 33554431 27) ?_
               refine pv (i:=25) (N:=some 61) (bq1 67108863 27) ?_
               refine pu (i:=26) (N:=some 62) (bq1 134217727 27) ?_
               refine done_ (done_of HT_.out tH) ?_
               try go_wp2
               go_meet
               case rel=>exact ⟨_,(true),tG,H',⟨wZ⟩,⟨tn⟩,⟨vx⟩,⟨tP⟩⟩
              ·rw [if_neg c25] at H
               have c25b0:decide ((rd l0_0 x31_2) ≤ (rd l0_0 (ji21))) = false:=decide_eq_false c25
               clear c25
               replace H:=lF H
               obtain ⟨t721,A280,H⟩:=H
               replace H:(if t721 = true then ((impl_inBounds.f k2 l0_0 l0_1 x31_2).bind fun t722=>(impl_TreeOk.j2 k2 x3_2 x31_2 l0_1 (l0_1.length:Int) x31_2 (!t722) l0_0 l0_1 ((rd_T59 l0_1 x31_2).f0))) else (impl_TreeOk.j2 k2 x3_2 x31_2 l0_1 (l0_1.length:Int) x31_2 true l0_0 l0_1 ((rd_T59 l0_1 x31_2).f0))) = some r:=H
               have A28:=aA.mk A280
               clear A280
               by_cases c29:t721 = true
               ·subst c29
                have H1:((impl_inBounds.f k2 l0_0 l0_1 x31_2).bind fun t722=>(impl_TreeOk.j2 k2 x3_2 x31_2 l0_1 (l0_1.length:Int) x31_2 (!t722) l0_0 l0_1 ((rd_T59 l0_1 x31_2).f0))) = some r:=by rw [if_pos rfl] at H;exact H
                clear H
                have H:=H1
                clear H1
                replace H:=lF H
                obtain ⟨t722,A300,H⟩:=H
                replace H:(impl_TreeOk.j2 k2 x3_2 x31_2 l0_1 (l0_1.length:Int) x31_2 (!t722) l0_0 l0_1 ((rd_T59 l0_1 x31_2).f0)) = some r:=H
                have A30:=aA.mk A300
                clear A300
                have H':=aA.mk H
                clear H
                try go_wp2
                have n0_:aA ((w17.setCell ⟨gb718,0,none⟩ (.slice A717_0 ((rd_T59 l0_1 x31_2).f0).length c717_0)).heap[gb714]? = some (.cells #[.slice A0_0 l0_0.length c0_0,.slice (some ad717) l0_1.length c0_1] 29 (0,0))):=⟨t0⟩
                have n1_:aA ((w17.setCell ⟨gb718,0,none⟩ (.slice A717_0 ((rd_T59 l0_1 x31_2).f0).length c717_0)).heap[gb718]? = some (.cells #[.slice A717_0 ((rd_T59 l0_1 x31_2).f0).length c717_0] 59 (0,0))):=⟨tr⟩
                have n2_:aA (Below w.heap.size w (w17.setCell ⟨gb718,0,none⟩ (.slice A717_0 ((rd_T59 l0_1 x31_2).f0).length c717_0))):=⟨tP⟩
                (try clear BK714)
                (try clear BK718)
                (try clear HB)
                generalize (w17.setCell ⟨gb718,0,none⟩ (.slice A717_0 ((rd_T59 l0_1 x31_2).f0).length c717_0)) = w31 at n0_ n1_ n2_ ⊢
                have BK714:=n0_
                have BK718:=n1_
                have HB:=n2_
                clear n0_ n1_ n2_
                replace BK714:=aA.mk (aH BK714.out)
                replace BK718:=aA.mk (aH BK718.out)
                replace HB:=aA.mk (aJ HB.out)
                have p719:0 ≤ ((ji21):Int):=lE tF
                have q719:(ji21) < (l0_0.length:Int):=lE tF
                obtain ⟨ad719,e719,hx719_0⟩:=Kd.at_int HR0_0.out (ji21) p719 q719
                have hw719_0:=hx719_0
                cases e719
                replace hx719_0:=(HB.out.cell (lD w _ hx719_0)).trans hx719_0
                replace p719:=eq_true p719
                replace q719:=eq_true q719
                have p720:0 ≤ (x31_2:Int):=lE tF
                have q720:x31_2 < (l0_0.length:Int):=lE tF
                obtain ⟨ad720,e720,hx720_0⟩:=Kd.at_int HR0_0.out x31_2 p720 q720
                have hw720_0:=hx720_0
                obtain rfl:ad719 = ad720:=(by injection e720)
                replace hx720_0:=(HB.out.cell (lD w _ hx720_0)).trans hx720_0
                replace p720:=eq_true p720
                replace q720:=eq_true q720
                refine start_ (n:=27) (S:=fun w'=>w'.cell? ⟨gb714,0,none⟩ = some (.slice (some ad719) l0_0.length c0_0) ∧ w'.cell? ⟨gb714,1,none⟩ = some (.slice (some ad717) l0_1.length c0_1) ∧ w'.cell? ⟨gb718,0,none⟩ = some (.slice A717_0 ((rd_T59 l0_1 x31_2).f0).length c717_0) ∧ w'.cell? (ad719.add ((ji21)).toNat) = some (.int .i64 (rd l0_0 (ji21))) ∧ w'.cell? (ad719.add (x31_2).toNat) = some (.int .i64 (rd l0_0 x31_2))) (ds:=[]) #[F0,F0,F0,F0,F0,F0,F0,F0,F0,F0,F0,F0,F0,F0,F0,F0,F0,F0,F0,F0,F0,F0,F0,F0,F0,F0,F0] tH rfl rfl ⟨(aN BK714.out 0).trans rfl,(aN BK714.out 1).trans rfl,(aN BK718.out 0).trans rfl,((HB.out.cell (lD w _ hw719_0)).trans hw719_0),((HB.out.cell (lD w _ hw720_0)).trans hw720_0)⟩ (fun hHeld=>?_);refine with_tabW impl_TreeOk.tab7 impl_TreeOk.bits7 (fun HT_ HW_=>?_)
                generalize w31.drew = w32 at BK714 BK718 HB hx719_0 hx720_0 hHeld ⊢
                refine pu (i:=0) (N:=some 36) (bq1 1 27) ?_
                refine pu (i:=1) (N:=some 37) (bq1 3 27) ?_
                refine pu (i:=2) (N:=some 38) (bq1 7 27) ?_
                refine pu (i:=3) (N:=some 39) (bq1 15 27) ?_
                refine pu (i:=5) (N:=some 41) (bq1 47 27) ?_
                refine pu (i:=6) (N:=some 42) (bq1 111 27) ?_
                refine pu (i:=9) (N:=some 45) (bq1 623 27) ?_
                refine pu (i:=11) (N:=some 47) (bq1 2671 27) ?_
                refine tu5 (i:=4) (N:=some 40) (bq1 2687 27) ?_
                refine pu (i:=7) (N:=some 43) (bq1 2815 27) ?_
                refine tu5 (i:=8) (N:=some 44) (bq1 3071 27) ?_
                refine tu5 (i:=10) (N:=some 46) (bq1 4095 27) ?_
                refine pu (i:=12) (N:=some 48) (bq1 8191 27) ?_
                refine tu5 (i:=13) (N:=some 49) (bq1 16383 27) ?_
                refine pu (i:=14) (N:=some 50) (bq1 32767 27) ?_
                refine pu (i:=15) (N:=some 51) (bq1 65535 27) ?_
                refine pu (i:=16) (N:=some 52) (bq1 131071 27) ?_
                refine tu5 (i:=17) (N:=some 53) (bq1 262143 27) ?_
                refine one_ (i:=18) (N:=some 54) (bq1 524287 27) rfl rfl (one_of HT_.out tH) tb (fun K hK=>?_)
                refine goes_ Try.func44 tH rfl #[.agg #[.slice A717_0 ((rd_T59 l0_1 x31_2).f0).length c717_0]] vH rfl rfl tA ?_
                with_reducible refine (impl_NodeOk.calls k2 _ _ ((rd_T59 l0_1 x31_2).f0) true _ ?side1 ?side2 A28.out).mono ?_
                (case side1=>exact AN)
                (case side2=>exact HC717_0.out)
                rintro e w33 ⟨rfl,hb⟩
                refine ⟨_,rfl,?_⟩
                replace BK714:=nB BK714
                replace BK718:=nB BK718
                replace HB:=aA.mk (aQ HB.out hb)
                (try clear hb)
                (try clear hb2)
                (try clear hk)
                (try clear hi)
                refine hK.out _ _ ⟨(aN BK714.out 0).trans rfl,(aN BK714.out 1).trans rfl,(aN BK718.out 0).trans rfl,((HB.out.cell (lD w _ hw719_0)).trans hw719_0),((HB.out.cell (lD w _ hw720_0)).trans hw720_0)⟩ (fun hHeld=>?_)
                clear hK K
                refine norm_ (a':=?_) ?_ ?_
                rotate_left
                ·show Act.put _ (some 54) _ = _
                 simp only [Act.put,lA,lB,lC,i64_w,i32_w]
                 rfl
                refine pu (i:=19) (N:=some 55) (bq1 1048575 27) ?_
                refine pu (i:=20) (N:=some 56) (bq1 2097151 27) ?_
                refine pu (i:=21) (N:=some 57) (bq1 4194303 27) ?_
                refine pu (i:=23) (N:=some 59) (bq1 12582911 27) ?_
                refine tu5 (i:=22) (N:=some 58) (bq1 16777215 27) ?_
                refine one_ (i:=24) (N:=some 60) (bq1 33554431 27) rfl rfl (one_of HT_.out tH) tb (fun K hK=>?_)
                refine goes_ Try.func45 tH rfl #[.agg #[.slice (some ad719) l0_0.length c0_0,.slice (some ad717) l0_1.length c0_1],.int .i64 x31_2] vH rfl rfl tA ?_
                with_reducible refine (impl_inBounds.calls k2 _ _ l0_0 _ _ l0_1 x31_2 t722 _ ?side1 ?side2 ?side3 ?side4 A30.out).mono ?_
                (case side1=>exact (Kd.C_below HR0_0.out HB.out))
                (case side2=>exact HC0_0.out)
                (case side3=>exact (Kd.C_below HR0_1.out HB.out))
                (case side4=>exact HC0_1.out)
                rintro e w34 ⟨rfl,hb⟩
                refine ⟨_,rfl,?_⟩
                replace BK714:=nB BK714
                replace BK718:=nB BK718
                replace HB:=aA.mk (aQ HB.out hb)
                (try clear hb)
                (try clear hb2)
                (try clear hk)
                (try clear hi)
                refine hK.out _ _ ⟨(aN BK714.out 0).trans rfl,(aN BK714.out 1).trans rfl,(aN BK718.out 0).trans rfl,((HB.out.cell (lD w _ hw719_0)).trans hw719_0),((HB.out.cell (lD w _ hw720_0)).trans hw720_0)⟩ (fun hHeld=>?_)
                clear hK K
                refine norm_ (a':=?_) ?_ ?_
                rotate_left
                ·show Act.put _ (some 60) _ = _
                 simp only [Act.put,lA,lB,lC,i64_w,i32_w]
                 rfl
                refine pu (i:=25) (N:=some 61) (bq1 67108863 27) ?_
                refine pu (i:=26) (N:=some 62) (bq1 134217727 27) ?_
                refine done_ (done_of HT_.out tH) ?_
                try go_wp2
                go_meet
                case rel=>exact ⟨_,(!t722),tG,H',⟨wZ⟩,⟨tn⟩,⟨vx⟩,⟨tP⟩⟩
               ·replace c29:=Bool.eq_false_iff.mpr c29
                subst c29
                have H1:(impl_TreeOk.j2 k2 x3_2 x31_2 l0_1 (l0_1.length:Int) x31_2 true l0_0 l0_1 ((rd_T59 l0_1 x31_2).f0)) = some r:=by rw [if_neg (show ¬ (false = true) by decide)] at H;exact H
                clear H
                have H:=H1
                clear H1
                have H':=aA.mk H
                clear H
                try go_wp2
                have n0_:aA ((w17.setCell ⟨gb718,0,none⟩ (.slice A717_0 ((rd_T59 l0_1 x31_2).f0).length c717_0)).heap[gb714]? = some (.cells #[.slice A0_0 l0_0.length c0_0,.slice (some ad717) l0_1.length c0_1] 29 (0,0))):=⟨t0⟩
                have n1_:aA ((w17.setCell ⟨gb718,0,none⟩ (.slice A717_0 ((rd_T59 l0_1 x31_2).f0).length c717_0)).heap[gb718]? = some (.cells #[.slice A717_0 ((rd_T59 l0_1 x31_2).f0).length c717_0] 59 (0,0))):=⟨tr⟩
                have n2_:aA (Below w.heap.size w (w17.setCell ⟨gb718,0,none⟩ (.slice A717_0 ((rd_T59 l0_1 x31_2).f0).length c717_0))):=⟨tP⟩
                (try clear BK714)
                (try clear BK718)
                (try clear HB)
                generalize (w17.setCell ⟨gb718,0,none⟩ (.slice A717_0 ((rd_T59 l0_1 x31_2).f0).length c717_0)) = w35 at n0_ n1_ n2_ ⊢
                have BK714:=n0_
                have BK718:=n1_
                have HB:=n2_
                clear n0_ n1_ n2_
                replace BK714:=aA.mk (aH BK714.out)
                replace BK718:=aA.mk (aH BK718.out)
                replace HB:=aA.mk (aJ HB.out)
                have p719:0 ≤ ((ji21):Int):=lE tF
                have q719:(ji21) < (l0_0.length:Int):=lE tF
                obtain ⟨ad719,e719,hx719_0⟩:=Kd.at_int HR0_0.out (ji21) p719 q719
                have hw719_0:=hx719_0
                cases e719
                replace hx719_0:=(HB.out.cell (lD w _ hx719_0)).trans hx719_0
                replace p719:=eq_true p719
                replace q719:=eq_true q719
                have p720:0 ≤ (x31_2:Int):=lE tF
                have q720:x31_2 < (l0_0.length:Int):=lE tF
                obtain ⟨ad720,e720,hx720_0⟩:=Kd.at_int HR0_0.out x31_2 p720 q720
                have hw720_0:=hx720_0
                obtain rfl:ad719 = ad720:=(by injection e720)
                replace hx720_0:=(HB.out.cell (lD w _ hx720_0)).trans hx720_0
                replace p720:=eq_true p720
                replace q720:=eq_true q720
                refine start_ (n:=27) (S:=fun w'=>w'.cell? ⟨gb714,0,none⟩ = some (.slice (some ad719) l0_0.length c0_0) ∧ w'.cell? ⟨gb714,1,none⟩ = some (.slice (some ad717) l0_1.length c0_1) ∧ w'.cell? ⟨gb718,0,none⟩ = some (.slice A717_0 ((rd_T59 l0_1 x31_2).f0).length c717_0) ∧ w'.cell? (ad719.add ((ji21)).toNat) = some (.int .i64 (rd l0_0 (ji21))) ∧ w'.cell? (ad719.add (x31_2).toNat) = some (.int .i64 (rd l0_0 x31_2))) (ds:=[]) #[F0,F0,F0,F0,F0,F0,F0,F0,F0,F0,F0,F0,F0,F0,F0,F0,F0,F0,F0,F0,F0,F0,F0,F0,F0,F0,F0] tH rfl rfl ⟨(aN BK714.out 0).trans rfl,(aN BK714.out 1).trans rfl,(aN BK718.out 0).trans rfl,((HB.out.cell (lD w _ hw719_0)).trans hw719_0),((HB.out.cell (lD w _ hw720_0)).trans hw720_0)⟩ (fun hHeld=>?_);refine with_tabW impl_TreeOk.tab7 impl_TreeOk.bits7 (fun HT_ HW_=>?_)
                generalize w35.drew = w36 at BK714 BK718 HB hx719_0 hx720_0 hHeld ⊢
                refine pu (i:=0) (N:=some 36) (bq1 1 27) ?_
                refine pu (i:=1) (N:=some 37) (bq1 3 27) ?_
                refine pu (i:=2) (N:=some 38) (bq1 7 27) ?_
                refine pu (i:=3) (N:=some 39) (bq1 15 27) ?_
                refine pu (i:=5) (N:=some 41) (bq1 47 27) ?_
                refine pu (i:=6) (N:=some 42) (bq1 111 27) ?_
                refine pu (i:=9) (N:=some 45) (bq1 623 27) ?_
                refine pu (i:=11) (N:=some 47) (bq1 2671 27) ?_
                refine tu5 (i:=4) (N:=some 40) (bq1 2687 27) ?_
                refine pu (i:=7) (N:=some 43) (bq1 2815 27) ?_
                refine tu5 (i:=8) (N:=some 44) (bq1 3071 27) ?_
                refine tu5 (i:=10) (N:=some 46) (bq1 4095 27) ?_
                refine pu (i:=12) (N:=some 48) (bq1 8191 27) ?_
                refine tu5 (i:=13) (N:=some 49) (bq1 16383 27) ?_
                refine pu (i:=14) (N:=some 50) (bq1 32767 27) ?_
                refine pu (i:=15) (N:=some 51) (bq1 65535 27) ?_
                refine pu (i:=16) (N:=some 52) (bq1 131071 27) ?_
                refine tu5 (i:=17) (N:=some 53) (bq1 262143 27) ?_
                refine one_ (i:=18) (N:=some 54) (bq1 524287 27) rfl rfl (one_of HT_.out tH) tb (fun K hK=>?_)
                refine goes_ Try.func44 tH rfl #[.agg #[.slice A717_0 ((rd_T59 l0_1 x31_2).f0).length c717_0]] vH rfl rfl tA ?_
                with_reducible refine (impl_NodeOk.calls k2 _ _ ((rd_T59 l0_1 x31_2).f0) false _ ?side1 ?side2 A28.out).mono ?_
                (case side1=>exact AN)
                (case side2=>exact HC717_0.out)
                rintro e w37 ⟨rfl,hb⟩
                refine ⟨_,rfl,?_⟩
                replace BK714:=nB BK714
                replace BK718:=nB BK718
                replace HB:=aA.mk (aQ HB.out hb)
                (try clear hb)
                (try clear hb2)
                (try clear hk)
                (try clear hi)
                refine hK.out _ _ ⟨(aN BK714.out 0).trans rfl,(aN BK714.out 1).trans rfl,(aN BK718.out 0).trans rfl,((HB.out.cell (lD w _ hw719_0)).trans hw719_0),((HB.out.cell (lD w _ hw720_0)).trans hw720_0)⟩ (fun hHeld=>?_)
                clear hK K
                refine norm_ (a':=?_) ?_ ?_
                rotate_left
                ·show Act.put _ (some 54) _ = _
                 simp only [Act.put,lA,lB,lC,i64_w,i32_w]
                 rfl
                refine pu (i:=19) (N:=some 55) (bq1 1048575 27) ?_
                refine pu (i:=20) (N:=some 56) (bq1 2097151 27) ?_
                refine pu (i:=21) (N:=some 57) (bq1 4194303 27) ?_
                refine pv (i:=22) (N:=some 58) (bq1 8388607 27) ?_
                refine pv (i:=23) (N:=some 59) (bq1 16777215 27) ?_
                refine pv (i:=24) (N:=some 60) (bq1 33554431 27) ?_
                refine pv (i:=25) (N:=some 61) (bq1 67108863 27) ?_
                refine pu (i:=26) (N:=some 62) (bq1 134217727 27) ?_
                refine done_ (done_of HT_.out tH) ?_
                try go_wp2
                go_meet
                case rel=>exact ⟨_,(true),tG,H',⟨wZ⟩,⟨tn⟩,⟨vx⟩,⟨tP⟩⟩
             ·rw [if_neg c24] at H
              exact vM
            ·rw [if_neg c23] at H
             exact vM
           ·rw [if_neg c22] at H
            exact vM
          ·rw [if_neg c20] at H
           have c20b0:decide (0 < x31_2) = false:=decide_eq_false c20
           clear c20
           (first|rw [c20b0]|(simp only [i64_w,i32_w];rw [c20b0])|skip)
           replace H:=lF H
           obtain ⟨t723,A380,H⟩:=H
           replace H:(if t723 = true then ((impl_inBounds.f k2 l0_0 l0_1 x31_2).bind fun t724=>(impl_TreeOk.j2 k2 x3_2 x31_2 l0_1 (l0_1.length:Int) x31_2 (!t724) l0_0 l0_1 ((rd_T59 l0_1 x31_2).f0))) else (impl_TreeOk.j2 k2 x3_2 x31_2 l0_1 (l0_1.length:Int) x31_2 true l0_0 l0_1 ((rd_T59 l0_1 x31_2).f0))) = some r:=H
           have A38:=aA.mk A380
           clear A380
           by_cases c39:t723 = true
           ·subst c39
            have H1:((impl_inBounds.f k2 l0_0 l0_1 x31_2).bind fun t724=>(impl_TreeOk.j2 k2 x3_2 x31_2 l0_1 (l0_1.length:Int) x31_2 (!t724) l0_0 l0_1 ((rd_T59 l0_1 x31_2).f0))) = some r:=by rw [if_pos rfl] at H;exact H
            clear H
            have H:=H1
            clear H1
            replace H:=lF H
            obtain ⟨t724,A400,H⟩:=H
            replace H:(impl_TreeOk.j2 k2 x3_2 x31_2 l0_1 (l0_1.length:Int) x31_2 (!t724) l0_0 l0_1 ((rd_T59 l0_1 x31_2).f0)) = some r:=H
            have A40:=aA.mk A400
            clear A400
            have H':=aA.mk H
            clear H
            try go_wp2
            have n0_:aA ((w17.setCell ⟨gb718,0,none⟩ (.slice A717_0 ((rd_T59 l0_1 x31_2).f0).length c717_0)).heap[gb714]? = some (.cells #[.slice A0_0 l0_0.length c0_0,.slice (some ad717) l0_1.length c0_1] 29 (0,0))):=⟨t0⟩
            have n1_:aA ((w17.setCell ⟨gb718,0,none⟩ (.slice A717_0 ((rd_T59 l0_1 x31_2).f0).length c717_0)).heap[gb718]? = some (.cells #[.slice A717_0 ((rd_T59 l0_1 x31_2).f0).length c717_0] 59 (0,0))):=⟨tr⟩
            have n2_:aA (Below w.heap.size w (w17.setCell ⟨gb718,0,none⟩ (.slice A717_0 ((rd_T59 l0_1 x31_2).f0).length c717_0))):=⟨tP⟩
            (try clear BK714)
            (try clear BK718)
            (try clear HB)
            generalize (w17.setCell ⟨gb718,0,none⟩ (.slice A717_0 ((rd_T59 l0_1 x31_2).f0).length c717_0)) = w41 at n0_ n1_ n2_ ⊢
            have BK714:=n0_
            have BK718:=n1_
            have HB:=n2_
            clear n0_ n1_ n2_
            replace BK714:=aA.mk (aH BK714.out)
            replace BK718:=aA.mk (aH BK718.out)
            replace HB:=aA.mk (aJ HB.out)
            refine start_ (n:=27) (S:=fun w'=>w'.cell? ⟨gb718,0,none⟩ = some (.slice A717_0 ((rd_T59 l0_1 x31_2).f0).length c717_0) ∧ w'.cell? ⟨gb714,0,none⟩ = some (.slice A0_0 l0_0.length c0_0) ∧ w'.cell? ⟨gb714,1,none⟩ = some (.slice (some ad717) l0_1.length c0_1)) (ds:=[]) #[F0,F0,F0,F0,F0,F0,F0,F0,F0,F0,F0,F0,F0,F0,F0,F0,F0,F0,F0,F0,F0,F0,F0,F0,F0,F0,F0] tH rfl rfl ⟨(aN BK718.out 0).trans rfl,(aN BK714.out 0).trans rfl,(aN BK714.out 1).trans rfl⟩ (fun hHeld=>?_);refine with_tabW impl_TreeOk.tab7 impl_TreeOk.bits7 (fun HT_ HW_=>?_)
            generalize w41.drew = w42 at BK714 BK718 HB hHeld ⊢
            refine pu (i:=0) (N:=some 36) (bq1 1 27) ?_
            refine pu (i:=1) (N:=some 37) (bq1 3 27) ?_
            refine pu (i:=2) (N:=some 38) (bq1 7 27) ?_
            refine pv (i:=3) (N:=some 39) (bq1 15 27) ?_
            refine pv (i:=4) (N:=some 40) (bq1 31 27) ?_
            refine pv (i:=5) (N:=some 41) (bq1 63 27) ?_
            refine pv (i:=6) (N:=some 42) (bq1 127 27) ?_
            refine pv (i:=7) (N:=some 43) (bq1 255 27) ?_
            refine pv (i:=8) (N:=some 44) (bq1 511 27) ?_
            refine pv (i:=9) (N:=some 45) (bq1 1023 27) ?_
            refine pv (i:=10) (N:=some 46) (bq1 2047 27) ?_
            refine pv (i:=11) (N:=some 47) (bq1 4095 27) ?_
            refine pv (i:=12) (N:=some 48) (bq1 8191 27) ?_
            refine pv (i:=13) (N:=some 49) (bq1 16383 27) ?_
            refine pv (i:=14) (N:=some 50) (bq1 32767 27) ?_
            refine pu (i:=15) (N:=some 51) (bq1 65535 27) ?_
            refine pu (i:=16) (N:=some 52) (bq1 131071 27) ?_
            refine tu3 (i:=17) (N:=some 53) (bq1 262143 27) ?_
            refine one_ (i:=18) (N:=some 54) (bq1 524287 27) rfl rfl (one_of HT_.out tH) tb (fun K hK=>?_)
            refine goes_ Try.func44 tH rfl #[.agg #[.slice A717_0 ((rd_T59 l0_1 x31_2).f0).length c717_0]] vH rfl rfl tA ?_
            with_reducible refine (impl_NodeOk.calls k2 _ _ ((rd_T59 l0_1 x31_2).f0) true _ ?side1 ?side2 A38.out).mono ?_
            (case side1=>exact AN)
            (case side2=>exact HC717_0.out)
            rintro e w43 ⟨rfl,hb⟩
            refine ⟨_,rfl,?_⟩
            replace BK714:=nB BK714
            replace BK718:=nB BK718
            replace HB:=aA.mk (aQ HB.out hb)
            (try clear hb)
            (try clear hb2)
            (try clear hk)
            (try clear hi)
            refine hK.out _ _ ⟨(aN BK718.out 0).trans rfl,(aN BK714.out 0).trans rfl,(aN BK714.out 1).trans rfl⟩ (fun hHeld=>?_)
            clear hK K
            refine norm_ (a':=?_) ?_ ?_
            rotate_left
            ·show Act.put _ (some 54) _ = _
             simp only [Act.put,lA,lB,lC,i64_w,i32_w]
             rfl
            refine pu (i:=19) (N:=some 55) (bq1 1048575 27) ?_
            refine pu (i:=20) (N:=some 56) (bq1 2097151 27) ?_
            refine pu (i:=21) (N:=some 57) (bq1 4194303 27) ?_
            refine pu (i:=23) (N:=some 59) (bq1 12582911 27) ?_
            refine tu3 (i:=22) (N:=some 58) (bq1 16777215 27) ?_
            refine one_ (i:=24) (N:=some 60) (bq1 33554431 27) rfl rfl (one_of HT_.out tH) tb (fun K hK=>?_)
            refine goes_ Try.func45 tH rfl #[.agg #[.slice A0_0 l0_0.length c0_0,.slice (some ad717) l0_1.length c0_1],.int .i64 x31_2] vH rfl rfl tA ?_
            with_reducible refine (impl_inBounds.calls k2 _ _ l0_0 _ _ l0_1 x31_2 t724 _ ?side1 ?side2 ?side3 ?side4 A40.out).mono ?_
            (case side1=>exact (Kd.C_below HR0_0.out HB.out))
            (case side2=>exact HC0_0.out)
            (case side3=>exact (Kd.C_below HR0_1.out HB.out))
            (case side4=>exact HC0_1.out)
            rintro e w44 ⟨rfl,hb⟩
            refine ⟨_,rfl,?_⟩
            replace BK714:=nB BK714
            replace BK718:=nB BK718
            replace HB:=aA.mk (aQ HB.out hb)
            (try clear hb)
            (try clear hb2)
            (try clear hk)
            (try clear hi)
            refine hK.out _ _ ⟨(aN BK718.out 0).trans rfl,(aN BK714.out 0).trans rfl,(aN BK714.out 1).trans rfl⟩ (fun hHeld=>?_)
            clear hK K
            refine norm_ (a':=?_) ?_ ?_
            rotate_left
            ·show Act.put _ (some 60) _ = _
             simp only [Act.put,lA,lB,lC,i64_w,i32_w]
             rfl
            refine pu (i:=25) (N:=some 61) (bq1 67108863 27) ?_
            refine pu (i:=26) (N:=some 62) (bq1 134217727 27) ?_
            refine done_ (done_of HT_.out tH) ?_
            try go_wp2
            go_meet
            case rel=>exact ⟨_,(!t724),tG,H',⟨wZ⟩,⟨tn⟩,⟨vx⟩,⟨tP⟩⟩
           ·replace c39:=Bool.eq_false_iff.mpr c39
            subst c39
            have H1:(impl_TreeOk.j2 k2 x3_2 x31_2 l0_1 (l0_1.length:Int) x31_2 true l0_0 l0_1 ((rd_T59 l0_1 x31_2).f0)) = some r:=by rw [if_neg (show ¬ (false = true) by decide)] at H;exact H
            clear H
            have H:=H1
            clear H1
            have H':=aA.mk H
            clear H
            try go_wp2
            have n0_:aA ((w17.setCell ⟨gb718,0,none⟩ (.slice A717_0 ((rd_T59 l0_1 x31_2).f0).length c717_0)).heap[gb714]? = some (.cells #[.slice A0_0 l0_0.length c0_0,.slice (some ad717) l0_1.length c0_1] 29 (0,0))):=⟨t0⟩
            have n1_:aA ((w17.setCell ⟨gb718,0,none⟩ (.slice A717_0 ((rd_T59 l0_1 x31_2).f0).length c717_0)).heap[gb718]? = some (.cells #[.slice A717_0 ((rd_T59 l0_1 x31_2).f0).length c717_0] 59 (0,0))):=⟨tr⟩
            have n2_:aA (Below w.heap.size w (w17.setCell ⟨gb718,0,none⟩ (.slice A717_0 ((rd_T59 l0_1 x31_2).f0).length c717_0))):=⟨tP⟩
            (try clear BK714)
            (try clear BK718)
            (try clear HB)
            generalize (w17.setCell ⟨gb718,0,none⟩ (.slice A717_0 ((rd_T59 l0_1 x31_2).f0).length c717_0)) = w45 at n0_ n1_ n2_ ⊢
            have BK714:=n0_
            have BK718:=n1_
            have HB:=n2_
            clear n0_ n1_ n2_
            replace BK714:=aA.mk (aH BK714.out)
            replace BK718:=aA.mk (aH BK718.out)
            replace HB:=aA.mk (aJ HB.out)
            refine start_ (n:=27) (S:=fun w'=>w'.cell? ⟨gb718,0,none⟩ = some (.slice A717_0 ((rd_T59 l0_1 x31_2).f0).length c717_0)) (ds:=[]) #[F0,F0,F0,F0,F0,F0,F0,F0,F0,F0,F0,F0,F0,F0,F0,F0,F0,F0,F0,F0,F0,F0,F0,F0,F0,F0,F0] tH rfl rfl ((aN BK718.out 0).trans rfl) (fun hHeld=>?_);refine with_tabW impl_TreeOk.tab7 impl_TreeOk.bits7 (fun HT_ HW_=>?_)
            generalize w45.drew = w46 at BK714 BK718 HB hHeld ⊢
            refine pu (i:=0) (N:=some 36) (bq1 1 27) ?_
            refine pu (i:=1) (N:=some 37) (bq1 3 27) ?_
            refine pu (i:=2) (N:=some 38) (bq1 7 27) ?_
            refine pv (i:=3) (N:=some 39) (bq1 15 27) ?_
            refine pv (i:=4) (N:=some 40) (bq1 31 27) ?_
            refine pv (i:=5) (N:=some 41) (bq1 63 27) ?_
            refine pv (i:=6) (N:=some 42) (bq1 127 27) ?_
            refine pv (i:=7) (N:=some 43) (bq1 255 27) ?_
            refine pv (i:=8) (N:=some 44) (bq1 511 27) ?_
            refine pv (i:=9) (N:=some 45) (bq1 1023 27) ?_
            refine pv (i:=10) (N:=some 46) (bq1 2047 27) ?_
            refine pv (i:=11) (N:=some 47) (bq1 4095 27) ?_
            refine pv (i:=12) (N:=some 48) (bq1 8191 27) ?_
            refine pv (i:=13) (N:=some 49) (bq1 16383 27) ?_
            refine pv (i:=14) (N:=some 50) (bq1 32767 27) ?_
            refine pu (i:=15) (N:=some 51) (bq1 65535 27) ?_
            refine pu (i:=16) (N:=some 52) (bq1 131071 27) ?_
            refine take_ (i:=17) (N:=some 53) (v:=?_) (a':=?_) (bq1 262143 27) rfl rfl (take_ofW HT_.out HW_.out tH) (fun _ _ _ h=>h) (Or.inl ⟨by rfl,?_⟩) hHeld ?_ ?_
            rotate_left
            ·intro w' s0
             go_simp
             with_reducible rfl
            rotate_left
            ·simp only [Act.put,lA,lB,lC,i64_w,i32_w]
             rfl
            refine one_ (i:=18) (N:=some 54) (bq1 524287 27) rfl rfl (one_of HT_.out tH) tb (fun K hK=>?_)
            refine goes_ Try.func44 tH rfl #[.agg #[.slice A717_0 ((rd_T59 l0_1 x31_2).f0).length c717_0]] vH rfl rfl tA ?_
            with_reducible refine (impl_NodeOk.calls k2 _ _ ((rd_T59 l0_1 x31_2).f0) false _ ?side1 ?side2 A38.out).mono ?_
            (case side1=>exact AN)
            (case side2=>exact HC717_0.out)
            rintro e w47 ⟨rfl,hb⟩
            refine ⟨_,rfl,?_⟩
            replace BK714:=nB BK714
            replace BK718:=nB BK718
            replace HB:=aA.mk (aQ HB.out hb)
            (try clear hb)
            (try clear hb2)
            (try clear hk)
            (try clear hi)
            refine hK.out _ _ ((aN BK718.out 0).trans rfl) (fun hHeld=>?_)
            clear hK K
            refine norm_ (a':=?_) ?_ ?_
            rotate_left
            ·show Act.put _ (some 54) _ = _
             simp only [Act.put,lA,lB,lC,i64_w,i32_w]
             rfl
            refine pu (i:=19) (N:=some 55) (bq1 1048575 27) ?_
            refine pu (i:=20) (N:=some 56) (bq1 2097151 27) ?_
            refine pu (i:=21) (N:=some 57) (bq1 4194303 27) ?_
            refine pv (i:=22) (N:=some 58) (bq1 8388607 27) ?_
            refine pv (i:=23) (N:=some 59) (bq1 16777215 27) ?_
            refine pv (i:=24) (N:=some 60) (bq1 33554431 27) ?_
            refine pv (i:=25) (N:=some 61) (bq1 67108863 27) ?_
            refine pu (i:=26) (N:=some 62) (bq1 134217727 27) ?_
            refine done_ (done_of HT_.out tH) ?_
            try go_wp2
            go_meet
            case rel=>exact ⟨_,(true),tG,H',⟨wZ⟩,⟨tn⟩,⟨vx⟩,⟨tP⟩⟩
         case rest =>
          clear HC16
          try clear c2
          try clear p2
          try clear c3
          try clear c4
          try clear c7
          try clear c20
          try clear c20b0
          try clear c22
          try clear c23
          try clear c24
          try clear c39
          try clear c44
          try clear c45
          obtain ⟨kq,x62_15,rfl,HA,HJ15,BK714,BK718,HB⟩:=hcut
          cases kq with
          | zero=>exact absurd HA.out (by simp [impl_TreeOk.j2])
          | succ kj15 =>
           have H:=HA.out
           clear HA
           simp only [impl_TreeOk.j2] at H
           by_cases c48:x62_15 = true
           ·subst c48
            have H1:(some false) = some r:=by rw [if_pos rfl] at H;exact H
            clear H
            have H:=H1
            clear H1
            obtain rfl:=Option.some.inj H
            go_wp2
            go_ret
            exact ⟨tC,tP⟩
           ·replace c48:=Bool.eq_false_iff.mpr c48
            subst c48
            have H1:((impl_NodeKeys.f kj15 ((rd_T59 l0_1 x31_2).f0)).bind fun t725=>(if x31_2 > 0 then (if (t725.length:Int) = 0 then (some false) else (impl_TreeOk.l0 kj15 (wrap64 (x3_2 + (t725.length:Int))) l0_1 (l0_1.length:Int) (wrap64 (x31_2 + 1)) l0_0 l0_1)) else (impl_TreeOk.l0 kj15 (wrap64 (x3_2 + (t725.length:Int))) l0_1 (l0_1.length:Int) (wrap64 (x31_2 + 1)) l0_0 l0_1))) = some r:=by rw [if_neg (show ¬ (false = true) by decide)] at H;exact H
            clear H
            have H:=H1
            clear H1
            replace H:=lF H
            obtain ⟨t725,A490,H⟩:=H
            replace H:(if x31_2 > 0 then (if (t725.length:Int) = 0 then (some false) else (impl_TreeOk.l0 kj15 (wrap64 (x3_2 + (t725.length:Int))) l0_1 (l0_1.length:Int) (wrap64 (x31_2 + 1)) l0_0 l0_1)) else (impl_TreeOk.l0 kj15 (wrap64 (x3_2 + (t725.length:Int))) l0_1 (l0_1.length:Int) (wrap64 (x31_2 + 1)) l0_0 l0_1)) = some r:=H
            have A49:=aA.mk A490
            clear A490
            by_cases c50:x31_2 > 0
            ·rw [if_pos c50] at H
             have c50b0:decide (0 < x31_2) = true:=decide_eq_true c50
             clear c50
             by_cases c51:(t725.length:Int) = 0
             ·rw [if_pos c51] at H
              have c51b0:((t725.length:Int) == 0) = true:=beq_iff_eq.mpr c51
              have c51b1:((t725.length:Int) != 0) = false:=bne_eq_false_iff_eq.mpr c51
              clear c51
              obtain rfl:=Option.some.inj H
              have hnb52:=NB718_714.out
              have hnc52:=NB714_718.out
              have hcz53_0:=cs1 BK718.out
              have hfz53_0:=fs1 BK718.out
              go_wp2_with (first|((with_reducible refine aY (f:=46) rfl ?_);refine goesL_ (some 64) rfl rfl Try.func46 tH rfl #[.agg #[.slice A717_0 ((rd_T59 l0_1 x31_2).f0).length c717_0]] rfl tA ?_;(with_reducible refine (impl_NodeKeys.calls kj15 _ _ ((rd_T59 l0_1 x31_2).f0) t725 _ ?side1 ?side2 A49.out).mono ?_);(case side1=>exact AN);(case side2=>exact HC717_0.out);rintro e w54 ⟨v726,rfl,ho0,hb⟩;refine ⟨_,rfl,?_⟩;have HO727:=aA.mk (Kd.R_lower ho0 (aM HB.out));replace BK714:=nB BK714;replace BK718:=nB BK718;replace HB:=aA.mk (aQ HB.out hb);(try clear hb);(try clear ho0);obtain ⟨Ao55,co55,eo55⟩:=Kd.R_slice HO727.out;subst eo55))
              go_ret
              exact ⟨tC,tP⟩
             ·rw [if_neg c51] at H
              have c51b0:((t725.length:Int) == 0) = false:=beq_eq_false_iff_ne.mpr c51
              have c51b1:((t725.length:Int) != 0) = true:=bne_iff_ne.mpr c51
              have c51b2:¬ (t725 = []):=fun h_=>c51 (by rw [h_];rfl)
              have H':=aA.mk H
              clear H
              have hnb56:=NB718_714.out
              have hnc56:=NB714_718.out
              have hcz57_0:=cs1 BK718.out
              have hfz57_0:=fs1 BK718.out
              go_wp2_with (first|((with_reducible refine aY (f:=46) rfl ?_);refine goesL_ (some 64) rfl rfl Try.func46 tH rfl #[.agg #[.slice A717_0 ((rd_T59 l0_1 x31_2).f0).length c717_0]] rfl tA ?_;(with_reducible refine (impl_NodeKeys.calls kj15 _ _ ((rd_T59 l0_1 x31_2).f0) t725 _ ?side1 ?side2 A49.out).mono ?_);(case side1=>exact AN);(case side2=>exact HC717_0.out);rintro e w58 ⟨v726,rfl,ho0,hb⟩;refine ⟨_,rfl,?_⟩;have HO727:=aA.mk (Kd.R_lower ho0 (aM HB.out));replace BK714:=nB BK714;replace BK718:=nB BK718;replace HB:=aA.mk (aQ HB.out hb);(try clear hb);(try clear ho0);obtain ⟨Ao59,co59,eo59⟩:=Kd.R_slice HO727.out;subst eo59))
              go_roundg kj15
              case measure=>have:=HJ1.out;have:=HK2.out;have:=HJ15.out;omega
              case rel=>exact ⟨(wrap64 (x3_2 + (t725.length:Int))),(wrap64 (x31_2 + 1)),tG,tG,H',⟨by have:=HJ1.out;have:=HK2.out;have:=HJ15.out;omega⟩,⟨tn⟩,⟨tP⟩⟩
            ·rw [if_neg c50] at H
             have c50b0:decide (0 < x31_2) = false:=decide_eq_false c50
             clear c50
             have H':=aA.mk H
             clear H
             have hnb60:=NB718_714.out
             have hnc60:=NB714_718.out
             have hcz61_0:=cs1 BK718.out
             have hfz61_0:=fs1 BK718.out
             go_wp2_with (first|((with_reducible refine aY (f:=46) rfl ?_);refine goesL_ (some 64) rfl rfl Try.func46 tH rfl #[.agg #[.slice A717_0 ((rd_T59 l0_1 x31_2).f0).length c717_0]] rfl tA ?_;(with_reducible refine (impl_NodeKeys.calls kj15 _ _ ((rd_T59 l0_1 x31_2).f0) t725 _ ?side1 ?side2 A49.out).mono ?_);(case side1=>exact AN);(case side2=>exact HC717_0.out);rintro e w62 ⟨v726,rfl,ho0,hb⟩;refine ⟨_,rfl,?_⟩;have HO727:=aA.mk (Kd.R_lower ho0 (aM HB.out));replace BK714:=nB BK714;replace BK718:=nB BK718;replace HB:=aA.mk (aQ HB.out hb);(try clear hb);(try clear ho0);obtain ⟨Ao63,co63,eo63⟩:=Kd.R_slice HO727.out;subst eo63))
             go_roundg kj15
             case measure=>have:=HJ1.out;have:=HK2.out;have:=HJ15.out;omega
             case rel=>exact ⟨(wrap64 (x3_2 + (t725.length:Int))),(wrap64 (x31_2 + 1)),tG,tG,H',⟨by have:=HJ1.out;have:=HK2.out;have:=HJ15.out;omega⟩,⟨tn⟩,⟨tP⟩⟩
        ·rw [if_neg c15] at H
         exact vM
       ·rw [if_neg c14] at H
        exact vM
      ·rw [if_neg c13] at H
       have c13b0:decide (x31_2 < (l0_1.length:Int)) = false:=decide_eq_false c13
       clear c13
       obtain rfl:=Option.some.inj H
       go_wp2
       go_ret
       exact ⟨tC,vB⟩
end Go.Proofs.Ytamjbjkbineafaa.PFnPacked

namespace Go.Proofs.Ytamjbjkbineafaa.PFnPacked
open Go.RowKit Go.Proofs.YtamjbjkbineafaaW.PrintWords Go.Proofs.YtamjbjkbineafaaW.PrintLast Go.Proofs.YtamjbjkbineafaaW.PrintMore
attribute [local go_sem] max2_int min2_int max_two min_two max_three min_three max_four min_four   -- for this text's walks alone
set_option linter.unusedVariables false
set_option linter.unusedSimpArgs false
attribute [local go_sem high] eqA38
def laws_sameKeys.l0:Nat → List (S38) → List (S38) → Int → Option (Bool)
 | 0,_,_,_=>none
 | k + 1,x0,x1,x5=>if x5 < (x0.length:Int) then (if 0 ≤ x5 then (if x5 < (x1.length:Int) then (if (!(((rd_T38 x0 x5).f0) == ((rd_T38 x1 x5).f0)) || (!(((rd_T38 x0 x5).f1) == ((rd_T38 x1 x5).f1)) || (!(((rd_T38 x0 x5).f2) == ((rd_T38 x1 x5).f2)) || (!(((rd_T38 x0 x5).f3) == ((rd_T38 x1 x5).f3)) || (!(((rd_T38 x0 x5).f4) == ((rd_T38 x1 x5).f4))))))) = true then (some false) else (laws_sameKeys.l0 k x0 x1 (wrap64 (x5 + 1)))) else (none)) else (none)) else (some true)
def laws_sameKeys.f (k:Nat) (l0:List (S38)) (l1:List (S38)):Option (Bool):=if (l0.length:Int) = (l1.length:Int) then (laws_sameKeys.l0 k l0 l1 0) else (some false)
set_option maxHeartbeats 8000000 in
set_option maxRecDepth 100000 in
theorem laws_sameKeys.calls (k:Nat) (A0:Option Addr) (c0:Nat) (l0:List (S38)) (A1:Option Addr) (c1:Nat) (l1:List (S38)) (r:Bool) (w:World) (hr0:Kd.C k38 w A0 l0.length l0) (hc0:l0.length ≤ c0) (hr1:Kd.C k38 w A1 l1.length l1) (hc1:l1.length ≤ c1) (h:laws_sameKeys.f k l0 l1 = some r) :
  Calls Try.prog 18 #[.slice A0 l0.length c0,.slice A1 l1.length c1] w fun e w'=>e = .returned (.bool r) ∧ Drawn0 w w':=by
 have hu38:=Try.underlying38
 have HR0:=aA.mk hr0
 have HC0:=aA.mk hc0
 clear hr0 hc0
 have HR1:=aA.mk hr1
 have HC1:=aA.mk hc1
 clear hr1 hc1
 have H:(if (l0.length:Int) = (l1.length:Int) then (laws_sameKeys.l0 k l0 l1 0) else (some false)) = some r:=h
 clear h
 by_cases c3:(l0.length:Int) = (l1.length:Int)
 ·rw [if_pos c3] at H
  have c3b0:((l0.length:Int) == (l1.length:Int)) = true:=beq_iff_eq.mpr c3
  have c3b1:((l0.length:Int) != (l1.length:Int)) = false:=bne_eq_false_iff_eq.mpr c3
  have c3b2:(l0.length == l1.length) = true:=by first|simpa using c3|(simp at c3 ⊢;omega)
  clear c3
  have H':=aA.mk H
  clear H
  go_enter Try.func18,Try.ntmps18
  go_wp2
  repeat (go_quiet (fail);try go_wp2)
  go_loopg [5] k (fun kq v5 w'=>∃ (x5_1:Int),v5 = .int .i64 x5_1 ∧ aA (laws_sameKeys.l0 kq l0 l1 x5_1 = some r) ∧ aA (kq ≤ k) ∧ Drawn0 w w')
  case atStart=>exact ⟨(0),tG,H',⟨Nat.le_refl _⟩,AL⟩
  case round =>
   clear H'
   try clear c1
   try clear p2
   try clear c3
   try clear c3b0
   try clear c3b1
   try clear c3b2
   obtain ⟨x5_1,rfl,HA,HK1,⟨m1,rfl⟩⟩:=hrel
   cases gk with
   | zero=>exact absurd HA.out (by simp [laws_sameKeys.l0])
   | succ k1 =>
    have H:=HA.out
    clear HA
    simp only [laws_sameKeys.l0] at H
    by_cases c4:x5_1 < (l0.length:Int)
    ·rw [if_pos c4] at H
     have c4b0:decide (x5_1 < (l0.length:Int)) = true:=decide_eq_true c4
     clear c4
     by_cases c5:0 ≤ x5_1
     ·rw [if_pos c5] at H
      have c5b0:decide (0 ≤ x5_1) = true:=decide_eq_true c5
      clear c5
      by_cases c6:x5_1 < (l1.length:Int)
      ·rw [if_pos c6] at H
       have c6b0:decide (x5_1 < (l1.length:Int)) = true:=decide_eq_true c6
       clear c6
       by_cases c7:(!(((rd_T38 l0 x5_1).f0) == ((rd_T38 l1 x5_1).f0)) || (!(((rd_T38 l0 x5_1).f1) == ((rd_T38 l1 x5_1).f1)) || (!(((rd_T38 l0 x5_1).f2) == ((rd_T38 l1 x5_1).f2)) || (!(((rd_T38 l0 x5_1).f3) == ((rd_T38 l1 x5_1).f3)) || (!(((rd_T38 l0 x5_1).f4) == ((rd_T38 l1 x5_1).f4))))))) = true
       ·rw [if_pos c7] at H
        have c7b0:(!(((rd_T38 l0 x5_1).f0) == ((rd_T38 l1 x5_1).f0)) || (!(((rd_T38 l0 x5_1).f1) == ((rd_T38 l1 x5_1).f1)) || (!(((rd_T38 l0 x5_1).f2) == ((rd_T38 l1 x5_1).f2)) || (!(((rd_T38 l0 x5_1).f3) == ((rd_T38 l1 x5_1).f3)) || (!(((rd_T38 l0 x5_1).f4) == ((rd_T38 l1 x5_1).f4))))))) = true:=c7
        clear c7
        obtain rfl:=Option.some.inj H
        have p728:0 ≤ (x5_1:Int):=lE tF
        have q728:x5_1 < (l0.length:Int):=lE tF
        obtain ⟨ad728,e728,hx728_0,hx728_1,hx728_2,hx728_3,hx728_4⟩:=at_T38 HR0.out x5_1 p728 q728
        cases e728
        replace p728:=eq_true p728
        replace q728:=eq_true q728
        have p729:0 ≤ (x5_1:Int):=lE tF
        have q729:x5_1 < (l1.length:Int):=lE tF
        obtain ⟨ad729,e729,hx729_0,hx729_1,hx729_2,hx729_3,hx729_4⟩:=at_T38 HR1.out x5_1 p729 q729
        cases e729
        replace p729:=eq_true p729
        replace q729:=eq_true q729
        go_wp2
        repeat (go_quiet (fail);try go_wp2)
        go_ret
        exact tU
       ·rw [if_neg c7] at H
        have c7b0:(!(((rd_T38 l0 x5_1).f0) == ((rd_T38 l1 x5_1).f0)) || (!(((rd_T38 l0 x5_1).f1) == ((rd_T38 l1 x5_1).f1)) || (!(((rd_T38 l0 x5_1).f2) == ((rd_T38 l1 x5_1).f2)) || (!(((rd_T38 l0 x5_1).f3) == ((rd_T38 l1 x5_1).f3)) || (!(((rd_T38 l0 x5_1).f4) == ((rd_T38 l1 x5_1).f4))))))) = false:=by simpa using c7
        clear c7
        have H':=aA.mk H
        clear H
        have p728:0 ≤ (x5_1:Int):=lE tF
        have q728:x5_1 < (l0.length:Int):=lE tF
        obtain ⟨ad728,e728,hx728_0,hx728_1,hx728_2,hx728_3,hx728_4⟩:=at_T38 HR0.out x5_1 p728 q728
        cases e728
        replace p728:=eq_true p728
        replace q728:=eq_true q728
        have p729:0 ≤ (x5_1:Int):=lE tF
        have q729:x5_1 < (l1.length:Int):=lE tF
        obtain ⟨ad729,e729,hx729_0,hx729_1,hx729_2,hx729_3,hx729_4⟩:=at_T38 HR1.out x5_1 p729 q729
        cases e729
        replace p729:=eq_true p729
        replace q729:=eq_true q729
        go_wp2
        repeat (go_quiet (fail);try go_wp2)
        go_roundg k1
        case measure=>have:=HK1.out;omega
        case rel=>exact ⟨(wrap64 (x5_1 + 1)),tG,H',⟨wX⟩,AL⟩
      ·rw [if_neg c6] at H
       exact vM
     ·rw [if_neg c5] at H
      exact vM
    ·rw [if_neg c4] at H
     have c4b0:decide (x5_1 < (l0.length:Int)) = false:=decide_eq_false c4
     clear c4
     obtain rfl:=Option.some.inj H
     go_wp2
     repeat (go_quiet (fail);try go_wp2)
     go_ret
     exact tU
 ·rw [if_neg c3] at H
  have c3b0:((l0.length:Int) == (l1.length:Int)) = false:=beq_eq_false_iff_ne.mpr c3
  have c3b1:((l0.length:Int) != (l1.length:Int)) = true:=bne_iff_ne.mpr c3
  have c3b2:(l0.length == l1.length) = false:=by first|simpa using c3|(simp at c3 ⊢;omega)
  obtain rfl:=Option.some.inj H
  go_enter Try.func18,Try.ntmps18
  go_wp2
  repeat (go_quiet (fail);try go_wp2)
  go_ret
  exact tU
def impl_TreeKeys.l0:Nat → List (S38) → List (S59) → Int → Int → Option ((List (S38)))
 | 0,_,_,_,_=>none
 | k + 1,x3,x8,x9,x10=>if x10 < x9 then (if 0 ≤ x10 then (if x10 < (x8.length:Int) then ((impl_NodeKeys.f k ((rd_T59 x8 x10).f0)).bind fun t736=>(if x3.length + t736.length < 3518437208883 then (impl_TreeKeys.l0 k (x3 ++ t736) x8 x9 (wrap64 (x10 + 1))) else (none))) else (none)) else (none)) else (some x3)
def impl_TreeKeys.f (k:Nat) (l0_0:List Int) (l0_1:List (S59)):Option ((List (S38))):=impl_TreeKeys.l0 k (([]:List (S38))) l0_1 (l0_1.length:Int) 0
set_option maxHeartbeats 8000000 in
set_option maxRecDepth 100000 in
theorem impl_TreeKeys.calls (k:Nat) (A0_0:Option Addr) (c0_0:Nat) (l0_0:List Int) (A0_1:Option Addr) (c0_1:Nat) (l0_1:List (S59)) (r:List (S38)) (w:World) (hr0_0:Kd.C (Kd.int .i64) w A0_0 l0_0.length l0_0) (hc0_0:l0_0.length ≤ c0_0) (hr0_1:Kd.C k59 w A0_1 l0_1.length l0_1) (hc0_1:l0_1.length ≤ c0_1) (h:impl_TreeKeys.f k l0_0 l0_1 = some r) :
  Calls Try.prog 19 #[.agg #[.slice A0_0 l0_0.length c0_0,.slice A0_1 l0_1.length c0_1]] w fun e w'=>∃ v0_:Value,e = .returned (v0_) ∧ Kd.R k38 38 w' w.heap.size (fun _=>True) v0_ r ∧ Below w.heap.size w w':=by
 have hu29:=Try.underlying29
 have hu59:=Try.underlying59
 have HR0_0:=aA.mk hr0_0
 have HC0_0:=aA.mk hc0_0
 clear hr0_0 hc0_0
 have HR0_1:=aA.mk hr0_1
 have HC0_1:=aA.mk hc0_1
 clear hr0_1 hc0_1
 have HB:=aA.mk (Below.refl w.heap.size w)
 have H:(impl_TreeKeys.l0 k (([]:List (S38))) l0_1 (l0_1.length:Int) 0) = some r:=h
 clear h
 obtain ⟨y731,hy731⟩:∃ y_:List (S38),y_ = (([]:List (S38))):=⟨_,rfl⟩
 replace H:(impl_TreeKeys.l0 k y731 l0_1 (l0_1.length:Int) 0) = some r:=by first|(rw [hy731];with_reducible exact H)|(have H2_:=(Option.bind_some _ _).symm.trans H;rw [hy731];with_reducible exact H2_)|(have H2_:=(Option.bind_some _ _).symm.trans H;with_reducible exact H2_)|with_reducible exact H|(rw [hy731];exact H)|exact H
 have Ny731:=aA.mk hy731
 clear hy731
 have H':=aA.mk H
 clear H
 go_enter Try.func19,Try.ntmps19
 go_wp2_with (first|((with_reducible refine aZ (N:=1) rfl ?_);refine bB ?hg (N:=1) ?hd (cs:=#[.slice A0_0 l0_0.length c0_0,.slice A0_1 l0_1.length c0_1]) (t:=29) ?hr ?_;(case hd=>rfl);(case hg=>rfl);(case hr=>exact tJ);intro gb730 hg w2 hbox hb;have BK730:=aA.mk (hbox);have GW730:=aA.mk ((by rw [hg];exact (aM tE):w.heap.size ≤ gb730));have GE730:=aA.mk ((by rw [hg];exact (aM tE):w.heap.size ≤ gb730));replace HB:=aA.mk (aQ tE hb);clear hb hbox hg)|((with_reducible refine aZ (N:=6) rfl ?_);refine Kd.R_lit k38 _ 38 ?hg (N:=6) ?hd (xs:=([]:List (S38))) (inner:=[]) (ok:=fun _=>True) (okp:=fun _=>True) ?hr ?hp (fun _ hk=>hk) trivial (Below.refl _ _) (Nat.le_refl _) te ?_;(case hd=>rfl);(case hg=>rfl);(case hr=>exact tJ);(case hp=>exact (Reps.none _ _));intro v732 w3 ho4 hb hg_ hnew_;clear hg_ hnew_;(first|rw [← Ny731.out] at ho4|(simp only [Int.reduceToNat] at ho4;rw [← Ny731.out] at ho4));have HO733:=aA.mk (Kd.R_lower ho4 (aM vQ));replace BK730:=nB BK730;replace HB:=aA.mk (aQ vQ hb);clear hb ho4;obtain ⟨hcz5_0,hcz5_1⟩:=cs2 BK730.out;obtain ⟨hfz5_0,hfz5_1⟩:=fs2 BK730.out))
 go_loopg [3,10] k (fun kq v3 v10 w'=>∃ (x3_1:List (S38)) (x10_1:Int),v10 = .int .i64 x10_1 ∧ aA (impl_TreeKeys.l0 kq x3_1 l0_1 (l0_1.length:Int) x10_1 = some r) ∧ aA (kq ≤ k) ∧ aA (Kd.R k38 38 w' w.heap.size (fun _=>True) v3 x3_1) ∧ aA (w'.heap[gb730]? = some (.cells #[(.slice A0_0 l0_0.length c0_0),(.slice A0_1 l0_1.length c0_1)] 29 (0,0))) ∧ aA (Below w.heap.size w w'))
 case atStart=>exact ⟨(y731),(0),tG,H',⟨Nat.le_refl _⟩,⟨by (with_reducible repeat (first|apply Kd.bC|apply Kd.bD|apply Kd.bG));exact HO733.out⟩,⟨by (with_reducible repeat (first|refine aG ?_ _|refine aH ?_|refine aE ?_ _));exact BK730.out⟩,⟨by repeat (first|(with_reducible first|exact HB.out|apply aK|apply aC|apply aJ|refine aD ?_ GE730.out)|exact HB.out)⟩⟩
 case round =>
  clear H'
  try clear c1
  try clear p2
  try clear hcz5_0
  try clear hcz5_1
  try clear hfz5_0
  try clear hfz5_1
  obtain ⟨x3_1,x10_1,rfl,HA,HK1,HO_3,BK730,HB⟩:=hrel
  cases gk with
  | zero=>exact absurd HA.out (by simp [impl_TreeKeys.l0])
  | succ k1 =>
   have H:=HA.out
   clear HA
   simp only [impl_TreeKeys.l0] at H
   by_cases c6:x10_1 < (l0_1.length:Int)
   ·rw [if_pos c6] at H
    have c6b0:decide (x10_1 < (l0_1.length:Int)) = true:=decide_eq_true c6
    clear c6
    by_cases c7:0 ≤ x10_1
    ·rw [if_pos c7] at H
     have c7b0:decide (0 ≤ x10_1) = true:=decide_eq_true c7
     clear c7
     by_cases c8:x10_1 < (l0_1.length:Int)
     ·rw [if_pos c8] at H
      have c8b0:decide (x10_1 < (l0_1.length:Int)) = true:=decide_eq_true c8
      clear c8
      replace H:=lF H
      obtain ⟨t736,A90,H⟩:=H
      replace H:(if x3_1.length + t736.length < 3518437208883 then (impl_TreeKeys.l0 k1 (x3_1 ++ t736) l0_1 (l0_1.length:Int) (wrap64 (x10_1 + 1))) else (none)) = some r:=H
      have A9:=aA.mk A90
      clear A90
      by_cases c10:x3_1.length + t736.length < 3518437208883
      ·rw [if_pos c10] at H
       have LMc10:=aA.mk c10
       clear c10
       obtain ⟨y739,hy739⟩:∃ y_:List (S38),y_ = (x3_1 ++ t736):=⟨_,rfl⟩
       replace H:(impl_TreeKeys.l0 k1 y739 l0_1 (l0_1.length:Int) (wrap64 (x10_1 + 1))) = some r:=by first|(rw [hy739];with_reducible exact H)|(have H2_:=(Option.bind_some _ _).symm.trans H;rw [hy739];with_reducible exact H2_)|(have H2_:=(Option.bind_some _ _).symm.trans H;with_reducible exact H2_)|with_reducible exact H|(rw [hy739];exact H)|exact H
       have Ny739:=aA.mk hy739
       clear hy739
       have H':=aA.mk H
       clear H
       have p734:0 ≤ (x10_1:Int):=lE tF
       have q734:x10_1 < (l0_1.length:Int):=lE tF
       obtain ⟨ad734,A734_0,c734_0,e734,hx734_0,hl734_0,hi734_0⟩:=at_T59 HR0_1.out x10_1 p734 q734
       cases e734
       replace hx734_0:=(HB.out.cell (lD w _ hx734_0)).trans hx734_0
       have HR734_0:=aA.mk hi734_0
       have HC734_0:=aA.mk hl734_0
       clear hi734_0 hl734_0
       replace p734:=eq_true p734
       replace q734:=eq_true q734
       go_wp2_with (first|((with_reducible refine aZ (N:=5) rfl ?_);refine bB ?hg (N:=5) ?hd (cs:=#[.slice none 0 0]) (t:=59) ?hr ?_;(case hd=>rfl);(case hg=>rfl);(case hr=>exact tJ);intro gb735 hg w11 hbox hb;replace HO_3:=nR HO_3;have BK735:=aA.mk (hbox);have GW735:=aA.mk ((by rw [hg];exact (aM vQ):w.heap.size ≤ gb735));have GE735:=aA.mk ((by rw [hg];exact (aM vQ):w.heap.size ≤ gb735));replace HB:=aA.mk (aQ vQ hb);have NB730_735:=nL BK730;have NB735_730:=nG BK730;replace BK730:=nB BK730;clear hb hbox hg;have hnb12:=NB735_730.out;have hnc12:=NB730_735.out;have hcz13_0:=cs1 BK735.out;have hfz13_0:=fs1 BK735.out)|((with_reducible refine aY (f:=46) rfl ?_);refine goesL_ (some 16) rfl rfl Try.func46 tH rfl #[.agg #[.slice A734_0 ((rd_T59 l0_1 x10_1).f0).length c734_0]] rfl tA ?_;(with_reducible refine (impl_NodeKeys.calls k1 _ _ ((rd_T59 l0_1 x10_1).f0) t736 _ ?side1 ?side2 A9.out).mono ?_);(case side1=>exact Kd.C_below HR734_0.out vG);(case side2=>exact HC734_0.out);rintro e w14 ⟨v737,rfl,ho0,hb⟩;refine ⟨_,rfl,?_⟩;have HO738:=aA.mk (Kd.R_lower (Kd.R_new' ho0 (Kd.R_lt wg)) (aM vG));replace HO_3:=aA.mk (Kd.R_elder' wg (Kd.R_base ho0) hb);replace BK730:=aA.mk (blk_below (g:=gb730) (o:=.cells #[.slice A0_0 l0_0.length c0_0,.slice (some ad734) l0_1.length c0_1] 29 (0,0)) (by (with_reducible repeat (first|refine aG ?_ _|refine aH ?_|refine aE ?_ _));refine aV ?_ NB730_735.out _;(with_reducible repeat (first|refine aG ?_ _|refine aH ?_|refine aE ?_ _));exact BK730.out) hb);replace BK735:=aA.mk (blk_below (g:=gb735) (o:=.cells #[.slice A734_0 ((rd_T59 l0_1 x10_1).f0).length c734_0] 59 (0,0)) (by (with_reducible repeat (first|refine aG ?_ _|refine aH ?_|refine aE ?_ _));refine aT (cs:=#[.slice none 0 0]) ?_ 0 _ rfl;(with_reducible repeat (first|refine aG ?_ _|refine aH ?_|refine aE ?_ _));exact BK735.out) hb);replace HB:=aA.mk (aQ vG hb);(try clear hb);(try clear hk);(try clear ho0);obtain ⟨Ao16,co16,eo16⟩:=Kd.R_slice HO738.out;subst eo16)|((with_reducible refine gate_builtin (b:=.append) (xs:=#[.tmp 14,.tmp 16]) rfl ?_);at_builtin;refine Kd.R_append_rows k38 (w0:=w) w.heap.size rfl (.tmp 14) (.tmp 16) 45 38 (.agg #[(.int .i64 0),(.int .i64 0),(.int .i64 0),(.int .i64 0),(.int .i64 0)]) 40 rfl Try.underlying45 info38 rfl tb tB u3 x3_1 t736 _ _ _ (fun k_=>some k_ ≠ (.slice Ao16 t736.length co16:Value).ownBlock) (fun _=>False) rfl rfl ?aO ?aR (fun _ _ h=>h) (fun _ h=>h.elim) ?aF ?aB ?aS ?aL ?_;(case aR=>repeat (first|exact (Kd.R_reads' HO738.out).2.2|(with_reducible refine Kd.C_alloc ?_ _)|(with_reducible refine Kd.C_drewN ?_ _)|(with_reducible refine Kd.C_drew ?_)));(case aB=>exact vG);(case aF=>exact (fun k_ hk=>Kd.fresh' (Kd.R_lt HO738.out) k_ hk));(case aO=>exact (by (with_reducible repeat (first|apply Kd.bC|apply Kd.bD|apply Kd.bG));exact Kd.bF HO_3.out (fun _ hk=>hk.2)));(case aS=>exact (aM vG));(case aL=>have:=LMc10.out;omega);intro v740 w15 ho hb hg hat;rw [← Ny739.out] at ho;replace BK730:=aA.mk (blk_grown (g:=gb730) (o:=.cells #[.slice A0_0 l0_0.length c0_0,.slice (some ad734) l0_1.length c0_1] 29 (0,0)) BK730.out hg (Kd.R_ne HO_3.out BK730.out tb));replace BK735:=aA.mk (blk_grown (g:=gb735) (o:=.cells #[.slice A734_0 ((rd_T59 l0_1 x10_1).f0).length c734_0] 59 (0,0)) BK735.out hg (Kd.R_ne HO_3.out BK735.out tb));replace HO738:=aA.mk (Kd.R_after (ok:=(fun _=>True)) HO738.out hg hat);replace HB:=aA.mk (hb);have HO741:=aA.mk (ho);clear HO_3;clear ho hb hg hat))
       go_roundg k1
       case measure=>have:=HK1.out;omega
       case rel=>exact ⟨(y739),(wrap64 (x10_1 + 1)),tG,H',⟨wX⟩,⟨by (with_reducible repeat (first|apply Kd.bC|apply Kd.bD|apply Kd.bG));exact Kd.bF HO741.out (fun _ hk=>trivial)⟩,⟨by (with_reducible repeat (first|refine aG ?_ _|refine aH ?_|refine aE ?_ _));exact BK730.out⟩,⟨by repeat (first|(with_reducible first|exact HB.out|apply aK|apply aC|apply aJ|refine aD ?_ GE730.out|refine aD ?_ GE735.out)|exact HB.out)⟩⟩
      ·rw [if_neg c10] at H
       exact vM
     ·rw [if_neg c8] at H
      exact vM
    ·rw [if_neg c7] at H
     exact vM
   ·rw [if_neg c6] at H
    have c6b0:decide (x10_1 < (l0_1.length:Int)) = false:=decide_eq_false c6
    clear c6
    obtain rfl:=Option.some.inj H
    go_wp2
    go_ret
    exact ⟨_,tC,by (with_reducible repeat (first|apply Kd.bC|apply Kd.bD|apply Kd.bG));exact HO_3.out,by repeat (first|(with_reducible first|exact HB.out|apply aK|apply aC|apply aJ|refine aD ?_ GE730.out)|exact HB.out)⟩
def laws_sameInts.l0:Nat → List Int → List Int → Int → Option (Bool)
 | 0,_,_,_=>none
 | k + 1,x0,x1,x5=>if x5 < (x0.length:Int) then (if 0 ≤ x5 then (if x5 < (x1.length:Int) then (if (rd x0 x5) = (rd x1 x5) then (laws_sameInts.l0 k x0 x1 (wrap64 (x5 + 1))) else (some false)) else (none)) else (none)) else (some true)
def laws_sameInts.f (k:Nat) (l0:List Int) (l1:List Int):Option (Bool):=if (l0.length:Int) = (l1.length:Int) then (laws_sameInts.l0 k l0 l1 0) else (some false)
set_option maxHeartbeats 8000000 in
set_option maxRecDepth 100000 in
theorem laws_sameInts.calls (k:Nat) (A0:Option Addr) (c0:Nat) (l0:List Int) (A1:Option Addr) (c1:Nat) (l1:List Int) (r:Bool) (w:World) (hr0:Kd.C (Kd.int .i64) w A0 l0.length l0) (hc0:l0.length ≤ c0) (hr1:Kd.C (Kd.int .i64) w A1 l1.length l1) (hc1:l1.length ≤ c1) (h:laws_sameInts.f k l0 l1 = some r) :
  Calls Try.prog 20 #[.slice A0 l0.length c0,.slice A1 l1.length c1] w fun e w'=>e = .returned (.bool r) ∧ Drawn0 w w':=by
 have HR0:=aA.mk hr0
 have HC0:=aA.mk hc0
 clear hr0 hc0
 have HR1:=aA.mk hr1
 have HC1:=aA.mk hc1
 clear hr1 hc1
 have H:(if (l0.length:Int) = (l1.length:Int) then (laws_sameInts.l0 k l0 l1 0) else (some false)) = some r:=h
 clear h
 by_cases c3:(l0.length:Int) = (l1.length:Int)
 ·rw [if_pos c3] at H
  have c3b0:((l0.length:Int) == (l1.length:Int)) = true:=beq_iff_eq.mpr c3
  have c3b1:((l0.length:Int) != (l1.length:Int)) = false:=bne_eq_false_iff_eq.mpr c3
  have c3b2:(l0.length == l1.length) = true:=by first|simpa using c3|(simp at c3 ⊢;omega)
  clear c3
  have H':=aA.mk H
  clear H
  go_enter Try.func20,Try.ntmps20
  go_wp2
  repeat (go_quiet (fail);try go_wp2)
  go_loopg [5] k (fun kq v5 w'=>∃ (x5_1:Int),v5 = .int .i64 x5_1 ∧ aA (laws_sameInts.l0 kq l0 l1 x5_1 = some r) ∧ aA (kq ≤ k) ∧ Drawn0 w w')
  case atStart=>exact ⟨(0),tG,H',⟨Nat.le_refl _⟩,AL⟩
  case round =>
   clear H'
   try clear c1
   try clear c2
   try clear p2
   try clear c3
   try clear c3b0
   try clear c3b1
   try clear c3b2
   obtain ⟨x5_1,rfl,HA,HK1,⟨m1,rfl⟩⟩:=hrel
   cases gk with
   | zero=>exact absurd HA.out (by simp [laws_sameInts.l0])
   | succ k1 =>
    have H:=HA.out
    clear HA
    simp only [laws_sameInts.l0] at H
    by_cases c4:x5_1 < (l0.length:Int)
    ·rw [if_pos c4] at H
     have c4b0:decide (x5_1 < (l0.length:Int)) = true:=decide_eq_true c4
     clear c4
     by_cases c5:0 ≤ x5_1
     ·rw [if_pos c5] at H
      have c5b0:decide (0 ≤ x5_1) = true:=decide_eq_true c5
      clear c5
      by_cases c6:x5_1 < (l1.length:Int)
      ·rw [if_pos c6] at H
       have c6b0:decide (x5_1 < (l1.length:Int)) = true:=decide_eq_true c6
       clear c6
       by_cases c7:(rd l0 x5_1) = (rd l1 x5_1)
       ·rw [if_pos c7] at H
        have c7b0:((rd l0 x5_1) == (rd l1 x5_1)) = true:=beq_iff_eq.mpr c7
        have c7b1:((rd l0 x5_1) != (rd l1 x5_1)) = false:=bne_eq_false_iff_eq.mpr c7
        clear c7
        have H':=aA.mk H
        clear H
        have p742:0 ≤ (x5_1:Int):=lE tF
        have q742:x5_1 < (l0.length:Int):=lE tF
        obtain ⟨ad742,e742,hx742_0⟩:=Kd.at_int HR0.out x5_1 p742 q742
        cases e742
        replace p742:=eq_true p742
        replace q742:=eq_true q742
        have p743:0 ≤ (x5_1:Int):=lE tF
        have q743:x5_1 < (l1.length:Int):=lE tF
        obtain ⟨ad743,e743,hx743_0⟩:=Kd.at_int HR1.out x5_1 p743 q743
        cases e743
        replace p743:=eq_true p743
        replace q743:=eq_true q743
        go_wp2
        repeat (go_quiet (fail);try go_wp2)
        go_roundg k1
        case measure=>have:=HK1.out;omega
        case rel=>exact ⟨(wrap64 (x5_1 + 1)),tG,H',⟨wX⟩,AL⟩
       ·rw [if_neg c7] at H
        have c7b0:((rd l0 x5_1) == (rd l1 x5_1)) = false:=beq_eq_false_iff_ne.mpr c7
        have c7b1:((rd l0 x5_1) != (rd l1 x5_1)) = true:=bne_iff_ne.mpr c7
        obtain rfl:=Option.some.inj H
        have p742:0 ≤ (x5_1:Int):=lE tF
        have q742:x5_1 < (l0.length:Int):=lE tF
        obtain ⟨ad742,e742,hx742_0⟩:=Kd.at_int HR0.out x5_1 p742 q742
        cases e742
        replace p742:=eq_true p742
        replace q742:=eq_true q742
        have p743:0 ≤ (x5_1:Int):=lE tF
        have q743:x5_1 < (l1.length:Int):=lE tF
        obtain ⟨ad743,e743,hx743_0⟩:=Kd.at_int HR1.out x5_1 p743 q743
        cases e743
        replace p743:=eq_true p743
        replace q743:=eq_true q743
        go_wp2
        repeat (go_quiet (fail);try go_wp2)
        go_ret
        exact tU
      ·rw [if_neg c6] at H
       exact vM
     ·rw [if_neg c5] at H
      exact vM
    ·rw [if_neg c4] at H
     have c4b0:decide (x5_1 < (l0.length:Int)) = false:=decide_eq_false c4
     clear c4
     obtain rfl:=Option.some.inj H
     go_wp2
     repeat (go_quiet (fail);try go_wp2)
     go_ret
     exact tU
 ·rw [if_neg c3] at H
  have c3b0:((l0.length:Int) == (l1.length:Int)) = false:=beq_eq_false_iff_ne.mpr c3
  have c3b1:((l0.length:Int) != (l1.length:Int)) = true:=bne_iff_ne.mpr c3
  have c3b2:(l0.length == l1.length) = false:=by first|simpa using c3|(simp at c3 ⊢;omega)
  obtain rfl:=Option.some.inj H
  go_enter Try.func20,Try.ntmps20
  go_wp2
  repeat (go_quiet (fail);try go_wp2)
  go_ret
  exact tU
end Go.Proofs.Ytamjbjkbineafaa.PFnPacked

namespace Go.Proofs.Ytamjbjkbineafaa.PFnPacked
open Go.RowKit Go.Proofs.YtamjbjkbineafaaW.PrintWords Go.Proofs.YtamjbjkbineafaaW.PrintLast Go.Proofs.YtamjbjkbineafaaW.PrintMore
attribute [local go_sem] max2_int min2_int max_two min_two max_three min_three max_four min_four   -- for this text's walks alone
set_option linter.unusedVariables false
set_option linter.unusedSimpArgs false
def laws_FnPacked.f (k:Nat) (l0:List Int):Option (Bool):=(laws_big.f l0).bind fun t744=>(if t744 = true then (some true) else ((spec_DrawTree.f k l0).bind fun bt745=>((laws_at.f l0 2).bind fun t758=>(if (bt745.2.1.length:Int) = 0 then (none) else ((impl_TreePack.f k bt745.1 bt745.2.1 (Int.tmod t758 (bt745.2.1.length:Int))).bind fun bt759=>((impl_TreeNew.f).bind fun bt766=>((impl_TreeOk.f k bt759.1 bt759.2).bind fun t773=>(if t773 = true then ((impl_TreeKeys.f k bt759.1 bt759.2).bind fun t774=>((impl_TreeKeys.f k bt745.1 bt745.2.1).bind fun t777=>((laws_sameKeys.f k t774 t777).bind fun t780=>(if t780 = true then ((laws_sameInts.f k bt759.1 bt745.1).bind fun t781=>(if t781 = true then ((impl_TreeOk.f k bt766.1 bt766.2).bind fun t782=>(if t782 = true then ((impl_TreeKeys.f k bt766.1 bt766.2).bind fun t783=>(some ((t783.length:Int) == 0))) else (none))) else (none))) else (none))))) else (none)))))))))
def laws_FnPacked.T7:Bool × List (List Nat × List Nat):=(true,[([],[]),([0],[0]),([1,1],[1]),([2],[2]),([3,2,2],[2,3]),([2],[2]),([5,4,2],[2,5]),([4,6,6,2],[2,4,6]),([2,7],[2,7]),([8,7],[8]),([9],[9]),([10,9],[9,10]),([9],[9]),([12,9],[9,12]),([11,13,9,9],[9,11,13]),([9,14],[9,14]),([15,14],[15]),([16],[16]),([17,16,16],[16,17]),([16,18],[16,18]),([19,18],[19]),([20],[20]),([21,20,20],[20,21]),([22,20],[20,22]),([23,20],[20,23]),([20,24],[20,24]),([25,22,0,1,2,3,4,5,6,7,8,9,10,11,12,13,14,15,16,17,18,19,20,21,22,23,24,25],[25])])
def laws_FnPacked.B7:List Nat:=[0,1,3,7,15,7,63,127,255,511,1023,2047,1023,5119,16383,32767,65535,131071,262143,524287,1048575,2097151,4194303,8388607,16777215,33554431,67108863]
theorem laws_FnPacked.tab7:rtab .any (opsOf Try.f4 7) = laws_FnPacked.T7:=by kernel_rfl
theorem laws_FnPacked.bits7:waitsOk laws_FnPacked.T7.2 laws_FnPacked.B7 = true:=by kernel_rfl
set_option maxHeartbeats 8000000 in
set_option maxRecDepth 100000 in
theorem laws_FnPacked.calls (k:Nat) (A0:Option Addr) (c0:Nat) (l0:List Int) (r:Bool) (w:World) (hr0:Kd.C (Kd.int .u8) w A0 l0.length l0) (hc0:l0.length ≤ c0) (h:laws_FnPacked.f k l0 = some r) :
  Calls Try.prog 4 #[.slice A0 l0.length c0] w fun e w'=>e = .returned (.bool r) ∧ Below w.heap.size w w':=by
 have hu29:=Try.underlying29
 have hu38:=Try.underlying38
 have HR0:=aA.mk hr0
 have HC0:=aA.mk hc0
 clear hr0 hc0
 have HB:=aA.mk (Below.refl w.heap.size w)
 have H:((laws_big.f l0).bind fun t744=>(if t744 = true then (some true) else ((spec_DrawTree.f k l0).bind fun bt745=>((laws_at.f l0 2).bind fun t758=>(if (bt745.2.1.length:Int) = 0 then (none) else ((impl_TreePack.f k bt745.1 bt745.2.1 (Int.tmod t758 (bt745.2.1.length:Int))).bind fun bt759=>((impl_TreeNew.f).bind fun bt766=>((impl_TreeOk.f k bt759.1 bt759.2).bind fun t773=>(if t773 = true then ((impl_TreeKeys.f k bt759.1 bt759.2).bind fun t774=>((impl_TreeKeys.f k bt745.1 bt745.2.1).bind fun t777=>((laws_sameKeys.f k t774 t777).bind fun t780=>(if t780 = true then ((laws_sameInts.f k bt759.1 bt745.1).bind fun t781=>(if t781 = true then ((impl_TreeOk.f k bt766.1 bt766.2).bind fun t782=>(if t782 = true then ((impl_TreeKeys.f k bt766.1 bt766.2).bind fun t783=>(some ((t783.length:Int) == 0))) else (none))) else (none))) else (none))))) else (none)))))))))) = some r:=h
 clear h
 replace H:=lF H
 obtain ⟨t744,A20,H⟩:=H
 replace H:(if t744 = true then (some true) else ((spec_DrawTree.f k l0).bind fun bt745=>((laws_at.f l0 2).bind fun t758=>(if (bt745.2.1.length:Int) = 0 then (none) else ((impl_TreePack.f k bt745.1 bt745.2.1 (Int.tmod t758 (bt745.2.1.length:Int))).bind fun bt759=>((impl_TreeNew.f).bind fun bt766=>((impl_TreeOk.f k bt759.1 bt759.2).bind fun t773=>(if t773 = true then ((impl_TreeKeys.f k bt759.1 bt759.2).bind fun t774=>((impl_TreeKeys.f k bt745.1 bt745.2.1).bind fun t777=>((laws_sameKeys.f k t774 t777).bind fun t780=>(if t780 = true then ((laws_sameInts.f k bt759.1 bt745.1).bind fun t781=>(if t781 = true then ((impl_TreeOk.f k bt766.1 bt766.2).bind fun t782=>(if t782 = true then ((impl_TreeKeys.f k bt766.1 bt766.2).bind fun t783=>(some ((t783.length:Int) == 0))) else (none))) else (none))) else (none))))) else (none))))))))) = some r:=H
 have A2:=aA.mk A20
 clear A20
 by_cases c3:t744 = true
 ·subst c3
  have H1:(some true) = some r:=by rw [if_pos rfl] at H;exact H
  clear H
  have H:=H1
  clear H1
  obtain rfl:=Option.some.inj H
  go_enter Try.func4,Try.ntmps4
  go_wp2_with (first|((with_reducible refine aY (f:=13) rfl ?_);refine goesL_ (some 9) rfl rfl Try.func13 tH rfl #[.slice A0 l0.length c0] rfl tA ?_;(with_reducible refine (laws_big.calls _ _ l0 true _ ?side1 ?side2 A2.out).mono ?_);(case side1=>exact HR0.out);(case side2=>exact HC0.out);rintro e w' ⟨rfl,⟨nd,rfl⟩⟩;refine ⟨_,rfl,?_⟩))
  go_ret
  exact ⟨tC,tj⟩
 ·replace c3:=Bool.eq_false_iff.mpr c3
  subst c3
  have H1:((spec_DrawTree.f k l0).bind fun bt745=>((laws_at.f l0 2).bind fun t758=>(if (bt745.2.1.length:Int) = 0 then (none) else ((impl_TreePack.f k bt745.1 bt745.2.1 (Int.tmod t758 (bt745.2.1.length:Int))).bind fun bt759=>((impl_TreeNew.f).bind fun bt766=>((impl_TreeOk.f k bt759.1 bt759.2).bind fun t773=>(if t773 = true then ((impl_TreeKeys.f k bt759.1 bt759.2).bind fun t774=>((impl_TreeKeys.f k bt745.1 bt745.2.1).bind fun t777=>((laws_sameKeys.f k t774 t777).bind fun t780=>(if t780 = true then ((laws_sameInts.f k bt759.1 bt745.1).bind fun t781=>(if t781 = true then ((impl_TreeOk.f k bt766.1 bt766.2).bind fun t782=>(if t782 = true then ((impl_TreeKeys.f k bt766.1 bt766.2).bind fun t783=>(some ((t783.length:Int) == 0))) else (none))) else (none))) else (none))))) else (none)))))))) = some r:=by rw [if_neg (show ¬ (false = true) by decide)] at H;exact H
  clear H
  have H:=H1
  clear H1
  replace H:=lF H
  obtain ⟨⟨t745,t748,t751,t752,t753,t754,t755⟩,A40,H⟩:=H
  replace H:((laws_at.f l0 2).bind fun t758=>(if (t748.length:Int) = 0 then (none) else ((impl_TreePack.f k t745 t748 (Int.tmod t758 (t748.length:Int))).bind fun bt759=>((impl_TreeNew.f).bind fun bt766=>((impl_TreeOk.f k bt759.1 bt759.2).bind fun t773=>(if t773 = true then ((impl_TreeKeys.f k bt759.1 bt759.2).bind fun t774=>((impl_TreeKeys.f k t745 t748).bind fun t777=>((laws_sameKeys.f k t774 t777).bind fun t780=>(if t780 = true then ((laws_sameInts.f k bt759.1 t745).bind fun t781=>(if t781 = true then ((impl_TreeOk.f k bt766.1 bt766.2).bind fun t782=>(if t782 = true then ((impl_TreeKeys.f k bt766.1 bt766.2).bind fun t783=>(some ((t783.length:Int) == 0))) else (none))) else (none))) else (none))))) else (none))))))) = some r:=H
  have A4:=aA.mk A40
  clear A40
  replace H:=lF H
  obtain ⟨t758,A50,H⟩:=H
  replace H:(if (t748.length:Int) = 0 then (none) else ((impl_TreePack.f k t745 t748 (Int.tmod t758 (t748.length:Int))).bind fun bt759=>((impl_TreeNew.f).bind fun bt766=>((impl_TreeOk.f k bt759.1 bt759.2).bind fun t773=>(if t773 = true then ((impl_TreeKeys.f k bt759.1 bt759.2).bind fun t774=>((impl_TreeKeys.f k t745 t748).bind fun t777=>((laws_sameKeys.f k t774 t777).bind fun t780=>(if t780 = true then ((laws_sameInts.f k bt759.1 t745).bind fun t781=>(if t781 = true then ((impl_TreeOk.f k bt766.1 bt766.2).bind fun t782=>(if t782 = true then ((impl_TreeKeys.f k bt766.1 bt766.2).bind fun t783=>(some ((t783.length:Int) == 0))) else (none))) else (none))) else (none))))) else (none)))))) = some r:=H
  have A5:=aA.mk A50
  clear A50
  by_cases c6:(t748.length:Int) = 0
  ·rw [if_pos c6] at H
   exact vM
  ·rw [if_neg c6] at H
   have c6b0:((t748.length:Int) == 0) = false:=beq_eq_false_iff_ne.mpr c6
   have c6b1:((t748.length:Int) != 0) = true:=bne_iff_ne.mpr c6
   have c6b2:¬ (t748 = []):=fun h_=>c6 (by rw [h_];rfl)
   replace H:=lF H
   obtain ⟨⟨t759,t762⟩,A70,H⟩:=H
   replace H:((impl_TreeNew.f).bind fun bt766=>((impl_TreeOk.f k t759 t762).bind fun t773=>(if t773 = true then ((impl_TreeKeys.f k t759 t762).bind fun t774=>((impl_TreeKeys.f k t745 t748).bind fun t777=>((laws_sameKeys.f k t774 t777).bind fun t780=>(if t780 = true then ((laws_sameInts.f k t759 t745).bind fun t781=>(if t781 = true then ((impl_TreeOk.f k bt766.1 bt766.2).bind fun t782=>(if t782 = true then ((impl_TreeKeys.f k bt766.1 bt766.2).bind fun t783=>(some ((t783.length:Int) == 0))) else (none))) else (none))) else (none))))) else (none)))) = some r:=H
   have A7:=aA.mk A70
   clear A70
   replace H:=lF H
   obtain ⟨⟨t766,t769⟩,A80,H⟩:=H
   replace H:((impl_TreeOk.f k t759 t762).bind fun t773=>(if t773 = true then ((impl_TreeKeys.f k t759 t762).bind fun t774=>((impl_TreeKeys.f k t745 t748).bind fun t777=>((laws_sameKeys.f k t774 t777).bind fun t780=>(if t780 = true then ((laws_sameInts.f k t759 t745).bind fun t781=>(if t781 = true then ((impl_TreeOk.f k t766 t769).bind fun t782=>(if t782 = true then ((impl_TreeKeys.f k t766 t769).bind fun t783=>(some ((t783.length:Int) == 0))) else (none))) else (none))) else (none))))) else (none))) = some r:=H
   have A8:=aA.mk A80
   clear A80
   replace H:=lF H
   obtain ⟨t773,A90,H⟩:=H
   replace H:(if t773 = true then ((impl_TreeKeys.f k t759 t762).bind fun t774=>((impl_TreeKeys.f k t745 t748).bind fun t777=>((laws_sameKeys.f k t774 t777).bind fun t780=>(if t780 = true then ((laws_sameInts.f k t759 t745).bind fun t781=>(if t781 = true then ((impl_TreeOk.f k t766 t769).bind fun t782=>(if t782 = true then ((impl_TreeKeys.f k t766 t769).bind fun t783=>(some ((t783.length:Int) == 0))) else (none))) else (none))) else (none))))) else (none)) = some r:=H
   have A9:=aA.mk A90
   clear A90
   by_cases c10:t773 = true
   ·subst c10
    have H1:((impl_TreeKeys.f k t759 t762).bind fun t774=>((impl_TreeKeys.f k t745 t748).bind fun t777=>((laws_sameKeys.f k t774 t777).bind fun t780=>(if t780 = true then ((laws_sameInts.f k t759 t745).bind fun t781=>(if t781 = true then ((impl_TreeOk.f k t766 t769).bind fun t782=>(if t782 = true then ((impl_TreeKeys.f k t766 t769).bind fun t783=>(some ((t783.length:Int) == 0))) else (none))) else (none))) else (none))))) = some r:=by rw [if_pos rfl] at H;exact H
    clear H
    have H:=H1
    clear H1
    replace H:=lF H
    obtain ⟨t774,A110,H⟩:=H
    replace H:((impl_TreeKeys.f k t745 t748).bind fun t777=>((laws_sameKeys.f k t774 t777).bind fun t780=>(if t780 = true then ((laws_sameInts.f k t759 t745).bind fun t781=>(if t781 = true then ((impl_TreeOk.f k t766 t769).bind fun t782=>(if t782 = true then ((impl_TreeKeys.f k t766 t769).bind fun t783=>(some ((t783.length:Int) == 0))) else (none))) else (none))) else (none)))) = some r:=H
    have A11:=aA.mk A110
    clear A110
    replace H:=lF H
    obtain ⟨t777,A120,H⟩:=H
    replace H:((laws_sameKeys.f k t774 t777).bind fun t780=>(if t780 = true then ((laws_sameInts.f k t759 t745).bind fun t781=>(if t781 = true then ((impl_TreeOk.f k t766 t769).bind fun t782=>(if t782 = true then ((impl_TreeKeys.f k t766 t769).bind fun t783=>(some ((t783.length:Int) == 0))) else (none))) else (none))) else (none))) = some r:=H
    have A12:=aA.mk A120
    clear A120
    replace H:=lF H
    obtain ⟨t780,A130,H⟩:=H
    replace H:(if t780 = true then ((laws_sameInts.f k t759 t745).bind fun t781=>(if t781 = true then ((impl_TreeOk.f k t766 t769).bind fun t782=>(if t782 = true then ((impl_TreeKeys.f k t766 t769).bind fun t783=>(some ((t783.length:Int) == 0))) else (none))) else (none))) else (none)) = some r:=H
    have A13:=aA.mk A130
    clear A130
    by_cases c14:t780 = true
    ·subst c14
     have H1:((laws_sameInts.f k t759 t745).bind fun t781=>(if t781 = true then ((impl_TreeOk.f k t766 t769).bind fun t782=>(if t782 = true then ((impl_TreeKeys.f k t766 t769).bind fun t783=>(some ((t783.length:Int) == 0))) else (none))) else (none))) = some r:=by rw [if_pos rfl] at H;exact H
     clear H
     have H:=H1
     clear H1
     replace H:=lF H
     obtain ⟨t781,A150,H⟩:=H
     replace H:(if t781 = true then ((impl_TreeOk.f k t766 t769).bind fun t782=>(if t782 = true then ((impl_TreeKeys.f k t766 t769).bind fun t783=>(some ((t783.length:Int) == 0))) else (none))) else (none)) = some r:=H
     have A15:=aA.mk A150
     clear A150
     by_cases c16:t781 = true
     ·subst c16
      have H1:((impl_TreeOk.f k t766 t769).bind fun t782=>(if t782 = true then ((impl_TreeKeys.f k t766 t769).bind fun t783=>(some ((t783.length:Int) == 0))) else (none))) = some r:=by rw [if_pos rfl] at H;exact H
      clear H
      have H:=H1
      clear H1
      replace H:=lF H
      obtain ⟨t782,A170,H⟩:=H
      replace H:(if t782 = true then ((impl_TreeKeys.f k t766 t769).bind fun t783=>(some ((t783.length:Int) == 0))) else (none)) = some r:=H
      have A17:=aA.mk A170
      clear A170
      by_cases c18:t782 = true
      ·subst c18
       have H1:((impl_TreeKeys.f k t766 t769).bind fun t783=>(some ((t783.length:Int) == 0))) = some r:=by rw [if_pos rfl] at H;exact H
       clear H
       have H:=H1
       clear H1
       replace H:=lF H
       obtain ⟨t783,A190,H⟩:=H
       replace H:(some ((t783.length:Int) == 0)) = some r:=H
       have A19:=aA.mk A190
       clear A190
       obtain rfl:=Option.some.inj H
       go_enter Try.func4,Try.ntmps4
       try go_wp2_with (first|((with_reducible refine aY (f:=13) rfl ?_);refine goesL_ (some 9) rfl rfl Try.func13 tH rfl #[.slice A0 l0.length c0] rfl tA ?_;(with_reducible refine (laws_big.calls _ _ l0 false _ ?side1 ?side2 A2.out).mono ?_);(case side1=>exact HR0.out);(case side2=>exact HC0.out);rintro e w' ⟨rfl,⟨nd,rfl⟩⟩;refine ⟨_,rfl,?_⟩)|((with_reducible refine aY (f:=14) rfl ?_);refine goesL_ (some 12) rfl rfl Try.func14 tH rfl #[.slice A0 l0.length c0] rfl tA ?_;(with_reducible refine (spec_DrawTree.calls k _ _ l0 t745 t748 t751 t752 t753 t754 t755 _ ?side1 ?side2 A4.out).mono ?_);(case side1=>exact HR0.out);(case side2=>exact HC0.out);rintro e w20 ⟨v746,v749,rfl,ho0,ho1,hb⟩;refine ⟨_,rfl,?_⟩;have HO747:=aA.mk (Kd.V_lower (Kd.V_mono (ok':=fun k_=>True) ho0 (fun k_ hk_=>trivial)) (aM tE));have HO750:=aA.mk (Kd.V_lower (Kd.V_mono (ok':=fun k_=>True) ho1 (fun k_ hk_=>trivial)) (aM tE));replace HB:=aA.mk (aQ tE hb);(try clear hb);(try clear ho0);(try clear ho1))|((with_reducible refine aZ (N:=3) rfl ?_);(try (refine gate_guard vH ?_;dsimp only));refine bB ?hg (N:=3) ?hd (cs:=#[.slice none 0 0,.slice none 0 0]) (t:=29) ?hr ?_;(case hd=>rfl);(case hg=>rfl);(case hr=>exact tJ);intro gb756 hg w21 hbox hb;replace HO747:=aA.mk (Kd.V_below (Kd.V_elderB tq gb756 (Nat.le_of_eq hg.symm)) hb);replace HO750:=aA.mk (Kd.V_below (Kd.V_elderB tp gb756 (Nat.le_of_eq hg.symm)) hb);have BK756:=aA.mk (hbox);have GW756:=aA.mk ((by rw [hg];exact (aM tE):w.heap.size ≤ gb756));have GE756:=aA.mk ((by rw [hg];exact (aM tE):w.heap.size ≤ gb756));replace HB:=aA.mk (aQ tE hb);clear hb hbox hg)|((with_reducible refine aZ (N:=4) rfl ?_);(try (refine gate_guard vH ?_;dsimp only));refine bB ?hg (N:=4) ?hd (cs:=#[.int .i64 0,.int .i64 0,.int .i64 0,.int .i64 0,.int .i64 0]) (t:=38) ?hr ?_;(case hd=>rfl);(case hg=>rfl);(case hr=>exact tJ);intro gb757 hg w22 hbox hb;replace HO747:=aA.mk (Kd.V_below (Kd.V_elderB tq gb757 (Nat.le_of_eq hg.symm)) hb);replace HO750:=aA.mk (Kd.V_below (Kd.V_elderB tp gb757 (Nat.le_of_eq hg.symm)) hb);have BK757:=aA.mk (hbox);have GW757:=aA.mk ((by rw [hg];exact (aM wb):w.heap.size ≤ gb757));have GE757:=aA.mk ((by rw [hg];exact (aM wb):w.heap.size ≤ gb757));replace HB:=aA.mk (aQ wb hb);have NB756_757:=nK BK756;have NB757_756:=nH BK756;replace BK756:=nC BK756;clear hb hbox hg;obtain ⟨Ao23,co23,eo23⟩:=Kd.V_slice HO747.out;subst eo23;have hnb24:=NB756_757.out;have hnc24:=NB757_756.out;obtain ⟨hcz25_0,hcz25_1⟩:=cs2 BK756.out;obtain ⟨hfz25_0,hfz25_1⟩:=fs2 BK756.out;obtain ⟨Ao26,co26,eo26⟩:=Kd.V_slice HO750.out;subst eo26;obtain ⟨hcz27_0,hcz27_1,hcz27_2,hcz27_3,hcz27_4⟩:=cs5 BK757.out;obtain ⟨hfz27_0,hfz27_1,hfz27_2,hfz27_3,hfz27_4⟩:=fs5 BK757.out))
       have n0_:aA (Kd.V (Kd.int .i64) 3 (((((((w22.setCell ⟨gb756,0,none⟩ (.slice Ao23 t745.length co23)).setCell ⟨gb756,1,none⟩ (.slice Ao26 t748.length co26)).setCell ⟨gb757,0,none⟩ (.int .i64 t751)).setCell ⟨gb757,1,none⟩ (.int .i64 t752)).setCell ⟨gb757,2,none⟩ (.int .i64 t753)).setCell ⟨gb757,3,none⟩ (.int .i64 t754)).setCell ⟨gb757,4,none⟩ (.int .i64 t755)) w.heap.size (fun k_=>k_ ≠ gb756 ∧ k_ ≠ gb757) (.slice Ao23 t745.length co23) t745):=⟨by (with_reducible repeat (first|apply Kd.V_alloc|apply Kd.V_drewN|apply Kd.V_drew));exact Kd.V_mono (Kd.V_far (p:=⟨gb757,4,none⟩) (Kd.V_far (p:=⟨gb757,3,none⟩) (Kd.V_far (p:=⟨gb757,2,none⟩) (Kd.V_far (p:=⟨gb757,1,none⟩) (Kd.V_far (p:=⟨gb757,0,none⟩) (Kd.V_far (p:=⟨gb756,1,none⟩) (Kd.V_far (p:=⟨gb756,0,none⟩) (Kd.V_mono (Kd.V_mono HO747.out (fun k_ hk=>(⟨hk,hk.1.2⟩:_ ∧ k_ ≠ gb756))) (fun k_ hk=>(⟨hk,hk.1.2⟩:_ ∧ k_ ≠ gb757))) (fun _ hk=>hk.1.2) (.slice Ao23 t745.length co23)) (fun _ hk=>hk.1.2) (.slice Ao26 t748.length co26)) (fun _ hk=>hk.2) (.int .i64 t751)) (fun _ hk=>hk.2) (.int .i64 t752)) (fun _ hk=>hk.2) (.int .i64 t753)) (fun _ hk=>hk.2) (.int .i64 t754)) (fun _ hk=>hk.2) (.int .i64 t755)) (fun _ hk=>⟨hk.1.1.1.2,hk.1.1.2⟩)⟩
       have n1_:aA (Kd.V k59 59 (((((((w22.setCell ⟨gb756,0,none⟩ (.slice Ao23 t745.length co23)).setCell ⟨gb756,1,none⟩ (.slice Ao26 t748.length co26)).setCell ⟨gb757,0,none⟩ (.int .i64 t751)).setCell ⟨gb757,1,none⟩ (.int .i64 t752)).setCell ⟨gb757,2,none⟩ (.int .i64 t753)).setCell ⟨gb757,3,none⟩ (.int .i64 t754)).setCell ⟨gb757,4,none⟩ (.int .i64 t755)) w.heap.size (fun k_=>k_ ≠ gb756 ∧ k_ ≠ gb757) (.slice Ao26 t748.length co26) t748):=⟨by (with_reducible repeat (first|apply Kd.V_alloc|apply Kd.V_drewN|apply Kd.V_drew));exact Kd.V_mono (Kd.V_far (p:=⟨gb757,4,none⟩) (Kd.V_far (p:=⟨gb757,3,none⟩) (Kd.V_far (p:=⟨gb757,2,none⟩) (Kd.V_far (p:=⟨gb757,1,none⟩) (Kd.V_far (p:=⟨gb757,0,none⟩) (Kd.V_far (p:=⟨gb756,1,none⟩) (Kd.V_far (p:=⟨gb756,0,none⟩) (Kd.V_mono (Kd.V_mono HO750.out (fun k_ hk=>(⟨hk,hk.1.2⟩:_ ∧ k_ ≠ gb756))) (fun k_ hk=>(⟨hk,hk.1.2⟩:_ ∧ k_ ≠ gb757))) (fun _ hk=>hk.1.2) (.slice Ao23 t745.length co23)) (fun _ hk=>hk.1.2) (.slice Ao26 t748.length co26)) (fun _ hk=>hk.2) (.int .i64 t751)) (fun _ hk=>hk.2) (.int .i64 t752)) (fun _ hk=>hk.2) (.int .i64 t753)) (fun _ hk=>hk.2) (.int .i64 t754)) (fun _ hk=>hk.2) (.int .i64 t755)) (fun _ hk=>⟨hk.1.1.1.2,hk.1.1.2⟩)⟩
       have n2_:aA ((((((((w22.setCell ⟨gb756,0,none⟩ (.slice Ao23 t745.length co23)).setCell ⟨gb756,1,none⟩ (.slice Ao26 t748.length co26)).setCell ⟨gb757,0,none⟩ (.int .i64 t751)).setCell ⟨gb757,1,none⟩ (.int .i64 t752)).setCell ⟨gb757,2,none⟩ (.int .i64 t753)).setCell ⟨gb757,3,none⟩ (.int .i64 t754)).setCell ⟨gb757,4,none⟩ (.int .i64 t755)).heap[gb756]? = some (.cells #[.slice Ao23 t745.length co23,.slice Ao26 t748.length co26] 29 (0,0))):=⟨by (with_reducible repeat (first|refine aG ?_ _|refine aH ?_|refine aE ?_ _));refine aV ?_ NB756_757.out _;(with_reducible repeat (first|refine aG ?_ _|refine aH ?_|refine aE ?_ _));refine aV ?_ NB756_757.out _;(with_reducible repeat (first|refine aG ?_ _|refine aH ?_|refine aE ?_ _));refine aV ?_ NB756_757.out _;(with_reducible repeat (first|refine aG ?_ _|refine aH ?_|refine aE ?_ _));refine aV ?_ NB756_757.out _;(with_reducible repeat (first|refine aG ?_ _|refine aH ?_|refine aE ?_ _));refine aV ?_ NB756_757.out _;(with_reducible repeat (first|refine aG ?_ _|refine aH ?_|refine aE ?_ _));refine aT (cs:=#[.slice Ao23 t745.length co23,.slice none 0 0]) ?_ 1 _ rfl;(with_reducible repeat (first|refine aG ?_ _|refine aH ?_|refine aE ?_ _));refine aT (cs:=#[.slice none 0 0,.slice none 0 0]) ?_ 0 _ rfl;(with_reducible repeat (first|refine aG ?_ _|refine aH ?_|refine aE ?_ _));exact BK756.out⟩
       have n3_:aA ((((((((w22.setCell ⟨gb756,0,none⟩ (.slice Ao23 t745.length co23)).setCell ⟨gb756,1,none⟩ (.slice Ao26 t748.length co26)).setCell ⟨gb757,0,none⟩ (.int .i64 t751)).setCell ⟨gb757,1,none⟩ (.int .i64 t752)).setCell ⟨gb757,2,none⟩ (.int .i64 t753)).setCell ⟨gb757,3,none⟩ (.int .i64 t754)).setCell ⟨gb757,4,none⟩ (.int .i64 t755)).heap[gb757]? = some (.cells #[.int .i64 t751,.int .i64 t752,.int .i64 t753,.int .i64 t754,.int .i64 t755] 38 (0,0))):=⟨by (with_reducible repeat (first|refine aG ?_ _|refine aH ?_|refine aE ?_ _));refine aT (cs:=#[.int .i64 t751,.int .i64 t752,.int .i64 t753,.int .i64 t754,.int .i64 0]) ?_ 4 _ rfl;(with_reducible repeat (first|refine aG ?_ _|refine aH ?_|refine aE ?_ _));refine aT (cs:=#[.int .i64 t751,.int .i64 t752,.int .i64 t753,.int .i64 0,.int .i64 0]) ?_ 3 _ rfl;(with_reducible repeat (first|refine aG ?_ _|refine aH ?_|refine aE ?_ _));refine aT (cs:=#[.int .i64 t751,.int .i64 t752,.int .i64 0,.int .i64 0,.int .i64 0]) ?_ 2 _ rfl;(with_reducible repeat (first|refine aG ?_ _|refine aH ?_|refine aE ?_ _));refine aT (cs:=#[.int .i64 t751,.int .i64 0,.int .i64 0,.int .i64 0,.int .i64 0]) ?_ 1 _ rfl;(with_reducible repeat (first|refine aG ?_ _|refine aH ?_|refine aE ?_ _));refine aT (cs:=#[.int .i64 0,.int .i64 0,.int .i64 0,.int .i64 0,.int .i64 0]) ?_ 0 _ rfl;(with_reducible repeat (first|refine aG ?_ _|refine aH ?_|refine aE ?_ _));refine aV ?_ NB757_756.out _;(with_reducible repeat (first|refine aG ?_ _|refine aH ?_|refine aE ?_ _));refine aV ?_ NB757_756.out _;(with_reducible repeat (first|refine aG ?_ _|refine aH ?_|refine aE ?_ _));exact BK757.out⟩
       have n4_:aA (Below w.heap.size w (((((((w22.setCell ⟨gb756,0,none⟩ (.slice Ao23 t745.length co23)).setCell ⟨gb756,1,none⟩ (.slice Ao26 t748.length co26)).setCell ⟨gb757,0,none⟩ (.int .i64 t751)).setCell ⟨gb757,1,none⟩ (.int .i64 t752)).setCell ⟨gb757,2,none⟩ (.int .i64 t753)).setCell ⟨gb757,3,none⟩ (.int .i64 t754)).setCell ⟨gb757,4,none⟩ (.int .i64 t755))):=⟨by repeat (first|(with_reducible first|exact HB.out|apply aK|apply aC|apply aJ|refine aD ?_ GE756.out|refine aD ?_ GE757.out)|exact HB.out)⟩
       (try clear HO747)
       (try clear HO750)
       (try clear BK756)
       (try clear BK757)
       (try clear HB)
       generalize (((((((w22.setCell ⟨gb756,0,none⟩ (.slice Ao23 t745.length co23)).setCell ⟨gb756,1,none⟩ (.slice Ao26 t748.length co26)).setCell ⟨gb757,0,none⟩ (.int .i64 t751)).setCell ⟨gb757,1,none⟩ (.int .i64 t752)).setCell ⟨gb757,2,none⟩ (.int .i64 t753)).setCell ⟨gb757,3,none⟩ (.int .i64 t754)).setCell ⟨gb757,4,none⟩ (.int .i64 t755)) = w28 at n0_ n1_ n2_ n3_ n4_ ⊢
       have HO747:=n0_
       have HO750:=n1_
       have BK756:=n2_
       have BK757:=n3_
       have HB:=n4_
       clear n0_ n1_ n2_ n3_ n4_
       replace HO747:=aA.mk (Kd.V_drew HO747.out)
       replace HO750:=aA.mk (Kd.V_drew HO750.out)
       replace BK756:=aA.mk (aH BK756.out)
       replace BK757:=aA.mk (aH BK757.out)
       replace HB:=aA.mk (aJ HB.out)
       refine start_ (n:=7) (S:=fun w'=>w'.cell? ⟨gb756,0,none⟩ = some (.slice Ao23 t745.length co23) ∧ w'.cell? ⟨gb756,1,none⟩ = some (.slice Ao26 t748.length co26)) (ds:=[]) #[F0,F0,F0,F0,F0,F0,F0] tH rfl rfl ⟨(aN BK756.out 0).trans rfl,(aN BK756.out 1).trans rfl⟩ (fun hHeld=>?_)
       generalize w28.drew = w29 at HO747 HO750 BK756 BK757 HB hHeld ⊢
       refine pure_ (i:=0) (N:=some 15) (v:=?_) (a':=?_) (bq1 1 7) rfl rfl tH (fun _ _ _ h=>h) (Or.inl ⟨by rfl,?_⟩) ?_ ?_
       rotate_left
       ·intro w'
        go_simp
        with_reducible rfl
       rotate_left
       ·simp only [Act.put,lA,lB,lC,i64_w,i32_w]
        rfl
       refine pure_ (i:=2) (N:=some 17) (v:=?_) (a':=?_) (bq1 5 7) rfl rfl tH (fun _ _ _ h=>h) (Or.inl ⟨by rfl,?_⟩) ?_ ?_
       rotate_left
       ·intro w'
        go_simp
        with_reducible rfl
       rotate_left
       ·simp only [Act.put,lA,lB,lC,i64_w,i32_w]
        rfl
       refine take_ (i:=3) (N:=some 18) (v:=?_) (a':=?_) (bq1 13 7) rfl rfl tH (fun _ _ _ h=>h) (Or.inl ⟨by rfl,?_⟩) hHeld ?_ ?_
       rotate_left
       ·rintro w' ⟨s0,s1⟩
        go_simp
        with_reducible rfl
       rotate_left
       ·simp only [Act.put,lA,lB,lC,i64_w,i32_w]
        rfl
       refine pure_ (i:=4) (N:=some 19) (v:=?_) (a':=?_) (bq1 29 7) rfl rfl tH (fun _ _ _ h=>h) (Or.inl ⟨by rfl,?_⟩) ?_ ?_
       rotate_left
       ·intro w'
        go_simp
        with_reducible rfl
       rotate_left
       ·simp only [Act.put,lA,lB,lC,i64_w,i32_w]
        rfl
       refine one_ (i:=1) (N:=some 16) (bq1 31 7) rfl rfl tH tb (fun K hK=>?_)
       refine goes_ Try.func15 tH rfl #[.slice A0 l0.length c0,.int .i64 2] vH rfl rfl tA ?_
       with_reducible refine (laws_at.calls _ _ l0 2 t758 _ ?side1 ?side2 A5.out).mono ?_
       (case side1=>exact (Kd.C_below HR0.out HB.out))
       (case side2=>exact HC0.out)
       rintro e w' ⟨rfl,⟨nd,rfl⟩⟩
       refine ⟨_,rfl,?_⟩
       refine hK.out _ _ ⟨(aN BK756.out 0).trans rfl,(aN BK756.out 1).trans rfl⟩ (fun hHeld=>?_)
       clear hK K
       refine norm_ (a':=?_) ?_ ?_
       rotate_left
       ·show Act.put _ (some 16) _ = _
        simp only [Act.put,lA,lB,lC,i64_w,i32_w]
        rfl
       refine pure_ (i:=5) (N:=some 20) (v:=?_) (a':=?_) (bq1 63 7) rfl rfl tH (fun _ _ _ h=>h) (Or.inl ⟨by rfl,?_⟩) ?_ ?_
       rotate_left
       ·intro w'
        go_simp
        with_reducible rfl
       rotate_left
       ·simp only [Act.put,lA,lB,lC,i64_w,i32_w]
        rfl
       refine pure_ (i:=6) (N:=some 5) (v:=?_) (a':=?_) (bq1 127 7) rfl rfl tH (fun _ _ _ h=>h) (Or.inl ⟨by rfl,?_⟩) ?_ ?_
       rotate_left
       ·intro w'
        go_simp
        with_reducible rfl
       rotate_left
       ·simp only [Act.put,lA,lB,lC,i64_w,i32_w]
        rfl
       refine done_ tH ?_
       obtain ⟨hcz30_0,hcz30_1⟩:=cs2 BK756.out
       obtain ⟨hfz30_0,hfz30_1⟩:=fs2 BK756.out
       try go_wp2_with (first|((with_reducible refine aY (f:=9) rfl ?_);refine goesL_ (some 23) rfl rfl Try.func9 tH rfl #[.agg #[.slice Ao23 t745.length co23,.slice Ao26 t748.length co26],.int .i64 (Int.tmod t758 (t748.length:Int))] rfl tA ?_;(with_reducible refine (impl_TreePack.calls k _ _ t745 _ _ t748 (Int.tmod t758 (t748.length:Int)) t759 t762 _ ?side1 ?side2 ?side3 ?side4 A7.out).mono ?_);(case side1=>exact wP);(case side2=>exact (Kd.V_reads' HO747.out).2.1);(case side3=>repeat (first|exact (Kd.V_reads' HO750.out).2.2|(with_reducible refine Kd.C_alloc ?_ _)|(with_reducible refine Kd.C_drewN ?_ _)|(with_reducible refine Kd.C_drew ?_)));(case side4=>exact (Kd.V_reads' HO750.out).2.1);rintro e w31 ⟨v760,v763,rfl,ho0,ho1,hb⟩;refine ⟨_,rfl,?_⟩;replace HO747:=aA.mk (Kd.V_mono (Kd.V_told (Kd.V_told (Kd.V_old tq hb) (Kd.R_base ho0)) (Kd.N_base ho1)) (fun _ h_=>h_.1));replace HO750:=aA.mk (Kd.V_mono (Kd.V_told (Kd.V_told (Kd.V_old tp hb) (Kd.R_base ho0)) (Kd.N_base ho1)) (fun _ h_=>h_.1));have HO761:=aA.mk (Kd.R_lower (Kd.bF (ok':=fun k_=>True) ho0 (fun _ hk_=>trivial)) (aM t4));have HO764:=aA.mk (Kd.N_lower (Kd.N_mono (ok':=fun k_=>some k_ ≠ (v760:Value).ownBlock ∧ k_ ≠ gb756 ∧ k_ ≠ gb757) ho1 (fun k_ hk_=>⟨hk_.2,(Kd.freshB (g:=gb756) (o:=.cells #[.slice Ao23 t745.length co23,.slice Ao26 t748.length co26] 29 (0,0)) (by (with_reducible repeat (first|refine aG ?_ _|refine aH ?_|refine aE ?_ _));exact BK756.out) k_ hk_.1),(Kd.freshB (g:=gb757) (o:=.cells #[.int .i64 t751,.int .i64 t752,.int .i64 t753,.int .i64 t754,.int .i64 t755] 38 (0,0)) wV k_ hk_.1)⟩)) (aM t4));replace BK756:=nC BK756;replace BK757:=nC BK757;replace HB:=aA.mk (aQ t4 hb);(try clear hb);(try clear hk);(try clear ho0);(try clear ho1))|((with_reducible refine aZ (N:=6) rfl ?_);(try (refine gate_guard vH ?_;dsimp only));refine bB ?hg (N:=6) ?hd (cs:=#[.slice none 0 0,.slice none 0 0]) (t:=29) ?hr ?_;(case hd=>rfl);(case hg=>rfl);(case hr=>exact tJ);intro gb765 hg w32 hbox hb;replace HO747:=aA.mk (Kd.V_below (Kd.V_elderB tq gb765 (Nat.le_of_eq hg.symm)) hb);replace HO750:=aA.mk (Kd.V_below (Kd.V_elderB tp gb765 (Nat.le_of_eq hg.symm)) hb);replace HO761:=mR HO761;replace HO764:=aA.mk (Kd.N_below (Kd.N_elderB vp gb765 (Nat.le_of_eq hg.symm)) hb);have BK765:=aA.mk (hbox);have GW765:=aA.mk ((by rw [hg];exact (aM t4):w.heap.size ≤ gb765));have GE765:=aA.mk ((by rw [hg];exact (aM t4):w.heap.size ≤ gb765));replace HB:=aA.mk (aQ t4 hb);have NB756_765:=nK BK756;have NB765_756:=nH BK756;replace BK756:=nC BK756;have NB757_765:=nK BK757;have NB765_757:=nH BK757;replace BK757:=nC BK757;clear hb hbox hg;obtain ⟨Ao33,co33,eo33⟩:=Kd.R_slice HO761.out;subst eo33;have hnb34:=NB765_756.out;have hnc34:=NB756_765.out;have hnb35:=NB765_757.out;have hnc35:=NB757_765.out;obtain ⟨hcz36_0,hcz36_1⟩:=cs2 BK765.out;obtain ⟨hfz36_0,hfz36_1⟩:=fs2 BK765.out;obtain ⟨Ao37,co37,eo37⟩:=Kd.N_slice HO764.out;subst eo37)|((with_reducible refine aY (f:=16) rfl ?_);refine goesL_ (some 24) rfl rfl Try.func16 tH rfl #[] rfl tA ?_;(with_reducible refine (impl_TreeNew.calls  t766 t769 _ A8.out).mono ?_);rintro e w38 ⟨v767,v770,rfl,ho0,ho1,hb⟩;refine ⟨_,rfl,?_⟩;replace HO747:=aA.mk (Kd.V_mono (Kd.V_told (Kd.V_told (Kd.V_old (by (with_reducible repeat (first|apply Kd.V_alloc|apply Kd.V_drewN|apply Kd.V_drew));exact (Kd.V_mono (Kd.V_far (p:=⟨gb765,1,none⟩) (Kd.V_far (p:=⟨gb765,0,none⟩) (Kd.V_mono HO747.out (fun k_ hk=>(⟨hk,hk.2⟩:_ ∧ k_ ≠ gb765))) (fun _ hk=>hk.2) (.slice Ao33 t759.length co33)) (fun _ hk=>hk.2) (.slice Ao37 t762.length co37)) (fun _ h_=>h_.1))) hb) (Kd.R_base ho0)) (Kd.R_base ho1)) (fun _ h_=>h_.1));replace HO750:=aA.mk (Kd.V_mono (Kd.V_told (Kd.V_told (Kd.V_old (by (with_reducible repeat (first|apply Kd.V_alloc|apply Kd.V_drewN|apply Kd.V_drew));exact (Kd.V_mono (Kd.V_far (p:=⟨gb765,1,none⟩) (Kd.V_far (p:=⟨gb765,0,none⟩) (Kd.V_mono HO750.out (fun k_ hk=>(⟨hk,hk.2⟩:_ ∧ k_ ≠ gb765))) (fun _ hk=>hk.2) (.slice Ao33 t759.length co33)) (fun _ hk=>hk.2) (.slice Ao37 t762.length co37)) (fun _ h_=>h_.1))) hb) (Kd.R_base ho0)) (Kd.R_base ho1)) (fun _ h_=>h_.1));have HO768:=aA.mk (Kd.R_lower (Kd.R_new' ho0 (Kd.R_lt vE)) (aM tu));have HO771:=aA.mk (Kd.N_lower (Kd.N_mono (ok':=fun k_=>some k_ ≠ (v767:Value).ownBlock ∧ some k_ ≠ (.slice Ao33 t759.length co33:Value).ownBlock ∧ some k_ ≠ (.slice Ao37 t762.length co37:Value).ownBlock ∧ k_ ≠ gb756 ∧ k_ ≠ gb757 ∧ k_ ≠ gb765) (Kd.R_N (Kd.R_bound (Kd.R_apart' ho1 (Kd.R_typed ho0) tb))) (fun k_ hk_=>⟨hk_.1.2,(Kd.fresh' (Kd.R_lt vE) k_ hk_.2.1),(Kd.fresh' (Kd.N_lt vz) k_ hk_.2.1),(Kd.freshB (g:=gb756) (o:=.cells #[.slice Ao23 t745.length co23,.slice Ao26 t748.length co26] 29 (0,0)) wN k_ hk_.2.1),(Kd.freshB (g:=gb757) (o:=.cells #[.int .i64 t751,.int .i64 t752,.int .i64 t753,.int .i64 t754,.int .i64 t755] 38 (0,0)) wM k_ hk_.2.1),(Kd.freshB (g:=gb765) (o:=.cells #[.slice Ao33 t759.length co33,.slice Ao37 t762.length co37] 29 (0,0)) vu k_ hk_.2.1)⟩)) (aM tu));replace HO761:=aA.mk (Kd.R_elder' vE (Kd.R_base ho0) hb);replace HO764:=aA.mk (Kd.N_mono (Kd.N_told (Kd.N_told (Kd.N_old vz hb) (Kd.R_base ho0)) (Kd.R_base ho1)) (fun _ h_=>h_.1));replace BK756:=aA.mk (blk_below (g:=gb756) (o:=.cells #[.slice Ao23 t745.length co23,.slice Ao26 t748.length co26] 29 (0,0)) wN hb);replace BK757:=aA.mk (blk_below (g:=gb757) (o:=.cells #[.int .i64 t751,.int .i64 t752,.int .i64 t753,.int .i64 t754,.int .i64 t755] 38 (0,0)) wM hb);replace BK765:=aA.mk (blk_below (g:=gb765) (o:=.cells #[.slice Ao33 t759.length co33,.slice Ao37 t762.length co37] 29 (0,0)) vu hb);replace HB:=aA.mk (aQ tu hb);(try clear hb);(try clear hk);(try clear ho0);(try clear ho1))|((with_reducible refine aZ (N:=7) rfl ?_);(try (refine gate_guard vH ?_;dsimp only));refine bB ?hg (N:=7) ?hd (cs:=#[.slice none 0 0,.slice none 0 0]) (t:=29) ?hr ?_;(case hd=>rfl);(case hg=>rfl);(case hr=>exact tJ);intro gb772 hg w39 hbox hb;replace HO747:=aA.mk (Kd.V_below (Kd.V_elderB tq gb772 (Nat.le_of_eq hg.symm)) hb);replace HO750:=aA.mk (Kd.V_below (Kd.V_elderB tp gb772 (Nat.le_of_eq hg.symm)) hb);replace HO761:=mR HO761;replace HO764:=aA.mk (Kd.N_below (Kd.N_elderB vp gb772 (Nat.le_of_eq hg.symm)) hb);replace HO768:=mR HO768;replace HO771:=aA.mk (Kd.N_below (Kd.N_elderB wT gb772 (Nat.le_of_eq hg.symm)) hb);have BK772:=aA.mk (hbox);have GW772:=aA.mk ((by rw [hg];exact (aM tu):w.heap.size ≤ gb772));have GE772:=aA.mk ((by rw [hg];exact (aM tu):w.heap.size ≤ gb772));replace HB:=aA.mk (aQ tu hb);have NB756_772:=nK BK756;have NB772_756:=nH BK756;replace BK756:=nC BK756;have NB757_772:=nK BK757;have NB772_757:=nH BK757;replace BK757:=nC BK757;have NB765_772:=nK BK765;have NB772_765:=nH BK765;replace BK765:=nC BK765;clear hb hbox hg;obtain ⟨Ao40,co40,eo40⟩:=Kd.R_slice HO768.out;subst eo40;have hnb41:=NB772_756.out;have hnc41:=NB756_772.out;have hnb42:=NB772_757.out;have hnc42:=NB757_772.out;have hnb43:=NB772_765.out;have hnc43:=NB765_772.out;obtain ⟨hcz44_0,hcz44_1⟩:=cs2 BK772.out;obtain ⟨hfz44_0,hfz44_1⟩:=fs2 BK772.out;obtain ⟨Ao45,co45,eo45⟩:=Kd.N_slice HO771.out;subst eo45))
       have n0_:aA (Kd.V (Kd.int .i64) 3 ((w39.setCell ⟨gb772,0,none⟩ (.slice Ao40 t766.length co40)).setCell ⟨gb772,1,none⟩ (.slice Ao45 t769.length co45)) w.heap.size (fun k_=>some k_ ≠ (.slice Ao33 t759.length co33:Value).ownBlock ∧ some k_ ≠ (.slice Ao37 t762.length co37:Value).ownBlock ∧ some k_ ≠ (.slice Ao40 t766.length co40:Value).ownBlock ∧ some k_ ≠ (.slice Ao45 t769.length co45:Value).ownBlock ∧ k_ ≠ gb756 ∧ k_ ≠ gb757 ∧ k_ ≠ gb765 ∧ k_ ≠ gb772) (.slice Ao23 t745.length co23) t745):=⟨by (with_reducible repeat (first|apply Kd.V_alloc|apply Kd.V_drewN|apply Kd.V_drew));exact Kd.V_mono (Kd.V_far (p:=⟨gb772,1,none⟩) (Kd.V_far (p:=⟨gb772,0,none⟩) (Kd.V_mono HO747.out (fun k_ hk=>(⟨hk,hk.2⟩:_ ∧ k_ ≠ gb772))) (fun _ hk=>hk.2) (.slice Ao40 t766.length co40)) (fun _ hk=>hk.2) (.slice Ao45 t769.length co45)) (fun _ hk=>⟨hk.1.1.1.1.1.1.2,⟨hk.1.1.1.1.1.2,⟨hk.1.1.1.2,⟨hk.1.1.2,⟨hk.1.1.1.1.1.1.1.1,⟨hk.1.1.1.1.1.1.1.2,⟨hk.1.1.1.1.2,hk.1.2⟩⟩⟩⟩⟩⟩⟩)⟩
       have n1_:aA (Kd.V k59 59 ((w39.setCell ⟨gb772,0,none⟩ (.slice Ao40 t766.length co40)).setCell ⟨gb772,1,none⟩ (.slice Ao45 t769.length co45)) w.heap.size (fun k_=>some k_ ≠ (.slice Ao33 t759.length co33:Value).ownBlock ∧ some k_ ≠ (.slice Ao37 t762.length co37:Value).ownBlock ∧ some k_ ≠ (.slice Ao40 t766.length co40:Value).ownBlock ∧ some k_ ≠ (.slice Ao45 t769.length co45:Value).ownBlock ∧ k_ ≠ gb756 ∧ k_ ≠ gb757 ∧ k_ ≠ gb765 ∧ k_ ≠ gb772) (.slice Ao26 t748.length co26) t748):=⟨by (with_reducible repeat (first|apply Kd.V_alloc|apply Kd.V_drewN|apply Kd.V_drew));exact Kd.V_mono (Kd.V_far (p:=⟨gb772,1,none⟩) (Kd.V_far (p:=⟨gb772,0,none⟩) (Kd.V_mono HO750.out (fun k_ hk=>(⟨hk,hk.2⟩:_ ∧ k_ ≠ gb772))) (fun _ hk=>hk.2) (.slice Ao40 t766.length co40)) (fun _ hk=>hk.2) (.slice Ao45 t769.length co45)) (fun _ hk=>⟨hk.1.1.1.1.1.1.2,⟨hk.1.1.1.1.1.2,⟨hk.1.1.1.2,⟨hk.1.1.2,⟨hk.1.1.1.1.1.1.1.1,⟨hk.1.1.1.1.1.1.1.2,⟨hk.1.1.1.1.2,hk.1.2⟩⟩⟩⟩⟩⟩⟩)⟩
       have n2_:aA (Kd.R (Kd.int .i64) 3 ((w39.setCell ⟨gb772,0,none⟩ (.slice Ao40 t766.length co40)).setCell ⟨gb772,1,none⟩ (.slice Ao45 t769.length co45)) w.heap.size (fun k_=>some k_ ≠ (.slice Ao40 t766.length co40:Value).ownBlock) (.slice Ao33 t759.length co33) t759):=⟨by (with_reducible repeat (first|apply Kd.bC|apply Kd.bD|apply Kd.bG));exact Kd.bF (Kd.bJ (p:=⟨gb772,1,none⟩) (Kd.bJ (p:=⟨gb772,0,none⟩) (Kd.R_types HO761.out BK772.out tb) (fun _ hk=>hk.2) (.slice Ao40 t766.length co40)) (fun _ hk=>hk.2) (.slice Ao45 t769.length co45)) (fun _ hk=>hk.1.2)⟩
       have n3_:aA (Kd.N k59 59 ((w39.setCell ⟨gb772,0,none⟩ (.slice Ao40 t766.length co40)).setCell ⟨gb772,1,none⟩ (.slice Ao45 t769.length co45)) w.heap.size (fun k_=>some k_ ≠ (.slice Ao33 t759.length co33:Value).ownBlock ∧ some k_ ≠ (.slice Ao40 t766.length co40:Value).ownBlock ∧ some k_ ≠ (.slice Ao45 t769.length co45:Value).ownBlock ∧ k_ ≠ gb756 ∧ k_ ≠ gb757 ∧ k_ ≠ gb765 ∧ k_ ≠ gb772) (.slice Ao37 t762.length co37) t762):=⟨by (with_reducible repeat (first|apply Kd.N_alloc|apply Kd.N_drewN|apply Kd.N_drew));exact Kd.N_mono (Kd.N_far (p:=⟨gb772,1,none⟩) (Kd.N_far (p:=⟨gb772,0,none⟩) (Kd.N_mono HO764.out (fun k_ hk=>(⟨hk,hk.2⟩:_ ∧ k_ ≠ gb772))) (fun _ hk=>hk.2) (.slice Ao40 t766.length co40)) (fun _ hk=>hk.2) (.slice Ao45 t769.length co45)) (fun _ hk=>⟨hk.1.1.1.1.1.1,⟨hk.1.1.1.2,⟨hk.1.1.2,⟨hk.1.1.1.1.1.2.1,⟨hk.1.1.1.1.1.2.2,⟨hk.1.1.1.1.2,hk.1.2⟩⟩⟩⟩⟩⟩)⟩
       have n4_:aA (Kd.R (Kd.int .i64) 3 ((w39.setCell ⟨gb772,0,none⟩ (.slice Ao40 t766.length co40)).setCell ⟨gb772,1,none⟩ (.slice Ao45 t769.length co45)) w.heap.size (fun k_=>some k_ ≠ (.slice Ao33 t759.length co33:Value).ownBlock) (.slice Ao40 t766.length co40) t766):=⟨by (with_reducible repeat (first|apply Kd.bC|apply Kd.bD|apply Kd.bG));exact Kd.bF (Kd.bJ (p:=⟨gb772,1,none⟩) (Kd.bJ (p:=⟨gb772,0,none⟩) (Kd.R_types HO768.out BK772.out tb) (fun _ hk=>hk.2) (.slice Ao40 t766.length co40)) (fun _ hk=>hk.2) (.slice Ao45 t769.length co45)) (fun _ hk=>hk.1.2)⟩
       have n5_:aA (Kd.N k59 59 ((w39.setCell ⟨gb772,0,none⟩ (.slice Ao40 t766.length co40)).setCell ⟨gb772,1,none⟩ (.slice Ao45 t769.length co45)) w.heap.size (fun k_=>some k_ ≠ (.slice Ao33 t759.length co33:Value).ownBlock ∧ some k_ ≠ (.slice Ao37 t762.length co37:Value).ownBlock ∧ some k_ ≠ (.slice Ao40 t766.length co40:Value).ownBlock ∧ k_ ≠ gb756 ∧ k_ ≠ gb757 ∧ k_ ≠ gb765 ∧ k_ ≠ gb772) (.slice Ao45 t769.length co45) t769):=⟨by (with_reducible repeat (first|apply Kd.N_alloc|apply Kd.N_drewN|apply Kd.N_drew));exact Kd.N_mono (Kd.N_far (p:=⟨gb772,1,none⟩) (Kd.N_far (p:=⟨gb772,0,none⟩) (Kd.N_mono HO771.out (fun k_ hk=>(⟨hk,hk.2⟩:_ ∧ k_ ≠ gb772))) (fun _ hk=>hk.2) (.slice Ao40 t766.length co40)) (fun _ hk=>hk.2) (.slice Ao45 t769.length co45)) (fun _ hk=>⟨hk.1.1.2.1,⟨hk.1.1.2.2.1,⟨hk.1.1.1,⟨hk.1.1.2.2.2.1,⟨hk.1.1.2.2.2.2.1,⟨hk.1.1.2.2.2.2.2,hk.1.2⟩⟩⟩⟩⟩⟩)⟩
       have n6_:aA (((w39.setCell ⟨gb772,0,none⟩ (.slice Ao40 t766.length co40)).setCell ⟨gb772,1,none⟩ (.slice Ao45 t769.length co45)).heap[gb756]? = some (.cells #[.slice Ao23 t745.length co23,.slice Ao26 t748.length co26] 29 (0,0))):=⟨by (with_reducible repeat (first|refine aG ?_ _|refine aH ?_|refine aE ?_ _));refine aV ?_ NB756_772.out _;(with_reducible repeat (first|refine aG ?_ _|refine aH ?_|refine aE ?_ _));refine aV ?_ NB756_772.out _;(with_reducible repeat (first|refine aG ?_ _|refine aH ?_|refine aE ?_ _));exact BK756.out⟩
       have n7_:aA (((w39.setCell ⟨gb772,0,none⟩ (.slice Ao40 t766.length co40)).setCell ⟨gb772,1,none⟩ (.slice Ao45 t769.length co45)).heap[gb757]? = some (.cells #[.int .i64 t751,.int .i64 t752,.int .i64 t753,.int .i64 t754,.int .i64 t755] 38 (0,0))):=⟨by (with_reducible repeat (first|refine aG ?_ _|refine aH ?_|refine aE ?_ _));refine aV ?_ NB757_772.out _;(with_reducible repeat (first|refine aG ?_ _|refine aH ?_|refine aE ?_ _));refine aV ?_ NB757_772.out _;(with_reducible repeat (first|refine aG ?_ _|refine aH ?_|refine aE ?_ _));exact BK757.out⟩
       have n8_:aA (((w39.setCell ⟨gb772,0,none⟩ (.slice Ao40 t766.length co40)).setCell ⟨gb772,1,none⟩ (.slice Ao45 t769.length co45)).heap[gb765]? = some (.cells #[.slice Ao33 t759.length co33,.slice Ao37 t762.length co37] 29 (0,0))):=⟨by (with_reducible repeat (first|refine aG ?_ _|refine aH ?_|refine aE ?_ _));refine aV ?_ NB765_772.out _;(with_reducible repeat (first|refine aG ?_ _|refine aH ?_|refine aE ?_ _));refine aV ?_ NB765_772.out _;(with_reducible repeat (first|refine aG ?_ _|refine aH ?_|refine aE ?_ _));exact BK765.out⟩
       have n9_:aA (((w39.setCell ⟨gb772,0,none⟩ (.slice Ao40 t766.length co40)).setCell ⟨gb772,1,none⟩ (.slice Ao45 t769.length co45)).heap[gb772]? = some (.cells #[.slice Ao40 t766.length co40,.slice Ao45 t769.length co45] 29 (0,0))):=⟨by (with_reducible repeat (first|refine aG ?_ _|refine aH ?_|refine aE ?_ _));refine aT (cs:=#[.slice Ao40 t766.length co40,.slice none 0 0]) ?_ 1 _ rfl;(with_reducible repeat (first|refine aG ?_ _|refine aH ?_|refine aE ?_ _));refine aT (cs:=#[.slice none 0 0,.slice none 0 0]) ?_ 0 _ rfl;(with_reducible repeat (first|refine aG ?_ _|refine aH ?_|refine aE ?_ _));exact BK772.out⟩
       have n10_:aA (Below w.heap.size w ((w39.setCell ⟨gb772,0,none⟩ (.slice Ao40 t766.length co40)).setCell ⟨gb772,1,none⟩ (.slice Ao45 t769.length co45))):=⟨AA⟩
       (try clear HO747)
       (try clear HO750)
       (try clear HO761)
       (try clear HO764)
       (try clear HO768)
       (try clear HO771)
       (try clear BK756)
       (try clear BK757)
       (try clear BK765)
       (try clear BK772)
       (try clear HB)
       generalize ((w39.setCell ⟨gb772,0,none⟩ (.slice Ao40 t766.length co40)).setCell ⟨gb772,1,none⟩ (.slice Ao45 t769.length co45)) = w46 at n0_ n1_ n2_ n3_ n4_ n5_ n6_ n7_ n8_ n9_ n10_ ⊢
       have HO747:=n0_
       have HO750:=n1_
       have HO761:=n2_
       have HO764:=n3_
       have HO768:=n4_
       have HO771:=n5_
       have BK756:=n6_
       have BK757:=n7_
       have BK765:=n8_
       have BK772:=n9_
       have HB:=n10_
       clear n0_ n1_ n2_ n3_ n4_ n5_ n6_ n7_ n8_ n9_ n10_
       replace HO747:=aA.mk (Kd.V_drew HO747.out)
       replace HO750:=aA.mk (Kd.V_drew HO750.out)
       replace HO761:=aA.mk (Kd.bG HO761.out)
       replace HO764:=aA.mk (Kd.N_drew HO764.out)
       replace HO768:=aA.mk (Kd.bG HO768.out)
       replace HO771:=aA.mk (Kd.N_drew HO771.out)
       replace BK756:=aA.mk (aH BK756.out)
       replace BK757:=aA.mk (aH BK757.out)
       replace BK765:=aA.mk (aH BK765.out)
       replace BK772:=aA.mk (aH BK772.out)
       replace HB:=aA.mk (aJ HB.out)
       refine start_ (n:=27) (S:=fun w'=>w'.cell? ⟨gb765,0,none⟩ = some (.slice Ao33 t759.length co33) ∧ w'.cell? ⟨gb765,1,none⟩ = some (.slice Ao37 t762.length co37) ∧ w'.cell? ⟨gb756,0,none⟩ = some (.slice Ao23 t745.length co23) ∧ w'.cell? ⟨gb756,1,none⟩ = some (.slice Ao26 t748.length co26) ∧ w'.cell? ⟨gb772,0,none⟩ = some (.slice Ao40 t766.length co40) ∧ w'.cell? ⟨gb772,1,none⟩ = some (.slice Ao45 t769.length co45)) (ds:=[]) #[F0,F0,F0,F0,F0,F0,F0,F0,F0,F0,F0,F0,F0,F0,F0,F0,F0,F0,F0,F0,F0,F0,F0,F0,F0,F0,F0] tH rfl rfl ⟨(aN BK765.out 0).trans rfl,(aN BK765.out 1).trans rfl,(aN BK756.out 0).trans rfl,(aN BK756.out 1).trans rfl,(aN BK772.out 0).trans rfl,(aN BK772.out 1).trans rfl⟩ (fun hHeld=>?_);refine with_tabW laws_FnPacked.tab7 laws_FnPacked.bits7 (fun HT_ HW_=>?_)
       generalize w46.drew = w47 at HO747 HO750 HO761 HO764 HO768 HO771 BK756 BK757 BK765 BK772 HB hHeld ⊢
       refine tu6 (i:=0) (N:=some 25) (bq1 1 27) ?_
       refine one_ (i:=1) (N:=some 26) (bq1 3 27) rfl rfl (one_of HT_.out tH) tb (fun K hK=>?_)
       refine goes_ Try.func17 tH rfl #[.agg #[.slice Ao33 t759.length co33,.slice Ao37 t762.length co37]] vH rfl rfl tA ?_
       with_reducible refine (impl_TreeOk.calls k _ _ t759 _ _ t762 true _ ?side1 ?side2 ?side3 ?side4 A9.out).mono ?_
       (case side1=>exact wQ)
       (case side2=>exact (Kd.R_reads' HO761.out).2.1)
       (case side3=>repeat (first|exact (Kd.N_reads' HO764.out).2.2|(with_reducible refine Kd.C_alloc ?_ _)|(with_reducible refine Kd.C_drewN ?_ _)|(with_reducible refine Kd.C_drew ?_)))
       (case side4=>exact (Kd.N_reads' HO764.out).2.1)
       rintro e w48 ⟨rfl,hb⟩
       refine ⟨_,rfl,?_⟩
       replace HO747:=aA.mk (Kd.V_below tq hb)
       replace HO750:=aA.mk (Kd.V_below tp hb)
       replace HO761:=mR HO761
       replace HO764:=mN HO764
       replace HO768:=mR HO768
       replace HO771:=mN HO771
       replace BK756:=nC BK756
       replace BK757:=nC BK757
       replace BK765:=nC BK765
       replace BK772:=nC BK772
       replace HB:=aA.mk (aQ tV hb)
       (try clear hb)
       (try clear hb2)
       (try clear hk)
       (try clear hi)
       refine hK.out _ _ ⟨(aN BK765.out 0).trans rfl,(aN BK765.out 1).trans rfl,(aN BK756.out 0).trans rfl,(aN BK756.out 1).trans rfl,(aN BK772.out 0).trans rfl,(aN BK772.out 1).trans rfl⟩ (fun hHeld=>?_)
       clear hK K
       refine norm_ (a':=?_) ?_ ?_
       rotate_left
       ·show Act.put _ (some 26) _ = _
        simp only [Act.put,lA,lB,lC,i64_w,i32_w]
        rfl
       refine pu (i:=2) (N:=some 27) (bq1 7 27) ?_
       refine tu6 (i:=3) (N:=some 28) (bq1 15 27) ?_
       refine tu6 (i:=5) (N:=some 30) (bq1 47 27) ?_
       refine one_ (i:=4) (N:=some 29) (bq1 63 27) rfl rfl (one_of HT_.out tH) tb (fun K hK=>?_)
       refine goes_ Try.func19 tH rfl #[.agg #[.slice Ao33 t759.length co33,.slice Ao37 t762.length co37]] vH rfl rfl tA ?_
       with_reducible refine (impl_TreeKeys.calls k _ _ t759 _ _ t762 t774 _ ?side1 ?side2 ?side3 ?side4 A11.out).mono ?_
       (case side1=>exact wQ)
       (case side2=>exact (Kd.R_reads' HO761.out).2.1)
       (case side3=>repeat (first|exact (Kd.N_reads' HO764.out).2.2|(with_reducible refine Kd.C_alloc ?_ _)|(with_reducible refine Kd.C_drewN ?_ _)|(with_reducible refine Kd.C_drew ?_)))
       (case side4=>exact (Kd.N_reads' HO764.out).2.1)
       rintro e w49 ⟨v775,rfl,ho0,hb⟩
       refine ⟨_,rfl,?_⟩
       replace HO747:=aA.mk (Kd.V_elder' tq (Kd.R_base ho0) hb)
       replace HO750:=aA.mk (Kd.V_elder' tp (Kd.R_base ho0) hb)
       replace HO761:=mR HO761
       replace HO764:=aA.mk (Kd.N_elder' vp (Kd.R_base ho0) hb)
       replace HO768:=mR HO768
       replace HO771:=aA.mk (Kd.N_elder' wT (Kd.R_base ho0) hb)
       have HO776:=aA.mk (Kd.R_lower (Kd.R_newB ho0 (g:=gb757) (o:=.cells #[.int .i64 t751,.int .i64 t752,.int .i64 t753,.int .i64 t754,.int .i64 t755] 38 (0,0)) wV) (aM tV))
       replace BK756:=nC BK756
       replace BK757:=nC BK757
       replace BK765:=nC BK765
       replace BK772:=nC BK772
       replace HB:=aA.mk (aQ tV hb)
       (try clear hb)
       (try clear hb2)
       (try clear hk)
       (try clear hi)
       (try clear ho0)
       refine hK.out _ _ ⟨(aN BK765.out 0).trans rfl,(aN BK765.out 1).trans rfl,(aN BK756.out 0).trans rfl,(aN BK756.out 1).trans rfl,(aN BK772.out 0).trans rfl,(aN BK772.out 1).trans rfl⟩ (fun hHeld=>?_)
       clear hK K
       refine norm_ (a':=?_) ?_ ?_
       rotate_left
       ·show Act.put _ (some 29) _ = _
        simp only [Act.put,lA,lB,lC,i64_w,i32_w]
        rfl
       refine one_ (i:=6) (N:=some 31) (bq1 127 27) rfl rfl (one_of HT_.out tH) tb (fun K hK=>?_)
       refine goes_ Try.func19 tH rfl #[.agg #[.slice Ao23 t745.length co23,.slice Ao26 t748.length co26]] vH rfl rfl tA ?_
       with_reducible refine (impl_TreeKeys.calls k _ _ t745 _ _ t748 t777 _ ?side1 ?side2 ?side3 ?side4 A12.out).mono ?_
       (case side1=>exact wP)
       (case side2=>exact (Kd.V_reads' HO747.out).2.1)
       (case side3=>repeat (first|exact (Kd.V_reads' HO750.out).2.2|(with_reducible refine Kd.C_alloc ?_ _)|(with_reducible refine Kd.C_drewN ?_ _)|(with_reducible refine Kd.C_drew ?_)))
       (case side4=>exact (Kd.V_reads' HO750.out).2.1)
       rintro e w50 ⟨v778,rfl,ho0,hb⟩
       refine ⟨_,rfl,?_⟩
       replace HO747:=aA.mk (Kd.V_elder' tq (Kd.R_base ho0) hb)
       replace HO750:=aA.mk (Kd.V_elder' tp (Kd.R_base ho0) hb)
       replace HO761:=mR HO761
       replace HO764:=aA.mk (Kd.N_elder' vp (Kd.R_base ho0) hb)
       replace HO768:=mR HO768
       replace HO771:=aA.mk (Kd.N_elder' wT (Kd.R_base ho0) hb)
       have HO779:=aA.mk (Kd.R_lower (Kd.R_newB (Kd.R_new' ho0 (Kd.R_lt wa)) (g:=gb757) (o:=.cells #[.int .i64 t751,.int .i64 t752,.int .i64 t753,.int .i64 t754,.int .i64 t755] 38 (0,0)) wV) (aM tV))
       replace HO776:=aA.mk (Kd.R_elder' wa (Kd.R_base ho0) hb)
       replace BK756:=nC BK756
       replace BK757:=nC BK757
       replace BK765:=nC BK765
       replace BK772:=nC BK772
       replace HB:=aA.mk (aQ tV hb)
       (try clear hb)
       (try clear hb2)
       (try clear hk)
       (try clear hi)
       (try clear ho0)
       obtain ⟨Ao51,co51,eo51⟩:=Kd.R_slice HO776.out
       (first|subst eo51|(injection eo51 with f1_ f2_ f3_;have f4_:=f1_.symm;have f5_:=f3_.symm;clear f1_ f2_ f3_;subst f4_;subst f5_))
       obtain ⟨Ao52,co52,eo52⟩:=Kd.R_slice HO779.out
       (first|subst eo52|(injection eo52 with f1_ f2_ f3_;have f4_:=f1_.symm;have f5_:=f3_.symm;clear f1_ f2_ f3_;subst f4_;subst f5_))
       refine hK.out _ _ ⟨(aN BK765.out 0).trans rfl,(aN BK765.out 1).trans rfl,(aN BK756.out 0).trans rfl,(aN BK756.out 1).trans rfl,(aN BK772.out 0).trans rfl,(aN BK772.out 1).trans rfl⟩ (fun hHeld=>?_)
       clear hK K
       refine norm_ (a':=?_) ?_ ?_
       rotate_left
       ·show Act.put _ (some 31) _ = _
        simp only [Act.put,lA,lB,lC,i64_w,i32_w]
        rfl
       refine one_ (i:=7) (N:=some 32) (bq1 255 27) rfl rfl (one_of HT_.out tH) tb (fun K hK=>?_)
       refine goes_ Try.func18 tH rfl #[.slice Ao51 t774.length co51,.slice Ao52 t777.length co52] vH rfl rfl tA ?_
       with_reducible refine (laws_sameKeys.calls k _ _ t774 _ _ t777 true _ ?side1 ?side2 ?side3 ?side4 A13.out).mono ?_
       (case side1=>repeat (first|exact (Kd.R_reads' HO776.out).2.2|(with_reducible refine Kd.C_alloc ?_ _)|(with_reducible refine Kd.C_drewN ?_ _)|(with_reducible refine Kd.C_drew ?_)))
       (case side2=>exact (Kd.R_reads' HO776.out).2.1)
       (case side3=>repeat (first|exact (Kd.R_reads' HO779.out).2.2|(with_reducible refine Kd.C_alloc ?_ _)|(with_reducible refine Kd.C_drewN ?_ _)|(with_reducible refine Kd.C_drew ?_)))
       (case side4=>exact (Kd.R_reads' HO779.out).2.1)
       rintro e w' ⟨rfl,⟨nd,rfl⟩⟩
       refine ⟨_,rfl,?_⟩
       refine hK.out _ _ ⟨(aN BK765.out 0).trans rfl,(aN BK765.out 1).trans rfl,(aN BK756.out 0).trans rfl,(aN BK756.out 1).trans rfl,(aN BK772.out 0).trans rfl,(aN BK772.out 1).trans rfl⟩ (fun hHeld=>?_)
       clear hK K
       refine norm_ (a':=?_) ?_ ?_
       rotate_left
       ·show Act.put _ (some 32) _ = _
        simp only [Act.put,lA,lB,lC,i64_w,i32_w]
        rfl
       refine pu (i:=8) (N:=some 33) (bq1 511 27) ?_
       refine pu (i:=9) (N:=some 34) (bq1 1023 27) ?_
       refine pu (i:=10) (N:=some 35) (bq1 2047 27) ?_
       refine pu (i:=12) (N:=some 37) (bq1 6143 27) ?_
       refine tu6 (i:=11) (N:=some 36) (bq1 8191 27) ?_
       refine tu6 (i:=13) (N:=some 38) (bq1 16383 27) ?_
       refine one_ (i:=14) (N:=some 39) (bq1 32767 27) rfl rfl (one_of HT_.out tH) tb (fun K hK=>?_)
       refine goes_ Try.func20 tH rfl #[.slice Ao33 t759.length co33,.slice Ao23 t745.length co23] vH rfl rfl tA ?_
       with_reducible refine (laws_sameInts.calls k _ _ t759 _ _ t745 true _ ?side1 ?side2 ?side3 ?side4 A15.out).mono ?_
       (case side1=>exact wQ)
       (case side2=>exact (Kd.R_reads' HO761.out).2.1)
       (case side3=>exact wP)
       (case side4=>exact (Kd.V_reads' HO747.out).2.1)
       rintro e w' ⟨rfl,⟨nd,rfl⟩⟩
       refine ⟨_,rfl,?_⟩
       refine hK.out _ _ ⟨(aN BK765.out 0).trans rfl,(aN BK765.out 1).trans rfl,(aN BK756.out 0).trans rfl,(aN BK756.out 1).trans rfl,(aN BK772.out 0).trans rfl,(aN BK772.out 1).trans rfl⟩ (fun hHeld=>?_)
       clear hK K
       refine norm_ (a':=?_) ?_ ?_
       rotate_left
       ·show Act.put _ (some 39) _ = _
        simp only [Act.put,lA,lB,lC,i64_w,i32_w]
        rfl
       refine pu (i:=15) (N:=some 40) (bq1 65535 27) ?_
       refine pu (i:=16) (N:=some 41) (bq1 131071 27) ?_
       refine tu6 (i:=17) (N:=some 42) (bq1 262143 27) ?_
       refine one_ (i:=18) (N:=some 43) (bq1 524287 27) rfl rfl (one_of HT_.out tH) tb (fun K hK=>?_)
       refine goes_ Try.func17 tH rfl #[.agg #[.slice Ao40 t766.length co40,.slice Ao45 t769.length co45]] vH rfl rfl tA ?_
       with_reducible refine (impl_TreeOk.calls k _ _ t766 _ _ t769 true _ ?side1 ?side2 ?side3 ?side4 A17.out).mono ?_
       (case side1=>repeat (first|exact (Kd.R_reads' HO768.out).2.2|(with_reducible refine Kd.C_alloc ?_ _)|(with_reducible refine Kd.C_drewN ?_ _)|(with_reducible refine Kd.C_drew ?_)))
       (case side2=>exact (Kd.R_reads' HO768.out).2.1)
       (case side3=>repeat (first|exact (Kd.N_reads' HO771.out).2.2|(with_reducible refine Kd.C_alloc ?_ _)|(with_reducible refine Kd.C_drewN ?_ _)|(with_reducible refine Kd.C_drew ?_)))
       (case side4=>exact (Kd.N_reads' HO771.out).2.1)
       rintro e w53 ⟨rfl,hb⟩
       refine ⟨_,rfl,?_⟩
       replace HO747:=aA.mk (Kd.V_below tq hb)
       replace HO750:=aA.mk (Kd.V_below tp hb)
       replace HO761:=mR HO761
       replace HO764:=mN HO764
       replace HO768:=mR HO768
       replace HO771:=mN HO771
       replace HO776:=mR HO776
       replace HO779:=mR HO779
       replace BK756:=nC BK756
       replace BK757:=nC BK757
       replace BK765:=nC BK765
       replace BK772:=nC BK772
       replace HB:=aA.mk (aQ tV hb)
       (try clear hb)
       (try clear hb2)
       (try clear hk)
       (try clear hi)
       refine hK.out _ _ ⟨(aN BK765.out 0).trans rfl,(aN BK765.out 1).trans rfl,(aN BK756.out 0).trans rfl,(aN BK756.out 1).trans rfl,(aN BK772.out 0).trans rfl,(aN BK772.out 1).trans rfl⟩ (fun hHeld=>?_)
       clear hK K
       refine norm_ (a':=?_) ?_ ?_
       rotate_left
       ·show Act.put _ (some 43) _ = _
        simp only [Act.put,lA,lB,lC,i64_w,i32_w]
        rfl
       refine pu (i:=19) (N:=some 44) (bq1 1048575 27) ?_
       refine pu (i:=20) (N:=some 45) (bq1 2097151 27) ?_
       refine tu6 (i:=21) (N:=some 46) (bq1 4194303 27) ?_
       refine one_ (i:=22) (N:=some 47) (bq1 8388607 27) rfl rfl (one_of HT_.out tH) tb (fun K hK=>?_)
       refine goes_ Try.func19 tH rfl #[.agg #[.slice Ao40 t766.length co40,.slice Ao45 t769.length co45]] vH rfl rfl tA ?_
       with_reducible refine (impl_TreeKeys.calls k _ _ t766 _ _ t769 t783 _ ?side1 ?side2 ?side3 ?side4 A19.out).mono ?_
       (case side1=>repeat (first|exact (Kd.R_reads' HO768.out).2.2|(with_reducible refine Kd.C_alloc ?_ _)|(with_reducible refine Kd.C_drewN ?_ _)|(with_reducible refine Kd.C_drew ?_)))
       (case side2=>exact (Kd.R_reads' HO768.out).2.1)
       (case side3=>repeat (first|exact (Kd.N_reads' HO771.out).2.2|(with_reducible refine Kd.C_alloc ?_ _)|(with_reducible refine Kd.C_drewN ?_ _)|(with_reducible refine Kd.C_drew ?_)))
       (case side4=>exact (Kd.N_reads' HO771.out).2.1)
       rintro e w54 ⟨v784,rfl,ho0,hb⟩
       refine ⟨_,rfl,?_⟩
       replace HO747:=aA.mk (Kd.V_elder' tq (Kd.R_base ho0) hb)
       replace HO750:=aA.mk (Kd.V_elder' tp (Kd.R_base ho0) hb)
       replace HO761:=mR HO761
       replace HO764:=aA.mk (Kd.N_elder' vp (Kd.R_base ho0) hb)
       replace HO768:=mR HO768
       replace HO771:=aA.mk (Kd.N_elder' wT (Kd.R_base ho0) hb)
       have HO785:=aA.mk (Kd.R_lower (Kd.R_newB (Kd.R_new' (Kd.R_new' ho0 (Kd.R_lt wa)) (Kd.R_lt (by (with_reducible repeat (first|apply Kd.bC|apply Kd.bD|apply Kd.bG));exact HO779.out))) (g:=gb757) (o:=.cells #[.int .i64 t751,.int .i64 t752,.int .i64 t753,.int .i64 t754,.int .i64 t755] 38 (0,0)) wV) (aM tV))
       replace HO776:=aA.mk (Kd.R_elder' wa (Kd.R_base ho0) hb)
       replace HO779:=aA.mk (Kd.R_elder' (by (with_reducible repeat (first|apply Kd.bC|apply Kd.bD|apply Kd.bG));exact HO779.out) (Kd.R_base ho0) hb)
       replace BK756:=nC BK756
       replace BK757:=nC BK757
       replace BK765:=nC BK765
       replace BK772:=nC BK772
       replace HB:=aA.mk (aQ tV hb)
       (try clear hb)
       (try clear hb2)
       (try clear hk)
       (try clear hi)
       (try clear ho0)
       obtain ⟨Ao55,co55,eo55⟩:=Kd.R_slice HO785.out
       (first|subst eo55|(injection eo55 with f1_ f2_ f3_;have f4_:=f1_.symm;have f5_:=f3_.symm;clear f1_ f2_ f3_;subst f4_;subst f5_))
       refine hK.out _ _ ⟨(aN BK765.out 0).trans rfl,(aN BK765.out 1).trans rfl,(aN BK756.out 0).trans rfl,(aN BK756.out 1).trans rfl,(aN BK772.out 0).trans rfl,(aN BK772.out 1).trans rfl⟩ (fun hHeld=>?_)
       clear hK K
       refine norm_ (a':=?_) ?_ ?_
       rotate_left
       ·show Act.put _ (some 47) _ = _
        simp only [Act.put,lA,lB,lC,i64_w,i32_w]
        rfl
       refine pu (i:=23) (N:=some 48) (bq1 16777215 27) ?_
       refine pu (i:=24) (N:=some 49) (bq1 33554431 27) ?_
       refine pu (i:=25) (N:=some 50) (bq1 67108863 27) ?_
       refine pu (i:=26) (N:=some 2) (bq1 134217727 27) ?_
       refine done_ (done_of HT_.out tH) ?_
       try go_wp2
       go_ret
       exact ⟨tC,AA⟩
      ·replace c18:=Bool.eq_false_iff.mpr c18
       subst c18
       rw [if_neg (show ¬ (false = true) by decide)] at H
       exact vM
     ·replace c16:=Bool.eq_false_iff.mpr c16
      subst c16
      rw [if_neg (show ¬ (false = true) by decide)] at H
      exact vM
    ·replace c14:=Bool.eq_false_iff.mpr c14
     subst c14
     rw [if_neg (show ¬ (false = true) by decide)] at H
     exact vM
   ·replace c10:=Bool.eq_false_iff.mpr c10
    subst c10
    rw [if_neg (show ¬ (false = true) by decide)] at H
    exact vM
/-- THE ONE PURE STATEMENT of laws_FnPacked: yours. -/
def laws_FnPacked.Pure:Prop:=∀ (l0:List Int),l0.length ≤ maxLen → l0.length * 1 ≤ 140737488351232 → (∀ x ∈ l0,(Lit.int .u8 x).wf = true) → ∃ k,laws_FnPacked.f k l0 = some true
end Go.Proofs.Ytamjbjkbineafaa.PFnPacked

namespace Go.Proofs.Ytamjbjkbineafaa.Core
open Go.RowKit Go.Proofs.YtamjbjkbineafaaW.PrintWords
theorem w64 {x:Int} (h0:-9223372036854775808 ≤ x) (h1:x ≤ 9223372036854775807):wrap64 x = x:=by unfold wrap64;omega
theorem w64s (n:Nat) (h:n ≤ 4611686018427387904):wrap64 ((n:Int) + 1) = ((n + 1:Nat):Int):=by unfold wrap64;omega
theorem evOf {α:Type} {g:Nat → Option α} {r:α} (h:∀ k,g k = some r):Ev g r:=⟨0,fun k _=>h k⟩
theorem evGet {α:Type} {g:Nat → Option α} {r:α} (h:Ev g r):∃ k,g k = some r:=by
 obtain ⟨K,h⟩:=h
 exact ⟨K,h K (Nat.le_refl _)⟩
theorem evSucc {α:Type} {g:Nat → Option α} {r:α} (h:∃ K d,∀ k,K ≤ k → g (k + d) = some r):Ev g r:=by
 obtain ⟨K,d,h⟩:=h
 refine ⟨K + d,fun k hk=>?_⟩
 obtain ⟨m,rfl⟩:∃ m,k = m + d:=⟨k - d,wY⟩
 exact h m tB
theorem evRange {σ ρ:Type} (n:Nat) (l:Nat → σ → Int → Option ρ) (Inv:Nat → σ → Prop) (M:Nat → σ → ρ)
  (step:∀ i s,i < n → Inv i s → (∃ s',Inv (i + 1) s' ∧ M (i + 1) s' = M i s ∧ ∃ K d,∀ k,K ≤ k → l (k + d) s (i:Int) = l k s' ((i + 1:Nat):Int)) ∨ (∃ K d,∀ k,K ≤ k → l (k + d) s (i:Int) = some (M i s)))
  (done:∀ s,Inv n s → ∃ K d,∀ k,K ≤ k → l (k + d) s (n:Int) = some (M n s)) :
  ∀ i s,i ≤ n → Inv i s → Ev (fun k=>l k s (i:Int)) (M i s):=by
 have key:∀ d i s,n - i = d → i ≤ n → Inv i s → Ev (fun k=>l k s (i:Int)) (M i s):=by
  intro d
  induction d with
  | zero =>
   intro i s hd hi hinv
   obtain rfl:i = n:=by omega
   exact evSucc (done s hinv)
  | succ d ih =>
   intro i s hd hi hinv
   rcases step i s tB hinv with ⟨s',hinv',hM,K,e,h⟩|h
   ·obtain ⟨K',h'⟩:=ih (i + 1) s' tB tB hinv'
    refine evSucc ⟨K + K',e,fun k hk'=>?_⟩
    show l (k + e) s i = _
    rw [h k tB,← hM]
    exact h' k tB
   ·exact evSucc h
 exact fun i s hi=>key _ i s rfl hi
theorem evRange0 {σ ρ:Type} (n:Nat) (l:Nat → σ → Int → Option ρ) (Inv:Nat → σ → Prop) (M:Nat → σ → ρ) (s:σ) (h0:Inv 0 s)
  (step:∀ i s,i < n → Inv i s → (∃ s',Inv (i + 1) s' ∧ M (i + 1) s' = M i s ∧ ∃ K d,∀ k,K ≤ k → l (k + d) s (i:Int) = l k s' ((i + 1:Nat):Int)) ∨ (∃ K d,∀ k,K ≤ k → l (k + d) s (i:Int) = some (M i s)))
  (done:∀ s,Inv n s → ∃ K d,∀ k,K ≤ k → l (k + d) s (n:Int) = some (M n s)) :
  Ev (fun k=>l k s 0) (M 0 s):=evRange n l Inv M step done 0 s (Nat.zero_le _) h0
theorem evRangeEx {σ ρ:Type} (n:Nat) (l:Nat → σ → Int → Option ρ) (Inv:Nat → σ → Prop) (Post:ρ → Prop)
  (step:∀ i s,i < n → Inv i s → (∃ s',Inv (i + 1) s' ∧ ∃ K d,∀ k,K ≤ k → l (k + d) s (i:Int) = l k s' ((i + 1:Nat):Int)) ∨ (∃ r,Post r ∧ ∃ K d,∀ k,K ≤ k → l (k + d) s (i:Int) = some r))
  (done:∀ s,Inv n s → ∃ r,Post r ∧ ∃ K d,∀ k,K ≤ k → l (k + d) s (n:Int) = some r) :
  ∀ i s,i ≤ n → Inv i s → ∃ r,Post r ∧ Ev (fun k=>l k s (i:Int)) r:=by
 have key:∀ d i s,n - i = d → i ≤ n → Inv i s → ∃ r,Post r ∧ Ev (fun k=>l k s (i:Int)) r:=by
  intro d
  induction d with
  | zero =>
   intro i s hd hi hinv
   obtain rfl:i = n:=by omega
   obtain ⟨r,hp,h⟩:=done s hinv
   exact ⟨r,hp,evSucc h⟩
  | succ d ih =>
   intro i s hd hi hinv
   rcases step i s tB hinv with ⟨s',hinv',K,e,h⟩|⟨r,hp,h⟩
   ·obtain ⟨r,hp,K',h'⟩:=ih (i + 1) s' tB tB hinv'
    refine ⟨r,hp,evSucc ⟨K + K',e,fun k hk'=>?_⟩⟩
    show l (k + e) s i = _
    rw [h k tB]
    exact h' k tB
   ·exact ⟨r,hp,evSucc h⟩
 exact fun i s hi=>key _ i s rfl hi
def allFrom (p:Nat → Bool) (n i:Nat):Bool:=(List.range' i (n - i)).all p
theorem allFrom_lt {p:Nat → Bool} {n i:Nat} (h:i < n):allFrom p n i = (p i && allFrom p n (i + 1)):=by
 unfold allFrom
 rw [show n - i = (n - (i + 1)) + 1 by omega,List.range'_succ,List.all_cons]
theorem allFrom_end (p:Nat → Bool) (n:Nat):allFrom p n n = true:=by simp [allFrom]
theorem allFrom_iff {p:Nat → Bool} {n i:Nat}:allFrom p n i = true ↔ ∀ j,i ≤ j → j < n → p j = true:=by
 simp only [allFrom,List.all_eq_true,List.mem_range'_1]
 constructor
 ·intro h j h1 h2;exact h j ⟨h1,wY⟩
 ·intro h j hj;exact h j hj.1 tB
theorem evAll (n:Nat) (l:Nat → Int → Option Bool) (p:Nat → Bool) (fin:Bool)
  (step:∀ i,i < n → ∃ K d,∀ k,K ≤ k → l (k + d) (i:Int) = if p i = true then l k ((i + 1:Nat):Int) else some false)
  (done:∃ K d,∀ k,K ≤ k → l (k + d) (n:Int) = some fin) (i:Nat) (hi:i ≤ n):Ev (fun k=>l k (i:Int)) (allFrom p n i && fin):=by
 refine evRange (σ:=Unit) n (fun k _ i=>l k i) (fun _ _=>True) (fun i _=>allFrom p n i && fin) ?_ ?_ i () hi trivial
 ·intro i _ hi _
  obtain ⟨K,d,h⟩:=step i hi
  cases hp:p i with
  | true=>exact .inl ⟨(),trivial,by simp [allFrom_lt hi,hp],K,d,fun k hk=>by simp only [h k hk,hp,if_true]⟩
  | false=>exact .inr ⟨K,d,fun k hk=>by simp only [h k hk,hp,allFrom_lt hi,Bool.false_and];rfl⟩
 ·intro _ _
  obtain ⟨K,d,h⟩:=done
  exact ⟨K,d,fun k hk=>by rw [h k hk,allFrom_end,Bool.true_and]⟩
def fill {β:Type} (c:Nat → β) (l:List β) (i:Nat):List β:=(List.range i).map c ++ l.drop i
theorem drop_getD {α:Type} (l:List α) (i:Nat) (z:α) (h:i < l.length):l.drop i = l.getD i z :: l.drop (i + 1):=by
 rw [List.drop_eq_getElem_cons h,List.getD_eq_getElem?_getD,List.getElem?_eq_getElem h];rfl
theorem take_getD {α:Type} (l:List α) (i:Nat) (z:α) (h:i < l.length):l.take (i + 1) = l.take i ++ [l.getD i z]:=by
 rw [List.take_succ_eq_append_getElem h,List.getD_eq_getElem?_getD,List.getElem?_eq_getElem h];rfl
theorem getD_mem {α:Type} (l:List α) (i:Nat) (z:α) (h:i < l.length):l.getD i z ∈ l:=by
 rw [List.getD_eq_getElem?_getD,List.getElem?_eq_getElem h];exact List.getElem_mem h
theorem rd_nat (l:List Int) (i:Nat):rd l (i:Int) = l.getD i 0:=by simp [rd]
theorem and255 (x:Int):Go.bits .and .i64 x 255 = x % 256:=by
 have e:(BitVec.ofInt IntKind.i64.bits x &&& BitVec.ofInt IntKind.i64.bits 255).toNat = (x % 256).toNat:=by
  rw [BitVec.toNat_and,BitVec.toNat_ofInt,BitVec.toNat_ofInt]
  have h2:((255:Int) % ((2 ^ IntKind.i64.bits:Nat):Int)).toNat = 2 ^ 8 - 1:=by decide
  rw [h2,Nat.and_two_pow_sub_one_eq_mod]
  have h3:((2 ^ IntKind.i64.bits:Nat):Int) = 18446744073709551616:=by decide
  rw [h3]
  omega
 unfold Go.bits
 simp only [e]
 rw [IntKind.wrap_i64]
 omega
theorem wf_u8 {x:Int} (h:(Lit.int .u8 x).wf = true):0 ≤ x ∧ x ≤ 255:=by
 simp only [Lit.wf,IntKind.min,IntKind.max,Bool.and_eq_true] at h
 simpa [IntKind.bits,IntKind.signed] using h
end Go.Proofs.Ytamjbjkbineafaa.Core
