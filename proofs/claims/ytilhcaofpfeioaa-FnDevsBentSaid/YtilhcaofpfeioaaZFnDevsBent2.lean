/- The law: the functions that it reaches, each with the proof that the machine's call comes to its answer, what they answer, and the law's row; each theorem says its conditions itself. -/
import Derived.Test.YtilhcaofpfeioaaZFnDevsBent1
namespace Go.Proofs.Ytilhcaofpfeioaa.Law
open Go.RowKit Go.Proofs.Ytilhcaofpfeioaa.PFnDevsBent Go.Proofs.Ytilhcaofpfeioaa.Core Go.Proofs.YtilhcaofpfeioaaW.PrintWords Go.Proofs.YtilhcaofpfeioaaW.PrintLast Go.Proofs.YtilhcaofpfeioaaW.PrintMore Go.Proofs.Ytilhcaofpfeioaa.Pure
set_option linter.unusedSimpArgs false
set_option linter.unusedVariables false
set_option maxHeartbeats 8000000 in
set_option maxRecDepth 100000 in
theorem walk_FallDev1 (A0_0:Option Addr) (c0_0:Nat) (l0_0:List (List (Int))) (A0_1:Option Addr) (c0_1:Nat) (l0_1:List (S50)) (a0_2:Int) (a0_3:Bool) (a1:Int) (w:World) (hf0_0:Kd.F (Kd.slice 5 (Kd.int .u8)) w (In 0 w.heap.size) A0_0 l0_0.length l0_0) (hc0_0:l0_0.length ≤ c0_0) (hf0_1:Kd.F k50 w (In 0 w.heap.size) A0_1 l0_1.length l0_1) (hc0_1:l0_1.length ≤ c0_1) (hok0:okByteSS l0_0) (hok1:okWrS l0_1) (hdo:devOkB l0_0 l0_1 a0_2 = false) :
  Calls Try.prog 32 #[.agg #[.slice A0_0 l0_0.length c0_0,.slice A0_1 l0_1.length c0_1,.int .i64 a0_2,.bool a0_3],.int .i64 a1] w fun e w'=>∃ v0_ v1_:Value,∃ m_:Nat,e = .returned (.agg #[v0_,v1_,.int .i64 a0_2,.bool a0_3]) ∧ w.heap.size ≤ m_ ∧ m_ ≤ w'.heap.size ∧ Kd.S (Kd.slice 5 (Kd.int .u8)) 37 w' w.heap.size (In w.heap.size m_) v0_ l0_0 ∧ Kd.S k50 50 w' w.heap.size (In m_ w'.heap.size) v1_ l0_1 ∧ Below w.heap.size w w':=by
 have hu25:=Try.underlying25
 have hu50:=Try.underlying50
 have HF0_0:=aA.mk hf0_0
 have HC0_0:=aA.mk hc0_0
 clear hf0_0 hc0_0
 have HF0_1:=aA.mk hf0_1
 have HC0_1:=aA.mk hc0_1
 clear hf0_1 hc0_1
 have HB:=aA.mk (Below.refl w.heap.size w)
 have HORD:=aA.mk (Nat.le_refl w.heap.size)
 have HT:=aA.mk (Nat.le_refl w.heap.size)
 have JC:=aA.mk (copyDevS_f hok0 hok1 a0_2 a0_3)
 obtain ⟨kd,hd0_⟩:=evGet (impl_DevOk_ev l0_0 l0_1 a0_2 a0_3 hok0 hok1)
 rw [hdo] at hd0_
 have JD:=aA.mk hd0_
 clear hd0_
 go_enter Try.func32,Try.ntmps32
 go_wp2_with (first|((with_reducible refine bC (N:=2) rfl ?_);refine bD ?hg (N:=2) ?hd (cs:=#[.slice A0_0 l0_0.length c0_0,.slice A0_1 l0_1.length c0_1,.int .i64 a0_2,.bool a0_3]) (t:=25) ?hr ?_;(case hd=>rfl);(case hg=>rfl);(case hr=>exact tE);intro gb1 hg_ w1 hbox hb;have hge_:w.heap.size ≤ gb1:=tk;have hlt_:gb1 + 1 ≤ w1.heap.size:=bJ hbox;replace HF0_0:=nF HF0_0;replace HF0_1:=nF HF0_1;replace HB:=aA.mk (aT HB.out hb);replace BK1:=aA.mk (hbox);replace HORD:=aA.mk (And.intro HORD.out (And.intro hge_ (Nat.le_succ gb1)));replace HT:=aA.mk (hlt_);clear hb hbox hg_ hge_ hlt_;have:=bs4 BK1.out)|((with_reducible refine bC (N:=4) rfl ?_);refine bD ?hg (N:=4) ?hd (cs:=#[.slice none 0 0,.slice none 0 0,.int .i64 0,.bool false]) (t:=25) ?hr ?_;(case hd=>rfl);(case hg=>rfl);(case hr=>exact tE);intro gb2 hg_ w2 hbox hb;have hge_:(gb1 + 1) ≤ gb2:=tk;have hlt_:gb2 + 1 ≤ w2.heap.size:=bJ hbox;replace HF0_0:=nF HF0_0;replace HF0_1:=nF HF0_1;replace BK1:=nB BK1;replace HB:=aA.mk (aT HB.out hb);replace BK2:=aA.mk (hbox);replace HORD:=aA.mk (And.intro HORD.out (And.intro hge_ (Nat.le_succ gb2)));replace HT:=aA.mk (hlt_);clear hb hbox hg_ hge_ hlt_;have:=bs4 BK1.out;have:=bs4 BK2.out)|((with_reducible refine aW (f:=58) rfl ?_);refine bK (some 9) rfl rfl Try.func58 tG rfl #[.agg #[.slice A0_0 l0_0.length c0_0,.slice A0_1 l0_1.length c0_1,.int .i64 a0_2,.bool a0_3]] rfl tC ?_;(with_reducible refine (impl_copyDevS.calls (In 0 w.heap.size) _ _ l0_0 (In 0 w.heap.size) _ _ l0_1 a0_2 a0_3 l0_0 l0_1 a0_2 a0_3 _ ?s1 ?s2 JC.out).mono ?_);(case s1=>exact wQ);(case s2=>exact wP);rintro e_ w3 ⟨v0_,v1_,mm3,rfl,hm1_,hm2_,ho0,ho1,hb⟩;refine ⟨_,rfl,?_⟩;obtain ⟨lo3,hi3,el_,eh_,ol_,oh_⟩:=Mem.times HT.out hb;rw [← el_] at hm1_;rw [← eh_] at hm2_;rw [← el_] at ho0;obtain ⟨A3_0,c3_0,ev_,hc0_,hf0_,hs0_⟩:=new_SI2 ho0;subst ev_;rw [← eh_] at ho1;(try rw [← el_] at ho1);obtain ⟨A3_1,c3_1,ev_,hc1_,hf1_,hs1_⟩:=new_SI2 ho1;subst ev_;replace HF0_0:=nF HF0_0;replace HF0_1:=nF HF0_1;replace BK1:=nB BK1;replace BK2:=nB BK2;replace HB:=aA.mk (aT HB.out hb);replace HF3_0:=aA.mk (hf0_);replace HC3_0:=aA.mk (hc0_);replace HS3_0:=aA.mk (hs0_);replace HF3_1:=aA.mk (hf1_);replace HC3_1:=aA.mk (hc1_);replace HS3_1:=aA.mk (hs1_);replace HORD:=aA.mk (And.intro HORD.out (And.intro ol_ (And.intro hm1_ hm2_)));replace HT:=aA.mk (Nat.le_of_eq eh_);clear hm1_ hm2_;clear ol_ oh_ el_ eh_ ho0 hf0_ hc0_ hs0_ ho1 hf1_ hc1_ hs1_;(try clear hb);have:=bs4 BK1.out;have:=bs4 BK2.out)|((with_reducible refine bC (N:=5) rfl ?_);refine bD ?hg (N:=5) ?hd (cs:=#[.slice none 0 0,.slice none 0 0,.int .i64 0,.bool false]) (t:=25) ?hr ?_;(case hd=>rfl);(case hg=>rfl);(case hr=>exact tE);intro gb4 hg_ w4 hbox hb;have hge_:hi3 ≤ gb4:=tk;have hlt_:gb4 + 1 ≤ w4.heap.size:=bJ hbox;replace HF0_0:=nF HF0_0;replace HF0_1:=nF HF0_1;replace HF3_0:=nF HF3_0;replace HS3_0:=nS HS3_0;replace HF3_1:=nF HF3_1;replace HS3_1:=nS HS3_1;replace BK1:=nB BK1;replace BK2:=nB BK2;replace HB:=aA.mk (aT HB.out hb);replace BK4:=aA.mk (hbox);replace HORD:=aA.mk (And.intro HORD.out (And.intro hge_ (Nat.le_succ gb4)));replace HT:=aA.mk (hlt_);clear hb hbox hg_ hge_ hlt_;have:=bs4 BK1.out;have:=bs4 BK2.out;have:=bs4 BK4.out)|((with_reducible refine bN (t:=25) (p:=5) rfl ?_);refine bL (t:=25) (p:=5) (v:=?vo_w5) (w1:=((((w4.setCell ⟨gb4,0,none⟩ (.slice A3_0 l0_0.length c3_0)).setCell ⟨gb4,1,none⟩ (.slice A3_1 l0_1.length c3_1)).setCell ⟨gb4,2,none⟩ (.int .i64 a0_2)).setCell ⟨gb4,3,none⟩ (.bool a0_3))) ?hg ?ho ?hn ?hr ?_;(case ho=>rfl);(case hg=>rfl);(case hn=>rfl);(case hr=>exact tE);intro w5 hw_;have hkp:Kept w4 w5 (fun k_=>k_ = gb4):=tj;have hge_:w.heap.size ≤ gb4:=tL;have hbn_:Below w.heap.size w w5:=tU;have hbk_:w5.heap[gb4]? = some (.cells #[.slice A3_0 l0_0.length c3_0,.slice A3_1 l0_1.length c3_1,.int .i64 a0_2,.bool a0_3] 25 (0,0)):=tF;have hsz_:(gb4 + 1) ≤ w5.heap.size:=Nat.le_trans HT.out hkp.1;replace HF0_0:=aA.mk (Kd.aU HF0_0.out hkp tA);replace HF0_1:=aA.mk (Kd.aU HF0_1.out hkp tA);replace HF3_0:=aA.mk (Kd.aU HF3_0.out hkp tA);replace HS3_0:=aA.mk (Kd.bP HS3_0.out hkp tA);replace HF3_1:=aA.mk (Kd.aU HF3_1.out hkp tA);replace HS3_1:=aA.mk (Kd.bP HS3_1.out hkp tA);replace BK1:=aA.mk (aY BK1.out hkp tB);replace BK2:=aA.mk (aY BK2.out hkp tB);replace HB:=aA.mk (hbn_);replace BK4:=aA.mk (hbk_);replace HT:=aA.mk (hsz_);clear hw_ hkp hge_ hbn_ hbk_ hsz_;have:=bs4 BK1.out;have:=bs4 BK2.out;have:=bs4 BK4.out)|((with_reducible refine aW (f:=20) rfl ?_);refine bK (some 11) rfl rfl Try.func20 tG rfl #[.agg #[.slice A0_0 l0_0.length c0_0,.slice A0_1 l0_1.length c0_1,.int .i64 a0_2,.bool a0_3]] rfl tC ?_;(with_reducible refine (impl_DevOk.calls kd _ _ l0_0 _ _ l0_1 a0_2 a0_3 false _ ?s1 ?s2 ?s3 ?s4 JD.out).mono ?_);(case s1=>exact wn);(case s2=>exact Ay);(case s3=>exact wm);(case s4=>exact Ax);rintro e_ w6 ⟨rfl,hb⟩;refine ⟨_,rfl,?_⟩;replace HF0_0:=nF HF0_0;replace HF0_1:=nF HF0_1;replace HF3_0:=nF HF3_0;replace HS3_0:=nS HS3_0;replace HF3_1:=nF HF3_1;replace HS3_1:=nS HS3_1;replace BK1:=nB BK1;replace BK2:=nB BK2;replace BK4:=nB BK4;replace HB:=aA.mk (aT HB.out hb);replace HT:=aA.mk (Nat.le_trans HT.out hb.size);(try clear hb);have:=bs4 BK1.out;have:=bs4 BK2.out;have:=bs4 BK4.out)|((with_reducible refine bN (t:=25) (p:=4) rfl ?_);refine bL (t:=25) (p:=4) (v:=?vo_w7) (w1:=((((w6.setCell ⟨gb2,0,none⟩ (.slice A3_0 l0_0.length c3_0)).setCell ⟨gb2,1,none⟩ (.slice A3_1 l0_1.length c3_1)).setCell ⟨gb2,2,none⟩ (.int .i64 a0_2)).setCell ⟨gb2,3,none⟩ (.bool a0_3))) ?hg ?ho ?hn ?hr ?_;(case ho=>rfl);(case hg=>rfl);(case hn=>rfl);(case hr=>exact tE);intro w7 hw_;have hkp:Kept w6 w7 (fun k_=>k_ = gb2):=vJ;have hge_:w.heap.size ≤ gb2:=tL;have hbn_:Below w.heap.size w w7:=tU;have hbk_:w7.heap[gb2]? = some (.cells #[.slice A3_0 l0_0.length c3_0,.slice A3_1 l0_1.length c3_1,.int .i64 a0_2,.bool a0_3] 25 (0,0)):=tW;have hsz_:(gb4 + 1) ≤ w7.heap.size:=Nat.le_trans HT.out hkp.1;replace HF0_0:=aA.mk (Kd.aU HF0_0.out hkp tA);replace HF0_1:=aA.mk (Kd.aU HF0_1.out hkp tA);replace HF3_0:=aA.mk (Kd.aU HF3_0.out hkp tA);replace HS3_0:=aA.mk (Kd.bP HS3_0.out hkp tA);replace HF3_1:=aA.mk (Kd.aU HF3_1.out hkp tA);replace HS3_1:=aA.mk (Kd.bP HS3_1.out hkp tA);replace BK1:=aA.mk (aY BK1.out hkp tB);replace BK4:=aA.mk (aY BK4.out hkp tB);replace HB:=aA.mk (hbn_);replace BK2:=aA.mk (hbk_);replace HT:=aA.mk (hsz_);clear hw_ hkp hge_ hbn_ hbk_ hsz_;have:=bs4 BK1.out;have:=bs4 BK2.out;have:=bs4 BK4.out))
 refine bodyPost_ret (fn:=Try.f32) (P:=Try.prog) (results_cell_row rfl _ _ gb2 25 #[.slice A3_0 l0_0.length c3_0,.slice A3_1 l0_1.length c3_1,.int .i64 a0_2,.bool a0_3] (0,0) _ rfl BK2.out Try.underlying25 rfl tG) rfl ?_
 first|exact ⟨_,_,mm3,rfl,tH,tH,Kd.bU (Kd.bZ HS3_0.out tH) tJ,Kd.bU (Kd.bZ HS3_1.out tH) tJ,HB.out⟩|exact ⟨_,_,rfl,mm3,tH,tH,Kd.bU (Kd.bZ HS3_0.out tH) tJ,Kd.bU (Kd.bZ HS3_1.out tH) tJ,HB.out⟩
set_option maxHeartbeats 8000000 in
set_option maxRecDepth 100000 in
theorem walk_FallDev2 (A0_0:Option Addr) (c0_0:Nat) (l0_0:List (List (Int))) (A0_1:Option Addr) (c0_1:Nat) (l0_1:List (S50)) (a0_2:Int) (a0_3:Bool) (a1:Int) (w:World) (hf0_0:Kd.F (Kd.slice 5 (Kd.int .u8)) w (In 0 w.heap.size) A0_0 l0_0.length l0_0) (hc0_0:l0_0.length ≤ c0_0) (hf0_1:Kd.F k50 w (In 0 w.heap.size) A0_1 l0_1.length l0_1) (hc0_1:l0_1.length ≤ c0_1) (hok0:okByteSS l0_0) (hok1:okWrS l0_1) (hdo:devOkB l0_0 l0_1 a0_2 = true) (hwi:decide (0 ≤ a1 ∧ a1 ≤ 1073741823) = true) :
  Calls Try.prog 32 #[.agg #[.slice A0_0 l0_0.length c0_0,.slice A0_1 l0_1.length c0_1,.int .i64 a0_2,.bool a0_3],.int .i64 a1] w fun e w'=>∃ v0_ v1_:Value,∃ m_:Nat,e = .returned (.agg #[v0_,v1_,.int .i64 (-1),.bool false]) ∧ w.heap.size ≤ m_ ∧ m_ ≤ w'.heap.size ∧ Kd.S (Kd.slice 5 (Kd.int .u8)) 37 w' w.heap.size (In w.heap.size m_) v0_ (fallSecs l0_0 l0_1 a1 l0_1.length) ∧ Kd.S k50 50 w' w.heap.size (In m_ w'.heap.size) v1_ ([]:List (S50)) ∧ Below w.heap.size w w':=by
 have hu25:=Try.underlying25
 have hu50:=Try.underlying50
 have HF0_0:=aA.mk hf0_0
 have HC0_0:=aA.mk hc0_0
 clear hf0_0 hc0_0
 have HF0_1:=aA.mk hf0_1
 have HC0_1:=aA.mk hc0_1
 clear hf0_1 hc0_1
 have HB:=aA.mk (Below.refl w.heap.size w)
 have HORD:=aA.mk (Nat.le_refl w.heap.size)
 have HT:=aA.mk (Nat.le_refl w.heap.size)
 have JC:=aA.mk (copyDevS_f hok0 hok1 a0_2 a0_3)
 obtain ⟨kd,hd0_⟩:=evGet (impl_DevOk_ev l0_0 l0_1 a0_2 a0_3 hok0 hok1)
 rw [hdo] at hd0_
 have JD:=aA.mk hd0_
 clear hd0_
 have JW:=aA.mk (show impl_within.f a1 0 1073741823 = some true from by rw [impl_within_f,hwi])
 go_enter Try.func32,Try.ntmps32
 go_wp2_with (first|((with_reducible refine bC (N:=2) rfl ?_);refine bD ?hg (N:=2) ?hd (cs:=#[.slice A0_0 l0_0.length c0_0,.slice A0_1 l0_1.length c0_1,.int .i64 a0_2,.bool a0_3]) (t:=25) ?hr ?_;(case hd=>rfl);(case hg=>rfl);(case hr=>exact tE);intro gb1 hg_ w1 hbox hb;have hge_:w.heap.size ≤ gb1:=tk;have hlt_:gb1 + 1 ≤ w1.heap.size:=bJ hbox;replace HF0_0:=nF HF0_0;replace HF0_1:=nF HF0_1;replace HB:=aA.mk (aT HB.out hb);replace BK1:=aA.mk (hbox);replace HORD:=aA.mk (And.intro HORD.out (And.intro hge_ (Nat.le_succ gb1)));replace HT:=aA.mk (hlt_);clear hb hbox hg_ hge_ hlt_;have:=bs4 BK1.out)|((with_reducible refine bC (N:=4) rfl ?_);refine bD ?hg (N:=4) ?hd (cs:=#[.slice none 0 0,.slice none 0 0,.int .i64 0,.bool false]) (t:=25) ?hr ?_;(case hd=>rfl);(case hg=>rfl);(case hr=>exact tE);intro gb2 hg_ w2 hbox hb;have hge_:(gb1 + 1) ≤ gb2:=tk;have hlt_:gb2 + 1 ≤ w2.heap.size:=bJ hbox;replace HF0_0:=nF HF0_0;replace HF0_1:=nF HF0_1;replace BK1:=nB BK1;replace HB:=aA.mk (aT HB.out hb);replace BK2:=aA.mk (hbox);replace HORD:=aA.mk (And.intro HORD.out (And.intro hge_ (Nat.le_succ gb2)));replace HT:=aA.mk (hlt_);clear hb hbox hg_ hge_ hlt_;have:=bs4 BK1.out;have:=bs4 BK2.out)|((with_reducible refine aW (f:=58) rfl ?_);refine bK (some 9) rfl rfl Try.func58 tG rfl #[.agg #[.slice A0_0 l0_0.length c0_0,.slice A0_1 l0_1.length c0_1,.int .i64 a0_2,.bool a0_3]] rfl tC ?_;(with_reducible refine (impl_copyDevS.calls (In 0 w.heap.size) _ _ l0_0 (In 0 w.heap.size) _ _ l0_1 a0_2 a0_3 l0_0 l0_1 a0_2 a0_3 _ ?s1 ?s2 JC.out).mono ?_);(case s1=>exact wQ);(case s2=>exact wP);rintro e_ w3 ⟨v0_,v1_,mm3,rfl,hm1_,hm2_,ho0,ho1,hb⟩;refine ⟨_,rfl,?_⟩;obtain ⟨lo3,hi3,el_,eh_,ol_,oh_⟩:=Mem.times HT.out hb;rw [← el_] at hm1_;rw [← eh_] at hm2_;rw [← el_] at ho0;obtain ⟨A3_0,c3_0,ev_,hc0_,hf0_,hs0_⟩:=new_SI2 ho0;subst ev_;rw [← eh_] at ho1;(try rw [← el_] at ho1);obtain ⟨A3_1,c3_1,ev_,hc1_,hf1_,hs1_⟩:=new_SI2 ho1;subst ev_;replace HF0_0:=nF HF0_0;replace HF0_1:=nF HF0_1;replace BK1:=nB BK1;replace BK2:=nB BK2;replace HB:=aA.mk (aT HB.out hb);replace HF3_0:=aA.mk (hf0_);replace HC3_0:=aA.mk (hc0_);replace HS3_0:=aA.mk (hs0_);replace HF3_1:=aA.mk (hf1_);replace HC3_1:=aA.mk (hc1_);replace HS3_1:=aA.mk (hs1_);replace HORD:=aA.mk (And.intro HORD.out (And.intro ol_ (And.intro hm1_ hm2_)));replace HT:=aA.mk (Nat.le_of_eq eh_);clear hm1_ hm2_;clear ol_ oh_ el_ eh_ ho0 hf0_ hc0_ hs0_ ho1 hf1_ hc1_ hs1_;(try clear hb);have:=bs4 BK1.out;have:=bs4 BK2.out)|((with_reducible refine bC (N:=5) rfl ?_);refine bD ?hg (N:=5) ?hd (cs:=#[.slice none 0 0,.slice none 0 0,.int .i64 0,.bool false]) (t:=25) ?hr ?_;(case hd=>rfl);(case hg=>rfl);(case hr=>exact tE);intro gb4 hg_ w4 hbox hb;have hge_:hi3 ≤ gb4:=tk;have hlt_:gb4 + 1 ≤ w4.heap.size:=bJ hbox;replace HF0_0:=nF HF0_0;replace HF0_1:=nF HF0_1;replace HF3_0:=nF HF3_0;replace HS3_0:=nS HS3_0;replace HF3_1:=nF HF3_1;replace HS3_1:=nS HS3_1;replace BK1:=nB BK1;replace BK2:=nB BK2;replace HB:=aA.mk (aT HB.out hb);replace BK4:=aA.mk (hbox);replace HORD:=aA.mk (And.intro HORD.out (And.intro hge_ (Nat.le_succ gb4)));replace HT:=aA.mk (hlt_);clear hb hbox hg_ hge_ hlt_;have:=bs4 BK1.out;have:=bs4 BK2.out;have:=bs4 BK4.out)|((with_reducible refine bN (t:=25) (p:=5) rfl ?_);refine bL (t:=25) (p:=5) (v:=?vo_w5) (w1:=((((w4.setCell ⟨gb4,0,none⟩ (.slice A3_0 l0_0.length c3_0)).setCell ⟨gb4,1,none⟩ (.slice A3_1 l0_1.length c3_1)).setCell ⟨gb4,2,none⟩ (.int .i64 a0_2)).setCell ⟨gb4,3,none⟩ (.bool a0_3))) ?hg ?ho ?hn ?hr ?_;(case ho=>rfl);(case hg=>rfl);(case hn=>rfl);(case hr=>exact tE);intro w5 hw_;have hkp:Kept w4 w5 (fun k_=>k_ = gb4):=tj;have hge_:w.heap.size ≤ gb4:=tL;have hbn_:Below w.heap.size w w5:=tU;have hbk_:w5.heap[gb4]? = some (.cells #[.slice A3_0 l0_0.length c3_0,.slice A3_1 l0_1.length c3_1,.int .i64 a0_2,.bool a0_3] 25 (0,0)):=tF;have hsz_:(gb4 + 1) ≤ w5.heap.size:=Nat.le_trans HT.out hkp.1;replace HF0_0:=aA.mk (Kd.aU HF0_0.out hkp tA);replace HF0_1:=aA.mk (Kd.aU HF0_1.out hkp tA);replace HF3_0:=aA.mk (Kd.aU HF3_0.out hkp tA);replace HS3_0:=aA.mk (Kd.bP HS3_0.out hkp tA);replace HF3_1:=aA.mk (Kd.aU HF3_1.out hkp tA);replace HS3_1:=aA.mk (Kd.bP HS3_1.out hkp tA);replace BK1:=aA.mk (aY BK1.out hkp tB);replace BK2:=aA.mk (aY BK2.out hkp tB);replace HB:=aA.mk (hbn_);replace BK4:=aA.mk (hbk_);replace HT:=aA.mk (hsz_);clear hw_ hkp hge_ hbn_ hbk_ hsz_;have:=bs4 BK1.out;have:=bs4 BK2.out;have:=bs4 BK4.out)|((with_reducible refine aW (f:=20) rfl ?_);refine bK (some 11) rfl rfl Try.func20 tG rfl #[.agg #[.slice A0_0 l0_0.length c0_0,.slice A0_1 l0_1.length c0_1,.int .i64 a0_2,.bool a0_3]] rfl tC ?_;(with_reducible refine (impl_DevOk.calls kd _ _ l0_0 _ _ l0_1 a0_2 a0_3 true _ ?s1 ?s2 ?s3 ?s4 JD.out).mono ?_);(case s1=>exact wn);(case s2=>exact Ay);(case s3=>exact wm);(case s4=>exact Ax);rintro e_ w6 ⟨rfl,hb⟩;refine ⟨_,rfl,?_⟩;replace HF0_0:=nF HF0_0;replace HF0_1:=nF HF0_1;replace HF3_0:=nF HF3_0;replace HS3_0:=nS HS3_0;replace HF3_1:=nF HF3_1;replace HS3_1:=nS HS3_1;replace BK1:=nB BK1;replace BK2:=nB BK2;replace BK4:=nB BK4;replace HB:=aA.mk (aT HB.out hb);replace HT:=aA.mk (Nat.le_trans HT.out hb.size);(try clear hb);have:=bs4 BK1.out;have:=bs4 BK2.out;have:=bs4 BK4.out)|((with_reducible refine aW (f:=44) rfl ?_);refine bK (some 15) rfl rfl Try.func44 tG rfl #[.int .i64 a1,.int .i64 0,.int .i64 1073741823] rfl tC ?_;(with_reducible refine (impl_within.calls a1 0 1073741823 true _ JW.out).mono ?_);rintro e_ w7 ⟨rfl,hd⟩;refine ⟨_,rfl,?_⟩;have hb:=hd.below;clear hd;replace HF0_0:=nF HF0_0;replace HF0_1:=nF HF0_1;replace HF3_0:=nF HF3_0;replace HS3_0:=nS HS3_0;replace HF3_1:=nF HF3_1;replace HS3_1:=nS HS3_1;replace BK1:=nB BK1;replace BK2:=nB BK2;replace BK4:=nB BK4;replace HB:=aA.mk (aT HB.out hb);replace HT:=aA.mk (Nat.le_trans HT.out hb.size);(try clear hb);have:=bs4 BK1.out;have:=bs4 BK2.out;have:=bs4 BK4.out))
 go_loopg [20] (l0_1.length) (fun kq  v8 w'=>∃ (i8:Nat) (x8:Int) (u8:Value),v8 = .int .i64 x8 ∧ aA (x8 = (i8:Int)) ∧ aA (i8 + kq = l0_1.length) ∧ aA ((gb4 + 1) ≤ w'.heap.size) ∧ aA (Kd.S (Kd.slice 5 (Kd.int .u8)) 37 w' w.heap.size (Up lo3 mm3 (gb4 + 1)) u8 (fallSecs l0_0 l0_1 a1 i8)) ∧ aA (Kd.F (Kd.slice 5 (Kd.int .u8)) w' (In 0 w.heap.size) A0_0 l0_0.length l0_0) ∧ aA (Kd.F k50 w' (In 0 w.heap.size) A0_1 l0_1.length l0_1) ∧ aA (Kd.F k50 w' (In mm3 hi3) A3_1 l0_1.length l0_1) ∧ aA (Kd.S k50 50 w' lo3 (In mm3 hi3) (.slice A3_1 l0_1.length c3_1) l0_1) ∧ aA (w'.heap[gb1]? = some (.cells #[.slice A0_0 l0_0.length c0_0,.slice A0_1 l0_1.length c0_1,.int .i64 a0_2,.bool a0_3] 25 (0,0))) ∧ aA (w'.heap[gb2]? = some (.cells #[.slice none 0 0,.slice none 0 0,.int .i64 0,.bool false] 25 (0,0))) ∧ aA (w'.heap[gb4]? = some (.cells #[u8,.slice A3_1 l0_1.length c3_1,.int .i64 a0_2,.bool a0_3] 25 (0,0))) ∧ aA (Below w.heap.size w w'))
 case atStart=>exact ⟨0,0,_,rfl,⟨rfl⟩,⟨Nat.zero_add _⟩,HT,⟨by rw [show fallSecs l0_0 l0_1 a1 0 = l0_0 from rfl];exact Kd.bU (Kd.bZ HS3_0.out tq) tR⟩,HF0_0,HF0_1,HF3_1,HS3_1,BK1,BK2,BK4,HB⟩
 clear HF0_0 HF0_1 HF3_1 HS3_1 BK1 BK2 BK4 HB HT HS3_0 HF3_0
 obtain ⟨i8,x8,u8,rfl,HI8,HK8,HT,HS8,HF0_0,HF0_1,HF3_1,HS3_1,BK1,BK2,BK4,HB⟩:=hrel
 obtain ⟨xs8,ex_⟩:∃ y_,y_ = fallSecs l0_0 l0_1 a1 i8:=⟨_,rfl⟩
 rw [← ex_] at HS8
 have HX8:=aA.mk ex_
 clear ex_
 obtain ⟨A8,c8,ev_⟩:=Kd.S_slice HS8.out
 subst ev_
 obtain ⟨hi8,e2_⟩:∃ n_,n_ = wr.heap.size:=⟨_,rfl⟩
 have ol_:(gb4 + 1) ≤ hi8:=(by rw [e2_];exact HT.out)
 have hs_:=Kd.bU (ok':=In2 lo3 mm3 (gb4 + 1) hi8) (Kd.S_bound HS8.out) vA
 have n0_:=aA.mk (And.intro HORD.out ol_)
 have n1_:=aA.mk (Nat.le_of_eq e2_)
 clear HS8 HORD HT
 have HORD:=n0_
 have HT:=n1_
 have HS8:=aA.mk hs_
 have HF8:=aA.mk (Kd.S_F hs_)
 have HC8:=aA.mk (Kd.S_reads' hs_).2.1
 clear n0_ n1_ hs_ ol_ e2_
 rcases gk with _|k1
 rotate_left
 ·have hp_:0 ≤ x8:=(by have:=HI8.out;omega)
  have hq_:x8 < (l0_1.length:Int):=(by have:=HI8.out;have:=HK8.out;omega)
  have hd_:decide (x8 < (l0_1.length:Int)) = true:=decide_eq_true hq_
  have:=bs4 BK1.out
  have:=bs4 BK2.out
  have:=bs4 BK4.out
  obtain ⟨ji8,hji_⟩:∃ j_:Int,shr .i64 a1 x8 = j_:=⟨_,rfl⟩
  have hji1_:(a1 / 2 ^ min x8.toNat 64) = ji8:=hji_
  have hji2_:x8 ≤ 64 → (a1 / 2 ^ x8.toNat) = ji8:=shr_small hji_
  have hx0_:=eq_true hp_
  have HJ8:=aA.mk hji_
  rcases (show (x8 < 30 ∧ Go.bits .and .i64 ji8 1 = 1) ∨ (x8 < 30 ∧ ¬ Go.bits .and .i64 ji8 1 = 1) ∨ ¬ x8 < 30 from by by_cases a_:x8 < 30 <;> by_cases b_:Go.bits .and .i64 ji8 1 = 1 <;> simp [a_,b_]) with ⟨a_,b_⟩|⟨a_,b_⟩|a_
  ·have WA_:=aA.mk a_
   have WB_:=aA.mk b_
   have c28_:decide (x8 < 30) = true:=decide_eq_true a_
   have c31_:((Go.bits .and .i64 ji8 1) == 1) = true:=beq_iff_eq.mpr b_
   have c32_:((Go.bits .and .i64 ji8 1) != 1) = false:=bne_eq_false_iff_eq.mpr b_
   clear a_ b_
   obtain ⟨ad9,Ae9,ce9,ee9,hx9_0,hx9_1,hl9,hf9⟩:=F_wr HF3_1.out x8 hp_ hq_
   cases ee9
   have HF9:=aA.mk hf9
   have HC9:=aA.mk hl9
   clear hf9 hl9
   go_wp2_with (first|((with_reducible refine bC (N:=7) rfl ?_);refine bD ?hg (N:=7) ?hd (cs:=#[.int .i64 0,.slice none 0 0]) (t:=50) ?hr ?_;(case hd=>rfl);(case hg=>rfl);(case hr=>exact tE);intro gb10 hg_ w10 hbox hb;have hge_:hi8 ≤ gb10:=tk;have hlt_:gb10 + 1 ≤ w10.heap.size:=bJ hbox;replace HF0_0:=nF HF0_0;replace HF0_1:=nF HF0_1;replace HF3_1:=nF HF3_1;replace HS3_1:=nS HS3_1;replace HF8:=nF HF8;replace HS8:=nS HS8;replace HF9:=nF HF9;replace BK1:=nB BK1;replace BK2:=nB BK2;replace BK4:=nB BK4;replace HB:=aA.mk (aT HB.out hb);replace BK10:=aA.mk (hbox);replace HORD:=aA.mk (And.intro HORD.out (And.intro hge_ (Nat.le_succ gb10)));replace HT:=aA.mk (hlt_);clear hb hbox hg_ hge_ hlt_;have:=bs4 BK1.out;have:=bs4 BK2.out;have:=bs4 BK4.out;have:=bs2 BK10.out)|((with_reducible refine bN (t:=50) (p:=7) rfl ?_);refine bL (t:=50) (p:=7) (v:=?vo_w11) (w1:=((w10.setCell ⟨gb10,0,none⟩ (.int .i64 ((rdW l0_1 x8).f0))).setCell ⟨gb10,1,none⟩ (.slice Ae9 ((rdW l0_1 x8).f1).length ce9))) ?hg ?ho ?hn ?hr ?_;(case ho=>rfl);(case hg=>rfl);(case hn=>rfl);(case hr=>exact tE);intro w11 hw_;have hkp:Kept w10 w11 (fun k_=>k_ = gb10):=As;have hge_:w.heap.size ≤ gb10:=tL;have hbn_:Below w.heap.size w w11:=AC;have hbk_:w11.heap[gb10]? = some (.cells #[.int .i64 ((rdW l0_1 x8).f0),.slice Ae9 ((rdW l0_1 x8).f1).length ce9] 50 (0,0)):=wy;have hsz_:(gb10 + 1) ≤ w11.heap.size:=Nat.le_trans HT.out hkp.1;replace HF0_0:=aA.mk (Kd.aU HF0_0.out hkp tA);replace HF0_1:=aA.mk (Kd.aU HF0_1.out hkp tA);replace HF3_1:=aA.mk (Kd.aU HF3_1.out hkp tA);replace HS3_1:=aA.mk (Kd.bP HS3_1.out hkp tA);replace HF8:=aA.mk (Kd.aU HF8.out hkp tA);replace HS8:=aA.mk (Kd.bP HS8.out hkp tA);replace HF9:=aA.mk (Kd.aU HF9.out hkp tA);replace BK1:=aA.mk (aY BK1.out hkp tB);replace BK2:=aA.mk (aY BK2.out hkp tB);replace BK4:=aA.mk (aY BK4.out hkp tB);replace HB:=aA.mk (hbn_);replace BK10:=aA.mk (hbk_);replace HT:=aA.mk (hsz_);clear hw_ hkp hge_ hbn_ hbk_ hsz_;have:=bs4 BK1.out;have:=bs4 BK2.out;have:=bs4 BK4.out;have:=bs2 BK10.out))
   replace HF0_0:=aA.mk (Kd.F_drew HF0_0.out)
   replace HF0_1:=aA.mk (Kd.F_drew HF0_1.out)
   replace HF3_1:=aA.mk (Kd.F_drew HF3_1.out)
   replace HS3_1:=aA.mk (Kd.S_drew HS3_1.out)
   replace HF8:=aA.mk (Kd.F_drew HF8.out)
   replace HS8:=aA.mk (Kd.S_drew HS8.out)
   replace HF9:=aA.mk (Kd.F_drew HF9.out)
   replace BK1:=aA.mk (aN BK1.out)
   replace BK2:=aA.mk (aN BK2.out)
   replace BK4:=aA.mk (aN BK4.out)
   replace BK10:=aA.mk (aN BK10.out)
   replace HB:=aA.mk (aH HB.out)
   replace HT:=aA.mk (show _ ≤ w11.drew.heap.size from HT.out)
   refine start_ (n:=10) (S:=fun w'=>w'.cell? ⟨gb4,0,none⟩ = some (.slice A8 xs8.length c8) ∧ w'.cell? ⟨gb4,1,none⟩ = some (.slice (some ad9) l0_1.length c3_1) ∧ w'.cell? ⟨gb4,2,none⟩ = some (.int .i64 a0_2) ∧ w'.cell? ⟨gb4,3,none⟩ = some (.bool a0_3) ∧ w'.cell? ⟨gb10,0,none⟩ = some (.int .i64 ((rdW l0_1 x8).f0)) ∧ w'.cell? ⟨gb10,1,none⟩ = some (.slice Ae9 ((rdW l0_1 x8).f1).length ce9)) (ds:=[9]) #[F0,F0,F0,F0,F0,F0,F0,F0,F0,F0] tG rfl rfl ⟨(aD BK4.out 0).trans rfl,(aD BK4.out 1).trans rfl,(aD BK4.out 2).trans rfl,(aD BK4.out 3).trans rfl,(aD BK10.out 0).trans rfl,(aD BK10.out 1).trans rfl⟩ (fun hHeld=>?_)
   generalize w11.drew = w12 at HF0_0 HF0_1 HF3_1 HS3_1 HF8 HS8 HF9 BK1 BK2 BK4 BK10 HB HT hHeld ⊢
   refine bT (i:=0) (N:=some 34) (v:=?_) (a':=?_) #[T1,F0,F0,F0,F0,F0,F0,F0,F0,F0] rfl rfl tG (fun _ _ _ h=>h) (Or.inl ⟨vr,?_⟩) ?_ ?_
   rotate_left
   ·intro w'
    go_simp
    with_reducible rfl
   rotate_left
   ·simp only [Act.put,lA,lB,lC,bE,bG]
    rfl
   refine take_ (i:=1) (N:=some 35) (v:=?_) (a':=?_) #[T1,T1,F0,F0,F0,F0,F0,F0,F0,F0] rfl rfl tG (fun _ _ _ h=>h) (Or.inl ⟨vr,?_⟩) hHeld ?_ ?_
   rotate_left
   ·rintro w' ⟨s0,s1,s2,s3,s4,s5⟩
    go_simp
    with_reducible rfl
   rotate_left
   ·simp only [Act.put,lA,lB,lC,bE,bG]
    rfl
   refine bT (i:=2) (N:=some 36) (v:=?_) (a':=?_) #[T1,T1,T1,F0,F0,F0,F0,F0,F0,F0] rfl rfl tG (fun _ _ _ h=>h) (Or.inl ⟨vr,?_⟩) ?_ ?_
   rotate_left
   ·intro w'
    go_simp
    with_reducible rfl
   rotate_left
   ·simp only [Act.put,lA,lB,lC,bE,bG]
    rfl
   refine take_ (i:=3) (N:=some 37) (v:=?_) (a':=?_) #[T1,T1,T1,T1,F0,F0,F0,F0,F0,F0] rfl rfl tG (fun _ _ _ h=>h) (Or.inl ⟨vr,?_⟩) hHeld ?_ ?_
   rotate_left
   ·rintro w' ⟨s0,s1,s2,s3,s4,s5⟩
    go_simp
    with_reducible rfl
   rotate_left
   ·simp only [Act.put,lA,lB,lC,bE,bG]
    rfl
   refine bT (i:=4) (N:=some 38) (v:=?_) (a':=?_) #[T1,T1,T1,T1,T1,F0,F0,F0,F0,F0] rfl rfl tG (fun _ _ _ h=>h) (Or.inl ⟨vr,?_⟩) ?_ ?_
   rotate_left
   ·intro w'
    go_simp
    with_reducible rfl
   rotate_left
   ·simp only [Act.put,lA,lB,lC,bE,bG]
    rfl
   refine take_ (i:=5) (N:=some 39) (v:=?_) (a':=?_) #[T1,T1,T1,T1,T1,T1,F0,F0,F0,F0] rfl rfl tG (fun _ _ _ h=>h) (Or.inl ⟨vr,?_⟩) hHeld ?_ ?_
   rotate_left
   ·rintro w' ⟨s0,s1,s2,s3,s4,s5⟩
    go_simp
    with_reducible rfl
   rotate_left
   ·simp only [Act.put,lA,lB,lC,bE,bG]
    rfl
   refine one_ (i:=6) (N:=some 40) #[T1,T1,T1,T1,T1,T1,T1,F0,F0,F0] rfl rfl tG tf (fun K hK=>?_)
   refine Kd.N_lit_step (Kd.slice 5 (Kd.int .u8)) _ 37 ?hg (N':=40) ?hd (xs:=([(rdW l0_1 x8).f1]:List (List (Int)))) (inner:=[.slice Ae9 ((rdW l0_1 x8).f1).length ce9]) (ok:=(fun k_=>(In mm3 hi3) k_ ∨ (gb10 + 1) ≤ k_)) (okp:=(In mm3 hi3)) ?hr ?hp (fun _ hk=>.inl hk) (.inr HT.out) (Below.refl _ _) (Nat.le_refl _) vN ?_
   (case hd=>rfl)
   (case hg=>rfl)
   (case hr=>exact tE)
   (case hp=>exact (Reps.one (Kd.FK_slice_mk HC9.out HF9.out) (Reps.none _ _)))
   intro vl13 w13 ho_ hb hg_ hat_
   obtain ⟨A13,c13,ev_⟩:=Kd.cB ho_
   subst ev_
   replace HF0_0:=nF HF0_0
   replace HF0_1:=nF HF0_1
   replace HF3_1:=nF HF3_1
   replace HS3_1:=nS HS3_1
   replace HF8:=nF HF8
   replace HS8:=nS HS8
   replace HF9:=nF HF9
   replace BK1:=nB BK1
   replace BK2:=nB BK2
   replace BK4:=nB BK4
   replace BK10:=nB BK10
   replace HB:=aA.mk (aT HB.out hb)
   replace HT:=aA.mk (Nat.le_trans HT.out hb.size)
   replace HF13:=aA.mk (Kd.N_F ho_)
   replace HC13:=aA.mk ((Kd.N_reads' ho_).2.1)
   clear hb ho_ hg_ hat_
   refine hK.out _ _ ⟨(aD BK4.out 0).trans rfl,(aD BK4.out 1).trans rfl,(aD BK4.out 2).trans rfl,(aD BK4.out 3).trans rfl,(aD BK10.out 0).trans rfl,(aD BK10.out 1).trans rfl⟩ (fun hHeld=>?_)
   clear hK K
   refine norm_ (a':=?_) ?_ ?_
   rotate_left
   ·show Act.put _ (some 40) _ = _
    simp only [Act.put,lA,lB,lC,bE,bG]
    rfl
   refine one_ (i:=7) (N:=some 41) #[T1,T1,T1,T1,T1,T1,T1,T1,F0,F0] rfl rfl tG tf (fun K hK=>?_)
   obtain ⟨kj15,hj_⟩:=joined1 ((rdW l0_1 x8).f1) (by exact getW_len hok1 _)
   have J15:=aA.mk hj_
   clear hj_
   refine goes_ Try.func55 tG rfl #[.slice A13 (([(rdW l0_1 x8).f1]:List (List (Int)))).length c13] wN rfl rfl tC ?_
   (with_reducible refine (impl_joined.calls kj15 _ _ (([(rdW l0_1 x8).f1]:List (List (Int)))) ((rdW l0_1 x8).f1) _ ?s1 ?s2 J15.out).mono ?_)
   (case s1=>exact (Kd.bR HF13.out))
   (case s2=>exact HC13.out)
   rintro e_ w14 ⟨v0_,rfl,ho0,hb⟩
   refine ⟨_,rfl,?_⟩
   obtain ⟨lo14,hi14,el_,eh_,ol_,oh_⟩:=Mem.times HT.out hb
   (try rw [← el_] at ho0)
   obtain ⟨A14_0,c14_0,ev_,hc0_,hf0_,hs0_⟩:=Mem.new_R ho0 eh_
   subst ev_
   replace HF0_0:=nF HF0_0
   replace HF0_1:=nF HF0_1
   replace HF3_1:=nF HF3_1
   replace HS3_1:=nS HS3_1
   replace HF8:=nF HF8
   replace HS8:=nS HS8
   replace HF9:=nF HF9
   replace HF13:=nF HF13
   replace BK1:=nB BK1
   replace BK2:=nB BK2
   replace BK4:=nB BK4
   replace BK10:=nB BK10
   replace HB:=aA.mk (aT HB.out hb)
   replace HF14_0:=aA.mk (hf0_)
   replace HC14_0:=aA.mk (hc0_)
   replace HS14_0:=aA.mk (hs0_)
   replace HORD:=aA.mk (And.intro HORD.out (And.intro ol_ oh_))
   replace HT:=aA.mk (Nat.le_of_eq eh_)
   clear ol_ oh_ el_ eh_ ho0 hf0_ hc0_ hs0_
   (try clear hb)
   refine hK.out _ _ ⟨(aD BK4.out 0).trans rfl,(aD BK4.out 1).trans rfl,(aD BK4.out 2).trans rfl,(aD BK4.out 3).trans rfl,(aD BK10.out 0).trans rfl,(aD BK10.out 1).trans rfl⟩ (fun hHeld=>?_)
   clear hK K
   refine norm_ (a':=?_) ?_ ?_
   rotate_left
   ·show Act.put _ (some 41) _ = _
    simp only [Act.put,lA,lB,lC,bE,bG]
    rfl
   have pI16:0 ≤ ((rdW l0_1 x8).f0):=(devOk_at hdo HI8.out (by have:=HK8.out;omega)).1
   have qI16:((rdW l0_1 x8).f0) < ((xs8).length:Int):=(by have h_:=(devOk_at hdo HI8.out (by have:=HK8.out;omega)).2;rw [HX8.out,fallSecs_length];exact h_)
   obtain ⟨go16,co16,eo_,gb_,gl_,GG_⟩:=Kd.S_form HS8.out tZ
   injection eo_ with ea_ en_ ec_
   subst ea_
   subst ec_
   clear en_ GG_ gl_
   have GO16:=aA.mk ((Kd.S_R HS8.out).1 go16 rfl)
   have GB16:=aA.mk gb_
   clear gb_
   obtain ⟨ok_,ce_,hcl_,hM_,hcc_,hfr_,_,_⟩:=Kd.S_elem HS8.out [] ((rdW l0_1 x8).f0) pI16 qI16
   obtain ⟨ua_,rfl,_⟩:=hM_
   have hx16:=hcc_ 0 _ rfl
   have hf16:=hfr_ 0
   (try simp only [show (Kd.slice 5 (Kd.int .u8)).sz = 1 from rfl,Nat.mul_one,Nat.add_zero] at hx16)
   (try simp only [show (Kd.slice 5 (Kd.int .u8)).sz = 1 from rfl,Nat.mul_one,Nat.add_zero] at hf16)
   clear hcl_ hcc_ hfr_
   have PI16:=aA.mk pI16
   have QI16:=aA.mk qI16
   replace pI16:=eq_true pI16
   replace qI16:=eq_true qI16
   refine bT (i:=8) (N:=some 42) (v:=?_) (a':=?_) #[T1,T1,T1,T1,T1,T1,T1,T1,T1,F0] rfl rfl tG (fun _ _ _ h=>h) (Or.inl ⟨vr,?_⟩) ?_ ?_
   rotate_left
   ·intro w'
    go_simp
    with_reducible rfl
   rotate_left
   ·simp only [Act.put,lA,lB,lC,bE,bG]
    rfl
   refine last_ (i:=9) (N:=none) #[T1,T1,T1,T1,T1,T1,T1,T1,T1,T1] rfl rfl tG tf (fun K hK=>?_)
   obtain ⟨ok_,ce_,hcl_,hM_,hcc_,hfr_,hoki_,hH_⟩:=Kd.S_elem (Kd.bU (ok':=fun k_=>(Up lo3 mm3 (gb4 + 1)) k_ ∧ ¬ (In lo14 hi14) k_) (Kd.bZ HS8.out tq) (fun k_ hk_=>⟨vK,fun h2_=>by have o_:=HORD.out;have t_:=HT.out;(try simp only [In2,Up,In,Ex,Exb] at hk_ h2_);omega⟩):Kd.S (Kd.slice 5 (Kd.int .u8)) 37 w14 w.heap.size _ (.slice (some ⟨go16,0,none⟩) xs8.length c8) xs8) [] ((rdW l0_1 x8).f0) PI16.out QI16.out
   obtain ⟨ua_,rfl,_⟩:=hM_
   have hp_:=(Kd.S_seg hH_ PI16.out QI16.out (seg:=[.slice A14_0 ((rdW l0_1 x8).f1).length c14_0]) (j:=0) (okp:=(In lo14 hi14)) (show 0 + 1 ≤ 1 by decide) (x':=((rdW l0_1 x8).f1)) (Kd.M_row (Kd.R_lower HS14_0.out tq)) (fun k_ hk_=>.inr hk_) (fun k_ hk_=>⟨vK,by have g_:=GO16.out;have o_:=HORD.out;have t_:=HT.out;(try simp only [In2,Up,In,Ex,Exb] at hk_ g_);omega⟩)).1
   (try simp only [show (Kd.slice 5 (Kd.int .u8)).sz = 1 from rfl,Nat.mul_one,Nat.add_zero] at hp_)
   have HP_:=aA.mk (show Kd.S (Kd.slice 5 (Kd.int .u8)) 37 (w14.setCell ⟨go16,((rdW l0_1 x8).f0).toNat,none⟩ (.slice A14_0 ((rdW l0_1 x8).f1).length c14_0)) w.heap.size (Up lo3 mm3 (gb4 + 1)) (.slice (some ⟨go16,0,none⟩) xs8.length c8) (xs8.set ((rdW l0_1 x8).f0).toNat ((rdW l0_1 x8).f1)) from hp_)
   clear hp_ hH_ hoki_ hfr_ hcc_ hcl_
   refine skip_ (w1:=?_) wN rfl ?_ ?_
   rotate_left
   ·go_simp
    rfl
   refine hK.out _ _ ?_
   clear hK K
   refine done_ tG ?_
   obtain ⟨w17,hw_⟩:∃ z_,z_ = (w14.setCell ⟨go16,((rdW l0_1 x8).f0).toNat,none⟩ (.slice A14_0 ((rdW l0_1 x8).f1).length c14_0)):=⟨_,rfl⟩
   (try rw [← hw_])
   have hs0_:=HP_.out
   clear HP_
   rw [← hw_] at hs0_
   obtain ⟨ys17,ey_⟩:∃ y_,y_ = xs8.set ((rdW l0_1 x8).f0).toNat ((rdW l0_1 x8).f1):=⟨_,rfl⟩
   rw [← ey_] at hs0_
   have hle_:ys17.length = (xs8).length:=by rw [ey_,List.length_set]
   have HY17:=aA.mk ey_
   clear ey_
   rw [← hle_] at hs0_
   have hkp:Kept w14 w17 (In2 lo3 mm3 (gb4 + 1) hi8):=(by rw [hw_];exact Kept.setCell (Kept.refl w14 (In2 lo3 mm3 (gb4 + 1) hi8)) (.inl GO16.out) (.slice A14_0 ((rdW l0_1 x8).f1).length c14_0))
   have hbn_:Below w.heap.size w w17:=(by rw [hw_];exact aC HB.out (Nat.le_trans tq GB16.out))
   obtain ⟨hi17,e2_⟩:∃ n_,n_ = w17.heap.size:=⟨_,rfl⟩
   have ol_:hi14 ≤ hi17:=wT
   have hs_:=Kd.bU (ok':=In2 lo3 mm3 (gb4 + 1) hi17) (Kd.S_bound hs0_) vA
   have HL17:=aA.mk hle_
   replace HF0_0:=aA.mk (Kd.aU HF0_0.out hkp tA)
   replace HF0_1:=aA.mk (Kd.aU HF0_1.out hkp tA)
   replace HF3_1:=aA.mk (Kd.aU HF3_1.out hkp tA)
   replace HS3_1:=aA.mk (Kd.bP HS3_1.out hkp tA)
   replace HF9:=aA.mk (Kd.aU HF9.out hkp tA)
   replace BK1:=aA.mk (aY BK1.out hkp tB)
   replace BK2:=aA.mk (aY BK2.out hkp tB)
   replace BK4:=aA.mk (aY BK4.out hkp tB)
   replace BK10:=aA.mk (aY BK10.out hkp tB)
   replace HB:=aA.mk (hbn_)
   replace HORD:=aA.mk (And.intro HORD.out ol_)
   replace HT:=aA.mk (Nat.le_of_eq e2_)
   replace HS17:=aA.mk (hs_)
   replace HF17:=aA.mk (Kd.S_F hs_)
   replace HC17:=aA.mk ((Kd.S_reads' hs_).2.1)
   rw [← hle_] at BK4
   clear hle_ hs_ hs0_ hbn_ hkp ol_ e2_ hw_
   have:=bs4 BK1.out
   have:=bs4 BK2.out
   have:=bs4 BK4.out
   have:=bs2 BK10.out
   try go_wp2
   go_roundg k1
   case measure=>omega
   case rel=>exact ⟨i8 + 1,_,_,rfl,⟨show _ = ((i8 + 1:Nat):Int) by have:=HI8.out;have hm_:=(okWrS_len hok1);have:=HK8.out;first|(rw [w64 tZ tZ];omega)|omega⟩,⟨by have:=HK8.out;omega⟩,⟨Nat.le_trans tq HT.out⟩,⟨by rw [show fallSecs l0_0 l0_1 a1 (i8 + 1) = ys17 from (by rw [HY17.out,HX8.out];exact fall_t rfl HI8.out HJ8.out WA_.out WB_.out)];exact Kd.bU (Kd.bZ HS17.out tq) tR⟩,HF0_0,HF0_1,HF3_1,HS3_1,BK1,BK2,BK4,HB⟩
  ·have WB_:=aA.mk b_
   have c28_:decide (x8 < 30) = true:=decide_eq_true a_
   have c31_:((Go.bits .and .i64 ji8 1) == 1) = false:=beq_eq_false_iff_ne.mpr b_
   have c32_:((Go.bits .and .i64 ji8 1) != 1) = true:=bne_iff_ne.mpr b_
   clear a_ b_
   obtain ⟨ad18,Ae18,ce18,ee18,hx18_0,hx18_1,hl18,hf18⟩:=F_wr HF3_1.out x8 hp_ hq_
   cases ee18
   have HF18:=aA.mk hf18
   have HC18:=aA.mk hl18
   clear hf18 hl18
   go_wp2_with (first|((with_reducible refine bC (N:=7) rfl ?_);refine bD ?hg (N:=7) ?hd (cs:=#[.int .i64 0,.slice none 0 0]) (t:=50) ?hr ?_;(case hd=>rfl);(case hg=>rfl);(case hr=>exact tE);intro gb19 hg_ w19 hbox hb;have hge_:hi8 ≤ gb19:=tk;have hlt_:gb19 + 1 ≤ w19.heap.size:=bJ hbox;replace HF0_0:=nF HF0_0;replace HF0_1:=nF HF0_1;replace HF3_1:=nF HF3_1;replace HS3_1:=nS HS3_1;replace HF8:=nF HF8;replace HS8:=nS HS8;replace HF18:=nF HF18;replace BK1:=nB BK1;replace BK2:=nB BK2;replace BK4:=nB BK4;replace HB:=aA.mk (aT HB.out hb);replace BK19:=aA.mk (hbox);replace HORD:=aA.mk (And.intro HORD.out (And.intro hge_ (Nat.le_succ gb19)));replace HT:=aA.mk (hlt_);clear hb hbox hg_ hge_ hlt_;have:=bs4 BK1.out;have:=bs4 BK2.out;have:=bs4 BK4.out;have:=bs2 BK19.out)|((with_reducible refine bN (t:=50) (p:=7) rfl ?_);refine bL (t:=50) (p:=7) (v:=?vo_w20) (w1:=((w19.setCell ⟨gb19,0,none⟩ (.int .i64 ((rdW l0_1 x8).f0))).setCell ⟨gb19,1,none⟩ (.slice Ae18 ((rdW l0_1 x8).f1).length ce18))) ?hg ?ho ?hn ?hr ?_;(case ho=>rfl);(case hg=>rfl);(case hn=>rfl);(case hr=>exact tE);intro w20 hw_;have hkp:Kept w19 w20 (fun k_=>k_ = gb19):=(by rw [hw_];exact Kept.setCell (Kept.setCell (Kept.refl w19 (fun k_=>k_ = gb19)) (.inl rfl) (.int .i64 ((rdW l0_1 x8).f0))) (.inl rfl) (.slice Ae18 ((rdW l0_1 x8).f1).length ce18));have hge_:w.heap.size ≤ gb19:=tL;have hbn_:Below w.heap.size w w20:=AC;have hbk_:w20.heap[gb19]? = some (.cells #[.int .i64 ((rdW l0_1 x8).f0),.slice Ae18 ((rdW l0_1 x8).f1).length ce18] 50 (0,0)):=(by rw [hw_];exact aQ (cs:=#[.int .i64 ((rdW l0_1 x8).f0),.slice none 0 0]) (cs':=#[.int .i64 ((rdW l0_1 x8).f0),.slice Ae18 ((rdW l0_1 x8).f1).length ce18]) (aQ (cs:=#[.int .i64 0,.slice none 0 0]) (cs':=#[.int .i64 ((rdW l0_1 x8).f0),.slice none 0 0]) (BK19.out) 0 _ rfl) 1 _ rfl);have hsz_:(gb19 + 1) ≤ w20.heap.size:=Nat.le_trans HT.out hkp.1;replace HF0_0:=aA.mk (Kd.aU HF0_0.out hkp tA);replace HF0_1:=aA.mk (Kd.aU HF0_1.out hkp tA);replace HF3_1:=aA.mk (Kd.aU HF3_1.out hkp tA);replace HS3_1:=aA.mk (Kd.bP HS3_1.out hkp tA);replace HF8:=aA.mk (Kd.aU HF8.out hkp tA);replace HS8:=aA.mk (Kd.bP HS8.out hkp tA);replace HF18:=aA.mk (Kd.aU HF18.out hkp tA);replace BK1:=aA.mk (aY BK1.out hkp tB);replace BK2:=aA.mk (aY BK2.out hkp tB);replace BK4:=aA.mk (aY BK4.out hkp tB);replace HB:=aA.mk (hbn_);replace BK19:=aA.mk (hbk_);replace HT:=aA.mk (hsz_);clear hw_ hkp hge_ hbn_ hbk_ hsz_;have:=bs4 BK1.out;have:=bs4 BK2.out;have:=bs4 BK4.out;have:=bs2 BK19.out))
   go_roundg k1
   case measure=>omega
   case rel=>exact ⟨i8 + 1,_,_,rfl,⟨show _ = ((i8 + 1:Nat):Int) by have:=HI8.out;have hm_:=(okWrS_len hok1);have:=HK8.out;first|(rw [w64 tZ tZ];omega)|omega⟩,⟨by have:=HK8.out;omega⟩,⟨Nat.le_trans tq HT.out⟩,⟨by rw [show fallSecs l0_0 l0_1 a1 (i8 + 1) = xs8 from (by rw [HX8.out];exact fall_f1 rfl HI8.out HJ8.out WB_.out)];exact Kd.bU (Kd.bZ HS8.out tq) tR⟩,HF0_0,HF0_1,HF3_1,HS3_1,BK1,BK2,BK4,HB⟩
  ·have WA_:=aA.mk a_
   have c28_:decide (x8 < 30) = false:=decide_eq_false tZ
   clear a_
   obtain ⟨ad21,Ae21,ce21,ee21,hx21_0,hx21_1,hl21,hf21⟩:=F_wr HF3_1.out x8 hp_ hq_
   cases ee21
   have HF21:=aA.mk hf21
   have HC21:=aA.mk hl21
   clear hf21 hl21
   go_wp2_with (first|((with_reducible refine bC (N:=7) rfl ?_);refine bD ?hg (N:=7) ?hd (cs:=#[.int .i64 0,.slice none 0 0]) (t:=50) ?hr ?_;(case hd=>rfl);(case hg=>rfl);(case hr=>exact tE);intro gb22 hg_ w22 hbox hb;have hge_:hi8 ≤ gb22:=tk;have hlt_:gb22 + 1 ≤ w22.heap.size:=bJ hbox;replace HF0_0:=nF HF0_0;replace HF0_1:=nF HF0_1;replace HF3_1:=nF HF3_1;replace HS3_1:=nS HS3_1;replace HF8:=nF HF8;replace HS8:=nS HS8;replace HF21:=nF HF21;replace BK1:=nB BK1;replace BK2:=nB BK2;replace BK4:=nB BK4;replace HB:=aA.mk (aT HB.out hb);replace BK22:=aA.mk (hbox);replace HORD:=aA.mk (And.intro HORD.out (And.intro hge_ (Nat.le_succ gb22)));replace HT:=aA.mk (hlt_);clear hb hbox hg_ hge_ hlt_;have:=bs4 BK1.out;have:=bs4 BK2.out;have:=bs4 BK4.out;have:=bs2 BK22.out)|((with_reducible refine bN (t:=50) (p:=7) rfl ?_);refine bL (t:=50) (p:=7) (v:=?vo_w23) (w1:=((w22.setCell ⟨gb22,0,none⟩ (.int .i64 ((rdW l0_1 x8).f0))).setCell ⟨gb22,1,none⟩ (.slice Ae21 ((rdW l0_1 x8).f1).length ce21))) ?hg ?ho ?hn ?hr ?_;(case ho=>rfl);(case hg=>rfl);(case hn=>rfl);(case hr=>exact tE);intro w23 hw_;have hkp:Kept w22 w23 (fun k_=>k_ = gb22):=(by rw [hw_];exact Kept.setCell (Kept.setCell (Kept.refl w22 (fun k_=>k_ = gb22)) (.inl rfl) (.int .i64 ((rdW l0_1 x8).f0))) (.inl rfl) (.slice Ae21 ((rdW l0_1 x8).f1).length ce21));have hge_:w.heap.size ≤ gb22:=tL;have hbn_:Below w.heap.size w w23:=AC;have hbk_:w23.heap[gb22]? = some (.cells #[.int .i64 ((rdW l0_1 x8).f0),.slice Ae21 ((rdW l0_1 x8).f1).length ce21] 50 (0,0)):=(by rw [hw_];exact aQ (cs:=#[.int .i64 ((rdW l0_1 x8).f0),.slice none 0 0]) (cs':=#[.int .i64 ((rdW l0_1 x8).f0),.slice Ae21 ((rdW l0_1 x8).f1).length ce21]) (aQ (cs:=#[.int .i64 0,.slice none 0 0]) (cs':=#[.int .i64 ((rdW l0_1 x8).f0),.slice none 0 0]) (BK22.out) 0 _ rfl) 1 _ rfl);have hsz_:(gb22 + 1) ≤ w23.heap.size:=Nat.le_trans HT.out hkp.1;replace HF0_0:=aA.mk (Kd.aU HF0_0.out hkp tA);replace HF0_1:=aA.mk (Kd.aU HF0_1.out hkp tA);replace HF3_1:=aA.mk (Kd.aU HF3_1.out hkp tA);replace HS3_1:=aA.mk (Kd.bP HS3_1.out hkp tA);replace HF8:=aA.mk (Kd.aU HF8.out hkp tA);replace HS8:=aA.mk (Kd.bP HS8.out hkp tA);replace HF21:=aA.mk (Kd.aU HF21.out hkp tA);replace BK1:=aA.mk (aY BK1.out hkp tB);replace BK2:=aA.mk (aY BK2.out hkp tB);replace BK4:=aA.mk (aY BK4.out hkp tB);replace HB:=aA.mk (hbn_);replace BK22:=aA.mk (hbk_);replace HT:=aA.mk (hsz_);clear hw_ hkp hge_ hbn_ hbk_ hsz_;have:=bs4 BK1.out;have:=bs4 BK2.out;have:=bs4 BK4.out;have:=bs2 BK22.out))
   go_roundg k1
   case measure=>omega
   case rel=>exact ⟨i8 + 1,_,_,rfl,⟨show _ = ((i8 + 1:Nat):Int) by have:=HI8.out;have hm_:=(okWrS_len hok1);have:=HK8.out;first|(rw [w64 tZ tZ];omega)|omega⟩,⟨by have:=HK8.out;omega⟩,⟨Nat.le_trans tq HT.out⟩,⟨by rw [show fallSecs l0_0 l0_1 a1 (i8 + 1) = xs8 from (by rw [HX8.out];exact fall_f2 HI8.out (by have:=WA_.out;omega))];exact Kd.bU (Kd.bZ HS8.out tq) tR⟩,HF0_0,HF0_1,HF3_1,HS3_1,BK1,BK2,BK4,HB⟩
 have hi0_:i8 = l0_1.length:=(by have:=HK8.out;omega)
 have hd_:decide (x8 < (l0_1.length:Int)) = false:=decide_eq_false (by have:=HI8.out;omega)
 have eall_:xs8 = (fallSecs l0_0 l0_1 a1 l0_1.length):=(by rw [HX8.out,hi0_])
 rw [eall_] at HS8 HF8 HC8 BK4
 have:=bs4 BK1.out
 have:=bs4 BK2.out
 have:=bs4 BK4.out
 go_wp2_with (first|((with_reducible refine bN (t:=23) (p:=44) rfl ?_);refine bL (t:=23) (p:=44) (v:=?vo_w24) (w1:=(wr.setCell ⟨gb4,1,none⟩ (.slice none 0 0))) ?hg ?ho ?hn ?hr ?_;(case ho=>rfl);(case hg=>rfl);(case hn=>rfl);(case hr=>exact tE);intro w24 hw_;have hkp:Kept wr w24 (fun k_=>k_ = gb4):=Ak;have hge_:w.heap.size ≤ gb4:=tL;have hbn_:Below w.heap.size w w24:=vu;have hbk_:w24.heap[gb4]? = some (.cells #[.slice A8 ((fallSecs l0_0 l0_1 a1 l0_1.length)).length c8,.slice none 0 0,.int .i64 a0_2,.bool a0_3] 25 (0,0)):=(by rw [hw_];exact aQ (cs:=#[.slice A8 ((fallSecs l0_0 l0_1 a1 l0_1.length)).length c8,.slice A3_1 l0_1.length c3_1,.int .i64 a0_2,.bool a0_3]) (cs':=#[.slice A8 ((fallSecs l0_0 l0_1 a1 l0_1.length)).length c8,.slice none 0 0,.int .i64 a0_2,.bool a0_3]) (BK4.out) 1 _ rfl);have hsz_:hi8 ≤ w24.heap.size:=Nat.le_trans HT.out hkp.1;replace HF0_0:=aA.mk (Kd.aU HF0_0.out hkp tA);replace HF0_1:=aA.mk (Kd.aU HF0_1.out hkp tA);replace HF3_1:=aA.mk (Kd.aU HF3_1.out hkp tA);replace HS3_1:=aA.mk (Kd.bP HS3_1.out hkp tA);replace HF8:=aA.mk (Kd.aU HF8.out hkp tA);replace HS8:=aA.mk (Kd.bP HS8.out hkp tA);replace BK1:=aA.mk (aY BK1.out hkp tB);replace BK2:=aA.mk (aY BK2.out hkp tB);replace HB:=aA.mk (hbn_);replace BK4:=aA.mk (hbk_);replace HT:=aA.mk (hsz_);clear hw_ hkp hge_ hbn_ hbk_ hsz_;have:=bs4 BK1.out;have:=bs4 BK2.out;have:=bs4 BK4.out)|((with_reducible refine bN (t:=4) (p:=45) rfl ?_);refine bL (t:=4) (p:=45) (v:=?vo_w25) (w1:=(w24.setCell ⟨gb4,3,none⟩ (.bool false))) ?hg ?ho ?hn ?hr ?_;(case ho=>rfl);(case hg=>rfl);(case hn=>rfl);(case hr=>exact tE);intro w25 hw_;have hkp:Kept w24 w25 (fun k_=>k_ = gb4):=(by rw [hw_];exact Kept.setCell (Kept.refl w24 (fun k_=>k_ = gb4)) (.inl rfl) (.bool false));have hge_:w.heap.size ≤ gb4:=tL;have hbn_:Below w.heap.size w w25:=vu;have hbk_:w25.heap[gb4]? = some (.cells #[.slice A8 ((fallSecs l0_0 l0_1 a1 l0_1.length)).length c8,.slice none 0 0,.int .i64 a0_2,.bool false] 25 (0,0)):=(by rw [hw_];exact aQ (cs:=#[.slice A8 ((fallSecs l0_0 l0_1 a1 l0_1.length)).length c8,.slice none 0 0,.int .i64 a0_2,.bool a0_3]) (cs':=#[.slice A8 ((fallSecs l0_0 l0_1 a1 l0_1.length)).length c8,.slice none 0 0,.int .i64 a0_2,.bool false]) (BK4.out) 3 _ rfl);have hsz_:hi8 ≤ w25.heap.size:=Nat.le_trans HT.out hkp.1;replace HF0_0:=aA.mk (Kd.aU HF0_0.out hkp tA);replace HF0_1:=aA.mk (Kd.aU HF0_1.out hkp tA);replace HF3_1:=aA.mk (Kd.aU HF3_1.out hkp tA);replace HS3_1:=aA.mk (Kd.bP HS3_1.out hkp tA);replace HF8:=aA.mk (Kd.aU HF8.out hkp tA);replace HS8:=aA.mk (Kd.bP HS8.out hkp tA);replace BK1:=aA.mk (aY BK1.out hkp tB);replace BK2:=aA.mk (aY BK2.out hkp tB);replace HB:=aA.mk (hbn_);replace BK4:=aA.mk (hbk_);replace HT:=aA.mk (hsz_);clear hw_ hkp hge_ hbn_ hbk_ hsz_;have:=bs4 BK1.out;have:=bs4 BK2.out;have:=bs4 BK4.out)|((with_reducible refine bN (t:=3) (p:=46) rfl ?_);refine bL (t:=3) (p:=46) (v:=?vo_w26) (w1:=(w25.setCell ⟨gb4,2,none⟩ (.int .i64 ((-1))))) ?hg ?ho ?hn ?hr ?_;(case ho=>rfl);(case hg=>rfl);(case hn=>rfl);(case hr=>exact tE);intro w26 hw_;have hkp:Kept w25 w26 (fun k_=>k_ = gb4):=(by rw [hw_];exact Kept.setCell (Kept.refl w25 (fun k_=>k_ = gb4)) (.inl rfl) (.int .i64 ((-1))));have hge_:w.heap.size ≤ gb4:=tL;have hbn_:Below w.heap.size w w26:=vu;have hbk_:w26.heap[gb4]? = some (.cells #[.slice A8 ((fallSecs l0_0 l0_1 a1 l0_1.length)).length c8,.slice none 0 0,.int .i64 ((-1)),.bool false] 25 (0,0)):=(by rw [hw_];exact aQ (cs:=#[.slice A8 ((fallSecs l0_0 l0_1 a1 l0_1.length)).length c8,.slice none 0 0,.int .i64 a0_2,.bool false]) (cs':=#[.slice A8 ((fallSecs l0_0 l0_1 a1 l0_1.length)).length c8,.slice none 0 0,.int .i64 ((-1)),.bool false]) (BK4.out) 2 _ rfl);have hsz_:hi8 ≤ w26.heap.size:=Nat.le_trans HT.out hkp.1;replace HF0_0:=aA.mk (Kd.aU HF0_0.out hkp tA);replace HF0_1:=aA.mk (Kd.aU HF0_1.out hkp tA);replace HF3_1:=aA.mk (Kd.aU HF3_1.out hkp tA);replace HS3_1:=aA.mk (Kd.bP HS3_1.out hkp tA);replace HF8:=aA.mk (Kd.aU HF8.out hkp tA);replace HS8:=aA.mk (Kd.bP HS8.out hkp tA);replace BK1:=aA.mk (aY BK1.out hkp tB);replace BK2:=aA.mk (aY BK2.out hkp tB);replace HB:=aA.mk (hbn_);replace BK4:=aA.mk (hbk_);replace HT:=aA.mk (hsz_);clear hw_ hkp hge_ hbn_ hbk_ hsz_;have:=bs4 BK1.out;have:=bs4 BK2.out;have:=bs4 BK4.out)|((with_reducible refine bN (t:=25) (p:=4) rfl ?_);refine bL (t:=25) (p:=4) (v:=?vo_w27) (w1:=((((w26.setCell ⟨gb2,0,none⟩ (.slice A8 ((fallSecs l0_0 l0_1 a1 l0_1.length)).length c8)).setCell ⟨gb2,1,none⟩ (.slice none 0 0)).setCell ⟨gb2,2,none⟩ (.int .i64 ((-1)))).setCell ⟨gb2,3,none⟩ (.bool false))) ?hg ?ho ?hn ?hr ?_;(case ho=>rfl);(case hg=>rfl);(case hn=>rfl);(case hr=>exact tE);intro w27 hw_;have hkp:Kept w26 w27 (fun k_=>k_ = gb2):=(by rw [hw_];exact Kept.setCell (Kept.setCell (Kept.setCell (Kept.setCell (Kept.refl w26 (fun k_=>k_ = gb2)) (.inl rfl) (.slice A8 ((fallSecs l0_0 l0_1 a1 l0_1.length)).length c8)) (.inl rfl) (.slice none 0 0)) (.inl rfl) (.int .i64 ((-1)))) (.inl rfl) (.bool false));have hge_:w.heap.size ≤ gb2:=tL;have hbn_:Below w.heap.size w w27:=tU;have hbk_:w27.heap[gb2]? = some (.cells #[.slice A8 ((fallSecs l0_0 l0_1 a1 l0_1.length)).length c8,.slice none 0 0,.int .i64 ((-1)),.bool false] 25 (0,0)):=(by rw [hw_];exact aQ (cs:=#[.slice A8 ((fallSecs l0_0 l0_1 a1 l0_1.length)).length c8,.slice none 0 0,.int .i64 ((-1)),.bool false]) (cs':=#[.slice A8 ((fallSecs l0_0 l0_1 a1 l0_1.length)).length c8,.slice none 0 0,.int .i64 ((-1)),.bool false]) (aQ (cs:=#[.slice A8 ((fallSecs l0_0 l0_1 a1 l0_1.length)).length c8,.slice none 0 0,.int .i64 0,.bool false]) (cs':=#[.slice A8 ((fallSecs l0_0 l0_1 a1 l0_1.length)).length c8,.slice none 0 0,.int .i64 ((-1)),.bool false]) (aQ (cs:=#[.slice A8 ((fallSecs l0_0 l0_1 a1 l0_1.length)).length c8,.slice none 0 0,.int .i64 0,.bool false]) (cs':=#[.slice A8 ((fallSecs l0_0 l0_1 a1 l0_1.length)).length c8,.slice none 0 0,.int .i64 0,.bool false]) (aQ (cs:=#[.slice none 0 0,.slice none 0 0,.int .i64 0,.bool false]) (cs':=#[.slice A8 ((fallSecs l0_0 l0_1 a1 l0_1.length)).length c8,.slice none 0 0,.int .i64 0,.bool false]) (BK2.out) 0 _ rfl) 1 _ rfl) 2 _ rfl) 3 _ rfl);have hsz_:hi8 ≤ w27.heap.size:=Nat.le_trans HT.out hkp.1;replace HF0_0:=aA.mk (Kd.aU HF0_0.out hkp tA);replace HF0_1:=aA.mk (Kd.aU HF0_1.out hkp tA);replace HF3_1:=aA.mk (Kd.aU HF3_1.out hkp tA);replace HS3_1:=aA.mk (Kd.bP HS3_1.out hkp tA);replace HF8:=aA.mk (Kd.aU HF8.out hkp tA);replace HS8:=aA.mk (Kd.bP HS8.out hkp tA);replace BK1:=aA.mk (aY BK1.out hkp tB);replace BK4:=aA.mk (aY BK4.out hkp tB);replace HB:=aA.mk (hbn_);replace BK2:=aA.mk (hbk_);replace HT:=aA.mk (hsz_);clear hw_ hkp hge_ hbn_ hbk_ hsz_;have:=bs4 BK1.out;have:=bs4 BK2.out;have:=bs4 BK4.out))
 refine bodyPost_ret (fn:=Try.f32) (P:=Try.prog) (results_cell_row rfl _ _ gb2 25 #[.slice A8 ((fallSecs l0_0 l0_1 a1 l0_1.length)).length c8,.slice none 0 0,.int .i64 ((-1)),.bool false] (0,0) _ rfl BK2.out Try.underlying25 rfl tG) rfl ?_
 first|exact ⟨_,_,w27.heap.size,rfl,HB.out.size,Nat.le_refl _,Kd.bU (Kd.bZ HS8.out tH) tJ,Kd.S_nil _ _ _ _ _,HB.out⟩|exact ⟨_,_,rfl,w27.heap.size,HB.out.size,Nat.le_refl _,Kd.bU (Kd.bZ HS8.out tH) tJ,Kd.S_nil _ _ _ _ _,HB.out⟩
set_option maxHeartbeats 8000000 in
set_option maxRecDepth 100000 in
theorem walk_FallDev3 (A0_0:Option Addr) (c0_0:Nat) (l0_0:List (List (Int))) (A0_1:Option Addr) (c0_1:Nat) (l0_1:List (S50)) (a0_2:Int) (a0_3:Bool) (a1:Int) (w:World) (hf0_0:Kd.F (Kd.slice 5 (Kd.int .u8)) w (In 0 w.heap.size) A0_0 l0_0.length l0_0) (hc0_0:l0_0.length ≤ c0_0) (hf0_1:Kd.F k50 w (In 0 w.heap.size) A0_1 l0_1.length l0_1) (hc0_1:l0_1.length ≤ c0_1) (hok0:okByteSS l0_0) (hok1:okWrS l0_1) (hdo:devOkB l0_0 l0_1 a0_2 = true) (hwi:decide (0 ≤ a1 ∧ a1 ≤ 1073741823) = false) :
  Calls Try.prog 32 #[.agg #[.slice A0_0 l0_0.length c0_0,.slice A0_1 l0_1.length c0_1,.int .i64 a0_2,.bool a0_3],.int .i64 a1] w fun e w'=>∃ v0_ v1_:Value,∃ m_:Nat,e = .returned (.agg #[v0_,v1_,.int .i64 (-1),.bool false]) ∧ w.heap.size ≤ m_ ∧ m_ ≤ w'.heap.size ∧ Kd.S (Kd.slice 5 (Kd.int .u8)) 37 w' w.heap.size (In w.heap.size m_) v0_ (fallSecs l0_0 l0_1 0 l0_1.length) ∧ Kd.S k50 50 w' w.heap.size (In m_ w'.heap.size) v1_ ([]:List (S50)) ∧ Below w.heap.size w w':=by
 have hu25:=Try.underlying25
 have hu50:=Try.underlying50
 have HF0_0:=aA.mk hf0_0
 have HC0_0:=aA.mk hc0_0
 clear hf0_0 hc0_0
 have HF0_1:=aA.mk hf0_1
 have HC0_1:=aA.mk hc0_1
 clear hf0_1 hc0_1
 have HB:=aA.mk (Below.refl w.heap.size w)
 have HORD:=aA.mk (Nat.le_refl w.heap.size)
 have HT:=aA.mk (Nat.le_refl w.heap.size)
 have JC:=aA.mk (copyDevS_f hok0 hok1 a0_2 a0_3)
 obtain ⟨kd,hd0_⟩:=evGet (impl_DevOk_ev l0_0 l0_1 a0_2 a0_3 hok0 hok1)
 rw [hdo] at hd0_
 have JD:=aA.mk hd0_
 clear hd0_
 have JW:=aA.mk (show impl_within.f a1 0 1073741823 = some false from by rw [impl_within_f,hwi])
 go_enter Try.func32,Try.ntmps32
 go_wp2_with (first|((with_reducible refine bC (N:=2) rfl ?_);refine bD ?hg (N:=2) ?hd (cs:=#[.slice A0_0 l0_0.length c0_0,.slice A0_1 l0_1.length c0_1,.int .i64 a0_2,.bool a0_3]) (t:=25) ?hr ?_;(case hd=>rfl);(case hg=>rfl);(case hr=>exact tE);intro gb1 hg_ w1 hbox hb;have hge_:w.heap.size ≤ gb1:=tk;have hlt_:gb1 + 1 ≤ w1.heap.size:=bJ hbox;replace HF0_0:=nF HF0_0;replace HF0_1:=nF HF0_1;replace HB:=aA.mk (aT HB.out hb);replace BK1:=aA.mk (hbox);replace HORD:=aA.mk (And.intro HORD.out (And.intro hge_ (Nat.le_succ gb1)));replace HT:=aA.mk (hlt_);clear hb hbox hg_ hge_ hlt_;have:=bs4 BK1.out)|((with_reducible refine bC (N:=4) rfl ?_);refine bD ?hg (N:=4) ?hd (cs:=#[.slice none 0 0,.slice none 0 0,.int .i64 0,.bool false]) (t:=25) ?hr ?_;(case hd=>rfl);(case hg=>rfl);(case hr=>exact tE);intro gb2 hg_ w2 hbox hb;have hge_:(gb1 + 1) ≤ gb2:=tk;have hlt_:gb2 + 1 ≤ w2.heap.size:=bJ hbox;replace HF0_0:=nF HF0_0;replace HF0_1:=nF HF0_1;replace BK1:=nB BK1;replace HB:=aA.mk (aT HB.out hb);replace BK2:=aA.mk (hbox);replace HORD:=aA.mk (And.intro HORD.out (And.intro hge_ (Nat.le_succ gb2)));replace HT:=aA.mk (hlt_);clear hb hbox hg_ hge_ hlt_;have:=bs4 BK1.out;have:=bs4 BK2.out)|((with_reducible refine aW (f:=58) rfl ?_);refine bK (some 9) rfl rfl Try.func58 tG rfl #[.agg #[.slice A0_0 l0_0.length c0_0,.slice A0_1 l0_1.length c0_1,.int .i64 a0_2,.bool a0_3]] rfl tC ?_;(with_reducible refine (impl_copyDevS.calls (In 0 w.heap.size) _ _ l0_0 (In 0 w.heap.size) _ _ l0_1 a0_2 a0_3 l0_0 l0_1 a0_2 a0_3 _ ?s1 ?s2 JC.out).mono ?_);(case s1=>exact wQ);(case s2=>exact wP);rintro e_ w3 ⟨v0_,v1_,mm3,rfl,hm1_,hm2_,ho0,ho1,hb⟩;refine ⟨_,rfl,?_⟩;obtain ⟨lo3,hi3,el_,eh_,ol_,oh_⟩:=Mem.times HT.out hb;rw [← el_] at hm1_;rw [← eh_] at hm2_;rw [← el_] at ho0;obtain ⟨A3_0,c3_0,ev_,hc0_,hf0_,hs0_⟩:=new_SI2 ho0;subst ev_;rw [← eh_] at ho1;(try rw [← el_] at ho1);obtain ⟨A3_1,c3_1,ev_,hc1_,hf1_,hs1_⟩:=new_SI2 ho1;subst ev_;replace HF0_0:=nF HF0_0;replace HF0_1:=nF HF0_1;replace BK1:=nB BK1;replace BK2:=nB BK2;replace HB:=aA.mk (aT HB.out hb);replace HF3_0:=aA.mk (hf0_);replace HC3_0:=aA.mk (hc0_);replace HS3_0:=aA.mk (hs0_);replace HF3_1:=aA.mk (hf1_);replace HC3_1:=aA.mk (hc1_);replace HS3_1:=aA.mk (hs1_);replace HORD:=aA.mk (And.intro HORD.out (And.intro ol_ (And.intro hm1_ hm2_)));replace HT:=aA.mk (Nat.le_of_eq eh_);clear hm1_ hm2_;clear ol_ oh_ el_ eh_ ho0 hf0_ hc0_ hs0_ ho1 hf1_ hc1_ hs1_;(try clear hb);have:=bs4 BK1.out;have:=bs4 BK2.out)|((with_reducible refine bC (N:=5) rfl ?_);refine bD ?hg (N:=5) ?hd (cs:=#[.slice none 0 0,.slice none 0 0,.int .i64 0,.bool false]) (t:=25) ?hr ?_;(case hd=>rfl);(case hg=>rfl);(case hr=>exact tE);intro gb4 hg_ w4 hbox hb;have hge_:hi3 ≤ gb4:=tk;have hlt_:gb4 + 1 ≤ w4.heap.size:=bJ hbox;replace HF0_0:=nF HF0_0;replace HF0_1:=nF HF0_1;replace HF3_0:=nF HF3_0;replace HS3_0:=nS HS3_0;replace HF3_1:=nF HF3_1;replace HS3_1:=nS HS3_1;replace BK1:=nB BK1;replace BK2:=nB BK2;replace HB:=aA.mk (aT HB.out hb);replace BK4:=aA.mk (hbox);replace HORD:=aA.mk (And.intro HORD.out (And.intro hge_ (Nat.le_succ gb4)));replace HT:=aA.mk (hlt_);clear hb hbox hg_ hge_ hlt_;have:=bs4 BK1.out;have:=bs4 BK2.out;have:=bs4 BK4.out)|((with_reducible refine bN (t:=25) (p:=5) rfl ?_);refine bL (t:=25) (p:=5) (v:=?vo_w5) (w1:=((((w4.setCell ⟨gb4,0,none⟩ (.slice A3_0 l0_0.length c3_0)).setCell ⟨gb4,1,none⟩ (.slice A3_1 l0_1.length c3_1)).setCell ⟨gb4,2,none⟩ (.int .i64 a0_2)).setCell ⟨gb4,3,none⟩ (.bool a0_3))) ?hg ?ho ?hn ?hr ?_;(case ho=>rfl);(case hg=>rfl);(case hn=>rfl);(case hr=>exact tE);intro w5 hw_;have hkp:Kept w4 w5 (fun k_=>k_ = gb4):=tj;have hge_:w.heap.size ≤ gb4:=tL;have hbn_:Below w.heap.size w w5:=tU;have hbk_:w5.heap[gb4]? = some (.cells #[.slice A3_0 l0_0.length c3_0,.slice A3_1 l0_1.length c3_1,.int .i64 a0_2,.bool a0_3] 25 (0,0)):=tF;have hsz_:(gb4 + 1) ≤ w5.heap.size:=Nat.le_trans HT.out hkp.1;replace HF0_0:=aA.mk (Kd.aU HF0_0.out hkp tA);replace HF0_1:=aA.mk (Kd.aU HF0_1.out hkp tA);replace HF3_0:=aA.mk (Kd.aU HF3_0.out hkp tA);replace HS3_0:=aA.mk (Kd.bP HS3_0.out hkp tA);replace HF3_1:=aA.mk (Kd.aU HF3_1.out hkp tA);replace HS3_1:=aA.mk (Kd.bP HS3_1.out hkp tA);replace BK1:=aA.mk (aY BK1.out hkp tB);replace BK2:=aA.mk (aY BK2.out hkp tB);replace HB:=aA.mk (hbn_);replace BK4:=aA.mk (hbk_);replace HT:=aA.mk (hsz_);clear hw_ hkp hge_ hbn_ hbk_ hsz_;have:=bs4 BK1.out;have:=bs4 BK2.out;have:=bs4 BK4.out)|((with_reducible refine aW (f:=20) rfl ?_);refine bK (some 11) rfl rfl Try.func20 tG rfl #[.agg #[.slice A0_0 l0_0.length c0_0,.slice A0_1 l0_1.length c0_1,.int .i64 a0_2,.bool a0_3]] rfl tC ?_;(with_reducible refine (impl_DevOk.calls kd _ _ l0_0 _ _ l0_1 a0_2 a0_3 true _ ?s1 ?s2 ?s3 ?s4 JD.out).mono ?_);(case s1=>exact wn);(case s2=>exact Ay);(case s3=>exact wm);(case s4=>exact Ax);rintro e_ w6 ⟨rfl,hb⟩;refine ⟨_,rfl,?_⟩;replace HF0_0:=nF HF0_0;replace HF0_1:=nF HF0_1;replace HF3_0:=nF HF3_0;replace HS3_0:=nS HS3_0;replace HF3_1:=nF HF3_1;replace HS3_1:=nS HS3_1;replace BK1:=nB BK1;replace BK2:=nB BK2;replace BK4:=nB BK4;replace HB:=aA.mk (aT HB.out hb);replace HT:=aA.mk (Nat.le_trans HT.out hb.size);(try clear hb);have:=bs4 BK1.out;have:=bs4 BK2.out;have:=bs4 BK4.out)|((with_reducible refine aW (f:=44) rfl ?_);refine bK (some 15) rfl rfl Try.func44 tG rfl #[.int .i64 a1,.int .i64 0,.int .i64 1073741823] rfl tC ?_;(with_reducible refine (impl_within.calls a1 0 1073741823 false _ JW.out).mono ?_);rintro e_ w7 ⟨rfl,hd⟩;refine ⟨_,rfl,?_⟩;have hb:=hd.below;clear hd;replace HF0_0:=nF HF0_0;replace HF0_1:=nF HF0_1;replace HF3_0:=nF HF3_0;replace HS3_0:=nS HS3_0;replace HF3_1:=nF HF3_1;replace HS3_1:=nS HS3_1;replace BK1:=nB BK1;replace BK2:=nB BK2;replace BK4:=nB BK4;replace HB:=aA.mk (aT HB.out hb);replace HT:=aA.mk (Nat.le_trans HT.out hb.size);(try clear hb);have:=bs4 BK1.out;have:=bs4 BK2.out;have:=bs4 BK4.out))
 go_loopg [20] (l0_1.length) (fun kq  v8 w'=>∃ (i8:Nat) (x8:Int) (u8:Value),v8 = .int .i64 x8 ∧ aA (x8 = (i8:Int)) ∧ aA (i8 + kq = l0_1.length) ∧ aA ((gb4 + 1) ≤ w'.heap.size) ∧ aA (Kd.S (Kd.slice 5 (Kd.int .u8)) 37 w' w.heap.size (Up lo3 mm3 (gb4 + 1)) u8 (fallSecs l0_0 l0_1 0 i8)) ∧ aA (Kd.F (Kd.slice 5 (Kd.int .u8)) w' (In 0 w.heap.size) A0_0 l0_0.length l0_0) ∧ aA (Kd.F k50 w' (In 0 w.heap.size) A0_1 l0_1.length l0_1) ∧ aA (Kd.F k50 w' (In mm3 hi3) A3_1 l0_1.length l0_1) ∧ aA (Kd.S k50 50 w' lo3 (In mm3 hi3) (.slice A3_1 l0_1.length c3_1) l0_1) ∧ aA (w'.heap[gb1]? = some (.cells #[.slice A0_0 l0_0.length c0_0,.slice A0_1 l0_1.length c0_1,.int .i64 a0_2,.bool a0_3] 25 (0,0))) ∧ aA (w'.heap[gb2]? = some (.cells #[.slice none 0 0,.slice none 0 0,.int .i64 0,.bool false] 25 (0,0))) ∧ aA (w'.heap[gb4]? = some (.cells #[u8,.slice A3_1 l0_1.length c3_1,.int .i64 a0_2,.bool a0_3] 25 (0,0))) ∧ aA (Below w.heap.size w w'))
 case atStart=>exact ⟨0,0,_,rfl,⟨rfl⟩,⟨Nat.zero_add _⟩,HT,⟨by rw [show fallSecs l0_0 l0_1 0 0 = l0_0 from rfl];exact Kd.bU (Kd.bZ HS3_0.out tq) tR⟩,HF0_0,HF0_1,HF3_1,HS3_1,BK1,BK2,BK4,HB⟩
 clear HF0_0 HF0_1 HF3_1 HS3_1 BK1 BK2 BK4 HB HT HS3_0 HF3_0
 obtain ⟨i8,x8,u8,rfl,HI8,HK8,HT,HS8,HF0_0,HF0_1,HF3_1,HS3_1,BK1,BK2,BK4,HB⟩:=hrel
 obtain ⟨xs8,ex_⟩:∃ y_,y_ = fallSecs l0_0 l0_1 0 i8:=⟨_,rfl⟩
 rw [← ex_] at HS8
 have HX8:=aA.mk ex_
 clear ex_
 obtain ⟨A8,c8,ev_⟩:=Kd.S_slice HS8.out
 subst ev_
 obtain ⟨hi8,e2_⟩:∃ n_,n_ = wr.heap.size:=⟨_,rfl⟩
 have ol_:(gb4 + 1) ≤ hi8:=(by rw [e2_];exact HT.out)
 have hs_:=Kd.bU (ok':=In2 lo3 mm3 (gb4 + 1) hi8) (Kd.S_bound HS8.out) vA
 have n0_:=aA.mk (And.intro HORD.out ol_)
 have n1_:=aA.mk (Nat.le_of_eq e2_)
 clear HS8 HORD HT
 have HORD:=n0_
 have HT:=n1_
 have HS8:=aA.mk hs_
 have HF8:=aA.mk (Kd.S_F hs_)
 have HC8:=aA.mk (Kd.S_reads' hs_).2.1
 clear n0_ n1_ hs_ ol_ e2_
 rcases gk with _|k1
 rotate_left
 ·have hp_:0 ≤ x8:=(by have:=HI8.out;omega)
  have hq_:x8 < (l0_1.length:Int):=(by have:=HI8.out;have:=HK8.out;omega)
  have hd_:decide (x8 < (l0_1.length:Int)) = true:=decide_eq_true hq_
  have:=bs4 BK1.out
  have:=bs4 BK2.out
  have:=bs4 BK4.out
  obtain ⟨ji8,hji_⟩:∃ j_:Int,shr .i64 0 x8 = j_:=⟨_,rfl⟩
  have hj0_:shr .i64 0 x8 = 0:=by simp [shr]
  have hji1_:(0 / 2 ^ min x8.toNat 64:Int) = 0:=by simp
  have c33_:((Go.bits .and .i64 0 1) == 1) = false:=by decide
  have c34_:((Go.bits .and .i64 0 1) != 1) = true:=by decide
  have c35_:(Go.bits .and .i64 0 1) = 0:=by decide
  have hx0_:=eq_true hp_
  have HJ8:=aA.mk hji_
  have b_:¬ Go.bits .and .i64 ji8 1 = 1:=by rw [← hji_,hj0_];decide
  rcases (show x8 < 30 ∨ ¬ x8 < 30 from by omega) with a_|a_
  ·have WB_:=aA.mk b_
   have c28_:decide (x8 < 30) = true:=decide_eq_true a_
   have c31_:((Go.bits .and .i64 ji8 1) == 1) = false:=beq_eq_false_iff_ne.mpr b_
   have c32_:((Go.bits .and .i64 ji8 1) != 1) = true:=bne_iff_ne.mpr b_
   clear a_ b_
   obtain ⟨ad9,Ae9,ce9,ee9,hx9_0,hx9_1,hl9,hf9⟩:=F_wr HF3_1.out x8 hp_ hq_
   cases ee9
   have HF9:=aA.mk hf9
   have HC9:=aA.mk hl9
   clear hf9 hl9
   go_wp2_with (first|((with_reducible refine bC (N:=7) rfl ?_);refine bD ?hg (N:=7) ?hd (cs:=#[.int .i64 0,.slice none 0 0]) (t:=50) ?hr ?_;(case hd=>rfl);(case hg=>rfl);(case hr=>exact tE);intro gb10 hg_ w10 hbox hb;have hge_:hi8 ≤ gb10:=tk;have hlt_:gb10 + 1 ≤ w10.heap.size:=bJ hbox;replace HF0_0:=nF HF0_0;replace HF0_1:=nF HF0_1;replace HF3_1:=nF HF3_1;replace HS3_1:=nS HS3_1;replace HF8:=nF HF8;replace HS8:=nS HS8;replace HF9:=nF HF9;replace BK1:=nB BK1;replace BK2:=nB BK2;replace BK4:=nB BK4;replace HB:=aA.mk (aT HB.out hb);replace BK10:=aA.mk (hbox);replace HORD:=aA.mk (And.intro HORD.out (And.intro hge_ (Nat.le_succ gb10)));replace HT:=aA.mk (hlt_);clear hb hbox hg_ hge_ hlt_;have:=bs4 BK1.out;have:=bs4 BK2.out;have:=bs4 BK4.out;have:=bs2 BK10.out)|((with_reducible refine bN (t:=50) (p:=7) rfl ?_);refine bL (t:=50) (p:=7) (v:=?vo_w11) (w1:=((w10.setCell ⟨gb10,0,none⟩ (.int .i64 ((rdW l0_1 x8).f0))).setCell ⟨gb10,1,none⟩ (.slice Ae9 ((rdW l0_1 x8).f1).length ce9))) ?hg ?ho ?hn ?hr ?_;(case ho=>rfl);(case hg=>rfl);(case hn=>rfl);(case hr=>exact tE);intro w11 hw_;have hkp:Kept w10 w11 (fun k_=>k_ = gb10):=As;have hge_:w.heap.size ≤ gb10:=tL;have hbn_:Below w.heap.size w w11:=AC;have hbk_:w11.heap[gb10]? = some (.cells #[.int .i64 ((rdW l0_1 x8).f0),.slice Ae9 ((rdW l0_1 x8).f1).length ce9] 50 (0,0)):=wy;have hsz_:(gb10 + 1) ≤ w11.heap.size:=Nat.le_trans HT.out hkp.1;replace HF0_0:=aA.mk (Kd.aU HF0_0.out hkp tA);replace HF0_1:=aA.mk (Kd.aU HF0_1.out hkp tA);replace HF3_1:=aA.mk (Kd.aU HF3_1.out hkp tA);replace HS3_1:=aA.mk (Kd.bP HS3_1.out hkp tA);replace HF8:=aA.mk (Kd.aU HF8.out hkp tA);replace HS8:=aA.mk (Kd.bP HS8.out hkp tA);replace HF9:=aA.mk (Kd.aU HF9.out hkp tA);replace BK1:=aA.mk (aY BK1.out hkp tB);replace BK2:=aA.mk (aY BK2.out hkp tB);replace BK4:=aA.mk (aY BK4.out hkp tB);replace HB:=aA.mk (hbn_);replace BK10:=aA.mk (hbk_);replace HT:=aA.mk (hsz_);clear hw_ hkp hge_ hbn_ hbk_ hsz_;have:=bs4 BK1.out;have:=bs4 BK2.out;have:=bs4 BK4.out;have:=bs2 BK10.out))
   go_roundg k1
   case measure=>omega
   case rel=>exact ⟨i8 + 1,_,_,rfl,⟨show _ = ((i8 + 1:Nat):Int) by have:=HI8.out;have hm_:=(okWrS_len hok1);have:=HK8.out;first|(rw [w64 tZ tZ];omega)|omega⟩,⟨by have:=HK8.out;omega⟩,⟨Nat.le_trans tq HT.out⟩,⟨by rw [show fallSecs l0_0 l0_1 0 (i8 + 1) = xs8 from (by rw [HX8.out];exact fall_f1 rfl HI8.out HJ8.out WB_.out)];exact Kd.bU (Kd.bZ HS8.out tq) tR⟩,HF0_0,HF0_1,HF3_1,HS3_1,BK1,BK2,BK4,HB⟩
  ·have WA_:=aA.mk a_
   have c28_:decide (x8 < 30) = false:=decide_eq_false tZ
   clear a_
   obtain ⟨ad12,Ae12,ce12,ee12,hx12_0,hx12_1,hl12,hf12⟩:=F_wr HF3_1.out x8 hp_ hq_
   cases ee12
   have HF12:=aA.mk hf12
   have HC12:=aA.mk hl12
   clear hf12 hl12
   go_wp2_with (first|((with_reducible refine bC (N:=7) rfl ?_);refine bD ?hg (N:=7) ?hd (cs:=#[.int .i64 0,.slice none 0 0]) (t:=50) ?hr ?_;(case hd=>rfl);(case hg=>rfl);(case hr=>exact tE);intro gb13 hg_ w13 hbox hb;have hge_:hi8 ≤ gb13:=tk;have hlt_:gb13 + 1 ≤ w13.heap.size:=bJ hbox;replace HF0_0:=nF HF0_0;replace HF0_1:=nF HF0_1;replace HF3_1:=nF HF3_1;replace HS3_1:=nS HS3_1;replace HF8:=nF HF8;replace HS8:=nS HS8;replace HF12:=nF HF12;replace BK1:=nB BK1;replace BK2:=nB BK2;replace BK4:=nB BK4;replace HB:=aA.mk (aT HB.out hb);replace BK13:=aA.mk (hbox);replace HORD:=aA.mk (And.intro HORD.out (And.intro hge_ (Nat.le_succ gb13)));replace HT:=aA.mk (hlt_);clear hb hbox hg_ hge_ hlt_;have:=bs4 BK1.out;have:=bs4 BK2.out;have:=bs4 BK4.out;have:=bs2 BK13.out)|((with_reducible refine bN (t:=50) (p:=7) rfl ?_);refine bL (t:=50) (p:=7) (v:=?vo_w14) (w1:=((w13.setCell ⟨gb13,0,none⟩ (.int .i64 ((rdW l0_1 x8).f0))).setCell ⟨gb13,1,none⟩ (.slice Ae12 ((rdW l0_1 x8).f1).length ce12))) ?hg ?ho ?hn ?hr ?_;(case ho=>rfl);(case hg=>rfl);(case hn=>rfl);(case hr=>exact tE);intro w14 hw_;have hkp:Kept w13 w14 (fun k_=>k_ = gb13):=(by rw [hw_];exact Kept.setCell (Kept.setCell (Kept.refl w13 (fun k_=>k_ = gb13)) (.inl rfl) (.int .i64 ((rdW l0_1 x8).f0))) (.inl rfl) (.slice Ae12 ((rdW l0_1 x8).f1).length ce12));have hge_:w.heap.size ≤ gb13:=tL;have hbn_:Below w.heap.size w w14:=AC;have hbk_:w14.heap[gb13]? = some (.cells #[.int .i64 ((rdW l0_1 x8).f0),.slice Ae12 ((rdW l0_1 x8).f1).length ce12] 50 (0,0)):=(by rw [hw_];exact aQ (cs:=#[.int .i64 ((rdW l0_1 x8).f0),.slice none 0 0]) (cs':=#[.int .i64 ((rdW l0_1 x8).f0),.slice Ae12 ((rdW l0_1 x8).f1).length ce12]) (aQ (cs:=#[.int .i64 0,.slice none 0 0]) (cs':=#[.int .i64 ((rdW l0_1 x8).f0),.slice none 0 0]) (BK13.out) 0 _ rfl) 1 _ rfl);have hsz_:(gb13 + 1) ≤ w14.heap.size:=Nat.le_trans HT.out hkp.1;replace HF0_0:=aA.mk (Kd.aU HF0_0.out hkp tA);replace HF0_1:=aA.mk (Kd.aU HF0_1.out hkp tA);replace HF3_1:=aA.mk (Kd.aU HF3_1.out hkp tA);replace HS3_1:=aA.mk (Kd.bP HS3_1.out hkp tA);replace HF8:=aA.mk (Kd.aU HF8.out hkp tA);replace HS8:=aA.mk (Kd.bP HS8.out hkp tA);replace HF12:=aA.mk (Kd.aU HF12.out hkp tA);replace BK1:=aA.mk (aY BK1.out hkp tB);replace BK2:=aA.mk (aY BK2.out hkp tB);replace BK4:=aA.mk (aY BK4.out hkp tB);replace HB:=aA.mk (hbn_);replace BK13:=aA.mk (hbk_);replace HT:=aA.mk (hsz_);clear hw_ hkp hge_ hbn_ hbk_ hsz_;have:=bs4 BK1.out;have:=bs4 BK2.out;have:=bs4 BK4.out;have:=bs2 BK13.out))
   go_roundg k1
   case measure=>omega
   case rel=>exact ⟨i8 + 1,_,_,rfl,⟨show _ = ((i8 + 1:Nat):Int) by have:=HI8.out;have hm_:=(okWrS_len hok1);have:=HK8.out;first|(rw [w64 tZ tZ];omega)|omega⟩,⟨by have:=HK8.out;omega⟩,⟨Nat.le_trans tq HT.out⟩,⟨by rw [show fallSecs l0_0 l0_1 0 (i8 + 1) = xs8 from (by rw [HX8.out];exact fall_f2 HI8.out (by have:=WA_.out;omega))];exact Kd.bU (Kd.bZ HS8.out tq) tR⟩,HF0_0,HF0_1,HF3_1,HS3_1,BK1,BK2,BK4,HB⟩
 have hi0_:i8 = l0_1.length:=(by have:=HK8.out;omega)
 have hd_:decide (x8 < (l0_1.length:Int)) = false:=decide_eq_false (by have:=HI8.out;omega)
 have eall_:xs8 = (fallSecs l0_0 l0_1 0 l0_1.length):=(by rw [HX8.out,hi0_])
 rw [eall_] at HS8 HF8 HC8 BK4
 have:=bs4 BK1.out
 have:=bs4 BK2.out
 have:=bs4 BK4.out
 go_wp2_with (first|((with_reducible refine bN (t:=23) (p:=44) rfl ?_);refine bL (t:=23) (p:=44) (v:=?vo_w15) (w1:=(wr.setCell ⟨gb4,1,none⟩ (.slice none 0 0))) ?hg ?ho ?hn ?hr ?_;(case ho=>rfl);(case hg=>rfl);(case hn=>rfl);(case hr=>exact tE);intro w15 hw_;have hkp:Kept wr w15 (fun k_=>k_ = gb4):=Ak;have hge_:w.heap.size ≤ gb4:=tL;have hbn_:Below w.heap.size w w15:=vu;have hbk_:w15.heap[gb4]? = some (.cells #[.slice A8 ((fallSecs l0_0 l0_1 0 l0_1.length)).length c8,.slice none 0 0,.int .i64 a0_2,.bool a0_3] 25 (0,0)):=(by rw [hw_];exact aQ (cs:=#[.slice A8 ((fallSecs l0_0 l0_1 0 l0_1.length)).length c8,.slice A3_1 l0_1.length c3_1,.int .i64 a0_2,.bool a0_3]) (cs':=#[.slice A8 ((fallSecs l0_0 l0_1 0 l0_1.length)).length c8,.slice none 0 0,.int .i64 a0_2,.bool a0_3]) (BK4.out) 1 _ rfl);have hsz_:hi8 ≤ w15.heap.size:=Nat.le_trans HT.out hkp.1;replace HF0_0:=aA.mk (Kd.aU HF0_0.out hkp tA);replace HF0_1:=aA.mk (Kd.aU HF0_1.out hkp tA);replace HF3_1:=aA.mk (Kd.aU HF3_1.out hkp tA);replace HS3_1:=aA.mk (Kd.bP HS3_1.out hkp tA);replace HF8:=aA.mk (Kd.aU HF8.out hkp tA);replace HS8:=aA.mk (Kd.bP HS8.out hkp tA);replace BK1:=aA.mk (aY BK1.out hkp tB);replace BK2:=aA.mk (aY BK2.out hkp tB);replace HB:=aA.mk (hbn_);replace BK4:=aA.mk (hbk_);replace HT:=aA.mk (hsz_);clear hw_ hkp hge_ hbn_ hbk_ hsz_;have:=bs4 BK1.out;have:=bs4 BK2.out;have:=bs4 BK4.out)|((with_reducible refine bN (t:=4) (p:=45) rfl ?_);refine bL (t:=4) (p:=45) (v:=?vo_w16) (w1:=(w15.setCell ⟨gb4,3,none⟩ (.bool false))) ?hg ?ho ?hn ?hr ?_;(case ho=>rfl);(case hg=>rfl);(case hn=>rfl);(case hr=>exact tE);intro w16 hw_;have hkp:Kept w15 w16 (fun k_=>k_ = gb4):=(by rw [hw_];exact Kept.setCell (Kept.refl w15 (fun k_=>k_ = gb4)) (.inl rfl) (.bool false));have hge_:w.heap.size ≤ gb4:=tL;have hbn_:Below w.heap.size w w16:=vu;have hbk_:w16.heap[gb4]? = some (.cells #[.slice A8 ((fallSecs l0_0 l0_1 0 l0_1.length)).length c8,.slice none 0 0,.int .i64 a0_2,.bool false] 25 (0,0)):=(by rw [hw_];exact aQ (cs:=#[.slice A8 ((fallSecs l0_0 l0_1 0 l0_1.length)).length c8,.slice none 0 0,.int .i64 a0_2,.bool a0_3]) (cs':=#[.slice A8 ((fallSecs l0_0 l0_1 0 l0_1.length)).length c8,.slice none 0 0,.int .i64 a0_2,.bool false]) (BK4.out) 3 _ rfl);have hsz_:hi8 ≤ w16.heap.size:=Nat.le_trans HT.out hkp.1;replace HF0_0:=aA.mk (Kd.aU HF0_0.out hkp tA);replace HF0_1:=aA.mk (Kd.aU HF0_1.out hkp tA);replace HF3_1:=aA.mk (Kd.aU HF3_1.out hkp tA);replace HS3_1:=aA.mk (Kd.bP HS3_1.out hkp tA);replace HF8:=aA.mk (Kd.aU HF8.out hkp tA);replace HS8:=aA.mk (Kd.bP HS8.out hkp tA);replace BK1:=aA.mk (aY BK1.out hkp tB);replace BK2:=aA.mk (aY BK2.out hkp tB);replace HB:=aA.mk (hbn_);replace BK4:=aA.mk (hbk_);replace HT:=aA.mk (hsz_);clear hw_ hkp hge_ hbn_ hbk_ hsz_;have:=bs4 BK1.out;have:=bs4 BK2.out;have:=bs4 BK4.out)|((with_reducible refine bN (t:=3) (p:=46) rfl ?_);refine bL (t:=3) (p:=46) (v:=?vo_w17) (w1:=(w16.setCell ⟨gb4,2,none⟩ (.int .i64 ((-1))))) ?hg ?ho ?hn ?hr ?_;(case ho=>rfl);(case hg=>rfl);(case hn=>rfl);(case hr=>exact tE);intro w17 hw_;have hkp:Kept w16 w17 (fun k_=>k_ = gb4):=(by rw [hw_];exact Kept.setCell (Kept.refl w16 (fun k_=>k_ = gb4)) (.inl rfl) (.int .i64 ((-1))));have hge_:w.heap.size ≤ gb4:=tL;have hbn_:Below w.heap.size w w17:=vu;have hbk_:w17.heap[gb4]? = some (.cells #[.slice A8 ((fallSecs l0_0 l0_1 0 l0_1.length)).length c8,.slice none 0 0,.int .i64 ((-1)),.bool false] 25 (0,0)):=(by rw [hw_];exact aQ (cs:=#[.slice A8 ((fallSecs l0_0 l0_1 0 l0_1.length)).length c8,.slice none 0 0,.int .i64 a0_2,.bool false]) (cs':=#[.slice A8 ((fallSecs l0_0 l0_1 0 l0_1.length)).length c8,.slice none 0 0,.int .i64 ((-1)),.bool false]) (BK4.out) 2 _ rfl);have hsz_:hi8 ≤ w17.heap.size:=Nat.le_trans HT.out hkp.1;replace HF0_0:=aA.mk (Kd.aU HF0_0.out hkp tA);replace HF0_1:=aA.mk (Kd.aU HF0_1.out hkp tA);replace HF3_1:=aA.mk (Kd.aU HF3_1.out hkp tA);replace HS3_1:=aA.mk (Kd.bP HS3_1.out hkp tA);replace HF8:=aA.mk (Kd.aU HF8.out hkp tA);replace HS8:=aA.mk (Kd.bP HS8.out hkp tA);replace BK1:=aA.mk (aY BK1.out hkp tB);replace BK2:=aA.mk (aY BK2.out hkp tB);replace HB:=aA.mk (hbn_);replace BK4:=aA.mk (hbk_);replace HT:=aA.mk (hsz_);clear hw_ hkp hge_ hbn_ hbk_ hsz_;have:=bs4 BK1.out;have:=bs4 BK2.out;have:=bs4 BK4.out)|((with_reducible refine bN (t:=25) (p:=4) rfl ?_);refine bL (t:=25) (p:=4) (v:=?vo_w18) (w1:=((((w17.setCell ⟨gb2,0,none⟩ (.slice A8 ((fallSecs l0_0 l0_1 0 l0_1.length)).length c8)).setCell ⟨gb2,1,none⟩ (.slice none 0 0)).setCell ⟨gb2,2,none⟩ (.int .i64 ((-1)))).setCell ⟨gb2,3,none⟩ (.bool false))) ?hg ?ho ?hn ?hr ?_;(case ho=>rfl);(case hg=>rfl);(case hn=>rfl);(case hr=>exact tE);intro w18 hw_;have hkp:Kept w17 w18 (fun k_=>k_ = gb2):=(by rw [hw_];exact Kept.setCell (Kept.setCell (Kept.setCell (Kept.setCell (Kept.refl w17 (fun k_=>k_ = gb2)) (.inl rfl) (.slice A8 ((fallSecs l0_0 l0_1 0 l0_1.length)).length c8)) (.inl rfl) (.slice none 0 0)) (.inl rfl) (.int .i64 ((-1)))) (.inl rfl) (.bool false));have hge_:w.heap.size ≤ gb2:=tL;have hbn_:Below w.heap.size w w18:=tU;have hbk_:w18.heap[gb2]? = some (.cells #[.slice A8 ((fallSecs l0_0 l0_1 0 l0_1.length)).length c8,.slice none 0 0,.int .i64 ((-1)),.bool false] 25 (0,0)):=(by rw [hw_];exact aQ (cs:=#[.slice A8 ((fallSecs l0_0 l0_1 0 l0_1.length)).length c8,.slice none 0 0,.int .i64 ((-1)),.bool false]) (cs':=#[.slice A8 ((fallSecs l0_0 l0_1 0 l0_1.length)).length c8,.slice none 0 0,.int .i64 ((-1)),.bool false]) (aQ (cs:=#[.slice A8 ((fallSecs l0_0 l0_1 0 l0_1.length)).length c8,.slice none 0 0,.int .i64 0,.bool false]) (cs':=#[.slice A8 ((fallSecs l0_0 l0_1 0 l0_1.length)).length c8,.slice none 0 0,.int .i64 ((-1)),.bool false]) (aQ (cs:=#[.slice A8 ((fallSecs l0_0 l0_1 0 l0_1.length)).length c8,.slice none 0 0,.int .i64 0,.bool false]) (cs':=#[.slice A8 ((fallSecs l0_0 l0_1 0 l0_1.length)).length c8,.slice none 0 0,.int .i64 0,.bool false]) (aQ (cs:=#[.slice none 0 0,.slice none 0 0,.int .i64 0,.bool false]) (cs':=#[.slice A8 ((fallSecs l0_0 l0_1 0 l0_1.length)).length c8,.slice none 0 0,.int .i64 0,.bool false]) (BK2.out) 0 _ rfl) 1 _ rfl) 2 _ rfl) 3 _ rfl);have hsz_:hi8 ≤ w18.heap.size:=Nat.le_trans HT.out hkp.1;replace HF0_0:=aA.mk (Kd.aU HF0_0.out hkp tA);replace HF0_1:=aA.mk (Kd.aU HF0_1.out hkp tA);replace HF3_1:=aA.mk (Kd.aU HF3_1.out hkp tA);replace HS3_1:=aA.mk (Kd.bP HS3_1.out hkp tA);replace HF8:=aA.mk (Kd.aU HF8.out hkp tA);replace HS8:=aA.mk (Kd.bP HS8.out hkp tA);replace BK1:=aA.mk (aY BK1.out hkp tB);replace BK4:=aA.mk (aY BK4.out hkp tB);replace HB:=aA.mk (hbn_);replace BK2:=aA.mk (hbk_);replace HT:=aA.mk (hsz_);clear hw_ hkp hge_ hbn_ hbk_ hsz_;have:=bs4 BK1.out;have:=bs4 BK2.out;have:=bs4 BK4.out))
 refine bodyPost_ret (fn:=Try.f32) (P:=Try.prog) (results_cell_row rfl _ _ gb2 25 #[.slice A8 ((fallSecs l0_0 l0_1 0 l0_1.length)).length c8,.slice none 0 0,.int .i64 ((-1)),.bool false] (0,0) _ rfl BK2.out Try.underlying25 rfl tG) rfl ?_
 first|exact ⟨_,_,w18.heap.size,rfl,HB.out.size,Nat.le_refl _,Kd.bU (Kd.bZ HS8.out tH) tJ,Kd.S_nil _ _ _ _ _,HB.out⟩|exact ⟨_,_,rfl,w18.heap.size,HB.out.size,Nat.le_refl _,Kd.bU (Kd.bZ HS8.out tH) tJ,Kd.S_nil _ _ _ _ _,HB.out⟩
def impl_FallDevS.f (l0_0:List (List Int)) (l0_1:List (S50)) (a0_2:Int) (a0_3:Bool) (a1:Int):Option (List (List Int) × List (S50) × Int × Bool):=if okDevB l0_0 l0_1 = true then some (fallDev l0_0 l0_1 a0_2 a0_3 a1) else none
theorem impl_FallDevS.calls (P0_0_:Nat → Prop) (A0_0:Option Addr) (c0_0:Nat) (l0_0:List (List Int)) (P0_1_:Nat → Prop) (A0_1:Option Addr) (c0_1:Nat) (l0_1:List (S50)) (a0_2:Int) (a0_3:Bool) (a1:Int) (r1:List (List Int)) (r2:List (S50)) (r3:Int) (r4:Bool) (w:World) (hs0_0:Kd.V (Kd.slice 5 (Kd.int .u8)) 37 w w.heap.size (fun k_=>P0_0_ k_) (.slice A0_0 l0_0.length c0_0) l0_0) (hs0_1:Kd.V k50 50 w w.heap.size (fun k_=>P0_1_ k_) (.slice A0_1 l0_1.length c0_1) l0_1) (h:impl_FallDevS.f l0_0 l0_1 a0_2 a0_3 a1 = some (r1,r2,r3,r4)) :
  Calls Try.prog 32 #[.agg #[.slice A0_0 l0_0.length c0_0,.slice A0_1 l0_1.length c0_1,.int .i64 a0_2,.bool a0_3],.int .i64 a1] w fun e w'=>∃ v0_ v1_:Value,∃ m_:Nat,e = .returned (.agg #[v0_,v1_,.int .i64 r3,.bool r4]) ∧ w.heap.size ≤ m_ ∧ m_ ≤ w'.heap.size ∧ Kd.S (Kd.slice 5 (Kd.int .u8)) 37 w' w.heap.size (In w.heap.size m_) v0_ r1 ∧ Kd.S k50 50 w' w.heap.size (In m_ w'.heap.size) v1_ r2 ∧ Below w.heap.size w w':=by
 obtain ⟨_,hc0_,hf0_⟩:=Kd.V_at hs0_0
 obtain ⟨_,hc1_,hf1_⟩:=Kd.V_at hs0_1
 replace hf0_:=Kd.F_mono (ok':=In 0 w.heap.size) (Kd.F_bound hf0_) (fun k hk=>⟨Nat.zero_le k,hk.2⟩)
 replace hf1_:=Kd.F_mono (ok':=In 0 w.heap.size) (Kd.F_bound hf1_) (fun k hk=>⟨Nat.zero_le k,hk.2⟩)
 unfold impl_FallDevS.f at h
 split at h
 ·rename_i hok
  unfold okDevB at hok
  simp only [Bool.and_eq_true,decide_eq_true_eq] at hok
  obtain ⟨hok0,hok1⟩:=hok
  injection h with h
  unfold fallDev at h
  by_cases hdo:devOkB l0_0 l0_1 a0_2 = true
  ·rw [if_pos hdo] at h
   simp only [Prod.mk.injEq] at h
   obtain ⟨rfl,rfl,rfl,rfl⟩:=h
   unfold keepOf
   by_cases hwi:0 ≤ a1 ∧ a1 ≤ 1073741823
   ·rw [if_pos hwi]
    exact walk_FallDev2 _ _ _ _ _ _ _ _ _ w hf0_ hc0_ hf1_ hc1_ hok0 hok1 hdo (decide_eq_true hwi)
   ·rw [if_neg hwi]
    exact walk_FallDev3 _ _ _ _ _ _ _ _ _ w hf0_ hc0_ hf1_ hc1_ hok0 hok1 hdo (decide_eq_false hwi)
  ·rw [if_neg hdo] at h
   simp only [Prod.mk.injEq] at h
   obtain ⟨rfl,rfl,rfl,rfl⟩:=h
   exact walk_FallDev1 _ _ _ _ _ _ _ _ _ w hf0_ hc0_ hf1_ hc1_ hok0 hok1 (by simpa using hdo)
 ·cases h
end Go.Proofs.Ytilhcaofpfeioaa.Law

namespace Go.Proofs.Ytilhcaofpfeioaa.PFnDevsBent
open Go.Proofs.Ytilhcaofpfeioaa.Law Go.Proofs.Ytilhcaofpfeioaa.Core
open Go.RowKit Go.Proofs.YtilhcaofpfeioaaW.PrintWords Go.Proofs.YtilhcaofpfeioaaW.PrintLast Go.Proofs.YtilhcaofpfeioaaW.PrintMore
attribute [local go_sem] max2_int min2_int max_two min_two max_three min_three max_four min_four   -- for this text's walks alone
set_option linter.unusedVariables false
set_option linter.unusedSimpArgs false
def impl_burn.f (l0_0:List (List Int)) (l0_1:List (S50)) (a0_2:Int) (a0_3:Bool):Option ((List (List Int)) × (List (S50)) × Int × Bool × Bool):=if a0_2 = 0 then (some (l0_0,l0_1,(-1),true,false)) else (if a0_2 > 0 then (some (l0_0,l0_1,wrap64 (a0_2 - 1),a0_3,true)) else (some (l0_0,l0_1,a0_2,a0_3,true)))
def impl_WriteSec.f (l0_0:List (List Int)) (l0_1:List (S50)) (a0_2:Int) (a0_3:Bool) (a1:Int) (l2:List Int):Option ((List (List Int)) × (List (S50)) × Int × Bool):=impl_WriteSecS.f l0_0 l0_1 a0_2 a0_3 a1 l2
theorem impl_WriteSec.calls (A0_0:Option Addr) (c0_0:Nat) (l0_0:List (List Int)) (A0_1:Option Addr) (c0_1:Nat) (l0_1:List (S50)) (a0_2:Int) (a0_3:Bool) (a1:Int) (A2:Option Addr) (c2:Nat) (l2:List Int) (r1:List (List Int)) (r2:List (S50)) (r3:Int) (r4:Bool) (w:World) (hr0_0:Kd.C (Kd.slice 5 (Kd.int .u8)) w A0_0 l0_0.length l0_0) (hc0_0:l0_0.length ≤ c0_0) (hr0_1:Kd.C k50 w A0_1 l0_1.length l0_1) (hc0_1:l0_1.length ≤ c0_1) (hr2:Kd.C (Kd.int .u8) w A2 l2.length l2) (hc2:l2.length ≤ c2) (h:impl_WriteSec.f l0_0 l0_1 a0_2 a0_3 a1 l2 = some (r1,r2,r3,r4)) :
  Calls Try.prog 28 #[.agg #[.slice A0_0 l0_0.length c0_0,.slice A0_1 l0_1.length c0_1,.int .i64 a0_2,.bool a0_3],.int .i64 a1,.slice A2 l2.length c2] w fun e w'=>∃ v0_ v1_:Value,e = .returned (.agg #[v0_,v1_,.int .i64 r3,.bool r4]) ∧ Kd.N (Kd.slice 5 (Kd.int .u8)) 37 w' w.heap.size (fun k_=>(w.heap.size ≤ k_) ∧ some k_ ≠ (v1_:Value).ownBlock) v0_ r1 ∧ Kd.N k50 50 w' w.heap.size (fun k_=>(w.heap.size ≤ k_) ∧ some k_ ≠ (v0_:Value).ownBlock) v1_ r2 ∧ Below w.heap.size w w':=by
 exact (impl_WriteSecS.calls (In 0 w.heap.size) A0_0 c0_0 l0_0 (In 0 w.heap.size) A0_1 c0_1 l0_1 a0_2 a0_3 a1 (In 0 w.heap.size) A2 c2 l2 r1 r2 r3 r4 w ⟨_,_,rfl,hc0_0,C_F (Kd.heap_slice _ (Kd.heap_int _)) hr0_0⟩ ⟨_,_,rfl,hc0_1,C_F (Kd.heap_iso _ (Kd.heap_pair (Kd.heap_int _) (Kd.heap_slice _ (Kd.heap_int _)))) hr0_1⟩ ⟨_,_,rfl,hc2,C_F (Kd.heap_int _) hr2⟩ h).mono fun e w' ⟨v0,v1,m,he,h1,h2,h3,h4,h5⟩=>⟨v0,v1,he,Kd.aV (Kd.R_N (Kd.S_R h3)) (fun k_ hk_=>⟨hk_.1,fun he_=>by have h6:=(Kd.S_R h4).1 k_ he_.symm;unfold In at h6 hk_;omega⟩),Kd.aV (Kd.R_N (Kd.S_R h4)) (fun k_ hk_=>⟨Nat.le_trans h1 hk_.1,fun he_=>by have h6:=(Kd.S_R h3).1 k_ he_.symm;unfold In at h6 hk_;omega⟩),h5⟩
-- NOT PRINTED: function 60 (spec_l2Flush)
-- NOT PRINTED: function 29 (spec_FlushDev)
def impl_FlushDev.f (l0_0:List (List Int)) (l0_1:List (S50)) (a0_2:Int) (a0_3:Bool):Option ((List (List Int)) × (List (S50)) × Int × Bool):=impl_FlushDevS.f l0_0 l0_1 a0_2 a0_3
theorem impl_FlushDev.calls (A0_0:Option Addr) (c0_0:Nat) (l0_0:List (List Int)) (A0_1:Option Addr) (c0_1:Nat) (l0_1:List (S50)) (a0_2:Int) (a0_3:Bool) (r1:List (List Int)) (r2:List (S50)) (r3:Int) (r4:Bool) (w:World) (hr0_0:Kd.C (Kd.slice 5 (Kd.int .u8)) w A0_0 l0_0.length l0_0) (hc0_0:l0_0.length ≤ c0_0) (hr0_1:Kd.C k50 w A0_1 l0_1.length l0_1) (hc0_1:l0_1.length ≤ c0_1) (h:impl_FlushDev.f l0_0 l0_1 a0_2 a0_3 = some (r1,r2,r3,r4)) :
  Calls Try.prog 30 #[.agg #[.slice A0_0 l0_0.length c0_0,.slice A0_1 l0_1.length c0_1,.int .i64 a0_2,.bool a0_3]] w fun e w'=>∃ v0_ v1_:Value,e = .returned (.agg #[v0_,v1_,.int .i64 r3,.bool r4]) ∧ Kd.N (Kd.slice 5 (Kd.int .u8)) 37 w' w.heap.size (fun k_=>(w.heap.size ≤ k_) ∧ some k_ ≠ (v1_:Value).ownBlock) v0_ r1 ∧ Kd.N k50 50 w' w.heap.size (fun k_=>(w.heap.size ≤ k_) ∧ some k_ ≠ (v0_:Value).ownBlock) v1_ r2 ∧ Below w.heap.size w w':=by
 exact (impl_FlushDevS.calls (In 0 w.heap.size) A0_0 c0_0 l0_0 (In 0 w.heap.size) A0_1 c0_1 l0_1 a0_2 a0_3 r1 r2 r3 r4 w ⟨_,_,rfl,hc0_0,C_F (Kd.heap_slice _ (Kd.heap_int _)) hr0_0⟩ ⟨_,_,rfl,hc0_1,C_F (Kd.heap_iso _ (Kd.heap_pair (Kd.heap_int _) (Kd.heap_slice _ (Kd.heap_int _)))) hr0_1⟩ h).mono fun e w' ⟨v0,v1,m,he,h1,h2,h3,h4,h5⟩=>⟨v0,v1,he,Kd.aV (Kd.R_N (Kd.S_R h3)) (fun k_ hk_=>⟨hk_.1,fun he_=>by have h6:=(Kd.S_R h4).1 k_ he_.symm;unfold In at h6 hk_;omega⟩),Kd.aV (Kd.R_N (Kd.S_R h4)) (fun k_ hk_=>⟨Nat.le_trans h1 hk_.1,fun he_=>by have h6:=(Kd.S_R h3).1 k_ he_.symm;unfold In at h6 hk_;omega⟩),h5⟩
mutual
def spec_FallDev.j0:Nat → Int → List (List Int) → List (S50) → Int → Bool → Option ((List (List Int)) × (List (S50)) × Int × Bool)
 | 0,_,_,_,_,_=>none
 | k + 1,x1,x269000,x269001,x269002,x269003=>spec_FallDev.l0 k x1 0 x269000 x269001 x269002 x269003
def spec_FallDev.l0:Nat → Int → Int → List (List Int) → List (S50) → Int → Bool → Option ((List (List Int)) × (List (S50)) × Int × Bool)
 | 0,_,_,_,_,_,_=>none
 | k + 1,x1,x6,x269000,x269001,x269002,x269003=>if x6 < (x269001.length:Int) then (spec_FallDev.j2 k x1 x6 (decide (x6 < 30)) x269000 x269001 x269002 x269003) else (spec_FallDev.j2 k x1 x6 false x269000 x269001 x269002 x269003)
def spec_FallDev.j2:Nat → Int → Int → Bool → List (List Int) → List (S50) → Int → Bool → Option ((List (List Int)) × (List (S50)) × Int × Bool)
 | 0,_,_,_,_,_,_,_=>none
 | k + 1,x1,x6,x24,x269000,x269001,x269002,x269003=>if x24 = true then (if 0 ≤ (IntKind.u64.wrap (x6)) then (if (Go.bits .and .i64 (shr .i64 x1 (IntKind.u64.wrap (x6))) 1) = 1 then (if 0 ≤ x6 then (if x6 < (x269001.length:Int) then (if 0 ≤ ((rd_T50 x269001 x6).f0) then (if ((rd_T50 x269001 x6).f0) < (x269000.length:Int) then (spec_FallDev.l0 k x1 (wrap64 (x6 + 1)) (x269000.set (((rd_T50 x269001 x6).f0):Int).toNat ((rd_T50 x269001 x6).f1)) x269001 x269002 x269003) else (none)) else (none)) else (none)) else (none)) else (spec_FallDev.l0 k x1 (wrap64 (x6 + 1)) x269000 x269001 x269002 x269003)) else (none)) else (some (x269000,(([]:List (S50))),(-1),false))
end
def spec_FallDev.f (k:Nat) (l0_0:List (List Int)) (l0_1:List (S50)) (a0_2:Int) (a0_3:Bool) (a1:Int):Option ((List (List Int)) × (List (S50)) × Int × Bool):=(spec_l2Copy.f k l0_0 l0_1 a0_2 a0_3).bind fun bt260=>((spec_DevOk.f k l0_0 l0_1 a0_2 a0_3).bind fun t269=>(if t269 = true then ((spec_l1In.f a1 0 1073741823).bind fun t270=>(if t270 = true then (spec_FallDev.j0 k a1 bt260.1 bt260.2.1 bt260.2.2.1 bt260.2.2.2) else (spec_FallDev.j0 k 0 bt260.1 bt260.2.1 bt260.2.2.1 bt260.2.2.2))) else (some (bt260.1,bt260.2.1,bt260.2.2.1,bt260.2.2.2))))
def spec_FallDev.T10:Bool × List (List Nat × List Nat):=(true,[([],[]),([0],[0]),([],[]),([2],[2]),([],[]),([3,4],[3,4]),([5],[5]),([6],[6]),([],[]),([8],[8]),([],[]),([9,10],[9,10]),([11],[11]),([12],[12]),([1,7,0,1,2,3,4,5,6,7,8,9,10,11,12,13],[1,7]),([14,13,0,1,2,3,4,5,6,7,8,9,10,11,12,13],[13,14])])
def spec_FallDev.B10:List Nat:=[0,1,0,4,0,28,60,124,0,256,0,1792,3840,7936,16383,32767]
theorem spec_FallDev.tab10:rtab .any (opsOf Try.f31 10) = spec_FallDev.T10:=by kernel_rfl
theorem spec_FallDev.bits10:waitsOk spec_FallDev.T10.2 spec_FallDev.B10 = true:=by kernel_rfl
set_option maxHeartbeats 8000000 in
set_option maxRecDepth 100000 in
theorem spec_FallDev.calls (k:Nat) (A0_0:Option Addr) (c0_0:Nat) (l0_0:List (List Int)) (A0_1:Option Addr) (c0_1:Nat) (l0_1:List (S50)) (a0_2:Int) (a0_3:Bool) (a1:Int) (r1:List (List Int)) (r2:List (S50)) (r3:Int) (r4:Bool) (w:World) (hr0_0:Kd.C (Kd.slice 5 (Kd.int .u8)) w A0_0 l0_0.length l0_0) (hc0_0:l0_0.length ≤ c0_0) (hr0_1:Kd.C k50 w A0_1 l0_1.length l0_1) (hc0_1:l0_1.length ≤ c0_1) (h:spec_FallDev.f k l0_0 l0_1 a0_2 a0_3 a1 = some (r1,r2,r3,r4)) :
  Calls Try.prog 31 #[.agg #[.slice A0_0 l0_0.length c0_0,.slice A0_1 l0_1.length c0_1,.int .i64 a0_2,.bool a0_3],.int .i64 a1] w fun e w'=>∃ v0_ v1_:Value,e = .returned (.agg #[v0_,v1_,.int .i64 r3,.bool r4]) ∧ Kd.N (Kd.slice 5 (Kd.int .u8)) 37 w' w.heap.size (fun k_=>(w.heap.size ≤ k_) ∧ some k_ ≠ (v1_:Value).ownBlock) v0_ r1 ∧ Kd.N k50 50 w' w.heap.size (fun k_=>(w.heap.size ≤ k_) ∧ some k_ ≠ (v0_:Value).ownBlock) v1_ r2 ∧ Below w.heap.size w w':=by
 have hu25:=Try.underlying25
 have HR0_0:=aA.mk hr0_0
 have HC0_0:=aA.mk hc0_0
 clear hr0_0 hc0_0
 have HR0_1:=aA.mk hr0_1
 have HC0_1:=aA.mk hc0_1
 clear hr0_1 hc0_1
 have HB:=aA.mk (Below.refl w.heap.size w)
 have H:((spec_l2Copy.f k l0_0 l0_1 a0_2 a0_3).bind fun bt260=>((spec_DevOk.f k l0_0 l0_1 a0_2 a0_3).bind fun t269=>(if t269 = true then ((spec_l1In.f a1 0 1073741823).bind fun t270=>(if t270 = true then (spec_FallDev.j0 k a1 bt260.1 bt260.2.1 bt260.2.2.1 bt260.2.2.2) else (spec_FallDev.j0 k 0 bt260.1 bt260.2.1 bt260.2.2.1 bt260.2.2.2))) else (some (bt260.1,bt260.2.1,bt260.2.2.1,bt260.2.2.2))))) = some (r1,r2,r3,r4):=h
 clear h
 replace H:=lF H
 obtain ⟨⟨t260,t263,t266,t267⟩,A30,H⟩:=H
 replace H:((spec_DevOk.f k l0_0 l0_1 a0_2 a0_3).bind fun t269=>(if t269 = true then ((spec_l1In.f a1 0 1073741823).bind fun t270=>(if t270 = true then (spec_FallDev.j0 k a1 t260 t263 t266 t267) else (spec_FallDev.j0 k 0 t260 t263 t266 t267))) else (some (t260,t263,t266,t267)))) = some (r1,r2,r3,r4):=H
 have A3:=aA.mk A30
 clear A30
 replace H:=lF H
 obtain ⟨t269,A40,H⟩:=H
 replace H:(if t269 = true then ((spec_l1In.f a1 0 1073741823).bind fun t270=>(if t270 = true then (spec_FallDev.j0 k a1 t260 t263 t266 t267) else (spec_FallDev.j0 k 0 t260 t263 t266 t267))) else (some (t260,t263,t266,t267))) = some (r1,r2,r3,r4):=H
 have A4:=aA.mk A40
 clear A40
 by_cases c5:t269 = true
 ·subst c5
  have H1:((spec_l1In.f a1 0 1073741823).bind fun t270=>(if t270 = true then (spec_FallDev.j0 k a1 t260 t263 t266 t267) else (spec_FallDev.j0 k 0 t260 t263 t266 t267))) = some (r1,r2,r3,r4):=by rw [if_pos rfl] at H;exact H
  clear H
  have H:=H1
  clear H1
  replace H:=lF H
  obtain ⟨t270,A60,H⟩:=H
  replace H:(if t270 = true then (spec_FallDev.j0 k a1 t260 t263 t266 t267) else (spec_FallDev.j0 k 0 t260 t263 t266 t267)) = some (r1,r2,r3,r4):=H
  have A6:=aA.mk A60
  clear A60
  have HC7:=aA.mk H
  clear H
  go_enter Try.func31,Try.ntmps31
  go_upto_if 15 with (first|((with_reducible refine bC (N:=2) rfl ?_);refine bD ?hg (N:=2) ?hd (cs:=#[.slice A0_0 l0_0.length c0_0,.slice A0_1 l0_1.length c0_1,.int .i64 a0_2,.bool a0_3]) (t:=25) ?hr ?_;(case hd=>rfl);(case hg=>rfl);(case hr=>exact tE);intro gb258 hg w8 hbox hb;have BK258:=aA.mk (hbox);have GW258:=aA.mk ((by rw [hg];exact (aX tp):w.heap.size ≤ gb258));have GE258:=aA.mk ((by rw [hg];exact (aX tp):w.heap.size ≤ gb258));replace HB:=aA.mk (aT tp hb);clear hb hbox hg)|((with_reducible refine bC (N:=4) rfl ?_);refine bD ?hg (N:=4) ?hd (cs:=#[.slice none 0 0,.slice none 0 0,.int .i64 0,.bool false]) (t:=25) ?hr ?_;(case hd=>rfl);(case hg=>rfl);(case hr=>exact tE);intro gb259 hg w9 hbox hb;have BK259:=aA.mk (hbox);have GW259:=aA.mk ((by rw [hg];exact (aX vq):w.heap.size ≤ gb259));have GE259:=aA.mk ((by rw [hg];exact (aX vq):w.heap.size ≤ gb259));replace HB:=aA.mk (aT vq hb);have NB258_259:=aA.mk ((by rw [hg];exact Nat.ne_of_lt (bJ (g:=gb258) (o:=.cells #[.slice A0_0 l0_0.length c0_0,.slice A0_1 l0_1.length c0_1,.int .i64 a0_2,.bool a0_3] 25 (0,0)) tm):gb258 ≠ gb259));have NB259_258:=aA.mk ((by rw [hg];exact Nat.ne_of_gt (bJ (g:=gb258) (o:=.cells #[.slice A0_0 l0_0.length c0_0,.slice A0_1 l0_1.length c0_1,.int .i64 a0_2,.bool a0_3] 25 (0,0)) tm):gb259 ≠ gb258));replace BK258:=aA.mk (bM (g:=gb258) (o:=.cells #[.slice A0_0 l0_0.length c0_0,.slice A0_1 l0_1.length c0_1,.int .i64 a0_2,.bool a0_3] 25 (0,0)) tm hb);clear hb hbox hg;have hnb10:=NB258_259.out;have hnc10:=NB259_258.out;obtain ⟨hcz11_0,hcz11_1,hcz11_2,hcz11_3⟩:=cs4 BK258.out;obtain ⟨hfz11_0,hfz11_1,hfz11_2,hfz11_3⟩:=fs4 BK258.out)|((with_reducible refine aW (f:=56) rfl ?_);refine bK (some 8) rfl rfl Try.func56 tG rfl #[.agg #[.slice A0_0 l0_0.length c0_0,.slice A0_1 l0_1.length c0_1,.int .i64 a0_2,.bool a0_3]] rfl tC ?_;(with_reducible refine (spec_l2Copy.calls k _ _ l0_0 _ _ l0_1 a0_2 a0_3 t260 t263 t266 t267 _ ?side1 ?side2 ?side3 ?side4 A3.out).mono ?_);(case side1=>exact (Kd.C_below HR0_0.out HB.out));(case side2=>exact Ay);(case side3=>exact (Kd.C_below HR0_1.out HB.out));(case side4=>exact Ax);rintro e w12 ⟨v261,v264,rfl,ho0,ho1,hb⟩;refine ⟨_,rfl,?_⟩;have HO262:=aA.mk (Kd.N_lower (Kd.aV (ok':=fun k_=>(w.heap.size ≤ k_) ∧ some k_ ≠ (v264:Value).ownBlock ∧ k_ ≠ gb258 ∧ k_ ≠ gb259) (Kd.S_N (Kd.S_bound (Kd.S_apart' ho0 (Kd.S_typed ho1) tf))) (fun k_ hk_=>⟨(Nat.le_trans (aX tc) hk_.2.1),hk_.1.2,(Kd.freshB (g:=gb258) (o:=.cells #[.slice A0_0 l0_0.length c0_0,.slice A0_1 l0_1.length c0_1,.int .i64 a0_2,.bool a0_3] 25 (0,0)) tm k_ hk_.2.1),(Kd.freshB (g:=gb259) (o:=.cells #[.slice none 0 0,.slice none 0 0,.int .i64 0,.bool false] 25 (0,0)) t8 k_ hk_.2.1)⟩)) (aX tc));have HO265:=aA.mk (Kd.N_lower (Kd.aV (ok':=fun k_=>(w.heap.size ≤ k_) ∧ some k_ ≠ (v261:Value).ownBlock ∧ k_ ≠ gb258 ∧ k_ ≠ gb259) (Kd.S_N (Kd.S_bound (Kd.S_apart' ho1 (Kd.S_typed ho0) tf))) (fun k_ hk_=>⟨(Nat.le_trans (aX tc) hk_.2.1),hk_.1.2,(Kd.freshB (g:=gb258) (o:=.cells #[.slice A0_0 l0_0.length c0_0,.slice A0_1 l0_1.length c0_1,.int .i64 a0_2,.bool a0_3] 25 (0,0)) tm k_ hk_.2.1),(Kd.freshB (g:=gb259) (o:=.cells #[.slice none 0 0,.slice none 0 0,.int .i64 0,.bool false] 25 (0,0)) t8 k_ hk_.2.1)⟩)) (aX tc));replace BK258:=aA.mk (bM (g:=gb258) (o:=.cells #[.slice A0_0 l0_0.length c0_0,.slice A0_1 l0_1.length c0_1,.int .i64 a0_2,.bool a0_3] 25 (0,0)) tm hb);replace BK259:=aA.mk (bM (g:=gb259) (o:=.cells #[.slice none 0 0,.slice none 0 0,.int .i64 0,.bool false] 25 (0,0)) t8 hb);replace HB:=aA.mk (aT tc hb);(try clear hb);(try clear hk);(try clear ho0);(try clear ho1))|((with_reducible refine bC (N:=5) rfl ?_);refine bD ?hg (N:=5) ?hd (cs:=#[.slice none 0 0,.slice none 0 0,.int .i64 0,.bool false]) (t:=25) ?hr ?_;(case hd=>rfl);(case hg=>rfl);(case hr=>exact tE);intro gb268 hg w13 hbox hb;replace HO262:=aA.mk (Kd.N_below (Kd.N_elderB (by (with_reducible repeat (first|apply Kd.bW|apply Kd.bX|apply Kd.bV));exact HO262.out) gb268 (Nat.le_of_eq hg.symm)) hb);replace HO265:=aA.mk (Kd.N_below (Kd.N_elderB (by (with_reducible repeat (first|apply Kd.bW|apply Kd.bX|apply Kd.bV));exact HO265.out) gb268 (Nat.le_of_eq hg.symm)) hb);have BK268:=aA.mk (hbox);have GW268:=aA.mk ((by rw [hg];exact (aX tc):w.heap.size ≤ gb268));have GE268:=aA.mk ((by rw [hg];exact (aX tc):w.heap.size ≤ gb268));replace HB:=aA.mk (aT tc hb);have NB258_268:=aA.mk ((by rw [hg];exact Nat.ne_of_lt (bJ (g:=gb258) (o:=.cells #[.slice A0_0 l0_0.length c0_0,.slice A0_1 l0_1.length c0_1,.int .i64 a0_2,.bool a0_3] 25 (0,0)) tm):gb258 ≠ gb268));have NB268_258:=aA.mk ((by rw [hg];exact Nat.ne_of_gt (bJ (g:=gb258) (o:=.cells #[.slice A0_0 l0_0.length c0_0,.slice A0_1 l0_1.length c0_1,.int .i64 a0_2,.bool a0_3] 25 (0,0)) tm):gb268 ≠ gb258));replace BK258:=aA.mk (bM (g:=gb258) (o:=.cells #[.slice A0_0 l0_0.length c0_0,.slice A0_1 l0_1.length c0_1,.int .i64 a0_2,.bool a0_3] 25 (0,0)) tm hb);have NB259_268:=aA.mk ((by rw [hg];exact Nat.ne_of_lt (bJ (g:=gb259) (o:=.cells #[.slice none 0 0,.slice none 0 0,.int .i64 0,.bool false] 25 (0,0)) t8):gb259 ≠ gb268));have NB268_259:=aA.mk ((by rw [hg];exact Nat.ne_of_gt (bJ (g:=gb259) (o:=.cells #[.slice none 0 0,.slice none 0 0,.int .i64 0,.bool false] 25 (0,0)) t8):gb268 ≠ gb259));replace BK259:=aA.mk (bM (g:=gb259) (o:=.cells #[.slice none 0 0,.slice none 0 0,.int .i64 0,.bool false] 25 (0,0)) t8 hb);clear hb hbox hg;obtain ⟨Ao14,co14,eo14⟩:=Kd.cB HO262.out;subst eo14;have hnb15:=NB268_258.out;have hnc15:=NB258_268.out;have hnb16:=NB268_259.out;have hnc16:=NB259_268.out;obtain ⟨hcz17_0,hcz17_1,hcz17_2,hcz17_3⟩:=cs4 BK268.out;obtain ⟨hfz17_0,hfz17_1,hfz17_2,hfz17_3⟩:=fs4 BK268.out;obtain ⟨Ao18,co18,eo18⟩:=Kd.cB HO265.out;subst eo18;obtain ⟨hcz19_0,hcz19_1,hcz19_2,hcz19_3⟩:=cs4 BK258.out;obtain ⟨hfz19_0,hfz19_1,hfz19_2,hfz19_3⟩:=fs4 BK258.out)|((with_reducible refine aW (f:=18) rfl ?_);refine bK (some 10) rfl rfl Try.func18 tG rfl #[.agg #[.slice A0_0 l0_0.length c0_0,.slice A0_1 l0_1.length c0_1,.int .i64 a0_2,.bool a0_3]] rfl tC ?_;(with_reducible refine (spec_DevOk.calls k _ _ l0_0 _ _ l0_1 a0_2 a0_3 true _ ?side1 ?side2 ?side3 ?side4 A4.out).mono ?_);(case side1=>exact Kd.C_below HR0_0.out t4);(case side2=>exact Ay);(case side3=>exact Kd.C_below HR0_1.out t4);(case side4=>exact Ax);rintro e w20 ⟨rfl,hb⟩;refine ⟨_,rfl,?_⟩;replace HO262:=aA.mk (Kd.N_below (by (with_reducible repeat (first|apply Kd.bW|apply Kd.bX|apply Kd.bV));exact (Kd.aV (Kd.bH (p:=⟨gb268,3,none⟩) (Kd.bH (p:=⟨gb268,2,none⟩) (Kd.bH (p:=⟨gb268,1,none⟩) (Kd.bH (p:=⟨gb268,0,none⟩) (Kd.aV HO262.out (fun k_ hk=>(⟨hk,hk.2⟩:_ ∧ k_ ≠ gb268))) (fun _ hk=>hk.2) (.slice Ao14 t260.length co14)) (fun _ hk=>hk.2) (.slice Ao18 t263.length co18)) (fun _ hk=>hk.2) (.int .i64 t266)) (fun _ hk=>hk.2) (.bool t267)) (fun _ h_=>h_.1))) hb);replace HO265:=aA.mk (Kd.N_below (by (with_reducible repeat (first|apply Kd.bW|apply Kd.bX|apply Kd.bV));exact (Kd.aV (Kd.bH (p:=⟨gb268,3,none⟩) (Kd.bH (p:=⟨gb268,2,none⟩) (Kd.bH (p:=⟨gb268,1,none⟩) (Kd.bH (p:=⟨gb268,0,none⟩) (Kd.aV HO265.out (fun k_ hk=>(⟨hk,hk.2⟩:_ ∧ k_ ≠ gb268))) (fun _ hk=>hk.2) (.slice Ao14 t260.length co14)) (fun _ hk=>hk.2) (.slice Ao18 t263.length co18)) (fun _ hk=>hk.2) (.int .i64 t266)) (fun _ hk=>hk.2) (.bool t267)) (fun _ h_=>h_.1))) hb);replace BK258:=aA.mk (bM (g:=gb258) (o:=.cells #[.slice A0_0 l0_0.length c0_0,.slice A0_1 l0_1.length c0_1,.int .i64 a0_2,.bool a0_3] 25 (0,0)) vy hb);replace BK259:=aA.mk (bM (g:=gb259) (o:=.cells #[.slice none 0 0,.slice none 0 0,.int .i64 0,.bool false] 25 (0,0)) vx hb);replace BK268:=aA.mk (bM (g:=gb268) (o:=.cells #[.slice Ao14 t260.length co14,.slice Ao18 t263.length co18,.int .i64 t266,.bool t267] 25 (0,0)) (by (with_reducible repeat (first|refine aM ?_ _|refine aN ?_|refine aG ?_ _));refine aQ (cs:=#[.slice Ao14 t260.length co14,.slice Ao18 t263.length co18,.int .i64 t266,.bool false]) ?_ 3 _ rfl;(with_reducible repeat (first|refine aM ?_ _|refine aN ?_|refine aG ?_ _));refine aQ (cs:=#[.slice Ao14 t260.length co14,.slice Ao18 t263.length co18,.int .i64 0,.bool false]) ?_ 2 _ rfl;(with_reducible repeat (first|refine aM ?_ _|refine aN ?_|refine aG ?_ _));refine aQ (cs:=#[.slice Ao14 t260.length co14,.slice none 0 0,.int .i64 0,.bool false]) ?_ 1 _ rfl;(with_reducible repeat (first|refine aM ?_ _|refine aN ?_|refine aG ?_ _));refine aQ (cs:=#[.slice none 0 0,.slice none 0 0,.int .i64 0,.bool false]) ?_ 0 _ rfl;(with_reducible repeat (first|refine aM ?_ _|refine aN ?_|refine aG ?_ _));exact BK268.out) hb);replace HB:=aA.mk (aT t4 hb);(try clear hb);(try clear hk))|((with_reducible refine aW (f:=43) rfl ?_);refine bK (some 14) rfl rfl Try.func43 tG rfl #[.int .i64 a1,.int .i64 0,.int .i64 1073741823] rfl tC ?_;(with_reducible refine (spec_l1In.calls a1 0 1073741823 t270 _ A6.out).mono ?_);rintro e w' ⟨rfl,⟨nd,rfl⟩⟩;refine ⟨_,rfl,?_⟩))
  (try simp only [Act.put,lA,lB,lC])
  go_cut [1] (fun v1 wc=>∃ (kq:Nat) (x1_6:Int),v1 = .int .i64 x1_6 ∧ aA (spec_FallDev.j0 kq x1_6 t260 t263 t266 t267 = some (r1,r2,r3,r4)) ∧ aA (kq ≤ k) ∧ aA (Kd.N (Kd.slice 5 (Kd.int .u8)) 37 wc w.heap.size (fun k_=>(w.heap.size ≤ k_) ∧ some k_ ≠ ((.slice Ao18 t263.length co18):Value).ownBlock ∧ k_ ≠ gb258 ∧ k_ ≠ gb259 ∧ k_ ≠ gb268) (.slice Ao14 t260.length co14) t260) ∧ aA (Kd.N k50 50 wc w.heap.size (fun k_=>(w.heap.size ≤ k_) ∧ some k_ ≠ ((.slice Ao14 t260.length co14):Value).ownBlock ∧ k_ ≠ gb258 ∧ k_ ≠ gb259 ∧ k_ ≠ gb268) (.slice Ao18 t263.length co18) t263) ∧ aA (wc.heap[gb258]? = some (.cells #[(.slice A0_0 l0_0.length c0_0),(.slice A0_1 l0_1.length c0_1),.int .i64 a0_2,.bool a0_3] 25 (0,0))) ∧ aA (wc.heap[gb259]? = some (.cells #[(.slice none 0 0),(.slice none 0 0),.int .i64 0,.bool false] 25 (0,0))) ∧ aA (wc.heap[gb268]? = some (.cells #[(.slice Ao14 t260.length co14),(.slice Ao18 t263.length co18),.int .i64 t266,.bool t267] 25 (0,0))) ∧ aA (Below w.heap.size w wc))
  case first =>
   have H:=HC7.out
   clear HC7
   by_cases c21:t270 = true
   ·subst c21
    have H1:(spec_FallDev.j0 k a1 t260 t263 t266 t267) = some (r1,r2,r3,r4):=by rw [if_pos rfl] at H;exact H
    clear H
    have H:=H1
    clear H1
    have H':=aA.mk H
    clear H
    go_wp2
    go_meet
    case rel=>exact ⟨_,(a1),td,H',⟨wW⟩,⟨Ar⟩,⟨Aq⟩,⟨wF⟩,⟨wE⟩,⟨wD⟩,⟨t9⟩⟩
   ·replace c21:=Bool.eq_false_iff.mpr c21
    subst c21
    have H1:(spec_FallDev.j0 k 0 t260 t263 t266 t267) = some (r1,r2,r3,r4):=by rw [if_neg (show ¬ (false = true) by decide)] at H;exact H
    clear H
    have H:=H1
    clear H1
    have H':=aA.mk H
    clear H
    go_wp2
    go_meet
    case rel=>exact ⟨_,(0),td,H',⟨wW⟩,⟨Ar⟩,⟨Aq⟩,⟨wF⟩,⟨wE⟩,⟨wD⟩,⟨t9⟩⟩
  case rest =>
   clear HC7
   try clear c1
   try clear c2
   try clear p2
   try clear c3
   try clear c4
   try clear c5
   try clear c10
   try clear c15
   try clear c16
   try clear c18
   try clear c21
   try clear hcz11_0
   try clear hcz11_1
   try clear hcz11_2
   try clear hcz11_3
   try clear hcz17_0
   try clear hcz17_1
   try clear hcz17_2
   try clear hcz17_3
   try clear hcz19_0
   try clear hcz19_1
   try clear hcz19_2
   try clear hcz19_3
   try clear hfz11_0
   try clear hfz11_1
   try clear hfz11_2
   try clear hfz11_3
   try clear hfz17_0
   try clear hfz17_1
   try clear hfz17_2
   try clear hfz17_3
   try clear hfz19_0
   try clear hfz19_1
   try clear hfz19_2
   try clear hfz19_3
   obtain ⟨kq,x1_6,rfl,HA,HJ6,HO_269000,HO_269001,BK258,BK259,BK268,HB⟩:=hcut
   cases kq with
   | zero=>exact absurd HA.out (by simp [spec_FallDev.j0])
   | succ kj6 =>
    have H:=HA.out
    clear HA
    simp only [spec_FallDev.j0] at H
    have H':=aA.mk H
    clear H
    go_wp2
    go_loopg [6] kj6 (fun kq v6 w'=>∃ (x6_2:Int) (x269000_2:List (List Int)) (u269000:Value),v6 = .int .i64 x6_2 ∧ aA (spec_FallDev.l0 kq x1_6 x6_2 x269000_2 t263 t266 t267 = some (r1,r2,r3,r4)) ∧ aA (kq ≤ kj6) ∧ aA (Kd.N (Kd.slice 5 (Kd.int .u8)) 37 w' w.heap.size (fun k_=>(w.heap.size ≤ k_) ∧ some k_ ≠ ((.slice Ao18 t263.length co18):Value).ownBlock ∧ k_ ≠ gb258 ∧ k_ ≠ gb259 ∧ k_ ≠ gb268) u269000 x269000_2) ∧ aA (Kd.N k50 50 w' w.heap.size (fun k_=>(w.heap.size ≤ k_) ∧ some k_ ≠ (u269000:Value).ownBlock ∧ k_ ≠ gb258 ∧ k_ ≠ gb259 ∧ k_ ≠ gb268) (.slice Ao18 t263.length co18) t263) ∧ aA (w'.heap[gb258]? = some (.cells #[(.slice A0_0 l0_0.length c0_0),(.slice A0_1 l0_1.length c0_1),.int .i64 a0_2,.bool a0_3] 25 (0,0))) ∧ aA (w'.heap[gb259]? = some (.cells #[(.slice none 0 0),(.slice none 0 0),.int .i64 0,.bool false] 25 (0,0))) ∧ aA (w'.heap[gb268]? = some (.cells #[u269000,(.slice Ao18 t263.length co18),.int .i64 t266,.bool t267] 25 (0,0))) ∧ aA (Below w.heap.size w w'))
    case atStart=>exact ⟨(0),(t260),(.slice Ao14 t260.length co14),td,H',⟨Nat.le_refl _⟩,⟨AA⟩,⟨wz⟩,⟨wF⟩,⟨wE⟩,⟨wD⟩,⟨t9⟩⟩
    case round =>
     clear H'
     try clear c1
     try clear c2
     try clear p2
     try clear c3
     try clear c4
     try clear c5
     try clear c10
     try clear c15
     try clear c16
     try clear c18
     try clear c21
     try clear hcz11_0
     try clear hcz11_1
     try clear hcz11_2
     try clear hcz11_3
     try clear hcz17_0
     try clear hcz17_1
     try clear hcz17_2
     try clear hcz17_3
     try clear hcz19_0
     try clear hcz19_1
     try clear hcz19_2
     try clear hcz19_3
     try clear hfz11_0
     try clear hfz11_1
     try clear hfz11_2
     try clear hfz11_3
     try clear hfz17_0
     try clear hfz17_1
     try clear hfz17_2
     try clear hfz17_3
     try clear hfz19_0
     try clear hfz19_1
     try clear hfz19_2
     try clear hfz19_3
     try clear p2
     obtain ⟨x6_2,x269000_2,u269000,rfl,HA,HK2,HO_269000,HO_269001,BK258,BK259,BK268,HB⟩:=hrel
     cases gk with
     | zero=>exact absurd HA.out (by simp [spec_FallDev.l0])
     | succ k2 =>
      have H:=HA.out
      clear HA
      simp only [spec_FallDev.l0] at H
      have HC22:=aA.mk H
      clear H
      go_upto_region 7 with (fail)
      go_cut [24] (fun v24 wc=>∃ (kq:Nat) (x24_21:Bool),v24 = .bool x24_21 ∧ aA (spec_FallDev.j2 kq x1_6 x6_2 x24_21 x269000_2 t263 t266 t267 = some (r1,r2,r3,r4)) ∧ aA (kq ≤ k2) ∧ aA (Kd.N (Kd.slice 5 (Kd.int .u8)) 37 wc w.heap.size (fun k_=>(w.heap.size ≤ k_) ∧ some k_ ≠ ((.slice Ao18 t263.length co18):Value).ownBlock ∧ k_ ≠ gb258 ∧ k_ ≠ gb259 ∧ k_ ≠ gb268) u269000 x269000_2) ∧ aA (Kd.N k50 50 wc w.heap.size (fun k_=>(w.heap.size ≤ k_) ∧ some k_ ≠ (u269000:Value).ownBlock ∧ k_ ≠ gb258 ∧ k_ ≠ gb259 ∧ k_ ≠ gb268) (.slice Ao18 t263.length co18) t263) ∧ aA (wc.heap[gb258]? = some (.cells #[(.slice A0_0 l0_0.length c0_0),(.slice A0_1 l0_1.length c0_1),.int .i64 a0_2,.bool a0_3] 25 (0,0))) ∧ aA (wc.heap[gb259]? = some (.cells #[(.slice none 0 0),(.slice none 0 0),.int .i64 0,.bool false] 25 (0,0))) ∧ aA (wc.heap[gb268]? = some (.cells #[u269000,(.slice Ao18 t263.length co18),.int .i64 t266,.bool t267] 25 (0,0))) ∧ aA (Below w.heap.size w wc))
      case first =>
       have H:=HC22.out
       clear HC22
       by_cases c23:x6_2 < (t263.length:Int)
       ·rw [if_pos c23] at H
        have c23b0:decide (x6_2 < (t263.length:Int)) = true:=decide_eq_true c23
        clear c23
        (first|rw [c23b0]|(simp only [bE,bG];rw [c23b0])|skip)
        have H':=aA.mk H
        clear H
        have hnb24:=NB268_258.out
        have hnc24:=NB258_268.out
        have hnb25:=NB268_259.out
        have hnc25:=NB259_268.out
        obtain ⟨hcz26_0,hcz26_1,hcz26_2,hcz26_3⟩:=cs4 BK268.out
        obtain ⟨hfz26_0,hfz26_1,hfz26_2,hfz26_3⟩:=fs4 BK268.out
        go_wp2
        go_meet
        case rel=>exact ⟨_,(decide (x6_2 < 30)),td,H',⟨by have:=HJ6.out;have:=HK2.out;first|omega|exact Nat.le_refl _⟩,⟨AA⟩,⟨wz⟩,⟨wF⟩,⟨wE⟩,⟨wD⟩,⟨t9⟩⟩
       ·rw [if_neg c23] at H
        have c23b0:decide (x6_2 < (t263.length:Int)) = false:=decide_eq_false c23
        clear c23
        (first|rw [c23b0]|(simp only [bE,bG];rw [c23b0])|skip)
        have H':=aA.mk H
        clear H
        have hnb27:=NB268_258.out
        have hnc27:=NB258_268.out
        have hnb28:=NB268_259.out
        have hnc28:=NB259_268.out
        obtain ⟨hcz29_0,hcz29_1,hcz29_2,hcz29_3⟩:=cs4 BK268.out
        obtain ⟨hfz29_0,hfz29_1,hfz29_2,hfz29_3⟩:=fs4 BK268.out
        go_wp2
        go_meet
        case rel=>exact ⟨_,(false),td,H',⟨by have:=HJ6.out;have:=HK2.out;first|omega|exact Nat.le_refl _⟩,⟨AA⟩,⟨wz⟩,⟨wF⟩,⟨wE⟩,⟨wD⟩,⟨t9⟩⟩
      case rest =>
       clear HC22
       try clear c1
       try clear c2
       try clear p2
       try clear c3
       try clear c4
       try clear c5
       try clear c10
       try clear c15
       try clear c16
       try clear c18
       try clear c21
       try clear c23
       try clear c23b0
       try clear c24
       try clear c25
       try clear c27
       try clear c28
       try clear hcz11_0
       try clear hcz11_1
       try clear hcz11_2
       try clear hcz11_3
       try clear hcz17_0
       try clear hcz17_1
       try clear hcz17_2
       try clear hcz17_3
       try clear hcz19_0
       try clear hcz19_1
       try clear hcz19_2
       try clear hcz19_3
       try clear hcz26_0
       try clear hcz26_1
       try clear hcz26_2
       try clear hcz26_3
       try clear hcz29_0
       try clear hcz29_1
       try clear hcz29_2
       try clear hcz29_3
       try clear hfz11_0
       try clear hfz11_1
       try clear hfz11_2
       try clear hfz11_3
       try clear hfz17_0
       try clear hfz17_1
       try clear hfz17_2
       try clear hfz17_3
       try clear hfz19_0
       try clear hfz19_1
       try clear hfz19_2
       try clear hfz19_3
       try clear hfz26_0
       try clear hfz26_1
       try clear hfz26_2
       try clear hfz26_3
       try clear hfz29_0
       try clear hfz29_1
       try clear hfz29_2
       try clear hfz29_3
       try clear p2
       obtain ⟨kq,x24_21,rfl,HA,HJ21,HO_269000,HO_269001,BK258,BK259,BK268,HB⟩:=hcut
       cases kq with
       | zero=>exact absurd HA.out (by simp [spec_FallDev.j2])
       | succ kj21 =>
        have H:=HA.out
        clear HA
        simp only [spec_FallDev.j2] at H
        by_cases c30:x24_21 = true
        ·subst c30
         have H1:(if 0 ≤ (IntKind.u64.wrap (x6_2)) then (if (Go.bits .and .i64 (shr .i64 x1_6 (IntKind.u64.wrap (x6_2))) 1) = 1 then (if 0 ≤ x6_2 then (if x6_2 < (t263.length:Int) then (if 0 ≤ ((rd_T50 t263 x6_2).f0) then (if ((rd_T50 t263 x6_2).f0) < (x269000_2.length:Int) then (spec_FallDev.l0 kj21 x1_6 (wrap64 (x6_2 + 1)) (x269000_2.set (((rd_T50 t263 x6_2).f0):Int).toNat ((rd_T50 t263 x6_2).f1)) t263 t266 t267) else (none)) else (none)) else (none)) else (none)) else (spec_FallDev.l0 kj21 x1_6 (wrap64 (x6_2 + 1)) x269000_2 t263 t266 t267)) else (none)) = some (r1,r2,r3,r4):=by rw [if_pos rfl] at H;exact H
         clear H
         have H:=H1
         clear H1
         obtain ⟨ji31,hji31⟩:∃ j_:Int,(IntKind.u64.wrap (x6_2)) = j_:=⟨_,rfl⟩
         replace H:(if 0 ≤ (ji31) then (if (Go.bits .and .i64 (shr .i64 x1_6 (ji31)) 1) = 1 then (if 0 ≤ x6_2 then (if x6_2 < (t263.length:Int) then (if 0 ≤ ((rd_T50 t263 x6_2).f0) then (if ((rd_T50 t263 x6_2).f0) < (x269000_2.length:Int) then (spec_FallDev.l0 kj21 x1_6 (wrap64 (x6_2 + 1)) (x269000_2.set (((rd_T50 t263 x6_2).f0):Int).toNat ((rd_T50 t263 x6_2).f1)) t263 t266 t267) else (none)) else (none)) else (none)) else (none)) else (spec_FallDev.l0 kj21 x1_6 (wrap64 (x6_2 + 1)) x269000_2 t263 t266 t267)) else (none)) = some (r1,r2,r3,r4):=by first|(rw [hji31] at H;exact H)|(simp only [hji31] at H ⊢;exact H)
         by_cases c32:0 ≤ (ji31)
         ·rw [if_pos c32] at H
          have c32b0:=eq_true c32
          have c32b1:decide (0 ≤ (ji31)) = true:=decide_eq_true c32
          clear c32
          obtain ⟨ji33,hji33⟩:∃ j_:Int,(shr .i64 x1_6 (ji31)) = j_:=⟨_,rfl⟩
          replace H:(if (Go.bits .and .i64 (ji33) 1) = 1 then (if 0 ≤ x6_2 then (if x6_2 < (t263.length:Int) then (if 0 ≤ ((rd_T50 t263 x6_2).f0) then (if ((rd_T50 t263 x6_2).f0) < (x269000_2.length:Int) then (spec_FallDev.l0 kj21 x1_6 (wrap64 (x6_2 + 1)) (x269000_2.set (((rd_T50 t263 x6_2).f0):Int).toNat ((rd_T50 t263 x6_2).f1)) t263 t266 t267) else (none)) else (none)) else (none)) else (none)) else (spec_FallDev.l0 kj21 x1_6 (wrap64 (x6_2 + 1)) x269000_2 t263 t266 t267)) = some (r1,r2,r3,r4):=by first|(rw [hji33] at H;exact H)|(simp only [hji33] at H ⊢;exact H)
          have hji33_:(x1_6 / 2 ^ min (ji31).toNat 64) = ji33:=hji33
          have hji33z:(ji31) ≤ 64 → (x1_6 / 2 ^ (ji31).toNat) = ji33:=shr_small hji33
          by_cases c34:(Go.bits .and .i64 (ji33) 1) = 1
          ·rw [if_pos c34] at H
           have c34b0:((Go.bits .and .i64 (ji33) 1) == 1) = true:=beq_iff_eq.mpr c34
           have c34b1:((Go.bits .and .i64 (ji33) 1) != 1) = false:=bne_eq_false_iff_eq.mpr c34
           clear c34
           by_cases c35:0 ≤ x6_2
           ·rw [if_pos c35] at H
            have c35b0:decide (0 ≤ x6_2) = true:=decide_eq_true c35
            clear c35
            by_cases c36:x6_2 < (t263.length:Int)
            ·rw [if_pos c36] at H
             have c36b0:decide (x6_2 < (t263.length:Int)) = true:=decide_eq_true c36
             clear c36
             by_cases c37:0 ≤ ((rd_T50 t263 x6_2).f0)
             ·rw [if_pos c37] at H
              have c37b0:decide (0 ≤ ((rd_T50 t263 x6_2).f0)) = true:=decide_eq_true c37
              clear c37
              by_cases c38:((rd_T50 t263 x6_2).f0) < (x269000_2.length:Int)
              ·rw [if_pos c38] at H
               have c38b0:decide (((rd_T50 t263 x6_2).f0) < (x269000_2.length:Int)) = true:=decide_eq_true c38
               clear c38
               obtain ⟨y273,hy273⟩:∃ y_:List (List Int),y_ = (x269000_2.set (((rd_T50 t263 x6_2).f0):Int).toNat ((rd_T50 t263 x6_2).f1)):=⟨_,rfl⟩
               replace H:(spec_FallDev.l0 kj21 x1_6 (wrap64 (x6_2 + 1)) y273 t263 t266 t267) = some (r1,r2,r3,r4):=by first|(rw [hy273];with_reducible exact H)|(have H2_:=(Option.bind_some _ _).symm.trans H;rw [hy273];with_reducible exact H2_)|(have H2_:=(Option.bind_some _ _).symm.trans H;with_reducible exact H2_)|with_reducible exact H|(rw [hy273];exact H)|exact H
               have Ny273:=aA.mk hy273
               clear hy273
               have H':=aA.mk H
               clear H
               try go_wp2
               replace HO_269000:=aA.mk (Kd.bV HO_269000.out)
               replace HO_269001:=aA.mk (Kd.bV HO_269001.out)
               replace BK258:=aA.mk (aN BK258.out)
               replace BK259:=aA.mk (aN BK259.out)
               replace BK268:=aA.mk (aN BK268.out)
               replace HB:=aA.mk (aH HB.out)
               have p271:0 ≤ (x6_2:Int):=lE tx
               have q271:x6_2 < (t263.length:Int):=lE tx
               obtain ⟨ad271,A271_1,c271_1,e271,hx271_0,hx271_1,hl271_1,hi271_1⟩:=at_T50 (Kd.N_reads' HO_269001.out).2.2 x6_2 p271 q271
               cases e271
               obtain ⟨ce271,hce271,hMe271,hcc271⟩:=Kd.N_get HO_269001.out z50 x6_2 p271 (by first|exact q271|exact lE tx|(have e_:=(Kd.N_reads' HO_269001.out).1;omega))
               obtain ⟨ua271_1,uc271_1,rfl,ul271_1,ge271_1⟩:=k50_openF hMe271
               have hv271_1:=hcc271 1 _ rfl
               rw [add_field _ _ 1 tZ] at hv271_1
               replace hv271_1:=Option.some.inj (hv271_1.symm.trans hx271_1)
               injection hv271_1 with hva_ hvn_ hvc_
               rw [hva_] at ge271_1
               rw [hvc_] at ul271_1
               have HL271_1:=aA.mk (show Kd.V (Kd.int .u8) 5 _ w.heap.size _ _ ((rd_T50 t263 x6_2).f1) from Kd.V_mk ul271_1 ge271_1)
               clear hva_ hvn_ hvc_ ge271_1 ul271_1
               clear hcc271 hce271
               have HR271_1:=aA.mk hi271_1
               have HC271_1:=aA.mk hl271_1
               clear hi271_1 hl271_1
               replace p271:=eq_true p271
               replace q271:=eq_true q271
               have p272:0 ≤ (x6_2:Int):=lE tx
               have q272:x6_2 < (t263.length:Int):=lE tx
               obtain ⟨ad272,A272_1,c272_1,e272,hx272_0,hx272_1,hl272_1,hi272_1⟩:=at_T50 (Kd.N_reads' HO_269001.out).2.2 x6_2 p272 q272
               obtain rfl:ad271 = ad272:=(by injection e272)
               obtain ⟨ce272,hce272,hMe272,hcc272⟩:=Kd.N_get HO_269001.out z50 x6_2 p272 (by first|exact q272|exact lE tx|(have e_:=(Kd.N_reads' HO_269001.out).1;omega))
               obtain ⟨ua272_1,uc272_1,rfl,ul272_1,ge272_1⟩:=k50_openF hMe272
               have hv272_1:=hcc272 1 _ rfl
               rw [add_field _ _ 1 tZ] at hv272_1
               replace hv272_1:=Option.some.inj (hv272_1.symm.trans hx272_1)
               injection hv272_1 with hva_ hvn_ hvc_
               rw [hva_] at ge272_1
               rw [hvc_] at ul272_1
               have HL272_1:=aA.mk (show Kd.V (Kd.int .u8) 5 _ w.heap.size _ _ ((rd_T50 t263 x6_2).f1) from Kd.V_mk ul272_1 ge272_1)
               clear hva_ hvn_ hvc_ ge272_1 ul272_1
               clear hcc272 hce272
               have HR272_1:=aA.mk hi272_1
               have HC272_1:=aA.mk hl272_1
               clear hi272_1 hl272_1
               replace p272:=eq_true p272
               replace q272:=eq_true q272
               have ea_:=Option.some.inj (hx271_1.symm.trans hx272_1)
               injection ea_ with ea_ en_ ec_
               subst ea_
               subst ec_
               clear en_
               have p39:0 ≤ (((rd_T50 t263 x6_2).f0):Int):=lE tx
               have q39:(((rd_T50 t263 x6_2).f0):Int) < ((x269000_2.length:Int):Int):=lE tx
               obtain ⟨go39,co39,eo39,gb39,gl39,cl39,HG39⟩:=Kd.N_form HO_269000.out tZ
               (first|cases eo39|(injection eo39 with ea_ en_ ec_;(first|subst ea_|(injection ea_ with ea_;subst ea_));subst ec_;clear en_))
               have GB39:=aA.mk gb39
               have GG39:=aA.mk HG39
               clear gb39 gl39 HG39
               obtain ⟨ce39,hcl39,hM39,hcc39,hfr39⟩:=Kd.N_elem HO_269000.out [] (((rd_T50 t263 x6_2).f0):Int) p39 q39
               obtain ⟨ua39_0,uc39_0,rfl,ul39_0,ge39_0⟩:=Kd.FK_slice_open hM39
               have hx39_0:=hcc39 0 _ rfl
               have hf39_0:=hfr39 0
               (try simp only [show ((Kd.slice 5 (Kd.int .u8))).sz = 1 from rfl,Nat.mul_one,Nat.add_zero] at hx39_0)
               (try simp only [show ((Kd.slice 5 (Kd.int .u8))).sz = 1 from rfl,Nat.mul_one,Nat.add_zero] at hf39_0)
               clear hcl39 hcc39 hfr39 hM39
               replace p39:=eq_true p39
               replace q39:=eq_true q39
               have HX41:=aA.mk (show Kd.N (Kd.slice 5 (Kd.int .u8)) 37 _ w.heap.size (fun k_=>(w.heap.size ≤ k_) ∧ some k_ ≠ (.slice (some ad271) t263.length co18:Value).ownBlock ∧ k_ ≠ gb258 ∧ k_ ≠ gb259 ∧ k_ ≠ gb268) (.slice (some ⟨go39,0,none⟩) x269000_2.length co39) x269000_2 from (Kd.aV (HO_269000.out) (fun k_ hk=>⟨hk.1,⟨hk.2.1,⟨hk.2.2.1,⟨hk.2.2.2.1,hk.2.2.2.2⟩⟩⟩⟩)))
               obtain ⟨ce41,hcl41,hM41,hcc41,hfr41⟩:=Kd.N_elem HX41.out [] (((rd_T50 t263 x6_2).f0):Int) (lE tx) Au
               obtain ⟨ua41_0,uc41_0,rfl,ul41_0,ge41_0⟩:=Kd.FK_slice_open hM41
               have HP41:=(Kd.N_seg HX41.out (((rd_T50 t263 x6_2).f0):Int) (lE tx) Au (seg:=[.slice A271_1 ((rd_T50 t263 x6_2).f1).length c271_1]) (j:=0) hcl41 hcc41 (show 1 ≤ 1 from by decide) (x':=(rd_T50 t263 x6_2).f1) (Kd.FK_slice_mk (Kd.V_reads' (Kd.V_mono (ok':=(fun k_=>((fun k_=>(w.heap.size ≤ k_) ∧ some k_ ≠ (.slice (some ad271) t263.length co18:Value).ownBlock ∧ k_ ≠ gb258 ∧ k_ ≠ gb259 ∧ k_ ≠ gb268)) k_ ∧ k_ ≠ go39)) (HL272_1.out) (fun k_ hk=>⟨⟨hk.1.1,⟨hk.2,⟨hk.1.2.2.1,⟨hk.1.2.2.2.1,hk.1.2.2.2.2⟩⟩⟩⟩,fun e_=>(hk.1.2.1) (by rw [e_];rfl)⟩))).2.1 (Kd.V_F (Kd.V_mono (ok':=(fun k_=>((fun k_=>(w.heap.size ≤ k_) ∧ some k_ ≠ (.slice (some ad271) t263.length co18:Value).ownBlock ∧ k_ ≠ gb258 ∧ k_ ≠ gb259 ∧ k_ ≠ gb268)) k_ ∧ k_ ≠ go39)) (HL272_1.out) (fun k_ hk=>⟨⟨hk.1.1,⟨hk.2,⟨hk.1.2.2.1,⟨hk.1.2.2.2.1,hk.1.2.2.2.2⟩⟩⟩⟩,fun e_=>(hk.1.2.1) (by rw [e_];rfl)⟩)))) (fun _ hk=>hk)).1
               (try simp only [show ((Kd.slice 5 (Kd.int .u8))).sz = 1 from rfl,Nat.mul_one,Nat.add_zero] at HP41)
               rw [← Ny273.out] at HP41
               have HQ41:=aA.mk HP41
               clear hcl41 hcc41 hfr41 hM41 HP41
               refine start_ (n:=16) (S:=fun w'=>w'.cell? ⟨gb268,0,none⟩ = some (.slice (some ⟨go39,0,none⟩) x269000_2.length co39) ∧ w'.cell? ⟨gb268,1,none⟩ = some (.slice (some ad271) t263.length co18) ∧ w'.cell? ⟨gb268,2,none⟩ = some (.int .i64 t266) ∧ w'.cell? ⟨gb268,3,none⟩ = some (.bool t267) ∧ w'.cell? (ad271.add ((x6_2).toNat * 2)) = some (.int .i64 ((rd_T50 t263 x6_2).f0)) ∧ w'.cell? ⟨(ad271.add ((x6_2).toNat * 2)).block,(ad271.add ((x6_2).toNat * 2)).off + 1,none⟩ = some (.slice A271_1 ((rd_T50 t263 x6_2).f1).length c271_1) ∧ w'.cell? (ad271.add ((x6_2).toNat * 2)) = some (.int .i64 ((rd_T50 t263 x6_2).f0)) ∧ w'.cell? ⟨(ad271.add ((x6_2).toNat * 2)).block,(ad271.add ((x6_2).toNat * 2)).off + 1,none⟩ = some (.slice A271_1 ((rd_T50 t263 x6_2).f1).length c271_1)) (ds:=[15]) #[F0,F0,F0,F0,F0,F0,F0,F0,F0,F0,F0,F0,F0,F0,F0,F0] tG rfl rfl ⟨(aD BK268.out 0).trans rfl,(aD BK268.out 1).trans rfl,(aD BK268.out 2).trans rfl,(aD BK268.out 3).trans rfl,hx271_0,hx271_1,hx272_0,hx272_1⟩ (fun hHeld=>?_);refine with_tabW spec_FallDev.tab10 spec_FallDev.bits10 (fun HT_ HW_=>?_)
               generalize wc.drew = w40 at HO_269000 HO_269001 BK258 BK259 BK268 HB GG39 HL271_1 HL272_1 HQ41 HR271_1 HR272_1 hf39_0 hx271_0 hx271_1 hx272_0 hx272_1 hx39_0 hHeld ⊢
               refine bT (i:=0) (N:=some 33) (v:=?_) (a':=?_) #[T1,F0,F0,F0,F0,F0,F0,F0,F0,F0,F0,F0,F0,F0,F0,F0] rfl rfl (any_of HT_.out tG) (fun _ _ _ h=>h) (Or.inl ⟨vr,?_⟩) ?_ ?_
               rotate_left
               ·intro w'
                go_simp
                with_reducible rfl
               rotate_left
               ·simp only [Act.put,lA,lB,lC,bE,bG]
                rfl
               refine bT (i:=2) (N:=some 35) (v:=?_) (a':=?_) #[T1,F0,T1,F0,F0,F0,F0,F0,F0,F0,F0,F0,F0,F0,F0,F0] rfl rfl (any_of HT_.out tG) (fun _ _ _ h=>h) (Or.inl ⟨vr,?_⟩) ?_ ?_
               rotate_left
               ·intro w'
                go_simp
                with_reducible rfl
               rotate_left
               ·simp only [Act.put,lA,lB,lC,bE,bG]
                rfl
               refine bT (i:=4) (N:=some 37) (v:=?_) (a':=?_) #[T1,F0,T1,F0,T1,F0,F0,F0,F0,F0,F0,F0,F0,F0,F0,F0] rfl rfl (any_of HT_.out tG) (fun _ _ _ h=>h) (Or.inl ⟨vr,?_⟩) ?_ ?_
               rotate_left
               ·intro w'
                go_simp
                with_reducible rfl
               rotate_left
               ·simp only [Act.put,lA,lB,lC,bE,bG]
                rfl
               refine bT (i:=8) (N:=some 41) (v:=?_) (a':=?_) #[T1,F0,T1,F0,T1,F0,F0,F0,T1,F0,F0,F0,F0,F0,F0,F0] rfl rfl (any_of HT_.out tG) (fun _ _ _ h=>h) (Or.inl ⟨vr,?_⟩) ?_ ?_
               rotate_left
               ·intro w'
                go_simp
                with_reducible rfl
               rotate_left
               ·simp only [Act.put,lA,lB,lC,bE,bG]
                rfl
               refine bT (i:=10) (N:=some 43) (v:=?_) (a':=?_) #[T1,F0,T1,F0,T1,F0,F0,F0,T1,F0,T1,F0,F0,F0,F0,F0] rfl rfl (any_of HT_.out tG) (fun _ _ _ h=>h) (Or.inl ⟨vr,?_⟩) ?_ ?_
               rotate_left
               ·intro w'
                go_simp
                with_reducible rfl
               rotate_left
               ·simp only [Act.put,lA,lB,lC,bE,bG]
                rfl
               refine take_ (i:=1) (N:=some 34) (v:=?_) (a':=?_) #[T1,T1,T1,F0,T1,F0,F0,F0,T1,F0,T1,F0,F0,F0,F0,F0] rfl rfl (take_ofW HT_.out HW_.out tG) (fun _ _ _ h=>h) (Or.inl ⟨vr,?_⟩) hHeld ?_ ?_
               rotate_left
               ·rintro w' ⟨s0,s1,s2,s3,s4,s5,s6,s7⟩
                go_simp
                with_reducible rfl
               rotate_left
               ·simp only [Act.put,lA,lB,lC,bE,bG]
                rfl
               refine take_ (i:=3) (N:=some 36) (v:=?_) (a':=?_) #[T1,T1,T1,T1,T1,F0,F0,F0,T1,F0,T1,F0,F0,F0,F0,F0] rfl rfl (take_ofW HT_.out HW_.out tG) (fun _ _ _ h=>h) (Or.inl ⟨vr,?_⟩) hHeld ?_ ?_
               rotate_left
               ·rintro w' ⟨s0,s1,s2,s3,s4,s5,s6,s7⟩
                go_simp
                with_reducible rfl
               rotate_left
               ·simp only [Act.put,lA,lB,lC,bE,bG]
                rfl
               refine bT (i:=5) (N:=some 38) (v:=?_) (a':=?_) #[T1,T1,T1,T1,T1,T1,F0,F0,T1,F0,T1,F0,F0,F0,F0,F0] rfl rfl (any_of HT_.out tG) (fun _ _ _ h=>h) (Or.inl ⟨vr,?_⟩) ?_ ?_
               rotate_left
               ·intro w'
                go_simp
                with_reducible rfl
               rotate_left
               ·simp only [Act.put,lA,lB,lC,bE,bG]
                rfl
               refine bT (i:=6) (N:=some 39) (v:=?_) (a':=?_) #[T1,T1,T1,T1,T1,T1,T1,F0,T1,F0,T1,F0,F0,F0,F0,F0] rfl rfl (any_of HT_.out tG) (fun _ _ _ h=>h) (Or.inl ⟨vr,?_⟩) ?_ ?_
               rotate_left
               ·intro w'
                go_simp
                with_reducible rfl
               rotate_left
               ·simp only [Act.put,lA,lB,lC,bE,bG]
                rfl
               refine take_ (i:=7) (N:=some 40) (v:=?_) (a':=?_) #[T1,T1,T1,T1,T1,T1,T1,T1,T1,F0,T1,F0,F0,F0,F0,F0] rfl rfl (take_ofW HT_.out HW_.out tG) (fun _ _ _ h=>h) (Or.inl ⟨vr,?_⟩) hHeld ?_ ?_
               rotate_left
               ·rintro w' ⟨s0,s1,s2,s3,s4,s5,s6,s7⟩
                go_simp
                with_reducible rfl
               rotate_left
               ·simp only [Act.put,lA,lB,lC,bE,bG]
                rfl
               refine take_ (i:=9) (N:=some 42) (v:=?_) (a':=?_) #[T1,T1,T1,T1,T1,T1,T1,T1,T1,T1,T1,F0,F0,F0,F0,F0] rfl rfl (take_ofW HT_.out HW_.out tG) (fun _ _ _ h=>h) (Or.inl ⟨vr,?_⟩) hHeld ?_ ?_
               rotate_left
               ·rintro w' ⟨s0,s1,s2,s3,s4,s5,s6,s7⟩
                go_simp
                with_reducible rfl
               rotate_left
               ·simp only [Act.put,lA,lB,lC,bE,bG]
                rfl
               refine bT (i:=11) (N:=some 44) (v:=?_) (a':=?_) #[T1,T1,T1,T1,T1,T1,T1,T1,T1,T1,T1,T1,F0,F0,F0,F0] rfl rfl (any_of HT_.out tG) (fun _ _ _ h=>h) (Or.inl ⟨vr,?_⟩) ?_ ?_
               rotate_left
               ·intro w'
                go_simp
                with_reducible rfl
               rotate_left
               ·simp only [Act.put,lA,lB,lC,bE,bG]
                rfl
               refine bT (i:=12) (N:=some 45) (v:=?_) (a':=?_) #[T1,T1,T1,T1,T1,T1,T1,T1,T1,T1,T1,T1,T1,F0,F0,F0] rfl rfl (any_of HT_.out tG) (fun _ _ _ h=>h) (Or.inl ⟨vr,?_⟩) ?_ ?_
               rotate_left
               ·intro w'
                go_simp
                with_reducible rfl
               rotate_left
               ·simp only [Act.put,lA,lB,lC,bE,bG]
                rfl
               refine take_ (i:=13) (N:=some 46) (v:=?_) (a':=?_) #[T1,T1,T1,T1,T1,T1,T1,T1,T1,T1,T1,T1,T1,T1,F0,F0] rfl rfl (take_ofW HT_.out HW_.out tG) (fun _ _ _ h=>h) (Or.inl ⟨vr,?_⟩) hHeld ?_ ?_
               rotate_left
               ·rintro w' ⟨s0,s1,s2,s3,s4,s5,s6,s7⟩
                go_simp
                with_reducible rfl
               rotate_left
               ·simp only [Act.put,lA,lB,lC,bE,bG]
                rfl
               refine bT (i:=14) (N:=some 47) (v:=?_) (a':=?_) #[T1,T1,T1,T1,T1,T1,T1,T1,T1,T1,T1,T1,T1,T1,T1,F0] rfl rfl (any_of HT_.out tG) (fun _ _ _ h=>h) (Or.inl ⟨vr,?_⟩) ?_ ?_
               rotate_left
               ·intro w'
                go_simp
                with_reducible rfl
               rotate_left
               ·simp only [Act.put,lA,lB,lC,bE,bG]
                rfl
               refine last_ (i:=15) (N:=none) #[T1,T1,T1,T1,T1,T1,T1,T1,T1,T1,T1,T1,T1,T1,T1,T1] rfl rfl (one_of HT_.out tG) tf (fun K hK=>?_)
               refine skip_ (w1:=?_) wN rfl ?_ ?_
               rotate_left
               ·go_simp
                rfl
               refine hK.out _ _ ?_
               clear hK K
               refine done_ (done_of HT_.out tG) ?_
               try go_wp2
               go_roundg kj21
               case measure=>have:=HJ6.out;have:=HK2.out;have:=HJ21.out;omega
               case rel=>exact ⟨(wrap64 (x6_2 + 1)),(y273),(.slice (some ⟨go39,0,none⟩) x269000_2.length co39),td,H',⟨by have:=HJ6.out;have:=HK2.out;have:=HJ21.out;omega⟩,⟨by (with_reducible repeat (first|apply Kd.bW|apply Kd.bX|apply Kd.bV));exact HQ41.out⟩,⟨by (with_reducible repeat (first|apply Kd.bW|apply Kd.bX|apply Kd.bV));exact Kd.aV (Kd.bH (p:=⟨go39,(((rd_T50 t263 x6_2).f0):Int).toNat,none⟩) (Kd.aV HO_269001.out (fun k_ hk=>(⟨hk,fun e_=>hk.2.1 (by rw [e_];rfl)⟩:_ ∧ k_ ≠ go39))) (fun _ hk=>hk.2) (.slice A271_1 ((rd_T50 t263 x6_2).f1).length c271_1)) (fun _ hk=>⟨hk.1.1,⟨hk.1.2.1,⟨hk.1.2.2.1,⟨hk.1.2.2.2.1,hk.1.2.2.2.2⟩⟩⟩⟩)⟩,⟨by (with_reducible repeat (first|refine aM ?_ _|refine aN ?_|refine aG ?_ _));refine bY ?_ (by have h_:=Kd.N_away HO_269000.out (fun _ hk=>hk.2.2.1);intro e_;exact h_ (by rw [e_];rfl)) _;(with_reducible repeat (first|refine aM ?_ _|refine aN ?_|refine aG ?_ _));exact BK258.out⟩,⟨by (with_reducible repeat (first|refine aM ?_ _|refine aN ?_|refine aG ?_ _));refine bY ?_ (by have h_:=Kd.N_away HO_269000.out (fun _ hk=>hk.2.2.2.1);intro e_;exact h_ (by rw [e_];rfl)) _;(with_reducible repeat (first|refine aM ?_ _|refine aN ?_|refine aG ?_ _));exact BK259.out⟩,⟨by (with_reducible repeat (first|refine aM ?_ _|refine aN ?_|refine aG ?_ _));refine bY ?_ (by have h_:=Kd.N_away HO_269000.out (fun _ hk=>hk.2.2.2.2);intro e_;exact h_ (by rw [e_];rfl)) _;(with_reducible repeat (first|refine aM ?_ _|refine aN ?_|refine aG ?_ _));exact BK268.out⟩,⟨by repeat (first|(with_reducible first|exact HB.out|apply aJ|apply aE|apply aH|refine aC ?_ GB39.out|refine aC ?_ GE258.out|refine aC ?_ GE259.out|refine aC ?_ GE268.out)|exact HB.out)⟩⟩
              ·rw [if_neg c38] at H
               exact wX
             ·rw [if_neg c37] at H
              exact wX
            ·rw [if_neg c36] at H
             exact wX
           ·rw [if_neg c35] at H
            exact wX
          ·rw [if_neg c34] at H
           have c34b0:((Go.bits .and .i64 (ji33) 1) == 1) = false:=beq_eq_false_iff_ne.mpr c34
           have c34b1:((Go.bits .and .i64 (ji33) 1) != 1) = true:=bne_iff_ne.mpr c34
           have H':=aA.mk H
           clear H
           go_wp2
           go_roundg kj21
           case measure=>have:=HJ6.out;have:=HK2.out;have:=HJ21.out;omega
           case rel=>exact ⟨(wrap64 (x6_2 + 1)),(x269000_2),(u269000),td,H',⟨by have:=HJ6.out;have:=HK2.out;have:=HJ21.out;omega⟩,⟨AA⟩,⟨wz⟩,⟨wF⟩,⟨wE⟩,⟨wD⟩,⟨t9⟩⟩
         ·rw [if_neg c32] at H
          exact wX
        ·replace c30:=Bool.eq_false_iff.mpr c30
         subst c30
         have H1:(some (x269000_2,(([]:List (S50))),(-1),false)) = some (r1,r2,r3,r4):=by rw [if_neg (show ¬ (false = true) by decide)] at H;exact H
         clear H
         have H:=H1
         clear H1
         obtain ⟨y274,hy274⟩:∃ y_:List (S50),y_ = (([]:List (S50))):=⟨_,rfl⟩
         replace H:(some (x269000_2,y274,(-1),false)) = some (r1,r2,r3,r4):=by first|(rw [hy274];with_reducible exact H)|(have H2_:=(Option.bind_some _ _).symm.trans H;rw [hy274];with_reducible exact H2_)|(have H2_:=(Option.bind_some _ _).symm.trans H;with_reducible exact H2_)|with_reducible exact H|(rw [hy274];exact H)|exact H
         have Ny274:=aA.mk hy274
         clear hy274
         simp only [Option.some.injEq,Prod.mk.injEq] at H
         obtain ⟨rfl,rfl,rfl,rfl⟩:=H
         go_wp2_with (first|((with_reducible refine bC (N:=48) rfl ?_);refine Kd.N_lit k50 _ 50 ?hg (N':=48) ?hd (xs:=([]:List (S50))) (inner:=[]) (ok:=(fun k_=>(w.heap.size ≤ k_) ∧ some k_ ≠ (u269000:Value).ownBlock ∧ some k_ ≠ (.slice Ao18 t263.length co18:Value).ownBlock ∧ k_ ≠ gb258 ∧ k_ ≠ gb259 ∧ k_ ≠ gb268)) (okp:=(fun k_=>(w.heap.size ≤ k_) ∧ some k_ ≠ (u269000:Value).ownBlock ∧ some k_ ≠ (.slice Ao18 t263.length co18:Value).ownBlock ∧ k_ ≠ gb258 ∧ k_ ≠ gb259 ∧ k_ ≠ gb268)) ?hr ?hp (fun _ hk=>hk) ((show ∀ k_,wc.heap.size ≤ k_ → (fun k_=>(w.heap.size ≤ k_) ∧ some k_ ≠ (u269000:Value).ownBlock ∧ some k_ ≠ (.slice Ao18 t263.length co18:Value).ownBlock ∧ k_ ≠ gb258 ∧ k_ ≠ gb259 ∧ k_ ≠ gb268) k_ from fun k_ hk=>⟨(Nat.le_trans (aX t4) hk),Kd.fresh' (Kd.N_lt (by (with_reducible repeat (first|apply Kd.bW|apply Kd.bX|apply Kd.bV));exact HO_269000.out)) k_ hk,Kd.fresh' (Kd.N_lt (by (with_reducible repeat (first|apply Kd.bW|apply Kd.bX|apply Kd.bV));exact HO_269001.out)) k_ hk,Kd.freshB (g:=gb258) (o:=.cells #[.slice A0_0 l0_0.length c0_0,.slice A0_1 l0_1.length c0_1,.int .i64 a0_2,.bool a0_3] 25 (0,0)) tm k_ hk,Kd.freshB (g:=gb259) (o:=.cells #[.slice none 0 0,.slice none 0 0,.int .i64 0,.bool false] 25 (0,0)) t8 k_ hk,Kd.freshB (g:=gb268) (o:=.cells #[u269000,.slice Ao18 t263.length co18,.int .i64 t266,.bool t267] 25 (0,0)) (by (with_reducible repeat (first|refine aM ?_ _|refine aN ?_|refine aG ?_ _));exact BK268.out) k_ hk⟩) _ (Nat.le_refl _)) (Below.refl _ _) (Nat.le_refl _) vN ?_;(case hd=>rfl);(case hg=>rfl);(case hr=>exact tE);(case hp=>exact (Reps.none _ _));intro v275 w42 ho43 hb hg_ hnew_;clear hg_ hnew_;(first|rw [← Ny274.out] at ho43|(simp only [Int.reduceToNat] at ho43;rw [← Ny274.out] at ho43));replace HO_269000:=aA.mk (Kd.N_elder' (by (with_reducible repeat (first|apply Kd.bW|apply Kd.bX|apply Kd.bV));exact HO_269000.out) (Kd.N_base ho43) hb);replace HO_269001:=aA.mk (Kd.N_elder' (by (with_reducible repeat (first|apply Kd.bW|apply Kd.bX|apply Kd.bV));exact HO_269001.out) (Kd.N_base ho43) hb);have HO276:=aA.mk (Kd.N_lower ho43 (aX t4));replace BK258:=aA.mk (bM (g:=gb258) (o:=.cells #[.slice A0_0 l0_0.length c0_0,.slice A0_1 l0_1.length c0_1,.int .i64 a0_2,.bool a0_3] 25 (0,0)) tm hb);replace BK259:=aA.mk (bM (g:=gb259) (o:=.cells #[.slice none 0 0,.slice none 0 0,.int .i64 0,.bool false] 25 (0,0)) t8 hb);replace BK268:=aA.mk (bM (g:=gb268) (o:=.cells #[u269000,.slice Ao18 t263.length co18,.int .i64 t266,.bool t267] 25 (0,0)) (by (with_reducible repeat (first|refine aM ?_ _|refine aN ?_|refine aG ?_ _));exact BK268.out) hb);replace HB:=aA.mk (aT t4 hb);clear hb ho43;obtain ⟨Ao44,co44,eo44⟩:=Kd.cB HO276.out;subst eo44;have hnb45:=NB268_258.out;have hnc45:=NB258_268.out;have hnb46:=NB268_259.out;have hnc46:=NB259_268.out;obtain ⟨hcz47_0,hcz47_1,hcz47_2,hcz47_3⟩:=cs4 BK268.out;obtain ⟨hfz47_0,hfz47_1,hfz47_2,hfz47_3⟩:=fs4 BK268.out;obtain ⟨Ao48,co48,eo48⟩:=Kd.cB HO_269000.out;subst eo48;have hnb49:=NB259_258.out;have hnc49:=NB258_259.out;obtain ⟨hcz50_0,hcz50_1,hcz50_2,hcz50_3⟩:=cs4 BK259.out;obtain ⟨hfz50_0,hfz50_1,hfz50_2,hfz50_3⟩:=fs4 BK259.out))
         refine bodyPost_ret (results_cell_row rfl _ _ gb259 25 #[.slice Ao48 x269000_2.length co48,.slice Ao44 y274.length co44,.int .i64 (-1),.bool false] (0,0) _ rfl (by (with_reducible repeat (first|refine aM ?_ _|refine aN ?_|refine aG ?_ _));refine aQ (cs:=#[.slice Ao48 x269000_2.length co48,.slice Ao44 y274.length co44,.int .i64 (-1),.bool false]) ?_ 3 _ rfl;(with_reducible repeat (first|refine aM ?_ _|refine aN ?_|refine aG ?_ _));refine aQ (cs:=#[.slice Ao48 x269000_2.length co48,.slice Ao44 y274.length co44,.int .i64 0,.bool false]) ?_ 2 _ rfl;(with_reducible repeat (first|refine aM ?_ _|refine aN ?_|refine aG ?_ _));refine aQ (cs:=#[.slice Ao48 x269000_2.length co48,.slice none 0 0,.int .i64 0,.bool false]) ?_ 1 _ rfl;(with_reducible repeat (first|refine aM ?_ _|refine aN ?_|refine aG ?_ _));refine aQ (cs:=#[.slice none 0 0,.slice none 0 0,.int .i64 0,.bool false]) ?_ 0 _ rfl;(with_reducible repeat (first|refine aM ?_ _|refine aN ?_|refine aG ?_ _));refine bY ?_ NB259_268.out _;(with_reducible repeat (first|refine aM ?_ _|refine aN ?_|refine aG ?_ _));refine bY ?_ NB259_268.out _;(with_reducible repeat (first|refine aM ?_ _|refine aN ?_|refine aG ?_ _));refine bY ?_ NB259_268.out _;(with_reducible repeat (first|refine aM ?_ _|refine aN ?_|refine aG ?_ _));exact BK259.out) Try.underlying25 rfl tG) rfl ?_
         exact ⟨_,_,tN,by (with_reducible repeat (first|apply Kd.bW|apply Kd.bX|apply Kd.bV));exact Kd.aV (Kd.bH (p:=⟨gb259,3,none⟩) (Kd.bH (p:=⟨gb259,2,none⟩) (Kd.bH (p:=⟨gb259,1,none⟩) (Kd.bH (p:=⟨gb259,0,none⟩) (Kd.bH (p:=⟨gb268,2,none⟩) (Kd.bH (p:=⟨gb268,3,none⟩) (Kd.bH (p:=⟨gb268,1,none⟩) (Kd.aV (Kd.aV HO_269000.out (fun k_ hk=>(⟨hk,hk.1.2.2.2.2⟩:_ ∧ k_ ≠ gb268))) (fun k_ hk=>(⟨hk,hk.1.1.2.2.2.1⟩:_ ∧ k_ ≠ gb259))) (fun _ hk=>hk.1.2) (.slice Ao44 y274.length co44)) (fun _ hk=>hk.1.2) (.bool false)) (fun _ hk=>hk.1.2) (.int .i64 (-1))) (fun _ hk=>hk.2) (.slice Ao48 x269000_2.length co48)) (fun _ hk=>hk.2) (.slice Ao44 y274.length co44)) (fun _ hk=>hk.2) (.int .i64 (-1))) (fun _ hk=>hk.2) (.bool false)) (fun _ hk=>⟨hk.1.1.1.1,hk.1.1.2⟩),by (with_reducible repeat (first|apply Kd.bW|apply Kd.bX|apply Kd.bV));exact Kd.aV (Kd.bH (p:=⟨gb259,3,none⟩) (Kd.bH (p:=⟨gb259,2,none⟩) (Kd.bH (p:=⟨gb259,1,none⟩) (Kd.bH (p:=⟨gb259,0,none⟩) (Kd.bH (p:=⟨gb268,2,none⟩) (Kd.bH (p:=⟨gb268,3,none⟩) (Kd.bH (p:=⟨gb268,1,none⟩) (Kd.aV (Kd.aV HO276.out (fun k_ hk=>(⟨hk,hk.2.2.2.2.2⟩:_ ∧ k_ ≠ gb268))) (fun k_ hk=>(⟨hk,hk.1.2.2.2.2.1⟩:_ ∧ k_ ≠ gb259))) (fun _ hk=>hk.1.2) (.slice Ao44 y274.length co44)) (fun _ hk=>hk.1.2) (.bool false)) (fun _ hk=>hk.1.2) (.int .i64 (-1))) (fun _ hk=>hk.2) (.slice Ao48 x269000_2.length co48)) (fun _ hk=>hk.2) (.slice Ao44 y274.length co44)) (fun _ hk=>hk.2) (.int .i64 (-1))) (fun _ hk=>hk.2) (.bool false)) (fun _ hk=>⟨hk.1.1.1,hk.1.1.2.1⟩),t9⟩
 ·replace c5:=Bool.eq_false_iff.mpr c5
  subst c5
  have H1:(some (t260,t263,t266,t267)) = some (r1,r2,r3,r4):=by rw [if_neg (show ¬ (false = true) by decide)] at H;exact H
  clear H
  have H:=H1
  clear H1
  simp only [Option.some.injEq,Prod.mk.injEq] at H
  obtain ⟨rfl,rfl,rfl,rfl⟩:=H
  go_enter Try.func31,Try.ntmps31
  go_wp2_with (first|((with_reducible refine bC (N:=2) rfl ?_);refine bD ?hg (N:=2) ?hd (cs:=#[.slice A0_0 l0_0.length c0_0,.slice A0_1 l0_1.length c0_1,.int .i64 a0_2,.bool a0_3]) (t:=25) ?hr ?_;(case hd=>rfl);(case hg=>rfl);(case hr=>exact tE);intro gb258 hg w51 hbox hb;have BK258:=aA.mk (hbox);have GW258:=aA.mk ((by rw [hg];exact (aX tp):w.heap.size ≤ gb258));have GE258:=aA.mk ((by rw [hg];exact (aX tp):w.heap.size ≤ gb258));replace HB:=aA.mk (aT tp hb);clear hb hbox hg)|((with_reducible refine bC (N:=4) rfl ?_);refine bD ?hg (N:=4) ?hd (cs:=#[.slice none 0 0,.slice none 0 0,.int .i64 0,.bool false]) (t:=25) ?hr ?_;(case hd=>rfl);(case hg=>rfl);(case hr=>exact tE);intro gb259 hg w52 hbox hb;have BK259:=aA.mk (hbox);have GW259:=aA.mk ((by rw [hg];exact (aX vq):w.heap.size ≤ gb259));have GE259:=aA.mk ((by rw [hg];exact (aX vq):w.heap.size ≤ gb259));replace HB:=aA.mk (aT vq hb);have NB258_259:=aA.mk ((by rw [hg];exact Nat.ne_of_lt (bJ (g:=gb258) (o:=.cells #[.slice A0_0 l0_0.length c0_0,.slice A0_1 l0_1.length c0_1,.int .i64 a0_2,.bool a0_3] 25 (0,0)) tm):gb258 ≠ gb259));have NB259_258:=aA.mk ((by rw [hg];exact Nat.ne_of_gt (bJ (g:=gb258) (o:=.cells #[.slice A0_0 l0_0.length c0_0,.slice A0_1 l0_1.length c0_1,.int .i64 a0_2,.bool a0_3] 25 (0,0)) tm):gb259 ≠ gb258));replace BK258:=aA.mk (bM (g:=gb258) (o:=.cells #[.slice A0_0 l0_0.length c0_0,.slice A0_1 l0_1.length c0_1,.int .i64 a0_2,.bool a0_3] 25 (0,0)) tm hb);clear hb hbox hg;have hnb53:=NB258_259.out;have hnc53:=NB259_258.out;obtain ⟨hcz54_0,hcz54_1,hcz54_2,hcz54_3⟩:=cs4 BK258.out;obtain ⟨hfz54_0,hfz54_1,hfz54_2,hfz54_3⟩:=fs4 BK258.out)|((with_reducible refine aW (f:=56) rfl ?_);refine bK (some 8) rfl rfl Try.func56 tG rfl #[.agg #[.slice A0_0 l0_0.length c0_0,.slice A0_1 l0_1.length c0_1,.int .i64 a0_2,.bool a0_3]] rfl tC ?_;(with_reducible refine (spec_l2Copy.calls k _ _ l0_0 _ _ l0_1 a0_2 a0_3 t260 t263 t266 t267 _ ?side1 ?side2 ?side3 ?side4 A3.out).mono ?_);(case side1=>exact (Kd.C_below HR0_0.out HB.out));(case side2=>exact Ay);(case side3=>exact (Kd.C_below HR0_1.out HB.out));(case side4=>exact Ax);rintro e w55 ⟨v261,v264,rfl,ho0,ho1,hb⟩;refine ⟨_,rfl,?_⟩;have HO262:=aA.mk (Kd.N_lower (Kd.aV (ok':=fun k_=>(w.heap.size ≤ k_) ∧ some k_ ≠ (v264:Value).ownBlock ∧ k_ ≠ gb258 ∧ k_ ≠ gb259) (Kd.S_N (Kd.S_bound (Kd.S_apart' ho0 (Kd.S_typed ho1) tf))) (fun k_ hk_=>⟨(Nat.le_trans (aX tc) hk_.2.1),hk_.1.2,(Kd.freshB (g:=gb258) (o:=.cells #[.slice A0_0 l0_0.length c0_0,.slice A0_1 l0_1.length c0_1,.int .i64 a0_2,.bool a0_3] 25 (0,0)) tm k_ hk_.2.1),(Kd.freshB (g:=gb259) (o:=.cells #[.slice none 0 0,.slice none 0 0,.int .i64 0,.bool false] 25 (0,0)) t8 k_ hk_.2.1)⟩)) (aX tc));have HO265:=aA.mk (Kd.N_lower (Kd.aV (ok':=fun k_=>(w.heap.size ≤ k_) ∧ some k_ ≠ (v261:Value).ownBlock ∧ k_ ≠ gb258 ∧ k_ ≠ gb259) (Kd.S_N (Kd.S_bound (Kd.S_apart' ho1 (Kd.S_typed ho0) tf))) (fun k_ hk_=>⟨(Nat.le_trans (aX tc) hk_.2.1),hk_.1.2,(Kd.freshB (g:=gb258) (o:=.cells #[.slice A0_0 l0_0.length c0_0,.slice A0_1 l0_1.length c0_1,.int .i64 a0_2,.bool a0_3] 25 (0,0)) tm k_ hk_.2.1),(Kd.freshB (g:=gb259) (o:=.cells #[.slice none 0 0,.slice none 0 0,.int .i64 0,.bool false] 25 (0,0)) t8 k_ hk_.2.1)⟩)) (aX tc));replace BK258:=aA.mk (bM (g:=gb258) (o:=.cells #[.slice A0_0 l0_0.length c0_0,.slice A0_1 l0_1.length c0_1,.int .i64 a0_2,.bool a0_3] 25 (0,0)) tm hb);replace BK259:=aA.mk (bM (g:=gb259) (o:=.cells #[.slice none 0 0,.slice none 0 0,.int .i64 0,.bool false] 25 (0,0)) t8 hb);replace HB:=aA.mk (aT tc hb);(try clear hb);(try clear hk);(try clear ho0);(try clear ho1))|((with_reducible refine bC (N:=5) rfl ?_);refine bD ?hg (N:=5) ?hd (cs:=#[.slice none 0 0,.slice none 0 0,.int .i64 0,.bool false]) (t:=25) ?hr ?_;(case hd=>rfl);(case hg=>rfl);(case hr=>exact tE);intro gb268 hg w56 hbox hb;replace HO262:=aA.mk (Kd.N_below (Kd.N_elderB (by (with_reducible repeat (first|apply Kd.bW|apply Kd.bX|apply Kd.bV));exact HO262.out) gb268 (Nat.le_of_eq hg.symm)) hb);replace HO265:=aA.mk (Kd.N_below (Kd.N_elderB (by (with_reducible repeat (first|apply Kd.bW|apply Kd.bX|apply Kd.bV));exact HO265.out) gb268 (Nat.le_of_eq hg.symm)) hb);have BK268:=aA.mk (hbox);have GW268:=aA.mk ((by rw [hg];exact (aX tc):w.heap.size ≤ gb268));have GE268:=aA.mk ((by rw [hg];exact (aX tc):w.heap.size ≤ gb268));replace HB:=aA.mk (aT tc hb);have NB258_268:=aA.mk ((by rw [hg];exact Nat.ne_of_lt (bJ (g:=gb258) (o:=.cells #[.slice A0_0 l0_0.length c0_0,.slice A0_1 l0_1.length c0_1,.int .i64 a0_2,.bool a0_3] 25 (0,0)) tm):gb258 ≠ gb268));have NB268_258:=aA.mk ((by rw [hg];exact Nat.ne_of_gt (bJ (g:=gb258) (o:=.cells #[.slice A0_0 l0_0.length c0_0,.slice A0_1 l0_1.length c0_1,.int .i64 a0_2,.bool a0_3] 25 (0,0)) tm):gb268 ≠ gb258));replace BK258:=aA.mk (bM (g:=gb258) (o:=.cells #[.slice A0_0 l0_0.length c0_0,.slice A0_1 l0_1.length c0_1,.int .i64 a0_2,.bool a0_3] 25 (0,0)) tm hb);have NB259_268:=aA.mk ((by rw [hg];exact Nat.ne_of_lt (bJ (g:=gb259) (o:=.cells #[.slice none 0 0,.slice none 0 0,.int .i64 0,.bool false] 25 (0,0)) t8):gb259 ≠ gb268));have NB268_259:=aA.mk ((by rw [hg];exact Nat.ne_of_gt (bJ (g:=gb259) (o:=.cells #[.slice none 0 0,.slice none 0 0,.int .i64 0,.bool false] 25 (0,0)) t8):gb268 ≠ gb259));replace BK259:=aA.mk (bM (g:=gb259) (o:=.cells #[.slice none 0 0,.slice none 0 0,.int .i64 0,.bool false] 25 (0,0)) t8 hb);clear hb hbox hg;obtain ⟨Ao57,co57,eo57⟩:=Kd.cB HO262.out;subst eo57;have hnb58:=NB268_258.out;have hnc58:=NB258_268.out;have hnb59:=NB268_259.out;have hnc59:=NB259_268.out;obtain ⟨hcz60_0,hcz60_1,hcz60_2,hcz60_3⟩:=cs4 BK268.out;obtain ⟨hfz60_0,hfz60_1,hfz60_2,hfz60_3⟩:=fs4 BK268.out;obtain ⟨Ao61,co61,eo61⟩:=Kd.cB HO265.out;subst eo61;obtain ⟨hcz62_0,hcz62_1,hcz62_2,hcz62_3⟩:=cs4 BK258.out;obtain ⟨hfz62_0,hfz62_1,hfz62_2,hfz62_3⟩:=fs4 BK258.out)|((with_reducible refine aW (f:=18) rfl ?_);refine bK (some 10) rfl rfl Try.func18 tG rfl #[.agg #[.slice A0_0 l0_0.length c0_0,.slice A0_1 l0_1.length c0_1,.int .i64 a0_2,.bool a0_3]] rfl tC ?_;(with_reducible refine (spec_DevOk.calls k _ _ l0_0 _ _ l0_1 a0_2 a0_3 false _ ?side1 ?side2 ?side3 ?side4 A4.out).mono ?_);(case side1=>exact Kd.C_below HR0_0.out t4);(case side2=>exact Ay);(case side3=>exact Kd.C_below HR0_1.out t4);(case side4=>exact Ax);rintro e w63 ⟨rfl,hb⟩;refine ⟨_,rfl,?_⟩;replace HO262:=aA.mk (Kd.N_below (by (with_reducible repeat (first|apply Kd.bW|apply Kd.bX|apply Kd.bV));exact (Kd.aV (Kd.bH (p:=⟨gb268,3,none⟩) (Kd.bH (p:=⟨gb268,2,none⟩) (Kd.bH (p:=⟨gb268,1,none⟩) (Kd.bH (p:=⟨gb268,0,none⟩) (Kd.aV HO262.out (fun k_ hk=>(⟨hk,hk.2⟩:_ ∧ k_ ≠ gb268))) (fun _ hk=>hk.2) (.slice Ao57 t260.length co57)) (fun _ hk=>hk.2) (.slice Ao61 t263.length co61)) (fun _ hk=>hk.2) (.int .i64 t266)) (fun _ hk=>hk.2) (.bool t267)) (fun _ h_=>h_.1))) hb);replace HO265:=aA.mk (Kd.N_below (by (with_reducible repeat (first|apply Kd.bW|apply Kd.bX|apply Kd.bV));exact (Kd.aV (Kd.bH (p:=⟨gb268,3,none⟩) (Kd.bH (p:=⟨gb268,2,none⟩) (Kd.bH (p:=⟨gb268,1,none⟩) (Kd.bH (p:=⟨gb268,0,none⟩) (Kd.aV HO265.out (fun k_ hk=>(⟨hk,hk.2⟩:_ ∧ k_ ≠ gb268))) (fun _ hk=>hk.2) (.slice Ao57 t260.length co57)) (fun _ hk=>hk.2) (.slice Ao61 t263.length co61)) (fun _ hk=>hk.2) (.int .i64 t266)) (fun _ hk=>hk.2) (.bool t267)) (fun _ h_=>h_.1))) hb);replace BK258:=aA.mk (bM (g:=gb258) (o:=.cells #[.slice A0_0 l0_0.length c0_0,.slice A0_1 l0_1.length c0_1,.int .i64 a0_2,.bool a0_3] 25 (0,0)) vy hb);replace BK259:=aA.mk (bM (g:=gb259) (o:=.cells #[.slice none 0 0,.slice none 0 0,.int .i64 0,.bool false] 25 (0,0)) vx hb);replace BK268:=aA.mk (bM (g:=gb268) (o:=.cells #[.slice Ao57 t260.length co57,.slice Ao61 t263.length co61,.int .i64 t266,.bool t267] 25 (0,0)) (by (with_reducible repeat (first|refine aM ?_ _|refine aN ?_|refine aG ?_ _));refine aQ (cs:=#[.slice Ao57 t260.length co57,.slice Ao61 t263.length co61,.int .i64 t266,.bool false]) ?_ 3 _ rfl;(with_reducible repeat (first|refine aM ?_ _|refine aN ?_|refine aG ?_ _));refine aQ (cs:=#[.slice Ao57 t260.length co57,.slice Ao61 t263.length co61,.int .i64 0,.bool false]) ?_ 2 _ rfl;(with_reducible repeat (first|refine aM ?_ _|refine aN ?_|refine aG ?_ _));refine aQ (cs:=#[.slice Ao57 t260.length co57,.slice none 0 0,.int .i64 0,.bool false]) ?_ 1 _ rfl;(with_reducible repeat (first|refine aM ?_ _|refine aN ?_|refine aG ?_ _));refine aQ (cs:=#[.slice none 0 0,.slice none 0 0,.int .i64 0,.bool false]) ?_ 0 _ rfl;(with_reducible repeat (first|refine aM ?_ _|refine aN ?_|refine aG ?_ _));exact BK268.out) hb);replace HB:=aA.mk (aT t4 hb);(try clear hb);(try clear hk);obtain ⟨hcz64_0,hcz64_1,hcz64_2,hcz64_3⟩:=cs4 BK268.out;obtain ⟨hfz64_0,hfz64_1,hfz64_2,hfz64_3⟩:=fs4 BK268.out;obtain ⟨hcz65_0,hcz65_1,hcz65_2,hcz65_3⟩:=cs4 BK259.out;obtain ⟨hfz65_0,hfz65_1,hfz65_2,hfz65_3⟩:=fs4 BK259.out))
  refine bodyPost_ret (results_cell_row rfl _ _ gb259 25 #[.slice Ao57 t260.length co57,.slice Ao61 t263.length co61,.int .i64 t266,.bool t267] (0,0) _ rfl (by (with_reducible repeat (first|refine aM ?_ _|refine aN ?_|refine aG ?_ _));refine aQ (cs:=#[.slice Ao57 t260.length co57,.slice Ao61 t263.length co61,.int .i64 t266,.bool false]) ?_ 3 _ rfl;(with_reducible repeat (first|refine aM ?_ _|refine aN ?_|refine aG ?_ _));refine aQ (cs:=#[.slice Ao57 t260.length co57,.slice Ao61 t263.length co61,.int .i64 0,.bool false]) ?_ 2 _ rfl;(with_reducible repeat (first|refine aM ?_ _|refine aN ?_|refine aG ?_ _));refine aQ (cs:=#[.slice Ao57 t260.length co57,.slice none 0 0,.int .i64 0,.bool false]) ?_ 1 _ rfl;(with_reducible repeat (first|refine aM ?_ _|refine aN ?_|refine aG ?_ _));refine aQ (cs:=#[.slice none 0 0,.slice none 0 0,.int .i64 0,.bool false]) ?_ 0 _ rfl;(with_reducible repeat (first|refine aM ?_ _|refine aN ?_|refine aG ?_ _));exact BK259.out) Try.underlying25 rfl tG) rfl ?_
  exact ⟨_,_,tN,by (with_reducible repeat (first|apply Kd.bW|apply Kd.bX|apply Kd.bV));exact Kd.aV (Kd.bH (p:=⟨gb259,3,none⟩) (Kd.bH (p:=⟨gb259,2,none⟩) (Kd.bH (p:=⟨gb259,1,none⟩) (Kd.bH (p:=⟨gb259,0,none⟩) (Kd.aV HO262.out (fun k_ hk=>(⟨hk,hk.1.2.2.2⟩:_ ∧ k_ ≠ gb259))) (fun _ hk=>hk.2) (.slice Ao57 t260.length co57)) (fun _ hk=>hk.2) (.slice Ao61 t263.length co61)) (fun _ hk=>hk.2) (.int .i64 t266)) (fun _ hk=>hk.2) (.bool t267)) (fun _ hk=>⟨hk.1.1.1,hk.1.1.2.1⟩),by (with_reducible repeat (first|apply Kd.bW|apply Kd.bX|apply Kd.bV));exact Kd.aV (Kd.bH (p:=⟨gb259,3,none⟩) (Kd.bH (p:=⟨gb259,2,none⟩) (Kd.bH (p:=⟨gb259,1,none⟩) (Kd.bH (p:=⟨gb259,0,none⟩) (Kd.aV HO265.out (fun k_ hk=>(⟨hk,hk.1.2.2.2⟩:_ ∧ k_ ≠ gb259))) (fun _ hk=>hk.2) (.slice Ao57 t260.length co57)) (fun _ hk=>hk.2) (.slice Ao61 t263.length co61)) (fun _ hk=>hk.2) (.int .i64 t266)) (fun _ hk=>hk.2) (.bool t267)) (fun _ hk=>⟨hk.1.1.1,hk.1.1.2.1⟩),t9⟩
def impl_FallDev.f (l0_0:List (List Int)) (l0_1:List (S50)) (a0_2:Int) (a0_3:Bool) (a1:Int):Option ((List (List Int)) × (List (S50)) × Int × Bool):=impl_FallDevS.f l0_0 l0_1 a0_2 a0_3 a1
theorem impl_FallDev.calls (A0_0:Option Addr) (c0_0:Nat) (l0_0:List (List Int)) (A0_1:Option Addr) (c0_1:Nat) (l0_1:List (S50)) (a0_2:Int) (a0_3:Bool) (a1:Int) (r1:List (List Int)) (r2:List (S50)) (r3:Int) (r4:Bool) (w:World) (hr0_0:Kd.C (Kd.slice 5 (Kd.int .u8)) w A0_0 l0_0.length l0_0) (hc0_0:l0_0.length ≤ c0_0) (hr0_1:Kd.C k50 w A0_1 l0_1.length l0_1) (hc0_1:l0_1.length ≤ c0_1) (h:impl_FallDev.f l0_0 l0_1 a0_2 a0_3 a1 = some (r1,r2,r3,r4)) :
  Calls Try.prog 32 #[.agg #[.slice A0_0 l0_0.length c0_0,.slice A0_1 l0_1.length c0_1,.int .i64 a0_2,.bool a0_3],.int .i64 a1] w fun e w'=>∃ v0_ v1_:Value,e = .returned (.agg #[v0_,v1_,.int .i64 r3,.bool r4]) ∧ Kd.N (Kd.slice 5 (Kd.int .u8)) 37 w' w.heap.size (fun k_=>(w.heap.size ≤ k_) ∧ some k_ ≠ (v1_:Value).ownBlock) v0_ r1 ∧ Kd.N k50 50 w' w.heap.size (fun k_=>(w.heap.size ≤ k_) ∧ some k_ ≠ (v0_:Value).ownBlock) v1_ r2 ∧ Below w.heap.size w w':=by
 exact (impl_FallDevS.calls (In 0 w.heap.size) A0_0 c0_0 l0_0 (In 0 w.heap.size) A0_1 c0_1 l0_1 a0_2 a0_3 a1 r1 r2 r3 r4 w ⟨_,_,rfl,hc0_0,C_F (Kd.heap_slice _ (Kd.heap_int _)) hr0_0⟩ ⟨_,_,rfl,hc0_1,C_F (Kd.heap_iso _ (Kd.heap_pair (Kd.heap_int _) (Kd.heap_slice _ (Kd.heap_int _)))) hr0_1⟩ h).mono fun e w' ⟨v0,v1,m,he,h1,h2,h3,h4,h5⟩=>⟨v0,v1,he,Kd.aV (Kd.R_N (Kd.S_R h3)) (fun k_ hk_=>⟨hk_.1,fun he_=>by have h6:=(Kd.S_R h4).1 k_ he_.symm;unfold In at h6 hk_;omega⟩),Kd.aV (Kd.R_N (Kd.S_R h4)) (fun k_ hk_=>⟨Nat.le_trans h1 hk_.1,fun he_=>by have h6:=(Kd.S_R h3).1 k_ he_.symm;unfold In at h6 hk_;omega⟩),h5⟩
def laws_big.f (l0:List Int):Option (Bool):=some (decide ((l0.length:Int) > 1048576))
set_option maxHeartbeats 8000000 in
set_option maxRecDepth 100000 in
theorem laws_big.calls (A0:Option Addr) (c0:Nat) (l0:List Int) (r:Bool) (w:World) (hr0:Kd.C (Kd.int .u8) w A0 l0.length l0) (hc0:l0.length ≤ c0) (h:laws_big.f l0 = some r) :
  Calls Try.prog 33 #[.slice A0 l0.length c0] w fun e w'=>e = .returned (.bool r) ∧ Drawn0 w w':=by
 have HR0:=aA.mk hr0
 have HC0:=aA.mk hc0
 clear hr0 hc0
 have H:(some (decide ((l0.length:Int) > 1048576))) = some r:=h
 clear h
 obtain rfl:=Option.some.inj H
 go_enter Try.func33,Try.ntmps33
 go_wp2
 go_ret
 exact wR
end Go.Proofs.Ytilhcaofpfeioaa.PFnDevsBent

namespace Go.Proofs.Ytilhcaofpfeioaa.PFnDevsBent
open Go.RowKit Go.Proofs.YtilhcaofpfeioaaW.PrintWords Go.Proofs.YtilhcaofpfeioaaW.PrintLast Go.Proofs.YtilhcaofpfeioaaW.PrintMore
attribute [local go_sem] max2_int min2_int max_two min_two max_three min_three max_four min_four   -- for this text's walks alone
set_option linter.unusedVariables false
set_option linter.unusedSimpArgs false
/-- A state of type 85 at block g of W; what its slices lead to came in by w0. -/
def IsS85 (w0 W:World) (g:Nat) (f0:List Int) (f1:Int) (f2:Int):Prop:=∃ A0 c0,W.heap[g]? = some (.cells #[.slice A0 f0.length c0,.int .i64 f1,.int .i64 f2] 85 (0,0)) ∧ w0.heap.size ≤ g ∧ Kd.C (Kd.int .u8) w0 A0 f0.length f0
theorem IsS85.grown {w0 W:World} {g:Nat} {f0:List Int} {f1:Int} {f2:Int} {W1:World} {row:Option Nat} (h:IsS85 w0 W g f0 f1 f2) (hw:W.grownBy W1 row) (hne:some g ≠ row):IsS85 w0 W1 g f0 f1 f2:=by
 obtain ⟨A0,c0,hb,hg,hr0⟩:=h
 exact ⟨A0,c0,blk_grown hb hw hne,hg,hr0⟩
theorem IsS85.own_neN {w0 W:World} {g:Nat} {f0:List Int} {f1:Int} {f2:Int} {α:Type} {d:Kd α} {e:Nat} {base:Nat} {ok:Nat → Prop} {v:Value} {xs:List α} (h:IsS85 w0 W g f0 f1 f2) (ho:Kd.N d e W base ok v xs) (ht:e ≠ 85):some g ≠ v.ownBlock:=by
 obtain ⟨A0,c0,hb,hg,hr0⟩:=h
 exact Kd.N_ne ho hb ht
theorem IsS85.fresh {w0 W:World} {g:Nat} {f0:List Int} {f1:Int} {f2:Int} (h:IsS85 w0 W g f0 f1 f2):∀ k,W.heap.size ≤ k → k ≠ g:=by
 obtain ⟨A0,c0,hb,hg,hr0⟩:=h
 exact Kd.freshB hb
theorem IsS85.kept {w0 W:World} {g:Nat} {f0:List Int} {f1:Int} {f2:Int} {W1:World} {S:Nat → Prop} (h:IsS85 w0 W g f0 f1 f2) (hk:Kept W W1 S) (hne:¬ S g):IsS85 w0 W1 g f0 f1 f2:=by
 obtain ⟨A0,c0,hb,hg,hr0⟩:=h
 exact ⟨A0,c0,aY hb hk hne,hg,hr0⟩
theorem IsS85.below {w0 W:World} {g:Nat} {f0:List Int} {f1:Int} {f2:Int} {W1:World} (h:IsS85 w0 W g f0 f1 f2) (hw:Below W.heap.size W W1):IsS85 w0 W1 g f0 f1 f2:=h.grown (grown_of_below hw none) vN
theorem IsS85.alloc {w0 W:World} {g:Nat} {f0:List Int} {f1:Int} {f2:Int} (h:IsS85 w0 W g f0 f1 f2) (o:Obj):IsS85 w0 (W.alloc o) g f0 f1 f2:=h.below (aJ (Below.refl _ _) o)
theorem IsS85.drewN {w0 W:World} {g:Nat} {f0:List Int} {f1:Int} {f2:Int} (h:IsS85 w0 W g f0 f1 f2) (m:Nat):IsS85 w0 (W.drewN m) g f0 f1 f2:=h
theorem IsS85.drew {w0 W:World} {g:Nat} {f0:List Int} {f1:Int} {f2:Int} (h:IsS85 w0 W g f0 f1 f2):IsS85 w0 W.drew g f0 f1 f2:=h
theorem IsS85.at_ {w0 W:World} {g:Nat} {f0:List Int} {f1:Int} {f2:Int} {w':World} {m:Nat} (hq:W.drewN m = w') (h:IsS85 w0 W g f0 f1 f2):IsS85 w0 w' g f0 f1 f2:=by subst hq;exact IsS85.drewN h m
theorem IsS85.apart {w0 W:World} {g:Nat} {f0:List Int} {f1:Int} {f2:Int} {α:Type} {d:Kd α} {e:Nat} {base:Nat} {ok:Nat → Prop} {v:Value} {xs:List α} (h:IsS85 w0 W g f0 f1 f2) (ho:d.R e W base ok v xs) (ht:∀ q,q ∈ e :: d.E → q ≠ 85):d.R e W base (fun k=>ok k ∧ k ≠ g) v xs:=by
 obtain ⟨A0,c0,hb,hg,hr0⟩:=h
 exact Kd.R_types ho hb ht
theorem IsS85.own_ne {w0 W:World} {g:Nat} {f0:List Int} {f1:Int} {f2:Int} {α:Type} {d:Kd α} {e:Nat} {base:Nat} {ok:Nat → Prop} {v:Value} {xs:List α} (h:IsS85 w0 W g f0 f1 f2) (ho:d.R e W base ok v xs) (ht:e ≠ 85):some g ≠ v.ownBlock:=by
 obtain ⟨A0,c0,hb,hg,hr0⟩:=h
 exact Kd.R_ne ho hb ht
theorem IsS85.lt {w0 W:World} {g:Nat} {f0:List Int} {f1:Int} {f2:Int} (h:IsS85 w0 W g f0 f1 f2):g < W.heap.size:=by
 obtain ⟨A0,c0,hb,hg,hr0⟩:=h
 exact bJ hb
theorem IsS85.ge {w0 W:World} {g:Nat} {f0:List Int} {f1:Int} {f2:Int} (h:IsS85 w0 W g f0 f1 f2):w0.heap.size ≤ g:=by
 obtain ⟨A0,c0,hb,hg,hr0⟩:=h
 exact hg
theorem IsS85.ne_blk {w0 W:World} {g:Nat} {f0:List Int} {f1:Int} {f2:Int} {a:Nat} {cs:Array Value} {t:TypeId} {fr:Nat × Nat} (h:IsS85 w0 W g f0 f1 f2) (hb2:W.heap[a]? = some (.cells cs t fr)) (ht:t ≠ 85):g ≠ a:=by
 obtain ⟨A0,c0,hb,hg,hr0⟩:=h
 rintro rfl
 rw [hb] at hb2
 injection hb2 with hb2
 injection hb2 with _ ht2
 exact ht ht2.symm
theorem IsS85.far {w0 W:World} {g:Nat} {f0:List Int} {f1:Int} {f2:Int} {p:Addr} (h:IsS85 w0 W g f0 f1 f2) (hne:g ≠ p.block) (u:Value):IsS85 w0 (W.setCell p u) g f0 f1 f2:=by
 obtain ⟨A0,c0,hb,hg,hr0⟩:=h
 exact ⟨A0,c0,bY hb hne u,hg,hr0⟩
theorem cellS85_0 {W:World} {g:Nat} {A0:Option Addr} {c0:Nat} {f0:List Int} {f1:Int} {f2:Int} (h:W.heap[g]? = some (.cells #[.slice A0 f0.length c0,.int .i64 f1,.int .i64 f2] 85 (0,0))):W.cell? ⟨g,0,none⟩ = some (.slice A0 f0.length c0):=(aD h 0).trans rfl
theorem cellS85_1 {W:World} {g:Nat} {A0:Option Addr} {c0:Nat} {f0:List Int} {f1:Int} {f2:Int} (h:W.heap[g]? = some (.cells #[.slice A0 f0.length c0,.int .i64 f1,.int .i64 f2] 85 (0,0))):W.cell? ⟨g,1,none⟩ = some (.int .i64 f1):=(aD h 1).trans rfl
theorem IsS85.set_1 {w0 W:World} {g:Nat} {f0:List Int} {f1:Int} {f2:Int} (h:IsS85 w0 W g f0 f1 f2) (x:Int):IsS85 w0 (W.setCell ⟨g,1,none⟩ (.int .i64 x)) g f0 x f2:=by
 obtain ⟨A0,c0,hb,hg,hr0⟩:=h
 exact ⟨A0,c0,by simpa using blk_set hb 1 (.int .i64 x),hg,hr0⟩
theorem cellS85_2 {W:World} {g:Nat} {A0:Option Addr} {c0:Nat} {f0:List Int} {f1:Int} {f2:Int} (h:W.heap[g]? = some (.cells #[.slice A0 f0.length c0,.int .i64 f1,.int .i64 f2] 85 (0,0))):W.cell? ⟨g,2,none⟩ = some (.int .i64 f2):=(aD h 2).trans rfl
theorem IsS85.set_2 {w0 W:World} {g:Nat} {f0:List Int} {f1:Int} {f2:Int} (h:IsS85 w0 W g f0 f1 f2) (x:Int):IsS85 w0 (W.setCell ⟨g,2,none⟩ (.int .i64 x)) g f0 f1 x:=by
 obtain ⟨A0,c0,hb,hg,hr0⟩:=h
 exact ⟨A0,c0,by simpa using blk_set hb 2 (.int .i64 x),hg,hr0⟩
theorem IsS85.new (w0 W:World) (A0:Option Addr) (c0:Nat) (f0:List Int) (f1:Int) (f2:Int) (hB:Below w0.heap.size w0 W) (hr0:Kd.C (Kd.int .u8) w0 A0 f0.length f0):IsS85 w0 (W.alloc (.cells #[.slice A0 f0.length c0,.int .i64 f1,.int .i64 f2] 85)) W.heap.size f0 f1 f2:=⟨A0,c0,by simpa using heap_alloc_new W _,hB.size,hr0⟩
def spec_l1New.l0:Nat → List Int → Int → Int → Option (List Int × Int × Int)
 | 0,_,_,_=>none
 | k + 1,x0,x3,x4=>if x4 < (x0.length:Int) then (if x4 < 4000 then (if 0 ≤ x4 then (spec_l1New.l0 k x0 (Go.bits .and .i64 (wrap64 ((wrap64 ((wrap64 (x3 * 137)) + (wrap64 (rd x0 x4)))) + 11)) 1073741823) (wrap64 (x4 + 1))) else (none)) else (some (x0,0,x3))) else (some (x0,0,x3))
def spec_l1New.f (k:Nat) (l0:List Int):Option (List Int × Int × Int):=spec_l1New.l0 k l0 (wrap64 (941941 + (l0.length:Int))) 0
set_option maxHeartbeats 8000000 in
set_option maxRecDepth 100000 in
theorem spec_l1New.calls (k:Nat) (A0:Option Addr) (c0:Nat) (l0:List Int) (r1:List Int) (r2:Int) (r3:Int) (w0 w:World) (hB:Below w0.heap.size w0 w) (hr0:Kd.C (Kd.int .u8) w0 A0 l0.length l0) (hc0:l0.length ≤ c0) (h:spec_l1New.f k l0 = some (r1,r2,r3)) :
  Calls Try.prog 61 #[.slice A0 l0.length c0] w fun e w'=>∃ g_:Nat,e = .returned (.pointer (some ⟨g_,0,none⟩)) ∧ IsS85 w0 w' g_ r1 r2 r3 ∧ Below w0.heap.size w0 w' ∧ Below w.heap.size w w':=by
 have hu85:=Try.underlying85
 have HR0:=aA.mk hr0
 have HC0:=aA.mk hc0
 clear hr0 hc0
 have HBW:=aA.mk (Below.refl w.heap.size w)
 have HW0:=aA.mk hB.size
 have HB:=aA.mk hB
 clear hB
 have H:(spec_l1New.l0 k l0 (wrap64 (941941 + (l0.length:Int))) 0) = some (r1,r2,r3):=h
 clear h
 have H':=aA.mk H
 clear H
 go_enter Try.func61,Try.ntmps61
 go_wp2
 go_loopg [3,4] k (fun kq v3 v4 w'=>∃ (x3_1:Int) (x4_1:Int),v3 = .int .i64 x3_1 ∧ v4 = .int .i64 x4_1 ∧ aA (spec_l1New.l0 kq l0 x3_1 x4_1 = some (r1,r2,r3)) ∧ aA (kq ≤ k) ∧ aA (Below w0.heap.size w0 w') ∧ aA (Below w.heap.size w w'))
 case atStart=>exact ⟨(wrap64 (941941 + (l0.length:Int))),(0),td,td,H',⟨Nat.le_refl _⟩,⟨wY⟩,⟨by repeat (first|(with_reducible first|exact HBW.out|apply aJ|apply aE|apply aH)|exact HBW.out)⟩⟩
 case round =>
  clear H'
  obtain ⟨x3_1,x4_1,rfl,rfl,HA,HK1,HB,HBW⟩:=hrel
  cases gk with
  | zero=>exact absurd HA.out (by simp [spec_l1New.l0])
  | succ k1 =>
   have H:=HA.out
   clear HA
   simp only [spec_l1New.l0] at H
   by_cases c2:x4_1 < (l0.length:Int)
   ·rw [if_pos c2] at H
    have c2b0:decide (x4_1 < (l0.length:Int)) = true:=decide_eq_true c2
    clear c2
    by_cases c3:x4_1 < 4000
    ·rw [if_pos c3] at H
     have c3b0:decide (x4_1 < 4000) = true:=decide_eq_true c3
     clear c3
     by_cases c4:0 ≤ x4_1
     ·rw [if_pos c4] at H
      have c4b0:decide (0 ≤ x4_1) = true:=decide_eq_true c4
      clear c4
      have H':=aA.mk H
      clear H
      have p277:0 ≤ (x4_1:Int):=lE tx
      have q277:x4_1 < (l0.length:Int):=lE tx
      obtain ⟨ad277,e277,hx277_0⟩:=Kd.at_int HR0.out x4_1 p277 q277
      cases e277
      replace hx277_0:=pw_cell_below HB.out hx277_0
      replace p277:=eq_true p277
      replace q277:=eq_true q277
      go_wp2
      go_roundg k1
      case measure=>have:=HK1.out;omega
      case rel=>exact ⟨(Go.bits .and .i64 (wrap64 ((wrap64 ((wrap64 (x3_1 * 137)) + (wrap64 (rd l0 x4_1)))) + 11)) 1073741823),(wrap64 (x4_1 + 1)),td,td,H',⟨by have:=HK1.out;omega⟩,⟨wY⟩,⟨by repeat (first|(with_reducible first|exact HBW.out|apply aJ|apply aE|apply aH)|exact HBW.out)⟩⟩
     ·rw [if_neg c4] at H
      exact wX
    ·rw [if_neg c3] at H
     have c3b0:decide (x4_1 < 4000) = false:=decide_eq_false c3
     clear c3
     simp only [Option.some.injEq,Prod.mk.injEq] at H
     obtain ⟨rfl,rfl,rfl⟩:=H
     go_wp2_with (first|((with_reducible refine bC (N:=31) rfl ?_);refine bD ?hg (N:=31) ?hd (cs:=#[.slice A0 l0.length c0,.int .i64 0,.int .i64 x3_1]) (t:=85) ?hr ?_;(case hd=>rfl);(case hg=>rfl);(case hr=>exact tE);intro gb278 hg w5 hbox hb;replace HB:=aA.mk (aT HB.out hb);have BK278:=aA.mk (hbox);have GW278:=aA.mk ((by rw [hg];exact (aX wh):w.heap.size ≤ gb278));have GE278:=aA.mk ((Nat.le_trans HW0.out (by rw [hg];exact (aX wh):w.heap.size ≤ gb278):w0.heap.size ≤ gb278));replace HBW:=aA.mk (aT HBW.out hb);clear hb hbox hg))
     go_ret
     exact ⟨_,rfl,(show IsS85 w0 _ gb278 l0 0 x3_1 from ⟨_,_,by (with_reducible repeat (first|refine aM ?_ _|refine aN ?_|refine aG ?_ _));exact BK278.out,GE278.out,HR0.out⟩),by repeat (first|(with_reducible first|exact HB.out|apply aJ|apply aE|apply aH|refine aC ?_ GE278.out)|exact HB.out),by repeat (first|(with_reducible first|exact HBW.out|apply aJ|apply aE|apply aH|refine aC ?_ GW278.out)|exact HBW.out)⟩
   ·rw [if_neg c2] at H
    have c2b0:decide (x4_1 < (l0.length:Int)) = false:=decide_eq_false c2
    clear c2
    simp only [Option.some.injEq,Prod.mk.injEq] at H
    obtain ⟨rfl,rfl,rfl⟩:=H
    go_wp2_with (first|((with_reducible refine bC (N:=31) rfl ?_);refine bD ?hg (N:=31) ?hd (cs:=#[.slice A0 l0.length c0,.int .i64 0,.int .i64 x3_1]) (t:=85) ?hr ?_;(case hd=>rfl);(case hg=>rfl);(case hr=>exact tE);intro gb279 hg w6 hbox hb;replace HB:=aA.mk (aT HB.out hb);have BK279:=aA.mk (hbox);have GW279:=aA.mk ((by rw [hg];exact (aX wh):w.heap.size ≤ gb279));have GE279:=aA.mk ((Nat.le_trans HW0.out (by rw [hg];exact (aX wh):w.heap.size ≤ gb279):w0.heap.size ≤ gb279));replace HBW:=aA.mk (aT HBW.out hb);clear hb hbox hg))
    go_ret
    exact ⟨_,rfl,(show IsS85 w0 _ gb279 l0 0 x3_1 from ⟨_,_,by (with_reducible repeat (first|refine aM ?_ _|refine aN ?_|refine aG ?_ _));exact BK279.out,GE279.out,HR0.out⟩),by repeat (first|(with_reducible first|exact HB.out|apply aJ|apply aE|apply aH|refine aC ?_ GE279.out)|exact HB.out),by repeat (first|(with_reducible first|exact HBW.out|apply aJ|apply aE|apply aH|refine aC ?_ GW279.out)|exact HBW.out)⟩
def spec_l1Byte.f (s0_0:List Int) (s0_1:Int) (s0_2:Int):Option (Int × Int × Int):=if s0_1 < (s0_0.length:Int) then (if 0 ≤ s0_1 then (some (Go.bits .and .i64 (wrap64 ((Go.bits .and .i64 (Go.bits .xor .i64 ((wrap64 ((wrap64 (s0_2 * 6364136223846793005)) + 1442695040888963407)) / 8589934592) ((wrap64 ((wrap64 (s0_2 * 6364136223846793005)) + 1442695040888963407)) / 140737488355328)) 255) + (wrap64 (rd s0_0 s0_1)))) 255,wrap64 (s0_1 + 1),wrap64 ((wrap64 (s0_2 * 6364136223846793005)) + 1442695040888963407))) else (none)) else (some (Go.bits .and .i64 (Go.bits .xor .i64 ((wrap64 ((wrap64 (s0_2 * 6364136223846793005)) + 1442695040888963407)) / 8589934592) ((wrap64 ((wrap64 (s0_2 * 6364136223846793005)) + 1442695040888963407)) / 140737488355328)) 255,s0_1,wrap64 ((wrap64 (s0_2 * 6364136223846793005)) + 1442695040888963407)))
set_option maxHeartbeats 8000000 in
set_option maxRecDepth 100000 in
theorem spec_l1Byte.calls (g:Nat) (s0_0:List Int) (s0_1:Int) (s0_2:Int) (r1:Int) (r2:Int) (r3:Int) (w0 w:World) (hI:IsS85 w0 w g s0_0 s0_1 s0_2) (hB:Below w0.heap.size w0 w) (h:spec_l1Byte.f s0_0 s0_1 s0_2 = some (r1,r2,r3)) :
  Calls Try.prog 73 #[.pointer (some ⟨g,0,none⟩)] w fun e w'=>e = .returned (.int .i64 r1) ∧ IsS85 w0 w' g s0_0 r2 r3 ∧ Below w0.heap.size w0 w' ∧ KeepBut w w' g none:=by
 have HI0:=aA.mk hI
 have HK:=aA.mk (KeepBut.refl w g none)
 have HL:=aA.mk hB.size
 clear hI
 have HW0:=aA.mk hB.size
 have HB:=aA.mk hB
 clear hB
 have H:(if s0_1 < (s0_0.length:Int) then (if 0 ≤ s0_1 then (some (Go.bits .and .i64 (wrap64 ((Go.bits .and .i64 (Go.bits .xor .i64 ((wrap64 ((wrap64 (s0_2 * 6364136223846793005)) + 1442695040888963407)) / 8589934592) ((wrap64 ((wrap64 (s0_2 * 6364136223846793005)) + 1442695040888963407)) / 140737488355328)) 255) + (wrap64 (rd s0_0 s0_1)))) 255,wrap64 (s0_1 + 1),wrap64 ((wrap64 (s0_2 * 6364136223846793005)) + 1442695040888963407))) else (none)) else (some (Go.bits .and .i64 (Go.bits .xor .i64 ((wrap64 ((wrap64 (s0_2 * 6364136223846793005)) + 1442695040888963407)) / 8589934592) ((wrap64 ((wrap64 (s0_2 * 6364136223846793005)) + 1442695040888963407)) / 140737488355328)) 255,s0_1,wrap64 ((wrap64 (s0_2 * 6364136223846793005)) + 1442695040888963407)))) = some (r1,r2,r3):=h
 clear h
 by_cases c2:s0_1 < (s0_0.length:Int)
 ·rw [if_pos c2] at H
  have c2b0:decide (s0_1 < (s0_0.length:Int)) = true:=decide_eq_true c2
  clear c2
  by_cases c3:0 ≤ s0_1
  ·rw [if_pos c3] at H
   have c3b0:decide (0 ≤ s0_1) = true:=decide_eq_true c3
   clear c3
   simp only [Option.some.injEq,Prod.mk.injEq] at H
   obtain ⟨rfl,rfl,rfl⟩:=H
   obtain ⟨ASz4_0,cSz4_0,HGz4,hgz4,HSz4_0⟩:=HI0.out
   have hcz4_0:=cellS85_0 HGz4
   have hcz4_1:=cellS85_1 HGz4
   have hcz4_2:=cellS85_2 HGz4
   have hfz4_1:=cD HGz4 1
   have hfz4_2:=cD HGz4 2
   clear HGz4 hgz4
   have p280:0 ≤ (s0_1:Int):=lE tx
   have q280:s0_1 < (s0_0.length:Int):=lE tx
   obtain ⟨ad280,e280,hx280_0⟩:=Kd.at_int HSz4_0 s0_1 p280 q280
   cases e280
   have hn280_0:ad280.block ≠ g:=Nat.ne_of_lt (Nat.lt_of_lt_of_le (by have:=lD _ _ hx280_0;first|rwa [add_block] at this|exact this) (IsS85.ge HI0.out))
   replace hx280_0:=pw_cell_below HB.out hx280_0
   replace hx280_0:=(cell_far (p:=⟨g,2,none⟩) (by first|(rw [add_block];exact hn280_0)|(show (Addr.add _ _).block ≠ _;rw [add_block];exact hn280_0)|exact hn280_0) (.int .i64 (wrap64 ((wrap64 (s0_2 * 6364136223846793005)) + 1442695040888963407)))).trans hx280_0
   (try have hy280_0:=fun (n_:Nat)=>(show (((w.drewN n_).setCell ⟨g,2,none⟩ (.int .i64 (wrap64 ((wrap64 (s0_2 * 6364136223846793005)) + 1442695040888963407))))).cell? _ = some _ from hx280_0))
   clear hn280_0
   replace p280:=eq_true p280
   replace q280:=eq_true q280
   go_enter Try.func73,Try.ntmps73
   go_wp2
   repeat (go_quiet (fail);try go_wp2)
   go_ret
   exact tb
  ·rw [if_neg c3] at H
   exact wX
 ·rw [if_neg c2] at H
  have c2b0:decide (s0_1 < (s0_0.length:Int)) = false:=decide_eq_false c2
  clear c2
  simp only [Option.some.injEq,Prod.mk.injEq] at H
  obtain ⟨rfl,rfl,rfl⟩:=H
  obtain ⟨ASz5_0,cSz5_0,HGz5,hgz5,HSz5_0⟩:=HI0.out
  have hcz5_0:=cellS85_0 HGz5
  have hcz5_1:=cellS85_1 HGz5
  have hcz5_2:=cellS85_2 HGz5
  have hfz5_1:=cD HGz5 1
  have hfz5_2:=cD HGz5 2
  clear HGz5 hgz5
  go_enter Try.func73,Try.ntmps73
  go_wp2
  repeat (go_quiet (fail);try go_wp2)
  go_ret
  exact tb
def spec_l1Bytes.l0:Nat → Int → List Int → Int → List Int → Int → Int → Option (List Int × Int × Int)
 | 0,_,_,_,_,_,_=>none
 | k + 1,x1,x5,x6,x1000,x1001,x1002=>if x6 < x1 then ((spec_l1Byte.f x1000 x1001 x1002).bind fun bt284=>(if x5.length < 140737488355328 then (spec_l1Bytes.l0 k x1 (x5 ++ [(bt284.1) % 256]) (wrap64 (x6 + 1)) x1000 bt284.2.1 bt284.2.2) else (none))) else (some (x5,x1001,x1002))
def spec_l1Bytes.f (k:Nat) (s0_0:List Int) (s0_1:Int) (s0_2:Int) (a1:Int):Option (List Int × Int × Int):=spec_l1Bytes.l0 k a1 (([]:List Int)) 0 s0_0 s0_1 s0_2
set_option maxHeartbeats 8000000 in
set_option maxRecDepth 100000 in
theorem spec_l1Bytes.calls (k:Nat) (g:Nat) (s0_0:List Int) (s0_1:Int) (s0_2:Int) (a1:Int) (r1:List Int) (r2:Int) (r3:Int) (w0 w:World) (hI:IsS85 w0 w g s0_0 s0_1 s0_2) (hB:Below w0.heap.size w0 w) (h:spec_l1Bytes.f k s0_0 s0_1 s0_2 a1 = some (r1,r2,r3)) :
  Calls Try.prog 65 #[.pointer (some ⟨g,0,none⟩),.int .i64 a1] w fun e w'=>∃ v0_:Value,e = .returned (v0_) ∧ Kd.R (Kd.int .u8) 5 w' w.heap.size (fun _=>True) v0_ r1 ∧ IsS85 w0 w' g s0_0 r2 r3 ∧ Below w0.heap.size w0 w' ∧ KeepBut w w' g none:=by
 have HI0:=aA.mk hI
 have HK:=aA.mk (KeepBut.refl w g none)
 have HL:=aA.mk hB.size
 clear hI
 have HW0:=aA.mk hB.size
 have HB:=aA.mk hB
 clear hB
 have H:(spec_l1Bytes.l0 k a1 (([]:List Int)) 0 s0_0 s0_1 s0_2) = some (r1,r2,r3):=h
 clear h
 obtain ⟨y281,hy281⟩:∃ y_:List Int,y_ = (([]:List Int)):=⟨_,rfl⟩
 replace H:(spec_l1Bytes.l0 k a1 y281 0 s0_0 s0_1 s0_2) = some (r1,r2,r3):=by first|(rw [hy281];with_reducible exact H)|(have H2_:=(Option.bind_some _ _).symm.trans H;rw [hy281];with_reducible exact H2_)|(have H2_:=(Option.bind_some _ _).symm.trans H;with_reducible exact H2_)|with_reducible exact H|(rw [hy281];exact H)|exact H
 have Ny281:=aA.mk hy281
 clear hy281
 have H':=aA.mk H
 clear H
 go_enter Try.func65,Try.ntmps65
 go_wp2_with (first|((with_reducible refine bC (N:=7) rfl ?_);refine Kd.R_lit (Kd.int .u8) _ 5 ?hg (N:=7) ?hd (xs:=([]:List Int)) (inner:=[]) (ok:=fun _=>True) (okp:=fun _=>True) ?hr ?hp (fun _ hk=>hk) trivial (Below.refl _ _) (Nat.le_refl _) vN ?_;(case hd=>rfl);(case hg=>rfl);(case hr=>exact tE);(case hp=>exact (Reps.none _ _));intro v282 w3 ho4 hb hg_ hnew_;clear hg_ hnew_;(first|rw [← Ny281.out] at ho4|(simp only [Int.reduceToNat] at ho4;rw [← Ny281.out] at ho4));have HO283:=aA.mk (Kd.R_lower ho4 (bQ (w:=w) (g:=g) (row:=none) tQ));replace HK:=aA.mk (KeepBut.trans tQ (KeepBut.of_below hb g none) (.inl rfl));replace HB:=aA.mk (aT vE hb);replace HI0:=aA.mk (IsS85.below t6 hb);clear hb ho4))
 go_loopg [5,6] k (fun kq v5 v6 w'=>∃ (x5_1:List Int) (x6_1:Int) (x1001_1:Int) (x1002_1:Int),v6 = .int .i64 x6_1 ∧ aA (spec_l1Bytes.l0 kq a1 x5_1 x6_1 s0_0 x1001_1 x1002_1 = some (r1,r2,r3)) ∧ aA (kq ≤ k) ∧ aA (Kd.R (Kd.int .u8) 5 w' w.heap.size (fun _=>True) v5 x5_1) ∧ aA (IsS85 w0 w' g s0_0 x1001_1 x1002_1) ∧ aA (KeepBut w w' g none) ∧ aA (Below w0.heap.size w0 w'))
 case atStart=>exact ⟨(y281),(0),(s0_1),(s0_2),td,H',⟨Nat.le_refl _⟩,⟨by (with_reducible repeat (first|apply Kd.R_alloc|apply Kd.R_drewN|apply Kd.R_drew));exact HO283.out⟩,⟨wg⟩,⟨AG⟩,⟨AB⟩⟩
 case round =>
  clear H'
  try clear p2
  obtain ⟨x5_1,x6_1,x1001_1,x1002_1,rfl,HA,HK1,HO_5,HI0,HK,HB⟩:=hrel
  cases gk with
  | zero=>exact absurd HA.out (by simp [spec_l1Bytes.l0])
  | succ k1 =>
   have H:=HA.out
   clear HA
   simp only [spec_l1Bytes.l0] at H
   by_cases c5:x6_1 < a1
   ·rw [if_pos c5] at H
    have c5b0:decide (x6_1 < a1) = true:=decide_eq_true c5
    clear c5
    replace H:=lF H
    obtain ⟨⟨t284,t285,t286⟩,A60,H⟩:=H
    replace H:(if x5_1.length < 140737488355328 then (spec_l1Bytes.l0 k1 a1 (x5_1 ++ [(t284) % 256]) (wrap64 (x6_1 + 1)) s0_0 t285 t286) else (none)) = some (r1,r2,r3):=H
    have A6:=aA.mk A60
    clear A60
    by_cases c7:x5_1.length < 140737488355328
    ·rw [if_pos c7] at H
     have LMc7:=aA.mk c7
     clear c7
     obtain ⟨y287,hy287⟩:∃ y_:List Int,y_ = (x5_1 ++ [(t284) % 256]):=⟨_,rfl⟩
     replace H:(spec_l1Bytes.l0 k1 a1 y287 (wrap64 (x6_1 + 1)) s0_0 t285 t286) = some (r1,r2,r3):=by first|(rw [hy287];with_reducible exact H)|(have H2_:=(Option.bind_some _ _).symm.trans H;rw [hy287];with_reducible exact H2_)|(have H2_:=(Option.bind_some _ _).symm.trans H;with_reducible exact H2_)|with_reducible exact H|(rw [hy287];exact H)|exact H
     have Ny287:=aA.mk hy287
     clear hy287
     have H':=aA.mk H
     clear H
     go_wp2_with (first|((with_reducible refine aW (f:=73) rfl ?_);refine bK (some 15) rfl rfl Try.func73 tG rfl #[.pointer (some ⟨g,0,none⟩)] rfl tC ?_;(with_reducible refine (spec_l1Byte.calls g s0_0 x1001_1 x1002_1 t284 t285 t286 w0 _ ?side1 ?side2 A6.out).mono ?_);(case side1=>exact vM);(case side2=>exact vZ);rintro e w8 ⟨rfl,hi,hb,hk⟩;refine ⟨_,rfl,?_⟩;replace HO_5:=aA.mk (Kd.R_mono (Kd.R_keep (IsS85.apart (show IsS85 w0 _ g s0_0 x1001_1 x1002_1 from by repeat (first|(with_reducible first|exact HI0.out|apply IsS85.alloc|apply IsS85.drewN|apply IsS85.drew|apply IsS85.set_1|apply IsS85.set_2)|exact HI0.out)) HO_5.out tf) hk (fun _ h=>h.2)) (fun _ h=>h.1));replace HK:=aA.mk (KeepBut.trans tQ hk (.inl rfl));replace HB:=aA.mk (hb);replace HI0:=aA.mk (hi);(try clear hb);(try clear hk);(try clear hi))|((with_reducible refine gate_builtin (b:=.append) (xs:=#[.tmp 13,.tmp 17]) rfl ?_);at_builtin;refine Kd.R_append (Kd.int .u8) w.heap.size rfl (.tmp 13) (.tmp 17) 37 5 (.int .u8 0) 1 rfl Try.underlying37 info5 rfl tf tZ u5 x5_1 ((t284) % 256) [.int .u8 ((t284) % 256)] (fun _=>True) (fun _=>False) rfl rfl ?aP (fun _ hk=>hk.elim) ?aF ?aO (Below.refl _ _) ?aS ?aL ?_;(case aP=>exact rfl);(case aF=>exact (fun _ _=>trivial));(case aO=>exact HO_5.out);(case aS=>exact (bQ (w:=w) (g:=g) (row:=none) tQ));(case aL=>have:=LMc7.out;omega);intro v288 w9 ho hb hg hat;rw [← Ny287.out] at ho;replace HB:=aA.mk (below_weaken vE HL.out hb);replace HI0:=aA.mk (IsS85.grown t6 hg (IsS85.own_ne HI0.out HO_5.out tf));replace HK:=aA.mk (KeepBut.trans tQ (KeepBut.of_grown hg g) (Kd.R_base2 HO_5.out));have HO289:=aA.mk (ho);clear HO_5;clear ho hb hg hat))
     go_roundg k1
     case measure=>have:=HK1.out;omega
     case rel=>exact ⟨(y287),(wrap64 (x6_1 + 1)),(t285),(t286),td,H',⟨by have:=HK1.out;omega⟩,⟨by (with_reducible repeat (first|apply Kd.R_alloc|apply Kd.R_drewN|apply Kd.R_drew));exact HO289.out⟩,⟨wg⟩,⟨AG⟩,⟨AB⟩⟩
    ·rw [if_neg c7] at H
     exact wX
   ·rw [if_neg c5] at H
    have c5b0:decide (x6_1 < a1) = false:=decide_eq_false c5
    clear c5
    simp only [Option.some.injEq,Prod.mk.injEq] at H
    obtain ⟨rfl,rfl,rfl⟩:=H
    go_wp2
    go_ret
    exact ⟨_,tN,by (with_reducible repeat (first|apply Kd.R_alloc|apply Kd.R_drewN|apply Kd.R_drew));exact HO_5.out,wg,AB,AG⟩
def spec_l1Below.f (s0_0:List Int) (s0_1:Int) (s0_2:Int) (a1:Int):Option (Int × Int × Int):=if a1 ≤ 0 then (some (0,s0_1,s0_2)) else (if a1 ≤ 256 then ((spec_l1Byte.f s0_0 s0_1 s0_2).bind fun bt290=>(if a1 = 0 then (none) else (some (Int.tmod bt290.1 a1,bt290.2.1,bt290.2.2)))) else ((spec_l1Byte.f s0_0 s0_1 s0_2).bind fun bt293=>((spec_l1Byte.f s0_0 bt293.2.1 bt293.2.2).bind fun bt296=>((spec_l1Byte.f s0_0 bt296.2.1 bt296.2.2).bind fun bt299=>(if a1 = 0 then (none) else (some (Int.tmod (wrap64 ((wrap64 ((wrap64 (bt293.1 * 65536)) + (wrap64 (bt296.1 * 256)))) + bt299.1)) a1,bt299.2.1,bt299.2.2)))))))
set_option maxHeartbeats 8000000 in
set_option maxRecDepth 100000 in
theorem spec_l1Below.calls (g:Nat) (s0_0:List Int) (s0_1:Int) (s0_2:Int) (a1:Int) (r1:Int) (r2:Int) (r3:Int) (w0 w:World) (hI:IsS85 w0 w g s0_0 s0_1 s0_2) (hB:Below w0.heap.size w0 w) (h:spec_l1Below.f s0_0 s0_1 s0_2 a1 = some (r1,r2,r3)) :
  Calls Try.prog 66 #[.pointer (some ⟨g,0,none⟩),.int .i64 a1] w fun e w'=>e = .returned (.int .i64 r1) ∧ IsS85 w0 w' g s0_0 r2 r3 ∧ Below w0.heap.size w0 w' ∧ KeepBut w w' g none:=by
 have HI0:=aA.mk hI
 have HK:=aA.mk (KeepBut.refl w g none)
 have HL:=aA.mk hB.size
 clear hI
 have HW0:=aA.mk hB.size
 have HB:=aA.mk hB
 clear hB
 have H:(if a1 ≤ 0 then (some (0,s0_1,s0_2)) else (if a1 ≤ 256 then ((spec_l1Byte.f s0_0 s0_1 s0_2).bind fun bt290=>(if a1 = 0 then (none) else (some (Int.tmod bt290.1 a1,bt290.2.1,bt290.2.2)))) else ((spec_l1Byte.f s0_0 s0_1 s0_2).bind fun bt293=>((spec_l1Byte.f s0_0 bt293.2.1 bt293.2.2).bind fun bt296=>((spec_l1Byte.f s0_0 bt296.2.1 bt296.2.2).bind fun bt299=>(if a1 = 0 then (none) else (some (Int.tmod (wrap64 ((wrap64 ((wrap64 (bt293.1 * 65536)) + (wrap64 (bt296.1 * 256)))) + bt299.1)) a1,bt299.2.1,bt299.2.2)))))))) = some (r1,r2,r3):=h
 clear h
 by_cases c3:a1 ≤ 0
 ·rw [if_pos c3] at H
  have c3b0:decide (a1 ≤ 0) = true:=decide_eq_true c3
  clear c3
  simp only [Option.some.injEq,Prod.mk.injEq] at H
  obtain ⟨rfl,rfl,rfl⟩:=H
  go_enter Try.func66,Try.ntmps66
  go_wp2
  go_ret
  exact tb
 ·rw [if_neg c3] at H
  have c3b0:decide (a1 ≤ 0) = false:=decide_eq_false c3
  clear c3
  by_cases c4:a1 ≤ 256
  ·rw [if_pos c4] at H
   have c4b0:decide (a1 ≤ 256) = true:=decide_eq_true c4
   clear c4
   replace H:=lF H
   obtain ⟨⟨t290,t291,t292⟩,A50,H⟩:=H
   replace H:(if a1 = 0 then (none) else (some (Int.tmod t290 a1,t291,t292))) = some (r1,r2,r3):=H
   have A5:=aA.mk A50
   clear A50
   by_cases c6:a1 = 0
   ·rw [if_pos c6] at H
    exact wX
   ·rw [if_neg c6] at H
    have c6b0:(a1 == 0) = false:=beq_eq_false_iff_ne.mpr c6
    have c6b1:(a1 != 0) = true:=bne_iff_ne.mpr c6
    simp only [Option.some.injEq,Prod.mk.injEq] at H
    obtain ⟨rfl,rfl,rfl⟩:=H
    go_enter Try.func66,Try.ntmps66
    go_wp2_with (first|((with_reducible refine aW (f:=73) rfl ?_);refine bK (some 13) rfl rfl Try.func73 tG rfl #[.pointer (some ⟨g,0,none⟩)] rfl tC ?_;(with_reducible refine (spec_l1Byte.calls g s0_0 s0_1 s0_2 t290 t291 t292 w0 _ ?side1 ?side2 A5.out).mono ?_);(case side1=>exact vM);(case side2=>exact vZ);rintro e w7 ⟨rfl,hi,hb,hk⟩;refine ⟨_,rfl,?_⟩;replace HK:=aA.mk (KeepBut.trans tQ hk (.inl rfl));replace HB:=aA.mk (hb);replace HI0:=aA.mk (hi);(try clear hb);(try clear hk);(try clear hi)))
    go_ret
    exact tb
  ·rw [if_neg c4] at H
   have c4b0:decide (a1 ≤ 256) = false:=decide_eq_false c4
   clear c4
   replace H:=lF H
   obtain ⟨⟨t293,t294,t295⟩,A80,H⟩:=H
   replace H:((spec_l1Byte.f s0_0 t294 t295).bind fun bt296=>((spec_l1Byte.f s0_0 bt296.2.1 bt296.2.2).bind fun bt299=>(if a1 = 0 then (none) else (some (Int.tmod (wrap64 ((wrap64 ((wrap64 (t293 * 65536)) + (wrap64 (bt296.1 * 256)))) + bt299.1)) a1,bt299.2.1,bt299.2.2))))) = some (r1,r2,r3):=H
   have A8:=aA.mk A80
   clear A80
   replace H:=lF H
   obtain ⟨⟨t296,t297,t298⟩,A90,H⟩:=H
   replace H:((spec_l1Byte.f s0_0 t297 t298).bind fun bt299=>(if a1 = 0 then (none) else (some (Int.tmod (wrap64 ((wrap64 ((wrap64 (t293 * 65536)) + (wrap64 (t296 * 256)))) + bt299.1)) a1,bt299.2.1,bt299.2.2)))) = some (r1,r2,r3):=H
   have A9:=aA.mk A90
   clear A90
   replace H:=lF H
   obtain ⟨⟨t299,t300,t301⟩,A100,H⟩:=H
   replace H:(if a1 = 0 then (none) else (some (Int.tmod (wrap64 ((wrap64 ((wrap64 (t293 * 65536)) + (wrap64 (t296 * 256)))) + t299)) a1,t300,t301))) = some (r1,r2,r3):=H
   have A10:=aA.mk A100
   clear A100
   by_cases c11:a1 = 0
   ·rw [if_pos c11] at H
    exact wX
   ·rw [if_neg c11] at H
    have c11b0:(a1 == 0) = false:=beq_eq_false_iff_ne.mpr c11
    have c11b1:(a1 != 0) = true:=bne_iff_ne.mpr c11
    simp only [Option.some.injEq,Prod.mk.injEq] at H
    obtain ⟨rfl,rfl,rfl⟩:=H
    go_enter Try.func66,Try.ntmps66
    go_wp2_with (first|((with_reducible refine aW (f:=73) rfl ?_);refine bK (some 17) rfl rfl Try.func73 tG rfl #[.pointer (some ⟨g,0,none⟩)] rfl tC ?_;(with_reducible refine (spec_l1Byte.calls g s0_0 s0_1 s0_2 t293 t294 t295 w0 _ ?side1 ?side2 A8.out).mono ?_);(case side1=>exact vM);(case side2=>exact vZ);rintro e w12 ⟨rfl,hi,hb,hk⟩;refine ⟨_,rfl,?_⟩;replace HK:=aA.mk (KeepBut.trans tQ hk (.inl rfl));replace HB:=aA.mk (hb);replace HI0:=aA.mk (hi);(try clear hb);(try clear hk);(try clear hi))|((with_reducible refine aW (f:=73) rfl ?_);refine bK (some 19) rfl rfl Try.func73 tG rfl #[.pointer (some ⟨g,0,none⟩)] rfl tC ?_;(with_reducible refine (spec_l1Byte.calls g s0_0 t294 t295 t296 t297 t298 w0 _ ?side1 ?side2 A9.out).mono ?_);(case side1=>exact vM);(case side2=>exact vZ);rintro e w13 ⟨rfl,hi,hb,hk⟩;refine ⟨_,rfl,?_⟩;replace HK:=aA.mk (KeepBut.trans tQ hk (.inl rfl));replace HB:=aA.mk (hb);replace HI0:=aA.mk (hi);(try clear hb);(try clear hk);(try clear hi))|((with_reducible refine aW (f:=73) rfl ?_);refine bK (some 21) rfl rfl Try.func73 tG rfl #[.pointer (some ⟨g,0,none⟩)] rfl tC ?_;(with_reducible refine (spec_l1Byte.calls g s0_0 t297 t298 t299 t300 t301 w0 _ ?side1 ?side2 A10.out).mono ?_);(case side1=>exact vM);(case side2=>exact vZ);rintro e w14 ⟨rfl,hi,hb,hk⟩;refine ⟨_,rfl,?_⟩;replace HK:=aA.mk (KeepBut.trans tQ hk (.inl rfl));replace HB:=aA.mk (hb);replace HI0:=aA.mk (hi);(try clear hb);(try clear hk);(try clear hi)))
    go_ret
    exact tb
def spec_l1Once.f (s0_0:List Int) (s0_1:Int) (s0_2:Int) (a1:Int):Option (Bool × Int × Int):=(spec_l1Below.f s0_0 s0_1 s0_2 a1).bind fun bt302=>(some ((bt302.1 == 0),bt302.2.1,bt302.2.2))
set_option maxHeartbeats 8000000 in
set_option maxRecDepth 100000 in
theorem spec_l1Once.calls (g:Nat) (s0_0:List Int) (s0_1:Int) (s0_2:Int) (a1:Int) (r1:Bool) (r2:Int) (r3:Int) (w0 w:World) (hI:IsS85 w0 w g s0_0 s0_1 s0_2) (hB:Below w0.heap.size w0 w) (h:spec_l1Once.f s0_0 s0_1 s0_2 a1 = some (r1,r2,r3)) :
  Calls Try.prog 67 #[.pointer (some ⟨g,0,none⟩),.int .i64 a1] w fun e w'=>e = .returned (.bool r1) ∧ IsS85 w0 w' g s0_0 r2 r3 ∧ Below w0.heap.size w0 w' ∧ KeepBut w w' g none:=by
 have HI0:=aA.mk hI
 have HK:=aA.mk (KeepBut.refl w g none)
 have HL:=aA.mk hB.size
 clear hI
 have HW0:=aA.mk hB.size
 have HB:=aA.mk hB
 clear hB
 have H:((spec_l1Below.f s0_0 s0_1 s0_2 a1).bind fun bt302=>(some ((bt302.1 == 0),bt302.2.1,bt302.2.2))) = some (r1,r2,r3):=h
 clear h
 replace H:=lF H
 obtain ⟨⟨t302,t303,t304⟩,A30,H⟩:=H
 replace H:(some ((t302 == 0),t303,t304)) = some (r1,r2,r3):=H
 have A3:=aA.mk A30
 clear A30
 simp only [Option.some.injEq,Prod.mk.injEq] at H
 obtain ⟨rfl,rfl,rfl⟩:=H
 go_enter Try.func67,Try.ntmps67
 go_wp2_with (first|((with_reducible refine aW (f:=66) rfl ?_);refine bK (some 7) rfl rfl Try.func66 tG rfl #[.pointer (some ⟨g,0,none⟩),.int .i64 a1] rfl tC ?_;(with_reducible refine (spec_l1Below.calls g s0_0 s0_1 s0_2 a1 t302 t303 t304 w0 _ ?side1 ?side2 A3.out).mono ?_);(case side1=>exact vM);(case side2=>exact vZ);rintro e w4 ⟨rfl,hi,hb,hk⟩;refine ⟨_,rfl,?_⟩;replace HK:=aA.mk (KeepBut.trans tQ hk (.inl rfl));replace HB:=aA.mk (hb);replace HI0:=aA.mk (hi);(try clear hb);(try clear hk);(try clear hi)))
 go_ret
 exact tb
end Go.Proofs.Ytilhcaofpfeioaa.PFnDevsBent

namespace Go.Proofs.Ytilhcaofpfeioaa.Law
open Go.RowKit Go.Proofs.Ytilhcaofpfeioaa.PFnDevsBent Go.Proofs.Ytilhcaofpfeioaa.Core Go.Proofs.YtilhcaofpfeioaaW.PrintWords Go.Proofs.YtilhcaofpfeioaaW.PrintLast Go.Proofs.YtilhcaofpfeioaaW.PrintMore Go.Proofs.Ytilhcaofpfeioaa.Pure
set_option linter.unusedSimpArgs false
set_option linter.unusedVariables false
set_option maxHeartbeats 8000000 in
set_option maxRecDepth 100000 in
theorem walk_l2Op0 (u0_ u1_:Value) (a0_3:Bool) (w wi:World) (g:Nat) (hB:Below w.heap.size w wi) (hbk:wi.heap[g]? = some (.cells #[u0_,u1_,.int .i64 0,.bool a0_3] 25 (0,0))) (hgg:w.heap.size ≤ g) :
  Calls Try.prog 72 #[.pointer (some ⟨g,0,none⟩)] wi fun e w'=>e = .returned (.bool false) ∧ w'.heap[g]? = some (.cells #[u0_,u1_,.int .i64 (-1),.bool true] 25 (0,0)) ∧ Below w.heap.size w w' ∧ Kept wi w' (fun k_=>k_ = g):=by
 have hu25:=Try.underlying25
 have HB:=aA.mk hB
 have BKg:=aA.mk hbk
 have HKP:=aA.mk (Kept.refl wi (fun k_=>k_ = g))
 have HORD:=aA.mk (And.intro hgg (Nat.le_succ g))
 have HT:=aA.mk (show g + 1 ≤ wi.heap.size from bJ hbk)
 clear hB hbk
 go_enter Try.func72,Try.ntmps72
 have:=bs4 BKg.out
 go_wp2_with (first|((with_reducible refine bN (t:=4) (p:=10) rfl ?_);refine bL (t:=4) (p:=10) (v:=?vo_w1) (w1:=(wi.setCell ⟨g,3,none⟩ (.bool true))) ?hg ?ho ?hn ?hr ?_;(case ho=>rfl);(case hg=>rfl);(case hn=>rfl);(case hr=>exact tE);intro w1 hw_;have hkp:Kept wi w1 (fun k_=>k_ = g):=(by rw [hw_];exact Kept.setCell (Kept.refl wi (fun k_=>k_ = g)) (.inl rfl) (.bool true));have hge_:w.heap.size ≤ g:=tL;have hbn_:Below w.heap.size w w1:=vu;have hbk_:w1.heap[g]? = some (.cells #[u0_,u1_,.int .i64 0,.bool true] 25 (0,0)):=(by rw [hw_];exact aQ (cs:=#[u0_,u1_,.int .i64 0,.bool a0_3]) (cs':=#[u0_,u1_,.int .i64 0,.bool true]) (BKg.out) 3 _ rfl);have hsz_:(g + 1) ≤ w1.heap.size:=Nat.le_trans HT.out hkp.1;replace HKP:=aA.mk (HKP.out.then_ hkp ta);replace HB:=aA.mk (hbn_);replace BKg:=aA.mk (hbk_);replace HT:=aA.mk (hsz_);clear hw_ hkp hge_ hbn_ hbk_ hsz_;have:=bs4 BKg.out)|((with_reducible refine bN (t:=3) (p:=13) rfl ?_);refine bL (t:=3) (p:=13) (v:=?vo_w2) (w1:=(w1.setCell ⟨g,2,none⟩ (.int .i64 ((-1))))) ?hg ?ho ?hn ?hr ?_;(case ho=>rfl);(case hg=>rfl);(case hn=>rfl);(case hr=>exact tE);intro w2 hw_;have hkp:Kept w1 w2 (fun k_=>k_ = g):=(by rw [hw_];exact Kept.setCell (Kept.refl w1 (fun k_=>k_ = g)) (.inl rfl) (.int .i64 ((-1))));have hge_:w.heap.size ≤ g:=tL;have hbn_:Below w.heap.size w w2:=vu;have hbk_:w2.heap[g]? = some (.cells #[u0_,u1_,.int .i64 ((-1)),.bool true] 25 (0,0)):=(by rw [hw_];exact aQ (cs:=#[u0_,u1_,.int .i64 0,.bool true]) (cs':=#[u0_,u1_,.int .i64 ((-1)),.bool true]) (BKg.out) 2 _ rfl);have hsz_:(g + 1) ≤ w2.heap.size:=Nat.le_trans HT.out hkp.1;replace HKP:=aA.mk (HKP.out.then_ hkp ta);replace HB:=aA.mk (hbn_);replace BKg:=aA.mk (hbk_);replace HT:=aA.mk (hsz_);clear hw_ hkp hge_ hbn_ hbk_ hsz_;have:=bs4 BKg.out))
 have hres_:=@results_tmp Try.f72 2 tG
 refine bodyPost_ret (fn:=Try.f72) (P:=Try.prog) (hres_ _ _ _) rfl ?_
 exact ⟨rfl,BKg.out,HB.out,HKP.out⟩
set_option maxHeartbeats 8000000 in
set_option maxRecDepth 100000 in
theorem walk_l2Op1 (u0_ u1_:Value) (a0_2:Int) (a0_3:Bool) (w wi:World) (g:Nat) (hB:Below w.heap.size w wi) (hbk:wi.heap[g]? = some (.cells #[u0_,u1_,.int .i64 a0_2,.bool a0_3] 25 (0,0))) (hgg:w.heap.size ≤ g) (hp0:0 < a0_2) :
  Calls Try.prog 72 #[.pointer (some ⟨g,0,none⟩)] wi fun e w'=>e = .returned (.bool true) ∧ w'.heap[g]? = some (.cells #[u0_,u1_,.int .i64 (wrap64 (a0_2 - 1)),.bool a0_3] 25 (0,0)) ∧ Below w.heap.size w w' ∧ Kept wi w' (fun k_=>k_ = g):=by
 have hu25:=Try.underlying25
 have HB:=aA.mk hB
 have BKg:=aA.mk hbk
 have HKP:=aA.mk (Kept.refl wi (fun k_=>k_ = g))
 have HORD:=aA.mk (And.intro hgg (Nat.le_succ g))
 have HT:=aA.mk (show g + 1 ≤ wi.heap.size from bJ hbk)
 have d1_:(a0_2 == 0) = false:=beq_eq_false_iff_ne.mpr tZ
 have d2_:decide (0 < a0_2) = true:=decide_eq_true hp0
 clear hB hbk
 go_enter Try.func72,Try.ntmps72
 have:=bs4 BKg.out
 go_wp2_with (first|((with_reducible refine bN (t:=3) (p:=26) rfl ?_);refine bL (t:=3) (p:=26) (v:=?vo_w1) (w1:=(wi.setCell ⟨g,2,none⟩ (.int .i64 ((wrap64 (a0_2 - 1)))))) ?hg ?ho ?hn ?hr ?_;(case ho=>rfl);(case hg=>rfl);(case hn=>rfl);(case hr=>exact tE);intro w1 hw_;have hkp:Kept wi w1 (fun k_=>k_ = g):=(by rw [hw_];exact Kept.setCell (Kept.refl wi (fun k_=>k_ = g)) (.inl rfl) (.int .i64 ((wrap64 (a0_2 - 1)))));have hge_:w.heap.size ≤ g:=tL;have hbn_:Below w.heap.size w w1:=vu;have hbk_:w1.heap[g]? = some (.cells #[u0_,u1_,.int .i64 ((wrap64 (a0_2 - 1))),.bool a0_3] 25 (0,0)):=(by rw [hw_];exact aQ (cs:=#[u0_,u1_,.int .i64 a0_2,.bool a0_3]) (cs':=#[u0_,u1_,.int .i64 ((wrap64 (a0_2 - 1))),.bool a0_3]) (BKg.out) 2 _ rfl);have hsz_:(g + 1) ≤ w1.heap.size:=Nat.le_trans HT.out hkp.1;replace HKP:=aA.mk (HKP.out.then_ hkp ta);replace HB:=aA.mk (hbn_);replace BKg:=aA.mk (hbk_);replace HT:=aA.mk (hsz_);clear hw_ hkp hge_ hbn_ hbk_ hsz_;have:=bs4 BKg.out))
 have hres_:=@results_tmp Try.f72 2 tG
 refine bodyPost_ret (fn:=Try.f72) (P:=Try.prog) (hres_ _ _ _) rfl ?_
 exact ⟨rfl,BKg.out,HB.out,HKP.out⟩
set_option maxHeartbeats 8000000 in
set_option maxRecDepth 100000 in
theorem walk_l2Op2 (u0_ u1_:Value) (a0_2:Int) (a0_3:Bool) (w wi:World) (g:Nat) (hB:Below w.heap.size w wi) (hbk:wi.heap[g]? = some (.cells #[u0_,u1_,.int .i64 a0_2,.bool a0_3] 25 (0,0))) (hgg:w.heap.size ≤ g) (hp0:a0_2 < 0) :
  Calls Try.prog 72 #[.pointer (some ⟨g,0,none⟩)] wi fun e w'=>e = .returned (.bool true) ∧ w'.heap[g]? = some (.cells #[u0_,u1_,.int .i64 a0_2,.bool a0_3] 25 (0,0)) ∧ Below w.heap.size w w' ∧ Kept wi w' (fun k_=>k_ = g):=by
 have hu25:=Try.underlying25
 have HB:=aA.mk hB
 have BKg:=aA.mk hbk
 have HKP:=aA.mk (Kept.refl wi (fun k_=>k_ = g))
 have HORD:=aA.mk (And.intro hgg (Nat.le_succ g))
 have HT:=aA.mk (show g + 1 ≤ wi.heap.size from bJ hbk)
 have d1_:(a0_2 == 0) = false:=beq_eq_false_iff_ne.mpr tZ
 have d2_:decide (0 < a0_2) = false:=decide_eq_false tZ
 clear hB hbk
 go_enter Try.func72,Try.ntmps72
 have:=bs4 BKg.out
 try go_wp2
 have hres_:=@results_tmp Try.f72 2 tG
 refine bodyPost_ret (fn:=Try.f72) (P:=Try.prog) (hres_ _ _ _) rfl ?_
 exact ⟨rfl,BKg.out,HB.out,HKP.out⟩
theorem spec_l2OpS.calls (u0_ u1_:Value) (a0_2:Int) (a0_3:Bool) (r1:Int) (r2:Bool) (r3:Bool) (w wi:World) (g:Nat) (hB:Below w.heap.size w wi) (hbk:wi.heap[g]? = some (.cells #[u0_,u1_,.int .i64 a0_2,.bool a0_3] 25 (0,0))) (hgg:w.heap.size ≤ g) (h:burnF a0_2 a0_3 = (r1,r2,r3)) :
  Calls Try.prog 72 #[.pointer (some ⟨g,0,none⟩)] wi fun e w'=>e = .returned (.bool r3) ∧ w'.heap[g]? = some (.cells #[u0_,u1_,.int .i64 r1,.bool r2] 25 (0,0)) ∧ Below w.heap.size w w' ∧ Kept wi w' (fun k_=>k_ = g):=by
 unfold burnF at h
 by_cases h0:a0_2 = 0
 ·rw [if_pos h0] at h
  subst h0
  simp only [Prod.mk.injEq] at h
  obtain ⟨rfl,rfl,rfl⟩:=h
  exact walk_l2Op0 _ _ _ w wi g hB hbk hgg
 ·rw [if_neg h0] at h
  by_cases h1:0 < a0_2
  ·rw [if_pos h1] at h
   simp only [Prod.mk.injEq] at h
   obtain ⟨rfl,rfl,rfl⟩:=h
   exact walk_l2Op1 _ _ _ _ w wi g hB hbk hgg h1
  ·rw [if_neg h1] at h
   simp only [Prod.mk.injEq] at h
   obtain ⟨rfl,rfl,rfl⟩:=h
   exact walk_l2Op2 _ _ _ _ w wi g hB hbk hgg tZ
def WrPost (w wi w':World) (a g gS:Nat) (u0:Value) (s:List (List Int)) (c:List (S50)) (f:Int) (d:Bool):Prop:=∃ (u1:Value) (gn:Nat),w'.heap[g]? = some (.cells #[u0,u1,.int .i64 f,.bool d] 25 (0,0)) ∧ (∀ k,u1.ownBlock = some k → k = gn) ∧ (gn < w'.heap.size ∧ g ≠ gn) ∧ Kd.N (Kd.slice 5 (Kd.int .u8)) 37 w' w.heap.size (Ex a gn g) u0 s ∧ Kd.N k50 50 w' w.heap.size (Ex a gS g) u1 c ∧ Below w.heap.size w w' ∧ Kept wi w' (fun k=>a ≤ k)
def FlPost (w wi w':World) (a g gS:Nat) (s:List (List Int)) (c:List (S50)) (f:Int) (d:Bool):Prop:=∃ (u0 u1:Value) (gn:Nat),w'.heap[g]? = some (.cells #[u0,u1,.int .i64 f,.bool d] 25 (0,0)) ∧ (∀ k,u1.ownBlock = some k → k = gn) ∧ (gn < w'.heap.size ∧ g ≠ gn) ∧ (∀ k,u0.ownBlock = some k → k = gS) ∧ Kd.N (Kd.slice 5 (Kd.int .u8)) 37 w' w.heap.size (Ex a gn g) u0 s ∧ Kd.N k50 50 w' w.heap.size (Ex a gS g) u1 c ∧ Below w.heap.size w w' ∧ Kept wi w' (fun k=>a ≤ k)
set_option maxHeartbeats 8000000 in
set_option maxRecDepth 100000 in
theorem walk_l2Write1 (A0_0:Option Addr) (c0_0:Nat) (l0_0:List (List Int)) (A0_1:Option Addr) (c0_1:Nat) (l0_1:List (S50)) (a0_2:Int) (a1:Int) (A2:Option Addr) (c2:Nat) (l2:List (Int)) (w wi:World) (g:Nat) (hB:Below w.heap.size w wi) (hbk:wi.heap[g]? = some (.cells #[.slice A0_0 l0_0.length c0_0,.slice A0_1 l0_1.length c0_1,.int .i64 a0_2,.bool true] 25 (0,0))) (a gS gC:Nat) (hwa:w.heap.size ≤ a ∧ 0 < a) (hag:a ≤ g) (hSt:gS < wi.heap.size ∧ g ≠ gS) (hCt:gC < wi.heap.size ∧ g ≠ gC) (hgC:∀ k_,(Value.slice A0_1 l0_1.length c0_1).ownBlock = some k_ → k_ = gC) (hgS:∀ k_,(Value.slice A0_0 l0_0.length c0_0).ownBlock = some k_ → k_ = gS) (hn0:Kd.N (Kd.slice 5 (Kd.int .u8)) 37 wi w.heap.size (Ex a gC g) (.slice A0_0 l0_0.length c0_0) l0_0) (hn1:Kd.N k50 50 wi w.heap.size (Ex a gS g) (.slice A0_1 l0_1.length c0_1) l0_1) (hf2:Kd.F (Kd.int .u8) wi (Ex 0 g g) A2 l2.length l2) (hc2:l2.length ≤ c2) :
  Calls Try.prog 57 #[.pointer (some ⟨g,0,none⟩),.int .i64 a1,.slice A2 l2.length c2] wi fun e w'=>e = .returned (.tuple #[]) ∧ WrPost w wi w' a g gS (.slice A0_0 l0_0.length c0_0) l0_0 l0_1 a0_2 true:=by
 have hu25:=Try.underlying25
 have hu50:=Try.underlying50
 have HB:=aA.mk hB
 have BKg:=aA.mk hbk
 have HKP:=aA.mk (Kept.refl wi (fun k_=>a ≤ k_))
 obtain ⟨top,et_⟩:∃ n_,n_ = wi.heap.size:=⟨_,rfl⟩
 have HORD:=aA.mk (show ((w.heap.size ≤ a ∧ 0 < a) ∧ a ≤ g) ∧ g + 1 ≤ top ∧ (gS < top ∧ g ≠ gS) ∧ (gC < top ∧ g ≠ gC) from ⟨⟨hwa,hag⟩,Ap,by rw [et_];exact hSt,by rw [et_];exact hCt⟩)
 have HT:=aA.mk (Nat.le_of_eq et_)
 have HN0:=aA.mk (Kd.aV (ok':=Exb a gC g top) (Kd.N_bound hn0) (fun k_ hk_=>⟨hk_.1,wd⟩))
 have HN1:=aA.mk (Kd.aV (ok':=Exb a gS g top) (Kd.N_bound hn1) (fun k_ hk_=>⟨hk_.1,wd⟩))
 have HGC:=aA.mk hgC
 have HGS:=aA.mk hgS
 have HTE:=aA.mk et_
 clear hn0 hn1 hgC hgS et_ hwa hag hSt hCt
 have HF2:=aA.mk (Kd.F_mono (ok':=Exb 0 g g top) (Kd.F_bound hf2) (fun k_ hk_=>⟨hk_.1,Nat.lt_of_lt_of_le hk_.2 (Nat.le_of_eq HTE.out.symm)⟩))
 have HC2:=aA.mk hc2
 clear hf2 hc2
 clear hB hbk
 go_enter Try.func57,Try.ntmps57
 have:=bs4 BKg.out
 try go_wp2
 first|go_end0|refine bodyPost_ret (fn:=Try.f57) (results_none rfl _ _ _) rfl ?_
 exact wL
set_option maxHeartbeats 8000000 in
set_option maxRecDepth 100000 in
theorem walk_l2Write2 (A0_0:Option Addr) (c0_0:Nat) (l0_0:List (List Int)) (A0_1:Option Addr) (c0_1:Nat) (l0_1:List (S50)) (a0_2:Int) (a1:Int) (A2:Option Addr) (c2:Nat) (l2:List (Int)) (w wi:World) (g:Nat) (hB:Below w.heap.size w wi) (hbk:wi.heap[g]? = some (.cells #[.slice A0_0 l0_0.length c0_0,.slice A0_1 l0_1.length c0_1,.int .i64 a0_2,.bool false] 25 (0,0))) (a gS gC:Nat) (hwa:w.heap.size ≤ a ∧ 0 < a) (hag:a ≤ g) (hSt:gS < wi.heap.size ∧ g ≠ gS) (hCt:gC < wi.heap.size ∧ g ≠ gC) (hgC:∀ k_,(Value.slice A0_1 l0_1.length c0_1).ownBlock = some k_ → k_ = gC) (hgS:∀ k_,(Value.slice A0_0 l0_0.length c0_0).ownBlock = some k_ → k_ = gS) (hn0:Kd.N (Kd.slice 5 (Kd.int .u8)) 37 wi w.heap.size (Ex a gC g) (.slice A0_0 l0_0.length c0_0) l0_0) (hn1:Kd.N k50 50 wi w.heap.size (Ex a gS g) (.slice A0_1 l0_1.length c0_1) l0_1) (hf2:Kd.F (Kd.int .u8) wi (Ex 0 g g) A2 l2.length l2) (hc2:l2.length ≤ c2) (hwi:decide (0 ≤ a1 ∧ a1 ≤ wrap64 ((l0_0.length:Int) - 1)) = false) :
  Calls Try.prog 57 #[.pointer (some ⟨g,0,none⟩),.int .i64 a1,.slice A2 l2.length c2] wi fun e w'=>e = .returned (.tuple #[]) ∧ WrPost w wi w' a g gS (.slice A0_0 l0_0.length c0_0) l0_0 l0_1 a0_2 false:=by
 have hu25:=Try.underlying25
 have hu50:=Try.underlying50
 have HB:=aA.mk hB
 have BKg:=aA.mk hbk
 have HKP:=aA.mk (Kept.refl wi (fun k_=>a ≤ k_))
 obtain ⟨top,et_⟩:∃ n_,n_ = wi.heap.size:=⟨_,rfl⟩
 have HORD:=aA.mk (show ((w.heap.size ≤ a ∧ 0 < a) ∧ a ≤ g) ∧ g + 1 ≤ top ∧ (gS < top ∧ g ≠ gS) ∧ (gC < top ∧ g ≠ gC) from ⟨⟨hwa,hag⟩,Ap,by rw [et_];exact hSt,by rw [et_];exact hCt⟩)
 have HT:=aA.mk (Nat.le_of_eq et_)
 have HN0:=aA.mk (Kd.aV (ok':=Exb a gC g top) (Kd.N_bound hn0) (fun k_ hk_=>⟨hk_.1,wd⟩))
 have HN1:=aA.mk (Kd.aV (ok':=Exb a gS g top) (Kd.N_bound hn1) (fun k_ hk_=>⟨hk_.1,wd⟩))
 have HGC:=aA.mk hgC
 have HGS:=aA.mk hgS
 have HTE:=aA.mk et_
 clear hn0 hn1 hgC hgS et_ hwa hag hSt hCt
 have HF2:=aA.mk (Kd.F_mono (ok':=Exb 0 g g top) (Kd.F_bound hf2) (fun k_ hk_=>⟨hk_.1,Nat.lt_of_lt_of_le hk_.2 (Nat.le_of_eq HTE.out.symm)⟩))
 have HC2:=aA.mk hc2
 clear hf2 hc2
 have JW:=aA.mk (show spec_l1In.f a1 0 (wrap64 ((l0_0.length:Int) - 1)) = some false from by rw [spec_l1In_f,hwi])
 clear hB hbk
 go_enter Try.func57,Try.ntmps57
 have:=bs4 BKg.out
 go_wp2_with (first|((with_reducible refine aW (f:=43) rfl ?_);refine cC we ?_;refine bK (some 18) rfl rfl Try.func43 tG rfl #[.int .i64 a1,.int .i64 0,.int .i64 ((wrap64 ((l0_0.length:Int) - 1)))] rfl tC ?_;(with_reducible refine (spec_l1In.calls a1 0 ((wrap64 ((l0_0.length:Int) - 1))) false _ JW.out).mono ?_);rintro e_ w1 ⟨rfl,hd⟩;refine ⟨_,rfl,?_⟩;have hb:=hd.below;clear hd;replace HF2:=nF HF2;replace HN0:=aA.mk (Kd.N_below HN0.out hb);replace HN1:=aA.mk (Kd.N_below HN1.out hb);replace HKP:=aA.mk (HKP.out.then_ (Kept.of_below hb (fun _=>False)) (fun _ h_=>h_.elim));replace BKg:=nB BKg;replace HB:=aA.mk (aT HB.out hb);replace HT:=aA.mk (Nat.le_trans HT.out hb.size);(try clear hb);have:=bs4 BKg.out))
 first|go_end0|refine bodyPost_ret (fn:=Try.f57) (results_none rfl _ _ _) rfl ?_
 exact wL
set_option maxHeartbeats 8000000 in
set_option maxRecDepth 100000 in
theorem walk_l2Write3 (A0_0:Option Addr) (c0_0:Nat) (l0_0:List (List Int)) (A0_1:Option Addr) (c0_1:Nat) (l0_1:List (S50)) (a0_2:Int) (a1:Int) (A2:Option Addr) (c2:Nat) (l2:List (Int)) (w wi:World) (g:Nat) (hB:Below w.heap.size w wi) (hbk:wi.heap[g]? = some (.cells #[.slice A0_0 l0_0.length c0_0,.slice A0_1 l0_1.length c0_1,.int .i64 a0_2,.bool false] 25 (0,0))) (a gS gC:Nat) (hwa:w.heap.size ≤ a ∧ 0 < a) (hag:a ≤ g) (hSt:gS < wi.heap.size ∧ g ≠ gS) (hCt:gC < wi.heap.size ∧ g ≠ gC) (hgC:∀ k_,(Value.slice A0_1 l0_1.length c0_1).ownBlock = some k_ → k_ = gC) (hgS:∀ k_,(Value.slice A0_0 l0_0.length c0_0).ownBlock = some k_ → k_ = gS) (hn0:Kd.N (Kd.slice 5 (Kd.int .u8)) 37 wi w.heap.size (Ex a gC g) (.slice A0_0 l0_0.length c0_0) l0_0) (hn1:Kd.N k50 50 wi w.heap.size (Ex a gS g) (.slice A0_1 l0_1.length c0_1) l0_1) (hf2:Kd.F (Kd.int .u8) wi (Ex 0 g g) A2 l2.length l2) (hc2:l2.length ≤ c2) (hwi:decide (0 ≤ a1 ∧ a1 ≤ wrap64 ((l0_0.length:Int) - 1)) = true) (h80:80 < (l2.length:Int)) :
  Calls Try.prog 57 #[.pointer (some ⟨g,0,none⟩),.int .i64 a1,.slice A2 l2.length c2] wi fun e w'=>e = .returned (.tuple #[]) ∧ WrPost w wi w' a g gS (.slice A0_0 l0_0.length c0_0) l0_0 l0_1 a0_2 false:=by
 have hu25:=Try.underlying25
 have hu50:=Try.underlying50
 have HB:=aA.mk hB
 have BKg:=aA.mk hbk
 have HKP:=aA.mk (Kept.refl wi (fun k_=>a ≤ k_))
 obtain ⟨top,et_⟩:∃ n_,n_ = wi.heap.size:=⟨_,rfl⟩
 have HORD:=aA.mk (show ((w.heap.size ≤ a ∧ 0 < a) ∧ a ≤ g) ∧ g + 1 ≤ top ∧ (gS < top ∧ g ≠ gS) ∧ (gC < top ∧ g ≠ gC) from ⟨⟨hwa,hag⟩,Ap,by rw [et_];exact hSt,by rw [et_];exact hCt⟩)
 have HT:=aA.mk (Nat.le_of_eq et_)
 have HN0:=aA.mk (Kd.aV (ok':=Exb a gC g top) (Kd.N_bound hn0) (fun k_ hk_=>⟨hk_.1,wd⟩))
 have HN1:=aA.mk (Kd.aV (ok':=Exb a gS g top) (Kd.N_bound hn1) (fun k_ hk_=>⟨hk_.1,wd⟩))
 have HGC:=aA.mk hgC
 have HGS:=aA.mk hgS
 have HTE:=aA.mk et_
 clear hn0 hn1 hgC hgS et_ hwa hag hSt hCt
 have HF2:=aA.mk (Kd.F_mono (ok':=Exb 0 g g top) (Kd.F_bound hf2) (fun k_ hk_=>⟨hk_.1,Nat.lt_of_lt_of_le hk_.2 (Nat.le_of_eq HTE.out.symm)⟩))
 have HC2:=aA.mk hc2
 clear hf2 hc2
 have JW:=aA.mk (show spec_l1In.f a1 0 (wrap64 ((l0_0.length:Int) - 1)) = some true from by rw [spec_l1In_f,hwi])
 have d1_:decide (80 < (l2.length:Int)) = true:=decide_eq_true h80
 clear hB hbk
 go_enter Try.func57,Try.ntmps57
 have:=bs4 BKg.out
 go_wp2_with (first|((with_reducible refine aW (f:=43) rfl ?_);refine cC we ?_;refine bK (some 18) rfl rfl Try.func43 tG rfl #[.int .i64 a1,.int .i64 0,.int .i64 ((wrap64 ((l0_0.length:Int) - 1)))] rfl tC ?_;(with_reducible refine (spec_l1In.calls a1 0 ((wrap64 ((l0_0.length:Int) - 1))) true _ JW.out).mono ?_);rintro e_ w1 ⟨rfl,hd⟩;refine ⟨_,rfl,?_⟩;have hb:=hd.below;clear hd;replace HF2:=nF HF2;replace HN0:=aA.mk (Kd.N_below HN0.out hb);replace HN1:=aA.mk (Kd.N_below HN1.out hb);replace HKP:=aA.mk (HKP.out.then_ (Kept.of_below hb (fun _=>False)) (fun _ h_=>h_.elim));replace BKg:=nB BKg;replace HB:=aA.mk (aT HB.out hb);replace HT:=aA.mk (Nat.le_trans HT.out hb.size);(try clear hb);have:=bs4 BKg.out))
 first|go_end0|refine bodyPost_ret (fn:=Try.f57) (results_none rfl _ _ _) rfl ?_
 exact wL
set_option maxHeartbeats 8000000 in
set_option maxRecDepth 100000 in
theorem walk_l2Write4 (A0_0:Option Addr) (c0_0:Nat) (l0_0:List (List Int)) (A0_1:Option Addr) (c0_1:Nat) (l0_1:List (S50)) (a0_2:Int) (a1:Int) (A2:Option Addr) (c2:Nat) (l2:List (Int)) (w wi:World) (g:Nat) (hB:Below w.heap.size w wi) (hbk:wi.heap[g]? = some (.cells #[.slice A0_0 l0_0.length c0_0,.slice A0_1 l0_1.length c0_1,.int .i64 a0_2,.bool false] 25 (0,0))) (a gS gC:Nat) (hwa:w.heap.size ≤ a ∧ 0 < a) (hag:a ≤ g) (hSt:gS < wi.heap.size ∧ g ≠ gS) (hCt:gC < wi.heap.size ∧ g ≠ gC) (hgC:∀ k_,(Value.slice A0_1 l0_1.length c0_1).ownBlock = some k_ → k_ = gC) (hgS:∀ k_,(Value.slice A0_0 l0_0.length c0_0).ownBlock = some k_ → k_ = gS) (hn0:Kd.N (Kd.slice 5 (Kd.int .u8)) 37 wi w.heap.size (Ex a gC g) (.slice A0_0 l0_0.length c0_0) l0_0) (hn1:Kd.N k50 50 wi w.heap.size (Ex a gS g) (.slice A0_1 l0_1.length c0_1) l0_1) (hf2:Kd.F (Kd.int .u8) wi (Ex 0 g g) A2 l2.length l2) (hc2:l2.length ≤ c2) (hwi:decide (0 ≤ a1 ∧ a1 ≤ wrap64 ((l0_0.length:Int) - 1)) = true) (h80:¬ 80 < (l2.length:Int)) (h60:60 ≤ (l0_1.length:Int)) :
  Calls Try.prog 57 #[.pointer (some ⟨g,0,none⟩),.int .i64 a1,.slice A2 l2.length c2] wi fun e w'=>e = .returned (.tuple #[]) ∧ WrPost w wi w' a g gS (.slice A0_0 l0_0.length c0_0) l0_0 l0_1 a0_2 false:=by
 have hu25:=Try.underlying25
 have hu50:=Try.underlying50
 have HB:=aA.mk hB
 have BKg:=aA.mk hbk
 have HKP:=aA.mk (Kept.refl wi (fun k_=>a ≤ k_))
 obtain ⟨top,et_⟩:∃ n_,n_ = wi.heap.size:=⟨_,rfl⟩
 have HORD:=aA.mk (show ((w.heap.size ≤ a ∧ 0 < a) ∧ a ≤ g) ∧ g + 1 ≤ top ∧ (gS < top ∧ g ≠ gS) ∧ (gC < top ∧ g ≠ gC) from ⟨⟨hwa,hag⟩,Ap,by rw [et_];exact hSt,by rw [et_];exact hCt⟩)
 have HT:=aA.mk (Nat.le_of_eq et_)
 have HN0:=aA.mk (Kd.aV (ok':=Exb a gC g top) (Kd.N_bound hn0) (fun k_ hk_=>⟨hk_.1,wd⟩))
 have HN1:=aA.mk (Kd.aV (ok':=Exb a gS g top) (Kd.N_bound hn1) (fun k_ hk_=>⟨hk_.1,wd⟩))
 have HGC:=aA.mk hgC
 have HGS:=aA.mk hgS
 have HTE:=aA.mk et_
 clear hn0 hn1 hgC hgS et_ hwa hag hSt hCt
 have HF2:=aA.mk (Kd.F_mono (ok':=Exb 0 g g top) (Kd.F_bound hf2) (fun k_ hk_=>⟨hk_.1,Nat.lt_of_lt_of_le hk_.2 (Nat.le_of_eq HTE.out.symm)⟩))
 have HC2:=aA.mk hc2
 clear hf2 hc2
 have JW:=aA.mk (show spec_l1In.f a1 0 (wrap64 ((l0_0.length:Int) - 1)) = some true from by rw [spec_l1In_f,hwi])
 have d1_:decide (80 < (l2.length:Int)) = false:=decide_eq_false h80
 have d2_:decide (60 ≤ (l0_1.length:Int)) = true:=decide_eq_true h60
 clear hB hbk
 go_enter Try.func57,Try.ntmps57
 have:=bs4 BKg.out
 go_wp2_with (first|((with_reducible refine aW (f:=43) rfl ?_);refine cC we ?_;refine bK (some 18) rfl rfl Try.func43 tG rfl #[.int .i64 a1,.int .i64 0,.int .i64 ((wrap64 ((l0_0.length:Int) - 1)))] rfl tC ?_;(with_reducible refine (spec_l1In.calls a1 0 ((wrap64 ((l0_0.length:Int) - 1))) true _ JW.out).mono ?_);rintro e_ w1 ⟨rfl,hd⟩;refine ⟨_,rfl,?_⟩;have hb:=hd.below;clear hd;replace HF2:=nF HF2;replace HN0:=aA.mk (Kd.N_below HN0.out hb);replace HN1:=aA.mk (Kd.N_below HN1.out hb);replace HKP:=aA.mk (HKP.out.then_ (Kept.of_below hb (fun _=>False)) (fun _ h_=>h_.elim));replace BKg:=nB BKg;replace HB:=aA.mk (aT HB.out hb);replace HT:=aA.mk (Nat.le_trans HT.out hb.size);(try clear hb);have:=bs4 BKg.out))
 first|go_end0|refine bodyPost_ret (fn:=Try.f57) (results_none rfl _ _ _) rfl ?_
 exact wL
set_option maxHeartbeats 8000000 in
set_option maxRecDepth 100000 in
theorem walk_l2Write5 (A0_0:Option Addr) (c0_0:Nat) (l0_0:List (List Int)) (A0_1:Option Addr) (c0_1:Nat) (l0_1:List (S50)) (a0_2:Int) (a1:Int) (A2:Option Addr) (c2:Nat) (l2:List (Int)) (w wi:World) (g:Nat) (hB:Below w.heap.size w wi) (hbk:wi.heap[g]? = some (.cells #[.slice A0_0 l0_0.length c0_0,.slice A0_1 l0_1.length c0_1,.int .i64 a0_2,.bool false] 25 (0,0))) (a gS gC:Nat) (hwa:w.heap.size ≤ a ∧ 0 < a) (hag:a ≤ g) (hSt:gS < wi.heap.size ∧ g ≠ gS) (hCt:gC < wi.heap.size ∧ g ≠ gC) (hgC:∀ k_,(Value.slice A0_1 l0_1.length c0_1).ownBlock = some k_ → k_ = gC) (hgS:∀ k_,(Value.slice A0_0 l0_0.length c0_0).ownBlock = some k_ → k_ = gS) (hn0:Kd.N (Kd.slice 5 (Kd.int .u8)) 37 wi w.heap.size (Ex a gC g) (.slice A0_0 l0_0.length c0_0) l0_0) (hn1:Kd.N k50 50 wi w.heap.size (Ex a gS g) (.slice A0_1 l0_1.length c0_1) l0_1) (hf2:Kd.F (Kd.int .u8) wi (Ex 0 g g) A2 l2.length l2) (hc2:l2.length ≤ c2) (hwi:decide (0 ≤ a1 ∧ a1 ≤ wrap64 ((l0_0.length:Int) - 1)) = true) (h80:¬ 80 < (l2.length:Int)) (h60:¬ 60 ≤ (l0_1.length:Int)) (f1:Int) (b1:Bool) (hbu:burnF a0_2 false = (f1,b1,false)) :
  Calls Try.prog 57 #[.pointer (some ⟨g,0,none⟩),.int .i64 a1,.slice A2 l2.length c2] wi fun e w'=>e = .returned (.tuple #[]) ∧ WrPost w wi w' a g gS (.slice A0_0 l0_0.length c0_0) l0_0 l0_1 f1 b1:=by
 have hu25:=Try.underlying25
 have hu50:=Try.underlying50
 have HB:=aA.mk hB
 have BKg:=aA.mk hbk
 have HKP:=aA.mk (Kept.refl wi (fun k_=>a ≤ k_))
 obtain ⟨top,et_⟩:∃ n_,n_ = wi.heap.size:=⟨_,rfl⟩
 have HORD:=aA.mk (show ((w.heap.size ≤ a ∧ 0 < a) ∧ a ≤ g) ∧ g + 1 ≤ top ∧ (gS < top ∧ g ≠ gS) ∧ (gC < top ∧ g ≠ gC) from ⟨⟨hwa,hag⟩,Ap,by rw [et_];exact hSt,by rw [et_];exact hCt⟩)
 have HT:=aA.mk (Nat.le_of_eq et_)
 have HN0:=aA.mk (Kd.aV (ok':=Exb a gC g top) (Kd.N_bound hn0) (fun k_ hk_=>⟨hk_.1,wd⟩))
 have HN1:=aA.mk (Kd.aV (ok':=Exb a gS g top) (Kd.N_bound hn1) (fun k_ hk_=>⟨hk_.1,wd⟩))
 have HGC:=aA.mk hgC
 have HGS:=aA.mk hgS
 have HTE:=aA.mk et_
 clear hn0 hn1 hgC hgS et_ hwa hag hSt hCt
 have HF2:=aA.mk (Kd.F_mono (ok':=Exb 0 g g top) (Kd.F_bound hf2) (fun k_ hk_=>⟨hk_.1,Nat.lt_of_lt_of_le hk_.2 (Nat.le_of_eq HTE.out.symm)⟩))
 have HC2:=aA.mk hc2
 clear hf2 hc2
 have JW:=aA.mk (show spec_l1In.f a1 0 (wrap64 ((l0_0.length:Int) - 1)) = some true from by rw [spec_l1In_f,hwi])
 have d1_:decide (80 < (l2.length:Int)) = false:=decide_eq_false h80
 have d2_:decide (60 ≤ (l0_1.length:Int)) = false:=decide_eq_false h60
 have JO:=aA.mk hbu
 clear hB hbk
 go_enter Try.func57,Try.ntmps57
 have:=bs4 BKg.out
 go_wp2_with (first|((with_reducible refine aW (f:=43) rfl ?_);refine cC we ?_;refine bK (some 18) rfl rfl Try.func43 tG rfl #[.int .i64 a1,.int .i64 0,.int .i64 ((wrap64 ((l0_0.length:Int) - 1)))] rfl tC ?_;(with_reducible refine (spec_l1In.calls a1 0 ((wrap64 ((l0_0.length:Int) - 1))) true _ JW.out).mono ?_);rintro e_ w1 ⟨rfl,hd⟩;refine ⟨_,rfl,?_⟩;have hb:=hd.below;clear hd;replace HF2:=nF HF2;replace HN0:=aA.mk (Kd.N_below HN0.out hb);replace HN1:=aA.mk (Kd.N_below HN1.out hb);replace HKP:=aA.mk (HKP.out.then_ (Kept.of_below hb (fun _=>False)) (fun _ h_=>h_.elim));replace BKg:=nB BKg;replace HB:=aA.mk (aT HB.out hb);replace HT:=aA.mk (Nat.le_trans HT.out hb.size);(try clear hb);have:=bs4 BKg.out)|((with_reducible refine aW (f:=72) rfl ?_);refine cC we ?_;refine bK (some 36) rfl rfl Try.func72 tG rfl #[.pointer (some ⟨g,0,none⟩)] rfl tC ?_;(with_reducible refine (spec_l2OpS.calls (.slice A0_0 l0_0.length c0_0) (.slice A0_1 l0_1.length c0_1) _ _ f1 b1 false w _ g ?s1 ?s2 ?s3 JO.out).mono ?_);(case s1=>exact HB.out);(case s2=>exact BKg.out);(case s3=>exact tq);rintro e_ w2 ⟨rfl,hbk_,hbn_,hkp⟩;refine ⟨_,rfl,?_⟩;replace HF2:=aA.mk (Kd.aU HF2.out hkp tA);replace HN0:=aA.mk (Kd.N_kept HN0.out hkp tA);replace HN1:=aA.mk (Kd.N_kept HN1.out hkp tA);replace HKP:=aA.mk (HKP.out.then_ hkp ta);replace HB:=aA.mk (hbn_);replace BKg:=aA.mk (hbk_);replace HT:=aA.mk (Nat.le_trans HT.out hkp.1);clear hbk_ hbn_ hkp;have:=bs4 BKg.out))
 first|go_end0|refine bodyPost_ret (fn:=Try.f57) (results_none rfl _ _ _) rfl ?_
 exact wL
set_option maxHeartbeats 8000000 in
set_option maxRecDepth 100000 in
theorem walk_l2Write6 (A0_0:Option Addr) (c0_0:Nat) (l0_0:List (List Int)) (A0_1:Option Addr) (c0_1:Nat) (l0_1:List (S50)) (a0_2:Int) (a1:Int) (A2:Option Addr) (c2:Nat) (l2:List (Int)) (w wi:World) (g:Nat) (hB:Below w.heap.size w wi) (hbk:wi.heap[g]? = some (.cells #[.slice A0_0 l0_0.length c0_0,.slice A0_1 l0_1.length c0_1,.int .i64 a0_2,.bool false] 25 (0,0))) (a gS gC:Nat) (hwa:w.heap.size ≤ a ∧ 0 < a) (hag:a ≤ g) (hSt:gS < wi.heap.size ∧ g ≠ gS) (hCt:gC < wi.heap.size ∧ g ≠ gC) (hgC:∀ k_,(Value.slice A0_1 l0_1.length c0_1).ownBlock = some k_ → k_ = gC) (hgS:∀ k_,(Value.slice A0_0 l0_0.length c0_0).ownBlock = some k_ → k_ = gS) (hn0:Kd.N (Kd.slice 5 (Kd.int .u8)) 37 wi w.heap.size (Ex a gC g) (.slice A0_0 l0_0.length c0_0) l0_0) (hn1:Kd.N k50 50 wi w.heap.size (Ex a gS g) (.slice A0_1 l0_1.length c0_1) l0_1) (hf2:Kd.F (Kd.int .u8) wi (Ex 0 g g) A2 l2.length l2) (hc2:l2.length ≤ c2) (hwi:decide (0 ≤ a1 ∧ a1 ≤ wrap64 ((l0_0.length:Int) - 1)) = true) (h80:¬ 80 < (l2.length:Int)) (h60:¬ 60 ≤ (l0_1.length:Int)) (f1:Int) (b1:Bool) (hbu:burnF a0_2 false = (f1,b1,true)) :
  Calls Try.prog 57 #[.pointer (some ⟨g,0,none⟩),.int .i64 a1,.slice A2 l2.length c2] wi fun e w'=>e = .returned (.tuple #[]) ∧ WrPost w wi w' a g gS (.slice A0_0 l0_0.length c0_0) l0_0 (l0_1 ++ [(⟨a1,l2⟩:S50)]) f1 b1:=by
 have hu25:=Try.underlying25
 have hu50:=Try.underlying50
 have HB:=aA.mk hB
 have BKg:=aA.mk hbk
 have HKP:=aA.mk (Kept.refl wi (fun k_=>a ≤ k_))
 obtain ⟨top,et_⟩:∃ n_,n_ = wi.heap.size:=⟨_,rfl⟩
 have HORD:=aA.mk (show ((w.heap.size ≤ a ∧ 0 < a) ∧ a ≤ g) ∧ g + 1 ≤ top ∧ (gS < top ∧ g ≠ gS) ∧ (gC < top ∧ g ≠ gC) from ⟨⟨hwa,hag⟩,Ap,by rw [et_];exact hSt,by rw [et_];exact hCt⟩)
 have HT:=aA.mk (Nat.le_of_eq et_)
 have HN0:=aA.mk (Kd.aV (ok':=Exb a gC g top) (Kd.N_bound hn0) (fun k_ hk_=>⟨hk_.1,wd⟩))
 have HN1:=aA.mk (Kd.aV (ok':=Exb a gS g top) (Kd.N_bound hn1) (fun k_ hk_=>⟨hk_.1,wd⟩))
 have HGC:=aA.mk hgC
 have HGS:=aA.mk hgS
 have HTE:=aA.mk et_
 clear hn0 hn1 hgC hgS et_ hwa hag hSt hCt
 have HF2:=aA.mk (Kd.F_mono (ok':=Exb 0 g g top) (Kd.F_bound hf2) (fun k_ hk_=>⟨hk_.1,Nat.lt_of_lt_of_le hk_.2 (Nat.le_of_eq HTE.out.symm)⟩))
 have HC2:=aA.mk hc2
 clear hf2 hc2
 have JW:=aA.mk (show spec_l1In.f a1 0 (wrap64 ((l0_0.length:Int) - 1)) = some true from by rw [spec_l1In_f,hwi])
 have d1_:decide (80 < (l2.length:Int)) = false:=decide_eq_false h80
 have d2_:decide (60 ≤ (l0_1.length:Int)) = false:=decide_eq_false h60
 have JO:=aA.mk hbu
 clear hB hbk
 go_enter Try.func57,Try.ntmps57
 have:=bs4 BKg.out
 go_wp2_with (first|((with_reducible refine aW (f:=43) rfl ?_);refine cC we ?_;refine bK (some 18) rfl rfl Try.func43 tG rfl #[.int .i64 a1,.int .i64 0,.int .i64 ((wrap64 ((l0_0.length:Int) - 1)))] rfl tC ?_;(with_reducible refine (spec_l1In.calls a1 0 ((wrap64 ((l0_0.length:Int) - 1))) true _ JW.out).mono ?_);rintro e_ w1 ⟨rfl,hd⟩;refine ⟨_,rfl,?_⟩;have hb:=hd.below;clear hd;replace HF2:=nF HF2;replace HN0:=aA.mk (Kd.N_below HN0.out hb);replace HN1:=aA.mk (Kd.N_below HN1.out hb);replace HKP:=aA.mk (HKP.out.then_ (Kept.of_below hb (fun _=>False)) (fun _ h_=>h_.elim));replace BKg:=nB BKg;replace HB:=aA.mk (aT HB.out hb);replace HT:=aA.mk (Nat.le_trans HT.out hb.size);(try clear hb);have:=bs4 BKg.out)|((with_reducible refine aW (f:=72) rfl ?_);refine cC we ?_;refine bK (some 36) rfl rfl Try.func72 tG rfl #[.pointer (some ⟨g,0,none⟩)] rfl tC ?_;(with_reducible refine (spec_l2OpS.calls (.slice A0_0 l0_0.length c0_0) (.slice A0_1 l0_1.length c0_1) _ _ f1 b1 true w _ g ?s1 ?s2 ?s3 JO.out).mono ?_);(case s1=>exact HB.out);(case s2=>exact BKg.out);(case s3=>exact tq);rintro e_ w2 ⟨rfl,hbk_,hbn_,hkp⟩;refine ⟨_,rfl,?_⟩;replace HF2:=aA.mk (Kd.aU HF2.out hkp tA);replace HN0:=aA.mk (Kd.N_kept HN0.out hkp tA);replace HN1:=aA.mk (Kd.N_kept HN1.out hkp tA);replace HKP:=aA.mk (HKP.out.then_ hkp ta);replace HB:=aA.mk (hbn_);replace BKg:=aA.mk (hbk_);replace HT:=aA.mk (Nat.le_trans HT.out hkp.1);clear hbk_ hbn_ hkp;have:=bs4 BKg.out))
 replace HF2:=aA.mk (Kd.F_drew HF2.out)
 replace HN0:=aA.mk (Kd.bV HN0.out)
 replace HN1:=aA.mk (Kd.bV HN1.out)
 replace BKg:=aA.mk (aN BKg.out)
 replace HB:=aA.mk (aH HB.out)
 replace HT:=aA.mk (show _ ≤ w2.drew.heap.size from HT.out)
 replace HKP:=aA.mk (show Kept wi w2.drew (fun k_=>a ≤ k_) from HKP.out)
 refine start_ (n:=15) (S:=fun w'=>w'.cell? ⟨g,0,none⟩ = some (.slice A0_0 l0_0.length c0_0) ∧ w'.cell? ⟨g,1,none⟩ = some (.slice A0_1 l0_1.length c0_1) ∧ w'.cell? ⟨g,2,none⟩ = some (.int .i64 f1) ∧ w'.cell? ⟨g,3,none⟩ = some (.bool b1)) (ds:=[14]) #[F0,F0,F0,F0,F0,F0,F0,F0,F0,F0,F0,F0,F0,F0,F0] tG rfl rfl ⟨(aD BKg.out 0).trans rfl,(aD BKg.out 1).trans rfl,(aD BKg.out 2).trans rfl,(aD BKg.out 3).trans rfl⟩ (fun hHeld=>?_)
 generalize w2.drew = w3 at HF2 HN0 HN1 BKg HB HT HKP hHeld ⊢
 refine bT (i:=0) (N:=some 39) (v:=?_) (a':=?_) #[T1,F0,F0,F0,F0,F0,F0,F0,F0,F0,F0,F0,F0,F0,F0] rfl rfl tG (fun _ _ _ h=>h) (Or.inl ⟨vr,?_⟩) ?_ ?_
 rotate_left
 ·intro w'
  go_simp
  with_reducible rfl
 rotate_left
 ·simp only [Act.put,lA,lB,lC,bE,bG]
  rfl
 refine bT (i:=1) (N:=some 40) (v:=?_) (a':=?_) #[T1,T1,F0,F0,F0,F0,F0,F0,F0,F0,F0,F0,F0,F0,F0] rfl rfl tG (fun _ _ _ h=>h) (Or.inl ⟨vr,?_⟩) ?_ ?_
 rotate_left
 ·intro w'
  go_simp
  with_reducible rfl
 rotate_left
 ·simp only [Act.put,lA,lB,lC,bE,bG]
  rfl
 refine bT (i:=2) (N:=some 41) (v:=?_) (a':=?_) #[T1,T1,T1,F0,F0,F0,F0,F0,F0,F0,F0,F0,F0,F0,F0] rfl rfl tG (fun _ _ _ h=>h) (Or.inl ⟨vr,?_⟩) ?_ ?_
 rotate_left
 ·intro w'
  go_simp
  with_reducible rfl
 rotate_left
 ·simp only [Act.put,lA,lB,lC,bE,bG]
  rfl
 refine bT (i:=3) (N:=some 42) (v:=?_) (a':=?_) #[T1,T1,T1,T1,F0,F0,F0,F0,F0,F0,F0,F0,F0,F0,F0] rfl rfl tG (fun _ _ _ h=>h) (Or.inl ⟨vr,?_⟩) ?_ ?_
 rotate_left
 ·intro w'
  go_simp
  with_reducible rfl
 rotate_left
 ·simp only [Act.put,lA,lB,lC,bE,bG]
  rfl
 refine take_ (i:=4) (N:=some 43) (v:=?_) (a':=?_) #[T1,T1,T1,T1,T1,F0,F0,F0,F0,F0,F0,F0,F0,F0,F0] rfl rfl tG (fun _ _ _ h=>h) (Or.inl ⟨vr,?_⟩) hHeld ?_ ?_
 rotate_left
 ·rintro w' ⟨s0,s1,s2,s3⟩
  go_simp
  with_reducible rfl
 rotate_left
 ·simp only [Act.put,lA,lB,lC,bE,bG]
  rfl
 refine bT (i:=5) (N:=some 44) (v:=?_) (a':=?_) #[T1,T1,T1,T1,T1,T1,F0,F0,F0,F0,F0,F0,F0,F0,F0] rfl rfl tG (fun _ _ _ h=>h) (Or.inl ⟨vr,?_⟩) ?_ ?_
 rotate_left
 ·intro w'
  go_simp
  with_reducible rfl
 rotate_left
 ·simp only [Act.put,lA,lB,lC,bE,bG]
  rfl
 refine bT (i:=7) (N:=some 46) (v:=?_) (a':=?_) #[T1,T1,T1,T1,T1,T1,F0,T1,F0,F0,F0,F0,F0,F0,F0] rfl rfl tG (fun _ _ _ h=>h) (Or.inl ⟨vr,?_⟩) ?_ ?_
 rotate_left
 ·intro w'
  go_simp
  with_reducible rfl
 rotate_left
 ·simp only [Act.put,lA,lB,lC,bE,bG]
  rfl
 refine one_ (i:=6) (N:=some 45) #[T1,T1,T1,T1,T1,T1,T1,T1,F0,F0,F0,F0,F0,F0,F0] rfl rfl tG tf (fun K hK=>?_)
 refine Kd.R_lit_step (Kd.int .u8) _ 5 ?hg (N:=45) ?hd (xs:=([]:List (Int))) (inner:=[]) (ok:=fun _=>True) (okp:=fun _=>True) ?hr ?hp (fun _ hk=>hk) trivial (Below.refl _ _) (Nat.le_refl _) vN ?_
 (case hd=>rfl)
 (case hg=>rfl)
 (case hr=>exact tE)
 (case hp=>exact (Reps.none _ _))
 intro v4 w4 ho_ hb hg_ hat_
 clear hg_ hat_
 obtain ⟨ys4,ey_⟩:∃ y_:List (Int),y_ = []:=⟨_,rfl⟩
 rw [← ey_] at ho_
 have HY4:=aA.mk ey_
 clear ey_
 obtain ⟨lo4,hi4,el_,eh_,ol_,oh_⟩:=Mem.times HT.out hb
 rw [← el_] at ho_
 obtain ⟨A4,c4,ev_,hc_,hf_,hs_⟩:=Mem.new_R ho_ eh_
 subst ev_
 replace HF2:=nF HF2
 replace HN0:=aA.mk (Kd.N_below HN0.out hb)
 replace HN1:=aA.mk (Kd.N_below HN1.out hb)
 replace HKP:=aA.mk (HKP.out.then_ (Kept.of_below hb (fun _=>False)) (fun _ h_=>h_.elim))
 replace BKg:=nB BKg
 replace HB:=aA.mk (aT HB.out hb)
 replace HORD:=aA.mk (And.intro HORD.out (And.intro ol_ oh_))
 replace HT:=aA.mk (Nat.le_of_eq eh_)
 replace HF4:=aA.mk (hf_)
 replace HC4:=aA.mk (hc_)
 replace HS4:=aA.mk (hs_)
 clear hb ho_ hc_ hf_ hs_ ol_ oh_ el_ eh_
 refine hK.out _ _ ⟨(aD BKg.out 0).trans rfl,(aD BKg.out 1).trans rfl,(aD BKg.out 2).trans rfl,(aD BKg.out 3).trans rfl⟩ (fun hHeld=>?_)
 clear hK K
 refine norm_ (a':=?_) ?_ ?_
 rotate_left
 ·show Act.put _ (some 45) _ = _
  simp only [Act.put,lA,lB,lC,bE,bG]
  rfl
 refine one_ (i:=8) (N:=some 47) #[T1,T1,T1,T1,T1,T1,T1,T1,T1,F0,F0,F0,F0,F0,F0] rfl rfl tG tf (fun K hK=>?_)
 refine Kd.R_append_rows_step (Kd.int .u8) (w0:=w) w.heap.size wN (.tmp 45) (.tmp 46) 37 5 (.int .u8 0) 1 rfl Try.underlying37 info5 rfl tf tZ (.slice A4 ys4.length c4) ys4 l2 _ _ _ (fun k_=>lo4 ≤ k_) (fun _=>False) rfl rfl ?aO ?aR (fun _ _ h=>h) (fun _ h=>h.elim) ?aF ?aB ?aS ?aL ?_
 (case aR=>exact (Kd.bR HF2.out))
 (case aB=>exact HB.out)
 (case aS=>exact aX HB.out)
 (case aF=>exact (fun k_ hk_=>by have o_:=HORD.out;have t_:=HT.out;omega))
 (case aO=>exact Kd.R_mono (Kd.R_lower HS4.out tq) (fun k_ hk_=>hk_.1))
 (case aL=>(have h1_:=congrArg List.length HY4.out;simp only [List.length_nil] at h1_;have h2_:=(show l2.length ≤ 80 by omega);omega))
 intro v5 w5 ho_ hbn_ hg_ hat_
 obtain ⟨ys5,ey_⟩:∃ y_,y_ = ys4 ++ l2:=⟨_,rfl⟩
 rw [← ey_] at ho_
 have HY5:=aA.mk (show ys5 = l2 by rw [ey_,HY4.out,List.nil_append])
 clear ey_
 have hkp:=kept_grown (S:=(In lo4 hi4)) hg_ (fun k_ he_=>(HS4.out).1 k_ he_)
 obtain ⟨A5,c5,ev_⟩:=Kd.R_slice ho_
 subst ev_
 obtain ⟨hi5,e2_⟩:∃ n_,n_ = w5.heap.size:=⟨_,rfl⟩
 have ol_:hi4 ≤ hi5:=wT
 have hs_:=Kd.R_mono (ok':=In lo4 hi5) (Kd.R_bound ho_) (fun k_ hk_=>⟨hk_.1,by rw [e2_];exact hk_.2.2.1⟩)
 replace HF2:=aA.mk (Kd.aU HF2.out hkp tA)
 replace HN0:=aA.mk (Kd.N_kept HN0.out hkp tA)
 replace HN1:=aA.mk (Kd.N_kept HN1.out hkp tA)
 replace HKP:=aA.mk (HKP.out.then_ hkp ta)
 replace BKg:=aA.mk (aY BKg.out hkp tB)
 replace HB:=aA.mk (hbn_)
 replace HORD:=aA.mk (And.intro HORD.out ol_)
 replace HT:=aA.mk (Nat.le_of_eq e2_)
 replace HS5:=aA.mk (hs_)
 replace HF5:=aA.mk (Kd.R_F hs_)
 replace HC5:=aA.mk ((Kd.R_reads' hs_).2.1)
 clear hs_ ho_ hbn_ hg_ hat_ hkp ol_ e2_
 refine hK.out _ _ ⟨(aD BKg.out 0).trans rfl,(aD BKg.out 1).trans rfl,(aD BKg.out 2).trans rfl,(aD BKg.out 3).trans rfl⟩ (fun hHeld=>?_)
 clear hK K
 refine norm_ (a':=?_) ?_ ?_
 rotate_left
 ·show Act.put _ (some 47) _ = _
  simp only [Act.put,lA,lB,lC,bE,bG]
  rfl
 refine bT (i:=9) (N:=some 48) (v:=?_) (a':=?_) #[T1,T1,T1,T1,T1,T1,T1,T1,T1,T1,F0,F0,F0,F0,F0] rfl rfl tG (fun _ _ _ h=>h) (Or.inl ⟨vr,?_⟩) ?_ ?_
 rotate_left
 ·intro w'
  go_simp
  with_reducible rfl
 rotate_left
 ·simp only [Act.put,lA,lB,lC,bE,bG]
  rfl
 refine one_ (i:=10) (N:=some 49) #[T1,T1,T1,T1,T1,T1,T1,T1,T1,T1,T1,F0,F0,F0,F0] rfl rfl tG tf (fun K hK=>?_)
 refine value_ (w1:=?_) (v:=?_) wN rfl ?_ ?_
 rotate_left 2
 ·go_simp
  constructor
  ·rfl
  ·rfl
 refine hK.out _ _ ⟨(aD (aG BKg.out _) 0).trans rfl,(aD (aG BKg.out _) 1).trans rfl,(aD (aG BKg.out _) 2).trans rfl,(aD (aG BKg.out _) 3).trans rfl⟩ (fun hHeld=>?_)
 clear hK K
 refine norm_ (a':=?_) ?_ ?_
 rotate_left
 ·show Act.put _ (some 49) _ = _
  simp only [Act.put,lA,lB,lC,bE,bG]
  rfl
 refine one_ (i:=11) (N:=some 50) #[T1,T1,T1,T1,T1,T1,T1,T1,T1,T1,T1,T1,F0,F0,F0] rfl rfl tG tf (fun K hK=>?_)
 refine Kd.N_append_step k50 (w0:=w) w.heap.size wN (.tmp 43) (.tmp 49) 23 50 (.agg #[.int .i64 0,.slice none 0 0]) 32 rfl Try.underlying23 info50 rfl tf tZ (.slice A0_1 l0_1.length c0_1) l0_1 ((⟨a1,ys5⟩:S50)) [.int .i64 a1,.slice A5 ys5.length c5] (Ex a gS g) (fun k_=>(Ex a gS g) k_ ∧ some k_ ≠ (.slice A0_1 l0_1.length c0_1:Value).ownBlock) rfl rfl ?aP (fun _ hk=>hk) ?aF ?aO ?aB ?aS ?aL ?_
 (case aP=>exact k50_mkF _ _ _ HC5.out (Kd.F_mono HF5.out (fun k_ hk_=>⟨vK,(fun he_=>by have hz_:=HGC.out k_ he_.symm;have o_:=HORD.out;have t_:=HT.out;(try simp only [In2,Up,In,Ex,Exb] at hk_);omega)⟩)))
 (case aF=>exact tR)
 (case aO=>exact Kd.aV HN1.out (fun k_ hk_=>by (try simp only [In2,Up,In,Ex,Exb] at hk_ ⊢);omega))
 (case aB=>exact HB.out)
 (case aS=>exact aX HB.out)
 (case aL=>omega)
 intro v6 w6 ho_ hbn_ hg_ hat_
 obtain ⟨ys6,ey_⟩:∃ y_,y_ = l0_1 ++ [(⟨a1,ys5⟩:S50)]:=⟨_,rfl⟩
 rw [← ey_] at ho_
 have HY6:=aA.mk ey_
 clear ey_
 have hkp:=kept_grown (S:=fun k_=>k_ = gC ∧ a ≤ k_) hg_ (fun k_ he_=>⟨HGC.out k_ he_,((HN1.out).1 k_ he_).1.1⟩)
 obtain ⟨gn6,hgn_,hgo_⟩:∃ x_,(∀ k_,v6.ownBlock = some k_ → k_ = x_) ∧ (x_ = gC ∨ (hi5 ≤ x_ ∧ x_ < w6.heap.size)):=by
  rcases hat_ with hat_|⟨b_,hb_,hle_⟩
  ·exact ⟨gC,fun k_ hk_=>HGC.out k_ (hat_ ▸ hk_),.inl rfl⟩
  ·exact ⟨b_,fun k_ hk_=>by rw [hb_] at hk_;injection hk_ with hk_;exact hk_.symm,.inr ⟨Nat.le_trans HT.out hle_,Kd.N_lt ho_ b_ hb_⟩⟩
 obtain ⟨A6,c6,ev_⟩:=Kd.cB ho_
 subst ev_
 obtain ⟨hi6,e2_⟩:∃ n_,n_ = w6.heap.size:=⟨_,rfl⟩
 have ol_:hi5 ≤ hi6:=wT
 rw [← e2_] at hgo_
 have hs_:=Kd.aV (ok':=Exb a gS g hi6) (Kd.N_bound ho_) (fun k_ hk_=>⟨hk_.1,by rw [e2_];exact hk_.2⟩)
 replace HN0:=aA.mk (Kd.N_kept HN0.out hkp tA)
 replace HKP:=aA.mk (HKP.out.then_ hkp ta)
 replace BKg:=aA.mk (aY BKg.out hkp tB)
 replace HB:=aA.mk (hbn_)
 replace HORD:=aA.mk (And.intro HORD.out (And.intro ol_ hgo_))
 replace HT:=aA.mk (Nat.le_of_eq e2_)
 replace HS6:=aA.mk (hs_)
 replace HC6:=aA.mk ((Kd.N_reads' ho_).2.1)
 replace HG6:=aA.mk (hgn_)
 clear hs_ ho_ hbn_ hg_ hat_ hkp ol_ e2_ hgn_ hgo_
 refine hK.out _ _ ⟨(aD BKg.out 0).trans rfl,(aD BKg.out 1).trans rfl,(aD BKg.out 2).trans rfl,(aD BKg.out 3).trans rfl⟩ (fun hHeld=>?_)
 clear hK K
 refine norm_ (a':=?_) ?_ ?_
 rotate_left
 ·show Act.put _ (some 50) _ = _
  simp only [Act.put,lA,lB,lC,bE,bG]
  rfl
 refine bT (i:=12) (N:=some 51) (v:=?_) (a':=?_) #[T1,T1,T1,T1,T1,T1,T1,T1,T1,T1,T1,T1,T1,F0,F0] rfl rfl tG (fun _ _ _ h=>h) (Or.inl ⟨vr,?_⟩) ?_ ?_
 rotate_left
 ·intro w'
  go_simp
  with_reducible rfl
 rotate_left
 ·simp only [Act.put,lA,lB,lC,bE,bG]
  rfl
 refine bT (i:=13) (N:=some 52) (v:=?_) (a':=?_) #[T1,T1,T1,T1,T1,T1,T1,T1,T1,T1,T1,T1,T1,T1,F0] rfl rfl tG (fun _ _ _ h=>h) (Or.inl ⟨vr,?_⟩) ?_ ?_
 rotate_left
 ·intro w'
  go_simp
  with_reducible rfl
 rotate_left
 ·simp only [Act.put,lA,lB,lC,bE,bG]
  rfl
 refine last_ (i:=14) (N:=none) #[T1,T1,T1,T1,T1,T1,T1,T1,T1,T1,T1,T1,T1,T1,T1] rfl rfl tG tf (fun K hK=>?_)
 have:=bs4 BKg.out
 have hge_:w.heap.size ≤ g:=tq
 refine skip_ (w1:=?_) wN rfl ?_ ?_
 rotate_left
 ·go_simp
  rfl
 refine hK.out _ _ ?_
 clear hK K
 refine done_ tG ?_
 obtain ⟨w7,hw_⟩:∃ z_,z_ = (w6.setCell ⟨g,1,none⟩ (.slice A6 ys6.length c6)):=⟨_,rfl⟩
 (try rw [← hw_])
 have hkp:Kept w6 w7 (fun k_=>k_ = g):=(by rw [hw_];exact Kept.setCell (Kept.refl w6 (fun k_=>k_ = g)) (.inl rfl) (.slice A6 ys6.length c6))
 have hbn_:Below w.heap.size w w7:=vu
 have hbk_:w7.heap[g]? = some (.cells #[.slice A0_0 l0_0.length c0_0,.slice A6 ys6.length c6,.int .i64 f1,.bool b1] 25 (0,0)):=(by rw [hw_];exact aQ (cs:=#[.slice A0_0 l0_0.length c0_0,.slice A0_1 l0_1.length c0_1,.int .i64 f1,.bool b1]) (cs':=#[.slice A0_0 l0_0.length c0_0,.slice A6 ys6.length c6,.int .i64 f1,.bool b1]) (BKg.out) 1 _ rfl)
 have hsz_:hi6 ≤ w7.heap.size:=Nat.le_trans HT.out hkp.1
 replace HN0:=aA.mk (Kd.N_kept HN0.out hkp tA)
 replace HS6:=aA.mk (Kd.N_kept HS6.out hkp tA)
 replace HKP:=aA.mk (HKP.out.then_ hkp ta)
 replace HB:=aA.mk (hbn_)
 replace BKg:=aA.mk (hbk_)
 replace HT:=aA.mk (hsz_)
 clear hw_ hkp hge_ hbn_ hbk_ hsz_
 have:=bs4 BKg.out
 try go_wp2
 first|go_end0|refine bodyPost_ret (fn:=Try.f57) (results_none rfl _ _ _) rfl ?_
 exact ⟨rfl,by unfold WrPost;exact ⟨_,gn6,BKg.out,HG6.out,tH,Kd.aV HN0.out tR,(by rw [show l0_1 ++ [(⟨a1,l2⟩:S50)] = ys6 from by rw [HY6.out,HY5.out]];exact Kd.aV HS6.out tR),HB.out,HKP.out⟩⟩
theorem spec_l2WriteS.calls (A0_0:Option Addr) (c0_0:Nat) (l0_0:List (List Int)) (A0_1:Option Addr) (c0_1:Nat) (l0_1:List (S50)) (a0_2:Int) (a0_3:Bool) (a1:Int) (A2:Option Addr) (c2:Nat) (l2:List Int) (w wi:World) (g:Nat) (hB:Below w.heap.size w wi) (hbk:wi.heap[g]? = some (.cells #[.slice A0_0 l0_0.length c0_0,.slice A0_1 l0_1.length c0_1,.int .i64 a0_2,.bool a0_3] 25 (0,0))) (a gS gC:Nat) (hwa:w.heap.size ≤ a ∧ 0 < a) (hag:a ≤ g) (hSt:gS < wi.heap.size ∧ g ≠ gS) (hCt:gC < wi.heap.size ∧ g ≠ gC) (hgC:∀ k_,(Value.slice A0_1 l0_1.length c0_1).ownBlock = some k_ → k_ = gC) (hgS:∀ k_,(Value.slice A0_0 l0_0.length c0_0).ownBlock = some k_ → k_ = gS) (hn0:Kd.N (Kd.slice 5 (Kd.int .u8)) 37 wi w.heap.size (Ex a gC g) (.slice A0_0 l0_0.length c0_0) l0_0) (hn1:Kd.N k50 50 wi w.heap.size (Ex a gS g) (.slice A0_1 l0_1.length c0_1) l0_1) (hf2:Kd.F (Kd.int .u8) wi (Ex 0 g g) A2 l2.length l2) (hc2:l2.length ≤ c2) :
  Calls Try.prog 57 #[.pointer (some ⟨g,0,none⟩),.int .i64 a1,.slice A2 l2.length c2] wi fun e w'=>e = .returned (.tuple #[]) ∧ WrPost w wi w' a g gS (.slice A0_0 l0_0.length c0_0) l0_0 (wrote l0_0 l0_1 a0_2 a0_3 a1 l2).1 (wrote l0_0 l0_1 a0_2 a0_3 a1 l2).2.1 (wrote l0_0 l0_1 a0_2 a0_3 a1 l2).2.2:=by
 unfold wrote
 by_cases hp:putsB l0_0 l0_1 a0_3 a1 l2 = true
 ·rw [if_pos hp]
  unfold putsB at hp
  simp only [Bool.and_eq_true,Bool.not_eq_true',decide_eq_false_iff_not] at hp
  obtain ⟨hd,hwi,h80,h60⟩:=hp
  subst hd
  obtain ⟨⟨f1,b1,o1⟩,hbu⟩:∃ z,burnF a0_2 false = z:=⟨_,rfl⟩
  rw [hbu]
  cases o1 with
  | true=>exact walk_l2Write6 _ _ _ _ _ _ _ _ _ _ _ w wi g hB hbk a gS gC hwa hag hSt hCt hgC hgS hn0 hn1 hf2 hc2 hwi h80 h60 _ _ hbu
  | false=>exact walk_l2Write5 _ _ _ _ _ _ _ _ _ _ _ w wi g hB hbk a gS gC hwa hag hSt hCt hgC hgS hn0 hn1 hf2 hc2 hwi h80 h60 _ _ hbu
 ·rw [if_neg hp]
  cases a0_3 with
  | true=>exact walk_l2Write1 _ _ _ _ _ _ _ _ _ _ _ w wi g hB hbk a gS gC hwa hag hSt hCt hgC hgS hn0 hn1 hf2 hc2
  | false =>
   by_cases hwi:decide (0 ≤ a1 ∧ a1 ≤ wrap64 ((l0_0.length:Int) - 1)) = true
   ·by_cases h80:80 < (l2.length:Int)
    ·exact walk_l2Write3 _ _ _ _ _ _ _ _ _ _ _ w wi g hB hbk a gS gC hwa hag hSt hCt hgC hgS hn0 hn1 hf2 hc2 hwi h80
    ·by_cases h60:60 ≤ (l0_1.length:Int)
     ·exact walk_l2Write4 _ _ _ _ _ _ _ _ _ _ _ w wi g hB hbk a gS gC hwa hag hSt hCt hgC hgS hn0 hn1 hf2 hc2 hwi h80 h60
     ·exact absurd (by unfold putsB;rw [hwi,decide_eq_false h80,decide_eq_false h60];rfl) hp
   ·exact walk_l2Write2 _ _ _ _ _ _ _ _ _ _ _ w wi g hB hbk a gS gC hwa hag hSt hCt hgC hgS hn0 hn1 hf2 hc2 (by simpa using hwi)
set_option maxHeartbeats 8000000 in
set_option maxRecDepth 100000 in
theorem walk_l2Flush1 (A0_0:Option Addr) (c0_0:Nat) (l0_0:List (List Int)) (A0_1:Option Addr) (c0_1:Nat) (l0_1:List (S50)) (a0_2:Int) (w wi:World) (g:Nat) (hB:Below w.heap.size w wi) (hbk:wi.heap[g]? = some (.cells #[.slice A0_0 l0_0.length c0_0,.slice A0_1 l0_1.length c0_1,.int .i64 a0_2,.bool true] 25 (0,0))) (a gS gC:Nat) (hwa:w.heap.size ≤ a ∧ 0 < a) (hag:a ≤ g) (hSt:gS < wi.heap.size ∧ g ≠ gS) (hCt:gC < wi.heap.size ∧ g ≠ gC) (hgC:∀ k_,(Value.slice A0_1 l0_1.length c0_1).ownBlock = some k_ → k_ = gC) (hgS:∀ k_,(Value.slice A0_0 l0_0.length c0_0).ownBlock = some k_ → k_ = gS) (hn0:Kd.N (Kd.slice 5 (Kd.int .u8)) 37 wi w.heap.size (Ex a gC g) (.slice A0_0 l0_0.length c0_0) l0_0) (hn1:Kd.N k50 50 wi w.heap.size (Ex a gS g) (.slice A0_1 l0_1.length c0_1) l0_1) :
  Calls Try.prog 60 #[.pointer (some ⟨g,0,none⟩)] wi fun e w'=>e = .returned (.tuple #[]) ∧ FlPost w wi w' a g gS l0_0 l0_1 a0_2 true:=by
 have hu25:=Try.underlying25
 have hu50:=Try.underlying50
 have HB:=aA.mk hB
 have BKg:=aA.mk hbk
 have HKP:=aA.mk (Kept.refl wi (fun k_=>a ≤ k_))
 obtain ⟨top,et_⟩:∃ n_,n_ = wi.heap.size:=⟨_,rfl⟩
 have HORD:=aA.mk (show ((w.heap.size ≤ a ∧ 0 < a) ∧ a ≤ g) ∧ g + 1 ≤ top ∧ (gS < top ∧ g ≠ gS) ∧ (gC < top ∧ g ≠ gC) from ⟨⟨hwa,hag⟩,Ap,by rw [et_];exact hSt,by rw [et_];exact hCt⟩)
 have HT:=aA.mk (Nat.le_of_eq et_)
 have HN0:=aA.mk (Kd.aV (ok':=Exb a gC g top) (Kd.N_bound hn0) (fun k_ hk_=>⟨hk_.1,wd⟩))
 have HN1:=aA.mk (Kd.aV (ok':=Exb a gS g top) (Kd.N_bound hn1) (fun k_ hk_=>⟨hk_.1,wd⟩))
 have HGC:=aA.mk hgC
 have HGS:=aA.mk hgS
 have HTE:=aA.mk et_
 clear hn0 hn1 hgC hgS et_ hwa hag hSt hCt
 clear hB hbk
 go_enter Try.func60,Try.ntmps60
 have:=bs4 BKg.out
 try go_wp2
 first|go_end0|refine bodyPost_ret (fn:=Try.f60) (results_none rfl _ _ _) rfl ?_
 exact ⟨rfl,by unfold FlPost;exact ⟨_,_,gC,BKg.out,HGC.out,tH,(fun k_ hk_=>HGS.out k_ hk_),Kd.aV HN0.out tR,Kd.aV HN1.out tR,HB.out,HKP.out⟩⟩
set_option maxHeartbeats 8000000 in
set_option maxRecDepth 100000 in
theorem walk_l2Flush2 (A0_0:Option Addr) (c0_0:Nat) (l0_0:List (List Int)) (A0_1:Option Addr) (c0_1:Nat) (l0_1:List (S50)) (a0_2:Int) (w wi:World) (g:Nat) (hB:Below w.heap.size w wi) (hbk:wi.heap[g]? = some (.cells #[.slice A0_0 l0_0.length c0_0,.slice A0_1 l0_1.length c0_1,.int .i64 a0_2,.bool false] 25 (0,0))) (a gS gC:Nat) (hwa:w.heap.size ≤ a ∧ 0 < a) (hag:a ≤ g) (hSt:gS < wi.heap.size ∧ g ≠ gS) (hCt:gC < wi.heap.size ∧ g ≠ gC) (hgC:∀ k_,(Value.slice A0_1 l0_1.length c0_1).ownBlock = some k_ → k_ = gC) (hgS:∀ k_,(Value.slice A0_0 l0_0.length c0_0).ownBlock = some k_ → k_ = gS) (hn0:Kd.N (Kd.slice 5 (Kd.int .u8)) 37 wi w.heap.size (Ex a gC g) (.slice A0_0 l0_0.length c0_0) l0_0) (hn1:Kd.N k50 50 wi w.heap.size (Ex a gS g) (.slice A0_1 l0_1.length c0_1) l0_1) (f1:Int) (b1:Bool) (hbu:burnF a0_2 false = (f1,b1,false)) :
  Calls Try.prog 60 #[.pointer (some ⟨g,0,none⟩)] wi fun e w'=>e = .returned (.tuple #[]) ∧ FlPost w wi w' a g gS l0_0 l0_1 f1 b1:=by
 have hu25:=Try.underlying25
 have hu50:=Try.underlying50
 have HB:=aA.mk hB
 have BKg:=aA.mk hbk
 have HKP:=aA.mk (Kept.refl wi (fun k_=>a ≤ k_))
 obtain ⟨top,et_⟩:∃ n_,n_ = wi.heap.size:=⟨_,rfl⟩
 have HORD:=aA.mk (show ((w.heap.size ≤ a ∧ 0 < a) ∧ a ≤ g) ∧ g + 1 ≤ top ∧ (gS < top ∧ g ≠ gS) ∧ (gC < top ∧ g ≠ gC) from ⟨⟨hwa,hag⟩,Ap,by rw [et_];exact hSt,by rw [et_];exact hCt⟩)
 have HT:=aA.mk (Nat.le_of_eq et_)
 have HN0:=aA.mk (Kd.aV (ok':=Exb a gC g top) (Kd.N_bound hn0) (fun k_ hk_=>⟨hk_.1,wd⟩))
 have HN1:=aA.mk (Kd.aV (ok':=Exb a gS g top) (Kd.N_bound hn1) (fun k_ hk_=>⟨hk_.1,wd⟩))
 have HGC:=aA.mk hgC
 have HGS:=aA.mk hgS
 have HTE:=aA.mk et_
 clear hn0 hn1 hgC hgS et_ hwa hag hSt hCt
 have JO:=aA.mk hbu
 clear hB hbk
 go_enter Try.func60,Try.ntmps60
 have:=bs4 BKg.out
 go_wp2_with (first|((with_reducible refine aW (f:=72) rfl ?_);refine cC we ?_;refine bK (some 9) rfl rfl Try.func72 tG rfl #[.pointer (some ⟨g,0,none⟩)] rfl tC ?_;(with_reducible refine (spec_l2OpS.calls (.slice A0_0 l0_0.length c0_0) (.slice A0_1 l0_1.length c0_1) _ _ f1 b1 false w _ g ?s1 ?s2 ?s3 JO.out).mono ?_);(case s1=>exact HB.out);(case s2=>exact BKg.out);(case s3=>exact tq);rintro e_ w1 ⟨rfl,hbk_,hbn_,hkp⟩;refine ⟨_,rfl,?_⟩;replace HN0:=aA.mk (Kd.N_kept HN0.out hkp tA);replace HN1:=aA.mk (Kd.N_kept HN1.out hkp tA);replace HKP:=aA.mk (HKP.out.then_ hkp ta);replace HB:=aA.mk (hbn_);replace BKg:=aA.mk (hbk_);replace HT:=aA.mk (Nat.le_trans HT.out hkp.1);clear hbk_ hbn_ hkp;have:=bs4 BKg.out))
 first|go_end0|refine bodyPost_ret (fn:=Try.f60) (results_none rfl _ _ _) rfl ?_
 exact ⟨rfl,by unfold FlPost;exact ⟨_,_,gC,BKg.out,HGC.out,tH,(fun k_ hk_=>HGS.out k_ hk_),Kd.aV HN0.out tR,Kd.aV HN1.out tR,HB.out,HKP.out⟩⟩
set_option maxHeartbeats 8000000 in
set_option maxRecDepth 100000 in
theorem walk_l2Flush3 (A0_0:Option Addr) (c0_0:Nat) (l0_0:List (List Int)) (A0_1:Option Addr) (c0_1:Nat) (l0_1:List (S50)) (a0_2:Int) (w wi:World) (g:Nat) (hB:Below w.heap.size w wi) (hbk:wi.heap[g]? = some (.cells #[.slice A0_0 l0_0.length c0_0,.slice A0_1 l0_1.length c0_1,.int .i64 a0_2,.bool false] 25 (0,0))) (a gS gC:Nat) (hwa:w.heap.size ≤ a ∧ 0 < a) (hag:a ≤ g) (hSt:gS < wi.heap.size ∧ g ≠ gS) (hCt:gC < wi.heap.size ∧ g ≠ gC) (hgC:∀ k_,(Value.slice A0_1 l0_1.length c0_1).ownBlock = some k_ → k_ = gC) (hgS:∀ k_,(Value.slice A0_0 l0_0.length c0_0).ownBlock = some k_ → k_ = gS) (hn0:Kd.N (Kd.slice 5 (Kd.int .u8)) 37 wi w.heap.size (Ex a gC g) (.slice A0_0 l0_0.length c0_0) l0_0) (hn1:Kd.N k50 50 wi w.heap.size (Ex a gS g) (.slice A0_1 l0_1.length c0_1) l0_1) (hl1:l0_1.length ≤ 4194304) (hin:∀ {x:Int} (i:Nat),x = (i:Int) → i < l0_1.length → 0 ≤ (rdW l0_1 x).f0 ∧ (rdW l0_1 x).f0 < (l0_0.length:Int)) (f1:Int) (b1:Bool) (hbu:burnF a0_2 false = (f1,b1,true)) :
  Calls Try.prog 60 #[.pointer (some ⟨g,0,none⟩)] wi fun e w'=>e = .returned (.tuple #[]) ∧ FlPost w wi w' a g gS ((flushSecs l0_0 l0_1 l0_1.length)) (([]:List (S50))) f1 b1:=by
 have hu25:=Try.underlying25
 have hu50:=Try.underlying50
 have HB:=aA.mk hB
 have BKg:=aA.mk hbk
 have HKP:=aA.mk (Kept.refl wi (fun k_=>a ≤ k_))
 obtain ⟨top,et_⟩:∃ n_,n_ = wi.heap.size:=⟨_,rfl⟩
 have HORD:=aA.mk (show ((w.heap.size ≤ a ∧ 0 < a) ∧ a ≤ g) ∧ g + 1 ≤ top ∧ (gS < top ∧ g ≠ gS) ∧ (gC < top ∧ g ≠ gC) from ⟨⟨hwa,hag⟩,Ap,by rw [et_];exact hSt,by rw [et_];exact hCt⟩)
 have HT:=aA.mk (Nat.le_of_eq et_)
 have HN0:=aA.mk (Kd.aV (ok':=Exb a gC g top) (Kd.N_bound hn0) (fun k_ hk_=>⟨hk_.1,wd⟩))
 have HN1:=aA.mk (Kd.aV (ok':=Exb a gS g top) (Kd.N_bound hn1) (fun k_ hk_=>⟨hk_.1,wd⟩))
 have HGC:=aA.mk hgC
 have HGS:=aA.mk hgS
 have HTE:=aA.mk et_
 clear hn0 hn1 hgC hgS et_ hwa hag hSt hCt
 have HL1:=aA.mk (Kd.aV (ok':=Exb a gS g top) HN1.out (fun _ h_=>h_))
 have HF1:=aA.mk (Kd.N_F HN1.out)
 have HC1:=aA.mk (Kd.N_reads' HN1.out).2.1
 have JO:=aA.mk hbu
 clear hB hbk
 go_enter Try.func60,Try.ntmps60
 have:=bs4 BKg.out
 go_wp2_with (first|((with_reducible refine aW (f:=72) rfl ?_);refine cC we ?_;refine bK (some 9) rfl rfl Try.func72 tG rfl #[.pointer (some ⟨g,0,none⟩)] rfl tC ?_;(with_reducible refine (spec_l2OpS.calls (.slice A0_0 l0_0.length c0_0) (.slice A0_1 l0_1.length c0_1) _ _ f1 b1 true w _ g ?s1 ?s2 ?s3 JO.out).mono ?_);(case s1=>exact HB.out);(case s2=>exact BKg.out);(case s3=>exact tq);rintro e_ w1 ⟨rfl,hbk_,hbn_,hkp⟩;refine ⟨_,rfl,?_⟩;replace HN0:=aA.mk (Kd.N_kept HN0.out hkp tA);replace HF1:=aA.mk (Kd.aU HF1.out hkp tA);replace HN1:=aA.mk (Kd.N_kept HN1.out hkp tA);replace HKP:=aA.mk (HKP.out.then_ hkp ta);replace HB:=aA.mk (hbn_);replace BKg:=aA.mk (hbk_);replace HT:=aA.mk (Nat.le_trans HT.out hkp.1);clear hbk_ hbn_ hkp;have:=bs4 BKg.out))
 go_loopg [2] (l0_1.length) (fun kq  v2 w'=>∃ (i2:Nat) (x2:Int) (u2:Value),v2 = .int .i64 x2 ∧ aA (x2 = (i2:Int)) ∧ aA (i2 + kq = l0_1.length) ∧ aA (top ≤ w'.heap.size) ∧ aA (Kd.N (Kd.slice 5 (Kd.int .u8)) 37 w' w.heap.size (Exb a g g top) u2 (flushSecs l0_0 l0_1 i2)) ∧ aA (∀ k_,(u2:Value).ownBlock = some k_ → k_ = gS) ∧ aA (Kd.F k50 w' (Exb a gS g top) A0_1 l0_1.length l0_1) ∧ aA (Kd.N k50 50 w' w.heap.size (Exb a gS g top) (.slice A0_1 l0_1.length c0_1) l0_1) ∧ aA (Kept wi w' (fun k_=>a ≤ k_)) ∧ aA (w'.heap[g]? = some (.cells #[u2,.slice A0_1 l0_1.length c0_1,.int .i64 f1,.bool b1] 25 (0,0))) ∧ aA (Below w.heap.size w w'))
 case atStart=>exact ⟨0,0,_,rfl,⟨rfl⟩,⟨Nat.zero_add _⟩,HT,⟨by rw [show flushSecs l0_0 l0_1 0 = l0_0 from rfl];exact Kd.aV HN0.out wK⟩,⟨fun k_ hk_=>HGS.out k_ hk_⟩,HF1,HN1,HKP,BKg,HB⟩
 clear HF1 HN1 HKP BKg HB HT HN0
 obtain ⟨i2,x2,u2,rfl,HI2,HK2,HT,HS2,HGN,HF1,HN1,HKP,BKg,HB⟩:=hrel
 obtain ⟨xs2,ex_⟩:∃ y_,y_ = flushSecs l0_0 l0_1 i2:=⟨_,rfl⟩
 rw [← ex_] at HS2
 have HX2:=aA.mk ex_
 clear ex_
 obtain ⟨A2,c2,ev_⟩:=Kd.cB HS2.out
 subst ev_
 rcases gk with _|k1
 rotate_left
 ·have hp_:0 ≤ x2:=(by have:=HI2.out;omega)
  have hq_:x2 < (l0_1.length:Int):=(by have:=HI2.out;have:=HK2.out;omega)
  have hd_:decide (x2 < (l0_1.length:Int)) = true:=decide_eq_true hq_
  have:=bs4 BKg.out
  ·have WA_:=aA.mk hp_
   try go_wp2
   obtain ⟨ad3,Ae3,ce3,ee3,hx3_0,hx3_1,hl3,hf3⟩:=F_wr HF1.out x2 hp_ hq_
   cases ee3
   have HF3:=aA.mk hf3
   have HC3:=aA.mk hl3
   clear hf3 hl3
   replace HF1:=aA.mk (Kd.F_drew HF1.out)
   replace HN1:=aA.mk (Kd.bV HN1.out)
   replace HS2:=aA.mk (Kd.bV HS2.out)
   replace HF3:=aA.mk (Kd.F_drew HF3.out)
   replace BKg:=aA.mk (aN BKg.out)
   replace HB:=aA.mk (aH HB.out)
   replace HT:=aA.mk (show _ ≤ wr.drew.heap.size from HT.out)
   replace HKP:=aA.mk (show Kept wi wr.drew (fun k_=>a ≤ k_) from HKP.out)
   refine start_ (n:=22) (S:=fun w'=>w'.cell? ⟨g,0,none⟩ = some (.slice A2 xs2.length c2) ∧ w'.cell? ⟨g,1,none⟩ = some (.slice (some ad3) l0_1.length c0_1) ∧ w'.cell? ⟨g,2,none⟩ = some (.int .i64 f1) ∧ w'.cell? ⟨g,3,none⟩ = some (.bool b1) ∧ w'.cell? (ad3.add (x2.toNat * 2)) = some (.int .i64 (rdW l0_1 x2).f0) ∧ w'.cell? ⟨(ad3.add (x2.toNat * 2)).block,(ad3.add (x2.toNat * 2)).off + 1,none⟩ = some (.slice Ae3 ((rdW l0_1 x2).f1).length ce3)) (ds:=[21]) #[F0,F0,F0,F0,F0,F0,F0,F0,F0,F0,F0,F0,F0,F0,F0,F0,F0,F0,F0,F0,F0,F0] tG rfl rfl ⟨(aD BKg.out 0).trans rfl,(aD BKg.out 1).trans rfl,(aD BKg.out 2).trans rfl,(aD BKg.out 3).trans rfl,hx3_0,hx3_1⟩ (fun hHeld=>?_)
   generalize wr.drew = w4 at HF1 HN1 HS2 HF3 BKg HB HT HKP hHeld ⊢
   refine bT (i:=0) (N:=some 21) (v:=?_) (a':=?_) #[T1,F0,F0,F0,F0,F0,F0,F0,F0,F0,F0,F0,F0,F0,F0,F0,F0,F0,F0,F0,F0,F0] rfl rfl tG (fun _ _ _ h=>h) (Or.inl ⟨vr,?_⟩) ?_ ?_
   rotate_left
   ·intro w'
    go_simp
    with_reducible rfl
   rotate_left
   ·simp only [Act.put,lA,lB,lC,bE,bG]
    rfl
   refine bT (i:=1) (N:=some 22) (v:=?_) (a':=?_) #[T1,T1,F0,F0,F0,F0,F0,F0,F0,F0,F0,F0,F0,F0,F0,F0,F0,F0,F0,F0,F0,F0] rfl rfl tG (fun _ _ _ h=>h) (Or.inl ⟨vr,?_⟩) ?_ ?_
   rotate_left
   ·intro w'
    go_simp
    with_reducible rfl
   rotate_left
   ·simp only [Act.put,lA,lB,lC,bE,bG]
    rfl
   refine bT (i:=2) (N:=some 23) (v:=?_) (a':=?_) #[T1,T1,T1,F0,F0,F0,F0,F0,F0,F0,F0,F0,F0,F0,F0,F0,F0,F0,F0,F0,F0,F0] rfl rfl tG (fun _ _ _ h=>h) (Or.inl ⟨vr,?_⟩) ?_ ?_
   rotate_left
   ·intro w'
    go_simp
    with_reducible rfl
   rotate_left
   ·simp only [Act.put,lA,lB,lC,bE,bG]
    rfl
   refine take_ (i:=3) (N:=some 24) (v:=?_) (a':=?_) #[T1,T1,T1,T1,F0,F0,F0,F0,F0,F0,F0,F0,F0,F0,F0,F0,F0,F0,F0,F0,F0,F0] rfl rfl tG (fun _ _ _ h=>h) (Or.inl ⟨vr,?_⟩) hHeld ?_ ?_
   rotate_left
   ·rintro w' ⟨s0,s1,s2,s3,s4,s5⟩
    go_simp
    with_reducible rfl
   rotate_left
   ·simp only [Act.put,lA,lB,lC,bE,bG]
    rfl
   refine bT (i:=4) (N:=some 25) (v:=?_) (a':=?_) #[T1,T1,T1,T1,T1,F0,F0,F0,F0,F0,F0,F0,F0,F0,F0,F0,F0,F0,F0,F0,F0,F0] rfl rfl tG (fun _ _ _ h=>h) (Or.inl ⟨vr,?_⟩) ?_ ?_
   rotate_left
   ·intro w'
    go_simp
    with_reducible rfl
   rotate_left
   ·simp only [Act.put,lA,lB,lC,bE,bG]
    rfl
   refine bT (i:=5) (N:=some 26) (v:=?_) (a':=?_) #[T1,T1,T1,T1,T1,T1,F0,F0,F0,F0,F0,F0,F0,F0,F0,F0,F0,F0,F0,F0,F0,F0] rfl rfl tG (fun _ _ _ h=>h) (Or.inl ⟨vr,?_⟩) ?_ ?_
   rotate_left
   ·intro w'
    go_simp
    with_reducible rfl
   rotate_left
   ·simp only [Act.put,lA,lB,lC,bE,bG]
    rfl
   refine bT (i:=6) (N:=some 27) (v:=?_) (a':=?_) #[T1,T1,T1,T1,T1,T1,T1,F0,F0,F0,F0,F0,F0,F0,F0,F0,F0,F0,F0,F0,F0,F0] rfl rfl tG (fun _ _ _ h=>h) (Or.inl ⟨vr,?_⟩) ?_ ?_
   rotate_left
   ·intro w'
    go_simp
    with_reducible rfl
   rotate_left
   ·simp only [Act.put,lA,lB,lC,bE,bG]
    rfl
   refine take_ (i:=7) (N:=some 28) (v:=?_) (a':=?_) #[T1,T1,T1,T1,T1,T1,T1,T1,F0,F0,F0,F0,F0,F0,F0,F0,F0,F0,F0,F0,F0,F0] rfl rfl tG (fun _ _ _ h=>h) (Or.inl ⟨vr,?_⟩) hHeld ?_ ?_
   rotate_left
   ·rintro w' ⟨s0,s1,s2,s3,s4,s5⟩
    go_simp
    with_reducible rfl
   rotate_left
   ·simp only [Act.put,lA,lB,lC,bE,bG]
    rfl
   refine bT (i:=8) (N:=some 29) (v:=?_) (a':=?_) #[T1,T1,T1,T1,T1,T1,T1,T1,T1,F0,F0,F0,F0,F0,F0,F0,F0,F0,F0,F0,F0,F0] rfl rfl tG (fun _ _ _ h=>h) (Or.inl ⟨vr,?_⟩) ?_ ?_
   rotate_left
   ·intro w'
    go_simp
    with_reducible rfl
   rotate_left
   ·simp only [Act.put,lA,lB,lC,bE,bG]
    rfl
   refine bT (i:=9) (N:=some 30) (v:=?_) (a':=?_) #[T1,T1,T1,T1,T1,T1,T1,T1,T1,T1,F0,F0,F0,F0,F0,F0,F0,F0,F0,F0,F0,F0] rfl rfl tG (fun _ _ _ h=>h) (Or.inl ⟨vr,?_⟩) ?_ ?_
   rotate_left
   ·intro w'
    go_simp
    with_reducible rfl
   rotate_left
   ·simp only [Act.put,lA,lB,lC,bE,bG]
    rfl
   refine bT (i:=10) (N:=some 31) (v:=?_) (a':=?_) #[T1,T1,T1,T1,T1,T1,T1,T1,T1,T1,T1,F0,F0,F0,F0,F0,F0,F0,F0,F0,F0,F0] rfl rfl tG (fun _ _ _ h=>h) (Or.inl ⟨vr,?_⟩) ?_ ?_
   rotate_left
   ·intro w'
    go_simp
    with_reducible rfl
   rotate_left
   ·simp only [Act.put,lA,lB,lC,bE,bG]
    rfl
   refine take_ (i:=11) (N:=some 32) (v:=?_) (a':=?_) #[T1,T1,T1,T1,T1,T1,T1,T1,T1,T1,T1,T1,F0,F0,F0,F0,F0,F0,F0,F0,F0,F0] rfl rfl tG (fun _ _ _ h=>h) (Or.inl ⟨vr,?_⟩) hHeld ?_ ?_
   rotate_left
   ·rintro w' ⟨s0,s1,s2,s3,s4,s5⟩
    go_simp
    with_reducible rfl
   rotate_left
   ·simp only [Act.put,lA,lB,lC,bE,bG]
    rfl
   refine bT (i:=12) (N:=some 33) (v:=?_) (a':=?_) #[T1,T1,T1,T1,T1,T1,T1,T1,T1,T1,T1,T1,T1,F0,F0,F0,F0,F0,F0,F0,F0,F0] rfl rfl tG (fun _ _ _ h=>h) (Or.inl ⟨vr,?_⟩) ?_ ?_
   rotate_left
   ·intro w'
    go_simp
    with_reducible rfl
   rotate_left
   ·simp only [Act.put,lA,lB,lC,bE,bG]
    rfl
   refine bT (i:=13) (N:=some 34) (v:=?_) (a':=?_) #[T1,T1,T1,T1,T1,T1,T1,T1,T1,T1,T1,T1,T1,T1,F0,F0,F0,F0,F0,F0,F0,F0] rfl rfl tG (fun _ _ _ h=>h) (Or.inl ⟨vr,?_⟩) ?_ ?_
   rotate_left
   ·intro w'
    go_simp
    with_reducible rfl
   rotate_left
   ·simp only [Act.put,lA,lB,lC,bE,bG]
    rfl
   refine bT (i:=14) (N:=some 35) (v:=?_) (a':=?_) #[T1,T1,T1,T1,T1,T1,T1,T1,T1,T1,T1,T1,T1,T1,T1,F0,F0,F0,F0,F0,F0,F0] rfl rfl tG (fun _ _ _ h=>h) (Or.inl ⟨vr,?_⟩) ?_ ?_
   rotate_left
   ·intro w'
    go_simp
    with_reducible rfl
   rotate_left
   ·simp only [Act.put,lA,lB,lC,bE,bG]
    rfl
   refine take_ (i:=15) (N:=some 36) (v:=?_) (a':=?_) #[T1,T1,T1,T1,T1,T1,T1,T1,T1,T1,T1,T1,T1,T1,T1,T1,F0,F0,F0,F0,F0,F0] rfl rfl tG (fun _ _ _ h=>h) (Or.inl ⟨vr,?_⟩) hHeld ?_ ?_
   rotate_left
   ·rintro w' ⟨s0,s1,s2,s3,s4,s5⟩
    go_simp
    with_reducible rfl
   rotate_left
   ·simp only [Act.put,lA,lB,lC,bE,bG]
    rfl
   refine bT (i:=16) (N:=some 37) (v:=?_) (a':=?_) #[T1,T1,T1,T1,T1,T1,T1,T1,T1,T1,T1,T1,T1,T1,T1,T1,T1,F0,F0,F0,F0,F0] rfl rfl tG (fun _ _ _ h=>h) (Or.inl ⟨vr,?_⟩) ?_ ?_
   rotate_left
   ·intro w'
    go_simp
    with_reducible rfl
   rotate_left
   ·simp only [Act.put,lA,lB,lC,bE,bG]
    rfl
   refine bT (i:=17) (N:=some 38) (v:=?_) (a':=?_) #[T1,T1,T1,T1,T1,T1,T1,T1,T1,T1,T1,T1,T1,T1,T1,T1,T1,T1,F0,F0,F0,F0] rfl rfl tG (fun _ _ _ h=>h) (Or.inl ⟨vr,?_⟩) ?_ ?_
   rotate_left
   ·intro w'
    go_simp
    with_reducible rfl
   rotate_left
   ·simp only [Act.put,lA,lB,lC,bE,bG]
    rfl
   refine bT (i:=18) (N:=some 39) (v:=?_) (a':=?_) #[T1,T1,T1,T1,T1,T1,T1,T1,T1,T1,T1,T1,T1,T1,T1,T1,T1,T1,T1,F0,F0,F0] rfl rfl tG (fun _ _ _ h=>h) (Or.inl ⟨vr,?_⟩) ?_ ?_
   rotate_left
   ·intro w'
    go_simp
    with_reducible rfl
   rotate_left
   ·simp only [Act.put,lA,lB,lC,bE,bG]
    rfl
   refine take_ (i:=19) (N:=some 40) (v:=?_) (a':=?_) #[T1,T1,T1,T1,T1,T1,T1,T1,T1,T1,T1,T1,T1,T1,T1,T1,T1,T1,T1,T1,F0,F0] rfl rfl tG (fun _ _ _ h=>h) (Or.inl ⟨vr,?_⟩) hHeld ?_ ?_
   rotate_left
   ·rintro w' ⟨s0,s1,s2,s3,s4,s5⟩
    go_simp
    with_reducible rfl
   rotate_left
   ·simp only [Act.put,lA,lB,lC,bE,bG]
    rfl
   have pI5:0 ≤ ((rdW l0_1 x2).f0):=(hin _ HI2.out (by have:=HK2.out;omega)).1
   have qI5:((rdW l0_1 x2).f0) < ((xs2).length:Int):=(by have h_:=(hin _ HI2.out (by have:=HK2.out;omega)).2;rw [HX2.out,flushSecs_length];exact h_)
   obtain ⟨go5,co5,eo_,gb_,gl_,GG_⟩:=Kd.N_form HS2.out tZ
   injection eo_ with ea_ en_ ec_
   subst ea_
   subst ec_
   clear en_ GG_ gl_
   have GO5:=aA.mk ((HS2.out).1 go5 rfl)
   have GB5:=aA.mk gb_
   clear gb_
   have GN5:=aA.mk (HGN.out go5 rfl)
   obtain ⟨ce_,hcl_,hM_,hcc_,hfr_⟩:=Kd.N_elem HS2.out [] ((rdW l0_1 x2).f0) pI5 qI5
   obtain ⟨ua_,uc_,rfl,_,_⟩:=Kd.FK_slice_open hM_
   have hx5:=hcc_ 0 _ rfl
   have hf5:=hfr_ 0
   (try simp only [show (Kd.slice 5 (Kd.int .u8)).sz = 1 from rfl,Nat.mul_one,Nat.add_zero] at hx5)
   (try simp only [show (Kd.slice 5 (Kd.int .u8)).sz = 1 from rfl,Nat.mul_one,Nat.add_zero] at hf5)
   clear hcl_ hcc_ hfr_ hM_
   have PI5:=aA.mk pI5
   have QI5:=aA.mk qI5
   replace pI5:=eq_true pI5
   replace qI5:=eq_true qI5
   refine bT (i:=20) (N:=some 41) (v:=?_) (a':=?_) #[T1,T1,T1,T1,T1,T1,T1,T1,T1,T1,T1,T1,T1,T1,T1,T1,T1,T1,T1,T1,T1,F0] rfl rfl tG (fun _ _ _ h=>h) (Or.inl ⟨vr,?_⟩) ?_ ?_
   rotate_left
   ·intro w'
    go_simp
    with_reducible rfl
   rotate_left
   ·simp only [Act.put,lA,lB,lC,bE,bG]
    rfl
   refine last_ (i:=21) (N:=none) #[T1,T1,T1,T1,T1,T1,T1,T1,T1,T1,T1,T1,T1,T1,T1,T1,T1,T1,T1,T1,T1,T1] rfl rfl tG tf (fun K hK=>?_)
   obtain ⟨ce_,hcl_,hM_,hcc_,hfr_⟩:=Kd.N_elem HS2.out [] ((rdW l0_1 x2).f0) PI5.out QI5.out
   obtain ⟨ua_,uc_,rfl,_,_⟩:=Kd.FK_slice_open hM_
   have hp_:=(Kd.N_seg HS2.out ((rdW l0_1 x2).f0) PI5.out QI5.out (seg:=[.slice Ae3 ((rdW l0_1 x2).f1).length ce3]) (j:=0) hcl_ hcc_ (show 1 ≤ 1 by decide) (x':=((rdW l0_1 x2).f1)) (Kd.FK_slice_mk HC3.out (Kd.F_mono HF3.out (fun k_ hk_=>⟨by (try simp only [In2,Up,In,Ex,Exb] at hk_ ⊢);omega,by have g_:=GN5.out;(try simp only [In2,Up,In,Ex,Exb] at hk_);omega⟩))) (fun _ hk=>hk)).1
   (try simp only [show (Kd.slice 5 (Kd.int .u8)).sz = 1 from rfl,Nat.mul_one,Nat.add_zero] at hp_)
   have HP_:=aA.mk (show Kd.N (Kd.slice 5 (Kd.int .u8)) 37 (w4.setCell ⟨go5,((rdW l0_1 x2).f0).toNat,none⟩ (.slice Ae3 ((rdW l0_1 x2).f1).length ce3)) w.heap.size (Exb a g g top) (.slice (some ⟨go5,0,none⟩) xs2.length c2) (xs2.set ((rdW l0_1 x2).f0).toNat ((rdW l0_1 x2).f1)) from hp_)
   clear hp_ hfr_ hcc_ hcl_ hM_
   refine skip_ (w1:=?_) wN rfl ?_ ?_
   rotate_left
   ·go_simp
    rfl
   refine hK.out _ _ ?_
   clear hK K
   refine done_ tG ?_
   obtain ⟨w6,hw_⟩:∃ z_,z_ = (w4.setCell ⟨go5,((rdW l0_1 x2).f0).toNat,none⟩ (.slice Ae3 ((rdW l0_1 x2).f1).length ce3)):=⟨_,rfl⟩
   (try rw [← hw_])
   have hs0_:=HP_.out
   clear HP_
   rw [← hw_] at hs0_
   obtain ⟨ys6,ey_⟩:∃ y_,y_ = xs2.set ((rdW l0_1 x2).f0).toNat ((rdW l0_1 x2).f1):=⟨_,rfl⟩
   rw [← ey_] at hs0_
   have hle_:ys6.length = (xs2).length:=by rw [ey_,List.length_set]
   have HY6:=aA.mk ey_
   clear ey_
   rw [← hle_] at hs0_
   have hkp:Kept w4 w6 (fun k_=>k_ = go5):=(by rw [hw_];exact Kept.setCell (Kept.refl w4 (fun k_=>k_ = go5)) (.inl rfl) (.slice Ae3 ((rdW l0_1 x2).f1).length ce3))
   have hbn_:Below w.heap.size w w6:=(by rw [hw_];exact aC HB.out (Nat.le_trans tq GB5.out))
   have hgo_:go5 = gS ∧ a ≤ go5:=⟨GN5.out,by have g_:=GO5.out;(try simp only [In2,Up,In,Ex,Exb] at g_);omega⟩
   replace HORD:=aA.mk (And.intro HORD.out hgo_)
   replace HF1:=aA.mk (Kd.aU HF1.out hkp tA)
   replace HN1:=aA.mk (Kd.N_kept HN1.out hkp tA)
   replace HKP:=aA.mk (HKP.out.then_ hkp ta)
   replace BKg:=aA.mk (aY BKg.out hkp tB)
   replace HB:=aA.mk (hbn_)
   replace HT:=aA.mk (Nat.le_trans HT.out hkp.1)
   replace HS6:=aA.mk (hs0_)
   rw [← hle_] at BKg
   clear hle_ hs0_ hbn_ hkp hw_ hgo_
   have:=bs4 BKg.out
   try go_wp2
   go_roundg k1
   case measure=>omega
   case rel=>exact ⟨i2 + 1,_,_,rfl,⟨show _ = ((i2 + 1:Nat):Int) by have:=HI2.out;have hm_:=hl1;have:=HK2.out;first|(rw [w64 tZ tZ];omega)|omega⟩,⟨by have:=HK2.out;omega⟩,⟨Nat.le_trans tq HT.out⟩,⟨by rw [show flushSecs l0_0 l0_1 (i2 + 1) = ys6 from (by rw [HY6.out,HX2.out];exact flush_t HI2.out)];exact HS6.out⟩,⟨by intro k_ hk_;exact HGN.out k_ hk_⟩,HF1,HN1,HKP,BKg,HB⟩
 have hi0_:i2 = l0_1.length:=(by have:=HK2.out;omega)
 have hd_:decide (x2 < (l0_1.length:Int)) = false:=decide_eq_false (by have:=HI2.out;omega)
 have eall_:xs2 = (flushSecs l0_0 l0_1 l0_1.length):=(by rw [HX2.out,hi0_])
 rw [eall_] at HS2 BKg HGN
 have:=bs4 BKg.out
 go_wp2_with (first|((with_reducible refine bC (N:=43) rfl ?_);refine Kd.N_lit k50 _ 50 ?hg (N':=43) ?hd (xs:=([]:List (S50))) (inner:=[]) (ok:=fun k_=>top ≤ k_) (okp:=fun _=>False) ?hr ?hp (fun _ hk=>hk.elim) HT.out (Below.refl _ _) (Nat.le_refl _) vN ?_;(case hd=>rfl);(case hg=>rfl);(case hr=>exact tE);(case hp=>exact (Reps.none _ _));intro v7 w7 ho_ hb hg_ hat_;obtain ⟨gn7,hat_,hle_⟩:=hat_;have hgn_:∀ k_,v7.ownBlock = some k_ → k_ = gn7:=fun k_ hk_=>(by rw [hat_] at hk_;injection hk_ with hk_;exact hk_.symm);have hlt_:=Kd.N_lt ho_ gn7 hat_;obtain ⟨ys7,ey_⟩:∃ y_:List (S50),y_ = []:=⟨_,rfl⟩;rw [← ey_] at ho_;have HY7:=aA.mk ey_;clear ey_;obtain ⟨A7,c7,ev_⟩:=Kd.cB ho_;subst ev_;obtain ⟨hi7,e2_⟩:∃ n_,n_ = w7.heap.size:=⟨_,rfl⟩;have ol_:top ≤ hi7:=(by rw [e2_];exact Nat.le_trans HT.out hb.size);rw [← e2_] at hlt_;have hle2_:top ≤ gn7:=Nat.le_trans HT.out hle_;have ho2_:=Kd.N_lower ho_ (aX HB.out);replace HF1:=nF HF1;replace HN1:=aA.mk (Kd.N_below HN1.out hb);replace HS2:=aA.mk (Kd.N_below HS2.out hb);replace HKP:=aA.mk (HKP.out.then_ (Kept.of_below hb (fun _=>False)) (fun _ h_=>h_.elim));replace BKg:=nB BKg;replace HB:=aA.mk (aT HB.out hb);replace HORD:=aA.mk (And.intro HORD.out (And.intro ol_ (And.intro hle2_ hlt_)));replace HT:=aA.mk (Nat.le_of_eq e2_);replace HS7:=aA.mk (ho2_);replace HG7:=aA.mk (hgn_);clear hb ho_ ho2_ hg_ hat_ hle_ hle2_ hlt_ hgn_ ol_ e2_;have:=bs4 BKg.out)|((with_reducible refine bN (t:=23) (p:=45) rfl ?_);refine bL (t:=23) (p:=45) (v:=?vo_w8) (w1:=(w7.setCell ⟨g,1,none⟩ (.slice A7 ys7.length c7))) ?hg ?ho ?hn ?hr ?_;(case ho=>rfl);(case hg=>rfl);(case hn=>rfl);(case hr=>exact tE);intro w8 hw_;have hkp:Kept w7 w8 (fun k_=>k_ = g):=(by rw [hw_];exact Kept.setCell (Kept.refl w7 (fun k_=>k_ = g)) (.inl rfl) (.slice A7 ys7.length c7));have hge_:w.heap.size ≤ g:=tL;have hbn_:Below w.heap.size w w8:=vu;have hbk_:w8.heap[g]? = some (.cells #[.slice A2 ((flushSecs l0_0 l0_1 l0_1.length)).length c2,.slice A7 ys7.length c7,.int .i64 f1,.bool b1] 25 (0,0)):=(by rw [hw_];exact aQ (cs:=#[.slice A2 ((flushSecs l0_0 l0_1 l0_1.length)).length c2,.slice A0_1 l0_1.length c0_1,.int .i64 f1,.bool b1]) (cs':=#[.slice A2 ((flushSecs l0_0 l0_1 l0_1.length)).length c2,.slice A7 ys7.length c7,.int .i64 f1,.bool b1]) (BKg.out) 1 _ rfl);have hsz_:hi7 ≤ w8.heap.size:=Nat.le_trans HT.out hkp.1;replace HF1:=aA.mk (Kd.aU HF1.out hkp tA);replace HN1:=aA.mk (Kd.N_kept HN1.out hkp tA);replace HS2:=aA.mk (Kd.N_kept HS2.out hkp tA);replace HS7:=aA.mk (Kd.N_kept HS7.out hkp tA);replace HKP:=aA.mk (HKP.out.then_ hkp ta);replace HB:=aA.mk (hbn_);replace BKg:=aA.mk (hbk_);replace HT:=aA.mk (hsz_);clear hw_ hkp hge_ hbn_ hbk_ hsz_;have:=bs4 BKg.out))
 first|go_end0|refine bodyPost_ret (fn:=Try.f60) (results_none rfl _ _ _) rfl ?_
 exact ⟨rfl,by unfold FlPost;exact ⟨_,_,gn7,BKg.out,HG7.out,tH,(fun k_ hk_=>HGN.out k_ hk_),Kd.aV HS2.out tR,(by rw [← HY7.out];exact Kd.aV HS7.out tR),HB.out,HKP.out⟩⟩
theorem spec_l2FlushS.calls (A0_0:Option Addr) (c0_0:Nat) (l0_0:List (List Int)) (A0_1:Option Addr) (c0_1:Nat) (l0_1:List (S50)) (a0_2:Int) (a0_3:Bool) (w wi:World) (g:Nat) (hB:Below w.heap.size w wi) (hbk:wi.heap[g]? = some (.cells #[.slice A0_0 l0_0.length c0_0,.slice A0_1 l0_1.length c0_1,.int .i64 a0_2,.bool a0_3] 25 (0,0))) (a gS gC:Nat) (hwa:w.heap.size ≤ a ∧ 0 < a) (hag:a ≤ g) (hSt:gS < wi.heap.size ∧ g ≠ gS) (hCt:gC < wi.heap.size ∧ g ≠ gC) (hgC:∀ k_,(Value.slice A0_1 l0_1.length c0_1).ownBlock = some k_ → k_ = gC) (hgS:∀ k_,(Value.slice A0_0 l0_0.length c0_0).ownBlock = some k_ → k_ = gS) (hn0:Kd.N (Kd.slice 5 (Kd.int .u8)) 37 wi w.heap.size (Ex a gC g) (.slice A0_0 l0_0.length c0_0) l0_0) (hn1:Kd.N k50 50 wi w.heap.size (Ex a gS g) (.slice A0_1 l0_1.length c0_1) l0_1) (hl1:l0_1.length ≤ 4194304) (hin:∀ {x:Int} (i:Nat),x = (i:Int) → i < l0_1.length → 0 ≤ (rdW l0_1 x).f0 ∧ (rdW l0_1 x).f0 < (l0_0.length:Int)) :
  Calls Try.prog 60 #[.pointer (some ⟨g,0,none⟩)] wi fun e w'=>e = .returned (.tuple #[]) ∧ FlPost w wi w' a g gS (flushed l0_0 l0_1 a0_2 a0_3).1 (flushed l0_0 l0_1 a0_2 a0_3).2.1 (flushed l0_0 l0_1 a0_2 a0_3).2.2.1 (flushed l0_0 l0_1 a0_2 a0_3).2.2.2:=by
 unfold flushed
 cases a0_3 with
 | true=>exact walk_l2Flush1 _ _ _ _ _ _ _ w wi g hB hbk a gS gC hwa hag hSt hCt hgC hgS hn0 hn1
 | false =>
  rw [if_neg tf]
  obtain ⟨⟨f1,b1,o1⟩,hbu⟩:∃ z,burnF a0_2 false = z:=⟨_,rfl⟩
  rw [hbu]
  cases o1 with
  | true=>exact walk_l2Flush3 _ _ _ _ _ _ _ w wi g hB hbk a gS gC hwa hag hSt hCt hgC hgS hn0 hn1 hl1 hin _ _ hbu
  | false=>exact walk_l2Flush2 _ _ _ _ _ _ _ w wi g hB hbk a gS gC hwa hag hSt hCt hgC hgS hn0 hn1 _ _ hbu
end Go.Proofs.Ytilhcaofpfeioaa.Law

namespace Go.Proofs.Ytilhcaofpfeioaa.Law
open Go.RowKit Go.Proofs.Ytilhcaofpfeioaa.PFnDevsBent Go.Proofs.Ytilhcaofpfeioaa.Core Go.Proofs.YtilhcaofpfeioaaW.PrintWords Go.Proofs.YtilhcaofpfeioaaW.PrintLast Go.Proofs.YtilhcaofpfeioaaW.PrintMore Go.Proofs.Ytilhcaofpfeioaa.Pure
set_option linter.unusedSimpArgs false
set_option linter.unusedVariables false
def flOk (s:List (List Int)) (c:List (S50)):Bool:=decide (c.length ≤ 4194304) && allFrom (fun i=>decide (0 ≤ (c.getD i z50).f0 ∧ (c.getD i z50).f0 < (s.length:Int))) c.length 0
def spec_l2Draw.l0:Nat → Int → List (List Int) → List (S50) → Int → Bool → List Int → Int → Int → Option (List (List Int) × List (S50) × Int × Bool × Int × Int)
 | 0,_,_,_,_,_,_,_,_=>none
 | k + 1,i,s,c,f,d,x0,x1,x2=>if i > 0 then ((spec_l1Once.f x0 x1 x2 4).bind fun b=>(if b.1 = true then (if flOk s c = true then spec_l2Draw.l0 k (wrap64 (i - 1)) (flushed s c f d).1 (flushed s c f d).2.1 (flushed s c f d).2.2.1 (flushed s c f d).2.2.2 x0 b.2.1 b.2.2 else none) else ((spec_l1Below.f x0 b.2.1 b.2.2 (s.length:Int)).bind fun n=>((spec_l1Below.f x0 n.2.1 n.2.2 4).bind fun q=>((spec_l1Bytes.f k x0 q.2.1 q.2.2 q.1).bind fun y=>(spec_l2Draw.l0 k (wrap64 (i - 1)) s (wrote s c f d n.1 y.1).1 (wrote s c f d n.1 y.1).2.1 (wrote s c f d n.1 y.1).2.2 x0 y.2.1 y.2.2)))))) else some (s,c,f,d,x1,x2)
def spec_l2Draw.g (k:Nat) (x0:List Int) (x1:Int) (x2:Int):Option (List (List Int) × List (S50) × Int × Bool × Int × Int):=(spec_l1Below.f x0 x1 x2 6).bind fun n=>((spec_DevNew.f k (wrap64 (2 + n.1))).bind fun v=>((spec_l1Below.f x0 n.2.1 n.2.2 8).bind fun q=>(spec_l2Draw.l0 k q.1 v.1 v.2.1 v.2.2.1 v.2.2.2 x0 q.2.1 q.2.2)))
theorem flOk_at {s:List (List Int)} {c:List (S50)} {x:Int} (h:flOk s c = true) (i:Nat) (hx:x = (i:Int)) (hi:i < c.length):0 ≤ (rdW c x).f0 ∧ (rdW c x).f0 < (s.length:Int):=by
 subst hx
 unfold flOk at h
 simp only [Bool.and_eq_true,decide_eq_true_eq] at h
 have h2:=allFrom_iff.1 h.2 i (Nat.zero_le i) hi
 simp only [decide_eq_true_eq] at h2
 unfold rdW
 rw [Int.toNat_natCast]
 exact h2
theorem flOk_len {s:List (List Int)} {c:List (S50)} (h:flOk s c = true):c.length ≤ 4194304:=by
 unfold flOk at h
 simp only [Bool.and_eq_true,decide_eq_true_eq] at h
 exact h.1
set_option maxHeartbeats 8000000 in
set_option maxRecDepth 100000 in
theorem spec_l2Draw_calls (k:Nat) (g:Nat) (x0:List Int) (x1:Int) (x2:Int) (r1:List (List Int)) (r2:List (S50)) (r3:Int) (r4:Bool) (r5:Int) (r6:Int) (w wi:World) (hI:IsS85 w wi g x0 x1 x2) (hB:Below w.heap.size w wi) (h:spec_l2Draw.g k x0 x1 x2 = some (r1,r2,r3,r4,r5,r6)) :
  Calls Try.prog 62 #[.pointer (some ⟨g,0,none⟩)] wi fun e w'=>∃ v0_ v1_:Value,e = .returned (.agg #[v0_,v1_,.int .i64 r3,.bool r4]) ∧ Kd.N (Kd.slice 5 (Kd.int .u8)) 37 w' wi.heap.size (fun k_=>(wi.heap.size ≤ k_) ∧ some k_ ≠ (v1_:Value).ownBlock) v0_ r1 ∧ Kd.N k50 50 w' wi.heap.size (fun k_=>(wi.heap.size ≤ k_) ∧ some k_ ≠ (v0_:Value).ownBlock) v1_ r2 ∧ IsS85 w w' g x0 r5 r6 ∧ Below w.heap.size w w' ∧ KeepBut wi w' g none:=by
 have hu25:=Try.underlying25
 have hgl:=IsS85.lt hI
 have hge:=IsS85.ge hI
 obtain ⟨top,et_⟩:∃ n_,n_ = wi.heap.size:=⟨_,rfl⟩
 have HORD:=aA.mk (show (w.heap.size ≤ g ∧ g + 1 ≤ top) ∧ top = wi.heap.size from ⟨⟨hge,by rw [et_];exact hgl⟩,et_⟩)
 have HT:=aA.mk (Nat.le_of_eq et_)
 have HI:=aA.mk hI
 have HB:=aA.mk hB
 have HKP:=aA.mk (Kept.refl wi (fun k_=>k_ = g))
 unfold spec_l2Draw.g at h
 obtain ⟨⟨n1,y1,y2⟩,hA1,h⟩:=lF h
 obtain ⟨⟨s0,c0,f0,d0⟩,hA2,h⟩:=lF h
 obtain ⟨⟨q1,z1,z2⟩,hA3,h⟩:=lF h
 (try dsimp only at hA2 hA3 h)
 have A1:=aA.mk hA1
 have A2:=aA.mk hA2
 have A3:=aA.mk hA3
 have HH:=aA.mk h
 have HTOP:=aA.mk et_
 clear hA1 hA2 hA3 h hI hB hgl hge et_
 go_enter Try.func62,Try.ntmps62
 go_wp2_with (first|((with_reducible refine bC (N:=2) rfl ?_);refine bD ?hg (N:=2) ?hd (cs:=#[.slice none 0 0,.slice none 0 0,.int .i64 0,.bool false]) (t:=25) ?hr ?_;(case hd=>rfl);(case hg=>rfl);(case hr=>exact tE);intro gb1 hg_ w1 hbox hb;have hge_:top ≤ gb1:=tk;have hlt_:gb1 + 1 ≤ w1.heap.size:=bJ hbox;replace HI:=aA.mk (IsS85.below HI.out hb);replace HKP:=aA.mk (HKP.out.then_ (Kept.of_below hb (fun _=>False)) (fun _ h_=>h_.elim));replace HB:=aA.mk (aT HB.out hb);replace BK1:=aA.mk (hbox);replace HORD:=aA.mk (And.intro HORD.out (And.intro hge_ (Nat.le_succ gb1)));replace HT:=aA.mk (hlt_);clear hb hbox hg_ hge_ hlt_;have:=bs4 BK1.out)|((with_reducible refine aW (f:=66) rfl ?_);refine bK (some 6) rfl rfl Try.func66 tG rfl #[.pointer (some ⟨g,0,none⟩),.int .i64 6] rfl tC ?_;(with_reducible refine (spec_l1Below.calls g x0 x1 x2 6 n1 y1 y2 w _ HI.out HB.out A1.out).mono ?_);rintro e_ w2 ⟨rfl,hi_,hbn_,hk_⟩;refine ⟨_,rfl,?_⟩;have hkp:=kept_keep hk_;replace HKP:=aA.mk (HKP.out.then_ hkp ta);replace BK1:=aA.mk (aY BK1.out hkp tB);replace HB:=aA.mk (hbn_);replace HI:=aA.mk (hi_);replace HT:=aA.mk (Nat.le_trans HT.out hkp.1);clear hi_ hbn_ hk_ hkp;have:=bs4 BK1.out)|((with_reducible refine aW (f:=12) rfl ?_);refine bK (some 8) rfl rfl Try.func12 tG rfl #[.int .i64 ((wrap64 (2 + n1)))] rfl tC ?_;(with_reducible refine (spec_DevNew.calls k ((wrap64 (2 + n1))) s0 c0 f0 d0 _ A2.out).mono ?_);rintro e_ w3 ⟨v0_,v1_,rfl,ho0,ho1,hb⟩;refine ⟨_,rfl,?_⟩;obtain ⟨lo3,hi3,el_,eh_,ol_,oh_⟩:=Mem.times HT.out hb;(try rw [← el_] at ho0);obtain ⟨A3_0,c3_0,ev_,hc0_,hf0_,hs0_⟩:=Mem.new_S ho0 eh_;subst ev_;(try rw [← el_] at ho1);obtain ⟨A3_1,c3_1,ev_,hc1_,hf1_,hs1_⟩:=Mem.new_S ho1 eh_;subst ev_;replace HI:=aA.mk (IsS85.below HI.out hb);replace HKP:=aA.mk (HKP.out.then_ (Kept.of_below hb (fun _=>False)) (fun _ h_=>h_.elim));replace BK1:=nB BK1;replace HB:=aA.mk (aT HB.out hb);replace HF3_0:=aA.mk (hf0_);replace HC3_0:=aA.mk (hc0_);replace HS3_0:=aA.mk (hs0_);replace HF3_1:=aA.mk (hf1_);replace HC3_1:=aA.mk (hc1_);replace HS3_1:=aA.mk (hs1_);replace HORD:=aA.mk (And.intro HORD.out (And.intro ol_ oh_));replace HT:=aA.mk (Nat.le_of_eq eh_);clear ol_ oh_ el_ eh_ ho0 hf0_ hc0_ hs0_ ho1 hf1_ hc1_ hs1_;(try clear hb);have:=bs4 BK1.out)|((with_reducible refine bC (N:=3) rfl ?_);refine bD ?hg (N:=3) ?hd (cs:=#[.slice none 0 0,.slice none 0 0,.int .i64 0,.bool false]) (t:=25) ?hr ?_;(case hd=>rfl);(case hg=>rfl);(case hr=>exact tE);intro gb4 hg_ w4 hbox hb;have hge_:hi3 ≤ gb4:=tk;have hlt_:gb4 + 1 ≤ w4.heap.size:=bJ hbox;replace HF3_0:=nF HF3_0;replace HS3_0:=nS HS3_0;replace HF3_1:=nF HF3_1;replace HS3_1:=nS HS3_1;replace HI:=aA.mk (IsS85.below HI.out hb);replace HKP:=aA.mk (HKP.out.then_ (Kept.of_below hb (fun _=>False)) (fun _ h_=>h_.elim));replace BK1:=nB BK1;replace HB:=aA.mk (aT HB.out hb);replace BK4:=aA.mk (hbox);replace HORD:=aA.mk (And.intro HORD.out (And.intro hge_ (Nat.le_succ gb4)));replace HT:=aA.mk (hlt_);clear hb hbox hg_ hge_ hlt_;have:=bs4 BK1.out;have:=bs4 BK4.out)|((with_reducible refine bN (t:=25) (p:=3) rfl ?_);refine bL (t:=25) (p:=3) (v:=?vo_w5) (w1:=((((w4.setCell ⟨gb4,0,none⟩ (.slice A3_0 s0.length c3_0)).setCell ⟨gb4,1,none⟩ (.slice A3_1 c0.length c3_1)).setCell ⟨gb4,2,none⟩ (.int .i64 f0)).setCell ⟨gb4,3,none⟩ (.bool d0))) ?hg ?ho ?hn ?hr ?_;(case ho=>rfl);(case hg=>rfl);(case hn=>rfl);(case hr=>exact tE);intro w5 hw_;have hkp:Kept w4 w5 (fun k_=>k_ = gb4):=(by rw [hw_];exact Kept.setCell (Kept.setCell (Kept.setCell (Kept.setCell (Kept.refl w4 (fun k_=>k_ = gb4)) (.inl rfl) (.slice A3_0 s0.length c3_0)) (.inl rfl) (.slice A3_1 c0.length c3_1)) (.inl rfl) (.int .i64 f0)) (.inl rfl) (.bool d0));have hge_:w.heap.size ≤ gb4:=tL;have hbn_:Below w.heap.size w w5:=tU;have hbk_:w5.heap[gb4]? = some (.cells #[.slice A3_0 s0.length c3_0,.slice A3_1 c0.length c3_1,.int .i64 f0,.bool d0] 25 (0,0)):=(by rw [hw_];exact aQ (cs:=#[.slice A3_0 s0.length c3_0,.slice A3_1 c0.length c3_1,.int .i64 f0,.bool false]) (cs':=#[.slice A3_0 s0.length c3_0,.slice A3_1 c0.length c3_1,.int .i64 f0,.bool d0]) (aQ (cs:=#[.slice A3_0 s0.length c3_0,.slice A3_1 c0.length c3_1,.int .i64 0,.bool false]) (cs':=#[.slice A3_0 s0.length c3_0,.slice A3_1 c0.length c3_1,.int .i64 f0,.bool false]) (aQ (cs:=#[.slice A3_0 s0.length c3_0,.slice none 0 0,.int .i64 0,.bool false]) (cs':=#[.slice A3_0 s0.length c3_0,.slice A3_1 c0.length c3_1,.int .i64 0,.bool false]) (aQ (cs:=#[.slice none 0 0,.slice none 0 0,.int .i64 0,.bool false]) (cs':=#[.slice A3_0 s0.length c3_0,.slice none 0 0,.int .i64 0,.bool false]) (BK4.out) 0 _ rfl) 1 _ rfl) 2 _ rfl) 3 _ rfl);have hsz_:(gb4 + 1) ≤ w5.heap.size:=Nat.le_trans HT.out hkp.1;replace HF3_0:=aA.mk (Kd.aU HF3_0.out hkp tA);replace HS3_0:=aA.mk (Kd.bP HS3_0.out hkp tA);replace HF3_1:=aA.mk (Kd.aU HF3_1.out hkp tA);replace HS3_1:=aA.mk (Kd.bP HS3_1.out hkp tA);replace HI:=aA.mk (IsS85.kept HI.out hkp tB);replace HKP:=aA.mk (HKP.out.then_ hkp ta);replace BK1:=aA.mk (aY BK1.out hkp tB);replace HB:=aA.mk (hbn_);replace BK4:=aA.mk (hbk_);replace HT:=aA.mk (hsz_);clear hw_ hkp hge_ hbn_ hbk_ hsz_;have:=bs4 BK1.out;have:=bs4 BK4.out)|((with_reducible refine aW (f:=66) rfl ?_);refine bK (some 10) rfl rfl Try.func66 tG rfl #[.pointer (some ⟨g,0,none⟩),.int .i64 8] rfl tC ?_;(with_reducible refine (spec_l1Below.calls g x0 y1 y2 8 q1 z1 z2 w _ HI.out HB.out A3.out).mono ?_);rintro e_ w6 ⟨rfl,hi_,hbn_,hk_⟩;refine ⟨_,rfl,?_⟩;have hkp:=kept_keep hk_;replace HF3_0:=aA.mk (Kd.aU HF3_0.out hkp tA);replace HS3_0:=aA.mk (Kd.bP HS3_0.out hkp tA);replace HF3_1:=aA.mk (Kd.aU HF3_1.out hkp tA);replace HS3_1:=aA.mk (Kd.bP HS3_1.out hkp tA);replace HKP:=aA.mk (HKP.out.then_ hkp ta);replace BK1:=aA.mk (aY BK1.out hkp tB);replace BK4:=aA.mk (aY BK4.out hkp tB);replace HB:=aA.mk (hbn_);replace HI:=aA.mk (hi_);replace HT:=aA.mk (Nat.le_trans HT.out hkp.1);clear hi_ hbn_ hk_ hkp;have:=bs4 BK1.out;have:=bs4 BK4.out))
 obtain ⟨gS_,hSl_,hSe_,hS4_⟩:=own_num (.slice A3_0 s0.length c3_0) w6.heap.size tH (Kd.S_lt HS3_0.out)
 obtain ⟨gC_,hCl_,hCe_,hC4_⟩:=own_num (.slice A3_1 c0.length c3_1) w6.heap.size tH (Kd.S_lt HS3_1.out)
 have hn0_:=Kd.aV (ok':=Ex lo3 gC_ gb4) (Kd.R_N (Kd.S_R (Kd.S_apart' (Kd.bZ HS3_0.out tq:Kd.S (Kd.slice 5 (Kd.int .u8)) 37 w6 w.heap.size (In lo3 hi3) (.slice A3_0 s0.length c3_0) s0) (Kd.S_typed HS3_1.out) tf))) (fun k_ hk_=>⟨hk_.1.1,ex_of hC4_ hCe_ hk_.2 AD,AK⟩)
 have hn1_:=Kd.aV (ok':=Ex lo3 gS_ gb4) (Kd.R_N (Kd.S_R (Kd.S_apart' (Kd.bZ HS3_1.out tq:Kd.S k50 50 w6 w.heap.size (In lo3 hi3) (.slice A3_1 c0.length c3_1) c0) (Kd.S_typed HS3_0.out) tf))) (fun k_ hk_=>⟨hk_.1.1,ex_of hS4_ hSe_ hk_.2 AD,AK⟩)
 have hgS_:=ex_of hS4_ hSe_ (Kd.S_ne HS3_0.out BK4.out tf) tH
 have hgC_:=ex_of hC4_ hCe_ (Kd.S_ne HS3_1.out BK4.out tf) tH
 go_loopg [4] k (fun kq v4 w'=>∃ (i:Int) (s:List (List Int)) (c:List (S50)) (f:Int) (d:Bool) (p1 p2:Int) (u0 u1:Value) (gS gC:Nat),v4 = .int .i64 i ∧ aA (spec_l2Draw.l0 kq i s c f d x0 p1 p2 = some (r1,r2,r3,r4,r5,r6)) ∧ aA ((gb4 + 1) ≤ w'.heap.size) ∧ aA ((gS < w'.heap.size ∧ gb4 ≠ gS) ∧ gC < w'.heap.size ∧ gb4 ≠ gC) ∧ aA (∀ k_,u0.ownBlock = some k_ → k_ = gS) ∧ aA (∀ k_,u1.ownBlock = some k_ → k_ = gC) ∧ aA (Kd.N (Kd.slice 5 (Kd.int .u8)) 37 w' w.heap.size (Ex lo3 gC gb4) u0 s) ∧ aA (Kd.N k50 50 w' w.heap.size (Ex lo3 gS gb4) u1 c) ∧ aA (IsS85 w w' g x0 p1 p2) ∧ aA (w'.heap[gb1]? = some (.cells #[.slice none 0 0,.slice none 0 0,.int .i64 0,.bool false] 25 (0,0))) ∧ aA (w'.heap[gb4]? = some (.cells #[u0,u1,.int .i64 f,.bool d] 25 (0,0))) ∧ aA (Below w.heap.size w w') ∧ aA (Kept wi w' (fun k_=>k_ = g)) ∧ aA (kq ≤ k))
 case atStart=>exact ⟨q1,s0,c0,f0,d0,z1,z2,_,_,gS_,gC_,rfl,HH,HT,⟨⟨hSl_,hgS_⟩,hCl_,hgC_⟩,⟨hSe_⟩,⟨hCe_⟩,⟨hn0_⟩,⟨hn1_⟩,HI,BK1,BK4,HB,HKP,⟨Nat.le_refl _⟩⟩
 clear HH HT HI HB HKP BK1 BK4 hSl_ hSe_ hS4_ hCl_ hCe_ hC4_ hn0_ hn1_ hgS_ hgC_ HS3_0 HF3_0 HS3_1 HF3_1
 obtain ⟨i,s,c,f,d,p1,p2,u0,u1,gS,gC,rfl,HH,HT,HGG,HGS,HGC,HN0,HN1,HI,BK1,BK4,HB,HKP,HKK⟩:=hrel
 obtain ⟨A0,c0_0,ev_⟩:=Kd.cB HN0.out
 subst ev_
 obtain ⟨A1_,c0_1,ev_⟩:=Kd.cB HN1.out
 subst ev_
 obtain ⟨top2,e2_⟩:∃ n_,n_ = wr.heap.size:=⟨_,rfl⟩
 have n0_:=aA.mk (show _ ∧ (gb4 + 1) ≤ top2 ∧ (gS < top2 ∧ gb4 ≠ gS) ∧ gC < top2 ∧ gb4 ≠ gC from ⟨HORD.out,by rw [e2_];exact HT.out,by rw [e2_];exact HGG.out.1,by rw [e2_];exact HGG.out.2⟩)
 have n1_:=aA.mk (Nat.le_of_eq e2_)
 clear HORD HT HGG
 have HORD:=n0_
 have HT:=n1_
 clear n0_ n1_ e2_
 rcases gk with _|k1
 ·exact absurd HH.out (by simp [spec_l2Draw.l0])
 have h:=HH.out
 simp only [spec_l2Draw.l0] at h
 by_cases hi:i > 0
 rotate_left
 ·rw [if_neg hi] at h
  simp only [Option.some.injEq,Prod.mk.injEq] at h
  obtain ⟨rfl,rfl,rfl,rfl,rfl,rfl⟩:=h
  have hd_:decide (0 < i) = false:=decide_eq_false hi
  clear hi HH
  have:=bs4 BK1.out
  have:=bs4 BK4.out
  go_wp2_with (first|((with_reducible refine bN (t:=25) (p:=2) rfl ?_);refine bL (t:=25) (p:=2) (v:=?vo_w7) (w1:=((((wr.setCell ⟨gb1,0,none⟩ (.slice A0 s.length c0_0)).setCell ⟨gb1,1,none⟩ (.slice A1_ c.length c0_1)).setCell ⟨gb1,2,none⟩ (.int .i64 f)).setCell ⟨gb1,3,none⟩ (.bool d))) ?hg ?ho ?hn ?hr ?_;(case ho=>rfl);(case hg=>rfl);(case hn=>rfl);(case hr=>exact tE);intro w7 hw_;have hkp:Kept wr w7 (fun k_=>k_ = gb1):=(by rw [hw_];exact Kept.setCell (Kept.setCell (Kept.setCell (Kept.setCell (Kept.refl wr (fun k_=>k_ = gb1)) (.inl rfl) (.slice A0 s.length c0_0)) (.inl rfl) (.slice A1_ c.length c0_1)) (.inl rfl) (.int .i64 f)) (.inl rfl) (.bool d));have hge_:w.heap.size ≤ gb1:=tL;have hbn_:Below w.heap.size w w7:=tU;have hbk_:w7.heap[gb1]? = some (.cells #[.slice A0 s.length c0_0,.slice A1_ c.length c0_1,.int .i64 f,.bool d] 25 (0,0)):=(by rw [hw_];exact aQ (cs:=#[.slice A0 s.length c0_0,.slice A1_ c.length c0_1,.int .i64 f,.bool false]) (cs':=#[.slice A0 s.length c0_0,.slice A1_ c.length c0_1,.int .i64 f,.bool d]) (aQ (cs:=#[.slice A0 s.length c0_0,.slice A1_ c.length c0_1,.int .i64 0,.bool false]) (cs':=#[.slice A0 s.length c0_0,.slice A1_ c.length c0_1,.int .i64 f,.bool false]) (aQ (cs:=#[.slice A0 s.length c0_0,.slice none 0 0,.int .i64 0,.bool false]) (cs':=#[.slice A0 s.length c0_0,.slice A1_ c.length c0_1,.int .i64 0,.bool false]) (aQ (cs:=#[.slice none 0 0,.slice none 0 0,.int .i64 0,.bool false]) (cs':=#[.slice A0 s.length c0_0,.slice none 0 0,.int .i64 0,.bool false]) (BK1.out) 0 _ rfl) 1 _ rfl) 2 _ rfl) 3 _ rfl);have hsz_:top2 ≤ w7.heap.size:=Nat.le_trans HT.out hkp.1;replace HN0:=aA.mk (Kd.N_kept HN0.out hkp tA);replace HN1:=aA.mk (Kd.N_kept HN1.out hkp tA);replace HI:=aA.mk (IsS85.kept HI.out hkp tB);replace HKP:=aA.mk (HKP.out.then_ hkp ta);replace BK4:=aA.mk (aY BK4.out hkp tB);replace HB:=aA.mk (hbn_);replace BK1:=aA.mk (hbk_);replace HT:=aA.mk (hsz_);clear hw_ hkp hge_ hbn_ hbk_ hsz_;have:=bs4 BK1.out;have:=bs4 BK4.out))
  refine bodyPost_ret (fn:=Try.f62) (P:=Try.prog) (results_cell_row rfl _ _ gb1 25 #[.slice A0 s.length c0_0,.slice A1_ c.length c0_1,.int .i64 f,.bool d] (0,0) _ rfl BK1.out Try.underlying25 rfl tG) rfl ?_
  exact ⟨_,_,rfl,Kd.aV (N_raise HN0.out (fun k_ he_=>by have h1_:=HN0.out.1 k_ he_;have o_:=HORD.out;(try simp only [Ex] at h1_);omega)) (fun k_ hk_=>⟨by have o_:=HORD.out;(try simp only [Ex] at hk_);omega,fun he_=>hk_.2.1 (HGC.out k_ he_.symm)⟩),Kd.aV (N_raise HN1.out (fun k_ he_=>by have h1_:=HN1.out.1 k_ he_;have o_:=HORD.out;(try simp only [Ex] at h1_);omega)) (fun k_ hk_=>⟨by have o_:=HORD.out;(try simp only [Ex] at hk_);omega,fun he_=>hk_.2.1 (HGS.out k_ he_.symm)⟩),HI.out,HB.out,keep_kept HKP.out⟩
 rw [if_pos hi] at h
 obtain ⟨⟨b_,t1,t2⟩,hB1,h⟩:=lF h
 (try dsimp only at h)
 have B1:=aA.mk hB1
 clear hB1
 cases b_
 ·have hd_:decide (0 < i) = true:=decide_eq_true hi
  rw [if_neg tf] at h
  obtain ⟨⟨m1,e1,e2⟩,hB2,h⟩:=lF h
  obtain ⟨⟨m2,e3,e4⟩,hB3,h⟩:=lF h
  obtain ⟨⟨yy,e5,e6⟩,hB4,h⟩:=lF h
  have B2:=aA.mk hB2
  have B3:=aA.mk hB3
  have B4:=aA.mk hB4
  clear hB2 hB3 hB4
  (try dsimp only at h)
  have H2:=aA.mk h
  clear h hi HH
  have:=bs4 BK1.out
  have:=bs4 BK4.out
  go_wp2_with (first|((with_reducible refine aW (f:=67) rfl ?_);refine bK (some 16) rfl rfl Try.func67 tG rfl #[.pointer (some ⟨g,0,none⟩),.int .i64 4] rfl tC ?_;(with_reducible refine (spec_l1Once.calls g x0 p1 p2 4 false t1 t2 w _ HI.out HB.out B1.out).mono ?_);rintro e_ w10 ⟨rfl,hi_,hbn_,hk_⟩;refine ⟨_,rfl,?_⟩;have hkp:=kept_keep hk_;replace HN0:=aA.mk (Kd.N_kept HN0.out hkp tA);replace HN1:=aA.mk (Kd.N_kept HN1.out hkp tA);replace HKP:=aA.mk (HKP.out.then_ hkp ta);replace BK1:=aA.mk (aY BK1.out hkp tB);replace BK4:=aA.mk (aY BK4.out hkp tB);replace HB:=aA.mk (hbn_);replace HI:=aA.mk (hi_);replace HT:=aA.mk (Nat.le_trans HT.out hkp.1);clear hi_ hbn_ hk_ hkp;have:=bs4 BK1.out;have:=bs4 BK4.out)|((with_reducible refine aW (f:=66) rfl ?_);refine bK (some 22) rfl rfl Try.func66 tG rfl #[.pointer (some ⟨g,0,none⟩),.int .i64 ((s.length:Int))] rfl tC ?_;(with_reducible refine (spec_l1Below.calls g x0 t1 t2 ((s.length:Int)) m1 e1 e2 w _ HI.out HB.out B2.out).mono ?_);rintro e_ w11 ⟨rfl,hi_,hbn_,hk_⟩;refine ⟨_,rfl,?_⟩;have hkp:=kept_keep hk_;replace HN0:=aA.mk (Kd.N_kept HN0.out hkp tA);replace HN1:=aA.mk (Kd.N_kept HN1.out hkp tA);replace HKP:=aA.mk (HKP.out.then_ hkp ta);replace BK1:=aA.mk (aY BK1.out hkp tB);replace BK4:=aA.mk (aY BK4.out hkp tB);replace HB:=aA.mk (hbn_);replace HI:=aA.mk (hi_);replace HT:=aA.mk (Nat.le_trans HT.out hkp.1);clear hi_ hbn_ hk_ hkp;have:=bs4 BK1.out;have:=bs4 BK4.out)|((with_reducible refine aW (f:=66) rfl ?_);refine bK (some 25) rfl rfl Try.func66 tG rfl #[.pointer (some ⟨g,0,none⟩),.int .i64 4] rfl tC ?_;(with_reducible refine (spec_l1Below.calls g x0 e1 e2 4 m2 e3 e4 w _ HI.out HB.out B3.out).mono ?_);rintro e_ w12 ⟨rfl,hi_,hbn_,hk_⟩;refine ⟨_,rfl,?_⟩;have hkp:=kept_keep hk_;replace HN0:=aA.mk (Kd.N_kept HN0.out hkp tA);replace HN1:=aA.mk (Kd.N_kept HN1.out hkp tA);replace HKP:=aA.mk (HKP.out.then_ hkp ta);replace BK1:=aA.mk (aY BK1.out hkp tB);replace BK4:=aA.mk (aY BK4.out hkp tB);replace HB:=aA.mk (hbn_);replace HI:=aA.mk (hi_);replace HT:=aA.mk (Nat.le_trans HT.out hkp.1);clear hi_ hbn_ hk_ hkp;have:=bs4 BK1.out;have:=bs4 BK4.out)|((with_reducible refine aW (f:=65) rfl ?_);refine bK (some 26) rfl rfl Try.func65 tG rfl #[.pointer (some ⟨g,0,none⟩),.int .i64 m2] rfl tC ?_;(with_reducible refine (spec_l1Bytes.calls k1 g x0 e3 e4 m2 yy e5 e6 w _ HI.out HB.out B4.out).mono ?_);rintro e_ w13 ⟨v0_,rfl,ho_,hi_,hbn_,hk_⟩;refine ⟨_,rfl,?_⟩;have hkp:=kept_keep hk_;obtain ⟨lo13,el_⟩:∃ n_,n_ = w12.heap.size:=⟨_,rfl⟩;obtain ⟨hi13,eh_⟩:∃ n_,n_ = w13.heap.size:=⟨_,rfl⟩;have ol_:top2 ≤ lo13:=(by rw [el_];exact HT.out);have oh_:lo13 ≤ hi13:=(by rw [el_,eh_];exact hkp.1);rw [← el_] at ho_;obtain ⟨A13,c13,ev_,hc_,hf_,hs_⟩:=Mem.new_R ho_ eh_;subst ev_;replace HN0:=aA.mk (Kd.N_kept HN0.out hkp tA);replace HN1:=aA.mk (Kd.N_kept HN1.out hkp tA);replace HKP:=aA.mk (HKP.out.then_ hkp ta);replace BK1:=aA.mk (aY BK1.out hkp tB);replace BK4:=aA.mk (aY BK4.out hkp tB);replace HB:=aA.mk (hbn_);replace HI:=aA.mk (hi_);replace HORD:=aA.mk (And.intro HORD.out (And.intro ol_ oh_));replace HT:=aA.mk (Nat.le_of_eq eh_);replace HF13:=aA.mk (hf_);replace HC13:=aA.mk (hc_);replace HS13:=aA.mk (hs_);clear hi_ hbn_ hk_ hkp ho_ ol_ oh_ el_ eh_ hc_ hf_ hs_;have:=bs4 BK1.out;have:=bs4 BK4.out)|((with_reducible refine aW (f:=57) rfl ?_);refine bK (some 27) rfl rfl Try.func57 tG rfl #[.pointer (some ⟨gb4,0,none⟩),.int .i64 m1,.slice A13 yy.length c13] rfl tC ?_;(with_reducible refine (spec_l2WriteS.calls _ _ s _ _ c f d (m1) _ _ yy w _ gb4 HB.out BK4.out lo3 gS gC ?s1 ?s2 ?s3 ?s4 HGC.out HGS.out ?s5 ?s6 ?s7 HC13.out).mono ?_);(case s1=>exact tH);(case s2=>exact tH);(case s3=>exact tH);(case s4=>exact tH);(case s5=>exact Kd.aV HN0.out wK);(case s6=>exact Kd.aV HN1.out wK);(case s7=>exact Kd.F_mono HF13.out wK);rintro e_ w14 ⟨rfl,hwp_⟩;refine ⟨_,rfl,?_⟩;unfold WrPost at hwp_;obtain ⟨u1_,gn14,hbk_,hgn_,hgl_,hm0_,hm1_,hbn_,hkp⟩:=hwp_;obtain ⟨hi14,e2_⟩:∃ n_,n_ = w14.heap.size:=⟨_,rfl⟩;have ol_:hi13 ≤ hi14:=wT;rw [← e2_] at hgl_;replace HI:=aA.mk (IsS85.kept HI.out hkp tB);replace HKP:=aA.mk (HKP.out.then_ hkp ta);replace BK1:=aA.mk (aY BK1.out hkp tB);replace HB:=aA.mk (hbn_);replace BK4:=aA.mk (hbk_);replace HORD:=aA.mk (And.intro HORD.out (And.intro ol_ hgl_));replace HT:=aA.mk (Nat.le_of_eq e2_);replace HM14:=aA.mk (hm0_);replace HN14:=aA.mk (hm1_);replace HMC14:=aA.mk (hgn_);have:=bs4 BK1.out;have:=bs4 BK4.out))
  go_roundg k1
  case measure=>omega
  case rel=>exact ⟨_,_,_,_,_,_,_,_,_,gS,gn14,rfl,H2,⟨Nat.le_trans tq HT.out⟩,⟨by have o_:=HORD.out;have t_:=HT.out;omega⟩,⟨fun k_ hk_=>HGS.out k_ hk_⟩,⟨fun k_ hk_=>HMC14.out k_ hk_⟩,HM14,HN14,HI,BK1,BK4,HB,HKP,⟨by have:=HKK.out;omega⟩⟩
 ·have hd_:decide (0 < i) = true:=decide_eq_true hi
  rw [if_pos rfl] at h
  by_cases hfo:flOk s c = true
  rotate_left
  ·rw [if_neg hfo] at h;exact absurd h vN
  rw [if_pos hfo] at h
  have HFO:=aA.mk hfo
  clear hfo
  (try dsimp only at h)
  have H2:=aA.mk h
  clear h hi HH
  have:=bs4 BK1.out
  have:=bs4 BK4.out
  go_wp2_with (first|((with_reducible refine aW (f:=67) rfl ?_);refine bK (some 16) rfl rfl Try.func67 tG rfl #[.pointer (some ⟨g,0,none⟩),.int .i64 4] rfl tC ?_;(with_reducible refine (spec_l1Once.calls g x0 p1 p2 4 true t1 t2 w _ HI.out HB.out B1.out).mono ?_);rintro e_ w8 ⟨rfl,hi_,hbn_,hk_⟩;refine ⟨_,rfl,?_⟩;have hkp:=kept_keep hk_;replace HN0:=aA.mk (Kd.N_kept HN0.out hkp tA);replace HN1:=aA.mk (Kd.N_kept HN1.out hkp tA);replace HKP:=aA.mk (HKP.out.then_ hkp ta);replace BK1:=aA.mk (aY BK1.out hkp tB);replace BK4:=aA.mk (aY BK4.out hkp tB);replace HB:=aA.mk (hbn_);replace HI:=aA.mk (hi_);replace HT:=aA.mk (Nat.le_trans HT.out hkp.1);clear hi_ hbn_ hk_ hkp;have:=bs4 BK1.out;have:=bs4 BK4.out)|((with_reducible refine aW (f:=60) rfl ?_);refine bK (some 17) rfl rfl Try.func60 tG rfl #[.pointer (some ⟨gb4,0,none⟩)] rfl tC ?_;(with_reducible refine (spec_l2FlushS.calls _ _ s _ _ c f d w _ gb4 HB.out BK4.out lo3 gS gC ?s1 ?s2 ?s3 ?s4 HGC.out HGS.out ?s5 ?s6 (flOk_len HFO.out) (fun i_ hx_ hi_=>flOk_at HFO.out i_ hx_ hi_)).mono ?_);(case s1=>exact tH);(case s2=>exact tH);(case s3=>exact tH);(case s4=>exact tH);(case s5=>exact Kd.aV HN0.out wK);(case s6=>exact Kd.aV HN1.out wK);rintro e_ w9 ⟨rfl,hwp_⟩;refine ⟨_,rfl,?_⟩;unfold FlPost at hwp_;obtain ⟨u0_,u1_,gn9,hbk_,hgn_,hgl_,hme_,hm0_,hm1_,hbn_,hkp⟩:=hwp_;obtain ⟨hi9,e2_⟩:∃ n_,n_ = w9.heap.size:=⟨_,rfl⟩;have ol_:top2 ≤ hi9:=wT;rw [← e2_] at hgl_;replace HI:=aA.mk (IsS85.kept HI.out hkp tB);replace HKP:=aA.mk (HKP.out.then_ hkp ta);replace BK1:=aA.mk (aY BK1.out hkp tB);replace HB:=aA.mk (hbn_);replace BK4:=aA.mk (hbk_);replace HORD:=aA.mk (And.intro HORD.out (And.intro ol_ hgl_));replace HT:=aA.mk (Nat.le_of_eq e2_);replace HM9:=aA.mk (hm0_);replace HN9:=aA.mk (hm1_);replace HMC9:=aA.mk (hgn_);replace HMS9:=aA.mk (hme_);have:=bs4 BK1.out;have:=bs4 BK4.out))
  go_roundg k1
  case measure=>omega
  case rel=>exact ⟨_,_,_,_,_,_,_,_,_,gS,gn9,rfl,H2,⟨Nat.le_trans tq HT.out⟩,⟨by have o_:=HORD.out;have t_:=HT.out;omega⟩,⟨fun k_ hk_=>HMS9.out k_ hk_⟩,⟨fun k_ hk_=>HMC9.out k_ hk_⟩,HM9,HN9,HI,BK1,BK4,HB,HKP,⟨by have:=HKK.out;omega⟩⟩
end Go.Proofs.Ytilhcaofpfeioaa.Law
