/- The law: the functions that it reaches, each with the proof that the machine's call comes to its answer, what they answer, and the law's row; each theorem says its conditions itself. -/
import Derived.Test.YtilhcaofpfeioaaZFnDevsBent2
namespace Go.Proofs.Ytilhcaofpfeioaa.PFnDevsBent
open Go.Proofs.Ytilhcaofpfeioaa.Law Go.Proofs.Ytilhcaofpfeioaa.Core
open Go.RowKit Go.Proofs.YtilhcaofpfeioaaW.PrintWords Go.Proofs.YtilhcaofpfeioaaW.PrintLast Go.Proofs.YtilhcaofpfeioaaW.PrintMore
attribute [local go_sem] max2_int min2_int max_two min_two max_three min_three max_four min_four   -- for this text's walks alone
set_option linter.unusedVariables false
set_option linter.unusedSimpArgs false
def spec_l2Draw.f (k:Nat) (s0_0:List Int) (s0_1:Int) (s0_2:Int):Option (List (List Int) × List (S50) × Int × Bool × Int × Int):=spec_l2Draw.g k s0_0 s0_1 s0_2
theorem spec_l2Draw.calls (k:Nat) (g:Nat) (s0_0:List Int) (s0_1:Int) (s0_2:Int) (r1:List (List Int)) (r2:List (S50)) (r3:Int) (r4:Bool) (r5:Int) (r6:Int) (w0 w:World) (hI:IsS85 w0 w g s0_0 s0_1 s0_2) (hB:Below w0.heap.size w0 w) (h:spec_l2Draw.f k s0_0 s0_1 s0_2 = some (r1,r2,r3,r4,r5,r6)) :
  Calls Try.prog 62 #[.pointer (some ⟨g,0,none⟩)] w fun e w'=>∃ v0_ v1_:Value,e = .returned (.agg #[v0_,v1_,.int .i64 r3,.bool r4]) ∧ Kd.N (Kd.slice 5 (Kd.int .u8)) 37 w' w.heap.size (fun k_=>(w.heap.size ≤ k_) ∧ some k_ ≠ (v1_:Value).ownBlock) v0_ r1 ∧ Kd.N k50 50 w' w.heap.size (fun k_=>(w.heap.size ≤ k_) ∧ some k_ ≠ (v0_:Value).ownBlock) v1_ r2 ∧ IsS85 w0 w' g s0_0 r5 r6 ∧ Below w0.heap.size w0 w' ∧ KeepBut w w' g none:=by
 exact spec_l2Draw_calls k g s0_0 s0_1 s0_2 r1 r2 r3 r4 r5 r6 w0 w hI hB h
def spec_l1Int.f (s0_0:List Int) (s0_1:Int) (s0_2:Int) (l1:List Int):Option (Int × Int × Int):=(spec_l1Below.f s0_0 s0_1 s0_2 (l1.length:Int)).bind fun bt305=>(if 0 ≤ bt305.1 then (if bt305.1 < (l1.length:Int) then (some (rd l1 bt305.1,bt305.2.1,bt305.2.2)) else (none)) else (none))
set_option maxHeartbeats 8000000 in
set_option maxRecDepth 100000 in
theorem spec_l1Int.calls (g:Nat) (s0_0:List Int) (s0_1:Int) (s0_2:Int) (A1:Option Addr) (c1:Nat) (l1:List Int) (r1:Int) (r2:Int) (r3:Int) (w0 w:World) (hI:IsS85 w0 w g s0_0 s0_1 s0_2) (hB:Below w0.heap.size w0 w) (hr1:Kd.C (Kd.int .i64) w A1 l1.length l1) (hc1:l1.length ≤ c1) (hf1:∀ ad,A1 = some ad → 0 < l1.length → ad.block ≠ g) (h:spec_l1Int.f s0_0 s0_1 s0_2 l1 = some (r1,r2,r3)) :
  Calls Try.prog 64 #[.pointer (some ⟨g,0,none⟩),.slice A1 l1.length c1] w fun e w'=>e = .returned (.int .i64 r1) ∧ IsS85 w0 w' g s0_0 r2 r3 ∧ Below w0.heap.size w0 w' ∧ KeepBut w w' g none:=by
 have HR1:=aA.mk hr1
 have HC1:=aA.mk hc1
 clear hr1 hc1
 have HI0:=aA.mk hI
 have HK:=aA.mk (KeepBut.refl w g none)
 have HL:=aA.mk hB.size
 clear hI
 have HW0:=aA.mk hB.size
 have HB:=aA.mk hB
 clear hB
 have H:((spec_l1Below.f s0_0 s0_1 s0_2 (l1.length:Int)).bind fun bt305=>(if 0 ≤ bt305.1 then (if bt305.1 < (l1.length:Int) then (some (rd l1 bt305.1,bt305.2.1,bt305.2.2)) else (none)) else (none))) = some (r1,r2,r3):=h
 clear h
 replace H:=lF H
 obtain ⟨⟨t305,t306,t307⟩,A30,H⟩:=H
 replace H:(if 0 ≤ t305 then (if t305 < (l1.length:Int) then (some (rd l1 t305,t306,t307)) else (none)) else (none)) = some (r1,r2,r3):=H
 have A3:=aA.mk A30
 clear A30
 by_cases c4:0 ≤ t305
 ·rw [if_pos c4] at H
  have c4b0:decide (0 ≤ t305) = true:=decide_eq_true c4
  clear c4
  by_cases c5:t305 < (l1.length:Int)
  ·rw [if_pos c5] at H
   have c5b0:decide (t305 < (l1.length:Int)) = true:=decide_eq_true c5
   clear c5
   simp only [Option.some.injEq,Prod.mk.injEq] at H
   obtain ⟨rfl,rfl,rfl⟩:=H
   go_enter Try.func64,Try.ntmps64
   go_wp2_with (first|((with_reducible refine aW (f:=66) rfl ?_);refine bK (some 9) rfl rfl Try.func66 tG rfl #[.pointer (some ⟨g,0,none⟩),.int .i64 (l1.length:Int)] rfl tC ?_;(with_reducible refine (spec_l1Below.calls g s0_0 s0_1 s0_2 (l1.length:Int) t305 t306 t307 w0 _ ?side1 ?side2 A3.out).mono ?_);(case side1=>exact vM);(case side2=>exact vZ);rintro e w6 ⟨rfl,hi,hb,hk⟩;refine ⟨_,rfl,?_⟩;replace HK:=aA.mk (KeepBut.trans tQ hk (.inl rfl));replace HB:=aA.mk (hb);replace HI0:=aA.mk (hi);(try clear hb);(try clear hk);(try clear hi);have p308:0 ≤ (t305:Int):=lE tx;have q308:t305 < (l1.length:Int):=lE tx;obtain ⟨ad308,e308,hx308_0⟩:=Kd.at_int HR1.out t305 p308 q308;cases e308;replace hx308_0:=keep_cell HK.out hx308_0 (by first|(rw [add_block];exact hf1 _ rfl tZ)|exact hf1 _ rfl tZ|exact hf1 ad308 rfl tZ);replace p308:=eq_true p308;replace q308:=eq_true q308))
   go_ret
   exact tb
  ·rw [if_neg c5] at H
   exact wX
 ·rw [if_neg c4] at H
  exact wX
end Go.Proofs.Ytilhcaofpfeioaa.PFnDevsBent

namespace Go.Proofs.Ytilhcaofpfeioaa.PFnDevsBent
open Go.RowKit Go.Proofs.YtilhcaofpfeioaaW.PrintWords Go.Proofs.YtilhcaofpfeioaaW.PrintLast Go.Proofs.YtilhcaofpfeioaaW.PrintMore
attribute [local go_sem] max2_int min2_int max_two min_two max_three min_three max_four min_four   -- for this text's walks alone
set_option linter.unusedVariables false
set_option linter.unusedSimpArgs false
def spec_l2Any.l0:Nat → List Int → Int → Int → List (List Int) → List (S50) → Int → Bool → Option ((List (List Int)) × (List (S50)) × Int × Bool × Int × Int)
 | 0,_,_,_,_,_,_,_=>none
 | k + 1,x1000,x1001,x1002,x321000,x321001,x321002,x321003=>(spec_l1Below.f x1000 x1001 x1002 3).bind fun bt345=>(if (x321001.length:Int) < (wrap64 (59 + bt345.1)) then (if x321001.length < 4398046511104 then (spec_l2Any.l0 k x1000 bt345.2.1 bt345.2.2 x321000 (x321001 ++ [(⟨0,([]:List Int)⟩:S50)]) x321002 x321003) else (none)) else (some (x321000,x321001,x321002,x321003,bt345.2.1,bt345.2.2)))
def spec_l2Any.f (k:Nat) (s0_0:List Int) (s0_1:Int) (s0_2:Int):Option ((List (List Int)) × (List (S50)) × Int × Bool × Int × Int):=(spec_l2Draw.f k s0_0 s0_1 s0_2).bind fun bt310=>((spec_l1Below.f s0_0 bt310.2.2.2.2.1 bt310.2.2.2.2.2 12).bind fun bt321=>(if bt321.1 = 0 then ((spec_l1Below.f s0_0 bt321.2.1 bt321.2.2 2).bind fun bt324=>(if 0 ≤ (wrap64 (80 + bt324.1)) then (if (wrap64 (80 + bt324.1):Int).toNat ≤ 281474976710656 then (if 0 < (bt310.1.length:Int) then (some ((bt310.1.set (0:Int).toNat (List.replicate (wrap64 (80 + bt324.1):Int).toNat 0)),bt310.2.1,bt310.2.2.1,bt310.2.2.2.1,bt324.2.1,bt324.2.2)) else (none)) else (none)) else (none))) else (if bt321.1 = 1 then ((spec_l1Int.f s0_0 bt321.2.1 bt321.2.2 (([(-1),0,99]:List Int))).bind fun bt334=>((spec_l1Bytes.f k s0_0 bt334.2.1 bt334.2.2 2).bind fun bt337=>(if bt310.2.1.length < 4398046511104 then (some (bt310.1,(bt310.2.1 ++ [(⟨bt334.1,bt337.1⟩:S50)]),bt310.2.2.1,bt310.2.2.2.1,bt337.2.1,bt337.2.2)) else (none)))) else (if bt321.1 = 2 then (spec_l2Any.l0 k s0_0 bt321.2.1 bt321.2.2 bt310.1 bt310.2.1 bt310.2.2.1 bt310.2.2.2.1) else (if bt321.1 = 3 then ((spec_l1Int.f s0_0 bt321.2.1 bt321.2.2 (([0,1,5,(-2),1001]:List Int))).bind fun bt354=>(some (bt310.1,bt310.2.1,bt354.1,bt310.2.2.2.1,bt354.2.1,bt354.2.2))) else (if bt321.1 = 4 then (some (bt310.1,bt310.2.1,bt310.2.2.1,true,bt321.2.1,bt321.2.2)) else (if bt321.1 = 5 then (some (bt310.1,bt310.2.1,0,bt310.2.2.2.1,bt321.2.1,bt321.2.2)) else (some (bt310.1,bt310.2.1,bt310.2.2.1,bt310.2.2.2.1,bt321.2.1,bt321.2.2)))))))))
def spec_l2Any.T4:Bool × List (List Nat × List Nat):=(true,[([],[]),([0],[0]),([],[]),([2],[2]),([3],[3]),([4,4],[4]),([1,0,1,2,3,4,5],[1]),([6,5,3,0,1,2,3,4,5],[5,6])])
def spec_l2Any.B4:List Nat:=[0,1,0,4,12,28,63,127]
theorem spec_l2Any.tab4:rtab .any (opsOf Try.f63 4) = spec_l2Any.T4:=by kernel_rfl
theorem spec_l2Any.bits4:waitsOk spec_l2Any.T4.2 spec_l2Any.B4 = true:=by kernel_rfl
def spec_l2Any.T6:Bool × List (List Nat × List Nat):=(true,[([],[]),([0],[0]),([],[]),([],[]),([2,3],[2,3]),([],[]),([5,4],[5]),([4,6],[4,6]),([7],[7]),([1,8,6],[1,8]),([0,1,2,3,4,5,6,7,8,9],[]),([10,9,9,0,1,2,3,4,5,6,7,8,9],[9,10])])
def spec_l2Any.B6:List Nat:=[0,1,0,0,12,0,60,124,252,511,1023,2047]
theorem spec_l2Any.tab6:rtab .any (opsOf Try.f63 6) = spec_l2Any.T6:=by kernel_rfl
theorem spec_l2Any.bits6:waitsOk spec_l2Any.T6.2 spec_l2Any.B6 = true:=by kernel_rfl
set_option maxHeartbeats 8000000 in
set_option maxRecDepth 100000 in
theorem spec_l2Any.calls (k:Nat) (g:Nat) (s0_0:List Int) (s0_1:Int) (s0_2:Int) (r1:List (List Int)) (r2:List (S50)) (r3:Int) (r4:Bool) (r5:Int) (r6:Int) (w0 w:World) (hI:IsS85 w0 w g s0_0 s0_1 s0_2) (hB:Below w0.heap.size w0 w) (h:spec_l2Any.f k s0_0 s0_1 s0_2 = some (r1,r2,r3,r4,r5,r6)) :
  Calls Try.prog 63 #[.pointer (some ⟨g,0,none⟩)] w fun e w'=>∃ v0_ v1_:Value,e = .returned (.agg #[v0_,v1_,.int .i64 r3,.bool r4]) ∧ Kd.N (Kd.slice 5 (Kd.int .u8)) 37 w' w.heap.size (fun k_=>(w.heap.size ≤ k_) ∧ some k_ ≠ (v1_:Value).ownBlock) v0_ r1 ∧ Kd.N k50 50 w' w.heap.size (fun k_=>(w.heap.size ≤ k_) ∧ some k_ ≠ (v0_:Value).ownBlock) v1_ r2 ∧ IsS85 w0 w' g s0_0 r5 r6 ∧ Below w0.heap.size w0 w' ∧ KeepBut w w' g none:=by
 have hu25:=Try.underlying25
 have hu50:=Try.underlying50
 have HI0:=aA.mk hI
 have HK:=aA.mk (KeepBut.refl w g none)
 have HL:=aA.mk hB.size
 clear hI
 have HW0:=aA.mk hB.size
 have HB:=aA.mk hB
 clear hB
 have H:((spec_l2Draw.f k s0_0 s0_1 s0_2).bind fun bt310=>((spec_l1Below.f s0_0 bt310.2.2.2.2.1 bt310.2.2.2.2.2 12).bind fun bt321=>(if bt321.1 = 0 then ((spec_l1Below.f s0_0 bt321.2.1 bt321.2.2 2).bind fun bt324=>(if 0 ≤ (wrap64 (80 + bt324.1)) then (if (wrap64 (80 + bt324.1):Int).toNat ≤ 281474976710656 then (if 0 < (bt310.1.length:Int) then (some ((bt310.1.set (0:Int).toNat (List.replicate (wrap64 (80 + bt324.1):Int).toNat 0)),bt310.2.1,bt310.2.2.1,bt310.2.2.2.1,bt324.2.1,bt324.2.2)) else (none)) else (none)) else (none))) else (if bt321.1 = 1 then ((spec_l1Int.f s0_0 bt321.2.1 bt321.2.2 (([(-1),0,99]:List Int))).bind fun bt334=>((spec_l1Bytes.f k s0_0 bt334.2.1 bt334.2.2 2).bind fun bt337=>(if bt310.2.1.length < 4398046511104 then (some (bt310.1,(bt310.2.1 ++ [(⟨bt334.1,bt337.1⟩:S50)]),bt310.2.2.1,bt310.2.2.2.1,bt337.2.1,bt337.2.2)) else (none)))) else (if bt321.1 = 2 then (spec_l2Any.l0 k s0_0 bt321.2.1 bt321.2.2 bt310.1 bt310.2.1 bt310.2.2.1 bt310.2.2.2.1) else (if bt321.1 = 3 then ((spec_l1Int.f s0_0 bt321.2.1 bt321.2.2 (([0,1,5,(-2),1001]:List Int))).bind fun bt354=>(some (bt310.1,bt310.2.1,bt354.1,bt310.2.2.2.1,bt354.2.1,bt354.2.2))) else (if bt321.1 = 4 then (some (bt310.1,bt310.2.1,bt310.2.2.1,true,bt321.2.1,bt321.2.2)) else (if bt321.1 = 5 then (some (bt310.1,bt310.2.1,0,bt310.2.2.2.1,bt321.2.1,bt321.2.2)) else (some (bt310.1,bt310.2.1,bt310.2.2.1,bt310.2.2.2.1,bt321.2.1,bt321.2.2)))))))))) = some (r1,r2,r3,r4,r5,r6):=h
 clear h
 replace H:=lF H
 obtain ⟨⟨t310,t313,t316,t317,t318,t319⟩,A20,H⟩:=H
 replace H:((spec_l1Below.f s0_0 t318 t319 12).bind fun bt321=>(if bt321.1 = 0 then ((spec_l1Below.f s0_0 bt321.2.1 bt321.2.2 2).bind fun bt324=>(if 0 ≤ (wrap64 (80 + bt324.1)) then (if (wrap64 (80 + bt324.1):Int).toNat ≤ 281474976710656 then (if 0 < (t310.length:Int) then (some ((t310.set (0:Int).toNat (List.replicate (wrap64 (80 + bt324.1):Int).toNat 0)),t313,t316,t317,bt324.2.1,bt324.2.2)) else (none)) else (none)) else (none))) else (if bt321.1 = 1 then ((spec_l1Int.f s0_0 bt321.2.1 bt321.2.2 (([(-1),0,99]:List Int))).bind fun bt334=>((spec_l1Bytes.f k s0_0 bt334.2.1 bt334.2.2 2).bind fun bt337=>(if t313.length < 4398046511104 then (some (t310,(t313 ++ [(⟨bt334.1,bt337.1⟩:S50)]),t316,t317,bt337.2.1,bt337.2.2)) else (none)))) else (if bt321.1 = 2 then (spec_l2Any.l0 k s0_0 bt321.2.1 bt321.2.2 t310 t313 t316 t317) else (if bt321.1 = 3 then ((spec_l1Int.f s0_0 bt321.2.1 bt321.2.2 (([0,1,5,(-2),1001]:List Int))).bind fun bt354=>(some (t310,t313,bt354.1,t317,bt354.2.1,bt354.2.2))) else (if bt321.1 = 4 then (some (t310,t313,t316,true,bt321.2.1,bt321.2.2)) else (if bt321.1 = 5 then (some (t310,t313,0,t317,bt321.2.1,bt321.2.2)) else (some (t310,t313,t316,t317,bt321.2.1,bt321.2.2))))))))) = some (r1,r2,r3,r4,r5,r6):=H
 have A2:=aA.mk A20
 clear A20
 replace H:=lF H
 obtain ⟨⟨t321,t322,t323⟩,A30,H⟩:=H
 replace H:(if t321 = 0 then ((spec_l1Below.f s0_0 t322 t323 2).bind fun bt324=>(if 0 ≤ (wrap64 (80 + bt324.1)) then (if (wrap64 (80 + bt324.1):Int).toNat ≤ 281474976710656 then (if 0 < (t310.length:Int) then (some ((t310.set (0:Int).toNat (List.replicate (wrap64 (80 + bt324.1):Int).toNat 0)),t313,t316,t317,bt324.2.1,bt324.2.2)) else (none)) else (none)) else (none))) else (if t321 = 1 then ((spec_l1Int.f s0_0 t322 t323 (([(-1),0,99]:List Int))).bind fun bt334=>((spec_l1Bytes.f k s0_0 bt334.2.1 bt334.2.2 2).bind fun bt337=>(if t313.length < 4398046511104 then (some (t310,(t313 ++ [(⟨bt334.1,bt337.1⟩:S50)]),t316,t317,bt337.2.1,bt337.2.2)) else (none)))) else (if t321 = 2 then (spec_l2Any.l0 k s0_0 t322 t323 t310 t313 t316 t317) else (if t321 = 3 then ((spec_l1Int.f s0_0 t322 t323 (([0,1,5,(-2),1001]:List Int))).bind fun bt354=>(some (t310,t313,bt354.1,t317,bt354.2.1,bt354.2.2))) else (if t321 = 4 then (some (t310,t313,t316,true,t322,t323)) else (if t321 = 5 then (some (t310,t313,0,t317,t322,t323)) else (some (t310,t313,t316,t317,t322,t323)))))))) = some (r1,r2,r3,r4,r5,r6):=H
 have A3:=aA.mk A30
 clear A30
 by_cases c4:t321 = 0
 ·rw [if_pos c4] at H
  have c4b0:(t321 == 0) = true:=beq_iff_eq.mpr c4
  have c4b1:(t321 != 0) = false:=bne_eq_false_iff_eq.mpr c4
  clear c4
  replace H:=lF H
  obtain ⟨⟨t324,t325,t326⟩,A50,H⟩:=H
  replace H:(if 0 ≤ (wrap64 (80 + t324)) then (if (wrap64 (80 + t324):Int).toNat ≤ 281474976710656 then (if 0 < (t310.length:Int) then (some ((t310.set (0:Int).toNat (List.replicate (wrap64 (80 + t324):Int).toNat 0)),t313,t316,t317,t325,t326)) else (none)) else (none)) else (none)) = some (r1,r2,r3,r4,r5,r6):=H
  have A5:=aA.mk A50
  clear A50
  obtain ⟨ji6,hji6⟩:∃ j_:Int,(wrap64 (80 + t324)) = j_:=⟨_,rfl⟩
  replace H:(if 0 ≤ (ji6) then (if (ji6:Int).toNat ≤ 281474976710656 then (if 0 < (t310.length:Int) then (some ((t310.set (0:Int).toNat (List.replicate (ji6:Int).toNat 0)),t313,t316,t317,t325,t326)) else (none)) else (none)) else (none)) = some (r1,r2,r3,r4,r5,r6):=by first|(rw [hji6] at H;exact H)|(simp only [hji6] at H ⊢;exact H)
  (try rw [hji6] at A2)
  (try rw [hji6] at A3)
  (try rw [hji6] at A5)
  have hji6w:(IntKind.i64.wrap (80 + t324)) = ji6:=(bE _).trans hji6
  by_cases c7:0 ≤ (ji6)
  ·rw [if_pos c7] at H
   have c7b0:=eq_true c7
   have c7b1:decide (0 ≤ (ji6)) = true:=decide_eq_true c7
   clear c7
   by_cases c8:(ji6:Int).toNat ≤ 281474976710656
   ·rw [if_pos c8] at H
    have c8b0:=eq_true c8
    have c8b1:decide ((ji6:Int).toNat ≤ 281474976710656) = true:=decide_eq_true c8
    clear c8
    obtain ⟨y327,hy327⟩:∃ y_:List Int,y_ = (List.replicate (ji6:Int).toNat 0):=⟨_,rfl⟩
    replace H:(if 0 < (t310.length:Int) then (some ((t310.set (0:Int).toNat y327),t313,t316,t317,t325,t326)) else (none)) = some (r1,r2,r3,r4,r5,r6):=by first|(rw [hy327];with_reducible exact H)|(have H2_:=(Option.bind_some _ _).symm.trans H;rw [hy327];with_reducible exact H2_)|(have H2_:=(Option.bind_some _ _).symm.trans H;with_reducible exact H2_)|with_reducible exact H|(rw [hy327];exact H)|exact H
    have Ny327:=aA.mk hy327
    clear hy327
    by_cases c9:0 < (t310.length:Int)
    ·rw [if_pos c9] at H
     have c9b0:decide (0 < (t310.length:Int)) = true:=decide_eq_true c9
     have c9b1:decide (0 < t310.length) = true:=decide_eq_true tZ
     clear c9
     obtain ⟨y330,hy330⟩:∃ y_:List (List Int),y_ = (t310.set (0:Int).toNat y327):=⟨_,rfl⟩
     replace H:(some (y330,t313,t316,t317,t325,t326)) = some (r1,r2,r3,r4,r5,r6):=by first|(rw [hy330];with_reducible exact H)|(have H2_:=(Option.bind_some _ _).symm.trans H;rw [hy330];with_reducible exact H2_)|(have H2_:=(Option.bind_some _ _).symm.trans H;with_reducible exact H2_)|with_reducible exact H|(rw [hy330];exact H)|exact H
     have Ny330:=aA.mk hy330
     clear hy330
     simp only [Option.some.injEq,Prod.mk.injEq] at H
     obtain ⟨rfl,rfl,rfl,rfl,rfl,rfl⟩:=H
     go_enter Try.func63,Try.ntmps63
     try go_wp2_with (first|((with_reducible refine bC (N:=2) rfl ?_);refine bD ?hg (N:=2) ?hd (cs:=#[.slice none 0 0,.slice none 0 0,.int .i64 0,.bool false]) (t:=25) ?hr ?_;(case hd=>rfl);(case hg=>rfl);(case hr=>exact tE);intro gb309 hg w11 hbox hb;replace HB:=aA.mk (aT vE hb);have BK309:=aA.mk (hbox);have GW309:=aA.mk ((by rw [hg];exact (bQ (w:=w) (g:=g) (row:=none) tQ):w.heap.size ≤ gb309));have GE309:=aA.mk ((Nat.le_trans HW0.out (by rw [hg];exact (bQ (w:=w) (g:=g) (row:=none) tQ):w.heap.size ≤ gb309):w0.heap.size ≤ gb309));replace HK:=aA.mk (KeepBut.trans tQ (KeepBut.of_below hb g none) (.inl rfl));have NB0_309:=aA.mk ((by rw [hg];exact Nat.ne_of_lt (IsS85.lt (show IsS85 w0 _ g s0_0 s0_1 s0_2 from by repeat (first|(with_reducible first|exact HI0.out|apply IsS85.alloc|apply IsS85.drewN|apply IsS85.drew|apply IsS85.set_1|apply IsS85.set_2)|exact HI0.out))):g ≠ gb309));have NB309_0:=aA.mk ((by rw [hg];exact Nat.ne_of_gt (IsS85.lt (show IsS85 w0 _ g s0_0 s0_1 s0_2 from by repeat (first|(with_reducible first|exact HI0.out|apply IsS85.alloc|apply IsS85.drewN|apply IsS85.drew|apply IsS85.set_1|apply IsS85.set_2)|exact HI0.out))):gb309 ≠ g));replace HI0:=aA.mk (IsS85.below t6 hb);clear hb hbox hg)|((with_reducible refine aW (f:=62) rfl ?_);refine bK (some 5) rfl rfl Try.func62 tG rfl #[.pointer (some ⟨g,0,none⟩)] rfl tC ?_;(with_reducible refine (spec_l2Draw.calls k g s0_0 s0_1 s0_2 t310 t313 t316 t317 t318 t319 w0 _ ?side1 ?side2 A2.out).mono ?_);(case side1=>exact vB);(case side2=>exact vQ);rintro e w12 ⟨v311,v314,rfl,ho0,ho1,hi,hb,hk⟩;refine ⟨_,rfl,?_⟩;have HO312:=aA.mk (Kd.N_lower (Kd.aV (ok':=fun k_=>(w.heap.size ≤ k_) ∧ some k_ ≠ (v314:Value).ownBlock ∧ k_ ≠ gb309 ∧ k_ ≠ g) ho0 (fun k_ hk_=>⟨(Nat.le_trans (bQ (w:=w) (g:=g) (row:=none) tD) hk_.1),hk_.2,(Kd.freshB (g:=gb309) (o:=.cells #[.slice none 0 0,.slice none 0 0,.int .i64 0,.bool false] 25 (0,0)) BK309.out k_ hk_.1),(IsS85.fresh tP k_ hk_.1)⟩)) (bQ (w:=w) (g:=g) (row:=none) tD));have HO315:=aA.mk (Kd.N_lower (Kd.aV (ok':=fun k_=>(w.heap.size ≤ k_) ∧ some k_ ≠ (v311:Value).ownBlock ∧ k_ ≠ gb309 ∧ k_ ≠ g) ho1 (fun k_ hk_=>⟨(Nat.le_trans (bQ (w:=w) (g:=g) (row:=none) tD) hk_.1),hk_.2,(Kd.freshB (g:=gb309) (o:=.cells #[.slice none 0 0,.slice none 0 0,.int .i64 0,.bool false] 25 (0,0)) BK309.out k_ hk_.1),(IsS85.fresh tP k_ hk_.1)⟩)) (bQ (w:=w) (g:=g) (row:=none) tD));replace BK309:=aA.mk (KeepBut.blk hk (g':=gb309) (o:=.cells #[.slice none 0 0,.slice none 0 0,.int .i64 0,.bool false] 25 (0,0)) BK309.out NB309_0.out vN);replace HK:=aA.mk (KeepBut.trans tD hk (.inl rfl));replace HB:=aA.mk (hb);replace HI0:=aA.mk (hi);(try clear hb);(try clear hk);(try clear hi);(try clear ho0);(try clear ho1))|((with_reducible refine bC (N:=3) rfl ?_);refine bD ?hg (N:=3) ?hd (cs:=#[.slice none 0 0,.slice none 0 0,.int .i64 0,.bool false]) (t:=25) ?hr ?_;(case hd=>rfl);(case hg=>rfl);(case hr=>exact tE);intro gb320 hg w13 hbox hb;replace HO312:=aA.mk (Kd.N_below (Kd.N_elderB HO312.out gb320 (Nat.le_of_eq hg.symm)) hb);replace HO315:=aA.mk (Kd.N_below (Kd.N_elderB HO315.out gb320 (Nat.le_of_eq hg.symm)) hb);replace HB:=aA.mk (aT vL hb);have BK320:=aA.mk (hbox);have GW320:=aA.mk ((by rw [hg];exact (bQ (w:=w) (g:=g) (row:=none) tD):w.heap.size ≤ gb320));have GE320:=aA.mk ((Nat.le_trans HW0.out (by rw [hg];exact (bQ (w:=w) (g:=g) (row:=none) tD):w.heap.size ≤ gb320):w0.heap.size ≤ gb320));replace HK:=aA.mk (KeepBut.trans tD (KeepBut.of_below hb g none) (.inl rfl));have NB309_320:=aA.mk ((by rw [hg];exact Nat.ne_of_lt (bJ (g:=gb309) (o:=.cells #[.slice none 0 0,.slice none 0 0,.int .i64 0,.bool false] 25 (0,0)) BK309.out):gb309 ≠ gb320));have NB320_309:=aA.mk ((by rw [hg];exact Nat.ne_of_gt (bJ (g:=gb309) (o:=.cells #[.slice none 0 0,.slice none 0 0,.int .i64 0,.bool false] 25 (0,0)) BK309.out):gb320 ≠ gb309));replace BK309:=aA.mk (bM (g:=gb309) (o:=.cells #[.slice none 0 0,.slice none 0 0,.int .i64 0,.bool false] 25 (0,0)) BK309.out hb);have NB0_320:=aA.mk ((by rw [hg];exact Nat.ne_of_lt (IsS85.lt (show IsS85 w0 _ g s0_0 t318 t319 from by repeat (first|(with_reducible first|exact HI0.out|apply IsS85.alloc|apply IsS85.drewN|apply IsS85.drew|apply IsS85.set_1|apply IsS85.set_2|apply IsS85.far (hne:=NB0_309.out))|exact HI0.out))):g ≠ gb320));have NB320_0:=aA.mk ((by rw [hg];exact Nat.ne_of_gt (IsS85.lt (show IsS85 w0 _ g s0_0 t318 t319 from by repeat (first|(with_reducible first|exact HI0.out|apply IsS85.alloc|apply IsS85.drewN|apply IsS85.drew|apply IsS85.set_1|apply IsS85.set_2|apply IsS85.far (hne:=NB0_309.out))|exact HI0.out))):gb320 ≠ g));replace HI0:=aA.mk (IsS85.below tP hb);clear hb hbox hg;obtain ⟨Ao14,co14,eo14⟩:=Kd.cB HO312.out;subst eo14;have hnb15:=NB320_309.out;have hnc15:=NB309_320.out;have hnb16:=NB320_0.out;have hnc16:=NB0_320.out;obtain ⟨hcz17_0,hcz17_1,hcz17_2,hcz17_3⟩:=cs4 BK320.out;obtain ⟨hfz17_0,hfz17_1,hfz17_2,hfz17_3⟩:=fs4 BK320.out;obtain ⟨Ao18,co18,eo18⟩:=Kd.cB HO315.out;subst eo18)|((with_reducible refine aW (f:=66) rfl ?_);refine bK (some 7) rfl rfl Try.func66 tG rfl #[.pointer (some ⟨g,0,none⟩),.int .i64 12] rfl tC ?_;(with_reducible refine (spec_l1Below.calls g s0_0 t318 t319 12 t321 t322 t323 w0 _ ?side1 ?side2 A3.out).mono ?_);(case side1=>exact tX);(case side2=>exact te);rintro e w19 ⟨rfl,hi,hb,hk⟩;refine ⟨_,rfl,?_⟩;replace BK309:=aA.mk (KeepBut.blk hk (g':=gb309) (o:=.cells #[.slice none 0 0,.slice none 0 0,.int .i64 0,.bool false] 25 (0,0)) tV NB309_0.out vN);replace HO312:=aA.mk (Kd.aV (Kd.N_keep (Kd.aV (ok:=fun k_=>((((w.heap.size ≤ k_)) ∧ (some k_ ≠ (.slice Ao18 t313.length co18:Value).ownBlock ∧ (k_ ≠ gb309 ∧ k_ ≠ g))) ∧ k_ ≠ gb320)) (by (with_reducible repeat (first|apply Kd.bW|apply Kd.bX|apply Kd.bV));exact (Kd.aV (Kd.bH (p:=⟨gb320,3,none⟩) (Kd.bH (p:=⟨gb320,2,none⟩) (Kd.bH (p:=⟨gb320,1,none⟩) (Kd.bH (p:=⟨gb320,0,none⟩) (Kd.aV HO312.out (fun k_ hk=>(⟨hk,hk.2⟩:_ ∧ k_ ≠ gb320))) (fun _ hk=>hk.2) (.slice Ao14 t310.length co14)) (fun _ hk=>hk.2) (.slice Ao18 t313.length co18)) (fun _ hk=>hk.2) (.int .i64 t316)) (fun _ hk=>hk.2) (.bool t317)) (fun _ h_=>h_.1))) (fun k_ hk_=>(⟨hk_,hk_.1.2.2.2⟩:_ ∧ k_ ≠ g))) hk (fun _ h=>h.2)) (fun _ h=>h.1));replace HO315:=aA.mk (Kd.aV (Kd.N_keep (Kd.aV (ok:=fun k_=>((((w.heap.size ≤ k_)) ∧ (some k_ ≠ (.slice Ao14 t310.length co14:Value).ownBlock ∧ (k_ ≠ gb309 ∧ k_ ≠ g))) ∧ k_ ≠ gb320)) (by (with_reducible repeat (first|apply Kd.bW|apply Kd.bX|apply Kd.bV));exact (Kd.aV (Kd.bH (p:=⟨gb320,3,none⟩) (Kd.bH (p:=⟨gb320,2,none⟩) (Kd.bH (p:=⟨gb320,1,none⟩) (Kd.bH (p:=⟨gb320,0,none⟩) (Kd.aV HO315.out (fun k_ hk=>(⟨hk,hk.2⟩:_ ∧ k_ ≠ gb320))) (fun _ hk=>hk.2) (.slice Ao14 t310.length co14)) (fun _ hk=>hk.2) (.slice Ao18 t313.length co18)) (fun _ hk=>hk.2) (.int .i64 t316)) (fun _ hk=>hk.2) (.bool t317)) (fun _ h_=>h_.1))) (fun k_ hk_=>(⟨hk_,hk_.1.2.2.2⟩:_ ∧ k_ ≠ g))) hk (fun _ h=>h.2)) (fun _ h=>h.1));replace BK320:=aA.mk (KeepBut.blk hk (g':=gb320) (o:=.cells #[.slice Ao14 t310.length co14,.slice Ao18 t313.length co18,.int .i64 t316,.bool t317] 25 (0,0)) (by (with_reducible repeat (first|refine aM ?_ _|refine aN ?_|refine aG ?_ _));refine aQ (cs:=#[.slice Ao14 t310.length co14,.slice Ao18 t313.length co18,.int .i64 t316,.bool false]) ?_ 3 _ rfl;(with_reducible repeat (first|refine aM ?_ _|refine aN ?_|refine aG ?_ _));refine aQ (cs:=#[.slice Ao14 t310.length co14,.slice Ao18 t313.length co18,.int .i64 0,.bool false]) ?_ 2 _ rfl;(with_reducible repeat (first|refine aM ?_ _|refine aN ?_|refine aG ?_ _));refine aQ (cs:=#[.slice Ao14 t310.length co14,.slice none 0 0,.int .i64 0,.bool false]) ?_ 1 _ rfl;(with_reducible repeat (first|refine aM ?_ _|refine aN ?_|refine aG ?_ _));refine aQ (cs:=#[.slice none 0 0,.slice none 0 0,.int .i64 0,.bool false]) ?_ 0 _ rfl;(with_reducible repeat (first|refine aM ?_ _|refine aN ?_|refine aG ?_ _));exact BK320.out) NB320_0.out vN);replace HK:=aA.mk (KeepBut.trans tK hk (.inl rfl));replace HB:=aA.mk (hb);replace HI0:=aA.mk (hi);(try clear hb);(try clear hk);(try clear hi)))
     replace HO312:=aA.mk (Kd.bV HO312.out)
     replace HO315:=aA.mk (Kd.bV HO315.out)
     replace BK309:=aA.mk (aN BK309.out)
     replace BK320:=aA.mk (aN BK320.out)
     replace HI0:=aA.mk (IsS85.drew HI0.out)
     replace HK:=aA.mk (bB HK.out)
     replace HB:=aA.mk (aH HB.out)
     refine start_ (n:=8) (S:=fun w'=>w'.cell? ⟨gb320,0,none⟩ = some (.slice Ao14 t310.length co14) ∧ w'.cell? ⟨gb320,1,none⟩ = some (.slice Ao18 t313.length co18) ∧ w'.cell? ⟨gb320,2,none⟩ = some (.int .i64 t316) ∧ w'.cell? ⟨gb320,3,none⟩ = some (.bool t317)) (ds:=[7]) #[F0,F0,F0,F0,F0,F0,F0,F0] tG rfl rfl ⟨(aD BK320.out 0).trans rfl,(aD BK320.out 1).trans rfl,(aD BK320.out 2).trans rfl,(aD BK320.out 3).trans rfl⟩ (fun hHeld=>?_);refine with_tabW spec_l2Any.tab4 spec_l2Any.bits4 (fun HT_ HW_=>?_)
     generalize w19.drew = w20 at HO312 HO315 BK309 BK320 HI0 HK HB hHeld ⊢
     refine bT (i:=0) (N:=some 10) (v:=?_) (a':=?_) #[T1,F0,F0,F0,F0,F0,F0,F0] rfl rfl (any_of HT_.out tG) (fun _ _ _ h=>h) (Or.inl ⟨vr,?_⟩) ?_ ?_
     rotate_left
     ·intro w'
      go_simp
      with_reducible rfl
     rotate_left
     ·simp only [Act.put,lA,lB,lC,bE,bG]
      rfl
     refine bT (i:=2) (N:=some 12) (v:=?_) (a':=?_) #[T1,F0,T1,F0,F0,F0,F0,F0] rfl rfl (any_of HT_.out tG) (fun _ _ _ h=>h) (Or.inl ⟨vr,?_⟩) ?_ ?_
     rotate_left
     ·intro w'
      go_simp
      with_reducible rfl
     rotate_left
     ·simp only [Act.put,lA,lB,lC,bE,bG]
      rfl
     refine take_ (i:=1) (N:=some 11) (v:=?_) (a':=?_) #[T1,T1,T1,F0,F0,F0,F0,F0] rfl rfl (take_ofW HT_.out HW_.out tG) (fun _ _ _ h=>h) (Or.inl ⟨vr,?_⟩) hHeld ?_ ?_
     rotate_left
     ·rintro w' ⟨s0,s1,s2,s3⟩
      go_simp
      with_reducible rfl
     rotate_left
     ·simp only [Act.put,lA,lB,lC,bE,bG]
      rfl
     refine one_ (i:=3) (N:=some 13) #[T1,T1,T1,T1,F0,F0,F0,F0] rfl rfl (one_of HT_.out tG) tf (fun K hK=>?_)
     refine goes_ Try.func66 tG rfl #[.pointer (some ⟨g,0,none⟩),.int .i64 2] wN rfl rfl tC ?_
     with_reducible refine (spec_l1Below.calls g s0_0 t322 t323 2 t324 t325 t326 w0 _ ?side1 ?side2 A5.out).mono ?_
     (case side1=>exact tX)
     (case side2=>exact te)
     rintro e w21 ⟨rfl,hi,hb,hk⟩
     refine ⟨_,rfl,?_⟩
     replace BK309:=aA.mk (KeepBut.blk hk (g':=gb309) (o:=.cells #[.slice none 0 0,.slice none 0 0,.int .i64 0,.bool false] 25 (0,0)) BK309.out NB309_0.out vN)
     replace HO312:=aA.mk (Kd.aV (Kd.N_keep (Kd.aV (ok:=fun k_=>((((w.heap.size ≤ k_)) ∧ (some k_ ≠ (.slice Ao18 t313.length co18:Value).ownBlock ∧ (k_ ≠ gb309 ∧ k_ ≠ g))) ∧ k_ ≠ gb320)) HO312.out (fun k_ hk_=>(⟨hk_,hk_.1.2.2.2⟩:_ ∧ k_ ≠ g))) hk (fun _ h=>h.2)) (fun _ h=>h.1))
     replace HO315:=aA.mk (Kd.aV (Kd.N_keep (Kd.aV (ok:=fun k_=>((((w.heap.size ≤ k_)) ∧ (some k_ ≠ (.slice Ao14 t310.length co14:Value).ownBlock ∧ (k_ ≠ gb309 ∧ k_ ≠ g))) ∧ k_ ≠ gb320)) HO315.out (fun k_ hk_=>(⟨hk_,hk_.1.2.2.2⟩:_ ∧ k_ ≠ g))) hk (fun _ h=>h.2)) (fun _ h=>h.1))
     replace BK320:=aA.mk (KeepBut.blk hk (g':=gb320) (o:=.cells #[.slice Ao14 t310.length co14,.slice Ao18 t313.length co18,.int .i64 t316,.bool t317] 25 (0,0)) BK320.out NB320_0.out vN)
     replace HK:=aA.mk (KeepBut.trans tK hk (.inl rfl))
     replace HB:=aA.mk (hb)
     replace HI0:=aA.mk (hi)
     (try clear hb)
     (try clear hb2)
     (try clear hk)
     (try clear hi)
     refine hK.out _ _ ⟨(aD BK320.out 0).trans rfl,(aD BK320.out 1).trans rfl,(aD BK320.out 2).trans rfl,(aD BK320.out 3).trans rfl⟩ (fun hHeld=>?_)
     clear hK K
     refine norm_ (a':=?_) ?_ ?_
     rotate_left
     ·show Act.put _ (some 13) _ = _
      simp only [Act.put,lA,lB,lC,bE,bG]
      rfl
     refine bT (i:=4) (N:=some 14) (v:=?_) (a':=?_) #[T1,T1,T1,T1,T1,F0,F0,F0] rfl rfl (any_of HT_.out tG) (fun _ _ _ h=>h) (Or.inl ⟨vr,?_⟩) ?_ ?_
     rotate_left
     ·intro w'
      go_simp
      with_reducible rfl
     rotate_left
     ·simp only [Act.put,lA,lB,lC,bE,bG]
      rfl
     refine one_ (i:=5) (N:=some 15) #[T1,T1,T1,T1,T1,T1,F0,F0] rfl rfl (one_of HT_.out tG) tf (fun K hK=>?_)
     refine Kd.R_make_step (Kd.int .u8) _ 5 wN (N:=15) rfl 37 _ _ rfl ji6 rfl rfl Try.underlying37 (.int .u8 0) 1 info5 rfl tf tZ 0 (ok:=fun _=>True) (okp:=fun _=>True) rfl (fun _ hk=>hk) trivial (lE tx) (Nat.le_trans (Nat.mul_le_mul_right _ (lE tx:ji6.toNat ≤ 281474976710656)) tZ) (Below.refl _ _) (Nat.le_refl _) ?_
     intro v328 w22 ho23 hb hg_ hnew_
     clear hg_ hnew_
     (first|rw [← Ny327.out] at ho23|(simp only [Int.reduceToNat] at ho23;rw [← Ny327.out] at ho23))
     replace HO312:=aA.mk (Kd.N_elder' HO312.out (Kd.R_base ho23) hb)
     replace HO315:=aA.mk (Kd.N_elder' HO315.out (Kd.R_base ho23) hb)
     have HO329:=aA.mk (Kd.R_lower (Kd.R_newM (M:=fun k_=>(w.heap.size ≤ k_)) ho23 (bQ (w:=w) (g:=g) (row:=none) tK) (fun k_ h_=>h_)) (bQ (w:=w) (g:=g) (row:=none) tK))
     replace BK309:=aA.mk (bM (g:=gb309) (o:=.cells #[.slice none 0 0,.slice none 0 0,.int .i64 0,.bool false] 25 (0,0)) BK309.out hb)
     replace BK320:=aA.mk (bM (g:=gb320) (o:=.cells #[.slice Ao14 t310.length co14,.slice Ao18 t313.length co18,.int .i64 t316,.bool t317] 25 (0,0)) BK320.out hb)
     replace HK:=aA.mk (KeepBut.trans tK (KeepBut.of_below hb g none) (.inl rfl))
     replace HB:=aA.mk (aT vk hb)
     replace HI0:=aA.mk (IsS85.below tz hb)
     clear hb ho23
     have p10:0 ≤ (0:Int):=tZ
     have q10:(0:Int) < ((t310.length:Int):Int):=lE tx
     have qi10:(0 < t310.length) = True:=eq_true tZ
     obtain ⟨go10,co10,eo10,gb10,gl10,cl10,HG10⟩:=Kd.N_form HO312.out tZ
     (first|cases eo10|(injection eo10 with ea_ en_ ec_;(first|subst ea_|(injection ea_ with ea_;subst ea_));subst ec_;clear en_))
     have GB10:=aA.mk gb10
     have GG10:=aA.mk HG10
     clear gb10 gl10 HG10
     obtain ⟨ce10,hcl10,hM10,hcc10,hfr10⟩:=Kd.N_elem HO312.out [] (0:Int) p10 q10
     obtain ⟨ua10_0,uc10_0,rfl,ul10_0,ge10_0⟩:=Kd.FK_slice_open hM10
     have hx10_0:=hcc10 0 _ rfl
     have hf10_0:=hfr10 0
     (try simp only [show ((Kd.slice 5 (Kd.int .u8))).sz = 1 from rfl,Nat.mul_one,Nat.add_zero] at hx10_0)
     (try simp only [show ((Kd.slice 5 (Kd.int .u8))).sz = 1 from rfl,Nat.mul_one,Nat.add_zero] at hf10_0)
     clear hcl10 hcc10 hfr10 hM10
     (try rw [show ((0:Int)).toNat = 0 from rfl] at hx10_0)
     (try simp only [Nat.reduceMul,Nat.zero_mul,Nat.zero_add,Nat.reduceAdd] at hx10_0)
     (try rw [show ((0:Int)).toNat = 0 from rfl] at hf10_0)
     (try simp only [Nat.reduceMul,Nat.zero_mul,Nat.zero_add,Nat.reduceAdd] at hf10_0)
     replace p10:=eq_true p10
     replace q10:=eq_true q10
     have HN0_go10:=aA.mk (show g ≠ go10 from by have h_:=IsS85.own_neN HI0.out HO312.out tf;intro e_;exact h_ (by rw [e_];rfl))
     have HX24:=aA.mk (show Kd.N (Kd.slice 5 (Kd.int .u8)) 37 _ w.heap.size (fun k_=>(w.heap.size ≤ k_) ∧ some k_ ≠ (.slice Ao18 t313.length co18:Value).ownBlock ∧ some k_ ≠ (v328:Value).ownBlock ∧ k_ ≠ gb309 ∧ k_ ≠ gb320 ∧ k_ ≠ g) (.slice (some ⟨go10,0,none⟩) t310.length co14) t310 from (Kd.aV (HO312.out) (fun k_ hk=>⟨hk.1.1.1,⟨hk.1.1.2.1,⟨hk.2,⟨hk.1.1.2.2.1,⟨hk.1.2,hk.1.1.2.2.2⟩⟩⟩⟩⟩)))
     replace HX24:=aA.mk (show Kd.N (Kd.slice 5 (Kd.int .u8)) 37 _ w.heap.size (fun k_=>(w.heap.size ≤ k_) ∧ some k_ ≠ (.slice Ao18 t313.length co18:Value).ownBlock ∧ k_ ≠ gb309 ∧ k_ ≠ gb320 ∧ k_ ≠ g) (.slice (some ⟨go10,0,none⟩) t310.length co14) t310 from Kd.aV HX24.out (fun k_ hk=>⟨hk.1,⟨hk.2.1,⟨hk.2.2.2.1,⟨hk.2.2.2.2.1,hk.2.2.2.2.2⟩⟩⟩⟩))
     obtain ⟨ce24,hcl24,hM24,hcc24,hfr24⟩:=Kd.N_elem HX24.out [] (0:Int) tZ (by have h_:(0:Int) < ((t310.length:Int):Int):=lE tx;first|exact h_|(have e_:=(Kd.N_reads' HO312.out).1;omega)|simpa using h_)
     obtain ⟨ua24_0,uc24_0,rfl,ul24_0,ge24_0⟩:=Kd.FK_slice_open hM24
     have hXr_:=(IsS85.apart HI0.out (Kd.R_types (Kd.R_types (Kd.R_apart' (Kd.R_apart' (HO329.out) (Kd.N_typed HO315.out) tf) (Kd.N_typed HO312.out) tf) BK309.out tf) BK320.out tf) tf)
     have hXm_:=Kd.R_mono (ok':=(fun k_=>((fun k_=>(w.heap.size ≤ k_) ∧ some k_ ≠ (.slice Ao18 t313.length co18:Value).ownBlock ∧ k_ ≠ gb309 ∧ k_ ≠ gb320 ∧ k_ ≠ g)) k_ ∧ k_ ≠ go10)) hXr_ (fun k_ hk=>⟨⟨hk.1.1.1.1.1.1,⟨hk.1.1.1.1.2,⟨hk.1.1.2,⟨hk.1.2,hk.2⟩⟩⟩⟩,fun e_=>(hk.1.1.1.2) (by rw [e_];rfl)⟩)
     obtain ⟨Az_,cz_,ez_⟩:=Kd.R_slice hXm_
     have hXq_:=hXm_
     rw [ez_] at hXq_
     have HP24:=(Kd.N_seg HX24.out (0:Int) tZ (by have h_:(0:Int) < ((t310.length:Int):Int):=lE tx;first|exact h_|(have e_:=(Kd.N_reads' HO312.out).1;omega)|simpa using h_) (seg:=[v328]) (j:=0) hcl24 hcc24 (show 1 ≤ 1 from by decide) (x':=y327) (by rw [ez_];exact Kd.FK_slice_mk (Kd.R_reads' hXq_).2.1 (Kd.R_F hXq_)) (fun _ hk=>hk)).1
     clear hXq_ ez_ hXm_ hXr_
     clear cz_ Az_
     (try simp only [show ((Kd.slice 5 (Kd.int .u8))).sz = 1 from rfl,Nat.mul_one,Nat.add_zero] at HP24)
     rw [← Ny330.out] at HP24
     have HQ24:=aA.mk HP24
     clear hcl24 hcc24 hfr24 hM24 HP24
     refine hK.out _ _ ⟨(aD BK320.out 0).trans rfl,(aD BK320.out 1).trans rfl,(aD BK320.out 2).trans rfl,(aD BK320.out 3).trans rfl⟩ (fun hHeld=>?_)
     clear hK K
     refine norm_ (a':=?_) ?_ ?_
     rotate_left
     ·show Act.put _ (some 15) _ = _
      simp only [Act.put,lA,lB,lC,bE,bG]
      rfl
     refine bT (i:=6) (N:=some 16) (v:=?_) (a':=?_) #[T1,T1,T1,T1,T1,T1,T1,F0] rfl rfl (any_of HT_.out tG) (fun _ _ _ h=>h) (Or.inl ⟨vr,?_⟩) ?_ ?_
     rotate_left
     ·intro w'
      go_simp
      with_reducible rfl
     rotate_left
     ·simp only [Act.put,lA,lB,lC,bE,bG]
      rfl
     refine last_ (i:=7) (N:=none) #[T1,T1,T1,T1,T1,T1,T1,T1] rfl rfl (one_of HT_.out tG) tf (fun K hK=>?_)
     (obtain ⟨Az_,cz_,ez_⟩:=Kd.R_slice HO329.out;subst ez_)
     refine skip_ (w1:=?_) wN rfl ?_ ?_
     rotate_left
     ·go_simp
      rfl
     refine hK.out _ _ ?_
     clear hK K
     refine done_ (done_of HT_.out tG) ?_
     have n0_:aA (Kd.N (Kd.slice 5 (Kd.int .u8)) 37 (w22.setCell ⟨go10,0,none⟩ ((.slice Az_ y327.length cz_))) w.heap.size (fun k_=>(w.heap.size ≤ k_) ∧ some k_ ≠ (.slice Ao18 t313.length co18:Value).ownBlock ∧ k_ ≠ gb309 ∧ k_ ≠ g ∧ k_ ≠ gb320) (.slice (some ⟨go10,0,none⟩) t310.length co14) y330):=⟨by (with_reducible repeat (first|apply Kd.bW|apply Kd.bX|apply Kd.bV));exact Kd.aV HQ24.out (fun _ hk=>⟨hk.1,⟨hk.2.1,⟨hk.2.2.1,⟨hk.2.2.2.2,hk.2.2.2.1⟩⟩⟩⟩)⟩
     have n1_:aA (Kd.N k50 50 (w22.setCell ⟨go10,0,none⟩ ((.slice Az_ y327.length cz_))) w.heap.size (fun k_=>(w.heap.size ≤ k_) ∧ some k_ ≠ (.slice (some ⟨go10,0,none⟩) t310.length co14:Value).ownBlock ∧ k_ ≠ gb309 ∧ k_ ≠ g ∧ k_ ≠ gb320) (.slice Ao18 t313.length co18) t313):=⟨by (with_reducible repeat (first|apply Kd.bW|apply Kd.bX|apply Kd.bV));exact Kd.aV (Kd.bH (p:=⟨go10,0,none⟩) (Kd.aV HO315.out (fun k_ hk=>(⟨hk,fun e_=>hk.1.1.2.1 (by rw [e_];rfl)⟩:_ ∧ k_ ≠ go10))) (fun _ hk=>hk.2) ((.slice Az_ y327.length cz_))) (fun _ hk=>⟨hk.1.1.1.1,⟨hk.1.1.1.2.1,⟨hk.1.1.1.2.2.1,⟨hk.1.1.1.2.2.2,hk.1.1.2⟩⟩⟩⟩)⟩
     have n2_:aA ((w22.setCell ⟨go10,0,none⟩ ((.slice Az_ y327.length cz_))).heap[gb309]? = some (.cells #[.slice none 0 0,.slice none 0 0,.int .i64 0,.bool false] 25 (0,0))):=⟨by (with_reducible repeat (first|refine aM ?_ _|refine aN ?_|refine aG ?_ _));refine bY ?_ (by have h_:=Kd.N_away HO312.out (fun k_ hk=>(by first|exact hk.1.2|exact hk.1.1.2|exact hk.1.1.2.1|exact hk.1.1.2.2|exact hk.1.1.2.2.1|exact hk.1.1.2.2.2|exact hk.1.2.1|exact hk.1.2.2|exact hk.1.2.2.1|exact hk.1.2.2.2|exact hk.1.2.2.2.1|exact hk.1.2.2.2.2:k_ ≠ gb309));intro e_;exact h_ (by rw [e_];rfl)) _;(with_reducible repeat (first|refine aM ?_ _|refine aN ?_|refine aG ?_ _));exact BK309.out⟩
     have n3_:aA ((w22.setCell ⟨go10,0,none⟩ ((.slice Az_ y327.length cz_))).heap[gb320]? = some (.cells #[.slice (some ⟨go10,0,none⟩) t310.length co14,.slice Ao18 t313.length co18,.int .i64 t316,.bool t317] 25 (0,0))):=⟨by (with_reducible repeat (first|refine aM ?_ _|refine aN ?_|refine aG ?_ _));refine bY ?_ (by have h_:=Kd.N_away HO312.out (fun k_ hk=>(by first|exact hk.1.2|exact hk.1.1.2|exact hk.1.1.2.1|exact hk.1.1.2.2|exact hk.1.1.2.2.1|exact hk.1.1.2.2.2|exact hk.1.2.1|exact hk.1.2.2|exact hk.1.2.2.1|exact hk.1.2.2.2|exact hk.1.2.2.2.1|exact hk.1.2.2.2.2:k_ ≠ gb320));intro e_;exact h_ (by rw [e_];rfl)) _;(with_reducible repeat (first|refine aM ?_ _|refine aN ?_|refine aG ?_ _));exact BK320.out⟩
     have n4_:aA (IsS85 w0 (w22.setCell ⟨go10,0,none⟩ ((.slice Az_ y327.length cz_))) g s0_0 t325 t326):=⟨by repeat (first|(with_reducible first|exact HI0.out|apply IsS85.alloc|apply IsS85.drewN|apply IsS85.drew|apply IsS85.set_1|apply IsS85.set_2|apply IsS85.far (hne:=HN0_go10.out)|apply IsS85.far (hne:=NB0_309.out)|apply IsS85.far (hne:=NB0_320.out))|exact HI0.out)⟩
     have n5_:aA (KeepBut w (w22.setCell ⟨go10,0,none⟩ ((.slice Az_ y327.length cz_))) g none):=⟨by repeat (first|(with_reducible first|exact HK.out|apply KeepBut.set_|apply aZ|apply bB|apply bA|refine bF ?_ GB10.out _|refine bF ?_ GW309.out _|refine bF ?_ GW320.out _)|exact HK.out)⟩
     have n6_:aA (Below w0.heap.size w0 (w22.setCell ⟨go10,0,none⟩ ((.slice Az_ y327.length cz_)))):=⟨by repeat (first|(with_reducible first|exact HB.out|apply aJ|apply aE|apply aH|refine aC ?_ (Nat.le_trans HL.out GB10.out)|refine aC ?_ (IsS85.ge HI0.out)|refine aC ?_ GE309.out|refine aC ?_ GE320.out)|exact HB.out)⟩
     (try clear HO312)
     (try clear HO315)
     (try clear BK309)
     (try clear BK320)
     (try clear HI0)
     (try clear HK)
     (try clear HB)
     generalize (w22.setCell ⟨go10,0,none⟩ ((.slice Az_ y327.length cz_))) = w25 at n0_ n1_ n2_ n3_ n4_ n5_ n6_ ⊢
     have HO312:=n0_
     have HO315:=n1_
     have BK309:=n2_
     have BK320:=n3_
     have HI0:=n4_
     have HK:=n5_
     have HB:=n6_
     clear n0_ n1_ n2_ n3_ n4_ n5_ n6_
     obtain ⟨hcz26_0,hcz26_1,hcz26_2,hcz26_3⟩:=cs4 BK320.out
     obtain ⟨hfz26_0,hfz26_1,hfz26_2,hfz26_3⟩:=fs4 BK320.out
     have hnb27:=NB309_0.out
     have hnc27:=NB0_309.out
     obtain ⟨hcz28_0,hcz28_1,hcz28_2,hcz28_3⟩:=cs4 BK309.out
     obtain ⟨hfz28_0,hfz28_1,hfz28_2,hfz28_3⟩:=fs4 BK309.out
     try go_wp2
     refine bodyPost_ret (results_cell_row rfl _ _ gb309 25 #[.slice (some ⟨go10,0,none⟩) t310.length co14,.slice Ao18 t313.length co18,.int .i64 t316,.bool t317] (0,0) _ rfl (by (with_reducible repeat (first|refine aM ?_ _|refine aN ?_|refine aG ?_ _));refine aQ (cs:=#[.slice (some ⟨go10,0,none⟩) t310.length co14,.slice Ao18 t313.length co18,.int .i64 t316,.bool false]) ?_ 3 _ rfl;(with_reducible repeat (first|refine aM ?_ _|refine aN ?_|refine aG ?_ _));refine aQ (cs:=#[.slice (some ⟨go10,0,none⟩) t310.length co14,.slice Ao18 t313.length co18,.int .i64 0,.bool false]) ?_ 2 _ rfl;(with_reducible repeat (first|refine aM ?_ _|refine aN ?_|refine aG ?_ _));refine aQ (cs:=#[.slice (some ⟨go10,0,none⟩) t310.length co14,.slice none 0 0,.int .i64 0,.bool false]) ?_ 1 _ rfl;(with_reducible repeat (first|refine aM ?_ _|refine aN ?_|refine aG ?_ _));refine aQ (cs:=#[.slice none 0 0,.slice none 0 0,.int .i64 0,.bool false]) ?_ 0 _ rfl;(with_reducible repeat (first|refine aM ?_ _|refine aN ?_|refine aG ?_ _));exact BK309.out) Try.underlying25 rfl tG) rfl ?_
     exact ⟨_,_,by first|rfl|(simp [errW_none,errW_some] <;> rfl)|(simp only [← hji6];first|rfl|(simp [errW_none,errW_some] <;> rfl))|(simp [*,errW_none,errW_some] <;> rfl),by (with_reducible repeat (first|apply Kd.bW|apply Kd.bX|apply Kd.bV));exact Kd.aV (Kd.bH (p:=⟨gb309,3,none⟩) (Kd.bH (p:=⟨gb309,2,none⟩) (Kd.bH (p:=⟨gb309,1,none⟩) (Kd.bH (p:=⟨gb309,0,none⟩) (Kd.aV HO312.out (fun k_ hk=>(⟨hk,hk.2.2.1⟩:_ ∧ k_ ≠ gb309))) (fun _ hk=>hk.2) (.slice (some ⟨go10,0,none⟩) t310.length co14)) (fun _ hk=>hk.2) (.slice Ao18 t313.length co18)) (fun _ hk=>hk.2) (.int .i64 t316)) (fun _ hk=>hk.2) (.bool t317)) (fun _ hk=>⟨hk.1.1,hk.1.2.1⟩),by (with_reducible repeat (first|apply Kd.bW|apply Kd.bX|apply Kd.bV));exact Kd.aV (Kd.bH (p:=⟨gb309,3,none⟩) (Kd.bH (p:=⟨gb309,2,none⟩) (Kd.bH (p:=⟨gb309,1,none⟩) (Kd.bH (p:=⟨gb309,0,none⟩) (Kd.aV HO315.out (fun k_ hk=>(⟨hk,hk.2.2.1⟩:_ ∧ k_ ≠ gb309))) (fun _ hk=>hk.2) (.slice (some ⟨go10,0,none⟩) t310.length co14)) (fun _ hk=>hk.2) (.slice Ao18 t313.length co18)) (fun _ hk=>hk.2) (.int .i64 t316)) (fun _ hk=>hk.2) (.bool t317)) (fun _ hk=>⟨hk.1.1,hk.1.2.1⟩),th,t0,t5⟩
    ·rw [if_neg c9] at H
     exact wX
   ·rw [if_neg c8] at H
    exact wX
  ·rw [if_neg c7] at H
   exact wX
 ·rw [if_neg c4] at H
  have c4b0:(t321 == 0) = false:=beq_eq_false_iff_ne.mpr c4
  have c4b1:(t321 != 0) = true:=bne_iff_ne.mpr c4
  by_cases c29:t321 = 1
  ·rw [if_pos c29] at H
   have c29b0:(t321 == 1) = true:=beq_iff_eq.mpr c29
   have c29b1:(t321 != 1) = false:=bne_eq_false_iff_eq.mpr c29
   clear c29
   obtain ⟨y331,hy331⟩:∃ y_:List Int,y_ = (([(-1),0,99]:List Int)):=⟨_,rfl⟩
   replace H:((spec_l1Int.f s0_0 t322 t323 y331).bind fun bt334=>((spec_l1Bytes.f k s0_0 bt334.2.1 bt334.2.2 2).bind fun bt337=>(if t313.length < 4398046511104 then (some (t310,(t313 ++ [(⟨bt334.1,bt337.1⟩:S50)]),t316,t317,bt337.2.1,bt337.2.2)) else (none)))) = some (r1,r2,r3,r4,r5,r6):=by first|(rw [hy331];with_reducible exact H)|(have H2_:=(Option.bind_some _ _).symm.trans H;rw [hy331];with_reducible exact H2_)|(have H2_:=(Option.bind_some _ _).symm.trans H;with_reducible exact H2_)|with_reducible exact H|(rw [hy331];exact H)|exact H
   have Ny331:=aA.mk hy331
   clear hy331
   replace H:=lF H
   obtain ⟨⟨t334,t335,t336⟩,A300,H⟩:=H
   replace H:((spec_l1Bytes.f k s0_0 t335 t336 2).bind fun bt337=>(if t313.length < 4398046511104 then (some (t310,(t313 ++ [(⟨t334,bt337.1⟩:S50)]),t316,t317,bt337.2.1,bt337.2.2)) else (none))) = some (r1,r2,r3,r4,r5,r6):=H
   have A30:=aA.mk A300
   clear A300
   replace H:=lF H
   obtain ⟨⟨t337,t340,t341⟩,A310,H⟩:=H
   replace H:(if t313.length < 4398046511104 then (some (t310,(t313 ++ [(⟨t334,t337⟩:S50)]),t316,t317,t340,t341)) else (none)) = some (r1,r2,r3,r4,r5,r6):=H
   have A31:=aA.mk A310
   clear A310
   by_cases c32:t313.length < 4398046511104
   ·rw [if_pos c32] at H
    have LMc32:=aA.mk c32
    clear c32
    obtain ⟨y342,hy342⟩:∃ y_:List (S50),y_ = (t313 ++ [(⟨t334,t337⟩:S50)]):=⟨_,rfl⟩
    replace H:(some (t310,y342,t316,t317,t340,t341)) = some (r1,r2,r3,r4,r5,r6):=by first|(rw [hy342];with_reducible exact H)|(have H2_:=(Option.bind_some _ _).symm.trans H;rw [hy342];with_reducible exact H2_)|(have H2_:=(Option.bind_some _ _).symm.trans H;with_reducible exact H2_)|with_reducible exact H|(rw [hy342];exact H)|exact H
    have Ny342:=aA.mk hy342
    clear hy342
    simp only [Option.some.injEq,Prod.mk.injEq] at H
    obtain ⟨rfl,rfl,rfl,rfl,rfl,rfl⟩:=H
    go_enter Try.func63,Try.ntmps63
    try go_wp2_with (first|((with_reducible refine bC (N:=2) rfl ?_);refine bD ?hg (N:=2) ?hd (cs:=#[.slice none 0 0,.slice none 0 0,.int .i64 0,.bool false]) (t:=25) ?hr ?_;(case hd=>rfl);(case hg=>rfl);(case hr=>exact tE);intro gb309 hg w33 hbox hb;replace HB:=aA.mk (aT vE hb);have BK309:=aA.mk (hbox);have GW309:=aA.mk ((by rw [hg];exact (bQ (w:=w) (g:=g) (row:=none) tQ):w.heap.size ≤ gb309));have GE309:=aA.mk ((Nat.le_trans HW0.out (by rw [hg];exact (bQ (w:=w) (g:=g) (row:=none) tQ):w.heap.size ≤ gb309):w0.heap.size ≤ gb309));replace HK:=aA.mk (KeepBut.trans tQ (KeepBut.of_below hb g none) (.inl rfl));have NB0_309:=aA.mk ((by rw [hg];exact Nat.ne_of_lt (IsS85.lt (show IsS85 w0 _ g s0_0 s0_1 s0_2 from by repeat (first|(with_reducible first|exact HI0.out|apply IsS85.alloc|apply IsS85.drewN|apply IsS85.drew|apply IsS85.set_1|apply IsS85.set_2)|exact HI0.out))):g ≠ gb309));have NB309_0:=aA.mk ((by rw [hg];exact Nat.ne_of_gt (IsS85.lt (show IsS85 w0 _ g s0_0 s0_1 s0_2 from by repeat (first|(with_reducible first|exact HI0.out|apply IsS85.alloc|apply IsS85.drewN|apply IsS85.drew|apply IsS85.set_1|apply IsS85.set_2)|exact HI0.out))):gb309 ≠ g));replace HI0:=aA.mk (IsS85.below t6 hb);clear hb hbox hg)|((with_reducible refine aW (f:=62) rfl ?_);refine bK (some 5) rfl rfl Try.func62 tG rfl #[.pointer (some ⟨g,0,none⟩)] rfl tC ?_;(with_reducible refine (spec_l2Draw.calls k g s0_0 s0_1 s0_2 t310 t313 t316 t317 t318 t319 w0 _ ?side1 ?side2 A2.out).mono ?_);(case side1=>exact vB);(case side2=>exact vQ);rintro e w34 ⟨v311,v314,rfl,ho0,ho1,hi,hb,hk⟩;refine ⟨_,rfl,?_⟩;have HO312:=aA.mk (Kd.N_lower (Kd.aV (ok':=fun k_=>(w.heap.size ≤ k_) ∧ some k_ ≠ (v314:Value).ownBlock ∧ k_ ≠ gb309 ∧ k_ ≠ g) ho0 (fun k_ hk_=>⟨(Nat.le_trans (bQ (w:=w) (g:=g) (row:=none) tD) hk_.1),hk_.2,(Kd.freshB (g:=gb309) (o:=.cells #[.slice none 0 0,.slice none 0 0,.int .i64 0,.bool false] 25 (0,0)) BK309.out k_ hk_.1),(IsS85.fresh tP k_ hk_.1)⟩)) (bQ (w:=w) (g:=g) (row:=none) tD));have HO315:=aA.mk (Kd.N_lower (Kd.aV (ok':=fun k_=>(w.heap.size ≤ k_) ∧ some k_ ≠ (v311:Value).ownBlock ∧ k_ ≠ gb309 ∧ k_ ≠ g) ho1 (fun k_ hk_=>⟨(Nat.le_trans (bQ (w:=w) (g:=g) (row:=none) tD) hk_.1),hk_.2,(Kd.freshB (g:=gb309) (o:=.cells #[.slice none 0 0,.slice none 0 0,.int .i64 0,.bool false] 25 (0,0)) BK309.out k_ hk_.1),(IsS85.fresh tP k_ hk_.1)⟩)) (bQ (w:=w) (g:=g) (row:=none) tD));replace BK309:=aA.mk (KeepBut.blk hk (g':=gb309) (o:=.cells #[.slice none 0 0,.slice none 0 0,.int .i64 0,.bool false] 25 (0,0)) BK309.out NB309_0.out vN);replace HK:=aA.mk (KeepBut.trans tD hk (.inl rfl));replace HB:=aA.mk (hb);replace HI0:=aA.mk (hi);(try clear hb);(try clear hk);(try clear hi);(try clear ho0);(try clear ho1))|((with_reducible refine bC (N:=3) rfl ?_);refine bD ?hg (N:=3) ?hd (cs:=#[.slice none 0 0,.slice none 0 0,.int .i64 0,.bool false]) (t:=25) ?hr ?_;(case hd=>rfl);(case hg=>rfl);(case hr=>exact tE);intro gb320 hg w35 hbox hb;replace HO312:=aA.mk (Kd.N_below (Kd.N_elderB HO312.out gb320 (Nat.le_of_eq hg.symm)) hb);replace HO315:=aA.mk (Kd.N_below (Kd.N_elderB HO315.out gb320 (Nat.le_of_eq hg.symm)) hb);replace HB:=aA.mk (aT vL hb);have BK320:=aA.mk (hbox);have GW320:=aA.mk ((by rw [hg];exact (bQ (w:=w) (g:=g) (row:=none) tD):w.heap.size ≤ gb320));have GE320:=aA.mk ((Nat.le_trans HW0.out (by rw [hg];exact (bQ (w:=w) (g:=g) (row:=none) tD):w.heap.size ≤ gb320):w0.heap.size ≤ gb320));replace HK:=aA.mk (KeepBut.trans tD (KeepBut.of_below hb g none) (.inl rfl));have NB309_320:=aA.mk ((by rw [hg];exact Nat.ne_of_lt (bJ (g:=gb309) (o:=.cells #[.slice none 0 0,.slice none 0 0,.int .i64 0,.bool false] 25 (0,0)) BK309.out):gb309 ≠ gb320));have NB320_309:=aA.mk ((by rw [hg];exact Nat.ne_of_gt (bJ (g:=gb309) (o:=.cells #[.slice none 0 0,.slice none 0 0,.int .i64 0,.bool false] 25 (0,0)) BK309.out):gb320 ≠ gb309));replace BK309:=aA.mk (bM (g:=gb309) (o:=.cells #[.slice none 0 0,.slice none 0 0,.int .i64 0,.bool false] 25 (0,0)) BK309.out hb);have NB0_320:=aA.mk ((by rw [hg];exact Nat.ne_of_lt (IsS85.lt (show IsS85 w0 _ g s0_0 t318 t319 from by repeat (first|(with_reducible first|exact HI0.out|apply IsS85.alloc|apply IsS85.drewN|apply IsS85.drew|apply IsS85.set_1|apply IsS85.set_2|apply IsS85.far (hne:=NB0_309.out))|exact HI0.out))):g ≠ gb320));have NB320_0:=aA.mk ((by rw [hg];exact Nat.ne_of_gt (IsS85.lt (show IsS85 w0 _ g s0_0 t318 t319 from by repeat (first|(with_reducible first|exact HI0.out|apply IsS85.alloc|apply IsS85.drewN|apply IsS85.drew|apply IsS85.set_1|apply IsS85.set_2|apply IsS85.far (hne:=NB0_309.out))|exact HI0.out))):gb320 ≠ g));replace HI0:=aA.mk (IsS85.below tP hb);clear hb hbox hg;obtain ⟨Ao36,co36,eo36⟩:=Kd.cB HO312.out;subst eo36;have hnb37:=NB320_309.out;have hnc37:=NB309_320.out;have hnb38:=NB320_0.out;have hnc38:=NB0_320.out;obtain ⟨hcz39_0,hcz39_1,hcz39_2,hcz39_3⟩:=cs4 BK320.out;obtain ⟨hfz39_0,hfz39_1,hfz39_2,hfz39_3⟩:=fs4 BK320.out;obtain ⟨Ao40,co40,eo40⟩:=Kd.cB HO315.out;subst eo40)|((with_reducible refine aW (f:=66) rfl ?_);refine bK (some 7) rfl rfl Try.func66 tG rfl #[.pointer (some ⟨g,0,none⟩),.int .i64 12] rfl tC ?_;(with_reducible refine (spec_l1Below.calls g s0_0 t318 t319 12 t321 t322 t323 w0 _ ?side1 ?side2 A3.out).mono ?_);(case side1=>exact tX);(case side2=>exact te);rintro e w41 ⟨rfl,hi,hb,hk⟩;refine ⟨_,rfl,?_⟩;replace BK309:=aA.mk (KeepBut.blk hk (g':=gb309) (o:=.cells #[.slice none 0 0,.slice none 0 0,.int .i64 0,.bool false] 25 (0,0)) tV NB309_0.out vN);replace HO312:=aA.mk (Kd.aV (Kd.N_keep (Kd.aV (ok:=fun k_=>((((w.heap.size ≤ k_)) ∧ (some k_ ≠ (.slice Ao40 t313.length co40:Value).ownBlock ∧ (k_ ≠ gb309 ∧ k_ ≠ g))) ∧ k_ ≠ gb320)) (by (with_reducible repeat (first|apply Kd.bW|apply Kd.bX|apply Kd.bV));exact (Kd.aV (Kd.bH (p:=⟨gb320,3,none⟩) (Kd.bH (p:=⟨gb320,2,none⟩) (Kd.bH (p:=⟨gb320,1,none⟩) (Kd.bH (p:=⟨gb320,0,none⟩) (Kd.aV HO312.out (fun k_ hk=>(⟨hk,hk.2⟩:_ ∧ k_ ≠ gb320))) (fun _ hk=>hk.2) (.slice Ao36 t310.length co36)) (fun _ hk=>hk.2) (.slice Ao40 t313.length co40)) (fun _ hk=>hk.2) (.int .i64 t316)) (fun _ hk=>hk.2) (.bool t317)) (fun _ h_=>h_.1))) (fun k_ hk_=>(⟨hk_,hk_.1.2.2.2⟩:_ ∧ k_ ≠ g))) hk (fun _ h=>h.2)) (fun _ h=>h.1));replace HO315:=aA.mk (Kd.aV (Kd.N_keep (Kd.aV (ok:=fun k_=>((((w.heap.size ≤ k_)) ∧ (some k_ ≠ (.slice Ao36 t310.length co36:Value).ownBlock ∧ (k_ ≠ gb309 ∧ k_ ≠ g))) ∧ k_ ≠ gb320)) (by (with_reducible repeat (first|apply Kd.bW|apply Kd.bX|apply Kd.bV));exact (Kd.aV (Kd.bH (p:=⟨gb320,3,none⟩) (Kd.bH (p:=⟨gb320,2,none⟩) (Kd.bH (p:=⟨gb320,1,none⟩) (Kd.bH (p:=⟨gb320,0,none⟩) (Kd.aV HO315.out (fun k_ hk=>(⟨hk,hk.2⟩:_ ∧ k_ ≠ gb320))) (fun _ hk=>hk.2) (.slice Ao36 t310.length co36)) (fun _ hk=>hk.2) (.slice Ao40 t313.length co40)) (fun _ hk=>hk.2) (.int .i64 t316)) (fun _ hk=>hk.2) (.bool t317)) (fun _ h_=>h_.1))) (fun k_ hk_=>(⟨hk_,hk_.1.2.2.2⟩:_ ∧ k_ ≠ g))) hk (fun _ h=>h.2)) (fun _ h=>h.1));replace BK320:=aA.mk (KeepBut.blk hk (g':=gb320) (o:=.cells #[.slice Ao36 t310.length co36,.slice Ao40 t313.length co40,.int .i64 t316,.bool t317] 25 (0,0)) (by (with_reducible repeat (first|refine aM ?_ _|refine aN ?_|refine aG ?_ _));refine aQ (cs:=#[.slice Ao36 t310.length co36,.slice Ao40 t313.length co40,.int .i64 t316,.bool false]) ?_ 3 _ rfl;(with_reducible repeat (first|refine aM ?_ _|refine aN ?_|refine aG ?_ _));refine aQ (cs:=#[.slice Ao36 t310.length co36,.slice Ao40 t313.length co40,.int .i64 0,.bool false]) ?_ 2 _ rfl;(with_reducible repeat (first|refine aM ?_ _|refine aN ?_|refine aG ?_ _));refine aQ (cs:=#[.slice Ao36 t310.length co36,.slice none 0 0,.int .i64 0,.bool false]) ?_ 1 _ rfl;(with_reducible repeat (first|refine aM ?_ _|refine aN ?_|refine aG ?_ _));refine aQ (cs:=#[.slice none 0 0,.slice none 0 0,.int .i64 0,.bool false]) ?_ 0 _ rfl;(with_reducible repeat (first|refine aM ?_ _|refine aN ?_|refine aG ?_ _));exact BK320.out) NB320_0.out vN);replace HK:=aA.mk (KeepBut.trans tK hk (.inl rfl));replace HB:=aA.mk (hb);replace HI0:=aA.mk (hi);(try clear hb);(try clear hk);(try clear hi)))
    replace HO312:=aA.mk (Kd.bV HO312.out)
    replace HO315:=aA.mk (Kd.bV HO315.out)
    replace BK309:=aA.mk (aN BK309.out)
    replace BK320:=aA.mk (aN BK320.out)
    replace HI0:=aA.mk (IsS85.drew HI0.out)
    replace HK:=aA.mk (bB HK.out)
    replace HB:=aA.mk (aH HB.out)
    refine start_ (n:=12) (S:=fun w'=>w'.cell? ⟨gb320,0,none⟩ = some (.slice Ao36 t310.length co36) ∧ w'.cell? ⟨gb320,1,none⟩ = some (.slice Ao40 t313.length co40) ∧ w'.cell? ⟨gb320,2,none⟩ = some (.int .i64 t316) ∧ w'.cell? ⟨gb320,3,none⟩ = some (.bool t317)) (ds:=[11]) #[F0,F0,F0,F0,F0,F0,F0,F0,F0,F0,F0,F0] tG rfl rfl ⟨(aD BK320.out 0).trans rfl,(aD BK320.out 1).trans rfl,(aD BK320.out 2).trans rfl,(aD BK320.out 3).trans rfl⟩ (fun hHeld=>?_);refine with_tabW spec_l2Any.tab6 spec_l2Any.bits6 (fun HT_ HW_=>?_)
    generalize w41.drew = w42 at HO312 HO315 BK309 BK320 HI0 HK HB hHeld ⊢
    refine bT (i:=0) (N:=some 19) (v:=?_) (a':=?_) #[T1,F0,F0,F0,F0,F0,F0,F0,F0,F0,F0,F0] rfl rfl (any_of HT_.out tG) (fun _ _ _ h=>h) (Or.inl ⟨vr,?_⟩) ?_ ?_
    rotate_left
    ·intro w'
     go_simp
     with_reducible rfl
    rotate_left
    ·simp only [Act.put,lA,lB,lC,bE,bG]
     rfl
    refine bT (i:=2) (N:=some 21) (v:=?_) (a':=?_) #[T1,F0,T1,F0,F0,F0,F0,F0,F0,F0,F0,F0] rfl rfl (any_of HT_.out tG) (fun _ _ _ h=>h) (Or.inl ⟨vr,?_⟩) ?_ ?_
    rotate_left
    ·intro w'
     go_simp
     with_reducible rfl
    rotate_left
    ·simp only [Act.put,lA,lB,lC,bE,bG]
     rfl
    refine bT (i:=5) (N:=some 24) (v:=?_) (a':=?_) #[T1,F0,T1,F0,F0,T1,F0,F0,F0,F0,F0,F0] rfl rfl (any_of HT_.out tG) (fun _ _ _ h=>h) (Or.inl ⟨vr,?_⟩) ?_ ?_
    rotate_left
    ·intro w'
     go_simp
     with_reducible rfl
    rotate_left
    ·simp only [Act.put,lA,lB,lC,bE,bG]
     rfl
    refine take_ (i:=1) (N:=some 20) (v:=?_) (a':=?_) #[T1,T1,T1,F0,F0,T1,F0,F0,F0,F0,F0,F0] rfl rfl (take_ofW HT_.out HW_.out tG) (fun _ _ _ h=>h) (Or.inl ⟨vr,?_⟩) hHeld ?_ ?_
    rotate_left
    ·rintro w' ⟨s0,s1,s2,s3⟩
     go_simp
     with_reducible rfl
    rotate_left
    ·simp only [Act.put,lA,lB,lC,bE,bG]
     rfl
    refine one_ (i:=3) (N:=some 22) #[T1,T1,T1,T1,F0,T1,F0,F0,F0,F0,F0,F0] rfl rfl (one_of HT_.out tG) tf (fun K hK=>?_)
    refine Kd.R_lit_step (Kd.int .i64) _ 3 ?hg (N:=22) ?hd (xs:=([(-1),0,99]:List Int)) (inner:=[.int .i64 (-1),.int .i64 0,.int .i64 99]) (ok:=fun _=>True) (okp:=fun _=>True) ?hr ?hp (fun _ hk=>hk) trivial (Below.refl _ _) (Nat.le_refl _) vN ?_;(case hd=>rfl);(case hg=>rfl);(case hr=>exact tE);(case hp=>exact (Reps.one (show Kd.M (Kd.int .i64) _ _ _ (-1) [.int .i64 (-1)] from rfl) (Reps.one (show Kd.M (Kd.int .i64) _ _ _ 0 [.int .i64 0] from rfl) (Reps.one (show Kd.M (Kd.int .i64) _ _ _ 99 [.int .i64 99] from rfl) (Reps.none _ _)))))
    intro v332 w43 ho44 hb hg_ hnew_
    clear hg_ hnew_
    (first|rw [← Ny331.out] at ho44|(simp only [Int.reduceToNat] at ho44;rw [← Ny331.out] at ho44))
    replace HO312:=aA.mk (Kd.N_elder' HO312.out (Kd.R_base ho44) hb)
    replace HO315:=aA.mk (Kd.N_elder' HO315.out (Kd.R_base ho44) hb)
    have HO333:=aA.mk (Kd.R_lower (Kd.R_newM (M:=fun k_=>(w.heap.size ≤ k_)) ho44 (bQ (w:=w) (g:=g) (row:=none) tK) (fun k_ h_=>h_)) (bQ (w:=w) (g:=g) (row:=none) tK))
    replace BK309:=aA.mk (bM (g:=gb309) (o:=.cells #[.slice none 0 0,.slice none 0 0,.int .i64 0,.bool false] 25 (0,0)) BK309.out hb)
    replace BK320:=aA.mk (bM (g:=gb320) (o:=.cells #[.slice Ao36 t310.length co36,.slice Ao40 t313.length co40,.int .i64 t316,.bool t317] 25 (0,0)) BK320.out hb)
    replace HK:=aA.mk (KeepBut.trans tK (KeepBut.of_below hb g none) (.inl rfl))
    replace HB:=aA.mk (aT vk hb)
    replace HI0:=aA.mk (IsS85.below tz hb)
    clear hb ho44
    obtain ⟨Ao45,co45,eo45⟩:=Kd.R_slice HO333.out
    (first|subst eo45|(injection eo45 with f1_ f2_ f3_;have f4_:=f1_.symm;have f5_:=f3_.symm;clear f1_ f2_ f3_;subst f4_;subst f5_))
    refine hK.out _ _ ⟨(aD BK320.out 0).trans rfl,(aD BK320.out 1).trans rfl,(aD BK320.out 2).trans rfl,(aD BK320.out 3).trans rfl⟩ (fun hHeld=>?_)
    clear hK K
    refine norm_ (a':=?_) ?_ ?_
    rotate_left
    ·show Act.put _ (some 22) _ = _
     simp only [Act.put,lA,lB,lC,bE,bG]
     rfl
    refine one_ (i:=4) (N:=some 23) #[T1,T1,T1,T1,T1,T1,F0,F0,F0,F0,F0,F0] rfl rfl (one_of HT_.out tG) tf (fun K hK=>?_)
    refine goes_ Try.func64 tG rfl #[.pointer (some ⟨g,0,none⟩),.slice Ao45 y331.length co45] wN rfl rfl tC ?_
    with_reducible refine (spec_l1Int.calls g s0_0 t322 t323 _ _ y331 t334 t335 t336 w0 _ ?side1 ?side2 ?side3 ?side4 ?side5 A30.out).mono ?_
    (case side1=>exact tX)
    (case side2=>exact te)
    (case side3=>repeat (first|exact (Kd.R_reads' HO333.out).2.2|(with_reducible refine Kd.C_alloc ?_ _)|(with_reducible refine Kd.C_drewN ?_ _)|(with_reducible refine Kd.C_drew ?_)))
    (case side4=>exact (Kd.R_reads' HO333.out).2.1)
    (case side5=>exact far_slice (IsS85.own_ne HI0.out HO333.out tf))
    rintro e w46 ⟨rfl,hi,hb,hk⟩
    refine ⟨_,rfl,?_⟩
    replace BK309:=aA.mk (KeepBut.blk hk (g':=gb309) (o:=.cells #[.slice none 0 0,.slice none 0 0,.int .i64 0,.bool false] 25 (0,0)) BK309.out NB309_0.out vN)
    replace HO312:=aA.mk (Kd.aV (Kd.N_keep (Kd.aV (ok:=fun k_=>(((((w.heap.size ≤ k_)) ∧ (some k_ ≠ (.slice Ao40 t313.length co40:Value).ownBlock ∧ (k_ ≠ gb309 ∧ k_ ≠ g))) ∧ k_ ≠ gb320) ∧ some k_ ≠ (.slice Ao45 y331.length co45:Value).ownBlock)) HO312.out (fun k_ hk_=>(⟨hk_,hk_.1.1.2.2.2⟩:_ ∧ k_ ≠ g))) hk (fun _ h=>h.2)) (fun _ h=>h.1))
    replace HO315:=aA.mk (Kd.aV (Kd.N_keep (Kd.aV (ok:=fun k_=>(((((w.heap.size ≤ k_)) ∧ (some k_ ≠ (.slice Ao36 t310.length co36:Value).ownBlock ∧ (k_ ≠ gb309 ∧ k_ ≠ g))) ∧ k_ ≠ gb320) ∧ some k_ ≠ (.slice Ao45 y331.length co45:Value).ownBlock)) HO315.out (fun k_ hk_=>(⟨hk_,hk_.1.1.2.2.2⟩:_ ∧ k_ ≠ g))) hk (fun _ h=>h.2)) (fun _ h=>h.1))
    replace BK320:=aA.mk (KeepBut.blk hk (g':=gb320) (o:=.cells #[.slice Ao36 t310.length co36,.slice Ao40 t313.length co40,.int .i64 t316,.bool t317] 25 (0,0)) BK320.out NB320_0.out vN)
    replace HO333:=aA.mk (Kd.R_mono (Kd.R_keep (IsS85.apart (show IsS85 w0 _ g s0_0 t322 t323 from by repeat (first|(with_reducible first|exact HI0.out|apply IsS85.alloc|apply IsS85.drewN|apply IsS85.drew|apply IsS85.set_1|apply IsS85.set_2|apply IsS85.far (hne:=NB0_309.out)|apply IsS85.far (hne:=NB0_320.out))|exact HI0.out)) HO333.out tf) hk (fun _ h=>h.2)) (fun _ h=>h.1))
    replace HK:=aA.mk (KeepBut.trans tK hk (.inl rfl))
    replace HB:=aA.mk (hb)
    replace HI0:=aA.mk (hi)
    (try clear hb)
    (try clear hb2)
    (try clear hk)
    (try clear hi)
    refine hK.out _ _ ⟨(aD BK320.out 0).trans rfl,(aD BK320.out 1).trans rfl,(aD BK320.out 2).trans rfl,(aD BK320.out 3).trans rfl⟩ (fun hHeld=>?_)
    clear hK K
    refine norm_ (a':=?_) ?_ ?_
    rotate_left
    ·show Act.put _ (some 23) _ = _
     simp only [Act.put,lA,lB,lC,bE,bG]
     rfl
    refine one_ (i:=6) (N:=some 25) #[T1,T1,T1,T1,T1,T1,T1,F0,F0,F0,F0,F0] rfl rfl (one_of HT_.out tG) tf (fun K hK=>?_)
    refine goes_ Try.func65 tG rfl #[.pointer (some ⟨g,0,none⟩),.int .i64 2] wN rfl rfl tC ?_
    with_reducible refine (spec_l1Bytes.calls k g s0_0 t335 t336 2 t337 t340 t341 w0 _ ?side1 ?side2 A31.out).mono ?_
    (case side1=>exact tX)
    (case side2=>exact te)
    rintro e w47 ⟨v338,rfl,ho0,hi,hb,hk⟩
    refine ⟨_,rfl,?_⟩
    replace BK309:=aA.mk (KeepBut.blk hk (g':=gb309) (o:=.cells #[.slice none 0 0,.slice none 0 0,.int .i64 0,.bool false] 25 (0,0)) BK309.out NB309_0.out vN)
    replace HO312:=aA.mk (Kd.aV (Kd.N_told (Kd.N_oldK (Kd.aV (ok:=fun k_=>(((((w.heap.size ≤ k_)) ∧ (some k_ ≠ (.slice Ao40 t313.length co40:Value).ownBlock ∧ (k_ ≠ gb309 ∧ k_ ≠ g))) ∧ k_ ≠ gb320) ∧ some k_ ≠ (.slice Ao45 y331.length co45:Value).ownBlock)) HO312.out (fun k_ hk_=>(⟨hk_,hk_.1.1.2.2.2⟩:_ ∧ k_ ≠ g))) hk) (Kd.R_base ho0)) (fun _ h_=>h_.1))
    replace HO315:=aA.mk (Kd.aV (Kd.N_told (Kd.N_oldK (Kd.aV (ok:=fun k_=>(((((w.heap.size ≤ k_)) ∧ (some k_ ≠ (.slice Ao36 t310.length co36:Value).ownBlock ∧ (k_ ≠ gb309 ∧ k_ ≠ g))) ∧ k_ ≠ gb320) ∧ some k_ ≠ (.slice Ao45 y331.length co45:Value).ownBlock)) HO315.out (fun k_ hk_=>(⟨hk_,hk_.1.1.2.2.2⟩:_ ∧ k_ ≠ g))) hk) (Kd.R_base ho0)) (fun _ h_=>h_.1))
    replace BK320:=aA.mk (KeepBut.blk hk (g':=gb320) (o:=.cells #[.slice Ao36 t310.length co36,.slice Ao40 t313.length co40,.int .i64 t316,.bool t317] 25 (0,0)) BK320.out NB320_0.out vN)
    replace HO333:=aA.mk (Kd.R_mono (Kd.R_keep (IsS85.apart (show IsS85 w0 _ g s0_0 t335 t336 from by repeat (first|(with_reducible first|exact HI0.out|apply IsS85.alloc|apply IsS85.drewN|apply IsS85.drew|apply IsS85.set_1|apply IsS85.set_2|apply IsS85.far (hne:=NB0_309.out)|apply IsS85.far (hne:=NB0_320.out))|exact HI0.out)) HO333.out tf) hk (fun _ h=>h.2)) (fun _ h=>h.1))
    have HO339:=aA.mk (Kd.R_lower (Kd.R_newM (M:=fun k_=>(w.heap.size ≤ k_)) ho0 (bQ (w:=w) (g:=g) (row:=none) tK) (fun k_ h_=>h_)) (bQ (w:=w) (g:=g) (row:=none) tK))
    replace HK:=aA.mk (KeepBut.trans tK hk (.inl rfl))
    replace HB:=aA.mk (hb)
    replace HI0:=aA.mk (hi)
    (try clear hb)
    (try clear hb2)
    (try clear hk)
    (try clear hi)
    (try clear ho0)
    obtain ⟨Ao48,co48,eo48⟩:=Kd.R_slice HO339.out
    (first|subst eo48|(injection eo48 with f1_ f2_ f3_;have f4_:=f1_.symm;have f5_:=f3_.symm;clear f1_ f2_ f3_;subst f4_;subst f5_))
    refine hK.out _ _ ⟨(aD BK320.out 0).trans rfl,(aD BK320.out 1).trans rfl,(aD BK320.out 2).trans rfl,(aD BK320.out 3).trans rfl⟩ (fun hHeld=>?_)
    clear hK K
    refine norm_ (a':=?_) ?_ ?_
    rotate_left
    ·show Act.put _ (some 25) _ = _
     simp only [Act.put,lA,lB,lC,bE,bG]
     rfl
    refine bT (i:=7) (N:=some 26) (v:=?_) (a':=?_) #[T1,T1,T1,T1,T1,T1,T1,T1,F0,F0,F0,F0] rfl rfl (any_of HT_.out tG) (fun _ _ _ h=>h) (Or.inl ⟨vr,?_⟩) ?_ ?_
    rotate_left
    ·intro w'
     go_simp
     with_reducible rfl
    rotate_left
    ·simp only [Act.put,lA,lB,lC,bE,bG]
     rfl
    refine one_ (i:=8) (N:=some 27) #[T1,T1,T1,T1,T1,T1,T1,T1,T1,F0,F0,F0] rfl rfl (one_of HT_.out tG) tf (fun K hK=>?_)
    refine value_ (w1:=?_) (v:=?_) wN rfl ?_ ?_
    rotate_left 2
    ·go_simp
     constructor
     ·rfl
     ·rfl
    refine hK.out _ _ ⟨(aD (aG BK320.out _) 0).trans rfl,(aD (aG BK320.out _) 1).trans rfl,(aD (aG BK320.out _) 2).trans rfl,(aD (aG BK320.out _) 3).trans rfl⟩ (fun hHeld=>?_)
    clear hK K
    refine norm_ (a':=?_) ?_ ?_
    rotate_left
    ·show Act.put _ (some 27) _ = _
     simp only [Act.put,lA,lB,lC,bE,bG]
     rfl
    refine one_ (i:=9) (N:=some 28) #[T1,T1,T1,T1,T1,T1,T1,T1,T1,T1,F0,F0] rfl rfl (one_of HT_.out tG) tf (fun K hK=>?_)
    refine Kd.N_append_step k50 w.heap.size wN (.tmp 20) (.tmp 27) 23 50 (.agg #[(.int .i64 0),(.slice none 0 0)]) 32 rfl Try.underlying23 info50 rfl tf tZ (.slice Ao40 t313.length co40) t313 (⟨t334,t337⟩:S50) [.int .i64 t334,.slice Ao48 t337.length co48] (fun k_=>(w.heap.size ≤ k_) ∧ some k_ ≠ (.slice Ao36 t310.length co36:Value).ownBlock ∧ some k_ ≠ (.slice Ao45 y331.length co45:Value).ownBlock ∧ k_ ≠ gb309 ∧ k_ ≠ gb320 ∧ k_ ≠ g) (fun k_=>((fun k_=>(w.heap.size ≤ k_) ∧ some k_ ≠ (.slice Ao36 t310.length co36:Value).ownBlock ∧ some k_ ≠ (.slice Ao45 y331.length co45:Value).ownBlock ∧ k_ ≠ gb309 ∧ k_ ≠ gb320 ∧ k_ ≠ g)) k_ ∧ some k_ ≠ (.slice Ao40 t313.length co40:Value).ownBlock) rfl rfl ?aP (fun _ hk=>hk) ?aF ?aO (Below.refl _ _) ?aS ?aL ?_
    (case aP=>exact (k50_mkF _ _ (⟨t334,t337⟩:S50) (Kd.R_reads' (Kd.R_mono (ok':=(fun k_=>((fun k_=>(w.heap.size ≤ k_) ∧ some k_ ≠ (.slice Ao36 t310.length co36:Value).ownBlock ∧ some k_ ≠ (.slice Ao45 y331.length co45:Value).ownBlock ∧ k_ ≠ gb309 ∧ k_ ≠ gb320 ∧ k_ ≠ g)) k_ ∧ some k_ ≠ (.slice Ao40 t313.length co40:Value).ownBlock)) (IsS85.apart HI0.out (Kd.R_types (Kd.R_types (Kd.R_apart' (Kd.R_apart' (Kd.R_apart' (HO339.out) (Kd.N_typed HO312.out) tf) (Kd.R_typed HO333.out) tf) (Kd.N_typed HO315.out) tf) BK309.out tf) BK320.out tf) tf) (fun k_ hk=>⟨⟨hk.1.1.1.1.1.1.1,⟨hk.1.1.1.1.1.2,⟨hk.1.1.1.1.2,⟨hk.1.1.2,⟨hk.1.2,hk.2⟩⟩⟩⟩⟩,hk.1.1.1.2⟩))).2.1 (Kd.R_F (Kd.R_mono (ok':=(fun k_=>((fun k_=>(w.heap.size ≤ k_) ∧ some k_ ≠ (.slice Ao36 t310.length co36:Value).ownBlock ∧ some k_ ≠ (.slice Ao45 y331.length co45:Value).ownBlock ∧ k_ ≠ gb309 ∧ k_ ≠ gb320 ∧ k_ ≠ g)) k_ ∧ some k_ ≠ (.slice Ao40 t313.length co40:Value).ownBlock)) (IsS85.apart HI0.out (Kd.R_types (Kd.R_types (Kd.R_apart' (Kd.R_apart' (Kd.R_apart' (HO339.out) (Kd.N_typed HO312.out) tf) (Kd.R_typed HO333.out) tf) (Kd.N_typed HO315.out) tf) BK309.out tf) BK320.out tf) tf) (fun k_ hk=>⟨⟨hk.1.1.1.1.1.1.1,⟨hk.1.1.1.1.1.2,⟨hk.1.1.1.1.2,⟨hk.1.1.2,⟨hk.1.2,hk.2⟩⟩⟩⟩⟩,hk.1.1.1.2⟩)))))
    (case aF=>exact (fun k_ hk=>⟨(Nat.le_trans (bQ (w:=w) (g:=g) (row:=none) tK) hk),Kd.fresh' (Kd.N_lt HO312.out) k_ hk,Kd.fresh' (Kd.R_lt HO333.out) k_ hk,Kd.freshB (g:=gb309) (o:=.cells #[.slice none 0 0,.slice none 0 0,.int .i64 0,.bool false] 25 (0,0)) BK309.out k_ hk,Kd.freshB (g:=gb320) (o:=.cells #[.slice Ao36 t310.length co36,.slice Ao40 t313.length co40,.int .i64 t316,.bool t317] 25 (0,0)) BK320.out k_ hk,IsS85.fresh tz k_ hk⟩))
    (case aO=>exact (by (with_reducible repeat (first|apply Kd.bW|apply Kd.bX|apply Kd.bV));exact Kd.aV HO315.out (fun _ hk=>⟨hk.1.1.1.1,⟨hk.1.1.1.2.1,⟨hk.1.2,⟨hk.1.1.1.2.2.1,⟨hk.1.1.2,hk.1.1.1.2.2.2⟩⟩⟩⟩⟩)))
    (case aS=>exact (bQ (w:=w) (g:=g) (row:=none) tK))
    (case aL=>have:=LMc32.out;omega)
    intro v343 w49 ho hb hg hat
    rw [← Ny342.out] at ho
    replace BK309:=aA.mk (blk_grown (g:=gb309) (o:=.cells #[.slice none 0 0,.slice none 0 0,.int .i64 0,.bool false] 25 (0,0)) BK309.out hg (Kd.N_ne HO315.out BK309.out tf))
    replace HO312:=aA.mk (Kd.N_afterv (ok:=(fun k_=>(w.heap.size ≤ k_) ∧ some k_ ≠ (.slice Ao45 y331.length co45:Value).ownBlock ∧ some k_ ≠ (.slice Ao48 t337.length co48:Value).ownBlock ∧ k_ ≠ gb309 ∧ k_ ≠ g ∧ k_ ≠ gb320)) (by (with_reducible repeat (first|apply Kd.bW|apply Kd.bX|apply Kd.bV));exact Kd.aV HO312.out (fun _ hk=>⟨⟨hk.1.1.1.1,⟨hk.1.2,⟨hk.2,⟨hk.1.1.1.2.2.1,⟨hk.1.1.1.2.2.2,hk.1.1.2⟩⟩⟩⟩⟩,hk.1.1.1.2.1⟩)) hg hat)
    replace BK320:=aA.mk (blk_grown (g:=gb320) (o:=.cells #[.slice Ao36 t310.length co36,.slice Ao40 t313.length co40,.int .i64 t316,.bool t317] 25 (0,0)) BK320.out hg (Kd.N_ne HO315.out BK320.out tf))
    replace HO333:=aA.mk (Kd.R_over' HO333.out (Kd.N_typed HO315.out) tf hg)
    replace HB:=aA.mk (below_weaken vk HL.out hb)
    replace HI0:=aA.mk (IsS85.grown tz hg (IsS85.own_neN HI0.out HO315.out tf))
    replace HK:=aA.mk (KeepBut.trans tK (KeepBut.of_grown hg g) (Kd.N_base2 HO315.out))
    have HO344:=aA.mk (ho)
    clear HO315
    clear HO339
    clear ho hb hg hat
    obtain ⟨Ao50,co50,eo50⟩:=Kd.cB HO344.out
    (first|subst eo50|(injection eo50 with f1_ f2_ f3_;have f4_:=f1_.symm;have f5_:=f3_.symm;clear f1_ f2_ f3_;subst f4_;subst f5_))
    refine hK.out _ _ ⟨(aD BK320.out 0).trans rfl,(aD BK320.out 1).trans rfl,(aD BK320.out 2).trans rfl,(aD BK320.out 3).trans rfl⟩ (fun hHeld=>?_)
    clear hK K
    refine norm_ (a':=?_) ?_ ?_
    rotate_left
    ·show Act.put _ (some 28) _ = _
     simp only [Act.put,lA,lB,lC,bE,bG]
     rfl
    refine bT (i:=10) (N:=some 29) (v:=?_) (a':=?_) #[T1,T1,T1,T1,T1,T1,T1,T1,T1,T1,T1,F0] rfl rfl (any_of HT_.out tG) (fun _ _ _ h=>h) (Or.inl ⟨vr,?_⟩) ?_ ?_
    rotate_left
    ·intro w'
     go_simp
     with_reducible rfl
    rotate_left
    ·simp only [Act.put,lA,lB,lC,bE,bG]
     rfl
    refine last_ (i:=11) (N:=none) #[T1,T1,T1,T1,T1,T1,T1,T1,T1,T1,T1,T1] rfl rfl (one_of HT_.out tG) tf (fun K hK=>?_)
    have hs51:w49.cell? ⟨gb320,1,none⟩ = some (.slice Ao40 t313.length co40):=(aD BK320.out 1).trans rfl
    have hfs51:=cD BK320.out 1
    have hns51_0:=NB309_320.out
    have hms51_0:=NB320_309.out
    refine skip_ (w1:=?_) wN rfl ?_ ?_
    rotate_left
    ·go_simp
     rfl
    refine hK.out _ _ ?_
    clear hK K
    refine done_ (done_of HT_.out tG) ?_
    obtain ⟨hcz52_0,hcz52_1,hcz52_2,hcz52_3⟩:=cs4 BK320.out
    obtain ⟨hfz52_0,hfz52_1,hfz52_2,hfz52_3⟩:=fs4 BK320.out
    have hnb53:=NB309_0.out
    have hnc53:=NB0_309.out
    obtain ⟨hcz54_0,hcz54_1,hcz54_2,hcz54_3⟩:=cs4 BK309.out
    obtain ⟨hfz54_0,hfz54_1,hfz54_2,hfz54_3⟩:=fs4 BK309.out
    try go_wp2
    refine bodyPost_ret (results_cell_row rfl _ _ gb309 25 #[.slice Ao36 t310.length co36,.slice Ao50 y342.length co50,.int .i64 t316,.bool t317] (0,0) _ rfl (by (with_reducible repeat (first|refine aM ?_ _|refine aN ?_|refine aG ?_ _));refine aQ (cs:=#[.slice Ao36 t310.length co36,.slice Ao50 y342.length co50,.int .i64 t316,.bool false]) ?_ 3 _ rfl;(with_reducible repeat (first|refine aM ?_ _|refine aN ?_|refine aG ?_ _));refine aQ (cs:=#[.slice Ao36 t310.length co36,.slice Ao50 y342.length co50,.int .i64 0,.bool false]) ?_ 2 _ rfl;(with_reducible repeat (first|refine aM ?_ _|refine aN ?_|refine aG ?_ _));refine aQ (cs:=#[.slice Ao36 t310.length co36,.slice none 0 0,.int .i64 0,.bool false]) ?_ 1 _ rfl;(with_reducible repeat (first|refine aM ?_ _|refine aN ?_|refine aG ?_ _));refine aQ (cs:=#[.slice none 0 0,.slice none 0 0,.int .i64 0,.bool false]) ?_ 0 _ rfl;(with_reducible repeat (first|refine aM ?_ _|refine aN ?_|refine aG ?_ _));refine bY ?_ NB309_320.out _;(with_reducible repeat (first|refine aM ?_ _|refine aN ?_|refine aG ?_ _));exact BK309.out) Try.underlying25 rfl tG) rfl ?_
    exact ⟨_,_,tN,by (with_reducible repeat (first|apply Kd.bW|apply Kd.bX|apply Kd.bV));exact Kd.aV (Kd.bH (p:=⟨gb309,3,none⟩) (Kd.bH (p:=⟨gb309,2,none⟩) (Kd.bH (p:=⟨gb309,1,none⟩) (Kd.bH (p:=⟨gb309,0,none⟩) (Kd.bH (p:=⟨gb320,1,none⟩) (Kd.aV (Kd.aV HO312.out (fun k_ hk=>(⟨hk,hk.1.2.2.2.2.2⟩:_ ∧ k_ ≠ gb320))) (fun k_ hk=>(⟨hk,hk.1.1.2.2.2.1⟩:_ ∧ k_ ≠ gb309))) (fun _ hk=>hk.1.2) (.slice Ao50 y342.length co50)) (fun _ hk=>hk.2) (.slice Ao36 t310.length co36)) (fun _ hk=>hk.2) (.slice Ao50 y342.length co50)) (fun _ hk=>hk.2) (.int .i64 t316)) (fun _ hk=>hk.2) (.bool t317)) (fun _ hk=>⟨hk.1.1.1.1,hk.1.1.2⟩),by (with_reducible repeat (first|apply Kd.bW|apply Kd.bX|apply Kd.bV));exact Kd.aV (Kd.bH (p:=⟨gb309,3,none⟩) (Kd.bH (p:=⟨gb309,2,none⟩) (Kd.bH (p:=⟨gb309,1,none⟩) (Kd.bH (p:=⟨gb309,0,none⟩) (Kd.bH (p:=⟨gb320,1,none⟩) (Kd.aV (Kd.aV HO344.out (fun k_ hk=>(⟨hk,hk.2.2.2.2.1⟩:_ ∧ k_ ≠ gb320))) (fun k_ hk=>(⟨hk,hk.1.2.2.2.1⟩:_ ∧ k_ ≠ gb309))) (fun _ hk=>hk.1.2) (.slice Ao50 y342.length co50)) (fun _ hk=>hk.2) (.slice Ao36 t310.length co36)) (fun _ hk=>hk.2) (.slice Ao50 y342.length co50)) (fun _ hk=>hk.2) (.int .i64 t316)) (fun _ hk=>hk.2) (.bool t317)) (fun _ hk=>⟨hk.1.1.1,hk.1.1.2.1⟩),th,t0,t5⟩
   ·rw [if_neg c32] at H
    exact wX
  ·rw [if_neg c29] at H
   have c29b0:(t321 == 1) = false:=beq_eq_false_iff_ne.mpr c29
   have c29b1:(t321 != 1) = true:=bne_iff_ne.mpr c29
   by_cases c55:t321 = 2
   ·rw [if_pos c55] at H
    have c55b0:(t321 == 2) = true:=beq_iff_eq.mpr c55
    have c55b1:(t321 != 2) = false:=bne_eq_false_iff_eq.mpr c55
    clear c55
    have H':=aA.mk H
    clear H
    go_enter Try.func63,Try.ntmps63
    go_wp2_with (first|((with_reducible refine bC (N:=2) rfl ?_);refine bD ?hg (N:=2) ?hd (cs:=#[.slice none 0 0,.slice none 0 0,.int .i64 0,.bool false]) (t:=25) ?hr ?_;(case hd=>rfl);(case hg=>rfl);(case hr=>exact tE);intro gb309 hg w56 hbox hb;replace HB:=aA.mk (aT vE hb);have BK309:=aA.mk (hbox);have GW309:=aA.mk ((by rw [hg];exact (bQ (w:=w) (g:=g) (row:=none) tQ):w.heap.size ≤ gb309));have GE309:=aA.mk ((Nat.le_trans HW0.out (by rw [hg];exact (bQ (w:=w) (g:=g) (row:=none) tQ):w.heap.size ≤ gb309):w0.heap.size ≤ gb309));replace HK:=aA.mk (KeepBut.trans tQ (KeepBut.of_below hb g none) (.inl rfl));have NB0_309:=aA.mk ((by rw [hg];exact Nat.ne_of_lt (IsS85.lt (show IsS85 w0 _ g s0_0 s0_1 s0_2 from by repeat (first|(with_reducible first|exact HI0.out|apply IsS85.alloc|apply IsS85.drewN|apply IsS85.drew|apply IsS85.set_1|apply IsS85.set_2)|exact HI0.out))):g ≠ gb309));have NB309_0:=aA.mk ((by rw [hg];exact Nat.ne_of_gt (IsS85.lt (show IsS85 w0 _ g s0_0 s0_1 s0_2 from by repeat (first|(with_reducible first|exact HI0.out|apply IsS85.alloc|apply IsS85.drewN|apply IsS85.drew|apply IsS85.set_1|apply IsS85.set_2)|exact HI0.out))):gb309 ≠ g));replace HI0:=aA.mk (IsS85.below t6 hb);clear hb hbox hg)|((with_reducible refine aW (f:=62) rfl ?_);refine bK (some 5) rfl rfl Try.func62 tG rfl #[.pointer (some ⟨g,0,none⟩)] rfl tC ?_;(with_reducible refine (spec_l2Draw.calls k g s0_0 s0_1 s0_2 t310 t313 t316 t317 t318 t319 w0 _ ?side1 ?side2 A2.out).mono ?_);(case side1=>exact vB);(case side2=>exact vQ);rintro e w57 ⟨v311,v314,rfl,ho0,ho1,hi,hb,hk⟩;refine ⟨_,rfl,?_⟩;have HO312:=aA.mk (Kd.N_lower (Kd.aV (ok':=fun k_=>(w.heap.size ≤ k_) ∧ some k_ ≠ (v314:Value).ownBlock ∧ k_ ≠ gb309 ∧ k_ ≠ g) ho0 (fun k_ hk_=>⟨(Nat.le_trans (bQ (w:=w) (g:=g) (row:=none) tD) hk_.1),hk_.2,(Kd.freshB (g:=gb309) (o:=.cells #[.slice none 0 0,.slice none 0 0,.int .i64 0,.bool false] 25 (0,0)) BK309.out k_ hk_.1),(IsS85.fresh tP k_ hk_.1)⟩)) (bQ (w:=w) (g:=g) (row:=none) tD));have HO315:=aA.mk (Kd.N_lower (Kd.aV (ok':=fun k_=>(w.heap.size ≤ k_) ∧ some k_ ≠ (v311:Value).ownBlock ∧ k_ ≠ gb309 ∧ k_ ≠ g) ho1 (fun k_ hk_=>⟨(Nat.le_trans (bQ (w:=w) (g:=g) (row:=none) tD) hk_.1),hk_.2,(Kd.freshB (g:=gb309) (o:=.cells #[.slice none 0 0,.slice none 0 0,.int .i64 0,.bool false] 25 (0,0)) BK309.out k_ hk_.1),(IsS85.fresh tP k_ hk_.1)⟩)) (bQ (w:=w) (g:=g) (row:=none) tD));replace BK309:=aA.mk (KeepBut.blk hk (g':=gb309) (o:=.cells #[.slice none 0 0,.slice none 0 0,.int .i64 0,.bool false] 25 (0,0)) BK309.out NB309_0.out vN);replace HK:=aA.mk (KeepBut.trans tD hk (.inl rfl));replace HB:=aA.mk (hb);replace HI0:=aA.mk (hi);(try clear hb);(try clear hk);(try clear hi);(try clear ho0);(try clear ho1))|((with_reducible refine bC (N:=3) rfl ?_);refine bD ?hg (N:=3) ?hd (cs:=#[.slice none 0 0,.slice none 0 0,.int .i64 0,.bool false]) (t:=25) ?hr ?_;(case hd=>rfl);(case hg=>rfl);(case hr=>exact tE);intro gb320 hg w58 hbox hb;replace HO312:=aA.mk (Kd.N_below (Kd.N_elderB HO312.out gb320 (Nat.le_of_eq hg.symm)) hb);replace HO315:=aA.mk (Kd.N_below (Kd.N_elderB HO315.out gb320 (Nat.le_of_eq hg.symm)) hb);replace HB:=aA.mk (aT vL hb);have BK320:=aA.mk (hbox);have GW320:=aA.mk ((by rw [hg];exact (bQ (w:=w) (g:=g) (row:=none) tD):w.heap.size ≤ gb320));have GE320:=aA.mk ((Nat.le_trans HW0.out (by rw [hg];exact (bQ (w:=w) (g:=g) (row:=none) tD):w.heap.size ≤ gb320):w0.heap.size ≤ gb320));replace HK:=aA.mk (KeepBut.trans tD (KeepBut.of_below hb g none) (.inl rfl));have NB309_320:=aA.mk ((by rw [hg];exact Nat.ne_of_lt (bJ (g:=gb309) (o:=.cells #[.slice none 0 0,.slice none 0 0,.int .i64 0,.bool false] 25 (0,0)) BK309.out):gb309 ≠ gb320));have NB320_309:=aA.mk ((by rw [hg];exact Nat.ne_of_gt (bJ (g:=gb309) (o:=.cells #[.slice none 0 0,.slice none 0 0,.int .i64 0,.bool false] 25 (0,0)) BK309.out):gb320 ≠ gb309));replace BK309:=aA.mk (bM (g:=gb309) (o:=.cells #[.slice none 0 0,.slice none 0 0,.int .i64 0,.bool false] 25 (0,0)) BK309.out hb);have NB0_320:=aA.mk ((by rw [hg];exact Nat.ne_of_lt (IsS85.lt (show IsS85 w0 _ g s0_0 t318 t319 from by repeat (first|(with_reducible first|exact HI0.out|apply IsS85.alloc|apply IsS85.drewN|apply IsS85.drew|apply IsS85.set_1|apply IsS85.set_2|apply IsS85.far (hne:=NB0_309.out))|exact HI0.out))):g ≠ gb320));have NB320_0:=aA.mk ((by rw [hg];exact Nat.ne_of_gt (IsS85.lt (show IsS85 w0 _ g s0_0 t318 t319 from by repeat (first|(with_reducible first|exact HI0.out|apply IsS85.alloc|apply IsS85.drewN|apply IsS85.drew|apply IsS85.set_1|apply IsS85.set_2|apply IsS85.far (hne:=NB0_309.out))|exact HI0.out))):gb320 ≠ g));replace HI0:=aA.mk (IsS85.below tP hb);clear hb hbox hg;obtain ⟨Ao59,co59,eo59⟩:=Kd.cB HO312.out;subst eo59;have hnb60:=NB320_309.out;have hnc60:=NB309_320.out;have hnb61:=NB320_0.out;have hnc61:=NB0_320.out;obtain ⟨hcz62_0,hcz62_1,hcz62_2,hcz62_3⟩:=cs4 BK320.out;obtain ⟨hfz62_0,hfz62_1,hfz62_2,hfz62_3⟩:=fs4 BK320.out;obtain ⟨Ao63,co63,eo63⟩:=Kd.cB HO315.out;subst eo63)|((with_reducible refine aW (f:=66) rfl ?_);refine bK (some 7) rfl rfl Try.func66 tG rfl #[.pointer (some ⟨g,0,none⟩),.int .i64 12] rfl tC ?_;(with_reducible refine (spec_l1Below.calls g s0_0 t318 t319 12 t321 t322 t323 w0 _ ?side1 ?side2 A3.out).mono ?_);(case side1=>exact tX);(case side2=>exact te);rintro e w64 ⟨rfl,hi,hb,hk⟩;refine ⟨_,rfl,?_⟩;replace BK309:=aA.mk (KeepBut.blk hk (g':=gb309) (o:=.cells #[.slice none 0 0,.slice none 0 0,.int .i64 0,.bool false] 25 (0,0)) tV NB309_0.out vN);replace HO312:=aA.mk (Kd.aV (Kd.N_keep (Kd.aV (ok:=fun k_=>((((w.heap.size ≤ k_)) ∧ (some k_ ≠ (.slice Ao63 t313.length co63:Value).ownBlock ∧ (k_ ≠ gb309 ∧ k_ ≠ g))) ∧ k_ ≠ gb320)) (by (with_reducible repeat (first|apply Kd.bW|apply Kd.bX|apply Kd.bV));exact (Kd.aV (Kd.bH (p:=⟨gb320,3,none⟩) (Kd.bH (p:=⟨gb320,2,none⟩) (Kd.bH (p:=⟨gb320,1,none⟩) (Kd.bH (p:=⟨gb320,0,none⟩) (Kd.aV HO312.out (fun k_ hk=>(⟨hk,hk.2⟩:_ ∧ k_ ≠ gb320))) (fun _ hk=>hk.2) (.slice Ao59 t310.length co59)) (fun _ hk=>hk.2) (.slice Ao63 t313.length co63)) (fun _ hk=>hk.2) (.int .i64 t316)) (fun _ hk=>hk.2) (.bool t317)) (fun _ h_=>h_.1))) (fun k_ hk_=>(⟨hk_,hk_.1.2.2.2⟩:_ ∧ k_ ≠ g))) hk (fun _ h=>h.2)) (fun _ h=>h.1));replace HO315:=aA.mk (Kd.aV (Kd.N_keep (Kd.aV (ok:=fun k_=>((((w.heap.size ≤ k_)) ∧ (some k_ ≠ (.slice Ao59 t310.length co59:Value).ownBlock ∧ (k_ ≠ gb309 ∧ k_ ≠ g))) ∧ k_ ≠ gb320)) (by (with_reducible repeat (first|apply Kd.bW|apply Kd.bX|apply Kd.bV));exact (Kd.aV (Kd.bH (p:=⟨gb320,3,none⟩) (Kd.bH (p:=⟨gb320,2,none⟩) (Kd.bH (p:=⟨gb320,1,none⟩) (Kd.bH (p:=⟨gb320,0,none⟩) (Kd.aV HO315.out (fun k_ hk=>(⟨hk,hk.2⟩:_ ∧ k_ ≠ gb320))) (fun _ hk=>hk.2) (.slice Ao59 t310.length co59)) (fun _ hk=>hk.2) (.slice Ao63 t313.length co63)) (fun _ hk=>hk.2) (.int .i64 t316)) (fun _ hk=>hk.2) (.bool t317)) (fun _ h_=>h_.1))) (fun k_ hk_=>(⟨hk_,hk_.1.2.2.2⟩:_ ∧ k_ ≠ g))) hk (fun _ h=>h.2)) (fun _ h=>h.1));replace BK320:=aA.mk (KeepBut.blk hk (g':=gb320) (o:=.cells #[.slice Ao59 t310.length co59,.slice Ao63 t313.length co63,.int .i64 t316,.bool t317] 25 (0,0)) (by (with_reducible repeat (first|refine aM ?_ _|refine aN ?_|refine aG ?_ _));refine aQ (cs:=#[.slice Ao59 t310.length co59,.slice Ao63 t313.length co63,.int .i64 t316,.bool false]) ?_ 3 _ rfl;(with_reducible repeat (first|refine aM ?_ _|refine aN ?_|refine aG ?_ _));refine aQ (cs:=#[.slice Ao59 t310.length co59,.slice Ao63 t313.length co63,.int .i64 0,.bool false]) ?_ 2 _ rfl;(with_reducible repeat (first|refine aM ?_ _|refine aN ?_|refine aG ?_ _));refine aQ (cs:=#[.slice Ao59 t310.length co59,.slice none 0 0,.int .i64 0,.bool false]) ?_ 1 _ rfl;(with_reducible repeat (first|refine aM ?_ _|refine aN ?_|refine aG ?_ _));refine aQ (cs:=#[.slice none 0 0,.slice none 0 0,.int .i64 0,.bool false]) ?_ 0 _ rfl;(with_reducible repeat (first|refine aM ?_ _|refine aN ?_|refine aG ?_ _));exact BK320.out) NB320_0.out vN);replace HK:=aA.mk (KeepBut.trans tK hk (.inl rfl));replace HB:=aA.mk (hb);replace HI0:=aA.mk (hi);(try clear hb);(try clear hk);(try clear hi)))
    go_loopg [] k (fun kq w'=>∃ (x1001_1:Int) (x1002_1:Int) (x321001_1:List (S50)) (u321001:Value),aA (spec_l2Any.l0 kq s0_0 x1001_1 x1002_1 t310 x321001_1 t316 t317 = some (r1,r2,r3,r4,r5,r6)) ∧ aA (kq ≤ k) ∧ aA (Kd.N (Kd.slice 5 (Kd.int .u8)) 37 w' w.heap.size (fun k_=>(w.heap.size ≤ k_) ∧ some k_ ≠ (u321001:Value).ownBlock ∧ k_ ≠ gb309 ∧ k_ ≠ gb320 ∧ k_ ≠ g) (.slice Ao59 t310.length co59) t310) ∧ aA (Kd.N k50 50 w' w.heap.size (fun k_=>(w.heap.size ≤ k_) ∧ some k_ ≠ ((.slice Ao59 t310.length co59):Value).ownBlock ∧ k_ ≠ gb309 ∧ k_ ≠ gb320 ∧ k_ ≠ g) u321001 x321001_1) ∧ aA (w'.heap[gb309]? = some (.cells #[(.slice none 0 0),(.slice none 0 0),.int .i64 0,.bool false] 25 (0,0))) ∧ aA (w'.heap[gb320]? = some (.cells #[(.slice Ao59 t310.length co59),u321001,.int .i64 t316,.bool t317] 25 (0,0))) ∧ aA (IsS85 w0 w' g s0_0 x1001_1 x1002_1) ∧ aA (KeepBut w w' g none) ∧ aA (Below w0.heap.size w0 w'))
    case atStart=>exact ⟨(t322),(t323),(t313),(.slice Ao63 t313.length co63),H',⟨Nat.le_refl _⟩,⟨by (with_reducible repeat (first|apply Kd.bW|apply Kd.bX|apply Kd.bV));exact Kd.aV HO312.out (fun _ hk=>⟨hk.1.1,⟨hk.1.2.1,⟨hk.1.2.2.1,⟨hk.2,hk.1.2.2.2⟩⟩⟩⟩)⟩,⟨by (with_reducible repeat (first|apply Kd.bW|apply Kd.bX|apply Kd.bV));exact Kd.aV HO315.out (fun _ hk=>⟨hk.1.1,⟨hk.1.2.1,⟨hk.1.2.2.1,⟨hk.2,hk.1.2.2.2⟩⟩⟩⟩)⟩,⟨by (with_reducible repeat (first|refine aM ?_ _|refine aN ?_|refine aG ?_ _));exact BK309.out⟩,⟨by (with_reducible repeat (first|refine aM ?_ _|refine aN ?_|refine aG ?_ _));exact BK320.out⟩,⟨th⟩,⟨t5⟩,⟨t0⟩⟩
    case round =>
     clear H'
     try clear c1
     try clear p1
     try clear q1
     try clear hx1
     try clear qi1
     try clear hf1
     try clear c2
     try clear p2
     try clear c3
     try clear c4
     try clear c4b0
     try clear c4b1
     try clear c5
     try clear c6
     try clear c7
     try clear c8
     try clear c8b0
     try clear c8b1
     try clear c9
     try clear c9b0
     try clear c9b1
     try clear c10
     try clear p10
     try clear q10
     try clear hx10
     try clear qi10
     try clear hf10
     try clear c15
     try clear c16
     try clear c24
     try clear c27
     try clear c29
     try clear c29b0
     try clear c29b1
     try clear c32
     try clear c37
     try clear c38
     try clear c53
     try clear c55
     try clear c55b0
     try clear c55b1
     try clear c60
     try clear c61
     try clear c62
     try clear c63
     try clear c64
     try clear hcz17_0
     try clear hcz17_1
     try clear hcz17_2
     try clear hcz17_3
     try clear hcz26_0
     try clear hcz26_1
     try clear hcz26_2
     try clear hcz26_3
     try clear hcz28_0
     try clear hcz28_1
     try clear hcz28_2
     try clear hcz28_3
     try clear hcz39_0
     try clear hcz39_1
     try clear hcz39_2
     try clear hcz39_3
     try clear hcz52_0
     try clear hcz52_1
     try clear hcz52_2
     try clear hcz52_3
     try clear hcz54_0
     try clear hcz54_1
     try clear hcz54_2
     try clear hcz54_3
     try clear hcz62_0
     try clear hcz62_1
     try clear hcz62_2
     try clear hcz62_3
     try clear hfz17_0
     try clear hfz17_1
     try clear hfz17_2
     try clear hfz17_3
     try clear hfz26_0
     try clear hfz26_1
     try clear hfz26_2
     try clear hfz26_3
     try clear hfz28_0
     try clear hfz28_1
     try clear hfz28_2
     try clear hfz28_3
     try clear hfz39_0
     try clear hfz39_1
     try clear hfz39_2
     try clear hfz39_3
     try clear hfz52_0
     try clear hfz52_1
     try clear hfz52_2
     try clear hfz52_3
     try clear hfz54_0
     try clear hfz54_1
     try clear hfz54_2
     try clear hfz54_3
     try clear hfz62_0
     try clear hfz62_1
     try clear hfz62_2
     try clear hfz62_3
     try clear hx10_0
     try clear p10
     try clear q10
     obtain ⟨x1001_1,x1002_1,x321001_1,u321001,HA,HK1,HO_321000,HO_321001,BK309,BK320,HI0,HK,HB⟩:=hrel
     cases gk with
     | zero=>exact absurd HA.out (by simp [spec_l2Any.l0])
     | succ k1 =>
      have H:=HA.out
      clear HA
      simp only [spec_l2Any.l0] at H
      replace H:=lF H
      obtain ⟨⟨t345,t346,t347⟩,A650,H⟩:=H
      replace H:(if (x321001_1.length:Int) < (wrap64 (59 + t345)) then (if x321001_1.length < 4398046511104 then (spec_l2Any.l0 k1 s0_0 t346 t347 t310 (x321001_1 ++ [(⟨0,([]:List Int)⟩:S50)]) t316 t317) else (none)) else (some (t310,x321001_1,t316,t317,t346,t347))) = some (r1,r2,r3,r4,r5,r6):=H
      have A65:=aA.mk A650
      clear A650
      by_cases c66:(x321001_1.length:Int) < (wrap64 (59 + t345))
      ·rw [if_pos c66] at H
       have c66b0:decide ((x321001_1.length:Int) < (wrap64 (59 + t345))) = true:=decide_eq_true c66
       clear c66
       by_cases c67:x321001_1.length < 4398046511104
       ·rw [if_pos c67] at H
        have LMc67:=aA.mk c67
        clear c67
        obtain ⟨y348,hy348⟩:∃ y_:List (S50),y_ = (x321001_1 ++ [(⟨0,([]:List Int)⟩:S50)]):=⟨_,rfl⟩
        replace H:(spec_l2Any.l0 k1 s0_0 t346 t347 t310 y348 t316 t317) = some (r1,r2,r3,r4,r5,r6):=by first|(rw [hy348];with_reducible exact H)|(have H2_:=(Option.bind_some _ _).symm.trans H;rw [hy348];with_reducible exact H2_)|(have H2_:=(Option.bind_some _ _).symm.trans H;with_reducible exact H2_)|with_reducible exact H|(rw [hy348];exact H)|exact H
        have Ny348:=aA.mk hy348
        clear hy348
        have H':=aA.mk H
        clear H
        try go_wp2
        replace HO_321000:=aA.mk (Kd.bV HO_321000.out)
        replace HO_321001:=aA.mk (Kd.bV HO_321001.out)
        replace BK309:=aA.mk (aN BK309.out)
        replace BK320:=aA.mk (aN BK320.out)
        replace HI0:=aA.mk (IsS85.drew HI0.out)
        replace HK:=aA.mk (bB HK.out)
        replace HB:=aA.mk (aH HB.out)
        obtain ⟨Ao69,co69,eo69⟩:=Kd.cB HO_321001.out
        (first|subst eo69|(injection eo69 with f1_ f2_ f3_;have f4_:=f1_.symm;have f5_:=f3_.symm;clear f1_ f2_ f3_;subst f4_;subst f5_))
        refine start_ (n:=7) (S:=fun w'=>w'.cell? ⟨gb320,0,none⟩ = some (.slice Ao59 t310.length co59) ∧ w'.cell? ⟨gb320,1,none⟩ = some (.slice Ao69 x321001_1.length co69) ∧ w'.cell? ⟨gb320,2,none⟩ = some (.int .i64 t316) ∧ w'.cell? ⟨gb320,3,none⟩ = some (.bool t317)) (ds:=[]) #[F0,F0,F0,F0,F0,F0,F0] tG rfl rfl ⟨(aD BK320.out 0).trans rfl,(aD BK320.out 1).trans rfl,(aD BK320.out 2).trans rfl,(aD BK320.out 3).trans rfl⟩ (fun hHeld=>?_)
        generalize wr.drew = w68 at HO_321000 HO_321001 BK309 BK320 HI0 HK HB hHeld ⊢
        refine bT (i:=0) (N:=some 32) (v:=?_) (a':=?_) #[T1,F0,F0,F0,F0,F0,F0] rfl rfl tG (fun _ _ _ h=>h) (Or.inl ⟨vr,?_⟩) ?_ ?_
        rotate_left
        ·intro w'
         go_simp
         with_reducible rfl
        rotate_left
        ·simp only [Act.put,lA,lB,lC,bE,bG]
         rfl
        refine bT (i:=3) (N:=some 35) (v:=?_) (a':=?_) #[T1,F0,F0,T1,F0,F0,F0] rfl rfl tG (fun _ _ _ h=>h) (Or.inl ⟨vr,?_⟩) ?_ ?_
        rotate_left
        ·intro w'
         go_simp
         with_reducible rfl
        rotate_left
        ·simp only [Act.put,lA,lB,lC,bE,bG]
         rfl
        refine take_ (i:=1) (N:=some 33) (v:=?_) (a':=?_) #[T1,T1,F0,T1,F0,F0,F0] rfl rfl tG (fun _ _ _ h=>h) (Or.inl ⟨vr,?_⟩) hHeld ?_ ?_
        rotate_left
        ·rintro w' ⟨s0,s1,s2,s3⟩
         go_simp
         with_reducible rfl
        rotate_left
        ·simp only [Act.put,lA,lB,lC,bE,bG]
         rfl
        refine bT (i:=2) (N:=some 34) (v:=?_) (a':=?_) #[T1,T1,T1,T1,F0,F0,F0] rfl rfl tG (fun _ _ _ h=>h) (Or.inl ⟨vr,?_⟩) ?_ ?_
        rotate_left
        ·intro w'
         go_simp
         with_reducible rfl
        rotate_left
        ·simp only [Act.put,lA,lB,lC,bE,bG]
         rfl
        refine one_ (i:=4) (N:=some 36) #[T1,T1,T1,T1,T1,F0,F0] rfl rfl tG tf (fun K hK=>?_)
        refine goes_ Try.func66 tG rfl #[.pointer (some ⟨g,0,none⟩),.int .i64 3] wN rfl rfl tC ?_
        with_reducible refine (spec_l1Below.calls g s0_0 x1001_1 x1002_1 3 t345 t346 t347 w0 _ ?side1 ?side2 A65.out).mono ?_
        (case side1=>exact tX)
        (case side2=>exact te)
        rintro e w70 ⟨rfl,hi,hb,hk⟩
        refine ⟨_,rfl,?_⟩
        replace HO_321000:=aA.mk (Kd.aV (Kd.N_keep (Kd.aV (ok:=fun k_=>(((w.heap.size ≤ k_)) ∧ (some k_ ≠ (.slice Ao69 x321001_1.length co69:Value).ownBlock ∧ (k_ ≠ gb309 ∧ (k_ ≠ gb320 ∧ k_ ≠ g))))) HO_321000.out (fun k_ hk_=>(⟨hk_,hk_.2.2.2.2⟩:_ ∧ k_ ≠ g))) hk (fun _ h=>h.2)) (fun _ h=>h.1))
        replace HO_321001:=aA.mk (Kd.aV (Kd.N_keep (Kd.aV (ok:=fun k_=>(((w.heap.size ≤ k_)) ∧ (some k_ ≠ (.slice Ao59 t310.length co59:Value).ownBlock ∧ (k_ ≠ gb309 ∧ (k_ ≠ gb320 ∧ k_ ≠ g))))) HO_321001.out (fun k_ hk_=>(⟨hk_,hk_.2.2.2.2⟩:_ ∧ k_ ≠ g))) hk (fun _ h=>h.2)) (fun _ h=>h.1))
        replace BK309:=aA.mk (KeepBut.blk hk (g':=gb309) (o:=.cells #[.slice none 0 0,.slice none 0 0,.int .i64 0,.bool false] 25 (0,0)) BK309.out NB309_0.out vN)
        replace BK320:=aA.mk (KeepBut.blk hk (g':=gb320) (o:=.cells #[.slice Ao59 t310.length co59,.slice Ao69 x321001_1.length co69,.int .i64 t316,.bool t317] 25 (0,0)) BK320.out NB320_0.out vN)
        replace HK:=aA.mk (KeepBut.trans tK hk (.inl rfl))
        replace HB:=aA.mk (hb)
        replace HI0:=aA.mk (hi)
        (try clear hb)
        (try clear hb2)
        (try clear hk)
        (try clear hi)
        refine hK.out _ _ ⟨(aD BK320.out 0).trans rfl,(aD BK320.out 1).trans rfl,(aD BK320.out 2).trans rfl,(aD BK320.out 3).trans rfl⟩ (fun hHeld=>?_)
        clear hK K
        refine norm_ (a':=?_) ?_ ?_
        rotate_left
        ·show Act.put _ (some 36) _ = _
         simp only [Act.put,lA,lB,lC,bE,bG]
         rfl
        refine bT (i:=5) (N:=some 37) (v:=?_) (a':=?_) #[T1,T1,T1,T1,T1,T1,F0] rfl rfl tG (fun _ _ _ h=>h) (Or.inl ⟨vr,?_⟩) ?_ ?_
        rotate_left
        ·intro w'
         go_simp
         with_reducible rfl
        rotate_left
        ·simp only [Act.put,lA,lB,lC,bE,bG]
         rfl
        refine bT (i:=6) (N:=some 38) (v:=?_) (a':=?_) #[T1,T1,T1,T1,T1,T1,T1] rfl rfl tG (fun _ _ _ h=>h) (Or.inl ⟨vr,?_⟩) ?_ ?_
        rotate_left
        ·intro w'
         go_simp
         with_reducible rfl
        rotate_left
        ·simp only [Act.put,lA,lB,lC,bE,bG]
         rfl
        refine done_ tG ?_
        have hnb71:=NB320_309.out
        have hnc71:=NB309_320.out
        have hnb72:=NB320_0.out
        have hnc72:=NB0_320.out
        obtain ⟨hcz73_0,hcz73_1,hcz73_2,hcz73_3⟩:=cs4 BK320.out
        obtain ⟨hfz73_0,hfz73_1,hfz73_2,hfz73_3⟩:=fs4 BK320.out
        try go_wp2_with (first|((with_reducible refine gate_builtin (b:=.append) (xs:=#[.tmp 40,.tmp 42]) rfl ?_);at_builtin;refine Kd.N_append k50 w.heap.size rfl (.tmp 40) (.tmp 42) 23 50 (.agg #[(.int .i64 0),(.slice none 0 0)]) 32 rfl Try.underlying23 info50 rfl tf tZ (.slice Ao69 x321001_1.length co69) x321001_1 (⟨0,([]:List Int)⟩:S50) [.int .i64 0,.slice none 0 0] (fun k_=>(w.heap.size ≤ k_) ∧ some k_ ≠ (.slice Ao59 t310.length co59:Value).ownBlock ∧ k_ ≠ gb309 ∧ k_ ≠ gb320 ∧ k_ ≠ g) (fun k_=>((fun k_=>(w.heap.size ≤ k_) ∧ some k_ ≠ (.slice Ao59 t310.length co59:Value).ownBlock ∧ k_ ≠ gb309 ∧ k_ ≠ gb320 ∧ k_ ≠ g)) k_ ∧ some k_ ≠ (.slice Ao69 x321001_1.length co69:Value).ownBlock) rfl rfl ?aP (fun _ hk=>hk) ?aF ?aO (Below.refl _ _) ?aS ?aL ?_;(case aP=>exact (k50_mkF _ _ (⟨0,([]:List Int)⟩:S50) (Nat.le_refl _) (Kd.F_nil _ _ _)));(case aF=>exact (fun k_ hk=>⟨(Nat.le_trans (bQ (w:=w) (g:=g) (row:=none) tK) hk),Kd.fresh' (Kd.N_lt HO_321000.out) k_ hk,Kd.freshB (g:=gb309) (o:=.cells #[.slice none 0 0,.slice none 0 0,.int .i64 0,.bool false] 25 (0,0)) BK309.out k_ hk,Kd.freshB (g:=gb320) (o:=.cells #[.slice Ao59 t310.length co59,.slice Ao69 x321001_1.length co69,.int .i64 t316,.bool t317] 25 (0,0)) BK320.out k_ hk,IsS85.fresh tz k_ hk⟩));(case aO=>exact HO_321001.out);(case aS=>exact (bQ (w:=w) (g:=g) (row:=none) tK));(case aL=>have:=LMc67.out;omega);intro v349 w74 ho hb hg hat;rw [← Ny348.out] at ho;replace HO_321000:=aA.mk (Kd.N_afterv (ok:=(fun k_=>(w.heap.size ≤ k_) ∧ k_ ≠ gb309 ∧ k_ ≠ gb320 ∧ k_ ≠ g)) (by (with_reducible repeat (first|apply Kd.bW|apply Kd.bX|apply Kd.bV));exact Kd.aV HO_321000.out (fun _ hk=>⟨⟨hk.1,⟨hk.2.2.1,⟨hk.2.2.2.1,hk.2.2.2.2⟩⟩⟩,hk.2.1⟩)) hg hat);replace BK309:=aA.mk (blk_grown (g:=gb309) (o:=.cells #[.slice none 0 0,.slice none 0 0,.int .i64 0,.bool false] 25 (0,0)) BK309.out hg (Kd.N_ne HO_321001.out BK309.out tf));replace BK320:=aA.mk (blk_grown (g:=gb320) (o:=.cells #[.slice Ao59 t310.length co59,.slice Ao69 x321001_1.length co69,.int .i64 t316,.bool t317] 25 (0,0)) BK320.out hg (Kd.N_ne HO_321001.out BK320.out tf));replace HB:=aA.mk (below_weaken vk HL.out hb);replace HI0:=aA.mk (IsS85.grown tz hg (IsS85.own_neN HI0.out HO_321001.out tf));replace HK:=aA.mk (KeepBut.trans tK (KeepBut.of_grown hg g) (Kd.N_base2 HO_321001.out));have HO350:=aA.mk (ho);clear HO_321001;clear ho hb hg hat;obtain ⟨Ao75,co75,eo75⟩:=Kd.cB HO350.out;subst eo75;obtain ⟨hcz76_0,hcz76_1,hcz76_2,hcz76_3⟩:=cs4 BK320.out;obtain ⟨hfz76_0,hfz76_1,hfz76_2,hfz76_3⟩:=fs4 BK320.out))
        go_roundg k1
        case measure=>have:=HK1.out;omega
        case rel=>exact ⟨(t346),(t347),(y348),(.slice Ao75 y348.length co75),H',⟨by have:=HK1.out;omega⟩,⟨by (with_reducible repeat (first|apply Kd.bW|apply Kd.bX|apply Kd.bV));exact Kd.aV (Kd.bH (p:=⟨gb320,1,none⟩) (Kd.aV HO_321000.out (fun k_ hk=>(⟨hk,hk.1.2.2.1⟩:_ ∧ k_ ≠ gb320))) (fun _ hk=>hk.2) (.slice Ao75 y348.length co75)) (fun _ hk=>⟨hk.1.1.1,⟨hk.1.2,⟨hk.1.1.2.1,⟨hk.1.1.2.2.1,hk.1.1.2.2.2⟩⟩⟩⟩)⟩,⟨by (with_reducible repeat (first|apply Kd.bW|apply Kd.bX|apply Kd.bV));exact Kd.aV (Kd.bH (p:=⟨gb320,1,none⟩) (Kd.aV HO350.out (fun k_ hk=>(⟨hk,hk.2.2.2.1⟩:_ ∧ k_ ≠ gb320))) (fun _ hk=>hk.2) (.slice Ao75 y348.length co75)) (fun _ hk=>⟨hk.1.1,⟨hk.1.2.1,⟨hk.1.2.2.1,⟨hk.1.2.2.2.1,hk.1.2.2.2.2⟩⟩⟩⟩)⟩,⟨by (with_reducible repeat (first|refine aM ?_ _|refine aN ?_|refine aG ?_ _));refine bY ?_ NB309_320.out _;(with_reducible repeat (first|refine aM ?_ _|refine aN ?_|refine aG ?_ _));exact BK309.out⟩,⟨by (with_reducible repeat (first|refine aM ?_ _|refine aN ?_|refine aG ?_ _));refine aQ (cs:=#[.slice Ao59 t310.length co59,.slice Ao69 x321001_1.length co69,.int .i64 t316,.bool t317]) ?_ 1 _ rfl;(with_reducible repeat (first|refine aM ?_ _|refine aN ?_|refine aG ?_ _));exact BK320.out⟩,⟨th⟩,⟨t5⟩,⟨t0⟩⟩
       ·rw [if_neg c67] at H
        exact wX
      ·rw [if_neg c66] at H
       have c66b0:decide ((x321001_1.length:Int) < (wrap64 (59 + t345))) = false:=decide_eq_false c66
       clear c66
       simp only [Option.some.injEq,Prod.mk.injEq] at H
       obtain ⟨rfl,rfl,rfl,rfl,rfl,rfl⟩:=H
       try go_wp2
       replace HO_321000:=aA.mk (Kd.bV HO_321000.out)
       replace HO_321001:=aA.mk (Kd.bV HO_321001.out)
       replace BK309:=aA.mk (aN BK309.out)
       replace BK320:=aA.mk (aN BK320.out)
       replace HI0:=aA.mk (IsS85.drew HI0.out)
       replace HK:=aA.mk (bB HK.out)
       replace HB:=aA.mk (aH HB.out)
       obtain ⟨Ao78,co78,eo78⟩:=Kd.cB HO_321001.out
       (first|subst eo78|(injection eo78 with f1_ f2_ f3_;have f4_:=f1_.symm;have f5_:=f3_.symm;clear f1_ f2_ f3_;subst f4_;subst f5_))
       refine start_ (n:=7) (S:=fun w'=>w'.cell? ⟨gb320,0,none⟩ = some (.slice Ao59 t310.length co59) ∧ w'.cell? ⟨gb320,1,none⟩ = some (.slice Ao78 x321001_1.length co78) ∧ w'.cell? ⟨gb320,2,none⟩ = some (.int .i64 t316) ∧ w'.cell? ⟨gb320,3,none⟩ = some (.bool t317)) (ds:=[]) #[F0,F0,F0,F0,F0,F0,F0] tG rfl rfl ⟨(aD BK320.out 0).trans rfl,(aD BK320.out 1).trans rfl,(aD BK320.out 2).trans rfl,(aD BK320.out 3).trans rfl⟩ (fun hHeld=>?_)
       generalize wr.drew = w77 at HO_321000 HO_321001 BK309 BK320 HI0 HK HB hHeld ⊢
       refine bT (i:=0) (N:=some 32) (v:=?_) (a':=?_) #[T1,F0,F0,F0,F0,F0,F0] rfl rfl tG (fun _ _ _ h=>h) (Or.inl ⟨vr,?_⟩) ?_ ?_
       rotate_left
       ·intro w'
        go_simp
        with_reducible rfl
       rotate_left
       ·simp only [Act.put,lA,lB,lC,bE,bG]
        rfl
       refine bT (i:=3) (N:=some 35) (v:=?_) (a':=?_) #[T1,F0,F0,T1,F0,F0,F0] rfl rfl tG (fun _ _ _ h=>h) (Or.inl ⟨vr,?_⟩) ?_ ?_
       rotate_left
       ·intro w'
        go_simp
        with_reducible rfl
       rotate_left
       ·simp only [Act.put,lA,lB,lC,bE,bG]
        rfl
       refine take_ (i:=1) (N:=some 33) (v:=?_) (a':=?_) #[T1,T1,F0,T1,F0,F0,F0] rfl rfl tG (fun _ _ _ h=>h) (Or.inl ⟨vr,?_⟩) hHeld ?_ ?_
       rotate_left
       ·rintro w' ⟨s0,s1,s2,s3⟩
        go_simp
        with_reducible rfl
       rotate_left
       ·simp only [Act.put,lA,lB,lC,bE,bG]
        rfl
       refine bT (i:=2) (N:=some 34) (v:=?_) (a':=?_) #[T1,T1,T1,T1,F0,F0,F0] rfl rfl tG (fun _ _ _ h=>h) (Or.inl ⟨vr,?_⟩) ?_ ?_
       rotate_left
       ·intro w'
        go_simp
        with_reducible rfl
       rotate_left
       ·simp only [Act.put,lA,lB,lC,bE,bG]
        rfl
       refine one_ (i:=4) (N:=some 36) #[T1,T1,T1,T1,T1,F0,F0] rfl rfl tG tf (fun K hK=>?_)
       refine goes_ Try.func66 tG rfl #[.pointer (some ⟨g,0,none⟩),.int .i64 3] wN rfl rfl tC ?_
       with_reducible refine (spec_l1Below.calls g s0_0 x1001_1 x1002_1 3 t345 t346 t347 w0 _ ?side1 ?side2 A65.out).mono ?_
       (case side1=>exact tX)
       (case side2=>exact te)
       rintro e w79 ⟨rfl,hi,hb,hk⟩
       refine ⟨_,rfl,?_⟩
       replace HO_321000:=aA.mk (Kd.aV (Kd.N_keep (Kd.aV (ok:=fun k_=>(((w.heap.size ≤ k_)) ∧ (some k_ ≠ (.slice Ao78 x321001_1.length co78:Value).ownBlock ∧ (k_ ≠ gb309 ∧ (k_ ≠ gb320 ∧ k_ ≠ g))))) HO_321000.out (fun k_ hk_=>(⟨hk_,hk_.2.2.2.2⟩:_ ∧ k_ ≠ g))) hk (fun _ h=>h.2)) (fun _ h=>h.1))
       replace HO_321001:=aA.mk (Kd.aV (Kd.N_keep (Kd.aV (ok:=fun k_=>(((w.heap.size ≤ k_)) ∧ (some k_ ≠ (.slice Ao59 t310.length co59:Value).ownBlock ∧ (k_ ≠ gb309 ∧ (k_ ≠ gb320 ∧ k_ ≠ g))))) HO_321001.out (fun k_ hk_=>(⟨hk_,hk_.2.2.2.2⟩:_ ∧ k_ ≠ g))) hk (fun _ h=>h.2)) (fun _ h=>h.1))
       replace BK309:=aA.mk (KeepBut.blk hk (g':=gb309) (o:=.cells #[.slice none 0 0,.slice none 0 0,.int .i64 0,.bool false] 25 (0,0)) BK309.out NB309_0.out vN)
       replace BK320:=aA.mk (KeepBut.blk hk (g':=gb320) (o:=.cells #[.slice Ao59 t310.length co59,.slice Ao78 x321001_1.length co78,.int .i64 t316,.bool t317] 25 (0,0)) BK320.out NB320_0.out vN)
       replace HK:=aA.mk (KeepBut.trans tK hk (.inl rfl))
       replace HB:=aA.mk (hb)
       replace HI0:=aA.mk (hi)
       (try clear hb)
       (try clear hb2)
       (try clear hk)
       (try clear hi)
       refine hK.out _ _ ⟨(aD BK320.out 0).trans rfl,(aD BK320.out 1).trans rfl,(aD BK320.out 2).trans rfl,(aD BK320.out 3).trans rfl⟩ (fun hHeld=>?_)
       clear hK K
       refine norm_ (a':=?_) ?_ ?_
       rotate_left
       ·show Act.put _ (some 36) _ = _
        simp only [Act.put,lA,lB,lC,bE,bG]
        rfl
       refine bT (i:=5) (N:=some 37) (v:=?_) (a':=?_) #[T1,T1,T1,T1,T1,T1,F0] rfl rfl tG (fun _ _ _ h=>h) (Or.inl ⟨vr,?_⟩) ?_ ?_
       rotate_left
       ·intro w'
        go_simp
        with_reducible rfl
       rotate_left
       ·simp only [Act.put,lA,lB,lC,bE,bG]
        rfl
       refine bT (i:=6) (N:=some 38) (v:=?_) (a':=?_) #[T1,T1,T1,T1,T1,T1,T1] rfl rfl tG (fun _ _ _ h=>h) (Or.inl ⟨vr,?_⟩) ?_ ?_
       rotate_left
       ·intro w'
        go_simp
        with_reducible rfl
       rotate_left
       ·simp only [Act.put,lA,lB,lC,bE,bG]
        rfl
       refine done_ tG ?_
       have hnb80:=NB320_309.out
       have hnc80:=NB309_320.out
       have hnb81:=NB320_0.out
       have hnc81:=NB0_320.out
       obtain ⟨hcz82_0,hcz82_1,hcz82_2,hcz82_3⟩:=cs4 BK320.out
       obtain ⟨hfz82_0,hfz82_1,hfz82_2,hfz82_3⟩:=fs4 BK320.out
       have hnb83:=NB309_0.out
       have hnc83:=NB0_309.out
       obtain ⟨hcz84_0,hcz84_1,hcz84_2,hcz84_3⟩:=cs4 BK309.out
       obtain ⟨hfz84_0,hfz84_1,hfz84_2,hfz84_3⟩:=fs4 BK309.out
       try go_wp2
       refine bodyPost_ret (results_cell_row rfl _ _ gb309 25 #[.slice Ao59 t310.length co59,.slice Ao78 x321001_1.length co78,.int .i64 t316,.bool t317] (0,0) _ rfl (by (with_reducible repeat (first|refine aM ?_ _|refine aN ?_|refine aG ?_ _));refine aQ (cs:=#[.slice Ao59 t310.length co59,.slice Ao78 x321001_1.length co78,.int .i64 t316,.bool false]) ?_ 3 _ rfl;(with_reducible repeat (first|refine aM ?_ _|refine aN ?_|refine aG ?_ _));refine aQ (cs:=#[.slice Ao59 t310.length co59,.slice Ao78 x321001_1.length co78,.int .i64 0,.bool false]) ?_ 2 _ rfl;(with_reducible repeat (first|refine aM ?_ _|refine aN ?_|refine aG ?_ _));refine aQ (cs:=#[.slice Ao59 t310.length co59,.slice none 0 0,.int .i64 0,.bool false]) ?_ 1 _ rfl;(with_reducible repeat (first|refine aM ?_ _|refine aN ?_|refine aG ?_ _));refine aQ (cs:=#[.slice none 0 0,.slice none 0 0,.int .i64 0,.bool false]) ?_ 0 _ rfl;(with_reducible repeat (first|refine aM ?_ _|refine aN ?_|refine aG ?_ _));exact BK309.out) Try.underlying25 rfl tG) rfl ?_
       exact ⟨_,_,tN,by (with_reducible repeat (first|apply Kd.bW|apply Kd.bX|apply Kd.bV));exact Kd.aV (Kd.bH (p:=⟨gb309,3,none⟩) (Kd.bH (p:=⟨gb309,2,none⟩) (Kd.bH (p:=⟨gb309,1,none⟩) (Kd.bH (p:=⟨gb309,0,none⟩) (Kd.aV HO_321000.out (fun k_ hk=>(⟨hk,hk.2.2.1⟩:_ ∧ k_ ≠ gb309))) (fun _ hk=>hk.2) (.slice Ao59 t310.length co59)) (fun _ hk=>hk.2) (.slice Ao78 x321001_1.length co78)) (fun _ hk=>hk.2) (.int .i64 t316)) (fun _ hk=>hk.2) (.bool t317)) (fun _ hk=>⟨hk.1.1,hk.1.2.1⟩),by (with_reducible repeat (first|apply Kd.bW|apply Kd.bX|apply Kd.bV));exact Kd.aV (Kd.bH (p:=⟨gb309,3,none⟩) (Kd.bH (p:=⟨gb309,2,none⟩) (Kd.bH (p:=⟨gb309,1,none⟩) (Kd.bH (p:=⟨gb309,0,none⟩) (Kd.aV HO_321001.out (fun k_ hk=>(⟨hk,hk.2.2.1⟩:_ ∧ k_ ≠ gb309))) (fun _ hk=>hk.2) (.slice Ao59 t310.length co59)) (fun _ hk=>hk.2) (.slice Ao78 x321001_1.length co78)) (fun _ hk=>hk.2) (.int .i64 t316)) (fun _ hk=>hk.2) (.bool t317)) (fun _ hk=>⟨hk.1.1,hk.1.2.1⟩),th,t0,t5⟩
   ·rw [if_neg c55] at H
    have c55b0:(t321 == 2) = false:=beq_eq_false_iff_ne.mpr c55
    have c55b1:(t321 != 2) = true:=bne_iff_ne.mpr c55
    by_cases c85:t321 = 3
    ·rw [if_pos c85] at H
     have c85b0:(t321 == 3) = true:=beq_iff_eq.mpr c85
     have c85b1:(t321 != 3) = false:=bne_eq_false_iff_eq.mpr c85
     clear c85
     obtain ⟨y351,hy351⟩:∃ y_:List Int,y_ = (([0,1,5,(-2),1001]:List Int)):=⟨_,rfl⟩
     replace H:((spec_l1Int.f s0_0 t322 t323 y351).bind fun bt354=>(some (t310,t313,bt354.1,t317,bt354.2.1,bt354.2.2))) = some (r1,r2,r3,r4,r5,r6):=by first|(rw [hy351];with_reducible exact H)|(have H2_:=(Option.bind_some _ _).symm.trans H;rw [hy351];with_reducible exact H2_)|(have H2_:=(Option.bind_some _ _).symm.trans H;with_reducible exact H2_)|with_reducible exact H|(rw [hy351];exact H)|exact H
     have Ny351:=aA.mk hy351
     clear hy351
     replace H:=lF H
     obtain ⟨⟨t354,t355,t356⟩,A860,H⟩:=H
     replace H:(some (t310,t313,t354,t317,t355,t356)) = some (r1,r2,r3,r4,r5,r6):=H
     have A86:=aA.mk A860
     clear A860
     simp only [Option.some.injEq,Prod.mk.injEq] at H
     obtain ⟨rfl,rfl,rfl,rfl,rfl,rfl⟩:=H
     go_enter Try.func63,Try.ntmps63
     go_wp2_with (first|((with_reducible refine bC (N:=2) rfl ?_);refine bD ?hg (N:=2) ?hd (cs:=#[.slice none 0 0,.slice none 0 0,.int .i64 0,.bool false]) (t:=25) ?hr ?_;(case hd=>rfl);(case hg=>rfl);(case hr=>exact tE);intro gb309 hg w87 hbox hb;replace HB:=aA.mk (aT vE hb);have BK309:=aA.mk (hbox);have GW309:=aA.mk ((by rw [hg];exact (bQ (w:=w) (g:=g) (row:=none) tQ):w.heap.size ≤ gb309));have GE309:=aA.mk ((Nat.le_trans HW0.out (by rw [hg];exact (bQ (w:=w) (g:=g) (row:=none) tQ):w.heap.size ≤ gb309):w0.heap.size ≤ gb309));replace HK:=aA.mk (KeepBut.trans tQ (KeepBut.of_below hb g none) (.inl rfl));have NB0_309:=aA.mk ((by rw [hg];exact Nat.ne_of_lt (IsS85.lt (show IsS85 w0 _ g s0_0 s0_1 s0_2 from by repeat (first|(with_reducible first|exact HI0.out|apply IsS85.alloc|apply IsS85.drewN|apply IsS85.drew|apply IsS85.set_1|apply IsS85.set_2)|exact HI0.out))):g ≠ gb309));have NB309_0:=aA.mk ((by rw [hg];exact Nat.ne_of_gt (IsS85.lt (show IsS85 w0 _ g s0_0 s0_1 s0_2 from by repeat (first|(with_reducible first|exact HI0.out|apply IsS85.alloc|apply IsS85.drewN|apply IsS85.drew|apply IsS85.set_1|apply IsS85.set_2)|exact HI0.out))):gb309 ≠ g));replace HI0:=aA.mk (IsS85.below t6 hb);clear hb hbox hg)|((with_reducible refine aW (f:=62) rfl ?_);refine bK (some 5) rfl rfl Try.func62 tG rfl #[.pointer (some ⟨g,0,none⟩)] rfl tC ?_;(with_reducible refine (spec_l2Draw.calls k g s0_0 s0_1 s0_2 t310 t313 t316 t317 t318 t319 w0 _ ?side1 ?side2 A2.out).mono ?_);(case side1=>exact vB);(case side2=>exact vQ);rintro e w88 ⟨v311,v314,rfl,ho0,ho1,hi,hb,hk⟩;refine ⟨_,rfl,?_⟩;have HO312:=aA.mk (Kd.N_lower (Kd.aV (ok':=fun k_=>(w.heap.size ≤ k_) ∧ some k_ ≠ (v314:Value).ownBlock ∧ k_ ≠ gb309 ∧ k_ ≠ g) ho0 (fun k_ hk_=>⟨(Nat.le_trans (bQ (w:=w) (g:=g) (row:=none) tD) hk_.1),hk_.2,(Kd.freshB (g:=gb309) (o:=.cells #[.slice none 0 0,.slice none 0 0,.int .i64 0,.bool false] 25 (0,0)) BK309.out k_ hk_.1),(IsS85.fresh tP k_ hk_.1)⟩)) (bQ (w:=w) (g:=g) (row:=none) tD));have HO315:=aA.mk (Kd.N_lower (Kd.aV (ok':=fun k_=>(w.heap.size ≤ k_) ∧ some k_ ≠ (v311:Value).ownBlock ∧ k_ ≠ gb309 ∧ k_ ≠ g) ho1 (fun k_ hk_=>⟨(Nat.le_trans (bQ (w:=w) (g:=g) (row:=none) tD) hk_.1),hk_.2,(Kd.freshB (g:=gb309) (o:=.cells #[.slice none 0 0,.slice none 0 0,.int .i64 0,.bool false] 25 (0,0)) BK309.out k_ hk_.1),(IsS85.fresh tP k_ hk_.1)⟩)) (bQ (w:=w) (g:=g) (row:=none) tD));replace BK309:=aA.mk (KeepBut.blk hk (g':=gb309) (o:=.cells #[.slice none 0 0,.slice none 0 0,.int .i64 0,.bool false] 25 (0,0)) BK309.out NB309_0.out vN);replace HK:=aA.mk (KeepBut.trans tD hk (.inl rfl));replace HB:=aA.mk (hb);replace HI0:=aA.mk (hi);(try clear hb);(try clear hk);(try clear hi);(try clear ho0);(try clear ho1))|((with_reducible refine bC (N:=3) rfl ?_);refine bD ?hg (N:=3) ?hd (cs:=#[.slice none 0 0,.slice none 0 0,.int .i64 0,.bool false]) (t:=25) ?hr ?_;(case hd=>rfl);(case hg=>rfl);(case hr=>exact tE);intro gb320 hg w89 hbox hb;replace HO312:=aA.mk (Kd.N_below (Kd.N_elderB HO312.out gb320 (Nat.le_of_eq hg.symm)) hb);replace HO315:=aA.mk (Kd.N_below (Kd.N_elderB HO315.out gb320 (Nat.le_of_eq hg.symm)) hb);replace HB:=aA.mk (aT vL hb);have BK320:=aA.mk (hbox);have GW320:=aA.mk ((by rw [hg];exact (bQ (w:=w) (g:=g) (row:=none) tD):w.heap.size ≤ gb320));have GE320:=aA.mk ((Nat.le_trans HW0.out (by rw [hg];exact (bQ (w:=w) (g:=g) (row:=none) tD):w.heap.size ≤ gb320):w0.heap.size ≤ gb320));replace HK:=aA.mk (KeepBut.trans tD (KeepBut.of_below hb g none) (.inl rfl));have NB309_320:=aA.mk ((by rw [hg];exact Nat.ne_of_lt (bJ (g:=gb309) (o:=.cells #[.slice none 0 0,.slice none 0 0,.int .i64 0,.bool false] 25 (0,0)) BK309.out):gb309 ≠ gb320));have NB320_309:=aA.mk ((by rw [hg];exact Nat.ne_of_gt (bJ (g:=gb309) (o:=.cells #[.slice none 0 0,.slice none 0 0,.int .i64 0,.bool false] 25 (0,0)) BK309.out):gb320 ≠ gb309));replace BK309:=aA.mk (bM (g:=gb309) (o:=.cells #[.slice none 0 0,.slice none 0 0,.int .i64 0,.bool false] 25 (0,0)) BK309.out hb);have NB0_320:=aA.mk ((by rw [hg];exact Nat.ne_of_lt (IsS85.lt (show IsS85 w0 _ g s0_0 t318 t319 from by repeat (first|(with_reducible first|exact HI0.out|apply IsS85.alloc|apply IsS85.drewN|apply IsS85.drew|apply IsS85.set_1|apply IsS85.set_2|apply IsS85.far (hne:=NB0_309.out))|exact HI0.out))):g ≠ gb320));have NB320_0:=aA.mk ((by rw [hg];exact Nat.ne_of_gt (IsS85.lt (show IsS85 w0 _ g s0_0 t318 t319 from by repeat (first|(with_reducible first|exact HI0.out|apply IsS85.alloc|apply IsS85.drewN|apply IsS85.drew|apply IsS85.set_1|apply IsS85.set_2|apply IsS85.far (hne:=NB0_309.out))|exact HI0.out))):gb320 ≠ g));replace HI0:=aA.mk (IsS85.below tP hb);clear hb hbox hg;obtain ⟨Ao90,co90,eo90⟩:=Kd.cB HO312.out;subst eo90;have hnb91:=NB320_309.out;have hnc91:=NB309_320.out;have hnb92:=NB320_0.out;have hnc92:=NB0_320.out;obtain ⟨hcz93_0,hcz93_1,hcz93_2,hcz93_3⟩:=cs4 BK320.out;obtain ⟨hfz93_0,hfz93_1,hfz93_2,hfz93_3⟩:=fs4 BK320.out;obtain ⟨Ao94,co94,eo94⟩:=Kd.cB HO315.out;subst eo94)|((with_reducible refine aW (f:=66) rfl ?_);refine bK (some 7) rfl rfl Try.func66 tG rfl #[.pointer (some ⟨g,0,none⟩),.int .i64 12] rfl tC ?_;(with_reducible refine (spec_l1Below.calls g s0_0 t318 t319 12 t321 t322 t323 w0 _ ?side1 ?side2 A3.out).mono ?_);(case side1=>exact tX);(case side2=>exact te);rintro e w95 ⟨rfl,hi,hb,hk⟩;refine ⟨_,rfl,?_⟩;replace BK309:=aA.mk (KeepBut.blk hk (g':=gb309) (o:=.cells #[.slice none 0 0,.slice none 0 0,.int .i64 0,.bool false] 25 (0,0)) tV NB309_0.out vN);replace HO312:=aA.mk (Kd.aV (Kd.N_keep (Kd.aV (ok:=fun k_=>((((w.heap.size ≤ k_)) ∧ (some k_ ≠ (.slice Ao94 t313.length co94:Value).ownBlock ∧ (k_ ≠ gb309 ∧ k_ ≠ g))) ∧ k_ ≠ gb320)) (by (with_reducible repeat (first|apply Kd.bW|apply Kd.bX|apply Kd.bV));exact (Kd.aV (Kd.bH (p:=⟨gb320,3,none⟩) (Kd.bH (p:=⟨gb320,2,none⟩) (Kd.bH (p:=⟨gb320,1,none⟩) (Kd.bH (p:=⟨gb320,0,none⟩) (Kd.aV HO312.out (fun k_ hk=>(⟨hk,hk.2⟩:_ ∧ k_ ≠ gb320))) (fun _ hk=>hk.2) (.slice Ao90 t310.length co90)) (fun _ hk=>hk.2) (.slice Ao94 t313.length co94)) (fun _ hk=>hk.2) (.int .i64 t316)) (fun _ hk=>hk.2) (.bool t317)) (fun _ h_=>h_.1))) (fun k_ hk_=>(⟨hk_,hk_.1.2.2.2⟩:_ ∧ k_ ≠ g))) hk (fun _ h=>h.2)) (fun _ h=>h.1));replace HO315:=aA.mk (Kd.aV (Kd.N_keep (Kd.aV (ok:=fun k_=>((((w.heap.size ≤ k_)) ∧ (some k_ ≠ (.slice Ao90 t310.length co90:Value).ownBlock ∧ (k_ ≠ gb309 ∧ k_ ≠ g))) ∧ k_ ≠ gb320)) (by (with_reducible repeat (first|apply Kd.bW|apply Kd.bX|apply Kd.bV));exact (Kd.aV (Kd.bH (p:=⟨gb320,3,none⟩) (Kd.bH (p:=⟨gb320,2,none⟩) (Kd.bH (p:=⟨gb320,1,none⟩) (Kd.bH (p:=⟨gb320,0,none⟩) (Kd.aV HO315.out (fun k_ hk=>(⟨hk,hk.2⟩:_ ∧ k_ ≠ gb320))) (fun _ hk=>hk.2) (.slice Ao90 t310.length co90)) (fun _ hk=>hk.2) (.slice Ao94 t313.length co94)) (fun _ hk=>hk.2) (.int .i64 t316)) (fun _ hk=>hk.2) (.bool t317)) (fun _ h_=>h_.1))) (fun k_ hk_=>(⟨hk_,hk_.1.2.2.2⟩:_ ∧ k_ ≠ g))) hk (fun _ h=>h.2)) (fun _ h=>h.1));replace BK320:=aA.mk (KeepBut.blk hk (g':=gb320) (o:=.cells #[.slice Ao90 t310.length co90,.slice Ao94 t313.length co94,.int .i64 t316,.bool t317] 25 (0,0)) (by (with_reducible repeat (first|refine aM ?_ _|refine aN ?_|refine aG ?_ _));refine aQ (cs:=#[.slice Ao90 t310.length co90,.slice Ao94 t313.length co94,.int .i64 t316,.bool false]) ?_ 3 _ rfl;(with_reducible repeat (first|refine aM ?_ _|refine aN ?_|refine aG ?_ _));refine aQ (cs:=#[.slice Ao90 t310.length co90,.slice Ao94 t313.length co94,.int .i64 0,.bool false]) ?_ 2 _ rfl;(with_reducible repeat (first|refine aM ?_ _|refine aN ?_|refine aG ?_ _));refine aQ (cs:=#[.slice Ao90 t310.length co90,.slice none 0 0,.int .i64 0,.bool false]) ?_ 1 _ rfl;(with_reducible repeat (first|refine aM ?_ _|refine aN ?_|refine aG ?_ _));refine aQ (cs:=#[.slice none 0 0,.slice none 0 0,.int .i64 0,.bool false]) ?_ 0 _ rfl;(with_reducible repeat (first|refine aM ?_ _|refine aN ?_|refine aG ?_ _));exact BK320.out) NB320_0.out vN);replace HK:=aA.mk (KeepBut.trans tK hk (.inl rfl));replace HB:=aA.mk (hb);replace HI0:=aA.mk (hi);(try clear hb);(try clear hk);(try clear hi))|((with_reducible refine bC (N:=48) rfl ?_);refine Kd.R_lit (Kd.int .i64) _ 3 ?hg (N:=48) ?hd (xs:=([0,1,5,(-2),1001]:List Int)) (inner:=[.int .i64 0,.int .i64 1,.int .i64 5,.int .i64 (-2),.int .i64 1001]) (ok:=fun _=>True) (okp:=fun _=>True) ?hr ?hp (fun _ hk=>hk) trivial (Below.refl _ _) (Nat.le_refl _) vN ?_;(case hd=>rfl);(case hg=>rfl);(case hr=>exact tE);(case hp=>exact (Reps.one (show Kd.M (Kd.int .i64) _ _ _ 0 [.int .i64 0] from rfl) (Reps.one (show Kd.M (Kd.int .i64) _ _ _ 1 [.int .i64 1] from rfl) (Reps.one (show Kd.M (Kd.int .i64) _ _ _ 5 [.int .i64 5] from rfl) (Reps.one (show Kd.M (Kd.int .i64) _ _ _ (-2) [.int .i64 (-2)] from rfl) (Reps.one (show Kd.M (Kd.int .i64) _ _ _ 1001 [.int .i64 1001] from rfl) (Reps.none _ _)))))));intro v352 w96 ho97 hb hg_ hnew_;clear hg_ hnew_;(first|rw [← Ny351.out] at ho97|(simp only [Int.reduceToNat] at ho97;rw [← Ny351.out] at ho97));replace HO312:=aA.mk (Kd.N_elder' HO312.out (Kd.R_base ho97) hb);replace HO315:=aA.mk (Kd.N_elder' HO315.out (Kd.R_base ho97) hb);have HO353:=aA.mk (Kd.R_lower (Kd.R_newM (M:=fun k_=>(w.heap.size ≤ k_)) ho97 (bQ (w:=w) (g:=g) (row:=none) tK) (fun k_ h_=>h_)) (bQ (w:=w) (g:=g) (row:=none) tK));replace BK309:=aA.mk (bM (g:=gb309) (o:=.cells #[.slice none 0 0,.slice none 0 0,.int .i64 0,.bool false] 25 (0,0)) BK309.out hb);replace BK320:=aA.mk (bM (g:=gb320) (o:=.cells #[.slice Ao90 t310.length co90,.slice Ao94 t313.length co94,.int .i64 t316,.bool t317] 25 (0,0)) BK320.out hb);replace HK:=aA.mk (KeepBut.trans tK (KeepBut.of_below hb g none) (.inl rfl));replace HB:=aA.mk (aT vk hb);replace HI0:=aA.mk (IsS85.below tz hb);clear hb ho97;obtain ⟨Ao98,co98,eo98⟩:=Kd.R_slice HO353.out;subst eo98)|((with_reducible refine aW (f:=64) rfl ?_);refine bK (some 49) rfl rfl Try.func64 tG rfl #[.pointer (some ⟨g,0,none⟩),.slice Ao98 y351.length co98] rfl tC ?_;(with_reducible refine (spec_l1Int.calls g s0_0 t322 t323 _ _ y351 t354 t355 t356 w0 _ ?side1 ?side2 ?side3 ?side4 ?side5 A86.out).mono ?_);(case side1=>exact tX);(case side2=>exact te);(case side3=>repeat (first|exact (Kd.R_reads' HO353.out).2.2|(with_reducible refine Kd.C_alloc ?_ _)|(with_reducible refine Kd.C_drewN ?_ _)|(with_reducible refine Kd.C_drew ?_)));(case side4=>exact (Kd.R_reads' HO353.out).2.1);(case side5=>exact far_slice (IsS85.own_ne HI0.out HO353.out tf));rintro e w99 ⟨rfl,hi,hb,hk⟩;refine ⟨_,rfl,?_⟩;replace BK309:=aA.mk (KeepBut.blk hk (g':=gb309) (o:=.cells #[.slice none 0 0,.slice none 0 0,.int .i64 0,.bool false] 25 (0,0)) BK309.out NB309_0.out vN);replace HO312:=aA.mk (Kd.aV (Kd.N_keep (Kd.aV (ok:=fun k_=>(((((w.heap.size ≤ k_)) ∧ (some k_ ≠ (.slice Ao94 t313.length co94:Value).ownBlock ∧ (k_ ≠ gb309 ∧ k_ ≠ g))) ∧ k_ ≠ gb320) ∧ some k_ ≠ (.slice Ao98 y351.length co98:Value).ownBlock)) HO312.out (fun k_ hk_=>(⟨hk_,hk_.1.1.2.2.2⟩:_ ∧ k_ ≠ g))) hk (fun _ h=>h.2)) (fun _ h=>h.1));replace HO315:=aA.mk (Kd.aV (Kd.N_keep (Kd.aV (ok:=fun k_=>(((((w.heap.size ≤ k_)) ∧ (some k_ ≠ (.slice Ao90 t310.length co90:Value).ownBlock ∧ (k_ ≠ gb309 ∧ k_ ≠ g))) ∧ k_ ≠ gb320) ∧ some k_ ≠ (.slice Ao98 y351.length co98:Value).ownBlock)) HO315.out (fun k_ hk_=>(⟨hk_,hk_.1.1.2.2.2⟩:_ ∧ k_ ≠ g))) hk (fun _ h=>h.2)) (fun _ h=>h.1));replace BK320:=aA.mk (KeepBut.blk hk (g':=gb320) (o:=.cells #[.slice Ao90 t310.length co90,.slice Ao94 t313.length co94,.int .i64 t316,.bool t317] 25 (0,0)) BK320.out NB320_0.out vN);replace HO353:=aA.mk (Kd.R_mono (Kd.R_keep (IsS85.apart (show IsS85 w0 _ g s0_0 t322 t323 from by repeat (first|(with_reducible first|exact HI0.out|apply IsS85.alloc|apply IsS85.drewN|apply IsS85.drew|apply IsS85.set_1|apply IsS85.set_2|apply IsS85.far (hne:=NB0_309.out)|apply IsS85.far (hne:=NB0_320.out))|exact HI0.out)) HO353.out tf) hk (fun _ h=>h.2)) (fun _ h=>h.1));replace HK:=aA.mk (KeepBut.trans tK hk (.inl rfl));replace HB:=aA.mk (hb);replace HI0:=aA.mk (hi);(try clear hb);(try clear hk);(try clear hi);obtain ⟨hcz100_0,hcz100_1,hcz100_2,hcz100_3⟩:=cs4 BK320.out;obtain ⟨hfz100_0,hfz100_1,hfz100_2,hfz100_3⟩:=fs4 BK320.out;have hnb101:=NB309_0.out;have hnc101:=NB0_309.out;obtain ⟨hcz102_0,hcz102_1,hcz102_2,hcz102_3⟩:=cs4 BK309.out;obtain ⟨hfz102_0,hfz102_1,hfz102_2,hfz102_3⟩:=fs4 BK309.out))
     refine bodyPost_ret (results_cell_row rfl _ _ gb309 25 #[.slice Ao90 t310.length co90,.slice Ao94 t313.length co94,.int .i64 t354,.bool t317] (0,0) _ rfl (by (with_reducible repeat (first|refine aM ?_ _|refine aN ?_|refine aG ?_ _));refine aQ (cs:=#[.slice Ao90 t310.length co90,.slice Ao94 t313.length co94,.int .i64 t354,.bool false]) ?_ 3 _ rfl;(with_reducible repeat (first|refine aM ?_ _|refine aN ?_|refine aG ?_ _));refine aQ (cs:=#[.slice Ao90 t310.length co90,.slice Ao94 t313.length co94,.int .i64 0,.bool false]) ?_ 2 _ rfl;(with_reducible repeat (first|refine aM ?_ _|refine aN ?_|refine aG ?_ _));refine aQ (cs:=#[.slice Ao90 t310.length co90,.slice none 0 0,.int .i64 0,.bool false]) ?_ 1 _ rfl;(with_reducible repeat (first|refine aM ?_ _|refine aN ?_|refine aG ?_ _));refine aQ (cs:=#[.slice none 0 0,.slice none 0 0,.int .i64 0,.bool false]) ?_ 0 _ rfl;(with_reducible repeat (first|refine aM ?_ _|refine aN ?_|refine aG ?_ _));refine bY ?_ NB309_320.out _;(with_reducible repeat (first|refine aM ?_ _|refine aN ?_|refine aG ?_ _));exact BK309.out) Try.underlying25 rfl tG) rfl ?_
     exact ⟨_,_,tN,by (with_reducible repeat (first|apply Kd.bW|apply Kd.bX|apply Kd.bV));exact Kd.aV (Kd.bH (p:=⟨gb309,3,none⟩) (Kd.bH (p:=⟨gb309,2,none⟩) (Kd.bH (p:=⟨gb309,1,none⟩) (Kd.bH (p:=⟨gb309,0,none⟩) (Kd.bH (p:=⟨gb320,2,none⟩) (Kd.aV (Kd.aV HO312.out (fun k_ hk=>(⟨hk,hk.1.2⟩:_ ∧ k_ ≠ gb320))) (fun k_ hk=>(⟨hk,hk.1.1.1.2.2.1⟩:_ ∧ k_ ≠ gb309))) (fun _ hk=>hk.1.2) (.int .i64 t354)) (fun _ hk=>hk.2) (.slice Ao90 t310.length co90)) (fun _ hk=>hk.2) (.slice Ao94 t313.length co94)) (fun _ hk=>hk.2) (.int .i64 t354)) (fun _ hk=>hk.2) (.bool t317)) (fun _ hk=>⟨hk.1.1.1.1.1,hk.1.1.1.1.2.1⟩),by (with_reducible repeat (first|apply Kd.bW|apply Kd.bX|apply Kd.bV));exact Kd.aV (Kd.bH (p:=⟨gb309,3,none⟩) (Kd.bH (p:=⟨gb309,2,none⟩) (Kd.bH (p:=⟨gb309,1,none⟩) (Kd.bH (p:=⟨gb309,0,none⟩) (Kd.bH (p:=⟨gb320,2,none⟩) (Kd.aV (Kd.aV HO315.out (fun k_ hk=>(⟨hk,hk.1.2⟩:_ ∧ k_ ≠ gb320))) (fun k_ hk=>(⟨hk,hk.1.1.1.2.2.1⟩:_ ∧ k_ ≠ gb309))) (fun _ hk=>hk.1.2) (.int .i64 t354)) (fun _ hk=>hk.2) (.slice Ao90 t310.length co90)) (fun _ hk=>hk.2) (.slice Ao94 t313.length co94)) (fun _ hk=>hk.2) (.int .i64 t354)) (fun _ hk=>hk.2) (.bool t317)) (fun _ hk=>⟨hk.1.1.1.1.1,hk.1.1.1.1.2.1⟩),th,t0,t5⟩
    ·rw [if_neg c85] at H
     have c85b0:(t321 == 3) = false:=beq_eq_false_iff_ne.mpr c85
     have c85b1:(t321 != 3) = true:=bne_iff_ne.mpr c85
     by_cases c103:t321 = 4
     ·rw [if_pos c103] at H
      have c103b0:(t321 == 4) = true:=beq_iff_eq.mpr c103
      have c103b1:(t321 != 4) = false:=bne_eq_false_iff_eq.mpr c103
      clear c103
      simp only [Option.some.injEq,Prod.mk.injEq] at H
      obtain ⟨rfl,rfl,rfl,rfl,rfl,rfl⟩:=H
      go_enter Try.func63,Try.ntmps63
      go_wp2_with (first|((with_reducible refine bC (N:=2) rfl ?_);refine bD ?hg (N:=2) ?hd (cs:=#[.slice none 0 0,.slice none 0 0,.int .i64 0,.bool false]) (t:=25) ?hr ?_;(case hd=>rfl);(case hg=>rfl);(case hr=>exact tE);intro gb309 hg w104 hbox hb;replace HB:=aA.mk (aT vE hb);have BK309:=aA.mk (hbox);have GW309:=aA.mk ((by rw [hg];exact (bQ (w:=w) (g:=g) (row:=none) tQ):w.heap.size ≤ gb309));have GE309:=aA.mk ((Nat.le_trans HW0.out (by rw [hg];exact (bQ (w:=w) (g:=g) (row:=none) tQ):w.heap.size ≤ gb309):w0.heap.size ≤ gb309));replace HK:=aA.mk (KeepBut.trans tQ (KeepBut.of_below hb g none) (.inl rfl));have NB0_309:=aA.mk ((by rw [hg];exact Nat.ne_of_lt (IsS85.lt (show IsS85 w0 _ g s0_0 s0_1 s0_2 from by repeat (first|(with_reducible first|exact HI0.out|apply IsS85.alloc|apply IsS85.drewN|apply IsS85.drew|apply IsS85.set_1|apply IsS85.set_2)|exact HI0.out))):g ≠ gb309));have NB309_0:=aA.mk ((by rw [hg];exact Nat.ne_of_gt (IsS85.lt (show IsS85 w0 _ g s0_0 s0_1 s0_2 from by repeat (first|(with_reducible first|exact HI0.out|apply IsS85.alloc|apply IsS85.drewN|apply IsS85.drew|apply IsS85.set_1|apply IsS85.set_2)|exact HI0.out))):gb309 ≠ g));replace HI0:=aA.mk (IsS85.below t6 hb);clear hb hbox hg)|((with_reducible refine aW (f:=62) rfl ?_);refine bK (some 5) rfl rfl Try.func62 tG rfl #[.pointer (some ⟨g,0,none⟩)] rfl tC ?_;(with_reducible refine (spec_l2Draw.calls k g s0_0 s0_1 s0_2 t310 t313 t316 t317 t318 t319 w0 _ ?side1 ?side2 A2.out).mono ?_);(case side1=>exact vB);(case side2=>exact vQ);rintro e w105 ⟨v311,v314,rfl,ho0,ho1,hi,hb,hk⟩;refine ⟨_,rfl,?_⟩;have HO312:=aA.mk (Kd.N_lower (Kd.aV (ok':=fun k_=>(w.heap.size ≤ k_) ∧ some k_ ≠ (v314:Value).ownBlock ∧ k_ ≠ gb309 ∧ k_ ≠ g) ho0 (fun k_ hk_=>⟨(Nat.le_trans (bQ (w:=w) (g:=g) (row:=none) tD) hk_.1),hk_.2,(Kd.freshB (g:=gb309) (o:=.cells #[.slice none 0 0,.slice none 0 0,.int .i64 0,.bool false] 25 (0,0)) BK309.out k_ hk_.1),(IsS85.fresh tP k_ hk_.1)⟩)) (bQ (w:=w) (g:=g) (row:=none) tD));have HO315:=aA.mk (Kd.N_lower (Kd.aV (ok':=fun k_=>(w.heap.size ≤ k_) ∧ some k_ ≠ (v311:Value).ownBlock ∧ k_ ≠ gb309 ∧ k_ ≠ g) ho1 (fun k_ hk_=>⟨(Nat.le_trans (bQ (w:=w) (g:=g) (row:=none) tD) hk_.1),hk_.2,(Kd.freshB (g:=gb309) (o:=.cells #[.slice none 0 0,.slice none 0 0,.int .i64 0,.bool false] 25 (0,0)) BK309.out k_ hk_.1),(IsS85.fresh tP k_ hk_.1)⟩)) (bQ (w:=w) (g:=g) (row:=none) tD));replace BK309:=aA.mk (KeepBut.blk hk (g':=gb309) (o:=.cells #[.slice none 0 0,.slice none 0 0,.int .i64 0,.bool false] 25 (0,0)) BK309.out NB309_0.out vN);replace HK:=aA.mk (KeepBut.trans tD hk (.inl rfl));replace HB:=aA.mk (hb);replace HI0:=aA.mk (hi);(try clear hb);(try clear hk);(try clear hi);(try clear ho0);(try clear ho1))|((with_reducible refine bC (N:=3) rfl ?_);refine bD ?hg (N:=3) ?hd (cs:=#[.slice none 0 0,.slice none 0 0,.int .i64 0,.bool false]) (t:=25) ?hr ?_;(case hd=>rfl);(case hg=>rfl);(case hr=>exact tE);intro gb320 hg w106 hbox hb;replace HO312:=aA.mk (Kd.N_below (Kd.N_elderB HO312.out gb320 (Nat.le_of_eq hg.symm)) hb);replace HO315:=aA.mk (Kd.N_below (Kd.N_elderB HO315.out gb320 (Nat.le_of_eq hg.symm)) hb);replace HB:=aA.mk (aT vL hb);have BK320:=aA.mk (hbox);have GW320:=aA.mk ((by rw [hg];exact (bQ (w:=w) (g:=g) (row:=none) tD):w.heap.size ≤ gb320));have GE320:=aA.mk ((Nat.le_trans HW0.out (by rw [hg];exact (bQ (w:=w) (g:=g) (row:=none) tD):w.heap.size ≤ gb320):w0.heap.size ≤ gb320));replace HK:=aA.mk (KeepBut.trans tD (KeepBut.of_below hb g none) (.inl rfl));have NB309_320:=aA.mk ((by rw [hg];exact Nat.ne_of_lt (bJ (g:=gb309) (o:=.cells #[.slice none 0 0,.slice none 0 0,.int .i64 0,.bool false] 25 (0,0)) BK309.out):gb309 ≠ gb320));have NB320_309:=aA.mk ((by rw [hg];exact Nat.ne_of_gt (bJ (g:=gb309) (o:=.cells #[.slice none 0 0,.slice none 0 0,.int .i64 0,.bool false] 25 (0,0)) BK309.out):gb320 ≠ gb309));replace BK309:=aA.mk (bM (g:=gb309) (o:=.cells #[.slice none 0 0,.slice none 0 0,.int .i64 0,.bool false] 25 (0,0)) BK309.out hb);have NB0_320:=aA.mk ((by rw [hg];exact Nat.ne_of_lt (IsS85.lt (show IsS85 w0 _ g s0_0 t318 t319 from by repeat (first|(with_reducible first|exact HI0.out|apply IsS85.alloc|apply IsS85.drewN|apply IsS85.drew|apply IsS85.set_1|apply IsS85.set_2|apply IsS85.far (hne:=NB0_309.out))|exact HI0.out))):g ≠ gb320));have NB320_0:=aA.mk ((by rw [hg];exact Nat.ne_of_gt (IsS85.lt (show IsS85 w0 _ g s0_0 t318 t319 from by repeat (first|(with_reducible first|exact HI0.out|apply IsS85.alloc|apply IsS85.drewN|apply IsS85.drew|apply IsS85.set_1|apply IsS85.set_2|apply IsS85.far (hne:=NB0_309.out))|exact HI0.out))):gb320 ≠ g));replace HI0:=aA.mk (IsS85.below tP hb);clear hb hbox hg;obtain ⟨Ao107,co107,eo107⟩:=Kd.cB HO312.out;subst eo107;have hnb108:=NB320_309.out;have hnc108:=NB309_320.out;have hnb109:=NB320_0.out;have hnc109:=NB0_320.out;obtain ⟨hcz110_0,hcz110_1,hcz110_2,hcz110_3⟩:=cs4 BK320.out;obtain ⟨hfz110_0,hfz110_1,hfz110_2,hfz110_3⟩:=fs4 BK320.out;obtain ⟨Ao111,co111,eo111⟩:=Kd.cB HO315.out;subst eo111)|((with_reducible refine aW (f:=66) rfl ?_);refine bK (some 7) rfl rfl Try.func66 tG rfl #[.pointer (some ⟨g,0,none⟩),.int .i64 12] rfl tC ?_;(with_reducible refine (spec_l1Below.calls g s0_0 t318 t319 12 t321 t322 t323 w0 _ ?side1 ?side2 A3.out).mono ?_);(case side1=>exact tX);(case side2=>exact te);rintro e w112 ⟨rfl,hi,hb,hk⟩;refine ⟨_,rfl,?_⟩;replace BK309:=aA.mk (KeepBut.blk hk (g':=gb309) (o:=.cells #[.slice none 0 0,.slice none 0 0,.int .i64 0,.bool false] 25 (0,0)) tV NB309_0.out vN);replace HO312:=aA.mk (Kd.aV (Kd.N_keep (Kd.aV (ok:=fun k_=>((((w.heap.size ≤ k_)) ∧ (some k_ ≠ (.slice Ao111 t313.length co111:Value).ownBlock ∧ (k_ ≠ gb309 ∧ k_ ≠ g))) ∧ k_ ≠ gb320)) (by (with_reducible repeat (first|apply Kd.bW|apply Kd.bX|apply Kd.bV));exact (Kd.aV (Kd.bH (p:=⟨gb320,3,none⟩) (Kd.bH (p:=⟨gb320,2,none⟩) (Kd.bH (p:=⟨gb320,1,none⟩) (Kd.bH (p:=⟨gb320,0,none⟩) (Kd.aV HO312.out (fun k_ hk=>(⟨hk,hk.2⟩:_ ∧ k_ ≠ gb320))) (fun _ hk=>hk.2) (.slice Ao107 t310.length co107)) (fun _ hk=>hk.2) (.slice Ao111 t313.length co111)) (fun _ hk=>hk.2) (.int .i64 t316)) (fun _ hk=>hk.2) (.bool t317)) (fun _ h_=>h_.1))) (fun k_ hk_=>(⟨hk_,hk_.1.2.2.2⟩:_ ∧ k_ ≠ g))) hk (fun _ h=>h.2)) (fun _ h=>h.1));replace HO315:=aA.mk (Kd.aV (Kd.N_keep (Kd.aV (ok:=fun k_=>((((w.heap.size ≤ k_)) ∧ (some k_ ≠ (.slice Ao107 t310.length co107:Value).ownBlock ∧ (k_ ≠ gb309 ∧ k_ ≠ g))) ∧ k_ ≠ gb320)) (by (with_reducible repeat (first|apply Kd.bW|apply Kd.bX|apply Kd.bV));exact (Kd.aV (Kd.bH (p:=⟨gb320,3,none⟩) (Kd.bH (p:=⟨gb320,2,none⟩) (Kd.bH (p:=⟨gb320,1,none⟩) (Kd.bH (p:=⟨gb320,0,none⟩) (Kd.aV HO315.out (fun k_ hk=>(⟨hk,hk.2⟩:_ ∧ k_ ≠ gb320))) (fun _ hk=>hk.2) (.slice Ao107 t310.length co107)) (fun _ hk=>hk.2) (.slice Ao111 t313.length co111)) (fun _ hk=>hk.2) (.int .i64 t316)) (fun _ hk=>hk.2) (.bool t317)) (fun _ h_=>h_.1))) (fun k_ hk_=>(⟨hk_,hk_.1.2.2.2⟩:_ ∧ k_ ≠ g))) hk (fun _ h=>h.2)) (fun _ h=>h.1));replace BK320:=aA.mk (KeepBut.blk hk (g':=gb320) (o:=.cells #[.slice Ao107 t310.length co107,.slice Ao111 t313.length co111,.int .i64 t316,.bool t317] 25 (0,0)) (by (with_reducible repeat (first|refine aM ?_ _|refine aN ?_|refine aG ?_ _));refine aQ (cs:=#[.slice Ao107 t310.length co107,.slice Ao111 t313.length co111,.int .i64 t316,.bool false]) ?_ 3 _ rfl;(with_reducible repeat (first|refine aM ?_ _|refine aN ?_|refine aG ?_ _));refine aQ (cs:=#[.slice Ao107 t310.length co107,.slice Ao111 t313.length co111,.int .i64 0,.bool false]) ?_ 2 _ rfl;(with_reducible repeat (first|refine aM ?_ _|refine aN ?_|refine aG ?_ _));refine aQ (cs:=#[.slice Ao107 t310.length co107,.slice none 0 0,.int .i64 0,.bool false]) ?_ 1 _ rfl;(with_reducible repeat (first|refine aM ?_ _|refine aN ?_|refine aG ?_ _));refine aQ (cs:=#[.slice none 0 0,.slice none 0 0,.int .i64 0,.bool false]) ?_ 0 _ rfl;(with_reducible repeat (first|refine aM ?_ _|refine aN ?_|refine aG ?_ _));exact BK320.out) NB320_0.out vN);replace HK:=aA.mk (KeepBut.trans tK hk (.inl rfl));replace HB:=aA.mk (hb);replace HI0:=aA.mk (hi);(try clear hb);(try clear hk);(try clear hi);obtain ⟨hcz113_0,hcz113_1,hcz113_2,hcz113_3⟩:=cs4 BK320.out;obtain ⟨hfz113_0,hfz113_1,hfz113_2,hfz113_3⟩:=fs4 BK320.out;have hnb114:=NB309_0.out;have hnc114:=NB0_309.out;obtain ⟨hcz115_0,hcz115_1,hcz115_2,hcz115_3⟩:=cs4 BK309.out;obtain ⟨hfz115_0,hfz115_1,hfz115_2,hfz115_3⟩:=fs4 BK309.out))
      refine bodyPost_ret (results_cell_row rfl _ _ gb309 25 #[.slice Ao107 t310.length co107,.slice Ao111 t313.length co111,.int .i64 t316,.bool true] (0,0) _ rfl (by (with_reducible repeat (first|refine aM ?_ _|refine aN ?_|refine aG ?_ _));refine aQ (cs:=#[.slice Ao107 t310.length co107,.slice Ao111 t313.length co111,.int .i64 t316,.bool false]) ?_ 3 _ rfl;(with_reducible repeat (first|refine aM ?_ _|refine aN ?_|refine aG ?_ _));refine aQ (cs:=#[.slice Ao107 t310.length co107,.slice Ao111 t313.length co111,.int .i64 0,.bool false]) ?_ 2 _ rfl;(with_reducible repeat (first|refine aM ?_ _|refine aN ?_|refine aG ?_ _));refine aQ (cs:=#[.slice Ao107 t310.length co107,.slice none 0 0,.int .i64 0,.bool false]) ?_ 1 _ rfl;(with_reducible repeat (first|refine aM ?_ _|refine aN ?_|refine aG ?_ _));refine aQ (cs:=#[.slice none 0 0,.slice none 0 0,.int .i64 0,.bool false]) ?_ 0 _ rfl;(with_reducible repeat (first|refine aM ?_ _|refine aN ?_|refine aG ?_ _));refine bY ?_ NB309_320.out _;(with_reducible repeat (first|refine aM ?_ _|refine aN ?_|refine aG ?_ _));exact BK309.out) Try.underlying25 rfl tG) rfl ?_
      exact ⟨_,_,tN,by (with_reducible repeat (first|apply Kd.bW|apply Kd.bX|apply Kd.bV));exact Kd.aV (Kd.bH (p:=⟨gb309,3,none⟩) (Kd.bH (p:=⟨gb309,2,none⟩) (Kd.bH (p:=⟨gb309,1,none⟩) (Kd.bH (p:=⟨gb309,0,none⟩) (Kd.bH (p:=⟨gb320,3,none⟩) (Kd.aV (Kd.aV HO312.out (fun k_ hk=>(⟨hk,hk.2⟩:_ ∧ k_ ≠ gb320))) (fun k_ hk=>(⟨hk,hk.1.1.2.2.1⟩:_ ∧ k_ ≠ gb309))) (fun _ hk=>hk.1.2) (.bool true)) (fun _ hk=>hk.2) (.slice Ao107 t310.length co107)) (fun _ hk=>hk.2) (.slice Ao111 t313.length co111)) (fun _ hk=>hk.2) (.int .i64 t316)) (fun _ hk=>hk.2) (.bool true)) (fun _ hk=>⟨hk.1.1.1.1,hk.1.1.1.2.1⟩),by (with_reducible repeat (first|apply Kd.bW|apply Kd.bX|apply Kd.bV));exact Kd.aV (Kd.bH (p:=⟨gb309,3,none⟩) (Kd.bH (p:=⟨gb309,2,none⟩) (Kd.bH (p:=⟨gb309,1,none⟩) (Kd.bH (p:=⟨gb309,0,none⟩) (Kd.bH (p:=⟨gb320,3,none⟩) (Kd.aV (Kd.aV HO315.out (fun k_ hk=>(⟨hk,hk.2⟩:_ ∧ k_ ≠ gb320))) (fun k_ hk=>(⟨hk,hk.1.1.2.2.1⟩:_ ∧ k_ ≠ gb309))) (fun _ hk=>hk.1.2) (.bool true)) (fun _ hk=>hk.2) (.slice Ao107 t310.length co107)) (fun _ hk=>hk.2) (.slice Ao111 t313.length co111)) (fun _ hk=>hk.2) (.int .i64 t316)) (fun _ hk=>hk.2) (.bool true)) (fun _ hk=>⟨hk.1.1.1.1,hk.1.1.1.2.1⟩),th,t0,t5⟩
     ·rw [if_neg c103] at H
      have c103b0:(t321 == 4) = false:=beq_eq_false_iff_ne.mpr c103
      have c103b1:(t321 != 4) = true:=bne_iff_ne.mpr c103
      by_cases c116:t321 = 5
      ·rw [if_pos c116] at H
       have c116b0:(t321 == 5) = true:=beq_iff_eq.mpr c116
       have c116b1:(t321 != 5) = false:=bne_eq_false_iff_eq.mpr c116
       clear c116
       simp only [Option.some.injEq,Prod.mk.injEq] at H
       obtain ⟨rfl,rfl,rfl,rfl,rfl,rfl⟩:=H
       go_enter Try.func63,Try.ntmps63
       go_wp2_with (first|((with_reducible refine bC (N:=2) rfl ?_);refine bD ?hg (N:=2) ?hd (cs:=#[.slice none 0 0,.slice none 0 0,.int .i64 0,.bool false]) (t:=25) ?hr ?_;(case hd=>rfl);(case hg=>rfl);(case hr=>exact tE);intro gb309 hg w117 hbox hb;replace HB:=aA.mk (aT vE hb);have BK309:=aA.mk (hbox);have GW309:=aA.mk ((by rw [hg];exact (bQ (w:=w) (g:=g) (row:=none) tQ):w.heap.size ≤ gb309));have GE309:=aA.mk ((Nat.le_trans HW0.out (by rw [hg];exact (bQ (w:=w) (g:=g) (row:=none) tQ):w.heap.size ≤ gb309):w0.heap.size ≤ gb309));replace HK:=aA.mk (KeepBut.trans tQ (KeepBut.of_below hb g none) (.inl rfl));have NB0_309:=aA.mk ((by rw [hg];exact Nat.ne_of_lt (IsS85.lt (show IsS85 w0 _ g s0_0 s0_1 s0_2 from by repeat (first|(with_reducible first|exact HI0.out|apply IsS85.alloc|apply IsS85.drewN|apply IsS85.drew|apply IsS85.set_1|apply IsS85.set_2)|exact HI0.out))):g ≠ gb309));have NB309_0:=aA.mk ((by rw [hg];exact Nat.ne_of_gt (IsS85.lt (show IsS85 w0 _ g s0_0 s0_1 s0_2 from by repeat (first|(with_reducible first|exact HI0.out|apply IsS85.alloc|apply IsS85.drewN|apply IsS85.drew|apply IsS85.set_1|apply IsS85.set_2)|exact HI0.out))):gb309 ≠ g));replace HI0:=aA.mk (IsS85.below t6 hb);clear hb hbox hg)|((with_reducible refine aW (f:=62) rfl ?_);refine bK (some 5) rfl rfl Try.func62 tG rfl #[.pointer (some ⟨g,0,none⟩)] rfl tC ?_;(with_reducible refine (spec_l2Draw.calls k g s0_0 s0_1 s0_2 t310 t313 t316 t317 t318 t319 w0 _ ?side1 ?side2 A2.out).mono ?_);(case side1=>exact vB);(case side2=>exact vQ);rintro e w118 ⟨v311,v314,rfl,ho0,ho1,hi,hb,hk⟩;refine ⟨_,rfl,?_⟩;have HO312:=aA.mk (Kd.N_lower (Kd.aV (ok':=fun k_=>(w.heap.size ≤ k_) ∧ some k_ ≠ (v314:Value).ownBlock ∧ k_ ≠ gb309 ∧ k_ ≠ g) ho0 (fun k_ hk_=>⟨(Nat.le_trans (bQ (w:=w) (g:=g) (row:=none) tD) hk_.1),hk_.2,(Kd.freshB (g:=gb309) (o:=.cells #[.slice none 0 0,.slice none 0 0,.int .i64 0,.bool false] 25 (0,0)) BK309.out k_ hk_.1),(IsS85.fresh tP k_ hk_.1)⟩)) (bQ (w:=w) (g:=g) (row:=none) tD));have HO315:=aA.mk (Kd.N_lower (Kd.aV (ok':=fun k_=>(w.heap.size ≤ k_) ∧ some k_ ≠ (v311:Value).ownBlock ∧ k_ ≠ gb309 ∧ k_ ≠ g) ho1 (fun k_ hk_=>⟨(Nat.le_trans (bQ (w:=w) (g:=g) (row:=none) tD) hk_.1),hk_.2,(Kd.freshB (g:=gb309) (o:=.cells #[.slice none 0 0,.slice none 0 0,.int .i64 0,.bool false] 25 (0,0)) BK309.out k_ hk_.1),(IsS85.fresh tP k_ hk_.1)⟩)) (bQ (w:=w) (g:=g) (row:=none) tD));replace BK309:=aA.mk (KeepBut.blk hk (g':=gb309) (o:=.cells #[.slice none 0 0,.slice none 0 0,.int .i64 0,.bool false] 25 (0,0)) BK309.out NB309_0.out vN);replace HK:=aA.mk (KeepBut.trans tD hk (.inl rfl));replace HB:=aA.mk (hb);replace HI0:=aA.mk (hi);(try clear hb);(try clear hk);(try clear hi);(try clear ho0);(try clear ho1))|((with_reducible refine bC (N:=3) rfl ?_);refine bD ?hg (N:=3) ?hd (cs:=#[.slice none 0 0,.slice none 0 0,.int .i64 0,.bool false]) (t:=25) ?hr ?_;(case hd=>rfl);(case hg=>rfl);(case hr=>exact tE);intro gb320 hg w119 hbox hb;replace HO312:=aA.mk (Kd.N_below (Kd.N_elderB HO312.out gb320 (Nat.le_of_eq hg.symm)) hb);replace HO315:=aA.mk (Kd.N_below (Kd.N_elderB HO315.out gb320 (Nat.le_of_eq hg.symm)) hb);replace HB:=aA.mk (aT vL hb);have BK320:=aA.mk (hbox);have GW320:=aA.mk ((by rw [hg];exact (bQ (w:=w) (g:=g) (row:=none) tD):w.heap.size ≤ gb320));have GE320:=aA.mk ((Nat.le_trans HW0.out (by rw [hg];exact (bQ (w:=w) (g:=g) (row:=none) tD):w.heap.size ≤ gb320):w0.heap.size ≤ gb320));replace HK:=aA.mk (KeepBut.trans tD (KeepBut.of_below hb g none) (.inl rfl));have NB309_320:=aA.mk ((by rw [hg];exact Nat.ne_of_lt (bJ (g:=gb309) (o:=.cells #[.slice none 0 0,.slice none 0 0,.int .i64 0,.bool false] 25 (0,0)) BK309.out):gb309 ≠ gb320));have NB320_309:=aA.mk ((by rw [hg];exact Nat.ne_of_gt (bJ (g:=gb309) (o:=.cells #[.slice none 0 0,.slice none 0 0,.int .i64 0,.bool false] 25 (0,0)) BK309.out):gb320 ≠ gb309));replace BK309:=aA.mk (bM (g:=gb309) (o:=.cells #[.slice none 0 0,.slice none 0 0,.int .i64 0,.bool false] 25 (0,0)) BK309.out hb);have NB0_320:=aA.mk ((by rw [hg];exact Nat.ne_of_lt (IsS85.lt (show IsS85 w0 _ g s0_0 t318 t319 from by repeat (first|(with_reducible first|exact HI0.out|apply IsS85.alloc|apply IsS85.drewN|apply IsS85.drew|apply IsS85.set_1|apply IsS85.set_2|apply IsS85.far (hne:=NB0_309.out))|exact HI0.out))):g ≠ gb320));have NB320_0:=aA.mk ((by rw [hg];exact Nat.ne_of_gt (IsS85.lt (show IsS85 w0 _ g s0_0 t318 t319 from by repeat (first|(with_reducible first|exact HI0.out|apply IsS85.alloc|apply IsS85.drewN|apply IsS85.drew|apply IsS85.set_1|apply IsS85.set_2|apply IsS85.far (hne:=NB0_309.out))|exact HI0.out))):gb320 ≠ g));replace HI0:=aA.mk (IsS85.below tP hb);clear hb hbox hg;obtain ⟨Ao120,co120,eo120⟩:=Kd.cB HO312.out;subst eo120;have hnb121:=NB320_309.out;have hnc121:=NB309_320.out;have hnb122:=NB320_0.out;have hnc122:=NB0_320.out;obtain ⟨hcz123_0,hcz123_1,hcz123_2,hcz123_3⟩:=cs4 BK320.out;obtain ⟨hfz123_0,hfz123_1,hfz123_2,hfz123_3⟩:=fs4 BK320.out;obtain ⟨Ao124,co124,eo124⟩:=Kd.cB HO315.out;subst eo124)|((with_reducible refine aW (f:=66) rfl ?_);refine bK (some 7) rfl rfl Try.func66 tG rfl #[.pointer (some ⟨g,0,none⟩),.int .i64 12] rfl tC ?_;(with_reducible refine (spec_l1Below.calls g s0_0 t318 t319 12 t321 t322 t323 w0 _ ?side1 ?side2 A3.out).mono ?_);(case side1=>exact tX);(case side2=>exact te);rintro e w125 ⟨rfl,hi,hb,hk⟩;refine ⟨_,rfl,?_⟩;replace BK309:=aA.mk (KeepBut.blk hk (g':=gb309) (o:=.cells #[.slice none 0 0,.slice none 0 0,.int .i64 0,.bool false] 25 (0,0)) tV NB309_0.out vN);replace HO312:=aA.mk (Kd.aV (Kd.N_keep (Kd.aV (ok:=fun k_=>((((w.heap.size ≤ k_)) ∧ (some k_ ≠ (.slice Ao124 t313.length co124:Value).ownBlock ∧ (k_ ≠ gb309 ∧ k_ ≠ g))) ∧ k_ ≠ gb320)) (by (with_reducible repeat (first|apply Kd.bW|apply Kd.bX|apply Kd.bV));exact (Kd.aV (Kd.bH (p:=⟨gb320,3,none⟩) (Kd.bH (p:=⟨gb320,2,none⟩) (Kd.bH (p:=⟨gb320,1,none⟩) (Kd.bH (p:=⟨gb320,0,none⟩) (Kd.aV HO312.out (fun k_ hk=>(⟨hk,hk.2⟩:_ ∧ k_ ≠ gb320))) (fun _ hk=>hk.2) (.slice Ao120 t310.length co120)) (fun _ hk=>hk.2) (.slice Ao124 t313.length co124)) (fun _ hk=>hk.2) (.int .i64 t316)) (fun _ hk=>hk.2) (.bool t317)) (fun _ h_=>h_.1))) (fun k_ hk_=>(⟨hk_,hk_.1.2.2.2⟩:_ ∧ k_ ≠ g))) hk (fun _ h=>h.2)) (fun _ h=>h.1));replace HO315:=aA.mk (Kd.aV (Kd.N_keep (Kd.aV (ok:=fun k_=>((((w.heap.size ≤ k_)) ∧ (some k_ ≠ (.slice Ao120 t310.length co120:Value).ownBlock ∧ (k_ ≠ gb309 ∧ k_ ≠ g))) ∧ k_ ≠ gb320)) (by (with_reducible repeat (first|apply Kd.bW|apply Kd.bX|apply Kd.bV));exact (Kd.aV (Kd.bH (p:=⟨gb320,3,none⟩) (Kd.bH (p:=⟨gb320,2,none⟩) (Kd.bH (p:=⟨gb320,1,none⟩) (Kd.bH (p:=⟨gb320,0,none⟩) (Kd.aV HO315.out (fun k_ hk=>(⟨hk,hk.2⟩:_ ∧ k_ ≠ gb320))) (fun _ hk=>hk.2) (.slice Ao120 t310.length co120)) (fun _ hk=>hk.2) (.slice Ao124 t313.length co124)) (fun _ hk=>hk.2) (.int .i64 t316)) (fun _ hk=>hk.2) (.bool t317)) (fun _ h_=>h_.1))) (fun k_ hk_=>(⟨hk_,hk_.1.2.2.2⟩:_ ∧ k_ ≠ g))) hk (fun _ h=>h.2)) (fun _ h=>h.1));replace BK320:=aA.mk (KeepBut.blk hk (g':=gb320) (o:=.cells #[.slice Ao120 t310.length co120,.slice Ao124 t313.length co124,.int .i64 t316,.bool t317] 25 (0,0)) (by (with_reducible repeat (first|refine aM ?_ _|refine aN ?_|refine aG ?_ _));refine aQ (cs:=#[.slice Ao120 t310.length co120,.slice Ao124 t313.length co124,.int .i64 t316,.bool false]) ?_ 3 _ rfl;(with_reducible repeat (first|refine aM ?_ _|refine aN ?_|refine aG ?_ _));refine aQ (cs:=#[.slice Ao120 t310.length co120,.slice Ao124 t313.length co124,.int .i64 0,.bool false]) ?_ 2 _ rfl;(with_reducible repeat (first|refine aM ?_ _|refine aN ?_|refine aG ?_ _));refine aQ (cs:=#[.slice Ao120 t310.length co120,.slice none 0 0,.int .i64 0,.bool false]) ?_ 1 _ rfl;(with_reducible repeat (first|refine aM ?_ _|refine aN ?_|refine aG ?_ _));refine aQ (cs:=#[.slice none 0 0,.slice none 0 0,.int .i64 0,.bool false]) ?_ 0 _ rfl;(with_reducible repeat (first|refine aM ?_ _|refine aN ?_|refine aG ?_ _));exact BK320.out) NB320_0.out vN);replace HK:=aA.mk (KeepBut.trans tK hk (.inl rfl));replace HB:=aA.mk (hb);replace HI0:=aA.mk (hi);(try clear hb);(try clear hk);(try clear hi);obtain ⟨hcz126_0,hcz126_1,hcz126_2,hcz126_3⟩:=cs4 BK320.out;obtain ⟨hfz126_0,hfz126_1,hfz126_2,hfz126_3⟩:=fs4 BK320.out;have hnb127:=NB309_0.out;have hnc127:=NB0_309.out;obtain ⟨hcz128_0,hcz128_1,hcz128_2,hcz128_3⟩:=cs4 BK309.out;obtain ⟨hfz128_0,hfz128_1,hfz128_2,hfz128_3⟩:=fs4 BK309.out))
       refine bodyPost_ret (results_cell_row rfl _ _ gb309 25 #[.slice Ao120 t310.length co120,.slice Ao124 t313.length co124,.int .i64 0,.bool t317] (0,0) _ rfl (by (with_reducible repeat (first|refine aM ?_ _|refine aN ?_|refine aG ?_ _));refine aQ (cs:=#[.slice Ao120 t310.length co120,.slice Ao124 t313.length co124,.int .i64 0,.bool false]) ?_ 3 _ rfl;(with_reducible repeat (first|refine aM ?_ _|refine aN ?_|refine aG ?_ _));refine aQ (cs:=#[.slice Ao120 t310.length co120,.slice Ao124 t313.length co124,.int .i64 0,.bool false]) ?_ 2 _ rfl;(with_reducible repeat (first|refine aM ?_ _|refine aN ?_|refine aG ?_ _));refine aQ (cs:=#[.slice Ao120 t310.length co120,.slice none 0 0,.int .i64 0,.bool false]) ?_ 1 _ rfl;(with_reducible repeat (first|refine aM ?_ _|refine aN ?_|refine aG ?_ _));refine aQ (cs:=#[.slice none 0 0,.slice none 0 0,.int .i64 0,.bool false]) ?_ 0 _ rfl;(with_reducible repeat (first|refine aM ?_ _|refine aN ?_|refine aG ?_ _));refine bY ?_ NB309_320.out _;(with_reducible repeat (first|refine aM ?_ _|refine aN ?_|refine aG ?_ _));exact BK309.out) Try.underlying25 rfl tG) rfl ?_
       exact ⟨_,_,tN,by (with_reducible repeat (first|apply Kd.bW|apply Kd.bX|apply Kd.bV));exact Kd.aV (Kd.bH (p:=⟨gb309,3,none⟩) (Kd.bH (p:=⟨gb309,2,none⟩) (Kd.bH (p:=⟨gb309,1,none⟩) (Kd.bH (p:=⟨gb309,0,none⟩) (Kd.bH (p:=⟨gb320,2,none⟩) (Kd.aV (Kd.aV HO312.out (fun k_ hk=>(⟨hk,hk.2⟩:_ ∧ k_ ≠ gb320))) (fun k_ hk=>(⟨hk,hk.1.1.2.2.1⟩:_ ∧ k_ ≠ gb309))) (fun _ hk=>hk.1.2) (.int .i64 0)) (fun _ hk=>hk.2) (.slice Ao120 t310.length co120)) (fun _ hk=>hk.2) (.slice Ao124 t313.length co124)) (fun _ hk=>hk.2) (.int .i64 0)) (fun _ hk=>hk.2) (.bool t317)) (fun _ hk=>⟨hk.1.1.1.1,hk.1.1.1.2.1⟩),by (with_reducible repeat (first|apply Kd.bW|apply Kd.bX|apply Kd.bV));exact Kd.aV (Kd.bH (p:=⟨gb309,3,none⟩) (Kd.bH (p:=⟨gb309,2,none⟩) (Kd.bH (p:=⟨gb309,1,none⟩) (Kd.bH (p:=⟨gb309,0,none⟩) (Kd.bH (p:=⟨gb320,2,none⟩) (Kd.aV (Kd.aV HO315.out (fun k_ hk=>(⟨hk,hk.2⟩:_ ∧ k_ ≠ gb320))) (fun k_ hk=>(⟨hk,hk.1.1.2.2.1⟩:_ ∧ k_ ≠ gb309))) (fun _ hk=>hk.1.2) (.int .i64 0)) (fun _ hk=>hk.2) (.slice Ao120 t310.length co120)) (fun _ hk=>hk.2) (.slice Ao124 t313.length co124)) (fun _ hk=>hk.2) (.int .i64 0)) (fun _ hk=>hk.2) (.bool t317)) (fun _ hk=>⟨hk.1.1.1.1,hk.1.1.1.2.1⟩),th,t0,t5⟩
      ·rw [if_neg c116] at H
       have c116b0:(t321 == 5) = false:=beq_eq_false_iff_ne.mpr c116
       have c116b1:(t321 != 5) = true:=bne_iff_ne.mpr c116
       simp only [Option.some.injEq,Prod.mk.injEq] at H
       obtain ⟨rfl,rfl,rfl,rfl,rfl,rfl⟩:=H
       go_enter Try.func63,Try.ntmps63
       go_wp2_with (first|((with_reducible refine bC (N:=2) rfl ?_);refine bD ?hg (N:=2) ?hd (cs:=#[.slice none 0 0,.slice none 0 0,.int .i64 0,.bool false]) (t:=25) ?hr ?_;(case hd=>rfl);(case hg=>rfl);(case hr=>exact tE);intro gb309 hg w129 hbox hb;replace HB:=aA.mk (aT vE hb);have BK309:=aA.mk (hbox);have GW309:=aA.mk ((by rw [hg];exact (bQ (w:=w) (g:=g) (row:=none) tQ):w.heap.size ≤ gb309));have GE309:=aA.mk ((Nat.le_trans HW0.out (by rw [hg];exact (bQ (w:=w) (g:=g) (row:=none) tQ):w.heap.size ≤ gb309):w0.heap.size ≤ gb309));replace HK:=aA.mk (KeepBut.trans tQ (KeepBut.of_below hb g none) (.inl rfl));have NB0_309:=aA.mk ((by rw [hg];exact Nat.ne_of_lt (IsS85.lt (show IsS85 w0 _ g s0_0 s0_1 s0_2 from by repeat (first|(with_reducible first|exact HI0.out|apply IsS85.alloc|apply IsS85.drewN|apply IsS85.drew|apply IsS85.set_1|apply IsS85.set_2)|exact HI0.out))):g ≠ gb309));have NB309_0:=aA.mk ((by rw [hg];exact Nat.ne_of_gt (IsS85.lt (show IsS85 w0 _ g s0_0 s0_1 s0_2 from by repeat (first|(with_reducible first|exact HI0.out|apply IsS85.alloc|apply IsS85.drewN|apply IsS85.drew|apply IsS85.set_1|apply IsS85.set_2)|exact HI0.out))):gb309 ≠ g));replace HI0:=aA.mk (IsS85.below t6 hb);clear hb hbox hg)|((with_reducible refine aW (f:=62) rfl ?_);refine bK (some 5) rfl rfl Try.func62 tG rfl #[.pointer (some ⟨g,0,none⟩)] rfl tC ?_;(with_reducible refine (spec_l2Draw.calls k g s0_0 s0_1 s0_2 t310 t313 t316 t317 t318 t319 w0 _ ?side1 ?side2 A2.out).mono ?_);(case side1=>exact vB);(case side2=>exact vQ);rintro e w130 ⟨v311,v314,rfl,ho0,ho1,hi,hb,hk⟩;refine ⟨_,rfl,?_⟩;have HO312:=aA.mk (Kd.N_lower (Kd.aV (ok':=fun k_=>(w.heap.size ≤ k_) ∧ some k_ ≠ (v314:Value).ownBlock ∧ k_ ≠ gb309 ∧ k_ ≠ g) ho0 (fun k_ hk_=>⟨(Nat.le_trans (bQ (w:=w) (g:=g) (row:=none) tD) hk_.1),hk_.2,(Kd.freshB (g:=gb309) (o:=.cells #[.slice none 0 0,.slice none 0 0,.int .i64 0,.bool false] 25 (0,0)) BK309.out k_ hk_.1),(IsS85.fresh tP k_ hk_.1)⟩)) (bQ (w:=w) (g:=g) (row:=none) tD));have HO315:=aA.mk (Kd.N_lower (Kd.aV (ok':=fun k_=>(w.heap.size ≤ k_) ∧ some k_ ≠ (v311:Value).ownBlock ∧ k_ ≠ gb309 ∧ k_ ≠ g) ho1 (fun k_ hk_=>⟨(Nat.le_trans (bQ (w:=w) (g:=g) (row:=none) tD) hk_.1),hk_.2,(Kd.freshB (g:=gb309) (o:=.cells #[.slice none 0 0,.slice none 0 0,.int .i64 0,.bool false] 25 (0,0)) BK309.out k_ hk_.1),(IsS85.fresh tP k_ hk_.1)⟩)) (bQ (w:=w) (g:=g) (row:=none) tD));replace BK309:=aA.mk (KeepBut.blk hk (g':=gb309) (o:=.cells #[.slice none 0 0,.slice none 0 0,.int .i64 0,.bool false] 25 (0,0)) BK309.out NB309_0.out vN);replace HK:=aA.mk (KeepBut.trans tD hk (.inl rfl));replace HB:=aA.mk (hb);replace HI0:=aA.mk (hi);(try clear hb);(try clear hk);(try clear hi);(try clear ho0);(try clear ho1))|((with_reducible refine bC (N:=3) rfl ?_);refine bD ?hg (N:=3) ?hd (cs:=#[.slice none 0 0,.slice none 0 0,.int .i64 0,.bool false]) (t:=25) ?hr ?_;(case hd=>rfl);(case hg=>rfl);(case hr=>exact tE);intro gb320 hg w131 hbox hb;replace HO312:=aA.mk (Kd.N_below (Kd.N_elderB HO312.out gb320 (Nat.le_of_eq hg.symm)) hb);replace HO315:=aA.mk (Kd.N_below (Kd.N_elderB HO315.out gb320 (Nat.le_of_eq hg.symm)) hb);replace HB:=aA.mk (aT vL hb);have BK320:=aA.mk (hbox);have GW320:=aA.mk ((by rw [hg];exact (bQ (w:=w) (g:=g) (row:=none) tD):w.heap.size ≤ gb320));have GE320:=aA.mk ((Nat.le_trans HW0.out (by rw [hg];exact (bQ (w:=w) (g:=g) (row:=none) tD):w.heap.size ≤ gb320):w0.heap.size ≤ gb320));replace HK:=aA.mk (KeepBut.trans tD (KeepBut.of_below hb g none) (.inl rfl));have NB309_320:=aA.mk ((by rw [hg];exact Nat.ne_of_lt (bJ (g:=gb309) (o:=.cells #[.slice none 0 0,.slice none 0 0,.int .i64 0,.bool false] 25 (0,0)) BK309.out):gb309 ≠ gb320));have NB320_309:=aA.mk ((by rw [hg];exact Nat.ne_of_gt (bJ (g:=gb309) (o:=.cells #[.slice none 0 0,.slice none 0 0,.int .i64 0,.bool false] 25 (0,0)) BK309.out):gb320 ≠ gb309));replace BK309:=aA.mk (bM (g:=gb309) (o:=.cells #[.slice none 0 0,.slice none 0 0,.int .i64 0,.bool false] 25 (0,0)) BK309.out hb);have NB0_320:=aA.mk ((by rw [hg];exact Nat.ne_of_lt (IsS85.lt (show IsS85 w0 _ g s0_0 t318 t319 from by repeat (first|(with_reducible first|exact HI0.out|apply IsS85.alloc|apply IsS85.drewN|apply IsS85.drew|apply IsS85.set_1|apply IsS85.set_2|apply IsS85.far (hne:=NB0_309.out))|exact HI0.out))):g ≠ gb320));have NB320_0:=aA.mk ((by rw [hg];exact Nat.ne_of_gt (IsS85.lt (show IsS85 w0 _ g s0_0 t318 t319 from by repeat (first|(with_reducible first|exact HI0.out|apply IsS85.alloc|apply IsS85.drewN|apply IsS85.drew|apply IsS85.set_1|apply IsS85.set_2|apply IsS85.far (hne:=NB0_309.out))|exact HI0.out))):gb320 ≠ g));replace HI0:=aA.mk (IsS85.below tP hb);clear hb hbox hg;obtain ⟨Ao132,co132,eo132⟩:=Kd.cB HO312.out;subst eo132;have hnb133:=NB320_309.out;have hnc133:=NB309_320.out;have hnb134:=NB320_0.out;have hnc134:=NB0_320.out;obtain ⟨hcz135_0,hcz135_1,hcz135_2,hcz135_3⟩:=cs4 BK320.out;obtain ⟨hfz135_0,hfz135_1,hfz135_2,hfz135_3⟩:=fs4 BK320.out;obtain ⟨Ao136,co136,eo136⟩:=Kd.cB HO315.out;subst eo136)|((with_reducible refine aW (f:=66) rfl ?_);refine bK (some 7) rfl rfl Try.func66 tG rfl #[.pointer (some ⟨g,0,none⟩),.int .i64 12] rfl tC ?_;(with_reducible refine (spec_l1Below.calls g s0_0 t318 t319 12 t321 t322 t323 w0 _ ?side1 ?side2 A3.out).mono ?_);(case side1=>exact tX);(case side2=>exact te);rintro e w137 ⟨rfl,hi,hb,hk⟩;refine ⟨_,rfl,?_⟩;replace BK309:=aA.mk (KeepBut.blk hk (g':=gb309) (o:=.cells #[.slice none 0 0,.slice none 0 0,.int .i64 0,.bool false] 25 (0,0)) tV NB309_0.out vN);replace HO312:=aA.mk (Kd.aV (Kd.N_keep (Kd.aV (ok:=fun k_=>((((w.heap.size ≤ k_)) ∧ (some k_ ≠ (.slice Ao136 t313.length co136:Value).ownBlock ∧ (k_ ≠ gb309 ∧ k_ ≠ g))) ∧ k_ ≠ gb320)) (by (with_reducible repeat (first|apply Kd.bW|apply Kd.bX|apply Kd.bV));exact (Kd.aV (Kd.bH (p:=⟨gb320,3,none⟩) (Kd.bH (p:=⟨gb320,2,none⟩) (Kd.bH (p:=⟨gb320,1,none⟩) (Kd.bH (p:=⟨gb320,0,none⟩) (Kd.aV HO312.out (fun k_ hk=>(⟨hk,hk.2⟩:_ ∧ k_ ≠ gb320))) (fun _ hk=>hk.2) (.slice Ao132 t310.length co132)) (fun _ hk=>hk.2) (.slice Ao136 t313.length co136)) (fun _ hk=>hk.2) (.int .i64 t316)) (fun _ hk=>hk.2) (.bool t317)) (fun _ h_=>h_.1))) (fun k_ hk_=>(⟨hk_,hk_.1.2.2.2⟩:_ ∧ k_ ≠ g))) hk (fun _ h=>h.2)) (fun _ h=>h.1));replace HO315:=aA.mk (Kd.aV (Kd.N_keep (Kd.aV (ok:=fun k_=>((((w.heap.size ≤ k_)) ∧ (some k_ ≠ (.slice Ao132 t310.length co132:Value).ownBlock ∧ (k_ ≠ gb309 ∧ k_ ≠ g))) ∧ k_ ≠ gb320)) (by (with_reducible repeat (first|apply Kd.bW|apply Kd.bX|apply Kd.bV));exact (Kd.aV (Kd.bH (p:=⟨gb320,3,none⟩) (Kd.bH (p:=⟨gb320,2,none⟩) (Kd.bH (p:=⟨gb320,1,none⟩) (Kd.bH (p:=⟨gb320,0,none⟩) (Kd.aV HO315.out (fun k_ hk=>(⟨hk,hk.2⟩:_ ∧ k_ ≠ gb320))) (fun _ hk=>hk.2) (.slice Ao132 t310.length co132)) (fun _ hk=>hk.2) (.slice Ao136 t313.length co136)) (fun _ hk=>hk.2) (.int .i64 t316)) (fun _ hk=>hk.2) (.bool t317)) (fun _ h_=>h_.1))) (fun k_ hk_=>(⟨hk_,hk_.1.2.2.2⟩:_ ∧ k_ ≠ g))) hk (fun _ h=>h.2)) (fun _ h=>h.1));replace BK320:=aA.mk (KeepBut.blk hk (g':=gb320) (o:=.cells #[.slice Ao132 t310.length co132,.slice Ao136 t313.length co136,.int .i64 t316,.bool t317] 25 (0,0)) (by (with_reducible repeat (first|refine aM ?_ _|refine aN ?_|refine aG ?_ _));refine aQ (cs:=#[.slice Ao132 t310.length co132,.slice Ao136 t313.length co136,.int .i64 t316,.bool false]) ?_ 3 _ rfl;(with_reducible repeat (first|refine aM ?_ _|refine aN ?_|refine aG ?_ _));refine aQ (cs:=#[.slice Ao132 t310.length co132,.slice Ao136 t313.length co136,.int .i64 0,.bool false]) ?_ 2 _ rfl;(with_reducible repeat (first|refine aM ?_ _|refine aN ?_|refine aG ?_ _));refine aQ (cs:=#[.slice Ao132 t310.length co132,.slice none 0 0,.int .i64 0,.bool false]) ?_ 1 _ rfl;(with_reducible repeat (first|refine aM ?_ _|refine aN ?_|refine aG ?_ _));refine aQ (cs:=#[.slice none 0 0,.slice none 0 0,.int .i64 0,.bool false]) ?_ 0 _ rfl;(with_reducible repeat (first|refine aM ?_ _|refine aN ?_|refine aG ?_ _));exact BK320.out) NB320_0.out vN);replace HK:=aA.mk (KeepBut.trans tK hk (.inl rfl));replace HB:=aA.mk (hb);replace HI0:=aA.mk (hi);(try clear hb);(try clear hk);(try clear hi);obtain ⟨hcz138_0,hcz138_1,hcz138_2,hcz138_3⟩:=cs4 BK320.out;obtain ⟨hfz138_0,hfz138_1,hfz138_2,hfz138_3⟩:=fs4 BK320.out;have hnb139:=NB309_0.out;have hnc139:=NB0_309.out;obtain ⟨hcz140_0,hcz140_1,hcz140_2,hcz140_3⟩:=cs4 BK309.out;obtain ⟨hfz140_0,hfz140_1,hfz140_2,hfz140_3⟩:=fs4 BK309.out))
       refine bodyPost_ret (results_cell_row rfl _ _ gb309 25 #[.slice Ao132 t310.length co132,.slice Ao136 t313.length co136,.int .i64 t316,.bool t317] (0,0) _ rfl (by (with_reducible repeat (first|refine aM ?_ _|refine aN ?_|refine aG ?_ _));refine aQ (cs:=#[.slice Ao132 t310.length co132,.slice Ao136 t313.length co136,.int .i64 t316,.bool false]) ?_ 3 _ rfl;(with_reducible repeat (first|refine aM ?_ _|refine aN ?_|refine aG ?_ _));refine aQ (cs:=#[.slice Ao132 t310.length co132,.slice Ao136 t313.length co136,.int .i64 0,.bool false]) ?_ 2 _ rfl;(with_reducible repeat (first|refine aM ?_ _|refine aN ?_|refine aG ?_ _));refine aQ (cs:=#[.slice Ao132 t310.length co132,.slice none 0 0,.int .i64 0,.bool false]) ?_ 1 _ rfl;(with_reducible repeat (first|refine aM ?_ _|refine aN ?_|refine aG ?_ _));refine aQ (cs:=#[.slice none 0 0,.slice none 0 0,.int .i64 0,.bool false]) ?_ 0 _ rfl;(with_reducible repeat (first|refine aM ?_ _|refine aN ?_|refine aG ?_ _));exact BK309.out) Try.underlying25 rfl tG) rfl ?_
       exact ⟨_,_,tN,by (with_reducible repeat (first|apply Kd.bW|apply Kd.bX|apply Kd.bV));exact Kd.aV (Kd.bH (p:=⟨gb309,3,none⟩) (Kd.bH (p:=⟨gb309,2,none⟩) (Kd.bH (p:=⟨gb309,1,none⟩) (Kd.bH (p:=⟨gb309,0,none⟩) (Kd.aV HO312.out (fun k_ hk=>(⟨hk,hk.1.2.2.1⟩:_ ∧ k_ ≠ gb309))) (fun _ hk=>hk.2) (.slice Ao132 t310.length co132)) (fun _ hk=>hk.2) (.slice Ao136 t313.length co136)) (fun _ hk=>hk.2) (.int .i64 t316)) (fun _ hk=>hk.2) (.bool t317)) (fun _ hk=>⟨hk.1.1.1,hk.1.1.2.1⟩),by (with_reducible repeat (first|apply Kd.bW|apply Kd.bX|apply Kd.bV));exact Kd.aV (Kd.bH (p:=⟨gb309,3,none⟩) (Kd.bH (p:=⟨gb309,2,none⟩) (Kd.bH (p:=⟨gb309,1,none⟩) (Kd.bH (p:=⟨gb309,0,none⟩) (Kd.aV HO315.out (fun k_ hk=>(⟨hk,hk.1.2.2.1⟩:_ ∧ k_ ≠ gb309))) (fun _ hk=>hk.2) (.slice Ao132 t310.length co132)) (fun _ hk=>hk.2) (.slice Ao136 t313.length co136)) (fun _ hk=>hk.2) (.int .i64 t316)) (fun _ hk=>hk.2) (.bool t317)) (fun _ hk=>⟨hk.1.1.1,hk.1.1.2.1⟩),th,t0,t5⟩
end Go.Proofs.Ytilhcaofpfeioaa.PFnDevsBent

namespace Go.Proofs.Ytilhcaofpfeioaa.PFnDevsBent
open Go.RowKit Go.Proofs.YtilhcaofpfeioaaW.PrintWords Go.Proofs.YtilhcaofpfeioaaW.PrintLast Go.Proofs.YtilhcaofpfeioaaW.PrintMore
attribute [local go_sem] max2_int min2_int max_two min_two max_three min_three max_four min_four   -- for this text's walks alone
set_option linter.unusedVariables false
set_option linter.unusedSimpArgs false
def spec_DrawDevOk.f (k:Nat) (l0:List Int):Option ((List (List Int)) × (List (S50)) × Int × Bool):=(spec_l1New.f k l0).bind fun bt358=>((spec_l2Any.f k bt358.1 bt358.2.1 bt358.2.2).bind fun bt362=>(some (bt362.1,bt362.2.1,bt362.2.2.1,bt362.2.2.2.1)))
set_option maxHeartbeats 8000000 in
set_option maxRecDepth 100000 in
theorem spec_DrawDevOk.calls (k:Nat) (A0:Option Addr) (c0:Nat) (l0:List Int) (r1:List (List Int)) (r2:List (S50)) (r3:Int) (r4:Bool) (w:World) (hr0:Kd.C (Kd.int .u8) w A0 l0.length l0) (hc0:l0.length ≤ c0) (h:spec_DrawDevOk.f k l0 = some (r1,r2,r3,r4)) :
  Calls Try.prog 36 #[.slice A0 l0.length c0] w fun e w'=>∃ v0_ v1_:Value,e = .returned (.agg #[v0_,v1_,.int .i64 r3,.bool r4]) ∧ Kd.N (Kd.slice 5 (Kd.int .u8)) 37 w' w.heap.size (fun k_=>(w.heap.size ≤ k_) ∧ some k_ ≠ (v1_:Value).ownBlock) v0_ r1 ∧ Kd.N k50 50 w' w.heap.size (fun k_=>(w.heap.size ≤ k_) ∧ some k_ ≠ (v0_:Value).ownBlock) v1_ r2 ∧ Below w.heap.size w w':=by
 have hu25:=Try.underlying25
 have HR0:=aA.mk hr0
 have HC0:=aA.mk hc0
 clear hr0 hc0
 have HB:=aA.mk (Below.refl w.heap.size w)
 have H:((spec_l1New.f k l0).bind fun bt358=>((spec_l2Any.f k bt358.1 bt358.2.1 bt358.2.2).bind fun bt362=>(some (bt362.1,bt362.2.1,bt362.2.2.1,bt362.2.2.2.1)))) = some (r1,r2,r3,r4):=h
 clear h
 replace H:=lF H
 obtain ⟨⟨t358,t359,t360⟩,A20,H⟩:=H
 replace H:((spec_l2Any.f k t358 t359 t360).bind fun bt362=>(some (bt362.1,bt362.2.1,bt362.2.2.1,bt362.2.2.2.1))) = some (r1,r2,r3,r4):=H
 have A2:=aA.mk A20
 clear A20
 replace H:=lF H
 obtain ⟨⟨t362,t365,t368,t369,t370,t371⟩,A30,H⟩:=H
 replace H:(some (t362,t365,t368,t369)) = some (r1,r2,r3,r4):=H
 have A3:=aA.mk A30
 clear A30
 simp only [Option.some.injEq,Prod.mk.injEq] at H
 obtain ⟨rfl,rfl,rfl,rfl⟩:=H
 go_enter Try.func36,Try.ntmps36
 go_wp2_with (first|((with_reducible refine bC (N:=2) rfl ?_);refine bD ?hg (N:=2) ?hd (cs:=#[.slice none 0 0,.slice none 0 0,.int .i64 0,.bool false]) (t:=25) ?hr ?_;(case hd=>rfl);(case hg=>rfl);(case hr=>exact tE);intro gb357 hg w4 hbox hb;have BK357:=aA.mk (hbox);have GW357:=aA.mk ((by rw [hg];exact (aX HB.out):w.heap.size ≤ gb357));have GE357:=aA.mk ((by rw [hg];exact (aX HB.out):w.heap.size ≤ gb357));replace HB:=aA.mk (aT HB.out hb);clear hb hbox hg)|((with_reducible refine aW (f:=61) rfl ?_);refine bK (some 5) rfl rfl Try.func61 tG rfl #[.slice A0 l0.length c0] rfl tC ?_;(with_reducible refine (spec_l1New.calls k _ _ l0 t358 t359 t360 w _ ?side1 ?side2 ?side3 A2.out).mono ?_);(case side1=>repeat (first|(with_reducible first|exact HB.out|apply aJ|apply aE|apply aH|refine aC ?_ GE357.out)|exact HB.out));(case side2=>exact HR0.out);(case side3=>exact HC0.out);rintro e w5 ⟨g361,rfl,hi,hb,hb2⟩;refine ⟨_,rfl,?_⟩;replace HB:=aA.mk (hb);have HI361:=aA.mk (hi);have NB361_357:=aA.mk (IsS85.ne_blk hi (bM (g:=gb357) (o:=.cells #[.slice none 0 0,.slice none 0 0,.int .i64 0,.bool false] 25 (0,0)) BK357.out hb2) tf);have NB357_361:=aA.mk (Ne.symm (IsS85.ne_blk hi (bM (g:=gb357) (o:=.cells #[.slice none 0 0,.slice none 0 0,.int .i64 0,.bool false] 25 (0,0)) BK357.out hb2) tf));replace BK357:=aA.mk (bM (g:=gb357) (o:=.cells #[.slice none 0 0,.slice none 0 0,.int .i64 0,.bool false] 25 (0,0)) BK357.out hb2);(try clear hb);(try clear hb2);(try clear hk);(try clear hi))|((with_reducible refine aW (f:=63) rfl ?_);refine bK (some 7) rfl rfl Try.func63 tG rfl #[.pointer (some ⟨g361,0,none⟩)] rfl tC ?_;(with_reducible refine (spec_l2Any.calls k g361 t358 t359 t360 t362 t365 t368 t369 t370 t371 w _ ?side1 ?side2 A3.out).mono ?_);(case side1=>repeat (first|(with_reducible first|exact HI361.out|apply IsS85.alloc|apply IsS85.drewN|apply IsS85.drew|apply IsS85.set_1|apply IsS85.set_2|apply IsS85.far (hne:=NB361_357.out))|exact HI361.out));(case side2=>repeat (first|(with_reducible first|exact HB.out|apply aJ|apply aE|apply aH|refine aC ?_ (IsS85.ge HI361.out)|refine aC ?_ GE357.out)|exact HB.out));rintro e w6 ⟨v363,v366,rfl,ho0,ho1,hi,hb,hk⟩;refine ⟨_,rfl,?_⟩;have HO364:=aA.mk (Kd.N_lower (Kd.aV (ok':=fun k_=>(w.heap.size ≤ k_) ∧ some k_ ≠ (v366:Value).ownBlock ∧ k_ ≠ gb357 ∧ k_ ≠ g361) ho0 (fun k_ hk_=>⟨(Nat.le_trans (aX wC) hk_.1),hk_.2,(Kd.freshB (g:=gb357) (o:=.cells #[.slice none 0 0,.slice none 0 0,.int .i64 0,.bool false] 25 (0,0)) BK357.out k_ hk_.1),(IsS85.fresh AN k_ hk_.1)⟩)) (aX wC));have HO367:=aA.mk (Kd.N_lower (Kd.aV (ok':=fun k_=>(w.heap.size ≤ k_) ∧ some k_ ≠ (v363:Value).ownBlock ∧ k_ ≠ gb357 ∧ k_ ≠ g361) ho1 (fun k_ hk_=>⟨(Nat.le_trans (aX wC) hk_.1),hk_.2,(Kd.freshB (g:=gb357) (o:=.cells #[.slice none 0 0,.slice none 0 0,.int .i64 0,.bool false] 25 (0,0)) BK357.out k_ hk_.1),(IsS85.fresh AN k_ hk_.1)⟩)) (aX wC));replace BK357:=aA.mk (KeepBut.blk hk (g':=gb357) (o:=.cells #[.slice none 0 0,.slice none 0 0,.int .i64 0,.bool false] 25 (0,0)) BK357.out NB357_361.out vN);replace HB:=aA.mk (hb);replace HI361:=aA.mk (hi);(try clear hb);(try clear hb2);(try clear hk);(try clear hi);(try clear ho0);(try clear ho1);obtain ⟨Ao7,co7,eo7⟩:=Kd.cB HO364.out;subst eo7;have hnb8:=NB357_361.out;have hnc8:=NB361_357.out;obtain ⟨hcz9_0,hcz9_1,hcz9_2,hcz9_3⟩:=cs4 BK357.out;obtain ⟨hfz9_0,hfz9_1,hfz9_2,hfz9_3⟩:=fs4 BK357.out;obtain ⟨Ao10,co10,eo10⟩:=Kd.cB HO367.out;subst eo10))
 refine bodyPost_ret (results_cell_row rfl _ _ gb357 25 #[.slice Ao7 t362.length co7,.slice Ao10 t365.length co10,.int .i64 t368,.bool t369] (0,0) _ rfl (by (with_reducible repeat (first|refine aM ?_ _|refine aN ?_|refine aG ?_ _));refine aQ (cs:=#[.slice Ao7 t362.length co7,.slice Ao10 t365.length co10,.int .i64 t368,.bool false]) ?_ 3 _ rfl;(with_reducible repeat (first|refine aM ?_ _|refine aN ?_|refine aG ?_ _));refine aQ (cs:=#[.slice Ao7 t362.length co7,.slice Ao10 t365.length co10,.int .i64 0,.bool false]) ?_ 2 _ rfl;(with_reducible repeat (first|refine aM ?_ _|refine aN ?_|refine aG ?_ _));refine aQ (cs:=#[.slice Ao7 t362.length co7,.slice none 0 0,.int .i64 0,.bool false]) ?_ 1 _ rfl;(with_reducible repeat (first|refine aM ?_ _|refine aN ?_|refine aG ?_ _));refine aQ (cs:=#[.slice none 0 0,.slice none 0 0,.int .i64 0,.bool false]) ?_ 0 _ rfl;(with_reducible repeat (first|refine aM ?_ _|refine aN ?_|refine aG ?_ _));exact BK357.out) Try.underlying25 rfl tG) rfl ?_
 exact ⟨_,_,tN,by (with_reducible repeat (first|apply Kd.bW|apply Kd.bX|apply Kd.bV));exact Kd.aV (Kd.bH (p:=⟨gb357,3,none⟩) (Kd.bH (p:=⟨gb357,2,none⟩) (Kd.bH (p:=⟨gb357,1,none⟩) (Kd.bH (p:=⟨gb357,0,none⟩) (Kd.aV HO364.out (fun k_ hk=>(⟨hk,hk.2.2.1⟩:_ ∧ k_ ≠ gb357))) (fun _ hk=>hk.2) (.slice Ao7 t362.length co7)) (fun _ hk=>hk.2) (.slice Ao10 t365.length co10)) (fun _ hk=>hk.2) (.int .i64 t368)) (fun _ hk=>hk.2) (.bool t369)) (fun _ hk=>⟨hk.1.1,hk.1.2.1⟩),by (with_reducible repeat (first|apply Kd.bW|apply Kd.bX|apply Kd.bV));exact Kd.aV (Kd.bH (p:=⟨gb357,3,none⟩) (Kd.bH (p:=⟨gb357,2,none⟩) (Kd.bH (p:=⟨gb357,1,none⟩) (Kd.bH (p:=⟨gb357,0,none⟩) (Kd.aV HO367.out (fun k_ hk=>(⟨hk,hk.2.2.1⟩:_ ∧ k_ ≠ gb357))) (fun _ hk=>hk.2) (.slice Ao7 t362.length co7)) (fun _ hk=>hk.2) (.slice Ao10 t365.length co10)) (fun _ hk=>hk.2) (.int .i64 t368)) (fun _ hk=>hk.2) (.bool t369)) (fun _ hk=>⟨hk.1.1,hk.1.2.1⟩),by repeat (first|(with_reducible first|exact HB.out|apply aJ|apply aE|apply aH|refine aC ?_ (IsS85.ge HI361.out)|refine aC ?_ GE357.out)|exact HB.out)⟩
def spec_DrawReadSec.f (k:Nat) (l0:List Int):Option ((List (List Int)) × (List (S50)) × Int × Bool × Int):=(spec_l1New.f k l0).bind fun bt373=>((spec_l2Any.f k bt373.1 bt373.2.1 bt373.2.2).bind fun bt377=>((spec_l1Int.f bt373.1 bt377.2.2.2.2.1 bt377.2.2.2.2.2 (([0,0,1,2,(-1),60]:List Int))).bind fun bt390=>(some (bt377.1,bt377.2.1,bt377.2.2.1,bt377.2.2.2.1,bt390.1))))
set_option maxHeartbeats 8000000 in
set_option maxRecDepth 100000 in
theorem spec_DrawReadSec.calls (k:Nat) (A0:Option Addr) (c0:Nat) (l0:List Int) (r1:List (List Int)) (r2:List (S50)) (r3:Int) (r4:Bool) (r5:Int) (w:World) (hr0:Kd.C (Kd.int .u8) w A0 l0.length l0) (hc0:l0.length ≤ c0) (h:spec_DrawReadSec.f k l0 = some (r1,r2,r3,r4,r5)) :
  Calls Try.prog 37 #[.slice A0 l0.length c0] w fun e w'=>∃ v0_ v1_:Value,e = .returned (.tuple #[.agg #[v0_,v1_,.int .i64 r3,.bool r4],.int .i64 r5]) ∧ Kd.N (Kd.slice 5 (Kd.int .u8)) 37 w' w.heap.size (fun k_=>(w.heap.size ≤ k_) ∧ some k_ ≠ (v1_:Value).ownBlock) v0_ r1 ∧ Kd.N k50 50 w' w.heap.size (fun k_=>(w.heap.size ≤ k_) ∧ some k_ ≠ (v0_:Value).ownBlock) v1_ r2 ∧ Below w.heap.size w w':=by
 have hu25:=Try.underlying25
 have HR0:=aA.mk hr0
 have HC0:=aA.mk hc0
 clear hr0 hc0
 have HB:=aA.mk (Below.refl w.heap.size w)
 have H:((spec_l1New.f k l0).bind fun bt373=>((spec_l2Any.f k bt373.1 bt373.2.1 bt373.2.2).bind fun bt377=>((spec_l1Int.f bt373.1 bt377.2.2.2.2.1 bt377.2.2.2.2.2 (([0,0,1,2,(-1),60]:List Int))).bind fun bt390=>(some (bt377.1,bt377.2.1,bt377.2.2.1,bt377.2.2.2.1,bt390.1))))) = some (r1,r2,r3,r4,r5):=h
 clear h
 replace H:=lF H
 obtain ⟨⟨t373,t374,t375⟩,A20,H⟩:=H
 replace H:((spec_l2Any.f k t373 t374 t375).bind fun bt377=>((spec_l1Int.f t373 bt377.2.2.2.2.1 bt377.2.2.2.2.2 (([0,0,1,2,(-1),60]:List Int))).bind fun bt390=>(some (bt377.1,bt377.2.1,bt377.2.2.1,bt377.2.2.2.1,bt390.1)))) = some (r1,r2,r3,r4,r5):=H
 have A2:=aA.mk A20
 clear A20
 replace H:=lF H
 obtain ⟨⟨t377,t380,t383,t384,t385,t386⟩,A30,H⟩:=H
 replace H:((spec_l1Int.f t373 t385 t386 (([0,0,1,2,(-1),60]:List Int))).bind fun bt390=>(some (t377,t380,t383,t384,bt390.1))) = some (r1,r2,r3,r4,r5):=H
 have A3:=aA.mk A30
 clear A30
 obtain ⟨y387,hy387⟩:∃ y_:List Int,y_ = (([0,0,1,2,(-1),60]:List Int)):=⟨_,rfl⟩
 replace H:((spec_l1Int.f t373 t385 t386 y387).bind fun bt390=>(some (t377,t380,t383,t384,bt390.1))) = some (r1,r2,r3,r4,r5):=by first|(rw [hy387];with_reducible exact H)|(have H2_:=(Option.bind_some _ _).symm.trans H;rw [hy387];with_reducible exact H2_)|(have H2_:=(Option.bind_some _ _).symm.trans H;with_reducible exact H2_)|with_reducible exact H|(rw [hy387];exact H)|exact H
 have Ny387:=aA.mk hy387
 clear hy387
 replace H:=lF H
 obtain ⟨⟨t390,t391,t392⟩,A40,H⟩:=H
 replace H:(some (t377,t380,t383,t384,t390)) = some (r1,r2,r3,r4,r5):=H
 have A4:=aA.mk A40
 clear A40
 simp only [Option.some.injEq,Prod.mk.injEq] at H
 obtain ⟨rfl,rfl,rfl,rfl,rfl⟩:=H
 go_enter Try.func37,Try.ntmps37
 go_wp2_with (first|((with_reducible refine bC (N:=2) rfl ?_);refine bD ?hg (N:=2) ?hd (cs:=#[.slice none 0 0,.slice none 0 0,.int .i64 0,.bool false]) (t:=25) ?hr ?_;(case hd=>rfl);(case hg=>rfl);(case hr=>exact tE);intro gb372 hg w5 hbox hb;have BK372:=aA.mk (hbox);have GW372:=aA.mk ((by rw [hg];exact (aX HB.out):w.heap.size ≤ gb372));have GE372:=aA.mk ((by rw [hg];exact (aX HB.out):w.heap.size ≤ gb372));replace HB:=aA.mk (aT HB.out hb);clear hb hbox hg)|((with_reducible refine aW (f:=61) rfl ?_);refine bK (some 6) rfl rfl Try.func61 tG rfl #[.slice A0 l0.length c0] rfl tC ?_;(with_reducible refine (spec_l1New.calls k _ _ l0 t373 t374 t375 w _ ?side1 ?side2 ?side3 A2.out).mono ?_);(case side1=>repeat (first|(with_reducible first|exact HB.out|apply aJ|apply aE|apply aH|refine aC ?_ GE372.out)|exact HB.out));(case side2=>exact HR0.out);(case side3=>exact HC0.out);rintro e w6 ⟨g376,rfl,hi,hb,hb2⟩;refine ⟨_,rfl,?_⟩;replace HB:=aA.mk (hb);have HI376:=aA.mk (hi);have NB376_372:=aA.mk (IsS85.ne_blk hi (bM (g:=gb372) (o:=.cells #[.slice none 0 0,.slice none 0 0,.int .i64 0,.bool false] 25 (0,0)) BK372.out hb2) tf);have NB372_376:=aA.mk (Ne.symm (IsS85.ne_blk hi (bM (g:=gb372) (o:=.cells #[.slice none 0 0,.slice none 0 0,.int .i64 0,.bool false] 25 (0,0)) BK372.out hb2) tf));replace BK372:=aA.mk (bM (g:=gb372) (o:=.cells #[.slice none 0 0,.slice none 0 0,.int .i64 0,.bool false] 25 (0,0)) BK372.out hb2);(try clear hb);(try clear hb2);(try clear hk);(try clear hi))|((with_reducible refine aW (f:=63) rfl ?_);refine bK (some 8) rfl rfl Try.func63 tG rfl #[.pointer (some ⟨g376,0,none⟩)] rfl tC ?_;(with_reducible refine (spec_l2Any.calls k g376 t373 t374 t375 t377 t380 t383 t384 t385 t386 w _ ?side1 ?side2 A3.out).mono ?_);(case side1=>exact AV);(case side2=>repeat (first|(with_reducible first|exact HB.out|apply aJ|apply aE|apply aH|refine aC ?_ (IsS85.ge HI376.out)|refine aC ?_ GE372.out)|exact HB.out));rintro e w7 ⟨v378,v381,rfl,ho0,ho1,hi,hb,hk⟩;refine ⟨_,rfl,?_⟩;have HO379:=aA.mk (Kd.N_lower (Kd.aV (ok':=fun k_=>(w.heap.size ≤ k_) ∧ some k_ ≠ (v381:Value).ownBlock ∧ k_ ≠ gb372 ∧ k_ ≠ g376) ho0 (fun k_ hk_=>⟨(Nat.le_trans (aX vH) hk_.1),hk_.2,(Kd.freshB (g:=gb372) (o:=.cells #[.slice none 0 0,.slice none 0 0,.int .i64 0,.bool false] 25 (0,0)) BK372.out k_ hk_.1),(IsS85.fresh wV k_ hk_.1)⟩)) (aX vH));have HO382:=aA.mk (Kd.N_lower (Kd.aV (ok':=fun k_=>(w.heap.size ≤ k_) ∧ some k_ ≠ (v378:Value).ownBlock ∧ k_ ≠ gb372 ∧ k_ ≠ g376) ho1 (fun k_ hk_=>⟨(Nat.le_trans (aX vH) hk_.1),hk_.2,(Kd.freshB (g:=gb372) (o:=.cells #[.slice none 0 0,.slice none 0 0,.int .i64 0,.bool false] 25 (0,0)) BK372.out k_ hk_.1),(IsS85.fresh wV k_ hk_.1)⟩)) (aX vH));replace BK372:=aA.mk (KeepBut.blk hk (g':=gb372) (o:=.cells #[.slice none 0 0,.slice none 0 0,.int .i64 0,.bool false] 25 (0,0)) BK372.out NB372_376.out vN);replace HB:=aA.mk (hb);replace HI376:=aA.mk (hi);(try clear hb);(try clear hb2);(try clear hk);(try clear hi);(try clear ho0);(try clear ho1))|((with_reducible refine bC (N:=10) rfl ?_);refine Kd.R_lit (Kd.int .i64) _ 3 ?hg (N:=10) ?hd (xs:=([0,0,1,2,(-1),60]:List Int)) (inner:=[.int .i64 0,.int .i64 0,.int .i64 1,.int .i64 2,.int .i64 (-1),.int .i64 60]) (ok:=fun _=>True) (okp:=fun _=>True) ?hr ?hp (fun _ hk=>hk) trivial (Below.refl _ _) (Nat.le_refl _) vN ?_;(case hd=>rfl);(case hg=>rfl);(case hr=>exact tE);(case hp=>exact vR);intro v388 w8 ho9 hb hg_ hnew_;clear hg_ hnew_;(first|rw [← Ny387.out] at ho9|(simp only [Int.reduceToNat] at ho9;rw [← Ny387.out] at ho9));replace HO379:=aA.mk (Kd.N_elder' HO379.out (Kd.R_base ho9) hb);replace HO382:=aA.mk (Kd.N_elder' HO382.out (Kd.R_base ho9) hb);have HO389:=aA.mk (Kd.R_lower (Kd.R_newM (M:=fun k_=>(w.heap.size ≤ k_)) ho9 (aX vH) (fun k_ h_=>h_)) (aX vH));replace BK372:=aA.mk (bM (g:=gb372) (o:=.cells #[.slice none 0 0,.slice none 0 0,.int .i64 0,.bool false] 25 (0,0)) BK372.out hb);replace HB:=aA.mk (aT vH hb);replace HI376:=aA.mk (IsS85.below wV hb);clear hb ho9;obtain ⟨Ao10,co10,eo10⟩:=Kd.R_slice HO389.out;subst eo10)|((with_reducible refine aW (f:=64) rfl ?_);refine bK (some 11) rfl rfl Try.func64 tG rfl #[.pointer (some ⟨g376,0,none⟩),.slice Ao10 y387.length co10] rfl tC ?_;(with_reducible refine (spec_l1Int.calls g376 t373 t385 t386 _ _ y387 t390 t391 t392 w _ ?side1 ?side2 ?side3 ?side4 ?side5 A4.out).mono ?_);(case side1=>exact AV);(case side2=>repeat (first|(with_reducible first|exact HB.out|apply aJ|apply aE|apply aH|refine aC ?_ (IsS85.ge HI376.out)|refine aC ?_ GE372.out)|exact HB.out));(case side3=>repeat (first|exact (Kd.R_reads' HO389.out).2.2|(with_reducible refine Kd.C_alloc ?_ _)|(with_reducible refine Kd.C_drewN ?_ _)|(with_reducible refine Kd.C_drew ?_)));(case side4=>exact (Kd.R_reads' HO389.out).2.1);(case side5=>exact far_slice (IsS85.own_ne HI376.out HO389.out tf));rintro e w11 ⟨rfl,hi,hb,hk⟩;refine ⟨_,rfl,?_⟩;replace BK372:=aA.mk (KeepBut.blk hk (g':=gb372) (o:=.cells #[.slice none 0 0,.slice none 0 0,.int .i64 0,.bool false] 25 (0,0)) BK372.out NB372_376.out vN);replace HO379:=aA.mk (Kd.aV (Kd.N_keep (Kd.aV (ok:=fun k_=>((((w.heap.size ≤ k_)) ∧ (some k_ ≠ (v381:Value).ownBlock ∧ (k_ ≠ gb372 ∧ k_ ≠ g376))) ∧ some k_ ≠ (.slice Ao10 y387.length co10:Value).ownBlock)) HO379.out (fun k_ hk_=>(⟨hk_,hk_.1.2.2.2⟩:_ ∧ k_ ≠ g376))) hk (fun _ h=>h.2)) (fun _ h=>h.1));replace HO382:=aA.mk (Kd.aV (Kd.N_keep (Kd.aV (ok:=fun k_=>((((w.heap.size ≤ k_)) ∧ (some k_ ≠ (v378:Value).ownBlock ∧ (k_ ≠ gb372 ∧ k_ ≠ g376))) ∧ some k_ ≠ (.slice Ao10 y387.length co10:Value).ownBlock)) HO382.out (fun k_ hk_=>(⟨hk_,hk_.1.2.2.2⟩:_ ∧ k_ ≠ g376))) hk (fun _ h=>h.2)) (fun _ h=>h.1));replace HO389:=aA.mk (Kd.R_mono (Kd.R_keep (IsS85.apart (show IsS85 w _ g376 t373 t385 t386 from by repeat (first|(with_reducible first|exact HI376.out|apply IsS85.alloc|apply IsS85.drewN|apply IsS85.drew|apply IsS85.set_1|apply IsS85.set_2|apply IsS85.far (hne:=NB376_372.out))|exact HI376.out)) HO389.out tf) hk (fun _ h=>h.2)) (fun _ h=>h.1));replace HB:=aA.mk (hb);replace HI376:=aA.mk (hi);(try clear hb);(try clear hb2);(try clear hk);(try clear hi);obtain ⟨Ao12,co12,eo12⟩:=Kd.cB HO379.out;subst eo12;have hnb13:=NB372_376.out;have hnc13:=NB376_372.out;obtain ⟨hcz14_0,hcz14_1,hcz14_2,hcz14_3⟩:=cs4 BK372.out;obtain ⟨hfz14_0,hfz14_1,hfz14_2,hfz14_3⟩:=fs4 BK372.out;obtain ⟨Ao15,co15,eo15⟩:=Kd.cB HO382.out;subst eo15))
 refine bodyPost_ret (results_ct rfl _ _ gb372 25 #[.slice Ao12 t377.length co12,.slice Ao15 t380.length co15,.int .i64 t383,.bool t384] (0,0) _ rfl (by (with_reducible repeat (first|refine aM ?_ _|refine aN ?_|refine aG ?_ _));refine aQ (cs:=#[.slice Ao12 t377.length co12,.slice Ao15 t380.length co15,.int .i64 t383,.bool false]) ?_ 3 _ rfl;(with_reducible repeat (first|refine aM ?_ _|refine aN ?_|refine aG ?_ _));refine aQ (cs:=#[.slice Ao12 t377.length co12,.slice Ao15 t380.length co15,.int .i64 0,.bool false]) ?_ 2 _ rfl;(with_reducible repeat (first|refine aM ?_ _|refine aN ?_|refine aG ?_ _));refine aQ (cs:=#[.slice Ao12 t377.length co12,.slice none 0 0,.int .i64 0,.bool false]) ?_ 1 _ rfl;(with_reducible repeat (first|refine aM ?_ _|refine aN ?_|refine aG ?_ _));refine aQ (cs:=#[.slice none 0 0,.slice none 0 0,.int .i64 0,.bool false]) ?_ 0 _ rfl;(with_reducible repeat (first|refine aM ?_ _|refine aN ?_|refine aG ?_ _));exact BK372.out) Try.underlying25 rfl tG) rfl ?_
 exact ⟨_,_,tN,by (with_reducible repeat (first|apply Kd.bW|apply Kd.bX|apply Kd.bV));exact Kd.aV (Kd.bH (p:=⟨gb372,3,none⟩) (Kd.bH (p:=⟨gb372,2,none⟩) (Kd.bH (p:=⟨gb372,1,none⟩) (Kd.bH (p:=⟨gb372,0,none⟩) (Kd.aV HO379.out (fun k_ hk=>(⟨hk,hk.1.2.2.1⟩:_ ∧ k_ ≠ gb372))) (fun _ hk=>hk.2) (.slice Ao12 t377.length co12)) (fun _ hk=>hk.2) (.slice Ao15 t380.length co15)) (fun _ hk=>hk.2) (.int .i64 t383)) (fun _ hk=>hk.2) (.bool t384)) (fun _ hk=>⟨hk.1.1.1,hk.1.1.2.1⟩),by (with_reducible repeat (first|apply Kd.bW|apply Kd.bX|apply Kd.bV));exact Kd.aV (Kd.bH (p:=⟨gb372,3,none⟩) (Kd.bH (p:=⟨gb372,2,none⟩) (Kd.bH (p:=⟨gb372,1,none⟩) (Kd.bH (p:=⟨gb372,0,none⟩) (Kd.aV HO382.out (fun k_ hk=>(⟨hk,hk.1.2.2.1⟩:_ ∧ k_ ≠ gb372))) (fun _ hk=>hk.2) (.slice Ao12 t377.length co12)) (fun _ hk=>hk.2) (.slice Ao15 t380.length co15)) (fun _ hk=>hk.2) (.int .i64 t383)) (fun _ hk=>hk.2) (.bool t384)) (fun _ hk=>⟨hk.1.1.1,hk.1.1.2.1⟩),by repeat (first|(with_reducible first|exact HB.out|apply aJ|apply aE|apply aH|refine aC ?_ (IsS85.ge HI376.out)|refine aC ?_ GE372.out)|exact HB.out)⟩
def spec_DrawWriteSec.f (k:Nat) (l0:List Int):Option ((List (List Int)) × (List (S50)) × Int × Bool × Int × List Int):=(spec_l1New.f k l0).bind fun bt394=>((spec_l1Below.f bt394.1 bt394.2.1 bt394.2.2 5).bind fun bt398=>((spec_l1Bytes.f k bt394.1 bt398.2.1 bt398.2.2 bt398.1).bind fun bt401=>((spec_l1Once.f bt394.1 bt401.2.1 bt401.2.2 10).bind fun bt406=>(if bt406.1 = true then ((spec_l1Below.f bt394.1 bt406.2.1 bt406.2.2 2).bind fun bt409=>(if 0 ≤ (wrap64 (80 + bt409.1)) then (if (wrap64 (80 + bt409.1):Int).toNat ≤ 281474976710656 then ((spec_l2Any.f k bt394.1 bt409.2.1 bt409.2.2).bind fun bt415=>((spec_l1Int.f bt394.1 bt415.2.2.2.2.1 bt415.2.2.2.2.2 (([0,0,1,2,(-1),60]:List Int))).bind fun bt428=>(some (bt415.1,bt415.2.1,bt415.2.2.1,bt415.2.2.2.1,bt428.1,(List.replicate (wrap64 (80 + bt409.1):Int).toNat 0))))) else (none)) else (none))) else ((spec_l2Any.f k bt394.1 bt406.2.1 bt406.2.2).bind fun bt431=>((spec_l1Int.f bt394.1 bt431.2.2.2.2.1 bt431.2.2.2.2.2 (([0,0,1,2,(-1),60]:List Int))).bind fun bt444=>(some (bt431.1,bt431.2.1,bt431.2.2.1,bt431.2.2.2.1,bt444.1,bt401.1))))))))
set_option maxHeartbeats 8000000 in
set_option maxRecDepth 100000 in
theorem spec_DrawWriteSec.calls (k:Nat) (A0:Option Addr) (c0:Nat) (l0:List Int) (r1:List (List Int)) (r2:List (S50)) (r3:Int) (r4:Bool) (r5:Int) (r6:List Int) (w:World) (hr0:Kd.C (Kd.int .u8) w A0 l0.length l0) (hc0:l0.length ≤ c0) (h:spec_DrawWriteSec.f k l0 = some (r1,r2,r3,r4,r5,r6)) :
  Calls Try.prog 38 #[.slice A0 l0.length c0] w fun e w'=>∃ v0_ v1_ v5_:Value,e = .returned (.tuple #[.agg #[v0_,v1_,.int .i64 r3,.bool r4],.int .i64 r5,v5_]) ∧ Kd.N (Kd.slice 5 (Kd.int .u8)) 37 w' w.heap.size (fun k_=>(w.heap.size ≤ k_) ∧ some k_ ≠ (v1_:Value).ownBlock ∧ some k_ ≠ (v5_:Value).ownBlock) v0_ r1 ∧ Kd.N k50 50 w' w.heap.size (fun k_=>(w.heap.size ≤ k_) ∧ some k_ ≠ (v0_:Value).ownBlock ∧ some k_ ≠ (v5_:Value).ownBlock) v1_ r2 ∧ Kd.R (Kd.int .u8) 5 w' w.heap.size (fun k_=>(w.heap.size ≤ k_)) v5_ r6 ∧ Below w.heap.size w w':=by
 have hu25:=Try.underlying25
 have HR0:=aA.mk hr0
 have HC0:=aA.mk hc0
 clear hr0 hc0
 have HB:=aA.mk (Below.refl w.heap.size w)
 have H:((spec_l1New.f k l0).bind fun bt394=>((spec_l1Below.f bt394.1 bt394.2.1 bt394.2.2 5).bind fun bt398=>((spec_l1Bytes.f k bt394.1 bt398.2.1 bt398.2.2 bt398.1).bind fun bt401=>((spec_l1Once.f bt394.1 bt401.2.1 bt401.2.2 10).bind fun bt406=>(if bt406.1 = true then ((spec_l1Below.f bt394.1 bt406.2.1 bt406.2.2 2).bind fun bt409=>(if 0 ≤ (wrap64 (80 + bt409.1)) then (if (wrap64 (80 + bt409.1):Int).toNat ≤ 281474976710656 then ((spec_l2Any.f k bt394.1 bt409.2.1 bt409.2.2).bind fun bt415=>((spec_l1Int.f bt394.1 bt415.2.2.2.2.1 bt415.2.2.2.2.2 (([0,0,1,2,(-1),60]:List Int))).bind fun bt428=>(some (bt415.1,bt415.2.1,bt415.2.2.1,bt415.2.2.2.1,bt428.1,(List.replicate (wrap64 (80 + bt409.1):Int).toNat 0))))) else (none)) else (none))) else ((spec_l2Any.f k bt394.1 bt406.2.1 bt406.2.2).bind fun bt431=>((spec_l1Int.f bt394.1 bt431.2.2.2.2.1 bt431.2.2.2.2.2 (([0,0,1,2,(-1),60]:List Int))).bind fun bt444=>(some (bt431.1,bt431.2.1,bt431.2.2.1,bt431.2.2.2.1,bt444.1,bt401.1))))))))) = some (r1,r2,r3,r4,r5,r6):=h
 clear h
 replace H:=lF H
 obtain ⟨⟨t394,t395,t396⟩,A20,H⟩:=H
 replace H:((spec_l1Below.f t394 t395 t396 5).bind fun bt398=>((spec_l1Bytes.f k t394 bt398.2.1 bt398.2.2 bt398.1).bind fun bt401=>((spec_l1Once.f t394 bt401.2.1 bt401.2.2 10).bind fun bt406=>(if bt406.1 = true then ((spec_l1Below.f t394 bt406.2.1 bt406.2.2 2).bind fun bt409=>(if 0 ≤ (wrap64 (80 + bt409.1)) then (if (wrap64 (80 + bt409.1):Int).toNat ≤ 281474976710656 then ((spec_l2Any.f k t394 bt409.2.1 bt409.2.2).bind fun bt415=>((spec_l1Int.f t394 bt415.2.2.2.2.1 bt415.2.2.2.2.2 (([0,0,1,2,(-1),60]:List Int))).bind fun bt428=>(some (bt415.1,bt415.2.1,bt415.2.2.1,bt415.2.2.2.1,bt428.1,(List.replicate (wrap64 (80 + bt409.1):Int).toNat 0))))) else (none)) else (none))) else ((spec_l2Any.f k t394 bt406.2.1 bt406.2.2).bind fun bt431=>((spec_l1Int.f t394 bt431.2.2.2.2.1 bt431.2.2.2.2.2 (([0,0,1,2,(-1),60]:List Int))).bind fun bt444=>(some (bt431.1,bt431.2.1,bt431.2.2.1,bt431.2.2.2.1,bt444.1,bt401.1)))))))) = some (r1,r2,r3,r4,r5,r6):=H
 have A2:=aA.mk A20
 clear A20
 replace H:=lF H
 obtain ⟨⟨t398,t399,t400⟩,A30,H⟩:=H
 replace H:((spec_l1Bytes.f k t394 t399 t400 t398).bind fun bt401=>((spec_l1Once.f t394 bt401.2.1 bt401.2.2 10).bind fun bt406=>(if bt406.1 = true then ((spec_l1Below.f t394 bt406.2.1 bt406.2.2 2).bind fun bt409=>(if 0 ≤ (wrap64 (80 + bt409.1)) then (if (wrap64 (80 + bt409.1):Int).toNat ≤ 281474976710656 then ((spec_l2Any.f k t394 bt409.2.1 bt409.2.2).bind fun bt415=>((spec_l1Int.f t394 bt415.2.2.2.2.1 bt415.2.2.2.2.2 (([0,0,1,2,(-1),60]:List Int))).bind fun bt428=>(some (bt415.1,bt415.2.1,bt415.2.2.1,bt415.2.2.2.1,bt428.1,(List.replicate (wrap64 (80 + bt409.1):Int).toNat 0))))) else (none)) else (none))) else ((spec_l2Any.f k t394 bt406.2.1 bt406.2.2).bind fun bt431=>((spec_l1Int.f t394 bt431.2.2.2.2.1 bt431.2.2.2.2.2 (([0,0,1,2,(-1),60]:List Int))).bind fun bt444=>(some (bt431.1,bt431.2.1,bt431.2.2.1,bt431.2.2.2.1,bt444.1,bt401.1))))))) = some (r1,r2,r3,r4,r5,r6):=H
 have A3:=aA.mk A30
 clear A30
 replace H:=lF H
 obtain ⟨⟨t401,t404,t405⟩,A40,H⟩:=H
 replace H:((spec_l1Once.f t394 t404 t405 10).bind fun bt406=>(if bt406.1 = true then ((spec_l1Below.f t394 bt406.2.1 bt406.2.2 2).bind fun bt409=>(if 0 ≤ (wrap64 (80 + bt409.1)) then (if (wrap64 (80 + bt409.1):Int).toNat ≤ 281474976710656 then ((spec_l2Any.f k t394 bt409.2.1 bt409.2.2).bind fun bt415=>((spec_l1Int.f t394 bt415.2.2.2.2.1 bt415.2.2.2.2.2 (([0,0,1,2,(-1),60]:List Int))).bind fun bt428=>(some (bt415.1,bt415.2.1,bt415.2.2.1,bt415.2.2.2.1,bt428.1,(List.replicate (wrap64 (80 + bt409.1):Int).toNat 0))))) else (none)) else (none))) else ((spec_l2Any.f k t394 bt406.2.1 bt406.2.2).bind fun bt431=>((spec_l1Int.f t394 bt431.2.2.2.2.1 bt431.2.2.2.2.2 (([0,0,1,2,(-1),60]:List Int))).bind fun bt444=>(some (bt431.1,bt431.2.1,bt431.2.2.1,bt431.2.2.2.1,bt444.1,t401)))))) = some (r1,r2,r3,r4,r5,r6):=H
 have A4:=aA.mk A40
 clear A40
 replace H:=lF H
 obtain ⟨⟨t406,t407,t408⟩,A50,H⟩:=H
 replace H:(if t406 = true then ((spec_l1Below.f t394 t407 t408 2).bind fun bt409=>(if 0 ≤ (wrap64 (80 + bt409.1)) then (if (wrap64 (80 + bt409.1):Int).toNat ≤ 281474976710656 then ((spec_l2Any.f k t394 bt409.2.1 bt409.2.2).bind fun bt415=>((spec_l1Int.f t394 bt415.2.2.2.2.1 bt415.2.2.2.2.2 (([0,0,1,2,(-1),60]:List Int))).bind fun bt428=>(some (bt415.1,bt415.2.1,bt415.2.2.1,bt415.2.2.2.1,bt428.1,(List.replicate (wrap64 (80 + bt409.1):Int).toNat 0))))) else (none)) else (none))) else ((spec_l2Any.f k t394 t407 t408).bind fun bt431=>((spec_l1Int.f t394 bt431.2.2.2.2.1 bt431.2.2.2.2.2 (([0,0,1,2,(-1),60]:List Int))).bind fun bt444=>(some (bt431.1,bt431.2.1,bt431.2.2.1,bt431.2.2.2.1,bt444.1,t401))))) = some (r1,r2,r3,r4,r5,r6):=H
 have A5:=aA.mk A50
 clear A50
 by_cases c6:t406 = true
 ·subst c6
  have H1:((spec_l1Below.f t394 t407 t408 2).bind fun bt409=>(if 0 ≤ (wrap64 (80 + bt409.1)) then (if (wrap64 (80 + bt409.1):Int).toNat ≤ 281474976710656 then ((spec_l2Any.f k t394 bt409.2.1 bt409.2.2).bind fun bt415=>((spec_l1Int.f t394 bt415.2.2.2.2.1 bt415.2.2.2.2.2 (([0,0,1,2,(-1),60]:List Int))).bind fun bt428=>(some (bt415.1,bt415.2.1,bt415.2.2.1,bt415.2.2.2.1,bt428.1,(List.replicate (wrap64 (80 + bt409.1):Int).toNat 0))))) else (none)) else (none))) = some (r1,r2,r3,r4,r5,r6):=by rw [if_pos rfl] at H;exact H
  clear H
  have H:=H1
  clear H1
  replace H:=lF H
  obtain ⟨⟨t409,t410,t411⟩,A70,H⟩:=H
  replace H:(if 0 ≤ (wrap64 (80 + t409)) then (if (wrap64 (80 + t409):Int).toNat ≤ 281474976710656 then ((spec_l2Any.f k t394 t410 t411).bind fun bt415=>((spec_l1Int.f t394 bt415.2.2.2.2.1 bt415.2.2.2.2.2 (([0,0,1,2,(-1),60]:List Int))).bind fun bt428=>(some (bt415.1,bt415.2.1,bt415.2.2.1,bt415.2.2.2.1,bt428.1,(List.replicate (wrap64 (80 + t409):Int).toNat 0))))) else (none)) else (none)) = some (r1,r2,r3,r4,r5,r6):=H
  have A7:=aA.mk A70
  clear A70
  obtain ⟨ji8,hji8⟩:∃ j_:Int,(wrap64 (80 + t409)) = j_:=⟨_,rfl⟩
  replace H:(if 0 ≤ (ji8) then (if (ji8:Int).toNat ≤ 281474976710656 then ((spec_l2Any.f k t394 t410 t411).bind fun bt415=>((spec_l1Int.f t394 bt415.2.2.2.2.1 bt415.2.2.2.2.2 (([0,0,1,2,(-1),60]:List Int))).bind fun bt428=>(some (bt415.1,bt415.2.1,bt415.2.2.1,bt415.2.2.2.1,bt428.1,(List.replicate (ji8:Int).toNat 0))))) else (none)) else (none)) = some (r1,r2,r3,r4,r5,r6):=by first|(rw [hji8] at H;exact H)|(simp only [hji8] at H ⊢;exact H)
  (try rw [hji8] at A2)
  (try rw [hji8] at A3)
  (try rw [hji8] at A4)
  (try rw [hji8] at A5)
  (try rw [hji8] at A7)
  have hji8w:(IntKind.i64.wrap (80 + t409)) = ji8:=(bE _).trans hji8
  by_cases c9:0 ≤ (ji8)
  ·rw [if_pos c9] at H
   have c9b0:=eq_true c9
   have c9b1:decide (0 ≤ (ji8)) = true:=decide_eq_true c9
   clear c9
   by_cases c10:(ji8:Int).toNat ≤ 281474976710656
   ·rw [if_pos c10] at H
    have c10b0:=eq_true c10
    have c10b1:decide ((ji8:Int).toNat ≤ 281474976710656) = true:=decide_eq_true c10
    clear c10
    obtain ⟨y412,hy412⟩:∃ y_:List Int,y_ = (List.replicate (ji8:Int).toNat 0):=⟨_,rfl⟩
    replace H:((spec_l2Any.f k t394 t410 t411).bind fun bt415=>((spec_l1Int.f t394 bt415.2.2.2.2.1 bt415.2.2.2.2.2 (([0,0,1,2,(-1),60]:List Int))).bind fun bt428=>(some (bt415.1,bt415.2.1,bt415.2.2.1,bt415.2.2.2.1,bt428.1,y412)))) = some (r1,r2,r3,r4,r5,r6):=by first|(rw [hy412];with_reducible exact H)|(have H2_:=(Option.bind_some _ _).symm.trans H;rw [hy412];with_reducible exact H2_)|(have H2_:=(Option.bind_some _ _).symm.trans H;with_reducible exact H2_)|with_reducible exact H|(rw [hy412];exact H)|exact H
    have Ny412:=aA.mk hy412
    clear hy412
    replace H:=lF H
    obtain ⟨⟨t415,t418,t421,t422,t423,t424⟩,A110,H⟩:=H
    replace H:((spec_l1Int.f t394 t423 t424 (([0,0,1,2,(-1),60]:List Int))).bind fun bt428=>(some (t415,t418,t421,t422,bt428.1,y412))) = some (r1,r2,r3,r4,r5,r6):=H
    have A11:=aA.mk A110
    clear A110
    obtain ⟨y425,hy425⟩:∃ y_:List Int,y_ = (([0,0,1,2,(-1),60]:List Int)):=⟨_,rfl⟩
    replace H:((spec_l1Int.f t394 t423 t424 y425).bind fun bt428=>(some (t415,t418,t421,t422,bt428.1,y412))) = some (r1,r2,r3,r4,r5,r6):=by first|(rw [hy425];with_reducible exact H)|(have H2_:=(Option.bind_some _ _).symm.trans H;rw [hy425];with_reducible exact H2_)|(have H2_:=(Option.bind_some _ _).symm.trans H;with_reducible exact H2_)|with_reducible exact H|(rw [hy425];exact H)|exact H
    have Ny425:=aA.mk hy425
    clear hy425
    replace H:=lF H
    obtain ⟨⟨t428,t429,t430⟩,A120,H⟩:=H
    replace H:(some (t415,t418,t421,t422,t428,y412)) = some (r1,r2,r3,r4,r5,r6):=H
    have A12:=aA.mk A120
    clear A120
    simp only [Option.some.injEq,Prod.mk.injEq] at H
    obtain ⟨rfl,rfl,rfl,rfl,rfl,rfl⟩:=H
    go_enter Try.func38,Try.ntmps38
    go_wp2_with (first|((with_reducible refine bC (N:=2) rfl ?_);refine bD ?hg (N:=2) ?hd (cs:=#[.slice none 0 0,.slice none 0 0,.int .i64 0,.bool false]) (t:=25) ?hr ?_;(case hd=>rfl);(case hg=>rfl);(case hr=>exact tE);intro gb393 hg w13 hbox hb;have BK393:=aA.mk (hbox);have GW393:=aA.mk ((by rw [hg];exact (aX HB.out):w.heap.size ≤ gb393));have GE393:=aA.mk ((by rw [hg];exact (aX HB.out):w.heap.size ≤ gb393));replace HB:=aA.mk (aT HB.out hb);clear hb hbox hg)|((with_reducible refine aW (f:=61) rfl ?_);refine bK (some 8) rfl rfl Try.func61 tG rfl #[.slice A0 l0.length c0] rfl tC ?_;(with_reducible refine (spec_l1New.calls k _ _ l0 t394 t395 t396 w _ ?side1 ?side2 ?side3 A2.out).mono ?_);(case side1=>repeat (first|(with_reducible first|exact HB.out|apply aJ|apply aE|apply aH|refine aC ?_ GE393.out)|exact HB.out));(case side2=>exact HR0.out);(case side3=>exact HC0.out);rintro e w14 ⟨g397,rfl,hi,hb,hb2⟩;refine ⟨_,rfl,?_⟩;replace HB:=aA.mk (hb);have HI397:=aA.mk (hi);have NB397_393:=aA.mk (IsS85.ne_blk hi (bM (g:=gb393) (o:=.cells #[.slice none 0 0,.slice none 0 0,.int .i64 0,.bool false] 25 (0,0)) BK393.out hb2) tf);have NB393_397:=aA.mk (Ne.symm (IsS85.ne_blk hi (bM (g:=gb393) (o:=.cells #[.slice none 0 0,.slice none 0 0,.int .i64 0,.bool false] 25 (0,0)) BK393.out hb2) tf));replace BK393:=aA.mk (bM (g:=gb393) (o:=.cells #[.slice none 0 0,.slice none 0 0,.int .i64 0,.bool false] 25 (0,0)) BK393.out hb2);(try clear hb);(try clear hb2);(try clear hk);(try clear hi))|((with_reducible refine aW (f:=66) rfl ?_);refine bK (some 11) rfl rfl Try.func66 tG rfl #[.pointer (some ⟨g397,0,none⟩),.int .i64 5] rfl tC ?_;(with_reducible refine (spec_l1Below.calls g397 t394 t395 t396 5 t398 t399 t400 w _ ?side1 ?side2 A3.out).mono ?_);(case side1=>exact tg);(case side2=>exact tu);rintro e w15 ⟨rfl,hi,hb,hk⟩;refine ⟨_,rfl,?_⟩;replace BK393:=aA.mk (KeepBut.blk hk (g':=gb393) (o:=.cells #[.slice none 0 0,.slice none 0 0,.int .i64 0,.bool false] 25 (0,0)) BK393.out NB393_397.out vN);replace HB:=aA.mk (hb);replace HI397:=aA.mk (hi);(try clear hb);(try clear hb2);(try clear hk);(try clear hi))|((with_reducible refine aW (f:=65) rfl ?_);refine bK (some 12) rfl rfl Try.func65 tG rfl #[.pointer (some ⟨g397,0,none⟩),.int .i64 t398] rfl tC ?_;(with_reducible refine (spec_l1Bytes.calls k g397 t394 t399 t400 t398 t401 t404 t405 w _ ?side1 ?side2 A4.out).mono ?_);(case side1=>exact tg);(case side2=>exact tu);rintro e w16 ⟨v402,rfl,ho0,hi,hb,hk⟩;refine ⟨_,rfl,?_⟩;replace BK393:=aA.mk (KeepBut.blk hk (g':=gb393) (o:=.cells #[.slice none 0 0,.slice none 0 0,.int .i64 0,.bool false] 25 (0,0)) BK393.out NB393_397.out vN);have HO403:=aA.mk (Kd.R_lower (Kd.R_newM (M:=fun k_=>(w.heap.size ≤ k_)) ho0 (aX tT) (fun k_ h_=>h_)) (aX tT));replace HB:=aA.mk (hb);replace HI397:=aA.mk (hi);(try clear hb);(try clear hb2);(try clear hk);(try clear hi);(try clear ho0))|((with_reducible refine aW (f:=67) rfl ?_);refine bK (some 14) rfl rfl Try.func67 tG rfl #[.pointer (some ⟨g397,0,none⟩),.int .i64 10] rfl tC ?_;(with_reducible refine (spec_l1Once.calls g397 t394 t404 t405 10 true t407 t408 w _ ?side1 ?side2 A5.out).mono ?_);(case side1=>exact tg);(case side2=>exact tu);rintro e w17 ⟨rfl,hi,hb,hk⟩;refine ⟨_,rfl,?_⟩;replace BK393:=aA.mk (KeepBut.blk hk (g':=gb393) (o:=.cells #[.slice none 0 0,.slice none 0 0,.int .i64 0,.bool false] 25 (0,0)) BK393.out NB393_397.out vN);replace HO403:=aA.mk (Kd.R_mono (Kd.R_keep (IsS85.apart (show IsS85 w _ g397 t394 t404 t405 from by repeat (first|(with_reducible first|exact HI397.out|apply IsS85.alloc|apply IsS85.drewN|apply IsS85.drew|apply IsS85.set_1|apply IsS85.set_2|apply IsS85.far (hne:=NB397_393.out))|exact HI397.out)) HO403.out tf) hk (fun _ h=>h.2)) (fun _ h=>h.1));replace HB:=aA.mk (hb);replace HI397:=aA.mk (hi);(try clear hb);(try clear hb2);(try clear hk);(try clear hi))|((with_reducible refine aW (f:=66) rfl ?_);refine bK (some 16) rfl rfl Try.func66 tG rfl #[.pointer (some ⟨g397,0,none⟩),.int .i64 2] rfl tC ?_;(with_reducible refine (spec_l1Below.calls g397 t394 t407 t408 2 t409 t410 t411 w _ ?side1 ?side2 A7.out).mono ?_);(case side1=>exact tg);(case side2=>exact tu);rintro e w18 ⟨rfl,hi,hb,hk⟩;refine ⟨_,rfl,?_⟩;replace BK393:=aA.mk (KeepBut.blk hk (g':=gb393) (o:=.cells #[.slice none 0 0,.slice none 0 0,.int .i64 0,.bool false] 25 (0,0)) BK393.out NB393_397.out vN);replace HO403:=aA.mk (Kd.R_mono (Kd.R_keep (IsS85.apart (show IsS85 w _ g397 t394 t407 t408 from by repeat (first|(with_reducible first|exact HI397.out|apply IsS85.alloc|apply IsS85.drewN|apply IsS85.drew|apply IsS85.set_1|apply IsS85.set_2|apply IsS85.far (hne:=NB397_393.out))|exact HI397.out)) HO403.out tf) hk (fun _ h=>h.2)) (fun _ h=>h.1));replace HB:=aA.mk (hb);replace HI397:=aA.mk (hi);(try clear hb);(try clear hb2);(try clear hk);(try clear hi))|((with_reducible refine bC (N:=18) rfl ?_);refine Kd.R_make (Kd.int .u8) _ 5 rfl (N:=18) rfl 37 _ _ rfl ji8 rfl rfl Try.underlying37 (.int .u8 0) 1 info5 rfl tf tZ 0 (ok:=fun _=>True) (okp:=fun _=>True) rfl (fun _ hk=>hk) trivial (lE tx) (Nat.le_trans (Nat.mul_le_mul_right _ (lE tx:ji8.toNat ≤ 281474976710656)) tZ) (Below.refl _ _) (Nat.le_refl _) ?_;intro v413 w19 ho20 hb hg_ hnew_;clear hg_ hnew_;(first|rw [← Ny412.out] at ho20|(simp only [Int.reduceToNat] at ho20;rw [← Ny412.out] at ho20));have HO414:=aA.mk (Kd.R_lower (Kd.R_new' (Kd.R_newM (M:=fun k_=>(w.heap.size ≤ k_)) ho20 (aX tT) (fun k_ h_=>h_)) (Kd.R_lt HO403.out)) (aX tT));replace HO403:=aA.mk (Kd.R_elder' HO403.out (Kd.R_base ho20) hb);replace BK393:=aA.mk (bM (g:=gb393) (o:=.cells #[.slice none 0 0,.slice none 0 0,.int .i64 0,.bool false] 25 (0,0)) BK393.out hb);replace HB:=aA.mk (aT tT hb);replace HI397:=aA.mk (IsS85.below t7 hb);clear hb ho20)|((with_reducible refine aW (f:=63) rfl ?_);refine bK (some 20) rfl rfl Try.func63 tG rfl #[.pointer (some ⟨g397,0,none⟩)] rfl tC ?_;(with_reducible refine (spec_l2Any.calls k g397 t394 t410 t411 t415 t418 t421 t422 t423 t424 w _ ?side1 ?side2 A11.out).mono ?_);(case side1=>exact tg);(case side2=>exact tu);rintro e w21 ⟨v416,v419,rfl,ho0,ho1,hi,hb,hk⟩;refine ⟨_,rfl,?_⟩;have HO417:=aA.mk (Kd.N_lower (Kd.aV (ok':=fun k_=>(w.heap.size ≤ k_) ∧ some k_ ≠ (v419:Value).ownBlock ∧ some k_ ≠ (v402:Value).ownBlock ∧ some k_ ≠ (v413:Value).ownBlock ∧ k_ ≠ gb393 ∧ k_ ≠ g397) ho0 (fun k_ hk_=>⟨(Nat.le_trans (aX tT) hk_.1),hk_.2,(Kd.fresh' (Kd.R_lt HO403.out) k_ hk_.1),(Kd.fresh' (Kd.R_lt HO414.out) k_ hk_.1),(Kd.freshB (g:=gb393) (o:=.cells #[.slice none 0 0,.slice none 0 0,.int .i64 0,.bool false] 25 (0,0)) BK393.out k_ hk_.1),(IsS85.fresh t7 k_ hk_.1)⟩)) (aX tT));have HO420:=aA.mk (Kd.N_lower (Kd.aV (ok':=fun k_=>(w.heap.size ≤ k_) ∧ some k_ ≠ (v416:Value).ownBlock ∧ some k_ ≠ (v402:Value).ownBlock ∧ some k_ ≠ (v413:Value).ownBlock ∧ k_ ≠ gb393 ∧ k_ ≠ g397) ho1 (fun k_ hk_=>⟨(Nat.le_trans (aX tT) hk_.1),hk_.2,(Kd.fresh' (Kd.R_lt HO403.out) k_ hk_.1),(Kd.fresh' (Kd.R_lt HO414.out) k_ hk_.1),(Kd.freshB (g:=gb393) (o:=.cells #[.slice none 0 0,.slice none 0 0,.int .i64 0,.bool false] 25 (0,0)) BK393.out k_ hk_.1),(IsS85.fresh t7 k_ hk_.1)⟩)) (aX tT));replace BK393:=aA.mk (KeepBut.blk hk (g':=gb393) (o:=.cells #[.slice none 0 0,.slice none 0 0,.int .i64 0,.bool false] 25 (0,0)) BK393.out NB393_397.out vN);replace HO403:=aA.mk (Kd.R_mono (Kd.R_keep (IsS85.apart (show IsS85 w _ g397 t394 t410 t411 from by repeat (first|(with_reducible first|exact HI397.out|apply IsS85.alloc|apply IsS85.drewN|apply IsS85.drew|apply IsS85.set_1|apply IsS85.set_2|apply IsS85.far (hne:=NB397_393.out))|exact HI397.out)) HO403.out tf) hk (fun _ h=>h.2)) (fun _ h=>h.1));replace HO414:=aA.mk (Kd.R_mono (Kd.R_keep (IsS85.apart (show IsS85 w _ g397 t394 t410 t411 from by repeat (first|(with_reducible first|exact HI397.out|apply IsS85.alloc|apply IsS85.drewN|apply IsS85.drew|apply IsS85.set_1|apply IsS85.set_2|apply IsS85.far (hne:=NB397_393.out))|exact HI397.out)) HO414.out tf) hk (fun _ h=>h.2)) (fun _ h=>h.1));replace HB:=aA.mk (hb);replace HI397:=aA.mk (hi);(try clear hb);(try clear hb2);(try clear hk);(try clear hi);(try clear ho0);(try clear ho1))|((with_reducible refine bC (N:=22) rfl ?_);refine Kd.R_lit (Kd.int .i64) _ 3 ?hg (N:=22) ?hd (xs:=([0,0,1,2,(-1),60]:List Int)) (inner:=[.int .i64 0,.int .i64 0,.int .i64 1,.int .i64 2,.int .i64 (-1),.int .i64 60]) (ok:=fun _=>True) (okp:=fun _=>True) ?hr ?hp (fun _ hk=>hk) trivial (Below.refl _ _) (Nat.le_refl _) vN ?_;(case hd=>rfl);(case hg=>rfl);(case hr=>exact tE);(case hp=>exact vR);intro v426 w22 ho23 hb hg_ hnew_;clear hg_ hnew_;(first|rw [← Ny425.out] at ho23|(simp only [Int.reduceToNat] at ho23;rw [← Ny425.out] at ho23));replace HO403:=aA.mk (Kd.cA HO403.out hb);replace HO414:=aA.mk (Kd.cA HO414.out hb);replace HO417:=aA.mk (Kd.N_elder' HO417.out (Kd.R_base ho23) hb);replace HO420:=aA.mk (Kd.N_elder' HO420.out (Kd.R_base ho23) hb);have HO427:=aA.mk (Kd.R_lower (Kd.R_newM (M:=fun k_=>(w.heap.size ≤ k_)) ho23 (aX tT) (fun k_ h_=>h_)) (aX tT));replace BK393:=aA.mk (bM (g:=gb393) (o:=.cells #[.slice none 0 0,.slice none 0 0,.int .i64 0,.bool false] 25 (0,0)) BK393.out hb);replace HB:=aA.mk (aT tT hb);replace HI397:=aA.mk (IsS85.below t7 hb);clear hb ho23;obtain ⟨Ao24,co24,eo24⟩:=Kd.R_slice HO427.out;subst eo24)|((with_reducible refine aW (f:=64) rfl ?_);refine bK (some 23) rfl rfl Try.func64 tG rfl #[.pointer (some ⟨g397,0,none⟩),.slice Ao24 y425.length co24] rfl tC ?_;(with_reducible refine (spec_l1Int.calls g397 t394 t423 t424 _ _ y425 t428 t429 t430 w _ ?side1 ?side2 ?side3 ?side4 ?side5 A12.out).mono ?_);(case side1=>exact tg);(case side2=>exact tu);(case side3=>repeat (first|exact (Kd.R_reads' HO427.out).2.2|(with_reducible refine Kd.C_alloc ?_ _)|(with_reducible refine Kd.C_drewN ?_ _)|(with_reducible refine Kd.C_drew ?_)));(case side4=>exact (Kd.R_reads' HO427.out).2.1);(case side5=>exact far_slice (IsS85.own_ne HI397.out HO427.out tf));rintro e w25 ⟨rfl,hi,hb,hk⟩;refine ⟨_,rfl,?_⟩;replace BK393:=aA.mk (KeepBut.blk hk (g':=gb393) (o:=.cells #[.slice none 0 0,.slice none 0 0,.int .i64 0,.bool false] 25 (0,0)) BK393.out NB393_397.out vN);replace HO403:=aA.mk (Kd.R_mono (Kd.R_keep (IsS85.apart (show IsS85 w _ g397 t394 t423 t424 from by repeat (first|(with_reducible first|exact HI397.out|apply IsS85.alloc|apply IsS85.drewN|apply IsS85.drew|apply IsS85.set_1|apply IsS85.set_2|apply IsS85.far (hne:=NB397_393.out))|exact HI397.out)) HO403.out tf) hk (fun _ h=>h.2)) (fun _ h=>h.1));replace HO414:=aA.mk (Kd.R_mono (Kd.R_keep (IsS85.apart (show IsS85 w _ g397 t394 t423 t424 from by repeat (first|(with_reducible first|exact HI397.out|apply IsS85.alloc|apply IsS85.drewN|apply IsS85.drew|apply IsS85.set_1|apply IsS85.set_2|apply IsS85.far (hne:=NB397_393.out))|exact HI397.out)) HO414.out tf) hk (fun _ h=>h.2)) (fun _ h=>h.1));replace HO417:=aA.mk (Kd.aV (Kd.N_keep (Kd.aV (ok:=fun k_=>((((w.heap.size ≤ k_)) ∧ (some k_ ≠ (v419:Value).ownBlock ∧ (some k_ ≠ (v402:Value).ownBlock ∧ (some k_ ≠ (v413:Value).ownBlock ∧ (k_ ≠ gb393 ∧ k_ ≠ g397))))) ∧ some k_ ≠ (.slice Ao24 y425.length co24:Value).ownBlock)) HO417.out (fun k_ hk_=>(⟨hk_,hk_.1.2.2.2.2.2⟩:_ ∧ k_ ≠ g397))) hk (fun _ h=>h.2)) (fun _ h=>h.1));replace HO420:=aA.mk (Kd.aV (Kd.N_keep (Kd.aV (ok:=fun k_=>((((w.heap.size ≤ k_)) ∧ (some k_ ≠ (v416:Value).ownBlock ∧ (some k_ ≠ (v402:Value).ownBlock ∧ (some k_ ≠ (v413:Value).ownBlock ∧ (k_ ≠ gb393 ∧ k_ ≠ g397))))) ∧ some k_ ≠ (.slice Ao24 y425.length co24:Value).ownBlock)) HO420.out (fun k_ hk_=>(⟨hk_,hk_.1.2.2.2.2.2⟩:_ ∧ k_ ≠ g397))) hk (fun _ h=>h.2)) (fun _ h=>h.1));replace HO427:=aA.mk (Kd.R_mono (Kd.R_keep (IsS85.apart (show IsS85 w _ g397 t394 t423 t424 from by repeat (first|(with_reducible first|exact HI397.out|apply IsS85.alloc|apply IsS85.drewN|apply IsS85.drew|apply IsS85.set_1|apply IsS85.set_2|apply IsS85.far (hne:=NB397_393.out))|exact HI397.out)) HO427.out tf) hk (fun _ h=>h.2)) (fun _ h=>h.1));replace HB:=aA.mk (hb);replace HI397:=aA.mk (hi);(try clear hb);(try clear hb2);(try clear hk);(try clear hi);obtain ⟨Ao26,co26,eo26⟩:=Kd.cB HO417.out;subst eo26;have hnb27:=NB393_397.out;have hnc27:=NB397_393.out;obtain ⟨hcz28_0,hcz28_1,hcz28_2,hcz28_3⟩:=cs4 BK393.out;obtain ⟨hfz28_0,hfz28_1,hfz28_2,hfz28_3⟩:=fs4 BK393.out;obtain ⟨Ao29,co29,eo29⟩:=Kd.cB HO420.out;subst eo29))
    refine bodyPost_ret (results_ctt rfl _ _ gb393 25 #[.slice Ao26 t415.length co26,.slice Ao29 t418.length co29,.int .i64 t421,.bool t422] (0,0) _ rfl (by (with_reducible repeat (first|refine aM ?_ _|refine aN ?_|refine aG ?_ _));refine aQ (cs:=#[.slice Ao26 t415.length co26,.slice Ao29 t418.length co29,.int .i64 t421,.bool false]) ?_ 3 _ rfl;(with_reducible repeat (first|refine aM ?_ _|refine aN ?_|refine aG ?_ _));refine aQ (cs:=#[.slice Ao26 t415.length co26,.slice Ao29 t418.length co29,.int .i64 0,.bool false]) ?_ 2 _ rfl;(with_reducible repeat (first|refine aM ?_ _|refine aN ?_|refine aG ?_ _));refine aQ (cs:=#[.slice Ao26 t415.length co26,.slice none 0 0,.int .i64 0,.bool false]) ?_ 1 _ rfl;(with_reducible repeat (first|refine aM ?_ _|refine aN ?_|refine aG ?_ _));refine aQ (cs:=#[.slice none 0 0,.slice none 0 0,.int .i64 0,.bool false]) ?_ 0 _ rfl;(with_reducible repeat (first|refine aM ?_ _|refine aN ?_|refine aG ?_ _));exact BK393.out) Try.underlying25 rfl tG) rfl ?_
    exact ⟨_,_,_,by first|rfl|(simp [errW_none,errW_some] <;> rfl)|(simp only [← hji8];first|rfl|(simp [errW_none,errW_some] <;> rfl))|(simp [*,errW_none,errW_some] <;> rfl),by (with_reducible repeat (first|apply Kd.bW|apply Kd.bX|apply Kd.bV));exact Kd.aV (Kd.bH (p:=⟨gb393,3,none⟩) (Kd.bH (p:=⟨gb393,2,none⟩) (Kd.bH (p:=⟨gb393,1,none⟩) (Kd.bH (p:=⟨gb393,0,none⟩) (Kd.aV HO417.out (fun k_ hk=>(⟨hk,hk.1.2.2.2.2.1⟩:_ ∧ k_ ≠ gb393))) (fun _ hk=>hk.2) (.slice Ao26 t415.length co26)) (fun _ hk=>hk.2) (.slice Ao29 t418.length co29)) (fun _ hk=>hk.2) (.int .i64 t421)) (fun _ hk=>hk.2) (.bool t422)) (fun _ hk=>⟨hk.1.1.1,⟨hk.1.1.2.1,hk.1.1.2.2.2.1⟩⟩),by (with_reducible repeat (first|apply Kd.bW|apply Kd.bX|apply Kd.bV));exact Kd.aV (Kd.bH (p:=⟨gb393,3,none⟩) (Kd.bH (p:=⟨gb393,2,none⟩) (Kd.bH (p:=⟨gb393,1,none⟩) (Kd.bH (p:=⟨gb393,0,none⟩) (Kd.aV HO420.out (fun k_ hk=>(⟨hk,hk.1.2.2.2.2.1⟩:_ ∧ k_ ≠ gb393))) (fun _ hk=>hk.2) (.slice Ao26 t415.length co26)) (fun _ hk=>hk.2) (.slice Ao29 t418.length co29)) (fun _ hk=>hk.2) (.int .i64 t421)) (fun _ hk=>hk.2) (.bool t422)) (fun _ hk=>⟨hk.1.1.1,⟨hk.1.1.2.1,hk.1.1.2.2.2.1⟩⟩),by (with_reducible repeat (first|apply Kd.R_alloc|apply Kd.R_drewN|apply Kd.R_drew));exact Kd.R_mono (Kd.R_far (p:=⟨gb393,3,none⟩) (Kd.R_far (p:=⟨gb393,2,none⟩) (Kd.R_far (p:=⟨gb393,1,none⟩) (Kd.R_far (p:=⟨gb393,0,none⟩) (Kd.R_types HO414.out BK393.out tf) (fun _ hk=>hk.2) (.slice Ao26 t415.length co26)) (fun _ hk=>hk.2) (.slice Ao29 t418.length co29)) (fun _ hk=>hk.2) (.int .i64 t421)) (fun _ hk=>hk.2) (.bool t422)) (fun _ hk=>hk.1.1.1),by repeat (first|(with_reducible first|exact HB.out|apply aJ|apply aE|apply aH|refine aC ?_ (IsS85.ge HI397.out)|refine aC ?_ GE393.out)|exact HB.out)⟩
   ·rw [if_neg c10] at H
    exact wX
  ·rw [if_neg c9] at H
   exact wX
 ·replace c6:=Bool.eq_false_iff.mpr c6
  subst c6
  have H1:((spec_l2Any.f k t394 t407 t408).bind fun bt431=>((spec_l1Int.f t394 bt431.2.2.2.2.1 bt431.2.2.2.2.2 (([0,0,1,2,(-1),60]:List Int))).bind fun bt444=>(some (bt431.1,bt431.2.1,bt431.2.2.1,bt431.2.2.2.1,bt444.1,t401)))) = some (r1,r2,r3,r4,r5,r6):=by rw [if_neg (show ¬ (false = true) by decide)] at H;exact H
  clear H
  have H:=H1
  clear H1
  replace H:=lF H
  obtain ⟨⟨t431,t434,t437,t438,t439,t440⟩,A300,H⟩:=H
  replace H:((spec_l1Int.f t394 t439 t440 (([0,0,1,2,(-1),60]:List Int))).bind fun bt444=>(some (t431,t434,t437,t438,bt444.1,t401))) = some (r1,r2,r3,r4,r5,r6):=H
  have A30:=aA.mk A300
  clear A300
  obtain ⟨y441,hy441⟩:∃ y_:List Int,y_ = (([0,0,1,2,(-1),60]:List Int)):=⟨_,rfl⟩
  replace H:((spec_l1Int.f t394 t439 t440 y441).bind fun bt444=>(some (t431,t434,t437,t438,bt444.1,t401))) = some (r1,r2,r3,r4,r5,r6):=by first|(rw [hy441];with_reducible exact H)|(have H2_:=(Option.bind_some _ _).symm.trans H;rw [hy441];with_reducible exact H2_)|(have H2_:=(Option.bind_some _ _).symm.trans H;with_reducible exact H2_)|with_reducible exact H|(rw [hy441];exact H)|exact H
  have Ny441:=aA.mk hy441
  clear hy441
  replace H:=lF H
  obtain ⟨⟨t444,t445,t446⟩,A310,H⟩:=H
  replace H:(some (t431,t434,t437,t438,t444,t401)) = some (r1,r2,r3,r4,r5,r6):=H
  have A31:=aA.mk A310
  clear A310
  simp only [Option.some.injEq,Prod.mk.injEq] at H
  obtain ⟨rfl,rfl,rfl,rfl,rfl,rfl⟩:=H
  go_enter Try.func38,Try.ntmps38
  go_wp2_with (first|((with_reducible refine bC (N:=2) rfl ?_);refine bD ?hg (N:=2) ?hd (cs:=#[.slice none 0 0,.slice none 0 0,.int .i64 0,.bool false]) (t:=25) ?hr ?_;(case hd=>rfl);(case hg=>rfl);(case hr=>exact tE);intro gb393 hg w32 hbox hb;have BK393:=aA.mk (hbox);have GW393:=aA.mk ((by rw [hg];exact (aX HB.out):w.heap.size ≤ gb393));have GE393:=aA.mk ((by rw [hg];exact (aX HB.out):w.heap.size ≤ gb393));replace HB:=aA.mk (aT HB.out hb);clear hb hbox hg)|((with_reducible refine aW (f:=61) rfl ?_);refine bK (some 8) rfl rfl Try.func61 tG rfl #[.slice A0 l0.length c0] rfl tC ?_;(with_reducible refine (spec_l1New.calls k _ _ l0 t394 t395 t396 w _ ?side1 ?side2 ?side3 A2.out).mono ?_);(case side1=>repeat (first|(with_reducible first|exact HB.out|apply aJ|apply aE|apply aH|refine aC ?_ GE393.out)|exact HB.out));(case side2=>exact HR0.out);(case side3=>exact HC0.out);rintro e w33 ⟨g397,rfl,hi,hb,hb2⟩;refine ⟨_,rfl,?_⟩;replace HB:=aA.mk (hb);have HI397:=aA.mk (hi);have NB397_393:=aA.mk (IsS85.ne_blk hi (bM (g:=gb393) (o:=.cells #[.slice none 0 0,.slice none 0 0,.int .i64 0,.bool false] 25 (0,0)) BK393.out hb2) tf);have NB393_397:=aA.mk (Ne.symm (IsS85.ne_blk hi (bM (g:=gb393) (o:=.cells #[.slice none 0 0,.slice none 0 0,.int .i64 0,.bool false] 25 (0,0)) BK393.out hb2) tf));replace BK393:=aA.mk (bM (g:=gb393) (o:=.cells #[.slice none 0 0,.slice none 0 0,.int .i64 0,.bool false] 25 (0,0)) BK393.out hb2);(try clear hb);(try clear hb2);(try clear hk);(try clear hi))|((with_reducible refine aW (f:=66) rfl ?_);refine bK (some 11) rfl rfl Try.func66 tG rfl #[.pointer (some ⟨g397,0,none⟩),.int .i64 5] rfl tC ?_;(with_reducible refine (spec_l1Below.calls g397 t394 t395 t396 5 t398 t399 t400 w _ ?side1 ?side2 A3.out).mono ?_);(case side1=>exact tg);(case side2=>exact tu);rintro e w34 ⟨rfl,hi,hb,hk⟩;refine ⟨_,rfl,?_⟩;replace BK393:=aA.mk (KeepBut.blk hk (g':=gb393) (o:=.cells #[.slice none 0 0,.slice none 0 0,.int .i64 0,.bool false] 25 (0,0)) BK393.out NB393_397.out vN);replace HB:=aA.mk (hb);replace HI397:=aA.mk (hi);(try clear hb);(try clear hb2);(try clear hk);(try clear hi))|((with_reducible refine aW (f:=65) rfl ?_);refine bK (some 12) rfl rfl Try.func65 tG rfl #[.pointer (some ⟨g397,0,none⟩),.int .i64 t398] rfl tC ?_;(with_reducible refine (spec_l1Bytes.calls k g397 t394 t399 t400 t398 t401 t404 t405 w _ ?side1 ?side2 A4.out).mono ?_);(case side1=>exact tg);(case side2=>exact tu);rintro e w35 ⟨v402,rfl,ho0,hi,hb,hk⟩;refine ⟨_,rfl,?_⟩;replace BK393:=aA.mk (KeepBut.blk hk (g':=gb393) (o:=.cells #[.slice none 0 0,.slice none 0 0,.int .i64 0,.bool false] 25 (0,0)) BK393.out NB393_397.out vN);have HO403:=aA.mk (Kd.R_lower (Kd.R_newM (M:=fun k_=>(w.heap.size ≤ k_)) ho0 (aX tT) (fun k_ h_=>h_)) (aX tT));replace HB:=aA.mk (hb);replace HI397:=aA.mk (hi);(try clear hb);(try clear hb2);(try clear hk);(try clear hi);(try clear ho0))|((with_reducible refine aW (f:=67) rfl ?_);refine bK (some 14) rfl rfl Try.func67 tG rfl #[.pointer (some ⟨g397,0,none⟩),.int .i64 10] rfl tC ?_;(with_reducible refine (spec_l1Once.calls g397 t394 t404 t405 10 false t407 t408 w _ ?side1 ?side2 A5.out).mono ?_);(case side1=>exact tg);(case side2=>exact tu);rintro e w36 ⟨rfl,hi,hb,hk⟩;refine ⟨_,rfl,?_⟩;replace BK393:=aA.mk (KeepBut.blk hk (g':=gb393) (o:=.cells #[.slice none 0 0,.slice none 0 0,.int .i64 0,.bool false] 25 (0,0)) BK393.out NB393_397.out vN);replace HO403:=aA.mk (Kd.R_mono (Kd.R_keep (IsS85.apart (show IsS85 w _ g397 t394 t404 t405 from by repeat (first|(with_reducible first|exact HI397.out|apply IsS85.alloc|apply IsS85.drewN|apply IsS85.drew|apply IsS85.set_1|apply IsS85.set_2|apply IsS85.far (hne:=NB397_393.out))|exact HI397.out)) HO403.out tf) hk (fun _ h=>h.2)) (fun _ h=>h.1));replace HB:=aA.mk (hb);replace HI397:=aA.mk (hi);(try clear hb);(try clear hb2);(try clear hk);(try clear hi))|((with_reducible refine aW (f:=63) rfl ?_);refine bK (some 20) rfl rfl Try.func63 tG rfl #[.pointer (some ⟨g397,0,none⟩)] rfl tC ?_;(with_reducible refine (spec_l2Any.calls k g397 t394 t407 t408 t431 t434 t437 t438 t439 t440 w _ ?side1 ?side2 A30.out).mono ?_);(case side1=>exact tg);(case side2=>exact tu);rintro e w37 ⟨v432,v435,rfl,ho0,ho1,hi,hb,hk⟩;refine ⟨_,rfl,?_⟩;have HO433:=aA.mk (Kd.N_lower (Kd.aV (ok':=fun k_=>(w.heap.size ≤ k_) ∧ some k_ ≠ (v435:Value).ownBlock ∧ some k_ ≠ (v402:Value).ownBlock ∧ k_ ≠ gb393 ∧ k_ ≠ g397) ho0 (fun k_ hk_=>⟨(Nat.le_trans (aX tT) hk_.1),hk_.2,(Kd.fresh' (Kd.R_lt HO403.out) k_ hk_.1),(Kd.freshB (g:=gb393) (o:=.cells #[.slice none 0 0,.slice none 0 0,.int .i64 0,.bool false] 25 (0,0)) BK393.out k_ hk_.1),(IsS85.fresh t7 k_ hk_.1)⟩)) (aX tT));have HO436:=aA.mk (Kd.N_lower (Kd.aV (ok':=fun k_=>(w.heap.size ≤ k_) ∧ some k_ ≠ (v432:Value).ownBlock ∧ some k_ ≠ (v402:Value).ownBlock ∧ k_ ≠ gb393 ∧ k_ ≠ g397) ho1 (fun k_ hk_=>⟨(Nat.le_trans (aX tT) hk_.1),hk_.2,(Kd.fresh' (Kd.R_lt HO403.out) k_ hk_.1),(Kd.freshB (g:=gb393) (o:=.cells #[.slice none 0 0,.slice none 0 0,.int .i64 0,.bool false] 25 (0,0)) BK393.out k_ hk_.1),(IsS85.fresh t7 k_ hk_.1)⟩)) (aX tT));replace BK393:=aA.mk (KeepBut.blk hk (g':=gb393) (o:=.cells #[.slice none 0 0,.slice none 0 0,.int .i64 0,.bool false] 25 (0,0)) BK393.out NB393_397.out vN);replace HO403:=aA.mk (Kd.R_mono (Kd.R_keep (IsS85.apart (show IsS85 w _ g397 t394 t407 t408 from by repeat (first|(with_reducible first|exact HI397.out|apply IsS85.alloc|apply IsS85.drewN|apply IsS85.drew|apply IsS85.set_1|apply IsS85.set_2|apply IsS85.far (hne:=NB397_393.out))|exact HI397.out)) HO403.out tf) hk (fun _ h=>h.2)) (fun _ h=>h.1));replace HB:=aA.mk (hb);replace HI397:=aA.mk (hi);(try clear hb);(try clear hb2);(try clear hk);(try clear hi);(try clear ho0);(try clear ho1))|((with_reducible refine bC (N:=22) rfl ?_);refine Kd.R_lit (Kd.int .i64) _ 3 ?hg (N:=22) ?hd (xs:=([0,0,1,2,(-1),60]:List Int)) (inner:=[.int .i64 0,.int .i64 0,.int .i64 1,.int .i64 2,.int .i64 (-1),.int .i64 60]) (ok:=fun _=>True) (okp:=fun _=>True) ?hr ?hp (fun _ hk=>hk) trivial (Below.refl _ _) (Nat.le_refl _) vN ?_;(case hd=>rfl);(case hg=>rfl);(case hr=>exact tE);(case hp=>exact vR);intro v442 w38 ho39 hb hg_ hnew_;clear hg_ hnew_;(first|rw [← Ny441.out] at ho39|(simp only [Int.reduceToNat] at ho39;rw [← Ny441.out] at ho39));replace HO403:=aA.mk (Kd.cA HO403.out hb);replace HO433:=aA.mk (Kd.N_elder' HO433.out (Kd.R_base ho39) hb);replace HO436:=aA.mk (Kd.N_elder' HO436.out (Kd.R_base ho39) hb);have HO443:=aA.mk (Kd.R_lower (Kd.R_newM (M:=fun k_=>(w.heap.size ≤ k_)) ho39 (aX tT) (fun k_ h_=>h_)) (aX tT));replace BK393:=aA.mk (bM (g:=gb393) (o:=.cells #[.slice none 0 0,.slice none 0 0,.int .i64 0,.bool false] 25 (0,0)) BK393.out hb);replace HB:=aA.mk (aT tT hb);replace HI397:=aA.mk (IsS85.below t7 hb);clear hb ho39;obtain ⟨Ao40,co40,eo40⟩:=Kd.R_slice HO443.out;subst eo40)|((with_reducible refine aW (f:=64) rfl ?_);refine bK (some 23) rfl rfl Try.func64 tG rfl #[.pointer (some ⟨g397,0,none⟩),.slice Ao40 y441.length co40] rfl tC ?_;(with_reducible refine (spec_l1Int.calls g397 t394 t439 t440 _ _ y441 t444 t445 t446 w _ ?side1 ?side2 ?side3 ?side4 ?side5 A31.out).mono ?_);(case side1=>exact tg);(case side2=>exact tu);(case side3=>repeat (first|exact (Kd.R_reads' HO443.out).2.2|(with_reducible refine Kd.C_alloc ?_ _)|(with_reducible refine Kd.C_drewN ?_ _)|(with_reducible refine Kd.C_drew ?_)));(case side4=>exact (Kd.R_reads' HO443.out).2.1);(case side5=>exact far_slice (IsS85.own_ne HI397.out HO443.out tf));rintro e w41 ⟨rfl,hi,hb,hk⟩;refine ⟨_,rfl,?_⟩;replace BK393:=aA.mk (KeepBut.blk hk (g':=gb393) (o:=.cells #[.slice none 0 0,.slice none 0 0,.int .i64 0,.bool false] 25 (0,0)) BK393.out NB393_397.out vN);replace HO403:=aA.mk (Kd.R_mono (Kd.R_keep (IsS85.apart (show IsS85 w _ g397 t394 t439 t440 from by repeat (first|(with_reducible first|exact HI397.out|apply IsS85.alloc|apply IsS85.drewN|apply IsS85.drew|apply IsS85.set_1|apply IsS85.set_2|apply IsS85.far (hne:=NB397_393.out))|exact HI397.out)) HO403.out tf) hk (fun _ h=>h.2)) (fun _ h=>h.1));replace HO433:=aA.mk (Kd.aV (Kd.N_keep (Kd.aV (ok:=fun k_=>((((w.heap.size ≤ k_)) ∧ (some k_ ≠ (v435:Value).ownBlock ∧ (some k_ ≠ (v402:Value).ownBlock ∧ (k_ ≠ gb393 ∧ k_ ≠ g397)))) ∧ some k_ ≠ (.slice Ao40 y441.length co40:Value).ownBlock)) HO433.out (fun k_ hk_=>(⟨hk_,hk_.1.2.2.2.2⟩:_ ∧ k_ ≠ g397))) hk (fun _ h=>h.2)) (fun _ h=>h.1));replace HO436:=aA.mk (Kd.aV (Kd.N_keep (Kd.aV (ok:=fun k_=>((((w.heap.size ≤ k_)) ∧ (some k_ ≠ (v432:Value).ownBlock ∧ (some k_ ≠ (v402:Value).ownBlock ∧ (k_ ≠ gb393 ∧ k_ ≠ g397)))) ∧ some k_ ≠ (.slice Ao40 y441.length co40:Value).ownBlock)) HO436.out (fun k_ hk_=>(⟨hk_,hk_.1.2.2.2.2⟩:_ ∧ k_ ≠ g397))) hk (fun _ h=>h.2)) (fun _ h=>h.1));replace HO443:=aA.mk (Kd.R_mono (Kd.R_keep (IsS85.apart (show IsS85 w _ g397 t394 t439 t440 from by repeat (first|(with_reducible first|exact HI397.out|apply IsS85.alloc|apply IsS85.drewN|apply IsS85.drew|apply IsS85.set_1|apply IsS85.set_2|apply IsS85.far (hne:=NB397_393.out))|exact HI397.out)) HO443.out tf) hk (fun _ h=>h.2)) (fun _ h=>h.1));replace HB:=aA.mk (hb);replace HI397:=aA.mk (hi);(try clear hb);(try clear hb2);(try clear hk);(try clear hi);obtain ⟨Ao42,co42,eo42⟩:=Kd.cB HO433.out;subst eo42;have hnb43:=NB393_397.out;have hnc43:=NB397_393.out;obtain ⟨hcz44_0,hcz44_1,hcz44_2,hcz44_3⟩:=cs4 BK393.out;obtain ⟨hfz44_0,hfz44_1,hfz44_2,hfz44_3⟩:=fs4 BK393.out;obtain ⟨Ao45,co45,eo45⟩:=Kd.cB HO436.out;subst eo45))
  refine bodyPost_ret (results_ctt rfl _ _ gb393 25 #[.slice Ao42 t431.length co42,.slice Ao45 t434.length co45,.int .i64 t437,.bool t438] (0,0) _ rfl (by (with_reducible repeat (first|refine aM ?_ _|refine aN ?_|refine aG ?_ _));refine aQ (cs:=#[.slice Ao42 t431.length co42,.slice Ao45 t434.length co45,.int .i64 t437,.bool false]) ?_ 3 _ rfl;(with_reducible repeat (first|refine aM ?_ _|refine aN ?_|refine aG ?_ _));refine aQ (cs:=#[.slice Ao42 t431.length co42,.slice Ao45 t434.length co45,.int .i64 0,.bool false]) ?_ 2 _ rfl;(with_reducible repeat (first|refine aM ?_ _|refine aN ?_|refine aG ?_ _));refine aQ (cs:=#[.slice Ao42 t431.length co42,.slice none 0 0,.int .i64 0,.bool false]) ?_ 1 _ rfl;(with_reducible repeat (first|refine aM ?_ _|refine aN ?_|refine aG ?_ _));refine aQ (cs:=#[.slice none 0 0,.slice none 0 0,.int .i64 0,.bool false]) ?_ 0 _ rfl;(with_reducible repeat (first|refine aM ?_ _|refine aN ?_|refine aG ?_ _));exact BK393.out) Try.underlying25 rfl tG) rfl ?_
  exact ⟨_,_,_,tN,by (with_reducible repeat (first|apply Kd.bW|apply Kd.bX|apply Kd.bV));exact Kd.aV (Kd.bH (p:=⟨gb393,3,none⟩) (Kd.bH (p:=⟨gb393,2,none⟩) (Kd.bH (p:=⟨gb393,1,none⟩) (Kd.bH (p:=⟨gb393,0,none⟩) (Kd.aV HO433.out (fun k_ hk=>(⟨hk,hk.1.2.2.2.1⟩:_ ∧ k_ ≠ gb393))) (fun _ hk=>hk.2) (.slice Ao42 t431.length co42)) (fun _ hk=>hk.2) (.slice Ao45 t434.length co45)) (fun _ hk=>hk.2) (.int .i64 t437)) (fun _ hk=>hk.2) (.bool t438)) (fun _ hk=>⟨hk.1.1.1,⟨hk.1.1.2.1,hk.1.1.2.2.1⟩⟩),by (with_reducible repeat (first|apply Kd.bW|apply Kd.bX|apply Kd.bV));exact Kd.aV (Kd.bH (p:=⟨gb393,3,none⟩) (Kd.bH (p:=⟨gb393,2,none⟩) (Kd.bH (p:=⟨gb393,1,none⟩) (Kd.bH (p:=⟨gb393,0,none⟩) (Kd.aV HO436.out (fun k_ hk=>(⟨hk,hk.1.2.2.2.1⟩:_ ∧ k_ ≠ gb393))) (fun _ hk=>hk.2) (.slice Ao42 t431.length co42)) (fun _ hk=>hk.2) (.slice Ao45 t434.length co45)) (fun _ hk=>hk.2) (.int .i64 t437)) (fun _ hk=>hk.2) (.bool t438)) (fun _ hk=>⟨hk.1.1.1,⟨hk.1.1.2.1,hk.1.1.2.2.1⟩⟩),by (with_reducible repeat (first|apply Kd.R_alloc|apply Kd.R_drewN|apply Kd.R_drew));exact Kd.R_mono (Kd.R_far (p:=⟨gb393,3,none⟩) (Kd.R_far (p:=⟨gb393,2,none⟩) (Kd.R_far (p:=⟨gb393,1,none⟩) (Kd.R_far (p:=⟨gb393,0,none⟩) (Kd.R_types HO403.out BK393.out tf) (fun _ hk=>hk.2) (.slice Ao42 t431.length co42)) (fun _ hk=>hk.2) (.slice Ao45 t434.length co45)) (fun _ hk=>hk.2) (.int .i64 t437)) (fun _ hk=>hk.2) (.bool t438)) (fun _ hk=>hk.1.1),by repeat (first|(with_reducible first|exact HB.out|apply aJ|apply aE|apply aH|refine aC ?_ (IsS85.ge HI397.out)|refine aC ?_ GE393.out)|exact HB.out)⟩
def spec_DrawFlushDev.f (k:Nat) (l0:List Int):Option ((List (List Int)) × (List (S50)) × Int × Bool):=(spec_l1New.f k l0).bind fun bt448=>((spec_l2Any.f k bt448.1 bt448.2.1 bt448.2.2).bind fun bt452=>(some (bt452.1,bt452.2.1,bt452.2.2.1,bt452.2.2.2.1)))
set_option maxHeartbeats 8000000 in
set_option maxRecDepth 100000 in
theorem spec_DrawFlushDev.calls (k:Nat) (A0:Option Addr) (c0:Nat) (l0:List Int) (r1:List (List Int)) (r2:List (S50)) (r3:Int) (r4:Bool) (w:World) (hr0:Kd.C (Kd.int .u8) w A0 l0.length l0) (hc0:l0.length ≤ c0) (h:spec_DrawFlushDev.f k l0 = some (r1,r2,r3,r4)) :
  Calls Try.prog 39 #[.slice A0 l0.length c0] w fun e w'=>∃ v0_ v1_:Value,e = .returned (.agg #[v0_,v1_,.int .i64 r3,.bool r4]) ∧ Kd.N (Kd.slice 5 (Kd.int .u8)) 37 w' w.heap.size (fun k_=>(w.heap.size ≤ k_) ∧ some k_ ≠ (v1_:Value).ownBlock) v0_ r1 ∧ Kd.N k50 50 w' w.heap.size (fun k_=>(w.heap.size ≤ k_) ∧ some k_ ≠ (v0_:Value).ownBlock) v1_ r2 ∧ Below w.heap.size w w':=by
 have hu25:=Try.underlying25
 have HR0:=aA.mk hr0
 have HC0:=aA.mk hc0
 clear hr0 hc0
 have HB:=aA.mk (Below.refl w.heap.size w)
 have H:((spec_l1New.f k l0).bind fun bt448=>((spec_l2Any.f k bt448.1 bt448.2.1 bt448.2.2).bind fun bt452=>(some (bt452.1,bt452.2.1,bt452.2.2.1,bt452.2.2.2.1)))) = some (r1,r2,r3,r4):=h
 clear h
 replace H:=lF H
 obtain ⟨⟨t448,t449,t450⟩,A20,H⟩:=H
 replace H:((spec_l2Any.f k t448 t449 t450).bind fun bt452=>(some (bt452.1,bt452.2.1,bt452.2.2.1,bt452.2.2.2.1))) = some (r1,r2,r3,r4):=H
 have A2:=aA.mk A20
 clear A20
 replace H:=lF H
 obtain ⟨⟨t452,t455,t458,t459,t460,t461⟩,A30,H⟩:=H
 replace H:(some (t452,t455,t458,t459)) = some (r1,r2,r3,r4):=H
 have A3:=aA.mk A30
 clear A30
 simp only [Option.some.injEq,Prod.mk.injEq] at H
 obtain ⟨rfl,rfl,rfl,rfl⟩:=H
 go_enter Try.func39,Try.ntmps39
 go_wp2_with (first|((with_reducible refine bC (N:=2) rfl ?_);refine bD ?hg (N:=2) ?hd (cs:=#[.slice none 0 0,.slice none 0 0,.int .i64 0,.bool false]) (t:=25) ?hr ?_;(case hd=>rfl);(case hg=>rfl);(case hr=>exact tE);intro gb447 hg w4 hbox hb;have BK447:=aA.mk (hbox);have GW447:=aA.mk ((by rw [hg];exact (aX HB.out):w.heap.size ≤ gb447));have GE447:=aA.mk ((by rw [hg];exact (aX HB.out):w.heap.size ≤ gb447));replace HB:=aA.mk (aT HB.out hb);clear hb hbox hg)|((with_reducible refine aW (f:=61) rfl ?_);refine bK (some 5) rfl rfl Try.func61 tG rfl #[.slice A0 l0.length c0] rfl tC ?_;(with_reducible refine (spec_l1New.calls k _ _ l0 t448 t449 t450 w _ ?side1 ?side2 ?side3 A2.out).mono ?_);(case side1=>repeat (first|(with_reducible first|exact HB.out|apply aJ|apply aE|apply aH|refine aC ?_ GE447.out)|exact HB.out));(case side2=>exact HR0.out);(case side3=>exact HC0.out);rintro e w5 ⟨g451,rfl,hi,hb,hb2⟩;refine ⟨_,rfl,?_⟩;replace HB:=aA.mk (hb);have HI451:=aA.mk (hi);have NB451_447:=aA.mk (IsS85.ne_blk hi (bM (g:=gb447) (o:=.cells #[.slice none 0 0,.slice none 0 0,.int .i64 0,.bool false] 25 (0,0)) BK447.out hb2) tf);have NB447_451:=aA.mk (Ne.symm (IsS85.ne_blk hi (bM (g:=gb447) (o:=.cells #[.slice none 0 0,.slice none 0 0,.int .i64 0,.bool false] 25 (0,0)) BK447.out hb2) tf));replace BK447:=aA.mk (bM (g:=gb447) (o:=.cells #[.slice none 0 0,.slice none 0 0,.int .i64 0,.bool false] 25 (0,0)) BK447.out hb2);(try clear hb);(try clear hb2);(try clear hk);(try clear hi))|((with_reducible refine aW (f:=63) rfl ?_);refine bK (some 7) rfl rfl Try.func63 tG rfl #[.pointer (some ⟨g451,0,none⟩)] rfl tC ?_;(with_reducible refine (spec_l2Any.calls k g451 t448 t449 t450 t452 t455 t458 t459 t460 t461 w _ ?side1 ?side2 A3.out).mono ?_);(case side1=>repeat (first|(with_reducible first|exact HI451.out|apply IsS85.alloc|apply IsS85.drewN|apply IsS85.drew|apply IsS85.set_1|apply IsS85.set_2|apply IsS85.far (hne:=NB451_447.out))|exact HI451.out));(case side2=>repeat (first|(with_reducible first|exact HB.out|apply aJ|apply aE|apply aH|refine aC ?_ (IsS85.ge HI451.out)|refine aC ?_ GE447.out)|exact HB.out));rintro e w6 ⟨v453,v456,rfl,ho0,ho1,hi,hb,hk⟩;refine ⟨_,rfl,?_⟩;have HO454:=aA.mk (Kd.N_lower (Kd.aV (ok':=fun k_=>(w.heap.size ≤ k_) ∧ some k_ ≠ (v456:Value).ownBlock ∧ k_ ≠ gb447 ∧ k_ ≠ g451) ho0 (fun k_ hk_=>⟨(Nat.le_trans (aX wB) hk_.1),hk_.2,(Kd.freshB (g:=gb447) (o:=.cells #[.slice none 0 0,.slice none 0 0,.int .i64 0,.bool false] 25 (0,0)) BK447.out k_ hk_.1),(IsS85.fresh AM k_ hk_.1)⟩)) (aX wB));have HO457:=aA.mk (Kd.N_lower (Kd.aV (ok':=fun k_=>(w.heap.size ≤ k_) ∧ some k_ ≠ (v453:Value).ownBlock ∧ k_ ≠ gb447 ∧ k_ ≠ g451) ho1 (fun k_ hk_=>⟨(Nat.le_trans (aX wB) hk_.1),hk_.2,(Kd.freshB (g:=gb447) (o:=.cells #[.slice none 0 0,.slice none 0 0,.int .i64 0,.bool false] 25 (0,0)) BK447.out k_ hk_.1),(IsS85.fresh AM k_ hk_.1)⟩)) (aX wB));replace BK447:=aA.mk (KeepBut.blk hk (g':=gb447) (o:=.cells #[.slice none 0 0,.slice none 0 0,.int .i64 0,.bool false] 25 (0,0)) BK447.out NB447_451.out vN);replace HB:=aA.mk (hb);replace HI451:=aA.mk (hi);(try clear hb);(try clear hb2);(try clear hk);(try clear hi);(try clear ho0);(try clear ho1);obtain ⟨Ao7,co7,eo7⟩:=Kd.cB HO454.out;subst eo7;have hnb8:=NB447_451.out;have hnc8:=NB451_447.out;obtain ⟨hcz9_0,hcz9_1,hcz9_2,hcz9_3⟩:=cs4 BK447.out;obtain ⟨hfz9_0,hfz9_1,hfz9_2,hfz9_3⟩:=fs4 BK447.out;obtain ⟨Ao10,co10,eo10⟩:=Kd.cB HO457.out;subst eo10))
 refine bodyPost_ret (results_cell_row rfl _ _ gb447 25 #[.slice Ao7 t452.length co7,.slice Ao10 t455.length co10,.int .i64 t458,.bool t459] (0,0) _ rfl (by (with_reducible repeat (first|refine aM ?_ _|refine aN ?_|refine aG ?_ _));refine aQ (cs:=#[.slice Ao7 t452.length co7,.slice Ao10 t455.length co10,.int .i64 t458,.bool false]) ?_ 3 _ rfl;(with_reducible repeat (first|refine aM ?_ _|refine aN ?_|refine aG ?_ _));refine aQ (cs:=#[.slice Ao7 t452.length co7,.slice Ao10 t455.length co10,.int .i64 0,.bool false]) ?_ 2 _ rfl;(with_reducible repeat (first|refine aM ?_ _|refine aN ?_|refine aG ?_ _));refine aQ (cs:=#[.slice Ao7 t452.length co7,.slice none 0 0,.int .i64 0,.bool false]) ?_ 1 _ rfl;(with_reducible repeat (first|refine aM ?_ _|refine aN ?_|refine aG ?_ _));refine aQ (cs:=#[.slice none 0 0,.slice none 0 0,.int .i64 0,.bool false]) ?_ 0 _ rfl;(with_reducible repeat (first|refine aM ?_ _|refine aN ?_|refine aG ?_ _));exact BK447.out) Try.underlying25 rfl tG) rfl ?_
 exact ⟨_,_,tN,by (with_reducible repeat (first|apply Kd.bW|apply Kd.bX|apply Kd.bV));exact Kd.aV (Kd.bH (p:=⟨gb447,3,none⟩) (Kd.bH (p:=⟨gb447,2,none⟩) (Kd.bH (p:=⟨gb447,1,none⟩) (Kd.bH (p:=⟨gb447,0,none⟩) (Kd.aV HO454.out (fun k_ hk=>(⟨hk,hk.2.2.1⟩:_ ∧ k_ ≠ gb447))) (fun _ hk=>hk.2) (.slice Ao7 t452.length co7)) (fun _ hk=>hk.2) (.slice Ao10 t455.length co10)) (fun _ hk=>hk.2) (.int .i64 t458)) (fun _ hk=>hk.2) (.bool t459)) (fun _ hk=>⟨hk.1.1,hk.1.2.1⟩),by (with_reducible repeat (first|apply Kd.bW|apply Kd.bX|apply Kd.bV));exact Kd.aV (Kd.bH (p:=⟨gb447,3,none⟩) (Kd.bH (p:=⟨gb447,2,none⟩) (Kd.bH (p:=⟨gb447,1,none⟩) (Kd.bH (p:=⟨gb447,0,none⟩) (Kd.aV HO457.out (fun k_ hk=>(⟨hk,hk.2.2.1⟩:_ ∧ k_ ≠ gb447))) (fun _ hk=>hk.2) (.slice Ao7 t452.length co7)) (fun _ hk=>hk.2) (.slice Ao10 t455.length co10)) (fun _ hk=>hk.2) (.int .i64 t458)) (fun _ hk=>hk.2) (.bool t459)) (fun _ hk=>⟨hk.1.1,hk.1.2.1⟩),by repeat (first|(with_reducible first|exact HB.out|apply aJ|apply aE|apply aH|refine aC ?_ (IsS85.ge HI451.out)|refine aC ?_ GE447.out)|exact HB.out)⟩
def spec_DrawFallDev.f (k:Nat) (l0:List Int):Option ((List (List Int)) × (List (S50)) × Int × Bool × Int):=(spec_l1New.f k l0).bind fun bt463=>((spec_l2Any.f k bt463.1 bt463.2.1 bt463.2.2).bind fun bt467=>((spec_l1Int.f bt463.1 bt467.2.2.2.2.1 bt467.2.2.2.2.2 (([0,1,2,3,5,10,1073741823,(-1),1073741824]:List Int))).bind fun bt480=>(some (bt467.1,bt467.2.1,bt467.2.2.1,bt467.2.2.2.1,bt480.1))))
set_option maxHeartbeats 8000000 in
set_option maxRecDepth 100000 in
theorem spec_DrawFallDev.calls (k:Nat) (A0:Option Addr) (c0:Nat) (l0:List Int) (r1:List (List Int)) (r2:List (S50)) (r3:Int) (r4:Bool) (r5:Int) (w:World) (hr0:Kd.C (Kd.int .u8) w A0 l0.length l0) (hc0:l0.length ≤ c0) (h:spec_DrawFallDev.f k l0 = some (r1,r2,r3,r4,r5)) :
  Calls Try.prog 40 #[.slice A0 l0.length c0] w fun e w'=>∃ v0_ v1_:Value,e = .returned (.tuple #[.agg #[v0_,v1_,.int .i64 r3,.bool r4],.int .i64 r5]) ∧ Kd.N (Kd.slice 5 (Kd.int .u8)) 37 w' w.heap.size (fun k_=>(w.heap.size ≤ k_) ∧ some k_ ≠ (v1_:Value).ownBlock) v0_ r1 ∧ Kd.N k50 50 w' w.heap.size (fun k_=>(w.heap.size ≤ k_) ∧ some k_ ≠ (v0_:Value).ownBlock) v1_ r2 ∧ Below w.heap.size w w':=by
 have hu25:=Try.underlying25
 have HR0:=aA.mk hr0
 have HC0:=aA.mk hc0
 clear hr0 hc0
 have HB:=aA.mk (Below.refl w.heap.size w)
 have H:((spec_l1New.f k l0).bind fun bt463=>((spec_l2Any.f k bt463.1 bt463.2.1 bt463.2.2).bind fun bt467=>((spec_l1Int.f bt463.1 bt467.2.2.2.2.1 bt467.2.2.2.2.2 (([0,1,2,3,5,10,1073741823,(-1),1073741824]:List Int))).bind fun bt480=>(some (bt467.1,bt467.2.1,bt467.2.2.1,bt467.2.2.2.1,bt480.1))))) = some (r1,r2,r3,r4,r5):=h
 clear h
 replace H:=lF H
 obtain ⟨⟨t463,t464,t465⟩,A20,H⟩:=H
 replace H:((spec_l2Any.f k t463 t464 t465).bind fun bt467=>((spec_l1Int.f t463 bt467.2.2.2.2.1 bt467.2.2.2.2.2 (([0,1,2,3,5,10,1073741823,(-1),1073741824]:List Int))).bind fun bt480=>(some (bt467.1,bt467.2.1,bt467.2.2.1,bt467.2.2.2.1,bt480.1)))) = some (r1,r2,r3,r4,r5):=H
 have A2:=aA.mk A20
 clear A20
 replace H:=lF H
 obtain ⟨⟨t467,t470,t473,t474,t475,t476⟩,A30,H⟩:=H
 replace H:((spec_l1Int.f t463 t475 t476 (([0,1,2,3,5,10,1073741823,(-1),1073741824]:List Int))).bind fun bt480=>(some (t467,t470,t473,t474,bt480.1))) = some (r1,r2,r3,r4,r5):=H
 have A3:=aA.mk A30
 clear A30
 obtain ⟨y477,hy477⟩:∃ y_:List Int,y_ = (([0,1,2,3,5,10,1073741823,(-1),1073741824]:List Int)):=⟨_,rfl⟩
 replace H:((spec_l1Int.f t463 t475 t476 y477).bind fun bt480=>(some (t467,t470,t473,t474,bt480.1))) = some (r1,r2,r3,r4,r5):=by first|(rw [hy477];with_reducible exact H)|(have H2_:=(Option.bind_some _ _).symm.trans H;rw [hy477];with_reducible exact H2_)|(have H2_:=(Option.bind_some _ _).symm.trans H;with_reducible exact H2_)|with_reducible exact H|(rw [hy477];exact H)|exact H
 have Ny477:=aA.mk hy477
 clear hy477
 replace H:=lF H
 obtain ⟨⟨t480,t481,t482⟩,A40,H⟩:=H
 replace H:(some (t467,t470,t473,t474,t480)) = some (r1,r2,r3,r4,r5):=H
 have A4:=aA.mk A40
 clear A40
 simp only [Option.some.injEq,Prod.mk.injEq] at H
 obtain ⟨rfl,rfl,rfl,rfl,rfl⟩:=H
 go_enter Try.func40,Try.ntmps40
 go_wp2_with (first|((with_reducible refine bC (N:=2) rfl ?_);refine bD ?hg (N:=2) ?hd (cs:=#[.slice none 0 0,.slice none 0 0,.int .i64 0,.bool false]) (t:=25) ?hr ?_;(case hd=>rfl);(case hg=>rfl);(case hr=>exact tE);intro gb462 hg w5 hbox hb;have BK462:=aA.mk (hbox);have GW462:=aA.mk ((by rw [hg];exact (aX HB.out):w.heap.size ≤ gb462));have GE462:=aA.mk ((by rw [hg];exact (aX HB.out):w.heap.size ≤ gb462));replace HB:=aA.mk (aT HB.out hb);clear hb hbox hg)|((with_reducible refine aW (f:=61) rfl ?_);refine bK (some 6) rfl rfl Try.func61 tG rfl #[.slice A0 l0.length c0] rfl tC ?_;(with_reducible refine (spec_l1New.calls k _ _ l0 t463 t464 t465 w _ ?side1 ?side2 ?side3 A2.out).mono ?_);(case side1=>repeat (first|(with_reducible first|exact HB.out|apply aJ|apply aE|apply aH|refine aC ?_ GE462.out)|exact HB.out));(case side2=>exact HR0.out);(case side3=>exact HC0.out);rintro e w6 ⟨g466,rfl,hi,hb,hb2⟩;refine ⟨_,rfl,?_⟩;replace HB:=aA.mk (hb);have HI466:=aA.mk (hi);have NB466_462:=aA.mk (IsS85.ne_blk hi (bM (g:=gb462) (o:=.cells #[.slice none 0 0,.slice none 0 0,.int .i64 0,.bool false] 25 (0,0)) BK462.out hb2) tf);have NB462_466:=aA.mk (Ne.symm (IsS85.ne_blk hi (bM (g:=gb462) (o:=.cells #[.slice none 0 0,.slice none 0 0,.int .i64 0,.bool false] 25 (0,0)) BK462.out hb2) tf));replace BK462:=aA.mk (bM (g:=gb462) (o:=.cells #[.slice none 0 0,.slice none 0 0,.int .i64 0,.bool false] 25 (0,0)) BK462.out hb2);(try clear hb);(try clear hb2);(try clear hk);(try clear hi))|((with_reducible refine aW (f:=63) rfl ?_);refine bK (some 8) rfl rfl Try.func63 tG rfl #[.pointer (some ⟨g466,0,none⟩)] rfl tC ?_;(with_reducible refine (spec_l2Any.calls k g466 t463 t464 t465 t467 t470 t473 t474 t475 t476 w _ ?side1 ?side2 A3.out).mono ?_);(case side1=>exact AU);(case side2=>repeat (first|(with_reducible first|exact HB.out|apply aJ|apply aE|apply aH|refine aC ?_ (IsS85.ge HI466.out)|refine aC ?_ GE462.out)|exact HB.out));rintro e w7 ⟨v468,v471,rfl,ho0,ho1,hi,hb,hk⟩;refine ⟨_,rfl,?_⟩;have HO469:=aA.mk (Kd.N_lower (Kd.aV (ok':=fun k_=>(w.heap.size ≤ k_) ∧ some k_ ≠ (v471:Value).ownBlock ∧ k_ ≠ gb462 ∧ k_ ≠ g466) ho0 (fun k_ hk_=>⟨(Nat.le_trans (aX vG) hk_.1),hk_.2,(Kd.freshB (g:=gb462) (o:=.cells #[.slice none 0 0,.slice none 0 0,.int .i64 0,.bool false] 25 (0,0)) BK462.out k_ hk_.1),(IsS85.fresh wU k_ hk_.1)⟩)) (aX vG));have HO472:=aA.mk (Kd.N_lower (Kd.aV (ok':=fun k_=>(w.heap.size ≤ k_) ∧ some k_ ≠ (v468:Value).ownBlock ∧ k_ ≠ gb462 ∧ k_ ≠ g466) ho1 (fun k_ hk_=>⟨(Nat.le_trans (aX vG) hk_.1),hk_.2,(Kd.freshB (g:=gb462) (o:=.cells #[.slice none 0 0,.slice none 0 0,.int .i64 0,.bool false] 25 (0,0)) BK462.out k_ hk_.1),(IsS85.fresh wU k_ hk_.1)⟩)) (aX vG));replace BK462:=aA.mk (KeepBut.blk hk (g':=gb462) (o:=.cells #[.slice none 0 0,.slice none 0 0,.int .i64 0,.bool false] 25 (0,0)) BK462.out NB462_466.out vN);replace HB:=aA.mk (hb);replace HI466:=aA.mk (hi);(try clear hb);(try clear hb2);(try clear hk);(try clear hi);(try clear ho0);(try clear ho1))|((with_reducible refine bC (N:=10) rfl ?_);refine Kd.R_lit (Kd.int .i64) _ 3 ?hg (N:=10) ?hd (xs:=([0,1,2,3,5,10,1073741823,(-1),1073741824]:List Int)) (inner:=[.int .i64 0,.int .i64 1,.int .i64 2,.int .i64 3,.int .i64 5,.int .i64 10,.int .i64 1073741823,.int .i64 (-1),.int .i64 1073741824]) (ok:=fun _=>True) (okp:=fun _=>True) ?hr ?hp (fun _ hk=>hk) trivial (Below.refl _ _) (Nat.le_refl _) vN ?_;(case hd=>rfl);(case hg=>rfl);(case hr=>exact tE);(case hp=>exact (Reps.one (show Kd.M (Kd.int .i64) _ _ _ 0 [.int .i64 0] from rfl) (Reps.one (show Kd.M (Kd.int .i64) _ _ _ 1 [.int .i64 1] from rfl) (Reps.one (show Kd.M (Kd.int .i64) _ _ _ 2 [.int .i64 2] from rfl) (Reps.one (show Kd.M (Kd.int .i64) _ _ _ 3 [.int .i64 3] from rfl) (Reps.one (show Kd.M (Kd.int .i64) _ _ _ 5 [.int .i64 5] from rfl) (Reps.one (show Kd.M (Kd.int .i64) _ _ _ 10 [.int .i64 10] from rfl) (Reps.one (show Kd.M (Kd.int .i64) _ _ _ 1073741823 [.int .i64 1073741823] from rfl) (Reps.one (show Kd.M (Kd.int .i64) _ _ _ (-1) [.int .i64 (-1)] from rfl) (Reps.one (show Kd.M (Kd.int .i64) _ _ _ 1073741824 [.int .i64 1073741824] from rfl) (Reps.none _ _)))))))))));intro v478 w8 ho9 hb hg_ hnew_;clear hg_ hnew_;(first|rw [← Ny477.out] at ho9|(simp only [Int.reduceToNat] at ho9;rw [← Ny477.out] at ho9));replace HO469:=aA.mk (Kd.N_elder' HO469.out (Kd.R_base ho9) hb);replace HO472:=aA.mk (Kd.N_elder' HO472.out (Kd.R_base ho9) hb);have HO479:=aA.mk (Kd.R_lower (Kd.R_newM (M:=fun k_=>(w.heap.size ≤ k_)) ho9 (aX vG) (fun k_ h_=>h_)) (aX vG));replace BK462:=aA.mk (bM (g:=gb462) (o:=.cells #[.slice none 0 0,.slice none 0 0,.int .i64 0,.bool false] 25 (0,0)) BK462.out hb);replace HB:=aA.mk (aT vG hb);replace HI466:=aA.mk (IsS85.below wU hb);clear hb ho9;obtain ⟨Ao10,co10,eo10⟩:=Kd.R_slice HO479.out;subst eo10)|((with_reducible refine aW (f:=64) rfl ?_);refine bK (some 11) rfl rfl Try.func64 tG rfl #[.pointer (some ⟨g466,0,none⟩),.slice Ao10 y477.length co10] rfl tC ?_;(with_reducible refine (spec_l1Int.calls g466 t463 t475 t476 _ _ y477 t480 t481 t482 w _ ?side1 ?side2 ?side3 ?side4 ?side5 A4.out).mono ?_);(case side1=>exact AU);(case side2=>repeat (first|(with_reducible first|exact HB.out|apply aJ|apply aE|apply aH|refine aC ?_ (IsS85.ge HI466.out)|refine aC ?_ GE462.out)|exact HB.out));(case side3=>repeat (first|exact (Kd.R_reads' HO479.out).2.2|(with_reducible refine Kd.C_alloc ?_ _)|(with_reducible refine Kd.C_drewN ?_ _)|(with_reducible refine Kd.C_drew ?_)));(case side4=>exact (Kd.R_reads' HO479.out).2.1);(case side5=>exact far_slice (IsS85.own_ne HI466.out HO479.out tf));rintro e w11 ⟨rfl,hi,hb,hk⟩;refine ⟨_,rfl,?_⟩;replace BK462:=aA.mk (KeepBut.blk hk (g':=gb462) (o:=.cells #[.slice none 0 0,.slice none 0 0,.int .i64 0,.bool false] 25 (0,0)) BK462.out NB462_466.out vN);replace HO469:=aA.mk (Kd.aV (Kd.N_keep (Kd.aV (ok:=fun k_=>((((w.heap.size ≤ k_)) ∧ (some k_ ≠ (v471:Value).ownBlock ∧ (k_ ≠ gb462 ∧ k_ ≠ g466))) ∧ some k_ ≠ (.slice Ao10 y477.length co10:Value).ownBlock)) HO469.out (fun k_ hk_=>(⟨hk_,hk_.1.2.2.2⟩:_ ∧ k_ ≠ g466))) hk (fun _ h=>h.2)) (fun _ h=>h.1));replace HO472:=aA.mk (Kd.aV (Kd.N_keep (Kd.aV (ok:=fun k_=>((((w.heap.size ≤ k_)) ∧ (some k_ ≠ (v468:Value).ownBlock ∧ (k_ ≠ gb462 ∧ k_ ≠ g466))) ∧ some k_ ≠ (.slice Ao10 y477.length co10:Value).ownBlock)) HO472.out (fun k_ hk_=>(⟨hk_,hk_.1.2.2.2⟩:_ ∧ k_ ≠ g466))) hk (fun _ h=>h.2)) (fun _ h=>h.1));replace HO479:=aA.mk (Kd.R_mono (Kd.R_keep (IsS85.apart (show IsS85 w _ g466 t463 t475 t476 from by repeat (first|(with_reducible first|exact HI466.out|apply IsS85.alloc|apply IsS85.drewN|apply IsS85.drew|apply IsS85.set_1|apply IsS85.set_2|apply IsS85.far (hne:=NB466_462.out))|exact HI466.out)) HO479.out tf) hk (fun _ h=>h.2)) (fun _ h=>h.1));replace HB:=aA.mk (hb);replace HI466:=aA.mk (hi);(try clear hb);(try clear hb2);(try clear hk);(try clear hi);obtain ⟨Ao12,co12,eo12⟩:=Kd.cB HO469.out;subst eo12;have hnb13:=NB462_466.out;have hnc13:=NB466_462.out;obtain ⟨hcz14_0,hcz14_1,hcz14_2,hcz14_3⟩:=cs4 BK462.out;obtain ⟨hfz14_0,hfz14_1,hfz14_2,hfz14_3⟩:=fs4 BK462.out;obtain ⟨Ao15,co15,eo15⟩:=Kd.cB HO472.out;subst eo15))
 refine bodyPost_ret (results_ct rfl _ _ gb462 25 #[.slice Ao12 t467.length co12,.slice Ao15 t470.length co15,.int .i64 t473,.bool t474] (0,0) _ rfl (by (with_reducible repeat (first|refine aM ?_ _|refine aN ?_|refine aG ?_ _));refine aQ (cs:=#[.slice Ao12 t467.length co12,.slice Ao15 t470.length co15,.int .i64 t473,.bool false]) ?_ 3 _ rfl;(with_reducible repeat (first|refine aM ?_ _|refine aN ?_|refine aG ?_ _));refine aQ (cs:=#[.slice Ao12 t467.length co12,.slice Ao15 t470.length co15,.int .i64 0,.bool false]) ?_ 2 _ rfl;(with_reducible repeat (first|refine aM ?_ _|refine aN ?_|refine aG ?_ _));refine aQ (cs:=#[.slice Ao12 t467.length co12,.slice none 0 0,.int .i64 0,.bool false]) ?_ 1 _ rfl;(with_reducible repeat (first|refine aM ?_ _|refine aN ?_|refine aG ?_ _));refine aQ (cs:=#[.slice none 0 0,.slice none 0 0,.int .i64 0,.bool false]) ?_ 0 _ rfl;(with_reducible repeat (first|refine aM ?_ _|refine aN ?_|refine aG ?_ _));exact BK462.out) Try.underlying25 rfl tG) rfl ?_
 exact ⟨_,_,tN,by (with_reducible repeat (first|apply Kd.bW|apply Kd.bX|apply Kd.bV));exact Kd.aV (Kd.bH (p:=⟨gb462,3,none⟩) (Kd.bH (p:=⟨gb462,2,none⟩) (Kd.bH (p:=⟨gb462,1,none⟩) (Kd.bH (p:=⟨gb462,0,none⟩) (Kd.aV HO469.out (fun k_ hk=>(⟨hk,hk.1.2.2.1⟩:_ ∧ k_ ≠ gb462))) (fun _ hk=>hk.2) (.slice Ao12 t467.length co12)) (fun _ hk=>hk.2) (.slice Ao15 t470.length co15)) (fun _ hk=>hk.2) (.int .i64 t473)) (fun _ hk=>hk.2) (.bool t474)) (fun _ hk=>⟨hk.1.1.1,hk.1.1.2.1⟩),by (with_reducible repeat (first|apply Kd.bW|apply Kd.bX|apply Kd.bV));exact Kd.aV (Kd.bH (p:=⟨gb462,3,none⟩) (Kd.bH (p:=⟨gb462,2,none⟩) (Kd.bH (p:=⟨gb462,1,none⟩) (Kd.bH (p:=⟨gb462,0,none⟩) (Kd.aV HO472.out (fun k_ hk=>(⟨hk,hk.1.2.2.1⟩:_ ∧ k_ ≠ gb462))) (fun _ hk=>hk.2) (.slice Ao12 t467.length co12)) (fun _ hk=>hk.2) (.slice Ao15 t470.length co15)) (fun _ hk=>hk.2) (.int .i64 t473)) (fun _ hk=>hk.2) (.bool t474)) (fun _ hk=>⟨hk.1.1.1,hk.1.1.2.1⟩),by repeat (first|(with_reducible first|exact HB.out|apply aJ|apply aE|apply aH|refine aC ?_ (IsS85.ge HI466.out)|refine aC ?_ GE462.out)|exact HB.out)⟩
def spec_DrawDevNew.f (k:Nat) (l0:List Int):Option (Int):=(spec_l1New.f k l0).bind fun bt483=>((spec_l1Int.f bt483.1 bt483.2.1 bt483.2.2 (([1,9,60,0,61,(-1)]:List Int))).bind fun bt490=>(some bt490.1))
set_option maxHeartbeats 8000000 in
set_option maxRecDepth 100000 in
theorem spec_DrawDevNew.calls (k:Nat) (A0:Option Addr) (c0:Nat) (l0:List Int) (r:Int) (w:World) (hr0:Kd.C (Kd.int .u8) w A0 l0.length l0) (hc0:l0.length ≤ c0) (h:spec_DrawDevNew.f k l0 = some r) :
  Calls Try.prog 41 #[.slice A0 l0.length c0] w fun e w'=>e = .returned (.int .i64 r) ∧ Below w.heap.size w w':=by
 have HR0:=aA.mk hr0
 have HC0:=aA.mk hc0
 clear hr0 hc0
 have HB:=aA.mk (Below.refl w.heap.size w)
 have H:((spec_l1New.f k l0).bind fun bt483=>((spec_l1Int.f bt483.1 bt483.2.1 bt483.2.2 (([1,9,60,0,61,(-1)]:List Int))).bind fun bt490=>(some bt490.1))) = some r:=h
 clear h
 replace H:=lF H
 obtain ⟨⟨t483,t484,t485⟩,A20,H⟩:=H
 replace H:((spec_l1Int.f t483 t484 t485 (([1,9,60,0,61,(-1)]:List Int))).bind fun bt490=>(some bt490.1)) = some r:=H
 have A2:=aA.mk A20
 clear A20
 obtain ⟨y487,hy487⟩:∃ y_:List Int,y_ = (([1,9,60,0,61,(-1)]:List Int)):=⟨_,rfl⟩
 replace H:((spec_l1Int.f t483 t484 t485 y487).bind fun bt490=>(some bt490.1)) = some r:=by first|(rw [hy487];with_reducible exact H)|(have H2_:=(Option.bind_some _ _).symm.trans H;rw [hy487];with_reducible exact H2_)|(have H2_:=(Option.bind_some _ _).symm.trans H;with_reducible exact H2_)|with_reducible exact H|(rw [hy487];exact H)|exact H
 have Ny487:=aA.mk hy487
 clear hy487
 replace H:=lF H
 obtain ⟨⟨t490,t491,t492⟩,A30,H⟩:=H
 replace H:(some t490) = some r:=H
 have A3:=aA.mk A30
 clear A30
 obtain rfl:=Option.some.inj H
 go_enter Try.func41,Try.ntmps41
 go_wp2_with (first|((with_reducible refine aW (f:=61) rfl ?_);refine bK (some 5) rfl rfl Try.func61 tG rfl #[.slice A0 l0.length c0] rfl tC ?_;(with_reducible refine (spec_l1New.calls k _ _ l0 t483 t484 t485 w _ ?side1 ?side2 ?side3 A2.out).mono ?_);(case side1=>repeat (first|(with_reducible first|exact HB.out|apply aJ|apply aE|apply aH)|exact HB.out));(case side2=>exact HR0.out);(case side3=>exact HC0.out);rintro e w4 ⟨g486,rfl,hi,hb,hb2⟩;refine ⟨_,rfl,?_⟩;replace HB:=aA.mk (hb);have HI486:=aA.mk (hi);(try clear hb);(try clear hb2);(try clear hk);(try clear hi))|((with_reducible refine bC (N:=7) rfl ?_);refine Kd.R_lit (Kd.int .i64) _ 3 ?hg (N:=7) ?hd (xs:=([1,9,60,0,61,(-1)]:List Int)) (inner:=[.int .i64 1,.int .i64 9,.int .i64 60,.int .i64 0,.int .i64 61,.int .i64 (-1)]) (ok:=fun _=>True) (okp:=fun _=>True) ?hr ?hp (fun _ hk=>hk) trivial (Below.refl _ _) (Nat.le_refl _) vN ?_;(case hd=>rfl);(case hg=>rfl);(case hr=>exact tE);(case hp=>exact (Reps.one (show Kd.M (Kd.int .i64) _ _ _ 1 [.int .i64 1] from rfl) (Reps.one (show Kd.M (Kd.int .i64) _ _ _ 9 [.int .i64 9] from rfl) (Reps.one (show Kd.M (Kd.int .i64) _ _ _ 60 [.int .i64 60] from rfl) (Reps.one (show Kd.M (Kd.int .i64) _ _ _ 0 [.int .i64 0] from rfl) (Reps.one (show Kd.M (Kd.int .i64) _ _ _ 61 [.int .i64 61] from rfl) (Reps.one (show Kd.M (Kd.int .i64) _ _ _ (-1) [.int .i64 (-1)] from rfl) (Reps.none _ _))))))));intro v488 w5 ho6 hb hg_ hnew_;clear hg_ hnew_;(first|rw [← Ny487.out] at ho6|(simp only [Int.reduceToNat] at ho6;rw [← Ny487.out] at ho6));have HO489:=aA.mk (Kd.R_lower ho6 (aX (by repeat (first|(with_reducible first|exact HB.out|apply aJ|apply aE|apply aH|refine aC ?_ (IsS85.ge HI486.out))|exact HB.out))));replace HB:=aA.mk (aT (by repeat (first|(with_reducible first|exact HB.out|apply aJ|apply aE|apply aH|refine aC ?_ (IsS85.ge HI486.out))|exact HB.out)) hb);replace HI486:=aA.mk (IsS85.below (by repeat (first|(with_reducible first|exact HI486.out|apply IsS85.alloc|apply IsS85.drewN|apply IsS85.drew|apply IsS85.set_1|apply IsS85.set_2)|exact HI486.out)) hb);clear hb ho6;obtain ⟨Ao7,co7,eo7⟩:=Kd.R_slice HO489.out;subst eo7)|((with_reducible refine aW (f:=64) rfl ?_);refine bK (some 8) rfl rfl Try.func64 tG rfl #[.pointer (some ⟨g486,0,none⟩),.slice Ao7 y487.length co7] rfl tC ?_;(with_reducible refine (spec_l1Int.calls g486 t483 t484 t485 _ _ y487 t490 t491 t492 w _ ?side1 ?side2 ?side3 ?side4 ?side5 A3.out).mono ?_);(case side1=>repeat (first|(with_reducible first|exact HI486.out|apply IsS85.alloc|apply IsS85.drewN|apply IsS85.drew|apply IsS85.set_1|apply IsS85.set_2)|exact HI486.out));(case side2=>repeat (first|(with_reducible first|exact HB.out|apply aJ|apply aE|apply aH|refine aC ?_ (IsS85.ge HI486.out))|exact HB.out));(case side3=>repeat (first|exact (Kd.R_reads' HO489.out).2.2|(with_reducible refine Kd.C_alloc ?_ _)|(with_reducible refine Kd.C_drewN ?_ _)|(with_reducible refine Kd.C_drew ?_)));(case side4=>exact (Kd.R_reads' HO489.out).2.1);(case side5=>exact far_slice (IsS85.own_ne HI486.out HO489.out tf));rintro e w8 ⟨rfl,hi,hb,hk⟩;refine ⟨_,rfl,?_⟩;replace HO489:=aA.mk (Kd.R_mono (Kd.R_keep (IsS85.apart (show IsS85 w _ g486 t483 t484 t485 from by repeat (first|(with_reducible first|exact HI486.out|apply IsS85.alloc|apply IsS85.drewN|apply IsS85.drew|apply IsS85.set_1|apply IsS85.set_2)|exact HI486.out)) HO489.out tf) hk (fun _ h=>h.2)) (fun _ h=>h.1));replace HB:=aA.mk (hb);replace HI486:=aA.mk (hi);(try clear hb);(try clear hb2);(try clear hk);(try clear hi)))
 go_ret
 exact ⟨tN,by repeat (first|(with_reducible first|exact HB.out|apply aJ|apply aE|apply aH|refine aC ?_ (IsS85.ge HI486.out))|exact HB.out)⟩
end Go.Proofs.Ytilhcaofpfeioaa.PFnDevsBent
