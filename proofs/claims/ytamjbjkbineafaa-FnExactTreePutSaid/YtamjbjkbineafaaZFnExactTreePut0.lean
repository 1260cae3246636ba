/- The law: the functions that it reaches, each with the proof that the machine's call comes to its answer, what they answer, and the law's row; each theorem says its conditions itself. -/
import Derived.Test.YtamjbjkbineafaaVFnExactTreePut
import Derived.Test.YtamjbjkbineafaaProg
import Derived.Below
import Derived.Deep.Draws
import Derived.Deep.AppendLies
import Derived.Maps.AppendAt
import Derived.OwnWalk
import Derived.Laws.BytesArg
import Derived.Laws.MakeOwn
import Derived.Laws.OwnMore
import Derived.Deep.OwnRows
import Derived.Tactics
import Derived.Lib.ConvBytes
import Derived.Laws.Slices
import Derived.WalkKit
import Derived.KernelRfl
import Derived.RowKit3
import Derived.Deep.LoopGhost
import Derived.Deep.QuietTactic
import Derived.BigQuiet
import Derived.WideLaws
import Derived.Deep.DeepCutAuto
import Derived.Deep.CutBlock
import Derived.Deep.RegionHeld3
import Derived.Laws.Rows
import Derived.Lib.AppendStr
import Derived.ArgAppend
import Derived.Laws.IdiomCopy
import Derived.OrdersHeld
import Derived.Laws.BitsLemmas
import Derived.RowKit
namespace Go.Proofs
theorem tA {p:Prop} (h:p:=by (try simp only [List.map_toArray,List.map_cons,List.map_nil]);first|done|rfl|(simp only [List.length_drop,List.length_take];rfl)):p:=h
theorem tB {p:Prop} (h:p:=by repeat (first|(with_reducible first|exact HB.out|apply aF|apply aD|apply aE)|exact HB.out)):p:=h
theorem tC {p:Prop} (h:p:=by first|(with_reducible assumption)|assumption):p:=h
theorem tD {p:Prop} (h:p:=by omega):p:=h
theorem tE {p:Prop} (h:p:=by first|(simp (decide:=true) only [↓aops_cons,↓aopsD_cons,go_sem, *];done)|(simp (decide:=true) only [↓aops_cons,↓aopsD_cons,go_sem, *];exact LeF.refl _)|(simp (decide:=true) only [↓aops_cons,↓aopsD_cons,go_sem, *];exact ⟨LeF.refl _,LeF.refl _⟩)):p:=h
theorem tF {p:Prop} (h:p:=by kernel_rfl):p:=h
theorem tG {p:Prop} (h:p:=by first|rfl|(simp [errW_none,errW_some] <;> rfl)|(simp [*,errW_none,errW_some] <;> rfl)):p:=h
theorem tH {p:Prop} (h:p:=by assumption):p:=h
theorem tJ {p:Prop} (h:p:=by first|(simp (decide:=true) only [↓aops_cons,↓aopsD_cons,go_sem, *];done)|(simp (decide:=true) only [↓aops_cons,↓aopsD_cons,go_sem, *];rfl)):p:=h
theorem tK {p:Prop} (h:p:=by first|rfl|(simp;done)|(simp [*];done)):p:=h
theorem tL {p:Prop} (h:p:=by repeat (first|exact (Kd.aV HR0_0.out HB.out)|(with_reducible refine Kd.C_alloc ?_ _)|(with_reducible refine Kd.C_drewN ?_ _)|(with_reducible refine Kd.C_drew ?_))):p:=h
theorem tM {p:Prop} (h:p:=by simp (decide:=true) only [↓aops_cons,↓aopsD_cons,go_sem, *]):p:=h
theorem tN {p:Prop} (h:p:=by repeat (first|(with_reducible first|exact HB.out|apply aF|apply aD|apply aE)|exact HB.out)):p:=h
theorem tP {p:Prop} (h:p:=by first|(go_simp;done)|(go_simp;rfl)):p:=h
theorem tQ {p:Prop} (h:p:=by repeat (first|(with_reducible first|exact HB.out|apply aF|apply aD|apply aE|refine aH ?_ GE161.out)|exact HB.out)):p:=h
theorem tR {p:Prop} (h:p:=by exact ⟨by first|rfl|(simp;done)|(simp [*];done),by repeat (first|exact aU.refl _|apply aU.step)⟩):p:=h
theorem tT {p:Prop} (h:p:=by intro k_ h1_ h2_;have o_:=HORD.out;unfold In at h1_;omega):p:=h
theorem tU {p:Prop} (h:p:=by (with_reducible repeat (first|refine aN ?_ _|refine aL ?_|refine aP ?_ _));exact BK161.out):p:=h
theorem tV {p:Prop} (h:p:=by intro k_ h1_ h2_;have o_:=HORD.out;(try unfold InG at h1_);(try unfold In2 at h1_);unfold In at h1_;(try unfold In at h2_);omega):p:=h
theorem tW {p:Prop} (h:p:=by have h_:(x5_1:Int) < ((x0_1.length:Int):Int):=lE tC;first|exact h_|(have e_:=(Kd.R_reads' HO_0.out).1;omega)|simpa using h_):p:=h
theorem tX {p:Prop} (h:p:=by repeat (first|(with_reducible first|exact HB.out|apply aF|apply aD|apply aE|refine aH ?_ GE175.out)|exact HB.out)):p:=h
theorem tY {p:Prop} (h:p:=by (with_reducible repeat (first|refine aN ?_ _|refine aL ?_|refine aP ?_ _));exact BK175.out):p:=h
theorem tZ {p:Prop} (h:p:=by first|(simp only [ownK,and_true];done)|(have hlb:=hfr.1 lb List.mem_cons_self;simp only [ownK,and_true];omega)|(simp only [ownK,and_true];omega)):p:=h
theorem ta {p:Prop} (h:p:=by rfl):p:=h
theorem tb {p:Prop} (h:p:=by exact ⟨tG,by repeat (first|(with_reducible first|exact HB.out|apply aF|apply aD|apply aE|refine aH ?_ GE161.out|refine aH ?_ GE162.out)|exact HB.out)⟩):p:=h
theorem tc {p:Prop} (h:p:=by repeat (first|(with_reducible first|exact HB.out|apply aF|apply aD|apply aE|refine aH ?_ GE175.out|refine aH ?_ GE176.out)|exact HB.out)):p:=h
theorem td {p:Prop} (h:p:=by first|(go_simp;done)|(go_simp;rfl)|(obtain ⟨Az_,cz_,ez_,_⟩:=Kd.R_reads HO148.out;subst ez_;go_simp;done)|(obtain ⟨Az_,cz_,ez_,_⟩:=Kd.R_reads HO148.out;subst ez_;go_simp;rfl)|(obtain ⟨Az_,cz_,ez_,_⟩:=Kd.S_reads HO148.out;subst ez_;go_simp;done)|(obtain ⟨Az_,cz_,ez_,_⟩:=Kd.S_reads HO148.out;subst ez_;go_simp;rfl)|(obtain ⟨Az_,cz_,ez_,_⟩:=Kd.N_reads HO148.out;subst ez_;go_simp;done)|(obtain ⟨Az_,cz_,ez_,_⟩:=Kd.N_reads HO148.out;subst ez_;go_simp;rfl)|(obtain ⟨Az_,cz_,ez_,_⟩:=Kd.Q_reads HO148.out;subst ez_;go_simp;done)|(obtain ⟨Az_,cz_,ez_,_⟩:=Kd.Q_reads HO148.out;subst ez_;go_simp;rfl)|(obtain ⟨Az_,cz_,ez_⟩:=Kd.V_slice HO148.out;subst ez_;go_simp;done)):p:=h
theorem te {p:Prop} (h:p:=by simp):p:=h
theorem tf {p:Prop} (h:p:=by intro h2_;have o_:=HORD.out;omega):p:=h
theorem th {p:Prop} (h:p:=by repeat (first|(with_reducible first|exact HB.out|apply aF|apply aD|apply aE|refine aH ?_ GE150.out|refine aH ?_ GE151.out|refine aH ?_ GE152.out)|exact HB.out)):p:=h
theorem tj {p:Prop} (h:p:=by first|exact .inl rfl|exact .inr rfl):p:=h
theorem tk {p:Prop} (h:p:=by (with_reducible repeat (first|refine aN ?_ _|refine aL ?_|refine aP ?_ _));exact BK169.out):p:=h
theorem tn {p:Prop} (h:p:=by intro k_ h_;have o_:=HORD.out;unfold In2 In at h_;unfold InG In;(try dsimp only);omega):p:=h
theorem tp {p:Prop} (h:p:=by repeat (first|(with_reducible first|exact HB.out|apply aF|apply aD|apply aE|refine aH ?_ GE169.out)|exact HB.out)):p:=h
theorem tq {p:Prop} (h:p:=by decide):p:=h
theorem tr {p:Prop} (h:p:=by repeat (first|exact (Kd.aV HR1_0.out HB.out)|(with_reducible refine Kd.C_alloc ?_ _)|(with_reducible refine Kd.C_drewN ?_ _)|(with_reducible refine Kd.C_drew ?_))):p:=h
theorem tu {p:Prop} (h:p:=by repeat (first|(with_reducible first|exact HK.out|apply Kept.alloc|apply Kept.drewN|apply Kept.drew)|exact HK.out)):p:=h
theorem tx {p:Prop} (h:p:=by exact ⟨K,fun k hk'=>hk k hk'⟩):p:=h
theorem tz {p:Prop} (h:p:=by intro k_ h_;rcases h_ with (h_|h_)|h_ <;> first|exact .inl h_|exact .inr h_):p:=h
theorem t0 {p:Prop} (h:p:=by (with_reducible repeat (first|refine aN ?_ _|refine aL ?_|refine aP ?_ _));exact BK150.out):p:=h
theorem t4 {p:Prop} (h:p:=by (with_reducible repeat (first|refine aN ?_ _|refine aL ?_|refine aP ?_ _));exact BK136.out):p:=h
theorem t5 {p:Prop} (h:p:=by have o_:=HORD.out;have t_:=HT.out;simp only [];omega):p:=h
theorem t6 {p:Prop} (h:p:=by have o_:=HORD.out;omega):p:=h
theorem t7 {p:Prop} (h:p:=by repeat (first|exact aU.refl _|apply aU.step)):p:=h
theorem t8 {p:Prop} (h:p:=by intro h2_;have o_:=HORD.out;unfold In at h2_;omega):p:=h
theorem t9 {p:Prop} (h:p:=by (with_reducible repeat (first|apply Kd.R_alloc|apply Kd.R_drewN|apply Kd.R_drew));exact HO_3.out):p:=h
theorem vA {p:Prop} (h:p:=by (with_reducible repeat (first|refine aN ?_ _|refine aL ?_|refine aP ?_ _));exact BK115.out):p:=h
theorem vB {p:Prop} (h:p:=by (try simp only [List.length_append,List.length_take,List.length_drop,List.length_nil,List.length_cons]);omega):p:=h
theorem vC {p:Prop} (h:p:=by repeat (first|(with_reducible first|exact HK.out|apply Kept.alloc|apply Kept.drewN|apply Kept.drew)|exact HK.out)):p:=h
theorem vD {p:Prop} (h:p:=by rw [hg_];exact HT.out):p:=h
theorem vE {p:Prop} (h:p:=by have h_:(x4_1:Int) < ((x3_1.length:Int):Int):=lE tC;first|exact h_|(have e_:=(Kd.S_reads' HO_3.out).1;omega)|simpa using h_):p:=h
theorem vF {p:Prop} (h:p:=by have h_:(x4_1:Int) < ((x3_1.length:Int):Int):=lE tC;first|exact h_|(have e_:=(Kd.R_reads' HO_3.out).1;omega)|simpa using h_):p:=h
theorem vG {p:Prop} (h:p:=by omega):p:=h
theorem vH {p:Prop} (h:p:=by (with_reducible repeat (first|apply Kd.R_alloc|apply Kd.R_drewN|apply Kd.R_drew));exact HO_0.out):p:=h
theorem vJ {p:Prop} (h:p:=by simp only [putAll,Act.put,lA,lB,lC]):p:=h
theorem vK {p:Prop} (h:p:=by rfl):p:=h
theorem vL {p:Prop} (h:p:=by repeat (first|(with_reducible first|exact HB.out|apply aF|apply aD|apply aE|refine aH ?_ GE107.out)|exact HB.out)):p:=h
theorem vM {p:Prop} (h:p:=by have:=HK1.out;omega):p:=h
theorem vN {p:Prop} (h:p:=by have o_:=HORD.out;(try unfold In at *);(try show _ ≠ _);omega):p:=h
theorem vP {p:Prop} (h:p:=by simp only [ownK,and_true] <;> omega):p:=h
theorem vQ {p:Prop} (h:p:=by exact ⟨tG,by repeat (first|(with_reducible first|exact HB.out|apply aF|apply aD|apply aE|refine aH ?_ GE175.out|refine aH ?_ GE176.out)|exact HB.out)⟩):p:=h
theorem vR {p:Prop} (h:p:=by (with_reducible repeat (first|apply Kd.S_alloc|apply Kd.S_drewN|apply Kd.S_drew));exact HO_3.out):p:=h
theorem vT {p:Prop} (h:p:=by (with_reducible repeat (first|apply Kd.R_alloc|apply Kd.R_drewN|apply Kd.R_drew));exact HO_0.out):p:=h
theorem vU {p:Prop} (h:p:=by repeat (first|(with_reducible first|exact HB.out|apply aF|apply aD|apply aE|refine aH ?_ GE150.out|refine aH ?_ GE151.out)|exact HB.out)):p:=h
theorem vV {p:Prop} (h:p:=by repeat (first|(with_reducible first|exact HB.out|apply aF|apply aD|apply aE|refine aH ?_ GE136.out|refine aH ?_ GE137.out)|exact HB.out)):p:=h
theorem vW {p:Prop} (h:p:=by repeat (first|(with_reducible first|exact HB.out|apply aF|apply aD|apply aE|refine aH ?_ GE115.out|refine aH ?_ GE116.out)|exact HB.out)):p:=h
theorem vX {p:Prop} (h:p:=by exact absurd H te):p:=h
theorem vY {p:Prop} (h:p:=by (with_reducible repeat (first|refine aN ?_ _|refine aL ?_|refine aP ?_ _));exact BK151.out):p:=h
theorem vZ {p:Prop} (h:p:=by (with_reducible repeat (first|refine aN ?_ _|refine aL ?_|refine aP ?_ _));exact BK137.out):p:=h
theorem vj {p:Prop} (h:p:=by repeat (first|exact (Kd.aV HR0_1.out (by repeat (first|(with_reducible first|exact HB.out|apply aF|apply aD|apply aE|refine aH ?_ GE200.out)|exact HB.out)))|(with_reducible refine Kd.C_alloc ?_ _)|(with_reducible refine Kd.C_drewN ?_ _)|(with_reducible refine Kd.C_drew ?_))):p:=h
theorem vk {p:Prop} (h:p:=by have hns:=hns.out;subst hns;exact fr_out (fr_repl (ms:=[⟨lbA,ssA⟩,⟨lbB,ssB⟩]) ((fr_tail2 hfr).mono (Nat.le_refl _) (Nat.le_refl _)) (labN_two lbA ssA lbB ssB (hfA.mono tD (Nat.le_refl _)) hfB tD tD) (by unfold wrap64 at hb ⊢;omega) tD tD) tD tD tD tD):p:=h
theorem vm {p:Prop} (h:p:=by exact ⟨tG,by repeat (first|(with_reducible first|exact HB.out|apply aF|apply aD|apply aE|refine aH ?_ GE200.out)|exact HB.out)⟩):p:=h
theorem vn {p:Prop} (h:p:=by exact ⟨tG,by repeat (first|(with_reducible first|exact HB.out|apply aF|apply aD|apply aE|refine aH ?_ GE107.out)|exact HB.out)⟩):p:=h
theorem vp {p:Prop} (h:p:=by exact ⟨ad,A0,c0,e,by have hq:=hc 0 _ rfl;rwa [Nat.mul_one,Nat.add_zero] at hq,l0,g0⟩):p:=h
theorem vq {p:Prop} (h:p:=by repeat (first|(with_reducible first|exact HB.out|apply aF|apply aD|apply aE|refine aH ?_ GE150.out)|exact HB.out)):p:=h
theorem vr {p:Prop} (h:p:=by repeat (first|(with_reducible first|exact HB.out|apply aF|apply aD|apply aE|refine aH ?_ GE136.out)|exact HB.out)):p:=h
theorem vu {p:Prop} (h:p:=by repeat (first|(with_reducible first|exact HB.out|apply aF|apply aD|apply aE|refine aH ?_ GE115.out)|exact HB.out)):p:=h
theorem vx {p:Prop} (h:p:=by (try simp only [List.map_toArray,List.map_cons,List.map_nil]);first|done|rfl):p:=h
theorem vy {p:Prop} (h:p:=by first|assumption|(rw [eN_set];assumption)):p:=h
theorem vz {p:Prop} (h:p:=by simp only [List.length_append,List.length_take,List.length_drop];omega):p:=h
theorem v3 {p:Prop} (h:p:=by exact ⟨ad,e,hc 0 _ rfl,by rw [← add_field _ _ 1 tD];exact hc 1 _ rfl,by rw [← add_field _ _ 2 tD];exact hc 2 _ rfl,by rw [← add_field _ _ 3 tD];exact hc 3 _ rfl,by rw [← add_field _ _ 4 tD];exact hc 4 _ rfl⟩):p:=h
theorem v6 {p:Prop} (h:p:=by (with_reducible repeat (first|apply Kd.R_alloc|apply Kd.R_drewN|apply Kd.R_drew));exact HO_3.out):p:=h
theorem v7 {p:Prop} (h:p:=by intro k_ h1_ h2_;have o_:=HORD.out;unfold In at h1_ h2_;omega):p:=h
theorem v8 {p:Prop} (h:p:=by exact ⟨i,_,h1,h2,rfl,h3,rfl⟩):p:=h
theorem v9 {p:Prop} (h:p:=by (with_reducible repeat (first|refine aN ?_ _|refine aL ?_|refine aP ?_ _));exact BK116.out):p:=h
theorem wA {p:Prop} (h:p:=by exact (List.getElem?_eq_some_iff.1 hy).1):p:=h
theorem wB {p:Prop} (h:p:=by rw [hw_];exact aH (aH (HB.out) hge_) hge_):p:=h
theorem wC {p:Prop} (h:p:=by repeat (first|(with_reducible first|exact HB.out|apply aF|apply aD|apply aE|refine aH ?_ GE136.out|refine aH ?_ GE137.out|refine aH ?_ GE138.out)|exact HB.out)):p:=h
theorem wD {p:Prop} (h:p:=by simpa using hi):p:=h
theorem wE {p:Prop} (h:p:=by exact (Kd.aV HR0_1.out HB.out)):p:=h
theorem wF {p:Prop} (h:p:=by exact (Kd.aV HR0_0.out HB.out)):p:=h
abbrev T1:Bool:=true
abbrev F0:Bool:=false
def bq1 (m n:Nat):Array Bool:=((List.range n).map fun j=>m.testBit j).toArray
end Go.Proofs
namespace Go.Proofs.Ytamjbjkbineafaa.PFnExactTreePut
open Go.RowKit Go.Proofs.YtamjbjkbineafaaW.PrintWords Go.Proofs.YtamjbjkbineafaaW.PrintLast Go.Proofs.YtamjbjkbineafaaW.PrintMore
attribute [local go_sem] max2_int min2_int max_two min_two max_three min_three max_four min_four   -- for this text's walks alone
set_option linter.unusedVariables false
set_option linter.unusedSimpArgs false
def errW:Option Int → Value
 | none=>.nilIface
 | some c=>.iface 0 (.int .i64 c)
theorem errW_none:errW none = .nilIface:=rfl
theorem errW_some (c:Int):errW (some c) = .iface 0 (.int .i64 c):=rfl
theorem info3:(Try.prog.info? 3).map (fun i=>(i.zero,i.size,i.bytes)) = some (some (.int .i64 0),1,8):=by kernel_rfl
theorem info38:(Try.prog.info? 38).map (fun i=>(i.zero,i.size,i.bytes)) = some (some (.agg #[(.int .i64 0),(.int .i64 0),(.int .i64 0),(.int .i64 0),(.int .i64 0)]),5,40):=by kernel_rfl
theorem info45:(Try.prog.info? 45).map (fun i=>(i.zero,i.size,i.bytes)) = some (some (.slice none 0 0),1,24):=by kernel_rfl
theorem info59:(Try.prog.info? 59).map (fun i=>(i.zero,i.size,i.bytes)) = some (some (.agg #[(.slice none 0 0)]),1,24):=by kernel_rfl
-- the values' own types
structure S48 where
 f0:Int
 f1:Int
 f2:Int
 f3:Int
 f4:Int
def z48:S48:=⟨(0:Int),(0:Int),(0:Int),(0:Int),(0:Int)⟩
def k48:Kd S48:=Kd.iso (Kd.pair (Kd.int .i64) (Kd.pair (Kd.int .i64) (Kd.pair (Kd.int .i64) (Kd.pair (Kd.int .i64) (Kd.int .i64))))) (fun x:S48=>(x.f0,x.f1,x.f2,x.f3,x.f4))
theorem k48_open {w:World} {x:S48} {cs:List Value} (h:k48.K w x cs):cs = [.int .i64 x.f0,.int .i64 x.f1,.int .i64 x.f2,.int .i64 x.f3,.int .i64 x.f4]:=by
 obtain ⟨_,_,rfl,rfl,⟨_,_,rfl,rfl,⟨_,_,rfl,rfl,⟨_,_,rfl,rfl,rfl⟩⟩⟩⟩:=h
 exact rfl
def rd_T48 (xs:List S48) (i:Int):S48:=xs.getD i.toNat z48
theorem at_T48 {w:World} {A:Option Addr} {n:Nat} {xs:List S48} (h:Kd.C k48 w A n xs) (i:Int) (h0:0 ≤ i) (h1:i < n):∃ ad ,A = some ad ∧ w.cell? (ad.add (i.toNat * 5)) = some (.int .i64 (rd_T48 xs i).f0) ∧ w.cell? ⟨(ad.add (i.toNat * 5)).block,(ad.add (i.toNat * 5)).off + 1,none⟩ = some (.int .i64 (rd_T48 xs i).f1) ∧ w.cell? ⟨(ad.add (i.toNat * 5)).block,(ad.add (i.toNat * 5)).off + 2,none⟩ = some (.int .i64 (rd_T48 xs i).f2) ∧ w.cell? ⟨(ad.add (i.toNat * 5)).block,(ad.add (i.toNat * 5)).off + 3,none⟩ = some (.int .i64 (rd_T48 xs i).f3) ∧ w.cell? ⟨(ad.add (i.toNat * 5)).block,(ad.add (i.toNat * 5)).off + 4,none⟩ = some (.int .i64 (rd_T48 xs i).f4):=by
 obtain ⟨ad,c,e,_,hK,hc0⟩:=Kd.C_get h z48 i h0 h1
 have hc:∀ j u,c[j]? = some u → w.cell? (ad.add (i.toNat * 5 + j)) = some u:=hc0
 obtain rfl:=k48_open hK
 exact v3
def rd_L2 (xs:List (List S48)) (i:Int):(List S48):=xs.getD i.toNat ([]:List S48)
theorem at_L2 {w:World} {A:Option Addr} {n:Nat} {xs:List (List S48)} (h:Kd.C (Kd.slice 48 k48) w A n xs) (i:Int) (h0:0 ≤ i) (h1:i < n):∃ ad A0 c0,A = some ad ∧ w.cell? (ad.add i.toNat) = some (.slice A0 (rd_L2 xs i).length c0) ∧ (rd_L2 xs i).length ≤ c0 ∧ k48.C w A0 (rd_L2 xs i).length (rd_L2 xs i):=by
 obtain ⟨ad,c,e,_,hK,hc0⟩:=Kd.C_get h ([]:List S48) i h0 h1
 have hc:∀ j u,c[j]? = some u → w.cell? (ad.add (i.toNat * 1 + j)) = some u:=hc0
 obtain ⟨A0,c0,rfl,l0,g0⟩:=hK
 exact vp
def rd_L3 (xs:List (List (List S48))) (i:Int):(List (List S48)):=xs.getD i.toNat ([]:List (List S48))
structure S87 where
 f0:(List (List S48))
def z87:S87:=⟨([]:List (List S48))⟩
def k87:Kd S87:=Kd.iso (Kd.slice 108 (Kd.slice 48 k48)) (fun x:S87=>x.f0)
theorem k87_open {w:World} {x:S87} {cs:List Value} (h:k87.K w x cs):∃ A0 c0,cs = [.slice A0 x.f0.length c0] ∧ x.f0.length ≤ c0 ∧ (Kd.slice 48 k48).C w A0 x.f0.length x.f0:=by
 obtain ⟨A0,c0,rfl,l0,g0⟩:=h
 exact ⟨A0,c0,rfl,l0,g0⟩
def rd_T87 (xs:List S87) (i:Int):S87:=xs.getD i.toNat z87
theorem at_T87 {w:World} {A:Option Addr} {n:Nat} {xs:List S87} (h:Kd.C k87 w A n xs) (i:Int) (h0:0 ≤ i) (h1:i < n):∃ ad A0 c0,A = some ad ∧ w.cell? (ad.add i.toNat) = some (.slice A0 (rd_T87 xs i).f0.length c0) ∧ (rd_T87 xs i).f0.length ≤ c0 ∧ (Kd.slice 48 k48).C w A0 (rd_T87 xs i).f0.length (rd_T87 xs i).f0:=by
 obtain ⟨ad,c,e,_,hK,hc0⟩:=Kd.C_get h z87 i h0 h1
 have hc:∀ j u,c[j]? = some u → w.cell? (ad.add (i.toNat * 1 + j)) = some u:=hc0
 obtain ⟨A0,c0,rfl,l0,g0⟩:=k87_open hK
 exact vp
structure S38 where
 f0:Int
 f1:Int
 f2:Int
 f3:Int
 f4:Int
def z38:S38:=⟨(0:Int),(0:Int),(0:Int),(0:Int),(0:Int)⟩
def k38:Kd S38:=Kd.iso (Kd.pair (Kd.int .i64) (Kd.pair (Kd.int .i64) (Kd.pair (Kd.int .i64) (Kd.pair (Kd.int .i64) (Kd.int .i64))))) (fun x:S38=>(x.f0,x.f1,x.f2,x.f3,x.f4))
theorem k38_open {w:World} {x:S38} {cs:List Value} (h:k38.K w x cs):cs = [.int .i64 x.f0,.int .i64 x.f1,.int .i64 x.f2,.int .i64 x.f3,.int .i64 x.f4]:=by
 obtain ⟨_,_,rfl,rfl,⟨_,_,rfl,rfl,⟨_,_,rfl,rfl,⟨_,_,rfl,rfl,rfl⟩⟩⟩⟩:=h
 exact rfl
theorem k38_openM {w:World} {base:Nat} {ok:Nat → Prop} {x:S38} {cs:List Value} (h:k38.M w base ok x cs):cs = [.int .i64 x.f0,.int .i64 x.f1,.int .i64 x.f2,.int .i64 x.f3,.int .i64 x.f4]:=by
 obtain ⟨_,_,rfl,rfl,⟨_,_,rfl,rfl,⟨_,_,rfl,rfl,⟨_,_,rfl,rfl,rfl⟩⟩⟩⟩:=h
 exact rfl
theorem k38_mk (w:World) (x:S38) :k38.K w x [.int .i64 x.f0,.int .i64 x.f1,.int .i64 x.f2,.int .i64 x.f3,.int .i64 x.f4]:=⟨[.int .i64 x.f0],[.int .i64 x.f1,.int .i64 x.f2,.int .i64 x.f3,.int .i64 x.f4],rfl,rfl,⟨[.int .i64 x.f1],[.int .i64 x.f2,.int .i64 x.f3,.int .i64 x.f4],rfl,rfl,⟨[.int .i64 x.f2],[.int .i64 x.f3,.int .i64 x.f4],rfl,rfl,⟨[.int .i64 x.f3],[.int .i64 x.f4],rfl,rfl,rfl⟩⟩⟩⟩
theorem k38_mkM (w:World) (base:Nat) (ok:Nat → Prop) (x:S38) :k38.M w base ok x [.int .i64 x.f0,.int .i64 x.f1,.int .i64 x.f2,.int .i64 x.f3,.int .i64 x.f4]:=⟨[.int .i64 x.f0],[.int .i64 x.f1,.int .i64 x.f2,.int .i64 x.f3,.int .i64 x.f4],rfl,rfl,⟨[.int .i64 x.f1],[.int .i64 x.f2,.int .i64 x.f3,.int .i64 x.f4],rfl,rfl,⟨[.int .i64 x.f2],[.int .i64 x.f3,.int .i64 x.f4],rfl,rfl,⟨[.int .i64 x.f3],[.int .i64 x.f4],rfl,rfl,rfl⟩⟩⟩⟩
def rd_T38 (xs:List S38) (i:Int):S38:=xs.getD i.toNat z38
theorem at_T38 {w:World} {A:Option Addr} {n:Nat} {xs:List S38} (h:Kd.C k38 w A n xs) (i:Int) (h0:0 ≤ i) (h1:i < n):∃ ad ,A = some ad ∧ w.cell? (ad.add (i.toNat * 5)) = some (.int .i64 (rd_T38 xs i).f0) ∧ w.cell? ⟨(ad.add (i.toNat * 5)).block,(ad.add (i.toNat * 5)).off + 1,none⟩ = some (.int .i64 (rd_T38 xs i).f1) ∧ w.cell? ⟨(ad.add (i.toNat * 5)).block,(ad.add (i.toNat * 5)).off + 2,none⟩ = some (.int .i64 (rd_T38 xs i).f2) ∧ w.cell? ⟨(ad.add (i.toNat * 5)).block,(ad.add (i.toNat * 5)).off + 3,none⟩ = some (.int .i64 (rd_T38 xs i).f3) ∧ w.cell? ⟨(ad.add (i.toNat * 5)).block,(ad.add (i.toNat * 5)).off + 4,none⟩ = some (.int .i64 (rd_T38 xs i).f4):=by
 obtain ⟨ad,c,e,_,hK,hc0⟩:=Kd.C_get h z38 i h0 h1
 have hc:∀ j u,c[j]? = some u → w.cell? (ad.add (i.toNat * 5 + j)) = some u:=hc0
 obtain rfl:=k38_open hK
 exact v3
def rd_L6 (xs:List (List S38)) (i:Int):(List S38):=xs.getD i.toNat ([]:List S38)
theorem at_L6 {w:World} {A:Option Addr} {n:Nat} {xs:List (List S38)} (h:Kd.C (Kd.slice 38 k38) w A n xs) (i:Int) (h0:0 ≤ i) (h1:i < n):∃ ad A0 c0,A = some ad ∧ w.cell? (ad.add i.toNat) = some (.slice A0 (rd_L6 xs i).length c0) ∧ (rd_L6 xs i).length ≤ c0 ∧ k38.C w A0 (rd_L6 xs i).length (rd_L6 xs i):=by
 obtain ⟨ad,c,e,_,hK,hc0⟩:=Kd.C_get h ([]:List S38) i h0 h1
 have hc:∀ j u,c[j]? = some u → w.cell? (ad.add (i.toNat * 1 + j)) = some u:=hc0
 obtain ⟨A0,c0,rfl,l0,g0⟩:=hK
 exact vp
def rd_L7 (xs:List (List (List S38))) (i:Int):(List (List S38)):=xs.getD i.toNat ([]:List (List S38))
structure S59 where
 f0:(List (List S38))
def z59:S59:=⟨([]:List (List S38))⟩
def k59:Kd S59:=Kd.iso (Kd.slice 45 (Kd.slice 38 k38)) (fun x:S59=>x.f0)
theorem k59_open {w:World} {x:S59} {cs:List Value} (h:k59.K w x cs):∃ A0 c0,cs = [.slice A0 x.f0.length c0] ∧ x.f0.length ≤ c0 ∧ (Kd.slice 38 k38).C w A0 x.f0.length x.f0:=by
 obtain ⟨A0,c0,rfl,l0,g0⟩:=h
 exact ⟨A0,c0,rfl,l0,g0⟩
theorem k59_openM {w:World} {base:Nat} {ok:Nat → Prop} {x:S59} {cs:List Value} (h:k59.M w base ok x cs):∃ v0,cs = [v0] ∧ (Kd.slice 38 k38).R 45 w base ok v0 x.f0:=by
 obtain ⟨v0,rfl,g0⟩:=h
 exact ⟨v0,rfl,g0⟩
theorem k59_mk (w:World) (x:S59) {A0:Option Addr} {c0:Nat} (l0:x.f0.length ≤ c0) (g0:(Kd.slice 38 k38).C w A0 x.f0.length x.f0):k59.K w x [.slice A0 x.f0.length c0]:=⟨A0,c0,rfl,l0,g0⟩
theorem k59_mkM (w:World) (base:Nat) (ok:Nat → Prop) (x:S59) {v0:Value} (g0:(Kd.slice 38 k38).R 45 w base ok v0 x.f0):k59.M w base ok x [v0]:=⟨v0,rfl,g0⟩
def rd_T59 (xs:List S59) (i:Int):S59:=xs.getD i.toNat z59
theorem at_T59 {w:World} {A:Option Addr} {n:Nat} {xs:List S59} (h:Kd.C k59 w A n xs) (i:Int) (h0:0 ≤ i) (h1:i < n):∃ ad A0 c0,A = some ad ∧ w.cell? (ad.add i.toNat) = some (.slice A0 (rd_T59 xs i).f0.length c0) ∧ (rd_T59 xs i).f0.length ≤ c0 ∧ (Kd.slice 38 k38).C w A0 (rd_T59 xs i).f0.length (rd_T59 xs i).f0:=by
 obtain ⟨ad,c,e,_,hK,hc0⟩:=Kd.C_get h z59 i h0 h1
 have hc:∀ j u,c[j]? = some u → w.cell? (ad.add (i.toNat * 1 + j)) = some u:=hc0
 obtain ⟨A0,c0,rfl,l0,g0⟩:=k59_open hK
 exact vp
end Go.Proofs.Ytamjbjkbineafaa.PFnExactTreePut

namespace Go.Proofs.Ytamjbjkbineafaa.PFnExactTreePut
open Go.RowKit Go.Proofs.YtamjbjkbineafaaW.PrintWords Go.Proofs.YtamjbjkbineafaaW.PrintLast Go.Proofs.YtamjbjkbineafaaW.PrintMore
attribute [local go_sem] max2_int min2_int max_two min_two max_three min_three max_four min_four   -- for this text's walks alone
set_option linter.unusedVariables false
set_option linter.unusedSimpArgs false
def laws_szIntS.f (l0:List Int) (a1:Int):Option (Int):=if (wrap64 (a1 - (l0.length:Int))) < 0 then (some (-1)) else (some (wrap64 (a1 - (l0.length:Int))))
set_option maxHeartbeats 8000000 in
set_option maxRecDepth 100000 in
theorem laws_szIntS.calls (A0:Option Addr) (c0:Nat) (l0:List Int) (a1:Int) (r:Int) (w:World) (hr0:Kd.C (Kd.int .i64) w A0 l0.length l0) (hc0:l0.length ≤ c0) (h:laws_szIntS.f l0 a1 = some r) :
  Calls Try.prog 24 #[.slice A0 l0.length c0,.int .i64 a1] w fun e w'=>e = .returned (.int .i64 r) ∧ aU w w':=by
 have HR0:=aA.mk hr0
 have HC0:=aA.mk hc0
 clear hr0 hc0
 have H:(if (wrap64 (a1 - (l0.length:Int))) < 0 then (some (-1)) else (some (wrap64 (a1 - (l0.length:Int))))) = some r:=h
 clear h
 by_cases c3:(wrap64 (a1 - (l0.length:Int))) < 0
 ·rw [if_pos c3] at H
  have c3b0:decide ((wrap64 (a1 - (l0.length:Int))) < 0) = true:=decide_eq_true c3
  clear c3
  obtain rfl:=Option.some.inj H
  go_enter Try.func24,Try.ntmps24
  go_wp2
  go_ret
  exact tR
 ·rw [if_neg c3] at H
  have c3b0:decide ((wrap64 (a1 - (l0.length:Int))) < 0) = false:=decide_eq_false c3
  clear c3
  obtain rfl:=Option.some.inj H
  go_enter Try.func24,Try.ntmps24
  go_wp2
  go_ret
  exact tR
def laws_szKeyS.f (l0:List (S48)) (a1:Int):Option (Int):=if (wrap64 (a1 - (l0.length:Int))) < 0 then (some (-1)) else (some (wrap64 (a1 - (l0.length:Int))))
set_option maxHeartbeats 8000000 in
set_option maxRecDepth 100000 in
theorem laws_szKeyS.calls (A0:Option Addr) (c0:Nat) (l0:List (S48)) (a1:Int) (r:Int) (w:World) (hr0:Kd.C k48 w A0 l0.length l0) (hc0:l0.length ≤ c0) (h:laws_szKeyS.f l0 a1 = some r) :
  Calls Try.prog 103 #[.slice A0 l0.length c0,.int .i64 a1] w fun e w'=>e = .returned (.int .i64 r) ∧ aU w w':=by
 have HR0:=aA.mk hr0
 have HC0:=aA.mk hc0
 clear hr0 hc0
 have H:(if (wrap64 (a1 - (l0.length:Int))) < 0 then (some (-1)) else (some (wrap64 (a1 - (l0.length:Int))))) = some r:=h
 clear h
 by_cases c3:(wrap64 (a1 - (l0.length:Int))) < 0
 ·rw [if_pos c3] at H
  have c3b0:decide ((wrap64 (a1 - (l0.length:Int))) < 0) = true:=decide_eq_true c3
  clear c3
  obtain rfl:=Option.some.inj H
  go_enter Try.func103,Try.ntmps103
  go_wp2
  go_ret
  exact tR
 ·rw [if_neg c3] at H
  have c3b0:decide ((wrap64 (a1 - (l0.length:Int))) < 0) = false:=decide_eq_false c3
  clear c3
  obtain rfl:=Option.some.inj H
  go_enter Try.func103,Try.ntmps103
  go_wp2
  go_ret
  exact tR
def laws_szKeySS.l0:Nat → List (List (S48)) → Int → Int → Option (Int)
 | 0,_,_,_=>none
 | k + 1,x0,x1,x5=>if x5 < (x0.length:Int) then (if 0 ≤ x5 then ((laws_szKeyS.f (rd_L2 x0 x5) x1).bind fun t102=>(if t102 < 0 then (some (-1)) else (laws_szKeySS.l0 k x0 t102 (wrap64 (x5 + 1))))) else (none)) else (some x1)
def laws_szKeySS.f (k:Nat) (l0:List (List (S48))) (a1:Int):Option (Int):=if (wrap64 (a1 - (l0.length:Int))) < 0 then (some (-1)) else (laws_szKeySS.l0 k l0 (wrap64 (a1 - (l0.length:Int))) 0)
set_option maxHeartbeats 8000000 in
set_option maxRecDepth 100000 in
theorem laws_szKeySS.calls (k:Nat) (A0:Option Addr) (c0:Nat) (l0:List (List (S48))) (a1:Int) (r:Int) (w:World) (hr0:Kd.C (Kd.slice 48 k48) w A0 l0.length l0) (hc0:l0.length ≤ c0) (h:laws_szKeySS.f k l0 a1 = some r) :
  Calls Try.prog 92 #[.slice A0 l0.length c0,.int .i64 a1] w fun e w'=>e = .returned (.int .i64 r) ∧ aU w w':=by
 have HR0:=aA.mk hr0
 have HC0:=aA.mk hc0
 clear hr0 hc0
 have H:(if (wrap64 (a1 - (l0.length:Int))) < 0 then (some (-1)) else (laws_szKeySS.l0 k l0 (wrap64 (a1 - (l0.length:Int))) 0)) = some r:=h
 clear h
 by_cases c3:(wrap64 (a1 - (l0.length:Int))) < 0
 ·rw [if_pos c3] at H
  have c3b0:decide ((wrap64 (a1 - (l0.length:Int))) < 0) = true:=decide_eq_true c3
  clear c3
  obtain rfl:=Option.some.inj H
  go_enter Try.func92,Try.ntmps92
  go_wp2
  go_ret
  exact tR
 ·rw [if_neg c3] at H
  have c3b0:decide ((wrap64 (a1 - (l0.length:Int))) < 0) = false:=decide_eq_false c3
  clear c3
  have H':=aA.mk H
  clear H
  go_enter Try.func92,Try.ntmps92
  go_wp2
  go_loopg [1,5] k (fun kq v1 v5 w'=>∃ (x1_1:Int) (x5_1:Int),v1 = .int .i64 x1_1 ∧ v5 = .int .i64 x5_1 ∧ aA (laws_szKeySS.l0 kq l0 x1_1 x5_1 = some r) ∧ aA (kq ≤ k) ∧ aU w w')
  case atStart=>exact ⟨(wrap64 (a1 - (l0.length:Int))),(0),tK,tK,H',⟨Nat.le_refl _⟩,t7⟩
  case round =>
   clear H'
   try clear p2
   try clear c3
   try clear c3b0
   obtain ⟨x1_1,x5_1,rfl,rfl,HA,HK1,⟨m1,rfl⟩⟩:=hrel
   cases gk with
   | zero=>exact absurd HA.out (by simp [laws_szKeySS.l0])
   | succ k1 =>
    have H:=HA.out
    clear HA
    simp only [laws_szKeySS.l0] at H
    by_cases c4:x5_1 < (l0.length:Int)
    ·rw [if_pos c4] at H
     have c4b0:decide (x5_1 < (l0.length:Int)) = true:=decide_eq_true c4
     clear c4
     by_cases c5:0 ≤ x5_1
     ·rw [if_pos c5] at H
      have c5b0:decide (0 ≤ x5_1) = true:=decide_eq_true c5
      clear c5
      replace H:=lF H
      obtain ⟨t102,A60,H⟩:=H
      replace H:(if t102 < 0 then (some (-1)) else (laws_szKeySS.l0 k1 l0 t102 (wrap64 (x5_1 + 1)))) = some r:=H
      have A6:=aA.mk A60
      clear A60
      by_cases c7:t102 < 0
      ·rw [if_pos c7] at H
       have c7b0:decide (t102 < 0) = true:=decide_eq_true c7
       clear c7
       obtain rfl:=Option.some.inj H
       have p101:0 ≤ (x5_1:Int):=lE tC
       have q101:x5_1 < (l0.length:Int):=lE tC
       obtain ⟨ad101,A101_0,c101_0,e101,hx101_0,hl101_0,hi101_0⟩:=at_L2 HR0.out x5_1 p101 q101
       cases e101
       have HR101_0:=aA.mk hi101_0
       have HC101_0:=aA.mk hl101_0
       clear hi101_0 hl101_0
       replace p101:=eq_true p101
       replace q101:=eq_true q101
       go_wp2_with (first|((with_reducible refine aT (f:=103) rfl ?_);refine goesL_ (some 23) rfl rfl Try.func103 tF rfl #[.slice A101_0 (rd_L2 l0 x5_1).length c101_0,.int .i64 x1_1] rfl tA ?_;(with_reducible refine (laws_szKeyS.calls _ _ (rd_L2 l0 x5_1) x1_1 t102 _ ?side1 ?side2 A6.out).mono ?_);(case side1=>repeat (first|exact HR101_0.out|(with_reducible refine Kd.C_alloc ?_ _)|(with_reducible refine Kd.C_drewN ?_ _)|(with_reducible refine Kd.C_drew ?_)));(case side2=>exact HC101_0.out);rintro e w' ⟨rfl,⟨nd,rfl⟩⟩;refine ⟨_,rfl,?_⟩))
       go_ret
       exact tR
      ·rw [if_neg c7] at H
       have c7b0:decide (t102 < 0) = false:=decide_eq_false c7
       clear c7
       have H':=aA.mk H
       clear H
       have p101:0 ≤ (x5_1:Int):=lE tC
       have q101:x5_1 < (l0.length:Int):=lE tC
       obtain ⟨ad101,A101_0,c101_0,e101,hx101_0,hl101_0,hi101_0⟩:=at_L2 HR0.out x5_1 p101 q101
       cases e101
       have HR101_0:=aA.mk hi101_0
       have HC101_0:=aA.mk hl101_0
       clear hi101_0 hl101_0
       replace p101:=eq_true p101
       replace q101:=eq_true q101
       go_wp2_with (first|((with_reducible refine aT (f:=103) rfl ?_);refine goesL_ (some 23) rfl rfl Try.func103 tF rfl #[.slice A101_0 (rd_L2 l0 x5_1).length c101_0,.int .i64 x1_1] rfl tA ?_;(with_reducible refine (laws_szKeyS.calls _ _ (rd_L2 l0 x5_1) x1_1 t102 _ ?side1 ?side2 A6.out).mono ?_);(case side1=>repeat (first|exact HR101_0.out|(with_reducible refine Kd.C_alloc ?_ _)|(with_reducible refine Kd.C_drewN ?_ _)|(with_reducible refine Kd.C_drew ?_)));(case side2=>exact HC101_0.out);rintro e w' ⟨rfl,⟨nd,rfl⟩⟩;refine ⟨_,rfl,?_⟩))
       go_roundg k1
       case measure=>have:=HK1.out;omega
       case rel=>exact ⟨(t102),(wrap64 (x5_1 + 1)),tK,tK,H',⟨vM⟩,t7⟩
     ·rw [if_neg c5] at H
      exact vX
    ·rw [if_neg c4] at H
     have c4b0:decide (x5_1 < (l0.length:Int)) = false:=decide_eq_false c4
     clear c4
     obtain rfl:=Option.some.inj H
     go_wp2
     go_ret
     exact tR
def laws_szNode.f (k:Nat) (l0_0:List (List (S48))) (a1:Int):Option (Int):=(laws_szKeySS.f k l0_0 a1).bind fun t104=>(if t104 < 0 then (some (-1)) else (some t104))
set_option maxHeartbeats 8000000 in
set_option maxRecDepth 100000 in
theorem laws_szNode.calls (k:Nat) (A0_0:Option Addr) (c0_0:Nat) (l0_0:List (List (S48))) (a1:Int) (r:Int) (w:World) (hr0_0:Kd.C (Kd.slice 48 k48) w A0_0 l0_0.length l0_0) (hc0_0:l0_0.length ≤ c0_0) (h:laws_szNode.f k l0_0 a1 = some r) :
  Calls Try.prog 66 #[.agg #[.slice A0_0 l0_0.length c0_0],.int .i64 a1] w fun e w'=>e = .returned (.int .i64 r) ∧ Below w.heap.size w w':=by
 have hu87:=Try.underlying87
 have HR0_0:=aA.mk hr0_0
 have HC0_0:=aA.mk hc0_0
 clear hr0_0 hc0_0
 have HB:=aA.mk (Below.refl w.heap.size w)
 have H:((laws_szKeySS.f k l0_0 a1).bind fun t104=>(if t104 < 0 then (some (-1)) else (some t104))) = some r:=h
 clear h
 replace H:=lF H
 obtain ⟨t104,A30,H⟩:=H
 replace H:(if t104 < 0 then (some (-1)) else (some t104)) = some r:=H
 have A3:=aA.mk A30
 clear A30
 by_cases c4:t104 < 0
 ·rw [if_pos c4] at H
  have c4b0:decide (t104 < 0) = true:=decide_eq_true c4
  clear c4
  obtain rfl:=Option.some.inj H
  go_enter Try.func66,Try.ntmps66
  go_wp2_with (first|((with_reducible refine aX (N:=2) rfl ?_);refine aW ?hg (N:=2) ?hd (cs:=#[.slice A0_0 l0_0.length c0_0]) (t:=87) ?hr ?_;(case hd=>rfl);(case hg=>rfl);(case hr=>exact tP);intro gb103 hg w5 hbox hb;have n0_:=aA.mk (aJ tB hb);have n1_:=aA.mk (hbox);have n2_:=aA.mk ((by rw [hg];exact (aM tB):w.heap.size ≤ gb103));have n3_:=aA.mk ((by rw [hg];exact (aM tB):w.heap.size ≤ gb103));clear HB;have HB:=n0_;have BK103:=n1_;have GW103:=n2_;have GE103:=n3_;clear n0_ n1_ n2_ n3_;clear hb hbox hg;have hcz6_0:w5.cell? ⟨gb103,0,none⟩ = some (.slice A0_0 l0_0.length c0_0):=(aB BK103.out 0).trans rfl;have hfz6_0:=aC BK103.out 0)|((with_reducible refine aT (f:=92) rfl ?_);refine goesL_ (some 8) rfl rfl Try.func92 tF rfl #[.slice A0_0 l0_0.length c0_0,.int .i64 a1] rfl tA ?_;(with_reducible refine (laws_szKeySS.calls k _ _ l0_0 a1 t104 _ ?side1 ?side2 A3.out).mono ?_);(case side1=>exact tL);(case side2=>exact HC0_0.out);rintro e w' ⟨rfl,⟨nd,rfl⟩⟩;refine ⟨_,rfl,?_⟩))
  go_ret
  exact ⟨tG,by repeat (first|(with_reducible first|exact HB.out|apply aF|apply aD|apply aE|refine aH ?_ GE103.out)|exact HB.out)⟩
 ·rw [if_neg c4] at H
  have c4b0:decide (t104 < 0) = false:=decide_eq_false c4
  clear c4
  obtain rfl:=Option.some.inj H
  go_enter Try.func66,Try.ntmps66
  go_wp2_with (first|((with_reducible refine aX (N:=2) rfl ?_);refine aW ?hg (N:=2) ?hd (cs:=#[.slice A0_0 l0_0.length c0_0]) (t:=87) ?hr ?_;(case hd=>rfl);(case hg=>rfl);(case hr=>exact tP);intro gb103 hg w7 hbox hb;have n0_:=aA.mk (aJ tB hb);have n1_:=aA.mk (hbox);have n2_:=aA.mk ((by rw [hg];exact (aM tB):w.heap.size ≤ gb103));have n3_:=aA.mk ((by rw [hg];exact (aM tB):w.heap.size ≤ gb103));clear HB;have HB:=n0_;have BK103:=n1_;have GW103:=n2_;have GE103:=n3_;clear n0_ n1_ n2_ n3_;clear hb hbox hg;have hcz8_0:w7.cell? ⟨gb103,0,none⟩ = some (.slice A0_0 l0_0.length c0_0):=(aB BK103.out 0).trans rfl;have hfz8_0:=aC BK103.out 0)|((with_reducible refine aT (f:=92) rfl ?_);refine goesL_ (some 8) rfl rfl Try.func92 tF rfl #[.slice A0_0 l0_0.length c0_0,.int .i64 a1] rfl tA ?_;(with_reducible refine (laws_szKeySS.calls k _ _ l0_0 a1 t104 _ ?side1 ?side2 A3.out).mono ?_);(case side1=>exact tL);(case side2=>exact HC0_0.out);rintro e w' ⟨rfl,⟨nd,rfl⟩⟩;refine ⟨_,rfl,?_⟩))
  go_ret
  exact ⟨tG,by repeat (first|(with_reducible first|exact HB.out|apply aF|apply aD|apply aE|refine aH ?_ GE103.out)|exact HB.out)⟩
def laws_szNodeS.l0:Nat → List (S87) → Int → Int → Option (Int)
 | 0,_,_,_=>none
 | k + 1,x0,x1,x5=>if x5 < (x0.length:Int) then (if 0 ≤ x5 then ((laws_szNode.f k ((rd_T87 x0 x5).f0) x1).bind fun t106=>(if t106 < 0 then (some (-1)) else (laws_szNodeS.l0 k x0 t106 (wrap64 (x5 + 1))))) else (none)) else (some x1)
def laws_szNodeS.f (k:Nat) (l0:List (S87)) (a1:Int):Option (Int):=if (wrap64 (a1 - (l0.length:Int))) < 0 then (some (-1)) else (laws_szNodeS.l0 k l0 (wrap64 (a1 - (l0.length:Int))) 0)
set_option maxHeartbeats 8000000 in
set_option maxRecDepth 100000 in
theorem laws_szNodeS.calls (k:Nat) (A0:Option Addr) (c0:Nat) (l0:List (S87)) (a1:Int) (r:Int) (w:World) (hr0:Kd.C k87 w A0 l0.length l0) (hc0:l0.length ≤ c0) (h:laws_szNodeS.f k l0 a1 = some r) :
  Calls Try.prog 25 #[.slice A0 l0.length c0,.int .i64 a1] w fun e w'=>e = .returned (.int .i64 r) ∧ Below w.heap.size w w':=by
 have hu87:=Try.underlying87
 have HR0:=aA.mk hr0
 have HC0:=aA.mk hc0
 clear hr0 hc0
 have HB:=aA.mk (Below.refl w.heap.size w)
 have H:(if (wrap64 (a1 - (l0.length:Int))) < 0 then (some (-1)) else (laws_szNodeS.l0 k l0 (wrap64 (a1 - (l0.length:Int))) 0)) = some r:=h
 clear h
 by_cases c3:(wrap64 (a1 - (l0.length:Int))) < 0
 ·rw [if_pos c3] at H
  have c3b0:decide ((wrap64 (a1 - (l0.length:Int))) < 0) = true:=decide_eq_true c3
  clear c3
  obtain rfl:=Option.some.inj H
  go_enter Try.func25,Try.ntmps25
  go_wp2
  go_ret
  exact ⟨tG,tN⟩
 ·rw [if_neg c3] at H
  have c3b0:decide ((wrap64 (a1 - (l0.length:Int))) < 0) = false:=decide_eq_false c3
  clear c3
  have H':=aA.mk H
  clear H
  go_enter Try.func25,Try.ntmps25
  go_wp2
  go_loopg [1,5] k (fun kq v1 v5 w'=>∃ (x1_1:Int) (x5_1:Int),v1 = .int .i64 x1_1 ∧ v5 = .int .i64 x5_1 ∧ aA (laws_szNodeS.l0 kq l0 x1_1 x5_1 = some r) ∧ aA (kq ≤ k) ∧ aA (Below w.heap.size w w'))
  case atStart=>exact ⟨(wrap64 (a1 - (l0.length:Int))),(0),tK,tK,H',⟨Nat.le_refl _⟩,⟨tN⟩⟩
  case round =>
   clear H'
   try clear c2
   try clear p2
   try clear c3
   try clear c3b0
   obtain ⟨x1_1,x5_1,rfl,rfl,HA,HK1,HB⟩:=hrel
   cases gk with
   | zero=>exact absurd HA.out (by simp [laws_szNodeS.l0])
   | succ k1 =>
    have H:=HA.out
    clear HA
    simp only [laws_szNodeS.l0] at H
    by_cases c4:x5_1 < (l0.length:Int)
    ·rw [if_pos c4] at H
     have c4b0:decide (x5_1 < (l0.length:Int)) = true:=decide_eq_true c4
     clear c4
     by_cases c5:0 ≤ x5_1
     ·rw [if_pos c5] at H
      have c5b0:decide (0 ≤ x5_1) = true:=decide_eq_true c5
      clear c5
      replace H:=lF H
      obtain ⟨t106,A60,H⟩:=H
      replace H:(if t106 < 0 then (some (-1)) else (laws_szNodeS.l0 k1 l0 t106 (wrap64 (x5_1 + 1)))) = some r:=H
      have A6:=aA.mk A60
      clear A60
      by_cases c7:t106 < 0
      ·rw [if_pos c7] at H
       have c7b0:decide (t106 < 0) = true:=decide_eq_true c7
       clear c7
       obtain rfl:=Option.some.inj H
       have p105:0 ≤ (x5_1:Int):=lE tC
       have q105:x5_1 < (l0.length:Int):=lE tC
       obtain ⟨ad105,A105_0,c105_0,e105,hx105_0,hl105_0,hi105_0⟩:=at_T87 HR0.out x5_1 p105 q105
       cases e105
       replace hx105_0:=(HB.out.cell (lD w _ hx105_0)).trans hx105_0
       have HR105_0:=aA.mk hi105_0
       have HC105_0:=aA.mk hl105_0
       clear hi105_0 hl105_0
       replace p105:=eq_true p105
       replace q105:=eq_true q105
       go_wp2_with (first|((with_reducible refine aT (f:=66) rfl ?_);refine goesL_ (some 23) rfl rfl Try.func66 tF rfl #[.agg #[.slice A105_0 ((rd_T87 l0 x5_1).f0).length c105_0],.int .i64 x1_1] rfl tA ?_;(with_reducible refine (laws_szNode.calls k1 _ _ ((rd_T87 l0 x5_1).f0) x1_1 t106 _ ?side1 ?side2 A6.out).mono ?_);(case side1=>repeat (first|exact (Kd.aV HR105_0.out HB.out)|(with_reducible refine Kd.C_alloc ?_ _)|(with_reducible refine Kd.C_drewN ?_ _)|(with_reducible refine Kd.C_drew ?_)));(case side2=>exact HC105_0.out);rintro e w8 ⟨rfl,hb⟩;refine ⟨_,rfl,?_⟩;have n0_:=aA.mk (aJ tB hb);clear HB;have HB:=n0_;clear n0_;(try clear hb)))
       go_ret
       exact ⟨tG,tN⟩
      ·rw [if_neg c7] at H
       have c7b0:decide (t106 < 0) = false:=decide_eq_false c7
       clear c7
       have H':=aA.mk H
       clear H
       have p105:0 ≤ (x5_1:Int):=lE tC
       have q105:x5_1 < (l0.length:Int):=lE tC
       obtain ⟨ad105,A105_0,c105_0,e105,hx105_0,hl105_0,hi105_0⟩:=at_T87 HR0.out x5_1 p105 q105
       cases e105
       replace hx105_0:=(HB.out.cell (lD w _ hx105_0)).trans hx105_0
       have HR105_0:=aA.mk hi105_0
       have HC105_0:=aA.mk hl105_0
       clear hi105_0 hl105_0
       replace p105:=eq_true p105
       replace q105:=eq_true q105
       go_wp2_with (first|((with_reducible refine aT (f:=66) rfl ?_);refine goesL_ (some 23) rfl rfl Try.func66 tF rfl #[.agg #[.slice A105_0 ((rd_T87 l0 x5_1).f0).length c105_0],.int .i64 x1_1] rfl tA ?_;(with_reducible refine (laws_szNode.calls k1 _ _ ((rd_T87 l0 x5_1).f0) x1_1 t106 _ ?side1 ?side2 A6.out).mono ?_);(case side1=>repeat (first|exact (Kd.aV HR105_0.out HB.out)|(with_reducible refine Kd.C_alloc ?_ _)|(with_reducible refine Kd.C_drewN ?_ _)|(with_reducible refine Kd.C_drew ?_)));(case side2=>exact HC105_0.out);rintro e w9 ⟨rfl,hb⟩;refine ⟨_,rfl,?_⟩;have n0_:=aA.mk (aJ tB hb);clear HB;have HB:=n0_;clear n0_;(try clear hb)))
       go_roundg k1
       case measure=>have:=HK1.out;omega
       case rel=>exact ⟨(t106),(wrap64 (x5_1 + 1)),tK,tK,H',⟨vM⟩,⟨tN⟩⟩
     ·rw [if_neg c5] at H
      exact vX
    ·rw [if_neg c4] at H
     have c4b0:decide (x5_1 < (l0.length:Int)) = false:=decide_eq_false c4
     clear c4
     obtain rfl:=Option.some.inj H
     go_wp2
     go_ret
     exact ⟨tG,tN⟩
def laws_szTree.f (k:Nat) (l0_0:List Int) (l0_1:List (S87)) (a1:Int):Option (Int):=(laws_szIntS.f l0_0 a1).bind fun t108=>(if t108 < 0 then (some (-1)) else ((laws_szNodeS.f k l0_1 t108).bind fun t109=>(if t109 < 0 then (some (-1)) else (some t109))))
set_option maxHeartbeats 8000000 in
set_option maxRecDepth 100000 in
theorem laws_szTree.calls (k:Nat) (A0_0:Option Addr) (c0_0:Nat) (l0_0:List Int) (A0_1:Option Addr) (c0_1:Nat) (l0_1:List (S87)) (a1:Int) (r:Int) (w:World) (hr0_0:Kd.C (Kd.int .i64) w A0_0 l0_0.length l0_0) (hc0_0:l0_0.length ≤ c0_0) (hr0_1:Kd.C k87 w A0_1 l0_1.length l0_1) (hc0_1:l0_1.length ≤ c0_1) (h:laws_szTree.f k l0_0 l0_1 a1 = some r) :
  Calls Try.prog 6 #[.agg #[.slice A0_0 l0_0.length c0_0,.slice A0_1 l0_1.length c0_1],.int .i64 a1] w fun e w'=>e = .returned (.int .i64 r) ∧ Below w.heap.size w w':=by
 have hu25:=Try.underlying25
 have HR0_0:=aA.mk hr0_0
 have HC0_0:=aA.mk hc0_0
 clear hr0_0 hc0_0
 have HR0_1:=aA.mk hr0_1
 have HC0_1:=aA.mk hc0_1
 clear hr0_1 hc0_1
 have HB:=aA.mk (Below.refl w.heap.size w)
 have H:((laws_szIntS.f l0_0 a1).bind fun t108=>(if t108 < 0 then (some (-1)) else ((laws_szNodeS.f k l0_1 t108).bind fun t109=>(if t109 < 0 then (some (-1)) else (some t109))))) = some r:=h
 clear h
 replace H:=lF H
 obtain ⟨t108,A30,H⟩:=H
 replace H:(if t108 < 0 then (some (-1)) else ((laws_szNodeS.f k l0_1 t108).bind fun t109=>(if t109 < 0 then (some (-1)) else (some t109)))) = some r:=H
 have A3:=aA.mk A30
 clear A30
 by_cases c4:t108 < 0
 ·rw [if_pos c4] at H
  have c4b0:decide (t108 < 0) = true:=decide_eq_true c4
  clear c4
  obtain rfl:=Option.some.inj H
  go_enter Try.func6,Try.ntmps6
  go_wp2_with (first|((with_reducible refine aX (N:=2) rfl ?_);refine aW ?hg (N:=2) ?hd (cs:=#[.slice A0_0 l0_0.length c0_0,.slice A0_1 l0_1.length c0_1]) (t:=25) ?hr ?_;(case hd=>rfl);(case hg=>rfl);(case hr=>exact tP);intro gb107 hg w5 hbox hb;have n0_:=aA.mk (aJ tB hb);have n1_:=aA.mk (hbox);have n2_:=aA.mk ((by rw [hg];exact (aM tB):w.heap.size ≤ gb107));have n3_:=aA.mk ((by rw [hg];exact (aM tB):w.heap.size ≤ gb107));clear HB;have HB:=n0_;have BK107:=n1_;have GW107:=n2_;have GE107:=n3_;clear n0_ n1_ n2_ n3_;clear hb hbox hg;have hcz6_0:w5.cell? ⟨gb107,0,none⟩ = some (.slice A0_0 l0_0.length c0_0):=(aB BK107.out 0).trans rfl;have hcz6_1:w5.cell? ⟨gb107,1,none⟩ = some (.slice A0_1 l0_1.length c0_1):=(aB BK107.out 1).trans rfl;have hfz6_0:=aC BK107.out 0;have hfz6_1:=aC BK107.out 1)|((with_reducible refine aT (f:=24) rfl ?_);refine goesL_ (some 8) rfl rfl Try.func24 tF rfl #[.slice A0_0 l0_0.length c0_0,.int .i64 a1] rfl tA ?_;(with_reducible refine (laws_szIntS.calls _ _ l0_0 a1 t108 _ ?side1 ?side2 A3.out).mono ?_);(case side1=>exact tL);(case side2=>exact HC0_0.out);rintro e w' ⟨rfl,⟨nd,rfl⟩⟩;refine ⟨_,rfl,?_⟩))
  go_ret
  exact vn
 ·rw [if_neg c4] at H
  have c4b0:decide (t108 < 0) = false:=decide_eq_false c4
  clear c4
  replace H:=lF H
  obtain ⟨t109,A70,H⟩:=H
  replace H:(if t109 < 0 then (some (-1)) else (some t109)) = some r:=H
  have A7:=aA.mk A70
  clear A70
  by_cases c8:t109 < 0
  ·rw [if_pos c8] at H
   have c8b0:decide (t109 < 0) = true:=decide_eq_true c8
   clear c8
   obtain rfl:=Option.some.inj H
   go_enter Try.func6,Try.ntmps6
   go_wp2_with (first|((with_reducible refine aX (N:=2) rfl ?_);refine aW ?hg (N:=2) ?hd (cs:=#[.slice A0_0 l0_0.length c0_0,.slice A0_1 l0_1.length c0_1]) (t:=25) ?hr ?_;(case hd=>rfl);(case hg=>rfl);(case hr=>exact tP);intro gb107 hg w9 hbox hb;have n0_:=aA.mk (aJ tB hb);have n1_:=aA.mk (hbox);have n2_:=aA.mk ((by rw [hg];exact (aM tB):w.heap.size ≤ gb107));have n3_:=aA.mk ((by rw [hg];exact (aM tB):w.heap.size ≤ gb107));clear HB;have HB:=n0_;have BK107:=n1_;have GW107:=n2_;have GE107:=n3_;clear n0_ n1_ n2_ n3_;clear hb hbox hg;have hcz10_0:w9.cell? ⟨gb107,0,none⟩ = some (.slice A0_0 l0_0.length c0_0):=(aB BK107.out 0).trans rfl;have hcz10_1:w9.cell? ⟨gb107,1,none⟩ = some (.slice A0_1 l0_1.length c0_1):=(aB BK107.out 1).trans rfl;have hfz10_0:=aC BK107.out 0;have hfz10_1:=aC BK107.out 1)|((with_reducible refine aT (f:=24) rfl ?_);refine goesL_ (some 8) rfl rfl Try.func24 tF rfl #[.slice A0_0 l0_0.length c0_0,.int .i64 a1] rfl tA ?_;(with_reducible refine (laws_szIntS.calls _ _ l0_0 a1 t108 _ ?side1 ?side2 A3.out).mono ?_);(case side1=>exact tL);(case side2=>exact HC0_0.out);rintro e w' ⟨rfl,⟨nd,rfl⟩⟩;refine ⟨_,rfl,?_⟩)|((with_reducible refine aT (f:=25) rfl ?_);refine goesL_ (some 14) rfl rfl Try.func25 tF rfl #[.slice A0_1 l0_1.length c0_1,.int .i64 t108] rfl tA ?_;(with_reducible refine (laws_szNodeS.calls k _ _ l0_1 t108 t109 _ ?side1 ?side2 A7.out).mono ?_);(case side1=>repeat (first|exact (Kd.aV HR0_1.out vL)|(with_reducible refine Kd.C_alloc ?_ _)|(with_reducible refine Kd.C_drewN ?_ _)|(with_reducible refine Kd.C_drew ?_)));(case side2=>exact HC0_1.out);rintro e w11 ⟨rfl,hb⟩;refine ⟨_,rfl,?_⟩;have n0_:=aA.mk (aG (g:=gb107) (o:=.cells #[.slice A0_0 l0_0.length c0_0,.slice A0_1 l0_1.length c0_1] 25 (0,0)) (by (with_reducible repeat (first|refine aN ?_ _|refine aL ?_|refine aP ?_ _));exact BK107.out) hb);have n1_:=aA.mk (aJ vL hb);clear BK107;clear HB;have BK107:=n0_;have HB:=n1_;clear n0_ n1_;(try clear hb)))
   go_ret
   exact vn
  ·rw [if_neg c8] at H
   have c8b0:decide (t109 < 0) = false:=decide_eq_false c8
   clear c8
   obtain rfl:=Option.some.inj H
   go_enter Try.func6,Try.ntmps6
   go_wp2_with (first|((with_reducible refine aX (N:=2) rfl ?_);refine aW ?hg (N:=2) ?hd (cs:=#[.slice A0_0 l0_0.length c0_0,.slice A0_1 l0_1.length c0_1]) (t:=25) ?hr ?_;(case hd=>rfl);(case hg=>rfl);(case hr=>exact tP);intro gb107 hg w12 hbox hb;have n0_:=aA.mk (aJ tB hb);have n1_:=aA.mk (hbox);have n2_:=aA.mk ((by rw [hg];exact (aM tB):w.heap.size ≤ gb107));have n3_:=aA.mk ((by rw [hg];exact (aM tB):w.heap.size ≤ gb107));clear HB;have HB:=n0_;have BK107:=n1_;have GW107:=n2_;have GE107:=n3_;clear n0_ n1_ n2_ n3_;clear hb hbox hg;have hcz13_0:w12.cell? ⟨gb107,0,none⟩ = some (.slice A0_0 l0_0.length c0_0):=(aB BK107.out 0).trans rfl;have hcz13_1:w12.cell? ⟨gb107,1,none⟩ = some (.slice A0_1 l0_1.length c0_1):=(aB BK107.out 1).trans rfl;have hfz13_0:=aC BK107.out 0;have hfz13_1:=aC BK107.out 1)|((with_reducible refine aT (f:=24) rfl ?_);refine goesL_ (some 8) rfl rfl Try.func24 tF rfl #[.slice A0_0 l0_0.length c0_0,.int .i64 a1] rfl tA ?_;(with_reducible refine (laws_szIntS.calls _ _ l0_0 a1 t108 _ ?side1 ?side2 A3.out).mono ?_);(case side1=>exact tL);(case side2=>exact HC0_0.out);rintro e w' ⟨rfl,⟨nd,rfl⟩⟩;refine ⟨_,rfl,?_⟩)|((with_reducible refine aT (f:=25) rfl ?_);refine goesL_ (some 14) rfl rfl Try.func25 tF rfl #[.slice A0_1 l0_1.length c0_1,.int .i64 t108] rfl tA ?_;(with_reducible refine (laws_szNodeS.calls k _ _ l0_1 t108 t109 _ ?side1 ?side2 A7.out).mono ?_);(case side1=>repeat (first|exact (Kd.aV HR0_1.out vL)|(with_reducible refine Kd.C_alloc ?_ _)|(with_reducible refine Kd.C_drewN ?_ _)|(with_reducible refine Kd.C_drew ?_)));(case side2=>exact HC0_1.out);rintro e w14 ⟨rfl,hb⟩;refine ⟨_,rfl,?_⟩;have n0_:=aA.mk (aG (g:=gb107) (o:=.cells #[.slice A0_0 l0_0.length c0_0,.slice A0_1 l0_1.length c0_1] 25 (0,0)) (by (with_reducible repeat (first|refine aN ?_ _|refine aL ?_|refine aP ?_ _));exact BK107.out) hb);have n1_:=aA.mk (aJ vL hb);clear BK107;clear HB;have BK107:=n0_;have HB:=n1_;clear n0_ n1_;(try clear hb)))
   go_ret
   exact vn
def laws_toIntS.l0:Nat → List Int → List Int → Int → Option (List Int)
 | 0,_,_,_=>none
 | k + 1,x0,x3,x4=>if x4 < (x0.length:Int) then (if 0 ≤ x4 then (if x4 < (x3.length:Int) then (laws_toIntS.l0 k x0 (x3.set (x4:Int).toNat (rd x0 x4)) (wrap64 (x4 + 1))) else (none)) else (none)) else (some x3)
def laws_toIntS.f (k:Nat) (l0:List Int):Option (List Int):=if 0 ≤ (l0.length:Int) then (if ((l0.length:Int):Int).toNat ≤ 35184372088832 then (laws_toIntS.l0 k l0 (List.replicate ((l0.length:Int):Int).toNat 0) 0) else (none)) else (none)
set_option maxHeartbeats 8000000 in
set_option maxRecDepth 100000 in
theorem laws_toIntS.calls (k:Nat) (A0:Option Addr) (c0:Nat) (l0:List Int) (r:List Int) (w:World) (hr0:Kd.C (Kd.int .i64) w A0 l0.length l0) (hc0:l0.length ≤ c0) (h:laws_toIntS.f k l0 = some r) :
  Calls Try.prog 29 #[.slice A0 l0.length c0] w fun e w'=>∃ v0_:Value,e = .returned (v0_) ∧ Kd.R (Kd.int .i64) 3 w' w.heap.size (fun _=>True) v0_ r ∧ Below w.heap.size w w':=by
 have HR0:=aA.mk hr0
 have HC0:=aA.mk hc0
 clear hr0 hc0
 have HB:=aA.mk (Below.refl w.heap.size w)
 have H:(if 0 ≤ (l0.length:Int) then (if ((l0.length:Int):Int).toNat ≤ 35184372088832 then (laws_toIntS.l0 k l0 (List.replicate ((l0.length:Int):Int).toNat 0) 0) else (none)) else (none)) = some r:=h
 clear h
 by_cases c2:0 ≤ (l0.length:Int)
 ·rw [if_pos c2] at H
  have c2b0:=eq_true c2
  have c2b1:decide (0 ≤ (l0.length:Int)) = true:=decide_eq_true c2
  clear c2
  by_cases c3:((l0.length:Int):Int).toNat ≤ 35184372088832
  ·rw [if_pos c3] at H
   have c3b0:=eq_true c3
   have c3b1:decide (((l0.length:Int):Int).toNat ≤ 35184372088832) = true:=decide_eq_true c3
   clear c3
   obtain ⟨y110,hy110⟩:∃ y_:List Int,y_ = (List.replicate ((l0.length:Int):Int).toNat 0):=⟨_,rfl⟩
   replace H:(laws_toIntS.l0 k l0 y110 0) = some r:=by first|(rw [hy110];with_reducible exact H)|(have H2_:=(Option.bind_some _ _).symm.trans H;rw [hy110];with_reducible exact H2_)|(have H2_:=(Option.bind_some _ _).symm.trans H;with_reducible exact H2_)|with_reducible exact H|(rw [hy110];exact H)|exact H
   have Ny110:=aA.mk hy110
   clear hy110
   have H':=aA.mk H
   clear H
   go_enter Try.func29,Try.ntmps29
   go_wp2_with (first|((with_reducible refine aX (N:=7) rfl ?_);refine Kd.R_make (Kd.int .i64) _ 3 rfl (N:=7) rfl 22 _ _ rfl (l0.length:Int) rfl rfl Try.underlying22 (.int .i64 0) 8 info3 rfl tq tD 0 (ok:=fun _=>True) (okp:=fun _=>True) rfl (fun _ hk=>hk) trivial (lE tC) (Nat.le_trans (Nat.mul_le_mul_right _ (lE tC:(l0.length:Int).toNat ≤ 35184372088832)) tD) (Below.refl _ _) (Nat.le_refl _) ?_;intro v111 w4 ho5 hb hg_ hnew_;clear hg_ hnew_;(first|rw [← Ny110.out] at ho5|(simp only [Int.reduceToNat] at ho5;rw [← Ny110.out] at ho5));have n0_:=aA.mk (Kd.R_lower ho5 (aM tB));have n1_:=aA.mk (aJ tB hb);clear HB;have HO112:=n0_;have HB:=n1_;clear n0_ n1_;clear hb ho5))
   go_loopg [4] k (fun kq v4 w'=>∃ (x3_1:List Int) (x4_1:Int),v4 = .int .i64 x4_1 ∧ aA (laws_toIntS.l0 kq l0 x3_1 x4_1 = some r) ∧ aA (kq ≤ k) ∧ aA (Kd.R (Kd.int .i64) 3 w' w.heap.size (fun _=>True) v111 x3_1) ∧ aA (Below w.heap.size w w'))
   case atStart=>exact ⟨(y110),(0),tK,H',⟨Nat.le_refl _⟩,⟨by (with_reducible repeat (first|apply Kd.R_alloc|apply Kd.R_drewN|apply Kd.R_drew));exact HO112.out⟩,⟨tN⟩⟩
   case round =>
    clear H'
    try clear c2
    try clear c2b0
    try clear c2b1
    try clear p2
    try clear c3
    try clear c3b0
    try clear c3b1
    obtain ⟨x3_1,x4_1,rfl,HA,HK1,HO_3,HB⟩:=hrel
    cases gk with
    | zero=>exact absurd HA.out (by simp [laws_toIntS.l0])
    | succ k1 =>
     have H:=HA.out
     clear HA
     simp only [laws_toIntS.l0] at H
     by_cases c6:x4_1 < (l0.length:Int)
     ·rw [if_pos c6] at H
      have c6b0:decide (x4_1 < (l0.length:Int)) = true:=decide_eq_true c6
      clear c6
      by_cases c7:0 ≤ x4_1
      ·rw [if_pos c7] at H
       have c7b0:decide (0 ≤ x4_1) = true:=decide_eq_true c7
       clear c7
       by_cases c8:x4_1 < (x3_1.length:Int)
       ·rw [if_pos c8] at H
        have c8b0:decide (x4_1 < (x3_1.length:Int)) = true:=decide_eq_true c8
        clear c8
        obtain ⟨y114,hy114⟩:∃ y_:List Int,y_ = (x3_1.set (x4_1:Int).toNat (rd l0 x4_1)):=⟨_,rfl⟩
        replace H:(laws_toIntS.l0 k1 l0 y114 (wrap64 (x4_1 + 1))) = some r:=by first|(rw [hy114];with_reducible exact H)|(have H2_:=(Option.bind_some _ _).symm.trans H;rw [hy114];with_reducible exact H2_)|(have H2_:=(Option.bind_some _ _).symm.trans H;with_reducible exact H2_)|with_reducible exact H|(rw [hy114];exact H)|exact H
        have Ny114:=aA.mk hy114
        clear hy114
        have H':=aA.mk H
        clear H
        have p113:0 ≤ (x4_1:Int):=lE tC
        have q113:x4_1 < (l0.length:Int):=lE tC
        obtain ⟨ad113,e113,hx113_0⟩:=Kd.at_int HR0.out x4_1 p113 q113
        cases e113
        replace hx113_0:=(HB.out.cell (lD w _ hx113_0)).trans hx113_0
        replace p113:=eq_true p113
        replace q113:=eq_true q113
        have p9:0 ≤ (x4_1:Int):=lE tC
        have q9:(x4_1:Int) < ((x3_1.length:Int):Int):=lE tC
        obtain ⟨go9,co9,eo9,gb9,gl9,cl9,HG9⟩:=Kd.R_form HO_3.out tD
        (first|cases eo9|(injection eo9 with ea_ en_ ec_;(first|subst ea_|(injection ea_ with ea_;subst ea_));subst ec_;clear en_))
        have GB9:=aA.mk gb9
        have GG9:=aA.mk HG9
        clear gb9 gl9 HG9
        obtain ⟨hx9_0,hf9_0⟩:=Kd.R_celln 0 HO_3.out (x4_1:Int) p9 q9
        replace p9:=eq_true p9
        replace q9:=eq_true q9
        have HP10:=Kd.R_putg HO_3.out (x4_1:Int) (rd l0 x4_1)
        go_wp2_with (first|((with_reducible refine gate_store (t:=3) (p:=20) rfl ?_);refine store_event (t:=3) (p:=20) (v:=?vo_w11) (w1:=(wr.setCell ⟨go9,(x4_1:Int).toNat,none⟩ (.int .i64 (rd l0 x4_1)))) ?hg ?ho ?hn ?hr ?_;(case ho=>rfl);(case hg=>rfl);(case hn=>rfl);(case hr=>exact tP);intro w11 hw;have hg:wr.grownBy w11 (some go9):=(by rw [hw];exact HP10.2);have hp_:Kd.R (Kd.int .i64) 3 w11 w.heap.size (fun _=>True) (.slice (some ⟨go9,0,none⟩) x3_1.length co9) y114:=(by rw [hw,Ny114.out];exact HP10.1);clear HP10;have n0_:=aA.mk (hp_);have n1_:=aA.mk ((by rw [hw];exact aH (HB.out) GB9.out:Below w.heap.size w w11));clear HO_3;clear HB;have HO_3:=n0_;have HB:=n1_;clear n0_ n1_;clear hg hw hp_))
        go_roundg k1
        case measure=>have:=HK1.out;omega
        case rel=>exact ⟨(y114),(wrap64 (x4_1 + 1)),tK,H',⟨vM⟩,⟨t9⟩,⟨tN⟩⟩
       ·rw [if_neg c8] at H
        exact vX
      ·rw [if_neg c7] at H
       exact vX
     ·rw [if_neg c6] at H
      have c6b0:decide (x4_1 < (l0.length:Int)) = false:=decide_eq_false c6
      clear c6
      obtain rfl:=Option.some.inj H
      go_wp2
      go_ret
      exact ⟨_,tG,t9,tN⟩
  ·rw [if_neg c3] at H
   exact vX
 ·rw [if_neg c2] at H
  exact vX
def laws_toKey.f (a0_0:Int) (a0_1:Int) (a0_2:Int) (a0_3:Int) (a0_4:Int):Option (Int × Int × Int × Int × Int):=some (a0_0,a0_1,a0_2,a0_3,a0_4)
set_option maxHeartbeats 8000000 in
set_option maxRecDepth 100000 in
theorem laws_toKey.calls (a0_0:Int) (a0_1:Int) (a0_2:Int) (a0_3:Int) (a0_4:Int) (r1:Int) (r2:Int) (r3:Int) (r4:Int) (r5:Int) (w:World) (h:laws_toKey.f a0_0 a0_1 a0_2 a0_3 a0_4 = some (r1,r2,r3,r4,r5)) :
  Calls Try.prog 22 #[.agg #[.int .i64 a0_0,.int .i64 a0_1,.int .i64 a0_2,.int .i64 a0_3,.int .i64 a0_4]] w fun e w'=>e = .returned (.agg #[.int .i64 r1,.int .i64 r2,.int .i64 r3,.int .i64 r4,.int .i64 r5]) ∧ Below w.heap.size w w':=by
 have hu48:=Try.underlying48
 have hu38:=Try.underlying38
 have HB:=aA.mk (Below.refl w.heap.size w)
 have H:(some (a0_0,a0_1,a0_2,a0_3,a0_4)) = some (r1,r2,r3,r4,r5):=h
 clear h
 simp only [Option.some.injEq,Prod.mk.injEq] at H
 obtain ⟨rfl,rfl,rfl,rfl,rfl⟩:=H
 go_enter Try.func22,Try.ntmps22
 go_wp2_with (first|((with_reducible refine aX (N:=1) rfl ?_);refine aW ?hg (N:=1) ?hd (cs:=#[.int .i64 a0_0,.int .i64 a0_1,.int .i64 a0_2,.int .i64 a0_3,.int .i64 a0_4]) (t:=48) ?hr ?_;(case hd=>rfl);(case hg=>rfl);(case hr=>exact tP);intro gb115 hg w2 hbox hb;have n0_:=aA.mk (aJ tB hb);have n1_:=aA.mk (hbox);have n2_:=aA.mk ((by rw [hg];exact (aM tB):w.heap.size ≤ gb115));have n3_:=aA.mk ((by rw [hg];exact (aM tB):w.heap.size ≤ gb115));clear HB;have HB:=n0_;have BK115:=n1_;have GW115:=n2_;have GE115:=n3_;clear n0_ n1_ n2_ n3_;clear hb hbox hg)|((with_reducible refine aX (N:=2) rfl ?_);refine aW ?hg (N:=2) ?hd (cs:=#[.int .i64 0,.int .i64 0,.int .i64 0,.int .i64 0,.int .i64 0]) (t:=38) ?hr ?_;(case hd=>rfl);(case hg=>rfl);(case hr=>exact tP);intro gb116 hg w3 hbox hb;have n0_:=aA.mk (aG (g:=gb115) (o:=.cells #[.int .i64 a0_0,.int .i64 a0_1,.int .i64 a0_2,.int .i64 a0_3,.int .i64 a0_4] 48 (0,0)) vA hb);have n1_:=aA.mk (aJ vu hb);have n2_:=aA.mk (hbox);have n3_:=aA.mk ((by rw [hg];exact (aM vu):w.heap.size ≤ gb116));have n4_:=aA.mk ((by rw [hg];exact (aM vu):w.heap.size ≤ gb116));have n5_:=aA.mk ((by rw [hg];exact Nat.ne_of_lt (aY (g:=gb115) (o:=.cells #[.int .i64 a0_0,.int .i64 a0_1,.int .i64 a0_2,.int .i64 a0_3,.int .i64 a0_4] 48 (0,0)) vA):gb115 ≠ gb116));have n6_:=aA.mk ((by rw [hg];exact Nat.ne_of_gt (aY (g:=gb115) (o:=.cells #[.int .i64 a0_0,.int .i64 a0_1,.int .i64 a0_2,.int .i64 a0_3,.int .i64 a0_4] 48 (0,0)) vA):gb116 ≠ gb115));clear BK115;clear HB;have BK115:=n0_;have HB:=n1_;have BK116:=n2_;have GW116:=n3_;have GE116:=n4_;have NB115_116:=n5_;have NB116_115:=n6_;clear n0_ n1_ n2_ n3_ n4_ n5_ n6_;clear hb hbox hg)|((with_reducible refine aX (N:=3) rfl ?_);refine aW ?hg (N:=3) ?hd (cs:=#[.int .i64 0,.int .i64 0,.int .i64 0,.int .i64 0,.int .i64 0]) (t:=38) ?hr ?_;(case hd=>rfl);(case hg=>rfl);(case hr=>exact tP);intro gb117 hg w4 hbox hb;have n0_:=aA.mk (aG (g:=gb115) (o:=.cells #[.int .i64 a0_0,.int .i64 a0_1,.int .i64 a0_2,.int .i64 a0_3,.int .i64 a0_4] 48 (0,0)) vA hb);have n1_:=aA.mk (aG (g:=gb116) (o:=.cells #[.int .i64 0,.int .i64 0,.int .i64 0,.int .i64 0,.int .i64 0] 38 (0,0)) v9 hb);have n2_:=aA.mk (aJ vW hb);have n3_:=aA.mk (hbox);have n4_:=aA.mk ((by rw [hg];exact (aM vW):w.heap.size ≤ gb117));have n5_:=aA.mk ((by rw [hg];exact (aM vW):w.heap.size ≤ gb117));have n6_:=aA.mk ((by rw [hg];exact Nat.ne_of_lt (aY (g:=gb115) (o:=.cells #[.int .i64 a0_0,.int .i64 a0_1,.int .i64 a0_2,.int .i64 a0_3,.int .i64 a0_4] 48 (0,0)) vA):gb115 ≠ gb117));have n7_:=aA.mk ((by rw [hg];exact Nat.ne_of_gt (aY (g:=gb115) (o:=.cells #[.int .i64 a0_0,.int .i64 a0_1,.int .i64 a0_2,.int .i64 a0_3,.int .i64 a0_4] 48 (0,0)) vA):gb117 ≠ gb115));have n8_:=aA.mk ((by rw [hg];exact Nat.ne_of_lt (aY (g:=gb116) (o:=.cells #[.int .i64 0,.int .i64 0,.int .i64 0,.int .i64 0,.int .i64 0] 38 (0,0)) v9):gb116 ≠ gb117));have n9_:=aA.mk ((by rw [hg];exact Nat.ne_of_gt (aY (g:=gb116) (o:=.cells #[.int .i64 0,.int .i64 0,.int .i64 0,.int .i64 0,.int .i64 0] 38 (0,0)) v9):gb117 ≠ gb116));clear BK115;clear BK116;clear HB;have BK115:=n0_;have BK116:=n1_;have HB:=n2_;have BK117:=n3_;have GW117:=n4_;have GE117:=n5_;have NB115_117:=n6_;have NB117_115:=n7_;have NB116_117:=n8_;have NB117_116:=n9_;clear n0_ n1_ n2_ n3_ n4_ n5_ n6_ n7_ n8_ n9_;clear hb hbox hg;have hnb5:=NB115_116.out;have hnc5:=NB116_115.out;have hnb6:=NB115_117.out;have hnc6:=NB117_115.out;have hcz7_0:w4.cell? ⟨gb115,0,none⟩ = some (.int .i64 a0_0):=(aB BK115.out 0).trans rfl;have hcz7_1:w4.cell? ⟨gb115,1,none⟩ = some (.int .i64 a0_1):=(aB BK115.out 1).trans rfl;have hcz7_2:w4.cell? ⟨gb115,2,none⟩ = some (.int .i64 a0_2):=(aB BK115.out 2).trans rfl;have hcz7_3:w4.cell? ⟨gb115,3,none⟩ = some (.int .i64 a0_3):=(aB BK115.out 3).trans rfl;have hcz7_4:w4.cell? ⟨gb115,4,none⟩ = some (.int .i64 a0_4):=(aB BK115.out 4).trans rfl;have hfz7_0:=aC BK115.out 0;have hfz7_1:=aC BK115.out 1;have hfz7_2:=aC BK115.out 2;have hfz7_3:=aC BK115.out 3;have hfz7_4:=aC BK115.out 4;have hnb8:=NB117_116.out;have hnc8:=NB116_117.out;have hcz9_0:w4.cell? ⟨gb117,0,none⟩ = some (.int .i64 0):=(aB BK117.out 0).trans rfl;have hcz9_1:w4.cell? ⟨gb117,1,none⟩ = some (.int .i64 0):=(aB BK117.out 1).trans rfl;have hcz9_2:w4.cell? ⟨gb117,2,none⟩ = some (.int .i64 0):=(aB BK117.out 2).trans rfl;have hcz9_3:w4.cell? ⟨gb117,3,none⟩ = some (.int .i64 0):=(aB BK117.out 3).trans rfl;have hcz9_4:w4.cell? ⟨gb117,4,none⟩ = some (.int .i64 0):=(aB BK117.out 4).trans rfl;have hfz9_0:=aC BK117.out 0;have hfz9_1:=aC BK117.out 1;have hfz9_2:=aC BK117.out 2;have hfz9_3:=aC BK117.out 3;have hfz9_4:=aC BK117.out 4;have hcz10_0:w4.cell? ⟨gb116,0,none⟩ = some (.int .i64 0):=(aB BK116.out 0).trans rfl;have hcz10_1:w4.cell? ⟨gb116,1,none⟩ = some (.int .i64 0):=(aB BK116.out 1).trans rfl;have hcz10_2:w4.cell? ⟨gb116,2,none⟩ = some (.int .i64 0):=(aB BK116.out 2).trans rfl;have hcz10_3:w4.cell? ⟨gb116,3,none⟩ = some (.int .i64 0):=(aB BK116.out 3).trans rfl;have hcz10_4:w4.cell? ⟨gb116,4,none⟩ = some (.int .i64 0):=(aB BK116.out 4).trans rfl;have hfz10_0:=aC BK116.out 0;have hfz10_1:=aC BK116.out 1;have hfz10_2:=aC BK116.out 2;have hfz10_3:=aC BK116.out 3;have hfz10_4:=aC BK116.out 4))
 refine bodyPost_ret (results_cell_row rfl _ _ gb116 38 #[.int .i64 a0_0,.int .i64 a0_1,.int .i64 a0_2,.int .i64 a0_3,.int .i64 a0_4] (0,0) _ rfl (by (with_reducible repeat (first|refine aN ?_ _|refine aL ?_|refine aP ?_ _));refine blk_put (cs:=#[.int .i64 a0_0,.int .i64 a0_1,.int .i64 a0_2,.int .i64 a0_3,.int .i64 0]) ?_ 4 _ rfl;(with_reducible repeat (first|refine aN ?_ _|refine aL ?_|refine aP ?_ _));refine blk_put (cs:=#[.int .i64 a0_0,.int .i64 a0_1,.int .i64 a0_2,.int .i64 0,.int .i64 0]) ?_ 3 _ rfl;(with_reducible repeat (first|refine aN ?_ _|refine aL ?_|refine aP ?_ _));refine blk_put (cs:=#[.int .i64 a0_0,.int .i64 a0_1,.int .i64 0,.int .i64 0,.int .i64 0]) ?_ 2 _ rfl;(with_reducible repeat (first|refine aN ?_ _|refine aL ?_|refine aP ?_ _));refine blk_put (cs:=#[.int .i64 a0_0,.int .i64 0,.int .i64 0,.int .i64 0,.int .i64 0]) ?_ 1 _ rfl;(with_reducible repeat (first|refine aN ?_ _|refine aL ?_|refine aP ?_ _));refine blk_put (cs:=#[.int .i64 0,.int .i64 0,.int .i64 0,.int .i64 0,.int .i64 0]) ?_ 0 _ rfl;(with_reducible repeat (first|refine aN ?_ _|refine aL ?_|refine aP ?_ _));refine blk_far ?_ NB116_117.out _;(with_reducible repeat (first|refine aN ?_ _|refine aL ?_|refine aP ?_ _));refine blk_far ?_ NB116_117.out _;(with_reducible repeat (first|refine aN ?_ _|refine aL ?_|refine aP ?_ _));refine blk_far ?_ NB116_117.out _;(with_reducible repeat (first|refine aN ?_ _|refine aL ?_|refine aP ?_ _));refine blk_far ?_ NB116_117.out _;(with_reducible repeat (first|refine aN ?_ _|refine aL ?_|refine aP ?_ _));refine blk_far ?_ NB116_117.out _;(with_reducible repeat (first|refine aN ?_ _|refine aL ?_|refine aP ?_ _));exact BK116.out) Try.underlying38 rfl tF) rfl ?_
 exact ⟨tG,by repeat (first|(with_reducible first|exact HB.out|apply aF|apply aD|apply aE|refine aH ?_ GE115.out|refine aH ?_ GE116.out|refine aH ?_ GE117.out)|exact HB.out)⟩
def laws_toKeyS.l0:Nat → List (S48) → List (S38) → Int → Option ((List (S38)))
 | 0,_,_,_=>none
 | k + 1,x0,x3,x4=>if x4 < (x0.length:Int) then (if 0 ≤ x4 then ((laws_toKey.f ((rd_T48 x0 x4).f0) ((rd_T48 x0 x4).f1) ((rd_T48 x0 x4).f2) ((rd_T48 x0 x4).f3) ((rd_T48 x0 x4).f4)).bind fun bt122=>(if x4 < (x3.length:Int) then (laws_toKeyS.l0 k x0 (x3.set (x4:Int).toNat (⟨bt122.1,bt122.2.1,bt122.2.2.1,bt122.2.2.2.1,bt122.2.2.2.2⟩:S38)) (wrap64 (x4 + 1))) else (none))) else (none)) else (some x3)
def laws_toKeyS.f (k:Nat) (l0:List (S48)):Option ((List (S38))):=if 0 ≤ (l0.length:Int) then (if ((l0.length:Int):Int).toNat ≤ 7036874417766 then (laws_toKeyS.l0 k l0 (List.replicate ((l0.length:Int):Int).toNat z38) 0) else (none)) else (none)
set_option maxHeartbeats 8000000 in
set_option maxRecDepth 100000 in
theorem laws_toKeyS.calls (k:Nat) (A0:Option Addr) (c0:Nat) (l0:List (S48)) (r:List (S38)) (w:World) (hr0:Kd.C k48 w A0 l0.length l0) (hc0:l0.length ≤ c0) (h:laws_toKeyS.f k l0 = some r) :
  Calls Try.prog 104 #[.slice A0 l0.length c0] w fun e w'=>∃ v0_:Value,e = .returned (v0_) ∧ Kd.R k38 38 w' w.heap.size (fun _=>True) v0_ r ∧ Below w.heap.size w w':=by
 have hu48:=Try.underlying48
 have hu38:=Try.underlying38
 have HR0:=aA.mk hr0
 have HC0:=aA.mk hc0
 clear hr0 hc0
 have HB:=aA.mk (Below.refl w.heap.size w)
 have H:(if 0 ≤ (l0.length:Int) then (if ((l0.length:Int):Int).toNat ≤ 7036874417766 then (laws_toKeyS.l0 k l0 (List.replicate ((l0.length:Int):Int).toNat z38) 0) else (none)) else (none)) = some r:=h
 clear h
 by_cases c2:0 ≤ (l0.length:Int)
 ·rw [if_pos c2] at H
  have c2b0:=eq_true c2
  have c2b1:decide (0 ≤ (l0.length:Int)) = true:=decide_eq_true c2
  clear c2
  by_cases c3:((l0.length:Int):Int).toNat ≤ 7036874417766
  ·rw [if_pos c3] at H
   have c3b0:=eq_true c3
   have c3b1:decide (((l0.length:Int):Int).toNat ≤ 7036874417766) = true:=decide_eq_true c3
   clear c3
   obtain ⟨y118,hy118⟩:∃ y_:List (S38),y_ = (List.replicate ((l0.length:Int):Int).toNat z38):=⟨_,rfl⟩
   replace H:(laws_toKeyS.l0 k l0 y118 0) = some r:=by first|(rw [hy118];with_reducible exact H)|(have H2_:=(Option.bind_some _ _).symm.trans H;rw [hy118];with_reducible exact H2_)|(have H2_:=(Option.bind_some _ _).symm.trans H;with_reducible exact H2_)|with_reducible exact H|(rw [hy118];exact H)|exact H
   have Ny118:=aA.mk hy118
   clear hy118
   have H':=aA.mk H
   clear H
   go_enter Try.func104,Try.ntmps104
   go_wp2_with (first|((with_reducible refine aX (N:=7) rfl ?_);refine Kd.R_make k38 _ 38 rfl (N:=7) rfl 45 _ _ rfl (l0.length:Int) rfl rfl Try.underlying45 (.agg #[(.int .i64 0),(.int .i64 0),(.int .i64 0),(.int .i64 0),(.int .i64 0)]) 40 info38 rfl tq tD z38 (ok:=fun _=>True) (okp:=fun _=>True) (k38_mkM _ _ _ z38 ) (fun _ hk=>hk) trivial (lE tC) (Nat.le_trans (Nat.mul_le_mul_right _ (lE tC:(l0.length:Int).toNat ≤ 7036874417766)) tD) (Below.refl _ _) (Nat.le_refl _) ?_;intro v119 w4 ho5 hb hg_ hnew_;clear hg_ hnew_;(first|rw [← Ny118.out] at ho5|(simp only [Int.reduceToNat] at ho5;rw [← Ny118.out] at ho5));have n0_:=aA.mk (Kd.R_lower ho5 (aM tB));have n1_:=aA.mk (aJ tB hb);clear HB;have HO120:=n0_;have HB:=n1_;clear n0_ n1_;clear hb ho5))
   go_loopg [4] k (fun kq v4 w'=>∃ (x3_1:List (S38)) (x4_1:Int),v4 = .int .i64 x4_1 ∧ aA (laws_toKeyS.l0 kq l0 x3_1 x4_1 = some r) ∧ aA (kq ≤ k) ∧ aA (Kd.R k38 38 w' w.heap.size (fun _=>True) v119 x3_1) ∧ aA (Below w.heap.size w w'))
   case atStart=>exact ⟨(y118),(0),tK,H',⟨Nat.le_refl _⟩,⟨by (with_reducible repeat (first|apply Kd.R_alloc|apply Kd.R_drewN|apply Kd.R_drew));exact HO120.out⟩,⟨tN⟩⟩
   case round =>
    clear H'
    try clear c1
    try clear c2
    try clear c2b0
    try clear c2b1
    try clear p2
    try clear c3
    try clear c3b0
    try clear c3b1
    obtain ⟨x3_1,x4_1,rfl,HA,HK1,HO_3,HB⟩:=hrel
    cases gk with
    | zero=>exact absurd HA.out (by simp [laws_toKeyS.l0])
    | succ k1 =>
     have H:=HA.out
     clear HA
     simp only [laws_toKeyS.l0] at H
     by_cases c6:x4_1 < (l0.length:Int)
     ·rw [if_pos c6] at H
      have c6b0:decide (x4_1 < (l0.length:Int)) = true:=decide_eq_true c6
      clear c6
      by_cases c7:0 ≤ x4_1
      ·rw [if_pos c7] at H
       have c7b0:decide (0 ≤ x4_1) = true:=decide_eq_true c7
       clear c7
       replace H:=lF H
       obtain ⟨⟨t122,t123,t124,t125,t126⟩,A80,H⟩:=H
       replace H:(if x4_1 < (x3_1.length:Int) then (laws_toKeyS.l0 k1 l0 (x3_1.set (x4_1:Int).toNat (⟨t122,t123,t124,t125,t126⟩:S38)) (wrap64 (x4_1 + 1))) else (none)) = some r:=H
       have A8:=aA.mk A80
       clear A80
       by_cases c9:x4_1 < (x3_1.length:Int)
       ·rw [if_pos c9] at H
        have c9b0:decide (x4_1 < (x3_1.length:Int)) = true:=decide_eq_true c9
        clear c9
        obtain ⟨y127,hy127⟩:∃ y_:List (S38),y_ = (x3_1.set (x4_1:Int).toNat (⟨t122,t123,t124,t125,t126⟩:S38)):=⟨_,rfl⟩
        replace H:(laws_toKeyS.l0 k1 l0 y127 (wrap64 (x4_1 + 1))) = some r:=by first|(rw [hy127];with_reducible exact H)|(have H2_:=(Option.bind_some _ _).symm.trans H;rw [hy127];with_reducible exact H2_)|(have H2_:=(Option.bind_some _ _).symm.trans H;with_reducible exact H2_)|with_reducible exact H|(rw [hy127];exact H)|exact H
        have Ny127:=aA.mk hy127
        clear hy127
        have H':=aA.mk H
        clear H
        have p121:0 ≤ (x4_1:Int):=lE tC
        have q121:x4_1 < (l0.length:Int):=lE tC
        obtain ⟨ad121,e121,hx121_0,hx121_1,hx121_2,hx121_3,hx121_4⟩:=at_T48 HR0.out x4_1 p121 q121
        cases e121
        replace hx121_0:=(HB.out.cell (lD w _ hx121_0)).trans hx121_0
        replace hx121_1:=(HB.out.cell (lD w _ hx121_1)).trans hx121_1
        replace hx121_2:=(HB.out.cell (lD w _ hx121_2)).trans hx121_2
        replace hx121_3:=(HB.out.cell (lD w _ hx121_3)).trans hx121_3
        replace hx121_4:=(HB.out.cell (lD w _ hx121_4)).trans hx121_4
        replace p121:=eq_true p121
        replace q121:=eq_true q121
        go_wp2_with (first|((with_reducible refine aT (f:=22) rfl ?_);refine goesL_ (some 20) rfl rfl Try.func22 tF rfl #[.agg #[.int .i64 ((rd_T48 l0 x4_1).f0),.int .i64 ((rd_T48 l0 x4_1).f1),.int .i64 ((rd_T48 l0 x4_1).f2),.int .i64 ((rd_T48 l0 x4_1).f3),.int .i64 ((rd_T48 l0 x4_1).f4)]] rfl tA ?_;(with_reducible refine (laws_toKey.calls ((rd_T48 l0 x4_1).f0) ((rd_T48 l0 x4_1).f1) ((rd_T48 l0 x4_1).f2) ((rd_T48 l0 x4_1).f3) ((rd_T48 l0 x4_1).f4) t122 t123 t124 t125 t126 _ A8.out).mono ?_);rintro e w11 ⟨rfl,hb⟩;refine ⟨_,rfl,?_⟩;have n0_:=aA.mk (Kd.R_below v6 hb);have n1_:=aA.mk (aJ tB hb);clear HO_3;clear HB;have HO_3:=n0_;have HB:=n1_;clear n0_ n1_;(try clear hb);(try clear hk);have p10:0 ≤ (x4_1:Int):=lE tC;have q10:(x4_1:Int) < ((x3_1.length:Int):Int):=lE tC;obtain ⟨go10,co10,eo10,gb10,gl10,cl10,HG10⟩:=Kd.R_form HO_3.out tD;(first|cases eo10|(injection eo10 with ea_ en_ ec_;(first|subst ea_|(injection ea_ with ea_;subst ea_));subst ec_;clear en_));have GB10:=aA.mk gb10;have GG10:=aA.mk HG10;clear gb10 gl10 HG10;obtain ⟨ce10,hcl10,hM10,hcc10,hfr10⟩:=Kd.R_elem HO_3.out z38 (x4_1:Int) p10 q10;obtain rfl:=k38_openM hM10;have hx10_0:w11.cell? ⟨go10,(x4_1:Int).toNat * 5,none⟩ = some (.int .i64 ((rd_T38 x3_1 x4_1).f0)):=hcc10 0 _ rfl;have hx10_1:w11.cell? ⟨go10,(x4_1:Int).toNat * 5 + 1,none⟩ = some (.int .i64 ((rd_T38 x3_1 x4_1).f1)):=hcc10 1 _ rfl;have hx10_2:w11.cell? ⟨go10,(x4_1:Int).toNat * 5 + 2,none⟩ = some (.int .i64 ((rd_T38 x3_1 x4_1).f2)):=hcc10 2 _ rfl;have hx10_3:w11.cell? ⟨go10,(x4_1:Int).toNat * 5 + 3,none⟩ = some (.int .i64 ((rd_T38 x3_1 x4_1).f3)):=hcc10 3 _ rfl;have hx10_4:w11.cell? ⟨go10,(x4_1:Int).toNat * 5 + 4,none⟩ = some (.int .i64 ((rd_T38 x3_1 x4_1).f4)):=hcc10 4 _ rfl;have hf10_0:w11.frozen? ⟨go10,(x4_1:Int).toNat * 5,none⟩ = false:=hfr10 0;have hf10_1:w11.frozen? ⟨go10,(x4_1:Int).toNat * 5 + 1,none⟩ = false:=hfr10 1;have hf10_2:w11.frozen? ⟨go10,(x4_1:Int).toNat * 5 + 2,none⟩ = false:=hfr10 2;have hf10_3:w11.frozen? ⟨go10,(x4_1:Int).toNat * 5 + 3,none⟩ = false:=hfr10 3;have hf10_4:w11.frozen? ⟨go10,(x4_1:Int).toNat * 5 + 4,none⟩ = false:=hfr10 4;(try clear hcl10);(try clear hcc10);(try clear hfr10);(try clear hM10);replace p10:=eq_true p10;replace q10:=eq_true q10;have HX12:=aA.mk (show Kd.R k38 38 w11 w.heap.size (fun _=>True) (.slice (some ⟨go10,0,none⟩) x3_1.length co10) x3_1 from v6);obtain ⟨ce12,hcl12,hM12,hcc12,hfr12⟩:=Kd.R_elem HX12.out z38 (x4_1:Int) (lE tC) vF;obtain rfl:=k38_openM hM12;have HP12:=Kd.R_seg HX12.out (x4_1:Int) (lE tC) vF (seg:=[.int .i64 t122,.int .i64 t123,.int .i64 t124,.int .i64 t125,.int .i64 t126]) (j:=0) hcl12 hcc12 (show 5 ≤ 5 from by decide) (x':=(⟨t122,t123,t124,t125,t126⟩:S38)) (k38_mkM _ _ _ (⟨t122,t123,t124,t125,t126⟩:S38) ) (fun _ hk=>hk);have hx12_0:=hcc12 0 _ rfl;(try simp only [show (k38).sz = 5 from rfl,Nat.mul_one,Nat.add_zero] at hx12_0);have hf12_0:=hfr12 0;(try simp only [show (k38).sz = 5 from rfl,Nat.mul_one,Nat.add_zero] at hf12_0);have hx12_1:=hcc12 1 _ rfl;(try simp only [show (k38).sz = 5 from rfl,Nat.mul_one,Nat.add_zero] at hx12_1);have hf12_1:=hfr12 1;(try simp only [show (k38).sz = 5 from rfl,Nat.mul_one,Nat.add_zero] at hf12_1);have hx12_2:=hcc12 2 _ rfl;(try simp only [show (k38).sz = 5 from rfl,Nat.mul_one,Nat.add_zero] at hx12_2);have hf12_2:=hfr12 2;(try simp only [show (k38).sz = 5 from rfl,Nat.mul_one,Nat.add_zero] at hf12_2);have hx12_3:=hcc12 3 _ rfl;(try simp only [show (k38).sz = 5 from rfl,Nat.mul_one,Nat.add_zero] at hx12_3);have hf12_3:=hfr12 3;(try simp only [show (k38).sz = 5 from rfl,Nat.mul_one,Nat.add_zero] at hf12_3);have hx12_4:=hcc12 4 _ rfl;(try simp only [show (k38).sz = 5 from rfl,Nat.mul_one,Nat.add_zero] at hx12_4);have hf12_4:=hfr12 4;(try simp only [show (k38).sz = 5 from rfl,Nat.mul_one,Nat.add_zero] at hf12_4);(try clear hcl12);(try clear hcc12);(try clear hfr12);(try clear hM12))|((with_reducible refine gate_store (t:=38) (p:=21) rfl ?_);refine store_event (t:=38) (p:=21) (v:=?vo_w13) (w1:=(((((w11.setCell ⟨go10,(x4_1:Int).toNat * 5,none⟩ (.int .i64 t122)).setCell ⟨go10,(x4_1:Int).toNat * 5 + 1,none⟩ (.int .i64 t123)).setCell ⟨go10,(x4_1:Int).toNat * 5 + 2,none⟩ (.int .i64 t124)).setCell ⟨go10,(x4_1:Int).toNat * 5 + 3,none⟩ (.int .i64 t125)).setCell ⟨go10,(x4_1:Int).toNat * 5 + 4,none⟩ (.int .i64 t126))) ?hg ?ho ?hn ?hr ?_;(case ho=>rfl);(case hg=>rfl);(case hn=>rfl);(case hr=>exact tP);intro w13 hw;have hg:w11.grownBy w13 (some go10):=(by rw [hw];exact HP12.2);have hp_:Kd.R k38 38 w13 w.heap.size (fun _=>True) (.slice (some ⟨go10,0,none⟩) x3_1.length co10) y127:=(by rw [hw,Ny127.out];exact HP12.1);clear HP12;have n0_:=aA.mk (hp_);have n1_:=aA.mk ((by rw [hw];exact aH (aH (aH (aH (aH (HB.out) GB10.out) GB10.out) GB10.out) GB10.out) GB10.out:Below w.heap.size w w13));clear HO_3;clear HB;have HO_3:=n0_;have HB:=n1_;clear n0_ n1_;clear hg hw hp_))
        go_roundg k1
        case measure=>have:=HK1.out;omega
        case rel=>exact ⟨(y127),(wrap64 (x4_1 + 1)),tK,H',⟨vM⟩,⟨t9⟩,⟨tN⟩⟩
       ·rw [if_neg c9] at H
        exact vX
      ·rw [if_neg c7] at H
       exact vX
     ·rw [if_neg c6] at H
      have c6b0:decide (x4_1 < (l0.length:Int)) = false:=decide_eq_false c6
      clear c6
      obtain rfl:=Option.some.inj H
      go_wp2
      go_ret
      exact ⟨_,tG,t9,tN⟩
  ·rw [if_neg c3] at H
   exact vX
 ·rw [if_neg c2] at H
  exact vX
def laws_toKeySS.l0:Nat → List (List (S48)) → List (List (S38)) → Int → Option ((List (List (S38))))
 | 0,_,_,_=>none
 | k + 1,x0,x3,x4=>if x4 < (x0.length:Int) then (if 0 ≤ x4 then ((laws_toKeyS.f k (rd_L2 x0 x4)).bind fun t132=>(if x4 < (x3.length:Int) then (laws_toKeySS.l0 k x0 (x3.set (x4:Int).toNat t132) (wrap64 (x4 + 1))) else (none))) else (none)) else (some x3)
def laws_toKeySS.f (k:Nat) (l0:List (List (S48))):Option ((List (List (S38)))):=if 0 ≤ (l0.length:Int) then (if ((l0.length:Int):Int).toNat ≤ 11728124029610 then (laws_toKeySS.l0 k l0 (List.replicate ((l0.length:Int):Int).toNat []) 0) else (none)) else (none)
set_option maxHeartbeats 8000000 in
set_option maxRecDepth 100000 in
theorem laws_toKeySS.calls (k:Nat) (A0:Option Addr) (c0:Nat) (l0:List (List (S48))) (r:List (List (S38))) (w:World) (hr0:Kd.C (Kd.slice 48 k48) w A0 l0.length l0) (hc0:l0.length ≤ c0) (h:laws_toKeySS.f k l0 = some r) :
  Calls Try.prog 93 #[.slice A0 l0.length c0] w fun e w'=>∃ v0_:Value,e = .returned (v0_) ∧ Kd.S (Kd.slice 38 k38) 45 w' w.heap.size (fun _=>True) v0_ r ∧ Below w.heap.size w w':=by
 have HR0:=aA.mk hr0
 have HC0:=aA.mk hc0
 clear hr0 hc0
 have HB:=aA.mk (Below.refl w.heap.size w)
 have H:(if 0 ≤ (l0.length:Int) then (if ((l0.length:Int):Int).toNat ≤ 11728124029610 then (laws_toKeySS.l0 k l0 (List.replicate ((l0.length:Int):Int).toNat []) 0) else (none)) else (none)) = some r:=h
 clear h
 by_cases c2:0 ≤ (l0.length:Int)
 ·rw [if_pos c2] at H
  have c2b0:=eq_true c2
  have c2b1:decide (0 ≤ (l0.length:Int)) = true:=decide_eq_true c2
  clear c2
  by_cases c3:((l0.length:Int):Int).toNat ≤ 11728124029610
  ·rw [if_pos c3] at H
   have c3b0:=eq_true c3
   have c3b1:decide (((l0.length:Int):Int).toNat ≤ 11728124029610) = true:=decide_eq_true c3
   clear c3
   obtain ⟨y128,hy128⟩:∃ y_:List (List (S38)),y_ = (List.replicate ((l0.length:Int):Int).toNat []):=⟨_,rfl⟩
   replace H:(laws_toKeySS.l0 k l0 y128 0) = some r:=by first|(rw [hy128];with_reducible exact H)|(have H2_:=(Option.bind_some _ _).symm.trans H;rw [hy128];with_reducible exact H2_)|(have H2_:=(Option.bind_some _ _).symm.trans H;with_reducible exact H2_)|with_reducible exact H|(rw [hy128];exact H)|exact H
   have Ny128:=aA.mk hy128
   clear hy128
   have H':=aA.mk H
   clear H
   go_enter Try.func93,Try.ntmps93
   go_wp2_with (first|((with_reducible refine aX (N:=7) rfl ?_);refine Kd.S_make (Kd.slice 38 k38) _ 45 rfl (N:=7) rfl 57 _ _ rfl (l0.length:Int) rfl rfl Try.underlying57 (.slice none 0 0) 24 info45 rfl tq tD [] (ok:=fun _=>True) (okp:=fun _=>True) ⟨_,rfl,Kd.R_nil _ _ _ _ _⟩ (fun _ hk=>hk) trivial (lE tC) (Nat.le_trans (Nat.mul_le_mul_right _ (lE tC:(l0.length:Int).toNat ≤ 11728124029610)) tD) (Below.refl _ _) (Nat.le_refl _) ?_;intro v129 w4 ho5 hb hg_ hnew_;clear hg_ hnew_;(first|rw [← Ny128.out] at ho5|(simp only [Int.reduceToNat] at ho5;rw [← Ny128.out] at ho5));have n0_:=aA.mk (Kd.S_lower ho5 (aM tB));have n1_:=aA.mk (aJ tB hb);clear HB;have HO130:=n0_;have HB:=n1_;clear n0_ n1_;clear hb ho5))
   go_loopg [4] k (fun kq v4 w'=>∃ (x3_1:List (List (S38))) (x4_1:Int),v4 = .int .i64 x4_1 ∧ aA (laws_toKeySS.l0 kq l0 x3_1 x4_1 = some r) ∧ aA (kq ≤ k) ∧ aA (Kd.S (Kd.slice 38 k38) 45 w' w.heap.size (fun _=>True) v129 x3_1) ∧ aA (Below w.heap.size w w'))
   case atStart=>exact ⟨(y128),(0),tK,H',⟨Nat.le_refl _⟩,⟨by (with_reducible repeat (first|apply Kd.S_alloc|apply Kd.S_drewN|apply Kd.S_drew));exact HO130.out⟩,⟨tN⟩⟩
   case round =>
    clear H'
    try clear c2
    try clear c2b0
    try clear c2b1
    try clear p2
    try clear c3
    try clear c3b0
    try clear c3b1
    obtain ⟨x3_1,x4_1,rfl,HA,HK1,HO_3,HB⟩:=hrel
    cases gk with
    | zero=>exact absurd HA.out (by simp [laws_toKeySS.l0])
    | succ k1 =>
     have H:=HA.out
     clear HA
     simp only [laws_toKeySS.l0] at H
     by_cases c6:x4_1 < (l0.length:Int)
     ·rw [if_pos c6] at H
      have c6b0:decide (x4_1 < (l0.length:Int)) = true:=decide_eq_true c6
      clear c6
      by_cases c7:0 ≤ x4_1
      ·rw [if_pos c7] at H
       have c7b0:decide (0 ≤ x4_1) = true:=decide_eq_true c7
       clear c7
       replace H:=lF H
       obtain ⟨t132,A80,H⟩:=H
       replace H:(if x4_1 < (x3_1.length:Int) then (laws_toKeySS.l0 k1 l0 (x3_1.set (x4_1:Int).toNat t132) (wrap64 (x4_1 + 1))) else (none)) = some r:=H
       have A8:=aA.mk A80
       clear A80
       by_cases c9:x4_1 < (x3_1.length:Int)
       ·rw [if_pos c9] at H
        have c9b0:decide (x4_1 < (x3_1.length:Int)) = true:=decide_eq_true c9
        clear c9
        obtain ⟨y135,hy135⟩:∃ y_:List (List (S38)),y_ = (x3_1.set (x4_1:Int).toNat t132):=⟨_,rfl⟩
        replace H:(laws_toKeySS.l0 k1 l0 y135 (wrap64 (x4_1 + 1))) = some r:=by first|(rw [hy135];with_reducible exact H)|(have H2_:=(Option.bind_some _ _).symm.trans H;rw [hy135];with_reducible exact H2_)|(have H2_:=(Option.bind_some _ _).symm.trans H;with_reducible exact H2_)|with_reducible exact H|(rw [hy135];exact H)|exact H
        have Ny135:=aA.mk hy135
        clear hy135
        have H':=aA.mk H
        clear H
        have p131:0 ≤ (x4_1:Int):=lE tC
        have q131:x4_1 < (l0.length:Int):=lE tC
        obtain ⟨ad131,A131_0,c131_0,e131,hx131_0,hl131_0,hi131_0⟩:=at_L2 HR0.out x4_1 p131 q131
        cases e131
        replace hx131_0:=(HB.out.cell (lD w _ hx131_0)).trans hx131_0
        have HR131_0:=aA.mk hi131_0
        have HC131_0:=aA.mk hl131_0
        clear hi131_0 hl131_0
        replace p131:=eq_true p131
        replace q131:=eq_true q131
        go_wp2_with (first|((with_reducible refine aT (f:=104) rfl ?_);refine goesL_ (some 20) rfl rfl Try.func104 tF rfl #[.slice A131_0 (rd_L2 l0 x4_1).length c131_0] rfl tA ?_;(with_reducible refine (laws_toKeyS.calls k1 _ _ (rd_L2 l0 x4_1) t132 _ ?side1 ?side2 A8.out).mono ?_);(case side1=>repeat (first|exact (Kd.aV HR131_0.out HB.out)|(with_reducible refine Kd.C_alloc ?_ _)|(with_reducible refine Kd.C_drewN ?_ _)|(with_reducible refine Kd.C_drew ?_)));(case side2=>exact HC131_0.out);rintro e w11 ⟨v133,rfl,ho0,hb⟩;refine ⟨_,rfl,?_⟩;have n0_:=aA.mk (Kd.S_elder' (by (with_reducible repeat (first|apply Kd.S_alloc|apply Kd.S_drewN|apply Kd.S_drew));exact HO_3.out) (Kd.R_base ho0) hb);have n1_:=aA.mk (Kd.R_lower ho0 (aM tB));have n2_:=aA.mk (aJ tB hb);clear HO_3;clear HB;have HO_3:=n0_;have HO134:=n1_;have HB:=n2_;clear n0_ n1_ n2_;(try clear hb);(try clear hk);(try clear ho0);have p10:0 ≤ (x4_1:Int):=lE tC;have q10:(x4_1:Int) < ((x3_1.length:Int):Int):=lE tC;obtain ⟨go10,co10,eo10,gb10,gl10,cl10,HG10⟩:=Kd.S_form HO_3.out tD;(first|cases eo10|(injection eo10 with ea_ en_ ec_;(first|subst ea_|(injection ea_ with ea_;subst ea_));subst ec_;clear en_));have GB10:=aA.mk gb10;have GG10:=aA.mk HG10;clear gb10 gl10 HG10;obtain ⟨_,ce10,hcl10,hM10,hcc10,hfr10,_,_⟩:=Kd.S_elem HO_3.out [] (x4_1:Int) p10 q10;obtain ⟨ve10_0,rfl,ge10_0⟩:=hM10;have hx10_0:=hcc10 0 _ rfl;have hf10_0:=hfr10 0;(try simp only [show ((Kd.slice 38 k38)).sz = 1 from rfl,Nat.mul_one,Nat.add_zero] at hx10_0);(try simp only [show ((Kd.slice 38 k38)).sz = 1 from rfl,Nat.mul_one,Nat.add_zero] at hf10_0);(try clear hcl10);(try clear hcc10);(try clear hfr10);(try clear hM10);replace p10:=eq_true p10;replace q10:=eq_true q10;have n_:=aA.mk (Kd.S_mono (ok':=(fun k_=>some k_ ≠ (v133:Value).ownBlock)) HO_3.out (fun k_ hk=>hk.2));clear HO_3;have HO_3:=n_;clear n_;have HX12:=aA.mk (show Kd.S (Kd.slice 38 k38) 45 w11 w.heap.size (fun k_=>((fun _=>True)) k_ ∧ ¬ ((fun k_=>some k_ = (v133:Value).ownBlock)) k_) (.slice (some ⟨go10,0,none⟩) x3_1.length co10) x3_1 from (by (with_reducible repeat (first|apply Kd.S_alloc|apply Kd.S_drewN|apply Kd.S_drew));exact Kd.S_mono HO_3.out (fun k_ hk=>⟨trivial,fun e_=>hk e_⟩)));obtain ⟨oki12,ce12,hcl12,hM12,hcc12,hfr12,hoki12,hH12⟩:=Kd.S_elem HX12.out [] (x4_1:Int) (lE tC) vE;obtain ⟨ve12_0,rfl,ge12_0⟩:=hM12;have HP12:=Kd.S_seg hH12 (lE tC) vE (seg:=[v133]) (j:=0) (show 1 ≤ 1 from by decide) (x':=t132) (Kd.M_row (Kd.R_mono (Kd.R_tight rfl (Kd.R_mono (ok':=fun k_=>((fun _=>True)) k_ ∧ k_ ≠ go10) (Kd.R_apart' (HO134.out) (Kd.S_typed HO_3.out) tq) (fun k_ hk=>⟨trivial,fun e_=>(hk.2) (by rw [e_];rfl)⟩))) (fun _ h_=>Or.inr (h_)))) (fun _ hk=>hk) (fun k_ hk_=>((Kd.R_mono (ok':=fun k_=>((fun _=>True)) k_ ∧ k_ ≠ go10) (Kd.R_apart' (HO134.out) (Kd.S_typed HO_3.out) tq) (fun k_ hk=>⟨trivial,fun e_=>(hk.2) (by rw [e_];rfl)⟩))).1 k_ hk_.symm);have hx12_0:=hcc12 0 _ rfl;(try simp only [show ((Kd.slice 38 k38)).sz = 1 from rfl,Nat.mul_one,Nat.add_zero] at hx12_0);have hf12_0:=hfr12 0;(try simp only [show ((Kd.slice 38 k38)).sz = 1 from rfl,Nat.mul_one,Nat.add_zero] at hf12_0);(try clear hcl12);(try clear hcc12);(try clear hfr12);(try clear hM12);(try clear hoki12);(try clear hH12);(try simp only [show ((Kd.slice 38 k38)).sz = 1 from rfl,Nat.mul_one,Nat.add_zero] at HP12))|((with_reducible refine gate_store (t:=45) (p:=21) rfl ?_);refine store_event (t:=45) (p:=21) (v:=?vo_w13) (w1:=(w11.setCell ⟨go10,(x4_1:Int).toNat,none⟩ (v133))) ?hg ?ho ?hn ?hr ?_;(case ho=>rfl);(case hg=>rfl);(case hn=>rfl);(case hr=>first|(go_simp;done)|(go_simp;rfl)|(obtain ⟨Az_,cz_,ez_,_⟩:=Kd.R_reads HO134.out;subst ez_;go_simp;done)|(obtain ⟨Az_,cz_,ez_,_⟩:=Kd.R_reads HO134.out;subst ez_;go_simp;rfl)|(obtain ⟨Az_,cz_,ez_,_⟩:=Kd.S_reads HO134.out;subst ez_;go_simp;done)|(obtain ⟨Az_,cz_,ez_,_⟩:=Kd.S_reads HO134.out;subst ez_;go_simp;rfl)|(obtain ⟨Az_,cz_,ez_,_⟩:=Kd.N_reads HO134.out;subst ez_;go_simp;done)|(obtain ⟨Az_,cz_,ez_,_⟩:=Kd.N_reads HO134.out;subst ez_;go_simp;rfl)|(obtain ⟨Az_,cz_,ez_,_⟩:=Kd.Q_reads HO134.out;subst ez_;go_simp;done)|(obtain ⟨Az_,cz_,ez_,_⟩:=Kd.Q_reads HO134.out;subst ez_;go_simp;rfl)|(obtain ⟨Az_,cz_,ez_⟩:=Kd.V_slice HO134.out;subst ez_;go_simp;done));intro w13 hw;have hg:w11.grownBy w13 (some go10):=(by rw [hw];exact HP12.2);have hp_:Kd.S (Kd.slice 38 k38) 45 w13 w.heap.size (fun _=>True) (.slice (some ⟨go10,0,none⟩) x3_1.length co10) y135:=(by rw [hw,Ny135.out];exact HP12.1);clear HP12;have n0_:=aA.mk (hp_);have n1_:=aA.mk ((by rw [hw];exact aH (HB.out) GB10.out:Below w.heap.size w w13));clear HO_3;clear HB;clear HO134;have HO_3:=n0_;have HB:=n1_;clear n0_ n1_;clear hg hw hp_))
        go_roundg k1
        case measure=>have:=HK1.out;omega
        case rel=>exact ⟨(y135),(wrap64 (x4_1 + 1)),tK,H',⟨vM⟩,⟨vR⟩,⟨tN⟩⟩
       ·rw [if_neg c9] at H
        exact vX
      ·rw [if_neg c7] at H
       exact vX
     ·rw [if_neg c6] at H
      have c6b0:decide (x4_1 < (l0.length:Int)) = false:=decide_eq_false c6
      clear c6
      obtain rfl:=Option.some.inj H
      go_wp2
      go_ret
      exact ⟨_,tG,vR,tN⟩
  ·rw [if_neg c3] at H
   exact vX
 ·rw [if_neg c2] at H
  exact vX
set_option linter.unusedVariables false
set_option linter.unusedSimpArgs false
def laws_toNode.f (k:Nat) (l0_0:List (List (S48))):Option ((List (List (S38)))):=(laws_toKeySS.f k l0_0).bind fun t139=>(some t139)
set_option maxHeartbeats 8000000 in
set_option maxRecDepth 100000 in
theorem laws_toNode.calls (k:Nat) (A0_0:Option Addr) (c0_0:Nat) (l0_0:List (List (S48))) (r:List (List (S38))) (w:World) (hr0_0:Kd.C (Kd.slice 48 k48) w A0_0 l0_0.length l0_0) (hc0_0:l0_0.length ≤ c0_0) (h:laws_toNode.f k l0_0 = some r) :
  Calls Try.prog 68 #[.agg #[.slice A0_0 l0_0.length c0_0]] w fun e w'=>∃ v0_:Value,e = .returned (.agg #[v0_]) ∧ Kd.S (Kd.slice 38 k38) 45 w' w.heap.size (fun _=>True) v0_ r ∧ Below w.heap.size w w':=by
 have hu87:=Try.underlying87
 have hu59:=Try.underlying59
 have HR0_0:=aA.mk hr0_0
 have HC0_0:=aA.mk hc0_0
 clear hr0_0 hc0_0
 have HB:=aA.mk (Below.refl w.heap.size w)
 have H:((laws_toKeySS.f k l0_0).bind fun t139=>(some t139)) = some r:=h
 clear h
 replace H:=lF H
 obtain ⟨t139,A20,H⟩:=H
 replace H:(some t139) = some r:=H
 have A2:=aA.mk A20
 clear A20
 obtain rfl:=Option.some.inj H
 go_enter Try.func68,Try.ntmps68
 go_wp2_with (first|((with_reducible refine aX (N:=1) rfl ?_);refine aW ?hg (N:=1) ?hd (cs:=#[.slice A0_0 l0_0.length c0_0]) (t:=87) ?hr ?_;(case hd=>rfl);(case hg=>rfl);(case hr=>exact tP);intro gb136 hg w3 hbox hb;have n0_:=aA.mk (aJ tB hb);have n1_:=aA.mk (hbox);have n2_:=aA.mk ((by rw [hg];exact (aM tB):w.heap.size ≤ gb136));have n3_:=aA.mk ((by rw [hg];exact (aM tB):w.heap.size ≤ gb136));clear HB;have HB:=n0_;have BK136:=n1_;have GW136:=n2_;have GE136:=n3_;clear n0_ n1_ n2_ n3_;clear hb hbox hg)|((with_reducible refine aX (N:=2) rfl ?_);refine aW ?hg (N:=2) ?hd (cs:=#[.slice none 0 0]) (t:=59) ?hr ?_;(case hd=>rfl);(case hg=>rfl);(case hr=>exact tP);intro gb137 hg w4 hbox hb;have n0_:=aA.mk (aG (g:=gb136) (o:=.cells #[.slice A0_0 l0_0.length c0_0] 87 (0,0)) t4 hb);have n1_:=aA.mk (aJ vr hb);have n2_:=aA.mk (hbox);have n3_:=aA.mk ((by rw [hg];exact (aM vr):w.heap.size ≤ gb137));have n4_:=aA.mk ((by rw [hg];exact (aM vr):w.heap.size ≤ gb137));have n5_:=aA.mk ((by rw [hg];exact Nat.ne_of_lt (aY (g:=gb136) (o:=.cells #[.slice A0_0 l0_0.length c0_0] 87 (0,0)) t4):gb136 ≠ gb137));have n6_:=aA.mk ((by rw [hg];exact Nat.ne_of_gt (aY (g:=gb136) (o:=.cells #[.slice A0_0 l0_0.length c0_0] 87 (0,0)) t4):gb137 ≠ gb136));clear BK136;clear HB;have BK136:=n0_;have HB:=n1_;have BK137:=n2_;have GW137:=n3_;have GE137:=n4_;have NB136_137:=n5_;have NB137_136:=n6_;clear n0_ n1_ n2_ n3_ n4_ n5_ n6_;clear hb hbox hg)|((with_reducible refine aX (N:=3) rfl ?_);refine aW ?hg (N:=3) ?hd (cs:=#[.slice none 0 0]) (t:=59) ?hr ?_;(case hd=>rfl);(case hg=>rfl);(case hr=>exact tP);intro gb138 hg w5 hbox hb;have n0_:=aA.mk (aG (g:=gb136) (o:=.cells #[.slice A0_0 l0_0.length c0_0] 87 (0,0)) t4 hb);have n1_:=aA.mk (aG (g:=gb137) (o:=.cells #[.slice none 0 0] 59 (0,0)) vZ hb);have n2_:=aA.mk (aJ vV hb);have n3_:=aA.mk (hbox);have n4_:=aA.mk ((by rw [hg];exact (aM vV):w.heap.size ≤ gb138));have n5_:=aA.mk ((by rw [hg];exact (aM vV):w.heap.size ≤ gb138));have n6_:=aA.mk ((by rw [hg];exact Nat.ne_of_lt (aY (g:=gb136) (o:=.cells #[.slice A0_0 l0_0.length c0_0] 87 (0,0)) t4):gb136 ≠ gb138));have n7_:=aA.mk ((by rw [hg];exact Nat.ne_of_gt (aY (g:=gb136) (o:=.cells #[.slice A0_0 l0_0.length c0_0] 87 (0,0)) t4):gb138 ≠ gb136));have n8_:=aA.mk ((by rw [hg];exact Nat.ne_of_lt (aY (g:=gb137) (o:=.cells #[.slice none 0 0] 59 (0,0)) vZ):gb137 ≠ gb138));have n9_:=aA.mk ((by rw [hg];exact Nat.ne_of_gt (aY (g:=gb137) (o:=.cells #[.slice none 0 0] 59 (0,0)) vZ):gb138 ≠ gb137));clear BK136;clear BK137;clear HB;have BK136:=n0_;have BK137:=n1_;have HB:=n2_;have BK138:=n3_;have GW138:=n4_;have GE138:=n5_;have NB136_138:=n6_;have NB138_136:=n7_;have NB137_138:=n8_;have NB138_137:=n9_;clear n0_ n1_ n2_ n3_ n4_ n5_ n6_ n7_ n8_ n9_;clear hb hbox hg;have hnb6:=NB136_137.out;have hnc6:=NB137_136.out;have hnb7:=NB136_138.out;have hnc7:=NB138_136.out;have hcz8_0:w5.cell? ⟨gb136,0,none⟩ = some (.slice A0_0 l0_0.length c0_0):=(aB BK136.out 0).trans rfl;have hfz8_0:=aC BK136.out 0)|((with_reducible refine aT (f:=93) rfl ?_);refine goesL_ (some 6) rfl rfl Try.func93 tF rfl #[.slice A0_0 l0_0.length c0_0] rfl tA ?_;(with_reducible refine (laws_toKeySS.calls k _ _ l0_0 t139 _ ?side1 ?side2 A2.out).mono ?_);(case side1=>exact tL);(case side2=>exact HC0_0.out);rintro e w9 ⟨v140,rfl,ho0,hb⟩;refine ⟨_,rfl,?_⟩;have n0_:=aA.mk (Kd.S_lower ho0 (aM wC));have n1_:=aA.mk (aG (g:=gb136) (o:=.cells #[.slice A0_0 l0_0.length c0_0] 87 (0,0)) t4 hb);have n2_:=aA.mk (aG (g:=gb137) (o:=.cells #[.slice none 0 0] 59 (0,0)) vZ hb);have n3_:=aA.mk (aG (g:=gb138) (o:=.cells #[.slice none 0 0] 59 (0,0)) (by (with_reducible repeat (first|refine aN ?_ _|refine aL ?_|refine aP ?_ _));exact BK138.out) hb);have n4_:=aA.mk (aJ wC hb);clear BK136;clear BK137;clear BK138;clear HB;have HO141:=n0_;have BK136:=n1_;have BK137:=n2_;have BK138:=n3_;have HB:=n4_;clear n0_ n1_ n2_ n3_ n4_;(try clear hb);(try clear ho0);obtain ⟨Ao10,co10,eo10⟩:=Kd.S_slice HO141.out;subst eo10;have hnb11:=NB138_137.out;have hnc11:=NB137_138.out;have hcz12_0:w9.cell? ⟨gb138,0,none⟩ = some (.slice none 0 0):=(aB BK138.out 0).trans rfl;have hfz12_0:=aC BK138.out 0;have hcz13_0:w9.cell? ⟨gb137,0,none⟩ = some (.slice none 0 0):=(aB BK137.out 0).trans rfl;have hfz13_0:=aC BK137.out 0))
 refine bodyPost_ret (results_cell_row rfl _ _ gb137 59 #[.slice Ao10 t139.length co10] (0,0) _ rfl (by (with_reducible repeat (first|refine aN ?_ _|refine aL ?_|refine aP ?_ _));refine blk_put (cs:=#[.slice none 0 0]) ?_ 0 _ rfl;(with_reducible repeat (first|refine aN ?_ _|refine aL ?_|refine aP ?_ _));refine blk_far ?_ NB137_138.out _;(with_reducible repeat (first|refine aN ?_ _|refine aL ?_|refine aP ?_ _));exact BK137.out) Try.underlying59 rfl tF) rfl ?_
 exact ⟨_,tG,by (with_reducible repeat (first|apply Kd.S_alloc|apply Kd.S_drewN|apply Kd.S_drew));exact Kd.S_mono (Kd.S_far (p:=⟨gb137,0,none⟩) (Kd.S_far (p:=⟨gb138,0,none⟩) (Kd.S_types (Kd.S_types HO141.out BK138.out tq) BK137.out tq) (fun _ hk=>hk.1.2) (.slice Ao10 t139.length co10)) (fun _ hk=>hk.2) (.slice Ao10 t139.length co10)) (fun _ hk=>trivial),by repeat (first|(with_reducible first|exact HB.out|apply aF|apply aD|apply aE|refine aH ?_ GE136.out|refine aH ?_ GE137.out|refine aH ?_ GE138.out)|exact HB.out)⟩
def laws_toNodeS.l0:Nat → List (S87) → List (S59) → Int → Option ((List (S59)))
 | 0,_,_,_=>none
 | k + 1,x0,x3,x4=>if x4 < (x0.length:Int) then (if 0 ≤ x4 then ((laws_toNode.f k ((rd_T87 x0 x4).f0)).bind fun t146=>(if x4 < (x3.length:Int) then (laws_toNodeS.l0 k x0 (x3.set (x4:Int).toNat (⟨t146⟩:S59)) (wrap64 (x4 + 1))) else (none))) else (none)) else (some x3)
def laws_toNodeS.f (k:Nat) (l0:List (S87)):Option ((List (S59))):=if 0 ≤ (l0.length:Int) then (if ((l0.length:Int):Int).toNat ≤ 11728124029610 then (laws_toNodeS.l0 k l0 (List.replicate ((l0.length:Int):Int).toNat z59) 0) else (none)) else (none)
set_option maxHeartbeats 8000000 in
set_option maxRecDepth 100000 in
theorem laws_toNodeS.calls (k:Nat) (A0:Option Addr) (c0:Nat) (l0:List (S87)) (r:List (S59)) (w:World) (hr0:Kd.C k87 w A0 l0.length l0) (hc0:l0.length ≤ c0) (h:laws_toNodeS.f k l0 = some r) :
  Calls Try.prog 30 #[.slice A0 l0.length c0] w fun e w'=>∃ v0_:Value,e = .returned (v0_) ∧ Kd.R k59 59 w' w.heap.size (fun _=>True) v0_ r ∧ Below w.heap.size w w':=by
 have hu87:=Try.underlying87
 have hu59:=Try.underlying59
 have HR0:=aA.mk hr0
 have HC0:=aA.mk hc0
 clear hr0 hc0
 have HB:=aA.mk (Below.refl w.heap.size w)
 have H:(if 0 ≤ (l0.length:Int) then (if ((l0.length:Int):Int).toNat ≤ 11728124029610 then (laws_toNodeS.l0 k l0 (List.replicate ((l0.length:Int):Int).toNat z59) 0) else (none)) else (none)) = some r:=h
 clear h
 by_cases c2:0 ≤ (l0.length:Int)
 ·rw [if_pos c2] at H
  have c2b0:=eq_true c2
  have c2b1:decide (0 ≤ (l0.length:Int)) = true:=decide_eq_true c2
  clear c2
  by_cases c3:((l0.length:Int):Int).toNat ≤ 11728124029610
  ·rw [if_pos c3] at H
   have c3b0:=eq_true c3
   have c3b1:decide (((l0.length:Int):Int).toNat ≤ 11728124029610) = true:=decide_eq_true c3
   clear c3
   obtain ⟨y142,hy142⟩:∃ y_:List (S59),y_ = (List.replicate ((l0.length:Int):Int).toNat z59):=⟨_,rfl⟩
   replace H:(laws_toNodeS.l0 k l0 y142 0) = some r:=by first|(rw [hy142];with_reducible exact H)|(have H2_:=(Option.bind_some _ _).symm.trans H;rw [hy142];with_reducible exact H2_)|(have H2_:=(Option.bind_some _ _).symm.trans H;with_reducible exact H2_)|with_reducible exact H|(rw [hy142];exact H)|exact H
   have Ny142:=aA.mk hy142
   clear hy142
   have H':=aA.mk H
   clear H
   go_enter Try.func30,Try.ntmps30
   go_wp2_with (first|((with_reducible refine aX (N:=7) rfl ?_);refine Kd.R_make k59 _ 59 rfl (N:=7) rfl 27 _ _ rfl (l0.length:Int) rfl rfl Try.underlying27 (.agg #[(.slice none 0 0)]) 24 info59 rfl tq tD z59 (ok:=fun _=>True) (okp:=fun _=>True) (k59_mkM _ _ _ z59 (Kd.R_nil _ _ _ _ _)) (fun _ hk=>hk) trivial (lE tC) (Nat.le_trans (Nat.mul_le_mul_right _ (lE tC:(l0.length:Int).toNat ≤ 11728124029610)) tD) (Below.refl _ _) (Nat.le_refl _) ?_;intro v143 w4 ho5 hb hg_ hnew_;clear hg_ hnew_;(first|rw [← Ny142.out] at ho5|(simp only [Int.reduceToNat] at ho5;rw [← Ny142.out] at ho5));have n0_:=aA.mk (Kd.R_lower ho5 (aM tB));have n1_:=aA.mk (aJ tB hb);clear HB;have HO144:=n0_;have HB:=n1_;clear n0_ n1_;clear hb ho5))
   go_loopg [4] k (fun kq v4 w'=>∃ (x3_1:List (S59)) (x4_1:Int),v4 = .int .i64 x4_1 ∧ aA (laws_toNodeS.l0 kq l0 x3_1 x4_1 = some r) ∧ aA (kq ≤ k) ∧ aA (Kd.R k59 59 w' w.heap.size (fun _=>True) v143 x3_1) ∧ aA (Below w.heap.size w w'))
   case atStart=>exact ⟨(y142),(0),tK,H',⟨Nat.le_refl _⟩,⟨by (with_reducible repeat (first|apply Kd.R_alloc|apply Kd.R_drewN|apply Kd.R_drew));exact HO144.out⟩,⟨tN⟩⟩
   case round =>
    clear H'
    try clear c2
    try clear c2b0
    try clear c2b1
    try clear p2
    try clear c3
    try clear c3b0
    try clear c3b1
    obtain ⟨x3_1,x4_1,rfl,HA,HK1,HO_3,HB⟩:=hrel
    cases gk with
    | zero=>exact absurd HA.out (by simp [laws_toNodeS.l0])
    | succ k1 =>
     have H:=HA.out
     clear HA
     simp only [laws_toNodeS.l0] at H
     by_cases c6:x4_1 < (l0.length:Int)
     ·rw [if_pos c6] at H
      have c6b0:decide (x4_1 < (l0.length:Int)) = true:=decide_eq_true c6
      clear c6
      by_cases c7:0 ≤ x4_1
      ·rw [if_pos c7] at H
       have c7b0:decide (0 ≤ x4_1) = true:=decide_eq_true c7
       clear c7
       replace H:=lF H
       obtain ⟨t146,A80,H⟩:=H
       replace H:(if x4_1 < (x3_1.length:Int) then (laws_toNodeS.l0 k1 l0 (x3_1.set (x4_1:Int).toNat (⟨t146⟩:S59)) (wrap64 (x4_1 + 1))) else (none)) = some r:=H
       have A8:=aA.mk A80
       clear A80
       by_cases c9:x4_1 < (x3_1.length:Int)
       ·rw [if_pos c9] at H
        have c9b0:decide (x4_1 < (x3_1.length:Int)) = true:=decide_eq_true c9
        clear c9
        obtain ⟨y149,hy149⟩:∃ y_:List (S59),y_ = (x3_1.set (x4_1:Int).toNat (⟨t146⟩:S59)):=⟨_,rfl⟩
        replace H:(laws_toNodeS.l0 k1 l0 y149 (wrap64 (x4_1 + 1))) = some r:=by first|(rw [hy149];with_reducible exact H)|(have H2_:=(Option.bind_some _ _).symm.trans H;rw [hy149];with_reducible exact H2_)|(have H2_:=(Option.bind_some _ _).symm.trans H;with_reducible exact H2_)|with_reducible exact H|(rw [hy149];exact H)|exact H
        have Ny149:=aA.mk hy149
        clear hy149
        have H':=aA.mk H
        clear H
        have p145:0 ≤ (x4_1:Int):=lE tC
        have q145:x4_1 < (l0.length:Int):=lE tC
        obtain ⟨ad145,A145_0,c145_0,e145,hx145_0,hl145_0,hi145_0⟩:=at_T87 HR0.out x4_1 p145 q145
        cases e145
        replace hx145_0:=(HB.out.cell (lD w _ hx145_0)).trans hx145_0
        have HR145_0:=aA.mk hi145_0
        have HC145_0:=aA.mk hl145_0
        clear hi145_0 hl145_0
        replace p145:=eq_true p145
        replace q145:=eq_true q145
        go_wp2_with (first|((with_reducible refine aT (f:=68) rfl ?_);refine goesL_ (some 20) rfl rfl Try.func68 tF rfl #[.agg #[.slice A145_0 ((rd_T87 l0 x4_1).f0).length c145_0]] rfl tA ?_;(with_reducible refine (laws_toNode.calls k1 _ _ ((rd_T87 l0 x4_1).f0) t146 _ ?side1 ?side2 A8.out).mono ?_);(case side1=>repeat (first|exact (Kd.aV HR145_0.out HB.out)|(with_reducible refine Kd.C_alloc ?_ _)|(with_reducible refine Kd.C_drewN ?_ _)|(with_reducible refine Kd.C_drew ?_)));(case side2=>exact HC145_0.out);rintro e w11 ⟨v147,rfl,ho0,hb⟩;refine ⟨_,rfl,?_⟩;have n0_:=aA.mk (Kd.R_elder' v6 (Kd.S_base ho0) hb);have n1_:=aA.mk (Kd.S_lower ho0 (aM tB));have n2_:=aA.mk (aJ tB hb);clear HO_3;clear HB;have HO_3:=n0_;have HO148:=n1_;have HB:=n2_;clear n0_ n1_ n2_;(try clear hb);(try clear hk);(try clear ho0);have p10:0 ≤ (x4_1:Int):=lE tC;have q10:(x4_1:Int) < ((x3_1.length:Int):Int):=lE tC;obtain ⟨go10,co10,eo10,gb10,gl10,cl10,HG10⟩:=Kd.R_form HO_3.out tD;(first|cases eo10|(injection eo10 with ea_ en_ ec_;(first|subst ea_|(injection ea_ with ea_;subst ea_));subst ec_;clear en_));have GB10:=aA.mk gb10;have GG10:=aA.mk HG10;clear gb10 gl10 HG10;obtain ⟨ce10,hcl10,hM10,hcc10,hfr10⟩:=Kd.R_elem HO_3.out z59 (x4_1:Int) p10 q10;obtain ⟨ve10_0,rfl,ge10_0⟩:=k59_openM hM10;have hx10_0:=hcc10 0 _ rfl;have hf10_0:=hfr10 0;(try simp only [show (k59).sz = 1 from rfl,Nat.mul_one,Nat.add_zero] at hx10_0);(try simp only [show (k59).sz = 1 from rfl,Nat.mul_one,Nat.add_zero] at hf10_0);(try clear hcl10);(try clear hcc10);(try clear hfr10);(try clear hM10);replace p10:=eq_true p10;replace q10:=eq_true q10;have n_:=aA.mk (Kd.R_mono (ok':=(fun k_=>some k_ ≠ (v147:Value).ownBlock)) HO_3.out (fun k_ hk=>hk.2));clear HO_3;have HO_3:=n_;clear n_;have HX12:=aA.mk (show Kd.R k59 59 w11 w.heap.size (fun _=>True) (.slice (some ⟨go10,0,none⟩) x3_1.length co10) x3_1 from (by (with_reducible repeat (first|apply Kd.R_alloc|apply Kd.R_drewN|apply Kd.R_drew));exact Kd.R_mono HO_3.out (fun _ hk=>trivial)));obtain ⟨ce12,hcl12,hM12,hcc12,hfr12⟩:=Kd.R_elem HX12.out z59 (x4_1:Int) (lE tC) vF;obtain ⟨ve12_0,rfl,ge12_0⟩:=k59_openM hM12;have HP12:=Kd.R_seg HX12.out (x4_1:Int) (lE tC) vF (seg:=[v147]) (j:=0) hcl12 hcc12 (show 1 ≤ 1 from by decide) (x':=(⟨t146⟩:S59)) (k59_mkM _ _ _ (⟨t146⟩:S59) (Kd.R_mono (Kd.R_apart' ((Kd.S_R HO148.out)) (Kd.R_typed HO_3.out) tq) (fun k_ hk=>⟨trivial,fun e_=>(hk.2) (by rw [e_];rfl)⟩))) (fun _ hk=>hk);have hx12_0:=hcc12 0 _ rfl;(try simp only [show (k59).sz = 1 from rfl,Nat.mul_one,Nat.add_zero] at hx12_0);have hf12_0:=hfr12 0;(try simp only [show (k59).sz = 1 from rfl,Nat.mul_one,Nat.add_zero] at hf12_0);(try clear hcl12);(try clear hcc12);(try clear hfr12);(try clear hM12);(try simp only [show (k59).sz = 1 from rfl,Nat.mul_one,Nat.add_zero] at HP12))|((with_reducible refine gate_store (t:=59) (p:=21) rfl ?_);refine store_event (t:=59) (p:=21) (v:=?vo_w13) (w1:=(w11.setCell ⟨go10,(x4_1:Int).toNat,none⟩ (v147))) ?hg ?ho ?hn ?hr ?_;(case ho=>rfl);(case hg=>rfl);(case hn=>rfl);(case hr=>exact td);intro w13 hw;have hg:w11.grownBy w13 (some go10):=(by rw [hw];exact HP12.2);have hp_:Kd.R k59 59 w13 w.heap.size (fun _=>True) (.slice (some ⟨go10,0,none⟩) x3_1.length co10) y149:=(by rw [hw,Ny149.out];exact HP12.1);clear HP12;have n0_:=aA.mk (hp_);have n1_:=aA.mk ((by rw [hw];exact aH (HB.out) GB10.out:Below w.heap.size w w13));clear HO_3;clear HB;clear HO148;have HO_3:=n0_;have HB:=n1_;clear n0_ n1_;clear hg hw hp_))
        go_roundg k1
        case measure=>have:=HK1.out;omega
        case rel=>exact ⟨(y149),(wrap64 (x4_1 + 1)),tK,H',⟨vM⟩,⟨t9⟩,⟨tN⟩⟩
       ·rw [if_neg c9] at H
        exact vX
      ·rw [if_neg c7] at H
       exact vX
     ·rw [if_neg c6] at H
      have c6b0:decide (x4_1 < (l0.length:Int)) = false:=decide_eq_false c6
      clear c6
      obtain rfl:=Option.some.inj H
      go_wp2
      go_ret
      exact ⟨_,tG,t9,tN⟩
  ·rw [if_neg c3] at H
   exact vX
 ·rw [if_neg c2] at H
  exact vX
def laws_toTree.f (k:Nat) (l0_0:List Int) (l0_1:List (S87)):Option (List Int × (List (S59))):=(laws_toIntS.f k l0_0).bind fun t153=>((laws_toNodeS.f k l0_1).bind fun t156=>(some (t153,t156)))
set_option maxHeartbeats 8000000 in
set_option maxRecDepth 100000 in
theorem laws_toTree.calls (k:Nat) (A0_0:Option Addr) (c0_0:Nat) (l0_0:List Int) (A0_1:Option Addr) (c0_1:Nat) (l0_1:List (S87)) (r1:List Int) (r2:List (S59)) (w:World) (hr0_0:Kd.C (Kd.int .i64) w A0_0 l0_0.length l0_0) (hc0_0:l0_0.length ≤ c0_0) (hr0_1:Kd.C k87 w A0_1 l0_1.length l0_1) (hc0_1:l0_1.length ≤ c0_1) (h:laws_toTree.f k l0_0 l0_1 = some (r1,r2)) :
  Calls Try.prog 8 #[.agg #[.slice A0_0 l0_0.length c0_0,.slice A0_1 l0_1.length c0_1]] w fun e w'=>∃ v0_ v1_:Value,e = .returned (.agg #[v0_,v1_]) ∧ Kd.R (Kd.int .i64) 3 w' w.heap.size (fun _=>True) v0_ r1 ∧ Kd.R k59 59 w' w.heap.size (fun _=>True) v1_ r2 ∧ Below w.heap.size w w':=by
 have hu25:=Try.underlying25
 have hu29:=Try.underlying29
 have HR0_0:=aA.mk hr0_0
 have HC0_0:=aA.mk hc0_0
 clear hr0_0 hc0_0
 have HR0_1:=aA.mk hr0_1
 have HC0_1:=aA.mk hc0_1
 clear hr0_1 hc0_1
 have HB:=aA.mk (Below.refl w.heap.size w)
 have H:((laws_toIntS.f k l0_0).bind fun t153=>((laws_toNodeS.f k l0_1).bind fun t156=>(some (t153,t156)))) = some (r1,r2):=h
 clear h
 replace H:=lF H
 obtain ⟨t153,A20,H⟩:=H
 replace H:((laws_toNodeS.f k l0_1).bind fun t156=>(some (t153,t156))) = some (r1,r2):=H
 have A2:=aA.mk A20
 clear A20
 replace H:=lF H
 obtain ⟨t156,A30,H⟩:=H
 replace H:(some (t153,t156)) = some (r1,r2):=H
 have A3:=aA.mk A30
 clear A30
 simp only [Option.some.injEq,Prod.mk.injEq] at H
 obtain ⟨rfl,rfl⟩:=H
 go_enter Try.func8,Try.ntmps8
 go_wp2_with (first|((with_reducible refine aX (N:=1) rfl ?_);refine aW ?hg (N:=1) ?hd (cs:=#[.slice A0_0 l0_0.length c0_0,.slice A0_1 l0_1.length c0_1]) (t:=25) ?hr ?_;(case hd=>rfl);(case hg=>rfl);(case hr=>exact tP);intro gb150 hg w4 hbox hb;have n0_:=aA.mk (aJ tB hb);have n1_:=aA.mk (hbox);have n2_:=aA.mk ((by rw [hg];exact (aM tB):w.heap.size ≤ gb150));have n3_:=aA.mk ((by rw [hg];exact (aM tB):w.heap.size ≤ gb150));clear HB;have HB:=n0_;have BK150:=n1_;have GW150:=n2_;have GE150:=n3_;clear n0_ n1_ n2_ n3_;clear hb hbox hg)|((with_reducible refine aX (N:=2) rfl ?_);refine aW ?hg (N:=2) ?hd (cs:=#[.slice none 0 0,.slice none 0 0]) (t:=29) ?hr ?_;(case hd=>rfl);(case hg=>rfl);(case hr=>exact tP);intro gb151 hg w5 hbox hb;have n0_:=aA.mk (aG (g:=gb150) (o:=.cells #[.slice A0_0 l0_0.length c0_0,.slice A0_1 l0_1.length c0_1] 25 (0,0)) t0 hb);have n1_:=aA.mk (aJ vq hb);have n2_:=aA.mk (hbox);have n3_:=aA.mk ((by rw [hg];exact (aM vq):w.heap.size ≤ gb151));have n4_:=aA.mk ((by rw [hg];exact (aM vq):w.heap.size ≤ gb151));have n5_:=aA.mk ((by rw [hg];exact Nat.ne_of_lt (aY (g:=gb150) (o:=.cells #[.slice A0_0 l0_0.length c0_0,.slice A0_1 l0_1.length c0_1] 25 (0,0)) t0):gb150 ≠ gb151));have n6_:=aA.mk ((by rw [hg];exact Nat.ne_of_gt (aY (g:=gb150) (o:=.cells #[.slice A0_0 l0_0.length c0_0,.slice A0_1 l0_1.length c0_1] 25 (0,0)) t0):gb151 ≠ gb150));clear BK150;clear HB;have BK150:=n0_;have HB:=n1_;have BK151:=n2_;have GW151:=n3_;have GE151:=n4_;have NB150_151:=n5_;have NB151_150:=n6_;clear n0_ n1_ n2_ n3_ n4_ n5_ n6_;clear hb hbox hg)|((with_reducible refine aX (N:=3) rfl ?_);refine aW ?hg (N:=3) ?hd (cs:=#[.slice none 0 0,.slice none 0 0]) (t:=29) ?hr ?_;(case hd=>rfl);(case hg=>rfl);(case hr=>exact tP);intro gb152 hg w6 hbox hb;have n0_:=aA.mk (aG (g:=gb150) (o:=.cells #[.slice A0_0 l0_0.length c0_0,.slice A0_1 l0_1.length c0_1] 25 (0,0)) t0 hb);have n1_:=aA.mk (aG (g:=gb151) (o:=.cells #[.slice none 0 0,.slice none 0 0] 29 (0,0)) vY hb);have n2_:=aA.mk (aJ vU hb);have n3_:=aA.mk (hbox);have n4_:=aA.mk ((by rw [hg];exact (aM vU):w.heap.size ≤ gb152));have n5_:=aA.mk ((by rw [hg];exact (aM vU):w.heap.size ≤ gb152));have n6_:=aA.mk ((by rw [hg];exact Nat.ne_of_lt (aY (g:=gb150) (o:=.cells #[.slice A0_0 l0_0.length c0_0,.slice A0_1 l0_1.length c0_1] 25 (0,0)) t0):gb150 ≠ gb152));have n7_:=aA.mk ((by rw [hg];exact Nat.ne_of_gt (aY (g:=gb150) (o:=.cells #[.slice A0_0 l0_0.length c0_0,.slice A0_1 l0_1.length c0_1] 25 (0,0)) t0):gb152 ≠ gb150));have n8_:=aA.mk ((by rw [hg];exact Nat.ne_of_lt (aY (g:=gb151) (o:=.cells #[.slice none 0 0,.slice none 0 0] 29 (0,0)) vY):gb151 ≠ gb152));have n9_:=aA.mk ((by rw [hg];exact Nat.ne_of_gt (aY (g:=gb151) (o:=.cells #[.slice none 0 0,.slice none 0 0] 29 (0,0)) vY):gb152 ≠ gb151));clear BK150;clear BK151;clear HB;have BK150:=n0_;have BK151:=n1_;have HB:=n2_;have BK152:=n3_;have GW152:=n4_;have GE152:=n5_;have NB150_152:=n6_;have NB152_150:=n7_;have NB151_152:=n8_;have NB152_151:=n9_;clear n0_ n1_ n2_ n3_ n4_ n5_ n6_ n7_ n8_ n9_;clear hb hbox hg;have hnb7:=NB150_151.out;have hnc7:=NB151_150.out;have hnb8:=NB150_152.out;have hnc8:=NB152_150.out;have hcz9_0:w6.cell? ⟨gb150,0,none⟩ = some (.slice A0_0 l0_0.length c0_0):=(aB BK150.out 0).trans rfl;have hcz9_1:w6.cell? ⟨gb150,1,none⟩ = some (.slice A0_1 l0_1.length c0_1):=(aB BK150.out 1).trans rfl;have hfz9_0:=aC BK150.out 0;have hfz9_1:=aC BK150.out 1)|((with_reducible refine aT (f:=29) rfl ?_);refine goesL_ (some 6) rfl rfl Try.func29 tF rfl #[.slice A0_0 l0_0.length c0_0] rfl tA ?_;(with_reducible refine (laws_toIntS.calls k _ _ l0_0 t153 _ ?side1 ?side2 A2.out).mono ?_);(case side1=>exact tL);(case side2=>exact HC0_0.out);rintro e w10 ⟨v154,rfl,ho0,hb⟩;refine ⟨_,rfl,?_⟩;have n0_:=aA.mk (Kd.R_lower ho0 (aM th));have n1_:=aA.mk (aG (g:=gb150) (o:=.cells #[.slice A0_0 l0_0.length c0_0,.slice A0_1 l0_1.length c0_1] 25 (0,0)) t0 hb);have n2_:=aA.mk (aG (g:=gb151) (o:=.cells #[.slice none 0 0,.slice none 0 0] 29 (0,0)) vY hb);have n3_:=aA.mk (aG (g:=gb152) (o:=.cells #[.slice none 0 0,.slice none 0 0] 29 (0,0)) (by (with_reducible repeat (first|refine aN ?_ _|refine aL ?_|refine aP ?_ _));exact BK152.out) hb);have n4_:=aA.mk (aJ th hb);clear BK150;clear BK151;clear BK152;clear HB;have HO155:=n0_;have BK150:=n1_;have BK151:=n2_;have BK152:=n3_;have HB:=n4_;clear n0_ n1_ n2_ n3_ n4_;(try clear hb);(try clear hk);(try clear ho0);obtain ⟨Ao11,co11,eo11⟩:=Kd.R_slice HO155.out;subst eo11;have hnb12:=NB152_151.out;have hnc12:=NB151_152.out;have hcz13_0:w10.cell? ⟨gb152,0,none⟩ = some (.slice none 0 0):=(aB BK152.out 0).trans rfl;have hcz13_1:w10.cell? ⟨gb152,1,none⟩ = some (.slice none 0 0):=(aB BK152.out 1).trans rfl;have hfz13_0:=aC BK152.out 0;have hfz13_1:=aC BK152.out 1;have hcz14_0:w10.cell? ⟨gb150,0,none⟩ = some (.slice A0_0 l0_0.length c0_0):=(aB BK150.out 0).trans rfl;have hcz14_1:w10.cell? ⟨gb150,1,none⟩ = some (.slice A0_1 l0_1.length c0_1):=(aB BK150.out 1).trans rfl;have hfz14_0:=aC BK150.out 0;have hfz14_1:=aC BK150.out 1)|((with_reducible refine aT (f:=30) rfl ?_);refine goesL_ (some 10) rfl rfl Try.func30 tF rfl #[.slice A0_1 l0_1.length c0_1] rfl tA ?_;(with_reducible refine (laws_toNodeS.calls k _ _ l0_1 t156 _ ?side1 ?side2 A3.out).mono ?_);(case side1=>exact Kd.aV HR0_1.out th);(case side2=>exact HC0_1.out);rintro e w15 ⟨v157,rfl,ho0,hb⟩;refine ⟨_,rfl,?_⟩;have n0_:=aA.mk (Kd.R_below (by (with_reducible repeat (first|apply Kd.R_alloc|apply Kd.R_drewN|apply Kd.R_drew));exact (Kd.R_mono (Kd.R_far (p:=⟨gb152,0,none⟩) (Kd.R_types HO155.out BK152.out tq) (fun _ hk=>hk.2) (.slice Ao11 t153.length co11)) (fun _ h_=>h_.1))) hb);have n1_:=aA.mk (Kd.R_lower ho0 (aM th));have n2_:=aA.mk (aG (g:=gb150) (o:=.cells #[.slice A0_0 l0_0.length c0_0,.slice A0_1 l0_1.length c0_1] 25 (0,0)) (by (with_reducible repeat (first|refine aN ?_ _|refine aL ?_|refine aP ?_ _));refine blk_far ?_ NB150_152.out _;(with_reducible repeat (first|refine aN ?_ _|refine aL ?_|refine aP ?_ _));exact BK150.out) hb);have n3_:=aA.mk (aG (g:=gb151) (o:=.cells #[.slice none 0 0,.slice none 0 0] 29 (0,0)) (by (with_reducible repeat (first|refine aN ?_ _|refine aL ?_|refine aP ?_ _));refine blk_far ?_ NB151_152.out _;(with_reducible repeat (first|refine aN ?_ _|refine aL ?_|refine aP ?_ _));exact BK151.out) hb);have n4_:=aA.mk (aG (g:=gb152) (o:=.cells #[.slice Ao11 t153.length co11,.slice none 0 0] 29 (0,0)) (by (with_reducible repeat (first|refine aN ?_ _|refine aL ?_|refine aP ?_ _));refine blk_put (cs:=#[.slice none 0 0,.slice none 0 0]) ?_ 0 _ rfl;(with_reducible repeat (first|refine aN ?_ _|refine aL ?_|refine aP ?_ _));exact BK152.out) hb);have n5_:=aA.mk (aJ th hb);clear HO155;clear BK150;clear BK151;clear BK152;clear HB;have HO155:=n0_;have HO158:=n1_;have BK150:=n2_;have BK151:=n3_;have BK152:=n4_;have HB:=n5_;clear n0_ n1_ n2_ n3_ n4_ n5_;(try clear hb);(try clear hk);(try clear ho0);obtain ⟨Ao16,co16,eo16⟩:=Kd.R_slice HO158.out;subst eo16;have hcz17_0:w15.cell? ⟨gb152,0,none⟩ = some (.slice Ao11 t153.length co11):=(aB BK152.out 0).trans rfl;have hcz17_1:w15.cell? ⟨gb152,1,none⟩ = some (.slice none 0 0):=(aB BK152.out 1).trans rfl;have hfz17_0:=aC BK152.out 0;have hfz17_1:=aC BK152.out 1;have hcz18_0:w15.cell? ⟨gb151,0,none⟩ = some (.slice none 0 0):=(aB BK151.out 0).trans rfl;have hcz18_1:w15.cell? ⟨gb151,1,none⟩ = some (.slice none 0 0):=(aB BK151.out 1).trans rfl;have hfz18_0:=aC BK151.out 0;have hfz18_1:=aC BK151.out 1))
 refine bodyPost_ret (results_cell_row rfl _ _ gb151 29 #[.slice Ao11 t153.length co11,.slice Ao16 t156.length co16] (0,0) _ rfl (by (with_reducible repeat (first|refine aN ?_ _|refine aL ?_|refine aP ?_ _));refine blk_put (cs:=#[.slice Ao11 t153.length co11,.slice none 0 0]) ?_ 1 _ rfl;(with_reducible repeat (first|refine aN ?_ _|refine aL ?_|refine aP ?_ _));refine blk_put (cs:=#[.slice none 0 0,.slice none 0 0]) ?_ 0 _ rfl;(with_reducible repeat (first|refine aN ?_ _|refine aL ?_|refine aP ?_ _));refine blk_far ?_ NB151_152.out _;(with_reducible repeat (first|refine aN ?_ _|refine aL ?_|refine aP ?_ _));exact BK151.out) Try.underlying29 rfl tF) rfl ?_
 exact ⟨_,_,tG,by (with_reducible repeat (first|apply Kd.R_alloc|apply Kd.R_drewN|apply Kd.R_drew));exact Kd.R_mono (Kd.R_far (p:=⟨gb151,1,none⟩) (Kd.R_far (p:=⟨gb151,0,none⟩) (Kd.R_far (p:=⟨gb152,1,none⟩) (Kd.R_types (Kd.R_types HO155.out BK152.out tq) BK151.out tq) (fun _ hk=>hk.1.2) (.slice Ao16 t156.length co16)) (fun _ hk=>hk.2) (.slice Ao11 t153.length co11)) (fun _ hk=>hk.2) (.slice Ao16 t156.length co16)) (fun _ hk=>trivial),by (with_reducible repeat (first|apply Kd.R_alloc|apply Kd.R_drewN|apply Kd.R_drew));exact Kd.R_mono (Kd.R_far (p:=⟨gb151,1,none⟩) (Kd.R_far (p:=⟨gb151,0,none⟩) (Kd.R_far (p:=⟨gb152,1,none⟩) (Kd.R_types (Kd.R_types HO158.out BK152.out tq) BK151.out tq) (fun _ hk=>hk.1.2) (.slice Ao16 t156.length co16)) (fun _ hk=>hk.2) (.slice Ao11 t153.length co11)) (fun _ hk=>hk.2) (.slice Ao16 t156.length co16)) (fun _ hk=>trivial),by repeat (first|(with_reducible first|exact HB.out|apply aF|apply aD|apply aE|refine aH ?_ GE150.out|refine aH ?_ GE151.out|refine aH ?_ GE152.out)|exact HB.out)⟩
def laws_eqIntS.l0:Nat → List Int → List Int → Int → Option (Bool)
 | 0,_,_,_=>none
 | k + 1,x0,x1,x5=>if x5 < (x0.length:Int) then (if 0 ≤ x5 then (if x5 < (x1.length:Int) then (if (rd x0 x5) = (rd x1 x5) then (laws_eqIntS.l0 k x0 x1 (wrap64 (x5 + 1))) else (some false)) else (none)) else (none)) else (some true)
def laws_eqIntS.f (k:Nat) (l0:List Int) (l1:List Int):Option (Bool):=if (l0.length:Int) = (l1.length:Int) then (laws_eqIntS.l0 k l0 l1 0) else (some false)
set_option maxHeartbeats 8000000 in
set_option maxRecDepth 100000 in
theorem laws_eqIntS.calls (k:Nat) (A0:Option Addr) (c0:Nat) (l0:List Int) (A1:Option Addr) (c1:Nat) (l1:List Int) (r:Bool) (w:World) (hr0:Kd.C (Kd.int .i64) w A0 l0.length l0) (hc0:l0.length ≤ c0) (hr1:Kd.C (Kd.int .i64) w A1 l1.length l1) (hc1:l1.length ≤ c1) (h:laws_eqIntS.f k l0 l1 = some r) :
  Calls Try.prog 34 #[.slice A0 l0.length c0,.slice A1 l1.length c1] w fun e w'=>e = .returned (.bool r) ∧ aU w w':=by
 have HR0:=aA.mk hr0
 have HC0:=aA.mk hc0
 clear hr0 hc0
 have HR1:=aA.mk hr1
 have HC1:=aA.mk hc1
 clear hr1 hc1
 have H:(if (l0.length:Int) = (l1.length:Int) then (laws_eqIntS.l0 k l0 l1 0) else (some false)) = some r:=h
 clear h
 by_cases c3:(l0.length:Int) = (l1.length:Int)
 ·rw [if_pos c3] at H
  have c3b0:((l0.length:Int) == (l1.length:Int)) = true:=beq_iff_eq.mpr c3
  have c3b1:((l0.length:Int) != (l1.length:Int)) = false:=bne_eq_false_iff_eq.mpr c3
  have c3b2:(l0.length == l1.length) = true:=by first|simpa using c3|(simp at c3 ⊢;omega)
  clear c3
  have H':=aA.mk H
  clear H
  go_enter Try.func34,Try.ntmps34
  go_wp2
  repeat (go_quiet (fail);try go_wp2)
  go_loopg [5] k (fun kq v5 w'=>∃ (x5_1:Int),v5 = .int .i64 x5_1 ∧ aA (laws_eqIntS.l0 kq l0 l1 x5_1 = some r) ∧ aA (kq ≤ k) ∧ aU w w')
  case atStart=>exact ⟨(0),tK,H',⟨Nat.le_refl _⟩,t7⟩
  case round =>
   clear H'
   try clear c1
   try clear p2
   try clear c3
   try clear c3b0
   try clear c3b1
   try clear c3b2
   obtain ⟨x5_1,rfl,HA,HK1,⟨m1,rfl⟩⟩:=hrel
   cases gk with
   | zero=>exact absurd HA.out (by simp [laws_eqIntS.l0])
   | succ k1 =>
    have H:=HA.out
    clear HA
    simp only [laws_eqIntS.l0] at H
    by_cases c4:x5_1 < (l0.length:Int)
    ·rw [if_pos c4] at H
     have c4b0:decide (x5_1 < (l0.length:Int)) = true:=decide_eq_true c4
     clear c4
     by_cases c5:0 ≤ x5_1
     ·rw [if_pos c5] at H
      have c5b0:decide (0 ≤ x5_1) = true:=decide_eq_true c5
      clear c5
      by_cases c6:x5_1 < (l1.length:Int)
      ·rw [if_pos c6] at H
       have c6b0:decide (x5_1 < (l1.length:Int)) = true:=decide_eq_true c6
       clear c6
       by_cases c7:(rd l0 x5_1) = (rd l1 x5_1)
       ·rw [if_pos c7] at H
        have c7b0:((rd l0 x5_1) == (rd l1 x5_1)) = true:=beq_iff_eq.mpr c7
        have c7b1:((rd l0 x5_1) != (rd l1 x5_1)) = false:=bne_eq_false_iff_eq.mpr c7
        clear c7
        have H':=aA.mk H
        clear H
        have p159:0 ≤ (x5_1:Int):=lE tC
        have q159:x5_1 < (l0.length:Int):=lE tC
        obtain ⟨ad159,e159,hx159_0⟩:=Kd.at_int HR0.out x5_1 p159 q159
        cases e159
        replace p159:=eq_true p159
        replace q159:=eq_true q159
        have p160:0 ≤ (x5_1:Int):=lE tC
        have q160:x5_1 < (l1.length:Int):=lE tC
        obtain ⟨ad160,e160,hx160_0⟩:=Kd.at_int HR1.out x5_1 p160 q160
        cases e160
        replace p160:=eq_true p160
        replace q160:=eq_true q160
        go_wp2
        repeat (go_quiet (fail);try go_wp2)
        go_roundg k1
        case measure=>have:=HK1.out;omega
        case rel=>exact ⟨(wrap64 (x5_1 + 1)),tK,H',⟨vM⟩,t7⟩
       ·rw [if_neg c7] at H
        have c7b0:((rd l0 x5_1) == (rd l1 x5_1)) = false:=beq_eq_false_iff_ne.mpr c7
        have c7b1:((rd l0 x5_1) != (rd l1 x5_1)) = true:=bne_iff_ne.mpr c7
        obtain rfl:=Option.some.inj H
        have p159:0 ≤ (x5_1:Int):=lE tC
        have q159:x5_1 < (l0.length:Int):=lE tC
        obtain ⟨ad159,e159,hx159_0⟩:=Kd.at_int HR0.out x5_1 p159 q159
        cases e159
        replace p159:=eq_true p159
        replace q159:=eq_true q159
        have p160:0 ≤ (x5_1:Int):=lE tC
        have q160:x5_1 < (l1.length:Int):=lE tC
        obtain ⟨ad160,e160,hx160_0⟩:=Kd.at_int HR1.out x5_1 p160 q160
        cases e160
        replace p160:=eq_true p160
        replace q160:=eq_true q160
        go_wp2
        repeat (go_quiet (fail);try go_wp2)
        go_ret
        exact tR
      ·rw [if_neg c6] at H
       exact vX
     ·rw [if_neg c5] at H
      exact vX
    ·rw [if_neg c4] at H
     have c4b0:decide (x5_1 < (l0.length:Int)) = false:=decide_eq_false c4
     clear c4
     obtain rfl:=Option.some.inj H
     go_wp2
     repeat (go_quiet (fail);try go_wp2)
     go_ret
     exact tR
 ·rw [if_neg c3] at H
  have c3b0:((l0.length:Int) == (l1.length:Int)) = false:=beq_eq_false_iff_ne.mpr c3
  have c3b1:((l0.length:Int) != (l1.length:Int)) = true:=bne_iff_ne.mpr c3
  have c3b2:(l0.length == l1.length) = false:=by first|simpa using c3|(simp at c3 ⊢;omega)
  obtain rfl:=Option.some.inj H
  go_enter Try.func34,Try.ntmps34
  go_wp2
  repeat (go_quiet (fail);try go_wp2)
  go_ret
  exact tR
def laws_eqKey.f (a0_0:Int) (a0_1:Int) (a0_2:Int) (a0_3:Int) (a0_4:Int) (a1_0:Int) (a1_1:Int) (a1_2:Int) (a1_3:Int) (a1_4:Int):Option (Bool):=if a0_0 = a1_0 then (if a0_1 = a1_1 then (if a0_2 = a1_2 then (if a0_3 = a1_3 then (if a0_4 = a1_4 then (some true) else (some false)) else (some false)) else (some false)) else (some false)) else (some false)
set_option maxHeartbeats 8000000 in
set_option maxRecDepth 100000 in
theorem laws_eqKey.calls (a0_0:Int) (a0_1:Int) (a0_2:Int) (a0_3:Int) (a0_4:Int) (a1_0:Int) (a1_1:Int) (a1_2:Int) (a1_3:Int) (a1_4:Int) (r:Bool) (w:World) (h:laws_eqKey.f a0_0 a0_1 a0_2 a0_3 a0_4 a1_0 a1_1 a1_2 a1_3 a1_4 = some r) :
  Calls Try.prog 107 #[.agg #[.int .i64 a0_0,.int .i64 a0_1,.int .i64 a0_2,.int .i64 a0_3,.int .i64 a0_4],.agg #[.int .i64 a1_0,.int .i64 a1_1,.int .i64 a1_2,.int .i64 a1_3,.int .i64 a1_4]] w fun e w'=>e = .returned (.bool r) ∧ Below w.heap.size w w':=by
 have hu38:=Try.underlying38
 have HB:=aA.mk (Below.refl w.heap.size w)
 have H:(if a0_0 = a1_0 then (if a0_1 = a1_1 then (if a0_2 = a1_2 then (if a0_3 = a1_3 then (if a0_4 = a1_4 then (some true) else (some false)) else (some false)) else (some false)) else (some false)) else (some false)) = some r:=h
 clear h
 by_cases c3:a0_0 = a1_0
 ·rw [if_pos c3] at H
  have c3b0:(a0_0 == a1_0) = true:=beq_iff_eq.mpr c3
  have c3b1:(a0_0 != a1_0) = false:=bne_eq_false_iff_eq.mpr c3
  clear c3
  by_cases c4:a0_1 = a1_1
  ·rw [if_pos c4] at H
   have c4b0:(a0_1 == a1_1) = true:=beq_iff_eq.mpr c4
   have c4b1:(a0_1 != a1_1) = false:=bne_eq_false_iff_eq.mpr c4
   clear c4
   by_cases c5:a0_2 = a1_2
   ·rw [if_pos c5] at H
    have c5b0:(a0_2 == a1_2) = true:=beq_iff_eq.mpr c5
    have c5b1:(a0_2 != a1_2) = false:=bne_eq_false_iff_eq.mpr c5
    clear c5
    by_cases c6:a0_3 = a1_3
    ·rw [if_pos c6] at H
     have c6b0:(a0_3 == a1_3) = true:=beq_iff_eq.mpr c6
     have c6b1:(a0_3 != a1_3) = false:=bne_eq_false_iff_eq.mpr c6
     clear c6
     by_cases c7:a0_4 = a1_4
     ·rw [if_pos c7] at H
      have c7b0:(a0_4 == a1_4) = true:=beq_iff_eq.mpr c7
      have c7b1:(a0_4 != a1_4) = false:=bne_eq_false_iff_eq.mpr c7
      clear c7
      obtain rfl:=Option.some.inj H
      go_enter Try.func107,Try.ntmps107
      go_wp2_with (first|((with_reducible refine aX (N:=2) rfl ?_);refine aW ?hg (N:=2) ?hd (cs:=#[.int .i64 a0_0,.int .i64 a0_1,.int .i64 a0_2,.int .i64 a0_3,.int .i64 a0_4]) (t:=38) ?hr ?_;(case hd=>rfl);(case hg=>rfl);(case hr=>exact tP);intro gb161 hg w8 hbox hb;have n0_:=aA.mk (aJ tB hb);have n1_:=aA.mk (hbox);have n2_:=aA.mk ((by rw [hg];exact (aM tB):w.heap.size ≤ gb161));have n3_:=aA.mk ((by rw [hg];exact (aM tB):w.heap.size ≤ gb161));clear HB;have HB:=n0_;have BK161:=n1_;have GW161:=n2_;have GE161:=n3_;clear n0_ n1_ n2_ n3_;clear hb hbox hg)|((with_reducible refine aX (N:=3) rfl ?_);refine aW ?hg (N:=3) ?hd (cs:=#[.int .i64 a1_0,.int .i64 a1_1,.int .i64 a1_2,.int .i64 a1_3,.int .i64 a1_4]) (t:=38) ?hr ?_;(case hd=>rfl);(case hg=>rfl);(case hr=>exact tP);intro gb162 hg w9 hbox hb;have n0_:=aA.mk (aG (g:=gb161) (o:=.cells #[.int .i64 a0_0,.int .i64 a0_1,.int .i64 a0_2,.int .i64 a0_3,.int .i64 a0_4] 38 (0,0)) tU hb);have n1_:=aA.mk (aJ tQ hb);have n2_:=aA.mk (hbox);have n3_:=aA.mk ((by rw [hg];exact (aM tQ):w.heap.size ≤ gb162));have n4_:=aA.mk ((by rw [hg];exact (aM tQ):w.heap.size ≤ gb162));have n5_:=aA.mk ((by rw [hg];exact Nat.ne_of_lt (aY (g:=gb161) (o:=.cells #[.int .i64 a0_0,.int .i64 a0_1,.int .i64 a0_2,.int .i64 a0_3,.int .i64 a0_4] 38 (0,0)) tU):gb161 ≠ gb162));have n6_:=aA.mk ((by rw [hg];exact Nat.ne_of_gt (aY (g:=gb161) (o:=.cells #[.int .i64 a0_0,.int .i64 a0_1,.int .i64 a0_2,.int .i64 a0_3,.int .i64 a0_4] 38 (0,0)) tU):gb162 ≠ gb161));clear BK161;clear HB;have BK161:=n0_;have HB:=n1_;have BK162:=n2_;have GW162:=n3_;have GE162:=n4_;have NB161_162:=n5_;have NB162_161:=n6_;clear n0_ n1_ n2_ n3_ n4_ n5_ n6_;clear hb hbox hg;have hnb10:=NB161_162.out;have hnc10:=NB162_161.out;have hcz11_0:w9.cell? ⟨gb161,0,none⟩ = some (.int .i64 a0_0):=(aB BK161.out 0).trans rfl;have hcz11_1:w9.cell? ⟨gb161,1,none⟩ = some (.int .i64 a0_1):=(aB BK161.out 1).trans rfl;have hcz11_2:w9.cell? ⟨gb161,2,none⟩ = some (.int .i64 a0_2):=(aB BK161.out 2).trans rfl;have hcz11_3:w9.cell? ⟨gb161,3,none⟩ = some (.int .i64 a0_3):=(aB BK161.out 3).trans rfl;have hcz11_4:w9.cell? ⟨gb161,4,none⟩ = some (.int .i64 a0_4):=(aB BK161.out 4).trans rfl;have hfz11_0:=aC BK161.out 0;have hfz11_1:=aC BK161.out 1;have hfz11_2:=aC BK161.out 2;have hfz11_3:=aC BK161.out 3;have hfz11_4:=aC BK161.out 4;have hcz12_0:w9.cell? ⟨gb162,0,none⟩ = some (.int .i64 a1_0):=(aB BK162.out 0).trans rfl;have hcz12_1:w9.cell? ⟨gb162,1,none⟩ = some (.int .i64 a1_1):=(aB BK162.out 1).trans rfl;have hcz12_2:w9.cell? ⟨gb162,2,none⟩ = some (.int .i64 a1_2):=(aB BK162.out 2).trans rfl;have hcz12_3:w9.cell? ⟨gb162,3,none⟩ = some (.int .i64 a1_3):=(aB BK162.out 3).trans rfl;have hcz12_4:w9.cell? ⟨gb162,4,none⟩ = some (.int .i64 a1_4):=(aB BK162.out 4).trans rfl;have hfz12_0:=aC BK162.out 0;have hfz12_1:=aC BK162.out 1;have hfz12_2:=aC BK162.out 2;have hfz12_3:=aC BK162.out 3;have hfz12_4:=aC BK162.out 4))
      go_ret
      exact tb
     ·rw [if_neg c7] at H
      have c7b0:(a0_4 == a1_4) = false:=beq_eq_false_iff_ne.mpr c7
      have c7b1:(a0_4 != a1_4) = true:=bne_iff_ne.mpr c7
      obtain rfl:=Option.some.inj H
      go_enter Try.func107,Try.ntmps107
      go_wp2_with (first|((with_reducible refine aX (N:=2) rfl ?_);refine aW ?hg (N:=2) ?hd (cs:=#[.int .i64 a0_0,.int .i64 a0_1,.int .i64 a0_2,.int .i64 a0_3,.int .i64 a0_4]) (t:=38) ?hr ?_;(case hd=>rfl);(case hg=>rfl);(case hr=>exact tP);intro gb161 hg w13 hbox hb;have n0_:=aA.mk (aJ tB hb);have n1_:=aA.mk (hbox);have n2_:=aA.mk ((by rw [hg];exact (aM tB):w.heap.size ≤ gb161));have n3_:=aA.mk ((by rw [hg];exact (aM tB):w.heap.size ≤ gb161));clear HB;have HB:=n0_;have BK161:=n1_;have GW161:=n2_;have GE161:=n3_;clear n0_ n1_ n2_ n3_;clear hb hbox hg)|((with_reducible refine aX (N:=3) rfl ?_);refine aW ?hg (N:=3) ?hd (cs:=#[.int .i64 a1_0,.int .i64 a1_1,.int .i64 a1_2,.int .i64 a1_3,.int .i64 a1_4]) (t:=38) ?hr ?_;(case hd=>rfl);(case hg=>rfl);(case hr=>exact tP);intro gb162 hg w14 hbox hb;have n0_:=aA.mk (aG (g:=gb161) (o:=.cells #[.int .i64 a0_0,.int .i64 a0_1,.int .i64 a0_2,.int .i64 a0_3,.int .i64 a0_4] 38 (0,0)) tU hb);have n1_:=aA.mk (aJ tQ hb);have n2_:=aA.mk (hbox);have n3_:=aA.mk ((by rw [hg];exact (aM tQ):w.heap.size ≤ gb162));have n4_:=aA.mk ((by rw [hg];exact (aM tQ):w.heap.size ≤ gb162));have n5_:=aA.mk ((by rw [hg];exact Nat.ne_of_lt (aY (g:=gb161) (o:=.cells #[.int .i64 a0_0,.int .i64 a0_1,.int .i64 a0_2,.int .i64 a0_3,.int .i64 a0_4] 38 (0,0)) tU):gb161 ≠ gb162));have n6_:=aA.mk ((by rw [hg];exact Nat.ne_of_gt (aY (g:=gb161) (o:=.cells #[.int .i64 a0_0,.int .i64 a0_1,.int .i64 a0_2,.int .i64 a0_3,.int .i64 a0_4] 38 (0,0)) tU):gb162 ≠ gb161));clear BK161;clear HB;have BK161:=n0_;have HB:=n1_;have BK162:=n2_;have GW162:=n3_;have GE162:=n4_;have NB161_162:=n5_;have NB162_161:=n6_;clear n0_ n1_ n2_ n3_ n4_ n5_ n6_;clear hb hbox hg;have hnb15:=NB161_162.out;have hnc15:=NB162_161.out;have hcz16_0:w14.cell? ⟨gb161,0,none⟩ = some (.int .i64 a0_0):=(aB BK161.out 0).trans rfl;have hcz16_1:w14.cell? ⟨gb161,1,none⟩ = some (.int .i64 a0_1):=(aB BK161.out 1).trans rfl;have hcz16_2:w14.cell? ⟨gb161,2,none⟩ = some (.int .i64 a0_2):=(aB BK161.out 2).trans rfl;have hcz16_3:w14.cell? ⟨gb161,3,none⟩ = some (.int .i64 a0_3):=(aB BK161.out 3).trans rfl;have hcz16_4:w14.cell? ⟨gb161,4,none⟩ = some (.int .i64 a0_4):=(aB BK161.out 4).trans rfl;have hfz16_0:=aC BK161.out 0;have hfz16_1:=aC BK161.out 1;have hfz16_2:=aC BK161.out 2;have hfz16_3:=aC BK161.out 3;have hfz16_4:=aC BK161.out 4;have hcz17_0:w14.cell? ⟨gb162,0,none⟩ = some (.int .i64 a1_0):=(aB BK162.out 0).trans rfl;have hcz17_1:w14.cell? ⟨gb162,1,none⟩ = some (.int .i64 a1_1):=(aB BK162.out 1).trans rfl;have hcz17_2:w14.cell? ⟨gb162,2,none⟩ = some (.int .i64 a1_2):=(aB BK162.out 2).trans rfl;have hcz17_3:w14.cell? ⟨gb162,3,none⟩ = some (.int .i64 a1_3):=(aB BK162.out 3).trans rfl;have hcz17_4:w14.cell? ⟨gb162,4,none⟩ = some (.int .i64 a1_4):=(aB BK162.out 4).trans rfl;have hfz17_0:=aC BK162.out 0;have hfz17_1:=aC BK162.out 1;have hfz17_2:=aC BK162.out 2;have hfz17_3:=aC BK162.out 3;have hfz17_4:=aC BK162.out 4))
      go_ret
      exact tb
    ·rw [if_neg c6] at H
     have c6b0:(a0_3 == a1_3) = false:=beq_eq_false_iff_ne.mpr c6
     have c6b1:(a0_3 != a1_3) = true:=bne_iff_ne.mpr c6
     obtain rfl:=Option.some.inj H
     go_enter Try.func107,Try.ntmps107
     go_wp2_with (first|((with_reducible refine aX (N:=2) rfl ?_);refine aW ?hg (N:=2) ?hd (cs:=#[.int .i64 a0_0,.int .i64 a0_1,.int .i64 a0_2,.int .i64 a0_3,.int .i64 a0_4]) (t:=38) ?hr ?_;(case hd=>rfl);(case hg=>rfl);(case hr=>exact tP);intro gb161 hg w18 hbox hb;have n0_:=aA.mk (aJ tB hb);have n1_:=aA.mk (hbox);have n2_:=aA.mk ((by rw [hg];exact (aM tB):w.heap.size ≤ gb161));have n3_:=aA.mk ((by rw [hg];exact (aM tB):w.heap.size ≤ gb161));clear HB;have HB:=n0_;have BK161:=n1_;have GW161:=n2_;have GE161:=n3_;clear n0_ n1_ n2_ n3_;clear hb hbox hg)|((with_reducible refine aX (N:=3) rfl ?_);refine aW ?hg (N:=3) ?hd (cs:=#[.int .i64 a1_0,.int .i64 a1_1,.int .i64 a1_2,.int .i64 a1_3,.int .i64 a1_4]) (t:=38) ?hr ?_;(case hd=>rfl);(case hg=>rfl);(case hr=>exact tP);intro gb162 hg w19 hbox hb;have n0_:=aA.mk (aG (g:=gb161) (o:=.cells #[.int .i64 a0_0,.int .i64 a0_1,.int .i64 a0_2,.int .i64 a0_3,.int .i64 a0_4] 38 (0,0)) tU hb);have n1_:=aA.mk (aJ tQ hb);have n2_:=aA.mk (hbox);have n3_:=aA.mk ((by rw [hg];exact (aM tQ):w.heap.size ≤ gb162));have n4_:=aA.mk ((by rw [hg];exact (aM tQ):w.heap.size ≤ gb162));have n5_:=aA.mk ((by rw [hg];exact Nat.ne_of_lt (aY (g:=gb161) (o:=.cells #[.int .i64 a0_0,.int .i64 a0_1,.int .i64 a0_2,.int .i64 a0_3,.int .i64 a0_4] 38 (0,0)) tU):gb161 ≠ gb162));have n6_:=aA.mk ((by rw [hg];exact Nat.ne_of_gt (aY (g:=gb161) (o:=.cells #[.int .i64 a0_0,.int .i64 a0_1,.int .i64 a0_2,.int .i64 a0_3,.int .i64 a0_4] 38 (0,0)) tU):gb162 ≠ gb161));clear BK161;clear HB;have BK161:=n0_;have HB:=n1_;have BK162:=n2_;have GW162:=n3_;have GE162:=n4_;have NB161_162:=n5_;have NB162_161:=n6_;clear n0_ n1_ n2_ n3_ n4_ n5_ n6_;clear hb hbox hg;have hnb20:=NB161_162.out;have hnc20:=NB162_161.out;have hcz21_0:w19.cell? ⟨gb161,0,none⟩ = some (.int .i64 a0_0):=(aB BK161.out 0).trans rfl;have hcz21_1:w19.cell? ⟨gb161,1,none⟩ = some (.int .i64 a0_1):=(aB BK161.out 1).trans rfl;have hcz21_2:w19.cell? ⟨gb161,2,none⟩ = some (.int .i64 a0_2):=(aB BK161.out 2).trans rfl;have hcz21_3:w19.cell? ⟨gb161,3,none⟩ = some (.int .i64 a0_3):=(aB BK161.out 3).trans rfl;have hcz21_4:w19.cell? ⟨gb161,4,none⟩ = some (.int .i64 a0_4):=(aB BK161.out 4).trans rfl;have hfz21_0:=aC BK161.out 0;have hfz21_1:=aC BK161.out 1;have hfz21_2:=aC BK161.out 2;have hfz21_3:=aC BK161.out 3;have hfz21_4:=aC BK161.out 4;have hcz22_0:w19.cell? ⟨gb162,0,none⟩ = some (.int .i64 a1_0):=(aB BK162.out 0).trans rfl;have hcz22_1:w19.cell? ⟨gb162,1,none⟩ = some (.int .i64 a1_1):=(aB BK162.out 1).trans rfl;have hcz22_2:w19.cell? ⟨gb162,2,none⟩ = some (.int .i64 a1_2):=(aB BK162.out 2).trans rfl;have hcz22_3:w19.cell? ⟨gb162,3,none⟩ = some (.int .i64 a1_3):=(aB BK162.out 3).trans rfl;have hcz22_4:w19.cell? ⟨gb162,4,none⟩ = some (.int .i64 a1_4):=(aB BK162.out 4).trans rfl;have hfz22_0:=aC BK162.out 0;have hfz22_1:=aC BK162.out 1;have hfz22_2:=aC BK162.out 2;have hfz22_3:=aC BK162.out 3;have hfz22_4:=aC BK162.out 4))
     go_ret
     exact tb
   ·rw [if_neg c5] at H
    have c5b0:(a0_2 == a1_2) = false:=beq_eq_false_iff_ne.mpr c5
    have c5b1:(a0_2 != a1_2) = true:=bne_iff_ne.mpr c5
    obtain rfl:=Option.some.inj H
    go_enter Try.func107,Try.ntmps107
    go_wp2_with (first|((with_reducible refine aX (N:=2) rfl ?_);refine aW ?hg (N:=2) ?hd (cs:=#[.int .i64 a0_0,.int .i64 a0_1,.int .i64 a0_2,.int .i64 a0_3,.int .i64 a0_4]) (t:=38) ?hr ?_;(case hd=>rfl);(case hg=>rfl);(case hr=>exact tP);intro gb161 hg w23 hbox hb;have n0_:=aA.mk (aJ tB hb);have n1_:=aA.mk (hbox);have n2_:=aA.mk ((by rw [hg];exact (aM tB):w.heap.size ≤ gb161));have n3_:=aA.mk ((by rw [hg];exact (aM tB):w.heap.size ≤ gb161));clear HB;have HB:=n0_;have BK161:=n1_;have GW161:=n2_;have GE161:=n3_;clear n0_ n1_ n2_ n3_;clear hb hbox hg)|((with_reducible refine aX (N:=3) rfl ?_);refine aW ?hg (N:=3) ?hd (cs:=#[.int .i64 a1_0,.int .i64 a1_1,.int .i64 a1_2,.int .i64 a1_3,.int .i64 a1_4]) (t:=38) ?hr ?_;(case hd=>rfl);(case hg=>rfl);(case hr=>exact tP);intro gb162 hg w24 hbox hb;have n0_:=aA.mk (aG (g:=gb161) (o:=.cells #[.int .i64 a0_0,.int .i64 a0_1,.int .i64 a0_2,.int .i64 a0_3,.int .i64 a0_4] 38 (0,0)) tU hb);have n1_:=aA.mk (aJ tQ hb);have n2_:=aA.mk (hbox);have n3_:=aA.mk ((by rw [hg];exact (aM tQ):w.heap.size ≤ gb162));have n4_:=aA.mk ((by rw [hg];exact (aM tQ):w.heap.size ≤ gb162));have n5_:=aA.mk ((by rw [hg];exact Nat.ne_of_lt (aY (g:=gb161) (o:=.cells #[.int .i64 a0_0,.int .i64 a0_1,.int .i64 a0_2,.int .i64 a0_3,.int .i64 a0_4] 38 (0,0)) tU):gb161 ≠ gb162));have n6_:=aA.mk ((by rw [hg];exact Nat.ne_of_gt (aY (g:=gb161) (o:=.cells #[.int .i64 a0_0,.int .i64 a0_1,.int .i64 a0_2,.int .i64 a0_3,.int .i64 a0_4] 38 (0,0)) tU):gb162 ≠ gb161));clear BK161;clear HB;have BK161:=n0_;have HB:=n1_;have BK162:=n2_;have GW162:=n3_;have GE162:=n4_;have NB161_162:=n5_;have NB162_161:=n6_;clear n0_ n1_ n2_ n3_ n4_ n5_ n6_;clear hb hbox hg;have hnb25:=NB161_162.out;have hnc25:=NB162_161.out;have hcz26_0:w24.cell? ⟨gb161,0,none⟩ = some (.int .i64 a0_0):=(aB BK161.out 0).trans rfl;have hcz26_1:w24.cell? ⟨gb161,1,none⟩ = some (.int .i64 a0_1):=(aB BK161.out 1).trans rfl;have hcz26_2:w24.cell? ⟨gb161,2,none⟩ = some (.int .i64 a0_2):=(aB BK161.out 2).trans rfl;have hcz26_3:w24.cell? ⟨gb161,3,none⟩ = some (.int .i64 a0_3):=(aB BK161.out 3).trans rfl;have hcz26_4:w24.cell? ⟨gb161,4,none⟩ = some (.int .i64 a0_4):=(aB BK161.out 4).trans rfl;have hfz26_0:=aC BK161.out 0;have hfz26_1:=aC BK161.out 1;have hfz26_2:=aC BK161.out 2;have hfz26_3:=aC BK161.out 3;have hfz26_4:=aC BK161.out 4;have hcz27_0:w24.cell? ⟨gb162,0,none⟩ = some (.int .i64 a1_0):=(aB BK162.out 0).trans rfl;have hcz27_1:w24.cell? ⟨gb162,1,none⟩ = some (.int .i64 a1_1):=(aB BK162.out 1).trans rfl;have hcz27_2:w24.cell? ⟨gb162,2,none⟩ = some (.int .i64 a1_2):=(aB BK162.out 2).trans rfl;have hcz27_3:w24.cell? ⟨gb162,3,none⟩ = some (.int .i64 a1_3):=(aB BK162.out 3).trans rfl;have hcz27_4:w24.cell? ⟨gb162,4,none⟩ = some (.int .i64 a1_4):=(aB BK162.out 4).trans rfl;have hfz27_0:=aC BK162.out 0;have hfz27_1:=aC BK162.out 1;have hfz27_2:=aC BK162.out 2;have hfz27_3:=aC BK162.out 3;have hfz27_4:=aC BK162.out 4))
    go_ret
    exact tb
  ·rw [if_neg c4] at H
   have c4b0:(a0_1 == a1_1) = false:=beq_eq_false_iff_ne.mpr c4
   have c4b1:(a0_1 != a1_1) = true:=bne_iff_ne.mpr c4
   obtain rfl:=Option.some.inj H
   go_enter Try.func107,Try.ntmps107
   go_wp2_with (first|((with_reducible refine aX (N:=2) rfl ?_);refine aW ?hg (N:=2) ?hd (cs:=#[.int .i64 a0_0,.int .i64 a0_1,.int .i64 a0_2,.int .i64 a0_3,.int .i64 a0_4]) (t:=38) ?hr ?_;(case hd=>rfl);(case hg=>rfl);(case hr=>exact tP);intro gb161 hg w28 hbox hb;have n0_:=aA.mk (aJ tB hb);have n1_:=aA.mk (hbox);have n2_:=aA.mk ((by rw [hg];exact (aM tB):w.heap.size ≤ gb161));have n3_:=aA.mk ((by rw [hg];exact (aM tB):w.heap.size ≤ gb161));clear HB;have HB:=n0_;have BK161:=n1_;have GW161:=n2_;have GE161:=n3_;clear n0_ n1_ n2_ n3_;clear hb hbox hg)|((with_reducible refine aX (N:=3) rfl ?_);refine aW ?hg (N:=3) ?hd (cs:=#[.int .i64 a1_0,.int .i64 a1_1,.int .i64 a1_2,.int .i64 a1_3,.int .i64 a1_4]) (t:=38) ?hr ?_;(case hd=>rfl);(case hg=>rfl);(case hr=>exact tP);intro gb162 hg w29 hbox hb;have n0_:=aA.mk (aG (g:=gb161) (o:=.cells #[.int .i64 a0_0,.int .i64 a0_1,.int .i64 a0_2,.int .i64 a0_3,.int .i64 a0_4] 38 (0,0)) tU hb);have n1_:=aA.mk (aJ tQ hb);have n2_:=aA.mk (hbox);have n3_:=aA.mk ((by rw [hg];exact (aM tQ):w.heap.size ≤ gb162));have n4_:=aA.mk ((by rw [hg];exact (aM tQ):w.heap.size ≤ gb162));have n5_:=aA.mk ((by rw [hg];exact Nat.ne_of_lt (aY (g:=gb161) (o:=.cells #[.int .i64 a0_0,.int .i64 a0_1,.int .i64 a0_2,.int .i64 a0_3,.int .i64 a0_4] 38 (0,0)) tU):gb161 ≠ gb162));have n6_:=aA.mk ((by rw [hg];exact Nat.ne_of_gt (aY (g:=gb161) (o:=.cells #[.int .i64 a0_0,.int .i64 a0_1,.int .i64 a0_2,.int .i64 a0_3,.int .i64 a0_4] 38 (0,0)) tU):gb162 ≠ gb161));clear BK161;clear HB;have BK161:=n0_;have HB:=n1_;have BK162:=n2_;have GW162:=n3_;have GE162:=n4_;have NB161_162:=n5_;have NB162_161:=n6_;clear n0_ n1_ n2_ n3_ n4_ n5_ n6_;clear hb hbox hg;have hnb30:=NB161_162.out;have hnc30:=NB162_161.out;have hcz31_0:w29.cell? ⟨gb161,0,none⟩ = some (.int .i64 a0_0):=(aB BK161.out 0).trans rfl;have hcz31_1:w29.cell? ⟨gb161,1,none⟩ = some (.int .i64 a0_1):=(aB BK161.out 1).trans rfl;have hcz31_2:w29.cell? ⟨gb161,2,none⟩ = some (.int .i64 a0_2):=(aB BK161.out 2).trans rfl;have hcz31_3:w29.cell? ⟨gb161,3,none⟩ = some (.int .i64 a0_3):=(aB BK161.out 3).trans rfl;have hcz31_4:w29.cell? ⟨gb161,4,none⟩ = some (.int .i64 a0_4):=(aB BK161.out 4).trans rfl;have hfz31_0:=aC BK161.out 0;have hfz31_1:=aC BK161.out 1;have hfz31_2:=aC BK161.out 2;have hfz31_3:=aC BK161.out 3;have hfz31_4:=aC BK161.out 4;have hcz32_0:w29.cell? ⟨gb162,0,none⟩ = some (.int .i64 a1_0):=(aB BK162.out 0).trans rfl;have hcz32_1:w29.cell? ⟨gb162,1,none⟩ = some (.int .i64 a1_1):=(aB BK162.out 1).trans rfl;have hcz32_2:w29.cell? ⟨gb162,2,none⟩ = some (.int .i64 a1_2):=(aB BK162.out 2).trans rfl;have hcz32_3:w29.cell? ⟨gb162,3,none⟩ = some (.int .i64 a1_3):=(aB BK162.out 3).trans rfl;have hcz32_4:w29.cell? ⟨gb162,4,none⟩ = some (.int .i64 a1_4):=(aB BK162.out 4).trans rfl;have hfz32_0:=aC BK162.out 0;have hfz32_1:=aC BK162.out 1;have hfz32_2:=aC BK162.out 2;have hfz32_3:=aC BK162.out 3;have hfz32_4:=aC BK162.out 4))
   go_ret
   exact tb
 ·rw [if_neg c3] at H
  have c3b0:(a0_0 == a1_0) = false:=beq_eq_false_iff_ne.mpr c3
  have c3b1:(a0_0 != a1_0) = true:=bne_iff_ne.mpr c3
  obtain rfl:=Option.some.inj H
  go_enter Try.func107,Try.ntmps107
  go_wp2_with (first|((with_reducible refine aX (N:=2) rfl ?_);refine aW ?hg (N:=2) ?hd (cs:=#[.int .i64 a0_0,.int .i64 a0_1,.int .i64 a0_2,.int .i64 a0_3,.int .i64 a0_4]) (t:=38) ?hr ?_;(case hd=>rfl);(case hg=>rfl);(case hr=>exact tP);intro gb161 hg w33 hbox hb;have n0_:=aA.mk (aJ tB hb);have n1_:=aA.mk (hbox);have n2_:=aA.mk ((by rw [hg];exact (aM tB):w.heap.size ≤ gb161));have n3_:=aA.mk ((by rw [hg];exact (aM tB):w.heap.size ≤ gb161));clear HB;have HB:=n0_;have BK161:=n1_;have GW161:=n2_;have GE161:=n3_;clear n0_ n1_ n2_ n3_;clear hb hbox hg)|((with_reducible refine aX (N:=3) rfl ?_);refine aW ?hg (N:=3) ?hd (cs:=#[.int .i64 a1_0,.int .i64 a1_1,.int .i64 a1_2,.int .i64 a1_3,.int .i64 a1_4]) (t:=38) ?hr ?_;(case hd=>rfl);(case hg=>rfl);(case hr=>exact tP);intro gb162 hg w34 hbox hb;have n0_:=aA.mk (aG (g:=gb161) (o:=.cells #[.int .i64 a0_0,.int .i64 a0_1,.int .i64 a0_2,.int .i64 a0_3,.int .i64 a0_4] 38 (0,0)) tU hb);have n1_:=aA.mk (aJ tQ hb);have n2_:=aA.mk (hbox);have n3_:=aA.mk ((by rw [hg];exact (aM tQ):w.heap.size ≤ gb162));have n4_:=aA.mk ((by rw [hg];exact (aM tQ):w.heap.size ≤ gb162));have n5_:=aA.mk ((by rw [hg];exact Nat.ne_of_lt (aY (g:=gb161) (o:=.cells #[.int .i64 a0_0,.int .i64 a0_1,.int .i64 a0_2,.int .i64 a0_3,.int .i64 a0_4] 38 (0,0)) tU):gb161 ≠ gb162));have n6_:=aA.mk ((by rw [hg];exact Nat.ne_of_gt (aY (g:=gb161) (o:=.cells #[.int .i64 a0_0,.int .i64 a0_1,.int .i64 a0_2,.int .i64 a0_3,.int .i64 a0_4] 38 (0,0)) tU):gb162 ≠ gb161));clear BK161;clear HB;have BK161:=n0_;have HB:=n1_;have BK162:=n2_;have GW162:=n3_;have GE162:=n4_;have NB161_162:=n5_;have NB162_161:=n6_;clear n0_ n1_ n2_ n3_ n4_ n5_ n6_;clear hb hbox hg;have hnb35:=NB161_162.out;have hnc35:=NB162_161.out;have hcz36_0:w34.cell? ⟨gb161,0,none⟩ = some (.int .i64 a0_0):=(aB BK161.out 0).trans rfl;have hcz36_1:w34.cell? ⟨gb161,1,none⟩ = some (.int .i64 a0_1):=(aB BK161.out 1).trans rfl;have hcz36_2:w34.cell? ⟨gb161,2,none⟩ = some (.int .i64 a0_2):=(aB BK161.out 2).trans rfl;have hcz36_3:w34.cell? ⟨gb161,3,none⟩ = some (.int .i64 a0_3):=(aB BK161.out 3).trans rfl;have hcz36_4:w34.cell? ⟨gb161,4,none⟩ = some (.int .i64 a0_4):=(aB BK161.out 4).trans rfl;have hfz36_0:=aC BK161.out 0;have hfz36_1:=aC BK161.out 1;have hfz36_2:=aC BK161.out 2;have hfz36_3:=aC BK161.out 3;have hfz36_4:=aC BK161.out 4;have hcz37_0:w34.cell? ⟨gb162,0,none⟩ = some (.int .i64 a1_0):=(aB BK162.out 0).trans rfl;have hcz37_1:w34.cell? ⟨gb162,1,none⟩ = some (.int .i64 a1_1):=(aB BK162.out 1).trans rfl;have hcz37_2:w34.cell? ⟨gb162,2,none⟩ = some (.int .i64 a1_2):=(aB BK162.out 2).trans rfl;have hcz37_3:w34.cell? ⟨gb162,3,none⟩ = some (.int .i64 a1_3):=(aB BK162.out 3).trans rfl;have hcz37_4:w34.cell? ⟨gb162,4,none⟩ = some (.int .i64 a1_4):=(aB BK162.out 4).trans rfl;have hfz37_0:=aC BK162.out 0;have hfz37_1:=aC BK162.out 1;have hfz37_2:=aC BK162.out 2;have hfz37_3:=aC BK162.out 3;have hfz37_4:=aC BK162.out 4))
  go_ret
  exact tb
def laws_eqKeyS.l0:Nat → List (S38) → List (S38) → Int → Option (Bool)
 | 0,_,_,_=>none
 | k + 1,x0,x1,x5=>if x5 < (x0.length:Int) then (if 0 ≤ x5 then (if x5 < (x1.length:Int) then ((laws_eqKey.f ((rd_T38 x0 x5).f0) ((rd_T38 x0 x5).f1) ((rd_T38 x0 x5).f2) ((rd_T38 x0 x5).f3) ((rd_T38 x0 x5).f4) ((rd_T38 x1 x5).f0) ((rd_T38 x1 x5).f1) ((rd_T38 x1 x5).f2) ((rd_T38 x1 x5).f3) ((rd_T38 x1 x5).f4)).bind fun t165=>(if t165 = true then (laws_eqKeyS.l0 k x0 x1 (wrap64 (x5 + 1))) else (some false))) else (none)) else (none)) else (some true)
def laws_eqKeyS.f (k:Nat) (l0:List (S38)) (l1:List (S38)):Option (Bool):=if (l0.length:Int) = (l1.length:Int) then (laws_eqKeyS.l0 k l0 l1 0) else (some false)
def laws_eqKeyS.T6:Bool × List (List Nat × List Nat):=(true,[([],[]),([],[]),([0,1],[0,1]),([2],[2]),([],[]),([],[]),([4,5],[4,5]),([6],[6]),([3,7],[3,7]),([8],[8])])
def laws_eqKeyS.B6:List Nat:=[0,0,3,7,0,0,48,112,255,511]
theorem laws_eqKeyS.tab6:rtab .any (opsOf Try.f105 6) = laws_eqKeyS.T6:=by kernel_rfl
theorem laws_eqKeyS.bits6:waitsOk laws_eqKeyS.T6.2 laws_eqKeyS.B6 = true:=by kernel_rfl
set_option maxHeartbeats 8000000 in
set_option maxRecDepth 100000 in
theorem laws_eqKeyS.calls (k:Nat) (A0:Option Addr) (c0:Nat) (l0:List (S38)) (A1:Option Addr) (c1:Nat) (l1:List (S38)) (r:Bool) (w:World) (hr0:Kd.C k38 w A0 l0.length l0) (hc0:l0.length ≤ c0) (hr1:Kd.C k38 w A1 l1.length l1) (hc1:l1.length ≤ c1) (h:laws_eqKeyS.f k l0 l1 = some r) :
  Calls Try.prog 105 #[.slice A0 l0.length c0,.slice A1 l1.length c1] w fun e w'=>e = .returned (.bool r) ∧ Below w.heap.size w w':=by
 have hu38:=Try.underlying38
 have HR0:=aA.mk hr0
 have HC0:=aA.mk hc0
 clear hr0 hc0
 have HR1:=aA.mk hr1
 have HC1:=aA.mk hc1
 clear hr1 hc1
 have HB:=aA.mk (Below.refl w.heap.size w)
 have H:(if (l0.length:Int) = (l1.length:Int) then (laws_eqKeyS.l0 k l0 l1 0) else (some false)) = some r:=h
 clear h
 by_cases c3:(l0.length:Int) = (l1.length:Int)
 ·rw [if_pos c3] at H
  have c3b0:((l0.length:Int) == (l1.length:Int)) = true:=beq_iff_eq.mpr c3
  have c3b1:((l0.length:Int) != (l1.length:Int)) = false:=bne_eq_false_iff_eq.mpr c3
  have c3b2:(l0.length == l1.length) = true:=by first|simpa using c3|(simp at c3 ⊢;omega)
  clear c3
  have H':=aA.mk H
  clear H
  go_enter Try.func105,Try.ntmps105
  go_wp2
  go_loopg [5] k (fun kq v5 w'=>∃ (x5_1:Int),v5 = .int .i64 x5_1 ∧ aA (laws_eqKeyS.l0 kq l0 l1 x5_1 = some r) ∧ aA (kq ≤ k) ∧ aA (Below w.heap.size w w'))
  case atStart=>exact ⟨(0),tK,H',⟨Nat.le_refl _⟩,⟨tN⟩⟩
  case round =>
   clear H'
   try clear c1
   try clear p2
   try clear c3
   try clear c3b0
   try clear c3b1
   try clear c3b2
   obtain ⟨x5_1,rfl,HA,HK1,HB⟩:=hrel
   cases gk with
   | zero=>exact absurd HA.out (by simp [laws_eqKeyS.l0])
   | succ k1 =>
    have H:=HA.out
    clear HA
    simp only [laws_eqKeyS.l0] at H
    by_cases c4:x5_1 < (l0.length:Int)
    ·rw [if_pos c4] at H
     have c4b0:decide (x5_1 < (l0.length:Int)) = true:=decide_eq_true c4
     clear c4
     by_cases c5:0 ≤ x5_1
     ·rw [if_pos c5] at H
      have c5b0:decide (0 ≤ x5_1) = true:=decide_eq_true c5
      clear c5
      by_cases c6:x5_1 < (l1.length:Int)
      ·rw [if_pos c6] at H
       have c6b0:decide (x5_1 < (l1.length:Int)) = true:=decide_eq_true c6
       clear c6
       replace H:=lF H
       obtain ⟨t165,A70,H⟩:=H
       replace H:(if t165 = true then (laws_eqKeyS.l0 k1 l0 l1 (wrap64 (x5_1 + 1))) else (some false)) = some r:=H
       have A7:=aA.mk A70
       clear A70
       by_cases c8:t165 = true
       ·subst c8
        have H1:(laws_eqKeyS.l0 k1 l0 l1 (wrap64 (x5_1 + 1))) = some r:=by rw [if_pos rfl] at H;exact H
        clear H
        have H:=H1
        clear H1
        have H':=aA.mk H
        clear H
        try go_wp2
        have n0_:=aA.mk (aE HB.out)
        clear HB
        have HB:=n0_
        clear n0_
        have p163:0 ≤ (x5_1:Int):=lE tC
        have q163:x5_1 < (l0.length:Int):=lE tC
        obtain ⟨ad163,e163,hx163_0,hx163_1,hx163_2,hx163_3,hx163_4⟩:=at_T38 HR0.out x5_1 p163 q163
        have hw163_4:=hx163_4
        have hw163_3:=hx163_3
        have hw163_2:=hx163_2
        have hw163_1:=hx163_1
        have hw163_0:=hx163_0
        cases e163
        replace hx163_0:=(HB.out.cell (lD w _ hx163_0)).trans hx163_0
        replace hx163_1:=(HB.out.cell (lD w _ hx163_1)).trans hx163_1
        replace hx163_2:=(HB.out.cell (lD w _ hx163_2)).trans hx163_2
        replace hx163_3:=(HB.out.cell (lD w _ hx163_3)).trans hx163_3
        replace hx163_4:=(HB.out.cell (lD w _ hx163_4)).trans hx163_4
        replace p163:=eq_true p163
        replace q163:=eq_true q163
        have p164:0 ≤ (x5_1:Int):=lE tC
        have q164:x5_1 < (l1.length:Int):=lE tC
        obtain ⟨ad164,e164,hx164_0,hx164_1,hx164_2,hx164_3,hx164_4⟩:=at_T38 HR1.out x5_1 p164 q164
        have hw164_4:=hx164_4
        have hw164_3:=hx164_3
        have hw164_2:=hx164_2
        have hw164_1:=hx164_1
        have hw164_0:=hx164_0
        cases e164
        replace hx164_0:=(HB.out.cell (lD w _ hx164_0)).trans hx164_0
        replace hx164_1:=(HB.out.cell (lD w _ hx164_1)).trans hx164_1
        replace hx164_2:=(HB.out.cell (lD w _ hx164_2)).trans hx164_2
        replace hx164_3:=(HB.out.cell (lD w _ hx164_3)).trans hx164_3
        replace hx164_4:=(HB.out.cell (lD w _ hx164_4)).trans hx164_4
        replace p164:=eq_true p164
        replace q164:=eq_true q164
        refine start_ (n:=10) (S:=fun w'=>w'.cell? (ad163.add ((x5_1).toNat * 5)) = some (.int .i64 ((rd_T38 l0 x5_1).f0)) ∧ w'.cell? ⟨(ad163.add ((x5_1).toNat * 5)).block,(ad163.add ((x5_1).toNat * 5)).off + 1,none⟩ = some (.int .i64 ((rd_T38 l0 x5_1).f1)) ∧ w'.cell? ⟨(ad163.add ((x5_1).toNat * 5)).block,(ad163.add ((x5_1).toNat * 5)).off + 2,none⟩ = some (.int .i64 ((rd_T38 l0 x5_1).f2)) ∧ w'.cell? ⟨(ad163.add ((x5_1).toNat * 5)).block,(ad163.add ((x5_1).toNat * 5)).off + 3,none⟩ = some (.int .i64 ((rd_T38 l0 x5_1).f3)) ∧ w'.cell? ⟨(ad163.add ((x5_1).toNat * 5)).block,(ad163.add ((x5_1).toNat * 5)).off + 4,none⟩ = some (.int .i64 ((rd_T38 l0 x5_1).f4)) ∧ w'.cell? (ad164.add ((x5_1).toNat * 5)) = some (.int .i64 ((rd_T38 l1 x5_1).f0)) ∧ w'.cell? ⟨(ad164.add ((x5_1).toNat * 5)).block,(ad164.add ((x5_1).toNat * 5)).off + 1,none⟩ = some (.int .i64 ((rd_T38 l1 x5_1).f1)) ∧ w'.cell? ⟨(ad164.add ((x5_1).toNat * 5)).block,(ad164.add ((x5_1).toNat * 5)).off + 2,none⟩ = some (.int .i64 ((rd_T38 l1 x5_1).f2)) ∧ w'.cell? ⟨(ad164.add ((x5_1).toNat * 5)).block,(ad164.add ((x5_1).toNat * 5)).off + 3,none⟩ = some (.int .i64 ((rd_T38 l1 x5_1).f3)) ∧ w'.cell? ⟨(ad164.add ((x5_1).toNat * 5)).block,(ad164.add ((x5_1).toNat * 5)).off + 4,none⟩ = some (.int .i64 ((rd_T38 l1 x5_1).f4))) (ds:=[]) #[F0,F0,F0,F0,F0,F0,F0,F0,F0,F0] tF rfl rfl ⟨((HB.out.cell (lD w _ hw163_0)).trans hw163_0),((HB.out.cell (lD w _ hw163_1)).trans hw163_1),((HB.out.cell (lD w _ hw163_2)).trans hw163_2),((HB.out.cell (lD w _ hw163_3)).trans hw163_3),((HB.out.cell (lD w _ hw163_4)).trans hw163_4),((HB.out.cell (lD w _ hw164_0)).trans hw164_0),((HB.out.cell (lD w _ hw164_1)).trans hw164_1),((HB.out.cell (lD w _ hw164_2)).trans hw164_2),((HB.out.cell (lD w _ hw164_3)).trans hw164_3),((HB.out.cell (lD w _ hw164_4)).trans hw164_4)⟩ (fun hHeld=>?_);refine with_tabW laws_eqKeyS.tab6 laws_eqKeyS.bits6 (fun HT_ HW_=>?_)
        generalize wr.drew = w9 at HB hx163_0 hx163_1 hx163_2 hx163_3 hx163_4 hx164_0 hx164_1 hx164_2 hx164_3 hx164_4 hHeld ⊢
        refine pure_ (i:=0) (N:=some 17) (v:=?_) (a':=?_) (bq1 1 10) rfl rfl (any_of HT_.out tF) (fun _ _ _ h=>h) (Or.inl ⟨vK,?_⟩) ?_ ?_
        rotate_left
        ·intro w'
         go_simp
         with_reducible rfl
        rotate_left
        ·simp only [Act.put,lA,lB,lC,aQ,aR]
         rfl
        refine pure_ (i:=1) (N:=some 18) (v:=?_) (a':=?_) (bq1 3 10) rfl rfl (any_of HT_.out tF) (fun _ _ _ h=>h) (Or.inl ⟨vK,?_⟩) ?_ ?_
        rotate_left
        ·intro w'
         go_simp
         with_reducible rfl
        rotate_left
        ·simp only [Act.put,lA,lB,lC,aQ,aR]
         rfl
        refine pure_ (i:=2) (N:=some 19) (v:=?_) (a':=?_) (bq1 7 10) rfl rfl (any_of HT_.out tF) (fun _ _ _ h=>h) (Or.inl ⟨vK,?_⟩) ?_ ?_
        rotate_left
        ·intro w'
         go_simp
         with_reducible rfl
        rotate_left
        ·simp only [Act.put,lA,lB,lC,aQ,aR]
         rfl
        refine pure_ (i:=4) (N:=some 21) (v:=?_) (a':=?_) (bq1 23 10) rfl rfl (any_of HT_.out tF) (fun _ _ _ h=>h) (Or.inl ⟨vK,?_⟩) ?_ ?_
        rotate_left
        ·intro w'
         go_simp
         with_reducible rfl
        rotate_left
        ·simp only [Act.put,lA,lB,lC,aQ,aR]
         rfl
        refine pure_ (i:=5) (N:=some 22) (v:=?_) (a':=?_) (bq1 55 10) rfl rfl (any_of HT_.out tF) (fun _ _ _ h=>h) (Or.inl ⟨vK,?_⟩) ?_ ?_
        rotate_left
        ·intro w'
         go_simp
         with_reducible rfl
        rotate_left
        ·simp only [Act.put,lA,lB,lC,aQ,aR]
         rfl
        refine pure_ (i:=6) (N:=some 23) (v:=?_) (a':=?_) (bq1 119 10) rfl rfl (any_of HT_.out tF) (fun _ _ _ h=>h) (Or.inl ⟨vK,?_⟩) ?_ ?_
        rotate_left
        ·intro w'
         go_simp
         with_reducible rfl
        rotate_left
        ·simp only [Act.put,lA,lB,lC,aQ,aR]
         rfl
        refine take_ (i:=3) (N:=some 20) (v:=?_) (a':=?_) (bq1 127 10) rfl rfl (take_ofW HT_.out HW_.out tF) (fun _ _ _ h=>h) (Or.inl ⟨vK,?_⟩) hHeld ?_ ?_
        rotate_left
        ·rintro w' ⟨s0,s1,s2,s3,s4,s5,s6,s7,s8,s9⟩
         go_simp
         with_reducible rfl
        rotate_left
        ·simp only [Act.put,lA,lB,lC,aQ,aR]
         rfl
        refine take_ (i:=7) (N:=some 24) (v:=?_) (a':=?_) (bq1 255 10) rfl rfl (take_ofW HT_.out HW_.out tF) (fun _ _ _ h=>h) (Or.inl ⟨vK,?_⟩) hHeld ?_ ?_
        rotate_left
        ·rintro w' ⟨s0,s1,s2,s3,s4,s5,s6,s7,s8,s9⟩
         go_simp
         with_reducible rfl
        rotate_left
        ·simp only [Act.put,lA,lB,lC,aQ,aR]
         rfl
        refine one_ (i:=8) (N:=some 25) (bq1 511 10) rfl rfl (one_of HT_.out tF) tq (fun K hK=>?_)
        refine goes_ Try.func107 tF rfl #[.agg #[.int .i64 ((rd_T38 l0 x5_1).f0),.int .i64 ((rd_T38 l0 x5_1).f1),.int .i64 ((rd_T38 l0 x5_1).f2),.int .i64 ((rd_T38 l0 x5_1).f3),.int .i64 ((rd_T38 l0 x5_1).f4)],.agg #[.int .i64 ((rd_T38 l1 x5_1).f0),.int .i64 ((rd_T38 l1 x5_1).f1),.int .i64 ((rd_T38 l1 x5_1).f2),.int .i64 ((rd_T38 l1 x5_1).f3),.int .i64 ((rd_T38 l1 x5_1).f4)]] ta rfl rfl tA ?_
        with_reducible refine (laws_eqKey.calls ((rd_T38 l0 x5_1).f0) ((rd_T38 l0 x5_1).f1) ((rd_T38 l0 x5_1).f2) ((rd_T38 l0 x5_1).f3) ((rd_T38 l0 x5_1).f4) ((rd_T38 l1 x5_1).f0) ((rd_T38 l1 x5_1).f1) ((rd_T38 l1 x5_1).f2) ((rd_T38 l1 x5_1).f3) ((rd_T38 l1 x5_1).f4) true _ A7.out).mono ?_
        rintro e w10 ⟨rfl,hb⟩
        refine ⟨_,rfl,?_⟩
        have n0_:=aA.mk (aJ tB hb)
        clear HB
        have HB:=n0_
        clear n0_
        (try clear hb)
        (try clear hb2)
        (try clear hk)
        (try clear hi)
        refine hK.out _ _ ⟨((HB.out.cell (lD w _ hw163_0)).trans hw163_0),((HB.out.cell (lD w _ hw163_1)).trans hw163_1),((HB.out.cell (lD w _ hw163_2)).trans hw163_2),((HB.out.cell (lD w _ hw163_3)).trans hw163_3),((HB.out.cell (lD w _ hw163_4)).trans hw163_4),((HB.out.cell (lD w _ hw164_0)).trans hw164_0),((HB.out.cell (lD w _ hw164_1)).trans hw164_1),((HB.out.cell (lD w _ hw164_2)).trans hw164_2),((HB.out.cell (lD w _ hw164_3)).trans hw164_3),((HB.out.cell (lD w _ hw164_4)).trans hw164_4)⟩ (fun hHeld=>?_)
        clear hK K
        refine norm_ (a':=?_) ?_ ?_
        rotate_left
        ·show Act.put _ (some 25) _ = _
         simp only [Act.put,lA,lB,lC,aQ,aR]
         rfl
        refine pure_ (i:=9) (N:=some 26) (v:=?_) (a':=?_) (bq1 1023 10) rfl rfl (any_of HT_.out tF) (fun _ _ _ h=>h) (Or.inl ⟨vK,?_⟩) ?_ ?_
        rotate_left
        ·intro w'
         go_simp
         with_reducible rfl
        rotate_left
        ·simp only [Act.put,lA,lB,lC,aQ,aR]
         rfl
        refine done_ (done_of HT_.out tF) ?_
        try go_wp2
        go_roundg k1
        case measure=>have:=HK1.out;omega
        case rel=>exact ⟨(wrap64 (x5_1 + 1)),tK,H',⟨vM⟩,⟨tN⟩⟩
       ·replace c8:=Bool.eq_false_iff.mpr c8
        subst c8
        have H1:(some false) = some r:=by rw [if_neg (show ¬ (false = true) by decide)] at H;exact H
        clear H
        have H:=H1
        clear H1
        obtain rfl:=Option.some.inj H
        try go_wp2
        have n0_:=aA.mk (aE HB.out)
        clear HB
        have HB:=n0_
        clear n0_
        have p163:0 ≤ (x5_1:Int):=lE tC
        have q163:x5_1 < (l0.length:Int):=lE tC
        obtain ⟨ad163,e163,hx163_0,hx163_1,hx163_2,hx163_3,hx163_4⟩:=at_T38 HR0.out x5_1 p163 q163
        have hw163_4:=hx163_4
        have hw163_3:=hx163_3
        have hw163_2:=hx163_2
        have hw163_1:=hx163_1
        have hw163_0:=hx163_0
        cases e163
        replace hx163_0:=(HB.out.cell (lD w _ hx163_0)).trans hx163_0
        replace hx163_1:=(HB.out.cell (lD w _ hx163_1)).trans hx163_1
        replace hx163_2:=(HB.out.cell (lD w _ hx163_2)).trans hx163_2
        replace hx163_3:=(HB.out.cell (lD w _ hx163_3)).trans hx163_3
        replace hx163_4:=(HB.out.cell (lD w _ hx163_4)).trans hx163_4
        replace p163:=eq_true p163
        replace q163:=eq_true q163
        have p164:0 ≤ (x5_1:Int):=lE tC
        have q164:x5_1 < (l1.length:Int):=lE tC
        obtain ⟨ad164,e164,hx164_0,hx164_1,hx164_2,hx164_3,hx164_4⟩:=at_T38 HR1.out x5_1 p164 q164
        have hw164_4:=hx164_4
        have hw164_3:=hx164_3
        have hw164_2:=hx164_2
        have hw164_1:=hx164_1
        have hw164_0:=hx164_0
        cases e164
        replace hx164_0:=(HB.out.cell (lD w _ hx164_0)).trans hx164_0
        replace hx164_1:=(HB.out.cell (lD w _ hx164_1)).trans hx164_1
        replace hx164_2:=(HB.out.cell (lD w _ hx164_2)).trans hx164_2
        replace hx164_3:=(HB.out.cell (lD w _ hx164_3)).trans hx164_3
        replace hx164_4:=(HB.out.cell (lD w _ hx164_4)).trans hx164_4
        replace p164:=eq_true p164
        replace q164:=eq_true q164
        refine start_ (n:=10) (S:=fun w'=>w'.cell? (ad163.add ((x5_1).toNat * 5)) = some (.int .i64 ((rd_T38 l0 x5_1).f0)) ∧ w'.cell? ⟨(ad163.add ((x5_1).toNat * 5)).block,(ad163.add ((x5_1).toNat * 5)).off + 1,none⟩ = some (.int .i64 ((rd_T38 l0 x5_1).f1)) ∧ w'.cell? ⟨(ad163.add ((x5_1).toNat * 5)).block,(ad163.add ((x5_1).toNat * 5)).off + 2,none⟩ = some (.int .i64 ((rd_T38 l0 x5_1).f2)) ∧ w'.cell? ⟨(ad163.add ((x5_1).toNat * 5)).block,(ad163.add ((x5_1).toNat * 5)).off + 3,none⟩ = some (.int .i64 ((rd_T38 l0 x5_1).f3)) ∧ w'.cell? ⟨(ad163.add ((x5_1).toNat * 5)).block,(ad163.add ((x5_1).toNat * 5)).off + 4,none⟩ = some (.int .i64 ((rd_T38 l0 x5_1).f4)) ∧ w'.cell? (ad164.add ((x5_1).toNat * 5)) = some (.int .i64 ((rd_T38 l1 x5_1).f0)) ∧ w'.cell? ⟨(ad164.add ((x5_1).toNat * 5)).block,(ad164.add ((x5_1).toNat * 5)).off + 1,none⟩ = some (.int .i64 ((rd_T38 l1 x5_1).f1)) ∧ w'.cell? ⟨(ad164.add ((x5_1).toNat * 5)).block,(ad164.add ((x5_1).toNat * 5)).off + 2,none⟩ = some (.int .i64 ((rd_T38 l1 x5_1).f2)) ∧ w'.cell? ⟨(ad164.add ((x5_1).toNat * 5)).block,(ad164.add ((x5_1).toNat * 5)).off + 3,none⟩ = some (.int .i64 ((rd_T38 l1 x5_1).f3)) ∧ w'.cell? ⟨(ad164.add ((x5_1).toNat * 5)).block,(ad164.add ((x5_1).toNat * 5)).off + 4,none⟩ = some (.int .i64 ((rd_T38 l1 x5_1).f4))) (ds:=[]) #[F0,F0,F0,F0,F0,F0,F0,F0,F0,F0] tF rfl rfl ⟨((HB.out.cell (lD w _ hw163_0)).trans hw163_0),((HB.out.cell (lD w _ hw163_1)).trans hw163_1),((HB.out.cell (lD w _ hw163_2)).trans hw163_2),((HB.out.cell (lD w _ hw163_3)).trans hw163_3),((HB.out.cell (lD w _ hw163_4)).trans hw163_4),((HB.out.cell (lD w _ hw164_0)).trans hw164_0),((HB.out.cell (lD w _ hw164_1)).trans hw164_1),((HB.out.cell (lD w _ hw164_2)).trans hw164_2),((HB.out.cell (lD w _ hw164_3)).trans hw164_3),((HB.out.cell (lD w _ hw164_4)).trans hw164_4)⟩ (fun hHeld=>?_);refine with_tabW laws_eqKeyS.tab6 laws_eqKeyS.bits6 (fun HT_ HW_=>?_)
        generalize wr.drew = w11 at HB hx163_0 hx163_1 hx163_2 hx163_3 hx163_4 hx164_0 hx164_1 hx164_2 hx164_3 hx164_4 hHeld ⊢
        refine pure_ (i:=0) (N:=some 17) (v:=?_) (a':=?_) (bq1 1 10) rfl rfl (any_of HT_.out tF) (fun _ _ _ h=>h) (Or.inl ⟨vK,?_⟩) ?_ ?_
        rotate_left
        ·intro w'
         go_simp
         with_reducible rfl
        rotate_left
        ·simp only [Act.put,lA,lB,lC,aQ,aR]
         rfl
        refine pure_ (i:=1) (N:=some 18) (v:=?_) (a':=?_) (bq1 3 10) rfl rfl (any_of HT_.out tF) (fun _ _ _ h=>h) (Or.inl ⟨vK,?_⟩) ?_ ?_
        rotate_left
        ·intro w'
         go_simp
         with_reducible rfl
        rotate_left
        ·simp only [Act.put,lA,lB,lC,aQ,aR]
         rfl
        refine pure_ (i:=2) (N:=some 19) (v:=?_) (a':=?_) (bq1 7 10) rfl rfl (any_of HT_.out tF) (fun _ _ _ h=>h) (Or.inl ⟨vK,?_⟩) ?_ ?_
        rotate_left
        ·intro w'
         go_simp
         with_reducible rfl
        rotate_left
        ·simp only [Act.put,lA,lB,lC,aQ,aR]
         rfl
        refine pure_ (i:=4) (N:=some 21) (v:=?_) (a':=?_) (bq1 23 10) rfl rfl (any_of HT_.out tF) (fun _ _ _ h=>h) (Or.inl ⟨vK,?_⟩) ?_ ?_
        rotate_left
        ·intro w'
         go_simp
         with_reducible rfl
        rotate_left
        ·simp only [Act.put,lA,lB,lC,aQ,aR]
         rfl
        refine pure_ (i:=5) (N:=some 22) (v:=?_) (a':=?_) (bq1 55 10) rfl rfl (any_of HT_.out tF) (fun _ _ _ h=>h) (Or.inl ⟨vK,?_⟩) ?_ ?_
        rotate_left
        ·intro w'
         go_simp
         with_reducible rfl
        rotate_left
        ·simp only [Act.put,lA,lB,lC,aQ,aR]
         rfl
        refine pure_ (i:=6) (N:=some 23) (v:=?_) (a':=?_) (bq1 119 10) rfl rfl (any_of HT_.out tF) (fun _ _ _ h=>h) (Or.inl ⟨vK,?_⟩) ?_ ?_
        rotate_left
        ·intro w'
         go_simp
         with_reducible rfl
        rotate_left
        ·simp only [Act.put,lA,lB,lC,aQ,aR]
         rfl
        refine take_ (i:=3) (N:=some 20) (v:=?_) (a':=?_) (bq1 127 10) rfl rfl (take_ofW HT_.out HW_.out tF) (fun _ _ _ h=>h) (Or.inl ⟨vK,?_⟩) hHeld ?_ ?_
        rotate_left
        ·rintro w' ⟨s0,s1,s2,s3,s4,s5,s6,s7,s8,s9⟩
         go_simp
         with_reducible rfl
        rotate_left
        ·simp only [Act.put,lA,lB,lC,aQ,aR]
         rfl
        refine take_ (i:=7) (N:=some 24) (v:=?_) (a':=?_) (bq1 255 10) rfl rfl (take_ofW HT_.out HW_.out tF) (fun _ _ _ h=>h) (Or.inl ⟨vK,?_⟩) hHeld ?_ ?_
        rotate_left
        ·rintro w' ⟨s0,s1,s2,s3,s4,s5,s6,s7,s8,s9⟩
         go_simp
         with_reducible rfl
        rotate_left
        ·simp only [Act.put,lA,lB,lC,aQ,aR]
         rfl
        refine one_ (i:=8) (N:=some 25) (bq1 511 10) rfl rfl (one_of HT_.out tF) tq (fun K hK=>?_)
        refine goes_ Try.func107 tF rfl #[.agg #[.int .i64 ((rd_T38 l0 x5_1).f0),.int .i64 ((rd_T38 l0 x5_1).f1),.int .i64 ((rd_T38 l0 x5_1).f2),.int .i64 ((rd_T38 l0 x5_1).f3),.int .i64 ((rd_T38 l0 x5_1).f4)],.agg #[.int .i64 ((rd_T38 l1 x5_1).f0),.int .i64 ((rd_T38 l1 x5_1).f1),.int .i64 ((rd_T38 l1 x5_1).f2),.int .i64 ((rd_T38 l1 x5_1).f3),.int .i64 ((rd_T38 l1 x5_1).f4)]] ta rfl rfl tA ?_
        with_reducible refine (laws_eqKey.calls ((rd_T38 l0 x5_1).f0) ((rd_T38 l0 x5_1).f1) ((rd_T38 l0 x5_1).f2) ((rd_T38 l0 x5_1).f3) ((rd_T38 l0 x5_1).f4) ((rd_T38 l1 x5_1).f0) ((rd_T38 l1 x5_1).f1) ((rd_T38 l1 x5_1).f2) ((rd_T38 l1 x5_1).f3) ((rd_T38 l1 x5_1).f4) false _ A7.out).mono ?_
        rintro e w12 ⟨rfl,hb⟩
        refine ⟨_,rfl,?_⟩
        have n0_:=aA.mk (aJ tB hb)
        clear HB
        have HB:=n0_
        clear n0_
        (try clear hb)
        (try clear hb2)
        (try clear hk)
        (try clear hi)
        refine hK.out _ _ ⟨((HB.out.cell (lD w _ hw163_0)).trans hw163_0),((HB.out.cell (lD w _ hw163_1)).trans hw163_1),((HB.out.cell (lD w _ hw163_2)).trans hw163_2),((HB.out.cell (lD w _ hw163_3)).trans hw163_3),((HB.out.cell (lD w _ hw163_4)).trans hw163_4),((HB.out.cell (lD w _ hw164_0)).trans hw164_0),((HB.out.cell (lD w _ hw164_1)).trans hw164_1),((HB.out.cell (lD w _ hw164_2)).trans hw164_2),((HB.out.cell (lD w _ hw164_3)).trans hw164_3),((HB.out.cell (lD w _ hw164_4)).trans hw164_4)⟩ (fun hHeld=>?_)
        clear hK K
        refine norm_ (a':=?_) ?_ ?_
        rotate_left
        ·show Act.put _ (some 25) _ = _
         simp only [Act.put,lA,lB,lC,aQ,aR]
         rfl
        refine pure_ (i:=9) (N:=some 26) (v:=?_) (a':=?_) (bq1 1023 10) rfl rfl (any_of HT_.out tF) (fun _ _ _ h=>h) (Or.inl ⟨vK,?_⟩) ?_ ?_
        rotate_left
        ·intro w'
         go_simp
         with_reducible rfl
        rotate_left
        ·simp only [Act.put,lA,lB,lC,aQ,aR]
         rfl
        refine done_ (done_of HT_.out tF) ?_
        try go_wp2
        go_ret
        exact ⟨tG,tN⟩
      ·rw [if_neg c6] at H
       exact vX
     ·rw [if_neg c5] at H
      exact vX
    ·rw [if_neg c4] at H
     have c4b0:decide (x5_1 < (l0.length:Int)) = false:=decide_eq_false c4
     clear c4
     obtain rfl:=Option.some.inj H
     go_wp2
     go_ret
     exact ⟨tG,tN⟩
 ·rw [if_neg c3] at H
  have c3b0:((l0.length:Int) == (l1.length:Int)) = false:=beq_eq_false_iff_ne.mpr c3
  have c3b1:((l0.length:Int) != (l1.length:Int)) = true:=bne_iff_ne.mpr c3
  have c3b2:(l0.length == l1.length) = false:=by first|simpa using c3|(simp at c3 ⊢;omega)
  obtain rfl:=Option.some.inj H
  go_enter Try.func105,Try.ntmps105
  go_wp2
  go_ret
  exact ⟨tG,tN⟩
set_option linter.unusedVariables false
set_option linter.unusedSimpArgs false
def laws_eqKeySS.l0:Nat → List (List (S38)) → List (List (S38)) → Int → Option (Bool)
 | 0,_,_,_=>none
 | k + 1,x0,x1,x5=>if x5 < (x0.length:Int) then (if 0 ≤ x5 then (if x5 < (x1.length:Int) then ((laws_eqKeyS.f k (rd_L6 x0 x5) (rd_L6 x1 x5)).bind fun t168=>(if t168 = true then (laws_eqKeySS.l0 k x0 x1 (wrap64 (x5 + 1))) else (some false))) else (none)) else (none)) else (some true)
def laws_eqKeySS.f (k:Nat) (l0:List (List (S38))) (l1:List (List (S38))):Option (Bool):=if (l0.length:Int) = (l1.length:Int) then (laws_eqKeySS.l0 k l0 l1 0) else (some false)
def laws_eqKeySS.T6:Bool × List (List Nat × List Nat):=(true,[([],[]),([],[]),([0,1],[0,1]),([2],[2]),([],[]),([],[]),([4,5],[4,5]),([6],[6]),([3,7],[3,7]),([8],[8])])
def laws_eqKeySS.B6:List Nat:=[0,0,3,7,0,0,48,112,255,511]
theorem laws_eqKeySS.tab6:rtab .any (opsOf Try.f94 6) = laws_eqKeySS.T6:=by kernel_rfl
theorem laws_eqKeySS.bits6:waitsOk laws_eqKeySS.T6.2 laws_eqKeySS.B6 = true:=by kernel_rfl
set_option maxHeartbeats 8000000 in
set_option maxRecDepth 100000 in
theorem laws_eqKeySS.calls (k:Nat) (A0:Option Addr) (c0:Nat) (l0:List (List (S38))) (A1:Option Addr) (c1:Nat) (l1:List (List (S38))) (r:Bool) (w:World) (hr0:Kd.C (Kd.slice 38 k38) w A0 l0.length l0) (hc0:l0.length ≤ c0) (hr1:Kd.C (Kd.slice 38 k38) w A1 l1.length l1) (hc1:l1.length ≤ c1) (h:laws_eqKeySS.f k l0 l1 = some r) :
  Calls Try.prog 94 #[.slice A0 l0.length c0,.slice A1 l1.length c1] w fun e w'=>e = .returned (.bool r) ∧ Below w.heap.size w w':=by
 have HR0:=aA.mk hr0
 have HC0:=aA.mk hc0
 clear hr0 hc0
 have HR1:=aA.mk hr1
 have HC1:=aA.mk hc1
 clear hr1 hc1
 have HB:=aA.mk (Below.refl w.heap.size w)
 have H:(if (l0.length:Int) = (l1.length:Int) then (laws_eqKeySS.l0 k l0 l1 0) else (some false)) = some r:=h
 clear h
 by_cases c3:(l0.length:Int) = (l1.length:Int)
 ·rw [if_pos c3] at H
  have c3b0:((l0.length:Int) == (l1.length:Int)) = true:=beq_iff_eq.mpr c3
  have c3b1:((l0.length:Int) != (l1.length:Int)) = false:=bne_eq_false_iff_eq.mpr c3
  have c3b2:(l0.length == l1.length) = true:=by first|simpa using c3|(simp at c3 ⊢;omega)
  clear c3
  have H':=aA.mk H
  clear H
  go_enter Try.func94,Try.ntmps94
  go_wp2
  go_loopg [5] k (fun kq v5 w'=>∃ (x5_1:Int),v5 = .int .i64 x5_1 ∧ aA (laws_eqKeySS.l0 kq l0 l1 x5_1 = some r) ∧ aA (kq ≤ k) ∧ aA (Below w.heap.size w w'))
  case atStart=>exact ⟨(0),tK,H',⟨Nat.le_refl _⟩,⟨tN⟩⟩
  case round =>
   clear H'
   try clear c1
   try clear p2
   try clear c3
   try clear c3b0
   try clear c3b1
   try clear c3b2
   obtain ⟨x5_1,rfl,HA,HK1,HB⟩:=hrel
   cases gk with
   | zero=>exact absurd HA.out (by simp [laws_eqKeySS.l0])
   | succ k1 =>
    have H:=HA.out
    clear HA
    simp only [laws_eqKeySS.l0] at H
    by_cases c4:x5_1 < (l0.length:Int)
    ·rw [if_pos c4] at H
     have c4b0:decide (x5_1 < (l0.length:Int)) = true:=decide_eq_true c4
     clear c4
     by_cases c5:0 ≤ x5_1
     ·rw [if_pos c5] at H
      have c5b0:decide (0 ≤ x5_1) = true:=decide_eq_true c5
      clear c5
      by_cases c6:x5_1 < (l1.length:Int)
      ·rw [if_pos c6] at H
       have c6b0:decide (x5_1 < (l1.length:Int)) = true:=decide_eq_true c6
       clear c6
       replace H:=lF H
       obtain ⟨t168,A70,H⟩:=H
       replace H:(if t168 = true then (laws_eqKeySS.l0 k1 l0 l1 (wrap64 (x5_1 + 1))) else (some false)) = some r:=H
       have A7:=aA.mk A70
       clear A70
       by_cases c8:t168 = true
       ·subst c8
        have H1:(laws_eqKeySS.l0 k1 l0 l1 (wrap64 (x5_1 + 1))) = some r:=by rw [if_pos rfl] at H;exact H
        clear H
        have H:=H1
        clear H1
        have H':=aA.mk H
        clear H
        try go_wp2
        have n0_:=aA.mk (aE HB.out)
        clear HB
        have HB:=n0_
        clear n0_
        have p166:0 ≤ (x5_1:Int):=lE tC
        have q166:x5_1 < (l0.length:Int):=lE tC
        obtain ⟨ad166,A166_0,c166_0,e166,hx166_0,hl166_0,hi166_0⟩:=at_L6 HR0.out x5_1 p166 q166
        have hw166_0:=hx166_0
        cases e166
        replace hx166_0:=(HB.out.cell (lD w _ hx166_0)).trans hx166_0
        have HR166_0:=aA.mk hi166_0
        have HC166_0:=aA.mk hl166_0
        clear hi166_0 hl166_0
        replace p166:=eq_true p166
        replace q166:=eq_true q166
        have p167:0 ≤ (x5_1:Int):=lE tC
        have q167:x5_1 < (l1.length:Int):=lE tC
        obtain ⟨ad167,A167_0,c167_0,e167,hx167_0,hl167_0,hi167_0⟩:=at_L6 HR1.out x5_1 p167 q167
        have hw167_0:=hx167_0
        cases e167
        replace hx167_0:=(HB.out.cell (lD w _ hx167_0)).trans hx167_0
        have HR167_0:=aA.mk hi167_0
        have HC167_0:=aA.mk hl167_0
        clear hi167_0 hl167_0
        replace p167:=eq_true p167
        replace q167:=eq_true q167
        refine start_ (n:=10) (S:=fun w'=>w'.cell? (ad166.add (x5_1).toNat) = some (.slice A166_0 (rd_L6 l0 x5_1).length c166_0) ∧ w'.cell? (ad167.add (x5_1).toNat) = some (.slice A167_0 (rd_L6 l1 x5_1).length c167_0)) (ds:=[]) #[F0,F0,F0,F0,F0,F0,F0,F0,F0,F0] tF rfl rfl ⟨((HB.out.cell (lD w _ hw166_0)).trans hw166_0),((HB.out.cell (lD w _ hw167_0)).trans hw167_0)⟩ (fun hHeld=>?_);refine with_tabW laws_eqKeySS.tab6 laws_eqKeySS.bits6 (fun HT_ HW_=>?_)
        generalize wr.drew = w9 at HB HR166_0 HR167_0 hx166_0 hx167_0 hHeld ⊢
        refine pure_ (i:=0) (N:=some 17) (v:=?_) (a':=?_) (bq1 1 10) rfl rfl (any_of HT_.out tF) (fun _ _ _ h=>h) (Or.inl ⟨vK,?_⟩) ?_ ?_
        rotate_left
        ·intro w'
         go_simp
         with_reducible rfl
        rotate_left
        ·simp only [Act.put,lA,lB,lC,aQ,aR]
         rfl
        refine pure_ (i:=1) (N:=some 18) (v:=?_) (a':=?_) (bq1 3 10) rfl rfl (any_of HT_.out tF) (fun _ _ _ h=>h) (Or.inl ⟨vK,?_⟩) ?_ ?_
        rotate_left
        ·intro w'
         go_simp
         with_reducible rfl
        rotate_left
        ·simp only [Act.put,lA,lB,lC,aQ,aR]
         rfl
        refine pure_ (i:=2) (N:=some 19) (v:=?_) (a':=?_) (bq1 7 10) rfl rfl (any_of HT_.out tF) (fun _ _ _ h=>h) (Or.inl ⟨vK,?_⟩) ?_ ?_
        rotate_left
        ·intro w'
         go_simp
         with_reducible rfl
        rotate_left
        ·simp only [Act.put,lA,lB,lC,aQ,aR]
         rfl
        refine pure_ (i:=4) (N:=some 21) (v:=?_) (a':=?_) (bq1 23 10) rfl rfl (any_of HT_.out tF) (fun _ _ _ h=>h) (Or.inl ⟨vK,?_⟩) ?_ ?_
        rotate_left
        ·intro w'
         go_simp
         with_reducible rfl
        rotate_left
        ·simp only [Act.put,lA,lB,lC,aQ,aR]
         rfl
        refine pure_ (i:=5) (N:=some 22) (v:=?_) (a':=?_) (bq1 55 10) rfl rfl (any_of HT_.out tF) (fun _ _ _ h=>h) (Or.inl ⟨vK,?_⟩) ?_ ?_
        rotate_left
        ·intro w'
         go_simp
         with_reducible rfl
        rotate_left
        ·simp only [Act.put,lA,lB,lC,aQ,aR]
         rfl
        refine pure_ (i:=6) (N:=some 23) (v:=?_) (a':=?_) (bq1 119 10) rfl rfl (any_of HT_.out tF) (fun _ _ _ h=>h) (Or.inl ⟨vK,?_⟩) ?_ ?_
        rotate_left
        ·intro w'
         go_simp
         with_reducible rfl
        rotate_left
        ·simp only [Act.put,lA,lB,lC,aQ,aR]
         rfl
        refine take_ (i:=3) (N:=some 20) (v:=?_) (a':=?_) (bq1 127 10) rfl rfl (take_ofW HT_.out HW_.out tF) (fun _ _ _ h=>h) (Or.inl ⟨vK,?_⟩) hHeld ?_ ?_
        rotate_left
        ·rintro w' ⟨s0,s1⟩
         go_simp
         with_reducible rfl
        rotate_left
        ·simp only [Act.put,lA,lB,lC,aQ,aR]
         rfl
        refine take_ (i:=7) (N:=some 24) (v:=?_) (a':=?_) (bq1 255 10) rfl rfl (take_ofW HT_.out HW_.out tF) (fun _ _ _ h=>h) (Or.inl ⟨vK,?_⟩) hHeld ?_ ?_
        rotate_left
        ·rintro w' ⟨s0,s1⟩
         go_simp
         with_reducible rfl
        rotate_left
        ·simp only [Act.put,lA,lB,lC,aQ,aR]
         rfl
        refine one_ (i:=8) (N:=some 25) (bq1 511 10) rfl rfl (one_of HT_.out tF) tq (fun K hK=>?_)
        refine goes_ Try.func105 tF rfl #[.slice A166_0 (rd_L6 l0 x5_1).length c166_0,.slice A167_0 (rd_L6 l1 x5_1).length c167_0] ta rfl rfl tA ?_
        with_reducible refine (laws_eqKeyS.calls k1 _ _ (rd_L6 l0 x5_1) _ _ (rd_L6 l1 x5_1) true _ ?side1 ?side2 ?side3 ?side4 A7.out).mono ?_
        (case side1=>repeat (first|exact (Kd.aV HR166_0.out HB.out)|(with_reducible refine Kd.C_alloc ?_ _)|(with_reducible refine Kd.C_drewN ?_ _)|(with_reducible refine Kd.C_drew ?_)))
        (case side2=>exact HC166_0.out)
        (case side3=>repeat (first|exact (Kd.aV HR167_0.out HB.out)|(with_reducible refine Kd.C_alloc ?_ _)|(with_reducible refine Kd.C_drewN ?_ _)|(with_reducible refine Kd.C_drew ?_)))
        (case side4=>exact HC167_0.out)
        rintro e w10 ⟨rfl,hb⟩
        refine ⟨_,rfl,?_⟩
        have n0_:=aA.mk (aJ tB hb)
        clear HB
        have HB:=n0_
        clear n0_
        (try clear hb)
        (try clear hb2)
        (try clear hk)
        (try clear hi)
        refine hK.out _ _ ⟨((HB.out.cell (lD w _ hw166_0)).trans hw166_0),((HB.out.cell (lD w _ hw167_0)).trans hw167_0)⟩ (fun hHeld=>?_)
        clear hK K
        refine norm_ (a':=?_) ?_ ?_
        rotate_left
        ·show Act.put _ (some 25) _ = _
         simp only [Act.put,lA,lB,lC,aQ,aR]
         rfl
        refine pure_ (i:=9) (N:=some 26) (v:=?_) (a':=?_) (bq1 1023 10) rfl rfl (any_of HT_.out tF) (fun _ _ _ h=>h) (Or.inl ⟨vK,?_⟩) ?_ ?_
        rotate_left
        ·intro w'
         go_simp
         with_reducible rfl
        rotate_left
        ·simp only [Act.put,lA,lB,lC,aQ,aR]
         rfl
        refine done_ (done_of HT_.out tF) ?_
        try go_wp2
        go_roundg k1
        case measure=>have:=HK1.out;omega
        case rel=>exact ⟨(wrap64 (x5_1 + 1)),tK,H',⟨vM⟩,⟨tN⟩⟩
       ·replace c8:=Bool.eq_false_iff.mpr c8
        subst c8
        have H1:(some false) = some r:=by rw [if_neg (show ¬ (false = true) by decide)] at H;exact H
        clear H
        have H:=H1
        clear H1
        obtain rfl:=Option.some.inj H
        try go_wp2
        have n0_:=aA.mk (aE HB.out)
        clear HB
        have HB:=n0_
        clear n0_
        have p166:0 ≤ (x5_1:Int):=lE tC
        have q166:x5_1 < (l0.length:Int):=lE tC
        obtain ⟨ad166,A166_0,c166_0,e166,hx166_0,hl166_0,hi166_0⟩:=at_L6 HR0.out x5_1 p166 q166
        have hw166_0:=hx166_0
        cases e166
        replace hx166_0:=(HB.out.cell (lD w _ hx166_0)).trans hx166_0
        have HR166_0:=aA.mk hi166_0
        have HC166_0:=aA.mk hl166_0
        clear hi166_0 hl166_0
        replace p166:=eq_true p166
        replace q166:=eq_true q166
        have p167:0 ≤ (x5_1:Int):=lE tC
        have q167:x5_1 < (l1.length:Int):=lE tC
        obtain ⟨ad167,A167_0,c167_0,e167,hx167_0,hl167_0,hi167_0⟩:=at_L6 HR1.out x5_1 p167 q167
        have hw167_0:=hx167_0
        cases e167
        replace hx167_0:=(HB.out.cell (lD w _ hx167_0)).trans hx167_0
        have HR167_0:=aA.mk hi167_0
        have HC167_0:=aA.mk hl167_0
        clear hi167_0 hl167_0
        replace p167:=eq_true p167
        replace q167:=eq_true q167
        refine start_ (n:=10) (S:=fun w'=>w'.cell? (ad166.add (x5_1).toNat) = some (.slice A166_0 (rd_L6 l0 x5_1).length c166_0) ∧ w'.cell? (ad167.add (x5_1).toNat) = some (.slice A167_0 (rd_L6 l1 x5_1).length c167_0)) (ds:=[]) #[F0,F0,F0,F0,F0,F0,F0,F0,F0,F0] tF rfl rfl ⟨((HB.out.cell (lD w _ hw166_0)).trans hw166_0),((HB.out.cell (lD w _ hw167_0)).trans hw167_0)⟩ (fun hHeld=>?_);refine with_tabW laws_eqKeySS.tab6 laws_eqKeySS.bits6 (fun HT_ HW_=>?_)
        generalize wr.drew = w11 at HB HR166_0 HR167_0 hx166_0 hx167_0 hHeld ⊢
        refine pure_ (i:=0) (N:=some 17) (v:=?_) (a':=?_) (bq1 1 10) rfl rfl (any_of HT_.out tF) (fun _ _ _ h=>h) (Or.inl ⟨vK,?_⟩) ?_ ?_
        rotate_left
        ·intro w'
         go_simp
         with_reducible rfl
        rotate_left
        ·simp only [Act.put,lA,lB,lC,aQ,aR]
         rfl
        refine pure_ (i:=1) (N:=some 18) (v:=?_) (a':=?_) (bq1 3 10) rfl rfl (any_of HT_.out tF) (fun _ _ _ h=>h) (Or.inl ⟨vK,?_⟩) ?_ ?_
        rotate_left
        ·intro w'
         go_simp
         with_reducible rfl
        rotate_left
        ·simp only [Act.put,lA,lB,lC,aQ,aR]
         rfl
        refine pure_ (i:=2) (N:=some 19) (v:=?_) (a':=?_) (bq1 7 10) rfl rfl (any_of HT_.out tF) (fun _ _ _ h=>h) (Or.inl ⟨vK,?_⟩) ?_ ?_
        rotate_left
        ·intro w'
         go_simp
         with_reducible rfl
        rotate_left
        ·simp only [Act.put,lA,lB,lC,aQ,aR]
         rfl
        refine pure_ (i:=4) (N:=some 21) (v:=?_) (a':=?_) (bq1 23 10) rfl rfl (any_of HT_.out tF) (fun _ _ _ h=>h) (Or.inl ⟨vK,?_⟩) ?_ ?_
        rotate_left
        ·intro w'
         go_simp
         with_reducible rfl
        rotate_left
        ·simp only [Act.put,lA,lB,lC,aQ,aR]
         rfl
        refine pure_ (i:=5) (N:=some 22) (v:=?_) (a':=?_) (bq1 55 10) rfl rfl (any_of HT_.out tF) (fun _ _ _ h=>h) (Or.inl ⟨vK,?_⟩) ?_ ?_
        rotate_left
        ·intro w'
         go_simp
         with_reducible rfl
        rotate_left
        ·simp only [Act.put,lA,lB,lC,aQ,aR]
         rfl
        refine pure_ (i:=6) (N:=some 23) (v:=?_) (a':=?_) (bq1 119 10) rfl rfl (any_of HT_.out tF) (fun _ _ _ h=>h) (Or.inl ⟨vK,?_⟩) ?_ ?_
        rotate_left
        ·intro w'
         go_simp
         with_reducible rfl
        rotate_left
        ·simp only [Act.put,lA,lB,lC,aQ,aR]
         rfl
        refine take_ (i:=3) (N:=some 20) (v:=?_) (a':=?_) (bq1 127 10) rfl rfl (take_ofW HT_.out HW_.out tF) (fun _ _ _ h=>h) (Or.inl ⟨vK,?_⟩) hHeld ?_ ?_
        rotate_left
        ·rintro w' ⟨s0,s1⟩
         go_simp
         with_reducible rfl
        rotate_left
        ·simp only [Act.put,lA,lB,lC,aQ,aR]
         rfl
        refine take_ (i:=7) (N:=some 24) (v:=?_) (a':=?_) (bq1 255 10) rfl rfl (take_ofW HT_.out HW_.out tF) (fun _ _ _ h=>h) (Or.inl ⟨vK,?_⟩) hHeld ?_ ?_
        rotate_left
        ·rintro w' ⟨s0,s1⟩
         go_simp
         with_reducible rfl
        rotate_left
        ·simp only [Act.put,lA,lB,lC,aQ,aR]
         rfl
        refine one_ (i:=8) (N:=some 25) (bq1 511 10) rfl rfl (one_of HT_.out tF) tq (fun K hK=>?_)
        refine goes_ Try.func105 tF rfl #[.slice A166_0 (rd_L6 l0 x5_1).length c166_0,.slice A167_0 (rd_L6 l1 x5_1).length c167_0] ta rfl rfl tA ?_
        with_reducible refine (laws_eqKeyS.calls k1 _ _ (rd_L6 l0 x5_1) _ _ (rd_L6 l1 x5_1) false _ ?side1 ?side2 ?side3 ?side4 A7.out).mono ?_
        (case side1=>repeat (first|exact (Kd.aV HR166_0.out HB.out)|(with_reducible refine Kd.C_alloc ?_ _)|(with_reducible refine Kd.C_drewN ?_ _)|(with_reducible refine Kd.C_drew ?_)))
        (case side2=>exact HC166_0.out)
        (case side3=>repeat (first|exact (Kd.aV HR167_0.out HB.out)|(with_reducible refine Kd.C_alloc ?_ _)|(with_reducible refine Kd.C_drewN ?_ _)|(with_reducible refine Kd.C_drew ?_)))
        (case side4=>exact HC167_0.out)
        rintro e w12 ⟨rfl,hb⟩
        refine ⟨_,rfl,?_⟩
        have n0_:=aA.mk (aJ tB hb)
        clear HB
        have HB:=n0_
        clear n0_
        (try clear hb)
        (try clear hb2)
        (try clear hk)
        (try clear hi)
        refine hK.out _ _ ⟨((HB.out.cell (lD w _ hw166_0)).trans hw166_0),((HB.out.cell (lD w _ hw167_0)).trans hw167_0)⟩ (fun hHeld=>?_)
        clear hK K
        refine norm_ (a':=?_) ?_ ?_
        rotate_left
        ·show Act.put _ (some 25) _ = _
         simp only [Act.put,lA,lB,lC,aQ,aR]
         rfl
        refine pure_ (i:=9) (N:=some 26) (v:=?_) (a':=?_) (bq1 1023 10) rfl rfl (any_of HT_.out tF) (fun _ _ _ h=>h) (Or.inl ⟨vK,?_⟩) ?_ ?_
        rotate_left
        ·intro w'
         go_simp
         with_reducible rfl
        rotate_left
        ·simp only [Act.put,lA,lB,lC,aQ,aR]
         rfl
        refine done_ (done_of HT_.out tF) ?_
        try go_wp2
        go_ret
        exact ⟨tG,tN⟩
      ·rw [if_neg c6] at H
       exact vX
     ·rw [if_neg c5] at H
      exact vX
    ·rw [if_neg c4] at H
     have c4b0:decide (x5_1 < (l0.length:Int)) = false:=decide_eq_false c4
     clear c4
     obtain rfl:=Option.some.inj H
     go_wp2
     go_ret
     exact ⟨tG,tN⟩
 ·rw [if_neg c3] at H
  have c3b0:((l0.length:Int) == (l1.length:Int)) = false:=beq_eq_false_iff_ne.mpr c3
  have c3b1:((l0.length:Int) != (l1.length:Int)) = true:=bne_iff_ne.mpr c3
  have c3b2:(l0.length == l1.length) = false:=by first|simpa using c3|(simp at c3 ⊢;omega)
  obtain rfl:=Option.some.inj H
  go_enter Try.func94,Try.ntmps94
  go_wp2
  go_ret
  exact ⟨tG,tN⟩
def laws_eqNode.f (k:Nat) (l0_0:List (List (S38))) (l1_0:List (List (S38))):Option (Bool):=(laws_eqKeySS.f k l0_0 l1_0).bind fun t171=>(if t171 = true then (some true) else (some false))
set_option maxHeartbeats 8000000 in
set_option maxRecDepth 100000 in
theorem laws_eqNode.calls (k:Nat) (A0_0:Option Addr) (c0_0:Nat) (l0_0:List (List (S38))) (A1_0:Option Addr) (c1_0:Nat) (l1_0:List (List (S38))) (r:Bool) (w:World) (hr0_0:Kd.C (Kd.slice 38 k38) w A0_0 l0_0.length l0_0) (hc0_0:l0_0.length ≤ c0_0) (hr1_0:Kd.C (Kd.slice 38 k38) w A1_0 l1_0.length l1_0) (hc1_0:l1_0.length ≤ c1_0) (h:laws_eqNode.f k l0_0 l1_0 = some r) :
  Calls Try.prog 71 #[.agg #[.slice A0_0 l0_0.length c0_0],.agg #[.slice A1_0 l1_0.length c1_0]] w fun e w'=>e = .returned (.bool r) ∧ Below w.heap.size w w':=by
 have hu59:=Try.underlying59
 have HR0_0:=aA.mk hr0_0
 have HC0_0:=aA.mk hc0_0
 clear hr0_0 hc0_0
 have HR1_0:=aA.mk hr1_0
 have HC1_0:=aA.mk hc1_0
 clear hr1_0 hc1_0
 have HB:=aA.mk (Below.refl w.heap.size w)
 have H:((laws_eqKeySS.f k l0_0 l1_0).bind fun t171=>(if t171 = true then (some true) else (some false))) = some r:=h
 clear h
 replace H:=lF H
 obtain ⟨t171,A30,H⟩:=H
 replace H:(if t171 = true then (some true) else (some false)) = some r:=H
 have A3:=aA.mk A30
 clear A30
 by_cases c4:t171 = true
 ·subst c4
  have H1:(some true) = some r:=by rw [if_pos rfl] at H;exact H
  clear H
  have H:=H1
  clear H1
  obtain rfl:=Option.some.inj H
  go_enter Try.func71,Try.ntmps71
  go_wp2_with (first|((with_reducible refine aX (N:=2) rfl ?_);refine aW ?hg (N:=2) ?hd (cs:=#[.slice A0_0 l0_0.length c0_0]) (t:=59) ?hr ?_;(case hd=>rfl);(case hg=>rfl);(case hr=>exact tP);intro gb169 hg w5 hbox hb;have n0_:=aA.mk (aJ tB hb);have n1_:=aA.mk (hbox);have n2_:=aA.mk ((by rw [hg];exact (aM tB):w.heap.size ≤ gb169));have n3_:=aA.mk ((by rw [hg];exact (aM tB):w.heap.size ≤ gb169));clear HB;have HB:=n0_;have BK169:=n1_;have GW169:=n2_;have GE169:=n3_;clear n0_ n1_ n2_ n3_;clear hb hbox hg)|((with_reducible refine aX (N:=3) rfl ?_);refine aW ?hg (N:=3) ?hd (cs:=#[.slice A1_0 l1_0.length c1_0]) (t:=59) ?hr ?_;(case hd=>rfl);(case hg=>rfl);(case hr=>exact tP);intro gb170 hg w6 hbox hb;have n0_:=aA.mk (aG (g:=gb169) (o:=.cells #[.slice A0_0 l0_0.length c0_0] 59 (0,0)) tk hb);have n1_:=aA.mk (aJ tp hb);have n2_:=aA.mk (hbox);have n3_:=aA.mk ((by rw [hg];exact (aM tp):w.heap.size ≤ gb170));have n4_:=aA.mk ((by rw [hg];exact (aM tp):w.heap.size ≤ gb170));have n5_:=aA.mk ((by rw [hg];exact Nat.ne_of_lt (aY (g:=gb169) (o:=.cells #[.slice A0_0 l0_0.length c0_0] 59 (0,0)) tk):gb169 ≠ gb170));have n6_:=aA.mk ((by rw [hg];exact Nat.ne_of_gt (aY (g:=gb169) (o:=.cells #[.slice A0_0 l0_0.length c0_0] 59 (0,0)) tk):gb170 ≠ gb169));clear BK169;clear HB;have BK169:=n0_;have HB:=n1_;have BK170:=n2_;have GW170:=n3_;have GE170:=n4_;have NB169_170:=n5_;have NB170_169:=n6_;clear n0_ n1_ n2_ n3_ n4_ n5_ n6_;clear hb hbox hg;have hnb7:=NB169_170.out;have hnc7:=NB170_169.out;have hcz8_0:w6.cell? ⟨gb169,0,none⟩ = some (.slice A0_0 l0_0.length c0_0):=(aB BK169.out 0).trans rfl;have hfz8_0:=aC BK169.out 0;have hcz9_0:w6.cell? ⟨gb170,0,none⟩ = some (.slice A1_0 l1_0.length c1_0):=(aB BK170.out 0).trans rfl;have hfz9_0:=aC BK170.out 0)|((with_reducible refine aT (f:=94) rfl ?_);refine goesL_ (some 9) rfl rfl Try.func94 tF rfl #[.slice A0_0 l0_0.length c0_0,.slice A1_0 l1_0.length c1_0] rfl tA ?_;(with_reducible refine (laws_eqKeySS.calls k _ _ l0_0 _ _ l1_0 true _ ?side1 ?side2 ?side3 ?side4 A3.out).mono ?_);(case side1=>exact tL);(case side2=>exact HC0_0.out);(case side3=>exact tr);(case side4=>exact HC1_0.out);rintro e w10 ⟨rfl,hb⟩;refine ⟨_,rfl,?_⟩;have n0_:=aA.mk (aG (g:=gb169) (o:=.cells #[.slice A0_0 l0_0.length c0_0] 59 (0,0)) tk hb);have n1_:=aA.mk (aG (g:=gb170) (o:=.cells #[.slice A1_0 l1_0.length c1_0] 59 (0,0)) (by (with_reducible repeat (first|refine aN ?_ _|refine aL ?_|refine aP ?_ _));exact BK170.out) hb);have n2_:=aA.mk (aJ (by repeat (first|(with_reducible first|exact HB.out|apply aF|apply aD|apply aE|refine aH ?_ GE169.out|refine aH ?_ GE170.out)|exact HB.out)) hb);clear BK169;clear BK170;clear HB;have BK169:=n0_;have BK170:=n1_;have HB:=n2_;clear n0_ n1_ n2_;(try clear hb)))
  go_ret
  exact ⟨tG,by repeat (first|(with_reducible first|exact HB.out|apply aF|apply aD|apply aE|refine aH ?_ GE169.out|refine aH ?_ GE170.out)|exact HB.out)⟩
 ·replace c4:=Bool.eq_false_iff.mpr c4
  subst c4
  have H1:(some false) = some r:=by rw [if_neg (show ¬ (false = true) by decide)] at H;exact H
  clear H
  have H:=H1
  clear H1
  obtain rfl:=Option.some.inj H
  go_enter Try.func71,Try.ntmps71
  go_wp2_with (first|((with_reducible refine aX (N:=2) rfl ?_);refine aW ?hg (N:=2) ?hd (cs:=#[.slice A0_0 l0_0.length c0_0]) (t:=59) ?hr ?_;(case hd=>rfl);(case hg=>rfl);(case hr=>exact tP);intro gb169 hg w11 hbox hb;have n0_:=aA.mk (aJ tB hb);have n1_:=aA.mk (hbox);have n2_:=aA.mk ((by rw [hg];exact (aM tB):w.heap.size ≤ gb169));have n3_:=aA.mk ((by rw [hg];exact (aM tB):w.heap.size ≤ gb169));clear HB;have HB:=n0_;have BK169:=n1_;have GW169:=n2_;have GE169:=n3_;clear n0_ n1_ n2_ n3_;clear hb hbox hg)|((with_reducible refine aX (N:=3) rfl ?_);refine aW ?hg (N:=3) ?hd (cs:=#[.slice A1_0 l1_0.length c1_0]) (t:=59) ?hr ?_;(case hd=>rfl);(case hg=>rfl);(case hr=>exact tP);intro gb170 hg w12 hbox hb;have n0_:=aA.mk (aG (g:=gb169) (o:=.cells #[.slice A0_0 l0_0.length c0_0] 59 (0,0)) tk hb);have n1_:=aA.mk (aJ tp hb);have n2_:=aA.mk (hbox);have n3_:=aA.mk ((by rw [hg];exact (aM tp):w.heap.size ≤ gb170));have n4_:=aA.mk ((by rw [hg];exact (aM tp):w.heap.size ≤ gb170));have n5_:=aA.mk ((by rw [hg];exact Nat.ne_of_lt (aY (g:=gb169) (o:=.cells #[.slice A0_0 l0_0.length c0_0] 59 (0,0)) tk):gb169 ≠ gb170));have n6_:=aA.mk ((by rw [hg];exact Nat.ne_of_gt (aY (g:=gb169) (o:=.cells #[.slice A0_0 l0_0.length c0_0] 59 (0,0)) tk):gb170 ≠ gb169));clear BK169;clear HB;have BK169:=n0_;have HB:=n1_;have BK170:=n2_;have GW170:=n3_;have GE170:=n4_;have NB169_170:=n5_;have NB170_169:=n6_;clear n0_ n1_ n2_ n3_ n4_ n5_ n6_;clear hb hbox hg;have hnb13:=NB169_170.out;have hnc13:=NB170_169.out;have hcz14_0:w12.cell? ⟨gb169,0,none⟩ = some (.slice A0_0 l0_0.length c0_0):=(aB BK169.out 0).trans rfl;have hfz14_0:=aC BK169.out 0;have hcz15_0:w12.cell? ⟨gb170,0,none⟩ = some (.slice A1_0 l1_0.length c1_0):=(aB BK170.out 0).trans rfl;have hfz15_0:=aC BK170.out 0)|((with_reducible refine aT (f:=94) rfl ?_);refine goesL_ (some 9) rfl rfl Try.func94 tF rfl #[.slice A0_0 l0_0.length c0_0,.slice A1_0 l1_0.length c1_0] rfl tA ?_;(with_reducible refine (laws_eqKeySS.calls k _ _ l0_0 _ _ l1_0 false _ ?side1 ?side2 ?side3 ?side4 A3.out).mono ?_);(case side1=>exact tL);(case side2=>exact HC0_0.out);(case side3=>exact tr);(case side4=>exact HC1_0.out);rintro e w16 ⟨rfl,hb⟩;refine ⟨_,rfl,?_⟩;have n0_:=aA.mk (aG (g:=gb169) (o:=.cells #[.slice A0_0 l0_0.length c0_0] 59 (0,0)) tk hb);have n1_:=aA.mk (aG (g:=gb170) (o:=.cells #[.slice A1_0 l1_0.length c1_0] 59 (0,0)) (by (with_reducible repeat (first|refine aN ?_ _|refine aL ?_|refine aP ?_ _));exact BK170.out) hb);have n2_:=aA.mk (aJ (by repeat (first|(with_reducible first|exact HB.out|apply aF|apply aD|apply aE|refine aH ?_ GE169.out|refine aH ?_ GE170.out)|exact HB.out)) hb);clear BK169;clear BK170;clear HB;have BK169:=n0_;have BK170:=n1_;have HB:=n2_;clear n0_ n1_ n2_;(try clear hb)))
  go_ret
  exact ⟨tG,by repeat (first|(with_reducible first|exact HB.out|apply aF|apply aD|apply aE|refine aH ?_ GE169.out|refine aH ?_ GE170.out)|exact HB.out)⟩
def laws_eqNodeS.l0:Nat → List (S59) → List (S59) → Int → Option (Bool)
 | 0,_,_,_=>none
 | k + 1,x0,x1,x5=>if x5 < (x0.length:Int) then (if 0 ≤ x5 then (if x5 < (x1.length:Int) then ((laws_eqNode.f k ((rd_T59 x0 x5).f0) ((rd_T59 x1 x5).f0)).bind fun t174=>(if t174 = true then (laws_eqNodeS.l0 k x0 x1 (wrap64 (x5 + 1))) else (some false))) else (none)) else (none)) else (some true)
def laws_eqNodeS.f (k:Nat) (l0:List (S59)) (l1:List (S59)):Option (Bool):=if (l0.length:Int) = (l1.length:Int) then (laws_eqNodeS.l0 k l0 l1 0) else (some false)
def laws_eqNodeS.T6:Bool × List (List Nat × List Nat):=(true,[([],[]),([],[]),([0,1],[0,1]),([2],[2]),([],[]),([],[]),([4,5],[4,5]),([6],[6]),([3,7],[3,7]),([8],[8])])
def laws_eqNodeS.B6:List Nat:=[0,0,3,7,0,0,48,112,255,511]
theorem laws_eqNodeS.tab6:rtab .any (opsOf Try.f35 6) = laws_eqNodeS.T6:=by kernel_rfl
theorem laws_eqNodeS.bits6:waitsOk laws_eqNodeS.T6.2 laws_eqNodeS.B6 = true:=by kernel_rfl
set_option maxHeartbeats 8000000 in
set_option maxRecDepth 100000 in
theorem laws_eqNodeS.calls (k:Nat) (A0:Option Addr) (c0:Nat) (l0:List (S59)) (A1:Option Addr) (c1:Nat) (l1:List (S59)) (r:Bool) (w:World) (hr0:Kd.C k59 w A0 l0.length l0) (hc0:l0.length ≤ c0) (hr1:Kd.C k59 w A1 l1.length l1) (hc1:l1.length ≤ c1) (h:laws_eqNodeS.f k l0 l1 = some r) :
  Calls Try.prog 35 #[.slice A0 l0.length c0,.slice A1 l1.length c1] w fun e w'=>e = .returned (.bool r) ∧ Below w.heap.size w w':=by
 have hu59:=Try.underlying59
 have HR0:=aA.mk hr0
 have HC0:=aA.mk hc0
 clear hr0 hc0
 have HR1:=aA.mk hr1
 have HC1:=aA.mk hc1
 clear hr1 hc1
 have HB:=aA.mk (Below.refl w.heap.size w)
 have H:(if (l0.length:Int) = (l1.length:Int) then (laws_eqNodeS.l0 k l0 l1 0) else (some false)) = some r:=h
 clear h
 by_cases c3:(l0.length:Int) = (l1.length:Int)
 ·rw [if_pos c3] at H
  have c3b0:((l0.length:Int) == (l1.length:Int)) = true:=beq_iff_eq.mpr c3
  have c3b1:((l0.length:Int) != (l1.length:Int)) = false:=bne_eq_false_iff_eq.mpr c3
  have c3b2:(l0.length == l1.length) = true:=by first|simpa using c3|(simp at c3 ⊢;omega)
  clear c3
  have H':=aA.mk H
  clear H
  go_enter Try.func35,Try.ntmps35
  go_wp2
  go_loopg [5] k (fun kq v5 w'=>∃ (x5_1:Int),v5 = .int .i64 x5_1 ∧ aA (laws_eqNodeS.l0 kq l0 l1 x5_1 = some r) ∧ aA (kq ≤ k) ∧ aA (Below w.heap.size w w'))
  case atStart=>exact ⟨(0),tK,H',⟨Nat.le_refl _⟩,⟨tN⟩⟩
  case round =>
   clear H'
   try clear c1
   try clear p2
   try clear c3
   try clear c3b0
   try clear c3b1
   try clear c3b2
   obtain ⟨x5_1,rfl,HA,HK1,HB⟩:=hrel
   cases gk with
   | zero=>exact absurd HA.out (by simp [laws_eqNodeS.l0])
   | succ k1 =>
    have H:=HA.out
    clear HA
    simp only [laws_eqNodeS.l0] at H
    by_cases c4:x5_1 < (l0.length:Int)
    ·rw [if_pos c4] at H
     have c4b0:decide (x5_1 < (l0.length:Int)) = true:=decide_eq_true c4
     clear c4
     by_cases c5:0 ≤ x5_1
     ·rw [if_pos c5] at H
      have c5b0:decide (0 ≤ x5_1) = true:=decide_eq_true c5
      clear c5
      by_cases c6:x5_1 < (l1.length:Int)
      ·rw [if_pos c6] at H
       have c6b0:decide (x5_1 < (l1.length:Int)) = true:=decide_eq_true c6
       clear c6
       replace H:=lF H
       obtain ⟨t174,A70,H⟩:=H
       replace H:(if t174 = true then (laws_eqNodeS.l0 k1 l0 l1 (wrap64 (x5_1 + 1))) else (some false)) = some r:=H
       have A7:=aA.mk A70
       clear A70
       by_cases c8:t174 = true
       ·subst c8
        have H1:(laws_eqNodeS.l0 k1 l0 l1 (wrap64 (x5_1 + 1))) = some r:=by rw [if_pos rfl] at H;exact H
        clear H
        have H:=H1
        clear H1
        have H':=aA.mk H
        clear H
        try go_wp2
        have n0_:=aA.mk (aE HB.out)
        clear HB
        have HB:=n0_
        clear n0_
        have p172:0 ≤ (x5_1:Int):=lE tC
        have q172:x5_1 < (l0.length:Int):=lE tC
        obtain ⟨ad172,A172_0,c172_0,e172,hx172_0,hl172_0,hi172_0⟩:=at_T59 HR0.out x5_1 p172 q172
        have hw172_0:=hx172_0
        cases e172
        replace hx172_0:=(HB.out.cell (lD w _ hx172_0)).trans hx172_0
        have HR172_0:=aA.mk hi172_0
        have HC172_0:=aA.mk hl172_0
        clear hi172_0 hl172_0
        replace p172:=eq_true p172
        replace q172:=eq_true q172
        have p173:0 ≤ (x5_1:Int):=lE tC
        have q173:x5_1 < (l1.length:Int):=lE tC
        obtain ⟨ad173,A173_0,c173_0,e173,hx173_0,hl173_0,hi173_0⟩:=at_T59 HR1.out x5_1 p173 q173
        have hw173_0:=hx173_0
        cases e173
        replace hx173_0:=(HB.out.cell (lD w _ hx173_0)).trans hx173_0
        have HR173_0:=aA.mk hi173_0
        have HC173_0:=aA.mk hl173_0
        clear hi173_0 hl173_0
        replace p173:=eq_true p173
        replace q173:=eq_true q173
        refine start_ (n:=10) (S:=fun w'=>w'.cell? (ad172.add (x5_1).toNat) = some (.slice A172_0 ((rd_T59 l0 x5_1).f0).length c172_0) ∧ w'.cell? (ad173.add (x5_1).toNat) = some (.slice A173_0 ((rd_T59 l1 x5_1).f0).length c173_0)) (ds:=[]) #[F0,F0,F0,F0,F0,F0,F0,F0,F0,F0] tF rfl rfl ⟨((HB.out.cell (lD w _ hw172_0)).trans hw172_0),((HB.out.cell (lD w _ hw173_0)).trans hw173_0)⟩ (fun hHeld=>?_);refine with_tabW laws_eqNodeS.tab6 laws_eqNodeS.bits6 (fun HT_ HW_=>?_)
        generalize wr.drew = w9 at HB HR172_0 HR173_0 hx172_0 hx173_0 hHeld ⊢
        refine pure_ (i:=0) (N:=some 17) (v:=?_) (a':=?_) (bq1 1 10) rfl rfl (any_of HT_.out tF) (fun _ _ _ h=>h) (Or.inl ⟨vK,?_⟩) ?_ ?_
        rotate_left
        ·intro w'
         go_simp
         with_reducible rfl
        rotate_left
        ·simp only [Act.put,lA,lB,lC,aQ,aR]
         rfl
        refine pure_ (i:=1) (N:=some 18) (v:=?_) (a':=?_) (bq1 3 10) rfl rfl (any_of HT_.out tF) (fun _ _ _ h=>h) (Or.inl ⟨vK,?_⟩) ?_ ?_
        rotate_left
        ·intro w'
         go_simp
         with_reducible rfl
        rotate_left
        ·simp only [Act.put,lA,lB,lC,aQ,aR]
         rfl
        refine pure_ (i:=2) (N:=some 19) (v:=?_) (a':=?_) (bq1 7 10) rfl rfl (any_of HT_.out tF) (fun _ _ _ h=>h) (Or.inl ⟨vK,?_⟩) ?_ ?_
        rotate_left
        ·intro w'
         go_simp
         with_reducible rfl
        rotate_left
        ·simp only [Act.put,lA,lB,lC,aQ,aR]
         rfl
        refine pure_ (i:=4) (N:=some 21) (v:=?_) (a':=?_) (bq1 23 10) rfl rfl (any_of HT_.out tF) (fun _ _ _ h=>h) (Or.inl ⟨vK,?_⟩) ?_ ?_
        rotate_left
        ·intro w'
         go_simp
         with_reducible rfl
        rotate_left
        ·simp only [Act.put,lA,lB,lC,aQ,aR]
         rfl
        refine pure_ (i:=5) (N:=some 22) (v:=?_) (a':=?_) (bq1 55 10) rfl rfl (any_of HT_.out tF) (fun _ _ _ h=>h) (Or.inl ⟨vK,?_⟩) ?_ ?_
        rotate_left
        ·intro w'
         go_simp
         with_reducible rfl
        rotate_left
        ·simp only [Act.put,lA,lB,lC,aQ,aR]
         rfl
        refine pure_ (i:=6) (N:=some 23) (v:=?_) (a':=?_) (bq1 119 10) rfl rfl (any_of HT_.out tF) (fun _ _ _ h=>h) (Or.inl ⟨vK,?_⟩) ?_ ?_
        rotate_left
        ·intro w'
         go_simp
         with_reducible rfl
        rotate_left
        ·simp only [Act.put,lA,lB,lC,aQ,aR]
         rfl
        refine take_ (i:=3) (N:=some 20) (v:=?_) (a':=?_) (bq1 127 10) rfl rfl (take_ofW HT_.out HW_.out tF) (fun _ _ _ h=>h) (Or.inl ⟨vK,?_⟩) hHeld ?_ ?_
        rotate_left
        ·rintro w' ⟨s0,s1⟩
         go_simp
         with_reducible rfl
        rotate_left
        ·simp only [Act.put,lA,lB,lC,aQ,aR]
         rfl
        refine take_ (i:=7) (N:=some 24) (v:=?_) (a':=?_) (bq1 255 10) rfl rfl (take_ofW HT_.out HW_.out tF) (fun _ _ _ h=>h) (Or.inl ⟨vK,?_⟩) hHeld ?_ ?_
        rotate_left
        ·rintro w' ⟨s0,s1⟩
         go_simp
         with_reducible rfl
        rotate_left
        ·simp only [Act.put,lA,lB,lC,aQ,aR]
         rfl
        refine one_ (i:=8) (N:=some 25) (bq1 511 10) rfl rfl (one_of HT_.out tF) tq (fun K hK=>?_)
        refine goes_ Try.func71 tF rfl #[.agg #[.slice A172_0 ((rd_T59 l0 x5_1).f0).length c172_0],.agg #[.slice A173_0 ((rd_T59 l1 x5_1).f0).length c173_0]] ta rfl rfl tA ?_
        with_reducible refine (laws_eqNode.calls k1 _ _ ((rd_T59 l0 x5_1).f0) _ _ ((rd_T59 l1 x5_1).f0) true _ ?side1 ?side2 ?side3 ?side4 A7.out).mono ?_
        (case side1=>repeat (first|exact (Kd.aV HR172_0.out HB.out)|(with_reducible refine Kd.C_alloc ?_ _)|(with_reducible refine Kd.C_drewN ?_ _)|(with_reducible refine Kd.C_drew ?_)))
        (case side2=>exact HC172_0.out)
        (case side3=>repeat (first|exact (Kd.aV HR173_0.out HB.out)|(with_reducible refine Kd.C_alloc ?_ _)|(with_reducible refine Kd.C_drewN ?_ _)|(with_reducible refine Kd.C_drew ?_)))
        (case side4=>exact HC173_0.out)
        rintro e w10 ⟨rfl,hb⟩
        refine ⟨_,rfl,?_⟩
        have n0_:=aA.mk (aJ tB hb)
        clear HB
        have HB:=n0_
        clear n0_
        (try clear hb)
        (try clear hb2)
        (try clear hk)
        (try clear hi)
        refine hK.out _ _ ⟨((HB.out.cell (lD w _ hw172_0)).trans hw172_0),((HB.out.cell (lD w _ hw173_0)).trans hw173_0)⟩ (fun hHeld=>?_)
        clear hK K
        refine norm_ (a':=?_) ?_ ?_
        rotate_left
        ·show Act.put _ (some 25) _ = _
         simp only [Act.put,lA,lB,lC,aQ,aR]
         rfl
        refine pure_ (i:=9) (N:=some 26) (v:=?_) (a':=?_) (bq1 1023 10) rfl rfl (any_of HT_.out tF) (fun _ _ _ h=>h) (Or.inl ⟨vK,?_⟩) ?_ ?_
        rotate_left
        ·intro w'
         go_simp
         with_reducible rfl
        rotate_left
        ·simp only [Act.put,lA,lB,lC,aQ,aR]
         rfl
        refine done_ (done_of HT_.out tF) ?_
        try go_wp2
        go_roundg k1
        case measure=>have:=HK1.out;omega
        case rel=>exact ⟨(wrap64 (x5_1 + 1)),tK,H',⟨vM⟩,⟨tN⟩⟩
       ·replace c8:=Bool.eq_false_iff.mpr c8
        subst c8
        have H1:(some false) = some r:=by rw [if_neg (show ¬ (false = true) by decide)] at H;exact H
        clear H
        have H:=H1
        clear H1
        obtain rfl:=Option.some.inj H
        try go_wp2
        have n0_:=aA.mk (aE HB.out)
        clear HB
        have HB:=n0_
        clear n0_
        have p172:0 ≤ (x5_1:Int):=lE tC
        have q172:x5_1 < (l0.length:Int):=lE tC
        obtain ⟨ad172,A172_0,c172_0,e172,hx172_0,hl172_0,hi172_0⟩:=at_T59 HR0.out x5_1 p172 q172
        have hw172_0:=hx172_0
        cases e172
        replace hx172_0:=(HB.out.cell (lD w _ hx172_0)).trans hx172_0
        have HR172_0:=aA.mk hi172_0
        have HC172_0:=aA.mk hl172_0
        clear hi172_0 hl172_0
        replace p172:=eq_true p172
        replace q172:=eq_true q172
        have p173:0 ≤ (x5_1:Int):=lE tC
        have q173:x5_1 < (l1.length:Int):=lE tC
        obtain ⟨ad173,A173_0,c173_0,e173,hx173_0,hl173_0,hi173_0⟩:=at_T59 HR1.out x5_1 p173 q173
        have hw173_0:=hx173_0
        cases e173
        replace hx173_0:=(HB.out.cell (lD w _ hx173_0)).trans hx173_0
        have HR173_0:=aA.mk hi173_0
        have HC173_0:=aA.mk hl173_0
        clear hi173_0 hl173_0
        replace p173:=eq_true p173
        replace q173:=eq_true q173
        refine start_ (n:=10) (S:=fun w'=>w'.cell? (ad172.add (x5_1).toNat) = some (.slice A172_0 ((rd_T59 l0 x5_1).f0).length c172_0) ∧ w'.cell? (ad173.add (x5_1).toNat) = some (.slice A173_0 ((rd_T59 l1 x5_1).f0).length c173_0)) (ds:=[]) #[F0,F0,F0,F0,F0,F0,F0,F0,F0,F0] tF rfl rfl ⟨((HB.out.cell (lD w _ hw172_0)).trans hw172_0),((HB.out.cell (lD w _ hw173_0)).trans hw173_0)⟩ (fun hHeld=>?_);refine with_tabW laws_eqNodeS.tab6 laws_eqNodeS.bits6 (fun HT_ HW_=>?_)
        generalize wr.drew = w11 at HB HR172_0 HR173_0 hx172_0 hx173_0 hHeld ⊢
        refine pure_ (i:=0) (N:=some 17) (v:=?_) (a':=?_) (bq1 1 10) rfl rfl (any_of HT_.out tF) (fun _ _ _ h=>h) (Or.inl ⟨vK,?_⟩) ?_ ?_
        rotate_left
        ·intro w'
         go_simp
         with_reducible rfl
        rotate_left
        ·simp only [Act.put,lA,lB,lC,aQ,aR]
         rfl
        refine pure_ (i:=1) (N:=some 18) (v:=?_) (a':=?_) (bq1 3 10) rfl rfl (any_of HT_.out tF) (fun _ _ _ h=>h) (Or.inl ⟨vK,?_⟩) ?_ ?_
        rotate_left
        ·intro w'
         go_simp
         with_reducible rfl
        rotate_left
        ·simp only [Act.put,lA,lB,lC,aQ,aR]
         rfl
        refine pure_ (i:=2) (N:=some 19) (v:=?_) (a':=?_) (bq1 7 10) rfl rfl (any_of HT_.out tF) (fun _ _ _ h=>h) (Or.inl ⟨vK,?_⟩) ?_ ?_
        rotate_left
        ·intro w'
         go_simp
         with_reducible rfl
        rotate_left
        ·simp only [Act.put,lA,lB,lC,aQ,aR]
         rfl
        refine pure_ (i:=4) (N:=some 21) (v:=?_) (a':=?_) (bq1 23 10) rfl rfl (any_of HT_.out tF) (fun _ _ _ h=>h) (Or.inl ⟨vK,?_⟩) ?_ ?_
        rotate_left
        ·intro w'
         go_simp
         with_reducible rfl
        rotate_left
        ·simp only [Act.put,lA,lB,lC,aQ,aR]
         rfl
        refine pure_ (i:=5) (N:=some 22) (v:=?_) (a':=?_) (bq1 55 10) rfl rfl (any_of HT_.out tF) (fun _ _ _ h=>h) (Or.inl ⟨vK,?_⟩) ?_ ?_
        rotate_left
        ·intro w'
         go_simp
         with_reducible rfl
        rotate_left
        ·simp only [Act.put,lA,lB,lC,aQ,aR]
         rfl
        refine pure_ (i:=6) (N:=some 23) (v:=?_) (a':=?_) (bq1 119 10) rfl rfl (any_of HT_.out tF) (fun _ _ _ h=>h) (Or.inl ⟨vK,?_⟩) ?_ ?_
        rotate_left
        ·intro w'
         go_simp
         with_reducible rfl
        rotate_left
        ·simp only [Act.put,lA,lB,lC,aQ,aR]
         rfl
        refine take_ (i:=3) (N:=some 20) (v:=?_) (a':=?_) (bq1 127 10) rfl rfl (take_ofW HT_.out HW_.out tF) (fun _ _ _ h=>h) (Or.inl ⟨vK,?_⟩) hHeld ?_ ?_
        rotate_left
        ·rintro w' ⟨s0,s1⟩
         go_simp
         with_reducible rfl
        rotate_left
        ·simp only [Act.put,lA,lB,lC,aQ,aR]
         rfl
        refine take_ (i:=7) (N:=some 24) (v:=?_) (a':=?_) (bq1 255 10) rfl rfl (take_ofW HT_.out HW_.out tF) (fun _ _ _ h=>h) (Or.inl ⟨vK,?_⟩) hHeld ?_ ?_
        rotate_left
        ·rintro w' ⟨s0,s1⟩
         go_simp
         with_reducible rfl
        rotate_left
        ·simp only [Act.put,lA,lB,lC,aQ,aR]
         rfl
        refine one_ (i:=8) (N:=some 25) (bq1 511 10) rfl rfl (one_of HT_.out tF) tq (fun K hK=>?_)
        refine goes_ Try.func71 tF rfl #[.agg #[.slice A172_0 ((rd_T59 l0 x5_1).f0).length c172_0],.agg #[.slice A173_0 ((rd_T59 l1 x5_1).f0).length c173_0]] ta rfl rfl tA ?_
        with_reducible refine (laws_eqNode.calls k1 _ _ ((rd_T59 l0 x5_1).f0) _ _ ((rd_T59 l1 x5_1).f0) false _ ?side1 ?side2 ?side3 ?side4 A7.out).mono ?_
        (case side1=>repeat (first|exact (Kd.aV HR172_0.out HB.out)|(with_reducible refine Kd.C_alloc ?_ _)|(with_reducible refine Kd.C_drewN ?_ _)|(with_reducible refine Kd.C_drew ?_)))
        (case side2=>exact HC172_0.out)
        (case side3=>repeat (first|exact (Kd.aV HR173_0.out HB.out)|(with_reducible refine Kd.C_alloc ?_ _)|(with_reducible refine Kd.C_drewN ?_ _)|(with_reducible refine Kd.C_drew ?_)))
        (case side4=>exact HC173_0.out)
        rintro e w12 ⟨rfl,hb⟩
        refine ⟨_,rfl,?_⟩
        have n0_:=aA.mk (aJ tB hb)
        clear HB
        have HB:=n0_
        clear n0_
        (try clear hb)
        (try clear hb2)
        (try clear hk)
        (try clear hi)
        refine hK.out _ _ ⟨((HB.out.cell (lD w _ hw172_0)).trans hw172_0),((HB.out.cell (lD w _ hw173_0)).trans hw173_0)⟩ (fun hHeld=>?_)
        clear hK K
        refine norm_ (a':=?_) ?_ ?_
        rotate_left
        ·show Act.put _ (some 25) _ = _
         simp only [Act.put,lA,lB,lC,aQ,aR]
         rfl
        refine pure_ (i:=9) (N:=some 26) (v:=?_) (a':=?_) (bq1 1023 10) rfl rfl (any_of HT_.out tF) (fun _ _ _ h=>h) (Or.inl ⟨vK,?_⟩) ?_ ?_
        rotate_left
        ·intro w'
         go_simp
         with_reducible rfl
        rotate_left
        ·simp only [Act.put,lA,lB,lC,aQ,aR]
         rfl
        refine done_ (done_of HT_.out tF) ?_
        try go_wp2
        go_ret
        exact ⟨tG,tN⟩
      ·rw [if_neg c6] at H
       exact vX
     ·rw [if_neg c5] at H
      exact vX
    ·rw [if_neg c4] at H
     have c4b0:decide (x5_1 < (l0.length:Int)) = false:=decide_eq_false c4
     clear c4
     obtain rfl:=Option.some.inj H
     go_wp2
     go_ret
     exact ⟨tG,tN⟩
 ·rw [if_neg c3] at H
  have c3b0:((l0.length:Int) == (l1.length:Int)) = false:=beq_eq_false_iff_ne.mpr c3
  have c3b1:((l0.length:Int) != (l1.length:Int)) = true:=bne_iff_ne.mpr c3
  have c3b2:(l0.length == l1.length) = false:=by first|simpa using c3|(simp at c3 ⊢;omega)
  obtain rfl:=Option.some.inj H
  go_enter Try.func35,Try.ntmps35
  go_wp2
  go_ret
  exact ⟨tG,tN⟩
set_option linter.unusedVariables false
set_option linter.unusedSimpArgs false
def laws_eqTree.f (k:Nat) (l0_0:List Int) (l0_1:List (S59)) (l1_0:List Int) (l1_1:List (S59)):Option (Bool):=(laws_eqIntS.f k l0_0 l1_0).bind fun t177=>(if t177 = true then ((laws_eqNodeS.f k l0_1 l1_1).bind fun t178=>(if t178 = true then (some true) else (some false))) else (some false))
set_option maxHeartbeats 8000000 in
set_option maxRecDepth 100000 in
theorem laws_eqTree.calls (k:Nat) (A0_0:Option Addr) (c0_0:Nat) (l0_0:List Int) (A0_1:Option Addr) (c0_1:Nat) (l0_1:List (S59)) (A1_0:Option Addr) (c1_0:Nat) (l1_0:List Int) (A1_1:Option Addr) (c1_1:Nat) (l1_1:List (S59)) (r:Bool) (w:World) (hr0_0:Kd.C (Kd.int .i64) w A0_0 l0_0.length l0_0) (hc0_0:l0_0.length ≤ c0_0) (hr0_1:Kd.C k59 w A0_1 l0_1.length l0_1) (hc0_1:l0_1.length ≤ c0_1) (hr1_0:Kd.C (Kd.int .i64) w A1_0 l1_0.length l1_0) (hc1_0:l1_0.length ≤ c1_0) (hr1_1:Kd.C k59 w A1_1 l1_1.length l1_1) (hc1_1:l1_1.length ≤ c1_1) (h:laws_eqTree.f k l0_0 l0_1 l1_0 l1_1 = some r) :
  Calls Try.prog 10 #[.agg #[.slice A0_0 l0_0.length c0_0,.slice A0_1 l0_1.length c0_1],.agg #[.slice A1_0 l1_0.length c1_0,.slice A1_1 l1_1.length c1_1]] w fun e w'=>e = .returned (.bool r) ∧ Below w.heap.size w w':=by
 have hu29:=Try.underlying29
 have HR0_0:=aA.mk hr0_0
 have HC0_0:=aA.mk hc0_0
 clear hr0_0 hc0_0
 have HR0_1:=aA.mk hr0_1
 have HC0_1:=aA.mk hc0_1
 clear hr0_1 hc0_1
 have HR1_0:=aA.mk hr1_0
 have HC1_0:=aA.mk hc1_0
 clear hr1_0 hc1_0
 have HR1_1:=aA.mk hr1_1
 have HC1_1:=aA.mk hc1_1
 clear hr1_1 hc1_1
 have HB:=aA.mk (Below.refl w.heap.size w)
 have H:((laws_eqIntS.f k l0_0 l1_0).bind fun t177=>(if t177 = true then ((laws_eqNodeS.f k l0_1 l1_1).bind fun t178=>(if t178 = true then (some true) else (some false))) else (some false))) = some r:=h
 clear h
 replace H:=lF H
 obtain ⟨t177,A30,H⟩:=H
 replace H:(if t177 = true then ((laws_eqNodeS.f k l0_1 l1_1).bind fun t178=>(if t178 = true then (some true) else (some false))) else (some false)) = some r:=H
 have A3:=aA.mk A30
 clear A30
 by_cases c4:t177 = true
 ·subst c4
  have H1:((laws_eqNodeS.f k l0_1 l1_1).bind fun t178=>(if t178 = true then (some true) else (some false))) = some r:=by rw [if_pos rfl] at H;exact H
  clear H
  have H:=H1
  clear H1
  replace H:=lF H
  obtain ⟨t178,A50,H⟩:=H
  replace H:(if t178 = true then (some true) else (some false)) = some r:=H
  have A5:=aA.mk A50
  clear A50
  by_cases c6:t178 = true
  ·subst c6
   have H1:(some true) = some r:=by rw [if_pos rfl] at H;exact H
   clear H
   have H:=H1
   clear H1
   obtain rfl:=Option.some.inj H
   go_enter Try.func10,Try.ntmps10
   go_wp2_with (first|((with_reducible refine aX (N:=2) rfl ?_);refine aW ?hg (N:=2) ?hd (cs:=#[.slice A0_0 l0_0.length c0_0,.slice A0_1 l0_1.length c0_1]) (t:=29) ?hr ?_;(case hd=>rfl);(case hg=>rfl);(case hr=>exact tP);intro gb175 hg w7 hbox hb;have n0_:=aA.mk (aJ tB hb);have n1_:=aA.mk (hbox);have n2_:=aA.mk ((by rw [hg];exact (aM tB):w.heap.size ≤ gb175));have n3_:=aA.mk ((by rw [hg];exact (aM tB):w.heap.size ≤ gb175));clear HB;have HB:=n0_;have BK175:=n1_;have GW175:=n2_;have GE175:=n3_;clear n0_ n1_ n2_ n3_;clear hb hbox hg)|((with_reducible refine aX (N:=3) rfl ?_);refine aW ?hg (N:=3) ?hd (cs:=#[.slice A1_0 l1_0.length c1_0,.slice A1_1 l1_1.length c1_1]) (t:=29) ?hr ?_;(case hd=>rfl);(case hg=>rfl);(case hr=>exact tP);intro gb176 hg w8 hbox hb;have n0_:=aA.mk (aG (g:=gb175) (o:=.cells #[.slice A0_0 l0_0.length c0_0,.slice A0_1 l0_1.length c0_1] 29 (0,0)) tY hb);have n1_:=aA.mk (aJ tX hb);have n2_:=aA.mk (hbox);have n3_:=aA.mk ((by rw [hg];exact (aM tX):w.heap.size ≤ gb176));have n4_:=aA.mk ((by rw [hg];exact (aM tX):w.heap.size ≤ gb176));have n5_:=aA.mk ((by rw [hg];exact Nat.ne_of_lt (aY (g:=gb175) (o:=.cells #[.slice A0_0 l0_0.length c0_0,.slice A0_1 l0_1.length c0_1] 29 (0,0)) tY):gb175 ≠ gb176));have n6_:=aA.mk ((by rw [hg];exact Nat.ne_of_gt (aY (g:=gb175) (o:=.cells #[.slice A0_0 l0_0.length c0_0,.slice A0_1 l0_1.length c0_1] 29 (0,0)) tY):gb176 ≠ gb175));clear BK175;clear HB;have BK175:=n0_;have HB:=n1_;have BK176:=n2_;have GW176:=n3_;have GE176:=n4_;have NB175_176:=n5_;have NB176_175:=n6_;clear n0_ n1_ n2_ n3_ n4_ n5_ n6_;clear hb hbox hg;have hnb9:=NB175_176.out;have hnc9:=NB176_175.out;have hcz10_0:w8.cell? ⟨gb175,0,none⟩ = some (.slice A0_0 l0_0.length c0_0):=(aB BK175.out 0).trans rfl;have hcz10_1:w8.cell? ⟨gb175,1,none⟩ = some (.slice A0_1 l0_1.length c0_1):=(aB BK175.out 1).trans rfl;have hfz10_0:=aC BK175.out 0;have hfz10_1:=aC BK175.out 1;have hcz11_0:w8.cell? ⟨gb176,0,none⟩ = some (.slice A1_0 l1_0.length c1_0):=(aB BK176.out 0).trans rfl;have hcz11_1:w8.cell? ⟨gb176,1,none⟩ = some (.slice A1_1 l1_1.length c1_1):=(aB BK176.out 1).trans rfl;have hfz11_0:=aC BK176.out 0;have hfz11_1:=aC BK176.out 1)|((with_reducible refine aT (f:=34) rfl ?_);refine goesL_ (some 9) rfl rfl Try.func34 tF rfl #[.slice A0_0 l0_0.length c0_0,.slice A1_0 l1_0.length c1_0] rfl tA ?_;(with_reducible refine (laws_eqIntS.calls k _ _ l0_0 _ _ l1_0 true _ ?side1 ?side2 ?side3 ?side4 A3.out).mono ?_);(case side1=>exact tL);(case side2=>exact HC0_0.out);(case side3=>exact tr);(case side4=>exact HC1_0.out);rintro e w' ⟨rfl,⟨nd,rfl⟩⟩;refine ⟨_,rfl,?_⟩)|((with_reducible refine aT (f:=35) rfl ?_);refine goesL_ (some 15) rfl rfl Try.func35 tF rfl #[.slice A0_1 l0_1.length c0_1,.slice A1_1 l1_1.length c1_1] rfl tA ?_;(with_reducible refine (laws_eqNodeS.calls k _ _ l0_1 _ _ l1_1 true _ ?side1 ?side2 ?side3 ?side4 A5.out).mono ?_);(case side1=>repeat (first|exact (Kd.aV HR0_1.out tc)|(with_reducible refine Kd.C_alloc ?_ _)|(with_reducible refine Kd.C_drewN ?_ _)|(with_reducible refine Kd.C_drew ?_)));(case side2=>exact HC0_1.out);(case side3=>repeat (first|exact (Kd.aV HR1_1.out tc)|(with_reducible refine Kd.C_alloc ?_ _)|(with_reducible refine Kd.C_drewN ?_ _)|(with_reducible refine Kd.C_drew ?_)));(case side4=>exact HC1_1.out);rintro e w12 ⟨rfl,hb⟩;refine ⟨_,rfl,?_⟩;have n0_:=aA.mk (aG (g:=gb175) (o:=.cells #[.slice A0_0 l0_0.length c0_0,.slice A0_1 l0_1.length c0_1] 29 (0,0)) tY hb);have n1_:=aA.mk (aG (g:=gb176) (o:=.cells #[.slice A1_0 l1_0.length c1_0,.slice A1_1 l1_1.length c1_1] 29 (0,0)) (by (with_reducible repeat (first|refine aN ?_ _|refine aL ?_|refine aP ?_ _));exact BK176.out) hb);have n2_:=aA.mk (aJ tc hb);clear BK175;clear BK176;clear HB;have BK175:=n0_;have BK176:=n1_;have HB:=n2_;clear n0_ n1_ n2_;(try clear hb)))
   go_ret
   exact vQ
  ·replace c6:=Bool.eq_false_iff.mpr c6
   subst c6
   have H1:(some false) = some r:=by rw [if_neg (show ¬ (false = true) by decide)] at H;exact H
   clear H
   have H:=H1
   clear H1
   obtain rfl:=Option.some.inj H
   go_enter Try.func10,Try.ntmps10
   go_wp2_with (first|((with_reducible refine aX (N:=2) rfl ?_);refine aW ?hg (N:=2) ?hd (cs:=#[.slice A0_0 l0_0.length c0_0,.slice A0_1 l0_1.length c0_1]) (t:=29) ?hr ?_;(case hd=>rfl);(case hg=>rfl);(case hr=>exact tP);intro gb175 hg w13 hbox hb;have n0_:=aA.mk (aJ tB hb);have n1_:=aA.mk (hbox);have n2_:=aA.mk ((by rw [hg];exact (aM tB):w.heap.size ≤ gb175));have n3_:=aA.mk ((by rw [hg];exact (aM tB):w.heap.size ≤ gb175));clear HB;have HB:=n0_;have BK175:=n1_;have GW175:=n2_;have GE175:=n3_;clear n0_ n1_ n2_ n3_;clear hb hbox hg)|((with_reducible refine aX (N:=3) rfl ?_);refine aW ?hg (N:=3) ?hd (cs:=#[.slice A1_0 l1_0.length c1_0,.slice A1_1 l1_1.length c1_1]) (t:=29) ?hr ?_;(case hd=>rfl);(case hg=>rfl);(case hr=>exact tP);intro gb176 hg w14 hbox hb;have n0_:=aA.mk (aG (g:=gb175) (o:=.cells #[.slice A0_0 l0_0.length c0_0,.slice A0_1 l0_1.length c0_1] 29 (0,0)) tY hb);have n1_:=aA.mk (aJ tX hb);have n2_:=aA.mk (hbox);have n3_:=aA.mk ((by rw [hg];exact (aM tX):w.heap.size ≤ gb176));have n4_:=aA.mk ((by rw [hg];exact (aM tX):w.heap.size ≤ gb176));have n5_:=aA.mk ((by rw [hg];exact Nat.ne_of_lt (aY (g:=gb175) (o:=.cells #[.slice A0_0 l0_0.length c0_0,.slice A0_1 l0_1.length c0_1] 29 (0,0)) tY):gb175 ≠ gb176));have n6_:=aA.mk ((by rw [hg];exact Nat.ne_of_gt (aY (g:=gb175) (o:=.cells #[.slice A0_0 l0_0.length c0_0,.slice A0_1 l0_1.length c0_1] 29 (0,0)) tY):gb176 ≠ gb175));clear BK175;clear HB;have BK175:=n0_;have HB:=n1_;have BK176:=n2_;have GW176:=n3_;have GE176:=n4_;have NB175_176:=n5_;have NB176_175:=n6_;clear n0_ n1_ n2_ n3_ n4_ n5_ n6_;clear hb hbox hg;have hnb15:=NB175_176.out;have hnc15:=NB176_175.out;have hcz16_0:w14.cell? ⟨gb175,0,none⟩ = some (.slice A0_0 l0_0.length c0_0):=(aB BK175.out 0).trans rfl;have hcz16_1:w14.cell? ⟨gb175,1,none⟩ = some (.slice A0_1 l0_1.length c0_1):=(aB BK175.out 1).trans rfl;have hfz16_0:=aC BK175.out 0;have hfz16_1:=aC BK175.out 1;have hcz17_0:w14.cell? ⟨gb176,0,none⟩ = some (.slice A1_0 l1_0.length c1_0):=(aB BK176.out 0).trans rfl;have hcz17_1:w14.cell? ⟨gb176,1,none⟩ = some (.slice A1_1 l1_1.length c1_1):=(aB BK176.out 1).trans rfl;have hfz17_0:=aC BK176.out 0;have hfz17_1:=aC BK176.out 1)|((with_reducible refine aT (f:=34) rfl ?_);refine goesL_ (some 9) rfl rfl Try.func34 tF rfl #[.slice A0_0 l0_0.length c0_0,.slice A1_0 l1_0.length c1_0] rfl tA ?_;(with_reducible refine (laws_eqIntS.calls k _ _ l0_0 _ _ l1_0 true _ ?side1 ?side2 ?side3 ?side4 A3.out).mono ?_);(case side1=>exact tL);(case side2=>exact HC0_0.out);(case side3=>exact tr);(case side4=>exact HC1_0.out);rintro e w' ⟨rfl,⟨nd,rfl⟩⟩;refine ⟨_,rfl,?_⟩)|((with_reducible refine aT (f:=35) rfl ?_);refine goesL_ (some 15) rfl rfl Try.func35 tF rfl #[.slice A0_1 l0_1.length c0_1,.slice A1_1 l1_1.length c1_1] rfl tA ?_;(with_reducible refine (laws_eqNodeS.calls k _ _ l0_1 _ _ l1_1 false _ ?side1 ?side2 ?side3 ?side4 A5.out).mono ?_);(case side1=>repeat (first|exact (Kd.aV HR0_1.out tc)|(with_reducible refine Kd.C_alloc ?_ _)|(with_reducible refine Kd.C_drewN ?_ _)|(with_reducible refine Kd.C_drew ?_)));(case side2=>exact HC0_1.out);(case side3=>repeat (first|exact (Kd.aV HR1_1.out tc)|(with_reducible refine Kd.C_alloc ?_ _)|(with_reducible refine Kd.C_drewN ?_ _)|(with_reducible refine Kd.C_drew ?_)));(case side4=>exact HC1_1.out);rintro e w18 ⟨rfl,hb⟩;refine ⟨_,rfl,?_⟩;have n0_:=aA.mk (aG (g:=gb175) (o:=.cells #[.slice A0_0 l0_0.length c0_0,.slice A0_1 l0_1.length c0_1] 29 (0,0)) tY hb);have n1_:=aA.mk (aG (g:=gb176) (o:=.cells #[.slice A1_0 l1_0.length c1_0,.slice A1_1 l1_1.length c1_1] 29 (0,0)) (by (with_reducible repeat (first|refine aN ?_ _|refine aL ?_|refine aP ?_ _));exact BK176.out) hb);have n2_:=aA.mk (aJ tc hb);clear BK175;clear BK176;clear HB;have BK175:=n0_;have BK176:=n1_;have HB:=n2_;clear n0_ n1_ n2_;(try clear hb)))
   go_ret
   exact vQ
 ·replace c4:=Bool.eq_false_iff.mpr c4
  subst c4
  have H1:(some false) = some r:=by rw [if_neg (show ¬ (false = true) by decide)] at H;exact H
  clear H
  have H:=H1
  clear H1
  obtain rfl:=Option.some.inj H
  go_enter Try.func10,Try.ntmps10
  go_wp2_with (first|((with_reducible refine aX (N:=2) rfl ?_);refine aW ?hg (N:=2) ?hd (cs:=#[.slice A0_0 l0_0.length c0_0,.slice A0_1 l0_1.length c0_1]) (t:=29) ?hr ?_;(case hd=>rfl);(case hg=>rfl);(case hr=>exact tP);intro gb175 hg w19 hbox hb;have n0_:=aA.mk (aJ tB hb);have n1_:=aA.mk (hbox);have n2_:=aA.mk ((by rw [hg];exact (aM tB):w.heap.size ≤ gb175));have n3_:=aA.mk ((by rw [hg];exact (aM tB):w.heap.size ≤ gb175));clear HB;have HB:=n0_;have BK175:=n1_;have GW175:=n2_;have GE175:=n3_;clear n0_ n1_ n2_ n3_;clear hb hbox hg)|((with_reducible refine aX (N:=3) rfl ?_);refine aW ?hg (N:=3) ?hd (cs:=#[.slice A1_0 l1_0.length c1_0,.slice A1_1 l1_1.length c1_1]) (t:=29) ?hr ?_;(case hd=>rfl);(case hg=>rfl);(case hr=>exact tP);intro gb176 hg w20 hbox hb;have n0_:=aA.mk (aG (g:=gb175) (o:=.cells #[.slice A0_0 l0_0.length c0_0,.slice A0_1 l0_1.length c0_1] 29 (0,0)) tY hb);have n1_:=aA.mk (aJ tX hb);have n2_:=aA.mk (hbox);have n3_:=aA.mk ((by rw [hg];exact (aM tX):w.heap.size ≤ gb176));have n4_:=aA.mk ((by rw [hg];exact (aM tX):w.heap.size ≤ gb176));have n5_:=aA.mk ((by rw [hg];exact Nat.ne_of_lt (aY (g:=gb175) (o:=.cells #[.slice A0_0 l0_0.length c0_0,.slice A0_1 l0_1.length c0_1] 29 (0,0)) tY):gb175 ≠ gb176));have n6_:=aA.mk ((by rw [hg];exact Nat.ne_of_gt (aY (g:=gb175) (o:=.cells #[.slice A0_0 l0_0.length c0_0,.slice A0_1 l0_1.length c0_1] 29 (0,0)) tY):gb176 ≠ gb175));clear BK175;clear HB;have BK175:=n0_;have HB:=n1_;have BK176:=n2_;have GW176:=n3_;have GE176:=n4_;have NB175_176:=n5_;have NB176_175:=n6_;clear n0_ n1_ n2_ n3_ n4_ n5_ n6_;clear hb hbox hg;have hnb21:=NB175_176.out;have hnc21:=NB176_175.out;have hcz22_0:w20.cell? ⟨gb175,0,none⟩ = some (.slice A0_0 l0_0.length c0_0):=(aB BK175.out 0).trans rfl;have hcz22_1:w20.cell? ⟨gb175,1,none⟩ = some (.slice A0_1 l0_1.length c0_1):=(aB BK175.out 1).trans rfl;have hfz22_0:=aC BK175.out 0;have hfz22_1:=aC BK175.out 1;have hcz23_0:w20.cell? ⟨gb176,0,none⟩ = some (.slice A1_0 l1_0.length c1_0):=(aB BK176.out 0).trans rfl;have hcz23_1:w20.cell? ⟨gb176,1,none⟩ = some (.slice A1_1 l1_1.length c1_1):=(aB BK176.out 1).trans rfl;have hfz23_0:=aC BK176.out 0;have hfz23_1:=aC BK176.out 1)|((with_reducible refine aT (f:=34) rfl ?_);refine goesL_ (some 9) rfl rfl Try.func34 tF rfl #[.slice A0_0 l0_0.length c0_0,.slice A1_0 l1_0.length c1_0] rfl tA ?_;(with_reducible refine (laws_eqIntS.calls k _ _ l0_0 _ _ l1_0 false _ ?side1 ?side2 ?side3 ?side4 A3.out).mono ?_);(case side1=>exact tL);(case side2=>exact HC0_0.out);(case side3=>exact tr);(case side4=>exact HC1_0.out);rintro e w' ⟨rfl,⟨nd,rfl⟩⟩;refine ⟨_,rfl,?_⟩))
  go_ret
  exact vQ
def laws_markIntS.l0:Nat → List Int → Int → Int → Option (Int × List Int)
 | 0,_,_,_=>none
 | k + 1,x0,x1,x5=>if x5 < (x0.length:Int) then (if 0 ≤ x5 then (laws_markIntS.l0 k (x0.set (x5:Int).toNat x1) (wrap64 (x1 + 1)) (wrap64 (x5 + 1))) else (none)) else (some (x1,x0))
def laws_markIntS.f (k:Nat) (l0:List Int) (a1:Int):Option (Int × List Int):=laws_markIntS.l0 k l0 a1 0
set_option maxHeartbeats 8000000 in
set_option maxRecDepth 100000 in
theorem laws_markIntS.calls (k:Nat) (P0_:Nat → Prop) (u9000_:Value) (l0:List Int) (a1:Int) (r1:Int) (r2:List Int) (w0 w:World) (hB:Below w0.heap.size w0 w) (ho0:Kd.R (Kd.int .i64) 3 w w0.heap.size P0_ u9000_ l0) (h:laws_markIntS.f k l0 a1 = some (r1,r2)) :
  Calls Try.prog 36 #[u9000_,.int .i64 a1] w fun e w'=>e = .returned (.int .i64 r1) ∧ Kd.R (Kd.int .i64) 3 w' w0.heap.size (fun k_=>(P0_ k_ ∨ w.heap.size ≤ k_)) u9000_ r2 ∧ Below w0.heap.size w0 w' ∧ Kept w w' (fun k_=>P0_ k_):=by
 have HO0:=aA.mk (show Kd.R (Kd.int .i64) 3 w w0.heap.size (fun k_=>(P0_ k_ ∨ w.heap.size ≤ k_)) u9000_ l0 from Kd.R_mono ho0 (fun k_ hk=>(.inl hk)))
 have HK:=aA.mk (Kept.refl w (fun k_=>P0_ k_))
 have HW0:=aA.mk hB.size
 have HB:=aA.mk hB
 clear hB
 have H:(laws_markIntS.l0 k l0 a1 0) = some (r1,r2):=h
 clear h
 have H':=aA.mk H
 clear H
 go_enter Try.func36,Try.ntmps36
 go_wp2
 go_loopg [1,5] k (fun kq v1 v5 w'=>∃ (x0_1:List Int) (x1_1:Int) (x5_1:Int),v1 = .int .i64 x1_1 ∧ v5 = .int .i64 x5_1 ∧ aA (laws_markIntS.l0 kq x0_1 x1_1 x5_1 = some (r1,r2)) ∧ aA (kq ≤ k) ∧ aA (Kd.R (Kd.int .i64) 3 w' w0.heap.size (fun k_=>(P0_ k_ ∨ w.heap.size ≤ k_)) u9000_ x0_1) ∧ aA (Kept w w' (fun k_=>P0_ k_)) ∧ aA (Below w0.heap.size w0 w'))
 case atStart=>exact ⟨(l0),(a1),(0),tK,tK,H',⟨Nat.le_refl _⟩,⟨by (with_reducible repeat (first|apply Kd.R_alloc|apply Kd.R_drewN|apply Kd.R_drew));exact HO0.out⟩,⟨vC⟩,⟨tN⟩⟩
 case round =>
  clear H'
  try clear p2
  obtain ⟨x0_1,x1_1,x5_1,rfl,rfl,HA,HK1,HO_0,HK,HB⟩:=hrel
  cases gk with
  | zero=>exact absurd HA.out (by simp [laws_markIntS.l0])
  | succ k1 =>
   have H:=HA.out
   clear HA
   simp only [laws_markIntS.l0] at H
   by_cases c3:x5_1 < (x0_1.length:Int)
   ·rw [if_pos c3] at H
    have c3b0:decide (x5_1 < (x0_1.length:Int)) = true:=decide_eq_true c3
    clear c3
    by_cases c4:0 ≤ x5_1
    ·rw [if_pos c4] at H
     have c4b0:decide (0 ≤ x5_1) = true:=decide_eq_true c4
     clear c4
     obtain ⟨y179,hy179⟩:∃ y_:List Int,y_ = (x0_1.set (x5_1:Int).toNat x1_1):=⟨_,rfl⟩
     replace H:(laws_markIntS.l0 k1 y179 (wrap64 (x1_1 + 1)) (wrap64 (x5_1 + 1))) = some (r1,r2):=by first|(rw [hy179];with_reducible exact H)|(have H2_:=(Option.bind_some _ _).symm.trans H;rw [hy179];with_reducible exact H2_)|(have H2_:=(Option.bind_some _ _).symm.trans H;with_reducible exact H2_)|with_reducible exact H|(rw [hy179];exact H)|exact H
     have Ny179:=aA.mk hy179
     clear hy179
     have H':=aA.mk H
     clear H
     obtain ⟨Ao6,co6,eo6⟩:=Kd.R_slice HO_0.out
     subst eo6
     have p5:0 ≤ (x5_1:Int):=lE tC
     have q5:(x5_1:Int) < ((x0_1.length:Int):Int):=lE tC
     obtain ⟨go5,co5,eo5,gb5,gl5,cl5,HG5⟩:=Kd.R_form HO_0.out tD
     (first|cases eo5|(injection eo5 with ea_ en_ ec_;(first|subst ea_|(injection ea_ with ea_;subst ea_));subst ec_;clear en_))
     have GB5:=aA.mk gb5
     have GG5:=aA.mk HG5
     clear gb5 gl5 HG5
     have HMgo5:=aA.mk (show (P0_ go5 ∨ w.heap.size ≤ go5) from (HO_0.out.1 _ rfl))
     obtain ⟨hx5_0,hf5_0⟩:=Kd.R_celln 0 HO_0.out (x5_1:Int) p5 q5
     replace p5:=eq_true p5
     replace q5:=eq_true q5
     have HP7:=Kd.R_putg HO_0.out (x5_1:Int) x1_1
     go_wp2_with (first|((with_reducible refine gate_store (t:=3) (p:=15) rfl ?_);refine store_event (t:=3) (p:=15) (v:=?vo_w8) (w1:=(wr.setCell ⟨go5,(x5_1:Int).toNat,none⟩ (.int .i64 x1_1))) ?hg ?ho ?hn ?hr ?_;(case ho=>rfl);(case hg=>rfl);(case hn=>rfl);(case hr=>exact tP);intro w8 hw;have hg:wr.grownBy w8 (some go5):=(by rw [hw];exact HP7.2);have hp_:Kd.R (Kd.int .i64) 3 w8 w0.heap.size (fun k_=>(P0_ k_ ∨ w.heap.size ≤ k_)) (.slice (some ⟨go5,0,none⟩) x0_1.length co6) y179:=(by rw [hw,Ny179.out];exact HP7.1);clear HP7;have n0_:=aA.mk (hp_);have n1_:=aA.mk ((by rw [hw];exact aH (HB.out) GB5.out:Below w0.heap.size w0 w8));have n2_:=aA.mk (Kept.of_grown (S:=(fun k_=>P0_ k_)) hg tu (fun k_ e_=>(HO_0.out.1 k_ e_)));clear HO_0;clear HB;clear HK;have HO_0:=n0_;have HB:=n1_;have HK:=n2_;clear n0_ n1_ n2_;clear hg hw hp_))
     go_roundg k1
     case measure=>have:=HK1.out;omega
     case rel=>exact ⟨(y179),(wrap64 (x1_1 + 1)),(wrap64 (x5_1 + 1)),tK,tK,H',⟨vM⟩,⟨vT⟩,⟨vC⟩,⟨tN⟩⟩
    ·rw [if_neg c4] at H
     exact vX
   ·rw [if_neg c3] at H
    have c3b0:decide (x5_1 < (x0_1.length:Int)) = false:=decide_eq_false c3
    clear c3
    simp only [Option.some.injEq,Prod.mk.injEq] at H
    obtain ⟨rfl,rfl⟩:=H
    obtain ⟨Ao9,co9,eo9⟩:=Kd.R_slice HO_0.out
    subst eo9
    go_wp2
    go_ret
    exact ⟨tG,vT,tN,vC⟩
def laws_markKeyS.l0:Nat → List (S38) → Int → Int → Option (Int × (List (S38)))
 | 0,_,_,_=>none
 | k + 1,x0,x1,x5=>if x5 < (x0.length:Int) then (if 0 ≤ x5 then ((some (x0.set (x5:Int).toNat (⟨x1,(rd_T38 x0 x5).f1,(rd_T38 x0 x5).f2,(rd_T38 x0 x5).f3,(rd_T38 x0 x5).f4⟩:S38):List (S38))).bind fun y180=>((some (y180.set (x5:Int).toNat (⟨(rd_T38 y180 x5).f0,wrap64 (x1 + 1),(rd_T38 y180 x5).f2,(rd_T38 y180 x5).f3,(rd_T38 y180 x5).f4⟩:S38):List (S38))).bind fun y181=>((some (y181.set (x5:Int).toNat (⟨(rd_T38 y181 x5).f0,(rd_T38 y181 x5).f1,wrap64 ((wrap64 (x1 + 1)) + 1),(rd_T38 y181 x5).f3,(rd_T38 y181 x5).f4⟩:S38):List (S38))).bind fun y182=>((some (y182.set (x5:Int).toNat (⟨(rd_T38 y182 x5).f0,(rd_T38 y182 x5).f1,(rd_T38 y182 x5).f2,wrap64 ((wrap64 ((wrap64 (x1 + 1)) + 1)) + 1),(rd_T38 y182 x5).f4⟩:S38):List (S38))).bind fun y183=>(laws_markKeyS.l0 k (y183.set (x5:Int).toNat (⟨(rd_T38 y183 x5).f0,(rd_T38 y183 x5).f1,(rd_T38 y183 x5).f2,(rd_T38 y183 x5).f3,wrap64 ((wrap64 ((wrap64 ((wrap64 (x1 + 1)) + 1)) + 1)) + 1)⟩:S38)) (wrap64 ((wrap64 ((wrap64 ((wrap64 ((wrap64 (x1 + 1)) + 1)) + 1)) + 1)) + 1)) (wrap64 (x5 + 1))))))) else (none)) else (some (x1,x0))
def laws_markKeyS.f (k:Nat) (l0:List (S38)) (a1:Int):Option (Int × (List (S38))):=laws_markKeyS.l0 k l0 a1 0
set_option maxHeartbeats 8000000 in
set_option maxRecDepth 100000 in
theorem laws_markKeyS.calls (k:Nat) (P0_:Nat → Prop) (u9000_:Value) (l0:List (S38)) (a1:Int) (r1:Int) (r2:List (S38)) (w0 w:World) (hB:Below w0.heap.size w0 w) (ho0:Kd.R k38 38 w w0.heap.size P0_ u9000_ l0) (h:laws_markKeyS.f k l0 a1 = some (r1,r2)) :
  Calls Try.prog 95 #[u9000_,.int .i64 a1] w fun e w'=>e = .returned (.int .i64 r1) ∧ Kd.R k38 38 w' w0.heap.size (fun k_=>(P0_ k_ ∨ w.heap.size ≤ k_)) u9000_ r2 ∧ Below w0.heap.size w0 w' ∧ Kept w w' (fun k_=>P0_ k_):=by
 have HO0:=aA.mk (show Kd.R k38 38 w w0.heap.size (fun k_=>(P0_ k_ ∨ w.heap.size ≤ k_)) u9000_ l0 from Kd.R_mono ho0 (fun k_ hk=>(.inl hk)))
 have HK:=aA.mk (Kept.refl w (fun k_=>P0_ k_))
 have HW0:=aA.mk hB.size
 have HB:=aA.mk hB
 clear hB
 have H:(laws_markKeyS.l0 k l0 a1 0) = some (r1,r2):=h
 clear h
 have H':=aA.mk H
 clear H
 go_enter Try.func95,Try.ntmps95
 go_wp2
 go_loopg [1,5] k (fun kq v1 v5 w'=>∃ (x0_1:List (S38)) (x1_1:Int) (x5_1:Int),v1 = .int .i64 x1_1 ∧ v5 = .int .i64 x5_1 ∧ aA (laws_markKeyS.l0 kq x0_1 x1_1 x5_1 = some (r1,r2)) ∧ aA (kq ≤ k) ∧ aA (Kd.R k38 38 w' w0.heap.size (fun k_=>(P0_ k_ ∨ w.heap.size ≤ k_)) u9000_ x0_1) ∧ aA (Kept w w' (fun k_=>P0_ k_)) ∧ aA (Below w0.heap.size w0 w'))
 case atStart=>exact ⟨(l0),(a1),(0),tK,tK,H',⟨Nat.le_refl _⟩,⟨by (with_reducible repeat (first|apply Kd.R_alloc|apply Kd.R_drewN|apply Kd.R_drew));exact HO0.out⟩,⟨vC⟩,⟨tN⟩⟩
 case round =>
  clear H'
  try clear p2
  obtain ⟨x0_1,x1_1,x5_1,rfl,rfl,HA,HK1,HO_0,HK,HB⟩:=hrel
  cases gk with
  | zero=>exact absurd HA.out (by simp [laws_markKeyS.l0])
  | succ k1 =>
   have H:=HA.out
   clear HA
   simp only [laws_markKeyS.l0] at H
   by_cases c3:x5_1 < (x0_1.length:Int)
   ·rw [if_pos c3] at H
    have c3b0:decide (x5_1 < (x0_1.length:Int)) = true:=decide_eq_true c3
    clear c3
    by_cases c4:0 ≤ x5_1
    ·rw [if_pos c4] at H
     have c4b0:decide (0 ≤ x5_1) = true:=decide_eq_true c4
     clear c4
     obtain ⟨y180,hy180⟩:∃ y_:List (S38),y_ = (x0_1.set (x5_1:Int).toNat (⟨x1_1,(rd_T38 x0_1 x5_1).f1,(rd_T38 x0_1 x5_1).f2,(rd_T38 x0_1 x5_1).f3,(rd_T38 x0_1 x5_1).f4⟩:S38)):=⟨_,rfl⟩
     replace H:((some (y180.set (x5_1:Int).toNat (⟨(rd_T38 y180 x5_1).f0,wrap64 (x1_1 + 1),(rd_T38 y180 x5_1).f2,(rd_T38 y180 x5_1).f3,(rd_T38 y180 x5_1).f4⟩:S38):List (S38))).bind fun y181=>((some (y181.set (x5_1:Int).toNat (⟨(rd_T38 y181 x5_1).f0,(rd_T38 y181 x5_1).f1,wrap64 ((wrap64 (x1_1 + 1)) + 1),(rd_T38 y181 x5_1).f3,(rd_T38 y181 x5_1).f4⟩:S38):List (S38))).bind fun y182=>((some (y182.set (x5_1:Int).toNat (⟨(rd_T38 y182 x5_1).f0,(rd_T38 y182 x5_1).f1,(rd_T38 y182 x5_1).f2,wrap64 ((wrap64 ((wrap64 (x1_1 + 1)) + 1)) + 1),(rd_T38 y182 x5_1).f4⟩:S38):List (S38))).bind fun y183=>(laws_markKeyS.l0 k1 (y183.set (x5_1:Int).toNat (⟨(rd_T38 y183 x5_1).f0,(rd_T38 y183 x5_1).f1,(rd_T38 y183 x5_1).f2,(rd_T38 y183 x5_1).f3,wrap64 ((wrap64 ((wrap64 ((wrap64 (x1_1 + 1)) + 1)) + 1)) + 1)⟩:S38)) (wrap64 ((wrap64 ((wrap64 ((wrap64 ((wrap64 (x1_1 + 1)) + 1)) + 1)) + 1)) + 1)) (wrap64 (x5_1 + 1)))))) = some (r1,r2):=by first|(rw [hy180];with_reducible exact H)|(have H2_:=(Option.bind_some _ _).symm.trans H;rw [hy180];with_reducible exact H2_)|(have H2_:=(Option.bind_some _ _).symm.trans H;with_reducible exact H2_)|with_reducible exact H|(rw [hy180];exact H)|exact H
     have Ny180:=aA.mk hy180
     clear hy180
     obtain ⟨y181,hy181⟩:∃ y_:List (S38),y_ = (y180.set (x5_1:Int).toNat (⟨(rd_T38 y180 x5_1).f0,wrap64 (x1_1 + 1),(rd_T38 y180 x5_1).f2,(rd_T38 y180 x5_1).f3,(rd_T38 y180 x5_1).f4⟩:S38)):=⟨_,rfl⟩
     replace H:((some (y181.set (x5_1:Int).toNat (⟨(rd_T38 y181 x5_1).f0,(rd_T38 y181 x5_1).f1,wrap64 ((wrap64 (x1_1 + 1)) + 1),(rd_T38 y181 x5_1).f3,(rd_T38 y181 x5_1).f4⟩:S38):List (S38))).bind fun y182=>((some (y182.set (x5_1:Int).toNat (⟨(rd_T38 y182 x5_1).f0,(rd_T38 y182 x5_1).f1,(rd_T38 y182 x5_1).f2,wrap64 ((wrap64 ((wrap64 (x1_1 + 1)) + 1)) + 1),(rd_T38 y182 x5_1).f4⟩:S38):List (S38))).bind fun y183=>(laws_markKeyS.l0 k1 (y183.set (x5_1:Int).toNat (⟨(rd_T38 y183 x5_1).f0,(rd_T38 y183 x5_1).f1,(rd_T38 y183 x5_1).f2,(rd_T38 y183 x5_1).f3,wrap64 ((wrap64 ((wrap64 ((wrap64 (x1_1 + 1)) + 1)) + 1)) + 1)⟩:S38)) (wrap64 ((wrap64 ((wrap64 ((wrap64 ((wrap64 (x1_1 + 1)) + 1)) + 1)) + 1)) + 1)) (wrap64 (x5_1 + 1))))) = some (r1,r2):=by first|(rw [hy181];with_reducible exact H)|(have H2_:=(Option.bind_some _ _).symm.trans H;rw [hy181];with_reducible exact H2_)|(have H2_:=(Option.bind_some _ _).symm.trans H;with_reducible exact H2_)|with_reducible exact H|(rw [hy181];exact H)|exact H
     have Ny181:=aA.mk hy181
     clear hy181
     obtain ⟨y182,hy182⟩:∃ y_:List (S38),y_ = (y181.set (x5_1:Int).toNat (⟨(rd_T38 y181 x5_1).f0,(rd_T38 y181 x5_1).f1,wrap64 ((wrap64 (x1_1 + 1)) + 1),(rd_T38 y181 x5_1).f3,(rd_T38 y181 x5_1).f4⟩:S38)):=⟨_,rfl⟩
     replace H:((some (y182.set (x5_1:Int).toNat (⟨(rd_T38 y182 x5_1).f0,(rd_T38 y182 x5_1).f1,(rd_T38 y182 x5_1).f2,wrap64 ((wrap64 ((wrap64 (x1_1 + 1)) + 1)) + 1),(rd_T38 y182 x5_1).f4⟩:S38):List (S38))).bind fun y183=>(laws_markKeyS.l0 k1 (y183.set (x5_1:Int).toNat (⟨(rd_T38 y183 x5_1).f0,(rd_T38 y183 x5_1).f1,(rd_T38 y183 x5_1).f2,(rd_T38 y183 x5_1).f3,wrap64 ((wrap64 ((wrap64 ((wrap64 (x1_1 + 1)) + 1)) + 1)) + 1)⟩:S38)) (wrap64 ((wrap64 ((wrap64 ((wrap64 ((wrap64 (x1_1 + 1)) + 1)) + 1)) + 1)) + 1)) (wrap64 (x5_1 + 1)))) = some (r1,r2):=by first|(rw [hy182];with_reducible exact H)|(have H2_:=(Option.bind_some _ _).symm.trans H;rw [hy182];with_reducible exact H2_)|(have H2_:=(Option.bind_some _ _).symm.trans H;with_reducible exact H2_)|with_reducible exact H|(rw [hy182];exact H)|exact H
     have Ny182:=aA.mk hy182
     clear hy182
     obtain ⟨y183,hy183⟩:∃ y_:List (S38),y_ = (y182.set (x5_1:Int).toNat (⟨(rd_T38 y182 x5_1).f0,(rd_T38 y182 x5_1).f1,(rd_T38 y182 x5_1).f2,wrap64 ((wrap64 ((wrap64 (x1_1 + 1)) + 1)) + 1),(rd_T38 y182 x5_1).f4⟩:S38)):=⟨_,rfl⟩
     replace H:(laws_markKeyS.l0 k1 (y183.set (x5_1:Int).toNat (⟨(rd_T38 y183 x5_1).f0,(rd_T38 y183 x5_1).f1,(rd_T38 y183 x5_1).f2,(rd_T38 y183 x5_1).f3,wrap64 ((wrap64 ((wrap64 ((wrap64 (x1_1 + 1)) + 1)) + 1)) + 1)⟩:S38)) (wrap64 ((wrap64 ((wrap64 ((wrap64 ((wrap64 (x1_1 + 1)) + 1)) + 1)) + 1)) + 1)) (wrap64 (x5_1 + 1))) = some (r1,r2):=by first|(rw [hy183];with_reducible exact H)|(have H2_:=(Option.bind_some _ _).symm.trans H;rw [hy183];with_reducible exact H2_)|(have H2_:=(Option.bind_some _ _).symm.trans H;with_reducible exact H2_)|with_reducible exact H|(rw [hy183];exact H)|exact H
     have Ny183:=aA.mk hy183
     clear hy183
     obtain ⟨y184,hy184⟩:∃ y_:List (S38),y_ = (y183.set (x5_1:Int).toNat (⟨(rd_T38 y183 x5_1).f0,(rd_T38 y183 x5_1).f1,(rd_T38 y183 x5_1).f2,(rd_T38 y183 x5_1).f3,wrap64 ((wrap64 ((wrap64 ((wrap64 (x1_1 + 1)) + 1)) + 1)) + 1)⟩:S38)):=⟨_,rfl⟩
     replace H:(laws_markKeyS.l0 k1 y184 (wrap64 ((wrap64 ((wrap64 ((wrap64 ((wrap64 (x1_1 + 1)) + 1)) + 1)) + 1)) + 1)) (wrap64 (x5_1 + 1))) = some (r1,r2):=by first|(rw [hy184];with_reducible exact H)|(have H2_:=(Option.bind_some _ _).symm.trans H;rw [hy184];with_reducible exact H2_)|(have H2_:=(Option.bind_some _ _).symm.trans H;with_reducible exact H2_)|with_reducible exact H|(rw [hy184];exact H)|exact H
     have Ny184:=aA.mk hy184
     clear hy184
     have H':=aA.mk H
     clear H
     obtain ⟨Ao10,co10,eo10⟩:=Kd.R_slice HO_0.out
     subst eo10
     have p5:0 ≤ (x5_1:Int):=lE tC
     have q5:(x5_1:Int) < ((x0_1.length:Int):Int):=lE tC
     obtain ⟨go5,co5,eo5,gb5,gl5,cl5,HG5⟩:=Kd.R_form HO_0.out tD
     (first|cases eo5|(injection eo5 with ea_ en_ ec_;(first|subst ea_|(injection ea_ with ea_;subst ea_));subst ec_;clear en_))
     have GB5:=aA.mk gb5
     have GG5:=aA.mk HG5
     clear gb5 gl5 HG5
     have HMgo5:=aA.mk (show (P0_ go5 ∨ w.heap.size ≤ go5) from (HO_0.out.1 _ rfl))
     obtain ⟨ce5,hcl5,hM5,hcc5,hfr5⟩:=Kd.R_elem HO_0.out z38 (x5_1:Int) p5 q5
     obtain rfl:=k38_openM hM5
     have hx5_0:wr.cell? ⟨go5,(x5_1:Int).toNat * 5,none⟩ = some (.int .i64 ((rd_T38 x0_1 x5_1).f0)):=hcc5 0 _ rfl
     have hx5_1:wr.cell? ⟨go5,(x5_1:Int).toNat * 5 + 1,none⟩ = some (.int .i64 ((rd_T38 x0_1 x5_1).f1)):=hcc5 1 _ rfl
     have hx5_2:wr.cell? ⟨go5,(x5_1:Int).toNat * 5 + 2,none⟩ = some (.int .i64 ((rd_T38 x0_1 x5_1).f2)):=hcc5 2 _ rfl
     have hx5_3:wr.cell? ⟨go5,(x5_1:Int).toNat * 5 + 3,none⟩ = some (.int .i64 ((rd_T38 x0_1 x5_1).f3)):=hcc5 3 _ rfl
     have hx5_4:wr.cell? ⟨go5,(x5_1:Int).toNat * 5 + 4,none⟩ = some (.int .i64 ((rd_T38 x0_1 x5_1).f4)):=hcc5 4 _ rfl
     have hf5_0:wr.frozen? ⟨go5,(x5_1:Int).toNat * 5,none⟩ = false:=hfr5 0
     have hf5_1:wr.frozen? ⟨go5,(x5_1:Int).toNat * 5 + 1,none⟩ = false:=hfr5 1
     have hf5_2:wr.frozen? ⟨go5,(x5_1:Int).toNat * 5 + 2,none⟩ = false:=hfr5 2
     have hf5_3:wr.frozen? ⟨go5,(x5_1:Int).toNat * 5 + 3,none⟩ = false:=hfr5 3
     have hf5_4:wr.frozen? ⟨go5,(x5_1:Int).toNat * 5 + 4,none⟩ = false:=hfr5 4
     clear hcl5 hcc5 hfr5 hM5
     replace p5:=eq_true p5
     replace q5:=eq_true q5
     have HX11:=aA.mk (show Kd.R k38 38 wr w0.heap.size (fun k_=>(P0_ k_ ∨ w.heap.size ≤ k_)) (.slice (some ⟨go5,0,none⟩) x0_1.length co10) x0_1 from vH)
     obtain ⟨ce11,hcl11,hM11,hcc11,hfr11⟩:=Kd.R_elem HX11.out z38 (x5_1:Int) (lE tC) tW
     obtain rfl:=k38_openM hM11
     have HP11:=Kd.R_seg HX11.out (x5_1:Int) (lE tC) tW (seg:=[.int .i64 x1_1]) (j:=0) hcl11 hcc11 (show 1 ≤ 5 from by decide) (x':=(⟨x1_1,(rd_T38 x0_1 x5_1).f1,(rd_T38 x0_1 x5_1).f2,(rd_T38 x0_1 x5_1).f3,(rd_T38 x0_1 x5_1).f4⟩:S38)) (k38_mkM _ _ _ (⟨x1_1,(rd_T38 x0_1 x5_1).f1,(rd_T38 x0_1 x5_1).f2,(rd_T38 x0_1 x5_1).f3,(rd_T38 x0_1 x5_1).f4⟩:S38) ) (fun _ hk=>hk)
     have hx11_0:=hcc11 0 _ rfl
     (try simp only [show (k38).sz = 5 from rfl,Nat.mul_one,Nat.add_zero] at hx11_0)
     have hf11_0:=hfr11 0
     (try simp only [show (k38).sz = 5 from rfl,Nat.mul_one,Nat.add_zero] at hf11_0)
     clear hcl11 hcc11 hfr11 hM11
     go_wp2_with (first|((with_reducible refine gate_store (t:=3) (p:=16) rfl ?_);refine store_event (t:=3) (p:=16) (v:=?vo_w12) (w1:=(wr.setCell ⟨go5,(x5_1:Int).toNat * 5,none⟩ (.int .i64 x1_1))) ?hg ?ho ?hn ?hr ?_;(case ho=>rfl);(case hg=>rfl);(case hn=>rfl);(case hr=>exact tP);intro w12 hw;have hg:wr.grownBy w12 (some go5):=(by rw [hw];exact HP11.2);have hp_:Kd.R k38 38 w12 w0.heap.size (fun k_=>(P0_ k_ ∨ w.heap.size ≤ k_)) (.slice (some ⟨go5,0,none⟩) x0_1.length co10) y180:=(by rw [hw,Ny180.out];exact HP11.1);clear HP11;have n0_:=aA.mk (hp_);have n1_:=aA.mk ((by rw [hw];exact aH (HB.out) GB5.out:Below w0.heap.size w0 w12));have n2_:=aA.mk (Kept.of_grown (S:=(fun k_=>P0_ k_)) hg tu (fun k_ e_=>(HO_0.out.1 k_ e_)));clear HO_0;clear HB;clear HK;have HO_0:=n0_;have HB:=n1_;have HK:=n2_;clear n0_ n1_ n2_;clear hg hw hp_;have p6:0 ≤ (x5_1:Int):=lE tC;have q6:(x5_1:Int) < ((x0_1.length:Int):Int):=lE tC;obtain ⟨ce6,hcl6,hM6,hcc6,hfr6⟩:=Kd.R_elem HO_0.out z38 (x5_1:Int) p6 q6;obtain rfl:=k38_openM hM6;have hx6_0:w12.cell? ⟨go5,(x5_1:Int).toNat * 5,none⟩ = some (.int .i64 ((rd_T38 y180 x5_1).f0)):=hcc6 0 _ rfl;have hx6_1:w12.cell? ⟨go5,(x5_1:Int).toNat * 5 + 1,none⟩ = some (.int .i64 ((rd_T38 y180 x5_1).f1)):=hcc6 1 _ rfl;have hx6_2:w12.cell? ⟨go5,(x5_1:Int).toNat * 5 + 2,none⟩ = some (.int .i64 ((rd_T38 y180 x5_1).f2)):=hcc6 2 _ rfl;have hx6_3:w12.cell? ⟨go5,(x5_1:Int).toNat * 5 + 3,none⟩ = some (.int .i64 ((rd_T38 y180 x5_1).f3)):=hcc6 3 _ rfl;have hx6_4:w12.cell? ⟨go5,(x5_1:Int).toNat * 5 + 4,none⟩ = some (.int .i64 ((rd_T38 y180 x5_1).f4)):=hcc6 4 _ rfl;have hf6_0:w12.frozen? ⟨go5,(x5_1:Int).toNat * 5,none⟩ = false:=hfr6 0;have hf6_1:w12.frozen? ⟨go5,(x5_1:Int).toNat * 5 + 1,none⟩ = false:=hfr6 1;have hf6_2:w12.frozen? ⟨go5,(x5_1:Int).toNat * 5 + 2,none⟩ = false:=hfr6 2;have hf6_3:w12.frozen? ⟨go5,(x5_1:Int).toNat * 5 + 3,none⟩ = false:=hfr6 3;have hf6_4:w12.frozen? ⟨go5,(x5_1:Int).toNat * 5 + 4,none⟩ = false:=hfr6 4;(try clear hcl6);(try clear hcc6);(try clear hfr6);(try clear hM6);replace p6:=eq_true p6;replace q6:=eq_true q6;have HX13:=aA.mk (show Kd.R k38 38 w12 w0.heap.size (fun k_=>(P0_ k_ ∨ w.heap.size ≤ k_)) (.slice (some ⟨go5,0,none⟩) x0_1.length co10) y180 from vH);obtain ⟨ce13,hcl13,hM13,hcc13,hfr13⟩:=Kd.R_elem HX13.out z38 (x5_1:Int) (lE tC) tW;obtain rfl:=k38_openM hM13;have HP13:=Kd.R_seg HX13.out (x5_1:Int) (lE tC) tW (seg:=[.int .i64 (wrap64 (x1_1 + 1))]) (j:=1) hcl13 hcc13 (show 2 ≤ 5 from by decide) (x':=(⟨(rd_T38 y180 x5_1).f0,wrap64 (x1_1 + 1),(rd_T38 y180 x5_1).f2,(rd_T38 y180 x5_1).f3,(rd_T38 y180 x5_1).f4⟩:S38)) (k38_mkM _ _ _ (⟨(rd_T38 y180 x5_1).f0,wrap64 (x1_1 + 1),(rd_T38 y180 x5_1).f2,(rd_T38 y180 x5_1).f3,(rd_T38 y180 x5_1).f4⟩:S38) ) (fun _ hk=>hk);have hx13_1:=hcc13 1 _ rfl;(try simp only [show (k38).sz = 5 from rfl,Nat.mul_one,Nat.add_zero] at hx13_1);have hf13_1:=hfr13 1;(try simp only [show (k38).sz = 5 from rfl,Nat.mul_one,Nat.add_zero] at hf13_1);(try clear hcl13);(try clear hcc13);(try clear hfr13);(try clear hM13))|((with_reducible refine gate_store (t:=3) (p:=23) rfl ?_);refine store_event (t:=3) (p:=23) (v:=?vo_w14) (w1:=(w12.setCell ⟨go5,(x5_1:Int).toNat * 5 + 1,none⟩ (.int .i64 (wrap64 (x1_1 + 1))))) ?hg ?ho ?hn ?hr ?_;(case ho=>rfl);(case hg=>rfl);(case hn=>rfl);(case hr=>exact tP);intro w14 hw;have hg:w12.grownBy w14 (some go5):=(by rw [hw];exact HP13.2);have hp_:Kd.R k38 38 w14 w0.heap.size (fun k_=>(P0_ k_ ∨ w.heap.size ≤ k_)) (.slice (some ⟨go5,0,none⟩) x0_1.length co10) y181:=(by rw [hw,Ny181.out];exact HP13.1);clear HP13;have n0_:=aA.mk (hp_);have n1_:=aA.mk ((by rw [hw];exact aH (HB.out) GB5.out:Below w0.heap.size w0 w14));have n2_:=aA.mk (Kept.of_grown (S:=(fun k_=>P0_ k_)) hg tu (fun k_ e_=>(HO_0.out.1 k_ e_)));clear HO_0;clear HB;clear HK;have HO_0:=n0_;have HB:=n1_;have HK:=n2_;clear n0_ n1_ n2_;clear hg hw hp_;have p7:0 ≤ (x5_1:Int):=lE tC;have q7:(x5_1:Int) < ((x0_1.length:Int):Int):=lE tC;obtain ⟨ce7,hcl7,hM7,hcc7,hfr7⟩:=Kd.R_elem HO_0.out z38 (x5_1:Int) p7 q7;obtain rfl:=k38_openM hM7;have hx7_0:w14.cell? ⟨go5,(x5_1:Int).toNat * 5,none⟩ = some (.int .i64 ((rd_T38 y181 x5_1).f0)):=hcc7 0 _ rfl;have hx7_1:w14.cell? ⟨go5,(x5_1:Int).toNat * 5 + 1,none⟩ = some (.int .i64 ((rd_T38 y181 x5_1).f1)):=hcc7 1 _ rfl;have hx7_2:w14.cell? ⟨go5,(x5_1:Int).toNat * 5 + 2,none⟩ = some (.int .i64 ((rd_T38 y181 x5_1).f2)):=hcc7 2 _ rfl;have hx7_3:w14.cell? ⟨go5,(x5_1:Int).toNat * 5 + 3,none⟩ = some (.int .i64 ((rd_T38 y181 x5_1).f3)):=hcc7 3 _ rfl;have hx7_4:w14.cell? ⟨go5,(x5_1:Int).toNat * 5 + 4,none⟩ = some (.int .i64 ((rd_T38 y181 x5_1).f4)):=hcc7 4 _ rfl;have hf7_0:w14.frozen? ⟨go5,(x5_1:Int).toNat * 5,none⟩ = false:=hfr7 0;have hf7_1:w14.frozen? ⟨go5,(x5_1:Int).toNat * 5 + 1,none⟩ = false:=hfr7 1;have hf7_2:w14.frozen? ⟨go5,(x5_1:Int).toNat * 5 + 2,none⟩ = false:=hfr7 2;have hf7_3:w14.frozen? ⟨go5,(x5_1:Int).toNat * 5 + 3,none⟩ = false:=hfr7 3;have hf7_4:w14.frozen? ⟨go5,(x5_1:Int).toNat * 5 + 4,none⟩ = false:=hfr7 4;(try clear hcl7);(try clear hcc7);(try clear hfr7);(try clear hM7);replace p7:=eq_true p7;replace q7:=eq_true q7;have HX15:=aA.mk (show Kd.R k38 38 w14 w0.heap.size (fun k_=>(P0_ k_ ∨ w.heap.size ≤ k_)) (.slice (some ⟨go5,0,none⟩) x0_1.length co10) y181 from vH);obtain ⟨ce15,hcl15,hM15,hcc15,hfr15⟩:=Kd.R_elem HX15.out z38 (x5_1:Int) (lE tC) tW;obtain rfl:=k38_openM hM15;have HP15:=Kd.R_seg HX15.out (x5_1:Int) (lE tC) tW (seg:=[.int .i64 (wrap64 ((wrap64 (x1_1 + 1)) + 1))]) (j:=2) hcl15 hcc15 (show 3 ≤ 5 from by decide) (x':=(⟨(rd_T38 y181 x5_1).f0,(rd_T38 y181 x5_1).f1,wrap64 ((wrap64 (x1_1 + 1)) + 1),(rd_T38 y181 x5_1).f3,(rd_T38 y181 x5_1).f4⟩:S38)) (k38_mkM _ _ _ (⟨(rd_T38 y181 x5_1).f0,(rd_T38 y181 x5_1).f1,wrap64 ((wrap64 (x1_1 + 1)) + 1),(rd_T38 y181 x5_1).f3,(rd_T38 y181 x5_1).f4⟩:S38) ) (fun _ hk=>hk);have hx15_2:=hcc15 2 _ rfl;(try simp only [show (k38).sz = 5 from rfl,Nat.mul_one,Nat.add_zero] at hx15_2);have hf15_2:=hfr15 2;(try simp only [show (k38).sz = 5 from rfl,Nat.mul_one,Nat.add_zero] at hf15_2);(try clear hcl15);(try clear hcc15);(try clear hfr15);(try clear hM15))|((with_reducible refine gate_store (t:=3) (p:=30) rfl ?_);refine store_event (t:=3) (p:=30) (v:=?vo_w16) (w1:=(w14.setCell ⟨go5,(x5_1:Int).toNat * 5 + 2,none⟩ (.int .i64 (wrap64 ((wrap64 (x1_1 + 1)) + 1))))) ?hg ?ho ?hn ?hr ?_;(case ho=>rfl);(case hg=>rfl);(case hn=>rfl);(case hr=>exact tP);intro w16 hw;have hg:w14.grownBy w16 (some go5):=(by rw [hw];exact HP15.2);have hp_:Kd.R k38 38 w16 w0.heap.size (fun k_=>(P0_ k_ ∨ w.heap.size ≤ k_)) (.slice (some ⟨go5,0,none⟩) x0_1.length co10) y182:=(by rw [hw,Ny182.out];exact HP15.1);clear HP15;have n0_:=aA.mk (hp_);have n1_:=aA.mk ((by rw [hw];exact aH (HB.out) GB5.out:Below w0.heap.size w0 w16));have n2_:=aA.mk (Kept.of_grown (S:=(fun k_=>P0_ k_)) hg tu (fun k_ e_=>(HO_0.out.1 k_ e_)));clear HO_0;clear HB;clear HK;have HO_0:=n0_;have HB:=n1_;have HK:=n2_;clear n0_ n1_ n2_;clear hg hw hp_;have p8:0 ≤ (x5_1:Int):=lE tC;have q8:(x5_1:Int) < ((x0_1.length:Int):Int):=lE tC;obtain ⟨ce8,hcl8,hM8,hcc8,hfr8⟩:=Kd.R_elem HO_0.out z38 (x5_1:Int) p8 q8;obtain rfl:=k38_openM hM8;have hx8_0:w16.cell? ⟨go5,(x5_1:Int).toNat * 5,none⟩ = some (.int .i64 ((rd_T38 y182 x5_1).f0)):=hcc8 0 _ rfl;have hx8_1:w16.cell? ⟨go5,(x5_1:Int).toNat * 5 + 1,none⟩ = some (.int .i64 ((rd_T38 y182 x5_1).f1)):=hcc8 1 _ rfl;have hx8_2:w16.cell? ⟨go5,(x5_1:Int).toNat * 5 + 2,none⟩ = some (.int .i64 ((rd_T38 y182 x5_1).f2)):=hcc8 2 _ rfl;have hx8_3:w16.cell? ⟨go5,(x5_1:Int).toNat * 5 + 3,none⟩ = some (.int .i64 ((rd_T38 y182 x5_1).f3)):=hcc8 3 _ rfl;have hx8_4:w16.cell? ⟨go5,(x5_1:Int).toNat * 5 + 4,none⟩ = some (.int .i64 ((rd_T38 y182 x5_1).f4)):=hcc8 4 _ rfl;have hf8_0:w16.frozen? ⟨go5,(x5_1:Int).toNat * 5,none⟩ = false:=hfr8 0;have hf8_1:w16.frozen? ⟨go5,(x5_1:Int).toNat * 5 + 1,none⟩ = false:=hfr8 1;have hf8_2:w16.frozen? ⟨go5,(x5_1:Int).toNat * 5 + 2,none⟩ = false:=hfr8 2;have hf8_3:w16.frozen? ⟨go5,(x5_1:Int).toNat * 5 + 3,none⟩ = false:=hfr8 3;have hf8_4:w16.frozen? ⟨go5,(x5_1:Int).toNat * 5 + 4,none⟩ = false:=hfr8 4;(try clear hcl8);(try clear hcc8);(try clear hfr8);(try clear hM8);replace p8:=eq_true p8;replace q8:=eq_true q8;have HX17:=aA.mk (show Kd.R k38 38 w16 w0.heap.size (fun k_=>(P0_ k_ ∨ w.heap.size ≤ k_)) (.slice (some ⟨go5,0,none⟩) x0_1.length co10) y182 from vH);obtain ⟨ce17,hcl17,hM17,hcc17,hfr17⟩:=Kd.R_elem HX17.out z38 (x5_1:Int) (lE tC) tW;obtain rfl:=k38_openM hM17;have HP17:=Kd.R_seg HX17.out (x5_1:Int) (lE tC) tW (seg:=[.int .i64 (wrap64 ((wrap64 ((wrap64 (x1_1 + 1)) + 1)) + 1))]) (j:=3) hcl17 hcc17 (show 4 ≤ 5 from by decide) (x':=(⟨(rd_T38 y182 x5_1).f0,(rd_T38 y182 x5_1).f1,(rd_T38 y182 x5_1).f2,wrap64 ((wrap64 ((wrap64 (x1_1 + 1)) + 1)) + 1),(rd_T38 y182 x5_1).f4⟩:S38)) (k38_mkM _ _ _ (⟨(rd_T38 y182 x5_1).f0,(rd_T38 y182 x5_1).f1,(rd_T38 y182 x5_1).f2,wrap64 ((wrap64 ((wrap64 (x1_1 + 1)) + 1)) + 1),(rd_T38 y182 x5_1).f4⟩:S38) ) (fun _ hk=>hk);have hx17_3:=hcc17 3 _ rfl;(try simp only [show (k38).sz = 5 from rfl,Nat.mul_one,Nat.add_zero] at hx17_3);have hf17_3:=hfr17 3;(try simp only [show (k38).sz = 5 from rfl,Nat.mul_one,Nat.add_zero] at hf17_3);(try clear hcl17);(try clear hcc17);(try clear hfr17);(try clear hM17))|((with_reducible refine gate_store (t:=3) (p:=37) rfl ?_);refine store_event (t:=3) (p:=37) (v:=?vo_w18) (w1:=(w16.setCell ⟨go5,(x5_1:Int).toNat * 5 + 3,none⟩ (.int .i64 (wrap64 ((wrap64 ((wrap64 (x1_1 + 1)) + 1)) + 1))))) ?hg ?ho ?hn ?hr ?_;(case ho=>rfl);(case hg=>rfl);(case hn=>rfl);(case hr=>exact tP);intro w18 hw;have hg:w16.grownBy w18 (some go5):=(by rw [hw];exact HP17.2);have hp_:Kd.R k38 38 w18 w0.heap.size (fun k_=>(P0_ k_ ∨ w.heap.size ≤ k_)) (.slice (some ⟨go5,0,none⟩) x0_1.length co10) y183:=(by rw [hw,Ny183.out];exact HP17.1);clear HP17;have n0_:=aA.mk (hp_);have n1_:=aA.mk ((by rw [hw];exact aH (HB.out) GB5.out:Below w0.heap.size w0 w18));have n2_:=aA.mk (Kept.of_grown (S:=(fun k_=>P0_ k_)) hg tu (fun k_ e_=>(HO_0.out.1 k_ e_)));clear HO_0;clear HB;clear HK;have HO_0:=n0_;have HB:=n1_;have HK:=n2_;clear n0_ n1_ n2_;clear hg hw hp_;have p9:0 ≤ (x5_1:Int):=lE tC;have q9:(x5_1:Int) < ((x0_1.length:Int):Int):=lE tC;obtain ⟨ce9,hcl9,hM9,hcc9,hfr9⟩:=Kd.R_elem HO_0.out z38 (x5_1:Int) p9 q9;obtain rfl:=k38_openM hM9;have hx9_0:w18.cell? ⟨go5,(x5_1:Int).toNat * 5,none⟩ = some (.int .i64 ((rd_T38 y183 x5_1).f0)):=hcc9 0 _ rfl;have hx9_1:w18.cell? ⟨go5,(x5_1:Int).toNat * 5 + 1,none⟩ = some (.int .i64 ((rd_T38 y183 x5_1).f1)):=hcc9 1 _ rfl;have hx9_2:w18.cell? ⟨go5,(x5_1:Int).toNat * 5 + 2,none⟩ = some (.int .i64 ((rd_T38 y183 x5_1).f2)):=hcc9 2 _ rfl;have hx9_3:w18.cell? ⟨go5,(x5_1:Int).toNat * 5 + 3,none⟩ = some (.int .i64 ((rd_T38 y183 x5_1).f3)):=hcc9 3 _ rfl;have hx9_4:w18.cell? ⟨go5,(x5_1:Int).toNat * 5 + 4,none⟩ = some (.int .i64 ((rd_T38 y183 x5_1).f4)):=hcc9 4 _ rfl;have hf9_0:w18.frozen? ⟨go5,(x5_1:Int).toNat * 5,none⟩ = false:=hfr9 0;have hf9_1:w18.frozen? ⟨go5,(x5_1:Int).toNat * 5 + 1,none⟩ = false:=hfr9 1;have hf9_2:w18.frozen? ⟨go5,(x5_1:Int).toNat * 5 + 2,none⟩ = false:=hfr9 2;have hf9_3:w18.frozen? ⟨go5,(x5_1:Int).toNat * 5 + 3,none⟩ = false:=hfr9 3;have hf9_4:w18.frozen? ⟨go5,(x5_1:Int).toNat * 5 + 4,none⟩ = false:=hfr9 4;(try clear hcl9);(try clear hcc9);(try clear hfr9);(try clear hM9);replace p9:=eq_true p9;replace q9:=eq_true q9;have HX19:=aA.mk (show Kd.R k38 38 w18 w0.heap.size (fun k_=>(P0_ k_ ∨ w.heap.size ≤ k_)) (.slice (some ⟨go5,0,none⟩) x0_1.length co10) y183 from vH);obtain ⟨ce19,hcl19,hM19,hcc19,hfr19⟩:=Kd.R_elem HX19.out z38 (x5_1:Int) (lE tC) tW;obtain rfl:=k38_openM hM19;have HP19:=Kd.R_seg HX19.out (x5_1:Int) (lE tC) tW (seg:=[.int .i64 (wrap64 ((wrap64 ((wrap64 ((wrap64 (x1_1 + 1)) + 1)) + 1)) + 1))]) (j:=4) hcl19 hcc19 (show 5 ≤ 5 from by decide) (x':=(⟨(rd_T38 y183 x5_1).f0,(rd_T38 y183 x5_1).f1,(rd_T38 y183 x5_1).f2,(rd_T38 y183 x5_1).f3,wrap64 ((wrap64 ((wrap64 ((wrap64 (x1_1 + 1)) + 1)) + 1)) + 1)⟩:S38)) (k38_mkM _ _ _ (⟨(rd_T38 y183 x5_1).f0,(rd_T38 y183 x5_1).f1,(rd_T38 y183 x5_1).f2,(rd_T38 y183 x5_1).f3,wrap64 ((wrap64 ((wrap64 ((wrap64 (x1_1 + 1)) + 1)) + 1)) + 1)⟩:S38) ) (fun _ hk=>hk);have hx19_4:=hcc19 4 _ rfl;(try simp only [show (k38).sz = 5 from rfl,Nat.mul_one,Nat.add_zero] at hx19_4);have hf19_4:=hfr19 4;(try simp only [show (k38).sz = 5 from rfl,Nat.mul_one,Nat.add_zero] at hf19_4);(try clear hcl19);(try clear hcc19);(try clear hfr19);(try clear hM19))|((with_reducible refine gate_store (t:=3) (p:=44) rfl ?_);refine store_event (t:=3) (p:=44) (v:=?vo_w20) (w1:=(w18.setCell ⟨go5,(x5_1:Int).toNat * 5 + 4,none⟩ (.int .i64 (wrap64 ((wrap64 ((wrap64 ((wrap64 (x1_1 + 1)) + 1)) + 1)) + 1))))) ?hg ?ho ?hn ?hr ?_;(case ho=>rfl);(case hg=>rfl);(case hn=>rfl);(case hr=>exact tP);intro w20 hw;have hg:w18.grownBy w20 (some go5):=(by rw [hw];exact HP19.2);have hp_:Kd.R k38 38 w20 w0.heap.size (fun k_=>(P0_ k_ ∨ w.heap.size ≤ k_)) (.slice (some ⟨go5,0,none⟩) x0_1.length co10) y184:=(by rw [hw,Ny184.out];exact HP19.1);clear HP19;have n0_:=aA.mk (hp_);have n1_:=aA.mk ((by rw [hw];exact aH (HB.out) GB5.out:Below w0.heap.size w0 w20));have n2_:=aA.mk (Kept.of_grown (S:=(fun k_=>P0_ k_)) hg tu (fun k_ e_=>(HO_0.out.1 k_ e_)));clear HO_0;clear HB;clear HK;have HO_0:=n0_;have HB:=n1_;have HK:=n2_;clear n0_ n1_ n2_;clear hg hw hp_))
     go_roundg k1
     case measure=>have:=HK1.out;omega
     case rel=>exact ⟨(y184),(wrap64 ((wrap64 ((wrap64 ((wrap64 ((wrap64 (x1_1 + 1)) + 1)) + 1)) + 1)) + 1)),(wrap64 (x5_1 + 1)),tK,tK,H',⟨vM⟩,⟨vT⟩,⟨vC⟩,⟨tN⟩⟩
    ·rw [if_neg c4] at H
     exact vX
   ·rw [if_neg c3] at H
    have c3b0:decide (x5_1 < (x0_1.length:Int)) = false:=decide_eq_false c3
    clear c3
    simp only [Option.some.injEq,Prod.mk.injEq] at H
    obtain ⟨rfl,rfl⟩:=H
    obtain ⟨Ao21,co21,eo21⟩:=Kd.R_slice HO_0.out
    subst eo21
    go_wp2
    go_ret
    exact ⟨tG,vT,tN,vC⟩
-- NOT PRINTED: function 72 (laws_markKeySS)
-- NOT PRINTED: function 37 (laws_markNodeS)
-- NOT PRINTED: function 11 (laws_markTree)
def laws_heldIntS.l0:Nat → List Int → Int → Int → Option (Int)
 | 0,_,_,_=>none
 | k + 1,x0,x1,x5=>if x5 < (x0.length:Int) then (if 0 ≤ x5 then (if (rd x0 x5) = x1 then (laws_heldIntS.l0 k x0 (wrap64 (x1 + 1)) (wrap64 (x5 + 1))) else (some (-1))) else (none)) else (some x1)
def laws_heldIntS.f (k:Nat) (l0:List Int) (a1:Int):Option (Int):=laws_heldIntS.l0 k l0 a1 0
set_option maxHeartbeats 8000000 in
set_option maxRecDepth 100000 in
theorem laws_heldIntS.calls (k:Nat) (A0:Option Addr) (c0:Nat) (l0:List Int) (a1:Int) (r:Int) (w:World) (hr0:Kd.C (Kd.int .i64) w A0 l0.length l0) (hc0:l0.length ≤ c0) (h:laws_heldIntS.f k l0 a1 = some r) :
  Calls Try.prog 38 #[.slice A0 l0.length c0,.int .i64 a1] w fun e w'=>e = .returned (.int .i64 r) ∧ aU w w':=by
 have HR0:=aA.mk hr0
 have HC0:=aA.mk hc0
 clear hr0 hc0
 have H:(laws_heldIntS.l0 k l0 a1 0) = some r:=h
 clear h
 have H':=aA.mk H
 clear H
 go_enter Try.func38,Try.ntmps38
 go_wp2
 go_loopg [1,5] k (fun kq v1 v5 w'=>∃ (x1_1:Int) (x5_1:Int),v1 = .int .i64 x1_1 ∧ v5 = .int .i64 x5_1 ∧ aA (laws_heldIntS.l0 kq l0 x1_1 x5_1 = some r) ∧ aA (kq ≤ k) ∧ aU w w')
 case atStart=>exact ⟨(a1),(0),tK,tK,H',⟨Nat.le_refl _⟩,t7⟩
 case round =>
  clear H'
  try clear p2
  obtain ⟨x1_1,x5_1,rfl,rfl,HA,HK1,⟨m1,rfl⟩⟩:=hrel
  cases gk with
  | zero=>exact absurd HA.out (by simp [laws_heldIntS.l0])
  | succ k1 =>
   have H:=HA.out
   clear HA
   simp only [laws_heldIntS.l0] at H
   by_cases c3:x5_1 < (l0.length:Int)
   ·rw [if_pos c3] at H
    have c3b0:decide (x5_1 < (l0.length:Int)) = true:=decide_eq_true c3
    clear c3
    by_cases c4:0 ≤ x5_1
    ·rw [if_pos c4] at H
     have c4b0:decide (0 ≤ x5_1) = true:=decide_eq_true c4
     clear c4
     by_cases c5:(rd l0 x5_1) = x1_1
     ·rw [if_pos c5] at H
      have c5b0:((rd l0 x5_1) == x1_1) = true:=beq_iff_eq.mpr c5
      have c5b1:((rd l0 x5_1) != x1_1) = false:=bne_eq_false_iff_eq.mpr c5
      clear c5
      have H':=aA.mk H
      clear H
      have p190:0 ≤ (x5_1:Int):=lE tC
      have q190:x5_1 < (l0.length:Int):=lE tC
      obtain ⟨ad190,e190,hx190_0⟩:=Kd.at_int HR0.out x5_1 p190 q190
      cases e190
      replace p190:=eq_true p190
      replace q190:=eq_true q190
      go_wp2
      go_roundg k1
      case measure=>have:=HK1.out;omega
      case rel=>exact ⟨(wrap64 (x1_1 + 1)),(wrap64 (x5_1 + 1)),tK,tK,H',⟨vM⟩,t7⟩
     ·rw [if_neg c5] at H
      have c5b0:((rd l0 x5_1) == x1_1) = false:=beq_eq_false_iff_ne.mpr c5
      have c5b1:((rd l0 x5_1) != x1_1) = true:=bne_iff_ne.mpr c5
      obtain rfl:=Option.some.inj H
      have p190:0 ≤ (x5_1:Int):=lE tC
      have q190:x5_1 < (l0.length:Int):=lE tC
      obtain ⟨ad190,e190,hx190_0⟩:=Kd.at_int HR0.out x5_1 p190 q190
      cases e190
      replace p190:=eq_true p190
      replace q190:=eq_true q190
      go_wp2
      go_ret
      exact tR
    ·rw [if_neg c4] at H
     exact vX
   ·rw [if_neg c3] at H
    have c3b0:decide (x5_1 < (l0.length:Int)) = false:=decide_eq_false c3
    clear c3
    obtain rfl:=Option.some.inj H
    go_wp2
    go_ret
    exact tR
def laws_heldKeyS.l0:Nat → List (S38) → Int → Int → Option (Int)
 | 0,_,_,_=>none
 | k + 1,x0,x1,x5=>if x5 < (x0.length:Int) then (if 0 ≤ x5 then (if ((rd_T38 x0 x5).f0) = x1 then (if ((rd_T38 x0 x5).f1) = (wrap64 (x1 + 1)) then (if ((rd_T38 x0 x5).f2) = (wrap64 ((wrap64 (x1 + 1)) + 1)) then (if ((rd_T38 x0 x5).f3) = (wrap64 ((wrap64 ((wrap64 (x1 + 1)) + 1)) + 1)) then (if ((rd_T38 x0 x5).f4) = (wrap64 ((wrap64 ((wrap64 ((wrap64 (x1 + 1)) + 1)) + 1)) + 1)) then (laws_heldKeyS.l0 k x0 (wrap64 ((wrap64 ((wrap64 ((wrap64 ((wrap64 (x1 + 1)) + 1)) + 1)) + 1)) + 1)) (wrap64 (x5 + 1))) else (some (-1))) else (some (-1))) else (some (-1))) else (some (-1))) else (some (-1))) else (none)) else (some x1)
def laws_heldKeyS.f (k:Nat) (l0:List (S38)) (a1:Int):Option (Int):=laws_heldKeyS.l0 k l0 a1 0
set_option maxHeartbeats 8000000 in
set_option maxRecDepth 100000 in
theorem laws_heldKeyS.calls (k:Nat) (A0:Option Addr) (c0:Nat) (l0:List (S38)) (a1:Int) (r:Int) (w:World) (hr0:Kd.C k38 w A0 l0.length l0) (hc0:l0.length ≤ c0) (h:laws_heldKeyS.f k l0 a1 = some r) :
  Calls Try.prog 96 #[.slice A0 l0.length c0,.int .i64 a1] w fun e w'=>e = .returned (.int .i64 r) ∧ aU w w':=by
 have HR0:=aA.mk hr0
 have HC0:=aA.mk hc0
 clear hr0 hc0
 have H:(laws_heldKeyS.l0 k l0 a1 0) = some r:=h
 clear h
 have H':=aA.mk H
 clear H
 go_enter Try.func96,Try.ntmps96
 go_wp2
 go_loopg [1,5] k (fun kq v1 v5 w'=>∃ (x1_1:Int) (x5_1:Int),v1 = .int .i64 x1_1 ∧ v5 = .int .i64 x5_1 ∧ aA (laws_heldKeyS.l0 kq l0 x1_1 x5_1 = some r) ∧ aA (kq ≤ k) ∧ aU w w')
 case atStart=>exact ⟨(a1),(0),tK,tK,H',⟨Nat.le_refl _⟩,t7⟩
 case round =>
  clear H'
  try clear p2
  obtain ⟨x1_1,x5_1,rfl,rfl,HA,HK1,⟨m1,rfl⟩⟩:=hrel
  cases gk with
  | zero=>exact absurd HA.out (by simp [laws_heldKeyS.l0])
  | succ k1 =>
   have H:=HA.out
   clear HA
   simp only [laws_heldKeyS.l0] at H
   by_cases c3:x5_1 < (l0.length:Int)
   ·rw [if_pos c3] at H
    have c3b0:decide (x5_1 < (l0.length:Int)) = true:=decide_eq_true c3
    clear c3
    by_cases c4:0 ≤ x5_1
    ·rw [if_pos c4] at H
     have c4b0:decide (0 ≤ x5_1) = true:=decide_eq_true c4
     clear c4
     by_cases c5:((rd_T38 l0 x5_1).f0) = x1_1
     ·rw [if_pos c5] at H
      have c5b0:(((rd_T38 l0 x5_1).f0) == x1_1) = true:=beq_iff_eq.mpr c5
      have c5b1:(((rd_T38 l0 x5_1).f0) != x1_1) = false:=bne_eq_false_iff_eq.mpr c5
      clear c5
      by_cases c6:((rd_T38 l0 x5_1).f1) = (wrap64 (x1_1 + 1))
      ·rw [if_pos c6] at H
       have c6b0:(((rd_T38 l0 x5_1).f1) == (wrap64 (x1_1 + 1))) = true:=beq_iff_eq.mpr c6
       have c6b1:(((rd_T38 l0 x5_1).f1) != (wrap64 (x1_1 + 1))) = false:=bne_eq_false_iff_eq.mpr c6
       clear c6
       by_cases c7:((rd_T38 l0 x5_1).f2) = (wrap64 ((wrap64 (x1_1 + 1)) + 1))
       ·rw [if_pos c7] at H
        have c7b0:(((rd_T38 l0 x5_1).f2) == (wrap64 ((wrap64 (x1_1 + 1)) + 1))) = true:=beq_iff_eq.mpr c7
        have c7b1:(((rd_T38 l0 x5_1).f2) != (wrap64 ((wrap64 (x1_1 + 1)) + 1))) = false:=bne_eq_false_iff_eq.mpr c7
        clear c7
        by_cases c8:((rd_T38 l0 x5_1).f3) = (wrap64 ((wrap64 ((wrap64 (x1_1 + 1)) + 1)) + 1))
        ·rw [if_pos c8] at H
         have c8b0:(((rd_T38 l0 x5_1).f3) == (wrap64 ((wrap64 ((wrap64 (x1_1 + 1)) + 1)) + 1))) = true:=beq_iff_eq.mpr c8
         have c8b1:(((rd_T38 l0 x5_1).f3) != (wrap64 ((wrap64 ((wrap64 (x1_1 + 1)) + 1)) + 1))) = false:=bne_eq_false_iff_eq.mpr c8
         clear c8
         by_cases c9:((rd_T38 l0 x5_1).f4) = (wrap64 ((wrap64 ((wrap64 ((wrap64 (x1_1 + 1)) + 1)) + 1)) + 1))
         ·rw [if_pos c9] at H
          have c9b0:(((rd_T38 l0 x5_1).f4) == (wrap64 ((wrap64 ((wrap64 ((wrap64 (x1_1 + 1)) + 1)) + 1)) + 1))) = true:=beq_iff_eq.mpr c9
          have c9b1:(((rd_T38 l0 x5_1).f4) != (wrap64 ((wrap64 ((wrap64 ((wrap64 (x1_1 + 1)) + 1)) + 1)) + 1))) = false:=bne_eq_false_iff_eq.mpr c9
          clear c9
          have H':=aA.mk H
          clear H
          have p191:0 ≤ (x5_1:Int):=lE tC
          have q191:x5_1 < (l0.length:Int):=lE tC
          obtain ⟨ad191,e191,hx191_0,hx191_1,hx191_2,hx191_3,hx191_4⟩:=at_T38 HR0.out x5_1 p191 q191
          cases e191
          replace p191:=eq_true p191
          replace q191:=eq_true q191
          have p192:0 ≤ (x5_1:Int):=lE tC
          have q192:x5_1 < (l0.length:Int):=lE tC
          obtain ⟨ad192,e192,hx192_0,hx192_1,hx192_2,hx192_3,hx192_4⟩:=at_T38 HR0.out x5_1 p192 q192
          obtain rfl:ad191 = ad192:=(by injection e192)
          replace p192:=eq_true p192
          replace q192:=eq_true q192
          have p193:0 ≤ (x5_1:Int):=lE tC
          have q193:x5_1 < (l0.length:Int):=lE tC
          obtain ⟨ad193,e193,hx193_0,hx193_1,hx193_2,hx193_3,hx193_4⟩:=at_T38 HR0.out x5_1 p193 q193
          obtain rfl:ad191 = ad193:=(by injection e193)
          replace p193:=eq_true p193
          replace q193:=eq_true q193
          have p194:0 ≤ (x5_1:Int):=lE tC
          have q194:x5_1 < (l0.length:Int):=lE tC
          obtain ⟨ad194,e194,hx194_0,hx194_1,hx194_2,hx194_3,hx194_4⟩:=at_T38 HR0.out x5_1 p194 q194
          obtain rfl:ad191 = ad194:=(by injection e194)
          replace p194:=eq_true p194
          replace q194:=eq_true q194
          have p195:0 ≤ (x5_1:Int):=lE tC
          have q195:x5_1 < (l0.length:Int):=lE tC
          obtain ⟨ad195,e195,hx195_0,hx195_1,hx195_2,hx195_3,hx195_4⟩:=at_T38 HR0.out x5_1 p195 q195
          obtain rfl:ad191 = ad195:=(by injection e195)
          replace p195:=eq_true p195
          replace q195:=eq_true q195
          go_wp2
          go_roundg k1
          case measure=>have:=HK1.out;omega
          case rel=>exact ⟨(wrap64 ((wrap64 ((wrap64 ((wrap64 ((wrap64 (x1_1 + 1)) + 1)) + 1)) + 1)) + 1)),(wrap64 (x5_1 + 1)),tK,tK,H',⟨vM⟩,t7⟩
         ·rw [if_neg c9] at H
          have c9b0:(((rd_T38 l0 x5_1).f4) == (wrap64 ((wrap64 ((wrap64 ((wrap64 (x1_1 + 1)) + 1)) + 1)) + 1))) = false:=beq_eq_false_iff_ne.mpr c9
          have c9b1:(((rd_T38 l0 x5_1).f4) != (wrap64 ((wrap64 ((wrap64 ((wrap64 (x1_1 + 1)) + 1)) + 1)) + 1))) = true:=bne_iff_ne.mpr c9
          obtain rfl:=Option.some.inj H
          have p191:0 ≤ (x5_1:Int):=lE tC
          have q191:x5_1 < (l0.length:Int):=lE tC
          obtain ⟨ad191,e191,hx191_0,hx191_1,hx191_2,hx191_3,hx191_4⟩:=at_T38 HR0.out x5_1 p191 q191
          cases e191
          replace p191:=eq_true p191
          replace q191:=eq_true q191
          have p192:0 ≤ (x5_1:Int):=lE tC
          have q192:x5_1 < (l0.length:Int):=lE tC
          obtain ⟨ad192,e192,hx192_0,hx192_1,hx192_2,hx192_3,hx192_4⟩:=at_T38 HR0.out x5_1 p192 q192
          obtain rfl:ad191 = ad192:=(by injection e192)
          replace p192:=eq_true p192
          replace q192:=eq_true q192
          have p193:0 ≤ (x5_1:Int):=lE tC
          have q193:x5_1 < (l0.length:Int):=lE tC
          obtain ⟨ad193,e193,hx193_0,hx193_1,hx193_2,hx193_3,hx193_4⟩:=at_T38 HR0.out x5_1 p193 q193
          obtain rfl:ad191 = ad193:=(by injection e193)
          replace p193:=eq_true p193
          replace q193:=eq_true q193
          have p194:0 ≤ (x5_1:Int):=lE tC
          have q194:x5_1 < (l0.length:Int):=lE tC
          obtain ⟨ad194,e194,hx194_0,hx194_1,hx194_2,hx194_3,hx194_4⟩:=at_T38 HR0.out x5_1 p194 q194
          obtain rfl:ad191 = ad194:=(by injection e194)
          replace p194:=eq_true p194
          replace q194:=eq_true q194
          have p195:0 ≤ (x5_1:Int):=lE tC
          have q195:x5_1 < (l0.length:Int):=lE tC
          obtain ⟨ad195,e195,hx195_0,hx195_1,hx195_2,hx195_3,hx195_4⟩:=at_T38 HR0.out x5_1 p195 q195
          obtain rfl:ad191 = ad195:=(by injection e195)
          replace p195:=eq_true p195
          replace q195:=eq_true q195
          go_wp2
          go_ret
          exact tR
        ·rw [if_neg c8] at H
         have c8b0:(((rd_T38 l0 x5_1).f3) == (wrap64 ((wrap64 ((wrap64 (x1_1 + 1)) + 1)) + 1))) = false:=beq_eq_false_iff_ne.mpr c8
         have c8b1:(((rd_T38 l0 x5_1).f3) != (wrap64 ((wrap64 ((wrap64 (x1_1 + 1)) + 1)) + 1))) = true:=bne_iff_ne.mpr c8
         obtain rfl:=Option.some.inj H
         have p191:0 ≤ (x5_1:Int):=lE tC
         have q191:x5_1 < (l0.length:Int):=lE tC
         obtain ⟨ad191,e191,hx191_0,hx191_1,hx191_2,hx191_3,hx191_4⟩:=at_T38 HR0.out x5_1 p191 q191
         cases e191
         replace p191:=eq_true p191
         replace q191:=eq_true q191
         have p192:0 ≤ (x5_1:Int):=lE tC
         have q192:x5_1 < (l0.length:Int):=lE tC
         obtain ⟨ad192,e192,hx192_0,hx192_1,hx192_2,hx192_3,hx192_4⟩:=at_T38 HR0.out x5_1 p192 q192
         obtain rfl:ad191 = ad192:=(by injection e192)
         replace p192:=eq_true p192
         replace q192:=eq_true q192
         have p193:0 ≤ (x5_1:Int):=lE tC
         have q193:x5_1 < (l0.length:Int):=lE tC
         obtain ⟨ad193,e193,hx193_0,hx193_1,hx193_2,hx193_3,hx193_4⟩:=at_T38 HR0.out x5_1 p193 q193
         obtain rfl:ad191 = ad193:=(by injection e193)
         replace p193:=eq_true p193
         replace q193:=eq_true q193
         have p194:0 ≤ (x5_1:Int):=lE tC
         have q194:x5_1 < (l0.length:Int):=lE tC
         obtain ⟨ad194,e194,hx194_0,hx194_1,hx194_2,hx194_3,hx194_4⟩:=at_T38 HR0.out x5_1 p194 q194
         obtain rfl:ad191 = ad194:=(by injection e194)
         replace p194:=eq_true p194
         replace q194:=eq_true q194
         go_wp2
         go_ret
         exact tR
       ·rw [if_neg c7] at H
        have c7b0:(((rd_T38 l0 x5_1).f2) == (wrap64 ((wrap64 (x1_1 + 1)) + 1))) = false:=beq_eq_false_iff_ne.mpr c7
        have c7b1:(((rd_T38 l0 x5_1).f2) != (wrap64 ((wrap64 (x1_1 + 1)) + 1))) = true:=bne_iff_ne.mpr c7
        obtain rfl:=Option.some.inj H
        have p191:0 ≤ (x5_1:Int):=lE tC
        have q191:x5_1 < (l0.length:Int):=lE tC
        obtain ⟨ad191,e191,hx191_0,hx191_1,hx191_2,hx191_3,hx191_4⟩:=at_T38 HR0.out x5_1 p191 q191
        cases e191
        replace p191:=eq_true p191
        replace q191:=eq_true q191
        have p192:0 ≤ (x5_1:Int):=lE tC
        have q192:x5_1 < (l0.length:Int):=lE tC
        obtain ⟨ad192,e192,hx192_0,hx192_1,hx192_2,hx192_3,hx192_4⟩:=at_T38 HR0.out x5_1 p192 q192
        obtain rfl:ad191 = ad192:=(by injection e192)
        replace p192:=eq_true p192
        replace q192:=eq_true q192
        have p193:0 ≤ (x5_1:Int):=lE tC
        have q193:x5_1 < (l0.length:Int):=lE tC
        obtain ⟨ad193,e193,hx193_0,hx193_1,hx193_2,hx193_3,hx193_4⟩:=at_T38 HR0.out x5_1 p193 q193
        obtain rfl:ad191 = ad193:=(by injection e193)
        replace p193:=eq_true p193
        replace q193:=eq_true q193
        go_wp2
        go_ret
        exact tR
      ·rw [if_neg c6] at H
       have c6b0:(((rd_T38 l0 x5_1).f1) == (wrap64 (x1_1 + 1))) = false:=beq_eq_false_iff_ne.mpr c6
       have c6b1:(((rd_T38 l0 x5_1).f1) != (wrap64 (x1_1 + 1))) = true:=bne_iff_ne.mpr c6
       obtain rfl:=Option.some.inj H
       have p191:0 ≤ (x5_1:Int):=lE tC
       have q191:x5_1 < (l0.length:Int):=lE tC
       obtain ⟨ad191,e191,hx191_0,hx191_1,hx191_2,hx191_3,hx191_4⟩:=at_T38 HR0.out x5_1 p191 q191
       cases e191
       replace p191:=eq_true p191
       replace q191:=eq_true q191
       have p192:0 ≤ (x5_1:Int):=lE tC
       have q192:x5_1 < (l0.length:Int):=lE tC
       obtain ⟨ad192,e192,hx192_0,hx192_1,hx192_2,hx192_3,hx192_4⟩:=at_T38 HR0.out x5_1 p192 q192
       obtain rfl:ad191 = ad192:=(by injection e192)
       replace p192:=eq_true p192
       replace q192:=eq_true q192
       go_wp2
       go_ret
       exact tR
     ·rw [if_neg c5] at H
      have c5b0:(((rd_T38 l0 x5_1).f0) == x1_1) = false:=beq_eq_false_iff_ne.mpr c5
      have c5b1:(((rd_T38 l0 x5_1).f0) != x1_1) = true:=bne_iff_ne.mpr c5
      obtain rfl:=Option.some.inj H
      have p191:0 ≤ (x5_1:Int):=lE tC
      have q191:x5_1 < (l0.length:Int):=lE tC
      obtain ⟨ad191,e191,hx191_0,hx191_1,hx191_2,hx191_3,hx191_4⟩:=at_T38 HR0.out x5_1 p191 q191
      cases e191
      replace p191:=eq_true p191
      replace q191:=eq_true q191
      go_wp2
      go_ret
      exact tR
    ·rw [if_neg c4] at H
     exact vX
   ·rw [if_neg c3] at H
    have c3b0:decide (x5_1 < (l0.length:Int)) = false:=decide_eq_false c3
    clear c3
    obtain rfl:=Option.some.inj H
    go_wp2
    go_ret
    exact tR
def laws_heldKeySS.l0:Nat → List (List (S38)) → Int → Int → Option (Int)
 | 0,_,_,_=>none
 | k + 1,x0,x1,x5=>if x5 < (x0.length:Int) then (if 0 ≤ x5 then ((laws_heldKeyS.f k (rd_L6 x0 x5) x1).bind fun t197=>(if t197 < 0 then (some (-1)) else (laws_heldKeySS.l0 k x0 t197 (wrap64 (x5 + 1))))) else (none)) else (some x1)
def laws_heldKeySS.f (k:Nat) (l0:List (List (S38))) (a1:Int):Option (Int):=laws_heldKeySS.l0 k l0 a1 0
set_option maxHeartbeats 8000000 in
set_option maxRecDepth 100000 in
theorem laws_heldKeySS.calls (k:Nat) (A0:Option Addr) (c0:Nat) (l0:List (List (S38))) (a1:Int) (r:Int) (w:World) (hr0:Kd.C (Kd.slice 38 k38) w A0 l0.length l0) (hc0:l0.length ≤ c0) (h:laws_heldKeySS.f k l0 a1 = some r) :
  Calls Try.prog 73 #[.slice A0 l0.length c0,.int .i64 a1] w fun e w'=>e = .returned (.int .i64 r) ∧ aU w w':=by
 have HR0:=aA.mk hr0
 have HC0:=aA.mk hc0
 clear hr0 hc0
 have H:(laws_heldKeySS.l0 k l0 a1 0) = some r:=h
 clear h
 have H':=aA.mk H
 clear H
 go_enter Try.func73,Try.ntmps73
 go_wp2
 go_loopg [1,5] k (fun kq v1 v5 w'=>∃ (x1_1:Int) (x5_1:Int),v1 = .int .i64 x1_1 ∧ v5 = .int .i64 x5_1 ∧ aA (laws_heldKeySS.l0 kq l0 x1_1 x5_1 = some r) ∧ aA (kq ≤ k) ∧ aU w w')
 case atStart=>exact ⟨(a1),(0),tK,tK,H',⟨Nat.le_refl _⟩,t7⟩
 case round =>
  clear H'
  try clear p2
  obtain ⟨x1_1,x5_1,rfl,rfl,HA,HK1,⟨m1,rfl⟩⟩:=hrel
  cases gk with
  | zero=>exact absurd HA.out (by simp [laws_heldKeySS.l0])
  | succ k1 =>
   have H:=HA.out
   clear HA
   simp only [laws_heldKeySS.l0] at H
   by_cases c3:x5_1 < (l0.length:Int)
   ·rw [if_pos c3] at H
    have c3b0:decide (x5_1 < (l0.length:Int)) = true:=decide_eq_true c3
    clear c3
    by_cases c4:0 ≤ x5_1
    ·rw [if_pos c4] at H
     have c4b0:decide (0 ≤ x5_1) = true:=decide_eq_true c4
     clear c4
     replace H:=lF H
     obtain ⟨t197,A50,H⟩:=H
     replace H:(if t197 < 0 then (some (-1)) else (laws_heldKeySS.l0 k1 l0 t197 (wrap64 (x5_1 + 1)))) = some r:=H
     have A5:=aA.mk A50
     clear A50
     by_cases c6:t197 < 0
     ·rw [if_pos c6] at H
      have c6b0:decide (t197 < 0) = true:=decide_eq_true c6
      clear c6
      obtain rfl:=Option.some.inj H
      have p196:0 ≤ (x5_1:Int):=lE tC
      have q196:x5_1 < (l0.length:Int):=lE tC
      obtain ⟨ad196,A196_0,c196_0,e196,hx196_0,hl196_0,hi196_0⟩:=at_L6 HR0.out x5_1 p196 q196
      cases e196
      have HR196_0:=aA.mk hi196_0
      have HC196_0:=aA.mk hl196_0
      clear hi196_0 hl196_0
      replace p196:=eq_true p196
      replace q196:=eq_true q196
      go_wp2_with (first|((with_reducible refine aT (f:=96) rfl ?_);refine goesL_ (some 17) rfl rfl Try.func96 tF rfl #[.slice A196_0 (rd_L6 l0 x5_1).length c196_0,.int .i64 x1_1] rfl tA ?_;(with_reducible refine (laws_heldKeyS.calls k1 _ _ (rd_L6 l0 x5_1) x1_1 t197 _ ?side1 ?side2 A5.out).mono ?_);(case side1=>repeat (first|exact HR196_0.out|(with_reducible refine Kd.C_alloc ?_ _)|(with_reducible refine Kd.C_drewN ?_ _)|(with_reducible refine Kd.C_drew ?_)));(case side2=>exact HC196_0.out);rintro e w' ⟨rfl,⟨nd,rfl⟩⟩;refine ⟨_,rfl,?_⟩))
      go_ret
      exact tR
     ·rw [if_neg c6] at H
      have c6b0:decide (t197 < 0) = false:=decide_eq_false c6
      clear c6
      have H':=aA.mk H
      clear H
      have p196:0 ≤ (x5_1:Int):=lE tC
      have q196:x5_1 < (l0.length:Int):=lE tC
      obtain ⟨ad196,A196_0,c196_0,e196,hx196_0,hl196_0,hi196_0⟩:=at_L6 HR0.out x5_1 p196 q196
      cases e196
      have HR196_0:=aA.mk hi196_0
      have HC196_0:=aA.mk hl196_0
      clear hi196_0 hl196_0
      replace p196:=eq_true p196
      replace q196:=eq_true q196
      go_wp2_with (first|((with_reducible refine aT (f:=96) rfl ?_);refine goesL_ (some 17) rfl rfl Try.func96 tF rfl #[.slice A196_0 (rd_L6 l0 x5_1).length c196_0,.int .i64 x1_1] rfl tA ?_;(with_reducible refine (laws_heldKeyS.calls k1 _ _ (rd_L6 l0 x5_1) x1_1 t197 _ ?side1 ?side2 A5.out).mono ?_);(case side1=>repeat (first|exact HR196_0.out|(with_reducible refine Kd.C_alloc ?_ _)|(with_reducible refine Kd.C_drewN ?_ _)|(with_reducible refine Kd.C_drew ?_)));(case side2=>exact HC196_0.out);rintro e w' ⟨rfl,⟨nd,rfl⟩⟩;refine ⟨_,rfl,?_⟩))
      go_roundg k1
      case measure=>have:=HK1.out;omega
      case rel=>exact ⟨(t197),(wrap64 (x5_1 + 1)),tK,tK,H',⟨vM⟩,t7⟩
    ·rw [if_neg c4] at H
     exact vX
   ·rw [if_neg c3] at H
    have c3b0:decide (x5_1 < (l0.length:Int)) = false:=decide_eq_false c3
    clear c3
    obtain rfl:=Option.some.inj H
    go_wp2
    go_ret
    exact tR
end Go.Proofs.Ytamjbjkbineafaa.PFnExactTreePut
