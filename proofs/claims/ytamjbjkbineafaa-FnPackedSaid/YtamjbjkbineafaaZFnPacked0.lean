/- The law: the functions that it reaches, each with the proof that the machine's call comes to its answer, what they answer, and the law's row; each theorem says its conditions itself. -/
import Derived.Test.YtamjbjkbineafaaVFnPacked
import Derived.Test.YtamjbjkbineafaaProg
import Derived.Below
import Derived.Deep.Draws
import Derived.Deep.AppendLies
import Derived.Maps.AppendAt
import Derived.OwnWalk
import Derived.Laws.BytesArg
import Derived.Laws.MakeOwn
import Derived.Laws.OwnMore
import Derived.Deep.OwnRows
import Derived.Tactics
import Derived.Lib.ConvBytes
import Derived.Laws.Slices
import Derived.WalkKit
import Derived.KernelRfl
import Derived.RowKit3
import Derived.Deep.LoopGhost
import Derived.Deep.QuietTactic
import Derived.BigQuiet
import Derived.WideLaws
import Derived.Deep.DeepCutAuto
import Derived.Deep.CutBlock
import Derived.Deep.RegionHeld3
import Derived.Laws.Rows
import Derived.Lib.AppendStr
import Derived.ArgAppend
import Derived.Laws.IdiomCopy
import Derived.OrdersHeld
import Derived.Laws.BitsLemmas
import Derived.RowKit
namespace Go.Proofs
theorem tA {p:Prop} (h:p:=by (try simp only [List.map_toArray,List.map_cons,List.map_nil]);first|done|rfl):p:=h
theorem tB {p:Prop} (h:p:=by omega):p:=h
theorem tC {p:Prop} (h:p:=by first|rfl|(simp [errW_none,errW_some] <;> rfl)|(simp [*,errW_none,errW_some] <;> rfl)):p:=h
theorem tD {p:Prop} (h:p:=by (with_reducible repeat (first|refine aG ?_ _|refine aH ?_|refine aE ?_ _));refine aT (cs:=#[.int .i64 ((rd_T38 l0 x7_1).f0),.int .i64 ((rd_T38 l0 x7_1).f1),.int .i64 ((rd_T38 l0 x7_1).f2),.int .i64 ((rd_T38 l0 x7_1).f3),.int .i64 0]) ?_ 4 _ rfl;(with_reducible repeat (first|refine aG ?_ _|refine aH ?_|refine aE ?_ _));refine aT (cs:=#[.int .i64 ((rd_T38 l0 x7_1).f0),.int .i64 ((rd_T38 l0 x7_1).f1),.int .i64 ((rd_T38 l0 x7_1).f2),.int .i64 0,.int .i64 0]) ?_ 3 _ rfl;(with_reducible repeat (first|refine aG ?_ _|refine aH ?_|refine aE ?_ _));refine aT (cs:=#[.int .i64 ((rd_T38 l0 x7_1).f0),.int .i64 ((rd_T38 l0 x7_1).f1),.int .i64 0,.int .i64 0,.int .i64 0]) ?_ 2 _ rfl;(with_reducible repeat (first|refine aG ?_ _|refine aH ?_|refine aE ?_ _));refine aT (cs:=#[.int .i64 ((rd_T38 l0 x7_1).f0),.int .i64 0,.int .i64 0,.int .i64 0,.int .i64 0]) ?_ 1 _ rfl;(with_reducible repeat (first|refine aG ?_ _|refine aH ?_|refine aE ?_ _));refine aT (cs:=#[.int .i64 0,.int .i64 0,.int .i64 0,.int .i64 0,.int .i64 0]) ?_ 0 _ rfl;(with_reducible repeat (first|refine aG ?_ _|refine aH ?_|refine aE ?_ _));exact BK699.out):p:=h
theorem tE {p:Prop} (h:p:=by repeat (first|(with_reducible first|exact HB.out|apply aK|apply aC|apply aJ)|exact HB.out)):p:=h
theorem tF {p:Prop} (h:p:=by assumption):p:=h
theorem tG {p:Prop} (h:p:=by first|rfl|(simp;done)|(simp [*];done)):p:=h
theorem tH {p:Prop} (h:p:=by kernel_rfl):p:=h
theorem tJ {p:Prop} (h:p:=by first|(go_simp;done)|(go_simp;rfl)):p:=h
theorem tK {p:Prop} (h:p:=by repeat (first|(with_reducible first|exact HB.out|apply aK|apply aC|apply aJ|refine aD ?_ GE197.out|refine aD ?_ GE198.out)|exact HB.out)):p:=h
theorem tL {p:Prop} (h:p:=by repeat (first|(with_reducible first|exact HK.out|apply KeepBut.set_|apply aW|apply bA|apply aX|refine bE ?_ GW594.out _)|exact HK.out)):p:=h
theorem tM {p:Prop} (h:p:=by repeat (first|(with_reducible first|exact HK.out|apply KeepBut.set_|apply aW|apply bA|apply aX)|exact HK.out)):p:=h
theorem tN {p:Prop} (h:p:=by exact ⟨tC,by repeat (first|(with_reducible first|exact HI0.out|apply IsS92.alloc|apply IsS92.drewN|apply IsS92.drew|apply IsS92.set_1|apply IsS92.set_2)|exact HI0.out),by repeat (first|(with_reducible first|exact HB.out|apply aK|apply aC|apply aJ|refine aD ?_ (IsS92.ge HI0.out))|exact HB.out),by repeat (first|(with_reducible first|exact HK.out|apply KeepBut.set_|apply aW|apply bA|apply aX)|exact HK.out)⟩):p:=h
theorem tP {p:Prop} (h:p:=by repeat (first|(with_reducible first|exact HB.out|apply aK|apply aC|apply aJ|refine aD ?_ GE714.out|refine aD ?_ GE718.out)|exact HB.out)):p:=h
theorem tQ {p:Prop} (h:p:=by repeat (first|(with_reducible first|exact HB.out|apply aK|apply aC|apply aJ|refine aD ?_ GE141.out|refine aD ?_ GE149.out)|exact HB.out)):p:=h
theorem tR {p:Prop} (h:p:=by (with_reducible repeat (first|refine aG ?_ _|refine aH ?_|refine aE ?_ _));exact BK197.out):p:=h
theorem tT {p:Prop} (h:p:=by exact (fun k_ hk=>⟨Kd.freshB (g:=gb141) (o:=.cells #[.int .i64 a1_0,.int .i64 a1_1,.int .i64 a1_2,.int .i64 a1_3,.int .i64 a1_4] 38 (0,0)) (by (with_reducible repeat (first|refine aG ?_ _|refine aH ?_|refine aE ?_ _));exact BK141.out) k_ hk,Kd.freshB (g:=gb149) (o:=.cells #[.int .i64 ((rd_T38 l0 x12_1).f0),.int .i64 ((rd_T38 l0 x12_1).f1),.int .i64 ((rd_T38 l0 x12_1).f2),.int .i64 ((rd_T38 l0 x12_1).f3),.int .i64 ((rd_T38 l0 x12_1).f4)] 38 (0,0)) (by (with_reducible repeat (first|refine aG ?_ _|refine aH ?_|refine aE ?_ _));exact BK149.out) k_ hk⟩)):p:=h
theorem tU {p:Prop} (h:p:=by exact ⟨by first|rfl|(simp;done)|(simp [*];done),by repeat (first|exact Drawn0.refl _|apply Drawn0.step)⟩):p:=h
theorem tV {p:Prop} (h:p:=by repeat (first|(with_reducible first|exact HB.out|apply aK|apply aC|apply aJ|refine aD ?_ GE756.out|refine aD ?_ GE757.out|refine aD ?_ GE765.out|refine aD ?_ GE772.out)|exact HB.out)):p:=h
theorem tW {p:Prop} (h:p:=by repeat (first|(with_reducible first|exact HB.out|apply aK|apply aC|apply aJ|refine aD ?_ (IsS92.ge HI666.out)|refine aD ?_ GE661.out|refine aD ?_ GE662.out)|exact HB.out)):p:=h
theorem tX {p:Prop} (h:p:=by (with_reducible repeat (first|apply Kd.bC|apply Kd.bD|apply Kd.bG));exact (Kd.bF (Kd.bJ (p:=⟨gb166,4,none⟩) (Kd.bJ (p:=⟨gb166,3,none⟩) (Kd.bJ (p:=⟨gb166,2,none⟩) (Kd.bJ (p:=⟨gb166,1,none⟩) (Kd.bJ (p:=⟨gb166,0,none⟩) (Kd.bF HO_5.out (fun k_ hk=>(⟨hk,hk.2⟩:_ ∧ k_ ≠ gb166))) (fun _ hk=>hk.2) (.int .i64 ((rd_T38 l1 x12_1).f0))) (fun _ hk=>hk.2) (.int .i64 ((rd_T38 l1 x12_1).f1))) (fun _ hk=>hk.2) (.int .i64 ((rd_T38 l1 x12_1).f2))) (fun _ hk=>hk.2) (.int .i64 ((rd_T38 l1 x12_1).f3))) (fun _ hk=>hk.2) (.int .i64 ((rd_T38 l1 x12_1).f4))) (fun _ h_=>h_.1))):p:=h
theorem tY {p:Prop} (h:p:=by have:=lD _ _ hx712_0;first|rwa [aU] at this|exact this):p:=h
theorem tZ {p:Prop} (h:p:=by (with_reducible repeat (first|refine aG ?_ _|refine aH ?_|refine aE ?_ _));refine aT (cs:=#[.int .i64 ((rd_T38 l1 x12_1).f0),.int .i64 ((rd_T38 l1 x12_1).f1),.int .i64 ((rd_T38 l1 x12_1).f2),.int .i64 ((rd_T38 l1 x12_1).f3),.int .i64 0]) ?_ 4 _ rfl;(with_reducible repeat (first|refine aG ?_ _|refine aH ?_|refine aE ?_ _));refine aT (cs:=#[.int .i64 ((rd_T38 l1 x12_1).f0),.int .i64 ((rd_T38 l1 x12_1).f1),.int .i64 ((rd_T38 l1 x12_1).f2),.int .i64 0,.int .i64 0]) ?_ 3 _ rfl;(with_reducible repeat (first|refine aG ?_ _|refine aH ?_|refine aE ?_ _));refine aT (cs:=#[.int .i64 ((rd_T38 l1 x12_1).f0),.int .i64 ((rd_T38 l1 x12_1).f1),.int .i64 0,.int .i64 0,.int .i64 0]) ?_ 2 _ rfl;(with_reducible repeat (first|refine aG ?_ _|refine aH ?_|refine aE ?_ _));refine aT (cs:=#[.int .i64 ((rd_T38 l1 x12_1).f0),.int .i64 0,.int .i64 0,.int .i64 0,.int .i64 0]) ?_ 1 _ rfl;(with_reducible repeat (first|refine aG ?_ _|refine aH ?_|refine aE ?_ _));refine aT (cs:=#[.int .i64 0,.int .i64 0,.int .i64 0,.int .i64 0,.int .i64 0]) ?_ 0 _ rfl;(with_reducible repeat (first|refine aG ?_ _|refine aH ?_|refine aE ?_ _));exact BK166.out):p:=h
theorem ta {p:Prop} (h:p:=by (with_reducible repeat (first|refine aG ?_ _|refine aH ?_|refine aE ?_ _));exact BK198.out):p:=h
theorem tb {p:Prop} (h:p:=by decide):p:=h
theorem tc {p:Prop} (h:p:=by (with_reducible repeat (first|refine aG ?_ _|refine aH ?_|refine aE ?_ _));refine aT (cs:=#[.int .i64 ((rd_T38 l0 x9_1).f0),.int .i64 ((rd_T38 l0 x9_1).f1),.int .i64 ((rd_T38 l0 x9_1).f2),.int .i64 ((rd_T38 l0 x9_1).f3),.int .i64 0]) ?_ 4 _ rfl;(with_reducible repeat (first|refine aG ?_ _|refine aH ?_|refine aE ?_ _));refine aT (cs:=#[.int .i64 ((rd_T38 l0 x9_1).f0),.int .i64 ((rd_T38 l0 x9_1).f1),.int .i64 ((rd_T38 l0 x9_1).f2),.int .i64 0,.int .i64 0]) ?_ 3 _ rfl;(with_reducible repeat (first|refine aG ?_ _|refine aH ?_|refine aE ?_ _));refine aT (cs:=#[.int .i64 ((rd_T38 l0 x9_1).f0),.int .i64 ((rd_T38 l0 x9_1).f1),.int .i64 0,.int .i64 0,.int .i64 0]) ?_ 2 _ rfl;(with_reducible repeat (first|refine aG ?_ _|refine aH ?_|refine aE ?_ _));refine aT (cs:=#[.int .i64 ((rd_T38 l0 x9_1).f0),.int .i64 0,.int .i64 0,.int .i64 0,.int .i64 0]) ?_ 1 _ rfl;(with_reducible repeat (first|refine aG ?_ _|refine aH ?_|refine aE ?_ _));refine aT (cs:=#[.int .i64 0,.int .i64 0,.int .i64 0,.int .i64 0,.int .i64 0]) ?_ 0 _ rfl;(with_reducible repeat (first|refine aG ?_ _|refine aH ?_|refine aE ?_ _));exact BK174.out):p:=h
theorem td {p:Prop} (h:p:=by simp (decide:=true) only [↓aops_cons,↓aopsD_cons,go_sem, *]):p:=h
theorem te {p:Prop} (h:p:=by simp):p:=h
theorem tf {p:Prop} (h:p:=by repeat (first|(with_reducible first|exact HK.out|apply KeepBut.set_|apply aW|apply bA|apply aX|refine bE ?_ GW636.out _|refine bE ?_ GW643.out _)|exact HK.out)):p:=h
theorem th {p:Prop} (h:p:=by repeat (first|(with_reducible first|exact HK.out|apply KeepBut.set_|apply aW|apply bA|apply aX|refine bE ?_ GW636.out _)|exact HK.out)):p:=h
theorem tj {p:Prop} (h:p:=by repeat (first|(with_reducible first|exact HB.out|apply aK|apply aC|apply aJ)|exact HB.out)):p:=h
theorem tk {p:Prop} (h:p:=by repeat (first|(with_reducible first|exact HI0.out|apply IsS92.alloc|apply IsS92.drewN|apply IsS92.drew|apply IsS92.set_1|apply IsS92.set_2|apply IsS92.far (hne:=NB0_594.out))|exact HI0.out)):p:=h
theorem tn {p:Prop} (h:p:=by (with_reducible repeat (first|refine aG ?_ _|refine aH ?_|refine aE ?_ _));exact BK714.out):p:=h
theorem tp {p:Prop} (h:p:=by (with_reducible repeat (first|apply Kd.V_alloc|apply Kd.V_drewN|apply Kd.V_drew));exact HO750.out):p:=h
theorem tq {p:Prop} (h:p:=by (with_reducible repeat (first|apply Kd.V_alloc|apply Kd.V_drewN|apply Kd.V_drew));exact HO747.out):p:=h
theorem tr {p:Prop} (h:p:=by (with_reducible repeat (first|refine aG ?_ _|refine aH ?_|refine aE ?_ _));refine aT (cs:=#[.slice none 0 0]) ?_ 0 _ rfl;(with_reducible repeat (first|refine aG ?_ _|refine aH ?_|refine aE ?_ _));exact BK718.out):p:=h
theorem tu {p:Prop} (h:p:=by repeat (first|(with_reducible first|exact HB.out|apply aK|apply aC|apply aJ|refine aD ?_ GE756.out|refine aD ?_ GE757.out|refine aD ?_ GE765.out)|exact HB.out)):p:=h
theorem tx {p:Prop} (h:p:=by repeat (first|(with_reducible first|exact HB.out|apply aK|apply aC|apply aJ|refine aD ?_ GE699.out)|exact HB.out)):p:=h
theorem tz {p:Prop} (h:p:=by repeat (first|(with_reducible first|exact HB.out|apply aK|apply aC|apply aJ|refine aD ?_ GE692.out)|exact HB.out)):p:=h
theorem t0 {p:Prop} (h:p:=by (with_reducible repeat (first|refine aG ?_ _|refine aH ?_|refine aE ?_ _));refine aV ?_ NB714_718.out _;(with_reducible repeat (first|refine aG ?_ _|refine aH ?_|refine aE ?_ _));exact BK714.out):p:=h
theorem t1 {p:Prop} (h:p:=by repeat (first|(with_reducible first|exact HB.out|apply aK|apply aC|apply aJ|refine aD ?_ GE141.out)|exact HB.out)):p:=h
theorem t2 {p:Prop} (h:p:=by repeat (first|(with_reducible first|exact HI666.out|apply IsS92.alloc|apply IsS92.drewN|apply IsS92.drew|apply IsS92.set_1|apply IsS92.set_2|apply IsS92.far (hne:=NB666_661.out)|apply IsS92.far (hne:=NB666_662.out))|exact HI666.out)):p:=h
theorem t4 {p:Prop} (h:p:=by repeat (first|(with_reducible first|exact HB.out|apply aK|apply aC|apply aJ|refine aD ?_ GE756.out|refine aD ?_ GE757.out)|exact HB.out)):p:=h
theorem t5 {p:Prop} (h:p:=by repeat (first|(with_reducible first|exact HB.out|apply aK|apply aC|apply aJ|refine aD ?_ GE141.out|refine aD ?_ GE149.out)|exact HB.out)):p:=h
theorem t6 {p:Prop} (h:p:=by repeat (first|(with_reducible first|exact HB.out|apply aK|apply aC|apply aJ|refine aD ?_ (IsS92.ge HI0.out)|refine aD ?_ GE594.out)|exact HB.out)):p:=h
theorem t7 {p:Prop} (h:p:=by (with_reducible repeat (first|refine aG ?_ _|refine aH ?_|refine aE ?_ _));refine aV ?_ NB706_710.out _;(with_reducible repeat (first|refine aG ?_ _|refine aH ?_|refine aE ?_ _));refine aV ?_ NB706_710.out _;(with_reducible repeat (first|refine aG ?_ _|refine aH ?_|refine aE ?_ _));refine aV ?_ NB706_710.out _;(with_reducible repeat (first|refine aG ?_ _|refine aH ?_|refine aE ?_ _));refine aV ?_ NB706_710.out _;(with_reducible repeat (first|refine aG ?_ _|refine aH ?_|refine aE ?_ _));refine aV ?_ NB706_710.out _;(with_reducible repeat (first|refine aG ?_ _|refine aH ?_|refine aE ?_ _));exact BK706.out):p:=h
theorem t8 {p:Prop} (h:p:=by repeat (first|(with_reducible first|exact HB.out|apply aK|apply aC|apply aJ|refine aD ?_ GE197.out)|exact HB.out)):p:=h
theorem t9 {p:Prop} (h:p:=by repeat (first|(with_reducible first|exact HB.out|apply aK|apply aC|apply aJ|refine aD ?_ GE178.out)|exact HB.out)):p:=h
theorem vA {p:Prop} (h:p:=by repeat (first|(with_reducible first|exact HI0.out|apply IsS92.alloc|apply IsS92.drewN|apply IsS92.drew|apply IsS92.set_1|apply IsS92.set_2)|exact HI0.out)):p:=h
theorem vB {p:Prop} (h:p:=by repeat (first|(with_reducible first|exact HB.out|apply aK|apply aC|apply aJ|refine aD ?_ GE714.out)|exact HB.out)):p:=h
theorem vC {p:Prop} (h:p:=by repeat (first|(with_reducible first|exact HB.out|apply aK|apply aC|apply aJ|refine aD ?_ GE703.out)|exact HB.out)):p:=h
theorem vD {p:Prop} (h:p:=by repeat (first|(with_reducible first|exact HI0.out|apply IsS92.alloc|apply IsS92.drewN|apply IsS92.drew|apply IsS92.set_1|apply IsS92.set_2|apply IsS92.far (hne:=NB0_594.out))|exact HI0.out)):p:=h
theorem vE {p:Prop} (h:p:=by (with_reducible repeat (first|apply Kd.bC|apply Kd.bD|apply Kd.bG));exact (Kd.bF (Kd.bJ (p:=⟨gb765,1,none⟩) (Kd.bJ (p:=⟨gb765,0,none⟩) (Kd.R_types HO761.out BK765.out tb) (fun _ hk=>hk.2) (.slice Ao33 t759.length co33)) (fun _ hk=>hk.2) (.slice Ao37 t762.length co37)) (fun _ h_=>h_.1))):p:=h
theorem vF {p:Prop} (h:p:=by exact ⟨tC,by repeat (first|(with_reducible first|exact HI0.out|apply IsS92.alloc|apply IsS92.drewN|apply IsS92.drew|apply IsS92.set_1|apply IsS92.set_2|apply IsS92.far (hne:=NB0_594.out)|apply IsS92.far (hne:=NB0_607.out))|exact HI0.out),by repeat (first|(with_reducible first|exact HB.out|apply aK|apply aC|apply aJ|refine aD ?_ (IsS92.ge HI0.out)|refine aD ?_ GE594.out|refine aD ?_ GE607.out)|exact HB.out),by repeat (first|(with_reducible first|exact HK.out|apply KeepBut.set_|apply aW|apply bA|apply aX|refine bE ?_ GW594.out _|refine bE ?_ GW607.out _)|exact HK.out)⟩):p:=h
theorem vG {p:Prop} (h:p:=by repeat (first|(with_reducible first|exact HB.out|apply aK|apply aC|apply aJ|refine aD ?_ GE730.out|refine aD ?_ GE735.out)|exact HB.out)):p:=h
theorem vH {p:Prop} (h:p:=by rfl):p:=h
theorem vJ {p:Prop} (h:p:=by (with_reducible repeat (first|refine aG ?_ _|refine aH ?_|refine aE ?_ _));exact BK141.out):p:=h
theorem vK {p:Prop} (h:p:=by have:=lD _ _ hx713_0;first|rwa [aU] at this|exact this):p:=h
theorem vL {p:Prop} (h:p:=by (try simp only [List.map_toArray,List.map_cons,List.map_nil]);first|done|rfl|(simp only [List.length_drop,List.length_take];rfl)):p:=h
theorem vM {p:Prop} (h:p:=by exact absurd H te):p:=h
theorem vN {p:Prop} (h:p:=by repeat (first|(with_reducible first|exact HK.out|apply KeepBut.set_|apply aW|apply bA|apply aX|refine bE ?_ GW594.out _|refine bE ?_ GW607.out _)|exact HK.out)):p:=h
theorem vP {p:Prop} (h:p:=by repeat (first|(with_reducible first|exact HB.out|apply aK|apply aC|apply aJ|refine aD ?_ GE197.out|refine aD ?_ GE198.out|refine aD ?_ GE205.out)|exact HB.out)):p:=h
theorem vQ {p:Prop} (h:p:=by repeat (first|(with_reducible first|exact HB.out|apply aK|apply aC|apply aJ|refine aD ?_ GE730.out)|exact HB.out)):p:=h
theorem vR {p:Prop} (h:p:=by repeat (first|(with_reducible first|exact HI0.out|apply IsS92.alloc|apply IsS92.drewN|apply IsS92.drew|apply IsS92.set_1|apply IsS92.set_2)|exact HI0.out)):p:=h
theorem vT {p:Prop} (h:p:=by repeat (first|(with_reducible first|exact HB.out|apply aK|apply aC|apply aJ|refine aD ?_ (IsS92.ge HI0.out))|exact HB.out)):p:=h
theorem vU {p:Prop} (h:p:=by repeat (first|(with_reducible first|exact HI0.out|apply IsS92.alloc|apply IsS92.drewN|apply IsS92.drew|apply IsS92.set_1|apply IsS92.set_2|apply IsS92.far (hne:=NB0_636.out)|apply IsS92.far (hne:=NB0_643.out))|exact HI0.out)):p:=h
theorem vV {p:Prop} (h:p:=by repeat (first|(with_reducible first|exact HB.out|apply aK|apply aC|apply aJ|refine aD ?_ (IsS92.ge HI0.out)|refine aD ?_ GE594.out)|exact HB.out)):p:=h
theorem vW {p:Prop} (h:p:=by (with_reducible repeat (first|refine aG ?_ _|refine aH ?_|refine aE ?_ _));exact BK141.out):p:=h
theorem vX {p:Prop} (h:p:=by exact ⟨K,fun k hk'=>hk k hk'⟩):p:=h
theorem vY {p:Prop} (h:p:=by (try simp only [List.length_append,List.length_take,List.length_drop,List.length_nil,List.length_cons]);omega):p:=h
theorem vZ {p:Prop} (h:p:=by (with_reducible repeat (first|apply Kd.bC|apply Kd.bD|apply Kd.bG));exact HO_5.out):p:=h
theorem vk {p:Prop} (h:p:=by repeat (first|(with_reducible first|exact HK.out|apply KeepBut.set_|apply aW|apply bA|apply aX|refine bE ?_ GW617.out _)|exact HK.out)):p:=h
theorem vm {p:Prop} (h:p:=by repeat (first|(with_reducible first|exact HI0.out|apply IsS92.alloc|apply IsS92.drewN|apply IsS92.drew|apply IsS92.set_1|apply IsS92.set_2|apply IsS92.far (hne:=NB0_636.out)|apply IsS92.far (hne:=NB0_643.out))|exact HI0.out)):p:=h
theorem vn {p:Prop} (h:p:=by repeat (first|(with_reducible first|exact HB.out|apply aK|apply aC|apply aJ|refine aD ?_ GE706.out|refine aD ?_ GE710.out)|exact HB.out)):p:=h
theorem vp {p:Prop} (h:p:=by (with_reducible repeat (first|apply Kd.N_alloc|apply Kd.N_drewN|apply Kd.N_drew));exact HO764.out):p:=h
theorem vq {p:Prop} (h:p:=by (with_reducible repeat (first|apply Kd.N_alloc|apply Kd.N_drewN|apply Kd.N_drew));exact HO204.out):p:=h
theorem vr {p:Prop} (h:p:=by repeat (first|(with_reducible first|exact HB.out|apply aK|apply aC|apply aJ|refine aD ?_ (IsS92.ge HI0.out))|exact HB.out)):p:=h
theorem vu {p:Prop} (h:p:=by (with_reducible repeat (first|refine aG ?_ _|refine aH ?_|refine aE ?_ _));refine aT (cs:=#[.slice Ao33 t759.length co33,.slice none 0 0]) ?_ 1 _ rfl;(with_reducible repeat (first|refine aG ?_ _|refine aH ?_|refine aE ?_ _));refine aT (cs:=#[.slice none 0 0,.slice none 0 0]) ?_ 0 _ rfl;(with_reducible repeat (first|refine aG ?_ _|refine aH ?_|refine aE ?_ _));exact BK765.out):p:=h
theorem vx {p:Prop} (h:p:=by (with_reducible repeat (first|refine aG ?_ _|refine aH ?_|refine aE ?_ _));exact BK718.out):p:=h
theorem vy {p:Prop} (h:p:=by repeat (first|(with_reducible first|exact HB.out|apply aK|apply aC|apply aJ|refine aD ?_ GE706.out)|exact HB.out)):p:=h
theorem vz {p:Prop} (h:p:=by (with_reducible repeat (first|apply Kd.N_alloc|apply Kd.N_drewN|apply Kd.N_drew));exact (Kd.N_mono (Kd.N_far (p:=⟨gb765,1,none⟩) (Kd.N_far (p:=⟨gb765,0,none⟩) (Kd.N_mono HO764.out (fun k_ hk=>(⟨hk,hk.2⟩:_ ∧ k_ ≠ gb765))) (fun _ hk=>hk.2) (.slice Ao33 t759.length co33)) (fun _ hk=>hk.2) (.slice Ao37 t762.length co37)) (fun _ h_=>h_.1))):p:=h
theorem v8 {p:Prop} (h:p:=by repeat (first|(with_reducible first|exact HB.out|apply aK|apply aC|apply aJ|refine aD ?_ (IsS92.ge HI0.out)|refine aD ?_ GE636.out|refine aD ?_ GE643.out)|exact HB.out)):p:=h
theorem wA {p:Prop} (h:p:=by (with_reducible repeat (first|apply Kd.bC|apply Kd.bD|apply Kd.bG));exact HO201.out):p:=h
theorem wB {p:Prop} (h:p:=by first|(with_reducible assumption)|assumption):p:=h
theorem wC {p:Prop} (h:p:=by repeat (first|(with_reducible first|exact HK.out|apply KeepBut.set_|apply aW|apply bA|apply aX|refine bE ?_ GW636.out _|refine bE ?_ GW643.out _)|exact HK.out)):p:=h
theorem wD {p:Prop} (h:p:=by repeat (first|(with_reducible first|exact HB.out|apply aK|apply aC|apply aJ|refine aD ?_ GE197.out|refine aD ?_ GE198.out|refine aD ?_ GE205.out)|exact HB.out)):p:=h
theorem wE {p:Prop} (h:p:=by repeat (first|(with_reducible first|exact HB.out|apply aK|apply aC|apply aJ|refine aD ?_ GE113.out|refine aD ?_ GE114.out|refine aD ?_ GE115.out)|exact HB.out)):p:=h
theorem wF {p:Prop} (h:p:=by exact (Reps.one (show Kd.M (Kd.int .i64) _ _ _ 0 [.int .i64 0] from rfl) (Reps.one (show Kd.M (Kd.int .i64) _ _ _ 1 [.int .i64 1] from rfl) (Reps.one (show Kd.M (Kd.int .i64) _ _ _ 1 [.int .i64 1] from rfl) (Reps.one (show Kd.M (Kd.int .i64) _ _ _ 1 [.int .i64 1] from rfl) (Reps.one (show Kd.M (Kd.int .i64) _ _ _ 2 [.int .i64 2] from rfl) (Reps.none _ _))))))):p:=h
theorem wG {p:Prop} (h:p:=by first|(rw [aU];exact hn712_4)|(show (Addr.add _ _).block ≠ _;rw [aU];exact hn712_4)|exact hn712_4):p:=h
theorem wH {p:Prop} (h:p:=by first|(rw [aU];exact hn712_3)|(show (Addr.add _ _).block ≠ _;rw [aU];exact hn712_3)|exact hn712_3):p:=h
theorem wJ {p:Prop} (h:p:=by first|(rw [aU];exact hn712_2)|(show (Addr.add _ _).block ≠ _;rw [aU];exact hn712_2)|exact hn712_2):p:=h
theorem wK {p:Prop} (h:p:=by first|(rw [aU];exact hn712_1)|(show (Addr.add _ _).block ≠ _;rw [aU];exact hn712_1)|exact hn712_1):p:=h
theorem wL {p:Prop} (h:p:=by first|(rw [aU];exact hn712_0)|(show (Addr.add _ _).block ≠ _;rw [aU];exact hn712_0)|exact hn712_0):p:=h
theorem wM {p:Prop} (h:p:=by (with_reducible repeat (first|refine aG ?_ _|refine aH ?_|refine aE ?_ _));refine aV ?_ NB757_765.out _;(with_reducible repeat (first|refine aG ?_ _|refine aH ?_|refine aE ?_ _));refine aV ?_ NB757_765.out _;(with_reducible repeat (first|refine aG ?_ _|refine aH ?_|refine aE ?_ _));exact BK757.out):p:=h
theorem wN {p:Prop} (h:p:=by (with_reducible repeat (first|refine aG ?_ _|refine aH ?_|refine aE ?_ _));refine aV ?_ NB756_765.out _;(with_reducible repeat (first|refine aG ?_ _|refine aH ?_|refine aE ?_ _));refine aV ?_ NB756_765.out _;(with_reducible repeat (first|refine aG ?_ _|refine aH ?_|refine aE ?_ _));exact BK756.out):p:=h
theorem wP {p:Prop} (h:p:=by repeat (first|exact (Kd.V_reads' HO747.out).2.2|(with_reducible refine Kd.C_alloc ?_ _)|(with_reducible refine Kd.C_drewN ?_ _)|(with_reducible refine Kd.C_drew ?_))):p:=h
theorem wQ {p:Prop} (h:p:=by repeat (first|exact (Kd.R_reads' HO761.out).2.2|(with_reducible refine Kd.C_alloc ?_ _)|(with_reducible refine Kd.C_drewN ?_ _)|(with_reducible refine Kd.C_drew ?_))):p:=h
theorem wR {p:Prop} (h:p:=by repeat (first|(with_reducible first|exact HBW.out|apply aK|apply aC|apply aJ)|exact HBW.out)):p:=h
theorem wT {p:Prop} (h:p:=by (with_reducible repeat (first|apply Kd.N_alloc|apply Kd.N_drewN|apply Kd.N_drew));exact HO771.out):p:=h
theorem wU {p:Prop} (h:p:=by exact ⟨tC,by repeat (first|(with_reducible first|exact HB.out|apply aK|apply aC|apply aJ|refine aD ?_ GE137.out|refine aD ?_ GE138.out)|exact HB.out)⟩):p:=h
theorem wV {p:Prop} (h:p:=by (with_reducible repeat (first|refine aG ?_ _|refine aH ?_|refine aE ?_ _));exact BK757.out):p:=h
theorem wW {p:Prop} (h:p:=by (with_reducible repeat (first|refine aG ?_ _|refine aH ?_|refine aE ?_ _));exact BK149.out):p:=h
theorem wX {p:Prop} (h:p:=by have:=HK1.out;omega):p:=h
theorem wY {p:Prop} (h:p:=by omega):p:=h
theorem wZ {p:Prop} (h:p:=by have:=HJ1.out;have:=HK2.out;first|omega|exact Nat.le_refl _):p:=h
theorem wa {p:Prop} (h:p:=by (with_reducible repeat (first|apply Kd.bC|apply Kd.bD|apply Kd.bG));exact HO776.out):p:=h
theorem wb {p:Prop} (h:p:=by repeat (first|(with_reducible first|exact HB.out|apply aK|apply aC|apply aJ|refine aD ?_ GE756.out)|exact HB.out)):p:=h
theorem wd {p:Prop} (h:p:=by repeat (first|(with_reducible first|exact HB.out|apply aK|apply aC|apply aJ|refine aD ?_ GE178.out)|exact HB.out)):p:=h
theorem we {p:Prop} (h:p:=by repeat (first|(with_reducible first|exact HB.out|apply aK|apply aC|apply aJ|refine aD ?_ GE141.out)|exact HB.out)):p:=h
theorem wg {p:Prop} (h:p:=by (with_reducible repeat (first|apply Kd.bC|apply Kd.bD|apply Kd.bG));exact (Kd.bF (Kd.bJ (p:=⟨gb735,0,none⟩) (Kd.R_types HO_3.out BK735.out tb) (fun _ hk=>hk.2) (.slice A734_0 ((rd_T59 l0_1 x10_1).f0).length c734_0)) (fun _ h_=>h_.1))):p:=h
theorem wh {p:Prop} (h:p:=by repeat (first|(with_reducible first|exact HI0.out|apply IsS92.alloc|apply IsS92.drewN|apply IsS92.drew|apply IsS92.set_1|apply IsS92.set_2|apply IsS92.far (hne:=NB0_636.out)|apply IsS92.far (hne:=NB0_643.out))|exact HI0.out)):p:=h
theorem wj {p:Prop} (h:p:=by repeat (first|(with_reducible first|exact HI0.out|apply IsS92.alloc|apply IsS92.drewN|apply IsS92.drew|apply IsS92.set_1|apply IsS92.set_2|apply IsS92.far (hne:=NB0_594.out)|apply IsS92.far (hne:=NB0_607.out))|exact HI0.out)):p:=h
theorem wk {p:Prop} (h:p:=by (with_reducible repeat (first|apply Kd.bC|apply Kd.bD|apply Kd.bG));exact (Kd.bF (Kd.bJ (p:=⟨gb607,3,none⟩) (Kd.R_types HO603.out BK607.out tb) (fun _ hk=>hk.2) (.int .i64 t608)) (fun _ h_=>h_.1))):p:=h
theorem wm {p:Prop} (h:p:=by repeat (first|(with_reducible first|exact HB.out|apply aK|apply aC|apply aJ|refine aD ?_ (IsS92.ge HI666.out)|refine aD ?_ GE661.out|refine aD ?_ GE662.out|refine aD ?_ GE676.out)|exact HB.out)):p:=h
theorem wn {p:Prop} (h:p:=by repeat (first|(with_reducible first|exact HI0.out|apply IsS92.alloc|apply IsS92.drewN|apply IsS92.drew|apply IsS92.set_1|apply IsS92.set_2|apply IsS92.far (hne:=NB0_636.out))|exact HI0.out)):p:=h
theorem wq {p:Prop} (h:p:=by (with_reducible repeat (first|refine aG ?_ _|refine aH ?_|refine aE ?_ _));refine aV ?_ NB114_115.out _;(with_reducible repeat (first|refine aG ?_ _|refine aH ?_|refine aE ?_ _));exact BK114.out):p:=h
theorem wu {p:Prop} (h:p:=by (with_reducible repeat (first|refine aG ?_ _|refine aH ?_|refine aE ?_ _));refine aV ?_ NB113_115.out _;(with_reducible repeat (first|refine aG ?_ _|refine aH ?_|refine aE ?_ _));exact BK113.out):p:=h
theorem wz {p:Prop} (h:p:=by exact ⟨i,_,h1,h2,rfl,h3,rfl⟩):p:=h
theorem AA {p:Prop} (h:p:=by repeat (first|(with_reducible first|exact HB.out|apply aK|apply aC|apply aJ|refine aD ?_ GE756.out|refine aD ?_ GE757.out|refine aD ?_ GE765.out|refine aD ?_ GE772.out)|exact HB.out)):p:=h
theorem AB {p:Prop} (h:p:=by repeat (first|(with_reducible first|exact HB.out|apply aK|apply aC|apply aJ|refine aD ?_ GE123.out|refine aD ?_ GE124.out|refine aD ?_ GE128.out|refine aD ?_ GE130.out)|exact HB.out)):p:=h
theorem AC {p:Prop} (h:p:=by (with_reducible repeat (first|refine aG ?_ _|refine aH ?_|refine aE ?_ _));exact BK205.out):p:=h
theorem AD {p:Prop} (h:p:=by (with_reducible repeat (first|refine aG ?_ _|refine aH ?_|refine aE ?_ _));exact BK706.out):p:=h
theorem AE {p:Prop} (h:p:=by (with_reducible repeat (first|refine aG ?_ _|refine aH ?_|refine aE ?_ _));exact BK692.out):p:=h
theorem AF {p:Prop} (h:p:=by first|omega|exact Nat.le_refl _):p:=h
theorem AG {p:Prop} (h:p:=by repeat (first|(with_reducible first|exact HB.out|apply aK|apply aC|apply aJ|refine aD ?_ GE123.out|refine aD ?_ GE124.out|refine aD ?_ GE128.out)|exact HB.out)):p:=h
theorem AH {p:Prop} (h:p:=by exact (Reps.one (show Kd.M k59 _ _ _ (⟨([]:List (List (S38)))⟩:S59) [.slice none 0 0] from (k59_mkM _ _ _ (⟨([]:List (List (S38)))⟩:S59) (Kd.R_nil _ _ _ _ _))) (Reps.none _ _))):p:=h
theorem AJ {p:Prop} (h:p:=by repeat (first|(with_reducible first|exact HB.out|apply aK|apply aC|apply aJ|refine aD ?_ (IsS92.ge HI0.out)|refine aD ?_ GE636.out|refine aD ?_ GE643.out)|exact HB.out)):p:=h
theorem AK {p:Prop} (h:p:=by repeat (first|(with_reducible first|exact HB.out|apply aK|apply aC|apply aJ|refine aD ?_ (IsS92.ge HI0.out)|refine aD ?_ GE594.out|refine aD ?_ GE607.out)|exact HB.out)):p:=h
theorem AL {p:Prop} (h:p:=by repeat (first|exact Drawn0.refl _|apply Drawn0.step)):p:=h
theorem AM {p:Prop} (h:p:=by (try simp only [List.map_toArray,List.map_cons,List.map_nil]);first|done|(simp only [hji8];rfl)|rfl|(simp only [List.length_drop,List.length_take];rfl)):p:=h
theorem AN {p:Prop} (h:p:=by exact (Kd.C_below HR717_0.out HB.out)):p:=h
abbrev T1:Bool:=true
abbrev F0:Bool:=false
def bq1 (m n:Nat):Array Bool:=((List.range n).map fun j=>m.testBit j).toArray
end Go.Proofs
namespace Go.Proofs.YtamjbjkbineafaaW.PrintWords
open Go.RowKit
theorem cs1 {w:World} {g:Nat} {t:TypeId} {v0:Value} (h:w.heap[g]? = some (.cells #[v0] t (0,0))):w.cell? ⟨g,0,none⟩ = some v0:=(aN h 0).trans rfl
theorem fs1 {w:World} {g:Nat} {t:TypeId} {v0:Value} (h:w.heap[g]? = some (.cells #[v0] t (0,0))):w.frozen? ⟨g,0,none⟩ = false:=bH h 0
theorem cs2 {w:World} {g:Nat} {t:TypeId} {v0 v1:Value} (h:w.heap[g]? = some (.cells #[v0,v1] t (0,0))):w.cell? ⟨g,0,none⟩ = some v0 ∧ w.cell? ⟨g,1,none⟩ = some v1:=⟨(aN h 0).trans rfl,(aN h 1).trans rfl⟩
theorem fs2 {w:World} {g:Nat} {t:TypeId} {v0 v1:Value} (h:w.heap[g]? = some (.cells #[v0,v1] t (0,0))):w.frozen? ⟨g,0,none⟩ = false ∧ w.frozen? ⟨g,1,none⟩ = false:=⟨bH h 0,bH h 1⟩
theorem cs5 {w:World} {g:Nat} {t:TypeId} {v0 v1 v2 v3 v4:Value} (h:w.heap[g]? = some (.cells #[v0,v1,v2,v3,v4] t (0,0))):w.cell? ⟨g,0,none⟩ = some v0 ∧ w.cell? ⟨g,1,none⟩ = some v1 ∧ w.cell? ⟨g,2,none⟩ = some v2 ∧ w.cell? ⟨g,3,none⟩ = some v3 ∧ w.cell? ⟨g,4,none⟩ = some v4:=⟨(aN h 0).trans rfl,(aN h 1).trans rfl,(aN h 2).trans rfl,(aN h 3).trans rfl,(aN h 4).trans rfl⟩
theorem fs5 {w:World} {g:Nat} {t:TypeId} {v0 v1 v2 v3 v4:Value} (h:w.heap[g]? = some (.cells #[v0,v1,v2,v3,v4] t (0,0))):w.frozen? ⟨g,0,none⟩ = false ∧ w.frozen? ⟨g,1,none⟩ = false ∧ w.frozen? ⟨g,2,none⟩ = false ∧ w.frozen? ⟨g,3,none⟩ = false ∧ w.frozen? ⟨g,4,none⟩ = false:=⟨bH h 0,bH h 1,bH h 2,bH h 3,bH h 4⟩
theorem nF {α:Type} {d:Kd α} {W W1:World} {ok:Nat → Prop} {A:Option Addr} {n:Nat} {xs:List α} (h:aA (Kd.F d W ok A n xs)) (hb:Below W.heap.size W W1:=by exact hb):aA (Kd.F d W1 ok A n xs):=⟨Kd.F_below h.out hb⟩
theorem nB {w w1:World} {g:Nat} {o:Obj} (h:aA (w.heap[g]? = some o)) (hb:Below w.heap.size w w1:=by exact hb):aA (w1.heap[g]? = some o):=⟨blk_below h.out hb⟩
theorem nS {α:Type} {d:Kd α} {e base:Nat} {w w1:World} {ok:Nat → Prop} {v:Value} {xs:List α} (h:aA (Kd.S d e w base ok v xs)) (hb:Below w.heap.size w w1:=by exact hb):aA (Kd.S d e w1 base ok v xs):=⟨Kd.S_below h.out hb⟩
theorem nC {w w2 w1:World} {g:Nat} {o:Obj} (h:aA (w.heap[g]? = some o)) (hb:Below w2.heap.size w2 w1:=by exact hb) (hw:w.heap[g]? = some o → w2.heap[g]? = some o:=by intro z_;(with_reducible repeat (first|refine aG ?_ _|refine aH ?_|refine aE ?_ _));exact z_):aA (w1.heap[g]? = some o):=⟨blk_below (hw h.out) hb⟩
theorem nR {α:Type} {d:Kd α} {e base:Nat} {w w1:World} {ok:Nat → Prop} {v:Value} {xs:List α} (h:aA (Kd.R d e w base ok v xs)) (hb:Below w.heap.size w w1:=by exact hb):aA (Kd.R d e w1 base ok v xs):=⟨Kd.R_below h.out hb⟩
theorem mR {α:Type} {d:Kd α} {e base:Nat} {w w2 w1:World} {ok:Nat → Prop} {v:Value} {xs:List α} (h:aA (Kd.R d e w base ok v xs)) (hb:Below w2.heap.size w2 w1:=by exact hb) (hw:Kd.R d e w base ok v xs → Kd.R d e w2 base ok v xs:=by intro z_;(with_reducible repeat (first|apply Kd.bC|apply Kd.bD|apply Kd.bG));exact z_):aA (Kd.R d e w1 base ok v xs):=⟨Kd.R_below (hw h.out) hb⟩
theorem nN {α:Type} {d:Kd α} {e base:Nat} {w w1:World} {ok:Nat → Prop} {v:Value} {xs:List α} (h:aA (Kd.N d e w base ok v xs)) (hb:Below w.heap.size w w1:=by exact hb):aA (Kd.N d e w1 base ok v xs):=⟨Kd.N_below h.out hb⟩
theorem mN {α:Type} {d:Kd α} {e base:Nat} {w w2 w1:World} {ok:Nat → Prop} {v:Value} {xs:List α} (h:aA (Kd.N d e w base ok v xs)) (hb:Below w2.heap.size w2 w1:=by exact hb) (hw:Kd.N d e w base ok v xs → Kd.N d e w2 base ok v xs:=by intro z_;(with_reducible repeat (first|apply Kd.N_alloc|apply Kd.N_drewN|apply Kd.N_drew));exact z_):aA (Kd.N d e w1 base ok v xs):=⟨Kd.N_below (hw h.out) hb⟩
theorem nL {w:World} {g g':Nat} {o:Obj} (h:aA (w.heap[g]? = some o)) (hg:g' = w.heap.size:=by exact hg):aA (g ≠ g'):=⟨by rw [hg];exact Nat.ne_of_lt (blk_lt h.out)⟩
theorem nG {w:World} {g g':Nat} {o:Obj} (h:aA (w.heap[g]? = some o)) (hg:g' = w.heap.size:=by exact hg):aA (g' ≠ g):=⟨by rw [hg];exact Nat.ne_of_gt (blk_lt h.out)⟩
theorem nK {w w2:World} {g g':Nat} {o:Obj} (h:aA (w.heap[g]? = some o)) (hg:g' = w2.heap.size:=by exact hg) (hw:w.heap[g]? = some o → w2.heap[g]? = some o:=by intro z_;(with_reducible repeat (first|refine aG ?_ _|refine aH ?_|refine aE ?_ _));exact z_):aA (g ≠ g'):=⟨by rw [hg];exact Nat.ne_of_lt (blk_lt (hw h.out))⟩
theorem nH {w w2:World} {g g':Nat} {o:Obj} (h:aA (w.heap[g]? = some o)) (hg:g' = w2.heap.size:=by exact hg) (hw:w.heap[g]? = some o → w2.heap[g]? = some o:=by intro z_;(with_reducible repeat (first|refine aG ?_ _|refine aH ?_|refine aE ?_ _));exact z_):aA (g' ≠ g):=⟨by rw [hg];exact Nat.ne_of_gt (blk_lt (hw h.out))⟩
end Go.Proofs.YtamjbjkbineafaaW.PrintWords

namespace Go.Proofs.Ytamjbjkbineafaa.PFnPacked
open Go.RowKit Go.Proofs.YtamjbjkbineafaaW.PrintWords Go.Proofs.YtamjbjkbineafaaW.PrintLast Go.Proofs.YtamjbjkbineafaaW.PrintMore
attribute [local go_sem] max2_int min2_int max_two min_two max_three min_three max_four min_four   -- for this text's walks alone
set_option linter.unusedVariables false
set_option linter.unusedSimpArgs false
def errW:Option Int → Value
 | none=>.nilIface
 | some c=>.iface 0 (.int .i64 c)
theorem errW_none:errW none = .nilIface:=rfl
theorem errW_some (c:Int):errW (some c) = .iface 0 (.int .i64 c):=rfl
theorem info3:(Try.prog.info? 3).map (fun i=>(i.zero,i.size,i.bytes)) = some (some (.int .i64 0),1,8):=by kernel_rfl
theorem info38:(Try.prog.info? 38).map (fun i=>(i.zero,i.size,i.bytes)) = some (some (.agg #[(.int .i64 0),(.int .i64 0),(.int .i64 0),(.int .i64 0),(.int .i64 0)]),5,40):=by kernel_rfl
theorem info45:(Try.prog.info? 45).map (fun i=>(i.zero,i.size,i.bytes)) = some (some (.slice none 0 0),1,24):=by kernel_rfl
theorem info59:(Try.prog.info? 59).map (fun i=>(i.zero,i.size,i.bytes)) = some (some (.agg #[(.slice none 0 0)]),1,24):=by kernel_rfl
-- the values' own types
structure S38 where
 f0:Int
 f1:Int
 f2:Int
 f3:Int
 f4:Int
def z38:S38:=⟨(0:Int),(0:Int),(0:Int),(0:Int),(0:Int)⟩
def k38:Kd S38:=Kd.iso (Kd.pair (Kd.int .i64) (Kd.pair (Kd.int .i64) (Kd.pair (Kd.int .i64) (Kd.pair (Kd.int .i64) (Kd.int .i64))))) (fun x:S38=>(x.f0,x.f1,x.f2,x.f3,x.f4))
theorem k38_open {w:World} {x:S38} {cs:List Value} (h:k38.K w x cs):cs = [.int .i64 x.f0,.int .i64 x.f1,.int .i64 x.f2,.int .i64 x.f3,.int .i64 x.f4]:=by
 obtain ⟨_,_,rfl,rfl,⟨_,_,rfl,rfl,⟨_,_,rfl,rfl,⟨_,_,rfl,rfl,rfl⟩⟩⟩⟩:=h
 exact rfl
theorem k38_mk (w:World) (x:S38) :k38.K w x [.int .i64 x.f0,.int .i64 x.f1,.int .i64 x.f2,.int .i64 x.f3,.int .i64 x.f4]:=⟨[.int .i64 x.f0],[.int .i64 x.f1,.int .i64 x.f2,.int .i64 x.f3,.int .i64 x.f4],rfl,rfl,⟨[.int .i64 x.f1],[.int .i64 x.f2,.int .i64 x.f3,.int .i64 x.f4],rfl,rfl,⟨[.int .i64 x.f2],[.int .i64 x.f3,.int .i64 x.f4],rfl,rfl,⟨[.int .i64 x.f3],[.int .i64 x.f4],rfl,rfl,rfl⟩⟩⟩⟩
theorem k38_mkM (w:World) (base:Nat) (ok:Nat → Prop) (x:S38) :k38.M w base ok x [.int .i64 x.f0,.int .i64 x.f1,.int .i64 x.f2,.int .i64 x.f3,.int .i64 x.f4]:=⟨[.int .i64 x.f0],[.int .i64 x.f1,.int .i64 x.f2,.int .i64 x.f3,.int .i64 x.f4],rfl,rfl,⟨[.int .i64 x.f1],[.int .i64 x.f2,.int .i64 x.f3,.int .i64 x.f4],rfl,rfl,⟨[.int .i64 x.f2],[.int .i64 x.f3,.int .i64 x.f4],rfl,rfl,⟨[.int .i64 x.f3],[.int .i64 x.f4],rfl,rfl,rfl⟩⟩⟩⟩
def rd_T38 (xs:List S38) (i:Int):S38:=xs.getD i.toNat z38
theorem at_T38 {w:World} {A:Option Addr} {n:Nat} {xs:List S38} (h:Kd.C k38 w A n xs) (i:Int) (h0:0 ≤ i) (h1:i < n):∃ ad ,A = some ad ∧ w.cell? (ad.add (i.toNat * 5)) = some (.int .i64 (rd_T38 xs i).f0) ∧ w.cell? ⟨(ad.add (i.toNat * 5)).block,(ad.add (i.toNat * 5)).off + 1,none⟩ = some (.int .i64 (rd_T38 xs i).f1) ∧ w.cell? ⟨(ad.add (i.toNat * 5)).block,(ad.add (i.toNat * 5)).off + 2,none⟩ = some (.int .i64 (rd_T38 xs i).f2) ∧ w.cell? ⟨(ad.add (i.toNat * 5)).block,(ad.add (i.toNat * 5)).off + 3,none⟩ = some (.int .i64 (rd_T38 xs i).f3) ∧ w.cell? ⟨(ad.add (i.toNat * 5)).block,(ad.add (i.toNat * 5)).off + 4,none⟩ = some (.int .i64 (rd_T38 xs i).f4):=by
 obtain ⟨ad,c,e,_,hK,hc0⟩:=Kd.C_get h z38 i h0 h1
 have hc:∀ j u,c[j]? = some u → w.cell? (ad.add (i.toNat * 5 + j)) = some u:=hc0
 obtain rfl:=k38_open hK
 exact ⟨ad,e,hc 0 _ rfl,by rw [← add_field _ _ 1 tB];exact hc 1 _ rfl,by rw [← add_field _ _ 2 tB];exact hc 2 _ rfl,by rw [← add_field _ _ 3 tB];exact hc 3 _ rfl,by rw [← add_field _ _ 4 tB];exact hc 4 _ rfl⟩
def rd_L2 (xs:List (List S38)) (i:Int):(List S38):=xs.getD i.toNat ([]:List S38)
theorem at_L2 {w:World} {A:Option Addr} {n:Nat} {xs:List (List S38)} (h:Kd.C (Kd.slice 38 k38) w A n xs) (i:Int) (h0:0 ≤ i) (h1:i < n):∃ ad A0 c0,A = some ad ∧ w.cell? (ad.add i.toNat) = some (.slice A0 (rd_L2 xs i).length c0) ∧ (rd_L2 xs i).length ≤ c0 ∧ k38.C w A0 (rd_L2 xs i).length (rd_L2 xs i):=by
 obtain ⟨ad,c,e,_,hK,hc0⟩:=Kd.C_get h ([]:List S38) i h0 h1
 have hc:∀ j u,c[j]? = some u → w.cell? (ad.add (i.toNat * 1 + j)) = some u:=hc0
 obtain ⟨A0,c0,rfl,l0,g0⟩:=hK
 exact ⟨ad,A0,c0,e,by have hq:=hc 0 _ rfl;rwa [Nat.mul_one,Nat.add_zero] at hq,l0,g0⟩
def rd_L3 (xs:List (List (List S38))) (i:Int):(List (List S38)):=xs.getD i.toNat ([]:List (List S38))
structure S59 where
 f0:(List (List S38))
def z59:S59:=⟨([]:List (List S38))⟩
def k59:Kd S59:=Kd.iso (Kd.slice 45 (Kd.slice 38 k38)) (fun x:S59=>x.f0)
theorem k59_open {w:World} {x:S59} {cs:List Value} (h:k59.K w x cs):∃ A0 c0,cs = [.slice A0 x.f0.length c0] ∧ x.f0.length ≤ c0 ∧ (Kd.slice 38 k38).C w A0 x.f0.length x.f0:=by
 obtain ⟨A0,c0,rfl,l0,g0⟩:=h
 exact ⟨A0,c0,rfl,l0,g0⟩
theorem k59_mk (w:World) (x:S59) {A0:Option Addr} {c0:Nat} (l0:x.f0.length ≤ c0) (g0:(Kd.slice 38 k38).C w A0 x.f0.length x.f0):k59.K w x [.slice A0 x.f0.length c0]:=⟨A0,c0,rfl,l0,g0⟩
theorem k59_mkM (w:World) (base:Nat) (ok:Nat → Prop) (x:S59) {v0:Value} (g0:(Kd.slice 38 k38).R 45 w base ok v0 x.f0):k59.M w base ok x [v0]:=⟨v0,rfl,g0⟩
theorem k59_openF {W:World} {ok:Nat → Prop} {x:S59} {cs:List Value} (h:Kd.FK k59 W ok x cs):∃ A0 c0,cs = [.slice A0 x.f0.length c0] ∧ x.f0.length ≤ c0 ∧ Kd.F (Kd.slice 38 k38) W ok A0 x.f0.length x.f0:=by
 obtain ⟨A0,c0,rfl,l0,_⟩:=k59_open (Kd.FK_now h)
 exact ⟨A0,c0,rfl,l0,(fun W' hW=>by obtain ⟨A0_,c0_,he,l0_,g0_⟩:=k59_open (h W' hW);injection (Option.some.inj (show some (Value.slice A0 x.f0.length c0) = some (Value.slice A0_ x.f0.length c0_) from congrArg (fun l=>l[0]?) he)) with ha_ _ _;rw [ha_];exact g0_)⟩
theorem k59_mkF (W:World) (ok:Nat → Prop) (x:S59) {A0:Option Addr} {c0:Nat} (l0:x.f0.length ≤ c0) (g0:Kd.F (Kd.slice 38 k38) W ok A0 x.f0.length x.f0):Kd.FK k59 W ok x [.slice A0 x.f0.length c0]:=fun W2 hW=>k59_mk W2 x l0 (g0 W2 hW)
def rd_T59 (xs:List S59) (i:Int):S59:=xs.getD i.toNat z59
theorem at_T59 {w:World} {A:Option Addr} {n:Nat} {xs:List S59} (h:Kd.C k59 w A n xs) (i:Int) (h0:0 ≤ i) (h1:i < n):∃ ad A0 c0,A = some ad ∧ w.cell? (ad.add i.toNat) = some (.slice A0 (rd_T59 xs i).f0.length c0) ∧ (rd_T59 xs i).f0.length ≤ c0 ∧ (Kd.slice 38 k38).C w A0 (rd_T59 xs i).f0.length (rd_T59 xs i).f0:=by
 obtain ⟨ad,c,e,_,hK,hc0⟩:=Kd.C_get h z59 i h0 h1
 have hc:∀ j u,c[j]? = some u → w.cell? (ad.add (i.toNat * 1 + j)) = some u:=hc0
 obtain ⟨A0,c0,rfl,l0,g0⟩:=k59_open hK
 exact ⟨ad,A0,c0,e,by have hq:=hc 0 _ rfl;rwa [Nat.mul_one,Nat.add_zero] at hq,l0,g0⟩
end Go.Proofs.Ytamjbjkbineafaa.PFnPacked

namespace Go.Proofs.Ytamjbjkbineafaa.PFnPacked
open Go.RowKit Go.Proofs.YtamjbjkbineafaaW.PrintWords Go.Proofs.YtamjbjkbineafaaW.PrintLast Go.Proofs.YtamjbjkbineafaaW.PrintMore
attribute [local go_sem] max2_int min2_int max_two min_two max_three min_three max_four min_four   -- for this text's walks alone
set_option linter.unusedVariables false
set_option linter.unusedSimpArgs false
theorem eqA38 (d:Nat) (w:World) (x0 y0:Int) (x1 y1:Int) (x2 y2:Int) (x3 y3:Int) (x4 y4:Int) :
  (Op.equalIn (d + 2) 38 (.agg #[.int .i64 x0,.int .i64 x1,.int .i64 x2,.int .i64 x3,.int .i64 x4]) (.agg #[.int .i64 y0,.int .i64 y1,.int .i64 y2,.int .i64 y3,.int .i64 y4])).run Try.prog w = .ok (x0 == y0 && (x1 == y1 && (x2 == y2 && (x3 == y3 && (x4 == y4))))) w:=by
 refine eqA_of Try.underlying38 tH ?_
 refine eqf_cons vH (by go_simp;rfl) (by go_simp;rfl) (by go_simp) ?_
 refine eqf_cons vH (by go_simp;rfl) (by go_simp;rfl) (by go_simp) ?_
 refine eqf_cons vH (by go_simp;rfl) (by go_simp;rfl) (by go_simp) ?_
 refine eqf_cons vH (by go_simp;rfl) (by go_simp;rfl) (by go_simp) ?_
 exact eqf_last vH (by go_simp;rfl) (by go_simp;rfl) (by go_simp)
end Go.Proofs.Ytamjbjkbineafaa.PFnPacked

namespace Go.Proofs.YtamjbjkbineafaaW.PrintLast
open Go.RowKit Go.Proofs.YtamjbjkbineafaaW.PrintWords
theorem pu {P:Program} {ops:Array Oper} {Q:Exit → Act → World → Prop} {md:Region.Mode} {S:World → Prop} {ds:List Nat} {i:Nat} {N:Option Tmp} {oi:Oper} {v:Value} {fuel:Nat} {l:Array Bool} {a a':Act} {w:World} (l':Array Bool) (h:wpAnyLast P md ops Q S ds fuel l' a' w) (hi:ops[i]? = some oi:=by rfl) (hN:oi.dst = N:=by rfl) (hc:anyB md ops l l' i = true:=by exact any_of HT_.out tH) (hQ:∀ c a w,Q (.panic c) (a.put oi.dst v) w → Q (.panic c) a w:=by exact fun _ _ _ h=>h) (hw:Region.wanted oi (yielded ops a.tmps) = true:=by rfl) (hy:∀ w',(execOp a.eval oi).run P w' = .ok (.value v) w':=by intro w';go_simp;with_reducible rfl) (ha:a.put N v = a':=by simp only [Act.put,lA,lB,lC,i64_w,i32_w];rfl):wpAnyLast P md ops Q S ds (fuel + 1) l a w:=pure_ l' hi hN hc hQ (Or.inl ⟨hw,hy⟩) ha h
theorem pv {P:Program} {ops:Array Oper} {Q:Exit → Act → World → Prop} {md:Region.Mode} {S:World → Prop} {ds:List Nat} {i:Nat} {N:Option Tmp} {oi:Oper} {fuel:Nat} {l:Array Bool} {a a':Act} {w:World} (l':Array Bool) (h:wpAnyLast P md ops Q S ds fuel l' a' w) (hi:ops[i]? = some oi:=by rfl) (hN:oi.dst = N:=by rfl) (hc:anyB md ops l l' i = true:=by exact any_of HT_.out tH) (hQ:∀ c a w,Q (.panic c) (a.put oi.dst undef) w → Q (.panic c) a w:=by exact fun _ _ _ h=>h) (hw:Region.wanted oi (yielded ops a.tmps) = false:=by rfl) (ha:a.put N undef = a':=by simp only [Act.put,lA,lB,lC,i64_w,i32_w];rfl):wpAnyLast P md ops Q S ds (fuel + 1) l a w:=pure_ l' hi hN hc hQ (Or.inr ⟨hw,rfl⟩) ha h
theorem tu2 {P:Program} {ops:Array Oper} {Q:Exit → Act → World → Prop} {md:Region.Mode} {S:World → Prop} {ds:List Nat} {i:Nat} {N:Option Tmp} {oi:Oper} {v:Value} {fuel:Nat} {l:Array Bool} {a a':Act} {w:World} (l':Array Bool) (h:wpAnyLast P md ops Q S ds fuel l' a' w) (hi:ops[i]? = some oi:=by rfl) (hN:oi.dst = N:=by rfl) (hc:takeB md ops ds l l' i = true:=by exact take_ofW HT_.out HW_.out tH) (hQ:∀ c a w,Q (.panic c) (a.put oi.dst v) w → Q (.panic c) a w:=by exact fun _ _ _ h=>h) (hw:Region.wanted oi (yielded ops a.tmps) = true:=by rfl) (hy:∀ w',S w' → (execOp a.eval oi).run P w' = .ok (.value v) w':=by rintro w' ⟨s0,s1⟩;go_simp;with_reducible rfl) (hS:S w:=by exact hHeld) (ha:a.put N v = a':=by simp only [Act.put,lA,lB,lC,i64_w,i32_w];rfl):wpAnyLast P md ops Q S ds (fuel + 1) l a w:=take_ l' hi hN hc hQ (Or.inl ⟨hw,hy⟩) hS ha h
theorem tu3 {P:Program} {ops:Array Oper} {Q:Exit → Act → World → Prop} {md:Region.Mode} {S:World → Prop} {ds:List Nat} {i:Nat} {N:Option Tmp} {oi:Oper} {v:Value} {fuel:Nat} {l:Array Bool} {a a':Act} {w:World} (l':Array Bool) (h:wpAnyLast P md ops Q S ds fuel l' a' w) (hi:ops[i]? = some oi:=by rfl) (hN:oi.dst = N:=by rfl) (hc:takeB md ops ds l l' i = true:=by exact take_ofW HT_.out HW_.out tH) (hQ:∀ c a w,Q (.panic c) (a.put oi.dst v) w → Q (.panic c) a w:=by exact fun _ _ _ h=>h) (hw:Region.wanted oi (yielded ops a.tmps) = true:=by rfl) (hy:∀ w',S w' → (execOp a.eval oi).run P w' = .ok (.value v) w':=by rintro w' ⟨s0,s1,s2⟩;go_simp;with_reducible rfl) (hS:S w:=by exact hHeld) (ha:a.put N v = a':=by simp only [Act.put,lA,lB,lC,i64_w,i32_w];rfl):wpAnyLast P md ops Q S ds (fuel + 1) l a w:=take_ l' hi hN hc hQ (Or.inl ⟨hw,hy⟩) hS ha h
theorem tu4 {P:Program} {ops:Array Oper} {Q:Exit → Act → World → Prop} {md:Region.Mode} {S:World → Prop} {ds:List Nat} {i:Nat} {N:Option Tmp} {oi:Oper} {v:Value} {fuel:Nat} {l:Array Bool} {a a':Act} {w:World} (l':Array Bool) (h:wpAnyLast P md ops Q S ds fuel l' a' w) (hi:ops[i]? = some oi:=by rfl) (hN:oi.dst = N:=by rfl) (hc:takeB md ops ds l l' i = true:=by exact take_ofW HT_.out HW_.out tH) (hQ:∀ c a w,Q (.panic c) (a.put oi.dst v) w → Q (.panic c) a w:=by exact fun _ _ _ h=>h) (hw:Region.wanted oi (yielded ops a.tmps) = true:=by rfl) (hy:∀ w',S w' → (execOp a.eval oi).run P w' = .ok (.value v) w':=by rintro w' ⟨s0,s1,s2,s3⟩;go_simp;with_reducible rfl) (hS:S w:=by exact hHeld) (ha:a.put N v = a':=by simp only [Act.put,lA,lB,lC,i64_w,i32_w];rfl):wpAnyLast P md ops Q S ds (fuel + 1) l a w:=take_ l' hi hN hc hQ (Or.inl ⟨hw,hy⟩) hS ha h
theorem tu5 {P:Program} {ops:Array Oper} {Q:Exit → Act → World → Prop} {md:Region.Mode} {S:World → Prop} {ds:List Nat} {i:Nat} {N:Option Tmp} {oi:Oper} {v:Value} {fuel:Nat} {l:Array Bool} {a a':Act} {w:World} (l':Array Bool) (h:wpAnyLast P md ops Q S ds fuel l' a' w) (hi:ops[i]? = some oi:=by rfl) (hN:oi.dst = N:=by rfl) (hc:takeB md ops ds l l' i = true:=by exact take_ofW HT_.out HW_.out tH) (hQ:∀ c a w,Q (.panic c) (a.put oi.dst v) w → Q (.panic c) a w:=by exact fun _ _ _ h=>h) (hw:Region.wanted oi (yielded ops a.tmps) = true:=by rfl) (hy:∀ w',S w' → (execOp a.eval oi).run P w' = .ok (.value v) w':=by rintro w' ⟨s0,s1,s2,s3,s4⟩;go_simp;with_reducible rfl) (hS:S w:=by exact hHeld) (ha:a.put N v = a':=by simp only [Act.put,lA,lB,lC,i64_w,i32_w];rfl):wpAnyLast P md ops Q S ds (fuel + 1) l a w:=take_ l' hi hN hc hQ (Or.inl ⟨hw,hy⟩) hS ha h
theorem tu6 {P:Program} {ops:Array Oper} {Q:Exit → Act → World → Prop} {md:Region.Mode} {S:World → Prop} {ds:List Nat} {i:Nat} {N:Option Tmp} {oi:Oper} {v:Value} {fuel:Nat} {l:Array Bool} {a a':Act} {w:World} (l':Array Bool) (h:wpAnyLast P md ops Q S ds fuel l' a' w) (hi:ops[i]? = some oi:=by rfl) (hN:oi.dst = N:=by rfl) (hc:takeB md ops ds l l' i = true:=by exact take_ofW HT_.out HW_.out tH) (hQ:∀ c a w,Q (.panic c) (a.put oi.dst v) w → Q (.panic c) a w:=by exact fun _ _ _ h=>h) (hw:Region.wanted oi (yielded ops a.tmps) = true:=by rfl) (hy:∀ w',S w' → (execOp a.eval oi).run P w' = .ok (.value v) w':=by rintro w' ⟨s0,s1,s2,s3,s4,s5⟩;go_simp;with_reducible rfl) (hS:S w:=by exact hHeld) (ha:a.put N v = a':=by simp only [Act.put,lA,lB,lC,i64_w,i32_w];rfl):wpAnyLast P md ops Q S ds (fuel + 1) l a w:=take_ l' hi hN hc hQ (Or.inl ⟨hw,hy⟩) hS ha h
theorem tu10 {P:Program} {ops:Array Oper} {Q:Exit → Act → World → Prop} {md:Region.Mode} {S:World → Prop} {ds:List Nat} {i:Nat} {N:Option Tmp} {oi:Oper} {v:Value} {fuel:Nat} {l:Array Bool} {a a':Act} {w:World} (l':Array Bool) (h:wpAnyLast P md ops Q S ds fuel l' a' w) (hi:ops[i]? = some oi:=by rfl) (hN:oi.dst = N:=by rfl) (hc:takeB md ops ds l l' i = true:=by exact take_ofW HT_.out HW_.out tH) (hQ:∀ c a w,Q (.panic c) (a.put oi.dst v) w → Q (.panic c) a w:=by exact fun _ _ _ h=>h) (hw:Region.wanted oi (yielded ops a.tmps) = true:=by rfl) (hy:∀ w',S w' → (execOp a.eval oi).run P w' = .ok (.value v) w':=by rintro w' ⟨s0,s1,s2,s3,s4,s5,s6,s7,s8,s9⟩;go_simp;with_reducible rfl) (hS:S w:=by exact hHeld) (ha:a.put N v = a':=by simp only [Act.put,lA,lB,lC,i64_w,i32_w];rfl):wpAnyLast P md ops Q S ds (fuel + 1) l a w:=take_ l' hi hN hc hQ (Or.inl ⟨hw,hy⟩) hS ha h
end Go.Proofs.YtamjbjkbineafaaW.PrintLast

namespace Go.Proofs.Ytamjbjkbineafaa.PFnPacked
open Go.RowKit Go.Proofs.YtamjbjkbineafaaW.PrintWords Go.Proofs.YtamjbjkbineafaaW.PrintLast Go.Proofs.YtamjbjkbineafaaW.PrintMore
attribute [local go_sem] max2_int min2_int max_two min_two max_three min_three max_four min_four   -- for this text's walks alone
set_option linter.unusedVariables false
set_option linter.unusedSimpArgs false
def impl_copyInts.f (l0:List Int):Option (List Int):=(some (([]:List Int):List Int)).bind fun y101=>(if y101.length + l0.length < 17592186044416 then (some (y101 ++ l0)) else (none))
set_option maxHeartbeats 8000000 in
set_option maxRecDepth 100000 in
theorem impl_copyInts.calls (A0:Option Addr) (c0:Nat) (l0:List Int) (r:List Int) (w:World) (hr0:Kd.C (Kd.int .i64) w A0 l0.length l0) (hc0:l0.length ≤ c0) (h:impl_copyInts.f l0 = some r) :
  Calls Try.prog 69 #[.slice A0 l0.length c0] w fun e w'=>∃ v0_:Value,e = .returned (v0_) ∧ Kd.R (Kd.int .i64) 3 w' w.heap.size (fun _=>True) v0_ r ∧ Below w.heap.size w w':=by
 have HR0:=aA.mk hr0
 have HC0:=aA.mk hc0
 clear hr0 hc0
 have HB:=aA.mk (Below.refl w.heap.size w)
 have H:((some (([]:List Int):List Int)).bind fun y101=>(if y101.length + l0.length < 17592186044416 then (some (y101 ++ l0)) else (none))) = some r:=h
 clear h
 obtain ⟨y101,hy101⟩:∃ y_:List Int,y_ = (([]:List Int)):=⟨_,rfl⟩
 replace H:(if y101.length + l0.length < 17592186044416 then (some (y101 ++ l0)) else (none)) = some r:=by first|(rw [hy101];with_reducible exact H)|(have H2_:=(Option.bind_some _ _).symm.trans H;rw [hy101];with_reducible exact H2_)|(have H2_:=(Option.bind_some _ _).symm.trans H;with_reducible exact H2_)|with_reducible exact H|(rw [hy101];exact H)|exact H
 have Ny101:=aA.mk hy101
 clear hy101
 by_cases c2:y101.length + l0.length < 17592186044416
 ·rw [if_pos c2] at H
  have LMc2:=aA.mk c2
  clear c2
  obtain ⟨y104,hy104⟩:∃ y_:List Int,y_ = (y101 ++ l0):=⟨_,rfl⟩
  replace H:(some y104) = some r:=by first|(rw [hy104];with_reducible exact H)|(have H2_:=(Option.bind_some _ _).symm.trans H;rw [hy104];with_reducible exact H2_)|(have H2_:=(Option.bind_some _ _).symm.trans H;with_reducible exact H2_)|with_reducible exact H|(rw [hy104];exact H)|exact H
  have Ny104:=aA.mk hy104
  clear hy104
  obtain rfl:=Option.some.inj H
  go_enter Try.func69,Try.ntmps69
  go_wp2_with (first|((with_reducible refine aZ (N:=3) rfl ?_);refine Kd.R_lit (Kd.int .i64) _ 3 ?hg (N:=3) ?hd (xs:=([]:List Int)) (inner:=[]) (ok:=fun _=>True) (okp:=fun _=>True) ?hr ?hp (fun _ hk=>hk) trivial (Below.refl _ _) (Nat.le_refl _) te ?_;(case hd=>rfl);(case hg=>rfl);(case hr=>exact tJ);(case hp=>exact (Reps.none _ _));intro v102 w3 ho4 hb hg_ hnew_;clear hg_ hnew_;(first|rw [← Ny101.out] at ho4|(simp only [Int.reduceToNat] at ho4;rw [← Ny101.out] at ho4));have HO103:=aA.mk (Kd.R_lower ho4 (aM HB.out));replace HB:=aA.mk (aQ HB.out hb);clear hb ho4)|((with_reducible refine gate_builtin (b:=.append) (xs:=#[.tmp 3,.tmp 4]) rfl ?_);at_builtin;refine Kd.R_append_rows (Kd.int .i64) (w0:=w) w.heap.size rfl (.tmp 3) (.tmp 4) 22 3 (.int .i64 0) 8 rfl Try.underlying22 info3 rfl tb tB v102 y101 l0 _ _ _ (fun _=>True) (fun _=>False) rfl rfl ?aO ?aR (fun _ _ h=>h) (fun _ h=>h.elim) ?aF ?aB ?aS ?aL ?_;(case aR=>exact (Kd.C_below HR0.out HB.out));(case aB=>exact HB.out);(case aF=>exact (fun _ _=>trivial));(case aO=>exact HO103.out);(case aS=>exact (aM HB.out));(case aL=>have:=LMc2.out;omega);intro v105 w5 ho hb hg hat;rw [← Ny104.out] at ho;replace HB:=aA.mk (hb);have HO106:=aA.mk (ho);clear HO103;clear ho hb hg hat))
  go_ret
  exact ⟨_,tC,by (with_reducible repeat (first|apply Kd.bC|apply Kd.bD|apply Kd.bG));exact HO106.out,tj⟩
 ·rw [if_neg c2] at H
  exact vM
def impl_copyKeys.f (l0:List (S38)):Option ((List (S38))):=(some (([]:List (S38)):List (S38))).bind fun y107=>(if y107.length + l0.length < 3518437208883 then (some (y107 ++ l0)) else (none))
set_option maxHeartbeats 8000000 in
set_option maxRecDepth 100000 in
theorem impl_copyKeys.calls (A0:Option Addr) (c0:Nat) (l0:List (S38)) (r:List (S38)) (w:World) (hr0:Kd.C k38 w A0 l0.length l0) (hc0:l0.length ≤ c0) (h:impl_copyKeys.f l0 = some r) :
  Calls Try.prog 91 #[.slice A0 l0.length c0] w fun e w'=>∃ v0_:Value,e = .returned (v0_) ∧ Kd.R k38 38 w' w.heap.size (fun _=>True) v0_ r ∧ Below w.heap.size w w':=by
 have HR0:=aA.mk hr0
 have HC0:=aA.mk hc0
 clear hr0 hc0
 have HB:=aA.mk (Below.refl w.heap.size w)
 have H:((some (([]:List (S38)):List (S38))).bind fun y107=>(if y107.length + l0.length < 3518437208883 then (some (y107 ++ l0)) else (none))) = some r:=h
 clear h
 obtain ⟨y107,hy107⟩:∃ y_:List (S38),y_ = (([]:List (S38))):=⟨_,rfl⟩
 replace H:(if y107.length + l0.length < 3518437208883 then (some (y107 ++ l0)) else (none)) = some r:=by first|(rw [hy107];with_reducible exact H)|(have H2_:=(Option.bind_some _ _).symm.trans H;rw [hy107];with_reducible exact H2_)|(have H2_:=(Option.bind_some _ _).symm.trans H;with_reducible exact H2_)|with_reducible exact H|(rw [hy107];exact H)|exact H
 have Ny107:=aA.mk hy107
 clear hy107
 by_cases c2:y107.length + l0.length < 3518437208883
 ·rw [if_pos c2] at H
  have LMc2:=aA.mk c2
  clear c2
  obtain ⟨y110,hy110⟩:∃ y_:List (S38),y_ = (y107 ++ l0):=⟨_,rfl⟩
  replace H:(some y110) = some r:=by first|(rw [hy110];with_reducible exact H)|(have H2_:=(Option.bind_some _ _).symm.trans H;rw [hy110];with_reducible exact H2_)|(have H2_:=(Option.bind_some _ _).symm.trans H;with_reducible exact H2_)|with_reducible exact H|(rw [hy110];exact H)|exact H
  have Ny110:=aA.mk hy110
  clear hy110
  obtain rfl:=Option.some.inj H
  go_enter Try.func91,Try.ntmps91
  go_wp2_with (first|((with_reducible refine aZ (N:=3) rfl ?_);refine Kd.R_lit k38 _ 38 ?hg (N:=3) ?hd (xs:=([]:List (S38))) (inner:=[]) (ok:=fun _=>True) (okp:=fun _=>True) ?hr ?hp (fun _ hk=>hk) trivial (Below.refl _ _) (Nat.le_refl _) te ?_;(case hd=>rfl);(case hg=>rfl);(case hr=>exact tJ);(case hp=>exact (Reps.none _ _));intro v108 w3 ho4 hb hg_ hnew_;clear hg_ hnew_;(first|rw [← Ny107.out] at ho4|(simp only [Int.reduceToNat] at ho4;rw [← Ny107.out] at ho4));have HO109:=aA.mk (Kd.R_lower ho4 (aM HB.out));replace HB:=aA.mk (aQ HB.out hb);clear hb ho4)|((with_reducible refine gate_builtin (b:=.append) (xs:=#[.tmp 3,.tmp 4]) rfl ?_);at_builtin;refine Kd.R_append_rows k38 (w0:=w) w.heap.size rfl (.tmp 3) (.tmp 4) 45 38 (.agg #[(.int .i64 0),(.int .i64 0),(.int .i64 0),(.int .i64 0),(.int .i64 0)]) 40 rfl Try.underlying45 info38 rfl tb tB v108 y107 l0 _ _ _ (fun _=>True) (fun _=>False) rfl rfl ?aO ?aR (fun _ _ h=>h) (fun _ h=>h.elim) ?aF ?aB ?aS ?aL ?_;(case aR=>exact (Kd.C_below HR0.out HB.out));(case aB=>exact HB.out);(case aF=>exact (fun _ _=>trivial));(case aO=>exact HO109.out);(case aS=>exact (aM HB.out));(case aL=>have:=LMc2.out;omega);intro v111 w5 ho hb hg hat;rw [← Ny110.out] at ho;replace HB:=aA.mk (hb);have HO112:=aA.mk (ho);clear HO109;clear ho hb hg hat))
  go_ret
  exact ⟨_,tC,by (with_reducible repeat (first|apply Kd.bC|apply Kd.bD|apply Kd.bG));exact HO112.out,tj⟩
 ·rw [if_neg c2] at H
  exact vM
def impl_copyNode.l0:Nat → List (List (S38)) → Int → Int → List (List (S38)) → Option ((List (List (S38))))
 | 0,_,_,_,_=>none
 | k + 1,x8,x9,x10,x116000=>if x10 < x9 then (if 0 ≤ x10 then (if x10 < (x8.length:Int) then ((impl_copyKeys.f (rd_L2 x8 x10)).bind fun t117=>(if x116000.length < 5864062014805 then (impl_copyNode.l0 k x8 x9 (wrap64 (x10 + 1)) (x116000 ++ [t117])) else (none))) else (none)) else (none)) else (some x116000)
def impl_copyNode.f (k:Nat) (l0_0:List (List (S38))):Option ((List (List (S38)))):=impl_copyNode.l0 k l0_0 (l0_0.length:Int) 0 ([]:List (List (S38)))
def impl_copyNode.T5:Bool × List (List Nat × List Nat):=(true,[([],[]),([0],[0]),([],[]),([2],[2]),([3],[3]),([1,4,3],[1,4]),([0,1,2,3,4,5],[]),([6,5,5,0,1,2,3,4,5],[5,6])])
def impl_copyNode.B5:List Nat:=[0,1,0,4,12,31,63,127]
theorem impl_copyNode.tab5:rtab .any (opsOf Try.f70 5) = impl_copyNode.T5:=by kernel_rfl
theorem impl_copyNode.bits5:waitsOk impl_copyNode.T5.2 impl_copyNode.B5 = true:=by kernel_rfl
set_option maxHeartbeats 8000000 in
set_option maxRecDepth 100000 in
theorem impl_copyNode.calls (k:Nat) (A0_0:Option Addr) (c0_0:Nat) (l0_0:List (List (S38))) (r:List (List (S38))) (w:World) (hr0_0:Kd.C (Kd.slice 38 k38) w A0_0 l0_0.length l0_0) (hc0_0:l0_0.length ≤ c0_0) (h:impl_copyNode.f k l0_0 = some r) :
  Calls Try.prog 70 #[.agg #[.slice A0_0 l0_0.length c0_0]] w fun e w'=>∃ v0_:Value,e = .returned (.agg #[v0_]) ∧ Kd.S (Kd.slice 38 k38) 45 w' w.heap.size (fun _=>True) v0_ r ∧ Below w.heap.size w w':=by
 have hu59:=Try.underlying59
 have HR0_0:=aA.mk hr0_0
 have HC0_0:=aA.mk hc0_0
 clear hr0_0 hc0_0
 have HB:=aA.mk (Below.refl w.heap.size w)
 have H:(impl_copyNode.l0 k l0_0 (l0_0.length:Int) 0 ([]:List (List (S38)))) = some r:=h
 clear h
 have H':=aA.mk H
 clear H
 go_enter Try.func70,Try.ntmps70
 go_wp2_with (first|((with_reducible refine aZ (N:=1) rfl ?_);refine bB ?hg (N:=1) ?hd (cs:=#[.slice A0_0 l0_0.length c0_0]) (t:=59) ?hr ?_;(case hd=>rfl);(case hg=>rfl);(case hr=>exact tJ);intro gb113 hg w2 hbox hb;have BK113:=aA.mk (hbox);have GW113:=aA.mk ((by rw [hg];exact (aM HB.out):w.heap.size ≤ gb113));have GE113:=aA.mk ((by rw [hg];exact (aM HB.out):w.heap.size ≤ gb113));replace HB:=aA.mk (aQ HB.out hb);clear hb hbox hg)|((with_reducible refine aZ (N:=2) rfl ?_);refine bB ?hg (N:=2) ?hd (cs:=#[.slice none 0 0]) (t:=59) ?hr ?_;(case hd=>rfl);(case hg=>rfl);(case hr=>exact tJ);intro gb114 hg w3 hbox hb;have BK114:=aA.mk (hbox);have GW114:=aA.mk ((by rw [hg];exact (aM HB.out):w.heap.size ≤ gb114));have GE114:=aA.mk ((by rw [hg];exact (aM HB.out):w.heap.size ≤ gb114));replace HB:=aA.mk (aQ HB.out hb);have NB113_114:=nL BK113;have NB114_113:=nG BK113;replace BK113:=nB BK113;clear hb hbox hg)|((with_reducible refine aZ (N:=3) rfl ?_);refine bB ?hg (N:=3) ?hd (cs:=#[.slice none 0 0]) (t:=59) ?hr ?_;(case hd=>rfl);(case hg=>rfl);(case hr=>exact tJ);intro gb115 hg w4 hbox hb;have BK115:=aA.mk (hbox);have GW115:=aA.mk ((by rw [hg];exact (aM HB.out):w.heap.size ≤ gb115));have GE115:=aA.mk ((by rw [hg];exact (aM HB.out):w.heap.size ≤ gb115));replace HB:=aA.mk (aQ HB.out hb);have NB113_115:=nL BK113;have NB115_113:=nG BK113;replace BK113:=nB BK113;have NB114_115:=nL BK114;have NB115_114:=nG BK114;replace BK114:=nB BK114;clear hb hbox hg;have hnb5:=NB115_113.out;have hnc5:=NB113_115.out;have hnb6:=NB115_114.out;have hnc6:=NB114_115.out;have hcz7_0:=cs1 BK115.out;have hfz7_0:=fs1 BK115.out;have hnb8:=NB113_114.out;have hnc8:=NB114_113.out;have hcz9_0:=cs1 BK113.out;have hfz9_0:=fs1 BK113.out))
 go_loopg [10] k (fun kq v10 w'=>∃ (x10_1:Int) (x116000_1:List (List (S38))) (u116000:Value),v10 = .int .i64 x10_1 ∧ aA (impl_copyNode.l0 kq l0_0 (l0_0.length:Int) x10_1 x116000_1 = some r) ∧ aA (kq ≤ k) ∧ aA (Kd.S (Kd.slice 38 k38) 45 w' w.heap.size (fun _=>True) u116000 x116000_1) ∧ aA (w'.heap[gb113]? = some (.cells #[(.slice A0_0 l0_0.length c0_0)] 59 (0,0))) ∧ aA (w'.heap[gb114]? = some (.cells #[(.slice none 0 0)] 59 (0,0))) ∧ aA (w'.heap[gb115]? = some (.cells #[u116000] 59 (0,0))) ∧ aA (Below w.heap.size w w'))
 case atStart=>exact ⟨(0),(([]:List (List (S38)))),(.slice none 0 0),tG,H',⟨Nat.le_refl _⟩,⟨by first|exact Kd.S_nil _ _ _ _ _|exact Kd.N_nil _ _ _ _ _|exact Kd.V_nil _ _ _ _ _|exact Kd.Q_nil _ _ _ _ _|exact Kd.R_nil _ _ _ _ _⟩,⟨wu⟩,⟨wq⟩,⟨by (with_reducible repeat (first|refine aG ?_ _|refine aH ?_|refine aE ?_ _));refine aT (cs:=#[.slice none 0 0]) ?_ 0 _ rfl;(with_reducible repeat (first|refine aG ?_ _|refine aH ?_|refine aE ?_ _));exact BK115.out⟩,⟨wE⟩⟩
 case round =>
  clear H'
  try clear p2
  try clear c5
  try clear c6
  try clear c7
  try clear c8
  try clear hcz7_0
  try clear hcz9_0
  try clear hfz7_0
  try clear hfz9_0
  obtain ⟨x10_1,x116000_1,u116000,rfl,HA,HK1,HO_116000,BK113,BK114,BK115,HB⟩:=hrel
  cases gk with
  | zero=>exact absurd HA.out (by simp [impl_copyNode.l0])
  | succ k1 =>
   have H:=HA.out
   clear HA
   simp only [impl_copyNode.l0] at H
   by_cases c10:x10_1 < (l0_0.length:Int)
   ·rw [if_pos c10] at H
    have c10b0:decide (x10_1 < (l0_0.length:Int)) = true:=decide_eq_true c10
    clear c10
    by_cases c11:0 ≤ x10_1
    ·rw [if_pos c11] at H
     have c11b0:decide (0 ≤ x10_1) = true:=decide_eq_true c11
     clear c11
     by_cases c12:x10_1 < (l0_0.length:Int)
     ·rw [if_pos c12] at H
      have c12b0:decide (x10_1 < (l0_0.length:Int)) = true:=decide_eq_true c12
      clear c12
      replace H:=lF H
      obtain ⟨t117,A130,H⟩:=H
      replace H:(if x116000_1.length < 5864062014805 then (impl_copyNode.l0 k1 l0_0 (l0_0.length:Int) (wrap64 (x10_1 + 1)) (x116000_1 ++ [t117])) else (none)) = some r:=H
      have A13:=aA.mk A130
      clear A130
      by_cases c14:x116000_1.length < 5864062014805
      ·rw [if_pos c14] at H
       have LMc14:=aA.mk c14
       clear c14
       obtain ⟨y120,hy120⟩:∃ y_:List (List (S38)),y_ = (x116000_1 ++ [t117]):=⟨_,rfl⟩
       replace H:(impl_copyNode.l0 k1 l0_0 (l0_0.length:Int) (wrap64 (x10_1 + 1)) y120) = some r:=by first|(rw [hy120];with_reducible exact H)|(have H2_:=(Option.bind_some _ _).symm.trans H;rw [hy120];with_reducible exact H2_)|(have H2_:=(Option.bind_some _ _).symm.trans H;with_reducible exact H2_)|with_reducible exact H|(rw [hy120];exact H)|exact H
       have Ny120:=aA.mk hy120
       clear hy120
       have H':=aA.mk H
       clear H
       have p116:0 ≤ (x10_1:Int):=lE tF
       have q116:x10_1 < (l0_0.length:Int):=lE tF
       obtain ⟨ad116,A116_0,c116_0,e116,hx116_0,hl116_0,hi116_0⟩:=at_L2 HR0_0.out x10_1 p116 q116
       cases e116
       replace hx116_0:=(HB.out.cell (lD w _ hx116_0)).trans hx116_0
       have HR116_0:=aA.mk hi116_0
       have HC116_0:=aA.mk hl116_0
       clear hi116_0 hl116_0
       replace p116:=eq_true p116
       replace q116:=eq_true q116
       try go_wp2
       replace HO_116000:=aA.mk (Kd.S_drew HO_116000.out)
       replace BK113:=aA.mk (aH BK113.out)
       replace BK114:=aA.mk (aH BK114.out)
       replace BK115:=aA.mk (aH BK115.out)
       replace HB:=aA.mk (aJ HB.out)
       refine start_ (n:=8) (S:=fun w'=>w'.cell? ⟨gb115,0,none⟩ = some (u116000)) (ds:=[7]) #[F0,F0,F0,F0,F0,F0,F0,F0] tH rfl rfl ((aN BK115.out 0).trans rfl) (fun hHeld=>?_);refine with_tabW impl_copyNode.tab5 impl_copyNode.bits5 (fun HT_ HW_=>?_)
       generalize wr.drew = w15 at HO_116000 BK113 BK114 BK115 HB hHeld ⊢
       refine pu (i:=0) (N:=some 14) (bq1 1 8) ?_
       refine pu (i:=2) (N:=some 16) (bq1 5 8) ?_
       refine take_ (i:=1) (N:=some 15) (v:=?_) (a':=?_) (bq1 7 8) rfl rfl (take_ofW HT_.out HW_.out tH) (fun _ _ _ h=>h) (Or.inl ⟨by rfl,?_⟩) hHeld ?_ ?_
       rotate_left
       ·intro w' s0
        go_simp
        with_reducible rfl
       rotate_left
       ·simp only [Act.put,lA,lB,lC,i64_w,i32_w]
        rfl
       refine one_ (i:=3) (N:=some 17) (bq1 15 8) rfl rfl (one_of HT_.out tH) tb (fun K hK=>?_)
       refine goes_ Try.func91 tH rfl #[.slice A116_0 (rd_L2 l0_0 x10_1).length c116_0] vH rfl rfl tA ?_
       with_reducible refine (impl_copyKeys.calls _ _ (rd_L2 l0_0 x10_1) t117 _ ?side1 ?side2 A13.out).mono ?_
       (case side1=>exact (Kd.C_below HR116_0.out HB.out))
       (case side2=>exact HC116_0.out)
       rintro e w16 ⟨v118,rfl,ho0,hb⟩
       refine ⟨_,rfl,?_⟩
       replace HO_116000:=aA.mk (Kd.S_elder' HO_116000.out (Kd.R_base ho0) hb)
       have HO119:=aA.mk (Kd.R_lower ho0 (aM HB.out))
       replace BK113:=nB BK113
       replace BK114:=nB BK114
       replace BK115:=nB BK115
       replace HB:=aA.mk (aQ HB.out hb)
       (try clear hb)
       (try clear hb2)
       (try clear hk)
       (try clear hi)
       (try clear ho0)
       obtain ⟨Ao18,co18,eo18⟩:=Kd.R_slice HO119.out
       (first|subst eo18|(injection eo18 with f1_ f2_ f3_;have f4_:=f1_.symm;have f5_:=f3_.symm;clear f1_ f2_ f3_;subst f4_;subst f5_))
       refine hK.out _ _ ((aN BK115.out 0).trans rfl) (fun hHeld=>?_)
       clear hK K
       refine norm_ (a':=?_) ?_ ?_
       rotate_left
       ·show Act.put _ (some 17) _ = _
        simp only [Act.put,lA,lB,lC,i64_w,i32_w]
        rfl
       refine one_ (i:=4) (N:=some 18) (bq1 31 8) rfl rfl (one_of HT_.out tH) tb (fun K hK=>?_)
       refine value_ (w1:=?_) (v:=?_) vH rfl ?_ ?_
       rotate_left 2
       ·go_simp
        constructor
        ·rfl
        ·rfl
       refine hK.out _ _ ((aN (aE BK115.out _) 0).trans rfl) (fun hHeld=>?_)
       clear hK K
       refine norm_ (a':=?_) ?_ ?_
       rotate_left
       ·show Act.put _ (some 18) _ = _
        simp only [Act.put,lA,lB,lC,i64_w,i32_w]
        rfl
       refine one_ (i:=5) (N:=some 19) (bq1 63 8) rfl rfl (one_of HT_.out tH) tb (fun K hK=>?_)
       refine Kd.S_append_step (Kd.slice 38 k38) (w0:=w) w.heap.size vH (.tmp 15) (.tmp 18) 57 45 (.slice none 0 0) 24 rfl Try.underlying57 info45 rfl tb tB u116000 x116000_1 t117 [.slice Ao18 t117.length co18] (fun _=>True) (fun k_=>some k_ = (.slice Ao18 t117.length co18:Value).ownBlock) rfl rfl ?aP (fun k_ hk_=>((Kd.bF (ok':=fun k_=>((fun _=>True)) k_ ∧ some k_ ≠ (u116000:Value).ownBlock) (Kd.R_apart' (HO119.out) (Kd.S_typed HO_116000.out) tb) (fun k_ hk=>⟨trivial,hk.2⟩))).1 k_ hk_.symm) ?aF ?aO ?aB ?aS ?aL ?_
       (case aP=>exact Kd.M_row (Kd.bF (Kd.R_tight rfl (Kd.bF (ok':=fun k_=>((fun _=>True)) k_ ∧ some k_ ≠ (u116000:Value).ownBlock) (Kd.R_apart' (HO119.out) (Kd.S_typed HO_116000.out) tb) (fun k_ hk=>⟨trivial,hk.2⟩))) (fun _ h_=>h_)))
       (case aB=>exact HB.out)
       (case aF=>exact (fun _ _=>trivial))
       (case aO=>exact (by (with_reducible repeat (first|apply Kd.S_alloc|apply Kd.S_drewN|apply Kd.S_drew));exact Kd.S_mono HO_116000.out (fun k_ hk=>⟨trivial,fun e_=>hk.2 e_⟩)))
       (case aS=>exact (aM HB.out))
       (case aL=>have:=LMc14.out;omega)
       intro v121 w17 ho hb hg hat
       rw [← Ny120.out] at ho
       replace BK113:=aA.mk (blk_grown (g:=gb113) (o:=.cells #[.slice (some ad116) l0_0.length c0_0] 59 (0,0)) BK113.out hg (Kd.S_ne HO_116000.out BK113.out tb))
       replace BK114:=aA.mk (blk_grown (g:=gb114) (o:=.cells #[.slice none 0 0] 59 (0,0)) BK114.out hg (Kd.S_ne HO_116000.out BK114.out tb))
       replace BK115:=aA.mk (blk_grown (g:=gb115) (o:=.cells #[u116000] 59 (0,0)) BK115.out hg (Kd.S_ne HO_116000.out BK115.out tb))
       replace HB:=aA.mk (hb)
       have HO122:=aA.mk (ho)
       clear HO_116000
       clear HO119
       clear ho hb hg hat
       obtain ⟨Ao19,co19,eo19⟩:=Kd.S_slice HO122.out
       (first|subst eo19|(injection eo19 with f1_ f2_ f3_;have f4_:=f1_.symm;have f5_:=f3_.symm;clear f1_ f2_ f3_;subst f4_;subst f5_))
       refine hK.out _ _ ((aN BK115.out 0).trans rfl) (fun hHeld=>?_)
       clear hK K
       refine norm_ (a':=?_) ?_ ?_
       rotate_left
       ·show Act.put _ (some 19) _ = _
        simp only [Act.put,lA,lB,lC,i64_w,i32_w]
        rfl
       refine pu (i:=6) (N:=some 20) (bq1 127 8) ?_
       refine last_ (i:=7) (N:=none) (bq1 255 8) rfl rfl (one_of HT_.out tH) tb (fun K hK=>?_)
       have hs20:w17.cell? ⟨gb115,0,none⟩ = some (u116000):=(aN BK115.out 0).trans rfl
       have hfs20:=bH BK115.out 0
       have hns20_0:=NB113_115.out
       have hns20_1:=NB114_115.out
       have hms20_0:=NB115_113.out
       have hms20_1:=NB115_114.out
       refine skip_ (w1:=?_) vH rfl ?_ ?_
       rotate_left
       ·go_simp
        rfl
       refine hK.out _ _ ?_
       clear hK K
       refine done_ (done_of HT_.out tH) ?_
       try go_wp2
       go_roundg k1
       case measure=>have:=HK1.out;omega
       case rel=>exact ⟨(wrap64 (x10_1 + 1)),(y120),(.slice Ao19 y120.length co19),tG,H',⟨wX⟩,⟨by (with_reducible repeat (first|apply Kd.S_alloc|apply Kd.S_drewN|apply Kd.S_drew));exact Kd.S_mono (Kd.S_far (p:=⟨gb115,0,none⟩) (Kd.S_types HO122.out BK115.out tb) (fun _ hk=>hk.2) (.slice Ao19 y120.length co19)) (fun _ hk=>trivial)⟩,⟨wu⟩,⟨wq⟩,⟨by (with_reducible repeat (first|refine aG ?_ _|refine aH ?_|refine aE ?_ _));refine aT (cs:=#[u116000]) ?_ 0 _ rfl;(with_reducible repeat (first|refine aG ?_ _|refine aH ?_|refine aE ?_ _));exact BK115.out⟩,⟨wE⟩⟩
      ·rw [if_neg c14] at H
       exact vM
     ·rw [if_neg c12] at H
      exact vM
    ·rw [if_neg c11] at H
     exact vM
   ·rw [if_neg c10] at H
    have c10b0:decide (x10_1 < (l0_0.length:Int)) = false:=decide_eq_false c10
    clear c10
    obtain rfl:=Option.some.inj H
    have hnb21:=NB115_113.out
    have hnc21:=NB113_115.out
    have hnb22:=NB115_114.out
    have hnc22:=NB114_115.out
    have hcz23_0:=cs1 BK115.out
    have hfz23_0:=fs1 BK115.out
    obtain ⟨Ao24,co24,eo24⟩:=Kd.S_slice HO_116000.out
    subst eo24
    have hnb25:=NB114_113.out
    have hnc25:=NB113_114.out
    have hcz26_0:=cs1 BK114.out
    have hfz26_0:=fs1 BK114.out
    go_wp2
    refine bodyPost_ret (results_cell_row rfl _ _ gb114 59 #[.slice Ao24 x116000_1.length co24] (0,0) _ rfl (by (with_reducible repeat (first|refine aG ?_ _|refine aH ?_|refine aE ?_ _));refine aT (cs:=#[.slice none 0 0]) ?_ 0 _ rfl;(with_reducible repeat (first|refine aG ?_ _|refine aH ?_|refine aE ?_ _));exact BK114.out) Try.underlying59 rfl tH) rfl ?_
    exact ⟨_,tC,by (with_reducible repeat (first|apply Kd.S_alloc|apply Kd.S_drewN|apply Kd.S_drew));exact Kd.S_mono (Kd.S_far (p:=⟨gb114,0,none⟩) (Kd.S_types HO_116000.out BK114.out tb) (fun _ hk=>hk.2) (.slice Ao24 x116000_1.length co24)) (fun _ hk=>trivial),wE⟩
def impl_copyTree.l0:Nat → List (S59) → Int → Int → List Int → List (S59) → Option (List Int × (List (S59)))
 | 0,_,_,_,_,_=>none
 | k + 1,x11,x12,x13,x129000,x129001=>if x13 < x12 then (if 0 ≤ x13 then (if x13 < (x11.length:Int) then ((impl_copyNode.f k ((rd_T59 x11 x13).f0)).bind fun t131=>(if x129001.length < 5864062014805 then (impl_copyTree.l0 k x11 x12 (wrap64 (x13 + 1)) x129000 (x129001 ++ [(⟨t131⟩:S59)])) else (none))) else (none)) else (none)) else (some (x129000,x129001))
def impl_copyTree.f (k:Nat) (l0_0:List Int) (l0_1:List (S59)):Option (List Int × (List (S59))):=(impl_copyInts.f l0_0).bind fun t125=>(impl_copyTree.l0 k l0_1 (l0_1.length:Int) 0 t125 ([]:List (S59)))
def impl_copyTree.T5:Bool × List (List Nat × List Nat):=(true,[([],[]),([0],[0]),([],[]),([2],[2]),([3],[3]),([1,4,3],[1,4]),([0,1,2,3,4,5],[]),([6,5,5,0,1,2,3,4,5],[5,6])])
def impl_copyTree.B5:List Nat:=[0,1,0,4,12,31,63,127]
theorem impl_copyTree.tab5:rtab .any (opsOf Try.f31 5) = impl_copyTree.T5:=by kernel_rfl
theorem impl_copyTree.bits5:waitsOk impl_copyTree.T5.2 impl_copyTree.B5 = true:=by kernel_rfl
set_option maxHeartbeats 8000000 in
set_option maxRecDepth 100000 in
theorem impl_copyTree.calls (k:Nat) (A0_0:Option Addr) (c0_0:Nat) (l0_0:List Int) (A0_1:Option Addr) (c0_1:Nat) (l0_1:List (S59)) (r1:List Int) (r2:List (S59)) (w:World) (hr0_0:Kd.C (Kd.int .i64) w A0_0 l0_0.length l0_0) (hc0_0:l0_0.length ≤ c0_0) (hr0_1:Kd.C k59 w A0_1 l0_1.length l0_1) (hc0_1:l0_1.length ≤ c0_1) (h:impl_copyTree.f k l0_0 l0_1 = some (r1,r2)) :
  Calls Try.prog 31 #[.agg #[.slice A0_0 l0_0.length c0_0,.slice A0_1 l0_1.length c0_1]] w fun e w'=>∃ v0_ v1_:Value,e = .returned (.agg #[v0_,v1_]) ∧ Kd.R (Kd.int .i64) 3 w' w.heap.size (fun _=>True) v0_ r1 ∧ Kd.R k59 59 w' w.heap.size (fun _=>True) v1_ r2 ∧ Below w.heap.size w w':=by
 have hu29:=Try.underlying29
 have hu59:=Try.underlying59
 have HR0_0:=aA.mk hr0_0
 have HC0_0:=aA.mk hc0_0
 clear hr0_0 hc0_0
 have HR0_1:=aA.mk hr0_1
 have HC0_1:=aA.mk hc0_1
 clear hr0_1 hc0_1
 have HB:=aA.mk (Below.refl w.heap.size w)
 have H:((impl_copyInts.f l0_0).bind fun t125=>(impl_copyTree.l0 k l0_1 (l0_1.length:Int) 0 t125 ([]:List (S59)))) = some (r1,r2):=h
 clear h
 replace H:=lF H
 obtain ⟨t125,A20,H⟩:=H
 replace H:(impl_copyTree.l0 k l0_1 (l0_1.length:Int) 0 t125 ([]:List (S59))) = some (r1,r2):=H
 have A2:=aA.mk A20
 clear A20
 have H':=aA.mk H
 clear H
 go_enter Try.func31,Try.ntmps31
 go_wp2_with (first|((with_reducible refine aZ (N:=1) rfl ?_);refine bB ?hg (N:=1) ?hd (cs:=#[.slice A0_0 l0_0.length c0_0,.slice A0_1 l0_1.length c0_1]) (t:=29) ?hr ?_;(case hd=>rfl);(case hg=>rfl);(case hr=>exact tJ);intro gb123 hg w3 hbox hb;have BK123:=aA.mk (hbox);have GW123:=aA.mk ((by rw [hg];exact (aM HB.out):w.heap.size ≤ gb123));have GE123:=aA.mk ((by rw [hg];exact (aM HB.out):w.heap.size ≤ gb123));replace HB:=aA.mk (aQ HB.out hb);clear hb hbox hg)|((with_reducible refine aZ (N:=2) rfl ?_);refine bB ?hg (N:=2) ?hd (cs:=#[.slice none 0 0,.slice none 0 0]) (t:=29) ?hr ?_;(case hd=>rfl);(case hg=>rfl);(case hr=>exact tJ);intro gb124 hg w4 hbox hb;have BK124:=aA.mk (hbox);have GW124:=aA.mk ((by rw [hg];exact (aM HB.out):w.heap.size ≤ gb124));have GE124:=aA.mk ((by rw [hg];exact (aM HB.out):w.heap.size ≤ gb124));replace HB:=aA.mk (aQ HB.out hb);have NB123_124:=nL BK123;have NB124_123:=nG BK123;replace BK123:=nB BK123;clear hb hbox hg;have hnb5:=NB123_124.out;have hnc5:=NB124_123.out;obtain ⟨hcz6_0,hcz6_1⟩:=cs2 BK123.out;obtain ⟨hfz6_0,hfz6_1⟩:=fs2 BK123.out)|((with_reducible refine aY (f:=69) rfl ?_);refine goesL_ (some 8) rfl rfl Try.func69 tH rfl #[.slice A0_0 l0_0.length c0_0] rfl tA ?_;(with_reducible refine (impl_copyInts.calls _ _ l0_0 t125 _ ?side1 ?side2 A2.out).mono ?_);(case side1=>exact (Kd.C_below HR0_0.out HB.out));(case side2=>exact HC0_0.out);rintro e w7 ⟨v126,rfl,ho0,hb⟩;refine ⟨_,rfl,?_⟩;have HO127:=aA.mk (Kd.R_lower ho0 (aM HB.out));replace BK123:=nB BK123;replace BK124:=nB BK124;replace HB:=aA.mk (aQ HB.out hb);(try clear hb);(try clear ho0);obtain ⟨Ao8,co8,eo8⟩:=Kd.R_slice HO127.out;subst eo8)|((with_reducible refine aZ (N:=3) rfl ?_);refine bB ?hg (N:=3) ?hd (cs:=#[.slice none 0 0,.slice none 0 0]) (t:=29) ?hr ?_;(case hd=>rfl);(case hg=>rfl);(case hr=>exact tJ);intro gb128 hg w9 hbox hb;replace HO127:=nR HO127;have BK128:=aA.mk (hbox);have GW128:=aA.mk ((by rw [hg];exact (aM HB.out):w.heap.size ≤ gb128));have GE128:=aA.mk ((by rw [hg];exact (aM HB.out):w.heap.size ≤ gb128));replace HB:=aA.mk (aQ HB.out hb);have NB123_128:=nL BK123;have NB128_123:=nG BK123;replace BK123:=nB BK123;have NB124_128:=nL BK124;have NB128_124:=nG BK124;replace BK124:=nB BK124;clear hb hbox hg;have hnb10:=NB128_123.out;have hnc10:=NB123_128.out;have hnb11:=NB128_124.out;have hnc11:=NB124_128.out;obtain ⟨hcz12_0,hcz12_1⟩:=cs2 BK128.out;obtain ⟨hfz12_0,hfz12_1⟩:=fs2 BK128.out;obtain ⟨hcz13_0,hcz13_1⟩:=cs2 BK123.out;obtain ⟨hfz13_0,hfz13_1⟩:=fs2 BK123.out))
 go_loopg [13] k (fun kq v13 w'=>∃ (x13_1:Int) (x129001_1:List (S59)) (u129001:Value),v13 = .int .i64 x13_1 ∧ aA (impl_copyTree.l0 kq l0_1 (l0_1.length:Int) x13_1 t125 x129001_1 = some (r1,r2)) ∧ aA (kq ≤ k) ∧ aA (Kd.R (Kd.int .i64) 3 w' w.heap.size (fun _=>True) (.slice Ao8 t125.length co8) t125) ∧ aA (Kd.R k59 59 w' w.heap.size (fun _=>True) u129001 x129001_1) ∧ aA (w'.heap[gb123]? = some (.cells #[(.slice A0_0 l0_0.length c0_0),(.slice A0_1 l0_1.length c0_1)] 29 (0,0))) ∧ aA (w'.heap[gb124]? = some (.cells #[(.slice none 0 0),(.slice none 0 0)] 29 (0,0))) ∧ aA (w'.heap[gb128]? = some (.cells #[(.slice Ao8 t125.length co8),u129001] 29 (0,0))) ∧ aA (Below w.heap.size w w'))
 case atStart=>exact ⟨(0),(([]:List (S59))),(.slice none 0 0),tG,H',⟨Nat.le_refl _⟩,⟨by (with_reducible repeat (first|apply Kd.bC|apply Kd.bD|apply Kd.bG));exact Kd.bF (Kd.bJ (p:=⟨gb128,1,none⟩) (Kd.bJ (p:=⟨gb128,0,none⟩) (Kd.R_types HO127.out BK128.out tb) (fun _ hk=>hk.2) (.slice Ao8 t125.length co8)) (fun _ hk=>hk.2) (.slice none 0 0)) (fun _ hk=>trivial)⟩,⟨by first|exact Kd.R_nil _ _ _ _ _|exact Kd.N_nil _ _ _ _ _|exact Kd.V_nil _ _ _ _ _|exact Kd.Q_nil _ _ _ _ _|exact Kd.S_nil _ _ _ _ _⟩,⟨by (with_reducible repeat (first|refine aG ?_ _|refine aH ?_|refine aE ?_ _));refine aV ?_ NB123_128.out _;(with_reducible repeat (first|refine aG ?_ _|refine aH ?_|refine aE ?_ _));refine aV ?_ NB123_128.out _;(with_reducible repeat (first|refine aG ?_ _|refine aH ?_|refine aE ?_ _));exact BK123.out⟩,⟨by (with_reducible repeat (first|refine aG ?_ _|refine aH ?_|refine aE ?_ _));refine aV ?_ NB124_128.out _;(with_reducible repeat (first|refine aG ?_ _|refine aH ?_|refine aE ?_ _));refine aV ?_ NB124_128.out _;(with_reducible repeat (first|refine aG ?_ _|refine aH ?_|refine aE ?_ _));exact BK124.out⟩,⟨by (with_reducible repeat (first|refine aG ?_ _|refine aH ?_|refine aE ?_ _));refine aT (cs:=#[.slice Ao8 t125.length co8,.slice none 0 0]) ?_ 1 _ rfl;(with_reducible repeat (first|refine aG ?_ _|refine aH ?_|refine aE ?_ _));refine aT (cs:=#[.slice none 0 0,.slice none 0 0]) ?_ 0 _ rfl;(with_reducible repeat (first|refine aG ?_ _|refine aH ?_|refine aE ?_ _));exact BK128.out⟩,⟨AG⟩⟩
 case round =>
  clear H'
  try clear c1
  try clear p2
  try clear c3
  try clear c5
  try clear c6
  try clear c10
  try clear c11
  try clear hcz12_0
  try clear hcz12_1
  try clear hcz13_0
  try clear hcz13_1
  try clear hcz6_0
  try clear hcz6_1
  try clear hfz12_0
  try clear hfz12_1
  try clear hfz13_0
  try clear hfz13_1
  try clear hfz6_0
  try clear hfz6_1
  obtain ⟨x13_1,x129001_1,u129001,rfl,HA,HK1,HO_129000,HO_129001,BK123,BK124,BK128,HB⟩:=hrel
  cases gk with
  | zero=>exact absurd HA.out (by simp [impl_copyTree.l0])
  | succ k1 =>
   have H:=HA.out
   clear HA
   simp only [impl_copyTree.l0] at H
   by_cases c14:x13_1 < (l0_1.length:Int)
   ·rw [if_pos c14] at H
    have c14b0:decide (x13_1 < (l0_1.length:Int)) = true:=decide_eq_true c14
    clear c14
    by_cases c15:0 ≤ x13_1
    ·rw [if_pos c15] at H
     have c15b0:decide (0 ≤ x13_1) = true:=decide_eq_true c15
     clear c15
     by_cases c16:x13_1 < (l0_1.length:Int)
     ·rw [if_pos c16] at H
      have c16b0:decide (x13_1 < (l0_1.length:Int)) = true:=decide_eq_true c16
      clear c16
      replace H:=lF H
      obtain ⟨t131,A170,H⟩:=H
      replace H:(if x129001_1.length < 5864062014805 then (impl_copyTree.l0 k1 l0_1 (l0_1.length:Int) (wrap64 (x13_1 + 1)) t125 (x129001_1 ++ [(⟨t131⟩:S59)])) else (none)) = some (r1,r2):=H
      have A17:=aA.mk A170
      clear A170
      by_cases c18:x129001_1.length < 5864062014805
      ·rw [if_pos c18] at H
       have LMc18:=aA.mk c18
       clear c18
       obtain ⟨y134,hy134⟩:∃ y_:List (S59),y_ = (x129001_1 ++ [(⟨t131⟩:S59)]):=⟨_,rfl⟩
       replace H:(impl_copyTree.l0 k1 l0_1 (l0_1.length:Int) (wrap64 (x13_1 + 1)) t125 y134) = some (r1,r2):=by first|(rw [hy134];with_reducible exact H)|(have H2_:=(Option.bind_some _ _).symm.trans H;rw [hy134];with_reducible exact H2_)|(have H2_:=(Option.bind_some _ _).symm.trans H;with_reducible exact H2_)|with_reducible exact H|(rw [hy134];exact H)|exact H
       have Ny134:=aA.mk hy134
       clear hy134
       have H':=aA.mk H
       clear H
       have p129:0 ≤ (x13_1:Int):=lE tF
       have q129:x13_1 < (l0_1.length:Int):=lE tF
       obtain ⟨ad129,A129_0,c129_0,e129,hx129_0,hl129_0,hi129_0⟩:=at_T59 HR0_1.out x13_1 p129 q129
       cases e129
       replace hx129_0:=(HB.out.cell (lD w _ hx129_0)).trans hx129_0
       have HR129_0:=aA.mk hi129_0
       have HC129_0:=aA.mk hl129_0
       clear hi129_0 hl129_0
       replace p129:=eq_true p129
       replace q129:=eq_true q129
       try go_wp2_with (first|((with_reducible refine aZ (N:=5) rfl ?_);refine bB ?hg (N:=5) ?hd (cs:=#[.slice none 0 0]) (t:=59) ?hr ?_;(case hd=>rfl);(case hg=>rfl);(case hr=>exact tJ);intro gb130 hg w19 hbox hb;replace HO_129000:=nR HO_129000;replace HO_129001:=aA.mk (Kd.R_below (Kd.R_elderB HO_129001.out gb130 (Nat.le_of_eq hg.symm)) hb);have BK130:=aA.mk (hbox);have GW130:=aA.mk ((by rw [hg];exact (aM HB.out):w.heap.size ≤ gb130));have GE130:=aA.mk ((by rw [hg];exact (aM HB.out):w.heap.size ≤ gb130));replace HB:=aA.mk (aQ HB.out hb);have NB123_130:=nL BK123;have NB130_123:=nG BK123;replace BK123:=nB BK123;have NB124_130:=nL BK124;have NB130_124:=nG BK124;replace BK124:=nB BK124;have NB128_130:=nL BK128;have NB130_128:=nG BK128;replace BK128:=nB BK128;clear hb hbox hg;have hnb20:=NB130_123.out;have hnc20:=NB123_130.out;have hnb21:=NB130_124.out;have hnc21:=NB124_130.out;have hnb22:=NB130_128.out;have hnc22:=NB128_130.out;have hcz23_0:=cs1 BK130.out;have hfz23_0:=fs1 BK130.out))
       have n0_:aA (Kd.R (Kd.int .i64) 3 (w19.setCell ⟨gb130,0,none⟩ (.slice A129_0 ((rd_T59 l0_1 x13_1).f0).length c129_0)) w.heap.size (fun _=>True) (.slice Ao8 t125.length co8) t125):=⟨by (with_reducible repeat (first|apply Kd.bC|apply Kd.bD|apply Kd.bG));exact Kd.bF (Kd.bJ (p:=⟨gb130,0,none⟩) (Kd.R_types HO_129000.out BK130.out tb) (fun _ hk=>hk.2) (.slice A129_0 ((rd_T59 l0_1 x13_1).f0).length c129_0)) (fun _ hk=>trivial)⟩
       have n1_:aA (Kd.R k59 59 (w19.setCell ⟨gb130,0,none⟩ (.slice A129_0 ((rd_T59 l0_1 x13_1).f0).length c129_0)) w.heap.size (fun k_=>k_ ≠ gb130) u129001 x129001_1):=⟨by (with_reducible repeat (first|apply Kd.bC|apply Kd.bD|apply Kd.bG));exact Kd.bF (Kd.bJ (p:=⟨gb130,0,none⟩) (Kd.bF HO_129001.out (fun k_ hk=>(⟨hk,hk.2⟩:_ ∧ k_ ≠ gb130))) (fun _ hk=>hk.2) (.slice A129_0 ((rd_T59 l0_1 x13_1).f0).length c129_0)) (fun _ hk=>hk.1.2)⟩
       have n2_:aA ((w19.setCell ⟨gb130,0,none⟩ (.slice A129_0 ((rd_T59 l0_1 x13_1).f0).length c129_0)).heap[gb123]? = some (.cells #[.slice A0_0 l0_0.length c0_0,.slice (some ad129) l0_1.length c0_1] 29 (0,0))):=⟨by (with_reducible repeat (first|refine aG ?_ _|refine aH ?_|refine aE ?_ _));refine aV ?_ NB123_130.out _;(with_reducible repeat (first|refine aG ?_ _|refine aH ?_|refine aE ?_ _));exact BK123.out⟩
       have n3_:aA ((w19.setCell ⟨gb130,0,none⟩ (.slice A129_0 ((rd_T59 l0_1 x13_1).f0).length c129_0)).heap[gb124]? = some (.cells #[.slice none 0 0,.slice none 0 0] 29 (0,0))):=⟨by (with_reducible repeat (first|refine aG ?_ _|refine aH ?_|refine aE ?_ _));refine aV ?_ NB124_130.out _;(with_reducible repeat (first|refine aG ?_ _|refine aH ?_|refine aE ?_ _));exact BK124.out⟩
       have n4_:aA ((w19.setCell ⟨gb130,0,none⟩ (.slice A129_0 ((rd_T59 l0_1 x13_1).f0).length c129_0)).heap[gb128]? = some (.cells #[.slice Ao8 t125.length co8,u129001] 29 (0,0))):=⟨by (with_reducible repeat (first|refine aG ?_ _|refine aH ?_|refine aE ?_ _));refine aV ?_ NB128_130.out _;(with_reducible repeat (first|refine aG ?_ _|refine aH ?_|refine aE ?_ _));exact BK128.out⟩
       have n5_:aA ((w19.setCell ⟨gb130,0,none⟩ (.slice A129_0 ((rd_T59 l0_1 x13_1).f0).length c129_0)).heap[gb130]? = some (.cells #[.slice A129_0 ((rd_T59 l0_1 x13_1).f0).length c129_0] 59 (0,0))):=⟨by (with_reducible repeat (first|refine aG ?_ _|refine aH ?_|refine aE ?_ _));refine aT (cs:=#[.slice none 0 0]) ?_ 0 _ rfl;(with_reducible repeat (first|refine aG ?_ _|refine aH ?_|refine aE ?_ _));exact BK130.out⟩
       have n6_:aA (Below w.heap.size w (w19.setCell ⟨gb130,0,none⟩ (.slice A129_0 ((rd_T59 l0_1 x13_1).f0).length c129_0))):=⟨AB⟩
       (try clear HO_129000)
       (try clear HO_129001)
       (try clear BK123)
       (try clear BK124)
       (try clear BK128)
       (try clear BK130)
       (try clear HB)
       generalize (w19.setCell ⟨gb130,0,none⟩ (.slice A129_0 ((rd_T59 l0_1 x13_1).f0).length c129_0)) = w24 at n0_ n1_ n2_ n3_ n4_ n5_ n6_ ⊢
       have HO_129000:=n0_
       have HO_129001:=n1_
       have BK123:=n2_
       have BK124:=n3_
       have BK128:=n4_
       have BK130:=n5_
       have HB:=n6_
       clear n0_ n1_ n2_ n3_ n4_ n5_ n6_
       replace HO_129000:=aA.mk (Kd.bG HO_129000.out)
       replace HO_129001:=aA.mk (Kd.bG HO_129001.out)
       replace BK123:=aA.mk (aH BK123.out)
       replace BK124:=aA.mk (aH BK124.out)
       replace BK128:=aA.mk (aH BK128.out)
       replace BK130:=aA.mk (aH BK130.out)
       replace HB:=aA.mk (aJ HB.out)
       refine start_ (n:=8) (S:=fun w'=>w'.cell? ⟨gb128,0,none⟩ = some (.slice Ao8 t125.length co8) ∧ w'.cell? ⟨gb128,1,none⟩ = some (u129001) ∧ w'.cell? ⟨gb130,0,none⟩ = some (.slice A129_0 ((rd_T59 l0_1 x13_1).f0).length c129_0)) (ds:=[7]) #[F0,F0,F0,F0,F0,F0,F0,F0] tH rfl rfl ⟨(aN BK128.out 0).trans rfl,(aN BK128.out 1).trans rfl,(aN BK130.out 0).trans rfl⟩ (fun hHeld=>?_);refine with_tabW impl_copyTree.tab5 impl_copyTree.bits5 (fun HT_ HW_=>?_)
       generalize w24.drew = w25 at HO_129000 HO_129001 BK123 BK124 BK128 BK130 HB hHeld ⊢
       refine pu (i:=0) (N:=some 17) (bq1 1 8) ?_
       refine tu3 (i:=1) (N:=some 18) (bq1 3 8) ?_
       refine tu3 (i:=2) (N:=some 19) (bq1 7 8) ?_
       refine one_ (i:=3) (N:=some 20) (bq1 15 8) rfl rfl (one_of HT_.out tH) tb (fun K hK=>?_)
       refine goes_ Try.func70 tH rfl #[.agg #[.slice A129_0 ((rd_T59 l0_1 x13_1).f0).length c129_0]] vH rfl rfl tA ?_
       with_reducible refine (impl_copyNode.calls k1 _ _ ((rd_T59 l0_1 x13_1).f0) t131 _ ?side1 ?side2 A17.out).mono ?_
       (case side1=>exact (Kd.C_below HR129_0.out HB.out))
       (case side2=>exact HC129_0.out)
       rintro e w26 ⟨v132,rfl,ho0,hb⟩
       refine ⟨_,rfl,?_⟩
       replace HO_129000:=nR HO_129000
       replace HO_129001:=aA.mk (Kd.R_elder' HO_129001.out (Kd.S_base ho0) hb)
       have HO133:=aA.mk (Kd.S_lower ho0 (aM HB.out))
       replace BK123:=nB BK123
       replace BK124:=nB BK124
       replace BK128:=nB BK128
       replace BK130:=nB BK130
       replace HB:=aA.mk (aQ HB.out hb)
       (try clear hb)
       (try clear hb2)
       (try clear hk)
       (try clear hi)
       (try clear ho0)
       obtain ⟨Ao28,co28,eo28⟩:=Kd.S_slice HO133.out
       (first|subst eo28|(injection eo28 with f1_ f2_ f3_;have f4_:=f1_.symm;have f5_:=f3_.symm;clear f1_ f2_ f3_;subst f4_;subst f5_))
       refine hK.out _ _ ⟨(aN BK128.out 0).trans rfl,(aN BK128.out 1).trans rfl,(aN BK130.out 0).trans rfl⟩ (fun hHeld=>?_)
       clear hK K
       refine norm_ (a':=?_) ?_ ?_
       rotate_left
       ·show Act.put _ (some 20) _ = _
        simp only [Act.put,lA,lB,lC,i64_w,i32_w]
        rfl
       refine one_ (i:=4) (N:=some 21) (bq1 31 8) rfl rfl (one_of HT_.out tH) tb (fun K hK=>?_)
       refine value_ (w1:=?_) (v:=?_) vH rfl ?_ ?_
       rotate_left 2
       ·go_simp
        constructor
        ·rfl
        ·rfl
       refine hK.out _ _ ⟨(aN (aE BK128.out _) 0).trans rfl,(aN (aE BK128.out _) 1).trans rfl,(aN (aE BK130.out _) 0).trans rfl⟩ (fun hHeld=>?_)
       clear hK K
       refine norm_ (a':=?_) ?_ ?_
       rotate_left
       ·show Act.put _ (some 21) _ = _
        simp only [Act.put,lA,lB,lC,i64_w,i32_w]
        rfl
       refine one_ (i:=5) (N:=some 22) (bq1 63 8) rfl rfl (one_of HT_.out tH) tb (fun K hK=>?_)
       refine Kd.R_append_step k59 (w0:=w) w.heap.size vH (.tmp 18) (.tmp 21) 27 59 (.agg #[(.slice none 0 0)]) 24 rfl Try.underlying27 info59 rfl tb tB u129001 x129001_1 (⟨t131⟩:S59) [.slice Ao28 t131.length co28] (fun k_=>k_ ≠ gb130) (fun k_=>((fun k_=>k_ ≠ gb130)) k_ ∧ some k_ ≠ (u129001:Value).ownBlock) rfl rfl ?aP (fun _ hk=>hk) ?aF ?aO ?aB ?aS ?aL ?_
       (case aP=>exact k59_mkM _ _ _ (⟨t131⟩:S59) (Kd.bF (Kd.R_types (Kd.R_apart' ((Kd.S_R HO133.out)) (Kd.R_typed HO_129001.out) tb) BK130.out tb) (fun k_ hk=>⟨hk.2,hk.1.2⟩)))
       (case aB=>exact HB.out)
       (case aF=>exact (fun k_ hk=>Kd.freshB (g:=gb130) (o:=.cells #[.slice A129_0 ((rd_T59 l0_1 x13_1).f0).length c129_0] 59 (0,0)) BK130.out k_ hk))
       (case aO=>exact (by (with_reducible repeat (first|apply Kd.bC|apply Kd.bD|apply Kd.bG));exact Kd.bF HO_129001.out (fun _ hk=>hk.1)))
       (case aS=>exact (aM HB.out))
       (case aL=>have:=LMc18.out;omega)
       intro v135 w27 ho hb hg hat
       rw [← Ny134.out] at ho
       replace HO_129000:=aA.mk (Kd.R_over' HO_129000.out (Kd.R_typed HO_129001.out) tb hg)
       replace BK123:=aA.mk (blk_grown (g:=gb123) (o:=.cells #[.slice A0_0 l0_0.length c0_0,.slice (some ad129) l0_1.length c0_1] 29 (0,0)) BK123.out hg (Kd.R_ne HO_129001.out BK123.out tb))
       replace BK124:=aA.mk (blk_grown (g:=gb124) (o:=.cells #[.slice none 0 0,.slice none 0 0] 29 (0,0)) BK124.out hg (Kd.R_ne HO_129001.out BK124.out tb))
       replace BK128:=aA.mk (blk_grown (g:=gb128) (o:=.cells #[.slice Ao8 t125.length co8,u129001] 29 (0,0)) BK128.out hg (Kd.R_ne HO_129001.out BK128.out tb))
       replace BK130:=aA.mk (blk_grown (g:=gb130) (o:=.cells #[.slice A129_0 ((rd_T59 l0_1 x13_1).f0).length c129_0] 59 (0,0)) BK130.out hg (Kd.R_away HO_129001.out (fun _ hk=>hk.1)))
       replace HB:=aA.mk (hb)
       have HO136:=aA.mk (ho)
       clear HO_129001
       clear HO133
       clear ho hb hg hat
       obtain ⟨Ao29,co29,eo29⟩:=Kd.R_slice HO136.out
       (first|subst eo29|(injection eo29 with f1_ f2_ f3_;have f4_:=f1_.symm;have f5_:=f3_.symm;clear f1_ f2_ f3_;subst f4_;subst f5_))
       refine hK.out _ _ ⟨(aN BK128.out 0).trans rfl,(aN BK128.out 1).trans rfl,(aN BK130.out 0).trans rfl⟩ (fun hHeld=>?_)
       clear hK K
       refine norm_ (a':=?_) ?_ ?_
       rotate_left
       ·show Act.put _ (some 22) _ = _
        simp only [Act.put,lA,lB,lC,i64_w,i32_w]
        rfl
       refine pu (i:=6) (N:=some 23) (bq1 127 8) ?_
       refine last_ (i:=7) (N:=none) (bq1 255 8) rfl rfl (one_of HT_.out tH) tb (fun K hK=>?_)
       have hs30:w27.cell? ⟨gb128,1,none⟩ = some (u129001):=(aN BK128.out 1).trans rfl
       have hfs30:=bH BK128.out 1
       have hns30_0:=NB123_128.out
       have hns30_1:=NB124_128.out
       have hns30_3:=NB130_128.out
       have hms30_0:=NB128_123.out
       have hms30_1:=NB128_124.out
       have hms30_3:=NB128_130.out
       refine skip_ (w1:=?_) vH rfl ?_ ?_
       rotate_left
       ·go_simp
        rfl
       refine hK.out _ _ ?_
       clear hK K
       refine done_ (done_of HT_.out tH) ?_
       try go_wp2
       go_roundg k1
       case measure=>have:=HK1.out;omega
       case rel=>exact ⟨(wrap64 (x13_1 + 1)),(y134),(.slice Ao29 y134.length co29),tG,H',⟨wX⟩,⟨by (with_reducible repeat (first|apply Kd.bC|apply Kd.bD|apply Kd.bG));exact Kd.bF (Kd.bJ (p:=⟨gb128,1,none⟩) (Kd.R_types HO_129000.out BK128.out tb) (fun _ hk=>hk.2) (.slice Ao29 y134.length co29)) (fun _ hk=>trivial)⟩,⟨by (with_reducible repeat (first|apply Kd.bC|apply Kd.bD|apply Kd.bG));exact Kd.bF (Kd.bJ (p:=⟨gb128,1,none⟩) (Kd.R_types HO136.out BK128.out tb) (fun _ hk=>hk.2) (.slice Ao29 y134.length co29)) (fun _ hk=>trivial)⟩,⟨by (with_reducible repeat (first|refine aG ?_ _|refine aH ?_|refine aE ?_ _));refine aV ?_ NB123_128.out _;(with_reducible repeat (first|refine aG ?_ _|refine aH ?_|refine aE ?_ _));exact BK123.out⟩,⟨by (with_reducible repeat (first|refine aG ?_ _|refine aH ?_|refine aE ?_ _));refine aV ?_ NB124_128.out _;(with_reducible repeat (first|refine aG ?_ _|refine aH ?_|refine aE ?_ _));exact BK124.out⟩,⟨by (with_reducible repeat (first|refine aG ?_ _|refine aH ?_|refine aE ?_ _));refine aT (cs:=#[.slice Ao8 t125.length co8,u129001]) ?_ 1 _ rfl;(with_reducible repeat (first|refine aG ?_ _|refine aH ?_|refine aE ?_ _));exact BK128.out⟩,⟨AB⟩⟩
      ·rw [if_neg c18] at H
       exact vM
     ·rw [if_neg c16] at H
      exact vM
    ·rw [if_neg c15] at H
     exact vM
   ·rw [if_neg c14] at H
    have c14b0:decide (x13_1 < (l0_1.length:Int)) = false:=decide_eq_false c14
    clear c14
    simp only [Option.some.injEq,Prod.mk.injEq] at H
    obtain ⟨rfl,rfl⟩:=H
    have hnb31:=NB128_123.out
    have hnc31:=NB123_128.out
    have hnb32:=NB128_124.out
    have hnc32:=NB124_128.out
    obtain ⟨hcz33_0,hcz33_1⟩:=cs2 BK128.out
    obtain ⟨hfz33_0,hfz33_1⟩:=fs2 BK128.out
    have hnb34:=NB124_123.out
    have hnc34:=NB123_124.out
    obtain ⟨hcz35_0,hcz35_1⟩:=cs2 BK124.out
    obtain ⟨hfz35_0,hfz35_1⟩:=fs2 BK124.out
    obtain ⟨Ao36,co36,eo36⟩:=Kd.R_slice HO_129001.out
    subst eo36
    go_wp2
    refine bodyPost_ret (results_cell_row rfl _ _ gb124 29 #[.slice Ao8 t125.length co8,.slice Ao36 x129001_1.length co36] (0,0) _ rfl (by (with_reducible repeat (first|refine aG ?_ _|refine aH ?_|refine aE ?_ _));refine aT (cs:=#[.slice Ao8 t125.length co8,.slice none 0 0]) ?_ 1 _ rfl;(with_reducible repeat (first|refine aG ?_ _|refine aH ?_|refine aE ?_ _));refine aT (cs:=#[.slice none 0 0,.slice none 0 0]) ?_ 0 _ rfl;(with_reducible repeat (first|refine aG ?_ _|refine aH ?_|refine aE ?_ _));exact BK124.out) Try.underlying29 rfl tH) rfl ?_
    exact ⟨_,_,tC,by (with_reducible repeat (first|apply Kd.bC|apply Kd.bD|apply Kd.bG));exact Kd.bF (Kd.bJ (p:=⟨gb124,1,none⟩) (Kd.bJ (p:=⟨gb124,0,none⟩) (Kd.R_types HO_129000.out BK124.out tb) (fun _ hk=>hk.2) (.slice Ao8 t125.length co8)) (fun _ hk=>hk.2) (.slice Ao36 x129001_1.length co36)) (fun _ hk=>trivial),by (with_reducible repeat (first|apply Kd.bC|apply Kd.bD|apply Kd.bG));exact Kd.bF (Kd.bJ (p:=⟨gb124,1,none⟩) (Kd.bJ (p:=⟨gb124,0,none⟩) (Kd.R_types HO_129001.out BK124.out tb) (fun _ hk=>hk.2) (.slice Ao8 t125.length co8)) (fun _ hk=>hk.2) (.slice Ao36 x129001_1.length co36)) (fun _ hk=>trivial),AG⟩
def impl_within.f (a0:Int) (a1:Int) (a2:Int):Option (Bool):=if a0 ≥ a1 then (some (decide (a0 ≤ a2))) else (some false)
set_option maxHeartbeats 8000000 in
set_option maxRecDepth 100000 in
theorem impl_within.calls (a0:Int) (a1:Int) (a2:Int) (r:Bool) (w:World) (h:impl_within.f a0 a1 a2 = some r) :
  Calls Try.prog 32 #[.int .i64 a0,.int .i64 a1,.int .i64 a2] w fun e w'=>e = .returned (.bool r) ∧ Drawn0 w w':=by
 have H:(if a0 ≥ a1 then (some (decide (a0 ≤ a2))) else (some false)) = some r:=h
 clear h
 by_cases c4:a0 ≥ a1
 ·rw [if_pos c4] at H
  have c4b0:decide (a1 ≤ a0) = true:=decide_eq_true c4
  clear c4
  obtain rfl:=Option.some.inj H
  go_enter Try.func32,Try.ntmps32
  go_wp2
  go_ret
  exact tU
 ·rw [if_neg c4] at H
  have c4b0:decide (a1 ≤ a0) = false:=decide_eq_false c4
  clear c4
  obtain rfl:=Option.some.inj H
  go_enter Try.func32,Try.ntmps32
  go_wp2
  go_ret
  exact tU
def impl_LessKey.f (a0_0:Int) (a0_1:Int) (a0_2:Int) (a0_3:Int) (a0_4:Int) (a1_0:Int) (a1_1:Int) (a1_2:Int) (a1_3:Int) (a1_4:Int):Option (Bool):=if a0_0 < a1_0 then (some true) else (if a0_0 = a1_0 then (some (decide (a0_1 < a1_1))) else (some false))
set_option maxHeartbeats 8000000 in
set_option maxRecDepth 100000 in
theorem impl_LessKey.calls (a0_0:Int) (a0_1:Int) (a0_2:Int) (a0_3:Int) (a0_4:Int) (a1_0:Int) (a1_1:Int) (a1_2:Int) (a1_3:Int) (a1_4:Int) (r:Bool) (w:World) (h:impl_LessKey.f a0_0 a0_1 a0_2 a0_3 a0_4 a1_0 a1_1 a1_2 a1_3 a1_4 = some r) :
  Calls Try.prog 99 #[.agg #[.int .i64 a0_0,.int .i64 a0_1,.int .i64 a0_2,.int .i64 a0_3,.int .i64 a0_4],.agg #[.int .i64 a1_0,.int .i64 a1_1,.int .i64 a1_2,.int .i64 a1_3,.int .i64 a1_4]] w fun e w'=>e = .returned (.bool r) ∧ Below w.heap.size w w':=by
 have hu38:=Try.underlying38
 have HB:=aA.mk (Below.refl w.heap.size w)
 have H:(if a0_0 < a1_0 then (some true) else (if a0_0 = a1_0 then (some (decide (a0_1 < a1_1))) else (some false))) = some r:=h
 clear h
 by_cases c3:a0_0 < a1_0
 ·rw [if_pos c3] at H
  have c3b0:decide (a0_0 < a1_0) = true:=decide_eq_true c3
  clear c3
  obtain rfl:=Option.some.inj H
  go_enter Try.func99,Try.ntmps99
  go_wp2_with (first|((with_reducible refine aZ (N:=2) rfl ?_);refine bB ?hg (N:=2) ?hd (cs:=#[.int .i64 a0_0,.int .i64 a0_1,.int .i64 a0_2,.int .i64 a0_3,.int .i64 a0_4]) (t:=38) ?hr ?_;(case hd=>rfl);(case hg=>rfl);(case hr=>exact tJ);intro gb137 hg w4 hbox hb;have BK137:=aA.mk (hbox);have GW137:=aA.mk ((by rw [hg];exact (aM HB.out):w.heap.size ≤ gb137));have GE137:=aA.mk ((by rw [hg];exact (aM HB.out):w.heap.size ≤ gb137));replace HB:=aA.mk (aQ HB.out hb);clear hb hbox hg)|((with_reducible refine aZ (N:=3) rfl ?_);refine bB ?hg (N:=3) ?hd (cs:=#[.int .i64 a1_0,.int .i64 a1_1,.int .i64 a1_2,.int .i64 a1_3,.int .i64 a1_4]) (t:=38) ?hr ?_;(case hd=>rfl);(case hg=>rfl);(case hr=>exact tJ);intro gb138 hg w5 hbox hb;have BK138:=aA.mk (hbox);have GW138:=aA.mk ((by rw [hg];exact (aM HB.out):w.heap.size ≤ gb138));have GE138:=aA.mk ((by rw [hg];exact (aM HB.out):w.heap.size ≤ gb138));replace HB:=aA.mk (aQ HB.out hb);have NB137_138:=nL BK137;have NB138_137:=nG BK137;replace BK137:=nB BK137;clear hb hbox hg;have hnb6:=NB137_138.out;have hnc6:=NB138_137.out;obtain ⟨hcz7_0,hcz7_1,hcz7_2,hcz7_3,hcz7_4⟩:=cs5 BK137.out;obtain ⟨hfz7_0,hfz7_1,hfz7_2,hfz7_3,hfz7_4⟩:=fs5 BK137.out;obtain ⟨hcz8_0,hcz8_1,hcz8_2,hcz8_3,hcz8_4⟩:=cs5 BK138.out;obtain ⟨hfz8_0,hfz8_1,hfz8_2,hfz8_3,hfz8_4⟩:=fs5 BK138.out))
  go_ret
  exact wU
 ·rw [if_neg c3] at H
  have c3b0:decide (a0_0 < a1_0) = false:=decide_eq_false c3
  clear c3
  by_cases c9:a0_0 = a1_0
  ·rw [if_pos c9] at H
   have c9b0:(a0_0 == a1_0) = true:=beq_iff_eq.mpr c9
   have c9b1:(a0_0 != a1_0) = false:=bne_eq_false_iff_eq.mpr c9
   clear c9
   obtain rfl:=Option.some.inj H
   go_enter Try.func99,Try.ntmps99
   go_wp2_with (first|((with_reducible refine aZ (N:=2) rfl ?_);refine bB ?hg (N:=2) ?hd (cs:=#[.int .i64 a0_0,.int .i64 a0_1,.int .i64 a0_2,.int .i64 a0_3,.int .i64 a0_4]) (t:=38) ?hr ?_;(case hd=>rfl);(case hg=>rfl);(case hr=>exact tJ);intro gb137 hg w10 hbox hb;have BK137:=aA.mk (hbox);have GW137:=aA.mk ((by rw [hg];exact (aM HB.out):w.heap.size ≤ gb137));have GE137:=aA.mk ((by rw [hg];exact (aM HB.out):w.heap.size ≤ gb137));replace HB:=aA.mk (aQ HB.out hb);clear hb hbox hg)|((with_reducible refine aZ (N:=3) rfl ?_);refine bB ?hg (N:=3) ?hd (cs:=#[.int .i64 a1_0,.int .i64 a1_1,.int .i64 a1_2,.int .i64 a1_3,.int .i64 a1_4]) (t:=38) ?hr ?_;(case hd=>rfl);(case hg=>rfl);(case hr=>exact tJ);intro gb138 hg w11 hbox hb;have BK138:=aA.mk (hbox);have GW138:=aA.mk ((by rw [hg];exact (aM HB.out):w.heap.size ≤ gb138));have GE138:=aA.mk ((by rw [hg];exact (aM HB.out):w.heap.size ≤ gb138));replace HB:=aA.mk (aQ HB.out hb);have NB137_138:=nL BK137;have NB138_137:=nG BK137;replace BK137:=nB BK137;clear hb hbox hg;have hnb12:=NB137_138.out;have hnc12:=NB138_137.out;obtain ⟨hcz13_0,hcz13_1,hcz13_2,hcz13_3,hcz13_4⟩:=cs5 BK137.out;obtain ⟨hfz13_0,hfz13_1,hfz13_2,hfz13_3,hfz13_4⟩:=fs5 BK137.out;obtain ⟨hcz14_0,hcz14_1,hcz14_2,hcz14_3,hcz14_4⟩:=cs5 BK138.out;obtain ⟨hfz14_0,hfz14_1,hfz14_2,hfz14_3,hfz14_4⟩:=fs5 BK138.out))
   go_ret
   exact wU
  ·rw [if_neg c9] at H
   have c9b0:(a0_0 == a1_0) = false:=beq_eq_false_iff_ne.mpr c9
   have c9b1:(a0_0 != a1_0) = true:=bne_iff_ne.mpr c9
   obtain rfl:=Option.some.inj H
   go_enter Try.func99,Try.ntmps99
   go_wp2_with (first|((with_reducible refine aZ (N:=2) rfl ?_);refine bB ?hg (N:=2) ?hd (cs:=#[.int .i64 a0_0,.int .i64 a0_1,.int .i64 a0_2,.int .i64 a0_3,.int .i64 a0_4]) (t:=38) ?hr ?_;(case hd=>rfl);(case hg=>rfl);(case hr=>exact tJ);intro gb137 hg w15 hbox hb;have BK137:=aA.mk (hbox);have GW137:=aA.mk ((by rw [hg];exact (aM HB.out):w.heap.size ≤ gb137));have GE137:=aA.mk ((by rw [hg];exact (aM HB.out):w.heap.size ≤ gb137));replace HB:=aA.mk (aQ HB.out hb);clear hb hbox hg)|((with_reducible refine aZ (N:=3) rfl ?_);refine bB ?hg (N:=3) ?hd (cs:=#[.int .i64 a1_0,.int .i64 a1_1,.int .i64 a1_2,.int .i64 a1_3,.int .i64 a1_4]) (t:=38) ?hr ?_;(case hd=>rfl);(case hg=>rfl);(case hr=>exact tJ);intro gb138 hg w16 hbox hb;have BK138:=aA.mk (hbox);have GW138:=aA.mk ((by rw [hg];exact (aM HB.out):w.heap.size ≤ gb138));have GE138:=aA.mk ((by rw [hg];exact (aM HB.out):w.heap.size ≤ gb138));replace HB:=aA.mk (aQ HB.out hb);have NB137_138:=nL BK137;have NB138_137:=nG BK137;replace BK137:=nB BK137;clear hb hbox hg;have hnb17:=NB137_138.out;have hnc17:=NB138_137.out;obtain ⟨hcz18_0,hcz18_1,hcz18_2,hcz18_3,hcz18_4⟩:=cs5 BK137.out;obtain ⟨hfz18_0,hfz18_1,hfz18_2,hfz18_3,hfz18_4⟩:=fs5 BK137.out;obtain ⟨hcz19_0,hcz19_1,hcz19_2,hcz19_3,hcz19_4⟩:=cs5 BK138.out;obtain ⟨hfz19_0,hfz19_1,hfz19_2,hfz19_3,hfz19_4⟩:=fs5 BK138.out))
   go_ret
   exact wU
def impl_SameSpot.f (a0_0:Int) (a0_1:Int) (a0_2:Int) (a0_3:Int) (a0_4:Int) (a1_0:Int) (a1_1:Int) (a1_2:Int) (a1_3:Int) (a1_4:Int):Option (Bool):=if a0_0 = a1_0 then (some (a0_1 == a1_1)) else (some false)
set_option maxHeartbeats 8000000 in
set_option maxRecDepth 100000 in
theorem impl_SameSpot.calls (a0_0:Int) (a0_1:Int) (a0_2:Int) (a0_3:Int) (a0_4:Int) (a1_0:Int) (a1_1:Int) (a1_2:Int) (a1_3:Int) (a1_4:Int) (r:Bool) (w:World) (h:impl_SameSpot.f a0_0 a0_1 a0_2 a0_3 a0_4 a1_0 a1_1 a1_2 a1_3 a1_4 = some r) :
  Calls Try.prog 102 #[.agg #[.int .i64 a0_0,.int .i64 a0_1,.int .i64 a0_2,.int .i64 a0_3,.int .i64 a0_4],.agg #[.int .i64 a1_0,.int .i64 a1_1,.int .i64 a1_2,.int .i64 a1_3,.int .i64 a1_4]] w fun e w'=>e = .returned (.bool r) ∧ Below w.heap.size w w':=by
 have hu38:=Try.underlying38
 have HB:=aA.mk (Below.refl w.heap.size w)
 have H:(if a0_0 = a1_0 then (some (a0_1 == a1_1)) else (some false)) = some r:=h
 clear h
 by_cases c3:a0_0 = a1_0
 ·rw [if_pos c3] at H
  have c3b0:(a0_0 == a1_0) = true:=beq_iff_eq.mpr c3
  have c3b1:(a0_0 != a1_0) = false:=bne_eq_false_iff_eq.mpr c3
  clear c3
  obtain rfl:=Option.some.inj H
  go_enter Try.func102,Try.ntmps102
  go_wp2_with (first|((with_reducible refine aZ (N:=2) rfl ?_);refine bB ?hg (N:=2) ?hd (cs:=#[.int .i64 a0_0,.int .i64 a0_1,.int .i64 a0_2,.int .i64 a0_3,.int .i64 a0_4]) (t:=38) ?hr ?_;(case hd=>rfl);(case hg=>rfl);(case hr=>exact tJ);intro gb139 hg w4 hbox hb;have BK139:=aA.mk (hbox);have GW139:=aA.mk ((by rw [hg];exact (aM HB.out):w.heap.size ≤ gb139));have GE139:=aA.mk ((by rw [hg];exact (aM HB.out):w.heap.size ≤ gb139));replace HB:=aA.mk (aQ HB.out hb);clear hb hbox hg)|((with_reducible refine aZ (N:=3) rfl ?_);refine bB ?hg (N:=3) ?hd (cs:=#[.int .i64 a1_0,.int .i64 a1_1,.int .i64 a1_2,.int .i64 a1_3,.int .i64 a1_4]) (t:=38) ?hr ?_;(case hd=>rfl);(case hg=>rfl);(case hr=>exact tJ);intro gb140 hg w5 hbox hb;have BK140:=aA.mk (hbox);have GW140:=aA.mk ((by rw [hg];exact (aM HB.out):w.heap.size ≤ gb140));have GE140:=aA.mk ((by rw [hg];exact (aM HB.out):w.heap.size ≤ gb140));replace HB:=aA.mk (aQ HB.out hb);have NB139_140:=nL BK139;have NB140_139:=nG BK139;replace BK139:=nB BK139;clear hb hbox hg;have hnb6:=NB139_140.out;have hnc6:=NB140_139.out;obtain ⟨hcz7_0,hcz7_1,hcz7_2,hcz7_3,hcz7_4⟩:=cs5 BK139.out;obtain ⟨hfz7_0,hfz7_1,hfz7_2,hfz7_3,hfz7_4⟩:=fs5 BK139.out;obtain ⟨hcz8_0,hcz8_1,hcz8_2,hcz8_3,hcz8_4⟩:=cs5 BK140.out;obtain ⟨hfz8_0,hfz8_1,hfz8_2,hfz8_3,hfz8_4⟩:=fs5 BK140.out))
  go_ret
  exact ⟨tC,by repeat (first|(with_reducible first|exact HB.out|apply aK|apply aC|apply aJ|refine aD ?_ GE139.out|refine aD ?_ GE140.out)|exact HB.out)⟩
 ·rw [if_neg c3] at H
  have c3b0:(a0_0 == a1_0) = false:=beq_eq_false_iff_ne.mpr c3
  have c3b1:(a0_0 != a1_0) = true:=bne_iff_ne.mpr c3
  obtain rfl:=Option.some.inj H
  go_enter Try.func102,Try.ntmps102
  go_wp2_with (first|((with_reducible refine aZ (N:=2) rfl ?_);refine bB ?hg (N:=2) ?hd (cs:=#[.int .i64 a0_0,.int .i64 a0_1,.int .i64 a0_2,.int .i64 a0_3,.int .i64 a0_4]) (t:=38) ?hr ?_;(case hd=>rfl);(case hg=>rfl);(case hr=>exact tJ);intro gb139 hg w9 hbox hb;have BK139:=aA.mk (hbox);have GW139:=aA.mk ((by rw [hg];exact (aM HB.out):w.heap.size ≤ gb139));have GE139:=aA.mk ((by rw [hg];exact (aM HB.out):w.heap.size ≤ gb139));replace HB:=aA.mk (aQ HB.out hb);clear hb hbox hg)|((with_reducible refine aZ (N:=3) rfl ?_);refine bB ?hg (N:=3) ?hd (cs:=#[.int .i64 a1_0,.int .i64 a1_1,.int .i64 a1_2,.int .i64 a1_3,.int .i64 a1_4]) (t:=38) ?hr ?_;(case hd=>rfl);(case hg=>rfl);(case hr=>exact tJ);intro gb140 hg w10 hbox hb;have BK140:=aA.mk (hbox);have GW140:=aA.mk ((by rw [hg];exact (aM HB.out):w.heap.size ≤ gb140));have GE140:=aA.mk ((by rw [hg];exact (aM HB.out):w.heap.size ≤ gb140));replace HB:=aA.mk (aQ HB.out hb);have NB139_140:=nL BK139;have NB140_139:=nG BK139;replace BK139:=nB BK139;clear hb hbox hg;have hnb11:=NB139_140.out;have hnc11:=NB140_139.out;obtain ⟨hcz12_0,hcz12_1,hcz12_2,hcz12_3,hcz12_4⟩:=cs5 BK139.out;obtain ⟨hfz12_0,hfz12_1,hfz12_2,hfz12_3,hfz12_4⟩:=fs5 BK139.out;obtain ⟨hcz13_0,hcz13_1,hcz13_2,hcz13_3,hcz13_4⟩:=cs5 BK140.out;obtain ⟨hfz13_0,hfz13_1,hfz13_2,hfz13_3,hfz13_4⟩:=fs5 BK140.out))
  go_ret
  exact ⟨tC,by repeat (first|(with_reducible first|exact HB.out|apply aK|apply aC|apply aJ|refine aD ?_ GE139.out|refine aD ?_ GE140.out)|exact HB.out)⟩
end Go.Proofs.Ytamjbjkbineafaa.PFnPacked

namespace Go.Proofs.Ytamjbjkbineafaa.PFnPacked
open Go.RowKit Go.Proofs.YtamjbjkbineafaaW.PrintWords Go.Proofs.YtamjbjkbineafaaW.PrintLast Go.Proofs.YtamjbjkbineafaaW.PrintMore
attribute [local go_sem] max2_int min2_int max_two min_two max_three min_three max_four min_four   -- for this text's walks alone
set_option linter.unusedVariables false
set_option linter.unusedSimpArgs false
mutual
def impl_SetPut.l0:Nat → List (S38) → Bool → List (S38) → Int → Int → Int → Int → Int → Int → Int → Option ((List (S38)))
 | 0,_,_,_,_,_,_,_,_,_,_=>none
 | k + 1,x5,x6,x10,x11,x12,x142000,x142001,x142002,x142003,x142004=>if x12 < x11 then (if 0 ≤ x12 then (if x12 < (x10.length:Int) then (if x6 = true then (impl_SetPut.j1 k x5 x6 x10 x11 x12 false x142000 x142001 x142002 x142003 x142004 ((rd_T38 x10 x12).f0) ((rd_T38 x10 x12).f1) ((rd_T38 x10 x12).f2) ((rd_T38 x10 x12).f3) ((rd_T38 x10 x12).f4)) else ((impl_LessKey.f ((rd_T38 x10 x12).f0) ((rd_T38 x10 x12).f1) ((rd_T38 x10 x12).f2) ((rd_T38 x10 x12).f3) ((rd_T38 x10 x12).f4) x142000 x142001 x142002 x142003 x142004).bind fun t150=>(impl_SetPut.j1 k x5 x6 x10 x11 x12 (!t150) x142000 x142001 x142002 x142003 x142004 ((rd_T38 x10 x12).f0) ((rd_T38 x10 x12).f1) ((rd_T38 x10 x12).f2) ((rd_T38 x10 x12).f3) ((rd_T38 x10 x12).f4)))) else (none)) else (none)) else (if x6 = true then (some x5) else (if x5.length < 3518437208883 then (some (x5 ++ [(⟨x142000,x142001,x142002,x142003,x142004⟩:S38)])) else (none)))
def impl_SetPut.j1:Nat → List (S38) → Bool → List (S38) → Int → Int → Bool → Int → Int → Int → Int → Int → Int → Int → Int → Int → Int → Option ((List (S38)))
 | 0,_,_,_,_,_,_,_,_,_,_,_,_,_,_,_,_=>none
 | k + 1,x5,x6,x10,x11,x12,x23,x142000,x142001,x142002,x142003,x142004,x150000,x150001,x150002,x150003,x150004=>if x23 = true then (if x5.length < 3518437208883 then ((some (x5 ++ [(⟨x142000,x142001,x142002,x142003,x142004⟩:S38)]:List (S38))).bind fun y151=>((impl_SameSpot.f x150000 x150001 x150002 x150003 x150004 x142000 x142001 x142002 x142003 x142004).bind fun t154=>(if t154 = true then (impl_SetPut.l0 k y151 true x10 x11 (wrap64 (x12 + 1)) x142000 x142001 x142002 x142003 x142004) else (if y151.length < 3518437208883 then (impl_SetPut.l0 k (y151 ++ [(⟨x150000,x150001,x150002,x150003,x150004⟩:S38)]) true x10 x11 (wrap64 (x12 + 1)) x142000 x142001 x142002 x142003 x142004) else (none))))) else (none)) else ((impl_SameSpot.f x150000 x150001 x150002 x150003 x150004 x142000 x142001 x142002 x142003 x142004).bind fun t158=>(if t158 = true then (impl_SetPut.l0 k x5 x6 x10 x11 (wrap64 (x12 + 1)) x142000 x142001 x142002 x142003 x142004) else (if x5.length < 3518437208883 then (impl_SetPut.l0 k (x5 ++ [(⟨x150000,x150001,x150002,x150003,x150004⟩:S38)]) x6 x10 x11 (wrap64 (x12 + 1)) x142000 x142001 x142002 x142003 x142004) else (none))))
end
def impl_SetPut.f (k:Nat) (l0:List (S38)) (a1_0:Int) (a1_1:Int) (a1_2:Int) (a1_3:Int) (a1_4:Int):Option ((List (S38))):=impl_SetPut.l0 k (([]:List (S38))) false l0 (l0.length:Int) 0 a1_0 a1_1 a1_2 a1_3 a1_4
set_option maxHeartbeats 8000000 in
set_option maxRecDepth 100000 in
theorem impl_SetPut.calls (k:Nat) (A0:Option Addr) (c0:Nat) (l0:List (S38)) (a1_0:Int) (a1_1:Int) (a1_2:Int) (a1_3:Int) (a1_4:Int) (r:List (S38)) (w:World) (hr0:Kd.C k38 w A0 l0.length l0) (hc0:l0.length ≤ c0) (h:impl_SetPut.f k l0 a1_0 a1_1 a1_2 a1_3 a1_4 = some r) :
  Calls Try.prog 90 #[.slice A0 l0.length c0,.agg #[.int .i64 a1_0,.int .i64 a1_1,.int .i64 a1_2,.int .i64 a1_3,.int .i64 a1_4]] w fun e w'=>∃ v0_:Value,e = .returned (v0_) ∧ Kd.R k38 38 w' w.heap.size (fun _=>True) v0_ r ∧ Below w.heap.size w w':=by
 have hu38:=Try.underlying38
 have HR0:=aA.mk hr0
 have HC0:=aA.mk hc0
 clear hr0 hc0
 have HB:=aA.mk (Below.refl w.heap.size w)
 have H:(impl_SetPut.l0 k (([]:List (S38))) false l0 (l0.length:Int) 0 a1_0 a1_1 a1_2 a1_3 a1_4) = some r:=h
 clear h
 obtain ⟨y142,hy142⟩:∃ y_:List (S38),y_ = (([]:List (S38))):=⟨_,rfl⟩
 replace H:(impl_SetPut.l0 k y142 false l0 (l0.length:Int) 0 a1_0 a1_1 a1_2 a1_3 a1_4) = some r:=by first|(rw [hy142];with_reducible exact H)|(have H2_:=(Option.bind_some _ _).symm.trans H;rw [hy142];with_reducible exact H2_)|(have H2_:=(Option.bind_some _ _).symm.trans H;with_reducible exact H2_)|with_reducible exact H|(rw [hy142];exact H)|exact H
 have Ny142:=aA.mk hy142
 clear hy142
 have H':=aA.mk H
 clear H
 go_enter Try.func90,Try.ntmps90
 go_wp2_with (first|((with_reducible refine aZ (N:=3) rfl ?_);refine bB ?hg (N:=3) ?hd (cs:=#[.int .i64 a1_0,.int .i64 a1_1,.int .i64 a1_2,.int .i64 a1_3,.int .i64 a1_4]) (t:=38) ?hr ?_;(case hd=>rfl);(case hg=>rfl);(case hr=>exact tJ);intro gb141 hg w3 hbox hb;have BK141:=aA.mk (hbox);have GW141:=aA.mk ((by rw [hg];exact (aM tE):w.heap.size ≤ gb141));have GE141:=aA.mk ((by rw [hg];exact (aM tE):w.heap.size ≤ gb141));replace HB:=aA.mk (aQ tE hb);clear hb hbox hg)|((with_reducible refine aZ (N:=9) rfl ?_);refine Kd.R_lit k38 _ 38 ?hg (N:=9) ?hd (xs:=([]:List (S38))) (inner:=[]) (ok:=fun _=>True) (okp:=fun _=>True) ?hr ?hp (fun _ hk=>hk) trivial (Below.refl _ _) (Nat.le_refl _) te ?_;(case hd=>rfl);(case hg=>rfl);(case hr=>exact tJ);(case hp=>exact (Reps.none _ _));intro v143 w4 ho5 hb hg_ hnew_;clear hg_ hnew_;(first|rw [← Ny142.out] at ho5|(simp only [Int.reduceToNat] at ho5;rw [← Ny142.out] at ho5));have HO144:=aA.mk (Kd.R_lower (Kd.R_newB ho5 (g:=gb141) (o:=.cells #[.int .i64 a1_0,.int .i64 a1_1,.int .i64 a1_2,.int .i64 a1_3,.int .i64 a1_4] 38 (0,0)) vJ) (aM t1));replace BK141:=nC BK141;replace HB:=aA.mk (aQ t1 hb);clear hb ho5))
 go_loopg [5,6,12] k (fun kq v5 v6 v12 w'=>∃ (x5_1:List (S38)) (x6_1:Bool) (x12_1:Int),v6 = .bool x6_1 ∧ v12 = .int .i64 x12_1 ∧ aA (impl_SetPut.l0 kq x5_1 x6_1 l0 (l0.length:Int) x12_1 a1_0 a1_1 a1_2 a1_3 a1_4 = some r) ∧ aA (kq ≤ k) ∧ aA (Kd.R k38 38 w' w.heap.size (fun k_=>k_ ≠ gb141) v5 x5_1) ∧ aA (w'.heap[gb141]? = some (.cells #[.int .i64 a1_0,.int .i64 a1_1,.int .i64 a1_2,.int .i64 a1_3,.int .i64 a1_4] 38 (0,0))) ∧ aA (Below w.heap.size w w'))
 case atStart=>exact ⟨(y142),(false),(0),tG,tG,H',⟨Nat.le_refl _⟩,⟨by (with_reducible repeat (first|apply Kd.bC|apply Kd.bD|apply Kd.bG));exact Kd.bF HO144.out (fun _ hk=>hk.2)⟩,⟨vW⟩,⟨we⟩⟩
 case round =>
  clear H'
  try clear p2
  obtain ⟨x5_1,x6_1,x12_1,rfl,rfl,HA,HK1,HO_5,BK141,HB⟩:=hrel
  cases gk with
  | zero=>exact absurd HA.out (by simp [impl_SetPut.l0])
  | succ k1 =>
   have H:=HA.out
   clear HA
   simp only [impl_SetPut.l0] at H
   by_cases c6:x12_1 < (l0.length:Int)
   ·rw [if_pos c6] at H
    have c6b0:decide (x12_1 < (l0.length:Int)) = true:=decide_eq_true c6
    clear c6
    by_cases c7:0 ≤ x12_1
    ·rw [if_pos c7] at H
     have c7b0:decide (0 ≤ x12_1) = true:=decide_eq_true c7
     clear c7
     by_cases c8:x12_1 < (l0.length:Int)
     ·rw [if_pos c8] at H
      have c8b0:decide (x12_1 < (l0.length:Int)) = true:=decide_eq_true c8
      clear c8
      have HC9:=aA.mk H
      clear H
      have p148:0 ≤ (x12_1:Int):=lE tF
      have q148:x12_1 < (l0.length:Int):=lE tF
      obtain ⟨ad148,e148,hx148_0,hx148_1,hx148_2,hx148_3,hx148_4⟩:=at_T38 HR0.out x12_1 p148 q148
      cases e148
      replace hx148_0:=(HB.out.cell (lD w _ hx148_0)).trans hx148_0
      replace hx148_1:=(HB.out.cell (lD w _ hx148_1)).trans hx148_1
      replace hx148_2:=(HB.out.cell (lD w _ hx148_2)).trans hx148_2
      replace hx148_3:=(HB.out.cell (lD w _ hx148_3)).trans hx148_3
      replace hx148_4:=(HB.out.cell (lD w _ hx148_4)).trans hx148_4
      replace p148:=eq_true p148
      replace q148:=eq_true q148
      go_upto_region 6 with (first|((with_reducible refine aZ (N:=8) rfl ?_);refine bB ?hg (N:=8) ?hd (cs:=#[.int .i64 0,.int .i64 0,.int .i64 0,.int .i64 0,.int .i64 0]) (t:=38) ?hr ?_;(case hd=>rfl);(case hg=>rfl);(case hr=>exact tJ);intro gb149 hg w10 hbox hb;replace HO_5:=aA.mk (Kd.R_below (Kd.R_elderB vZ gb149 (Nat.le_of_eq hg.symm)) hb);have BK149:=aA.mk (hbox);have GW149:=aA.mk ((by rw [hg];exact (aM t1):w.heap.size ≤ gb149));have GE149:=aA.mk ((by rw [hg];exact (aM t1):w.heap.size ≤ gb149));replace HB:=aA.mk (aQ t1 hb);have NB141_149:=nK BK141;have NB149_141:=nH BK141;replace BK141:=nC BK141;clear hb hbox hg;have hnb11:=NB149_141.out;have hnc11:=NB141_149.out;obtain ⟨hcz12_0,hcz12_1,hcz12_2,hcz12_3,hcz12_4⟩:=cs5 BK149.out;obtain ⟨hfz12_0,hfz12_1,hfz12_2,hfz12_3,hfz12_4⟩:=fs5 BK149.out))
      (try simp only [Act.put,lA,lB,lC])
      go_cut [23] (fun v23 wc=>∃ (kq:Nat) (x23_8:Bool),v23 = .bool x23_8 ∧ aA (impl_SetPut.j1 kq x5_1 x6_1 l0 (l0.length:Int) x12_1 x23_8 a1_0 a1_1 a1_2 a1_3 a1_4 ((rd_T38 l0 x12_1).f0) ((rd_T38 l0 x12_1).f1) ((rd_T38 l0 x12_1).f2) ((rd_T38 l0 x12_1).f3) ((rd_T38 l0 x12_1).f4) = some r) ∧ aA (kq ≤ k1) ∧ aA (Kd.R k38 38 wc w.heap.size (fun k_=>k_ ≠ gb141 ∧ k_ ≠ gb149) u5 x5_1) ∧ aA (wc.heap[gb141]? = some (.cells #[.int .i64 a1_0,.int .i64 a1_1,.int .i64 a1_2,.int .i64 a1_3,.int .i64 a1_4] 38 (0,0))) ∧ aA (wc.heap[gb149]? = some (.cells #[.int .i64 ((rd_T38 l0 x12_1).f0),.int .i64 ((rd_T38 l0 x12_1).f1),.int .i64 ((rd_T38 l0 x12_1).f2),.int .i64 ((rd_T38 l0 x12_1).f3),.int .i64 ((rd_T38 l0 x12_1).f4)] 38 (0,0))) ∧ aA (Below w.heap.size w wc))
      case first =>
       have H:=HC9.out
       clear HC9
       by_cases c13:x6_1 = true
       ·subst c13
        have H1:(impl_SetPut.j1 k1 x5_1 true l0 (l0.length:Int) x12_1 false a1_0 a1_1 a1_2 a1_3 a1_4 ((rd_T38 l0 x12_1).f0) ((rd_T38 l0 x12_1).f1) ((rd_T38 l0 x12_1).f2) ((rd_T38 l0 x12_1).f3) ((rd_T38 l0 x12_1).f4)) = some r:=by rw [if_pos rfl] at H;exact H
        clear H
        have H:=H1
        clear H1
        have H':=aA.mk H
        clear H
        go_wp2
        go_meet
        case rel=>exact ⟨_,(false),tG,H',⟨by have:=HK1.out;first|omega|exact Nat.le_refl _⟩,⟨by (with_reducible repeat (first|apply Kd.bC|apply Kd.bD|apply Kd.bG));exact Kd.bF (Kd.bJ (p:=⟨gb149,4,none⟩) (Kd.bJ (p:=⟨gb149,3,none⟩) (Kd.bJ (p:=⟨gb149,2,none⟩) (Kd.bJ (p:=⟨gb149,1,none⟩) (Kd.bJ (p:=⟨gb149,0,none⟩) (Kd.bF HO_5.out (fun k_ hk=>(⟨hk,hk.2⟩:_ ∧ k_ ≠ gb149))) (fun _ hk=>hk.2) (.int .i64 ((rd_T38 l0 x12_1).f0))) (fun _ hk=>hk.2) (.int .i64 ((rd_T38 l0 x12_1).f1))) (fun _ hk=>hk.2) (.int .i64 ((rd_T38 l0 x12_1).f2))) (fun _ hk=>hk.2) (.int .i64 ((rd_T38 l0 x12_1).f3))) (fun _ hk=>hk.2) (.int .i64 ((rd_T38 l0 x12_1).f4))) (fun _ hk=>⟨hk.1.1,hk.1.2⟩)⟩,⟨by (with_reducible repeat (first|refine aG ?_ _|refine aH ?_|refine aE ?_ _));refine aV ?_ NB141_149.out _;(with_reducible repeat (first|refine aG ?_ _|refine aH ?_|refine aE ?_ _));refine aV ?_ NB141_149.out _;(with_reducible repeat (first|refine aG ?_ _|refine aH ?_|refine aE ?_ _));refine aV ?_ NB141_149.out _;(with_reducible repeat (first|refine aG ?_ _|refine aH ?_|refine aE ?_ _));refine aV ?_ NB141_149.out _;(with_reducible repeat (first|refine aG ?_ _|refine aH ?_|refine aE ?_ _));refine aV ?_ NB141_149.out _;(with_reducible repeat (first|refine aG ?_ _|refine aH ?_|refine aE ?_ _));exact BK141.out⟩,⟨by (with_reducible repeat (first|refine aG ?_ _|refine aH ?_|refine aE ?_ _));refine aT (cs:=#[.int .i64 ((rd_T38 l0 x12_1).f0),.int .i64 ((rd_T38 l0 x12_1).f1),.int .i64 ((rd_T38 l0 x12_1).f2),.int .i64 ((rd_T38 l0 x12_1).f3),.int .i64 0]) ?_ 4 _ rfl;(with_reducible repeat (first|refine aG ?_ _|refine aH ?_|refine aE ?_ _));refine aT (cs:=#[.int .i64 ((rd_T38 l0 x12_1).f0),.int .i64 ((rd_T38 l0 x12_1).f1),.int .i64 ((rd_T38 l0 x12_1).f2),.int .i64 0,.int .i64 0]) ?_ 3 _ rfl;(with_reducible repeat (first|refine aG ?_ _|refine aH ?_|refine aE ?_ _));refine aT (cs:=#[.int .i64 ((rd_T38 l0 x12_1).f0),.int .i64 ((rd_T38 l0 x12_1).f1),.int .i64 0,.int .i64 0,.int .i64 0]) ?_ 2 _ rfl;(with_reducible repeat (first|refine aG ?_ _|refine aH ?_|refine aE ?_ _));refine aT (cs:=#[.int .i64 ((rd_T38 l0 x12_1).f0),.int .i64 0,.int .i64 0,.int .i64 0,.int .i64 0]) ?_ 1 _ rfl;(with_reducible repeat (first|refine aG ?_ _|refine aH ?_|refine aE ?_ _));refine aT (cs:=#[.int .i64 0,.int .i64 0,.int .i64 0,.int .i64 0,.int .i64 0]) ?_ 0 _ rfl;(with_reducible repeat (first|refine aG ?_ _|refine aH ?_|refine aE ?_ _));exact BK149.out⟩,⟨t5⟩⟩
       ·replace c13:=Bool.eq_false_iff.mpr c13
        subst c13
        have H1:((impl_LessKey.f ((rd_T38 l0 x12_1).f0) ((rd_T38 l0 x12_1).f1) ((rd_T38 l0 x12_1).f2) ((rd_T38 l0 x12_1).f3) ((rd_T38 l0 x12_1).f4) a1_0 a1_1 a1_2 a1_3 a1_4).bind fun t150=>(impl_SetPut.j1 k1 x5_1 false l0 (l0.length:Int) x12_1 (!t150) a1_0 a1_1 a1_2 a1_3 a1_4 ((rd_T38 l0 x12_1).f0) ((rd_T38 l0 x12_1).f1) ((rd_T38 l0 x12_1).f2) ((rd_T38 l0 x12_1).f3) ((rd_T38 l0 x12_1).f4))) = some r:=by rw [if_neg (show ¬ (false = true) by decide)] at H;exact H
        clear H
        have H:=H1
        clear H1
        replace H:=lF H
        obtain ⟨t150,A140,H⟩:=H
        replace H:(impl_SetPut.j1 k1 x5_1 false l0 (l0.length:Int) x12_1 (!t150) a1_0 a1_1 a1_2 a1_3 a1_4 ((rd_T38 l0 x12_1).f0) ((rd_T38 l0 x12_1).f1) ((rd_T38 l0 x12_1).f2) ((rd_T38 l0 x12_1).f3) ((rd_T38 l0 x12_1).f4)) = some r:=H
        have A14:=aA.mk A140
        clear A140
        have H':=aA.mk H
        clear H
        have hnb15:=NB149_141.out
        have hnc15:=NB141_149.out
        obtain ⟨hcz16_0,hcz16_1,hcz16_2,hcz16_3,hcz16_4⟩:=cs5 BK149.out
        obtain ⟨hfz16_0,hfz16_1,hfz16_2,hfz16_3,hfz16_4⟩:=fs5 BK149.out
        obtain ⟨hcz17_0,hcz17_1,hcz17_2,hcz17_3,hcz17_4⟩:=cs5 BK141.out
        obtain ⟨hfz17_0,hfz17_1,hfz17_2,hfz17_3,hfz17_4⟩:=fs5 BK141.out
        go_wp2_with (first|(go_at_call 99;(with_reducible refine (impl_LessKey.calls ((rd_T38 l0 x12_1).f0) ((rd_T38 l0 x12_1).f1) ((rd_T38 l0 x12_1).f2) ((rd_T38 l0 x12_1).f3) ((rd_T38 l0 x12_1).f4) a1_0 a1_1 a1_2 a1_3 a1_4 t150 _ A14.out).mono ?_);rintro e w18 ⟨rfl,hb⟩;have n0_:=aA.mk (Kd.R_below (by (with_reducible repeat (first|apply Kd.bC|apply Kd.bD|apply Kd.bG));exact (Kd.bF (Kd.bJ (p:=⟨gb149,4,none⟩) (Kd.bJ (p:=⟨gb149,3,none⟩) (Kd.bJ (p:=⟨gb149,2,none⟩) (Kd.bJ (p:=⟨gb149,1,none⟩) (Kd.bJ (p:=⟨gb149,0,none⟩) (Kd.bF HO_5.out (fun k_ hk=>(⟨hk,hk.2⟩:_ ∧ k_ ≠ gb149))) (fun _ hk=>hk.2) (.int .i64 ((rd_T38 l0 x12_1).f0))) (fun _ hk=>hk.2) (.int .i64 ((rd_T38 l0 x12_1).f1))) (fun _ hk=>hk.2) (.int .i64 ((rd_T38 l0 x12_1).f2))) (fun _ hk=>hk.2) (.int .i64 ((rd_T38 l0 x12_1).f3))) (fun _ hk=>hk.2) (.int .i64 ((rd_T38 l0 x12_1).f4))) (fun _ h_=>h_.1))) hb);have n1_:=aA.mk (blk_below (g:=gb141) (o:=.cells #[.int .i64 a1_0,.int .i64 a1_1,.int .i64 a1_2,.int .i64 a1_3,.int .i64 a1_4] 38 (0,0)) (by (with_reducible repeat (first|refine aG ?_ _|refine aH ?_|refine aE ?_ _));refine aV ?_ NB141_149.out _;(with_reducible repeat (first|refine aG ?_ _|refine aH ?_|refine aE ?_ _));refine aV ?_ NB141_149.out _;(with_reducible repeat (first|refine aG ?_ _|refine aH ?_|refine aE ?_ _));refine aV ?_ NB141_149.out _;(with_reducible repeat (first|refine aG ?_ _|refine aH ?_|refine aE ?_ _));refine aV ?_ NB141_149.out _;(with_reducible repeat (first|refine aG ?_ _|refine aH ?_|refine aE ?_ _));refine aV ?_ NB141_149.out _;(with_reducible repeat (first|refine aG ?_ _|refine aH ?_|refine aE ?_ _));exact BK141.out) hb);have n2_:=aA.mk (blk_below (g:=gb149) (o:=.cells #[.int .i64 ((rd_T38 l0 x12_1).f0),.int .i64 ((rd_T38 l0 x12_1).f1),.int .i64 ((rd_T38 l0 x12_1).f2),.int .i64 ((rd_T38 l0 x12_1).f3),.int .i64 ((rd_T38 l0 x12_1).f4)] 38 (0,0)) (by (with_reducible repeat (first|refine aG ?_ _|refine aH ?_|refine aE ?_ _));refine aT (cs:=#[.int .i64 ((rd_T38 l0 x12_1).f0),.int .i64 ((rd_T38 l0 x12_1).f1),.int .i64 ((rd_T38 l0 x12_1).f2),.int .i64 ((rd_T38 l0 x12_1).f3),.int .i64 0]) ?_ 4 _ rfl;(with_reducible repeat (first|refine aG ?_ _|refine aH ?_|refine aE ?_ _));refine aT (cs:=#[.int .i64 ((rd_T38 l0 x12_1).f0),.int .i64 ((rd_T38 l0 x12_1).f1),.int .i64 ((rd_T38 l0 x12_1).f2),.int .i64 0,.int .i64 0]) ?_ 3 _ rfl;(with_reducible repeat (first|refine aG ?_ _|refine aH ?_|refine aE ?_ _));refine aT (cs:=#[.int .i64 ((rd_T38 l0 x12_1).f0),.int .i64 ((rd_T38 l0 x12_1).f1),.int .i64 0,.int .i64 0,.int .i64 0]) ?_ 2 _ rfl;(with_reducible repeat (first|refine aG ?_ _|refine aH ?_|refine aE ?_ _));refine aT (cs:=#[.int .i64 ((rd_T38 l0 x12_1).f0),.int .i64 0,.int .i64 0,.int .i64 0,.int .i64 0]) ?_ 1 _ rfl;(with_reducible repeat (first|refine aG ?_ _|refine aH ?_|refine aE ?_ _));refine aT (cs:=#[.int .i64 0,.int .i64 0,.int .i64 0,.int .i64 0,.int .i64 0]) ?_ 0 _ rfl;(with_reducible repeat (first|refine aG ?_ _|refine aH ?_|refine aE ?_ _));exact BK149.out) hb);have n3_:=aA.mk (aQ tQ hb);clear HO_5;clear BK141;clear BK149;clear HB;have HO_5:=n0_;have BK141:=n1_;have BK149:=n2_;have HB:=n3_;clear n0_ n1_ n2_ n3_;(try clear hb);(try clear hk)))
        go_meet
        case rel=>exact ⟨_,(!t150),tG,H',⟨by have:=HK1.out;first|omega|exact Nat.le_refl _⟩,⟨by (with_reducible repeat (first|apply Kd.bC|apply Kd.bD|apply Kd.bG));exact HO_5.out⟩,⟨vW⟩,⟨by (with_reducible repeat (first|refine aG ?_ _|refine aH ?_|refine aE ?_ _));exact BK149.out⟩,⟨t5⟩⟩
      case rest =>
       clear HC9
       try clear c1
       try clear p1
       try clear q1
       try clear hx1
       try clear p2
       try clear c6
       try clear c6b0
       try clear c7
       try clear c7b0
       try clear c8
       try clear c8b0
       try clear c9
       try clear c11
       try clear c13
       try clear p14
       try clear q14
       try clear hx14
       try clear c15
       try clear hcz12_0
       try clear hcz12_1
       try clear hcz12_2
       try clear hcz12_3
       try clear hcz12_4
       try clear hcz16_0
       try clear hcz16_1
       try clear hcz16_2
       try clear hcz16_3
       try clear hcz16_4
       try clear hcz17_0
       try clear hcz17_1
       try clear hcz17_2
       try clear hcz17_3
       try clear hcz17_4
       try clear hfz12_0
       try clear hfz12_1
       try clear hfz12_2
       try clear hfz12_3
       try clear hfz12_4
       try clear hfz16_0
       try clear hfz16_1
       try clear hfz16_2
       try clear hfz16_3
       try clear hfz16_4
       try clear hfz17_0
       try clear hfz17_1
       try clear hfz17_2
       try clear hfz17_3
       try clear hfz17_4
       try clear hx148_0
       try clear hx148_1
       try clear hx148_2
       try clear hx148_3
       try clear hx148_4
       try clear p148
       try clear p2
       try clear q148
       obtain ⟨kq,x23_8,rfl,HA,HJ8,HO_5,BK141,BK149,HB⟩:=hcut
       cases kq with
       | zero=>exact absurd HA.out (by simp [impl_SetPut.j1])
       | succ kj8 =>
        have H:=HA.out
        clear HA
        simp only [impl_SetPut.j1] at H
        by_cases c19:x23_8 = true
        ·subst c19
         have H1:(if x5_1.length < 3518437208883 then ((some (x5_1 ++ [(⟨a1_0,a1_1,a1_2,a1_3,a1_4⟩:S38)]:List (S38))).bind fun y151=>((impl_SameSpot.f ((rd_T38 l0 x12_1).f0) ((rd_T38 l0 x12_1).f1) ((rd_T38 l0 x12_1).f2) ((rd_T38 l0 x12_1).f3) ((rd_T38 l0 x12_1).f4) a1_0 a1_1 a1_2 a1_3 a1_4).bind fun t154=>(if t154 = true then (impl_SetPut.l0 kj8 y151 true l0 (l0.length:Int) (wrap64 (x12_1 + 1)) a1_0 a1_1 a1_2 a1_3 a1_4) else (if y151.length < 3518437208883 then (impl_SetPut.l0 kj8 (y151 ++ [(⟨((rd_T38 l0 x12_1).f0),((rd_T38 l0 x12_1).f1),((rd_T38 l0 x12_1).f2),((rd_T38 l0 x12_1).f3),((rd_T38 l0 x12_1).f4)⟩:S38)]) true l0 (l0.length:Int) (wrap64 (x12_1 + 1)) a1_0 a1_1 a1_2 a1_3 a1_4) else (none))))) else (none)) = some r:=by rw [if_pos rfl] at H;exact H
         clear H
         have H:=H1
         clear H1
         by_cases c20:x5_1.length < 3518437208883
         ·rw [if_pos c20] at H
          have LMc20:=aA.mk c20
          clear c20
          obtain ⟨y151,hy151⟩:∃ y_:List (S38),y_ = (x5_1 ++ [(⟨a1_0,a1_1,a1_2,a1_3,a1_4⟩:S38)]):=⟨_,rfl⟩
          replace H:((impl_SameSpot.f ((rd_T38 l0 x12_1).f0) ((rd_T38 l0 x12_1).f1) ((rd_T38 l0 x12_1).f2) ((rd_T38 l0 x12_1).f3) ((rd_T38 l0 x12_1).f4) a1_0 a1_1 a1_2 a1_3 a1_4).bind fun t154=>(if t154 = true then (impl_SetPut.l0 kj8 y151 true l0 (l0.length:Int) (wrap64 (x12_1 + 1)) a1_0 a1_1 a1_2 a1_3 a1_4) else (if y151.length < 3518437208883 then (impl_SetPut.l0 kj8 (y151 ++ [(⟨((rd_T38 l0 x12_1).f0),((rd_T38 l0 x12_1).f1),((rd_T38 l0 x12_1).f2),((rd_T38 l0 x12_1).f3),((rd_T38 l0 x12_1).f4)⟩:S38)]) true l0 (l0.length:Int) (wrap64 (x12_1 + 1)) a1_0 a1_1 a1_2 a1_3 a1_4) else (none)))) = some r:=by first|(rw [hy151];with_reducible exact H)|(have H2_:=(Option.bind_some _ _).symm.trans H;rw [hy151];with_reducible exact H2_)|(have H2_:=(Option.bind_some _ _).symm.trans H;with_reducible exact H2_)|with_reducible exact H|(rw [hy151];exact H)|exact H
          have Ny151:=aA.mk hy151
          clear hy151
          replace H:=lF H
          obtain ⟨t154,A210,H⟩:=H
          replace H:(if t154 = true then (impl_SetPut.l0 kj8 y151 true l0 (l0.length:Int) (wrap64 (x12_1 + 1)) a1_0 a1_1 a1_2 a1_3 a1_4) else (if y151.length < 3518437208883 then (impl_SetPut.l0 kj8 (y151 ++ [(⟨((rd_T38 l0 x12_1).f0),((rd_T38 l0 x12_1).f1),((rd_T38 l0 x12_1).f2),((rd_T38 l0 x12_1).f3),((rd_T38 l0 x12_1).f4)⟩:S38)]) true l0 (l0.length:Int) (wrap64 (x12_1 + 1)) a1_0 a1_1 a1_2 a1_3 a1_4) else (none))) = some r:=H
          have A21:=aA.mk A210
          clear A210
          by_cases c22:t154 = true
          ·subst c22
           have H1:(impl_SetPut.l0 kj8 y151 true l0 (l0.length:Int) (wrap64 (x12_1 + 1)) a1_0 a1_1 a1_2 a1_3 a1_4) = some r:=by rw [if_pos rfl] at H;exact H
           clear H
           have H:=H1
           clear H1
           have H':=aA.mk H
           clear H
           have hnb23:=NB141_149.out
           have hnc23:=NB149_141.out
           obtain ⟨hcz24_0,hcz24_1,hcz24_2,hcz24_3,hcz24_4⟩:=cs5 BK141.out
           obtain ⟨hfz24_0,hfz24_1,hfz24_2,hfz24_3,hfz24_4⟩:=fs5 BK141.out
           go_wp2_with (first|((with_reducible refine gate_builtin (b:=.append) (xs:=#[.tmp 24,.tmp 26]) rfl ?_);at_builtin;refine Kd.R_append k38 (w0:=w) w.heap.size rfl (.tmp 24) (.tmp 26) 45 38 (.agg #[(.int .i64 0),(.int .i64 0),(.int .i64 0),(.int .i64 0),(.int .i64 0)]) 40 rfl Try.underlying45 info38 rfl tb tB u5 x5_1 (⟨a1_0,a1_1,a1_2,a1_3,a1_4⟩:S38) [.int .i64 a1_0,.int .i64 a1_1,.int .i64 a1_2,.int .i64 a1_3,.int .i64 a1_4] (fun k_=>k_ ≠ gb141 ∧ k_ ≠ gb149) (fun _=>False) rfl rfl ?aP (fun _ hk=>hk.elim) ?aF ?aO ?aB ?aS ?aL ?_;(case aP=>exact k38_mkM _ _ _ (⟨a1_0,a1_1,a1_2,a1_3,a1_4⟩:S38));(case aB=>exact tQ);(case aF=>exact tT);(case aO=>exact vZ);(case aS=>exact (aM tQ));(case aL=>have:=LMc20.out;omega);intro v152 w25 ho hb hg hat;rw [← Ny151.out] at ho;replace BK141:=aA.mk (blk_grown (g:=gb141) (o:=.cells #[.int .i64 a1_0,.int .i64 a1_1,.int .i64 a1_2,.int .i64 a1_3,.int .i64 a1_4] 38 (0,0)) vJ hg (Kd.R_away HO_5.out (fun _ hk=>hk.1)));replace BK149:=aA.mk (blk_grown (g:=gb149) (o:=.cells #[.int .i64 ((rd_T38 l0 x12_1).f0),.int .i64 ((rd_T38 l0 x12_1).f1),.int .i64 ((rd_T38 l0 x12_1).f2),.int .i64 ((rd_T38 l0 x12_1).f3),.int .i64 ((rd_T38 l0 x12_1).f4)] 38 (0,0)) wW hg (Kd.R_away HO_5.out (fun _ hk=>hk.2)));replace HB:=aA.mk (hb);have HO153:=aA.mk (ho);clear HO_5;clear ho hb hg hat;obtain ⟨hcz26_0,hcz26_1,hcz26_2,hcz26_3,hcz26_4⟩:=cs5 BK149.out;obtain ⟨hfz26_0,hfz26_1,hfz26_2,hfz26_3,hfz26_4⟩:=fs5 BK149.out;obtain ⟨hcz27_0,hcz27_1,hcz27_2,hcz27_3,hcz27_4⟩:=cs5 BK141.out;obtain ⟨hfz27_0,hfz27_1,hfz27_2,hfz27_3,hfz27_4⟩:=fs5 BK141.out)|((with_reducible refine aY (f:=102) rfl ?_);refine goesL_ (some 30) rfl rfl Try.func102 tH rfl #[.agg #[.int .i64 ((rd_T38 l0 x12_1).f0),.int .i64 ((rd_T38 l0 x12_1).f1),.int .i64 ((rd_T38 l0 x12_1).f2),.int .i64 ((rd_T38 l0 x12_1).f3),.int .i64 ((rd_T38 l0 x12_1).f4)],.agg #[.int .i64 a1_0,.int .i64 a1_1,.int .i64 a1_2,.int .i64 a1_3,.int .i64 a1_4]] rfl tA ?_;(with_reducible refine (impl_SameSpot.calls ((rd_T38 l0 x12_1).f0) ((rd_T38 l0 x12_1).f1) ((rd_T38 l0 x12_1).f2) ((rd_T38 l0 x12_1).f3) ((rd_T38 l0 x12_1).f4) a1_0 a1_1 a1_2 a1_3 a1_4 true _ A21.out).mono ?_);rintro e w28 ⟨rfl,hb⟩;refine ⟨_,rfl,?_⟩;replace HO153:=mR HO153;replace BK141:=nC BK141;replace BK149:=nC BK149;replace HB:=aA.mk (aQ tQ hb);(try clear hb);(try clear hk)))
           go_roundg kj8
           case measure=>have:=HK1.out;have:=HJ8.out;omega
           case rel=>exact ⟨(y151),(true),(wrap64 (x12_1 + 1)),tG,tG,H',⟨by have:=HK1.out;have:=HJ8.out;omega⟩,⟨by (with_reducible repeat (first|apply Kd.bC|apply Kd.bD|apply Kd.bG));exact Kd.bF HO153.out (fun _ hk=>hk.1)⟩,⟨vW⟩,⟨t5⟩⟩
          ·replace c22:=Bool.eq_false_iff.mpr c22
           subst c22
           have H1:(if y151.length < 3518437208883 then (impl_SetPut.l0 kj8 (y151 ++ [(⟨((rd_T38 l0 x12_1).f0),((rd_T38 l0 x12_1).f1),((rd_T38 l0 x12_1).f2),((rd_T38 l0 x12_1).f3),((rd_T38 l0 x12_1).f4)⟩:S38)]) true l0 (l0.length:Int) (wrap64 (x12_1 + 1)) a1_0 a1_1 a1_2 a1_3 a1_4) else (none)) = some r:=by rw [if_neg (show ¬ (false = true) by decide)] at H;exact H
           clear H
           have H:=H1
           clear H1
           by_cases c29:y151.length < 3518437208883
           ·rw [if_pos c29] at H
            have LMc29:=aA.mk c29
            clear c29
            obtain ⟨y155,hy155⟩:∃ y_:List (S38),y_ = (y151 ++ [(⟨((rd_T38 l0 x12_1).f0),((rd_T38 l0 x12_1).f1),((rd_T38 l0 x12_1).f2),((rd_T38 l0 x12_1).f3),((rd_T38 l0 x12_1).f4)⟩:S38)]):=⟨_,rfl⟩
            replace H:(impl_SetPut.l0 kj8 y155 true l0 (l0.length:Int) (wrap64 (x12_1 + 1)) a1_0 a1_1 a1_2 a1_3 a1_4) = some r:=by first|(rw [hy155];with_reducible exact H)|(have H2_:=(Option.bind_some _ _).symm.trans H;rw [hy155];with_reducible exact H2_)|(have H2_:=(Option.bind_some _ _).symm.trans H;with_reducible exact H2_)|with_reducible exact H|(rw [hy155];exact H)|exact H
            have Ny155:=aA.mk hy155
            clear hy155
            have H':=aA.mk H
            clear H
            have hnb30:=NB141_149.out
            have hnc30:=NB149_141.out
            obtain ⟨hcz31_0,hcz31_1,hcz31_2,hcz31_3,hcz31_4⟩:=cs5 BK141.out
            obtain ⟨hfz31_0,hfz31_1,hfz31_2,hfz31_3,hfz31_4⟩:=fs5 BK141.out
            go_wp2_with (first|((with_reducible refine gate_builtin (b:=.append) (xs:=#[.tmp 24,.tmp 26]) rfl ?_);at_builtin;refine Kd.R_append k38 (w0:=w) w.heap.size rfl (.tmp 24) (.tmp 26) 45 38 (.agg #[(.int .i64 0),(.int .i64 0),(.int .i64 0),(.int .i64 0),(.int .i64 0)]) 40 rfl Try.underlying45 info38 rfl tb tB u5 x5_1 (⟨a1_0,a1_1,a1_2,a1_3,a1_4⟩:S38) [.int .i64 a1_0,.int .i64 a1_1,.int .i64 a1_2,.int .i64 a1_3,.int .i64 a1_4] (fun k_=>k_ ≠ gb141 ∧ k_ ≠ gb149) (fun _=>False) rfl rfl ?aP (fun _ hk=>hk.elim) ?aF ?aO ?aB ?aS ?aL ?_;(case aP=>exact k38_mkM _ _ _ (⟨a1_0,a1_1,a1_2,a1_3,a1_4⟩:S38));(case aB=>exact tQ);(case aF=>exact tT);(case aO=>exact vZ);(case aS=>exact (aM tQ));(case aL=>have:=LMc20.out;omega);intro v152 w32 ho hb hg hat;rw [← Ny151.out] at ho;replace BK141:=aA.mk (blk_grown (g:=gb141) (o:=.cells #[.int .i64 a1_0,.int .i64 a1_1,.int .i64 a1_2,.int .i64 a1_3,.int .i64 a1_4] 38 (0,0)) vJ hg (Kd.R_away HO_5.out (fun _ hk=>hk.1)));replace BK149:=aA.mk (blk_grown (g:=gb149) (o:=.cells #[.int .i64 ((rd_T38 l0 x12_1).f0),.int .i64 ((rd_T38 l0 x12_1).f1),.int .i64 ((rd_T38 l0 x12_1).f2),.int .i64 ((rd_T38 l0 x12_1).f3),.int .i64 ((rd_T38 l0 x12_1).f4)] 38 (0,0)) wW hg (Kd.R_away HO_5.out (fun _ hk=>hk.2)));replace HB:=aA.mk (hb);have HO153:=aA.mk (ho);clear HO_5;clear ho hb hg hat;obtain ⟨hcz33_0,hcz33_1,hcz33_2,hcz33_3,hcz33_4⟩:=cs5 BK149.out;obtain ⟨hfz33_0,hfz33_1,hfz33_2,hfz33_3,hfz33_4⟩:=fs5 BK149.out;obtain ⟨hcz34_0,hcz34_1,hcz34_2,hcz34_3,hcz34_4⟩:=cs5 BK141.out;obtain ⟨hfz34_0,hfz34_1,hfz34_2,hfz34_3,hfz34_4⟩:=fs5 BK141.out)|((with_reducible refine aY (f:=102) rfl ?_);refine goesL_ (some 30) rfl rfl Try.func102 tH rfl #[.agg #[.int .i64 ((rd_T38 l0 x12_1).f0),.int .i64 ((rd_T38 l0 x12_1).f1),.int .i64 ((rd_T38 l0 x12_1).f2),.int .i64 ((rd_T38 l0 x12_1).f3),.int .i64 ((rd_T38 l0 x12_1).f4)],.agg #[.int .i64 a1_0,.int .i64 a1_1,.int .i64 a1_2,.int .i64 a1_3,.int .i64 a1_4]] rfl tA ?_;(with_reducible refine (impl_SameSpot.calls ((rd_T38 l0 x12_1).f0) ((rd_T38 l0 x12_1).f1) ((rd_T38 l0 x12_1).f2) ((rd_T38 l0 x12_1).f3) ((rd_T38 l0 x12_1).f4) a1_0 a1_1 a1_2 a1_3 a1_4 false _ A21.out).mono ?_);rintro e w35 ⟨rfl,hb⟩;refine ⟨_,rfl,?_⟩;replace HO153:=mR HO153;replace BK141:=nC BK141;replace BK149:=nC BK149;replace HB:=aA.mk (aQ tQ hb);(try clear hb);(try clear hk);obtain ⟨hcz36_0,hcz36_1,hcz36_2,hcz36_3,hcz36_4⟩:=cs5 BK149.out;obtain ⟨hfz36_0,hfz36_1,hfz36_2,hfz36_3,hfz36_4⟩:=fs5 BK149.out)|((with_reducible refine gate_builtin (b:=.append) (xs:=#[.tmp 32,.tmp 34]) rfl ?_);at_builtin;refine Kd.R_append k38 (w0:=w) w.heap.size rfl (.tmp 32) (.tmp 34) 45 38 (.agg #[(.int .i64 0),(.int .i64 0),(.int .i64 0),(.int .i64 0),(.int .i64 0)]) 40 rfl Try.underlying45 info38 rfl tb tB v152 y151 (⟨((rd_T38 l0 x12_1).f0),((rd_T38 l0 x12_1).f1),((rd_T38 l0 x12_1).f2),((rd_T38 l0 x12_1).f3),((rd_T38 l0 x12_1).f4)⟩:S38) [.int .i64 ((rd_T38 l0 x12_1).f0),.int .i64 ((rd_T38 l0 x12_1).f1),.int .i64 ((rd_T38 l0 x12_1).f2),.int .i64 ((rd_T38 l0 x12_1).f3),.int .i64 ((rd_T38 l0 x12_1).f4)] (fun k_=>k_ ≠ gb141 ∧ k_ ≠ gb149) (fun _=>False) rfl rfl ?aP (fun _ hk=>hk.elim) ?aF ?aO ?aB ?aS ?aL ?_;(case aP=>exact k38_mkM _ _ _ (⟨((rd_T38 l0 x12_1).f0),((rd_T38 l0 x12_1).f1),((rd_T38 l0 x12_1).f2),((rd_T38 l0 x12_1).f3),((rd_T38 l0 x12_1).f4)⟩:S38));(case aB=>exact tQ);(case aF=>exact tT);(case aO=>exact (by (with_reducible repeat (first|apply Kd.bC|apply Kd.bD|apply Kd.bG));exact HO153.out));(case aS=>exact (aM tQ));(case aL=>have:=LMc29.out;omega);intro v156 w37 ho hb hg hat;rw [← Ny155.out] at ho;replace BK141:=aA.mk (blk_grown (g:=gb141) (o:=.cells #[.int .i64 a1_0,.int .i64 a1_1,.int .i64 a1_2,.int .i64 a1_3,.int .i64 a1_4] 38 (0,0)) vJ hg (Kd.R_away HO153.out (fun _ hk=>hk.1)));replace BK149:=aA.mk (blk_grown (g:=gb149) (o:=.cells #[.int .i64 ((rd_T38 l0 x12_1).f0),.int .i64 ((rd_T38 l0 x12_1).f1),.int .i64 ((rd_T38 l0 x12_1).f2),.int .i64 ((rd_T38 l0 x12_1).f3),.int .i64 ((rd_T38 l0 x12_1).f4)] 38 (0,0)) wW hg (Kd.R_away HO153.out (fun _ hk=>hk.2)));replace HB:=aA.mk (hb);have HO157:=aA.mk (ho);clear HO153;clear ho hb hg hat))
            go_roundg kj8
            case measure=>have:=HK1.out;have:=HJ8.out;omega
            case rel=>exact ⟨(y155),(true),(wrap64 (x12_1 + 1)),tG,tG,H',⟨by have:=HK1.out;have:=HJ8.out;omega⟩,⟨by (with_reducible repeat (first|apply Kd.bC|apply Kd.bD|apply Kd.bG));exact Kd.bF HO157.out (fun _ hk=>hk.1)⟩,⟨vW⟩,⟨t5⟩⟩
           ·rw [if_neg c29] at H
            exact vM
         ·rw [if_neg c20] at H
          exact vM
        ·replace c19:=Bool.eq_false_iff.mpr c19
         subst c19
         have H1:((impl_SameSpot.f ((rd_T38 l0 x12_1).f0) ((rd_T38 l0 x12_1).f1) ((rd_T38 l0 x12_1).f2) ((rd_T38 l0 x12_1).f3) ((rd_T38 l0 x12_1).f4) a1_0 a1_1 a1_2 a1_3 a1_4).bind fun t158=>(if t158 = true then (impl_SetPut.l0 kj8 x5_1 x6_1 l0 (l0.length:Int) (wrap64 (x12_1 + 1)) a1_0 a1_1 a1_2 a1_3 a1_4) else (if x5_1.length < 3518437208883 then (impl_SetPut.l0 kj8 (x5_1 ++ [(⟨((rd_T38 l0 x12_1).f0),((rd_T38 l0 x12_1).f1),((rd_T38 l0 x12_1).f2),((rd_T38 l0 x12_1).f3),((rd_T38 l0 x12_1).f4)⟩:S38)]) x6_1 l0 (l0.length:Int) (wrap64 (x12_1 + 1)) a1_0 a1_1 a1_2 a1_3 a1_4) else (none)))) = some r:=by rw [if_neg (show ¬ (false = true) by decide)] at H;exact H
         clear H
         have H:=H1
         clear H1
         replace H:=lF H
         obtain ⟨t158,A380,H⟩:=H
         replace H:(if t158 = true then (impl_SetPut.l0 kj8 x5_1 x6_1 l0 (l0.length:Int) (wrap64 (x12_1 + 1)) a1_0 a1_1 a1_2 a1_3 a1_4) else (if x5_1.length < 3518437208883 then (impl_SetPut.l0 kj8 (x5_1 ++ [(⟨((rd_T38 l0 x12_1).f0),((rd_T38 l0 x12_1).f1),((rd_T38 l0 x12_1).f2),((rd_T38 l0 x12_1).f3),((rd_T38 l0 x12_1).f4)⟩:S38)]) x6_1 l0 (l0.length:Int) (wrap64 (x12_1 + 1)) a1_0 a1_1 a1_2 a1_3 a1_4) else (none))) = some r:=H
         have A38:=aA.mk A380
         clear A380
         by_cases c39:t158 = true
         ·subst c39
          have H1:(impl_SetPut.l0 kj8 x5_1 x6_1 l0 (l0.length:Int) (wrap64 (x12_1 + 1)) a1_0 a1_1 a1_2 a1_3 a1_4) = some r:=by rw [if_pos rfl] at H;exact H
          clear H
          have H:=H1
          clear H1
          have H':=aA.mk H
          clear H
          have hnb40:=NB149_141.out
          have hnc40:=NB141_149.out
          obtain ⟨hcz41_0,hcz41_1,hcz41_2,hcz41_3,hcz41_4⟩:=cs5 BK149.out
          obtain ⟨hfz41_0,hfz41_1,hfz41_2,hfz41_3,hfz41_4⟩:=fs5 BK149.out
          obtain ⟨hcz42_0,hcz42_1,hcz42_2,hcz42_3,hcz42_4⟩:=cs5 BK141.out
          obtain ⟨hfz42_0,hfz42_1,hfz42_2,hfz42_3,hfz42_4⟩:=fs5 BK141.out
          go_wp2_with (first|((with_reducible refine aY (f:=102) rfl ?_);refine goesL_ (some 30) rfl rfl Try.func102 tH rfl #[.agg #[.int .i64 ((rd_T38 l0 x12_1).f0),.int .i64 ((rd_T38 l0 x12_1).f1),.int .i64 ((rd_T38 l0 x12_1).f2),.int .i64 ((rd_T38 l0 x12_1).f3),.int .i64 ((rd_T38 l0 x12_1).f4)],.agg #[.int .i64 a1_0,.int .i64 a1_1,.int .i64 a1_2,.int .i64 a1_3,.int .i64 a1_4]] rfl tA ?_;(with_reducible refine (impl_SameSpot.calls ((rd_T38 l0 x12_1).f0) ((rd_T38 l0 x12_1).f1) ((rd_T38 l0 x12_1).f2) ((rd_T38 l0 x12_1).f3) ((rd_T38 l0 x12_1).f4) a1_0 a1_1 a1_2 a1_3 a1_4 true _ A38.out).mono ?_);rintro e w43 ⟨rfl,hb⟩;refine ⟨_,rfl,?_⟩;replace HO_5:=mR HO_5;replace BK141:=nC BK141;replace BK149:=nC BK149;replace HB:=aA.mk (aQ tQ hb);(try clear hb)))
          go_roundg kj8
          case measure=>have:=HK1.out;have:=HJ8.out;omega
          case rel=>exact ⟨(x5_1),(x6_1),(wrap64 (x12_1 + 1)),tG,tG,H',⟨by have:=HK1.out;have:=HJ8.out;omega⟩,⟨by (with_reducible repeat (first|apply Kd.bC|apply Kd.bD|apply Kd.bG));exact Kd.bF HO_5.out (fun _ hk=>hk.1)⟩,⟨vW⟩,⟨t5⟩⟩
         ·replace c39:=Bool.eq_false_iff.mpr c39
          subst c39
          have H1:(if x5_1.length < 3518437208883 then (impl_SetPut.l0 kj8 (x5_1 ++ [(⟨((rd_T38 l0 x12_1).f0),((rd_T38 l0 x12_1).f1),((rd_T38 l0 x12_1).f2),((rd_T38 l0 x12_1).f3),((rd_T38 l0 x12_1).f4)⟩:S38)]) x6_1 l0 (l0.length:Int) (wrap64 (x12_1 + 1)) a1_0 a1_1 a1_2 a1_3 a1_4) else (none)) = some r:=by rw [if_neg (show ¬ (false = true) by decide)] at H;exact H
          clear H
          have H:=H1
          clear H1
          by_cases c44:x5_1.length < 3518437208883
          ·rw [if_pos c44] at H
           have LMc44:=aA.mk c44
           clear c44
           obtain ⟨y159,hy159⟩:∃ y_:List (S38),y_ = (x5_1 ++ [(⟨((rd_T38 l0 x12_1).f0),((rd_T38 l0 x12_1).f1),((rd_T38 l0 x12_1).f2),((rd_T38 l0 x12_1).f3),((rd_T38 l0 x12_1).f4)⟩:S38)]):=⟨_,rfl⟩
           replace H:(impl_SetPut.l0 kj8 y159 x6_1 l0 (l0.length:Int) (wrap64 (x12_1 + 1)) a1_0 a1_1 a1_2 a1_3 a1_4) = some r:=by first|(rw [hy159];with_reducible exact H)|(have H2_:=(Option.bind_some _ _).symm.trans H;rw [hy159];with_reducible exact H2_)|(have H2_:=(Option.bind_some _ _).symm.trans H;with_reducible exact H2_)|with_reducible exact H|(rw [hy159];exact H)|exact H
           have Ny159:=aA.mk hy159
           clear hy159
           have H':=aA.mk H
           clear H
           have hnb45:=NB149_141.out
           have hnc45:=NB141_149.out
           obtain ⟨hcz46_0,hcz46_1,hcz46_2,hcz46_3,hcz46_4⟩:=cs5 BK149.out
           obtain ⟨hfz46_0,hfz46_1,hfz46_2,hfz46_3,hfz46_4⟩:=fs5 BK149.out
           obtain ⟨hcz47_0,hcz47_1,hcz47_2,hcz47_3,hcz47_4⟩:=cs5 BK141.out
           obtain ⟨hfz47_0,hfz47_1,hfz47_2,hfz47_3,hfz47_4⟩:=fs5 BK141.out
           go_wp2_with (first|((with_reducible refine aY (f:=102) rfl ?_);refine goesL_ (some 30) rfl rfl Try.func102 tH rfl #[.agg #[.int .i64 ((rd_T38 l0 x12_1).f0),.int .i64 ((rd_T38 l0 x12_1).f1),.int .i64 ((rd_T38 l0 x12_1).f2),.int .i64 ((rd_T38 l0 x12_1).f3),.int .i64 ((rd_T38 l0 x12_1).f4)],.agg #[.int .i64 a1_0,.int .i64 a1_1,.int .i64 a1_2,.int .i64 a1_3,.int .i64 a1_4]] rfl tA ?_;(with_reducible refine (impl_SameSpot.calls ((rd_T38 l0 x12_1).f0) ((rd_T38 l0 x12_1).f1) ((rd_T38 l0 x12_1).f2) ((rd_T38 l0 x12_1).f3) ((rd_T38 l0 x12_1).f4) a1_0 a1_1 a1_2 a1_3 a1_4 false _ A38.out).mono ?_);rintro e w48 ⟨rfl,hb⟩;refine ⟨_,rfl,?_⟩;replace HO_5:=mR HO_5;replace BK141:=nC BK141;replace BK149:=nC BK149;replace HB:=aA.mk (aQ tQ hb);(try clear hb);(try clear hk);obtain ⟨hcz49_0,hcz49_1,hcz49_2,hcz49_3,hcz49_4⟩:=cs5 BK149.out;obtain ⟨hfz49_0,hfz49_1,hfz49_2,hfz49_3,hfz49_4⟩:=fs5 BK149.out)|((with_reducible refine gate_builtin (b:=.append) (xs:=#[.tmp 32,.tmp 34]) rfl ?_);at_builtin;refine Kd.R_append k38 (w0:=w) w.heap.size rfl (.tmp 32) (.tmp 34) 45 38 (.agg #[(.int .i64 0),(.int .i64 0),(.int .i64 0),(.int .i64 0),(.int .i64 0)]) 40 rfl Try.underlying45 info38 rfl tb tB u5 x5_1 (⟨((rd_T38 l0 x12_1).f0),((rd_T38 l0 x12_1).f1),((rd_T38 l0 x12_1).f2),((rd_T38 l0 x12_1).f3),((rd_T38 l0 x12_1).f4)⟩:S38) [.int .i64 ((rd_T38 l0 x12_1).f0),.int .i64 ((rd_T38 l0 x12_1).f1),.int .i64 ((rd_T38 l0 x12_1).f2),.int .i64 ((rd_T38 l0 x12_1).f3),.int .i64 ((rd_T38 l0 x12_1).f4)] (fun k_=>k_ ≠ gb141 ∧ k_ ≠ gb149) (fun _=>False) rfl rfl ?aP (fun _ hk=>hk.elim) ?aF ?aO ?aB ?aS ?aL ?_;(case aP=>exact k38_mkM _ _ _ (⟨((rd_T38 l0 x12_1).f0),((rd_T38 l0 x12_1).f1),((rd_T38 l0 x12_1).f2),((rd_T38 l0 x12_1).f3),((rd_T38 l0 x12_1).f4)⟩:S38));(case aB=>exact tQ);(case aF=>exact tT);(case aO=>exact vZ);(case aS=>exact (aM tQ));(case aL=>have:=LMc44.out;omega);intro v160 w50 ho hb hg hat;rw [← Ny159.out] at ho;replace BK141:=aA.mk (blk_grown (g:=gb141) (o:=.cells #[.int .i64 a1_0,.int .i64 a1_1,.int .i64 a1_2,.int .i64 a1_3,.int .i64 a1_4] 38 (0,0)) vJ hg (Kd.R_away HO_5.out (fun _ hk=>hk.1)));replace BK149:=aA.mk (blk_grown (g:=gb149) (o:=.cells #[.int .i64 ((rd_T38 l0 x12_1).f0),.int .i64 ((rd_T38 l0 x12_1).f1),.int .i64 ((rd_T38 l0 x12_1).f2),.int .i64 ((rd_T38 l0 x12_1).f3),.int .i64 ((rd_T38 l0 x12_1).f4)] 38 (0,0)) wW hg (Kd.R_away HO_5.out (fun _ hk=>hk.2)));replace HB:=aA.mk (hb);have HO161:=aA.mk (ho);clear HO_5;clear ho hb hg hat))
           go_roundg kj8
           case measure=>have:=HK1.out;have:=HJ8.out;omega
           case rel=>exact ⟨(y159),(x6_1),(wrap64 (x12_1 + 1)),tG,tG,H',⟨by have:=HK1.out;have:=HJ8.out;omega⟩,⟨by (with_reducible repeat (first|apply Kd.bC|apply Kd.bD|apply Kd.bG));exact Kd.bF HO161.out (fun _ hk=>hk.1)⟩,⟨vW⟩,⟨t5⟩⟩
          ·rw [if_neg c44] at H
           exact vM
     ·rw [if_neg c8] at H
      exact vM
    ·rw [if_neg c7] at H
     exact vM
   ·rw [if_neg c6] at H
    have c6b0:decide (x12_1 < (l0.length:Int)) = false:=decide_eq_false c6
    clear c6
    by_cases c51:x6_1 = true
    ·subst c51
     have H1:(some x5_1) = some r:=by rw [if_pos rfl] at H;exact H
     clear H
     have H:=H1
     clear H1
     obtain rfl:=Option.some.inj H
     go_wp2
     go_ret
     exact ⟨_,tC,by (with_reducible repeat (first|apply Kd.bC|apply Kd.bD|apply Kd.bG));exact Kd.bF HO_5.out (fun _ hk=>trivial),we⟩
    ·replace c51:=Bool.eq_false_iff.mpr c51
     subst c51
     have H1:(if x5_1.length < 3518437208883 then (some (x5_1 ++ [(⟨a1_0,a1_1,a1_2,a1_3,a1_4⟩:S38)])) else (none)) = some r:=by rw [if_neg (show ¬ (false = true) by decide)] at H;exact H
     clear H
     have H:=H1
     clear H1
     by_cases c52:x5_1.length < 3518437208883
     ·rw [if_pos c52] at H
      have LMc52:=aA.mk c52
      clear c52
      obtain ⟨y145,hy145⟩:∃ y_:List (S38),y_ = (x5_1 ++ [(⟨a1_0,a1_1,a1_2,a1_3,a1_4⟩:S38)]):=⟨_,rfl⟩
      replace H:(some y145) = some r:=by first|(rw [hy145];with_reducible exact H)|(have H2_:=(Option.bind_some _ _).symm.trans H;rw [hy145];with_reducible exact H2_)|(have H2_:=(Option.bind_some _ _).symm.trans H;with_reducible exact H2_)|with_reducible exact H|(rw [hy145];exact H)|exact H
      have Ny145:=aA.mk hy145
      clear hy145
      obtain rfl:=Option.some.inj H
      obtain ⟨hcz53_0,hcz53_1,hcz53_2,hcz53_3,hcz53_4⟩:=cs5 BK141.out
      obtain ⟨hfz53_0,hfz53_1,hfz53_2,hfz53_3,hfz53_4⟩:=fs5 BK141.out
      go_wp2_with (first|((with_reducible refine gate_builtin (b:=.append) (xs:=#[.tmp 39,.tmp 41]) rfl ?_);at_builtin;refine Kd.R_append k38 (w0:=w) w.heap.size rfl (.tmp 39) (.tmp 41) 45 38 (.agg #[(.int .i64 0),(.int .i64 0),(.int .i64 0),(.int .i64 0),(.int .i64 0)]) 40 rfl Try.underlying45 info38 rfl tb tB u5 x5_1 (⟨a1_0,a1_1,a1_2,a1_3,a1_4⟩:S38) [.int .i64 a1_0,.int .i64 a1_1,.int .i64 a1_2,.int .i64 a1_3,.int .i64 a1_4] (fun k_=>k_ ≠ gb141) (fun _=>False) rfl rfl ?aP (fun _ hk=>hk.elim) ?aF ?aO ?aB ?aS ?aL ?_;(case aP=>exact k38_mkM _ _ _ (⟨a1_0,a1_1,a1_2,a1_3,a1_4⟩:S38));(case aB=>exact t1);(case aF=>exact (fun k_ hk=>Kd.freshB (g:=gb141) (o:=.cells #[.int .i64 a1_0,.int .i64 a1_1,.int .i64 a1_2,.int .i64 a1_3,.int .i64 a1_4] 38 (0,0)) vJ k_ hk));(case aO=>exact vZ);(case aS=>exact (aM t1));(case aL=>have:=LMc52.out;omega);intro v146 w54 ho hb hg hat;rw [← Ny145.out] at ho;replace BK141:=aA.mk (blk_grown (g:=gb141) (o:=.cells #[.int .i64 a1_0,.int .i64 a1_1,.int .i64 a1_2,.int .i64 a1_3,.int .i64 a1_4] 38 (0,0)) vJ hg (Kd.R_away HO_5.out (fun _ hk=>hk)));replace HB:=aA.mk (hb);have HO147:=aA.mk (ho);clear HO_5;clear ho hb hg hat))
      go_ret
      exact ⟨_,tC,by (with_reducible repeat (first|apply Kd.bC|apply Kd.bD|apply Kd.bG));exact Kd.bF HO147.out (fun _ hk=>trivial),we⟩
     ·rw [if_neg c52] at H
      exact vM
def impl_MergeSets.l0:Nat → List (S38) → List (S38) → Int → Int → Option ((List (S38)))
 | 0,_,_,_,_=>none
 | k + 1,x5,x10,x11,x12=>if x12 < x11 then (if 0 ≤ x12 then (if x12 < (x10.length:Int) then ((impl_SetPut.f k x5 ((rd_T38 x10 x12).f0) ((rd_T38 x10 x12).f1) ((rd_T38 x10 x12).f2) ((rd_T38 x10 x12).f3) ((rd_T38 x10 x12).f4)).bind fun t167=>(impl_MergeSets.l0 k t167 x10 x11 (wrap64 (x12 + 1)))) else (none)) else (none)) else (some x5)
def impl_MergeSets.f (k:Nat) (l0:List (S38)) (l1:List (S38)):Option ((List (S38))):=(impl_copyKeys.f l0).bind fun t162=>(impl_MergeSets.l0 k t162 l1 (l1.length:Int) 0)
set_option maxHeartbeats 8000000 in
set_option maxRecDepth 100000 in
theorem impl_MergeSets.calls (k:Nat) (A0:Option Addr) (c0:Nat) (l0:List (S38)) (A1:Option Addr) (c1:Nat) (l1:List (S38)) (r:List (S38)) (w:World) (hr0:Kd.C k38 w A0 l0.length l0) (hc0:l0.length ≤ c0) (hr1:Kd.C k38 w A1 l1.length l1) (hc1:l1.length ≤ c1) (h:impl_MergeSets.f k l0 l1 = some r) :
  Calls Try.prog 78 #[.slice A0 l0.length c0,.slice A1 l1.length c1] w fun e w'=>∃ v0_:Value,e = .returned (v0_) ∧ Kd.R k38 38 w' w.heap.size (fun _=>True) v0_ r ∧ Below w.heap.size w w':=by
 have hu38:=Try.underlying38
 have HR0:=aA.mk hr0
 have HC0:=aA.mk hc0
 clear hr0 hc0
 have HR1:=aA.mk hr1
 have HC1:=aA.mk hc1
 clear hr1 hc1
 have HB:=aA.mk (Below.refl w.heap.size w)
 have H:((impl_copyKeys.f l0).bind fun t162=>(impl_MergeSets.l0 k t162 l1 (l1.length:Int) 0)) = some r:=h
 clear h
 replace H:=lF H
 obtain ⟨t162,A30,H⟩:=H
 replace H:(impl_MergeSets.l0 k t162 l1 (l1.length:Int) 0) = some r:=H
 have A3:=aA.mk A30
 clear A30
 have H':=aA.mk H
 clear H
 go_enter Try.func78,Try.ntmps78
 go_wp2_with (first|((with_reducible refine aY (f:=91) rfl ?_);refine goesL_ (some 9) rfl rfl Try.func91 tH rfl #[.slice A0 l0.length c0] rfl tA ?_;(with_reducible refine (impl_copyKeys.calls _ _ l0 t162 _ ?side1 ?side2 A3.out).mono ?_);(case side1=>exact HR0.out);(case side2=>exact HC0.out);rintro e w4 ⟨v163,rfl,ho0,hb⟩;refine ⟨_,rfl,?_⟩;have HO164:=aA.mk (Kd.R_lower ho0 (aM tE));replace HB:=aA.mk (aQ tE hb);(try clear hb);(try clear ho0)))
 go_loopg [5,12] k (fun kq v5 v12 w'=>∃ (x5_1:List (S38)) (x12_1:Int),v12 = .int .i64 x12_1 ∧ aA (impl_MergeSets.l0 kq x5_1 l1 (l1.length:Int) x12_1 = some r) ∧ aA (kq ≤ k) ∧ aA (Kd.R k38 38 w' w.heap.size (fun _=>True) v5 x5_1) ∧ aA (Below w.heap.size w w'))
 case atStart=>exact ⟨(t162),(0),tG,H',⟨Nat.le_refl _⟩,⟨by (with_reducible repeat (first|apply Kd.bC|apply Kd.bD|apply Kd.bG));exact HO164.out⟩,⟨tj⟩⟩
 case round =>
  clear H'
  try clear c1
  try clear p2
  obtain ⟨x5_1,x12_1,rfl,HA,HK1,HO_5,HB⟩:=hrel
  cases gk with
  | zero=>exact absurd HA.out (by simp [impl_MergeSets.l0])
  | succ k1 =>
   have H:=HA.out
   clear HA
   simp only [impl_MergeSets.l0] at H
   by_cases c5:x12_1 < (l1.length:Int)
   ·rw [if_pos c5] at H
    have c5b0:decide (x12_1 < (l1.length:Int)) = true:=decide_eq_true c5
    clear c5
    by_cases c6:0 ≤ x12_1
    ·rw [if_pos c6] at H
     have c6b0:decide (0 ≤ x12_1) = true:=decide_eq_true c6
     clear c6
     by_cases c7:x12_1 < (l1.length:Int)
     ·rw [if_pos c7] at H
      have c7b0:decide (x12_1 < (l1.length:Int)) = true:=decide_eq_true c7
      clear c7
      replace H:=lF H
      obtain ⟨t167,A80,H⟩:=H
      replace H:(impl_MergeSets.l0 k1 t167 l1 (l1.length:Int) (wrap64 (x12_1 + 1))) = some r:=H
      have A8:=aA.mk A80
      clear A80
      have H':=aA.mk H
      clear H
      have p165:0 ≤ (x12_1:Int):=lE tF
      have q165:x12_1 < (l1.length:Int):=lE tF
      obtain ⟨ad165,e165,hx165_0,hx165_1,hx165_2,hx165_3,hx165_4⟩:=at_T38 HR1.out x12_1 p165 q165
      cases e165
      replace hx165_0:=(HB.out.cell (lD w _ hx165_0)).trans hx165_0
      replace hx165_1:=(HB.out.cell (lD w _ hx165_1)).trans hx165_1
      replace hx165_2:=(HB.out.cell (lD w _ hx165_2)).trans hx165_2
      replace hx165_3:=(HB.out.cell (lD w _ hx165_3)).trans hx165_3
      replace hx165_4:=(HB.out.cell (lD w _ hx165_4)).trans hx165_4
      replace p165:=eq_true p165
      replace q165:=eq_true q165
      go_wp2_with (first|((with_reducible refine aZ (N:=7) rfl ?_);refine bB ?hg (N:=7) ?hd (cs:=#[.int .i64 0,.int .i64 0,.int .i64 0,.int .i64 0,.int .i64 0]) (t:=38) ?hr ?_;(case hd=>rfl);(case hg=>rfl);(case hr=>exact tJ);intro gb166 hg w9 hbox hb;replace HO_5:=aA.mk (Kd.R_below (Kd.R_elderB vZ gb166 (Nat.le_of_eq hg.symm)) hb);have BK166:=aA.mk (hbox);have GW166:=aA.mk ((by rw [hg];exact (aM tE):w.heap.size ≤ gb166));have GE166:=aA.mk ((by rw [hg];exact (aM tE):w.heap.size ≤ gb166));replace HB:=aA.mk (aQ tE hb);clear hb hbox hg;obtain ⟨hcz10_0,hcz10_1,hcz10_2,hcz10_3,hcz10_4⟩:=cs5 BK166.out;obtain ⟨hfz10_0,hfz10_1,hfz10_2,hfz10_3,hfz10_4⟩:=fs5 BK166.out;obtain ⟨Ao11,co11,eo11⟩:=Kd.R_slice HO_5.out;subst eo11)|((with_reducible refine aY (f:=90) rfl ?_);refine goesL_ (some 18) rfl rfl Try.func90 tH rfl #[.slice Ao11 x5_1.length co11,.agg #[.int .i64 ((rd_T38 l1 x12_1).f0),.int .i64 ((rd_T38 l1 x12_1).f1),.int .i64 ((rd_T38 l1 x12_1).f2),.int .i64 ((rd_T38 l1 x12_1).f3),.int .i64 ((rd_T38 l1 x12_1).f4)]] rfl tA ?_;(with_reducible refine (impl_SetPut.calls k1 _ _ x5_1 ((rd_T38 l1 x12_1).f0) ((rd_T38 l1 x12_1).f1) ((rd_T38 l1 x12_1).f2) ((rd_T38 l1 x12_1).f3) ((rd_T38 l1 x12_1).f4) t167 _ ?side1 ?side2 A8.out).mono ?_);(case side1=>refine (Kd.R_reads' (e:=38) (base:=w.heap.size) (ok:=fun k_=>(True ∧ k_ ≠ gb166)) (n:=x5_1.length) (c:=co11) ?_).2.2;exact tX);(case side2=>exact (Kd.R_reads' HO_5.out).2.1);rintro e w12 ⟨v168,rfl,ho0,hb⟩;refine ⟨_,rfl,?_⟩;have HO169:=aA.mk (Kd.R_lower (Kd.R_newB (Kd.R_new' ho0 (Kd.R_lt tX)) (g:=gb166) (o:=.cells #[.int .i64 ((rd_T38 l1 x12_1).f0),.int .i64 ((rd_T38 l1 x12_1).f1),.int .i64 ((rd_T38 l1 x12_1).f2),.int .i64 ((rd_T38 l1 x12_1).f3),.int .i64 ((rd_T38 l1 x12_1).f4)] 38 (0,0)) tZ) (aM (by repeat (first|(with_reducible first|exact HB.out|apply aK|apply aC|apply aJ|refine aD ?_ GE166.out)|exact HB.out))));replace HO_5:=aA.mk (Kd.R_elder' tX (Kd.R_base ho0) hb);replace BK166:=aA.mk (blk_below (g:=gb166) (o:=.cells #[.int .i64 ((rd_T38 l1 x12_1).f0),.int .i64 ((rd_T38 l1 x12_1).f1),.int .i64 ((rd_T38 l1 x12_1).f2),.int .i64 ((rd_T38 l1 x12_1).f3),.int .i64 ((rd_T38 l1 x12_1).f4)] 38 (0,0)) tZ hb);replace HB:=aA.mk (aQ (by repeat (first|(with_reducible first|exact HB.out|apply aK|apply aC|apply aJ|refine aD ?_ GE166.out)|exact HB.out)) hb);(try clear hb);(try clear hk);(try clear ho0)))
      go_roundg k1
      case measure=>have:=HK1.out;omega
      case rel=>exact ⟨(t167),(wrap64 (x12_1 + 1)),tG,H',⟨wX⟩,⟨by (with_reducible repeat (first|apply Kd.bC|apply Kd.bD|apply Kd.bG));exact Kd.bF HO169.out (fun _ hk=>trivial)⟩,⟨by repeat (first|(with_reducible first|exact HB.out|apply aK|apply aC|apply aJ|refine aD ?_ GE166.out)|exact HB.out)⟩⟩
     ·rw [if_neg c7] at H
      exact vM
    ·rw [if_neg c6] at H
     exact vM
   ·rw [if_neg c5] at H
    have c5b0:decide (x12_1 < (l1.length:Int)) = false:=decide_eq_false c5
    clear c5
    obtain rfl:=Option.some.inj H
    go_wp2
    go_ret
    exact ⟨_,tC,by (with_reducible repeat (first|apply Kd.bC|apply Kd.bD|apply Kd.bG));exact HO_5.out,tj⟩
def impl_Drop.l0:Nat → List (S38) → List (S38) → Int → Int → Option ((List (S38)))
 | 0,_,_,_,_=>none
 | k + 1,x3,x7,x8,x9=>if x9 < x8 then (if 0 ≤ x9 then (if x9 < (x7.length:Int) then (if ((rd_T38 x7 x9).f2) = 0 then (impl_Drop.l0 k x3 x7 x8 (wrap64 (x9 + 1))) else (if x3.length < 3518437208883 then (impl_Drop.l0 k (x3 ++ [(⟨(rd_T38 x7 x9).f0,(rd_T38 x7 x9).f1,(rd_T38 x7 x9).f2,(rd_T38 x7 x9).f3,(rd_T38 x7 x9).f4⟩:S38)]) x7 x8 (wrap64 (x9 + 1))) else (none))) else (none)) else (none)) else (some x3)
def impl_Drop.f (k:Nat) (l0:List (S38)):Option ((List (S38))):=impl_Drop.l0 k (([]:List (S38))) l0 (l0.length:Int) 0
set_option maxHeartbeats 8000000 in
set_option maxRecDepth 100000 in
theorem impl_Drop.calls (k:Nat) (A0:Option Addr) (c0:Nat) (l0:List (S38)) (r:List (S38)) (w:World) (hr0:Kd.C k38 w A0 l0.length l0) (hc0:l0.length ≤ c0) (h:impl_Drop.f k l0 = some r) :
  Calls Try.prog 79 #[.slice A0 l0.length c0] w fun e w'=>∃ v0_:Value,e = .returned (v0_) ∧ Kd.R k38 38 w' w.heap.size (fun _=>True) v0_ r ∧ Below w.heap.size w w':=by
 have hu38:=Try.underlying38
 have HR0:=aA.mk hr0
 have HC0:=aA.mk hc0
 clear hr0 hc0
 have HB:=aA.mk (Below.refl w.heap.size w)
 have H:(impl_Drop.l0 k (([]:List (S38))) l0 (l0.length:Int) 0) = some r:=h
 clear h
 obtain ⟨y170,hy170⟩:∃ y_:List (S38),y_ = (([]:List (S38))):=⟨_,rfl⟩
 replace H:(impl_Drop.l0 k y170 l0 (l0.length:Int) 0) = some r:=by first|(rw [hy170];with_reducible exact H)|(have H2_:=(Option.bind_some _ _).symm.trans H;rw [hy170];with_reducible exact H2_)|(have H2_:=(Option.bind_some _ _).symm.trans H;with_reducible exact H2_)|with_reducible exact H|(rw [hy170];exact H)|exact H
 have Ny170:=aA.mk hy170
 clear hy170
 have H':=aA.mk H
 clear H
 go_enter Try.func79,Try.ntmps79
 go_wp2_with (first|((with_reducible refine aZ (N:=6) rfl ?_);refine Kd.R_lit k38 _ 38 ?hg (N:=6) ?hd (xs:=([]:List (S38))) (inner:=[]) (ok:=fun _=>True) (okp:=fun _=>True) ?hr ?hp (fun _ hk=>hk) trivial (Below.refl _ _) (Nat.le_refl _) te ?_;(case hd=>rfl);(case hg=>rfl);(case hr=>exact tJ);(case hp=>exact (Reps.none _ _));intro v171 w2 ho3 hb hg_ hnew_;clear hg_ hnew_;(first|rw [← Ny170.out] at ho3|(simp only [Int.reduceToNat] at ho3;rw [← Ny170.out] at ho3));have HO172:=aA.mk (Kd.R_lower ho3 (aM tE));replace HB:=aA.mk (aQ tE hb);clear hb ho3))
 go_loopg [3,9] k (fun kq v3 v9 w'=>∃ (x3_1:List (S38)) (x9_1:Int),v9 = .int .i64 x9_1 ∧ aA (impl_Drop.l0 kq x3_1 l0 (l0.length:Int) x9_1 = some r) ∧ aA (kq ≤ k) ∧ aA (Kd.R k38 38 w' w.heap.size (fun _=>True) v3 x3_1) ∧ aA (Below w.heap.size w w'))
 case atStart=>exact ⟨(y170),(0),tG,H',⟨Nat.le_refl _⟩,⟨by (with_reducible repeat (first|apply Kd.bC|apply Kd.bD|apply Kd.bG));exact HO172.out⟩,⟨tj⟩⟩
 case round =>
  clear H'
  try clear p2
  obtain ⟨x3_1,x9_1,rfl,HA,HK1,HO_3,HB⟩:=hrel
  cases gk with
  | zero=>exact absurd HA.out (by simp [impl_Drop.l0])
  | succ k1 =>
   have H:=HA.out
   clear HA
   simp only [impl_Drop.l0] at H
   by_cases c4:x9_1 < (l0.length:Int)
   ·rw [if_pos c4] at H
    have c4b0:decide (x9_1 < (l0.length:Int)) = true:=decide_eq_true c4
    clear c4
    by_cases c5:0 ≤ x9_1
    ·rw [if_pos c5] at H
     have c5b0:decide (0 ≤ x9_1) = true:=decide_eq_true c5
     clear c5
     by_cases c6:x9_1 < (l0.length:Int)
     ·rw [if_pos c6] at H
      have c6b0:decide (x9_1 < (l0.length:Int)) = true:=decide_eq_true c6
      clear c6
      by_cases c7:((rd_T38 l0 x9_1).f2) = 0
      ·rw [if_pos c7] at H
       have c7b0:(((rd_T38 l0 x9_1).f2) == 0) = true:=beq_iff_eq.mpr c7
       have c7b1:(((rd_T38 l0 x9_1).f2) != 0) = false:=bne_eq_false_iff_eq.mpr c7
       clear c7
       have H':=aA.mk H
       clear H
       have p173:0 ≤ (x9_1:Int):=lE tF
       have q173:x9_1 < (l0.length:Int):=lE tF
       obtain ⟨ad173,e173,hx173_0,hx173_1,hx173_2,hx173_3,hx173_4⟩:=at_T38 HR0.out x9_1 p173 q173
       cases e173
       replace hx173_0:=(HB.out.cell (lD w _ hx173_0)).trans hx173_0
       replace hx173_1:=(HB.out.cell (lD w _ hx173_1)).trans hx173_1
       replace hx173_2:=(HB.out.cell (lD w _ hx173_2)).trans hx173_2
       replace hx173_3:=(HB.out.cell (lD w _ hx173_3)).trans hx173_3
       replace hx173_4:=(HB.out.cell (lD w _ hx173_4)).trans hx173_4
       replace p173:=eq_true p173
       replace q173:=eq_true q173
       go_wp2_with (first|((with_reducible refine aZ (N:=5) rfl ?_);refine bB ?hg (N:=5) ?hd (cs:=#[.int .i64 0,.int .i64 0,.int .i64 0,.int .i64 0,.int .i64 0]) (t:=38) ?hr ?_;(case hd=>rfl);(case hg=>rfl);(case hr=>exact tJ);intro gb174 hg w8 hbox hb;replace HO_3:=aA.mk (Kd.R_below (Kd.R_elderB HO_3.out gb174 (Nat.le_of_eq hg.symm)) hb);have BK174:=aA.mk (hbox);have GW174:=aA.mk ((by rw [hg];exact (aM tE):w.heap.size ≤ gb174));have GE174:=aA.mk ((by rw [hg];exact (aM tE):w.heap.size ≤ gb174));replace HB:=aA.mk (aQ tE hb);clear hb hbox hg;obtain ⟨hcz9_0,hcz9_1,hcz9_2,hcz9_3,hcz9_4⟩:=cs5 BK174.out;obtain ⟨hfz9_0,hfz9_1,hfz9_2,hfz9_3,hfz9_4⟩:=fs5 BK174.out))
       go_roundg k1
       case measure=>have:=HK1.out;omega
       case rel=>exact ⟨(x3_1),(wrap64 (x9_1 + 1)),tG,H',⟨wX⟩,⟨by (with_reducible repeat (first|apply Kd.bC|apply Kd.bD|apply Kd.bG));exact Kd.bF (Kd.bJ (p:=⟨gb174,4,none⟩) (Kd.bJ (p:=⟨gb174,3,none⟩) (Kd.bJ (p:=⟨gb174,2,none⟩) (Kd.bJ (p:=⟨gb174,1,none⟩) (Kd.bJ (p:=⟨gb174,0,none⟩) (Kd.bF HO_3.out (fun k_ hk=>(⟨hk,hk.2⟩:_ ∧ k_ ≠ gb174))) (fun _ hk=>hk.2) (.int .i64 ((rd_T38 l0 x9_1).f0))) (fun _ hk=>hk.2) (.int .i64 ((rd_T38 l0 x9_1).f1))) (fun _ hk=>hk.2) (.int .i64 ((rd_T38 l0 x9_1).f2))) (fun _ hk=>hk.2) (.int .i64 ((rd_T38 l0 x9_1).f3))) (fun _ hk=>hk.2) (.int .i64 ((rd_T38 l0 x9_1).f4))) (fun _ hk=>trivial)⟩,⟨by repeat (first|(with_reducible first|exact HB.out|apply aK|apply aC|apply aJ|refine aD ?_ GE174.out)|exact HB.out)⟩⟩
      ·rw [if_neg c7] at H
       have c7b0:(((rd_T38 l0 x9_1).f2) == 0) = false:=beq_eq_false_iff_ne.mpr c7
       have c7b1:(((rd_T38 l0 x9_1).f2) != 0) = true:=bne_iff_ne.mpr c7
       by_cases c10:x3_1.length < 3518437208883
       ·rw [if_pos c10] at H
        have LMc10:=aA.mk c10
        clear c10
        obtain ⟨y175,hy175⟩:∃ y_:List (S38),y_ = (x3_1 ++ [(⟨(rd_T38 l0 x9_1).f0,(rd_T38 l0 x9_1).f1,(rd_T38 l0 x9_1).f2,(rd_T38 l0 x9_1).f3,(rd_T38 l0 x9_1).f4⟩:S38)]):=⟨_,rfl⟩
        replace H:(impl_Drop.l0 k1 y175 l0 (l0.length:Int) (wrap64 (x9_1 + 1))) = some r:=by first|(rw [hy175];with_reducible exact H)|(have H2_:=(Option.bind_some _ _).symm.trans H;rw [hy175];with_reducible exact H2_)|(have H2_:=(Option.bind_some _ _).symm.trans H;with_reducible exact H2_)|with_reducible exact H|(rw [hy175];exact H)|exact H
        have Ny175:=aA.mk hy175
        clear hy175
        have H':=aA.mk H
        clear H
        have p173:0 ≤ (x9_1:Int):=lE tF
        have q173:x9_1 < (l0.length:Int):=lE tF
        obtain ⟨ad173,e173,hx173_0,hx173_1,hx173_2,hx173_3,hx173_4⟩:=at_T38 HR0.out x9_1 p173 q173
        cases e173
        replace hx173_0:=(HB.out.cell (lD w _ hx173_0)).trans hx173_0
        replace hx173_1:=(HB.out.cell (lD w _ hx173_1)).trans hx173_1
        replace hx173_2:=(HB.out.cell (lD w _ hx173_2)).trans hx173_2
        replace hx173_3:=(HB.out.cell (lD w _ hx173_3)).trans hx173_3
        replace hx173_4:=(HB.out.cell (lD w _ hx173_4)).trans hx173_4
        replace p173:=eq_true p173
        replace q173:=eq_true q173
        go_wp2_with (first|((with_reducible refine aZ (N:=5) rfl ?_);refine bB ?hg (N:=5) ?hd (cs:=#[.int .i64 0,.int .i64 0,.int .i64 0,.int .i64 0,.int .i64 0]) (t:=38) ?hr ?_;(case hd=>rfl);(case hg=>rfl);(case hr=>exact tJ);intro gb174 hg w11 hbox hb;replace HO_3:=aA.mk (Kd.R_below (Kd.R_elderB HO_3.out gb174 (Nat.le_of_eq hg.symm)) hb);have BK174:=aA.mk (hbox);have GW174:=aA.mk ((by rw [hg];exact (aM tE):w.heap.size ≤ gb174));have GE174:=aA.mk ((by rw [hg];exact (aM tE):w.heap.size ≤ gb174));replace HB:=aA.mk (aQ tE hb);clear hb hbox hg;obtain ⟨hcz12_0,hcz12_1,hcz12_2,hcz12_3,hcz12_4⟩:=cs5 BK174.out;obtain ⟨hfz12_0,hfz12_1,hfz12_2,hfz12_3,hfz12_4⟩:=fs5 BK174.out)|((with_reducible refine gate_builtin (b:=.append) (xs:=#[.tmp 16,.tmp 18]) rfl ?_);at_builtin;refine Kd.R_append k38 (w0:=w) w.heap.size rfl (.tmp 16) (.tmp 18) 45 38 (.agg #[(.int .i64 0),(.int .i64 0),(.int .i64 0),(.int .i64 0),(.int .i64 0)]) 40 rfl Try.underlying45 info38 rfl tb tB u3 x3_1 (⟨(rd_T38 l0 x9_1).f0,(rd_T38 l0 x9_1).f1,(rd_T38 l0 x9_1).f2,(rd_T38 l0 x9_1).f3,(rd_T38 l0 x9_1).f4⟩:S38) [.int .i64 ((rd_T38 l0 x9_1).f0),.int .i64 ((rd_T38 l0 x9_1).f1),.int .i64 ((rd_T38 l0 x9_1).f2),.int .i64 ((rd_T38 l0 x9_1).f3),.int .i64 ((rd_T38 l0 x9_1).f4)] (fun k_=>k_ ≠ gb174) (fun _=>False) rfl (by first|(go_simp;done)|(go_simp;rfl)) ?aP (fun _ hk=>hk.elim) ?aF ?aO ?aB ?aS ?aL ?_;(case aP=>exact k38_mkM _ _ _ (⟨(rd_T38 l0 x9_1).f0,(rd_T38 l0 x9_1).f1,(rd_T38 l0 x9_1).f2,(rd_T38 l0 x9_1).f3,(rd_T38 l0 x9_1).f4⟩:S38));(case aB=>exact (by repeat (first|(with_reducible first|exact HB.out|apply aK|apply aC|apply aJ|refine aD ?_ GE174.out)|exact HB.out)));(case aF=>exact (fun k_ hk=>Kd.freshB (g:=gb174) (o:=.cells #[.int .i64 ((rd_T38 l0 x9_1).f0),.int .i64 ((rd_T38 l0 x9_1).f1),.int .i64 ((rd_T38 l0 x9_1).f2),.int .i64 ((rd_T38 l0 x9_1).f3),.int .i64 ((rd_T38 l0 x9_1).f4)] 38 (0,0)) tc k_ hk));(case aO=>exact (by (with_reducible repeat (first|apply Kd.bC|apply Kd.bD|apply Kd.bG));exact Kd.bF (Kd.bJ (p:=⟨gb174,4,none⟩) (Kd.bJ (p:=⟨gb174,3,none⟩) (Kd.bJ (p:=⟨gb174,2,none⟩) (Kd.bJ (p:=⟨gb174,1,none⟩) (Kd.bJ (p:=⟨gb174,0,none⟩) (Kd.bF HO_3.out (fun k_ hk=>(⟨hk,hk.2⟩:_ ∧ k_ ≠ gb174))) (fun _ hk=>hk.2) (.int .i64 ((rd_T38 l0 x9_1).f0))) (fun _ hk=>hk.2) (.int .i64 ((rd_T38 l0 x9_1).f1))) (fun _ hk=>hk.2) (.int .i64 ((rd_T38 l0 x9_1).f2))) (fun _ hk=>hk.2) (.int .i64 ((rd_T38 l0 x9_1).f3))) (fun _ hk=>hk.2) (.int .i64 ((rd_T38 l0 x9_1).f4))) (fun _ hk=>hk.1.2)));(case aS=>exact (aM (by repeat (first|(with_reducible first|exact HB.out|apply aK|apply aC|apply aJ|refine aD ?_ GE174.out)|exact HB.out))));(case aL=>have:=LMc10.out;omega);intro v176 w13 ho hb hg hat;rw [← Ny175.out] at ho;replace BK174:=aA.mk (blk_grown (g:=gb174) (o:=.cells #[.int .i64 ((rd_T38 l0 x9_1).f0),.int .i64 ((rd_T38 l0 x9_1).f1),.int .i64 ((rd_T38 l0 x9_1).f2),.int .i64 ((rd_T38 l0 x9_1).f3),.int .i64 ((rd_T38 l0 x9_1).f4)] 38 (0,0)) tc hg (Kd.R_away HO_3.out (fun _ hk=>hk.2)));replace HB:=aA.mk (hb);have HO177:=aA.mk (ho);clear HO_3;clear ho hb hg hat))
        go_roundg k1
        case measure=>have:=HK1.out;omega
        case rel=>exact ⟨(y175),(wrap64 (x9_1 + 1)),tG,H',⟨wX⟩,⟨by (with_reducible repeat (first|apply Kd.bC|apply Kd.bD|apply Kd.bG));exact Kd.bF HO177.out (fun _ hk=>trivial)⟩,⟨by repeat (first|(with_reducible first|exact HB.out|apply aK|apply aC|apply aJ|refine aD ?_ GE174.out)|exact HB.out)⟩⟩
       ·rw [if_neg c10] at H
        exact vM
     ·rw [if_neg c6] at H
      exact vM
    ·rw [if_neg c5] at H
     exact vM
   ·rw [if_neg c4] at H
    have c4b0:decide (x9_1 < (l0.length:Int)) = false:=decide_eq_false c4
    clear c4
    obtain rfl:=Option.some.inj H
    go_wp2
    go_ret
    exact ⟨_,tC,by (with_reducible repeat (first|apply Kd.bC|apply Kd.bD|apply Kd.bG));exact HO_3.out,tj⟩
def impl_NodeKeys.l0:Nat → List (S38) → List (List (S38)) → Int → Int → Option ((List (S38)))
 | 0,_,_,_,_=>none
 | k + 1,x3,x8,x9,x10=>if x10 < x9 then (if 0 ≤ x10 then (if x10 < (x8.length:Int) then ((impl_MergeSets.f k x3 (rd_L2 x8 x10)).bind fun t183=>(impl_NodeKeys.l0 k t183 x8 x9 (wrap64 (x10 + 1)))) else (none)) else (none)) else ((impl_Drop.f k x3).bind fun t186=>(some t186))
def impl_NodeKeys.f (k:Nat) (l0_0:List (List (S38))):Option ((List (S38))):=impl_NodeKeys.l0 k (([]:List (S38))) l0_0 (l0_0.length:Int) 0
set_option maxHeartbeats 8000000 in
set_option maxRecDepth 100000 in
theorem impl_NodeKeys.calls (k:Nat) (A0_0:Option Addr) (c0_0:Nat) (l0_0:List (List (S38))) (r:List (S38)) (w:World) (hr0_0:Kd.C (Kd.slice 38 k38) w A0_0 l0_0.length l0_0) (hc0_0:l0_0.length ≤ c0_0) (h:impl_NodeKeys.f k l0_0 = some r) :
  Calls Try.prog 46 #[.agg #[.slice A0_0 l0_0.length c0_0]] w fun e w'=>∃ v0_:Value,e = .returned (v0_) ∧ Kd.R k38 38 w' w.heap.size (fun _=>True) v0_ r ∧ Below w.heap.size w w':=by
 have hu59:=Try.underlying59
 have HR0_0:=aA.mk hr0_0
 have HC0_0:=aA.mk hc0_0
 clear hr0_0 hc0_0
 have HB:=aA.mk (Below.refl w.heap.size w)
 have H:(impl_NodeKeys.l0 k (([]:List (S38))) l0_0 (l0_0.length:Int) 0) = some r:=h
 clear h
 obtain ⟨y179,hy179⟩:∃ y_:List (S38),y_ = (([]:List (S38))):=⟨_,rfl⟩
 replace H:(impl_NodeKeys.l0 k y179 l0_0 (l0_0.length:Int) 0) = some r:=by first|(rw [hy179];with_reducible exact H)|(have H2_:=(Option.bind_some _ _).symm.trans H;rw [hy179];with_reducible exact H2_)|(have H2_:=(Option.bind_some _ _).symm.trans H;with_reducible exact H2_)|with_reducible exact H|(rw [hy179];exact H)|exact H
 have Ny179:=aA.mk hy179
 clear hy179
 have H':=aA.mk H
 clear H
 go_enter Try.func46,Try.ntmps46
 go_wp2_with (first|((with_reducible refine aZ (N:=1) rfl ?_);refine bB ?hg (N:=1) ?hd (cs:=#[.slice A0_0 l0_0.length c0_0]) (t:=59) ?hr ?_;(case hd=>rfl);(case hg=>rfl);(case hr=>exact tJ);intro gb178 hg w2 hbox hb;have BK178:=aA.mk (hbox);have GW178:=aA.mk ((by rw [hg];exact (aM tE):w.heap.size ≤ gb178));have GE178:=aA.mk ((by rw [hg];exact (aM tE):w.heap.size ≤ gb178));replace HB:=aA.mk (aQ tE hb);clear hb hbox hg)|((with_reducible refine aZ (N:=6) rfl ?_);refine Kd.R_lit k38 _ 38 ?hg (N:=6) ?hd (xs:=([]:List (S38))) (inner:=[]) (ok:=fun _=>True) (okp:=fun _=>True) ?hr ?hp (fun _ hk=>hk) trivial (Below.refl _ _) (Nat.le_refl _) te ?_;(case hd=>rfl);(case hg=>rfl);(case hr=>exact tJ);(case hp=>exact (Reps.none _ _));intro v180 w3 ho4 hb hg_ hnew_;clear hg_ hnew_;(first|rw [← Ny179.out] at ho4|(simp only [Int.reduceToNat] at ho4;rw [← Ny179.out] at ho4));have HO181:=aA.mk (Kd.R_lower ho4 (aM t9));replace BK178:=nB BK178;replace HB:=aA.mk (aQ t9 hb);clear hb ho4;have hcz5_0:=cs1 BK178.out;have hfz5_0:=fs1 BK178.out))
 go_loopg [3,10] k (fun kq v3 v10 w'=>∃ (x3_1:List (S38)) (x10_1:Int),v10 = .int .i64 x10_1 ∧ aA (impl_NodeKeys.l0 kq x3_1 l0_0 (l0_0.length:Int) x10_1 = some r) ∧ aA (kq ≤ k) ∧ aA (Kd.R k38 38 w' w.heap.size (fun _=>True) v3 x3_1) ∧ aA (w'.heap[gb178]? = some (.cells #[(.slice A0_0 l0_0.length c0_0)] 59 (0,0))) ∧ aA (Below w.heap.size w w'))
 case atStart=>exact ⟨(y179),(0),tG,H',⟨Nat.le_refl _⟩,⟨by (with_reducible repeat (first|apply Kd.bC|apply Kd.bD|apply Kd.bG));exact HO181.out⟩,⟨by (with_reducible repeat (first|refine aG ?_ _|refine aH ?_|refine aE ?_ _));exact BK178.out⟩,⟨wd⟩⟩
 case round =>
  clear H'
  try clear p2
  try clear c4
  try clear hcz5_0
  try clear hfz5_0
  obtain ⟨x3_1,x10_1,rfl,HA,HK1,HO_3,BK178,HB⟩:=hrel
  cases gk with
  | zero=>exact absurd HA.out (by simp [impl_NodeKeys.l0])
  | succ k1 =>
   have H:=HA.out
   clear HA
   simp only [impl_NodeKeys.l0] at H
   by_cases c6:x10_1 < (l0_0.length:Int)
   ·rw [if_pos c6] at H
    have c6b0:decide (x10_1 < (l0_0.length:Int)) = true:=decide_eq_true c6
    clear c6
    by_cases c7:0 ≤ x10_1
    ·rw [if_pos c7] at H
     have c7b0:decide (0 ≤ x10_1) = true:=decide_eq_true c7
     clear c7
     by_cases c8:x10_1 < (l0_0.length:Int)
     ·rw [if_pos c8] at H
      have c8b0:decide (x10_1 < (l0_0.length:Int)) = true:=decide_eq_true c8
      clear c8
      replace H:=lF H
      obtain ⟨t183,A90,H⟩:=H
      replace H:(impl_NodeKeys.l0 k1 t183 l0_0 (l0_0.length:Int) (wrap64 (x10_1 + 1))) = some r:=H
      have A9:=aA.mk A90
      clear A90
      have H':=aA.mk H
      clear H
      have p182:0 ≤ (x10_1:Int):=lE tF
      have q182:x10_1 < (l0_0.length:Int):=lE tF
      obtain ⟨ad182,A182_0,c182_0,e182,hx182_0,hl182_0,hi182_0⟩:=at_L2 HR0_0.out x10_1 p182 q182
      cases e182
      replace hx182_0:=(HB.out.cell (lD w _ hx182_0)).trans hx182_0
      have HR182_0:=aA.mk hi182_0
      have HC182_0:=aA.mk hl182_0
      clear hi182_0 hl182_0
      replace p182:=eq_true p182
      replace q182:=eq_true q182
      obtain ⟨Ao10,co10,eo10⟩:=Kd.R_slice HO_3.out
      subst eo10
      go_wp2_with (first|((with_reducible refine aY (f:=78) rfl ?_);refine goesL_ (some 16) rfl rfl Try.func78 tH rfl #[.slice Ao10 x3_1.length co10,.slice A182_0 (rd_L2 l0_0 x10_1).length c182_0] rfl tA ?_;(with_reducible refine (impl_MergeSets.calls k1 _ _ x3_1 _ _ (rd_L2 l0_0 x10_1) t183 _ ?side1 ?side2 ?side3 ?side4 A9.out).mono ?_);(case side1=>repeat (first|exact (Kd.R_reads' HO_3.out).2.2|(with_reducible refine Kd.C_alloc ?_ _)|(with_reducible refine Kd.C_drewN ?_ _)|(with_reducible refine Kd.C_drew ?_)));(case side2=>exact (Kd.R_reads' HO_3.out).2.1);(case side3=>exact (Kd.C_below HR182_0.out HB.out));(case side4=>exact HC182_0.out);rintro e w11 ⟨v184,rfl,ho0,hb⟩;refine ⟨_,rfl,?_⟩;have HO185:=aA.mk (Kd.R_lower (Kd.R_new' ho0 (Kd.R_lt HO_3.out)) (aM t9));replace HO_3:=aA.mk (Kd.R_elder' HO_3.out (Kd.R_base ho0) hb);replace BK178:=nB BK178;replace HB:=aA.mk (aQ t9 hb);(try clear hb);(try clear ho0)))
      go_roundg k1
      case measure=>have:=HK1.out;omega
      case rel=>exact ⟨(t183),(wrap64 (x10_1 + 1)),tG,H',⟨wX⟩,⟨by (with_reducible repeat (first|apply Kd.bC|apply Kd.bD|apply Kd.bG));exact Kd.bF HO185.out (fun _ hk=>trivial)⟩,⟨by (with_reducible repeat (first|refine aG ?_ _|refine aH ?_|refine aE ?_ _));exact BK178.out⟩,⟨wd⟩⟩
     ·rw [if_neg c8] at H
      exact vM
    ·rw [if_neg c7] at H
     exact vM
   ·rw [if_neg c6] at H
    have c6b0:decide (x10_1 < (l0_0.length:Int)) = false:=decide_eq_false c6
    clear c6
    replace H:=lF H
    obtain ⟨t186,A120,H⟩:=H
    replace H:(some t186) = some r:=H
    have A12:=aA.mk A120
    clear A120
    obtain rfl:=Option.some.inj H
    obtain ⟨Ao13,co13,eo13⟩:=Kd.R_slice HO_3.out
    subst eo13
    go_wp2_with (first|((with_reducible refine aY (f:=79) rfl ?_);refine goesL_ (some 19) rfl rfl Try.func79 tH rfl #[.slice Ao13 x3_1.length co13] rfl tA ?_;(with_reducible refine (impl_Drop.calls k1 _ _ x3_1 t186 _ ?side1 ?side2 A12.out).mono ?_);(case side1=>repeat (first|exact (Kd.R_reads' HO_3.out).2.2|(with_reducible refine Kd.C_alloc ?_ _)|(with_reducible refine Kd.C_drewN ?_ _)|(with_reducible refine Kd.C_drew ?_)));(case side2=>exact (Kd.R_reads' HO_3.out).2.1);rintro e w14 ⟨v187,rfl,ho0,hb⟩;refine ⟨_,rfl,?_⟩;have HO188:=aA.mk (Kd.R_lower (Kd.R_new' ho0 (Kd.R_lt HO_3.out)) (aM t9));replace HO_3:=aA.mk (Kd.R_elder' HO_3.out (Kd.R_base ho0) hb);replace BK178:=nB BK178;replace HB:=aA.mk (aQ t9 hb);(try clear hb);(try clear ho0)))
    go_ret
    exact ⟨_,tC,by (with_reducible repeat (first|apply Kd.bC|apply Kd.bD|apply Kd.bG));exact Kd.bF HO188.out (fun _ hk=>trivial),wd⟩
def impl_NodeNew.f (l0:List (S38)):Option ((List (List (S38)))):=if (l0.length:Int) = 0 then (some ([]:List (List (S38)))) else ((impl_copyKeys.f l0).bind fun t=>(some (([t]:List (List (S38))))))
set_option maxHeartbeats 8000000 in
set_option maxRecDepth 100000 in
theorem impl_NodeNew.calls (A0:Option Addr) (c0:Nat) (l0:List (S38)) (r:List (List (S38))) (w:World) (hr0:Kd.C k38 w A0 l0.length l0) (hc0:l0.length ≤ c0) (h:impl_NodeNew.f l0 = some r) :
  Calls Try.prog 64 #[.slice A0 l0.length c0] w fun e w'=>∃ v0_:Value,e = .returned (.agg #[v0_]) ∧ Kd.S (Kd.slice 38 k38) 45 w' w.heap.size (fun _=>True) v0_ r ∧ Below w.heap.size w w':=by
 have hu:=Try.underlying59
 have HR0:=aA.mk hr0
 have HC0:=aA.mk hc0
 clear hr0 hc0
 unfold impl_NodeNew.f at h
 by_cases c2:(l0.length:Int) = 0
 ·rw [if_pos c2] at h
  have c2b0:((l0.length:Int) == 0) = true:=beq_iff_eq.mpr c2
  clear c2
  obtain rfl:=Option.some.inj h
  clear h
  go_enter Try.func64,Try.ntmps64
  go_wp2_with (first|((with_reducible refine aZ (N:=2) rfl ?_);refine bB ?hg (N:=2) ?hd (cs:=#[.slice none 0 0]) (t:=59) ?hr ?_;(case hd=>rfl);(case hg=>rfl);(case hr=>exact tJ);intro gb hg w3 hbox hb;have HB:=aA.mk hb;have BK:=aA.mk hbox;have GE:=aA.mk (Nat.le_of_eq hg.symm);clear hb hbox hg;have hz0:w3.cell? ⟨gb,0,none⟩ = some (.slice none 0 0):=(aN BK.out 0).trans rfl;have hz1:=bH BK.out 0))
  refine bodyPost_ret (results_cell_row rfl _ _ gb 59 #[.slice none 0 0] (0,0) _ rfl (by refine aT (cs:=#[.slice none 0 0]) ?_ 0 _ rfl;exact BK.out) Try.underlying59 rfl tH) rfl ?_
  exact ⟨_,rfl,Kd.S_nil _ _ _ _ _,aD HB.out GE.out⟩
 ·rw [if_neg c2] at h
  have c2b0:((l0.length:Int) == 0) = false:=beq_eq_false_iff_ne.mpr c2
  clear c2
  obtain ⟨t,ht,h⟩:=lF h
  obtain rfl:=Option.some.inj h
  clear h
  have HT:=aA.mk ht
  clear ht
  go_enter Try.func64,Try.ntmps64
  go_wp2_with (first|((with_reducible refine aZ (N:=2) rfl ?_);refine bB ?hg (N:=2) ?hd (cs:=#[.slice none 0 0]) (t:=59) ?hr ?_;(case hd=>rfl);(case hg=>rfl);(case hr=>exact tJ);intro gb hg w3 hbox hb;have HB:=aA.mk hb;have BK:=aA.mk hbox;have GE:=aA.mk (Nat.le_of_eq hg.symm);clear hb hbox hg)|((with_reducible refine aY (f:=91) rfl ?_);refine goesL_ (some 8) rfl rfl Try.func91 tH rfl #[.slice A0 l0.length c0] rfl tA ?_;(with_reducible refine (impl_copyKeys.calls _ _ l0 t _ ?s1 ?s2 HT.out).mono ?_);(case s1=>exact Kd.C_below HR0.out HB.out);(case s2=>exact HC0.out);rintro e w7 ⟨v,rfl,ho0,hb⟩;refine ⟨_,rfl,?_⟩;obtain ⟨Ao,co,eo⟩:=Kd.R_slice ho0;subst eo;have HO:=aA.mk (Kd.R_bound (Kd.R_lower ho0 HB.out.size));have HB7:=aA.mk (aQ HB.out hb);have BK7:=aA.mk (blk_below BK.out hb);clear ho0 hb)|((with_reducible refine aZ (N:=9) rfl ?_);refine Kd.S_lits (Kd.slice 38 k38) w.heap.size 45 ?hg (N:=9) ?hd (xs:=([t]:List (List (S38)))) (inner:=[.slice Ao t.length co]) (ok:=fun _=>True) (fun j k_=>j = 0 ∧ k_ < w7.heap.size) ?hr rfl ?hp ?ha (fun _ _ _=>trivial) trivial HB7.out HB7.out.size te ?_;(case hd=>rfl);(case hg=>rfl);(case hr=>exact tJ);(case ha=>exact (fun i j k h1 h2=>h1.1.trans h2.1.symm));(case hp=>exact (fun j x hx=>by match j,hx with|0,hx=>(obtain rfl:=Option.some.inj hx;exact ⟨_,rfl,Kd.bF HO.out (fun k hk=>⟨rfl,hk.2.2.1⟩)⟩)|j + 1,hx=>simp at hx));intro v1 w9 ho10 hb hg_ hnew_;obtain ⟨A1,c1,e1⟩:=Kd.S_slice ho10;subst e1;have BK9:=aA.mk (blk_grown BK7.out hg_ te);have HS:=aA.mk ho10;have HB9:=aA.mk hb;clear hb hg_ hnew_ ho10;have hz0:w9.cell? ⟨gb,0,none⟩ = some (.slice none 0 0):=(aN BK9.out 0).trans rfl;have hz1:=bH BK9.out 0))
  refine bodyPost_ret (results_cell_row rfl _ _ gb 59 #[.slice A1 ([t]:List (List (S38))).length c1] (0,0) _ rfl (by refine aT (cs:=#[.slice none 0 0]) ?_ 0 _ rfl;exact BK9.out) Try.underlying59 rfl tH) rfl ?_
  exact ⟨_,rfl,Kd.S_mono (Kd.S_far (p:=⟨gb,0,none⟩) (Kd.S_types HS.out BK9.out tb) (fun _ hk=>hk.2) _) (fun _ _=>trivial),aD HB9.out GE.out⟩
end Go.Proofs.Ytamjbjkbineafaa.PFnPacked

namespace Go.Proofs.Ytamjbjkbineafaa.PFnPacked
open Go.RowKit Go.Proofs.YtamjbjkbineafaaW.PrintWords Go.Proofs.YtamjbjkbineafaaW.PrintLast Go.Proofs.YtamjbjkbineafaaW.PrintMore
attribute [local go_sem] max2_int min2_int max_two min_two max_three min_three max_four min_four   -- for this text's walks alone
set_option linter.unusedVariables false
set_option linter.unusedSimpArgs false
def impl_NodePack.f (k:Nat) (l0_0:List (List (S38))):Option ((List (List (S38)))):=(impl_NodeKeys.f k l0_0).bind fun t191=>((impl_NodeNew.f t191).bind fun t194=>(some t194))
set_option maxHeartbeats 8000000 in
set_option maxRecDepth 100000 in
theorem impl_NodePack.calls (k:Nat) (A0_0:Option Addr) (c0_0:Nat) (l0_0:List (List (S38))) (r:List (List (S38))) (w:World) (hr0_0:Kd.C (Kd.slice 38 k38) w A0_0 l0_0.length l0_0) (hc0_0:l0_0.length ≤ c0_0) (h:impl_NodePack.f k l0_0 = some r) :
  Calls Try.prog 33 #[.agg #[.slice A0_0 l0_0.length c0_0]] w fun e w'=>∃ v0_:Value,e = .returned (.agg #[v0_]) ∧ Kd.S (Kd.slice 38 k38) 45 w' w.heap.size (fun _=>True) v0_ r ∧ Below w.heap.size w w':=by
 have hu59:=Try.underlying59
 have HR0_0:=aA.mk hr0_0
 have HC0_0:=aA.mk hc0_0
 clear hr0_0 hc0_0
 have HB:=aA.mk (Below.refl w.heap.size w)
 have H:((impl_NodeKeys.f k l0_0).bind fun t191=>((impl_NodeNew.f t191).bind fun t194=>(some t194))) = some r:=h
 clear h
 replace H:=lF H
 obtain ⟨t191,A20,H⟩:=H
 replace H:((impl_NodeNew.f t191).bind fun t194=>(some t194)) = some r:=H
 have A2:=aA.mk A20
 clear A20
 replace H:=lF H
 obtain ⟨t194,A30,H⟩:=H
 replace H:(some t194) = some r:=H
 have A3:=aA.mk A30
 clear A30
 obtain rfl:=Option.some.inj H
 go_enter Try.func33,Try.ntmps33
 go_wp2_with (first|((with_reducible refine aZ (N:=1) rfl ?_);refine bB ?hg (N:=1) ?hd (cs:=#[.slice A0_0 l0_0.length c0_0]) (t:=59) ?hr ?_;(case hd=>rfl);(case hg=>rfl);(case hr=>exact tJ);intro gb189 hg w4 hbox hb;have BK189:=aA.mk (hbox);have GW189:=aA.mk ((by rw [hg];exact (aM HB.out):w.heap.size ≤ gb189));have GE189:=aA.mk ((by rw [hg];exact (aM HB.out):w.heap.size ≤ gb189));replace HB:=aA.mk (aQ HB.out hb);clear hb hbox hg)|((with_reducible refine aZ (N:=2) rfl ?_);refine bB ?hg (N:=2) ?hd (cs:=#[.slice none 0 0]) (t:=59) ?hr ?_;(case hd=>rfl);(case hg=>rfl);(case hr=>exact tJ);intro gb190 hg w5 hbox hb;have BK190:=aA.mk (hbox);have GW190:=aA.mk ((by rw [hg];exact (aM HB.out):w.heap.size ≤ gb190));have GE190:=aA.mk ((by rw [hg];exact (aM HB.out):w.heap.size ≤ gb190));replace HB:=aA.mk (aQ HB.out hb);have NB189_190:=nL BK189;have NB190_189:=nG BK189;replace BK189:=nB BK189;clear hb hbox hg;have hnb6:=NB189_190.out;have hnc6:=NB190_189.out;have hcz7_0:=cs1 BK189.out;have hfz7_0:=fs1 BK189.out)|((with_reducible refine aY (f:=46) rfl ?_);refine goesL_ (some 4) rfl rfl Try.func46 tH rfl #[.agg #[.slice A0_0 l0_0.length c0_0]] rfl tA ?_;(with_reducible refine (impl_NodeKeys.calls k _ _ l0_0 t191 _ ?side1 ?side2 A2.out).mono ?_);(case side1=>exact (Kd.C_below HR0_0.out HB.out));(case side2=>exact HC0_0.out);rintro e w8 ⟨v192,rfl,ho0,hb⟩;refine ⟨_,rfl,?_⟩;have HO193:=aA.mk (Kd.R_lower ho0 (aM HB.out));replace BK189:=nB BK189;replace BK190:=nB BK190;replace HB:=aA.mk (aQ HB.out hb);(try clear hb);(try clear ho0);obtain ⟨Ao9,co9,eo9⟩:=Kd.R_slice HO193.out;subst eo9)|((with_reducible refine aY (f:=64) rfl ?_);refine goesL_ (some 5) rfl rfl Try.func64 tH rfl #[.slice Ao9 t191.length co9] rfl tA ?_;(with_reducible refine (impl_NodeNew.calls _ _ t191 t194 _ ?side1 ?side2 A3.out).mono ?_);(case side1=>repeat (first|exact (Kd.R_reads' HO193.out).2.2|(with_reducible refine Kd.C_alloc ?_ _)|(with_reducible refine Kd.C_drewN ?_ _)|(with_reducible refine Kd.C_drew ?_)));(case side2=>exact (Kd.R_reads' HO193.out).2.1);rintro e w10 ⟨v195,rfl,ho0,hb⟩;refine ⟨_,rfl,?_⟩;have HO196:=aA.mk (Kd.S_lower (Kd.S_new' ho0 (Kd.R_lt HO193.out)) (aM HB.out));replace HO193:=nR HO193;replace BK189:=nB BK189;replace BK190:=nB BK190;replace HB:=aA.mk (aQ HB.out hb);(try clear hb);(try clear ho0);obtain ⟨Ao11,co11,eo11⟩:=Kd.S_slice HO196.out;subst eo11;have hcz12_0:=cs1 BK190.out;have hfz12_0:=fs1 BK190.out))
 refine bodyPost_ret (results_cell_row rfl _ _ gb190 59 #[.slice Ao11 t194.length co11] (0,0) _ rfl (by (with_reducible repeat (first|refine aG ?_ _|refine aH ?_|refine aE ?_ _));refine aT (cs:=#[.slice none 0 0]) ?_ 0 _ rfl;(with_reducible repeat (first|refine aG ?_ _|refine aH ?_|refine aE ?_ _));exact BK190.out) Try.underlying59 rfl tH) rfl ?_
 exact ⟨_,tC,by (with_reducible repeat (first|apply Kd.S_alloc|apply Kd.S_drewN|apply Kd.S_drew));exact Kd.S_mono (Kd.S_far (p:=⟨gb190,0,none⟩) (Kd.S_types HO196.out BK190.out tb) (fun _ hk=>hk.2) (.slice Ao11 t194.length co11)) (fun _ hk=>trivial),by repeat (first|(with_reducible first|exact HB.out|apply aK|apply aC|apply aJ|refine aD ?_ GE189.out|refine aD ?_ GE190.out)|exact HB.out)⟩
def impl_TreePack.f (k:Nat) (l0_0:List Int) (l0_1:List (S59)) (a1:Int):Option (List Int × (List (S59))):=(impl_copyTree.f k l0_0 l0_1).bind fun bt199=>((impl_within.f a1 0 (wrap64 ((l0_1.length:Int) - 1))).bind fun t206=>(if t206 = true then (if 0 ≤ a1 then (if a1 < (l0_1.length:Int) then ((impl_NodePack.f k ((rd_T59 l0_1 a1).f0)).bind fun t208=>(if a1 < (bt199.2.length:Int) then (some (bt199.1,(bt199.2.set (a1:Int).toNat (⟨t208⟩:S59)))) else (none))) else (none)) else (none)) else (some (bt199.1,bt199.2))))
def impl_TreePack.T3:Bool × List (List Nat × List Nat):=(true,[([],[]),([0],[0]),([],[]),([],[]),([3],[3]),([],[]),([4,5],[4,5]),([6],[6]),([7],[7]),([1,2,0,1,2,3,4,5,6,7,8],[1,2]),([9,8,8,0,1,2,3,4,5,6,7,8],[8,9])])
def impl_TreePack.B3:List Nat:=[0,1,0,0,8,0,56,120,248,511,1023]
theorem impl_TreePack.tab3:rtab .any (opsOf Try.f9 3) = impl_TreePack.T3:=by kernel_rfl
theorem impl_TreePack.bits3:waitsOk impl_TreePack.T3.2 impl_TreePack.B3 = true:=by kernel_rfl
set_option maxHeartbeats 8000000 in
set_option maxRecDepth 100000 in
theorem impl_TreePack.calls (k:Nat) (A0_0:Option Addr) (c0_0:Nat) (l0_0:List Int) (A0_1:Option Addr) (c0_1:Nat) (l0_1:List (S59)) (a1:Int) (r1:List Int) (r2:List (S59)) (w:World) (hr0_0:Kd.C (Kd.int .i64) w A0_0 l0_0.length l0_0) (hc0_0:l0_0.length ≤ c0_0) (hr0_1:Kd.C k59 w A0_1 l0_1.length l0_1) (hc0_1:l0_1.length ≤ c0_1) (h:impl_TreePack.f k l0_0 l0_1 a1 = some (r1,r2)) :
  Calls Try.prog 9 #[.agg #[.slice A0_0 l0_0.length c0_0,.slice A0_1 l0_1.length c0_1],.int .i64 a1] w fun e w'=>∃ v0_ v1_:Value,e = .returned (.agg #[v0_,v1_]) ∧ Kd.R (Kd.int .i64) 3 w' w.heap.size (fun k_=>(w.heap.size ≤ k_)) v0_ r1 ∧ Kd.N k59 59 w' w.heap.size (fun k_=>(w.heap.size ≤ k_) ∧ some k_ ≠ (v0_:Value).ownBlock) v1_ r2 ∧ Below w.heap.size w w':=by
 have hu29:=Try.underlying29
 have hu59:=Try.underlying59
 have HR0_0:=aA.mk hr0_0
 have HC0_0:=aA.mk hc0_0
 clear hr0_0 hc0_0
 have HR0_1:=aA.mk hr0_1
 have HC0_1:=aA.mk hc0_1
 clear hr0_1 hc0_1
 have HB:=aA.mk (Below.refl w.heap.size w)
 have H:((impl_copyTree.f k l0_0 l0_1).bind fun bt199=>((impl_within.f a1 0 (wrap64 ((l0_1.length:Int) - 1))).bind fun t206=>(if t206 = true then (if 0 ≤ a1 then (if a1 < (l0_1.length:Int) then ((impl_NodePack.f k ((rd_T59 l0_1 a1).f0)).bind fun t208=>(if a1 < (bt199.2.length:Int) then (some (bt199.1,(bt199.2.set (a1:Int).toNat (⟨t208⟩:S59)))) else (none))) else (none)) else (none)) else (some (bt199.1,bt199.2))))) = some (r1,r2):=h
 clear h
 replace H:=lF H
 obtain ⟨⟨t199,t202⟩,A30,H⟩:=H
 replace H:((impl_within.f a1 0 (wrap64 ((l0_1.length:Int) - 1))).bind fun t206=>(if t206 = true then (if 0 ≤ a1 then (if a1 < (l0_1.length:Int) then ((impl_NodePack.f k ((rd_T59 l0_1 a1).f0)).bind fun t208=>(if a1 < (t202.length:Int) then (some (t199,(t202.set (a1:Int).toNat (⟨t208⟩:S59)))) else (none))) else (none)) else (none)) else (some (t199,t202)))) = some (r1,r2):=H
 have A3:=aA.mk A30
 clear A30
 replace H:=lF H
 obtain ⟨t206,A40,H⟩:=H
 replace H:(if t206 = true then (if 0 ≤ a1 then (if a1 < (l0_1.length:Int) then ((impl_NodePack.f k ((rd_T59 l0_1 a1).f0)).bind fun t208=>(if a1 < (t202.length:Int) then (some (t199,(t202.set (a1:Int).toNat (⟨t208⟩:S59)))) else (none))) else (none)) else (none)) else (some (t199,t202))) = some (r1,r2):=H
 have A4:=aA.mk A40
 clear A40
 by_cases c5:t206 = true
 ·subst c5
  have H1:(if 0 ≤ a1 then (if a1 < (l0_1.length:Int) then ((impl_NodePack.f k ((rd_T59 l0_1 a1).f0)).bind fun t208=>(if a1 < (t202.length:Int) then (some (t199,(t202.set (a1:Int).toNat (⟨t208⟩:S59)))) else (none))) else (none)) else (none)) = some (r1,r2):=by rw [if_pos rfl] at H;exact H
  clear H
  have H:=H1
  clear H1
  by_cases c6:0 ≤ a1
  ·rw [if_pos c6] at H
   have c6b0:decide (0 ≤ a1) = true:=decide_eq_true c6
   clear c6
   by_cases c7:a1 < (l0_1.length:Int)
   ·rw [if_pos c7] at H
    have c7b0:decide (a1 < (l0_1.length:Int)) = true:=decide_eq_true c7
    clear c7
    replace H:=lF H
    obtain ⟨t208,A80,H⟩:=H
    replace H:(if a1 < (t202.length:Int) then (some (t199,(t202.set (a1:Int).toNat (⟨t208⟩:S59)))) else (none)) = some (r1,r2):=H
    have A8:=aA.mk A80
    clear A80
    by_cases c9:a1 < (t202.length:Int)
    ·rw [if_pos c9] at H
     have c9b0:decide (a1 < (t202.length:Int)) = true:=decide_eq_true c9
     clear c9
     obtain ⟨y211,hy211⟩:∃ y_:List (S59),y_ = (t202.set (a1:Int).toNat (⟨t208⟩:S59)):=⟨_,rfl⟩
     replace H:(some (t199,y211)) = some (r1,r2):=by first|(rw [hy211];with_reducible exact H)|(have H2_:=(Option.bind_some _ _).symm.trans H;rw [hy211];with_reducible exact H2_)|(have H2_:=(Option.bind_some _ _).symm.trans H;with_reducible exact H2_)|with_reducible exact H|(rw [hy211];exact H)|exact H
     have Ny211:=aA.mk hy211
     clear hy211
     simp only [Option.some.injEq,Prod.mk.injEq] at H
     obtain ⟨rfl,rfl⟩:=H
     go_enter Try.func9,Try.ntmps9
     try go_wp2_with (first|((with_reducible refine aZ (N:=2) rfl ?_);refine bB ?hg (N:=2) ?hd (cs:=#[.slice A0_0 l0_0.length c0_0,.slice A0_1 l0_1.length c0_1]) (t:=29) ?hr ?_;(case hd=>rfl);(case hg=>rfl);(case hr=>exact tJ);intro gb197 hg w11 hbox hb;have n0_:=aA.mk (aQ tE hb);have n1_:=aA.mk (hbox);have n2_:=aA.mk ((by rw [hg];exact (aM tE):w.heap.size ≤ gb197));have n3_:=aA.mk ((by rw [hg];exact (aM tE):w.heap.size ≤ gb197));clear HB;have HB:=n0_;have BK197:=n1_;have GW197:=n2_;have GE197:=n3_;clear n0_ n1_ n2_ n3_;clear hb hbox hg)|((with_reducible refine aZ (N:=4) rfl ?_);refine bB ?hg (N:=4) ?hd (cs:=#[.slice none 0 0,.slice none 0 0]) (t:=29) ?hr ?_;(case hd=>rfl);(case hg=>rfl);(case hr=>exact tJ);intro gb198 hg w12 hbox hb;have n0_:=aA.mk (blk_below (g:=gb197) (o:=.cells #[.slice A0_0 l0_0.length c0_0,.slice A0_1 l0_1.length c0_1] 29 (0,0)) tR hb);have n1_:=aA.mk (aQ t8 hb);have n2_:=aA.mk (hbox);have n3_:=aA.mk ((by rw [hg];exact (aM t8):w.heap.size ≤ gb198));have n4_:=aA.mk ((by rw [hg];exact (aM t8):w.heap.size ≤ gb198));have n5_:=aA.mk ((by rw [hg];exact Nat.ne_of_lt (blk_lt (g:=gb197) (o:=.cells #[.slice A0_0 l0_0.length c0_0,.slice A0_1 l0_1.length c0_1] 29 (0,0)) tR):gb197 ≠ gb198));have n6_:=aA.mk ((by rw [hg];exact Nat.ne_of_gt (blk_lt (g:=gb197) (o:=.cells #[.slice A0_0 l0_0.length c0_0,.slice A0_1 l0_1.length c0_1] 29 (0,0)) tR):gb198 ≠ gb197));clear BK197;clear HB;have BK197:=n0_;have HB:=n1_;have BK198:=n2_;have GW198:=n3_;have GE198:=n4_;have NB197_198:=n5_;have NB198_197:=n6_;clear n0_ n1_ n2_ n3_ n4_ n5_ n6_;clear hb hbox hg;have hnb13:=NB197_198.out;have hnc13:=NB198_197.out;have hcz14_0:w12.cell? ⟨gb197,0,none⟩ = some (.slice A0_0 l0_0.length c0_0):=(aN BK197.out 0).trans rfl;have hcz14_1:w12.cell? ⟨gb197,1,none⟩ = some (.slice A0_1 l0_1.length c0_1):=(aN BK197.out 1).trans rfl;have hfz14_0:=bH BK197.out 0;have hfz14_1:=bH BK197.out 1)|((with_reducible refine aY (f:=31) rfl ?_);refine goesL_ (some 7) rfl rfl Try.func31 tH rfl #[.agg #[.slice A0_0 l0_0.length c0_0,.slice A0_1 l0_1.length c0_1]] rfl vL ?_;(with_reducible refine (impl_copyTree.calls k _ _ l0_0 _ _ l0_1 t199 t202 _ ?side1 ?side2 ?side3 ?side4 A3.out).mono ?_);(case side1=>repeat (first|exact (Kd.C_below HR0_0.out HB.out)|(with_reducible refine Kd.C_alloc ?_ _)|(with_reducible refine Kd.C_drewN ?_ _)|(with_reducible refine Kd.C_drew ?_)));(case side2=>exact HC0_0.out);(case side3=>repeat (first|exact (Kd.C_below HR0_1.out HB.out)|(with_reducible refine Kd.C_alloc ?_ _)|(with_reducible refine Kd.C_drewN ?_ _)|(with_reducible refine Kd.C_drew ?_)));(case side4=>exact HC0_1.out);rintro e w15 ⟨v200,v203,rfl,ho0,ho1,hb⟩;refine ⟨_,rfl,?_⟩;have n0_:=aA.mk (Kd.R_lower (Kd.R_newM (M:=fun k_=>(w.heap.size ≤ k_)) ho0 (aM tK) (fun k_ h_=>h_)) (aM tK));have n1_:=aA.mk (Kd.N_lower (Kd.N_mono (ok':=fun k_=>(w.heap.size ≤ k_) ∧ some k_ ≠ (v200:Value).ownBlock ∧ k_ ≠ gb197 ∧ k_ ≠ gb198) (Kd.R_N (Kd.R_bound (Kd.R_apart' ho1 (Kd.R_typed ho0) tb))) (fun k_ hk_=>⟨(Nat.le_trans (aM tK) hk_.2.1),hk_.1.2,(Kd.freshB (g:=gb197) (o:=.cells #[.slice A0_0 l0_0.length c0_0,.slice A0_1 l0_1.length c0_1] 29 (0,0)) tR k_ hk_.2.1),(Kd.freshB (g:=gb198) (o:=.cells #[.slice none 0 0,.slice none 0 0] 29 (0,0)) ta k_ hk_.2.1)⟩)) (aM tK));have n2_:=aA.mk (blk_below (g:=gb197) (o:=.cells #[.slice A0_0 l0_0.length c0_0,.slice A0_1 l0_1.length c0_1] 29 (0,0)) tR hb);have n3_:=aA.mk (blk_below (g:=gb198) (o:=.cells #[.slice none 0 0,.slice none 0 0] 29 (0,0)) ta hb);have n4_:=aA.mk (aQ tK hb);clear BK197;clear BK198;clear HB;have HO201:=n0_;have HO204:=n1_;have BK197:=n2_;have BK198:=n3_;have HB:=n4_;clear n0_ n1_ n2_ n3_ n4_;(try clear hb);(try clear ho0);(try clear ho1))|((with_reducible refine aZ (N:=5) rfl ?_);refine bB ?hg (N:=5) ?hd (cs:=#[.slice none 0 0,.slice none 0 0]) (t:=29) ?hr ?_;(case hd=>rfl);(case hg=>rfl);(case hr=>exact tJ);intro gb205 hg w16 hbox hb;have n0_:=aA.mk (Kd.R_below wA hb);have n1_:=aA.mk (Kd.N_below (Kd.N_elderB vq gb205 (Nat.le_of_eq hg.symm)) hb);have n2_:=aA.mk (blk_below (g:=gb197) (o:=.cells #[.slice A0_0 l0_0.length c0_0,.slice A0_1 l0_1.length c0_1] 29 (0,0)) tR hb);have n3_:=aA.mk (blk_below (g:=gb198) (o:=.cells #[.slice none 0 0,.slice none 0 0] 29 (0,0)) ta hb);have n4_:=aA.mk (aQ tK hb);have n5_:=aA.mk (hbox);have n6_:=aA.mk ((by rw [hg];exact (aM tK):w.heap.size ≤ gb205));have n7_:=aA.mk ((by rw [hg];exact (aM tK):w.heap.size ≤ gb205));have n8_:=aA.mk ((by rw [hg];exact Nat.ne_of_lt (blk_lt (g:=gb197) (o:=.cells #[.slice A0_0 l0_0.length c0_0,.slice A0_1 l0_1.length c0_1] 29 (0,0)) tR):gb197 ≠ gb205));have n9_:=aA.mk ((by rw [hg];exact Nat.ne_of_gt (blk_lt (g:=gb197) (o:=.cells #[.slice A0_0 l0_0.length c0_0,.slice A0_1 l0_1.length c0_1] 29 (0,0)) tR):gb205 ≠ gb197));have n10_:=aA.mk ((by rw [hg];exact Nat.ne_of_lt (blk_lt (g:=gb198) (o:=.cells #[.slice none 0 0,.slice none 0 0] 29 (0,0)) ta):gb198 ≠ gb205));have n11_:=aA.mk ((by rw [hg];exact Nat.ne_of_gt (blk_lt (g:=gb198) (o:=.cells #[.slice none 0 0,.slice none 0 0] 29 (0,0)) ta):gb205 ≠ gb198));clear HO201;clear HO204;clear BK197;clear BK198;clear HB;have HO201:=n0_;have HO204:=n1_;have BK197:=n2_;have BK198:=n3_;have HB:=n4_;have BK205:=n5_;have GW205:=n6_;have GE205:=n7_;have NB197_205:=n8_;have NB205_197:=n9_;have NB198_205:=n10_;have NB205_198:=n11_;clear n0_ n1_ n2_ n3_ n4_ n5_ n6_ n7_ n8_ n9_ n10_ n11_;clear hb hbox hg;obtain ⟨Ao17,co17,eo17⟩:=Kd.R_slice HO201.out;subst eo17;have hnb18:=NB205_197.out;have hnc18:=NB197_205.out;have hnb19:=NB205_198.out;have hnc19:=NB198_205.out;have hcz20_0:w16.cell? ⟨gb205,0,none⟩ = some (.slice none 0 0):=(aN BK205.out 0).trans rfl;have hcz20_1:w16.cell? ⟨gb205,1,none⟩ = some (.slice none 0 0):=(aN BK205.out 1).trans rfl;have hfz20_0:=bH BK205.out 0;have hfz20_1:=bH BK205.out 1;obtain ⟨Ao21,co21,eo21⟩:=Kd.N_slice HO204.out;subst eo21;have hcz22_0:w16.cell? ⟨gb197,0,none⟩ = some (.slice A0_0 l0_0.length c0_0):=(aN BK197.out 0).trans rfl;have hcz22_1:w16.cell? ⟨gb197,1,none⟩ = some (.slice A0_1 l0_1.length c0_1):=(aN BK197.out 1).trans rfl;have hfz22_0:=bH BK197.out 0;have hfz22_1:=bH BK197.out 1)|((with_reducible refine aY (f:=32) rfl ?_);refine goesL_ (some 13) rfl rfl Try.func32 tH rfl #[.int .i64 a1,.int .i64 0,.int .i64 (wrap64 ((l0_1.length:Int) - 1))] rfl vL ?_;(with_reducible refine (impl_within.calls a1 0 (wrap64 ((l0_1.length:Int) - 1)) true _ A4.out).mono ?_);rintro e w' ⟨rfl,⟨nd,rfl⟩⟩;refine ⟨_,rfl,?_⟩))
     have n0_:aA (Kd.R (Kd.int .i64) 3 ((w16.setCell ⟨gb205,0,none⟩ (.slice Ao17 t199.length co17)).setCell ⟨gb205,1,none⟩ (.slice Ao21 t202.length co21)) w.heap.size (fun k_=>(w.heap.size ≤ k_)) (.slice Ao17 t199.length co17) t199):=⟨by (with_reducible repeat (first|apply Kd.bC|apply Kd.bD|apply Kd.bG));exact Kd.bF (Kd.bJ (p:=⟨gb205,1,none⟩) (Kd.bJ (p:=⟨gb205,0,none⟩) (Kd.R_types HO201.out BK205.out tb) (fun _ hk=>hk.2) (.slice Ao17 t199.length co17)) (fun _ hk=>hk.2) (.slice Ao21 t202.length co21)) (fun _ hk=>hk.1.1)⟩
     have n1_:aA (Kd.N k59 59 ((w16.setCell ⟨gb205,0,none⟩ (.slice Ao17 t199.length co17)).setCell ⟨gb205,1,none⟩ (.slice Ao21 t202.length co21)) w.heap.size (fun k_=>(w.heap.size ≤ k_) ∧ some k_ ≠ (.slice Ao17 t199.length co17:Value).ownBlock ∧ k_ ≠ gb197 ∧ k_ ≠ gb198 ∧ k_ ≠ gb205) (.slice Ao21 t202.length co21) t202):=⟨by (with_reducible repeat (first|apply Kd.N_alloc|apply Kd.N_drewN|apply Kd.N_drew));exact Kd.N_mono (Kd.N_far (p:=⟨gb205,1,none⟩) (Kd.N_far (p:=⟨gb205,0,none⟩) (Kd.N_mono HO204.out (fun k_ hk=>(⟨hk,hk.2⟩:_ ∧ k_ ≠ gb205))) (fun _ hk=>hk.2) (.slice Ao17 t199.length co17)) (fun _ hk=>hk.2) (.slice Ao21 t202.length co21)) (fun _ hk=>⟨hk.1.1.1,⟨hk.1.1.2.1,⟨hk.1.1.2.2.1,⟨hk.1.1.2.2.2,hk.1.2⟩⟩⟩⟩)⟩
     have n2_:aA (((w16.setCell ⟨gb205,0,none⟩ (.slice Ao17 t199.length co17)).setCell ⟨gb205,1,none⟩ (.slice Ao21 t202.length co21)).heap[gb197]? = some (.cells #[.slice A0_0 l0_0.length c0_0,.slice A0_1 l0_1.length c0_1] 29 (0,0))):=⟨by (with_reducible repeat (first|refine aG ?_ _|refine aH ?_|refine aE ?_ _));refine aV ?_ NB197_205.out _;(with_reducible repeat (first|refine aG ?_ _|refine aH ?_|refine aE ?_ _));refine aV ?_ NB197_205.out _;(with_reducible repeat (first|refine aG ?_ _|refine aH ?_|refine aE ?_ _));exact BK197.out⟩
     have n3_:aA (((w16.setCell ⟨gb205,0,none⟩ (.slice Ao17 t199.length co17)).setCell ⟨gb205,1,none⟩ (.slice Ao21 t202.length co21)).heap[gb198]? = some (.cells #[.slice none 0 0,.slice none 0 0] 29 (0,0))):=⟨by (with_reducible repeat (first|refine aG ?_ _|refine aH ?_|refine aE ?_ _));refine aV ?_ NB198_205.out _;(with_reducible repeat (first|refine aG ?_ _|refine aH ?_|refine aE ?_ _));refine aV ?_ NB198_205.out _;(with_reducible repeat (first|refine aG ?_ _|refine aH ?_|refine aE ?_ _));exact BK198.out⟩
     have n4_:aA (((w16.setCell ⟨gb205,0,none⟩ (.slice Ao17 t199.length co17)).setCell ⟨gb205,1,none⟩ (.slice Ao21 t202.length co21)).heap[gb205]? = some (.cells #[.slice Ao17 t199.length co17,.slice Ao21 t202.length co21] 29 (0,0))):=⟨by (with_reducible repeat (first|refine aG ?_ _|refine aH ?_|refine aE ?_ _));refine aT (cs:=#[.slice Ao17 t199.length co17,.slice none 0 0]) ?_ 1 _ rfl;(with_reducible repeat (first|refine aG ?_ _|refine aH ?_|refine aE ?_ _));refine aT (cs:=#[.slice none 0 0,.slice none 0 0]) ?_ 0 _ rfl;(with_reducible repeat (first|refine aG ?_ _|refine aH ?_|refine aE ?_ _));exact BK205.out⟩
     have n5_:aA (Below w.heap.size w ((w16.setCell ⟨gb205,0,none⟩ (.slice Ao17 t199.length co17)).setCell ⟨gb205,1,none⟩ (.slice Ao21 t202.length co21))):=⟨wD⟩
     (try clear HO201)
     (try clear HO204)
     (try clear BK197)
     (try clear BK198)
     (try clear BK205)
     (try clear HB)
     generalize ((w16.setCell ⟨gb205,0,none⟩ (.slice Ao17 t199.length co17)).setCell ⟨gb205,1,none⟩ (.slice Ao21 t202.length co21)) = w23 at n0_ n1_ n2_ n3_ n4_ n5_ ⊢
     have HO201:=n0_
     have HO204:=n1_
     have BK197:=n2_
     have BK198:=n3_
     have BK205:=n4_
     have HB:=n5_
     clear n0_ n1_ n2_ n3_ n4_ n5_
     (try (rw [drewN_self w23];generalize hq_:World.drewN w23 _ = w23;have n0_:aA (Kd.R (Kd.int .i64) 3 w23 w.heap.size (fun k_=>(w.heap.size ≤ k_)) (.slice Ao17 t199.length co17) t199):=⟨by rw [← hq_];exact wA⟩;have n1_:aA (Kd.N k59 59 w23 w.heap.size (fun k_=>(w.heap.size ≤ k_) ∧ some k_ ≠ (.slice Ao17 t199.length co17:Value).ownBlock ∧ k_ ≠ gb197 ∧ k_ ≠ gb198 ∧ k_ ≠ gb205) (.slice Ao21 t202.length co21) t202):=⟨by rw [← hq_];exact vq⟩;have n2_:aA (w23.heap[gb197]? = some (.cells #[.slice A0_0 l0_0.length c0_0,.slice A0_1 l0_1.length c0_1] 29 (0,0))):=⟨by rw [← hq_];exact tR⟩;have n3_:aA (w23.heap[gb198]? = some (.cells #[.slice none 0 0,.slice none 0 0] 29 (0,0))):=⟨by rw [← hq_];exact ta⟩;have n4_:aA (w23.heap[gb205]? = some (.cells #[.slice Ao17 t199.length co17,.slice Ao21 t202.length co21] 29 (0,0))):=⟨by rw [← hq_];exact AC⟩;have n5_:aA (Below w.heap.size w w23):=⟨by rw [← hq_];exact vP⟩;clear HO201 HO204 BK197 BK198 BK205 HB hq_;have HO201:=n0_;have HO204:=n1_;have BK197:=n2_;have BK198:=n3_;have BK205:=n4_;have HB:=n5_;clear n0_ n1_ n2_ n3_ n4_ n5_))
     have n0_:=aA.mk (Kd.bG HO201.out)
     have n1_:=aA.mk (Kd.N_drew HO204.out)
     have n2_:=aA.mk (aH BK197.out)
     have n3_:=aA.mk (aH BK198.out)
     have n4_:=aA.mk (aH BK205.out)
     have n5_:=aA.mk (aJ HB.out)
     clear HO201
     clear HO204
     clear BK197
     clear BK198
     clear BK205
     clear HB
     have HO201:=n0_
     have HO204:=n1_
     have BK197:=n2_
     have BK198:=n3_
     have BK205:=n4_
     have HB:=n5_
     clear n0_ n1_ n2_ n3_ n4_ n5_
     have p207:0 ≤ (a1:Int):=lE wB
     have q207:a1 < (l0_1.length:Int):=lE wB
     obtain ⟨ad207,A207_0,c207_0,e207,hx207_0,hl207_0,hi207_0⟩:=at_T59 HR0_1.out a1 p207 q207
     have hw207_0:=hx207_0
     cases e207
     replace hx207_0:=(HB.out.cell (lD w _ hx207_0)).trans hx207_0
     have HR207_0:=aA.mk hi207_0
     have HC207_0:=aA.mk hl207_0
     clear hi207_0 hl207_0
     replace p207:=eq_true p207
     replace q207:=eq_true q207
     refine start_ (n:=11) (S:=fun w'=>w'.cell? ⟨gb205,0,none⟩ = some (.slice Ao17 t199.length co17) ∧ w'.cell? ⟨gb205,1,none⟩ = some (.slice Ao21 t202.length co21) ∧ w'.cell? ⟨gb197,0,none⟩ = some (.slice A0_0 l0_0.length c0_0) ∧ w'.cell? ⟨gb197,1,none⟩ = some (.slice (some ad207) l0_1.length c0_1) ∧ w'.cell? (ad207.add (a1).toNat) = some (.slice A207_0 ((rd_T59 l0_1 a1).f0).length c207_0)) (ds:=[10]) #[F0,F0,F0,F0,F0,F0,F0,F0,F0,F0,F0] tH rfl rfl ⟨(aN BK205.out 0).trans rfl,(aN BK205.out 1).trans rfl,(aN BK197.out 0).trans rfl,(aN BK197.out 1).trans rfl,((HB.out.cell (lD w _ hw207_0)).trans hw207_0)⟩ (fun hHeld=>?_);refine with_tabW impl_TreePack.tab3 impl_TreePack.bits3 (fun HT_ HW_=>?_)
     generalize w23.drew = w24 at HO201 HO204 BK197 BK198 BK205 HB HR207_0 hx207_0 hHeld ⊢
     refine pu (i:=0) (N:=some 14) (bq1 1 11) ?_
     refine pu (i:=2) (N:=some 16) (bq1 5 11) ?_
     refine pu (i:=3) (N:=some 17) (bq1 13 11) ?_
     refine pu (i:=5) (N:=some 19) (bq1 45 11) ?_
     refine tu5 (i:=1) (N:=some 15) (bq1 47 11) ?_
     refine tu5 (i:=4) (N:=some 18) (bq1 63 11) ?_
     refine pu (i:=6) (N:=some 20) (bq1 127 11) ?_
     refine tu5 (i:=7) (N:=some 21) (bq1 255 11) ?_
     refine one_ (i:=8) (N:=some 22) (bq1 511 11) rfl rfl (one_of HT_.out tH) tb (fun K hK=>?_)
     refine goes_ Try.func33 tH rfl #[.agg #[.slice A207_0 ((rd_T59 l0_1 a1).f0).length c207_0]] vH rfl rfl vL ?_
     with_reducible refine (impl_NodePack.calls k _ _ ((rd_T59 l0_1 a1).f0) t208 _ ?side1 ?side2 A8.out).mono ?_
     (case side1=>repeat (first|exact (Kd.C_below HR207_0.out HB.out)|(with_reducible refine Kd.C_alloc ?_ _)|(with_reducible refine Kd.C_drewN ?_ _)|(with_reducible refine Kd.C_drew ?_)))
     (case side2=>exact HC207_0.out)
     rintro e w25 ⟨v209,rfl,ho0,hb⟩
     refine ⟨_,rfl,?_⟩
     have n0_:=aA.mk (Kd.R_below wA hb)
     have n1_:=aA.mk (Kd.N_elder' vq (by first|exact Kd.N_base ho0|exact Kd.S_base ho0) hb)
     have n2_:=aA.mk (Kd.N_lower (Kd.N_mono (ok':=fun k_=>(w.heap.size ≤ k_) ∧ some k_ ≠ (.slice Ao17 t199.length co17:Value).ownBlock ∧ some k_ ≠ (.slice Ao21 t202.length co21:Value).ownBlock ∧ k_ ≠ gb197 ∧ k_ ≠ gb198 ∧ k_ ≠ gb205) (Kd.S_N (Kd.S_bound ho0)) (fun k_ hk_=>⟨(Nat.le_trans (aM vP) hk_.2.1),(Kd.fresh' (Kd.R_lt wA) k_ hk_.2.1),(Kd.fresh' (Kd.N_lt vq) k_ hk_.2.1),(Kd.freshB (g:=gb197) (o:=.cells #[.slice A0_0 l0_0.length c0_0,.slice (some ad207) l0_1.length c0_1] 29 (0,0)) tR k_ hk_.2.1),(Kd.freshB (g:=gb198) (o:=.cells #[.slice none 0 0,.slice none 0 0] 29 (0,0)) ta k_ hk_.2.1),(Kd.freshB (g:=gb205) (o:=.cells #[.slice Ao17 t199.length co17,.slice Ao21 t202.length co21] 29 (0,0)) AC k_ hk_.2.1)⟩)) (aM vP))
     have n3_:=aA.mk (blk_below (g:=gb197) (o:=.cells #[.slice A0_0 l0_0.length c0_0,.slice (some ad207) l0_1.length c0_1] 29 (0,0)) tR hb)
     have n4_:=aA.mk (blk_below (g:=gb198) (o:=.cells #[.slice none 0 0,.slice none 0 0] 29 (0,0)) ta hb)
     have n5_:=aA.mk (blk_below (g:=gb205) (o:=.cells #[.slice Ao17 t199.length co17,.slice Ao21 t202.length co21] 29 (0,0)) AC hb)
     have n6_:=aA.mk (aQ vP hb)
     clear HO201
     clear HO204
     clear BK197
     clear BK198
     clear BK205
     clear HB
     have HO201:=n0_
     have HO204:=n1_
     have HO210:=n2_
     have BK197:=n3_
     have BK198:=n4_
     have BK205:=n5_
     have HB:=n6_
     clear n0_ n1_ n2_ n3_ n4_ n5_ n6_
     (try clear hb)
     (try clear hb2)
     (try clear hk)
     (try clear hi)
     (try clear ho0)
     have p10:0 ≤ (a1:Int):=lE wB
     have q10:(a1:Int) < ((t202.length:Int):Int):=lE wB
     obtain ⟨go10,co10,eo10,gb10,gl10,cl10,HG10⟩:=Kd.N_form HO204.out tB
     (first|cases eo10|(injection eo10 with ea_ en_ ec_;(first|subst ea_|(injection ea_ with ea_;subst ea_));subst ec_;clear en_))
     have GB10:=aA.mk gb10
     have GG10:=aA.mk HG10
     clear gb10 gl10 HG10
     obtain ⟨ce10,hcl10,hM10,hcc10,hfr10⟩:=Kd.N_elem HO204.out z59 (a1:Int) p10 q10
     obtain ⟨ua10_0,uc10_0,rfl,ul10_0,ge10_0⟩:=k59_openF hM10
     have hx10_0:=hcc10 0 _ rfl
     have hf10_0:=hfr10 0
     (try simp only [show (k59).sz = 1 from rfl,Nat.mul_one,Nat.add_zero] at hx10_0)
     (try simp only [show (k59).sz = 1 from rfl,Nat.mul_one,Nat.add_zero] at hf10_0)
     clear hcl10 hcc10 hfr10 hM10
     replace p10:=eq_true p10
     replace q10:=eq_true q10
     have HX26:=aA.mk (show Kd.N k59 59 _ w.heap.size (fun k_=>(w.heap.size ≤ k_) ∧ some k_ ≠ (.slice Ao17 t199.length co17:Value).ownBlock ∧ some k_ ≠ (v209:Value).ownBlock ∧ k_ ≠ gb197 ∧ k_ ≠ gb198 ∧ k_ ≠ gb205) (.slice (some ⟨go10,0,none⟩) t202.length co21) t202 from (Kd.N_mono (HO204.out) (fun k_ hk=>⟨hk.1.1,⟨hk.1.2.1,⟨hk.2,⟨hk.1.2.2.1,⟨hk.1.2.2.2.1,hk.1.2.2.2.2⟩⟩⟩⟩⟩)))
     replace HX26:=aA.mk (show Kd.N k59 59 _ w.heap.size (fun k_=>(w.heap.size ≤ k_) ∧ some k_ ≠ (.slice Ao17 t199.length co17:Value).ownBlock ∧ k_ ≠ gb197 ∧ k_ ≠ gb198 ∧ k_ ≠ gb205) (.slice (some ⟨go10,0,none⟩) t202.length co21) t202 from Kd.N_mono HX26.out (fun k_ hk=>⟨hk.1,⟨hk.2.1,⟨hk.2.2.2.1,⟨hk.2.2.2.2.1,hk.2.2.2.2.2⟩⟩⟩⟩))
     obtain ⟨ce26,hcl26,hM26,hcc26,hfr26⟩:=Kd.N_elem HX26.out z59 (a1:Int) (lE wB) (by have h_:(a1:Int) < ((t202.length:Int):Int):=lE wB;first|exact h_|(have e_:=(Kd.N_reads' HO204.out).1;omega)|simpa using h_)
     obtain ⟨ua26_0,uc26_0,rfl,ul26_0,ge26_0⟩:=k59_openF hM26
     have hXr_:=(HO210.out)
     have hXm_:=Kd.N_mono (ok':=(fun k_=>((fun k_=>(w.heap.size ≤ k_) ∧ some k_ ≠ (.slice Ao17 t199.length co17:Value).ownBlock ∧ k_ ≠ gb197 ∧ k_ ≠ gb198 ∧ k_ ≠ gb205)) k_ ∧ k_ ≠ go10)) hXr_ (fun k_ hk=>⟨⟨hk.1,⟨hk.2.1,⟨hk.2.2.2.1,⟨hk.2.2.2.2.1,hk.2.2.2.2.2⟩⟩⟩⟩,fun e_=>(hk.2.2.1) (by rw [e_];rfl)⟩)
     obtain ⟨Az_,cz_,ez_⟩:=Kd.N_slice hXm_
     have hXq_:=hXm_
     rw [ez_] at hXq_
     have HP26:=(Kd.N_seg HX26.out (a1:Int) (lE wB) (by have h_:(a1:Int) < ((t202.length:Int):Int):=lE wB;first|exact h_|(have e_:=(Kd.N_reads' HO204.out).1;omega)|simpa using h_) (seg:=[v209]) (j:=0) hcl26 hcc26 (show 1 ≤ 1 from by decide) (x':=(⟨t208⟩:S59)) (by rw [ez_];exact k59_mkF _ _ (⟨t208⟩:S59) (Kd.N_reads' hXq_).2.1 (Kd.N_F hXq_)) (fun _ hk=>hk)).1
     clear hXq_ ez_ hXm_ hXr_
     clear cz_ Az_
     (try simp only [show (k59).sz = 1 from rfl,Nat.mul_one,Nat.add_zero] at HP26)
     rw [← Ny211.out] at HP26
     have HQ26:=aA.mk HP26
     clear hcl26 hcc26 hfr26 hM26 HP26
     refine hK.out _ _ ⟨(aN BK205.out 0).trans rfl,(aN BK205.out 1).trans rfl,(aN BK197.out 0).trans rfl,(aN BK197.out 1).trans rfl,((HB.out.cell (lD w _ hw207_0)).trans hw207_0)⟩ (fun hHeld=>?_)
     clear hK K
     refine norm_ (a':=?_) ?_ ?_
     rotate_left
     ·show Act.put _ (some 22) _ = _
      simp only [Act.put,lA,lB,lC,i64_w,i32_w]
      rfl
     refine pu (i:=9) (N:=some 23) (bq1 1023 11) ?_
     refine last_ (i:=10) (N:=none) (bq1 2047 11) rfl rfl (one_of HT_.out tH) tb (fun K hK=>?_)
     (obtain ⟨Az_,cz_,ez_⟩:=Kd.N_slice HO210.out;subst ez_)
     refine skip_ (w1:=?_) vH rfl ?_ ?_
     rotate_left
     ·go_simp
      rfl
     refine hK.out _ _ ?_
     clear hK K
     refine done_ (done_of HT_.out tH) ?_
     have n0_:aA (Kd.R (Kd.int .i64) 3 (w25.setCell ⟨go10,(a1:Int).toNat,none⟩ ((.slice Az_ t208.length cz_))) w.heap.size (fun k_=>(w.heap.size ≤ k_)) (.slice Ao17 t199.length co17) t199):=⟨by (with_reducible repeat (first|apply Kd.bC|apply Kd.bD|apply Kd.bG));exact Kd.bF (Kd.bJ (p:=⟨go10,(a1:Int).toNat,none⟩) (Kd.R_types HO201.out GG10.out tb) (fun _ hk=>hk.2) ((.slice Az_ t208.length cz_))) (fun _ hk=>hk.1)⟩
     have n1_:aA (Kd.N k59 59 (w25.setCell ⟨go10,(a1:Int).toNat,none⟩ ((.slice Az_ t208.length cz_))) w.heap.size (fun k_=>(w.heap.size ≤ k_) ∧ some k_ ≠ (.slice Ao17 t199.length co17:Value).ownBlock ∧ k_ ≠ gb197 ∧ k_ ≠ gb198 ∧ k_ ≠ gb205) (.slice (some ⟨go10,0,none⟩) t202.length co21) y211):=⟨by (with_reducible repeat (first|apply Kd.N_alloc|apply Kd.N_drewN|apply Kd.N_drew));exact HQ26.out⟩
     have n2_:aA ((w25.setCell ⟨go10,(a1:Int).toNat,none⟩ ((.slice Az_ t208.length cz_))).heap[gb197]? = some (.cells #[.slice A0_0 l0_0.length c0_0,.slice (some ad207) l0_1.length c0_1] 29 (0,0))):=⟨by (with_reducible repeat (first|refine aG ?_ _|refine aH ?_|refine aE ?_ _));refine aV ?_ (by have h_:=Kd.N_away HO204.out (fun k_ hk=>(by first|exact hk.1.2|exact hk.1.1.2|exact hk.1.1.2.1|exact hk.1.1.2.2|exact hk.1.1.2.2.1|exact hk.1.1.2.2.2|exact hk.1.2.1|exact hk.1.2.2|exact hk.1.2.2.1|exact hk.1.2.2.2|exact hk.1.2.2.2.1|exact hk.1.2.2.2.2:k_ ≠ gb197));intro e_;exact h_ (by rw [e_];rfl)) _;(with_reducible repeat (first|refine aG ?_ _|refine aH ?_|refine aE ?_ _));exact BK197.out⟩
     have n3_:aA ((w25.setCell ⟨go10,(a1:Int).toNat,none⟩ ((.slice Az_ t208.length cz_))).heap[gb198]? = some (.cells #[.slice none 0 0,.slice none 0 0] 29 (0,0))):=⟨by (with_reducible repeat (first|refine aG ?_ _|refine aH ?_|refine aE ?_ _));refine aV ?_ (by have h_:=Kd.N_away HO204.out (fun k_ hk=>(by first|exact hk.1.2|exact hk.1.1.2|exact hk.1.1.2.1|exact hk.1.1.2.2|exact hk.1.1.2.2.1|exact hk.1.1.2.2.2|exact hk.1.2.1|exact hk.1.2.2|exact hk.1.2.2.1|exact hk.1.2.2.2|exact hk.1.2.2.2.1|exact hk.1.2.2.2.2:k_ ≠ gb198));intro e_;exact h_ (by rw [e_];rfl)) _;(with_reducible repeat (first|refine aG ?_ _|refine aH ?_|refine aE ?_ _));exact BK198.out⟩
     have n4_:aA ((w25.setCell ⟨go10,(a1:Int).toNat,none⟩ ((.slice Az_ t208.length cz_))).heap[gb205]? = some (.cells #[.slice Ao17 t199.length co17,.slice (some ⟨go10,0,none⟩) t202.length co21] 29 (0,0))):=⟨by (with_reducible repeat (first|refine aG ?_ _|refine aH ?_|refine aE ?_ _));refine aV ?_ (by have h_:=Kd.N_away HO204.out (fun k_ hk=>(by first|exact hk.1.2|exact hk.1.1.2|exact hk.1.1.2.1|exact hk.1.1.2.2|exact hk.1.1.2.2.1|exact hk.1.1.2.2.2|exact hk.1.2.1|exact hk.1.2.2|exact hk.1.2.2.1|exact hk.1.2.2.2|exact hk.1.2.2.2.1|exact hk.1.2.2.2.2:k_ ≠ gb205));intro e_;exact h_ (by rw [e_];rfl)) _;(with_reducible repeat (first|refine aG ?_ _|refine aH ?_|refine aE ?_ _));exact BK205.out⟩
     have n5_:aA (Below w.heap.size w (w25.setCell ⟨go10,(a1:Int).toNat,none⟩ ((.slice Az_ t208.length cz_)))):=⟨by repeat (first|(with_reducible first|exact HB.out|apply aK|apply aC|apply aJ|refine aD ?_ GB10.out|refine aD ?_ GE197.out|refine aD ?_ GE198.out|refine aD ?_ GE205.out)|exact HB.out)⟩
     (try clear HO201)
     (try clear HO204)
     (try clear BK197)
     (try clear BK198)
     (try clear BK205)
     (try clear HB)
     generalize (w25.setCell ⟨go10,(a1:Int).toNat,none⟩ ((.slice Az_ t208.length cz_))) = w27 at n0_ n1_ n2_ n3_ n4_ n5_ ⊢
     have HO201:=n0_
     have HO204:=n1_
     have BK197:=n2_
     have BK198:=n3_
     have BK205:=n4_
     have HB:=n5_
     clear n0_ n1_ n2_ n3_ n4_ n5_
     have hcz28_0:w27.cell? ⟨gb205,0,none⟩ = some (.slice Ao17 t199.length co17):=(aN BK205.out 0).trans rfl
     have hcz28_1:w27.cell? ⟨gb205,1,none⟩ = some (.slice (some ⟨go10,0,none⟩) t202.length co21):=(aN BK205.out 1).trans rfl
     have hfz28_0:=bH BK205.out 0
     have hfz28_1:=bH BK205.out 1
     have hcz29_0:w27.cell? ⟨gb198,0,none⟩ = some (.slice none 0 0):=(aN BK198.out 0).trans rfl
     have hcz29_1:w27.cell? ⟨gb198,1,none⟩ = some (.slice none 0 0):=(aN BK198.out 1).trans rfl
     have hfz29_0:=bH BK198.out 0
     have hfz29_1:=bH BK198.out 1
     try go_wp2
     refine bodyPost_ret (results_cell_row rfl _ _ gb198 29 #[.slice Ao17 t199.length co17,.slice (some ⟨go10,0,none⟩) t202.length co21] (0,0) _ rfl (by (with_reducible repeat (first|refine aG ?_ _|refine aH ?_|refine aE ?_ _));refine aT (cs:=#[.slice Ao17 t199.length co17,.slice none 0 0]) ?_ 1 _ rfl;(with_reducible repeat (first|refine aG ?_ _|refine aH ?_|refine aE ?_ _));refine aT (cs:=#[.slice none 0 0,.slice none 0 0]) ?_ 0 _ rfl;(with_reducible repeat (first|refine aG ?_ _|refine aH ?_|refine aE ?_ _));exact BK198.out) Try.underlying29 rfl tH) rfl ?_
     exact ⟨_,_,tC,by (with_reducible repeat (first|apply Kd.bC|apply Kd.bD|apply Kd.bG));exact Kd.bF (Kd.bJ (p:=⟨gb198,1,none⟩) (Kd.bJ (p:=⟨gb198,0,none⟩) (Kd.R_types HO201.out BK198.out tb) (fun _ hk=>hk.2) (.slice Ao17 t199.length co17)) (fun _ hk=>hk.2) (.slice (some ⟨go10,0,none⟩) t202.length co21)) (fun _ hk=>hk.1),by (with_reducible repeat (first|apply Kd.N_alloc|apply Kd.N_drewN|apply Kd.N_drew));exact Kd.N_mono (Kd.N_far (p:=⟨gb198,1,none⟩) (Kd.N_far (p:=⟨gb198,0,none⟩) (Kd.N_mono HO204.out (fun k_ hk=>(⟨hk,hk.2.2.2.1⟩:_ ∧ k_ ≠ gb198))) (fun _ hk=>hk.2) (.slice Ao17 t199.length co17)) (fun _ hk=>hk.2) (.slice (some ⟨go10,0,none⟩) t202.length co21)) (fun _ hk=>⟨hk.1.1,hk.1.2.1⟩),wD⟩
    ·rw [if_neg c9] at H
     exact vM
   ·rw [if_neg c7] at H
    exact vM
  ·rw [if_neg c6] at H
   exact vM
 ·replace c5:=Bool.eq_false_iff.mpr c5
  subst c5
  have H1:(some (t199,t202)) = some (r1,r2):=by rw [if_neg (show ¬ (false = true) by decide)] at H;exact H
  clear H
  have H:=H1
  clear H1
  simp only [Option.some.injEq,Prod.mk.injEq] at H
  obtain ⟨rfl,rfl⟩:=H
  go_enter Try.func9,Try.ntmps9
  go_wp2_with (first|((with_reducible refine aZ (N:=2) rfl ?_);refine bB ?hg (N:=2) ?hd (cs:=#[.slice A0_0 l0_0.length c0_0,.slice A0_1 l0_1.length c0_1]) (t:=29) ?hr ?_;(case hd=>rfl);(case hg=>rfl);(case hr=>exact tJ);intro gb197 hg w30 hbox hb;have n0_:=aA.mk (aQ tE hb);have n1_:=aA.mk (hbox);have n2_:=aA.mk ((by rw [hg];exact (aM tE):w.heap.size ≤ gb197));have n3_:=aA.mk ((by rw [hg];exact (aM tE):w.heap.size ≤ gb197));clear HB;have HB:=n0_;have BK197:=n1_;have GW197:=n2_;have GE197:=n3_;clear n0_ n1_ n2_ n3_;clear hb hbox hg)|((with_reducible refine aZ (N:=4) rfl ?_);refine bB ?hg (N:=4) ?hd (cs:=#[.slice none 0 0,.slice none 0 0]) (t:=29) ?hr ?_;(case hd=>rfl);(case hg=>rfl);(case hr=>exact tJ);intro gb198 hg w31 hbox hb;have n0_:=aA.mk (blk_below (g:=gb197) (o:=.cells #[.slice A0_0 l0_0.length c0_0,.slice A0_1 l0_1.length c0_1] 29 (0,0)) tR hb);have n1_:=aA.mk (aQ t8 hb);have n2_:=aA.mk (hbox);have n3_:=aA.mk ((by rw [hg];exact (aM t8):w.heap.size ≤ gb198));have n4_:=aA.mk ((by rw [hg];exact (aM t8):w.heap.size ≤ gb198));have n5_:=aA.mk ((by rw [hg];exact Nat.ne_of_lt (blk_lt (g:=gb197) (o:=.cells #[.slice A0_0 l0_0.length c0_0,.slice A0_1 l0_1.length c0_1] 29 (0,0)) tR):gb197 ≠ gb198));have n6_:=aA.mk ((by rw [hg];exact Nat.ne_of_gt (blk_lt (g:=gb197) (o:=.cells #[.slice A0_0 l0_0.length c0_0,.slice A0_1 l0_1.length c0_1] 29 (0,0)) tR):gb198 ≠ gb197));clear BK197;clear HB;have BK197:=n0_;have HB:=n1_;have BK198:=n2_;have GW198:=n3_;have GE198:=n4_;have NB197_198:=n5_;have NB198_197:=n6_;clear n0_ n1_ n2_ n3_ n4_ n5_ n6_;clear hb hbox hg;have hnb32:=NB197_198.out;have hnc32:=NB198_197.out;have hcz33_0:w31.cell? ⟨gb197,0,none⟩ = some (.slice A0_0 l0_0.length c0_0):=(aN BK197.out 0).trans rfl;have hcz33_1:w31.cell? ⟨gb197,1,none⟩ = some (.slice A0_1 l0_1.length c0_1):=(aN BK197.out 1).trans rfl;have hfz33_0:=bH BK197.out 0;have hfz33_1:=bH BK197.out 1)|((with_reducible refine aY (f:=31) rfl ?_);refine goesL_ (some 7) rfl rfl Try.func31 tH rfl #[.agg #[.slice A0_0 l0_0.length c0_0,.slice A0_1 l0_1.length c0_1]] rfl vL ?_;(with_reducible refine (impl_copyTree.calls k _ _ l0_0 _ _ l0_1 t199 t202 _ ?side1 ?side2 ?side3 ?side4 A3.out).mono ?_);(case side1=>repeat (first|exact (Kd.C_below HR0_0.out HB.out)|(with_reducible refine Kd.C_alloc ?_ _)|(with_reducible refine Kd.C_drewN ?_ _)|(with_reducible refine Kd.C_drew ?_)));(case side2=>exact HC0_0.out);(case side3=>repeat (first|exact (Kd.C_below HR0_1.out HB.out)|(with_reducible refine Kd.C_alloc ?_ _)|(with_reducible refine Kd.C_drewN ?_ _)|(with_reducible refine Kd.C_drew ?_)));(case side4=>exact HC0_1.out);rintro e w34 ⟨v200,v203,rfl,ho0,ho1,hb⟩;refine ⟨_,rfl,?_⟩;have n0_:=aA.mk (Kd.R_lower (Kd.R_newM (M:=fun k_=>(w.heap.size ≤ k_)) ho0 (aM tK) (fun k_ h_=>h_)) (aM tK));have n1_:=aA.mk (Kd.N_lower (Kd.N_mono (ok':=fun k_=>(w.heap.size ≤ k_) ∧ some k_ ≠ (v200:Value).ownBlock ∧ k_ ≠ gb197 ∧ k_ ≠ gb198) (Kd.R_N (Kd.R_bound (Kd.R_apart' ho1 (Kd.R_typed ho0) tb))) (fun k_ hk_=>⟨(Nat.le_trans (aM tK) hk_.2.1),hk_.1.2,(Kd.freshB (g:=gb197) (o:=.cells #[.slice A0_0 l0_0.length c0_0,.slice A0_1 l0_1.length c0_1] 29 (0,0)) tR k_ hk_.2.1),(Kd.freshB (g:=gb198) (o:=.cells #[.slice none 0 0,.slice none 0 0] 29 (0,0)) ta k_ hk_.2.1)⟩)) (aM tK));have n2_:=aA.mk (blk_below (g:=gb197) (o:=.cells #[.slice A0_0 l0_0.length c0_0,.slice A0_1 l0_1.length c0_1] 29 (0,0)) tR hb);have n3_:=aA.mk (blk_below (g:=gb198) (o:=.cells #[.slice none 0 0,.slice none 0 0] 29 (0,0)) ta hb);have n4_:=aA.mk (aQ tK hb);clear BK197;clear BK198;clear HB;have HO201:=n0_;have HO204:=n1_;have BK197:=n2_;have BK198:=n3_;have HB:=n4_;clear n0_ n1_ n2_ n3_ n4_;(try clear hb);(try clear ho0);(try clear ho1))|((with_reducible refine aZ (N:=5) rfl ?_);refine bB ?hg (N:=5) ?hd (cs:=#[.slice none 0 0,.slice none 0 0]) (t:=29) ?hr ?_;(case hd=>rfl);(case hg=>rfl);(case hr=>exact tJ);intro gb205 hg w35 hbox hb;have n0_:=aA.mk (Kd.R_below wA hb);have n1_:=aA.mk (Kd.N_below (Kd.N_elderB vq gb205 (Nat.le_of_eq hg.symm)) hb);have n2_:=aA.mk (blk_below (g:=gb197) (o:=.cells #[.slice A0_0 l0_0.length c0_0,.slice A0_1 l0_1.length c0_1] 29 (0,0)) tR hb);have n3_:=aA.mk (blk_below (g:=gb198) (o:=.cells #[.slice none 0 0,.slice none 0 0] 29 (0,0)) ta hb);have n4_:=aA.mk (aQ tK hb);have n5_:=aA.mk (hbox);have n6_:=aA.mk ((by rw [hg];exact (aM tK):w.heap.size ≤ gb205));have n7_:=aA.mk ((by rw [hg];exact (aM tK):w.heap.size ≤ gb205));have n8_:=aA.mk ((by rw [hg];exact Nat.ne_of_lt (blk_lt (g:=gb197) (o:=.cells #[.slice A0_0 l0_0.length c0_0,.slice A0_1 l0_1.length c0_1] 29 (0,0)) tR):gb197 ≠ gb205));have n9_:=aA.mk ((by rw [hg];exact Nat.ne_of_gt (blk_lt (g:=gb197) (o:=.cells #[.slice A0_0 l0_0.length c0_0,.slice A0_1 l0_1.length c0_1] 29 (0,0)) tR):gb205 ≠ gb197));have n10_:=aA.mk ((by rw [hg];exact Nat.ne_of_lt (blk_lt (g:=gb198) (o:=.cells #[.slice none 0 0,.slice none 0 0] 29 (0,0)) ta):gb198 ≠ gb205));have n11_:=aA.mk ((by rw [hg];exact Nat.ne_of_gt (blk_lt (g:=gb198) (o:=.cells #[.slice none 0 0,.slice none 0 0] 29 (0,0)) ta):gb205 ≠ gb198));clear HO201;clear HO204;clear BK197;clear BK198;clear HB;have HO201:=n0_;have HO204:=n1_;have BK197:=n2_;have BK198:=n3_;have HB:=n4_;have BK205:=n5_;have GW205:=n6_;have GE205:=n7_;have NB197_205:=n8_;have NB205_197:=n9_;have NB198_205:=n10_;have NB205_198:=n11_;clear n0_ n1_ n2_ n3_ n4_ n5_ n6_ n7_ n8_ n9_ n10_ n11_;clear hb hbox hg;obtain ⟨Ao36,co36,eo36⟩:=Kd.R_slice HO201.out;subst eo36;have hnb37:=NB205_197.out;have hnc37:=NB197_205.out;have hnb38:=NB205_198.out;have hnc38:=NB198_205.out;have hcz39_0:w35.cell? ⟨gb205,0,none⟩ = some (.slice none 0 0):=(aN BK205.out 0).trans rfl;have hcz39_1:w35.cell? ⟨gb205,1,none⟩ = some (.slice none 0 0):=(aN BK205.out 1).trans rfl;have hfz39_0:=bH BK205.out 0;have hfz39_1:=bH BK205.out 1;obtain ⟨Ao40,co40,eo40⟩:=Kd.N_slice HO204.out;subst eo40;have hcz41_0:w35.cell? ⟨gb197,0,none⟩ = some (.slice A0_0 l0_0.length c0_0):=(aN BK197.out 0).trans rfl;have hcz41_1:w35.cell? ⟨gb197,1,none⟩ = some (.slice A0_1 l0_1.length c0_1):=(aN BK197.out 1).trans rfl;have hfz41_0:=bH BK197.out 0;have hfz41_1:=bH BK197.out 1)|((with_reducible refine aY (f:=32) rfl ?_);refine goesL_ (some 13) rfl rfl Try.func32 tH rfl #[.int .i64 a1,.int .i64 0,.int .i64 (wrap64 ((l0_1.length:Int) - 1))] rfl vL ?_;(with_reducible refine (impl_within.calls a1 0 (wrap64 ((l0_1.length:Int) - 1)) false _ A4.out).mono ?_);rintro e w' ⟨rfl,⟨nd,rfl⟩⟩;refine ⟨_,rfl,?_⟩;have hcz42_0:w35.cell? ⟨gb198,0,none⟩ = some (.slice none 0 0):=(aN BK198.out 0).trans rfl;have hcz42_1:w35.cell? ⟨gb198,1,none⟩ = some (.slice none 0 0):=(aN BK198.out 1).trans rfl;have hfz42_0:=bH BK198.out 0;have hfz42_1:=bH BK198.out 1))
  refine bodyPost_ret (results_cell_row rfl _ _ gb198 29 #[.slice Ao36 t199.length co36,.slice Ao40 t202.length co40] (0,0) _ rfl (by (with_reducible repeat (first|refine aG ?_ _|refine aH ?_|refine aE ?_ _));refine aT (cs:=#[.slice Ao36 t199.length co36,.slice none 0 0]) ?_ 1 _ rfl;(with_reducible repeat (first|refine aG ?_ _|refine aH ?_|refine aE ?_ _));refine aT (cs:=#[.slice none 0 0,.slice none 0 0]) ?_ 0 _ rfl;(with_reducible repeat (first|refine aG ?_ _|refine aH ?_|refine aE ?_ _));refine aV ?_ NB198_205.out _;(with_reducible repeat (first|refine aG ?_ _|refine aH ?_|refine aE ?_ _));refine aV ?_ NB198_205.out _;(with_reducible repeat (first|refine aG ?_ _|refine aH ?_|refine aE ?_ _));exact BK198.out) Try.underlying29 rfl tH) rfl ?_
  exact ⟨_,_,tC,by (with_reducible repeat (first|apply Kd.bC|apply Kd.bD|apply Kd.bG));exact Kd.bF (Kd.bJ (p:=⟨gb198,1,none⟩) (Kd.bJ (p:=⟨gb198,0,none⟩) (Kd.bJ (p:=⟨gb205,1,none⟩) (Kd.bJ (p:=⟨gb205,0,none⟩) (Kd.R_types (Kd.R_types HO201.out BK205.out tb) BK198.out tb) (fun _ hk=>hk.1.2) (.slice Ao36 t199.length co36)) (fun _ hk=>hk.1.2) (.slice Ao40 t202.length co40)) (fun _ hk=>hk.2) (.slice Ao36 t199.length co36)) (fun _ hk=>hk.2) (.slice Ao40 t202.length co40)) (fun _ hk=>hk.1.1.1),by (with_reducible repeat (first|apply Kd.N_alloc|apply Kd.N_drewN|apply Kd.N_drew));exact Kd.N_mono (Kd.N_far (p:=⟨gb198,1,none⟩) (Kd.N_far (p:=⟨gb198,0,none⟩) (Kd.N_far (p:=⟨gb205,1,none⟩) (Kd.N_far (p:=⟨gb205,0,none⟩) (Kd.N_mono (Kd.N_mono HO204.out (fun k_ hk=>(⟨hk,hk.2⟩:_ ∧ k_ ≠ gb205))) (fun k_ hk=>(⟨hk,hk.1.1.2.2.2⟩:_ ∧ k_ ≠ gb198))) (fun _ hk=>hk.1.2) (.slice Ao36 t199.length co36)) (fun _ hk=>hk.1.2) (.slice Ao40 t202.length co40)) (fun _ hk=>hk.2) (.slice Ao36 t199.length co36)) (fun _ hk=>hk.2) (.slice Ao40 t202.length co40)) (fun _ hk=>⟨hk.1.1.1.1,hk.1.1.1.2.1⟩),wD⟩
def laws_big.f (l0:List Int):Option (Bool):=some (decide ((l0.length:Int) > 1048576))
set_option maxHeartbeats 8000000 in
set_option maxRecDepth 100000 in
theorem laws_big.calls (A0:Option Addr) (c0:Nat) (l0:List Int) (r:Bool) (w:World) (hr0:Kd.C (Kd.int .u8) w A0 l0.length l0) (hc0:l0.length ≤ c0) (h:laws_big.f l0 = some r) :
  Calls Try.prog 13 #[.slice A0 l0.length c0] w fun e w'=>e = .returned (.bool r) ∧ Drawn0 w w':=by
 have HR0:=aA.mk hr0
 have HC0:=aA.mk hc0
 clear hr0 hc0
 have H:(some (decide ((l0.length:Int) > 1048576))) = some r:=h
 clear h
 obtain rfl:=Option.some.inj H
 go_enter Try.func13,Try.ntmps13
 go_wp2
 go_ret
 exact tU
/-- A state of type 92 at block g of W; what its slices lead to came in by w0. -/
def IsS92 (w0 W:World) (g:Nat) (f0:List Int) (f1:Int) (f2:Int):Prop:=∃ A0 c0,W.heap[g]? = some (.cells #[.slice A0 f0.length c0,.int .i64 f1,.int .i64 f2] 92 (0,0)) ∧ w0.heap.size ≤ g ∧ Kd.C (Kd.int .u8) w0 A0 f0.length f0
theorem IsS92.grown {w0 W:World} {g:Nat} {f0:List Int} {f1:Int} {f2:Int} {W1:World} {row:Option Nat} (h:IsS92 w0 W g f0 f1 f2) (hw:W.grownBy W1 row) (hne:some g ≠ row):IsS92 w0 W1 g f0 f1 f2:=by
 obtain ⟨A0,c0,hb,hg,hr0⟩:=h
 exact ⟨A0,c0,blk_grown hb hw hne,hg,hr0⟩
theorem IsS92.fresh {w0 W:World} {g:Nat} {f0:List Int} {f1:Int} {f2:Int} (h:IsS92 w0 W g f0 f1 f2):∀ k,W.heap.size ≤ k → k ≠ g:=by
 obtain ⟨A0,c0,hb,hg,hr0⟩:=h
 exact Kd.freshB hb
theorem IsS92.kept {w0 W:World} {g:Nat} {f0:List Int} {f1:Int} {f2:Int} {W1:World} {S:Nat → Prop} (h:IsS92 w0 W g f0 f1 f2) (hk:Kept W W1 S) (hne:¬ S g):IsS92 w0 W1 g f0 f1 f2:=by
 obtain ⟨A0,c0,hb,hg,hr0⟩:=h
 exact ⟨A0,c0,blk_kept hb hk hne,hg,hr0⟩
theorem IsS92.below {w0 W:World} {g:Nat} {f0:List Int} {f1:Int} {f2:Int} {W1:World} (h:IsS92 w0 W g f0 f1 f2) (hw:Below W.heap.size W W1):IsS92 w0 W1 g f0 f1 f2:=h.grown (grown_of_below hw none) te
theorem IsS92.alloc {w0 W:World} {g:Nat} {f0:List Int} {f1:Int} {f2:Int} (h:IsS92 w0 W g f0 f1 f2) (o:Obj):IsS92 w0 (W.alloc o) g f0 f1 f2:=h.below (aK (Below.refl _ _) o)
theorem IsS92.drewN {w0 W:World} {g:Nat} {f0:List Int} {f1:Int} {f2:Int} (h:IsS92 w0 W g f0 f1 f2) (m:Nat):IsS92 w0 (W.drewN m) g f0 f1 f2:=h
theorem IsS92.drew {w0 W:World} {g:Nat} {f0:List Int} {f1:Int} {f2:Int} (h:IsS92 w0 W g f0 f1 f2):IsS92 w0 W.drew g f0 f1 f2:=h
theorem IsS92.at_ {w0 W:World} {g:Nat} {f0:List Int} {f1:Int} {f2:Int} {w':World} {m:Nat} (hq:W.drewN m = w') (h:IsS92 w0 W g f0 f1 f2):IsS92 w0 w' g f0 f1 f2:=by subst hq;exact IsS92.drewN h m
theorem IsS92.apart {w0 W:World} {g:Nat} {f0:List Int} {f1:Int} {f2:Int} {α:Type} {d:Kd α} {e:Nat} {base:Nat} {ok:Nat → Prop} {v:Value} {xs:List α} (h:IsS92 w0 W g f0 f1 f2) (ho:d.R e W base ok v xs) (ht:∀ q,q ∈ e :: d.E → q ≠ 92):d.R e W base (fun k=>ok k ∧ k ≠ g) v xs:=by
 obtain ⟨A0,c0,hb,hg,hr0⟩:=h
 exact Kd.R_types ho hb ht
theorem IsS92.own_ne {w0 W:World} {g:Nat} {f0:List Int} {f1:Int} {f2:Int} {α:Type} {d:Kd α} {e:Nat} {base:Nat} {ok:Nat → Prop} {v:Value} {xs:List α} (h:IsS92 w0 W g f0 f1 f2) (ho:d.R e W base ok v xs) (ht:e ≠ 92):some g ≠ v.ownBlock:=by
 obtain ⟨A0,c0,hb,hg,hr0⟩:=h
 exact Kd.R_ne ho hb ht
theorem IsS92.lt {w0 W:World} {g:Nat} {f0:List Int} {f1:Int} {f2:Int} (h:IsS92 w0 W g f0 f1 f2):g < W.heap.size:=by
 obtain ⟨A0,c0,hb,hg,hr0⟩:=h
 exact blk_lt hb
theorem IsS92.ge {w0 W:World} {g:Nat} {f0:List Int} {f1:Int} {f2:Int} (h:IsS92 w0 W g f0 f1 f2):w0.heap.size ≤ g:=by
 obtain ⟨A0,c0,hb,hg,hr0⟩:=h
 exact hg
theorem IsS92.ne_blk {w0 W:World} {g:Nat} {f0:List Int} {f1:Int} {f2:Int} {a:Nat} {cs:Array Value} {t:TypeId} {fr:Nat × Nat} (h:IsS92 w0 W g f0 f1 f2) (hb2:W.heap[a]? = some (.cells cs t fr)) (ht:t ≠ 92):g ≠ a:=by
 obtain ⟨A0,c0,hb,hg,hr0⟩:=h
 rintro rfl
 rw [hb] at hb2
 injection hb2 with hb2
 injection hb2 with _ ht2
 exact ht ht2.symm
theorem IsS92.far {w0 W:World} {g:Nat} {f0:List Int} {f1:Int} {f2:Int} {p:Addr} (h:IsS92 w0 W g f0 f1 f2) (hne:g ≠ p.block) (u:Value):IsS92 w0 (W.setCell p u) g f0 f1 f2:=by
 obtain ⟨A0,c0,hb,hg,hr0⟩:=h
 exact ⟨A0,c0,aV hb hne u,hg,hr0⟩
theorem cellS92_0 {W:World} {g:Nat} {A0:Option Addr} {c0:Nat} {f0:List Int} {f1:Int} {f2:Int} (h:W.heap[g]? = some (.cells #[.slice A0 f0.length c0,.int .i64 f1,.int .i64 f2] 92 (0,0))):W.cell? ⟨g,0,none⟩ = some (.slice A0 f0.length c0):=(aN h 0).trans rfl
theorem cellS92_1 {W:World} {g:Nat} {A0:Option Addr} {c0:Nat} {f0:List Int} {f1:Int} {f2:Int} (h:W.heap[g]? = some (.cells #[.slice A0 f0.length c0,.int .i64 f1,.int .i64 f2] 92 (0,0))):W.cell? ⟨g,1,none⟩ = some (.int .i64 f1):=(aN h 1).trans rfl
theorem IsS92.set_1 {w0 W:World} {g:Nat} {f0:List Int} {f1:Int} {f2:Int} (h:IsS92 w0 W g f0 f1 f2) (x:Int):IsS92 w0 (W.setCell ⟨g,1,none⟩ (.int .i64 x)) g f0 x f2:=by
 obtain ⟨A0,c0,hb,hg,hr0⟩:=h
 exact ⟨A0,c0,by simpa using blk_set hb 1 (.int .i64 x),hg,hr0⟩
theorem cellS92_2 {W:World} {g:Nat} {A0:Option Addr} {c0:Nat} {f0:List Int} {f1:Int} {f2:Int} (h:W.heap[g]? = some (.cells #[.slice A0 f0.length c0,.int .i64 f1,.int .i64 f2] 92 (0,0))):W.cell? ⟨g,2,none⟩ = some (.int .i64 f2):=(aN h 2).trans rfl
theorem IsS92.set_2 {w0 W:World} {g:Nat} {f0:List Int} {f1:Int} {f2:Int} (h:IsS92 w0 W g f0 f1 f2) (x:Int):IsS92 w0 (W.setCell ⟨g,2,none⟩ (.int .i64 x)) g f0 f1 x:=by
 obtain ⟨A0,c0,hb,hg,hr0⟩:=h
 exact ⟨A0,c0,by simpa using blk_set hb 2 (.int .i64 x),hg,hr0⟩
theorem IsS92.new (w0 W:World) (A0:Option Addr) (c0:Nat) (f0:List Int) (f1:Int) (f2:Int) (hB:Below w0.heap.size w0 W) (hr0:Kd.C (Kd.int .u8) w0 A0 f0.length f0):IsS92 w0 (W.alloc (.cells #[.slice A0 f0.length c0,.int .i64 f1,.int .i64 f2] 92)) W.heap.size f0 f1 f2:=⟨A0,c0,by simpa using heap_alloc_new W _,hB.size,hr0⟩
def spec_l1New.l0:Nat → List Int → Int → Int → Option (List Int × Int × Int)
 | 0,_,_,_=>none
 | k + 1,x0,x3,x4=>if x4 < (x0.length:Int) then (if x4 < 4000 then (if 0 ≤ x4 then (spec_l1New.l0 k x0 (Go.bits .and .i64 (wrap64 ((wrap64 ((wrap64 (x3 * 137)) + (wrap64 (rd x0 x4)))) + 11)) 1073741823) (wrap64 (x4 + 1))) else (none)) else (some (x0,0,x3))) else (some (x0,0,x3))
def spec_l1New.f (k:Nat) (l0:List Int):Option (List Int × Int × Int):=spec_l1New.l0 k l0 (wrap64 (941941 + (l0.length:Int))) 0
set_option maxHeartbeats 8000000 in
set_option maxRecDepth 100000 in
theorem spec_l1New.calls (k:Nat) (A0:Option Addr) (c0:Nat) (l0:List Int) (r1:List Int) (r2:Int) (r3:Int) (w0 w:World) (hB:Below w0.heap.size w0 w) (hr0:Kd.C (Kd.int .u8) w0 A0 l0.length l0) (hc0:l0.length ≤ c0) (h:spec_l1New.f k l0 = some (r1,r2,r3)) :
  Calls Try.prog 40 #[.slice A0 l0.length c0] w fun e w'=>∃ g_:Nat,e = .returned (.pointer (some ⟨g_,0,none⟩)) ∧ IsS92 w0 w' g_ r1 r2 r3 ∧ Below w0.heap.size w0 w' ∧ Below w.heap.size w w':=by
 have hu92:=Try.underlying92
 have HR0:=aA.mk hr0
 have HC0:=aA.mk hc0
 clear hr0 hc0
 have HBW:=aA.mk (Below.refl w.heap.size w)
 have HW0:=aA.mk hB.size
 have HB:=aA.mk hB
 clear hB
 have H:(spec_l1New.l0 k l0 (wrap64 (941941 + (l0.length:Int))) 0) = some (r1,r2,r3):=h
 clear h
 have H':=aA.mk H
 clear H
 go_enter Try.func40,Try.ntmps40
 go_wp2
 go_loopg [3,4] k (fun kq v3 v4 w'=>∃ (x3_1:Int) (x4_1:Int),v3 = .int .i64 x3_1 ∧ v4 = .int .i64 x4_1 ∧ aA (spec_l1New.l0 kq l0 x3_1 x4_1 = some (r1,r2,r3)) ∧ aA (kq ≤ k) ∧ aA (Below w0.heap.size w0 w') ∧ aA (Below w.heap.size w w'))
 case atStart=>exact ⟨(wrap64 (941941 + (l0.length:Int))),(0),tG,tG,H',⟨Nat.le_refl _⟩,⟨tj⟩,⟨by repeat (first|(with_reducible first|exact HBW.out|apply aK|apply aC|apply aJ)|exact HBW.out)⟩⟩
 case round =>
  clear H'
  obtain ⟨x3_1,x4_1,rfl,rfl,HA,HK1,HB,HBW⟩:=hrel
  cases gk with
  | zero=>exact absurd HA.out (by simp [spec_l1New.l0])
  | succ k1 =>
   have H:=HA.out
   clear HA
   simp only [spec_l1New.l0] at H
   by_cases c2:x4_1 < (l0.length:Int)
   ·rw [if_pos c2] at H
    have c2b0:decide (x4_1 < (l0.length:Int)) = true:=decide_eq_true c2
    clear c2
    by_cases c3:x4_1 < 4000
    ·rw [if_pos c3] at H
     have c3b0:decide (x4_1 < 4000) = true:=decide_eq_true c3
     clear c3
     by_cases c4:0 ≤ x4_1
     ·rw [if_pos c4] at H
      have c4b0:decide (0 ≤ x4_1) = true:=decide_eq_true c4
      clear c4
      have H':=aA.mk H
      clear H
      have p212:0 ≤ (x4_1:Int):=lE tF
      have q212:x4_1 < (l0.length:Int):=lE tF
      obtain ⟨ad212,e212,hx212_0⟩:=Kd.at_int HR0.out x4_1 p212 q212
      cases e212
      replace hx212_0:=pw_cell_below HB.out hx212_0
      replace p212:=eq_true p212
      replace q212:=eq_true q212
      go_wp2
      go_roundg k1
      case measure=>have:=HK1.out;omega
      case rel=>exact ⟨(Go.bits .and .i64 (wrap64 ((wrap64 ((wrap64 (x3_1 * 137)) + (wrap64 (rd l0 x4_1)))) + 11)) 1073741823),(wrap64 (x4_1 + 1)),tG,tG,H',⟨wX⟩,⟨tj⟩,⟨by repeat (first|(with_reducible first|exact HBW.out|apply aK|apply aC|apply aJ)|exact HBW.out)⟩⟩
     ·rw [if_neg c4] at H
      exact vM
    ·rw [if_neg c3] at H
     have c3b0:decide (x4_1 < 4000) = false:=decide_eq_false c3
     clear c3
     simp only [Option.some.injEq,Prod.mk.injEq] at H
     obtain ⟨rfl,rfl,rfl⟩:=H
     go_wp2_with (first|((with_reducible refine aZ (N:=31) rfl ?_);refine bB ?hg (N:=31) ?hd (cs:=#[.slice A0 l0.length c0,.int .i64 0,.int .i64 x3_1]) (t:=92) ?hr ?_;(case hd=>rfl);(case hg=>rfl);(case hr=>exact tJ);intro gb213 hg w5 hbox hb;replace HB:=aA.mk (aQ HB.out hb);have BK213:=aA.mk (hbox);have GW213:=aA.mk ((by rw [hg];exact (aM wR):w.heap.size ≤ gb213));have GE213:=aA.mk ((Nat.le_trans HW0.out (by rw [hg];exact (aM wR):w.heap.size ≤ gb213):w0.heap.size ≤ gb213));replace HBW:=aA.mk (aQ HBW.out hb);clear hb hbox hg))
     go_ret
     exact ⟨_,rfl,(show IsS92 w0 _ gb213 l0 0 x3_1 from ⟨_,_,by (with_reducible repeat (first|refine aG ?_ _|refine aH ?_|refine aE ?_ _));exact BK213.out,GE213.out,HR0.out⟩),by repeat (first|(with_reducible first|exact HB.out|apply aK|apply aC|apply aJ|refine aD ?_ GE213.out)|exact HB.out),by repeat (first|(with_reducible first|exact HBW.out|apply aK|apply aC|apply aJ|refine aD ?_ GW213.out)|exact HBW.out)⟩
   ·rw [if_neg c2] at H
    have c2b0:decide (x4_1 < (l0.length:Int)) = false:=decide_eq_false c2
    clear c2
    simp only [Option.some.injEq,Prod.mk.injEq] at H
    obtain ⟨rfl,rfl,rfl⟩:=H
    go_wp2_with (first|((with_reducible refine aZ (N:=31) rfl ?_);refine bB ?hg (N:=31) ?hd (cs:=#[.slice A0 l0.length c0,.int .i64 0,.int .i64 x3_1]) (t:=92) ?hr ?_;(case hd=>rfl);(case hg=>rfl);(case hr=>exact tJ);intro gb214 hg w6 hbox hb;replace HB:=aA.mk (aQ HB.out hb);have BK214:=aA.mk (hbox);have GW214:=aA.mk ((by rw [hg];exact (aM wR):w.heap.size ≤ gb214));have GE214:=aA.mk ((Nat.le_trans HW0.out (by rw [hg];exact (aM wR):w.heap.size ≤ gb214):w0.heap.size ≤ gb214));replace HBW:=aA.mk (aQ HBW.out hb);clear hb hbox hg))
    go_ret
    exact ⟨_,rfl,(show IsS92 w0 _ gb214 l0 0 x3_1 from ⟨_,_,by (with_reducible repeat (first|refine aG ?_ _|refine aH ?_|refine aE ?_ _));exact BK214.out,GE214.out,HR0.out⟩),by repeat (first|(with_reducible first|exact HB.out|apply aK|apply aC|apply aJ|refine aD ?_ GE214.out)|exact HB.out),by repeat (first|(with_reducible first|exact HBW.out|apply aK|apply aC|apply aJ|refine aD ?_ GW214.out)|exact HBW.out)⟩
end Go.Proofs.Ytamjbjkbineafaa.PFnPacked

namespace Go.Proofs.Ytamjbjkbineafaa.PFnPacked
open Go.RowKit Go.Proofs.YtamjbjkbineafaaW.PrintWords Go.Proofs.YtamjbjkbineafaaW.PrintLast Go.Proofs.YtamjbjkbineafaaW.PrintMore
attribute [local go_sem] max2_int min2_int max_two min_two max_three min_three max_four min_four   -- for this text's walks alone
set_option linter.unusedVariables false
set_option linter.unusedSimpArgs false
def spec_l5Copy.l0:Nat → Int → List (List (S38)) → List (List (S38)) → Option ((List (List (S38))))
 | 0,_,_,_=>none
 | k + 1,x4,x216000,x218000=>if x4 < (x216000.length:Int) then ((some (([]:List (S38)):List (S38))).bind fun y218=>(if 0 ≤ x4 then (if y218.length + (rd_L2 x216000 x4).length < 3518437208883 then (if x218000.length < 5864062014805 then (spec_l5Copy.l0 k (wrap64 (x4 + 1)) x216000 (x218000 ++ [(y218 ++ (rd_L2 x216000 x4))])) else (none)) else (none)) else (none))) else (some x218000)
def spec_l5Copy.f (k:Nat) (l0_0:List (List (S38))):Option ((List (List (S38)))):=spec_l5Copy.l0 k 0 l0_0 ([]:List (List (S38)))
theorem spec_l5Copy.mono_l:∀ k,(∀ y0 y1 y2,LeO (spec_l5Copy.l0 k y0 y1 y2) (spec_l5Copy.l0 (k + 1) y0 y1 y2))
 | 0=>fun _ _ _ r h=>by simp [spec_l5Copy.l0] at h
 | k + 1=>by
  have ih0:=spec_l5Copy.mono_l k
  ·intro y0 y1 y2
   unfold spec_l5Copy.l0
   repeat' first
   | (with_reducible exact ih0 _ _ _)
   | (with_reducible exact LeO.refl _)
   | (with_reducible exact LeO.none _)
   | (with_reducible refine LeO.ite ?_ ?_)
   | (with_reducible refine LeO.bind ?_ (fun _=>?_))
   | exact ih0 _ _ _
   | exact LeO.none _
   | refine LeO.ite ?_ ?_
   | refine LeO.bind ?_ (fun _=>?_)
theorem spec_l5Copy.mono:∀ a0 k,LeO (spec_l5Copy.f k a0) (spec_l5Copy.f (k + 1) a0):=by
 intro a0 k
 have ih0:=spec_l5Copy.mono_l k
 unfold spec_l5Copy.f
 repeat' first
   | (with_reducible exact ih0 _ _ _)
   | (with_reducible exact LeO.refl _)
   | (with_reducible exact LeO.none _)
   | (with_reducible refine LeO.ite ?_ ?_)
   | (with_reducible refine LeO.bind ?_ (fun _=>?_))
   | exact ih0 _ _ _
   | exact LeO.none _
   | refine LeO.ite ?_ ?_
   | refine LeO.bind ?_ (fun _=>?_)
def spec_l5Copy.T5:Bool × List (List Nat × List Nat):=(true,[([],[]),([0],[0]),([],[]),([],[]),([3],[3]),([],[]),([4,5],[4,5]),([6],[6]),([2,7],[2,7]),([8],[8]),([1,9,8],[1,9]),([0,1,2,3,4,5,6,7,8,9,10],[]),([11,10,10,0,1,2,3,4,5,6,7,8,9,10],[10,11])])
def spec_l5Copy.B5:List Nat:=[0,1,0,0,8,0,56,120,252,508,1023,2047,4095]
def spec_l6Copy.l0:Nat → Int → List Int → List (S59) → List Int → List (S59) → Option (List Int × (List (S59)))
 | 0,_,_,_,_,_=>none
 | k + 1,x4,x229000,x229001,x237000,x237001=>if x4 < (x229001.length:Int) then (if 0 ≤ x4 then ((spec_l5Copy.f k ((rd_T59 x229001 x4).f0)).bind fun t238=>(if x237001.length < 5864062014805 then (spec_l6Copy.l0 k (wrap64 (x4 + 1)) x229000 x229001 x237000 (x237001 ++ [(⟨t238⟩:S59)])) else (none))) else (none)) else (some (x237000,x237001))
def spec_l6Copy.f (k:Nat) (l0_0:List Int) (l0_1:List (S59)):Option (List Int × (List (S59))):=(some (([]:List Int):List Int)).bind fun y230=>(if y230.length + l0_0.length < 17592186044416 then (spec_l6Copy.l0 k 0 l0_0 l0_1 (y230 ++ l0_0) ([]:List (S59))) else (none))
def spec_l6Copy.T5:Bool × List (List Nat × List Nat):=(true,[([],[]),([0],[0]),([],[]),([2],[2]),([],[]),([3,4],[3,4]),([5],[5]),([6],[6]),([7],[7]),([1,8,7],[1,8]),([0,1,2,3,4,5,6,7,8,9],[]),([10,9,9,0,1,2,3,4,5,6,7,8,9],[9,10])])
def spec_l6Copy.B5:List Nat:=[0,1,0,4,0,28,60,124,252,511,1023,2047]
def spec_l1In.f (a0:Int) (a1:Int) (a2:Int):Option (Bool):=if a0 ≥ a1 then (some (decide (a0 ≤ a2))) else (some false)
end Go.Proofs.Ytamjbjkbineafaa.PFnPacked

namespace Go.Proofs.Ytamjbjkbineafaa.PFnPacked
open Go.RowKit Go.Proofs.YtamjbjkbineafaaW.PrintWords Go.Proofs.YtamjbjkbineafaaW.PrintLast Go.Proofs.YtamjbjkbineafaaW.PrintMore
attribute [local go_sem] max2_int min2_int max_two min_two max_three min_three max_four min_four   -- for this text's walks alone
set_option linter.unusedVariables false
set_option linter.unusedSimpArgs false
def spec_Drop.l0:Nat → List (S38) → List (S38) → Int → Option ((List (S38)))
 | 0,_,_,_=>none
 | k + 1,x0,x3,x4=>if x4 < (x0.length:Int) then (if 0 ≤ x4 then (if ((rd_T38 x0 x4).f2) = 0 then (spec_Drop.l0 k x0 x3 (wrap64 (x4 + 1))) else (if x3.length < 3518437208883 then (spec_Drop.l0 k x0 (x3 ++ [(⟨(rd_T38 x0 x4).f0,(rd_T38 x0 x4).f1,(rd_T38 x0 x4).f2,(rd_T38 x0 x4).f3,(rd_T38 x0 x4).f4⟩:S38)]) (wrap64 (x4 + 1))) else (none))) else (none)) else (some x3)
def spec_Drop.f (k:Nat) (l0:List (S38)):Option ((List (S38))):=spec_Drop.l0 k l0 (([]:List (S38))) 0
def spec_LessKey.f (a0_0:Int) (a0_1:Int) (a0_2:Int) (a0_3:Int) (a0_4:Int) (a1_0:Int) (a1_1:Int) (a1_2:Int) (a1_3:Int) (a1_4:Int):Option (Bool):=if a0_0 = a1_0 then (some (decide (a0_1 < a1_1))) else (some (decide (a0_0 < a1_0)))
def spec_SameSpot.f (a0_0:Int) (a0_1:Int) (a0_2:Int) (a0_3:Int) (a0_4:Int) (a1_0:Int) (a1_1:Int) (a1_2:Int) (a1_3:Int) (a1_4:Int):Option (Bool):=if a0_0 = a1_0 then (some (a0_1 == a1_1)) else (some false)
end Go.Proofs.Ytamjbjkbineafaa.PFnPacked

namespace Go.Proofs.Ytamjbjkbineafaa.PFnPacked
open Go.RowKit Go.Proofs.YtamjbjkbineafaaW.PrintWords Go.Proofs.YtamjbjkbineafaaW.PrintLast Go.Proofs.YtamjbjkbineafaaW.PrintMore
attribute [local go_sem] max2_int min2_int max_two min_two max_three min_three max_four min_four   -- for this text's walks alone
set_option linter.unusedVariables false
set_option linter.unusedSimpArgs false
mutual
def spec_SetPut.l0:Nat → List (S38) → List (S38) → Bool → Int → Int → Int → Int → Int → Int → Option ((List (S38)))
 | 0,_,_,_,_,_,_,_,_,_=>none
 | k + 1,x0,x5,x6,x7,x257000,x257001,x257002,x257003,x257004=>if x7 < (x0.length:Int) then (if x6 = true then (spec_SetPut.j1 k x0 x5 x6 x7 false x257000 x257001 x257002 x257003 x257004) else (if 0 ≤ x7 then ((spec_LessKey.f ((rd_T38 x0 x7).f0) ((rd_T38 x0 x7).f1) ((rd_T38 x0 x7).f2) ((rd_T38 x0 x7).f3) ((rd_T38 x0 x7).f4) x257000 x257001 x257002 x257003 x257004).bind fun t264=>(spec_SetPut.j1 k x0 x5 x6 x7 (!t264) x257000 x257001 x257002 x257003 x257004)) else (none))) else (if x6 = true then (some x5) else (if x5.length < 3518437208883 then (some (x5 ++ [(⟨x257000,x257001,x257002,x257003,x257004⟩:S38)])) else (none)))
def spec_SetPut.j1:Nat → List (S38) → List (S38) → Bool → Int → Bool → Int → Int → Int → Int → Int → Option ((List (S38)))
 | 0,_,_,_,_,_,_,_,_,_,_=>none
 | k + 1,x0,x5,x6,x7,x25,x257000,x257001,x257002,x257003,x257004=>if x25 = true then (if x5.length < 3518437208883 then ((some (x5 ++ [(⟨x257000,x257001,x257002,x257003,x257004⟩:S38)]:List (S38))).bind fun y265=>(if 0 ≤ x7 then (if x7 < (x0.length:Int) then ((spec_SameSpot.f ((rd_T38 x0 x7).f0) ((rd_T38 x0 x7).f1) ((rd_T38 x0 x7).f2) ((rd_T38 x0 x7).f3) ((rd_T38 x0 x7).f4) x257000 x257001 x257002 x257003 x257004).bind fun t269=>(if t269 = true then (spec_SetPut.l0 k x0 y265 true (wrap64 (x7 + 1)) x257000 x257001 x257002 x257003 x257004) else (if y265.length < 3518437208883 then (spec_SetPut.l0 k x0 (y265 ++ [(⟨(rd_T38 x0 x7).f0,(rd_T38 x0 x7).f1,(rd_T38 x0 x7).f2,(rd_T38 x0 x7).f3,(rd_T38 x0 x7).f4⟩:S38)]) true (wrap64 (x7 + 1)) x257000 x257001 x257002 x257003 x257004) else (none)))) else (none)) else (none))) else (none)) else (if 0 ≤ x7 then (if x7 < (x0.length:Int) then ((spec_SameSpot.f ((rd_T38 x0 x7).f0) ((rd_T38 x0 x7).f1) ((rd_T38 x0 x7).f2) ((rd_T38 x0 x7).f3) ((rd_T38 x0 x7).f4) x257000 x257001 x257002 x257003 x257004).bind fun t275=>(if t275 = true then (spec_SetPut.l0 k x0 x5 x6 (wrap64 (x7 + 1)) x257000 x257001 x257002 x257003 x257004) else (if x5.length < 3518437208883 then (spec_SetPut.l0 k x0 (x5 ++ [(⟨(rd_T38 x0 x7).f0,(rd_T38 x0 x7).f1,(rd_T38 x0 x7).f2,(rd_T38 x0 x7).f3,(rd_T38 x0 x7).f4⟩:S38)]) x6 (wrap64 (x7 + 1)) x257000 x257001 x257002 x257003 x257004) else (none)))) else (none)) else (none))
end
def spec_SetPut.f (k:Nat) (l0:List (S38)) (a1_0:Int) (a1_1:Int) (a1_2:Int) (a1_3:Int) (a1_4:Int):Option ((List (S38))):=spec_SetPut.l0 k l0 (([]:List (S38))) false 0 a1_0 a1_1 a1_2 a1_3 a1_4
def spec_SetPut.T6:Bool × List (List Nat × List Nat):=(true,[([],[]),([0],[0]),([1],[1]),([2],[2]),([2],[2]),([3,4,2],[2,3,4]),([5,2],[2,5]),([2],[2]),([6,7,2,2],[2,6,7]),([8,2],[2,8]),([2,9],[2,9])])
def spec_SetPut.B6:List Nat:=[0,1,3,7,7,31,63,7,255,511,1023]
end Go.Proofs.Ytamjbjkbineafaa.PFnPacked

namespace Go.Proofs.Ytamjbjkbineafaa.PFnPacked
open Go.RowKit Go.Proofs.YtamjbjkbineafaaW.PrintWords Go.Proofs.YtamjbjkbineafaaW.PrintLast Go.Proofs.YtamjbjkbineafaaW.PrintMore
attribute [local go_sem] max2_int min2_int max_two min_two max_three min_three max_four min_four   -- for this text's walks alone
set_option linter.unusedVariables false
set_option linter.unusedSimpArgs false
def spec_MergeSets.l0:Nat → List (S38) → List (S38) → Int → Option ((List (S38)))
 | 0,_,_,_=>none
 | k + 1,x1,x5,x6=>if x6 < (x1.length:Int) then (if 0 ≤ x6 then ((spec_SetPut.f k x5 ((rd_T38 x1 x6).f0) ((rd_T38 x1 x6).f1) ((rd_T38 x1 x6).f2) ((rd_T38 x1 x6).f3) ((rd_T38 x1 x6).f4)).bind fun t287=>(spec_MergeSets.l0 k x1 t287 (wrap64 (x6 + 1)))) else (none)) else (some x5)
def spec_MergeSets.f (k:Nat) (l0:List (S38)) (l1:List (S38)):Option ((List (S38))):=(some (([]:List (S38)):List (S38))).bind fun y280=>(if y280.length + l0.length < 3518437208883 then (spec_MergeSets.l0 k l1 (y280 ++ l0) 0) else (none))
def spec_NodeKeys.l0:Nat → List (S38) → Int → List (List (S38)) → Option ((List (S38)))
 | 0,_,_,_=>none
 | k + 1,x3,x4,x291000=>if x4 < (x291000.length:Int) then (if 0 ≤ x4 then ((spec_MergeSets.f k x3 (rd_L2 x291000 x4)).bind fun t295=>(spec_NodeKeys.l0 k t295 (wrap64 (x4 + 1)) x291000)) else (none)) else ((spec_Drop.f k x3).bind fun t298=>(some t298))
def spec_NodeKeys.f (k:Nat) (l0_0:List (List (S38))):Option ((List (S38))):=spec_NodeKeys.l0 k (([]:List (S38))) 0 l0_0
def spec_SpotOf.f (a0:Int) (a1:Int):Option (Int):=some (wrap64 ((wrap64 (64 * a0)) + a1))
def spec_l6Spot.f (a0_0:Int) (a0_1:Int) (a0_2:Int) (a0_3:Int) (a0_4:Int):Option (Int):=(spec_SpotOf.f a0_0 a0_1).bind fun t302=>(some t302)
def spec_KeyOk.j0:Nat → Bool → Int → Int → Int → Int → Int → Option (Bool)
 | 0,_,_,_,_,_,_=>none
 | k + 1,x18,x304000,x304001,x304002,x304003,x304004=>if x18 = true then (some false) else (if x304002 = 1 then ((spec_l1In.f x304003 0 23).bind fun t307=>(if t307 = true then ((spec_l1In.f x304004 0 999).bind fun t308=>(some t308)) else (some false))) else (if x304003 = 0 then (some (x304004 == 0)) else (some false)))
def spec_KeyOk.f (k:Nat) (a0_0:Int) (a0_1:Int) (a0_2:Int) (a0_3:Int) (a0_4:Int):Option (Bool):=(spec_l1In.f a0_0 0 15).bind fun t304=>(if t304 = true then ((spec_l1In.f a0_1 1 60).bind fun t305=>(if t305 = true then ((spec_l1In.f a0_2 0 2).bind fun t306=>(spec_KeyOk.j0 k (!t306) a0_0 a0_1 a0_2 a0_3 a0_4)) else (spec_KeyOk.j0 k true a0_0 a0_1 a0_2 a0_3 a0_4))) else (spec_KeyOk.j0 k true a0_0 a0_1 a0_2 a0_3 a0_4))
end Go.Proofs.Ytamjbjkbineafaa.PFnPacked

namespace Go.Proofs.Ytamjbjkbineafaa.PFnPacked
open Go.RowKit Go.Proofs.YtamjbjkbineafaaW.PrintWords Go.Proofs.YtamjbjkbineafaaW.PrintLast Go.Proofs.YtamjbjkbineafaaW.PrintMore
attribute [local go_sem] max2_int min2_int max_two min_two max_three min_three max_four min_four   -- for this text's walks alone
set_option linter.unusedVariables false
set_option linter.unusedSimpArgs false
def spec_l4Rises.l0:Nat → List (S38) → Int → Option (Bool)
 | 0,_,_=>none
 | k + 1,x0,x3=>if x3 < (x0.length:Int) then (if 0 ≤ (wrap64 (x3 - 1)) then (if (wrap64 (x3 - 1)) < (x0.length:Int) then (if 0 ≤ x3 then ((spec_LessKey.f ((rd_T38 x0 (wrap64 (x3 - 1))).f0) ((rd_T38 x0 (wrap64 (x3 - 1))).f1) ((rd_T38 x0 (wrap64 (x3 - 1))).f2) ((rd_T38 x0 (wrap64 (x3 - 1))).f3) ((rd_T38 x0 (wrap64 (x3 - 1))).f4) ((rd_T38 x0 x3).f0) ((rd_T38 x0 x3).f1) ((rd_T38 x0 x3).f2) ((rd_T38 x0 x3).f3) ((rd_T38 x0 x3).f4)).bind fun t311=>(if t311 = true then (spec_l4Rises.l0 k x0 (wrap64 (x3 + 1))) else (some false))) else (none)) else (none)) else (none)) else (some true)
def spec_l4Rises.f (k:Nat) (l0:List (S38)):Option (Bool):=spec_l4Rises.l0 k l0 1
def spec_l4Rises.T4:Bool × List (List Nat × List Nat):=(true,[([],[]),([],[]),([1],[1]),([0,2],[0,2]),([3],[3]),([],[]),([],[]),([5,6],[5,6]),([7],[7]),([4,8],[4,8]),([9],[9])])
def spec_l4Rises.B4:List Nat:=[0,0,2,7,15,0,0,96,224,511,1023]
def spec_SetOk.l0:Nat → List (S38) → Int → Option (Bool)
 | 0,_,_=>none
 | k + 1,x0,x3=>if x3 < (x0.length:Int) then (if 0 ≤ x3 then ((spec_KeyOk.f k ((rd_T38 x0 x3).f0) ((rd_T38 x0 x3).f1) ((rd_T38 x0 x3).f2) ((rd_T38 x0 x3).f3) ((rd_T38 x0 x3).f4)).bind fun t313=>(if t313 = true then (spec_SetOk.l0 k x0 (wrap64 (x3 + 1))) else (some false))) else (none)) else ((spec_l4Rises.f k x0).bind fun t314=>(if t314 = true then (some (decide ((x0.length:Int) ≤ 60))) else (some false)))
def spec_SetOk.f (k:Nat) (l0:List (S38)):Option (Bool):=spec_SetOk.l0 k l0 0
def spec_l5Count.l0:Nat → Int → Int → List (List (S38)) → Option (Int)
 | 0,_,_,_=>none
 | k + 1,x3,x4,x316000=>if x4 < (x316000.length:Int) then (if 0 ≤ x4 then (spec_l5Count.l0 k (wrap64 (x3 + ((rd_L2 x316000 x4).length:Int))) (wrap64 (x4 + 1)) x316000) else (none)) else (some x3)
def spec_l5Count.f (k:Nat) (l0_0:List (List (S38))):Option (Int):=spec_l5Count.l0 k 0 0 l0_0
def spec_NodeOk.l0:Nat → Int → List (List (S38)) → Option (Bool)
 | 0,_,_=>none
 | k + 1,x3,x318000=>if x3 < (x318000.length:Int) then (if 0 ≤ x3 then ((spec_SetOk.f k (rd_L2 x318000 x3)).bind fun t319=>(if t319 = true then (if ((rd_L2 x318000 x3).length:Int) = 0 then (some false) else (spec_NodeOk.l0 k (wrap64 (x3 + 1)) x318000)) else (some false))) else (none)) else (if (x318000.length:Int) ≤ 3 then ((spec_l5Count.f k x318000).bind fun t321=>(some (decide (t321 ≤ 8)))) else (some false))
def spec_NodeOk.f (k:Nat) (l0_0:List (List (S38))):Option (Bool):=spec_NodeOk.l0 k 0 l0_0
end Go.Proofs.Ytamjbjkbineafaa.PFnPacked

namespace Go.Proofs.Ytamjbjkbineafaa.PFnPacked
open Go.RowKit Go.Proofs.YtamjbjkbineafaaW.PrintWords Go.Proofs.YtamjbjkbineafaaW.PrintLast Go.Proofs.YtamjbjkbineafaaW.PrintMore
attribute [local go_sem] max2_int min2_int max_two min_two max_three min_three max_four min_four   -- for this text's walks alone
set_option linter.unusedVariables false
set_option linter.unusedSimpArgs false
mutual
def spec_l6Node.j0:Nat → Int → Bool → List Int → List (S59) → List (List (S38)) → Option (Bool)
 | 0,_,_,_,_,_=>none
 | k + 1,x1,x26,x323000,x323001,x325000=>if x26 = true then (some false) else (spec_l6Node.l0 k x1 0 x323000 x323001 x325000)
def spec_l6Node.l0:Nat → Int → Int → List Int → List (S59) → List (List (S38)) → Option (Bool)
 | 0,_,_,_,_,_=>none
 | k + 1,x1,x6,x323000,x323001,x325000=>if x6 < (x325000.length:Int) then (spec_l6Node.l1 k x1 x6 0 x323000 x323001 x325000) else (some true)
def spec_l6Node.l1:Nat → Int → Int → Int → List Int → List (S59) → List (List (S38)) → Option (Bool)
 | 0,_,_,_,_,_,_=>none
 | k + 1,x1,x6,x7,x323000,x323001,x325000=>if 0 ≤ x6 then (if x6 < (x325000.length:Int) then (if x7 < ((rd_L2 x325000 x6).length:Int) then (if 0 ≤ x7 then ((spec_l6Spot.f ((rd_T38 (rd_L2 x325000 x6) x7).f0) ((rd_T38 (rd_L2 x325000 x6) x7).f1) ((rd_T38 (rd_L2 x325000 x6) x7).f2) ((rd_T38 (rd_L2 x325000 x6) x7).f3) ((rd_T38 (rd_L2 x325000 x6) x7).f4)).bind fun t332=>(if 0 ≤ x1 then (if x1 < (x323000.length:Int) then (if t332 < (rd x323000 x1) then (some false) else (if (wrap64 (x1 + 1)) < (x323000.length:Int) then (if 0 ≤ (wrap64 (x1 + 1)) then (if t332 ≥ (rd x323000 (wrap64 (x1 + 1))) then (some false) else (spec_l6Node.l1 k x1 x6 (wrap64 (x7 + 1)) x323000 x323001 x325000)) else (none)) else (spec_l6Node.l1 k x1 x6 (wrap64 (x7 + 1)) x323000 x323001 x325000))) else (none)) else (none))) else (none)) else (spec_l6Node.l0 k x1 (wrap64 (x6 + 1)) x323000 x323001 x325000)) else (none)) else (none)
end
def spec_l6Node.f (k:Nat) (l0_0:List Int) (l0_1:List (S59)) (a1:Int):Option (Bool):=if 0 ≤ a1 then (if a1 < (l0_1.length:Int) then ((spec_NodeOk.f k ((rd_T59 l0_1 a1).f0)).bind fun t325=>(if t325 = true then (if a1 > 0 then ((spec_NodeKeys.f k ((rd_T59 l0_1 a1).f0)).bind fun t326=>(spec_l6Node.j0 k a1 ((t326.length:Int) == 0) l0_0 l0_1 ((rd_T59 l0_1 a1).f0))) else (spec_l6Node.j0 k a1 false l0_0 l0_1 ((rd_T59 l0_1 a1).f0))) else (spec_l6Node.j0 k a1 true l0_0 l0_1 ((rd_T59 l0_1 a1).f0)))) else (none)) else (none)
def spec_TreeKeys.l0:Nat → List (S38) → Int → List Int → List (S59) → Option ((List (S38)))
 | 0,_,_,_,_=>none
 | k + 1,x3,x4,x336000,x336001=>if x4 < (x336001.length:Int) then (if 0 ≤ x4 then ((spec_NodeKeys.f k ((rd_T59 x336001 x4).f0)).bind fun t340=>(if x3.length + t340.length < 3518437208883 then (spec_TreeKeys.l0 k (x3 ++ t340) (wrap64 (x4 + 1)) x336000 x336001) else (none))) else (none)) else (some x3)
def spec_TreeKeys.f (k:Nat) (l0_0:List Int) (l0_1:List (S59)):Option ((List (S38))):=spec_TreeKeys.l0 k (([]:List (S38))) 0 l0_0 l0_1
end Go.Proofs.Ytamjbjkbineafaa.PFnPacked

namespace Go.Proofs.Ytamjbjkbineafaa.PFnPacked
open Go.RowKit Go.Proofs.YtamjbjkbineafaaW.PrintWords Go.Proofs.YtamjbjkbineafaaW.PrintLast Go.Proofs.YtamjbjkbineafaaW.PrintMore
attribute [local go_sem] max2_int min2_int max_two min_two max_three min_three max_four min_four   -- for this text's walks alone
set_option linter.unusedVariables false
set_option linter.unusedSimpArgs false
mutual
def spec_TreeOk.j0:Nat → Bool → List Int → List (S59) → Option (Bool)
 | 0,_,_,_=>none
 | k + 1,x24,x347000,x347001=>if x24 = true then (some false) else (spec_TreeOk.l0 k 0 x347000 x347001)
def spec_TreeOk.l0:Nat → Int → List Int → List (S59) → Option (Bool)
 | 0,_,_,_=>none
 | k + 1,x3,x347000,x347001=>if x3 < (x347001.length:Int) then (if x3 > 0 then (if 0 ≤ (wrap64 (x3 - 1)) then (if (wrap64 (x3 - 1)) < (x347000.length:Int) then (if 0 ≤ x3 then (if x3 < (x347000.length:Int) then (if (rd x347000 (wrap64 (x3 - 1))) ≥ (rd x347000 x3) then (some false) else ((spec_l6Node.f k x347000 x347001 x3).bind fun t351=>(if t351 = true then (spec_TreeOk.l0 k (wrap64 (x3 + 1)) x347000 x347001) else (some false)))) else (none)) else (none)) else (none)) else (none)) else ((spec_l6Node.f k x347000 x347001 x3).bind fun t352=>(if t352 = true then (spec_TreeOk.l0 k (wrap64 (x3 + 1)) x347000 x347001) else (some false)))) else ((spec_TreeKeys.f k x347000 x347001).bind fun t353=>(some (decide ((t353.length:Int) ≤ 60))))
end
def spec_TreeOk.f (k:Nat) (l0_0:List Int) (l0_1:List (S59)):Option (Bool):=(spec_l1In.f (l0_1.length:Int) 1 20).bind fun t347=>(if t347 = true then (if (l0_0.length:Int) = (l0_1.length:Int) then (if 0 < (l0_0.length:Int) then (spec_TreeOk.j0 k ((rd l0_0 0) != 0) l0_0 l0_1) else (none)) else (spec_TreeOk.j0 k true l0_0 l0_1)) else (spec_TreeOk.j0 k true l0_0 l0_1))
def spec_TreeOk.T6:Bool × List (List Nat × List Nat):=(true,[([],[]),([0],[0]),([1],[1]),([2],[2]),([3,2],[2,3]),([2],[2]),([5,2],[2,5]),([4,6,2],[2,4,6]),([7,2],[2,7]),([2],[2]),([9,2],[2,9]),([2],[2]),([10,11,2],[2,10,11]),([12,2],[2,12]),([8,13,2],[2,8,13]),([2,14],[2,14]),([15,2],[15]),([16],[16]),([16],[16]),([17,18,16,16],[16,17,18]),([19,16],[16,19]),([16,20],[16,20])])
def spec_TreeOk.B6:List Nat:=[0,1,3,7,15,7,39,127,255,7,519,7,3591,7687,16383,32767,65535,131071,131071,524287,1048575,2097151]
end Go.Proofs.Ytamjbjkbineafaa.PFnPacked

namespace Go.Proofs.Ytamjbjkbineafaa.PFnPacked
open Go.RowKit Go.Proofs.YtamjbjkbineafaaW.PrintWords Go.Proofs.YtamjbjkbineafaaW.PrintLast Go.Proofs.YtamjbjkbineafaaW.PrintMore
attribute [local go_sem] max2_int min2_int max_two min_two max_three min_three max_four min_four   -- for this text's walks alone
set_option linter.unusedVariables false
set_option linter.unusedSimpArgs false
def spec_WhereIn.l0:Nat → Int → Int → Int → Int → List Int → List (S59) → Option (Int)
 | 0,_,_,_,_,_,_=>none
 | k + 1,x1,x2,x7,x8,x357000,x357001=>if x8 < (x357000.length:Int) then (if 0 ≤ x8 then ((spec_SpotOf.f x1 x2).bind fun t358=>(if (rd x357000 x8) ≤ t358 then (spec_WhereIn.l0 k x1 x2 x8 (wrap64 (x8 + 1)) x357000 x357001) else (spec_WhereIn.l0 k x1 x2 x7 (wrap64 (x8 + 1)) x357000 x357001))) else (none)) else (some x7)
def spec_WhereIn.f (k:Nat) (l0_0:List Int) (l0_1:List (S59)) (a1:Int) (a2:Int):Option (Int):=spec_WhereIn.l0 k a1 a2 (-1) 0 l0_0 l0_1
def spec_NodeNew.f (l0:List (S38)):Option ((List (List (S38)))):=if (l0.length:Int) = 0 then (some ([]:List (List (S38)))) else ((some (([]:List (S38)):List (S38))).bind fun y360=>(if y360.length + l0.length < 3518437208883 then (some (([(y360 ++ l0)]:List (List (S38))))) else (none)))
def spec_SetAt.l0:Nat → List (S38) → Int → Int → Int → Option (Int × Int × Int × Int × Int × Bool)
 | 0,_,_,_,_=>none
 | k + 1,x0,x1,x2,x8=>if x8 < (x0.length:Int) then (if 0 ≤ x8 then (if ((rd_T38 x0 x8).f0) = x1 then (if ((rd_T38 x0 x8).f1) = x2 then (some ((rd_T38 x0 x8).f0,(rd_T38 x0 x8).f1,(rd_T38 x0 x8).f2,(rd_T38 x0 x8).f3,(rd_T38 x0 x8).f4,true)) else (spec_SetAt.l0 k x0 x1 x2 (wrap64 (x8 + 1)))) else (spec_SetAt.l0 k x0 x1 x2 (wrap64 (x8 + 1)))) else (none)) else (some (0,0,0,0,0,false))
def spec_SetAt.f (k:Nat) (l0:List (S38)) (a1:Int) (a2:Int):Option (Int × Int × Int × Int × Int × Bool):=spec_SetAt.l0 k l0 a1 a2 0
end Go.Proofs.Ytamjbjkbineafaa.PFnPacked

namespace Go.Proofs.Ytamjbjkbineafaa.PFnPacked
open Go.RowKit Go.Proofs.YtamjbjkbineafaaW.PrintWords Go.Proofs.YtamjbjkbineafaaW.PrintLast Go.Proofs.YtamjbjkbineafaaW.PrintMore
attribute [local go_sem] max2_int min2_int max_two min_two max_three min_three max_four min_four   -- for this text's walks alone
set_option linter.unusedVariables false
set_option linter.unusedSimpArgs false
mutual
def spec_NodePut.j0:Nat → Int → Bool → List (List (S38)) → Int → Int → Int → Int → Int → List (List (S38)) → Option ((List (List (S38))) × Bool)
 | 0,_,_,_,_,_,_,_,_,_=>none
 | k + 1,x7,x8,x362000,x363000,x363001,x363002,x363003,x363004,x368000=>if x7 ≥ 0 then (if 0 ≤ x7 then (if x7 < (x368000.length:Int) then (if ((rd_L2 x368000 x7).length:Int) < 4 then (spec_NodePut.j1 k x7 true x362000 x363000 x363001 x363002 x363003 x363004 x368000) else (spec_NodePut.j1 k x7 x8 x362000 x363000 x363001 x363002 x363003 x363004 x368000)) else (none)) else (none)) else (spec_NodePut.j1 k x7 false x362000 x363000 x363001 x363002 x363003 x363004 x368000)
def spec_NodePut.j1:Nat → Int → Bool → List (List (S38)) → Int → Int → Int → Int → Int → List (List (S38)) → Option ((List (List (S38))) × Bool)
 | 0,_,_,_,_,_,_,_,_,_=>none
 | k + 1,x7,x44,x362000,x363000,x363001,x363002,x363003,x363004,x368000=>if x44 = true then (if 0 ≤ x7 then (if x7 < (x368000.length:Int) then ((spec_SetPut.f k (rd_L2 x368000 x7) x363000 x363001 x363002 x363003 x363004).bind fun t377=>(spec_NodePut.j2 k x362000 x363000 x363001 x363002 x363003 x363004 (x368000.set (x7:Int).toNat t377))) else (none)) else (none)) else (if x368000.length < 5864062014805 then (spec_NodePut.j2 k x362000 x363000 x363001 x363002 x363003 x363004 (x368000 ++ [(([(⟨x363000,x363001,x363002,x363003,x363004⟩:S38)]:List (S38)))])) else (none))
def spec_NodePut.j2:Nat → List (List (S38)) → Int → Int → Int → Int → Int → List (List (S38)) → Option ((List (List (S38))) × Bool)
 | 0,_,_,_,_,_,_,_=>none
 | k + 1,x362000,x363000,x363001,x363002,x363003,x363004,x368000=>(spec_NodeOk.f k x368000).bind fun t387=>(if t387 = true then (some (x368000,true)) else ((spec_NodeKeys.f k x362000).bind fun t388=>((spec_SetPut.f k t388 x363000 x363001 x363002 x363003 x363004).bind fun t391=>((spec_Drop.f k t391).bind fun t394=>(if (t394.length:Int) > 8 then (spec_NodePut.j3 k t394 true x362000) else ((spec_NodeNew.f t394).bind fun t397=>((spec_NodeOk.f k t397).bind fun t400=>(spec_NodePut.j3 k t394 (!t400) x362000))))))))
def spec_NodePut.j3:Nat → List (S38) → Bool → List (List (S38)) → Option ((List (List (S38))) × Bool)
 | 0,_,_,_=>none
 | k + 1,x9,x79,x362000=>if x79 = true then ((spec_l5Copy.f k x362000).bind fun t401=>(some (t401,false))) else ((spec_NodeNew.f x9).bind fun t404=>(some (t404,true)))
end
def spec_NodePut.f (k:Nat) (l0_0:List (List (S38))) (a1_0:Int) (a1_1:Int) (a1_2:Int) (a1_3:Int) (a1_4:Int):Option ((List (List (S38))) × Bool):=(spec_l5Copy.f k l0_0).bind fun t364=>(if (wrap64 ((t364.length:Int) - 1)) ≥ 0 then (if 0 ≤ (wrap64 ((t364.length:Int) - 1)) then (if (wrap64 ((t364.length:Int) - 1)) < (t364.length:Int) then ((spec_SetAt.f k (rd_L2 t364 (wrap64 ((t364.length:Int) - 1))) a1_0 a1_1).bind fun bt369=>(spec_NodePut.j0 k (wrap64 ((t364.length:Int) - 1)) bt369.2.2.2.2.2 l0_0 a1_0 a1_1 a1_2 a1_3 a1_4 t364)) else (none)) else (none)) else (spec_NodePut.j0 k (wrap64 ((t364.length:Int) - 1)) false l0_0 a1_0 a1_1 a1_2 a1_3 a1_4 t364))
def spec_NodePut.T5:Bool × List (List Nat × List Nat):=(true,[([],[]),([0],[0]),([],[]),([1,2],[1,2]),([3],[3]),([],[]),([5],[5]),([],[]),([7],[7]),([4,6,8],[4,6,8]),([9],[9]),([10],[10]),([10],[10]),([12,9,0,1,2,3,4,5,6,7,8,9,10,11,12],[12])])
def spec_NodePut.B5:List Nat:=[0,1,0,7,15,0,32,0,128,511,1023,2047,2047,8191]
def spec_NodePut.T7:Bool × List (List Nat × List Nat):=(true,[([],[]),([0],[0]),([],[]),([],[]),([3],[3]),([],[]),([4,5],[4,5]),([6],[6]),([],[]),([7,8],[7,8]),([1,2,0,1,2,3,4,5,6,7,8,9],[1,2]),([10,9,9,0,1,2,3,4,5,6,7,8,9],[9,10])])
def spec_NodePut.B7:List Nat:=[0,1,0,0,8,0,56,120,0,504,1023,2047]
end Go.Proofs.Ytamjbjkbineafaa.PFnPacked

namespace Go.Proofs.Ytamjbjkbineafaa.PFnPacked
open Go.RowKit Go.Proofs.YtamjbjkbineafaaW.PrintWords Go.Proofs.YtamjbjkbineafaaW.PrintLast Go.Proofs.YtamjbjkbineafaaW.PrintMore
attribute [local go_sem] max2_int min2_int max_two min_two max_three min_three max_four min_four   -- for this text's walks alone
set_option linter.unusedVariables false
set_option linter.unusedSimpArgs false
def spec_l6Set.f (l0_0:List Int) (l0_1:List (S59)) (a1:Int) (l2:List Int) (l3:List (S59)):Option (List Int × (List (S59))):=(some (([]:List Int):List Int)).bind fun y376=>(if 0 ≤ a1 then (if a1 ≤ (l0_0.length:Int) then (if y376.length + (l0_0.take (a1:Int).toNat).length < 17592186044416 then ((some (y376 ++ (l0_0.take (a1:Int).toNat):List Int)).bind fun y380=>(if y380.length + l2.length < 17592186044416 then ((some (y380 ++ l2:List Int)).bind fun y383=>(if 0 ≤ (wrap64 (a1 + 1)) then (if (wrap64 (a1 + 1)) ≤ (l0_0.length:Int) then (if y383.length + (l0_0.drop ((wrap64 (a1 + 1)):Int).toNat).length < 17592186044416 then ((some (([]:List (S59)):List (S59))).bind fun y390=>(if a1 ≤ (l0_1.length:Int) then ((some (l0_1.take (a1:Int).toNat:List (S59))).bind fun y393=>(if y390.length + y393.length < 5864062014805 then ((some (y390 ++ y393:List (S59))).bind fun y398=>(if y398.length + l3.length < 5864062014805 then ((some (y398 ++ l3:List (S59))).bind fun y401=>(if (wrap64 (a1 + 1)) ≤ (l0_1.length:Int) then ((some (l0_1.drop ((wrap64 (a1 + 1)):Int).toNat:List (S59))).bind fun y404=>(if y401.length + y404.length < 5864062014805 then (some ((y383 ++ (l0_0.drop ((wrap64 (a1 + 1)):Int).toNat)),(y401 ++ y404))) else (none))) else (none))) else (none))) else (none))) else (none))) else (none)) else (none)) else (none))) else (none))) else (none)) else (none)) else (none))
def spec_l6Set.T2:Bool × List (List Nat × List Nat):=(true,[([],[]),([],[]),([1],[1]),([],[]),([2,3],[2,3]),([0,4],[0,4]),([],[]),([5,6,5],[5,6]),([],[]),([8],[8]),([],[]),([10],[10]),([9,11],[9,11]),([7,12,7],[7,12]),([0,1,2,3,4,5,6,7,8,9,10,11,12,13],[]),([14,13,13,0,1,2,3,4,5,6,7,8,9,10,11,12,13],[13,14])])
def spec_l6Set.B2:List Nat:=[0,0,2,0,14,31,0,127,0,256,0,1024,3840,8191,16383,32767]
def spec_l6Set.T3:Bool × List (List Nat × List Nat):=(true,[([],[]),([],[]),([1],[1]),([],[]),([2,3],[2,3]),([0,4],[0,4]),([],[]),([5,6,5],[5,6]),([],[]),([8],[8]),([],[]),([10],[10]),([9,11],[9,11]),([7,12,7],[7,12]),([0,1,2,3,4,5,6,7,8,9,10,11,12,13],[]),([14,13,13,0,1,2,3,4,5,6,7,8,9,10,11,12,13],[13,14])])
def spec_l6Set.B3:List Nat:=[0,0,2,0,14,31,0,127,0,256,0,1024,3840,8191,16383,32767]
end Go.Proofs.Ytamjbjkbineafaa.PFnPacked

namespace Go.Proofs.Ytamjbjkbineafaa.PFnPacked
open Go.RowKit Go.Proofs.YtamjbjkbineafaaW.PrintWords Go.Proofs.YtamjbjkbineafaaW.PrintLast Go.Proofs.YtamjbjkbineafaaW.PrintMore
attribute [local go_sem] max2_int min2_int max_two min_two max_three min_three max_four min_four   -- for this text's walks alone
set_option linter.unusedVariables false
set_option linter.unusedSimpArgs false
def spec_l6Pair.l0:Nat → Int → List Int → List (S59) → Option (Int)
 | 0,_,_,_=>none
 | k + 1,x3,x413000,x413001=>if (wrap64 (x3 + 1)) < (x413001.length:Int) then (if 0 ≤ x3 then (if x3 < (x413001.length:Int) then ((spec_NodeKeys.f k ((rd_T59 x413001 x3).f0)).bind fun t414=>(if 0 ≤ (wrap64 (x3 + 1)) then ((spec_NodeKeys.f k ((rd_T59 x413001 (wrap64 (x3 + 1))).f0)).bind fun t418=>(if (wrap64 ((t414.length:Int) + (t418.length:Int))) ≤ 6 then (some x3) else (spec_l6Pair.l0 k (wrap64 (x3 + 1)) x413000 x413001))) else (none))) else (none)) else (none)) else (some (-1))
def spec_l6Pair.f (k:Nat) (l0_0:List Int) (l0_1:List (S59)):Option (Int):=spec_l6Pair.l0 k 0 l0_0 l0_1
def spec_l6Pair.T4:Bool × List (List Nat × List Nat):=(true,[([],[]),([0],[0]),([],[]),([1,2],[1,2]),([3],[3]),([4],[4]),([5],[5]),([],[]),([7],[7]),([],[]),([9],[9]),([8,10],[8,10]),([11],[11]),([12,5],[12]),([13],[13]),([6,14],[6,14]),([15],[15])])
def spec_l6Pair.B4:List Nat:=[0,1,0,7,15,31,63,0,128,0,512,1920,3968,8127,16319,32767,65535]
end Go.Proofs.Ytamjbjkbineafaa.PFnPacked

namespace Go.Proofs.Ytamjbjkbineafaa.PFnPacked
open Go.RowKit Go.Proofs.YtamjbjkbineafaaW.PrintWords Go.Proofs.YtamjbjkbineafaaW.PrintLast Go.Proofs.YtamjbjkbineafaaW.PrintMore
attribute [local go_sem] max2_int min2_int max_two min_two max_three min_three max_four min_four   -- for this text's walks alone
set_option linter.unusedVariables false
set_option linter.unusedSimpArgs false
def spec_l6Join.l0:Nat → Int → List Int → List (S59) → Option (List Int × (List (S59)))
 | 0,_,_,_=>none
 | k + 1,x3,x422000,x422001=>if x3 ≥ 0 then (if 0 ≤ x3 then (if x3 < (x422001.length:Int) then ((spec_NodeKeys.f k ((rd_T59 x422001 x3).f0)).bind fun t425=>(if 0 ≤ (wrap64 (x3 + 1)) then (if (wrap64 (x3 + 1)) < (x422001.length:Int) then ((spec_NodeKeys.f k ((rd_T59 x422001 (wrap64 (x3 + 1))).f0)).bind fun t429=>(if t425.length + t429.length < 3518437208883 then ((some (([]:List Int):List Int)).bind fun y436=>(if (wrap64 (x3 + 1)) ≤ (x422000.length:Int) then ((some (x422000.take ((wrap64 (x3 + 1)):Int).toNat:List Int)).bind fun y439=>(if y436.length + y439.length < 17592186044416 then ((some (y436 ++ y439:List Int)).bind fun y444=>(if 0 ≤ (wrap64 (x3 + 2)) then (if (wrap64 (x3 + 2)) ≤ (x422000.length:Int) then ((some (x422000.drop ((wrap64 (x3 + 2)):Int).toNat:List Int)).bind fun y447=>(if y444.length + y447.length < 17592186044416 then ((some (y444 ++ y447:List Int)).bind fun y452=>((some (([]:List (S59)):List (S59))).bind fun y455=>(if x3 ≤ (x422001.length:Int) then ((some (x422001.take (x3:Int).toNat:List (S59))).bind fun y458=>(if y455.length + y458.length < 5864062014805 then ((some (y455 ++ y458:List (S59))).bind fun y463=>((spec_NodeNew.f (t425 ++ t429)).bind fun t466=>(if y463.length < 5864062014805 then ((some (y463 ++ [(⟨t466⟩:S59)]:List (S59))).bind fun y469=>(if (wrap64 (x3 + 2)) ≤ (x422001.length:Int) then ((some (x422001.drop ((wrap64 (x3 + 2)):Int).toNat:List (S59))).bind fun y472=>(if y469.length + y472.length < 5864062014805 then ((some (y469 ++ y472:List (S59))).bind fun y477=>((spec_l6Pair.f k y452 y477).bind fun t480=>(spec_l6Join.l0 k t480 y452 y477))) else (none))) else (none))) else (none)))) else (none))) else (none)))) else (none))) else (none)) else (none))) else (none))) else (none))) else (none))) else (none)) else (none))) else (none)) else (none)) else (some (x422000,x422001))
def spec_l6Join.f (k:Nat) (l0_0:List Int) (l0_1:List (S59)):Option (List Int × (List (S59))):=(spec_l6Pair.f k l0_0 l0_1).bind fun t423=>(spec_l6Join.l0 k t423 l0_0 l0_1)
def spec_l6Join.T4:Bool × List (List Nat × List Nat):=(true,[([],[]),([0],[0]),([],[]),([1,2],[1,2]),([3],[3]),([4],[4]),([],[]),([6],[6]),([],[]),([8],[8]),([7,9],[7,9]),([10],[10]),([11,5],[11]),([5,12,12],[5,12]),([13,13,0,1,2,3,4,5,6,7,8,9,10,11,12,13],[13])])
def spec_l6Join.B4:List Nat:=[0,1,0,7,15,31,0,64,0,256,960,1984,4095,8191,16383]
def spec_l6Join.T6:Bool × List (List Nat × List Nat):=(true,[([],[]),([],[]),([1],[1]),([],[]),([3],[3]),([2,4],[2,4]),([0,5],[0,5]),([],[]),([7],[7]),([],[]),([9],[9]),([8,10],[8,10]),([6,11,6],[6,11]),([0,1,2,3,4,5,6,7,8,9,10,11,12],[]),([13,12,12,0,1,2,3,4,5,6,7,8,9,10,11,12],[12,13])])
def spec_l6Join.B6:List Nat:=[0,0,2,0,8,30,63,0,128,0,512,1920,4095,8191,16383]
def spec_l6Join.T7:Bool × List (List Nat × List Nat):=(true,[([],[]),([],[]),([1],[1]),([],[]),([2,3],[2,3]),([0,4],[0,4]),([],[]),([6,5],[6]),([7],[7]),([5,8,7],[5,8]),([],[]),([10],[10]),([],[]),([12],[12]),([11,13],[11,13]),([9,14,9],[9,14]),([0,1,2,3,4,5,6,7,8,9,10,11,12,13,14,15],[]),([16,15,15,0,1,2,3,4,5,6,7,8,9,10,11,12,13,14,15],[15,16])])
def spec_l6Join.B7:List Nat:=[0,0,2,0,14,31,0,127,255,511,0,1024,0,4096,15360,32767,65535,131071]
end Go.Proofs.Ytamjbjkbineafaa.PFnPacked
