/- The law: the functions that it reaches, each with the proof that the machine's call comes to its answer, what they answer, and the law's row; each theorem says its conditions itself. -/
import Derived.Test.YtilhcaofpfeioaaVFnDevsBent
import Derived.Test.YtilhcaofpfeioaaProg
import Derived.Below
import Derived.Deep.Draws
import Derived.Deep.AppendLies
import Derived.Maps.AppendAt
import Derived.OwnWalk
import Derived.Laws.BytesArg
import Derived.Laws.MakeOwn
import Derived.Laws.OwnMore
import Derived.Deep.OwnRows
import Derived.Tactics
import Derived.Lib.ConvBytes
import Derived.Laws.Slices
import Derived.WalkKit
import Derived.KernelRfl
import Derived.RowKit3
import Derived.Deep.LoopGhost
import Derived.Deep.QuietTactic
import Derived.BigQuiet
import Derived.WideLaws
import Derived.Deep.DeepCutAuto
import Derived.Deep.CutBlock
import Derived.Deep.RegionHeld3
import Derived.Laws.Rows
import Derived.Lib.AppendStr
import Derived.ArgAppend
import Derived.Laws.IdiomCopy
import Derived.OrdersHeld
import Derived.Laws.BitsLemmas
import Derived.RowKit
import Derived.IntWalk
namespace Go.Proofs
theorem tA {p:Prop} (h:p:=by intro k_ h1_ h2_;have o_:=HORD.out;have t_:=HT.out;(try simp only [In2,Up,In,Ex,Exb] at h1_ h2_);omega):p:=h
theorem tB {p:Prop} (h:p:=by intro h2_;have o_:=HORD.out;have t_:=HT.out;(try simp only [In2,Up,In,Ex,Exb] at h2_);omega):p:=h
theorem tC {p:Prop} (h:p:=by (try simp only [List.map_toArray,List.map_cons,List.map_nil]);first|done|rfl):p:=h
theorem tD {p:Prop} (h:p:=by repeat (first|(with_reducible first|exact HK.out|apply KeepBut.set_|apply aZ|apply bB|apply bA|refine bF ?_ GW309.out _)|exact HK.out)):p:=h
theorem tE {p:Prop} (h:p:=by first|(go_simp;done)|(go_simp;rfl)):p:=h
theorem tF {p:Prop} (h:p:=by rw [hw_];exact aQ (cs:=#[.slice A3_0 l0_0.length c3_0,.slice A3_1 l0_1.length c3_1,.int .i64 a0_2,.bool false]) (cs':=#[.slice A3_0 l0_0.length c3_0,.slice A3_1 l0_1.length c3_1,.int .i64 a0_2,.bool a0_3]) (aQ (cs:=#[.slice A3_0 l0_0.length c3_0,.slice A3_1 l0_1.length c3_1,.int .i64 0,.bool false]) (cs':=#[.slice A3_0 l0_0.length c3_0,.slice A3_1 l0_1.length c3_1,.int .i64 a0_2,.bool false]) (aQ (cs:=#[.slice A3_0 l0_0.length c3_0,.slice none 0 0,.int .i64 0,.bool false]) (cs':=#[.slice A3_0 l0_0.length c3_0,.slice A3_1 l0_1.length c3_1,.int .i64 0,.bool false]) (aQ (cs:=#[.slice none 0 0,.slice none 0 0,.int .i64 0,.bool false]) (cs':=#[.slice A3_0 l0_0.length c3_0,.slice none 0 0,.int .i64 0,.bool false]) (BK4.out) 0 _ rfl) 1 _ rfl) 2 _ rfl) 3 _ rfl):p:=h
theorem tG {p:Prop} (h:p:=by kernel_rfl):p:=h
theorem tH {p:Prop} (h:p:=by have o_:=HORD.out;have t_:=HT.out;omega):p:=h
theorem tJ {p:Prop} (h:p:=by intro k_ hk_;have o_:=HORD.out;have t_:=HT.out;(try simp only [In2,Up,In] at hk_ ⊢);omega):p:=h
theorem tK {p:Prop} (h:p:=by repeat (first|(with_reducible first|exact HK.out|apply KeepBut.set_|apply aZ|apply bB|apply bA|refine bF ?_ GW309.out _|refine bF ?_ GW320.out _)|exact HK.out)):p:=h
theorem tL {p:Prop} (h:p:=by have o_:=HORD.out;(try unfold In at *);(try show _ ≠ _);omega):p:=h
theorem tM {p:Prop} (h:p:=by rw [hw_];exact aQ (cs:=#[.slice A3_0 l0_0.length c3_0,.slice A3_1 l0_1.length c3_1,.int .i64 a0_2,.bool false]) (cs':=#[.slice A3_0 l0_0.length c3_0,.slice A3_1 l0_1.length c3_1,.int .i64 a0_2,.bool false]) (aQ (cs:=#[.slice A3_0 l0_0.length c3_0,.slice A3_1 l0_1.length c3_1,.int .i64 0,.bool false]) (cs':=#[.slice A3_0 l0_0.length c3_0,.slice A3_1 l0_1.length c3_1,.int .i64 a0_2,.bool false]) (aQ (cs:=#[.slice A3_0 l0_0.length c3_0,.slice none 0 0,.int .i64 0,.bool false]) (cs':=#[.slice A3_0 l0_0.length c3_0,.slice A3_1 l0_1.length c3_1,.int .i64 0,.bool false]) (aQ (cs:=#[.slice none 0 0,.slice none 0 0,.int .i64 0,.bool false]) (cs':=#[.slice A3_0 l0_0.length c3_0,.slice none 0 0,.int .i64 0,.bool false]) (BK4.out) 0 _ rfl) 1 _ rfl) 2 _ rfl) 3 _ rfl):p:=h
theorem tN {p:Prop} (h:p:=by first|rfl|(simp [errW_none,errW_some] <;> rfl)|(simp [*,errW_none,errW_some] <;> rfl)):p:=h
theorem tP {p:Prop} (h:p:=by repeat (first|(with_reducible first|exact HI0.out|apply IsS85.alloc|apply IsS85.drewN|apply IsS85.drew|apply IsS85.set_1|apply IsS85.set_2|apply IsS85.far (hne:=NB0_309.out))|exact HI0.out)):p:=h
theorem tQ {p:Prop} (h:p:=by repeat (first|(with_reducible first|exact HK.out|apply KeepBut.set_|apply aZ|apply bB|apply bA)|exact HK.out)):p:=h
theorem tR {p:Prop} (h:p:=by intro k_ hk_;have o_:=HORD.out;have t_:=HT.out;(try simp only [In2,Up,In,Ex,Exb] at hk_ ⊢);omega):p:=h
theorem tT {p:Prop} (h:p:=by repeat (first|(with_reducible first|exact HB.out|apply aJ|apply aE|apply aH|refine aC ?_ (IsS85.ge HI397.out)|refine aC ?_ GE393.out)|exact HB.out)):p:=h
theorem tU {p:Prop} (h:p:=by rw [hw_];exact aC (aC (aC (aC (HB.out) hge_) hge_) hge_) hge_):p:=h
theorem tV {p:Prop} (h:p:=by (with_reducible repeat (first|refine aM ?_ _|refine aN ?_|refine aG ?_ _));refine bY ?_ NB309_320.out _;(with_reducible repeat (first|refine aM ?_ _|refine aN ?_|refine aG ?_ _));refine bY ?_ NB309_320.out _;(with_reducible repeat (first|refine aM ?_ _|refine aN ?_|refine aG ?_ _));refine bY ?_ NB309_320.out _;(with_reducible repeat (first|refine aM ?_ _|refine aN ?_|refine aG ?_ _));refine bY ?_ NB309_320.out _;(with_reducible repeat (first|refine aM ?_ _|refine aN ?_|refine aG ?_ _));exact BK309.out):p:=h
theorem tW {p:Prop} (h:p:=by rw [hw_];exact aQ (cs:=#[.slice A3_0 l0_0.length c3_0,.slice A3_1 l0_1.length c3_1,.int .i64 a0_2,.bool false]) (cs':=#[.slice A3_0 l0_0.length c3_0,.slice A3_1 l0_1.length c3_1,.int .i64 a0_2,.bool a0_3]) (aQ (cs:=#[.slice A3_0 l0_0.length c3_0,.slice A3_1 l0_1.length c3_1,.int .i64 0,.bool false]) (cs':=#[.slice A3_0 l0_0.length c3_0,.slice A3_1 l0_1.length c3_1,.int .i64 a0_2,.bool false]) (aQ (cs:=#[.slice A3_0 l0_0.length c3_0,.slice none 0 0,.int .i64 0,.bool false]) (cs':=#[.slice A3_0 l0_0.length c3_0,.slice A3_1 l0_1.length c3_1,.int .i64 0,.bool false]) (aQ (cs:=#[.slice none 0 0,.slice none 0 0,.int .i64 0,.bool false]) (cs':=#[.slice A3_0 l0_0.length c3_0,.slice none 0 0,.int .i64 0,.bool false]) (BK2.out) 0 _ rfl) 1 _ rfl) 2 _ rfl) 3 _ rfl):p:=h
theorem tX {p:Prop} (h:p:=by repeat (first|(with_reducible first|exact HI0.out|apply IsS85.alloc|apply IsS85.drewN|apply IsS85.drew|apply IsS85.set_1|apply IsS85.set_2|apply IsS85.far (hne:=NB0_309.out)|apply IsS85.far (hne:=NB0_320.out))|exact HI0.out)):p:=h
theorem tY {p:Prop} (h:p:=by rw [hw_];exact aQ (cs:=#[.slice A3_0 l0_0.length c3_0,.slice A3_1 l0_1.length c3_1,.int .i64 f1,.bool false]) (cs':=#[.slice A3_0 l0_0.length c3_0,.slice A3_1 l0_1.length c3_1,.int .i64 f1,.bool b1]) (aQ (cs:=#[.slice A3_0 l0_0.length c3_0,.slice A3_1 l0_1.length c3_1,.int .i64 a0_2,.bool false]) (cs':=#[.slice A3_0 l0_0.length c3_0,.slice A3_1 l0_1.length c3_1,.int .i64 f1,.bool false]) (aQ (cs:=#[.slice A3_0 l0_0.length c3_0,.slice A3_1 l0_1.length c3_1,.int .i64 a0_2,.bool false]) (cs':=#[.slice A3_0 l0_0.length c3_0,.slice A3_1 l0_1.length c3_1,.int .i64 a0_2,.bool false]) (aQ (cs:=#[.slice A3_0 l0_0.length c3_0,.slice A3_1 l0_1.length c3_1,.int .i64 a0_2,.bool false]) (cs':=#[.slice A3_0 l0_0.length c3_0,.slice A3_1 l0_1.length c3_1,.int .i64 a0_2,.bool false]) (BK4.out) 0 _ rfl) 1 _ rfl) 2 _ rfl) 3 _ rfl):p:=h
theorem tZ {p:Prop} (h:p:=by omega):p:=h
theorem ta {p:Prop} (h:p:=by intro k_ h_;have o_:=HORD.out;have t_:=HT.out;(try simp only [In2,Up,In,Ex,Exb] at h_ ⊢);omega):p:=h
theorem tb {p:Prop} (h:p:=by exact ⟨tN,by repeat (first|(with_reducible first|exact HI0.out|apply IsS85.alloc|apply IsS85.drewN|apply IsS85.drew|apply IsS85.set_1|apply IsS85.set_2)|exact HI0.out),by repeat (first|(with_reducible first|exact HB.out|apply aJ|apply aE|apply aH|refine aC ?_ (IsS85.ge HI0.out))|exact HB.out),by repeat (first|(with_reducible first|exact HK.out|apply KeepBut.set_|apply aZ|apply bB|apply bA)|exact HK.out)⟩):p:=h
theorem tc {p:Prop} (h:p:=by repeat (first|(with_reducible first|exact HB.out|apply aJ|apply aE|apply aH|refine aC ?_ GE258.out|refine aC ?_ GE259.out)|exact HB.out)):p:=h
theorem td {p:Prop} (h:p:=by first|rfl|(simp;done)|(simp [*];done)):p:=h
theorem te {p:Prop} (h:p:=by repeat (first|(with_reducible first|exact HB.out|apply aJ|apply aE|apply aH|refine aC ?_ (IsS85.ge HI0.out)|refine aC ?_ GE309.out|refine aC ?_ GE320.out)|exact HB.out)):p:=h
theorem tf {p:Prop} (h:p:=by decide):p:=h
theorem tg {p:Prop} (h:p:=by repeat (first|(with_reducible first|exact HI397.out|apply IsS85.alloc|apply IsS85.drewN|apply IsS85.drew|apply IsS85.set_1|apply IsS85.set_2|apply IsS85.far (hne:=NB397_393.out))|exact HI397.out)):p:=h
theorem th {p:Prop} (h:p:=by repeat (first|(with_reducible first|exact HI0.out|apply IsS85.alloc|apply IsS85.drewN|apply IsS85.drew|apply IsS85.set_1|apply IsS85.set_2|apply IsS85.far (hne:=NB0_309.out)|apply IsS85.far (hne:=NB0_320.out))|exact HI0.out)):p:=h
theorem tj {p:Prop} (h:p:=by rw [hw_];exact Kept.setCell (Kept.setCell (Kept.setCell (Kept.setCell (Kept.refl w4 (fun k_=>k_ = gb4)) (.inl rfl) (.slice A3_0 l0_0.length c3_0)) (.inl rfl) (.slice A3_1 l0_1.length c3_1)) (.inl rfl) (.int .i64 a0_2)) (.inl rfl) (.bool a0_3)):p:=h
theorem tk {p:Prop} (h:p:=by rw [hg_];exact HT.out):p:=h
theorem tm {p:Prop} (h:p:=by (with_reducible repeat (first|refine aM ?_ _|refine aN ?_|refine aG ?_ _));exact BK258.out):p:=h
theorem tn {p:Prop} (h:p:=by repeat (first|(with_reducible first|exact HB.out|apply aJ|apply aE|apply aH|refine aC ?_ GE493.out|refine aC ?_ GE494.out)|exact HB.out)):p:=h
theorem tp {p:Prop} (h:p:=by repeat (first|(with_reducible first|exact HB.out|apply aJ|apply aE|apply aH)|exact HB.out)):p:=h
theorem tq {p:Prop} (h:p:=by have o_:=HORD.out;omega):p:=h
theorem tr {p:Prop} (h:p:=by rw [hw_];exact aQ (cs:=#[.slice A3_0 l0_0.length c3_0,.slice A3_1 l0_1.length c3_1,.int .i64 a0_2,.bool false]) (cs':=#[.slice A3_0 l0_0.length c3_0,.slice A3_1 l0_1.length c3_1,.int .i64 a0_2,.bool false]) (aQ (cs:=#[.slice A3_0 l0_0.length c3_0,.slice A3_1 l0_1.length c3_1,.int .i64 0,.bool false]) (cs':=#[.slice A3_0 l0_0.length c3_0,.slice A3_1 l0_1.length c3_1,.int .i64 a0_2,.bool false]) (aQ (cs:=#[.slice A3_0 l0_0.length c3_0,.slice none 0 0,.int .i64 0,.bool false]) (cs':=#[.slice A3_0 l0_0.length c3_0,.slice A3_1 l0_1.length c3_1,.int .i64 0,.bool false]) (aQ (cs:=#[.slice none 0 0,.slice none 0 0,.int .i64 0,.bool false]) (cs':=#[.slice A3_0 l0_0.length c3_0,.slice none 0 0,.int .i64 0,.bool false]) (BK2.out) 0 _ rfl) 1 _ rfl) 2 _ rfl) 3 _ rfl):p:=h
theorem tu {p:Prop} (h:p:=by repeat (first|(with_reducible first|exact HB.out|apply aJ|apply aE|apply aH|refine aC ?_ (IsS85.ge HI397.out)|refine aC ?_ GE393.out)|exact HB.out)):p:=h
theorem tx {p:Prop} (h:p:=by assumption):p:=h
theorem tz {p:Prop} (h:p:=by repeat (first|(with_reducible first|exact HI0.out|apply IsS85.alloc|apply IsS85.drewN|apply IsS85.drew|apply IsS85.set_1|apply IsS85.set_2|apply IsS85.far (hne:=NB0_309.out)|apply IsS85.far (hne:=NB0_320.out))|exact HI0.out)):p:=h
theorem t0 {p:Prop} (h:p:=by repeat (first|(with_reducible first|exact HB.out|apply aJ|apply aE|apply aH|refine aC ?_ (IsS85.ge HI0.out)|refine aC ?_ GE309.out|refine aC ?_ GE320.out)|exact HB.out)):p:=h
theorem t3 {p:Prop} (h:p:=by rw [hw_];exact Kept.setCell (Kept.setCell (Kept.setCell (Kept.setCell (Kept.refl w4 (fun k_=>k_ = gb4)) (.inl rfl) (.slice A3_0 l0_0.length c3_0)) (.inl rfl) (.slice A3_1 l0_1.length c3_1)) (.inl rfl) (.int .i64 a0_2)) (.inl rfl) (.bool false)):p:=h
theorem t4 {p:Prop} (h:p:=by repeat (first|(with_reducible first|exact HB.out|apply aJ|apply aE|apply aH|refine aC ?_ GE258.out|refine aC ?_ GE259.out|refine aC ?_ GE268.out)|exact HB.out)):p:=h
theorem t5 {p:Prop} (h:p:=by repeat (first|(with_reducible first|exact HK.out|apply KeepBut.set_|apply aZ|apply bB|apply bA|refine bF ?_ GW309.out _|refine bF ?_ GW320.out _)|exact HK.out)):p:=h
theorem t6 {p:Prop} (h:p:=by repeat (first|(with_reducible first|exact HI0.out|apply IsS85.alloc|apply IsS85.drewN|apply IsS85.drew|apply IsS85.set_1|apply IsS85.set_2)|exact HI0.out)):p:=h
theorem t7 {p:Prop} (h:p:=by repeat (first|(with_reducible first|exact HI397.out|apply IsS85.alloc|apply IsS85.drewN|apply IsS85.drew|apply IsS85.set_1|apply IsS85.set_2|apply IsS85.far (hne:=NB397_393.out))|exact HI397.out)):p:=h
theorem t8 {p:Prop} (h:p:=by (with_reducible repeat (first|refine aM ?_ _|refine aN ?_|refine aG ?_ _));exact BK259.out):p:=h
theorem t9 {p:Prop} (h:p:=by repeat (first|(with_reducible first|exact HB.out|apply aJ|apply aE|apply aH|refine aC ?_ GE258.out|refine aC ?_ GE259.out|refine aC ?_ GE268.out)|exact HB.out)):p:=h
theorem vA {p:Prop} (h:p:=by intro k_ hk_;have h1_:=hk_.1;have h2_:=hk_.2.2.1;rw [← e2_] at h2_;(try simp only [In2,Up,In,Ex,Exb] at h1_ ⊢);omega):p:=h
theorem vB {p:Prop} (h:p:=by repeat (first|(with_reducible first|exact HI0.out|apply IsS85.alloc|apply IsS85.drewN|apply IsS85.drew|apply IsS85.set_1|apply IsS85.set_2|apply IsS85.far (hne:=NB0_309.out))|exact HI0.out)):p:=h
theorem vC {p:Prop} (h:p:=by repeat (first|(with_reducible first|exact HB.out|apply aJ|apply aE|apply aH|refine aC ?_ GE115.out)|exact HB.out)):p:=h
theorem vD {p:Prop} (h:p:=by first|exact Kd.S_nil _ _ _ _ _|exact Kd.N_nil _ _ _ _ _|exact Kd.V_nil _ _ _ _ _|exact Kd.Q_nil _ _ _ _ _|exact Kd.R_nil _ _ _ _ _):p:=h
theorem vE {p:Prop} (h:p:=by repeat (first|(with_reducible first|exact HB.out|apply aJ|apply aE|apply aH|refine aC ?_ (IsS85.ge HI0.out))|exact HB.out)):p:=h
theorem vF {p:Prop} (h:p:=by repeat (first|(with_reducible first|exact HB.out|apply aJ|apply aE|apply aH|refine aC ?_ GE122.out)|exact HB.out)):p:=h
theorem vG {p:Prop} (h:p:=by repeat (first|(with_reducible first|exact HB.out|apply aJ|apply aE|apply aH|refine aC ?_ (IsS85.ge HI466.out)|refine aC ?_ GE462.out)|exact HB.out)):p:=h
theorem vH {p:Prop} (h:p:=by repeat (first|(with_reducible first|exact HB.out|apply aJ|apply aE|apply aH|refine aC ?_ (IsS85.ge HI376.out)|refine aC ?_ GE372.out)|exact HB.out)):p:=h
theorem vJ {p:Prop} (h:p:=by rw [hw_];exact Kept.setCell (Kept.setCell (Kept.setCell (Kept.setCell (Kept.refl w6 (fun k_=>k_ = gb2)) (.inl rfl) (.slice A3_0 l0_0.length c3_0)) (.inl rfl) (.slice A3_1 l0_1.length c3_1)) (.inl rfl) (.int .i64 a0_2)) (.inl rfl) (.bool a0_3)):p:=h
theorem vK {p:Prop} (h:p:=by have o_:=HORD.out;have t_:=HT.out;(try simp only [In2,Up,In,Ex,Exb] at hk_ ⊢);omega):p:=h
theorem vL {p:Prop} (h:p:=by repeat (first|(with_reducible first|exact HB.out|apply aJ|apply aE|apply aH|refine aC ?_ (IsS85.ge HI0.out)|refine aC ?_ GE309.out)|exact HB.out)):p:=h
theorem vM {p:Prop} (h:p:=by repeat (first|(with_reducible first|exact HI0.out|apply IsS85.alloc|apply IsS85.drewN|apply IsS85.drew|apply IsS85.set_1|apply IsS85.set_2)|exact HI0.out)):p:=h
theorem vN {p:Prop} (h:p:=by simp):p:=h
theorem vP {p:Prop} (h:p:=by intro _ h_;first|exact h_|exact h_.1):p:=h
theorem vQ {p:Prop} (h:p:=by repeat (first|(with_reducible first|exact HB.out|apply aJ|apply aE|apply aH|refine aC ?_ (IsS85.ge HI0.out)|refine aC ?_ GE309.out)|exact HB.out)):p:=h
theorem vR {p:Prop} (h:p:=by exact (Reps.one (show Kd.M (Kd.int .i64) _ _ _ 0 [.int .i64 0] from rfl) (Reps.one (show Kd.M (Kd.int .i64) _ _ _ 0 [.int .i64 0] from rfl) (Reps.one (show Kd.M (Kd.int .i64) _ _ _ 1 [.int .i64 1] from rfl) (Reps.one (show Kd.M (Kd.int .i64) _ _ _ 2 [.int .i64 2] from rfl) (Reps.one (show Kd.M (Kd.int .i64) _ _ _ (-1) [.int .i64 (-1)] from rfl) (Reps.one (show Kd.M (Kd.int .i64) _ _ _ 60 [.int .i64 60] from rfl) (Reps.none _ _)))))))):p:=h
theorem vT {p:Prop} (h:p:=by rw [hw_];exact aQ (cs:=#[.slice A3_0 l0_0.length c3_0,.slice A3_1 l0_1.length c3_1,.int .i64 a0_2,.bool false]) (cs':=#[.slice A3_0 l0_0.length c3_0,.slice A3_1 l0_1.length c3_1,.int .i64 a0_2,.bool true]) (aQ (cs:=#[.slice A3_0 l0_0.length c3_0,.slice A3_1 l0_1.length c3_1,.int .i64 0,.bool false]) (cs':=#[.slice A3_0 l0_0.length c3_0,.slice A3_1 l0_1.length c3_1,.int .i64 a0_2,.bool false]) (aQ (cs:=#[.slice A3_0 l0_0.length c3_0,.slice none 0 0,.int .i64 0,.bool false]) (cs':=#[.slice A3_0 l0_0.length c3_0,.slice A3_1 l0_1.length c3_1,.int .i64 0,.bool false]) (aQ (cs:=#[.slice none 0 0,.slice none 0 0,.int .i64 0,.bool false]) (cs':=#[.slice A3_0 l0_0.length c3_0,.slice none 0 0,.int .i64 0,.bool false]) (BK4.out) 0 _ rfl) 1 _ rfl) 2 _ rfl) 3 _ rfl):p:=h
theorem vU {p:Prop} (h:p:=by rw [hw_];exact aQ (cs:=#[.slice A3_0 l0_0.length c3_0,.slice A3_1 l0_1.length c3_1,.int .i64 a0_2,.bool false]) (cs':=#[.slice A3_0 l0_0.length c3_0,.slice A3_1 l0_1.length c3_1,.int .i64 a0_2,.bool true]) (aQ (cs:=#[.slice A3_0 l0_0.length c3_0,.slice A3_1 l0_1.length c3_1,.int .i64 0,.bool false]) (cs':=#[.slice A3_0 l0_0.length c3_0,.slice A3_1 l0_1.length c3_1,.int .i64 a0_2,.bool false]) (aQ (cs:=#[.slice A3_0 l0_0.length c3_0,.slice none 0 0,.int .i64 0,.bool false]) (cs':=#[.slice A3_0 l0_0.length c3_0,.slice A3_1 l0_1.length c3_1,.int .i64 0,.bool false]) (aQ (cs:=#[.slice none 0 0,.slice none 0 0,.int .i64 0,.bool false]) (cs':=#[.slice A3_0 l0_0.length c3_0,.slice none 0 0,.int .i64 0,.bool false]) (BK2.out) 0 _ rfl) 1 _ rfl) 2 _ rfl) 3 _ rfl):p:=h
theorem vV {p:Prop} (h:p:=by rw [hw_];exact aQ (cs:=#[.slice A3_0 l0_0.length c3_0,.slice A3_1 l0_1.length c3_1,.int .i64 f1,.bool false]) (cs':=#[.slice A3_0 l0_0.length c3_0,.slice A3_1 l0_1.length c3_1,.int .i64 f1,.bool b1]) (aQ (cs:=#[.slice A3_0 l0_0.length c3_0,.slice A3_1 l0_1.length c3_1,.int .i64 0,.bool false]) (cs':=#[.slice A3_0 l0_0.length c3_0,.slice A3_1 l0_1.length c3_1,.int .i64 f1,.bool false]) (aQ (cs:=#[.slice A3_0 l0_0.length c3_0,.slice none 0 0,.int .i64 0,.bool false]) (cs':=#[.slice A3_0 l0_0.length c3_0,.slice A3_1 l0_1.length c3_1,.int .i64 0,.bool false]) (aQ (cs:=#[.slice none 0 0,.slice none 0 0,.int .i64 0,.bool false]) (cs':=#[.slice A3_0 l0_0.length c3_0,.slice none 0 0,.int .i64 0,.bool false]) (BK2.out) 0 _ rfl) 1 _ rfl) 2 _ rfl) 3 _ rfl):p:=h
theorem vW {p:Prop} (h:p:=by repeat (first|(with_reducible first|exact HB.out|apply aJ|apply aE|apply aH|refine aC ?_ GE151.out)|exact HB.out)):p:=h
theorem vX {p:Prop} (h:p:=by repeat (first|(with_reducible first|exact HB.out|apply aJ|apply aE|apply aH|refine aC ?_ GE129.out)|exact HB.out)):p:=h
theorem vY {p:Prop} (h:p:=by intro k_ hk_;have o_:=HORD.out;have t_:=HT.out;(try simp only [In2,Up,In,Ex,Exb] at hk_);omega):p:=h
theorem vZ {p:Prop} (h:p:=by repeat (first|(with_reducible first|exact HB.out|apply aJ|apply aE|apply aH|refine aC ?_ (IsS85.ge HI0.out))|exact HB.out)):p:=h
theorem vk {p:Prop} (h:p:=by repeat (first|(with_reducible first|exact HB.out|apply aJ|apply aE|apply aH|refine aC ?_ (IsS85.ge HI0.out)|refine aC ?_ GE309.out|refine aC ?_ GE320.out)|exact HB.out)):p:=h
theorem vm {p:Prop} (h:p:=by repeat (first|(with_reducible first|exact HB.out|apply aJ|apply aE|apply aH|refine aC ?_ GE169.out|refine aC ?_ GE170.out|refine aC ?_ GE171.out)|exact HB.out)):p:=h
theorem vn {p:Prop} (h:p:=by (with_reducible repeat (first|refine aM ?_ _|refine aN ?_|refine aG ?_ _));exact BK494.out):p:=h
theorem vp {p:Prop} (h:p:=by (with_reducible repeat (first|refine aM ?_ _|refine aN ?_|refine aG ?_ _));exact BK493.out):p:=h
theorem vq {p:Prop} (h:p:=by repeat (first|(with_reducible first|exact HB.out|apply aJ|apply aE|apply aH|refine aC ?_ GE258.out)|exact HB.out)):p:=h
theorem vr {p:Prop} (h:p:=by rfl):p:=h
theorem vu {p:Prop} (h:p:=by rw [hw_];exact aC (HB.out) hge_):p:=h
theorem vx {p:Prop} (h:p:=by (with_reducible repeat (first|refine aM ?_ _|refine aN ?_|refine aG ?_ _));refine bY ?_ NB259_268.out _;(with_reducible repeat (first|refine aM ?_ _|refine aN ?_|refine aG ?_ _));refine bY ?_ NB259_268.out _;(with_reducible repeat (first|refine aM ?_ _|refine aN ?_|refine aG ?_ _));refine bY ?_ NB259_268.out _;(with_reducible repeat (first|refine aM ?_ _|refine aN ?_|refine aG ?_ _));refine bY ?_ NB259_268.out _;(with_reducible repeat (first|refine aM ?_ _|refine aN ?_|refine aG ?_ _));exact BK259.out):p:=h
theorem vy {p:Prop} (h:p:=by (with_reducible repeat (first|refine aM ?_ _|refine aN ?_|refine aG ?_ _));refine bY ?_ NB258_268.out _;(with_reducible repeat (first|refine aM ?_ _|refine aN ?_|refine aG ?_ _));refine bY ?_ NB258_268.out _;(with_reducible repeat (first|refine aM ?_ _|refine aN ?_|refine aG ?_ _));refine bY ?_ NB258_268.out _;(with_reducible repeat (first|refine aM ?_ _|refine aN ?_|refine aG ?_ _));refine bY ?_ NB258_268.out _;(with_reducible repeat (first|refine aM ?_ _|refine aN ?_|refine aG ?_ _));exact BK258.out):p:=h
theorem vz {p:Prop} (h:p:=by repeat (first|(with_reducible first|exact HB.out|apply aJ|apply aE|apply aH|refine aC ?_ GE101.out)|exact HB.out)):p:=h
theorem wA {p:Prop} (h:p:=by rw [hw_];exact Kept.setCell (Kept.setCell (Kept.setCell (Kept.setCell (Kept.refl w7 (fun k_=>k_ = gb2)) (.inl rfl) (.slice A3_0 l0_0.length c3_0)) (.inl rfl) (.slice A3_1 l0_1.length c3_1)) (.inl rfl) (.int .i64 a0_2)) (.inl rfl) (.bool false)):p:=h
theorem wB {p:Prop} (h:p:=by repeat (first|(with_reducible first|exact HB.out|apply aJ|apply aE|apply aH|refine aC ?_ (IsS85.ge HI451.out)|refine aC ?_ GE447.out)|exact HB.out)):p:=h
theorem wC {p:Prop} (h:p:=by repeat (first|(with_reducible first|exact HB.out|apply aJ|apply aE|apply aH|refine aC ?_ (IsS85.ge HI361.out)|refine aC ?_ GE357.out)|exact HB.out)):p:=h
theorem wD {p:Prop} (h:p:=by (with_reducible repeat (first|refine aM ?_ _|refine aN ?_|refine aG ?_ _));exact BK268.out):p:=h
theorem wE {p:Prop} (h:p:=by (with_reducible repeat (first|refine aM ?_ _|refine aN ?_|refine aG ?_ _));exact BK259.out):p:=h
theorem wF {p:Prop} (h:p:=by (with_reducible repeat (first|refine aM ?_ _|refine aN ?_|refine aG ?_ _));exact BK258.out):p:=h
theorem wG {p:Prop} (h:p:=by (with_reducible repeat (first|refine aM ?_ _|refine aN ?_|refine aG ?_ _));exact BK122.out):p:=h
theorem wH {p:Prop} (h:p:=by repeat (first|exact (Kd.V_reads' HO0_1.out).2.2|(with_reducible refine Kd.C_alloc ?_ _)|(with_reducible refine Kd.C_drewN ?_ _)|(with_reducible refine Kd.C_drew ?_))):p:=h
theorem wJ {p:Prop} (h:p:=by repeat (first|exact (Kd.V_reads' HO0_0.out).2.2|(with_reducible refine Kd.C_alloc ?_ _)|(with_reducible refine Kd.C_drewN ?_ _)|(with_reducible refine Kd.C_drew ?_))):p:=h
theorem wK {p:Prop} (h:p:=by intro k_ hk_;have o_:=HORD.out;(try simp only [In2,Up,In,Ex,Exb] at hk_ ⊢);omega):p:=h
theorem wL {p:Prop} (h:p:=by exact ⟨rfl,by unfold WrPost;exact ⟨_,gC,BKg.out,HGC.out,tH,Kd.aV HN0.out tR,Kd.aV HN1.out tR,HB.out,HKP.out⟩⟩):p:=h
theorem wM {p:Prop} (h:p:=by repeat (first|(with_reducible first|exact HB.out|apply aJ|apply aE|apply aH|refine aC ?_ GE101.out|refine aC ?_ GE103.out)|exact HB.out)):p:=h
theorem wN {p:Prop} (h:p:=by rfl):p:=h
theorem wP {p:Prop} (h:p:=by exact ⟨_,_,rfl,HC0_1.out,HF0_1.out⟩):p:=h
theorem wQ {p:Prop} (h:p:=by exact ⟨_,_,rfl,HC0_0.out,HF0_0.out⟩):p:=h
theorem wR {p:Prop} (h:p:=by exact ⟨by first|rfl|(simp;done)|(simp [*];done),by repeat (first|exact Drawn0.refl _|apply Drawn0.step)⟩):p:=h
theorem wT {p:Prop} (h:p:=by rw [e2_];exact Nat.le_trans HT.out hkp.1):p:=h
theorem wU {p:Prop} (h:p:=by repeat (first|(with_reducible first|exact HI466.out|apply IsS85.alloc|apply IsS85.drewN|apply IsS85.drew|apply IsS85.set_1|apply IsS85.set_2|apply IsS85.far (hne:=NB466_462.out))|exact HI466.out)):p:=h
theorem wV {p:Prop} (h:p:=by repeat (first|(with_reducible first|exact HI376.out|apply IsS85.alloc|apply IsS85.drewN|apply IsS85.drew|apply IsS85.set_1|apply IsS85.set_2|apply IsS85.far (hne:=NB376_372.out))|exact HI376.out)):p:=h
theorem wW {p:Prop} (h:p:=by first|omega|exact Nat.le_refl _):p:=h
theorem wX {p:Prop} (h:p:=by exact absurd H vN):p:=h
theorem wY {p:Prop} (h:p:=by repeat (first|(with_reducible first|exact HB.out|apply aJ|apply aE|apply aH)|exact HB.out)):p:=h
theorem wZ {p:Prop} (h:p:=by (with_reducible repeat (first|refine aM ?_ _|refine aN ?_|refine aG ?_ _));exact BK129.out):p:=h
theorem wa {p:Prop} (h:p:=by repeat (first|(with_reducible first|exact HB.out|apply aJ|apply aE|apply aH|refine aC ?_ GE110.out)|exact HB.out)):p:=h
theorem wb {p:Prop} (h:p:=by repeat (first|(with_reducible exact HR135_0.out)|(with_reducible refine Kd.C_alloc ?_ _)|(with_reducible refine Kd.C_drewN ?_ _)|(with_reducible refine Kd.C_drew ?_)|exact HR135_0.out)):p:=h
theorem wd {p:Prop} (h:p:=by rw [et_];exact hk_.2):p:=h
theorem we {p:Prop} (h:p:=by first|rfl|kernel_rfl):p:=h
theorem wg {p:Prop} (h:p:=by repeat (first|(with_reducible first|exact HI0.out|apply IsS85.alloc|apply IsS85.drewN|apply IsS85.drew|apply IsS85.set_1|apply IsS85.set_2)|exact HI0.out)):p:=h
theorem wh {p:Prop} (h:p:=by repeat (first|(with_reducible first|exact HBW.out|apply aJ|apply aE|apply aH)|exact HBW.out)):p:=h
theorem wj {p:Prop} (h:p:=by (with_reducible repeat (first|apply Kd.V_alloc|apply Kd.V_drewN|apply Kd.V_drew));exact HO0_1.out):p:=h
theorem wk {p:Prop} (h:p:=by (with_reducible repeat (first|apply Kd.V_alloc|apply Kd.V_drewN|apply Kd.V_drew));exact HO0_0.out):p:=h
theorem wm {p:Prop} (h:p:=by exact (Kd.bR HF0_1.out)):p:=h
theorem wn {p:Prop} (h:p:=by exact (Kd.bR HF0_0.out)):p:=h
theorem wq {p:Prop} (h:p:=by repeat (first|(with_reducible first|exact HB.out|apply aJ|apply aE|apply aH|refine aC ?_ GE122.out|refine aC ?_ GE127.out)|exact HB.out)):p:=h
theorem ws {p:Prop} (h:p:=by repeat (first|(with_reducible first|exact HB.out|apply aJ|apply aE|apply aH|refine aC ?_ GE101.out|refine aC ?_ GE103.out)|exact HB.out)):p:=h
theorem wu {p:Prop} (h:p:=by (with_reducible repeat (first|refine aM ?_ _|refine aN ?_|refine aG ?_ _));exact BK151.out):p:=h
theorem wx {p:Prop} (h:p:=by (with_reducible repeat (first|refine aM ?_ _|refine aN ?_|refine aG ?_ _));exact BK115.out):p:=h
theorem wy {p:Prop} (h:p:=by rw [hw_];exact aQ (cs:=#[.int .i64 ((rdW l0_1 x8).f0),.slice none 0 0]) (cs':=#[.int .i64 ((rdW l0_1 x8).f0),.slice Ae9 ((rdW l0_1 x8).f1).length ce9]) (aQ (cs:=#[.int .i64 0,.slice none 0 0]) (cs':=#[.int .i64 ((rdW l0_1 x8).f0),.slice none 0 0]) (BK10.out) 0 _ rfl) 1 _ rfl):p:=h
theorem wz {p:Prop} (h:p:=by (with_reducible repeat (first|apply Kd.bW|apply Kd.bX|apply Kd.bV));exact HO_269001.out):p:=h
theorem AA {p:Prop} (h:p:=by (with_reducible repeat (first|apply Kd.bW|apply Kd.bX|apply Kd.bV));exact HO_269000.out):p:=h
theorem AB {p:Prop} (h:p:=by repeat (first|(with_reducible first|exact HB.out|apply aJ|apply aE|apply aH|refine aC ?_ (IsS85.ge HI0.out))|exact HB.out)):p:=h
theorem AC {p:Prop} (h:p:=by rw [hw_];exact aC (aC (HB.out) hge_) hge_):p:=h
theorem AD {p:Prop} (h:p:=by have h1_:=hk_.1.1;have o_:=HORD.out;omega):p:=h
theorem AE {p:Prop} (h:p:=by rw [hw_];exact Kept.setCell (Kept.setCell (Kept.setCell (Kept.setCell (Kept.refl w6 (fun k_=>k_ = gb2)) (.inl rfl) (.slice A3_0 l0_0.length c3_0)) (.inl rfl) (.slice A3_1 l0_1.length c3_1)) (.inl rfl) (.int .i64 a0_2)) (.inl rfl) (.bool true)):p:=h
theorem AF {p:Prop} (h:p:=by rw [hw_];exact Kept.setCell (Kept.setCell (Kept.setCell (Kept.setCell (Kept.refl w4 (fun k_=>k_ = gb4)) (.inl rfl) (.slice A3_0 l0_0.length c3_0)) (.inl rfl) (.slice A3_1 l0_1.length c3_1)) (.inl rfl) (.int .i64 a0_2)) (.inl rfl) (.bool true)):p:=h
theorem AG {p:Prop} (h:p:=by repeat (first|(with_reducible first|exact HK.out|apply KeepBut.set_|apply aZ|apply bB|apply bA)|exact HK.out)):p:=h
theorem AH {p:Prop} (h:p:=by rw [hw_];exact Kept.setCell (Kept.setCell (Kept.setCell (Kept.setCell (Kept.refl w8 (fun k_=>k_ = gb4)) (.inl rfl) (.slice A3_0 l0_0.length c3_0)) (.inl rfl) (.slice A3_1 l0_1.length c3_1)) (.inl rfl) (.int .i64 f1)) (.inl rfl) (.bool b1)):p:=h
theorem AJ {p:Prop} (h:p:=by rw [hw_];exact Kept.setCell (Kept.setCell (Kept.setCell (Kept.setCell (Kept.refl w7 (fun k_=>k_ = gb4)) (.inl rfl) (.slice A3_0 l0_0.length c3_0)) (.inl rfl) (.slice A3_1 l0_1.length c3_1)) (.inl rfl) (.int .i64 f1)) (.inl rfl) (.bool b1)):p:=h
theorem AK {p:Prop} (h:p:=by have h1_:=hk_.1.2;have o_:=HORD.out;omega):p:=h
theorem AL {p:Prop} (h:p:=by intro h2_;have o_:=HORD.out;have t_:=HT.out;(try simp only [In2,Up,In,Ex,Exb] at hk_ h2_);omega):p:=h
theorem AM {p:Prop} (h:p:=by repeat (first|(with_reducible first|exact HI451.out|apply IsS85.alloc|apply IsS85.drewN|apply IsS85.drew|apply IsS85.set_1|apply IsS85.set_2|apply IsS85.far (hne:=NB451_447.out))|exact HI451.out)):p:=h
theorem AN {p:Prop} (h:p:=by repeat (first|(with_reducible first|exact HI361.out|apply IsS85.alloc|apply IsS85.drewN|apply IsS85.drew|apply IsS85.set_1|apply IsS85.set_2|apply IsS85.far (hne:=NB361_357.out))|exact HI361.out)):p:=h
theorem AP {p:Prop} (h:p:=by (with_reducible repeat (first|apply Kd.V_alloc|apply Kd.V_drewN|apply Kd.V_drew));exact HO_130001.out):p:=h
theorem AQ {p:Prop} (h:p:=by (with_reducible repeat (first|apply Kd.V_alloc|apply Kd.V_drewN|apply Kd.V_drew));exact HO_130000.out):p:=h
theorem AR {p:Prop} (h:p:=by (with_reducible repeat (first|refine aM ?_ _|refine aN ?_|refine aG ?_ _));refine bY ?_ NB170_171.out _;(with_reducible repeat (first|refine aM ?_ _|refine aN ?_|refine aG ?_ _));exact BK170.out):p:=h
theorem AT {p:Prop} (h:p:=by (with_reducible repeat (first|refine aM ?_ _|refine aN ?_|refine aG ?_ _));refine bY ?_ NB169_171.out _;(with_reducible repeat (first|refine aM ?_ _|refine aN ?_|refine aG ?_ _));exact BK169.out):p:=h
theorem AU {p:Prop} (h:p:=by repeat (first|(with_reducible first|exact HI466.out|apply IsS85.alloc|apply IsS85.drewN|apply IsS85.drew|apply IsS85.set_1|apply IsS85.set_2|apply IsS85.far (hne:=NB466_462.out))|exact HI466.out)):p:=h
theorem AV {p:Prop} (h:p:=by repeat (first|(with_reducible first|exact HI376.out|apply IsS85.alloc|apply IsS85.drewN|apply IsS85.drew|apply IsS85.set_1|apply IsS85.set_2|apply IsS85.far (hne:=NB376_372.out))|exact HI376.out)):p:=h
theorem AW {p:Prop} (h:p:=by (with_reducible repeat (first|refine aM ?_ _|refine aN ?_|refine aG ?_ _));exact BK110.out):p:=h
theorem AX {p:Prop} (h:p:=by repeat (first|(with_reducible exact HR162_0.out)|(with_reducible refine Kd.C_alloc ?_ _)|(with_reducible refine Kd.C_drewN ?_ _)|(with_reducible refine Kd.C_drew ?_)|exact HR162_0.out)):p:=h
theorem AY {p:Prop} (h:p:=by repeat (first|(with_reducible exact HR155_1.out)|(with_reducible refine Kd.C_alloc ?_ _)|(with_reducible refine Kd.C_drewN ?_ _)|(with_reducible refine Kd.C_drew ?_)|exact HR155_1.out)):p:=h
theorem AZ {p:Prop} (h:p:=by repeat (first|(with_reducible exact HR154_1.out)|(with_reducible refine Kd.C_alloc ?_ _)|(with_reducible refine Kd.C_drewN ?_ _)|(with_reducible refine Kd.C_drew ?_)|exact HR154_1.out)):p:=h
theorem Ak {p:Prop} (h:p:=by rw [hw_];exact Kept.setCell (Kept.refl wr (fun k_=>k_ = gb4)) (.inl rfl) (.slice none 0 0)):p:=h
theorem Am {p:Prop} (h:p:=by have o_:=HORD.out;have t_:=HT.out;(try simp only [In2,Up,In,Ex,Exb] at *);omega):p:=h
theorem Ap {p:Prop} (h:p:=by rw [et_];exact bJ hbk):p:=h
theorem Aq {p:Prop} (h:p:=by (with_reducible repeat (first|apply Kd.bW|apply Kd.bX|apply Kd.bV));exact Kd.aV HO265.out (fun _ hk=>⟨hk.1.1,⟨hk.1.2.1,⟨hk.1.2.2.1,⟨hk.1.2.2.2,hk.2⟩⟩⟩⟩)):p:=h
theorem Ar {p:Prop} (h:p:=by (with_reducible repeat (first|apply Kd.bW|apply Kd.bX|apply Kd.bV));exact Kd.aV HO262.out (fun _ hk=>⟨hk.1.1,⟨hk.1.2.1,⟨hk.1.2.2.1,⟨hk.1.2.2.2,hk.2⟩⟩⟩⟩)):p:=h
theorem As {p:Prop} (h:p:=by rw [hw_];exact Kept.setCell (Kept.setCell (Kept.refl w10 (fun k_=>k_ = gb10)) (.inl rfl) (.int .i64 ((rdW l0_1 x8).f0))) (.inl rfl) (.slice Ae9 ((rdW l0_1 x8).f1).length ce9)):p:=h
theorem Au {p:Prop} (h:p:=by have h_:(((rd_T50 t263 x6_2).f0):Int) < ((x269000_2.length:Int):Int):=lE tx;first|exact h_|(have e_:=(Kd.N_reads' HO_269000.out).1;omega)|simpa using h_):p:=h
theorem Ax {p:Prop} (h:p:=by exact HC0_1.out):p:=h
theorem Ay {p:Prop} (h:p:=by exact HC0_0.out):p:=h
abbrev T1:Bool:=true
abbrev F0:Bool:=false
end Go.Proofs
namespace Go.Proofs.YtilhcaofpfeioaaW.PrintWords
open Go.RowKit
theorem cs2 {w:World} {g:Nat} {t:TypeId} {v0 v1:Value} (h:w.heap[g]? = some (.cells #[v0,v1] t (0,0))):w.cell? ⟨g,0,none⟩ = some v0 ∧ w.cell? ⟨g,1,none⟩ = some v1:=⟨(aD h 0).trans rfl,(aD h 1).trans rfl⟩
theorem fs2 {w:World} {g:Nat} {t:TypeId} {v0 v1:Value} (h:w.heap[g]? = some (.cells #[v0,v1] t (0,0))):w.frozen? ⟨g,0,none⟩ = false ∧ w.frozen? ⟨g,1,none⟩ = false:=⟨cD h 0,cD h 1⟩
theorem bs2 {w:World} {g:Nat} {t:TypeId} {v0 v1:Value} (h:w.heap[g]? = some (.cells #[v0,v1] t (0,0))):(w.cell? ⟨g,0,none⟩ = some v0 ∧ w.cell? ⟨g,1,none⟩ = some v1) ∧ w.frozen? ⟨g,0,none⟩ = false ∧ w.frozen? ⟨g,1,none⟩ = false:=⟨cs2 h,fs2 h⟩
theorem cs4 {w:World} {g:Nat} {t:TypeId} {v0 v1 v2 v3:Value} (h:w.heap[g]? = some (.cells #[v0,v1,v2,v3] t (0,0))):w.cell? ⟨g,0,none⟩ = some v0 ∧ w.cell? ⟨g,1,none⟩ = some v1 ∧ w.cell? ⟨g,2,none⟩ = some v2 ∧ w.cell? ⟨g,3,none⟩ = some v3:=⟨(aD h 0).trans rfl,(aD h 1).trans rfl,(aD h 2).trans rfl,(aD h 3).trans rfl⟩
theorem fs4 {w:World} {g:Nat} {t:TypeId} {v0 v1 v2 v3:Value} (h:w.heap[g]? = some (.cells #[v0,v1,v2,v3] t (0,0))):w.frozen? ⟨g,0,none⟩ = false ∧ w.frozen? ⟨g,1,none⟩ = false ∧ w.frozen? ⟨g,2,none⟩ = false ∧ w.frozen? ⟨g,3,none⟩ = false:=⟨cD h 0,cD h 1,cD h 2,cD h 3⟩
theorem bs4 {w:World} {g:Nat} {t:TypeId} {v0 v1 v2 v3:Value} (h:w.heap[g]? = some (.cells #[v0,v1,v2,v3] t (0,0))):(w.cell? ⟨g,0,none⟩ = some v0 ∧ w.cell? ⟨g,1,none⟩ = some v1 ∧ w.cell? ⟨g,2,none⟩ = some v2 ∧ w.cell? ⟨g,3,none⟩ = some v3) ∧ w.frozen? ⟨g,0,none⟩ = false ∧ w.frozen? ⟨g,1,none⟩ = false ∧ w.frozen? ⟨g,2,none⟩ = false ∧ w.frozen? ⟨g,3,none⟩ = false:=⟨cs4 h,fs4 h⟩
theorem nF {α:Type} {d:Kd α} {W W1:World} {ok:Nat → Prop} {A:Option Addr} {n:Nat} {xs:List α} (h:aA (Kd.F d W ok A n xs)) (hb:Below W.heap.size W W1:=by exact hb):aA (Kd.F d W1 ok A n xs):=⟨Kd.F_below h.out hb⟩
theorem nB {w w1:World} {g:Nat} {o:Obj} (h:aA (w.heap[g]? = some o)) (hb:Below w.heap.size w w1:=by exact hb):aA (w1.heap[g]? = some o):=⟨bM h.out hb⟩
theorem nS {α:Type} {d:Kd α} {e base:Nat} {w w1:World} {ok:Nat → Prop} {v:Value} {xs:List α} (h:aA (Kd.S d e w base ok v xs)) (hb:Below w.heap.size w w1:=by exact hb):aA (Kd.S d e w1 base ok v xs):=⟨Kd.S_below h.out hb⟩
end Go.Proofs.YtilhcaofpfeioaaW.PrintWords

namespace Go.Proofs.Ytilhcaofpfeioaa.PFnDevsBent
open Go.RowKit Go.Proofs.YtilhcaofpfeioaaW.PrintWords Go.Proofs.YtilhcaofpfeioaaW.PrintLast Go.Proofs.YtilhcaofpfeioaaW.PrintMore
attribute [local go_sem] max2_int min2_int max_two min_two max_three min_three max_four min_four   -- for this text's walks alone
set_option linter.unusedVariables false
set_option linter.unusedSimpArgs false
def errW:Option Int → Value
 | none=>.nilIface
 | some c=>.iface 0 (.int .i64 c)
theorem errW_none:errW none = .nilIface:=rfl
theorem errW_some (c:Int):errW (some c) = .iface 0 (.int .i64 c):=rfl
theorem info5:(Try.prog.info? 5).map (fun i=>(i.zero,i.size,i.bytes)) = some (some (.int .u8 0),1,1):=by kernel_rfl
theorem info37:(Try.prog.info? 37).map (fun i=>(i.zero,i.size,i.bytes)) = some (some (.slice none 0 0),1,24):=by kernel_rfl
theorem info50:(Try.prog.info? 50).map (fun i=>(i.zero,i.size,i.bytes)) = some (some (.agg #[(.int .i64 0),(.slice none 0 0)]),2,32):=by kernel_rfl
-- the values' own types
def rd_L1 (xs:List (List Int)) (i:Int):(List Int):=xs.getD i.toNat ([]:List Int)
theorem at_L1 {w:World} {A:Option Addr} {n:Nat} {xs:List (List Int)} (h:Kd.C (Kd.slice 5 (Kd.int .u8)) w A n xs) (i:Int) (h0:0 ≤ i) (h1:i < n):∃ ad A0 c0,A = some ad ∧ w.cell? (ad.add i.toNat) = some (.slice A0 (rd_L1 xs i).length c0) ∧ (rd_L1 xs i).length ≤ c0 ∧ (Kd.int .u8).C w A0 (rd_L1 xs i).length (rd_L1 xs i):=by
 obtain ⟨ad,c,e,_,hK,hc0⟩:=Kd.C_get h ([]:List Int) i h0 h1
 have hc:∀ j u,c[j]? = some u → w.cell? (ad.add (i.toNat * 1 + j)) = some u:=hc0
 obtain ⟨A0,c0,rfl,l0,g0⟩:=hK
 exact ⟨ad,A0,c0,e,by have hq:=hc 0 _ rfl;rwa [Nat.mul_one,Nat.add_zero] at hq,l0,g0⟩
structure S50 where
 f0:Int
 f1:(List Int)
def z50:S50:=⟨(0:Int),([]:List Int)⟩
def k50:Kd S50:=Kd.iso (Kd.pair (Kd.int .i64) (Kd.slice 5 (Kd.int .u8))) (fun x:S50=>(x.f0,x.f1))
theorem k50_open {w:World} {x:S50} {cs:List Value} (h:k50.K w x cs):∃ A1 c1,cs = [.int .i64 x.f0,.slice A1 x.f1.length c1] ∧ x.f1.length ≤ c1 ∧ (Kd.int .u8).C w A1 x.f1.length x.f1:=by
 obtain ⟨_,_,rfl,rfl,⟨A1,c1,rfl,l1,g1⟩⟩:=h
 exact ⟨A1,c1,rfl,l1,g1⟩
theorem k50_mk (w:World) (x:S50) {A1:Option Addr} {c1:Nat} (l1:x.f1.length ≤ c1) (g1:(Kd.int .u8).C w A1 x.f1.length x.f1):k50.K w x [.int .i64 x.f0,.slice A1 x.f1.length c1]:=⟨[.int .i64 x.f0],[.slice A1 x.f1.length c1],rfl,rfl,⟨A1,c1,rfl,l1,g1⟩⟩
theorem k50_mkM (w:World) (base:Nat) (ok:Nat → Prop) (x:S50) {v1:Value} (g1:(Kd.int .u8).R 5 w base ok v1 x.f1):k50.M w base ok x [.int .i64 x.f0,v1]:=⟨[.int .i64 x.f0],[v1],rfl,rfl,⟨v1,rfl,g1⟩⟩
theorem k50_openF {W:World} {ok:Nat → Prop} {x:S50} {cs:List Value} (h:Kd.FK k50 W ok x cs):∃ A1 c1,cs = [.int .i64 x.f0,.slice A1 x.f1.length c1] ∧ x.f1.length ≤ c1 ∧ Kd.F (Kd.int .u8) W ok A1 x.f1.length x.f1:=by
 obtain ⟨A1,c1,rfl,l1,_⟩:=k50_open (Kd.FK_now h)
 exact ⟨A1,c1,rfl,l1,(fun W' hW=>by obtain ⟨A1_,c1_,he,l1_,g1_⟩:=k50_open (h W' hW);injection (Option.some.inj (show some (Value.slice A1 x.f1.length c1) = some (Value.slice A1_ x.f1.length c1_) from congrArg (fun l=>l[1]?) he)) with ha_ _ _;rw [ha_];exact g1_)⟩
theorem k50_mkF (W:World) (ok:Nat → Prop) (x:S50) {A1:Option Addr} {c1:Nat} (l1:x.f1.length ≤ c1) (g1:Kd.F (Kd.int .u8) W ok A1 x.f1.length x.f1):Kd.FK k50 W ok x [.int .i64 x.f0,.slice A1 x.f1.length c1]:=fun W2 hW=>k50_mk W2 x l1 (g1 W2 hW)
def rd_T50 (xs:List S50) (i:Int):S50:=xs.getD i.toNat z50
theorem at_T50 {w:World} {A:Option Addr} {n:Nat} {xs:List S50} (h:Kd.C k50 w A n xs) (i:Int) (h0:0 ≤ i) (h1:i < n):∃ ad A1 c1,A = some ad ∧ w.cell? (ad.add (i.toNat * 2)) = some (.int .i64 (rd_T50 xs i).f0) ∧ w.cell? ⟨(ad.add (i.toNat * 2)).block,(ad.add (i.toNat * 2)).off + 1,none⟩ = some (.slice A1 (rd_T50 xs i).f1.length c1) ∧ (rd_T50 xs i).f1.length ≤ c1 ∧ (Kd.int .u8).C w A1 (rd_T50 xs i).f1.length (rd_T50 xs i).f1:=by
 obtain ⟨ad,c,e,_,hK,hc0⟩:=Kd.C_get h z50 i h0 h1
 have hc:∀ j u,c[j]? = some u → w.cell? (ad.add (i.toNat * 2 + j)) = some u:=hc0
 obtain ⟨A1,c1,rfl,l1,g1⟩:=k50_open hK
 exact ⟨ad,A1,c1,e,hc 0 _ rfl,by rw [← add_field _ _ 1 tZ];exact hc 1 _ rfl,l1,g1⟩
end Go.Proofs.Ytilhcaofpfeioaa.PFnDevsBent

namespace Go.Proofs.Ytilhcaofpfeioaa.PFnDevsBent
open Go.RowKit Go.Proofs.YtilhcaofpfeioaaW.PrintWords Go.Proofs.YtilhcaofpfeioaaW.PrintLast Go.Proofs.YtilhcaofpfeioaaW.PrintMore
attribute [local go_sem] max2_int min2_int max_two min_two max_three min_three max_four min_four   -- for this text's walks alone
set_option linter.unusedVariables false
set_option linter.unusedSimpArgs false
def spec_l1In.f (a0:Int) (a1:Int) (a2:Int):Option (Bool):=if a0 ≥ a1 then (some (decide (a0 ≤ a2))) else (some false)
set_option maxHeartbeats 8000000 in
set_option maxRecDepth 100000 in
theorem spec_l1In.calls (a0:Int) (a1:Int) (a2:Int) (r:Bool) (w:World) (h:spec_l1In.f a0 a1 a2 = some r) :
  Calls Try.prog 43 #[.int .i64 a0,.int .i64 a1,.int .i64 a2] w fun e w'=>e = .returned (.bool r) ∧ Drawn0 w w':=by
 have H:(if a0 ≥ a1 then (some (decide (a0 ≤ a2))) else (some false)) = some r:=h
 clear h
 by_cases c4:a0 ≥ a1
 ·rw [if_pos c4] at H
  have c4b0:decide (a1 ≤ a0) = true:=decide_eq_true c4
  clear c4
  obtain rfl:=Option.some.inj H
  go_enter Try.func43,Try.ntmps43
  go_wp2
  go_ret
  exact wR
 ·rw [if_neg c4] at H
  have c4b0:decide (a1 ≤ a0) = false:=decide_eq_false c4
  clear c4
  obtain rfl:=Option.some.inj H
  go_enter Try.func43,Try.ntmps43
  go_wp2
  go_ret
  exact wR
def spec_DevNew.l0:Nat → Int → Int → List (List Int) → Int → Bool → Option ((List (List Int)) × (List (S50)) × Int × Bool)
 | 0,_,_,_,_,_=>none
 | k + 1,x0,x4,x104000,x104002,x104003=>if x4 < x0 then (if x104000.length < 5864062014805 then (spec_DevNew.l0 k x0 (wrap64 (x4 + 1)) (x104000 ++ [(([]:List Int))]) x104002 x104003) else (none)) else (some (x104000,([]:List (S50)),x104002,x104003))
def spec_DevNew.f (k:Nat) (a0:Int):Option ((List (List Int)) × (List (S50)) × Int × Bool):=(spec_l1In.f a0 1 60).bind fun t102=>(if t102 = true then (spec_DevNew.l0 k a0 0 ([]:List (List Int)) (-1) false) else (some (([]:List (List Int)),([]:List (S50)),0,false)))
set_option maxHeartbeats 8000000 in
set_option maxRecDepth 100000 in
theorem spec_DevNew.calls (k:Nat) (a0:Int) (r1:List (List Int)) (r2:List (S50)) (r3:Int) (r4:Bool) (w:World) (h:spec_DevNew.f k a0 = some (r1,r2,r3,r4)) :
  Calls Try.prog 12 #[.int .i64 a0] w fun e w'=>∃ v0_ v1_:Value,e = .returned (.agg #[v0_,v1_,.int .i64 r3,.bool r4]) ∧ Kd.S (Kd.slice 5 (Kd.int .u8)) 37 w' w.heap.size (fun _=>True) v0_ r1 ∧ Kd.S k50 50 w' w.heap.size (fun _=>True) v1_ r2 ∧ Below w.heap.size w w':=by
 have hu25:=Try.underlying25
 have HB:=aA.mk (Below.refl w.heap.size w)
 have H:((spec_l1In.f a0 1 60).bind fun t102=>(if t102 = true then (spec_DevNew.l0 k a0 0 ([]:List (List Int)) (-1) false) else (some (([]:List (List Int)),([]:List (S50)),0,false)))) = some (r1,r2,r3,r4):=h
 clear h
 replace H:=lF H
 obtain ⟨t102,A20,H⟩:=H
 replace H:(if t102 = true then (spec_DevNew.l0 k a0 0 ([]:List (List Int)) (-1) false) else (some (([]:List (List Int)),([]:List (S50)),0,false))) = some (r1,r2,r3,r4):=H
 have A2:=aA.mk A20
 clear A20
 by_cases c3:t102 = true
 ·subst c3
  have H1:(spec_DevNew.l0 k a0 0 ([]:List (List Int)) (-1) false) = some (r1,r2,r3,r4):=by rw [if_pos rfl] at H;exact H
  clear H
  have H:=H1
  clear H1
  have H':=aA.mk H
  clear H
  go_enter Try.func12,Try.ntmps12
  go_wp2_with (first|((with_reducible refine bC (N:=2) rfl ?_);refine bD ?hg (N:=2) ?hd (cs:=#[.slice none 0 0,.slice none 0 0,.int .i64 0,.bool false]) (t:=25) ?hr ?_;(case hd=>rfl);(case hg=>rfl);(case hr=>exact tE);intro gb101 hg w4 hbox hb;have BK101:=aA.mk (hbox);have GW101:=aA.mk ((by rw [hg];exact (aX tp):w.heap.size ≤ gb101));have GE101:=aA.mk ((by rw [hg];exact (aX tp):w.heap.size ≤ gb101));replace HB:=aA.mk (aT tp hb);clear hb hbox hg)|((with_reducible refine aW (f:=43) rfl ?_);refine bK (some 6) rfl rfl Try.func43 tG rfl #[.int .i64 a0,.int .i64 1,.int .i64 60] rfl tC ?_;(with_reducible refine (spec_l1In.calls a0 1 60 true _ A2.out).mono ?_);rintro e w' ⟨rfl,⟨nd,rfl⟩⟩;refine ⟨_,rfl,?_⟩;(try (rw [drewN_self w4];generalize hq_:World.drewN w4 _ = w4;have n0_:aA (w4.heap[gb101]? = some (.cells #[.slice none 0 0,.slice none 0 0,.int .i64 0,.bool false] 25 (0,0))):=⟨by rw [← hq_];exact BK101.out⟩;have n1_:aA (Below w.heap.size w w4):=⟨by rw [← hq_];exact vz⟩;clear BK101 HB hq_;have BK101:=n0_;have HB:=n1_;clear n0_ n1_)))|((with_reducible refine bC (N:=3) rfl ?_);refine bD ?hg (N:=3) ?hd (cs:=#[.slice none 0 0,.slice none 0 0,.int .i64 0,.bool false]) (t:=25) ?hr ?_;(case hd=>rfl);(case hg=>rfl);(case hr=>exact tE);intro gb103 hg w5 hbox hb;have BK103:=aA.mk (hbox);have GW103:=aA.mk ((by rw [hg];exact (aX vz):w.heap.size ≤ gb103));have GE103:=aA.mk ((by rw [hg];exact (aX vz):w.heap.size ≤ gb103));replace HB:=aA.mk (aT vz hb);have NB101_103:=aA.mk ((by rw [hg];exact Nat.ne_of_lt (bJ (g:=gb101) (o:=.cells #[.slice none 0 0,.slice none 0 0,.int .i64 0,.bool false] 25 (0,0)) BK101.out):gb101 ≠ gb103));have NB103_101:=aA.mk ((by rw [hg];exact Nat.ne_of_gt (bJ (g:=gb101) (o:=.cells #[.slice none 0 0,.slice none 0 0,.int .i64 0,.bool false] 25 (0,0)) BK101.out):gb103 ≠ gb101));replace BK101:=aA.mk (bM (g:=gb101) (o:=.cells #[.slice none 0 0,.slice none 0 0,.int .i64 0,.bool false] 25 (0,0)) BK101.out hb);clear hb hbox hg;have hnb6:=NB103_101.out;have hnc6:=NB101_103.out;obtain ⟨hcz7_0,hcz7_1,hcz7_2,hcz7_3⟩:=cs4 BK103.out;obtain ⟨hfz7_0,hfz7_1,hfz7_2,hfz7_3⟩:=fs4 BK103.out))
  go_loopg [4] k (fun kq v4 w'=>∃ (x4_1:Int) (x104000_1:List (List Int)) (u104000:Value),v4 = .int .i64 x4_1 ∧ aA (spec_DevNew.l0 kq a0 x4_1 x104000_1 (-1) false = some (r1,r2,r3,r4)) ∧ aA (kq ≤ k) ∧ aA (Kd.S (Kd.slice 5 (Kd.int .u8)) 37 w' w.heap.size (fun _=>True) u104000 x104000_1) ∧ aA (w'.heap[gb101]? = some (.cells #[(.slice none 0 0),(.slice none 0 0),.int .i64 0,.bool false] 25 (0,0))) ∧ aA (w'.heap[gb103]? = some (.cells #[u104000,(.slice none 0 0),.int .i64 (-1),.bool false] 25 (0,0))) ∧ aA (Below w.heap.size w w'))
  case atStart=>exact ⟨(0),(([]:List (List Int))),(.slice none 0 0),td,H',⟨Nat.le_refl _⟩,⟨vD⟩,⟨by (with_reducible repeat (first|refine aM ?_ _|refine aN ?_|refine aG ?_ _));refine bY ?_ NB101_103.out _;(with_reducible repeat (first|refine aM ?_ _|refine aN ?_|refine aG ?_ _));refine bY ?_ NB101_103.out _;(with_reducible repeat (first|refine aM ?_ _|refine aN ?_|refine aG ?_ _));refine bY ?_ NB101_103.out _;(with_reducible repeat (first|refine aM ?_ _|refine aN ?_|refine aG ?_ _));refine bY ?_ NB101_103.out _;(with_reducible repeat (first|refine aM ?_ _|refine aN ?_|refine aG ?_ _));exact BK101.out⟩,⟨by (with_reducible repeat (first|refine aM ?_ _|refine aN ?_|refine aG ?_ _));refine aQ (cs:=#[.slice none 0 0,.slice none 0 0,.int .i64 (-1),.bool false]) ?_ 3 _ rfl;(with_reducible repeat (first|refine aM ?_ _|refine aN ?_|refine aG ?_ _));refine aQ (cs:=#[.slice none 0 0,.slice none 0 0,.int .i64 0,.bool false]) ?_ 2 _ rfl;(with_reducible repeat (first|refine aM ?_ _|refine aN ?_|refine aG ?_ _));refine aQ (cs:=#[.slice none 0 0,.slice none 0 0,.int .i64 0,.bool false]) ?_ 1 _ rfl;(with_reducible repeat (first|refine aM ?_ _|refine aN ?_|refine aG ?_ _));refine aQ (cs:=#[.slice none 0 0,.slice none 0 0,.int .i64 0,.bool false]) ?_ 0 _ rfl;(with_reducible repeat (first|refine aM ?_ _|refine aN ?_|refine aG ?_ _));exact BK103.out⟩,⟨ws⟩⟩
  case round =>
   clear H'
   try clear c1
   try clear p2
   try clear c3
   try clear c4
   try clear c6
   try clear hcz7_0
   try clear hcz7_1
   try clear hcz7_2
   try clear hcz7_3
   try clear hfz7_0
   try clear hfz7_1
   try clear hfz7_2
   try clear hfz7_3
   obtain ⟨x4_1,x104000_1,u104000,rfl,HA,HK1,HO_104000,BK101,BK103,HB⟩:=hrel
   cases gk with
   | zero=>exact absurd HA.out (by simp [spec_DevNew.l0])
   | succ k1 =>
    have H:=HA.out
    clear HA
    simp only [spec_DevNew.l0] at H
    by_cases c8:x4_1 < a0
    ·rw [if_pos c8] at H
     have c8b0:decide (x4_1 < a0) = true:=decide_eq_true c8
     clear c8
     obtain ⟨y104,hy104⟩:∃ y_:List Int,y_ = (([]:List Int)):=⟨_,rfl⟩
     replace H:(if x104000_1.length < 5864062014805 then (spec_DevNew.l0 k1 a0 (wrap64 (x4_1 + 1)) (x104000_1 ++ [y104]) (-1) false) else (none)) = some (r1,r2,r3,r4):=by first|(rw [hy104];with_reducible exact H)|(have H2_:=(Option.bind_some _ _).symm.trans H;rw [hy104];with_reducible exact H2_)|(have H2_:=(Option.bind_some _ _).symm.trans H;with_reducible exact H2_)|with_reducible exact H|(rw [hy104];exact H)|exact H
     have Ny104:=aA.mk hy104
     clear hy104
     by_cases c9:x104000_1.length < 5864062014805
     ·rw [if_pos c9] at H
      have LMc9:=aA.mk c9
      clear c9
      obtain ⟨y107,hy107⟩:∃ y_:List (List Int),y_ = (x104000_1 ++ [y104]):=⟨_,rfl⟩
      replace H:(spec_DevNew.l0 k1 a0 (wrap64 (x4_1 + 1)) y107 (-1) false) = some (r1,r2,r3,r4):=by first|(rw [hy107];with_reducible exact H)|(have H2_:=(Option.bind_some _ _).symm.trans H;rw [hy107];with_reducible exact H2_)|(have H2_:=(Option.bind_some _ _).symm.trans H;with_reducible exact H2_)|with_reducible exact H|(rw [hy107];exact H)|exact H
      have Ny107:=aA.mk hy107
      clear hy107
      have H':=aA.mk H
      clear H
      have hnb10:=NB103_101.out
      have hnc10:=NB101_103.out
      obtain ⟨hcz11_0,hcz11_1,hcz11_2,hcz11_3⟩:=cs4 BK103.out
      obtain ⟨hfz11_0,hfz11_1,hfz11_2,hfz11_3⟩:=fs4 BK103.out
      go_wp2_with (first|((with_reducible refine bC (N:=17) rfl ?_);refine Kd.R_lit (Kd.int .u8) _ 5 ?hg (N:=17) ?hd (xs:=([]:List Int)) (inner:=[]) (ok:=fun _=>True) (okp:=fun _=>True) ?hr ?hp (fun _ hk=>hk) trivial (Below.refl _ _) (Nat.le_refl _) vN ?_;(case hd=>rfl);(case hg=>rfl);(case hr=>exact tE);(case hp=>exact (Reps.none _ _));intro v105 w12 ho13 hb hg_ hnew_;clear hg_ hnew_;(first|rw [← Ny104.out] at ho13|(simp only [Int.reduceToNat] at ho13;rw [← Ny104.out] at ho13));replace HO_104000:=aA.mk (Kd.S_elder' HO_104000.out (Kd.R_base ho13) hb);have HO106:=aA.mk (Kd.R_lower ho13 (aX wM));replace BK101:=aA.mk (bM (g:=gb101) (o:=.cells #[.slice none 0 0,.slice none 0 0,.int .i64 0,.bool false] 25 (0,0)) BK101.out hb);replace BK103:=aA.mk (bM (g:=gb103) (o:=.cells #[u104000,.slice none 0 0,.int .i64 (-1),.bool false] 25 (0,0)) BK103.out hb);replace HB:=aA.mk (aT wM hb);clear hb ho13;obtain ⟨Ao15,co15,eo15⟩:=Kd.R_slice HO106.out;subst eo15)|((with_reducible refine gate_builtin (b:=.append) (xs:=#[.tmp 16,.tmp 18]) rfl ?_);at_builtin;refine Kd.S_append (Kd.slice 5 (Kd.int .u8)) (w0:=w) w.heap.size rfl (.tmp 16) (.tmp 18) 22 37 (.slice none 0 0) 24 rfl Try.underlying22 info37 rfl tf tZ u104000 x104000_1 y104 [.slice Ao15 y104.length co15] (fun _=>True) (fun k_=>some k_ = (.slice Ao15 y104.length co15:Value).ownBlock) rfl rfl ?aP (fun k_ hk_=>((Kd.R_mono (ok':=fun k_=>((fun _=>True)) k_ ∧ some k_ ≠ (u104000:Value).ownBlock) (Kd.R_apart' (HO106.out) (Kd.S_typed HO_104000.out) tf) (fun k_ hk=>⟨trivial,hk.2⟩))).1 k_ hk_.symm) ?aF ?aO ?aB ?aS ?aL ?_;(case aP=>exact Kd.M_row (Kd.R_mono (Kd.R_tight rfl (Kd.R_mono (ok':=fun k_=>((fun _=>True)) k_ ∧ some k_ ≠ (u104000:Value).ownBlock) (Kd.R_apart' (HO106.out) (Kd.S_typed HO_104000.out) tf) (fun k_ hk=>⟨trivial,hk.2⟩))) (fun _ h_=>h_)));(case aB=>exact wM);(case aF=>exact (fun _ _=>trivial));(case aO=>exact (by (with_reducible repeat (first|apply Kd.S_alloc|apply Kd.S_drewN|apply Kd.S_drew));exact Kd.bU HO_104000.out (fun k_ hk=>⟨trivial,fun e_=>hk.2 e_⟩)));(case aS=>exact (aX wM));(case aL=>have:=LMc9.out;omega);intro v108 w14 ho hb hg hat;rw [← Ny107.out] at ho;replace BK101:=aA.mk (blk_grown (g:=gb101) (o:=.cells #[.slice none 0 0,.slice none 0 0,.int .i64 0,.bool false] 25 (0,0)) BK101.out hg (Kd.S_ne HO_104000.out BK101.out tf));replace BK103:=aA.mk (blk_grown (g:=gb103) (o:=.cells #[u104000,.slice none 0 0,.int .i64 (-1),.bool false] 25 (0,0)) BK103.out hg (Kd.S_ne HO_104000.out BK103.out tf));replace HB:=aA.mk (hb);have HO109:=aA.mk (ho);clear HO_104000;clear HO106;clear ho hb hg hat;obtain ⟨Ao16,co16,eo16⟩:=Kd.S_slice HO109.out;subst eo16;obtain ⟨hcz17_0,hcz17_1,hcz17_2,hcz17_3⟩:=cs4 BK103.out;obtain ⟨hfz17_0,hfz17_1,hfz17_2,hfz17_3⟩:=fs4 BK103.out))
      go_roundg k1
      case measure=>have:=HK1.out;omega
      case rel=>exact ⟨(wrap64 (x4_1 + 1)),(y107),(.slice Ao16 y107.length co16),td,H',⟨by have:=HK1.out;omega⟩,⟨by (with_reducible repeat (first|apply Kd.S_alloc|apply Kd.S_drewN|apply Kd.S_drew));exact Kd.bU (Kd.S_far (p:=⟨gb103,0,none⟩) (Kd.S_types HO109.out BK103.out tf) (fun _ hk=>hk.2) (.slice Ao16 y107.length co16)) (fun _ hk=>trivial)⟩,⟨by (with_reducible repeat (first|refine aM ?_ _|refine aN ?_|refine aG ?_ _));refine bY ?_ NB101_103.out _;(with_reducible repeat (first|refine aM ?_ _|refine aN ?_|refine aG ?_ _));exact BK101.out⟩,⟨by (with_reducible repeat (first|refine aM ?_ _|refine aN ?_|refine aG ?_ _));refine aQ (cs:=#[u104000,.slice none 0 0,.int .i64 (-1),.bool false]) ?_ 0 _ rfl;(with_reducible repeat (first|refine aM ?_ _|refine aN ?_|refine aG ?_ _));exact BK103.out⟩,⟨ws⟩⟩
     ·rw [if_neg c9] at H
      exact wX
    ·rw [if_neg c8] at H
     have c8b0:decide (x4_1 < a0) = false:=decide_eq_false c8
     clear c8
     simp only [Option.some.injEq,Prod.mk.injEq] at H
     obtain ⟨rfl,rfl,rfl,rfl⟩:=H
     have hnb18:=NB103_101.out
     have hnc18:=NB101_103.out
     obtain ⟨hcz19_0,hcz19_1,hcz19_2,hcz19_3⟩:=cs4 BK103.out
     obtain ⟨hfz19_0,hfz19_1,hfz19_2,hfz19_3⟩:=fs4 BK103.out
     obtain ⟨Ao20,co20,eo20⟩:=Kd.S_slice HO_104000.out
     subst eo20
     obtain ⟨hcz21_0,hcz21_1,hcz21_2,hcz21_3⟩:=cs4 BK101.out
     obtain ⟨hfz21_0,hfz21_1,hfz21_2,hfz21_3⟩:=fs4 BK101.out
     go_wp2
     refine bodyPost_ret (results_cell_row rfl _ _ gb101 25 #[.slice Ao20 x104000_1.length co20,.slice none 0 0,.int .i64 (-1),.bool false] (0,0) _ rfl (by (with_reducible repeat (first|refine aM ?_ _|refine aN ?_|refine aG ?_ _));refine aQ (cs:=#[.slice Ao20 x104000_1.length co20,.slice none 0 0,.int .i64 (-1),.bool false]) ?_ 3 _ rfl;(with_reducible repeat (first|refine aM ?_ _|refine aN ?_|refine aG ?_ _));refine aQ (cs:=#[.slice Ao20 x104000_1.length co20,.slice none 0 0,.int .i64 0,.bool false]) ?_ 2 _ rfl;(with_reducible repeat (first|refine aM ?_ _|refine aN ?_|refine aG ?_ _));refine aQ (cs:=#[.slice Ao20 x104000_1.length co20,.slice none 0 0,.int .i64 0,.bool false]) ?_ 1 _ rfl;(with_reducible repeat (first|refine aM ?_ _|refine aN ?_|refine aG ?_ _));refine aQ (cs:=#[.slice none 0 0,.slice none 0 0,.int .i64 0,.bool false]) ?_ 0 _ rfl;(with_reducible repeat (first|refine aM ?_ _|refine aN ?_|refine aG ?_ _));exact BK101.out) Try.underlying25 rfl tG) rfl ?_
     exact ⟨_,_,tN,by (with_reducible repeat (first|apply Kd.S_alloc|apply Kd.S_drewN|apply Kd.S_drew));exact Kd.bU (Kd.S_far (p:=⟨gb101,3,none⟩) (Kd.S_far (p:=⟨gb101,2,none⟩) (Kd.S_far (p:=⟨gb101,1,none⟩) (Kd.S_far (p:=⟨gb101,0,none⟩) (Kd.S_types HO_104000.out BK101.out tf) (fun _ hk=>hk.2) (.slice Ao20 x104000_1.length co20)) (fun _ hk=>hk.2) (.slice none 0 0)) (fun _ hk=>hk.2) (.int .i64 (-1))) (fun _ hk=>hk.2) (.bool false)) (fun _ hk=>trivial),vD,ws⟩
 ·replace c3:=Bool.eq_false_iff.mpr c3
  subst c3
  have H1:(some (([]:List (List Int)),([]:List (S50)),0,false)) = some (r1,r2,r3,r4):=by rw [if_neg (show ¬ (false = true) by decide)] at H;exact H
  clear H
  have H:=H1
  clear H1
  simp only [Option.some.injEq,Prod.mk.injEq] at H
  obtain ⟨rfl,rfl,rfl,rfl⟩:=H
  go_enter Try.func12,Try.ntmps12
  go_wp2_with (first|((with_reducible refine bC (N:=2) rfl ?_);refine bD ?hg (N:=2) ?hd (cs:=#[.slice none 0 0,.slice none 0 0,.int .i64 0,.bool false]) (t:=25) ?hr ?_;(case hd=>rfl);(case hg=>rfl);(case hr=>exact tE);intro gb101 hg w22 hbox hb;have BK101:=aA.mk (hbox);have GW101:=aA.mk ((by rw [hg];exact (aX tp):w.heap.size ≤ gb101));have GE101:=aA.mk ((by rw [hg];exact (aX tp):w.heap.size ≤ gb101));replace HB:=aA.mk (aT tp hb);clear hb hbox hg)|((with_reducible refine aW (f:=43) rfl ?_);refine bK (some 6) rfl rfl Try.func43 tG rfl #[.int .i64 a0,.int .i64 1,.int .i64 60] rfl tC ?_;(with_reducible refine (spec_l1In.calls a0 1 60 false _ A2.out).mono ?_);rintro e w' ⟨rfl,⟨nd,rfl⟩⟩;refine ⟨_,rfl,?_⟩;(try (rw [drewN_self w22];generalize hq_:World.drewN w22 _ = w22;have n0_:aA (w22.heap[gb101]? = some (.cells #[.slice none 0 0,.slice none 0 0,.int .i64 0,.bool false] 25 (0,0))):=⟨by rw [← hq_];exact BK101.out⟩;have n1_:aA (Below w.heap.size w w22):=⟨by rw [← hq_];exact vz⟩;clear BK101 HB hq_;have BK101:=n0_;have HB:=n1_;clear n0_ n1_));(try have hcz23_0:w22.cell? ⟨gb101,0,none⟩ = some (.slice none 0 0):=(aD BK101.out 0).trans rfl);(try have hfz23_0:=cD BK101.out 0);(try have hcz23_1:w22.cell? ⟨gb101,1,none⟩ = some (.slice none 0 0):=(aD BK101.out 1).trans rfl);(try have hfz23_1:=cD BK101.out 1);(try have hcz23_2:w22.cell? ⟨gb101,2,none⟩ = some (.int .i64 0):=(aD BK101.out 2).trans rfl);(try have hfz23_2:=cD BK101.out 2);(try have hcz23_3:w22.cell? ⟨gb101,3,none⟩ = some (.bool false):=(aD BK101.out 3).trans rfl);(try have hfz23_3:=cD BK101.out 3);obtain ⟨hcz23_0,hcz23_1,hcz23_2,hcz23_3⟩:=cs4 BK101.out;obtain ⟨hfz23_0,hfz23_1,hfz23_2,hfz23_3⟩:=fs4 BK101.out))
  refine bodyPost_ret (results_cell_row rfl _ _ gb101 25 #[.slice none 0 0,.slice none 0 0,.int .i64 0,.bool false] (0,0) _ rfl (by (with_reducible repeat (first|refine aM ?_ _|refine aN ?_|refine aG ?_ _));refine aQ (cs:=#[.slice none 0 0,.slice none 0 0,.int .i64 0,.bool false]) ?_ 3 _ rfl;(with_reducible repeat (first|refine aM ?_ _|refine aN ?_|refine aG ?_ _));refine aQ (cs:=#[.slice none 0 0,.slice none 0 0,.int .i64 0,.bool false]) ?_ 2 _ rfl;(with_reducible repeat (first|refine aM ?_ _|refine aN ?_|refine aG ?_ _));refine aQ (cs:=#[.slice none 0 0,.slice none 0 0,.int .i64 0,.bool false]) ?_ 1 _ rfl;(with_reducible repeat (first|refine aM ?_ _|refine aN ?_|refine aG ?_ _));refine aQ (cs:=#[.slice none 0 0,.slice none 0 0,.int .i64 0,.bool false]) ?_ 0 _ rfl;(with_reducible repeat (first|refine aM ?_ _|refine aN ?_|refine aG ?_ _));exact BK101.out) Try.underlying25 rfl tG) rfl ?_
  exact ⟨_,_,tN,vD,vD,by repeat (first|(with_reducible first|exact HB.out|apply aJ|apply aE|apply aH|refine aC ?_ GE101.out)|exact HB.out)⟩
def impl_within.f (a0:Int) (a1:Int) (a2:Int):Option (Bool):=if a0 ≥ a1 then (some (decide (a0 ≤ a2))) else (some false)
set_option maxHeartbeats 8000000 in
set_option maxRecDepth 100000 in
theorem impl_within.calls (a0:Int) (a1:Int) (a2:Int) (r:Bool) (w:World) (h:impl_within.f a0 a1 a2 = some r) :
  Calls Try.prog 44 #[.int .i64 a0,.int .i64 a1,.int .i64 a2] w fun e w'=>e = .returned (.bool r) ∧ Drawn0 w w':=by
 have H:(if a0 ≥ a1 then (some (decide (a0 ≤ a2))) else (some false)) = some r:=h
 clear h
 by_cases c4:a0 ≥ a1
 ·rw [if_pos c4] at H
  have c4b0:decide (a1 ≤ a0) = true:=decide_eq_true c4
  clear c4
  obtain rfl:=Option.some.inj H
  go_enter Try.func44,Try.ntmps44
  go_wp2
  go_ret
  exact wR
 ·rw [if_neg c4] at H
  have c4b0:decide (a1 ≤ a0) = false:=decide_eq_false c4
  clear c4
  obtain rfl:=Option.some.inj H
  go_enter Try.func44,Try.ntmps44
  go_wp2
  go_ret
  exact wR
def impl_DevNew.f (a0:Int):Option ((List (List Int)) × (List (S50)) × Int × Bool):=(impl_within.f a0 1 60).bind fun t111=>(if t111 = true then (if 0 ≤ a0 then (if (a0:Int).toNat ≤ 11728124029610 then (some ((List.replicate (a0:Int).toNat []),([]:List (S50)),(-1),false)) else (none)) else (none)) else (some (([]:List (List Int)),([]:List (S50)),0,false)))
set_option maxHeartbeats 8000000 in
set_option maxRecDepth 100000 in
theorem impl_DevNew.calls (a0:Int) (r1:List (List Int)) (r2:List (S50)) (r3:Int) (r4:Bool) (w:World) (h:impl_DevNew.f a0 = some (r1,r2,r3,r4)) :
  Calls Try.prog 13 #[.int .i64 a0] w fun e w'=>∃ v0_ v1_:Value,e = .returned (.agg #[v0_,v1_,.int .i64 r3,.bool r4]) ∧ Kd.S (Kd.slice 5 (Kd.int .u8)) 37 w' w.heap.size (fun _=>True) v0_ r1 ∧ Kd.S k50 50 w' w.heap.size (fun _=>True) v1_ r2 ∧ Below w.heap.size w w':=by
 have hu25:=Try.underlying25
 have HB:=aA.mk (Below.refl w.heap.size w)
 have H:((impl_within.f a0 1 60).bind fun t111=>(if t111 = true then (if 0 ≤ a0 then (if (a0:Int).toNat ≤ 11728124029610 then (some ((List.replicate (a0:Int).toNat []),([]:List (S50)),(-1),false)) else (none)) else (none)) else (some (([]:List (List Int)),([]:List (S50)),0,false)))) = some (r1,r2,r3,r4):=h
 clear h
 replace H:=lF H
 obtain ⟨t111,A20,H⟩:=H
 replace H:(if t111 = true then (if 0 ≤ a0 then (if (a0:Int).toNat ≤ 11728124029610 then (some ((List.replicate (a0:Int).toNat []),([]:List (S50)),(-1),false)) else (none)) else (none)) else (some (([]:List (List Int)),([]:List (S50)),0,false))) = some (r1,r2,r3,r4):=H
 have A2:=aA.mk A20
 clear A20
 by_cases c3:t111 = true
 ·subst c3
  have H1:(if 0 ≤ a0 then (if (a0:Int).toNat ≤ 11728124029610 then (some ((List.replicate (a0:Int).toNat []),([]:List (S50)),(-1),false)) else (none)) else (none)) = some (r1,r2,r3,r4):=by rw [if_pos rfl] at H;exact H
  clear H
  have H:=H1
  clear H1
  by_cases c4:0 ≤ a0
  ·rw [if_pos c4] at H
   have c4b0:=eq_true c4
   have c4b1:decide (0 ≤ a0) = true:=decide_eq_true c4
   clear c4
   by_cases c5:(a0:Int).toNat ≤ 11728124029610
   ·rw [if_pos c5] at H
    have c5b0:=eq_true c5
    have c5b1:decide ((a0:Int).toNat ≤ 11728124029610) = true:=decide_eq_true c5
    clear c5
    obtain ⟨y112,hy112⟩:∃ y_:List (List Int),y_ = (List.replicate (a0:Int).toNat []):=⟨_,rfl⟩
    replace H:(some (y112,([]:List (S50)),(-1),false)) = some (r1,r2,r3,r4):=by first|(rw [hy112];with_reducible exact H)|(have H2_:=(Option.bind_some _ _).symm.trans H;rw [hy112];with_reducible exact H2_)|(have H2_:=(Option.bind_some _ _).symm.trans H;with_reducible exact H2_)|with_reducible exact H|(rw [hy112];exact H)|exact H
    have Ny112:=aA.mk hy112
    clear hy112
    simp only [Option.some.injEq,Prod.mk.injEq] at H
    obtain ⟨rfl,rfl,rfl,rfl⟩:=H
    go_enter Try.func13,Try.ntmps13
    go_wp2_with (first|((with_reducible refine bC (N:=2) rfl ?_);refine bD ?hg (N:=2) ?hd (cs:=#[.slice none 0 0,.slice none 0 0,.int .i64 0,.bool false]) (t:=25) ?hr ?_;(case hd=>rfl);(case hg=>rfl);(case hr=>exact tE);intro gb110 hg w6 hbox hb;have n0_:=aA.mk (aT tp hb);have n1_:=aA.mk (hbox);have n2_:=aA.mk ((by rw [hg];exact (aX tp):w.heap.size ≤ gb110));have n3_:=aA.mk ((by rw [hg];exact (aX tp):w.heap.size ≤ gb110));clear HB;have HB:=n0_;have BK110:=n1_;have GW110:=n2_;have GE110:=n3_;clear n0_ n1_ n2_ n3_;clear hb hbox hg)|((with_reducible refine aW (f:=44) rfl ?_);refine bK (some 4) rfl rfl Try.func44 tG rfl #[.int .i64 a0,.int .i64 1,.int .i64 60] rfl (by (try simp only [List.map_toArray,List.map_cons,List.map_nil]);first|done|rfl|(simp only [List.length_drop,List.length_take];rfl)) ?_;(with_reducible refine (impl_within.calls a0 1 60 true _ A2.out).mono ?_);rintro e w' ⟨rfl,⟨nd,rfl⟩⟩;refine ⟨_,rfl,?_⟩;(try (rw [drewN_self w6];generalize hq_:World.drewN w6 _ = w6;have n0_:aA (w6.heap[gb110]? = some (.cells #[.slice none 0 0,.slice none 0 0,.int .i64 0,.bool false] 25 (0,0))):=⟨by rw [← hq_];exact AW⟩;have n1_:aA (Below w.heap.size w w6):=⟨by rw [← hq_];exact wa⟩;clear BK110 HB hq_;have BK110:=n0_;have HB:=n1_;clear n0_ n1_)))|((with_reducible refine bC (N:=8) rfl ?_);refine Kd.S_make (Kd.slice 5 (Kd.int .u8)) _ 37 rfl (N:=8) rfl 22 _ _ rfl a0 rfl rfl Try.underlying22 (.slice none 0 0) 24 info37 rfl tf tZ [] (ok:=fun _=>True) (okp:=fun _=>True) ⟨_,rfl,Kd.R_nil _ _ _ _ _⟩ (fun _ hk=>hk) trivial (lE (by first|(with_reducible assumption)|assumption)) (Nat.le_trans (Nat.mul_le_mul_right _ (lE (by first|(with_reducible assumption)|assumption):a0.toNat ≤ 11728124029610)) tZ) (Below.refl _ _) (Nat.le_refl _) ?_;intro v113 w7 ho8 hb hg_ hnew_;clear hg_ hnew_;(first|rw [← Ny112.out] at ho8|(simp only [Int.reduceToNat] at ho8;rw [← Ny112.out] at ho8));have n0_:=aA.mk (Kd.bZ ho8 (aX wa));have n1_:=aA.mk (bM (g:=gb110) (o:=.cells #[.slice none 0 0,.slice none 0 0,.int .i64 0,.bool false] 25 (0,0)) AW hb);have n2_:=aA.mk (aT wa hb);clear BK110;clear HB;have HO114:=n0_;have BK110:=n1_;have HB:=n2_;clear n0_ n1_ n2_;clear hb ho8;obtain ⟨Ao9,co9,eo9⟩:=Kd.S_slice HO114.out;subst eo9;have hcz10_0:w7.cell? ⟨gb110,0,none⟩ = some (.slice none 0 0):=(aD BK110.out 0).trans rfl;have hcz10_1:w7.cell? ⟨gb110,1,none⟩ = some (.slice none 0 0):=(aD BK110.out 1).trans rfl;have hcz10_2:w7.cell? ⟨gb110,2,none⟩ = some (.int .i64 0):=(aD BK110.out 2).trans rfl;have hcz10_3:w7.cell? ⟨gb110,3,none⟩ = some (.bool false):=(aD BK110.out 3).trans rfl;have hfz10_0:=cD BK110.out 0;have hfz10_1:=cD BK110.out 1;have hfz10_2:=cD BK110.out 2;have hfz10_3:=cD BK110.out 3))
    refine bodyPost_ret (results_cell_row rfl _ _ gb110 25 #[.slice Ao9 y112.length co9,.slice none 0 0,.int .i64 (-1),.bool false] (0,0) _ rfl (by (with_reducible repeat (first|refine aM ?_ _|refine aN ?_|refine aG ?_ _));refine aQ (cs:=#[.slice Ao9 y112.length co9,.slice none 0 0,.int .i64 (-1),.bool false]) ?_ 3 _ rfl;(with_reducible repeat (first|refine aM ?_ _|refine aN ?_|refine aG ?_ _));refine aQ (cs:=#[.slice Ao9 y112.length co9,.slice none 0 0,.int .i64 0,.bool false]) ?_ 2 _ rfl;(with_reducible repeat (first|refine aM ?_ _|refine aN ?_|refine aG ?_ _));refine aQ (cs:=#[.slice Ao9 y112.length co9,.slice none 0 0,.int .i64 0,.bool false]) ?_ 1 _ rfl;(with_reducible repeat (first|refine aM ?_ _|refine aN ?_|refine aG ?_ _));refine aQ (cs:=#[.slice none 0 0,.slice none 0 0,.int .i64 0,.bool false]) ?_ 0 _ rfl;(with_reducible repeat (first|refine aM ?_ _|refine aN ?_|refine aG ?_ _));exact BK110.out) Try.underlying25 rfl tG) rfl ?_
    exact ⟨_,_,tN,by (with_reducible repeat (first|apply Kd.S_alloc|apply Kd.S_drewN|apply Kd.S_drew));exact Kd.bU (Kd.S_far (p:=⟨gb110,3,none⟩) (Kd.S_far (p:=⟨gb110,2,none⟩) (Kd.S_far (p:=⟨gb110,1,none⟩) (Kd.S_far (p:=⟨gb110,0,none⟩) (Kd.S_types HO114.out BK110.out tf) (fun _ hk=>hk.2) (.slice Ao9 y112.length co9)) (fun _ hk=>hk.2) (.slice none 0 0)) (fun _ hk=>hk.2) (.int .i64 (-1))) (fun _ hk=>hk.2) (.bool false)) (fun _ hk=>trivial),vD,by repeat (first|(with_reducible first|exact HB.out|apply aJ|apply aE|apply aH|refine aC ?_ GE110.out)|exact HB.out)⟩
   ·rw [if_neg c5] at H
    exact wX
  ·rw [if_neg c4] at H
   exact wX
 ·replace c3:=Bool.eq_false_iff.mpr c3
  subst c3
  have H1:(some (([]:List (List Int)),([]:List (S50)),0,false)) = some (r1,r2,r3,r4):=by rw [if_neg (show ¬ (false = true) by decide)] at H;exact H
  clear H
  have H:=H1
  clear H1
  simp only [Option.some.injEq,Prod.mk.injEq] at H
  obtain ⟨rfl,rfl,rfl,rfl⟩:=H
  go_enter Try.func13,Try.ntmps13
  go_wp2_with (first|((with_reducible refine bC (N:=2) rfl ?_);refine bD ?hg (N:=2) ?hd (cs:=#[.slice none 0 0,.slice none 0 0,.int .i64 0,.bool false]) (t:=25) ?hr ?_;(case hd=>rfl);(case hg=>rfl);(case hr=>exact tE);intro gb110 hg w11 hbox hb;have n0_:=aA.mk (aT tp hb);have n1_:=aA.mk (hbox);have n2_:=aA.mk ((by rw [hg];exact (aX tp):w.heap.size ≤ gb110));have n3_:=aA.mk ((by rw [hg];exact (aX tp):w.heap.size ≤ gb110));clear HB;have HB:=n0_;have BK110:=n1_;have GW110:=n2_;have GE110:=n3_;clear n0_ n1_ n2_ n3_;clear hb hbox hg)|((with_reducible refine aW (f:=44) rfl ?_);refine bK (some 4) rfl rfl Try.func44 tG rfl #[.int .i64 a0,.int .i64 1,.int .i64 60] rfl (by (try simp only [List.map_toArray,List.map_cons,List.map_nil]);first|done|rfl|(simp only [List.length_drop,List.length_take];rfl)) ?_;(with_reducible refine (impl_within.calls a0 1 60 false _ A2.out).mono ?_);rintro e w' ⟨rfl,⟨nd,rfl⟩⟩;refine ⟨_,rfl,?_⟩;(try (rw [drewN_self w11];generalize hq_:World.drewN w11 _ = w11;have n0_:aA (w11.heap[gb110]? = some (.cells #[.slice none 0 0,.slice none 0 0,.int .i64 0,.bool false] 25 (0,0))):=⟨by rw [← hq_];exact AW⟩;have n1_:aA (Below w.heap.size w w11):=⟨by rw [← hq_];exact wa⟩;clear BK110 HB hq_;have BK110:=n0_;have HB:=n1_;clear n0_ n1_));(try have hcz12_0:w11.cell? ⟨gb110,0,none⟩ = some (.slice none 0 0):=(aD BK110.out 0).trans rfl);(try have hfz12_0:=cD BK110.out 0);(try have hcz12_1:w11.cell? ⟨gb110,1,none⟩ = some (.slice none 0 0):=(aD BK110.out 1).trans rfl);(try have hfz12_1:=cD BK110.out 1);(try have hcz12_2:w11.cell? ⟨gb110,2,none⟩ = some (.int .i64 0):=(aD BK110.out 2).trans rfl);(try have hfz12_2:=cD BK110.out 2);(try have hcz12_3:w11.cell? ⟨gb110,3,none⟩ = some (.bool false):=(aD BK110.out 3).trans rfl);(try have hfz12_3:=cD BK110.out 3);have hcz12_0:w11.cell? ⟨gb110,0,none⟩ = some (.slice none 0 0):=(aD BK110.out 0).trans rfl;have hcz12_1:w11.cell? ⟨gb110,1,none⟩ = some (.slice none 0 0):=(aD BK110.out 1).trans rfl;have hcz12_2:w11.cell? ⟨gb110,2,none⟩ = some (.int .i64 0):=(aD BK110.out 2).trans rfl;have hcz12_3:w11.cell? ⟨gb110,3,none⟩ = some (.bool false):=(aD BK110.out 3).trans rfl;have hfz12_0:=cD BK110.out 0;have hfz12_1:=cD BK110.out 1;have hfz12_2:=cD BK110.out 2;have hfz12_3:=cD BK110.out 3))
  refine bodyPost_ret (results_cell_row rfl _ _ gb110 25 #[.slice none 0 0,.slice none 0 0,.int .i64 0,.bool false] (0,0) _ rfl (by (with_reducible repeat (first|refine aM ?_ _|refine aN ?_|refine aG ?_ _));refine aQ (cs:=#[.slice none 0 0,.slice none 0 0,.int .i64 0,.bool false]) ?_ 3 _ rfl;(with_reducible repeat (first|refine aM ?_ _|refine aN ?_|refine aG ?_ _));refine aQ (cs:=#[.slice none 0 0,.slice none 0 0,.int .i64 0,.bool false]) ?_ 2 _ rfl;(with_reducible repeat (first|refine aM ?_ _|refine aN ?_|refine aG ?_ _));refine aQ (cs:=#[.slice none 0 0,.slice none 0 0,.int .i64 0,.bool false]) ?_ 1 _ rfl;(with_reducible repeat (first|refine aM ?_ _|refine aN ?_|refine aG ?_ _));refine aQ (cs:=#[.slice none 0 0,.slice none 0 0,.int .i64 0,.bool false]) ?_ 0 _ rfl;(with_reducible repeat (first|refine aM ?_ _|refine aN ?_|refine aG ?_ _));exact BK110.out) Try.underlying25 rfl tG) rfl ?_
  exact ⟨_,_,tN,vD,vD,by repeat (first|(with_reducible first|exact HB.out|apply aJ|apply aE|apply aH|refine aC ?_ GE110.out)|exact HB.out)⟩
mutual
def spec_DevOk.l0:Nat → Int → List (List Int) → List (S50) → Int → Bool → Option (Bool)
 | 0,_,_,_,_,_=>none
 | k + 1,x3,x116000,x116001,x116002,x116003=>if x3 < (x116000.length:Int) then (if 0 ≤ x3 then (if ((rd_L1 x116000 x3).length:Int) > 80 then (some false) else (spec_DevOk.l0 k (wrap64 (x3 + 1)) x116000 x116001 x116002 x116003)) else (none)) else (spec_DevOk.l1 k 0 x116000 x116001 x116002 x116003)
def spec_DevOk.l1:Nat → Int → List (List Int) → List (S50) → Int → Bool → Option (Bool)
 | 0,_,_,_,_,_=>none
 | k + 1,x4,x116000,x116001,x116002,x116003=>if x4 < (x116001.length:Int) then (if 0 ≤ x4 then ((spec_l1In.f ((rd_T50 x116001 x4).f0) 0 (wrap64 ((x116000.length:Int) - 1))).bind fun t118=>(if t118 = true then (if (((rd_T50 x116001 x4).f1).length:Int) > 80 then (some false) else (spec_DevOk.l1 k (wrap64 (x4 + 1)) x116000 x116001 x116002 x116003)) else (some false))) else (none)) else ((spec_l1In.f (x116000.length:Int) 1 60).bind fun t120=>(if t120 = true then (if (x116001.length:Int) ≤ 60 then ((spec_l1In.f x116002 (-1) 1000).bind fun t121=>(some t121)) else (some false)) else (some false)))
end
def spec_DevOk.f (k:Nat) (l0_0:List (List Int)) (l0_1:List (S50)) (a0_2:Int) (a0_3:Bool):Option (Bool):=spec_DevOk.l0 k 0 l0_0 l0_1 a0_2 a0_3
set_option maxHeartbeats 8000000 in
set_option maxRecDepth 100000 in
theorem spec_DevOk.calls (k:Nat) (A0_0:Option Addr) (c0_0:Nat) (l0_0:List (List Int)) (A0_1:Option Addr) (c0_1:Nat) (l0_1:List (S50)) (a0_2:Int) (a0_3:Bool) (r:Bool) (w:World) (hr0_0:Kd.C (Kd.slice 5 (Kd.int .u8)) w A0_0 l0_0.length l0_0) (hc0_0:l0_0.length ≤ c0_0) (hr0_1:Kd.C k50 w A0_1 l0_1.length l0_1) (hc0_1:l0_1.length ≤ c0_1) (h:spec_DevOk.f k l0_0 l0_1 a0_2 a0_3 = some r) :
  Calls Try.prog 18 #[.agg #[.slice A0_0 l0_0.length c0_0,.slice A0_1 l0_1.length c0_1,.int .i64 a0_2,.bool a0_3]] w fun e w'=>e = .returned (.bool r) ∧ Below w.heap.size w w':=by
 have hu25:=Try.underlying25
 have HR0_0:=aA.mk hr0_0
 have HC0_0:=aA.mk hc0_0
 clear hr0_0 hc0_0
 have HR0_1:=aA.mk hr0_1
 have HC0_1:=aA.mk hc0_1
 clear hr0_1 hc0_1
 have HB:=aA.mk (Below.refl w.heap.size w)
 have H:(spec_DevOk.l0 k 0 l0_0 l0_1 a0_2 a0_3) = some r:=h
 clear h
 have H':=aA.mk H
 clear H
 go_enter Try.func18,Try.ntmps18
 go_wp2_with (first|((with_reducible refine bC (N:=1) rfl ?_);(try (refine cC wN ?_;dsimp only));refine bD ?hg (N:=1) ?hd (cs:=#[.slice A0_0 l0_0.length c0_0,.slice A0_1 l0_1.length c0_1,.int .i64 a0_2,.bool a0_3]) (t:=25) ?hr ?_;(case hd=>rfl);(case hg=>rfl);(case hr=>exact tE);intro gb115 hg w2 hbox hb;have BK115:=aA.mk (hbox);have GW115:=aA.mk ((by rw [hg];exact (aX HB.out):w.heap.size ≤ gb115));have GE115:=aA.mk ((by rw [hg];exact (aX HB.out):w.heap.size ≤ gb115));replace HB:=aA.mk (aT HB.out hb);clear hb hbox hg))
 repeat (go_quiet (first|((with_reducible refine bC (N:=1) rfl ?_);(try (refine cC wN ?_;dsimp only));refine bD ?hg (N:=1) ?hd (cs:=#[.slice A0_0 l0_0.length c0_0,.slice A0_1 l0_1.length c0_1,.int .i64 a0_2,.bool a0_3]) (t:=25) ?hr ?_;(case hd=>rfl);(case hg=>rfl);(case hr=>exact tE);intro gb115 hg w2 hbox hb;have BK115:=aA.mk (hbox);have GW115:=aA.mk ((by rw [hg];exact (aX HB.out):w.heap.size ≤ gb115));have GE115:=aA.mk ((by rw [hg];exact (aX HB.out):w.heap.size ≤ gb115));replace HB:=aA.mk (aT HB.out hb);clear hb hbox hg));try go_wp2_with (first|((with_reducible refine bC (N:=1) rfl ?_);(try (refine cC wN ?_;dsimp only));refine bD ?hg (N:=1) ?hd (cs:=#[.slice A0_0 l0_0.length c0_0,.slice A0_1 l0_1.length c0_1,.int .i64 a0_2,.bool a0_3]) (t:=25) ?hr ?_;(case hd=>rfl);(case hg=>rfl);(case hr=>exact tE);intro gb115 hg w2 hbox hb;have BK115:=aA.mk (hbox);have GW115:=aA.mk ((by rw [hg];exact (aX HB.out):w.heap.size ≤ gb115));have GE115:=aA.mk ((by rw [hg];exact (aX HB.out):w.heap.size ≤ gb115));replace HB:=aA.mk (aT HB.out hb);clear hb hbox hg)))
 go_loopg [3] k (fun kq v3 w'=>∃ (x3_1:Int),v3 = .int .i64 x3_1 ∧ aA (spec_DevOk.l0 kq x3_1 l0_0 l0_1 a0_2 a0_3 = some r) ∧ aA (kq ≤ k) ∧ aA (w'.heap[gb115]? = some (.cells #[(.slice A0_0 l0_0.length c0_0),(.slice A0_1 l0_1.length c0_1),.int .i64 a0_2,.bool a0_3] 25 (0,0))) ∧ aA (Below w.heap.size w w'))
 case atStart=>exact ⟨(0),td,H',⟨Nat.le_refl _⟩,⟨wx⟩,⟨vC⟩⟩
 case round =>
  clear H'
  try clear c1
  try clear p2
  obtain ⟨x3_1,rfl,HA,HK1,BK115,HB⟩:=hrel
  cases gk with
  | zero=>exact absurd HA.out (by simp [spec_DevOk.l0])
  | succ k1 =>
   have H:=HA.out
   clear HA
   simp only [spec_DevOk.l0] at H
   by_cases c3:x3_1 < (l0_0.length:Int)
   ·rw [if_pos c3] at H
    have c3b0:decide (x3_1 < (l0_0.length:Int)) = true:=decide_eq_true c3
    clear c3
    by_cases c4:0 ≤ x3_1
    ·rw [if_pos c4] at H
     have c4b0:decide (0 ≤ x3_1) = true:=decide_eq_true c4
     clear c4
     by_cases c5:((rd_L1 l0_0 x3_1).length:Int) > 80
     ·rw [if_pos c5] at H
      have c5b0:decide (80 < ((rd_L1 l0_0 x3_1).length:Int)) = true:=decide_eq_true c5
      have c5b1:decide (80 < (rd_L1 l0_0 x3_1).length) = true:=decide_eq_true tZ
      clear c5
      obtain rfl:=Option.some.inj H
      obtain ⟨hcz6_0,hcz6_1,hcz6_2,hcz6_3⟩:=cs4 BK115.out
      obtain ⟨hfz6_0,hfz6_1,hfz6_2,hfz6_3⟩:=fs4 BK115.out
      have p116:0 ≤ (x3_1:Int):=lE tx
      have q116:x3_1 < (l0_0.length:Int):=lE tx
      obtain ⟨ad116,A116_0,c116_0,e116,hx116_0,hl116_0,hi116_0⟩:=at_L1 HR0_0.out x3_1 p116 q116
      cases e116
      replace hx116_0:=(HB.out.cell (lD w _ hx116_0)).trans hx116_0
      have HR116_0:=aA.mk hi116_0
      have HC116_0:=aA.mk hl116_0
      clear hi116_0 hl116_0
      replace p116:=eq_true p116
      replace q116:=eq_true q116
      go_wp2
      repeat (go_quiet (fail);try go_wp2)
      go_ret
      exact ⟨tN,vC⟩
     ·rw [if_neg c5] at H
      have c5b0:decide (80 < ((rd_L1 l0_0 x3_1).length:Int)) = false:=decide_eq_false c5
      have c5b1:decide (80 < (rd_L1 l0_0 x3_1).length) = false:=decide_eq_false tZ
      clear c5
      have H':=aA.mk H
      clear H
      obtain ⟨hcz7_0,hcz7_1,hcz7_2,hcz7_3⟩:=cs4 BK115.out
      obtain ⟨hfz7_0,hfz7_1,hfz7_2,hfz7_3⟩:=fs4 BK115.out
      have p116:0 ≤ (x3_1:Int):=lE tx
      have q116:x3_1 < (l0_0.length:Int):=lE tx
      obtain ⟨ad116,A116_0,c116_0,e116,hx116_0,hl116_0,hi116_0⟩:=at_L1 HR0_0.out x3_1 p116 q116
      cases e116
      replace hx116_0:=(HB.out.cell (lD w _ hx116_0)).trans hx116_0
      have HR116_0:=aA.mk hi116_0
      have HC116_0:=aA.mk hl116_0
      clear hi116_0 hl116_0
      replace p116:=eq_true p116
      replace q116:=eq_true q116
      go_wp2
      repeat (go_quiet (fail);try go_wp2)
      go_roundg k1
      case measure=>have:=HK1.out;omega
      case rel=>exact ⟨(wrap64 (x3_1 + 1)),td,H',⟨by have:=HK1.out;omega⟩,⟨wx⟩,⟨vC⟩⟩
    ·rw [if_neg c4] at H
     exact wX
   ·rw [if_neg c3] at H
    have c3b0:decide (x3_1 < (l0_0.length:Int)) = false:=decide_eq_false c3
    clear c3
    have H':=aA.mk H
    clear H
    obtain ⟨hcz8_0,hcz8_1,hcz8_2,hcz8_3⟩:=cs4 BK115.out
    obtain ⟨hfz8_0,hfz8_1,hfz8_2,hfz8_3⟩:=fs4 BK115.out
    go_wp2
    repeat (go_quiet (fail);try go_wp2)
    go_loopg [4] k1 (fun kq v4 w'=>∃ (x4_2:Int),v4 = .int .i64 x4_2 ∧ aA (spec_DevOk.l1 kq x4_2 l0_0 l0_1 a0_2 a0_3 = some r) ∧ aA (kq ≤ k1) ∧ aA (w'.heap[gb115]? = some (.cells #[(.slice A0_0 l0_0.length c0_0),(.slice A0_1 l0_1.length c0_1),.int .i64 a0_2,.bool a0_3] 25 (0,0))) ∧ aA (Below w.heap.size w w'))
    case atStart=>exact ⟨(0),td,H',⟨Nat.le_refl _⟩,⟨wx⟩,⟨vC⟩⟩
    case round =>
     clear H'
     try clear c1
     try clear p1
     try clear q1
     try clear hx1
     try clear p2
     try clear c3
     try clear c3b0
     try clear c4
     try clear c4b0
     try clear c5
     try clear c5b0
     try clear c5b1
     try clear p6
     try clear hcz6_0
     try clear hcz6_1
     try clear hcz6_2
     try clear hcz6_3
     try clear hcz7_0
     try clear hcz7_1
     try clear hcz7_2
     try clear hcz7_3
     try clear hcz8_0
     try clear hcz8_1
     try clear hcz8_2
     try clear hcz8_3
     try clear hfz6_0
     try clear hfz6_1
     try clear hfz6_2
     try clear hfz6_3
     try clear hfz7_0
     try clear hfz7_1
     try clear hfz7_2
     try clear hfz7_3
     try clear hfz8_0
     try clear hfz8_1
     try clear hfz8_2
     try clear hfz8_3
     try clear hx116_0
     try clear p116
     try clear p2
     try clear q116
     obtain ⟨x4_2,rfl,HA,HK2,BK115,HB⟩:=hrel
     cases gk with
     | zero=>exact absurd HA.out (by simp [spec_DevOk.l1])
     | succ k2 =>
      have H:=HA.out
      clear HA
      simp only [spec_DevOk.l1] at H
      by_cases c9:x4_2 < (l0_1.length:Int)
      ·rw [if_pos c9] at H
       have c9b0:decide (x4_2 < (l0_1.length:Int)) = true:=decide_eq_true c9
       clear c9
       by_cases c10:0 ≤ x4_2
       ·rw [if_pos c10] at H
        have c10b0:decide (0 ≤ x4_2) = true:=decide_eq_true c10
        clear c10
        replace H:=lF H
        obtain ⟨t118,A110,H⟩:=H
        replace H:(if t118 = true then (if (((rd_T50 l0_1 x4_2).f1).length:Int) > 80 then (some false) else (spec_DevOk.l1 k2 (wrap64 (x4_2 + 1)) l0_0 l0_1 a0_2 a0_3)) else (some false)) = some r:=H
        have A11:=aA.mk A110
        clear A110
        by_cases c12:t118 = true
        ·subst c12
         have H1:(if (((rd_T50 l0_1 x4_2).f1).length:Int) > 80 then (some false) else (spec_DevOk.l1 k2 (wrap64 (x4_2 + 1)) l0_0 l0_1 a0_2 a0_3)) = some r:=by rw [if_pos rfl] at H;exact H
         clear H
         have H:=H1
         clear H1
         by_cases c13:(((rd_T50 l0_1 x4_2).f1).length:Int) > 80
         ·rw [if_pos c13] at H
          have c13b0:decide (80 < (((rd_T50 l0_1 x4_2).f1).length:Int)) = true:=decide_eq_true c13
          have c13b1:decide (80 < ((rd_T50 l0_1 x4_2).f1).length) = true:=decide_eq_true tZ
          clear c13
          obtain rfl:=Option.some.inj H
          obtain ⟨hcz14_0,hcz14_1,hcz14_2,hcz14_3⟩:=cs4 BK115.out
          obtain ⟨hfz14_0,hfz14_1,hfz14_2,hfz14_3⟩:=fs4 BK115.out
          have p117:0 ≤ (x4_2:Int):=lE tx
          have q117:x4_2 < (l0_1.length:Int):=lE tx
          obtain ⟨ad117,A117_1,c117_1,e117,hx117_0,hx117_1,hl117_1,hi117_1⟩:=at_T50 HR0_1.out x4_2 p117 q117
          cases e117
          replace hx117_0:=(HB.out.cell (lD w _ hx117_0)).trans hx117_0
          replace hx117_1:=(HB.out.cell (lD w _ hx117_1)).trans hx117_1
          have HR117_1:=aA.mk hi117_1
          have HC117_1:=aA.mk hl117_1
          clear hi117_1 hl117_1
          replace p117:=eq_true p117
          replace q117:=eq_true q117
          have hwq0_:IntKind.i64.wrap ((l0_0.length:Int) - 1) = wrap64 ((l0_0.length:Int) - 1):=by rw [IntKind.wrap_i64];unfold wrap64;rfl
          go_wp2_with (first|(go_at_call 43;(with_reducible refine (spec_l1In.calls ((rd_T50 l0_1 x4_2).f0) 0 (wrap64 ((l0_0.length:Int) - 1)) true _ A11.out).mono ?_);rintro e w' ⟨rfl,⟨nd,rfl⟩⟩;(try first|exact ⟨rfl,_,World.drewN_drewN _ _ _⟩|exact ⟨rfl,_,Eq.trans (World.drewN_drewN _ _ _) (congrArg (World.drewN _) (Nat.add_assoc _ _ _))⟩);have p119:0 ≤ (x4_2:Int):=lE tx;have q119:x4_2 < (l0_1.length:Int):=lE tx;obtain ⟨ad119,A119_1,c119_1,e119,hx119_0,hx119_1,hl119_1,hi119_1⟩:=at_T50 HR0_1.out x4_2 p119 q119;obtain rfl:ad117 = ad119:=(by injection e119);replace hx119_0:=(HB.out.cell (lD w _ hx119_0)).trans hx119_0;replace hx119_1:=(HB.out.cell (lD w _ hx119_1)).trans hx119_1;have HR119_1:=aA.mk hi119_1;have HC119_1:=aA.mk hl119_1;clear hi119_1 hl119_1;replace p119:=eq_true p119;replace q119:=eq_true q119;have ea_:=Option.some.inj (hx117_1.symm.trans hx119_1);injection ea_ with ea_ en_ ec_;subst ea_;subst ec_;clear en_))
          repeat (go_quiet (first|(go_at_call 43;(with_reducible refine (spec_l1In.calls ((rd_T50 l0_1 x4_2).f0) 0 (wrap64 ((l0_0.length:Int) - 1)) true _ A11.out).mono ?_);rintro e w' ⟨rfl,⟨nd,rfl⟩⟩;(try first|exact ⟨rfl,_,World.drewN_drewN _ _ _⟩|exact ⟨rfl,_,Eq.trans (World.drewN_drewN _ _ _) (congrArg (World.drewN _) (Nat.add_assoc _ _ _))⟩);have p119:0 ≤ (x4_2:Int):=lE tx;have q119:x4_2 < (l0_1.length:Int):=lE tx;obtain ⟨ad119,A119_1,c119_1,e119,hx119_0,hx119_1,hl119_1,hi119_1⟩:=at_T50 HR0_1.out x4_2 p119 q119;obtain rfl:ad117 = ad119:=(by injection e119);replace hx119_0:=(HB.out.cell (lD w _ hx119_0)).trans hx119_0;replace hx119_1:=(HB.out.cell (lD w _ hx119_1)).trans hx119_1;have HR119_1:=aA.mk hi119_1;have HC119_1:=aA.mk hl119_1;clear hi119_1 hl119_1;replace p119:=eq_true p119;replace q119:=eq_true q119;have ea_:=Option.some.inj (hx117_1.symm.trans hx119_1);injection ea_ with ea_ en_ ec_;subst ea_;subst ec_;clear en_));try go_wp2_with (first|(go_at_call 43;(with_reducible refine (spec_l1In.calls ((rd_T50 l0_1 x4_2).f0) 0 (wrap64 ((l0_0.length:Int) - 1)) true _ A11.out).mono ?_);rintro e w' ⟨rfl,⟨nd,rfl⟩⟩;(try first|exact ⟨rfl,_,World.drewN_drewN _ _ _⟩|exact ⟨rfl,_,Eq.trans (World.drewN_drewN _ _ _) (congrArg (World.drewN _) (Nat.add_assoc _ _ _))⟩);have p119:0 ≤ (x4_2:Int):=lE tx;have q119:x4_2 < (l0_1.length:Int):=lE tx;obtain ⟨ad119,A119_1,c119_1,e119,hx119_0,hx119_1,hl119_1,hi119_1⟩:=at_T50 HR0_1.out x4_2 p119 q119;obtain rfl:ad117 = ad119:=(by injection e119);replace hx119_0:=(HB.out.cell (lD w _ hx119_0)).trans hx119_0;replace hx119_1:=(HB.out.cell (lD w _ hx119_1)).trans hx119_1;have HR119_1:=aA.mk hi119_1;have HC119_1:=aA.mk hl119_1;clear hi119_1 hl119_1;replace p119:=eq_true p119;replace q119:=eq_true q119;have ea_:=Option.some.inj (hx117_1.symm.trans hx119_1);injection ea_ with ea_ en_ ec_;subst ea_;subst ec_;clear en_)))
          go_ret
          exact ⟨tN,vC⟩
         ·rw [if_neg c13] at H
          have c13b0:decide (80 < (((rd_T50 l0_1 x4_2).f1).length:Int)) = false:=decide_eq_false c13
          have c13b1:decide (80 < ((rd_T50 l0_1 x4_2).f1).length) = false:=decide_eq_false tZ
          clear c13
          have H':=aA.mk H
          clear H
          obtain ⟨hcz15_0,hcz15_1,hcz15_2,hcz15_3⟩:=cs4 BK115.out
          obtain ⟨hfz15_0,hfz15_1,hfz15_2,hfz15_3⟩:=fs4 BK115.out
          have p117:0 ≤ (x4_2:Int):=lE tx
          have q117:x4_2 < (l0_1.length:Int):=lE tx
          obtain ⟨ad117,A117_1,c117_1,e117,hx117_0,hx117_1,hl117_1,hi117_1⟩:=at_T50 HR0_1.out x4_2 p117 q117
          cases e117
          replace hx117_0:=(HB.out.cell (lD w _ hx117_0)).trans hx117_0
          replace hx117_1:=(HB.out.cell (lD w _ hx117_1)).trans hx117_1
          have HR117_1:=aA.mk hi117_1
          have HC117_1:=aA.mk hl117_1
          clear hi117_1 hl117_1
          replace p117:=eq_true p117
          replace q117:=eq_true q117
          have hwq0_:IntKind.i64.wrap ((l0_0.length:Int) - 1) = wrap64 ((l0_0.length:Int) - 1):=by rw [IntKind.wrap_i64];unfold wrap64;rfl
          go_wp2_with (first|(go_at_call 43;(with_reducible refine (spec_l1In.calls ((rd_T50 l0_1 x4_2).f0) 0 (wrap64 ((l0_0.length:Int) - 1)) true _ A11.out).mono ?_);rintro e w' ⟨rfl,⟨nd,rfl⟩⟩;(try first|exact ⟨rfl,_,World.drewN_drewN _ _ _⟩|exact ⟨rfl,_,Eq.trans (World.drewN_drewN _ _ _) (congrArg (World.drewN _) (Nat.add_assoc _ _ _))⟩);have p119:0 ≤ (x4_2:Int):=lE tx;have q119:x4_2 < (l0_1.length:Int):=lE tx;obtain ⟨ad119,A119_1,c119_1,e119,hx119_0,hx119_1,hl119_1,hi119_1⟩:=at_T50 HR0_1.out x4_2 p119 q119;obtain rfl:ad117 = ad119:=(by injection e119);replace hx119_0:=(HB.out.cell (lD w _ hx119_0)).trans hx119_0;replace hx119_1:=(HB.out.cell (lD w _ hx119_1)).trans hx119_1;have HR119_1:=aA.mk hi119_1;have HC119_1:=aA.mk hl119_1;clear hi119_1 hl119_1;replace p119:=eq_true p119;replace q119:=eq_true q119;have ea_:=Option.some.inj (hx117_1.symm.trans hx119_1);injection ea_ with ea_ en_ ec_;subst ea_;subst ec_;clear en_))
          repeat (go_quiet (first|(go_at_call 43;(with_reducible refine (spec_l1In.calls ((rd_T50 l0_1 x4_2).f0) 0 (wrap64 ((l0_0.length:Int) - 1)) true _ A11.out).mono ?_);rintro e w' ⟨rfl,⟨nd,rfl⟩⟩;(try first|exact ⟨rfl,_,World.drewN_drewN _ _ _⟩|exact ⟨rfl,_,Eq.trans (World.drewN_drewN _ _ _) (congrArg (World.drewN _) (Nat.add_assoc _ _ _))⟩);have p119:0 ≤ (x4_2:Int):=lE tx;have q119:x4_2 < (l0_1.length:Int):=lE tx;obtain ⟨ad119,A119_1,c119_1,e119,hx119_0,hx119_1,hl119_1,hi119_1⟩:=at_T50 HR0_1.out x4_2 p119 q119;obtain rfl:ad117 = ad119:=(by injection e119);replace hx119_0:=(HB.out.cell (lD w _ hx119_0)).trans hx119_0;replace hx119_1:=(HB.out.cell (lD w _ hx119_1)).trans hx119_1;have HR119_1:=aA.mk hi119_1;have HC119_1:=aA.mk hl119_1;clear hi119_1 hl119_1;replace p119:=eq_true p119;replace q119:=eq_true q119;have ea_:=Option.some.inj (hx117_1.symm.trans hx119_1);injection ea_ with ea_ en_ ec_;subst ea_;subst ec_;clear en_));try go_wp2_with (first|(go_at_call 43;(with_reducible refine (spec_l1In.calls ((rd_T50 l0_1 x4_2).f0) 0 (wrap64 ((l0_0.length:Int) - 1)) true _ A11.out).mono ?_);rintro e w' ⟨rfl,⟨nd,rfl⟩⟩;(try first|exact ⟨rfl,_,World.drewN_drewN _ _ _⟩|exact ⟨rfl,_,Eq.trans (World.drewN_drewN _ _ _) (congrArg (World.drewN _) (Nat.add_assoc _ _ _))⟩);have p119:0 ≤ (x4_2:Int):=lE tx;have q119:x4_2 < (l0_1.length:Int):=lE tx;obtain ⟨ad119,A119_1,c119_1,e119,hx119_0,hx119_1,hl119_1,hi119_1⟩:=at_T50 HR0_1.out x4_2 p119 q119;obtain rfl:ad117 = ad119:=(by injection e119);replace hx119_0:=(HB.out.cell (lD w _ hx119_0)).trans hx119_0;replace hx119_1:=(HB.out.cell (lD w _ hx119_1)).trans hx119_1;have HR119_1:=aA.mk hi119_1;have HC119_1:=aA.mk hl119_1;clear hi119_1 hl119_1;replace p119:=eq_true p119;replace q119:=eq_true q119;have ea_:=Option.some.inj (hx117_1.symm.trans hx119_1);injection ea_ with ea_ en_ ec_;subst ea_;subst ec_;clear en_)))
          go_roundg k2
          case measure=>have:=HK1.out;have:=HK2.out;omega
          case rel=>exact ⟨(wrap64 (x4_2 + 1)),td,H',⟨by have:=HK1.out;have:=HK2.out;omega⟩,⟨wx⟩,⟨vC⟩⟩
        ·replace c12:=Bool.eq_false_iff.mpr c12
         subst c12
         have H1:(some false) = some r:=by rw [if_neg (show ¬ (false = true) by decide)] at H;exact H
         clear H
         have H:=H1
         clear H1
         obtain rfl:=Option.some.inj H
         obtain ⟨hcz16_0,hcz16_1,hcz16_2,hcz16_3⟩:=cs4 BK115.out
         obtain ⟨hfz16_0,hfz16_1,hfz16_2,hfz16_3⟩:=fs4 BK115.out
         have p117:0 ≤ (x4_2:Int):=lE tx
         have q117:x4_2 < (l0_1.length:Int):=lE tx
         obtain ⟨ad117,A117_1,c117_1,e117,hx117_0,hx117_1,hl117_1,hi117_1⟩:=at_T50 HR0_1.out x4_2 p117 q117
         cases e117
         replace hx117_0:=(HB.out.cell (lD w _ hx117_0)).trans hx117_0
         replace hx117_1:=(HB.out.cell (lD w _ hx117_1)).trans hx117_1
         have HR117_1:=aA.mk hi117_1
         have HC117_1:=aA.mk hl117_1
         clear hi117_1 hl117_1
         replace p117:=eq_true p117
         replace q117:=eq_true q117
         have hwq0_:IntKind.i64.wrap ((l0_0.length:Int) - 1) = wrap64 ((l0_0.length:Int) - 1):=by rw [IntKind.wrap_i64];unfold wrap64;rfl
         go_wp2_with (first|(go_at_call 43;(with_reducible refine (spec_l1In.calls ((rd_T50 l0_1 x4_2).f0) 0 (wrap64 ((l0_0.length:Int) - 1)) false _ A11.out).mono ?_);rintro e w' ⟨rfl,⟨nd,rfl⟩⟩;(try first|exact ⟨rfl,_,World.drewN_drewN _ _ _⟩|exact ⟨rfl,_,Eq.trans (World.drewN_drewN _ _ _) (congrArg (World.drewN _) (Nat.add_assoc _ _ _))⟩)))
         repeat (go_quiet (first|(go_at_call 43;(with_reducible refine (spec_l1In.calls ((rd_T50 l0_1 x4_2).f0) 0 (wrap64 ((l0_0.length:Int) - 1)) false _ A11.out).mono ?_);rintro e w' ⟨rfl,⟨nd,rfl⟩⟩;(try first|exact ⟨rfl,_,World.drewN_drewN _ _ _⟩|exact ⟨rfl,_,Eq.trans (World.drewN_drewN _ _ _) (congrArg (World.drewN _) (Nat.add_assoc _ _ _))⟩)));try go_wp2_with (first|(go_at_call 43;(with_reducible refine (spec_l1In.calls ((rd_T50 l0_1 x4_2).f0) 0 (wrap64 ((l0_0.length:Int) - 1)) false _ A11.out).mono ?_);rintro e w' ⟨rfl,⟨nd,rfl⟩⟩;(try first|exact ⟨rfl,_,World.drewN_drewN _ _ _⟩|exact ⟨rfl,_,Eq.trans (World.drewN_drewN _ _ _) (congrArg (World.drewN _) (Nat.add_assoc _ _ _))⟩))))
         go_ret
         exact ⟨tN,vC⟩
       ·rw [if_neg c10] at H
        exact wX
      ·rw [if_neg c9] at H
       have c9b0:decide (x4_2 < (l0_1.length:Int)) = false:=decide_eq_false c9
       clear c9
       replace H:=lF H
       obtain ⟨t120,A170,H⟩:=H
       replace H:(if t120 = true then (if (l0_1.length:Int) ≤ 60 then ((spec_l1In.f a0_2 (-1) 1000).bind fun t121=>(some t121)) else (some false)) else (some false)) = some r:=H
       have A17:=aA.mk A170
       clear A170
       by_cases c18:t120 = true
       ·subst c18
        have H1:(if (l0_1.length:Int) ≤ 60 then ((spec_l1In.f a0_2 (-1) 1000).bind fun t121=>(some t121)) else (some false)) = some r:=by rw [if_pos rfl] at H;exact H
        clear H
        have H:=H1
        clear H1
        by_cases c19:(l0_1.length:Int) ≤ 60
        ·rw [if_pos c19] at H
         have c19b0:decide ((l0_1.length:Int) ≤ 60) = true:=decide_eq_true c19
         have c19b1:decide (l0_1.length ≤ 60) = true:=decide_eq_true tZ
         clear c19
         replace H:=lF H
         obtain ⟨t121,A200,H⟩:=H
         replace H:(some t121) = some r:=H
         have A20:=aA.mk A200
         clear A200
         obtain rfl:=Option.some.inj H
         obtain ⟨hcz21_0,hcz21_1,hcz21_2,hcz21_3⟩:=cs4 BK115.out
         obtain ⟨hfz21_0,hfz21_1,hfz21_2,hfz21_3⟩:=fs4 BK115.out
         go_wp2_with (first|(go_at_call 43;(with_reducible refine (spec_l1In.calls (l0_0.length:Int) 1 60 true _ A17.out).mono ?_);rintro e w' ⟨rfl,⟨nd,rfl⟩⟩;(try first|exact ⟨rfl,_,World.drewN_drewN _ _ _⟩|exact ⟨rfl,_,Eq.trans (World.drewN_drewN _ _ _) (congrArg (World.drewN _) (Nat.add_assoc _ _ _))⟩))|(go_at_call 43;(with_reducible refine (spec_l1In.calls a0_2 (-1) 1000 t121 _ A20.out).mono ?_);rintro e w' ⟨rfl,⟨nd,rfl⟩⟩;(try first|exact ⟨rfl,_,World.drewN_drewN _ _ _⟩|exact ⟨rfl,_,Eq.trans (World.drewN_drewN _ _ _) (congrArg (World.drewN _) (Nat.add_assoc _ _ _))⟩)))
         repeat (go_quiet (first|(go_at_call 43;(with_reducible refine (spec_l1In.calls (l0_0.length:Int) 1 60 true _ A17.out).mono ?_);rintro e w' ⟨rfl,⟨nd,rfl⟩⟩;(try first|exact ⟨rfl,_,World.drewN_drewN _ _ _⟩|exact ⟨rfl,_,Eq.trans (World.drewN_drewN _ _ _) (congrArg (World.drewN _) (Nat.add_assoc _ _ _))⟩))|(go_at_call 43;(with_reducible refine (spec_l1In.calls a0_2 (-1) 1000 t121 _ A20.out).mono ?_);rintro e w' ⟨rfl,⟨nd,rfl⟩⟩;(try first|exact ⟨rfl,_,World.drewN_drewN _ _ _⟩|exact ⟨rfl,_,Eq.trans (World.drewN_drewN _ _ _) (congrArg (World.drewN _) (Nat.add_assoc _ _ _))⟩)));try go_wp2_with (first|(go_at_call 43;(with_reducible refine (spec_l1In.calls (l0_0.length:Int) 1 60 true _ A17.out).mono ?_);rintro e w' ⟨rfl,⟨nd,rfl⟩⟩;(try first|exact ⟨rfl,_,World.drewN_drewN _ _ _⟩|exact ⟨rfl,_,Eq.trans (World.drewN_drewN _ _ _) (congrArg (World.drewN _) (Nat.add_assoc _ _ _))⟩))|(go_at_call 43;(with_reducible refine (spec_l1In.calls a0_2 (-1) 1000 t121 _ A20.out).mono ?_);rintro e w' ⟨rfl,⟨nd,rfl⟩⟩;(try first|exact ⟨rfl,_,World.drewN_drewN _ _ _⟩|exact ⟨rfl,_,Eq.trans (World.drewN_drewN _ _ _) (congrArg (World.drewN _) (Nat.add_assoc _ _ _))⟩))))
         go_ret
         exact ⟨tN,vC⟩
        ·rw [if_neg c19] at H
         have c19b0:decide ((l0_1.length:Int) ≤ 60) = false:=decide_eq_false c19
         have c19b1:decide (l0_1.length ≤ 60) = false:=decide_eq_false tZ
         clear c19
         obtain rfl:=Option.some.inj H
         obtain ⟨hcz22_0,hcz22_1,hcz22_2,hcz22_3⟩:=cs4 BK115.out
         obtain ⟨hfz22_0,hfz22_1,hfz22_2,hfz22_3⟩:=fs4 BK115.out
         go_wp2_with (first|(go_at_call 43;(with_reducible refine (spec_l1In.calls (l0_0.length:Int) 1 60 true _ A17.out).mono ?_);rintro e w' ⟨rfl,⟨nd,rfl⟩⟩;(try first|exact ⟨rfl,_,World.drewN_drewN _ _ _⟩|exact ⟨rfl,_,Eq.trans (World.drewN_drewN _ _ _) (congrArg (World.drewN _) (Nat.add_assoc _ _ _))⟩)))
         repeat (go_quiet (first|(go_at_call 43;(with_reducible refine (spec_l1In.calls (l0_0.length:Int) 1 60 true _ A17.out).mono ?_);rintro e w' ⟨rfl,⟨nd,rfl⟩⟩;(try first|exact ⟨rfl,_,World.drewN_drewN _ _ _⟩|exact ⟨rfl,_,Eq.trans (World.drewN_drewN _ _ _) (congrArg (World.drewN _) (Nat.add_assoc _ _ _))⟩)));try go_wp2_with (first|(go_at_call 43;(with_reducible refine (spec_l1In.calls (l0_0.length:Int) 1 60 true _ A17.out).mono ?_);rintro e w' ⟨rfl,⟨nd,rfl⟩⟩;(try first|exact ⟨rfl,_,World.drewN_drewN _ _ _⟩|exact ⟨rfl,_,Eq.trans (World.drewN_drewN _ _ _) (congrArg (World.drewN _) (Nat.add_assoc _ _ _))⟩))))
         go_ret
         exact ⟨tN,vC⟩
       ·replace c18:=Bool.eq_false_iff.mpr c18
        subst c18
        have H1:(some false) = some r:=by rw [if_neg (show ¬ (false = true) by decide)] at H;exact H
        clear H
        have H:=H1
        clear H1
        obtain rfl:=Option.some.inj H
        obtain ⟨hcz23_0,hcz23_1,hcz23_2,hcz23_3⟩:=cs4 BK115.out
        obtain ⟨hfz23_0,hfz23_1,hfz23_2,hfz23_3⟩:=fs4 BK115.out
        go_wp2_with (first|(go_at_call 43;(with_reducible refine (spec_l1In.calls (l0_0.length:Int) 1 60 false _ A17.out).mono ?_);rintro e w' ⟨rfl,⟨nd,rfl⟩⟩;(try first|exact ⟨rfl,_,World.drewN_drewN _ _ _⟩|exact ⟨rfl,_,Eq.trans (World.drewN_drewN _ _ _) (congrArg (World.drewN _) (Nat.add_assoc _ _ _))⟩)))
        repeat (go_quiet (first|(go_at_call 43;(with_reducible refine (spec_l1In.calls (l0_0.length:Int) 1 60 false _ A17.out).mono ?_);rintro e w' ⟨rfl,⟨nd,rfl⟩⟩;(try first|exact ⟨rfl,_,World.drewN_drewN _ _ _⟩|exact ⟨rfl,_,Eq.trans (World.drewN_drewN _ _ _) (congrArg (World.drewN _) (Nat.add_assoc _ _ _))⟩)));try go_wp2_with (first|(go_at_call 43;(with_reducible refine (spec_l1In.calls (l0_0.length:Int) 1 60 false _ A17.out).mono ?_);rintro e w' ⟨rfl,⟨nd,rfl⟩⟩;(try first|exact ⟨rfl,_,World.drewN_drewN _ _ _⟩|exact ⟨rfl,_,Eq.trans (World.drewN_drewN _ _ _) (congrArg (World.drewN _) (Nat.add_assoc _ _ _))⟩))))
        go_ret
        exact ⟨tN,vC⟩
end Go.Proofs.Ytilhcaofpfeioaa.PFnDevsBent

namespace Go.Proofs.Ytilhcaofpfeioaa.PFnDevsBent
open Go.RowKit Go.Proofs.YtilhcaofpfeioaaW.PrintWords Go.Proofs.YtilhcaofpfeioaaW.PrintLast Go.Proofs.YtilhcaofpfeioaaW.PrintMore
attribute [local go_sem] max2_int min2_int max_two min_two max_three min_three max_four min_four   -- for this text's walks alone
set_option linter.unusedVariables false
set_option linter.unusedSimpArgs false
mutual
def impl_DevOk.j0:Nat → Bool → List (List Int) → List (S50) → Int → Bool → Option (Bool)
 | 0,_,_,_,_,_=>none
 | k + 1,x23,x123000,x123001,x123002,x123003=>if x23 = true then (some false) else (impl_DevOk.l0 k x123000 (x123000.length:Int) 0 x123000 x123001 x123002 x123003)
def impl_DevOk.l0:Nat → List (List Int) → Int → Int → List (List Int) → List (S50) → Int → Bool → Option (Bool)
 | 0,_,_,_,_,_,_,_=>none
 | k + 1,x25,x26,x27,x123000,x123001,x123002,x123003=>if x27 < x26 then (if 0 ≤ x27 then (if x27 < (x25.length:Int) then (if ((rd_L1 x25 x27).length:Int) > 80 then (some false) else (impl_DevOk.l0 k x25 x26 (wrap64 (x27 + 1)) x123000 x123001 x123002 x123003)) else (none)) else (none)) else (impl_DevOk.l1 k x123001 (x123001.length:Int) 0 x123000 x123001 x123002 x123003)
def impl_DevOk.l1:Nat → List (S50) → Int → Int → List (List Int) → List (S50) → Int → Bool → Option (Bool)
 | 0,_,_,_,_,_,_,_=>none
 | k + 1,x36,x37,x38,x123000,x123001,x123002,x123003=>if x38 < x37 then (if 0 ≤ x38 then (if x38 < (x36.length:Int) then ((impl_within.f ((rd_T50 x36 x38).f0) 0 (wrap64 ((x123000.length:Int) - 1))).bind fun t128=>(if t128 = true then (if (((rd_T50 x36 x38).f1).length:Int) > 80 then (some false) else (impl_DevOk.l1 k x36 x37 (wrap64 (x38 + 1)) x123000 x123001 x123002 x123003)) else (some false))) else (none)) else (none)) else (some true)
end
def impl_DevOk.f (k:Nat) (l0_0:List (List Int)) (l0_1:List (S50)) (a0_2:Int) (a0_3:Bool):Option (Bool):=(impl_within.f (l0_0.length:Int) 1 60).bind fun t123=>(if t123 = true then (if (l0_1.length:Int) > 60 then (impl_DevOk.j0 k true l0_0 l0_1 a0_2 a0_3) else ((impl_within.f a0_2 (-1) 1000).bind fun t124=>(impl_DevOk.j0 k (!t124) l0_0 l0_1 a0_2 a0_3))) else (impl_DevOk.j0 k true l0_0 l0_1 a0_2 a0_3))
set_option maxHeartbeats 8000000 in
set_option maxRecDepth 100000 in
theorem impl_DevOk.calls (k:Nat) (A0_0:Option Addr) (c0_0:Nat) (l0_0:List (List Int)) (A0_1:Option Addr) (c0_1:Nat) (l0_1:List (S50)) (a0_2:Int) (a0_3:Bool) (r:Bool) (w:World) (hr0_0:Kd.C (Kd.slice 5 (Kd.int .u8)) w A0_0 l0_0.length l0_0) (hc0_0:l0_0.length ≤ c0_0) (hr0_1:Kd.C k50 w A0_1 l0_1.length l0_1) (hc0_1:l0_1.length ≤ c0_1) (h:impl_DevOk.f k l0_0 l0_1 a0_2 a0_3 = some r) :
  Calls Try.prog 20 #[.agg #[.slice A0_0 l0_0.length c0_0,.slice A0_1 l0_1.length c0_1,.int .i64 a0_2,.bool a0_3]] w fun e w'=>e = .returned (.bool r) ∧ Below w.heap.size w w':=by
 have hu25:=Try.underlying25
 have hu50:=Try.underlying50
 have HR0_0:=aA.mk hr0_0
 have HC0_0:=aA.mk hc0_0
 clear hr0_0 hc0_0
 have HR0_1:=aA.mk hr0_1
 have HC0_1:=aA.mk hc0_1
 clear hr0_1 hc0_1
 have HB:=aA.mk (Below.refl w.heap.size w)
 have H:((impl_within.f (l0_0.length:Int) 1 60).bind fun t123=>(if t123 = true then (if (l0_1.length:Int) > 60 then (impl_DevOk.j0 k true l0_0 l0_1 a0_2 a0_3) else ((impl_within.f a0_2 (-1) 1000).bind fun t124=>(impl_DevOk.j0 k (!t124) l0_0 l0_1 a0_2 a0_3))) else (impl_DevOk.j0 k true l0_0 l0_1 a0_2 a0_3))) = some r:=h
 clear h
 have HC2:=aA.mk H
 clear H
 go_enter Try.func20,Try.ntmps20
 go_upto_region 1 with (first|((with_reducible refine bC (N:=1) rfl ?_);(try (refine cC wN ?_;dsimp only));refine bD ?hg (N:=1) ?hd (cs:=#[.slice A0_0 l0_0.length c0_0,.slice A0_1 l0_1.length c0_1,.int .i64 a0_2,.bool a0_3]) (t:=25) ?hr ?_;(case hd=>rfl);(case hg=>rfl);(case hr=>exact tE);intro gb122 hg w3 hbox hb;have BK122:=aA.mk (hbox);have GW122:=aA.mk ((by rw [hg];exact (aX HB.out):w.heap.size ≤ gb122));have GE122:=aA.mk ((by rw [hg];exact (aX HB.out):w.heap.size ≤ gb122));replace HB:=aA.mk (aT HB.out hb);clear hb hbox hg))
 (try simp only [Act.put,lA,lB,lC])
 go_cut [23] (fun v23 wc=>∃ (kq:Nat) (x23_1:Bool),v23 = .bool x23_1 ∧ aA (impl_DevOk.j0 kq x23_1 l0_0 l0_1 a0_2 a0_3 = some r) ∧ aA (kq ≤ k) ∧ aA (wc.heap[gb122]? = some (.cells #[(.slice A0_0 l0_0.length c0_0),(.slice A0_1 l0_1.length c0_1),.int .i64 a0_2,.bool a0_3] 25 (0,0))) ∧ aA (Below w.heap.size w wc))
 case first =>
  have H:=HC2.out
  clear HC2
  replace H:=lF H
  obtain ⟨t123,A40,H⟩:=H
  replace H:(if t123 = true then (if (l0_1.length:Int) > 60 then (impl_DevOk.j0 k true l0_0 l0_1 a0_2 a0_3) else ((impl_within.f a0_2 (-1) 1000).bind fun t124=>(impl_DevOk.j0 k (!t124) l0_0 l0_1 a0_2 a0_3))) else (impl_DevOk.j0 k true l0_0 l0_1 a0_2 a0_3)) = some r:=H
  have A4:=aA.mk A40
  clear A40
  by_cases c5:t123 = true
  ·subst c5
   have H1:(if (l0_1.length:Int) > 60 then (impl_DevOk.j0 k true l0_0 l0_1 a0_2 a0_3) else ((impl_within.f a0_2 (-1) 1000).bind fun t124=>(impl_DevOk.j0 k (!t124) l0_0 l0_1 a0_2 a0_3))) = some r:=by rw [if_pos rfl] at H;exact H
   clear H
   have H:=H1
   clear H1
   by_cases c6:(l0_1.length:Int) > 60
   ·rw [if_pos c6] at H
    have c6b0:decide (60 < (l0_1.length:Int)) = true:=decide_eq_true c6
    have c6b1:decide (60 < l0_1.length) = true:=decide_eq_true tZ
    clear c6
    (first|rw [c6b0]|(simp only [bE,bG];rw [c6b0])|skip)
    have H':=aA.mk H
    clear H
    obtain ⟨hcz7_0,hcz7_1,hcz7_2,hcz7_3⟩:=cs4 BK122.out
    obtain ⟨hfz7_0,hfz7_1,hfz7_2,hfz7_3⟩:=fs4 BK122.out
    go_wp2_with (first|((with_reducible refine aW (f:=44) rfl ?_);refine bK (some 10) rfl rfl Try.func44 tG rfl #[.int .i64 (l0_0.length:Int),.int .i64 1,.int .i64 60] rfl tC ?_;(with_reducible refine (impl_within.calls (l0_0.length:Int) 1 60 true _ A4.out).mono ?_);rintro e w' ⟨rfl,⟨nd,rfl⟩⟩;refine ⟨_,rfl,?_⟩))
    go_meet
    case rel=>exact ⟨_,(true),td,H',⟨wW⟩,⟨wG⟩,⟨vF⟩⟩
   ·rw [if_neg c6] at H
    have c6b0:decide (60 < (l0_1.length:Int)) = false:=decide_eq_false c6
    have c6b1:decide (60 < l0_1.length) = false:=decide_eq_false tZ
    clear c6
    (first|rw [c6b0]|(simp only [bE,bG];rw [c6b0])|skip)
    replace H:=lF H
    obtain ⟨t124,A80,H⟩:=H
    replace H:(impl_DevOk.j0 k (!t124) l0_0 l0_1 a0_2 a0_3) = some r:=H
    have A8:=aA.mk A80
    clear A80
    have H':=aA.mk H
    clear H
    obtain ⟨hcz9_0,hcz9_1,hcz9_2,hcz9_3⟩:=cs4 BK122.out
    obtain ⟨hfz9_0,hfz9_1,hfz9_2,hfz9_3⟩:=fs4 BK122.out
    go_wp2_with (first|((with_reducible refine aW (f:=44) rfl ?_);refine bK (some 10) rfl rfl Try.func44 tG rfl #[.int .i64 (l0_0.length:Int),.int .i64 1,.int .i64 60] rfl tC ?_;(with_reducible refine (impl_within.calls (l0_0.length:Int) 1 60 true _ A4.out).mono ?_);rintro e w' ⟨rfl,⟨nd,rfl⟩⟩;refine ⟨_,rfl,?_⟩)|(go_at_call 44;(with_reducible refine (impl_within.calls a0_2 (-1) 1000 t124 _ A8.out).mono ?_);rintro e w' ⟨rfl,⟨nd,rfl⟩⟩))
    go_meet
    case rel=>exact ⟨_,(!t124),td,H',⟨wW⟩,⟨wG⟩,⟨vF⟩⟩
  ·replace c5:=Bool.eq_false_iff.mpr c5
   subst c5
   have H1:(impl_DevOk.j0 k true l0_0 l0_1 a0_2 a0_3) = some r:=by rw [if_neg (show ¬ (false = true) by decide)] at H;exact H
   clear H
   have H:=H1
   clear H1
   have H':=aA.mk H
   clear H
   obtain ⟨hcz10_0,hcz10_1,hcz10_2,hcz10_3⟩:=cs4 BK122.out
   obtain ⟨hfz10_0,hfz10_1,hfz10_2,hfz10_3⟩:=fs4 BK122.out
   go_wp2_with (first|((with_reducible refine aW (f:=44) rfl ?_);refine bK (some 10) rfl rfl Try.func44 tG rfl #[.int .i64 (l0_0.length:Int),.int .i64 1,.int .i64 60] rfl tC ?_;(with_reducible refine (impl_within.calls (l0_0.length:Int) 1 60 false _ A4.out).mono ?_);rintro e w' ⟨rfl,⟨nd,rfl⟩⟩;refine ⟨_,rfl,?_⟩))
   go_meet
   case rel=>exact ⟨_,(true),td,H',⟨wW⟩,⟨wG⟩,⟨vF⟩⟩
 case rest =>
  clear HC2
  try clear c2
  try clear p2
  try clear c4
  try clear c5
  try clear c6
  try clear c6b0
  try clear c6b1
  try clear hcz10_0
  try clear hcz10_1
  try clear hcz10_2
  try clear hcz10_3
  try clear hcz7_0
  try clear hcz7_1
  try clear hcz7_2
  try clear hcz7_3
  try clear hcz9_0
  try clear hcz9_1
  try clear hcz9_2
  try clear hcz9_3
  try clear hfz10_0
  try clear hfz10_1
  try clear hfz10_2
  try clear hfz10_3
  try clear hfz7_0
  try clear hfz7_1
  try clear hfz7_2
  try clear hfz7_3
  try clear hfz9_0
  try clear hfz9_1
  try clear hfz9_2
  try clear hfz9_3
  obtain ⟨kq,x23_1,rfl,HA,HJ1,BK122,HB⟩:=hcut
  cases kq with
  | zero=>exact absurd HA.out (by simp [impl_DevOk.j0])
  | succ kj1 =>
   have H:=HA.out
   clear HA
   simp only [impl_DevOk.j0] at H
   by_cases c11:x23_1 = true
   ·subst c11
    have H1:(some false) = some r:=by rw [if_pos rfl] at H;exact H
    clear H
    have H:=H1
    clear H1
    obtain rfl:=Option.some.inj H
    go_wp2
    go_ret
    exact ⟨tN,vF⟩
   ·replace c11:=Bool.eq_false_iff.mpr c11
    subst c11
    have H1:(impl_DevOk.l0 kj1 l0_0 (l0_0.length:Int) 0 l0_0 l0_1 a0_2 a0_3) = some r:=by rw [if_neg (show ¬ (false = true) by decide)] at H;exact H
    clear H
    have H:=H1
    clear H1
    have H':=aA.mk H
    clear H
    obtain ⟨hcz12_0,hcz12_1,hcz12_2,hcz12_3⟩:=cs4 BK122.out
    obtain ⟨hfz12_0,hfz12_1,hfz12_2,hfz12_3⟩:=fs4 BK122.out
    go_wp2
    go_loopg [27] kj1 (fun kq v27 w'=>∃ (x27_2:Int),v27 = .int .i64 x27_2 ∧ aA (impl_DevOk.l0 kq l0_0 (l0_0.length:Int) x27_2 l0_0 l0_1 a0_2 a0_3 = some r) ∧ aA (kq ≤ kj1) ∧ aA (w'.heap[gb122]? = some (.cells #[(.slice A0_0 l0_0.length c0_0),(.slice A0_1 l0_1.length c0_1),.int .i64 a0_2,.bool a0_3] 25 (0,0))) ∧ aA (Below w.heap.size w w'))
    case atStart=>exact ⟨(0),td,H',⟨Nat.le_refl _⟩,⟨wG⟩,⟨vF⟩⟩
    case round =>
     clear H'
     try clear c1
     try clear c2
     try clear p2
     try clear c4
     try clear c5
     try clear c6
     try clear c6b0
     try clear c6b1
     try clear c11
     try clear hcz10_0
     try clear hcz10_1
     try clear hcz10_2
     try clear hcz10_3
     try clear hcz12_0
     try clear hcz12_1
     try clear hcz12_2
     try clear hcz12_3
     try clear hcz7_0
     try clear hcz7_1
     try clear hcz7_2
     try clear hcz7_3
     try clear hcz9_0
     try clear hcz9_1
     try clear hcz9_2
     try clear hcz9_3
     try clear hfz10_0
     try clear hfz10_1
     try clear hfz10_2
     try clear hfz10_3
     try clear hfz12_0
     try clear hfz12_1
     try clear hfz12_2
     try clear hfz12_3
     try clear hfz7_0
     try clear hfz7_1
     try clear hfz7_2
     try clear hfz7_3
     try clear hfz9_0
     try clear hfz9_1
     try clear hfz9_2
     try clear hfz9_3
     try clear p2
     obtain ⟨x27_2,rfl,HA,HK2,BK122,HB⟩:=hrel
     cases gk with
     | zero=>exact absurd HA.out (by simp [impl_DevOk.l0])
     | succ k2 =>
      have H:=HA.out
      clear HA
      simp only [impl_DevOk.l0] at H
      by_cases c13:x27_2 < (l0_0.length:Int)
      ·rw [if_pos c13] at H
       have c13b0:decide (x27_2 < (l0_0.length:Int)) = true:=decide_eq_true c13
       clear c13
       by_cases c14:0 ≤ x27_2
       ·rw [if_pos c14] at H
        have c14b0:decide (0 ≤ x27_2) = true:=decide_eq_true c14
        clear c14
        by_cases c15:x27_2 < (l0_0.length:Int)
        ·rw [if_pos c15] at H
         have c15b0:decide (x27_2 < (l0_0.length:Int)) = true:=decide_eq_true c15
         clear c15
         by_cases c16:((rd_L1 l0_0 x27_2).length:Int) > 80
         ·rw [if_pos c16] at H
          have c16b0:decide (80 < ((rd_L1 l0_0 x27_2).length:Int)) = true:=decide_eq_true c16
          have c16b1:decide (80 < (rd_L1 l0_0 x27_2).length) = true:=decide_eq_true tZ
          clear c16
          obtain rfl:=Option.some.inj H
          have p125:0 ≤ (x27_2:Int):=lE tx
          have q125:x27_2 < (l0_0.length:Int):=lE tx
          obtain ⟨ad125,A125_0,c125_0,e125,hx125_0,hl125_0,hi125_0⟩:=at_L1 HR0_0.out x27_2 p125 q125
          cases e125
          replace hx125_0:=(HB.out.cell (lD w _ hx125_0)).trans hx125_0
          have HR125_0:=aA.mk hi125_0
          have HC125_0:=aA.mk hl125_0
          clear hi125_0 hl125_0
          replace p125:=eq_true p125
          replace q125:=eq_true q125
          go_wp2
          go_ret
          exact ⟨tN,vF⟩
         ·rw [if_neg c16] at H
          have c16b0:decide (80 < ((rd_L1 l0_0 x27_2).length:Int)) = false:=decide_eq_false c16
          have c16b1:decide (80 < (rd_L1 l0_0 x27_2).length) = false:=decide_eq_false tZ
          clear c16
          have H':=aA.mk H
          clear H
          have p125:0 ≤ (x27_2:Int):=lE tx
          have q125:x27_2 < (l0_0.length:Int):=lE tx
          obtain ⟨ad125,A125_0,c125_0,e125,hx125_0,hl125_0,hi125_0⟩:=at_L1 HR0_0.out x27_2 p125 q125
          cases e125
          replace hx125_0:=(HB.out.cell (lD w _ hx125_0)).trans hx125_0
          have HR125_0:=aA.mk hi125_0
          have HC125_0:=aA.mk hl125_0
          clear hi125_0 hl125_0
          replace p125:=eq_true p125
          replace q125:=eq_true q125
          go_wp2
          go_roundg k2
          case measure=>have:=HJ1.out;have:=HK2.out;omega
          case rel=>exact ⟨(wrap64 (x27_2 + 1)),td,H',⟨by have:=HJ1.out;have:=HK2.out;omega⟩,⟨wG⟩,⟨vF⟩⟩
        ·rw [if_neg c15] at H
         exact wX
       ·rw [if_neg c14] at H
        exact wX
      ·rw [if_neg c13] at H
       have c13b0:decide (x27_2 < (l0_0.length:Int)) = false:=decide_eq_false c13
       clear c13
       have H':=aA.mk H
       clear H
       obtain ⟨hcz17_0,hcz17_1,hcz17_2,hcz17_3⟩:=cs4 BK122.out
       obtain ⟨hfz17_0,hfz17_1,hfz17_2,hfz17_3⟩:=fs4 BK122.out
       go_wp2
       go_loopg [38] k2 (fun kq v38 w'=>∃ (x38_3:Int),v38 = .int .i64 x38_3 ∧ aA (impl_DevOk.l1 kq l0_1 (l0_1.length:Int) x38_3 l0_0 l0_1 a0_2 a0_3 = some r) ∧ aA (kq ≤ k2) ∧ aA (w'.heap[gb122]? = some (.cells #[(.slice A0_0 l0_0.length c0_0),(.slice A0_1 l0_1.length c0_1),.int .i64 a0_2,.bool a0_3] 25 (0,0))) ∧ aA (Below w.heap.size w w'))
       case atStart=>exact ⟨(0),td,H',⟨Nat.le_refl _⟩,⟨wG⟩,⟨vF⟩⟩
       case round =>
        clear H'
        try clear c1
        try clear p1
        try clear q1
        try clear hx1
        try clear c2
        try clear p2
        try clear c4
        try clear c5
        try clear c6
        try clear c6b0
        try clear c6b1
        try clear p6
        try clear c11
        try clear c12
        try clear p12
        try clear q12
        try clear hx12
        try clear c13
        try clear c13b0
        try clear c14
        try clear c14b0
        try clear c15
        try clear c15b0
        try clear c16
        try clear c16b0
        try clear c16b1
        try clear hcz10_0
        try clear hcz10_1
        try clear hcz10_2
        try clear hcz10_3
        try clear hcz12_0
        try clear hcz12_1
        try clear hcz12_2
        try clear hcz12_3
        try clear hcz17_0
        try clear hcz17_1
        try clear hcz17_2
        try clear hcz17_3
        try clear hcz7_0
        try clear hcz7_1
        try clear hcz7_2
        try clear hcz7_3
        try clear hcz9_0
        try clear hcz9_1
        try clear hcz9_2
        try clear hcz9_3
        try clear hfz10_0
        try clear hfz10_1
        try clear hfz10_2
        try clear hfz10_3
        try clear hfz12_0
        try clear hfz12_1
        try clear hfz12_2
        try clear hfz12_3
        try clear hfz17_0
        try clear hfz17_1
        try clear hfz17_2
        try clear hfz17_3
        try clear hfz7_0
        try clear hfz7_1
        try clear hfz7_2
        try clear hfz7_3
        try clear hfz9_0
        try clear hfz9_1
        try clear hfz9_2
        try clear hfz9_3
        try clear hx125_0
        try clear p125
        try clear p2
        try clear q125
        obtain ⟨x38_3,rfl,HA,HK3,BK122,HB⟩:=hrel
        cases gk with
        | zero=>exact absurd HA.out (by simp [impl_DevOk.l1])
        | succ k3 =>
         have H:=HA.out
         clear HA
         simp only [impl_DevOk.l1] at H
         by_cases c18:x38_3 < (l0_1.length:Int)
         ·rw [if_pos c18] at H
          have c18b0:decide (x38_3 < (l0_1.length:Int)) = true:=decide_eq_true c18
          clear c18
          by_cases c19:0 ≤ x38_3
          ·rw [if_pos c19] at H
           have c19b0:decide (0 ≤ x38_3) = true:=decide_eq_true c19
           clear c19
           by_cases c20:x38_3 < (l0_1.length:Int)
           ·rw [if_pos c20] at H
            have c20b0:decide (x38_3 < (l0_1.length:Int)) = true:=decide_eq_true c20
            clear c20
            replace H:=lF H
            obtain ⟨t128,A210,H⟩:=H
            replace H:(if t128 = true then (if (((rd_T50 l0_1 x38_3).f1).length:Int) > 80 then (some false) else (impl_DevOk.l1 k3 l0_1 (l0_1.length:Int) (wrap64 (x38_3 + 1)) l0_0 l0_1 a0_2 a0_3)) else (some false)) = some r:=H
            have A21:=aA.mk A210
            clear A210
            by_cases c22:t128 = true
            ·subst c22
             have H1:(if (((rd_T50 l0_1 x38_3).f1).length:Int) > 80 then (some false) else (impl_DevOk.l1 k3 l0_1 (l0_1.length:Int) (wrap64 (x38_3 + 1)) l0_0 l0_1 a0_2 a0_3)) = some r:=by rw [if_pos rfl] at H;exact H
             clear H
             have H:=H1
             clear H1
             by_cases c23:(((rd_T50 l0_1 x38_3).f1).length:Int) > 80
             ·rw [if_pos c23] at H
              have c23b0:decide (80 < (((rd_T50 l0_1 x38_3).f1).length:Int)) = true:=decide_eq_true c23
              have c23b1:decide (80 < ((rd_T50 l0_1 x38_3).f1).length) = true:=decide_eq_true tZ
              clear c23
              obtain rfl:=Option.some.inj H
              have p126:0 ≤ (x38_3:Int):=lE tx
              have q126:x38_3 < (l0_1.length:Int):=lE tx
              obtain ⟨ad126,A126_1,c126_1,e126,hx126_0,hx126_1,hl126_1,hi126_1⟩:=at_T50 HR0_1.out x38_3 p126 q126
              cases e126
              replace hx126_0:=(HB.out.cell (lD w _ hx126_0)).trans hx126_0
              replace hx126_1:=(HB.out.cell (lD w _ hx126_1)).trans hx126_1
              have HR126_1:=aA.mk hi126_1
              have HC126_1:=aA.mk hl126_1
              clear hi126_1 hl126_1
              replace p126:=eq_true p126
              replace q126:=eq_true q126
              go_wp2_with (first|((with_reducible refine bC (N:=6) rfl ?_);(try (refine cC wN ?_;dsimp only));refine bD ?hg (N:=6) ?hd (cs:=#[.int .i64 0,.slice none 0 0]) (t:=50) ?hr ?_;(case hd=>rfl);(case hg=>rfl);(case hr=>exact tE);intro gb127 hg w24 hbox hb;have BK127:=aA.mk (hbox);have GW127:=aA.mk ((by rw [hg];exact (aX HB.out):w.heap.size ≤ gb127));have GE127:=aA.mk ((by rw [hg];exact (aX HB.out):w.heap.size ≤ gb127));replace HB:=aA.mk (aT HB.out hb);have NB122_127:=aA.mk ((by rw [hg];exact Nat.ne_of_lt (bJ (g:=gb122) (o:=.cells #[.slice A0_0 l0_0.length c0_0,.slice (some ad126) l0_1.length c0_1,.int .i64 a0_2,.bool a0_3] 25 (0,0)) BK122.out):gb122 ≠ gb127));have NB127_122:=aA.mk ((by rw [hg];exact Nat.ne_of_gt (bJ (g:=gb122) (o:=.cells #[.slice A0_0 l0_0.length c0_0,.slice (some ad126) l0_1.length c0_1,.int .i64 a0_2,.bool a0_3] 25 (0,0)) BK122.out):gb127 ≠ gb122));replace BK122:=aA.mk (bM (g:=gb122) (o:=.cells #[.slice A0_0 l0_0.length c0_0,.slice (some ad126) l0_1.length c0_1,.int .i64 a0_2,.bool a0_3] 25 (0,0)) BK122.out hb);clear hb hbox hg;have hnb25:=NB127_122.out;have hnc25:=NB122_127.out;obtain ⟨hcz26_0,hcz26_1⟩:=cs2 BK127.out;obtain ⟨hfz26_0,hfz26_1⟩:=fs2 BK127.out;obtain ⟨hcz27_0,hcz27_1,hcz27_2,hcz27_3⟩:=cs4 BK122.out;obtain ⟨hfz27_0,hfz27_1,hfz27_2,hfz27_3⟩:=fs4 BK122.out)|((with_reducible refine aW (f:=44) rfl ?_);refine bK (some 48) rfl rfl Try.func44 tG rfl #[.int .i64 ((rd_T50 l0_1 x38_3).f0),.int .i64 0,.int .i64 (wrap64 ((l0_0.length:Int) - 1))] rfl tC ?_;(with_reducible refine (impl_within.calls ((rd_T50 l0_1 x38_3).f0) 0 (wrap64 ((l0_0.length:Int) - 1)) true _ A21.out).mono ?_);rintro e w' ⟨rfl,⟨nd,rfl⟩⟩;refine ⟨_,rfl,?_⟩))
              go_ret
              exact ⟨tN,wq⟩
             ·rw [if_neg c23] at H
              have c23b0:decide (80 < (((rd_T50 l0_1 x38_3).f1).length:Int)) = false:=decide_eq_false c23
              have c23b1:decide (80 < ((rd_T50 l0_1 x38_3).f1).length) = false:=decide_eq_false tZ
              clear c23
              have H':=aA.mk H
              clear H
              have p126:0 ≤ (x38_3:Int):=lE tx
              have q126:x38_3 < (l0_1.length:Int):=lE tx
              obtain ⟨ad126,A126_1,c126_1,e126,hx126_0,hx126_1,hl126_1,hi126_1⟩:=at_T50 HR0_1.out x38_3 p126 q126
              cases e126
              replace hx126_0:=(HB.out.cell (lD w _ hx126_0)).trans hx126_0
              replace hx126_1:=(HB.out.cell (lD w _ hx126_1)).trans hx126_1
              have HR126_1:=aA.mk hi126_1
              have HC126_1:=aA.mk hl126_1
              clear hi126_1 hl126_1
              replace p126:=eq_true p126
              replace q126:=eq_true q126
              go_wp2_with (first|((with_reducible refine bC (N:=6) rfl ?_);(try (refine cC wN ?_;dsimp only));refine bD ?hg (N:=6) ?hd (cs:=#[.int .i64 0,.slice none 0 0]) (t:=50) ?hr ?_;(case hd=>rfl);(case hg=>rfl);(case hr=>exact tE);intro gb127 hg w28 hbox hb;have BK127:=aA.mk (hbox);have GW127:=aA.mk ((by rw [hg];exact (aX HB.out):w.heap.size ≤ gb127));have GE127:=aA.mk ((by rw [hg];exact (aX HB.out):w.heap.size ≤ gb127));replace HB:=aA.mk (aT HB.out hb);have NB122_127:=aA.mk ((by rw [hg];exact Nat.ne_of_lt (bJ (g:=gb122) (o:=.cells #[.slice A0_0 l0_0.length c0_0,.slice (some ad126) l0_1.length c0_1,.int .i64 a0_2,.bool a0_3] 25 (0,0)) BK122.out):gb122 ≠ gb127));have NB127_122:=aA.mk ((by rw [hg];exact Nat.ne_of_gt (bJ (g:=gb122) (o:=.cells #[.slice A0_0 l0_0.length c0_0,.slice (some ad126) l0_1.length c0_1,.int .i64 a0_2,.bool a0_3] 25 (0,0)) BK122.out):gb127 ≠ gb122));replace BK122:=aA.mk (bM (g:=gb122) (o:=.cells #[.slice A0_0 l0_0.length c0_0,.slice (some ad126) l0_1.length c0_1,.int .i64 a0_2,.bool a0_3] 25 (0,0)) BK122.out hb);clear hb hbox hg;have hnb29:=NB127_122.out;have hnc29:=NB122_127.out;obtain ⟨hcz30_0,hcz30_1⟩:=cs2 BK127.out;obtain ⟨hfz30_0,hfz30_1⟩:=fs2 BK127.out;obtain ⟨hcz31_0,hcz31_1,hcz31_2,hcz31_3⟩:=cs4 BK122.out;obtain ⟨hfz31_0,hfz31_1,hfz31_2,hfz31_3⟩:=fs4 BK122.out)|((with_reducible refine aW (f:=44) rfl ?_);refine bK (some 48) rfl rfl Try.func44 tG rfl #[.int .i64 ((rd_T50 l0_1 x38_3).f0),.int .i64 0,.int .i64 (wrap64 ((l0_0.length:Int) - 1))] rfl tC ?_;(with_reducible refine (impl_within.calls ((rd_T50 l0_1 x38_3).f0) 0 (wrap64 ((l0_0.length:Int) - 1)) true _ A21.out).mono ?_);rintro e w' ⟨rfl,⟨nd,rfl⟩⟩;refine ⟨_,rfl,?_⟩))
              go_roundg k3
              case measure=>have:=HJ1.out;have:=HK2.out;have:=HK3.out;omega
              case rel=>exact ⟨(wrap64 (x38_3 + 1)),td,H',⟨by have:=HJ1.out;have:=HK2.out;have:=HK3.out;omega⟩,⟨by (with_reducible repeat (first|refine aM ?_ _|refine aN ?_|refine aG ?_ _));refine bY ?_ NB122_127.out _;(with_reducible repeat (first|refine aM ?_ _|refine aN ?_|refine aG ?_ _));refine bY ?_ NB122_127.out _;(with_reducible repeat (first|refine aM ?_ _|refine aN ?_|refine aG ?_ _));exact BK122.out⟩,⟨wq⟩⟩
            ·replace c22:=Bool.eq_false_iff.mpr c22
             subst c22
             have H1:(some false) = some r:=by rw [if_neg (show ¬ (false = true) by decide)] at H;exact H
             clear H
             have H:=H1
             clear H1
             obtain rfl:=Option.some.inj H
             have p126:0 ≤ (x38_3:Int):=lE tx
             have q126:x38_3 < (l0_1.length:Int):=lE tx
             obtain ⟨ad126,A126_1,c126_1,e126,hx126_0,hx126_1,hl126_1,hi126_1⟩:=at_T50 HR0_1.out x38_3 p126 q126
             cases e126
             replace hx126_0:=(HB.out.cell (lD w _ hx126_0)).trans hx126_0
             replace hx126_1:=(HB.out.cell (lD w _ hx126_1)).trans hx126_1
             have HR126_1:=aA.mk hi126_1
             have HC126_1:=aA.mk hl126_1
             clear hi126_1 hl126_1
             replace p126:=eq_true p126
             replace q126:=eq_true q126
             go_wp2_with (first|((with_reducible refine bC (N:=6) rfl ?_);(try (refine cC wN ?_;dsimp only));refine bD ?hg (N:=6) ?hd (cs:=#[.int .i64 0,.slice none 0 0]) (t:=50) ?hr ?_;(case hd=>rfl);(case hg=>rfl);(case hr=>exact tE);intro gb127 hg w32 hbox hb;have BK127:=aA.mk (hbox);have GW127:=aA.mk ((by rw [hg];exact (aX HB.out):w.heap.size ≤ gb127));have GE127:=aA.mk ((by rw [hg];exact (aX HB.out):w.heap.size ≤ gb127));replace HB:=aA.mk (aT HB.out hb);have NB122_127:=aA.mk ((by rw [hg];exact Nat.ne_of_lt (bJ (g:=gb122) (o:=.cells #[.slice A0_0 l0_0.length c0_0,.slice (some ad126) l0_1.length c0_1,.int .i64 a0_2,.bool a0_3] 25 (0,0)) BK122.out):gb122 ≠ gb127));have NB127_122:=aA.mk ((by rw [hg];exact Nat.ne_of_gt (bJ (g:=gb122) (o:=.cells #[.slice A0_0 l0_0.length c0_0,.slice (some ad126) l0_1.length c0_1,.int .i64 a0_2,.bool a0_3] 25 (0,0)) BK122.out):gb127 ≠ gb122));replace BK122:=aA.mk (bM (g:=gb122) (o:=.cells #[.slice A0_0 l0_0.length c0_0,.slice (some ad126) l0_1.length c0_1,.int .i64 a0_2,.bool a0_3] 25 (0,0)) BK122.out hb);clear hb hbox hg;have hnb33:=NB127_122.out;have hnc33:=NB122_127.out;obtain ⟨hcz34_0,hcz34_1⟩:=cs2 BK127.out;obtain ⟨hfz34_0,hfz34_1⟩:=fs2 BK127.out;obtain ⟨hcz35_0,hcz35_1,hcz35_2,hcz35_3⟩:=cs4 BK122.out;obtain ⟨hfz35_0,hfz35_1,hfz35_2,hfz35_3⟩:=fs4 BK122.out)|((with_reducible refine aW (f:=44) rfl ?_);refine bK (some 48) rfl rfl Try.func44 tG rfl #[.int .i64 ((rd_T50 l0_1 x38_3).f0),.int .i64 0,.int .i64 (wrap64 ((l0_0.length:Int) - 1))] rfl tC ?_;(with_reducible refine (impl_within.calls ((rd_T50 l0_1 x38_3).f0) 0 (wrap64 ((l0_0.length:Int) - 1)) false _ A21.out).mono ?_);rintro e w' ⟨rfl,⟨nd,rfl⟩⟩;refine ⟨_,rfl,?_⟩))
             go_ret
             exact ⟨tN,wq⟩
           ·rw [if_neg c20] at H
            exact wX
          ·rw [if_neg c19] at H
           exact wX
         ·rw [if_neg c18] at H
          have c18b0:decide (x38_3 < (l0_1.length:Int)) = false:=decide_eq_false c18
          clear c18
          obtain rfl:=Option.some.inj H
          go_wp2
          go_ret
          exact ⟨tN,vF⟩
end Go.Proofs.Ytilhcaofpfeioaa.PFnDevsBent

namespace Go.Proofs.Ytilhcaofpfeioaa.PFnDevsBent
open Go.RowKit Go.Proofs.YtilhcaofpfeioaaW.PrintWords Go.Proofs.YtilhcaofpfeioaaW.PrintLast Go.Proofs.YtilhcaofpfeioaaW.PrintMore
attribute [local go_sem] max2_int min2_int max_two min_two max_three min_three max_four min_four   -- for this text's walks alone
set_option linter.unusedVariables false
set_option linter.unusedSimpArgs false
mutual
def spec_ReadSec.j0:Nat → Int → Bool → List (List Int) → List (S50) → Int → Bool → Option (List Int)
 | 0,_,_,_,_,_,_=>none
 | k + 1,x1,x18,x130000,x130001,x130002,x130003=>if x18 = true then (some (([]:List Int))) else (if 0 ≤ x1 then (if x1 < (x130000.length:Int) then (spec_ReadSec.l0 k x1 (rd_L1 x130000 x1) 0 x130000 x130001 x130002 x130003) else (none)) else (none))
def spec_ReadSec.l0:Nat → Int → List Int → Int → List (List Int) → List (S50) → Int → Bool → Option (List Int)
 | 0,_,_,_,_,_,_,_=>none
 | k + 1,x1,x5,x6,x130000,x130001,x130002,x130003=>if x6 < (x130001.length:Int) then (if 0 ≤ x6 then (if ((rd_T50 x130001 x6).f0) = x1 then (spec_ReadSec.l0 k x1 ((rd_T50 x130001 x6).f1) (wrap64 (x6 + 1)) x130000 x130001 x130002 x130003) else (spec_ReadSec.l0 k x1 x5 (wrap64 (x6 + 1)) x130000 x130001 x130002 x130003)) else (none)) else ((some (([]:List Int):List Int)).bind fun y138=>(if y138.length + x5.length < 140737488355328 then (some (y138 ++ x5)) else (none)))
end
def spec_ReadSec.f (k:Nat) (l0_0:List (List Int)) (l0_1:List (S50)) (a0_2:Int) (a0_3:Bool) (a1:Int):Option (List Int):=(spec_DevOk.f k l0_0 l0_1 a0_2 a0_3).bind fun t130=>(if t130 = true then ((spec_l1In.f a1 0 (wrap64 ((l0_0.length:Int) - 1))).bind fun t131=>(spec_ReadSec.j0 k a1 (!t131) l0_0 l0_1 a0_2 a0_3)) else (spec_ReadSec.j0 k a1 true l0_0 l0_1 a0_2 a0_3))
set_option maxHeartbeats 8000000 in
set_option maxRecDepth 100000 in
theorem spec_ReadSec.calls (k:Nat) (P0_0_:Nat → Prop) (A0_0:Option Addr) (c0_0:Nat) (l0_0:List (List Int)) (P0_1_:Nat → Prop) (A0_1:Option Addr) (c0_1:Nat) (l0_1:List (S50)) (a0_2:Int) (a0_3:Bool) (a1:Int) (r:List Int) (w:World) (hs0_0:Kd.V (Kd.slice 5 (Kd.int .u8)) 37 w w.heap.size (fun k_=>P0_0_ k_) (.slice A0_0 l0_0.length c0_0) l0_0) (hs0_1:Kd.V k50 50 w w.heap.size (fun k_=>P0_1_ k_) (.slice A0_1 l0_1.length c0_1) l0_1) (h:spec_ReadSec.f k l0_0 l0_1 a0_2 a0_3 a1 = some r) :
  Calls Try.prog 21 #[.agg #[.slice A0_0 l0_0.length c0_0,.slice A0_1 l0_1.length c0_1,.int .i64 a0_2,.bool a0_3],.int .i64 a1] w fun e w'=>∃ v0_:Value,e = .returned (v0_) ∧ Kd.R (Kd.int .u8) 5 w' w.heap.size (fun k_=>(w.heap.size ≤ k_)) v0_ r ∧ Below w.heap.size w w':=by
 have hu25:=Try.underlying25
 have HO0_0:=aA.mk (show Kd.V (Kd.slice 5 (Kd.int .u8)) 37 w w.heap.size (fun k_=>((P0_0_ k_ ∨ P0_1_ k_) ∨ w.heap.size ≤ k_)) (.slice A0_0 l0_0.length c0_0) l0_0 from Kd.V_mono hs0_0 (fun k_ hk=>.inl (.inl hk)))
 have HO0_1:=aA.mk (show Kd.V k50 50 w w.heap.size (fun k_=>((P0_0_ k_ ∨ P0_1_ k_) ∨ w.heap.size ≤ k_)) (.slice A0_1 l0_1.length c0_1) l0_1 from Kd.V_mono hs0_1 (fun k_ hk=>.inl (.inr hk)))
 have HB:=aA.mk (Below.refl w.heap.size w)
 have H:((spec_DevOk.f k l0_0 l0_1 a0_2 a0_3).bind fun t130=>(if t130 = true then ((spec_l1In.f a1 0 (wrap64 ((l0_0.length:Int) - 1))).bind fun t131=>(spec_ReadSec.j0 k a1 (!t131) l0_0 l0_1 a0_2 a0_3)) else (spec_ReadSec.j0 k a1 true l0_0 l0_1 a0_2 a0_3))) = some r:=h
 clear h
 have HC3:=aA.mk H
 clear H
 go_enter Try.func21,Try.ntmps21
 go_upto_region 1 with (first|((with_reducible refine bC (N:=2) rfl ?_);(try (refine cC wN ?_;dsimp only));refine bD ?hg (N:=2) ?hd (cs:=#[.slice A0_0 l0_0.length c0_0,.slice A0_1 l0_1.length c0_1,.int .i64 a0_2,.bool a0_3]) (t:=25) ?hr ?_;(case hd=>rfl);(case hg=>rfl);(case hr=>exact tE);intro gb129 hg w4 hbox hb;replace HO0_0:=aA.mk (Kd.V_below (Kd.V_elderB HO0_0.out gb129 (Nat.le_of_eq hg.symm)) hb);replace HO0_1:=aA.mk (Kd.V_below (Kd.V_elderB HO0_1.out gb129 (Nat.le_of_eq hg.symm)) hb);have BK129:=aA.mk (hbox);have GW129:=aA.mk ((by rw [hg];exact (aX HB.out):w.heap.size ≤ gb129));have GE129:=aA.mk ((by rw [hg];exact (aX HB.out):w.heap.size ≤ gb129));replace HB:=aA.mk (aT HB.out hb);clear hb hbox hg))
 (try simp only [Act.put,lA,lB,lC])
 go_cut [18] (fun v18 wc=>∃ (kq:Nat) (x18_2:Bool),v18 = .bool x18_2 ∧ aA (spec_ReadSec.j0 kq a1 x18_2 l0_0 l0_1 a0_2 a0_3 = some r) ∧ aA (kq ≤ k) ∧ aA (Kd.V (Kd.slice 5 (Kd.int .u8)) 37 wc w.heap.size (fun k_=>((P0_0_ k_ ∨ P0_1_ k_) ∨ w.heap.size ≤ k_) ∧ k_ ≠ gb129) (.slice A0_0 l0_0.length c0_0) l0_0) ∧ aA (Kd.V k50 50 wc w.heap.size (fun k_=>((P0_0_ k_ ∨ P0_1_ k_) ∨ w.heap.size ≤ k_) ∧ k_ ≠ gb129) (.slice A0_1 l0_1.length c0_1) l0_1) ∧ aA (wc.heap[gb129]? = some (.cells #[(.slice A0_0 l0_0.length c0_0),(.slice A0_1 l0_1.length c0_1),.int .i64 a0_2,.bool a0_3] 25 (0,0))) ∧ aA (Below w.heap.size w wc))
 case first =>
  have H:=HC3.out
  clear HC3
  replace H:=lF H
  obtain ⟨t130,A50,H⟩:=H
  replace H:(if t130 = true then ((spec_l1In.f a1 0 (wrap64 ((l0_0.length:Int) - 1))).bind fun t131=>(spec_ReadSec.j0 k a1 (!t131) l0_0 l0_1 a0_2 a0_3)) else (spec_ReadSec.j0 k a1 true l0_0 l0_1 a0_2 a0_3)) = some r:=H
  have A5:=aA.mk A50
  clear A50
  by_cases c6:t130 = true
  ·subst c6
   have H1:((spec_l1In.f a1 0 (wrap64 ((l0_0.length:Int) - 1))).bind fun t131=>(spec_ReadSec.j0 k a1 (!t131) l0_0 l0_1 a0_2 a0_3)) = some r:=by rw [if_pos rfl] at H;exact H
   clear H
   have H:=H1
   clear H1
   replace H:=lF H
   obtain ⟨t131,A70,H⟩:=H
   replace H:(spec_ReadSec.j0 k a1 (!t131) l0_0 l0_1 a0_2 a0_3) = some r:=H
   have A7:=aA.mk A70
   clear A70
   have H':=aA.mk H
   clear H
   obtain ⟨hcz8_0,hcz8_1,hcz8_2,hcz8_3⟩:=cs4 BK129.out
   obtain ⟨hfz8_0,hfz8_1,hfz8_2,hfz8_3⟩:=fs4 BK129.out
   go_wp2_with (first|((with_reducible refine aW (f:=18) rfl ?_);refine bK (some 8) rfl rfl Try.func18 tG rfl #[.agg #[.slice A0_0 l0_0.length c0_0,.slice A0_1 l0_1.length c0_1,.int .i64 a0_2,.bool a0_3]] rfl tC ?_;(with_reducible refine (spec_DevOk.calls k _ _ l0_0 _ _ l0_1 a0_2 a0_3 true _ ?side1 ?side2 ?side3 ?side4 A5.out).mono ?_);(case side1=>exact wJ);(case side2=>exact (Kd.V_reads' HO0_0.out).2.1);(case side3=>exact wH);(case side4=>exact (Kd.V_reads' HO0_1.out).2.1);rintro e w9 ⟨rfl,hb⟩;refine ⟨_,rfl,?_⟩;replace HO0_0:=aA.mk (Kd.V_below HO0_0.out hb);replace HO0_1:=aA.mk (Kd.V_below HO0_1.out hb);replace BK129:=aA.mk (bM (g:=gb129) (o:=.cells #[.slice A0_0 l0_0.length c0_0,.slice A0_1 l0_1.length c0_1,.int .i64 a0_2,.bool a0_3] 25 (0,0)) BK129.out hb);replace HB:=aA.mk (aT HB.out hb);(try clear hb);obtain ⟨hcz10_0,hcz10_1,hcz10_2,hcz10_3⟩:=cs4 BK129.out;obtain ⟨hfz10_0,hfz10_1,hfz10_2,hfz10_3⟩:=fs4 BK129.out)|(go_at_call 43;(with_reducible refine (spec_l1In.calls a1 0 (wrap64 ((l0_0.length:Int) - 1)) t131 _ A7.out).mono ?_);rintro e w' ⟨rfl,⟨nd,rfl⟩⟩))
   go_meet
   case rel=>exact ⟨_,(!t131),td,H',⟨wW⟩,⟨wk⟩,⟨wj⟩,⟨wZ⟩,⟨vX⟩⟩
  ·replace c6:=Bool.eq_false_iff.mpr c6
   subst c6
   have H1:(spec_ReadSec.j0 k a1 true l0_0 l0_1 a0_2 a0_3) = some r:=by rw [if_neg (show ¬ (false = true) by decide)] at H;exact H
   clear H
   have H:=H1
   clear H1
   have H':=aA.mk H
   clear H
   obtain ⟨hcz11_0,hcz11_1,hcz11_2,hcz11_3⟩:=cs4 BK129.out
   obtain ⟨hfz11_0,hfz11_1,hfz11_2,hfz11_3⟩:=fs4 BK129.out
   go_wp2_with (first|((with_reducible refine aW (f:=18) rfl ?_);refine bK (some 8) rfl rfl Try.func18 tG rfl #[.agg #[.slice A0_0 l0_0.length c0_0,.slice A0_1 l0_1.length c0_1,.int .i64 a0_2,.bool a0_3]] rfl tC ?_;(with_reducible refine (spec_DevOk.calls k _ _ l0_0 _ _ l0_1 a0_2 a0_3 false _ ?side1 ?side2 ?side3 ?side4 A5.out).mono ?_);(case side1=>exact wJ);(case side2=>exact (Kd.V_reads' HO0_0.out).2.1);(case side3=>exact wH);(case side4=>exact (Kd.V_reads' HO0_1.out).2.1);rintro e w12 ⟨rfl,hb⟩;refine ⟨_,rfl,?_⟩;replace HO0_0:=aA.mk (Kd.V_below HO0_0.out hb);replace HO0_1:=aA.mk (Kd.V_below HO0_1.out hb);replace BK129:=aA.mk (bM (g:=gb129) (o:=.cells #[.slice A0_0 l0_0.length c0_0,.slice A0_1 l0_1.length c0_1,.int .i64 a0_2,.bool a0_3] 25 (0,0)) BK129.out hb);replace HB:=aA.mk (aT HB.out hb);(try clear hb)))
   go_meet
   case rel=>exact ⟨_,(true),td,H',⟨wW⟩,⟨wk⟩,⟨wj⟩,⟨wZ⟩,⟨vX⟩⟩
 case rest =>
  clear HC3
  try clear c1
  try clear c2
  try clear p2
  try clear c6
  try clear p6
  try clear hcz10_0
  try clear hcz10_1
  try clear hcz10_2
  try clear hcz10_3
  try clear hcz11_0
  try clear hcz11_1
  try clear hcz11_2
  try clear hcz11_3
  try clear hcz8_0
  try clear hcz8_1
  try clear hcz8_2
  try clear hcz8_3
  try clear hfz10_0
  try clear hfz10_1
  try clear hfz10_2
  try clear hfz10_3
  try clear hfz11_0
  try clear hfz11_1
  try clear hfz11_2
  try clear hfz11_3
  try clear hfz8_0
  try clear hfz8_1
  try clear hfz8_2
  try clear hfz8_3
  obtain ⟨kq,x18_2,rfl,HA,HJ2,HO_130000,HO_130001,BK129,HB⟩:=hcut
  cases kq with
  | zero=>exact absurd HA.out (by simp [spec_ReadSec.j0])
  | succ kj2 =>
   have H:=HA.out
   clear HA
   simp only [spec_ReadSec.j0] at H
   by_cases c13:x18_2 = true
   ·subst c13
    have H1:(some (([]:List Int))) = some r:=by rw [if_pos rfl] at H;exact H
    clear H
    have H:=H1
    clear H1
    obtain ⟨y132,hy132⟩:∃ y_:List Int,y_ = (([]:List Int)):=⟨_,rfl⟩
    replace H:(some y132) = some r:=by first|(rw [hy132];with_reducible exact H)|(have H2_:=(Option.bind_some _ _).symm.trans H;rw [hy132];with_reducible exact H2_)|(have H2_:=(Option.bind_some _ _).symm.trans H;with_reducible exact H2_)|with_reducible exact H|(rw [hy132];exact H)|exact H
    have Ny132:=aA.mk hy132
    clear hy132
    obtain rfl:=Option.some.inj H
    go_wp2_with (first|((with_reducible refine bC (N:=19) rfl ?_);(try (refine cC wN ?_;dsimp only));refine Kd.R_lit (Kd.int .u8) _ 5 ?hg (N:=19) ?hd (xs:=([]:List Int)) (inner:=[]) (ok:=fun _=>True) (okp:=fun _=>True) ?hr ?hp (fun _ hk=>hk) trivial (Below.refl _ _) (Nat.le_refl _) vN ?_;(case hd=>rfl);(case hg=>rfl);(case hr=>exact tE);(case hp=>exact (Reps.none _ _));intro v133 w14 ho15 hb hg_ hnew_;clear hg_ hnew_;(first|rw [← Ny132.out] at ho15|(simp only [Int.reduceToNat] at ho15;rw [← Ny132.out] at ho15));replace HO_130000:=aA.mk (Kd.V_elder' HO_130000.out (Kd.R_base ho15) hb);replace HO_130001:=aA.mk (Kd.V_elder' HO_130001.out (Kd.R_base ho15) hb);have HO134:=aA.mk (Kd.R_lower (Kd.R_newM (M:=fun k_=>(w.heap.size ≤ k_)) ho15 (aX HB.out) (fun k_ h_=>h_)) (aX HB.out));replace BK129:=aA.mk (bM (g:=gb129) (o:=.cells #[.slice A0_0 l0_0.length c0_0,.slice A0_1 l0_1.length c0_1,.int .i64 a0_2,.bool a0_3] 25 (0,0)) BK129.out hb);replace HB:=aA.mk (aT HB.out hb);clear hb ho15))
    go_ret
    exact ⟨_,tN,by (with_reducible repeat (first|apply Kd.R_alloc|apply Kd.R_drewN|apply Kd.R_drew));exact Kd.R_mono HO134.out (fun _ hk=>hk.1),vX⟩
   ·replace c13:=Bool.eq_false_iff.mpr c13
    subst c13
    have H1:(if 0 ≤ a1 then (if a1 < (l0_0.length:Int) then (spec_ReadSec.l0 kj2 a1 (rd_L1 l0_0 a1) 0 l0_0 l0_1 a0_2 a0_3) else (none)) else (none)) = some r:=by rw [if_neg (show ¬ (false = true) by decide)] at H;exact H
    clear H
    have H:=H1
    clear H1
    by_cases c16:0 ≤ a1
    ·rw [if_pos c16] at H
     have c16b0:decide (0 ≤ a1) = true:=decide_eq_true c16
     clear c16
     by_cases c17:a1 < (l0_0.length:Int)
     ·rw [if_pos c17] at H
      have c17b0:decide (a1 < (l0_0.length:Int)) = true:=decide_eq_true c17
      clear c17
      have H':=aA.mk H
      clear H
      obtain ⟨hcz18_0,hcz18_1,hcz18_2,hcz18_3⟩:=cs4 BK129.out
      obtain ⟨hfz18_0,hfz18_1,hfz18_2,hfz18_3⟩:=fs4 BK129.out
      have p135:0 ≤ (a1:Int):=lE tx
      have q135:a1 < (l0_0.length:Int):=lE tx
      obtain ⟨ad135,A135_0,c135_0,e135,hx135_0,hl135_0,hi135_0⟩:=at_L1 (Kd.V_reads' HO_130000.out).2.2 a1 p135 q135
      cases e135
      obtain ⟨ce135,hce135,hMe135,hcc135⟩:=Kd.V_get HO_130000.out [] a1 p135 (by first|exact q135|exact lE tx|(have e_:=(Kd.V_reads' HO_130000.out).1;omega))
      obtain ⟨ua135_0,uc135_0,rfl,ul135_0,ge135_0⟩:=Kd.FK_slice_open hMe135
      have hv135_0:=hcc135 0 _ rfl
      rw [Nat.add_zero,show ((Kd.slice 5 (Kd.int .u8))).sz = 1 from rfl,Nat.mul_one] at hv135_0
      replace hv135_0:=Option.some.inj (hv135_0.symm.trans hx135_0)
      injection hv135_0 with hva_ hvn_ hvc_
      rw [hva_] at ge135_0
      rw [hvc_] at ul135_0
      have HL135_0:=aA.mk (show Kd.V (Kd.int .u8) 5 _ w.heap.size _ _ (rd_L1 l0_0 a1) from Kd.V_mk ul135_0 ge135_0)
      clear hva_ hvn_ hvc_ ge135_0 ul135_0
      clear hcc135 hce135
      have HR135_0:=aA.mk hi135_0
      have HC135_0:=aA.mk hl135_0
      clear hi135_0 hl135_0
      replace p135:=eq_true p135
      replace q135:=eq_true q135
      go_wp2
      go_loopg [5,6] kj2 (fun kq v5 v6 w'=>∃ (x5_2:List Int) (x6_2:Int),v6 = .int .i64 x6_2 ∧ aA (spec_ReadSec.l0 kq a1 x5_2 x6_2 l0_0 l0_1 a0_2 a0_3 = some r) ∧ aA (kq ≤ kj2) ∧ aA (Kd.V (Kd.int .u8) 5 w' w.heap.size (fun k_=>((P0_0_ k_ ∨ P0_1_ k_) ∨ w.heap.size ≤ k_) ∧ k_ ≠ gb129) v5 x5_2) ∧ aA (Kd.V (Kd.slice 5 (Kd.int .u8)) 37 w' w.heap.size (fun k_=>((P0_0_ k_ ∨ P0_1_ k_) ∨ w.heap.size ≤ k_) ∧ k_ ≠ gb129) (.slice (some ad135) l0_0.length c0_0) l0_0) ∧ aA (Kd.V k50 50 w' w.heap.size (fun k_=>((P0_0_ k_ ∨ P0_1_ k_) ∨ w.heap.size ≤ k_) ∧ k_ ≠ gb129) (.slice A0_1 l0_1.length c0_1) l0_1) ∧ aA (w'.heap[gb129]? = some (.cells #[(.slice (some ad135) l0_0.length c0_0),(.slice A0_1 l0_1.length c0_1),.int .i64 a0_2,.bool a0_3] 25 (0,0))) ∧ aA (Kd.C (Kd.int .u8) w' A135_0 (rd_L1 l0_0 a1).length (rd_L1 l0_0 a1)) ∧ aA (Below w.heap.size w w'))
      case atStart=>exact ⟨(rd_L1 l0_0 a1),(0),td,H',⟨Nat.le_refl _⟩,⟨by (with_reducible repeat (first|apply Kd.V_alloc|apply Kd.V_drewN|apply Kd.V_drew));exact HL135_0.out⟩,⟨AQ⟩,⟨AP⟩,⟨wZ⟩,⟨wb⟩,⟨vX⟩⟩
      case round =>
       clear H'
       try clear c1
       try clear p1
       try clear q1
       try clear hx1
       try clear c2
       try clear p2
       try clear c6
       try clear p6
       try clear c13
       try clear p13
       try clear q13
       try clear hx13
       try clear c16
       try clear c16b0
       try clear c17
       try clear c17b0
       try clear c18
       try clear hcz10_0
       try clear hcz10_1
       try clear hcz10_2
       try clear hcz10_3
       try clear hcz11_0
       try clear hcz11_1
       try clear hcz11_2
       try clear hcz11_3
       try clear hcz18_0
       try clear hcz18_1
       try clear hcz18_2
       try clear hcz18_3
       try clear hcz8_0
       try clear hcz8_1
       try clear hcz8_2
       try clear hcz8_3
       try clear hfz10_0
       try clear hfz10_1
       try clear hfz10_2
       try clear hfz10_3
       try clear hfz11_0
       try clear hfz11_1
       try clear hfz11_2
       try clear hfz11_3
       try clear hfz18_0
       try clear hfz18_1
       try clear hfz18_2
       try clear hfz18_3
       try clear hfz8_0
       try clear hfz8_1
       try clear hfz8_2
       try clear hfz8_3
       try clear hx135_0
       try clear p135
       try clear p2
       try clear p6
       try clear q135
       obtain ⟨x5_2,x6_2,rfl,HA,HK2,HO_5,HO_130000,HO_130001,BK129,HR135_0,HB⟩:=hrel
       cases gk with
       | zero=>exact absurd HA.out (by simp [spec_ReadSec.l0])
       | succ k2 =>
        have H:=HA.out
        clear HA
        simp only [spec_ReadSec.l0] at H
        by_cases c19:x6_2 < (l0_1.length:Int)
        ·rw [if_pos c19] at H
         have c19b0:decide (x6_2 < (l0_1.length:Int)) = true:=decide_eq_true c19
         clear c19
         by_cases c20:0 ≤ x6_2
         ·rw [if_pos c20] at H
          have c20b0:decide (0 ≤ x6_2) = true:=decide_eq_true c20
          clear c20
          by_cases c21:((rd_T50 l0_1 x6_2).f0) = a1
          ·rw [if_pos c21] at H
           have c21b0:(((rd_T50 l0_1 x6_2).f0) == a1) = true:=beq_iff_eq.mpr c21
           have c21b1:(((rd_T50 l0_1 x6_2).f0) != a1) = false:=bne_eq_false_iff_eq.mpr c21
           clear c21
           have H':=aA.mk H
           clear H
           obtain ⟨hcz22_0,hcz22_1,hcz22_2,hcz22_3⟩:=cs4 BK129.out
           obtain ⟨hfz22_0,hfz22_1,hfz22_2,hfz22_3⟩:=fs4 BK129.out
           have p136:0 ≤ (x6_2:Int):=lE tx
           have q136:x6_2 < (l0_1.length:Int):=lE tx
           obtain ⟨ad136,A136_1,c136_1,e136,hx136_0,hx136_1,hl136_1,hi136_1⟩:=at_T50 (Kd.V_reads' HO_130001.out).2.2 x6_2 p136 q136
           cases e136
           obtain ⟨ce136,hce136,hMe136,hcc136⟩:=Kd.V_get HO_130001.out z50 x6_2 p136 (by first|exact q136|exact lE tx|(have e_:=(Kd.V_reads' HO_130001.out).1;omega))
           obtain ⟨ua136_1,uc136_1,rfl,ul136_1,ge136_1⟩:=k50_openF hMe136
           have hv136_1:=hcc136 1 _ rfl
           rw [add_field _ _ 1 tZ] at hv136_1
           replace hv136_1:=Option.some.inj (hv136_1.symm.trans hx136_1)
           injection hv136_1 with hva_ hvn_ hvc_
           rw [hva_] at ge136_1
           rw [hvc_] at ul136_1
           have HL136_1:=aA.mk (show Kd.V (Kd.int .u8) 5 _ w.heap.size _ _ ((rd_T50 l0_1 x6_2).f1) from Kd.V_mk ul136_1 ge136_1)
           clear hva_ hvn_ hvc_ ge136_1 ul136_1
           clear hcc136 hce136
           have HR136_1:=aA.mk hi136_1
           have HC136_1:=aA.mk hl136_1
           clear hi136_1 hl136_1
           replace p136:=eq_true p136
           replace q136:=eq_true q136
           have p137:0 ≤ (x6_2:Int):=lE tx
           have q137:x6_2 < (l0_1.length:Int):=lE tx
           obtain ⟨ad137,A137_1,c137_1,e137,hx137_0,hx137_1,hl137_1,hi137_1⟩:=at_T50 (Kd.V_reads' HO_130001.out).2.2 x6_2 p137 q137
           obtain rfl:ad136 = ad137:=(by injection e137)
           obtain ⟨ce137,hce137,hMe137,hcc137⟩:=Kd.V_get HO_130001.out z50 x6_2 p137 (by first|exact q137|exact lE tx|(have e_:=(Kd.V_reads' HO_130001.out).1;omega))
           obtain ⟨ua137_1,uc137_1,rfl,ul137_1,ge137_1⟩:=k50_openF hMe137
           have hv137_1:=hcc137 1 _ rfl
           rw [add_field _ _ 1 tZ] at hv137_1
           replace hv137_1:=Option.some.inj (hv137_1.symm.trans hx137_1)
           injection hv137_1 with hva_ hvn_ hvc_
           rw [hva_] at ge137_1
           rw [hvc_] at ul137_1
           have HL137_1:=aA.mk (show Kd.V (Kd.int .u8) 5 _ w.heap.size _ _ ((rd_T50 l0_1 x6_2).f1) from Kd.V_mk ul137_1 ge137_1)
           clear hva_ hvn_ hvc_ ge137_1 ul137_1
           clear hcc137 hce137
           have HR137_1:=aA.mk hi137_1
           have HC137_1:=aA.mk hl137_1
           clear hi137_1 hl137_1
           replace p137:=eq_true p137
           replace q137:=eq_true q137
           have ea_:=Option.some.inj (hx136_1.symm.trans hx137_1)
           injection ea_ with ea_ en_ ec_
           subst ea_
           subst ec_
           clear en_
           go_wp2
           go_roundg k2
           case measure=>have:=HJ2.out;have:=HK2.out;omega
           case rel=>exact ⟨((rd_T50 l0_1 x6_2).f1),(wrap64 (x6_2 + 1)),td,H',⟨by have:=HJ2.out;have:=HK2.out;omega⟩,⟨by (with_reducible repeat (first|apply Kd.V_alloc|apply Kd.V_drewN|apply Kd.V_drew));exact HL137_1.out⟩,⟨AQ⟩,⟨AP⟩,⟨wZ⟩,⟨wb⟩,⟨vX⟩⟩
          ·rw [if_neg c21] at H
           have c21b0:(((rd_T50 l0_1 x6_2).f0) == a1) = false:=beq_eq_false_iff_ne.mpr c21
           have c21b1:(((rd_T50 l0_1 x6_2).f0) != a1) = true:=bne_iff_ne.mpr c21
           have H':=aA.mk H
           clear H
           obtain ⟨hcz23_0,hcz23_1,hcz23_2,hcz23_3⟩:=cs4 BK129.out
           obtain ⟨hfz23_0,hfz23_1,hfz23_2,hfz23_3⟩:=fs4 BK129.out
           have p136:0 ≤ (x6_2:Int):=lE tx
           have q136:x6_2 < (l0_1.length:Int):=lE tx
           obtain ⟨ad136,A136_1,c136_1,e136,hx136_0,hx136_1,hl136_1,hi136_1⟩:=at_T50 (Kd.V_reads' HO_130001.out).2.2 x6_2 p136 q136
           cases e136
           obtain ⟨ce136,hce136,hMe136,hcc136⟩:=Kd.V_get HO_130001.out z50 x6_2 p136 (by first|exact q136|exact lE tx|(have e_:=(Kd.V_reads' HO_130001.out).1;omega))
           obtain ⟨ua136_1,uc136_1,rfl,ul136_1,ge136_1⟩:=k50_openF hMe136
           have hv136_1:=hcc136 1 _ rfl
           rw [add_field _ _ 1 tZ] at hv136_1
           replace hv136_1:=Option.some.inj (hv136_1.symm.trans hx136_1)
           injection hv136_1 with hva_ hvn_ hvc_
           rw [hva_] at ge136_1
           rw [hvc_] at ul136_1
           have HL136_1:=aA.mk (show Kd.V (Kd.int .u8) 5 _ w.heap.size _ _ ((rd_T50 l0_1 x6_2).f1) from Kd.V_mk ul136_1 ge136_1)
           clear hva_ hvn_ hvc_ ge136_1 ul136_1
           clear hcc136 hce136
           have HR136_1:=aA.mk hi136_1
           have HC136_1:=aA.mk hl136_1
           clear hi136_1 hl136_1
           replace p136:=eq_true p136
           replace q136:=eq_true q136
           go_wp2
           go_roundg k2
           case measure=>have:=HJ2.out;have:=HK2.out;omega
           case rel=>exact ⟨(x5_2),(wrap64 (x6_2 + 1)),td,H',⟨by have:=HJ2.out;have:=HK2.out;omega⟩,⟨by (with_reducible repeat (first|apply Kd.V_alloc|apply Kd.V_drewN|apply Kd.V_drew));exact HO_5.out⟩,⟨AQ⟩,⟨AP⟩,⟨wZ⟩,⟨wb⟩,⟨vX⟩⟩
         ·rw [if_neg c20] at H
          exact wX
        ·rw [if_neg c19] at H
         have c19b0:decide (x6_2 < (l0_1.length:Int)) = false:=decide_eq_false c19
         clear c19
         obtain ⟨y138,hy138⟩:∃ y_:List Int,y_ = (([]:List Int)):=⟨_,rfl⟩
         replace H:(if y138.length + x5_2.length < 140737488355328 then (some (y138 ++ x5_2)) else (none)) = some r:=by first|(rw [hy138];with_reducible exact H)|(have H2_:=(Option.bind_some _ _).symm.trans H;rw [hy138];with_reducible exact H2_)|(have H2_:=(Option.bind_some _ _).symm.trans H;with_reducible exact H2_)|with_reducible exact H|(rw [hy138];exact H)|exact H
         have Ny138:=aA.mk hy138
         clear hy138
         by_cases c24:y138.length + x5_2.length < 140737488355328
         ·rw [if_pos c24] at H
          have LMc24:=aA.mk c24
          clear c24
          obtain ⟨y141,hy141⟩:∃ y_:List Int,y_ = (y138 ++ x5_2):=⟨_,rfl⟩
          replace H:(some y141) = some r:=by first|(rw [hy141];with_reducible exact H)|(have H2_:=(Option.bind_some _ _).symm.trans H;rw [hy141];with_reducible exact H2_)|(have H2_:=(Option.bind_some _ _).symm.trans H;with_reducible exact H2_)|with_reducible exact H|(rw [hy141];exact H)|exact H
          have Ny141:=aA.mk hy141
          clear hy141
          obtain rfl:=Option.some.inj H
          obtain ⟨hcz25_0,hcz25_1,hcz25_2,hcz25_3⟩:=cs4 BK129.out
          obtain ⟨hfz25_0,hfz25_1,hfz25_2,hfz25_3⟩:=fs4 BK129.out
          go_wp2_with (first|((with_reducible refine bC (N:=46) rfl ?_);(try (refine cC wN ?_;dsimp only));refine Kd.R_lit (Kd.int .u8) _ 5 ?hg (N:=46) ?hd (xs:=([]:List Int)) (inner:=[]) (ok:=fun _=>True) (okp:=fun _=>True) ?hr ?hp (fun _ hk=>hk) trivial (Below.refl _ _) (Nat.le_refl _) vN ?_;(case hd=>rfl);(case hg=>rfl);(case hr=>exact tE);(case hp=>exact (Reps.none _ _));intro v139 w26 ho27 hb hg_ hnew_;clear hg_ hnew_;(first|rw [← Ny138.out] at ho27|(simp only [Int.reduceToNat] at ho27;rw [← Ny138.out] at ho27));replace HO_5:=aA.mk (Kd.V_elder' HO_5.out (Kd.R_base ho27) hb);replace HO_130000:=aA.mk (Kd.V_elder' HO_130000.out (Kd.R_base ho27) hb);replace HO_130001:=aA.mk (Kd.V_elder' HO_130001.out (Kd.R_base ho27) hb);have HO140:=aA.mk (Kd.R_lower (Kd.R_newM (M:=fun k_=>(w.heap.size ≤ k_)) ho27 (aX HB.out) (fun k_ h_=>h_)) (aX HB.out));replace BK129:=aA.mk (bM (g:=gb129) (o:=.cells #[.slice (some ad135) l0_0.length c0_0,.slice A0_1 l0_1.length c0_1,.int .i64 a0_2,.bool a0_3] 25 (0,0)) BK129.out hb);replace HR135_0:=aA.mk (Kd.C_below (by repeat (first|(with_reducible exact HR135_0.out)|(with_reducible refine Kd.C_alloc ?_ _)|(with_reducible refine Kd.C_drewN ?_ _)|(with_reducible refine Kd.C_drew ?_)|exact HR135_0.out)) hb);replace HB:=aA.mk (aT HB.out hb);clear hb ho27;obtain ⟨Ao29,co29,eo29⟩:=Kd.V_slice HO_5.out;subst eo29)|((with_reducible refine gate_builtin (b:=.append) (xs:=#[.tmp 46,.tmp 47]) rfl ?_);(try (refine cC wN ?_;dsimp only));at_builtin;refine Kd.R_append_rows (Kd.int .u8) (w0:=w) w.heap.size rfl (.tmp 46) (.tmp 47) 37 5 (.int .u8 0) 1 rfl Try.underlying37 info5 rfl tf tZ v139 y138 x5_2 _ _ _ (fun k_=>(w.heap.size ≤ k_)) (fun _=>False) rfl rfl ?aO ?aR (fun _ _ h=>h) (fun _ h=>h.elim) ?aF ?aB ?aS ?aL ?_;(case aR=>repeat (first|exact (Kd.V_reads' HO_5.out).2.2|(with_reducible refine Kd.C_alloc ?_ _)|(with_reducible refine Kd.C_drewN ?_ _)|(with_reducible refine Kd.C_drew ?_)));(case aB=>exact HB.out);(case aF=>exact (fun k_ hk=>(Nat.le_trans (aX HB.out) hk)));(case aO=>exact (by (with_reducible repeat (first|apply Kd.R_alloc|apply Kd.R_drewN|apply Kd.R_drew));exact Kd.R_mono HO140.out (fun _ hk=>hk.1)));(case aS=>exact (aX HB.out));(case aL=>have:=LMc24.out;omega);intro v142 w28 ho hb hg hat;rw [← Ny141.out] at ho;replace HO_5:=aA.mk (Kd.V_afterv (ok:=(fun k_=>((P0_0_ k_ ∨ P0_1_ k_) ∨ w.heap.size ≤ k_) ∧ k_ ≠ gb129)) HO_5.out hg hat);replace HO_130000:=aA.mk (Kd.V_afterv (ok:=(fun k_=>((P0_0_ k_ ∨ P0_1_ k_) ∨ w.heap.size ≤ k_) ∧ k_ ≠ gb129)) HO_130000.out hg hat);replace HO_130001:=aA.mk (Kd.V_afterv (ok:=(fun k_=>((P0_0_ k_ ∨ P0_1_ k_) ∨ w.heap.size ≤ k_) ∧ k_ ≠ gb129)) HO_130001.out hg hat);replace BK129:=aA.mk (blk_grown (g:=gb129) (o:=.cells #[.slice (some ad135) l0_0.length c0_0,.slice A0_1 l0_1.length c0_1,.int .i64 a0_2,.bool a0_3] 25 (0,0)) BK129.out hg (Kd.R_ne HO140.out BK129.out tf));replace HB:=aA.mk (hb);have HO143:=aA.mk (ho);clear HO140;clear ho hb hg hat))
          go_ret
          exact ⟨_,tN,by (with_reducible repeat (first|apply Kd.R_alloc|apply Kd.R_drewN|apply Kd.R_drew));exact HO143.out,vX⟩
         ·rw [if_neg c24] at H
          exact wX
     ·rw [if_neg c17] at H
      exact wX
    ·rw [if_neg c16] at H
     exact wX
def impl_joined.l0:Nat → List Int → List (List Int) → Int → Int → Option (List Int)
 | 0,_,_,_,_=>none
 | k + 1,x3,x7,x8,x9=>if x9 < x8 then (if 0 ≤ x9 then (if x9 < (x7.length:Int) then (if x3.length + (rd_L1 x7 x9).length < 140737488355328 then (impl_joined.l0 k (x3 ++ (rd_L1 x7 x9)) x7 x8 (wrap64 (x9 + 1))) else (none)) else (none)) else (none)) else (some x3)
def impl_joined.f (k:Nat) (l0:List (List Int)):Option (List Int):=impl_joined.l0 k (([]:List Int)) l0 (l0.length:Int) 0
set_option maxHeartbeats 8000000 in
set_option maxRecDepth 100000 in
theorem impl_joined.calls (k:Nat) (A0:Option Addr) (c0:Nat) (l0:List (List Int)) (r:List Int) (w:World) (hr0:Kd.C (Kd.slice 5 (Kd.int .u8)) w A0 l0.length l0) (hc0:l0.length ≤ c0) (h:impl_joined.f k l0 = some r) :
  Calls Try.prog 55 #[.slice A0 l0.length c0] w fun e w'=>∃ v0_:Value,e = .returned (v0_) ∧ Kd.R (Kd.int .u8) 5 w' w.heap.size (fun _=>True) v0_ r ∧ Below w.heap.size w w':=by
 have HR0:=aA.mk hr0
 have HC0:=aA.mk hc0
 clear hr0 hc0
 have HB:=aA.mk (Below.refl w.heap.size w)
 have H:(impl_joined.l0 k (([]:List Int)) l0 (l0.length:Int) 0) = some r:=h
 clear h
 obtain ⟨y144,hy144⟩:∃ y_:List Int,y_ = (([]:List Int)):=⟨_,rfl⟩
 replace H:(impl_joined.l0 k y144 l0 (l0.length:Int) 0) = some r:=by first|(rw [hy144];with_reducible exact H)|(have H2_:=(Option.bind_some _ _).symm.trans H;rw [hy144];with_reducible exact H2_)|(have H2_:=(Option.bind_some _ _).symm.trans H;with_reducible exact H2_)|with_reducible exact H|(rw [hy144];exact H)|exact H
 have Ny144:=aA.mk hy144
 clear hy144
 have H':=aA.mk H
 clear H
 go_enter Try.func55,Try.ntmps55
 go_wp2_with (first|((with_reducible refine bC (N:=6) rfl ?_);refine Kd.R_lit (Kd.int .u8) _ 5 ?hg (N:=6) ?hd (xs:=([]:List Int)) (inner:=[]) (ok:=fun _=>True) (okp:=fun _=>True) ?hr ?hp (fun _ hk=>hk) trivial (Below.refl _ _) (Nat.le_refl _) vN ?_;(case hd=>rfl);(case hg=>rfl);(case hr=>exact tE);(case hp=>exact (Reps.none _ _));intro v145 w2 ho3 hb hg_ hnew_;clear hg_ hnew_;(first|rw [← Ny144.out] at ho3|(simp only [Int.reduceToNat] at ho3;rw [← Ny144.out] at ho3));have HO146:=aA.mk (Kd.R_lower ho3 (aX HB.out));replace HB:=aA.mk (aT HB.out hb);clear hb ho3))
 go_loopg [3,9] k (fun kq v3 v9 w'=>∃ (x3_1:List Int) (x9_1:Int),v9 = .int .i64 x9_1 ∧ aA (impl_joined.l0 kq x3_1 l0 (l0.length:Int) x9_1 = some r) ∧ aA (kq ≤ k) ∧ aA (Kd.R (Kd.int .u8) 5 w' w.heap.size (fun _=>True) v3 x3_1) ∧ aA (Below w.heap.size w w'))
 case atStart=>exact ⟨(y144),(0),td,H',⟨Nat.le_refl _⟩,⟨by (with_reducible repeat (first|apply Kd.R_alloc|apply Kd.R_drewN|apply Kd.R_drew));exact HO146.out⟩,⟨wY⟩⟩
 case round =>
  clear H'
  try clear p2
  obtain ⟨x3_1,x9_1,rfl,HA,HK1,HO_3,HB⟩:=hrel
  cases gk with
  | zero=>exact absurd HA.out (by simp [impl_joined.l0])
  | succ k1 =>
   have H:=HA.out
   clear HA
   simp only [impl_joined.l0] at H
   by_cases c4:x9_1 < (l0.length:Int)
   ·rw [if_pos c4] at H
    have c4b0:decide (x9_1 < (l0.length:Int)) = true:=decide_eq_true c4
    clear c4
    by_cases c5:0 ≤ x9_1
    ·rw [if_pos c5] at H
     have c5b0:decide (0 ≤ x9_1) = true:=decide_eq_true c5
     clear c5
     by_cases c6:x9_1 < (l0.length:Int)
     ·rw [if_pos c6] at H
      have c6b0:decide (x9_1 < (l0.length:Int)) = true:=decide_eq_true c6
      clear c6
      by_cases c7:x3_1.length + (rd_L1 l0 x9_1).length < 140737488355328
      ·rw [if_pos c7] at H
       have LMc7:=aA.mk c7
       clear c7
       obtain ⟨y148,hy148⟩:∃ y_:List Int,y_ = (x3_1 ++ (rd_L1 l0 x9_1)):=⟨_,rfl⟩
       replace H:(impl_joined.l0 k1 y148 l0 (l0.length:Int) (wrap64 (x9_1 + 1))) = some r:=by first|(rw [hy148];with_reducible exact H)|(have H2_:=(Option.bind_some _ _).symm.trans H;rw [hy148];with_reducible exact H2_)|(have H2_:=(Option.bind_some _ _).symm.trans H;with_reducible exact H2_)|with_reducible exact H|(rw [hy148];exact H)|exact H
       have Ny148:=aA.mk hy148
       clear hy148
       have H':=aA.mk H
       clear H
       have p147:0 ≤ (x9_1:Int):=lE tx
       have q147:x9_1 < (l0.length:Int):=lE tx
       obtain ⟨ad147,A147_0,c147_0,e147,hx147_0,hl147_0,hi147_0⟩:=at_L1 HR0.out x9_1 p147 q147
       cases e147
       replace hx147_0:=(HB.out.cell (lD w _ hx147_0)).trans hx147_0
       have HR147_0:=aA.mk hi147_0
       have HC147_0:=aA.mk hl147_0
       clear hi147_0 hl147_0
       replace p147:=eq_true p147
       replace q147:=eq_true q147
       go_wp2_with (first|((with_reducible refine gate_builtin (b:=.append) (xs:=#[.tmp 13,.tmp 14]) rfl ?_);at_builtin;refine Kd.R_append_rows (Kd.int .u8) (w0:=w) w.heap.size rfl (.tmp 13) (.tmp 14) 37 5 (.int .u8 0) 1 rfl Try.underlying37 info5 rfl tf tZ u3 x3_1 (rd_L1 l0 x9_1) _ _ _ (fun _=>True) (fun _=>False) rfl rfl ?aO ?aR (fun _ _ h=>h) (fun _ h=>h.elim) ?aF ?aB ?aS ?aL ?_;(case aR=>exact (Kd.C_below HR147_0.out HB.out));(case aB=>exact HB.out);(case aF=>exact (fun _ _=>trivial));(case aO=>exact HO_3.out);(case aS=>exact (aX HB.out));(case aL=>have:=LMc7.out;omega);intro v149 w8 ho hb hg hat;rw [← Ny148.out] at ho;replace HB:=aA.mk (hb);have HO150:=aA.mk (ho);clear HO_3;clear ho hb hg hat))
       go_roundg k1
       case measure=>have:=HK1.out;omega
       case rel=>exact ⟨(y148),(wrap64 (x9_1 + 1)),td,H',⟨by have:=HK1.out;omega⟩,⟨by (with_reducible repeat (first|apply Kd.R_alloc|apply Kd.R_drewN|apply Kd.R_drew));exact HO150.out⟩,⟨wY⟩⟩
      ·rw [if_neg c7] at H
       exact wX
     ·rw [if_neg c6] at H
      exact wX
    ·rw [if_neg c5] at H
     exact wX
   ·rw [if_neg c4] at H
    have c4b0:decide (x9_1 < (l0.length:Int)) = false:=decide_eq_false c4
    clear c4
    obtain rfl:=Option.some.inj H
    go_wp2
    go_ret
    exact ⟨_,tN,by (with_reducible repeat (first|apply Kd.R_alloc|apply Kd.R_drewN|apply Kd.R_drew));exact HO_3.out,wY⟩
end Go.Proofs.Ytilhcaofpfeioaa.PFnDevsBent

namespace Go.Proofs.Ytilhcaofpfeioaa.PFnDevsBent
open Go.RowKit Go.Proofs.YtilhcaofpfeioaaW.PrintWords Go.Proofs.YtilhcaofpfeioaaW.PrintLast Go.Proofs.YtilhcaofpfeioaaW.PrintMore
attribute [local go_sem] max2_int min2_int max_two min_two max_three min_three max_four min_four   -- for this text's walks alone
set_option linter.unusedVariables false
set_option linter.unusedSimpArgs false
mutual
def impl_ReadSec.j0:Nat → Int → Bool → List (List Int) → List (S50) → Int → Bool → Option (List Int)
 | 0,_,_,_,_,_,_=>none
 | k + 1,x1,x17,x152000,x152001,x152002,x152003=>if x17 = true then (some ([]:List Int)) else (impl_ReadSec.l0 k x1 (wrap64 ((x152001.length:Int) - 1)) x152000 x152001 x152002 x152003)
def impl_ReadSec.l0:Nat → Int → Int → List (List Int) → List (S50) → Int → Bool → Option (List Int)
 | 0,_,_,_,_,_,_=>none
 | k + 1,x1,x5,x152000,x152001,x152002,x152003=>if x5 ≥ 0 then (if 0 ≤ x5 then (if x5 < (x152001.length:Int) then (if ((rd_T50 x152001 x5).f0) = x1 then ((impl_joined.f k (([(rd_T50 x152001 x5).f1]:List (List Int)))).bind fun t159=>(some t159)) else (impl_ReadSec.l0 k x1 (wrap64 (x5 - 1)) x152000 x152001 x152002 x152003)) else (none)) else (none)) else (if 0 ≤ x1 then (if x1 < (x152000.length:Int) then ((impl_joined.f k (([rd_L1 x152000 x1]:List (List Int)))).bind fun t166=>(some t166)) else (none)) else (none))
end
def impl_ReadSec.f (k:Nat) (l0_0:List (List Int)) (l0_1:List (S50)) (a0_2:Int) (a0_3:Bool) (a1:Int):Option (List Int):=(impl_DevOk.f k l0_0 l0_1 a0_2 a0_3).bind fun t152=>(if t152 = true then ((impl_within.f a1 0 (wrap64 ((l0_0.length:Int) - 1))).bind fun t153=>(impl_ReadSec.j0 k a1 (!t153) l0_0 l0_1 a0_2 a0_3)) else (impl_ReadSec.j0 k a1 true l0_0 l0_1 a0_2 a0_3))
set_option maxHeartbeats 8000000 in
set_option maxRecDepth 100000 in
theorem impl_ReadSec.calls (k:Nat) (P0_0_:Nat → Prop) (A0_0:Option Addr) (c0_0:Nat) (l0_0:List (List Int)) (P0_1_:Nat → Prop) (A0_1:Option Addr) (c0_1:Nat) (l0_1:List (S50)) (a0_2:Int) (a0_3:Bool) (a1:Int) (r:List Int) (w:World) (hs0_0:Kd.V (Kd.slice 5 (Kd.int .u8)) 37 w w.heap.size (fun k_=>P0_0_ k_) (.slice A0_0 l0_0.length c0_0) l0_0) (hs0_1:Kd.V k50 50 w w.heap.size (fun k_=>P0_1_ k_) (.slice A0_1 l0_1.length c0_1) l0_1) (h:impl_ReadSec.f k l0_0 l0_1 a0_2 a0_3 a1 = some r) :
  Calls Try.prog 22 #[.agg #[.slice A0_0 l0_0.length c0_0,.slice A0_1 l0_1.length c0_1,.int .i64 a0_2,.bool a0_3],.int .i64 a1] w fun e w'=>∃ v0_:Value,e = .returned (v0_) ∧ Kd.R (Kd.int .u8) 5 w' w.heap.size (fun k_=>(w.heap.size ≤ k_)) v0_ r ∧ Below w.heap.size w w':=by
 have hu25:=Try.underlying25
 have HO0_0:=aA.mk (show Kd.V (Kd.slice 5 (Kd.int .u8)) 37 w w.heap.size (fun k_=>((P0_0_ k_ ∨ P0_1_ k_) ∨ w.heap.size ≤ k_)) (.slice A0_0 l0_0.length c0_0) l0_0 from Kd.V_mono hs0_0 (fun k_ hk=>.inl (.inl hk)))
 have HO0_1:=aA.mk (show Kd.V k50 50 w w.heap.size (fun k_=>((P0_0_ k_ ∨ P0_1_ k_) ∨ w.heap.size ≤ k_)) (.slice A0_1 l0_1.length c0_1) l0_1 from Kd.V_mono hs0_1 (fun k_ hk=>.inl (.inr hk)))
 have HB:=aA.mk (Below.refl w.heap.size w)
 have H:((impl_DevOk.f k l0_0 l0_1 a0_2 a0_3).bind fun t152=>(if t152 = true then ((impl_within.f a1 0 (wrap64 ((l0_0.length:Int) - 1))).bind fun t153=>(impl_ReadSec.j0 k a1 (!t153) l0_0 l0_1 a0_2 a0_3)) else (impl_ReadSec.j0 k a1 true l0_0 l0_1 a0_2 a0_3))) = some r:=h
 clear h
 have HC3:=aA.mk H
 clear H
 go_enter Try.func22,Try.ntmps22
 go_upto_region 1 with (first|((with_reducible refine bC (N:=2) rfl ?_);(try (refine cC wN ?_;dsimp only));refine bD ?hg (N:=2) ?hd (cs:=#[.slice A0_0 l0_0.length c0_0,.slice A0_1 l0_1.length c0_1,.int .i64 a0_2,.bool a0_3]) (t:=25) ?hr ?_;(case hd=>rfl);(case hg=>rfl);(case hr=>exact tE);intro gb151 hg w4 hbox hb;replace HO0_0:=aA.mk (Kd.V_below (Kd.V_elderB HO0_0.out gb151 (Nat.le_of_eq hg.symm)) hb);replace HO0_1:=aA.mk (Kd.V_below (Kd.V_elderB HO0_1.out gb151 (Nat.le_of_eq hg.symm)) hb);have BK151:=aA.mk (hbox);have GW151:=aA.mk ((by rw [hg];exact (aX HB.out):w.heap.size ≤ gb151));have GE151:=aA.mk ((by rw [hg];exact (aX HB.out):w.heap.size ≤ gb151));replace HB:=aA.mk (aT HB.out hb);clear hb hbox hg))
 (try simp only [Act.put,lA,lB,lC])
 go_cut [17] (fun v17 wc=>∃ (kq:Nat) (x17_2:Bool),v17 = .bool x17_2 ∧ aA (impl_ReadSec.j0 kq a1 x17_2 l0_0 l0_1 a0_2 a0_3 = some r) ∧ aA (kq ≤ k) ∧ aA (Kd.V (Kd.slice 5 (Kd.int .u8)) 37 wc w.heap.size (fun k_=>((P0_0_ k_ ∨ P0_1_ k_) ∨ w.heap.size ≤ k_) ∧ k_ ≠ gb151) (.slice A0_0 l0_0.length c0_0) l0_0) ∧ aA (Kd.V k50 50 wc w.heap.size (fun k_=>((P0_0_ k_ ∨ P0_1_ k_) ∨ w.heap.size ≤ k_) ∧ k_ ≠ gb151) (.slice A0_1 l0_1.length c0_1) l0_1) ∧ aA (wc.heap[gb151]? = some (.cells #[(.slice A0_0 l0_0.length c0_0),(.slice A0_1 l0_1.length c0_1),.int .i64 a0_2,.bool a0_3] 25 (0,0))) ∧ aA (Below w.heap.size w wc))
 case first =>
  have H:=HC3.out
  clear HC3
  replace H:=lF H
  obtain ⟨t152,A50,H⟩:=H
  replace H:(if t152 = true then ((impl_within.f a1 0 (wrap64 ((l0_0.length:Int) - 1))).bind fun t153=>(impl_ReadSec.j0 k a1 (!t153) l0_0 l0_1 a0_2 a0_3)) else (impl_ReadSec.j0 k a1 true l0_0 l0_1 a0_2 a0_3)) = some r:=H
  have A5:=aA.mk A50
  clear A50
  by_cases c6:t152 = true
  ·subst c6
   have H1:((impl_within.f a1 0 (wrap64 ((l0_0.length:Int) - 1))).bind fun t153=>(impl_ReadSec.j0 k a1 (!t153) l0_0 l0_1 a0_2 a0_3)) = some r:=by rw [if_pos rfl] at H;exact H
   clear H
   have H:=H1
   clear H1
   replace H:=lF H
   obtain ⟨t153,A70,H⟩:=H
   replace H:(impl_ReadSec.j0 k a1 (!t153) l0_0 l0_1 a0_2 a0_3) = some r:=H
   have A7:=aA.mk A70
   clear A70
   have H':=aA.mk H
   clear H
   obtain ⟨hcz8_0,hcz8_1,hcz8_2,hcz8_3⟩:=cs4 BK151.out
   obtain ⟨hfz8_0,hfz8_1,hfz8_2,hfz8_3⟩:=fs4 BK151.out
   go_wp2_with (first|((with_reducible refine aW (f:=20) rfl ?_);refine bK (some 7) rfl rfl Try.func20 tG rfl #[.agg #[.slice A0_0 l0_0.length c0_0,.slice A0_1 l0_1.length c0_1,.int .i64 a0_2,.bool a0_3]] rfl tC ?_;(with_reducible refine (impl_DevOk.calls k _ _ l0_0 _ _ l0_1 a0_2 a0_3 true _ ?side1 ?side2 ?side3 ?side4 A5.out).mono ?_);(case side1=>exact wJ);(case side2=>exact (Kd.V_reads' HO0_0.out).2.1);(case side3=>exact wH);(case side4=>exact (Kd.V_reads' HO0_1.out).2.1);rintro e w9 ⟨rfl,hb⟩;refine ⟨_,rfl,?_⟩;replace HO0_0:=aA.mk (Kd.V_below HO0_0.out hb);replace HO0_1:=aA.mk (Kd.V_below HO0_1.out hb);replace BK151:=aA.mk (bM (g:=gb151) (o:=.cells #[.slice A0_0 l0_0.length c0_0,.slice A0_1 l0_1.length c0_1,.int .i64 a0_2,.bool a0_3] 25 (0,0)) BK151.out hb);replace HB:=aA.mk (aT HB.out hb);(try clear hb);obtain ⟨hcz10_0,hcz10_1,hcz10_2,hcz10_3⟩:=cs4 BK151.out;obtain ⟨hfz10_0,hfz10_1,hfz10_2,hfz10_3⟩:=fs4 BK151.out)|(go_at_call 44;(with_reducible refine (impl_within.calls a1 0 (wrap64 ((l0_0.length:Int) - 1)) t153 _ A7.out).mono ?_);rintro e w' ⟨rfl,⟨nd,rfl⟩⟩))
   go_meet
   case rel=>exact ⟨_,(!t153),td,H',⟨wW⟩,⟨wk⟩,⟨wj⟩,⟨wu⟩,⟨vW⟩⟩
  ·replace c6:=Bool.eq_false_iff.mpr c6
   subst c6
   have H1:(impl_ReadSec.j0 k a1 true l0_0 l0_1 a0_2 a0_3) = some r:=by rw [if_neg (show ¬ (false = true) by decide)] at H;exact H
   clear H
   have H:=H1
   clear H1
   have H':=aA.mk H
   clear H
   obtain ⟨hcz11_0,hcz11_1,hcz11_2,hcz11_3⟩:=cs4 BK151.out
   obtain ⟨hfz11_0,hfz11_1,hfz11_2,hfz11_3⟩:=fs4 BK151.out
   go_wp2_with (first|((with_reducible refine aW (f:=20) rfl ?_);refine bK (some 7) rfl rfl Try.func20 tG rfl #[.agg #[.slice A0_0 l0_0.length c0_0,.slice A0_1 l0_1.length c0_1,.int .i64 a0_2,.bool a0_3]] rfl tC ?_;(with_reducible refine (impl_DevOk.calls k _ _ l0_0 _ _ l0_1 a0_2 a0_3 false _ ?side1 ?side2 ?side3 ?side4 A5.out).mono ?_);(case side1=>exact wJ);(case side2=>exact (Kd.V_reads' HO0_0.out).2.1);(case side3=>exact wH);(case side4=>exact (Kd.V_reads' HO0_1.out).2.1);rintro e w12 ⟨rfl,hb⟩;refine ⟨_,rfl,?_⟩;replace HO0_0:=aA.mk (Kd.V_below HO0_0.out hb);replace HO0_1:=aA.mk (Kd.V_below HO0_1.out hb);replace BK151:=aA.mk (bM (g:=gb151) (o:=.cells #[.slice A0_0 l0_0.length c0_0,.slice A0_1 l0_1.length c0_1,.int .i64 a0_2,.bool a0_3] 25 (0,0)) BK151.out hb);replace HB:=aA.mk (aT HB.out hb);(try clear hb)))
   go_meet
   case rel=>exact ⟨_,(true),td,H',⟨wW⟩,⟨wk⟩,⟨wj⟩,⟨wu⟩,⟨vW⟩⟩
 case rest =>
  clear HC3
  try clear c2
  try clear p2
  try clear c6
  try clear p6
  try clear hcz10_0
  try clear hcz10_1
  try clear hcz10_2
  try clear hcz10_3
  try clear hcz11_0
  try clear hcz11_1
  try clear hcz11_2
  try clear hcz11_3
  try clear hcz8_0
  try clear hcz8_1
  try clear hcz8_2
  try clear hcz8_3
  try clear hfz10_0
  try clear hfz10_1
  try clear hfz10_2
  try clear hfz10_3
  try clear hfz11_0
  try clear hfz11_1
  try clear hfz11_2
  try clear hfz11_3
  try clear hfz8_0
  try clear hfz8_1
  try clear hfz8_2
  try clear hfz8_3
  obtain ⟨kq,x17_2,rfl,HA,HJ2,HO_152000,HO_152001,BK151,HB⟩:=hcut
  cases kq with
  | zero=>exact absurd HA.out (by simp [impl_ReadSec.j0])
  | succ kj2 =>
   have H:=HA.out
   clear HA
   simp only [impl_ReadSec.j0] at H
   by_cases c13:x17_2 = true
   ·subst c13
    have H1:(some ([]:List Int)) = some r:=by rw [if_pos rfl] at H;exact H
    clear H
    have H:=H1
    clear H1
    obtain rfl:=Option.some.inj H
    go_wp2
    go_ret
    exact ⟨_,tN,by first|exact Kd.R_nil _ _ _ _ _|exact Kd.N_nil _ _ _ _ _|exact Kd.V_nil _ _ _ _ _|exact Kd.Q_nil _ _ _ _ _|exact Kd.S_nil _ _ _ _ _,vW⟩
   ·replace c13:=Bool.eq_false_iff.mpr c13
    subst c13
    have H1:(impl_ReadSec.l0 kj2 a1 (wrap64 ((l0_1.length:Int) - 1)) l0_0 l0_1 a0_2 a0_3) = some r:=by rw [if_neg (show ¬ (false = true) by decide)] at H;exact H
    clear H
    have H:=H1
    clear H1
    have H':=aA.mk H
    clear H
    obtain ⟨hcz14_0,hcz14_1,hcz14_2,hcz14_3⟩:=cs4 BK151.out
    obtain ⟨hfz14_0,hfz14_1,hfz14_2,hfz14_3⟩:=fs4 BK151.out
    go_wp2
    go_loopg [5] kj2 (fun kq v5 w'=>∃ (x5_2:Int),v5 = .int .i64 x5_2 ∧ aA (impl_ReadSec.l0 kq a1 x5_2 l0_0 l0_1 a0_2 a0_3 = some r) ∧ aA (kq ≤ kj2) ∧ aA (Kd.V (Kd.slice 5 (Kd.int .u8)) 37 w' w.heap.size (fun k_=>((P0_0_ k_ ∨ P0_1_ k_) ∨ w.heap.size ≤ k_) ∧ k_ ≠ gb151) (.slice A0_0 l0_0.length c0_0) l0_0) ∧ aA (Kd.V k50 50 w' w.heap.size (fun k_=>((P0_0_ k_ ∨ P0_1_ k_) ∨ w.heap.size ≤ k_) ∧ k_ ≠ gb151) (.slice A0_1 l0_1.length c0_1) l0_1) ∧ aA (w'.heap[gb151]? = some (.cells #[(.slice A0_0 l0_0.length c0_0),(.slice A0_1 l0_1.length c0_1),.int .i64 a0_2,.bool a0_3] 25 (0,0))) ∧ aA (Below w.heap.size w w'))
    case atStart=>exact ⟨(wrap64 ((l0_1.length:Int) - 1)),td,H',⟨Nat.le_refl _⟩,⟨by (with_reducible repeat (first|apply Kd.V_alloc|apply Kd.V_drewN|apply Kd.V_drew));exact HO_152000.out⟩,⟨by (with_reducible repeat (first|apply Kd.V_alloc|apply Kd.V_drewN|apply Kd.V_drew));exact HO_152001.out⟩,⟨wu⟩,⟨vW⟩⟩
    case round =>
     clear H'
     try clear c1
     try clear c2
     try clear p2
     try clear c6
     try clear p6
     try clear c13
     try clear hcz10_0
     try clear hcz10_1
     try clear hcz10_2
     try clear hcz10_3
     try clear hcz11_0
     try clear hcz11_1
     try clear hcz11_2
     try clear hcz11_3
     try clear hcz14_0
     try clear hcz14_1
     try clear hcz14_2
     try clear hcz14_3
     try clear hcz8_0
     try clear hcz8_1
     try clear hcz8_2
     try clear hcz8_3
     try clear hfz10_0
     try clear hfz10_1
     try clear hfz10_2
     try clear hfz10_3
     try clear hfz11_0
     try clear hfz11_1
     try clear hfz11_2
     try clear hfz11_3
     try clear hfz14_0
     try clear hfz14_1
     try clear hfz14_2
     try clear hfz14_3
     try clear hfz8_0
     try clear hfz8_1
     try clear hfz8_2
     try clear hfz8_3
     try clear p2
     try clear p6
     obtain ⟨x5_2,rfl,HA,HK2,HO_152000,HO_152001,BK151,HB⟩:=hrel
     cases gk with
     | zero=>exact absurd HA.out (by simp [impl_ReadSec.l0])
     | succ k2 =>
      have H:=HA.out
      clear HA
      simp only [impl_ReadSec.l0] at H
      by_cases c15:x5_2 ≥ 0
      ·rw [if_pos c15] at H
       have c15b0:decide (0 ≤ x5_2) = true:=decide_eq_true c15
       clear c15
       by_cases c16:0 ≤ x5_2
       ·rw [if_pos c16] at H
        have c16b0:decide (0 ≤ x5_2) = true:=decide_eq_true c16
        clear c16
        by_cases c17:x5_2 < (l0_1.length:Int)
        ·rw [if_pos c17] at H
         have c17b0:decide (x5_2 < (l0_1.length:Int)) = true:=decide_eq_true c17
         clear c17
         by_cases c18:((rd_T50 l0_1 x5_2).f0) = a1
         ·rw [if_pos c18] at H
          have c18b0:(((rd_T50 l0_1 x5_2).f0) == a1) = true:=beq_iff_eq.mpr c18
          have c18b1:(((rd_T50 l0_1 x5_2).f0) != a1) = false:=bne_eq_false_iff_eq.mpr c18
          clear c18
          obtain ⟨y156,hy156⟩:∃ y_:List (List Int),y_ = (([(rd_T50 l0_1 x5_2).f1]:List (List Int))):=⟨_,rfl⟩
          replace H:((impl_joined.f k2 y156).bind fun t159=>(some t159)) = some r:=by first|(rw [hy156];with_reducible exact H)|(have H2_:=(Option.bind_some _ _).symm.trans H;rw [hy156];with_reducible exact H2_)|(have H2_:=(Option.bind_some _ _).symm.trans H;with_reducible exact H2_)|with_reducible exact H|(rw [hy156];exact H)|exact H
          have Ny156:=aA.mk hy156
          clear hy156
          replace H:=lF H
          obtain ⟨t159,A190,H⟩:=H
          replace H:(some t159) = some r:=H
          have A19:=aA.mk A190
          clear A190
          obtain rfl:=Option.some.inj H
          obtain ⟨hcz20_0,hcz20_1,hcz20_2,hcz20_3⟩:=cs4 BK151.out
          obtain ⟨hfz20_0,hfz20_1,hfz20_2,hfz20_3⟩:=fs4 BK151.out
          have p154:0 ≤ (x5_2:Int):=lE tx
          have q154:x5_2 < (l0_1.length:Int):=lE tx
          obtain ⟨ad154,A154_1,c154_1,e154,hx154_0,hx154_1,hl154_1,hi154_1⟩:=at_T50 (Kd.V_reads' HO_152001.out).2.2 x5_2 p154 q154
          cases e154
          obtain ⟨ce154,hce154,hMe154,hcc154⟩:=Kd.V_get HO_152001.out z50 x5_2 p154 (by first|exact q154|exact lE tx|(have e_:=(Kd.V_reads' HO_152001.out).1;omega))
          obtain ⟨ua154_1,uc154_1,rfl,ul154_1,ge154_1⟩:=k50_openF hMe154
          have hv154_1:=hcc154 1 _ rfl
          rw [add_field _ _ 1 tZ] at hv154_1
          replace hv154_1:=Option.some.inj (hv154_1.symm.trans hx154_1)
          injection hv154_1 with hva_ hvn_ hvc_
          rw [hva_] at ge154_1
          rw [hvc_] at ul154_1
          have HL154_1:=aA.mk (show Kd.V (Kd.int .u8) 5 _ w.heap.size _ _ ((rd_T50 l0_1 x5_2).f1) from Kd.V_mk ul154_1 ge154_1)
          clear hva_ hvn_ hvc_ ge154_1 ul154_1
          clear hcc154 hce154
          have HR154_1:=aA.mk hi154_1
          have HC154_1:=aA.mk hl154_1
          clear hi154_1 hl154_1
          replace p154:=eq_true p154
          replace q154:=eq_true q154
          have p155:0 ≤ (x5_2:Int):=lE tx
          have q155:x5_2 < (l0_1.length:Int):=lE tx
          obtain ⟨ad155,A155_1,c155_1,e155,hx155_0,hx155_1,hl155_1,hi155_1⟩:=at_T50 (Kd.V_reads' HO_152001.out).2.2 x5_2 p155 q155
          obtain rfl:ad154 = ad155:=(by injection e155)
          obtain ⟨ce155,hce155,hMe155,hcc155⟩:=Kd.V_get HO_152001.out z50 x5_2 p155 (by first|exact q155|exact lE tx|(have e_:=(Kd.V_reads' HO_152001.out).1;omega))
          obtain ⟨ua155_1,uc155_1,rfl,ul155_1,ge155_1⟩:=k50_openF hMe155
          have hv155_1:=hcc155 1 _ rfl
          rw [add_field _ _ 1 tZ] at hv155_1
          replace hv155_1:=Option.some.inj (hv155_1.symm.trans hx155_1)
          injection hv155_1 with hva_ hvn_ hvc_
          rw [hva_] at ge155_1
          rw [hvc_] at ul155_1
          have HL155_1:=aA.mk (show Kd.V (Kd.int .u8) 5 _ w.heap.size _ _ ((rd_T50 l0_1 x5_2).f1) from Kd.V_mk ul155_1 ge155_1)
          clear hva_ hvn_ hvc_ ge155_1 ul155_1
          clear hcc155 hce155
          have HR155_1:=aA.mk hi155_1
          have HC155_1:=aA.mk hl155_1
          clear hi155_1 hl155_1
          replace p155:=eq_true p155
          replace q155:=eq_true q155
          have ea_:=Option.some.inj (hx154_1.symm.trans hx155_1)
          injection ea_ with ea_ en_ ec_
          subst ea_
          subst ec_
          clear en_
          go_wp2_with (first|((with_reducible refine bC (N:=40) rfl ?_);(try (refine cC wN ?_;dsimp only));refine Kd.N_lit (Kd.slice 5 (Kd.int .u8)) _ 37 ?hg (N':=40) ?hd (xs:=([(rd_T50 l0_1 x5_2).f1]:List (List Int))) (inner:=[.slice A154_1 ((rd_T50 l0_1 x5_2).f1).length c154_1]) (ok:=(fun k_=>((P0_0_ k_ ∨ P0_1_ k_) ∨ w.heap.size ≤ k_) ∧ k_ ≠ gb151)) (okp:=(fun k_=>((P0_0_ k_ ∨ P0_1_ k_) ∨ w.heap.size ≤ k_) ∧ k_ ≠ gb151)) ?hr ?hp (fun _ hk=>hk) ((show ∀ k_,wr.heap.size ≤ k_ → (fun k_=>((P0_0_ k_ ∨ P0_1_ k_) ∨ w.heap.size ≤ k_) ∧ k_ ≠ gb151) k_ from fun k_ hk=>⟨(.inr (Nat.le_trans (aX HB.out) hk)),Kd.freshB (g:=gb151) (o:=.cells #[.slice A0_0 l0_0.length c0_0,.slice (some ad154) l0_1.length c0_1,.int .i64 a0_2,.bool a0_3] 25 (0,0)) BK151.out k_ hk⟩) _ (Nat.le_refl _)) (Below.refl _ _) (Nat.le_refl _) vN ?_;(case hd=>rfl);(case hg=>rfl);(case hr=>exact tE);(case hp=>exact (Reps.one (show Kd.FK (Kd.slice 5 (Kd.int .u8)) _ _ ((rd_T50 l0_1 x5_2).f1) [.slice A154_1 ((rd_T50 l0_1 x5_2).f1).length c154_1] from (Kd.FK_slice_mk (Kd.V_reads' (Kd.V_mono (ok':=(fun k_=>((P0_0_ k_ ∨ P0_1_ k_) ∨ w.heap.size ≤ k_) ∧ k_ ≠ gb151)) (HL155_1.out) (fun k_ hk=>⟨hk.1,hk.2⟩))).2.1 (Kd.V_F (Kd.V_mono (ok':=(fun k_=>((P0_0_ k_ ∨ P0_1_ k_) ∨ w.heap.size ≤ k_) ∧ k_ ≠ gb151)) (HL155_1.out) (fun k_ hk=>⟨hk.1,hk.2⟩))))) (Reps.none _ _)));intro v157 w21 ho22 hb hg_ hnew_;clear hg_ hnew_;(first|rw [← Ny156.out] at ho22|(simp only [Int.reduceToNat] at ho22;rw [← Ny156.out] at ho22));replace HO_152000:=aA.mk (Kd.V_elder' HO_152000.out (Kd.N_base ho22) hb);replace HO_152001:=aA.mk (Kd.V_elder' HO_152001.out (Kd.N_base ho22) hb);replace HL154_1:=aA.mk (Kd.V_elder' HL154_1.out (Kd.N_base ho22) hb);replace HL155_1:=aA.mk (Kd.V_elder' HL155_1.out (Kd.N_base ho22) hb);have HO158:=aA.mk (Kd.N_lower ho22 (aX HB.out));replace BK151:=aA.mk (bM (g:=gb151) (o:=.cells #[.slice A0_0 l0_0.length c0_0,.slice (some ad154) l0_1.length c0_1,.int .i64 a0_2,.bool a0_3] 25 (0,0)) BK151.out hb);replace HR154_1:=aA.mk (Kd.C_below AZ hb);replace HR155_1:=aA.mk (Kd.C_below AY hb);replace HB:=aA.mk (aT HB.out hb);clear hb ho22;obtain ⟨Ao23,co23,eo23⟩:=Kd.cB HO158.out;subst eo23)|((with_reducible refine aW (f:=55) rfl ?_);refine bK (some 41) rfl rfl Try.func55 tG rfl #[.slice Ao23 y156.length co23] rfl tC ?_;(with_reducible refine (impl_joined.calls k2 _ _ y156 t159 _ ?side1 ?side2 A19.out).mono ?_);(case side1=>repeat (first|exact (Kd.N_reads' HO158.out).2.2|(with_reducible refine Kd.C_alloc ?_ _)|(with_reducible refine Kd.C_drewN ?_ _)|(with_reducible refine Kd.C_drew ?_)));(case side2=>exact (Kd.N_reads' HO158.out).2.1);rintro e w24 ⟨v160,rfl,ho0,hb⟩;refine ⟨_,rfl,?_⟩;replace HO_152000:=aA.mk (Kd.V_elder' HO_152000.out (Kd.R_base ho0) hb);replace HO_152001:=aA.mk (Kd.V_elder' HO_152001.out (Kd.R_base ho0) hb);replace HL154_1:=aA.mk (Kd.V_elder' HL154_1.out (Kd.R_base ho0) hb);replace HL155_1:=aA.mk (Kd.V_elder' HL155_1.out (Kd.R_base ho0) hb);replace HO158:=aA.mk (Kd.N_elder' HO158.out (Kd.R_base ho0) hb);have HO161:=aA.mk (Kd.R_lower (Kd.R_newM (M:=fun k_=>(w.heap.size ≤ k_)) ho0 (aX HB.out) (fun k_ h_=>h_)) (aX HB.out));replace BK151:=aA.mk (bM (g:=gb151) (o:=.cells #[.slice A0_0 l0_0.length c0_0,.slice (some ad154) l0_1.length c0_1,.int .i64 a0_2,.bool a0_3] 25 (0,0)) BK151.out hb);replace HR154_1:=aA.mk (Kd.C_below AZ hb);replace HR155_1:=aA.mk (Kd.C_below AY hb);replace HB:=aA.mk (aT HB.out hb);(try clear hb);(try clear hk);(try clear ho0)))
          go_ret
          exact ⟨_,tN,by (with_reducible repeat (first|apply Kd.R_alloc|apply Kd.R_drewN|apply Kd.R_drew));exact Kd.R_mono HO161.out (fun _ hk=>hk.1),vW⟩
         ·rw [if_neg c18] at H
          have c18b0:(((rd_T50 l0_1 x5_2).f0) == a1) = false:=beq_eq_false_iff_ne.mpr c18
          have c18b1:(((rd_T50 l0_1 x5_2).f0) != a1) = true:=bne_iff_ne.mpr c18
          have H':=aA.mk H
          clear H
          obtain ⟨hcz25_0,hcz25_1,hcz25_2,hcz25_3⟩:=cs4 BK151.out
          obtain ⟨hfz25_0,hfz25_1,hfz25_2,hfz25_3⟩:=fs4 BK151.out
          have p154:0 ≤ (x5_2:Int):=lE tx
          have q154:x5_2 < (l0_1.length:Int):=lE tx
          obtain ⟨ad154,A154_1,c154_1,e154,hx154_0,hx154_1,hl154_1,hi154_1⟩:=at_T50 (Kd.V_reads' HO_152001.out).2.2 x5_2 p154 q154
          cases e154
          obtain ⟨ce154,hce154,hMe154,hcc154⟩:=Kd.V_get HO_152001.out z50 x5_2 p154 (by first|exact q154|exact lE tx|(have e_:=(Kd.V_reads' HO_152001.out).1;omega))
          obtain ⟨ua154_1,uc154_1,rfl,ul154_1,ge154_1⟩:=k50_openF hMe154
          have hv154_1:=hcc154 1 _ rfl
          rw [add_field _ _ 1 tZ] at hv154_1
          replace hv154_1:=Option.some.inj (hv154_1.symm.trans hx154_1)
          injection hv154_1 with hva_ hvn_ hvc_
          rw [hva_] at ge154_1
          rw [hvc_] at ul154_1
          have HL154_1:=aA.mk (show Kd.V (Kd.int .u8) 5 _ w.heap.size _ _ ((rd_T50 l0_1 x5_2).f1) from Kd.V_mk ul154_1 ge154_1)
          clear hva_ hvn_ hvc_ ge154_1 ul154_1
          clear hcc154 hce154
          have HR154_1:=aA.mk hi154_1
          have HC154_1:=aA.mk hl154_1
          clear hi154_1 hl154_1
          replace p154:=eq_true p154
          replace q154:=eq_true q154
          go_wp2
          go_roundg k2
          case measure=>have:=HJ2.out;have:=HK2.out;omega
          case rel=>exact ⟨(wrap64 (x5_2 - 1)),td,H',⟨by have:=HJ2.out;have:=HK2.out;omega⟩,⟨by (with_reducible repeat (first|apply Kd.V_alloc|apply Kd.V_drewN|apply Kd.V_drew));exact HO_152000.out⟩,⟨by (with_reducible repeat (first|apply Kd.V_alloc|apply Kd.V_drewN|apply Kd.V_drew));exact HO_152001.out⟩,⟨wu⟩,⟨vW⟩⟩
        ·rw [if_neg c17] at H
         exact wX
       ·rw [if_neg c16] at H
        exact wX
      ·rw [if_neg c15] at H
       have c15b0:decide (0 ≤ x5_2) = false:=decide_eq_false c15
       clear c15
       by_cases c26:0 ≤ a1
       ·rw [if_pos c26] at H
        have c26b0:decide (0 ≤ a1) = true:=decide_eq_true c26
        clear c26
        by_cases c27:a1 < (l0_0.length:Int)
        ·rw [if_pos c27] at H
         have c27b0:decide (a1 < (l0_0.length:Int)) = true:=decide_eq_true c27
         clear c27
         obtain ⟨y163,hy163⟩:∃ y_:List (List Int),y_ = (([rd_L1 l0_0 a1]:List (List Int))):=⟨_,rfl⟩
         replace H:((impl_joined.f k2 y163).bind fun t166=>(some t166)) = some r:=by first|(rw [hy163];with_reducible exact H)|(have H2_:=(Option.bind_some _ _).symm.trans H;rw [hy163];with_reducible exact H2_)|(have H2_:=(Option.bind_some _ _).symm.trans H;with_reducible exact H2_)|with_reducible exact H|(rw [hy163];exact H)|exact H
         have Ny163:=aA.mk hy163
         clear hy163
         replace H:=lF H
         obtain ⟨t166,A280,H⟩:=H
         replace H:(some t166) = some r:=H
         have A28:=aA.mk A280
         clear A280
         obtain rfl:=Option.some.inj H
         obtain ⟨hcz29_0,hcz29_1,hcz29_2,hcz29_3⟩:=cs4 BK151.out
         obtain ⟨hfz29_0,hfz29_1,hfz29_2,hfz29_3⟩:=fs4 BK151.out
         have p162:0 ≤ (a1:Int):=lE tx
         have q162:a1 < (l0_0.length:Int):=lE tx
         obtain ⟨ad162,A162_0,c162_0,e162,hx162_0,hl162_0,hi162_0⟩:=at_L1 (Kd.V_reads' HO_152000.out).2.2 a1 p162 q162
         cases e162
         obtain ⟨ce162,hce162,hMe162,hcc162⟩:=Kd.V_get HO_152000.out [] a1 p162 (by first|exact q162|exact lE tx|(have e_:=(Kd.V_reads' HO_152000.out).1;omega))
         obtain ⟨ua162_0,uc162_0,rfl,ul162_0,ge162_0⟩:=Kd.FK_slice_open hMe162
         have hv162_0:=hcc162 0 _ rfl
         rw [Nat.add_zero,show ((Kd.slice 5 (Kd.int .u8))).sz = 1 from rfl,Nat.mul_one] at hv162_0
         replace hv162_0:=Option.some.inj (hv162_0.symm.trans hx162_0)
         injection hv162_0 with hva_ hvn_ hvc_
         rw [hva_] at ge162_0
         rw [hvc_] at ul162_0
         have HL162_0:=aA.mk (show Kd.V (Kd.int .u8) 5 _ w.heap.size _ _ (rd_L1 l0_0 a1) from Kd.V_mk ul162_0 ge162_0)
         clear hva_ hvn_ hvc_ ge162_0 ul162_0
         clear hcc162 hce162
         have HR162_0:=aA.mk hi162_0
         have HC162_0:=aA.mk hl162_0
         clear hi162_0 hl162_0
         replace p162:=eq_true p162
         replace q162:=eq_true q162
         go_wp2_with (first|((with_reducible refine bC (N:=47) rfl ?_);(try (refine cC wN ?_;dsimp only));refine Kd.N_lit (Kd.slice 5 (Kd.int .u8)) _ 37 ?hg (N':=47) ?hd (xs:=([rd_L1 l0_0 a1]:List (List Int))) (inner:=[.slice A162_0 (rd_L1 l0_0 a1).length c162_0]) (ok:=(fun k_=>((P0_0_ k_ ∨ P0_1_ k_) ∨ w.heap.size ≤ k_) ∧ k_ ≠ gb151)) (okp:=(fun k_=>((P0_0_ k_ ∨ P0_1_ k_) ∨ w.heap.size ≤ k_) ∧ k_ ≠ gb151)) ?hr ?hp (fun _ hk=>hk) ((show ∀ k_,wr.heap.size ≤ k_ → (fun k_=>((P0_0_ k_ ∨ P0_1_ k_) ∨ w.heap.size ≤ k_) ∧ k_ ≠ gb151) k_ from fun k_ hk=>⟨(.inr (Nat.le_trans (aX HB.out) hk)),Kd.freshB (g:=gb151) (o:=.cells #[.slice (some ad162) l0_0.length c0_0,.slice A0_1 l0_1.length c0_1,.int .i64 a0_2,.bool a0_3] 25 (0,0)) BK151.out k_ hk⟩) _ (Nat.le_refl _)) (Below.refl _ _) (Nat.le_refl _) vN ?_;(case hd=>rfl);(case hg=>rfl);(case hr=>exact tE);(case hp=>exact (Reps.one (show Kd.FK (Kd.slice 5 (Kd.int .u8)) _ _ (rd_L1 l0_0 a1) [.slice A162_0 (rd_L1 l0_0 a1).length c162_0] from (Kd.FK_slice_mk (Kd.V_reads' (Kd.V_mono (ok':=(fun k_=>((P0_0_ k_ ∨ P0_1_ k_) ∨ w.heap.size ≤ k_) ∧ k_ ≠ gb151)) (HL162_0.out) (fun k_ hk=>⟨hk.1,hk.2⟩))).2.1 (Kd.V_F (Kd.V_mono (ok':=(fun k_=>((P0_0_ k_ ∨ P0_1_ k_) ∨ w.heap.size ≤ k_) ∧ k_ ≠ gb151)) (HL162_0.out) (fun k_ hk=>⟨hk.1,hk.2⟩))))) (Reps.none _ _)));intro v164 w30 ho31 hb hg_ hnew_;clear hg_ hnew_;(first|rw [← Ny163.out] at ho31|(simp only [Int.reduceToNat] at ho31;rw [← Ny163.out] at ho31));replace HO_152000:=aA.mk (Kd.V_elder' HO_152000.out (Kd.N_base ho31) hb);replace HO_152001:=aA.mk (Kd.V_elder' HO_152001.out (Kd.N_base ho31) hb);replace HL162_0:=aA.mk (Kd.V_elder' HL162_0.out (Kd.N_base ho31) hb);have HO165:=aA.mk (Kd.N_lower ho31 (aX HB.out));replace BK151:=aA.mk (bM (g:=gb151) (o:=.cells #[.slice (some ad162) l0_0.length c0_0,.slice A0_1 l0_1.length c0_1,.int .i64 a0_2,.bool a0_3] 25 (0,0)) BK151.out hb);replace HR162_0:=aA.mk (Kd.C_below AX hb);replace HB:=aA.mk (aT HB.out hb);clear hb ho31;obtain ⟨Ao32,co32,eo32⟩:=Kd.cB HO165.out;subst eo32)|((with_reducible refine aW (f:=55) rfl ?_);refine bK (some 48) rfl rfl Try.func55 tG rfl #[.slice Ao32 y163.length co32] rfl tC ?_;(with_reducible refine (impl_joined.calls k2 _ _ y163 t166 _ ?side1 ?side2 A28.out).mono ?_);(case side1=>repeat (first|exact (Kd.N_reads' HO165.out).2.2|(with_reducible refine Kd.C_alloc ?_ _)|(with_reducible refine Kd.C_drewN ?_ _)|(with_reducible refine Kd.C_drew ?_)));(case side2=>exact (Kd.N_reads' HO165.out).2.1);rintro e w33 ⟨v167,rfl,ho0,hb⟩;refine ⟨_,rfl,?_⟩;replace HO_152000:=aA.mk (Kd.V_elder' HO_152000.out (Kd.R_base ho0) hb);replace HO_152001:=aA.mk (Kd.V_elder' HO_152001.out (Kd.R_base ho0) hb);replace HL162_0:=aA.mk (Kd.V_elder' HL162_0.out (Kd.R_base ho0) hb);replace HO165:=aA.mk (Kd.N_elder' HO165.out (Kd.R_base ho0) hb);have HO168:=aA.mk (Kd.R_lower (Kd.R_newM (M:=fun k_=>(w.heap.size ≤ k_)) ho0 (aX HB.out) (fun k_ h_=>h_)) (aX HB.out));replace BK151:=aA.mk (bM (g:=gb151) (o:=.cells #[.slice (some ad162) l0_0.length c0_0,.slice A0_1 l0_1.length c0_1,.int .i64 a0_2,.bool a0_3] 25 (0,0)) BK151.out hb);replace HR162_0:=aA.mk (Kd.C_below AX hb);replace HB:=aA.mk (aT HB.out hb);(try clear hb);(try clear hk);(try clear ho0)))
         go_ret
         exact ⟨_,tN,by (with_reducible repeat (first|apply Kd.R_alloc|apply Kd.R_drewN|apply Kd.R_drew));exact Kd.R_mono HO168.out (fun _ hk=>hk.1),vW⟩
        ·rw [if_neg c27] at H
         exact wX
       ·rw [if_neg c26] at H
        exact wX
end Go.Proofs.Ytilhcaofpfeioaa.PFnDevsBent

namespace Go.Proofs.Ytilhcaofpfeioaa.PFnDevsBent
open Go.RowKit Go.Proofs.YtilhcaofpfeioaaW.PrintWords Go.Proofs.YtilhcaofpfeioaaW.PrintLast Go.Proofs.YtilhcaofpfeioaaW.PrintMore
attribute [local go_sem] max2_int min2_int max_two min_two max_three min_three max_four min_four   -- for this text's walks alone
set_option linter.unusedVariables false
set_option linter.unusedSimpArgs false
mutual
def spec_l2Copy.l0:Nat → Int → List (List Int) → List (S50) → Int → Bool → List (List Int) → Int → Bool → Option ((List (List Int)) × (List (S50)) × Int × Bool)
 | 0,_,_,_,_,_,_,_,_=>none
 | k + 1,x4,x170000,x170001,x170002,x170003,x172000,x172002,x172003=>if x4 < (x170000.length:Int) then ((some (([]:List Int):List Int)).bind fun y172=>(if 0 ≤ x4 then (if y172.length + (rd_L1 x170000 x4).length < 140737488355328 then (if x172000.length < 5864062014805 then (spec_l2Copy.l0 k (wrap64 (x4 + 1)) x170000 x170001 x170002 x170003 (x172000 ++ [(y172 ++ (rd_L1 x170000 x4))]) x172002 x172003) else (none)) else (none)) else (none))) else (spec_l2Copy.l1 k 0 x170000 x170001 x170002 x170003 x172000 ([]:List (S50)) x172002 x172003)
def spec_l2Copy.l1:Nat → Int → List (List Int) → List (S50) → Int → Bool → List (List Int) → List (S50) → Int → Bool → Option ((List (List Int)) × (List (S50)) × Int × Bool)
 | 0,_,_,_,_,_,_,_,_,_=>none
 | k + 1,x5,x170000,x170001,x170002,x170003,x172000,x172001,x172002,x172003=>if x5 < (x170001.length:Int) then (if 0 ≤ x5 then ((some (([]:List Int):List Int)).bind fun y183=>(if y183.length + ((rd_T50 x170001 x5).f1).length < 140737488355328 then (if x172001.length < 4398046511104 then (spec_l2Copy.l1 k (wrap64 (x5 + 1)) x170000 x170001 x170002 x170003 x172000 (x172001 ++ [(⟨(rd_T50 x170001 x5).f0,(y183 ++ ((rd_T50 x170001 x5).f1))⟩:S50)]) x172002 x172003) else (none)) else (none))) else (none)) else (some (x172000,x172001,x172002,x172003))
end
def spec_l2Copy.f (k:Nat) (l0_0:List (List Int)) (l0_1:List (S50)) (a0_2:Int) (a0_3:Bool):Option ((List (List Int)) × (List (S50)) × Int × Bool):=spec_l2Copy.l0 k 0 l0_0 l0_1 a0_2 a0_3 ([]:List (List Int)) a0_2 a0_3
def spec_l2Copy.T5:Bool × List (List Nat × List Nat):=(true,[([],[]),([0],[0]),([],[]),([],[]),([3],[3]),([],[]),([4,5],[4,5]),([6],[6]),([2,7],[2,7]),([8],[8]),([1,9,8],[1,9]),([0,1,2,3,4,5,6,7,8,9,10],[]),([11,10,10,0,1,2,3,4,5,6,7,8,9,10],[10,11])])
def spec_l2Copy.B5:List Nat:=[0,1,0,0,8,0,56,120,252,508,1023,2047,4095]
theorem spec_l2Copy.tab5:rtab .any (opsOf Try.f56 5) = spec_l2Copy.T5:=by kernel_rfl
theorem spec_l2Copy.bits5:waitsOk spec_l2Copy.T5.2 spec_l2Copy.B5 = true:=by kernel_rfl
def spec_l2Copy.T9:Bool × List (List Nat × List Nat):=(true,[([],[]),([0],[0]),([],[]),([2],[2]),([],[]),([3,4],[3,4]),([5],[5]),([6],[6]),([],[]),([],[]),([9],[9]),([],[]),([10,11],[10,11]),([12],[12]),([13],[13]),([8,14],[8,14]),([7,15],[7,15]),([16],[16]),([1,17,15],[1,17]),([0,1,2,3,4,5,6,7,8,9,10,11,12,13,14,15,16,17,18],[]),([19,18,18,0,1,2,3,4,5,6,7,8,9,10,11,12,13,14,15,16,17,18],[18,19])])
def spec_l2Copy.B9:List Nat:=[0,1,0,4,0,28,60,124,0,0,512,0,3584,7680,15872,32512,65532,131068,262143,524287,1048575]
theorem spec_l2Copy.tab9:rtab .any (opsOf Try.f56 9) = spec_l2Copy.T9:=by kernel_rfl
theorem spec_l2Copy.bits9:waitsOk spec_l2Copy.T9.2 spec_l2Copy.B9 = true:=by kernel_rfl
set_option maxHeartbeats 8000000 in
set_option maxRecDepth 100000 in
theorem spec_l2Copy.calls (k:Nat) (A0_0:Option Addr) (c0_0:Nat) (l0_0:List (List Int)) (A0_1:Option Addr) (c0_1:Nat) (l0_1:List (S50)) (a0_2:Int) (a0_3:Bool) (r1:List (List Int)) (r2:List (S50)) (r3:Int) (r4:Bool) (w:World) (hr0_0:Kd.C (Kd.slice 5 (Kd.int .u8)) w A0_0 l0_0.length l0_0) (hc0_0:l0_0.length ≤ c0_0) (hr0_1:Kd.C k50 w A0_1 l0_1.length l0_1) (hc0_1:l0_1.length ≤ c0_1) (h:spec_l2Copy.f k l0_0 l0_1 a0_2 a0_3 = some (r1,r2,r3,r4)) :
  Calls Try.prog 56 #[.agg #[.slice A0_0 l0_0.length c0_0,.slice A0_1 l0_1.length c0_1,.int .i64 a0_2,.bool a0_3]] w fun e w'=>∃ v0_ v1_:Value,e = .returned (.agg #[v0_,v1_,.int .i64 r3,.bool r4]) ∧ Kd.S (Kd.slice 5 (Kd.int .u8)) 37 w' w.heap.size (fun _=>True) v0_ r1 ∧ Kd.S k50 50 w' w.heap.size (fun _=>True) v1_ r2 ∧ Below w.heap.size w w':=by
 have hu25:=Try.underlying25
 have hu50:=Try.underlying50
 have HR0_0:=aA.mk hr0_0
 have HC0_0:=aA.mk hc0_0
 clear hr0_0 hc0_0
 have HR0_1:=aA.mk hr0_1
 have HC0_1:=aA.mk hc0_1
 clear hr0_1 hc0_1
 have HB:=aA.mk (Below.refl w.heap.size w)
 have H:(spec_l2Copy.l0 k 0 l0_0 l0_1 a0_2 a0_3 ([]:List (List Int)) a0_2 a0_3) = some (r1,r2,r3,r4):=h
 clear h
 have H':=aA.mk H
 clear H
 go_enter Try.func56,Try.ntmps56
 go_wp2_with (first|((with_reducible refine bC (N:=1) rfl ?_);refine bD ?hg (N:=1) ?hd (cs:=#[.slice A0_0 l0_0.length c0_0,.slice A0_1 l0_1.length c0_1,.int .i64 a0_2,.bool a0_3]) (t:=25) ?hr ?_;(case hd=>rfl);(case hg=>rfl);(case hr=>exact tE);intro gb169 hg w2 hbox hb;have BK169:=aA.mk (hbox);have GW169:=aA.mk ((by rw [hg];exact (aX HB.out):w.heap.size ≤ gb169));have GE169:=aA.mk ((by rw [hg];exact (aX HB.out):w.heap.size ≤ gb169));replace HB:=aA.mk (aT HB.out hb);clear hb hbox hg)|((with_reducible refine bC (N:=2) rfl ?_);refine bD ?hg (N:=2) ?hd (cs:=#[.slice none 0 0,.slice none 0 0,.int .i64 0,.bool false]) (t:=25) ?hr ?_;(case hd=>rfl);(case hg=>rfl);(case hr=>exact tE);intro gb170 hg w3 hbox hb;have BK170:=aA.mk (hbox);have GW170:=aA.mk ((by rw [hg];exact (aX HB.out):w.heap.size ≤ gb170));have GE170:=aA.mk ((by rw [hg];exact (aX HB.out):w.heap.size ≤ gb170));replace HB:=aA.mk (aT HB.out hb);have NB169_170:=aA.mk ((by rw [hg];exact Nat.ne_of_lt (bJ (g:=gb169) (o:=.cells #[.slice A0_0 l0_0.length c0_0,.slice A0_1 l0_1.length c0_1,.int .i64 a0_2,.bool a0_3] 25 (0,0)) BK169.out):gb169 ≠ gb170));have NB170_169:=aA.mk ((by rw [hg];exact Nat.ne_of_gt (bJ (g:=gb169) (o:=.cells #[.slice A0_0 l0_0.length c0_0,.slice A0_1 l0_1.length c0_1,.int .i64 a0_2,.bool a0_3] 25 (0,0)) BK169.out):gb170 ≠ gb169));replace BK169:=aA.mk (bM (g:=gb169) (o:=.cells #[.slice A0_0 l0_0.length c0_0,.slice A0_1 l0_1.length c0_1,.int .i64 a0_2,.bool a0_3] 25 (0,0)) BK169.out hb);clear hb hbox hg;have hnb4:=NB169_170.out;have hnc4:=NB170_169.out;obtain ⟨hcz5_0,hcz5_1,hcz5_2,hcz5_3⟩:=cs4 BK169.out;obtain ⟨hfz5_0,hfz5_1,hfz5_2,hfz5_3⟩:=fs4 BK169.out)|((with_reducible refine bC (N:=3) rfl ?_);refine bD ?hg (N:=3) ?hd (cs:=#[.slice none 0 0,.slice none 0 0,.int .i64 0,.bool false]) (t:=25) ?hr ?_;(case hd=>rfl);(case hg=>rfl);(case hr=>exact tE);intro gb171 hg w6 hbox hb;have BK171:=aA.mk (hbox);have GW171:=aA.mk ((by rw [hg];exact (aX HB.out):w.heap.size ≤ gb171));have GE171:=aA.mk ((by rw [hg];exact (aX HB.out):w.heap.size ≤ gb171));replace HB:=aA.mk (aT HB.out hb);have NB169_171:=aA.mk ((by rw [hg];exact Nat.ne_of_lt (bJ (g:=gb169) (o:=.cells #[.slice A0_0 l0_0.length c0_0,.slice A0_1 l0_1.length c0_1,.int .i64 a0_2,.bool a0_3] 25 (0,0)) BK169.out):gb169 ≠ gb171));have NB171_169:=aA.mk ((by rw [hg];exact Nat.ne_of_gt (bJ (g:=gb169) (o:=.cells #[.slice A0_0 l0_0.length c0_0,.slice A0_1 l0_1.length c0_1,.int .i64 a0_2,.bool a0_3] 25 (0,0)) BK169.out):gb171 ≠ gb169));replace BK169:=aA.mk (bM (g:=gb169) (o:=.cells #[.slice A0_0 l0_0.length c0_0,.slice A0_1 l0_1.length c0_1,.int .i64 a0_2,.bool a0_3] 25 (0,0)) BK169.out hb);have NB170_171:=aA.mk ((by rw [hg];exact Nat.ne_of_lt (bJ (g:=gb170) (o:=.cells #[.slice none 0 0,.slice none 0 0,.int .i64 0,.bool false] 25 (0,0)) BK170.out):gb170 ≠ gb171));have NB171_170:=aA.mk ((by rw [hg];exact Nat.ne_of_gt (bJ (g:=gb170) (o:=.cells #[.slice none 0 0,.slice none 0 0,.int .i64 0,.bool false] 25 (0,0)) BK170.out):gb171 ≠ gb170));replace BK170:=aA.mk (bM (g:=gb170) (o:=.cells #[.slice none 0 0,.slice none 0 0,.int .i64 0,.bool false] 25 (0,0)) BK170.out hb);clear hb hbox hg;have hnb7:=NB171_169.out;have hnc7:=NB169_171.out;have hnb8:=NB171_170.out;have hnc8:=NB170_171.out;obtain ⟨hcz9_0,hcz9_1,hcz9_2,hcz9_3⟩:=cs4 BK171.out;obtain ⟨hfz9_0,hfz9_1,hfz9_2,hfz9_3⟩:=fs4 BK171.out))
 go_loopg [4] k (fun kq v4 w'=>∃ (x4_1:Int) (x172000_1:List (List Int)) (u172000:Value),v4 = .int .i64 x4_1 ∧ aA (spec_l2Copy.l0 kq x4_1 l0_0 l0_1 a0_2 a0_3 x172000_1 a0_2 a0_3 = some (r1,r2,r3,r4)) ∧ aA (kq ≤ k) ∧ aA (Kd.S (Kd.slice 5 (Kd.int .u8)) 37 w' w.heap.size (fun _=>True) u172000 x172000_1) ∧ aA (w'.heap[gb169]? = some (.cells #[(.slice A0_0 l0_0.length c0_0),(.slice A0_1 l0_1.length c0_1),.int .i64 a0_2,.bool a0_3] 25 (0,0))) ∧ aA (w'.heap[gb170]? = some (.cells #[(.slice none 0 0),(.slice none 0 0),.int .i64 0,.bool false] 25 (0,0))) ∧ aA (w'.heap[gb171]? = some (.cells #[u172000,(.slice none 0 0),.int .i64 a0_2,.bool a0_3] 25 (0,0))) ∧ aA (Below w.heap.size w w'))
 case atStart=>exact ⟨(0),(([]:List (List Int))),(.slice none 0 0),td,H',⟨Nat.le_refl _⟩,⟨vD⟩,⟨by (with_reducible repeat (first|refine aM ?_ _|refine aN ?_|refine aG ?_ _));refine bY ?_ NB169_171.out _;(with_reducible repeat (first|refine aM ?_ _|refine aN ?_|refine aG ?_ _));refine bY ?_ NB169_171.out _;(with_reducible repeat (first|refine aM ?_ _|refine aN ?_|refine aG ?_ _));refine bY ?_ NB169_171.out _;(with_reducible repeat (first|refine aM ?_ _|refine aN ?_|refine aG ?_ _));refine bY ?_ NB169_171.out _;(with_reducible repeat (first|refine aM ?_ _|refine aN ?_|refine aG ?_ _));exact BK169.out⟩,⟨by (with_reducible repeat (first|refine aM ?_ _|refine aN ?_|refine aG ?_ _));refine bY ?_ NB170_171.out _;(with_reducible repeat (first|refine aM ?_ _|refine aN ?_|refine aG ?_ _));refine bY ?_ NB170_171.out _;(with_reducible repeat (first|refine aM ?_ _|refine aN ?_|refine aG ?_ _));refine bY ?_ NB170_171.out _;(with_reducible repeat (first|refine aM ?_ _|refine aN ?_|refine aG ?_ _));refine bY ?_ NB170_171.out _;(with_reducible repeat (first|refine aM ?_ _|refine aN ?_|refine aG ?_ _));exact BK170.out⟩,⟨by (with_reducible repeat (first|refine aM ?_ _|refine aN ?_|refine aG ?_ _));refine aQ (cs:=#[.slice none 0 0,.slice none 0 0,.int .i64 a0_2,.bool false]) ?_ 3 _ rfl;(with_reducible repeat (first|refine aM ?_ _|refine aN ?_|refine aG ?_ _));refine aQ (cs:=#[.slice none 0 0,.slice none 0 0,.int .i64 0,.bool false]) ?_ 2 _ rfl;(with_reducible repeat (first|refine aM ?_ _|refine aN ?_|refine aG ?_ _));refine aQ (cs:=#[.slice none 0 0,.slice none 0 0,.int .i64 0,.bool false]) ?_ 1 _ rfl;(with_reducible repeat (first|refine aM ?_ _|refine aN ?_|refine aG ?_ _));refine aQ (cs:=#[.slice none 0 0,.slice none 0 0,.int .i64 0,.bool false]) ?_ 0 _ rfl;(with_reducible repeat (first|refine aM ?_ _|refine aN ?_|refine aG ?_ _));exact BK171.out⟩,⟨vm⟩⟩
 case round =>
  clear H'
  try clear p2
  try clear c4
  try clear c5
  try clear c7
  try clear c8
  try clear hcz5_0
  try clear hcz5_1
  try clear hcz5_2
  try clear hcz5_3
  try clear hcz9_0
  try clear hcz9_1
  try clear hcz9_2
  try clear hcz9_3
  try clear hfz5_0
  try clear hfz5_1
  try clear hfz5_2
  try clear hfz5_3
  try clear hfz9_0
  try clear hfz9_1
  try clear hfz9_2
  try clear hfz9_3
  obtain ⟨x4_1,x172000_1,u172000,rfl,HA,HK1,HO_172000,BK169,BK170,BK171,HB⟩:=hrel
  cases gk with
  | zero=>exact absurd HA.out (by simp [spec_l2Copy.l0])
  | succ k1 =>
   have H:=HA.out
   clear HA
   simp only [spec_l2Copy.l0] at H
   by_cases c10:x4_1 < (l0_0.length:Int)
   ·rw [if_pos c10] at H
    have c10b0:decide (x4_1 < (l0_0.length:Int)) = true:=decide_eq_true c10
    clear c10
    obtain ⟨y172,hy172⟩:∃ y_:List Int,y_ = (([]:List Int)):=⟨_,rfl⟩
    replace H:(if 0 ≤ x4_1 then (if y172.length + (rd_L1 l0_0 x4_1).length < 140737488355328 then (if x172000_1.length < 5864062014805 then (spec_l2Copy.l0 k1 (wrap64 (x4_1 + 1)) l0_0 l0_1 a0_2 a0_3 (x172000_1 ++ [(y172 ++ (rd_L1 l0_0 x4_1))]) a0_2 a0_3) else (none)) else (none)) else (none)) = some (r1,r2,r3,r4):=by first|(rw [hy172];with_reducible exact H)|(have H2_:=(Option.bind_some _ _).symm.trans H;rw [hy172];with_reducible exact H2_)|(have H2_:=(Option.bind_some _ _).symm.trans H;with_reducible exact H2_)|with_reducible exact H|(rw [hy172];exact H)|exact H
    have Ny172:=aA.mk hy172
    clear hy172
    by_cases c11:0 ≤ x4_1
    ·rw [if_pos c11] at H
     have c11b0:decide (0 ≤ x4_1) = true:=decide_eq_true c11
     clear c11
     by_cases c12:y172.length + (rd_L1 l0_0 x4_1).length < 140737488355328
     ·rw [if_pos c12] at H
      have LMc12:=aA.mk c12
      clear c12
      obtain ⟨y176,hy176⟩:∃ y_:List Int,y_ = (y172 ++ (rd_L1 l0_0 x4_1)):=⟨_,rfl⟩
      replace H:(if x172000_1.length < 5864062014805 then (spec_l2Copy.l0 k1 (wrap64 (x4_1 + 1)) l0_0 l0_1 a0_2 a0_3 (x172000_1 ++ [y176]) a0_2 a0_3) else (none)) = some (r1,r2,r3,r4):=by first|(rw [hy176];with_reducible exact H)|(have H2_:=(Option.bind_some _ _).symm.trans H;rw [hy176];with_reducible exact H2_)|(have H2_:=(Option.bind_some _ _).symm.trans H;with_reducible exact H2_)|with_reducible exact H|(rw [hy176];exact H)|exact H
      have Ny176:=aA.mk hy176
      clear hy176
      by_cases c13:x172000_1.length < 5864062014805
      ·rw [if_pos c13] at H
       have LMc13:=aA.mk c13
       clear c13
       obtain ⟨y179,hy179⟩:∃ y_:List (List Int),y_ = (x172000_1 ++ [y176]):=⟨_,rfl⟩
       replace H:(spec_l2Copy.l0 k1 (wrap64 (x4_1 + 1)) l0_0 l0_1 a0_2 a0_3 y179 a0_2 a0_3) = some (r1,r2,r3,r4):=by first|(rw [hy179];with_reducible exact H)|(have H2_:=(Option.bind_some _ _).symm.trans H;rw [hy179];with_reducible exact H2_)|(have H2_:=(Option.bind_some _ _).symm.trans H;with_reducible exact H2_)|with_reducible exact H|(rw [hy179];exact H)|exact H
       have Ny179:=aA.mk hy179
       clear hy179
       have H':=aA.mk H
       clear H
       have hnb14:=NB169_170.out
       have hnc14:=NB170_169.out
       have hnb15:=NB169_171.out
       have hnc15:=NB171_169.out
       obtain ⟨hcz16_0,hcz16_1,hcz16_2,hcz16_3⟩:=cs4 BK169.out
       obtain ⟨hfz16_0,hfz16_1,hfz16_2,hfz16_3⟩:=fs4 BK169.out
       try go_wp2
       replace HO_172000:=aA.mk (Kd.S_drew HO_172000.out)
       replace BK169:=aA.mk (aN BK169.out)
       replace BK170:=aA.mk (aN BK170.out)
       replace BK171:=aA.mk (aN BK171.out)
       replace HB:=aA.mk (aH HB.out)
       have p175:0 ≤ (x4_1:Int):=lE tx
       have q175:x4_1 < (l0_0.length:Int):=lE tx
       obtain ⟨ad175,A175_0,c175_0,e175,hx175_0,hl175_0,hi175_0⟩:=at_L1 HR0_0.out x4_1 p175 q175
       have hw175_0:=hx175_0
       cases e175
       replace hx175_0:=(HB.out.cell (lD w _ hx175_0)).trans hx175_0
       have HR175_0:=aA.mk hi175_0
       have HC175_0:=aA.mk hl175_0
       clear hi175_0 hl175_0
       replace p175:=eq_true p175
       replace q175:=eq_true q175
       refine start_ (n:=13) (S:=fun w'=>w'.cell? ⟨gb171,0,none⟩ = some (u172000) ∧ w'.cell? ⟨gb171,1,none⟩ = some (.slice none 0 0) ∧ w'.cell? ⟨gb171,2,none⟩ = some (.int .i64 a0_2) ∧ w'.cell? ⟨gb171,3,none⟩ = some (.bool a0_3) ∧ w'.cell? ⟨gb169,0,none⟩ = some (.slice (some ad175) l0_0.length c0_0) ∧ w'.cell? ⟨gb169,1,none⟩ = some (.slice A0_1 l0_1.length c0_1) ∧ w'.cell? ⟨gb169,2,none⟩ = some (.int .i64 a0_2) ∧ w'.cell? ⟨gb169,3,none⟩ = some (.bool a0_3) ∧ w'.cell? (ad175.add (x4_1).toNat) = some (.slice A175_0 (rd_L1 l0_0 x4_1).length c175_0)) (ds:=[12]) #[F0,F0,F0,F0,F0,F0,F0,F0,F0,F0,F0,F0,F0] tG rfl rfl ⟨(aD BK171.out 0).trans rfl,(aD BK171.out 1).trans rfl,(aD BK171.out 2).trans rfl,(aD BK171.out 3).trans rfl,(aD BK169.out 0).trans rfl,(aD BK169.out 1).trans rfl,(aD BK169.out 2).trans rfl,(aD BK169.out 3).trans rfl,((HB.out.cell (lD w _ hw175_0)).trans hw175_0)⟩ (fun hHeld=>?_);refine with_tabW spec_l2Copy.tab5 spec_l2Copy.bits5 (fun HT_ HW_=>?_)
       generalize wr.drew = w17 at HO_172000 BK169 BK170 BK171 HB HR175_0 hx175_0 hHeld ⊢
       refine bT (i:=0) (N:=some 18) (v:=?_) (a':=?_) #[T1,F0,F0,F0,F0,F0,F0,F0,F0,F0,F0,F0,F0] rfl rfl (any_of HT_.out tG) (fun _ _ _ h=>h) (Or.inl ⟨vr,?_⟩) ?_ ?_
       rotate_left
       ·intro w'
        go_simp
        with_reducible rfl
       rotate_left
       ·simp only [Act.put,lA,lB,lC,bE,bG]
        rfl
       refine bT (i:=3) (N:=some 21) (v:=?_) (a':=?_) #[T1,F0,F0,T1,F0,F0,F0,F0,F0,F0,F0,F0,F0] rfl rfl (any_of HT_.out tG) (fun _ _ _ h=>h) (Or.inl ⟨vr,?_⟩) ?_ ?_
       rotate_left
       ·intro w'
        go_simp
        with_reducible rfl
       rotate_left
       ·simp only [Act.put,lA,lB,lC,bE,bG]
        rfl
       refine bT (i:=5) (N:=some 23) (v:=?_) (a':=?_) #[T1,F0,F0,T1,F0,T1,F0,F0,F0,F0,F0,F0,F0] rfl rfl (any_of HT_.out tG) (fun _ _ _ h=>h) (Or.inl ⟨vr,?_⟩) ?_ ?_
       rotate_left
       ·intro w'
        go_simp
        with_reducible rfl
       rotate_left
       ·simp only [Act.put,lA,lB,lC,bE,bG]
        rfl
       refine take_ (i:=1) (N:=some 19) (v:=?_) (a':=?_) #[T1,T1,F0,T1,F0,T1,F0,F0,F0,F0,F0,F0,F0] rfl rfl (take_ofW HT_.out HW_.out tG) (fun _ _ _ h=>h) (Or.inl ⟨vr,?_⟩) hHeld ?_ ?_
       rotate_left
       ·rintro w' ⟨s0,s1,s2,s3,s4,s5,s6,s7,s8⟩
        go_simp
        with_reducible rfl
       rotate_left
       ·simp only [Act.put,lA,lB,lC,bE,bG]
        rfl
       refine take_ (i:=4) (N:=some 22) (v:=?_) (a':=?_) #[T1,T1,F0,T1,T1,T1,F0,F0,F0,F0,F0,F0,F0] rfl rfl (take_ofW HT_.out HW_.out tG) (fun _ _ _ h=>h) (Or.inl ⟨vr,?_⟩) hHeld ?_ ?_
       rotate_left
       ·rintro w' ⟨s0,s1,s2,s3,s4,s5,s6,s7,s8⟩
        go_simp
        with_reducible rfl
       rotate_left
       ·simp only [Act.put,lA,lB,lC,bE,bG]
        rfl
       refine bT (i:=6) (N:=some 24) (v:=?_) (a':=?_) #[T1,T1,F0,T1,T1,T1,T1,F0,F0,F0,F0,F0,F0] rfl rfl (any_of HT_.out tG) (fun _ _ _ h=>h) (Or.inl ⟨vr,?_⟩) ?_ ?_
       rotate_left
       ·intro w'
        go_simp
        with_reducible rfl
       rotate_left
       ·simp only [Act.put,lA,lB,lC,bE,bG]
        rfl
       refine take_ (i:=7) (N:=some 25) (v:=?_) (a':=?_) #[T1,T1,F0,T1,T1,T1,T1,T1,F0,F0,F0,F0,F0] rfl rfl (take_ofW HT_.out HW_.out tG) (fun _ _ _ h=>h) (Or.inl ⟨vr,?_⟩) hHeld ?_ ?_
       rotate_left
       ·rintro w' ⟨s0,s1,s2,s3,s4,s5,s6,s7,s8⟩
        go_simp
        with_reducible rfl
       rotate_left
       ·simp only [Act.put,lA,lB,lC,bE,bG]
        rfl
       refine one_ (i:=2) (N:=some 20) #[T1,T1,T1,T1,T1,T1,T1,T1,F0,F0,F0,F0,F0] rfl rfl (one_of HT_.out tG) tf (fun K hK=>?_)
       refine Kd.R_lit_step (Kd.int .u8) _ 5 ?hg (N:=20) ?hd (xs:=([]:List Int)) (inner:=[]) (ok:=fun _=>True) (okp:=fun _=>True) ?hr ?hp (fun _ hk=>hk) trivial (Below.refl _ _) (Nat.le_refl _) vN ?_;(case hd=>rfl);(case hg=>rfl);(case hr=>exact tE);(case hp=>exact (Reps.none _ _))
       intro v173 w18 ho19 hb hg_ hnew_
       clear hg_ hnew_
       (first|rw [← Ny172.out] at ho19|(simp only [Int.reduceToNat] at ho19;rw [← Ny172.out] at ho19))
       replace HO_172000:=aA.mk (Kd.S_elder' HO_172000.out (Kd.R_base ho19) hb)
       have HO174:=aA.mk (Kd.R_lower ho19 (aX HB.out))
       replace BK169:=aA.mk (bM (g:=gb169) (o:=.cells #[.slice (some ad175) l0_0.length c0_0,.slice A0_1 l0_1.length c0_1,.int .i64 a0_2,.bool a0_3] 25 (0,0)) BK169.out hb)
       replace BK170:=aA.mk (bM (g:=gb170) (o:=.cells #[.slice none 0 0,.slice none 0 0,.int .i64 0,.bool false] 25 (0,0)) BK170.out hb)
       replace BK171:=aA.mk (bM (g:=gb171) (o:=.cells #[u172000,.slice none 0 0,.int .i64 a0_2,.bool a0_3] 25 (0,0)) BK171.out hb)
       replace HB:=aA.mk (aT HB.out hb)
       clear hb ho19
       refine hK.out _ _ ⟨(aD BK171.out 0).trans rfl,(aD BK171.out 1).trans rfl,(aD BK171.out 2).trans rfl,(aD BK171.out 3).trans rfl,(aD BK169.out 0).trans rfl,(aD BK169.out 1).trans rfl,(aD BK169.out 2).trans rfl,(aD BK169.out 3).trans rfl,((HB.out.cell (lD w _ hw175_0)).trans hw175_0)⟩ (fun hHeld=>?_)
       clear hK K
       refine norm_ (a':=?_) ?_ ?_
       rotate_left
       ·show Act.put _ (some 20) _ = _
        simp only [Act.put,lA,lB,lC,bE,bG]
        rfl
       refine one_ (i:=8) (N:=some 26) #[T1,T1,T1,T1,T1,T1,T1,T1,T1,F0,F0,F0,F0] rfl rfl (one_of HT_.out tG) tf (fun K hK=>?_)
       refine Kd.R_append_rows_step (Kd.int .u8) (w0:=w) w.heap.size wN (.tmp 20) (.tmp 25) 37 5 (.int .u8 0) 1 rfl Try.underlying37 info5 rfl tf tZ v173 y172 (rd_L1 l0_0 x4_1) _ _ _ (fun _=>True) (fun _=>False) rfl rfl ?aO ?aR (fun _ _ h=>h) (fun _ h=>h.elim) ?aF ?aB ?aS ?aL ?_
       (case aR=>exact (Kd.C_below HR175_0.out HB.out))
       (case aB=>exact HB.out)
       (case aF=>exact (fun _ _=>trivial))
       (case aO=>exact HO174.out)
       (case aS=>exact (aX HB.out))
       (case aL=>have:=LMc12.out;omega)
       intro v177 w20 ho hb hg hat
       rw [← Ny176.out] at ho
       replace HO_172000:=aA.mk (Kd.S_after (ok:=(fun _=>True)) HO_172000.out hg hat)
       replace BK169:=aA.mk (blk_grown (g:=gb169) (o:=.cells #[.slice (some ad175) l0_0.length c0_0,.slice A0_1 l0_1.length c0_1,.int .i64 a0_2,.bool a0_3] 25 (0,0)) BK169.out hg (Kd.R_ne HO174.out BK169.out tf))
       replace BK170:=aA.mk (blk_grown (g:=gb170) (o:=.cells #[.slice none 0 0,.slice none 0 0,.int .i64 0,.bool false] 25 (0,0)) BK170.out hg (Kd.R_ne HO174.out BK170.out tf))
       replace BK171:=aA.mk (blk_grown (g:=gb171) (o:=.cells #[u172000,.slice none 0 0,.int .i64 a0_2,.bool a0_3] 25 (0,0)) BK171.out hg (Kd.R_ne HO174.out BK171.out tf))
       replace HB:=aA.mk (hb)
       have HO178:=aA.mk (ho)
       clear HO174
       clear ho hb hg hat
       obtain ⟨Ao22,co22,eo22⟩:=Kd.R_slice HO178.out
       (first|subst eo22|(injection eo22 with f1_ f2_ f3_;have f4_:=f1_.symm;have f5_:=f3_.symm;clear f1_ f2_ f3_;subst f4_;subst f5_))
       refine hK.out _ _ ⟨(aD BK171.out 0).trans rfl,(aD BK171.out 1).trans rfl,(aD BK171.out 2).trans rfl,(aD BK171.out 3).trans rfl,(aD BK169.out 0).trans rfl,(aD BK169.out 1).trans rfl,(aD BK169.out 2).trans rfl,(aD BK169.out 3).trans rfl,((HB.out.cell (lD w _ hw175_0)).trans hw175_0)⟩ (fun hHeld=>?_)
       clear hK K
       refine norm_ (a':=?_) ?_ ?_
       rotate_left
       ·show Act.put _ (some 26) _ = _
        simp only [Act.put,lA,lB,lC,bE,bG]
        rfl
       refine one_ (i:=9) (N:=some 27) #[T1,T1,T1,T1,T1,T1,T1,T1,T1,T1,F0,F0,F0] rfl rfl (one_of HT_.out tG) tf (fun K hK=>?_)
       refine value_ (w1:=?_) (v:=?_) wN rfl ?_ ?_
       rotate_left 2
       ·go_simp
        constructor
        ·rfl
        ·rfl
       refine hK.out _ _ ⟨(aD (aG BK171.out _) 0).trans rfl,(aD (aG BK171.out _) 1).trans rfl,(aD (aG BK171.out _) 2).trans rfl,(aD (aG BK171.out _) 3).trans rfl,(aD (aG BK169.out _) 0).trans rfl,(aD (aG BK169.out _) 1).trans rfl,(aD (aG BK169.out _) 2).trans rfl,(aD (aG BK169.out _) 3).trans rfl,(World.cell?_alloc_lt _ _ _ (lD _ _ (((HB.out.cell (lD w _ hw175_0)).trans hw175_0)))).trans (((HB.out.cell (lD w _ hw175_0)).trans hw175_0))⟩ (fun hHeld=>?_)
       clear hK K
       refine norm_ (a':=?_) ?_ ?_
       rotate_left
       ·show Act.put _ (some 27) _ = _
        simp only [Act.put,lA,lB,lC,bE,bG]
        rfl
       refine one_ (i:=10) (N:=some 28) #[T1,T1,T1,T1,T1,T1,T1,T1,T1,T1,T1,F0,F0] rfl rfl (one_of HT_.out tG) tf (fun K hK=>?_)
       refine Kd.S_append_step (Kd.slice 5 (Kd.int .u8)) (w0:=w) w.heap.size wN (.tmp 19) (.tmp 27) 22 37 (.slice none 0 0) 24 rfl Try.underlying22 info37 rfl tf tZ u172000 x172000_1 y176 [.slice Ao22 y176.length co22] (fun _=>True) (fun k_=>some k_ = (.slice Ao22 y176.length co22:Value).ownBlock) rfl rfl ?aP (fun k_ hk_=>((Kd.R_mono (ok':=fun k_=>((fun _=>True)) k_ ∧ some k_ ≠ (u172000:Value).ownBlock) (Kd.R_apart' (HO178.out) (Kd.S_typed HO_172000.out) tf) (fun k_ hk=>⟨trivial,hk.2⟩))).1 k_ hk_.symm) ?aF ?aO ?aB ?aS ?aL ?_
       (case aP=>exact Kd.M_row (Kd.R_mono (Kd.R_tight rfl (Kd.R_mono (ok':=fun k_=>((fun _=>True)) k_ ∧ some k_ ≠ (u172000:Value).ownBlock) (Kd.R_apart' (HO178.out) (Kd.S_typed HO_172000.out) tf) (fun k_ hk=>⟨trivial,hk.2⟩))) (fun _ h_=>h_)))
       (case aB=>exact HB.out)
       (case aF=>exact (fun _ _=>trivial))
       (case aO=>exact (by (with_reducible repeat (first|apply Kd.S_alloc|apply Kd.S_drewN|apply Kd.S_drew));exact Kd.bU HO_172000.out (fun k_ hk=>⟨trivial,fun e_=>hk.2 e_⟩)))
       (case aS=>exact (aX HB.out))
       (case aL=>have:=LMc13.out;omega)
       intro v180 w21 ho hb hg hat
       rw [← Ny179.out] at ho
       replace BK169:=aA.mk (blk_grown (g:=gb169) (o:=.cells #[.slice (some ad175) l0_0.length c0_0,.slice A0_1 l0_1.length c0_1,.int .i64 a0_2,.bool a0_3] 25 (0,0)) BK169.out hg (Kd.S_ne HO_172000.out BK169.out tf))
       replace BK170:=aA.mk (blk_grown (g:=gb170) (o:=.cells #[.slice none 0 0,.slice none 0 0,.int .i64 0,.bool false] 25 (0,0)) BK170.out hg (Kd.S_ne HO_172000.out BK170.out tf))
       replace BK171:=aA.mk (blk_grown (g:=gb171) (o:=.cells #[u172000,.slice none 0 0,.int .i64 a0_2,.bool a0_3] 25 (0,0)) BK171.out hg (Kd.S_ne HO_172000.out BK171.out tf))
       replace HB:=aA.mk (hb)
       have HO181:=aA.mk (ho)
       clear HO_172000
       clear HO178
       clear ho hb hg hat
       obtain ⟨Ao23,co23,eo23⟩:=Kd.S_slice HO181.out
       (first|subst eo23|(injection eo23 with f1_ f2_ f3_;have f4_:=f1_.symm;have f5_:=f3_.symm;clear f1_ f2_ f3_;subst f4_;subst f5_))
       refine hK.out _ _ ⟨(aD BK171.out 0).trans rfl,(aD BK171.out 1).trans rfl,(aD BK171.out 2).trans rfl,(aD BK171.out 3).trans rfl,(aD BK169.out 0).trans rfl,(aD BK169.out 1).trans rfl,(aD BK169.out 2).trans rfl,(aD BK169.out 3).trans rfl,((HB.out.cell (lD w _ hw175_0)).trans hw175_0)⟩ (fun hHeld=>?_)
       clear hK K
       refine norm_ (a':=?_) ?_ ?_
       rotate_left
       ·show Act.put _ (some 28) _ = _
        simp only [Act.put,lA,lB,lC,bE,bG]
        rfl
       refine bT (i:=11) (N:=some 29) (v:=?_) (a':=?_) #[T1,T1,T1,T1,T1,T1,T1,T1,T1,T1,T1,T1,F0] rfl rfl (any_of HT_.out tG) (fun _ _ _ h=>h) (Or.inl ⟨vr,?_⟩) ?_ ?_
       rotate_left
       ·intro w'
        go_simp
        with_reducible rfl
       rotate_left
       ·simp only [Act.put,lA,lB,lC,bE,bG]
        rfl
       refine last_ (i:=12) (N:=none) #[T1,T1,T1,T1,T1,T1,T1,T1,T1,T1,T1,T1,T1] rfl rfl (one_of HT_.out tG) tf (fun K hK=>?_)
       have hs24:w21.cell? ⟨gb171,0,none⟩ = some (u172000):=(aD BK171.out 0).trans rfl
       have hfs24:=cD BK171.out 0
       have hns24_0:=NB169_171.out
       have hns24_1:=NB170_171.out
       have hms24_0:=NB171_169.out
       have hms24_1:=NB171_170.out
       refine skip_ (w1:=?_) wN rfl ?_ ?_
       rotate_left
       ·go_simp
        rfl
       refine hK.out _ _ ?_
       clear hK K
       refine done_ (done_of HT_.out tG) ?_
       try go_wp2
       go_roundg k1
       case measure=>have:=HK1.out;omega
       case rel=>exact ⟨(wrap64 (x4_1 + 1)),(y179),(.slice Ao23 y179.length co23),td,H',⟨by have:=HK1.out;omega⟩,⟨by (with_reducible repeat (first|apply Kd.S_alloc|apply Kd.S_drewN|apply Kd.S_drew));exact Kd.bU (Kd.S_far (p:=⟨gb171,0,none⟩) (Kd.S_types HO181.out BK171.out tf) (fun _ hk=>hk.2) (.slice Ao23 y179.length co23)) (fun _ hk=>trivial)⟩,⟨AT⟩,⟨AR⟩,⟨by (with_reducible repeat (first|refine aM ?_ _|refine aN ?_|refine aG ?_ _));refine aQ (cs:=#[u172000,.slice none 0 0,.int .i64 a0_2,.bool a0_3]) ?_ 0 _ rfl;(with_reducible repeat (first|refine aM ?_ _|refine aN ?_|refine aG ?_ _));exact BK171.out⟩,⟨vm⟩⟩
      ·rw [if_neg c13] at H
       exact wX
     ·rw [if_neg c12] at H
      exact wX
    ·rw [if_neg c11] at H
     exact wX
   ·rw [if_neg c10] at H
    have c10b0:decide (x4_1 < (l0_0.length:Int)) = false:=decide_eq_false c10
    clear c10
    have H':=aA.mk H
    clear H
    have hnb25:=NB169_170.out
    have hnc25:=NB170_169.out
    have hnb26:=NB169_171.out
    have hnc26:=NB171_169.out
    obtain ⟨hcz27_0,hcz27_1,hcz27_2,hcz27_3⟩:=cs4 BK169.out
    obtain ⟨hfz27_0,hfz27_1,hfz27_2,hfz27_3⟩:=fs4 BK169.out
    go_wp2
    go_loopg [5] k1 (fun kq v5 w'=>∃ (x5_2:Int) (x172001_2:List (S50)) (u172001:Value),v5 = .int .i64 x5_2 ∧ aA (spec_l2Copy.l1 kq x5_2 l0_0 l0_1 a0_2 a0_3 x172000_1 x172001_2 a0_2 a0_3 = some (r1,r2,r3,r4)) ∧ aA (kq ≤ k1) ∧ aA (Kd.S (Kd.slice 5 (Kd.int .u8)) 37 w' w.heap.size (fun _=>True) u172000 x172000_1) ∧ aA (Kd.S k50 50 w' w.heap.size (fun _=>True) u172001 x172001_2) ∧ aA (w'.heap[gb169]? = some (.cells #[(.slice A0_0 l0_0.length c0_0),(.slice A0_1 l0_1.length c0_1),.int .i64 a0_2,.bool a0_3] 25 (0,0))) ∧ aA (w'.heap[gb170]? = some (.cells #[(.slice none 0 0),(.slice none 0 0),.int .i64 0,.bool false] 25 (0,0))) ∧ aA (w'.heap[gb171]? = some (.cells #[u172000,u172001,.int .i64 a0_2,.bool a0_3] 25 (0,0))) ∧ aA (Below w.heap.size w w'))
    case atStart=>exact ⟨(0),(([]:List (S50))),(.slice none 0 0),td,H',⟨Nat.le_refl _⟩,⟨by (with_reducible repeat (first|apply Kd.S_alloc|apply Kd.S_drewN|apply Kd.S_drew));exact HO_172000.out⟩,⟨vD⟩,⟨by (with_reducible repeat (first|refine aM ?_ _|refine aN ?_|refine aG ?_ _));exact BK169.out⟩,⟨by (with_reducible repeat (first|refine aM ?_ _|refine aN ?_|refine aG ?_ _));exact BK170.out⟩,⟨by (with_reducible repeat (first|refine aM ?_ _|refine aN ?_|refine aG ?_ _));exact BK171.out⟩,⟨vm⟩⟩
    case round =>
     clear H'
     try clear c1
     try clear p1
     try clear q1
     try clear hx1
     try clear c2
     try clear p2
     try clear c4
     try clear c5
     try clear p6
     try clear c7
     try clear c8
     try clear c10
     try clear c10b0
     try clear c11
     try clear c11b0
     try clear c12
     try clear c13
     try clear c14
     try clear c15
     try clear c17
     try clear p17
     try clear q17
     try clear hx17
     try clear c25
     try clear c26
     try clear hcz16_0
     try clear hcz16_1
     try clear hcz16_2
     try clear hcz16_3
     try clear hcz27_0
     try clear hcz27_1
     try clear hcz27_2
     try clear hcz27_3
     try clear hcz5_0
     try clear hcz5_1
     try clear hcz5_2
     try clear hcz5_3
     try clear hcz9_0
     try clear hcz9_1
     try clear hcz9_2
     try clear hcz9_3
     try clear hfz16_0
     try clear hfz16_1
     try clear hfz16_2
     try clear hfz16_3
     try clear hfz27_0
     try clear hfz27_1
     try clear hfz27_2
     try clear hfz27_3
     try clear hfz5_0
     try clear hfz5_1
     try clear hfz5_2
     try clear hfz5_3
     try clear hfz9_0
     try clear hfz9_1
     try clear hfz9_2
     try clear hfz9_3
     try clear hx175_0
     try clear p175
     try clear p2
     try clear q175
     obtain ⟨x5_2,x172001_2,u172001,rfl,HA,HK2,HO_172000,HO_172001,BK169,BK170,BK171,HB⟩:=hrel
     cases gk with
     | zero=>exact absurd HA.out (by simp [spec_l2Copy.l1])
     | succ k2 =>
      have H:=HA.out
      clear HA
      simp only [spec_l2Copy.l1] at H
      by_cases c28:x5_2 < (l0_1.length:Int)
      ·rw [if_pos c28] at H
       have c28b0:decide (x5_2 < (l0_1.length:Int)) = true:=decide_eq_true c28
       clear c28
       by_cases c29:0 ≤ x5_2
       ·rw [if_pos c29] at H
        have c29b0:decide (0 ≤ x5_2) = true:=decide_eq_true c29
        clear c29
        obtain ⟨y183,hy183⟩:∃ y_:List Int,y_ = (([]:List Int)):=⟨_,rfl⟩
        replace H:(if y183.length + ((rd_T50 l0_1 x5_2).f1).length < 140737488355328 then (if x172001_2.length < 4398046511104 then (spec_l2Copy.l1 k2 (wrap64 (x5_2 + 1)) l0_0 l0_1 a0_2 a0_3 x172000_1 (x172001_2 ++ [(⟨(rd_T50 l0_1 x5_2).f0,(y183 ++ ((rd_T50 l0_1 x5_2).f1))⟩:S50)]) a0_2 a0_3) else (none)) else (none)) = some (r1,r2,r3,r4):=by first|(rw [hy183];with_reducible exact H)|(have H2_:=(Option.bind_some _ _).symm.trans H;rw [hy183];with_reducible exact H2_)|(have H2_:=(Option.bind_some _ _).symm.trans H;with_reducible exact H2_)|with_reducible exact H|(rw [hy183];exact H)|exact H
        have Ny183:=aA.mk hy183
        clear hy183
        by_cases c30:y183.length + ((rd_T50 l0_1 x5_2).f1).length < 140737488355328
        ·rw [if_pos c30] at H
         have LMc30:=aA.mk c30
         clear c30
         obtain ⟨y187,hy187⟩:∃ y_:List Int,y_ = (y183 ++ ((rd_T50 l0_1 x5_2).f1)):=⟨_,rfl⟩
         replace H:(if x172001_2.length < 4398046511104 then (spec_l2Copy.l1 k2 (wrap64 (x5_2 + 1)) l0_0 l0_1 a0_2 a0_3 x172000_1 (x172001_2 ++ [(⟨(rd_T50 l0_1 x5_2).f0,y187⟩:S50)]) a0_2 a0_3) else (none)) = some (r1,r2,r3,r4):=by first|(rw [hy187];with_reducible exact H)|(have H2_:=(Option.bind_some _ _).symm.trans H;rw [hy187];with_reducible exact H2_)|(have H2_:=(Option.bind_some _ _).symm.trans H;with_reducible exact H2_)|with_reducible exact H|(rw [hy187];exact H)|exact H
         have Ny187:=aA.mk hy187
         clear hy187
         by_cases c31:x172001_2.length < 4398046511104
         ·rw [if_pos c31] at H
          have LMc31:=aA.mk c31
          clear c31
          obtain ⟨y190,hy190⟩:∃ y_:List (S50),y_ = (x172001_2 ++ [(⟨(rd_T50 l0_1 x5_2).f0,y187⟩:S50)]):=⟨_,rfl⟩
          replace H:(spec_l2Copy.l1 k2 (wrap64 (x5_2 + 1)) l0_0 l0_1 a0_2 a0_3 x172000_1 y190 a0_2 a0_3) = some (r1,r2,r3,r4):=by first|(rw [hy190];with_reducible exact H)|(have H2_:=(Option.bind_some _ _).symm.trans H;rw [hy190];with_reducible exact H2_)|(have H2_:=(Option.bind_some _ _).symm.trans H;with_reducible exact H2_)|with_reducible exact H|(rw [hy190];exact H)|exact H
          have Ny190:=aA.mk hy190
          clear hy190
          have H':=aA.mk H
          clear H
          have hnb32:=NB169_170.out
          have hnc32:=NB170_169.out
          have hnb33:=NB169_171.out
          have hnc33:=NB171_169.out
          obtain ⟨hcz34_0,hcz34_1,hcz34_2,hcz34_3⟩:=cs4 BK169.out
          obtain ⟨hfz34_0,hfz34_1,hfz34_2,hfz34_3⟩:=fs4 BK169.out
          try go_wp2
          replace HO_172000:=aA.mk (Kd.S_drew HO_172000.out)
          replace HO_172001:=aA.mk (Kd.S_drew HO_172001.out)
          replace BK169:=aA.mk (aN BK169.out)
          replace BK170:=aA.mk (aN BK170.out)
          replace BK171:=aA.mk (aN BK171.out)
          replace HB:=aA.mk (aH HB.out)
          have p182:0 ≤ (x5_2:Int):=lE tx
          have q182:x5_2 < (l0_1.length:Int):=lE tx
          obtain ⟨ad182,A182_1,c182_1,e182,hx182_0,hx182_1,hl182_1,hi182_1⟩:=at_T50 HR0_1.out x5_2 p182 q182
          have hw182_1:=hx182_1
          have hw182_0:=hx182_0
          cases e182
          replace hx182_0:=(HB.out.cell (lD w _ hx182_0)).trans hx182_0
          replace hx182_1:=(HB.out.cell (lD w _ hx182_1)).trans hx182_1
          have HR182_1:=aA.mk hi182_1
          have HC182_1:=aA.mk hl182_1
          clear hi182_1 hl182_1
          replace p182:=eq_true p182
          replace q182:=eq_true q182
          have p186:0 ≤ (x5_2:Int):=lE tx
          have q186:x5_2 < (l0_1.length:Int):=lE tx
          obtain ⟨ad186,A186_1,c186_1,e186,hx186_0,hx186_1,hl186_1,hi186_1⟩:=at_T50 HR0_1.out x5_2 p186 q186
          have hw186_1:=hx186_1
          have hw186_0:=hx186_0
          obtain rfl:ad182 = ad186:=(by injection e186)
          replace hx186_0:=(HB.out.cell (lD w _ hx186_0)).trans hx186_0
          replace hx186_1:=(HB.out.cell (lD w _ hx186_1)).trans hx186_1
          have HR186_1:=aA.mk hi186_1
          have HC186_1:=aA.mk hl186_1
          clear hi186_1 hl186_1
          replace p186:=eq_true p186
          replace q186:=eq_true q186
          have ea_:=Option.some.inj (hx182_1.symm.trans hx186_1)
          injection ea_ with ea_ en_ ec_
          subst ea_
          subst ec_
          clear en_
          refine start_ (n:=21) (S:=fun w'=>w'.cell? ⟨gb171,0,none⟩ = some (u172000) ∧ w'.cell? ⟨gb171,1,none⟩ = some (u172001) ∧ w'.cell? ⟨gb171,2,none⟩ = some (.int .i64 a0_2) ∧ w'.cell? ⟨gb171,3,none⟩ = some (.bool a0_3) ∧ w'.cell? ⟨gb169,0,none⟩ = some (.slice A0_0 l0_0.length c0_0) ∧ w'.cell? ⟨gb169,1,none⟩ = some (.slice (some ad182) l0_1.length c0_1) ∧ w'.cell? ⟨gb169,2,none⟩ = some (.int .i64 a0_2) ∧ w'.cell? ⟨gb169,3,none⟩ = some (.bool a0_3) ∧ w'.cell? (ad182.add ((x5_2).toNat * 2)) = some (.int .i64 ((rd_T50 l0_1 x5_2).f0)) ∧ w'.cell? ⟨(ad182.add ((x5_2).toNat * 2)).block,(ad182.add ((x5_2).toNat * 2)).off + 1,none⟩ = some (.slice A182_1 ((rd_T50 l0_1 x5_2).f1).length c182_1) ∧ w'.cell? (ad182.add ((x5_2).toNat * 2)) = some (.int .i64 ((rd_T50 l0_1 x5_2).f0)) ∧ w'.cell? ⟨(ad182.add ((x5_2).toNat * 2)).block,(ad182.add ((x5_2).toNat * 2)).off + 1,none⟩ = some (.slice A182_1 ((rd_T50 l0_1 x5_2).f1).length c182_1)) (ds:=[20]) #[F0,F0,F0,F0,F0,F0,F0,F0,F0,F0,F0,F0,F0,F0,F0,F0,F0,F0,F0,F0,F0] tG rfl rfl ⟨(aD BK171.out 0).trans rfl,(aD BK171.out 1).trans rfl,(aD BK171.out 2).trans rfl,(aD BK171.out 3).trans rfl,(aD BK169.out 0).trans rfl,(aD BK169.out 1).trans rfl,(aD BK169.out 2).trans rfl,(aD BK169.out 3).trans rfl,((HB.out.cell (lD w _ hw182_0)).trans hw182_0),((HB.out.cell (lD w _ hw182_1)).trans hw182_1),((HB.out.cell (lD w _ hw186_0)).trans hw186_0),((HB.out.cell (lD w _ hw186_1)).trans hw186_1)⟩ (fun hHeld=>?_);refine with_tabW spec_l2Copy.tab9 spec_l2Copy.bits9 (fun HT_ HW_=>?_)
          generalize wr.drew = w35 at HO_172000 HO_172001 BK169 BK170 BK171 HB HR182_1 HR186_1 hx182_0 hx182_1 hx186_0 hx186_1 hHeld ⊢
          refine bT (i:=0) (N:=some 37) (v:=?_) (a':=?_) #[T1,F0,F0,F0,F0,F0,F0,F0,F0,F0,F0,F0,F0,F0,F0,F0,F0,F0,F0,F0,F0] rfl rfl (any_of HT_.out tG) (fun _ _ _ h=>h) (Or.inl ⟨vr,?_⟩) ?_ ?_
          rotate_left
          ·intro w'
           go_simp
           with_reducible rfl
          rotate_left
          ·simp only [Act.put,lA,lB,lC,bE,bG]
           rfl
          refine bT (i:=2) (N:=some 39) (v:=?_) (a':=?_) #[T1,F0,T1,F0,F0,F0,F0,F0,F0,F0,F0,F0,F0,F0,F0,F0,F0,F0,F0,F0,F0] rfl rfl (any_of HT_.out tG) (fun _ _ _ h=>h) (Or.inl ⟨vr,?_⟩) ?_ ?_
          rotate_left
          ·intro w'
           go_simp
           with_reducible rfl
          rotate_left
          ·simp only [Act.put,lA,lB,lC,bE,bG]
           rfl
          refine bT (i:=4) (N:=some 41) (v:=?_) (a':=?_) #[T1,F0,T1,F0,T1,F0,F0,F0,F0,F0,F0,F0,F0,F0,F0,F0,F0,F0,F0,F0,F0] rfl rfl (any_of HT_.out tG) (fun _ _ _ h=>h) (Or.inl ⟨vr,?_⟩) ?_ ?_
          rotate_left
          ·intro w'
           go_simp
           with_reducible rfl
          rotate_left
          ·simp only [Act.put,lA,lB,lC,bE,bG]
           rfl
          refine bT (i:=9) (N:=some 46) (v:=?_) (a':=?_) #[T1,F0,T1,F0,T1,F0,F0,F0,F0,T1,F0,F0,F0,F0,F0,F0,F0,F0,F0,F0,F0] rfl rfl (any_of HT_.out tG) (fun _ _ _ h=>h) (Or.inl ⟨vr,?_⟩) ?_ ?_
          rotate_left
          ·intro w'
           go_simp
           with_reducible rfl
          rotate_left
          ·simp only [Act.put,lA,lB,lC,bE,bG]
           rfl
          refine bT (i:=11) (N:=some 48) (v:=?_) (a':=?_) #[T1,F0,T1,F0,T1,F0,F0,F0,F0,T1,F0,T1,F0,F0,F0,F0,F0,F0,F0,F0,F0] rfl rfl (any_of HT_.out tG) (fun _ _ _ h=>h) (Or.inl ⟨vr,?_⟩) ?_ ?_
          rotate_left
          ·intro w'
           go_simp
           with_reducible rfl
          rotate_left
          ·simp only [Act.put,lA,lB,lC,bE,bG]
           rfl
          refine take_ (i:=1) (N:=some 38) (v:=?_) (a':=?_) #[T1,T1,T1,F0,T1,F0,F0,F0,F0,T1,F0,T1,F0,F0,F0,F0,F0,F0,F0,F0,F0] rfl rfl (take_ofW HT_.out HW_.out tG) (fun _ _ _ h=>h) (Or.inl ⟨vr,?_⟩) hHeld ?_ ?_
          rotate_left
          ·rintro w' ⟨s0,s1,s2,s3,s4,s5,s6,s7,s8,s9,s10,s11⟩
           go_simp
           with_reducible rfl
          rotate_left
          ·simp only [Act.put,lA,lB,lC,bE,bG]
           rfl
          refine take_ (i:=3) (N:=some 40) (v:=?_) (a':=?_) #[T1,T1,T1,T1,T1,F0,F0,F0,F0,T1,F0,T1,F0,F0,F0,F0,F0,F0,F0,F0,F0] rfl rfl (take_ofW HT_.out HW_.out tG) (fun _ _ _ h=>h) (Or.inl ⟨vr,?_⟩) hHeld ?_ ?_
          rotate_left
          ·rintro w' ⟨s0,s1,s2,s3,s4,s5,s6,s7,s8,s9,s10,s11⟩
           go_simp
           with_reducible rfl
          rotate_left
          ·simp only [Act.put,lA,lB,lC,bE,bG]
           rfl
          refine bT (i:=5) (N:=some 42) (v:=?_) (a':=?_) #[T1,T1,T1,T1,T1,T1,F0,F0,F0,T1,F0,T1,F0,F0,F0,F0,F0,F0,F0,F0,F0] rfl rfl (any_of HT_.out tG) (fun _ _ _ h=>h) (Or.inl ⟨vr,?_⟩) ?_ ?_
          rotate_left
          ·intro w'
           go_simp
           with_reducible rfl
          rotate_left
          ·simp only [Act.put,lA,lB,lC,bE,bG]
           rfl
          refine bT (i:=6) (N:=some 43) (v:=?_) (a':=?_) #[T1,T1,T1,T1,T1,T1,T1,F0,F0,T1,F0,T1,F0,F0,F0,F0,F0,F0,F0,F0,F0] rfl rfl (any_of HT_.out tG) (fun _ _ _ h=>h) (Or.inl ⟨vr,?_⟩) ?_ ?_
          rotate_left
          ·intro w'
           go_simp
           with_reducible rfl
          rotate_left
          ·simp only [Act.put,lA,lB,lC,bE,bG]
           rfl
          refine take_ (i:=7) (N:=some 44) (v:=?_) (a':=?_) #[T1,T1,T1,T1,T1,T1,T1,T1,F0,T1,F0,T1,F0,F0,F0,F0,F0,F0,F0,F0,F0] rfl rfl (take_ofW HT_.out HW_.out tG) (fun _ _ _ h=>h) (Or.inl ⟨vr,?_⟩) hHeld ?_ ?_
          rotate_left
          ·rintro w' ⟨s0,s1,s2,s3,s4,s5,s6,s7,s8,s9,s10,s11⟩
           go_simp
           with_reducible rfl
          rotate_left
          ·simp only [Act.put,lA,lB,lC,bE,bG]
           rfl
          refine take_ (i:=10) (N:=some 47) (v:=?_) (a':=?_) #[T1,T1,T1,T1,T1,T1,T1,T1,F0,T1,T1,T1,F0,F0,F0,F0,F0,F0,F0,F0,F0] rfl rfl (take_ofW HT_.out HW_.out tG) (fun _ _ _ h=>h) (Or.inl ⟨vr,?_⟩) hHeld ?_ ?_
          rotate_left
          ·rintro w' ⟨s0,s1,s2,s3,s4,s5,s6,s7,s8,s9,s10,s11⟩
           go_simp
           with_reducible rfl
          rotate_left
          ·simp only [Act.put,lA,lB,lC,bE,bG]
           rfl
          refine bT (i:=12) (N:=some 49) (v:=?_) (a':=?_) #[T1,T1,T1,T1,T1,T1,T1,T1,F0,T1,T1,T1,T1,F0,F0,F0,F0,F0,F0,F0,F0] rfl rfl (any_of HT_.out tG) (fun _ _ _ h=>h) (Or.inl ⟨vr,?_⟩) ?_ ?_
          rotate_left
          ·intro w'
           go_simp
           with_reducible rfl
          rotate_left
          ·simp only [Act.put,lA,lB,lC,bE,bG]
           rfl
          refine bT (i:=13) (N:=some 50) (v:=?_) (a':=?_) #[T1,T1,T1,T1,T1,T1,T1,T1,F0,T1,T1,T1,T1,T1,F0,F0,F0,F0,F0,F0,F0] rfl rfl (any_of HT_.out tG) (fun _ _ _ h=>h) (Or.inl ⟨vr,?_⟩) ?_ ?_
          rotate_left
          ·intro w'
           go_simp
           with_reducible rfl
          rotate_left
          ·simp only [Act.put,lA,lB,lC,bE,bG]
           rfl
          refine take_ (i:=14) (N:=some 51) (v:=?_) (a':=?_) #[T1,T1,T1,T1,T1,T1,T1,T1,F0,T1,T1,T1,T1,T1,T1,F0,F0,F0,F0,F0,F0] rfl rfl (take_ofW HT_.out HW_.out tG) (fun _ _ _ h=>h) (Or.inl ⟨vr,?_⟩) hHeld ?_ ?_
          rotate_left
          ·rintro w' ⟨s0,s1,s2,s3,s4,s5,s6,s7,s8,s9,s10,s11⟩
           go_simp
           with_reducible rfl
          rotate_left
          ·simp only [Act.put,lA,lB,lC,bE,bG]
           rfl
          refine one_ (i:=8) (N:=some 45) #[T1,T1,T1,T1,T1,T1,T1,T1,T1,T1,T1,T1,T1,T1,T1,F0,F0,F0,F0,F0,F0] rfl rfl (one_of HT_.out tG) tf (fun K hK=>?_)
          refine Kd.R_lit_step (Kd.int .u8) _ 5 ?hg (N:=45) ?hd (xs:=([]:List Int)) (inner:=[]) (ok:=fun _=>True) (okp:=fun _=>True) ?hr ?hp (fun _ hk=>hk) trivial (Below.refl _ _) (Nat.le_refl _) vN ?_;(case hd=>rfl);(case hg=>rfl);(case hr=>exact tE);(case hp=>exact (Reps.none _ _))
          intro v184 w36 ho37 hb hg_ hnew_
          clear hg_ hnew_
          (first|rw [← Ny183.out] at ho37|(simp only [Int.reduceToNat] at ho37;rw [← Ny183.out] at ho37))
          replace HO_172000:=aA.mk (Kd.S_elder' HO_172000.out (Kd.R_base ho37) hb)
          replace HO_172001:=aA.mk (Kd.S_elder' HO_172001.out (Kd.R_base ho37) hb)
          have HO185:=aA.mk (Kd.R_lower ho37 (aX HB.out))
          replace BK169:=aA.mk (bM (g:=gb169) (o:=.cells #[.slice A0_0 l0_0.length c0_0,.slice (some ad182) l0_1.length c0_1,.int .i64 a0_2,.bool a0_3] 25 (0,0)) BK169.out hb)
          replace BK170:=aA.mk (bM (g:=gb170) (o:=.cells #[.slice none 0 0,.slice none 0 0,.int .i64 0,.bool false] 25 (0,0)) BK170.out hb)
          replace BK171:=aA.mk (bM (g:=gb171) (o:=.cells #[u172000,u172001,.int .i64 a0_2,.bool a0_3] 25 (0,0)) BK171.out hb)
          replace HB:=aA.mk (aT HB.out hb)
          clear hb ho37
          refine hK.out _ _ ⟨(aD BK171.out 0).trans rfl,(aD BK171.out 1).trans rfl,(aD BK171.out 2).trans rfl,(aD BK171.out 3).trans rfl,(aD BK169.out 0).trans rfl,(aD BK169.out 1).trans rfl,(aD BK169.out 2).trans rfl,(aD BK169.out 3).trans rfl,((HB.out.cell (lD w _ hw182_0)).trans hw182_0),((HB.out.cell (lD w _ hw182_1)).trans hw182_1),((HB.out.cell (lD w _ hw186_0)).trans hw186_0),((HB.out.cell (lD w _ hw186_1)).trans hw186_1)⟩ (fun hHeld=>?_)
          clear hK K
          refine norm_ (a':=?_) ?_ ?_
          rotate_left
          ·show Act.put _ (some 45) _ = _
           simp only [Act.put,lA,lB,lC,bE,bG]
           rfl
          refine one_ (i:=15) (N:=some 52) #[T1,T1,T1,T1,T1,T1,T1,T1,T1,T1,T1,T1,T1,T1,T1,T1,F0,F0,F0,F0,F0] rfl rfl (one_of HT_.out tG) tf (fun K hK=>?_)
          refine Kd.R_append_rows_step (Kd.int .u8) (w0:=w) w.heap.size wN (.tmp 45) (.tmp 51) 37 5 (.int .u8 0) 1 rfl Try.underlying37 info5 rfl tf tZ v184 y183 ((rd_T50 l0_1 x5_2).f1) _ _ _ (fun _=>True) (fun _=>False) rfl rfl ?aO ?aR (fun _ _ h=>h) (fun _ h=>h.elim) ?aF ?aB ?aS ?aL ?_
          (case aR=>exact (Kd.C_below HR186_1.out HB.out))
          (case aB=>exact HB.out)
          (case aF=>exact (fun _ _=>trivial))
          (case aO=>exact HO185.out)
          (case aS=>exact (aX HB.out))
          (case aL=>have:=LMc30.out;omega)
          intro v188 w38 ho hb hg hat
          rw [← Ny187.out] at ho
          replace HO_172000:=aA.mk (Kd.S_after (ok:=(fun _=>True)) HO_172000.out hg hat)
          replace HO_172001:=aA.mk (Kd.S_after (ok:=(fun _=>True)) HO_172001.out hg hat)
          replace BK169:=aA.mk (blk_grown (g:=gb169) (o:=.cells #[.slice A0_0 l0_0.length c0_0,.slice (some ad182) l0_1.length c0_1,.int .i64 a0_2,.bool a0_3] 25 (0,0)) BK169.out hg (Kd.R_ne HO185.out BK169.out tf))
          replace BK170:=aA.mk (blk_grown (g:=gb170) (o:=.cells #[.slice none 0 0,.slice none 0 0,.int .i64 0,.bool false] 25 (0,0)) BK170.out hg (Kd.R_ne HO185.out BK170.out tf))
          replace BK171:=aA.mk (blk_grown (g:=gb171) (o:=.cells #[u172000,u172001,.int .i64 a0_2,.bool a0_3] 25 (0,0)) BK171.out hg (Kd.R_ne HO185.out BK171.out tf))
          replace HB:=aA.mk (hb)
          have HO189:=aA.mk (ho)
          clear HO185
          clear ho hb hg hat
          obtain ⟨Ao39,co39,eo39⟩:=Kd.R_slice HO189.out
          (first|subst eo39|(injection eo39 with f1_ f2_ f3_;have f4_:=f1_.symm;have f5_:=f3_.symm;clear f1_ f2_ f3_;subst f4_;subst f5_))
          refine hK.out _ _ ⟨(aD BK171.out 0).trans rfl,(aD BK171.out 1).trans rfl,(aD BK171.out 2).trans rfl,(aD BK171.out 3).trans rfl,(aD BK169.out 0).trans rfl,(aD BK169.out 1).trans rfl,(aD BK169.out 2).trans rfl,(aD BK169.out 3).trans rfl,((HB.out.cell (lD w _ hw182_0)).trans hw182_0),((HB.out.cell (lD w _ hw182_1)).trans hw182_1),((HB.out.cell (lD w _ hw186_0)).trans hw186_0),((HB.out.cell (lD w _ hw186_1)).trans hw186_1)⟩ (fun hHeld=>?_)
          clear hK K
          refine norm_ (a':=?_) ?_ ?_
          rotate_left
          ·show Act.put _ (some 52) _ = _
           simp only [Act.put,lA,lB,lC,bE,bG]
           rfl
          refine bT (i:=16) (N:=some 53) (v:=?_) (a':=?_) #[T1,T1,T1,T1,T1,T1,T1,T1,T1,T1,T1,T1,T1,T1,T1,T1,T1,F0,F0,F0,F0] rfl rfl (any_of HT_.out tG) (fun _ _ _ h=>h) (Or.inl ⟨vr,?_⟩) ?_ ?_
          rotate_left
          ·intro w'
           go_simp
           with_reducible rfl
          rotate_left
          ·simp only [Act.put,lA,lB,lC,bE,bG]
           rfl
          refine one_ (i:=17) (N:=some 54) #[T1,T1,T1,T1,T1,T1,T1,T1,T1,T1,T1,T1,T1,T1,T1,T1,T1,T1,F0,F0,F0] rfl rfl (one_of HT_.out tG) tf (fun K hK=>?_)
          refine value_ (w1:=?_) (v:=?_) wN rfl ?_ ?_
          rotate_left 2
          ·go_simp
           constructor
           ·rfl
           ·rfl
          refine hK.out _ _ ⟨(aD (aG BK171.out _) 0).trans rfl,(aD (aG BK171.out _) 1).trans rfl,(aD (aG BK171.out _) 2).trans rfl,(aD (aG BK171.out _) 3).trans rfl,(aD (aG BK169.out _) 0).trans rfl,(aD (aG BK169.out _) 1).trans rfl,(aD (aG BK169.out _) 2).trans rfl,(aD (aG BK169.out _) 3).trans rfl,(World.cell?_alloc_lt _ _ _ (lD _ _ (((HB.out.cell (lD w _ hw182_0)).trans hw182_0)))).trans (((HB.out.cell (lD w _ hw182_0)).trans hw182_0)),(World.cell?_alloc_lt _ _ _ (lD _ _ (((HB.out.cell (lD w _ hw182_1)).trans hw182_1)))).trans (((HB.out.cell (lD w _ hw182_1)).trans hw182_1)),(World.cell?_alloc_lt _ _ _ (lD _ _ (((HB.out.cell (lD w _ hw186_0)).trans hw186_0)))).trans (((HB.out.cell (lD w _ hw186_0)).trans hw186_0)),(World.cell?_alloc_lt _ _ _ (lD _ _ (((HB.out.cell (lD w _ hw186_1)).trans hw186_1)))).trans (((HB.out.cell (lD w _ hw186_1)).trans hw186_1))⟩ (fun hHeld=>?_)
          clear hK K
          refine norm_ (a':=?_) ?_ ?_
          rotate_left
          ·show Act.put _ (some 54) _ = _
           simp only [Act.put,lA,lB,lC,bE,bG]
           rfl
          refine one_ (i:=18) (N:=some 55) #[T1,T1,T1,T1,T1,T1,T1,T1,T1,T1,T1,T1,T1,T1,T1,T1,T1,T1,T1,F0,F0] rfl rfl (one_of HT_.out tG) tf (fun K hK=>?_)
          refine Kd.S_append_step k50 (w0:=w) w.heap.size wN (.tmp 38) (.tmp 54) 23 50 (.agg #[(.int .i64 0),(.slice none 0 0)]) 32 rfl Try.underlying23 info50 rfl tf tZ u172001 x172001_2 (⟨(rd_T50 l0_1 x5_2).f0,y187⟩:S50) [.int .i64 ((rd_T50 l0_1 x5_2).f0),.slice Ao39 y187.length co39] (fun _=>True) (fun k_=>some k_ = (.slice Ao39 y187.length co39:Value).ownBlock) rfl rfl ?aP (fun k_ hk_=>((Kd.R_mono (ok':=fun k_=>((fun _=>True)) k_ ∧ some k_ ≠ (u172001:Value).ownBlock) (Kd.R_apart' (HO189.out) (Kd.S_typed HO_172001.out) tf) (fun k_ hk=>⟨trivial,hk.2⟩))).1 k_ hk_.symm) ?aF ?aO ?aB ?aS ?aL ?_
          (case aP=>exact k50_mkM _ _ _ (⟨(rd_T50 l0_1 x5_2).f0,y187⟩:S50) (Kd.R_mono (Kd.R_tight rfl (Kd.R_mono (ok':=fun k_=>((fun _=>True)) k_ ∧ some k_ ≠ (u172001:Value).ownBlock) (Kd.R_apart' (HO189.out) (Kd.S_typed HO_172001.out) tf) (fun k_ hk=>⟨trivial,hk.2⟩))) (fun _ h_=>h_)))
          (case aB=>exact HB.out)
          (case aF=>exact (fun _ _=>trivial))
          (case aO=>exact (by (with_reducible repeat (first|apply Kd.S_alloc|apply Kd.S_drewN|apply Kd.S_drew));exact Kd.bU HO_172001.out (fun k_ hk=>⟨trivial,fun e_=>hk.2 e_⟩)))
          (case aS=>exact (aX HB.out))
          (case aL=>have:=LMc31.out;omega)
          intro v191 w40 ho hb hg hat
          rw [← Ny190.out] at ho
          replace HO_172000:=aA.mk (Kd.S_over' HO_172000.out (Kd.S_typed HO_172001.out) tf hg)
          replace BK169:=aA.mk (blk_grown (g:=gb169) (o:=.cells #[.slice A0_0 l0_0.length c0_0,.slice (some ad182) l0_1.length c0_1,.int .i64 a0_2,.bool a0_3] 25 (0,0)) BK169.out hg (Kd.S_ne HO_172001.out BK169.out tf))
          replace BK170:=aA.mk (blk_grown (g:=gb170) (o:=.cells #[.slice none 0 0,.slice none 0 0,.int .i64 0,.bool false] 25 (0,0)) BK170.out hg (Kd.S_ne HO_172001.out BK170.out tf))
          replace BK171:=aA.mk (blk_grown (g:=gb171) (o:=.cells #[u172000,u172001,.int .i64 a0_2,.bool a0_3] 25 (0,0)) BK171.out hg (Kd.S_ne HO_172001.out BK171.out tf))
          replace HB:=aA.mk (hb)
          have HO192:=aA.mk (ho)
          clear HO_172001
          clear HO189
          clear ho hb hg hat
          obtain ⟨Ao41,co41,eo41⟩:=Kd.S_slice HO192.out
          (first|subst eo41|(injection eo41 with f1_ f2_ f3_;have f4_:=f1_.symm;have f5_:=f3_.symm;clear f1_ f2_ f3_;subst f4_;subst f5_))
          refine hK.out _ _ ⟨(aD BK171.out 0).trans rfl,(aD BK171.out 1).trans rfl,(aD BK171.out 2).trans rfl,(aD BK171.out 3).trans rfl,(aD BK169.out 0).trans rfl,(aD BK169.out 1).trans rfl,(aD BK169.out 2).trans rfl,(aD BK169.out 3).trans rfl,((HB.out.cell (lD w _ hw182_0)).trans hw182_0),((HB.out.cell (lD w _ hw182_1)).trans hw182_1),((HB.out.cell (lD w _ hw186_0)).trans hw186_0),((HB.out.cell (lD w _ hw186_1)).trans hw186_1)⟩ (fun hHeld=>?_)
          clear hK K
          refine norm_ (a':=?_) ?_ ?_
          rotate_left
          ·show Act.put _ (some 55) _ = _
           simp only [Act.put,lA,lB,lC,bE,bG]
           rfl
          refine bT (i:=19) (N:=some 56) (v:=?_) (a':=?_) #[T1,T1,T1,T1,T1,T1,T1,T1,T1,T1,T1,T1,T1,T1,T1,T1,T1,T1,T1,T1,F0] rfl rfl (any_of HT_.out tG) (fun _ _ _ h=>h) (Or.inl ⟨vr,?_⟩) ?_ ?_
          rotate_left
          ·intro w'
           go_simp
           with_reducible rfl
          rotate_left
          ·simp only [Act.put,lA,lB,lC,bE,bG]
           rfl
          refine last_ (i:=20) (N:=none) #[T1,T1,T1,T1,T1,T1,T1,T1,T1,T1,T1,T1,T1,T1,T1,T1,T1,T1,T1,T1,T1] rfl rfl (one_of HT_.out tG) tf (fun K hK=>?_)
          have hs42:w40.cell? ⟨gb171,1,none⟩ = some (u172001):=(aD BK171.out 1).trans rfl
          have hfs42:=cD BK171.out 1
          have hns42_0:=NB169_171.out
          have hns42_1:=NB170_171.out
          have hms42_0:=NB171_169.out
          have hms42_1:=NB171_170.out
          refine skip_ (w1:=?_) wN rfl ?_ ?_
          rotate_left
          ·go_simp
           rfl
          refine hK.out _ _ ?_
          clear hK K
          refine done_ (done_of HT_.out tG) ?_
          try go_wp2
          go_roundg k2
          case measure=>have:=HK1.out;have:=HK2.out;omega
          case rel=>exact ⟨(wrap64 (x5_2 + 1)),(y190),(.slice Ao41 y190.length co41),td,H',⟨by have:=HK1.out;have:=HK2.out;omega⟩,⟨by (with_reducible repeat (first|apply Kd.S_alloc|apply Kd.S_drewN|apply Kd.S_drew));exact Kd.bU (Kd.S_far (p:=⟨gb171,1,none⟩) (Kd.S_types HO_172000.out BK171.out tf) (fun _ hk=>hk.2) (.slice Ao41 y190.length co41)) (fun _ hk=>trivial)⟩,⟨by (with_reducible repeat (first|apply Kd.S_alloc|apply Kd.S_drewN|apply Kd.S_drew));exact Kd.bU (Kd.S_far (p:=⟨gb171,1,none⟩) (Kd.S_types HO192.out BK171.out tf) (fun _ hk=>hk.2) (.slice Ao41 y190.length co41)) (fun _ hk=>trivial)⟩,⟨AT⟩,⟨AR⟩,⟨by (with_reducible repeat (first|refine aM ?_ _|refine aN ?_|refine aG ?_ _));refine aQ (cs:=#[u172000,u172001,.int .i64 a0_2,.bool a0_3]) ?_ 1 _ rfl;(with_reducible repeat (first|refine aM ?_ _|refine aN ?_|refine aG ?_ _));exact BK171.out⟩,⟨vm⟩⟩
         ·rw [if_neg c31] at H
          exact wX
        ·rw [if_neg c30] at H
         exact wX
       ·rw [if_neg c29] at H
        exact wX
      ·rw [if_neg c28] at H
       have c28b0:decide (x5_2 < (l0_1.length:Int)) = false:=decide_eq_false c28
       clear c28
       simp only [Option.some.injEq,Prod.mk.injEq] at H
       obtain ⟨rfl,rfl,rfl,rfl⟩:=H
       have hnb43:=NB169_170.out
       have hnc43:=NB170_169.out
       have hnb44:=NB169_171.out
       have hnc44:=NB171_169.out
       obtain ⟨hcz45_0,hcz45_1,hcz45_2,hcz45_3⟩:=cs4 BK169.out
       obtain ⟨hfz45_0,hfz45_1,hfz45_2,hfz45_3⟩:=fs4 BK169.out
       have hnb46:=NB171_170.out
       have hnc46:=NB170_171.out
       obtain ⟨hcz47_0,hcz47_1,hcz47_2,hcz47_3⟩:=cs4 BK171.out
       obtain ⟨hfz47_0,hfz47_1,hfz47_2,hfz47_3⟩:=fs4 BK171.out
       obtain ⟨Ao48,co48,eo48⟩:=Kd.S_slice HO_172000.out
       subst eo48
       obtain ⟨hcz49_0,hcz49_1,hcz49_2,hcz49_3⟩:=cs4 BK170.out
       obtain ⟨hfz49_0,hfz49_1,hfz49_2,hfz49_3⟩:=fs4 BK170.out
       obtain ⟨Ao50,co50,eo50⟩:=Kd.S_slice HO_172001.out
       subst eo50
       go_wp2
       refine bodyPost_ret (results_cell_row rfl _ _ gb170 25 #[.slice Ao48 x172000_1.length co48,.slice Ao50 x172001_2.length co50,.int .i64 a0_2,.bool a0_3] (0,0) _ rfl (by (with_reducible repeat (first|refine aM ?_ _|refine aN ?_|refine aG ?_ _));refine aQ (cs:=#[.slice Ao48 x172000_1.length co48,.slice Ao50 x172001_2.length co50,.int .i64 a0_2,.bool false]) ?_ 3 _ rfl;(with_reducible repeat (first|refine aM ?_ _|refine aN ?_|refine aG ?_ _));refine aQ (cs:=#[.slice Ao48 x172000_1.length co48,.slice Ao50 x172001_2.length co50,.int .i64 0,.bool false]) ?_ 2 _ rfl;(with_reducible repeat (first|refine aM ?_ _|refine aN ?_|refine aG ?_ _));refine aQ (cs:=#[.slice Ao48 x172000_1.length co48,.slice none 0 0,.int .i64 0,.bool false]) ?_ 1 _ rfl;(with_reducible repeat (first|refine aM ?_ _|refine aN ?_|refine aG ?_ _));refine aQ (cs:=#[.slice none 0 0,.slice none 0 0,.int .i64 0,.bool false]) ?_ 0 _ rfl;(with_reducible repeat (first|refine aM ?_ _|refine aN ?_|refine aG ?_ _));exact BK170.out) Try.underlying25 rfl tG) rfl ?_
       exact ⟨_,_,tN,by (with_reducible repeat (first|apply Kd.S_alloc|apply Kd.S_drewN|apply Kd.S_drew));exact Kd.bU (Kd.S_far (p:=⟨gb170,3,none⟩) (Kd.S_far (p:=⟨gb170,2,none⟩) (Kd.S_far (p:=⟨gb170,1,none⟩) (Kd.S_far (p:=⟨gb170,0,none⟩) (Kd.S_types HO_172000.out BK170.out tf) (fun _ hk=>hk.2) (.slice Ao48 x172000_1.length co48)) (fun _ hk=>hk.2) (.slice Ao50 x172001_2.length co50)) (fun _ hk=>hk.2) (.int .i64 a0_2)) (fun _ hk=>hk.2) (.bool a0_3)) (fun _ hk=>trivial),by (with_reducible repeat (first|apply Kd.S_alloc|apply Kd.S_drewN|apply Kd.S_drew));exact Kd.bU (Kd.S_far (p:=⟨gb170,3,none⟩) (Kd.S_far (p:=⟨gb170,2,none⟩) (Kd.S_far (p:=⟨gb170,1,none⟩) (Kd.S_far (p:=⟨gb170,0,none⟩) (Kd.S_types HO_172001.out BK170.out tf) (fun _ hk=>hk.2) (.slice Ao48 x172000_1.length co48)) (fun _ hk=>hk.2) (.slice Ao50 x172001_2.length co50)) (fun _ hk=>hk.2) (.int .i64 a0_2)) (fun _ hk=>hk.2) (.bool a0_3)) (fun _ hk=>trivial),vm⟩
end Go.Proofs.Ytilhcaofpfeioaa.PFnDevsBent

namespace Go.Proofs.Ytilhcaofpfeioaa.PFnDevsBent
open Go.RowKit Go.Proofs.YtilhcaofpfeioaaW.PrintWords Go.Proofs.YtilhcaofpfeioaaW.PrintLast Go.Proofs.YtilhcaofpfeioaaW.PrintMore
attribute [local go_sem] max2_int min2_int max_two min_two max_three min_three max_four min_four   -- for this text's walks alone
set_option linter.unusedVariables false
set_option linter.unusedSimpArgs false
/-- A state of type 25 at block g of W; what its slices lead to came in by w0. -/
def IsS25 (w0 W:World) (g:Nat) (f0:List (List Int)) (f1:List (S50)) (f2:Int) (f3:Bool):Prop:=∃ A0 c0,∃ A1 c1,W.heap[g]? = some (.cells #[.slice A0 f0.length c0,.slice A1 f1.length c1,.int .i64 f2,.bool f3] 25 (0,0)) ∧ w0.heap.size ≤ g ∧ Kd.C (Kd.slice 5 (Kd.int .u8)) w0 A0 f0.length f0 ∧ Kd.C k50 w0 A1 f1.length f1
theorem IsS25.grown {w0 W:World} {g:Nat} {f0:List (List Int)} {f1:List (S50)} {f2:Int} {f3:Bool} {W1:World} {row:Option Nat} (h:IsS25 w0 W g f0 f1 f2 f3) (hw:W.grownBy W1 row) (hne:some g ≠ row):IsS25 w0 W1 g f0 f1 f2 f3:=by
 obtain ⟨A0,c0,A1,c1,hb,hg,hr0,hr1⟩:=h
 exact ⟨A0,c0,A1,c1,blk_grown hb hw hne,hg,hr0,hr1⟩
theorem IsS25.own_neN {w0 W:World} {g:Nat} {f0:List (List Int)} {f1:List (S50)} {f2:Int} {f3:Bool} {α:Type} {d:Kd α} {e:Nat} {base:Nat} {ok:Nat → Prop} {v:Value} {xs:List α} (h:IsS25 w0 W g f0 f1 f2 f3) (ho:Kd.N d e W base ok v xs) (ht:e ≠ 25):some g ≠ v.ownBlock:=by
 obtain ⟨A0,c0,A1,c1,hb,hg,hr0,hr1⟩:=h
 exact Kd.N_ne ho hb ht
theorem IsS25.fresh {w0 W:World} {g:Nat} {f0:List (List Int)} {f1:List (S50)} {f2:Int} {f3:Bool} (h:IsS25 w0 W g f0 f1 f2 f3):∀ k,W.heap.size ≤ k → k ≠ g:=by
 obtain ⟨A0,c0,A1,c1,hb,hg,hr0,hr1⟩:=h
 exact Kd.freshB hb
theorem IsS25.kept {w0 W:World} {g:Nat} {f0:List (List Int)} {f1:List (S50)} {f2:Int} {f3:Bool} {W1:World} {S:Nat → Prop} (h:IsS25 w0 W g f0 f1 f2 f3) (hk:Kept W W1 S) (hne:¬ S g):IsS25 w0 W1 g f0 f1 f2 f3:=by
 obtain ⟨A0,c0,A1,c1,hb,hg,hr0,hr1⟩:=h
 exact ⟨A0,c0,A1,c1,aY hb hk hne,hg,hr0,hr1⟩
theorem IsS25.below {w0 W:World} {g:Nat} {f0:List (List Int)} {f1:List (S50)} {f2:Int} {f3:Bool} {W1:World} (h:IsS25 w0 W g f0 f1 f2 f3) (hw:Below W.heap.size W W1):IsS25 w0 W1 g f0 f1 f2 f3:=h.grown (grown_of_below hw none) vN
theorem IsS25.alloc {w0 W:World} {g:Nat} {f0:List (List Int)} {f1:List (S50)} {f2:Int} {f3:Bool} (h:IsS25 w0 W g f0 f1 f2 f3) (o:Obj):IsS25 w0 (W.alloc o) g f0 f1 f2 f3:=h.below (aJ (Below.refl _ _) o)
theorem IsS25.drewN {w0 W:World} {g:Nat} {f0:List (List Int)} {f1:List (S50)} {f2:Int} {f3:Bool} (h:IsS25 w0 W g f0 f1 f2 f3) (m:Nat):IsS25 w0 (W.drewN m) g f0 f1 f2 f3:=h
theorem IsS25.drew {w0 W:World} {g:Nat} {f0:List (List Int)} {f1:List (S50)} {f2:Int} {f3:Bool} (h:IsS25 w0 W g f0 f1 f2 f3):IsS25 w0 W.drew g f0 f1 f2 f3:=h
theorem IsS25.at_ {w0 W:World} {g:Nat} {f0:List (List Int)} {f1:List (S50)} {f2:Int} {f3:Bool} {w':World} {m:Nat} (hq:W.drewN m = w') (h:IsS25 w0 W g f0 f1 f2 f3):IsS25 w0 w' g f0 f1 f2 f3:=by subst hq;exact IsS25.drewN h m
theorem IsS25.apart {w0 W:World} {g:Nat} {f0:List (List Int)} {f1:List (S50)} {f2:Int} {f3:Bool} {α:Type} {d:Kd α} {e:Nat} {base:Nat} {ok:Nat → Prop} {v:Value} {xs:List α} (h:IsS25 w0 W g f0 f1 f2 f3) (ho:d.R e W base ok v xs) (ht:∀ q,q ∈ e :: d.E → q ≠ 25):d.R e W base (fun k=>ok k ∧ k ≠ g) v xs:=by
 obtain ⟨A0,c0,A1,c1,hb,hg,hr0,hr1⟩:=h
 exact Kd.R_types ho hb ht
theorem IsS25.own_ne {w0 W:World} {g:Nat} {f0:List (List Int)} {f1:List (S50)} {f2:Int} {f3:Bool} {α:Type} {d:Kd α} {e:Nat} {base:Nat} {ok:Nat → Prop} {v:Value} {xs:List α} (h:IsS25 w0 W g f0 f1 f2 f3) (ho:d.R e W base ok v xs) (ht:e ≠ 25):some g ≠ v.ownBlock:=by
 obtain ⟨A0,c0,A1,c1,hb,hg,hr0,hr1⟩:=h
 exact Kd.R_ne ho hb ht
theorem IsS25.lt {w0 W:World} {g:Nat} {f0:List (List Int)} {f1:List (S50)} {f2:Int} {f3:Bool} (h:IsS25 w0 W g f0 f1 f2 f3):g < W.heap.size:=by
 obtain ⟨A0,c0,A1,c1,hb,hg,hr0,hr1⟩:=h
 exact bJ hb
theorem IsS25.ge {w0 W:World} {g:Nat} {f0:List (List Int)} {f1:List (S50)} {f2:Int} {f3:Bool} (h:IsS25 w0 W g f0 f1 f2 f3):w0.heap.size ≤ g:=by
 obtain ⟨A0,c0,A1,c1,hb,hg,hr0,hr1⟩:=h
 exact hg
theorem IsS25.ne_blk {w0 W:World} {g:Nat} {f0:List (List Int)} {f1:List (S50)} {f2:Int} {f3:Bool} {a:Nat} {cs:Array Value} {t:TypeId} {fr:Nat × Nat} (h:IsS25 w0 W g f0 f1 f2 f3) (hb2:W.heap[a]? = some (.cells cs t fr)) (ht:t ≠ 25):g ≠ a:=by
 obtain ⟨A0,c0,A1,c1,hb,hg,hr0,hr1⟩:=h
 rintro rfl
 rw [hb] at hb2
 injection hb2 with hb2
 injection hb2 with _ ht2
 exact ht ht2.symm
theorem IsS25.far {w0 W:World} {g:Nat} {f0:List (List Int)} {f1:List (S50)} {f2:Int} {f3:Bool} {p:Addr} (h:IsS25 w0 W g f0 f1 f2 f3) (hne:g ≠ p.block) (u:Value):IsS25 w0 (W.setCell p u) g f0 f1 f2 f3:=by
 obtain ⟨A0,c0,A1,c1,hb,hg,hr0,hr1⟩:=h
 exact ⟨A0,c0,A1,c1,bY hb hne u,hg,hr0,hr1⟩
theorem IsS25.set_2 {w0 W:World} {g:Nat} {f0:List (List Int)} {f1:List (S50)} {f2:Int} {f3:Bool} (h:IsS25 w0 W g f0 f1 f2 f3) (x:Int):IsS25 w0 (W.setCell ⟨g,2,none⟩ (.int .i64 x)) g f0 f1 x f3:=by
 obtain ⟨A0,c0,A1,c1,hb,hg,hr0,hr1⟩:=h
 exact ⟨A0,c0,A1,c1,by simpa using blk_set hb 2 (.int .i64 x),hg,hr0,hr1⟩
theorem IsS25.new (w0 W:World) (A0:Option Addr) (c0:Nat) (A1:Option Addr) (c1:Nat) (f0:List (List Int)) (f1:List (S50)) (f2:Int) (f3:Bool) (hB:Below w0.heap.size w0 W) (hr0:Kd.C (Kd.slice 5 (Kd.int .u8)) w0 A0 f0.length f0) (hr1:Kd.C k50 w0 A1 f1.length f1):IsS25 w0 (W.alloc (.cells #[.slice A0 f0.length c0,.slice A1 f1.length c1,.int .i64 f2,.bool f3] 25)) W.heap.size f0 f1 f2 f3:=⟨A0,c0,A1,c1,by simpa using heap_alloc_new W _,hB.size,hr0,hr1⟩
def spec_l2Op.f (s0_0:List (List Int)) (s0_1:List (S50)) (s0_2:Int) (s0_3:Bool):Option (Bool × Int × Bool):=if s0_2 = 0 then (some (false,(-1),true)) else (if s0_2 > 0 then (some (true,wrap64 (s0_2 - 1),s0_3)) else (some (true,s0_2,s0_3)))
-- NOT PRINTED: function 57 (spec_l2Write)
-- NOT PRINTED: function 26 (spec_WriteSec)
end Go.Proofs.Ytilhcaofpfeioaa.PFnDevsBent

namespace Go.Proofs.Ytilhcaofpfeioaa.Core
open Go.RowKit Go.Proofs.YtilhcaofpfeioaaW.PrintWords
theorem w64 {x:Int} (h0:-9223372036854775808 ≤ x) (h1:x ≤ 9223372036854775807):wrap64 x = x:=by unfold wrap64;omega
theorem w64s (n:Nat) (h:n ≤ 4611686018427387904):wrap64 ((n:Int) + 1) = ((n + 1:Nat):Int):=by unfold wrap64;omega
theorem evOf {α:Type} {g:Nat → Option α} {r:α} (h:∀ k,g k = some r):Ev g r:=⟨0,fun k _=>h k⟩
theorem evGet {α:Type} {g:Nat → Option α} {r:α} (h:Ev g r):∃ k,g k = some r:=by
 obtain ⟨K,h⟩:=h
 exact ⟨K,h K (Nat.le_refl _)⟩
theorem evSucc {α:Type} {g:Nat → Option α} {r:α} (h:∃ K d,∀ k,K ≤ k → g (k + d) = some r):Ev g r:=by
 obtain ⟨K,d,h⟩:=h
 refine ⟨K + d,fun k hk=>?_⟩
 obtain ⟨m,rfl⟩:∃ m,k = m + d:=⟨k - d,by omega⟩
 exact h m tZ
theorem evRange {σ ρ:Type} (n:Nat) (l:Nat → σ → Int → Option ρ) (Inv:Nat → σ → Prop) (M:Nat → σ → ρ)
  (step:∀ i s,i < n → Inv i s → (∃ s',Inv (i + 1) s' ∧ M (i + 1) s' = M i s ∧ ∃ K d,∀ k,K ≤ k → l (k + d) s (i:Int) = l k s' ((i + 1:Nat):Int)) ∨ (∃ K d,∀ k,K ≤ k → l (k + d) s (i:Int) = some (M i s)))
  (done:∀ s,Inv n s → ∃ K d,∀ k,K ≤ k → l (k + d) s (n:Int) = some (M n s)) :
  ∀ i s,i ≤ n → Inv i s → Ev (fun k=>l k s (i:Int)) (M i s):=by
 have key:∀ d i s,n - i = d → i ≤ n → Inv i s → Ev (fun k=>l k s (i:Int)) (M i s):=by
  intro d
  induction d with
  | zero =>
   intro i s hd hi hinv
   obtain rfl:i = n:=by omega
   exact evSucc (done s hinv)
  | succ d ih =>
   intro i s hd hi hinv
   rcases step i s tZ hinv with ⟨s',hinv',hM,K,e,h⟩|h
   ·obtain ⟨K',h'⟩:=ih (i + 1) s' tZ tZ hinv'
    refine evSucc ⟨K + K',e,fun k hk'=>?_⟩
    show l (k + e) s i = _
    rw [h k tZ,← hM]
    exact h' k tZ
   ·exact evSucc h
 exact fun i s hi=>key _ i s rfl hi
theorem evRange0 {σ ρ:Type} (n:Nat) (l:Nat → σ → Int → Option ρ) (Inv:Nat → σ → Prop) (M:Nat → σ → ρ) (s:σ) (h0:Inv 0 s)
  (step:∀ i s,i < n → Inv i s → (∃ s',Inv (i + 1) s' ∧ M (i + 1) s' = M i s ∧ ∃ K d,∀ k,K ≤ k → l (k + d) s (i:Int) = l k s' ((i + 1:Nat):Int)) ∨ (∃ K d,∀ k,K ≤ k → l (k + d) s (i:Int) = some (M i s)))
  (done:∀ s,Inv n s → ∃ K d,∀ k,K ≤ k → l (k + d) s (n:Int) = some (M n s)) :
  Ev (fun k=>l k s 0) (M 0 s):=evRange n l Inv M step done 0 s (Nat.zero_le _) h0
theorem evRangeEx {σ ρ:Type} (n:Nat) (l:Nat → σ → Int → Option ρ) (Inv:Nat → σ → Prop) (Post:ρ → Prop)
  (step:∀ i s,i < n → Inv i s → (∃ s',Inv (i + 1) s' ∧ ∃ K d,∀ k,K ≤ k → l (k + d) s (i:Int) = l k s' ((i + 1:Nat):Int)) ∨ (∃ r,Post r ∧ ∃ K d,∀ k,K ≤ k → l (k + d) s (i:Int) = some r))
  (done:∀ s,Inv n s → ∃ r,Post r ∧ ∃ K d,∀ k,K ≤ k → l (k + d) s (n:Int) = some r) :
  ∀ i s,i ≤ n → Inv i s → ∃ r,Post r ∧ Ev (fun k=>l k s (i:Int)) r:=by
 have key:∀ d i s,n - i = d → i ≤ n → Inv i s → ∃ r,Post r ∧ Ev (fun k=>l k s (i:Int)) r:=by
  intro d
  induction d with
  | zero =>
   intro i s hd hi hinv
   obtain rfl:i = n:=by omega
   obtain ⟨r,hp,h⟩:=done s hinv
   exact ⟨r,hp,evSucc h⟩
  | succ d ih =>
   intro i s hd hi hinv
   rcases step i s tZ hinv with ⟨s',hinv',K,e,h⟩|⟨r,hp,h⟩
   ·obtain ⟨r,hp,K',h'⟩:=ih (i + 1) s' tZ tZ hinv'
    refine ⟨r,hp,evSucc ⟨K + K',e,fun k hk'=>?_⟩⟩
    show l (k + e) s i = _
    rw [h k tZ]
    exact h' k tZ
   ·exact ⟨r,hp,evSucc h⟩
 exact fun i s hi=>key _ i s rfl hi
def allFrom (p:Nat → Bool) (n i:Nat):Bool:=(List.range' i (n - i)).all p
theorem allFrom_lt {p:Nat → Bool} {n i:Nat} (h:i < n):allFrom p n i = (p i && allFrom p n (i + 1)):=by
 unfold allFrom
 rw [show n - i = (n - (i + 1)) + 1 by omega,List.range'_succ,List.all_cons]
theorem allFrom_end (p:Nat → Bool) (n:Nat):allFrom p n n = true:=by simp [allFrom]
theorem allFrom_iff {p:Nat → Bool} {n i:Nat}:allFrom p n i = true ↔ ∀ j,i ≤ j → j < n → p j = true:=by
 simp only [allFrom,List.all_eq_true,List.mem_range'_1]
 constructor
 ·intro h j h1 h2;exact h j ⟨h1,by omega⟩
 ·intro h j hj;exact h j hj.1 tZ
theorem evAll (n:Nat) (l:Nat → Int → Option Bool) (p:Nat → Bool) (fin:Bool)
  (step:∀ i,i < n → ∃ K d,∀ k,K ≤ k → l (k + d) (i:Int) = if p i = true then l k ((i + 1:Nat):Int) else some false)
  (done:∃ K d,∀ k,K ≤ k → l (k + d) (n:Int) = some fin) (i:Nat) (hi:i ≤ n):Ev (fun k=>l k (i:Int)) (allFrom p n i && fin):=by
 refine evRange (σ:=Unit) n (fun k _ i=>l k i) (fun _ _=>True) (fun i _=>allFrom p n i && fin) ?_ ?_ i () hi trivial
 ·intro i _ hi _
  obtain ⟨K,d,h⟩:=step i hi
  cases hp:p i with
  | true=>exact .inl ⟨(),trivial,by simp [allFrom_lt hi,hp],K,d,fun k hk=>by simp only [h k hk,hp,if_true]⟩
  | false=>exact .inr ⟨K,d,fun k hk=>by simp only [h k hk,hp,allFrom_lt hi,Bool.false_and];rfl⟩
 ·intro _ _
  obtain ⟨K,d,h⟩:=done
  exact ⟨K,d,fun k hk=>by rw [h k hk,allFrom_end,Bool.true_and]⟩
def fill {β:Type} (c:Nat → β) (l:List β) (i:Nat):List β:=(List.range i).map c ++ l.drop i
theorem drop_getD {α:Type} (l:List α) (i:Nat) (z:α) (h:i < l.length):l.drop i = l.getD i z :: l.drop (i + 1):=by
 rw [List.drop_eq_getElem_cons h,List.getD_eq_getElem?_getD,List.getElem?_eq_getElem h];rfl
theorem take_getD {α:Type} (l:List α) (i:Nat) (z:α) (h:i < l.length):l.take (i + 1) = l.take i ++ [l.getD i z]:=by
 rw [List.take_succ_eq_append_getElem h,List.getD_eq_getElem?_getD,List.getElem?_eq_getElem h];rfl
theorem getD_mem {α:Type} (l:List α) (i:Nat) (z:α) (h:i < l.length):l.getD i z ∈ l:=by
 rw [List.getD_eq_getElem?_getD,List.getElem?_eq_getElem h];exact List.getElem_mem h
theorem and255 (x:Int):Go.bits .and .i64 x 255 = x % 256:=by
 have e:(BitVec.ofInt IntKind.i64.bits x &&& BitVec.ofInt IntKind.i64.bits 255).toNat = (x % 256).toNat:=by
  rw [BitVec.toNat_and,BitVec.toNat_ofInt,BitVec.toNat_ofInt]
  have h2:((255:Int) % ((2 ^ IntKind.i64.bits:Nat):Int)).toNat = 2 ^ 8 - 1:=by decide
  rw [h2,Nat.and_two_pow_sub_one_eq_mod]
  have h3:((2 ^ IntKind.i64.bits:Nat):Int) = 18446744073709551616:=by decide
  rw [h3]
  omega
 unfold Go.bits
 simp only [e]
 rw [IntKind.wrap_i64]
 omega
theorem wf_u8 {x:Int} (h:(Lit.int .u8 x).wf = true):0 ≤ x ∧ x ≤ 255:=by
 simp only [Lit.wf,IntKind.min,IntKind.max,Bool.and_eq_true] at h
 simpa [IntKind.bits,IntKind.signed] using h
end Go.Proofs.Ytilhcaofpfeioaa.Core

namespace Go.Proofs.Ytilhcaofpfeioaa.Core
open Go.RowKit Go.Proofs.YtilhcaofpfeioaaW.PrintWords
section
variable {α:Type} (mk:α → Int → α) (cnt:α → Int)
def cntL:List α → Int
 | []=>0
 | x :: xs=>cnt x + cntL xs
def mkL:List α → Int → List α
 | [],_=>[]
 | x :: xs,a=>mk x a :: mkL xs (a + cnt x)
/-- The first i are marked. -/
def midL (l:List α) (a:Int) (i:Nat):List α:=(mkL mk cnt l a).take i ++ l.drop i
end
/-- The blocks from lo on, below hi. -/
def In (lo hi k:Nat):Prop:=lo ≤ k ∧ k < hi
theorem In.off {a b c d:Nat} (h:b ≤ c):∀ k,In a b k → ¬ In c d k:=fun _ h1 h2=>by unfold In at *;omega
namespace Mem
open Kd
section
variable {α:Type} {d:Kd α} {e n m c base lo hi top:Nat} {w w1 W:World} {A:Option Addr} {v:Value} {xs:List α} {ok P:Nat → Prop}
theorem times (hs:top ≤ W.heap.size) (hb:Below W.heap.size W w1):∃ lo hi,lo = W.heap.size ∧ hi = w1.heap.size ∧ top ≤ lo ∧ lo ≤ hi:=⟨_,_,rfl,rfl,hs,hb.size⟩
theorem new_R (h:d.R e w1 lo ok v xs) (eh:hi = w1.heap.size):∃ A c,v = .slice A xs.length c ∧ xs.length ≤ c ∧ F d w1 (In lo hi) A xs.length xs ∧ d.R e w1 lo (In lo hi) (.slice A xs.length c) xs:=by
 subst eh
 obtain ⟨A,c,rfl,hl,_⟩:=R_reads h
 have h2:d.R e w1 lo (In lo w1.heap.size) (.slice A xs.length c) xs:=R_mono (R_bound h) (fun k hk=>⟨hk.2.1,hk.2.2.1⟩)
 exact ⟨A,c,rfl,hl,R_F h2,h2⟩
theorem new_S (h:Kd.S d e w1 lo ok v xs) (eh:hi = w1.heap.size):∃ A c,v = .slice A xs.length c ∧ xs.length ≤ c ∧ F d w1 (In lo hi) A xs.length xs ∧ Kd.S d e w1 lo (In lo hi) (.slice A xs.length c) xs:=by
 subst eh
 obtain ⟨A,c,rfl,hl,_⟩:=S_reads h
 have h2:Kd.S d e w1 lo (In lo w1.heap.size) (.slice A xs.length c) xs:=bU (S_bound h) (fun k hk=>⟨hk.2.1,hk.2.2.1⟩)
 exact ⟨A,c,rfl,hl,S_F h2,h2⟩
theorem new_N (h:Kd.N d e w1 lo (fun k_=>lo ≤ k_) v xs) (eh:hi = w1.heap.size):∃ A c,v = .slice A xs.length c ∧ xs.length ≤ c ∧ F d w1 (In lo hi) A xs.length xs:=by
 subst eh
 obtain ⟨A,c,rfl,hl,_⟩:=N_reads h
 exact ⟨A,c,rfl,hl,F_mono (F_bound (N_F h)) (fun k hk=>⟨hk.1,hk.2⟩)⟩
end
theorem lent {α:Type} {d:Kd α} {e e2 g n cap base:Nat} {P:Nat → Prop} {W:World} {xs:List (List α)} (h:Kd.S (Kd.slice e d) e2 W base P (.slice (some ⟨g,0,none⟩) n cap) xs) (i:Int) (h0:0 ≤ i) (h1:i < n) (hnew:∀ k,W.heap.size ≤ k → P k) :
  ∃ (oki:Nat → Prop) (v:Value),(∀ k,oki k → P k) ∧ d.R e W base oki v (xs.getD i.toNat []) ∧ W.cell? ⟨g,i.toNat,none⟩ = some v ∧
   ∀ (w1:World) (x':List α),Kept W w1 oki → d.R e w1 base (fun k=>oki k ∨ W.heap.size ≤ k) v x' → Kd.S (Kd.slice e d) e2 w1 base P (.slice (some ⟨g,0,none⟩) n cap) (xs.set i.toNat x'):=by
 obtain ⟨oki,c,hcl,hM,hcc,hoki,hH⟩:=S_lend h [] i h0 h1
 obtain ⟨v,rfl,hR⟩:=hM
 refine ⟨oki,v,fun k hk=>(hoki k hk).1,hR,?_,fun w1 x' hk hR'=>?_⟩
 ·have:=hcc 0 v rfl
  simpa [show (Kd.slice e d).sz = 1 from rfl] using this
 ·refine H_back (H_step (H_widen hH) (fun k ho hn hlt=>hk.2 k hlt (fun h2=>hn (.inl h2)))) (okp:=fun k=>oki k ∨ W.heap.size ≤ k) ⟨v,rfl,hR'⟩ (fun k hk'=>?_)
  rcases hk' with hk' | hk'
  ·exact .inl hk'
  ·exact .inr ⟨hnew k hk',hk'⟩
end Mem
end Go.Proofs.Ytilhcaofpfeioaa.Core
