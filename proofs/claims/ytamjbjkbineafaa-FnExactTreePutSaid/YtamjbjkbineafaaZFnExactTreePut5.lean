/- The law: the functions that it reaches, each with the proof that the machine's call comes to its answer, what they answer, and the law's row; each theorem says its conditions itself. -/
import Derived.Test.YtamjbjkbineafaaZFnExactTreePut4
namespace Go.Proofs.Ytamjbjkbineafaa.EvFnExactTreePut
open Go Go.RowKit Go.Proofs.Ytamjbjkbineafaa.Ev Go.Proofs.Ytamjbjkbineafaa.PFnExactTreePut Go.Proofs.YtamjbjkbineafaaW.PrintWords Go.Proofs.YtamjbjkbineafaaW.PrintLast
set_option linter.unusedVariables false
set_option linter.unusedSimpArgs false
attribute [local go_sem] aops_nil outI_done outI_call aopsD_nil outJ_done outJ_call semG sem0 semD semS M.run evO constA litOk litA AS.app AS.put List.map startL litF litB upd_at List.length_set Int.toNat_lt guardA boolA intA rowO cellsA readA argsL partsL fillL fzC fzL fzW loadV importR importC importW ownsP tsz tagg known elem? tby zeroC isNone binV dropW isCall resOf resC outL outC ownIds nodupB AS.ev mk_nil mk_at mo_nil mo_at beq_dec bne_dec thenQ blockQ kok_same kok_nx nx_zero if_true if_false Nat.add_zero Nat.zero_add Nat.le_refl true_and and_true List.getElem?_cons_zero List.getElem?_cons_succ List.getElem?_nil List.drop_succ_cons List.drop_zero List.take_succ_cons List.take_zero List.length_cons List.length_nil List.append_nil List.nil_append List.cons_append List.length_append List.any_cons List.any_nil keyC keysF setsF nodesF intsF nodeC keysE_len keysE_app keysE_one keysE_nil setsE_len setsE_app setsE_one setsE_nil nodesE_len nodesE_app nodesE_one nodesE_nil intsE_len intsE_app intsE_one intsE_nil keysE_get setsE_get nodesE_get intsE_get keysE_take keysE_drop nodesE_take nodesE_drop intsE_take intsE_drop setsE_set nodesE_set leK leL leA tmOk boxOk memOk rowOk rowsOk fzR List.contains_cons List.contains_nil Option.map_some Option.map_none ge_iff_le gt_iff_lt leF_same leE_same Option.isSome_some decide_true decide_false endQ own0 leC leCs or_true true_or range0 range1 range2 w64_ Bool.not_true Bool.not_false bne_self_eq_false beq_self_eq_true Bool.and_true Bool.false_or Bool.or_false List.getLast?_cons_cons List.getLast?_singleton List.dropLast_cons_cons List.dropLast_singleton Option.some.injEq M.rds W.loc nilV setC intC intsE_cons nodesE_cons leF_nil lB lC List.drop_nil
theorem spec_TreePut.j0_s {y0 y1 y2 y3 y4 y5 y6 y7 y8 y9 r} {k:Nat} (H:spec_TreePut.j0 k y0 y1 y2 y3 y4 y5 y6 y7 y8 y9 = some r):∃ q,k = q + 1:=by cases k with
 | zero=>cases H
 | succ q=>exact ⟨q,rfl⟩
theorem spec_TreePut.j1_s {y0 y1 y2 y3 r} {k:Nat} (H:spec_TreePut.j1 k y0 y1 y2 y3 = some r):∃ q,k = q + 1:=by cases k with
 | zero=>cases H
 | succ q=>exact ⟨q,rfl⟩
set_option maxHeartbeats 8000000 in
set_option maxRecDepth 100000 in
theorem spec_TreePut_s (k:Nat) (a00:List Int) (a01:List S59) (a10 a11 a12 a13 a14:Int) (r0:List Int) (r1:List S59) (r2:Bool) (H:spec_TreePut.f k a00 a01 a10 a11 a12 a13 a14 = some (r0,r1,r2)):SemCall 21 [⟨.agg,[intsF a00,nodesF a01]⟩,⟨.agg,[litF a10,litF a11,litF a12,litF a13,litF a14]⟩] 0 ⟨.pr,[.fv (intsF r0),.fv (nodesF r1),.fv (litB r2)]⟩ 0:=by
 simp only [spec_TreePut.f] at H
 refine call0 (rs:=[.cell 4 29,.tmp 5]) Try.func21 rfl tF rfl Try.ntmps21 (Nat.le_of_ble_eq_true rfl) rfl ?_
 repeat' (first|contradiction|(rw [Option.ite_none_right_eq_some] at H;obtain ⟨_,H⟩:=H)|(rw [ite_or] at H;rcases H with ⟨_,H⟩|⟨_,H⟩)|(split at H)|(simp only [Option.bind_some] at H)|(rw [Option.bind_eq_some_iff] at H;obtain ⟨_,A,H⟩:=H)|(obtain ⟨_,rfl⟩:=spec_TreePut.j0_s H;simp only [spec_TreePut.j0,beq_iff_eq,bne_iff_ne,ne_eq,ite_not] at H)|(obtain ⟨_,rfl⟩:=spec_TreePut.j1_s H;simp only [spec_TreePut.j1,beq_iff_eq,bne_iff_ne,ne_eq,ite_not] at H)|cases H)
 all_goals repeat' (first
  | apply awp_seq
  | (apply awp_reg;rfl;simp (decide:=true) only [↓aops_cons,↓aopsD_cons,go_sem, *])
  | (apply awp_block;(try simp only [blockQ]))
  | (apply condT;(· simp (decide:=true) only [↓aops_cons,↓aopsD_cons,go_sem, *]))
  | (apply condF;(· simp (decide:=true) only [↓aops_cons,↓aopsD_cons,go_sem, *]))
  | (apply awp_skip;simp (decide:=true) only [↓aops_cons,↓aopsD_cons,go_sem, *])
  | (apply awp_exit;simp (decide:=true) only [↓aops_cons,↓aopsD_cons,go_sem, *])
  | (apply awp_ret;simp (decide:=true) only [↓aops_cons,↓aopsD_cons,go_sem, *])
  | (apply awp_regD (id:=5) [0,1,0,7,15,0,63,127,255,255,0,1535,4095];rfl;kernel_rfl;simp (decide:=true) only [↓aops_cons,↓aopsD_cons,go_sem, *])
  | (apply awp_regD (id:=6) [0,0,0,4,0,28,60,124,0,256,1023,0,4095];rfl;kernel_rfl;simp (decide:=true) only [↓aops_cons,↓aopsD_cons,go_sem, *])
  | (apply awp_regD (id:=8) [0,1,0,7,15,31,0,127,255,511];rfl;kernel_rfl;simp (decide:=true) only [↓aops_cons,↓aopsD_cons,go_sem, *])
  | (apply awp_regF [1061] (id:=10) [0,0,0,4,0,28,60,0,0,384,896,1920,4092,0,0,24576,61312,0,0,393216,1044352,2092928,4194303,8388607];rfl;kernel_rfl;simp (decide:=true) only [↓aops_cons,↓aopsD_cons,go_sem, *])
  | (refine And.intro (a:=indep _ _ = true) ta ?_)
  | (rw [if_pos (show _ * _ ≤ 140737488355328 by (try simp only [List.length_append,List.length_cons,List.length_nil] at *);omega)];simp (decide:=true) only [↓aops_cons,↓aopsD_cons,go_sem, *])
  | (refine callI_eq (spec_l6Set_s _ _ _ _ _ _ _ ‹spec_l6Set.f _ _ _ [_] [_] = some _›) ?_ ?_;(· simp (decide:=true) only [↓aops_cons,↓aopsD_cons,go_sem, *]);simp (decide:=true) only [↓aops_cons,↓aopsD_cons,go_sem, *])
  | (refine callJ_eq (spec_l6Set_s _ _ _ _ _ _ _ ‹spec_l6Set.f _ _ _ [_] [_] = some _›) ?_ ?_;(· simp (decide:=true) only [↓aops_cons,↓aopsD_cons,go_sem, *]);simp (decide:=true) only [↓aops_cons,↓aopsD_cons,go_sem, *])
  | (refine callI_eq (spec_l6Set_s _ _ _ _ _ _ _ ‹spec_l6Set.f _ _ _ [] [] = some _›) ?_ ?_;(· simp (decide:=true) only [↓aops_cons,↓aopsD_cons,go_sem, *]);simp (decide:=true) only [↓aops_cons,↓aopsD_cons,go_sem, *])
  | (refine callJ_eq (spec_l6Set_s _ _ _ _ _ _ _ ‹spec_l6Set.f _ _ _ [] [] = some _›) ?_ ?_;(· simp (decide:=true) only [↓aops_cons,↓aopsD_cons,go_sem, *]);simp (decide:=true) only [↓aops_cons,↓aopsD_cons,go_sem, *])
  | (refine callI_eq (spec_l6Set_s _ _ _ _ _ _ _ ‹spec_l6Set.f _ _ _ [_,_] [_,_] = some _›) ?_ ?_;(· simp (decide:=true) only [↓aops_cons,↓aopsD_cons,go_sem, *]);simp (decide:=true) only [↓aops_cons,↓aopsD_cons,go_sem, *])
  | (refine callJ_eq (spec_l6Set_s _ _ _ _ _ _ _ ‹spec_l6Set.f _ _ _ [_,_] [_,_] = some _›) ?_ ?_;(· simp (decide:=true) only [↓aops_cons,↓aopsD_cons,go_sem, *]);simp (decide:=true) only [↓aops_cons,↓aopsD_cons,go_sem, *])
  | (refine callI_of (spec_l6Copy_s _ _ _ _ _ tH) ?_;simp (decide:=true) only [↓aops_cons,↓aopsD_cons,go_sem, *])
  | (refine callJ_of (spec_l6Copy_s _ _ _ _ _ tH) ?_;simp (decide:=true) only [↓aops_cons,↓aopsD_cons,go_sem, *])
  | (refine callI_of (spec_TreeOk_s _ _ _ _ tH) ?_;simp (decide:=true) only [↓aops_cons,↓aopsD_cons,go_sem, *])
  | (refine callJ_of (spec_TreeOk_s _ _ _ _ tH) ?_;simp (decide:=true) only [↓aops_cons,↓aopsD_cons,go_sem, *])
  | (refine callI_of (spec_KeyOk_s _ _ _ _ _ _ _ tH) ?_;simp (decide:=true) only [↓aops_cons,↓aopsD_cons,go_sem, *])
  | (refine callJ_of (spec_KeyOk_s _ _ _ _ _ _ _ tH) ?_;simp (decide:=true) only [↓aops_cons,↓aopsD_cons,go_sem, *])
  | (refine callI_of (spec_WhereIn_s _ _ _ _ _ _ tH) ?_;simp (decide:=true) only [↓aops_cons,↓aopsD_cons,go_sem, *])
  | (refine callJ_of (spec_WhereIn_s _ _ _ _ _ _ tH) ?_;simp (decide:=true) only [↓aops_cons,↓aopsD_cons,go_sem, *])
  | (refine callI_of (spec_NodePut_s _ _ _ _ _ _ _ _ _ tH) ?_;simp (decide:=true) only [↓aops_cons,↓aopsD_cons,go_sem, *])
  | (refine callJ_of (spec_NodePut_s _ _ _ _ _ _ _ _ _ tH) ?_;simp (decide:=true) only [↓aops_cons,↓aopsD_cons,go_sem, *])
  | (refine callI_of (spec_l6Set_s _ _ _ _ _ _ _ tH) ?_;simp (decide:=true) only [↓aops_cons,↓aopsD_cons,go_sem, *])
  | (refine callJ_of (spec_l6Set_s _ _ _ _ _ _ _ tH) ?_;simp (decide:=true) only [↓aops_cons,↓aopsD_cons,go_sem, *])
  | (refine callI_of (spec_NodeKeys_s _ _ _ tH) ?_;simp (decide:=true) only [↓aops_cons,↓aopsD_cons,go_sem, *])
  | (refine callJ_of (spec_NodeKeys_s _ _ _ tH) ?_;simp (decide:=true) only [↓aops_cons,↓aopsD_cons,go_sem, *])
  | (refine callI_of (spec_SetPut_s _ _ _ _ _ _ _ _ tH) ?_;simp (decide:=true) only [↓aops_cons,↓aopsD_cons,go_sem, *])
  | (refine callJ_of (spec_SetPut_s _ _ _ _ _ _ _ _ tH) ?_;simp (decide:=true) only [↓aops_cons,↓aopsD_cons,go_sem, *])
  | (refine callI_of (spec_Drop_s _ _ _ tH) ?_;simp (decide:=true) only [↓aops_cons,↓aopsD_cons,go_sem, *])
  | (refine callJ_of (spec_Drop_s _ _ _ tH) ?_;simp (decide:=true) only [↓aops_cons,↓aopsD_cons,go_sem, *])
  | (refine callI_of (spec_l6Spot_s _ _ _ _ _ _ tH) ?_;simp (decide:=true) only [↓aops_cons,↓aopsD_cons,go_sem, *])
  | (refine callJ_of (spec_l6Spot_s _ _ _ _ _ _ tH) ?_;simp (decide:=true) only [↓aops_cons,↓aopsD_cons,go_sem, *])
  | (refine callI_of (spec_NodeNew_s _ _ tH) ?_;simp (decide:=true) only [↓aops_cons,↓aopsD_cons,go_sem, *])
  | (refine callJ_of (spec_NodeNew_s _ _ tH) ?_;simp (decide:=true) only [↓aops_cons,↓aopsD_cons,go_sem, *])
  | (refine callI_of (spec_l6Join_s _ _ _ _ _ tH) ?_;simp (decide:=true) only [↓aops_cons,↓aopsD_cons,go_sem, *])
  | (refine callJ_of (spec_l6Join_s _ _ _ _ _ tH) ?_;simp (decide:=true) only [↓aops_cons,↓aopsD_cons,go_sem, *]))
end Go.Proofs.Ytamjbjkbineafaa.EvFnExactTreePut

namespace Go.Proofs.Ytamjbjkbineafaa.Ev
open Go Go.RowKit
set_option linter.unusedVariables false
set_option linter.unusedSimpArgs false
theorem Kok.trans {a b c:Nat} (h:Kok a b) (h':Kok b c):Kok a c:=⟨Nat.le_trans h.1 h'.1,fun e=>h'.2 (h.2 e)⟩
theorem SemCall.le {f k k' k2:Nat} {as_:List PV} {r:RV} (h:SemCall f as_ k r k') (h2:Kok k' k2):SemCall f as_ k r k2:=by
 obtain ⟨q1,q2,q3,q4,q5,q6⟩:=h
 have hl:=h2.1
 refine ⟨q1.trans h2,q2,q3,q4,fun l t es hm=>(q5 l t es hm).imp id (fun h=>⟨h.1,vG⟩),fun own ro w vs hf hro ha=>(q6 own ro w vs (fun b hb h=>hf b hb ⟨h.1,vG⟩) hro ha).mono ?_⟩
 rintro e w' ⟨v,own',tg,p1,p2,p3,p4⟩
 exact ⟨v,own',tg,p1,p2,fun b h1 h2=>(p3 b h1 h2).imp id (fun h=>⟨h.1,vG⟩),p4⟩
theorem SemCall.nilLab {f k k':Nat} {as_:List PV} (h:SemCall f as_ k ⟨.agg,[.fv (.lit nilV)]⟩ k') (l t:Nat):SemCall f as_ k ⟨.agg,[.fv (.row l t [])]⟩ k':=by
 obtain ⟨q1,q2,q3,q4,q5,q6⟩:=h
 refine ⟨q1,q2,nofun,nofun,fun l t es hm=>by simp at hm,fun own ro w vs hf hro ha=>(q6 own ro w vs hf hro ha).mono ?_⟩
 rintro e w' ⟨v,own',tg,p1,p2,p3,p4,⟨us,u1,u2,u3⟩,p6⟩
 refine ⟨v,own',tg,p1,p2,p3,p4,⟨us,u1,u2,fun i c u hc hu=>?_⟩,p6⟩
 rcases i with _|i
 ·simp only [List.getElem?_cons_zero,Option.some.injEq] at hc
  subst hc
  obtain ⟨rfl,_⟩:=rep_lit (u3 0 _ u rfl hu)
  exact .row l t [] none 0 (fun _ _=>undef) (Nat.le_refl _) te (fun i e h=>by simp at h) (fun i e h=>by simp at h) (fun i e h=>by simp at h) (fun _=>⟨[],World.ownsRow_nil _ _ _ _,fun ad h=>by cases h⟩)
 ·simp at hc
section
variable {ds:List (Option Nat)} {o:Oper} {l:List Oper} {n k:Nat} {s:AS} {Q:Nat → AS → Prop} {R:List It → Nat → AS → Prop} {f:Nat} {args args':List PV} {g:RV → List W} {P:RV → Nat → Prop}
theorem callI_ex (h:∃ r k',SemCall f args' k r k' ∧ P r k') (e:args' = args) (h2:∀ r k',P r k' → AOps ds l k' (s.app (g r)) Q):@callI f args g ⟨ds,o,l,k,s,Q⟩:=by
 obtain ⟨r,k',h,hp⟩:=h
 exact ⟨r,k',e ▸ h,h2 r k' hp⟩
theorem callJ_ex (h:∃ r k',SemCall f args' k r k' ∧ P r k') (e:args' = args) (h2:∀ r k',P r k' → AOpsD ds (n + 1) l k' (s.app (g r)) fun L=>R (⟨n,k,k',(semG ds o k).rds s,(g r).map W.loc⟩ :: L)):@callJ f args g ⟨ds,n,o,l,k,s,R⟩:=by
 obtain ⟨r,k',h,hp⟩:=h
 exact ⟨r,k',e ▸ h,h2 r k' hp⟩
end
def ownK (q k:Nat):List RC → Prop
 | []=>True
 | .own l _ _ :: cs=>(l = 0 ∨ (q ≤ l ∧ l < k)) ∧ ownK q k cs
 | .fv _ :: cs=>ownK q k cs
theorem ownK_spec {q k:Nat}:∀ {cs:List RC},ownK q k cs → ∀ l t es,RC.own l t es ∈ cs → l = 0 ∨ (q ≤ l ∧ l < k):=by
 intro cs
 induction cs with
 | nil=>intro _ l t es h;cases h
 | cons c cs ih =>
  intro h l t es hm
  cases c with
  | fv x =>
   rcases List.mem_cons.1 hm with e|hm
   ·cases e
   ·exact ih h l t es hm
  | own l' t' es' =>
   rcases List.mem_cons.1 hm with e|hm
   ·injection e with e1 e2 e3;rw [e1];exact h.1
   ·exact ih h.2 l t es hm
/-- What a run with labels must end in. -/
def endP (q:Nat) (rs:List ResultVar) (P:RV → Nat → Prop) (e:AExit) (k:Nat) (s:AS):Prop :=
 (e = .ret ∨ e = .norm) ∧ match resOf rs s with
  | some r0=>ownK q k r0.cs ∧ ∃ r,r0.sh = r.sh ∧ leCs r0.cs r.cs ∧ P r k
  | none=>False
theorem endP_ret {q k:Nat} {rs:List ResultVar} {P:RV → Nat → Prop} {s:AS} {r0:RV} {e:AExit} (he:e = .ret ∨ e = .norm) (h:resOf rs s = some r0) (ho:ownK q k r0.cs) (r:RV) (h1:r0.sh = r.sh) (h2:leCs r0.cs r.cs) (hp:P r k):endP q rs P e k s:=by
 refine ⟨he,?_⟩
 rw [h]
 exact ⟨ho,r,h1,h2,hp⟩
theorem callL {f N q : Nat} {fn : Func} {c : Code} {args : List PV} {P : RV → Nat → Prop} {rs : List ResultVar} (hf : Try.prog.funcs[f]? = some fn) (hrs : fn.results.toList = rs) (hname : (fn.name == "runtime.NumGoroutine") = false) (hb : fn.body = some c) (hN : fn.ntmps = N) (hlen : args.length ≤ N) (hsh : okP args = true)
  (h:AWp N c q ⟨mk (startL 0 args),fun _=>none,fun _=>none⟩ (endP q rs P)):∃ r k',SemCall f args q r k' ∧ P r k':=by
 subst hrs
 rw [← start_eq] at h
 obtain ⟨r,k',h1,r2,h2,h3⟩:=call_of (P:=fun r k'=>∃ r2,LeV r r2 ∧ P r2 k') hf hname hb hN hlen (okP_spec hsh) (h.mono fun e k s he=>by
  obtain ⟨h1,h2⟩:=he
  refine ⟨h1,?_⟩
  split at h2
  ·rename_i r0 hr0
   obtain ⟨h3,r,h4,h5,h6⟩:=h2
   exact ⟨r0,hr0,ownK_spec h3,r,⟨h4,leCs_spec h5⟩,h6⟩
  ·exact h2.elim)
 exact ⟨r2,k',h1.res h2,h3⟩
theorem weakLK (d j p t:Nat) {k:Nat} {s:AS} {b:Box} (hd:s.mem d = some b) (hj:b.cs[j]? = some (.fv (.lit nilV))) (hp:s.rows p = none) (ids:List Nat) {l:List (Nat × AV)} {m:List (Nat × Box)} {r:List (Nat × Row)}
  (h:tmOk (mo m) (fzR ids (upd s.rows p (some ⟨k,t,[],false⟩))) (mo r) s.tm l ∧ memOk (fzR ids (upd s.rows p (some ⟨k,t,[],false⟩))) (mo r) (upd s.mem d (some ⟨b.t,b.cs.set j (.own p 0)⟩)) m ∧ rowsOk (fzR ids (upd s.rows p (some ⟨k,t,[],false⟩))) r):Weak k s (nx k) ⟨mk l,mo m,mo r⟩ :=
 Weak.trans (weak_adopt (k:=k) (p:=p) (t:=t) hd hj hp) (weakL ids h)
theorem kok_s {k:Nat} (h:k ≠ 0):Kok k (k + 1) = True:=eq_true ⟨Nat.le_succ _,fun e=>absurd e h⟩
theorem nx_ne {k:Nat} (h:k ≠ 0):nx k = k + 1:=if_neg h
def Fr (k k':Nat) (L:List Nat):Prop:=(∀ x ∈ L,k ≤ x ∧ x < k') ∧ L.Nodup
section
variable {k k1 k2 k' x:Nat} {L M:List Nat}
theorem Fr.nil:Fr k k' []:=⟨fun x h=>(by cases h),List.nodup_nil⟩
theorem Fr.mono (h:Fr k k' L) (h1:k1 ≤ k) (h2:k' ≤ k2):Fr k1 k2 L:=⟨fun x hx=>by have:=h.1 x hx;omega,h.2⟩
theorem Fr.sub (h:Fr k k' L) (hs:List.Sublist M L):Fr k k' M:=⟨fun x hx=>h.1 x (hs.subset hx),h.2.sublist hs⟩
theorem Fr.perm (h:Fr k k' L) (hs:List.Perm L M):Fr k k' M:=⟨fun x hx=>h.1 x (hs.symm.subset hx),hs.nodup_iff.1 h.2⟩
theorem Fr.app (h:Fr k k1 L) (h':Fr k1 k' M) (h1:k ≤ k1) (h2:k1 ≤ k'):Fr k k' (L ++ M) :=
 ⟨fun x hx=>by rcases List.mem_append.1 hx with hx|hx;(have:=h.1 x hx;omega);(have:=h'.1 x hx;omega),List.nodup_append.2 ⟨h.2,h'.2,fun a ha b hb e=>by have:=h.1 a ha;have:=h'.1 b hb;omega⟩⟩
theorem Fr.one (h:k ≤ x) (h':x < k'):Fr k k' [x]:=⟨fun y hy=>by obtain rfl:=List.mem_singleton.1 hy;exact ⟨h,h'⟩,List.pairwise_singleton _ _⟩
end
end Go.Proofs.Ytamjbjkbineafaa.Ev

namespace Go.Proofs.Ytamjbjkbineafaa.EvFnExactTreePut
open Go Go.RowKit Go.Proofs.Ytamjbjkbineafaa.Ev Go.Proofs.Ytamjbjkbineafaa.PFnExactTreePut Go.Proofs.YtamjbjkbineafaaW.PrintWords Go.Proofs.YtamjbjkbineafaaW.PrintLast
set_option linter.unusedVariables false
set_option linter.unusedSimpArgs false
structure LS where
 lb:Nat
 ks:List S38
structure LN where
 lb:Nat
 ss:List LS
def lsC (s:LS):List FV:=[.row s.lb 38 (keysE s.ks)]
def lssE (l:List LS):List (List FV):=l.map lsC
def lnC (n:LN):List FV:=[.row n.lb 45 (lssE n.ss)]
def lnsE (l:List LN):List (List FV):=l.map lnC
def eS (l:List LS):List (List S38):=l.map (·.ks)
def eN (l:List LN):List S59:=l.map fun n=>⟨eS n.ss⟩
def rdS (l:List LS) (i:Int):LS:=l.getD i.toNat ⟨0,[]⟩
def rdN (l:List LN) (i:Int):LN:=l.getD i.toNat ⟨0,[]⟩
def labS (l:List LS):List Nat:=l.map (·.lb)
def labN (l:List LN):List Nat:=l.flatMap fun n=>n.lb :: labS n.ss
section
variable (a b:List LS) (x:LS) (c d:List LN) (y:LN) (i:Nat)
theorem lssE_len:(lssE a).length = a.length:=List.length_map _
theorem lnsE_len:(lnsE c).length = c.length:=List.length_map _
theorem eS_len:(eS a).length = a.length:=List.length_map _
theorem eN_len:(eN c).length = c.length:=List.length_map _
theorem lssE_app:lssE (a ++ b) = lssE a ++ lssE b:=List.map_append
theorem lnsE_app:lnsE (c ++ d) = lnsE c ++ lnsE d:=List.map_append
theorem eS_app:eS (a ++ b) = eS a ++ eS b:=List.map_append
theorem eN_app:eN (c ++ d) = eN c ++ eN d:=List.map_append
theorem lssE_nil:lssE [] = []:=rfl
theorem lnsE_nil:lnsE [] = []:=rfl
theorem lssE_one:lssE [x] = [lsC x]:=rfl
theorem lnsE_one:lnsE [y] = [lnC y]:=rfl
theorem lnsE_take:(lnsE c).take i = lnsE (c.take i):=by simp [lnsE]
theorem lnsE_drop:(lnsE c).drop i = lnsE (c.drop i):=by simp [lnsE]
theorem eN_take:(eN c).take i = eN (c.take i):=by simp [eN]
theorem eN_drop:(eN c).drop i = eN (c.drop i):=by simp [eN]
theorem lssE_set (lb:Nat) (ks:List S38):(lssE a).set i [.row lb 38 (keysE ks)] = lssE (a.set i ⟨lb,ks⟩):=by simp [lssE,lsC]
theorem lnsE_set (lb:Nat) (ss:List LS):(lnsE c).set i [.row lb 45 (lssE ss)] = lnsE (c.set i ⟨lb,ss⟩):=by simp [lnsE,lnC]
theorem eS_set:eS (a.set i x) = (eS a).set i x.ks:=by simp [eS]
theorem eN_set:eN (c.set i y) = (eN c).set i ⟨eS y.ss⟩:=by simp [eN]
theorem lnsE_get (i:Int) (h0:0 ≤ i) (h1:i < c.length):(lnsE c)[i.toNat]? = some (lnC (rdN c i)):=by
 have hlt:i.toNat < c.length:=by omega
 simp [lnsE,rdN,hlt]
theorem lssE_get (i:Int) (h0:0 ≤ i) (h1:i < a.length):(lssE a)[i.toNat]? = some (lsC (rdS a i)):=by
 have hlt:i.toNat < a.length:=by omega
 simp [lssE,rdS,hlt]
theorem rd_eN (i:Int):(rd_T59 (eN c) i).f0 = eS (rdN c i).ss:=by
 simp only [rd_T59,eN,rdN,List.getD_eq_getElem?_getD,List.getElem?_map]
 cases c[i.toNat]? <;> rfl
theorem eS_snoc {lb:Nat} {x:List S38}:eS (a ++ [⟨lb,x⟩]) = eS a ++ [x]:=eS_app _ _
theorem eN_snoc {lb:Nat} {ss:List LS}:eN (c ++ [⟨lb,ss⟩]) = eN c ++ [⟨eS ss⟩]:=eN_app _ _
theorem labS_app:labS (a ++ b) = labS a ++ labS b:=List.map_append
theorem labN_app:labN (c ++ d) = labN c ++ labN d:=List.flatMap_append
theorem leF_ss (lb:Nat):LeF (.row lb 45 (lssE a)) (setsF (eS a)):=by
 refine .row (.inr rfl) (by simp [setsE,lssE,eS]) (fun i e e' h h'=>?_) (fun i e e' h h' j x y hx hy=>?_)
 ·simp only [lssE,setsE,eS,List.map_map,List.getElem?_map,Option.map_eq_some_iff] at h h'
  obtain ⟨z,hz,rfl⟩:=h
  obtain ⟨z',hz',rfl⟩:=h'
  rfl
 ·simp only [lssE,setsE,eS,List.map_map,List.getElem?_map,Option.map_eq_some_iff] at h h'
  obtain ⟨z,hz,rfl⟩:=h
  obtain ⟨z',hz',rfl⟩:=h'
  rw [hz] at hz'
  obtain rfl:=Option.some.inj hz'
  rcases j with _|j
  ·obtain rfl:=Option.some.inj hx
   obtain rfl:=Option.some.inj hy
   exact .lab _ _ _
  ·simp [lsC] at hx
theorem leF_ns (lb:Nat):LeF (.row lb 59 (lnsE c)) (nodesF (eN c)):=by
 refine .row (.inr rfl) (by simp [nodesE,lnsE,eN]) (fun i e e' h h'=>?_) (fun i e e' h h' j x y hx hy=>?_)
 ·simp only [lnsE,nodesE,eN,List.map_map,List.getElem?_map,Option.map_eq_some_iff] at h h'
  obtain ⟨z,hz,rfl⟩:=h
  obtain ⟨z',hz',rfl⟩:=h'
  rfl
 ·simp only [lnsE,nodesE,eN,List.map_map,List.getElem?_map,Option.map_eq_some_iff] at h h'
  obtain ⟨z,hz,rfl⟩:=h
  obtain ⟨z',hz',rfl⟩:=h'
  rw [hz] at hz'
  obtain rfl:=Option.some.inj hz'
  rcases j with _|j
  ·obtain rfl:=Option.some.inj hx
   obtain rfl:=Option.some.inj hy
   exact leF_ss _ _
  ·simp [lnC] at hx
theorem leP_node (lb:Nat):LeP ⟨.agg,[.row lb 45 (lssE a)]⟩ ⟨.agg,[setsF (eS a)]⟩:=⟨rfl,.cons (leF_ss a lb) .nil⟩
theorem leP_tree (l1 l2:Nat) (s:List Int):LeP ⟨.agg,[.row l1 3 (intsE s),.row l2 59 (lnsE c)]⟩ ⟨.agg,[intsF s,nodesF (eN c)]⟩:=⟨rfl,.cons (.lab _ _ _) (.cons (leF_ns c l2) .nil)⟩
end
theorem labN_one (lb:Nat) (ss:List LS):labN [⟨lb,ss⟩] = lb :: labS ss:=by simp [labN]
theorem fr_two {q k x y:Nat} (h:q ≤ x) (h':x < y) (h2:y < k):Fr q k [x,y]:=⟨fun z hz=>by simp only [List.mem_cons,List.not_mem_nil,or_false] at hz;omega,by simp;omega⟩
theorem set_nodup {k:Nat}:∀ (L:List Nat) (i:Nat),L.Nodup → k ∉ L → (L.set i k).Nodup
 | [],_,h,_=>h
 | x :: L,0,h,hk=>List.nodup_cons.2 ⟨fun h=>hk (List.mem_cons_of_mem _ h),(List.nodup_cons.1 h).2⟩
 | x :: L,i + 1,h,hk=>List.nodup_cons.2 ⟨fun hm=>by
   rcases List.mem_or_eq_of_mem_set hm with hm|rfl
   ·exact (List.nodup_cons.1 h).1 hm
   ·exact hk List.mem_cons_self,set_nodup L i (List.nodup_cons.1 h).2 (fun h=>hk (List.mem_cons_of_mem _ h))⟩
theorem fr_set {q k k' lb i:Nat} {ss:List LS} {t:List S38} (h:Fr q k (lb :: labS ss)) (h1:q ≤ k) (h2:k < k'):Fr q k' (lb :: labS (ss.set i ⟨k,t⟩)):=by
 have e:labS (ss.set i ⟨k,t⟩) = (labS ss).set i k:=by simp [labS]
 rw [e]
 have hk:k ∉ lb :: labS ss:=fun hm=>by have:=h.1 k hm;omega
 refine ⟨fun x hx=>?_,?_⟩
 ·have hm:x ∈ (lb :: labS ss).set (i + 1) k:=hx
  rcases List.mem_or_eq_of_mem_set hm with hm|rfl
  ·have:=h.1 x hm;omega
  ·omega
 ·exact set_nodup (lb :: labS ss) (i + 1) h.2 hk
theorem fr_snoc {q k k' lb:Nat} {ss:List LS} {t:List S38} (h:Fr q k (lb :: labS ss)) (h1:q ≤ k) (h2:k < k'):Fr q k' (lb :: labS (ss ++ [⟨k,t⟩])):=by
 rw [labS_app,← List.cons_append]
 exact Fr.app (M:=[k]) h (Fr.one (Nat.le_refl _) h2) h1 tD
theorem viaP {α β:Type} {S body:α → β → Prop} (h:∀ P:α → β → Prop,(∀ r k,body r k → P r k) → ∃ r k,S r k ∧ P r k):∃ r k,S r k ∧ body r k:=h _ fun _ _ h=>h
theorem fr_repl {p k k2 i j:Nat} {ns ms:List LN} (h:Fr p k (labN ns)) (h':Fr k k2 (labN ms)) (hij:i ≤ j) (h1:p ≤ k) (h2:k ≤ k2):Fr p k2 (labN (ns.take i ++ ms ++ ns.drop j)):=by
 have e:ns.drop i = (ns.drop i).take (j - i) ++ ns.drop j:=by
  have:=(List.take_append_drop (j - i) (ns.drop i)).symm
  rwa [List.drop_drop,show i + (j - i) = j from by omega] at this
 have hs:List.Sublist (labN (ns.take i) ++ labN (ns.drop j)) (labN ns):=by
  have e2:labN ns = labN (ns.take i) ++ (labN ((ns.drop i).take (j - i)) ++ labN (ns.drop j)):=by rw [← labN_app,← e,← labN_app,List.take_append_drop]
  rw [e2]
  exact (List.Sublist.refl _).append (List.sublist_append_right _ _)
 have hA:=(h.sub hs).app h' h1 h2
 rw [labN_app,labN_app]
 refine hA.perm ?_
 rw [List.append_assoc,List.append_assoc]
 exact (List.perm_append_comm).append_left _
theorem fr_out {p k k2 x y:Nat} {L:List Nat} (h:Fr p k L) (h1:k ≤ x) (h2:x < y) (h3:y < k2) (h4:p ≤ k):Fr p k2 (x :: y :: L) :=
 (Fr.app h (fr_two (q:=k) (k:=k2) h1 h2 h3) h4 tD).perm (List.perm_append_comm (l₂:=[x,y]))
theorem fr_nset {p k k2 l1 l2 i lb:Nat} {ns:List LN} {ss:List LS} (h:Fr p k (l1 :: l2 :: labN ns)) (h':Fr k k2 (lb :: labS ss)) (hi:i < ns.length) (h1:p ≤ k) (h2:k ≤ k2):Fr p k2 (l1 :: l2 :: labN (ns.set i ⟨lb,ss⟩)):=by
 have e2:labN ns = labN (ns.take i) ++ (labN [ns[i]] ++ labN (ns.drop (i + 1))):=by rw [← labN_app,← labN_app,List.singleton_append,← List.drop_eq_getElem_cons hi,List.take_append_drop]
 have hs:List.Sublist (l1 :: l2 :: (labN (ns.take i) ++ labN (ns.drop (i + 1)))) (l1 :: l2 :: labN ns):=by
  rw [e2]
  exact (((List.Sublist.refl _).append (List.sublist_append_right _ _)).cons_cons l2).cons_cons l1
 have hA:=(h.sub hs).app h' h1 h2
 rw [List.set_eq_take_append_cons_drop,if_pos hi,labN_app]
 refine hA.perm ?_
 have e3:labN (⟨lb,ss⟩ :: ns.drop (i + 1)) = (lb :: labS ss) ++ labN (ns.drop (i + 1)):=by simp [labN]
 rw [e3,List.cons_append,List.cons_append,List.append_assoc]
 exact (((List.perm_append_comm).append_left _).cons l2).cons l1
theorem wm1:wrap64 (-1 + 1) = -1 + 1:=by unfold wrap64;omega
theorem fr_tail2 {p k x y:Nat} {L:List Nat} (h:Fr p k (x :: y :: L)):Fr p k L:=h.sub ((List.sublist_cons_self y L).trans (List.sublist_cons_self x _))
theorem labN_two {p k k2:Nat} (lbA:Nat) (ssA:List LS) (lbB:Nat) (ssB:List LS) (h:Fr p k (lbA :: labS ssA)) (h':Fr k k2 (lbB :: labS ssB)) (h1:p ≤ k) (h2:k ≤ k2):Fr p k2 (labN [⟨lbA,ssA⟩,⟨lbB,ssB⟩]):=by
 have e:labN [⟨lbA,ssA⟩,⟨lbB,ssB⟩] = (lbA :: labS ssA) ++ (lbB :: labS ssB):=by simp [labN]
 rw [e]
 exact h.app h' h1 h2
theorem leP_same (p:PV):LeP p p:=⟨rfl,All2.of_get rfl (fun i a b h h'=>by rw [h] at h';obtain rfl:=Option.some.inj h';exact .refl _)⟩
theorem all_one {p p':PV} (h:LeP p p'):All2 LeP [p] [p']:=.cons h .nil
theorem all_fst {p p':PV} {l:List PV} (h:LeP p p'):All2 LeP (p :: l) (p' :: l):=.cons h (All2.of_get rfl (fun i a b h h'=>by rw [h] at h';obtain rfl:=Option.some.inj h';exact leP_same _))
end Go.Proofs.Ytamjbjkbineafaa.EvFnExactTreePut

namespace Go.Proofs.Ytamjbjkbineafaa.EvFnExactTreePut
open Go Go.RowKit Go.Proofs.Ytamjbjkbineafaa.Ev Go.Proofs.Ytamjbjkbineafaa.PFnExactTreePut Go.Proofs.YtamjbjkbineafaaW.PrintWords Go.Proofs.YtamjbjkbineafaaW.PrintLast
set_option linter.unusedVariables false
set_option linter.unusedSimpArgs false
attribute [local go_sem] aops_nil outI_done outI_call aopsD_nil outJ_done outJ_call semG sem0 semD semS M.run evO constA litOk litA AS.app AS.put List.map startL litF litB upd_at List.length_set Int.toNat_lt guardA boolA intA rowO cellsA readA argsL partsL fillL fzC fzL fzW loadV importR importC importW ownsP tsz tagg known elem? tby zeroC isNone binV dropW isCall resOf resC outL outC ownIds nodupB AS.ev mk_nil mk_at mo_nil mo_at beq_dec bne_dec thenQ blockQ kok_same kok_nx nx_zero if_true if_false Nat.add_zero Nat.zero_add Nat.le_refl true_and and_true List.getElem?_cons_zero List.getElem?_cons_succ List.getElem?_nil List.drop_succ_cons List.drop_zero List.take_succ_cons List.take_zero List.length_cons List.length_nil List.append_nil List.nil_append List.cons_append List.length_append List.any_cons List.any_nil keyC keysF setsF nodesF intsF nodeC keysE_len keysE_app keysE_one keysE_nil setsE_len setsE_app setsE_one setsE_nil nodesE_len nodesE_app nodesE_one nodesE_nil intsE_len intsE_app intsE_one intsE_nil keysE_get setsE_get nodesE_get intsE_get keysE_take keysE_drop nodesE_take nodesE_drop intsE_take intsE_drop setsE_set nodesE_set leK leL leA tmOk boxOk memOk rowOk rowsOk fzR List.contains_cons List.contains_nil Option.map_some Option.map_none ge_iff_le gt_iff_lt leF_same leE_same Option.isSome_some decide_true decide_false leC leCs or_true true_or range0 range1 range2 w64_ Bool.not_true Bool.not_false bne_self_eq_false beq_self_eq_true Bool.and_true Bool.false_or Bool.or_false List.getLast?_cons_cons List.getLast?_singleton List.dropLast_cons_cons List.dropLast_singleton Option.some.injEq M.rds W.loc nilV setC intC intsE_cons nodesE_cons leF_nil lB lC List.drop_nil nx_ne kok_s Nat.add_one_ne_zero ne_eq not_false_eq_true lssE_len lnsE_len eS_len eN_len lssE_app lnsE_app eS_app eN_app lssE_nil lnsE_nil lssE_one lnsE_one lnsE_take lnsE_drop lssE_set lnsE_set lnsE_get lssE_get lsC lnC Int.lt_irrefl
set_option maxHeartbeats 8000000 in
set_option maxRecDepth 100000 in
theorem impl_copyInts_l (q:Nat) (hq:q ≠ 0) (a0 r:List Int) (H:impl_copyInts.f a0 = some r):∃ r' k',SemCall 69 [⟨.one,[intsF a0]⟩] q r' k' ∧ (r' = ⟨.one,[.own q 3 (intsE r)]⟩ ∧ k' = q + 1):=by
 simp only [impl_copyInts.f] at H
 refine viaP fun P hP=>?_
 refine callL (P:=P) (rs:=[.tmp 2]) Try.func69 rfl tF rfl Try.ntmps69 (Nat.le_of_ble_eq_true rfl) rfl ?_
 repeat' (first|contradiction|(rw [Option.ite_none_right_eq_some] at H;obtain ⟨_,H⟩:=H)|(rw [ite_or] at H;rcases H with ⟨_,H⟩|⟨_,H⟩)|(split at H)|(simp only [Option.bind_some] at H)|(rw [Option.bind_eq_some_iff] at H;obtain ⟨_,A,H⟩:=H)|cases H)
 all_goals repeat' (first
  | apply awp_seq
  | (apply awp_reg;rfl;simp (decide:=true) only [↓aops_cons,↓aopsD_cons,go_sem, *])
  | (apply awp_block;(try simp only [blockQ]))
  | (apply condT;(· simp (decide:=true) only [↓aops_cons,↓aopsD_cons,go_sem, *]))
  | (apply condF;(· simp (decide:=true) only [↓aops_cons,↓aopsD_cons,go_sem, *]))
  | (apply awp_skip;simp (decide:=true) only [↓aops_cons,↓aopsD_cons,go_sem, *])
  | (apply awp_exit;simp (decide:=true) only [↓aops_cons,↓aopsD_cons,go_sem, *])
  | (apply awp_ret;simp (decide:=true) only [↓aops_cons,↓aopsD_cons,go_sem, *])
  | (refine And.intro (a:=indep _ _ = true) ta ?_)
  | (rw [if_pos (show _ * _ ≤ 140737488355328 by (try simp only [List.length_append,List.length_cons,List.length_nil,eN_len,eS_len] at *);omega)];simp (decide:=true) only [↓aops_cons,↓aopsD_cons,go_sem, *])
  | (refine And.intro (a:=indep _ _ = true) tF ?_)
  | apply awp_ret
  | (exact endP_ret tj tJ vP ⟨.one,[.own q 3 (intsE _)]⟩ ta tE (hP _ _ ⟨rfl,rfl⟩)))
set_option maxHeartbeats 8000000 in
set_option maxRecDepth 100000 in
theorem impl_copyKeys_l (q:Nat) (hq:q ≠ 0) (a0 r:List S38) (H:impl_copyKeys.f a0 = some r):∃ r' k',SemCall 91 [⟨.one,[keysF a0]⟩] q r' k' ∧ (r' = ⟨.one,[.own q 38 (keysE r)]⟩ ∧ k' = q + 1):=by
 simp only [impl_copyKeys.f] at H
 refine viaP fun P hP=>?_
 refine callL (P:=P) (rs:=[.tmp 2]) Try.func91 rfl tF rfl Try.ntmps91 (Nat.le_of_ble_eq_true rfl) rfl ?_
 repeat' (first|contradiction|(rw [Option.ite_none_right_eq_some] at H;obtain ⟨_,H⟩:=H)|(rw [ite_or] at H;rcases H with ⟨_,H⟩|⟨_,H⟩)|(split at H)|(simp only [Option.bind_some] at H)|(rw [Option.bind_eq_some_iff] at H;obtain ⟨_,A,H⟩:=H)|cases H)
 all_goals repeat' (first
  | apply awp_seq
  | (apply awp_reg;rfl;simp (decide:=true) only [↓aops_cons,↓aopsD_cons,go_sem, *])
  | (apply awp_block;(try simp only [blockQ]))
  | (apply condT;(· simp (decide:=true) only [↓aops_cons,↓aopsD_cons,go_sem, *]))
  | (apply condF;(· simp (decide:=true) only [↓aops_cons,↓aopsD_cons,go_sem, *]))
  | (apply awp_skip;simp (decide:=true) only [↓aops_cons,↓aopsD_cons,go_sem, *])
  | (apply awp_exit;simp (decide:=true) only [↓aops_cons,↓aopsD_cons,go_sem, *])
  | (apply awp_ret;simp (decide:=true) only [↓aops_cons,↓aopsD_cons,go_sem, *])
  | (refine And.intro (a:=indep _ _ = true) ta ?_)
  | (rw [if_pos (show _ * _ ≤ 140737488355328 by (try simp only [List.length_append,List.length_cons,List.length_nil,eN_len,eS_len] at *);omega)];simp (decide:=true) only [↓aops_cons,↓aopsD_cons,go_sem, *])
  | (refine And.intro (a:=indep _ _ = true) tF ?_)
  | apply awp_ret
  | (exact endP_ret tj tJ vP ⟨.one,[.own q 38 (keysE _)]⟩ ta tE (hP _ _ ⟨rfl,rfl⟩)))
set_option maxHeartbeats 8000000 in
set_option maxRecDepth 100000 in
theorem impl_copyNode_l (q:Nat) (hq:q ≠ 0) (k:Nat) (a0 r:List (List S38)) (H:impl_copyNode.f k a0 = some r):∃ r' k',SemCall 70 [⟨.agg,[setsF a0]⟩] q r' k' ∧ ((k' ≠ 0 ∧ q < k') ∧ ∃ lb ss,r' = ⟨.agg,[.own lb 45 (lssE ss)]⟩ ∧ eS ss = r ∧ Fr q k' (lb :: labS ss)):=by
 simp only [impl_copyNode.f] at H
 refine viaP fun P hP=>?_
 refine callL (P:=P) (rs:=[.cell 2 59]) Try.func70 rfl tF rfl Try.ntmps70 (Nat.le_of_ble_eq_true rfl) rfl ?_
 all_goals repeat' (first
  | apply awp_seq
  | (apply awp_reg;rfl;simp (decide:=true) only [↓aops_cons,↓aopsD_cons,go_sem, *])
  | (apply awp_block;(try simp only [blockQ]))
  | (apply condT;(· simp (decide:=true) only [↓aops_cons,↓aopsD_cons,go_sem, *]))
  | (apply condF;(· simp (decide:=true) only [↓aops_cons,↓aopsD_cons,go_sem, *]))
  | (apply awp_skip;simp (decide:=true) only [↓aops_cons,↓aopsD_cons,go_sem, *])
  | (apply awp_exit;simp (decide:=true) only [↓aops_cons,↓aopsD_cons,go_sem, *])
  | (apply awp_ret;simp (decide:=true) only [↓aops_cons,↓aopsD_cons,go_sem, *])
  | (apply awp_regD (id:=5) [0,1,0,4,12,31,63,127];rfl;kernel_rfl;simp (decide:=true) only [↓aops_cons,↓aopsD_cons,go_sem, *])
  | (refine And.intro (a:=indep _ _ = true) ta ?_)
  | (rw [if_pos (show _ * _ ≤ 140737488355328 by (try simp only [List.length_append,List.length_cons,List.length_nil,eN_len,eS_len] at *);omega)];simp (decide:=true) only [↓aops_cons,↓aopsD_cons,go_sem, *])
  | (refine callI_ex (impl_copyKeys_l _ tD _ _ tH) rfl ?_;rintro _ _ ⟨rfl,rfl⟩;simp (decide:=true) only [↓aops_cons,↓aopsD_cons,go_sem, *])
  | (refine callJ_ex (impl_copyKeys_l _ tD _ _ tH) rfl ?_;rintro _ _ ⟨rfl,rfl⟩;simp (decide:=true) only [↓aops_cons,↓aopsD_cons,go_sem, *])
  | (refine And.intro (a:=indep _ _ = true) tF ?_)
  | apply awp_ret
  | (exact endP_ret tj tJ vP ⟨.agg,[.own lb 45 (lssE ss)]⟩ ta tE (hP _ _ ⟨⟨vG,vG⟩,lb,ss,rfl,by first|rfl|assumption,hfr.mono tD tD⟩))
  | (rw [← eS_snoc (lb:=k)] at H;refine ⟨_,_,_,?_,weakL [] ?_,lb,_,_,⟨?_,?_,?_⟩,rfl,H⟩;(· omega);(· simp (decide:=true) only [↓aops_cons,↓aopsD_cons,go_sem, *]);(· omega);(· omega);(· rw [labS_app,← List.cons_append];exact Fr.app (M:=[k]) hfr (Fr.one (Nat.le_refl _) tD) tD tD)))
 all_goals
  refine loopX (fun m k s=>∃ (lb:Nat) (ss:List LS) (x10:Int),(k ≠ 0 ∧ q < k ∧ Fr q k (lb :: labS ss)) ∧ s = ⟨mk [(1,.addr 1 0),(2,.addr 2 0),(3,.addr 3 0),(8,.v .one [.fv (setsF (a0))]),(9,.v .one [.fv (litF ((a0.length:Int)))]),(10,.v .one [.fv (litF (x10))])],mo [(1,⟨59,[.fv (setsF a0)]⟩),(2,⟨59,[.fv (.lit nilV)]⟩),(3,⟨59,[.own 999 ss.length]⟩)],mo [(999,⟨lb,45,lssE ss,false⟩)]⟩ ∧ impl_copyNode.l0 m a0 (a0.length:Int) x10 (eS ss) = some r) ?h0 ?hr
  case h0=>exact ⟨_,_,_,weakLK 3 0 999 45 ta ta ta [] tM,_,[],0,⟨by simp only [nx_ne hq];omega,by simp only [nx_ne hq];omega,Fr.one (Nat.le_refl _) (by simp only [nx_ne hq];omega)⟩,rfl,H⟩
  case hr =>
   rintro m k s ⟨lb,ss,x10,hc,rfl,H⟩
   obtain ⟨hk0,hk1,hfr⟩:=hc;have hln:=eS_len ss;have hlb:=hfr.1 lb List.mem_cons_self;cases m with
   | zero=>cases H
   | succ m =>
    simp only [impl_copyNode.l0] at H
    repeat' (first|contradiction|(rw [Option.ite_none_right_eq_some] at H;obtain ⟨_,H⟩:=H)|(rw [ite_or] at H;rcases H with ⟨_,H⟩|⟨_,H⟩)|(split at H)|(simp only [Option.bind_some] at H)|(rw [Option.bind_eq_some_iff] at H;obtain ⟨_,A,H⟩:=H)|cases H)
    all_goals repeat' (first
      | apply awp_seq
      | (apply awp_reg;rfl;simp (decide:=true) only [↓aops_cons,↓aopsD_cons,go_sem, *])
      | (apply awp_block;(try simp only [blockQ]))
      | (apply condT;(· simp (decide:=true) only [↓aops_cons,↓aopsD_cons,go_sem, *]))
      | (apply condF;(· simp (decide:=true) only [↓aops_cons,↓aopsD_cons,go_sem, *]))
      | (apply awp_skip;simp (decide:=true) only [↓aops_cons,↓aopsD_cons,go_sem, *])
      | (apply awp_exit;simp (decide:=true) only [↓aops_cons,↓aopsD_cons,go_sem, *])
      | (apply awp_ret;simp (decide:=true) only [↓aops_cons,↓aopsD_cons,go_sem, *])
      | (apply awp_regD (id:=5) [0,1,0,4,12,31,63,127];rfl;kernel_rfl;simp (decide:=true) only [↓aops_cons,↓aopsD_cons,go_sem, *])
      | (refine And.intro (a:=indep _ _ = true) ta ?_)
      | (rw [if_pos (show _ * _ ≤ 140737488355328 by (try simp only [List.length_append,List.length_cons,List.length_nil,eN_len,eS_len] at *);omega)];simp (decide:=true) only [↓aops_cons,↓aopsD_cons,go_sem, *])
      | (refine callI_ex (impl_copyKeys_l _ tD _ _ tH) rfl ?_;rintro _ _ ⟨rfl,rfl⟩;simp (decide:=true) only [↓aops_cons,↓aopsD_cons,go_sem, *])
      | (refine callJ_ex (impl_copyKeys_l _ tD _ _ tH) rfl ?_;rintro _ _ ⟨rfl,rfl⟩;simp (decide:=true) only [↓aops_cons,↓aopsD_cons,go_sem, *])
      | (refine And.intro (a:=indep _ _ = true) tF ?_)
      | apply awp_ret
      | (exact endP_ret tj tJ vP ⟨.agg,[.own lb 45 (lssE ss)]⟩ ta tE (hP _ _ ⟨⟨vG,vG⟩,lb,ss,rfl,by first|rfl|assumption,hfr.mono tD tD⟩))
      | (rw [← eS_snoc (lb:=k)] at H;refine ⟨_,_,_,?_,weakL [] ?_,lb,_,_,⟨?_,?_,?_⟩,rfl,H⟩;(· omega);(· simp (decide:=true) only [↓aops_cons,↓aopsD_cons,go_sem, *]);(· omega);(· omega);(· rw [labS_app,← List.cons_append];exact Fr.app (M:=[k]) hfr (Fr.one (Nat.le_refl _) tD) tD tD)))
set_option maxHeartbeats 8000000 in
set_option maxRecDepth 100000 in
theorem impl_copyTree_l (q:Nat) (hq:q ≠ 0) (k:Nat) (a00 r0:List Int) (a01 r1:List S59) (H:impl_copyTree.f k a00 a01 = some (r0,r1)):∃ r' k',SemCall 31 [⟨.agg,[intsF a00,nodesF a01]⟩] q r' k' ∧ ((k' ≠ 0 ∧ q < k') ∧ ∃ l1 l2 ns,r' = ⟨.agg,[.own l1 3 (intsE r0),.own l2 59 (lnsE ns)]⟩ ∧ eN ns = r1 ∧ Fr q k' (l1 :: l2 :: labN ns)):=by
 simp only [impl_copyTree.f] at H
 refine viaP fun P hP=>?_
 refine callL (P:=P) (rs:=[.cell 2 29]) Try.func31 rfl tF rfl Try.ntmps31 (Nat.le_of_ble_eq_true rfl) rfl ?_
 repeat' (first|contradiction|(rw [Option.ite_none_right_eq_some] at H;obtain ⟨_,H⟩:=H)|(rw [ite_or] at H;rcases H with ⟨_,H⟩|⟨_,H⟩)|(split at H)|(simp only [Option.bind_some] at H)|(rw [Option.bind_eq_some_iff] at H;obtain ⟨_,A,H⟩:=H)|cases H)
 all_goals repeat' (first
  | apply awp_seq
  | (apply awp_reg;rfl;simp (decide:=true) only [↓aops_cons,↓aopsD_cons,go_sem, *])
  | (apply awp_block;(try simp only [blockQ]))
  | (apply condT;(· simp (decide:=true) only [↓aops_cons,↓aopsD_cons,go_sem, *]))
  | (apply condF;(· simp (decide:=true) only [↓aops_cons,↓aopsD_cons,go_sem, *]))
  | (apply awp_skip;simp (decide:=true) only [↓aops_cons,↓aopsD_cons,go_sem, *])
  | (apply awp_exit;simp (decide:=true) only [↓aops_cons,↓aopsD_cons,go_sem, *])
  | (apply awp_ret;simp (decide:=true) only [↓aops_cons,↓aopsD_cons,go_sem, *])
  | (apply awp_regD (id:=5) [0,1,0,4,12,31,63,127];rfl;kernel_rfl;simp (decide:=true) only [↓aops_cons,↓aopsD_cons,go_sem, *])
  | (refine And.intro (a:=indep _ _ = true) ta ?_)
  | (rw [if_pos (show _ * _ ≤ 140737488355328 by (try simp only [List.length_append,List.length_cons,List.length_nil,eN_len,eS_len] at *);omega)];simp (decide:=true) only [↓aops_cons,↓aopsD_cons,go_sem, *])
  | (refine callI_ex (impl_copyInts_l _ tD _ _ tH) rfl ?_;rintro _ _ ⟨rfl,rfl⟩;simp (decide:=true) only [↓aops_cons,↓aopsD_cons,go_sem, *])
  | (refine callJ_ex (impl_copyInts_l _ tD _ _ tH) rfl ?_;rintro _ _ ⟨rfl,rfl⟩;simp (decide:=true) only [↓aops_cons,↓aopsD_cons,go_sem, *])
  | (refine callI_ex (impl_copyNode_l _ tD _ _ _ tH) rfl ?_;rintro _ _ ⟨⟨hk2,hq2⟩,lb,ss,rfl,rfl,hf2⟩;simp (decide:=true) only [↓aops_cons,↓aopsD_cons,go_sem, *])
  | (refine callJ_ex (impl_copyNode_l _ tD _ _ _ tH) rfl ?_;rintro _ _ ⟨⟨hk2,hq2⟩,lb,ss,rfl,rfl,hf2⟩;simp (decide:=true) only [↓aops_cons,↓aopsD_cons,go_sem, *])
  | (refine And.intro (a:=indep _ _ = true) tF ?_)
  | apply awp_ret
  | (exact endP_ret tj tJ vP ⟨.agg,[.own l1 3 (intsE _),.own l2 59 (lnsE ns)]⟩ ta tE (hP _ _ ⟨⟨vG,vG⟩,l1,l2,ns,rfl,by first|rfl|assumption,hfr.mono tD tD⟩))
  | (rw [← eN_snoc (lb:=lb)] at H;refine ⟨_,_,_,?_,weakL [] ?_,l1,l2,_,_,_,⟨?_,?_,?_⟩,rfl,H⟩;(· omega);(· simp (decide:=true) only [↓aops_cons,↓aopsD_cons,go_sem, *]);(· omega);(· omega);(· rw [labN_app,← List.cons_append,← List.cons_append];exact Fr.app (M:=labN [⟨lb,ss⟩]) hfr ((labN_one lb ss).symm ▸ hf2.mono (Nat.le_refl _) tD) tD tD)))
 all_goals
  refine loopX (fun m k s=>∃ (l1 l2:Nat) (x7:List Int) (ns:List LN) (x13:Int),(k ≠ 0 ∧ q < k ∧ Fr q k (l1 :: l2 :: labN ns)) ∧ s = ⟨mk [(1,.addr 1 0),(2,.addr 2 0),(3,.addr 3 0),(11,.v .one [.fv (nodesF (a01))]),(12,.v .one [.fv (litF ((a01.length:Int)))]),(13,.v .one [.fv (litF (x13))])],mo [(1,⟨29,[.fv (intsF a00),.fv (nodesF a01)]⟩),(2,⟨29,[.fv (.lit nilV),.fv (.lit nilV)]⟩),(3,⟨29,[.own 1008 x7.length,.own 999 ns.length]⟩)],mo [(1008,⟨l1,3,intsE x7,false⟩),(999,⟨l2,59,lnsE ns,false⟩)]⟩ ∧ impl_copyTree.l0 m a01 (a01.length:Int) x13 x7 (eN ns) = some (r0,r1)) ?h0 ?hr
  case h0=>exact ⟨_,_,_,weakLK 3 1 999 59 ta ta ta [] tM,q,q + 1,_,[],0,⟨by simp only [nx_ne (Nat.succ_ne_zero q)];omega,by simp only [nx_ne (Nat.succ_ne_zero q)];omega,fr_two (Nat.le_refl _) tD (by simp only [nx_ne (Nat.succ_ne_zero q)];omega)⟩,rfl,H⟩
  case hr =>
   rintro m k s ⟨l1,l2,x7,ns,x13,hc,rfl,H⟩
   obtain ⟨hk0,hk1,hfr⟩:=hc;have hln:=eN_len ns;have hl1:=hfr.1 l1 List.mem_cons_self;have hl2:=hfr.1 l2 (List.mem_cons_of_mem _ List.mem_cons_self);cases m with
   | zero=>cases H
   | succ m =>
    simp only [impl_copyTree.l0] at H
    repeat' (first|contradiction|(rw [Option.ite_none_right_eq_some] at H;obtain ⟨_,H⟩:=H)|(rw [ite_or] at H;rcases H with ⟨_,H⟩|⟨_,H⟩)|(split at H)|(simp only [Option.bind_some] at H)|(rw [Option.bind_eq_some_iff] at H;obtain ⟨_,A,H⟩:=H)|cases H)
    all_goals repeat' (first
      | apply awp_seq
      | (apply awp_reg;rfl;simp (decide:=true) only [↓aops_cons,↓aopsD_cons,go_sem, *])
      | (apply awp_block;(try simp only [blockQ]))
      | (apply condT;(· simp (decide:=true) only [↓aops_cons,↓aopsD_cons,go_sem, *]))
      | (apply condF;(· simp (decide:=true) only [↓aops_cons,↓aopsD_cons,go_sem, *]))
      | (apply awp_skip;simp (decide:=true) only [↓aops_cons,↓aopsD_cons,go_sem, *])
      | (apply awp_exit;simp (decide:=true) only [↓aops_cons,↓aopsD_cons,go_sem, *])
      | (apply awp_ret;simp (decide:=true) only [↓aops_cons,↓aopsD_cons,go_sem, *])
      | (apply awp_regD (id:=5) [0,1,0,4,12,31,63,127];rfl;kernel_rfl;simp (decide:=true) only [↓aops_cons,↓aopsD_cons,go_sem, *])
      | (refine And.intro (a:=indep _ _ = true) ta ?_)
      | (rw [if_pos (show _ * _ ≤ 140737488355328 by (try simp only [List.length_append,List.length_cons,List.length_nil,eN_len,eS_len] at *);omega)];simp (decide:=true) only [↓aops_cons,↓aopsD_cons,go_sem, *])
      | (refine callI_ex (impl_copyInts_l _ tD _ _ tH) rfl ?_;rintro _ _ ⟨rfl,rfl⟩;simp (decide:=true) only [↓aops_cons,↓aopsD_cons,go_sem, *])
      | (refine callJ_ex (impl_copyInts_l _ tD _ _ tH) rfl ?_;rintro _ _ ⟨rfl,rfl⟩;simp (decide:=true) only [↓aops_cons,↓aopsD_cons,go_sem, *])
      | (refine callI_ex (impl_copyNode_l _ tD _ _ _ tH) rfl ?_;rintro _ _ ⟨⟨hk2,hq2⟩,lb,ss,rfl,rfl,hf2⟩;simp (decide:=true) only [↓aops_cons,↓aopsD_cons,go_sem, *])
      | (refine callJ_ex (impl_copyNode_l _ tD _ _ _ tH) rfl ?_;rintro _ _ ⟨⟨hk2,hq2⟩,lb,ss,rfl,rfl,hf2⟩;simp (decide:=true) only [↓aops_cons,↓aopsD_cons,go_sem, *])
      | (refine And.intro (a:=indep _ _ = true) tF ?_)
      | apply awp_ret
      | (exact endP_ret tj tJ vP ⟨.agg,[.own l1 3 (intsE _),.own l2 59 (lnsE ns)]⟩ ta tE (hP _ _ ⟨⟨vG,vG⟩,l1,l2,ns,rfl,by first|rfl|assumption,hfr.mono tD tD⟩))
      | (rw [← eN_snoc (lb:=lb)] at H;refine ⟨_,_,_,?_,weakL [] ?_,l1,l2,_,_,_,⟨?_,?_,?_⟩,rfl,H⟩;(· omega);(· simp (decide:=true) only [↓aops_cons,↓aopsD_cons,go_sem, *]);(· omega);(· omega);(· rw [labN_app,← List.cons_append,← List.cons_append];exact Fr.app (M:=labN [⟨lb,ss⟩]) hfr ((labN_one lb ss).symm ▸ hf2.mono (Nat.le_refl _) tD) tD tD)))
set_option maxHeartbeats 8000000 in
set_option maxRecDepth 100000 in
theorem impl_NodeNew_l0 (q:Nat) (hq:q ≠ 0) (a0:List S38) (r:List (List S38)) (H:impl_NodeNew.f a0 = some r):∃ r' k',SemCall 64 [⟨.one,[keysF a0]⟩] q r' k' ∧ ((r' = ⟨.agg,[.fv (.lit nilV)]⟩ ∧ r = [] ∧ k' = q) ∨ (k' = q + 2 ∧ ∃ t,r = [t] ∧ r' = ⟨.agg,[.fv (.row (q + 1) 45 (lssE [⟨q,t⟩]))]⟩)):=by
 simp only [impl_NodeNew.f] at H
 refine viaP fun P hP=>?_
 refine callL (P:=P) (rs:=[.cell 2 59]) Try.func64 rfl tF rfl Try.ntmps64 (Nat.le_of_ble_eq_true rfl) rfl ?_
 repeat' (first|contradiction|(rw [Option.ite_none_right_eq_some] at H;obtain ⟨_,H⟩:=H)|(rw [ite_or] at H;rcases H with ⟨_,H⟩|⟨_,H⟩)|(split at H)|(simp only [Option.bind_some] at H)|(rw [Option.bind_eq_some_iff] at H;obtain ⟨_,A,H⟩:=H)|cases H)
 all_goals repeat' (first
  | apply awp_seq
  | (apply awp_reg;rfl;simp (decide:=true) only [↓aops_cons,↓aopsD_cons,go_sem, *])
  | (apply awp_block;(try simp only [blockQ]))
  | (apply condT;(· simp (decide:=true) only [↓aops_cons,↓aopsD_cons,go_sem, *]))
  | (apply condF;(· simp (decide:=true) only [↓aops_cons,↓aopsD_cons,go_sem, *]))
  | (apply awp_skip;simp (decide:=true) only [↓aops_cons,↓aopsD_cons,go_sem, *])
  | (apply awp_exit;simp (decide:=true) only [↓aops_cons,↓aopsD_cons,go_sem, *])
  | (apply awp_ret;simp (decide:=true) only [↓aops_cons,↓aopsD_cons,go_sem, *])
  | (refine And.intro (a:=indep _ _ = true) ta ?_)
  | (rw [if_pos (show _ * _ ≤ 140737488355328 by (try simp only [List.length_append,List.length_cons,List.length_nil,eN_len,eS_len] at *);omega)];simp (decide:=true) only [↓aops_cons,↓aopsD_cons,go_sem, *])
  | (refine callI_ex (impl_copyKeys_l _ tD _ _ tH) rfl ?_;rintro _ _ ⟨rfl,rfl⟩;simp (decide:=true) only [↓aops_cons,↓aopsD_cons,go_sem, *])
  | (refine callJ_ex (impl_copyKeys_l _ tD _ _ tH) rfl ?_;rintro _ _ ⟨rfl,rfl⟩;simp (decide:=true) only [↓aops_cons,↓aopsD_cons,go_sem, *])
  | (refine And.intro (a:=indep _ _ = true) tF ?_)
  | apply awp_ret
  | (exact endP_ret tj tJ vP ⟨.agg,[.fv (.lit nilV)]⟩ ta tE (hP _ _ (.inl ⟨rfl,rfl,rfl⟩)))
  | (exact endP_ret tj tJ vP ⟨.agg,[.fv (.row (q + 1) 45 (lssE [⟨q,_⟩]))]⟩ ta tE (hP _ _ (.inr ⟨rfl,_,rfl,rfl⟩))))
theorem impl_NodeNew_l (q:Nat) (hq:q ≠ 0) (a0:List S38) (r:List (List S38)) (H:impl_NodeNew.f a0 = some r):∃ r' k',SemCall 64 [⟨.one,[keysF a0]⟩] q r' k' ∧ ((k' ≠ 0 ∧ q < k') ∧ ∃ lb ss,r' = ⟨.agg,[.fv (.row lb 45 (lssE ss))]⟩ ∧ eS ss = r ∧ Fr q k' (lb :: labS ss)):=by
 obtain ⟨r',k',h,⟨rfl,rfl,rfl⟩|⟨rfl,t,rfl,rfl⟩⟩:=impl_NodeNew_l0 q hq a0 r H
 ·exact ⟨_,k' + 1,(h.nilLab k' 45).le ⟨vG,fun e=>absurd e hq⟩,⟨vG,vG⟩,k',[],rfl,rfl,Fr.one (Nat.le_refl _) tD⟩
 ·exact ⟨_,_,h,⟨vG,vG⟩,q + 1,[⟨q,t⟩],rfl,rfl,fun x hx=>by simp only [labS,List.map_cons,List.map_nil,List.mem_cons,List.not_mem_nil,or_false] at hx;omega,by simp [labS]⟩
end Go.Proofs.Ytamjbjkbineafaa.EvFnExactTreePut

namespace Go.Proofs.Ytamjbjkbineafaa.EvFnExactTreePut
open Go Go.RowKit Go.Proofs.Ytamjbjkbineafaa.Ev Go.Proofs.Ytamjbjkbineafaa.PFnExactTreePut Go.Proofs.YtamjbjkbineafaaW.PrintWords Go.Proofs.YtamjbjkbineafaaW.PrintLast
set_option linter.unusedVariables false
set_option linter.unusedSimpArgs false
attribute [local go_sem] aops_nil outI_done outI_call aopsD_nil outJ_done outJ_call semG sem0 semD semS M.run evO constA litOk litA AS.app AS.put List.map startL litF litB upd_at List.length_set Int.toNat_lt guardA boolA intA rowO cellsA readA argsL partsL fillL fzC fzL fzW loadV importR importC importW ownsP tsz tagg known elem? tby zeroC isNone binV dropW isCall resOf resC outL outC ownIds nodupB AS.ev mk_nil mk_at mo_nil mo_at beq_dec bne_dec thenQ blockQ kok_same kok_nx nx_zero if_true if_false Nat.add_zero Nat.zero_add Nat.le_refl true_and and_true List.getElem?_cons_zero List.getElem?_cons_succ List.getElem?_nil List.drop_succ_cons List.drop_zero List.take_succ_cons List.take_zero List.length_cons List.length_nil List.append_nil List.nil_append List.cons_append List.length_append List.any_cons List.any_nil keyC keysF setsF nodesF intsF nodeC keysE_len keysE_app keysE_one keysE_nil setsE_len setsE_app setsE_one setsE_nil nodesE_len nodesE_app nodesE_one nodesE_nil intsE_len intsE_app intsE_one intsE_nil keysE_get setsE_get nodesE_get intsE_get keysE_take keysE_drop nodesE_take nodesE_drop intsE_take intsE_drop setsE_set nodesE_set leK leL leA tmOk boxOk memOk rowOk rowsOk fzR List.contains_cons List.contains_nil Option.map_some Option.map_none ge_iff_le gt_iff_lt leF_same leE_same Option.isSome_some decide_true decide_false endQ own0 leC leCs or_true true_or range0 range1 range2 w64_ Bool.not_true Bool.not_false bne_self_eq_false beq_self_eq_true Bool.and_true Bool.false_or Bool.or_false List.getLast?_cons_cons List.getLast?_singleton List.dropLast_cons_cons List.dropLast_singleton Option.some.injEq M.rds W.loc nilV setC intC intsE_cons nodesE_cons leF_nil lB lC List.drop_nil Int.lt_irrefl
set_option maxHeartbeats 8000000 in
set_option maxRecDepth 100000 in
theorem impl_LessKey_s (a00 a01 a02 a03 a04:Int) (a10 a11 a12 a13 a14:Int) (r:Bool) (H:impl_LessKey.f a00 a01 a02 a03 a04 a10 a11 a12 a13 a14 = some r):SemCall 99 [⟨.agg,[litF a00,litF a01,litF a02,litF a03,litF a04]⟩,⟨.agg,[litF a10,litF a11,litF a12,litF a13,litF a14]⟩] 0 ⟨.one,[.fv (litB r)]⟩ 0:=by
 simp only [impl_LessKey.f] at H
 refine call0 (rs:=[.tmp 4]) Try.func99 rfl tF rfl Try.ntmps99 (Nat.le_of_ble_eq_true rfl) rfl ?_
 repeat' (first|contradiction|(rw [Option.ite_none_right_eq_some] at H;obtain ⟨_,H⟩:=H)|(rw [ite_or] at H;rcases H with ⟨_,H⟩|⟨_,H⟩)|(split at H)|(simp only [Option.bind_some] at H)|(rw [Option.bind_eq_some_iff] at H;obtain ⟨_,A,H⟩:=H)|cases H)
 all_goals repeat' (first
  | apply awp_seq
  | (apply awp_reg;rfl;simp (decide:=true) only [↓aops_cons,↓aopsD_cons,go_sem, *])
  | (apply awp_block;(try simp only [blockQ]))
  | (apply condT;(· simp (decide:=true) only [↓aops_cons,↓aopsD_cons,go_sem, *]))
  | (apply condF;(· simp (decide:=true) only [↓aops_cons,↓aopsD_cons,go_sem, *]))
  | (apply awp_skip;simp (decide:=true) only [↓aops_cons,↓aopsD_cons,go_sem, *])
  | (apply awp_exit;simp (decide:=true) only [↓aops_cons,↓aopsD_cons,go_sem, *])
  | (apply awp_ret;simp (decide:=true) only [↓aops_cons,↓aopsD_cons,go_sem, *])
  | (refine And.intro (a:=indep _ _ = true) ta ?_)
  | (rw [if_pos (show _ * _ ≤ 140737488355328 by (try simp only [List.length_append,List.length_cons,List.length_nil] at *);omega)];simp (decide:=true) only [↓aops_cons,↓aopsD_cons,go_sem, *]))
end Go.Proofs.Ytamjbjkbineafaa.EvFnExactTreePut

namespace Go.Proofs.Ytamjbjkbineafaa.EvFnExactTreePut
open Go Go.RowKit Go.Proofs.Ytamjbjkbineafaa.Ev Go.Proofs.Ytamjbjkbineafaa.PFnExactTreePut Go.Proofs.YtamjbjkbineafaaW.PrintWords Go.Proofs.YtamjbjkbineafaaW.PrintLast
set_option linter.unusedVariables false
set_option linter.unusedSimpArgs false
attribute [local go_sem] aops_nil outI_done outI_call aopsD_nil outJ_done outJ_call semG sem0 semD semS M.run evO constA litOk litA AS.app AS.put List.map startL litF litB upd_at List.length_set Int.toNat_lt guardA boolA intA rowO cellsA readA argsL partsL fillL fzC fzL fzW loadV importR importC importW ownsP tsz tagg known elem? tby zeroC isNone binV dropW isCall resOf resC outL outC ownIds nodupB AS.ev mk_nil mk_at mo_nil mo_at beq_dec bne_dec thenQ blockQ kok_same kok_nx nx_zero if_true if_false Nat.add_zero Nat.zero_add Nat.le_refl true_and and_true List.getElem?_cons_zero List.getElem?_cons_succ List.getElem?_nil List.drop_succ_cons List.drop_zero List.take_succ_cons List.take_zero List.length_cons List.length_nil List.append_nil List.nil_append List.cons_append List.length_append List.any_cons List.any_nil keyC keysF setsF nodesF intsF nodeC keysE_len keysE_app keysE_one keysE_nil setsE_len setsE_app setsE_one setsE_nil nodesE_len nodesE_app nodesE_one nodesE_nil intsE_len intsE_app intsE_one intsE_nil keysE_get setsE_get nodesE_get intsE_get keysE_take keysE_drop nodesE_take nodesE_drop intsE_take intsE_drop setsE_set nodesE_set leK leL leA tmOk boxOk memOk rowOk rowsOk fzR List.contains_cons List.contains_nil Option.map_some Option.map_none ge_iff_le gt_iff_lt leF_same leE_same Option.isSome_some decide_true decide_false endQ own0 leC leCs or_true true_or range0 range1 range2 w64_ Bool.not_true Bool.not_false bne_self_eq_false beq_self_eq_true Bool.and_true Bool.false_or Bool.or_false List.getLast?_cons_cons List.getLast?_singleton List.dropLast_cons_cons List.dropLast_singleton Option.some.injEq M.rds W.loc nilV setC intC intsE_cons nodesE_cons leF_nil lB lC List.drop_nil
set_option maxHeartbeats 8000000 in
set_option maxRecDepth 100000 in
theorem impl_SameSpot_s (a00 a01 a02 a03 a04:Int) (a10 a11 a12 a13 a14:Int) (r:Bool) (H:impl_SameSpot.f a00 a01 a02 a03 a04 a10 a11 a12 a13 a14 = some r):SemCall 102 [⟨.agg,[litF a00,litF a01,litF a02,litF a03,litF a04]⟩,⟨.agg,[litF a10,litF a11,litF a12,litF a13,litF a14]⟩] 0 ⟨.one,[.fv (litB r)]⟩ 0:=by
 simp only [impl_SameSpot.f] at H
 refine call0 (rs:=[.tmp 4]) Try.func102 rfl tF rfl Try.ntmps102 (Nat.le_of_ble_eq_true rfl) rfl ?_
 repeat' (first|contradiction|(rw [Option.ite_none_right_eq_some] at H;obtain ⟨_,H⟩:=H)|(rw [ite_or] at H;rcases H with ⟨_,H⟩|⟨_,H⟩)|(split at H)|(simp only [Option.bind_some] at H)|(rw [Option.bind_eq_some_iff] at H;obtain ⟨_,A,H⟩:=H)|cases H)
 all_goals repeat' (first
  | apply awp_seq
  | (apply awp_reg;rfl;simp (decide:=true) only [↓aops_cons,↓aopsD_cons,go_sem, *])
  | (apply awp_block;(try simp only [blockQ]))
  | (apply condT;(· simp (decide:=true) only [↓aops_cons,↓aopsD_cons,go_sem, *]))
  | (apply condF;(· simp (decide:=true) only [↓aops_cons,↓aopsD_cons,go_sem, *]))
  | (apply awp_skip;simp (decide:=true) only [↓aops_cons,↓aopsD_cons,go_sem, *])
  | (apply awp_exit;simp (decide:=true) only [↓aops_cons,↓aopsD_cons,go_sem, *])
  | (apply awp_ret;simp (decide:=true) only [↓aops_cons,↓aopsD_cons,go_sem, *])
  | (refine And.intro (a:=indep _ _ = true) ta ?_)
  | (rw [if_pos (show _ * _ ≤ 140737488355328 by (try simp only [List.length_append,List.length_cons,List.length_nil] at *);omega)];simp (decide:=true) only [↓aops_cons,↓aopsD_cons,go_sem, *]))
end Go.Proofs.Ytamjbjkbineafaa.EvFnExactTreePut

namespace Go.Proofs.Ytamjbjkbineafaa.EvFnExactTreePut
open Go Go.RowKit Go.Proofs.Ytamjbjkbineafaa.Ev Go.Proofs.Ytamjbjkbineafaa.PFnExactTreePut Go.Proofs.YtamjbjkbineafaaW.PrintWords Go.Proofs.YtamjbjkbineafaaW.PrintLast
set_option linter.unusedVariables false
set_option linter.unusedSimpArgs false
attribute [local go_sem] aops_nil outI_done outI_call aopsD_nil outJ_done outJ_call semG sem0 semD semS M.run evO constA litOk litA AS.app AS.put List.map startL litF litB upd_at List.length_set Int.toNat_lt guardA boolA intA rowO cellsA readA argsL partsL fillL fzC fzL fzW loadV importR importC importW ownsP tsz tagg known elem? tby zeroC isNone binV dropW isCall resOf resC outL outC ownIds nodupB AS.ev mk_nil mk_at mo_nil mo_at beq_dec bne_dec thenQ blockQ kok_same kok_nx nx_zero if_true if_false Nat.add_zero Nat.zero_add Nat.le_refl true_and and_true List.getElem?_cons_zero List.getElem?_cons_succ List.getElem?_nil List.drop_succ_cons List.drop_zero List.take_succ_cons List.take_zero List.length_cons List.length_nil List.append_nil List.nil_append List.cons_append List.length_append List.any_cons List.any_nil keyC keysF setsF nodesF intsF nodeC keysE_len keysE_app keysE_one keysE_nil setsE_len setsE_app setsE_one setsE_nil nodesE_len nodesE_app nodesE_one nodesE_nil intsE_len intsE_app intsE_one intsE_nil keysE_get setsE_get nodesE_get intsE_get keysE_take keysE_drop nodesE_take nodesE_drop intsE_take intsE_drop setsE_set nodesE_set leK leL leA tmOk boxOk memOk rowOk rowsOk fzR List.contains_cons List.contains_nil Option.map_some Option.map_none ge_iff_le gt_iff_lt leF_same leE_same Option.isSome_some decide_true decide_false leC leCs or_true true_or range0 range1 range2 w64_ Bool.not_true Bool.not_false bne_self_eq_false beq_self_eq_true Bool.and_true Bool.false_or Bool.or_false List.getLast?_cons_cons List.getLast?_singleton List.dropLast_cons_cons List.dropLast_singleton Option.some.injEq M.rds W.loc nilV setC intC intsE_cons nodesE_cons leF_nil lB lC List.drop_nil nx_ne kok_s Nat.add_one_ne_zero ne_eq not_false_eq_true lssE_len lnsE_len eS_len eN_len lssE_app lnsE_app eS_app eN_app lssE_nil lnsE_nil lssE_one lnsE_one lnsE_take lnsE_drop lssE_set lnsE_set lnsE_get lssE_get lsC lnC Int.lt_irrefl
theorem impl_SetPut.j1_t {y0 y1 y2 y3 y4 y5 y6 y7 y8 y9 y10 y11 y12 y13 y14 y15 r} {k:Nat} (H:impl_SetPut.j1 k y0 y1 y2 y3 y4 y5 y6 y7 y8 y9 y10 y11 y12 y13 y14 y15 = some r):∃ q,k = q + 1:=by cases k with
 | zero=>cases H
 | succ q=>exact ⟨q,rfl⟩
set_option maxHeartbeats 8000000 in
set_option maxRecDepth 100000 in
theorem impl_SetPut_l (q:Nat) (hq:q ≠ 0) (k:Nat) (a0:List S38) (a10 a11 a12 a13 a14:Int) (r:List S38) (H:impl_SetPut.f k a0 a10 a11 a12 a13 a14 = some r):∃ r' k',SemCall 90 [⟨.one,[keysF a0]⟩,⟨.agg,[litF a10,litF a11,litF a12,litF a13,litF a14]⟩] q r' k' ∧ (r' = ⟨.one,[.own q 38 (keysE r)]⟩ ∧ k' ≠ 0 ∧ q < k'):=by
 simp only [impl_SetPut.f] at H
 refine viaP fun P hP=>?_
 refine callL (P:=P) (rs:=[.tmp 4]) Try.func90 rfl tF rfl Try.ntmps90 (Nat.le_of_ble_eq_true rfl) rfl ?_
 all_goals repeat' (first
  | apply awp_seq
  | (apply awp_reg;rfl;simp (decide:=true) only [↓aops_cons,↓aopsD_cons,go_sem, *])
  | (apply awp_block;(try simp only [blockQ]))
  | (apply condT;(· simp (decide:=true) only [↓aops_cons,↓aopsD_cons,go_sem, *]))
  | (apply condF;(· simp (decide:=true) only [↓aops_cons,↓aopsD_cons,go_sem, *]))
  | (apply awp_skip;simp (decide:=true) only [↓aops_cons,↓aopsD_cons,go_sem, *])
  | (apply awp_exit;simp (decide:=true) only [↓aops_cons,↓aopsD_cons,go_sem, *])
  | (apply awp_ret;simp (decide:=true) only [↓aops_cons,↓aopsD_cons,go_sem, *])
  | (refine And.intro (a:=indep _ _ = true) ta ?_)
  | (rw [if_pos (show _ * _ ≤ 140737488355328 by (try simp only [List.length_append,List.length_cons,List.length_nil,eN_len,eS_len] at *);omega)];simp (decide:=true) only [↓aops_cons,↓aopsD_cons,go_sem, *])
  | (refine callI_of ((impl_LessKey_s _ _ _ _ _ _ _ _ _ _ _ tH).at_ _) ?_;simp (decide:=true) only [↓aops_cons,↓aopsD_cons,go_sem, *])
  | (refine callJ_of ((impl_LessKey_s _ _ _ _ _ _ _ _ _ _ _ tH).at_ _) ?_;simp (decide:=true) only [↓aops_cons,↓aopsD_cons,go_sem, *])
  | (refine callI_of ((impl_SameSpot_s _ _ _ _ _ _ _ _ _ _ _ tH).at_ _) ?_;simp (decide:=true) only [↓aops_cons,↓aopsD_cons,go_sem, *])
  | (refine callJ_of ((impl_SameSpot_s _ _ _ _ _ _ _ _ _ _ _ tH).at_ _) ?_;simp (decide:=true) only [↓aops_cons,↓aopsD_cons,go_sem, *])
  | (refine And.intro (a:=indep _ _ = true) tF ?_)
  | apply awp_ret
  | (exact endP_ret tj tJ vP ⟨.one,[.own q 38 _]⟩ ta tE (hP _ _ ⟨by first|rfl|(simp (decide:=true) only [↓aops_cons,↓aopsD_cons,go_sem, *];done),vG,vG⟩))
  | (refine ⟨_,_,_,?_,weakL [] ?_,_,_,_,⟨?_,?_⟩,rfl,H⟩;(· omega);(· simp (decide:=true) only [↓aops_cons,↓aopsD_cons,go_sem, *]);(· omega);(· omega)))
 all_goals
  refine loopX (fun m k s=>∃ (x5:List S38) (x6:Bool) (x12:Int),(k ≠ 0 ∧ q < k) ∧ s = ⟨mk [(3,.addr 3 0),(5,.v .one [.own 9 x5.length]),(6,.v .one [.fv (litB x6)]),(10,.v .one [.fv (keysF (a0))]),(11,.v .one [.fv (litF ((a0.length:Int)))]),(12,.v .one [.fv (litF (x12))])],mo [(3,⟨38,[.fv (litF a10),.fv (litF a11),.fv (litF a12),.fv (litF a13),.fv (litF a14)]⟩)],mo [(9,⟨q,38,keysE x5,false⟩)]⟩ ∧ impl_SetPut.l0 m x5 x6 a0 (a0.length:Int) x12 a10 a11 a12 a13 a14 = some r) ?h0 ?hr
  case h0=>exact ⟨_,_,_,weakL [] tM,[],false,0,⟨vG,vG⟩,rfl,H⟩
  case hr =>
   rintro m k s ⟨x5,x6,x12,hc,rfl,H⟩
   obtain ⟨hk0,hk1⟩:=hc;cases m with
   | zero=>cases H
   | succ m =>
    simp only [impl_SetPut.l0] at H
    repeat' (first|contradiction|(rw [Option.ite_none_right_eq_some] at H;obtain ⟨_,H⟩:=H)|(rw [ite_or] at H;rcases H with ⟨_,H⟩|⟨_,H⟩)|(split at H)|(simp only [Option.bind_some] at H)|(rw [Option.bind_eq_some_iff] at H;obtain ⟨_,A,H⟩:=H)|(obtain ⟨_,rfl⟩:=impl_SetPut.j1_t H;simp only [impl_SetPut.j1,beq_iff_eq,bne_iff_ne,ne_eq,ite_not] at H)|cases H)
    all_goals repeat' (first
      | apply awp_seq
      | (apply awp_reg;rfl;simp (decide:=true) only [↓aops_cons,↓aopsD_cons,go_sem, *])
      | (apply awp_block;(try simp only [blockQ]))
      | (apply condT;(· simp (decide:=true) only [↓aops_cons,↓aopsD_cons,go_sem, *]))
      | (apply condF;(· simp (decide:=true) only [↓aops_cons,↓aopsD_cons,go_sem, *]))
      | (apply awp_skip;simp (decide:=true) only [↓aops_cons,↓aopsD_cons,go_sem, *])
      | (apply awp_exit;simp (decide:=true) only [↓aops_cons,↓aopsD_cons,go_sem, *])
      | (apply awp_ret;simp (decide:=true) only [↓aops_cons,↓aopsD_cons,go_sem, *])
      | (refine And.intro (a:=indep _ _ = true) ta ?_)
      | (rw [if_pos (show _ * _ ≤ 140737488355328 by (try simp only [List.length_append,List.length_cons,List.length_nil,eN_len,eS_len] at *);omega)];simp (decide:=true) only [↓aops_cons,↓aopsD_cons,go_sem, *])
      | (refine callI_of ((impl_LessKey_s _ _ _ _ _ _ _ _ _ _ _ tH).at_ _) ?_;simp (decide:=true) only [↓aops_cons,↓aopsD_cons,go_sem, *])
      | (refine callJ_of ((impl_LessKey_s _ _ _ _ _ _ _ _ _ _ _ tH).at_ _) ?_;simp (decide:=true) only [↓aops_cons,↓aopsD_cons,go_sem, *])
      | (refine callI_of ((impl_SameSpot_s _ _ _ _ _ _ _ _ _ _ _ tH).at_ _) ?_;simp (decide:=true) only [↓aops_cons,↓aopsD_cons,go_sem, *])
      | (refine callJ_of ((impl_SameSpot_s _ _ _ _ _ _ _ _ _ _ _ tH).at_ _) ?_;simp (decide:=true) only [↓aops_cons,↓aopsD_cons,go_sem, *])
      | (refine And.intro (a:=indep _ _ = true) tF ?_)
      | apply awp_ret
      | (exact endP_ret tj tJ vP ⟨.one,[.own q 38 _]⟩ ta tE (hP _ _ ⟨by first|rfl|(simp (decide:=true) only [↓aops_cons,↓aopsD_cons,go_sem, *];done),vG,vG⟩))
      | (refine ⟨_,_,_,?_,weakL [] ?_,_,_,_,⟨?_,?_⟩,rfl,H⟩;(· omega);(· simp (decide:=true) only [↓aops_cons,↓aopsD_cons,go_sem, *]);(· omega);(· omega)))
end Go.Proofs.Ytamjbjkbineafaa.EvFnExactTreePut

namespace Go.Proofs.Ytamjbjkbineafaa.EvFnExactTreePut
open Go Go.RowKit Go.Proofs.Ytamjbjkbineafaa.Ev Go.Proofs.Ytamjbjkbineafaa.PFnExactTreePut Go.Proofs.YtamjbjkbineafaaW.PrintWords Go.Proofs.YtamjbjkbineafaaW.PrintLast
set_option linter.unusedVariables false
set_option linter.unusedSimpArgs false
attribute [local go_sem] aops_nil outI_done outI_call aopsD_nil outJ_done outJ_call semG sem0 semD semS M.run evO constA litOk litA AS.app AS.put List.map startL litF litB upd_at List.length_set Int.toNat_lt guardA boolA intA rowO cellsA readA argsL partsL fillL fzC fzL fzW loadV importR importC importW ownsP tsz tagg known elem? tby zeroC isNone binV dropW isCall resOf resC outL outC ownIds nodupB AS.ev mk_nil mk_at mo_nil mo_at beq_dec bne_dec thenQ blockQ kok_same kok_nx nx_zero if_true if_false Nat.add_zero Nat.zero_add Nat.le_refl true_and and_true List.getElem?_cons_zero List.getElem?_cons_succ List.getElem?_nil List.drop_succ_cons List.drop_zero List.take_succ_cons List.take_zero List.length_cons List.length_nil List.append_nil List.nil_append List.cons_append List.length_append List.any_cons List.any_nil keyC keysF setsF nodesF intsF nodeC keysE_len keysE_app keysE_one keysE_nil setsE_len setsE_app setsE_one setsE_nil nodesE_len nodesE_app nodesE_one nodesE_nil intsE_len intsE_app intsE_one intsE_nil keysE_get setsE_get nodesE_get intsE_get keysE_take keysE_drop nodesE_take nodesE_drop intsE_take intsE_drop setsE_set nodesE_set leK leL leA tmOk boxOk memOk rowOk rowsOk fzR List.contains_cons List.contains_nil Option.map_some Option.map_none ge_iff_le gt_iff_lt leF_same leE_same Option.isSome_some decide_true decide_false endQ own0 leC leCs or_true true_or range0 range1 range2 w64_ Bool.not_true Bool.not_false bne_self_eq_false beq_self_eq_true Bool.and_true Bool.false_or Bool.or_false List.getLast?_cons_cons List.getLast?_singleton List.dropLast_cons_cons List.dropLast_singleton Option.some.injEq M.rds W.loc nilV setC intC intsE_cons nodesE_cons leF_nil lB lC List.drop_nil
set_option maxHeartbeats 8000000 in
set_option maxRecDepth 100000 in
theorem impl_within_s (a0:Int) (a1:Int) (a2:Int) (r:Bool) (H:impl_within.f a0 a1 a2 = some r):SemCall 32 [⟨.one,[litF a0]⟩,⟨.one,[litF a1]⟩,⟨.one,[litF a2]⟩] 0 ⟨.one,[.fv (litB r)]⟩ 0:=by
 simp only [impl_within.f] at H
 refine call0 (rs:=[.tmp 6]) Try.func32 rfl tF rfl Try.ntmps32 (Nat.le_of_ble_eq_true rfl) rfl ?_
 repeat' (first|contradiction|(rw [Option.ite_none_right_eq_some] at H;obtain ⟨_,H⟩:=H)|(rw [ite_or] at H;rcases H with ⟨_,H⟩|⟨_,H⟩)|(split at H)|(simp only [Option.bind_some] at H)|(rw [Option.bind_eq_some_iff] at H;obtain ⟨_,A,H⟩:=H)|cases H)
 all_goals repeat' (first
  | apply awp_seq
  | (apply awp_reg;rfl;simp (decide:=true) only [↓aops_cons,↓aopsD_cons,go_sem, *])
  | (apply awp_block;(try simp only [blockQ]))
  | (apply condT;(· simp (decide:=true) only [↓aops_cons,↓aopsD_cons,go_sem, *]))
  | (apply condF;(· simp (decide:=true) only [↓aops_cons,↓aopsD_cons,go_sem, *]))
  | (apply awp_skip;simp (decide:=true) only [↓aops_cons,↓aopsD_cons,go_sem, *])
  | (apply awp_exit;simp (decide:=true) only [↓aops_cons,↓aopsD_cons,go_sem, *])
  | (apply awp_ret;simp (decide:=true) only [↓aops_cons,↓aopsD_cons,go_sem, *])
  | (refine And.intro (a:=indep _ _ = true) ta ?_)
  | (rw [if_pos (show _ * _ ≤ 140737488355328 by (try simp only [List.length_append,List.length_cons,List.length_nil] at *);omega)];simp (decide:=true) only [↓aops_cons,↓aopsD_cons,go_sem, *]))
theorem impl_KeyOk.j0_s {y0 y1 y2 y3 y4 y5 r} {k:Nat} (H:impl_KeyOk.j0 k y0 y1 y2 y3 y4 y5 = some r):∃ q,k = q + 1:=by cases k with
 | zero=>cases H
 | succ q=>exact ⟨q,rfl⟩
set_option maxHeartbeats 8000000 in
set_option maxRecDepth 100000 in
theorem impl_KeyOk_s (k:Nat) (a00 a01 a02 a03 a04:Int) (r:Bool) (H:impl_KeyOk.f k a00 a01 a02 a03 a04 = some r):SemCall 58 [⟨.agg,[litF a00,litF a01,litF a02,litF a03,litF a04]⟩] 0 ⟨.one,[.fv (litB r)]⟩ 0:=by
 simp only [impl_KeyOk.f] at H
 refine call0 (rs:=[.tmp 2]) Try.func58 rfl tF rfl Try.ntmps58 (Nat.le_of_ble_eq_true rfl) rfl ?_
 repeat' (first|contradiction|(rw [Option.ite_none_right_eq_some] at H;obtain ⟨_,H⟩:=H)|(rw [ite_or] at H;rcases H with ⟨_,H⟩|⟨_,H⟩)|(split at H)|(simp only [Option.bind_some] at H)|(rw [Option.bind_eq_some_iff] at H;obtain ⟨_,A,H⟩:=H)|(obtain ⟨_,rfl⟩:=impl_KeyOk.j0_s H;simp only [impl_KeyOk.j0,beq_iff_eq,bne_iff_ne,ne_eq,ite_not] at H)|cases H)
 all_goals try subst_vars
 all_goals repeat' (first
  | apply awp_seq
  | (apply awp_reg;rfl;simp (decide:=true) only [↓aops_cons,↓aopsD_cons,go_sem, *])
  | (apply awp_block;(try simp only [blockQ]))
  | (apply condT;(· simp (decide:=true) only [↓aops_cons,↓aopsD_cons,go_sem, *]))
  | (apply condF;(· simp (decide:=true) only [↓aops_cons,↓aopsD_cons,go_sem, *]))
  | (apply awp_skip;simp (decide:=true) only [↓aops_cons,↓aopsD_cons,go_sem, *])
  | (apply awp_exit;simp (decide:=true) only [↓aops_cons,↓aopsD_cons,go_sem, *])
  | (apply awp_ret;simp (decide:=true) only [↓aops_cons,↓aopsD_cons,go_sem, *])
  | (refine And.intro (a:=indep _ _ = true) ta ?_)
  | (rw [if_pos (show _ * _ ≤ 140737488355328 by (try simp only [List.length_append,List.length_cons,List.length_nil] at *);omega)];simp (decide:=true) only [↓aops_cons,↓aopsD_cons,go_sem, *])
  | (refine callI_of (impl_within_s _ _ _ _ tH) ?_;simp (decide:=true) only [↓aops_cons,↓aopsD_cons,go_sem, *])
  | (refine callJ_of (impl_within_s _ _ _ _ tH) ?_;simp (decide:=true) only [↓aops_cons,↓aopsD_cons,go_sem, *]))
end Go.Proofs.Ytamjbjkbineafaa.EvFnExactTreePut

namespace Go.Proofs.Ytamjbjkbineafaa.EvFnExactTreePut
open Go Go.RowKit Go.Proofs.Ytamjbjkbineafaa.Ev Go.Proofs.Ytamjbjkbineafaa.PFnExactTreePut Go.Proofs.YtamjbjkbineafaaW.PrintWords Go.Proofs.YtamjbjkbineafaaW.PrintLast
set_option linter.unusedVariables false
set_option linter.unusedSimpArgs false
attribute [local go_sem] aops_nil outI_done outI_call aopsD_nil outJ_done outJ_call semG sem0 semD semS M.run evO constA litOk litA AS.app AS.put List.map startL litF litB upd_at List.length_set Int.toNat_lt guardA boolA intA rowO cellsA readA argsL partsL fillL fzC fzL fzW loadV importR importC importW ownsP tsz tagg known elem? tby zeroC isNone binV dropW isCall resOf resC outL outC ownIds nodupB AS.ev mk_nil mk_at mo_nil mo_at beq_dec bne_dec thenQ blockQ kok_same kok_nx nx_zero if_true if_false Nat.add_zero Nat.zero_add Nat.le_refl true_and and_true List.getElem?_cons_zero List.getElem?_cons_succ List.getElem?_nil List.drop_succ_cons List.drop_zero List.take_succ_cons List.take_zero List.length_cons List.length_nil List.append_nil List.nil_append List.cons_append List.length_append List.any_cons List.any_nil keyC keysF setsF nodesF intsF nodeC keysE_len keysE_app keysE_one keysE_nil setsE_len setsE_app setsE_one setsE_nil nodesE_len nodesE_app nodesE_one nodesE_nil intsE_len intsE_app intsE_one intsE_nil keysE_get setsE_get nodesE_get intsE_get keysE_take keysE_drop nodesE_take nodesE_drop intsE_take intsE_drop setsE_set nodesE_set leK leL leA tmOk boxOk memOk rowOk rowsOk fzR List.contains_cons List.contains_nil Option.map_some Option.map_none ge_iff_le gt_iff_lt leF_same leE_same Option.isSome_some decide_true decide_false endQ own0 leC leCs or_true true_or range0 range1 range2 w64_ Bool.not_true Bool.not_false bne_self_eq_false beq_self_eq_true Bool.and_true Bool.false_or Bool.or_false List.getLast?_cons_cons List.getLast?_singleton List.dropLast_cons_cons List.dropLast_singleton Option.some.injEq M.rds W.loc nilV setC intC intsE_cons nodesE_cons leF_nil lB lC List.drop_nil Int.lt_irrefl
set_option maxHeartbeats 8000000 in
set_option maxRecDepth 100000 in
theorem impl_SetOk_s (k:Nat) (a0:List S38) (r:Bool) (H:impl_SetOk.f k a0 = some r):SemCall 77 [⟨.one,[keysF a0]⟩] 0 ⟨.one,[.fv (litB r)]⟩ 0:=by
 simp only [impl_SetOk.f] at H
 refine call0 (rs:=[.tmp 2]) Try.func77 rfl tF rfl Try.ntmps77 (Nat.le_of_ble_eq_true rfl) rfl ?_
 repeat' (first|contradiction|(rw [Option.ite_none_right_eq_some] at H;obtain ⟨_,H⟩:=H)|(rw [ite_or] at H;rcases H with ⟨_,H⟩|⟨_,H⟩)|(split at H)|(simp only [Option.bind_some] at H)|(rw [Option.bind_eq_some_iff] at H;obtain ⟨_,A,H⟩:=H)|cases H)
 all_goals repeat' (first
  | apply awp_seq
  | (apply awp_reg;rfl;simp (decide:=true) only [↓aops_cons,↓aopsD_cons,go_sem, *])
  | (apply awp_block;(try simp only [blockQ]))
  | (apply condT;(· simp (decide:=true) only [↓aops_cons,↓aopsD_cons,go_sem, *]))
  | (apply condF;(· simp (decide:=true) only [↓aops_cons,↓aopsD_cons,go_sem, *]))
  | (apply awp_skip;simp (decide:=true) only [↓aops_cons,↓aopsD_cons,go_sem, *])
  | (apply awp_exit;simp (decide:=true) only [↓aops_cons,↓aopsD_cons,go_sem, *])
  | (apply awp_ret;simp (decide:=true) only [↓aops_cons,↓aopsD_cons,go_sem, *])
  | (apply awp_regD (id:=4) [0,1,3,7,15,31,63,127,127,383,1023,2047,127,8191,16383,32767,65535];rfl;kernel_rfl;simp (decide:=true) only [↓aops_cons,↓aopsD_cons,go_sem, *])
  | (refine And.intro (a:=indep _ _ = true) ta ?_)
  | (rw [if_pos (show _ * _ ≤ 140737488355328 by (try simp only [List.length_append,List.length_cons,List.length_nil] at *);omega)];simp (decide:=true) only [↓aops_cons,↓aopsD_cons,go_sem, *])
  | (refine callI_of (impl_KeyOk_s _ _ _ _ _ _ _ tH) ?_;simp (decide:=true) only [↓aops_cons,↓aopsD_cons,go_sem, *])
  | (refine callJ_of (impl_KeyOk_s _ _ _ _ _ _ _ tH) ?_;simp (decide:=true) only [↓aops_cons,↓aopsD_cons,go_sem, *])
  | (refine callI_of (impl_LessKey_s _ _ _ _ _ _ _ _ _ _ _ tH) ?_;simp (decide:=true) only [↓aops_cons,↓aopsD_cons,go_sem, *])
  | (refine callJ_of (impl_LessKey_s _ _ _ _ _ _ _ _ _ _ _ tH) ?_;simp (decide:=true) only [↓aops_cons,↓aopsD_cons,go_sem, *])
  | (refine ⟨_,0,_,?_,weakL [] ?_,_,rfl,rfl,H⟩;(· omega);(· simp (decide:=true) only [↓aops_cons,↓aopsD_cons,go_sem, *])))
 all_goals
  refine loopX (fun m k s=>∃ (x7:Int),k = 0 ∧ s = ⟨mk [(0,.v .one [.fv (keysF a0)]),(5,.v .one [.fv (keysF a0)]),(6,.v .one [.fv (litF (a0.length:Int))]),(7,.v .one [.fv (litF x7)])],mo [],mo []⟩ ∧ impl_SetOk.l0 m a0 a0 (a0.length:Int) x7 = some r) ?h0 ?hr
  case h0=>exact ⟨_,0,_,weakL [] tM,0,rfl,rfl,H⟩
  case hr =>
   rintro m k s ⟨x7,rfl,rfl,H⟩
   cases m with
   | zero=>cases H
   | succ m =>
    simp only [impl_SetOk.l0] at H
    repeat' (first|contradiction|(rw [Option.ite_none_right_eq_some] at H;obtain ⟨_,H⟩:=H)|(rw [ite_or] at H;rcases H with ⟨_,H⟩|⟨_,H⟩)|(split at H)|(simp only [Option.bind_some] at H)|(rw [Option.bind_eq_some_iff] at H;obtain ⟨_,A,H⟩:=H)|cases H)
    all_goals repeat' (first
      | apply awp_seq
      | (apply awp_reg;rfl;simp (decide:=true) only [↓aops_cons,↓aopsD_cons,go_sem, *])
      | (apply awp_block;(try simp only [blockQ]))
      | (apply condT;(· simp (decide:=true) only [↓aops_cons,↓aopsD_cons,go_sem, *]))
      | (apply condF;(· simp (decide:=true) only [↓aops_cons,↓aopsD_cons,go_sem, *]))
      | (apply awp_skip;simp (decide:=true) only [↓aops_cons,↓aopsD_cons,go_sem, *])
      | (apply awp_exit;simp (decide:=true) only [↓aops_cons,↓aopsD_cons,go_sem, *])
      | (apply awp_ret;simp (decide:=true) only [↓aops_cons,↓aopsD_cons,go_sem, *])
      | (apply awp_regD (id:=4) [0,1,3,7,15,31,63,127,127,383,1023,2047,127,8191,16383,32767,65535];rfl;kernel_rfl;simp (decide:=true) only [↓aops_cons,↓aopsD_cons,go_sem, *])
      | (refine And.intro (a:=indep _ _ = true) ta ?_)
      | (rw [if_pos (show _ * _ ≤ 140737488355328 by (try simp only [List.length_append,List.length_cons,List.length_nil] at *);omega)];simp (decide:=true) only [↓aops_cons,↓aopsD_cons,go_sem, *])
      | (refine callI_of (impl_KeyOk_s _ _ _ _ _ _ _ tH) ?_;simp (decide:=true) only [↓aops_cons,↓aopsD_cons,go_sem, *])
      | (refine callJ_of (impl_KeyOk_s _ _ _ _ _ _ _ tH) ?_;simp (decide:=true) only [↓aops_cons,↓aopsD_cons,go_sem, *])
      | (refine callI_of (impl_LessKey_s _ _ _ _ _ _ _ _ _ _ _ tH) ?_;simp (decide:=true) only [↓aops_cons,↓aopsD_cons,go_sem, *])
      | (refine callJ_of (impl_LessKey_s _ _ _ _ _ _ _ _ _ _ _ tH) ?_;simp (decide:=true) only [↓aops_cons,↓aopsD_cons,go_sem, *])
      | (refine ⟨_,0,_,?_,weakL [] ?_,_,rfl,rfl,H⟩;(· omega);(· simp (decide:=true) only [↓aops_cons,↓aopsD_cons,go_sem, *])))
set_option maxHeartbeats 8000000 in
set_option maxRecDepth 100000 in
theorem impl_NodeOk_s (k:Nat) (a0:List (List S38)) (r:Bool) (H:impl_NodeOk.f k a0 = some r):SemCall 44 [⟨.agg,[setsF a0]⟩] 0 ⟨.one,[.fv (litB r)]⟩ 0:=by
 simp only [impl_NodeOk.f] at H
 refine call0 (rs:=[.tmp 2]) Try.func44 rfl tF rfl Try.ntmps44 (Nat.le_of_ble_eq_true rfl) rfl ?_
 repeat' (first|contradiction|(rw [Option.ite_none_right_eq_some] at H;obtain ⟨_,H⟩:=H)|(rw [ite_or] at H;rcases H with ⟨_,H⟩|⟨_,H⟩)|(split at H)|(simp only [Option.bind_some] at H)|(rw [Option.bind_eq_some_iff] at H;obtain ⟨_,A,H⟩:=H)|cases H)
 all_goals repeat' (first
  | apply awp_seq
  | (apply awp_reg;rfl;simp (decide:=true) only [↓aops_cons,↓aopsD_cons,go_sem, *])
  | (apply awp_block;(try simp only [blockQ]))
  | (apply condT;(· simp (decide:=true) only [↓aops_cons,↓aopsD_cons,go_sem, *]))
  | (apply condF;(· simp (decide:=true) only [↓aops_cons,↓aopsD_cons,go_sem, *]))
  | (apply awp_skip;simp (decide:=true) only [↓aops_cons,↓aopsD_cons,go_sem, *])
  | (apply awp_exit;simp (decide:=true) only [↓aops_cons,↓aopsD_cons,go_sem, *])
  | (apply awp_ret;simp (decide:=true) only [↓aops_cons,↓aopsD_cons,go_sem, *])
  | (refine And.intro (a:=indep _ _ = true) ta ?_)
  | (rw [if_pos (show _ * _ ≤ 140737488355328 by (try simp only [List.length_append,List.length_cons,List.length_nil] at *);omega)];simp (decide:=true) only [↓aops_cons,↓aopsD_cons,go_sem, *])
  | (refine callI_of (impl_SetOk_s _ _ _ tH) ?_;simp (decide:=true) only [↓aops_cons,↓aopsD_cons,go_sem, *])
  | (refine callJ_of (impl_SetOk_s _ _ _ tH) ?_;simp (decide:=true) only [↓aops_cons,↓aopsD_cons,go_sem, *])
  | (refine ⟨_,0,_,?_,weakL [] ?_,_,_,rfl,rfl,H⟩;(· omega);(· simp (decide:=true) only [↓aops_cons,↓aopsD_cons,go_sem, *])))
 all_goals
  refine loopX (fun m k s=>∃ (x3 x9:Int),k = 0 ∧ s = ⟨mk [(1,.addr 1 0),(3,.v .one [.fv (litF x3)]),(7,.v .one [.fv (setsF (a0))]),(8,.v .one [.fv (litF (a0.length:Int))]),(9,.v .one [.fv (litF x9)])],mo [(1,⟨59,[.fv (setsF a0)]⟩)],mo []⟩ ∧ impl_NodeOk.l0 m x3 a0 (a0.length:Int) x9 a0 = some r) ?h0 ?hr
  case h0=>exact ⟨_,0,_,weakL [] tM,0,0,rfl,rfl,H⟩
  case hr =>
   rintro m k s ⟨x3,x9,rfl,rfl,H⟩
   cases m with
   | zero=>cases H
   | succ m =>
    simp only [impl_NodeOk.l0] at H
    repeat' (first|contradiction|(rw [Option.ite_none_right_eq_some] at H;obtain ⟨_,H⟩:=H)|(rw [ite_or] at H;rcases H with ⟨_,H⟩|⟨_,H⟩)|(split at H)|(simp only [Option.bind_some] at H)|(rw [Option.bind_eq_some_iff] at H;obtain ⟨_,A,H⟩:=H)|cases H)
    all_goals repeat' (first
      | apply awp_seq
      | (apply awp_reg;rfl;simp (decide:=true) only [↓aops_cons,↓aopsD_cons,go_sem, *])
      | (apply awp_block;(try simp only [blockQ]))
      | (apply condT;(· simp (decide:=true) only [↓aops_cons,↓aopsD_cons,go_sem, *]))
      | (apply condF;(· simp (decide:=true) only [↓aops_cons,↓aopsD_cons,go_sem, *]))
      | (apply awp_skip;simp (decide:=true) only [↓aops_cons,↓aopsD_cons,go_sem, *])
      | (apply awp_exit;simp (decide:=true) only [↓aops_cons,↓aopsD_cons,go_sem, *])
      | (apply awp_ret;simp (decide:=true) only [↓aops_cons,↓aopsD_cons,go_sem, *])
      | (refine And.intro (a:=indep _ _ = true) ta ?_)
      | (rw [if_pos (show _ * _ ≤ 140737488355328 by (try simp only [List.length_append,List.length_cons,List.length_nil] at *);omega)];simp (decide:=true) only [↓aops_cons,↓aopsD_cons,go_sem, *])
      | (refine callI_of (impl_SetOk_s _ _ _ tH) ?_;simp (decide:=true) only [↓aops_cons,↓aopsD_cons,go_sem, *])
      | (refine callJ_of (impl_SetOk_s _ _ _ tH) ?_;simp (decide:=true) only [↓aops_cons,↓aopsD_cons,go_sem, *])
      | (refine ⟨_,0,_,?_,weakL [] ?_,_,_,rfl,rfl,H⟩;(· omega);(· simp (decide:=true) only [↓aops_cons,↓aopsD_cons,go_sem, *])))
end Go.Proofs.Ytamjbjkbineafaa.EvFnExactTreePut

namespace Go.Proofs.Ytamjbjkbineafaa.EvFnExactTreePut
open Go Go.RowKit Go.Proofs.Ytamjbjkbineafaa.Ev Go.Proofs.Ytamjbjkbineafaa.PFnExactTreePut Go.Proofs.YtamjbjkbineafaaW.PrintWords Go.Proofs.YtamjbjkbineafaaW.PrintLast
set_option linter.unusedVariables false
set_option linter.unusedSimpArgs false
attribute [local go_sem] aops_nil outI_done outI_call aopsD_nil outJ_done outJ_call semG sem0 semD semS M.run evO constA litOk litA AS.app AS.put List.map startL litF litB upd_at List.length_set Int.toNat_lt guardA boolA intA rowO cellsA readA argsL partsL fillL fzC fzL fzW loadV importR importC importW ownsP tsz tagg known elem? tby zeroC isNone binV dropW isCall resOf resC outL outC ownIds nodupB AS.ev mk_nil mk_at mo_nil mo_at beq_dec bne_dec thenQ blockQ kok_same kok_nx nx_zero if_true if_false Nat.add_zero Nat.zero_add Nat.le_refl true_and and_true List.getElem?_cons_zero List.getElem?_cons_succ List.getElem?_nil List.drop_succ_cons List.drop_zero List.take_succ_cons List.take_zero List.length_cons List.length_nil List.append_nil List.nil_append List.cons_append List.length_append List.any_cons List.any_nil keyC keysF setsF nodesF intsF nodeC keysE_len keysE_app keysE_one keysE_nil setsE_len setsE_app setsE_one setsE_nil nodesE_len nodesE_app nodesE_one nodesE_nil intsE_len intsE_app intsE_one intsE_nil keysE_get setsE_get nodesE_get intsE_get keysE_take keysE_drop nodesE_take nodesE_drop intsE_take intsE_drop setsE_set nodesE_set leK leL leA tmOk boxOk memOk rowOk rowsOk fzR List.contains_cons List.contains_nil Option.map_some Option.map_none ge_iff_le gt_iff_lt leF_same leE_same Option.isSome_some decide_true decide_false endQ own0 leC leCs or_true true_or range0 range1 range2 w64_ Bool.not_true Bool.not_false bne_self_eq_false beq_self_eq_true Bool.and_true Bool.false_or Bool.or_false List.getLast?_cons_cons List.getLast?_singleton List.dropLast_cons_cons List.dropLast_singleton Option.some.injEq M.rds W.loc nilV setC intC intsE_cons nodesE_cons leF_nil lB lC List.drop_nil
set_option maxHeartbeats 8000000 in
set_option maxRecDepth 100000 in
theorem impl_copyKeys_s (a0:List S38) (r:List S38) (H:impl_copyKeys.f a0 = some r):SemCall 91 [⟨.one,[keysF a0]⟩] 0 ⟨.one,[.own 0 38 (keysE r)]⟩ 0:=by
 simp only [impl_copyKeys.f] at H
 refine call0 (rs:=[.tmp 2]) Try.func91 rfl tF rfl Try.ntmps91 (Nat.le_of_ble_eq_true rfl) rfl ?_
 repeat' (first|contradiction|(rw [Option.ite_none_right_eq_some] at H;obtain ⟨_,H⟩:=H)|(rw [ite_or] at H;rcases H with ⟨_,H⟩|⟨_,H⟩)|(split at H)|(simp only [Option.bind_some] at H)|(rw [Option.bind_eq_some_iff] at H;obtain ⟨_,A,H⟩:=H)|cases H)
 all_goals repeat' (first
  | apply awp_seq
  | (apply awp_reg;rfl;simp (decide:=true) only [↓aops_cons,↓aopsD_cons,go_sem, *])
  | (apply awp_block;(try simp only [blockQ]))
  | (apply condT;(· simp (decide:=true) only [↓aops_cons,↓aopsD_cons,go_sem, *]))
  | (apply condF;(· simp (decide:=true) only [↓aops_cons,↓aopsD_cons,go_sem, *]))
  | (apply awp_skip;simp (decide:=true) only [↓aops_cons,↓aopsD_cons,go_sem, *])
  | (apply awp_exit;simp (decide:=true) only [↓aops_cons,↓aopsD_cons,go_sem, *])
  | (apply awp_ret;simp (decide:=true) only [↓aops_cons,↓aopsD_cons,go_sem, *])
  | (refine And.intro (a:=indep _ _ = true) ta ?_)
  | (rw [if_pos (show _ * _ ≤ 140737488355328 by (try simp only [List.length_append,List.length_cons,List.length_nil] at *);omega)];simp (decide:=true) only [↓aops_cons,↓aopsD_cons,go_sem, *]))
end Go.Proofs.Ytamjbjkbineafaa.EvFnExactTreePut

namespace Go.Proofs.Ytamjbjkbineafaa.EvFnExactTreePut
open Go Go.RowKit Go.Proofs.Ytamjbjkbineafaa.Ev Go.Proofs.Ytamjbjkbineafaa.PFnExactTreePut Go.Proofs.YtamjbjkbineafaaW.PrintWords Go.Proofs.YtamjbjkbineafaaW.PrintLast
set_option linter.unusedVariables false
set_option linter.unusedSimpArgs false
attribute [local go_sem] aops_nil outI_done outI_call aopsD_nil outJ_done outJ_call semG sem0 semD semS M.run evO constA litOk litA AS.app AS.put List.map startL litF litB upd_at List.length_set Int.toNat_lt guardA boolA intA rowO cellsA readA argsL partsL fillL fzC fzL fzW loadV importR importC importW ownsP tsz tagg known elem? tby zeroC isNone binV dropW isCall resOf resC outL outC ownIds nodupB AS.ev mk_nil mk_at mo_nil mo_at beq_dec bne_dec thenQ blockQ kok_same kok_nx nx_zero if_true if_false Nat.add_zero Nat.zero_add Nat.le_refl true_and and_true List.getElem?_cons_zero List.getElem?_cons_succ List.getElem?_nil List.drop_succ_cons List.drop_zero List.take_succ_cons List.take_zero List.length_cons List.length_nil List.append_nil List.nil_append List.cons_append List.length_append List.any_cons List.any_nil keyC keysF setsF nodesF intsF nodeC keysE_len keysE_app keysE_one keysE_nil setsE_len setsE_app setsE_one setsE_nil nodesE_len nodesE_app nodesE_one nodesE_nil intsE_len intsE_app intsE_one intsE_nil keysE_get setsE_get nodesE_get intsE_get keysE_take keysE_drop nodesE_take nodesE_drop intsE_take intsE_drop setsE_set nodesE_set leK leL leA tmOk boxOk memOk rowOk rowsOk fzR List.contains_cons List.contains_nil Option.map_some Option.map_none ge_iff_le gt_iff_lt leF_same leE_same Option.isSome_some decide_true decide_false endQ own0 leC leCs or_true true_or range0 range1 range2 w64_ Bool.not_true Bool.not_false bne_self_eq_false beq_self_eq_true Bool.and_true Bool.false_or Bool.or_false List.getLast?_cons_cons List.getLast?_singleton List.dropLast_cons_cons List.dropLast_singleton Option.some.injEq M.rds W.loc nilV setC intC intsE_cons nodesE_cons leF_nil lB lC List.drop_nil Int.lt_irrefl
theorem impl_SetPut.j1_s {y0 y1 y2 y3 y4 y5 y6 y7 y8 y9 y10 y11 y12 y13 y14 y15 r} {k:Nat} (H:impl_SetPut.j1 k y0 y1 y2 y3 y4 y5 y6 y7 y8 y9 y10 y11 y12 y13 y14 y15 = some r):∃ q,k = q + 1:=by cases k with
 | zero=>cases H
 | succ q=>exact ⟨q,rfl⟩
set_option maxHeartbeats 8000000 in
set_option maxRecDepth 100000 in
theorem impl_SetPut_s (k:Nat) (a0:List S38) (a10 a11 a12 a13 a14:Int) (r:List S38) (H:impl_SetPut.f k a0 a10 a11 a12 a13 a14 = some r):SemCall 90 [⟨.one,[keysF a0]⟩,⟨.agg,[litF a10,litF a11,litF a12,litF a13,litF a14]⟩] 0 ⟨.one,[.own 0 38 (keysE r)]⟩ 0:=by
 simp only [impl_SetPut.f] at H
 refine call0 (rs:=[.tmp 4]) Try.func90 rfl tF rfl Try.ntmps90 (Nat.le_of_ble_eq_true rfl) rfl ?_
 repeat' (first|contradiction|(rw [Option.ite_none_right_eq_some] at H;obtain ⟨_,H⟩:=H)|(rw [ite_or] at H;rcases H with ⟨_,H⟩|⟨_,H⟩)|(split at H)|(simp only [Option.bind_some] at H)|(rw [Option.bind_eq_some_iff] at H;obtain ⟨_,A,H⟩:=H)|(obtain ⟨_,rfl⟩:=impl_SetPut.j1_s H;simp only [impl_SetPut.j1,beq_iff_eq,bne_iff_ne,ne_eq,ite_not] at H)|cases H)
 all_goals repeat' (first
  | apply awp_seq
  | (apply awp_reg;rfl;simp (decide:=true) only [↓aops_cons,↓aopsD_cons,go_sem, *])
  | (apply awp_block;(try simp only [blockQ]))
  | (apply condT;(· simp (decide:=true) only [↓aops_cons,↓aopsD_cons,go_sem, *]))
  | (apply condF;(· simp (decide:=true) only [↓aops_cons,↓aopsD_cons,go_sem, *]))
  | (apply awp_skip;simp (decide:=true) only [↓aops_cons,↓aopsD_cons,go_sem, *])
  | (apply awp_exit;simp (decide:=true) only [↓aops_cons,↓aopsD_cons,go_sem, *])
  | (apply awp_ret;simp (decide:=true) only [↓aops_cons,↓aopsD_cons,go_sem, *])
  | (refine And.intro (a:=indep _ _ = true) ta ?_)
  | (rw [if_pos (show _ * _ ≤ 140737488355328 by (try simp only [List.length_append,List.length_cons,List.length_nil] at *);omega)];simp (decide:=true) only [↓aops_cons,↓aopsD_cons,go_sem, *])
  | (refine callI_of (impl_LessKey_s _ _ _ _ _ _ _ _ _ _ _ tH) ?_;simp (decide:=true) only [↓aops_cons,↓aopsD_cons,go_sem, *])
  | (refine callJ_of (impl_LessKey_s _ _ _ _ _ _ _ _ _ _ _ tH) ?_;simp (decide:=true) only [↓aops_cons,↓aopsD_cons,go_sem, *])
  | (refine callI_of (impl_SameSpot_s _ _ _ _ _ _ _ _ _ _ _ tH) ?_;simp (decide:=true) only [↓aops_cons,↓aopsD_cons,go_sem, *])
  | (refine callJ_of (impl_SameSpot_s _ _ _ _ _ _ _ _ _ _ _ tH) ?_;simp (decide:=true) only [↓aops_cons,↓aopsD_cons,go_sem, *])
  | (refine ⟨_,0,_,?_,weakL [] ?_,_,_,_,rfl,rfl,H⟩;(· omega);(· simp (decide:=true) only [↓aops_cons,↓aopsD_cons,go_sem, *])))
 all_goals
  refine loopX (fun m k s=>∃ (x5:List S38) (x6:Bool) (x12:Int),k = 0 ∧ s = ⟨mk [(3,.addr 3 0),(5,.v .one [.own 9 x5.length]),(6,.v .one [.fv (litB x6)]),(10,.v .one [.fv (keysF a0)]),(11,.v .one [.fv (litF (a0.length:Int))]),(12,.v .one [.fv (litF x12)])],mo [(3,⟨38,[.fv (litF a10),.fv (litF a11),.fv (litF a12),.fv (litF a13),.fv (litF a14)]⟩)],mo [(9,⟨0,38,keysE x5,false⟩)]⟩ ∧ impl_SetPut.l0 m x5 x6 a0 (a0.length:Int) x12 a10 a11 a12 a13 a14 = some r) ?h0 ?hr
  case h0=>exact ⟨_,0,_,weakL [] tM,[],false,0,rfl,rfl,H⟩
  case hr =>
   rintro m k s ⟨x5,x6,x12,rfl,rfl,H⟩
   cases m with
   | zero=>cases H
   | succ m =>
    simp only [impl_SetPut.l0] at H
    repeat' (first|contradiction|(rw [Option.ite_none_right_eq_some] at H;obtain ⟨_,H⟩:=H)|(rw [ite_or] at H;rcases H with ⟨_,H⟩|⟨_,H⟩)|(split at H)|(simp only [Option.bind_some] at H)|(rw [Option.bind_eq_some_iff] at H;obtain ⟨_,A,H⟩:=H)|(obtain ⟨_,rfl⟩:=impl_SetPut.j1_s H;simp only [impl_SetPut.j1,beq_iff_eq,bne_iff_ne,ne_eq,ite_not] at H)|cases H)
    all_goals repeat' (first
      | apply awp_seq
      | (apply awp_reg;rfl;simp (decide:=true) only [↓aops_cons,↓aopsD_cons,go_sem, *])
      | (apply awp_block;(try simp only [blockQ]))
      | (apply condT;(· simp (decide:=true) only [↓aops_cons,↓aopsD_cons,go_sem, *]))
      | (apply condF;(· simp (decide:=true) only [↓aops_cons,↓aopsD_cons,go_sem, *]))
      | (apply awp_skip;simp (decide:=true) only [↓aops_cons,↓aopsD_cons,go_sem, *])
      | (apply awp_exit;simp (decide:=true) only [↓aops_cons,↓aopsD_cons,go_sem, *])
      | (apply awp_ret;simp (decide:=true) only [↓aops_cons,↓aopsD_cons,go_sem, *])
      | (refine And.intro (a:=indep _ _ = true) ta ?_)
      | (rw [if_pos (show _ * _ ≤ 140737488355328 by (try simp only [List.length_append,List.length_cons,List.length_nil] at *);omega)];simp (decide:=true) only [↓aops_cons,↓aopsD_cons,go_sem, *])
      | (refine callI_of (impl_LessKey_s _ _ _ _ _ _ _ _ _ _ _ tH) ?_;simp (decide:=true) only [↓aops_cons,↓aopsD_cons,go_sem, *])
      | (refine callJ_of (impl_LessKey_s _ _ _ _ _ _ _ _ _ _ _ tH) ?_;simp (decide:=true) only [↓aops_cons,↓aopsD_cons,go_sem, *])
      | (refine callI_of (impl_SameSpot_s _ _ _ _ _ _ _ _ _ _ _ tH) ?_;simp (decide:=true) only [↓aops_cons,↓aopsD_cons,go_sem, *])
      | (refine callJ_of (impl_SameSpot_s _ _ _ _ _ _ _ _ _ _ _ tH) ?_;simp (decide:=true) only [↓aops_cons,↓aopsD_cons,go_sem, *])
      | (refine ⟨_,0,_,?_,weakL [] ?_,_,_,_,rfl,rfl,H⟩;(· omega);(· simp (decide:=true) only [↓aops_cons,↓aopsD_cons,go_sem, *])))
set_option maxHeartbeats 8000000 in
set_option maxRecDepth 100000 in
theorem impl_MergeSets_s (k:Nat) (a0:List S38) (a1:List S38) (r:List S38) (H:impl_MergeSets.f k a0 a1 = some r):SemCall 78 [⟨.one,[keysF a0]⟩,⟨.one,[keysF a1]⟩] 0 ⟨.one,[.fv (keysF r)]⟩ 0:=by
 simp only [impl_MergeSets.f] at H
 refine call0 (rs:=[.tmp 4]) Try.func78 rfl tF rfl Try.ntmps78 (Nat.le_of_ble_eq_true rfl) rfl ?_
 repeat' (first|contradiction|(rw [Option.ite_none_right_eq_some] at H;obtain ⟨_,H⟩:=H)|(rw [ite_or] at H;rcases H with ⟨_,H⟩|⟨_,H⟩)|(split at H)|(simp only [Option.bind_some] at H)|(rw [Option.bind_eq_some_iff] at H;obtain ⟨_,A,H⟩:=H)|cases H)
 all_goals repeat' (first
  | apply awp_seq
  | (apply awp_reg;rfl;simp (decide:=true) only [↓aops_cons,↓aopsD_cons,go_sem, *])
  | (apply awp_block;(try simp only [blockQ]))
  | (apply condT;(· simp (decide:=true) only [↓aops_cons,↓aopsD_cons,go_sem, *]))
  | (apply condF;(· simp (decide:=true) only [↓aops_cons,↓aopsD_cons,go_sem, *]))
  | (apply awp_skip;simp (decide:=true) only [↓aops_cons,↓aopsD_cons,go_sem, *])
  | (apply awp_exit;simp (decide:=true) only [↓aops_cons,↓aopsD_cons,go_sem, *])
  | (apply awp_ret;simp (decide:=true) only [↓aops_cons,↓aopsD_cons,go_sem, *])
  | (refine And.intro (a:=indep _ _ = true) ta ?_)
  | (rw [if_pos (show _ * _ ≤ 140737488355328 by (try simp only [List.length_append,List.length_cons,List.length_nil] at *);omega)];simp (decide:=true) only [↓aops_cons,↓aopsD_cons,go_sem, *])
  | (refine callI_of (impl_copyKeys_s _ _ tH) ?_;simp (decide:=true) only [↓aops_cons,↓aopsD_cons,go_sem, *])
  | (refine callJ_of (impl_copyKeys_s _ _ tH) ?_;simp (decide:=true) only [↓aops_cons,↓aopsD_cons,go_sem, *])
  | (refine callI_of (impl_SetPut_s _ _ _ _ _ _ _ _ tH) ?_;simp (decide:=true) only [↓aops_cons,↓aopsD_cons,go_sem, *])
  | (refine callJ_of (impl_SetPut_s _ _ _ _ _ _ _ _ tH) ?_;simp (decide:=true) only [↓aops_cons,↓aopsD_cons,go_sem, *])
  | (refine ⟨_,0,_,?_,weakL [1009,1018] ?_,_,_,rfl,rfl,H⟩;(· omega);(· simp (decide:=true) only [↓aops_cons,↓aopsD_cons,go_sem, *])))
 all_goals
  refine loopX (fun m k s=>∃ (x5:List S38) (x12:Int),k = 0 ∧ s = ⟨mk [(5,.v .one [.fv (keysF x5)]),(10,.v .one [.fv (keysF a1)]),(11,.v .one [.fv (litF (a1.length:Int))]),(12,.v .one [.fv (litF x12)])],mo [],mo []⟩ ∧ impl_MergeSets.l0 m x5 a1 (a1.length:Int) x12 = some r) ?h0 ?hr
  case h0=>exact ⟨_,0,_,weakL [1009,1018] tM,_,0,rfl,rfl,H⟩
  case hr =>
   rintro m k s ⟨x5,x12,rfl,rfl,H⟩
   cases m with
   | zero=>cases H
   | succ m =>
    simp only [impl_MergeSets.l0] at H
    repeat' (first|contradiction|(rw [Option.ite_none_right_eq_some] at H;obtain ⟨_,H⟩:=H)|(rw [ite_or] at H;rcases H with ⟨_,H⟩|⟨_,H⟩)|(split at H)|(simp only [Option.bind_some] at H)|(rw [Option.bind_eq_some_iff] at H;obtain ⟨_,A,H⟩:=H)|cases H)
    all_goals repeat' (first
      | apply awp_seq
      | (apply awp_reg;rfl;simp (decide:=true) only [↓aops_cons,↓aopsD_cons,go_sem, *])
      | (apply awp_block;(try simp only [blockQ]))
      | (apply condT;(· simp (decide:=true) only [↓aops_cons,↓aopsD_cons,go_sem, *]))
      | (apply condF;(· simp (decide:=true) only [↓aops_cons,↓aopsD_cons,go_sem, *]))
      | (apply awp_skip;simp (decide:=true) only [↓aops_cons,↓aopsD_cons,go_sem, *])
      | (apply awp_exit;simp (decide:=true) only [↓aops_cons,↓aopsD_cons,go_sem, *])
      | (apply awp_ret;simp (decide:=true) only [↓aops_cons,↓aopsD_cons,go_sem, *])
      | (refine And.intro (a:=indep _ _ = true) ta ?_)
      | (rw [if_pos (show _ * _ ≤ 140737488355328 by (try simp only [List.length_append,List.length_cons,List.length_nil] at *);omega)];simp (decide:=true) only [↓aops_cons,↓aopsD_cons,go_sem, *])
      | (refine callI_of (impl_copyKeys_s _ _ tH) ?_;simp (decide:=true) only [↓aops_cons,↓aopsD_cons,go_sem, *])
      | (refine callJ_of (impl_copyKeys_s _ _ tH) ?_;simp (decide:=true) only [↓aops_cons,↓aopsD_cons,go_sem, *])
      | (refine callI_of (impl_SetPut_s _ _ _ _ _ _ _ _ tH) ?_;simp (decide:=true) only [↓aops_cons,↓aopsD_cons,go_sem, *])
      | (refine callJ_of (impl_SetPut_s _ _ _ _ _ _ _ _ tH) ?_;simp (decide:=true) only [↓aops_cons,↓aopsD_cons,go_sem, *])
      | (refine ⟨_,0,_,?_,weakL [1009,1018] ?_,_,_,rfl,rfl,H⟩;(· omega);(· simp (decide:=true) only [↓aops_cons,↓aopsD_cons,go_sem, *])))
end Go.Proofs.Ytamjbjkbineafaa.EvFnExactTreePut

namespace Go.Proofs.Ytamjbjkbineafaa.EvFnExactTreePut
open Go Go.RowKit Go.Proofs.Ytamjbjkbineafaa.Ev Go.Proofs.Ytamjbjkbineafaa.PFnExactTreePut Go.Proofs.YtamjbjkbineafaaW.PrintWords Go.Proofs.YtamjbjkbineafaaW.PrintLast
set_option linter.unusedVariables false
set_option linter.unusedSimpArgs false
attribute [local go_sem] aops_nil outI_done outI_call aopsD_nil outJ_done outJ_call semG sem0 semD semS M.run evO constA litOk litA AS.app AS.put List.map startL litF litB upd_at List.length_set Int.toNat_lt guardA boolA intA rowO cellsA readA argsL partsL fillL fzC fzL fzW loadV importR importC importW ownsP tsz tagg known elem? tby zeroC isNone binV dropW isCall resOf resC outL outC ownIds nodupB AS.ev mk_nil mk_at mo_nil mo_at beq_dec bne_dec thenQ blockQ kok_same kok_nx nx_zero if_true if_false Nat.add_zero Nat.zero_add Nat.le_refl true_and and_true List.getElem?_cons_zero List.getElem?_cons_succ List.getElem?_nil List.drop_succ_cons List.drop_zero List.take_succ_cons List.take_zero List.length_cons List.length_nil List.append_nil List.nil_append List.cons_append List.length_append List.any_cons List.any_nil keyC keysF setsF nodesF intsF nodeC keysE_len keysE_app keysE_one keysE_nil setsE_len setsE_app setsE_one setsE_nil nodesE_len nodesE_app nodesE_one nodesE_nil intsE_len intsE_app intsE_one intsE_nil keysE_get setsE_get nodesE_get intsE_get keysE_take keysE_drop nodesE_take nodesE_drop intsE_take intsE_drop setsE_set nodesE_set leK leL leA tmOk boxOk memOk rowOk rowsOk fzR List.contains_cons List.contains_nil Option.map_some Option.map_none ge_iff_le gt_iff_lt leF_same leE_same Option.isSome_some decide_true decide_false endQ own0 leC leCs or_true true_or range0 range1 range2 w64_ Bool.not_true Bool.not_false bne_self_eq_false beq_self_eq_true Bool.and_true Bool.false_or Bool.or_false List.getLast?_cons_cons List.getLast?_singleton List.dropLast_cons_cons List.dropLast_singleton Option.some.injEq M.rds W.loc nilV setC intC intsE_cons nodesE_cons leF_nil lB lC List.drop_nil
set_option maxHeartbeats 8000000 in
set_option maxRecDepth 100000 in
theorem impl_Drop_s (k:Nat) (a0:List S38) (r:List S38) (H:impl_Drop.f k a0 = some r):SemCall 79 [⟨.one,[keysF a0]⟩] 0 ⟨.one,[.own 0 38 (keysE r)]⟩ 0:=by
 simp only [impl_Drop.f] at H
 refine call0 (rs:=[.tmp 2]) Try.func79 rfl tF rfl Try.ntmps79 (Nat.le_of_ble_eq_true rfl) rfl ?_
 repeat' (first|contradiction|(rw [Option.ite_none_right_eq_some] at H;obtain ⟨_,H⟩:=H)|(rw [ite_or] at H;rcases H with ⟨_,H⟩|⟨_,H⟩)|(split at H)|(simp only [Option.bind_some] at H)|(rw [Option.bind_eq_some_iff] at H;obtain ⟨_,A,H⟩:=H)|cases H)
 all_goals repeat' (first
  | apply awp_seq
  | (apply awp_reg;rfl;simp (decide:=true) only [↓aops_cons,↓aopsD_cons,go_sem, *])
  | (apply awp_block;(try simp only [blockQ]))
  | (apply condT;(· simp (decide:=true) only [↓aops_cons,↓aopsD_cons,go_sem, *]))
  | (apply condF;(· simp (decide:=true) only [↓aops_cons,↓aopsD_cons,go_sem, *]))
  | (apply awp_skip;simp (decide:=true) only [↓aops_cons,↓aopsD_cons,go_sem, *])
  | (apply awp_exit;simp (decide:=true) only [↓aops_cons,↓aopsD_cons,go_sem, *])
  | (apply awp_ret;simp (decide:=true) only [↓aops_cons,↓aopsD_cons,go_sem, *])
  | (refine And.intro (a:=indep _ _ = true) ta ?_)
  | (rw [if_pos (show _ * _ ≤ 140737488355328 by (try simp only [List.length_append,List.length_cons,List.length_nil] at *);omega)];simp (decide:=true) only [↓aops_cons,↓aopsD_cons,go_sem, *])
  | (refine ⟨_,0,_,?_,weakL [] ?_,_,_,rfl,rfl,H⟩;(· omega);(· simp (decide:=true) only [↓aops_cons,↓aopsD_cons,go_sem, *])))
 all_goals
  refine loopX (fun m k s=>∃ (x3:List S38) (x9:Int),k = 0 ∧ s = ⟨mk [(3,.v .one [.own 6 x3.length]),(7,.v .one [.fv (keysF a0)]),(8,.v .one [.fv (litF (a0.length:Int))]),(9,.v .one [.fv (litF x9)])],mo [],mo [(6,⟨0,38,keysE x3,false⟩)]⟩ ∧ impl_Drop.l0 m x3 a0 (a0.length:Int) x9 = some r) ?h0 ?hr
  case h0=>exact ⟨_,0,_,weakL [] tM,[],0,rfl,rfl,H⟩
  case hr =>
   rintro m k s ⟨x3,x9,rfl,rfl,H⟩
   cases m with
   | zero=>cases H
   | succ m =>
    simp only [impl_Drop.l0] at H
    repeat' (first|contradiction|(rw [Option.ite_none_right_eq_some] at H;obtain ⟨_,H⟩:=H)|(rw [ite_or] at H;rcases H with ⟨_,H⟩|⟨_,H⟩)|(split at H)|(simp only [Option.bind_some] at H)|(rw [Option.bind_eq_some_iff] at H;obtain ⟨_,A,H⟩:=H)|cases H)
    all_goals repeat' (first
      | apply awp_seq
      | (apply awp_reg;rfl;simp (decide:=true) only [↓aops_cons,↓aopsD_cons,go_sem, *])
      | (apply awp_block;(try simp only [blockQ]))
      | (apply condT;(· simp (decide:=true) only [↓aops_cons,↓aopsD_cons,go_sem, *]))
      | (apply condF;(· simp (decide:=true) only [↓aops_cons,↓aopsD_cons,go_sem, *]))
      | (apply awp_skip;simp (decide:=true) only [↓aops_cons,↓aopsD_cons,go_sem, *])
      | (apply awp_exit;simp (decide:=true) only [↓aops_cons,↓aopsD_cons,go_sem, *])
      | (apply awp_ret;simp (decide:=true) only [↓aops_cons,↓aopsD_cons,go_sem, *])
      | (refine And.intro (a:=indep _ _ = true) ta ?_)
      | (rw [if_pos (show _ * _ ≤ 140737488355328 by (try simp only [List.length_append,List.length_cons,List.length_nil] at *);omega)];simp (decide:=true) only [↓aops_cons,↓aopsD_cons,go_sem, *])
      | (refine ⟨_,0,_,?_,weakL [] ?_,_,_,rfl,rfl,H⟩;(· omega);(· simp (decide:=true) only [↓aops_cons,↓aopsD_cons,go_sem, *])))
end Go.Proofs.Ytamjbjkbineafaa.EvFnExactTreePut

namespace Go.Proofs.Ytamjbjkbineafaa.EvFnExactTreePut
open Go Go.RowKit Go.Proofs.Ytamjbjkbineafaa.Ev Go.Proofs.Ytamjbjkbineafaa.PFnExactTreePut Go.Proofs.YtamjbjkbineafaaW.PrintWords Go.Proofs.YtamjbjkbineafaaW.PrintLast
set_option linter.unusedVariables false
set_option linter.unusedSimpArgs false
attribute [local go_sem] aops_nil outI_done outI_call aopsD_nil outJ_done outJ_call semG sem0 semD semS M.run evO constA litOk litA AS.app AS.put List.map startL litF litB upd_at List.length_set Int.toNat_lt guardA boolA intA rowO cellsA readA argsL partsL fillL fzC fzL fzW loadV importR importC importW ownsP tsz tagg known elem? tby zeroC isNone binV dropW isCall resOf resC outL outC ownIds nodupB AS.ev mk_nil mk_at mo_nil mo_at beq_dec bne_dec thenQ blockQ kok_same kok_nx nx_zero if_true if_false Nat.add_zero Nat.zero_add Nat.le_refl true_and and_true List.getElem?_cons_zero List.getElem?_cons_succ List.getElem?_nil List.drop_succ_cons List.drop_zero List.take_succ_cons List.take_zero List.length_cons List.length_nil List.append_nil List.nil_append List.cons_append List.length_append List.any_cons List.any_nil keyC keysF setsF nodesF intsF nodeC keysE_len keysE_app keysE_one keysE_nil setsE_len setsE_app setsE_one setsE_nil nodesE_len nodesE_app nodesE_one nodesE_nil intsE_len intsE_app intsE_one intsE_nil keysE_get setsE_get nodesE_get intsE_get keysE_take keysE_drop nodesE_take nodesE_drop intsE_take intsE_drop setsE_set nodesE_set leK leL leA tmOk boxOk memOk rowOk rowsOk fzR List.contains_cons List.contains_nil Option.map_some Option.map_none ge_iff_le gt_iff_lt leF_same leE_same Option.isSome_some decide_true decide_false endQ own0 leC leCs or_true true_or range0 range1 range2 w64_ Bool.not_true Bool.not_false bne_self_eq_false beq_self_eq_true Bool.and_true Bool.false_or Bool.or_false List.getLast?_cons_cons List.getLast?_singleton List.dropLast_cons_cons List.dropLast_singleton Option.some.injEq M.rds W.loc nilV setC intC intsE_cons nodesE_cons leF_nil lB lC List.drop_nil Int.lt_irrefl
set_option maxHeartbeats 8000000 in
set_option maxRecDepth 100000 in
theorem impl_NodeKeys_s (k:Nat) (a0:List (List S38)) (r:List S38) (H:impl_NodeKeys.f k a0 = some r):SemCall 46 [⟨.agg,[setsF a0]⟩] 0 ⟨.one,[.own 0 38 (keysE r)]⟩ 0:=by
 simp only [impl_NodeKeys.f] at H
 refine call0 (rs:=[.tmp 2]) Try.func46 rfl tF rfl Try.ntmps46 (Nat.le_of_ble_eq_true rfl) rfl ?_
 repeat' (first|contradiction|(rw [Option.ite_none_right_eq_some] at H;obtain ⟨_,H⟩:=H)|(rw [ite_or] at H;rcases H with ⟨_,H⟩|⟨_,H⟩)|(split at H)|(simp only [Option.bind_some] at H)|(rw [Option.bind_eq_some_iff] at H;obtain ⟨_,A,H⟩:=H)|cases H)
 all_goals repeat' (first
  | apply awp_seq
  | (apply awp_reg;rfl;simp (decide:=true) only [↓aops_cons,↓aopsD_cons,go_sem, *])
  | (apply awp_block;(try simp only [blockQ]))
  | (apply condT;(· simp (decide:=true) only [↓aops_cons,↓aopsD_cons,go_sem, *]))
  | (apply condF;(· simp (decide:=true) only [↓aops_cons,↓aopsD_cons,go_sem, *]))
  | (apply awp_skip;simp (decide:=true) only [↓aops_cons,↓aopsD_cons,go_sem, *])
  | (apply awp_exit;simp (decide:=true) only [↓aops_cons,↓aopsD_cons,go_sem, *])
  | (apply awp_ret;simp (decide:=true) only [↓aops_cons,↓aopsD_cons,go_sem, *])
  | (refine And.intro (a:=indep _ _ = true) ta ?_)
  | (rw [if_pos (show _ * _ ≤ 140737488355328 by (try simp only [List.length_append,List.length_cons,List.length_nil] at *);omega)];simp (decide:=true) only [↓aops_cons,↓aopsD_cons,go_sem, *])
  | (refine callI_of (impl_MergeSets_s _ _ _ _ tH) ?_;simp (decide:=true) only [↓aops_cons,↓aopsD_cons,go_sem, *])
  | (refine callJ_of (impl_MergeSets_s _ _ _ _ tH) ?_;simp (decide:=true) only [↓aops_cons,↓aopsD_cons,go_sem, *])
  | (refine callI_of (impl_Drop_s _ _ _ tH) ?_;simp (decide:=true) only [↓aops_cons,↓aopsD_cons,go_sem, *])
  | (refine callJ_of (impl_Drop_s _ _ _ tH) ?_;simp (decide:=true) only [↓aops_cons,↓aopsD_cons,go_sem, *])
  | (refine ⟨_,0,_,?_,weakL [6] ?_,_,_,rfl,rfl,H⟩;(· omega);(· simp (decide:=true) only [↓aops_cons,↓aopsD_cons,go_sem, *])))
 all_goals
  refine loopX (fun m k s=>∃ (x3:List S38) (x10:Int),k = 0 ∧ s = ⟨mk [(1,.addr 1 0),(3,.v .one [.fv (keysF x3)]),(8,.v .one [.fv (setsF (a0))]),(9,.v .one [.fv (litF (a0.length:Int))]),(10,.v .one [.fv (litF x10)])],mo [(1,⟨59,[.fv (setsF a0)]⟩)],mo []⟩ ∧ impl_NodeKeys.l0 m x3 a0 (a0.length:Int) x10 = some r) ?h0 ?hr
  case h0=>exact ⟨_,0,_,weakL [6] tM,[],0,rfl,rfl,H⟩
  case hr =>
   rintro m k s ⟨x3,x10,rfl,rfl,H⟩
   cases m with
   | zero=>cases H
   | succ m =>
    simp only [impl_NodeKeys.l0] at H
    repeat' (first|contradiction|(rw [Option.ite_none_right_eq_some] at H;obtain ⟨_,H⟩:=H)|(rw [ite_or] at H;rcases H with ⟨_,H⟩|⟨_,H⟩)|(split at H)|(simp only [Option.bind_some] at H)|(rw [Option.bind_eq_some_iff] at H;obtain ⟨_,A,H⟩:=H)|cases H)
    all_goals repeat' (first
      | apply awp_seq
      | (apply awp_reg;rfl;simp (decide:=true) only [↓aops_cons,↓aopsD_cons,go_sem, *])
      | (apply awp_block;(try simp only [blockQ]))
      | (apply condT;(· simp (decide:=true) only [↓aops_cons,↓aopsD_cons,go_sem, *]))
      | (apply condF;(· simp (decide:=true) only [↓aops_cons,↓aopsD_cons,go_sem, *]))
      | (apply awp_skip;simp (decide:=true) only [↓aops_cons,↓aopsD_cons,go_sem, *])
      | (apply awp_exit;simp (decide:=true) only [↓aops_cons,↓aopsD_cons,go_sem, *])
      | (apply awp_ret;simp (decide:=true) only [↓aops_cons,↓aopsD_cons,go_sem, *])
      | (refine And.intro (a:=indep _ _ = true) ta ?_)
      | (rw [if_pos (show _ * _ ≤ 140737488355328 by (try simp only [List.length_append,List.length_cons,List.length_nil] at *);omega)];simp (decide:=true) only [↓aops_cons,↓aopsD_cons,go_sem, *])
      | (refine callI_of (impl_MergeSets_s _ _ _ _ tH) ?_;simp (decide:=true) only [↓aops_cons,↓aopsD_cons,go_sem, *])
      | (refine callJ_of (impl_MergeSets_s _ _ _ _ tH) ?_;simp (decide:=true) only [↓aops_cons,↓aopsD_cons,go_sem, *])
      | (refine callI_of (impl_Drop_s _ _ _ tH) ?_;simp (decide:=true) only [↓aops_cons,↓aopsD_cons,go_sem, *])
      | (refine callJ_of (impl_Drop_s _ _ _ tH) ?_;simp (decide:=true) only [↓aops_cons,↓aopsD_cons,go_sem, *])
      | (refine ⟨_,0,_,?_,weakL [6] ?_,_,_,rfl,rfl,H⟩;(· omega);(· simp (decide:=true) only [↓aops_cons,↓aopsD_cons,go_sem, *])))
set_option maxHeartbeats 8000000 in
set_option maxRecDepth 100000 in
theorem impl_keysWith_s (k:Nat) (a0:List (List S38)) (a10 a11 a12 a13 a14:Int) (r:List S38) (H:impl_keysWith.f k a0 a10 a11 a12 a13 a14 = some r):SemCall 61 [⟨.agg,[setsF a0]⟩,⟨.agg,[litF a10,litF a11,litF a12,litF a13,litF a14]⟩] 0 ⟨.one,[.own 0 38 (keysE r)]⟩ 0:=by
 simp only [impl_keysWith.f] at H
 refine call0 (rs:=[.tmp 4]) Try.func61 rfl tF rfl Try.ntmps61 (Nat.le_of_ble_eq_true rfl) rfl ?_
 repeat' (first|contradiction|(rw [Option.ite_none_right_eq_some] at H;obtain ⟨_,H⟩:=H)|(rw [ite_or] at H;rcases H with ⟨_,H⟩|⟨_,H⟩)|(split at H)|(simp only [Option.bind_some] at H)|(rw [Option.bind_eq_some_iff] at H;obtain ⟨_,A,H⟩:=H)|cases H)
 all_goals repeat' (first
  | apply awp_seq
  | (apply awp_reg;rfl;simp (decide:=true) only [↓aops_cons,↓aopsD_cons,go_sem, *])
  | (apply awp_block;(try simp only [blockQ]))
  | (apply condT;(· simp (decide:=true) only [↓aops_cons,↓aopsD_cons,go_sem, *]))
  | (apply condF;(· simp (decide:=true) only [↓aops_cons,↓aopsD_cons,go_sem, *]))
  | (apply awp_skip;simp (decide:=true) only [↓aops_cons,↓aopsD_cons,go_sem, *])
  | (apply awp_exit;simp (decide:=true) only [↓aops_cons,↓aopsD_cons,go_sem, *])
  | (apply awp_ret;simp (decide:=true) only [↓aops_cons,↓aopsD_cons,go_sem, *])
  | (apply awp_regD (id:=1) [0,1,0,7,15,31];rfl;kernel_rfl;simp (decide:=true) only [↓aops_cons,↓aopsD_cons,go_sem, *])
  | (refine And.intro (a:=indep _ _ = true) ta ?_)
  | (rw [if_pos (show _ * _ ≤ 140737488355328 by (try simp only [List.length_append,List.length_cons,List.length_nil] at *);omega)];simp (decide:=true) only [↓aops_cons,↓aopsD_cons,go_sem, *])
  | (refine callI_of (impl_NodeKeys_s _ _ _ tH) ?_;simp (decide:=true) only [↓aops_cons,↓aopsD_cons,go_sem, *])
  | (refine callJ_of (impl_NodeKeys_s _ _ _ tH) ?_;simp (decide:=true) only [↓aops_cons,↓aopsD_cons,go_sem, *])
  | (refine callI_of (impl_SetPut_s _ _ _ _ _ _ _ _ tH) ?_;simp (decide:=true) only [↓aops_cons,↓aopsD_cons,go_sem, *])
  | (refine callJ_of (impl_SetPut_s _ _ _ _ _ _ _ _ tH) ?_;simp (decide:=true) only [↓aops_cons,↓aopsD_cons,go_sem, *])
  | (refine callI_of (impl_Drop_s _ _ _ tH) ?_;simp (decide:=true) only [↓aops_cons,↓aopsD_cons,go_sem, *])
  | (refine callJ_of (impl_Drop_s _ _ _ tH) ?_;simp (decide:=true) only [↓aops_cons,↓aopsD_cons,go_sem, *]))
end Go.Proofs.Ytamjbjkbineafaa.EvFnExactTreePut

namespace Go.Proofs.Ytamjbjkbineafaa.EvFnExactTreePut
open Go Go.RowKit Go.Proofs.Ytamjbjkbineafaa.Ev Go.Proofs.Ytamjbjkbineafaa.PFnExactTreePut Go.Proofs.YtamjbjkbineafaaW.PrintWords Go.Proofs.YtamjbjkbineafaaW.PrintLast
set_option linter.unusedVariables false
set_option linter.unusedSimpArgs false
attribute [local go_sem] aops_nil outI_done outI_call aopsD_nil outJ_done outJ_call semG sem0 semD semS M.run evO constA litOk litA AS.app AS.put List.map startL litF litB upd_at List.length_set Int.toNat_lt guardA boolA intA rowO cellsA readA argsL partsL fillL fzC fzL fzW loadV importR importC importW ownsP tsz tagg known elem? tby zeroC isNone binV dropW isCall resOf resC outL outC ownIds nodupB AS.ev mk_nil mk_at mo_nil mo_at beq_dec bne_dec thenQ blockQ kok_same kok_nx nx_zero if_true if_false Nat.add_zero Nat.zero_add Nat.le_refl true_and and_true List.getElem?_cons_zero List.getElem?_cons_succ List.getElem?_nil List.drop_succ_cons List.drop_zero List.take_succ_cons List.take_zero List.length_cons List.length_nil List.append_nil List.nil_append List.cons_append List.length_append List.any_cons List.any_nil keyC keysF setsF nodesF intsF nodeC keysE_len keysE_app keysE_one keysE_nil setsE_len setsE_app setsE_one setsE_nil nodesE_len nodesE_app nodesE_one nodesE_nil intsE_len intsE_app intsE_one intsE_nil keysE_get setsE_get nodesE_get intsE_get keysE_take keysE_drop nodesE_take nodesE_drop intsE_take intsE_drop setsE_set nodesE_set leK leL leA tmOk boxOk memOk rowOk rowsOk fzR List.contains_cons List.contains_nil Option.map_some Option.map_none ge_iff_le gt_iff_lt leF_same leE_same Option.isSome_some decide_true decide_false endQ own0 leC leCs or_true true_or range0 range1 range2 w64_ Bool.not_true Bool.not_false bne_self_eq_false beq_self_eq_true Bool.and_true Bool.false_or Bool.or_false List.getLast?_cons_cons List.getLast?_singleton List.dropLast_cons_cons List.dropLast_singleton Option.some.injEq M.rds W.loc nilV setC intC intsE_cons nodesE_cons leF_nil lB lC List.drop_nil
set_option maxHeartbeats 8000000 in
set_option maxRecDepth 100000 in
theorem impl_SetAt_s (k:Nat) (a0:List S38) (a1:Int) (a2:Int) (r0 r1 r2 r3 r4:Int) (r5:Bool) (H:impl_SetAt.f k a0 a1 a2 = some (r0,r1,r2,r3,r4,r5)):SemCall 89 [⟨.one,[keysF a0]⟩,⟨.one,[litF a1]⟩,⟨.one,[litF a2]⟩] 0 ⟨.pr,[.fv (litF r0),.fv (litF r1),.fv (litF r2),.fv (litF r3),.fv (litF r4),.fv (litB r5)]⟩ 0:=by
 simp only [impl_SetAt.f] at H
 refine call0 (rs:=[.cell 6 38,.tmp 7]) Try.func89 rfl tF rfl Try.ntmps89 (Nat.le_of_ble_eq_true rfl) rfl ?_
 repeat' (first|contradiction|(rw [Option.ite_none_right_eq_some] at H;obtain ⟨_,H⟩:=H)|(rw [ite_or] at H;rcases H with ⟨_,H⟩|⟨_,H⟩)|(split at H)|(simp only [Option.bind_some] at H)|(rw [Option.bind_eq_some_iff] at H;obtain ⟨_,A,H⟩:=H)|cases H)
 all_goals repeat' (first
  | apply awp_seq
  | (apply awp_reg;rfl;simp (decide:=true) only [↓aops_cons,↓aopsD_cons,go_sem, *])
  | (apply awp_block;(try simp only [blockQ]))
  | (apply condT;(· simp (decide:=true) only [↓aops_cons,↓aopsD_cons,go_sem, *]))
  | (apply condF;(· simp (decide:=true) only [↓aops_cons,↓aopsD_cons,go_sem, *]))
  | (apply awp_skip;simp (decide:=true) only [↓aops_cons,↓aopsD_cons,go_sem, *])
  | (apply awp_exit;simp (decide:=true) only [↓aops_cons,↓aopsD_cons,go_sem, *])
  | (apply awp_ret;simp (decide:=true) only [↓aops_cons,↓aopsD_cons,go_sem, *])
  | (refine And.intro (a:=indep _ _ = true) ta ?_)
  | (rw [if_pos (show _ * _ ≤ 140737488355328 by (try simp only [List.length_append,List.length_cons,List.length_nil] at *);omega)];simp (decide:=true) only [↓aops_cons,↓aopsD_cons,go_sem, *])
  | (refine ⟨_,0,_,?_,weakL [] ?_,_,rfl,rfl,H⟩;(· omega);(· simp (decide:=true) only [↓aops_cons,↓aopsD_cons,go_sem, *])))
 all_goals
  refine loopX (fun m k s=>∃ (x12:Int),k = 0 ∧ s = ⟨mk [(1,.v .one [.fv (litF a1)]),(2,.v .one [.fv (litF a2)]),(6,.addr 6 0),(10,.v .one [.fv (keysF a0)]),(11,.v .one [.fv (litF (a0.length:Int))]),(12,.v .one [.fv (litF x12)])],mo [(6,⟨38,[.fv (litF 0),.fv (litF 0),.fv (litF 0),.fv (litF 0),.fv (litF 0)]⟩)],mo []⟩ ∧ impl_SetAt.l0 m a1 a2 a0 (a0.length:Int) x12 = some (r0,r1,r2,r3,r4,r5)) ?h0 ?hr
  case h0=>exact ⟨_,0,_,weakL [] tM,0,rfl,rfl,H⟩
  case hr =>
   rintro m k s ⟨x12,rfl,rfl,H⟩
   cases m with
   | zero=>cases H
   | succ m =>
    simp only [impl_SetAt.l0] at H
    repeat' (first|contradiction|(rw [Option.ite_none_right_eq_some] at H;obtain ⟨_,H⟩:=H)|(rw [ite_or] at H;rcases H with ⟨_,H⟩|⟨_,H⟩)|(split at H)|(simp only [Option.bind_some] at H)|(rw [Option.bind_eq_some_iff] at H;obtain ⟨_,A,H⟩:=H)|cases H)
    all_goals repeat' (first
      | apply awp_seq
      | (apply awp_reg;rfl;simp (decide:=true) only [↓aops_cons,↓aopsD_cons,go_sem, *])
      | (apply awp_block;(try simp only [blockQ]))
      | (apply condT;(· simp (decide:=true) only [↓aops_cons,↓aopsD_cons,go_sem, *]))
      | (apply condF;(· simp (decide:=true) only [↓aops_cons,↓aopsD_cons,go_sem, *]))
      | (apply awp_skip;simp (decide:=true) only [↓aops_cons,↓aopsD_cons,go_sem, *])
      | (apply awp_exit;simp (decide:=true) only [↓aops_cons,↓aopsD_cons,go_sem, *])
      | (apply awp_ret;simp (decide:=true) only [↓aops_cons,↓aopsD_cons,go_sem, *])
      | (refine And.intro (a:=indep _ _ = true) ta ?_)
      | (rw [if_pos (show _ * _ ≤ 140737488355328 by (try simp only [List.length_append,List.length_cons,List.length_nil] at *);omega)];simp (decide:=true) only [↓aops_cons,↓aopsD_cons,go_sem, *])
      | (refine ⟨_,0,_,?_,weakL [] ?_,_,rfl,rfl,H⟩;(· omega);(· simp (decide:=true) only [↓aops_cons,↓aopsD_cons,go_sem, *])))
end Go.Proofs.Ytamjbjkbineafaa.EvFnExactTreePut
