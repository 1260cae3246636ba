/- The law: the functions that it reaches, each with the proof that the machine's call comes to its answer, what they answer, and the law's row; each theorem says its conditions itself. -/
import Derived.Test.YtamjbjkbineafaaZFnExactTreePut2
namespace Go.Proofs.Ytamjbjkbineafaa.EvFnExactTreePut
open Go Go.RowKit Go.Proofs.Ytamjbjkbineafaa.Ev Go.Proofs.Ytamjbjkbineafaa.PFnExactTreePut Go.Proofs.YtamjbjkbineafaaW.PrintWords Go.Proofs.YtamjbjkbineafaaW.PrintLast
set_option linter.unusedVariables false
set_option linter.unusedSimpArgs false
attribute [local go_sem] aops_nil outI_done outI_call aopsD_nil outJ_done outJ_call semG sem0 semD semS M.run evO constA litOk litA AS.app AS.put List.map startL litF litB upd_at List.length_set Int.toNat_lt guardA boolA intA rowO cellsA readA argsL partsL fillL fzC fzL fzW loadV importR importC importW ownsP tsz tagg known elem? tby zeroC isNone binV dropW isCall resOf resC outL outC ownIds nodupB AS.ev mk_nil mk_at mo_nil mo_at beq_dec bne_dec thenQ blockQ kok_same kok_nx nx_zero if_true if_false Nat.add_zero Nat.zero_add Nat.le_refl true_and and_true List.getElem?_cons_zero List.getElem?_cons_succ List.getElem?_nil List.drop_succ_cons List.drop_zero List.take_succ_cons List.take_zero List.length_cons List.length_nil List.append_nil List.nil_append List.cons_append List.length_append List.any_cons List.any_nil keyC keysF setsF nodesF intsF nodeC keysE_len keysE_app keysE_one keysE_nil setsE_len setsE_app setsE_one setsE_nil nodesE_len nodesE_app nodesE_one nodesE_nil intsE_len intsE_app intsE_one intsE_nil keysE_get setsE_get nodesE_get intsE_get keysE_take keysE_drop nodesE_take nodesE_drop intsE_take intsE_drop setsE_set nodesE_set leK leL leA tmOk boxOk memOk rowOk rowsOk fzR List.contains_cons List.contains_nil Option.map_some Option.map_none ge_iff_le gt_iff_lt leF_same leE_same Option.isSome_some decide_true decide_false endQ own0 leC leCs or_true true_or range0 range1 range2 w64_ Bool.not_true Bool.not_false bne_self_eq_false beq_self_eq_true Bool.and_true Bool.false_or Bool.or_false List.getLast?_cons_cons List.getLast?_singleton List.dropLast_cons_cons List.dropLast_singleton Option.some.injEq M.rds W.loc nilV setC intC intsE_cons nodesE_cons leF_nil lB lC List.drop_nil
set_option maxHeartbeats 8000000 in
set_option maxRecDepth 100000 in
theorem spec_TreeKeys_s (k:Nat) (a00:List Int) (a01:List S59) (r:List S38) (H:spec_TreeKeys.f k a00 a01 = some r):SemCall 81 [⟨.agg,[intsF a00,nodesF a01]⟩] 0 ⟨.one,[.own 0 38 (keysE r)]⟩ 0:=by
 simp only [spec_TreeKeys.f] at H
 refine call0 (rs:=[.tmp 2]) Try.func81 rfl tF rfl Try.ntmps81 (Nat.le_of_ble_eq_true rfl) rfl ?_
 repeat' (first|contradiction|(rw [Option.ite_none_right_eq_some] at H;obtain ⟨_,H⟩:=H)|(rw [ite_or] at H;rcases H with ⟨_,H⟩|⟨_,H⟩)|(split at H)|(simp only [Option.bind_some] at H)|(rw [Option.bind_eq_some_iff] at H;obtain ⟨_,A,H⟩:=H)|cases H)
 all_goals repeat' (first
  | apply awp_seq
  | (apply awp_reg;rfl;simp (decide:=true) only [↓aops_cons,↓aopsD_cons,go_sem, *])
  | (apply awp_block;(try simp only [blockQ]))
  | (apply condT;(· simp (decide:=true) only [↓aops_cons,↓aopsD_cons,go_sem, *]))
  | (apply condF;(· simp (decide:=true) only [↓aops_cons,↓aopsD_cons,go_sem, *]))
  | (apply awp_skip;simp (decide:=true) only [↓aops_cons,↓aopsD_cons,go_sem, *])
  | (apply awp_exit;simp (decide:=true) only [↓aops_cons,↓aopsD_cons,go_sem, *])
  | (apply awp_ret;simp (decide:=true) only [↓aops_cons,↓aopsD_cons,go_sem, *])
  | (refine And.intro (a:=indep _ _ = true) ta ?_)
  | (rw [if_pos (show _ * _ ≤ 140737488355328 by (try simp only [List.length_append,List.length_cons,List.length_nil] at *);omega)];simp (decide:=true) only [↓aops_cons,↓aopsD_cons,go_sem, *])
  | (refine callI_of (spec_NodeKeys_s _ _ _ tH) ?_;simp (decide:=true) only [↓aops_cons,↓aopsD_cons,go_sem, *])
  | (refine callJ_of (spec_NodeKeys_s _ _ _ tH) ?_;simp (decide:=true) only [↓aops_cons,↓aopsD_cons,go_sem, *])
  | (refine ⟨_,0,_,?_,weakL [] ?_,_,_,rfl,rfl,H⟩;(· omega);(· simp (decide:=true) only [↓aops_cons,↓aopsD_cons,go_sem, *])))
 all_goals
  refine loopX (fun m k s=>∃ (x3:List S38) (x4:Int),k = 0 ∧ s = ⟨mk [(1,.addr 1 0),(3,.v .one [.own 5 x3.length]),(4,.v .one [.fv (litF x4)])],mo [(1,⟨29,[.fv (intsF a00),.fv (nodesF a01)]⟩)],mo [(5,⟨0,38,keysE x3,false⟩)]⟩ ∧ spec_TreeKeys.l0 m x3 x4 a00 a01 = some r) ?h0 ?hr
  case h0=>exact ⟨_,0,_,weakL [] tM,[],0,rfl,rfl,H⟩
  case hr =>
   rintro m k s ⟨x3,x4,rfl,rfl,H⟩
   cases m with
   | zero=>cases H
   | succ m =>
    simp only [spec_TreeKeys.l0] at H
    repeat' (first|contradiction|(rw [Option.ite_none_right_eq_some] at H;obtain ⟨_,H⟩:=H)|(rw [ite_or] at H;rcases H with ⟨_,H⟩|⟨_,H⟩)|(split at H)|(simp only [Option.bind_some] at H)|(rw [Option.bind_eq_some_iff] at H;obtain ⟨_,A,H⟩:=H)|cases H)
    all_goals repeat' (first
      | apply awp_seq
      | (apply awp_reg;rfl;simp (decide:=true) only [↓aops_cons,↓aopsD_cons,go_sem, *])
      | (apply awp_block;(try simp only [blockQ]))
      | (apply condT;(· simp (decide:=true) only [↓aops_cons,↓aopsD_cons,go_sem, *]))
      | (apply condF;(· simp (decide:=true) only [↓aops_cons,↓aopsD_cons,go_sem, *]))
      | (apply awp_skip;simp (decide:=true) only [↓aops_cons,↓aopsD_cons,go_sem, *])
      | (apply awp_exit;simp (decide:=true) only [↓aops_cons,↓aopsD_cons,go_sem, *])
      | (apply awp_ret;simp (decide:=true) only [↓aops_cons,↓aopsD_cons,go_sem, *])
      | (refine And.intro (a:=indep _ _ = true) ta ?_)
      | (rw [if_pos (show _ * _ ≤ 140737488355328 by (try simp only [List.length_append,List.length_cons,List.length_nil] at *);omega)];simp (decide:=true) only [↓aops_cons,↓aopsD_cons,go_sem, *])
      | (refine callI_of (spec_NodeKeys_s _ _ _ tH) ?_;simp (decide:=true) only [↓aops_cons,↓aopsD_cons,go_sem, *])
      | (refine callJ_of (spec_NodeKeys_s _ _ _ tH) ?_;simp (decide:=true) only [↓aops_cons,↓aopsD_cons,go_sem, *])
      | (refine ⟨_,0,_,?_,weakL [] ?_,_,_,rfl,rfl,H⟩;(· omega);(· simp (decide:=true) only [↓aops_cons,↓aopsD_cons,go_sem, *])))
theorem spec_TreeOk.j0_s {y0 y1 y2 r} {k:Nat} (H:spec_TreeOk.j0 k y0 y1 y2 = some r):∃ q,k = q + 1:=by cases k with
 | zero=>cases H
 | succ q=>exact ⟨q,rfl⟩
set_option maxHeartbeats 8000000 in
set_option maxRecDepth 100000 in
theorem spec_TreeOk_s (k:Nat) (a00:List Int) (a01:List S59) (r:Bool) (H:spec_TreeOk.f k a00 a01 = some r):SemCall 47 [⟨.agg,[intsF a00,nodesF a01]⟩] 0 ⟨.one,[.fv (litB r)]⟩ 0:=by
 simp only [spec_TreeOk.f] at H
 refine call0 (rs:=[.tmp 2]) Try.func47 rfl tF rfl Try.ntmps47 (Nat.le_of_ble_eq_true rfl) rfl ?_
 repeat' (first|contradiction|(rw [Option.ite_none_right_eq_some] at H;obtain ⟨_,H⟩:=H)|(rw [ite_or] at H;rcases H with ⟨_,H⟩|⟨_,H⟩)|(split at H)|(simp only [Option.bind_some] at H)|(rw [Option.bind_eq_some_iff] at H;obtain ⟨_,A,H⟩:=H)|(obtain ⟨_,rfl⟩:=spec_TreeOk.j0_s H;simp only [spec_TreeOk.j0,beq_iff_eq,bne_iff_ne,ne_eq,ite_not] at H)|cases H)
 all_goals try (have h0:(0:Int) < (a01.length:Int):=by omega)
 all_goals repeat' (first
  | apply awp_seq
  | (apply awp_reg;rfl;simp (decide:=true) only [↓aops_cons,↓aopsD_cons,go_sem, *])
  | (apply awp_block;(try simp only [blockQ]))
  | (apply condT;(· simp (decide:=true) only [↓aops_cons,↓aopsD_cons,go_sem, *]))
  | (apply condF;(· simp (decide:=true) only [↓aops_cons,↓aopsD_cons,go_sem, *]))
  | (apply awp_skip;simp (decide:=true) only [↓aops_cons,↓aopsD_cons,go_sem, *])
  | (apply awp_exit;simp (decide:=true) only [↓aops_cons,↓aopsD_cons,go_sem, *])
  | (apply awp_ret;simp (decide:=true) only [↓aops_cons,↓aopsD_cons,go_sem, *])
  | (apply awp_regD (id:=6) [0,1,3,7,15,7,39,127,255,7,519,7,3591,7687,16383,32767,65535,131071,131071,524287,1048575,2097151];rfl;kernel_rfl;simp (decide:=true) only [↓aops_cons,↓aopsD_cons,go_sem, *])
  | (refine And.intro (a:=indep _ _ = true) ta ?_)
  | (rw [if_pos (show _ * _ ≤ 140737488355328 by (try simp only [List.length_append,List.length_cons,List.length_nil] at *);omega)];simp (decide:=true) only [↓aops_cons,↓aopsD_cons,go_sem, *])
  | (refine callI_of (spec_l1In_s _ _ _ _ tH) ?_;simp (decide:=true) only [↓aops_cons,↓aopsD_cons,go_sem, *])
  | (refine callJ_of (spec_l1In_s _ _ _ _ tH) ?_;simp (decide:=true) only [↓aops_cons,↓aopsD_cons,go_sem, *])
  | (refine callI_of (spec_l6Node_s _ _ _ _ _ tH) ?_;simp (decide:=true) only [↓aops_cons,↓aopsD_cons,go_sem, *])
  | (refine callJ_of (spec_l6Node_s _ _ _ _ _ tH) ?_;simp (decide:=true) only [↓aops_cons,↓aopsD_cons,go_sem, *])
  | (refine callI_of (spec_TreeKeys_s _ _ _ _ tH) ?_;simp (decide:=true) only [↓aops_cons,↓aopsD_cons,go_sem, *])
  | (refine callJ_of (spec_TreeKeys_s _ _ _ _ tH) ?_;simp (decide:=true) only [↓aops_cons,↓aopsD_cons,go_sem, *])
  | (refine ⟨_,0,_,?_,weakL [] ?_,_,rfl,rfl,H⟩;(· omega);(· simp (decide:=true) only [↓aops_cons,↓aopsD_cons,go_sem, *])))
 all_goals try (rename (a00.length:Int) = (a01.length:Int)=>hq;clear hq)
 all_goals
  refine loopX (fun m k s=>∃ (x3:Int),k = 0 ∧ s = ⟨mk [(1,.addr 1 0),(3,.v .one [.fv (litF x3)])],mo [(1,⟨29,[.fv (intsF a00),.fv (nodesF a01)]⟩)],mo []⟩ ∧ spec_TreeOk.l0 m x3 a00 a01 = some r) ?h0 ?hr
  case h0=>exact ⟨_,0,_,weakL [] tM,0,rfl,rfl,H⟩
  case hr =>
   rintro m k s ⟨x3,rfl,rfl,H⟩
   cases m with
   | zero=>cases H
   | succ m =>
    simp only [spec_TreeOk.l0] at H
    repeat' (first|contradiction|(rw [Option.ite_none_right_eq_some] at H;obtain ⟨_,H⟩:=H)|(rw [ite_or] at H;rcases H with ⟨_,H⟩|⟨_,H⟩)|(split at H)|(simp only [Option.bind_some] at H)|(rw [Option.bind_eq_some_iff] at H;obtain ⟨_,A,H⟩:=H)|(obtain ⟨_,rfl⟩:=spec_TreeOk.j0_s H;simp only [spec_TreeOk.j0,beq_iff_eq,bne_iff_ne,ne_eq,ite_not] at H)|cases H)
    all_goals repeat' (first
      | apply awp_seq
      | (apply awp_reg;rfl;simp (decide:=true) only [↓aops_cons,↓aopsD_cons,go_sem, *])
      | (apply awp_block;(try simp only [blockQ]))
      | (apply condT;(· simp (decide:=true) only [↓aops_cons,↓aopsD_cons,go_sem, *]))
      | (apply condF;(· simp (decide:=true) only [↓aops_cons,↓aopsD_cons,go_sem, *]))
      | (apply awp_skip;simp (decide:=true) only [↓aops_cons,↓aopsD_cons,go_sem, *])
      | (apply awp_exit;simp (decide:=true) only [↓aops_cons,↓aopsD_cons,go_sem, *])
      | (apply awp_ret;simp (decide:=true) only [↓aops_cons,↓aopsD_cons,go_sem, *])
      | (apply awp_regD (id:=6) [0,1,3,7,15,7,39,127,255,7,519,7,3591,7687,16383,32767,65535,131071,131071,524287,1048575,2097151];rfl;kernel_rfl;simp (decide:=true) only [↓aops_cons,↓aopsD_cons,go_sem, *])
      | (refine And.intro (a:=indep _ _ = true) ta ?_)
      | (rw [if_pos (show _ * _ ≤ 140737488355328 by (try simp only [List.length_append,List.length_cons,List.length_nil] at *);omega)];simp (decide:=true) only [↓aops_cons,↓aopsD_cons,go_sem, *])
      | (refine callI_of (spec_l1In_s _ _ _ _ tH) ?_;simp (decide:=true) only [↓aops_cons,↓aopsD_cons,go_sem, *])
      | (refine callJ_of (spec_l1In_s _ _ _ _ tH) ?_;simp (decide:=true) only [↓aops_cons,↓aopsD_cons,go_sem, *])
      | (refine callI_of (spec_l6Node_s _ _ _ _ _ tH) ?_;simp (decide:=true) only [↓aops_cons,↓aopsD_cons,go_sem, *])
      | (refine callJ_of (spec_l6Node_s _ _ _ _ _ tH) ?_;simp (decide:=true) only [↓aops_cons,↓aopsD_cons,go_sem, *])
      | (refine callI_of (spec_TreeKeys_s _ _ _ _ tH) ?_;simp (decide:=true) only [↓aops_cons,↓aopsD_cons,go_sem, *])
      | (refine callJ_of (spec_TreeKeys_s _ _ _ _ tH) ?_;simp (decide:=true) only [↓aops_cons,↓aopsD_cons,go_sem, *])
      | (refine ⟨_,0,_,?_,weakL [] ?_,_,rfl,rfl,H⟩;(· omega);(· simp (decide:=true) only [↓aops_cons,↓aopsD_cons,go_sem, *])))
set_option maxHeartbeats 8000000 in
set_option maxRecDepth 100000 in
theorem spec_WhereIn_s (k:Nat) (a00:List Int) (a01:List S59) (a1:Int) (a2:Int) (r:Int) (H:spec_WhereIn.f k a00 a01 a1 a2 = some r):SemCall 49 [⟨.agg,[intsF a00,nodesF a01]⟩,⟨.one,[litF a1]⟩,⟨.one,[litF a2]⟩] 0 ⟨.one,[.fv (litF r)]⟩ 0:=by
 simp only [spec_WhereIn.f] at H
 refine call0 (rs:=[.tmp 6]) Try.func49 rfl tF rfl Try.ntmps49 (Nat.le_of_ble_eq_true rfl) rfl ?_
 repeat' (first|contradiction|(rw [Option.ite_none_right_eq_some] at H;obtain ⟨_,H⟩:=H)|(rw [ite_or] at H;rcases H with ⟨_,H⟩|⟨_,H⟩)|(split at H)|(simp only [Option.bind_some] at H)|(rw [Option.bind_eq_some_iff] at H;obtain ⟨_,A,H⟩:=H)|cases H)
 all_goals repeat' (first
  | apply awp_seq
  | (apply awp_reg;rfl;simp (decide:=true) only [↓aops_cons,↓aopsD_cons,go_sem, *])
  | (apply awp_block;(try simp only [blockQ]))
  | (apply condT;(· simp (decide:=true) only [↓aops_cons,↓aopsD_cons,go_sem, *]))
  | (apply condF;(· simp (decide:=true) only [↓aops_cons,↓aopsD_cons,go_sem, *]))
  | (apply awp_skip;simp (decide:=true) only [↓aops_cons,↓aopsD_cons,go_sem, *])
  | (apply awp_exit;simp (decide:=true) only [↓aops_cons,↓aopsD_cons,go_sem, *])
  | (apply awp_ret;simp (decide:=true) only [↓aops_cons,↓aopsD_cons,go_sem, *])
  | (apply awp_regD (id:=5) [0,1,0,7,15,0,0,96,255];rfl;kernel_rfl;simp (decide:=true) only [↓aops_cons,↓aopsD_cons,go_sem, *])
  | (refine And.intro (a:=indep _ _ = true) ta ?_)
  | (rw [if_pos (show _ * _ ≤ 140737488355328 by (try simp only [List.length_append,List.length_cons,List.length_nil] at *);omega)];simp (decide:=true) only [↓aops_cons,↓aopsD_cons,go_sem, *])
  | (refine callI_of (spec_SpotOf_s _ _ _ tH) ?_;simp (decide:=true) only [↓aops_cons,↓aopsD_cons,go_sem, *])
  | (refine callJ_of (spec_SpotOf_s _ _ _ tH) ?_;simp (decide:=true) only [↓aops_cons,↓aopsD_cons,go_sem, *])
  | (refine ⟨_,0,_,?_,weakL [] ?_,_,_,rfl,rfl,H⟩;(· omega);(· simp (decide:=true) only [↓aops_cons,↓aopsD_cons,go_sem, *])))
 all_goals
  refine loopX (fun m k s=>∃ (x7 x8:Int),k = 0 ∧ s = ⟨mk [(3,.addr 3 0),(1,.v .one [.fv (litF a1)]),(2,.v .one [.fv (litF a2)]),(7,.v .one [.fv (litF x7)]),(8,.v .one [.fv (litF x8)])],mo [(3,⟨29,[.fv (intsF a00),.fv (nodesF a01)]⟩)],mo []⟩ ∧ spec_WhereIn.l0 m a1 a2 x7 x8 a00 a01 = some r) ?h0 ?hr
  case h0=>exact ⟨_,0,_,weakL [] tM,-1,0,rfl,rfl,H⟩
  case hr =>
   rintro m k s ⟨x7,x8,rfl,rfl,H⟩
   cases m with
   | zero=>cases H
   | succ m =>
    simp only [spec_WhereIn.l0] at H
    repeat' (first|contradiction|(rw [Option.ite_none_right_eq_some] at H;obtain ⟨_,H⟩:=H)|(rw [ite_or] at H;rcases H with ⟨_,H⟩|⟨_,H⟩)|(split at H)|(simp only [Option.bind_some] at H)|(rw [Option.bind_eq_some_iff] at H;obtain ⟨_,A,H⟩:=H)|cases H)
    all_goals repeat' (first
      | apply awp_seq
      | (apply awp_reg;rfl;simp (decide:=true) only [↓aops_cons,↓aopsD_cons,go_sem, *])
      | (apply awp_block;(try simp only [blockQ]))
      | (apply condT;(· simp (decide:=true) only [↓aops_cons,↓aopsD_cons,go_sem, *]))
      | (apply condF;(· simp (decide:=true) only [↓aops_cons,↓aopsD_cons,go_sem, *]))
      | (apply awp_skip;simp (decide:=true) only [↓aops_cons,↓aopsD_cons,go_sem, *])
      | (apply awp_exit;simp (decide:=true) only [↓aops_cons,↓aopsD_cons,go_sem, *])
      | (apply awp_ret;simp (decide:=true) only [↓aops_cons,↓aopsD_cons,go_sem, *])
      | (apply awp_regD (id:=5) [0,1,0,7,15,0,0,96,255];rfl;kernel_rfl;simp (decide:=true) only [↓aops_cons,↓aopsD_cons,go_sem, *])
      | (refine And.intro (a:=indep _ _ = true) ta ?_)
      | (rw [if_pos (show _ * _ ≤ 140737488355328 by (try simp only [List.length_append,List.length_cons,List.length_nil] at *);omega)];simp (decide:=true) only [↓aops_cons,↓aopsD_cons,go_sem, *])
      | (refine callI_of (spec_SpotOf_s _ _ _ tH) ?_;simp (decide:=true) only [↓aops_cons,↓aopsD_cons,go_sem, *])
      | (refine callJ_of (spec_SpotOf_s _ _ _ tH) ?_;simp (decide:=true) only [↓aops_cons,↓aopsD_cons,go_sem, *])
      | (refine ⟨_,0,_,?_,weakL [] ?_,_,_,rfl,rfl,H⟩;(· omega);(· simp (decide:=true) only [↓aops_cons,↓aopsD_cons,go_sem, *])))
set_option maxHeartbeats 8000000 in
set_option maxRecDepth 100000 in
theorem spec_SetAt_s (k:Nat) (a0:List S38) (a1:Int) (a2:Int) (r0 r1 r2 r3 r4:Int) (r5:Bool) (H:spec_SetAt.f k a0 a1 a2 = some (r0,r1,r2,r3,r4,r5)):SemCall 83 [⟨.one,[keysF a0]⟩,⟨.one,[litF a1]⟩,⟨.one,[litF a2]⟩] 0 ⟨.pr,[.fv (litF r0),.fv (litF r1),.fv (litF r2),.fv (litF r3),.fv (litF r4),.fv (litB r5)]⟩ 0:=by
 simp only [spec_SetAt.f] at H
 refine call0 (rs:=[.cell 6 38,.tmp 7]) Try.func83 rfl tF rfl Try.ntmps83 (Nat.le_of_ble_eq_true rfl) rfl ?_
 repeat' (first|contradiction|(rw [Option.ite_none_right_eq_some] at H;obtain ⟨_,H⟩:=H)|(rw [ite_or] at H;rcases H with ⟨_,H⟩|⟨_,H⟩)|(split at H)|(simp only [Option.bind_some] at H)|(rw [Option.bind_eq_some_iff] at H;obtain ⟨_,A,H⟩:=H)|cases H)
 all_goals repeat' (first
  | apply awp_seq
  | (apply awp_reg;rfl;simp (decide:=true) only [↓aops_cons,↓aopsD_cons,go_sem, *])
  | (apply awp_block;(try simp only [blockQ]))
  | (apply condT;(· simp (decide:=true) only [↓aops_cons,↓aopsD_cons,go_sem, *]))
  | (apply condF;(· simp (decide:=true) only [↓aops_cons,↓aopsD_cons,go_sem, *]))
  | (apply awp_skip;simp (decide:=true) only [↓aops_cons,↓aopsD_cons,go_sem, *])
  | (apply awp_exit;simp (decide:=true) only [↓aops_cons,↓aopsD_cons,go_sem, *])
  | (apply awp_ret;simp (decide:=true) only [↓aops_cons,↓aopsD_cons,go_sem, *])
  | (refine And.intro (a:=indep _ _ = true) ta ?_)
  | (rw [if_pos (show _ * _ ≤ 140737488355328 by (try simp only [List.length_append,List.length_cons,List.length_nil] at *);omega)];simp (decide:=true) only [↓aops_cons,↓aopsD_cons,go_sem, *])
  | (refine ⟨_,0,_,?_,weakL [] ?_,_,rfl,rfl,H⟩;(· omega);(· simp (decide:=true) only [↓aops_cons,↓aopsD_cons,go_sem, *])))
 all_goals
  refine loopX (fun m k s=>∃ (x8:Int),k = 0 ∧ s = ⟨mk [(0,.v .one [.fv (keysF a0)]),(1,.v .one [.fv (litF a1)]),(2,.v .one [.fv (litF a2)]),(6,.addr 6 0),(8,.v .one [.fv (litF x8)])],mo [(6,⟨38,[.fv (litF 0),.fv (litF 0),.fv (litF 0),.fv (litF 0),.fv (litF 0)]⟩)],mo []⟩ ∧ spec_SetAt.l0 m a0 a1 a2 x8 = some (r0,r1,r2,r3,r4,r5)) ?h0 ?hr
  case h0=>exact ⟨_,0,_,weakL [] tM,0,rfl,rfl,H⟩
  case hr =>
   rintro m k s ⟨x8,rfl,rfl,H⟩
   cases m with
   | zero=>cases H
   | succ m =>
    simp only [spec_SetAt.l0] at H
    repeat' (first|contradiction|(rw [Option.ite_none_right_eq_some] at H;obtain ⟨_,H⟩:=H)|(rw [ite_or] at H;rcases H with ⟨_,H⟩|⟨_,H⟩)|(split at H)|(simp only [Option.bind_some] at H)|(rw [Option.bind_eq_some_iff] at H;obtain ⟨_,A,H⟩:=H)|cases H)
    all_goals repeat' (first
      | apply awp_seq
      | (apply awp_reg;rfl;simp (decide:=true) only [↓aops_cons,↓aopsD_cons,go_sem, *])
      | (apply awp_block;(try simp only [blockQ]))
      | (apply condT;(· simp (decide:=true) only [↓aops_cons,↓aopsD_cons,go_sem, *]))
      | (apply condF;(· simp (decide:=true) only [↓aops_cons,↓aopsD_cons,go_sem, *]))
      | (apply awp_skip;simp (decide:=true) only [↓aops_cons,↓aopsD_cons,go_sem, *])
      | (apply awp_exit;simp (decide:=true) only [↓aops_cons,↓aopsD_cons,go_sem, *])
      | (apply awp_ret;simp (decide:=true) only [↓aops_cons,↓aopsD_cons,go_sem, *])
      | (refine And.intro (a:=indep _ _ = true) ta ?_)
      | (rw [if_pos (show _ * _ ≤ 140737488355328 by (try simp only [List.length_append,List.length_cons,List.length_nil] at *);omega)];simp (decide:=true) only [↓aops_cons,↓aopsD_cons,go_sem, *])
      | (refine ⟨_,0,_,?_,weakL [] ?_,_,rfl,rfl,H⟩;(· omega);(· simp (decide:=true) only [↓aops_cons,↓aopsD_cons,go_sem, *])))
set_option maxHeartbeats 8000000 in
set_option maxRecDepth 100000 in
theorem spec_NodeNew_s (a0:List S38) (r:List (List S38)) (H:spec_NodeNew.f a0 = some r):SemCall 56 [⟨.one,[keysF a0]⟩] 0 ⟨.agg,[.fv (setsF r)]⟩ 0:=by
 simp only [spec_NodeNew.f] at H
 refine call0 (rs:=[.cell 2 59]) Try.func56 rfl tF rfl Try.ntmps56 (Nat.le_of_ble_eq_true rfl) rfl ?_
 repeat' (first|contradiction|(rw [Option.ite_none_right_eq_some] at H;obtain ⟨_,H⟩:=H)|(rw [ite_or] at H;rcases H with ⟨_,H⟩|⟨_,H⟩)|(split at H)|(simp only [Option.bind_some] at H)|(rw [Option.bind_eq_some_iff] at H;obtain ⟨_,A,H⟩:=H)|cases H)
 all_goals repeat' (first
  | apply awp_seq
  | (apply awp_reg;rfl;simp (decide:=true) only [↓aops_cons,↓aopsD_cons,go_sem, *])
  | (apply awp_block;(try simp only [blockQ]))
  | (apply condT;(· simp (decide:=true) only [↓aops_cons,↓aopsD_cons,go_sem, *]))
  | (apply condF;(· simp (decide:=true) only [↓aops_cons,↓aopsD_cons,go_sem, *]))
  | (apply awp_skip;simp (decide:=true) only [↓aops_cons,↓aopsD_cons,go_sem, *])
  | (apply awp_exit;simp (decide:=true) only [↓aops_cons,↓aopsD_cons,go_sem, *])
  | (apply awp_ret;simp (decide:=true) only [↓aops_cons,↓aopsD_cons,go_sem, *])
  | (refine And.intro (a:=indep _ _ = true) ta ?_)
  | (rw [if_pos (show _ * _ ≤ 140737488355328 by (try simp only [List.length_append,List.length_cons,List.length_nil] at *);omega)];simp (decide:=true) only [↓aops_cons,↓aopsD_cons,go_sem, *]))
end Go.Proofs.Ytamjbjkbineafaa.EvFnExactTreePut
