/- The law: the functions that it reaches, each with the proof that the machine's call comes to its answer, what they answer, and the law's row; each theorem says its conditions itself. -/
import Derived.Test.YtamjbjkbineafaaZFnExactTreePut3
namespace Go.Proofs.Ytamjbjkbineafaa.EvFnExactTreePut
open Go Go.RowKit Go.Proofs.Ytamjbjkbineafaa.Ev Go.Proofs.Ytamjbjkbineafaa.PFnExactTreePut Go.Proofs.YtamjbjkbineafaaW.PrintWords Go.Proofs.YtamjbjkbineafaaW.PrintLast
set_option linter.unusedVariables false
set_option linter.unusedSimpArgs false
attribute [local go_sem] aops_nil outI_done outI_call aopsD_nil outJ_done outJ_call semG sem0 semD semS M.run evO constA litOk litA AS.app AS.put List.map startL litF litB upd_at List.length_set Int.toNat_lt guardA boolA intA rowO cellsA readA argsL partsL fillL fzC fzL fzW loadV importR importC importW ownsP tsz tagg known elem? tby zeroC isNone binV dropW isCall resOf resC outL outC ownIds nodupB AS.ev mk_nil mk_at mo_nil mo_at beq_dec bne_dec thenQ blockQ kok_same kok_nx nx_zero if_true if_false Nat.add_zero Nat.zero_add Nat.le_refl true_and and_true List.getElem?_cons_zero List.getElem?_cons_succ List.getElem?_nil List.drop_succ_cons List.drop_zero List.take_succ_cons List.take_zero List.length_cons List.length_nil List.append_nil List.nil_append List.cons_append List.length_append List.any_cons List.any_nil keyC keysF setsF nodesF intsF nodeC keysE_len keysE_app keysE_one keysE_nil setsE_len setsE_app setsE_one setsE_nil nodesE_len nodesE_app nodesE_one nodesE_nil intsE_len intsE_app intsE_one intsE_nil keysE_get setsE_get nodesE_get intsE_get keysE_take keysE_drop nodesE_take nodesE_drop intsE_take intsE_drop setsE_set nodesE_set leK leL leA tmOk boxOk memOk rowOk rowsOk fzR List.contains_cons List.contains_nil Option.map_some Option.map_none ge_iff_le gt_iff_lt leF_same leE_same Option.isSome_some decide_true decide_false endQ own0 leC leCs or_true true_or range0 range1 range2 w64_ Bool.not_true Bool.not_false bne_self_eq_false beq_self_eq_true Bool.and_true Bool.false_or Bool.or_false List.getLast?_cons_cons List.getLast?_singleton List.dropLast_cons_cons List.dropLast_singleton Option.some.injEq M.rds W.loc nilV setC intC intsE_cons nodesE_cons leF_nil lB lC List.drop_nil
theorem spec_NodePut.j0_s {y0 y1 y2 y3 y4 y5 y6 y7 y8 r} {k:Nat} (H:spec_NodePut.j0 k y0 y1 y2 y3 y4 y5 y6 y7 y8 = some r):∃ q,k = q + 1:=by cases k with
 | zero=>cases H
 | succ q=>exact ⟨q,rfl⟩
theorem spec_NodePut.j1_s {y0 y1 y2 y3 y4 y5 y6 y7 y8 r} {k:Nat} (H:spec_NodePut.j1 k y0 y1 y2 y3 y4 y5 y6 y7 y8 = some r):∃ q,k = q + 1:=by cases k with
 | zero=>cases H
 | succ q=>exact ⟨q,rfl⟩
theorem spec_NodePut.j2_s {y0 y1 y2 y3 y4 y5 y6 r} {k:Nat} (H:spec_NodePut.j2 k y0 y1 y2 y3 y4 y5 y6 = some r):∃ q,k = q + 1:=by cases k with
 | zero=>cases H
 | succ q=>exact ⟨q,rfl⟩
theorem spec_NodePut.j3_s {y0 y1 y2 r} {k:Nat} (H:spec_NodePut.j3 k y0 y1 y2 = some r):∃ q,k = q + 1:=by cases k with
 | zero=>cases H
 | succ q=>exact ⟨q,rfl⟩
set_option maxHeartbeats 8000000 in
set_option maxRecDepth 100000 in
theorem spec_NodePut_s (k:Nat) (a0:List (List S38)) (a10 a11 a12 a13 a14:Int) (r0:List (List S38)) (r1:Bool) (H:spec_NodePut.f k a0 a10 a11 a12 a13 a14 = some (r0,r1)):SemCall 50 [⟨.agg,[setsF a0]⟩,⟨.agg,[litF a10,litF a11,litF a12,litF a13,litF a14]⟩] 0 ⟨.pr,[.fv (setsF r0),.fv (litB r1)]⟩ 0:=by
 simp only [spec_NodePut.f] at H
 refine call0 (rs:=[.cell 4 59,.tmp 5]) Try.func50 rfl tF rfl Try.ntmps50 (Nat.le_of_ble_eq_true rfl) rfl ?_
 repeat' (first|contradiction|(rw [Option.ite_none_right_eq_some] at H;obtain ⟨_,H⟩:=H)|(rw [ite_or] at H;rcases H with ⟨_,H⟩|⟨_,H⟩)|(split at H)|(simp only [Option.bind_some] at H)|(rw [Option.bind_eq_some_iff] at H;obtain ⟨_,A,H⟩:=H)|(obtain ⟨_,rfl⟩:=spec_NodePut.j0_s H;simp only [spec_NodePut.j0,beq_iff_eq,bne_iff_ne,ne_eq,ite_not] at H)|(obtain ⟨_,rfl⟩:=spec_NodePut.j1_s H;simp only [spec_NodePut.j1,beq_iff_eq,bne_iff_ne,ne_eq,ite_not] at H)|(obtain ⟨_,rfl⟩:=spec_NodePut.j2_s H;simp only [spec_NodePut.j2,beq_iff_eq,bne_iff_ne,ne_eq,ite_not] at H)|(obtain ⟨_,rfl⟩:=spec_NodePut.j3_s H;simp only [spec_NodePut.j3,beq_iff_eq,bne_iff_ne,ne_eq,ite_not] at H)|cases H)
 all_goals try (rename spec_l5Copy.f (_ + 1) a0 = some _=>E1;rename spec_l5Copy.f _ a0 = some r0=>E2;have E:=(spec_l5Copy.mono _ _ _ (spec_l5Copy.mono _ _ _ (spec_l5Copy.mono _ _ _ (spec_l5Copy.mono _ _ _ E2))));rw [E1] at E;cases E)
 all_goals try (rename spec_NodeNew.f _ = some r0=>E2;revert E2;rename spec_NodeNew.f _ = some _=>E1;intro E2;rw [E1] at E2;cases E2)
 all_goals repeat' (first
  | apply awp_seq
  | (apply awp_reg;rfl;simp (decide:=true) only [↓aops_cons,↓aopsD_cons,go_sem, *])
  | (apply awp_block;(try simp only [blockQ]))
  | (apply condT;(· simp (decide:=true) only [↓aops_cons,↓aopsD_cons,go_sem, *]))
  | (apply condF;(· simp (decide:=true) only [↓aops_cons,↓aopsD_cons,go_sem, *]))
  | (apply awp_skip;simp (decide:=true) only [↓aops_cons,↓aopsD_cons,go_sem, *])
  | (apply awp_exit;simp (decide:=true) only [↓aops_cons,↓aopsD_cons,go_sem, *])
  | (apply awp_ret;simp (decide:=true) only [↓aops_cons,↓aopsD_cons,go_sem, *])
  | (apply awp_regD (id:=5) [0,1,0,7,15,0,32,0,128,511,1023,2047,2047,8191];rfl;kernel_rfl;simp (decide:=true) only [↓aops_cons,↓aopsD_cons,go_sem, *])
  | (apply awp_regD (id:=7) [0,1,0,0,8,0,56,120,0,504,1023,2047];rfl;kernel_rfl;simp (decide:=true) only [↓aops_cons,↓aopsD_cons,go_sem, *])
  | (apply awp_regD (id:=11) [0,1,0,7,15,31];rfl;kernel_rfl;simp (decide:=true) only [↓aops_cons,↓aopsD_cons,go_sem, *])
  | (refine And.intro (a:=indep _ _ = true) ta ?_)
  | (rw [if_pos (show _ * _ ≤ 140737488355328 by (try simp only [List.length_append,List.length_cons,List.length_nil] at *);omega)];simp (decide:=true) only [↓aops_cons,↓aopsD_cons,go_sem, *])
  | (refine callI_eq (spec_NodeOk_s _ _ _ ‹spec_NodeOk.f _ (_ ++ [_]) = some _›) ?_ ?_;(· simp (decide:=true) only [↓aops_cons,↓aopsD_cons,go_sem, *]);simp (decide:=true) only [↓aops_cons,↓aopsD_cons,go_sem, *])
  | (refine callJ_eq (spec_NodeOk_s _ _ _ ‹spec_NodeOk.f _ (_ ++ [_]) = some _›) ?_ ?_;(· simp (decide:=true) only [↓aops_cons,↓aopsD_cons,go_sem, *]);simp (decide:=true) only [↓aops_cons,↓aopsD_cons,go_sem, *])
  | (refine callI_of (spec_l5Copy_s _ _ _ tH) ?_;simp (decide:=true) only [↓aops_cons,↓aopsD_cons,go_sem, *])
  | (refine callJ_of (spec_l5Copy_s _ _ _ tH) ?_;simp (decide:=true) only [↓aops_cons,↓aopsD_cons,go_sem, *])
  | (refine callI_of (spec_SetAt_s _ _ _ _ _ _ _ _ _ _ tH) ?_;simp (decide:=true) only [↓aops_cons,↓aopsD_cons,go_sem, *])
  | (refine callJ_of (spec_SetAt_s _ _ _ _ _ _ _ _ _ _ tH) ?_;simp (decide:=true) only [↓aops_cons,↓aopsD_cons,go_sem, *])
  | (refine callI_of (spec_SetPut_s _ _ _ _ _ _ _ _ tH) ?_;simp (decide:=true) only [↓aops_cons,↓aopsD_cons,go_sem, *])
  | (refine callJ_of (spec_SetPut_s _ _ _ _ _ _ _ _ tH) ?_;simp (decide:=true) only [↓aops_cons,↓aopsD_cons,go_sem, *])
  | (refine callI_of (spec_NodeOk_s _ _ _ tH) ?_;simp (decide:=true) only [↓aops_cons,↓aopsD_cons,go_sem, *])
  | (refine callJ_of (spec_NodeOk_s _ _ _ tH) ?_;simp (decide:=true) only [↓aops_cons,↓aopsD_cons,go_sem, *])
  | (refine callI_of (spec_NodeKeys_s _ _ _ tH) ?_;simp (decide:=true) only [↓aops_cons,↓aopsD_cons,go_sem, *])
  | (refine callJ_of (spec_NodeKeys_s _ _ _ tH) ?_;simp (decide:=true) only [↓aops_cons,↓aopsD_cons,go_sem, *])
  | (refine callI_of (spec_Drop_s _ _ _ tH) ?_;simp (decide:=true) only [↓aops_cons,↓aopsD_cons,go_sem, *])
  | (refine callJ_of (spec_Drop_s _ _ _ tH) ?_;simp (decide:=true) only [↓aops_cons,↓aopsD_cons,go_sem, *])
  | (refine callI_of (spec_NodeNew_s _ _ tH) ?_;simp (decide:=true) only [↓aops_cons,↓aopsD_cons,go_sem, *])
  | (refine callJ_of (spec_NodeNew_s _ _ tH) ?_;simp (decide:=true) only [↓aops_cons,↓aopsD_cons,go_sem, *]))
set_option maxHeartbeats 8000000 in
set_option maxRecDepth 100000 in
theorem spec_l6Set_s (a00:List Int) (a01:List S59) (a1:Int) (a2:List Int) (a3:List S59) (r0:List Int) (r1:List S59) (H:spec_l6Set.f a00 a01 a1 a2 a3 = some (r0,r1)):SemCall 51 [⟨.agg,[intsF a00,nodesF a01]⟩,⟨.one,[litF a1]⟩,⟨.one,[intsF a2]⟩,⟨.one,[nodesF a3]⟩] 0 ⟨.agg,[.fv (intsF r0),.fv (nodesF r1)]⟩ 0:=by
 simp only [spec_l6Set.f] at H
 refine call0 (rs:=[.cell 8 29]) Try.func51 rfl tF rfl Try.ntmps51 (Nat.le_of_ble_eq_true rfl) rfl ?_
 repeat' (first|contradiction|(rw [Option.ite_none_right_eq_some] at H;obtain ⟨_,H⟩:=H)|(rw [ite_or] at H;rcases H with ⟨_,H⟩|⟨_,H⟩)|(split at H)|(simp only [Option.bind_some] at H)|(rw [Option.bind_eq_some_iff] at H;obtain ⟨_,A,H⟩:=H)|cases H)
 all_goals repeat' (first
  | apply awp_seq
  | (apply awp_reg;rfl;simp (decide:=true) only [↓aops_cons,↓aopsD_cons,go_sem, *])
  | (apply awp_block;(try simp only [blockQ]))
  | (apply condT;(· simp (decide:=true) only [↓aops_cons,↓aopsD_cons,go_sem, *]))
  | (apply condF;(· simp (decide:=true) only [↓aops_cons,↓aopsD_cons,go_sem, *]))
  | (apply awp_skip;simp (decide:=true) only [↓aops_cons,↓aopsD_cons,go_sem, *])
  | (apply awp_exit;simp (decide:=true) only [↓aops_cons,↓aopsD_cons,go_sem, *])
  | (apply awp_ret;simp (decide:=true) only [↓aops_cons,↓aopsD_cons,go_sem, *])
  | (apply awp_regD (id:=2) [0,0,2,0,14,31,0,127,0,256,0,1024,3840,8191,16383,32767];rfl;kernel_rfl;simp (decide:=true) only [↓aops_cons,↓aopsD_cons,go_sem, *])
  | (apply awp_regD (id:=3) [0,0,2,0,14,31,0,127,0,256,0,1024,3840,8191,16383,32767];rfl;kernel_rfl;simp (decide:=true) only [↓aops_cons,↓aopsD_cons,go_sem, *])
  | (refine And.intro (a:=indep _ _ = true) ta ?_)
  | (rw [if_pos (show _ * _ ≤ 140737488355328 by (try simp only [List.length_append,List.length_cons,List.length_nil] at *);omega)];simp (decide:=true) only [↓aops_cons,↓aopsD_cons,go_sem, *]))
set_option maxHeartbeats 8000000 in
set_option maxRecDepth 100000 in
theorem spec_l6Pair_s (k:Nat) (a00:List Int) (a01:List S59) (r:Int) (H:spec_l6Pair.f k a00 a01 = some r):SemCall 88 [⟨.agg,[intsF a00,nodesF a01]⟩] 0 ⟨.one,[.fv (litF r)]⟩ 0:=by
 simp only [spec_l6Pair.f] at H
 refine call0 (rs:=[.tmp 2]) Try.func88 rfl tF rfl Try.ntmps88 (Nat.le_of_ble_eq_true rfl) rfl ?_
 repeat' (first|contradiction|(rw [Option.ite_none_right_eq_some] at H;obtain ⟨_,H⟩:=H)|(rw [ite_or] at H;rcases H with ⟨_,H⟩|⟨_,H⟩)|(split at H)|(simp only [Option.bind_some] at H)|(rw [Option.bind_eq_some_iff] at H;obtain ⟨_,A,H⟩:=H)|cases H)
 all_goals repeat' (first
  | apply awp_seq
  | (apply awp_reg;rfl;simp (decide:=true) only [↓aops_cons,↓aopsD_cons,go_sem, *])
  | (apply awp_block;(try simp only [blockQ]))
  | (apply condT;(· simp (decide:=true) only [↓aops_cons,↓aopsD_cons,go_sem, *]))
  | (apply condF;(· simp (decide:=true) only [↓aops_cons,↓aopsD_cons,go_sem, *]))
  | (apply awp_skip;simp (decide:=true) only [↓aops_cons,↓aopsD_cons,go_sem, *])
  | (apply awp_exit;simp (decide:=true) only [↓aops_cons,↓aopsD_cons,go_sem, *])
  | (apply awp_ret;simp (decide:=true) only [↓aops_cons,↓aopsD_cons,go_sem, *])
  | (apply awp_regD (id:=4) [0,1,0,7,15,31,63,0,128,0,512,1920,3968,8127,16319,32767,65535];rfl;kernel_rfl;simp (decide:=true) only [↓aops_cons,↓aopsD_cons,go_sem, *])
  | (refine And.intro (a:=indep _ _ = true) ta ?_)
  | (rw [if_pos (show _ * _ ≤ 140737488355328 by (try simp only [List.length_append,List.length_cons,List.length_nil] at *);omega)];simp (decide:=true) only [↓aops_cons,↓aopsD_cons,go_sem, *])
  | (refine callI_of (spec_NodeKeys_s _ _ _ tH) ?_;simp (decide:=true) only [↓aops_cons,↓aopsD_cons,go_sem, *])
  | (refine callJ_of (spec_NodeKeys_s _ _ _ tH) ?_;simp (decide:=true) only [↓aops_cons,↓aopsD_cons,go_sem, *])
  | (refine ⟨_,0,_,?_,weakL [] ?_,_,rfl,rfl,H⟩;(· omega);(· simp (decide:=true) only [↓aops_cons,↓aopsD_cons,go_sem, *])))
 all_goals
  refine loopX (fun m k s=>∃ (x3:Int),k = 0 ∧ s = ⟨mk [(1,.addr 1 0),(3,.v .one [.fv (litF x3)])],mo [(1,⟨29,[.fv (intsF a00),.fv (nodesF a01)]⟩)],mo []⟩ ∧ spec_l6Pair.l0 m x3 a00 a01 = some r) ?h0 ?hr
  case h0=>exact ⟨_,0,_,weakL [] tM,0,rfl,rfl,H⟩
  case hr =>
   rintro m k s ⟨x3,rfl,rfl,H⟩
   cases m with
   | zero=>cases H
   | succ m =>
    simp only [spec_l6Pair.l0] at H
    repeat' (first|contradiction|(rw [Option.ite_none_right_eq_some] at H;obtain ⟨_,H⟩:=H)|(rw [ite_or] at H;rcases H with ⟨_,H⟩|⟨_,H⟩)|(split at H)|(simp only [Option.bind_some] at H)|(rw [Option.bind_eq_some_iff] at H;obtain ⟨_,A,H⟩:=H)|cases H)
    all_goals repeat' (first
      | apply awp_seq
      | (apply awp_reg;rfl;simp (decide:=true) only [↓aops_cons,↓aopsD_cons,go_sem, *])
      | (apply awp_block;(try simp only [blockQ]))
      | (apply condT;(· simp (decide:=true) only [↓aops_cons,↓aopsD_cons,go_sem, *]))
      | (apply condF;(· simp (decide:=true) only [↓aops_cons,↓aopsD_cons,go_sem, *]))
      | (apply awp_skip;simp (decide:=true) only [↓aops_cons,↓aopsD_cons,go_sem, *])
      | (apply awp_exit;simp (decide:=true) only [↓aops_cons,↓aopsD_cons,go_sem, *])
      | (apply awp_ret;simp (decide:=true) only [↓aops_cons,↓aopsD_cons,go_sem, *])
      | (apply awp_regD (id:=4) [0,1,0,7,15,31,63,0,128,0,512,1920,3968,8127,16319,32767,65535];rfl;kernel_rfl;simp (decide:=true) only [↓aops_cons,↓aopsD_cons,go_sem, *])
      | (refine And.intro (a:=indep _ _ = true) ta ?_)
      | (rw [if_pos (show _ * _ ≤ 140737488355328 by (try simp only [List.length_append,List.length_cons,List.length_nil] at *);omega)];simp (decide:=true) only [↓aops_cons,↓aopsD_cons,go_sem, *])
      | (refine callI_of (spec_NodeKeys_s _ _ _ tH) ?_;simp (decide:=true) only [↓aops_cons,↓aopsD_cons,go_sem, *])
      | (refine callJ_of (spec_NodeKeys_s _ _ _ tH) ?_;simp (decide:=true) only [↓aops_cons,↓aopsD_cons,go_sem, *])
      | (refine ⟨_,0,_,?_,weakL [] ?_,_,rfl,rfl,H⟩;(· omega);(· simp (decide:=true) only [↓aops_cons,↓aopsD_cons,go_sem, *])))
set_option maxHeartbeats 8000000 in
set_option maxRecDepth 100000 in
theorem spec_l6Join_s (k:Nat) (a00:List Int) (a01:List S59) (r0:List Int) (r1:List S59) (H:spec_l6Join.f k a00 a01 = some (r0,r1)):SemCall 57 [⟨.agg,[intsF a00,nodesF a01]⟩] 0 ⟨.agg,[.fv (intsF r0),.fv (nodesF r1)]⟩ 0:=by
 simp only [spec_l6Join.f] at H
 refine call0 (rs:=[.cell 2 29]) Try.func57 rfl tF rfl Try.ntmps57 (Nat.le_of_ble_eq_true rfl) rfl ?_
 repeat' (first|contradiction|(rw [Option.ite_none_right_eq_some] at H;obtain ⟨_,H⟩:=H)|(rw [ite_or] at H;rcases H with ⟨_,H⟩|⟨_,H⟩)|(split at H)|(simp only [Option.bind_some] at H)|(rw [Option.bind_eq_some_iff] at H;obtain ⟨_,A,H⟩:=H)|cases H)
 all_goals repeat' (first
  | apply awp_seq
  | (apply awp_reg;rfl;simp (decide:=true) only [↓aops_cons,↓aopsD_cons,go_sem, *])
  | (apply awp_block;(try simp only [blockQ]))
  | (apply condT;(· simp (decide:=true) only [↓aops_cons,↓aopsD_cons,go_sem, *]))
  | (apply condF;(· simp (decide:=true) only [↓aops_cons,↓aopsD_cons,go_sem, *]))
  | (apply awp_skip;simp (decide:=true) only [↓aops_cons,↓aopsD_cons,go_sem, *])
  | (apply awp_exit;simp (decide:=true) only [↓aops_cons,↓aopsD_cons,go_sem, *])
  | (apply awp_ret;simp (decide:=true) only [↓aops_cons,↓aopsD_cons,go_sem, *])
  | (apply awp_regD (id:=4) [0,1,0,7,15,31,0,64,0,256,960,1984,4095,8191,16383];rfl;kernel_rfl;simp (decide:=true) only [↓aops_cons,↓aopsD_cons,go_sem, *])
  | (apply awp_regD (id:=6) [0,0,2,0,8,30,63,0,128,0,512,1920,4095,8191,16383];rfl;kernel_rfl;simp (decide:=true) only [↓aops_cons,↓aopsD_cons,go_sem, *])
  | (apply awp_regD (id:=7) [0,0,2,0,14,31,0,127,255,511,0,1024,0,4096,15360,32767,65535,131071];rfl;kernel_rfl;simp (decide:=true) only [↓aops_cons,↓aopsD_cons,go_sem, *])
  | (refine And.intro (a:=indep _ _ = true) ta ?_)
  | (rw [if_pos (show _ * _ ≤ 140737488355328 by (try simp only [List.length_append,List.length_cons,List.length_nil] at *);omega)];simp (decide:=true) only [↓aops_cons,↓aopsD_cons,go_sem, *])
  | (refine callI_eq (spec_l6Pair_s _ _ _ _ ‹spec_l6Pair.f _ _ _ = some _›) ?_ ?_;(· simp (decide:=true) only [↓aops_cons,↓aopsD_cons,go_sem, *]);simp (decide:=true) only [↓aops_cons,↓aopsD_cons,go_sem, *])
  | (refine callJ_eq (spec_l6Pair_s _ _ _ _ ‹spec_l6Pair.f _ _ _ = some _›) ?_ ?_;(· simp (decide:=true) only [↓aops_cons,↓aopsD_cons,go_sem, *]);simp (decide:=true) only [↓aops_cons,↓aopsD_cons,go_sem, *])
  | (refine callI_eq (spec_NodeNew_s _ _ ‹spec_NodeNew.f _ = some _›) ?_ ?_;(· simp (decide:=true) only [↓aops_cons,↓aopsD_cons,go_sem, *]);simp (decide:=true) only [↓aops_cons,↓aopsD_cons,go_sem, *])
  | (refine callJ_eq (spec_NodeNew_s _ _ ‹spec_NodeNew.f _ = some _›) ?_ ?_;(· simp (decide:=true) only [↓aops_cons,↓aopsD_cons,go_sem, *]);simp (decide:=true) only [↓aops_cons,↓aopsD_cons,go_sem, *])
  | (refine callI_of (spec_l6Pair_s _ _ _ _ tH) ?_;simp (decide:=true) only [↓aops_cons,↓aopsD_cons,go_sem, *])
  | (refine callJ_of (spec_l6Pair_s _ _ _ _ tH) ?_;simp (decide:=true) only [↓aops_cons,↓aopsD_cons,go_sem, *])
  | (refine callI_of (spec_NodeKeys_s _ _ _ tH) ?_;simp (decide:=true) only [↓aops_cons,↓aopsD_cons,go_sem, *])
  | (refine callJ_of (spec_NodeKeys_s _ _ _ tH) ?_;simp (decide:=true) only [↓aops_cons,↓aopsD_cons,go_sem, *])
  | (refine callI_of (spec_NodeNew_s _ _ tH) ?_;simp (decide:=true) only [↓aops_cons,↓aopsD_cons,go_sem, *])
  | (refine callJ_of (spec_NodeNew_s _ _ tH) ?_;simp (decide:=true) only [↓aops_cons,↓aopsD_cons,go_sem, *])
  | (refine ⟨_,0,_,?_,weakL [27,41,49,1017,1024] ?_,_,_,_,rfl,rfl,H⟩;(· omega);(· simp (decide:=true) only [↓aops_cons,↓aopsD_cons,go_sem, *])))
 all_goals
  refine loopX (fun m k s=>∃ (x3:Int) (x4:List Int) (x5:List S59),k = 0 ∧ s = ⟨mk [(1,.addr 1 0),(2,.addr 2 0),(3,.v .one [.fv (litF x3)])],mo [(1,⟨29,[.fv (intsF x4),.fv (nodesF x5)]⟩),(2,⟨29,[.fv (.lit nilV),.fv (.lit nilV)]⟩)],mo []⟩ ∧ spec_l6Join.l0 m x3 x4 x5 = some (r0,r1)) ?h0 ?hr
  case h0=>exact ⟨_,0,_,weakL [27,41,49,1017,1024] tM,_,_,_,rfl,rfl,H⟩
  case hr =>
   rintro m k s ⟨x3,x4,x5,rfl,rfl,H⟩
   cases m with
   | zero=>cases H
   | succ m =>
    simp only [spec_l6Join.l0] at H
    repeat' (first|contradiction|(rw [Option.ite_none_right_eq_some] at H;obtain ⟨_,H⟩:=H)|(rw [ite_or] at H;rcases H with ⟨_,H⟩|⟨_,H⟩)|(split at H)|(simp only [Option.bind_some] at H)|(rw [Option.bind_eq_some_iff] at H;obtain ⟨_,A,H⟩:=H)|cases H)
    all_goals repeat' (first
      | apply awp_seq
      | (apply awp_reg;rfl;simp (decide:=true) only [↓aops_cons,↓aopsD_cons,go_sem, *])
      | (apply awp_block;(try simp only [blockQ]))
      | (apply condT;(· simp (decide:=true) only [↓aops_cons,↓aopsD_cons,go_sem, *]))
      | (apply condF;(· simp (decide:=true) only [↓aops_cons,↓aopsD_cons,go_sem, *]))
      | (apply awp_skip;simp (decide:=true) only [↓aops_cons,↓aopsD_cons,go_sem, *])
      | (apply awp_exit;simp (decide:=true) only [↓aops_cons,↓aopsD_cons,go_sem, *])
      | (apply awp_ret;simp (decide:=true) only [↓aops_cons,↓aopsD_cons,go_sem, *])
      | (apply awp_regD (id:=4) [0,1,0,7,15,31,0,64,0,256,960,1984,4095,8191,16383];rfl;kernel_rfl;simp (decide:=true) only [↓aops_cons,↓aopsD_cons,go_sem, *])
      | (apply awp_regD (id:=6) [0,0,2,0,8,30,63,0,128,0,512,1920,4095,8191,16383];rfl;kernel_rfl;simp (decide:=true) only [↓aops_cons,↓aopsD_cons,go_sem, *])
      | (apply awp_regD (id:=7) [0,0,2,0,14,31,0,127,255,511,0,1024,0,4096,15360,32767,65535,131071];rfl;kernel_rfl;simp (decide:=true) only [↓aops_cons,↓aopsD_cons,go_sem, *])
      | (refine And.intro (a:=indep _ _ = true) ta ?_)
      | (rw [if_pos (show _ * _ ≤ 140737488355328 by (try simp only [List.length_append,List.length_cons,List.length_nil] at *);omega)];simp (decide:=true) only [↓aops_cons,↓aopsD_cons,go_sem, *])
      | (refine callI_eq (spec_l6Pair_s _ _ _ _ ‹spec_l6Pair.f _ _ _ = some _›) ?_ ?_;(· simp (decide:=true) only [↓aops_cons,↓aopsD_cons,go_sem, *]);simp (decide:=true) only [↓aops_cons,↓aopsD_cons,go_sem, *])
      | (refine callJ_eq (spec_l6Pair_s _ _ _ _ ‹spec_l6Pair.f _ _ _ = some _›) ?_ ?_;(· simp (decide:=true) only [↓aops_cons,↓aopsD_cons,go_sem, *]);simp (decide:=true) only [↓aops_cons,↓aopsD_cons,go_sem, *])
      | (refine callI_eq (spec_NodeNew_s _ _ ‹spec_NodeNew.f _ = some _›) ?_ ?_;(· simp (decide:=true) only [↓aops_cons,↓aopsD_cons,go_sem, *]);simp (decide:=true) only [↓aops_cons,↓aopsD_cons,go_sem, *])
      | (refine callJ_eq (spec_NodeNew_s _ _ ‹spec_NodeNew.f _ = some _›) ?_ ?_;(· simp (decide:=true) only [↓aops_cons,↓aopsD_cons,go_sem, *]);simp (decide:=true) only [↓aops_cons,↓aopsD_cons,go_sem, *])
      | (refine callI_of (spec_l6Pair_s _ _ _ _ tH) ?_;simp (decide:=true) only [↓aops_cons,↓aopsD_cons,go_sem, *])
      | (refine callJ_of (spec_l6Pair_s _ _ _ _ tH) ?_;simp (decide:=true) only [↓aops_cons,↓aopsD_cons,go_sem, *])
      | (refine callI_of (spec_NodeKeys_s _ _ _ tH) ?_;simp (decide:=true) only [↓aops_cons,↓aopsD_cons,go_sem, *])
      | (refine callJ_of (spec_NodeKeys_s _ _ _ tH) ?_;simp (decide:=true) only [↓aops_cons,↓aopsD_cons,go_sem, *])
      | (refine callI_of (spec_NodeNew_s _ _ tH) ?_;simp (decide:=true) only [↓aops_cons,↓aopsD_cons,go_sem, *])
      | (refine callJ_of (spec_NodeNew_s _ _ tH) ?_;simp (decide:=true) only [↓aops_cons,↓aopsD_cons,go_sem, *])
      | (refine ⟨_,0,_,?_,weakL [27,41,49,1017,1024] ?_,_,_,_,rfl,rfl,H⟩;(· omega);(· simp (decide:=true) only [↓aops_cons,↓aopsD_cons,go_sem, *])))
end Go.Proofs.Ytamjbjkbineafaa.EvFnExactTreePut
