/- The law: the functions that it reaches, each with the proof that the machine's call comes to its answer, what they answer, and the law's row; each theorem says its conditions itself. -/
import Derived.Test.YtamjbjkbineafaaZFnPacked1
namespace Go.Proofs.Ytamjbjkbineafaa.EvFnPacked
open Go Go.RowKit Go.Proofs.Ytamjbjkbineafaa.Ev Go.Proofs.Ytamjbjkbineafaa.PFnPacked Go.Proofs.YtamjbjkbineafaaW.PrintWords Go.Proofs.YtamjbjkbineafaaW.PrintLast
set_option linter.unusedVariables false
set_option linter.unusedSimpArgs false
attribute [local go_sem] aops_nil outI_done outI_call aopsD_nil outJ_done outJ_call semG sem0 semD semS M.run evO constA litOk litA AS.app AS.put List.map startL litF litB upd_at List.length_set Int.toNat_lt guardA boolA intA rowO cellsA readA argsL partsL fillL fzC fzL fzW loadV importR importC importW ownsP tsz tagg known elem? tby zeroC isNone binV dropW isCall resOf resC outL outC ownIds nodupB AS.ev mk_nil mk_at mo_nil mo_at beq_dec bne_dec thenQ blockQ kok_same kok_nx nx_zero if_true if_false Nat.add_zero Nat.zero_add Nat.le_refl true_and and_true List.getElem?_cons_zero List.getElem?_cons_succ List.getElem?_nil List.drop_succ_cons List.drop_zero List.take_succ_cons List.take_zero List.length_cons List.length_nil List.append_nil List.nil_append List.cons_append List.length_append List.any_cons List.any_nil keyC keysF setsF nodesF intsF nodeC keysE_len keysE_app keysE_one keysE_nil setsE_len setsE_app setsE_one setsE_nil nodesE_len nodesE_app nodesE_one nodesE_nil intsE_len intsE_app intsE_one intsE_nil keysE_get setsE_get nodesE_get intsE_get keysE_take keysE_drop nodesE_take nodesE_drop intsE_take intsE_drop setsE_set nodesE_set leK leL leA tmOk boxOk memOk rowOk rowsOk fzR List.contains_cons List.contains_nil Option.map_some Option.map_none ge_iff_le gt_iff_lt leF_same leE_same Option.isSome_some decide_true decide_false endQ own0 leC leCs or_true true_or range0 range1 range2 w64_ Bool.not_true Bool.not_false bne_self_eq_false beq_self_eq_true Bool.and_true Bool.false_or Bool.or_false List.getLast?_cons_cons List.getLast?_singleton List.dropLast_cons_cons List.dropLast_singleton Option.some.injEq M.rds W.loc nilV setC intC intsE_cons nodesE_cons leF_nil lB lC List.drop_nil
set_option maxHeartbeats 8000000 in
set_option maxRecDepth 100000 in
theorem spec_l4Rises_s (k:Nat) (a0:List S38) (r:Bool) (H:spec_l4Rises.f k a0 = some r):SemCall 106 [⟨.one,[keysF a0]⟩] 0 ⟨.one,[.fv (litB r)]⟩ 0:=by
 simp only [spec_l4Rises.f] at H
 refine call0 (rs:=[.tmp 2]) Try.func106 rfl tH rfl Try.ntmps106 (Nat.le_of_ble_eq_true rfl) rfl ?_
 repeat' (first|contradiction|(rw [Option.ite_none_right_eq_some] at H;obtain ⟨_,H⟩:=H)|(rw [ite_or] at H;rcases H with ⟨_,H⟩|⟨_,H⟩)|(split at H)|(simp only [Option.bind_some] at H)|(rw [Option.bind_eq_some_iff] at H;obtain ⟨_,A,H⟩:=H)|cases H)
 all_goals repeat' (first
  | apply awp_seq
  | (apply awp_reg;rfl;simp (decide:=true) only [↓aops_cons,↓aopsD_cons,go_sem, *])
  | (apply awp_block;(try simp only [blockQ]))
  | (apply condT;(· simp (decide:=true) only [↓aops_cons,↓aopsD_cons,go_sem, *]))
  | (apply condF;(· simp (decide:=true) only [↓aops_cons,↓aopsD_cons,go_sem, *]))
  | (apply awp_skip;simp (decide:=true) only [↓aops_cons,↓aopsD_cons,go_sem, *])
  | (apply awp_exit;simp (decide:=true) only [↓aops_cons,↓aopsD_cons,go_sem, *])
  | (apply awp_ret;simp (decide:=true) only [↓aops_cons,↓aopsD_cons,go_sem, *])
  | (apply awp_regD (id:=4) [0,0,2,7,15,0,0,96,224,511,1023];rfl;kernel_rfl;simp (decide:=true) only [↓aops_cons,↓aopsD_cons,go_sem, *])
  | (refine And.intro (a:=indep _ _ = true) vH ?_)
  | (rw [if_pos (show _ * _ ≤ 140737488355328 by (try simp only [List.length_append,List.length_cons,List.length_nil] at *);omega)];simp (decide:=true) only [↓aops_cons,↓aopsD_cons,go_sem, *])
  | (refine callI_of (spec_LessKey_s _ _ _ _ _ _ _ _ _ _ _ tF) ?_;simp (decide:=true) only [↓aops_cons,↓aopsD_cons,go_sem, *])
  | (refine callJ_of (spec_LessKey_s _ _ _ _ _ _ _ _ _ _ _ tF) ?_;simp (decide:=true) only [↓aops_cons,↓aopsD_cons,go_sem, *])
  | (refine ⟨_,0,_,?_,weakL [] ?_,_,rfl,rfl,H⟩;(· omega);(· simp (decide:=true) only [↓aops_cons,↓aopsD_cons,go_sem, *])))
 all_goals
  refine loopX (fun m k s=>∃ (x3:Int),k = 0 ∧ s = ⟨mk [(0,.v .one [.fv (keysF a0)]),(3,.v .one [.fv (litF x3)])],mo [],mo []⟩ ∧ spec_l4Rises.l0 m a0 x3 = some r) ?h0 ?hr
  case h0=>exact ⟨_,0,_,weakL [] td,1,rfl,rfl,H⟩
  case hr =>
   rintro m k s ⟨x3,rfl,rfl,H⟩
   cases m with
   | zero=>cases H
   | succ m =>
    simp only [spec_l4Rises.l0] at H
    repeat' (first|contradiction|(rw [Option.ite_none_right_eq_some] at H;obtain ⟨_,H⟩:=H)|(rw [ite_or] at H;rcases H with ⟨_,H⟩|⟨_,H⟩)|(split at H)|(simp only [Option.bind_some] at H)|(rw [Option.bind_eq_some_iff] at H;obtain ⟨_,A,H⟩:=H)|cases H)
    all_goals repeat' (first
      | apply awp_seq
      | (apply awp_reg;rfl;simp (decide:=true) only [↓aops_cons,↓aopsD_cons,go_sem, *])
      | (apply awp_block;(try simp only [blockQ]))
      | (apply condT;(· simp (decide:=true) only [↓aops_cons,↓aopsD_cons,go_sem, *]))
      | (apply condF;(· simp (decide:=true) only [↓aops_cons,↓aopsD_cons,go_sem, *]))
      | (apply awp_skip;simp (decide:=true) only [↓aops_cons,↓aopsD_cons,go_sem, *])
      | (apply awp_exit;simp (decide:=true) only [↓aops_cons,↓aopsD_cons,go_sem, *])
      | (apply awp_ret;simp (decide:=true) only [↓aops_cons,↓aopsD_cons,go_sem, *])
      | (apply awp_regD (id:=4) [0,0,2,7,15,0,0,96,224,511,1023];rfl;kernel_rfl;simp (decide:=true) only [↓aops_cons,↓aopsD_cons,go_sem, *])
      | (refine And.intro (a:=indep _ _ = true) vH ?_)
      | (rw [if_pos (show _ * _ ≤ 140737488355328 by (try simp only [List.length_append,List.length_cons,List.length_nil] at *);omega)];simp (decide:=true) only [↓aops_cons,↓aopsD_cons,go_sem, *])
      | (refine callI_of (spec_LessKey_s _ _ _ _ _ _ _ _ _ _ _ tF) ?_;simp (decide:=true) only [↓aops_cons,↓aopsD_cons,go_sem, *])
      | (refine callJ_of (spec_LessKey_s _ _ _ _ _ _ _ _ _ _ _ tF) ?_;simp (decide:=true) only [↓aops_cons,↓aopsD_cons,go_sem, *])
      | (refine ⟨_,0,_,?_,weakL [] ?_,_,rfl,rfl,H⟩;(· omega);(· simp (decide:=true) only [↓aops_cons,↓aopsD_cons,go_sem, *])))
end Go.Proofs.Ytamjbjkbineafaa.EvFnPacked

namespace Go.Proofs.Ytamjbjkbineafaa.EvFnPacked
open Go Go.RowKit Go.Proofs.Ytamjbjkbineafaa.Ev Go.Proofs.Ytamjbjkbineafaa.PFnPacked Go.Proofs.YtamjbjkbineafaaW.PrintWords Go.Proofs.YtamjbjkbineafaaW.PrintLast
set_option linter.unusedVariables false
set_option linter.unusedSimpArgs false
attribute [local go_sem] aops_nil outI_done outI_call aopsD_nil outJ_done outJ_call semG sem0 semD semS M.run evO constA litOk litA AS.app AS.put List.map startL litF litB upd_at List.length_set Int.toNat_lt guardA boolA intA rowO cellsA readA argsL partsL fillL fzC fzL fzW loadV importR importC importW ownsP tsz tagg known elem? tby zeroC isNone binV dropW isCall resOf resC outL outC ownIds nodupB AS.ev mk_nil mk_at mo_nil mo_at beq_dec bne_dec thenQ blockQ kok_same kok_nx nx_zero if_true if_false Nat.add_zero Nat.zero_add Nat.le_refl true_and and_true List.getElem?_cons_zero List.getElem?_cons_succ List.getElem?_nil List.drop_succ_cons List.drop_zero List.take_succ_cons List.take_zero List.length_cons List.length_nil List.append_nil List.nil_append List.cons_append List.length_append List.any_cons List.any_nil keyC keysF setsF nodesF intsF nodeC keysE_len keysE_app keysE_one keysE_nil setsE_len setsE_app setsE_one setsE_nil nodesE_len nodesE_app nodesE_one nodesE_nil intsE_len intsE_app intsE_one intsE_nil keysE_get setsE_get nodesE_get intsE_get keysE_take keysE_drop nodesE_take nodesE_drop intsE_take intsE_drop setsE_set nodesE_set leK leL leA tmOk boxOk memOk rowOk rowsOk fzR List.contains_cons List.contains_nil Option.map_some Option.map_none ge_iff_le gt_iff_lt leF_same leE_same Option.isSome_some decide_true decide_false endQ own0 leC leCs or_true true_or range0 range1 range2 w64_ Bool.not_true Bool.not_false bne_self_eq_false beq_self_eq_true Bool.and_true Bool.false_or Bool.or_false List.getLast?_cons_cons List.getLast?_singleton List.dropLast_cons_cons List.dropLast_singleton Option.some.injEq M.rds W.loc nilV setC intC intsE_cons nodesE_cons leF_nil lB lC List.drop_nil
set_option maxHeartbeats 8000000 in
set_option maxRecDepth 100000 in
theorem spec_SetOk_s (k:Nat) (a0:List S38) (r:Bool) (H:spec_SetOk.f k a0 = some r):SemCall 100 [⟨.one,[keysF a0]⟩] 0 ⟨.one,[.fv (litB r)]⟩ 0:=by
 simp only [spec_SetOk.f] at H
 refine call0 (rs:=[.tmp 2]) Try.func100 rfl tH rfl Try.ntmps100 (Nat.le_of_ble_eq_true rfl) rfl ?_
 repeat' (first|contradiction|(rw [Option.ite_none_right_eq_some] at H;obtain ⟨_,H⟩:=H)|(rw [ite_or] at H;rcases H with ⟨_,H⟩|⟨_,H⟩)|(split at H)|(simp only [Option.bind_some] at H)|(rw [Option.bind_eq_some_iff] at H;obtain ⟨_,A,H⟩:=H)|cases H)
 all_goals repeat' (first
  | apply awp_seq
  | (apply awp_reg;rfl;simp (decide:=true) only [↓aops_cons,↓aopsD_cons,go_sem, *])
  | (apply awp_block;(try simp only [blockQ]))
  | (apply condT;(· simp (decide:=true) only [↓aops_cons,↓aopsD_cons,go_sem, *]))
  | (apply condF;(· simp (decide:=true) only [↓aops_cons,↓aopsD_cons,go_sem, *]))
  | (apply awp_skip;simp (decide:=true) only [↓aops_cons,↓aopsD_cons,go_sem, *])
  | (apply awp_exit;simp (decide:=true) only [↓aops_cons,↓aopsD_cons,go_sem, *])
  | (apply awp_ret;simp (decide:=true) only [↓aops_cons,↓aopsD_cons,go_sem, *])
  | (refine And.intro (a:=indep _ _ = true) vH ?_)
  | (rw [if_pos (show _ * _ ≤ 140737488355328 by (try simp only [List.length_append,List.length_cons,List.length_nil] at *);omega)];simp (decide:=true) only [↓aops_cons,↓aopsD_cons,go_sem, *])
  | (refine callI_of (spec_KeyOk_s _ _ _ _ _ _ _ tF) ?_;simp (decide:=true) only [↓aops_cons,↓aopsD_cons,go_sem, *])
  | (refine callJ_of (spec_KeyOk_s _ _ _ _ _ _ _ tF) ?_;simp (decide:=true) only [↓aops_cons,↓aopsD_cons,go_sem, *])
  | (refine callI_of (spec_l4Rises_s _ _ _ tF) ?_;simp (decide:=true) only [↓aops_cons,↓aopsD_cons,go_sem, *])
  | (refine callJ_of (spec_l4Rises_s _ _ _ tF) ?_;simp (decide:=true) only [↓aops_cons,↓aopsD_cons,go_sem, *])
  | (refine ⟨_,0,_,?_,weakL [] ?_,_,rfl,rfl,H⟩;(· omega);(· simp (decide:=true) only [↓aops_cons,↓aopsD_cons,go_sem, *])))
 all_goals
  refine loopX (fun m k s=>∃ (x3:Int),k = 0 ∧ s = ⟨mk [(0,.v .one [.fv (keysF a0)]),(3,.v .one [.fv (litF x3)])],mo [],mo []⟩ ∧ spec_SetOk.l0 m a0 x3 = some r) ?h0 ?hr
  case h0=>exact ⟨_,0,_,weakL [] td,0,rfl,rfl,H⟩
  case hr =>
   rintro m k s ⟨x3,rfl,rfl,H⟩
   cases m with
   | zero=>cases H
   | succ m =>
    simp only [spec_SetOk.l0] at H
    repeat' (first|contradiction|(rw [Option.ite_none_right_eq_some] at H;obtain ⟨_,H⟩:=H)|(rw [ite_or] at H;rcases H with ⟨_,H⟩|⟨_,H⟩)|(split at H)|(simp only [Option.bind_some] at H)|(rw [Option.bind_eq_some_iff] at H;obtain ⟨_,A,H⟩:=H)|cases H)
    all_goals repeat' (first
      | apply awp_seq
      | (apply awp_reg;rfl;simp (decide:=true) only [↓aops_cons,↓aopsD_cons,go_sem, *])
      | (apply awp_block;(try simp only [blockQ]))
      | (apply condT;(· simp (decide:=true) only [↓aops_cons,↓aopsD_cons,go_sem, *]))
      | (apply condF;(· simp (decide:=true) only [↓aops_cons,↓aopsD_cons,go_sem, *]))
      | (apply awp_skip;simp (decide:=true) only [↓aops_cons,↓aopsD_cons,go_sem, *])
      | (apply awp_exit;simp (decide:=true) only [↓aops_cons,↓aopsD_cons,go_sem, *])
      | (apply awp_ret;simp (decide:=true) only [↓aops_cons,↓aopsD_cons,go_sem, *])
      | (refine And.intro (a:=indep _ _ = true) vH ?_)
      | (rw [if_pos (show _ * _ ≤ 140737488355328 by (try simp only [List.length_append,List.length_cons,List.length_nil] at *);omega)];simp (decide:=true) only [↓aops_cons,↓aopsD_cons,go_sem, *])
      | (refine callI_of (spec_KeyOk_s _ _ _ _ _ _ _ tF) ?_;simp (decide:=true) only [↓aops_cons,↓aopsD_cons,go_sem, *])
      | (refine callJ_of (spec_KeyOk_s _ _ _ _ _ _ _ tF) ?_;simp (decide:=true) only [↓aops_cons,↓aopsD_cons,go_sem, *])
      | (refine callI_of (spec_l4Rises_s _ _ _ tF) ?_;simp (decide:=true) only [↓aops_cons,↓aopsD_cons,go_sem, *])
      | (refine callJ_of (spec_l4Rises_s _ _ _ tF) ?_;simp (decide:=true) only [↓aops_cons,↓aopsD_cons,go_sem, *])
      | (refine ⟨_,0,_,?_,weakL [] ?_,_,rfl,rfl,H⟩;(· omega);(· simp (decide:=true) only [↓aops_cons,↓aopsD_cons,go_sem, *])))
end Go.Proofs.Ytamjbjkbineafaa.EvFnPacked

namespace Go.Proofs.Ytamjbjkbineafaa.EvFnPacked
open Go Go.RowKit Go.Proofs.Ytamjbjkbineafaa.Ev Go.Proofs.Ytamjbjkbineafaa.PFnPacked Go.Proofs.YtamjbjkbineafaaW.PrintWords Go.Proofs.YtamjbjkbineafaaW.PrintLast
set_option linter.unusedVariables false
set_option linter.unusedSimpArgs false
attribute [local go_sem] aops_nil outI_done outI_call aopsD_nil outJ_done outJ_call semG sem0 semD semS M.run evO constA litOk litA AS.app AS.put List.map startL litF litB upd_at List.length_set Int.toNat_lt guardA boolA intA rowO cellsA readA argsL partsL fillL fzC fzL fzW loadV importR importC importW ownsP tsz tagg known elem? tby zeroC isNone binV dropW isCall resOf resC outL outC ownIds nodupB AS.ev mk_nil mk_at mo_nil mo_at beq_dec bne_dec thenQ blockQ kok_same kok_nx nx_zero if_true if_false Nat.add_zero Nat.zero_add Nat.le_refl true_and and_true List.getElem?_cons_zero List.getElem?_cons_succ List.getElem?_nil List.drop_succ_cons List.drop_zero List.take_succ_cons List.take_zero List.length_cons List.length_nil List.append_nil List.nil_append List.cons_append List.length_append List.any_cons List.any_nil keyC keysF setsF nodesF intsF nodeC keysE_len keysE_app keysE_one keysE_nil setsE_len setsE_app setsE_one setsE_nil nodesE_len nodesE_app nodesE_one nodesE_nil intsE_len intsE_app intsE_one intsE_nil keysE_get setsE_get nodesE_get intsE_get keysE_take keysE_drop nodesE_take nodesE_drop intsE_take intsE_drop setsE_set nodesE_set leK leL leA tmOk boxOk memOk rowOk rowsOk fzR List.contains_cons List.contains_nil Option.map_some Option.map_none ge_iff_le gt_iff_lt leF_same leE_same Option.isSome_some decide_true decide_false endQ own0 leC leCs or_true true_or range0 range1 range2 w64_ Bool.not_true Bool.not_false bne_self_eq_false beq_self_eq_true Bool.and_true Bool.false_or Bool.or_false List.getLast?_cons_cons List.getLast?_singleton List.dropLast_cons_cons List.dropLast_singleton Option.some.injEq M.rds W.loc nilV setC intC intsE_cons nodesE_cons leF_nil lB lC List.drop_nil
set_option maxHeartbeats 8000000 in
set_option maxRecDepth 100000 in
theorem spec_l5Count_s (k:Nat) (a0:List (List S38)) (r:Int) (H:spec_l5Count.f k a0 = some r):SemCall 101 [⟨.agg,[setsF a0]⟩] 0 ⟨.one,[.fv (litF r)]⟩ 0:=by
 simp only [spec_l5Count.f] at H
 refine call0 (rs:=[.tmp 2]) Try.func101 rfl tH rfl Try.ntmps101 (Nat.le_of_ble_eq_true rfl) rfl ?_
 repeat' (first|contradiction|(rw [Option.ite_none_right_eq_some] at H;obtain ⟨_,H⟩:=H)|(rw [ite_or] at H;rcases H with ⟨_,H⟩|⟨_,H⟩)|(split at H)|(simp only [Option.bind_some] at H)|(rw [Option.bind_eq_some_iff] at H;obtain ⟨_,A,H⟩:=H)|cases H)
 all_goals repeat' (first
  | apply awp_seq
  | (apply awp_reg;rfl;simp (decide:=true) only [↓aops_cons,↓aopsD_cons,go_sem, *])
  | (apply awp_block;(try simp only [blockQ]))
  | (apply condT;(· simp (decide:=true) only [↓aops_cons,↓aopsD_cons,go_sem, *]))
  | (apply condF;(· simp (decide:=true) only [↓aops_cons,↓aopsD_cons,go_sem, *]))
  | (apply awp_skip;simp (decide:=true) only [↓aops_cons,↓aopsD_cons,go_sem, *])
  | (apply awp_exit;simp (decide:=true) only [↓aops_cons,↓aopsD_cons,go_sem, *])
  | (apply awp_ret;simp (decide:=true) only [↓aops_cons,↓aopsD_cons,go_sem, *])
  | (refine And.intro (a:=indep _ _ = true) vH ?_)
  | (rw [if_pos (show _ * _ ≤ 140737488355328 by (try simp only [List.length_append,List.length_cons,List.length_nil] at *);omega)];simp (decide:=true) only [↓aops_cons,↓aopsD_cons,go_sem, *])
  | (refine ⟨_,0,_,?_,weakL [] ?_,_,_,rfl,rfl,H⟩;(· omega);(· simp (decide:=true) only [↓aops_cons,↓aopsD_cons,go_sem, *])))
 all_goals
  refine loopX (fun m k s=>∃ (x3 x4:Int),k = 0 ∧ s = ⟨mk [(1,.addr 1 0),(3,.v .one [.fv (litF x3)]),(4,.v .one [.fv (litF x4)])],mo [(1,⟨59,[.fv (setsF a0)]⟩)],mo []⟩ ∧ spec_l5Count.l0 m x3 x4 a0 = some r) ?h0 ?hr
  case h0=>exact ⟨_,0,_,weakL [] td,0,0,rfl,rfl,H⟩
  case hr =>
   rintro m k s ⟨x3,x4,rfl,rfl,H⟩
   cases m with
   | zero=>cases H
   | succ m =>
    simp only [spec_l5Count.l0] at H
    repeat' (first|contradiction|(rw [Option.ite_none_right_eq_some] at H;obtain ⟨_,H⟩:=H)|(rw [ite_or] at H;rcases H with ⟨_,H⟩|⟨_,H⟩)|(split at H)|(simp only [Option.bind_some] at H)|(rw [Option.bind_eq_some_iff] at H;obtain ⟨_,A,H⟩:=H)|cases H)
    all_goals repeat' (first
      | apply awp_seq
      | (apply awp_reg;rfl;simp (decide:=true) only [↓aops_cons,↓aopsD_cons,go_sem, *])
      | (apply awp_block;(try simp only [blockQ]))
      | (apply condT;(· simp (decide:=true) only [↓aops_cons,↓aopsD_cons,go_sem, *]))
      | (apply condF;(· simp (decide:=true) only [↓aops_cons,↓aopsD_cons,go_sem, *]))
      | (apply awp_skip;simp (decide:=true) only [↓aops_cons,↓aopsD_cons,go_sem, *])
      | (apply awp_exit;simp (decide:=true) only [↓aops_cons,↓aopsD_cons,go_sem, *])
      | (apply awp_ret;simp (decide:=true) only [↓aops_cons,↓aopsD_cons,go_sem, *])
      | (refine And.intro (a:=indep _ _ = true) vH ?_)
      | (rw [if_pos (show _ * _ ≤ 140737488355328 by (try simp only [List.length_append,List.length_cons,List.length_nil] at *);omega)];simp (decide:=true) only [↓aops_cons,↓aopsD_cons,go_sem, *])
      | (refine ⟨_,0,_,?_,weakL [] ?_,_,_,rfl,rfl,H⟩;(· omega);(· simp (decide:=true) only [↓aops_cons,↓aopsD_cons,go_sem, *])))
end Go.Proofs.Ytamjbjkbineafaa.EvFnPacked

namespace Go.Proofs.Ytamjbjkbineafaa.EvFnPacked
open Go Go.RowKit Go.Proofs.Ytamjbjkbineafaa.Ev Go.Proofs.Ytamjbjkbineafaa.PFnPacked Go.Proofs.YtamjbjkbineafaaW.PrintWords Go.Proofs.YtamjbjkbineafaaW.PrintLast
set_option linter.unusedVariables false
set_option linter.unusedSimpArgs false
attribute [local go_sem] aops_nil outI_done outI_call aopsD_nil outJ_done outJ_call semG sem0 semD semS M.run evO constA litOk litA AS.app AS.put List.map startL litF litB upd_at List.length_set Int.toNat_lt guardA boolA intA rowO cellsA readA argsL partsL fillL fzC fzL fzW loadV importR importC importW ownsP tsz tagg known elem? tby zeroC isNone binV dropW isCall resOf resC outL outC ownIds nodupB AS.ev mk_nil mk_at mo_nil mo_at beq_dec bne_dec thenQ blockQ kok_same kok_nx nx_zero if_true if_false Nat.add_zero Nat.zero_add Nat.le_refl true_and and_true List.getElem?_cons_zero List.getElem?_cons_succ List.getElem?_nil List.drop_succ_cons List.drop_zero List.take_succ_cons List.take_zero List.length_cons List.length_nil List.append_nil List.nil_append List.cons_append List.length_append List.any_cons List.any_nil keyC keysF setsF nodesF intsF nodeC keysE_len keysE_app keysE_one keysE_nil setsE_len setsE_app setsE_one setsE_nil nodesE_len nodesE_app nodesE_one nodesE_nil intsE_len intsE_app intsE_one intsE_nil keysE_get setsE_get nodesE_get intsE_get keysE_take keysE_drop nodesE_take nodesE_drop intsE_take intsE_drop setsE_set nodesE_set leK leL leA tmOk boxOk memOk rowOk rowsOk fzR List.contains_cons List.contains_nil Option.map_some Option.map_none ge_iff_le gt_iff_lt leF_same leE_same Option.isSome_some decide_true decide_false endQ own0 leC leCs or_true true_or range0 range1 range2 w64_ Bool.not_true Bool.not_false bne_self_eq_false beq_self_eq_true Bool.and_true Bool.false_or Bool.or_false List.getLast?_cons_cons List.getLast?_singleton List.dropLast_cons_cons List.dropLast_singleton Option.some.injEq M.rds W.loc nilV setC intC intsE_cons nodesE_cons leF_nil lB lC List.drop_nil
set_option maxHeartbeats 8000000 in
set_option maxRecDepth 100000 in
theorem spec_NodeOk_s (k:Nat) (a0:List (List S38)) (r:Bool) (H:spec_NodeOk.f k a0 = some r):SemCall 84 [⟨.agg,[setsF a0]⟩] 0 ⟨.one,[.fv (litB r)]⟩ 0:=by
 simp only [spec_NodeOk.f] at H
 refine call0 (rs:=[.tmp 2]) Try.func84 rfl tH rfl Try.ntmps84 (Nat.le_of_ble_eq_true rfl) rfl ?_
 repeat' (first|contradiction|(rw [Option.ite_none_right_eq_some] at H;obtain ⟨_,H⟩:=H)|(rw [ite_or] at H;rcases H with ⟨_,H⟩|⟨_,H⟩)|(split at H)|(simp only [Option.bind_some] at H)|(rw [Option.bind_eq_some_iff] at H;obtain ⟨_,A,H⟩:=H)|cases H)
 all_goals repeat' (first
  | apply awp_seq
  | (apply awp_reg;rfl;simp (decide:=true) only [↓aops_cons,↓aopsD_cons,go_sem, *])
  | (apply awp_block;(try simp only [blockQ]))
  | (apply condT;(· simp (decide:=true) only [↓aops_cons,↓aopsD_cons,go_sem, *]))
  | (apply condF;(· simp (decide:=true) only [↓aops_cons,↓aopsD_cons,go_sem, *]))
  | (apply awp_skip;simp (decide:=true) only [↓aops_cons,↓aopsD_cons,go_sem, *])
  | (apply awp_exit;simp (decide:=true) only [↓aops_cons,↓aopsD_cons,go_sem, *])
  | (apply awp_ret;simp (decide:=true) only [↓aops_cons,↓aopsD_cons,go_sem, *])
  | (refine And.intro (a:=indep _ _ = true) vH ?_)
  | (rw [if_pos (show _ * _ ≤ 140737488355328 by (try simp only [List.length_append,List.length_cons,List.length_nil] at *);omega)];simp (decide:=true) only [↓aops_cons,↓aopsD_cons,go_sem, *])
  | (refine callI_of (spec_SetOk_s _ _ _ tF) ?_;simp (decide:=true) only [↓aops_cons,↓aopsD_cons,go_sem, *])
  | (refine callJ_of (spec_SetOk_s _ _ _ tF) ?_;simp (decide:=true) only [↓aops_cons,↓aopsD_cons,go_sem, *])
  | (refine callI_of (spec_l5Count_s _ _ _ tF) ?_;simp (decide:=true) only [↓aops_cons,↓aopsD_cons,go_sem, *])
  | (refine callJ_of (spec_l5Count_s _ _ _ tF) ?_;simp (decide:=true) only [↓aops_cons,↓aopsD_cons,go_sem, *])
  | (refine ⟨_,0,_,?_,weakL [] ?_,_,rfl,rfl,H⟩;(· omega);(· simp (decide:=true) only [↓aops_cons,↓aopsD_cons,go_sem, *])))
 all_goals
  refine loopX (fun m k s=>∃ (x3:Int),k = 0 ∧ s = ⟨mk [(1,.addr 1 0),(3,.v .one [.fv (litF x3)])],mo [(1,⟨59,[.fv (setsF a0)]⟩)],mo []⟩ ∧ spec_NodeOk.l0 m x3 a0 = some r) ?h0 ?hr
  case h0=>exact ⟨_,0,_,weakL [] td,0,rfl,rfl,H⟩
  case hr =>
   rintro m k s ⟨x3,rfl,rfl,H⟩
   cases m with
   | zero=>cases H
   | succ m =>
    simp only [spec_NodeOk.l0] at H
    repeat' (first|contradiction|(rw [Option.ite_none_right_eq_some] at H;obtain ⟨_,H⟩:=H)|(rw [ite_or] at H;rcases H with ⟨_,H⟩|⟨_,H⟩)|(split at H)|(simp only [Option.bind_some] at H)|(rw [Option.bind_eq_some_iff] at H;obtain ⟨_,A,H⟩:=H)|cases H)
    all_goals repeat' (first
      | apply awp_seq
      | (apply awp_reg;rfl;simp (decide:=true) only [↓aops_cons,↓aopsD_cons,go_sem, *])
      | (apply awp_block;(try simp only [blockQ]))
      | (apply condT;(· simp (decide:=true) only [↓aops_cons,↓aopsD_cons,go_sem, *]))
      | (apply condF;(· simp (decide:=true) only [↓aops_cons,↓aopsD_cons,go_sem, *]))
      | (apply awp_skip;simp (decide:=true) only [↓aops_cons,↓aopsD_cons,go_sem, *])
      | (apply awp_exit;simp (decide:=true) only [↓aops_cons,↓aopsD_cons,go_sem, *])
      | (apply awp_ret;simp (decide:=true) only [↓aops_cons,↓aopsD_cons,go_sem, *])
      | (refine And.intro (a:=indep _ _ = true) vH ?_)
      | (rw [if_pos (show _ * _ ≤ 140737488355328 by (try simp only [List.length_append,List.length_cons,List.length_nil] at *);omega)];simp (decide:=true) only [↓aops_cons,↓aopsD_cons,go_sem, *])
      | (refine callI_of (spec_SetOk_s _ _ _ tF) ?_;simp (decide:=true) only [↓aops_cons,↓aopsD_cons,go_sem, *])
      | (refine callJ_of (spec_SetOk_s _ _ _ tF) ?_;simp (decide:=true) only [↓aops_cons,↓aopsD_cons,go_sem, *])
      | (refine callI_of (spec_l5Count_s _ _ _ tF) ?_;simp (decide:=true) only [↓aops_cons,↓aopsD_cons,go_sem, *])
      | (refine callJ_of (spec_l5Count_s _ _ _ tF) ?_;simp (decide:=true) only [↓aops_cons,↓aopsD_cons,go_sem, *])
      | (refine ⟨_,0,_,?_,weakL [] ?_,_,rfl,rfl,H⟩;(· omega);(· simp (decide:=true) only [↓aops_cons,↓aopsD_cons,go_sem, *])))
end Go.Proofs.Ytamjbjkbineafaa.EvFnPacked

namespace Go.Proofs.Ytamjbjkbineafaa.EvFnPacked
open Go Go.RowKit Go.Proofs.Ytamjbjkbineafaa.Ev Go.Proofs.Ytamjbjkbineafaa.PFnPacked Go.Proofs.YtamjbjkbineafaaW.PrintWords Go.Proofs.YtamjbjkbineafaaW.PrintLast
set_option linter.unusedVariables false
set_option linter.unusedSimpArgs false
attribute [local go_sem] aops_nil outI_done outI_call aopsD_nil outJ_done outJ_call semG sem0 semD semS M.run evO constA litOk litA AS.app AS.put List.map startL litF litB upd_at List.length_set Int.toNat_lt guardA boolA intA rowO cellsA readA argsL partsL fillL fzC fzL fzW loadV importR importC importW ownsP tsz tagg known elem? tby zeroC isNone binV dropW isCall resOf resC outL outC ownIds nodupB AS.ev mk_nil mk_at mo_nil mo_at beq_dec bne_dec thenQ blockQ kok_same kok_nx nx_zero if_true if_false Nat.add_zero Nat.zero_add Nat.le_refl true_and and_true List.getElem?_cons_zero List.getElem?_cons_succ List.getElem?_nil List.drop_succ_cons List.drop_zero List.take_succ_cons List.take_zero List.length_cons List.length_nil List.append_nil List.nil_append List.cons_append List.length_append List.any_cons List.any_nil keyC keysF setsF nodesF intsF nodeC keysE_len keysE_app keysE_one keysE_nil setsE_len setsE_app setsE_one setsE_nil nodesE_len nodesE_app nodesE_one nodesE_nil intsE_len intsE_app intsE_one intsE_nil keysE_get setsE_get nodesE_get intsE_get keysE_take keysE_drop nodesE_take nodesE_drop intsE_take intsE_drop setsE_set nodesE_set leK leL leA tmOk boxOk memOk rowOk rowsOk fzR List.contains_cons List.contains_nil Option.map_some Option.map_none ge_iff_le gt_iff_lt leF_same leE_same Option.isSome_some decide_true decide_false endQ own0 leC leCs or_true true_or range0 range1 range2 w64_ Bool.not_true Bool.not_false bne_self_eq_false beq_self_eq_true Bool.and_true Bool.false_or Bool.or_false List.getLast?_cons_cons List.getLast?_singleton List.dropLast_cons_cons List.dropLast_singleton Option.some.injEq M.rds W.loc nilV setC intC intsE_cons nodesE_cons leF_nil lB lC List.drop_nil
set_option maxHeartbeats 8000000 in
set_option maxRecDepth 100000 in
theorem spec_SameSpot_s (a00 a01 a02 a03 a04:Int) (a10 a11 a12 a13 a14:Int) (r:Bool) (H:spec_SameSpot.f a00 a01 a02 a03 a04 a10 a11 a12 a13 a14 = some r):SemCall 86 [⟨.agg,[litF a00,litF a01,litF a02,litF a03,litF a04]⟩,⟨.agg,[litF a10,litF a11,litF a12,litF a13,litF a14]⟩] 0 ⟨.one,[.fv (litB r)]⟩ 0:=by
 simp only [spec_SameSpot.f] at H
 refine call0 (rs:=[.tmp 4]) Try.func86 rfl tH rfl Try.ntmps86 (Nat.le_of_ble_eq_true rfl) rfl ?_
 repeat' (first|contradiction|(rw [Option.ite_none_right_eq_some] at H;obtain ⟨_,H⟩:=H)|(rw [ite_or] at H;rcases H with ⟨_,H⟩|⟨_,H⟩)|(split at H)|(simp only [Option.bind_some] at H)|(rw [Option.bind_eq_some_iff] at H;obtain ⟨_,A,H⟩:=H)|cases H)
 all_goals repeat' (first
  | apply awp_seq
  | (apply awp_reg;rfl;simp (decide:=true) only [↓aops_cons,↓aopsD_cons,go_sem, *])
  | (apply awp_block;(try simp only [blockQ]))
  | (apply condT;(· simp (decide:=true) only [↓aops_cons,↓aopsD_cons,go_sem, *]))
  | (apply condF;(· simp (decide:=true) only [↓aops_cons,↓aopsD_cons,go_sem, *]))
  | (apply awp_skip;simp (decide:=true) only [↓aops_cons,↓aopsD_cons,go_sem, *])
  | (apply awp_exit;simp (decide:=true) only [↓aops_cons,↓aopsD_cons,go_sem, *])
  | (apply awp_ret;simp (decide:=true) only [↓aops_cons,↓aopsD_cons,go_sem, *])
  | (refine And.intro (a:=indep _ _ = true) vH ?_)
  | (rw [if_pos (show _ * _ ≤ 140737488355328 by (try simp only [List.length_append,List.length_cons,List.length_nil] at *);omega)];simp (decide:=true) only [↓aops_cons,↓aopsD_cons,go_sem, *]))
end Go.Proofs.Ytamjbjkbineafaa.EvFnPacked

namespace Go.Proofs.Ytamjbjkbineafaa.EvFnPacked
open Go Go.RowKit Go.Proofs.Ytamjbjkbineafaa.Ev Go.Proofs.Ytamjbjkbineafaa.PFnPacked Go.Proofs.YtamjbjkbineafaaW.PrintWords Go.Proofs.YtamjbjkbineafaaW.PrintLast
set_option linter.unusedVariables false
set_option linter.unusedSimpArgs false
attribute [local go_sem] aops_nil outI_done outI_call aopsD_nil outJ_done outJ_call semG sem0 semD semS M.run evO constA litOk litA AS.app AS.put List.map startL litF litB upd_at List.length_set Int.toNat_lt guardA boolA intA rowO cellsA readA argsL partsL fillL fzC fzL fzW loadV importR importC importW ownsP tsz tagg known elem? tby zeroC isNone binV dropW isCall resOf resC outL outC ownIds nodupB AS.ev mk_nil mk_at mo_nil mo_at beq_dec bne_dec thenQ blockQ kok_same kok_nx nx_zero if_true if_false Nat.add_zero Nat.zero_add Nat.le_refl true_and and_true List.getElem?_cons_zero List.getElem?_cons_succ List.getElem?_nil List.drop_succ_cons List.drop_zero List.take_succ_cons List.take_zero List.length_cons List.length_nil List.append_nil List.nil_append List.cons_append List.length_append List.any_cons List.any_nil keyC keysF setsF nodesF intsF nodeC keysE_len keysE_app keysE_one keysE_nil setsE_len setsE_app setsE_one setsE_nil nodesE_len nodesE_app nodesE_one nodesE_nil intsE_len intsE_app intsE_one intsE_nil keysE_get setsE_get nodesE_get intsE_get keysE_take keysE_drop nodesE_take nodesE_drop intsE_take intsE_drop setsE_set nodesE_set leK leL leA tmOk boxOk memOk rowOk rowsOk fzR List.contains_cons List.contains_nil Option.map_some Option.map_none ge_iff_le gt_iff_lt leF_same leE_same Option.isSome_some decide_true decide_false endQ own0 leC leCs or_true true_or range0 range1 range2 w64_ Bool.not_true Bool.not_false bne_self_eq_false beq_self_eq_true Bool.and_true Bool.false_or Bool.or_false List.getLast?_cons_cons List.getLast?_singleton List.dropLast_cons_cons List.dropLast_singleton Option.some.injEq M.rds W.loc nilV setC intC intsE_cons nodesE_cons leF_nil lB lC List.drop_nil
theorem spec_SetPut.j1_s {y0 y1 y2 y3 y4 y5 y6 y7 y8 y9 r} {k:Nat} (H:spec_SetPut.j1 k y0 y1 y2 y3 y4 y5 y6 y7 y8 y9 = some r):∃ q,k = q + 1:=by cases k with
 | zero=>cases H
 | succ q=>exact ⟨q,rfl⟩
set_option maxHeartbeats 8000000 in
set_option maxRecDepth 100000 in
theorem spec_SetPut_s (k:Nat) (a0:List S38) (a10 a11 a12 a13 a14:Int) (r:List S38) (H:spec_SetPut.f k a0 a10 a11 a12 a13 a14 = some r):SemCall 53 [⟨.one,[keysF a0]⟩,⟨.agg,[litF a10,litF a11,litF a12,litF a13,litF a14]⟩] 0 ⟨.one,[.own 0 38 (keysE r)]⟩ 0:=by
 simp only [spec_SetPut.f] at H
 refine call0 (rs:=[.tmp 4]) Try.func53 rfl tH rfl Try.ntmps53 (Nat.le_of_ble_eq_true rfl) rfl ?_
 repeat' (first|contradiction|(rw [Option.ite_none_right_eq_some] at H;obtain ⟨_,H⟩:=H)|(rw [ite_or] at H;rcases H with ⟨_,H⟩|⟨_,H⟩)|(split at H)|(simp only [Option.bind_some] at H)|(rw [Option.bind_eq_some_iff] at H;obtain ⟨_,A,H⟩:=H)|(obtain ⟨_,rfl⟩:=spec_SetPut.j1_s H;simp only [spec_SetPut.j1,beq_iff_eq,bne_iff_ne,ne_eq,ite_not] at H)|cases H)
 all_goals repeat' (first
  | apply awp_seq
  | (apply awp_reg;rfl;simp (decide:=true) only [↓aops_cons,↓aopsD_cons,go_sem, *])
  | (apply awp_block;(try simp only [blockQ]))
  | (apply condT;(· simp (decide:=true) only [↓aops_cons,↓aopsD_cons,go_sem, *]))
  | (apply condF;(· simp (decide:=true) only [↓aops_cons,↓aopsD_cons,go_sem, *]))
  | (apply awp_skip;simp (decide:=true) only [↓aops_cons,↓aopsD_cons,go_sem, *])
  | (apply awp_exit;simp (decide:=true) only [↓aops_cons,↓aopsD_cons,go_sem, *])
  | (apply awp_ret;simp (decide:=true) only [↓aops_cons,↓aopsD_cons,go_sem, *])
  | (apply awp_regD (id:=6) [0,1,3,7,7,31,63,7,255,511,1023];rfl;kernel_rfl;simp (decide:=true) only [↓aops_cons,↓aopsD_cons,go_sem, *])
  | (apply awp_regD (id:=9) [0,0,3,7,0,31,63];rfl;kernel_rfl;simp (decide:=true) only [↓aops_cons,↓aopsD_cons,go_sem, *])
  | (refine And.intro (a:=indep _ _ = true) vH ?_)
  | (rw [if_pos (show _ * _ ≤ 140737488355328 by (try simp only [List.length_append,List.length_cons,List.length_nil] at *);omega)];simp (decide:=true) only [↓aops_cons,↓aopsD_cons,go_sem, *])
  | (refine callI_of (spec_LessKey_s _ _ _ _ _ _ _ _ _ _ _ tF) ?_;simp (decide:=true) only [↓aops_cons,↓aopsD_cons,go_sem, *])
  | (refine callJ_of (spec_LessKey_s _ _ _ _ _ _ _ _ _ _ _ tF) ?_;simp (decide:=true) only [↓aops_cons,↓aopsD_cons,go_sem, *])
  | (refine callI_of (spec_SameSpot_s _ _ _ _ _ _ _ _ _ _ _ tF) ?_;simp (decide:=true) only [↓aops_cons,↓aopsD_cons,go_sem, *])
  | (refine callJ_of (spec_SameSpot_s _ _ _ _ _ _ _ _ _ _ _ tF) ?_;simp (decide:=true) only [↓aops_cons,↓aopsD_cons,go_sem, *])
  | (refine ⟨_,0,_,?_,weakL [] ?_,_,_,_,rfl,rfl,H⟩;(· omega);(· simp (decide:=true) only [↓aops_cons,↓aopsD_cons,go_sem, *])))
 all_goals
  refine loopX (fun m k s=>∃ (x5:List S38) (x6:Bool) (x7:Int),k = 0 ∧ s = ⟨mk [(0,.v .one [.fv (keysF a0)]),(3,.addr 3 0),(5,.v .one [.own 8 x5.length]),(6,.v .one [.fv (litB x6)]),(7,.v .one [.fv (litF x7)])],mo [(3,⟨38,[.fv (litF a10),.fv (litF a11),.fv (litF a12),.fv (litF a13),.fv (litF a14)]⟩)],mo [(8,⟨0,38,keysE x5,false⟩)]⟩ ∧ spec_SetPut.l0 m a0 x5 x6 x7 a10 a11 a12 a13 a14 = some r) ?h0 ?hr
  case h0=>exact ⟨_,0,_,weakL [] td,[],false,0,rfl,rfl,H⟩
  case hr =>
   rintro m k s ⟨x5,x6,x7,rfl,rfl,H⟩
   cases m with
   | zero=>cases H
   | succ m =>
    simp only [spec_SetPut.l0] at H
    repeat' (first|contradiction|(rw [Option.ite_none_right_eq_some] at H;obtain ⟨_,H⟩:=H)|(rw [ite_or] at H;rcases H with ⟨_,H⟩|⟨_,H⟩)|(split at H)|(simp only [Option.bind_some] at H)|(rw [Option.bind_eq_some_iff] at H;obtain ⟨_,A,H⟩:=H)|(obtain ⟨_,rfl⟩:=spec_SetPut.j1_s H;simp only [spec_SetPut.j1,beq_iff_eq,bne_iff_ne,ne_eq,ite_not] at H)|cases H)
    all_goals repeat' (first
      | apply awp_seq
      | (apply awp_reg;rfl;simp (decide:=true) only [↓aops_cons,↓aopsD_cons,go_sem, *])
      | (apply awp_block;(try simp only [blockQ]))
      | (apply condT;(· simp (decide:=true) only [↓aops_cons,↓aopsD_cons,go_sem, *]))
      | (apply condF;(· simp (decide:=true) only [↓aops_cons,↓aopsD_cons,go_sem, *]))
      | (apply awp_skip;simp (decide:=true) only [↓aops_cons,↓aopsD_cons,go_sem, *])
      | (apply awp_exit;simp (decide:=true) only [↓aops_cons,↓aopsD_cons,go_sem, *])
      | (apply awp_ret;simp (decide:=true) only [↓aops_cons,↓aopsD_cons,go_sem, *])
      | (apply awp_regD (id:=6) [0,1,3,7,7,31,63,7,255,511,1023];rfl;kernel_rfl;simp (decide:=true) only [↓aops_cons,↓aopsD_cons,go_sem, *])
      | (apply awp_regD (id:=9) [0,0,3,7,0,31,63];rfl;kernel_rfl;simp (decide:=true) only [↓aops_cons,↓aopsD_cons,go_sem, *])
      | (refine And.intro (a:=indep _ _ = true) vH ?_)
      | (rw [if_pos (show _ * _ ≤ 140737488355328 by (try simp only [List.length_append,List.length_cons,List.length_nil] at *);omega)];simp (decide:=true) only [↓aops_cons,↓aopsD_cons,go_sem, *])
      | (refine callI_of (spec_LessKey_s _ _ _ _ _ _ _ _ _ _ _ tF) ?_;simp (decide:=true) only [↓aops_cons,↓aopsD_cons,go_sem, *])
      | (refine callJ_of (spec_LessKey_s _ _ _ _ _ _ _ _ _ _ _ tF) ?_;simp (decide:=true) only [↓aops_cons,↓aopsD_cons,go_sem, *])
      | (refine callI_of (spec_SameSpot_s _ _ _ _ _ _ _ _ _ _ _ tF) ?_;simp (decide:=true) only [↓aops_cons,↓aopsD_cons,go_sem, *])
      | (refine callJ_of (spec_SameSpot_s _ _ _ _ _ _ _ _ _ _ _ tF) ?_;simp (decide:=true) only [↓aops_cons,↓aopsD_cons,go_sem, *])
      | (refine ⟨_,0,_,?_,weakL [] ?_,_,_,_,rfl,rfl,H⟩;(· omega);(· simp (decide:=true) only [↓aops_cons,↓aopsD_cons,go_sem, *])))
end Go.Proofs.Ytamjbjkbineafaa.EvFnPacked

namespace Go.Proofs.Ytamjbjkbineafaa.EvFnPacked
open Go Go.RowKit Go.Proofs.Ytamjbjkbineafaa.Ev Go.Proofs.Ytamjbjkbineafaa.PFnPacked Go.Proofs.YtamjbjkbineafaaW.PrintWords Go.Proofs.YtamjbjkbineafaaW.PrintLast
set_option linter.unusedVariables false
set_option linter.unusedSimpArgs false
attribute [local go_sem] aops_nil outI_done outI_call aopsD_nil outJ_done outJ_call semG sem0 semD semS M.run evO constA litOk litA AS.app AS.put List.map startL litF litB upd_at List.length_set Int.toNat_lt guardA boolA intA rowO cellsA readA argsL partsL fillL fzC fzL fzW loadV importR importC importW ownsP tsz tagg known elem? tby zeroC isNone binV dropW isCall resOf resC outL outC ownIds nodupB AS.ev mk_nil mk_at mo_nil mo_at beq_dec bne_dec thenQ blockQ kok_same kok_nx nx_zero if_true if_false Nat.add_zero Nat.zero_add Nat.le_refl true_and and_true List.getElem?_cons_zero List.getElem?_cons_succ List.getElem?_nil List.drop_succ_cons List.drop_zero List.take_succ_cons List.take_zero List.length_cons List.length_nil List.append_nil List.nil_append List.cons_append List.length_append List.any_cons List.any_nil keyC keysF setsF nodesF intsF nodeC keysE_len keysE_app keysE_one keysE_nil setsE_len setsE_app setsE_one setsE_nil nodesE_len nodesE_app nodesE_one nodesE_nil intsE_len intsE_app intsE_one intsE_nil keysE_get setsE_get nodesE_get intsE_get keysE_take keysE_drop nodesE_take nodesE_drop intsE_take intsE_drop setsE_set nodesE_set leK leL leA tmOk boxOk memOk rowOk rowsOk fzR List.contains_cons List.contains_nil Option.map_some Option.map_none ge_iff_le gt_iff_lt leF_same leE_same Option.isSome_some decide_true decide_false endQ own0 leC leCs or_true true_or range0 range1 range2 w64_ Bool.not_true Bool.not_false bne_self_eq_false beq_self_eq_true Bool.and_true Bool.false_or Bool.or_false List.getLast?_cons_cons List.getLast?_singleton List.dropLast_cons_cons List.dropLast_singleton Option.some.injEq M.rds W.loc nilV setC intC intsE_cons nodesE_cons leF_nil lB lC List.drop_nil
set_option maxHeartbeats 8000000 in
set_option maxRecDepth 100000 in
theorem spec_MergeSets_s (k:Nat) (a0:List S38) (a1:List S38) (r:List S38) (H:spec_MergeSets.f k a0 a1 = some r):SemCall 87 [⟨.one,[keysF a0]⟩,⟨.one,[keysF a1]⟩] 0 ⟨.one,[.fv (keysF r)]⟩ 0:=by
 simp only [spec_MergeSets.f] at H
 refine call0 (rs:=[.tmp 4]) Try.func87 rfl tH rfl Try.ntmps87 (Nat.le_of_ble_eq_true rfl) rfl ?_
 repeat' (first|contradiction|(rw [Option.ite_none_right_eq_some] at H;obtain ⟨_,H⟩:=H)|(rw [ite_or] at H;rcases H with ⟨_,H⟩|⟨_,H⟩)|(split at H)|(simp only [Option.bind_some] at H)|(rw [Option.bind_eq_some_iff] at H;obtain ⟨_,A,H⟩:=H)|cases H)
 all_goals repeat' (first
  | apply awp_seq
  | (apply awp_reg;rfl;simp (decide:=true) only [↓aops_cons,↓aopsD_cons,go_sem, *])
  | (apply awp_block;(try simp only [blockQ]))
  | (apply condT;(· simp (decide:=true) only [↓aops_cons,↓aopsD_cons,go_sem, *]))
  | (apply condF;(· simp (decide:=true) only [↓aops_cons,↓aopsD_cons,go_sem, *]))
  | (apply awp_skip;simp (decide:=true) only [↓aops_cons,↓aopsD_cons,go_sem, *])
  | (apply awp_exit;simp (decide:=true) only [↓aops_cons,↓aopsD_cons,go_sem, *])
  | (apply awp_ret;simp (decide:=true) only [↓aops_cons,↓aopsD_cons,go_sem, *])
  | (refine And.intro (a:=indep _ _ = true) vH ?_)
  | (rw [if_pos (show _ * _ ≤ 140737488355328 by (try simp only [List.length_append,List.length_cons,List.length_nil] at *);omega)];simp (decide:=true) only [↓aops_cons,↓aopsD_cons,go_sem, *])
  | (refine callI_of (spec_SetPut_s _ _ _ _ _ _ _ _ tF) ?_;simp (decide:=true) only [↓aops_cons,↓aopsD_cons,go_sem, *])
  | (refine callJ_of (spec_SetPut_s _ _ _ _ _ _ _ _ tF) ?_;simp (decide:=true) only [↓aops_cons,↓aopsD_cons,go_sem, *])
  | (refine ⟨_,0,_,?_,weakL [7,1021] ?_,_,_,rfl,rfl,H⟩;(· omega);(· simp (decide:=true) only [↓aops_cons,↓aopsD_cons,go_sem, *])))
 all_goals
  refine loopX (fun m k s=>∃ (x5:List S38) (x6:Int),k = 0 ∧ s = ⟨mk [(1,.v .one [.fv (keysF a1)]),(5,.v .one [.fv (keysF x5)]),(6,.v .one [.fv (litF x6)])],mo [],mo []⟩ ∧ spec_MergeSets.l0 m a1 x5 x6 = some r) ?h0 ?hr
  case h0=>exact ⟨_,0,_,weakL [7,1021] td,_,0,rfl,rfl,H⟩
  case hr =>
   rintro m k s ⟨x5,x6,rfl,rfl,H⟩
   cases m with
   | zero=>cases H
   | succ m =>
    simp only [spec_MergeSets.l0] at H
    repeat' (first|contradiction|(rw [Option.ite_none_right_eq_some] at H;obtain ⟨_,H⟩:=H)|(rw [ite_or] at H;rcases H with ⟨_,H⟩|⟨_,H⟩)|(split at H)|(simp only [Option.bind_some] at H)|(rw [Option.bind_eq_some_iff] at H;obtain ⟨_,A,H⟩:=H)|cases H)
    all_goals repeat' (first
      | apply awp_seq
      | (apply awp_reg;rfl;simp (decide:=true) only [↓aops_cons,↓aopsD_cons,go_sem, *])
      | (apply awp_block;(try simp only [blockQ]))
      | (apply condT;(· simp (decide:=true) only [↓aops_cons,↓aopsD_cons,go_sem, *]))
      | (apply condF;(· simp (decide:=true) only [↓aops_cons,↓aopsD_cons,go_sem, *]))
      | (apply awp_skip;simp (decide:=true) only [↓aops_cons,↓aopsD_cons,go_sem, *])
      | (apply awp_exit;simp (decide:=true) only [↓aops_cons,↓aopsD_cons,go_sem, *])
      | (apply awp_ret;simp (decide:=true) only [↓aops_cons,↓aopsD_cons,go_sem, *])
      | (refine And.intro (a:=indep _ _ = true) vH ?_)
      | (rw [if_pos (show _ * _ ≤ 140737488355328 by (try simp only [List.length_append,List.length_cons,List.length_nil] at *);omega)];simp (decide:=true) only [↓aops_cons,↓aopsD_cons,go_sem, *])
      | (refine callI_of (spec_SetPut_s _ _ _ _ _ _ _ _ tF) ?_;simp (decide:=true) only [↓aops_cons,↓aopsD_cons,go_sem, *])
      | (refine callJ_of (spec_SetPut_s _ _ _ _ _ _ _ _ tF) ?_;simp (decide:=true) only [↓aops_cons,↓aopsD_cons,go_sem, *])
      | (refine ⟨_,0,_,?_,weakL [7,1021] ?_,_,_,rfl,rfl,H⟩;(· omega);(· simp (decide:=true) only [↓aops_cons,↓aopsD_cons,go_sem, *])))
end Go.Proofs.Ytamjbjkbineafaa.EvFnPacked

namespace Go.Proofs.Ytamjbjkbineafaa.EvFnPacked
open Go Go.RowKit Go.Proofs.Ytamjbjkbineafaa.Ev Go.Proofs.Ytamjbjkbineafaa.PFnPacked Go.Proofs.YtamjbjkbineafaaW.PrintWords Go.Proofs.YtamjbjkbineafaaW.PrintLast
set_option linter.unusedVariables false
set_option linter.unusedSimpArgs false
attribute [local go_sem] aops_nil outI_done outI_call aopsD_nil outJ_done outJ_call semG sem0 semD semS M.run evO constA litOk litA AS.app AS.put List.map startL litF litB upd_at List.length_set Int.toNat_lt guardA boolA intA rowO cellsA readA argsL partsL fillL fzC fzL fzW loadV importR importC importW ownsP tsz tagg known elem? tby zeroC isNone binV dropW isCall resOf resC outL outC ownIds nodupB AS.ev mk_nil mk_at mo_nil mo_at beq_dec bne_dec thenQ blockQ kok_same kok_nx nx_zero if_true if_false Nat.add_zero Nat.zero_add Nat.le_refl true_and and_true List.getElem?_cons_zero List.getElem?_cons_succ List.getElem?_nil List.drop_succ_cons List.drop_zero List.take_succ_cons List.take_zero List.length_cons List.length_nil List.append_nil List.nil_append List.cons_append List.length_append List.any_cons List.any_nil keyC keysF setsF nodesF intsF nodeC keysE_len keysE_app keysE_one keysE_nil setsE_len setsE_app setsE_one setsE_nil nodesE_len nodesE_app nodesE_one nodesE_nil intsE_len intsE_app intsE_one intsE_nil keysE_get setsE_get nodesE_get intsE_get keysE_take keysE_drop nodesE_take nodesE_drop intsE_take intsE_drop setsE_set nodesE_set leK leL leA tmOk boxOk memOk rowOk rowsOk fzR List.contains_cons List.contains_nil Option.map_some Option.map_none ge_iff_le gt_iff_lt leF_same leE_same Option.isSome_some decide_true decide_false endQ own0 leC leCs or_true true_or range0 range1 range2 w64_ Bool.not_true Bool.not_false bne_self_eq_false beq_self_eq_true Bool.and_true Bool.false_or Bool.or_false List.getLast?_cons_cons List.getLast?_singleton List.dropLast_cons_cons List.dropLast_singleton Option.some.injEq M.rds W.loc nilV setC intC intsE_cons nodesE_cons leF_nil lB lC List.drop_nil
set_option maxHeartbeats 8000000 in
set_option maxRecDepth 100000 in
theorem spec_Drop_s (k:Nat) (a0:List S38) (r:List S38) (H:spec_Drop.f k a0 = some r):SemCall 52 [⟨.one,[keysF a0]⟩] 0 ⟨.one,[.own 0 38 (keysE r)]⟩ 0:=by
 simp only [spec_Drop.f] at H
 refine call0 (rs:=[.tmp 2]) Try.func52 rfl tH rfl Try.ntmps52 (Nat.le_of_ble_eq_true rfl) rfl ?_
 repeat' (first|contradiction|(rw [Option.ite_none_right_eq_some] at H;obtain ⟨_,H⟩:=H)|(rw [ite_or] at H;rcases H with ⟨_,H⟩|⟨_,H⟩)|(split at H)|(simp only [Option.bind_some] at H)|(rw [Option.bind_eq_some_iff] at H;obtain ⟨_,A,H⟩:=H)|cases H)
 all_goals repeat' (first
  | apply awp_seq
  | (apply awp_reg;rfl;simp (decide:=true) only [↓aops_cons,↓aopsD_cons,go_sem, *])
  | (apply awp_block;(try simp only [blockQ]))
  | (apply condT;(· simp (decide:=true) only [↓aops_cons,↓aopsD_cons,go_sem, *]))
  | (apply condF;(· simp (decide:=true) only [↓aops_cons,↓aopsD_cons,go_sem, *]))
  | (apply awp_skip;simp (decide:=true) only [↓aops_cons,↓aopsD_cons,go_sem, *])
  | (apply awp_exit;simp (decide:=true) only [↓aops_cons,↓aopsD_cons,go_sem, *])
  | (apply awp_ret;simp (decide:=true) only [↓aops_cons,↓aopsD_cons,go_sem, *])
  | (refine And.intro (a:=indep _ _ = true) vH ?_)
  | (rw [if_pos (show _ * _ ≤ 140737488355328 by (try simp only [List.length_append,List.length_cons,List.length_nil] at *);omega)];simp (decide:=true) only [↓aops_cons,↓aopsD_cons,go_sem, *])
  | (refine ⟨_,0,_,?_,weakL [] ?_,_,_,rfl,rfl,H⟩;(· omega);(· simp (decide:=true) only [↓aops_cons,↓aopsD_cons,go_sem, *])))
 all_goals
  refine loopX (fun m k s=>∃ (x3:List S38) (x4:Int),k = 0 ∧ s = ⟨mk [(0,.v .one [.fv (keysF a0)]),(3,.v .one [.own 5 x3.length]),(4,.v .one [.fv (litF x4)])],mo [],mo [(5,⟨0,38,keysE x3,false⟩)]⟩ ∧ spec_Drop.l0 m a0 x3 x4 = some r) ?h0 ?hr
  case h0=>exact ⟨_,0,_,weakL [] td,[],0,rfl,rfl,H⟩
  case hr =>
   rintro m k s ⟨x3,x4,rfl,rfl,H⟩
   cases m with
   | zero=>cases H
   | succ m =>
    simp only [spec_Drop.l0] at H
    repeat' (first|contradiction|(rw [Option.ite_none_right_eq_some] at H;obtain ⟨_,H⟩:=H)|(rw [ite_or] at H;rcases H with ⟨_,H⟩|⟨_,H⟩)|(split at H)|(simp only [Option.bind_some] at H)|(rw [Option.bind_eq_some_iff] at H;obtain ⟨_,A,H⟩:=H)|cases H)
    all_goals repeat' (first
      | apply awp_seq
      | (apply awp_reg;rfl;simp (decide:=true) only [↓aops_cons,↓aopsD_cons,go_sem, *])
      | (apply awp_block;(try simp only [blockQ]))
      | (apply condT;(· simp (decide:=true) only [↓aops_cons,↓aopsD_cons,go_sem, *]))
      | (apply condF;(· simp (decide:=true) only [↓aops_cons,↓aopsD_cons,go_sem, *]))
      | (apply awp_skip;simp (decide:=true) only [↓aops_cons,↓aopsD_cons,go_sem, *])
      | (apply awp_exit;simp (decide:=true) only [↓aops_cons,↓aopsD_cons,go_sem, *])
      | (apply awp_ret;simp (decide:=true) only [↓aops_cons,↓aopsD_cons,go_sem, *])
      | (refine And.intro (a:=indep _ _ = true) vH ?_)
      | (rw [if_pos (show _ * _ ≤ 140737488355328 by (try simp only [List.length_append,List.length_cons,List.length_nil] at *);omega)];simp (decide:=true) only [↓aops_cons,↓aopsD_cons,go_sem, *])
      | (refine ⟨_,0,_,?_,weakL [] ?_,_,_,rfl,rfl,H⟩;(· omega);(· simp (decide:=true) only [↓aops_cons,↓aopsD_cons,go_sem, *])))
end Go.Proofs.Ytamjbjkbineafaa.EvFnPacked

namespace Go.Proofs.Ytamjbjkbineafaa.EvFnPacked
open Go Go.RowKit Go.Proofs.Ytamjbjkbineafaa.Ev Go.Proofs.Ytamjbjkbineafaa.PFnPacked Go.Proofs.YtamjbjkbineafaaW.PrintWords Go.Proofs.YtamjbjkbineafaaW.PrintLast
set_option linter.unusedVariables false
set_option linter.unusedSimpArgs false
attribute [local go_sem] aops_nil outI_done outI_call aopsD_nil outJ_done outJ_call semG sem0 semD semS M.run evO constA litOk litA AS.app AS.put List.map startL litF litB upd_at List.length_set Int.toNat_lt guardA boolA intA rowO cellsA readA argsL partsL fillL fzC fzL fzW loadV importR importC importW ownsP tsz tagg known elem? tby zeroC isNone binV dropW isCall resOf resC outL outC ownIds nodupB AS.ev mk_nil mk_at mo_nil mo_at beq_dec bne_dec thenQ blockQ kok_same kok_nx nx_zero if_true if_false Nat.add_zero Nat.zero_add Nat.le_refl true_and and_true List.getElem?_cons_zero List.getElem?_cons_succ List.getElem?_nil List.drop_succ_cons List.drop_zero List.take_succ_cons List.take_zero List.length_cons List.length_nil List.append_nil List.nil_append List.cons_append List.length_append List.any_cons List.any_nil keyC keysF setsF nodesF intsF nodeC keysE_len keysE_app keysE_one keysE_nil setsE_len setsE_app setsE_one setsE_nil nodesE_len nodesE_app nodesE_one nodesE_nil intsE_len intsE_app intsE_one intsE_nil keysE_get setsE_get nodesE_get intsE_get keysE_take keysE_drop nodesE_take nodesE_drop intsE_take intsE_drop setsE_set nodesE_set leK leL leA tmOk boxOk memOk rowOk rowsOk fzR List.contains_cons List.contains_nil Option.map_some Option.map_none ge_iff_le gt_iff_lt leF_same leE_same Option.isSome_some decide_true decide_false endQ own0 leC leCs or_true true_or range0 range1 range2 w64_ Bool.not_true Bool.not_false bne_self_eq_false beq_self_eq_true Bool.and_true Bool.false_or Bool.or_false List.getLast?_cons_cons List.getLast?_singleton List.dropLast_cons_cons List.dropLast_singleton Option.some.injEq M.rds W.loc nilV setC intC intsE_cons nodesE_cons leF_nil lB lC List.drop_nil
set_option maxHeartbeats 8000000 in
set_option maxRecDepth 100000 in
theorem spec_NodeKeys_s (k:Nat) (a0:List (List S38)) (r:List S38) (H:spec_NodeKeys.f k a0 = some r):SemCall 54 [⟨.agg,[setsF a0]⟩] 0 ⟨.one,[.own 0 38 (keysE r)]⟩ 0:=by
 simp only [spec_NodeKeys.f] at H
 refine call0 (rs:=[.tmp 2]) Try.func54 rfl tH rfl Try.ntmps54 (Nat.le_of_ble_eq_true rfl) rfl ?_
 repeat' (first|contradiction|(rw [Option.ite_none_right_eq_some] at H;obtain ⟨_,H⟩:=H)|(rw [ite_or] at H;rcases H with ⟨_,H⟩|⟨_,H⟩)|(split at H)|(simp only [Option.bind_some] at H)|(rw [Option.bind_eq_some_iff] at H;obtain ⟨_,A,H⟩:=H)|cases H)
 all_goals repeat' (first
  | apply awp_seq
  | (apply awp_reg;rfl;simp (decide:=true) only [↓aops_cons,↓aopsD_cons,go_sem, *])
  | (apply awp_block;(try simp only [blockQ]))
  | (apply condT;(· simp (decide:=true) only [↓aops_cons,↓aopsD_cons,go_sem, *]))
  | (apply condF;(· simp (decide:=true) only [↓aops_cons,↓aopsD_cons,go_sem, *]))
  | (apply awp_skip;simp (decide:=true) only [↓aops_cons,↓aopsD_cons,go_sem, *])
  | (apply awp_exit;simp (decide:=true) only [↓aops_cons,↓aopsD_cons,go_sem, *])
  | (apply awp_ret;simp (decide:=true) only [↓aops_cons,↓aopsD_cons,go_sem, *])
  | (refine And.intro (a:=indep _ _ = true) vH ?_)
  | (rw [if_pos (show _ * _ ≤ 140737488355328 by (try simp only [List.length_append,List.length_cons,List.length_nil] at *);omega)];simp (decide:=true) only [↓aops_cons,↓aopsD_cons,go_sem, *])
  | (refine callI_of (spec_MergeSets_s _ _ _ _ tF) ?_;simp (decide:=true) only [↓aops_cons,↓aopsD_cons,go_sem, *])
  | (refine callJ_of (spec_MergeSets_s _ _ _ _ tF) ?_;simp (decide:=true) only [↓aops_cons,↓aopsD_cons,go_sem, *])
  | (refine callI_of (spec_Drop_s _ _ _ tF) ?_;simp (decide:=true) only [↓aops_cons,↓aopsD_cons,go_sem, *])
  | (refine callJ_of (spec_Drop_s _ _ _ tF) ?_;simp (decide:=true) only [↓aops_cons,↓aopsD_cons,go_sem, *])
  | (refine ⟨_,0,_,?_,weakL [5] ?_,_,_,rfl,rfl,H⟩;(· omega);(· simp (decide:=true) only [↓aops_cons,↓aopsD_cons,go_sem, *])))
 all_goals
  refine loopX (fun m k s=>∃ (x3:List S38) (x4:Int),k = 0 ∧ s = ⟨mk [(1,.addr 1 0),(3,.v .one [.fv (keysF x3)]),(4,.v .one [.fv (litF x4)])],mo [(1,⟨59,[.fv (setsF a0)]⟩)],mo []⟩ ∧ spec_NodeKeys.l0 m x3 x4 a0 = some r) ?h0 ?hr
  case h0=>exact ⟨_,0,_,weakL [5] td,[],0,rfl,rfl,H⟩
  case hr =>
   rintro m k s ⟨x3,x4,rfl,rfl,H⟩
   cases m with
   | zero=>cases H
   | succ m =>
    simp only [spec_NodeKeys.l0] at H
    repeat' (first|contradiction|(rw [Option.ite_none_right_eq_some] at H;obtain ⟨_,H⟩:=H)|(rw [ite_or] at H;rcases H with ⟨_,H⟩|⟨_,H⟩)|(split at H)|(simp only [Option.bind_some] at H)|(rw [Option.bind_eq_some_iff] at H;obtain ⟨_,A,H⟩:=H)|cases H)
    all_goals repeat' (first
      | apply awp_seq
      | (apply awp_reg;rfl;simp (decide:=true) only [↓aops_cons,↓aopsD_cons,go_sem, *])
      | (apply awp_block;(try simp only [blockQ]))
      | (apply condT;(· simp (decide:=true) only [↓aops_cons,↓aopsD_cons,go_sem, *]))
      | (apply condF;(· simp (decide:=true) only [↓aops_cons,↓aopsD_cons,go_sem, *]))
      | (apply awp_skip;simp (decide:=true) only [↓aops_cons,↓aopsD_cons,go_sem, *])
      | (apply awp_exit;simp (decide:=true) only [↓aops_cons,↓aopsD_cons,go_sem, *])
      | (apply awp_ret;simp (decide:=true) only [↓aops_cons,↓aopsD_cons,go_sem, *])
      | (refine And.intro (a:=indep _ _ = true) vH ?_)
      | (rw [if_pos (show _ * _ ≤ 140737488355328 by (try simp only [List.length_append,List.length_cons,List.length_nil] at *);omega)];simp (decide:=true) only [↓aops_cons,↓aopsD_cons,go_sem, *])
      | (refine callI_of (spec_MergeSets_s _ _ _ _ tF) ?_;simp (decide:=true) only [↓aops_cons,↓aopsD_cons,go_sem, *])
      | (refine callJ_of (spec_MergeSets_s _ _ _ _ tF) ?_;simp (decide:=true) only [↓aops_cons,↓aopsD_cons,go_sem, *])
      | (refine callI_of (spec_Drop_s _ _ _ tF) ?_;simp (decide:=true) only [↓aops_cons,↓aopsD_cons,go_sem, *])
      | (refine callJ_of (spec_Drop_s _ _ _ tF) ?_;simp (decide:=true) only [↓aops_cons,↓aopsD_cons,go_sem, *])
      | (refine ⟨_,0,_,?_,weakL [5] ?_,_,_,rfl,rfl,H⟩;(· omega);(· simp (decide:=true) only [↓aops_cons,↓aopsD_cons,go_sem, *])))
end Go.Proofs.Ytamjbjkbineafaa.EvFnPacked

namespace Go.Proofs.Ytamjbjkbineafaa.EvFnPacked
open Go Go.RowKit Go.Proofs.Ytamjbjkbineafaa.Ev Go.Proofs.Ytamjbjkbineafaa.PFnPacked Go.Proofs.YtamjbjkbineafaaW.PrintWords Go.Proofs.YtamjbjkbineafaaW.PrintLast
set_option linter.unusedVariables false
set_option linter.unusedSimpArgs false
attribute [local go_sem] aops_nil outI_done outI_call aopsD_nil outJ_done outJ_call semG sem0 semD semS M.run evO constA litOk litA AS.app AS.put List.map startL litF litB upd_at List.length_set Int.toNat_lt guardA boolA intA rowO cellsA readA argsL partsL fillL fzC fzL fzW loadV importR importC importW ownsP tsz tagg known elem? tby zeroC isNone binV dropW isCall resOf resC outL outC ownIds nodupB AS.ev mk_nil mk_at mo_nil mo_at beq_dec bne_dec thenQ blockQ kok_same kok_nx nx_zero if_true if_false Nat.add_zero Nat.zero_add Nat.le_refl true_and and_true List.getElem?_cons_zero List.getElem?_cons_succ List.getElem?_nil List.drop_succ_cons List.drop_zero List.take_succ_cons List.take_zero List.length_cons List.length_nil List.append_nil List.nil_append List.cons_append List.length_append List.any_cons List.any_nil keyC keysF setsF nodesF intsF nodeC keysE_len keysE_app keysE_one keysE_nil setsE_len setsE_app setsE_one setsE_nil nodesE_len nodesE_app nodesE_one nodesE_nil intsE_len intsE_app intsE_one intsE_nil keysE_get setsE_get nodesE_get intsE_get keysE_take keysE_drop nodesE_take nodesE_drop intsE_take intsE_drop setsE_set nodesE_set leK leL leA tmOk boxOk memOk rowOk rowsOk fzR List.contains_cons List.contains_nil Option.map_some Option.map_none ge_iff_le gt_iff_lt leF_same leE_same Option.isSome_some decide_true decide_false endQ own0 leC leCs or_true true_or range0 range1 range2 w64_ Bool.not_true Bool.not_false bne_self_eq_false beq_self_eq_true Bool.and_true Bool.false_or Bool.or_false List.getLast?_cons_cons List.getLast?_singleton List.dropLast_cons_cons List.dropLast_singleton Option.some.injEq M.rds W.loc nilV setC intC intsE_cons nodesE_cons leF_nil lB lC List.drop_nil
set_option maxHeartbeats 8000000 in
set_option maxRecDepth 100000 in
theorem spec_SpotOf_s (a0:Int) (a1:Int) (r:Int) (H:spec_SpotOf.f a0 a1 = some r):SemCall 82 [⟨.one,[litF a0]⟩,⟨.one,[litF a1]⟩] 0 ⟨.one,[.fv (litF r)]⟩ 0:=by
 simp only [spec_SpotOf.f] at H
 refine call0 (rs:=[.tmp 4]) Try.func82 rfl tH rfl Try.ntmps82 (Nat.le_of_ble_eq_true rfl) rfl ?_
 repeat' (first|contradiction|(rw [Option.ite_none_right_eq_some] at H;obtain ⟨_,H⟩:=H)|(rw [ite_or] at H;rcases H with ⟨_,H⟩|⟨_,H⟩)|(split at H)|(simp only [Option.bind_some] at H)|(rw [Option.bind_eq_some_iff] at H;obtain ⟨_,A,H⟩:=H)|cases H)
 all_goals repeat' (first
  | apply awp_seq
  | (apply awp_reg;rfl;simp (decide:=true) only [↓aops_cons,↓aopsD_cons,go_sem, *])
  | (apply awp_block;(try simp only [blockQ]))
  | (apply condT;(· simp (decide:=true) only [↓aops_cons,↓aopsD_cons,go_sem, *]))
  | (apply condF;(· simp (decide:=true) only [↓aops_cons,↓aopsD_cons,go_sem, *]))
  | (apply awp_skip;simp (decide:=true) only [↓aops_cons,↓aopsD_cons,go_sem, *])
  | (apply awp_exit;simp (decide:=true) only [↓aops_cons,↓aopsD_cons,go_sem, *])
  | (apply awp_ret;simp (decide:=true) only [↓aops_cons,↓aopsD_cons,go_sem, *])
  | (refine And.intro (a:=indep _ _ = true) vH ?_)
  | (rw [if_pos (show _ * _ ≤ 140737488355328 by (try simp only [List.length_append,List.length_cons,List.length_nil] at *);omega)];simp (decide:=true) only [↓aops_cons,↓aopsD_cons,go_sem, *]))
end Go.Proofs.Ytamjbjkbineafaa.EvFnPacked

namespace Go.Proofs.Ytamjbjkbineafaa.EvFnPacked
open Go Go.RowKit Go.Proofs.Ytamjbjkbineafaa.Ev Go.Proofs.Ytamjbjkbineafaa.PFnPacked Go.Proofs.YtamjbjkbineafaaW.PrintWords Go.Proofs.YtamjbjkbineafaaW.PrintLast
set_option linter.unusedVariables false
set_option linter.unusedSimpArgs false
attribute [local go_sem] aops_nil outI_done outI_call aopsD_nil outJ_done outJ_call semG sem0 semD semS M.run evO constA litOk litA AS.app AS.put List.map startL litF litB upd_at List.length_set Int.toNat_lt guardA boolA intA rowO cellsA readA argsL partsL fillL fzC fzL fzW loadV importR importC importW ownsP tsz tagg known elem? tby zeroC isNone binV dropW isCall resOf resC outL outC ownIds nodupB AS.ev mk_nil mk_at mo_nil mo_at beq_dec bne_dec thenQ blockQ kok_same kok_nx nx_zero if_true if_false Nat.add_zero Nat.zero_add Nat.le_refl true_and and_true List.getElem?_cons_zero List.getElem?_cons_succ List.getElem?_nil List.drop_succ_cons List.drop_zero List.take_succ_cons List.take_zero List.length_cons List.length_nil List.append_nil List.nil_append List.cons_append List.length_append List.any_cons List.any_nil keyC keysF setsF nodesF intsF nodeC keysE_len keysE_app keysE_one keysE_nil setsE_len setsE_app setsE_one setsE_nil nodesE_len nodesE_app nodesE_one nodesE_nil intsE_len intsE_app intsE_one intsE_nil keysE_get setsE_get nodesE_get intsE_get keysE_take keysE_drop nodesE_take nodesE_drop intsE_take intsE_drop setsE_set nodesE_set leK leL leA tmOk boxOk memOk rowOk rowsOk fzR List.contains_cons List.contains_nil Option.map_some Option.map_none ge_iff_le gt_iff_lt leF_same leE_same Option.isSome_some decide_true decide_false endQ own0 leC leCs or_true true_or range0 range1 range2 w64_ Bool.not_true Bool.not_false bne_self_eq_false beq_self_eq_true Bool.and_true Bool.false_or Bool.or_false List.getLast?_cons_cons List.getLast?_singleton List.dropLast_cons_cons List.dropLast_singleton Option.some.injEq M.rds W.loc nilV setC intC intsE_cons nodesE_cons leF_nil lB lC List.drop_nil
set_option maxHeartbeats 8000000 in
set_option maxRecDepth 100000 in
theorem spec_l6Spot_s (a00 a01 a02 a03 a04:Int) (r:Int) (H:spec_l6Spot.f a00 a01 a02 a03 a04 = some r):SemCall 55 [⟨.agg,[litF a00,litF a01,litF a02,litF a03,litF a04]⟩] 0 ⟨.one,[.fv (litF r)]⟩ 0:=by
 simp only [spec_l6Spot.f] at H
 refine call0 (rs:=[.tmp 2]) Try.func55 rfl tH rfl Try.ntmps55 (Nat.le_of_ble_eq_true rfl) rfl ?_
 repeat' (first|contradiction|(rw [Option.ite_none_right_eq_some] at H;obtain ⟨_,H⟩:=H)|(rw [ite_or] at H;rcases H with ⟨_,H⟩|⟨_,H⟩)|(split at H)|(simp only [Option.bind_some] at H)|(rw [Option.bind_eq_some_iff] at H;obtain ⟨_,A,H⟩:=H)|cases H)
 all_goals repeat' (first
  | apply awp_seq
  | (apply awp_reg;rfl;simp (decide:=true) only [↓aops_cons,↓aopsD_cons,go_sem, *])
  | (apply awp_block;(try simp only [blockQ]))
  | (apply condT;(· simp (decide:=true) only [↓aops_cons,↓aopsD_cons,go_sem, *]))
  | (apply condF;(· simp (decide:=true) only [↓aops_cons,↓aopsD_cons,go_sem, *]))
  | (apply awp_skip;simp (decide:=true) only [↓aops_cons,↓aopsD_cons,go_sem, *])
  | (apply awp_exit;simp (decide:=true) only [↓aops_cons,↓aopsD_cons,go_sem, *])
  | (apply awp_ret;simp (decide:=true) only [↓aops_cons,↓aopsD_cons,go_sem, *])
  | (refine And.intro (a:=indep _ _ = true) vH ?_)
  | (rw [if_pos (show _ * _ ≤ 140737488355328 by (try simp only [List.length_append,List.length_cons,List.length_nil] at *);omega)];simp (decide:=true) only [↓aops_cons,↓aopsD_cons,go_sem, *])
  | (refine callI_of (spec_SpotOf_s _ _ _ tF) ?_;simp (decide:=true) only [↓aops_cons,↓aopsD_cons,go_sem, *])
  | (refine callJ_of (spec_SpotOf_s _ _ _ tF) ?_;simp (decide:=true) only [↓aops_cons,↓aopsD_cons,go_sem, *]))
end Go.Proofs.Ytamjbjkbineafaa.EvFnPacked

namespace Go.Proofs.Ytamjbjkbineafaa.EvFnPacked
open Go Go.RowKit Go.Proofs.Ytamjbjkbineafaa.Ev Go.Proofs.Ytamjbjkbineafaa.PFnPacked Go.Proofs.YtamjbjkbineafaaW.PrintWords Go.Proofs.YtamjbjkbineafaaW.PrintLast
set_option linter.unusedVariables false
set_option linter.unusedSimpArgs false
attribute [local go_sem] aops_nil outI_done outI_call aopsD_nil outJ_done outJ_call semG sem0 semD semS M.run evO constA litOk litA AS.app AS.put List.map startL litF litB upd_at List.length_set Int.toNat_lt guardA boolA intA rowO cellsA readA argsL partsL fillL fzC fzL fzW loadV importR importC importW ownsP tsz tagg known elem? tby zeroC isNone binV dropW isCall resOf resC outL outC ownIds nodupB AS.ev mk_nil mk_at mo_nil mo_at beq_dec bne_dec thenQ blockQ kok_same kok_nx nx_zero if_true if_false Nat.add_zero Nat.zero_add Nat.le_refl true_and and_true List.getElem?_cons_zero List.getElem?_cons_succ List.getElem?_nil List.drop_succ_cons List.drop_zero List.take_succ_cons List.take_zero List.length_cons List.length_nil List.append_nil List.nil_append List.cons_append List.length_append List.any_cons List.any_nil keyC keysF setsF nodesF intsF nodeC keysE_len keysE_app keysE_one keysE_nil setsE_len setsE_app setsE_one setsE_nil nodesE_len nodesE_app nodesE_one nodesE_nil intsE_len intsE_app intsE_one intsE_nil keysE_get setsE_get nodesE_get intsE_get keysE_take keysE_drop nodesE_take nodesE_drop intsE_take intsE_drop setsE_set nodesE_set leK leL leA tmOk boxOk memOk rowOk rowsOk fzR List.contains_cons List.contains_nil Option.map_some Option.map_none ge_iff_le gt_iff_lt leF_same leE_same Option.isSome_some decide_true decide_false endQ own0 leC leCs or_true true_or range0 range1 range2 w64_ Bool.not_true Bool.not_false bne_self_eq_false beq_self_eq_true Bool.and_true Bool.false_or Bool.or_false List.getLast?_cons_cons List.getLast?_singleton List.dropLast_cons_cons List.dropLast_singleton Option.some.injEq M.rds W.loc nilV setC intC intsE_cons nodesE_cons leF_nil lB lC List.drop_nil
theorem spec_l6Node.j0_s {y0 y1 y2 y3 y4 r} {k:Nat} (H:spec_l6Node.j0 k y0 y1 y2 y3 y4 = some r):∃ q,k = q + 1:=by cases k with
 | zero=>cases H
 | succ q=>exact ⟨q,rfl⟩
set_option maxHeartbeats 8000000 in
set_option maxRecDepth 100000 in
theorem spec_l6Node_s (k:Nat) (a00:List Int) (a01:List S59) (a1:Int) (r:Bool) (H:spec_l6Node.f k a00 a01 a1 = some r):SemCall 80 [⟨.agg,[intsF a00,nodesF a01]⟩,⟨.one,[litF a1]⟩] 0 ⟨.one,[.fv (litB r)]⟩ 0:=by
 simp only [spec_l6Node.f] at H
 refine call0 (rs:=[.tmp 4]) Try.func80 rfl tH rfl Try.ntmps80 (Nat.le_of_ble_eq_true rfl) rfl ?_
 repeat' (first|contradiction|(rw [Option.ite_none_right_eq_some] at H;obtain ⟨_,H⟩:=H)|(rw [ite_or] at H;rcases H with ⟨_,H⟩|⟨_,H⟩)|(split at H)|(simp only [Option.bind_some] at H)|(rw [Option.bind_eq_some_iff] at H;obtain ⟨_,A,H⟩:=H)|(obtain ⟨_,rfl⟩:=spec_l6Node.j0_s H;simp only [spec_l6Node.j0,beq_iff_eq,bne_iff_ne,ne_eq,ite_not] at H)|cases H)
 all_goals repeat' (first
  | apply awp_seq
  | (apply awp_reg;rfl;simp (decide:=true) only [↓aops_cons,↓aopsD_cons,go_sem, *])
  | (apply awp_block;(try simp only [blockQ]))
  | (apply condT;(· simp (decide:=true) only [↓aops_cons,↓aopsD_cons,go_sem, *]))
  | (apply condF;(· simp (decide:=true) only [↓aops_cons,↓aopsD_cons,go_sem, *]))
  | (apply awp_skip;simp (decide:=true) only [↓aops_cons,↓aopsD_cons,go_sem, *])
  | (apply awp_exit;simp (decide:=true) only [↓aops_cons,↓aopsD_cons,go_sem, *])
  | (apply awp_ret;simp (decide:=true) only [↓aops_cons,↓aopsD_cons,go_sem, *])
  | (refine And.intro (a:=indep _ _ = true) vH ?_)
  | (rw [if_pos (show _ * _ ≤ 140737488355328 by (try simp only [List.length_append,List.length_cons,List.length_nil] at *);omega)];simp (decide:=true) only [↓aops_cons,↓aopsD_cons,go_sem, *])
  | (refine callI_of (spec_NodeOk_s _ _ _ tF) ?_;simp (decide:=true) only [↓aops_cons,↓aopsD_cons,go_sem, *])
  | (refine callJ_of (spec_NodeOk_s _ _ _ tF) ?_;simp (decide:=true) only [↓aops_cons,↓aopsD_cons,go_sem, *])
  | (refine callI_of (spec_NodeKeys_s _ _ _ tF) ?_;simp (decide:=true) only [↓aops_cons,↓aopsD_cons,go_sem, *])
  | (refine callJ_of (spec_NodeKeys_s _ _ _ tF) ?_;simp (decide:=true) only [↓aops_cons,↓aopsD_cons,go_sem, *])
  | (refine callI_of (spec_l6Spot_s _ _ _ _ _ _ tF) ?_;simp (decide:=true) only [↓aops_cons,↓aopsD_cons,go_sem, *])
  | (refine callJ_of (spec_l6Spot_s _ _ _ _ _ _ tF) ?_;simp (decide:=true) only [↓aops_cons,↓aopsD_cons,go_sem, *])
  | (refine ⟨_,0,_,?_,weakL [] ?_,_,rfl,rfl,H⟩;(· omega);(· simp (decide:=true) only [↓aops_cons,↓aopsD_cons,go_sem, *]))
  | (refine ⟨_,0,_,?_,weakL [] ?_,tB,_,rfl,rfl,H⟩;(· omega);(· simp (decide:=true) only [↓aops_cons,↓aopsD_cons,go_sem, *])))
 all_goals
  refine loopX (fun m k s=>∃ (x6:Int),k = 0 ∧ s = ⟨mk [(2,.addr 2 0),(5,.addr 5 0),(1,.v .one [.fv (litF a1)]),(6,.v .one [.fv (litF x6)])],mo [(2,⟨29,[.fv (intsF a00),.fv (nodesF a01)]⟩),(5,⟨59,[.fv (setsF (rd_T59 a01 a1).f0)]⟩)],mo []⟩ ∧ spec_l6Node.l0 m a1 x6 a00 a01 (rd_T59 a01 a1).f0 = some r) ?h0 ?hr
  case h0=>exact ⟨_,0,_,weakL [] td,0,rfl,rfl,H⟩
  case hr =>
   rintro m k s ⟨x6,rfl,rfl,H⟩
   cases m with
   | zero=>cases H
   | succ m =>
    simp only [spec_l6Node.l0] at H
    repeat' (first|contradiction|(rw [Option.ite_none_right_eq_some] at H;obtain ⟨_,H⟩:=H)|(rw [ite_or] at H;rcases H with ⟨_,H⟩|⟨_,H⟩)|(split at H)|(simp only [Option.bind_some] at H)|(rw [Option.bind_eq_some_iff] at H;obtain ⟨_,A,H⟩:=H)|(obtain ⟨_,rfl⟩:=spec_l6Node.j0_s H;simp only [spec_l6Node.j0,beq_iff_eq,bne_iff_ne,ne_eq,ite_not] at H)|cases H)
    all_goals repeat' (first
      | apply awp_seq
      | (apply awp_reg;rfl;simp (decide:=true) only [↓aops_cons,↓aopsD_cons,go_sem, *])
      | (apply awp_block;(try simp only [blockQ]))
      | (apply condT;(· simp (decide:=true) only [↓aops_cons,↓aopsD_cons,go_sem, *]))
      | (apply condF;(· simp (decide:=true) only [↓aops_cons,↓aopsD_cons,go_sem, *]))
      | (apply awp_skip;simp (decide:=true) only [↓aops_cons,↓aopsD_cons,go_sem, *])
      | (apply awp_exit;simp (decide:=true) only [↓aops_cons,↓aopsD_cons,go_sem, *])
      | (apply awp_ret;simp (decide:=true) only [↓aops_cons,↓aopsD_cons,go_sem, *])
      | (refine And.intro (a:=indep _ _ = true) vH ?_)
      | (rw [if_pos (show _ * _ ≤ 140737488355328 by (try simp only [List.length_append,List.length_cons,List.length_nil] at *);omega)];simp (decide:=true) only [↓aops_cons,↓aopsD_cons,go_sem, *])
      | (refine callI_of (spec_NodeOk_s _ _ _ tF) ?_;simp (decide:=true) only [↓aops_cons,↓aopsD_cons,go_sem, *])
      | (refine callJ_of (spec_NodeOk_s _ _ _ tF) ?_;simp (decide:=true) only [↓aops_cons,↓aopsD_cons,go_sem, *])
      | (refine callI_of (spec_NodeKeys_s _ _ _ tF) ?_;simp (decide:=true) only [↓aops_cons,↓aopsD_cons,go_sem, *])
      | (refine callJ_of (spec_NodeKeys_s _ _ _ tF) ?_;simp (decide:=true) only [↓aops_cons,↓aopsD_cons,go_sem, *])
      | (refine callI_of (spec_l6Spot_s _ _ _ _ _ _ tF) ?_;simp (decide:=true) only [↓aops_cons,↓aopsD_cons,go_sem, *])
      | (refine callJ_of (spec_l6Spot_s _ _ _ _ _ _ tF) ?_;simp (decide:=true) only [↓aops_cons,↓aopsD_cons,go_sem, *])
      | (refine ⟨_,0,_,?_,weakL [] ?_,_,rfl,rfl,H⟩;(· omega);(· simp (decide:=true) only [↓aops_cons,↓aopsD_cons,go_sem, *]))
      | (refine ⟨_,0,_,?_,weakL [] ?_,tB,_,rfl,rfl,H⟩;(· omega);(· simp (decide:=true) only [↓aops_cons,↓aopsD_cons,go_sem, *])))
    all_goals
     refine loopX (fun n k s=>n ≤ m ∧ ∃ (x7:Int),k = 0 ∧ s = ⟨mk [(2,.addr 2 0),(5,.addr 5 0),(1,.v .one [.fv (litF a1)]),(6,.v .one [.fv (litF x6)]),(7,.v .one [.fv (litF x7)])],mo [(2,⟨29,[.fv (intsF a00),.fv (nodesF a01)]⟩),(5,⟨59,[.fv (setsF (rd_T59 a01 a1).f0)]⟩)],mo []⟩ ∧ spec_l6Node.l1 n a1 x6 x7 a00 a01 (rd_T59 a01 a1).f0 = some r) ?h0 ?hr
     case h0=>exact ⟨_,0,_,weakL [] td,Nat.le_refl _,0,rfl,rfl,H⟩
     case hr =>
      rintro n k s ⟨hn,x7,rfl,rfl,H⟩
      cases n with
      | zero=>cases H
      | succ n =>
       simp only [spec_l6Node.l1] at H
       repeat' (first|contradiction|(rw [Option.ite_none_right_eq_some] at H;obtain ⟨_,H⟩:=H)|(rw [ite_or] at H;rcases H with ⟨_,H⟩|⟨_,H⟩)|(split at H)|(simp only [Option.bind_some] at H)|(rw [Option.bind_eq_some_iff] at H;obtain ⟨_,A,H⟩:=H)|(obtain ⟨_,rfl⟩:=spec_l6Node.j0_s H;simp only [spec_l6Node.j0,beq_iff_eq,bne_iff_ne,ne_eq,ite_not] at H)|cases H)
       all_goals repeat' (first
         | apply awp_seq
         | (apply awp_reg;rfl;simp (decide:=true) only [↓aops_cons,↓aopsD_cons,go_sem, *])
         | (apply awp_block;(try simp only [blockQ]))
         | (apply condT;(· simp (decide:=true) only [↓aops_cons,↓aopsD_cons,go_sem, *]))
         | (apply condF;(· simp (decide:=true) only [↓aops_cons,↓aopsD_cons,go_sem, *]))
         | (apply awp_skip;simp (decide:=true) only [↓aops_cons,↓aopsD_cons,go_sem, *])
         | (apply awp_exit;simp (decide:=true) only [↓aops_cons,↓aopsD_cons,go_sem, *])
         | (apply awp_ret;simp (decide:=true) only [↓aops_cons,↓aopsD_cons,go_sem, *])
         | (refine And.intro (a:=indep _ _ = true) vH ?_)
         | (rw [if_pos (show _ * _ ≤ 140737488355328 by (try simp only [List.length_append,List.length_cons,List.length_nil] at *);omega)];simp (decide:=true) only [↓aops_cons,↓aopsD_cons,go_sem, *])
         | (refine callI_of (spec_NodeOk_s _ _ _ tF) ?_;simp (decide:=true) only [↓aops_cons,↓aopsD_cons,go_sem, *])
         | (refine callJ_of (spec_NodeOk_s _ _ _ tF) ?_;simp (decide:=true) only [↓aops_cons,↓aopsD_cons,go_sem, *])
         | (refine callI_of (spec_NodeKeys_s _ _ _ tF) ?_;simp (decide:=true) only [↓aops_cons,↓aopsD_cons,go_sem, *])
         | (refine callJ_of (spec_NodeKeys_s _ _ _ tF) ?_;simp (decide:=true) only [↓aops_cons,↓aopsD_cons,go_sem, *])
         | (refine callI_of (spec_l6Spot_s _ _ _ _ _ _ tF) ?_;simp (decide:=true) only [↓aops_cons,↓aopsD_cons,go_sem, *])
         | (refine callJ_of (spec_l6Spot_s _ _ _ _ _ _ tF) ?_;simp (decide:=true) only [↓aops_cons,↓aopsD_cons,go_sem, *])
         | (refine ⟨_,0,_,?_,weakL [] ?_,_,rfl,rfl,H⟩;(· omega);(· simp (decide:=true) only [↓aops_cons,↓aopsD_cons,go_sem, *]))
         | (refine ⟨_,0,_,?_,weakL [] ?_,tB,_,rfl,rfl,H⟩;(· omega);(· simp (decide:=true) only [↓aops_cons,↓aopsD_cons,go_sem, *])))
end Go.Proofs.Ytamjbjkbineafaa.EvFnPacked

namespace Go.Proofs.Ytamjbjkbineafaa.EvFnPacked
open Go Go.RowKit Go.Proofs.Ytamjbjkbineafaa.Ev Go.Proofs.Ytamjbjkbineafaa.PFnPacked Go.Proofs.YtamjbjkbineafaaW.PrintWords Go.Proofs.YtamjbjkbineafaaW.PrintLast
set_option linter.unusedVariables false
set_option linter.unusedSimpArgs false
attribute [local go_sem] aops_nil outI_done outI_call aopsD_nil outJ_done outJ_call semG sem0 semD semS M.run evO constA litOk litA AS.app AS.put List.map startL litF litB upd_at List.length_set Int.toNat_lt guardA boolA intA rowO cellsA readA argsL partsL fillL fzC fzL fzW loadV importR importC importW ownsP tsz tagg known elem? tby zeroC isNone binV dropW isCall resOf resC outL outC ownIds nodupB AS.ev mk_nil mk_at mo_nil mo_at beq_dec bne_dec thenQ blockQ kok_same kok_nx nx_zero if_true if_false Nat.add_zero Nat.zero_add Nat.le_refl true_and and_true List.getElem?_cons_zero List.getElem?_cons_succ List.getElem?_nil List.drop_succ_cons List.drop_zero List.take_succ_cons List.take_zero List.length_cons List.length_nil List.append_nil List.nil_append List.cons_append List.length_append List.any_cons List.any_nil keyC keysF setsF nodesF intsF nodeC keysE_len keysE_app keysE_one keysE_nil setsE_len setsE_app setsE_one setsE_nil nodesE_len nodesE_app nodesE_one nodesE_nil intsE_len intsE_app intsE_one intsE_nil keysE_get setsE_get nodesE_get intsE_get keysE_take keysE_drop nodesE_take nodesE_drop intsE_take intsE_drop setsE_set nodesE_set leK leL leA tmOk boxOk memOk rowOk rowsOk fzR List.contains_cons List.contains_nil Option.map_some Option.map_none ge_iff_le gt_iff_lt leF_same leE_same Option.isSome_some decide_true decide_false endQ own0 leC leCs or_true true_or range0 range1 range2 w64_ Bool.not_true Bool.not_false bne_self_eq_false beq_self_eq_true Bool.and_true Bool.false_or Bool.or_false List.getLast?_cons_cons List.getLast?_singleton List.dropLast_cons_cons List.dropLast_singleton Option.some.injEq M.rds W.loc nilV setC intC intsE_cons nodesE_cons leF_nil lB lC List.drop_nil
set_option maxHeartbeats 8000000 in
set_option maxRecDepth 100000 in
theorem spec_TreeKeys_s (k:Nat) (a00:List Int) (a01:List S59) (r:List S38) (H:spec_TreeKeys.f k a00 a01 = some r):SemCall 81 [⟨.agg,[intsF a00,nodesF a01]⟩] 0 ⟨.one,[.own 0 38 (keysE r)]⟩ 0:=by
 simp only [spec_TreeKeys.f] at H
 refine call0 (rs:=[.tmp 2]) Try.func81 rfl tH rfl Try.ntmps81 (Nat.le_of_ble_eq_true rfl) rfl ?_
 repeat' (first|contradiction|(rw [Option.ite_none_right_eq_some] at H;obtain ⟨_,H⟩:=H)|(rw [ite_or] at H;rcases H with ⟨_,H⟩|⟨_,H⟩)|(split at H)|(simp only [Option.bind_some] at H)|(rw [Option.bind_eq_some_iff] at H;obtain ⟨_,A,H⟩:=H)|cases H)
 all_goals repeat' (first
  | apply awp_seq
  | (apply awp_reg;rfl;simp (decide:=true) only [↓aops_cons,↓aopsD_cons,go_sem, *])
  | (apply awp_block;(try simp only [blockQ]))
  | (apply condT;(· simp (decide:=true) only [↓aops_cons,↓aopsD_cons,go_sem, *]))
  | (apply condF;(· simp (decide:=true) only [↓aops_cons,↓aopsD_cons,go_sem, *]))
  | (apply awp_skip;simp (decide:=true) only [↓aops_cons,↓aopsD_cons,go_sem, *])
  | (apply awp_exit;simp (decide:=true) only [↓aops_cons,↓aopsD_cons,go_sem, *])
  | (apply awp_ret;simp (decide:=true) only [↓aops_cons,↓aopsD_cons,go_sem, *])
  | (refine And.intro (a:=indep _ _ = true) vH ?_)
  | (rw [if_pos (show _ * _ ≤ 140737488355328 by (try simp only [List.length_append,List.length_cons,List.length_nil] at *);omega)];simp (decide:=true) only [↓aops_cons,↓aopsD_cons,go_sem, *])
  | (refine callI_of (spec_NodeKeys_s _ _ _ tF) ?_;simp (decide:=true) only [↓aops_cons,↓aopsD_cons,go_sem, *])
  | (refine callJ_of (spec_NodeKeys_s _ _ _ tF) ?_;simp (decide:=true) only [↓aops_cons,↓aopsD_cons,go_sem, *])
  | (refine ⟨_,0,_,?_,weakL [] ?_,_,_,rfl,rfl,H⟩;(· omega);(· simp (decide:=true) only [↓aops_cons,↓aopsD_cons,go_sem, *])))
 all_goals
  refine loopX (fun m k s=>∃ (x3:List S38) (x4:Int),k = 0 ∧ s = ⟨mk [(1,.addr 1 0),(3,.v .one [.own 5 x3.length]),(4,.v .one [.fv (litF x4)])],mo [(1,⟨29,[.fv (intsF a00),.fv (nodesF a01)]⟩)],mo [(5,⟨0,38,keysE x3,false⟩)]⟩ ∧ spec_TreeKeys.l0 m x3 x4 a00 a01 = some r) ?h0 ?hr
  case h0=>exact ⟨_,0,_,weakL [] td,[],0,rfl,rfl,H⟩
  case hr =>
   rintro m k s ⟨x3,x4,rfl,rfl,H⟩
   cases m with
   | zero=>cases H
   | succ m =>
    simp only [spec_TreeKeys.l0] at H
    repeat' (first|contradiction|(rw [Option.ite_none_right_eq_some] at H;obtain ⟨_,H⟩:=H)|(rw [ite_or] at H;rcases H with ⟨_,H⟩|⟨_,H⟩)|(split at H)|(simp only [Option.bind_some] at H)|(rw [Option.bind_eq_some_iff] at H;obtain ⟨_,A,H⟩:=H)|cases H)
    all_goals repeat' (first
      | apply awp_seq
      | (apply awp_reg;rfl;simp (decide:=true) only [↓aops_cons,↓aopsD_cons,go_sem, *])
      | (apply awp_block;(try simp only [blockQ]))
      | (apply condT;(· simp (decide:=true) only [↓aops_cons,↓aopsD_cons,go_sem, *]))
      | (apply condF;(· simp (decide:=true) only [↓aops_cons,↓aopsD_cons,go_sem, *]))
      | (apply awp_skip;simp (decide:=true) only [↓aops_cons,↓aopsD_cons,go_sem, *])
      | (apply awp_exit;simp (decide:=true) only [↓aops_cons,↓aopsD_cons,go_sem, *])
      | (apply awp_ret;simp (decide:=true) only [↓aops_cons,↓aopsD_cons,go_sem, *])
      | (refine And.intro (a:=indep _ _ = true) vH ?_)
      | (rw [if_pos (show _ * _ ≤ 140737488355328 by (try simp only [List.length_append,List.length_cons,List.length_nil] at *);omega)];simp (decide:=true) only [↓aops_cons,↓aopsD_cons,go_sem, *])
      | (refine callI_of (spec_NodeKeys_s _ _ _ tF) ?_;simp (decide:=true) only [↓aops_cons,↓aopsD_cons,go_sem, *])
      | (refine callJ_of (spec_NodeKeys_s _ _ _ tF) ?_;simp (decide:=true) only [↓aops_cons,↓aopsD_cons,go_sem, *])
      | (refine ⟨_,0,_,?_,weakL [] ?_,_,_,rfl,rfl,H⟩;(· omega);(· simp (decide:=true) only [↓aops_cons,↓aopsD_cons,go_sem, *])))
end Go.Proofs.Ytamjbjkbineafaa.EvFnPacked

namespace Go.Proofs.Ytamjbjkbineafaa.EvFnPacked
open Go Go.RowKit Go.Proofs.Ytamjbjkbineafaa.Ev Go.Proofs.Ytamjbjkbineafaa.PFnPacked Go.Proofs.YtamjbjkbineafaaW.PrintWords Go.Proofs.YtamjbjkbineafaaW.PrintLast
set_option linter.unusedVariables false
set_option linter.unusedSimpArgs false
attribute [local go_sem] aops_nil outI_done outI_call aopsD_nil outJ_done outJ_call semG sem0 semD semS M.run evO constA litOk litA AS.app AS.put List.map startL litF litB upd_at List.length_set Int.toNat_lt guardA boolA intA rowO cellsA readA argsL partsL fillL fzC fzL fzW loadV importR importC importW ownsP tsz tagg known elem? tby zeroC isNone binV dropW isCall resOf resC outL outC ownIds nodupB AS.ev mk_nil mk_at mo_nil mo_at beq_dec bne_dec thenQ blockQ kok_same kok_nx nx_zero if_true if_false Nat.add_zero Nat.zero_add Nat.le_refl true_and and_true List.getElem?_cons_zero List.getElem?_cons_succ List.getElem?_nil List.drop_succ_cons List.drop_zero List.take_succ_cons List.take_zero List.length_cons List.length_nil List.append_nil List.nil_append List.cons_append List.length_append List.any_cons List.any_nil keyC keysF setsF nodesF intsF nodeC keysE_len keysE_app keysE_one keysE_nil setsE_len setsE_app setsE_one setsE_nil nodesE_len nodesE_app nodesE_one nodesE_nil intsE_len intsE_app intsE_one intsE_nil keysE_get setsE_get nodesE_get intsE_get keysE_take keysE_drop nodesE_take nodesE_drop intsE_take intsE_drop setsE_set nodesE_set leK leL leA tmOk boxOk memOk rowOk rowsOk fzR List.contains_cons List.contains_nil Option.map_some Option.map_none ge_iff_le gt_iff_lt leF_same leE_same Option.isSome_some decide_true decide_false endQ own0 leC leCs or_true true_or range0 range1 range2 w64_ Bool.not_true Bool.not_false bne_self_eq_false beq_self_eq_true Bool.and_true Bool.false_or Bool.or_false List.getLast?_cons_cons List.getLast?_singleton List.dropLast_cons_cons List.dropLast_singleton Option.some.injEq M.rds W.loc nilV setC intC intsE_cons nodesE_cons leF_nil lB lC List.drop_nil
theorem spec_TreeOk.j0_s {y0 y1 y2 r} {k:Nat} (H:spec_TreeOk.j0 k y0 y1 y2 = some r):∃ q,k = q + 1:=by cases k with
 | zero=>cases H
 | succ q=>exact ⟨q,rfl⟩
set_option maxHeartbeats 8000000 in
set_option maxRecDepth 100000 in
theorem spec_TreeOk_s (k:Nat) (a00:List Int) (a01:List S59) (r:Bool) (H:spec_TreeOk.f k a00 a01 = some r):SemCall 47 [⟨.agg,[intsF a00,nodesF a01]⟩] 0 ⟨.one,[.fv (litB r)]⟩ 0:=by
 simp only [spec_TreeOk.f] at H
 refine call0 (rs:=[.tmp 2]) Try.func47 rfl tH rfl Try.ntmps47 (Nat.le_of_ble_eq_true rfl) rfl ?_
 repeat' (first|contradiction|(rw [Option.ite_none_right_eq_some] at H;obtain ⟨_,H⟩:=H)|(rw [ite_or] at H;rcases H with ⟨_,H⟩|⟨_,H⟩)|(split at H)|(simp only [Option.bind_some] at H)|(rw [Option.bind_eq_some_iff] at H;obtain ⟨_,A,H⟩:=H)|(obtain ⟨_,rfl⟩:=spec_TreeOk.j0_s H;simp only [spec_TreeOk.j0,beq_iff_eq,bne_iff_ne,ne_eq,ite_not] at H)|cases H)
 all_goals try (have h0:(0:Int) < (a01.length:Int):=by omega)
 all_goals repeat' (first
  | apply awp_seq
  | (apply awp_reg;rfl;simp (decide:=true) only [↓aops_cons,↓aopsD_cons,go_sem, *])
  | (apply awp_block;(try simp only [blockQ]))
  | (apply condT;(· simp (decide:=true) only [↓aops_cons,↓aopsD_cons,go_sem, *]))
  | (apply condF;(· simp (decide:=true) only [↓aops_cons,↓aopsD_cons,go_sem, *]))
  | (apply awp_skip;simp (decide:=true) only [↓aops_cons,↓aopsD_cons,go_sem, *])
  | (apply awp_exit;simp (decide:=true) only [↓aops_cons,↓aopsD_cons,go_sem, *])
  | (apply awp_ret;simp (decide:=true) only [↓aops_cons,↓aopsD_cons,go_sem, *])
  | (apply awp_regD (id:=6) [0,1,3,7,15,7,39,127,255,7,519,7,3591,7687,16383,32767,65535,131071,131071,524287,1048575,2097151];rfl;kernel_rfl;simp (decide:=true) only [↓aops_cons,↓aopsD_cons,go_sem, *])
  | (refine And.intro (a:=indep _ _ = true) vH ?_)
  | (rw [if_pos (show _ * _ ≤ 140737488355328 by (try simp only [List.length_append,List.length_cons,List.length_nil] at *);omega)];simp (decide:=true) only [↓aops_cons,↓aopsD_cons,go_sem, *])
  | (refine callI_of (spec_l1In_s _ _ _ _ tF) ?_;simp (decide:=true) only [↓aops_cons,↓aopsD_cons,go_sem, *])
  | (refine callJ_of (spec_l1In_s _ _ _ _ tF) ?_;simp (decide:=true) only [↓aops_cons,↓aopsD_cons,go_sem, *])
  | (refine callI_of (spec_l6Node_s _ _ _ _ _ tF) ?_;simp (decide:=true) only [↓aops_cons,↓aopsD_cons,go_sem, *])
  | (refine callJ_of (spec_l6Node_s _ _ _ _ _ tF) ?_;simp (decide:=true) only [↓aops_cons,↓aopsD_cons,go_sem, *])
  | (refine callI_of (spec_TreeKeys_s _ _ _ _ tF) ?_;simp (decide:=true) only [↓aops_cons,↓aopsD_cons,go_sem, *])
  | (refine callJ_of (spec_TreeKeys_s _ _ _ _ tF) ?_;simp (decide:=true) only [↓aops_cons,↓aopsD_cons,go_sem, *])
  | (refine ⟨_,0,_,?_,weakL [] ?_,_,rfl,rfl,H⟩;(· omega);(· simp (decide:=true) only [↓aops_cons,↓aopsD_cons,go_sem, *])))
 all_goals try (rename (a00.length:Int) = (a01.length:Int)=>hq;clear hq)
 all_goals
  refine loopX (fun m k s=>∃ (x3:Int),k = 0 ∧ s = ⟨mk [(1,.addr 1 0),(3,.v .one [.fv (litF x3)])],mo [(1,⟨29,[.fv (intsF a00),.fv (nodesF a01)]⟩)],mo []⟩ ∧ spec_TreeOk.l0 m x3 a00 a01 = some r) ?h0 ?hr
  case h0=>exact ⟨_,0,_,weakL [] td,0,rfl,rfl,H⟩
  case hr =>
   rintro m k s ⟨x3,rfl,rfl,H⟩
   cases m with
   | zero=>cases H
   | succ m =>
    simp only [spec_TreeOk.l0] at H
    repeat' (first|contradiction|(rw [Option.ite_none_right_eq_some] at H;obtain ⟨_,H⟩:=H)|(rw [ite_or] at H;rcases H with ⟨_,H⟩|⟨_,H⟩)|(split at H)|(simp only [Option.bind_some] at H)|(rw [Option.bind_eq_some_iff] at H;obtain ⟨_,A,H⟩:=H)|(obtain ⟨_,rfl⟩:=spec_TreeOk.j0_s H;simp only [spec_TreeOk.j0,beq_iff_eq,bne_iff_ne,ne_eq,ite_not] at H)|cases H)
    all_goals repeat' (first
      | apply awp_seq
      | (apply awp_reg;rfl;simp (decide:=true) only [↓aops_cons,↓aopsD_cons,go_sem, *])
      | (apply awp_block;(try simp only [blockQ]))
      | (apply condT;(· simp (decide:=true) only [↓aops_cons,↓aopsD_cons,go_sem, *]))
      | (apply condF;(· simp (decide:=true) only [↓aops_cons,↓aopsD_cons,go_sem, *]))
      | (apply awp_skip;simp (decide:=true) only [↓aops_cons,↓aopsD_cons,go_sem, *])
      | (apply awp_exit;simp (decide:=true) only [↓aops_cons,↓aopsD_cons,go_sem, *])
      | (apply awp_ret;simp (decide:=true) only [↓aops_cons,↓aopsD_cons,go_sem, *])
      | (apply awp_regD (id:=6) [0,1,3,7,15,7,39,127,255,7,519,7,3591,7687,16383,32767,65535,131071,131071,524287,1048575,2097151];rfl;kernel_rfl;simp (decide:=true) only [↓aops_cons,↓aopsD_cons,go_sem, *])
      | (refine And.intro (a:=indep _ _ = true) vH ?_)
      | (rw [if_pos (show _ * _ ≤ 140737488355328 by (try simp only [List.length_append,List.length_cons,List.length_nil] at *);omega)];simp (decide:=true) only [↓aops_cons,↓aopsD_cons,go_sem, *])
      | (refine callI_of (spec_l1In_s _ _ _ _ tF) ?_;simp (decide:=true) only [↓aops_cons,↓aopsD_cons,go_sem, *])
      | (refine callJ_of (spec_l1In_s _ _ _ _ tF) ?_;simp (decide:=true) only [↓aops_cons,↓aopsD_cons,go_sem, *])
      | (refine callI_of (spec_l6Node_s _ _ _ _ _ tF) ?_;simp (decide:=true) only [↓aops_cons,↓aopsD_cons,go_sem, *])
      | (refine callJ_of (spec_l6Node_s _ _ _ _ _ tF) ?_;simp (decide:=true) only [↓aops_cons,↓aopsD_cons,go_sem, *])
      | (refine callI_of (spec_TreeKeys_s _ _ _ _ tF) ?_;simp (decide:=true) only [↓aops_cons,↓aopsD_cons,go_sem, *])
      | (refine callJ_of (spec_TreeKeys_s _ _ _ _ tF) ?_;simp (decide:=true) only [↓aops_cons,↓aopsD_cons,go_sem, *])
      | (refine ⟨_,0,_,?_,weakL [] ?_,_,rfl,rfl,H⟩;(· omega);(· simp (decide:=true) only [↓aops_cons,↓aopsD_cons,go_sem, *])))
end Go.Proofs.Ytamjbjkbineafaa.EvFnPacked

namespace Go.Proofs.Ytamjbjkbineafaa.EvFnPacked
open Go Go.RowKit Go.Proofs.Ytamjbjkbineafaa.Ev Go.Proofs.Ytamjbjkbineafaa.PFnPacked Go.Proofs.YtamjbjkbineafaaW.PrintWords Go.Proofs.YtamjbjkbineafaaW.PrintLast
set_option linter.unusedVariables false
set_option linter.unusedSimpArgs false
attribute [local go_sem] aops_nil outI_done outI_call aopsD_nil outJ_done outJ_call semG sem0 semD semS M.run evO constA litOk litA AS.app AS.put List.map startL litF litB upd_at List.length_set Int.toNat_lt guardA boolA intA rowO cellsA readA argsL partsL fillL fzC fzL fzW loadV importR importC importW ownsP tsz tagg known elem? tby zeroC isNone binV dropW isCall resOf resC outL outC ownIds nodupB AS.ev mk_nil mk_at mo_nil mo_at beq_dec bne_dec thenQ blockQ kok_same kok_nx nx_zero if_true if_false Nat.add_zero Nat.zero_add Nat.le_refl true_and and_true List.getElem?_cons_zero List.getElem?_cons_succ List.getElem?_nil List.drop_succ_cons List.drop_zero List.take_succ_cons List.take_zero List.length_cons List.length_nil List.append_nil List.nil_append List.cons_append List.length_append List.any_cons List.any_nil keyC keysF setsF nodesF intsF nodeC keysE_len keysE_app keysE_one keysE_nil setsE_len setsE_app setsE_one setsE_nil nodesE_len nodesE_app nodesE_one nodesE_nil intsE_len intsE_app intsE_one intsE_nil keysE_get setsE_get nodesE_get intsE_get keysE_take keysE_drop nodesE_take nodesE_drop intsE_take intsE_drop setsE_set nodesE_set leK leL leA tmOk boxOk memOk rowOk rowsOk fzR List.contains_cons List.contains_nil Option.map_some Option.map_none ge_iff_le gt_iff_lt leF_same leE_same Option.isSome_some decide_true decide_false endQ own0 leC leCs or_true true_or range0 range1 range2 w64_ Bool.not_true Bool.not_false bne_self_eq_false beq_self_eq_true Bool.and_true Bool.false_or Bool.or_false List.getLast?_cons_cons List.getLast?_singleton List.dropLast_cons_cons List.dropLast_singleton Option.some.injEq M.rds W.loc nilV setC intC intsE_cons nodesE_cons leF_nil lB lC List.drop_nil
set_option maxHeartbeats 8000000 in
set_option maxRecDepth 100000 in
theorem spec_WhereIn_s (k:Nat) (a00:List Int) (a01:List S59) (a1:Int) (a2:Int) (r:Int) (H:spec_WhereIn.f k a00 a01 a1 a2 = some r):SemCall 49 [⟨.agg,[intsF a00,nodesF a01]⟩,⟨.one,[litF a1]⟩,⟨.one,[litF a2]⟩] 0 ⟨.one,[.fv (litF r)]⟩ 0:=by
 simp only [spec_WhereIn.f] at H
 refine call0 (rs:=[.tmp 6]) Try.func49 rfl tH rfl Try.ntmps49 (Nat.le_of_ble_eq_true rfl) rfl ?_
 repeat' (first|contradiction|(rw [Option.ite_none_right_eq_some] at H;obtain ⟨_,H⟩:=H)|(rw [ite_or] at H;rcases H with ⟨_,H⟩|⟨_,H⟩)|(split at H)|(simp only [Option.bind_some] at H)|(rw [Option.bind_eq_some_iff] at H;obtain ⟨_,A,H⟩:=H)|cases H)
 all_goals repeat' (first
  | apply awp_seq
  | (apply awp_reg;rfl;simp (decide:=true) only [↓aops_cons,↓aopsD_cons,go_sem, *])
  | (apply awp_block;(try simp only [blockQ]))
  | (apply condT;(· simp (decide:=true) only [↓aops_cons,↓aopsD_cons,go_sem, *]))
  | (apply condF;(· simp (decide:=true) only [↓aops_cons,↓aopsD_cons,go_sem, *]))
  | (apply awp_skip;simp (decide:=true) only [↓aops_cons,↓aopsD_cons,go_sem, *])
  | (apply awp_exit;simp (decide:=true) only [↓aops_cons,↓aopsD_cons,go_sem, *])
  | (apply awp_ret;simp (decide:=true) only [↓aops_cons,↓aopsD_cons,go_sem, *])
  | (apply awp_regD (id:=5) [0,1,0,7,15,0,0,96,255];rfl;kernel_rfl;simp (decide:=true) only [↓aops_cons,↓aopsD_cons,go_sem, *])
  | (refine And.intro (a:=indep _ _ = true) vH ?_)
  | (rw [if_pos (show _ * _ ≤ 140737488355328 by (try simp only [List.length_append,List.length_cons,List.length_nil] at *);omega)];simp (decide:=true) only [↓aops_cons,↓aopsD_cons,go_sem, *])
  | (refine callI_of (spec_SpotOf_s _ _ _ tF) ?_;simp (decide:=true) only [↓aops_cons,↓aopsD_cons,go_sem, *])
  | (refine callJ_of (spec_SpotOf_s _ _ _ tF) ?_;simp (decide:=true) only [↓aops_cons,↓aopsD_cons,go_sem, *])
  | (refine ⟨_,0,_,?_,weakL [] ?_,_,_,rfl,rfl,H⟩;(· omega);(· simp (decide:=true) only [↓aops_cons,↓aopsD_cons,go_sem, *])))
 all_goals
  refine loopX (fun m k s=>∃ (x7 x8:Int),k = 0 ∧ s = ⟨mk [(3,.addr 3 0),(1,.v .one [.fv (litF a1)]),(2,.v .one [.fv (litF a2)]),(7,.v .one [.fv (litF x7)]),(8,.v .one [.fv (litF x8)])],mo [(3,⟨29,[.fv (intsF a00),.fv (nodesF a01)]⟩)],mo []⟩ ∧ spec_WhereIn.l0 m a1 a2 x7 x8 a00 a01 = some r) ?h0 ?hr
  case h0=>exact ⟨_,0,_,weakL [] td,-1,0,rfl,rfl,H⟩
  case hr =>
   rintro m k s ⟨x7,x8,rfl,rfl,H⟩
   cases m with
   | zero=>cases H
   | succ m =>
    simp only [spec_WhereIn.l0] at H
    repeat' (first|contradiction|(rw [Option.ite_none_right_eq_some] at H;obtain ⟨_,H⟩:=H)|(rw [ite_or] at H;rcases H with ⟨_,H⟩|⟨_,H⟩)|(split at H)|(simp only [Option.bind_some] at H)|(rw [Option.bind_eq_some_iff] at H;obtain ⟨_,A,H⟩:=H)|cases H)
    all_goals repeat' (first
      | apply awp_seq
      | (apply awp_reg;rfl;simp (decide:=true) only [↓aops_cons,↓aopsD_cons,go_sem, *])
      | (apply awp_block;(try simp only [blockQ]))
      | (apply condT;(· simp (decide:=true) only [↓aops_cons,↓aopsD_cons,go_sem, *]))
      | (apply condF;(· simp (decide:=true) only [↓aops_cons,↓aopsD_cons,go_sem, *]))
      | (apply awp_skip;simp (decide:=true) only [↓aops_cons,↓aopsD_cons,go_sem, *])
      | (apply awp_exit;simp (decide:=true) only [↓aops_cons,↓aopsD_cons,go_sem, *])
      | (apply awp_ret;simp (decide:=true) only [↓aops_cons,↓aopsD_cons,go_sem, *])
      | (apply awp_regD (id:=5) [0,1,0,7,15,0,0,96,255];rfl;kernel_rfl;simp (decide:=true) only [↓aops_cons,↓aopsD_cons,go_sem, *])
      | (refine And.intro (a:=indep _ _ = true) vH ?_)
      | (rw [if_pos (show _ * _ ≤ 140737488355328 by (try simp only [List.length_append,List.length_cons,List.length_nil] at *);omega)];simp (decide:=true) only [↓aops_cons,↓aopsD_cons,go_sem, *])
      | (refine callI_of (spec_SpotOf_s _ _ _ tF) ?_;simp (decide:=true) only [↓aops_cons,↓aopsD_cons,go_sem, *])
      | (refine callJ_of (spec_SpotOf_s _ _ _ tF) ?_;simp (decide:=true) only [↓aops_cons,↓aopsD_cons,go_sem, *])
      | (refine ⟨_,0,_,?_,weakL [] ?_,_,_,rfl,rfl,H⟩;(· omega);(· simp (decide:=true) only [↓aops_cons,↓aopsD_cons,go_sem, *])))
end Go.Proofs.Ytamjbjkbineafaa.EvFnPacked

namespace Go.Proofs.Ytamjbjkbineafaa.EvFnPacked
open Go Go.RowKit Go.Proofs.Ytamjbjkbineafaa.Ev Go.Proofs.Ytamjbjkbineafaa.PFnPacked Go.Proofs.YtamjbjkbineafaaW.PrintWords Go.Proofs.YtamjbjkbineafaaW.PrintLast
set_option linter.unusedVariables false
set_option linter.unusedSimpArgs false
attribute [local go_sem] aops_nil outI_done outI_call aopsD_nil outJ_done outJ_call semG sem0 semD semS M.run evO constA litOk litA AS.app AS.put List.map startL litF litB upd_at List.length_set Int.toNat_lt guardA boolA intA rowO cellsA readA argsL partsL fillL fzC fzL fzW loadV importR importC importW ownsP tsz tagg known elem? tby zeroC isNone binV dropW isCall resOf resC outL outC ownIds nodupB AS.ev mk_nil mk_at mo_nil mo_at beq_dec bne_dec thenQ blockQ kok_same kok_nx nx_zero if_true if_false Nat.add_zero Nat.zero_add Nat.le_refl true_and and_true List.getElem?_cons_zero List.getElem?_cons_succ List.getElem?_nil List.drop_succ_cons List.drop_zero List.take_succ_cons List.take_zero List.length_cons List.length_nil List.append_nil List.nil_append List.cons_append List.length_append List.any_cons List.any_nil keyC keysF setsF nodesF intsF nodeC keysE_len keysE_app keysE_one keysE_nil setsE_len setsE_app setsE_one setsE_nil nodesE_len nodesE_app nodesE_one nodesE_nil intsE_len intsE_app intsE_one intsE_nil keysE_get setsE_get nodesE_get intsE_get keysE_take keysE_drop nodesE_take nodesE_drop intsE_take intsE_drop setsE_set nodesE_set leK leL leA tmOk boxOk memOk rowOk rowsOk fzR List.contains_cons List.contains_nil Option.map_some Option.map_none ge_iff_le gt_iff_lt leF_same leE_same Option.isSome_some decide_true decide_false endQ own0 leC leCs or_true true_or range0 range1 range2 w64_ Bool.not_true Bool.not_false bne_self_eq_false beq_self_eq_true Bool.and_true Bool.false_or Bool.or_false List.getLast?_cons_cons List.getLast?_singleton List.dropLast_cons_cons List.dropLast_singleton Option.some.injEq M.rds W.loc nilV setC intC intsE_cons nodesE_cons leF_nil lB lC List.drop_nil
set_option maxHeartbeats 8000000 in
set_option maxRecDepth 100000 in
theorem spec_SetAt_s (k:Nat) (a0:List S38) (a1:Int) (a2:Int) (r0 r1 r2 r3 r4:Int) (r5:Bool) (H:spec_SetAt.f k a0 a1 a2 = some (r0,r1,r2,r3,r4,r5)):SemCall 83 [⟨.one,[keysF a0]⟩,⟨.one,[litF a1]⟩,⟨.one,[litF a2]⟩] 0 ⟨.pr,[.fv (litF r0),.fv (litF r1),.fv (litF r2),.fv (litF r3),.fv (litF r4),.fv (litB r5)]⟩ 0:=by
 simp only [spec_SetAt.f] at H
 refine call0 (rs:=[.cell 6 38,.tmp 7]) Try.func83 rfl tH rfl Try.ntmps83 (Nat.le_of_ble_eq_true rfl) rfl ?_
 repeat' (first|contradiction|(rw [Option.ite_none_right_eq_some] at H;obtain ⟨_,H⟩:=H)|(rw [ite_or] at H;rcases H with ⟨_,H⟩|⟨_,H⟩)|(split at H)|(simp only [Option.bind_some] at H)|(rw [Option.bind_eq_some_iff] at H;obtain ⟨_,A,H⟩:=H)|cases H)
 all_goals repeat' (first
  | apply awp_seq
  | (apply awp_reg;rfl;simp (decide:=true) only [↓aops_cons,↓aopsD_cons,go_sem, *])
  | (apply awp_block;(try simp only [blockQ]))
  | (apply condT;(· simp (decide:=true) only [↓aops_cons,↓aopsD_cons,go_sem, *]))
  | (apply condF;(· simp (decide:=true) only [↓aops_cons,↓aopsD_cons,go_sem, *]))
  | (apply awp_skip;simp (decide:=true) only [↓aops_cons,↓aopsD_cons,go_sem, *])
  | (apply awp_exit;simp (decide:=true) only [↓aops_cons,↓aopsD_cons,go_sem, *])
  | (apply awp_ret;simp (decide:=true) only [↓aops_cons,↓aopsD_cons,go_sem, *])
  | (refine And.intro (a:=indep _ _ = true) vH ?_)
  | (rw [if_pos (show _ * _ ≤ 140737488355328 by (try simp only [List.length_append,List.length_cons,List.length_nil] at *);omega)];simp (decide:=true) only [↓aops_cons,↓aopsD_cons,go_sem, *])
  | (refine ⟨_,0,_,?_,weakL [] ?_,_,rfl,rfl,H⟩;(· omega);(· simp (decide:=true) only [↓aops_cons,↓aopsD_cons,go_sem, *])))
 all_goals
  refine loopX (fun m k s=>∃ (x8:Int),k = 0 ∧ s = ⟨mk [(0,.v .one [.fv (keysF a0)]),(1,.v .one [.fv (litF a1)]),(2,.v .one [.fv (litF a2)]),(6,.addr 6 0),(8,.v .one [.fv (litF x8)])],mo [(6,⟨38,[.fv (litF 0),.fv (litF 0),.fv (litF 0),.fv (litF 0),.fv (litF 0)]⟩)],mo []⟩ ∧ spec_SetAt.l0 m a0 a1 a2 x8 = some (r0,r1,r2,r3,r4,r5)) ?h0 ?hr
  case h0=>exact ⟨_,0,_,weakL [] td,0,rfl,rfl,H⟩
  case hr =>
   rintro m k s ⟨x8,rfl,rfl,H⟩
   cases m with
   | zero=>cases H
   | succ m =>
    simp only [spec_SetAt.l0] at H
    repeat' (first|contradiction|(rw [Option.ite_none_right_eq_some] at H;obtain ⟨_,H⟩:=H)|(rw [ite_or] at H;rcases H with ⟨_,H⟩|⟨_,H⟩)|(split at H)|(simp only [Option.bind_some] at H)|(rw [Option.bind_eq_some_iff] at H;obtain ⟨_,A,H⟩:=H)|cases H)
    all_goals repeat' (first
      | apply awp_seq
      | (apply awp_reg;rfl;simp (decide:=true) only [↓aops_cons,↓aopsD_cons,go_sem, *])
      | (apply awp_block;(try simp only [blockQ]))
      | (apply condT;(· simp (decide:=true) only [↓aops_cons,↓aopsD_cons,go_sem, *]))
      | (apply condF;(· simp (decide:=true) only [↓aops_cons,↓aopsD_cons,go_sem, *]))
      | (apply awp_skip;simp (decide:=true) only [↓aops_cons,↓aopsD_cons,go_sem, *])
      | (apply awp_exit;simp (decide:=true) only [↓aops_cons,↓aopsD_cons,go_sem, *])
      | (apply awp_ret;simp (decide:=true) only [↓aops_cons,↓aopsD_cons,go_sem, *])
      | (refine And.intro (a:=indep _ _ = true) vH ?_)
      | (rw [if_pos (show _ * _ ≤ 140737488355328 by (try simp only [List.length_append,List.length_cons,List.length_nil] at *);omega)];simp (decide:=true) only [↓aops_cons,↓aopsD_cons,go_sem, *])
      | (refine ⟨_,0,_,?_,weakL [] ?_,_,rfl,rfl,H⟩;(· omega);(· simp (decide:=true) only [↓aops_cons,↓aopsD_cons,go_sem, *])))
end Go.Proofs.Ytamjbjkbineafaa.EvFnPacked

namespace Go.Proofs.Ytamjbjkbineafaa.EvFnPacked
open Go Go.RowKit Go.Proofs.Ytamjbjkbineafaa.Ev Go.Proofs.Ytamjbjkbineafaa.PFnPacked Go.Proofs.YtamjbjkbineafaaW.PrintWords Go.Proofs.YtamjbjkbineafaaW.PrintLast
set_option linter.unusedVariables false
set_option linter.unusedSimpArgs false
attribute [local go_sem] aops_nil outI_done outI_call aopsD_nil outJ_done outJ_call semG sem0 semD semS M.run evO constA litOk litA AS.app AS.put List.map startL litF litB upd_at List.length_set Int.toNat_lt guardA boolA intA rowO cellsA readA argsL partsL fillL fzC fzL fzW loadV importR importC importW ownsP tsz tagg known elem? tby zeroC isNone binV dropW isCall resOf resC outL outC ownIds nodupB AS.ev mk_nil mk_at mo_nil mo_at beq_dec bne_dec thenQ blockQ kok_same kok_nx nx_zero if_true if_false Nat.add_zero Nat.zero_add Nat.le_refl true_and and_true List.getElem?_cons_zero List.getElem?_cons_succ List.getElem?_nil List.drop_succ_cons List.drop_zero List.take_succ_cons List.take_zero List.length_cons List.length_nil List.append_nil List.nil_append List.cons_append List.length_append List.any_cons List.any_nil keyC keysF setsF nodesF intsF nodeC keysE_len keysE_app keysE_one keysE_nil setsE_len setsE_app setsE_one setsE_nil nodesE_len nodesE_app nodesE_one nodesE_nil intsE_len intsE_app intsE_one intsE_nil keysE_get setsE_get nodesE_get intsE_get keysE_take keysE_drop nodesE_take nodesE_drop intsE_take intsE_drop setsE_set nodesE_set leK leL leA tmOk boxOk memOk rowOk rowsOk fzR List.contains_cons List.contains_nil Option.map_some Option.map_none ge_iff_le gt_iff_lt leF_same leE_same Option.isSome_some decide_true decide_false endQ own0 leC leCs or_true true_or range0 range1 range2 w64_ Bool.not_true Bool.not_false bne_self_eq_false beq_self_eq_true Bool.and_true Bool.false_or Bool.or_false List.getLast?_cons_cons List.getLast?_singleton List.dropLast_cons_cons List.dropLast_singleton Option.some.injEq M.rds W.loc nilV setC intC intsE_cons nodesE_cons leF_nil lB lC List.drop_nil
set_option maxHeartbeats 8000000 in
set_option maxRecDepth 100000 in
theorem spec_NodeNew_s (a0:List S38) (r:List (List S38)) (H:spec_NodeNew.f a0 = some r):SemCall 56 [⟨.one,[keysF a0]⟩] 0 ⟨.agg,[.fv (setsF r)]⟩ 0:=by
 simp only [spec_NodeNew.f] at H
 refine call0 (rs:=[.cell 2 59]) Try.func56 rfl tH rfl Try.ntmps56 (Nat.le_of_ble_eq_true rfl) rfl ?_
 repeat' (first|contradiction|(rw [Option.ite_none_right_eq_some] at H;obtain ⟨_,H⟩:=H)|(rw [ite_or] at H;rcases H with ⟨_,H⟩|⟨_,H⟩)|(split at H)|(simp only [Option.bind_some] at H)|(rw [Option.bind_eq_some_iff] at H;obtain ⟨_,A,H⟩:=H)|cases H)
 all_goals repeat' (first
  | apply awp_seq
  | (apply awp_reg;rfl;simp (decide:=true) only [↓aops_cons,↓aopsD_cons,go_sem, *])
  | (apply awp_block;(try simp only [blockQ]))
  | (apply condT;(· simp (decide:=true) only [↓aops_cons,↓aopsD_cons,go_sem, *]))
  | (apply condF;(· simp (decide:=true) only [↓aops_cons,↓aopsD_cons,go_sem, *]))
  | (apply awp_skip;simp (decide:=true) only [↓aops_cons,↓aopsD_cons,go_sem, *])
  | (apply awp_exit;simp (decide:=true) only [↓aops_cons,↓aopsD_cons,go_sem, *])
  | (apply awp_ret;simp (decide:=true) only [↓aops_cons,↓aopsD_cons,go_sem, *])
  | (refine And.intro (a:=indep _ _ = true) vH ?_)
  | (rw [if_pos (show _ * _ ≤ 140737488355328 by (try simp only [List.length_append,List.length_cons,List.length_nil] at *);omega)];simp (decide:=true) only [↓aops_cons,↓aopsD_cons,go_sem, *]))
end Go.Proofs.Ytamjbjkbineafaa.EvFnPacked

namespace Go.Proofs.Ytamjbjkbineafaa.EvFnPacked
open Go Go.RowKit Go.Proofs.Ytamjbjkbineafaa.Ev Go.Proofs.Ytamjbjkbineafaa.PFnPacked Go.Proofs.YtamjbjkbineafaaW.PrintWords Go.Proofs.YtamjbjkbineafaaW.PrintLast
set_option linter.unusedVariables false
set_option linter.unusedSimpArgs false
attribute [local go_sem] aops_nil outI_done outI_call aopsD_nil outJ_done outJ_call semG sem0 semD semS M.run evO constA litOk litA AS.app AS.put List.map startL litF litB upd_at List.length_set Int.toNat_lt guardA boolA intA rowO cellsA readA argsL partsL fillL fzC fzL fzW loadV importR importC importW ownsP tsz tagg known elem? tby zeroC isNone binV dropW isCall resOf resC outL outC ownIds nodupB AS.ev mk_nil mk_at mo_nil mo_at beq_dec bne_dec thenQ blockQ kok_same kok_nx nx_zero if_true if_false Nat.add_zero Nat.zero_add Nat.le_refl true_and and_true List.getElem?_cons_zero List.getElem?_cons_succ List.getElem?_nil List.drop_succ_cons List.drop_zero List.take_succ_cons List.take_zero List.length_cons List.length_nil List.append_nil List.nil_append List.cons_append List.length_append List.any_cons List.any_nil keyC keysF setsF nodesF intsF nodeC keysE_len keysE_app keysE_one keysE_nil setsE_len setsE_app setsE_one setsE_nil nodesE_len nodesE_app nodesE_one nodesE_nil intsE_len intsE_app intsE_one intsE_nil keysE_get setsE_get nodesE_get intsE_get keysE_take keysE_drop nodesE_take nodesE_drop intsE_take intsE_drop setsE_set nodesE_set leK leL leA tmOk boxOk memOk rowOk rowsOk fzR List.contains_cons List.contains_nil Option.map_some Option.map_none ge_iff_le gt_iff_lt leF_same leE_same Option.isSome_some decide_true decide_false endQ own0 leC leCs or_true true_or range0 range1 range2 w64_ Bool.not_true Bool.not_false bne_self_eq_false beq_self_eq_true Bool.and_true Bool.false_or Bool.or_false List.getLast?_cons_cons List.getLast?_singleton List.dropLast_cons_cons List.dropLast_singleton Option.some.injEq M.rds W.loc nilV setC intC intsE_cons nodesE_cons leF_nil lB lC List.drop_nil
theorem spec_NodePut.j0_s {y0 y1 y2 y3 y4 y5 y6 y7 y8 r} {k:Nat} (H:spec_NodePut.j0 k y0 y1 y2 y3 y4 y5 y6 y7 y8 = some r):∃ q,k = q + 1:=by cases k with
 | zero=>cases H
 | succ q=>exact ⟨q,rfl⟩
theorem spec_NodePut.j1_s {y0 y1 y2 y3 y4 y5 y6 y7 y8 r} {k:Nat} (H:spec_NodePut.j1 k y0 y1 y2 y3 y4 y5 y6 y7 y8 = some r):∃ q,k = q + 1:=by cases k with
 | zero=>cases H
 | succ q=>exact ⟨q,rfl⟩
theorem spec_NodePut.j2_s {y0 y1 y2 y3 y4 y5 y6 r} {k:Nat} (H:spec_NodePut.j2 k y0 y1 y2 y3 y4 y5 y6 = some r):∃ q,k = q + 1:=by cases k with
 | zero=>cases H
 | succ q=>exact ⟨q,rfl⟩
theorem spec_NodePut.j3_s {y0 y1 y2 r} {k:Nat} (H:spec_NodePut.j3 k y0 y1 y2 = some r):∃ q,k = q + 1:=by cases k with
 | zero=>cases H
 | succ q=>exact ⟨q,rfl⟩
set_option maxHeartbeats 8000000 in
set_option maxRecDepth 100000 in
theorem spec_NodePut_s (k:Nat) (a0:List (List S38)) (a10 a11 a12 a13 a14:Int) (r0:List (List S38)) (r1:Bool) (H:spec_NodePut.f k a0 a10 a11 a12 a13 a14 = some (r0,r1)):SemCall 50 [⟨.agg,[setsF a0]⟩,⟨.agg,[litF a10,litF a11,litF a12,litF a13,litF a14]⟩] 0 ⟨.pr,[.fv (setsF r0),.fv (litB r1)]⟩ 0:=by
 simp only [spec_NodePut.f] at H
 refine call0 (rs:=[.cell 4 59,.tmp 5]) Try.func50 rfl tH rfl Try.ntmps50 (Nat.le_of_ble_eq_true rfl) rfl ?_
 repeat' (first|contradiction|(rw [Option.ite_none_right_eq_some] at H;obtain ⟨_,H⟩:=H)|(rw [ite_or] at H;rcases H with ⟨_,H⟩|⟨_,H⟩)|(split at H)|(simp only [Option.bind_some] at H)|(rw [Option.bind_eq_some_iff] at H;obtain ⟨_,A,H⟩:=H)|(obtain ⟨_,rfl⟩:=spec_NodePut.j0_s H;simp only [spec_NodePut.j0,beq_iff_eq,bne_iff_ne,ne_eq,ite_not] at H)|(obtain ⟨_,rfl⟩:=spec_NodePut.j1_s H;simp only [spec_NodePut.j1,beq_iff_eq,bne_iff_ne,ne_eq,ite_not] at H)|(obtain ⟨_,rfl⟩:=spec_NodePut.j2_s H;simp only [spec_NodePut.j2,beq_iff_eq,bne_iff_ne,ne_eq,ite_not] at H)|(obtain ⟨_,rfl⟩:=spec_NodePut.j3_s H;simp only [spec_NodePut.j3,beq_iff_eq,bne_iff_ne,ne_eq,ite_not] at H)|cases H)
 all_goals try (rename spec_l5Copy.f (_ + 1) a0 = some _=>E1;rename spec_l5Copy.f _ a0 = some r0=>E2;have E:=(spec_l5Copy.mono _ _ _ (spec_l5Copy.mono _ _ _ (spec_l5Copy.mono _ _ _ (spec_l5Copy.mono _ _ _ E2))));rw [E1] at E;cases E)
 all_goals try (rename spec_NodeNew.f _ = some r0=>E2;revert E2;rename spec_NodeNew.f _ = some _=>E1;intro E2;rw [E1] at E2;cases E2)
 all_goals repeat' (first
  | apply awp_seq
  | (apply awp_reg;rfl;simp (decide:=true) only [↓aops_cons,↓aopsD_cons,go_sem, *])
  | (apply awp_block;(try simp only [blockQ]))
  | (apply condT;(· simp (decide:=true) only [↓aops_cons,↓aopsD_cons,go_sem, *]))
  | (apply condF;(· simp (decide:=true) only [↓aops_cons,↓aopsD_cons,go_sem, *]))
  | (apply awp_skip;simp (decide:=true) only [↓aops_cons,↓aopsD_cons,go_sem, *])
  | (apply awp_exit;simp (decide:=true) only [↓aops_cons,↓aopsD_cons,go_sem, *])
  | (apply awp_ret;simp (decide:=true) only [↓aops_cons,↓aopsD_cons,go_sem, *])
  | (apply awp_regD (id:=5) [0,1,0,7,15,0,32,0,128,511,1023,2047,2047,8191];rfl;kernel_rfl;simp (decide:=true) only [↓aops_cons,↓aopsD_cons,go_sem, *])
  | (apply awp_regD (id:=7) [0,1,0,0,8,0,56,120,0,504,1023,2047];rfl;kernel_rfl;simp (decide:=true) only [↓aops_cons,↓aopsD_cons,go_sem, *])
  | (apply awp_regD (id:=11) [0,1,0,7,15,31];rfl;kernel_rfl;simp (decide:=true) only [↓aops_cons,↓aopsD_cons,go_sem, *])
  | (refine And.intro (a:=indep _ _ = true) vH ?_)
  | (rw [if_pos (show _ * _ ≤ 140737488355328 by (try simp only [List.length_append,List.length_cons,List.length_nil] at *);omega)];simp (decide:=true) only [↓aops_cons,↓aopsD_cons,go_sem, *])
  | (refine callI_eq (spec_NodeOk_s _ _ _ ‹spec_NodeOk.f _ (_ ++ [_]) = some _›) ?_ ?_;(· simp (decide:=true) only [↓aops_cons,↓aopsD_cons,go_sem, *]);simp (decide:=true) only [↓aops_cons,↓aopsD_cons,go_sem, *])
  | (refine callJ_eq (spec_NodeOk_s _ _ _ ‹spec_NodeOk.f _ (_ ++ [_]) = some _›) ?_ ?_;(· simp (decide:=true) only [↓aops_cons,↓aopsD_cons,go_sem, *]);simp (decide:=true) only [↓aops_cons,↓aopsD_cons,go_sem, *])
  | (refine callI_of (spec_l5Copy_s _ _ _ tF) ?_;simp (decide:=true) only [↓aops_cons,↓aopsD_cons,go_sem, *])
  | (refine callJ_of (spec_l5Copy_s _ _ _ tF) ?_;simp (decide:=true) only [↓aops_cons,↓aopsD_cons,go_sem, *])
  | (refine callI_of (spec_SetAt_s _ _ _ _ _ _ _ _ _ _ tF) ?_;simp (decide:=true) only [↓aops_cons,↓aopsD_cons,go_sem, *])
  | (refine callJ_of (spec_SetAt_s _ _ _ _ _ _ _ _ _ _ tF) ?_;simp (decide:=true) only [↓aops_cons,↓aopsD_cons,go_sem, *])
  | (refine callI_of (spec_SetPut_s _ _ _ _ _ _ _ _ tF) ?_;simp (decide:=true) only [↓aops_cons,↓aopsD_cons,go_sem, *])
  | (refine callJ_of (spec_SetPut_s _ _ _ _ _ _ _ _ tF) ?_;simp (decide:=true) only [↓aops_cons,↓aopsD_cons,go_sem, *])
  | (refine callI_of (spec_NodeOk_s _ _ _ tF) ?_;simp (decide:=true) only [↓aops_cons,↓aopsD_cons,go_sem, *])
  | (refine callJ_of (spec_NodeOk_s _ _ _ tF) ?_;simp (decide:=true) only [↓aops_cons,↓aopsD_cons,go_sem, *])
  | (refine callI_of (spec_NodeKeys_s _ _ _ tF) ?_;simp (decide:=true) only [↓aops_cons,↓aopsD_cons,go_sem, *])
  | (refine callJ_of (spec_NodeKeys_s _ _ _ tF) ?_;simp (decide:=true) only [↓aops_cons,↓aopsD_cons,go_sem, *])
  | (refine callI_of (spec_Drop_s _ _ _ tF) ?_;simp (decide:=true) only [↓aops_cons,↓aopsD_cons,go_sem, *])
  | (refine callJ_of (spec_Drop_s _ _ _ tF) ?_;simp (decide:=true) only [↓aops_cons,↓aopsD_cons,go_sem, *])
  | (refine callI_of (spec_NodeNew_s _ _ tF) ?_;simp (decide:=true) only [↓aops_cons,↓aopsD_cons,go_sem, *])
  | (refine callJ_of (spec_NodeNew_s _ _ tF) ?_;simp (decide:=true) only [↓aops_cons,↓aopsD_cons,go_sem, *]))
end Go.Proofs.Ytamjbjkbineafaa.EvFnPacked

namespace Go.Proofs.Ytamjbjkbineafaa.EvFnPacked
open Go Go.RowKit Go.Proofs.Ytamjbjkbineafaa.Ev Go.Proofs.Ytamjbjkbineafaa.PFnPacked Go.Proofs.YtamjbjkbineafaaW.PrintWords Go.Proofs.YtamjbjkbineafaaW.PrintLast
set_option linter.unusedVariables false
set_option linter.unusedSimpArgs false
attribute [local go_sem] aops_nil outI_done outI_call aopsD_nil outJ_done outJ_call semG sem0 semD semS M.run evO constA litOk litA AS.app AS.put List.map startL litF litB upd_at List.length_set Int.toNat_lt guardA boolA intA rowO cellsA readA argsL partsL fillL fzC fzL fzW loadV importR importC importW ownsP tsz tagg known elem? tby zeroC isNone binV dropW isCall resOf resC outL outC ownIds nodupB AS.ev mk_nil mk_at mo_nil mo_at beq_dec bne_dec thenQ blockQ kok_same kok_nx nx_zero if_true if_false Nat.add_zero Nat.zero_add Nat.le_refl true_and and_true List.getElem?_cons_zero List.getElem?_cons_succ List.getElem?_nil List.drop_succ_cons List.drop_zero List.take_succ_cons List.take_zero List.length_cons List.length_nil List.append_nil List.nil_append List.cons_append List.length_append List.any_cons List.any_nil keyC keysF setsF nodesF intsF nodeC keysE_len keysE_app keysE_one keysE_nil setsE_len setsE_app setsE_one setsE_nil nodesE_len nodesE_app nodesE_one nodesE_nil intsE_len intsE_app intsE_one intsE_nil keysE_get setsE_get nodesE_get intsE_get keysE_take keysE_drop nodesE_take nodesE_drop intsE_take intsE_drop setsE_set nodesE_set leK leL leA tmOk boxOk memOk rowOk rowsOk fzR List.contains_cons List.contains_nil Option.map_some Option.map_none ge_iff_le gt_iff_lt leF_same leE_same Option.isSome_some decide_true decide_false endQ own0 leC leCs or_true true_or range0 range1 range2 w64_ Bool.not_true Bool.not_false bne_self_eq_false beq_self_eq_true Bool.and_true Bool.false_or Bool.or_false List.getLast?_cons_cons List.getLast?_singleton List.dropLast_cons_cons List.dropLast_singleton Option.some.injEq M.rds W.loc nilV setC intC intsE_cons nodesE_cons leF_nil lB lC List.drop_nil
set_option maxHeartbeats 8000000 in
set_option maxRecDepth 100000 in
theorem spec_l6Set_s (a00:List Int) (a01:List S59) (a1:Int) (a2:List Int) (a3:List S59) (r0:List Int) (r1:List S59) (H:spec_l6Set.f a00 a01 a1 a2 a3 = some (r0,r1)):SemCall 51 [⟨.agg,[intsF a00,nodesF a01]⟩,⟨.one,[litF a1]⟩,⟨.one,[intsF a2]⟩,⟨.one,[nodesF a3]⟩] 0 ⟨.agg,[.fv (intsF r0),.fv (nodesF r1)]⟩ 0:=by
 simp only [spec_l6Set.f] at H
 refine call0 (rs:=[.cell 8 29]) Try.func51 rfl tH rfl Try.ntmps51 (Nat.le_of_ble_eq_true rfl) rfl ?_
 repeat' (first|contradiction|(rw [Option.ite_none_right_eq_some] at H;obtain ⟨_,H⟩:=H)|(rw [ite_or] at H;rcases H with ⟨_,H⟩|⟨_,H⟩)|(split at H)|(simp only [Option.bind_some] at H)|(rw [Option.bind_eq_some_iff] at H;obtain ⟨_,A,H⟩:=H)|cases H)
 all_goals repeat' (first
  | apply awp_seq
  | (apply awp_reg;rfl;simp (decide:=true) only [↓aops_cons,↓aopsD_cons,go_sem, *])
  | (apply awp_block;(try simp only [blockQ]))
  | (apply condT;(· simp (decide:=true) only [↓aops_cons,↓aopsD_cons,go_sem, *]))
  | (apply condF;(· simp (decide:=true) only [↓aops_cons,↓aopsD_cons,go_sem, *]))
  | (apply awp_skip;simp (decide:=true) only [↓aops_cons,↓aopsD_cons,go_sem, *])
  | (apply awp_exit;simp (decide:=true) only [↓aops_cons,↓aopsD_cons,go_sem, *])
  | (apply awp_ret;simp (decide:=true) only [↓aops_cons,↓aopsD_cons,go_sem, *])
  | (apply awp_regD (id:=2) [0,0,2,0,14,31,0,127,0,256,0,1024,3840,8191,16383,32767];rfl;kernel_rfl;simp (decide:=true) only [↓aops_cons,↓aopsD_cons,go_sem, *])
  | (apply awp_regD (id:=3) [0,0,2,0,14,31,0,127,0,256,0,1024,3840,8191,16383,32767];rfl;kernel_rfl;simp (decide:=true) only [↓aops_cons,↓aopsD_cons,go_sem, *])
  | (refine And.intro (a:=indep _ _ = true) vH ?_)
  | (rw [if_pos (show _ * _ ≤ 140737488355328 by (try simp only [List.length_append,List.length_cons,List.length_nil] at *);omega)];simp (decide:=true) only [↓aops_cons,↓aopsD_cons,go_sem, *]))
end Go.Proofs.Ytamjbjkbineafaa.EvFnPacked

namespace Go.Proofs.Ytamjbjkbineafaa.EvFnPacked
open Go Go.RowKit Go.Proofs.Ytamjbjkbineafaa.Ev Go.Proofs.Ytamjbjkbineafaa.PFnPacked Go.Proofs.YtamjbjkbineafaaW.PrintWords Go.Proofs.YtamjbjkbineafaaW.PrintLast
set_option linter.unusedVariables false
set_option linter.unusedSimpArgs false
attribute [local go_sem] aops_nil outI_done outI_call aopsD_nil outJ_done outJ_call semG sem0 semD semS M.run evO constA litOk litA AS.app AS.put List.map startL litF litB upd_at List.length_set Int.toNat_lt guardA boolA intA rowO cellsA readA argsL partsL fillL fzC fzL fzW loadV importR importC importW ownsP tsz tagg known elem? tby zeroC isNone binV dropW isCall resOf resC outL outC ownIds nodupB AS.ev mk_nil mk_at mo_nil mo_at beq_dec bne_dec thenQ blockQ kok_same kok_nx nx_zero if_true if_false Nat.add_zero Nat.zero_add Nat.le_refl true_and and_true List.getElem?_cons_zero List.getElem?_cons_succ List.getElem?_nil List.drop_succ_cons List.drop_zero List.take_succ_cons List.take_zero List.length_cons List.length_nil List.append_nil List.nil_append List.cons_append List.length_append List.any_cons List.any_nil keyC keysF setsF nodesF intsF nodeC keysE_len keysE_app keysE_one keysE_nil setsE_len setsE_app setsE_one setsE_nil nodesE_len nodesE_app nodesE_one nodesE_nil intsE_len intsE_app intsE_one intsE_nil keysE_get setsE_get nodesE_get intsE_get keysE_take keysE_drop nodesE_take nodesE_drop intsE_take intsE_drop setsE_set nodesE_set leK leL leA tmOk boxOk memOk rowOk rowsOk fzR List.contains_cons List.contains_nil Option.map_some Option.map_none ge_iff_le gt_iff_lt leF_same leE_same Option.isSome_some decide_true decide_false endQ own0 leC leCs or_true true_or range0 range1 range2 w64_ Bool.not_true Bool.not_false bne_self_eq_false beq_self_eq_true Bool.and_true Bool.false_or Bool.or_false List.getLast?_cons_cons List.getLast?_singleton List.dropLast_cons_cons List.dropLast_singleton Option.some.injEq M.rds W.loc nilV setC intC intsE_cons nodesE_cons leF_nil lB lC List.drop_nil
set_option maxHeartbeats 8000000 in
set_option maxRecDepth 100000 in
theorem spec_l6Pair_s (k:Nat) (a00:List Int) (a01:List S59) (r:Int) (H:spec_l6Pair.f k a00 a01 = some r):SemCall 88 [⟨.agg,[intsF a00,nodesF a01]⟩] 0 ⟨.one,[.fv (litF r)]⟩ 0:=by
 simp only [spec_l6Pair.f] at H
 refine call0 (rs:=[.tmp 2]) Try.func88 rfl tH rfl Try.ntmps88 (Nat.le_of_ble_eq_true rfl) rfl ?_
 repeat' (first|contradiction|(rw [Option.ite_none_right_eq_some] at H;obtain ⟨_,H⟩:=H)|(rw [ite_or] at H;rcases H with ⟨_,H⟩|⟨_,H⟩)|(split at H)|(simp only [Option.bind_some] at H)|(rw [Option.bind_eq_some_iff] at H;obtain ⟨_,A,H⟩:=H)|cases H)
 all_goals repeat' (first
  | apply awp_seq
  | (apply awp_reg;rfl;simp (decide:=true) only [↓aops_cons,↓aopsD_cons,go_sem, *])
  | (apply awp_block;(try simp only [blockQ]))
  | (apply condT;(· simp (decide:=true) only [↓aops_cons,↓aopsD_cons,go_sem, *]))
  | (apply condF;(· simp (decide:=true) only [↓aops_cons,↓aopsD_cons,go_sem, *]))
  | (apply awp_skip;simp (decide:=true) only [↓aops_cons,↓aopsD_cons,go_sem, *])
  | (apply awp_exit;simp (decide:=true) only [↓aops_cons,↓aopsD_cons,go_sem, *])
  | (apply awp_ret;simp (decide:=true) only [↓aops_cons,↓aopsD_cons,go_sem, *])
  | (apply awp_regD (id:=4) [0,1,0,7,15,31,63,0,128,0,512,1920,3968,8127,16319,32767,65535];rfl;kernel_rfl;simp (decide:=true) only [↓aops_cons,↓aopsD_cons,go_sem, *])
  | (refine And.intro (a:=indep _ _ = true) vH ?_)
  | (rw [if_pos (show _ * _ ≤ 140737488355328 by (try simp only [List.length_append,List.length_cons,List.length_nil] at *);omega)];simp (decide:=true) only [↓aops_cons,↓aopsD_cons,go_sem, *])
  | (refine callI_of (spec_NodeKeys_s _ _ _ tF) ?_;simp (decide:=true) only [↓aops_cons,↓aopsD_cons,go_sem, *])
  | (refine callJ_of (spec_NodeKeys_s _ _ _ tF) ?_;simp (decide:=true) only [↓aops_cons,↓aopsD_cons,go_sem, *])
  | (refine ⟨_,0,_,?_,weakL [] ?_,_,rfl,rfl,H⟩;(· omega);(· simp (decide:=true) only [↓aops_cons,↓aopsD_cons,go_sem, *])))
 all_goals
  refine loopX (fun m k s=>∃ (x3:Int),k = 0 ∧ s = ⟨mk [(1,.addr 1 0),(3,.v .one [.fv (litF x3)])],mo [(1,⟨29,[.fv (intsF a00),.fv (nodesF a01)]⟩)],mo []⟩ ∧ spec_l6Pair.l0 m x3 a00 a01 = some r) ?h0 ?hr
  case h0=>exact ⟨_,0,_,weakL [] td,0,rfl,rfl,H⟩
  case hr =>
   rintro m k s ⟨x3,rfl,rfl,H⟩
   cases m with
   | zero=>cases H
   | succ m =>
    simp only [spec_l6Pair.l0] at H
    repeat' (first|contradiction|(rw [Option.ite_none_right_eq_some] at H;obtain ⟨_,H⟩:=H)|(rw [ite_or] at H;rcases H with ⟨_,H⟩|⟨_,H⟩)|(split at H)|(simp only [Option.bind_some] at H)|(rw [Option.bind_eq_some_iff] at H;obtain ⟨_,A,H⟩:=H)|cases H)
    all_goals repeat' (first
      | apply awp_seq
      | (apply awp_reg;rfl;simp (decide:=true) only [↓aops_cons,↓aopsD_cons,go_sem, *])
      | (apply awp_block;(try simp only [blockQ]))
      | (apply condT;(· simp (decide:=true) only [↓aops_cons,↓aopsD_cons,go_sem, *]))
      | (apply condF;(· simp (decide:=true) only [↓aops_cons,↓aopsD_cons,go_sem, *]))
      | (apply awp_skip;simp (decide:=true) only [↓aops_cons,↓aopsD_cons,go_sem, *])
      | (apply awp_exit;simp (decide:=true) only [↓aops_cons,↓aopsD_cons,go_sem, *])
      | (apply awp_ret;simp (decide:=true) only [↓aops_cons,↓aopsD_cons,go_sem, *])
      | (apply awp_regD (id:=4) [0,1,0,7,15,31,63,0,128,0,512,1920,3968,8127,16319,32767,65535];rfl;kernel_rfl;simp (decide:=true) only [↓aops_cons,↓aopsD_cons,go_sem, *])
      | (refine And.intro (a:=indep _ _ = true) vH ?_)
      | (rw [if_pos (show _ * _ ≤ 140737488355328 by (try simp only [List.length_append,List.length_cons,List.length_nil] at *);omega)];simp (decide:=true) only [↓aops_cons,↓aopsD_cons,go_sem, *])
      | (refine callI_of (spec_NodeKeys_s _ _ _ tF) ?_;simp (decide:=true) only [↓aops_cons,↓aopsD_cons,go_sem, *])
      | (refine callJ_of (spec_NodeKeys_s _ _ _ tF) ?_;simp (decide:=true) only [↓aops_cons,↓aopsD_cons,go_sem, *])
      | (refine ⟨_,0,_,?_,weakL [] ?_,_,rfl,rfl,H⟩;(· omega);(· simp (decide:=true) only [↓aops_cons,↓aopsD_cons,go_sem, *])))
end Go.Proofs.Ytamjbjkbineafaa.EvFnPacked

namespace Go.Proofs.Ytamjbjkbineafaa.EvFnPacked
open Go Go.RowKit Go.Proofs.Ytamjbjkbineafaa.Ev Go.Proofs.Ytamjbjkbineafaa.PFnPacked Go.Proofs.YtamjbjkbineafaaW.PrintWords Go.Proofs.YtamjbjkbineafaaW.PrintLast
set_option linter.unusedVariables false
set_option linter.unusedSimpArgs false
attribute [local go_sem] aops_nil outI_done outI_call aopsD_nil outJ_done outJ_call semG sem0 semD semS M.run evO constA litOk litA AS.app AS.put List.map startL litF litB upd_at List.length_set Int.toNat_lt guardA boolA intA rowO cellsA readA argsL partsL fillL fzC fzL fzW loadV importR importC importW ownsP tsz tagg known elem? tby zeroC isNone binV dropW isCall resOf resC outL outC ownIds nodupB AS.ev mk_nil mk_at mo_nil mo_at beq_dec bne_dec thenQ blockQ kok_same kok_nx nx_zero if_true if_false Nat.add_zero Nat.zero_add Nat.le_refl true_and and_true List.getElem?_cons_zero List.getElem?_cons_succ List.getElem?_nil List.drop_succ_cons List.drop_zero List.take_succ_cons List.take_zero List.length_cons List.length_nil List.append_nil List.nil_append List.cons_append List.length_append List.any_cons List.any_nil keyC keysF setsF nodesF intsF nodeC keysE_len keysE_app keysE_one keysE_nil setsE_len setsE_app setsE_one setsE_nil nodesE_len nodesE_app nodesE_one nodesE_nil intsE_len intsE_app intsE_one intsE_nil keysE_get setsE_get nodesE_get intsE_get keysE_take keysE_drop nodesE_take nodesE_drop intsE_take intsE_drop setsE_set nodesE_set leK leL leA tmOk boxOk memOk rowOk rowsOk fzR List.contains_cons List.contains_nil Option.map_some Option.map_none ge_iff_le gt_iff_lt leF_same leE_same Option.isSome_some decide_true decide_false endQ own0 leC leCs or_true true_or range0 range1 range2 w64_ Bool.not_true Bool.not_false bne_self_eq_false beq_self_eq_true Bool.and_true Bool.false_or Bool.or_false List.getLast?_cons_cons List.getLast?_singleton List.dropLast_cons_cons List.dropLast_singleton Option.some.injEq M.rds W.loc nilV setC intC intsE_cons nodesE_cons leF_nil lB lC List.drop_nil
set_option maxHeartbeats 8000000 in
set_option maxRecDepth 100000 in
theorem spec_l6Join_s (k:Nat) (a00:List Int) (a01:List S59) (r0:List Int) (r1:List S59) (H:spec_l6Join.f k a00 a01 = some (r0,r1)):SemCall 57 [⟨.agg,[intsF a00,nodesF a01]⟩] 0 ⟨.agg,[.fv (intsF r0),.fv (nodesF r1)]⟩ 0:=by
 simp only [spec_l6Join.f] at H
 refine call0 (rs:=[.cell 2 29]) Try.func57 rfl tH rfl Try.ntmps57 (Nat.le_of_ble_eq_true rfl) rfl ?_
 repeat' (first|contradiction|(rw [Option.ite_none_right_eq_some] at H;obtain ⟨_,H⟩:=H)|(rw [ite_or] at H;rcases H with ⟨_,H⟩|⟨_,H⟩)|(split at H)|(simp only [Option.bind_some] at H)|(rw [Option.bind_eq_some_iff] at H;obtain ⟨_,A,H⟩:=H)|cases H)
 all_goals repeat' (first
  | apply awp_seq
  | (apply awp_reg;rfl;simp (decide:=true) only [↓aops_cons,↓aopsD_cons,go_sem, *])
  | (apply awp_block;(try simp only [blockQ]))
  | (apply condT;(· simp (decide:=true) only [↓aops_cons,↓aopsD_cons,go_sem, *]))
  | (apply condF;(· simp (decide:=true) only [↓aops_cons,↓aopsD_cons,go_sem, *]))
  | (apply awp_skip;simp (decide:=true) only [↓aops_cons,↓aopsD_cons,go_sem, *])
  | (apply awp_exit;simp (decide:=true) only [↓aops_cons,↓aopsD_cons,go_sem, *])
  | (apply awp_ret;simp (decide:=true) only [↓aops_cons,↓aopsD_cons,go_sem, *])
  | (apply awp_regD (id:=4) [0,1,0,7,15,31,0,64,0,256,960,1984,4095,8191,16383];rfl;kernel_rfl;simp (decide:=true) only [↓aops_cons,↓aopsD_cons,go_sem, *])
  | (apply awp_regD (id:=6) [0,0,2,0,8,30,63,0,128,0,512,1920,4095,8191,16383];rfl;kernel_rfl;simp (decide:=true) only [↓aops_cons,↓aopsD_cons,go_sem, *])
  | (apply awp_regD (id:=7) [0,0,2,0,14,31,0,127,255,511,0,1024,0,4096,15360,32767,65535,131071];rfl;kernel_rfl;simp (decide:=true) only [↓aops_cons,↓aopsD_cons,go_sem, *])
  | (refine And.intro (a:=indep _ _ = true) vH ?_)
  | (rw [if_pos (show _ * _ ≤ 140737488355328 by (try simp only [List.length_append,List.length_cons,List.length_nil] at *);omega)];simp (decide:=true) only [↓aops_cons,↓aopsD_cons,go_sem, *])
  | (refine callI_eq (spec_l6Pair_s _ _ _ _ ‹spec_l6Pair.f _ _ _ = some _›) ?_ ?_;(· simp (decide:=true) only [↓aops_cons,↓aopsD_cons,go_sem, *]);simp (decide:=true) only [↓aops_cons,↓aopsD_cons,go_sem, *])
  | (refine callJ_eq (spec_l6Pair_s _ _ _ _ ‹spec_l6Pair.f _ _ _ = some _›) ?_ ?_;(· simp (decide:=true) only [↓aops_cons,↓aopsD_cons,go_sem, *]);simp (decide:=true) only [↓aops_cons,↓aopsD_cons,go_sem, *])
  | (refine callI_eq (spec_NodeNew_s _ _ ‹spec_NodeNew.f _ = some _›) ?_ ?_;(· simp (decide:=true) only [↓aops_cons,↓aopsD_cons,go_sem, *]);simp (decide:=true) only [↓aops_cons,↓aopsD_cons,go_sem, *])
  | (refine callJ_eq (spec_NodeNew_s _ _ ‹spec_NodeNew.f _ = some _›) ?_ ?_;(· simp (decide:=true) only [↓aops_cons,↓aopsD_cons,go_sem, *]);simp (decide:=true) only [↓aops_cons,↓aopsD_cons,go_sem, *])
  | (refine callI_of (spec_l6Pair_s _ _ _ _ tF) ?_;simp (decide:=true) only [↓aops_cons,↓aopsD_cons,go_sem, *])
  | (refine callJ_of (spec_l6Pair_s _ _ _ _ tF) ?_;simp (decide:=true) only [↓aops_cons,↓aopsD_cons,go_sem, *])
  | (refine callI_of (spec_NodeKeys_s _ _ _ tF) ?_;simp (decide:=true) only [↓aops_cons,↓aopsD_cons,go_sem, *])
  | (refine callJ_of (spec_NodeKeys_s _ _ _ tF) ?_;simp (decide:=true) only [↓aops_cons,↓aopsD_cons,go_sem, *])
  | (refine callI_of (spec_NodeNew_s _ _ tF) ?_;simp (decide:=true) only [↓aops_cons,↓aopsD_cons,go_sem, *])
  | (refine callJ_of (spec_NodeNew_s _ _ tF) ?_;simp (decide:=true) only [↓aops_cons,↓aopsD_cons,go_sem, *])
  | (refine ⟨_,0,_,?_,weakL [27,41,49,1017,1024] ?_,_,_,_,rfl,rfl,H⟩;(· omega);(· simp (decide:=true) only [↓aops_cons,↓aopsD_cons,go_sem, *])))
 all_goals
  refine loopX (fun m k s=>∃ (x3:Int) (x4:List Int) (x5:List S59),k = 0 ∧ s = ⟨mk [(1,.addr 1 0),(2,.addr 2 0),(3,.v .one [.fv (litF x3)])],mo [(1,⟨29,[.fv (intsF x4),.fv (nodesF x5)]⟩),(2,⟨29,[.fv (.lit nilV),.fv (.lit nilV)]⟩)],mo []⟩ ∧ spec_l6Join.l0 m x3 x4 x5 = some (r0,r1)) ?h0 ?hr
  case h0=>exact ⟨_,0,_,weakL [27,41,49,1017,1024] td,_,_,_,rfl,rfl,H⟩
  case hr =>
   rintro m k s ⟨x3,x4,x5,rfl,rfl,H⟩
   cases m with
   | zero=>cases H
   | succ m =>
    simp only [spec_l6Join.l0] at H
    repeat' (first|contradiction|(rw [Option.ite_none_right_eq_some] at H;obtain ⟨_,H⟩:=H)|(rw [ite_or] at H;rcases H with ⟨_,H⟩|⟨_,H⟩)|(split at H)|(simp only [Option.bind_some] at H)|(rw [Option.bind_eq_some_iff] at H;obtain ⟨_,A,H⟩:=H)|cases H)
    all_goals repeat' (first
      | apply awp_seq
      | (apply awp_reg;rfl;simp (decide:=true) only [↓aops_cons,↓aopsD_cons,go_sem, *])
      | (apply awp_block;(try simp only [blockQ]))
      | (apply condT;(· simp (decide:=true) only [↓aops_cons,↓aopsD_cons,go_sem, *]))
      | (apply condF;(· simp (decide:=true) only [↓aops_cons,↓aopsD_cons,go_sem, *]))
      | (apply awp_skip;simp (decide:=true) only [↓aops_cons,↓aopsD_cons,go_sem, *])
      | (apply awp_exit;simp (decide:=true) only [↓aops_cons,↓aopsD_cons,go_sem, *])
      | (apply awp_ret;simp (decide:=true) only [↓aops_cons,↓aopsD_cons,go_sem, *])
      | (apply awp_regD (id:=4) [0,1,0,7,15,31,0,64,0,256,960,1984,4095,8191,16383];rfl;kernel_rfl;simp (decide:=true) only [↓aops_cons,↓aopsD_cons,go_sem, *])
      | (apply awp_regD (id:=6) [0,0,2,0,8,30,63,0,128,0,512,1920,4095,8191,16383];rfl;kernel_rfl;simp (decide:=true) only [↓aops_cons,↓aopsD_cons,go_sem, *])
      | (apply awp_regD (id:=7) [0,0,2,0,14,31,0,127,255,511,0,1024,0,4096,15360,32767,65535,131071];rfl;kernel_rfl;simp (decide:=true) only [↓aops_cons,↓aopsD_cons,go_sem, *])
      | (refine And.intro (a:=indep _ _ = true) vH ?_)
      | (rw [if_pos (show _ * _ ≤ 140737488355328 by (try simp only [List.length_append,List.length_cons,List.length_nil] at *);omega)];simp (decide:=true) only [↓aops_cons,↓aopsD_cons,go_sem, *])
      | (refine callI_eq (spec_l6Pair_s _ _ _ _ ‹spec_l6Pair.f _ _ _ = some _›) ?_ ?_;(· simp (decide:=true) only [↓aops_cons,↓aopsD_cons,go_sem, *]);simp (decide:=true) only [↓aops_cons,↓aopsD_cons,go_sem, *])
      | (refine callJ_eq (spec_l6Pair_s _ _ _ _ ‹spec_l6Pair.f _ _ _ = some _›) ?_ ?_;(· simp (decide:=true) only [↓aops_cons,↓aopsD_cons,go_sem, *]);simp (decide:=true) only [↓aops_cons,↓aopsD_cons,go_sem, *])
      | (refine callI_eq (spec_NodeNew_s _ _ ‹spec_NodeNew.f _ = some _›) ?_ ?_;(· simp (decide:=true) only [↓aops_cons,↓aopsD_cons,go_sem, *]);simp (decide:=true) only [↓aops_cons,↓aopsD_cons,go_sem, *])
      | (refine callJ_eq (spec_NodeNew_s _ _ ‹spec_NodeNew.f _ = some _›) ?_ ?_;(· simp (decide:=true) only [↓aops_cons,↓aopsD_cons,go_sem, *]);simp (decide:=true) only [↓aops_cons,↓aopsD_cons,go_sem, *])
      | (refine callI_of (spec_l6Pair_s _ _ _ _ tF) ?_;simp (decide:=true) only [↓aops_cons,↓aopsD_cons,go_sem, *])
      | (refine callJ_of (spec_l6Pair_s _ _ _ _ tF) ?_;simp (decide:=true) only [↓aops_cons,↓aopsD_cons,go_sem, *])
      | (refine callI_of (spec_NodeKeys_s _ _ _ tF) ?_;simp (decide:=true) only [↓aops_cons,↓aopsD_cons,go_sem, *])
      | (refine callJ_of (spec_NodeKeys_s _ _ _ tF) ?_;simp (decide:=true) only [↓aops_cons,↓aopsD_cons,go_sem, *])
      | (refine callI_of (spec_NodeNew_s _ _ tF) ?_;simp (decide:=true) only [↓aops_cons,↓aopsD_cons,go_sem, *])
      | (refine callJ_of (spec_NodeNew_s _ _ tF) ?_;simp (decide:=true) only [↓aops_cons,↓aopsD_cons,go_sem, *])
      | (refine ⟨_,0,_,?_,weakL [27,41,49,1017,1024] ?_,_,_,_,rfl,rfl,H⟩;(· omega);(· simp (decide:=true) only [↓aops_cons,↓aopsD_cons,go_sem, *])))
end Go.Proofs.Ytamjbjkbineafaa.EvFnPacked

namespace Go.Proofs.Ytamjbjkbineafaa.EvFnPacked
open Go Go.RowKit Go.Proofs.Ytamjbjkbineafaa.Ev Go.Proofs.Ytamjbjkbineafaa.PFnPacked Go.Proofs.YtamjbjkbineafaaW.PrintWords Go.Proofs.YtamjbjkbineafaaW.PrintLast
set_option linter.unusedVariables false
set_option linter.unusedSimpArgs false
attribute [local go_sem] aops_nil outI_done outI_call aopsD_nil outJ_done outJ_call semG sem0 semD semS M.run evO constA litOk litA AS.app AS.put List.map startL litF litB upd_at List.length_set Int.toNat_lt guardA boolA intA rowO cellsA readA argsL partsL fillL fzC fzL fzW loadV importR importC importW ownsP tsz tagg known elem? tby zeroC isNone binV dropW isCall resOf resC outL outC ownIds nodupB AS.ev mk_nil mk_at mo_nil mo_at beq_dec bne_dec thenQ blockQ kok_same kok_nx nx_zero if_true if_false Nat.add_zero Nat.zero_add Nat.le_refl true_and and_true List.getElem?_cons_zero List.getElem?_cons_succ List.getElem?_nil List.drop_succ_cons List.drop_zero List.take_succ_cons List.take_zero List.length_cons List.length_nil List.append_nil List.nil_append List.cons_append List.length_append List.any_cons List.any_nil keyC keysF setsF nodesF intsF nodeC keysE_len keysE_app keysE_one keysE_nil setsE_len setsE_app setsE_one setsE_nil nodesE_len nodesE_app nodesE_one nodesE_nil intsE_len intsE_app intsE_one intsE_nil keysE_get setsE_get nodesE_get intsE_get keysE_take keysE_drop nodesE_take nodesE_drop intsE_take intsE_drop setsE_set nodesE_set leK leL leA tmOk boxOk memOk rowOk rowsOk fzR List.contains_cons List.contains_nil Option.map_some Option.map_none ge_iff_le gt_iff_lt leF_same leE_same Option.isSome_some decide_true decide_false endQ own0 leC leCs or_true true_or range0 range1 range2 w64_ Bool.not_true Bool.not_false bne_self_eq_false beq_self_eq_true Bool.and_true Bool.false_or Bool.or_false List.getLast?_cons_cons List.getLast?_singleton List.dropLast_cons_cons List.dropLast_singleton Option.some.injEq M.rds W.loc nilV setC intC intsE_cons nodesE_cons leF_nil lB lC List.drop_nil
theorem spec_TreePut.j0_s {y0 y1 y2 y3 y4 y5 y6 y7 y8 y9 r} {k:Nat} (H:spec_TreePut.j0 k y0 y1 y2 y3 y4 y5 y6 y7 y8 y9 = some r):∃ q,k = q + 1:=by cases k with
 | zero=>cases H
 | succ q=>exact ⟨q,rfl⟩
theorem spec_TreePut.j1_s {y0 y1 y2 y3 r} {k:Nat} (H:spec_TreePut.j1 k y0 y1 y2 y3 = some r):∃ q,k = q + 1:=by cases k with
 | zero=>cases H
 | succ q=>exact ⟨q,rfl⟩
set_option maxHeartbeats 8000000 in
set_option maxRecDepth 100000 in
theorem spec_TreePut_s (k:Nat) (a00:List Int) (a01:List S59) (a10 a11 a12 a13 a14:Int) (r0:List Int) (r1:List S59) (r2:Bool) (H:spec_TreePut.f k a00 a01 a10 a11 a12 a13 a14 = some (r0,r1,r2)):SemCall 21 [⟨.agg,[intsF a00,nodesF a01]⟩,⟨.agg,[litF a10,litF a11,litF a12,litF a13,litF a14]⟩] 0 ⟨.pr,[.fv (intsF r0),.fv (nodesF r1),.fv (litB r2)]⟩ 0:=by
 simp only [spec_TreePut.f] at H
 refine call0 (rs:=[.cell 4 29,.tmp 5]) Try.func21 rfl tH rfl Try.ntmps21 (Nat.le_of_ble_eq_true rfl) rfl ?_
 repeat' (first|contradiction|(rw [Option.ite_none_right_eq_some] at H;obtain ⟨_,H⟩:=H)|(rw [ite_or] at H;rcases H with ⟨_,H⟩|⟨_,H⟩)|(split at H)|(simp only [Option.bind_some] at H)|(rw [Option.bind_eq_some_iff] at H;obtain ⟨_,A,H⟩:=H)|(obtain ⟨_,rfl⟩:=spec_TreePut.j0_s H;simp only [spec_TreePut.j0,beq_iff_eq,bne_iff_ne,ne_eq,ite_not] at H)|(obtain ⟨_,rfl⟩:=spec_TreePut.j1_s H;simp only [spec_TreePut.j1,beq_iff_eq,bne_iff_ne,ne_eq,ite_not] at H)|cases H)
 all_goals repeat' (first
  | apply awp_seq
  | (apply awp_reg;rfl;simp (decide:=true) only [↓aops_cons,↓aopsD_cons,go_sem, *])
  | (apply awp_block;(try simp only [blockQ]))
  | (apply condT;(· simp (decide:=true) only [↓aops_cons,↓aopsD_cons,go_sem, *]))
  | (apply condF;(· simp (decide:=true) only [↓aops_cons,↓aopsD_cons,go_sem, *]))
  | (apply awp_skip;simp (decide:=true) only [↓aops_cons,↓aopsD_cons,go_sem, *])
  | (apply awp_exit;simp (decide:=true) only [↓aops_cons,↓aopsD_cons,go_sem, *])
  | (apply awp_ret;simp (decide:=true) only [↓aops_cons,↓aopsD_cons,go_sem, *])
  | (apply awp_regD (id:=5) [0,1,0,7,15,0,63,127,255,255,0,1535,4095];rfl;kernel_rfl;simp (decide:=true) only [↓aops_cons,↓aopsD_cons,go_sem, *])
  | (apply awp_regD (id:=6) [0,0,0,4,0,28,60,124,0,256,1023,0,4095];rfl;kernel_rfl;simp (decide:=true) only [↓aops_cons,↓aopsD_cons,go_sem, *])
  | (apply awp_regD (id:=8) [0,1,0,7,15,31,0,127,255,511];rfl;kernel_rfl;simp (decide:=true) only [↓aops_cons,↓aopsD_cons,go_sem, *])
  | (apply awp_regF [1061] (id:=10) [0,0,0,4,0,28,60,0,0,384,896,1920,4092,0,0,24576,61312,0,0,393216,1044352,2092928,4194303,8388607];rfl;kernel_rfl;simp (decide:=true) only [↓aops_cons,↓aopsD_cons,go_sem, *])
  | (refine And.intro (a:=indep _ _ = true) vH ?_)
  | (rw [if_pos (show _ * _ ≤ 140737488355328 by (try simp only [List.length_append,List.length_cons,List.length_nil] at *);omega)];simp (decide:=true) only [↓aops_cons,↓aopsD_cons,go_sem, *])
  | (refine callI_eq (spec_l6Set_s _ _ _ _ _ _ _ ‹spec_l6Set.f _ _ _ [_] [_] = some _›) ?_ ?_;(· simp (decide:=true) only [↓aops_cons,↓aopsD_cons,go_sem, *]);simp (decide:=true) only [↓aops_cons,↓aopsD_cons,go_sem, *])
  | (refine callJ_eq (spec_l6Set_s _ _ _ _ _ _ _ ‹spec_l6Set.f _ _ _ [_] [_] = some _›) ?_ ?_;(· simp (decide:=true) only [↓aops_cons,↓aopsD_cons,go_sem, *]);simp (decide:=true) only [↓aops_cons,↓aopsD_cons,go_sem, *])
  | (refine callI_eq (spec_l6Set_s _ _ _ _ _ _ _ ‹spec_l6Set.f _ _ _ [] [] = some _›) ?_ ?_;(· simp (decide:=true) only [↓aops_cons,↓aopsD_cons,go_sem, *]);simp (decide:=true) only [↓aops_cons,↓aopsD_cons,go_sem, *])
  | (refine callJ_eq (spec_l6Set_s _ _ _ _ _ _ _ ‹spec_l6Set.f _ _ _ [] [] = some _›) ?_ ?_;(· simp (decide:=true) only [↓aops_cons,↓aopsD_cons,go_sem, *]);simp (decide:=true) only [↓aops_cons,↓aopsD_cons,go_sem, *])
  | (refine callI_eq (spec_l6Set_s _ _ _ _ _ _ _ ‹spec_l6Set.f _ _ _ [_,_] [_,_] = some _›) ?_ ?_;(· simp (decide:=true) only [↓aops_cons,↓aopsD_cons,go_sem, *]);simp (decide:=true) only [↓aops_cons,↓aopsD_cons,go_sem, *])
  | (refine callJ_eq (spec_l6Set_s _ _ _ _ _ _ _ ‹spec_l6Set.f _ _ _ [_,_] [_,_] = some _›) ?_ ?_;(· simp (decide:=true) only [↓aops_cons,↓aopsD_cons,go_sem, *]);simp (decide:=true) only [↓aops_cons,↓aopsD_cons,go_sem, *])
  | (refine callI_of (spec_l6Copy_s _ _ _ _ _ tF) ?_;simp (decide:=true) only [↓aops_cons,↓aopsD_cons,go_sem, *])
  | (refine callJ_of (spec_l6Copy_s _ _ _ _ _ tF) ?_;simp (decide:=true) only [↓aops_cons,↓aopsD_cons,go_sem, *])
  | (refine callI_of (spec_TreeOk_s _ _ _ _ tF) ?_;simp (decide:=true) only [↓aops_cons,↓aopsD_cons,go_sem, *])
  | (refine callJ_of (spec_TreeOk_s _ _ _ _ tF) ?_;simp (decide:=true) only [↓aops_cons,↓aopsD_cons,go_sem, *])
  | (refine callI_of (spec_KeyOk_s _ _ _ _ _ _ _ tF) ?_;simp (decide:=true) only [↓aops_cons,↓aopsD_cons,go_sem, *])
  | (refine callJ_of (spec_KeyOk_s _ _ _ _ _ _ _ tF) ?_;simp (decide:=true) only [↓aops_cons,↓aopsD_cons,go_sem, *])
  | (refine callI_of (spec_WhereIn_s _ _ _ _ _ _ tF) ?_;simp (decide:=true) only [↓aops_cons,↓aopsD_cons,go_sem, *])
  | (refine callJ_of (spec_WhereIn_s _ _ _ _ _ _ tF) ?_;simp (decide:=true) only [↓aops_cons,↓aopsD_cons,go_sem, *])
  | (refine callI_of (spec_NodePut_s _ _ _ _ _ _ _ _ _ tF) ?_;simp (decide:=true) only [↓aops_cons,↓aopsD_cons,go_sem, *])
  | (refine callJ_of (spec_NodePut_s _ _ _ _ _ _ _ _ _ tF) ?_;simp (decide:=true) only [↓aops_cons,↓aopsD_cons,go_sem, *])
  | (refine callI_of (spec_l6Set_s _ _ _ _ _ _ _ tF) ?_;simp (decide:=true) only [↓aops_cons,↓aopsD_cons,go_sem, *])
  | (refine callJ_of (spec_l6Set_s _ _ _ _ _ _ _ tF) ?_;simp (decide:=true) only [↓aops_cons,↓aopsD_cons,go_sem, *])
  | (refine callI_of (spec_NodeKeys_s _ _ _ tF) ?_;simp (decide:=true) only [↓aops_cons,↓aopsD_cons,go_sem, *])
  | (refine callJ_of (spec_NodeKeys_s _ _ _ tF) ?_;simp (decide:=true) only [↓aops_cons,↓aopsD_cons,go_sem, *])
  | (refine callI_of (spec_SetPut_s _ _ _ _ _ _ _ _ tF) ?_;simp (decide:=true) only [↓aops_cons,↓aopsD_cons,go_sem, *])
  | (refine callJ_of (spec_SetPut_s _ _ _ _ _ _ _ _ tF) ?_;simp (decide:=true) only [↓aops_cons,↓aopsD_cons,go_sem, *])
  | (refine callI_of (spec_Drop_s _ _ _ tF) ?_;simp (decide:=true) only [↓aops_cons,↓aopsD_cons,go_sem, *])
  | (refine callJ_of (spec_Drop_s _ _ _ tF) ?_;simp (decide:=true) only [↓aops_cons,↓aopsD_cons,go_sem, *])
  | (refine callI_of (spec_l6Spot_s _ _ _ _ _ _ tF) ?_;simp (decide:=true) only [↓aops_cons,↓aopsD_cons,go_sem, *])
  | (refine callJ_of (spec_l6Spot_s _ _ _ _ _ _ tF) ?_;simp (decide:=true) only [↓aops_cons,↓aopsD_cons,go_sem, *])
  | (refine callI_of (spec_NodeNew_s _ _ tF) ?_;simp (decide:=true) only [↓aops_cons,↓aopsD_cons,go_sem, *])
  | (refine callJ_of (spec_NodeNew_s _ _ tF) ?_;simp (decide:=true) only [↓aops_cons,↓aopsD_cons,go_sem, *])
  | (refine callI_of (spec_l6Join_s _ _ _ _ _ tF) ?_;simp (decide:=true) only [↓aops_cons,↓aopsD_cons,go_sem, *])
  | (refine callJ_of (spec_l6Join_s _ _ _ _ _ tF) ?_;simp (decide:=true) only [↓aops_cons,↓aopsD_cons,go_sem, *]))
end Go.Proofs.Ytamjbjkbineafaa.EvFnPacked

namespace Go.Proofs.Ytamjbjkbineafaa.EvFnPacked
open Go Go.RowKit Go.Proofs.Ytamjbjkbineafaa.Ev Go.Proofs.Ytamjbjkbineafaa.PFnPacked Go.Proofs.YtamjbjkbineafaaW.PrintWords Go.Proofs.YtamjbjkbineafaaW.PrintLast
set_option linter.unusedVariables false
set_option linter.unusedSimpArgs false
section
variable {own:Nat → Nat} {ro:Nat → Prop} {w:World} {A:Option Addr} {n c:Nat} {v:Value}
def allRo (w:World) (ro:Nat → Prop):Prop:=∀ ad u,w.cell? ad = some u → ro ad.block
theorem emptied (w:World) (ok:Nat → Prop):∃ W2:World,W2.heap.size = w.heap.size ∧ (∀ k,ok k → W2.heap[k]? = w.heap[k]?) ∧ allRo W2 (fun b=>ok b ∧ b < w.heap.size):=by
 classical
 refine ⟨{ w with heap:=w.heap.mapIdx fun k o=>if ok k then o else .cells #[] 0 (0,0) },by simp,fun k hk=>?_,fun ad u hu=>?_⟩
 ·simp only [Array.getElem?_mapIdx,hk,if_true]
  cases w.heap[k]? <;> rfl
 ·unfold World.cell? at hu
  simp only [Array.getElem?_mapIdx] at hu
  by_cases hb:ad.block < w.heap.size
  ·refine ⟨Classical.byContradiction fun hk=>?_,hb⟩
   simp only [hk,if_false,Array.getElem?_eq_getElem hb,Option.map_some] at hu
   split at hu
   ·cases hu
   ·simp at hu
  ·simp only [Array.getElem?_eq_none (Nat.le_of_not_lt hb),Option.map_none] at hu
   cases hu
section
variable {α:Type} {d:Kd α} {e base:Nat} {ok:Nat → Prop} {xs:List α} {x:FV}
theorem rep_of_F (hrep:∀ (W2:World) (ro:Nat → Prop),allRo W2 ro → d.C W2 A n xs → Rep own ro W2 x v) (h:Kd.F d w ok A n xs):Rep own (fun b=>ok b ∧ b < w.heap.size) w x v:=by
 obtain ⟨W2,hs,hk,hr⟩:=emptied w ok
 exact (hrep W2 _ hr (h W2 (fun k ho _=>hk k ho))).move (fun b hb=>⟨hb,rfl,(hk b hb.1).symm⟩)
theorem V_of_rep (hof:∀ W2:World,Rep own ro W2 x v → ∃ A c,v = .slice A xs.length c ∧ xs.length ≤ c ∧ d.C W2 A xs.length xs) (hro:∀ b,ro b → b < w.heap.size) (h:Rep own ro w x v):Kd.V d e w base ro v xs:=by
 obtain ⟨A,c,rfl,hc,_⟩:=hof w h
 refine ⟨A,c,rfl,hc,fun W' hW=>?_⟩
 obtain ⟨A',c',he,_,h'⟩:=hof W' (h.move (fun b hb=>⟨hb,rfl,hW b hb (hro b hb)⟩))
 injection he with h1 h2 h3
 subst h1
 exact h'
end
theorem rep_keys {xs:List S38} (hro:allRo w ro) (h:k38.C w A n xs) (hc:n ≤ c):Rep own ro w (keysF xs) (.slice A n c) :=
 rep_row rfl tb (fun _=>rfl) (fun x cs h j y u hy hu=>by
  obtain rfl:=k38_open h
  rcases j with _|_|_|_|_|j <;> simp [keyC] at hy hu <;> (subst hy hu;exact .lit _ rfl)) hro h hc
theorem rep_sets {xs:List (List S38)} (hro:allRo w ro) (h:(Kd.slice 38 k38).C w A n xs) (hc:n ≤ c):Rep own ro w (setsF xs) (.slice A n c) :=
 rep_row rfl tb (fun _=>rfl) (fun x cs h j y u hy hu=>by
  obtain ⟨A,c,rfl,h1,h2⟩:=h
  rcases j with _|j <;> simp [setC] at hy hu
  subst hy hu
  exact rep_keys hro h2 h1) hro h hc
theorem rep_nodes {xs:List S59} (hro:allRo w ro) (h:k59.C w A n xs) (hc:n ≤ c):Rep own ro w (nodesF xs) (.slice A n c) :=
 rep_row rfl tb (fun _=>rfl) (fun x cs h j y u hy hu=>by
  obtain ⟨A,c,rfl,h1,h2⟩:=k59_open h
  rcases j with _|j <;> simp [nodeC] at hy hu
  subst hy hu
  exact rep_sets hro h2 h1) hro h hc
theorem rep_ints {xs:List Int} (hro:allRo w ro) (h:(Kd.int .i64).C w A n xs) (hc:n ≤ c):Rep own ro w (intsF xs) (.slice A n c) :=
 rep_row rfl tb (fun _=>rfl) (fun x cs h j y u hy hu=>by
  obtain rfl:=h
  rcases j with _|j <;> simp [intC] at hy hu
  subst hy hu
  exact .lit _ rfl) hro h hc
theorem keys_of {xs:List S38} (h:Rep own ro w (keysF xs) v):∃ A c,v = .slice A xs.length c ∧ xs.length ≤ c ∧ k38.C w A xs.length xs :=
 row_of rfl (fun _=>rfl) (fun x cs hl hr=>by
  match cs,hl,hr with
  | [a,b,c,d,e],_,hr =>
   obtain ⟨rfl,_⟩:=rep_lit (hr 0 _ _ rfl rfl)
   obtain ⟨rfl,_⟩:=rep_lit (hr 1 _ _ rfl rfl)
   obtain ⟨rfl,_⟩:=rep_lit (hr 2 _ _ rfl rfl)
   obtain ⟨rfl,_⟩:=rep_lit (hr 3 _ _ rfl rfl)
   obtain ⟨rfl,_⟩:=rep_lit (hr 4 _ _ rfl rfl)
   exact k38_mk w x) h
theorem sets_of {xs:List (List S38)} (h:Rep own ro w (setsF xs) v):∃ A c,v = .slice A xs.length c ∧ xs.length ≤ c ∧ (Kd.slice 38 k38).C w A xs.length xs :=
 row_of rfl (fun _=>rfl) (fun x cs hl hr=>by
  match cs,hl,hr with
  | [a],_,hr =>
   obtain ⟨A,c,rfl,h1,h2⟩:=keys_of (hr 0 _ _ rfl rfl)
   exact ⟨A,c,rfl,h1,h2⟩) h
theorem nodes_of {xs:List S59} (h:Rep own ro w (nodesF xs) v):∃ A c,v = .slice A xs.length c ∧ xs.length ≤ c ∧ k59.C w A xs.length xs :=
 row_of rfl (fun _=>rfl) (fun x cs hl hr=>by
  match cs,hl,hr with
  | [a],_,hr =>
   obtain ⟨A,c,rfl,h1,h2⟩:=sets_of (hr 0 _ _ rfl rfl)
   exact k59_mk w x h1 h2) h
theorem ints_of {xs:List Int} (h:Rep own ro w (intsF xs) v):∃ A c,v = .slice A xs.length c ∧ xs.length ≤ c ∧ (Kd.int .i64).C w A xs.length xs :=
 row_of rfl (fun _=>rfl) (fun x cs hl hr=>by
  match cs,hl,hr with
  | [a],_,hr =>
   obtain ⟨rfl,_⟩:=rep_lit (hr 0 _ _ rfl rfl)
   rfl) h
end
theorem treeput_calls (k:Nat) {A0 A1:Option Addr} {n0 n1 c0 c1 base:Nat} {ok:Nat → Prop} {w:World} {l0:List Int} {l1:List S59} (a0 a1 a2 a3 a4:Int) {r1:List Int} {r2:List S59} {r3:Bool}
  (h0:Kd.V (Kd.int .i64) 3 w base ok (.slice A0 n0 c0) l0) (h1:Kd.V k59 59 w base ok (.slice A1 n1 c1) l1) (h:spec_TreePut.f k l0 l1 a0 a1 a2 a3 a4 = some (r1,r2,r3)) :
  Calls Try.prog 21 #[.agg #[.slice A0 n0 c0,.slice A1 n1 c1],.agg #[.int .i64 a0,.int .i64 a1,.int .i64 a2,.int .i64 a3,.int .i64 a4]] w fun e w'=>∃ v0_ v1_:Value,e = .returned (.tuple #[.agg #[v0_,v1_],.bool r3]) ∧
   Kd.V (Kd.int .i64) 3 w' w.heap.size (fun k_=>(ok k_ ∧ k_ < w.heap.size) ∨ w.heap.size ≤ k_) v0_ r1 ∧ Kd.V k59 59 w' w.heap.size (fun k_=>(ok k_ ∧ k_ < w.heap.size) ∨ w.heap.size ≤ k_) v1_ r2 ∧ Below w.heap.size w w':=by
 obtain ⟨_,_,_,_,_,hc⟩:=spec_TreePut_s k l0 l1 a0 a1 a2 a3 a4 r1 r2 r3 h
 obtain ⟨e0,g0,f0⟩:=Kd.V_at h0
 obtain ⟨e1,g1,f1⟩:=Kd.V_at h1
 subst e0 e1
 refine Calls.mono (hc (fun _=>0) (fun b=>ok b ∧ b < w.heap.size) w [.agg #[.slice A0 l0.length c0,.slice A1 l1.length c1],.agg #[.int .i64 a0,.int .i64 a1,.int .i64 a2,.int .i64 a3,.int .i64 a4]] (fun _ _ h=>by omega) (fun _ h=>h.2)
  (.cons ⟨[_,_],rfl,.cons (rep_of_F (fun W2 ro hr hC=>rep_ints hr hC g0) f0) (.cons (rep_of_F (fun W2 ro hr hC=>rep_nodes hr hC g1) f1) .nil)⟩
   (.cons ⟨[_,_,_,_,_],rfl,.cons (.lit _ rfl) (.cons (.lit _ rfl) (.cons (.lit _ rfl) (.cons (.lit _ rfl) (.cons (.lit _ rfl) .nil))))⟩ .nil))) ?_
 rintro e w' ⟨v,own',tg,rfl,_,_,_,⟨vs,rfl,hl,hr⟩,hb⟩
 match vs,hl,hr with
 | [v0,v1,v2],_,hr =>
  have q2:=hr 2 _ _ rfl rfl
  obtain ⟨rfl,_⟩:=rep_lit q2
  have hs:=aM hb
  refine ⟨v0,v1,rfl,?_,?_,hb⟩
  ·exact Kd.V_mono (V_of_rep (fun _ h=>ints_of h) (fun b hb=>by rcases hb.1 with h|h <;> omega) (hr 0 _ _ rfl rfl)) (fun b hb=>hb.1.imp id (fun h=>h.1))
  ·exact Kd.V_mono (V_of_rep (fun _ h=>nodes_of h) (fun b hb=>by rcases hb.1 with h|h <;> omega) (hr 1 _ _ rfl rfl)) (fun b hb=>hb.1.imp id (fun h=>h.1))
end Go.Proofs.Ytamjbjkbineafaa.EvFnPacked

namespace Go.Proofs.Ytamjbjkbineafaa.PFnPacked
open Go.RowKit Go.Proofs.YtamjbjkbineafaaW.PrintWords Go.Proofs.YtamjbjkbineafaaW.PrintLast Go.Proofs.YtamjbjkbineafaaW.PrintMore
attribute [local go_sem] max2_int min2_int max_two min_two max_three min_three max_four min_four   -- for this text's walks alone
set_option linter.unusedVariables false
set_option linter.unusedSimpArgs false
def spec_l1Byte.f (s0_0:List Int) (s0_1:Int) (s0_2:Int):Option (Int × Int × Int):=if s0_1 < (s0_0.length:Int) then (if 0 ≤ s0_1 then (some (Go.bits .and .i64 (wrap64 ((Go.bits .and .i64 (Go.bits .xor .i64 ((wrap64 ((wrap64 (s0_2 * 6364136223846793005)) + 1442695040888963407)) / 8589934592) ((wrap64 ((wrap64 (s0_2 * 6364136223846793005)) + 1442695040888963407)) / 140737488355328)) 255) + (wrap64 (rd s0_0 s0_1)))) 255,wrap64 (s0_1 + 1),wrap64 ((wrap64 (s0_2 * 6364136223846793005)) + 1442695040888963407))) else (none)) else (some (Go.bits .and .i64 (Go.bits .xor .i64 ((wrap64 ((wrap64 (s0_2 * 6364136223846793005)) + 1442695040888963407)) / 8589934592) ((wrap64 ((wrap64 (s0_2 * 6364136223846793005)) + 1442695040888963407)) / 140737488355328)) 255,s0_1,wrap64 ((wrap64 (s0_2 * 6364136223846793005)) + 1442695040888963407)))
set_option maxHeartbeats 8000000 in
set_option maxRecDepth 100000 in
theorem spec_l1Byte.calls (g:Nat) (s0_0:List Int) (s0_1:Int) (s0_2:Int) (r1:Int) (r2:Int) (r3:Int) (w0 w:World) (hI:IsS92 w0 w g s0_0 s0_1 s0_2) (hB:Below w0.heap.size w0 w) (h:spec_l1Byte.f s0_0 s0_1 s0_2 = some (r1,r2,r3)) :
  Calls Try.prog 97 #[.pointer (some ⟨g,0,none⟩)] w fun e w'=>e = .returned (.int .i64 r1) ∧ IsS92 w0 w' g s0_0 r2 r3 ∧ Below w0.heap.size w0 w' ∧ KeepBut w w' g none:=by
 have HI0:=aA.mk hI
 have HK:=aA.mk (KeepBut.refl w g none)
 have HL:=aA.mk hB.size
 clear hI
 have HW0:=aA.mk hB.size
 have HB:=aA.mk hB
 clear hB
 have H:(if s0_1 < (s0_0.length:Int) then (if 0 ≤ s0_1 then (some (Go.bits .and .i64 (wrap64 ((Go.bits .and .i64 (Go.bits .xor .i64 ((wrap64 ((wrap64 (s0_2 * 6364136223846793005)) + 1442695040888963407)) / 8589934592) ((wrap64 ((wrap64 (s0_2 * 6364136223846793005)) + 1442695040888963407)) / 140737488355328)) 255) + (wrap64 (rd s0_0 s0_1)))) 255,wrap64 (s0_1 + 1),wrap64 ((wrap64 (s0_2 * 6364136223846793005)) + 1442695040888963407))) else (none)) else (some (Go.bits .and .i64 (Go.bits .xor .i64 ((wrap64 ((wrap64 (s0_2 * 6364136223846793005)) + 1442695040888963407)) / 8589934592) ((wrap64 ((wrap64 (s0_2 * 6364136223846793005)) + 1442695040888963407)) / 140737488355328)) 255,s0_1,wrap64 ((wrap64 (s0_2 * 6364136223846793005)) + 1442695040888963407)))) = some (r1,r2,r3):=h
 clear h
 by_cases c2:s0_1 < (s0_0.length:Int)
 ·rw [if_pos c2] at H
  have c2b0:decide (s0_1 < (s0_0.length:Int)) = true:=decide_eq_true c2
  clear c2
  by_cases c3:0 ≤ s0_1
  ·rw [if_pos c3] at H
   have c3b0:decide (0 ≤ s0_1) = true:=decide_eq_true c3
   clear c3
   simp only [Option.some.injEq,Prod.mk.injEq] at H
   obtain ⟨rfl,rfl,rfl⟩:=H
   obtain ⟨ASz4_0,cSz4_0,HGz4,hgz4,HSz4_0⟩:=HI0.out
   have hcz4_0:=cellS92_0 HGz4
   have hcz4_1:=cellS92_1 HGz4
   have hcz4_2:=cellS92_2 HGz4
   have hfz4_1:=bH HGz4 1
   have hfz4_2:=bH HGz4 2
   clear HGz4 hgz4
   have p577:0 ≤ (s0_1:Int):=lE tF
   have q577:s0_1 < (s0_0.length:Int):=lE tF
   obtain ⟨ad577,e577,hx577_0⟩:=Kd.at_int HSz4_0 s0_1 p577 q577
   cases e577
   have hn577_0:ad577.block ≠ g:=Nat.ne_of_lt (Nat.lt_of_lt_of_le (by have:=lD _ _ hx577_0;first|rwa [aU] at this|exact this) (IsS92.ge HI0.out))
   replace hx577_0:=pw_cell_below HB.out hx577_0
   replace hx577_0:=(bK (p:=⟨g,2,none⟩) (by first|(rw [aU];exact hn577_0)|(show (Addr.add _ _).block ≠ _;rw [aU];exact hn577_0)|exact hn577_0) (.int .i64 (wrap64 ((wrap64 (s0_2 * 6364136223846793005)) + 1442695040888963407)))).trans hx577_0
   (try have hy577_0:=fun (n_:Nat)=>(show (((w.drewN n_).setCell ⟨g,2,none⟩ (.int .i64 (wrap64 ((wrap64 (s0_2 * 6364136223846793005)) + 1442695040888963407))))).cell? _ = some _ from hx577_0))
   clear hn577_0
   replace p577:=eq_true p577
   replace q577:=eq_true q577
   go_enter Try.func97,Try.ntmps97
   go_wp2
   repeat (go_quiet (fail);try go_wp2)
   go_ret
   exact tN
  ·rw [if_neg c3] at H
   exact vM
 ·rw [if_neg c2] at H
  have c2b0:decide (s0_1 < (s0_0.length:Int)) = false:=decide_eq_false c2
  clear c2
  simp only [Option.some.injEq,Prod.mk.injEq] at H
  obtain ⟨rfl,rfl,rfl⟩:=H
  obtain ⟨ASz5_0,cSz5_0,HGz5,hgz5,HSz5_0⟩:=HI0.out
  have hcz5_0:=cellS92_0 HGz5
  have hcz5_1:=cellS92_1 HGz5
  have hcz5_2:=cellS92_2 HGz5
  have hfz5_1:=bH HGz5 1
  have hfz5_2:=bH HGz5 2
  clear HGz5 hgz5
  go_enter Try.func97,Try.ntmps97
  go_wp2
  repeat (go_quiet (fail);try go_wp2)
  go_ret
  exact tN
def spec_l1Below.f (s0_0:List Int) (s0_1:Int) (s0_2:Int) (a1:Int):Option (Int × Int × Int):=if a1 ≤ 0 then (some (0,s0_1,s0_2)) else (if a1 ≤ 256 then ((spec_l1Byte.f s0_0 s0_1 s0_2).bind fun bt578=>(if a1 = 0 then (none) else (some (Int.tmod bt578.1 a1,bt578.2.1,bt578.2.2)))) else ((spec_l1Byte.f s0_0 s0_1 s0_2).bind fun bt581=>((spec_l1Byte.f s0_0 bt581.2.1 bt581.2.2).bind fun bt584=>((spec_l1Byte.f s0_0 bt584.2.1 bt584.2.2).bind fun bt587=>(if a1 = 0 then (none) else (some (Int.tmod (wrap64 ((wrap64 ((wrap64 (bt581.1 * 65536)) + (wrap64 (bt584.1 * 256)))) + bt587.1)) a1,bt587.2.1,bt587.2.2)))))))
set_option maxHeartbeats 8000000 in
set_option maxRecDepth 100000 in
theorem spec_l1Below.calls (g:Nat) (s0_0:List Int) (s0_1:Int) (s0_2:Int) (a1:Int) (r1:Int) (r2:Int) (r3:Int) (w0 w:World) (hI:IsS92 w0 w g s0_0 s0_1 s0_2) (hB:Below w0.heap.size w0 w) (h:spec_l1Below.f s0_0 s0_1 s0_2 a1 = some (r1,r2,r3)) :
  Calls Try.prog 75 #[.pointer (some ⟨g,0,none⟩),.int .i64 a1] w fun e w'=>e = .returned (.int .i64 r1) ∧ IsS92 w0 w' g s0_0 r2 r3 ∧ Below w0.heap.size w0 w' ∧ KeepBut w w' g none:=by
 have HI0:=aA.mk hI
 have HK:=aA.mk (KeepBut.refl w g none)
 have HL:=aA.mk hB.size
 clear hI
 have HW0:=aA.mk hB.size
 have HB:=aA.mk hB
 clear hB
 have H:(if a1 ≤ 0 then (some (0,s0_1,s0_2)) else (if a1 ≤ 256 then ((spec_l1Byte.f s0_0 s0_1 s0_2).bind fun bt578=>(if a1 = 0 then (none) else (some (Int.tmod bt578.1 a1,bt578.2.1,bt578.2.2)))) else ((spec_l1Byte.f s0_0 s0_1 s0_2).bind fun bt581=>((spec_l1Byte.f s0_0 bt581.2.1 bt581.2.2).bind fun bt584=>((spec_l1Byte.f s0_0 bt584.2.1 bt584.2.2).bind fun bt587=>(if a1 = 0 then (none) else (some (Int.tmod (wrap64 ((wrap64 ((wrap64 (bt581.1 * 65536)) + (wrap64 (bt584.1 * 256)))) + bt587.1)) a1,bt587.2.1,bt587.2.2)))))))) = some (r1,r2,r3):=h
 clear h
 by_cases c3:a1 ≤ 0
 ·rw [if_pos c3] at H
  have c3b0:decide (a1 ≤ 0) = true:=decide_eq_true c3
  clear c3
  simp only [Option.some.injEq,Prod.mk.injEq] at H
  obtain ⟨rfl,rfl,rfl⟩:=H
  go_enter Try.func75,Try.ntmps75
  go_wp2
  go_ret
  exact tN
 ·rw [if_neg c3] at H
  have c3b0:decide (a1 ≤ 0) = false:=decide_eq_false c3
  clear c3
  by_cases c4:a1 ≤ 256
  ·rw [if_pos c4] at H
   have c4b0:decide (a1 ≤ 256) = true:=decide_eq_true c4
   clear c4
   replace H:=lF H
   obtain ⟨⟨t578,t579,t580⟩,A50,H⟩:=H
   replace H:(if a1 = 0 then (none) else (some (Int.tmod t578 a1,t579,t580))) = some (r1,r2,r3):=H
   have A5:=aA.mk A50
   clear A50
   by_cases c6:a1 = 0
   ·rw [if_pos c6] at H
    exact vM
   ·rw [if_neg c6] at H
    have c6b0:(a1 == 0) = false:=beq_eq_false_iff_ne.mpr c6
    have c6b1:(a1 != 0) = true:=bne_iff_ne.mpr c6
    simp only [Option.some.injEq,Prod.mk.injEq] at H
    obtain ⟨rfl,rfl,rfl⟩:=H
    go_enter Try.func75,Try.ntmps75
    go_wp2_with (first|((with_reducible refine aY (f:=97) rfl ?_);refine goesL_ (some 13) rfl rfl Try.func97 tH rfl #[.pointer (some ⟨g,0,none⟩)] rfl tA ?_;(with_reducible refine (spec_l1Byte.calls g s0_0 s0_1 s0_2 t578 t579 t580 w0 _ ?side1 ?side2 A5.out).mono ?_);(case side1=>exact vA);(case side2=>exact vT);rintro e w7 ⟨rfl,hi,hb,hk⟩;refine ⟨_,rfl,?_⟩;replace HK:=aA.mk (KeepBut.trans tM hk (.inl rfl));replace HB:=aA.mk (hb);replace HI0:=aA.mk (hi);(try clear hb);(try clear hk);(try clear hi)))
    go_ret
    exact tN
  ·rw [if_neg c4] at H
   have c4b0:decide (a1 ≤ 256) = false:=decide_eq_false c4
   clear c4
   replace H:=lF H
   obtain ⟨⟨t581,t582,t583⟩,A80,H⟩:=H
   replace H:((spec_l1Byte.f s0_0 t582 t583).bind fun bt584=>((spec_l1Byte.f s0_0 bt584.2.1 bt584.2.2).bind fun bt587=>(if a1 = 0 then (none) else (some (Int.tmod (wrap64 ((wrap64 ((wrap64 (t581 * 65536)) + (wrap64 (bt584.1 * 256)))) + bt587.1)) a1,bt587.2.1,bt587.2.2))))) = some (r1,r2,r3):=H
   have A8:=aA.mk A80
   clear A80
   replace H:=lF H
   obtain ⟨⟨t584,t585,t586⟩,A90,H⟩:=H
   replace H:((spec_l1Byte.f s0_0 t585 t586).bind fun bt587=>(if a1 = 0 then (none) else (some (Int.tmod (wrap64 ((wrap64 ((wrap64 (t581 * 65536)) + (wrap64 (t584 * 256)))) + bt587.1)) a1,bt587.2.1,bt587.2.2)))) = some (r1,r2,r3):=H
   have A9:=aA.mk A90
   clear A90
   replace H:=lF H
   obtain ⟨⟨t587,t588,t589⟩,A100,H⟩:=H
   replace H:(if a1 = 0 then (none) else (some (Int.tmod (wrap64 ((wrap64 ((wrap64 (t581 * 65536)) + (wrap64 (t584 * 256)))) + t587)) a1,t588,t589))) = some (r1,r2,r3):=H
   have A10:=aA.mk A100
   clear A100
   by_cases c11:a1 = 0
   ·rw [if_pos c11] at H
    exact vM
   ·rw [if_neg c11] at H
    have c11b0:(a1 == 0) = false:=beq_eq_false_iff_ne.mpr c11
    have c11b1:(a1 != 0) = true:=bne_iff_ne.mpr c11
    simp only [Option.some.injEq,Prod.mk.injEq] at H
    obtain ⟨rfl,rfl,rfl⟩:=H
    go_enter Try.func75,Try.ntmps75
    go_wp2_with (first|((with_reducible refine aY (f:=97) rfl ?_);refine goesL_ (some 17) rfl rfl Try.func97 tH rfl #[.pointer (some ⟨g,0,none⟩)] rfl tA ?_;(with_reducible refine (spec_l1Byte.calls g s0_0 s0_1 s0_2 t581 t582 t583 w0 _ ?side1 ?side2 A8.out).mono ?_);(case side1=>exact vA);(case side2=>exact vT);rintro e w12 ⟨rfl,hi,hb,hk⟩;refine ⟨_,rfl,?_⟩;replace HK:=aA.mk (KeepBut.trans tM hk (.inl rfl));replace HB:=aA.mk (hb);replace HI0:=aA.mk (hi);(try clear hb);(try clear hk);(try clear hi))|((with_reducible refine aY (f:=97) rfl ?_);refine goesL_ (some 19) rfl rfl Try.func97 tH rfl #[.pointer (some ⟨g,0,none⟩)] rfl tA ?_;(with_reducible refine (spec_l1Byte.calls g s0_0 t582 t583 t584 t585 t586 w0 _ ?side1 ?side2 A9.out).mono ?_);(case side1=>exact vA);(case side2=>exact vT);rintro e w13 ⟨rfl,hi,hb,hk⟩;refine ⟨_,rfl,?_⟩;replace HK:=aA.mk (KeepBut.trans tM hk (.inl rfl));replace HB:=aA.mk (hb);replace HI0:=aA.mk (hi);(try clear hb);(try clear hk);(try clear hi))|((with_reducible refine aY (f:=97) rfl ?_);refine goesL_ (some 21) rfl rfl Try.func97 tH rfl #[.pointer (some ⟨g,0,none⟩)] rfl tA ?_;(with_reducible refine (spec_l1Byte.calls g s0_0 t585 t586 t587 t588 t589 w0 _ ?side1 ?side2 A10.out).mono ?_);(case side1=>exact vA);(case side2=>exact vT);rintro e w14 ⟨rfl,hi,hb,hk⟩;refine ⟨_,rfl,?_⟩;replace HK:=aA.mk (KeepBut.trans tM hk (.inl rfl));replace HB:=aA.mk (hb);replace HI0:=aA.mk (hi);(try clear hb);(try clear hk);(try clear hi)))
    go_ret
    exact tN
def spec_l1Int.f (s0_0:List Int) (s0_1:Int) (s0_2:Int) (l1:List Int):Option (Int × Int × Int):=(spec_l1Below.f s0_0 s0_1 s0_2 (l1.length:Int)).bind fun bt590=>(if 0 ≤ bt590.1 then (if bt590.1 < (l1.length:Int) then (some (rd l1 bt590.1,bt590.2.1,bt590.2.2)) else (none)) else (none))
set_option maxHeartbeats 8000000 in
set_option maxRecDepth 100000 in
theorem spec_l1Int.calls (g:Nat) (s0_0:List Int) (s0_1:Int) (s0_2:Int) (A1:Option Addr) (c1:Nat) (l1:List Int) (r1:Int) (r2:Int) (r3:Int) (w0 w:World) (hI:IsS92 w0 w g s0_0 s0_1 s0_2) (hB:Below w0.heap.size w0 w) (hr1:Kd.C (Kd.int .i64) w A1 l1.length l1) (hc1:l1.length ≤ c1) (hf1:∀ ad,A1 = some ad → 0 < l1.length → ad.block ≠ g) (h:spec_l1Int.f s0_0 s0_1 s0_2 l1 = some (r1,r2,r3)) :
  Calls Try.prog 98 #[.pointer (some ⟨g,0,none⟩),.slice A1 l1.length c1] w fun e w'=>e = .returned (.int .i64 r1) ∧ IsS92 w0 w' g s0_0 r2 r3 ∧ Below w0.heap.size w0 w' ∧ KeepBut w w' g none:=by
 have HR1:=aA.mk hr1
 have HC1:=aA.mk hc1
 clear hr1 hc1
 have HI0:=aA.mk hI
 have HK:=aA.mk (KeepBut.refl w g none)
 have HL:=aA.mk hB.size
 clear hI
 have HW0:=aA.mk hB.size
 have HB:=aA.mk hB
 clear hB
 have H:((spec_l1Below.f s0_0 s0_1 s0_2 (l1.length:Int)).bind fun bt590=>(if 0 ≤ bt590.1 then (if bt590.1 < (l1.length:Int) then (some (rd l1 bt590.1,bt590.2.1,bt590.2.2)) else (none)) else (none))) = some (r1,r2,r3):=h
 clear h
 replace H:=lF H
 obtain ⟨⟨t590,t591,t592⟩,A30,H⟩:=H
 replace H:(if 0 ≤ t590 then (if t590 < (l1.length:Int) then (some (rd l1 t590,t591,t592)) else (none)) else (none)) = some (r1,r2,r3):=H
 have A3:=aA.mk A30
 clear A30
 by_cases c4:0 ≤ t590
 ·rw [if_pos c4] at H
  have c4b0:decide (0 ≤ t590) = true:=decide_eq_true c4
  clear c4
  by_cases c5:t590 < (l1.length:Int)
  ·rw [if_pos c5] at H
   have c5b0:decide (t590 < (l1.length:Int)) = true:=decide_eq_true c5
   clear c5
   simp only [Option.some.injEq,Prod.mk.injEq] at H
   obtain ⟨rfl,rfl,rfl⟩:=H
   go_enter Try.func98,Try.ntmps98
   go_wp2_with (first|((with_reducible refine aY (f:=75) rfl ?_);refine goesL_ (some 9) rfl rfl Try.func75 tH rfl #[.pointer (some ⟨g,0,none⟩),.int .i64 (l1.length:Int)] rfl tA ?_;(with_reducible refine (spec_l1Below.calls g s0_0 s0_1 s0_2 (l1.length:Int) t590 t591 t592 w0 _ ?side1 ?side2 A3.out).mono ?_);(case side1=>exact vA);(case side2=>exact vT);rintro e w6 ⟨rfl,hi,hb,hk⟩;refine ⟨_,rfl,?_⟩;replace HK:=aA.mk (KeepBut.trans tM hk (.inl rfl));replace HB:=aA.mk (hb);replace HI0:=aA.mk (hi);(try clear hb);(try clear hk);(try clear hi);have p593:0 ≤ (t590:Int):=lE tF;have q593:t590 < (l1.length:Int):=lE tF;obtain ⟨ad593,e593,hx593_0⟩:=Kd.at_int HR1.out t590 p593 q593;cases e593;replace hx593_0:=keep_cell HK.out hx593_0 (by first|(rw [aU];exact hf1 _ rfl tB)|exact hf1 _ rfl tB|exact hf1 ad593 rfl tB);replace p593:=eq_true p593;replace q593:=eq_true q593))
   go_ret
   exact tN
  ·rw [if_neg c5] at H
   exact vM
 ·rw [if_neg c4] at H
  exact vM
def spec_l3Draw.f (s0_0:List Int) (s0_1:Int) (s0_2:Int):Option (Int × Int × Int × Int × Int × Int × Int):=(spec_l1Below.f s0_0 s0_1 s0_2 4).bind fun bt595=>((spec_l1Below.f s0_0 bt595.2.1 bt595.2.2 5).bind fun bt598=>((spec_l1Int.f s0_0 bt598.2.1 bt598.2.2 (([0,1,1,1,2]:List Int))).bind fun bt604=>(if bt604.1 = 1 then ((spec_l1Below.f s0_0 bt604.2.1 bt604.2.2 24).bind fun bt608=>((spec_l1Int.f s0_0 bt608.2.1 bt608.2.2 (([0,1,256,999]:List Int))).bind fun bt614=>(some (bt595.1,wrap64 (1 + bt598.1),bt604.1,bt608.1,bt614.1,bt614.2.1,bt614.2.2)))) else (some (bt595.1,wrap64 (1 + bt598.1),bt604.1,0,0,bt604.2.1,bt604.2.2)))))
set_option maxHeartbeats 8000000 in
set_option maxRecDepth 100000 in
theorem spec_l3Draw.calls (g:Nat) (s0_0:List Int) (s0_1:Int) (s0_2:Int) (r1:Int) (r2:Int) (r3:Int) (r4:Int) (r5:Int) (r6:Int) (r7:Int) (w0 w:World) (hI:IsS92 w0 w g s0_0 s0_1 s0_2) (hB:Below w0.heap.size w0 w) (h:spec_l3Draw.f s0_0 s0_1 s0_2 = some (r1,r2,r3,r4,r5,r6,r7)) :
  Calls Try.prog 76 #[.pointer (some ⟨g,0,none⟩)] w fun e w'=>e = .returned (.agg #[.int .i64 r1,.int .i64 r2,.int .i64 r3,.int .i64 r4,.int .i64 r5]) ∧ IsS92 w0 w' g s0_0 r6 r7 ∧ Below w0.heap.size w0 w' ∧ KeepBut w w' g none:=by
 have hu38:=Try.underlying38
 have HI0:=aA.mk hI
 have HK:=aA.mk (KeepBut.refl w g none)
 have HL:=aA.mk hB.size
 clear hI
 have HW0:=aA.mk hB.size
 have HB:=aA.mk hB
 clear hB
 have H:((spec_l1Below.f s0_0 s0_1 s0_2 4).bind fun bt595=>((spec_l1Below.f s0_0 bt595.2.1 bt595.2.2 5).bind fun bt598=>((spec_l1Int.f s0_0 bt598.2.1 bt598.2.2 (([0,1,1,1,2]:List Int))).bind fun bt604=>(if bt604.1 = 1 then ((spec_l1Below.f s0_0 bt604.2.1 bt604.2.2 24).bind fun bt608=>((spec_l1Int.f s0_0 bt608.2.1 bt608.2.2 (([0,1,256,999]:List Int))).bind fun bt614=>(some (bt595.1,wrap64 (1 + bt598.1),bt604.1,bt608.1,bt614.1,bt614.2.1,bt614.2.2)))) else (some (bt595.1,wrap64 (1 + bt598.1),bt604.1,0,0,bt604.2.1,bt604.2.2)))))) = some (r1,r2,r3,r4,r5,r6,r7):=h
 clear h
 replace H:=lF H
 obtain ⟨⟨t595,t596,t597⟩,A20,H⟩:=H
 replace H:((spec_l1Below.f s0_0 t596 t597 5).bind fun bt598=>((spec_l1Int.f s0_0 bt598.2.1 bt598.2.2 (([0,1,1,1,2]:List Int))).bind fun bt604=>(if bt604.1 = 1 then ((spec_l1Below.f s0_0 bt604.2.1 bt604.2.2 24).bind fun bt608=>((spec_l1Int.f s0_0 bt608.2.1 bt608.2.2 (([0,1,256,999]:List Int))).bind fun bt614=>(some (t595,wrap64 (1 + bt598.1),bt604.1,bt608.1,bt614.1,bt614.2.1,bt614.2.2)))) else (some (t595,wrap64 (1 + bt598.1),bt604.1,0,0,bt604.2.1,bt604.2.2))))) = some (r1,r2,r3,r4,r5,r6,r7):=H
 have A2:=aA.mk A20
 clear A20
 replace H:=lF H
 obtain ⟨⟨t598,t599,t600⟩,A30,H⟩:=H
 replace H:((spec_l1Int.f s0_0 t599 t600 (([0,1,1,1,2]:List Int))).bind fun bt604=>(if bt604.1 = 1 then ((spec_l1Below.f s0_0 bt604.2.1 bt604.2.2 24).bind fun bt608=>((spec_l1Int.f s0_0 bt608.2.1 bt608.2.2 (([0,1,256,999]:List Int))).bind fun bt614=>(some (t595,wrap64 (1 + t598),bt604.1,bt608.1,bt614.1,bt614.2.1,bt614.2.2)))) else (some (t595,wrap64 (1 + t598),bt604.1,0,0,bt604.2.1,bt604.2.2)))) = some (r1,r2,r3,r4,r5,r6,r7):=H
 have A3:=aA.mk A30
 clear A30
 obtain ⟨y601,hy601⟩:∃ y_:List Int,y_ = (([0,1,1,1,2]:List Int)):=⟨_,rfl⟩
 replace H:((spec_l1Int.f s0_0 t599 t600 y601).bind fun bt604=>(if bt604.1 = 1 then ((spec_l1Below.f s0_0 bt604.2.1 bt604.2.2 24).bind fun bt608=>((spec_l1Int.f s0_0 bt608.2.1 bt608.2.2 (([0,1,256,999]:List Int))).bind fun bt614=>(some (t595,wrap64 (1 + t598),bt604.1,bt608.1,bt614.1,bt614.2.1,bt614.2.2)))) else (some (t595,wrap64 (1 + t598),bt604.1,0,0,bt604.2.1,bt604.2.2)))) = some (r1,r2,r3,r4,r5,r6,r7):=by first|(rw [hy601];with_reducible exact H)|(have H2_:=(Option.bind_some _ _).symm.trans H;rw [hy601];with_reducible exact H2_)|(have H2_:=(Option.bind_some _ _).symm.trans H;with_reducible exact H2_)|with_reducible exact H|(rw [hy601];exact H)|exact H
 have Ny601:=aA.mk hy601
 clear hy601
 replace H:=lF H
 obtain ⟨⟨t604,t605,t606⟩,A40,H⟩:=H
 replace H:(if t604 = 1 then ((spec_l1Below.f s0_0 t605 t606 24).bind fun bt608=>((spec_l1Int.f s0_0 bt608.2.1 bt608.2.2 (([0,1,256,999]:List Int))).bind fun bt614=>(some (t595,wrap64 (1 + t598),t604,bt608.1,bt614.1,bt614.2.1,bt614.2.2)))) else (some (t595,wrap64 (1 + t598),t604,0,0,t605,t606))) = some (r1,r2,r3,r4,r5,r6,r7):=H
 have A4:=aA.mk A40
 clear A40
 by_cases c5:t604 = 1
 ·rw [if_pos c5] at H
  have c5b0:(t604 == 1) = true:=beq_iff_eq.mpr c5
  have c5b1:(t604 != 1) = false:=bne_eq_false_iff_eq.mpr c5
  clear c5
  replace H:=lF H
  obtain ⟨⟨t608,t609,t610⟩,A60,H⟩:=H
  replace H:((spec_l1Int.f s0_0 t609 t610 (([0,1,256,999]:List Int))).bind fun bt614=>(some (t595,wrap64 (1 + t598),t604,t608,bt614.1,bt614.2.1,bt614.2.2))) = some (r1,r2,r3,r4,r5,r6,r7):=H
  have A6:=aA.mk A60
  clear A60
  obtain ⟨y611,hy611⟩:∃ y_:List Int,y_ = (([0,1,256,999]:List Int)):=⟨_,rfl⟩
  replace H:((spec_l1Int.f s0_0 t609 t610 y611).bind fun bt614=>(some (t595,wrap64 (1 + t598),t604,t608,bt614.1,bt614.2.1,bt614.2.2))) = some (r1,r2,r3,r4,r5,r6,r7):=by first|(rw [hy611];with_reducible exact H)|(have H2_:=(Option.bind_some _ _).symm.trans H;rw [hy611];with_reducible exact H2_)|(have H2_:=(Option.bind_some _ _).symm.trans H;with_reducible exact H2_)|with_reducible exact H|(rw [hy611];exact H)|exact H
  have Ny611:=aA.mk hy611
  clear hy611
  replace H:=lF H
  obtain ⟨⟨t614,t615,t616⟩,A70,H⟩:=H
  replace H:(some (t595,wrap64 (1 + t598),t604,t608,t614,t615,t616)) = some (r1,r2,r3,r4,r5,r6,r7):=H
  have A7:=aA.mk A70
  clear A70
  simp only [Option.some.injEq,Prod.mk.injEq] at H
  obtain ⟨rfl,rfl,rfl,rfl,rfl,rfl,rfl⟩:=H
  go_enter Try.func76,Try.ntmps76
  go_wp2_with (first|((with_reducible refine aZ (N:=2) rfl ?_);refine bB ?hg (N:=2) ?hd (cs:=#[.int .i64 0,.int .i64 0,.int .i64 0,.int .i64 0,.int .i64 0]) (t:=38) ?hr ?_;(case hd=>rfl);(case hg=>rfl);(case hr=>exact tJ);intro gb594 hg w8 hbox hb;replace HB:=aA.mk (aQ vr hb);have BK594:=aA.mk (hbox);have GW594:=aA.mk ((by rw [hg];exact (keep_size (w:=w) (g:=g) (row:=none) tM):w.heap.size ≤ gb594));have GE594:=aA.mk ((Nat.le_trans HW0.out (by rw [hg];exact (keep_size (w:=w) (g:=g) (row:=none) tM):w.heap.size ≤ gb594):w0.heap.size ≤ gb594));replace HK:=aA.mk (KeepBut.trans tM (KeepBut.of_below hb g none) (.inl rfl));have NB0_594:=aA.mk ((by rw [hg];exact Nat.ne_of_lt (IsS92.lt (show IsS92 w0 _ g s0_0 s0_1 s0_2 from by repeat (first|(with_reducible first|exact HI0.out|apply IsS92.alloc|apply IsS92.drewN|apply IsS92.drew|apply IsS92.set_1|apply IsS92.set_2)|exact HI0.out))):g ≠ gb594));have NB594_0:=aA.mk ((by rw [hg];exact Nat.ne_of_gt (IsS92.lt (show IsS92 w0 _ g s0_0 s0_1 s0_2 from by repeat (first|(with_reducible first|exact HI0.out|apply IsS92.alloc|apply IsS92.drewN|apply IsS92.drew|apply IsS92.set_1|apply IsS92.set_2)|exact HI0.out))):gb594 ≠ g));replace HI0:=aA.mk (IsS92.below vR hb);clear hb hbox hg)|((with_reducible refine aY (f:=75) rfl ?_);refine goesL_ (some 5) rfl rfl Try.func75 tH rfl #[.pointer (some ⟨g,0,none⟩),.int .i64 4] rfl tA ?_;(with_reducible refine (spec_l1Below.calls g s0_0 s0_1 s0_2 4 t595 t596 t597 w0 _ ?side1 ?side2 A2.out).mono ?_);(case side1=>exact tk);(case side2=>exact t6);rintro e w9 ⟨rfl,hi,hb,hk⟩;refine ⟨_,rfl,?_⟩;replace BK594:=aA.mk (KeepBut.blk hk (g':=gb594) (o:=.cells #[.int .i64 0,.int .i64 0,.int .i64 0,.int .i64 0,.int .i64 0] 38 (0,0)) BK594.out NB594_0.out te);replace HK:=aA.mk (KeepBut.trans tL hk (.inl rfl));replace HB:=aA.mk (hb);replace HI0:=aA.mk (hi);(try clear hb);(try clear hk);(try clear hi))|((with_reducible refine aY (f:=75) rfl ?_);refine goesL_ (some 7) rfl rfl Try.func75 tH rfl #[.pointer (some ⟨g,0,none⟩),.int .i64 5] rfl tA ?_;(with_reducible refine (spec_l1Below.calls g s0_0 t596 t597 5 t598 t599 t600 w0 _ ?side1 ?side2 A3.out).mono ?_);(case side1=>exact tk);(case side2=>exact t6);rintro e w10 ⟨rfl,hi,hb,hk⟩;refine ⟨_,rfl,?_⟩;replace BK594:=aA.mk (KeepBut.blk hk (g':=gb594) (o:=.cells #[.int .i64 0,.int .i64 0,.int .i64 0,.int .i64 0,.int .i64 0] 38 (0,0)) BK594.out NB594_0.out te);replace HK:=aA.mk (KeepBut.trans tL hk (.inl rfl));replace HB:=aA.mk (hb);replace HI0:=aA.mk (hi);(try clear hb);(try clear hk);(try clear hi))|((with_reducible refine aZ (N:=10) rfl ?_);refine Kd.R_lit (Kd.int .i64) _ 3 ?hg (N:=10) ?hd (xs:=([0,1,1,1,2]:List Int)) (inner:=[.int .i64 0,.int .i64 1,.int .i64 1,.int .i64 1,.int .i64 2]) (ok:=fun _=>True) (okp:=fun _=>True) ?hr ?hp (fun _ hk=>hk) trivial (Below.refl _ _) (Nat.le_refl _) te ?_;(case hd=>rfl);(case hg=>rfl);(case hr=>exact tJ);(case hp=>exact wF);intro v602 w11 ho12 hb hg_ hnew_;clear hg_ hnew_;(first|rw [← Ny601.out] at ho12|(simp only [Int.reduceToNat] at ho12;rw [← Ny601.out] at ho12));have HO603:=aA.mk (Kd.R_lower ho12 (keep_size (w:=w) (g:=g) (row:=none) tL));replace BK594:=nB BK594;replace HK:=aA.mk (KeepBut.trans tL (KeepBut.of_below hb g none) (.inl rfl));replace HB:=aA.mk (aQ vV hb);replace HI0:=aA.mk (IsS92.below vD hb);clear hb ho12;obtain ⟨Ao13,co13,eo13⟩:=Kd.R_slice HO603.out;subst eo13)|((with_reducible refine aY (f:=98) rfl ?_);refine goesL_ (some 11) rfl rfl Try.func98 tH rfl #[.pointer (some ⟨g,0,none⟩),.slice Ao13 y601.length co13] rfl tA ?_;(with_reducible refine (spec_l1Int.calls g s0_0 t599 t600 _ _ y601 t604 t605 t606 w0 _ ?side1 ?side2 ?side3 ?side4 ?side5 A4.out).mono ?_);(case side1=>exact tk);(case side2=>exact t6);(case side3=>repeat (first|exact (Kd.R_reads' HO603.out).2.2|(with_reducible refine Kd.C_alloc ?_ _)|(with_reducible refine Kd.C_drewN ?_ _)|(with_reducible refine Kd.C_drew ?_)));(case side4=>exact (Kd.R_reads' HO603.out).2.1);(case side5=>exact far_slice (IsS92.own_ne HI0.out HO603.out tb));rintro e w14 ⟨rfl,hi,hb,hk⟩;refine ⟨_,rfl,?_⟩;replace BK594:=aA.mk (KeepBut.blk hk (g':=gb594) (o:=.cells #[.int .i64 0,.int .i64 0,.int .i64 0,.int .i64 0,.int .i64 0] 38 (0,0)) BK594.out NB594_0.out te);replace HO603:=aA.mk (Kd.bF (Kd.R_keep (IsS92.apart (show IsS92 w0 _ g s0_0 t599 t600 from by repeat (first|(with_reducible first|exact HI0.out|apply IsS92.alloc|apply IsS92.drewN|apply IsS92.drew|apply IsS92.set_1|apply IsS92.set_2|apply IsS92.far (hne:=NB0_594.out))|exact HI0.out)) HO603.out tb) hk (fun _ h=>h.2)) (fun _ h=>h.1));replace HK:=aA.mk (KeepBut.trans tL hk (.inl rfl));replace HB:=aA.mk (hb);replace HI0:=aA.mk (hi);(try clear hb);(try clear hk);(try clear hi))|((with_reducible refine aZ (N:=3) rfl ?_);refine bB ?hg (N:=3) ?hd (cs:=#[.int .i64 0,.int .i64 0,.int .i64 0,.int .i64 0,.int .i64 0]) (t:=38) ?hr ?_;(case hd=>rfl);(case hg=>rfl);(case hr=>exact tJ);intro gb607 hg w15 hbox hb;replace HO603:=nR HO603;replace HB:=aA.mk (aQ vV hb);have BK607:=aA.mk (hbox);have GW607:=aA.mk ((by rw [hg];exact (keep_size (w:=w) (g:=g) (row:=none) tL):w.heap.size ≤ gb607));have GE607:=aA.mk ((Nat.le_trans HW0.out (by rw [hg];exact (keep_size (w:=w) (g:=g) (row:=none) tL):w.heap.size ≤ gb607):w0.heap.size ≤ gb607));replace HK:=aA.mk (KeepBut.trans tL (KeepBut.of_below hb g none) (.inl rfl));have NB594_607:=nL BK594;have NB607_594:=nG BK594;replace BK594:=nB BK594;have NB0_607:=aA.mk ((by rw [hg];exact Nat.ne_of_lt (IsS92.lt (show IsS92 w0 _ g s0_0 t605 t606 from by repeat (first|(with_reducible first|exact HI0.out|apply IsS92.alloc|apply IsS92.drewN|apply IsS92.drew|apply IsS92.set_1|apply IsS92.set_2|apply IsS92.far (hne:=NB0_594.out))|exact HI0.out))):g ≠ gb607));have NB607_0:=aA.mk ((by rw [hg];exact Nat.ne_of_gt (IsS92.lt (show IsS92 w0 _ g s0_0 t605 t606 from by repeat (first|(with_reducible first|exact HI0.out|apply IsS92.alloc|apply IsS92.drewN|apply IsS92.drew|apply IsS92.set_1|apply IsS92.set_2|apply IsS92.far (hne:=NB0_594.out))|exact HI0.out))):gb607 ≠ g));replace HI0:=aA.mk (IsS92.below vD hb);clear hb hbox hg;have hnb16:=NB607_594.out;have hnc16:=NB594_607.out;have hnb17:=NB607_0.out;have hnc17:=NB0_607.out;obtain ⟨hcz18_0,hcz18_1,hcz18_2,hcz18_3,hcz18_4⟩:=cs5 BK607.out;obtain ⟨hfz18_0,hfz18_1,hfz18_2,hfz18_3,hfz18_4⟩:=fs5 BK607.out)|((with_reducible refine aY (f:=75) rfl ?_);refine goesL_ (some 17) rfl rfl Try.func75 tH rfl #[.pointer (some ⟨g,0,none⟩),.int .i64 24] rfl tA ?_;(with_reducible refine (spec_l1Below.calls g s0_0 t605 t606 24 t608 t609 t610 w0 _ ?side1 ?side2 A6.out).mono ?_);(case side1=>exact wj);(case side2=>exact AK);rintro e w19 ⟨rfl,hi,hb,hk⟩;refine ⟨_,rfl,?_⟩;replace BK594:=aA.mk (KeepBut.blk hk (g':=gb594) (o:=.cells #[.int .i64 0,.int .i64 0,.int .i64 0,.int .i64 0,.int .i64 0] 38 (0,0)) (by (with_reducible repeat (first|refine aG ?_ _|refine aH ?_|refine aE ?_ _));refine aV ?_ NB594_607.out _;(with_reducible repeat (first|refine aG ?_ _|refine aH ?_|refine aE ?_ _));refine aV ?_ NB594_607.out _;(with_reducible repeat (first|refine aG ?_ _|refine aH ?_|refine aE ?_ _));refine aV ?_ NB594_607.out _;(with_reducible repeat (first|refine aG ?_ _|refine aH ?_|refine aE ?_ _));refine aV ?_ NB594_607.out _;(with_reducible repeat (first|refine aG ?_ _|refine aH ?_|refine aE ?_ _));refine aV ?_ NB594_607.out _;(with_reducible repeat (first|refine aG ?_ _|refine aH ?_|refine aE ?_ _));exact BK594.out) NB594_0.out te);replace HO603:=aA.mk (Kd.bF (Kd.R_keep (IsS92.apart (show IsS92 w0 _ g s0_0 t605 t606 from by repeat (first|(with_reducible first|exact HI0.out|apply IsS92.alloc|apply IsS92.drewN|apply IsS92.drew|apply IsS92.set_1|apply IsS92.set_2|apply IsS92.far (hne:=NB0_594.out)|apply IsS92.far (hne:=NB0_607.out))|exact HI0.out)) (by (with_reducible repeat (first|apply Kd.bC|apply Kd.bD|apply Kd.bG));exact (Kd.bF (Kd.bJ (p:=⟨gb607,4,none⟩) (Kd.bJ (p:=⟨gb607,3,none⟩) (Kd.bJ (p:=⟨gb607,2,none⟩) (Kd.bJ (p:=⟨gb607,1,none⟩) (Kd.bJ (p:=⟨gb607,0,none⟩) (Kd.R_types HO603.out BK607.out tb) (fun _ hk=>hk.2) (.int .i64 t595)) (fun _ hk=>hk.2) (.int .i64 (wrap64 (1 + t598)))) (fun _ hk=>hk.2) (.int .i64 t604)) (fun _ hk=>hk.2) (.int .i64 0)) (fun _ hk=>hk.2) (.int .i64 0)) (fun _ h_=>h_.1))) tb) hk (fun _ h=>h.2)) (fun _ h=>h.1));replace BK607:=aA.mk (KeepBut.blk hk (g':=gb607) (o:=.cells #[.int .i64 t595,.int .i64 (wrap64 (1 + t598)),.int .i64 t604,.int .i64 0,.int .i64 0] 38 (0,0)) (by (with_reducible repeat (first|refine aG ?_ _|refine aH ?_|refine aE ?_ _));refine aT (cs:=#[.int .i64 t595,.int .i64 (wrap64 (1 + t598)),.int .i64 t604,.int .i64 0,.int .i64 0]) ?_ 4 _ rfl;(with_reducible repeat (first|refine aG ?_ _|refine aH ?_|refine aE ?_ _));refine aT (cs:=#[.int .i64 t595,.int .i64 (wrap64 (1 + t598)),.int .i64 t604,.int .i64 0,.int .i64 0]) ?_ 3 _ rfl;(with_reducible repeat (first|refine aG ?_ _|refine aH ?_|refine aE ?_ _));refine aT (cs:=#[.int .i64 t595,.int .i64 (wrap64 (1 + t598)),.int .i64 0,.int .i64 0,.int .i64 0]) ?_ 2 _ rfl;(with_reducible repeat (first|refine aG ?_ _|refine aH ?_|refine aE ?_ _));refine aT (cs:=#[.int .i64 t595,.int .i64 0,.int .i64 0,.int .i64 0,.int .i64 0]) ?_ 1 _ rfl;(with_reducible repeat (first|refine aG ?_ _|refine aH ?_|refine aE ?_ _));refine aT (cs:=#[.int .i64 0,.int .i64 0,.int .i64 0,.int .i64 0,.int .i64 0]) ?_ 0 _ rfl;(with_reducible repeat (first|refine aG ?_ _|refine aH ?_|refine aE ?_ _));exact BK607.out) NB607_0.out te);replace HK:=aA.mk (KeepBut.trans vN hk (.inl rfl));replace HB:=aA.mk (hb);replace HI0:=aA.mk (hi);(try clear hb);(try clear hk);(try clear hi);obtain ⟨hcz20_0,hcz20_1,hcz20_2,hcz20_3,hcz20_4⟩:=cs5 BK607.out;obtain ⟨hfz20_0,hfz20_1,hfz20_2,hfz20_3,hfz20_4⟩:=fs5 BK607.out)|((with_reducible refine aZ (N:=20) rfl ?_);refine Kd.R_lit (Kd.int .i64) _ 3 ?hg (N:=20) ?hd (xs:=([0,1,256,999]:List Int)) (inner:=[.int .i64 0,.int .i64 1,.int .i64 256,.int .i64 999]) (ok:=fun _=>True) (okp:=fun _=>True) ?hr ?hp (fun _ hk=>hk) trivial (Below.refl _ _) (Nat.le_refl _) te ?_;(case hd=>rfl);(case hg=>rfl);(case hr=>exact tJ);(case hp=>exact (Reps.one (show Kd.M (Kd.int .i64) _ _ _ 0 [.int .i64 0] from rfl) (Reps.one (show Kd.M (Kd.int .i64) _ _ _ 1 [.int .i64 1] from rfl) (Reps.one (show Kd.M (Kd.int .i64) _ _ _ 256 [.int .i64 256] from rfl) (Reps.one (show Kd.M (Kd.int .i64) _ _ _ 999 [.int .i64 999] from rfl) (Reps.none _ _))))));intro v612 w21 ho22 hb hg_ hnew_;clear hg_ hnew_;(first|rw [← Ny611.out] at ho22|(simp only [Int.reduceToNat] at ho22;rw [← Ny611.out] at ho22));have HO613:=aA.mk (Kd.R_lower (Kd.R_new' ho22 (Kd.R_lt wk)) (keep_size (w:=w) (g:=g) (row:=none) vN));replace HO603:=aA.mk (Kd.R_elder' wk (Kd.R_base ho22) hb);replace BK594:=aA.mk (blk_below (g:=gb594) (o:=.cells #[.int .i64 0,.int .i64 0,.int .i64 0,.int .i64 0,.int .i64 0] 38 (0,0)) (by (with_reducible repeat (first|refine aG ?_ _|refine aH ?_|refine aE ?_ _));refine aV ?_ NB594_607.out _;(with_reducible repeat (first|refine aG ?_ _|refine aH ?_|refine aE ?_ _));exact BK594.out) hb);replace BK607:=aA.mk (blk_below (g:=gb607) (o:=.cells #[.int .i64 t595,.int .i64 (wrap64 (1 + t598)),.int .i64 t604,.int .i64 t608,.int .i64 0] 38 (0,0)) (by (with_reducible repeat (first|refine aG ?_ _|refine aH ?_|refine aE ?_ _));refine aT (cs:=#[.int .i64 t595,.int .i64 (wrap64 (1 + t598)),.int .i64 t604,.int .i64 0,.int .i64 0]) ?_ 3 _ rfl;(with_reducible repeat (first|refine aG ?_ _|refine aH ?_|refine aE ?_ _));exact BK607.out) hb);replace HK:=aA.mk (KeepBut.trans vN (KeepBut.of_below hb g none) (.inl rfl));replace HB:=aA.mk (aQ (by repeat (first|(with_reducible first|exact HB.out|apply aK|apply aC|apply aJ|refine aD ?_ (IsS92.ge HI0.out)|refine aD ?_ GE594.out|refine aD ?_ GE607.out)|exact HB.out)) hb);replace HI0:=aA.mk (IsS92.below (show IsS92 w0 (w19.setCell ⟨gb607,3,none⟩ (.int .i64 t608)) g s0_0 t609 t610 from by repeat (first|(with_reducible first|exact HI0.out|apply IsS92.alloc|apply IsS92.drewN|apply IsS92.drew|apply IsS92.set_1|apply IsS92.set_2|apply IsS92.far (hne:=NB0_594.out)|apply IsS92.far (hne:=NB0_607.out))|exact HI0.out)) hb);clear hb ho22;obtain ⟨Ao23,co23,eo23⟩:=Kd.R_slice HO613.out;subst eo23)|((with_reducible refine aY (f:=98) rfl ?_);refine goesL_ (some 21) rfl rfl Try.func98 tH rfl #[.pointer (some ⟨g,0,none⟩),.slice Ao23 y611.length co23] rfl tA ?_;(with_reducible refine (spec_l1Int.calls g s0_0 t609 t610 _ _ y611 t614 t615 t616 w0 _ ?side1 ?side2 ?side3 ?side4 ?side5 A7.out).mono ?_);(case side1=>exact wj);(case side2=>exact AK);(case side3=>repeat (first|exact (Kd.R_reads' HO613.out).2.2|(with_reducible refine Kd.C_alloc ?_ _)|(with_reducible refine Kd.C_drewN ?_ _)|(with_reducible refine Kd.C_drew ?_)));(case side4=>exact (Kd.R_reads' HO613.out).2.1);(case side5=>exact far_slice (IsS92.own_ne HI0.out HO613.out tb));rintro e w24 ⟨rfl,hi,hb,hk⟩;refine ⟨_,rfl,?_⟩;replace BK594:=aA.mk (KeepBut.blk hk (g':=gb594) (o:=.cells #[.int .i64 0,.int .i64 0,.int .i64 0,.int .i64 0,.int .i64 0] 38 (0,0)) BK594.out NB594_0.out te);replace HO603:=aA.mk (Kd.bF (Kd.R_keep (IsS92.apart (show IsS92 w0 _ g s0_0 t609 t610 from by repeat (first|(with_reducible first|exact HI0.out|apply IsS92.alloc|apply IsS92.drewN|apply IsS92.drew|apply IsS92.set_1|apply IsS92.set_2|apply IsS92.far (hne:=NB0_594.out)|apply IsS92.far (hne:=NB0_607.out))|exact HI0.out)) HO603.out tb) hk (fun _ h=>h.2)) (fun _ h=>h.1));replace BK607:=aA.mk (KeepBut.blk hk (g':=gb607) (o:=.cells #[.int .i64 t595,.int .i64 (wrap64 (1 + t598)),.int .i64 t604,.int .i64 t608,.int .i64 0] 38 (0,0)) BK607.out NB607_0.out te);replace HO613:=aA.mk (Kd.bF (Kd.R_keep (IsS92.apart (show IsS92 w0 _ g s0_0 t609 t610 from by repeat (first|(with_reducible first|exact HI0.out|apply IsS92.alloc|apply IsS92.drewN|apply IsS92.drew|apply IsS92.set_1|apply IsS92.set_2|apply IsS92.far (hne:=NB0_594.out)|apply IsS92.far (hne:=NB0_607.out))|exact HI0.out)) HO613.out tb) hk (fun _ h=>h.2)) (fun _ h=>h.1));replace HK:=aA.mk (KeepBut.trans vN hk (.inl rfl));replace HB:=aA.mk (hb);replace HI0:=aA.mk (hi);(try clear hb);(try clear hk);(try clear hi);obtain ⟨hcz25_0,hcz25_1,hcz25_2,hcz25_3,hcz25_4⟩:=cs5 BK607.out;obtain ⟨hfz25_0,hfz25_1,hfz25_2,hfz25_3,hfz25_4⟩:=fs5 BK607.out;have hnb26:=NB594_0.out;have hnc26:=NB0_594.out;obtain ⟨hcz27_0,hcz27_1,hcz27_2,hcz27_3,hcz27_4⟩:=cs5 BK594.out;obtain ⟨hfz27_0,hfz27_1,hfz27_2,hfz27_3,hfz27_4⟩:=fs5 BK594.out))
  refine bodyPost_ret (results_cell_row rfl _ _ gb594 38 #[.int .i64 t595,.int .i64 (wrap64 (1 + t598)),.int .i64 t604,.int .i64 t608,.int .i64 t614] (0,0) _ rfl (by (with_reducible repeat (first|refine aG ?_ _|refine aH ?_|refine aE ?_ _));refine aT (cs:=#[.int .i64 t595,.int .i64 (wrap64 (1 + t598)),.int .i64 t604,.int .i64 t608,.int .i64 0]) ?_ 4 _ rfl;(with_reducible repeat (first|refine aG ?_ _|refine aH ?_|refine aE ?_ _));refine aT (cs:=#[.int .i64 t595,.int .i64 (wrap64 (1 + t598)),.int .i64 t604,.int .i64 0,.int .i64 0]) ?_ 3 _ rfl;(with_reducible repeat (first|refine aG ?_ _|refine aH ?_|refine aE ?_ _));refine aT (cs:=#[.int .i64 t595,.int .i64 (wrap64 (1 + t598)),.int .i64 0,.int .i64 0,.int .i64 0]) ?_ 2 _ rfl;(with_reducible repeat (first|refine aG ?_ _|refine aH ?_|refine aE ?_ _));refine aT (cs:=#[.int .i64 t595,.int .i64 0,.int .i64 0,.int .i64 0,.int .i64 0]) ?_ 1 _ rfl;(with_reducible repeat (first|refine aG ?_ _|refine aH ?_|refine aE ?_ _));refine aT (cs:=#[.int .i64 0,.int .i64 0,.int .i64 0,.int .i64 0,.int .i64 0]) ?_ 0 _ rfl;(with_reducible repeat (first|refine aG ?_ _|refine aH ?_|refine aE ?_ _));refine aV ?_ NB594_607.out _;(with_reducible repeat (first|refine aG ?_ _|refine aH ?_|refine aE ?_ _));exact BK594.out) Try.underlying38 rfl tH) rfl ?_
  exact vF
 ·rw [if_neg c5] at H
  have c5b0:(t604 == 1) = false:=beq_eq_false_iff_ne.mpr c5
  have c5b1:(t604 != 1) = true:=bne_iff_ne.mpr c5
  simp only [Option.some.injEq,Prod.mk.injEq] at H
  obtain ⟨rfl,rfl,rfl,rfl,rfl,rfl,rfl⟩:=H
  go_enter Try.func76,Try.ntmps76
  go_wp2_with (first|((with_reducible refine aZ (N:=2) rfl ?_);refine bB ?hg (N:=2) ?hd (cs:=#[.int .i64 0,.int .i64 0,.int .i64 0,.int .i64 0,.int .i64 0]) (t:=38) ?hr ?_;(case hd=>rfl);(case hg=>rfl);(case hr=>exact tJ);intro gb594 hg w28 hbox hb;replace HB:=aA.mk (aQ vr hb);have BK594:=aA.mk (hbox);have GW594:=aA.mk ((by rw [hg];exact (keep_size (w:=w) (g:=g) (row:=none) tM):w.heap.size ≤ gb594));have GE594:=aA.mk ((Nat.le_trans HW0.out (by rw [hg];exact (keep_size (w:=w) (g:=g) (row:=none) tM):w.heap.size ≤ gb594):w0.heap.size ≤ gb594));replace HK:=aA.mk (KeepBut.trans tM (KeepBut.of_below hb g none) (.inl rfl));have NB0_594:=aA.mk ((by rw [hg];exact Nat.ne_of_lt (IsS92.lt (show IsS92 w0 _ g s0_0 s0_1 s0_2 from by repeat (first|(with_reducible first|exact HI0.out|apply IsS92.alloc|apply IsS92.drewN|apply IsS92.drew|apply IsS92.set_1|apply IsS92.set_2)|exact HI0.out))):g ≠ gb594));have NB594_0:=aA.mk ((by rw [hg];exact Nat.ne_of_gt (IsS92.lt (show IsS92 w0 _ g s0_0 s0_1 s0_2 from by repeat (first|(with_reducible first|exact HI0.out|apply IsS92.alloc|apply IsS92.drewN|apply IsS92.drew|apply IsS92.set_1|apply IsS92.set_2)|exact HI0.out))):gb594 ≠ g));replace HI0:=aA.mk (IsS92.below vR hb);clear hb hbox hg)|((with_reducible refine aY (f:=75) rfl ?_);refine goesL_ (some 5) rfl rfl Try.func75 tH rfl #[.pointer (some ⟨g,0,none⟩),.int .i64 4] rfl tA ?_;(with_reducible refine (spec_l1Below.calls g s0_0 s0_1 s0_2 4 t595 t596 t597 w0 _ ?side1 ?side2 A2.out).mono ?_);(case side1=>exact tk);(case side2=>exact t6);rintro e w29 ⟨rfl,hi,hb,hk⟩;refine ⟨_,rfl,?_⟩;replace BK594:=aA.mk (KeepBut.blk hk (g':=gb594) (o:=.cells #[.int .i64 0,.int .i64 0,.int .i64 0,.int .i64 0,.int .i64 0] 38 (0,0)) BK594.out NB594_0.out te);replace HK:=aA.mk (KeepBut.trans tL hk (.inl rfl));replace HB:=aA.mk (hb);replace HI0:=aA.mk (hi);(try clear hb);(try clear hk);(try clear hi))|((with_reducible refine aY (f:=75) rfl ?_);refine goesL_ (some 7) rfl rfl Try.func75 tH rfl #[.pointer (some ⟨g,0,none⟩),.int .i64 5] rfl tA ?_;(with_reducible refine (spec_l1Below.calls g s0_0 t596 t597 5 t598 t599 t600 w0 _ ?side1 ?side2 A3.out).mono ?_);(case side1=>exact tk);(case side2=>exact t6);rintro e w30 ⟨rfl,hi,hb,hk⟩;refine ⟨_,rfl,?_⟩;replace BK594:=aA.mk (KeepBut.blk hk (g':=gb594) (o:=.cells #[.int .i64 0,.int .i64 0,.int .i64 0,.int .i64 0,.int .i64 0] 38 (0,0)) BK594.out NB594_0.out te);replace HK:=aA.mk (KeepBut.trans tL hk (.inl rfl));replace HB:=aA.mk (hb);replace HI0:=aA.mk (hi);(try clear hb);(try clear hk);(try clear hi))|((with_reducible refine aZ (N:=10) rfl ?_);refine Kd.R_lit (Kd.int .i64) _ 3 ?hg (N:=10) ?hd (xs:=([0,1,1,1,2]:List Int)) (inner:=[.int .i64 0,.int .i64 1,.int .i64 1,.int .i64 1,.int .i64 2]) (ok:=fun _=>True) (okp:=fun _=>True) ?hr ?hp (fun _ hk=>hk) trivial (Below.refl _ _) (Nat.le_refl _) te ?_;(case hd=>rfl);(case hg=>rfl);(case hr=>exact tJ);(case hp=>exact wF);intro v602 w31 ho32 hb hg_ hnew_;clear hg_ hnew_;(first|rw [← Ny601.out] at ho32|(simp only [Int.reduceToNat] at ho32;rw [← Ny601.out] at ho32));have HO603:=aA.mk (Kd.R_lower ho32 (keep_size (w:=w) (g:=g) (row:=none) tL));replace BK594:=nB BK594;replace HK:=aA.mk (KeepBut.trans tL (KeepBut.of_below hb g none) (.inl rfl));replace HB:=aA.mk (aQ vV hb);replace HI0:=aA.mk (IsS92.below vD hb);clear hb ho32;obtain ⟨Ao33,co33,eo33⟩:=Kd.R_slice HO603.out;subst eo33)|((with_reducible refine aY (f:=98) rfl ?_);refine goesL_ (some 11) rfl rfl Try.func98 tH rfl #[.pointer (some ⟨g,0,none⟩),.slice Ao33 y601.length co33] rfl tA ?_;(with_reducible refine (spec_l1Int.calls g s0_0 t599 t600 _ _ y601 t604 t605 t606 w0 _ ?side1 ?side2 ?side3 ?side4 ?side5 A4.out).mono ?_);(case side1=>exact tk);(case side2=>exact t6);(case side3=>repeat (first|exact (Kd.R_reads' HO603.out).2.2|(with_reducible refine Kd.C_alloc ?_ _)|(with_reducible refine Kd.C_drewN ?_ _)|(with_reducible refine Kd.C_drew ?_)));(case side4=>exact (Kd.R_reads' HO603.out).2.1);(case side5=>exact far_slice (IsS92.own_ne HI0.out HO603.out tb));rintro e w34 ⟨rfl,hi,hb,hk⟩;refine ⟨_,rfl,?_⟩;replace BK594:=aA.mk (KeepBut.blk hk (g':=gb594) (o:=.cells #[.int .i64 0,.int .i64 0,.int .i64 0,.int .i64 0,.int .i64 0] 38 (0,0)) BK594.out NB594_0.out te);replace HO603:=aA.mk (Kd.bF (Kd.R_keep (IsS92.apart (show IsS92 w0 _ g s0_0 t599 t600 from by repeat (first|(with_reducible first|exact HI0.out|apply IsS92.alloc|apply IsS92.drewN|apply IsS92.drew|apply IsS92.set_1|apply IsS92.set_2|apply IsS92.far (hne:=NB0_594.out))|exact HI0.out)) HO603.out tb) hk (fun _ h=>h.2)) (fun _ h=>h.1));replace HK:=aA.mk (KeepBut.trans tL hk (.inl rfl));replace HB:=aA.mk (hb);replace HI0:=aA.mk (hi);(try clear hb);(try clear hk);(try clear hi))|((with_reducible refine aZ (N:=3) rfl ?_);refine bB ?hg (N:=3) ?hd (cs:=#[.int .i64 0,.int .i64 0,.int .i64 0,.int .i64 0,.int .i64 0]) (t:=38) ?hr ?_;(case hd=>rfl);(case hg=>rfl);(case hr=>exact tJ);intro gb607 hg w35 hbox hb;replace HO603:=nR HO603;replace HB:=aA.mk (aQ vV hb);have BK607:=aA.mk (hbox);have GW607:=aA.mk ((by rw [hg];exact (keep_size (w:=w) (g:=g) (row:=none) tL):w.heap.size ≤ gb607));have GE607:=aA.mk ((Nat.le_trans HW0.out (by rw [hg];exact (keep_size (w:=w) (g:=g) (row:=none) tL):w.heap.size ≤ gb607):w0.heap.size ≤ gb607));replace HK:=aA.mk (KeepBut.trans tL (KeepBut.of_below hb g none) (.inl rfl));have NB594_607:=nL BK594;have NB607_594:=nG BK594;replace BK594:=nB BK594;have NB0_607:=aA.mk ((by rw [hg];exact Nat.ne_of_lt (IsS92.lt (show IsS92 w0 _ g s0_0 t605 t606 from by repeat (first|(with_reducible first|exact HI0.out|apply IsS92.alloc|apply IsS92.drewN|apply IsS92.drew|apply IsS92.set_1|apply IsS92.set_2|apply IsS92.far (hne:=NB0_594.out))|exact HI0.out))):g ≠ gb607));have NB607_0:=aA.mk ((by rw [hg];exact Nat.ne_of_gt (IsS92.lt (show IsS92 w0 _ g s0_0 t605 t606 from by repeat (first|(with_reducible first|exact HI0.out|apply IsS92.alloc|apply IsS92.drewN|apply IsS92.drew|apply IsS92.set_1|apply IsS92.set_2|apply IsS92.far (hne:=NB0_594.out))|exact HI0.out))):gb607 ≠ g));replace HI0:=aA.mk (IsS92.below vD hb);clear hb hbox hg;have hnb36:=NB607_594.out;have hnc36:=NB594_607.out;have hnb37:=NB607_0.out;have hnc37:=NB0_607.out;obtain ⟨hcz38_0,hcz38_1,hcz38_2,hcz38_3,hcz38_4⟩:=cs5 BK607.out;obtain ⟨hfz38_0,hfz38_1,hfz38_2,hfz38_3,hfz38_4⟩:=fs5 BK607.out;have hnb39:=NB594_0.out;have hnc39:=NB0_594.out;obtain ⟨hcz40_0,hcz40_1,hcz40_2,hcz40_3,hcz40_4⟩:=cs5 BK594.out;obtain ⟨hfz40_0,hfz40_1,hfz40_2,hfz40_3,hfz40_4⟩:=fs5 BK594.out))
  refine bodyPost_ret (results_cell_row rfl _ _ gb594 38 #[.int .i64 t595,.int .i64 (wrap64 (1 + t598)),.int .i64 t604,.int .i64 0,.int .i64 0] (0,0) _ rfl (by (with_reducible repeat (first|refine aG ?_ _|refine aH ?_|refine aE ?_ _));refine aT (cs:=#[.int .i64 t595,.int .i64 (wrap64 (1 + t598)),.int .i64 t604,.int .i64 0,.int .i64 0]) ?_ 4 _ rfl;(with_reducible repeat (first|refine aG ?_ _|refine aH ?_|refine aE ?_ _));refine aT (cs:=#[.int .i64 t595,.int .i64 (wrap64 (1 + t598)),.int .i64 t604,.int .i64 0,.int .i64 0]) ?_ 3 _ rfl;(with_reducible repeat (first|refine aG ?_ _|refine aH ?_|refine aE ?_ _));refine aT (cs:=#[.int .i64 t595,.int .i64 (wrap64 (1 + t598)),.int .i64 0,.int .i64 0,.int .i64 0]) ?_ 2 _ rfl;(with_reducible repeat (first|refine aG ?_ _|refine aH ?_|refine aE ?_ _));refine aT (cs:=#[.int .i64 t595,.int .i64 0,.int .i64 0,.int .i64 0,.int .i64 0]) ?_ 1 _ rfl;(with_reducible repeat (first|refine aG ?_ _|refine aH ?_|refine aE ?_ _));refine aT (cs:=#[.int .i64 0,.int .i64 0,.int .i64 0,.int .i64 0,.int .i64 0]) ?_ 0 _ rfl;(with_reducible repeat (first|refine aG ?_ _|refine aH ?_|refine aE ?_ _));refine aV ?_ NB594_607.out _;(with_reducible repeat (first|refine aG ?_ _|refine aH ?_|refine aE ?_ _));refine aV ?_ NB594_607.out _;(with_reducible repeat (first|refine aG ?_ _|refine aH ?_|refine aE ?_ _));refine aV ?_ NB594_607.out _;(with_reducible repeat (first|refine aG ?_ _|refine aH ?_|refine aE ?_ _));refine aV ?_ NB594_607.out _;(with_reducible repeat (first|refine aG ?_ _|refine aH ?_|refine aE ?_ _));refine aV ?_ NB594_607.out _;(with_reducible repeat (first|refine aG ?_ _|refine aH ?_|refine aE ?_ _));exact BK594.out) Try.underlying38 rfl tH) rfl ?_
  exact vF
def spec_l6Key.f (s0_0:List Int) (s0_1:Int) (s0_2:Int):Option (Int × Int × Int × Int × Int × Int × Int):=(spec_l3Draw.f s0_0 s0_1 s0_2).bind fun bt618=>((spec_l1Below.f s0_0 bt618.2.2.2.2.2.1 bt618.2.2.2.2.2.2 12).bind fun bt626=>(some (bt626.1,bt618.2.1,bt618.2.2.1,bt618.2.2.2.1,bt618.2.2.2.2.1,bt626.2.1,bt626.2.2)))
set_option maxHeartbeats 8000000 in
set_option maxRecDepth 100000 in
theorem spec_l6Key.calls (g:Nat) (s0_0:List Int) (s0_1:Int) (s0_2:Int) (r1:Int) (r2:Int) (r3:Int) (r4:Int) (r5:Int) (r6:Int) (r7:Int) (w0 w:World) (hI:IsS92 w0 w g s0_0 s0_1 s0_2) (hB:Below w0.heap.size w0 w) (h:spec_l6Key.f s0_0 s0_1 s0_2 = some (r1,r2,r3,r4,r5,r6,r7)) :
  Calls Try.prog 43 #[.pointer (some ⟨g,0,none⟩)] w fun e w'=>e = .returned (.agg #[.int .i64 r1,.int .i64 r2,.int .i64 r3,.int .i64 r4,.int .i64 r5]) ∧ IsS92 w0 w' g s0_0 r6 r7 ∧ Below w0.heap.size w0 w' ∧ KeepBut w w' g none:=by
 have hu38:=Try.underlying38
 have HI0:=aA.mk hI
 have HK:=aA.mk (KeepBut.refl w g none)
 have HL:=aA.mk hB.size
 clear hI
 have HW0:=aA.mk hB.size
 have HB:=aA.mk hB
 clear hB
 have H:((spec_l3Draw.f s0_0 s0_1 s0_2).bind fun bt618=>((spec_l1Below.f s0_0 bt618.2.2.2.2.2.1 bt618.2.2.2.2.2.2 12).bind fun bt626=>(some (bt626.1,bt618.2.1,bt618.2.2.1,bt618.2.2.2.1,bt618.2.2.2.2.1,bt626.2.1,bt626.2.2)))) = some (r1,r2,r3,r4,r5,r6,r7):=h
 clear h
 replace H:=lF H
 obtain ⟨⟨t618,t619,t620,t621,t622,t623,t624⟩,A20,H⟩:=H
 replace H:((spec_l1Below.f s0_0 t623 t624 12).bind fun bt626=>(some (bt626.1,t619,t620,t621,t622,bt626.2.1,bt626.2.2))) = some (r1,r2,r3,r4,r5,r6,r7):=H
 have A2:=aA.mk A20
 clear A20
 replace H:=lF H
 obtain ⟨⟨t626,t627,t628⟩,A30,H⟩:=H
 replace H:(some (t626,t619,t620,t621,t622,t627,t628)) = some (r1,r2,r3,r4,r5,r6,r7):=H
 have A3:=aA.mk A30
 clear A30
 simp only [Option.some.injEq,Prod.mk.injEq] at H
 obtain ⟨rfl,rfl,rfl,rfl,rfl,rfl,rfl⟩:=H
 go_enter Try.func43,Try.ntmps43
 go_wp2_with (first|((with_reducible refine aZ (N:=2) rfl ?_);refine bB ?hg (N:=2) ?hd (cs:=#[.int .i64 0,.int .i64 0,.int .i64 0,.int .i64 0,.int .i64 0]) (t:=38) ?hr ?_;(case hd=>rfl);(case hg=>rfl);(case hr=>exact tJ);intro gb617 hg w4 hbox hb;replace HB:=aA.mk (aQ vr hb);have BK617:=aA.mk (hbox);have GW617:=aA.mk ((by rw [hg];exact (keep_size (w:=w) (g:=g) (row:=none) tM):w.heap.size ≤ gb617));have GE617:=aA.mk ((Nat.le_trans HW0.out (by rw [hg];exact (keep_size (w:=w) (g:=g) (row:=none) tM):w.heap.size ≤ gb617):w0.heap.size ≤ gb617));replace HK:=aA.mk (KeepBut.trans tM (KeepBut.of_below hb g none) (.inl rfl));have NB0_617:=aA.mk ((by rw [hg];exact Nat.ne_of_lt (IsS92.lt (show IsS92 w0 _ g s0_0 s0_1 s0_2 from by repeat (first|(with_reducible first|exact HI0.out|apply IsS92.alloc|apply IsS92.drewN|apply IsS92.drew|apply IsS92.set_1|apply IsS92.set_2)|exact HI0.out))):g ≠ gb617));have NB617_0:=aA.mk ((by rw [hg];exact Nat.ne_of_gt (IsS92.lt (show IsS92 w0 _ g s0_0 s0_1 s0_2 from by repeat (first|(with_reducible first|exact HI0.out|apply IsS92.alloc|apply IsS92.drewN|apply IsS92.drew|apply IsS92.set_1|apply IsS92.set_2)|exact HI0.out))):gb617 ≠ g));replace HI0:=aA.mk (IsS92.below vR hb);clear hb hbox hg)|((with_reducible refine aY (f:=76) rfl ?_);refine goesL_ (some 5) rfl rfl Try.func76 tH rfl #[.pointer (some ⟨g,0,none⟩)] rfl tA ?_;(with_reducible refine (spec_l3Draw.calls g s0_0 s0_1 s0_2 t618 t619 t620 t621 t622 t623 t624 w0 _ ?side1 ?side2 A2.out).mono ?_);(case side1=>repeat (first|(with_reducible first|exact HI0.out|apply IsS92.alloc|apply IsS92.drewN|apply IsS92.drew|apply IsS92.set_1|apply IsS92.set_2|apply IsS92.far (hne:=NB0_617.out))|exact HI0.out));(case side2=>repeat (first|(with_reducible first|exact HB.out|apply aK|apply aC|apply aJ|refine aD ?_ (IsS92.ge HI0.out)|refine aD ?_ GE617.out)|exact HB.out));rintro e w5 ⟨rfl,hi,hb,hk⟩;refine ⟨_,rfl,?_⟩;replace BK617:=aA.mk (KeepBut.blk hk (g':=gb617) (o:=.cells #[.int .i64 0,.int .i64 0,.int .i64 0,.int .i64 0,.int .i64 0] 38 (0,0)) BK617.out NB617_0.out te);replace HK:=aA.mk (KeepBut.trans vk hk (.inl rfl));replace HB:=aA.mk (hb);replace HI0:=aA.mk (hi);(try clear hb);(try clear hk);(try clear hi))|((with_reducible refine aZ (N:=3) rfl ?_);refine bB ?hg (N:=3) ?hd (cs:=#[.int .i64 0,.int .i64 0,.int .i64 0,.int .i64 0,.int .i64 0]) (t:=38) ?hr ?_;(case hd=>rfl);(case hg=>rfl);(case hr=>exact tJ);intro gb625 hg w6 hbox hb;replace HB:=aA.mk (aQ (by repeat (first|(with_reducible first|exact HB.out|apply aK|apply aC|apply aJ|refine aD ?_ (IsS92.ge HI0.out)|refine aD ?_ GE617.out)|exact HB.out)) hb);have BK625:=aA.mk (hbox);have GW625:=aA.mk ((by rw [hg];exact (keep_size (w:=w) (g:=g) (row:=none) vk):w.heap.size ≤ gb625));have GE625:=aA.mk ((Nat.le_trans HW0.out (by rw [hg];exact (keep_size (w:=w) (g:=g) (row:=none) vk):w.heap.size ≤ gb625):w0.heap.size ≤ gb625));replace HK:=aA.mk (KeepBut.trans vk (KeepBut.of_below hb g none) (.inl rfl));have NB617_625:=nL BK617;have NB625_617:=nG BK617;replace BK617:=nB BK617;have NB0_625:=aA.mk ((by rw [hg];exact Nat.ne_of_lt (IsS92.lt (show IsS92 w0 _ g s0_0 t623 t624 from by repeat (first|(with_reducible first|exact HI0.out|apply IsS92.alloc|apply IsS92.drewN|apply IsS92.drew|apply IsS92.set_1|apply IsS92.set_2|apply IsS92.far (hne:=NB0_617.out))|exact HI0.out))):g ≠ gb625));have NB625_0:=aA.mk ((by rw [hg];exact Nat.ne_of_gt (IsS92.lt (show IsS92 w0 _ g s0_0 t623 t624 from by repeat (first|(with_reducible first|exact HI0.out|apply IsS92.alloc|apply IsS92.drewN|apply IsS92.drew|apply IsS92.set_1|apply IsS92.set_2|apply IsS92.far (hne:=NB0_617.out))|exact HI0.out))):gb625 ≠ g));replace HI0:=aA.mk (IsS92.below (by repeat (first|(with_reducible first|exact HI0.out|apply IsS92.alloc|apply IsS92.drewN|apply IsS92.drew|apply IsS92.set_1|apply IsS92.set_2|apply IsS92.far (hne:=NB0_617.out))|exact HI0.out)) hb);clear hb hbox hg;have hnb7:=NB625_617.out;have hnc7:=NB617_625.out;have hnb8:=NB625_0.out;have hnc8:=NB0_625.out;obtain ⟨hcz9_0,hcz9_1,hcz9_2,hcz9_3,hcz9_4⟩:=cs5 BK625.out;obtain ⟨hfz9_0,hfz9_1,hfz9_2,hfz9_3,hfz9_4⟩:=fs5 BK625.out)|((with_reducible refine aY (f:=75) rfl ?_);refine goesL_ (some 7) rfl rfl Try.func75 tH rfl #[.pointer (some ⟨g,0,none⟩),.int .i64 12] rfl tA ?_;(with_reducible refine (spec_l1Below.calls g s0_0 t623 t624 12 t626 t627 t628 w0 _ ?side1 ?side2 A3.out).mono ?_);(case side1=>repeat (first|(with_reducible first|exact HI0.out|apply IsS92.alloc|apply IsS92.drewN|apply IsS92.drew|apply IsS92.set_1|apply IsS92.set_2|apply IsS92.far (hne:=NB0_617.out)|apply IsS92.far (hne:=NB0_625.out))|exact HI0.out));(case side2=>repeat (first|(with_reducible first|exact HB.out|apply aK|apply aC|apply aJ|refine aD ?_ (IsS92.ge HI0.out)|refine aD ?_ GE617.out|refine aD ?_ GE625.out)|exact HB.out));rintro e w10 ⟨rfl,hi,hb,hk⟩;refine ⟨_,rfl,?_⟩;replace BK617:=aA.mk (KeepBut.blk hk (g':=gb617) (o:=.cells #[.int .i64 0,.int .i64 0,.int .i64 0,.int .i64 0,.int .i64 0] 38 (0,0)) (by (with_reducible repeat (first|refine aG ?_ _|refine aH ?_|refine aE ?_ _));refine aV ?_ NB617_625.out _;(with_reducible repeat (first|refine aG ?_ _|refine aH ?_|refine aE ?_ _));refine aV ?_ NB617_625.out _;(with_reducible repeat (first|refine aG ?_ _|refine aH ?_|refine aE ?_ _));refine aV ?_ NB617_625.out _;(with_reducible repeat (first|refine aG ?_ _|refine aH ?_|refine aE ?_ _));refine aV ?_ NB617_625.out _;(with_reducible repeat (first|refine aG ?_ _|refine aH ?_|refine aE ?_ _));refine aV ?_ NB617_625.out _;(with_reducible repeat (first|refine aG ?_ _|refine aH ?_|refine aE ?_ _));exact BK617.out) NB617_0.out te);replace BK625:=aA.mk (KeepBut.blk hk (g':=gb625) (o:=.cells #[.int .i64 t618,.int .i64 t619,.int .i64 t620,.int .i64 t621,.int .i64 t622] 38 (0,0)) (by (with_reducible repeat (first|refine aG ?_ _|refine aH ?_|refine aE ?_ _));refine aT (cs:=#[.int .i64 t618,.int .i64 t619,.int .i64 t620,.int .i64 t621,.int .i64 0]) ?_ 4 _ rfl;(with_reducible repeat (first|refine aG ?_ _|refine aH ?_|refine aE ?_ _));refine aT (cs:=#[.int .i64 t618,.int .i64 t619,.int .i64 t620,.int .i64 0,.int .i64 0]) ?_ 3 _ rfl;(with_reducible repeat (first|refine aG ?_ _|refine aH ?_|refine aE ?_ _));refine aT (cs:=#[.int .i64 t618,.int .i64 t619,.int .i64 0,.int .i64 0,.int .i64 0]) ?_ 2 _ rfl;(with_reducible repeat (first|refine aG ?_ _|refine aH ?_|refine aE ?_ _));refine aT (cs:=#[.int .i64 t618,.int .i64 0,.int .i64 0,.int .i64 0,.int .i64 0]) ?_ 1 _ rfl;(with_reducible repeat (first|refine aG ?_ _|refine aH ?_|refine aE ?_ _));refine aT (cs:=#[.int .i64 0,.int .i64 0,.int .i64 0,.int .i64 0,.int .i64 0]) ?_ 0 _ rfl;(with_reducible repeat (first|refine aG ?_ _|refine aH ?_|refine aE ?_ _));exact BK625.out) NB625_0.out te);replace HK:=aA.mk (KeepBut.trans (by repeat (first|(with_reducible first|exact HK.out|apply KeepBut.set_|apply aW|apply bA|apply aX|refine bE ?_ GW617.out _|refine bE ?_ GW625.out _)|exact HK.out)) hk (.inl rfl));replace HB:=aA.mk (hb);replace HI0:=aA.mk (hi);(try clear hb);(try clear hk);(try clear hi);obtain ⟨hcz11_0,hcz11_1,hcz11_2,hcz11_3,hcz11_4⟩:=cs5 BK625.out;obtain ⟨hfz11_0,hfz11_1,hfz11_2,hfz11_3,hfz11_4⟩:=fs5 BK625.out;have hnb12:=NB617_0.out;have hnc12:=NB0_617.out;obtain ⟨hcz13_0,hcz13_1,hcz13_2,hcz13_3,hcz13_4⟩:=cs5 BK617.out;obtain ⟨hfz13_0,hfz13_1,hfz13_2,hfz13_3,hfz13_4⟩:=fs5 BK617.out))
 refine bodyPost_ret (results_cell_row rfl _ _ gb617 38 #[.int .i64 t626,.int .i64 t619,.int .i64 t620,.int .i64 t621,.int .i64 t622] (0,0) _ rfl (by (with_reducible repeat (first|refine aG ?_ _|refine aH ?_|refine aE ?_ _));refine aT (cs:=#[.int .i64 t626,.int .i64 t619,.int .i64 t620,.int .i64 t621,.int .i64 0]) ?_ 4 _ rfl;(with_reducible repeat (first|refine aG ?_ _|refine aH ?_|refine aE ?_ _));refine aT (cs:=#[.int .i64 t626,.int .i64 t619,.int .i64 t620,.int .i64 0,.int .i64 0]) ?_ 3 _ rfl;(with_reducible repeat (first|refine aG ?_ _|refine aH ?_|refine aE ?_ _));refine aT (cs:=#[.int .i64 t626,.int .i64 t619,.int .i64 0,.int .i64 0,.int .i64 0]) ?_ 2 _ rfl;(with_reducible repeat (first|refine aG ?_ _|refine aH ?_|refine aE ?_ _));refine aT (cs:=#[.int .i64 t626,.int .i64 0,.int .i64 0,.int .i64 0,.int .i64 0]) ?_ 1 _ rfl;(with_reducible repeat (first|refine aG ?_ _|refine aH ?_|refine aE ?_ _));refine aT (cs:=#[.int .i64 0,.int .i64 0,.int .i64 0,.int .i64 0,.int .i64 0]) ?_ 0 _ rfl;(with_reducible repeat (first|refine aG ?_ _|refine aH ?_|refine aE ?_ _));refine aV ?_ NB617_625.out _;(with_reducible repeat (first|refine aG ?_ _|refine aH ?_|refine aE ?_ _));exact BK617.out) Try.underlying38 rfl tH) rfl ?_
 exact ⟨tC,by repeat (first|(with_reducible first|exact HI0.out|apply IsS92.alloc|apply IsS92.drewN|apply IsS92.drew|apply IsS92.set_1|apply IsS92.set_2|apply IsS92.far (hne:=NB0_617.out)|apply IsS92.far (hne:=NB0_625.out))|exact HI0.out),by repeat (first|(with_reducible first|exact HB.out|apply aK|apply aC|apply aJ|refine aD ?_ (IsS92.ge HI0.out)|refine aD ?_ GE617.out|refine aD ?_ GE625.out)|exact HB.out),by repeat (first|(with_reducible first|exact HK.out|apply KeepBut.set_|apply aW|apply bA|apply aX|refine bE ?_ GW617.out _|refine bE ?_ GW625.out _)|exact HK.out)⟩
def spec_TreeNew.f :Option (List Int × (List (S59))):=some ((([0]:List Int)),(([(⟨([]:List (List (S38)))⟩:S59)]:List (S59))))
set_option maxHeartbeats 8000000 in
set_option maxRecDepth 100000 in
theorem spec_TreeNew.calls  (r1:List Int) (r2:List (S59)) (w:World) (h:spec_TreeNew.f  = some (r1,r2)) :
  Calls Try.prog 74 #[] w fun e w'=>∃ v0_ v1_:Value,e = .returned (.agg #[v0_,v1_]) ∧ Kd.R (Kd.int .i64) 3 w' w.heap.size (fun _=>True) v0_ r1 ∧ Kd.R k59 59 w' w.heap.size (fun _=>True) v1_ r2 ∧ Below w.heap.size w w':=by
 have hu29:=Try.underlying29
 have hu59:=Try.underlying59
 have HB:=aA.mk (Below.refl w.heap.size w)
 have H:(some ((([0]:List Int)),(([(⟨([]:List (List (S38)))⟩:S59)]:List (S59))))) = some (r1,r2):=h
 clear h
 obtain ⟨y630,hy630⟩:∃ y_:List Int,y_ = (([0]:List Int)):=⟨_,rfl⟩
 replace H:(some (y630,(([(⟨([]:List (List (S38)))⟩:S59)]:List (S59))))) = some (r1,r2):=by first|(rw [hy630];with_reducible exact H)|(have H2_:=(Option.bind_some _ _).symm.trans H;rw [hy630];with_reducible exact H2_)|(have H2_:=(Option.bind_some _ _).symm.trans H;with_reducible exact H2_)|with_reducible exact H|(rw [hy630];exact H)|exact H
 have Ny630:=aA.mk hy630
 clear hy630
 obtain ⟨y633,hy633⟩:∃ y_:List (S59),y_ = (([(⟨([]:List (List (S38)))⟩:S59)]:List (S59))):=⟨_,rfl⟩
 replace H:(some (y630,y633)) = some (r1,r2):=by first|(rw [hy633];with_reducible exact H)|(have H2_:=(Option.bind_some _ _).symm.trans H;rw [hy633];with_reducible exact H2_)|(have H2_:=(Option.bind_some _ _).symm.trans H;with_reducible exact H2_)|with_reducible exact H|(rw [hy633];exact H)|exact H
 have Ny633:=aA.mk hy633
 clear hy633
 simp only [Option.some.injEq,Prod.mk.injEq] at H
 obtain ⟨rfl,rfl⟩:=H
 go_enter Try.func74,Try.ntmps74
 go_wp2_with (first|((with_reducible refine aZ (N:=0) rfl ?_);refine bB ?hg (N:=0) ?hd (cs:=#[.slice none 0 0,.slice none 0 0]) (t:=29) ?hr ?_;(case hd=>rfl);(case hg=>rfl);(case hr=>exact tJ);intro gb629 hg w1 hbox hb;have BK629:=aA.mk (hbox);have GW629:=aA.mk ((by rw [hg];exact (aM HB.out):w.heap.size ≤ gb629));have GE629:=aA.mk ((by rw [hg];exact (aM HB.out):w.heap.size ≤ gb629));replace HB:=aA.mk (aQ HB.out hb);clear hb hbox hg)|((with_reducible refine aZ (N:=1) rfl ?_);refine Kd.R_lit (Kd.int .i64) _ 3 ?hg (N:=1) ?hd (xs:=([0]:List Int)) (inner:=[.int .i64 0]) (ok:=fun _=>True) (okp:=fun _=>True) ?hr ?hp (fun _ hk=>hk) trivial (Below.refl _ _) (Nat.le_refl _) te ?_;(case hd=>rfl);(case hg=>rfl);(case hr=>exact tJ);(case hp=>exact (Reps.one (show Kd.M (Kd.int .i64) _ _ _ 0 [.int .i64 0] from rfl) (Reps.none _ _)));intro v631 w2 ho3 hb hg_ hnew_;clear hg_ hnew_;(first|rw [← Ny630.out] at ho3|(simp only [Int.reduceToNat] at ho3;rw [← Ny630.out] at ho3));have HO632:=aA.mk (Kd.R_lower ho3 (aM HB.out));replace BK629:=nB BK629;replace HB:=aA.mk (aQ HB.out hb);clear hb ho3)|((with_reducible refine aZ (N:=3) rfl ?_);refine Kd.R_lit k59 _ 59 ?hg (N:=3) ?hd (xs:=([(⟨([]:List (List (S38)))⟩:S59)]:List (S59))) (inner:=[.slice none 0 0]) (ok:=fun _=>True) (okp:=fun _=>True) ?hr ?hp (fun _ hk=>hk) trivial (Below.refl _ _) (Nat.le_refl _) te ?_;(case hd=>rfl);(case hg=>rfl);(case hr=>exact tJ);(case hp=>exact AH);intro v634 w4 ho5 hb hg_ hnew_;clear hg_ hnew_;(first|rw [← Ny633.out] at ho5|(simp only [Int.reduceToNat] at ho5;rw [← Ny633.out] at ho5));replace HO632:=nR HO632;have HO635:=aA.mk (Kd.R_lower ho5 (aM HB.out));replace BK629:=nB BK629;replace HB:=aA.mk (aQ HB.out hb);clear hb ho5;obtain ⟨Ao6,co6,eo6⟩:=Kd.R_slice HO635.out;subst eo6;obtain ⟨Ao7,co7,eo7⟩:=Kd.R_slice HO632.out;subst eo7;obtain ⟨hcz8_0,hcz8_1⟩:=cs2 BK629.out;obtain ⟨hfz8_0,hfz8_1⟩:=fs2 BK629.out))
 refine bodyPost_ret (results_cell_row rfl _ _ gb629 29 #[.slice Ao7 y630.length co7,.slice Ao6 y633.length co6] (0,0) _ rfl (by (with_reducible repeat (first|refine aG ?_ _|refine aH ?_|refine aE ?_ _));refine aT (cs:=#[.slice Ao7 y630.length co7,.slice none 0 0]) ?_ 1 _ rfl;(with_reducible repeat (first|refine aG ?_ _|refine aH ?_|refine aE ?_ _));refine aT (cs:=#[.slice none 0 0,.slice none 0 0]) ?_ 0 _ rfl;(with_reducible repeat (first|refine aG ?_ _|refine aH ?_|refine aE ?_ _));exact BK629.out) Try.underlying29 rfl tH) rfl ?_
 exact ⟨_,_,tC,by (with_reducible repeat (first|apply Kd.bC|apply Kd.bD|apply Kd.bG));exact Kd.bF (Kd.bJ (p:=⟨gb629,1,none⟩) (Kd.bJ (p:=⟨gb629,0,none⟩) (Kd.R_types HO632.out BK629.out tb) (fun _ hk=>hk.2) (.slice Ao7 y630.length co7)) (fun _ hk=>hk.2) (.slice Ao6 y633.length co6)) (fun _ hk=>trivial),by (with_reducible repeat (first|apply Kd.bC|apply Kd.bD|apply Kd.bG));exact Kd.bF (Kd.bJ (p:=⟨gb629,1,none⟩) (Kd.bJ (p:=⟨gb629,0,none⟩) (Kd.R_types HO635.out BK629.out tb) (fun _ hk=>hk.2) (.slice Ao7 y630.length co7)) (fun _ hk=>hk.2) (.slice Ao6 y633.length co6)) (fun _ hk=>trivial),by repeat (first|(with_reducible first|exact HB.out|apply aK|apply aC|apply aJ|refine aD ?_ GE629.out)|exact HB.out)⟩
def spec_l6Draw.l0:Nat → Int → List Int → Int → Int → List Int → List (S59) → Option (List Int × (List (S59)) × Int × Int)
 | 0,_,_,_,_,_,_=>none
 | k + 1,x6,x1000,x1001,x1002,x644000,x644001=>if x6 > 0 then ((spec_l6Key.f x1000 x1001 x1002).bind fun bt647=>((spec_TreePut.f k x644000 x644001 bt647.1 bt647.2.1 bt647.2.2.1 bt647.2.2.2.1 bt647.2.2.2.2.1).bind fun bt654=>(spec_l6Draw.l0 k (wrap64 (x6 - 1)) x1000 bt647.2.2.2.2.2.1 bt647.2.2.2.2.2.2 bt654.1 bt654.2.1))) else (some (x644000,x644001,x1001,x1002))
def spec_l6Draw.f (k:Nat) (s0_0:List Int) (s0_1:Int) (s0_2:Int) (a1:Int):Option (List Int × (List (S59)) × Int × Int):=(spec_TreeNew.f).bind fun bt637=>((spec_l1Below.f s0_0 s0_1 s0_2 (wrap64 (a1 + 1))).bind fun bt644=>(spec_l6Draw.l0 k bt644.1 s0_0 bt644.2.1 bt644.2.2 bt637.1 bt637.2))
def spec_l6Draw.T5:Bool × List (List Nat × List Nat):=(true,[([],[]),([],[]),([1],[1]),([0,2,2],[0,2]),([3],[3]),([4],[4]),([4],[4]),([5,3,0,1,2,3,4,5],[5])])
def spec_l6Draw.B5:List Nat:=[0,0,2,7,15,31,31,63]
theorem spec_l6Draw.tab5:rtab .any (opsOf Try.f41 5) = spec_l6Draw.T5:=by kernel_rfl
theorem spec_l6Draw.bits5:waitsOk spec_l6Draw.T5.2 spec_l6Draw.B5 = true:=by kernel_rfl
set_option maxHeartbeats 8000000 in
set_option maxRecDepth 100000 in
theorem spec_l6Draw.calls (k:Nat) (g:Nat) (s0_0:List Int) (s0_1:Int) (s0_2:Int) (a1:Int) (r1:List Int) (r2:List (S59)) (r3:Int) (r4:Int) (w0 w:World) (hI:IsS92 w0 w g s0_0 s0_1 s0_2) (hB:Below w0.heap.size w0 w) (h:spec_l6Draw.f k s0_0 s0_1 s0_2 a1 = some (r1,r2,r3,r4)) :
  Calls Try.prog 41 #[.pointer (some ⟨g,0,none⟩),.int .i64 a1] w fun e w'=>∃ v0_ v1_:Value,e = .returned (.agg #[v0_,v1_]) ∧ Kd.V (Kd.int .i64) 3 w' w.heap.size (fun k_=>(w.heap.size ≤ k_)) v0_ r1 ∧ Kd.V k59 59 w' w.heap.size (fun k_=>(w.heap.size ≤ k_)) v1_ r2 ∧ IsS92 w0 w' g s0_0 r3 r4 ∧ Below w0.heap.size w0 w' ∧ KeepBut w w' g none:=by
 have hu29:=Try.underlying29
 have HI0:=aA.mk hI
 have HK:=aA.mk (KeepBut.refl w g none)
 have HL:=aA.mk hB.size
 clear hI
 have HW0:=aA.mk hB.size
 have HB:=aA.mk hB
 clear hB
 have H:((spec_TreeNew.f).bind fun bt637=>((spec_l1Below.f s0_0 s0_1 s0_2 (wrap64 (a1 + 1))).bind fun bt644=>(spec_l6Draw.l0 k bt644.1 s0_0 bt644.2.1 bt644.2.2 bt637.1 bt637.2))) = some (r1,r2,r3,r4):=h
 clear h
 replace H:=lF H
 obtain ⟨⟨t637,t640⟩,A30,H⟩:=H
 replace H:((spec_l1Below.f s0_0 s0_1 s0_2 (wrap64 (a1 + 1))).bind fun bt644=>(spec_l6Draw.l0 k bt644.1 s0_0 bt644.2.1 bt644.2.2 t637 t640)) = some (r1,r2,r3,r4):=H
 have A3:=aA.mk A30
 clear A30
 replace H:=lF H
 obtain ⟨⟨t644,t645,t646⟩,A40,H⟩:=H
 replace H:(spec_l6Draw.l0 k t644 s0_0 t645 t646 t637 t640) = some (r1,r2,r3,r4):=H
 have A4:=aA.mk A40
 clear A40
 have H':=aA.mk H
 clear H
 go_enter Try.func41,Try.ntmps41
 go_wp2_with (first|((with_reducible refine aZ (N:=4) rfl ?_);refine bB ?hg (N:=4) ?hd (cs:=#[.slice none 0 0,.slice none 0 0]) (t:=29) ?hr ?_;(case hd=>rfl);(case hg=>rfl);(case hr=>exact tJ);intro gb636 hg w5 hbox hb;replace HB:=aA.mk (aQ vr hb);have BK636:=aA.mk (hbox);have GW636:=aA.mk ((by rw [hg];exact (keep_size (w:=w) (g:=g) (row:=none) tM):w.heap.size ≤ gb636));have GE636:=aA.mk ((Nat.le_trans HW0.out (by rw [hg];exact (keep_size (w:=w) (g:=g) (row:=none) tM):w.heap.size ≤ gb636):w0.heap.size ≤ gb636));replace HK:=aA.mk (KeepBut.trans tM (KeepBut.of_below hb g none) (.inl rfl));have NB0_636:=aA.mk ((by rw [hg];exact Nat.ne_of_lt (IsS92.lt (show IsS92 w0 _ g s0_0 s0_1 s0_2 from by repeat (first|(with_reducible first|exact HI0.out|apply IsS92.alloc|apply IsS92.drewN|apply IsS92.drew|apply IsS92.set_1|apply IsS92.set_2)|exact HI0.out))):g ≠ gb636));have NB636_0:=aA.mk ((by rw [hg];exact Nat.ne_of_gt (IsS92.lt (show IsS92 w0 _ g s0_0 s0_1 s0_2 from by repeat (first|(with_reducible first|exact HI0.out|apply IsS92.alloc|apply IsS92.drewN|apply IsS92.drew|apply IsS92.set_1|apply IsS92.set_2)|exact HI0.out))):gb636 ≠ g));replace HI0:=aA.mk (IsS92.below vR hb);clear hb hbox hg)|((with_reducible refine aY (f:=74) rfl ?_);refine goesL_ (some 7) rfl rfl Try.func74 tH rfl #[] rfl tA ?_;(with_reducible refine (spec_TreeNew.calls  t637 t640 _ A3.out).mono ?_);rintro e w6 ⟨v638,v641,rfl,ho0,ho1,hb⟩;refine ⟨_,rfl,?_⟩;have HO639:=aA.mk (Kd.R_lower (Kd.R_newM (M:=fun k_=>(w.heap.size ≤ k_)) ho0 (keep_size (w:=w) (g:=g) (row:=none) th) (fun k_ h_=>h_)) (keep_size (w:=w) (g:=g) (row:=none) th));have HO642:=aA.mk (Kd.R_lower (Kd.R_newM (M:=fun k_=>(w.heap.size ≤ k_)) ho1 (keep_size (w:=w) (g:=g) (row:=none) th) (fun k_ h_=>h_)) (keep_size (w:=w) (g:=g) (row:=none) th));replace BK636:=nB BK636;replace HK:=aA.mk (KeepBut.trans th (KeepBut.of_below hb g none) (.inl rfl));replace HB:=aA.mk (aQ (by repeat (first|(with_reducible first|exact HB.out|apply aK|apply aC|apply aJ|refine aD ?_ (IsS92.ge HI0.out)|refine aD ?_ GE636.out)|exact HB.out)) hb);replace HI0:=aA.mk (IsS92.below wn hb);(try clear hb);(try clear hk);(try clear hi);(try clear ho0);(try clear ho1))|((with_reducible refine aZ (N:=5) rfl ?_);refine bB ?hg (N:=5) ?hd (cs:=#[.slice none 0 0,.slice none 0 0]) (t:=29) ?hr ?_;(case hd=>rfl);(case hg=>rfl);(case hr=>exact tJ);intro gb643 hg w7 hbox hb;replace HO639:=nR HO639;replace HO642:=nR HO642;replace HB:=aA.mk (aQ (by repeat (first|(with_reducible first|exact HB.out|apply aK|apply aC|apply aJ|refine aD ?_ (IsS92.ge HI0.out)|refine aD ?_ GE636.out)|exact HB.out)) hb);have BK643:=aA.mk (hbox);have GW643:=aA.mk ((by rw [hg];exact (keep_size (w:=w) (g:=g) (row:=none) th):w.heap.size ≤ gb643));have GE643:=aA.mk ((Nat.le_trans HW0.out (by rw [hg];exact (keep_size (w:=w) (g:=g) (row:=none) th):w.heap.size ≤ gb643):w0.heap.size ≤ gb643));replace HK:=aA.mk (KeepBut.trans th (KeepBut.of_below hb g none) (.inl rfl));have NB636_643:=nL BK636;have NB643_636:=nG BK636;replace BK636:=nB BK636;have NB0_643:=aA.mk ((by rw [hg];exact Nat.ne_of_lt (IsS92.lt (show IsS92 w0 _ g s0_0 s0_1 s0_2 from by repeat (first|(with_reducible first|exact HI0.out|apply IsS92.alloc|apply IsS92.drewN|apply IsS92.drew|apply IsS92.set_1|apply IsS92.set_2|apply IsS92.far (hne:=NB0_636.out))|exact HI0.out))):g ≠ gb643));have NB643_0:=aA.mk ((by rw [hg];exact Nat.ne_of_gt (IsS92.lt (show IsS92 w0 _ g s0_0 s0_1 s0_2 from by repeat (first|(with_reducible first|exact HI0.out|apply IsS92.alloc|apply IsS92.drewN|apply IsS92.drew|apply IsS92.set_1|apply IsS92.set_2|apply IsS92.far (hne:=NB0_636.out))|exact HI0.out))):gb643 ≠ g));replace HI0:=aA.mk (IsS92.below wn hb);clear hb hbox hg;obtain ⟨Ao8,co8,eo8⟩:=Kd.R_slice HO639.out;subst eo8;have hnb9:=NB643_636.out;have hnc9:=NB636_643.out;have hnb10:=NB643_0.out;have hnc10:=NB0_643.out;obtain ⟨hcz11_0,hcz11_1⟩:=cs2 BK643.out;obtain ⟨hfz11_0,hfz11_1⟩:=fs2 BK643.out;obtain ⟨Ao12,co12,eo12⟩:=Kd.R_slice HO642.out;subst eo12)|((with_reducible refine aY (f:=75) rfl ?_);refine goesL_ (some 11) rfl rfl Try.func75 tH rfl #[.pointer (some ⟨g,0,none⟩),.int .i64 (wrap64 (a1 + 1))] rfl tA ?_;(with_reducible refine (spec_l1Below.calls g s0_0 s0_1 s0_2 (wrap64 (a1 + 1)) t644 t645 t646 w0 _ ?side1 ?side2 A4.out).mono ?_);(case side1=>exact wh);(case side2=>exact AJ);rintro e w13 ⟨rfl,hi,hb,hk⟩;refine ⟨_,rfl,?_⟩;replace BK636:=aA.mk (KeepBut.blk hk (g':=gb636) (o:=.cells #[.slice none 0 0,.slice none 0 0] 29 (0,0)) (by (with_reducible repeat (first|refine aG ?_ _|refine aH ?_|refine aE ?_ _));refine aV ?_ NB636_643.out _;(with_reducible repeat (first|refine aG ?_ _|refine aH ?_|refine aE ?_ _));refine aV ?_ NB636_643.out _;(with_reducible repeat (first|refine aG ?_ _|refine aH ?_|refine aE ?_ _));exact BK636.out) NB636_0.out te);replace HO639:=aA.mk (Kd.bF (Kd.R_keep (IsS92.apart (show IsS92 w0 _ g s0_0 s0_1 s0_2 from by repeat (first|(with_reducible first|exact HI0.out|apply IsS92.alloc|apply IsS92.drewN|apply IsS92.drew|apply IsS92.set_1|apply IsS92.set_2|apply IsS92.far (hne:=NB0_636.out)|apply IsS92.far (hne:=NB0_643.out))|exact HI0.out)) (by (with_reducible repeat (first|apply Kd.bC|apply Kd.bD|apply Kd.bG));exact (Kd.bF (Kd.bJ (p:=⟨gb643,1,none⟩) (Kd.bJ (p:=⟨gb643,0,none⟩) (Kd.R_types HO639.out BK643.out tb) (fun _ hk=>hk.2) (.slice Ao8 t637.length co8)) (fun _ hk=>hk.2) (.slice Ao12 t640.length co12)) (fun _ h_=>h_.1))) tb) hk (fun _ h=>h.2)) (fun _ h=>h.1));replace HO642:=aA.mk (Kd.bF (Kd.R_keep (IsS92.apart (show IsS92 w0 _ g s0_0 s0_1 s0_2 from by repeat (first|(with_reducible first|exact HI0.out|apply IsS92.alloc|apply IsS92.drewN|apply IsS92.drew|apply IsS92.set_1|apply IsS92.set_2|apply IsS92.far (hne:=NB0_636.out)|apply IsS92.far (hne:=NB0_643.out))|exact HI0.out)) (by (with_reducible repeat (first|apply Kd.bC|apply Kd.bD|apply Kd.bG));exact (Kd.bF (Kd.bJ (p:=⟨gb643,1,none⟩) (Kd.bJ (p:=⟨gb643,0,none⟩) (Kd.R_types HO642.out BK643.out tb) (fun _ hk=>hk.2) (.slice Ao8 t637.length co8)) (fun _ hk=>hk.2) (.slice Ao12 t640.length co12)) (fun _ h_=>h_.1))) tb) hk (fun _ h=>h.2)) (fun _ h=>h.1));replace BK643:=aA.mk (KeepBut.blk hk (g':=gb643) (o:=.cells #[.slice Ao8 t637.length co8,.slice Ao12 t640.length co12] 29 (0,0)) (by (with_reducible repeat (first|refine aG ?_ _|refine aH ?_|refine aE ?_ _));refine aT (cs:=#[.slice Ao8 t637.length co8,.slice none 0 0]) ?_ 1 _ rfl;(with_reducible repeat (first|refine aG ?_ _|refine aH ?_|refine aE ?_ _));refine aT (cs:=#[.slice none 0 0,.slice none 0 0]) ?_ 0 _ rfl;(with_reducible repeat (first|refine aG ?_ _|refine aH ?_|refine aE ?_ _));exact BK643.out) NB643_0.out te);replace HK:=aA.mk (KeepBut.trans tf hk (.inl rfl));replace HB:=aA.mk (hb);replace HI0:=aA.mk (hi);(try clear hb);(try clear hk);(try clear hi)))
 go_loopg [6] k (fun kq v6 w'=>∃ (x6_1:Int) (x1001_1:Int) (x1002_1:Int) (x644000_1:List Int) (x644001_1:List (S59)) (u644000:Value) (u644001:Value),v6 = .int .i64 x6_1 ∧ aA (spec_l6Draw.l0 kq x6_1 s0_0 x1001_1 x1002_1 x644000_1 x644001_1 = some (r1,r2,r3,r4)) ∧ aA (kq ≤ k) ∧ aA (Kd.V (Kd.int .i64) 3 w' w.heap.size (fun k_=>(w.heap.size ≤ k_) ∧ k_ ≠ gb636 ∧ k_ ≠ gb643 ∧ k_ ≠ g) u644000 x644000_1) ∧ aA (Kd.V k59 59 w' w.heap.size (fun k_=>(w.heap.size ≤ k_) ∧ k_ ≠ gb636 ∧ k_ ≠ gb643 ∧ k_ ≠ g) u644001 x644001_1) ∧ aA (w'.heap[gb636]? = some (.cells #[(.slice none 0 0),(.slice none 0 0)] 29 (0,0))) ∧ aA (w'.heap[gb643]? = some (.cells #[u644000,u644001] 29 (0,0))) ∧ aA (IsS92 w0 w' g s0_0 x1001_1 x1002_1) ∧ aA (KeepBut w w' g none) ∧ aA (Below w0.heap.size w0 w'))
 case atStart=>exact ⟨(t644),(t645),(t646),(t637),(t640),(.slice Ao8 t637.length co8),(.slice Ao12 t640.length co12),tG,H',⟨Nat.le_refl _⟩,⟨Kd.R_V (by (with_reducible repeat (first|apply Kd.bC|apply Kd.bD|apply Kd.bG));exact Kd.bF (IsS92.apart HI0.out (Kd.R_types (Kd.R_types HO639.out BK636.out tb) BK643.out tb) tb) (fun _ hk=>⟨hk.1.1.1.1,⟨hk.1.1.2,⟨hk.1.2,hk.2⟩⟩⟩))⟩,⟨Kd.R_V (by (with_reducible repeat (first|apply Kd.bC|apply Kd.bD|apply Kd.bG));exact Kd.bF (IsS92.apart HI0.out (Kd.R_types (Kd.R_types HO642.out BK636.out tb) BK643.out tb) tb) (fun _ hk=>⟨hk.1.1.1.1,⟨hk.1.1.2,⟨hk.1.2,hk.2⟩⟩⟩))⟩,⟨by (with_reducible repeat (first|refine aG ?_ _|refine aH ?_|refine aE ?_ _));exact BK636.out⟩,⟨by (with_reducible repeat (first|refine aG ?_ _|refine aH ?_|refine aE ?_ _));exact BK643.out⟩,⟨vm⟩,⟨wC⟩,⟨v8⟩⟩
 case round =>
  clear H'
  try clear c1
  try clear p2
  try clear c4
  try clear p6
  try clear c7
  try clear c9
  try clear c10
  try clear hcz11_0
  try clear hcz11_1
  try clear hfz11_0
  try clear hfz11_1
  obtain ⟨x6_1,x1001_1,x1002_1,x644000_1,x644001_1,u644000,u644001,rfl,HA,HK1,HO_644000,HO_644001,BK636,BK643,HI0,HK,HB⟩:=hrel
  cases gk with
  | zero=>exact absurd HA.out (by simp [spec_l6Draw.l0])
  | succ k1 =>
   have H:=HA.out
   clear HA
   simp only [spec_l6Draw.l0] at H
   by_cases c14:x6_1 > 0
   ·rw [if_pos c14] at H
    have c14b0:decide (0 < x6_1) = true:=decide_eq_true c14
    clear c14
    replace H:=lF H
    obtain ⟨⟨t647,t648,t649,t650,t651,t652,t653⟩,A150,H⟩:=H
    replace H:((spec_TreePut.f k1 x644000_1 x644001_1 t647 t648 t649 t650 t651).bind fun bt654=>(spec_l6Draw.l0 k1 (wrap64 (x6_1 - 1)) s0_0 t652 t653 bt654.1 bt654.2.1)) = some (r1,r2,r3,r4):=H
    have A15:=aA.mk A150
    clear A150
    replace H:=lF H
    obtain ⟨⟨t654,t657,t660⟩,A160,H⟩:=H
    replace H:(spec_l6Draw.l0 k1 (wrap64 (x6_1 - 1)) s0_0 t652 t653 t654 t657) = some (r1,r2,r3,r4):=H
    have A16:=aA.mk A160
    clear A160
    have H':=aA.mk H
    clear H
    try go_wp2
    replace HO_644000:=aA.mk (Kd.V_drew HO_644000.out)
    replace HO_644001:=aA.mk (Kd.V_drew HO_644001.out)
    replace BK636:=aA.mk (aH BK636.out)
    replace BK643:=aA.mk (aH BK643.out)
    replace HI0:=aA.mk (IsS92.drew HI0.out)
    replace HK:=aA.mk (bA HK.out)
    replace HB:=aA.mk (aJ HB.out)
    refine start_ (n:=8) (S:=fun w'=>w'.cell? ⟨gb643,0,none⟩ = some (u644000) ∧ w'.cell? ⟨gb643,1,none⟩ = some (u644001)) (ds:=[7]) #[F0,F0,F0,F0,F0,F0,F0,F0] tH rfl rfl ⟨(aN BK643.out 0).trans rfl,(aN BK643.out 1).trans rfl⟩ (fun hHeld=>?_);refine with_tabW spec_l6Draw.tab5 spec_l6Draw.bits5 (fun HT_ HW_=>?_)
    generalize wr.drew = w17 at HO_644000 HO_644001 BK636 BK643 HI0 HK HB hHeld ⊢
    refine pu (i:=1) (N:=some 18) (bq1 2 8) ?_
    refine tu2 (i:=0) (N:=some 17) (bq1 3 8) ?_
    refine one_ (i:=2) (N:=some 19) (bq1 7 8) rfl rfl (one_of HT_.out tH) tb (fun K hK=>?_)
    refine goes_ Try.func43 tH rfl #[.pointer (some ⟨g,0,none⟩)] vH rfl rfl tA ?_
    with_reducible refine (spec_l6Key.calls g s0_0 x1001_1 x1002_1 t647 t648 t649 t650 t651 t652 t653 w0 _ ?side1 ?side2 A15.out).mono ?_
    (case side1=>exact wh)
    (case side2=>exact AJ)
    rintro e w18 ⟨rfl,hi,hb,hk⟩
    refine ⟨_,rfl,?_⟩
    replace HO_644000:=aA.mk (Kd.V_mono (Kd.V_keep (Kd.V_mono (ok:=fun k_=>(((w.heap.size ≤ k_)) ∧ (k_ ≠ gb636 ∧ (k_ ≠ gb643 ∧ k_ ≠ g)))) HO_644000.out (fun k_ hk_=>(⟨hk_,hk_.2.2.2⟩:_ ∧ k_ ≠ g))) hk (fun _ h=>h.2)) (fun _ h=>h.1))
    replace HO_644001:=aA.mk (Kd.V_mono (Kd.V_keep (Kd.V_mono (ok:=fun k_=>(((w.heap.size ≤ k_)) ∧ (k_ ≠ gb636 ∧ (k_ ≠ gb643 ∧ k_ ≠ g)))) HO_644001.out (fun k_ hk_=>(⟨hk_,hk_.2.2.2⟩:_ ∧ k_ ≠ g))) hk (fun _ h=>h.2)) (fun _ h=>h.1))
    replace BK636:=aA.mk (KeepBut.blk hk (g':=gb636) (o:=.cells #[.slice none 0 0,.slice none 0 0] 29 (0,0)) BK636.out NB636_0.out te)
    replace BK643:=aA.mk (KeepBut.blk hk (g':=gb643) (o:=.cells #[u644000,u644001] 29 (0,0)) BK643.out NB643_0.out te)
    replace HK:=aA.mk (KeepBut.trans tf hk (.inl rfl))
    replace HB:=aA.mk (hb)
    replace HI0:=aA.mk (hi)
    (try clear hb)
    (try clear hb2)
    (try clear hk)
    (try clear hi)
    obtain ⟨Ao19,co19,eo19⟩:=Kd.V_slice HO_644000.out
    (first|subst eo19|(injection eo19 with f1_ f2_ f3_;have f4_:=f1_.symm;have f5_:=f3_.symm;clear f1_ f2_ f3_;subst f4_;subst f5_))
    obtain ⟨Ao20,co20,eo20⟩:=Kd.V_slice HO_644001.out
    (first|subst eo20|(injection eo20 with f1_ f2_ f3_;have f4_:=f1_.symm;have f5_:=f3_.symm;clear f1_ f2_ f3_;subst f4_;subst f5_))
    refine hK.out _ _ ⟨(aN BK643.out 0).trans rfl,(aN BK643.out 1).trans rfl⟩ (fun hHeld=>?_)
    clear hK K
    refine norm_ (a':=?_) ?_ ?_
    rotate_left
    ·show Act.put _ (some 19) _ = _
     simp only [Act.put,lA,lB,lC,i64_w,i32_w]
     rfl
    refine one_ (i:=3) (N:=some 20) (bq1 15 8) rfl rfl (one_of HT_.out tH) tb (fun K hK=>?_)
    refine goes_ Try.func21 tH rfl #[.agg #[.slice Ao19 x644000_1.length co19,.slice Ao20 x644001_1.length co20],.agg #[.int .i64 t647,.int .i64 t648,.int .i64 t649,.int .i64 t650,.int .i64 t651]] vH rfl rfl tA ?_
    with_reducible refine (EvFnPacked.treeput_calls k1 (base:=w.heap.size) (ok:=fun k_=>(w.heap.size ≤ k_) ∧ k_ ≠ gb636 ∧ k_ ≠ gb643 ∧ k_ ≠ g) (l0:=x644000_1) (l1:=x644001_1) t647 t648 t649 t650 t651 ?side1 ?side2 A16.out).mono ?_
    (case side1=>(with_reducible repeat (first|apply Kd.V_alloc|apply Kd.V_drewN|apply Kd.V_drew));exact HO_644000.out)
    (case side2=>(with_reducible repeat (first|apply Kd.V_alloc|apply Kd.V_drewN|apply Kd.V_drew));exact HO_644001.out)
    rintro e w21 ⟨v655,v658,rfl,ho0,ho1,hb⟩
    refine ⟨_,rfl,?_⟩
    replace HO_644000:=aA.mk (Kd.V_below HO_644000.out hb)
    replace HO_644001:=aA.mk (Kd.V_below HO_644001.out hb)
    have HO656:=aA.mk (Kd.V_lower (Kd.V_mono (ok':=fun k_=>(w.heap.size ≤ k_) ∧ k_ ≠ gb636 ∧ k_ ≠ gb643 ∧ k_ ≠ g) ho0 (fun k_ hk_=>hk_.elim (fun h_=>h_.1) (fun hk_=>⟨(Nat.le_trans (keep_size (w:=w) (g:=g) (row:=none) tf) hk_),(Kd.freshB (g:=gb636) (o:=.cells #[.slice none 0 0,.slice none 0 0] 29 (0,0)) BK636.out k_ hk_),(Kd.freshB (g:=gb643) (o:=.cells #[.slice Ao19 x644000_1.length co19,.slice Ao20 x644001_1.length co20] 29 (0,0)) BK643.out k_ hk_),(IsS92.fresh vU k_ hk_)⟩))) (keep_size (w:=w) (g:=g) (row:=none) tf))
    have HO659:=aA.mk (Kd.V_lower (Kd.V_mono (ok':=fun k_=>(w.heap.size ≤ k_) ∧ k_ ≠ gb636 ∧ k_ ≠ gb643 ∧ k_ ≠ g) ho1 (fun k_ hk_=>hk_.elim (fun h_=>h_.1) (fun hk_=>⟨(Nat.le_trans (keep_size (w:=w) (g:=g) (row:=none) tf) hk_),(Kd.freshB (g:=gb636) (o:=.cells #[.slice none 0 0,.slice none 0 0] 29 (0,0)) BK636.out k_ hk_),(Kd.freshB (g:=gb643) (o:=.cells #[.slice Ao19 x644000_1.length co19,.slice Ao20 x644001_1.length co20] 29 (0,0)) BK643.out k_ hk_),(IsS92.fresh vU k_ hk_)⟩))) (keep_size (w:=w) (g:=g) (row:=none) tf))
    replace BK636:=nB BK636
    replace BK643:=nB BK643
    replace HK:=aA.mk (KeepBut.trans tf (KeepBut.of_below hb g none) (.inl rfl))
    replace HB:=aA.mk (aQ (by repeat (first|(with_reducible first|exact HB.out|apply aK|apply aC|apply aJ|refine aD ?_ (IsS92.ge HI0.out)|refine aD ?_ GE636.out|refine aD ?_ GE643.out)|exact HB.out)) hb)
    replace HI0:=aA.mk (IsS92.below vU hb)
    (try clear hb)
    (try clear hb2)
    (try clear hk)
    (try clear hi)
    (try clear ho0)
    (try clear ho1)
    obtain ⟨Ao22,co22,eo22⟩:=Kd.V_slice HO656.out
    (first|subst eo22|(injection eo22 with f1_ f2_ f3_;have f4_:=f1_.symm;have f5_:=f3_.symm;clear f1_ f2_ f3_;subst f4_;subst f5_))
    obtain ⟨Ao24,co24,eo24⟩:=Kd.V_slice HO659.out
    (first|subst eo24|(injection eo24 with f1_ f2_ f3_;have f4_:=f1_.symm;have f5_:=f3_.symm;clear f1_ f2_ f3_;subst f4_;subst f5_))
    refine hK.out _ _ ⟨(aN BK643.out 0).trans rfl,(aN BK643.out 1).trans rfl⟩ (fun hHeld=>?_)
    clear hK K
    refine norm_ (a':=?_) ?_ ?_
    rotate_left
    ·show Act.put _ (some 20) _ = _
     simp only [Act.put,lA,lB,lC,i64_w,i32_w]
     rfl
    refine pu (i:=4) (N:=some 16) (bq1 31 8) ?_
    refine pu (i:=5) (N:=some 21) (bq1 63 8) ?_
    refine pu (i:=6) (N:=some 22) (bq1 127 8) ?_
    refine last_ (i:=7) (N:=none) (bq1 255 8) rfl rfl (one_of HT_.out tH) tb (fun K hK=>?_)
    have hs23:w21.cell? ⟨gb643,0,none⟩ = some (.slice Ao19 x644000_1.length co19):=(aN BK643.out 0).trans rfl
    have hfs23:=bH BK643.out 0
    have hns23_0:=NB636_643.out
    have hms23_0:=NB643_636.out
    have hs25:w21.cell? ⟨gb643,1,none⟩ = some (.slice Ao20 x644001_1.length co20):=(aN BK643.out 1).trans rfl
    have hfs25:=bH BK643.out 1
    have hns25_0:=NB636_643.out
    have hms25_0:=NB643_636.out
    refine skip_ (w1:=?_) vH rfl ?_ ?_
    rotate_left
    ·go_simp
     rfl
    refine hK.out _ _ ?_
    clear hK K
    refine done_ (done_of HT_.out tH) ?_
    try go_wp2
    go_roundg k1
    case measure=>have:=HK1.out;omega
    case rel=>exact ⟨(wrap64 (x6_1 - 1)),(t652),(t653),(t654),(t657),(.slice Ao22 t654.length co22),(.slice Ao24 t657.length co24),tG,H',⟨wX⟩,⟨by (with_reducible repeat (first|apply Kd.V_alloc|apply Kd.V_drewN|apply Kd.V_drew));exact Kd.V_mono (Kd.V_far (p:=⟨gb643,1,none⟩) (Kd.V_far (p:=⟨gb643,0,none⟩) (Kd.V_mono HO656.out (fun k_ hk=>(⟨hk,hk.2.2.1⟩:_ ∧ k_ ≠ gb643))) (fun _ hk=>hk.2) (.slice Ao22 t654.length co22)) (fun _ hk=>hk.2) (.slice Ao24 t657.length co24)) (fun _ hk=>⟨hk.1.1,⟨hk.1.2.1,⟨hk.1.2.2.1,hk.1.2.2.2⟩⟩⟩)⟩,⟨by (with_reducible repeat (first|apply Kd.V_alloc|apply Kd.V_drewN|apply Kd.V_drew));exact Kd.V_mono (Kd.V_far (p:=⟨gb643,1,none⟩) (Kd.V_far (p:=⟨gb643,0,none⟩) (Kd.V_mono HO659.out (fun k_ hk=>(⟨hk,hk.2.2.1⟩:_ ∧ k_ ≠ gb643))) (fun _ hk=>hk.2) (.slice Ao22 t654.length co22)) (fun _ hk=>hk.2) (.slice Ao24 t657.length co24)) (fun _ hk=>⟨hk.1.1,⟨hk.1.2.1,⟨hk.1.2.2.1,hk.1.2.2.2⟩⟩⟩)⟩,⟨by (with_reducible repeat (first|refine aG ?_ _|refine aH ?_|refine aE ?_ _));refine aV ?_ NB636_643.out _;(with_reducible repeat (first|refine aG ?_ _|refine aH ?_|refine aE ?_ _));refine aV ?_ NB636_643.out _;(with_reducible repeat (first|refine aG ?_ _|refine aH ?_|refine aE ?_ _));exact BK636.out⟩,⟨by (with_reducible repeat (first|refine aG ?_ _|refine aH ?_|refine aE ?_ _));refine aT (cs:=#[.slice Ao22 t654.length co22,.slice Ao20 x644001_1.length co20]) ?_ 1 _ rfl;(with_reducible repeat (first|refine aG ?_ _|refine aH ?_|refine aE ?_ _));refine aT (cs:=#[.slice Ao19 x644000_1.length co19,.slice Ao20 x644001_1.length co20]) ?_ 0 _ rfl;(with_reducible repeat (first|refine aG ?_ _|refine aH ?_|refine aE ?_ _));exact BK643.out⟩,⟨vm⟩,⟨wC⟩,⟨v8⟩⟩
   ·rw [if_neg c14] at H
    have c14b0:decide (0 < x6_1) = false:=decide_eq_false c14
    clear c14
    simp only [Option.some.injEq,Prod.mk.injEq] at H
    obtain ⟨rfl,rfl,rfl,rfl⟩:=H
    have hnb26:=NB643_636.out
    have hnc26:=NB636_643.out
    have hnb27:=NB643_0.out
    have hnc27:=NB0_643.out
    obtain ⟨hcz28_0,hcz28_1⟩:=cs2 BK643.out
    obtain ⟨hfz28_0,hfz28_1⟩:=fs2 BK643.out
    obtain ⟨Ao29,co29,eo29⟩:=Kd.V_slice HO_644000.out
    subst eo29
    have hnb30:=NB636_0.out
    have hnc30:=NB0_636.out
    obtain ⟨hcz31_0,hcz31_1⟩:=cs2 BK636.out
    obtain ⟨hfz31_0,hfz31_1⟩:=fs2 BK636.out
    obtain ⟨Ao32,co32,eo32⟩:=Kd.V_slice HO_644001.out
    subst eo32
    go_wp2
    refine bodyPost_ret (results_cell_row rfl _ _ gb636 29 #[.slice Ao29 x644000_1.length co29,.slice Ao32 x644001_1.length co32] (0,0) _ rfl (by (with_reducible repeat (first|refine aG ?_ _|refine aH ?_|refine aE ?_ _));refine aT (cs:=#[.slice Ao29 x644000_1.length co29,.slice none 0 0]) ?_ 1 _ rfl;(with_reducible repeat (first|refine aG ?_ _|refine aH ?_|refine aE ?_ _));refine aT (cs:=#[.slice none 0 0,.slice none 0 0]) ?_ 0 _ rfl;(with_reducible repeat (first|refine aG ?_ _|refine aH ?_|refine aE ?_ _));exact BK636.out) Try.underlying29 rfl tH) rfl ?_
    exact ⟨_,_,tC,by (with_reducible repeat (first|apply Kd.V_alloc|apply Kd.V_drewN|apply Kd.V_drew));exact Kd.V_mono (Kd.V_far (p:=⟨gb636,1,none⟩) (Kd.V_far (p:=⟨gb636,0,none⟩) (Kd.V_mono HO_644000.out (fun k_ hk=>(⟨hk,hk.2.1⟩:_ ∧ k_ ≠ gb636))) (fun _ hk=>hk.2) (.slice Ao29 x644000_1.length co29)) (fun _ hk=>hk.2) (.slice Ao32 x644001_1.length co32)) (fun _ hk=>hk.1.1),by (with_reducible repeat (first|apply Kd.V_alloc|apply Kd.V_drewN|apply Kd.V_drew));exact Kd.V_mono (Kd.V_far (p:=⟨gb636,1,none⟩) (Kd.V_far (p:=⟨gb636,0,none⟩) (Kd.V_mono HO_644001.out (fun k_ hk=>(⟨hk,hk.2.1⟩:_ ∧ k_ ≠ gb636))) (fun _ hk=>hk.2) (.slice Ao29 x644000_1.length co29)) (fun _ hk=>hk.2) (.slice Ao32 x644001_1.length co32)) (fun _ hk=>hk.1.1),vm,v8,wC⟩
def spec_l1Size.f (l0:List Int) (a1:Int):Option (Int):=if (wrap64 (3 + (wrap64 ((l0.length:Int) / 12)))) > a1 then (some a1) else (some (wrap64 (3 + (wrap64 ((l0.length:Int) / 12)))))
set_option maxHeartbeats 8000000 in
set_option maxRecDepth 100000 in
theorem spec_l1Size.calls (A0:Option Addr) (c0:Nat) (l0:List Int) (a1:Int) (r:Int) (w:World) (hr0:Kd.C (Kd.int .u8) w A0 l0.length l0) (hc0:l0.length ≤ c0) (h:spec_l1Size.f l0 a1 = some r) :
  Calls Try.prog 42 #[.slice A0 l0.length c0,.int .i64 a1] w fun e w'=>e = .returned (.int .i64 r) ∧ Drawn0 w w':=by
 have HR0:=aA.mk hr0
 have HC0:=aA.mk hc0
 clear hr0 hc0
 have H:(if (wrap64 (3 + (wrap64 ((l0.length:Int) / 12)))) > a1 then (some a1) else (some (wrap64 (3 + (wrap64 ((l0.length:Int) / 12)))))) = some r:=h
 clear h
 by_cases c3:(wrap64 (3 + (wrap64 ((l0.length:Int) / 12)))) > a1
 ·rw [if_pos c3] at H
  have c3b0:decide (a1 < (wrap64 (3 + (wrap64 ((l0.length:Int) / 12))))) = true:=decide_eq_true c3
  clear c3
  obtain rfl:=Option.some.inj H
  go_enter Try.func42,Try.ntmps42
  go_wp2
  go_ret
  exact tU
 ·rw [if_neg c3] at H
  have c3b0:decide (a1 < (wrap64 (3 + (wrap64 ((l0.length:Int) / 12))))) = false:=decide_eq_false c3
  clear c3
  obtain rfl:=Option.some.inj H
  go_enter Try.func42,Try.ntmps42
  go_wp2
  go_ret
  exact tU
def spec_DrawTree.f (k:Nat) (l0:List Int):Option (List Int × (List (S59)) × Int × Int × Int × Int × Int):=(spec_l1New.f k l0).bind fun bt663=>((spec_l1Size.f l0 50).bind fun t667=>((spec_l6Draw.f k bt663.1 bt663.2.1 bt663.2.2 (wrap64 (10 + t667))).bind fun bt668=>((spec_l6Key.f bt663.1 bt668.2.2.1 bt668.2.2.2).bind fun bt677=>(some (bt668.1,bt668.2.1,bt677.1,bt677.2.1,bt677.2.2.1,bt677.2.2.2.1,bt677.2.2.2.2.1)))))
set_option maxHeartbeats 8000000 in
set_option maxRecDepth 100000 in
theorem spec_DrawTree.calls (k:Nat) (A0:Option Addr) (c0:Nat) (l0:List Int) (r1:List Int) (r2:List (S59)) (r3:Int) (r4:Int) (r5:Int) (r6:Int) (r7:Int) (w:World) (hr0:Kd.C (Kd.int .u8) w A0 l0.length l0) (hc0:l0.length ≤ c0) (h:spec_DrawTree.f k l0 = some (r1,r2,r3,r4,r5,r6,r7)) :
  Calls Try.prog 14 #[.slice A0 l0.length c0] w fun e w'=>∃ v0_ v1_:Value,e = .returned (.tuple #[.agg #[v0_,v1_],.agg #[.int .i64 r3,.int .i64 r4,.int .i64 r5,.int .i64 r6,.int .i64 r7]]) ∧ Kd.V (Kd.int .i64) 3 w' w.heap.size (fun k_=>(w.heap.size ≤ k_)) v0_ r1 ∧ Kd.V k59 59 w' w.heap.size (fun k_=>(w.heap.size ≤ k_)) v1_ r2 ∧ Below w.heap.size w w':=by
 have hu29:=Try.underlying29
 have hu38:=Try.underlying38
 have HR0:=aA.mk hr0
 have HC0:=aA.mk hc0
 clear hr0 hc0
 have HB:=aA.mk (Below.refl w.heap.size w)
 have H:((spec_l1New.f k l0).bind fun bt663=>((spec_l1Size.f l0 50).bind fun t667=>((spec_l6Draw.f k bt663.1 bt663.2.1 bt663.2.2 (wrap64 (10 + t667))).bind fun bt668=>((spec_l6Key.f bt663.1 bt668.2.2.1 bt668.2.2.2).bind fun bt677=>(some (bt668.1,bt668.2.1,bt677.1,bt677.2.1,bt677.2.2.1,bt677.2.2.2.1,bt677.2.2.2.2.1)))))) = some (r1,r2,r3,r4,r5,r6,r7):=h
 clear h
 replace H:=lF H
 obtain ⟨⟨t663,t664,t665⟩,A20,H⟩:=H
 replace H:((spec_l1Size.f l0 50).bind fun t667=>((spec_l6Draw.f k t663 t664 t665 (wrap64 (10 + t667))).bind fun bt668=>((spec_l6Key.f t663 bt668.2.2.1 bt668.2.2.2).bind fun bt677=>(some (bt668.1,bt668.2.1,bt677.1,bt677.2.1,bt677.2.2.1,bt677.2.2.2.1,bt677.2.2.2.2.1))))) = some (r1,r2,r3,r4,r5,r6,r7):=H
 have A2:=aA.mk A20
 clear A20
 replace H:=lF H
 obtain ⟨t667,A30,H⟩:=H
 replace H:((spec_l6Draw.f k t663 t664 t665 (wrap64 (10 + t667))).bind fun bt668=>((spec_l6Key.f t663 bt668.2.2.1 bt668.2.2.2).bind fun bt677=>(some (bt668.1,bt668.2.1,bt677.1,bt677.2.1,bt677.2.2.1,bt677.2.2.2.1,bt677.2.2.2.2.1)))) = some (r1,r2,r3,r4,r5,r6,r7):=H
 have A3:=aA.mk A30
 clear A30
 replace H:=lF H
 obtain ⟨⟨t668,t671,t674,t675⟩,A40,H⟩:=H
 replace H:((spec_l6Key.f t663 t674 t675).bind fun bt677=>(some (t668,t671,bt677.1,bt677.2.1,bt677.2.2.1,bt677.2.2.2.1,bt677.2.2.2.2.1))) = some (r1,r2,r3,r4,r5,r6,r7):=H
 have A4:=aA.mk A40
 clear A40
 replace H:=lF H
 obtain ⟨⟨t677,t678,t679,t680,t681,t682,t683⟩,A50,H⟩:=H
 replace H:(some (t668,t671,t677,t678,t679,t680,t681)) = some (r1,r2,r3,r4,r5,r6,r7):=H
 have A5:=aA.mk A50
 clear A50
 simp only [Option.some.injEq,Prod.mk.injEq] at H
 obtain ⟨rfl,rfl,rfl,rfl,rfl,rfl,rfl⟩:=H
 go_enter Try.func14,Try.ntmps14
 try go_wp2_with (first|((with_reducible refine aZ (N:=2) rfl ?_);refine bB ?hg (N:=2) ?hd (cs:=#[.slice none 0 0,.slice none 0 0]) (t:=29) ?hr ?_;(case hd=>rfl);(case hg=>rfl);(case hr=>exact tJ);intro gb661 hg w6 hbox hb;have BK661:=aA.mk (hbox);have GW661:=aA.mk ((by rw [hg];exact (aM HB.out):w.heap.size ≤ gb661));have GE661:=aA.mk ((by rw [hg];exact (aM HB.out):w.heap.size ≤ gb661));replace HB:=aA.mk (aQ HB.out hb);clear hb hbox hg)|((with_reducible refine aZ (N:=3) rfl ?_);refine bB ?hg (N:=3) ?hd (cs:=#[.int .i64 0,.int .i64 0,.int .i64 0,.int .i64 0,.int .i64 0]) (t:=38) ?hr ?_;(case hd=>rfl);(case hg=>rfl);(case hr=>exact tJ);intro gb662 hg w7 hbox hb;have BK662:=aA.mk (hbox);have GW662:=aA.mk ((by rw [hg];exact (aM HB.out):w.heap.size ≤ gb662));have GE662:=aA.mk ((by rw [hg];exact (aM HB.out):w.heap.size ≤ gb662));replace HB:=aA.mk (aQ HB.out hb);have NB661_662:=nL BK661;have NB662_661:=nG BK661;replace BK661:=nB BK661;clear hb hbox hg)|((with_reducible refine aY (f:=40) rfl ?_);refine goesL_ (some 7) rfl rfl Try.func40 tH rfl #[.slice A0 l0.length c0] rfl tA ?_;(with_reducible refine (spec_l1New.calls k _ _ l0 t663 t664 t665 w _ ?side1 ?side2 ?side3 A2.out).mono ?_);(case side1=>repeat (first|(with_reducible first|exact HB.out|apply aK|apply aC|apply aJ|refine aD ?_ GE661.out|refine aD ?_ GE662.out)|exact HB.out));(case side2=>exact HR0.out);(case side3=>exact HC0.out);rintro e w8 ⟨g666,rfl,hi,hb,hb2⟩;refine ⟨_,rfl,?_⟩;replace HB:=aA.mk (hb);have HI666:=aA.mk (hi);have NB666_661:=aA.mk (IsS92.ne_blk hi (blk_below (g:=gb661) (o:=.cells #[.slice none 0 0,.slice none 0 0] 29 (0,0)) BK661.out hb2) tb);have NB661_666:=aA.mk (Ne.symm (IsS92.ne_blk hi (blk_below (g:=gb661) (o:=.cells #[.slice none 0 0,.slice none 0 0] 29 (0,0)) BK661.out hb2) tb));replace BK661:=aA.mk (blk_below (g:=gb661) (o:=.cells #[.slice none 0 0,.slice none 0 0] 29 (0,0)) BK661.out hb2);have NB666_662:=aA.mk (IsS92.ne_blk hi (blk_below (g:=gb662) (o:=.cells #[.int .i64 0,.int .i64 0,.int .i64 0,.int .i64 0,.int .i64 0] 38 (0,0)) BK662.out hb2) tb);have NB662_666:=aA.mk (Ne.symm (IsS92.ne_blk hi (blk_below (g:=gb662) (o:=.cells #[.int .i64 0,.int .i64 0,.int .i64 0,.int .i64 0,.int .i64 0] 38 (0,0)) BK662.out hb2) tb));replace BK662:=aA.mk (blk_below (g:=gb662) (o:=.cells #[.int .i64 0,.int .i64 0,.int .i64 0,.int .i64 0,.int .i64 0] 38 (0,0)) BK662.out hb2);(try clear hb);(try clear hb2);(try clear hk);(try clear hi))|((with_reducible refine aY (f:=42) rfl ?_);refine goesL_ (some 10) rfl rfl Try.func42 tH rfl #[.slice A0 l0.length c0,.int .i64 50] rfl tA ?_;(with_reducible refine (spec_l1Size.calls _ _ l0 50 t667 _ ?side1 ?side2 A3.out).mono ?_);(case side1=>exact (Kd.C_below HR0.out HB.out));(case side2=>exact HC0.out);rintro e w' ⟨rfl,⟨nd,rfl⟩⟩;refine ⟨_,rfl,?_⟩;(try (rw [drewN_self w8];generalize hq_:World.drewN w8 _ = w8;have n0_:aA (w8.heap[gb661]? = some (.cells #[.slice none 0 0,.slice none 0 0] 29 (0,0))):=⟨by rw [← hq_];exact BK661.out⟩;have n1_:aA (w8.heap[gb662]? = some (.cells #[.int .i64 0,.int .i64 0,.int .i64 0,.int .i64 0,.int .i64 0] 38 (0,0))):=⟨by rw [← hq_];exact BK662.out⟩;have n2_:aA (IsS92 w w8 g666 t663 t664 t665):=⟨by rw [← hq_];exact t2⟩;have n3_:aA (Below w.heap.size w w8):=⟨by rw [← hq_];exact tW⟩;clear BK661 BK662 HI666 HB hq_;have BK661:=n0_;have BK662:=n1_;have HI666:=n2_;have HB:=n3_;clear n0_ n1_ n2_ n3_)))|((with_reducible refine aY (f:=41) rfl ?_);refine goesL_ (some 12) rfl rfl Try.func41 tH rfl #[.pointer (some ⟨g666,0,none⟩),.int .i64 (wrap64 (10 + t667))] rfl tA ?_;(with_reducible refine (spec_l6Draw.calls k g666 t663 t664 t665 (wrap64 (10 + t667)) t668 t671 t674 t675 w _ ?side1 ?side2 A4.out).mono ?_);(case side1=>repeat (first|(with_reducible first|exact HI666.out|apply IsS92.alloc|apply IsS92.drewN|apply IsS92.drew|apply IsS92.set_1|apply IsS92.set_2|apply IsS92.far (hne:=NB666_661.out)|apply IsS92.far (hne:=NB666_662.out))|exact HI666.out));(case side2=>repeat (first|(with_reducible first|exact HB.out|apply aK|apply aC|apply aJ|refine aD ?_ (IsS92.ge HI666.out)|refine aD ?_ GE661.out|refine aD ?_ GE662.out)|exact HB.out));rintro e w9 ⟨v669,v672,rfl,ho0,ho1,hi,hb,hk⟩;refine ⟨_,rfl,?_⟩;have HO670:=aA.mk (Kd.V_lower (Kd.V_mono (ok':=fun k_=>(w.heap.size ≤ k_) ∧ k_ ≠ gb661 ∧ k_ ≠ gb662 ∧ k_ ≠ g666) ho0 (fun k_ hk_=>⟨(Nat.le_trans (aM tW) hk_),(Kd.freshB (g:=gb661) (o:=.cells #[.slice none 0 0,.slice none 0 0] 29 (0,0)) BK661.out k_ hk_),(Kd.freshB (g:=gb662) (o:=.cells #[.int .i64 0,.int .i64 0,.int .i64 0,.int .i64 0,.int .i64 0] 38 (0,0)) BK662.out k_ hk_),(IsS92.fresh t2 k_ hk_)⟩)) (aM tW));have HO673:=aA.mk (Kd.V_lower (Kd.V_mono (ok':=fun k_=>(w.heap.size ≤ k_) ∧ k_ ≠ gb661 ∧ k_ ≠ gb662 ∧ k_ ≠ g666) ho1 (fun k_ hk_=>⟨(Nat.le_trans (aM tW) hk_),(Kd.freshB (g:=gb661) (o:=.cells #[.slice none 0 0,.slice none 0 0] 29 (0,0)) BK661.out k_ hk_),(Kd.freshB (g:=gb662) (o:=.cells #[.int .i64 0,.int .i64 0,.int .i64 0,.int .i64 0,.int .i64 0] 38 (0,0)) BK662.out k_ hk_),(IsS92.fresh t2 k_ hk_)⟩)) (aM tW));replace BK661:=aA.mk (KeepBut.blk hk (g':=gb661) (o:=.cells #[.slice none 0 0,.slice none 0 0] 29 (0,0)) BK661.out NB661_666.out te);replace BK662:=aA.mk (KeepBut.blk hk (g':=gb662) (o:=.cells #[.int .i64 0,.int .i64 0,.int .i64 0,.int .i64 0,.int .i64 0] 38 (0,0)) BK662.out NB662_666.out te);replace HB:=aA.mk (hb);replace HI666:=aA.mk (hi);(try clear hb);(try clear hb2);(try clear hk);(try clear hi);(try clear ho0);(try clear ho1))|((with_reducible refine aZ (N:=5) rfl ?_);refine bB ?hg (N:=5) ?hd (cs:=#[.slice none 0 0,.slice none 0 0]) (t:=29) ?hr ?_;(case hd=>rfl);(case hg=>rfl);(case hr=>exact tJ);intro gb676 hg w10 hbox hb;replace HO670:=aA.mk (Kd.V_below (Kd.V_elderB HO670.out gb676 (Nat.le_of_eq hg.symm)) hb);replace HO673:=aA.mk (Kd.V_below (Kd.V_elderB HO673.out gb676 (Nat.le_of_eq hg.symm)) hb);have BK676:=aA.mk (hbox);have GW676:=aA.mk ((by rw [hg];exact (aM tW):w.heap.size ≤ gb676));have GE676:=aA.mk ((by rw [hg];exact (aM tW):w.heap.size ≤ gb676));replace HB:=aA.mk (aQ tW hb);have NB661_676:=nL BK661;have NB676_661:=nG BK661;replace BK661:=nB BK661;have NB662_676:=nL BK662;have NB676_662:=nG BK662;replace BK662:=nB BK662;have NB666_676:=aA.mk ((by rw [hg];exact Nat.ne_of_lt (IsS92.lt (show IsS92 w _ g666 t663 t674 t675 from by repeat (first|(with_reducible first|exact HI666.out|apply IsS92.alloc|apply IsS92.drewN|apply IsS92.drew|apply IsS92.set_1|apply IsS92.set_2|apply IsS92.far (hne:=NB666_661.out)|apply IsS92.far (hne:=NB666_662.out))|exact HI666.out))):g666 ≠ gb676));have NB676_666:=aA.mk ((by rw [hg];exact Nat.ne_of_gt (IsS92.lt (show IsS92 w _ g666 t663 t674 t675 from by repeat (first|(with_reducible first|exact HI666.out|apply IsS92.alloc|apply IsS92.drewN|apply IsS92.drew|apply IsS92.set_1|apply IsS92.set_2|apply IsS92.far (hne:=NB666_661.out)|apply IsS92.far (hne:=NB666_662.out))|exact HI666.out))):gb676 ≠ g666));replace HI666:=aA.mk (IsS92.below t2 hb);clear hb hbox hg;obtain ⟨Ao11,co11,eo11⟩:=Kd.V_slice HO670.out;subst eo11;have hnb12:=NB676_661.out;have hnc12:=NB661_676.out;have hnb13:=NB676_662.out;have hnc13:=NB662_676.out;have hnb14:=NB676_666.out;have hnc14:=NB666_676.out;obtain ⟨hcz15_0,hcz15_1⟩:=cs2 BK676.out;obtain ⟨hfz15_0,hfz15_1⟩:=fs2 BK676.out;obtain ⟨Ao16,co16,eo16⟩:=Kd.V_slice HO673.out;subst eo16))
 have n0_:aA (Kd.V (Kd.int .i64) 3 ((w10.setCell ⟨gb676,0,none⟩ (.slice Ao11 t668.length co11)).setCell ⟨gb676,1,none⟩ (.slice Ao16 t671.length co16)) w.heap.size (fun k_=>(w.heap.size ≤ k_) ∧ k_ ≠ gb661 ∧ k_ ≠ gb662 ∧ k_ ≠ g666 ∧ k_ ≠ gb676) (.slice Ao11 t668.length co11) t668):=⟨by (with_reducible repeat (first|apply Kd.V_alloc|apply Kd.V_drewN|apply Kd.V_drew));exact Kd.V_mono (Kd.V_far (p:=⟨gb676,1,none⟩) (Kd.V_far (p:=⟨gb676,0,none⟩) (Kd.V_mono HO670.out (fun k_ hk=>(⟨hk,hk.2⟩:_ ∧ k_ ≠ gb676))) (fun _ hk=>hk.2) (.slice Ao11 t668.length co11)) (fun _ hk=>hk.2) (.slice Ao16 t671.length co16)) (fun _ hk=>⟨hk.1.1.1,⟨hk.1.1.2.1,⟨hk.1.1.2.2.1,⟨hk.1.1.2.2.2,hk.1.2⟩⟩⟩⟩)⟩
 have n1_:aA (Kd.V k59 59 ((w10.setCell ⟨gb676,0,none⟩ (.slice Ao11 t668.length co11)).setCell ⟨gb676,1,none⟩ (.slice Ao16 t671.length co16)) w.heap.size (fun k_=>(w.heap.size ≤ k_) ∧ k_ ≠ gb661 ∧ k_ ≠ gb662 ∧ k_ ≠ g666 ∧ k_ ≠ gb676) (.slice Ao16 t671.length co16) t671):=⟨by (with_reducible repeat (first|apply Kd.V_alloc|apply Kd.V_drewN|apply Kd.V_drew));exact Kd.V_mono (Kd.V_far (p:=⟨gb676,1,none⟩) (Kd.V_far (p:=⟨gb676,0,none⟩) (Kd.V_mono HO673.out (fun k_ hk=>(⟨hk,hk.2⟩:_ ∧ k_ ≠ gb676))) (fun _ hk=>hk.2) (.slice Ao11 t668.length co11)) (fun _ hk=>hk.2) (.slice Ao16 t671.length co16)) (fun _ hk=>⟨hk.1.1.1,⟨hk.1.1.2.1,⟨hk.1.1.2.2.1,⟨hk.1.1.2.2.2,hk.1.2⟩⟩⟩⟩)⟩
 have n2_:aA (((w10.setCell ⟨gb676,0,none⟩ (.slice Ao11 t668.length co11)).setCell ⟨gb676,1,none⟩ (.slice Ao16 t671.length co16)).heap[gb661]? = some (.cells #[.slice none 0 0,.slice none 0 0] 29 (0,0))):=⟨by (with_reducible repeat (first|refine aG ?_ _|refine aH ?_|refine aE ?_ _));refine aV ?_ NB661_676.out _;(with_reducible repeat (first|refine aG ?_ _|refine aH ?_|refine aE ?_ _));refine aV ?_ NB661_676.out _;(with_reducible repeat (first|refine aG ?_ _|refine aH ?_|refine aE ?_ _));exact BK661.out⟩
 have n3_:aA (((w10.setCell ⟨gb676,0,none⟩ (.slice Ao11 t668.length co11)).setCell ⟨gb676,1,none⟩ (.slice Ao16 t671.length co16)).heap[gb662]? = some (.cells #[.int .i64 0,.int .i64 0,.int .i64 0,.int .i64 0,.int .i64 0] 38 (0,0))):=⟨by (with_reducible repeat (first|refine aG ?_ _|refine aH ?_|refine aE ?_ _));refine aV ?_ NB662_676.out _;(with_reducible repeat (first|refine aG ?_ _|refine aH ?_|refine aE ?_ _));refine aV ?_ NB662_676.out _;(with_reducible repeat (first|refine aG ?_ _|refine aH ?_|refine aE ?_ _));exact BK662.out⟩
 have n4_:aA (((w10.setCell ⟨gb676,0,none⟩ (.slice Ao11 t668.length co11)).setCell ⟨gb676,1,none⟩ (.slice Ao16 t671.length co16)).heap[gb676]? = some (.cells #[.slice Ao11 t668.length co11,.slice Ao16 t671.length co16] 29 (0,0))):=⟨by (with_reducible repeat (first|refine aG ?_ _|refine aH ?_|refine aE ?_ _));refine aT (cs:=#[.slice Ao11 t668.length co11,.slice none 0 0]) ?_ 1 _ rfl;(with_reducible repeat (first|refine aG ?_ _|refine aH ?_|refine aE ?_ _));refine aT (cs:=#[.slice none 0 0,.slice none 0 0]) ?_ 0 _ rfl;(with_reducible repeat (first|refine aG ?_ _|refine aH ?_|refine aE ?_ _));exact BK676.out⟩
 have n5_:aA (IsS92 w ((w10.setCell ⟨gb676,0,none⟩ (.slice Ao11 t668.length co11)).setCell ⟨gb676,1,none⟩ (.slice Ao16 t671.length co16)) g666 t663 t674 t675):=⟨by repeat (first|(with_reducible first|exact HI666.out|apply IsS92.alloc|apply IsS92.drewN|apply IsS92.drew|apply IsS92.set_1|apply IsS92.set_2|apply IsS92.far (hne:=NB666_661.out)|apply IsS92.far (hne:=NB666_662.out)|apply IsS92.far (hne:=NB666_676.out))|exact HI666.out)⟩
 have n6_:aA (Below w.heap.size w ((w10.setCell ⟨gb676,0,none⟩ (.slice Ao11 t668.length co11)).setCell ⟨gb676,1,none⟩ (.slice Ao16 t671.length co16))):=⟨wm⟩
 (try clear HO670)
 (try clear HO673)
 (try clear BK661)
 (try clear BK662)
 (try clear BK676)
 (try clear HI666)
 (try clear HB)
 generalize ((w10.setCell ⟨gb676,0,none⟩ (.slice Ao11 t668.length co11)).setCell ⟨gb676,1,none⟩ (.slice Ao16 t671.length co16)) = w17 at n0_ n1_ n2_ n3_ n4_ n5_ n6_ ⊢
 have HO670:=n0_
 have HO673:=n1_
 have BK661:=n2_
 have BK662:=n3_
 have BK676:=n4_
 have HI666:=n5_
 have HB:=n6_
 clear n0_ n1_ n2_ n3_ n4_ n5_ n6_
 replace HO670:=aA.mk (Kd.V_drew HO670.out)
 replace HO673:=aA.mk (Kd.V_drew HO673.out)
 replace BK661:=aA.mk (aH BK661.out)
 replace BK662:=aA.mk (aH BK662.out)
 replace BK676:=aA.mk (aH BK676.out)
 replace HI666:=aA.mk (IsS92.drew HI666.out)
 replace HB:=aA.mk (aJ HB.out)
 refine start_ (n:=5) (S:=fun w'=>w'.cell? ⟨gb676,0,none⟩ = some (.slice Ao11 t668.length co11) ∧ w'.cell? ⟨gb676,1,none⟩ = some (.slice Ao16 t671.length co16)) (ds:=[]) #[F0,F0,F0,F0,F0] tH rfl rfl ⟨(aN BK676.out 0).trans rfl,(aN BK676.out 1).trans rfl⟩ (fun hHeld=>?_)
 generalize w17.drew = w18 at HO670 HO673 BK661 BK662 BK676 HI666 HB hHeld ⊢
 refine pure_ (i:=1) (N:=some 14) (v:=?_) (a':=?_) (bq1 2 5) rfl rfl tH (fun _ _ _ h=>h) (Or.inl ⟨by rfl,?_⟩) ?_ ?_
 rotate_left
 ·intro w'
  go_simp
  with_reducible rfl
 rotate_left
 ·simp only [Act.put,lA,lB,lC,i64_w,i32_w]
  rfl
 refine take_ (i:=0) (N:=some 13) (v:=?_) (a':=?_) (bq1 3 5) rfl rfl tH (fun _ _ _ h=>h) (Or.inl ⟨by rfl,?_⟩) hHeld ?_ ?_
 rotate_left
 ·rintro w' ⟨s0,s1⟩
  go_simp
  with_reducible rfl
 rotate_left
 ·simp only [Act.put,lA,lB,lC,i64_w,i32_w]
  rfl
 refine one_ (i:=2) (N:=some 15) (bq1 7 5) rfl rfl tH tb (fun K hK=>?_)
 refine goes_ Try.func43 tH rfl #[.pointer (some ⟨g666,0,none⟩)] vH rfl rfl tA ?_
 with_reducible refine (spec_l6Key.calls g666 t663 t674 t675 t677 t678 t679 t680 t681 t682 t683 w _ ?side1 ?side2 A5.out).mono ?_
 (case side1=>repeat (first|(with_reducible first|exact HI666.out|apply IsS92.alloc|apply IsS92.drewN|apply IsS92.drew|apply IsS92.set_1|apply IsS92.set_2|apply IsS92.far (hne:=NB666_661.out)|apply IsS92.far (hne:=NB666_662.out)|apply IsS92.far (hne:=NB666_676.out))|exact HI666.out))
 (case side2=>repeat (first|(with_reducible first|exact HB.out|apply aK|apply aC|apply aJ|refine aD ?_ (IsS92.ge HI666.out)|refine aD ?_ GE661.out|refine aD ?_ GE662.out|refine aD ?_ GE676.out)|exact HB.out))
 rintro e w19 ⟨rfl,hi,hb,hk⟩
 refine ⟨_,rfl,?_⟩
 replace BK661:=aA.mk (KeepBut.blk hk (g':=gb661) (o:=.cells #[.slice none 0 0,.slice none 0 0] 29 (0,0)) BK661.out NB661_666.out te)
 replace BK662:=aA.mk (KeepBut.blk hk (g':=gb662) (o:=.cells #[.int .i64 0,.int .i64 0,.int .i64 0,.int .i64 0,.int .i64 0] 38 (0,0)) BK662.out NB662_666.out te)
 replace HO670:=aA.mk (Kd.V_mono (Kd.V_keep (Kd.V_mono (ok:=fun k_=>(((w.heap.size ≤ k_)) ∧ (k_ ≠ gb661 ∧ (k_ ≠ gb662 ∧ (k_ ≠ g666 ∧ k_ ≠ gb676))))) HO670.out (fun k_ hk_=>(⟨hk_,hk_.2.2.2.1⟩:_ ∧ k_ ≠ g666))) hk (fun _ h=>h.2)) (fun _ h=>h.1))
 replace HO673:=aA.mk (Kd.V_mono (Kd.V_keep (Kd.V_mono (ok:=fun k_=>(((w.heap.size ≤ k_)) ∧ (k_ ≠ gb661 ∧ (k_ ≠ gb662 ∧ (k_ ≠ g666 ∧ k_ ≠ gb676))))) HO673.out (fun k_ hk_=>(⟨hk_,hk_.2.2.2.1⟩:_ ∧ k_ ≠ g666))) hk (fun _ h=>h.2)) (fun _ h=>h.1))
 replace BK676:=aA.mk (KeepBut.blk hk (g':=gb676) (o:=.cells #[.slice Ao11 t668.length co11,.slice Ao16 t671.length co16] 29 (0,0)) BK676.out NB676_666.out te)
 replace HB:=aA.mk (hb)
 replace HI666:=aA.mk (hi)
 (try clear hb)
 (try clear hb2)
 (try clear hk)
 (try clear hi)
 refine hK.out _ _ ⟨(aN BK676.out 0).trans rfl,(aN BK676.out 1).trans rfl⟩ (fun hHeld=>?_)
 clear hK K
 refine norm_ (a':=?_) ?_ ?_
 rotate_left
 ·show Act.put _ (some 15) _ = _
  simp only [Act.put,lA,lB,lC,i64_w,i32_w]
  rfl
 refine one_ (i:=3) (N:=none) (bq1 15 5) rfl rfl tH tb (fun K hK=>?_)
 have hs20:w19.cell? ⟨gb661,0,none⟩ = some (.slice none 0 0):=(aN BK661.out 0).trans rfl
 have hfs20:=bH BK661.out 0
 have hns20_1:=NB662_661.out
 have hns20_2:=NB676_661.out
 have hms20_1:=NB661_662.out
 have hms20_2:=NB661_676.out
 have hs21:w19.cell? ⟨gb661,1,none⟩ = some (.slice none 0 0):=(aN BK661.out 1).trans rfl
 have hfs21:=bH BK661.out 1
 have hns21_1:=NB662_661.out
 have hns21_2:=NB676_661.out
 have hms21_1:=NB661_662.out
 have hms21_2:=NB661_676.out
 refine skip_ (w1:=?_) vH rfl ?_ ?_
 rotate_left
 ·go_simp
  rfl
 refine hK.out _ _ ⟨((bK (p:=⟨gb661,_,none⟩) NB676_661.out _).trans (((bK (p:=⟨gb661,_,none⟩) NB676_661.out _).trans (hHeld.1)))),((bK (p:=⟨gb661,_,none⟩) NB676_661.out _).trans (((bK (p:=⟨gb661,_,none⟩) NB676_661.out _).trans (hHeld.2))))⟩ (fun hHeld=>?_)
 clear hK K
 refine one_ (i:=4) (N:=none) (bq1 31 5) rfl rfl tH tb (fun K hK=>?_)
 have hs22:w19.cell? ⟨gb662,0,none⟩ = some (.int .i64 0):=(aN BK662.out 0).trans rfl
 have hfs22:=bH BK662.out 0
 have hns22_0:=NB661_662.out
 have hns22_2:=NB676_662.out
 have hms22_0:=NB662_661.out
 have hms22_2:=NB662_676.out
 have hs23:w19.cell? ⟨gb662,1,none⟩ = some (.int .i64 0):=(aN BK662.out 1).trans rfl
 have hfs23:=bH BK662.out 1
 have hns23_0:=NB661_662.out
 have hns23_2:=NB676_662.out
 have hms23_0:=NB662_661.out
 have hms23_2:=NB662_676.out
 have hs24:w19.cell? ⟨gb662,2,none⟩ = some (.int .i64 0):=(aN BK662.out 2).trans rfl
 have hfs24:=bH BK662.out 2
 have hns24_0:=NB661_662.out
 have hns24_2:=NB676_662.out
 have hms24_0:=NB662_661.out
 have hms24_2:=NB662_676.out
 have hs25:w19.cell? ⟨gb662,3,none⟩ = some (.int .i64 0):=(aN BK662.out 3).trans rfl
 have hfs25:=bH BK662.out 3
 have hns25_0:=NB661_662.out
 have hns25_2:=NB676_662.out
 have hms25_0:=NB662_661.out
 have hms25_2:=NB662_676.out
 have hs26:w19.cell? ⟨gb662,4,none⟩ = some (.int .i64 0):=(aN BK662.out 4).trans rfl
 have hfs26:=bH BK662.out 4
 have hns26_0:=NB661_662.out
 have hns26_2:=NB676_662.out
 have hms26_0:=NB662_661.out
 have hms26_2:=NB662_676.out
 refine skip_ (w1:=?_) vH rfl ?_ ?_
 rotate_left
 ·go_simp
  rfl
 refine hK.out _ _ ⟨((bK (p:=⟨gb662,_,none⟩) NB676_662.out _).trans (((bK (p:=⟨gb662,_,none⟩) NB676_662.out _).trans (((bK (p:=⟨gb662,_,none⟩) NB676_662.out _).trans (((bK (p:=⟨gb662,_,none⟩) NB676_662.out _).trans (((bK (p:=⟨gb662,_,none⟩) NB676_662.out _).trans (hHeld.1)))))))))),((bK (p:=⟨gb662,_,none⟩) NB676_662.out _).trans (((bK (p:=⟨gb662,_,none⟩) NB676_662.out _).trans (((bK (p:=⟨gb662,_,none⟩) NB676_662.out _).trans (((bK (p:=⟨gb662,_,none⟩) NB676_662.out _).trans (((bK (p:=⟨gb662,_,none⟩) NB676_662.out _).trans (hHeld.2))))))))))⟩ (fun hHeld=>?_)
 clear hK K
 refine done_ tH ?_
 try go_wp2
 refine bodyPost_ret (results_cc rfl _ _ gb661 gb662 29 38 #[.slice Ao11 t668.length co11,.slice Ao16 t671.length co16] #[.int .i64 t677,.int .i64 t678,.int .i64 t679,.int .i64 t680,.int .i64 t681] (0,0) (0,0) _ _ rfl (by (with_reducible repeat (first|refine aG ?_ _|refine aH ?_|refine aE ?_ _));refine aV ?_ NB661_662.out _;(with_reducible repeat (first|refine aG ?_ _|refine aH ?_|refine aE ?_ _));refine aV ?_ NB661_662.out _;(with_reducible repeat (first|refine aG ?_ _|refine aH ?_|refine aE ?_ _));refine aV ?_ NB661_662.out _;(with_reducible repeat (first|refine aG ?_ _|refine aH ?_|refine aE ?_ _));refine aV ?_ NB661_662.out _;(with_reducible repeat (first|refine aG ?_ _|refine aH ?_|refine aE ?_ _));refine aV ?_ NB661_662.out _;(with_reducible repeat (first|refine aG ?_ _|refine aH ?_|refine aE ?_ _));refine aT (cs:=#[.slice Ao11 t668.length co11,.slice none 0 0]) ?_ 1 _ rfl;(with_reducible repeat (first|refine aG ?_ _|refine aH ?_|refine aE ?_ _));refine aT (cs:=#[.slice none 0 0,.slice none 0 0]) ?_ 0 _ rfl;(with_reducible repeat (first|refine aG ?_ _|refine aH ?_|refine aE ?_ _));exact BK661.out) Try.underlying29 rfl tH rfl (by (with_reducible repeat (first|refine aG ?_ _|refine aH ?_|refine aE ?_ _));refine aT (cs:=#[.int .i64 t677,.int .i64 t678,.int .i64 t679,.int .i64 t680,.int .i64 0]) ?_ 4 _ rfl;(with_reducible repeat (first|refine aG ?_ _|refine aH ?_|refine aE ?_ _));refine aT (cs:=#[.int .i64 t677,.int .i64 t678,.int .i64 t679,.int .i64 0,.int .i64 0]) ?_ 3 _ rfl;(with_reducible repeat (first|refine aG ?_ _|refine aH ?_|refine aE ?_ _));refine aT (cs:=#[.int .i64 t677,.int .i64 t678,.int .i64 0,.int .i64 0,.int .i64 0]) ?_ 2 _ rfl;(with_reducible repeat (first|refine aG ?_ _|refine aH ?_|refine aE ?_ _));refine aT (cs:=#[.int .i64 t677,.int .i64 0,.int .i64 0,.int .i64 0,.int .i64 0]) ?_ 1 _ rfl;(with_reducible repeat (first|refine aG ?_ _|refine aH ?_|refine aE ?_ _));refine aT (cs:=#[.int .i64 0,.int .i64 0,.int .i64 0,.int .i64 0,.int .i64 0]) ?_ 0 _ rfl;(with_reducible repeat (first|refine aG ?_ _|refine aH ?_|refine aE ?_ _));refine aV ?_ NB662_661.out _;(with_reducible repeat (first|refine aG ?_ _|refine aH ?_|refine aE ?_ _));refine aV ?_ NB662_661.out _;(with_reducible repeat (first|refine aG ?_ _|refine aH ?_|refine aE ?_ _));exact BK662.out) Try.underlying38 rfl tH) rfl ?_
 exact ⟨_,_,tC,by (with_reducible repeat (first|apply Kd.V_alloc|apply Kd.V_drewN|apply Kd.V_drew));exact Kd.V_mono (Kd.V_far (p:=⟨gb662,4,none⟩) (Kd.V_far (p:=⟨gb662,3,none⟩) (Kd.V_far (p:=⟨gb662,2,none⟩) (Kd.V_far (p:=⟨gb662,1,none⟩) (Kd.V_far (p:=⟨gb662,0,none⟩) (Kd.V_far (p:=⟨gb661,1,none⟩) (Kd.V_far (p:=⟨gb661,0,none⟩) (Kd.V_mono (Kd.V_mono HO670.out (fun k_ hk=>(⟨hk,hk.2.1⟩:_ ∧ k_ ≠ gb661))) (fun k_ hk=>(⟨hk,hk.1.2.2.1⟩:_ ∧ k_ ≠ gb662))) (fun _ hk=>hk.1.2) (.slice Ao11 t668.length co11)) (fun _ hk=>hk.1.2) (.slice Ao16 t671.length co16)) (fun _ hk=>hk.2) (.int .i64 t677)) (fun _ hk=>hk.2) (.int .i64 t678)) (fun _ hk=>hk.2) (.int .i64 t679)) (fun _ hk=>hk.2) (.int .i64 t680)) (fun _ hk=>hk.2) (.int .i64 t681)) (fun _ hk=>hk.1.1.1),by (with_reducible repeat (first|apply Kd.V_alloc|apply Kd.V_drewN|apply Kd.V_drew));exact Kd.V_mono (Kd.V_far (p:=⟨gb662,4,none⟩) (Kd.V_far (p:=⟨gb662,3,none⟩) (Kd.V_far (p:=⟨gb662,2,none⟩) (Kd.V_far (p:=⟨gb662,1,none⟩) (Kd.V_far (p:=⟨gb662,0,none⟩) (Kd.V_far (p:=⟨gb661,1,none⟩) (Kd.V_far (p:=⟨gb661,0,none⟩) (Kd.V_mono (Kd.V_mono HO673.out (fun k_ hk=>(⟨hk,hk.2.1⟩:_ ∧ k_ ≠ gb661))) (fun k_ hk=>(⟨hk,hk.1.2.2.1⟩:_ ∧ k_ ≠ gb662))) (fun _ hk=>hk.1.2) (.slice Ao11 t668.length co11)) (fun _ hk=>hk.1.2) (.slice Ao16 t671.length co16)) (fun _ hk=>hk.2) (.int .i64 t677)) (fun _ hk=>hk.2) (.int .i64 t678)) (fun _ hk=>hk.2) (.int .i64 t679)) (fun _ hk=>hk.2) (.int .i64 t680)) (fun _ hk=>hk.2) (.int .i64 t681)) (fun _ hk=>hk.1.1.1),wm⟩
end Go.Proofs.Ytamjbjkbineafaa.PFnPacked
