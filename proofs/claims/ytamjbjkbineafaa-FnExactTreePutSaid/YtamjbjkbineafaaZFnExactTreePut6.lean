/- The law: the functions that it reaches, each with the proof that the machine's call comes to its answer, what they answer, and the law's row; each theorem says its conditions itself. -/
import Derived.Test.YtamjbjkbineafaaZFnExactTreePut5
namespace Go.Proofs.Ytamjbjkbineafaa.EvFnExactTreePut
open Go Go.RowKit Go.Proofs.Ytamjbjkbineafaa.Ev Go.Proofs.Ytamjbjkbineafaa.PFnExactTreePut Go.Proofs.YtamjbjkbineafaaW.PrintWords Go.Proofs.YtamjbjkbineafaaW.PrintLast
set_option linter.unusedVariables false
set_option linter.unusedSimpArgs false
attribute [local go_sem] aops_nil outI_done outI_call aopsD_nil outJ_done outJ_call semG sem0 semD semS M.run evO constA litOk litA AS.app AS.put List.map startL litF litB upd_at List.length_set Int.toNat_lt guardA boolA intA rowO cellsA readA argsL partsL fillL fzC fzL fzW loadV importR importC importW ownsP tsz tagg known elem? tby zeroC isNone binV dropW isCall resOf resC outL outC ownIds nodupB AS.ev mk_nil mk_at mo_nil mo_at beq_dec bne_dec thenQ blockQ kok_same kok_nx nx_zero if_true if_false Nat.add_zero Nat.zero_add Nat.le_refl true_and and_true List.getElem?_cons_zero List.getElem?_cons_succ List.getElem?_nil List.drop_succ_cons List.drop_zero List.take_succ_cons List.take_zero List.length_cons List.length_nil List.append_nil List.nil_append List.cons_append List.length_append List.any_cons List.any_nil keyC keysF setsF nodesF intsF nodeC keysE_len keysE_app keysE_one keysE_nil setsE_len setsE_app setsE_one setsE_nil nodesE_len nodesE_app nodesE_one nodesE_nil intsE_len intsE_app intsE_one intsE_nil keysE_get setsE_get nodesE_get intsE_get keysE_take keysE_drop nodesE_take nodesE_drop intsE_take intsE_drop setsE_set nodesE_set leK leL leA tmOk boxOk memOk rowOk rowsOk fzR List.contains_cons List.contains_nil Option.map_some Option.map_none ge_iff_le gt_iff_lt leF_same leE_same Option.isSome_some decide_true decide_false leC leCs or_true true_or range0 range1 range2 w64_ Bool.not_true Bool.not_false bne_self_eq_false beq_self_eq_true Bool.and_true Bool.false_or Bool.or_false List.getLast?_cons_cons List.getLast?_singleton List.dropLast_cons_cons List.dropLast_singleton Option.some.injEq M.rds W.loc nilV setC intC intsE_cons nodesE_cons leF_nil lB lC List.drop_nil wm1 nx_ne kok_s Nat.add_one_ne_zero ne_eq not_false_eq_true lssE_len lnsE_len eS_len eN_len lssE_app lnsE_app eS_app eN_app lssE_nil lnsE_nil lssE_one lnsE_one lnsE_take lnsE_drop lssE_set lnsE_set lnsE_get lssE_get lsC lnC Int.lt_irrefl
theorem impl_NodePut.j0_s {y0 y1 y2 y3 y4 y5 y6 y7 y8 r} {k:Nat} (H:impl_NodePut.j0 k y0 y1 y2 y3 y4 y5 y6 y7 y8 = some r):∃ q,k = q + 1:=by cases k with
 | zero=>cases H
 | succ q=>exact ⟨q,rfl⟩
theorem impl_NodePut.j1_s {y0 y1 y2 y3 y4 y5 y6 r} {k:Nat} (H:impl_NodePut.j1 k y0 y1 y2 y3 y4 y5 y6 = some r):∃ q,k = q + 1:=by cases k with
 | zero=>cases H
 | succ q=>exact ⟨q,rfl⟩
theorem impl_NodeOk_l (q lb k:Nat) (ss:List LS) (r:Bool) (H:impl_NodeOk.f k (eS ss) = some r):SemCall 44 [⟨.agg,[.row lb 45 (lssE ss)]⟩] q ⟨.one,[.fv (litB r)]⟩ q:=((impl_NodeOk_s k _ r H).args (all_one (leP_node ss lb))).at_ q
set_option maxHeartbeats 8000000 in
set_option maxRecDepth 100000 in
theorem impl_NodePut_l (q:Nat) (hq:q ≠ 0) (k:Nat) (a0 r0:List (List S38)) (a10 a11 a12 a13 a14:Int) (r1:Bool) (H:impl_NodePut.f k a0 a10 a11 a12 a13 a14 = some (r0,r1)):∃ r' k',SemCall 60 [⟨.agg,[setsF a0]⟩,⟨.agg,[litF a10,litF a11,litF a12,litF a13,litF a14]⟩] q r' k' ∧ ((k' ≠ 0 ∧ q < k') ∧ ∃ lb ss,r' = ⟨.pr,[.fv (.row lb 45 (lssE ss)),.fv (litB r1)]⟩ ∧ eS ss = r0 ∧ Fr q k' (lb :: labS ss)):=by
 simp only [impl_NodePut.f] at H
 refine viaP fun P hP=>?_
 refine callL (P:=P) (rs:=[.cell 4 59,.tmp 5]) Try.func60 rfl tF rfl Try.ntmps60 (Nat.le_of_ble_eq_true rfl) rfl ?_
 repeat' (first|contradiction|(rw [Option.ite_none_right_eq_some] at H;obtain ⟨_,H⟩:=H)|(rw [ite_or] at H;rcases H with ⟨_,H⟩|⟨_,H⟩)|(split at H)|(simp only [Option.bind_some] at H)|(rw [Option.bind_eq_some_iff] at H;obtain ⟨_,A,H⟩:=H)|(obtain ⟨_,rfl⟩:=impl_NodePut.j0_s H;simp only [impl_NodePut.j0,beq_iff_eq,bne_iff_ne,ne_eq,ite_not] at H)|(obtain ⟨_,rfl⟩:=impl_NodePut.j1_s H;simp only [impl_NodePut.j1,beq_iff_eq,bne_iff_ne,ne_eq,ite_not] at H)|cases H)
 all_goals try (rename impl_copyNode.f (_ + 1 + 1) a0 = some _=>E1;rename impl_copyNode.f _ a0 = some r0=>E2;have E:=impl_copyNode.mono _ _ _ (impl_copyNode.mono _ _ _ E2);rw [E1] at E;cases E)
 all_goals repeat' (first
  | apply awp_seq
  | (apply awp_reg;rfl;simp (decide:=true) only [↓aops_cons,↓aopsD_cons,go_sem, *])
  | (apply awp_block;(try simp only [blockQ]))
  | (apply condT;(· simp (decide:=true) only [↓aops_cons,↓aopsD_cons,go_sem, *]))
  | (apply condF;(· simp (decide:=true) only [↓aops_cons,↓aopsD_cons,go_sem, *]))
  | (apply awp_skip;simp (decide:=true) only [↓aops_cons,↓aopsD_cons,go_sem, *])
  | (apply awp_exit;simp (decide:=true) only [↓aops_cons,↓aopsD_cons,go_sem, *])
  | (apply awp_ret;simp (decide:=true) only [↓aops_cons,↓aopsD_cons,go_sem, *])
  | (apply awp_regD (id:=5) [0,1,0,7,15,0,32,0,128,511,1023,2047,2047,0,12287,32767];rfl;kernel_rfl;simp (decide:=true) only [↓aops_cons,↓aopsD_cons,go_sem, *])
  | (apply awp_regD (id:=8) [0,1,0,0,8,0,56,120,0,504,1023,2047];rfl;kernel_rfl;simp (decide:=true) only [↓aops_cons,↓aopsD_cons,go_sem, *])
  | (refine And.intro (a:=indep _ _ = true) ta ?_)
  | (rw [if_pos (show _ * _ ≤ 140737488355328 by (try simp only [List.length_append,List.length_cons,List.length_nil,eN_len,eS_len] at *);omega)];simp (decide:=true) only [↓aops_cons,↓aopsD_cons,go_sem, *])
  | (refine callI_of ((impl_SetAt_s _ _ _ _ _ _ _ _ _ _ tH).at_ _) ?_;simp (decide:=true) only [↓aops_cons,↓aopsD_cons,go_sem, *])
  | (refine callJ_of ((impl_SetAt_s _ _ _ _ _ _ _ _ _ _ tH).at_ _) ?_;simp (decide:=true) only [↓aops_cons,↓aopsD_cons,go_sem, *])
  | (refine callI_of ((impl_keysWith_s _ _ _ _ _ _ _ _ tH).at_ _) ?_;simp (decide:=true) only [↓aops_cons,↓aopsD_cons,go_sem, *])
  | (refine callJ_of ((impl_keysWith_s _ _ _ _ _ _ _ _ tH).at_ _) ?_;simp (decide:=true) only [↓aops_cons,↓aopsD_cons,go_sem, *])
  | (refine callI_ex (impl_copyNode_l _ tD _ _ _ tH) rfl ?_;rintro _ k1 ⟨⟨hk2,hq2⟩,lb,ss,rfl,he,hfr⟩;(try subst he);(try simp only [eS_len,eN_len] at *);simp (decide:=true) only [↓aops_cons,↓aopsD_cons,go_sem, *])
  | (refine callJ_ex (impl_copyNode_l _ tD _ _ _ tH) rfl ?_;rintro _ k1 ⟨⟨hk2,hq2⟩,lb,ss,rfl,he,hfr⟩;(try subst he);(try simp only [eS_len,eN_len] at *);simp (decide:=true) only [↓aops_cons,↓aopsD_cons,go_sem, *])
  | (refine callI_ex (impl_NodeNew_l _ tD _ _ tH) rfl ?_;rintro _ k1 ⟨⟨hk2,hq2⟩,lb,ss,rfl,rfl,hfr⟩;(try subst he);(try simp only [eS_len,eN_len] at *);simp (decide:=true) only [↓aops_cons,↓aopsD_cons,go_sem, *])
  | (refine callJ_ex (impl_NodeNew_l _ tD _ _ tH) rfl ?_;rintro _ k1 ⟨⟨hk2,hq2⟩,lb,ss,rfl,rfl,hfr⟩;(try subst he);(try simp only [eS_len,eN_len] at *);simp (decide:=true) only [↓aops_cons,↓aopsD_cons,go_sem, *])
  | (refine callI_ex (impl_SetPut_l _ tD _ _ _ _ _ _ _ _ tH) rfl ?_;rintro _ k1 ⟨rfl,hk3,hq3⟩;(try subst he);(try simp only [eS_len,eN_len] at *);simp (decide:=true) only [↓aops_cons,↓aopsD_cons,go_sem, *])
  | (refine callJ_ex (impl_SetPut_l _ tD _ _ _ _ _ _ _ _ tH) rfl ?_;rintro _ k1 ⟨rfl,hk3,hq3⟩;(try subst he);(try simp only [eS_len,eN_len] at *);simp (decide:=true) only [↓aops_cons,↓aopsD_cons,go_sem, *])
  | (refine And.intro (a:=indep _ _ = true) tF ?_)
  | apply awp_ret
  | (refine callI_of (impl_NodeOk_l _ _ _ _ _ (by first|assumption|(rw [eS_set];assumption)|(rw [eS_snoc];assumption))) ?_;simp (decide:=true) only [↓aops_cons,↓aopsD_cons,go_sem, *])
  | (refine callJ_of (impl_NodeOk_l _ _ _ _ _ (by first|assumption|(rw [eS_set];assumption)|(rw [eS_snoc];assumption))) ?_;simp (decide:=true) only [↓aops_cons,↓aopsD_cons,go_sem, *])
  | (refine callI_eq (impl_NodeOk_l _ lb _ (ss ++ [⟨k1,[⟨a10,a11,a12,a13,a14⟩]⟩]) _ (by rw [eS_snoc];assumption)) ?_ ?_;(· simp (decide:=true) only [↓aops_cons,↓aopsD_cons,go_sem, *]);simp (decide:=true) only [↓aops_cons,↓aopsD_cons,go_sem, *])
  | (refine callJ_eq (impl_NodeOk_l _ lb _ (ss ++ [⟨k1,[⟨a10,a11,a12,a13,a14⟩]⟩]) _ (by rw [eS_snoc];assumption)) ?_ ?_;(· simp (decide:=true) only [↓aops_cons,↓aopsD_cons,go_sem, *]);simp (decide:=true) only [↓aops_cons,↓aopsD_cons,go_sem, *])
  | (exact endP_ret tj tJ tZ ⟨.pr,[.fv (.row lb 45 (lssE (ss.set _ ⟨_,_⟩))),.fv (litB _)]⟩ ta tE (hP _ _ ⟨⟨vG,vG⟩,lb,_,rfl,eS_set _ _ _,fr_set hfr tD tD⟩))
  | (exact endP_ret tj tJ tZ ⟨.pr,[.fv (.row lb 45 (lssE (ss ++ [⟨_,[⟨a10,a11,a12,a13,a14⟩]⟩]))),.fv (litB _)]⟩ ta tE (hP _ _ ⟨⟨vG,vG⟩,lb,_,rfl,eS_snoc _,fr_snoc hfr tD tD⟩))
  | (exact endP_ret tj tJ tZ ⟨.pr,[.fv (.row lb 45 (lssE ss)),.fv (litB _)]⟩ ta tE (hP _ _ ⟨⟨vG,vG⟩,lb,ss,rfl,by first|rfl|assumption,hfr.mono tD tD⟩)))
set_option maxHeartbeats 8000000 in
set_option maxRecDepth 100000 in
theorem impl_replaced_l (q:Nat) (hq:q ≠ 0) (u1 u2 u3 u4:Nat) (s s2 r0:List Int) (ns ms:List LN) (r1:List S59) (a1 a2:Int) (H:impl_replaced.f s (eN ns) a1 a2 s2 (eN ms) = some (r0,r1)):∃ r' k',SemCall 62 [⟨.agg,[.row u1 3 (intsE s),.row u2 59 (lnsE ns)]⟩,⟨.one,[litF a1]⟩,⟨.one,[litF a2]⟩,⟨.one,[.row u3 3 (intsE s2)]⟩,⟨.one,[.row u4 59 (lnsE ms)]⟩] q r' k' ∧ (k' = q + 2 ∧ ∃ ns',r' = ⟨.agg,[.own q 3 (intsE r0),.own (q + 1) 59 (lnsE ns')]⟩ ∧ aA (ns' = ns.take a1.toNat ++ ms ++ ns.drop (wrap64 (a1 + a2)).toNat) ∧ eN ns' = r1 ∧ 0 ≤ a1 ∧ 0 ≤ wrap64 (a1 + a2) ∧ a1 < 5864062014805):=by
 simp only [impl_replaced.f,eN_len,eN_take,eN_drop,← eN_app] at H
 refine viaP fun P hP=>?_
 refine callL (P:=P) (rs:=[.cell 10 29]) Try.func62 rfl tF rfl Try.ntmps62 (Nat.le_of_ble_eq_true rfl) rfl ?_
 repeat' (first|contradiction|(rw [Option.ite_none_right_eq_some] at H;obtain ⟨_,H⟩:=H)|(rw [ite_or] at H;rcases H with ⟨_,H⟩|⟨_,H⟩)|(split at H)|(simp only [Option.bind_some] at H)|(rw [Option.bind_eq_some_iff] at H;obtain ⟨_,A,H⟩:=H)|cases H)
 all_goals repeat' (first
  | apply awp_seq
  | (apply awp_reg;rfl;simp (decide:=true) only [↓aops_cons,↓aopsD_cons,go_sem, *])
  | (apply awp_block;(try simp only [blockQ]))
  | (apply condT;(· simp (decide:=true) only [↓aops_cons,↓aopsD_cons,go_sem, *]))
  | (apply condF;(· simp (decide:=true) only [↓aops_cons,↓aopsD_cons,go_sem, *]))
  | (apply awp_skip;simp (decide:=true) only [↓aops_cons,↓aopsD_cons,go_sem, *])
  | (apply awp_exit;simp (decide:=true) only [↓aops_cons,↓aopsD_cons,go_sem, *])
  | (apply awp_ret;simp (decide:=true) only [↓aops_cons,↓aopsD_cons,go_sem, *])
  | (apply awp_regD (id:=2) [0,1,0,7,0,16,0,0,192,496,1023,2047,4095];rfl;kernel_rfl;simp (decide:=true) only [↓aops_cons,↓aopsD_cons,go_sem, *])
  | (apply awp_regD (id:=3) [0,0,2,0,14,31,0,127,0,256,0,0,3072,7936,16383,32767,65535];rfl;kernel_rfl;simp (decide:=true) only [↓aops_cons,↓aopsD_cons,go_sem, *])
  | (refine And.intro (a:=indep _ _ = true) ta ?_)
  | (rw [if_pos (show _ * _ ≤ 140737488355328 by (try simp only [List.length_append,List.length_cons,List.length_nil,eN_len,eS_len] at *);omega)];simp (decide:=true) only [↓aops_cons,↓aopsD_cons,go_sem, *])
  | (refine callI_ex (impl_copyInts_l _ tD _ _ tH) rfl ?_;rintro _ k1 ⟨rfl,rfl⟩;(try subst he);(try simp only [eS_len,eN_len,rd_eN] at *);simp (decide:=true) only [↓aops_cons,↓aopsD_cons,go_sem, *])
  | (refine callJ_ex (impl_copyInts_l _ tD _ _ tH) rfl ?_;rintro _ k1 ⟨rfl,rfl⟩;(try subst he);(try simp only [eS_len,eN_len,rd_eN] at *);simp (decide:=true) only [↓aops_cons,↓aopsD_cons,go_sem, *])
  | (refine And.intro (a:=indep _ _ = true) tF ?_)
  | apply awp_ret
  | (exact endP_ret tj tJ tZ ⟨.agg,[.own q 3 _,.own (q + 1) 59 _]⟩ ta tE (hP _ _ ⟨rfl,ns.take a1.toNat ++ ms ++ ns.drop (wrap64 (a1 + a2)).toNat,by first|rfl|(simp only [lnsE_app,intsE_app,lnsE_nil,intsE_nil,List.nil_append];done),.mk rfl,by first|rfl|simp only [eN_app,eN_take,eN_drop,List.nil_append],by assumption,by assumption,by simp only [List.length_append,List.length_nil,eN_len,List.length_take] at *;omega⟩)))
theorem impl_replaced_0 (q:Nat) (hq:q ≠ 0) (u1 u2:Nat) (s r0:List Int) (ns:List LN) (r1:List S59) (a1 a2:Int) (H:impl_replaced.f s (eN ns) a1 a2 [] [] = some (r0,r1)):∃ r' k',SemCall 62 [⟨.agg,[.row u1 3 (intsE s),.row u2 59 (lnsE ns)]⟩,⟨.one,[litF a1]⟩,⟨.one,[litF a2]⟩,⟨.one,[.lit nilV]⟩,⟨.one,[.lit nilV]⟩] q r' k' ∧ (k' = q + 2 ∧ ∃ ns',r' = ⟨.agg,[.own q 3 (intsE r0),.own (q + 1) 59 (lnsE ns')]⟩ ∧ aA (ns' = ns.take a1.toNat ++ [] ++ ns.drop (wrap64 (a1 + a2)).toNat) ∧ eN ns' = r1 ∧ 0 ≤ a1 ∧ 0 ≤ wrap64 (a1 + a2) ∧ a1 < 5864062014805):=by
 obtain ⟨r',k',h,hp⟩:=impl_replaced_l q hq u1 u2 0 0 s [] r0 ns [] r1 a1 a2 H
 exact ⟨r',k',h.args (.cons (leP_same _) (.cons (leP_same _) (.cons (leP_same _) (.cons ⟨rfl,.cons (.nil 3) .nil⟩ (.cons ⟨rfl,.cons (.nil 59) .nil⟩ .nil))))),hp⟩
theorem impl_NodeKeys_l (q lb k:Nat) (ss:List LS) (r:List S38) (H:impl_NodeKeys.f k (eS ss) = some r):SemCall 46 [⟨.agg,[.row lb 45 (lssE ss)]⟩] q ⟨.one,[.own 0 38 (keysE r)]⟩ q:=((impl_NodeKeys_s k _ r H).args (all_one (leP_node ss lb))).at_ q
set_option maxHeartbeats 8000000 in
set_option maxRecDepth 100000 in
theorem impl_merged_l (p q:Nat) (hp:p ≤ q) (hq:q ≠ 0) (k:Nat) (u1 u2:Nat) (s r0:List Int) (ns0:List LN) (r1:List S59) (hf0:Fr p q (u1 :: u2 :: labN ns0)) (H:impl_merged.f k s (eN ns0) = some (r0,r1)):∃ r' k',SemCall 65 [⟨.agg,[.row u1 3 (intsE s),.row u2 59 (lnsE ns0)]⟩] q r' k' ∧ ((k' ≠ 0 ∧ q ≤ k') ∧ ∃ l1 l2 ns,r' = ⟨.agg,[.fv (.row l1 3 (intsE r0)),.fv (.row l2 59 (lnsE ns))]⟩ ∧ eN ns = r1 ∧ Fr p k' (l1 :: l2 :: labN ns)):=by
 simp only [impl_merged.f] at H
 refine viaP fun P hP=>?_
 refine callL (P:=P) (rs:=[.cell 2 29]) Try.func65 rfl tF rfl Try.ntmps65 (Nat.le_of_ble_eq_true rfl) rfl ?_
 all_goals repeat' (first
  | apply awp_seq
  | (apply awp_reg;rfl;simp (decide:=true) only [↓aops_cons,↓aopsD_cons,go_sem, *])
  | (apply awp_block;(try simp only [blockQ]))
  | (apply condT;(· simp (decide:=true) only [↓aops_cons,↓aopsD_cons,go_sem, *]))
  | (apply condF;(· simp (decide:=true) only [↓aops_cons,↓aopsD_cons,go_sem, *]))
  | (apply awp_skip;simp (decide:=true) only [↓aops_cons,↓aopsD_cons,go_sem, *])
  | (apply awp_exit;simp (decide:=true) only [↓aops_cons,↓aopsD_cons,go_sem, *])
  | (apply awp_ret;simp (decide:=true) only [↓aops_cons,↓aopsD_cons,go_sem, *])
  | (apply awp_regD (id:=4) [0,1,0,7,15,31,0,64,0,256,960,1984,4095,8191,16383];rfl;kernel_rfl;simp (decide:=true) only [↓aops_cons,↓aopsD_cons,go_sem, *])
  | (apply awp_regD (id:=6) [0,0,0,4,0,28,60,124,0,256,768,2047,4095];rfl;kernel_rfl;simp (decide:=true) only [↓aops_cons,↓aopsD_cons,go_sem, *])
  | (refine And.intro (a:=indep _ _ = true) ta ?_)
  | (rw [if_pos (show _ * _ ≤ 140737488355328 by (try simp only [List.length_append,List.length_cons,List.length_nil,eN_len,eS_len] at *);omega)];simp (decide:=true) only [↓aops_cons,↓aopsD_cons,go_sem, *])
  | (refine callI_ex (impl_NodeNew_l _ tD _ _ ‹impl_NodeNew.f _ = some _›) ?_ ?_;(· simp (decide:=true) only [↓aops_cons,↓aopsD_cons,go_sem, *]);rintro _ k1 ⟨⟨hk2,hq2⟩,lb,ss,rfl,he,hf2⟩;(try subst he);(try simp only [eS_len,eN_len,rd_eN] at *);simp (decide:=true) only [↓aops_cons,↓aopsD_cons,go_sem, *])
  | (refine callJ_ex (impl_NodeNew_l _ tD _ _ ‹impl_NodeNew.f _ = some _›) ?_ ?_;(· simp (decide:=true) only [↓aops_cons,↓aopsD_cons,go_sem, *]);rintro _ k1 ⟨⟨hk2,hq2⟩,lb,ss,rfl,he,hf2⟩;(try subst he);(try simp only [eS_len,eN_len,rd_eN] at *);simp (decide:=true) only [↓aops_cons,↓aopsD_cons,go_sem, *])
  | (refine callI_ex (impl_replaced_l _ tD l1 l2 _ _ x [rd x x3] _ ns [⟨lb,ss⟩] _ x3 2 ‹impl_replaced.f x (eN ns) x3 2 [rd x x3] [⟨eS ss⟩] = some _›) rfl ?_;rintro _ k1 ⟨rfl,ns2,rfl,hns,he2,ha,hb,hz⟩;(try subst he);(try simp only [eS_len,eN_len,rd_eN] at *);simp (decide:=true) only [↓aops_cons,↓aopsD_cons,go_sem, *])
  | (refine callJ_ex (impl_replaced_l _ tD l1 l2 _ _ x [rd x x3] _ ns [⟨lb,ss⟩] _ x3 2 ‹impl_replaced.f x (eN ns) x3 2 [rd x x3] [⟨eS ss⟩] = some _›) rfl ?_;rintro _ k1 ⟨rfl,ns2,rfl,hns,he2,ha,hb,hz⟩;(try subst he);(try simp only [eS_len,eN_len,rd_eN] at *);simp (decide:=true) only [↓aops_cons,↓aopsD_cons,go_sem, *])
  | (refine And.intro (a:=indep _ _ = true) tF ?_)
  | apply awp_ret
  | (refine callI_of (impl_NodeKeys_l _ _ _ _ _ tH) ?_;simp (decide:=true) only [↓aops_cons,↓aopsD_cons,go_sem, *])
  | (refine callJ_of (impl_NodeKeys_l _ _ _ _ _ tH) ?_;simp (decide:=true) only [↓aops_cons,↓aopsD_cons,go_sem, *])
  | (exact endP_ret tj tJ tZ ⟨.agg,[.fv (.row l1 3 (intsE _)),.fv (.row l2 59 (lnsE ns))]⟩ ta tE (hP _ _ ⟨⟨vG,vG⟩,l1,l2,ns,rfl,rfl,hfr.mono tD tD⟩))
  | (rw [← he2] at H;refine ⟨_,_,_,?_,weakL [1041,2041] ?_,k1 + 1,k1 + 1 + 1,_,_,_,⟨?_,?_,?_⟩,rfl,H⟩;(· omega);(· simp (decide:=true) only [↓aops_cons,↓aopsD_cons,go_sem, *]);(· omega);(· omega);(· have hns:=hns.out;subst hns;exact fr_out (fr_repl (fr_tail2 hfr) ((labN_one lb ss).symm ▸ hf2.mono tD (Nat.le_refl _)) (by unfold wrap64 at hb ⊢;omega) tD tD) tD tD tD tD))
  | (refine ⟨_,_,_,?_,weakL [] ?_,_,_,_,_,_,⟨?_,?_,hfr.mono (Nat.le_refl _) ?_⟩,rfl,H⟩;(· omega);(· simp (decide:=true) only [↓aops_cons,↓aopsD_cons,go_sem, *]);(· omega);(· omega);(· omega)))
 all_goals
  refine loopX (fun m k s=>∃ (l1 l2:Nat) (x3:Int) (x:List Int) (ns:List LN),(k ≠ 0 ∧ q ≤ k ∧ Fr p k (l1 :: l2 :: labN ns)) ∧ s = ⟨mk [(1,.addr 1 0),(2,.addr 2 0),(3,.v .one [.fv (litF (x3))])],mo [(1,⟨29,[.fv (.row l1 3 (intsE x)),.fv (.row l2 59 (lnsE ns))]⟩),(2,⟨29,[.fv (.lit nilV),.fv (.lit nilV)]⟩)],mo []⟩ ∧ impl_merged.l0 m x3 x (eN ns) = some (r0,r1)) ?h0 ?hr
  case h0=>exact ⟨_,_,_,weakL [] tM,u1,u2,0,s,ns0,⟨hq,Nat.le_refl _,hf0⟩,rfl,H⟩
  case hr =>
   rintro m k s ⟨l1,l2,x3,x,ns,hc,rfl,H⟩
   obtain ⟨hk0,hk1,hfr⟩:=hc;cases m with
   | zero=>cases H
   | succ m =>
    simp only [impl_merged.l0,eN_len,rd_eN] at H
    repeat' (first|contradiction|(rw [Option.ite_none_right_eq_some] at H;obtain ⟨_,H⟩:=H)|(rw [ite_or] at H;rcases H with ⟨_,H⟩|⟨_,H⟩)|(split at H)|(simp only [Option.bind_some,List.length_append] at H)|(rw [Option.bind_eq_some_iff] at H;obtain ⟨_,A,H⟩:=H)|cases H)
    all_goals repeat' (first
      | apply awp_seq
      | (apply awp_reg;rfl;simp (decide:=true) only [↓aops_cons,↓aopsD_cons,go_sem, *])
      | (apply awp_block;(try simp only [blockQ]))
      | (apply condT;(· simp (decide:=true) only [↓aops_cons,↓aopsD_cons,go_sem, *]))
      | (apply condF;(· simp (decide:=true) only [↓aops_cons,↓aopsD_cons,go_sem, *]))
      | (apply awp_skip;simp (decide:=true) only [↓aops_cons,↓aopsD_cons,go_sem, *])
      | (apply awp_exit;simp (decide:=true) only [↓aops_cons,↓aopsD_cons,go_sem, *])
      | (apply awp_ret;simp (decide:=true) only [↓aops_cons,↓aopsD_cons,go_sem, *])
      | (apply awp_regD (id:=4) [0,1,0,7,15,31,0,64,0,256,960,1984,4095,8191,16383];rfl;kernel_rfl;simp (decide:=true) only [↓aops_cons,↓aopsD_cons,go_sem, *])
      | (apply awp_regD (id:=6) [0,0,0,4,0,28,60,124,0,256,768,2047,4095];rfl;kernel_rfl;simp (decide:=true) only [↓aops_cons,↓aopsD_cons,go_sem, *])
      | (refine And.intro (a:=indep _ _ = true) ta ?_)
      | (rw [if_pos (show _ * _ ≤ 140737488355328 by (try simp only [List.length_append,List.length_cons,List.length_nil,eN_len,eS_len] at *);omega)];simp (decide:=true) only [↓aops_cons,↓aopsD_cons,go_sem, *])
      | (refine callI_ex (impl_NodeNew_l _ tD _ _ ‹impl_NodeNew.f _ = some _›) ?_ ?_;(· simp (decide:=true) only [↓aops_cons,↓aopsD_cons,go_sem, *]);rintro _ k1 ⟨⟨hk2,hq2⟩,lb,ss,rfl,he,hf2⟩;(try subst he);(try simp only [eS_len,eN_len,rd_eN] at *);simp (decide:=true) only [↓aops_cons,↓aopsD_cons,go_sem, *])
      | (refine callJ_ex (impl_NodeNew_l _ tD _ _ ‹impl_NodeNew.f _ = some _›) ?_ ?_;(· simp (decide:=true) only [↓aops_cons,↓aopsD_cons,go_sem, *]);rintro _ k1 ⟨⟨hk2,hq2⟩,lb,ss,rfl,he,hf2⟩;(try subst he);(try simp only [eS_len,eN_len,rd_eN] at *);simp (decide:=true) only [↓aops_cons,↓aopsD_cons,go_sem, *])
      | (refine callI_ex (impl_replaced_l _ tD l1 l2 _ _ x [rd x x3] _ ns [⟨lb,ss⟩] _ x3 2 ‹impl_replaced.f x (eN ns) x3 2 [rd x x3] [⟨eS ss⟩] = some _›) rfl ?_;rintro _ k1 ⟨rfl,ns2,rfl,hns,he2,ha,hb,hz⟩;(try subst he);(try simp only [eS_len,eN_len,rd_eN] at *);simp (decide:=true) only [↓aops_cons,↓aopsD_cons,go_sem, *])
      | (refine callJ_ex (impl_replaced_l _ tD l1 l2 _ _ x [rd x x3] _ ns [⟨lb,ss⟩] _ x3 2 ‹impl_replaced.f x (eN ns) x3 2 [rd x x3] [⟨eS ss⟩] = some _›) rfl ?_;rintro _ k1 ⟨rfl,ns2,rfl,hns,he2,ha,hb,hz⟩;(try subst he);(try simp only [eS_len,eN_len,rd_eN] at *);simp (decide:=true) only [↓aops_cons,↓aopsD_cons,go_sem, *])
      | (refine And.intro (a:=indep _ _ = true) tF ?_)
      | apply awp_ret
      | (refine callI_of (impl_NodeKeys_l _ _ _ _ _ tH) ?_;simp (decide:=true) only [↓aops_cons,↓aopsD_cons,go_sem, *])
      | (refine callJ_of (impl_NodeKeys_l _ _ _ _ _ tH) ?_;simp (decide:=true) only [↓aops_cons,↓aopsD_cons,go_sem, *])
      | (exact endP_ret tj tJ tZ ⟨.agg,[.fv (.row l1 3 (intsE _)),.fv (.row l2 59 (lnsE ns))]⟩ ta tE (hP _ _ ⟨⟨vG,vG⟩,l1,l2,ns,rfl,rfl,hfr.mono tD tD⟩))
      | (rw [← he2] at H;refine ⟨_,_,_,?_,weakL [1041,2041] ?_,k1 + 1,k1 + 1 + 1,_,_,_,⟨?_,?_,?_⟩,rfl,H⟩;(· omega);(· simp (decide:=true) only [↓aops_cons,↓aopsD_cons,go_sem, *]);(· omega);(· omega);(· have hns:=hns.out;subst hns;exact fr_out (fr_repl (fr_tail2 hfr) ((labN_one lb ss).symm ▸ hf2.mono tD (Nat.le_refl _)) (by unfold wrap64 at hb ⊢;omega) tD tD) tD tD tD tD))
      | (refine ⟨_,_,_,?_,weakL [] ?_,_,_,_,_,_,⟨?_,?_,hfr.mono (Nat.le_refl _) ?_⟩,rfl,H⟩;(· omega);(· simp (decide:=true) only [↓aops_cons,↓aopsD_cons,go_sem, *]);(· omega);(· omega);(· omega)))
end Go.Proofs.Ytamjbjkbineafaa.EvFnExactTreePut

namespace Go.Proofs.Ytamjbjkbineafaa.EvFnExactTreePut
open Go Go.RowKit Go.Proofs.Ytamjbjkbineafaa.Ev Go.Proofs.Ytamjbjkbineafaa.PFnExactTreePut Go.Proofs.YtamjbjkbineafaaW.PrintWords Go.Proofs.YtamjbjkbineafaaW.PrintLast
set_option linter.unusedVariables false
set_option linter.unusedSimpArgs false
attribute [local go_sem] aops_nil outI_done outI_call aopsD_nil outJ_done outJ_call semG sem0 semD semS M.run evO constA litOk litA AS.app AS.put List.map startL litF litB upd_at List.length_set Int.toNat_lt guardA boolA intA rowO cellsA readA argsL partsL fillL fzC fzL fzW loadV importR importC importW ownsP tsz tagg known elem? tby zeroC isNone binV dropW isCall resOf resC outL outC ownIds nodupB AS.ev mk_nil mk_at mo_nil mo_at beq_dec bne_dec thenQ blockQ kok_same kok_nx nx_zero if_true if_false Nat.add_zero Nat.zero_add Nat.le_refl true_and and_true List.getElem?_cons_zero List.getElem?_cons_succ List.getElem?_nil List.drop_succ_cons List.drop_zero List.take_succ_cons List.take_zero List.length_cons List.length_nil List.append_nil List.nil_append List.cons_append List.length_append List.any_cons List.any_nil keyC keysF setsF nodesF intsF nodeC keysE_len keysE_app keysE_one keysE_nil setsE_len setsE_app setsE_one setsE_nil nodesE_len nodesE_app nodesE_one nodesE_nil intsE_len intsE_app intsE_one intsE_nil keysE_get setsE_get nodesE_get intsE_get keysE_take keysE_drop nodesE_take nodesE_drop intsE_take intsE_drop setsE_set nodesE_set leK leL leA tmOk boxOk memOk rowOk rowsOk fzR List.contains_cons List.contains_nil Option.map_some Option.map_none ge_iff_le gt_iff_lt leF_same leE_same Option.isSome_some decide_true decide_false endQ own0 leC leCs or_true true_or range0 range1 range2 w64_ Bool.not_true Bool.not_false bne_self_eq_false beq_self_eq_true Bool.and_true Bool.false_or Bool.or_false List.getLast?_cons_cons List.getLast?_singleton List.dropLast_cons_cons List.dropLast_singleton Option.some.injEq M.rds W.loc nilV setC intC intsE_cons nodesE_cons leF_nil lB lC List.drop_nil
set_option maxHeartbeats 8000000 in
set_option maxRecDepth 100000 in
theorem impl_SpotOf_s (a0:Int) (a1:Int) (r:Int) (H:impl_SpotOf.f a0 a1 = some r):SemCall 63 [⟨.one,[litF a0]⟩,⟨.one,[litF a1]⟩] 0 ⟨.one,[.fv (litF r)]⟩ 0:=by
 simp only [impl_SpotOf.f] at H
 refine call0 (rs:=[.tmp 4]) Try.func63 rfl tF rfl Try.ntmps63 (Nat.le_of_ble_eq_true rfl) rfl ?_
 repeat' (first|contradiction|(rw [Option.ite_none_right_eq_some] at H;obtain ⟨_,H⟩:=H)|(rw [ite_or] at H;rcases H with ⟨_,H⟩|⟨_,H⟩)|(split at H)|(simp only [Option.bind_some] at H)|(rw [Option.bind_eq_some_iff] at H;obtain ⟨_,A,H⟩:=H)|cases H)
 all_goals repeat' (first
  | apply awp_seq
  | (apply awp_reg;rfl;simp (decide:=true) only [↓aops_cons,↓aopsD_cons,go_sem, *])
  | (apply awp_block;(try simp only [blockQ]))
  | (apply condT;(· simp (decide:=true) only [↓aops_cons,↓aopsD_cons,go_sem, *]))
  | (apply condF;(· simp (decide:=true) only [↓aops_cons,↓aopsD_cons,go_sem, *]))
  | (apply awp_skip;simp (decide:=true) only [↓aops_cons,↓aopsD_cons,go_sem, *])
  | (apply awp_exit;simp (decide:=true) only [↓aops_cons,↓aopsD_cons,go_sem, *])
  | (apply awp_ret;simp (decide:=true) only [↓aops_cons,↓aopsD_cons,go_sem, *])
  | (refine And.intro (a:=indep _ _ = true) ta ?_)
  | (rw [if_pos (show _ * _ ≤ 140737488355328 by (try simp only [List.length_append,List.length_cons,List.length_nil] at *);omega)];simp (decide:=true) only [↓aops_cons,↓aopsD_cons,go_sem, *]))
set_option maxHeartbeats 8000000 in
set_option maxRecDepth 100000 in
theorem impl_inBounds_s (k:Nat) (a00:List Int) (a01:List S59) (a1:Int) (r:Bool) (H:impl_inBounds.f k a00 a01 a1 = some r):SemCall 45 [⟨.agg,[intsF a00,nodesF a01]⟩,⟨.one,[litF a1]⟩] 0 ⟨.one,[.fv (litB r)]⟩ 0:=by
 simp only [impl_inBounds.f] at H
 refine call0 (rs:=[.tmp 4]) Try.func45 rfl tF rfl Try.ntmps45 (Nat.le_of_ble_eq_true rfl) rfl ?_
 repeat' (first|contradiction|(rw [Option.ite_none_right_eq_some] at H;obtain ⟨_,H⟩:=H)|(rw [ite_or] at H;rcases H with ⟨_,H⟩|⟨_,H⟩)|(split at H)|(simp only [Option.bind_some] at H)|(rw [Option.bind_eq_some_iff] at H;obtain ⟨_,A,H⟩:=H)|cases H)
 all_goals repeat' (first
  | apply awp_seq
  | (apply awp_reg;rfl;simp (decide:=true) only [↓aops_cons,↓aopsD_cons,go_sem, *])
  | (apply awp_block;(try simp only [blockQ]))
  | (apply condT;(· simp (decide:=true) only [↓aops_cons,↓aopsD_cons,go_sem, *]))
  | (apply condF;(· simp (decide:=true) only [↓aops_cons,↓aopsD_cons,go_sem, *]))
  | (apply awp_skip;simp (decide:=true) only [↓aops_cons,↓aopsD_cons,go_sem, *])
  | (apply awp_exit;simp (decide:=true) only [↓aops_cons,↓aopsD_cons,go_sem, *])
  | (apply awp_ret;simp (decide:=true) only [↓aops_cons,↓aopsD_cons,go_sem, *])
  | (refine And.intro (a:=indep _ _ = true) ta ?_)
  | (rw [if_pos (show _ * _ ≤ 140737488355328 by (try simp only [List.length_append,List.length_cons,List.length_nil] at *);omega)];simp (decide:=true) only [↓aops_cons,↓aopsD_cons,go_sem, *])
  | (refine callI_of (impl_SpotOf_s _ _ _ tH) ?_;simp (decide:=true) only [↓aops_cons,↓aopsD_cons,go_sem, *])
  | (refine callJ_of (impl_SpotOf_s _ _ _ tH) ?_;simp (decide:=true) only [↓aops_cons,↓aopsD_cons,go_sem, *])
  | (refine ⟨_,0,_,?_,weakL [] ?_,_,rfl,rfl,H⟩;(· omega);(· simp (decide:=true) only [↓aops_cons,↓aopsD_cons,go_sem, *]))
  | (refine ⟨_,0,_,?_,weakL [] ?_,tD,_,rfl,rfl,H⟩;(· omega);(· simp (decide:=true) only [↓aops_cons,↓aopsD_cons,go_sem, *])))
 all_goals
  refine loopX (fun m k s=>∃ (x17:Int),k = 0 ∧ s = ⟨mk [(2,.addr 2 0),(1,.v .one [.fv (litF a1)]),(15,.v .one [.fv (setsF ((rd_T59 a01 a1).f0))]),(16,.v .one [.fv (litF ((rd_T59 a01 a1).f0.length:Int))]),(17,.v .one [.fv (litF x17)])],mo [(2,⟨29,[.fv (intsF a00),.fv (nodesF a01)]⟩)],mo []⟩ ∧ impl_inBounds.l0 m a1 (rd_T59 a01 a1).f0 ((rd_T59 a01 a1).f0.length:Int) x17 a00 a01 = some r) ?h0 ?hr
  case h0=>exact ⟨_,0,_,weakL [] tM,0,rfl,rfl,H⟩
  case hr =>
   rintro m k s ⟨x17,rfl,rfl,H⟩
   cases m with
   | zero=>cases H
   | succ m =>
    simp only [impl_inBounds.l0] at H
    repeat' (first|contradiction|(rw [Option.ite_none_right_eq_some] at H;obtain ⟨_,H⟩:=H)|(rw [ite_or] at H;rcases H with ⟨_,H⟩|⟨_,H⟩)|(split at H)|(simp only [Option.bind_some] at H)|(rw [Option.bind_eq_some_iff] at H;obtain ⟨_,A,H⟩:=H)|cases H)
    all_goals repeat' (first
      | apply awp_seq
      | (apply awp_reg;rfl;simp (decide:=true) only [↓aops_cons,↓aopsD_cons,go_sem, *])
      | (apply awp_block;(try simp only [blockQ]))
      | (apply condT;(· simp (decide:=true) only [↓aops_cons,↓aopsD_cons,go_sem, *]))
      | (apply condF;(· simp (decide:=true) only [↓aops_cons,↓aopsD_cons,go_sem, *]))
      | (apply awp_skip;simp (decide:=true) only [↓aops_cons,↓aopsD_cons,go_sem, *])
      | (apply awp_exit;simp (decide:=true) only [↓aops_cons,↓aopsD_cons,go_sem, *])
      | (apply awp_ret;simp (decide:=true) only [↓aops_cons,↓aopsD_cons,go_sem, *])
      | (refine And.intro (a:=indep _ _ = true) ta ?_)
      | (rw [if_pos (show _ * _ ≤ 140737488355328 by (try simp only [List.length_append,List.length_cons,List.length_nil] at *);omega)];simp (decide:=true) only [↓aops_cons,↓aopsD_cons,go_sem, *])
      | (refine callI_of (impl_SpotOf_s _ _ _ tH) ?_;simp (decide:=true) only [↓aops_cons,↓aopsD_cons,go_sem, *])
      | (refine callJ_of (impl_SpotOf_s _ _ _ tH) ?_;simp (decide:=true) only [↓aops_cons,↓aopsD_cons,go_sem, *])
      | (refine ⟨_,0,_,?_,weakL [] ?_,_,rfl,rfl,H⟩;(· omega);(· simp (decide:=true) only [↓aops_cons,↓aopsD_cons,go_sem, *]))
      | (refine ⟨_,0,_,?_,weakL [] ?_,tD,_,rfl,rfl,H⟩;(· omega);(· simp (decide:=true) only [↓aops_cons,↓aopsD_cons,go_sem, *])))
    all_goals
     refine loopX (fun n k s=>n ≤ m ∧ ∃ (x23:Int),k = 0 ∧ s = ⟨mk [(2,.addr 2 0),(1,.v .one [.fv (litF a1)]),(15,.v .one [.fv (setsF ((rd_T59 a01 a1).f0))]),(16,.v .one [.fv (litF ((rd_T59 a01 a1).f0.length:Int))]),(17,.v .one [.fv (litF x17)]),(21,.v .one [.fv (keysF (rd_L6 (rd_T59 a01 a1).f0 x17))]),(22,.v .one [.fv (litF ((rd_L6 (rd_T59 a01 a1).f0 x17).length:Int))]),(23,.v .one [.fv (litF x23)])],mo [(2,⟨29,[.fv (intsF a00),.fv (nodesF a01)]⟩)],mo []⟩ ∧ impl_inBounds.l1 n a1 (rd_T59 a01 a1).f0 ((rd_T59 a01 a1).f0.length:Int) x17 (rd_L6 (rd_T59 a01 a1).f0 x17) ((rd_L6 (rd_T59 a01 a1).f0 x17).length:Int) x23 a00 a01 = some r) ?h0 ?hr
     case h0=>exact ⟨_,0,_,weakL [] tM,Nat.le_refl _,0,rfl,rfl,H⟩
     case hr =>
      rintro n k s ⟨hn,x23,rfl,rfl,H⟩
      cases n with
      | zero=>cases H
      | succ n =>
       simp only [impl_inBounds.l1] at H
       repeat' (first|contradiction|(rw [Option.ite_none_right_eq_some] at H;obtain ⟨_,H⟩:=H)|(rw [ite_or] at H;rcases H with ⟨_,H⟩|⟨_,H⟩)|(split at H)|(simp only [Option.bind_some] at H)|(rw [Option.bind_eq_some_iff] at H;obtain ⟨_,A,H⟩:=H)|cases H)
       all_goals repeat' (first
         | apply awp_seq
         | (apply awp_reg;rfl;simp (decide:=true) only [↓aops_cons,↓aopsD_cons,go_sem, *])
         | (apply awp_block;(try simp only [blockQ]))
         | (apply condT;(· simp (decide:=true) only [↓aops_cons,↓aopsD_cons,go_sem, *]))
         | (apply condF;(· simp (decide:=true) only [↓aops_cons,↓aopsD_cons,go_sem, *]))
         | (apply awp_skip;simp (decide:=true) only [↓aops_cons,↓aopsD_cons,go_sem, *])
         | (apply awp_exit;simp (decide:=true) only [↓aops_cons,↓aopsD_cons,go_sem, *])
         | (apply awp_ret;simp (decide:=true) only [↓aops_cons,↓aopsD_cons,go_sem, *])
         | (refine And.intro (a:=indep _ _ = true) ta ?_)
         | (rw [if_pos (show _ * _ ≤ 140737488355328 by (try simp only [List.length_append,List.length_cons,List.length_nil] at *);omega)];simp (decide:=true) only [↓aops_cons,↓aopsD_cons,go_sem, *])
         | (refine callI_of (impl_SpotOf_s _ _ _ tH) ?_;simp (decide:=true) only [↓aops_cons,↓aopsD_cons,go_sem, *])
         | (refine callJ_of (impl_SpotOf_s _ _ _ tH) ?_;simp (decide:=true) only [↓aops_cons,↓aopsD_cons,go_sem, *])
         | (refine ⟨_,0,_,?_,weakL [] ?_,_,rfl,rfl,H⟩;(· omega);(· simp (decide:=true) only [↓aops_cons,↓aopsD_cons,go_sem, *]))
         | (refine ⟨_,0,_,?_,weakL [] ?_,tD,_,rfl,rfl,H⟩;(· omega);(· simp (decide:=true) only [↓aops_cons,↓aopsD_cons,go_sem, *])))
end Go.Proofs.Ytamjbjkbineafaa.EvFnExactTreePut

namespace Go.Proofs.Ytamjbjkbineafaa.EvFnExactTreePut
open Go Go.RowKit Go.Proofs.Ytamjbjkbineafaa.Ev Go.Proofs.Ytamjbjkbineafaa.PFnExactTreePut Go.Proofs.YtamjbjkbineafaaW.PrintWords Go.Proofs.YtamjbjkbineafaaW.PrintLast
set_option linter.unusedVariables false
set_option linter.unusedSimpArgs false
attribute [local go_sem] aops_nil outI_done outI_call aopsD_nil outJ_done outJ_call semG sem0 semD semS M.run evO constA litOk litA AS.app AS.put List.map startL litF litB upd_at List.length_set Int.toNat_lt guardA boolA intA rowO cellsA readA argsL partsL fillL fzC fzL fzW loadV importR importC importW ownsP tsz tagg known elem? tby zeroC isNone binV dropW isCall resOf resC outL outC ownIds nodupB AS.ev mk_nil mk_at mo_nil mo_at beq_dec bne_dec thenQ blockQ kok_same kok_nx nx_zero if_true if_false Nat.add_zero Nat.zero_add Nat.le_refl true_and and_true List.getElem?_cons_zero List.getElem?_cons_succ List.getElem?_nil List.drop_succ_cons List.drop_zero List.take_succ_cons List.take_zero List.length_cons List.length_nil List.append_nil List.nil_append List.cons_append List.length_append List.any_cons List.any_nil keyC keysF setsF nodesF intsF nodeC keysE_len keysE_app keysE_one keysE_nil setsE_len setsE_app setsE_one setsE_nil nodesE_len nodesE_app nodesE_one nodesE_nil intsE_len intsE_app intsE_one intsE_nil keysE_get setsE_get nodesE_get intsE_get keysE_take keysE_drop nodesE_take nodesE_drop intsE_take intsE_drop setsE_set nodesE_set leK leL leA tmOk boxOk memOk rowOk rowsOk fzR List.contains_cons List.contains_nil Option.map_some Option.map_none ge_iff_le gt_iff_lt leF_same leE_same Option.isSome_some decide_true decide_false endQ own0 leC leCs or_true true_or range0 range1 range2 w64_ Bool.not_true Bool.not_false bne_self_eq_false beq_self_eq_true Bool.and_true Bool.false_or Bool.or_false List.getLast?_cons_cons List.getLast?_singleton List.dropLast_cons_cons List.dropLast_singleton Option.some.injEq M.rds W.loc nilV setC intC intsE_cons nodesE_cons leF_nil lB lC List.drop_nil Int.lt_irrefl
theorem impl_TreeOk.j0_s {y0 y1 y2 r} {k:Nat} (H:impl_TreeOk.j0 k y0 y1 y2 = some r):∃ q,k = q + 1:=by cases k with
 | zero=>cases H
 | succ q=>exact ⟨q,rfl⟩
theorem impl_TreeOk.j2_s {y0 y1 y2 y3 y4 y5 y6 y7 y8 r} {k:Nat} (H:impl_TreeOk.j2 k y0 y1 y2 y3 y4 y5 y6 y7 y8 = some r):∃ q,k = q + 1:=by cases k with
 | zero=>cases H
 | succ q=>exact ⟨q,rfl⟩
set_option maxHeartbeats 8000000 in
set_option maxRecDepth 100000 in
theorem impl_TreeOk_s (k:Nat) (a00:List Int) (a01:List S59) (r:Bool) (H:impl_TreeOk.f k a00 a01 = some r):SemCall 17 [⟨.agg,[intsF a00,nodesF a01]⟩] 0 ⟨.one,[.fv (litB r)]⟩ 0:=by
 simp only [impl_TreeOk.f] at H
 refine call0 (rs:=[.tmp 2]) Try.func17 rfl tF rfl Try.ntmps17 (Nat.le_of_ble_eq_true rfl) rfl ?_
 repeat' (first|contradiction|(rw [Option.ite_none_right_eq_some] at H;obtain ⟨_,H⟩:=H)|(rw [ite_or] at H;rcases H with ⟨_,H⟩|⟨_,H⟩)|(split at H)|(simp only [Option.bind_some] at H)|(rw [Option.bind_eq_some_iff] at H;obtain ⟨_,A,H⟩:=H)|(obtain ⟨_,rfl⟩:=impl_TreeOk.j0_s H;simp only [impl_TreeOk.j0,beq_iff_eq,bne_iff_ne,ne_eq,ite_not] at H)|(obtain ⟨_,rfl⟩:=impl_TreeOk.j2_s H;simp only [impl_TreeOk.j2,beq_iff_eq,bne_iff_ne,ne_eq,ite_not] at H)|cases H)
 all_goals try (have h0:(0:Int) < (a01.length:Int):=by omega)
 all_goals repeat' (first
  | apply awp_seq
  | (apply awp_reg;rfl;simp (decide:=true) only [↓aops_cons,↓aopsD_cons,go_sem, *])
  | (apply awp_block;(try simp only [blockQ]))
  | (apply condT;(· simp (decide:=true) only [↓aops_cons,↓aopsD_cons,go_sem, *]))
  | (apply condF;(· simp (decide:=true) only [↓aops_cons,↓aopsD_cons,go_sem, *]))
  | (apply awp_skip;simp (decide:=true) only [↓aops_cons,↓aopsD_cons,go_sem, *])
  | (apply awp_exit;simp (decide:=true) only [↓aops_cons,↓aopsD_cons,go_sem, *])
  | (apply awp_ret;simp (decide:=true) only [↓aops_cons,↓aopsD_cons,go_sem, *])
  | (apply awp_regD (id:=7) [0,1,3,7,15,7,39,127,255,7,519,7,3591,7687,16383,32767,65535,131071,262143,524287,1048575,2097151,4194303,4194303,16777215,33554431,67108863];rfl;kernel_rfl;simp (decide:=true) only [↓aops_cons,↓aopsD_cons,go_sem, *])
  | (refine And.intro (a:=indep _ _ = true) ta ?_)
  | (rw [if_pos (show _ * _ ≤ 140737488355328 by (try simp only [List.length_append,List.length_cons,List.length_nil] at *);omega)];simp (decide:=true) only [↓aops_cons,↓aopsD_cons,go_sem, *])
  | (refine callI_of (impl_within_s _ _ _ _ tH) ?_;simp (decide:=true) only [↓aops_cons,↓aopsD_cons,go_sem, *])
  | (refine callJ_of (impl_within_s _ _ _ _ tH) ?_;simp (decide:=true) only [↓aops_cons,↓aopsD_cons,go_sem, *])
  | (refine callI_of (impl_NodeOk_s _ _ _ tH) ?_;simp (decide:=true) only [↓aops_cons,↓aopsD_cons,go_sem, *])
  | (refine callJ_of (impl_NodeOk_s _ _ _ tH) ?_;simp (decide:=true) only [↓aops_cons,↓aopsD_cons,go_sem, *])
  | (refine callI_of (impl_inBounds_s _ _ _ _ _ tH) ?_;simp (decide:=true) only [↓aops_cons,↓aopsD_cons,go_sem, *])
  | (refine callJ_of (impl_inBounds_s _ _ _ _ _ tH) ?_;simp (decide:=true) only [↓aops_cons,↓aopsD_cons,go_sem, *])
  | (refine callI_of (impl_NodeKeys_s _ _ _ tH) ?_;simp (decide:=true) only [↓aops_cons,↓aopsD_cons,go_sem, *])
  | (refine callJ_of (impl_NodeKeys_s _ _ _ tH) ?_;simp (decide:=true) only [↓aops_cons,↓aopsD_cons,go_sem, *])
  | (refine ⟨_,0,_,?_,weakL [] ?_,_,_,rfl,rfl,H⟩;(· omega);(· simp (decide:=true) only [↓aops_cons,↓aopsD_cons,go_sem, *])))
 all_goals try (rename (a00.length:Int) = (a01.length:Int)=>hq;clear hq)
 all_goals
  refine loopX (fun m k s=>∃ (x3 x31:Int),k = 0 ∧ s = ⟨mk [(1,.addr 1 0),(3,.v .one [.fv (litF x3)]),(29,.v .one [.fv (nodesF (a01))]),(30,.v .one [.fv (litF (a01.length:Int))]),(31,.v .one [.fv (litF x31)])],mo [(1,⟨29,[.fv (intsF a00),.fv (nodesF a01)]⟩)],mo []⟩ ∧ impl_TreeOk.l0 m x3 a01 (a01.length:Int) x31 a00 a01 = some r) ?h0 ?hr
  case h0=>exact ⟨_,0,_,weakL [] tM,0,0,rfl,rfl,H⟩
  case hr =>
   rintro m k s ⟨x3,x31,rfl,rfl,H⟩
   cases m with
   | zero=>cases H
   | succ m =>
    simp only [impl_TreeOk.l0] at H
    repeat' (first|contradiction|(rw [Option.ite_none_right_eq_some] at H;obtain ⟨_,H⟩:=H)|(rw [ite_or] at H;rcases H with ⟨_,H⟩|⟨_,H⟩)|(split at H)|(simp only [Option.bind_some] at H)|(rw [Option.bind_eq_some_iff] at H;obtain ⟨_,A,H⟩:=H)|(obtain ⟨_,rfl⟩:=impl_TreeOk.j0_s H;simp only [impl_TreeOk.j0,beq_iff_eq,bne_iff_ne,ne_eq,ite_not] at H)|(obtain ⟨_,rfl⟩:=impl_TreeOk.j2_s H;simp only [impl_TreeOk.j2,beq_iff_eq,bne_iff_ne,ne_eq,ite_not] at H)|cases H)
    all_goals repeat' (first
      | apply awp_seq
      | (apply awp_reg;rfl;simp (decide:=true) only [↓aops_cons,↓aopsD_cons,go_sem, *])
      | (apply awp_block;(try simp only [blockQ]))
      | (apply condT;(· simp (decide:=true) only [↓aops_cons,↓aopsD_cons,go_sem, *]))
      | (apply condF;(· simp (decide:=true) only [↓aops_cons,↓aopsD_cons,go_sem, *]))
      | (apply awp_skip;simp (decide:=true) only [↓aops_cons,↓aopsD_cons,go_sem, *])
      | (apply awp_exit;simp (decide:=true) only [↓aops_cons,↓aopsD_cons,go_sem, *])
      | (apply awp_ret;simp (decide:=true) only [↓aops_cons,↓aopsD_cons,go_sem, *])
      | (apply awp_regD (id:=7) [0,1,3,7,15,7,39,127,255,7,519,7,3591,7687,16383,32767,65535,131071,262143,524287,1048575,2097151,4194303,4194303,16777215,33554431,67108863];rfl;kernel_rfl;simp (decide:=true) only [↓aops_cons,↓aopsD_cons,go_sem, *])
      | (refine And.intro (a:=indep _ _ = true) ta ?_)
      | (rw [if_pos (show _ * _ ≤ 140737488355328 by (try simp only [List.length_append,List.length_cons,List.length_nil] at *);omega)];simp (decide:=true) only [↓aops_cons,↓aopsD_cons,go_sem, *])
      | (refine callI_of (impl_within_s _ _ _ _ tH) ?_;simp (decide:=true) only [↓aops_cons,↓aopsD_cons,go_sem, *])
      | (refine callJ_of (impl_within_s _ _ _ _ tH) ?_;simp (decide:=true) only [↓aops_cons,↓aopsD_cons,go_sem, *])
      | (refine callI_of (impl_NodeOk_s _ _ _ tH) ?_;simp (decide:=true) only [↓aops_cons,↓aopsD_cons,go_sem, *])
      | (refine callJ_of (impl_NodeOk_s _ _ _ tH) ?_;simp (decide:=true) only [↓aops_cons,↓aopsD_cons,go_sem, *])
      | (refine callI_of (impl_inBounds_s _ _ _ _ _ tH) ?_;simp (decide:=true) only [↓aops_cons,↓aopsD_cons,go_sem, *])
      | (refine callJ_of (impl_inBounds_s _ _ _ _ _ tH) ?_;simp (decide:=true) only [↓aops_cons,↓aopsD_cons,go_sem, *])
      | (refine callI_of (impl_NodeKeys_s _ _ _ tH) ?_;simp (decide:=true) only [↓aops_cons,↓aopsD_cons,go_sem, *])
      | (refine callJ_of (impl_NodeKeys_s _ _ _ tH) ?_;simp (decide:=true) only [↓aops_cons,↓aopsD_cons,go_sem, *])
      | (refine ⟨_,0,_,?_,weakL [] ?_,_,_,rfl,rfl,H⟩;(· omega);(· simp (decide:=true) only [↓aops_cons,↓aopsD_cons,go_sem, *])))
end Go.Proofs.Ytamjbjkbineafaa.EvFnExactTreePut

namespace Go.Proofs.Ytamjbjkbineafaa.EvFnExactTreePut
open Go Go.RowKit Go.Proofs.Ytamjbjkbineafaa.Ev Go.Proofs.Ytamjbjkbineafaa.PFnExactTreePut Go.Proofs.YtamjbjkbineafaaW.PrintWords Go.Proofs.YtamjbjkbineafaaW.PrintLast
set_option linter.unusedVariables false
set_option linter.unusedSimpArgs false
attribute [local go_sem] aops_nil outI_done outI_call aopsD_nil outJ_done outJ_call semG sem0 semD semS M.run evO constA litOk litA AS.app AS.put List.map startL litF litB upd_at List.length_set Int.toNat_lt guardA boolA intA rowO cellsA readA argsL partsL fillL fzC fzL fzW loadV importR importC importW ownsP tsz tagg known elem? tby zeroC isNone binV dropW isCall resOf resC outL outC ownIds nodupB AS.ev mk_nil mk_at mo_nil mo_at beq_dec bne_dec thenQ blockQ kok_same kok_nx nx_zero if_true if_false Nat.add_zero Nat.zero_add Nat.le_refl true_and and_true List.getElem?_cons_zero List.getElem?_cons_succ List.getElem?_nil List.drop_succ_cons List.drop_zero List.take_succ_cons List.take_zero List.length_cons List.length_nil List.append_nil List.nil_append List.cons_append List.length_append List.any_cons List.any_nil keyC keysF setsF nodesF intsF nodeC keysE_len keysE_app keysE_one keysE_nil setsE_len setsE_app setsE_one setsE_nil nodesE_len nodesE_app nodesE_one nodesE_nil intsE_len intsE_app intsE_one intsE_nil keysE_get setsE_get nodesE_get intsE_get keysE_take keysE_drop nodesE_take nodesE_drop intsE_take intsE_drop setsE_set nodesE_set leK leL leA tmOk boxOk memOk rowOk rowsOk fzR List.contains_cons List.contains_nil Option.map_some Option.map_none ge_iff_le gt_iff_lt leF_same leE_same Option.isSome_some decide_true decide_false endQ own0 leC leCs or_true true_or range0 range1 range2 w64_ Bool.not_true Bool.not_false bne_self_eq_false beq_self_eq_true Bool.and_true Bool.false_or Bool.or_false List.getLast?_cons_cons List.getLast?_singleton List.dropLast_cons_cons List.dropLast_singleton Option.some.injEq M.rds W.loc nilV setC intC intsE_cons nodesE_cons leF_nil lB lC List.drop_nil
set_option maxHeartbeats 8000000 in
set_option maxRecDepth 100000 in
theorem impl_WhereIn_s (k:Nat) (a00:List Int) (a01:List S59) (a1:Int) (a2:Int) (r:Int) (H:impl_WhereIn.f k a00 a01 a1 a2 = some r):SemCall 59 [⟨.agg,[intsF a00,nodesF a01]⟩,⟨.one,[litF a1]⟩,⟨.one,[litF a2]⟩] 0 ⟨.one,[.fv (litF r)]⟩ 0:=by
 simp only [impl_WhereIn.f] at H
 refine call0 (rs:=[.tmp 6]) Try.func59 rfl tF rfl Try.ntmps59 (Nat.le_of_ble_eq_true rfl) rfl ?_
 repeat' (first|contradiction|(rw [Option.ite_none_right_eq_some] at H;obtain ⟨_,H⟩:=H)|(rw [ite_or] at H;rcases H with ⟨_,H⟩|⟨_,H⟩)|(split at H)|(simp only [Option.bind_some] at H)|(rw [Option.bind_eq_some_iff] at H;obtain ⟨_,A,H⟩:=H)|cases H)
 all_goals repeat' (first
  | apply awp_seq
  | (apply awp_reg;rfl;simp (decide:=true) only [↓aops_cons,↓aopsD_cons,go_sem, *])
  | (apply awp_block;(try simp only [blockQ]))
  | (apply condT;(· simp (decide:=true) only [↓aops_cons,↓aopsD_cons,go_sem, *]))
  | (apply condF;(· simp (decide:=true) only [↓aops_cons,↓aopsD_cons,go_sem, *]))
  | (apply awp_skip;simp (decide:=true) only [↓aops_cons,↓aopsD_cons,go_sem, *])
  | (apply awp_exit;simp (decide:=true) only [↓aops_cons,↓aopsD_cons,go_sem, *])
  | (apply awp_ret;simp (decide:=true) only [↓aops_cons,↓aopsD_cons,go_sem, *])
  | (apply awp_regD (id:=4) [0,1,0,7,15,0,0,96,255];rfl;kernel_rfl;simp (decide:=true) only [↓aops_cons,↓aopsD_cons,go_sem, *])
  | (refine And.intro (a:=indep _ _ = true) ta ?_)
  | (rw [if_pos (show _ * _ ≤ 140737488355328 by (try simp only [List.length_append,List.length_cons,List.length_nil] at *);omega)];simp (decide:=true) only [↓aops_cons,↓aopsD_cons,go_sem, *])
  | (refine callI_of (impl_SpotOf_s _ _ _ tH) ?_;simp (decide:=true) only [↓aops_cons,↓aopsD_cons,go_sem, *])
  | (refine callJ_of (impl_SpotOf_s _ _ _ tH) ?_;simp (decide:=true) only [↓aops_cons,↓aopsD_cons,go_sem, *])
  | (refine ⟨_,0,_,?_,weakL [] ?_,_,rfl,rfl,H⟩;(· omega);(· simp (decide:=true) only [↓aops_cons,↓aopsD_cons,go_sem, *])))
 all_goals
  refine loopX (fun m k s=>∃ (x7:Int),k = 0 ∧ s = ⟨mk [(3,.addr 3 0),(1,.v .one [.fv (litF a1)]),(2,.v .one [.fv (litF a2)]),(7,.v .one [.fv (litF x7)])],mo [(3,⟨29,[.fv (intsF a00),.fv (nodesF a01)]⟩)],mo []⟩ ∧ impl_WhereIn.l0 m a1 a2 x7 a00 a01 = some r) ?h0 ?hr
  case h0=>exact ⟨_,0,_,weakL [] tM,_,rfl,rfl,H⟩
  case hr =>
   rintro m k s ⟨x7,rfl,rfl,H⟩
   cases m with
   | zero=>cases H
   | succ m =>
    simp only [impl_WhereIn.l0] at H
    repeat' (first|contradiction|(rw [Option.ite_none_right_eq_some] at H;obtain ⟨_,H⟩:=H)|(rw [ite_or] at H;rcases H with ⟨_,H⟩|⟨_,H⟩)|(split at H)|(simp only [Option.bind_some] at H)|(rw [Option.bind_eq_some_iff] at H;obtain ⟨_,A,H⟩:=H)|cases H)
    all_goals repeat' (first
      | apply awp_seq
      | (apply awp_reg;rfl;simp (decide:=true) only [↓aops_cons,↓aopsD_cons,go_sem, *])
      | (apply awp_block;(try simp only [blockQ]))
      | (apply condT;(· simp (decide:=true) only [↓aops_cons,↓aopsD_cons,go_sem, *]))
      | (apply condF;(· simp (decide:=true) only [↓aops_cons,↓aopsD_cons,go_sem, *]))
      | (apply awp_skip;simp (decide:=true) only [↓aops_cons,↓aopsD_cons,go_sem, *])
      | (apply awp_exit;simp (decide:=true) only [↓aops_cons,↓aopsD_cons,go_sem, *])
      | (apply awp_ret;simp (decide:=true) only [↓aops_cons,↓aopsD_cons,go_sem, *])
      | (apply awp_regD (id:=4) [0,1,0,7,15,0,0,96,255];rfl;kernel_rfl;simp (decide:=true) only [↓aops_cons,↓aopsD_cons,go_sem, *])
      | (refine And.intro (a:=indep _ _ = true) ta ?_)
      | (rw [if_pos (show _ * _ ≤ 140737488355328 by (try simp only [List.length_append,List.length_cons,List.length_nil] at *);omega)];simp (decide:=true) only [↓aops_cons,↓aopsD_cons,go_sem, *])
      | (refine callI_of (impl_SpotOf_s _ _ _ tH) ?_;simp (decide:=true) only [↓aops_cons,↓aopsD_cons,go_sem, *])
      | (refine callJ_of (impl_SpotOf_s _ _ _ tH) ?_;simp (decide:=true) only [↓aops_cons,↓aopsD_cons,go_sem, *])
      | (refine ⟨_,0,_,?_,weakL [] ?_,_,rfl,rfl,H⟩;(· omega);(· simp (decide:=true) only [↓aops_cons,↓aopsD_cons,go_sem, *])))
end Go.Proofs.Ytamjbjkbineafaa.EvFnExactTreePut
