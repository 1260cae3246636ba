/- The law: the functions that it reaches, each with the proof that the machine's call comes to its answer, what they answer, and the law's row; each theorem says its conditions itself. -/
import Derived.Test.YtamjbjkbineafaaZFnExactTreePut6
namespace Go.Proofs.Ytamjbjkbineafaa.EvFnExactTreePut
open Go Go.RowKit Go.Proofs.Ytamjbjkbineafaa.Ev Go.Proofs.Ytamjbjkbineafaa.PFnExactTreePut Go.Proofs.YtamjbjkbineafaaW.PrintWords Go.Proofs.YtamjbjkbineafaaW.PrintLast
set_option linter.unusedVariables false
set_option linter.unusedSimpArgs false
attribute [local go_sem] aops_nil outI_done outI_call aopsD_nil outJ_done outJ_call semG sem0 semD semS M.run evO constA litOk litA AS.app AS.put List.map startL litF litB upd_at List.length_set Int.toNat_lt guardA boolA intA rowO cellsA readA argsL partsL fillL fzC fzL fzW loadV importR importC importW ownsP tsz tagg known elem? tby zeroC isNone binV dropW isCall resOf resC outL outC ownIds nodupB AS.ev mk_nil mk_at mo_nil mo_at beq_dec bne_dec thenQ blockQ kok_same kok_nx nx_zero if_true if_false Nat.add_zero Nat.zero_add Nat.le_refl true_and and_true List.getElem?_cons_zero List.getElem?_cons_succ List.getElem?_nil List.drop_succ_cons List.drop_zero List.take_succ_cons List.take_zero List.length_cons List.length_nil List.append_nil List.nil_append List.cons_append List.length_append List.any_cons List.any_nil keyC keysF setsF nodesF intsF nodeC keysE_len keysE_app keysE_one keysE_nil setsE_len setsE_app setsE_one setsE_nil nodesE_len nodesE_app nodesE_one nodesE_nil intsE_len intsE_app intsE_one intsE_nil keysE_get setsE_get nodesE_get intsE_get keysE_take keysE_drop nodesE_take nodesE_drop intsE_take intsE_drop setsE_set nodesE_set leK leL leA tmOk boxOk memOk rowOk rowsOk fzR List.contains_cons List.contains_nil Option.map_some Option.map_none ge_iff_le gt_iff_lt leF_same leE_same Option.isSome_some decide_true decide_false leC leCs or_true true_or range0 range1 range2 w64_ Bool.not_true Bool.not_false bne_self_eq_false beq_self_eq_true Bool.and_true Bool.false_or Bool.or_false List.getLast?_cons_cons List.getLast?_singleton List.dropLast_cons_cons List.dropLast_singleton Option.some.injEq M.rds W.loc nilV setC intC intsE_cons nodesE_cons leF_nil lB lC List.drop_nil wm1 nx_ne kok_s Nat.add_one_ne_zero ne_eq not_false_eq_true lssE_len lnsE_len eS_len eN_len lssE_app lnsE_app eS_app eN_app lssE_nil lnsE_nil lssE_one lnsE_one lnsE_take lnsE_drop lssE_set lnsE_set lnsE_get lssE_get lsC lnC Int.lt_irrefl
theorem impl_TreePut.j0_s {y0 y1 y2 y3 y4 y5 y6 y7 r} {k:Nat} (H:impl_TreePut.j0 k y0 y1 y2 y3 y4 y5 y6 y7 = some r):∃ q,k = q + 1:=by cases k with
 | zero=>cases H
 | succ q=>exact ⟨q,rfl⟩
theorem impl_TreePut.j1_s {y0 y1 y2 y3 r} {k:Nat} (H:impl_TreePut.j1 k y0 y1 y2 y3 = some r):∃ q,k = q + 1:=by cases k with
 | zero=>cases H
 | succ q=>exact ⟨q,rfl⟩
theorem impl_NodePut_ll (q:Nat) (hq:q ≠ 0) (u:Nat) (k:Nat) (ss0:List LS) (r0:List (List S38)) (a10 a11 a12 a13 a14:Int) (r1:Bool) (H:impl_NodePut.f k (eS ss0) a10 a11 a12 a13 a14 = some (r0,r1)):∃ r' k',SemCall 60 [⟨.agg,[.row u 45 (lssE ss0)]⟩,⟨.agg,[litF a10,litF a11,litF a12,litF a13,litF a14]⟩] q r' k' ∧ ((k' ≠ 0 ∧ q < k') ∧ ∃ lb ss,r' = ⟨.pr,[.fv (.row lb 45 (lssE ss)),.fv (litB r1)]⟩ ∧ eS ss = r0 ∧ Fr q k' (lb :: labS ss)):=by
 obtain ⟨r',k',h,hp⟩:=impl_NodePut_l q hq k _ _ _ _ _ _ _ _ H
 exact ⟨r',k',h.args (all_fst (leP_node ss0 u)),hp⟩
theorem impl_keysWith_l (q u k:Nat) (ss:List LS) (a10 a11 a12 a13 a14:Int) (r:List S38) (H:impl_keysWith.f k (eS ss) a10 a11 a12 a13 a14 = some r):SemCall 61 [⟨.agg,[.row u 45 (lssE ss)]⟩,⟨.agg,[litF a10,litF a11,litF a12,litF a13,litF a14]⟩] q ⟨.one,[.own 0 38 (keysE r)]⟩ q:=((impl_keysWith_s k _ _ _ _ _ _ r H).args (all_fst (leP_node ss u))).at_ q
theorem impl_TreeOk_l (q u1 u2 k:Nat) (s:List Int) (ns:List LN) (r:Bool) (H:impl_TreeOk.f k s (eN ns) = some r):SemCall 17 [⟨.agg,[.row u1 3 (intsE s),.row u2 59 (lnsE ns)]⟩] q ⟨.one,[.fv (litB r)]⟩ q:=((impl_TreeOk_s k _ _ r H).args (all_one (leP_tree ns u1 u2 s))).at_ q
set_option maxHeartbeats 8000000 in
set_option maxRecDepth 100000 in
theorem impl_TreePut_l (q:Nat) (hq:q ≠ 0) (k:Nat) (a00 r0:List Int) (a01 r1:List S59) (a10 a11 a12 a13 a14:Int) (r2:Bool) (H:impl_TreePut.f k a00 a01 a10 a11 a12 a13 a14 = some (r0,r1,r2)):∃ r' k',SemCall 23 [⟨.agg,[intsF a00,nodesF a01]⟩,⟨.agg,[litF a10,litF a11,litF a12,litF a13,litF a14]⟩] q r' k' ∧ ((k' ≠ 0 ∧ q < k') ∧ ∃ l1 l2 ns,r' = ⟨.pr,[.fv (.row l1 3 (intsE r0)),.fv (.row l2 59 (lnsE ns)),.fv (litB r2)]⟩ ∧ eN ns = r1 ∧ Fr q k' (l1 :: l2 :: labN ns)):=by
 simp only [impl_TreePut.f] at H
 repeat' (first|contradiction|(rw [Option.ite_none_right_eq_some] at H;obtain ⟨_,H⟩:=H)|(rw [ite_or] at H;rcases H with ⟨_,H⟩|⟨_,H⟩)|(split at H)|(simp only [Option.bind_some] at H)|(rw [Option.bind_eq_some_iff] at H;obtain ⟨_,A,H⟩:=H)|(obtain ⟨_,rfl⟩:=impl_TreePut.j0_s H;simp only [impl_TreePut.j0,beq_iff_eq,bne_iff_ne,ne_eq,ite_not] at H)|(obtain ⟨_,rfl⟩:=impl_TreePut.j1_s H;simp only [impl_TreePut.j1,beq_iff_eq,bne_iff_ne,ne_eq,ite_not] at H)|cases H)
 all_goals try (rename impl_copyTree.f (_ + 1) a00 a01 = some _=>E1;rename impl_copyTree.f _ a00 a01 = some _=>E2;have E:=impl_copyTree.mono _ _ _ _ E2;rw [E1] at E;cases E)
 all_goals repeat (rename List Int × List S59=>o;obtain ⟨_,_⟩:=o)
 all_goals repeat (rename List (List S38) × Bool=>o;obtain ⟨_,_⟩:=o)
 all_goals (try dsimp only at *)
 all_goals (try subst_vars)
 all_goals (refine viaP (fun P hP=>?_);refine callL (P:=P) (rs:=[.cell 4 29,.tmp 5]) Try.func23 rfl tF rfl Try.ntmps23 (Nat.le_of_ble_eq_true rfl) rfl ?_)
 all_goals repeat' (first
  | apply awp_seq
  | (apply awp_reg;rfl;simp (decide:=true) only [↓aops_cons,↓aopsD_cons,go_sem, *])
  | (apply awp_block;(try simp only [blockQ]))
  | (apply condT;(· simp (decide:=true) only [↓aops_cons,↓aopsD_cons,go_sem, *]))
  | (apply condF;(· simp (decide:=true) only [↓aops_cons,↓aopsD_cons,go_sem, *]))
  | (apply awp_skip;simp (decide:=true) only [↓aops_cons,↓aopsD_cons,go_sem, *])
  | (apply awp_exit;simp (decide:=true) only [↓aops_cons,↓aopsD_cons,go_sem, *])
  | (apply awp_ret;simp (decide:=true) only [↓aops_cons,↓aopsD_cons,go_sem, *])
  | (apply awp_regD (id:=5) [0,1,0,7,15,0,63,127,255,255,0,1535,4095];rfl;kernel_rfl;simp (decide:=true) only [↓aops_cons,↓aopsD_cons,go_sem, *])
  | (apply awp_regD (id:=8) [0,1,0,7,15,0,63,127];rfl;kernel_rfl;simp (decide:=true) only [↓aops_cons,↓aopsD_cons,go_sem, *])
  | (apply awp_regF [1055] (id:=11) [0,0,0,4,0,28,60,0,128,0,512,1920,4092,0,0,24576,61312,0,0,393216,1044352,2092928,4194303,8388607];rfl;kernel_rfl;simp (decide:=true) only [↓aops_cons,↓aopsD_cons,go_sem, *])
  | (refine And.intro (a:=indep _ _ = true) ta ?_)
  | (rw [if_pos (show _ * _ ≤ 140737488355328 by (try simp only [List.length_append,List.length_cons,List.length_nil,eN_len,eS_len] at *);omega)];simp (decide:=true) only [↓aops_cons,↓aopsD_cons,go_sem, *])
  | (refine callI_of ((impl_TreeOk_s _ _ _ _ tH).at_ _) ?_;simp (decide:=true) only [↓aops_cons,↓aopsD_cons,go_sem, *])
  | (refine callJ_of ((impl_TreeOk_s _ _ _ _ tH).at_ _) ?_;simp (decide:=true) only [↓aops_cons,↓aopsD_cons,go_sem, *])
  | (refine callI_of ((impl_KeyOk_s _ _ _ _ _ _ _ tH).at_ _) ?_;simp (decide:=true) only [↓aops_cons,↓aopsD_cons,go_sem, *])
  | (refine callJ_of ((impl_KeyOk_s _ _ _ _ _ _ _ tH).at_ _) ?_;simp (decide:=true) only [↓aops_cons,↓aopsD_cons,go_sem, *])
  | (refine callI_of ((impl_WhereIn_s _ _ _ _ _ _ tH).at_ _) ?_;simp (decide:=true) only [↓aops_cons,↓aopsD_cons,go_sem, *])
  | (refine callJ_of ((impl_WhereIn_s _ _ _ _ _ _ tH).at_ _) ?_;simp (decide:=true) only [↓aops_cons,↓aopsD_cons,go_sem, *])
  | (refine callI_of ((impl_SpotOf_s _ _ _ tH).at_ _) ?_;simp (decide:=true) only [↓aops_cons,↓aopsD_cons,go_sem, *])
  | (refine callJ_of ((impl_SpotOf_s _ _ _ tH).at_ _) ?_;simp (decide:=true) only [↓aops_cons,↓aopsD_cons,go_sem, *])
  | (refine callI_ex (impl_copyTree_l _ tD _ _ _ _ _ tH) rfl ?_;rintro _ kc ⟨⟨hk2,hq2⟩,l1,l2,ns,rfl,he,hfr⟩;(try subst he);(try simp only [eS_len,eN_len,rd_eN] at *);simp (decide:=true) only [↓aops_cons,↓aopsD_cons,go_sem, *])
  | (refine callJ_ex (impl_copyTree_l _ tD _ _ _ _ _ tH) rfl ?_;rintro _ kc ⟨⟨hk2,hq2⟩,l1,l2,ns,rfl,he,hfr⟩;(try subst he);(try simp only [eS_len,eN_len,rd_eN] at *);simp (decide:=true) only [↓aops_cons,↓aopsD_cons,go_sem, *])
  | (refine callI_ex (impl_NodePut_ll _ tD _ _ _ _ _ _ _ _ _ _ tH) rfl ?_;rintro _ kp ⟨⟨hk3,hq3⟩,lb,ss,rfl,he,hf2⟩;(try subst he);(try simp only [eS_len,eN_len,rd_eN] at *);simp (decide:=true) only [↓aops_cons,↓aopsD_cons,go_sem, *])
  | (refine callJ_ex (impl_NodePut_ll _ tD _ _ _ _ _ _ _ _ _ _ tH) rfl ?_;rintro _ kp ⟨⟨hk3,hq3⟩,lb,ss,rfl,he,hf2⟩;(try subst he);(try simp only [eS_len,eN_len,rd_eN] at *);simp (decide:=true) only [↓aops_cons,↓aopsD_cons,go_sem, *])
  | (refine callI_ex (impl_NodeNew_l _ tD (List.take _ _) _ tH) rfl ?_;rintro _ kA ⟨⟨hk4,hq4⟩,lbA,ssA,rfl,he,hfA⟩;(try subst he);(try simp only [eS_len,eN_len,rd_eN] at *);simp (decide:=true) only [↓aops_cons,↓aopsD_cons,go_sem, *])
  | (refine callJ_ex (impl_NodeNew_l _ tD (List.take _ _) _ tH) rfl ?_;rintro _ kA ⟨⟨hk4,hq4⟩,lbA,ssA,rfl,he,hfA⟩;(try subst he);(try simp only [eS_len,eN_len,rd_eN] at *);simp (decide:=true) only [↓aops_cons,↓aopsD_cons,go_sem, *])
  | (refine callI_ex (impl_NodeNew_l _ tD (List.drop _ _) _ tH) rfl ?_;rintro _ kB ⟨⟨hk5,hq5⟩,lbB,ssB,rfl,he,hfB⟩;(try subst he);(try simp only [eS_len,eN_len,rd_eN] at *);simp (decide:=true) only [↓aops_cons,↓aopsD_cons,go_sem, *])
  | (refine callJ_ex (impl_NodeNew_l _ tD (List.drop _ _) _ tH) rfl ?_;rintro _ kB ⟨⟨hk5,hq5⟩,lbB,ssB,rfl,he,hfB⟩;(try subst he);(try simp only [eS_len,eN_len,rd_eN] at *);simp (decide:=true) only [↓aops_cons,↓aopsD_cons,go_sem, *])
  | (refine callI_ex (impl_replaced_l _ tD _ _ _ _ _ [_,_] _ ns [⟨lbA,ssA⟩,⟨lbB,ssB⟩] _ _ 1 ‹impl_replaced.f _ (eN ns) _ 1 [_,_] [⟨eS ssA⟩,⟨eS ssB⟩] = some _›) rfl ?_;rintro _ k1 ⟨rfl,ns2,rfl,hns,he,ha,hb,hz⟩;(try subst he);(try simp only [eS_len,eN_len,rd_eN] at *);simp (decide:=true) only [↓aops_cons,↓aopsD_cons,go_sem, *])
  | (refine callJ_ex (impl_replaced_l _ tD _ _ _ _ _ [_,_] _ ns [⟨lbA,ssA⟩,⟨lbB,ssB⟩] _ _ 1 ‹impl_replaced.f _ (eN ns) _ 1 [_,_] [⟨eS ssA⟩,⟨eS ssB⟩] = some _›) rfl ?_;rintro _ k1 ⟨rfl,ns2,rfl,hns,he,ha,hb,hz⟩;(try subst he);(try simp only [eS_len,eN_len,rd_eN] at *);simp (decide:=true) only [↓aops_cons,↓aopsD_cons,go_sem, *])
  | (refine callI_ex (impl_replaced_0 _ tD _ _ _ _ ns _ _ 1 tH) rfl ?_;rintro _ k1 ⟨rfl,ns2,rfl,hns,he,ha,hb,hz⟩;(try subst he);(try simp only [eS_len,eN_len,rd_eN] at *);simp (decide:=true) only [↓aops_cons,↓aopsD_cons,go_sem, *])
  | (refine callJ_ex (impl_replaced_0 _ tD _ _ _ _ ns _ _ 1 tH) rfl ?_;rintro _ k1 ⟨rfl,ns2,rfl,hns,he,ha,hb,hz⟩;(try subst he);(try simp only [eS_len,eN_len,rd_eN] at *);simp (decide:=true) only [↓aops_cons,↓aopsD_cons,go_sem, *])
  | (refine callI_ex (impl_merged_l q _ tD tD _ _ _ _ _ (ns.set _ ⟨lb,ss⟩) _ (by exact fr_nset hfr (hf2.mono tD (Nat.le_refl _)) tD tD tD) vy) rfl ?_;rintro _ km ⟨⟨hk5,hq5⟩,m1,m2,ns3,rfl,he,hfm⟩;(try subst he);(try simp only [eS_len,eN_len,rd_eN] at *);simp (decide:=true) only [↓aops_cons,↓aopsD_cons,go_sem, *])
  | (refine callJ_ex (impl_merged_l q _ tD tD _ _ _ _ _ (ns.set _ ⟨lb,ss⟩) _ (by exact fr_nset hfr (hf2.mono tD (Nat.le_refl _)) tD tD tD) vy) rfl ?_;rintro _ km ⟨⟨hk5,hq5⟩,m1,m2,ns3,rfl,he,hfm⟩;(try subst he);(try simp only [eS_len,eN_len,rd_eN] at *);simp (decide:=true) only [↓aops_cons,↓aopsD_cons,go_sem, *])
  | (refine callI_ex (impl_merged_l q _ tD tD _ _ _ _ _ ns2 _ (by have hns:=hns.out;subst hns;exact fr_out (k:=kp) (fr_repl (ms:=[]) (fr_tail2 hfr) Fr.nil (by unfold wrap64 at hb ⊢;omega) tD tD) tD tD tD tD) vy) rfl ?_;rintro _ km ⟨⟨hk5,hq5⟩,m1,m2,ns3,rfl,he,hfm⟩;(try subst he);(try simp only [eS_len,eN_len,rd_eN] at *);simp (decide:=true) only [↓aops_cons,↓aopsD_cons,go_sem, *])
  | (refine callJ_ex (impl_merged_l q _ tD tD _ _ _ _ _ ns2 _ (by have hns:=hns.out;subst hns;exact fr_out (k:=kp) (fr_repl (ms:=[]) (fr_tail2 hfr) Fr.nil (by unfold wrap64 at hb ⊢;omega) tD tD) tD tD tD tD) vy) rfl ?_;rintro _ km ⟨⟨hk5,hq5⟩,m1,m2,ns3,rfl,he,hfm⟩;(try subst he);(try simp only [eS_len,eN_len,rd_eN] at *);simp (decide:=true) only [↓aops_cons,↓aopsD_cons,go_sem, *])
  | (refine callI_ex (impl_merged_l q _ tD tD _ _ _ _ _ ns2 _ vk vy) rfl ?_;rintro _ km ⟨⟨hk5,hq5⟩,m1,m2,ns3,rfl,he,hfm⟩;(try subst he);(try simp only [eS_len,eN_len,rd_eN] at *);simp (decide:=true) only [↓aops_cons,↓aopsD_cons,go_sem, *])
  | (refine callJ_ex (impl_merged_l q _ tD tD _ _ _ _ _ ns2 _ vk vy) rfl ?_;rintro _ km ⟨⟨hk5,hq5⟩,m1,m2,ns3,rfl,he,hfm⟩;(try subst he);(try simp only [eS_len,eN_len,rd_eN] at *);simp (decide:=true) only [↓aops_cons,↓aopsD_cons,go_sem, *])
  | (refine And.intro (a:=indep _ _ = true) tF ?_)
  | apply awp_ret
  | (refine callI_of (impl_keysWith_l _ _ _ _ _ _ _ _ _ _ tH) ?_;simp (decide:=true) only [↓aops_cons,↓aopsD_cons,go_sem, *])
  | (refine callJ_of (impl_keysWith_l _ _ _ _ _ _ _ _ _ _ tH) ?_;simp (decide:=true) only [↓aops_cons,↓aopsD_cons,go_sem, *])
  | (refine callI_of (impl_NodeKeys_l _ _ _ _ _ tH) ?_;simp (decide:=true) only [↓aops_cons,↓aopsD_cons,go_sem, *])
  | (refine callJ_of (impl_NodeKeys_l _ _ _ _ _ tH) ?_;simp (decide:=true) only [↓aops_cons,↓aopsD_cons,go_sem, *])
  | (refine callI_of (impl_TreeOk_l _ _ _ _ _ _ _ tH) ?_;simp (decide:=true) only [↓aops_cons,↓aopsD_cons,go_sem, *])
  | (refine callJ_of (impl_TreeOk_l _ _ _ _ _ _ _ tH) ?_;simp (decide:=true) only [↓aops_cons,↓aopsD_cons,go_sem, *])
  | (exact endP_ret tj tJ tZ ⟨.pr,[.fv (.row m1 3 (intsE _)),.fv (.row m2 59 (lnsE ns3)),.fv (litB _)]⟩ ta tE (hP _ _ ⟨⟨vG,vG⟩,m1,m2,ns3,rfl,by first|rfl|assumption,hfm.mono tD tD⟩))
  | (exact endP_ret tj tJ (by first|(simp only [ownK,and_true];done)|(have hlb:=hfr.1 l1 List.mem_cons_self;have hlc:=hfr.1 l2 (List.mem_cons_of_mem _ List.mem_cons_self);simp only [ownK,and_true];omega)) ⟨.pr,[.fv (.row l1 3 (intsE _)),.fv (.row l2 59 (lnsE ns)),.fv (litB _)]⟩ ta tE (hP _ _ ⟨⟨vG,vG⟩,l1,l2,ns,rfl,by first|rfl|assumption,hfr.mono tD tD⟩)))
end Go.Proofs.Ytamjbjkbineafaa.EvFnExactTreePut

namespace Go.Proofs.Ytamjbjkbineafaa.EvFnExactTreePut
open Go Go.RowKit Go.Proofs.Ytamjbjkbineafaa.Ev Go.Proofs.Ytamjbjkbineafaa.PFnExactTreePut Go.Proofs.YtamjbjkbineafaaW.PrintWords Go.Proofs.YtamjbjkbineafaaW.PrintLast
set_option linter.unusedVariables false
set_option linter.unusedSimpArgs false
section
variable {own:Nat → Nat} {ro:Nat → Prop} {w:World} {A:Option Addr} {n c:Nat} {v:Value}
def allRo (w:World) (ro:Nat → Prop):Prop:=∀ ad u,w.cell? ad = some u → ro ad.block
theorem emptied (w:World) (ok:Nat → Prop):∃ W2:World,W2.heap.size = w.heap.size ∧ (∀ k,ok k → W2.heap[k]? = w.heap[k]?) ∧ allRo W2 (fun b=>ok b ∧ b < w.heap.size):=by
 classical
 refine ⟨{ w with heap:=w.heap.mapIdx fun k o=>if ok k then o else .cells #[] 0 (0,0) },by simp,fun k hk=>?_,fun ad u hu=>?_⟩
 ·simp only [Array.getElem?_mapIdx,hk,if_true]
  cases w.heap[k]? <;> rfl
 ·unfold World.cell? at hu
  simp only [Array.getElem?_mapIdx] at hu
  by_cases hb:ad.block < w.heap.size
  ·refine ⟨Classical.byContradiction fun hk=>?_,hb⟩
   simp only [hk,if_false,Array.getElem?_eq_getElem hb,Option.map_some] at hu
   split at hu
   ·cases hu
   ·simp at hu
  ·simp only [Array.getElem?_eq_none (Nat.le_of_not_lt hb),Option.map_none] at hu
   cases hu
section
variable {α:Type} {d:Kd α} {e base:Nat} {ok:Nat → Prop} {xs:List α} {x:FV}
theorem rep_of_F (hrep:∀ (W2:World) (ro:Nat → Prop),allRo W2 ro → d.C W2 A n xs → Rep own ro W2 x v) (h:Kd.F d w ok A n xs):Rep own (fun b=>ok b ∧ b < w.heap.size) w x v:=by
 obtain ⟨W2,hs,hk,hr⟩:=emptied w ok
 exact (hrep W2 _ hr (h W2 (fun k ho _=>hk k ho))).move (fun b hb=>⟨hb,rfl,(hk b hb.1).symm⟩)
theorem V_of_rep (hof:∀ W2:World,Rep own ro W2 x v → ∃ A c,v = .slice A xs.length c ∧ xs.length ≤ c ∧ d.C W2 A xs.length xs) (hro:∀ b,ro b → b < w.heap.size) (h:Rep own ro w x v):Kd.V d e w base ro v xs:=by
 obtain ⟨A,c,rfl,hc,_⟩:=hof w h
 refine ⟨A,c,rfl,hc,fun W' hW=>?_⟩
 obtain ⟨A',c',he,_,h'⟩:=hof W' (h.move (fun b hb=>⟨hb,rfl,hW b hb (hro b hb)⟩))
 injection he with h1 h2 h3
 subst h1
 exact h'
end
theorem rep_keys {xs:List S38} (hro:allRo w ro) (h:k38.C w A n xs) (hc:n ≤ c):Rep own ro w (keysF xs) (.slice A n c) :=
 rep_row rfl tq (fun _=>rfl) (fun x cs h j y u hy hu=>by
  obtain rfl:=k38_open h
  rcases j with _|_|_|_|_|j <;> simp [keyC] at hy hu <;> (subst hy hu;exact .lit _ rfl)) hro h hc
theorem rep_sets {xs:List (List S38)} (hro:allRo w ro) (h:(Kd.slice 38 k38).C w A n xs) (hc:n ≤ c):Rep own ro w (setsF xs) (.slice A n c) :=
 rep_row rfl tq (fun _=>rfl) (fun x cs h j y u hy hu=>by
  obtain ⟨A,c,rfl,h1,h2⟩:=h
  rcases j with _|j <;> simp [setC] at hy hu
  subst hy hu
  exact rep_keys hro h2 h1) hro h hc
theorem rep_nodes {xs:List S59} (hro:allRo w ro) (h:k59.C w A n xs) (hc:n ≤ c):Rep own ro w (nodesF xs) (.slice A n c) :=
 rep_row rfl tq (fun _=>rfl) (fun x cs h j y u hy hu=>by
  obtain ⟨A,c,rfl,h1,h2⟩:=k59_open h
  rcases j with _|j <;> simp [nodeC] at hy hu
  subst hy hu
  exact rep_sets hro h2 h1) hro h hc
theorem rep_ints {xs:List Int} (hro:allRo w ro) (h:(Kd.int .i64).C w A n xs) (hc:n ≤ c):Rep own ro w (intsF xs) (.slice A n c) :=
 rep_row rfl tq (fun _=>rfl) (fun x cs h j y u hy hu=>by
  obtain rfl:=h
  rcases j with _|j <;> simp [intC] at hy hu
  subst hy hu
  exact .lit _ rfl) hro h hc
theorem keys_of {xs:List S38} (h:Rep own ro w (keysF xs) v):∃ A c,v = .slice A xs.length c ∧ xs.length ≤ c ∧ k38.C w A xs.length xs :=
 row_of rfl (fun _=>rfl) (fun x cs hl hr=>by
  match cs,hl,hr with
  | [a,b,c,d,e],_,hr =>
   obtain ⟨rfl,_⟩:=rep_lit (hr 0 _ _ rfl rfl)
   obtain ⟨rfl,_⟩:=rep_lit (hr 1 _ _ rfl rfl)
   obtain ⟨rfl,_⟩:=rep_lit (hr 2 _ _ rfl rfl)
   obtain ⟨rfl,_⟩:=rep_lit (hr 3 _ _ rfl rfl)
   obtain ⟨rfl,_⟩:=rep_lit (hr 4 _ _ rfl rfl)
   exact k38_mk w x) h
theorem sets_of {xs:List (List S38)} (h:Rep own ro w (setsF xs) v):∃ A c,v = .slice A xs.length c ∧ xs.length ≤ c ∧ (Kd.slice 38 k38).C w A xs.length xs :=
 row_of rfl (fun _=>rfl) (fun x cs hl hr=>by
  match cs,hl,hr with
  | [a],_,hr =>
   obtain ⟨A,c,rfl,h1,h2⟩:=keys_of (hr 0 _ _ rfl rfl)
   exact ⟨A,c,rfl,h1,h2⟩) h
theorem nodes_of {xs:List S59} (h:Rep own ro w (nodesF xs) v):∃ A c,v = .slice A xs.length c ∧ xs.length ≤ c ∧ k59.C w A xs.length xs :=
 row_of rfl (fun _=>rfl) (fun x cs hl hr=>by
  match cs,hl,hr with
  | [a],_,hr =>
   obtain ⟨A,c,rfl,h1,h2⟩:=sets_of (hr 0 _ _ rfl rfl)
   exact k59_mk w x h1 h2) h
theorem ints_of {xs:List Int} (h:Rep own ro w (intsF xs) v):∃ A c,v = .slice A xs.length c ∧ xs.length ≤ c ∧ (Kd.int .i64).C w A xs.length xs :=
 row_of rfl (fun _=>rfl) (fun x cs hl hr=>by
  match cs,hl,hr with
  | [a],_,hr =>
   obtain ⟨rfl,_⟩:=rep_lit (hr 0 _ _ rfl rfl)
   rfl) h
end
end Go.Proofs.Ytamjbjkbineafaa.EvFnExactTreePut

namespace Go.Proofs.Ytamjbjkbineafaa.EvFnExactTreePut
open Go Go.RowKit Go.Proofs.Ytamjbjkbineafaa.Ev Go.Proofs.Ytamjbjkbineafaa.PFnExactTreePut Go.Proofs.YtamjbjkbineafaaW.PrintWords Go.Proofs.YtamjbjkbineafaaW.PrintLast
set_option linter.unusedVariables false
set_option linter.unusedSimpArgs false
section
variable {α β:Type} {d:Kd α} {own:Nat → Nat} {ro:Nat → Prop} {w:World} {l t base:Nat} {v:Value} {ok:Nat → Prop} {enc:β → List FV} {er:β → α} {xs:List β}
theorem own_cells (henc:∀ x,(enc x).length = tsz t) (h:Rep own ro w (.row l t (xs.map enc)) v) (hl:l ≠ 0):∃ inner,w.ownsRow 0 t (tsz t) v xs.length inner ∧ (∀ b,v.ownBlock = some b → own b = l) ∧ ∀ (i:Nat) x,xs[i]? = some x → ((inner.drop (i * tsz t)).take (tsz t)).length = tsz t ∧ ∀ (j:Nat) y u,(enc x)[j]? = some y → ((inner.drop (i * tsz t)).take (tsz t))[j]? = some u → Rep own ro w y u:=by
 have hL:(xs.map enc).length = xs.length:=List.length_map _
 cases h with
 | row l t es A c cv hc hm hlen hcell hrep hown =>
  obtain ⟨inner,ho,ha⟩:=hown hl
  rw [hL] at ho ⊢
  refine ⟨inner,ho,fun b hb=>?_,fun i x hx=>?_⟩
  ·cases A with
   | none=>cases hb
   | some ad =>
    obtain rfl:=Option.some.inj hb
    exact (ha ad rfl).1
  ·have hi:i < xs.length:=(List.getElem?_eq_some_iff.1 hx).1
   have hin:inner.length = xs.length * tsz t:=ho.1
   have hle:i * tsz t + tsz t ≤ inner.length:=by rw [hin,← Nat.succ_mul];exact Nat.mul_le_mul_right _ hi
   refine ⟨by simp;omega,fun j y u hy hu=>?_⟩
   have he:(xs.map enc)[i]? = some (enc x):=by simp [hx]
   have hj:j < tsz t:=by rw [← henc x];exact wA
   rw [List.getElem?_take,if_pos hj,List.getElem?_drop] at hu
   obtain ⟨b,cap',hv',_,_⟩:=ho.form tD
   injection hv' with hA _ _
   obtain ⟨ad,hA',_,h3⟩:=hcell i _ he
   rw [hA] at hA'
   obtain rfl:=Option.some.inj hA'
   have h4:=ho.cells (g:=b) (by rw [hA];rfl) _ u hu
   rw [h3 j y hy] at h4
   obtain rfl:=Option.some.inj h4
   exact hrep i _ he j y hy
theorem own_up {e sz n:Nat} {inner:List Value} (h:w.ownsRow 0 e sz v n inner) (hb:∀ b,v.ownBlock = some b → base ≤ b):w.ownsRow base e sz v n inner:=by
 refine ⟨h.1,?_⟩
 rcases h.2 with h|⟨g,cap,cur,rfl,_,r⟩
 ·exact .inl h
 ·exact .inr ⟨g,cap,cur,rfl,hb g rfl,r⟩
theorem own_R (hsz:d.sz = tsz t) (henc:∀ x,(enc x).length = tsz t) (hM:∀ x cs ok,cs.length = tsz t → (∀ (j:Nat) y u,(enc x)[j]? = some y → cs[j]? = some u → Rep own ro w y u) → d.M w base ok (er x) cs)
  (h:Rep own ro w (.row l t (xs.map enc)) v) (hl:l ≠ 0) (hnew:∀ b,own b = l → base ≤ b ∧ ok b):d.R t w base ok v (xs.map er):=by
 obtain ⟨inner,ho,hb,hc⟩:=own_cells henc h hl
 refine ⟨fun k hk=>(hnew k (hb k hk)).2,inner,?_,?_,fun j p hp=>?_⟩
 ·rw [hsz,List.length_map]
  exact own_up ho (fun b h=>(hnew b (hb b h)).1)
 ·rw [hsz,List.length_map]
  exact ho.1
 ·rw [List.getElem?_map,Option.map_eq_some_iff] at hp
  obtain ⟨x,hx,rfl⟩:=hp
  rw [hsz]
  exact hM x _ _ (hc j x hx).1 (hc j x hx).2
theorem own_S (hsz:d.sz = tsz t) (henc:∀ x,(enc x).length = tsz t) (Lb:β → List Nat) (hM:∀ x cs ok,x ∈ xs → cs.length = tsz t → (∀ (j:Nat) y u,(enc x)[j]? = some y → cs[j]? = some u → Rep own ro w y u) → (∀ b,own b ∈ Lb x → base ≤ b ∧ ok b) → d.M w base ok (er x) cs)
  (h:Rep own ro w (.row l t (xs.map enc)) v) (hl:l ≠ 0) (hnd:(l :: xs.flatMap Lb).Nodup) (hnew:∀ b,own b ∈ l :: xs.flatMap Lb → base ≤ b ∧ ok b):Kd.S d t w base ok v (xs.map er):=by
 obtain ⟨inner,ho,hb,hc⟩:=own_cells henc h hl
 obtain ⟨hn1,hn2⟩:=List.nodup_cons.1 hnd
 have hpw:=(List.pairwise_flatMap.1 hn2).2
 refine ⟨fun b=>xs.findIdx fun x=>(Lb x).contains (own b),fun k hk=>(hnew k (by rw [hb k hk];exact List.mem_cons_self)).2,inner,?_,?_,fun j p hp=>?_⟩
 ·rw [List.length_zipIdx,List.length_map]
  show w.ownsRow base t d.sz v xs.length inner
  rw [hsz]
  exact own_up ho (fun b h=>(hnew b (by rw [hb b h];exact List.mem_cons_self)).1)
 ·rw [List.length_zipIdx,List.length_map]
  show inner.length = xs.length * d.sz
  rw [hsz]
  exact ho.1
 ·rw [List.getElem?_zipIdx,Nat.zero_add,Option.map_eq_some_iff] at hp
  obtain ⟨a,ha,rfl⟩:=hp
  rw [List.getElem?_map,Option.map_eq_some_iff] at ha
  obtain ⟨x,hx,rfl⟩:=ha
  show d.M w base _ (er x) ((inner.drop (j * d.sz)).take d.sz)
  rw [hsz]
  have hmem:=List.mem_of_getElem? hx
  refine hM x _ _ hmem (hc j x hx).1 (hc j x hx).2 (fun b hbx=>?_)
  have hin:own b ∈ xs.flatMap Lb:=List.mem_flatMap.2 ⟨x,hmem,hbx⟩
  have h1:=hnew b (List.mem_cons_of_mem _ hin)
  refine ⟨h1.1,⟨h1.2,fun e=>?_⟩,?_⟩
  ·rw [hb b e.symm] at hin
   exact hn1 hin
  ·obtain ⟨hj,hxj⟩:=List.getElem?_eq_some_iff.1 hx
   rw [List.findIdx_eq hj]
   refine ⟨by rw [hxj];simpa using hbx,fun i hi=>?_⟩
   have:=List.pairwise_iff_getElem.1 hpw i j tD hj hi
   cases hq:(Lb xs[i]).contains (own b) with
   | false=>rfl
   | true =>
    rw [List.contains_iff_mem] at hq
    rw [hxj] at this
    exact absurd rfl (this _ hq _ hbx)
end
section
variable {own:Nat → Nat} {ro:Nat → Prop} {w:World} {l base:Nat} {v:Value} {ok:Nat → Prop}
theorem map_id_ {α:Type} (l:List α):l.map (fun x=>x) = l:=List.map_id' l
theorem keys_R {xs:List S38} (h:Rep own ro w (.row l 38 (keysE xs)) v) (hl:l ≠ 0) (hnew:∀ b,own b = l → base ≤ b ∧ ok b):k38.R 38 w base ok v xs:=by
 have:=own_R (d:=k38) (er:=fun x=>x) rfl (fun _=>rfl) (fun x cs ok hc hr=>by
  match cs,hc,hr with
  | [a,b,c,d,e],_,hr =>
   obtain ⟨rfl,_⟩:=rep_lit (hr 0 _ _ rfl rfl)
   obtain ⟨rfl,_⟩:=rep_lit (hr 1 _ _ rfl rfl)
   obtain ⟨rfl,_⟩:=rep_lit (hr 2 _ _ rfl rfl)
   obtain ⟨rfl,_⟩:=rep_lit (hr 3 _ _ rfl rfl)
   obtain ⟨rfl,_⟩:=rep_lit (hr 4 _ _ rfl rfl)
   exact k38_mkM w base ok x) h hl hnew
 rwa [map_id_] at this
theorem ints_R {xs:List Int} (h:Rep own ro w (.row l 3 (intsE xs)) v) (hl:l ≠ 0) (hnew:∀ b,own b = l → base ≤ b ∧ ok b):(Kd.int .i64).R 3 w base ok v xs:=by
 have:=own_R (d:=Kd.int .i64) (er:=fun x=>x) rfl (fun _=>rfl) (fun x cs ok hc hr=>by
  match cs,hc,hr with
  | [a],_,hr =>
   obtain ⟨rfl,_⟩:=rep_lit (hr 0 _ _ rfl rfl)
   rfl) h hl hnew
 rwa [map_id_] at this
theorem labS_flat:∀ ss:List LS,labS ss = ss.flatMap fun s=>[s.lb]
 | []=>rfl
 | x :: xs=>by rw [List.flatMap_cons,← labS_flat xs];rfl
theorem sets_S {ss:List LS} (h:Rep own ro w (.row l 45 (lssE ss)) v) (hl:l ≠ 0) (hz:∀ x ∈ labS ss,x ≠ 0) (hnd:(l :: labS ss).Nodup) (hnew:∀ b,own b ∈ l :: labS ss → base ≤ b ∧ ok b):Kd.S (Kd.slice 38 k38) 45 w base ok v (eS ss):=by
 rw [labS_flat] at hnd hnew
 refine own_S (d:=Kd.slice 38 k38) (er:=fun s:LS=>s.ks) rfl (fun _=>rfl) (fun s=>[s.lb]) (fun x cs ok hx hc hr hb=>?_) h hl hnd hnew
 match cs,hc,hr with
 | [a],_,hr=>exact ⟨a,rfl,keys_R (hr 0 _ _ rfl rfl) (hz x.lb (List.mem_map.2 ⟨x,hx,rfl⟩)) (fun b h=>hb b (by rw [h];exact List.mem_singleton.2 rfl))⟩
end
theorem spec_put (k:Nat) {P0 P1:Nat → Prop} {A0_0:Option Addr} {n0 c0_0:Nat} {l0_0:List Int} {A0_1:Option Addr} {n1 c0_1 b0 b1:Nat} {l0_1:List S59} (a0 a1 a2 a3 a4:Int) {r1:List Int} {r2:List S59} {r3:Bool} {w:World}
  (h0:Kd.V (Kd.int .i64) 3 w b0 P0 (.slice A0_0 n0 c0_0) l0_0) (h1:Kd.V k59 59 w b1 P1 (.slice A0_1 n1 c0_1) l0_1) (h:spec_TreePut.f k l0_0 l0_1 a0 a1 a2 a3 a4 = some (r1,r2,r3)) :
  Calls Try.prog 21 #[.agg #[.slice A0_0 n0 c0_0,.slice A0_1 n1 c0_1],.agg #[.int .i64 a0,.int .i64 a1,.int .i64 a2,.int .i64 a3,.int .i64 a4]] w fun e w'=>∃ v0_ v1_:Value,e = .returned (.tuple #[.agg #[v0_,v1_],.bool r3]) ∧ Kd.V (Kd.int .i64) 3 w' w.heap.size (fun k_=>(P0 k_ ∨ P1 k_) ∨ w.heap.size ≤ k_) v0_ r1 ∧ Kd.V k59 59 w' w.heap.size (fun k_=>(P0 k_ ∨ P1 k_) ∨ w.heap.size ≤ k_) v1_ r2 ∧ Below w.heap.size w w':=by
 obtain ⟨_,_,_,_,_,hc⟩:=spec_TreePut_s k l0_0 l0_1 a0 a1 a2 a3 a4 r1 r2 r3 h
 obtain ⟨e0,g0,f0⟩:=Kd.V_at h0
 obtain ⟨e1,g1,f1⟩:=Kd.V_at h1
 subst e0 e1
 have m0:=(rep_of_F (own:=fun _=>0) (fun W2 ro hr hC=>rep_ints hr hC g0) f0).move (own':=fun _=>0) (ro':=fun b=>(P0 b ∨ P1 b) ∧ b < w.heap.size) (w':=w) (fun b hb=>⟨⟨.inl hb.1,hb.2⟩,rfl,rfl⟩)
 have m1:=(rep_of_F (own:=fun _=>0) (fun W2 ro hr hC=>rep_nodes hr hC g1) f1).move (own':=fun _=>0) (ro':=fun b=>(P0 b ∨ P1 b) ∧ b < w.heap.size) (w':=w) (fun b hb=>⟨⟨.inr hb.1,hb.2⟩,rfl,rfl⟩)
 refine Calls.mono (hc (fun _=>0) (fun b=>(P0 b ∨ P1 b) ∧ b < w.heap.size) w [.agg #[.slice A0_0 l0_0.length c0_0,.slice A0_1 l0_1.length c0_1],.agg #[.int .i64 a0,.int .i64 a1,.int .i64 a2,.int .i64 a3,.int .i64 a4]] (fun _ _ h=>by omega) (fun _ h=>h.2)
  (.cons ⟨[_,_],rfl,.cons m0 (.cons m1 .nil)⟩
   (.cons ⟨[_,_,_,_,_],rfl,.cons (.lit _ rfl) (.cons (.lit _ rfl) (.cons (.lit _ rfl) (.cons (.lit _ rfl) (.cons (.lit _ rfl) .nil))))⟩ .nil))) ?_
 rintro e w' ⟨v,own',tg,rfl,_,_,_,⟨vs,rfl,hl,hr⟩,hb⟩
 match vs,hl,hr with
 | [v0,v1,v2],_,hr =>
  have q2:=hr 2 _ _ rfl rfl
  obtain ⟨rfl,_⟩:=rep_lit q2
  have hs:=aM hb
  refine ⟨v0,v1,rfl,?_,?_,hb⟩
  ·exact Kd.V_mono (V_of_rep (fun _ h=>ints_of h) (fun b hb=>by rcases hb.1 with h|h <;> omega) (hr 0 _ _ rfl rfl)) (fun b hb=>hb.1.imp (fun h=>h.1) (fun h=>h.1))
  ·exact Kd.V_mono (V_of_rep (fun _ h=>nodes_of h) (fun b hb=>by rcases hb.1 with h|h <;> omega) (hr 1 _ _ rfl rfl)) (fun b hb=>hb.1.imp (fun h=>h.1) (fun h=>h.1))
theorem impl_put (k:Nat) (A0_0:Option Addr) (c0_0:Nat) (l0_0:List Int) (A0_1:Option Addr) (c0_1:Nat) (l0_1:List S59) (a0 a1 a2 a3 a4:Int) (r1:List Int) (r2:List S59) (r3:Bool) (w:World)
  (hr0:Kd.C (Kd.int .i64) w A0_0 l0_0.length l0_0) (hc0:l0_0.length ≤ c0_0) (hr1:Kd.C k59 w A0_1 l0_1.length l0_1) (hc1:l0_1.length ≤ c0_1) (h:impl_TreePut.f k l0_0 l0_1 a0 a1 a2 a3 a4 = some (r1,r2,r3)) :
  Calls Try.prog 23 #[.agg #[.slice A0_0 l0_0.length c0_0,.slice A0_1 l0_1.length c0_1],.agg #[.int .i64 a0,.int .i64 a1,.int .i64 a2,.int .i64 a3,.int .i64 a4]] w fun e w'=>∃ v0_ v1_:Value,e = .returned (.tuple #[.agg #[v0_,v1_],.bool r3]) ∧ (∃ (own:Nat → Nat) (ro:Nat → Prop) (l1 l2:Nat) (ns:List LN),Rep own ro w' (.row l1 3 (intsE r1)) v0_ ∧ Rep own ro w' (.row l2 59 (lnsE ns)) v1_ ∧ eN ns = r2 ∧ (∀ x ∈ l1 :: l2 :: labN ns,x ≠ 0) ∧ (l1 :: l2 :: labN ns).Nodup ∧ ∀ b,own b ≠ 0 → w.heap.size ≤ b) ∧ Below w.heap.size w w':=by
 obtain ⟨r',k',⟨_,_,_,_,_,hc⟩,_,l1,l2,ns,rfl,rfl,hfr⟩:=impl_TreePut_l 1 tq k _ _ _ _ _ _ _ _ _ _ h
 have hro:allRo w (fun b=>b < w.heap.size):=fun ad u hu=>lD w ad hu
 refine Calls.mono (hc (fun _=>0) (fun b=>b < w.heap.size) w [.agg #[.slice A0_0 l0_0.length c0_0,.slice A0_1 l0_1.length c0_1],.agg #[.int .i64 a0,.int .i64 a1,.int .i64 a2,.int .i64 a3,.int .i64 a4]] (fun _ _ h=>by omega) (fun _ h=>h)
  (.cons ⟨[_,_],rfl,.cons (rep_ints hro hr0 hc0) (.cons (rep_nodes hro hr1 hc1) .nil)⟩
   (.cons ⟨[_,_,_,_,_],rfl,.cons (.lit _ rfl) (.cons (.lit _ rfl) (.cons (.lit _ rfl) (.cons (.lit _ rfl) (.cons (.lit _ rfl) .nil))))⟩ .nil))) ?_
 rintro e w' ⟨v,own',tg,rfl,ho,_,_,⟨vs,rfl,hl,hr⟩,hb⟩
 match vs,hl,hr with
 | [v0,v1,v2],_,hr =>
  have q2:=hr 2 _ _ rfl rfl
  obtain ⟨rfl,_⟩:=rep_lit q2
  refine ⟨v0,v1,rfl,⟨own',_,l1,l2,ns,hr 0 _ _ rfl rfl,hr 1 _ _ rfl rfl,rfl,fun x hx=>?_,hfr.2,fun b hb=>?_⟩,hb⟩
  ·have:=hfr.1 x hx;omega
  ·apply Nat.le_of_not_lt
   intro h
   exact hb (ho b h)
end Go.Proofs.Ytamjbjkbineafaa.EvFnExactTreePut

namespace Go.Proofs.Ytamjbjkbineafaa.Law
open Go.RowKit Go.Proofs.Ytamjbjkbineafaa.PFnExactTreePut Go.Proofs.Ytamjbjkbineafaa.Core Go.Proofs.YtamjbjkbineafaaW.PrintWords Go.Proofs.YtamjbjkbineafaaW.PrintLast Go.Proofs.YtamjbjkbineafaaW.PrintMore Go.Proofs.Ytamjbjkbineafaa.Pure
set_option linter.unusedSimpArgs false
set_option linter.unusedVariables false
def laws_markKeySS.f (l0:List (List S38)) (a1:Int):Option (Int × List (List S38)):=if bulkKeySS l0 ≤ 4194304 ∧ 0 ≤ a1 ∧ a1 ≤ 1000000000000 then some (a1 + cntKeySS l0,mkKeySS l0 a1) else none
theorem markKeySS_f {l:List (List S38)} {a:Int} (ho:okKeySS l) (h0:0 ≤ a) (h1:a ≤ 1000000000000):laws_markKeySS.f l a = some (a + cntKeySS l,mkKeySS l a):=if_pos ⟨ho,h0,h1⟩
set_option maxHeartbeats 4000000 in
set_option maxRecDepth 100000 in
theorem laws_markKeySS.calls (P0_:Nat → Prop) (u9000_:Value) (l0:List (List S38)) (a1:Int) (r1:Int) (r2:List (List S38)) (w0 w:World) (hB:Below w0.heap.size w0 w) (ho0:Kd.S (Kd.slice 38 k38) 45 w w0.heap.size P0_ u9000_ l0) (h:laws_markKeySS.f l0 a1 = some (r1,r2)) :
  Calls Try.prog 72 #[u9000_,.int .i64 a1] w fun e w'=>e = .returned (.int .i64 r1) ∧ Kd.S (Kd.slice 38 k38) 45 w' w0.heap.size (fun k_=>(P0_ k_ ∨ w.heap.size ≤ k_)) u9000_ r2 ∧ Below w0.heap.size w0 w' ∧ Kept w w' (fun k_=>P0_ k_):=by
 unfold laws_markKeySS.f at h
 split at h
 case isFalse=>cases h
 case isTrue hc =>
 obtain ⟨hok,h0,h1⟩:=hc
 replace hok:okKeySS l0:=hok
 obtain ⟨ll,rfl⟩:∃ y,y = l0:=⟨_,rfl⟩
 obtain ⟨a,rfl⟩:∃ y,y = a1:=⟨_,rfl⟩
 obtain ⟨P,rfl⟩:∃ y,y = P0_:=⟨_,rfl⟩
 obtain ⟨u,rfl⟩:∃ y,y = u9000_:=⟨_,rfl⟩
 have ho:=ho0
 clear ho0
 injection h with h
 injection h with hr1 hr2
 subst hr1
 subst hr2
 have HL:=aA.mk (okKeySS_len hok)
 have HOK:=aA.mk hok
 have HC:=aA.mk (cntKeySS_nn hok)
 have HO0:=aA.mk (show Kd.S (Kd.slice 38 k38) 45 w w0.heap.size (fun k_=>P k_ ∨ w.heap.size ≤ k_) u (midL mkKeyS cntKeyS ll a 0) from by rw [midL_zero];exact Kd.S_mono ho (fun _ hk=>.inl hk))
 obtain ⟨A,c,rfl⟩:=Kd.S_slice ho
 have HK:=aA.mk (Kept.refl w P)
 have HB:=aA.mk hB
 have H0:=aA.mk h0
 have H1:=aA.mk h1
 clear hB ho hok h0 h1
 go_enter Try.func72,Try.ntmps72
 go_wp2
 go_loopg [1,5] ll.length (fun kq v1 v5 w'=>∃ (x1_1 x5_1:Int),v1 = .int .i64 x1_1 ∧ v5 = .int .i64 x5_1 ∧ aA (0 ≤ x5_1 ∧ x5_1 ≤ ll.length ∧ kq = ll.length - x5_1.toNat) ∧ aA (x1_1 = a + cntKeySS (ll.take x5_1.toNat)) ∧ aA (Kd.S (Kd.slice 38 k38) 45 w' w0.heap.size (fun k_=>P k_ ∨ w.heap.size ≤ k_) (.slice A ll.length c) (midL mkKeyS cntKeyS ll a x5_1.toNat)) ∧ aA (Kept w w' P) ∧ aA (Below w0.heap.size w0 w'))
 case atStart=>exact ⟨a,0,rfl,rfl,⟨vG⟩,⟨by simp [cntKeySS,cntL]⟩,HO0,HK,HB⟩
 case round =>
  clear HO0 HK HB
  obtain ⟨x1_1,x5_1,rfl,rfl,HI,HX,HO,HK,HB⟩:=hrel
  by_cases c3:x5_1 < (ll.length:Int)
  ·have c3b0:decide (x5_1 < (ll.length:Int)) = true:=decide_eq_true c3
   have p1:0 ≤ x5_1:=HI.out.1
   obtain ⟨i,hi⟩:∃ i:Nat,i = x5_1.toNat:=⟨_,rfl⟩
   have hil:i < ll.length:=by omega
   obtain ⟨go,co,eo,gb,gl,cl,HG⟩:=Kd.S_form HO.out (by rw [midL_length mkKeyS cntKeyS ll a _ tD];omega)
   rw [midL_length mkKeyS cntKeyS ll a _ tD] at eo
   cases eo
   obtain ⟨oki,v,hoki,hR,hcell,hback⟩:=Mem.lent HO.out x5_1 p1 c3 (fun k hk=>.inr (Nat.le_trans HK.out.1 hk))
   rw [← hi,midL_getD mkKeyS cntKeyS [] ll a i hil] at hR
   obtain ⟨Ai,ci,rfl⟩:=Kd.R_slice hR
   have ht:=cntKeySS_take ll i
   have hx:=HX.out
   rw [← hi] at hx
   have hc:=HC.out
   have h0:=H0.out
   have h1:=H1.out
   obtain ⟨K,hK⟩:=markKeyS_ev (ll.getD i []) x1_1 (okKeySS_at HOK.out i hil) tD tD
   have hcall:=laws_markKeyS.calls K oki _ (ll.getD i []) x1_1 (x1_1 + cntKeyS (ll.getD i [])) (mkKeyS (ll.getD i []) x1_1) w0 wr HB.out hR (hK K (Nat.le_refl _))
   have HCALL:=aA.mk hcall
   have HN:=aA.mk (show cntKeySS (ll.take (i + 1)) = cntKeySS (ll.take i) + cntKeyS (ll.getD i []) from cntL_take cntKeyS [] ll i hil)
   have HS:=aA.mk (midL_set mkKeyS cntKeyS [] ll a i hil)
   have HBK:=aA.mk hback
   have HOKI:=aA.mk hoki
   have HI':=aA.mk hi
   have HX':=aA.mk hx
   have HIL:=aA.mk hil
   have HE:=aA.mk (show rdOf [] ll x5_1 = ll.getD i [] by unfold rdOf;rw [hi])
   clear hK hcall hback hoki hx hc h0 h1 ht hil hR
   clear HO
   replace p1:=eq_true p1
   replace c3:=eq_true c3
   generalize ll.getD i [] = y at *
   clear hi
   go_wp2_with (first|((with_reducible refine aT (f:=95) rfl ?_);refine goesL_ (some 17) rfl rfl Try.func95 tF rfl #[.slice Ai y.length ci,.int .i64 x1_1] rfl vx ?_;refine HCALL.out.mono ?_;rintro e w1 ⟨rfl,hR1,hB1,hK1⟩;refine ⟨_,rfl,?_⟩;have n0:=aA.mk (HBK.out w1 _ hK1 hR1);have n1:=aA.mk (Kept.then_ HK.out hK1 (fun k hk=>HOKI.out k hk));clear HK HB;have HO:=n0;have HK:=n1;have HB:=aA.mk hB1;clear n0 n1 hK1 hR1 hB1))
   go_roundg (ll.length - (x5_1.toNat + 1))
   case measure=>have:=HI.out;have:=HIL.out;have:=HI'.out;omega
   case rel =>
    have hI:=HI.out
    have hi:=HI'.out
    have hil:=HIL.out
    have hw:wrap64 (x5_1 + 1) = x5_1 + 1:=w64 tD (by have:=HL.out;omega)
    have ht:(x5_1 + 1).toNat = i + 1:=by omega
    refine ⟨_,x5_1 + 1,rfl,by first|rfl|(rw [hw])|(simp [hw]),⟨vG⟩,⟨?_⟩,⟨?_⟩,HK,HB⟩
    ·rw [ht,HN.out,HX'.out];omega
    ·have h:=HO.out
     have hS:(midL mkKeyS cntKeyS ll a i).set i (mkKeyS y (a + cntKeySS (ll.take i))) = midL mkKeyS cntKeyS ll a (i + 1):=HS.out
     rw [← HX'.out] at hS
     rw [ht,← hS,hi]
     exact h
  ·have c3b0:decide (x5_1 < (ll.length:Int)) = false:=decide_eq_false c3
   have hI:=HI.out
   have hx:=HX.out
   have ho:=HO.out
   have e1:x5_1.toNat = ll.length:=by omega
   rw [e1,List.take_length] at hx
   rw [e1,midL_all] at ho
   have HO':=aA.mk ho
   have HX':=aA.mk hx
   clear hI hx ho e1 c3
   go_wp2
   go_ret
   exact ⟨by rw [HX'.out];rfl,HO'.out,HB.out,HK.out⟩
/-- Rows whose elements' rows lie apart, as an element. -/
def deepS {α:Type} (e:Nat) (d:Kd α):Kd (List α) where
 sz:=1
 E:=e :: d.E
 K:=(Kd.slice e d).K
 M:=fun w base ok x cs=>∃ v,cs = [v] ∧ Kd.S d e w base ok v x
 K_len:=(Kd.slice e d).K_len
 K_one:=(Kd.slice e d).K_one
 K_below:=(Kd.slice e d).K_below
 K_of_M:=by
  rintro w base ok x cs ⟨v,rfl,h⟩
  exact (Kd.slice e d).K_of_M ⟨v,rfl,Kd.S_R h⟩
 M_mono:=by
  rintro w base ok ok' x cs hok ⟨v,rfl,h⟩
  exact ⟨v,rfl,Kd.S_mono h hok⟩
 M_bound:=by
  rintro w base ok x cs ⟨v,rfl,h⟩
  exact ⟨v,rfl,Kd.S_bound h⟩
 M_move:=by
  rintro w w1 base ok x cs hm ⟨v,rfl,h⟩
  exact ⟨v,rfl,Kd.S_move h hm⟩
 M_lower:=by
  rintro w base base' ok x cs hb ⟨v,rfl,h⟩
  exact ⟨v,rfl,Kd.S_lower h hb⟩
def k59D:Kd S59:=Kd.iso (deepS 45 (Kd.slice 38 k38)) (fun x:S59=>x.f0)
theorem lentD {g n cap base:Nat} {P:Nat → Prop} {W:World} {xs:List S59} (h:Kd.S k59D 59 W base P (.slice (some ⟨g,0,none⟩) n cap) xs) (i:Int) (h0:0 ≤ i) (h1:i < n) (hnew:∀ k,W.heap.size ≤ k → P k) :
  ∃ (oki:Nat → Prop) (v:Value),(∀ k,oki k → P k) ∧ Kd.S (Kd.slice 38 k38) 45 W base oki v (xs.getD i.toNat z59).f0 ∧ W.cell? ⟨g,i.toNat,none⟩ = some v ∧
   ∀ (w1:World) (x':S59),Kept W w1 oki → Kd.S (Kd.slice 38 k38) 45 w1 base (fun k=>oki k ∨ W.heap.size ≤ k) v x'.f0 → Kd.S k59D 59 w1 base P (.slice (some ⟨g,0,none⟩) n cap) (xs.set i.toNat x'):=by
 obtain ⟨oki,c,hcl,hM,hcc,hoki,hH⟩:=Kd.S_lend h z59 i h0 h1
 obtain ⟨v,rfl,hR⟩:=hM
 refine ⟨oki,v,fun k hk=>(hoki k hk).1,hR,?_,fun w1 x' hk hR'=>?_⟩
 ·have:=hcc 0 v rfl
  simpa [show (k59D).sz = 1 from rfl] using this
 ·refine Kd.H_back (Kd.H_step (Kd.H_widen hH) (fun k ho hn hlt=>hk.2 k hlt (fun h2=>hn (.inl h2)))) (okp:=fun k=>oki k ∨ W.heap.size ≤ k) ⟨v,rfl,hR'⟩ (fun k hk'=>?_)
  rcases hk' with hk' | hk'
  ·exact .inl hk'
  ·exact .inr ⟨hnew k hk',hk'⟩
def laws_markNodeS.f (l0:List S59) (a1:Int):Option (Int × List S59):=if bulkNodeS l0 ≤ 4194304 ∧ 0 ≤ a1 ∧ a1 ≤ 900000000000 then some (a1 + cntNodeS l0,mkNodeS l0 a1) else none
theorem markNodeS_f {l:List S59} {a:Int} (ho:okNodeS l) (h0:0 ≤ a) (h1:a ≤ 900000000000):laws_markNodeS.f l a = some (a + cntNodeS l,mkNodeS l a):=if_pos ⟨ho,h0,h1⟩
set_option maxHeartbeats 4000000 in
set_option maxRecDepth 100000 in
theorem laws_markNodeS.calls (P0_:Nat → Prop) (u9000_:Value) (l0:List S59) (a1:Int) (r1:Int) (r2:List S59) (w0 w:World) (hB:Below w0.heap.size w0 w) (ho0:Kd.S k59D 59 w w0.heap.size P0_ u9000_ l0) (h:laws_markNodeS.f l0 a1 = some (r1,r2)) :
  Calls Try.prog 37 #[u9000_,.int .i64 a1] w fun e w'=>e = .returned (.int .i64 r1) ∧ Kd.S k59D 59 w' w0.heap.size (fun k_=>(P0_ k_ ∨ w.heap.size ≤ k_)) u9000_ r2 ∧ Below w0.heap.size w0 w' ∧ Kept w w' (fun k_=>P0_ k_):=by
 unfold laws_markNodeS.f at h
 split at h
 case isFalse=>cases h
 case isTrue hc =>
 obtain ⟨hok,h0,h1⟩:=hc
 replace hok:okNodeS l0:=hok
 obtain ⟨ll,rfl⟩:∃ y,y = l0:=⟨_,rfl⟩
 obtain ⟨a,rfl⟩:∃ y,y = a1:=⟨_,rfl⟩
 obtain ⟨P,rfl⟩:∃ y,y = P0_:=⟨_,rfl⟩
 obtain ⟨u,rfl⟩:∃ y,y = u9000_:=⟨_,rfl⟩
 have ho:=ho0
 clear ho0
 injection h with h
 injection h with hr1 hr2
 subst hr1
 subst hr2
 have HL:=aA.mk (okNodeS_len hok)
 have HOK:=aA.mk hok
 have HC:=aA.mk (cntNodeS_nn hok)
 have HO0:=aA.mk (show Kd.S k59D 59 w w0.heap.size (fun k_=>P k_ ∨ w.heap.size ≤ k_) u (midL mkNode cntNode ll a 0) from by rw [midL_zero];exact Kd.S_mono ho (fun _ hk=>.inl hk))
 obtain ⟨A,c,rfl⟩:=Kd.S_slice ho
 have HK:=aA.mk (Kept.refl w P)
 have HB:=aA.mk hB
 have H0:=aA.mk h0
 have H1:=aA.mk h1
 clear hB ho hok h0 h1
 go_enter Try.func37,Try.ntmps37
 go_wp2
 go_loopg [1,5] ll.length (fun kq v1 v5 w'=>∃ (x1_1 x5_1:Int),v1 = .int .i64 x1_1 ∧ v5 = .int .i64 x5_1 ∧ aA (0 ≤ x5_1 ∧ x5_1 ≤ ll.length ∧ kq = ll.length - x5_1.toNat) ∧ aA (x1_1 = a + cntNodeS (ll.take x5_1.toNat)) ∧ aA (Kd.S k59D 59 w' w0.heap.size (fun k_=>P k_ ∨ w.heap.size ≤ k_) (.slice A ll.length c) (midL mkNode cntNode ll a x5_1.toNat)) ∧ aA (Kept w w' P) ∧ aA (Below w0.heap.size w0 w'))
 case atStart=>exact ⟨a,0,rfl,rfl,⟨vG⟩,⟨by simp [cntNodeS,cntL]⟩,HO0,HK,HB⟩
 case round =>
  clear HO0 HK HB
  obtain ⟨x1_1,x5_1,rfl,rfl,HI,HX,HO,HK,HB⟩:=hrel
  by_cases c3:x5_1 < (ll.length:Int)
  ·have c3b0:decide (x5_1 < (ll.length:Int)) = true:=decide_eq_true c3
   have p1:0 ≤ x5_1:=HI.out.1
   obtain ⟨i,hi⟩:∃ i:Nat,i = x5_1.toNat:=⟨_,rfl⟩
   have hil:i < ll.length:=by omega
   obtain ⟨go,co,eo,gb,gl,cl,HG⟩:=Kd.S_form HO.out (by rw [midL_length mkNode cntNode ll a _ tD];omega)
   rw [midL_length mkNode cntNode ll a _ tD] at eo
   cases eo
   obtain ⟨oki,v,hoki,hR,hcell,hback⟩:=lentD HO.out x5_1 p1 c3 (fun k hk=>.inr (Nat.le_trans HK.out.1 hk))
   rw [← hi,midL_getD mkNode cntNode z59 ll a i hil] at hR
   obtain ⟨Ai,ci,rfl⟩:=Kd.S_slice hR
   have ht:=cntNodeS_take ll i
   have hx:=HX.out
   rw [← hi] at hx
   have hc:=HC.out
   have h0:=H0.out
   have h1:=H1.out
   have hcall:=laws_markKeySS.calls oki _ (ll.getD i z59).f0 x1_1 (x1_1 + cntKeySS (ll.getD i z59).f0) (mkKeySS (ll.getD i z59).f0 x1_1) w0 wr HB.out hR (markKeySS_f (okNodeS_at HOK.out i hil) tD tD)
   have HCALL:=aA.mk hcall
   have HN:=aA.mk (show cntNodeS (ll.take (i + 1)) = cntNodeS (ll.take i) + cntNode (ll.getD i z59) from cntL_take cntNode z59 ll i hil)
   have HS:=aA.mk (midL_set mkNode cntNode z59 ll a i hil)
   have HBK:=aA.mk hback
   have HOKI:=aA.mk hoki
   have HI':=aA.mk hi
   have HX':=aA.mk hx
   have HIL:=aA.mk hil
   clear hcall hback hoki hx hc h0 h1 ht hil hR
   clear HO
   replace p1:=eq_true p1
   replace c3:=eq_true c3
   generalize ll.getD i z59 = y at *
   clear hi
   go_wp2_with (first|((with_reducible refine aT (f:=72) rfl ?_);refine goesL_ (some 18) rfl rfl Try.func72 tF rfl #[.slice Ai y.f0.length ci,.int .i64 x1_1] rfl vx ?_;refine HCALL.out.mono ?_;rintro e w1 ⟨rfl,hR1,hB1,hK1⟩;refine ⟨_,rfl,?_⟩;have n0:=aA.mk (HBK.out w1 (⟨_⟩:S59) hK1 hR1);have n1:=aA.mk (Kept.then_ HK.out hK1 (fun k hk=>HOKI.out k hk));clear HK HB;have HO:=n0;have HK:=n1;have HB:=aA.mk hB1;clear n0 n1 hK1 hR1 hB1))
   go_roundg (ll.length - (x5_1.toNat + 1))
   case measure=>have:=HI.out;have:=HIL.out;have:=HI'.out;omega
   case rel =>
    have hI:=HI.out
    have hi:=HI'.out
    have hil:=HIL.out
    have hw:wrap64 (x5_1 + 1) = x5_1 + 1:=w64 tD (by have:=HL.out;omega)
    have ht:(x5_1 + 1).toNat = i + 1:=by omega
    refine ⟨_,x5_1 + 1,rfl,by first|rfl|(rw [hw])|(simp [hw]),⟨vG⟩,⟨?_⟩,⟨?_⟩,HK,HB⟩
    ·rw [ht,HN.out,HX'.out];unfold cntNode;omega
    ·have h:=HO.out
     have hS:(midL mkNode cntNode ll a i).set i (mkNode y (a + cntNodeS (ll.take i))) = midL mkNode cntNode ll a (i + 1):=HS.out
     rw [← HX'.out] at hS
     rw [ht,← hS,hi]
     exact h
  ·have c3b0:decide (x5_1 < (ll.length:Int)) = false:=decide_eq_false c3
   have hI:=HI.out
   have hx:=HX.out
   have ho:=HO.out
   have e1:x5_1.toNat = ll.length:=by omega
   rw [e1,List.take_length] at hx
   rw [e1,midL_all] at ho
   have HO':=aA.mk ho
   have HX':=aA.mk hx
   clear hI hx ho e1 c3
   go_wp2
   go_ret
   exact ⟨by rw [HX'.out];rfl,HO'.out,HB.out,HK.out⟩
theorem V_of_S {α:Type} {d:Kd α} {e base:Nat} {W:World} {ok:Nat → Prop} {v:Value} {xs:List α} (h:Kd.S d e W base ok v xs):Kd.V d e W base ok v xs:=by
 obtain ⟨A,c,rfl,hl,_⟩:=Kd.S_reads h
 exact ⟨A,c,rfl,hl,Kd.S_F h⟩
theorem V_of_R {α:Type} {d:Kd α} {e base:Nat} {W:World} {ok:Nat → Prop} {v:Value} {xs:List α} (h:Kd.R d e W base ok v xs):Kd.V d e W base ok v xs:=by
 obtain ⟨A,c,rfl,hl,_⟩:=Kd.R_reads h
 exact ⟨A,c,rfl,hl,Kd.R_F h⟩
theorem V_kept' {α:Type} {d:Kd α} {e base:Nat} {W W1:World} {ok S:Nat → Prop} {v:Value} {xs:List α} (h:Kd.V d e W base ok v xs) (hk:Kept W W1 S) (hne:∀ k,ok k → k < W.heap.size → ¬ S k):Kd.V d e W1 base (fun k=>ok k ∧ k < W.heap.size) v xs:=by
 obtain ⟨A,c,rfl,hl,hf⟩:=h
 exact ⟨A,c,rfl,hl,Kd.F_kept (Kd.F_bound hf) hk (fun k hk=>hne k hk.1 hk.2)⟩
def laws_markTree.f (l0_0:List Int) (l0_1:List S59) (a1:Int):Option (Int × List Int × List S59):=if l0_0.length ≤ 4194304 ∧ bulkNodeS l0_1 ≤ 4194304 ∧ 0 ≤ a1 ∧ a1 ≤ 800000000000 then some (a1 + (cntIntS l0_0 + cntNodeS l0_1),mkIntS l0_0 a1,mkNodeS l0_1 (a1 + cntIntS l0_0)) else none
theorem markTree_f {l:List Int} {m:List S59} {a:Int} (ho:okIntS l) (ho2:okNodeS m) (h0:0 ≤ a) (h1:a ≤ 800000000000):laws_markTree.f l m a = some (a + (cntIntS l + cntNodeS m),mkIntS l a,mkNodeS m (a + cntIntS l)):=if_pos ⟨ho,ho2,h0,h1⟩
set_option maxHeartbeats 4000000 in
set_option maxRecDepth 100000 in
theorem laws_markTree.calls (P0_0_ P0_1_:Nat → Prop) (u9000_ u9001_:Value) (l0_0:List Int) (l0_1:List S59) (a1:Int) (r1:Int) (r2:List Int) (r3:List S59) (w0 w:World) (hB:Below w0.heap.size w0 w) (ho0_0:Kd.R (Kd.int .i64) 3 w w0.heap.size P0_0_ u9000_ l0_0) (ho0_1:Kd.S k59D 59 w w0.heap.size P0_1_ u9001_ l0_1) (h:laws_markTree.f l0_0 l0_1 a1 = some (r1,r2,r3)) :
  Calls Try.prog 11 #[.agg #[u9000_,u9001_],.int .i64 a1] w fun e w'=>e = .returned (.int .i64 r1) ∧ Kd.V (Kd.int .i64) 3 w' w0.heap.size (fun k_=>(P0_0_ k_ ∨ P0_1_ k_) ∨ w.heap.size ≤ k_) u9000_ r2 ∧ Kd.V k59D 59 w' w0.heap.size (fun k_=>(P0_0_ k_ ∨ P0_1_ k_) ∨ w.heap.size ≤ k_) u9001_ r3 ∧ Below w0.heap.size w0 w' ∧ Kept w w' (fun k_=>P0_0_ k_ ∨ P0_1_ k_):=by
 have hu:=Try.underlying29
 unfold laws_markTree.f at h
 split at h
 case isFalse=>cases h
 case isTrue hcond =>
 obtain ⟨hok0,hok1,hge,hle⟩:=hcond
 replace hok0:okIntS l0_0:=hok0
 replace hok1:okNodeS l0_1:=hok1
 injection h with h
 simp only [Prod.mk.injEq] at h
 obtain ⟨rfl,rfl,rfl⟩:=h
 have hc0:=cntIntS_nn hok0
 obtain ⟨K,hK⟩:=markIntS_ev l0_0 a1 hok0 hge tD
 have hA:laws_markIntS.f K l0_0 a1 = some (a1 + cntIntS l0_0,mkIntS l0_0 a1):=hK K (Nat.le_refl _)
 have hA2:=markNodeS_f (a:=a1 + cntIntS l0_0) hok1 tD tD
 clear hK
 -- the blocks of the first row, by their type; the second's are none of these
 obtain ⟨P,hP⟩:∃ P:Nat → Prop,P = fun k=>P0_0_ k ∧ k < w.heap.size ∧ ∃ cells,w.heap[k]? = some (.cells cells 3 (0,0)):=⟨_,rfl⟩
 obtain ⟨Q,hQ⟩:∃ Q:Nat → Prop,Q = fun k=>P0_1_ k ∧ k < w.heap.size ∧ ¬ P k:=⟨_,rfl⟩
 have hS0:Kd.R (Kd.int .i64) 3 w w0.heap.size P u9000_ l0_0:=Kd.R_mono (Kd.R_bound ho0_0) (fun k hk=>by
  rw [hP]
  obtain ⟨h1,_,h2,q,hq,hc⟩:=hk
  have:q = 3:=by simpa [Kd.int,Kd.scalar] using hq
  subst this
  exact ⟨h1,h2,hc⟩)
 have hS1:Kd.S k59D 59 w w0.heap.size Q u9001_ l0_1:=Kd.S_mono (Kd.S_bound ho0_1) (fun k hk=>by
  rw [hQ]
  obtain ⟨h1,_,h2,q,hq,cells,hc⟩:=hk
  refine ⟨h1,h2,fun h3=>?_⟩
  rw [hP] at h3
  obtain ⟨_,_,cells',hc'⟩:=h3
  rw [hc] at hc'
  injection hc' with hc'
  injection hc' with _ hc'
  subst hc'
  revert hq
  decide)
 have hPQ:∀ k,P k → ¬ Q k:=fun k h1 h2=>by rw [hQ] at h2;exact h2.2.2 h1
 have hPlt:∀ k,P k → k < w.heap.size:=fun k h1=>by rw [hP] at h1;exact h1.2.1
 have hQlt:∀ k,Q k → k < w.heap.size:=fun k h1=>by rw [hQ] at h1;exact h1.2.1
 have hP0:∀ k,P k → P0_0_ k:=fun k h1=>by rw [hP] at h1;exact h1.1
 have hQ0:∀ k,Q k → P0_1_ k:=fun k h1=>by rw [hQ] at h1;exact h1.1
 clear ho0_0 ho0_1
 obtain ⟨A,c,rfl⟩:=Kd.R_slice hS0
 obtain ⟨A',c',rfl⟩:=Kd.S_slice hS1
 have HS0:=aA.mk hS0
 have HS1:=aA.mk hS1
 have HPQ:=aA.mk hPQ
 have HPL:=aA.mk hPlt
 have HQL:=aA.mk hQlt
 have HP0:=aA.mk hP0
 have HQ0:=aA.mk hQ0
 have HB:=aA.mk hB
 have H1:=aA.mk hA
 have H2:=aA.mk hA2
 clear hS0 hS1 hPQ hPlt hQlt hP0 hQ0 hB hA hA2 hP hQ hok0 hok1 hge hle
 have HSUM:=aA.mk (show a1 + cntIntS l0_0 + cntNodeS l0_1 = a1 + (cntIntS l0_0 + cntNodeS l0_1) by omega)
 clear hc0
 generalize mkIntS l0_0 a1 = t2 at *
 generalize hs2_:mkNodeS l0_1 (a1 + cntIntS l0_0) = s2 at *
 clear hs2_
 generalize hs1_:a1 + cntIntS l0_0 + cntNodeS l0_1 = s1 at *
 generalize a1 + cntIntS l0_0 = t1 at *
 clear hs1_
 go_enter Try.func11,Try.ntmps11
 go_wp2_with (first|((with_reducible refine aX (N:=2) rfl ?_);refine aW ?hg (N:=2) ?hd (cs:=#[.slice A l0_0.length c,.slice A' l0_1.length c']) (t:=29) ?hr ?_;(case hd=>rfl);(case hg=>rfl);(case hr=>exact tP);intro gb hg_ w1 hbox hb;have HG:=aA.mk hg_;have BK:=aA.mk hbox;have HBX:=aA.mk hb;have hz0:w1.cell? ⟨gb,0,none⟩ = some (.slice A l0_0.length c):=(aB BK.out 0).trans rfl;have hz1:w1.cell? ⟨gb,1,none⟩ = some (.slice A' l0_1.length c'):=(aB BK.out 1).trans rfl;clear hbox hb hg_)|((with_reducible refine aT (f:=36) rfl ?_);refine goesL_ (some 8) rfl rfl Try.func36 tF rfl #[.slice A l0_0.length c,.int .i64 a1] rfl vx ?_;(with_reducible refine (laws_markIntS.calls K P _ l0_0 a1 t1 t2 w0 w1 ?s1 ?s2 H1.out).mono ?_);(case s1=>exact below_then HB.out HB.out.size HBX.out);(case s2=>exact Kd.R_below HS0.out HBX.out);rintro e w2 ⟨rfl,hs,hb2,hk⟩;refine ⟨_,rfl,?_⟩;have HV:=aA.mk (V_of_R hs);have HB2:=aA.mk hb2;have HK:=aA.mk hk;have BK2:=aA.mk (blk_kept BK.out hk (fun h2=>by have:=HPL.out _ h2;rw [HG.out] at this;omega));clear hs hb2 hk;have hz2:w2.cell? ⟨gb,1,none⟩ = some (.slice A' l0_1.length c'):=(aB BK2.out 1).trans rfl)|((with_reducible refine aT (f:=37) rfl ?_);refine goesL_ (some 12) rfl rfl Try.func37 tF rfl #[.slice A' l0_1.length c',.int .i64 t1] rfl vx ?_;(with_reducible refine (laws_markNodeS.calls Q _ l0_1 t1 s1 s2 w0 w2 ?s3 ?s4 H2.out).mono ?_);(case s3=>exact HB2.out);(case s4=>exact Kd.S_kept (Kd.S_below HS1.out HBX.out) HK.out (fun k hk h2=>HPQ.out k h2 hk));rintro e w3 ⟨rfl,hs,hb3,hk3⟩;refine ⟨_,rfl,?_⟩;have HV3:=aA.mk (V_of_S hs);have HB3:=aA.mk hb3;have HK3:=aA.mk hk3;clear hs hb3 hk3))
 go_ret
 have hz:=HBX.out.size
 have hk2:=HK.out.1
 obtain ⟨A3,c3,e3,l3,f3⟩:=V_kept' HV.out HK3.out (fun k h1 hlt h2=>by
  rcases h1 with h1|h1
  ·exact HPQ.out k h1 h2
  ·have:=HQL.out k h2;omega)
 obtain ⟨A4,c4,e4,l4,f4⟩:=HV3.out
 refine ⟨by rw [← HSUM.out];rfl,⟨A3,c3,e3,l3,Kd.F_mono f3 (fun k hk=>hk.1.elim (fun h=>.inl (.inl (HP0.out k h))) (fun h=>.inr (Nat.le_trans hz h)))⟩,⟨A4,c4,e4,l4,Kd.F_mono f4 (fun k hk=>hk.elim (fun h=>.inl (.inr (HQ0.out k h))) (fun h=>.inr tD))⟩,HB3.out,?_⟩
 exact ((Kept.of_below HBX.out _).then_ HK.out (fun k hk=>.inl (.inl (HP0.out k hk)))).then_ HK3.out (fun k hk=>.inl (.inr (HQ0.out k hk)))
set_option maxHeartbeats 8000000 in
set_option maxRecDepth 100000 in
theorem laws_toNodeS.calls (k:Nat) (A0:Option Addr) (c0:Nat) (l0:List (S87)) (r:List (S59)) (w:World) (hr0:Kd.C k87 w A0 l0.length l0) (hc0:l0.length ≤ c0) (h:laws_toNodeS.f k l0 = some r) :
  Calls Try.prog 30 #[.slice A0 l0.length c0] w fun e w'=>∃ v0_:Value,e = .returned (v0_) ∧ Kd.S k59D 59 w' w.heap.size (fun _=>True) v0_ r ∧ Below w.heap.size w w':=by
 have hu87:=Try.underlying87
 have hu59:=Try.underlying59
 have HR0:=aA.mk hr0
 have HC0:=aA.mk hc0
 clear hr0 hc0
 have HB:=aA.mk (Below.refl w.heap.size w)
 have H:(if 0 ≤ (l0.length:Int) then (if ((l0.length:Int):Int).toNat ≤ 11728124029610 then (laws_toNodeS.l0 k l0 (List.replicate ((l0.length:Int):Int).toNat z59) 0) else (none)) else (none)) = some r:=h
 clear h
 by_cases c2:0 ≤ (l0.length:Int)
 ·rw [if_pos c2] at H
  have c2b0:=eq_true c2
  have c2b1:decide (0 ≤ (l0.length:Int)) = true:=decide_eq_true c2
  clear c2
  by_cases c3:((l0.length:Int):Int).toNat ≤ 11728124029610
  ·rw [if_pos c3] at H
   have c3b0:=eq_true c3
   have c3b1:decide (((l0.length:Int):Int).toNat ≤ 11728124029610) = true:=decide_eq_true c3
   clear c3
   obtain ⟨y142,hy142⟩:∃ y_:List (S59),y_ = (List.replicate ((l0.length:Int):Int).toNat z59):=⟨_,rfl⟩
   replace H:(laws_toNodeS.l0 k l0 y142 0) = some r:=by first|(rw [hy142];with_reducible exact H)|(have H2_:=(Option.bind_some _ _).symm.trans H;rw [hy142];with_reducible exact H2_)|(have H2_:=(Option.bind_some _ _).symm.trans H;with_reducible exact H2_)|with_reducible exact H|(rw [hy142];exact H)|exact H
   have Ny142:=aA.mk hy142
   clear hy142
   have H':=aA.mk H
   clear H
   go_enter Try.func30,Try.ntmps30
   go_wp2_with (first|((with_reducible refine aX (N:=7) rfl ?_);refine Kd.S_make k59D _ 59 rfl (N:=7) rfl 27 _ _ rfl (l0.length:Int) rfl rfl Try.underlying27 (.agg #[(.slice none 0 0)]) 24 info59 rfl tq tD z59 (ok:=fun _=>True) (okp:=fun _=>True) ⟨_,rfl,Kd.S_nil _ _ _ _ _⟩ (fun _ hk=>hk) trivial (lE tC) (Nat.le_trans (Nat.mul_le_mul_right _ (lE tC:(l0.length:Int).toNat ≤ 11728124029610)) tD) (Below.refl _ _) (Nat.le_refl _) ?_;intro v143 w4 ho5 hb hg_ hnew_;clear hg_ hnew_;(first|rw [← Ny142.out] at ho5|(simp only [Int.reduceToNat] at ho5;rw [← Ny142.out] at ho5));have n0_:=aA.mk (Kd.S_lower ho5 (aM tB));have n1_:=aA.mk (aJ tB hb);clear HB;have HO144:=n0_;have HB:=n1_;clear n0_ n1_;clear hb ho5))
   go_loopg [4] k (fun kq v4 w'=>∃ (x3_1:List (S59)) (x4_1:Int),v4 = .int .i64 x4_1 ∧ aA (laws_toNodeS.l0 kq l0 x3_1 x4_1 = some r) ∧ aA (kq ≤ k) ∧ aA (Kd.S k59D 59 w' w.heap.size (fun _=>True) v143 x3_1) ∧ aA (Below w.heap.size w w'))
   case atStart=>exact ⟨(y142),(0),tK,H',⟨Nat.le_refl _⟩,⟨by (with_reducible repeat (first|apply Kd.S_alloc|apply Kd.S_drewN|apply Kd.S_drew));exact HO144.out⟩,⟨tN⟩⟩
   case round =>
    clear H'
    try clear c2
    try clear c2b0
    try clear c2b1
    try clear p2
    try clear c3
    try clear c3b0
    try clear c3b1
    obtain ⟨x3_1,x4_1,rfl,HA,HK1,HO_3,HB⟩:=hrel
    cases gk with
    | zero=>exact absurd HA.out (by simp [laws_toNodeS.l0])
    | succ k1 =>
     have H:=HA.out
     clear HA
     simp only [laws_toNodeS.l0] at H
     by_cases c6:x4_1 < (l0.length:Int)
     ·rw [if_pos c6] at H
      have c6b0:decide (x4_1 < (l0.length:Int)) = true:=decide_eq_true c6
      clear c6
      by_cases c7:0 ≤ x4_1
      ·rw [if_pos c7] at H
       have c7b0:decide (0 ≤ x4_1) = true:=decide_eq_true c7
       clear c7
       replace H:=lF H
       obtain ⟨t146,A80,H⟩:=H
       replace H:(if x4_1 < (x3_1.length:Int) then (laws_toNodeS.l0 k1 l0 (x3_1.set (x4_1:Int).toNat (⟨t146⟩:S59)) (wrap64 (x4_1 + 1))) else (none)) = some r:=H
       have A8:=aA.mk A80
       clear A80
       by_cases c9:x4_1 < (x3_1.length:Int)
       ·rw [if_pos c9] at H
        have c9b0:decide (x4_1 < (x3_1.length:Int)) = true:=decide_eq_true c9
        clear c9
        obtain ⟨y149,hy149⟩:∃ y_:List (S59),y_ = (x3_1.set (x4_1:Int).toNat (⟨t146⟩:S59)):=⟨_,rfl⟩
        replace H:(laws_toNodeS.l0 k1 l0 y149 (wrap64 (x4_1 + 1))) = some r:=by first|(rw [hy149];with_reducible exact H)|(have H2_:=(Option.bind_some _ _).symm.trans H;rw [hy149];with_reducible exact H2_)|(have H2_:=(Option.bind_some _ _).symm.trans H;with_reducible exact H2_)|with_reducible exact H|(rw [hy149];exact H)|exact H
        have Ny149:=aA.mk hy149
        clear hy149
        have H':=aA.mk H
        clear H
        have p145:0 ≤ (x4_1:Int):=lE tC
        have q145:x4_1 < (l0.length:Int):=lE tC
        obtain ⟨ad145,A145_0,c145_0,e145,hx145_0,hl145_0,hi145_0⟩:=at_T87 HR0.out x4_1 p145 q145
        cases e145
        replace hx145_0:=(HB.out.cell (lD w _ hx145_0)).trans hx145_0
        have HR145_0:=aA.mk hi145_0
        have HC145_0:=aA.mk hl145_0
        clear hi145_0 hl145_0
        replace p145:=eq_true p145
        replace q145:=eq_true q145
        go_wp2_with (first|((with_reducible refine aT (f:=68) rfl ?_);refine goesL_ (some 20) rfl rfl Try.func68 tF rfl #[.agg #[.slice A145_0 ((rd_T87 l0 x4_1).f0).length c145_0]] rfl tA ?_;(with_reducible refine (laws_toNode.calls k1 _ _ ((rd_T87 l0 x4_1).f0) t146 _ ?side1 ?side2 A8.out).mono ?_);(case side1=>repeat (first|exact (Kd.aV HR145_0.out HB.out)|(with_reducible refine Kd.C_alloc ?_ _)|(with_reducible refine Kd.C_drewN ?_ _)|(with_reducible refine Kd.C_drew ?_)));(case side2=>exact HC145_0.out);rintro e w11 ⟨v147,rfl,ho0,hb⟩;refine ⟨_,rfl,?_⟩;have n0_:=aA.mk (Kd.S_old HO_3.out hb);obtain ⟨bs_,ebs_⟩:∃ y_,y_ = wr.heap.size:=⟨_,rfl⟩;rw [← ebs_] at n0_;have n1_:=aA.mk (Kd.S_lower (Kd.S_mono (ok':=fun k_=>bs_ ≤ k_) (Kd.S_bound ho0) (fun k_ hk_=>by rw [ebs_];exact hk_.2.1)) (aM tB));have n2_:=aA.mk (aJ tB hb);clear HO_3;clear HB;have HO_3:=n0_;have HO148:=n1_;have HB:=n2_;clear n0_ n1_ n2_;(try clear hb);(try clear hk);(try clear ho0);have p10:0 ≤ (x4_1:Int):=lE tC;have q10:(x4_1:Int) < ((x3_1.length:Int):Int):=lE tC;obtain ⟨go10,co10,eo10,gb10,gl10,cl10,HG10⟩:=Kd.S_form HO_3.out tD;(first|cases eo10|(injection eo10 with ea_ en_ ec_;(first|subst ea_|(injection ea_ with ea_;subst ea_));subst ec_;clear en_));have GB10:=aA.mk gb10;have GG10:=aA.mk HG10;clear gb10 gl10 HG10;obtain ⟨_,ce10,hcl10,hM10,hcc10,hfr10,_,_⟩:=Kd.S_elem HO_3.out z59 (x4_1:Int) p10 q10;obtain ⟨ve10_0,rfl,ge10_0⟩:=(id hM10);have hx10_0:=hcc10 0 _ rfl;have hf10_0:=hfr10 0;(try simp only [show (k59D).sz = 1 from rfl,Nat.mul_one,Nat.add_zero] at hx10_0);(try simp only [show (k59D).sz = 1 from rfl,Nat.mul_one,Nat.add_zero] at hf10_0);(try clear hcl10);(try clear hcc10);(try clear hfr10);(try clear hM10);replace p10:=eq_true p10;replace q10:=eq_true q10;have HGO12:=aA.mk (show go10 < bs_ from ((Kd.S_R HO_3.out).1 _ rfl).2);have HX12:=aA.mk (show Kd.S k59D 59 w11 w.heap.size (fun k_=>((fun _=>True)) k_ ∧ ¬ ((fun k_=>bs_ ≤ k_)) k_) (.slice (some ⟨go10,0,none⟩) x3_1.length co10) x3_1 from Kd.S_mono HO_3.out (fun k_ hk=>⟨trivial,fun e_=>Nat.not_lt_of_le e_ hk.2⟩));obtain ⟨oki12,ce12,hcl12,hM12,hcc12,hfr12,hoki12,hH12⟩:=Kd.S_elem HX12.out z59 (x4_1:Int) (lE tC) vE;obtain ⟨ve12_0,rfl,ge12_0⟩:=(id hM12);have HP12:=Kd.S_seg hH12 (lE tC) vE (seg:=[v147]) (j:=0) (show 1 ≤ 1 from by decide) (x':=(⟨t146⟩:S59)) (okp:=fun k_=>bs_ ≤ k_) ⟨_,rfl,HO148.out⟩ (fun _ hk=>Or.inr hk) (fun k_ hk_=>⟨trivial,fun e_=>by rw [e_] at hk_;exact Nat.not_lt_of_le hk_ HGO12.out⟩);have hx12_0:=hcc12 0 _ rfl;(try simp only [show (k59D).sz = 1 from rfl,Nat.mul_one,Nat.add_zero] at hx12_0);have hf12_0:=hfr12 0;(try simp only [show (k59D).sz = 1 from rfl,Nat.mul_one,Nat.add_zero] at hf12_0);(try clear hcl12);(try clear hcc12);(try clear hfr12);(try clear hM12);(try simp only [show (k59D).sz = 1 from rfl,Nat.mul_one,Nat.add_zero] at HP12))|((with_reducible refine gate_store (t:=59) (p:=21) rfl ?_);refine store_event (t:=59) (p:=21) (v:=?vo_w13) (w1:=(w11.setCell ⟨go10,(x4_1:Int).toNat,none⟩ (v147))) ?hg ?ho ?hn ?hr ?_;(case ho=>rfl);(case hg=>rfl);(case hn=>rfl);(case hr=>exact td);intro w13 hw;have hg:w11.grownBy w13 (some go10):=(by rw [hw];exact HP12.2);have hp_:Kd.S k59D 59 w13 w.heap.size (fun _=>True) (.slice (some ⟨go10,0,none⟩) x3_1.length co10) y149:=(by rw [hw,Ny149.out];exact HP12.1);clear HP12;have n0_:=aA.mk (hp_);have n1_:=aA.mk ((by rw [hw];exact aH (HB.out) GB10.out:Below w.heap.size w w13));clear HO_3;clear HB;clear HO148;have HO_3:=n0_;have HB:=n1_;clear n0_ n1_;clear hg hw hp_))
        go_roundg k1
        case measure=>have:=HK1.out;omega
        case rel=>exact ⟨(y149),(wrap64 (x4_1 + 1)),tK,H',⟨vM⟩,⟨vR⟩,⟨tN⟩⟩
       ·rw [if_neg c9] at H
        exact vX
      ·rw [if_neg c7] at H
       exact vX
     ·rw [if_neg c6] at H
      have c6b0:decide (x4_1 < (l0.length:Int)) = false:=decide_eq_false c6
      clear c6
      obtain rfl:=Option.some.inj H
      go_wp2
      go_ret
      exact ⟨_,tG,vR,tN⟩
  ·rw [if_neg c3] at H
   exact vX
 ·rw [if_neg c2] at H
  exact vX
set_option maxHeartbeats 8000000 in
set_option maxRecDepth 100000 in
theorem walk_toTree (A0_0:Option Addr) (c0_0:Nat) (l0_0:List (Int)) (A0_1:Option Addr) (c0_1:Nat) (l0_1:List (S87)) (k1:Nat) (k2:Nat) (r1_0:List Int) (r2_0:List (S59)) (w:World) (hr0_0:Kd.C (Kd.int .i64) w A0_0 l0_0.length l0_0) (hc0_0:l0_0.length ≤ c0_0) (hr0_1:Kd.C k87 w A0_1 l0_1.length l0_1) (hc0_1:l0_1.length ≤ c0_1) (Q1x:laws_toIntS.f k1 l0_0 = some r1_0) (Q2x:laws_toNodeS.f k2 l0_1 = some r2_0) :
  Calls Try.prog 8 #[.agg #[.slice A0_0 l0_0.length c0_0,.slice A0_1 l0_1.length c0_1]] w fun e w'=>∃ v0_ v1_:Value,e = .returned (.agg #[v0_,v1_]) ∧ Kd.R (Kd.int .i64) 3 w' w.heap.size (fun _=>True) v0_ r1_0 ∧ Kd.S k59D 59 w' w.heap.size (fun _=>True) v1_ r2_0 ∧ Below w.heap.size w w':=by
 have hu25:=Try.underlying25
 have hu29:=Try.underlying29
 have HR0_0:=aA.mk hr0_0
 have HC0_0:=aA.mk hc0_0
 clear hr0_0 hc0_0
 have HR0_1:=aA.mk hr0_1
 have HC0_1:=aA.mk hc0_1
 clear hr0_1 hc0_1
 have Q1:=aA.mk Q1x
 clear Q1x
 have Q2:=aA.mk Q2x
 clear Q2x
 have HB:=aA.mk (Below.refl w.heap.size w)
 have HORD:=aA.mk (Nat.le_refl w.heap.size)
 have HT:=aA.mk (Nat.le_refl w.heap.size)
 go_enter Try.func8,Try.ntmps8
 go_wp2_with (first|((with_reducible refine aX (N:=1) rfl ?_);refine aW ?hg (N:=1) ?hd (cs:=#[.slice A0_0 l0_0.length c0_0,.slice A0_1 l0_1.length c0_1]) (t:=25) ?hr ?_;(case hd=>rfl);(case hg=>rfl);(case hr=>exact tP);intro gb1 hg_ w1 hbox hb;have hge_:w.heap.size ≤ gb1:=vD;have hlt_:gb1 + 1 ≤ w1.heap.size:=aY hbox;have n0_:=aA.mk (aJ HB.out hb);have n1_:=aA.mk (hbox);have n2_:=aA.mk (And.intro HORD.out (And.intro hge_ (Nat.le_succ gb1)));have n3_:=aA.mk (hlt_);(try clear HB);(try clear BK1);(try clear HORD);(try clear HT);have HB:=n0_;have BK1:=n1_;have HORD:=n2_;have HT:=n3_;clear n0_ n1_ n2_ n3_;clear hb hbox hg_ hge_ hlt_;have hzgb1_0_1:w1.cell? ⟨gb1,0,none⟩ = some (.slice A0_0 l0_0.length c0_0):=(aB BK1.out 0).trans rfl;have hygb1_0_1:=aC BK1.out 0;have hzgb1_1_1:w1.cell? ⟨gb1,1,none⟩ = some (.slice A0_1 l0_1.length c0_1):=(aB BK1.out 1).trans rfl;have hygb1_1_1:=aC BK1.out 1)|((with_reducible refine aX (N:=2) rfl ?_);refine aW ?hg (N:=2) ?hd (cs:=#[.slice none 0 0,.slice none 0 0]) (t:=29) ?hr ?_;(case hd=>rfl);(case hg=>rfl);(case hr=>exact tP);intro gb2 hg_ w2 hbox hb;have hge_:(gb1 + 1) ≤ gb2:=vD;have hlt_:gb2 + 1 ≤ w2.heap.size:=aY hbox;have n0_:=aA.mk (aG BK1.out hb);have n1_:=aA.mk (aJ HB.out hb);have n2_:=aA.mk (hbox);have n3_:=aA.mk (And.intro HORD.out (And.intro hge_ (Nat.le_succ gb2)));have n4_:=aA.mk (hlt_);(try clear BK1);(try clear HB);(try clear BK2);(try clear HORD);(try clear HT);have BK1:=n0_;have HB:=n1_;have BK2:=n2_;have HORD:=n3_;have HT:=n4_;clear n0_ n1_ n2_ n3_ n4_;clear hb hbox hg_ hge_ hlt_;have hzgb1_0_2:w2.cell? ⟨gb1,0,none⟩ = some (.slice A0_0 l0_0.length c0_0):=(aB BK1.out 0).trans rfl;have hygb1_0_2:=aC BK1.out 0;have hzgb1_1_2:w2.cell? ⟨gb1,1,none⟩ = some (.slice A0_1 l0_1.length c0_1):=(aB BK1.out 1).trans rfl;have hygb1_1_2:=aC BK1.out 1;have hzgb2_0_2:w2.cell? ⟨gb2,0,none⟩ = some (.slice none 0 0):=(aB BK2.out 0).trans rfl;have hygb2_0_2:=aC BK2.out 0;have hzgb2_1_2:w2.cell? ⟨gb2,1,none⟩ = some (.slice none 0 0):=(aB BK2.out 1).trans rfl;have hygb2_1_2:=aC BK2.out 1)|((with_reducible refine aX (N:=3) rfl ?_);refine aW ?hg (N:=3) ?hd (cs:=#[.slice none 0 0,.slice none 0 0]) (t:=29) ?hr ?_;(case hd=>rfl);(case hg=>rfl);(case hr=>exact tP);intro gb3 hg_ w3 hbox hb;have hge_:(gb2 + 1) ≤ gb3:=vD;have hlt_:gb3 + 1 ≤ w3.heap.size:=aY hbox;have n0_:=aA.mk (aG BK1.out hb);have n1_:=aA.mk (aG BK2.out hb);have n2_:=aA.mk (aJ HB.out hb);have n3_:=aA.mk (hbox);have n4_:=aA.mk (And.intro HORD.out (And.intro hge_ (Nat.le_succ gb3)));have n5_:=aA.mk (hlt_);(try clear BK1);(try clear BK2);(try clear HB);(try clear BK3);(try clear HORD);(try clear HT);have BK1:=n0_;have BK2:=n1_;have HB:=n2_;have BK3:=n3_;have HORD:=n4_;have HT:=n5_;clear n0_ n1_ n2_ n3_ n4_ n5_;clear hb hbox hg_ hge_ hlt_;have hzgb1_0_3:w3.cell? ⟨gb1,0,none⟩ = some (.slice A0_0 l0_0.length c0_0):=(aB BK1.out 0).trans rfl;have hygb1_0_3:=aC BK1.out 0;have hzgb1_1_3:w3.cell? ⟨gb1,1,none⟩ = some (.slice A0_1 l0_1.length c0_1):=(aB BK1.out 1).trans rfl;have hygb1_1_3:=aC BK1.out 1;have hzgb2_0_3:w3.cell? ⟨gb2,0,none⟩ = some (.slice none 0 0):=(aB BK2.out 0).trans rfl;have hygb2_0_3:=aC BK2.out 0;have hzgb2_1_3:w3.cell? ⟨gb2,1,none⟩ = some (.slice none 0 0):=(aB BK2.out 1).trans rfl;have hygb2_1_3:=aC BK2.out 1;have hzgb3_0_3:w3.cell? ⟨gb3,0,none⟩ = some (.slice none 0 0):=(aB BK3.out 0).trans rfl;have hygb3_0_3:=aC BK3.out 0;have hzgb3_1_3:w3.cell? ⟨gb3,1,none⟩ = some (.slice none 0 0):=(aB BK3.out 1).trans rfl;have hygb3_1_3:=aC BK3.out 1)|((with_reducible refine aT (f:=29) rfl ?_);refine goesL_ (some 6) rfl rfl Try.func29 tF rfl #[.slice A0_0 l0_0.length c0_0] rfl tA ?_;(with_reducible refine (laws_toIntS.calls k1 _ _ l0_0 r1_0 _ ?s1 ?s2 Q1.out).mono ?_);(case s1=>exact wF);(case s2=>exact HC0_0.out);rintro e_ w4 ⟨v0_,rfl,ho0,hb⟩;refine ⟨_,rfl,?_⟩;obtain ⟨lo4,hi4,el_,eh_,ol_,oh_⟩:=Mem.times HT.out hb;(try rw [← el_] at ho0);obtain ⟨A4_0,c4_0,ev_,hc0_,hf0_,hs0_⟩:=Mem.new_R ho0 eh_;subst ev_;have n0_:=aA.mk (aG BK1.out hb);have n1_:=aA.mk (aG BK2.out hb);have n2_:=aA.mk (aG BK3.out hb);have n3_:=aA.mk (aJ HB.out hb);have n4_:=aA.mk (hf0_);have n5_:=aA.mk (hc0_);have n6_:=aA.mk (hs0_);have n7_:=aA.mk (And.intro HORD.out (And.intro ol_ oh_));have n8_:=aA.mk (Nat.le_of_eq eh_);(try clear BK1);(try clear BK2);(try clear BK3);(try clear HB);(try clear HF4_0);(try clear HC4_0);(try clear HS4_0);(try clear HORD);(try clear HT);have BK1:=n0_;have BK2:=n1_;have BK3:=n2_;have HB:=n3_;have HF4_0:=n4_;have HC4_0:=n5_;have HS4_0:=n6_;have HORD:=n7_;have HT:=n8_;clear n0_ n1_ n2_ n3_ n4_ n5_ n6_ n7_ n8_;clear ol_ oh_ el_ eh_ ho0 hf0_ hc0_ hs0_;(try clear hb);have hzgb1_0_4:w4.cell? ⟨gb1,0,none⟩ = some (.slice A0_0 l0_0.length c0_0):=(aB BK1.out 0).trans rfl;have hygb1_0_4:=aC BK1.out 0;have hzgb1_1_4:w4.cell? ⟨gb1,1,none⟩ = some (.slice A0_1 l0_1.length c0_1):=(aB BK1.out 1).trans rfl;have hygb1_1_4:=aC BK1.out 1;have hzgb2_0_4:w4.cell? ⟨gb2,0,none⟩ = some (.slice none 0 0):=(aB BK2.out 0).trans rfl;have hygb2_0_4:=aC BK2.out 0;have hzgb2_1_4:w4.cell? ⟨gb2,1,none⟩ = some (.slice none 0 0):=(aB BK2.out 1).trans rfl;have hygb2_1_4:=aC BK2.out 1;have hzgb3_0_4:w4.cell? ⟨gb3,0,none⟩ = some (.slice none 0 0):=(aB BK3.out 0).trans rfl;have hygb3_0_4:=aC BK3.out 0;have hzgb3_1_4:w4.cell? ⟨gb3,1,none⟩ = some (.slice none 0 0):=(aB BK3.out 1).trans rfl;have hygb3_1_4:=aC BK3.out 1)|((with_reducible refine gate_store (t:=22) (p:=7) rfl ?_);refine store_event (t:=22) (p:=7) (v:=?vo_w5) (w1:=(w4.setCell ⟨gb3,0,none⟩ (.slice A4_0 r1_0.length c4_0))) ?hg ?ho ?hn ?hr ?_;(case ho=>rfl);(case hg=>rfl);(case hn=>rfl);(case hr=>exact tP);intro w5 hw_;have hkp:Kept w4 w5 (fun k_=>k_ = gb3):=(by rw [hw_];exact Kept.setCell (Kept.refl w4 (fun k_=>k_ = gb3)) (.inl rfl) (.slice A4_0 r1_0.length c4_0));have hge_:w.heap.size ≤ gb3:=vN;have hbn_:Below w.heap.size w w5:=(by rw [hw_];exact aH (HB.out) hge_);have hbk_:w5.heap[gb3]? = some (.cells #[.slice A4_0 r1_0.length c4_0,.slice none 0 0] 29 (0,0)):=(by rw [hw_];exact blk_put (cs:=#[.slice none 0 0,.slice none 0 0]) (cs':=#[.slice A4_0 r1_0.length c4_0,.slice none 0 0]) (BK3.out) 0 _ rfl);have hsz_:hi4 ≤ w5.heap.size:=Nat.le_trans HT.out hkp.1;have n0_:=aA.mk (Kd.F_kept HF4_0.out hkp tT);have n1_:=aA.mk (Kd.R_kept HS4_0.out hkp tT);have n2_:=aA.mk (blk_kept BK1.out hkp tf);have n3_:=aA.mk (blk_kept BK2.out hkp tf);have n4_:=aA.mk (hbn_);have n5_:=aA.mk (hbk_);have n6_:=aA.mk (hsz_);(try clear HF4_0);(try clear HS4_0);(try clear BK1);(try clear BK2);(try clear HB);(try clear BK3);(try clear HT);have HF4_0:=n0_;have HS4_0:=n1_;have BK1:=n2_;have BK2:=n3_;have HB:=n4_;have BK3:=n5_;have HT:=n6_;clear n0_ n1_ n2_ n3_ n4_ n5_ n6_;clear hw_ hkp hge_ hbn_ hbk_ hsz_;have hzgb1_0_5:w5.cell? ⟨gb1,0,none⟩ = some (.slice A0_0 l0_0.length c0_0):=(aB BK1.out 0).trans rfl;have hygb1_0_5:=aC BK1.out 0;have hzgb1_1_5:w5.cell? ⟨gb1,1,none⟩ = some (.slice A0_1 l0_1.length c0_1):=(aB BK1.out 1).trans rfl;have hygb1_1_5:=aC BK1.out 1;have hzgb2_0_5:w5.cell? ⟨gb2,0,none⟩ = some (.slice none 0 0):=(aB BK2.out 0).trans rfl;have hygb2_0_5:=aC BK2.out 0;have hzgb2_1_5:w5.cell? ⟨gb2,1,none⟩ = some (.slice none 0 0):=(aB BK2.out 1).trans rfl;have hygb2_1_5:=aC BK2.out 1;have hzgb3_0_5:w5.cell? ⟨gb3,0,none⟩ = some (.slice A4_0 r1_0.length c4_0):=(aB BK3.out 0).trans rfl;have hygb3_0_5:=aC BK3.out 0;have hzgb3_1_5:w5.cell? ⟨gb3,1,none⟩ = some (.slice none 0 0):=(aB BK3.out 1).trans rfl;have hygb3_1_5:=aC BK3.out 1)|((with_reducible refine aT (f:=30) rfl ?_);refine goesL_ (some 10) rfl rfl Try.func30 tF rfl #[.slice A0_1 l0_1.length c0_1] rfl tA ?_;(with_reducible refine (laws_toNodeS.calls k2 _ _ l0_1 r2_0 _ ?s1 ?s2 Q2.out).mono ?_);(case s1=>exact wE);(case s2=>exact HC0_1.out);rintro e_ w6 ⟨v0_,rfl,ho0,hb⟩;refine ⟨_,rfl,?_⟩;obtain ⟨lo6,hi6,el_,eh_,ol_,oh_⟩:=Mem.times HT.out hb;(try rw [← el_] at ho0);obtain ⟨A6_0,c6_0,ev_,hc0_,hf0_,hs0_⟩:=Mem.new_S ho0 eh_;subst ev_;have n0_:=aA.mk (Kd.aK HF4_0.out hb);have n1_:=aA.mk (Kd.R_below HS4_0.out hb);have n2_:=aA.mk (aG BK1.out hb);have n3_:=aA.mk (aG BK2.out hb);have n4_:=aA.mk (aG BK3.out hb);have n5_:=aA.mk (aJ HB.out hb);have n6_:=aA.mk (hf0_);have n7_:=aA.mk (hc0_);have n8_:=aA.mk (hs0_);have n9_:=aA.mk (And.intro HORD.out (And.intro ol_ oh_));have n10_:=aA.mk (Nat.le_of_eq eh_);(try clear HF4_0);(try clear HS4_0);(try clear BK1);(try clear BK2);(try clear BK3);(try clear HB);(try clear HF6_0);(try clear HC6_0);(try clear HS6_0);(try clear HORD);(try clear HT);have HF4_0:=n0_;have HS4_0:=n1_;have BK1:=n2_;have BK2:=n3_;have BK3:=n4_;have HB:=n5_;have HF6_0:=n6_;have HC6_0:=n7_;have HS6_0:=n8_;have HORD:=n9_;have HT:=n10_;clear n0_ n1_ n2_ n3_ n4_ n5_ n6_ n7_ n8_ n9_ n10_;clear ol_ oh_ el_ eh_ ho0 hf0_ hc0_ hs0_;(try clear hb);have hzgb1_0_6:w6.cell? ⟨gb1,0,none⟩ = some (.slice A0_0 l0_0.length c0_0):=(aB BK1.out 0).trans rfl;have hygb1_0_6:=aC BK1.out 0;have hzgb1_1_6:w6.cell? ⟨gb1,1,none⟩ = some (.slice A0_1 l0_1.length c0_1):=(aB BK1.out 1).trans rfl;have hygb1_1_6:=aC BK1.out 1;have hzgb2_0_6:w6.cell? ⟨gb2,0,none⟩ = some (.slice none 0 0):=(aB BK2.out 0).trans rfl;have hygb2_0_6:=aC BK2.out 0;have hzgb2_1_6:w6.cell? ⟨gb2,1,none⟩ = some (.slice none 0 0):=(aB BK2.out 1).trans rfl;have hygb2_1_6:=aC BK2.out 1;have hzgb3_0_6:w6.cell? ⟨gb3,0,none⟩ = some (.slice A4_0 r1_0.length c4_0):=(aB BK3.out 0).trans rfl;have hygb3_0_6:=aC BK3.out 0;have hzgb3_1_6:w6.cell? ⟨gb3,1,none⟩ = some (.slice none 0 0):=(aB BK3.out 1).trans rfl;have hygb3_1_6:=aC BK3.out 1)|((with_reducible refine gate_store (t:=27) (p:=11) rfl ?_);refine store_event (t:=27) (p:=11) (v:=?vo_w7) (w1:=(w6.setCell ⟨gb3,1,none⟩ (.slice A6_0 r2_0.length c6_0))) ?hg ?ho ?hn ?hr ?_;(case ho=>rfl);(case hg=>rfl);(case hn=>rfl);(case hr=>exact tP);intro w7 hw_;have hkp:Kept w6 w7 (fun k_=>k_ = gb3):=(by rw [hw_];exact Kept.setCell (Kept.refl w6 (fun k_=>k_ = gb3)) (.inl rfl) (.slice A6_0 r2_0.length c6_0));have hge_:w.heap.size ≤ gb3:=vN;have hbn_:Below w.heap.size w w7:=(by rw [hw_];exact aH (HB.out) hge_);have hbk_:w7.heap[gb3]? = some (.cells #[.slice A4_0 r1_0.length c4_0,.slice A6_0 r2_0.length c6_0] 29 (0,0)):=(by rw [hw_];exact blk_put (cs:=#[.slice A4_0 r1_0.length c4_0,.slice none 0 0]) (cs':=#[.slice A4_0 r1_0.length c4_0,.slice A6_0 r2_0.length c6_0]) (BK3.out) 1 _ rfl);have hsz_:hi6 ≤ w7.heap.size:=Nat.le_trans HT.out hkp.1;have n0_:=aA.mk (Kd.F_kept HF4_0.out hkp tT);have n1_:=aA.mk (Kd.R_kept HS4_0.out hkp tT);have n2_:=aA.mk (Kd.F_kept HF6_0.out hkp tT);have n3_:=aA.mk (Kd.S_kept HS6_0.out hkp tT);have n4_:=aA.mk (blk_kept BK1.out hkp tf);have n5_:=aA.mk (blk_kept BK2.out hkp tf);have n6_:=aA.mk (hbn_);have n7_:=aA.mk (hbk_);have n8_:=aA.mk (hsz_);(try clear HF4_0);(try clear HS4_0);(try clear HF6_0);(try clear HS6_0);(try clear BK1);(try clear BK2);(try clear HB);(try clear BK3);(try clear HT);have HF4_0:=n0_;have HS4_0:=n1_;have HF6_0:=n2_;have HS6_0:=n3_;have BK1:=n4_;have BK2:=n5_;have HB:=n6_;have BK3:=n7_;have HT:=n8_;clear n0_ n1_ n2_ n3_ n4_ n5_ n6_ n7_ n8_;clear hw_ hkp hge_ hbn_ hbk_ hsz_;have hzgb1_0_7:w7.cell? ⟨gb1,0,none⟩ = some (.slice A0_0 l0_0.length c0_0):=(aB BK1.out 0).trans rfl;have hygb1_0_7:=aC BK1.out 0;have hzgb1_1_7:w7.cell? ⟨gb1,1,none⟩ = some (.slice A0_1 l0_1.length c0_1):=(aB BK1.out 1).trans rfl;have hygb1_1_7:=aC BK1.out 1;have hzgb2_0_7:w7.cell? ⟨gb2,0,none⟩ = some (.slice none 0 0):=(aB BK2.out 0).trans rfl;have hygb2_0_7:=aC BK2.out 0;have hzgb2_1_7:w7.cell? ⟨gb2,1,none⟩ = some (.slice none 0 0):=(aB BK2.out 1).trans rfl;have hygb2_1_7:=aC BK2.out 1;have hzgb3_0_7:w7.cell? ⟨gb3,0,none⟩ = some (.slice A4_0 r1_0.length c4_0):=(aB BK3.out 0).trans rfl;have hygb3_0_7:=aC BK3.out 0;have hzgb3_1_7:w7.cell? ⟨gb3,1,none⟩ = some (.slice A6_0 r2_0.length c6_0):=(aB BK3.out 1).trans rfl;have hygb3_1_7:=aC BK3.out 1)|((with_reducible refine gate_store (t:=29) (p:=2) rfl ?_);refine store_event (t:=29) (p:=2) (v:=?vo_w8) (w1:=((w7.setCell ⟨gb2,0,none⟩ (.slice A4_0 r1_0.length c4_0)).setCell ⟨gb2,1,none⟩ (.slice A6_0 r2_0.length c6_0))) ?hg ?ho ?hn ?hr ?_;(case ho=>rfl);(case hg=>rfl);(case hn=>rfl);(case hr=>exact tP);intro w8 hw_;have hkp:Kept w7 w8 (fun k_=>k_ = gb2):=(by rw [hw_];exact Kept.setCell (Kept.setCell (Kept.refl w7 (fun k_=>k_ = gb2)) (.inl rfl) (.slice A4_0 r1_0.length c4_0)) (.inl rfl) (.slice A6_0 r2_0.length c6_0));have hge_:w.heap.size ≤ gb2:=vN;have hbn_:Below w.heap.size w w8:=wB;have hbk_:w8.heap[gb2]? = some (.cells #[.slice A4_0 r1_0.length c4_0,.slice A6_0 r2_0.length c6_0] 29 (0,0)):=(by rw [hw_];exact blk_put (cs:=#[.slice A4_0 r1_0.length c4_0,.slice none 0 0]) (cs':=#[.slice A4_0 r1_0.length c4_0,.slice A6_0 r2_0.length c6_0]) (blk_put (cs:=#[.slice none 0 0,.slice none 0 0]) (cs':=#[.slice A4_0 r1_0.length c4_0,.slice none 0 0]) (BK2.out) 0 _ rfl) 1 _ rfl);have hsz_:hi6 ≤ w8.heap.size:=Nat.le_trans HT.out hkp.1;have n0_:=aA.mk (Kd.F_kept HF4_0.out hkp tT);have n1_:=aA.mk (Kd.R_kept HS4_0.out hkp tT);have n2_:=aA.mk (Kd.F_kept HF6_0.out hkp tT);have n3_:=aA.mk (Kd.S_kept HS6_0.out hkp tT);have n4_:=aA.mk (blk_kept BK1.out hkp tf);have n5_:=aA.mk (blk_kept BK3.out hkp tf);have n6_:=aA.mk (hbn_);have n7_:=aA.mk (hbk_);have n8_:=aA.mk (hsz_);(try clear HF4_0);(try clear HS4_0);(try clear HF6_0);(try clear HS6_0);(try clear BK1);(try clear BK3);(try clear HB);(try clear BK2);(try clear HT);have HF4_0:=n0_;have HS4_0:=n1_;have HF6_0:=n2_;have HS6_0:=n3_;have BK1:=n4_;have BK3:=n5_;have HB:=n6_;have BK2:=n7_;have HT:=n8_;clear n0_ n1_ n2_ n3_ n4_ n5_ n6_ n7_ n8_;clear hw_ hkp hge_ hbn_ hbk_ hsz_;have hzgb1_0_8:w8.cell? ⟨gb1,0,none⟩ = some (.slice A0_0 l0_0.length c0_0):=(aB BK1.out 0).trans rfl;have hygb1_0_8:=aC BK1.out 0;have hzgb1_1_8:w8.cell? ⟨gb1,1,none⟩ = some (.slice A0_1 l0_1.length c0_1):=(aB BK1.out 1).trans rfl;have hygb1_1_8:=aC BK1.out 1;have hzgb2_0_8:w8.cell? ⟨gb2,0,none⟩ = some (.slice A4_0 r1_0.length c4_0):=(aB BK2.out 0).trans rfl;have hygb2_0_8:=aC BK2.out 0;have hzgb2_1_8:w8.cell? ⟨gb2,1,none⟩ = some (.slice A6_0 r2_0.length c6_0):=(aB BK2.out 1).trans rfl;have hygb2_1_8:=aC BK2.out 1;have hzgb3_0_8:w8.cell? ⟨gb3,0,none⟩ = some (.slice A4_0 r1_0.length c4_0):=(aB BK3.out 0).trans rfl;have hygb3_0_8:=aC BK3.out 0;have hzgb3_1_8:w8.cell? ⟨gb3,1,none⟩ = some (.slice A6_0 r2_0.length c6_0):=(aB BK3.out 1).trans rfl;have hygb3_1_8:=aC BK3.out 1))
 refine bodyPost_ret (fn:=Try.f8) (P:=Try.prog) (results_cell_row rfl _ _ gb2 29 #[.slice A4_0 r1_0.length c4_0,.slice A6_0 r2_0.length c6_0] (0,0) _ rfl BK2.out Try.underlying29 rfl tF) rfl ?_
 exact ⟨_,_,rfl,Kd.R_mono (Kd.R_lower HS4_0.out vN) (fun _ _=>trivial),Kd.S_mono (Kd.S_lower HS6_0.out vN) (fun _ _=>trivial),HB.out⟩
theorem laws_toTree.calls (k:Nat) (A0_0:Option Addr) (c0_0:Nat) (l0_0:List Int) (A0_1:Option Addr) (c0_1:Nat) (l0_1:List (S87)) (r1:List Int) (r2:List (S59)) (w:World) (hr0_0:Kd.C (Kd.int .i64) w A0_0 l0_0.length l0_0) (hc0_0:l0_0.length ≤ c0_0) (hr0_1:Kd.C k87 w A0_1 l0_1.length l0_1) (hc0_1:l0_1.length ≤ c0_1) (h:laws_toTree.f k l0_0 l0_1 = some (r1,r2)) :
  Calls Try.prog 8 #[.agg #[.slice A0_0 l0_0.length c0_0,.slice A0_1 l0_1.length c0_1]] w fun e w'=>∃ v0_ v1_:Value,e = .returned (.agg #[v0_,v1_]) ∧ Kd.R (Kd.int .i64) 3 w' w.heap.size (fun _=>True) v0_ r1 ∧ Kd.S k59D 59 w' w.heap.size (fun _=>True) v1_ r2 ∧ Below w.heap.size w w':=by
 unfold laws_toTree.f at h
 obtain ⟨t1,A1,h⟩:=lF h
 obtain ⟨t2,A2,h⟩:=lF h
 replace h:=Option.some.inj h
 simp only [Prod.mk.injEq] at h
 obtain ⟨rfl,rfl⟩:=h
 exact walk_toTree _ _ _ _ _ _ _ _ _ _ w hr0_0 hc0_0 hr0_1 hc0_1 A1 A2
def In2 (a b c d k:Nat):Prop:=In a b k ∨ In c d k
def InG (a b g k:Nat):Prop:=In a b k ∧ k ≠ g
theorem new_V2 {α:Type} {d:Kd α} {e bs a b lo hi:Nat} {w1:World} {ok:Nat → Prop} {v:Value} {xs:List α} (h:Kd.V d e w1 bs ok v xs) (hok:∀ k,ok k → In a b k ∨ lo ≤ k) (eh:hi = w1.heap.size):∃ A c,v = .slice A xs.length c ∧ xs.length ≤ c ∧ Kd.F d w1 (In2 a b lo hi) A xs.length xs:=by
 obtain ⟨A,c,rfl,hc,hf⟩:=h
 subst eh
 exact ⟨A,c,rfl,hc,Kd.F_mono (Kd.F_bound hf) (fun k hk=>(hok k hk.1).imp id (fun h=>⟨h,hk.2⟩))⟩
theorem spec_TreePut.calls (k:Nat) (P0_0_ P0_1_:Nat → Prop) (A0_0:Option Addr) (c0_0:Nat) (l0_0:List Int) (A0_1:Option Addr) (c0_1:Nat) (l0_1:List S59) (a1_0:Int) (a1_1:Int) (a1_2:Int) (a1_3:Int) (a1_4:Int) (r1:List Int) (r2:List S59) (r3:Bool) (w:World) (hs0_0:Kd.V (Kd.int .i64) 3 w 0 P0_0_ (.slice A0_0 l0_0.length c0_0) l0_0) (hs0_1:Kd.V k59 59 w 0 P0_1_ (.slice A0_1 l0_1.length c0_1) l0_1) (h:spec_TreePut.f k l0_0 l0_1 a1_0 a1_1 a1_2 a1_3 a1_4 = some (r1,r2,r3)) :
  Calls Try.prog 21 #[.agg #[.slice A0_0 l0_0.length c0_0,.slice A0_1 l0_1.length c0_1],.agg #[.int .i64 a1_0,.int .i64 a1_1,.int .i64 a1_2,.int .i64 a1_3,.int .i64 a1_4]] w fun e w'=>∃ v0_ v1_:Value,e = .returned (.tuple #[.agg #[v0_,v1_],.bool r3]) ∧ Kd.V (Kd.int .i64) 3 w' w.heap.size (fun k_=>(P0_0_ k_ ∨ P0_1_ k_) ∨ w.heap.size ≤ k_) v0_ r1 ∧ Kd.V k59 59 w' w.heap.size (fun k_=>(P0_0_ k_ ∨ P0_1_ k_) ∨ w.heap.size ≤ k_) v1_ r2 ∧ Below w.heap.size w w':=by
 exact EvFnExactTreePut.spec_put k _ _ _ _ _ hs0_0 hs0_1 h
theorem impl_TreePut.calls (k:Nat) (A0_0:Option Addr) (c0_0:Nat) (l0_0:List Int) (A0_1:Option Addr) (c0_1:Nat) (l0_1:List S59) (a1_0:Int) (a1_1:Int) (a1_2:Int) (a1_3:Int) (a1_4:Int) (r1:List Int) (r2:List S59) (r3:Bool) (w:World) (hr0_0:Kd.C (Kd.int .i64) w A0_0 l0_0.length l0_0) (hc0_0:l0_0.length ≤ c0_0) (hr0_1:Kd.C k59 w A0_1 l0_1.length l0_1) (hc0_1:l0_1.length ≤ c0_1) (h:impl_TreePut.f k l0_0 l0_1 a1_0 a1_1 a1_2 a1_3 a1_4 = some (r1,r2,r3)) :
  Calls Try.prog 23 #[.agg #[.slice A0_0 l0_0.length c0_0,.slice A0_1 l0_1.length c0_1],.agg #[.int .i64 a1_0,.int .i64 a1_1,.int .i64 a1_2,.int .i64 a1_3,.int .i64 a1_4]] w fun e w'=>∃ v0_ v1_:Value,e = .returned (.tuple #[.agg #[v0_,v1_],.bool r3]) ∧ Kd.R (Kd.int .i64) 3 w' w.heap.size (fun _=>True) v0_ r1 ∧ Kd.S k59D 59 w' w.heap.size (fun _=>True) v1_ r2 ∧ Below w.heap.size w w':=by
 refine (EvFnExactTreePut.impl_put k A0_0 c0_0 l0_0 A0_1 c0_1 l0_1 _ _ _ _ _ r1 r2 r3 w hr0_0 hc0_0 hr0_1 hc0_1 h).mono ?_
 rintro e w' ⟨v0,v1,rfl,⟨own,ro,l1,l2,ns,h0,h1,rfl,hz,hnd,hnew⟩,hb⟩
 have hz2:∀ x ∈ l2 :: EvFnExactTreePut.labN ns,x ≠ 0:=fun x hx=>hz x (List.mem_cons_of_mem _ hx)
 refine ⟨v0,v1,rfl,EvFnExactTreePut.ints_R h0 (hz l1 List.mem_cons_self) (fun b hb=>⟨hnew b (by rw [hb];exact hz l1 List.mem_cons_self),trivial⟩),?_,hb⟩
 have hn2:=(List.nodup_cons.1 hnd).2
 refine EvFnExactTreePut.own_S (d:=k59D) (er:=fun n:EvFnExactTreePut.LN=>(⟨EvFnExactTreePut.eS n.ss⟩:S59)) rfl (fun _=>rfl) (fun n=>n.lb :: EvFnExactTreePut.labS n.ss) (fun x cs ok hx hc hr hb=>?_) h1 (hz2 l2 List.mem_cons_self) hn2 (fun b hb=>⟨hnew b (hz2 _ hb),trivial⟩)
 have hsub:∀ y ∈ x.lb :: EvFnExactTreePut.labS x.ss,y ∈ EvFnExactTreePut.labN ns:=fun y hy=>List.mem_flatMap.2 ⟨x,hx,hy⟩
 match cs,hc,hr with
 | [a],_,hr=>exact ⟨a,rfl,EvFnExactTreePut.sets_S (hr 0 _ _ rfl rfl) (hz2 _ (List.mem_cons_of_mem _ (hsub _ List.mem_cons_self))) (fun y hy=>hz2 _ (List.mem_cons_of_mem _ (hsub _ (List.mem_cons_of_mem _ hy)))) ((List.pairwise_flatMap.1 (List.nodup_cons.1 hn2).2).1 x hx) hb⟩
set_option maxHeartbeats 8000000 in
set_option maxRecDepth 100000 in
theorem walkFnExactTreePutbig (A0_0:Option Addr) (c0_0:Nat) (l0_0:List (Int)) (A0_1:Option Addr) (c0_1:Nat) (l0_1:List (S87)) (a1_0:Int) (a1_1:Int) (a1_2:Int) (a1_3:Int) (a1_4:Int) (k1:Nat) (r1_0:Int) (w:World) (hr0_0:Kd.C (Kd.int .i64) w A0_0 l0_0.length l0_0) (hc0_0:l0_0.length ≤ c0_0) (hr0_1:Kd.C k87 w A0_1 l0_1.length l0_1) (hc0_1:l0_1.length ≤ c0_1) (Q1x:laws_szTree.f k1 l0_0 l0_1 1048576 = some r1_0) (pr1_0:r1_0 < 0) :
  Calls Try.prog 5 #[.agg #[.slice A0_0 l0_0.length c0_0,.slice A0_1 l0_1.length c0_1],.agg #[.int .i64 a1_0,.int .i64 a1_1,.int .i64 a1_2,.int .i64 a1_3,.int .i64 a1_4]] w fun e w'=>e = .returned (.bool true) ∧ Below w.heap.size w w':=by
 have hu25:=Try.underlying25
 have hu48:=Try.underlying48
 have HR0_0:=aA.mk hr0_0
 have HC0_0:=aA.mk hc0_0
 clear hr0_0 hc0_0
 have HR0_1:=aA.mk hr0_1
 have HC0_1:=aA.mk hc0_1
 clear hr0_1 hc0_1
 have Q1:=aA.mk Q1x
 clear Q1x
 have dr1_0:decide (r1_0 < 0) = true:=by simp;omega
 clear pr1_0
 have HB:=aA.mk (Below.refl w.heap.size w)
 have HORD:=aA.mk (Nat.le_refl w.heap.size)
 have HT:=aA.mk (Nat.le_refl w.heap.size)
 go_enter Try.func5,Try.ntmps5
 go_wp2_with (first|((with_reducible refine aX (N:=2) rfl ?_);refine aW ?hg (N:=2) ?hd (cs:=#[.slice A0_0 l0_0.length c0_0,.slice A0_1 l0_1.length c0_1]) (t:=25) ?hr ?_;(case hd=>rfl);(case hg=>rfl);(case hr=>exact tP);intro gb1 hg_ w1 hbox hb;have hge_:w.heap.size ≤ gb1:=vD;have hlt_:gb1 + 1 ≤ w1.heap.size:=aY hbox;have n0_:=aA.mk (aJ HB.out hb);have n1_:=aA.mk (hbox);have n2_:=aA.mk (And.intro HORD.out (And.intro hge_ (Nat.le_succ gb1)));have n3_:=aA.mk (hlt_);(try clear HB);(try clear BK1);(try clear HORD);(try clear HT);have HB:=n0_;have BK1:=n1_;have HORD:=n2_;have HT:=n3_;clear n0_ n1_ n2_ n3_;clear hb hbox hg_ hge_ hlt_;have hzgb1_0_1:w1.cell? ⟨gb1,0,none⟩ = some (.slice A0_0 l0_0.length c0_0):=(aB BK1.out 0).trans rfl;have hygb1_0_1:=aC BK1.out 0;have hzgb1_1_1:w1.cell? ⟨gb1,1,none⟩ = some (.slice A0_1 l0_1.length c0_1):=(aB BK1.out 1).trans rfl;have hygb1_1_1:=aC BK1.out 1)|((with_reducible refine aX (N:=3) rfl ?_);refine aW ?hg (N:=3) ?hd (cs:=#[.int .i64 a1_0,.int .i64 a1_1,.int .i64 a1_2,.int .i64 a1_3,.int .i64 a1_4]) (t:=48) ?hr ?_;(case hd=>rfl);(case hg=>rfl);(case hr=>exact tP);intro gb2 hg_ w2 hbox hb;have hge_:(gb1 + 1) ≤ gb2:=vD;have hlt_:gb2 + 1 ≤ w2.heap.size:=aY hbox;have n0_:=aA.mk (aG BK1.out hb);have n1_:=aA.mk (aJ HB.out hb);have n2_:=aA.mk (hbox);have n3_:=aA.mk (And.intro HORD.out (And.intro hge_ (Nat.le_succ gb2)));have n4_:=aA.mk (hlt_);(try clear BK1);(try clear HB);(try clear BK2);(try clear HORD);(try clear HT);have BK1:=n0_;have HB:=n1_;have BK2:=n2_;have HORD:=n3_;have HT:=n4_;clear n0_ n1_ n2_ n3_ n4_;clear hb hbox hg_ hge_ hlt_;have hzgb1_0_2:w2.cell? ⟨gb1,0,none⟩ = some (.slice A0_0 l0_0.length c0_0):=(aB BK1.out 0).trans rfl;have hygb1_0_2:=aC BK1.out 0;have hzgb1_1_2:w2.cell? ⟨gb1,1,none⟩ = some (.slice A0_1 l0_1.length c0_1):=(aB BK1.out 1).trans rfl;have hygb1_1_2:=aC BK1.out 1;have hzgb2_0_2:w2.cell? ⟨gb2,0,none⟩ = some (.int .i64 a1_0):=(aB BK2.out 0).trans rfl;have hygb2_0_2:=aC BK2.out 0;have hzgb2_1_2:w2.cell? ⟨gb2,1,none⟩ = some (.int .i64 a1_1):=(aB BK2.out 1).trans rfl;have hygb2_1_2:=aC BK2.out 1;have hzgb2_2_2:w2.cell? ⟨gb2,2,none⟩ = some (.int .i64 a1_2):=(aB BK2.out 2).trans rfl;have hygb2_2_2:=aC BK2.out 2;have hzgb2_3_2:w2.cell? ⟨gb2,3,none⟩ = some (.int .i64 a1_3):=(aB BK2.out 3).trans rfl;have hygb2_3_2:=aC BK2.out 3;have hzgb2_4_2:w2.cell? ⟨gb2,4,none⟩ = some (.int .i64 a1_4):=(aB BK2.out 4).trans rfl;have hygb2_4_2:=aC BK2.out 4)|((with_reducible refine aT (f:=6) rfl ?_);refine goesL_ (some 18) rfl rfl Try.func6 tF rfl #[.agg #[.slice A0_0 l0_0.length c0_0,.slice A0_1 l0_1.length c0_1],.int .i64 1048576] rfl tA ?_;(with_reducible refine (laws_szTree.calls k1 _ _ l0_0 _ _ l0_1 1048576 r1_0 _ ?s1 ?s2 ?s3 ?s4 Q1.out).mono ?_);(case s1=>exact wF);(case s2=>exact HC0_0.out);(case s3=>exact wE);(case s4=>exact HC0_1.out);rintro e_ w3 ⟨rfl,hb⟩;refine ⟨_,rfl,?_⟩;have n0_:=aA.mk (aG BK1.out hb);have n1_:=aA.mk (aG BK2.out hb);have n2_:=aA.mk (aJ HB.out hb);have n3_:=aA.mk (Nat.le_trans HT.out hb.size);(try clear BK1);(try clear BK2);(try clear HB);(try clear HT);have BK1:=n0_;have BK2:=n1_;have HB:=n2_;have HT:=n3_;clear n0_ n1_ n2_ n3_;(try clear hb);have hzgb1_0_3:w3.cell? ⟨gb1,0,none⟩ = some (.slice A0_0 l0_0.length c0_0):=(aB BK1.out 0).trans rfl;have hygb1_0_3:=aC BK1.out 0;have hzgb1_1_3:w3.cell? ⟨gb1,1,none⟩ = some (.slice A0_1 l0_1.length c0_1):=(aB BK1.out 1).trans rfl;have hygb1_1_3:=aC BK1.out 1;have hzgb2_0_3:w3.cell? ⟨gb2,0,none⟩ = some (.int .i64 a1_0):=(aB BK2.out 0).trans rfl;have hygb2_0_3:=aC BK2.out 0;have hzgb2_1_3:w3.cell? ⟨gb2,1,none⟩ = some (.int .i64 a1_1):=(aB BK2.out 1).trans rfl;have hygb2_1_3:=aC BK2.out 1;have hzgb2_2_3:w3.cell? ⟨gb2,2,none⟩ = some (.int .i64 a1_2):=(aB BK2.out 2).trans rfl;have hygb2_2_3:=aC BK2.out 2;have hzgb2_3_3:w3.cell? ⟨gb2,3,none⟩ = some (.int .i64 a1_3):=(aB BK2.out 3).trans rfl;have hygb2_3_3:=aC BK2.out 3;have hzgb2_4_3:w3.cell? ⟨gb2,4,none⟩ = some (.int .i64 a1_4):=(aB BK2.out 4).trans rfl;have hygb2_4_3:=aC BK2.out 4))
 have hres_:=@results_tmp Try.f5 4 tF
 refine bodyPost_ret (fn:=Try.f5) (P:=Try.prog) (hres_ _ _ _) rfl ?_
 exact ⟨rfl,HB.out⟩
set_option maxHeartbeats 8000000 in
set_option maxRecDepth 100000 in
theorem walkFnExactTreePut (A0_0:Option Addr) (c0_0:Nat) (l0_0:List (Int)) (A0_1:Option Addr) (c0_1:Nat) (l0_1:List (S87)) (a1_0:Int) (a1_1:Int) (a1_2:Int) (a1_3:Int) (a1_4:Int) (k1:Nat) (k2:Nat) (k4:Nat) (k5:Nat) (k6:Nat) (k7:Nat) (k10:Nat) (r1_0:Int) (r2_1:List Int) (r2_2:List (S59)) (r3_1:Int) (r3_2:Int) (r3_3:Int) (r3_4:Int) (r3_5:Int) (r4_1:List Int) (r4_2:List S59) (r4_3:Bool) (r8_1:Int) (r8_2:List Int) (r8_3:List S59) (r9_1:Int) (r9_2:List Int) (r9_3:List S59) (w:World) (hr0_0:Kd.C (Kd.int .i64) w A0_0 l0_0.length l0_0) (hc0_0:l0_0.length ≤ c0_0) (hr0_1:Kd.C k87 w A0_1 l0_1.length l0_1) (hc0_1:l0_1.length ≤ c0_1) (Q1x:laws_szTree.f k1 l0_0 l0_1 1048576 = some r1_0) (Q2x:laws_toTree.f k2 l0_0 l0_1 = some (r2_1,r2_2)) (Q3x:laws_toKey.f a1_0 a1_1 a1_2 a1_3 a1_4 = some (r3_1,r3_2,r3_3,r3_4,r3_5)) (Q4x:spec_TreePut.f k4 r2_1 r2_2 r3_1 r3_2 r3_3 r3_4 r3_5 = some (r4_1,r4_2,r4_3)) (Q5x:impl_TreePut.f k5 r2_1 r2_2 r3_1 r3_2 r3_3 r3_4 r3_5 = some (r4_1,r4_2,r4_3)) (Q6x:laws_eqTree.f k6 r4_1 r4_2 r4_1 r4_2 = some true) (Q7x:laws_eqTree.f k7 r2_1 r2_2 r2_1 r2_2 = some true) (Q8x:laws_markTree.f r2_1 r2_2 1 = some (r8_1,r8_2,r8_3)) (Q9x:laws_markTree.f r4_1 r4_2 1 = some (r9_1,r9_2,r9_3)) (Q10x:laws_heldTree.f k10 r9_2 r9_3 1 = some r9_1) (pr1_0:0 ≤ r1_0) (pr8_1:0 ≤ r8_1) (pr9_1:0 ≤ r9_1) :
  Calls Try.prog 5 #[.agg #[.slice A0_0 l0_0.length c0_0,.slice A0_1 l0_1.length c0_1],.agg #[.int .i64 a1_0,.int .i64 a1_1,.int .i64 a1_2,.int .i64 a1_3,.int .i64 a1_4]] w fun e w'=>e = .returned (.bool true) ∧ Below w.heap.size w w':=by
 have hu25:=Try.underlying25
 have hu29:=Try.underlying29
 have hu48:=Try.underlying48
 have HR0_0:=aA.mk hr0_0
 have HC0_0:=aA.mk hc0_0
 clear hr0_0 hc0_0
 have HR0_1:=aA.mk hr0_1
 have HC0_1:=aA.mk hc0_1
 clear hr0_1 hc0_1
 have Q1:=aA.mk Q1x
 clear Q1x
 have Q2:=aA.mk Q2x
 clear Q2x
 have Q3:=aA.mk Q3x
 clear Q3x
 have Q4:=aA.mk Q4x
 clear Q4x
 have Q5:=aA.mk Q5x
 clear Q5x
 have Q6:=aA.mk Q6x
 clear Q6x
 have Q7:=aA.mk Q7x
 clear Q7x
 have Q8:=aA.mk Q8x
 clear Q8x
 have Q9:=aA.mk Q9x
 clear Q9x
 have Q10:=aA.mk Q10x
 clear Q10x
 have dr1_0:decide (r1_0 < 0) = false:=by simp;omega
 clear pr1_0
 have dr8_1:decide (r8_1 < 0) = false:=by simp;omega
 clear pr8_1
 have dr9_1:decide (r9_1 < 0) = false:=by simp;omega
 clear pr9_1
 have HB:=aA.mk (Below.refl w.heap.size w)
 have HORD:=aA.mk (Nat.le_refl w.heap.size)
 have HT:=aA.mk (Nat.le_refl w.heap.size)
 go_enter Try.func5,Try.ntmps5
 go_wp2_with (first|((with_reducible refine aX (N:=2) rfl ?_);refine aW ?hg (N:=2) ?hd (cs:=#[.slice A0_0 l0_0.length c0_0,.slice A0_1 l0_1.length c0_1]) (t:=25) ?hr ?_;(case hd=>rfl);(case hg=>rfl);(case hr=>exact tP);intro gb1 hg_ w1 hbox hb;have hge_:w.heap.size ≤ gb1:=vD;have hlt_:gb1 + 1 ≤ w1.heap.size:=aY hbox;have n0_:=aA.mk (aJ HB.out hb);have n1_:=aA.mk (hbox);have n2_:=aA.mk (And.intro HORD.out (And.intro hge_ (Nat.le_succ gb1)));have n3_:=aA.mk (hlt_);(try clear HB);(try clear BK1);(try clear HORD);(try clear HT);have HB:=n0_;have BK1:=n1_;have HORD:=n2_;have HT:=n3_;clear n0_ n1_ n2_ n3_;clear hb hbox hg_ hge_ hlt_;have hzgb1_0_1:w1.cell? ⟨gb1,0,none⟩ = some (.slice A0_0 l0_0.length c0_0):=(aB BK1.out 0).trans rfl;have hygb1_0_1:=aC BK1.out 0;have hzgb1_1_1:w1.cell? ⟨gb1,1,none⟩ = some (.slice A0_1 l0_1.length c0_1):=(aB BK1.out 1).trans rfl;have hygb1_1_1:=aC BK1.out 1)|((with_reducible refine aX (N:=3) rfl ?_);refine aW ?hg (N:=3) ?hd (cs:=#[.int .i64 a1_0,.int .i64 a1_1,.int .i64 a1_2,.int .i64 a1_3,.int .i64 a1_4]) (t:=48) ?hr ?_;(case hd=>rfl);(case hg=>rfl);(case hr=>exact tP);intro gb2 hg_ w2 hbox hb;have hge_:(gb1 + 1) ≤ gb2:=vD;have hlt_:gb2 + 1 ≤ w2.heap.size:=aY hbox;have n0_:=aA.mk (aG BK1.out hb);have n1_:=aA.mk (aJ HB.out hb);have n2_:=aA.mk (hbox);have n3_:=aA.mk (And.intro HORD.out (And.intro hge_ (Nat.le_succ gb2)));have n4_:=aA.mk (hlt_);(try clear BK1);(try clear HB);(try clear BK2);(try clear HORD);(try clear HT);have BK1:=n0_;have HB:=n1_;have BK2:=n2_;have HORD:=n3_;have HT:=n4_;clear n0_ n1_ n2_ n3_ n4_;clear hb hbox hg_ hge_ hlt_;have hzgb1_0_2:w2.cell? ⟨gb1,0,none⟩ = some (.slice A0_0 l0_0.length c0_0):=(aB BK1.out 0).trans rfl;have hygb1_0_2:=aC BK1.out 0;have hzgb1_1_2:w2.cell? ⟨gb1,1,none⟩ = some (.slice A0_1 l0_1.length c0_1):=(aB BK1.out 1).trans rfl;have hygb1_1_2:=aC BK1.out 1;have hzgb2_0_2:w2.cell? ⟨gb2,0,none⟩ = some (.int .i64 a1_0):=(aB BK2.out 0).trans rfl;have hygb2_0_2:=aC BK2.out 0;have hzgb2_1_2:w2.cell? ⟨gb2,1,none⟩ = some (.int .i64 a1_1):=(aB BK2.out 1).trans rfl;have hygb2_1_2:=aC BK2.out 1;have hzgb2_2_2:w2.cell? ⟨gb2,2,none⟩ = some (.int .i64 a1_2):=(aB BK2.out 2).trans rfl;have hygb2_2_2:=aC BK2.out 2;have hzgb2_3_2:w2.cell? ⟨gb2,3,none⟩ = some (.int .i64 a1_3):=(aB BK2.out 3).trans rfl;have hygb2_3_2:=aC BK2.out 3;have hzgb2_4_2:w2.cell? ⟨gb2,4,none⟩ = some (.int .i64 a1_4):=(aB BK2.out 4).trans rfl;have hygb2_4_2:=aC BK2.out 4)|((with_reducible refine aT (f:=6) rfl ?_);refine goesL_ (some 18) rfl rfl Try.func6 tF rfl #[.agg #[.slice A0_0 l0_0.length c0_0,.slice A0_1 l0_1.length c0_1],.int .i64 1048576] rfl tA ?_;(with_reducible refine (laws_szTree.calls k1 _ _ l0_0 _ _ l0_1 1048576 r1_0 _ ?s1 ?s2 ?s3 ?s4 Q1.out).mono ?_);(case s1=>exact wF);(case s2=>exact HC0_0.out);(case s3=>exact wE);(case s4=>exact HC0_1.out);rintro e_ w3 ⟨rfl,hb⟩;refine ⟨_,rfl,?_⟩;have n0_:=aA.mk (aG BK1.out hb);have n1_:=aA.mk (aG BK2.out hb);have n2_:=aA.mk (aJ HB.out hb);have n3_:=aA.mk (Nat.le_trans HT.out hb.size);(try clear BK1);(try clear BK2);(try clear HB);(try clear HT);have BK1:=n0_;have BK2:=n1_;have HB:=n2_;have HT:=n3_;clear n0_ n1_ n2_ n3_;(try clear hb);have hzgb1_0_3:w3.cell? ⟨gb1,0,none⟩ = some (.slice A0_0 l0_0.length c0_0):=(aB BK1.out 0).trans rfl;have hygb1_0_3:=aC BK1.out 0;have hzgb1_1_3:w3.cell? ⟨gb1,1,none⟩ = some (.slice A0_1 l0_1.length c0_1):=(aB BK1.out 1).trans rfl;have hygb1_1_3:=aC BK1.out 1;have hzgb2_0_3:w3.cell? ⟨gb2,0,none⟩ = some (.int .i64 a1_0):=(aB BK2.out 0).trans rfl;have hygb2_0_3:=aC BK2.out 0;have hzgb2_1_3:w3.cell? ⟨gb2,1,none⟩ = some (.int .i64 a1_1):=(aB BK2.out 1).trans rfl;have hygb2_1_3:=aC BK2.out 1;have hzgb2_2_3:w3.cell? ⟨gb2,2,none⟩ = some (.int .i64 a1_2):=(aB BK2.out 2).trans rfl;have hygb2_2_3:=aC BK2.out 2;have hzgb2_3_3:w3.cell? ⟨gb2,3,none⟩ = some (.int .i64 a1_3):=(aB BK2.out 3).trans rfl;have hygb2_3_3:=aC BK2.out 3;have hzgb2_4_3:w3.cell? ⟨gb2,4,none⟩ = some (.int .i64 a1_4):=(aB BK2.out 4).trans rfl;have hygb2_4_3:=aC BK2.out 4))
 have n_:=aA.mk (aL BK1.out)
 clear BK1
 have BK1:=n_
 clear n_
 have n_:=aA.mk (aL BK2.out)
 clear BK2
 have BK2:=n_
 clear n_
 have n_:=aA.mk (aE HB.out)
 clear HB
 have HB:=n_
 clear n_
 have n_:=aA.mk (show _ ≤ w3.drew.heap.size from HT.out)
 clear HT
 have HT:=n_
 clear n_
 refine start_ (n:=11) (S:=fun w'=>w'.cell? ⟨gb1,0,none⟩ = some (.slice A0_0 l0_0.length c0_0) ∧ w'.cell? ⟨gb1,1,none⟩ = some (.slice A0_1 l0_1.length c0_1) ∧ w'.cell? ⟨gb2,0,none⟩ = some (.int .i64 a1_0) ∧ w'.cell? ⟨gb2,1,none⟩ = some (.int .i64 a1_1) ∧ w'.cell? ⟨gb2,2,none⟩ = some (.int .i64 a1_2) ∧ w'.cell? ⟨gb2,3,none⟩ = some (.int .i64 a1_3) ∧ w'.cell? ⟨gb2,4,none⟩ = some (.int .i64 a1_4)) (ds:=[9]) #[F0,F0,F0,F0,F0,F0,F0,F0,F0,F0,F0] tF rfl rfl ⟨(aB BK1.out 0).trans rfl,(aB BK1.out 1).trans rfl,(aB BK2.out 0).trans rfl,(aB BK2.out 1).trans rfl,(aB BK2.out 2).trans rfl,(aB BK2.out 3).trans rfl,(aB BK2.out 4).trans rfl⟩ (fun hHeld=>?_)
 generalize w3.drew = w4 at BK1 BK2 HB HT hHeld ⊢
 refine take_ (i:=0) (N:=some 22) (v:=?_) (a':=?_) (bq1 1 11) rfl rfl tF (fun _ _ _ h=>h) (Or.inl ⟨vK,?_⟩) hHeld ?_ ?_
 rotate_left
 ·rintro w' ⟨s0,s1,s2,s3,s4,s5,s6⟩
  go_simp
  with_reducible rfl
 rotate_left
 ·simp only [Act.put,lA,lB,lC,aQ,aR]
  rfl
 refine take_ (i:=2) (N:=some 24) (v:=?_) (a':=?_) (bq1 5 11) rfl rfl tF (fun _ _ _ h=>h) (Or.inl ⟨vK,?_⟩) hHeld ?_ ?_
 rotate_left
 ·rintro w' ⟨s0,s1,s2,s3,s4,s5,s6⟩
  go_simp
  with_reducible rfl
 rotate_left
 ·simp only [Act.put,lA,lB,lC,aQ,aR]
  rfl
 refine join_ (σ:=Nat × Nat × Nat × Option Addr × Nat × Option Addr × Nat × Option Addr × Nat × Option Addr × Nat) 2 (bq1 511 11) (fun s_=>[(23,.agg #[.slice s_.2.2.2.1 r2_1.length s_.2.2.2.2.1,.slice s_.2.2.2.2.2.1 r2_2.length s_.2.2.2.2.2.2.1]),(25,.agg #[.int .i64 r3_1,.int .i64 r3_2,.int .i64 r3_3,.int .i64 r3_4,.int .i64 r3_5]),(26,.tuple #[.agg #[.slice s_.2.2.2.2.2.2.2.1 r4_1.length s_.2.2.2.2.2.2.2.2.1,.slice s_.2.2.2.2.2.2.2.2.2.1 r4_2.length s_.2.2.2.2.2.2.2.2.2.2],.bool r4_3]),(21,.tuple #[.agg #[.slice s_.2.2.2.2.2.2.2.1 r4_1.length s_.2.2.2.2.2.2.2.2.1,.slice s_.2.2.2.2.2.2.2.2.2.1 r4_2.length s_.2.2.2.2.2.2.2.2.2.2],.bool r4_3]),(27,.agg #[.slice s_.2.2.2.2.2.2.2.1 r4_1.length s_.2.2.2.2.2.2.2.2.1,.slice s_.2.2.2.2.2.2.2.2.2.1 r4_2.length s_.2.2.2.2.2.2.2.2.2.2]),(28,.bool r4_3),(6,.pointer (some ⟨s_.1,0,none⟩))]) (fun s_ w'=>(w'.cell? ⟨gb1,0,none⟩ = some (.slice A0_0 l0_0.length c0_0) ∧ w'.cell? ⟨gb1,1,none⟩ = some (.slice A0_1 l0_1.length c0_1) ∧ w'.cell? ⟨gb2,0,none⟩ = some (.int .i64 a1_0) ∧ w'.cell? ⟨gb2,1,none⟩ = some (.int .i64 a1_1) ∧ w'.cell? ⟨gb2,2,none⟩ = some (.int .i64 a1_2) ∧ w'.cell? ⟨gb2,3,none⟩ = some (.int .i64 a1_3) ∧ w'.cell? ⟨gb2,4,none⟩ = some (.int .i64 a1_4)) ∧ aA (w'.heap[gb1]? = some (.cells #[.slice A0_0 l0_0.length c0_0,.slice A0_1 l0_1.length c0_1] 25 (0,0))) ∧ aA (w'.heap[gb2]? = some (.cells #[.int .i64 a1_0,.int .i64 a1_1,.int .i64 a1_2,.int .i64 a1_3,.int .i64 a1_4] 48 (0,0))) ∧ aA (Below w.heap.size w w') ∧ aA (w'.heap[s_.1]? = some (.cells #[.slice none 0 0,.slice none 0 0] 29 (0,0))) ∧ aA (((gb2 + 1) ≤ s_.1 ∧ (gb2 + 1) ≤ s_.2.1) ∧ (s_.2.1 ≤ s_.2.2.1) ∧ (s_.1 < s_.2.1 ∨ s_.2.2.1 ≤ s_.1 ∨ 0 ≤ s_.1) ∧ s_.1 + 1 ≤ w'.heap.size ∧ s_.2.2.1 ≤ w'.heap.size) ∧ aA (Kd.F (Kd.int .i64) w' (InG s_.2.1 s_.2.2.1 s_.1) s_.2.2.2.2.2.2.2.1 r4_1.length r4_1) ∧ aA (r4_1.length ≤ s_.2.2.2.2.2.2.2.2.1) ∧ aA (Kd.F k59 w' (InG s_.2.1 s_.2.2.1 s_.1) s_.2.2.2.2.2.2.2.2.2.1 r4_2.length r4_2) ∧ aA (r4_2.length ≤ s_.2.2.2.2.2.2.2.2.2.2)) ?_ ?_
 rotate_left
 ·intro hCont
  refine two_ (i:=1) (j:=8) (Ni:=some 23) (Nj:=some 6) (bq1 7 11) #[T1,F0,T1,F0,F0,F0,F0,F0,T1,F0,F0] rfl rfl rfl rfl tF tq tq (fun K hK=>?_) (fun K hK=>?_)
  ·skip
   refine goes_ Try.func8 tF rfl #[.agg #[.slice A0_0 l0_0.length c0_0,.slice A0_1 l0_1.length c0_1]] ta rfl rfl tA ?_
   (with_reducible refine (laws_toTree.calls k2 _ _ l0_0 _ _ l0_1 r2_1 r2_2 _ ?s1 ?s2 ?s3 ?s4 Q2.out).mono ?_)
   (case s1=>exact wF)
   (case s2=>exact HC0_0.out)
   (case s3=>exact wE)
   (case s4=>exact HC0_1.out)
   rintro e_ w5 ⟨v0_,v1_,rfl,ho0,ho1,hb⟩
   refine ⟨_,rfl,?_⟩
   obtain ⟨lo5,hi5,el_,eh_,ol_,oh_⟩:=Mem.times HT.out hb
   (try rw [← el_] at ho0)
   obtain ⟨A5_0,c5_0,ev_,hc0_,hf0_,hs0_⟩:=Mem.new_R ho0 eh_
   subst ev_
   (try rw [← el_] at ho1)
   obtain ⟨A5_1,c5_1,ev_,hc1_,hf1_,hs1_⟩:=Mem.new_S ho1 eh_
   subst ev_
   have n0_:=aA.mk (aG BK1.out hb)
   have n1_:=aA.mk (aG BK2.out hb)
   have n2_:=aA.mk (aJ HB.out hb)
   have n3_:=aA.mk (hf0_)
   have n4_:=aA.mk (hc0_)
   have n5_:=aA.mk (hs0_)
   have n6_:=aA.mk (hf1_)
   have n7_:=aA.mk (hc1_)
   have n8_:=aA.mk (hs1_)
   have n9_:=aA.mk (And.intro HORD.out (And.intro ol_ oh_))
   have n10_:=aA.mk (Nat.le_of_eq eh_)
   (try clear BK1)
   (try clear BK2)
   (try clear HB)
   (try clear HF5_0)
   (try clear HC5_0)
   (try clear HS5_0)
   (try clear HF5_1)
   (try clear HC5_1)
   (try clear HS5_1)
   (try clear HORD)
   (try clear HT)
   have BK1:=n0_
   have BK2:=n1_
   have HB:=n2_
   have HF5_0:=n3_
   have HC5_0:=n4_
   have HS5_0:=n5_
   have HF5_1:=n6_
   have HC5_1:=n7_
   have HS5_1:=n8_
   have HORD:=n9_
   have HT:=n10_
   clear n0_ n1_ n2_ n3_ n4_ n5_ n6_ n7_ n8_ n9_ n10_
   clear ol_ oh_ el_ eh_ ho0 hf0_ hc0_ hs0_ ho1 hf1_ hc1_ hs1_
   (try clear hb)
   refine hK.out _ _ ⟨(aB BK1.out 0).trans rfl,(aB BK1.out 1).trans rfl,(aB BK2.out 0).trans rfl,(aB BK2.out 1).trans rfl,(aB BK2.out 2).trans rfl,(aB BK2.out 3).trans rfl,(aB BK2.out 4).trans rfl⟩ (fun hHeld=>?_)
   clear hK K
   refine norm_ (a':=?_) ?_ ?_
   rotate_left
   ·show Act.put _ (some 23) _ = _
    simp only [Act.put,lA,lB,lC,aQ,aR]
    rfl
   refine two_ (i:=3) (j:=8) (Ni:=some 25) (Nj:=some 6) (bq1 15 11) #[T1,T1,T1,F0,F0,F0,F0,F0,T1,F0,F0] rfl rfl rfl rfl tF tq tq (fun K hK=>?_) (fun K hK=>?_)
   ·skip
    refine goes_ Try.func22 tF rfl #[.agg #[.int .i64 a1_0,.int .i64 a1_1,.int .i64 a1_2,.int .i64 a1_3,.int .i64 a1_4]] ta rfl rfl tA ?_
    (with_reducible refine (laws_toKey.calls a1_0 a1_1 a1_2 a1_3 a1_4 r3_1 r3_2 r3_3 r3_4 r3_5 _ Q3.out).mono ?_)
    rintro e_ w6 ⟨rfl,hb⟩
    refine ⟨_,rfl,?_⟩
    have n0_:=aA.mk (Kd.aK HF5_0.out hb)
    have n1_:=aA.mk (Kd.R_below HS5_0.out hb)
    have n2_:=aA.mk (Kd.aK HF5_1.out hb)
    have n3_:=aA.mk (Kd.S_below HS5_1.out hb)
    have n4_:=aA.mk (aG BK1.out hb)
    have n5_:=aA.mk (aG BK2.out hb)
    have n6_:=aA.mk (aJ HB.out hb)
    have n7_:=aA.mk (Nat.le_trans HT.out hb.size)
    (try clear HF5_0)
    (try clear HS5_0)
    (try clear HF5_1)
    (try clear HS5_1)
    (try clear BK1)
    (try clear BK2)
    (try clear HB)
    (try clear HT)
    have HF5_0:=n0_
    have HS5_0:=n1_
    have HF5_1:=n2_
    have HS5_1:=n3_
    have BK1:=n4_
    have BK2:=n5_
    have HB:=n6_
    have HT:=n7_
    clear n0_ n1_ n2_ n3_ n4_ n5_ n6_ n7_
    (try clear hb)
    refine hK.out _ _ ⟨(aB BK1.out 0).trans rfl,(aB BK1.out 1).trans rfl,(aB BK2.out 0).trans rfl,(aB BK2.out 1).trans rfl,(aB BK2.out 2).trans rfl,(aB BK2.out 3).trans rfl,(aB BK2.out 4).trans rfl⟩ (fun hHeld=>?_)
    clear hK K
    refine norm_ (a':=?_) ?_ ?_
    rotate_left
    ·show Act.put _ (some 25) _ = _
     simp only [Act.put,lA,lB,lC,aQ,aR]
     rfl
    refine two_ (i:=4) (j:=8) (Ni:=some 26) (Nj:=some 6) (bq1 31 11) #[T1,T1,T1,T1,F0,F0,F0,F0,T1,F0,F0] rfl rfl rfl rfl tF tq tq (fun K hK=>?_) (fun K hK=>?_)
    ·skip
     refine goes_ Try.func21 tF rfl #[.agg #[.slice A5_0 r2_1.length c5_0,.slice A5_1 r2_2.length c5_1],.agg #[.int .i64 r3_1,.int .i64 r3_2,.int .i64 r3_3,.int .i64 r3_4,.int .i64 r3_5]] ta rfl rfl tA ?_
     (with_reducible refine (spec_TreePut.calls k4 (In lo5 hi5) (In lo5 hi5) _ _ r2_1 _ _ r2_2 r3_1 r3_2 r3_3 r3_4 r3_5 r4_1 r4_2 r4_3 _ ?s1 ?s2 Q4.out).mono ?_)
     (case s1=>exact ⟨_,_,rfl,HC5_0.out,HF5_0.out⟩)
     (case s2=>exact ⟨_,_,rfl,HC5_1.out,HF5_1.out⟩)
     rintro e_ w7 ⟨v0_,v1_,rfl,ho0,ho1,hb⟩
     refine ⟨_,rfl,?_⟩
     obtain ⟨lo7,hi7,el_,eh_,ol_,oh_⟩:=Mem.times HT.out hb
     (try rw [← el_] at ho0)
     obtain ⟨A7_0,c7_0,ev_,hc0_,hf0_⟩:=new_V2 (a:=lo5) (b:=hi5) (lo:=lo7) ho0 tz eh_
     subst ev_
     (try rw [← el_] at ho1)
     obtain ⟨A7_1,c7_1,ev_,hc1_,hf1_⟩:=new_V2 (a:=lo5) (b:=hi5) (lo:=lo7) ho1 tz eh_
     subst ev_
     have n0_:=aA.mk (Kd.aK HF5_0.out hb)
     have n1_:=aA.mk (Kd.R_below HS5_0.out hb)
     have n2_:=aA.mk (Kd.aK HF5_1.out hb)
     have n3_:=aA.mk (Kd.S_below HS5_1.out hb)
     have n4_:=aA.mk (aG BK1.out hb)
     have n5_:=aA.mk (aG BK2.out hb)
     have n6_:=aA.mk (aJ HB.out hb)
     have n7_:=aA.mk (hf0_)
     have n8_:=aA.mk (hc0_)
     have n9_:=aA.mk (hf1_)
     have n10_:=aA.mk (hc1_)
     have n11_:=aA.mk (And.intro HORD.out (And.intro ol_ oh_))
     have n12_:=aA.mk (Nat.le_of_eq eh_)
     (try clear HF5_0)
     (try clear HS5_0)
     (try clear HF5_1)
     (try clear HS5_1)
     (try clear BK1)
     (try clear BK2)
     (try clear HB)
     (try clear HF7_0)
     (try clear HC7_0)
     (try clear HF7_1)
     (try clear HC7_1)
     (try clear HORD)
     (try clear HT)
     have HF5_0:=n0_
     have HS5_0:=n1_
     have HF5_1:=n2_
     have HS5_1:=n3_
     have BK1:=n4_
     have BK2:=n5_
     have HB:=n6_
     have HF7_0:=n7_
     have HC7_0:=n8_
     have HF7_1:=n9_
     have HC7_1:=n10_
     have HORD:=n11_
     have HT:=n12_
     clear n0_ n1_ n2_ n3_ n4_ n5_ n6_ n7_ n8_ n9_ n10_ n11_ n12_
     clear ol_ oh_ el_ eh_ ho0 hf0_ hc0_ ho1 hf1_ hc1_
     (try clear hb)
     refine hK.out _ _ ⟨(aB BK1.out 0).trans rfl,(aB BK1.out 1).trans rfl,(aB BK2.out 0).trans rfl,(aB BK2.out 1).trans rfl,(aB BK2.out 2).trans rfl,(aB BK2.out 3).trans rfl,(aB BK2.out 4).trans rfl⟩ (fun hHeld=>?_)
     clear hK K
     refine norm_ (a':=?_) ?_ ?_
     rotate_left
     ·show Act.put _ (some 26) _ = _
      simp only [Act.put,lA,lB,lC,aQ,aR]
      rfl
     refine pure_ (i:=5) (N:=some 21) (v:=?_) (a':=?_) (bq1 63 11) rfl rfl tF (fun _ _ _ h=>h) (Or.inl ⟨vK,?_⟩) ?_ ?_
     rotate_left
     ·intro w'
      go_simp
      with_reducible rfl
     rotate_left
     ·simp only [Act.put,lA,lB,lC,aQ,aR]
      rfl
     refine pure_ (i:=6) (N:=some 27) (v:=?_) (a':=?_) (bq1 127 11) rfl rfl tF (fun _ _ _ h=>h) (Or.inl ⟨vK,?_⟩) ?_ ?_
     rotate_left
     ·intro w'
      go_simp
      with_reducible rfl
     rotate_left
     ·simp only [Act.put,lA,lB,lC,aQ,aR]
      rfl
     refine pure_ (i:=7) (N:=some 28) (v:=?_) (a':=?_) (bq1 255 11) rfl rfl tF (fun _ _ _ h=>h) (Or.inl ⟨vK,?_⟩) ?_ ?_
     rotate_left
     ·intro w'
      go_simp
      with_reducible rfl
     rotate_left
     ·simp only [Act.put,lA,lB,lC,aQ,aR]
      rfl
     refine one_ (i:=8) (N:=some 6) (bq1 511 11) rfl rfl tF tq (fun K hK=>?_)
     refine box_step ?hg (N:=6) ?hd (cs:=#[.slice none 0 0,.slice none 0 0]) (t:=29) ?hr ?_
     (case hd=>rfl)
     (case hg=>rfl)
     (case hr=>exact tP)
     intro gb8 hg_ w8 hbox hb
     have hge_:hi7 ≤ gb8:=vD
     have hlt_:gb8 + 1 ≤ w8.heap.size:=aY hbox
     have n0_:=aA.mk (Kd.aK HF5_0.out hb)
     have n1_:=aA.mk (Kd.R_below HS5_0.out hb)
     have n2_:=aA.mk (Kd.aK HF5_1.out hb)
     have n3_:=aA.mk (Kd.S_below HS5_1.out hb)
     have n4_:=aA.mk (Kd.aK HF7_0.out hb)
     have n5_:=aA.mk (Kd.aK HF7_1.out hb)
     have n6_:=aA.mk (aG BK1.out hb)
     have n7_:=aA.mk (aG BK2.out hb)
     have n8_:=aA.mk (aJ HB.out hb)
     have n9_:=aA.mk (hbox)
     have n10_:=aA.mk (And.intro HORD.out (And.intro hge_ (Nat.le_succ gb8)))
     have n11_:=aA.mk (hlt_)
     (try clear HF5_0)
     (try clear HS5_0)
     (try clear HF5_1)
     (try clear HS5_1)
     (try clear HF7_0)
     (try clear HF7_1)
     (try clear BK1)
     (try clear BK2)
     (try clear HB)
     (try clear BK8)
     (try clear HORD)
     (try clear HT)
     have HF5_0:=n0_
     have HS5_0:=n1_
     have HF5_1:=n2_
     have HS5_1:=n3_
     have HF7_0:=n4_
     have HF7_1:=n5_
     have BK1:=n6_
     have BK2:=n7_
     have HB:=n8_
     have BK8:=n9_
     have HORD:=n10_
     have HT:=n11_
     clear n0_ n1_ n2_ n3_ n4_ n5_ n6_ n7_ n8_ n9_ n10_ n11_
     clear hb hbox hg_ hge_ hlt_
     refine hK.out _ _ ⟨(aB BK1.out 0).trans rfl,(aB BK1.out 1).trans rfl,(aB BK2.out 0).trans rfl,(aB BK2.out 1).trans rfl,(aB BK2.out 2).trans rfl,(aB BK2.out 3).trans rfl,(aB BK2.out 4).trans rfl⟩ (fun hHeld=>?_)
     clear hK K
     refine norm_ (a':=?_) ?_ ?_
     rotate_left
     ·show Act.put _ (some 6) _ = _
      simp only [Act.put,lA,lB,lC,aQ,aR]
      rfl
     exact norm_ vJ (hCont (gb8,lo5,hi7,A5_0,c5_0,A5_1,c5_1,A7_0,c7_0,A7_1,c7_1) _ ⟨hHeld,BK1,BK2,HB,BK8,⟨t5⟩,⟨Kd.F_mono HF7_0.out tn⟩,HC7_0,⟨Kd.F_mono HF7_1.out tn⟩,HC7_1⟩)
    ·skip
     refine box_step ?hg (N:=6) ?hd (cs:=#[.slice none 0 0,.slice none 0 0]) (t:=29) ?hr ?_
     (case hd=>rfl)
     (case hg=>rfl)
     (case hr=>exact tP)
     intro gb9 hg_ w9 hbox hb
     have hge_:hi5 ≤ gb9:=vD
     have hlt_:gb9 + 1 ≤ w9.heap.size:=aY hbox
     have n0_:=aA.mk (Kd.aK HF5_0.out hb)
     have n1_:=aA.mk (Kd.R_below HS5_0.out hb)
     have n2_:=aA.mk (Kd.aK HF5_1.out hb)
     have n3_:=aA.mk (Kd.S_below HS5_1.out hb)
     have n4_:=aA.mk (aG BK1.out hb)
     have n5_:=aA.mk (aG BK2.out hb)
     have n6_:=aA.mk (aJ HB.out hb)
     have n7_:=aA.mk (hbox)
     have n8_:=aA.mk (And.intro HORD.out (And.intro hge_ (Nat.le_succ gb9)))
     have n9_:=aA.mk (hlt_)
     (try clear HF5_0)
     (try clear HS5_0)
     (try clear HF5_1)
     (try clear HS5_1)
     (try clear BK1)
     (try clear BK2)
     (try clear HB)
     (try clear BK9)
     (try clear HORD)
     (try clear HT)
     have HF5_0:=n0_
     have HS5_0:=n1_
     have HF5_1:=n2_
     have HS5_1:=n3_
     have BK1:=n4_
     have BK2:=n5_
     have HB:=n6_
     have BK9:=n7_
     have HORD:=n8_
     have HT:=n9_
     clear n0_ n1_ n2_ n3_ n4_ n5_ n6_ n7_ n8_ n9_
     clear hb hbox hg_ hge_ hlt_
     refine hK.out _ _ ⟨(aB BK1.out 0).trans rfl,(aB BK1.out 1).trans rfl,(aB BK2.out 0).trans rfl,(aB BK2.out 1).trans rfl,(aB BK2.out 2).trans rfl,(aB BK2.out 3).trans rfl,(aB BK2.out 4).trans rfl⟩ (fun hHeld=>?_)
     clear hK K
     refine norm_ (a':=?_) ?_ ?_
     rotate_left
     ·show Act.put _ (some 6) _ = _
      simp only [Act.put,lA,lB,lC,aQ,aR]
      rfl
     refine one_ (i:=4) (N:=some 26) (bq1 287 11) rfl rfl tF tq (fun K hK=>?_)
     refine goes_ Try.func21 tF rfl #[.agg #[.slice A5_0 r2_1.length c5_0,.slice A5_1 r2_2.length c5_1],.agg #[.int .i64 r3_1,.int .i64 r3_2,.int .i64 r3_3,.int .i64 r3_4,.int .i64 r3_5]] ta rfl rfl tA ?_
     (with_reducible refine (spec_TreePut.calls k4 (In lo5 hi5) (In lo5 hi5) _ _ r2_1 _ _ r2_2 r3_1 r3_2 r3_3 r3_4 r3_5 r4_1 r4_2 r4_3 _ ?s1 ?s2 Q4.out).mono ?_)
     (case s1=>exact ⟨_,_,rfl,HC5_0.out,HF5_0.out⟩)
     (case s2=>exact ⟨_,_,rfl,HC5_1.out,HF5_1.out⟩)
     rintro e_ w10 ⟨v0_,v1_,rfl,ho0,ho1,hb⟩
     refine ⟨_,rfl,?_⟩
     obtain ⟨lo10,hi10,el_,eh_,ol_,oh_⟩:=Mem.times HT.out hb
     (try rw [← el_] at ho0)
     obtain ⟨A10_0,c10_0,ev_,hc0_,hf0_⟩:=new_V2 (a:=lo5) (b:=hi5) (lo:=lo10) ho0 tz eh_
     subst ev_
     (try rw [← el_] at ho1)
     obtain ⟨A10_1,c10_1,ev_,hc1_,hf1_⟩:=new_V2 (a:=lo5) (b:=hi5) (lo:=lo10) ho1 tz eh_
     subst ev_
     have n0_:=aA.mk (Kd.aK HF5_0.out hb)
     have n1_:=aA.mk (Kd.R_below HS5_0.out hb)
     have n2_:=aA.mk (Kd.aK HF5_1.out hb)
     have n3_:=aA.mk (Kd.S_below HS5_1.out hb)
     have n4_:=aA.mk (aG BK1.out hb)
     have n5_:=aA.mk (aG BK2.out hb)
     have n6_:=aA.mk (aG BK9.out hb)
     have n7_:=aA.mk (aJ HB.out hb)
     have n8_:=aA.mk (hf0_)
     have n9_:=aA.mk (hc0_)
     have n10_:=aA.mk (hf1_)
     have n11_:=aA.mk (hc1_)
     have n12_:=aA.mk (And.intro HORD.out (And.intro ol_ oh_))
     have n13_:=aA.mk (Nat.le_of_eq eh_)
     (try clear HF5_0)
     (try clear HS5_0)
     (try clear HF5_1)
     (try clear HS5_1)
     (try clear BK1)
     (try clear BK2)
     (try clear BK9)
     (try clear HB)
     (try clear HF10_0)
     (try clear HC10_0)
     (try clear HF10_1)
     (try clear HC10_1)
     (try clear HORD)
     (try clear HT)
     have HF5_0:=n0_
     have HS5_0:=n1_
     have HF5_1:=n2_
     have HS5_1:=n3_
     have BK1:=n4_
     have BK2:=n5_
     have BK9:=n6_
     have HB:=n7_
     have HF10_0:=n8_
     have HC10_0:=n9_
     have HF10_1:=n10_
     have HC10_1:=n11_
     have HORD:=n12_
     have HT:=n13_
     clear n0_ n1_ n2_ n3_ n4_ n5_ n6_ n7_ n8_ n9_ n10_ n11_ n12_ n13_
     clear ol_ oh_ el_ eh_ ho0 hf0_ hc0_ ho1 hf1_ hc1_
     (try clear hb)
     refine hK.out _ _ ⟨(aB BK1.out 0).trans rfl,(aB BK1.out 1).trans rfl,(aB BK2.out 0).trans rfl,(aB BK2.out 1).trans rfl,(aB BK2.out 2).trans rfl,(aB BK2.out 3).trans rfl,(aB BK2.out 4).trans rfl⟩ (fun hHeld=>?_)
     clear hK K
     refine norm_ (a':=?_) ?_ ?_
     rotate_left
     ·show Act.put _ (some 26) _ = _
      simp only [Act.put,lA,lB,lC,aQ,aR]
      rfl
     refine pure_ (i:=5) (N:=some 21) (v:=?_) (a':=?_) (bq1 319 11) rfl rfl tF (fun _ _ _ h=>h) (Or.inl ⟨vK,?_⟩) ?_ ?_
     rotate_left
     ·intro w'
      go_simp
      with_reducible rfl
     rotate_left
     ·simp only [Act.put,lA,lB,lC,aQ,aR]
      rfl
     refine pure_ (i:=6) (N:=some 27) (v:=?_) (a':=?_) (bq1 383 11) rfl rfl tF (fun _ _ _ h=>h) (Or.inl ⟨vK,?_⟩) ?_ ?_
     rotate_left
     ·intro w'
      go_simp
      with_reducible rfl
     rotate_left
     ·simp only [Act.put,lA,lB,lC,aQ,aR]
      rfl
     refine pure_ (i:=7) (N:=some 28) (v:=?_) (a':=?_) (bq1 511 11) rfl rfl tF (fun _ _ _ h=>h) (Or.inl ⟨vK,?_⟩) ?_ ?_
     rotate_left
     ·intro w'
      go_simp
      with_reducible rfl
     rotate_left
     ·simp only [Act.put,lA,lB,lC,aQ,aR]
      rfl
     exact norm_ vJ (hCont (gb9,lo5,hi10,A5_0,c5_0,A5_1,c5_1,A10_0,c10_0,A10_1,c10_1) _ ⟨hHeld,BK1,BK2,HB,BK9,⟨t5⟩,⟨Kd.F_mono HF10_0.out tn⟩,HC10_0,⟨Kd.F_mono HF10_1.out tn⟩,HC10_1⟩)
   ·skip
    refine box_step ?hg (N:=6) ?hd (cs:=#[.slice none 0 0,.slice none 0 0]) (t:=29) ?hr ?_
    (case hd=>rfl)
    (case hg=>rfl)
    (case hr=>exact tP)
    intro gb11 hg_ w11 hbox hb
    have hge_:hi5 ≤ gb11:=vD
    have hlt_:gb11 + 1 ≤ w11.heap.size:=aY hbox
    have n0_:=aA.mk (Kd.aK HF5_0.out hb)
    have n1_:=aA.mk (Kd.R_below HS5_0.out hb)
    have n2_:=aA.mk (Kd.aK HF5_1.out hb)
    have n3_:=aA.mk (Kd.S_below HS5_1.out hb)
    have n4_:=aA.mk (aG BK1.out hb)
    have n5_:=aA.mk (aG BK2.out hb)
    have n6_:=aA.mk (aJ HB.out hb)
    have n7_:=aA.mk (hbox)
    have n8_:=aA.mk (And.intro HORD.out (And.intro hge_ (Nat.le_succ gb11)))
    have n9_:=aA.mk (hlt_)
    (try clear HF5_0)
    (try clear HS5_0)
    (try clear HF5_1)
    (try clear HS5_1)
    (try clear BK1)
    (try clear BK2)
    (try clear HB)
    (try clear BK11)
    (try clear HORD)
    (try clear HT)
    have HF5_0:=n0_
    have HS5_0:=n1_
    have HF5_1:=n2_
    have HS5_1:=n3_
    have BK1:=n4_
    have BK2:=n5_
    have HB:=n6_
    have BK11:=n7_
    have HORD:=n8_
    have HT:=n9_
    clear n0_ n1_ n2_ n3_ n4_ n5_ n6_ n7_ n8_ n9_
    clear hb hbox hg_ hge_ hlt_
    refine hK.out _ _ ⟨(aB BK1.out 0).trans rfl,(aB BK1.out 1).trans rfl,(aB BK2.out 0).trans rfl,(aB BK2.out 1).trans rfl,(aB BK2.out 2).trans rfl,(aB BK2.out 3).trans rfl,(aB BK2.out 4).trans rfl⟩ (fun hHeld=>?_)
    clear hK K
    refine norm_ (a':=?_) ?_ ?_
    rotate_left
    ·show Act.put _ (some 6) _ = _
     simp only [Act.put,lA,lB,lC,aQ,aR]
     rfl
    refine one_ (i:=3) (N:=some 25) (bq1 271 11) rfl rfl tF tq (fun K hK=>?_)
    refine goes_ Try.func22 tF rfl #[.agg #[.int .i64 a1_0,.int .i64 a1_1,.int .i64 a1_2,.int .i64 a1_3,.int .i64 a1_4]] ta rfl rfl tA ?_
    (with_reducible refine (laws_toKey.calls a1_0 a1_1 a1_2 a1_3 a1_4 r3_1 r3_2 r3_3 r3_4 r3_5 _ Q3.out).mono ?_)
    rintro e_ w12 ⟨rfl,hb⟩
    refine ⟨_,rfl,?_⟩
    have n0_:=aA.mk (Kd.aK HF5_0.out hb)
    have n1_:=aA.mk (Kd.R_below HS5_0.out hb)
    have n2_:=aA.mk (Kd.aK HF5_1.out hb)
    have n3_:=aA.mk (Kd.S_below HS5_1.out hb)
    have n4_:=aA.mk (aG BK1.out hb)
    have n5_:=aA.mk (aG BK2.out hb)
    have n6_:=aA.mk (aG BK11.out hb)
    have n7_:=aA.mk (aJ HB.out hb)
    have n8_:=aA.mk (Nat.le_trans HT.out hb.size)
    (try clear HF5_0)
    (try clear HS5_0)
    (try clear HF5_1)
    (try clear HS5_1)
    (try clear BK1)
    (try clear BK2)
    (try clear BK11)
    (try clear HB)
    (try clear HT)
    have HF5_0:=n0_
    have HS5_0:=n1_
    have HF5_1:=n2_
    have HS5_1:=n3_
    have BK1:=n4_
    have BK2:=n5_
    have BK11:=n6_
    have HB:=n7_
    have HT:=n8_
    clear n0_ n1_ n2_ n3_ n4_ n5_ n6_ n7_ n8_
    (try clear hb)
    refine hK.out _ _ ⟨(aB BK1.out 0).trans rfl,(aB BK1.out 1).trans rfl,(aB BK2.out 0).trans rfl,(aB BK2.out 1).trans rfl,(aB BK2.out 2).trans rfl,(aB BK2.out 3).trans rfl,(aB BK2.out 4).trans rfl⟩ (fun hHeld=>?_)
    clear hK K
    refine norm_ (a':=?_) ?_ ?_
    rotate_left
    ·show Act.put _ (some 25) _ = _
     simp only [Act.put,lA,lB,lC,aQ,aR]
     rfl
    refine one_ (i:=4) (N:=some 26) (bq1 287 11) rfl rfl tF tq (fun K hK=>?_)
    refine goes_ Try.func21 tF rfl #[.agg #[.slice A5_0 r2_1.length c5_0,.slice A5_1 r2_2.length c5_1],.agg #[.int .i64 r3_1,.int .i64 r3_2,.int .i64 r3_3,.int .i64 r3_4,.int .i64 r3_5]] ta rfl rfl tA ?_
    (with_reducible refine (spec_TreePut.calls k4 (In lo5 hi5) (In lo5 hi5) _ _ r2_1 _ _ r2_2 r3_1 r3_2 r3_3 r3_4 r3_5 r4_1 r4_2 r4_3 _ ?s1 ?s2 Q4.out).mono ?_)
    (case s1=>exact ⟨_,_,rfl,HC5_0.out,HF5_0.out⟩)
    (case s2=>exact ⟨_,_,rfl,HC5_1.out,HF5_1.out⟩)
    rintro e_ w13 ⟨v0_,v1_,rfl,ho0,ho1,hb⟩
    refine ⟨_,rfl,?_⟩
    obtain ⟨lo13,hi13,el_,eh_,ol_,oh_⟩:=Mem.times HT.out hb
    (try rw [← el_] at ho0)
    obtain ⟨A13_0,c13_0,ev_,hc0_,hf0_⟩:=new_V2 (a:=lo5) (b:=hi5) (lo:=lo13) ho0 tz eh_
    subst ev_
    (try rw [← el_] at ho1)
    obtain ⟨A13_1,c13_1,ev_,hc1_,hf1_⟩:=new_V2 (a:=lo5) (b:=hi5) (lo:=lo13) ho1 tz eh_
    subst ev_
    have n0_:=aA.mk (aG BK1.out hb)
    have n1_:=aA.mk (aG BK2.out hb)
    have n2_:=aA.mk (aG BK11.out hb)
    have n3_:=aA.mk (aJ HB.out hb)
    have n4_:=aA.mk (hf0_)
    have n5_:=aA.mk (hc0_)
    have n6_:=aA.mk (hf1_)
    have n7_:=aA.mk (hc1_)
    have n8_:=aA.mk (And.intro HORD.out (And.intro ol_ oh_))
    have n9_:=aA.mk (Nat.le_of_eq eh_)
    (try clear HF5_0)
    (try clear HS5_0)
    (try clear HC5_0)
    (try clear HF5_1)
    (try clear HS5_1)
    (try clear HC5_1)
    (try clear BK1)
    (try clear BK2)
    (try clear BK11)
    (try clear HB)
    (try clear HF13_0)
    (try clear HC13_0)
    (try clear HF13_1)
    (try clear HC13_1)
    (try clear HORD)
    (try clear HT)
    have BK1:=n0_
    have BK2:=n1_
    have BK11:=n2_
    have HB:=n3_
    have HF13_0:=n4_
    have HC13_0:=n5_
    have HF13_1:=n6_
    have HC13_1:=n7_
    have HORD:=n8_
    have HT:=n9_
    clear n0_ n1_ n2_ n3_ n4_ n5_ n6_ n7_ n8_ n9_
    clear ol_ oh_ el_ eh_ ho0 hf0_ hc0_ ho1 hf1_ hc1_
    (try clear hb)
    refine hK.out _ _ ⟨(aB BK1.out 0).trans rfl,(aB BK1.out 1).trans rfl,(aB BK2.out 0).trans rfl,(aB BK2.out 1).trans rfl,(aB BK2.out 2).trans rfl,(aB BK2.out 3).trans rfl,(aB BK2.out 4).trans rfl⟩ (fun hHeld=>?_)
    clear hK K
    refine norm_ (a':=?_) ?_ ?_
    rotate_left
    ·show Act.put _ (some 26) _ = _
     simp only [Act.put,lA,lB,lC,aQ,aR]
     rfl
    refine pure_ (i:=5) (N:=some 21) (v:=?_) (a':=?_) (bq1 319 11) rfl rfl tF (fun _ _ _ h=>h) (Or.inl ⟨vK,?_⟩) ?_ ?_
    rotate_left
    ·intro w'
     go_simp
     with_reducible rfl
    rotate_left
    ·simp only [Act.put,lA,lB,lC,aQ,aR]
     rfl
    refine pure_ (i:=6) (N:=some 27) (v:=?_) (a':=?_) (bq1 383 11) rfl rfl tF (fun _ _ _ h=>h) (Or.inl ⟨vK,?_⟩) ?_ ?_
    rotate_left
    ·intro w'
     go_simp
     with_reducible rfl
    rotate_left
    ·simp only [Act.put,lA,lB,lC,aQ,aR]
     rfl
    refine pure_ (i:=7) (N:=some 28) (v:=?_) (a':=?_) (bq1 511 11) rfl rfl tF (fun _ _ _ h=>h) (Or.inl ⟨vK,?_⟩) ?_ ?_
    rotate_left
    ·intro w'
     go_simp
     with_reducible rfl
    rotate_left
    ·simp only [Act.put,lA,lB,lC,aQ,aR]
     rfl
    exact norm_ vJ (hCont (gb11,lo5,hi13,A5_0,c5_0,A5_1,c5_1,A13_0,c13_0,A13_1,c13_1) _ ⟨hHeld,BK1,BK2,HB,BK11,⟨t5⟩,⟨Kd.F_mono HF13_0.out tn⟩,HC13_0,⟨Kd.F_mono HF13_1.out tn⟩,HC13_1⟩)
  ·skip
   refine box_step ?hg (N:=6) ?hd (cs:=#[.slice none 0 0,.slice none 0 0]) (t:=29) ?hr ?_
   (case hd=>rfl)
   (case hg=>rfl)
   (case hr=>exact tP)
   intro gb14 hg_ w14 hbox hb
   have hge_:(gb2 + 1) ≤ gb14:=vD
   have hlt_:gb14 + 1 ≤ w14.heap.size:=aY hbox
   have n0_:=aA.mk (aG BK1.out hb)
   have n1_:=aA.mk (aG BK2.out hb)
   have n2_:=aA.mk (aJ HB.out hb)
   have n3_:=aA.mk (hbox)
   have n4_:=aA.mk (And.intro HORD.out (And.intro hge_ (Nat.le_succ gb14)))
   have n5_:=aA.mk (hlt_)
   (try clear BK1)
   (try clear BK2)
   (try clear HB)
   (try clear BK14)
   (try clear HORD)
   (try clear HT)
   have BK1:=n0_
   have BK2:=n1_
   have HB:=n2_
   have BK14:=n3_
   have HORD:=n4_
   have HT:=n5_
   clear n0_ n1_ n2_ n3_ n4_ n5_
   clear hb hbox hg_ hge_ hlt_
   refine hK.out _ _ ⟨(aB BK1.out 0).trans rfl,(aB BK1.out 1).trans rfl,(aB BK2.out 0).trans rfl,(aB BK2.out 1).trans rfl,(aB BK2.out 2).trans rfl,(aB BK2.out 3).trans rfl,(aB BK2.out 4).trans rfl⟩ (fun hHeld=>?_)
   clear hK K
   refine norm_ (a':=?_) ?_ ?_
   rotate_left
   ·show Act.put _ (some 6) _ = _
    simp only [Act.put,lA,lB,lC,aQ,aR]
    rfl
   refine one_ (i:=1) (N:=some 23) (bq1 263 11) rfl rfl tF tq (fun K hK=>?_)
   refine goes_ Try.func8 tF rfl #[.agg #[.slice A0_0 l0_0.length c0_0,.slice A0_1 l0_1.length c0_1]] ta rfl rfl tA ?_
   (with_reducible refine (laws_toTree.calls k2 _ _ l0_0 _ _ l0_1 r2_1 r2_2 _ ?s1 ?s2 ?s3 ?s4 Q2.out).mono ?_)
   (case s1=>exact wF)
   (case s2=>exact HC0_0.out)
   (case s3=>exact wE)
   (case s4=>exact HC0_1.out)
   rintro e_ w15 ⟨v0_,v1_,rfl,ho0,ho1,hb⟩
   refine ⟨_,rfl,?_⟩
   obtain ⟨lo15,hi15,el_,eh_,ol_,oh_⟩:=Mem.times HT.out hb
   (try rw [← el_] at ho0)
   obtain ⟨A15_0,c15_0,ev_,hc0_,hf0_,hs0_⟩:=Mem.new_R ho0 eh_
   subst ev_
   (try rw [← el_] at ho1)
   obtain ⟨A15_1,c15_1,ev_,hc1_,hf1_,hs1_⟩:=Mem.new_S ho1 eh_
   subst ev_
   have n0_:=aA.mk (aG BK1.out hb)
   have n1_:=aA.mk (aG BK2.out hb)
   have n2_:=aA.mk (aG BK14.out hb)
   have n3_:=aA.mk (aJ HB.out hb)
   have n4_:=aA.mk (hf0_)
   have n5_:=aA.mk (hc0_)
   have n6_:=aA.mk (hs0_)
   have n7_:=aA.mk (hf1_)
   have n8_:=aA.mk (hc1_)
   have n9_:=aA.mk (hs1_)
   have n10_:=aA.mk (And.intro HORD.out (And.intro ol_ oh_))
   have n11_:=aA.mk (Nat.le_of_eq eh_)
   (try clear BK1)
   (try clear BK2)
   (try clear BK14)
   (try clear HB)
   (try clear HF15_0)
   (try clear HC15_0)
   (try clear HS15_0)
   (try clear HF15_1)
   (try clear HC15_1)
   (try clear HS15_1)
   (try clear HORD)
   (try clear HT)
   have BK1:=n0_
   have BK2:=n1_
   have BK14:=n2_
   have HB:=n3_
   have HF15_0:=n4_
   have HC15_0:=n5_
   have HS15_0:=n6_
   have HF15_1:=n7_
   have HC15_1:=n8_
   have HS15_1:=n9_
   have HORD:=n10_
   have HT:=n11_
   clear n0_ n1_ n2_ n3_ n4_ n5_ n6_ n7_ n8_ n9_ n10_ n11_
   clear ol_ oh_ el_ eh_ ho0 hf0_ hc0_ hs0_ ho1 hf1_ hc1_ hs1_
   (try clear hb)
   refine hK.out _ _ ⟨(aB BK1.out 0).trans rfl,(aB BK1.out 1).trans rfl,(aB BK2.out 0).trans rfl,(aB BK2.out 1).trans rfl,(aB BK2.out 2).trans rfl,(aB BK2.out 3).trans rfl,(aB BK2.out 4).trans rfl⟩ (fun hHeld=>?_)
   clear hK K
   refine norm_ (a':=?_) ?_ ?_
   rotate_left
   ·show Act.put _ (some 23) _ = _
    simp only [Act.put,lA,lB,lC,aQ,aR]
    rfl
   refine one_ (i:=3) (N:=some 25) (bq1 271 11) rfl rfl tF tq (fun K hK=>?_)
   refine goes_ Try.func22 tF rfl #[.agg #[.int .i64 a1_0,.int .i64 a1_1,.int .i64 a1_2,.int .i64 a1_3,.int .i64 a1_4]] ta rfl rfl tA ?_
   (with_reducible refine (laws_toKey.calls a1_0 a1_1 a1_2 a1_3 a1_4 r3_1 r3_2 r3_3 r3_4 r3_5 _ Q3.out).mono ?_)
   rintro e_ w16 ⟨rfl,hb⟩
   refine ⟨_,rfl,?_⟩
   have n0_:=aA.mk (Kd.aK HF15_0.out hb)
   have n1_:=aA.mk (Kd.R_below HS15_0.out hb)
   have n2_:=aA.mk (Kd.aK HF15_1.out hb)
   have n3_:=aA.mk (Kd.S_below HS15_1.out hb)
   have n4_:=aA.mk (aG BK1.out hb)
   have n5_:=aA.mk (aG BK2.out hb)
   have n6_:=aA.mk (aG BK14.out hb)
   have n7_:=aA.mk (aJ HB.out hb)
   have n8_:=aA.mk (Nat.le_trans HT.out hb.size)
   (try clear HF15_0)
   (try clear HS15_0)
   (try clear HF15_1)
   (try clear HS15_1)
   (try clear BK1)
   (try clear BK2)
   (try clear BK14)
   (try clear HB)
   (try clear HT)
   have HF15_0:=n0_
   have HS15_0:=n1_
   have HF15_1:=n2_
   have HS15_1:=n3_
   have BK1:=n4_
   have BK2:=n5_
   have BK14:=n6_
   have HB:=n7_
   have HT:=n8_
   clear n0_ n1_ n2_ n3_ n4_ n5_ n6_ n7_ n8_
   (try clear hb)
   refine hK.out _ _ ⟨(aB BK1.out 0).trans rfl,(aB BK1.out 1).trans rfl,(aB BK2.out 0).trans rfl,(aB BK2.out 1).trans rfl,(aB BK2.out 2).trans rfl,(aB BK2.out 3).trans rfl,(aB BK2.out 4).trans rfl⟩ (fun hHeld=>?_)
   clear hK K
   refine norm_ (a':=?_) ?_ ?_
   rotate_left
   ·show Act.put _ (some 25) _ = _
    simp only [Act.put,lA,lB,lC,aQ,aR]
    rfl
   refine one_ (i:=4) (N:=some 26) (bq1 287 11) rfl rfl tF tq (fun K hK=>?_)
   refine goes_ Try.func21 tF rfl #[.agg #[.slice A15_0 r2_1.length c15_0,.slice A15_1 r2_2.length c15_1],.agg #[.int .i64 r3_1,.int .i64 r3_2,.int .i64 r3_3,.int .i64 r3_4,.int .i64 r3_5]] ta rfl rfl tA ?_
   (with_reducible refine (spec_TreePut.calls k4 (In lo15 hi15) (In lo15 hi15) _ _ r2_1 _ _ r2_2 r3_1 r3_2 r3_3 r3_4 r3_5 r4_1 r4_2 r4_3 _ ?s1 ?s2 Q4.out).mono ?_)
   (case s1=>exact ⟨_,_,rfl,HC15_0.out,HF15_0.out⟩)
   (case s2=>exact ⟨_,_,rfl,HC15_1.out,HF15_1.out⟩)
   rintro e_ w17 ⟨v0_,v1_,rfl,ho0,ho1,hb⟩
   refine ⟨_,rfl,?_⟩
   obtain ⟨lo17,hi17,el_,eh_,ol_,oh_⟩:=Mem.times HT.out hb
   (try rw [← el_] at ho0)
   obtain ⟨A17_0,c17_0,ev_,hc0_,hf0_⟩:=new_V2 (a:=lo15) (b:=hi15) (lo:=lo17) ho0 tz eh_
   subst ev_
   (try rw [← el_] at ho1)
   obtain ⟨A17_1,c17_1,ev_,hc1_,hf1_⟩:=new_V2 (a:=lo15) (b:=hi15) (lo:=lo17) ho1 tz eh_
   subst ev_
   have n0_:=aA.mk (aG BK1.out hb)
   have n1_:=aA.mk (aG BK2.out hb)
   have n2_:=aA.mk (aG BK14.out hb)
   have n3_:=aA.mk (aJ HB.out hb)
   have n4_:=aA.mk (hf0_)
   have n5_:=aA.mk (hc0_)
   have n6_:=aA.mk (hf1_)
   have n7_:=aA.mk (hc1_)
   have n8_:=aA.mk (And.intro HORD.out (And.intro ol_ oh_))
   have n9_:=aA.mk (Nat.le_of_eq eh_)
   (try clear HF15_0)
   (try clear HS15_0)
   (try clear HC15_0)
   (try clear HF15_1)
   (try clear HS15_1)
   (try clear HC15_1)
   (try clear BK1)
   (try clear BK2)
   (try clear BK14)
   (try clear HB)
   (try clear HF17_0)
   (try clear HC17_0)
   (try clear HF17_1)
   (try clear HC17_1)
   (try clear HORD)
   (try clear HT)
   have BK1:=n0_
   have BK2:=n1_
   have BK14:=n2_
   have HB:=n3_
   have HF17_0:=n4_
   have HC17_0:=n5_
   have HF17_1:=n6_
   have HC17_1:=n7_
   have HORD:=n8_
   have HT:=n9_
   clear n0_ n1_ n2_ n3_ n4_ n5_ n6_ n7_ n8_ n9_
   clear ol_ oh_ el_ eh_ ho0 hf0_ hc0_ ho1 hf1_ hc1_
   (try clear hb)
   refine hK.out _ _ ⟨(aB BK1.out 0).trans rfl,(aB BK1.out 1).trans rfl,(aB BK2.out 0).trans rfl,(aB BK2.out 1).trans rfl,(aB BK2.out 2).trans rfl,(aB BK2.out 3).trans rfl,(aB BK2.out 4).trans rfl⟩ (fun hHeld=>?_)
   clear hK K
   refine norm_ (a':=?_) ?_ ?_
   rotate_left
   ·show Act.put _ (some 26) _ = _
    simp only [Act.put,lA,lB,lC,aQ,aR]
    rfl
   refine pure_ (i:=5) (N:=some 21) (v:=?_) (a':=?_) (bq1 319 11) rfl rfl tF (fun _ _ _ h=>h) (Or.inl ⟨vK,?_⟩) ?_ ?_
   rotate_left
   ·intro w'
    go_simp
    with_reducible rfl
   rotate_left
   ·simp only [Act.put,lA,lB,lC,aQ,aR]
    rfl
   refine pure_ (i:=6) (N:=some 27) (v:=?_) (a':=?_) (bq1 383 11) rfl rfl tF (fun _ _ _ h=>h) (Or.inl ⟨vK,?_⟩) ?_ ?_
   rotate_left
   ·intro w'
    go_simp
    with_reducible rfl
   rotate_left
   ·simp only [Act.put,lA,lB,lC,aQ,aR]
    rfl
   refine pure_ (i:=7) (N:=some 28) (v:=?_) (a':=?_) (bq1 511 11) rfl rfl tF (fun _ _ _ h=>h) (Or.inl ⟨vK,?_⟩) ?_ ?_
   rotate_left
   ·intro w'
    go_simp
    with_reducible rfl
   rotate_left
   ·simp only [Act.put,lA,lB,lC,aQ,aR]
    rfl
   exact norm_ vJ (hCont (gb14,lo15,hi17,A15_0,c15_0,A15_1,c15_1,A17_0,c17_0,A17_1,c17_1) _ ⟨hHeld,BK1,BK2,HB,BK14,⟨t5⟩,⟨Kd.F_mono HF17_0.out tn⟩,HC17_0,⟨Kd.F_mono HF17_1.out tn⟩,HC17_1⟩)
 clear BK1 BK2 HB HT hHeld
 rintro ⟨gb18,lo18,hi18,A18_0,c18_0,A18_1,c18_1,A18_2,c18_2,A18_3,c18_3⟩ w18 ⟨hHeld,BK1,BK2,HB,f_0,f_1,f_2,f_3,f_4,f_5⟩
 have BK18:=aA.mk (show w18.heap[gb18]? = some (.cells #[.slice none 0 0,.slice none 0 0] 29 (0,0)) from f_0.out)
 clear f_0
 have HO_:=aA.mk (show ((gb2 + 1) ≤ gb18 ∧ (gb2 + 1) ≤ lo18) ∧ (lo18 ≤ hi18) ∧ (gb18 < lo18 ∨ hi18 ≤ gb18 ∨ 0 ≤ gb18) ∧ gb18 + 1 ≤ w18.heap.size ∧ hi18 ≤ w18.heap.size from f_1.out)
 clear f_1
 have HF18_0:=aA.mk (show Kd.F (Kd.int .i64) w18 (InG lo18 hi18 gb18) A18_2 r4_1.length r4_1 from f_2.out)
 clear f_2
 have HC18_0:=aA.mk (show r4_1.length ≤ c18_2 from f_3.out)
 clear f_3
 have HF18_1:=aA.mk (show Kd.F k59 w18 (InG lo18 hi18 gb18) A18_3 r4_2.length r4_2 from f_4.out)
 clear f_4
 have HC18_1:=aA.mk (show r4_2.length ≤ c18_3 from f_5.out)
 clear f_5
 obtain ⟨tp18,et_⟩:∃ n_,n_ = w18.heap.size:=⟨_,rfl⟩
 have n0_:=aA.mk (show _ ∧ (((gb2 + 1) ≤ gb18 ∧ (gb2 + 1) ≤ lo18) ∧ (lo18 ≤ hi18) ∧ (gb18 < lo18 ∨ hi18 ≤ gb18 ∨ 0 ≤ gb18) ∧ gb18 + 1 ≤ tp18 ∧ hi18 ≤ tp18) from And.intro HORD.out (by rw [et_];exact HO_.out))
 clear HORD HO_
 have HORD:=n0_
 clear n0_
 have HT:=aA.mk (Nat.le_of_eq et_)
 clear et_
 refine norm_ (a':=?_) ?_ ?_
 rotate_left
 ·simp only [putAll,Act.put,lA,lB,lC]
  rfl
 refine last_ (i:=9) (N:=none) (bq1 1023 11) rfl rfl tF tq (fun K hK=>?_)
 have hzgb1_0_19:w18.cell? ⟨gb1,0,none⟩ = some (.slice A0_0 l0_0.length c0_0):=(aB BK1.out 0).trans rfl
 have hygb1_0_19:=aC BK1.out 0
 have hzgb1_1_19:w18.cell? ⟨gb1,1,none⟩ = some (.slice A0_1 l0_1.length c0_1):=(aB BK1.out 1).trans rfl
 have hygb1_1_19:=aC BK1.out 1
 have hzgb2_0_19:w18.cell? ⟨gb2,0,none⟩ = some (.int .i64 a1_0):=(aB BK2.out 0).trans rfl
 have hygb2_0_19:=aC BK2.out 0
 have hzgb2_1_19:w18.cell? ⟨gb2,1,none⟩ = some (.int .i64 a1_1):=(aB BK2.out 1).trans rfl
 have hygb2_1_19:=aC BK2.out 1
 have hzgb2_2_19:w18.cell? ⟨gb2,2,none⟩ = some (.int .i64 a1_2):=(aB BK2.out 2).trans rfl
 have hygb2_2_19:=aC BK2.out 2
 have hzgb2_3_19:w18.cell? ⟨gb2,3,none⟩ = some (.int .i64 a1_3):=(aB BK2.out 3).trans rfl
 have hygb2_3_19:=aC BK2.out 3
 have hzgb2_4_19:w18.cell? ⟨gb2,4,none⟩ = some (.int .i64 a1_4):=(aB BK2.out 4).trans rfl
 have hygb2_4_19:=aC BK2.out 4
 have hzgb18_0_19:w18.cell? ⟨gb18,0,none⟩ = some (.slice none 0 0):=(aB BK18.out 0).trans rfl
 have hygb18_0_19:=aC BK18.out 0
 have hzgb18_1_19:w18.cell? ⟨gb18,1,none⟩ = some (.slice none 0 0):=(aB BK18.out 1).trans rfl
 have hygb18_1_19:=aC BK18.out 1
 have hge_:w.heap.size ≤ gb18:=t6
 refine skip_ (w1:=?_) ta rfl ?_ ?_
 rotate_left
 ·go_simp
  rfl
 refine hK.out _ _ ?_
 clear hK K
 obtain ⟨w19,hw_⟩:∃ z_,z_ = ((w18.setCell ⟨gb18,0,none⟩ (.slice A18_2 r4_1.length c18_2)).setCell ⟨gb18,1,none⟩ (.slice A18_3 r4_2.length c18_3)):=⟨_,rfl⟩
 (try rw [← hw_])
 have hkp:Kept w18 w19 (fun k_=>k_ = gb18):=(by rw [hw_];exact Kept.setCell (Kept.setCell (Kept.refl w18 (fun k_=>k_ = gb18)) (.inl rfl) (.slice A18_2 r4_1.length c18_2)) (.inl rfl) (.slice A18_3 r4_2.length c18_3))
 have hbn_:Below w.heap.size w w19:=wB
 have hbk_:w19.heap[gb18]? = some (.cells #[.slice A18_2 r4_1.length c18_2,.slice A18_3 r4_2.length c18_3] 29 (0,0)):=(by rw [hw_];exact blk_put (cs:=#[.slice A18_2 r4_1.length c18_2,.slice none 0 0]) (cs':=#[.slice A18_2 r4_1.length c18_2,.slice A18_3 r4_2.length c18_3]) (blk_put (cs:=#[.slice none 0 0,.slice none 0 0]) (cs':=#[.slice A18_2 r4_1.length c18_2,.slice none 0 0]) (BK18.out) 0 _ rfl) 1 _ rfl)
 have hsz_:tp18 ≤ w19.heap.size:=Nat.le_trans HT.out hkp.1
 have n0_:=aA.mk (Kd.F_kept HF18_0.out hkp tV)
 have n1_:=aA.mk (Kd.F_kept HF18_1.out hkp tV)
 have n2_:=aA.mk (blk_kept BK1.out hkp tf)
 have n3_:=aA.mk (blk_kept BK2.out hkp tf)
 have n4_:=aA.mk (hbn_)
 have n5_:=aA.mk (hbk_)
 have n6_:=aA.mk (hsz_)
 (try clear HF18_0)
 (try clear HF18_1)
 (try clear BK1)
 (try clear BK2)
 (try clear HB)
 (try clear BK18)
 (try clear HT)
 have HF18_0:=n0_
 have HF18_1:=n1_
 have BK1:=n2_
 have BK2:=n3_
 have HB:=n4_
 have BK18:=n5_
 have HT:=n6_
 clear n0_ n1_ n2_ n3_ n4_ n5_ n6_
 clear hw_ hkp hge_ hbn_ hbk_ hsz_
 refine pure_ (i:=10) (N:=some 7) (v:=?_) (a':=?_) (bq1 2047 11) rfl rfl tF (fun _ _ _ h=>h) (Or.inl ⟨vK,?_⟩) ?_ ?_
 rotate_left
 ·intro w'
  go_simp
  with_reducible rfl
 rotate_left
 ·simp only [Act.put,lA,lB,lC,aQ,aR]
  rfl
 refine done_ tF ?_
 have hzgb1_0_19:w19.cell? ⟨gb1,0,none⟩ = some (.slice A0_0 l0_0.length c0_0):=(aB BK1.out 0).trans rfl
 have hygb1_0_19:=aC BK1.out 0
 have hzgb1_1_19:w19.cell? ⟨gb1,1,none⟩ = some (.slice A0_1 l0_1.length c0_1):=(aB BK1.out 1).trans rfl
 have hygb1_1_19:=aC BK1.out 1
 have hzgb2_0_19:w19.cell? ⟨gb2,0,none⟩ = some (.int .i64 a1_0):=(aB BK2.out 0).trans rfl
 have hygb2_0_19:=aC BK2.out 0
 have hzgb2_1_19:w19.cell? ⟨gb2,1,none⟩ = some (.int .i64 a1_1):=(aB BK2.out 1).trans rfl
 have hygb2_1_19:=aC BK2.out 1
 have hzgb2_2_19:w19.cell? ⟨gb2,2,none⟩ = some (.int .i64 a1_2):=(aB BK2.out 2).trans rfl
 have hygb2_2_19:=aC BK2.out 2
 have hzgb2_3_19:w19.cell? ⟨gb2,3,none⟩ = some (.int .i64 a1_3):=(aB BK2.out 3).trans rfl
 have hygb2_3_19:=aC BK2.out 3
 have hzgb2_4_19:w19.cell? ⟨gb2,4,none⟩ = some (.int .i64 a1_4):=(aB BK2.out 4).trans rfl
 have hygb2_4_19:=aC BK2.out 4
 have hzgb18_0_19:w19.cell? ⟨gb18,0,none⟩ = some (.slice A18_2 r4_1.length c18_2):=(aB BK18.out 0).trans rfl
 have hygb18_0_19:=aC BK18.out 0
 have hzgb18_1_19:w19.cell? ⟨gb18,1,none⟩ = some (.slice A18_3 r4_2.length c18_3):=(aB BK18.out 1).trans rfl
 have hygb18_1_19:=aC BK18.out 1
 go_wp2_with (first|((with_reducible refine aT (f:=8) rfl ?_);refine goesL_ (some 30) rfl rfl Try.func8 tF rfl #[.agg #[.slice A0_0 l0_0.length c0_0,.slice A0_1 l0_1.length c0_1]] rfl tA ?_;(with_reducible refine (laws_toTree.calls k2 _ _ l0_0 _ _ l0_1 r2_1 r2_2 _ ?s1 ?s2 ?s3 ?s4 Q2.out).mono ?_);(case s1=>exact wF);(case s2=>exact HC0_0.out);(case s3=>exact wE);(case s4=>exact HC0_1.out);rintro e_ w20 ⟨v0_,v1_,rfl,ho0,ho1,hb⟩;refine ⟨_,rfl,?_⟩;obtain ⟨lo20,hi20,el_,eh_,ol_,oh_⟩:=Mem.times HT.out hb;(try rw [← el_] at ho0);obtain ⟨A20_0,c20_0,ev_,hc0_,hf0_,hs0_⟩:=Mem.new_R ho0 eh_;subst ev_;(try rw [← el_] at ho1);obtain ⟨A20_1,c20_1,ev_,hc1_,hf1_,hs1_⟩:=Mem.new_S ho1 eh_;subst ev_;have n0_:=aA.mk (Kd.aK HF18_0.out hb);have n1_:=aA.mk (Kd.aK HF18_1.out hb);have n2_:=aA.mk (aG BK1.out hb);have n3_:=aA.mk (aG BK2.out hb);have n4_:=aA.mk (aG BK18.out hb);have n5_:=aA.mk (aJ HB.out hb);have n6_:=aA.mk (hf0_);have n7_:=aA.mk (hc0_);have n8_:=aA.mk (hs0_);have n9_:=aA.mk (hf1_);have n10_:=aA.mk (hc1_);have n11_:=aA.mk (hs1_);have n12_:=aA.mk (And.intro HORD.out (And.intro ol_ oh_));have n13_:=aA.mk (Nat.le_of_eq eh_);(try clear HF18_0);(try clear HF18_1);(try clear BK1);(try clear BK2);(try clear BK18);(try clear HB);(try clear HF20_0);(try clear HC20_0);(try clear HS20_0);(try clear HF20_1);(try clear HC20_1);(try clear HS20_1);(try clear HORD);(try clear HT);have HF18_0:=n0_;have HF18_1:=n1_;have BK1:=n2_;have BK2:=n3_;have BK18:=n4_;have HB:=n5_;have HF20_0:=n6_;have HC20_0:=n7_;have HS20_0:=n8_;have HF20_1:=n9_;have HC20_1:=n10_;have HS20_1:=n11_;have HORD:=n12_;have HT:=n13_;clear n0_ n1_ n2_ n3_ n4_ n5_ n6_ n7_ n8_ n9_ n10_ n11_ n12_ n13_;clear ol_ oh_ el_ eh_ ho0 hf0_ hc0_ hs0_ ho1 hf1_ hc1_ hs1_;(try clear hb);have hzgb1_0_20:w20.cell? ⟨gb1,0,none⟩ = some (.slice A0_0 l0_0.length c0_0):=(aB BK1.out 0).trans rfl;have hygb1_0_20:=aC BK1.out 0;have hzgb1_1_20:w20.cell? ⟨gb1,1,none⟩ = some (.slice A0_1 l0_1.length c0_1):=(aB BK1.out 1).trans rfl;have hygb1_1_20:=aC BK1.out 1;have hzgb2_0_20:w20.cell? ⟨gb2,0,none⟩ = some (.int .i64 a1_0):=(aB BK2.out 0).trans rfl;have hygb2_0_20:=aC BK2.out 0;have hzgb2_1_20:w20.cell? ⟨gb2,1,none⟩ = some (.int .i64 a1_1):=(aB BK2.out 1).trans rfl;have hygb2_1_20:=aC BK2.out 1;have hzgb2_2_20:w20.cell? ⟨gb2,2,none⟩ = some (.int .i64 a1_2):=(aB BK2.out 2).trans rfl;have hygb2_2_20:=aC BK2.out 2;have hzgb2_3_20:w20.cell? ⟨gb2,3,none⟩ = some (.int .i64 a1_3):=(aB BK2.out 3).trans rfl;have hygb2_3_20:=aC BK2.out 3;have hzgb2_4_20:w20.cell? ⟨gb2,4,none⟩ = some (.int .i64 a1_4):=(aB BK2.out 4).trans rfl;have hygb2_4_20:=aC BK2.out 4;have hzgb18_0_20:w20.cell? ⟨gb18,0,none⟩ = some (.slice A18_2 r4_1.length c18_2):=(aB BK18.out 0).trans rfl;have hygb18_0_20:=aC BK18.out 0;have hzgb18_1_20:w20.cell? ⟨gb18,1,none⟩ = some (.slice A18_3 r4_2.length c18_3):=(aB BK18.out 1).trans rfl;have hygb18_1_20:=aC BK18.out 1)|((with_reducible refine aX (N:=8) rfl ?_);refine aW ?hg (N:=8) ?hd (cs:=#[.slice none 0 0,.slice none 0 0]) (t:=29) ?hr ?_;(case hd=>rfl);(case hg=>rfl);(case hr=>exact tP);intro gb21 hg_ w21 hbox hb;have hge_:hi20 ≤ gb21:=vD;have hlt_:gb21 + 1 ≤ w21.heap.size:=aY hbox;have n0_:=aA.mk (Kd.aK HF18_0.out hb);have n1_:=aA.mk (Kd.aK HF18_1.out hb);have n2_:=aA.mk (Kd.aK HF20_0.out hb);have n3_:=aA.mk (Kd.R_below HS20_0.out hb);have n4_:=aA.mk (Kd.aK HF20_1.out hb);have n5_:=aA.mk (Kd.S_below HS20_1.out hb);have n6_:=aA.mk (aG BK1.out hb);have n7_:=aA.mk (aG BK2.out hb);have n8_:=aA.mk (aG BK18.out hb);have n9_:=aA.mk (aJ HB.out hb);have n10_:=aA.mk (hbox);have n11_:=aA.mk (And.intro HORD.out (And.intro hge_ (Nat.le_succ gb21)));have n12_:=aA.mk (hlt_);(try clear HF18_0);(try clear HF18_1);(try clear HF20_0);(try clear HS20_0);(try clear HF20_1);(try clear HS20_1);(try clear BK1);(try clear BK2);(try clear BK18);(try clear HB);(try clear BK21);(try clear HORD);(try clear HT);have HF18_0:=n0_;have HF18_1:=n1_;have HF20_0:=n2_;have HS20_0:=n3_;have HF20_1:=n4_;have HS20_1:=n5_;have BK1:=n6_;have BK2:=n7_;have BK18:=n8_;have HB:=n9_;have BK21:=n10_;have HORD:=n11_;have HT:=n12_;clear n0_ n1_ n2_ n3_ n4_ n5_ n6_ n7_ n8_ n9_ n10_ n11_ n12_;clear hb hbox hg_ hge_ hlt_;have hzgb1_0_21:w21.cell? ⟨gb1,0,none⟩ = some (.slice A0_0 l0_0.length c0_0):=(aB BK1.out 0).trans rfl;have hygb1_0_21:=aC BK1.out 0;have hzgb1_1_21:w21.cell? ⟨gb1,1,none⟩ = some (.slice A0_1 l0_1.length c0_1):=(aB BK1.out 1).trans rfl;have hygb1_1_21:=aC BK1.out 1;have hzgb2_0_21:w21.cell? ⟨gb2,0,none⟩ = some (.int .i64 a1_0):=(aB BK2.out 0).trans rfl;have hygb2_0_21:=aC BK2.out 0;have hzgb2_1_21:w21.cell? ⟨gb2,1,none⟩ = some (.int .i64 a1_1):=(aB BK2.out 1).trans rfl;have hygb2_1_21:=aC BK2.out 1;have hzgb2_2_21:w21.cell? ⟨gb2,2,none⟩ = some (.int .i64 a1_2):=(aB BK2.out 2).trans rfl;have hygb2_2_21:=aC BK2.out 2;have hzgb2_3_21:w21.cell? ⟨gb2,3,none⟩ = some (.int .i64 a1_3):=(aB BK2.out 3).trans rfl;have hygb2_3_21:=aC BK2.out 3;have hzgb2_4_21:w21.cell? ⟨gb2,4,none⟩ = some (.int .i64 a1_4):=(aB BK2.out 4).trans rfl;have hygb2_4_21:=aC BK2.out 4;have hzgb18_0_21:w21.cell? ⟨gb18,0,none⟩ = some (.slice A18_2 r4_1.length c18_2):=(aB BK18.out 0).trans rfl;have hygb18_0_21:=aC BK18.out 0;have hzgb18_1_21:w21.cell? ⟨gb18,1,none⟩ = some (.slice A18_3 r4_2.length c18_3):=(aB BK18.out 1).trans rfl;have hygb18_1_21:=aC BK18.out 1;have hzgb21_0_21:w21.cell? ⟨gb21,0,none⟩ = some (.slice none 0 0):=(aB BK21.out 0).trans rfl;have hygb21_0_21:=aC BK21.out 0;have hzgb21_1_21:w21.cell? ⟨gb21,1,none⟩ = some (.slice none 0 0):=(aB BK21.out 1).trans rfl;have hygb21_1_21:=aC BK21.out 1)|((with_reducible refine gate_store (t:=29) (p:=8) rfl ?_);refine store_event (t:=29) (p:=8) (v:=?vo_w22) (w1:=((w21.setCell ⟨gb21,0,none⟩ (.slice A20_0 r2_1.length c20_0)).setCell ⟨gb21,1,none⟩ (.slice A20_1 r2_2.length c20_1))) ?hg ?ho ?hn ?hr ?_;(case ho=>rfl);(case hg=>rfl);(case hn=>rfl);(case hr=>exact tP);intro w22 hw_;have hkp:Kept w21 w22 (fun k_=>k_ = gb21):=(by rw [hw_];exact Kept.setCell (Kept.setCell (Kept.refl w21 (fun k_=>k_ = gb21)) (.inl rfl) (.slice A20_0 r2_1.length c20_0)) (.inl rfl) (.slice A20_1 r2_2.length c20_1));have hge_:w.heap.size ≤ gb21:=vN;have hbn_:Below w.heap.size w w22:=wB;have hbk_:w22.heap[gb21]? = some (.cells #[.slice A20_0 r2_1.length c20_0,.slice A20_1 r2_2.length c20_1] 29 (0,0)):=(by rw [hw_];exact blk_put (cs:=#[.slice A20_0 r2_1.length c20_0,.slice none 0 0]) (cs':=#[.slice A20_0 r2_1.length c20_0,.slice A20_1 r2_2.length c20_1]) (blk_put (cs:=#[.slice none 0 0,.slice none 0 0]) (cs':=#[.slice A20_0 r2_1.length c20_0,.slice none 0 0]) (BK21.out) 0 _ rfl) 1 _ rfl);have hsz_:(gb21 + 1) ≤ w22.heap.size:=Nat.le_trans HT.out hkp.1;have n0_:=aA.mk (Kd.F_kept HF18_0.out hkp tV);have n1_:=aA.mk (Kd.F_kept HF18_1.out hkp tV);have n2_:=aA.mk (Kd.F_kept HF20_0.out hkp tT);have n3_:=aA.mk (Kd.R_kept HS20_0.out hkp tT);have n4_:=aA.mk (Kd.F_kept HF20_1.out hkp tT);have n5_:=aA.mk (Kd.S_kept HS20_1.out hkp tT);have n6_:=aA.mk (blk_kept BK1.out hkp tf);have n7_:=aA.mk (blk_kept BK2.out hkp tf);have n8_:=aA.mk (blk_kept BK18.out hkp tf);have n9_:=aA.mk (hbn_);have n10_:=aA.mk (hbk_);have n11_:=aA.mk (hsz_);(try clear HF18_0);(try clear HF18_1);(try clear HF20_0);(try clear HS20_0);(try clear HF20_1);(try clear HS20_1);(try clear BK1);(try clear BK2);(try clear BK18);(try clear HB);(try clear BK21);(try clear HT);have HF18_0:=n0_;have HF18_1:=n1_;have HF20_0:=n2_;have HS20_0:=n3_;have HF20_1:=n4_;have HS20_1:=n5_;have BK1:=n6_;have BK2:=n7_;have BK18:=n8_;have HB:=n9_;have BK21:=n10_;have HT:=n11_;clear n0_ n1_ n2_ n3_ n4_ n5_ n6_ n7_ n8_ n9_ n10_ n11_;clear hw_ hkp hge_ hbn_ hbk_ hsz_;have hzgb1_0_22:w22.cell? ⟨gb1,0,none⟩ = some (.slice A0_0 l0_0.length c0_0):=(aB BK1.out 0).trans rfl;have hygb1_0_22:=aC BK1.out 0;have hzgb1_1_22:w22.cell? ⟨gb1,1,none⟩ = some (.slice A0_1 l0_1.length c0_1):=(aB BK1.out 1).trans rfl;have hygb1_1_22:=aC BK1.out 1;have hzgb2_0_22:w22.cell? ⟨gb2,0,none⟩ = some (.int .i64 a1_0):=(aB BK2.out 0).trans rfl;have hygb2_0_22:=aC BK2.out 0;have hzgb2_1_22:w22.cell? ⟨gb2,1,none⟩ = some (.int .i64 a1_1):=(aB BK2.out 1).trans rfl;have hygb2_1_22:=aC BK2.out 1;have hzgb2_2_22:w22.cell? ⟨gb2,2,none⟩ = some (.int .i64 a1_2):=(aB BK2.out 2).trans rfl;have hygb2_2_22:=aC BK2.out 2;have hzgb2_3_22:w22.cell? ⟨gb2,3,none⟩ = some (.int .i64 a1_3):=(aB BK2.out 3).trans rfl;have hygb2_3_22:=aC BK2.out 3;have hzgb2_4_22:w22.cell? ⟨gb2,4,none⟩ = some (.int .i64 a1_4):=(aB BK2.out 4).trans rfl;have hygb2_4_22:=aC BK2.out 4;have hzgb18_0_22:w22.cell? ⟨gb18,0,none⟩ = some (.slice A18_2 r4_1.length c18_2):=(aB BK18.out 0).trans rfl;have hygb18_0_22:=aC BK18.out 0;have hzgb18_1_22:w22.cell? ⟨gb18,1,none⟩ = some (.slice A18_3 r4_2.length c18_3):=(aB BK18.out 1).trans rfl;have hygb18_1_22:=aC BK18.out 1;have hzgb21_0_22:w22.cell? ⟨gb21,0,none⟩ = some (.slice A20_0 r2_1.length c20_0):=(aB BK21.out 0).trans rfl;have hygb21_0_22:=aC BK21.out 0;have hzgb21_1_22:w22.cell? ⟨gb21,1,none⟩ = some (.slice A20_1 r2_2.length c20_1):=(aB BK21.out 1).trans rfl;have hygb21_1_22:=aC BK21.out 1))
 have n_:=aA.mk (Kd.F_drew HF18_0.out)
 clear HF18_0
 have HF18_0:=n_
 clear n_
 have n_:=aA.mk (Kd.F_drew HF18_1.out)
 clear HF18_1
 have HF18_1:=n_
 clear n_
 have n_:=aA.mk (Kd.F_drew HF20_0.out)
 clear HF20_0
 have HF20_0:=n_
 clear n_
 have n_:=aA.mk (Kd.R_drew HS20_0.out)
 clear HS20_0
 have HS20_0:=n_
 clear n_
 have n_:=aA.mk (Kd.F_drew HF20_1.out)
 clear HF20_1
 have HF20_1:=n_
 clear n_
 have n_:=aA.mk (Kd.S_drew HS20_1.out)
 clear HS20_1
 have HS20_1:=n_
 clear n_
 have n_:=aA.mk (aL BK1.out)
 clear BK1
 have BK1:=n_
 clear n_
 have n_:=aA.mk (aL BK2.out)
 clear BK2
 have BK2:=n_
 clear n_
 have n_:=aA.mk (aL BK18.out)
 clear BK18
 have BK18:=n_
 clear n_
 have n_:=aA.mk (aL BK21.out)
 clear BK21
 have BK21:=n_
 clear n_
 have n_:=aA.mk (aE HB.out)
 clear HB
 have HB:=n_
 clear n_
 have n_:=aA.mk (show _ ≤ w22.drew.heap.size from HT.out)
 clear HT
 have HT:=n_
 clear n_
 refine start_ (n:=10) (S:=fun w'=>w'.cell? ⟨gb21,0,none⟩ = some (.slice A20_0 r2_1.length c20_0) ∧ w'.cell? ⟨gb21,1,none⟩ = some (.slice A20_1 r2_2.length c20_1) ∧ w'.cell? ⟨gb2,0,none⟩ = some (.int .i64 a1_0) ∧ w'.cell? ⟨gb2,1,none⟩ = some (.int .i64 a1_1) ∧ w'.cell? ⟨gb2,2,none⟩ = some (.int .i64 a1_2) ∧ w'.cell? ⟨gb2,3,none⟩ = some (.int .i64 a1_3) ∧ w'.cell? ⟨gb2,4,none⟩ = some (.int .i64 a1_4)) (ds:=[8]) #[F0,F0,F0,F0,F0,F0,F0,F0,F0,F0] tF rfl rfl ⟨(aB BK21.out 0).trans rfl,(aB BK21.out 1).trans rfl,(aB BK2.out 0).trans rfl,(aB BK2.out 1).trans rfl,(aB BK2.out 2).trans rfl,(aB BK2.out 3).trans rfl,(aB BK2.out 4).trans rfl⟩ (fun hHeld=>?_)
 generalize w22.drew = w23 at HF18_0 HF18_1 HF20_0 HS20_0 HF20_1 HS20_1 BK1 BK2 BK18 BK21 HB HT hHeld ⊢
 refine take_ (i:=0) (N:=some 32) (v:=?_) (a':=?_) (bq1 1 10) rfl rfl tF (fun _ _ _ h=>h) (Or.inl ⟨vK,?_⟩) hHeld ?_ ?_
 rotate_left
 ·rintro w' ⟨s0,s1,s2,s3,s4,s5,s6⟩
  go_simp
  with_reducible rfl
 rotate_left
 ·simp only [Act.put,lA,lB,lC,aQ,aR]
  rfl
 refine take_ (i:=1) (N:=some 33) (v:=?_) (a':=?_) (bq1 3 10) rfl rfl tF (fun _ _ _ h=>h) (Or.inl ⟨vK,?_⟩) hHeld ?_ ?_
 rotate_left
 ·rintro w' ⟨s0,s1,s2,s3,s4,s5,s6⟩
  go_simp
  with_reducible rfl
 rotate_left
 ·simp only [Act.put,lA,lB,lC,aQ,aR]
  rfl
 refine join_ (σ:=Nat × Nat × Nat × Option Addr × Nat × Option Addr × Nat) 2 (bq1 255 10) (fun s_=>[(34,.agg #[.int .i64 r3_1,.int .i64 r3_2,.int .i64 r3_3,.int .i64 r3_4,.int .i64 r3_5]),(35,.tuple #[.agg #[.slice s_.2.2.2.1 r4_1.length s_.2.2.2.2.1,.slice s_.2.2.2.2.2.1 r4_2.length s_.2.2.2.2.2.2],.bool r4_3]),(31,.tuple #[.agg #[.slice s_.2.2.2.1 r4_1.length s_.2.2.2.2.1,.slice s_.2.2.2.2.2.1 r4_2.length s_.2.2.2.2.2.2],.bool r4_3]),(36,.agg #[.slice s_.2.2.2.1 r4_1.length s_.2.2.2.2.1,.slice s_.2.2.2.2.2.1 r4_2.length s_.2.2.2.2.2.2]),(37,.bool r4_3),(9,.pointer (some ⟨s_.1,0,none⟩))]) (fun s_ w'=>(w'.cell? ⟨gb21,0,none⟩ = some (.slice A20_0 r2_1.length c20_0) ∧ w'.cell? ⟨gb21,1,none⟩ = some (.slice A20_1 r2_2.length c20_1) ∧ w'.cell? ⟨gb2,0,none⟩ = some (.int .i64 a1_0) ∧ w'.cell? ⟨gb2,1,none⟩ = some (.int .i64 a1_1) ∧ w'.cell? ⟨gb2,2,none⟩ = some (.int .i64 a1_2) ∧ w'.cell? ⟨gb2,3,none⟩ = some (.int .i64 a1_3) ∧ w'.cell? ⟨gb2,4,none⟩ = some (.int .i64 a1_4)) ∧ aA (Kd.F (Kd.int .i64) w' (InG lo18 hi18 gb18) A18_2 r4_1.length r4_1) ∧ aA (Kd.F k59 w' (InG lo18 hi18 gb18) A18_3 r4_2.length r4_2) ∧ aA (Kd.F (Kd.int .i64) w' (In lo20 hi20) A20_0 r2_1.length r2_1) ∧ aA (Kd.R (Kd.int .i64) 3 w' lo20 (In lo20 hi20) (.slice A20_0 r2_1.length c20_0) r2_1) ∧ aA (Kd.F k59D w' (In lo20 hi20) A20_1 r2_2.length r2_2) ∧ aA (Kd.S k59D 59 w' lo20 (In lo20 hi20) (.slice A20_1 r2_2.length c20_1) r2_2) ∧ aA (w'.heap[gb1]? = some (.cells #[.slice A0_0 l0_0.length c0_0,.slice A0_1 l0_1.length c0_1] 25 (0,0))) ∧ aA (w'.heap[gb2]? = some (.cells #[.int .i64 a1_0,.int .i64 a1_1,.int .i64 a1_2,.int .i64 a1_3,.int .i64 a1_4] 48 (0,0))) ∧ aA (w'.heap[gb18]? = some (.cells #[.slice A18_2 r4_1.length c18_2,.slice A18_3 r4_2.length c18_3] 29 (0,0))) ∧ aA (w'.heap[gb21]? = some (.cells #[.slice A20_0 r2_1.length c20_0,.slice A20_1 r2_2.length c20_1] 29 (0,0))) ∧ aA (Below w.heap.size w w') ∧ aA (w'.heap[s_.1]? = some (.cells #[.slice none 0 0,.slice none 0 0] 29 (0,0))) ∧ aA (((gb21 + 1) ≤ s_.1 ∧ (gb21 + 1) ≤ s_.2.1) ∧ (s_.2.1 ≤ s_.2.2.1) ∧ (s_.1 < s_.2.1 ∨ s_.2.2.1 ≤ s_.1) ∧ s_.1 + 1 ≤ w'.heap.size ∧ s_.2.2.1 ≤ w'.heap.size) ∧ aA (Kd.F (Kd.int .i64) w' (In s_.2.1 s_.2.2.1) s_.2.2.2.1 r4_1.length r4_1) ∧ aA (r4_1.length ≤ s_.2.2.2.2.1) ∧ aA (Kd.R (Kd.int .i64) 3 w' w.heap.size (In s_.2.1 s_.2.2.1) (.slice s_.2.2.2.1 r4_1.length s_.2.2.2.2.1) r4_1) ∧ aA (Kd.F k59D w' (In s_.2.1 s_.2.2.1) s_.2.2.2.2.2.1 r4_2.length r4_2) ∧ aA (r4_2.length ≤ s_.2.2.2.2.2.2) ∧ aA (Kd.S k59D 59 w' w.heap.size (In s_.2.1 s_.2.2.1) (.slice s_.2.2.2.2.2.1 r4_2.length s_.2.2.2.2.2.2) r4_2)) ?_ ?_
 rotate_left
 ·intro hCont
  refine two_ (i:=2) (j:=7) (Ni:=some 34) (Nj:=some 9) (bq1 7 10) #[T1,T1,F0,F0,F0,F0,F0,T1,F0,F0] rfl rfl rfl rfl tF tq tq (fun K hK=>?_) (fun K hK=>?_)
  ·skip
   refine goes_ Try.func22 tF rfl #[.agg #[.int .i64 a1_0,.int .i64 a1_1,.int .i64 a1_2,.int .i64 a1_3,.int .i64 a1_4]] ta rfl rfl tA ?_
   (with_reducible refine (laws_toKey.calls a1_0 a1_1 a1_2 a1_3 a1_4 r3_1 r3_2 r3_3 r3_4 r3_5 _ Q3.out).mono ?_)
   rintro e_ w24 ⟨rfl,hb⟩
   refine ⟨_,rfl,?_⟩
   have n0_:=aA.mk (Kd.aK HF18_0.out hb)
   have n1_:=aA.mk (Kd.aK HF18_1.out hb)
   have n2_:=aA.mk (Kd.aK HF20_0.out hb)
   have n3_:=aA.mk (Kd.R_below HS20_0.out hb)
   have n4_:=aA.mk (Kd.aK HF20_1.out hb)
   have n5_:=aA.mk (Kd.S_below HS20_1.out hb)
   have n6_:=aA.mk (aG BK1.out hb)
   have n7_:=aA.mk (aG BK2.out hb)
   have n8_:=aA.mk (aG BK18.out hb)
   have n9_:=aA.mk (aG BK21.out hb)
   have n10_:=aA.mk (aJ HB.out hb)
   have n11_:=aA.mk (Nat.le_trans HT.out hb.size)
   (try clear HF18_0)
   (try clear HF18_1)
   (try clear HF20_0)
   (try clear HS20_0)
   (try clear HF20_1)
   (try clear HS20_1)
   (try clear BK1)
   (try clear BK2)
   (try clear BK18)
   (try clear BK21)
   (try clear HB)
   (try clear HT)
   have HF18_0:=n0_
   have HF18_1:=n1_
   have HF20_0:=n2_
   have HS20_0:=n3_
   have HF20_1:=n4_
   have HS20_1:=n5_
   have BK1:=n6_
   have BK2:=n7_
   have BK18:=n8_
   have BK21:=n9_
   have HB:=n10_
   have HT:=n11_
   clear n0_ n1_ n2_ n3_ n4_ n5_ n6_ n7_ n8_ n9_ n10_ n11_
   (try clear hb)
   refine hK.out _ _ ⟨(aB BK21.out 0).trans rfl,(aB BK21.out 1).trans rfl,(aB BK2.out 0).trans rfl,(aB BK2.out 1).trans rfl,(aB BK2.out 2).trans rfl,(aB BK2.out 3).trans rfl,(aB BK2.out 4).trans rfl⟩ (fun hHeld=>?_)
   clear hK K
   refine norm_ (a':=?_) ?_ ?_
   rotate_left
   ·show Act.put _ (some 34) _ = _
    simp only [Act.put,lA,lB,lC,aQ,aR]
    rfl
   refine two_ (i:=3) (j:=7) (Ni:=some 35) (Nj:=some 9) (bq1 15 10) #[T1,T1,T1,F0,F0,F0,F0,T1,F0,F0] rfl rfl rfl rfl tF tq tq (fun K hK=>?_) (fun K hK=>?_)
   ·skip
    refine goes_ Try.func23 tF rfl #[.agg #[.slice A20_0 r2_1.length c20_0,.slice A20_1 r2_2.length c20_1],.agg #[.int .i64 r3_1,.int .i64 r3_2,.int .i64 r3_3,.int .i64 r3_4,.int .i64 r3_5]] ta rfl rfl tA ?_
    (with_reducible refine (impl_TreePut.calls k5 _ _ r2_1 _ _ r2_2 r3_1 r3_2 r3_3 r3_4 r3_5 r4_1 r4_2 r4_3 _ ?s1 ?s2 ?s3 ?s4 Q5.out).mono ?_)
    (case s1=>exact (Kd.F_now HF20_0.out))
    (case s2=>exact HC20_0.out)
    (case s3=>exact (Kd.F_now HF20_1.out))
    (case s4=>exact HC20_1.out)
    rintro e_ w25 ⟨v0_,v1_,rfl,ho0,ho1,hb⟩
    refine ⟨_,rfl,?_⟩
    obtain ⟨lo25,hi25,el_,eh_,ol_,oh_⟩:=Mem.times HT.out hb
    (try rw [← el_] at ho0)
    obtain ⟨A25_0,c25_0,ev_,hc0_,hf0_,hs0_⟩:=Mem.new_R ho0 eh_
    subst ev_
    (try rw [← el_] at ho1)
    obtain ⟨A25_1,c25_1,ev_,hc1_,hf1_,hs1_⟩:=Mem.new_S ho1 eh_
    subst ev_
    have n0_:=aA.mk (Kd.aK HF18_0.out hb)
    have n1_:=aA.mk (Kd.aK HF18_1.out hb)
    have n2_:=aA.mk (Kd.aK HF20_0.out hb)
    have n3_:=aA.mk (Kd.R_below HS20_0.out hb)
    have n4_:=aA.mk (Kd.aK HF20_1.out hb)
    have n5_:=aA.mk (Kd.S_below HS20_1.out hb)
    have n6_:=aA.mk (aG BK1.out hb)
    have n7_:=aA.mk (aG BK2.out hb)
    have n8_:=aA.mk (aG BK18.out hb)
    have n9_:=aA.mk (aG BK21.out hb)
    have n10_:=aA.mk (aJ HB.out hb)
    have n11_:=aA.mk (hf0_)
    have n12_:=aA.mk (hc0_)
    have n13_:=aA.mk (hs0_)
    have n14_:=aA.mk (hf1_)
    have n15_:=aA.mk (hc1_)
    have n16_:=aA.mk (hs1_)
    have n17_:=aA.mk (And.intro HORD.out (And.intro ol_ oh_))
    have n18_:=aA.mk (Nat.le_of_eq eh_)
    (try clear HF18_0)
    (try clear HF18_1)
    (try clear HF20_0)
    (try clear HS20_0)
    (try clear HF20_1)
    (try clear HS20_1)
    (try clear BK1)
    (try clear BK2)
    (try clear BK18)
    (try clear BK21)
    (try clear HB)
    (try clear HF25_0)
    (try clear HC25_0)
    (try clear HS25_0)
    (try clear HF25_1)
    (try clear HC25_1)
    (try clear HS25_1)
    (try clear HORD)
    (try clear HT)
    have HF18_0:=n0_
    have HF18_1:=n1_
    have HF20_0:=n2_
    have HS20_0:=n3_
    have HF20_1:=n4_
    have HS20_1:=n5_
    have BK1:=n6_
    have BK2:=n7_
    have BK18:=n8_
    have BK21:=n9_
    have HB:=n10_
    have HF25_0:=n11_
    have HC25_0:=n12_
    have HS25_0:=n13_
    have HF25_1:=n14_
    have HC25_1:=n15_
    have HS25_1:=n16_
    have HORD:=n17_
    have HT:=n18_
    clear n0_ n1_ n2_ n3_ n4_ n5_ n6_ n7_ n8_ n9_ n10_ n11_ n12_ n13_ n14_ n15_ n16_ n17_ n18_
    clear ol_ oh_ el_ eh_ ho0 hf0_ hc0_ hs0_ ho1 hf1_ hc1_ hs1_
    (try clear hb)
    refine hK.out _ _ ⟨(aB BK21.out 0).trans rfl,(aB BK21.out 1).trans rfl,(aB BK2.out 0).trans rfl,(aB BK2.out 1).trans rfl,(aB BK2.out 2).trans rfl,(aB BK2.out 3).trans rfl,(aB BK2.out 4).trans rfl⟩ (fun hHeld=>?_)
    clear hK K
    refine norm_ (a':=?_) ?_ ?_
    rotate_left
    ·show Act.put _ (some 35) _ = _
     simp only [Act.put,lA,lB,lC,aQ,aR]
     rfl
    refine pure_ (i:=4) (N:=some 31) (v:=?_) (a':=?_) (bq1 31 10) rfl rfl tF (fun _ _ _ h=>h) (Or.inl ⟨vK,?_⟩) ?_ ?_
    rotate_left
    ·intro w'
     go_simp
     with_reducible rfl
    rotate_left
    ·simp only [Act.put,lA,lB,lC,aQ,aR]
     rfl
    refine pure_ (i:=5) (N:=some 36) (v:=?_) (a':=?_) (bq1 63 10) rfl rfl tF (fun _ _ _ h=>h) (Or.inl ⟨vK,?_⟩) ?_ ?_
    rotate_left
    ·intro w'
     go_simp
     with_reducible rfl
    rotate_left
    ·simp only [Act.put,lA,lB,lC,aQ,aR]
     rfl
    refine pure_ (i:=6) (N:=some 37) (v:=?_) (a':=?_) (bq1 127 10) rfl rfl tF (fun _ _ _ h=>h) (Or.inl ⟨vK,?_⟩) ?_ ?_
    rotate_left
    ·intro w'
     go_simp
     with_reducible rfl
    rotate_left
    ·simp only [Act.put,lA,lB,lC,aQ,aR]
     rfl
    refine one_ (i:=7) (N:=some 9) (bq1 255 10) rfl rfl tF tq (fun K hK=>?_)
    refine box_step ?hg (N:=9) ?hd (cs:=#[.slice none 0 0,.slice none 0 0]) (t:=29) ?hr ?_
    (case hd=>rfl)
    (case hg=>rfl)
    (case hr=>exact tP)
    intro gb26 hg_ w26 hbox hb
    have hge_:hi25 ≤ gb26:=vD
    have hlt_:gb26 + 1 ≤ w26.heap.size:=aY hbox
    have n0_:=aA.mk (Kd.aK HF18_0.out hb)
    have n1_:=aA.mk (Kd.aK HF18_1.out hb)
    have n2_:=aA.mk (Kd.aK HF20_0.out hb)
    have n3_:=aA.mk (Kd.R_below HS20_0.out hb)
    have n4_:=aA.mk (Kd.aK HF20_1.out hb)
    have n5_:=aA.mk (Kd.S_below HS20_1.out hb)
    have n6_:=aA.mk (Kd.aK HF25_0.out hb)
    have n7_:=aA.mk (Kd.R_below HS25_0.out hb)
    have n8_:=aA.mk (Kd.aK HF25_1.out hb)
    have n9_:=aA.mk (Kd.S_below HS25_1.out hb)
    have n10_:=aA.mk (aG BK1.out hb)
    have n11_:=aA.mk (aG BK2.out hb)
    have n12_:=aA.mk (aG BK18.out hb)
    have n13_:=aA.mk (aG BK21.out hb)
    have n14_:=aA.mk (aJ HB.out hb)
    have n15_:=aA.mk (hbox)
    have n16_:=aA.mk (And.intro HORD.out (And.intro hge_ (Nat.le_succ gb26)))
    have n17_:=aA.mk (hlt_)
    (try clear HF18_0)
    (try clear HF18_1)
    (try clear HF20_0)
    (try clear HS20_0)
    (try clear HF20_1)
    (try clear HS20_1)
    (try clear HF25_0)
    (try clear HS25_0)
    (try clear HF25_1)
    (try clear HS25_1)
    (try clear BK1)
    (try clear BK2)
    (try clear BK18)
    (try clear BK21)
    (try clear HB)
    (try clear BK26)
    (try clear HORD)
    (try clear HT)
    have HF18_0:=n0_
    have HF18_1:=n1_
    have HF20_0:=n2_
    have HS20_0:=n3_
    have HF20_1:=n4_
    have HS20_1:=n5_
    have HF25_0:=n6_
    have HS25_0:=n7_
    have HF25_1:=n8_
    have HS25_1:=n9_
    have BK1:=n10_
    have BK2:=n11_
    have BK18:=n12_
    have BK21:=n13_
    have HB:=n14_
    have BK26:=n15_
    have HORD:=n16_
    have HT:=n17_
    clear n0_ n1_ n2_ n3_ n4_ n5_ n6_ n7_ n8_ n9_ n10_ n11_ n12_ n13_ n14_ n15_ n16_ n17_
    clear hb hbox hg_ hge_ hlt_
    refine hK.out _ _ ⟨(aB BK21.out 0).trans rfl,(aB BK21.out 1).trans rfl,(aB BK2.out 0).trans rfl,(aB BK2.out 1).trans rfl,(aB BK2.out 2).trans rfl,(aB BK2.out 3).trans rfl,(aB BK2.out 4).trans rfl⟩ (fun hHeld=>?_)
    clear hK K
    refine norm_ (a':=?_) ?_ ?_
    rotate_left
    ·show Act.put _ (some 9) _ = _
     simp only [Act.put,lA,lB,lC,aQ,aR]
     rfl
    exact norm_ vJ (hCont (gb26,lo25,hi25,A25_0,c25_0,A25_1,c25_1) _ ⟨hHeld,HF18_0,HF18_1,HF20_0,HS20_0,HF20_1,HS20_1,BK1,BK2,BK18,BK21,HB,BK26,⟨t5⟩,HF25_0,HC25_0,⟨Kd.R_lower HS25_0.out t6⟩,HF25_1,HC25_1,⟨Kd.S_lower HS25_1.out t6⟩⟩)
   ·skip
    refine box_step ?hg (N:=9) ?hd (cs:=#[.slice none 0 0,.slice none 0 0]) (t:=29) ?hr ?_
    (case hd=>rfl)
    (case hg=>rfl)
    (case hr=>exact tP)
    intro gb27 hg_ w27 hbox hb
    have hge_:(gb21 + 1) ≤ gb27:=vD
    have hlt_:gb27 + 1 ≤ w27.heap.size:=aY hbox
    have n0_:=aA.mk (Kd.aK HF18_0.out hb)
    have n1_:=aA.mk (Kd.aK HF18_1.out hb)
    have n2_:=aA.mk (Kd.aK HF20_0.out hb)
    have n3_:=aA.mk (Kd.R_below HS20_0.out hb)
    have n4_:=aA.mk (Kd.aK HF20_1.out hb)
    have n5_:=aA.mk (Kd.S_below HS20_1.out hb)
    have n6_:=aA.mk (aG BK1.out hb)
    have n7_:=aA.mk (aG BK2.out hb)
    have n8_:=aA.mk (aG BK18.out hb)
    have n9_:=aA.mk (aG BK21.out hb)
    have n10_:=aA.mk (aJ HB.out hb)
    have n11_:=aA.mk (hbox)
    have n12_:=aA.mk (And.intro HORD.out (And.intro hge_ (Nat.le_succ gb27)))
    have n13_:=aA.mk (hlt_)
    (try clear HF18_0)
    (try clear HF18_1)
    (try clear HF20_0)
    (try clear HS20_0)
    (try clear HF20_1)
    (try clear HS20_1)
    (try clear BK1)
    (try clear BK2)
    (try clear BK18)
    (try clear BK21)
    (try clear HB)
    (try clear BK27)
    (try clear HORD)
    (try clear HT)
    have HF18_0:=n0_
    have HF18_1:=n1_
    have HF20_0:=n2_
    have HS20_0:=n3_
    have HF20_1:=n4_
    have HS20_1:=n5_
    have BK1:=n6_
    have BK2:=n7_
    have BK18:=n8_
    have BK21:=n9_
    have HB:=n10_
    have BK27:=n11_
    have HORD:=n12_
    have HT:=n13_
    clear n0_ n1_ n2_ n3_ n4_ n5_ n6_ n7_ n8_ n9_ n10_ n11_ n12_ n13_
    clear hb hbox hg_ hge_ hlt_
    refine hK.out _ _ ⟨(aB BK21.out 0).trans rfl,(aB BK21.out 1).trans rfl,(aB BK2.out 0).trans rfl,(aB BK2.out 1).trans rfl,(aB BK2.out 2).trans rfl,(aB BK2.out 3).trans rfl,(aB BK2.out 4).trans rfl⟩ (fun hHeld=>?_)
    clear hK K
    refine norm_ (a':=?_) ?_ ?_
    rotate_left
    ·show Act.put _ (some 9) _ = _
     simp only [Act.put,lA,lB,lC,aQ,aR]
     rfl
    refine one_ (i:=3) (N:=some 35) (bq1 143 10) rfl rfl tF tq (fun K hK=>?_)
    refine goes_ Try.func23 tF rfl #[.agg #[.slice A20_0 r2_1.length c20_0,.slice A20_1 r2_2.length c20_1],.agg #[.int .i64 r3_1,.int .i64 r3_2,.int .i64 r3_3,.int .i64 r3_4,.int .i64 r3_5]] ta rfl rfl tA ?_
    (with_reducible refine (impl_TreePut.calls k5 _ _ r2_1 _ _ r2_2 r3_1 r3_2 r3_3 r3_4 r3_5 r4_1 r4_2 r4_3 _ ?s1 ?s2 ?s3 ?s4 Q5.out).mono ?_)
    (case s1=>exact (Kd.F_now HF20_0.out))
    (case s2=>exact HC20_0.out)
    (case s3=>exact (Kd.F_now HF20_1.out))
    (case s4=>exact HC20_1.out)
    rintro e_ w28 ⟨v0_,v1_,rfl,ho0,ho1,hb⟩
    refine ⟨_,rfl,?_⟩
    obtain ⟨lo28,hi28,el_,eh_,ol_,oh_⟩:=Mem.times HT.out hb
    (try rw [← el_] at ho0)
    obtain ⟨A28_0,c28_0,ev_,hc0_,hf0_,hs0_⟩:=Mem.new_R ho0 eh_
    subst ev_
    (try rw [← el_] at ho1)
    obtain ⟨A28_1,c28_1,ev_,hc1_,hf1_,hs1_⟩:=Mem.new_S ho1 eh_
    subst ev_
    have n0_:=aA.mk (Kd.aK HF18_0.out hb)
    have n1_:=aA.mk (Kd.aK HF18_1.out hb)
    have n2_:=aA.mk (Kd.aK HF20_0.out hb)
    have n3_:=aA.mk (Kd.R_below HS20_0.out hb)
    have n4_:=aA.mk (Kd.aK HF20_1.out hb)
    have n5_:=aA.mk (Kd.S_below HS20_1.out hb)
    have n6_:=aA.mk (aG BK1.out hb)
    have n7_:=aA.mk (aG BK2.out hb)
    have n8_:=aA.mk (aG BK18.out hb)
    have n9_:=aA.mk (aG BK21.out hb)
    have n10_:=aA.mk (aG BK27.out hb)
    have n11_:=aA.mk (aJ HB.out hb)
    have n12_:=aA.mk (hf0_)
    have n13_:=aA.mk (hc0_)
    have n14_:=aA.mk (hs0_)
    have n15_:=aA.mk (hf1_)
    have n16_:=aA.mk (hc1_)
    have n17_:=aA.mk (hs1_)
    have n18_:=aA.mk (And.intro HORD.out (And.intro ol_ oh_))
    have n19_:=aA.mk (Nat.le_of_eq eh_)
    (try clear HF18_0)
    (try clear HF18_1)
    (try clear HF20_0)
    (try clear HS20_0)
    (try clear HF20_1)
    (try clear HS20_1)
    (try clear BK1)
    (try clear BK2)
    (try clear BK18)
    (try clear BK21)
    (try clear BK27)
    (try clear HB)
    (try clear HF28_0)
    (try clear HC28_0)
    (try clear HS28_0)
    (try clear HF28_1)
    (try clear HC28_1)
    (try clear HS28_1)
    (try clear HORD)
    (try clear HT)
    have HF18_0:=n0_
    have HF18_1:=n1_
    have HF20_0:=n2_
    have HS20_0:=n3_
    have HF20_1:=n4_
    have HS20_1:=n5_
    have BK1:=n6_
    have BK2:=n7_
    have BK18:=n8_
    have BK21:=n9_
    have BK27:=n10_
    have HB:=n11_
    have HF28_0:=n12_
    have HC28_0:=n13_
    have HS28_0:=n14_
    have HF28_1:=n15_
    have HC28_1:=n16_
    have HS28_1:=n17_
    have HORD:=n18_
    have HT:=n19_
    clear n0_ n1_ n2_ n3_ n4_ n5_ n6_ n7_ n8_ n9_ n10_ n11_ n12_ n13_ n14_ n15_ n16_ n17_ n18_ n19_
    clear ol_ oh_ el_ eh_ ho0 hf0_ hc0_ hs0_ ho1 hf1_ hc1_ hs1_
    (try clear hb)
    refine hK.out _ _ ⟨(aB BK21.out 0).trans rfl,(aB BK21.out 1).trans rfl,(aB BK2.out 0).trans rfl,(aB BK2.out 1).trans rfl,(aB BK2.out 2).trans rfl,(aB BK2.out 3).trans rfl,(aB BK2.out 4).trans rfl⟩ (fun hHeld=>?_)
    clear hK K
    refine norm_ (a':=?_) ?_ ?_
    rotate_left
    ·show Act.put _ (some 35) _ = _
     simp only [Act.put,lA,lB,lC,aQ,aR]
     rfl
    refine pure_ (i:=4) (N:=some 31) (v:=?_) (a':=?_) (bq1 159 10) rfl rfl tF (fun _ _ _ h=>h) (Or.inl ⟨vK,?_⟩) ?_ ?_
    rotate_left
    ·intro w'
     go_simp
     with_reducible rfl
    rotate_left
    ·simp only [Act.put,lA,lB,lC,aQ,aR]
     rfl
    refine pure_ (i:=5) (N:=some 36) (v:=?_) (a':=?_) (bq1 191 10) rfl rfl tF (fun _ _ _ h=>h) (Or.inl ⟨vK,?_⟩) ?_ ?_
    rotate_left
    ·intro w'
     go_simp
     with_reducible rfl
    rotate_left
    ·simp only [Act.put,lA,lB,lC,aQ,aR]
     rfl
    refine pure_ (i:=6) (N:=some 37) (v:=?_) (a':=?_) (bq1 255 10) rfl rfl tF (fun _ _ _ h=>h) (Or.inl ⟨vK,?_⟩) ?_ ?_
    rotate_left
    ·intro w'
     go_simp
     with_reducible rfl
    rotate_left
    ·simp only [Act.put,lA,lB,lC,aQ,aR]
     rfl
    exact norm_ vJ (hCont (gb27,lo28,hi28,A28_0,c28_0,A28_1,c28_1) _ ⟨hHeld,HF18_0,HF18_1,HF20_0,HS20_0,HF20_1,HS20_1,BK1,BK2,BK18,BK21,HB,BK27,⟨t5⟩,HF28_0,HC28_0,⟨Kd.R_lower HS28_0.out t6⟩,HF28_1,HC28_1,⟨Kd.S_lower HS28_1.out t6⟩⟩)
  ·skip
   refine box_step ?hg (N:=9) ?hd (cs:=#[.slice none 0 0,.slice none 0 0]) (t:=29) ?hr ?_
   (case hd=>rfl)
   (case hg=>rfl)
   (case hr=>exact tP)
   intro gb29 hg_ w29 hbox hb
   have hge_:(gb21 + 1) ≤ gb29:=vD
   have hlt_:gb29 + 1 ≤ w29.heap.size:=aY hbox
   have n0_:=aA.mk (Kd.aK HF18_0.out hb)
   have n1_:=aA.mk (Kd.aK HF18_1.out hb)
   have n2_:=aA.mk (Kd.aK HF20_0.out hb)
   have n3_:=aA.mk (Kd.R_below HS20_0.out hb)
   have n4_:=aA.mk (Kd.aK HF20_1.out hb)
   have n5_:=aA.mk (Kd.S_below HS20_1.out hb)
   have n6_:=aA.mk (aG BK1.out hb)
   have n7_:=aA.mk (aG BK2.out hb)
   have n8_:=aA.mk (aG BK18.out hb)
   have n9_:=aA.mk (aG BK21.out hb)
   have n10_:=aA.mk (aJ HB.out hb)
   have n11_:=aA.mk (hbox)
   have n12_:=aA.mk (And.intro HORD.out (And.intro hge_ (Nat.le_succ gb29)))
   have n13_:=aA.mk (hlt_)
   (try clear HF18_0)
   (try clear HF18_1)
   (try clear HF20_0)
   (try clear HS20_0)
   (try clear HF20_1)
   (try clear HS20_1)
   (try clear BK1)
   (try clear BK2)
   (try clear BK18)
   (try clear BK21)
   (try clear HB)
   (try clear BK29)
   (try clear HORD)
   (try clear HT)
   have HF18_0:=n0_
   have HF18_1:=n1_
   have HF20_0:=n2_
   have HS20_0:=n3_
   have HF20_1:=n4_
   have HS20_1:=n5_
   have BK1:=n6_
   have BK2:=n7_
   have BK18:=n8_
   have BK21:=n9_
   have HB:=n10_
   have BK29:=n11_
   have HORD:=n12_
   have HT:=n13_
   clear n0_ n1_ n2_ n3_ n4_ n5_ n6_ n7_ n8_ n9_ n10_ n11_ n12_ n13_
   clear hb hbox hg_ hge_ hlt_
   refine hK.out _ _ ⟨(aB BK21.out 0).trans rfl,(aB BK21.out 1).trans rfl,(aB BK2.out 0).trans rfl,(aB BK2.out 1).trans rfl,(aB BK2.out 2).trans rfl,(aB BK2.out 3).trans rfl,(aB BK2.out 4).trans rfl⟩ (fun hHeld=>?_)
   clear hK K
   refine norm_ (a':=?_) ?_ ?_
   rotate_left
   ·show Act.put _ (some 9) _ = _
    simp only [Act.put,lA,lB,lC,aQ,aR]
    rfl
   refine one_ (i:=2) (N:=some 34) (bq1 135 10) rfl rfl tF tq (fun K hK=>?_)
   refine goes_ Try.func22 tF rfl #[.agg #[.int .i64 a1_0,.int .i64 a1_1,.int .i64 a1_2,.int .i64 a1_3,.int .i64 a1_4]] ta rfl rfl tA ?_
   (with_reducible refine (laws_toKey.calls a1_0 a1_1 a1_2 a1_3 a1_4 r3_1 r3_2 r3_3 r3_4 r3_5 _ Q3.out).mono ?_)
   rintro e_ w30 ⟨rfl,hb⟩
   refine ⟨_,rfl,?_⟩
   have n0_:=aA.mk (Kd.aK HF18_0.out hb)
   have n1_:=aA.mk (Kd.aK HF18_1.out hb)
   have n2_:=aA.mk (Kd.aK HF20_0.out hb)
   have n3_:=aA.mk (Kd.R_below HS20_0.out hb)
   have n4_:=aA.mk (Kd.aK HF20_1.out hb)
   have n5_:=aA.mk (Kd.S_below HS20_1.out hb)
   have n6_:=aA.mk (aG BK1.out hb)
   have n7_:=aA.mk (aG BK2.out hb)
   have n8_:=aA.mk (aG BK18.out hb)
   have n9_:=aA.mk (aG BK21.out hb)
   have n10_:=aA.mk (aG BK29.out hb)
   have n11_:=aA.mk (aJ HB.out hb)
   have n12_:=aA.mk (Nat.le_trans HT.out hb.size)
   (try clear HF18_0)
   (try clear HF18_1)
   (try clear HF20_0)
   (try clear HS20_0)
   (try clear HF20_1)
   (try clear HS20_1)
   (try clear BK1)
   (try clear BK2)
   (try clear BK18)
   (try clear BK21)
   (try clear BK29)
   (try clear HB)
   (try clear HT)
   have HF18_0:=n0_
   have HF18_1:=n1_
   have HF20_0:=n2_
   have HS20_0:=n3_
   have HF20_1:=n4_
   have HS20_1:=n5_
   have BK1:=n6_
   have BK2:=n7_
   have BK18:=n8_
   have BK21:=n9_
   have BK29:=n10_
   have HB:=n11_
   have HT:=n12_
   clear n0_ n1_ n2_ n3_ n4_ n5_ n6_ n7_ n8_ n9_ n10_ n11_ n12_
   (try clear hb)
   refine hK.out _ _ ⟨(aB BK21.out 0).trans rfl,(aB BK21.out 1).trans rfl,(aB BK2.out 0).trans rfl,(aB BK2.out 1).trans rfl,(aB BK2.out 2).trans rfl,(aB BK2.out 3).trans rfl,(aB BK2.out 4).trans rfl⟩ (fun hHeld=>?_)
   clear hK K
   refine norm_ (a':=?_) ?_ ?_
   rotate_left
   ·show Act.put _ (some 34) _ = _
    simp only [Act.put,lA,lB,lC,aQ,aR]
    rfl
   refine one_ (i:=3) (N:=some 35) (bq1 143 10) rfl rfl tF tq (fun K hK=>?_)
   refine goes_ Try.func23 tF rfl #[.agg #[.slice A20_0 r2_1.length c20_0,.slice A20_1 r2_2.length c20_1],.agg #[.int .i64 r3_1,.int .i64 r3_2,.int .i64 r3_3,.int .i64 r3_4,.int .i64 r3_5]] ta rfl rfl tA ?_
   (with_reducible refine (impl_TreePut.calls k5 _ _ r2_1 _ _ r2_2 r3_1 r3_2 r3_3 r3_4 r3_5 r4_1 r4_2 r4_3 _ ?s1 ?s2 ?s3 ?s4 Q5.out).mono ?_)
   (case s1=>exact (Kd.F_now HF20_0.out))
   (case s2=>exact HC20_0.out)
   (case s3=>exact (Kd.F_now HF20_1.out))
   (case s4=>exact HC20_1.out)
   rintro e_ w31 ⟨v0_,v1_,rfl,ho0,ho1,hb⟩
   refine ⟨_,rfl,?_⟩
   obtain ⟨lo31,hi31,el_,eh_,ol_,oh_⟩:=Mem.times HT.out hb
   (try rw [← el_] at ho0)
   obtain ⟨A31_0,c31_0,ev_,hc0_,hf0_,hs0_⟩:=Mem.new_R ho0 eh_
   subst ev_
   (try rw [← el_] at ho1)
   obtain ⟨A31_1,c31_1,ev_,hc1_,hf1_,hs1_⟩:=Mem.new_S ho1 eh_
   subst ev_
   have n0_:=aA.mk (Kd.aK HF18_0.out hb)
   have n1_:=aA.mk (Kd.aK HF18_1.out hb)
   have n2_:=aA.mk (Kd.aK HF20_0.out hb)
   have n3_:=aA.mk (Kd.R_below HS20_0.out hb)
   have n4_:=aA.mk (Kd.aK HF20_1.out hb)
   have n5_:=aA.mk (Kd.S_below HS20_1.out hb)
   have n6_:=aA.mk (aG BK1.out hb)
   have n7_:=aA.mk (aG BK2.out hb)
   have n8_:=aA.mk (aG BK18.out hb)
   have n9_:=aA.mk (aG BK21.out hb)
   have n10_:=aA.mk (aG BK29.out hb)
   have n11_:=aA.mk (aJ HB.out hb)
   have n12_:=aA.mk (hf0_)
   have n13_:=aA.mk (hc0_)
   have n14_:=aA.mk (hs0_)
   have n15_:=aA.mk (hf1_)
   have n16_:=aA.mk (hc1_)
   have n17_:=aA.mk (hs1_)
   have n18_:=aA.mk (And.intro HORD.out (And.intro ol_ oh_))
   have n19_:=aA.mk (Nat.le_of_eq eh_)
   (try clear HF18_0)
   (try clear HF18_1)
   (try clear HF20_0)
   (try clear HS20_0)
   (try clear HF20_1)
   (try clear HS20_1)
   (try clear BK1)
   (try clear BK2)
   (try clear BK18)
   (try clear BK21)
   (try clear BK29)
   (try clear HB)
   (try clear HF31_0)
   (try clear HC31_0)
   (try clear HS31_0)
   (try clear HF31_1)
   (try clear HC31_1)
   (try clear HS31_1)
   (try clear HORD)
   (try clear HT)
   have HF18_0:=n0_
   have HF18_1:=n1_
   have HF20_0:=n2_
   have HS20_0:=n3_
   have HF20_1:=n4_
   have HS20_1:=n5_
   have BK1:=n6_
   have BK2:=n7_
   have BK18:=n8_
   have BK21:=n9_
   have BK29:=n10_
   have HB:=n11_
   have HF31_0:=n12_
   have HC31_0:=n13_
   have HS31_0:=n14_
   have HF31_1:=n15_
   have HC31_1:=n16_
   have HS31_1:=n17_
   have HORD:=n18_
   have HT:=n19_
   clear n0_ n1_ n2_ n3_ n4_ n5_ n6_ n7_ n8_ n9_ n10_ n11_ n12_ n13_ n14_ n15_ n16_ n17_ n18_ n19_
   clear ol_ oh_ el_ eh_ ho0 hf0_ hc0_ hs0_ ho1 hf1_ hc1_ hs1_
   (try clear hb)
   refine hK.out _ _ ⟨(aB BK21.out 0).trans rfl,(aB BK21.out 1).trans rfl,(aB BK2.out 0).trans rfl,(aB BK2.out 1).trans rfl,(aB BK2.out 2).trans rfl,(aB BK2.out 3).trans rfl,(aB BK2.out 4).trans rfl⟩ (fun hHeld=>?_)
   clear hK K
   refine norm_ (a':=?_) ?_ ?_
   rotate_left
   ·show Act.put _ (some 35) _ = _
    simp only [Act.put,lA,lB,lC,aQ,aR]
    rfl
   refine pure_ (i:=4) (N:=some 31) (v:=?_) (a':=?_) (bq1 159 10) rfl rfl tF (fun _ _ _ h=>h) (Or.inl ⟨vK,?_⟩) ?_ ?_
   rotate_left
   ·intro w'
    go_simp
    with_reducible rfl
   rotate_left
   ·simp only [Act.put,lA,lB,lC,aQ,aR]
    rfl
   refine pure_ (i:=5) (N:=some 36) (v:=?_) (a':=?_) (bq1 191 10) rfl rfl tF (fun _ _ _ h=>h) (Or.inl ⟨vK,?_⟩) ?_ ?_
   rotate_left
   ·intro w'
    go_simp
    with_reducible rfl
   rotate_left
   ·simp only [Act.put,lA,lB,lC,aQ,aR]
    rfl
   refine pure_ (i:=6) (N:=some 37) (v:=?_) (a':=?_) (bq1 255 10) rfl rfl tF (fun _ _ _ h=>h) (Or.inl ⟨vK,?_⟩) ?_ ?_
   rotate_left
   ·intro w'
    go_simp
    with_reducible rfl
   rotate_left
   ·simp only [Act.put,lA,lB,lC,aQ,aR]
    rfl
   exact norm_ vJ (hCont (gb29,lo31,hi31,A31_0,c31_0,A31_1,c31_1) _ ⟨hHeld,HF18_0,HF18_1,HF20_0,HS20_0,HF20_1,HS20_1,BK1,BK2,BK18,BK21,HB,BK29,⟨t5⟩,HF31_0,HC31_0,⟨Kd.R_lower HS31_0.out t6⟩,HF31_1,HC31_1,⟨Kd.S_lower HS31_1.out t6⟩⟩)
 clear HF18_0 HF18_1 HF20_0 HS20_0 HF20_1 HS20_1 BK1 BK2 BK18 BK21 HB HT hHeld
 rintro ⟨gb32,lo32,hi32,A32_0,c32_0,A32_1,c32_1⟩ w32 ⟨hHeld,HF18_0,HF18_1,HF20_0,HS20_0,HF20_1,HS20_1,BK1,BK2,BK18,BK21,HB,f_0,f_1,f_2,f_3,f_4,f_5,f_6,f_7⟩
 have BK32:=aA.mk (show w32.heap[gb32]? = some (.cells #[.slice none 0 0,.slice none 0 0] 29 (0,0)) from f_0.out)
 clear f_0
 have HO_:=aA.mk (show ((gb21 + 1) ≤ gb32 ∧ (gb21 + 1) ≤ lo32) ∧ (lo32 ≤ hi32) ∧ (gb32 < lo32 ∨ hi32 ≤ gb32) ∧ gb32 + 1 ≤ w32.heap.size ∧ hi32 ≤ w32.heap.size from f_1.out)
 clear f_1
 have HF32_0:=aA.mk (show Kd.F (Kd.int .i64) w32 (In lo32 hi32) A32_0 r4_1.length r4_1 from f_2.out)
 clear f_2
 have HC32_0:=aA.mk (show r4_1.length ≤ c32_0 from f_3.out)
 clear f_3
 have HS32_0:=aA.mk (show Kd.R (Kd.int .i64) 3 w32 w.heap.size (In lo32 hi32) (.slice A32_0 r4_1.length c32_0) r4_1 from f_4.out)
 clear f_4
 have HF32_1:=aA.mk (show Kd.F k59D w32 (In lo32 hi32) A32_1 r4_2.length r4_2 from f_5.out)
 clear f_5
 have HC32_1:=aA.mk (show r4_2.length ≤ c32_1 from f_6.out)
 clear f_6
 have HS32_1:=aA.mk (show Kd.S k59D 59 w32 w.heap.size (In lo32 hi32) (.slice A32_1 r4_2.length c32_1) r4_2 from f_7.out)
 clear f_7
 obtain ⟨tp32,et_⟩:∃ n_,n_ = w32.heap.size:=⟨_,rfl⟩
 have n0_:=aA.mk (show _ ∧ (((gb21 + 1) ≤ gb32 ∧ (gb21 + 1) ≤ lo32) ∧ (lo32 ≤ hi32) ∧ (gb32 < lo32 ∨ hi32 ≤ gb32) ∧ gb32 + 1 ≤ tp32 ∧ hi32 ≤ tp32) from And.intro HORD.out (by rw [et_];exact HO_.out))
 clear HORD HO_
 have HORD:=n0_
 clear n0_
 have HT:=aA.mk (Nat.le_of_eq et_)
 clear et_
 refine norm_ (a':=?_) ?_ ?_
 rotate_left
 ·simp only [putAll,Act.put,lA,lB,lC]
  rfl
 refine last_ (i:=8) (N:=none) (bq1 511 10) rfl rfl tF tq (fun K hK=>?_)
 have hzgb1_0_33:w32.cell? ⟨gb1,0,none⟩ = some (.slice A0_0 l0_0.length c0_0):=(aB BK1.out 0).trans rfl
 have hygb1_0_33:=aC BK1.out 0
 have hzgb1_1_33:w32.cell? ⟨gb1,1,none⟩ = some (.slice A0_1 l0_1.length c0_1):=(aB BK1.out 1).trans rfl
 have hygb1_1_33:=aC BK1.out 1
 have hzgb2_0_33:w32.cell? ⟨gb2,0,none⟩ = some (.int .i64 a1_0):=(aB BK2.out 0).trans rfl
 have hygb2_0_33:=aC BK2.out 0
 have hzgb2_1_33:w32.cell? ⟨gb2,1,none⟩ = some (.int .i64 a1_1):=(aB BK2.out 1).trans rfl
 have hygb2_1_33:=aC BK2.out 1
 have hzgb2_2_33:w32.cell? ⟨gb2,2,none⟩ = some (.int .i64 a1_2):=(aB BK2.out 2).trans rfl
 have hygb2_2_33:=aC BK2.out 2
 have hzgb2_3_33:w32.cell? ⟨gb2,3,none⟩ = some (.int .i64 a1_3):=(aB BK2.out 3).trans rfl
 have hygb2_3_33:=aC BK2.out 3
 have hzgb2_4_33:w32.cell? ⟨gb2,4,none⟩ = some (.int .i64 a1_4):=(aB BK2.out 4).trans rfl
 have hygb2_4_33:=aC BK2.out 4
 have hzgb18_0_33:w32.cell? ⟨gb18,0,none⟩ = some (.slice A18_2 r4_1.length c18_2):=(aB BK18.out 0).trans rfl
 have hygb18_0_33:=aC BK18.out 0
 have hzgb18_1_33:w32.cell? ⟨gb18,1,none⟩ = some (.slice A18_3 r4_2.length c18_3):=(aB BK18.out 1).trans rfl
 have hygb18_1_33:=aC BK18.out 1
 have hzgb21_0_33:w32.cell? ⟨gb21,0,none⟩ = some (.slice A20_0 r2_1.length c20_0):=(aB BK21.out 0).trans rfl
 have hygb21_0_33:=aC BK21.out 0
 have hzgb21_1_33:w32.cell? ⟨gb21,1,none⟩ = some (.slice A20_1 r2_2.length c20_1):=(aB BK21.out 1).trans rfl
 have hygb21_1_33:=aC BK21.out 1
 have hzgb32_0_33:w32.cell? ⟨gb32,0,none⟩ = some (.slice none 0 0):=(aB BK32.out 0).trans rfl
 have hygb32_0_33:=aC BK32.out 0
 have hzgb32_1_33:w32.cell? ⟨gb32,1,none⟩ = some (.slice none 0 0):=(aB BK32.out 1).trans rfl
 have hygb32_1_33:=aC BK32.out 1
 have hge_:w.heap.size ≤ gb32:=t6
 refine skip_ (w1:=?_) ta rfl ?_ ?_
 rotate_left
 ·go_simp
  rfl
 refine hK.out _ _ ?_
 clear hK K
 obtain ⟨w33,hw_⟩:∃ z_,z_ = ((w32.setCell ⟨gb32,0,none⟩ (.slice A32_0 r4_1.length c32_0)).setCell ⟨gb32,1,none⟩ (.slice A32_1 r4_2.length c32_1)):=⟨_,rfl⟩
 (try rw [← hw_])
 have hkp:Kept w32 w33 (fun k_=>k_ = gb32):=(by rw [hw_];exact Kept.setCell (Kept.setCell (Kept.refl w32 (fun k_=>k_ = gb32)) (.inl rfl) (.slice A32_0 r4_1.length c32_0)) (.inl rfl) (.slice A32_1 r4_2.length c32_1))
 have hbn_:Below w.heap.size w w33:=wB
 have hbk_:w33.heap[gb32]? = some (.cells #[.slice A32_0 r4_1.length c32_0,.slice A32_1 r4_2.length c32_1] 29 (0,0)):=(by rw [hw_];exact blk_put (cs:=#[.slice A32_0 r4_1.length c32_0,.slice none 0 0]) (cs':=#[.slice A32_0 r4_1.length c32_0,.slice A32_1 r4_2.length c32_1]) (blk_put (cs:=#[.slice none 0 0,.slice none 0 0]) (cs':=#[.slice A32_0 r4_1.length c32_0,.slice none 0 0]) (BK32.out) 0 _ rfl) 1 _ rfl)
 have hsz_:tp32 ≤ w33.heap.size:=Nat.le_trans HT.out hkp.1
 have n0_:=aA.mk (Kd.F_kept HF18_0.out hkp tV)
 have n1_:=aA.mk (Kd.F_kept HF18_1.out hkp tV)
 have n2_:=aA.mk (Kd.F_kept HF20_0.out hkp tT)
 have n3_:=aA.mk (Kd.R_kept HS20_0.out hkp tT)
 have n4_:=aA.mk (Kd.F_kept HF20_1.out hkp tT)
 have n5_:=aA.mk (Kd.S_kept HS20_1.out hkp tT)
 have n6_:=aA.mk (Kd.F_kept HF32_0.out hkp tT)
 have n7_:=aA.mk (Kd.R_kept HS32_0.out hkp tT)
 have n8_:=aA.mk (Kd.F_kept HF32_1.out hkp tT)
 have n9_:=aA.mk (Kd.S_kept HS32_1.out hkp tT)
 have n10_:=aA.mk (blk_kept BK1.out hkp tf)
 have n11_:=aA.mk (blk_kept BK2.out hkp tf)
 have n12_:=aA.mk (blk_kept BK18.out hkp tf)
 have n13_:=aA.mk (blk_kept BK21.out hkp tf)
 have n14_:=aA.mk (hbn_)
 have n15_:=aA.mk (hbk_)
 have n16_:=aA.mk (hsz_)
 (try clear HF18_0)
 (try clear HF18_1)
 (try clear HF20_0)
 (try clear HS20_0)
 (try clear HF20_1)
 (try clear HS20_1)
 (try clear HF32_0)
 (try clear HS32_0)
 (try clear HF32_1)
 (try clear HS32_1)
 (try clear BK1)
 (try clear BK2)
 (try clear BK18)
 (try clear BK21)
 (try clear HB)
 (try clear BK32)
 (try clear HT)
 have HF18_0:=n0_
 have HF18_1:=n1_
 have HF20_0:=n2_
 have HS20_0:=n3_
 have HF20_1:=n4_
 have HS20_1:=n5_
 have HF32_0:=n6_
 have HS32_0:=n7_
 have HF32_1:=n8_
 have HS32_1:=n9_
 have BK1:=n10_
 have BK2:=n11_
 have BK18:=n12_
 have BK21:=n13_
 have HB:=n14_
 have BK32:=n15_
 have HT:=n16_
 clear n0_ n1_ n2_ n3_ n4_ n5_ n6_ n7_ n8_ n9_ n10_ n11_ n12_ n13_ n14_ n15_ n16_
 clear hw_ hkp hge_ hbn_ hbk_ hsz_
 refine pure_ (i:=9) (N:=some 10) (v:=?_) (a':=?_) (bq1 1023 10) rfl rfl tF (fun _ _ _ h=>h) (Or.inl ⟨vK,?_⟩) ?_ ?_
 rotate_left
 ·intro w'
  go_simp
  with_reducible rfl
 rotate_left
 ·simp only [Act.put,lA,lB,lC,aQ,aR]
  rfl
 refine done_ tF ?_
 have hzgb1_0_33:w33.cell? ⟨gb1,0,none⟩ = some (.slice A0_0 l0_0.length c0_0):=(aB BK1.out 0).trans rfl
 have hygb1_0_33:=aC BK1.out 0
 have hzgb1_1_33:w33.cell? ⟨gb1,1,none⟩ = some (.slice A0_1 l0_1.length c0_1):=(aB BK1.out 1).trans rfl
 have hygb1_1_33:=aC BK1.out 1
 have hzgb2_0_33:w33.cell? ⟨gb2,0,none⟩ = some (.int .i64 a1_0):=(aB BK2.out 0).trans rfl
 have hygb2_0_33:=aC BK2.out 0
 have hzgb2_1_33:w33.cell? ⟨gb2,1,none⟩ = some (.int .i64 a1_1):=(aB BK2.out 1).trans rfl
 have hygb2_1_33:=aC BK2.out 1
 have hzgb2_2_33:w33.cell? ⟨gb2,2,none⟩ = some (.int .i64 a1_2):=(aB BK2.out 2).trans rfl
 have hygb2_2_33:=aC BK2.out 2
 have hzgb2_3_33:w33.cell? ⟨gb2,3,none⟩ = some (.int .i64 a1_3):=(aB BK2.out 3).trans rfl
 have hygb2_3_33:=aC BK2.out 3
 have hzgb2_4_33:w33.cell? ⟨gb2,4,none⟩ = some (.int .i64 a1_4):=(aB BK2.out 4).trans rfl
 have hygb2_4_33:=aC BK2.out 4
 have hzgb18_0_33:w33.cell? ⟨gb18,0,none⟩ = some (.slice A18_2 r4_1.length c18_2):=(aB BK18.out 0).trans rfl
 have hygb18_0_33:=aC BK18.out 0
 have hzgb18_1_33:w33.cell? ⟨gb18,1,none⟩ = some (.slice A18_3 r4_2.length c18_3):=(aB BK18.out 1).trans rfl
 have hygb18_1_33:=aC BK18.out 1
 have hzgb21_0_33:w33.cell? ⟨gb21,0,none⟩ = some (.slice A20_0 r2_1.length c20_0):=(aB BK21.out 0).trans rfl
 have hygb21_0_33:=aC BK21.out 0
 have hzgb21_1_33:w33.cell? ⟨gb21,1,none⟩ = some (.slice A20_1 r2_2.length c20_1):=(aB BK21.out 1).trans rfl
 have hygb21_1_33:=aC BK21.out 1
 have hzgb32_0_33:w33.cell? ⟨gb32,0,none⟩ = some (.slice A32_0 r4_1.length c32_0):=(aB BK32.out 0).trans rfl
 have hygb32_0_33:=aC BK32.out 0
 have hzgb32_1_33:w33.cell? ⟨gb32,1,none⟩ = some (.slice A32_1 r4_2.length c32_1):=(aB BK32.out 1).trans rfl
 have hygb32_1_33:=aC BK32.out 1
 go_wp2_with (first|((with_reducible refine aT (f:=10) rfl ?_);refine goesL_ (some 40) rfl rfl Try.func10 tF rfl #[.agg #[.slice A32_0 r4_1.length c32_0,.slice A32_1 r4_2.length c32_1],.agg #[.slice A18_2 r4_1.length c18_2,.slice A18_3 r4_2.length c18_3]] rfl tA ?_;(with_reducible refine (laws_eqTree.calls k6 _ _ r4_1 _ _ r4_2 _ _ r4_1 _ _ r4_2 true _ ?s1 ?s2 ?s3 ?s4 ?s5 ?s6 ?s7 ?s8 Q6.out).mono ?_);(case s1=>exact (Kd.F_now HF32_0.out));(case s2=>exact HC32_0.out);(case s3=>exact (Kd.F_now HF32_1.out));(case s4=>exact HC32_1.out);(case s5=>exact (Kd.F_now HF18_0.out));(case s6=>exact HC18_0.out);(case s7=>exact (Kd.F_now HF18_1.out));(case s8=>exact HC18_1.out);rintro e_ w34 ⟨rfl,hb⟩;refine ⟨_,rfl,?_⟩;have n0_:=aA.mk (Kd.aK HF18_0.out hb);have n1_:=aA.mk (Kd.aK HF18_1.out hb);have n2_:=aA.mk (Kd.aK HF20_0.out hb);have n3_:=aA.mk (Kd.R_below HS20_0.out hb);have n4_:=aA.mk (Kd.aK HF20_1.out hb);have n5_:=aA.mk (Kd.S_below HS20_1.out hb);have n6_:=aA.mk (Kd.aK HF32_0.out hb);have n7_:=aA.mk (Kd.R_below HS32_0.out hb);have n8_:=aA.mk (Kd.aK HF32_1.out hb);have n9_:=aA.mk (Kd.S_below HS32_1.out hb);have n10_:=aA.mk (aG BK1.out hb);have n11_:=aA.mk (aG BK2.out hb);have n12_:=aA.mk (aG BK18.out hb);have n13_:=aA.mk (aG BK21.out hb);have n14_:=aA.mk (aG BK32.out hb);have n15_:=aA.mk (aJ HB.out hb);have n16_:=aA.mk (Nat.le_trans HT.out hb.size);(try clear HF18_0);(try clear HF18_1);(try clear HF20_0);(try clear HS20_0);(try clear HF20_1);(try clear HS20_1);(try clear HF32_0);(try clear HS32_0);(try clear HF32_1);(try clear HS32_1);(try clear BK1);(try clear BK2);(try clear BK18);(try clear BK21);(try clear BK32);(try clear HB);(try clear HT);have HF18_0:=n0_;have HF18_1:=n1_;have HF20_0:=n2_;have HS20_0:=n3_;have HF20_1:=n4_;have HS20_1:=n5_;have HF32_0:=n6_;have HS32_0:=n7_;have HF32_1:=n8_;have HS32_1:=n9_;have BK1:=n10_;have BK2:=n11_;have BK18:=n12_;have BK21:=n13_;have BK32:=n14_;have HB:=n15_;have HT:=n16_;clear n0_ n1_ n2_ n3_ n4_ n5_ n6_ n7_ n8_ n9_ n10_ n11_ n12_ n13_ n14_ n15_ n16_;(try clear hb);have hzgb1_0_34:w34.cell? ⟨gb1,0,none⟩ = some (.slice A0_0 l0_0.length c0_0):=(aB BK1.out 0).trans rfl;have hygb1_0_34:=aC BK1.out 0;have hzgb1_1_34:w34.cell? ⟨gb1,1,none⟩ = some (.slice A0_1 l0_1.length c0_1):=(aB BK1.out 1).trans rfl;have hygb1_1_34:=aC BK1.out 1;have hzgb2_0_34:w34.cell? ⟨gb2,0,none⟩ = some (.int .i64 a1_0):=(aB BK2.out 0).trans rfl;have hygb2_0_34:=aC BK2.out 0;have hzgb2_1_34:w34.cell? ⟨gb2,1,none⟩ = some (.int .i64 a1_1):=(aB BK2.out 1).trans rfl;have hygb2_1_34:=aC BK2.out 1;have hzgb2_2_34:w34.cell? ⟨gb2,2,none⟩ = some (.int .i64 a1_2):=(aB BK2.out 2).trans rfl;have hygb2_2_34:=aC BK2.out 2;have hzgb2_3_34:w34.cell? ⟨gb2,3,none⟩ = some (.int .i64 a1_3):=(aB BK2.out 3).trans rfl;have hygb2_3_34:=aC BK2.out 3;have hzgb2_4_34:w34.cell? ⟨gb2,4,none⟩ = some (.int .i64 a1_4):=(aB BK2.out 4).trans rfl;have hygb2_4_34:=aC BK2.out 4;have hzgb18_0_34:w34.cell? ⟨gb18,0,none⟩ = some (.slice A18_2 r4_1.length c18_2):=(aB BK18.out 0).trans rfl;have hygb18_0_34:=aC BK18.out 0;have hzgb18_1_34:w34.cell? ⟨gb18,1,none⟩ = some (.slice A18_3 r4_2.length c18_3):=(aB BK18.out 1).trans rfl;have hygb18_1_34:=aC BK18.out 1;have hzgb21_0_34:w34.cell? ⟨gb21,0,none⟩ = some (.slice A20_0 r2_1.length c20_0):=(aB BK21.out 0).trans rfl;have hygb21_0_34:=aC BK21.out 0;have hzgb21_1_34:w34.cell? ⟨gb21,1,none⟩ = some (.slice A20_1 r2_2.length c20_1):=(aB BK21.out 1).trans rfl;have hygb21_1_34:=aC BK21.out 1;have hzgb32_0_34:w34.cell? ⟨gb32,0,none⟩ = some (.slice A32_0 r4_1.length c32_0):=(aB BK32.out 0).trans rfl;have hygb32_0_34:=aC BK32.out 0;have hzgb32_1_34:w34.cell? ⟨gb32,1,none⟩ = some (.slice A32_1 r4_2.length c32_1):=(aB BK32.out 1).trans rfl;have hygb32_1_34:=aC BK32.out 1))
 have n_:=aA.mk (Kd.F_drew HF18_0.out)
 clear HF18_0
 have HF18_0:=n_
 clear n_
 have n_:=aA.mk (Kd.F_drew HF18_1.out)
 clear HF18_1
 have HF18_1:=n_
 clear n_
 have n_:=aA.mk (Kd.F_drew HF20_0.out)
 clear HF20_0
 have HF20_0:=n_
 clear n_
 have n_:=aA.mk (Kd.R_drew HS20_0.out)
 clear HS20_0
 have HS20_0:=n_
 clear n_
 have n_:=aA.mk (Kd.F_drew HF20_1.out)
 clear HF20_1
 have HF20_1:=n_
 clear n_
 have n_:=aA.mk (Kd.S_drew HS20_1.out)
 clear HS20_1
 have HS20_1:=n_
 clear n_
 have n_:=aA.mk (Kd.F_drew HF32_0.out)
 clear HF32_0
 have HF32_0:=n_
 clear n_
 have n_:=aA.mk (Kd.R_drew HS32_0.out)
 clear HS32_0
 have HS32_0:=n_
 clear n_
 have n_:=aA.mk (Kd.F_drew HF32_1.out)
 clear HF32_1
 have HF32_1:=n_
 clear n_
 have n_:=aA.mk (Kd.S_drew HS32_1.out)
 clear HS32_1
 have HS32_1:=n_
 clear n_
 have n_:=aA.mk (aL BK1.out)
 clear BK1
 have BK1:=n_
 clear n_
 have n_:=aA.mk (aL BK2.out)
 clear BK2
 have BK2:=n_
 clear n_
 have n_:=aA.mk (aL BK18.out)
 clear BK18
 have BK18:=n_
 clear n_
 have n_:=aA.mk (aL BK21.out)
 clear BK21
 have BK21:=n_
 clear n_
 have n_:=aA.mk (aL BK32.out)
 clear BK32
 have BK32:=n_
 clear n_
 have n_:=aA.mk (aE HB.out)
 clear HB
 have HB:=n_
 clear n_
 have n_:=aA.mk (show _ ≤ w34.drew.heap.size from HT.out)
 clear HT
 have HT:=n_
 clear n_
 refine start_ (n:=5) (S:=fun w'=>w'.cell? ⟨gb21,0,none⟩ = some (.slice A20_0 r2_1.length c20_0) ∧ w'.cell? ⟨gb21,1,none⟩ = some (.slice A20_1 r2_2.length c20_1) ∧ w'.cell? ⟨gb1,0,none⟩ = some (.slice A0_0 l0_0.length c0_0) ∧ w'.cell? ⟨gb1,1,none⟩ = some (.slice A0_1 l0_1.length c0_1)) (ds:=[]) #[F0,F0,F0,F0,F0] tF rfl rfl ⟨(aB BK21.out 0).trans rfl,(aB BK21.out 1).trans rfl,(aB BK1.out 0).trans rfl,(aB BK1.out 1).trans rfl⟩ (fun hHeld=>?_)
 generalize w34.drew = w35 at HF18_0 HF18_1 HF20_0 HS20_0 HF20_1 HS20_1 HF32_0 HS32_0 HF32_1 HS32_1 BK1 BK2 BK18 BK21 BK32 HB HT hHeld ⊢
 refine take_ (i:=0) (N:=some 47) (v:=?_) (a':=?_) (bq1 1 5) rfl rfl tF (fun _ _ _ h=>h) (Or.inl ⟨vK,?_⟩) hHeld ?_ ?_
 rotate_left
 ·rintro w' ⟨s0,s1,s2,s3⟩
  go_simp
  with_reducible rfl
 rotate_left
 ·simp only [Act.put,lA,lB,lC,aQ,aR]
  rfl
 refine take_ (i:=1) (N:=some 48) (v:=?_) (a':=?_) (bq1 3 5) rfl rfl tF (fun _ _ _ h=>h) (Or.inl ⟨vK,?_⟩) hHeld ?_ ?_
 rotate_left
 ·rintro w' ⟨s0,s1,s2,s3⟩
  go_simp
  with_reducible rfl
 rotate_left
 ·simp only [Act.put,lA,lB,lC,aQ,aR]
  rfl
 refine one_ (i:=2) (N:=some 49) (bq1 7 5) rfl rfl tF tq (fun K hK=>?_)
 refine goes_ Try.func8 tF rfl #[.agg #[.slice A0_0 l0_0.length c0_0,.slice A0_1 l0_1.length c0_1]] ta rfl rfl tA ?_
 (with_reducible refine (laws_toTree.calls k2 _ _ l0_0 _ _ l0_1 r2_1 r2_2 _ ?s1 ?s2 ?s3 ?s4 Q2.out).mono ?_)
 (case s1=>exact wF)
 (case s2=>exact HC0_0.out)
 (case s3=>exact wE)
 (case s4=>exact HC0_1.out)
 rintro e_ w36 ⟨v0_,v1_,rfl,ho0,ho1,hb⟩
 refine ⟨_,rfl,?_⟩
 obtain ⟨lo36,hi36,el_,eh_,ol_,oh_⟩:=Mem.times HT.out hb
 (try rw [← el_] at ho0)
 obtain ⟨A36_0,c36_0,ev_,hc0_,hf0_,hs0_⟩:=Mem.new_R ho0 eh_
 subst ev_
 (try rw [← el_] at ho1)
 obtain ⟨A36_1,c36_1,ev_,hc1_,hf1_,hs1_⟩:=Mem.new_S ho1 eh_
 subst ev_
 have n0_:=aA.mk (Kd.aK HF18_0.out hb)
 have n1_:=aA.mk (Kd.aK HF18_1.out hb)
 have n2_:=aA.mk (Kd.aK HF20_0.out hb)
 have n3_:=aA.mk (Kd.R_below HS20_0.out hb)
 have n4_:=aA.mk (Kd.aK HF20_1.out hb)
 have n5_:=aA.mk (Kd.S_below HS20_1.out hb)
 have n6_:=aA.mk (Kd.aK HF32_0.out hb)
 have n7_:=aA.mk (Kd.R_below HS32_0.out hb)
 have n8_:=aA.mk (Kd.aK HF32_1.out hb)
 have n9_:=aA.mk (Kd.S_below HS32_1.out hb)
 have n10_:=aA.mk (aG BK1.out hb)
 have n11_:=aA.mk (aG BK2.out hb)
 have n12_:=aA.mk (aG BK18.out hb)
 have n13_:=aA.mk (aG BK21.out hb)
 have n14_:=aA.mk (aG BK32.out hb)
 have n15_:=aA.mk (aJ HB.out hb)
 have n16_:=aA.mk (hf0_)
 have n17_:=aA.mk (hc0_)
 have n18_:=aA.mk (hs0_)
 have n19_:=aA.mk (hf1_)
 have n20_:=aA.mk (hc1_)
 have n21_:=aA.mk (hs1_)
 have n22_:=aA.mk (And.intro HORD.out (And.intro ol_ oh_))
 have n23_:=aA.mk (Nat.le_of_eq eh_)
 (try clear HF18_0)
 (try clear HF18_1)
 (try clear HF20_0)
 (try clear HS20_0)
 (try clear HF20_1)
 (try clear HS20_1)
 (try clear HF32_0)
 (try clear HS32_0)
 (try clear HF32_1)
 (try clear HS32_1)
 (try clear BK1)
 (try clear BK2)
 (try clear BK18)
 (try clear BK21)
 (try clear BK32)
 (try clear HB)
 (try clear HF36_0)
 (try clear HC36_0)
 (try clear HS36_0)
 (try clear HF36_1)
 (try clear HC36_1)
 (try clear HS36_1)
 (try clear HORD)
 (try clear HT)
 have HF18_0:=n0_
 have HF18_1:=n1_
 have HF20_0:=n2_
 have HS20_0:=n3_
 have HF20_1:=n4_
 have HS20_1:=n5_
 have HF32_0:=n6_
 have HS32_0:=n7_
 have HF32_1:=n8_
 have HS32_1:=n9_
 have BK1:=n10_
 have BK2:=n11_
 have BK18:=n12_
 have BK21:=n13_
 have BK32:=n14_
 have HB:=n15_
 have HF36_0:=n16_
 have HC36_0:=n17_
 have HS36_0:=n18_
 have HF36_1:=n19_
 have HC36_1:=n20_
 have HS36_1:=n21_
 have HORD:=n22_
 have HT:=n23_
 clear n0_ n1_ n2_ n3_ n4_ n5_ n6_ n7_ n8_ n9_ n10_ n11_ n12_ n13_ n14_ n15_ n16_ n17_ n18_ n19_ n20_ n21_ n22_ n23_
 clear ol_ oh_ el_ eh_ ho0 hf0_ hc0_ hs0_ ho1 hf1_ hc1_ hs1_
 (try clear hb)
 refine hK.out _ _ ⟨(aB BK21.out 0).trans rfl,(aB BK21.out 1).trans rfl,(aB BK1.out 0).trans rfl,(aB BK1.out 1).trans rfl⟩ (fun hHeld=>?_)
 clear hK K
 refine norm_ (a':=?_) ?_ ?_
 rotate_left
 ·show Act.put _ (some 49) _ = _
  simp only [Act.put,lA,lB,lC,aQ,aR]
  rfl
 refine one_ (i:=3) (N:=some 50) (bq1 15 5) rfl rfl tF tq (fun K hK=>?_)
 refine goes_ Try.func10 tF rfl #[.agg #[.slice A20_0 r2_1.length c20_0,.slice A20_1 r2_2.length c20_1],.agg #[.slice A36_0 r2_1.length c36_0,.slice A36_1 r2_2.length c36_1]] ta rfl rfl tA ?_
 (with_reducible refine (laws_eqTree.calls k7 _ _ r2_1 _ _ r2_2 _ _ r2_1 _ _ r2_2 true _ ?s1 ?s2 ?s3 ?s4 ?s5 ?s6 ?s7 ?s8 Q7.out).mono ?_)
 (case s1=>exact (Kd.F_now HF20_0.out))
 (case s2=>exact HC20_0.out)
 (case s3=>exact (Kd.F_now HF20_1.out))
 (case s4=>exact HC20_1.out)
 (case s5=>exact (Kd.F_now HF36_0.out))
 (case s6=>exact HC36_0.out)
 (case s7=>exact (Kd.F_now HF36_1.out))
 (case s8=>exact HC36_1.out)
 rintro e_ w37 ⟨rfl,hb⟩
 refine ⟨_,rfl,?_⟩
 have n0_:=aA.mk (Kd.aK HF18_0.out hb)
 have n1_:=aA.mk (Kd.aK HF18_1.out hb)
 have n2_:=aA.mk (Kd.aK HF20_0.out hb)
 have n3_:=aA.mk (Kd.R_below HS20_0.out hb)
 have n4_:=aA.mk (Kd.aK HF20_1.out hb)
 have n5_:=aA.mk (Kd.S_below HS20_1.out hb)
 have n6_:=aA.mk (Kd.aK HF32_0.out hb)
 have n7_:=aA.mk (Kd.R_below HS32_0.out hb)
 have n8_:=aA.mk (Kd.aK HF32_1.out hb)
 have n9_:=aA.mk (Kd.S_below HS32_1.out hb)
 have n10_:=aA.mk (aG BK1.out hb)
 have n11_:=aA.mk (aG BK2.out hb)
 have n12_:=aA.mk (aG BK18.out hb)
 have n13_:=aA.mk (aG BK21.out hb)
 have n14_:=aA.mk (aG BK32.out hb)
 have n15_:=aA.mk (aJ HB.out hb)
 have n16_:=aA.mk (Nat.le_trans HT.out hb.size)
 (try clear HF36_0)
 (try clear HS36_0)
 (try clear HC36_0)
 (try clear HF36_1)
 (try clear HS36_1)
 (try clear HC36_1)
 (try clear HF18_0)
 (try clear HF18_1)
 (try clear HF20_0)
 (try clear HS20_0)
 (try clear HF20_1)
 (try clear HS20_1)
 (try clear HF32_0)
 (try clear HS32_0)
 (try clear HF32_1)
 (try clear HS32_1)
 (try clear BK1)
 (try clear BK2)
 (try clear BK18)
 (try clear BK21)
 (try clear BK32)
 (try clear HB)
 (try clear HT)
 have HF18_0:=n0_
 have HF18_1:=n1_
 have HF20_0:=n2_
 have HS20_0:=n3_
 have HF20_1:=n4_
 have HS20_1:=n5_
 have HF32_0:=n6_
 have HS32_0:=n7_
 have HF32_1:=n8_
 have HS32_1:=n9_
 have BK1:=n10_
 have BK2:=n11_
 have BK18:=n12_
 have BK21:=n13_
 have BK32:=n14_
 have HB:=n15_
 have HT:=n16_
 clear n0_ n1_ n2_ n3_ n4_ n5_ n6_ n7_ n8_ n9_ n10_ n11_ n12_ n13_ n14_ n15_ n16_
 (try clear hb)
 refine hK.out _ _ ⟨(aB BK21.out 0).trans rfl,(aB BK21.out 1).trans rfl,(aB BK1.out 0).trans rfl,(aB BK1.out 1).trans rfl⟩ (fun hHeld=>?_)
 clear hK K
 refine norm_ (a':=?_) ?_ ?_
 rotate_left
 ·show Act.put _ (some 50) _ = _
  simp only [Act.put,lA,lB,lC,aQ,aR]
  rfl
 refine pure_ (i:=4) (N:=some 51) (v:=?_) (a':=?_) (bq1 31 5) rfl rfl tF (fun _ _ _ h=>h) (Or.inl ⟨vK,?_⟩) ?_ ?_
 rotate_left
 ·intro w'
  go_simp
  with_reducible rfl
 rotate_left
 ·simp only [Act.put,lA,lB,lC,aQ,aR]
  rfl
 refine done_ tF ?_
 have hzgb1_0_37:w37.cell? ⟨gb1,0,none⟩ = some (.slice A0_0 l0_0.length c0_0):=(aB BK1.out 0).trans rfl
 have hygb1_0_37:=aC BK1.out 0
 have hzgb1_1_37:w37.cell? ⟨gb1,1,none⟩ = some (.slice A0_1 l0_1.length c0_1):=(aB BK1.out 1).trans rfl
 have hygb1_1_37:=aC BK1.out 1
 have hzgb2_0_37:w37.cell? ⟨gb2,0,none⟩ = some (.int .i64 a1_0):=(aB BK2.out 0).trans rfl
 have hygb2_0_37:=aC BK2.out 0
 have hzgb2_1_37:w37.cell? ⟨gb2,1,none⟩ = some (.int .i64 a1_1):=(aB BK2.out 1).trans rfl
 have hygb2_1_37:=aC BK2.out 1
 have hzgb2_2_37:w37.cell? ⟨gb2,2,none⟩ = some (.int .i64 a1_2):=(aB BK2.out 2).trans rfl
 have hygb2_2_37:=aC BK2.out 2
 have hzgb2_3_37:w37.cell? ⟨gb2,3,none⟩ = some (.int .i64 a1_3):=(aB BK2.out 3).trans rfl
 have hygb2_3_37:=aC BK2.out 3
 have hzgb2_4_37:w37.cell? ⟨gb2,4,none⟩ = some (.int .i64 a1_4):=(aB BK2.out 4).trans rfl
 have hygb2_4_37:=aC BK2.out 4
 have hzgb18_0_37:w37.cell? ⟨gb18,0,none⟩ = some (.slice A18_2 r4_1.length c18_2):=(aB BK18.out 0).trans rfl
 have hygb18_0_37:=aC BK18.out 0
 have hzgb18_1_37:w37.cell? ⟨gb18,1,none⟩ = some (.slice A18_3 r4_2.length c18_3):=(aB BK18.out 1).trans rfl
 have hygb18_1_37:=aC BK18.out 1
 have hzgb21_0_37:w37.cell? ⟨gb21,0,none⟩ = some (.slice A20_0 r2_1.length c20_0):=(aB BK21.out 0).trans rfl
 have hygb21_0_37:=aC BK21.out 0
 have hzgb21_1_37:w37.cell? ⟨gb21,1,none⟩ = some (.slice A20_1 r2_2.length c20_1):=(aB BK21.out 1).trans rfl
 have hygb21_1_37:=aC BK21.out 1
 have hzgb32_0_37:w37.cell? ⟨gb32,0,none⟩ = some (.slice A32_0 r4_1.length c32_0):=(aB BK32.out 0).trans rfl
 have hygb32_0_37:=aC BK32.out 0
 have hzgb32_1_37:w37.cell? ⟨gb32,1,none⟩ = some (.slice A32_1 r4_2.length c32_1):=(aB BK32.out 1).trans rfl
 have hygb32_1_37:=aC BK32.out 1
 go_wp2_with (first|((with_reducible refine aT (f:=11) rfl ?_);refine goesL_ (some 54) rfl rfl Try.func11 tF rfl #[.agg #[.slice A20_0 r2_1.length c20_0,.slice A20_1 r2_2.length c20_1],.int .i64 1] rfl tA ?_;(with_reducible refine (laws_markTree.calls (In lo20 hi20) (In lo20 hi20) (.slice A20_0 r2_1.length c20_0) (.slice A20_1 r2_2.length c20_1) r2_1 r2_2 1 r8_1 r8_2 r8_3 w _ ?s1 ?s2 ?s3 Q8.out).mono ?_);(case s1=>exact HB.out);(case s2=>exact Kd.R_lower HS20_0.out t6);(case s3=>exact Kd.S_lower HS20_1.out t6);rintro e_ w38 ⟨rfl,ho0,ho1,hbn_,hkp⟩;refine ⟨_,rfl,?_⟩;have hkq:Kept w37 w38 (In lo20 hi20):=Kept.mono hkp (fun k_ h_=>by first|exact h_|(have o_:=HORD.out;(try unfold In at *);omega));have n0_:=aA.mk (Kd.F_kept HF18_0.out hkq tV);have n1_:=aA.mk (Kd.F_kept HF18_1.out hkq tV);have n2_:=aA.mk (Kd.F_kept HF32_0.out hkq v7);have n3_:=aA.mk (Kd.R_kept HS32_0.out hkq v7);have n4_:=aA.mk (Kd.F_kept HF32_1.out hkq v7);have n5_:=aA.mk (Kd.S_kept HS32_1.out hkq v7);have n6_:=aA.mk (blk_kept BK1.out hkq t8);have n7_:=aA.mk (blk_kept BK2.out hkq t8);have n8_:=aA.mk (blk_kept BK18.out hkq t8);have n9_:=aA.mk (blk_kept BK21.out hkq t8);have n10_:=aA.mk (blk_kept BK32.out hkq t8);have n11_:=aA.mk (hbn_);have n12_:=aA.mk (Nat.le_trans HT.out hkq.1);(try clear HF20_0);(try clear HS20_0);(try clear HC20_0);(try clear HF20_1);(try clear HS20_1);(try clear HC20_1);(try clear HF18_0);(try clear HF18_1);(try clear HF32_0);(try clear HS32_0);(try clear HF32_1);(try clear HS32_1);(try clear BK1);(try clear BK2);(try clear BK18);(try clear BK21);(try clear BK32);(try clear HB);(try clear HT);have HF18_0:=n0_;have HF18_1:=n1_;have HF32_0:=n2_;have HS32_0:=n3_;have HF32_1:=n4_;have HS32_1:=n5_;have BK1:=n6_;have BK2:=n7_;have BK18:=n8_;have BK21:=n9_;have BK32:=n10_;have HB:=n11_;have HT:=n12_;clear n0_ n1_ n2_ n3_ n4_ n5_ n6_ n7_ n8_ n9_ n10_ n11_ n12_;clear hbn_ hkp hkq ho0 ho1;have hzgb1_0_38:w38.cell? ⟨gb1,0,none⟩ = some (.slice A0_0 l0_0.length c0_0):=(aB BK1.out 0).trans rfl;have hygb1_0_38:=aC BK1.out 0;have hzgb1_1_38:w38.cell? ⟨gb1,1,none⟩ = some (.slice A0_1 l0_1.length c0_1):=(aB BK1.out 1).trans rfl;have hygb1_1_38:=aC BK1.out 1;have hzgb2_0_38:w38.cell? ⟨gb2,0,none⟩ = some (.int .i64 a1_0):=(aB BK2.out 0).trans rfl;have hygb2_0_38:=aC BK2.out 0;have hzgb2_1_38:w38.cell? ⟨gb2,1,none⟩ = some (.int .i64 a1_1):=(aB BK2.out 1).trans rfl;have hygb2_1_38:=aC BK2.out 1;have hzgb2_2_38:w38.cell? ⟨gb2,2,none⟩ = some (.int .i64 a1_2):=(aB BK2.out 2).trans rfl;have hygb2_2_38:=aC BK2.out 2;have hzgb2_3_38:w38.cell? ⟨gb2,3,none⟩ = some (.int .i64 a1_3):=(aB BK2.out 3).trans rfl;have hygb2_3_38:=aC BK2.out 3;have hzgb2_4_38:w38.cell? ⟨gb2,4,none⟩ = some (.int .i64 a1_4):=(aB BK2.out 4).trans rfl;have hygb2_4_38:=aC BK2.out 4;have hzgb18_0_38:w38.cell? ⟨gb18,0,none⟩ = some (.slice A18_2 r4_1.length c18_2):=(aB BK18.out 0).trans rfl;have hygb18_0_38:=aC BK18.out 0;have hzgb18_1_38:w38.cell? ⟨gb18,1,none⟩ = some (.slice A18_3 r4_2.length c18_3):=(aB BK18.out 1).trans rfl;have hygb18_1_38:=aC BK18.out 1;have hzgb21_0_38:w38.cell? ⟨gb21,0,none⟩ = some (.slice A20_0 r2_1.length c20_0):=(aB BK21.out 0).trans rfl;have hygb21_0_38:=aC BK21.out 0;have hzgb21_1_38:w38.cell? ⟨gb21,1,none⟩ = some (.slice A20_1 r2_2.length c20_1):=(aB BK21.out 1).trans rfl;have hygb21_1_38:=aC BK21.out 1;have hzgb32_0_38:w38.cell? ⟨gb32,0,none⟩ = some (.slice A32_0 r4_1.length c32_0):=(aB BK32.out 0).trans rfl;have hygb32_0_38:=aC BK32.out 0;have hzgb32_1_38:w38.cell? ⟨gb32,1,none⟩ = some (.slice A32_1 r4_2.length c32_1):=(aB BK32.out 1).trans rfl;have hygb32_1_38:=aC BK32.out 1)|((with_reducible refine aT (f:=10) rfl ?_);refine gate_guard (by first|rfl|kernel_rfl) ?_;refine goesL_ (some 60) rfl rfl Try.func10 tF rfl #[.agg #[.slice A32_0 r4_1.length c32_0,.slice A32_1 r4_2.length c32_1],.agg #[.slice A18_2 r4_1.length c18_2,.slice A18_3 r4_2.length c18_3]] rfl tA ?_;(with_reducible refine (laws_eqTree.calls k6 _ _ r4_1 _ _ r4_2 _ _ r4_1 _ _ r4_2 true _ ?s1 ?s2 ?s3 ?s4 ?s5 ?s6 ?s7 ?s8 Q6.out).mono ?_);(case s1=>exact (Kd.F_now HF32_0.out));(case s2=>exact HC32_0.out);(case s3=>exact (Kd.F_now HF32_1.out));(case s4=>exact HC32_1.out);(case s5=>exact (Kd.F_now HF18_0.out));(case s6=>exact HC18_0.out);(case s7=>exact (Kd.F_now HF18_1.out));(case s8=>exact HC18_1.out);rintro e_ w39 ⟨rfl,hb⟩;refine ⟨_,rfl,?_⟩;have n0_:=aA.mk (Kd.aK HF18_0.out hb);have n1_:=aA.mk (Kd.aK HF18_1.out hb);have n2_:=aA.mk (Kd.aK HF32_0.out hb);have n3_:=aA.mk (Kd.R_below HS32_0.out hb);have n4_:=aA.mk (Kd.aK HF32_1.out hb);have n5_:=aA.mk (Kd.S_below HS32_1.out hb);have n6_:=aA.mk (aG BK1.out hb);have n7_:=aA.mk (aG BK2.out hb);have n8_:=aA.mk (aG BK18.out hb);have n9_:=aA.mk (aG BK21.out hb);have n10_:=aA.mk (aG BK32.out hb);have n11_:=aA.mk (aJ HB.out hb);have n12_:=aA.mk (Nat.le_trans HT.out hb.size);(try clear HF18_0);(try clear HF18_1);(try clear HF32_0);(try clear HS32_0);(try clear HF32_1);(try clear HS32_1);(try clear BK1);(try clear BK2);(try clear BK18);(try clear BK21);(try clear BK32);(try clear HB);(try clear HT);have HF18_0:=n0_;have HF18_1:=n1_;have HF32_0:=n2_;have HS32_0:=n3_;have HF32_1:=n4_;have HS32_1:=n5_;have BK1:=n6_;have BK2:=n7_;have BK18:=n8_;have BK21:=n9_;have BK32:=n10_;have HB:=n11_;have HT:=n12_;clear n0_ n1_ n2_ n3_ n4_ n5_ n6_ n7_ n8_ n9_ n10_ n11_ n12_;(try clear hb);have hzgb1_0_39:w39.cell? ⟨gb1,0,none⟩ = some (.slice A0_0 l0_0.length c0_0):=(aB BK1.out 0).trans rfl;have hygb1_0_39:=aC BK1.out 0;have hzgb1_1_39:w39.cell? ⟨gb1,1,none⟩ = some (.slice A0_1 l0_1.length c0_1):=(aB BK1.out 1).trans rfl;have hygb1_1_39:=aC BK1.out 1;have hzgb2_0_39:w39.cell? ⟨gb2,0,none⟩ = some (.int .i64 a1_0):=(aB BK2.out 0).trans rfl;have hygb2_0_39:=aC BK2.out 0;have hzgb2_1_39:w39.cell? ⟨gb2,1,none⟩ = some (.int .i64 a1_1):=(aB BK2.out 1).trans rfl;have hygb2_1_39:=aC BK2.out 1;have hzgb2_2_39:w39.cell? ⟨gb2,2,none⟩ = some (.int .i64 a1_2):=(aB BK2.out 2).trans rfl;have hygb2_2_39:=aC BK2.out 2;have hzgb2_3_39:w39.cell? ⟨gb2,3,none⟩ = some (.int .i64 a1_3):=(aB BK2.out 3).trans rfl;have hygb2_3_39:=aC BK2.out 3;have hzgb2_4_39:w39.cell? ⟨gb2,4,none⟩ = some (.int .i64 a1_4):=(aB BK2.out 4).trans rfl;have hygb2_4_39:=aC BK2.out 4;have hzgb18_0_39:w39.cell? ⟨gb18,0,none⟩ = some (.slice A18_2 r4_1.length c18_2):=(aB BK18.out 0).trans rfl;have hygb18_0_39:=aC BK18.out 0;have hzgb18_1_39:w39.cell? ⟨gb18,1,none⟩ = some (.slice A18_3 r4_2.length c18_3):=(aB BK18.out 1).trans rfl;have hygb18_1_39:=aC BK18.out 1;have hzgb21_0_39:w39.cell? ⟨gb21,0,none⟩ = some (.slice A20_0 r2_1.length c20_0):=(aB BK21.out 0).trans rfl;have hygb21_0_39:=aC BK21.out 0;have hzgb21_1_39:w39.cell? ⟨gb21,1,none⟩ = some (.slice A20_1 r2_2.length c20_1):=(aB BK21.out 1).trans rfl;have hygb21_1_39:=aC BK21.out 1;have hzgb32_0_39:w39.cell? ⟨gb32,0,none⟩ = some (.slice A32_0 r4_1.length c32_0):=(aB BK32.out 0).trans rfl;have hygb32_0_39:=aC BK32.out 0;have hzgb32_1_39:w39.cell? ⟨gb32,1,none⟩ = some (.slice A32_1 r4_2.length c32_1):=(aB BK32.out 1).trans rfl;have hygb32_1_39:=aC BK32.out 1)|((with_reducible refine aT (f:=11) rfl ?_);refine goesL_ (some 70) rfl rfl Try.func11 tF rfl #[.agg #[.slice A32_0 r4_1.length c32_0,.slice A32_1 r4_2.length c32_1],.int .i64 1] rfl tA ?_;(with_reducible refine (laws_markTree.calls (In lo32 hi32) (In lo32 hi32) (.slice A32_0 r4_1.length c32_0) (.slice A32_1 r4_2.length c32_1) r4_1 r4_2 1 r9_1 r9_2 r9_3 w _ ?s1 ?s2 ?s3 Q9.out).mono ?_);(case s1=>exact HB.out);(case s2=>exact Kd.R_lower HS32_0.out t6);(case s3=>exact Kd.S_lower HS32_1.out t6);rintro e_ w40 ⟨rfl,ho0,ho1,hbn_,hkp⟩;refine ⟨_,rfl,?_⟩;have hkq:Kept w39 w40 (In lo32 hi32):=Kept.mono hkp (fun k_ h_=>by first|exact h_|(have o_:=HORD.out;(try unfold In at *);omega));obtain ⟨hi40,e2_⟩:∃ n_,n_ = w40.heap.size:=⟨_,rfl⟩;have ol_:hi36 ≤ hi40:=(by rw [e2_];exact Nat.le_trans HT.out hkq.1);obtain ⟨he0_,hc0_,hf0_⟩:=Mem.back_V (h2:=hi40) (lo:=lo32) ho0 (fun k_ h_=>by have o_:=HORD.out;have t_:=HT.out;(try unfold In at *);omega) e2_;obtain ⟨he1_,hc1_,hf1_⟩:=Mem.back_V (h2:=hi40) (lo:=lo32) ho1 (fun k_ h_=>by have o_:=HORD.out;have t_:=HT.out;(try unfold In at *);omega) e2_;have n0_:=aA.mk (Kd.F_kept HF18_0.out hkq tV);have n1_:=aA.mk (Kd.F_kept HF18_1.out hkq tV);have n2_:=aA.mk (blk_kept BK1.out hkq t8);have n3_:=aA.mk (blk_kept BK2.out hkq t8);have n4_:=aA.mk (blk_kept BK18.out hkq t8);have n5_:=aA.mk (blk_kept BK21.out hkq t8);have n6_:=aA.mk (blk_kept BK32.out hkq t8);have n7_:=aA.mk (hbn_);have n8_:=aA.mk (And.intro HORD.out ol_);have n9_:=aA.mk (Nat.le_of_eq e2_);have n10_:=aA.mk (he0_);have n11_:=aA.mk (hf0_);have n12_:=aA.mk (hc0_);have n13_:=aA.mk (he1_);have n14_:=aA.mk (hf1_);have n15_:=aA.mk (hc1_);(try clear HF18_0);(try clear HF18_1);(try clear BK1);(try clear BK2);(try clear BK18);(try clear BK21);(try clear BK32);(try clear HB);(try clear HORD);(try clear HT);(try clear HL40_0);(try clear HF40_0);(try clear HC40_0);(try clear HL40_1);(try clear HF40_1);(try clear HC40_1);have HF18_0:=n0_;have HF18_1:=n1_;have BK1:=n2_;have BK2:=n3_;have BK18:=n4_;have BK21:=n5_;have BK32:=n6_;have HB:=n7_;have HORD:=n8_;have HT:=n9_;have HL40_0:=n10_;have HF40_0:=n11_;have HC40_0:=n12_;have HL40_1:=n13_;have HF40_1:=n14_;have HC40_1:=n15_;clear n0_ n1_ n2_ n3_ n4_ n5_ n6_ n7_ n8_ n9_ n10_ n11_ n12_ n13_ n14_ n15_;clear ol_ e2_ hbn_ hkp hkq ho0 he0_ hc0_ hf0_ ho1 he1_ hc1_ hf1_;have hzgb1_0_40:w40.cell? ⟨gb1,0,none⟩ = some (.slice A0_0 l0_0.length c0_0):=(aB BK1.out 0).trans rfl;have hygb1_0_40:=aC BK1.out 0;have hzgb1_1_40:w40.cell? ⟨gb1,1,none⟩ = some (.slice A0_1 l0_1.length c0_1):=(aB BK1.out 1).trans rfl;have hygb1_1_40:=aC BK1.out 1;have hzgb2_0_40:w40.cell? ⟨gb2,0,none⟩ = some (.int .i64 a1_0):=(aB BK2.out 0).trans rfl;have hygb2_0_40:=aC BK2.out 0;have hzgb2_1_40:w40.cell? ⟨gb2,1,none⟩ = some (.int .i64 a1_1):=(aB BK2.out 1).trans rfl;have hygb2_1_40:=aC BK2.out 1;have hzgb2_2_40:w40.cell? ⟨gb2,2,none⟩ = some (.int .i64 a1_2):=(aB BK2.out 2).trans rfl;have hygb2_2_40:=aC BK2.out 2;have hzgb2_3_40:w40.cell? ⟨gb2,3,none⟩ = some (.int .i64 a1_3):=(aB BK2.out 3).trans rfl;have hygb2_3_40:=aC BK2.out 3;have hzgb2_4_40:w40.cell? ⟨gb2,4,none⟩ = some (.int .i64 a1_4):=(aB BK2.out 4).trans rfl;have hygb2_4_40:=aC BK2.out 4;have hzgb18_0_40:w40.cell? ⟨gb18,0,none⟩ = some (.slice A18_2 r4_1.length c18_2):=(aB BK18.out 0).trans rfl;have hygb18_0_40:=aC BK18.out 0;have hzgb18_1_40:w40.cell? ⟨gb18,1,none⟩ = some (.slice A18_3 r4_2.length c18_3):=(aB BK18.out 1).trans rfl;have hygb18_1_40:=aC BK18.out 1;have hzgb21_0_40:w40.cell? ⟨gb21,0,none⟩ = some (.slice A20_0 r2_1.length c20_0):=(aB BK21.out 0).trans rfl;have hygb21_0_40:=aC BK21.out 0;have hzgb21_1_40:w40.cell? ⟨gb21,1,none⟩ = some (.slice A20_1 r2_2.length c20_1):=(aB BK21.out 1).trans rfl;have hygb21_1_40:=aC BK21.out 1;have hzgb32_0_40:w40.cell? ⟨gb32,0,none⟩ = some (.slice A32_0 r4_1.length c32_0):=(aB BK32.out 0).trans rfl;have hygb32_0_40:=aC BK32.out 0;have hzgb32_1_40:w40.cell? ⟨gb32,1,none⟩ = some (.slice A32_1 r4_2.length c32_1):=(aB BK32.out 1).trans rfl;have hygb32_1_40:=aC BK32.out 1)|((with_reducible refine aT (f:=12) rfl ?_);refine goesL_ (some 73) rfl rfl Try.func12 tF rfl #[.agg #[.slice A32_0 r4_1.length c32_0,.slice A32_1 r4_2.length c32_1],.int .i64 1] rfl tA ?_;refine calls_of_args (args':=#[.agg #[.slice A32_0 r9_2.length c32_0,.slice A32_1 r9_3.length c32_1],.int .i64 1]) (by simp only [HL40_0.out,HL40_1.out]) ?_;(with_reducible refine (laws_heldTree.calls k10 _ _ r9_2 _ _ r9_3 1 r9_1 _ ?s1 ?s2 ?s3 ?s4 Q10.out).mono ?_);(case s1=>exact (Kd.F_now HF40_0.out));(case s2=>exact HC40_0.out);(case s3=>exact (Kd.F_now HF40_1.out));(case s4=>exact HC40_1.out);rintro e_ w41 ⟨rfl,hb⟩;refine ⟨_,rfl,?_⟩;have n0_:=aA.mk (Kd.aK HF18_0.out hb);have n1_:=aA.mk (Kd.aK HF18_1.out hb);have n2_:=aA.mk (Kd.aK HF40_0.out hb);have n3_:=aA.mk (Kd.aK HF40_1.out hb);have n4_:=aA.mk (aG BK1.out hb);have n5_:=aA.mk (aG BK2.out hb);have n6_:=aA.mk (aG BK18.out hb);have n7_:=aA.mk (aG BK21.out hb);have n8_:=aA.mk (aG BK32.out hb);have n9_:=aA.mk (aJ HB.out hb);have n10_:=aA.mk (Nat.le_trans HT.out hb.size);(try clear HF18_0);(try clear HF18_1);(try clear HF40_0);(try clear HF40_1);(try clear BK1);(try clear BK2);(try clear BK18);(try clear BK21);(try clear BK32);(try clear HB);(try clear HT);have HF18_0:=n0_;have HF18_1:=n1_;have HF40_0:=n2_;have HF40_1:=n3_;have BK1:=n4_;have BK2:=n5_;have BK18:=n6_;have BK21:=n7_;have BK32:=n8_;have HB:=n9_;have HT:=n10_;clear n0_ n1_ n2_ n3_ n4_ n5_ n6_ n7_ n8_ n9_ n10_;(try clear hb);have hzgb1_0_41:w41.cell? ⟨gb1,0,none⟩ = some (.slice A0_0 l0_0.length c0_0):=(aB BK1.out 0).trans rfl;have hygb1_0_41:=aC BK1.out 0;have hzgb1_1_41:w41.cell? ⟨gb1,1,none⟩ = some (.slice A0_1 l0_1.length c0_1):=(aB BK1.out 1).trans rfl;have hygb1_1_41:=aC BK1.out 1;have hzgb2_0_41:w41.cell? ⟨gb2,0,none⟩ = some (.int .i64 a1_0):=(aB BK2.out 0).trans rfl;have hygb2_0_41:=aC BK2.out 0;have hzgb2_1_41:w41.cell? ⟨gb2,1,none⟩ = some (.int .i64 a1_1):=(aB BK2.out 1).trans rfl;have hygb2_1_41:=aC BK2.out 1;have hzgb2_2_41:w41.cell? ⟨gb2,2,none⟩ = some (.int .i64 a1_2):=(aB BK2.out 2).trans rfl;have hygb2_2_41:=aC BK2.out 2;have hzgb2_3_41:w41.cell? ⟨gb2,3,none⟩ = some (.int .i64 a1_3):=(aB BK2.out 3).trans rfl;have hygb2_3_41:=aC BK2.out 3;have hzgb2_4_41:w41.cell? ⟨gb2,4,none⟩ = some (.int .i64 a1_4):=(aB BK2.out 4).trans rfl;have hygb2_4_41:=aC BK2.out 4;have hzgb18_0_41:w41.cell? ⟨gb18,0,none⟩ = some (.slice A18_2 r4_1.length c18_2):=(aB BK18.out 0).trans rfl;have hygb18_0_41:=aC BK18.out 0;have hzgb18_1_41:w41.cell? ⟨gb18,1,none⟩ = some (.slice A18_3 r4_2.length c18_3):=(aB BK18.out 1).trans rfl;have hygb18_1_41:=aC BK18.out 1;have hzgb21_0_41:w41.cell? ⟨gb21,0,none⟩ = some (.slice A20_0 r2_1.length c20_0):=(aB BK21.out 0).trans rfl;have hygb21_0_41:=aC BK21.out 0;have hzgb21_1_41:w41.cell? ⟨gb21,1,none⟩ = some (.slice A20_1 r2_2.length c20_1):=(aB BK21.out 1).trans rfl;have hygb21_1_41:=aC BK21.out 1;have hzgb32_0_41:w41.cell? ⟨gb32,0,none⟩ = some (.slice A32_0 r4_1.length c32_0):=(aB BK32.out 0).trans rfl;have hygb32_0_41:=aC BK32.out 0;have hzgb32_1_41:w41.cell? ⟨gb32,1,none⟩ = some (.slice A32_1 r4_2.length c32_1):=(aB BK32.out 1).trans rfl;have hygb32_1_41:=aC BK32.out 1))
 have n_:=aA.mk (Kd.F_drew HF18_0.out)
 clear HF18_0
 have HF18_0:=n_
 clear n_
 have n_:=aA.mk (Kd.F_drew HF18_1.out)
 clear HF18_1
 have HF18_1:=n_
 clear n_
 have n_:=aA.mk (Kd.F_drew HF40_0.out)
 clear HF40_0
 have HF40_0:=n_
 clear n_
 have n_:=aA.mk (Kd.F_drew HF40_1.out)
 clear HF40_1
 have HF40_1:=n_
 clear n_
 have n_:=aA.mk (aL BK1.out)
 clear BK1
 have BK1:=n_
 clear n_
 have n_:=aA.mk (aL BK2.out)
 clear BK2
 have BK2:=n_
 clear n_
 have n_:=aA.mk (aL BK18.out)
 clear BK18
 have BK18:=n_
 clear n_
 have n_:=aA.mk (aL BK21.out)
 clear BK21
 have BK21:=n_
 clear n_
 have n_:=aA.mk (aL BK32.out)
 clear BK32
 have BK32:=n_
 clear n_
 have n_:=aA.mk (aE HB.out)
 clear HB
 have HB:=n_
 clear n_
 have n_:=aA.mk (show _ ≤ w41.drew.heap.size from HT.out)
 clear HT
 have HT:=n_
 clear n_
 refine start_ (n:=11) (S:=fun w'=>w'.cell? ⟨gb1,0,none⟩ = some (.slice A0_0 l0_0.length c0_0) ∧ w'.cell? ⟨gb1,1,none⟩ = some (.slice A0_1 l0_1.length c0_1) ∧ w'.cell? ⟨gb2,0,none⟩ = some (.int .i64 a1_0) ∧ w'.cell? ⟨gb2,1,none⟩ = some (.int .i64 a1_1) ∧ w'.cell? ⟨gb2,2,none⟩ = some (.int .i64 a1_2) ∧ w'.cell? ⟨gb2,3,none⟩ = some (.int .i64 a1_3) ∧ w'.cell? ⟨gb2,4,none⟩ = some (.int .i64 a1_4)) (ds:=[9]) #[F0,F0,F0,F0,F0,F0,F0,F0,F0,F0,F0] tF rfl rfl ⟨(aB BK1.out 0).trans rfl,(aB BK1.out 1).trans rfl,(aB BK2.out 0).trans rfl,(aB BK2.out 1).trans rfl,(aB BK2.out 2).trans rfl,(aB BK2.out 3).trans rfl,(aB BK2.out 4).trans rfl⟩ (fun hHeld=>?_)
 generalize w41.drew = w42 at HF18_0 HF18_1 HF40_0 HF40_1 BK1 BK2 BK18 BK21 BK32 HB HT hHeld ⊢
 refine take_ (i:=0) (N:=some 80) (v:=?_) (a':=?_) (bq1 1 11) rfl rfl tF (fun _ _ _ h=>h) (Or.inl ⟨vK,?_⟩) hHeld ?_ ?_
 rotate_left
 ·rintro w' ⟨s0,s1,s2,s3,s4,s5,s6⟩
  go_simp
  with_reducible rfl
 rotate_left
 ·simp only [Act.put,lA,lB,lC,aQ,aR]
  rfl
 refine take_ (i:=2) (N:=some 82) (v:=?_) (a':=?_) (bq1 5 11) rfl rfl tF (fun _ _ _ h=>h) (Or.inl ⟨vK,?_⟩) hHeld ?_ ?_
 rotate_left
 ·rintro w' ⟨s0,s1,s2,s3,s4,s5,s6⟩
  go_simp
  with_reducible rfl
 rotate_left
 ·simp only [Act.put,lA,lB,lC,aQ,aR]
  rfl
 refine join_ (σ:=Nat × Nat × Nat × Option Addr × Nat × Option Addr × Nat × Option Addr × Nat × Option Addr × Nat) 2 (bq1 511 11) (fun s_=>[(81,.agg #[.slice s_.2.2.2.1 r2_1.length s_.2.2.2.2.1,.slice s_.2.2.2.2.2.1 r2_2.length s_.2.2.2.2.2.2.1]),(83,.agg #[.int .i64 r3_1,.int .i64 r3_2,.int .i64 r3_3,.int .i64 r3_4,.int .i64 r3_5]),(84,.tuple #[.agg #[.slice s_.2.2.2.2.2.2.2.1 r4_1.length s_.2.2.2.2.2.2.2.2.1,.slice s_.2.2.2.2.2.2.2.2.2.1 r4_2.length s_.2.2.2.2.2.2.2.2.2.2],.bool r4_3]),(79,.tuple #[.agg #[.slice s_.2.2.2.2.2.2.2.1 r4_1.length s_.2.2.2.2.2.2.2.2.1,.slice s_.2.2.2.2.2.2.2.2.2.1 r4_2.length s_.2.2.2.2.2.2.2.2.2.2],.bool r4_3]),(85,.agg #[.slice s_.2.2.2.2.2.2.2.1 r4_1.length s_.2.2.2.2.2.2.2.2.1,.slice s_.2.2.2.2.2.2.2.2.2.1 r4_2.length s_.2.2.2.2.2.2.2.2.2.2]),(86,.bool r4_3),(14,.pointer (some ⟨s_.1,0,none⟩))]) (fun s_ w'=>(w'.cell? ⟨gb1,0,none⟩ = some (.slice A0_0 l0_0.length c0_0) ∧ w'.cell? ⟨gb1,1,none⟩ = some (.slice A0_1 l0_1.length c0_1) ∧ w'.cell? ⟨gb2,0,none⟩ = some (.int .i64 a1_0) ∧ w'.cell? ⟨gb2,1,none⟩ = some (.int .i64 a1_1) ∧ w'.cell? ⟨gb2,2,none⟩ = some (.int .i64 a1_2) ∧ w'.cell? ⟨gb2,3,none⟩ = some (.int .i64 a1_3) ∧ w'.cell? ⟨gb2,4,none⟩ = some (.int .i64 a1_4)) ∧ aA (Kd.F (Kd.int .i64) w' (InG lo18 hi18 gb18) A18_2 r4_1.length r4_1) ∧ aA (Kd.F k59 w' (InG lo18 hi18 gb18) A18_3 r4_2.length r4_2) ∧ aA (Kd.F (Kd.int .i64) w' (In lo32 hi40) A32_0 r9_2.length r9_2) ∧ aA (Kd.F k59D w' (In lo32 hi40) A32_1 r9_3.length r9_3) ∧ aA (w'.heap[gb1]? = some (.cells #[.slice A0_0 l0_0.length c0_0,.slice A0_1 l0_1.length c0_1] 25 (0,0))) ∧ aA (w'.heap[gb2]? = some (.cells #[.int .i64 a1_0,.int .i64 a1_1,.int .i64 a1_2,.int .i64 a1_3,.int .i64 a1_4] 48 (0,0))) ∧ aA (w'.heap[gb18]? = some (.cells #[.slice A18_2 r4_1.length c18_2,.slice A18_3 r4_2.length c18_3] 29 (0,0))) ∧ aA (w'.heap[gb21]? = some (.cells #[.slice A20_0 r2_1.length c20_0,.slice A20_1 r2_2.length c20_1] 29 (0,0))) ∧ aA (w'.heap[gb32]? = some (.cells #[.slice A32_0 r4_1.length c32_0,.slice A32_1 r4_2.length c32_1] 29 (0,0))) ∧ aA (Below w.heap.size w w') ∧ aA (w'.heap[s_.1]? = some (.cells #[.slice none 0 0,.slice none 0 0] 29 (0,0))) ∧ aA ((hi40 ≤ s_.1 ∧ hi40 ≤ s_.2.1) ∧ (s_.2.1 ≤ s_.2.2.1) ∧ (s_.1 < s_.2.1 ∨ s_.2.2.1 ≤ s_.1) ∧ s_.1 + 1 ≤ w'.heap.size ∧ s_.2.2.1 ≤ w'.heap.size) ∧ aA (Kd.F (Kd.int .i64) w' (In s_.2.1 s_.2.2.1) s_.2.2.2.2.2.2.2.1 r4_1.length r4_1) ∧ aA (r4_1.length ≤ s_.2.2.2.2.2.2.2.2.1) ∧ aA (Kd.R (Kd.int .i64) 3 w' w.heap.size (In s_.2.1 s_.2.2.1) (.slice s_.2.2.2.2.2.2.2.1 r4_1.length s_.2.2.2.2.2.2.2.2.1) r4_1) ∧ aA (Kd.F k59D w' (In s_.2.1 s_.2.2.1) s_.2.2.2.2.2.2.2.2.2.1 r4_2.length r4_2) ∧ aA (r4_2.length ≤ s_.2.2.2.2.2.2.2.2.2.2) ∧ aA (Kd.S k59D 59 w' w.heap.size (In s_.2.1 s_.2.2.1) (.slice s_.2.2.2.2.2.2.2.2.2.1 r4_2.length s_.2.2.2.2.2.2.2.2.2.2) r4_2)) ?_ ?_
 rotate_left
 ·intro hCont
  refine two_ (i:=1) (j:=8) (Ni:=some 81) (Nj:=some 14) (bq1 7 11) #[T1,F0,T1,F0,F0,F0,F0,F0,T1,F0,F0] rfl rfl rfl rfl tF tq tq (fun K hK=>?_) (fun K hK=>?_)
  ·skip
   refine goes_ Try.func8 tF rfl #[.agg #[.slice A0_0 l0_0.length c0_0,.slice A0_1 l0_1.length c0_1]] ta rfl rfl tA ?_
   (with_reducible refine (laws_toTree.calls k2 _ _ l0_0 _ _ l0_1 r2_1 r2_2 _ ?s1 ?s2 ?s3 ?s4 Q2.out).mono ?_)
   (case s1=>exact wF)
   (case s2=>exact HC0_0.out)
   (case s3=>exact wE)
   (case s4=>exact HC0_1.out)
   rintro e_ w43 ⟨v0_,v1_,rfl,ho0,ho1,hb⟩
   refine ⟨_,rfl,?_⟩
   obtain ⟨lo43,hi43,el_,eh_,ol_,oh_⟩:=Mem.times HT.out hb
   (try rw [← el_] at ho0)
   obtain ⟨A43_0,c43_0,ev_,hc0_,hf0_,hs0_⟩:=Mem.new_R ho0 eh_
   subst ev_
   (try rw [← el_] at ho1)
   obtain ⟨A43_1,c43_1,ev_,hc1_,hf1_,hs1_⟩:=Mem.new_S ho1 eh_
   subst ev_
   have n0_:=aA.mk (Kd.aK HF18_0.out hb)
   have n1_:=aA.mk (Kd.aK HF18_1.out hb)
   have n2_:=aA.mk (Kd.aK HF40_0.out hb)
   have n3_:=aA.mk (Kd.aK HF40_1.out hb)
   have n4_:=aA.mk (aG BK1.out hb)
   have n5_:=aA.mk (aG BK2.out hb)
   have n6_:=aA.mk (aG BK18.out hb)
   have n7_:=aA.mk (aG BK21.out hb)
   have n8_:=aA.mk (aG BK32.out hb)
   have n9_:=aA.mk (aJ HB.out hb)
   have n10_:=aA.mk (hf0_)
   have n11_:=aA.mk (hc0_)
   have n12_:=aA.mk (hs0_)
   have n13_:=aA.mk (hf1_)
   have n14_:=aA.mk (hc1_)
   have n15_:=aA.mk (hs1_)
   have n16_:=aA.mk (And.intro HORD.out (And.intro ol_ oh_))
   have n17_:=aA.mk (Nat.le_of_eq eh_)
   (try clear HF18_0)
   (try clear HF18_1)
   (try clear HF40_0)
   (try clear HF40_1)
   (try clear BK1)
   (try clear BK2)
   (try clear BK18)
   (try clear BK21)
   (try clear BK32)
   (try clear HB)
   (try clear HF43_0)
   (try clear HC43_0)
   (try clear HS43_0)
   (try clear HF43_1)
   (try clear HC43_1)
   (try clear HS43_1)
   (try clear HORD)
   (try clear HT)
   have HF18_0:=n0_
   have HF18_1:=n1_
   have HF40_0:=n2_
   have HF40_1:=n3_
   have BK1:=n4_
   have BK2:=n5_
   have BK18:=n6_
   have BK21:=n7_
   have BK32:=n8_
   have HB:=n9_
   have HF43_0:=n10_
   have HC43_0:=n11_
   have HS43_0:=n12_
   have HF43_1:=n13_
   have HC43_1:=n14_
   have HS43_1:=n15_
   have HORD:=n16_
   have HT:=n17_
   clear n0_ n1_ n2_ n3_ n4_ n5_ n6_ n7_ n8_ n9_ n10_ n11_ n12_ n13_ n14_ n15_ n16_ n17_
   clear ol_ oh_ el_ eh_ ho0 hf0_ hc0_ hs0_ ho1 hf1_ hc1_ hs1_
   (try clear hb)
   refine hK.out _ _ ⟨(aB BK1.out 0).trans rfl,(aB BK1.out 1).trans rfl,(aB BK2.out 0).trans rfl,(aB BK2.out 1).trans rfl,(aB BK2.out 2).trans rfl,(aB BK2.out 3).trans rfl,(aB BK2.out 4).trans rfl⟩ (fun hHeld=>?_)
   clear hK K
   refine norm_ (a':=?_) ?_ ?_
   rotate_left
   ·show Act.put _ (some 81) _ = _
    simp only [Act.put,lA,lB,lC,aQ,aR]
    rfl
   refine two_ (i:=3) (j:=8) (Ni:=some 83) (Nj:=some 14) (bq1 15 11) #[T1,T1,T1,F0,F0,F0,F0,F0,T1,F0,F0] rfl rfl rfl rfl tF tq tq (fun K hK=>?_) (fun K hK=>?_)
   ·skip
    refine goes_ Try.func22 tF rfl #[.agg #[.int .i64 a1_0,.int .i64 a1_1,.int .i64 a1_2,.int .i64 a1_3,.int .i64 a1_4]] ta rfl rfl tA ?_
    (with_reducible refine (laws_toKey.calls a1_0 a1_1 a1_2 a1_3 a1_4 r3_1 r3_2 r3_3 r3_4 r3_5 _ Q3.out).mono ?_)
    rintro e_ w44 ⟨rfl,hb⟩
    refine ⟨_,rfl,?_⟩
    have n0_:=aA.mk (Kd.aK HF18_0.out hb)
    have n1_:=aA.mk (Kd.aK HF18_1.out hb)
    have n2_:=aA.mk (Kd.aK HF40_0.out hb)
    have n3_:=aA.mk (Kd.aK HF40_1.out hb)
    have n4_:=aA.mk (Kd.aK HF43_0.out hb)
    have n5_:=aA.mk (Kd.R_below HS43_0.out hb)
    have n6_:=aA.mk (Kd.aK HF43_1.out hb)
    have n7_:=aA.mk (Kd.S_below HS43_1.out hb)
    have n8_:=aA.mk (aG BK1.out hb)
    have n9_:=aA.mk (aG BK2.out hb)
    have n10_:=aA.mk (aG BK18.out hb)
    have n11_:=aA.mk (aG BK21.out hb)
    have n12_:=aA.mk (aG BK32.out hb)
    have n13_:=aA.mk (aJ HB.out hb)
    have n14_:=aA.mk (Nat.le_trans HT.out hb.size)
    (try clear HF18_0)
    (try clear HF18_1)
    (try clear HF40_0)
    (try clear HF40_1)
    (try clear HF43_0)
    (try clear HS43_0)
    (try clear HF43_1)
    (try clear HS43_1)
    (try clear BK1)
    (try clear BK2)
    (try clear BK18)
    (try clear BK21)
    (try clear BK32)
    (try clear HB)
    (try clear HT)
    have HF18_0:=n0_
    have HF18_1:=n1_
    have HF40_0:=n2_
    have HF40_1:=n3_
    have HF43_0:=n4_
    have HS43_0:=n5_
    have HF43_1:=n6_
    have HS43_1:=n7_
    have BK1:=n8_
    have BK2:=n9_
    have BK18:=n10_
    have BK21:=n11_
    have BK32:=n12_
    have HB:=n13_
    have HT:=n14_
    clear n0_ n1_ n2_ n3_ n4_ n5_ n6_ n7_ n8_ n9_ n10_ n11_ n12_ n13_ n14_
    (try clear hb)
    refine hK.out _ _ ⟨(aB BK1.out 0).trans rfl,(aB BK1.out 1).trans rfl,(aB BK2.out 0).trans rfl,(aB BK2.out 1).trans rfl,(aB BK2.out 2).trans rfl,(aB BK2.out 3).trans rfl,(aB BK2.out 4).trans rfl⟩ (fun hHeld=>?_)
    clear hK K
    refine norm_ (a':=?_) ?_ ?_
    rotate_left
    ·show Act.put _ (some 83) _ = _
     simp only [Act.put,lA,lB,lC,aQ,aR]
     rfl
    refine two_ (i:=4) (j:=8) (Ni:=some 84) (Nj:=some 14) (bq1 31 11) #[T1,T1,T1,T1,F0,F0,F0,F0,T1,F0,F0] rfl rfl rfl rfl tF tq tq (fun K hK=>?_) (fun K hK=>?_)
    ·skip
     refine goes_ Try.func23 tF rfl #[.agg #[.slice A43_0 r2_1.length c43_0,.slice A43_1 r2_2.length c43_1],.agg #[.int .i64 r3_1,.int .i64 r3_2,.int .i64 r3_3,.int .i64 r3_4,.int .i64 r3_5]] ta rfl rfl tA ?_
     (with_reducible refine (impl_TreePut.calls k5 _ _ r2_1 _ _ r2_2 r3_1 r3_2 r3_3 r3_4 r3_5 r4_1 r4_2 r4_3 _ ?s1 ?s2 ?s3 ?s4 Q5.out).mono ?_)
     (case s1=>exact (Kd.F_now HF43_0.out))
     (case s2=>exact HC43_0.out)
     (case s3=>exact (Kd.F_now HF43_1.out))
     (case s4=>exact HC43_1.out)
     rintro e_ w45 ⟨v0_,v1_,rfl,ho0,ho1,hb⟩
     refine ⟨_,rfl,?_⟩
     obtain ⟨lo45,hi45,el_,eh_,ol_,oh_⟩:=Mem.times HT.out hb
     (try rw [← el_] at ho0)
     obtain ⟨A45_0,c45_0,ev_,hc0_,hf0_,hs0_⟩:=Mem.new_R ho0 eh_
     subst ev_
     (try rw [← el_] at ho1)
     obtain ⟨A45_1,c45_1,ev_,hc1_,hf1_,hs1_⟩:=Mem.new_S ho1 eh_
     subst ev_
     have n0_:=aA.mk (Kd.aK HF18_0.out hb)
     have n1_:=aA.mk (Kd.aK HF18_1.out hb)
     have n2_:=aA.mk (Kd.aK HF40_0.out hb)
     have n3_:=aA.mk (Kd.aK HF40_1.out hb)
     have n4_:=aA.mk (Kd.aK HF43_0.out hb)
     have n5_:=aA.mk (Kd.R_below HS43_0.out hb)
     have n6_:=aA.mk (Kd.aK HF43_1.out hb)
     have n7_:=aA.mk (Kd.S_below HS43_1.out hb)
     have n8_:=aA.mk (aG BK1.out hb)
     have n9_:=aA.mk (aG BK2.out hb)
     have n10_:=aA.mk (aG BK18.out hb)
     have n11_:=aA.mk (aG BK21.out hb)
     have n12_:=aA.mk (aG BK32.out hb)
     have n13_:=aA.mk (aJ HB.out hb)
     have n14_:=aA.mk (hf0_)
     have n15_:=aA.mk (hc0_)
     have n16_:=aA.mk (hs0_)
     have n17_:=aA.mk (hf1_)
     have n18_:=aA.mk (hc1_)
     have n19_:=aA.mk (hs1_)
     have n20_:=aA.mk (And.intro HORD.out (And.intro ol_ oh_))
     have n21_:=aA.mk (Nat.le_of_eq eh_)
     (try clear HF18_0)
     (try clear HF18_1)
     (try clear HF40_0)
     (try clear HF40_1)
     (try clear HF43_0)
     (try clear HS43_0)
     (try clear HF43_1)
     (try clear HS43_1)
     (try clear BK1)
     (try clear BK2)
     (try clear BK18)
     (try clear BK21)
     (try clear BK32)
     (try clear HB)
     (try clear HF45_0)
     (try clear HC45_0)
     (try clear HS45_0)
     (try clear HF45_1)
     (try clear HC45_1)
     (try clear HS45_1)
     (try clear HORD)
     (try clear HT)
     have HF18_0:=n0_
     have HF18_1:=n1_
     have HF40_0:=n2_
     have HF40_1:=n3_
     have HF43_0:=n4_
     have HS43_0:=n5_
     have HF43_1:=n6_
     have HS43_1:=n7_
     have BK1:=n8_
     have BK2:=n9_
     have BK18:=n10_
     have BK21:=n11_
     have BK32:=n12_
     have HB:=n13_
     have HF45_0:=n14_
     have HC45_0:=n15_
     have HS45_0:=n16_
     have HF45_1:=n17_
     have HC45_1:=n18_
     have HS45_1:=n19_
     have HORD:=n20_
     have HT:=n21_
     clear n0_ n1_ n2_ n3_ n4_ n5_ n6_ n7_ n8_ n9_ n10_ n11_ n12_ n13_ n14_ n15_ n16_ n17_ n18_ n19_ n20_ n21_
     clear ol_ oh_ el_ eh_ ho0 hf0_ hc0_ hs0_ ho1 hf1_ hc1_ hs1_
     (try clear hb)
     refine hK.out _ _ ⟨(aB BK1.out 0).trans rfl,(aB BK1.out 1).trans rfl,(aB BK2.out 0).trans rfl,(aB BK2.out 1).trans rfl,(aB BK2.out 2).trans rfl,(aB BK2.out 3).trans rfl,(aB BK2.out 4).trans rfl⟩ (fun hHeld=>?_)
     clear hK K
     refine norm_ (a':=?_) ?_ ?_
     rotate_left
     ·show Act.put _ (some 84) _ = _
      simp only [Act.put,lA,lB,lC,aQ,aR]
      rfl
     refine pure_ (i:=5) (N:=some 79) (v:=?_) (a':=?_) (bq1 63 11) rfl rfl tF (fun _ _ _ h=>h) (Or.inl ⟨vK,?_⟩) ?_ ?_
     rotate_left
     ·intro w'
      go_simp
      with_reducible rfl
     rotate_left
     ·simp only [Act.put,lA,lB,lC,aQ,aR]
      rfl
     refine pure_ (i:=6) (N:=some 85) (v:=?_) (a':=?_) (bq1 127 11) rfl rfl tF (fun _ _ _ h=>h) (Or.inl ⟨vK,?_⟩) ?_ ?_
     rotate_left
     ·intro w'
      go_simp
      with_reducible rfl
     rotate_left
     ·simp only [Act.put,lA,lB,lC,aQ,aR]
      rfl
     refine pure_ (i:=7) (N:=some 86) (v:=?_) (a':=?_) (bq1 255 11) rfl rfl tF (fun _ _ _ h=>h) (Or.inl ⟨vK,?_⟩) ?_ ?_
     rotate_left
     ·intro w'
      go_simp
      with_reducible rfl
     rotate_left
     ·simp only [Act.put,lA,lB,lC,aQ,aR]
      rfl
     refine one_ (i:=8) (N:=some 14) (bq1 511 11) rfl rfl tF tq (fun K hK=>?_)
     refine box_step ?hg (N:=14) ?hd (cs:=#[.slice none 0 0,.slice none 0 0]) (t:=29) ?hr ?_
     (case hd=>rfl)
     (case hg=>rfl)
     (case hr=>exact tP)
     intro gb46 hg_ w46 hbox hb
     have hge_:hi45 ≤ gb46:=vD
     have hlt_:gb46 + 1 ≤ w46.heap.size:=aY hbox
     have n0_:=aA.mk (Kd.aK HF18_0.out hb)
     have n1_:=aA.mk (Kd.aK HF18_1.out hb)
     have n2_:=aA.mk (Kd.aK HF40_0.out hb)
     have n3_:=aA.mk (Kd.aK HF40_1.out hb)
     have n4_:=aA.mk (Kd.aK HF43_0.out hb)
     have n5_:=aA.mk (Kd.R_below HS43_0.out hb)
     have n6_:=aA.mk (Kd.aK HF43_1.out hb)
     have n7_:=aA.mk (Kd.S_below HS43_1.out hb)
     have n8_:=aA.mk (Kd.aK HF45_0.out hb)
     have n9_:=aA.mk (Kd.R_below HS45_0.out hb)
     have n10_:=aA.mk (Kd.aK HF45_1.out hb)
     have n11_:=aA.mk (Kd.S_below HS45_1.out hb)
     have n12_:=aA.mk (aG BK1.out hb)
     have n13_:=aA.mk (aG BK2.out hb)
     have n14_:=aA.mk (aG BK18.out hb)
     have n15_:=aA.mk (aG BK21.out hb)
     have n16_:=aA.mk (aG BK32.out hb)
     have n17_:=aA.mk (aJ HB.out hb)
     have n18_:=aA.mk (hbox)
     have n19_:=aA.mk (And.intro HORD.out (And.intro hge_ (Nat.le_succ gb46)))
     have n20_:=aA.mk (hlt_)
     (try clear HF18_0)
     (try clear HF18_1)
     (try clear HF40_0)
     (try clear HF40_1)
     (try clear HF43_0)
     (try clear HS43_0)
     (try clear HF43_1)
     (try clear HS43_1)
     (try clear HF45_0)
     (try clear HS45_0)
     (try clear HF45_1)
     (try clear HS45_1)
     (try clear BK1)
     (try clear BK2)
     (try clear BK18)
     (try clear BK21)
     (try clear BK32)
     (try clear HB)
     (try clear BK46)
     (try clear HORD)
     (try clear HT)
     have HF18_0:=n0_
     have HF18_1:=n1_
     have HF40_0:=n2_
     have HF40_1:=n3_
     have HF43_0:=n4_
     have HS43_0:=n5_
     have HF43_1:=n6_
     have HS43_1:=n7_
     have HF45_0:=n8_
     have HS45_0:=n9_
     have HF45_1:=n10_
     have HS45_1:=n11_
     have BK1:=n12_
     have BK2:=n13_
     have BK18:=n14_
     have BK21:=n15_
     have BK32:=n16_
     have HB:=n17_
     have BK46:=n18_
     have HORD:=n19_
     have HT:=n20_
     clear n0_ n1_ n2_ n3_ n4_ n5_ n6_ n7_ n8_ n9_ n10_ n11_ n12_ n13_ n14_ n15_ n16_ n17_ n18_ n19_ n20_
     clear hb hbox hg_ hge_ hlt_
     refine hK.out _ _ ⟨(aB BK1.out 0).trans rfl,(aB BK1.out 1).trans rfl,(aB BK2.out 0).trans rfl,(aB BK2.out 1).trans rfl,(aB BK2.out 2).trans rfl,(aB BK2.out 3).trans rfl,(aB BK2.out 4).trans rfl⟩ (fun hHeld=>?_)
     clear hK K
     refine norm_ (a':=?_) ?_ ?_
     rotate_left
     ·show Act.put _ (some 14) _ = _
      simp only [Act.put,lA,lB,lC,aQ,aR]
      rfl
     exact norm_ vJ (hCont (gb46,lo45,hi45,A43_0,c43_0,A43_1,c43_1,A45_0,c45_0,A45_1,c45_1) _ ⟨hHeld,HF18_0,HF18_1,HF40_0,HF40_1,BK1,BK2,BK18,BK21,BK32,HB,BK46,⟨t5⟩,HF45_0,HC45_0,⟨Kd.R_lower HS45_0.out t6⟩,HF45_1,HC45_1,⟨Kd.S_lower HS45_1.out t6⟩⟩)
    ·skip
     refine box_step ?hg (N:=14) ?hd (cs:=#[.slice none 0 0,.slice none 0 0]) (t:=29) ?hr ?_
     (case hd=>rfl)
     (case hg=>rfl)
     (case hr=>exact tP)
     intro gb47 hg_ w47 hbox hb
     have hge_:hi43 ≤ gb47:=vD
     have hlt_:gb47 + 1 ≤ w47.heap.size:=aY hbox
     have n0_:=aA.mk (Kd.aK HF18_0.out hb)
     have n1_:=aA.mk (Kd.aK HF18_1.out hb)
     have n2_:=aA.mk (Kd.aK HF40_0.out hb)
     have n3_:=aA.mk (Kd.aK HF40_1.out hb)
     have n4_:=aA.mk (Kd.aK HF43_0.out hb)
     have n5_:=aA.mk (Kd.R_below HS43_0.out hb)
     have n6_:=aA.mk (Kd.aK HF43_1.out hb)
     have n7_:=aA.mk (Kd.S_below HS43_1.out hb)
     have n8_:=aA.mk (aG BK1.out hb)
     have n9_:=aA.mk (aG BK2.out hb)
     have n10_:=aA.mk (aG BK18.out hb)
     have n11_:=aA.mk (aG BK21.out hb)
     have n12_:=aA.mk (aG BK32.out hb)
     have n13_:=aA.mk (aJ HB.out hb)
     have n14_:=aA.mk (hbox)
     have n15_:=aA.mk (And.intro HORD.out (And.intro hge_ (Nat.le_succ gb47)))
     have n16_:=aA.mk (hlt_)
     (try clear HF18_0)
     (try clear HF18_1)
     (try clear HF40_0)
     (try clear HF40_1)
     (try clear HF43_0)
     (try clear HS43_0)
     (try clear HF43_1)
     (try clear HS43_1)
     (try clear BK1)
     (try clear BK2)
     (try clear BK18)
     (try clear BK21)
     (try clear BK32)
     (try clear HB)
     (try clear BK47)
     (try clear HORD)
     (try clear HT)
     have HF18_0:=n0_
     have HF18_1:=n1_
     have HF40_0:=n2_
     have HF40_1:=n3_
     have HF43_0:=n4_
     have HS43_0:=n5_
     have HF43_1:=n6_
     have HS43_1:=n7_
     have BK1:=n8_
     have BK2:=n9_
     have BK18:=n10_
     have BK21:=n11_
     have BK32:=n12_
     have HB:=n13_
     have BK47:=n14_
     have HORD:=n15_
     have HT:=n16_
     clear n0_ n1_ n2_ n3_ n4_ n5_ n6_ n7_ n8_ n9_ n10_ n11_ n12_ n13_ n14_ n15_ n16_
     clear hb hbox hg_ hge_ hlt_
     refine hK.out _ _ ⟨(aB BK1.out 0).trans rfl,(aB BK1.out 1).trans rfl,(aB BK2.out 0).trans rfl,(aB BK2.out 1).trans rfl,(aB BK2.out 2).trans rfl,(aB BK2.out 3).trans rfl,(aB BK2.out 4).trans rfl⟩ (fun hHeld=>?_)
     clear hK K
     refine norm_ (a':=?_) ?_ ?_
     rotate_left
     ·show Act.put _ (some 14) _ = _
      simp only [Act.put,lA,lB,lC,aQ,aR]
      rfl
     refine one_ (i:=4) (N:=some 84) (bq1 287 11) rfl rfl tF tq (fun K hK=>?_)
     refine goes_ Try.func23 tF rfl #[.agg #[.slice A43_0 r2_1.length c43_0,.slice A43_1 r2_2.length c43_1],.agg #[.int .i64 r3_1,.int .i64 r3_2,.int .i64 r3_3,.int .i64 r3_4,.int .i64 r3_5]] ta rfl rfl tA ?_
     (with_reducible refine (impl_TreePut.calls k5 _ _ r2_1 _ _ r2_2 r3_1 r3_2 r3_3 r3_4 r3_5 r4_1 r4_2 r4_3 _ ?s1 ?s2 ?s3 ?s4 Q5.out).mono ?_)
     (case s1=>exact (Kd.F_now HF43_0.out))
     (case s2=>exact HC43_0.out)
     (case s3=>exact (Kd.F_now HF43_1.out))
     (case s4=>exact HC43_1.out)
     rintro e_ w48 ⟨v0_,v1_,rfl,ho0,ho1,hb⟩
     refine ⟨_,rfl,?_⟩
     obtain ⟨lo48,hi48,el_,eh_,ol_,oh_⟩:=Mem.times HT.out hb
     (try rw [← el_] at ho0)
     obtain ⟨A48_0,c48_0,ev_,hc0_,hf0_,hs0_⟩:=Mem.new_R ho0 eh_
     subst ev_
     (try rw [← el_] at ho1)
     obtain ⟨A48_1,c48_1,ev_,hc1_,hf1_,hs1_⟩:=Mem.new_S ho1 eh_
     subst ev_
     have n0_:=aA.mk (Kd.aK HF18_0.out hb)
     have n1_:=aA.mk (Kd.aK HF18_1.out hb)
     have n2_:=aA.mk (Kd.aK HF40_0.out hb)
     have n3_:=aA.mk (Kd.aK HF40_1.out hb)
     have n4_:=aA.mk (Kd.aK HF43_0.out hb)
     have n5_:=aA.mk (Kd.R_below HS43_0.out hb)
     have n6_:=aA.mk (Kd.aK HF43_1.out hb)
     have n7_:=aA.mk (Kd.S_below HS43_1.out hb)
     have n8_:=aA.mk (aG BK1.out hb)
     have n9_:=aA.mk (aG BK2.out hb)
     have n10_:=aA.mk (aG BK18.out hb)
     have n11_:=aA.mk (aG BK21.out hb)
     have n12_:=aA.mk (aG BK32.out hb)
     have n13_:=aA.mk (aG BK47.out hb)
     have n14_:=aA.mk (aJ HB.out hb)
     have n15_:=aA.mk (hf0_)
     have n16_:=aA.mk (hc0_)
     have n17_:=aA.mk (hs0_)
     have n18_:=aA.mk (hf1_)
     have n19_:=aA.mk (hc1_)
     have n20_:=aA.mk (hs1_)
     have n21_:=aA.mk (And.intro HORD.out (And.intro ol_ oh_))
     have n22_:=aA.mk (Nat.le_of_eq eh_)
     (try clear HF18_0)
     (try clear HF18_1)
     (try clear HF40_0)
     (try clear HF40_1)
     (try clear HF43_0)
     (try clear HS43_0)
     (try clear HF43_1)
     (try clear HS43_1)
     (try clear BK1)
     (try clear BK2)
     (try clear BK18)
     (try clear BK21)
     (try clear BK32)
     (try clear BK47)
     (try clear HB)
     (try clear HF48_0)
     (try clear HC48_0)
     (try clear HS48_0)
     (try clear HF48_1)
     (try clear HC48_1)
     (try clear HS48_1)
     (try clear HORD)
     (try clear HT)
     have HF18_0:=n0_
     have HF18_1:=n1_
     have HF40_0:=n2_
     have HF40_1:=n3_
     have HF43_0:=n4_
     have HS43_0:=n5_
     have HF43_1:=n6_
     have HS43_1:=n7_
     have BK1:=n8_
     have BK2:=n9_
     have BK18:=n10_
     have BK21:=n11_
     have BK32:=n12_
     have BK47:=n13_
     have HB:=n14_
     have HF48_0:=n15_
     have HC48_0:=n16_
     have HS48_0:=n17_
     have HF48_1:=n18_
     have HC48_1:=n19_
     have HS48_1:=n20_
     have HORD:=n21_
     have HT:=n22_
     clear n0_ n1_ n2_ n3_ n4_ n5_ n6_ n7_ n8_ n9_ n10_ n11_ n12_ n13_ n14_ n15_ n16_ n17_ n18_ n19_ n20_ n21_ n22_
     clear ol_ oh_ el_ eh_ ho0 hf0_ hc0_ hs0_ ho1 hf1_ hc1_ hs1_
     (try clear hb)
     refine hK.out _ _ ⟨(aB BK1.out 0).trans rfl,(aB BK1.out 1).trans rfl,(aB BK2.out 0).trans rfl,(aB BK2.out 1).trans rfl,(aB BK2.out 2).trans rfl,(aB BK2.out 3).trans rfl,(aB BK2.out 4).trans rfl⟩ (fun hHeld=>?_)
     clear hK K
     refine norm_ (a':=?_) ?_ ?_
     rotate_left
     ·show Act.put _ (some 84) _ = _
      simp only [Act.put,lA,lB,lC,aQ,aR]
      rfl
     refine pure_ (i:=5) (N:=some 79) (v:=?_) (a':=?_) (bq1 319 11) rfl rfl tF (fun _ _ _ h=>h) (Or.inl ⟨vK,?_⟩) ?_ ?_
     rotate_left
     ·intro w'
      go_simp
      with_reducible rfl
     rotate_left
     ·simp only [Act.put,lA,lB,lC,aQ,aR]
      rfl
     refine pure_ (i:=6) (N:=some 85) (v:=?_) (a':=?_) (bq1 383 11) rfl rfl tF (fun _ _ _ h=>h) (Or.inl ⟨vK,?_⟩) ?_ ?_
     rotate_left
     ·intro w'
      go_simp
      with_reducible rfl
     rotate_left
     ·simp only [Act.put,lA,lB,lC,aQ,aR]
      rfl
     refine pure_ (i:=7) (N:=some 86) (v:=?_) (a':=?_) (bq1 511 11) rfl rfl tF (fun _ _ _ h=>h) (Or.inl ⟨vK,?_⟩) ?_ ?_
     rotate_left
     ·intro w'
      go_simp
      with_reducible rfl
     rotate_left
     ·simp only [Act.put,lA,lB,lC,aQ,aR]
      rfl
     exact norm_ vJ (hCont (gb47,lo48,hi48,A43_0,c43_0,A43_1,c43_1,A48_0,c48_0,A48_1,c48_1) _ ⟨hHeld,HF18_0,HF18_1,HF40_0,HF40_1,BK1,BK2,BK18,BK21,BK32,HB,BK47,⟨t5⟩,HF48_0,HC48_0,⟨Kd.R_lower HS48_0.out t6⟩,HF48_1,HC48_1,⟨Kd.S_lower HS48_1.out t6⟩⟩)
   ·skip
    refine box_step ?hg (N:=14) ?hd (cs:=#[.slice none 0 0,.slice none 0 0]) (t:=29) ?hr ?_
    (case hd=>rfl)
    (case hg=>rfl)
    (case hr=>exact tP)
    intro gb49 hg_ w49 hbox hb
    have hge_:hi43 ≤ gb49:=vD
    have hlt_:gb49 + 1 ≤ w49.heap.size:=aY hbox
    have n0_:=aA.mk (Kd.aK HF18_0.out hb)
    have n1_:=aA.mk (Kd.aK HF18_1.out hb)
    have n2_:=aA.mk (Kd.aK HF40_0.out hb)
    have n3_:=aA.mk (Kd.aK HF40_1.out hb)
    have n4_:=aA.mk (Kd.aK HF43_0.out hb)
    have n5_:=aA.mk (Kd.R_below HS43_0.out hb)
    have n6_:=aA.mk (Kd.aK HF43_1.out hb)
    have n7_:=aA.mk (Kd.S_below HS43_1.out hb)
    have n8_:=aA.mk (aG BK1.out hb)
    have n9_:=aA.mk (aG BK2.out hb)
    have n10_:=aA.mk (aG BK18.out hb)
    have n11_:=aA.mk (aG BK21.out hb)
    have n12_:=aA.mk (aG BK32.out hb)
    have n13_:=aA.mk (aJ HB.out hb)
    have n14_:=aA.mk (hbox)
    have n15_:=aA.mk (And.intro HORD.out (And.intro hge_ (Nat.le_succ gb49)))
    have n16_:=aA.mk (hlt_)
    (try clear HF18_0)
    (try clear HF18_1)
    (try clear HF40_0)
    (try clear HF40_1)
    (try clear HF43_0)
    (try clear HS43_0)
    (try clear HF43_1)
    (try clear HS43_1)
    (try clear BK1)
    (try clear BK2)
    (try clear BK18)
    (try clear BK21)
    (try clear BK32)
    (try clear HB)
    (try clear BK49)
    (try clear HORD)
    (try clear HT)
    have HF18_0:=n0_
    have HF18_1:=n1_
    have HF40_0:=n2_
    have HF40_1:=n3_
    have HF43_0:=n4_
    have HS43_0:=n5_
    have HF43_1:=n6_
    have HS43_1:=n7_
    have BK1:=n8_
    have BK2:=n9_
    have BK18:=n10_
    have BK21:=n11_
    have BK32:=n12_
    have HB:=n13_
    have BK49:=n14_
    have HORD:=n15_
    have HT:=n16_
    clear n0_ n1_ n2_ n3_ n4_ n5_ n6_ n7_ n8_ n9_ n10_ n11_ n12_ n13_ n14_ n15_ n16_
    clear hb hbox hg_ hge_ hlt_
    refine hK.out _ _ ⟨(aB BK1.out 0).trans rfl,(aB BK1.out 1).trans rfl,(aB BK2.out 0).trans rfl,(aB BK2.out 1).trans rfl,(aB BK2.out 2).trans rfl,(aB BK2.out 3).trans rfl,(aB BK2.out 4).trans rfl⟩ (fun hHeld=>?_)
    clear hK K
    refine norm_ (a':=?_) ?_ ?_
    rotate_left
    ·show Act.put _ (some 14) _ = _
     simp only [Act.put,lA,lB,lC,aQ,aR]
     rfl
    refine one_ (i:=3) (N:=some 83) (bq1 271 11) rfl rfl tF tq (fun K hK=>?_)
    refine goes_ Try.func22 tF rfl #[.agg #[.int .i64 a1_0,.int .i64 a1_1,.int .i64 a1_2,.int .i64 a1_3,.int .i64 a1_4]] ta rfl rfl tA ?_
    (with_reducible refine (laws_toKey.calls a1_0 a1_1 a1_2 a1_3 a1_4 r3_1 r3_2 r3_3 r3_4 r3_5 _ Q3.out).mono ?_)
    rintro e_ w50 ⟨rfl,hb⟩
    refine ⟨_,rfl,?_⟩
    have n0_:=aA.mk (Kd.aK HF18_0.out hb)
    have n1_:=aA.mk (Kd.aK HF18_1.out hb)
    have n2_:=aA.mk (Kd.aK HF40_0.out hb)
    have n3_:=aA.mk (Kd.aK HF40_1.out hb)
    have n4_:=aA.mk (Kd.aK HF43_0.out hb)
    have n5_:=aA.mk (Kd.R_below HS43_0.out hb)
    have n6_:=aA.mk (Kd.aK HF43_1.out hb)
    have n7_:=aA.mk (Kd.S_below HS43_1.out hb)
    have n8_:=aA.mk (aG BK1.out hb)
    have n9_:=aA.mk (aG BK2.out hb)
    have n10_:=aA.mk (aG BK18.out hb)
    have n11_:=aA.mk (aG BK21.out hb)
    have n12_:=aA.mk (aG BK32.out hb)
    have n13_:=aA.mk (aG BK49.out hb)
    have n14_:=aA.mk (aJ HB.out hb)
    have n15_:=aA.mk (Nat.le_trans HT.out hb.size)
    (try clear HF18_0)
    (try clear HF18_1)
    (try clear HF40_0)
    (try clear HF40_1)
    (try clear HF43_0)
    (try clear HS43_0)
    (try clear HF43_1)
    (try clear HS43_1)
    (try clear BK1)
    (try clear BK2)
    (try clear BK18)
    (try clear BK21)
    (try clear BK32)
    (try clear BK49)
    (try clear HB)
    (try clear HT)
    have HF18_0:=n0_
    have HF18_1:=n1_
    have HF40_0:=n2_
    have HF40_1:=n3_
    have HF43_0:=n4_
    have HS43_0:=n5_
    have HF43_1:=n6_
    have HS43_1:=n7_
    have BK1:=n8_
    have BK2:=n9_
    have BK18:=n10_
    have BK21:=n11_
    have BK32:=n12_
    have BK49:=n13_
    have HB:=n14_
    have HT:=n15_
    clear n0_ n1_ n2_ n3_ n4_ n5_ n6_ n7_ n8_ n9_ n10_ n11_ n12_ n13_ n14_ n15_
    (try clear hb)
    refine hK.out _ _ ⟨(aB BK1.out 0).trans rfl,(aB BK1.out 1).trans rfl,(aB BK2.out 0).trans rfl,(aB BK2.out 1).trans rfl,(aB BK2.out 2).trans rfl,(aB BK2.out 3).trans rfl,(aB BK2.out 4).trans rfl⟩ (fun hHeld=>?_)
    clear hK K
    refine norm_ (a':=?_) ?_ ?_
    rotate_left
    ·show Act.put _ (some 83) _ = _
     simp only [Act.put,lA,lB,lC,aQ,aR]
     rfl
    refine one_ (i:=4) (N:=some 84) (bq1 287 11) rfl rfl tF tq (fun K hK=>?_)
    refine goes_ Try.func23 tF rfl #[.agg #[.slice A43_0 r2_1.length c43_0,.slice A43_1 r2_2.length c43_1],.agg #[.int .i64 r3_1,.int .i64 r3_2,.int .i64 r3_3,.int .i64 r3_4,.int .i64 r3_5]] ta rfl rfl tA ?_
    (with_reducible refine (impl_TreePut.calls k5 _ _ r2_1 _ _ r2_2 r3_1 r3_2 r3_3 r3_4 r3_5 r4_1 r4_2 r4_3 _ ?s1 ?s2 ?s3 ?s4 Q5.out).mono ?_)
    (case s1=>exact (Kd.F_now HF43_0.out))
    (case s2=>exact HC43_0.out)
    (case s3=>exact (Kd.F_now HF43_1.out))
    (case s4=>exact HC43_1.out)
    rintro e_ w51 ⟨v0_,v1_,rfl,ho0,ho1,hb⟩
    refine ⟨_,rfl,?_⟩
    obtain ⟨lo51,hi51,el_,eh_,ol_,oh_⟩:=Mem.times HT.out hb
    (try rw [← el_] at ho0)
    obtain ⟨A51_0,c51_0,ev_,hc0_,hf0_,hs0_⟩:=Mem.new_R ho0 eh_
    subst ev_
    (try rw [← el_] at ho1)
    obtain ⟨A51_1,c51_1,ev_,hc1_,hf1_,hs1_⟩:=Mem.new_S ho1 eh_
    subst ev_
    have n0_:=aA.mk (Kd.aK HF18_0.out hb)
    have n1_:=aA.mk (Kd.aK HF18_1.out hb)
    have n2_:=aA.mk (Kd.aK HF40_0.out hb)
    have n3_:=aA.mk (Kd.aK HF40_1.out hb)
    have n4_:=aA.mk (aG BK1.out hb)
    have n5_:=aA.mk (aG BK2.out hb)
    have n6_:=aA.mk (aG BK18.out hb)
    have n7_:=aA.mk (aG BK21.out hb)
    have n8_:=aA.mk (aG BK32.out hb)
    have n9_:=aA.mk (aG BK49.out hb)
    have n10_:=aA.mk (aJ HB.out hb)
    have n11_:=aA.mk (hf0_)
    have n12_:=aA.mk (hc0_)
    have n13_:=aA.mk (hs0_)
    have n14_:=aA.mk (hf1_)
    have n15_:=aA.mk (hc1_)
    have n16_:=aA.mk (hs1_)
    have n17_:=aA.mk (And.intro HORD.out (And.intro ol_ oh_))
    have n18_:=aA.mk (Nat.le_of_eq eh_)
    (try clear HF43_0)
    (try clear HS43_0)
    (try clear HC43_0)
    (try clear HF43_1)
    (try clear HS43_1)
    (try clear HC43_1)
    (try clear HF18_0)
    (try clear HF18_1)
    (try clear HF40_0)
    (try clear HF40_1)
    (try clear BK1)
    (try clear BK2)
    (try clear BK18)
    (try clear BK21)
    (try clear BK32)
    (try clear BK49)
    (try clear HB)
    (try clear HF51_0)
    (try clear HC51_0)
    (try clear HS51_0)
    (try clear HF51_1)
    (try clear HC51_1)
    (try clear HS51_1)
    (try clear HORD)
    (try clear HT)
    have HF18_0:=n0_
    have HF18_1:=n1_
    have HF40_0:=n2_
    have HF40_1:=n3_
    have BK1:=n4_
    have BK2:=n5_
    have BK18:=n6_
    have BK21:=n7_
    have BK32:=n8_
    have BK49:=n9_
    have HB:=n10_
    have HF51_0:=n11_
    have HC51_0:=n12_
    have HS51_0:=n13_
    have HF51_1:=n14_
    have HC51_1:=n15_
    have HS51_1:=n16_
    have HORD:=n17_
    have HT:=n18_
    clear n0_ n1_ n2_ n3_ n4_ n5_ n6_ n7_ n8_ n9_ n10_ n11_ n12_ n13_ n14_ n15_ n16_ n17_ n18_
    clear ol_ oh_ el_ eh_ ho0 hf0_ hc0_ hs0_ ho1 hf1_ hc1_ hs1_
    (try clear hb)
    refine hK.out _ _ ⟨(aB BK1.out 0).trans rfl,(aB BK1.out 1).trans rfl,(aB BK2.out 0).trans rfl,(aB BK2.out 1).trans rfl,(aB BK2.out 2).trans rfl,(aB BK2.out 3).trans rfl,(aB BK2.out 4).trans rfl⟩ (fun hHeld=>?_)
    clear hK K
    refine norm_ (a':=?_) ?_ ?_
    rotate_left
    ·show Act.put _ (some 84) _ = _
     simp only [Act.put,lA,lB,lC,aQ,aR]
     rfl
    refine pure_ (i:=5) (N:=some 79) (v:=?_) (a':=?_) (bq1 319 11) rfl rfl tF (fun _ _ _ h=>h) (Or.inl ⟨vK,?_⟩) ?_ ?_
    rotate_left
    ·intro w'
     go_simp
     with_reducible rfl
    rotate_left
    ·simp only [Act.put,lA,lB,lC,aQ,aR]
     rfl
    refine pure_ (i:=6) (N:=some 85) (v:=?_) (a':=?_) (bq1 383 11) rfl rfl tF (fun _ _ _ h=>h) (Or.inl ⟨vK,?_⟩) ?_ ?_
    rotate_left
    ·intro w'
     go_simp
     with_reducible rfl
    rotate_left
    ·simp only [Act.put,lA,lB,lC,aQ,aR]
     rfl
    refine pure_ (i:=7) (N:=some 86) (v:=?_) (a':=?_) (bq1 511 11) rfl rfl tF (fun _ _ _ h=>h) (Or.inl ⟨vK,?_⟩) ?_ ?_
    rotate_left
    ·intro w'
     go_simp
     with_reducible rfl
    rotate_left
    ·simp only [Act.put,lA,lB,lC,aQ,aR]
     rfl
    exact norm_ vJ (hCont (gb49,lo51,hi51,A43_0,c43_0,A43_1,c43_1,A51_0,c51_0,A51_1,c51_1) _ ⟨hHeld,HF18_0,HF18_1,HF40_0,HF40_1,BK1,BK2,BK18,BK21,BK32,HB,BK49,⟨t5⟩,HF51_0,HC51_0,⟨Kd.R_lower HS51_0.out t6⟩,HF51_1,HC51_1,⟨Kd.S_lower HS51_1.out t6⟩⟩)
  ·skip
   refine box_step ?hg (N:=14) ?hd (cs:=#[.slice none 0 0,.slice none 0 0]) (t:=29) ?hr ?_
   (case hd=>rfl)
   (case hg=>rfl)
   (case hr=>exact tP)
   intro gb52 hg_ w52 hbox hb
   have hge_:hi40 ≤ gb52:=vD
   have hlt_:gb52 + 1 ≤ w52.heap.size:=aY hbox
   have n0_:=aA.mk (Kd.aK HF18_0.out hb)
   have n1_:=aA.mk (Kd.aK HF18_1.out hb)
   have n2_:=aA.mk (Kd.aK HF40_0.out hb)
   have n3_:=aA.mk (Kd.aK HF40_1.out hb)
   have n4_:=aA.mk (aG BK1.out hb)
   have n5_:=aA.mk (aG BK2.out hb)
   have n6_:=aA.mk (aG BK18.out hb)
   have n7_:=aA.mk (aG BK21.out hb)
   have n8_:=aA.mk (aG BK32.out hb)
   have n9_:=aA.mk (aJ HB.out hb)
   have n10_:=aA.mk (hbox)
   have n11_:=aA.mk (And.intro HORD.out (And.intro hge_ (Nat.le_succ gb52)))
   have n12_:=aA.mk (hlt_)
   (try clear HF18_0)
   (try clear HF18_1)
   (try clear HF40_0)
   (try clear HF40_1)
   (try clear BK1)
   (try clear BK2)
   (try clear BK18)
   (try clear BK21)
   (try clear BK32)
   (try clear HB)
   (try clear BK52)
   (try clear HORD)
   (try clear HT)
   have HF18_0:=n0_
   have HF18_1:=n1_
   have HF40_0:=n2_
   have HF40_1:=n3_
   have BK1:=n4_
   have BK2:=n5_
   have BK18:=n6_
   have BK21:=n7_
   have BK32:=n8_
   have HB:=n9_
   have BK52:=n10_
   have HORD:=n11_
   have HT:=n12_
   clear n0_ n1_ n2_ n3_ n4_ n5_ n6_ n7_ n8_ n9_ n10_ n11_ n12_
   clear hb hbox hg_ hge_ hlt_
   refine hK.out _ _ ⟨(aB BK1.out 0).trans rfl,(aB BK1.out 1).trans rfl,(aB BK2.out 0).trans rfl,(aB BK2.out 1).trans rfl,(aB BK2.out 2).trans rfl,(aB BK2.out 3).trans rfl,(aB BK2.out 4).trans rfl⟩ (fun hHeld=>?_)
   clear hK K
   refine norm_ (a':=?_) ?_ ?_
   rotate_left
   ·show Act.put _ (some 14) _ = _
    simp only [Act.put,lA,lB,lC,aQ,aR]
    rfl
   refine one_ (i:=1) (N:=some 81) (bq1 263 11) rfl rfl tF tq (fun K hK=>?_)
   refine goes_ Try.func8 tF rfl #[.agg #[.slice A0_0 l0_0.length c0_0,.slice A0_1 l0_1.length c0_1]] ta rfl rfl tA ?_
   (with_reducible refine (laws_toTree.calls k2 _ _ l0_0 _ _ l0_1 r2_1 r2_2 _ ?s1 ?s2 ?s3 ?s4 Q2.out).mono ?_)
   (case s1=>exact wF)
   (case s2=>exact HC0_0.out)
   (case s3=>exact wE)
   (case s4=>exact HC0_1.out)
   rintro e_ w53 ⟨v0_,v1_,rfl,ho0,ho1,hb⟩
   refine ⟨_,rfl,?_⟩
   obtain ⟨lo53,hi53,el_,eh_,ol_,oh_⟩:=Mem.times HT.out hb
   (try rw [← el_] at ho0)
   obtain ⟨A53_0,c53_0,ev_,hc0_,hf0_,hs0_⟩:=Mem.new_R ho0 eh_
   subst ev_
   (try rw [← el_] at ho1)
   obtain ⟨A53_1,c53_1,ev_,hc1_,hf1_,hs1_⟩:=Mem.new_S ho1 eh_
   subst ev_
   have n0_:=aA.mk (Kd.aK HF18_0.out hb)
   have n1_:=aA.mk (Kd.aK HF18_1.out hb)
   have n2_:=aA.mk (Kd.aK HF40_0.out hb)
   have n3_:=aA.mk (Kd.aK HF40_1.out hb)
   have n4_:=aA.mk (aG BK1.out hb)
   have n5_:=aA.mk (aG BK2.out hb)
   have n6_:=aA.mk (aG BK18.out hb)
   have n7_:=aA.mk (aG BK21.out hb)
   have n8_:=aA.mk (aG BK32.out hb)
   have n9_:=aA.mk (aG BK52.out hb)
   have n10_:=aA.mk (aJ HB.out hb)
   have n11_:=aA.mk (hf0_)
   have n12_:=aA.mk (hc0_)
   have n13_:=aA.mk (hs0_)
   have n14_:=aA.mk (hf1_)
   have n15_:=aA.mk (hc1_)
   have n16_:=aA.mk (hs1_)
   have n17_:=aA.mk (And.intro HORD.out (And.intro ol_ oh_))
   have n18_:=aA.mk (Nat.le_of_eq eh_)
   (try clear HF18_0)
   (try clear HF18_1)
   (try clear HF40_0)
   (try clear HF40_1)
   (try clear BK1)
   (try clear BK2)
   (try clear BK18)
   (try clear BK21)
   (try clear BK32)
   (try clear BK52)
   (try clear HB)
   (try clear HF53_0)
   (try clear HC53_0)
   (try clear HS53_0)
   (try clear HF53_1)
   (try clear HC53_1)
   (try clear HS53_1)
   (try clear HORD)
   (try clear HT)
   have HF18_0:=n0_
   have HF18_1:=n1_
   have HF40_0:=n2_
   have HF40_1:=n3_
   have BK1:=n4_
   have BK2:=n5_
   have BK18:=n6_
   have BK21:=n7_
   have BK32:=n8_
   have BK52:=n9_
   have HB:=n10_
   have HF53_0:=n11_
   have HC53_0:=n12_
   have HS53_0:=n13_
   have HF53_1:=n14_
   have HC53_1:=n15_
   have HS53_1:=n16_
   have HORD:=n17_
   have HT:=n18_
   clear n0_ n1_ n2_ n3_ n4_ n5_ n6_ n7_ n8_ n9_ n10_ n11_ n12_ n13_ n14_ n15_ n16_ n17_ n18_
   clear ol_ oh_ el_ eh_ ho0 hf0_ hc0_ hs0_ ho1 hf1_ hc1_ hs1_
   (try clear hb)
   refine hK.out _ _ ⟨(aB BK1.out 0).trans rfl,(aB BK1.out 1).trans rfl,(aB BK2.out 0).trans rfl,(aB BK2.out 1).trans rfl,(aB BK2.out 2).trans rfl,(aB BK2.out 3).trans rfl,(aB BK2.out 4).trans rfl⟩ (fun hHeld=>?_)
   clear hK K
   refine norm_ (a':=?_) ?_ ?_
   rotate_left
   ·show Act.put _ (some 81) _ = _
    simp only [Act.put,lA,lB,lC,aQ,aR]
    rfl
   refine one_ (i:=3) (N:=some 83) (bq1 271 11) rfl rfl tF tq (fun K hK=>?_)
   refine goes_ Try.func22 tF rfl #[.agg #[.int .i64 a1_0,.int .i64 a1_1,.int .i64 a1_2,.int .i64 a1_3,.int .i64 a1_4]] ta rfl rfl tA ?_
   (with_reducible refine (laws_toKey.calls a1_0 a1_1 a1_2 a1_3 a1_4 r3_1 r3_2 r3_3 r3_4 r3_5 _ Q3.out).mono ?_)
   rintro e_ w54 ⟨rfl,hb⟩
   refine ⟨_,rfl,?_⟩
   have n0_:=aA.mk (Kd.aK HF18_0.out hb)
   have n1_:=aA.mk (Kd.aK HF18_1.out hb)
   have n2_:=aA.mk (Kd.aK HF40_0.out hb)
   have n3_:=aA.mk (Kd.aK HF40_1.out hb)
   have n4_:=aA.mk (Kd.aK HF53_0.out hb)
   have n5_:=aA.mk (Kd.R_below HS53_0.out hb)
   have n6_:=aA.mk (Kd.aK HF53_1.out hb)
   have n7_:=aA.mk (Kd.S_below HS53_1.out hb)
   have n8_:=aA.mk (aG BK1.out hb)
   have n9_:=aA.mk (aG BK2.out hb)
   have n10_:=aA.mk (aG BK18.out hb)
   have n11_:=aA.mk (aG BK21.out hb)
   have n12_:=aA.mk (aG BK32.out hb)
   have n13_:=aA.mk (aG BK52.out hb)
   have n14_:=aA.mk (aJ HB.out hb)
   have n15_:=aA.mk (Nat.le_trans HT.out hb.size)
   (try clear HF18_0)
   (try clear HF18_1)
   (try clear HF40_0)
   (try clear HF40_1)
   (try clear HF53_0)
   (try clear HS53_0)
   (try clear HF53_1)
   (try clear HS53_1)
   (try clear BK1)
   (try clear BK2)
   (try clear BK18)
   (try clear BK21)
   (try clear BK32)
   (try clear BK52)
   (try clear HB)
   (try clear HT)
   have HF18_0:=n0_
   have HF18_1:=n1_
   have HF40_0:=n2_
   have HF40_1:=n3_
   have HF53_0:=n4_
   have HS53_0:=n5_
   have HF53_1:=n6_
   have HS53_1:=n7_
   have BK1:=n8_
   have BK2:=n9_
   have BK18:=n10_
   have BK21:=n11_
   have BK32:=n12_
   have BK52:=n13_
   have HB:=n14_
   have HT:=n15_
   clear n0_ n1_ n2_ n3_ n4_ n5_ n6_ n7_ n8_ n9_ n10_ n11_ n12_ n13_ n14_ n15_
   (try clear hb)
   refine hK.out _ _ ⟨(aB BK1.out 0).trans rfl,(aB BK1.out 1).trans rfl,(aB BK2.out 0).trans rfl,(aB BK2.out 1).trans rfl,(aB BK2.out 2).trans rfl,(aB BK2.out 3).trans rfl,(aB BK2.out 4).trans rfl⟩ (fun hHeld=>?_)
   clear hK K
   refine norm_ (a':=?_) ?_ ?_
   rotate_left
   ·show Act.put _ (some 83) _ = _
    simp only [Act.put,lA,lB,lC,aQ,aR]
    rfl
   refine one_ (i:=4) (N:=some 84) (bq1 287 11) rfl rfl tF tq (fun K hK=>?_)
   refine goes_ Try.func23 tF rfl #[.agg #[.slice A53_0 r2_1.length c53_0,.slice A53_1 r2_2.length c53_1],.agg #[.int .i64 r3_1,.int .i64 r3_2,.int .i64 r3_3,.int .i64 r3_4,.int .i64 r3_5]] ta rfl rfl tA ?_
   (with_reducible refine (impl_TreePut.calls k5 _ _ r2_1 _ _ r2_2 r3_1 r3_2 r3_3 r3_4 r3_5 r4_1 r4_2 r4_3 _ ?s1 ?s2 ?s3 ?s4 Q5.out).mono ?_)
   (case s1=>exact (Kd.F_now HF53_0.out))
   (case s2=>exact HC53_0.out)
   (case s3=>exact (Kd.F_now HF53_1.out))
   (case s4=>exact HC53_1.out)
   rintro e_ w55 ⟨v0_,v1_,rfl,ho0,ho1,hb⟩
   refine ⟨_,rfl,?_⟩
   obtain ⟨lo55,hi55,el_,eh_,ol_,oh_⟩:=Mem.times HT.out hb
   (try rw [← el_] at ho0)
   obtain ⟨A55_0,c55_0,ev_,hc0_,hf0_,hs0_⟩:=Mem.new_R ho0 eh_
   subst ev_
   (try rw [← el_] at ho1)
   obtain ⟨A55_1,c55_1,ev_,hc1_,hf1_,hs1_⟩:=Mem.new_S ho1 eh_
   subst ev_
   have n0_:=aA.mk (Kd.aK HF18_0.out hb)
   have n1_:=aA.mk (Kd.aK HF18_1.out hb)
   have n2_:=aA.mk (Kd.aK HF40_0.out hb)
   have n3_:=aA.mk (Kd.aK HF40_1.out hb)
   have n4_:=aA.mk (aG BK1.out hb)
   have n5_:=aA.mk (aG BK2.out hb)
   have n6_:=aA.mk (aG BK18.out hb)
   have n7_:=aA.mk (aG BK21.out hb)
   have n8_:=aA.mk (aG BK32.out hb)
   have n9_:=aA.mk (aG BK52.out hb)
   have n10_:=aA.mk (aJ HB.out hb)
   have n11_:=aA.mk (hf0_)
   have n12_:=aA.mk (hc0_)
   have n13_:=aA.mk (hs0_)
   have n14_:=aA.mk (hf1_)
   have n15_:=aA.mk (hc1_)
   have n16_:=aA.mk (hs1_)
   have n17_:=aA.mk (And.intro HORD.out (And.intro ol_ oh_))
   have n18_:=aA.mk (Nat.le_of_eq eh_)
   (try clear HF53_0)
   (try clear HS53_0)
   (try clear HC53_0)
   (try clear HF53_1)
   (try clear HS53_1)
   (try clear HC53_1)
   (try clear HF18_0)
   (try clear HF18_1)
   (try clear HF40_0)
   (try clear HF40_1)
   (try clear BK1)
   (try clear BK2)
   (try clear BK18)
   (try clear BK21)
   (try clear BK32)
   (try clear BK52)
   (try clear HB)
   (try clear HF55_0)
   (try clear HC55_0)
   (try clear HS55_0)
   (try clear HF55_1)
   (try clear HC55_1)
   (try clear HS55_1)
   (try clear HORD)
   (try clear HT)
   have HF18_0:=n0_
   have HF18_1:=n1_
   have HF40_0:=n2_
   have HF40_1:=n3_
   have BK1:=n4_
   have BK2:=n5_
   have BK18:=n6_
   have BK21:=n7_
   have BK32:=n8_
   have BK52:=n9_
   have HB:=n10_
   have HF55_0:=n11_
   have HC55_0:=n12_
   have HS55_0:=n13_
   have HF55_1:=n14_
   have HC55_1:=n15_
   have HS55_1:=n16_
   have HORD:=n17_
   have HT:=n18_
   clear n0_ n1_ n2_ n3_ n4_ n5_ n6_ n7_ n8_ n9_ n10_ n11_ n12_ n13_ n14_ n15_ n16_ n17_ n18_
   clear ol_ oh_ el_ eh_ ho0 hf0_ hc0_ hs0_ ho1 hf1_ hc1_ hs1_
   (try clear hb)
   refine hK.out _ _ ⟨(aB BK1.out 0).trans rfl,(aB BK1.out 1).trans rfl,(aB BK2.out 0).trans rfl,(aB BK2.out 1).trans rfl,(aB BK2.out 2).trans rfl,(aB BK2.out 3).trans rfl,(aB BK2.out 4).trans rfl⟩ (fun hHeld=>?_)
   clear hK K
   refine norm_ (a':=?_) ?_ ?_
   rotate_left
   ·show Act.put _ (some 84) _ = _
    simp only [Act.put,lA,lB,lC,aQ,aR]
    rfl
   refine pure_ (i:=5) (N:=some 79) (v:=?_) (a':=?_) (bq1 319 11) rfl rfl tF (fun _ _ _ h=>h) (Or.inl ⟨vK,?_⟩) ?_ ?_
   rotate_left
   ·intro w'
    go_simp
    with_reducible rfl
   rotate_left
   ·simp only [Act.put,lA,lB,lC,aQ,aR]
    rfl
   refine pure_ (i:=6) (N:=some 85) (v:=?_) (a':=?_) (bq1 383 11) rfl rfl tF (fun _ _ _ h=>h) (Or.inl ⟨vK,?_⟩) ?_ ?_
   rotate_left
   ·intro w'
    go_simp
    with_reducible rfl
   rotate_left
   ·simp only [Act.put,lA,lB,lC,aQ,aR]
    rfl
   refine pure_ (i:=7) (N:=some 86) (v:=?_) (a':=?_) (bq1 511 11) rfl rfl tF (fun _ _ _ h=>h) (Or.inl ⟨vK,?_⟩) ?_ ?_
   rotate_left
   ·intro w'
    go_simp
    with_reducible rfl
   rotate_left
   ·simp only [Act.put,lA,lB,lC,aQ,aR]
    rfl
   exact norm_ vJ (hCont (gb52,lo55,hi55,A53_0,c53_0,A53_1,c53_1,A55_0,c55_0,A55_1,c55_1) _ ⟨hHeld,HF18_0,HF18_1,HF40_0,HF40_1,BK1,BK2,BK18,BK21,BK32,HB,BK52,⟨t5⟩,HF55_0,HC55_0,⟨Kd.R_lower HS55_0.out t6⟩,HF55_1,HC55_1,⟨Kd.S_lower HS55_1.out t6⟩⟩)
 clear HF18_0 HF18_1 HF40_0 HF40_1 BK1 BK2 BK18 BK21 BK32 HB HT hHeld
 rintro ⟨gb56,lo56,hi56,A56_0,c56_0,A56_1,c56_1,A56_2,c56_2,A56_3,c56_3⟩ w56 ⟨hHeld,HF18_0,HF18_1,HF40_0,HF40_1,BK1,BK2,BK18,BK21,BK32,HB,f_0,f_1,f_2,f_3,f_4,f_5,f_6,f_7⟩
 have BK56:=aA.mk (show w56.heap[gb56]? = some (.cells #[.slice none 0 0,.slice none 0 0] 29 (0,0)) from f_0.out)
 clear f_0
 have HO_:=aA.mk (show (hi40 ≤ gb56 ∧ hi40 ≤ lo56) ∧ (lo56 ≤ hi56) ∧ (gb56 < lo56 ∨ hi56 ≤ gb56) ∧ gb56 + 1 ≤ w56.heap.size ∧ hi56 ≤ w56.heap.size from f_1.out)
 clear f_1
 have HF56_0:=aA.mk (show Kd.F (Kd.int .i64) w56 (In lo56 hi56) A56_2 r4_1.length r4_1 from f_2.out)
 clear f_2
 have HC56_0:=aA.mk (show r4_1.length ≤ c56_2 from f_3.out)
 clear f_3
 have HS56_0:=aA.mk (show Kd.R (Kd.int .i64) 3 w56 w.heap.size (In lo56 hi56) (.slice A56_2 r4_1.length c56_2) r4_1 from f_4.out)
 clear f_4
 have HF56_1:=aA.mk (show Kd.F k59D w56 (In lo56 hi56) A56_3 r4_2.length r4_2 from f_5.out)
 clear f_5
 have HC56_1:=aA.mk (show r4_2.length ≤ c56_3 from f_6.out)
 clear f_6
 have HS56_1:=aA.mk (show Kd.S k59D 59 w56 w.heap.size (In lo56 hi56) (.slice A56_3 r4_2.length c56_3) r4_2 from f_7.out)
 clear f_7
 obtain ⟨tp56,et_⟩:∃ n_,n_ = w56.heap.size:=⟨_,rfl⟩
 have n0_:=aA.mk (show _ ∧ ((hi40 ≤ gb56 ∧ hi40 ≤ lo56) ∧ (lo56 ≤ hi56) ∧ (gb56 < lo56 ∨ hi56 ≤ gb56) ∧ gb56 + 1 ≤ tp56 ∧ hi56 ≤ tp56) from And.intro HORD.out (by rw [et_];exact HO_.out))
 clear HORD HO_
 have HORD:=n0_
 clear n0_
 have HT:=aA.mk (Nat.le_of_eq et_)
 clear et_
 refine norm_ (a':=?_) ?_ ?_
 rotate_left
 ·simp only [putAll,Act.put,lA,lB,lC]
  rfl
 refine last_ (i:=9) (N:=none) (bq1 1023 11) rfl rfl tF tq (fun K hK=>?_)
 have hzgb1_0_57:w56.cell? ⟨gb1,0,none⟩ = some (.slice A0_0 l0_0.length c0_0):=(aB BK1.out 0).trans rfl
 have hygb1_0_57:=aC BK1.out 0
 have hzgb1_1_57:w56.cell? ⟨gb1,1,none⟩ = some (.slice A0_1 l0_1.length c0_1):=(aB BK1.out 1).trans rfl
 have hygb1_1_57:=aC BK1.out 1
 have hzgb2_0_57:w56.cell? ⟨gb2,0,none⟩ = some (.int .i64 a1_0):=(aB BK2.out 0).trans rfl
 have hygb2_0_57:=aC BK2.out 0
 have hzgb2_1_57:w56.cell? ⟨gb2,1,none⟩ = some (.int .i64 a1_1):=(aB BK2.out 1).trans rfl
 have hygb2_1_57:=aC BK2.out 1
 have hzgb2_2_57:w56.cell? ⟨gb2,2,none⟩ = some (.int .i64 a1_2):=(aB BK2.out 2).trans rfl
 have hygb2_2_57:=aC BK2.out 2
 have hzgb2_3_57:w56.cell? ⟨gb2,3,none⟩ = some (.int .i64 a1_3):=(aB BK2.out 3).trans rfl
 have hygb2_3_57:=aC BK2.out 3
 have hzgb2_4_57:w56.cell? ⟨gb2,4,none⟩ = some (.int .i64 a1_4):=(aB BK2.out 4).trans rfl
 have hygb2_4_57:=aC BK2.out 4
 have hzgb18_0_57:w56.cell? ⟨gb18,0,none⟩ = some (.slice A18_2 r4_1.length c18_2):=(aB BK18.out 0).trans rfl
 have hygb18_0_57:=aC BK18.out 0
 have hzgb18_1_57:w56.cell? ⟨gb18,1,none⟩ = some (.slice A18_3 r4_2.length c18_3):=(aB BK18.out 1).trans rfl
 have hygb18_1_57:=aC BK18.out 1
 have hzgb21_0_57:w56.cell? ⟨gb21,0,none⟩ = some (.slice A20_0 r2_1.length c20_0):=(aB BK21.out 0).trans rfl
 have hygb21_0_57:=aC BK21.out 0
 have hzgb21_1_57:w56.cell? ⟨gb21,1,none⟩ = some (.slice A20_1 r2_2.length c20_1):=(aB BK21.out 1).trans rfl
 have hygb21_1_57:=aC BK21.out 1
 have hzgb32_0_57:w56.cell? ⟨gb32,0,none⟩ = some (.slice A32_0 r4_1.length c32_0):=(aB BK32.out 0).trans rfl
 have hygb32_0_57:=aC BK32.out 0
 have hzgb32_1_57:w56.cell? ⟨gb32,1,none⟩ = some (.slice A32_1 r4_2.length c32_1):=(aB BK32.out 1).trans rfl
 have hygb32_1_57:=aC BK32.out 1
 have hzgb56_0_57:w56.cell? ⟨gb56,0,none⟩ = some (.slice none 0 0):=(aB BK56.out 0).trans rfl
 have hygb56_0_57:=aC BK56.out 0
 have hzgb56_1_57:w56.cell? ⟨gb56,1,none⟩ = some (.slice none 0 0):=(aB BK56.out 1).trans rfl
 have hygb56_1_57:=aC BK56.out 1
 have hge_:w.heap.size ≤ gb56:=t6
 refine skip_ (w1:=?_) ta rfl ?_ ?_
 rotate_left
 ·go_simp
  rfl
 refine hK.out _ _ ?_
 clear hK K
 obtain ⟨w57,hw_⟩:∃ z_,z_ = ((w56.setCell ⟨gb56,0,none⟩ (.slice A56_2 r4_1.length c56_2)).setCell ⟨gb56,1,none⟩ (.slice A56_3 r4_2.length c56_3)):=⟨_,rfl⟩
 (try rw [← hw_])
 have hkp:Kept w56 w57 (fun k_=>k_ = gb56):=(by rw [hw_];exact Kept.setCell (Kept.setCell (Kept.refl w56 (fun k_=>k_ = gb56)) (.inl rfl) (.slice A56_2 r4_1.length c56_2)) (.inl rfl) (.slice A56_3 r4_2.length c56_3))
 have hbn_:Below w.heap.size w w57:=wB
 have hbk_:w57.heap[gb56]? = some (.cells #[.slice A56_2 r4_1.length c56_2,.slice A56_3 r4_2.length c56_3] 29 (0,0)):=(by rw [hw_];exact blk_put (cs:=#[.slice A56_2 r4_1.length c56_2,.slice none 0 0]) (cs':=#[.slice A56_2 r4_1.length c56_2,.slice A56_3 r4_2.length c56_3]) (blk_put (cs:=#[.slice none 0 0,.slice none 0 0]) (cs':=#[.slice A56_2 r4_1.length c56_2,.slice none 0 0]) (BK56.out) 0 _ rfl) 1 _ rfl)
 have hsz_:tp56 ≤ w57.heap.size:=Nat.le_trans HT.out hkp.1
 have n0_:=aA.mk (Kd.F_kept HF18_0.out hkp tV)
 have n1_:=aA.mk (Kd.F_kept HF18_1.out hkp tV)
 have n2_:=aA.mk (Kd.F_kept HF40_0.out hkp tT)
 have n3_:=aA.mk (Kd.F_kept HF40_1.out hkp tT)
 have n4_:=aA.mk (Kd.F_kept HF56_0.out hkp tT)
 have n5_:=aA.mk (Kd.R_kept HS56_0.out hkp tT)
 have n6_:=aA.mk (Kd.F_kept HF56_1.out hkp tT)
 have n7_:=aA.mk (Kd.S_kept HS56_1.out hkp tT)
 have n8_:=aA.mk (blk_kept BK1.out hkp tf)
 have n9_:=aA.mk (blk_kept BK2.out hkp tf)
 have n10_:=aA.mk (blk_kept BK18.out hkp tf)
 have n11_:=aA.mk (blk_kept BK21.out hkp tf)
 have n12_:=aA.mk (blk_kept BK32.out hkp tf)
 have n13_:=aA.mk (hbn_)
 have n14_:=aA.mk (hbk_)
 have n15_:=aA.mk (hsz_)
 (try clear HF18_0)
 (try clear HF18_1)
 (try clear HF40_0)
 (try clear HF40_1)
 (try clear HF56_0)
 (try clear HS56_0)
 (try clear HF56_1)
 (try clear HS56_1)
 (try clear BK1)
 (try clear BK2)
 (try clear BK18)
 (try clear BK21)
 (try clear BK32)
 (try clear HB)
 (try clear BK56)
 (try clear HT)
 have HF18_0:=n0_
 have HF18_1:=n1_
 have HF40_0:=n2_
 have HF40_1:=n3_
 have HF56_0:=n4_
 have HS56_0:=n5_
 have HF56_1:=n6_
 have HS56_1:=n7_
 have BK1:=n8_
 have BK2:=n9_
 have BK18:=n10_
 have BK21:=n11_
 have BK32:=n12_
 have HB:=n13_
 have BK56:=n14_
 have HT:=n15_
 clear n0_ n1_ n2_ n3_ n4_ n5_ n6_ n7_ n8_ n9_ n10_ n11_ n12_ n13_ n14_ n15_
 clear hw_ hkp hge_ hbn_ hbk_ hsz_
 refine pure_ (i:=10) (N:=some 15) (v:=?_) (a':=?_) (bq1 2047 11) rfl rfl tF (fun _ _ _ h=>h) (Or.inl ⟨vK,?_⟩) ?_ ?_
 rotate_left
 ·intro w'
  go_simp
  with_reducible rfl
 rotate_left
 ·simp only [Act.put,lA,lB,lC,aQ,aR]
  rfl
 refine done_ tF ?_
 have hzgb1_0_57:w57.cell? ⟨gb1,0,none⟩ = some (.slice A0_0 l0_0.length c0_0):=(aB BK1.out 0).trans rfl
 have hygb1_0_57:=aC BK1.out 0
 have hzgb1_1_57:w57.cell? ⟨gb1,1,none⟩ = some (.slice A0_1 l0_1.length c0_1):=(aB BK1.out 1).trans rfl
 have hygb1_1_57:=aC BK1.out 1
 have hzgb2_0_57:w57.cell? ⟨gb2,0,none⟩ = some (.int .i64 a1_0):=(aB BK2.out 0).trans rfl
 have hygb2_0_57:=aC BK2.out 0
 have hzgb2_1_57:w57.cell? ⟨gb2,1,none⟩ = some (.int .i64 a1_1):=(aB BK2.out 1).trans rfl
 have hygb2_1_57:=aC BK2.out 1
 have hzgb2_2_57:w57.cell? ⟨gb2,2,none⟩ = some (.int .i64 a1_2):=(aB BK2.out 2).trans rfl
 have hygb2_2_57:=aC BK2.out 2
 have hzgb2_3_57:w57.cell? ⟨gb2,3,none⟩ = some (.int .i64 a1_3):=(aB BK2.out 3).trans rfl
 have hygb2_3_57:=aC BK2.out 3
 have hzgb2_4_57:w57.cell? ⟨gb2,4,none⟩ = some (.int .i64 a1_4):=(aB BK2.out 4).trans rfl
 have hygb2_4_57:=aC BK2.out 4
 have hzgb18_0_57:w57.cell? ⟨gb18,0,none⟩ = some (.slice A18_2 r4_1.length c18_2):=(aB BK18.out 0).trans rfl
 have hygb18_0_57:=aC BK18.out 0
 have hzgb18_1_57:w57.cell? ⟨gb18,1,none⟩ = some (.slice A18_3 r4_2.length c18_3):=(aB BK18.out 1).trans rfl
 have hygb18_1_57:=aC BK18.out 1
 have hzgb21_0_57:w57.cell? ⟨gb21,0,none⟩ = some (.slice A20_0 r2_1.length c20_0):=(aB BK21.out 0).trans rfl
 have hygb21_0_57:=aC BK21.out 0
 have hzgb21_1_57:w57.cell? ⟨gb21,1,none⟩ = some (.slice A20_1 r2_2.length c20_1):=(aB BK21.out 1).trans rfl
 have hygb21_1_57:=aC BK21.out 1
 have hzgb32_0_57:w57.cell? ⟨gb32,0,none⟩ = some (.slice A32_0 r4_1.length c32_0):=(aB BK32.out 0).trans rfl
 have hygb32_0_57:=aC BK32.out 0
 have hzgb32_1_57:w57.cell? ⟨gb32,1,none⟩ = some (.slice A32_1 r4_2.length c32_1):=(aB BK32.out 1).trans rfl
 have hygb32_1_57:=aC BK32.out 1
 have hzgb56_0_57:w57.cell? ⟨gb56,0,none⟩ = some (.slice A56_2 r4_1.length c56_2):=(aB BK56.out 0).trans rfl
 have hygb56_0_57:=aC BK56.out 0
 have hzgb56_1_57:w57.cell? ⟨gb56,1,none⟩ = some (.slice A56_3 r4_2.length c56_3):=(aB BK56.out 1).trans rfl
 have hygb56_1_57:=aC BK56.out 1
 go_wp2_with (first|((with_reducible refine aT (f:=10) rfl ?_);refine goesL_ (some 89) rfl rfl Try.func10 tF rfl #[.agg #[.slice A56_2 r4_1.length c56_2,.slice A56_3 r4_2.length c56_3],.agg #[.slice A18_2 r4_1.length c18_2,.slice A18_3 r4_2.length c18_3]] rfl tA ?_;(with_reducible refine (laws_eqTree.calls k6 _ _ r4_1 _ _ r4_2 _ _ r4_1 _ _ r4_2 true _ ?s1 ?s2 ?s3 ?s4 ?s5 ?s6 ?s7 ?s8 Q6.out).mono ?_);(case s1=>exact (Kd.F_now HF56_0.out));(case s2=>exact HC56_0.out);(case s3=>exact (Kd.F_now HF56_1.out));(case s4=>exact HC56_1.out);(case s5=>exact (Kd.F_now HF18_0.out));(case s6=>exact HC18_0.out);(case s7=>exact (Kd.F_now HF18_1.out));(case s8=>exact HC18_1.out);rintro e_ w58 ⟨rfl,hb⟩;refine ⟨_,rfl,?_⟩;have n0_:=aA.mk (Kd.aK HF40_0.out hb);have n1_:=aA.mk (Kd.aK HF40_1.out hb);have n2_:=aA.mk (aG BK1.out hb);have n3_:=aA.mk (aG BK2.out hb);have n4_:=aA.mk (aG BK18.out hb);have n5_:=aA.mk (aG BK21.out hb);have n6_:=aA.mk (aG BK32.out hb);have n7_:=aA.mk (aG BK56.out hb);have n8_:=aA.mk (aJ HB.out hb);have n9_:=aA.mk (Nat.le_trans HT.out hb.size);(try clear HF18_0);(try clear HC18_0);(try clear HF18_1);(try clear HC18_1);(try clear HF56_0);(try clear HS56_0);(try clear HC56_0);(try clear HF56_1);(try clear HS56_1);(try clear HC56_1);(try clear HF40_0);(try clear HF40_1);(try clear BK1);(try clear BK2);(try clear BK18);(try clear BK21);(try clear BK32);(try clear BK56);(try clear HB);(try clear HT);have HF40_0:=n0_;have HF40_1:=n1_;have BK1:=n2_;have BK2:=n3_;have BK18:=n4_;have BK21:=n5_;have BK32:=n6_;have BK56:=n7_;have HB:=n8_;have HT:=n9_;clear n0_ n1_ n2_ n3_ n4_ n5_ n6_ n7_ n8_ n9_;(try clear hb);have hzgb1_0_58:w58.cell? ⟨gb1,0,none⟩ = some (.slice A0_0 l0_0.length c0_0):=(aB BK1.out 0).trans rfl;have hygb1_0_58:=aC BK1.out 0;have hzgb1_1_58:w58.cell? ⟨gb1,1,none⟩ = some (.slice A0_1 l0_1.length c0_1):=(aB BK1.out 1).trans rfl;have hygb1_1_58:=aC BK1.out 1;have hzgb2_0_58:w58.cell? ⟨gb2,0,none⟩ = some (.int .i64 a1_0):=(aB BK2.out 0).trans rfl;have hygb2_0_58:=aC BK2.out 0;have hzgb2_1_58:w58.cell? ⟨gb2,1,none⟩ = some (.int .i64 a1_1):=(aB BK2.out 1).trans rfl;have hygb2_1_58:=aC BK2.out 1;have hzgb2_2_58:w58.cell? ⟨gb2,2,none⟩ = some (.int .i64 a1_2):=(aB BK2.out 2).trans rfl;have hygb2_2_58:=aC BK2.out 2;have hzgb2_3_58:w58.cell? ⟨gb2,3,none⟩ = some (.int .i64 a1_3):=(aB BK2.out 3).trans rfl;have hygb2_3_58:=aC BK2.out 3;have hzgb2_4_58:w58.cell? ⟨gb2,4,none⟩ = some (.int .i64 a1_4):=(aB BK2.out 4).trans rfl;have hygb2_4_58:=aC BK2.out 4;have hzgb18_0_58:w58.cell? ⟨gb18,0,none⟩ = some (.slice A18_2 r4_1.length c18_2):=(aB BK18.out 0).trans rfl;have hygb18_0_58:=aC BK18.out 0;have hzgb18_1_58:w58.cell? ⟨gb18,1,none⟩ = some (.slice A18_3 r4_2.length c18_3):=(aB BK18.out 1).trans rfl;have hygb18_1_58:=aC BK18.out 1;have hzgb21_0_58:w58.cell? ⟨gb21,0,none⟩ = some (.slice A20_0 r2_1.length c20_0):=(aB BK21.out 0).trans rfl;have hygb21_0_58:=aC BK21.out 0;have hzgb21_1_58:w58.cell? ⟨gb21,1,none⟩ = some (.slice A20_1 r2_2.length c20_1):=(aB BK21.out 1).trans rfl;have hygb21_1_58:=aC BK21.out 1;have hzgb32_0_58:w58.cell? ⟨gb32,0,none⟩ = some (.slice A32_0 r4_1.length c32_0):=(aB BK32.out 0).trans rfl;have hygb32_0_58:=aC BK32.out 0;have hzgb32_1_58:w58.cell? ⟨gb32,1,none⟩ = some (.slice A32_1 r4_2.length c32_1):=(aB BK32.out 1).trans rfl;have hygb32_1_58:=aC BK32.out 1;have hzgb56_0_58:w58.cell? ⟨gb56,0,none⟩ = some (.slice A56_2 r4_1.length c56_2):=(aB BK56.out 0).trans rfl;have hygb56_0_58:=aC BK56.out 0;have hzgb56_1_58:w58.cell? ⟨gb56,1,none⟩ = some (.slice A56_3 r4_2.length c56_3):=(aB BK56.out 1).trans rfl;have hygb56_1_58:=aC BK56.out 1)|((with_reducible refine aT (f:=12) rfl ?_);refine goesL_ (some 98) rfl rfl Try.func12 tF rfl #[.agg #[.slice A32_0 r4_1.length c32_0,.slice A32_1 r4_2.length c32_1],.int .i64 1] rfl tA ?_;refine calls_of_args (args':=#[.agg #[.slice A32_0 r9_2.length c32_0,.slice A32_1 r9_3.length c32_1],.int .i64 1]) (by simp only [HL40_0.out,HL40_1.out]) ?_;(with_reducible refine (laws_heldTree.calls k10 _ _ r9_2 _ _ r9_3 1 r9_1 _ ?s1 ?s2 ?s3 ?s4 Q10.out).mono ?_);(case s1=>exact (Kd.F_now HF40_0.out));(case s2=>exact HC40_0.out);(case s3=>exact (Kd.F_now HF40_1.out));(case s4=>exact HC40_1.out);rintro e_ w59 ⟨rfl,hb⟩;refine ⟨_,rfl,?_⟩;have n0_:=aA.mk (aG BK1.out hb);have n1_:=aA.mk (aG BK2.out hb);have n2_:=aA.mk (aG BK18.out hb);have n3_:=aA.mk (aG BK21.out hb);have n4_:=aA.mk (aG BK32.out hb);have n5_:=aA.mk (aG BK56.out hb);have n6_:=aA.mk (aJ HB.out hb);have n7_:=aA.mk (Nat.le_trans HT.out hb.size);(try clear HF40_0);(try clear HC40_0);(try clear HL40_0);(try clear HF40_1);(try clear HC40_1);(try clear HL40_1);(try clear BK1);(try clear BK2);(try clear BK18);(try clear BK21);(try clear BK32);(try clear BK56);(try clear HB);(try clear HT);have BK1:=n0_;have BK2:=n1_;have BK18:=n2_;have BK21:=n3_;have BK32:=n4_;have BK56:=n5_;have HB:=n6_;have HT:=n7_;clear n0_ n1_ n2_ n3_ n4_ n5_ n6_ n7_;(try clear hb);have hzgb1_0_59:w59.cell? ⟨gb1,0,none⟩ = some (.slice A0_0 l0_0.length c0_0):=(aB BK1.out 0).trans rfl;have hygb1_0_59:=aC BK1.out 0;have hzgb1_1_59:w59.cell? ⟨gb1,1,none⟩ = some (.slice A0_1 l0_1.length c0_1):=(aB BK1.out 1).trans rfl;have hygb1_1_59:=aC BK1.out 1;have hzgb2_0_59:w59.cell? ⟨gb2,0,none⟩ = some (.int .i64 a1_0):=(aB BK2.out 0).trans rfl;have hygb2_0_59:=aC BK2.out 0;have hzgb2_1_59:w59.cell? ⟨gb2,1,none⟩ = some (.int .i64 a1_1):=(aB BK2.out 1).trans rfl;have hygb2_1_59:=aC BK2.out 1;have hzgb2_2_59:w59.cell? ⟨gb2,2,none⟩ = some (.int .i64 a1_2):=(aB BK2.out 2).trans rfl;have hygb2_2_59:=aC BK2.out 2;have hzgb2_3_59:w59.cell? ⟨gb2,3,none⟩ = some (.int .i64 a1_3):=(aB BK2.out 3).trans rfl;have hygb2_3_59:=aC BK2.out 3;have hzgb2_4_59:w59.cell? ⟨gb2,4,none⟩ = some (.int .i64 a1_4):=(aB BK2.out 4).trans rfl;have hygb2_4_59:=aC BK2.out 4;have hzgb18_0_59:w59.cell? ⟨gb18,0,none⟩ = some (.slice A18_2 r4_1.length c18_2):=(aB BK18.out 0).trans rfl;have hygb18_0_59:=aC BK18.out 0;have hzgb18_1_59:w59.cell? ⟨gb18,1,none⟩ = some (.slice A18_3 r4_2.length c18_3):=(aB BK18.out 1).trans rfl;have hygb18_1_59:=aC BK18.out 1;have hzgb21_0_59:w59.cell? ⟨gb21,0,none⟩ = some (.slice A20_0 r2_1.length c20_0):=(aB BK21.out 0).trans rfl;have hygb21_0_59:=aC BK21.out 0;have hzgb21_1_59:w59.cell? ⟨gb21,1,none⟩ = some (.slice A20_1 r2_2.length c20_1):=(aB BK21.out 1).trans rfl;have hygb21_1_59:=aC BK21.out 1;have hzgb32_0_59:w59.cell? ⟨gb32,0,none⟩ = some (.slice A32_0 r4_1.length c32_0):=(aB BK32.out 0).trans rfl;have hygb32_0_59:=aC BK32.out 0;have hzgb32_1_59:w59.cell? ⟨gb32,1,none⟩ = some (.slice A32_1 r4_2.length c32_1):=(aB BK32.out 1).trans rfl;have hygb32_1_59:=aC BK32.out 1;have hzgb56_0_59:w59.cell? ⟨gb56,0,none⟩ = some (.slice A56_2 r4_1.length c56_2):=(aB BK56.out 0).trans rfl;have hygb56_0_59:=aC BK56.out 0;have hzgb56_1_59:w59.cell? ⟨gb56,1,none⟩ = some (.slice A56_3 r4_2.length c56_3):=(aB BK56.out 1).trans rfl;have hygb56_1_59:=aC BK56.out 1))
 have hres_:=@results_tmp Try.f5 4 tF
 refine bodyPost_ret (fn:=Try.f5) (P:=Try.prog) (hres_ _ _ _) rfl ?_
 exact ⟨rfl,HB.out⟩
set_option maxHeartbeats 2000000 in
theorem laws_FnExactTreePut.calls (A0_0:Option Addr) (c0_0:Nat) (l0_0:List (Int)) (A0_1:Option Addr) (c0_1:Nat) (l0_1:List (S87)) (a1_0:Int) (a1_1:Int) (a1_2:Int) (a1_3:Int) (a1_4:Int) (w:World) (hr0_0:Kd.C (Kd.int .i64) w A0_0 l0_0.length l0_0) (hc0_0:l0_0.length ≤ c0_0) (hr0_1:Kd.C k87 w A0_1 l0_1.length l0_1) (hc0_1:l0_1.length ≤ c0_1) (h0:(l0_0.length ≤ 9223372036854775807 ∧ ∀ y0 ∈ l0_0,(Lit.int .i64 y0).wf = true) ∧ (l0_1.length ≤ 9223372036854775807 ∧ ∀ y0 ∈ l0_1,((y0.f0.length ≤ 9223372036854775807 ∧ ∀ y1 ∈ y0.f0,(y1.length ≤ 9223372036854775807 ∧ ∀ y2 ∈ y1,((Lit.int .i64 y2.f0).wf = true ∧ (Lit.int .i64 y2.f1).wf = true ∧ (Lit.int .i64 y2.f2).wf = true ∧ (Lit.int .i64 y2.f3).wf = true ∧ (Lit.int .i64 y2.f4).wf = true)))))) (h1:(Lit.int .i64 a1_0).wf = true ∧ (Lit.int .i64 a1_1).wf = true ∧ (Lit.int .i64 a1_2).wf = true ∧ (Lit.int .i64 a1_3).wf = true ∧ (Lit.int .i64 a1_4).wf = true) :
  Calls Try.prog 5 #[.agg #[.slice A0_0 l0_0.length c0_0,.slice A0_1 l0_1.length c0_1],.agg #[.int .i64 a1_0,.int .i64 a1_1,.int .i64 a1_2,.int .i64 a1_3,.int .i64 a1_4]] w fun e w'=>e = .returned (.bool true) ∧ Below w.heap.size w w':=by
 have u0_0:=sumIntS_nn l0_0
 have u0_1:=sumNodeS_pos l0_1
 have u0_2:sumTree l0_0 l0_1 = sumIntS l0_0 + sumNodeS l0_1:=rfl
 by_cases c0:1048576 < sumTree l0_0 l0_1
 ·obtain ⟨_,A1⟩:∃ k:Nat,laws_szTree.f k l0_0 l0_1 1048576 = some (-1):=evGet (szTree_big l0_0 l0_1 _ h0.1.1 ⟨h0.2.1,fun x hx=>⟨(h0.2.2 x hx).1,fun y hy=>((h0.2.2 x hx).2 y hy).1⟩⟩ tD tD c0)
  exact walkFnExactTreePutbig _ _ _ _ _ _ _ _ _ _ _ _ _ w hr0_0 hc0_0 hr0_1 hc0_1 A1 tq
 obtain ⟨_,A1⟩:∃ k:Nat,laws_szTree.f k l0_0 l0_1 1048576 = some (1048576 - sumTree l0_0 l0_1):=evGet (szTree_fit l0_0 l0_1 _ h0.1.1 ⟨h0.2.1,fun x hx=>⟨(h0.2.2 x hx).1,fun y hy=>((h0.2.2 x hx).2 y hy).1⟩⟩ tD tD c0)
 have i0_0:inIntS l0_0:=in_of_sumIntS tD
 have i0_1:inNodeS l0_1:=in_of_sumNodeS tD
 have o0_0:okIntS l0_0:=ok_of_inIntS i0_0
 have q0_0:=cntIntS_nn o0_0
 have o0_1:okNodeS (convNodeS l0_1):=ok_of_inNodeS i0_1
 have q0_1:=cntNodeS_nn o0_1
 have oR0:okIntS ((treePut l0_0 (convNodeS l0_1) (⟨a1_0,a1_1,a1_2,a1_3,a1_4⟩:S38)).1):=(treePut_oks (⟨a1_0,a1_1,a1_2,a1_3,a1_4⟩:S38) o0_0 o0_1).1
 have qR0:=cntIntS_nn oR0
 have oR1:okNodeS ((treePut l0_0 (convNodeS l0_1) (⟨a1_0,a1_1,a1_2,a1_3,a1_4⟩:S38)).2.1):=(treePut_oks (⟨a1_0,a1_1,a1_2,a1_3,a1_4⟩:S38) o0_0 o0_1).2
 have qR1:=cntNodeS_nn oR1
 obtain ⟨_,A2⟩:∃ k:Nat,laws_toTree.f k l0_0 l0_1 = some (l0_0,((convNodeS l0_1))):=evGet (toTree_ev _ _ tH tH)
 obtain ⟨_,A3⟩:∃ k:Nat,laws_toKey.f a1_0 a1_1 a1_2 a1_3 a1_4 = some (a1_0,a1_1,a1_2,a1_3,a1_4):=⟨0,rfl⟩
 obtain ⟨_,A4⟩:∃ k:Nat,spec_TreePut.f k l0_0 ((convNodeS l0_1)) a1_0 a1_1 a1_2 a1_3 a1_4 = some (((treePut l0_0 (convNodeS l0_1) (⟨a1_0,a1_1,a1_2,a1_3,a1_4⟩:S38)).1),((treePut l0_0 (convNodeS l0_1) (⟨a1_0,a1_1,a1_2,a1_3,a1_4⟩:S38)).2.1),((treePut l0_0 (convNodeS l0_1) (⟨a1_0,a1_1,a1_2,a1_3,a1_4⟩:S38)).2.2)):=evGet (spec_TreePut_ev _ _ (⟨a1_0,a1_1,a1_2,a1_3,a1_4⟩:S38) o0_0 o0_1)
 obtain ⟨_,A5⟩:∃ k:Nat,impl_TreePut.f k l0_0 ((convNodeS l0_1)) a1_0 a1_1 a1_2 a1_3 a1_4 = some (((treePut l0_0 (convNodeS l0_1) (⟨a1_0,a1_1,a1_2,a1_3,a1_4⟩:S38)).1),((treePut l0_0 (convNodeS l0_1) (⟨a1_0,a1_1,a1_2,a1_3,a1_4⟩:S38)).2.1),((treePut l0_0 (convNodeS l0_1) (⟨a1_0,a1_1,a1_2,a1_3,a1_4⟩:S38)).2.2)):=evGet (impl_TreePut_ev _ _ (⟨a1_0,a1_1,a1_2,a1_3,a1_4⟩:S38) o0_0 o0_1)
 obtain ⟨_,A6⟩:∃ k:Nat,laws_eqTree.f k ((treePut l0_0 (convNodeS l0_1) (⟨a1_0,a1_1,a1_2,a1_3,a1_4⟩:S38)).1) ((treePut l0_0 (convNodeS l0_1) (⟨a1_0,a1_1,a1_2,a1_3,a1_4⟩:S38)).2.1) ((treePut l0_0 (convNodeS l0_1) (⟨a1_0,a1_1,a1_2,a1_3,a1_4⟩:S38)).1) ((treePut l0_0 (convNodeS l0_1) (⟨a1_0,a1_1,a1_2,a1_3,a1_4⟩:S38)).2.1) = some true:=evGet (eqTree_ev _ _ tH tH)
 obtain ⟨_,A7⟩:∃ k:Nat,laws_eqTree.f k l0_0 ((convNodeS l0_1)) l0_0 ((convNodeS l0_1)) = some true:=evGet (eqTree_ev _ _ tH tH)
 obtain ⟨_,A8⟩:∃ k:Nat,laws_markTree.f l0_0 ((convNodeS l0_1)) 1 = some ((1 + (cntIntS l0_0 + cntNodeS ((convNodeS l0_1)))),(mkIntS l0_0 1),(mkNodeS ((convNodeS l0_1)) (1 + cntIntS l0_0))):=⟨0,markTree_f tH tH tD tD⟩
 obtain ⟨_,A9⟩:∃ k:Nat,laws_markTree.f ((treePut l0_0 (convNodeS l0_1) (⟨a1_0,a1_1,a1_2,a1_3,a1_4⟩:S38)).1) ((treePut l0_0 (convNodeS l0_1) (⟨a1_0,a1_1,a1_2,a1_3,a1_4⟩:S38)).2.1) 1 = some ((1 + (cntIntS ((treePut l0_0 (convNodeS l0_1) (⟨a1_0,a1_1,a1_2,a1_3,a1_4⟩:S38)).1) + cntNodeS ((treePut l0_0 (convNodeS l0_1) (⟨a1_0,a1_1,a1_2,a1_3,a1_4⟩:S38)).2.1))),(mkIntS ((treePut l0_0 (convNodeS l0_1) (⟨a1_0,a1_1,a1_2,a1_3,a1_4⟩:S38)).1) 1),(mkNodeS ((treePut l0_0 (convNodeS l0_1) (⟨a1_0,a1_1,a1_2,a1_3,a1_4⟩:S38)).2.1) (1 + cntIntS ((treePut l0_0 (convNodeS l0_1) (⟨a1_0,a1_1,a1_2,a1_3,a1_4⟩:S38)).1)))):=⟨0,markTree_f tH tH tD tD⟩
 obtain ⟨_,A10⟩:∃ k:Nat,laws_heldTree.f k (mkIntS ((treePut l0_0 (convNodeS l0_1) (⟨a1_0,a1_1,a1_2,a1_3,a1_4⟩:S38)).1) 1) (mkNodeS ((treePut l0_0 (convNodeS l0_1) (⟨a1_0,a1_1,a1_2,a1_3,a1_4⟩:S38)).2.1) (1 + cntIntS ((treePut l0_0 (convNodeS l0_1) (⟨a1_0,a1_1,a1_2,a1_3,a1_4⟩:S38)).1))) 1 = some (1 + (cntIntS ((treePut l0_0 (convNodeS l0_1) (⟨a1_0,a1_1,a1_2,a1_3,a1_4⟩:S38)).1) + cntNodeS ((treePut l0_0 (convNodeS l0_1) (⟨a1_0,a1_1,a1_2,a1_3,a1_4⟩:S38)).2.1))):=evGet (heldTree_ev _ _ _ tH tH tD tD)
 exact walkFnExactTreePut _ _ _ _ _ _ _ _ _ _ _ _ _ _ _ _ _ _ _ _ _ _ _ _ _ _ _ _ _ _ _ _ _ _ _ w hr0_0 hc0_0 hr0_1 hc0_1 A1 A2 A3 A4 A5 A6 A7 A8 A9 A10 tD tD tD
end Go.Proofs.Ytamjbjkbineafaa.Law
