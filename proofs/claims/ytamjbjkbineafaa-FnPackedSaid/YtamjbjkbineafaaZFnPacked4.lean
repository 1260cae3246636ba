/- The law: the functions that it reaches, each with the proof that the machine's call comes to its answer, what they answer, and the law's row; each theorem says its conditions itself. -/
import Derived.Test.YtamjbjkbineafaaZFnPacked3
import Derived.ChangeArms
import Derived.ChangeShapes
import Derived.WideShapes
import Derived.Test.YtamjbjkbineafaaRows
import Derived.WalkKit
import Derived.ProofKit
import Derived.OpenShut
import Derived.ShutString
import Derived.ChangeOld
import Derived.Below
import Derived.SizedLaws
namespace Go.Proofs.Ytamjbjkbineafaa.Pure
open Go.RowKit Go.Proofs.Ytamjbjkbineafaa.PFnPacked Go.Proofs.Ytamjbjkbineafaa.Core Go.Proofs.YtamjbjkbineafaaW.PrintWords Go.Proofs.YtamjbjkbineafaaW.PrintLast
set_option linter.unusedSimpArgs false
set_option linter.unusedVariables false
theorem impl_copyKeys_f (a:List S38) (h:a.length ≤ 4194304):impl_copyKeys.f a = some a:=by
 simp only [impl_copyKeys.f,Option.bind_some,List.length_nil,List.nil_append]
 rw [if_pos tB]
def okKeyS (l:List S38):Prop:=l.length ≤ 4194304
def cntKeyS (l:List S38):Int:=5 * l.length
/-- What the impl's side holds, all in all. -/
def bulkKeySS:List (List S38) → Nat
 | []=>0
 | x :: xs=>1 + x.length + bulkKeySS xs
def okKeySS (l:List (List S38)):Prop:=bulkKeySS l ≤ 4194304
theorem bulkKeySS_len:∀ l:List (List S38),l.length ≤ bulkKeySS l
 | []=>by simp [bulkKeySS]
 | x :: xs=>by have:=bulkKeySS_len xs;simp only [bulkKeySS,List.length_cons];omega
theorem bulkKeySS_at:∀ (l:List (List S38)) (i:Nat),i < l.length → (l.getD i []).length ≤ bulkKeySS l
 | x :: xs,0,_=>by simp only [bulkKeySS,List.getD_cons_zero];omega
 | x :: xs,i + 1,h=>by
  have:=bulkKeySS_at xs i (by simpa using h)
  simp only [bulkKeySS,List.getD_cons_succ];omega
theorem okKeySS_at {l:List (List S38)} (h:okKeySS l) (i:Nat) (hi:i < l.length):okKeyS (l.getD i []):=by
 have h1:=bulkKeySS_at l i hi
 unfold okKeySS at h
 show (l.getD i []).length ≤ 4194304
 omega
theorem okKeySS_len {l:List (List S38)} (h:okKeySS l):l.length ≤ 4194304:=by have:=bulkKeySS_len l;unfold okKeySS at h;omega
theorem impl_copyNode_ev (ls:List (List S38)) (ho:okKeySS ls):Ev (fun k=>impl_copyNode.f k ls) ls:=by
 have h:=okKeySS_len ho
 obtain ⟨K,hk⟩:=evRange0 (σ:=List (List S38)) ls.length (fun k s i=>impl_copyNode.l0 k ls (ls.length:Int) i s) (fun i s=>s = ls.take i) (fun _ _=>ls) [] te
  (by
   intro i s hi hs
   subst hs
   have hr:rd_L2 ls (i:Int) = ls.getD i []:=by simp [rd_L2]
   have hb:=okKeySS_at ho i hi
   unfold okKeyS at hb
   have hc:=impl_copyKeys_f (ls.getD i []) hb
   have hl:(ls.take i).length = i:=by simp;omega
   refine .inl ⟨ls.take (i + 1),rfl,rfl,0,1,fun k _=>?_⟩
   simp only [impl_copyNode.l0,hr,hc,Option.bind_some]
   rw [if_pos tB,if_pos tB,if_pos tB,if_pos tB,w64s i tB,take_getD ls i [] hi])
  (by
   intro s hs
   subst hs
   refine ⟨0,1,fun k _=>?_⟩
   simp only [impl_copyNode.l0]
   rw [if_neg tB,List.take_length])
 exact vX
/-- What the impl's side holds, all in all. -/
def bulkNodeS:List (S59) → Nat
 | []=>0
 | x :: xs=>1 + bulkKeySS x.f0 + bulkNodeS xs
def okNodeS (l:List (S59)):Prop:=bulkNodeS l ≤ 4194304
theorem bulkNodeS_len:∀ l:List (S59),l.length ≤ bulkNodeS l
 | []=>by simp [bulkNodeS]
 | x :: xs=>by have:=bulkNodeS_len xs;simp only [bulkNodeS,List.length_cons];omega
theorem bulkNodeS_at:∀ (l:List (S59)) (i:Nat),i < l.length → bulkKeySS (l.getD i z59).f0 ≤ bulkNodeS l
 | x :: xs,0,_=>by simp only [bulkNodeS,List.getD_cons_zero];omega
 | x :: xs,i + 1,h=>by
  have:=bulkNodeS_at xs i (by simpa using h)
  simp only [bulkNodeS,List.getD_cons_succ];omega
theorem okNodeS_at {l:List (S59)} (h:okNodeS l) (i:Nat) (hi:i < l.length):okKeySS (l.getD i z59).f0:=by
 have h1:=bulkNodeS_at l i hi
 unfold okNodeS at h
 show bulkKeySS (l.getD i z59).f0 ≤ 4194304
 omega
theorem okNodeS_len {l:List (S59)} (h:okNodeS l):l.length ≤ 4194304:=by have:=bulkNodeS_len l;unfold okNodeS at h;omega
def okIntS (l:List Int):Prop:=l.length ≤ 4194304
def cntIntS (l:List Int):Int:=l.length
def inIntS (l:List Int):Prop:=l.length ≤ 1048576
def sumIntS (l:List Int):Int:=l.length
theorem impl_copyInts_f (s:List Int) (h:s.length ≤ 4194304):impl_copyInts.f s = some s:=by
 simp only [impl_copyInts.f,Option.bind_some,List.length_nil,List.nil_append]
 rw [if_pos tB]
theorem impl_copyTree_ev (s:List Int) (l:List S59) (hs:s.length ≤ 4194304) (ho:okNodeS l):Ev (fun k=>impl_copyTree.f k s l) (s,l):=by
 have h:=okNodeS_len ho
 obtain ⟨K,hk⟩:=evRange0 (σ:=List S59) l.length (fun k x i=>impl_copyTree.l0 k l (l.length:Int) i s x) (fun i x=>x = l.take i) (fun _ _=>(s,l)) [] te
  (by
   intro i x hi hx
   subst hx
   have hr:rd_T59 l (i:Int) = l.getD i z59:=by simp [rd_T59]
   obtain ⟨K,e⟩:=impl_copyNode_ev (l.getD i z59).f0 (okNodeS_at ho i hi)
   have hl:(l.take i).length = i:=by simp;omega
   refine .inl ⟨l.take (i + 1),rfl,rfl,K,1,fun k hk=>?_⟩
   have a:=e k hk
   simp only at a
   simp only [impl_copyTree.l0,hr,a,Option.bind_some]
   rw [if_pos tB,if_pos tB,if_pos tB,if_pos tB,w64s i tB,take_getD l i z59 hi])
  (by
   intro x hx
   subst hx
   refine ⟨0,1,fun k _=>?_⟩
   simp only [impl_copyTree.l0]
   rw [if_neg tB,List.take_length])
 refine ⟨K,fun k hk'=>?_⟩
 simp only [impl_copyTree.f,impl_copyInts_f s hs,Option.bind_some]
 exact hk k hk'
theorem impl_within_f (a b c:Int):impl_within.f a b c = some (decide (b ≤ a ∧ a ≤ c)):=by
 unfold impl_within.f
 by_cases h:a ≥ b
 ·rw [if_pos h];congr 1;rw [Bool.eq_iff_iff];simp;omega
 ·rw [if_neg h];congr 1;rw [Bool.eq_iff_iff];simp;omega
def less (a b:S38):Bool:=decide (a.f0 < b.f0 ∨ a.f0 = b.f0 ∧ a.f1 < b.f1)
def same (a b:S38):Bool:=decide (a.f0 = b.f0 ∧ a.f1 = b.f1)
def putGo (k:S38):List S38 → Bool → List S38
 | [],p=>if p then [] else [k]
 | x :: xs,p=>(if p || less x k then [] else [k]) ++ ((if same x k then [] else [x]) ++ putGo k xs (p || !less x k))
def setPut (l:List S38) (k:S38):List S38:=putGo k l false
def mergeSets (a b:List S38):List S38:=b.foldl setPut a
def dropNone (l:List S38):List S38:=l.filter fun x=>x.f2 != 0
theorem putGo_length (k:S38):∀ (l:List S38) (p:Bool),(putGo k l p).length ≤ l.length + 1
 | [],p=>by cases p <;> simp [putGo]
 | x :: xs,p=>by
  have ih:=putGo_length k xs
  have ih1:p = true → (putGo k xs true).length ≤ xs.length:=fun _=>by
   clear ih
   induction xs with
   | nil=>simp [putGo]
   | cons y ys ih=>simp only [putGo,Bool.true_or,if_true,List.nil_append,List.length_append,List.length_cons];split <;> simp <;> omega
  simp only [putGo,List.length_append,List.length_cons]
  cases p with
  | true=>simp only [Bool.true_or,if_true,List.length_nil];have:=ih1 rfl;split <;> simp <;> omega
  | false =>
   cases hx:less x k with
   | true=>simp only [Bool.false_or,if_true,Bool.not_true,List.length_nil];have:=ih false;split <;> simp <;> omega
   | false =>
    simp only [Bool.false_or,Bool.not_false,if_false,Bool.false_eq_true,List.length_cons,List.length_nil]
    have h2:(putGo k xs true).length ≤ xs.length:=by
     clear ih ih1
     induction xs with
     | nil=>simp [putGo]
     | cons y ys ih=>simp only [putGo,Bool.true_or,if_true,List.nil_append,List.length_append,List.length_cons];split <;> simp <;> omega
    split <;> simp <;> omega
theorem setPut_length (l:List S38) (k:S38):(setPut l k).length ≤ l.length + 1:=putGo_length k l false
theorem mergeSets_length (a b:List S38):(mergeSets a b).length ≤ a.length + b.length:=by
 unfold mergeSets
 induction b generalizing a with
 | nil=>simp
 | cons x xs ih=>simp only [List.foldl_cons,List.length_cons];have:=ih (setPut a x);have:=setPut_length a x;omega
theorem impl_LessKey_f (a b:S38):impl_LessKey.f a.f0 a.f1 a.f2 a.f3 a.f4 b.f0 b.f1 b.f2 b.f3 b.f4 = some (less a b):=by
 unfold impl_LessKey.f less
 split
 ·simp [*]
 ·split
  ·simp [*]
  ·simp [*]
theorem impl_SameSpot_f (a b:S38):impl_SameSpot.f a.f0 a.f1 a.f2 a.f3 a.f4 b.f0 b.f1 b.f2 b.f3 b.f4 = some (same a b):=by
 unfold impl_SameSpot.f same
 split
 ·simp only [*,true_and,Option.some.injEq];rw [Bool.eq_iff_iff];simp
 ·simp [*]
theorem impl_SetPut_ev (l:List S38) (x:S38) (h:l.length ≤ 4194304):Ev (fun k=>impl_SetPut.f k l x.f0 x.f1 x.f2 x.f3 x.f4) (setPut l x):=by
 obtain ⟨K,hk⟩:=evRange0 (σ:=List S38 × Bool) l.length (fun k s i=>impl_SetPut.l0 k s.1 s.2 l (l.length:Int) i x.f0 x.f1 x.f2 x.f3 x.f4) (fun i s=>s.1.length ≤ 2 * i) (fun i s=>s.1 ++ putGo x (l.drop i) s.2) ([],false) te
  (by
   intro i s hi hs
   obtain ⟨out,put⟩:=s
   simp only at hs
   have hd:=drop_getD l i z38 hi
   have hr:rd_T38 l (i:Int) = l.getD i z38:=by simp [rd_T38]
   refine .inl ⟨(out ++ (if put || less (l.getD i z38) x then [] else [x]) ++ (if same (l.getD i z38) x then [] else [l.getD i z38]),put || !less (l.getD i z38) x),?_,?_,0,2,fun k _=>?_⟩
   ·simp only [List.length_append];split <;> split <;> simp <;> omega
   ·simp only [hd,putGo,List.append_assoc]
   ·generalize hy:l.getD i z38 = y at *
    simp only [impl_SetPut.l0,hr]
    rw [if_pos tB,if_pos tB,if_pos tB]
    rw [impl_LessKey_f]
    simp only [Option.bind_some,impl_SetPut.j1]
    have hw:=w64s i tB
    cases put <;> cases hl:less y x <;> cases hq:same y x <;>
     simp only [Bool.not_true,Bool.not_false,if_true,if_false,Bool.false_eq_true,reduceCtorEq,impl_SameSpot_f,Option.bind_some,hq,hw,Bool.or_true,Bool.true_or,Bool.or_false,Bool.false_or,List.append_nil,List.append_assoc] <;>
     (repeat rw [if_pos (by first|omega|(simp only [List.length_append,List.length_cons,List.length_nil];omega))]) <;> rfl)
  (by
   intro s hs
   obtain ⟨out,put⟩:=s
   simp only at hs
   refine ⟨0,1,fun k _=>?_⟩
   simp only [impl_SetPut.l0]
   rw [if_neg tB]
   cases put
   ·rw [if_neg te,if_pos tB];simp [putGo]
   ·rw [if_pos rfl];simp [putGo])
 exact vX
theorem impl_MergeSets_ev (a b:List S38) (h:a.length + b.length ≤ 4194304):Ev (fun k=>impl_MergeSets.f k a b) (mergeSets a b):=by
 obtain ⟨K,hk⟩:=evRange0 (σ:=List S38) b.length (fun k s i=>impl_MergeSets.l0 k s b (b.length:Int) i) (fun i s=>s.length ≤ a.length + i) (fun i s=>mergeSets s (b.drop i)) a te
  (by
   intro i s hi hs
   have hd:=drop_getD b i z38 hi
   have hr:rd_T38 b (i:Int) = b.getD i z38:=by simp [rd_T38]
   obtain ⟨K,e⟩:=impl_SetPut_ev s (b.getD i z38) tB
   have hlen:=setPut_length s (b.getD i z38)
   refine .inl ⟨setPut s (b.getD i z38),wY,by simp only [hd,mergeSets,List.foldl_cons],K,1,fun k hk=>?_⟩
   simp only [impl_MergeSets.l0,hr,e k hk,Option.bind_some]
   rw [if_pos tB,if_pos tB,if_pos tB,w64s i tB])
  (by
   intro s hs
   refine ⟨0,1,fun k _=>?_⟩
   simp only [impl_MergeSets.l0]
   rw [if_neg tB]
   simp [mergeSets])
 refine ⟨K,fun k hk'=>?_⟩
 simp only [impl_MergeSets.f,impl_copyKeys_f a tB,Option.bind_some]
 exact hk k hk'
theorem impl_Drop_ev (l:List S38) (h:l.length ≤ 4194304):Ev (fun k=>impl_Drop.f k l) (dropNone l):=by
 obtain ⟨K,hk⟩:=evRange0 (σ:=List S38) l.length (fun k s i=>impl_Drop.l0 k s l (l.length:Int) i) (fun i s=>s.length ≤ i) (fun i s=>s ++ dropNone (l.drop i)) [] te
  (by
   intro i s hi hs
   have hd:=drop_getD l i z38 hi
   have hr:rd_T38 l (i:Int) = l.getD i z38:=by simp [rd_T38]
   generalize l.getD i z38 = y at *
   by_cases h1:y.f2 = 0
   ·refine .inl ⟨s,wY,?_,0,1,fun k _=>?_⟩
    ·rw [hd,dropNone,dropNone,List.filter_cons_of_neg (by simp [h1])]
    ·simp only [impl_Drop.l0,hr]
     rw [if_pos tB,if_pos tB,if_pos tB,if_pos h1,w64s i tB]
   ·refine .inl ⟨s ++ [y],by simp;omega,?_,0,1,fun k _=>?_⟩
    ·rw [hd,dropNone,dropNone,List.filter_cons_of_pos (by simp [h1]),List.append_assoc];rfl
    ·simp only [impl_Drop.l0,hr]
     rw [if_pos tB,if_pos tB,if_pos tB,if_neg h1,if_pos tB,w64s i tB])
  (by
   intro s _
   refine ⟨0,1,fun k _=>?_⟩
   simp only [impl_Drop.l0]
   rw [if_neg tB]
   simp [dropNone])
 exact vX
def keyOk5 (a b c d e:Int):Bool:=decide (0 ≤ a ∧ a ≤ 15) && (decide (1 ≤ b ∧ b ≤ 60) && (decide (0 ≤ c ∧ c ≤ 2) && if c = 1 then decide (0 ≤ d ∧ d ≤ 23) && decide (0 ≤ e ∧ e ≤ 999) else decide (d = 0) && decide (e = 0)))
def keyOkB (x:S38):Bool:=keyOk5 x.f0 x.f1 x.f2 x.f3 x.f4
def risesAt (l:List S38) (j:Nat):Bool:=less (l.getD (j - 1) z38) (l.getD j z38)
def setOkB (l:List S38):Bool:=allFrom (fun j=>keyOkB (l.getD j z38) && (j == 0 || risesAt l j)) l.length 0 && decide (l.length ≤ 60)
def countK:List (List S38) → Nat
 | []=>0
 | l :: ls=>l.length + countK ls
def nodeOkB (ls:List (List S38)):Bool:=allFrom (fun i=>setOkB (ls.getD i []) && !decide ((ls.getD i []).length = 0)) ls.length 0 && (decide (ls.length ≤ 3) && decide (countK ls ≤ 8))
theorem countK_bulk:∀ ls:List (List S38),countK ls ≤ bulkKeySS ls
 | []=>Nat.le_refl _
 | l :: ls=>by have:=countK_bulk ls;simp only [countK,bulkKeySS];omega
theorem countK_drop (ls:List (List S38)) (i:Nat) (h:i < ls.length):countK (ls.drop i) = (ls.getD i []).length + countK (ls.drop (i + 1)):=by
 rw [drop_getD ls i [] h];rfl
def spotOf (a b:Int):Int:=wrap64 (wrap64 (64 * a) + b)
/-- The last low at most x, or -1: counted down from n. -/
def whereGo (l:List Int) (x:Int):Nat → Int
 | 0=>-1
 | n + 1=>if l.getD n 0 ≤ x then (n:Int) else whereGo l x n
theorem whereGo_range (l:List Int) (x:Int):∀ n,-1 ≤ whereGo l x n ∧ whereGo l x n < n
 | 0=>by simp [whereGo]
 | n + 1=>by
  have:=whereGo_range l x n
  simp only [whereGo]
  split <;> omega
def mergeAll (s:List S38) (ls:List (List S38)):List S38:=ls.foldl mergeSets s
def nodeKeys (ls:List (List S38)):List S38:=dropNone (mergeAll [] ls)
theorem mergeAll_length:∀ (ls:List (List S38)) (s:List S38),(mergeAll s ls).length ≤ s.length + countK ls
 | [],s=>by simp [mergeAll]
 | l :: ls,s=>by
  have h1:=mergeAll_length ls (mergeSets s l)
  have h2:=mergeSets_length s l
  simp only [mergeAll,List.foldl_cons,countK] at *
  omega
theorem dropNone_length (l:List S38):(dropNone l).length ≤ l.length:=List.length_filter_le _ _
theorem nodeKeys_length (ls:List (List S38)):(nodeKeys ls).length ≤ countK ls:=by
 have h1:=mergeAll_length ls []
 have h2:=dropNone_length (mergeAll [] ls)
 simp only [List.length_nil] at h1
 unfold nodeKeys
 omega
def inBoundsB (lows:List Int) (i:Nat) (ls:List (List S38)):Bool:=ls.all fun l=>l.all fun x=>decide (lows.getD i 0 ≤ spotOf x.f0 x.f1) && !(decide (i + 1 < lows.length) && decide (lows.getD (i + 1) 0 ≤ spotOf x.f0 x.f1))
theorem impl_NodeKeys_ev (ls:List (List S38)) (ho:okKeySS ls):Ev (fun k=>impl_NodeKeys.f k ls) (nodeKeys ls):=by
 have h:=okKeySS_len ho
 have hb:=countK_bulk ls
 have hbb:bulkKeySS ls ≤ 4194304:=ho
 obtain ⟨K,hk⟩:=evRange0 (σ:=List S38) ls.length (fun k s i=>impl_NodeKeys.l0 k s ls (ls.length:Int) i) (fun i s=>s.length + countK (ls.drop i) ≤ countK ls) (fun i s=>dropNone (mergeAll s (ls.drop i))) [] te
  (by
   intro i s hi hs
   have hd:=drop_getD ls i [] hi
   have hr:rd_L2 ls (i:Int) = ls.getD i []:=by simp [rd_L2]
   rw [countK_drop ls i hi] at hs
   obtain ⟨K,e⟩:=impl_MergeSets_ev s (ls.getD i []) tB
   have hl:=mergeSets_length s (ls.getD i [])
   refine .inl ⟨mergeSets s (ls.getD i []),wY,by rw [hd];rfl,K,1,fun k hk=>?_⟩
   have e1:=e k hk
   simp only at e1
   simp only [impl_NodeKeys.l0,hr,e1,Option.bind_some]
   rw [if_pos tB,if_pos tB,if_pos tB,w64s i tB])
  (by
   intro s hs
   simp only [List.drop_length,countK] at hs
   obtain ⟨K,e⟩:=impl_Drop_ev s tB
   refine ⟨K,1,fun k hk=>?_⟩
   have e1:=e k hk
   simp only at e1
   simp only [impl_NodeKeys.l0,e1,Option.bind_some]
   rw [if_neg tB]
   simp [mergeAll])
 exact vX
def nodeNew (l:List S38):List (List S38):=if l.length = 0 then [] else [l]
theorem impl_NodeNew_ev (l:List S38) (h:l.length ≤ 4194304):Ev (fun _=>impl_NodeNew.f l) (nodeNew l):=by
 refine evOf fun _=>?_
 simp only [impl_NodeNew.f,impl_copyKeys.f,nodeNew,Option.bind_some,List.nil_append,List.length_nil,Nat.zero_add]
 by_cases c:l.length = 0
 ·rw [if_pos tB,if_pos c]
 ·rw [if_neg tB,if_neg c,if_pos tB]
  rfl
theorem impl_NodePack_ev (ls:List (List S38)) (ho:okKeySS ls):Ev (fun k=>impl_NodePack.f k ls) (nodeNew (nodeKeys ls)):=by
 have h1:=nodeKeys_length ls
 have h2:=countK_bulk ls
 have h3:bulkKeySS ls ≤ 4194304:=ho
 unfold impl_NodePack.f
 refine Ev.bind (impl_NodeKeys_ev ls ho) (Ev.bind (impl_NodeNew_ev _ tB) (Ev.now _))
def at6:Option S38 → Int × Int × Int × Int × Int × Bool
 | some x=>(x.f0,x.f1,x.f2,x.f3,x.f4,true)
 | none=>(0,0,0,0,0,false)
def setAt (l:List S38) (a b:Int):Option S38:=l.find? fun x=>decide (x.f0 = a) && decide (x.f1 = b)
def lastK (ls:List (List S38)):List S38:=ls.getD (ls.length - 1) []
def hereK (ls:List (List S38)) (x:S38):Bool:=(setAt (lastK ls) x.f0 x.f1).isSome || decide ((lastK ls).length < 4)
def nodeNext (ls:List (List S38)) (x:S38):List (List S38):=if ls.length ≠ 0 ∧ hereK ls x = true then ls.set (ls.length - 1) (setPut (lastK ls) x) else ls ++ [[x]]
def keysPut (ls:List (List S38)) (x:S38):List S38:=dropNone (setPut (nodeKeys ls) x)
def nodePut (ls:List (List S38)) (x:S38):List (List S38) × Bool :=
 if nodeOkB (nodeNext ls x) = true then (nodeNext ls x,true)
 else if (keysPut ls x).length ≤ 8 ∧ nodeOkB (nodeNew (keysPut ls x)) = true then (nodeNew (keysPut ls x),true)
 else (ls,false)
theorem bulkKeySS_app:∀ (a b:List (List S38)),bulkKeySS (a ++ b) = bulkKeySS a + bulkKeySS b
 | [],b=>by simp [bulkKeySS]
 | x :: a,b=>by have:=bulkKeySS_app a b;simp only [List.cons_append,bulkKeySS,this];omega
theorem bulkKeySS_set:∀ (a:List (List S38)) (i:Nat) (x:List S38),i < a.length → bulkKeySS (a.set i x) + (a.getD i []).length = bulkKeySS a + x.length
 | y :: a,0,x,_=>by simp only [lB,bulkKeySS,List.getD_cons_zero];omega
 | y :: a,i + 1,x,h=>by
  have:=bulkKeySS_set a i x (by simpa using h)
  simp only [lC,bulkKeySS,List.getD_cons_succ];omega
theorem bulk_nodeNext (ls:List (List S38)) (x:S38):bulkKeySS (nodeNext ls x) ≤ bulkKeySS ls + 2:=by
 unfold nodeNext
 split
 ·rename_i h
  have h1:=bulkKeySS_set ls (ls.length - 1) (setPut (lastK ls) x) tB
  have h2:=setPut_length (lastK ls) x
  unfold lastK at *
  omega
 ·rw [bulkKeySS_app]
  simp [bulkKeySS]
theorem keysPut_length (ls:List (List S38)) (x:S38):(keysPut ls x).length ≤ bulkKeySS ls + 1:=by
 have h1:=dropNone_length (setPut (nodeKeys ls) x)
 have h2:=setPut_length (nodeKeys ls) x
 have h3:=nodeKeys_length ls
 have h4:=countK_bulk ls
 unfold keysPut
 omega
theorem bulk_nodeNew (l:List S38):bulkKeySS (nodeNew l) ≤ l.length + 1:=by
 unfold nodeNew
 split
 ·simp [bulkKeySS]
 ·simp only [bulkKeySS];omega
theorem okKeySS_nodePut (ls:List (List S38)) (x:S38) (h:bulkKeySS ls ≤ 4194300):okKeySS (nodePut ls x).1:=by
 have h1:=bulk_nodeNext ls x
 have h2:=keysPut_length ls x
 have h3:=bulk_nodeNew (keysPut ls x)
 unfold nodePut okKeySS
 split
 ·show bulkKeySS (nodeNext ls x) ≤ _;omega
 ·split
  ·show bulkKeySS (nodeNew (keysPut ls x)) ≤ _;omega
  ·show bulkKeySS ls ≤ _;omega
def treePack (s:List Int) (l:List S59) (i:Int):List Int × List S59:=if 0 ≤ i ∧ i ≤ (l.length:Int) - 1 then (s,l.set i.toNat ⟨nodeNew (nodeKeys (l.getD i.toNat z59).f0)⟩) else (s,l)
theorem impl_TreePack_ev (s:List Int) (l:List S59) (i:Int) (hs:s.length ≤ 4194304) (ho:okNodeS l):Ev (fun k=>impl_TreePack.f k s l i) (treePack s l i):=by
 have h:=okNodeS_len ho
 obtain ⟨K,e⟩:=impl_copyTree_ev s l hs ho
 by_cases hi:0 ≤ i ∧ i ≤ (l.length:Int) - 1
 ·have hr:rd_T59 l i = l.getD i.toNat z59:=by simp [rd_T59]
  obtain ⟨K2,e2⟩:=impl_NodePack_ev (l.getD i.toNat z59).f0 (okNodeS_at ho i.toNat tB)
  refine ⟨K + K2,fun k hk=>?_⟩
  have a:=e k tB
  have a2:=e2 k tB
  simp only at a a2
  simp only [impl_TreePack.f,a,Option.bind_some,impl_within_f]
  rw [w64 (x:=(l.length:Int) - 1) tB tB,decide_eq_true hi,if_pos rfl,if_pos hi.1,if_pos tB,hr]
  simp only [a2,Option.bind_some]
  rw [if_pos tB]
  unfold treePack
  rw [if_pos hi]
 ·refine ⟨K,fun k hk=>?_⟩
  have a:=e k tB
  simp only at a
  simp only [impl_TreePack.f,a,Option.bind_some,impl_within_f]
  rw [w64 (x:=(l.length:Int) - 1) tB tB,decide_eq_false hi,if_neg tb]
  unfold treePack
  rw [if_neg hi]
def bytesIn (l:List Int):Prop:=∀ x ∈ l,0 ≤ x ∧ x ≤ 255
theorem bytesIn_at {l:List Int} (h:bytesIn l) (i:Nat):0 ≤ l.getD i 0 ∧ l.getD i 0 ≤ 255:=by
 by_cases hi:i < l.length
 ·exact h _ (getD_mem l i 0 hi)
 ·rw [List.getD_eq_getElem?_getD,List.getElem?_eq_none tB];decide
def getW (l:List Int) (a:Int):Int × Int × Bool:=if 0 ≤ a ∧ a ≤ (l.length:Int) - 2 then (l.getD a.toNat 0 * 256 + l.getD (a.toNat + 1) 0,a + 2,true) else (0,0,false)
def curOk (b:List Int) (i:Int):Prop:=bytesIn b ∧ b.length ≤ 1048576 ∧ 0 ≤ i ∧ i ≤ (b.length:Int)
theorem l1New_ex (b:List Int) (hb:bytesIn b) (hl:b.length ≤ 1048576):∃ h,Ev (fun k=>spec_l1New.f k b) (b,0,h):=by
 obtain ⟨r,⟨h,rfl⟩,K,hk⟩:=evRangeEx (σ:=Int) b.length (fun k s i=>spec_l1New.l0 k b s i) (fun _ _=>True) (fun r=>∃ h,r = (b,0,h))
  (by
   intro i s hi _
   by_cases c:i < 4000
   ·refine .inl ⟨Go.bits .and .i64 (wrap64 ((wrap64 ((wrap64 (s * 137)) + (wrap64 (rd b (i:Int))))) + 11)) 1073741823,trivial,0,1,fun k _=>?_⟩
    simp only [spec_l1New.l0]
    rw [if_pos tB,if_pos tB,if_pos tB,w64s i tB]
   ·refine .inr ⟨(b,0,s),⟨s,rfl⟩,0,1,fun k _=>?_⟩
    simp only [spec_l1New.l0]
    rw [if_pos tB,if_neg tB])
  (by
   intro s _
   refine ⟨(b,0,s),⟨s,rfl⟩,0,1,fun k _=>?_⟩
   simp only [spec_l1New.l0]
   rw [if_neg tB]) 0 (wrap64 (941941 + (b.length:Int))) (Nat.zero_le _) trivial
 exact ⟨h,K,fun k hk'=>hk k hk'⟩
theorem spec_l5Copy_ev (ls:List (List S38)) (ho:okKeySS ls):Ev (fun k=>spec_l5Copy.f k ls) ls:=by
 have h:=okKeySS_len ho
 obtain ⟨K,hk⟩:=evRange0 (σ:=List (List S38)) ls.length (fun k s i=>spec_l5Copy.l0 k i ls s) (fun i s=>s = ls.take i) (fun _ _=>ls) [] te
  (by
   intro i s hi hs
   subst hs
   have hr:rd_L2 ls (i:Int) = ls.getD i []:=by simp [rd_L2]
   have hb:=okKeySS_at ho i hi
   unfold okKeyS at hb
   have hl:(ls.take i).length = i:=by simp;omega
   refine .inl ⟨ls.take (i + 1),rfl,rfl,0,1,fun k _=>?_⟩
   simp only [spec_l5Copy.l0,hr,Option.bind_some,List.length_nil,List.nil_append]
   rw [if_pos tB,if_pos tB,if_pos tB,if_pos tB,w64s i tB,take_getD ls i [] hi])
  (by
   intro s hs
   subst hs
   refine ⟨0,1,fun k _=>?_⟩
   simp only [spec_l5Copy.l0]
   rw [if_neg tB,List.take_length])
 exact vX
theorem spec_l6Copy_ev (s:List Int) (l:List S59) (hs:s.length ≤ 4194304) (ho:okNodeS l):Ev (fun k=>spec_l6Copy.f k s l) (s,l):=by
 have h:=okNodeS_len ho
 obtain ⟨K,hk⟩:=evRange0 (σ:=List S59) l.length (fun k x i=>spec_l6Copy.l0 k i s l s x) (fun i x=>x = l.take i) (fun _ _=>(s,l)) [] te
  (by
   intro i x hi hx
   subst hx
   have hr:rd_T59 l (i:Int) = l.getD i z59:=by simp [rd_T59]
   obtain ⟨K,e⟩:=spec_l5Copy_ev (l.getD i z59).f0 (okNodeS_at ho i hi)
   have hl:(l.take i).length = i:=by simp;omega
   refine .inl ⟨l.take (i + 1),rfl,rfl,K,1,fun k hk=>?_⟩
   have a:=e k hk
   simp only at a
   simp only [spec_l6Copy.l0,hr,a,Option.bind_some]
   rw [if_pos tB,if_pos tB,if_pos tB,w64s i tB,take_getD l i z59 hi])
  (by
   intro x hx
   subst hx
   refine ⟨0,1,fun k _=>?_⟩
   simp only [spec_l6Copy.l0]
   rw [if_neg tB,List.take_length])
 refine ⟨K,fun k hk'=>?_⟩
 simp only [spec_l6Copy.f,Option.bind_some,List.length_nil,List.nil_append]
 rw [if_pos tB]
 exact hk k hk'
theorem spec_l1In_f (a b c:Int):spec_l1In.f a b c = some (decide (b ≤ a ∧ a ≤ c)):=by
 unfold spec_l1In.f
 by_cases h:a ≥ b
 ·rw [if_pos h];congr 1;rw [Bool.eq_iff_iff];simp;omega
 ·rw [if_neg h];congr 1;rw [Bool.eq_iff_iff];simp;omega
theorem spec_Drop_ev (l:List S38) (h:l.length ≤ 4194304):Ev (fun k=>spec_Drop.f k l) (dropNone l):=by
 obtain ⟨K,hk⟩:=evRange0 (σ:=List S38) l.length (fun k s i=>spec_Drop.l0 k l s i) (fun i s=>s.length ≤ i) (fun i s=>s ++ dropNone (l.drop i)) [] te
  (by
   intro i s hi hs
   have hd:=drop_getD l i z38 hi
   have hr:rd_T38 l (i:Int) = l.getD i z38:=by simp [rd_T38]
   generalize l.getD i z38 = y at *
   by_cases h1:y.f2 = 0
   ·refine .inl ⟨s,wY,?_,0,1,fun k _=>?_⟩
    ·rw [hd,dropNone,dropNone,List.filter_cons_of_neg (by simp [h1])]
    ·simp only [spec_Drop.l0,hr]
     rw [if_pos tB,if_pos tB,if_pos h1,w64s i tB]
   ·refine .inl ⟨s ++ [y],by simp;omega,?_,0,1,fun k _=>?_⟩
    ·rw [hd,dropNone,dropNone,List.filter_cons_of_pos (by simp [h1]),List.append_assoc];rfl
    ·simp only [spec_Drop.l0,hr]
     rw [if_pos tB,if_pos tB,if_neg h1,if_pos tB,w64s i tB])
  (by
   intro s _
   refine ⟨0,1,fun k _=>?_⟩
   simp only [spec_Drop.l0]
   rw [if_neg tB]
   simp [dropNone])
 exact vX
theorem spec_LessKey_f (a b:S38):spec_LessKey.f a.f0 a.f1 a.f2 a.f3 a.f4 b.f0 b.f1 b.f2 b.f3 b.f4 = some (less a b):=by
 unfold spec_LessKey.f less
 split
 ·simp [*]
 ·simp [*]
theorem spec_SameSpot_f (a b:S38):spec_SameSpot.f a.f0 a.f1 a.f2 a.f3 a.f4 b.f0 b.f1 b.f2 b.f3 b.f4 = some (same a b):=by
 unfold spec_SameSpot.f same
 split
 ·simp only [*,true_and,Option.some.injEq];rw [Bool.eq_iff_iff];simp
 ·simp [*]
theorem spec_SetPut_ev (l:List S38) (x:S38) (h:l.length ≤ 4194304):Ev (fun k=>spec_SetPut.f k l x.f0 x.f1 x.f2 x.f3 x.f4) (setPut l x):=by
 obtain ⟨K,hk⟩:=evRange0 (σ:=List S38 × Bool) l.length (fun k s i=>spec_SetPut.l0 k l s.1 s.2 i x.f0 x.f1 x.f2 x.f3 x.f4) (fun i s=>s.1.length ≤ 2 * i) (fun i s=>s.1 ++ putGo x (l.drop i) s.2) ([],false) te
  (by
   intro i s hi hs
   obtain ⟨out,put⟩:=s
   simp only at hs
   have hd:=drop_getD l i z38 hi
   have hr:rd_T38 l (i:Int) = l.getD i z38:=by simp [rd_T38]
   refine .inl ⟨(out ++ (if put || less (l.getD i z38) x then [] else [x]) ++ (if same (l.getD i z38) x then [] else [l.getD i z38]),put || !less (l.getD i z38) x),?_,?_,0,2,fun k _=>?_⟩
   ·simp only [List.length_append];split <;> split <;> simp <;> omega
   ·simp only [hd,putGo,List.append_assoc]
   ·generalize hy:l.getD i z38 = y at *
    have hw:=w64s i tB
    have c1:(i:Int) < (l.length:Int):=by omega
    have c2:0 ≤ (i:Int):=by omega
    simp only [spec_SetPut.l0,hr,spec_LessKey_f,Option.bind_some,spec_SetPut.j1,if_pos c1,if_pos c2]
    cases put <;> cases hl:less y x <;> cases hq:same y x <;>
     simp only [Bool.not_true,Bool.not_false,if_true,if_false,Bool.false_eq_true,reduceCtorEq,spec_SameSpot_f,Option.bind_some,hq,hw,Bool.or_true,Bool.true_or,Bool.or_false,Bool.false_or,List.append_nil,List.append_assoc] <;>
     (repeat rw [if_pos (by first|omega|(simp only [List.length_append,List.length_cons,List.length_nil];omega))]) <;> rfl)
  (by
   intro s hs
   obtain ⟨out,put⟩:=s
   simp only at hs
   refine ⟨0,1,fun k _=>?_⟩
   simp only [spec_SetPut.l0]
   rw [if_neg tB]
   cases put
   ·rw [if_neg te,if_pos tB];simp [putGo]
   ·rw [if_pos rfl];simp [putGo])
 exact vX
theorem spec_MergeSets_ev (a b:List S38) (h:a.length + b.length ≤ 4194304):Ev (fun k=>spec_MergeSets.f k a b) (mergeSets a b):=by
 obtain ⟨K,hk⟩:=evRange0 (σ:=List S38) b.length (fun k s i=>spec_MergeSets.l0 k b s i) (fun i s=>s.length ≤ a.length + i) (fun i s=>mergeSets s (b.drop i)) a te
  (by
   intro i s hi hs
   have hd:=drop_getD b i z38 hi
   have hr:rd_T38 b (i:Int) = b.getD i z38:=by simp [rd_T38]
   obtain ⟨K,e⟩:=spec_SetPut_ev s (b.getD i z38) tB
   have hlen:=setPut_length s (b.getD i z38)
   refine .inl ⟨setPut s (b.getD i z38),wY,by simp only [hd,mergeSets,List.foldl_cons],K,1,fun k hk=>?_⟩
   simp only [spec_MergeSets.l0,hr,e k hk,Option.bind_some]
   rw [if_pos tB,if_pos tB,w64s i tB])
  (by
   intro s hs
   refine ⟨0,1,fun k _=>?_⟩
   simp only [spec_MergeSets.l0]
   rw [if_neg tB]
   simp [mergeSets])
 refine ⟨K,fun k hk'=>?_⟩
 simp only [spec_MergeSets.f,Option.bind_some,List.length_nil,List.nil_append]
 rw [if_pos tB]
 exact hk k hk'
theorem spec_NodeKeys_ev (ls:List (List S38)) (ho:okKeySS ls):Ev (fun k=>spec_NodeKeys.f k ls) (nodeKeys ls):=by
 have h:=okKeySS_len ho
 have hb:=countK_bulk ls
 have hbb:bulkKeySS ls ≤ 4194304:=ho
 obtain ⟨K,hk⟩:=evRange0 (σ:=List S38) ls.length (fun k s i=>spec_NodeKeys.l0 k s i ls) (fun i s=>s.length + countK (ls.drop i) ≤ countK ls) (fun i s=>dropNone (mergeAll s (ls.drop i))) [] te
  (by
   intro i s hi hs
   have hd:=drop_getD ls i [] hi
   have hr:rd_L2 ls (i:Int) = ls.getD i []:=by simp [rd_L2]
   rw [countK_drop ls i hi] at hs
   obtain ⟨K,e⟩:=spec_MergeSets_ev s (ls.getD i []) tB
   have hl:=mergeSets_length s (ls.getD i [])
   refine .inl ⟨mergeSets s (ls.getD i []),wY,by rw [hd];rfl,K,1,fun k hk=>?_⟩
   have e1:=e k hk
   simp only at e1
   simp only [spec_NodeKeys.l0,hr,e1,Option.bind_some]
   rw [if_pos tB,if_pos tB,w64s i tB])
  (by
   intro s hs
   simp only [List.drop_length,countK] at hs
   obtain ⟨K,e⟩:=spec_Drop_ev s tB
   refine ⟨K,1,fun k hk=>?_⟩
   have e1:=e k hk
   simp only at e1
   simp only [spec_NodeKeys.l0,e1,Option.bind_some]
   rw [if_neg tB]
   simp [mergeAll])
 exact vX
theorem spec_KeyOk_ev (a b c d e:Int):Ev (fun k=>spec_KeyOk.f k a b c d e) (keyOk5 a b c d e):=by
 refine evSucc ⟨0,1,fun k _=>?_⟩
 simp only [spec_KeyOk.f,spec_l1In_f,Option.bind_some,spec_KeyOk.j0,keyOk5]
 cases h0:decide (0 ≤ a ∧ a ≤ 15) <;> cases h1:decide (1 ≤ b ∧ b ≤ 60) <;> cases h2:decide (0 ≤ c ∧ c ≤ 2) <;> simp only [Bool.false_and,Bool.true_and,Bool.false_eq_true,if_true,if_false,Bool.not_true,Bool.not_false]
 by_cases h3:c = 1
 ·rw [if_pos h3,if_pos h3]
  cases h4:decide (0 ≤ d ∧ d ≤ 23) <;> simp only [Bool.false_and,Bool.true_and,Bool.false_eq_true,if_true,if_false]
 ·rw [if_neg h3,if_neg h3]
  by_cases h4:d = 0
  ·rw [if_pos h4];simp [h4];rw [Bool.eq_iff_iff];simp
  ·rw [if_neg h4];simp [h4]
theorem spec_l4Rises_ev (l:List S38) (h:l.length ≤ 4194304):Ev (fun k=>spec_l4Rises.f k l) (allFrom (risesAt l) l.length 1):=by
 by_cases h0:l.length = 0
 ·refine evSucc ⟨0,1,fun k _=>?_⟩
  simp only [spec_l4Rises.f,spec_l4Rises.l0]
  rw [if_neg tB]
  simp [allFrom,h0]
 have:=evAll l.length (fun k i=>spec_l4Rises.l0 k l (if i = 0 then 1 else i)) (fun j=>j == 0 || risesAt l j) true
  (by
   intro i hi
   by_cases hz:i = 0
   ·subst hz
    exact ⟨0,0,fun k _=>by simp⟩
   have hr:rd_T38 l (i:Int) = l.getD i z38:=by simp [rd_T38]
   have hw:=w64s i tB
   have hw1:wrap64 ((i:Int) - 1) = ((i - 1:Nat):Int):=by rw [w64 tB tB];omega
   have hr1:rd_T38 l ((i - 1:Nat):Int) = l.getD (i - 1) z38:=by simp [rd_T38]
   refine ⟨0,1,fun k _=>?_⟩
   rw [if_neg (show ¬ (i:Int) = 0 by omega),if_neg (show ¬ ((i + 1:Nat):Int) = 0 by omega)]
   simp only [spec_l4Rises.l0]
   rw [if_pos tB,hw1,if_pos tB,if_pos tB,if_pos tB,hr,hr1,spec_LessKey_f,hw]
   simp only [Option.bind_some,beq_eq_false_iff_ne.mpr hz,Bool.false_or]
   rfl)
  (by
   refine ⟨0,1,fun k _=>?_⟩
   rw [if_neg (show ¬ (l.length:Int) = 0 by omega)]
   simp only [spec_l4Rises.l0]
   rw [if_neg tB]) 1 tB
 obtain ⟨K,hk⟩:=this
 refine ⟨K,fun k hk'=>?_⟩
 have e:=hk k hk'
 simp only [Bool.and_true] at e
 have e2:allFrom (fun j=>j == 0 || risesAt l j) l.length 1 = allFrom (risesAt l) l.length 1:=by
  rw [Bool.eq_iff_iff,allFrom_iff,allFrom_iff]
  constructor
  ·intro hh j h1 h2;have:=hh j h1 h2;simp only [Bool.or_eq_true,beq_iff_eq] at this;rcases this with h|h;omega;exact h
  ·intro hh j h1 h2;simp [hh j h1 h2]
 rw [e2] at e
 rw [← e]
 rfl
theorem spec_SetOk_ev (l:List S38) (h:l.length ≤ 4194304):Ev (fun k=>spec_SetOk.f k l) (setOkB l):=by
 obtain ⟨K0,e0⟩:=spec_l4Rises_ev l h
 have:=evAll l.length (fun k i=>spec_SetOk.l0 k l i) (fun j=>keyOkB (l.getD j z38)) (allFrom (risesAt l) l.length 1 && decide (l.length ≤ 60))
  (by
   intro i hi
   have hr:rd_T38 l (i:Int) = l.getD i z38:=by simp [rd_T38]
   obtain ⟨K,e⟩:=spec_KeyOk_ev (l.getD i z38).f0 (l.getD i z38).f1 (l.getD i z38).f2 (l.getD i z38).f3 (l.getD i z38).f4
   refine ⟨K,1,fun k hk=>?_⟩
   have e1:spec_KeyOk.f k (l.getD i z38).f0 (l.getD i z38).f1 (l.getD i z38).f2 (l.getD i z38).f3 (l.getD i z38).f4 = some (keyOkB (l.getD i z38)):=e k hk
   simp only [spec_SetOk.l0,hr,e1,Option.bind_some]
   rw [if_pos tB,if_pos tB,w64s i tB])
  (by
   refine ⟨K0,1,fun k hk=>?_⟩
   have e1:spec_l4Rises.f k l = some (allFrom (risesAt l) l.length 1):=e0 k hk
   simp only [spec_SetOk.l0,e1,Option.bind_some]
   rw [if_neg tB]
   have e2:decide ((l.length:Int) ≤ 60) = decide (l.length ≤ 60):=by rw [Bool.eq_iff_iff];simp;omega
   cases allFrom (risesAt l) l.length 1 <;> simp [e2]) 0 (Nat.zero_le _)
 obtain ⟨K,hk⟩:=this
 refine ⟨K,fun k hk'=>?_⟩
 have e:=hk k hk'
 simp only [Int.natCast_zero] at e
 show spec_SetOk.l0 k l 0 = _
 have e':spec_SetOk.l0 k l 0 = some (allFrom (fun j=>keyOkB (l.getD j z38)) l.length 0 && (allFrom (risesAt l) l.length 1 && decide (l.length ≤ 60))):=e
 rw [e',setOkB,← Bool.and_assoc]
 congr 2
 rw [Bool.eq_iff_iff,Bool.and_eq_true,allFrom_iff,allFrom_iff,allFrom_iff]
 constructor
 ·rintro ⟨h1,h2⟩ j hj hlt
  rw [h1 j hj hlt,Bool.true_and]
  by_cases hz:j = 0
  ·simp [hz]
  ·rw [h2 j tB hlt,Bool.or_true]
 ·intro h
  refine ⟨fun j hj hlt=>?_,fun j hj hlt=>?_⟩
  ·have:=h j hj hlt;simp only [Bool.and_eq_true] at this;exact this.1
  ·have:=h j tB hlt;simp only [Bool.and_eq_true,Bool.or_eq_true,beq_iff_eq] at this;rcases this.2 with h|h;omega;exact h
theorem spec_l5Count_ev (ls:List (List S38)) (ho:okKeySS ls):Ev (fun k=>spec_l5Count.f k ls) ((countK ls:Nat):Int):=by
 have h:=okKeySS_len ho
 have hb:=countK_bulk ls
 unfold okKeySS at ho
 obtain ⟨K,hk⟩:=evRange0 (σ:=Int) ls.length (fun k s i=>spec_l5Count.l0 k s i ls) (fun i s=>s + (countK (ls.drop i):Nat) = (countK ls:Nat) ∧ 0 ≤ s) (fun _ _=>((countK ls:Nat):Int)) 0 te
  (by
   rintro i s hi ⟨hs,h0⟩
   have hr:rd_L2 ls (i:Int) = ls.getD i []:=by simp [rd_L2]
   rw [countK_drop ls i hi] at hs
   refine .inl ⟨s + ((ls.getD i []).length:Int),⟨wY,wY⟩,rfl,0,1,fun k _=>?_⟩
   simp only [spec_l5Count.l0,hr]
   rw [if_pos tB,if_pos tB,w64 tB tB,w64s i tB])
  (by
   rintro s ⟨hs,h0⟩
   refine ⟨0,1,fun k _=>?_⟩
   simp only [spec_l5Count.l0]
   rw [if_neg tB]
   simp only [List.drop_length,countK] at hs
   congr 1;omega)
 exact vX
theorem spec_NodeOk_ev (ls:List (List S38)) (ho:okKeySS ls):Ev (fun k=>spec_NodeOk.f k ls) (nodeOkB ls):=by
 have h:=okKeySS_len ho
 obtain ⟨K0,e0⟩:=spec_l5Count_ev ls ho
 have:=evAll ls.length (fun k i=>spec_NodeOk.l0 k i ls) (fun i=>setOkB (ls.getD i []) && !decide ((ls.getD i []).length = 0)) (decide (ls.length ≤ 3) && decide (countK ls ≤ 8))
  (by
   intro i hi
   have hr:rd_L2 ls (i:Int) = ls.getD i []:=by simp [rd_L2]
   obtain ⟨K,e⟩:=spec_SetOk_ev (ls.getD i []) (okKeySS_at ho i hi)
   refine ⟨K,1,fun k hk=>?_⟩
   have e1:=e k hk
   simp only at e1
   simp only [spec_NodeOk.l0,hr,e1,Option.bind_some]
   rw [if_pos tB,if_pos tB,w64s i tB]
   generalize ls.getD i [] = y at *
   cases hq:setOkB y with
   | false=>simp only [Bool.false_and,Bool.false_eq_true,if_false]
   | true =>
    simp only [Bool.true_and,if_true]
    by_cases c:y.length = 0
    ·rw [if_pos tB];simp [c]
    ·rw [if_neg tB];simp [c])
  (by
   refine ⟨K0,1,fun k hk=>?_⟩
   have e1:=e0 k hk
   simp only at e1
   simp only [spec_NodeOk.l0,e1,Option.bind_some]
   rw [if_neg tB]
   by_cases c:ls.length ≤ 3
   ·rw [if_pos tB]
    congr 1
    rw [Bool.eq_iff_iff];simp [c];omega
   ·rw [if_neg tB];simp [c]) 0 (Nat.zero_le _)
 obtain ⟨K,hk⟩:=this
 exact vX
def sumKeysN:List S59 → Nat
 | []=>0
 | x :: xs=>(nodeKeys x.f0).length + sumKeysN xs
def treeKeys:List S59 → List S38
 | []=>[]
 | x :: xs=>nodeKeys x.f0 ++ treeKeys xs
theorem treeKeys_length:∀ n:List S59,(treeKeys n).length = sumKeysN n
 | []=>rfl
 | x :: xs=>by have:=treeKeys_length xs;simp only [treeKeys,sumKeysN,List.length_append];omega
theorem sumKeysN_bulk:∀ n:List S59,sumKeysN n ≤ bulkNodeS n
 | []=>Nat.le_refl _
 | x :: xs=>by
  have h1:=sumKeysN_bulk xs
  have h2:=nodeKeys_length x.f0
  have h3:=countK_bulk x.f0
  simp only [sumKeysN,bulkNodeS]
  omega
theorem treeKeys_drop (n:List S59) (i:Nat) (h:i < n.length):treeKeys (n.drop i) = nodeKeys (n.getD i z59).f0 ++ treeKeys (n.drop (i + 1)):=by
 rw [drop_getD n i z59 h];rfl
theorem sumKeysN_drop (n:List S59) (i:Nat) (h:i < n.length):sumKeysN (n.drop i) = (nodeKeys (n.getD i z59).f0).length + sumKeysN (n.drop (i + 1)):=by
 rw [drop_getD n i z59 h];rfl
def keysN (n:List S59):Nat → S59:=fun i=>n.getD i z59
def nodeFits (lows:List Int) (i:Nat) (x:S59):Bool:=nodeOkB x.f0 && ((i == 0 || !decide ((nodeKeys x.f0).length = 0)) && inBoundsB lows i x.f0)
def treeOkB (lows:List Int) (n:List S59):Bool :=
 if 1 ≤ (n.length:Int) ∧ (n.length:Int) ≤ 20 then if lows.length = n.length then if lows.getD 0 0 = 0 then
  allFrom (fun i=>(i == 0 || decide (lows.getD (i - 1) 0 < lows.getD i 0)) && nodeFits lows i (n.getD i z59)) n.length 0 && decide (sumKeysN n ≤ 60)
 else false else false else false
theorem spec_l6Node_l1 (lows:List Int) (n:List S59) (ls:List (List S38)) (hls:ls.length ≤ 4194304) (hlo:lows.length ≤ 4194304) (p:Nat) (hp:p < lows.length) (q:Nat) (hq:q < ls.length) (l:List S38) (hl:l.length ≤ 4194304) (b:Bool) (hrl:rd_L2 ls (q:Int) = l)
  (hnext:Ev (fun k=>spec_l6Node.l0 k (p:Int) ((q + 1:Nat):Int) lows n ls) b) :
  Ev (fun k=>spec_l6Node.l1 k (p:Int) (q:Int) 0 lows n ls) ((l.all fun x=>decide (lows.getD p 0 ≤ spotOf x.f0 x.f1) && !(decide (p + 1 < lows.length) && decide (lows.getD (p + 1) 0 ≤ spotOf x.f0 x.f1))) && b):=by
 obtain ⟨K0,e0⟩:=hnext
 obtain ⟨K,hk⟩:=evRange0 (σ:=Unit) l.length (fun k _ i=>spec_l6Node.l1 k (p:Int) (q:Int) i lows n ls) (fun _ _=>True)
  (fun i _=>((l.drop i).all fun x=>decide (lows.getD p 0 ≤ spotOf x.f0 x.f1) && !(decide (p + 1 < lows.length) && decide (lows.getD (p + 1) 0 ≤ spotOf x.f0 x.f1))) && b) () trivial
  (by
   intro i _ hi _
   have hd:=drop_getD l i z38 hi
   have hr:rd_T38 l (i:Int) = l.getD i z38:=by simp [rd_T38]
   generalize l.getD i z38 = y at *
   have hsp:wrap64 (wrap64 (64 * y.f0) + y.f1) = spotOf y.f0 y.f1:=rfl
   have hp1:=w64s p tB
   by_cases c1:lows.getD p 0 ≤ spotOf y.f0 y.f1
   ·by_cases c2:p + 1 < lows.length ∧ lows.getD (p + 1) 0 ≤ spotOf y.f0 y.f1
    ·refine .inr ⟨0,1,fun k _=>?_⟩
     simp only [spec_l6Node.l1,hrl,hr,spec_l6Spot.f,spec_SpotOf.f,Option.bind_some,hsp,rd_nat,hp1]
     rw [if_pos tB,if_pos tB,if_pos tB,if_pos tB,if_pos tB,if_pos tB,if_neg tB,if_pos tB,if_pos tB,if_pos c2.2,hd,List.all_cons,decide_eq_true c2.1,decide_eq_true c2.2,Bool.and_true,Bool.not_true,Bool.and_false,Bool.false_and,Bool.false_and]
    ·refine .inl ⟨(),trivial,?_,0,1,fun k _=>?_⟩
     ·rw [hd,List.all_cons]
      have e:(decide (p + 1 < lows.length) && decide (lows.getD (p + 1) 0 ≤ spotOf y.f0 y.f1)) = false:=by rw [← Bool.decide_and];simpa using c2
      rw [e,decide_eq_true c1];rfl
     ·simp only [spec_l6Node.l1,hrl,hr,spec_l6Spot.f,spec_SpotOf.f,Option.bind_some,hsp,rd_nat,hp1]
      rw [if_pos tB,if_pos tB,if_pos tB,if_pos tB,if_pos tB,if_pos tB,if_neg tB,w64s i tB]
      by_cases c3:p + 1 < lows.length
      ·rw [if_pos tB,if_pos tB,if_neg (fun h=>c2 ⟨c3,h⟩)]
      ·rw [if_neg tB]
   ·refine .inr ⟨0,1,fun k _=>?_⟩
    simp only [spec_l6Node.l1,hrl,hr,spec_l6Spot.f,spec_SpotOf.f,Option.bind_some,hsp,rd_nat,hp1]
    rw [if_pos tB,if_pos tB,if_pos tB,if_pos tB,if_pos tB,if_pos tB,if_pos tB,hd,List.all_cons,decide_eq_false c1]
    rfl)
  (by
   intro _ _
   refine ⟨K0,1,fun k hk=>?_⟩
   have e1:=e0 k hk
   simp only at e1
   simp only [spec_l6Node.l1,hrl]
   rw [if_pos tB,if_pos tB,if_neg tB,w64s q tB,e1]
   simp)
 exact vX
theorem spec_l6Node_l0 (lows:List Int) (n:List S59) (ls:List (List S38)) (ho:okKeySS ls) (hlo:lows.length ≤ 4194304) (p:Nat) (hp:p < lows.length) :
  ∀ (d q:Nat),ls.length - q = d → q ≤ ls.length → Ev (fun k=>spec_l6Node.l0 k (p:Int) (q:Int) lows n ls) (inBoundsB lows p (ls.drop q)):=by
 have hls:=okKeySS_len ho
 intro d
 induction d with
 | zero =>
  intro q hd hq
  obtain rfl:q = ls.length:=by omega
  refine evSucc ⟨0,1,fun k _=>?_⟩
  simp only [spec_l6Node.l0]
  rw [if_neg tB]
  simp [inBoundsB]
 | succ d ih =>
  intro q hd hq
  have hlt:q < ls.length:=by omega
  have hr:rd_L2 ls (q:Int) = ls.getD q []:=by simp [rd_L2]
  have ho1:(ls.getD q []).length ≤ 4194304:=okKeySS_at ho q hlt
  obtain ⟨K,e⟩:=spec_l6Node_l1 lows n ls hls hlo p hp q hlt (ls.getD q []) ho1 _ hr (ih (q + 1) tB tB)
  refine evSucc ⟨K,1,fun k hk=>?_⟩
  have e1:=e k hk
  simp only at e1
  simp only [spec_l6Node.l0]
  rw [if_pos tB,e1,drop_getD ls q [] hlt]
  rfl
theorem spec_l6Node_ev (lows:List Int) (n:List S59) (p:Nat) (hp:p < n.length) (hl:lows.length = n.length) (ho:okNodeS n):Ev (fun k=>spec_l6Node.f k lows n (p:Int)) (nodeFits lows p (n.getD p z59)):=by
 have hn:=okNodeS_len ho
 have hr:rd_T59 n (p:Int) = n.getD p z59:=by simp [rd_T59]
 have ho1:=okNodeS_at ho p hp
 generalize n.getD p z59 = y at *
 obtain ⟨K,e⟩:=spec_l6Node_l0 lows n y.f0 ho1 tB p tB _ 0 rfl (Nat.zero_le _)
 obtain ⟨K2,e2⟩:=spec_NodeOk_ev y.f0 ho1
 obtain ⟨K3,e3⟩:=spec_NodeKeys_ev y.f0 ho1
 refine evSucc ⟨K + K2 + K3,1,fun k hk=>?_⟩
 have a1:spec_l6Node.l0 k (p:Int) 0 lows n y.f0 = some (inBoundsB lows p y.f0):=e k tB
 have a2:=e2 (k + 1) tB
 have a3:=e3 (k + 1) tB
 simp only at a2 a3
 simp only [spec_l6Node.f,hr,a2,a3,Option.bind_some,spec_l6Node.j0,a1]
 rw [if_pos tB,if_pos tB]
 unfold nodeFits
 cases nodeOkB y.f0 with
 | false=>simp only [Bool.false_eq_true,if_false,if_true,Bool.false_and]
 | true =>
  simp only [if_true,Bool.true_and]
  by_cases c:p = 0
  ·subst c
   rw [if_neg tB]
   simp
  ·rw [if_pos tB]
   by_cases c2:(nodeKeys y.f0).length = 0
   ·simp [c,c2]
   ·have e4:(((nodeKeys y.f0).length:Int) == 0) = false:=by rw [beq_eq_false_iff_ne];omega
    simp only [e4,Bool.false_eq_true,if_false]
    simp [c,c2]
theorem spec_TreeKeys_ev (l:List Int) (n:List S59) (ho:okNodeS n):Ev (fun k=>spec_TreeKeys.f k l n) (treeKeys n):=by
 have h:=okNodeS_len ho
 have hb:=sumKeysN_bulk n
 have hbb:bulkNodeS n ≤ 4194304:=ho
 obtain ⟨K,hk⟩:=evRange0 (σ:=List S38) n.length (fun k s i=>spec_TreeKeys.l0 k s i l n) (fun i s=>s.length + sumKeysN (n.drop i) ≤ sumKeysN n) (fun i s=>s ++ treeKeys (n.drop i)) [] te
  (by
   intro i s hi hs
   have hr:rd_T59 n (i:Int) = n.getD i z59:=by simp [rd_T59]
   rw [sumKeysN_drop n i hi] at hs
   obtain ⟨K,e⟩:=spec_NodeKeys_ev (n.getD i z59).f0 (okNodeS_at ho i hi)
   refine .inl ⟨s ++ nodeKeys (n.getD i z59).f0,by simp only [List.length_append];omega,by rw [treeKeys_drop n i hi,List.append_assoc],K,1,fun k hk=>?_⟩
   have e1:=e k hk
   simp only at e1
   simp only [spec_TreeKeys.l0,hr,e1,Option.bind_some]
   rw [if_pos tB,if_pos tB,if_pos tB,w64s i tB])
  (by
   intro s hs
   refine ⟨0,1,fun k _=>?_⟩
   simp only [spec_TreeKeys.l0]
   rw [if_neg tB]
   simp [treeKeys])
 exact vX
theorem spec_TreeOk_ev (lows:List Int) (n:List S59) (h1:okIntS lows) (ho:okNodeS n):Ev (fun k=>spec_TreeOk.f k lows n) (treeOkB lows n):=by
 have hn:=okNodeS_len ho
 have hl:lows.length ≤ 4194304:=h1
 have hb:=sumKeysN_bulk n
 have hbb:bulkNodeS n ≤ 4194304:=ho
 unfold treeOkB
 by_cases c1:1 ≤ (n.length:Int) ∧ (n.length:Int) ≤ 20
 ·by_cases c2:lows.length = n.length
  ·by_cases c3:lows.getD 0 0 = 0
   ·rw [if_pos c1,if_pos c2,if_pos c3]
    obtain ⟨K0,e0⟩:=spec_TreeKeys_ev lows n ho
    have:=evAll n.length (fun k i=>spec_TreeOk.l0 k i lows n) (fun i=>(i == 0 || decide (lows.getD (i - 1) 0 < lows.getD i 0)) && nodeFits lows i (n.getD i z59)) (decide (sumKeysN n ≤ 60))
     (by
      intro i hi
      obtain ⟨K,e⟩:=spec_l6Node_ev lows n i hi c2 ho
      refine ⟨K,1,fun k hk=>?_⟩
      have e1:=e k hk
      simp only at e1
      simp only [spec_TreeOk.l0,e1,Option.bind_some,rd_nat,w64s i tB]
      rw [if_pos tB]
      by_cases hz:i = 0
      ·subst hz
       rw [if_neg tB]
       simp only [beq_self_eq_true,Bool.true_or,Bool.true_and]
      ·have hw1:wrap64 ((i:Int) - 1) = ((i - 1:Nat):Int):=by rw [w64 tB tB];omega
       rw [if_pos tB,hw1,if_pos tB,if_pos tB,if_pos tB,if_pos tB,rd_nat,beq_eq_false_iff_ne.mpr hz,Bool.false_or]
       by_cases c:lows.getD (i - 1) 0 < lows.getD i 0
       ·rw [if_neg tB,decide_eq_true c,Bool.true_and]
       ·rw [if_pos tB,decide_eq_false c,Bool.false_and];rfl)
     (by
      refine ⟨K0,1,fun k hk=>?_⟩
      have e1:=e0 k hk
      simp only at e1
      simp only [spec_TreeOk.l0,e1,Option.bind_some,treeKeys_length]
      rw [if_neg tB]
      congr 1;rw [Bool.eq_iff_iff];simp;omega) 0 (Nat.zero_le _)
    obtain ⟨K,hk⟩:=this
    refine evSucc ⟨K,1,fun k hk'=>?_⟩
    have e:=hk k hk'
    have hz:rd lows 0 = lows.getD 0 0:=rfl
    simp only [spec_TreeOk.f,spec_l1In_f,Option.bind_some,hz,c3,bne_self_eq_false,spec_TreeOk.j0,Bool.false_eq_true,if_false]
    rw [if_pos (by simpa using c1),if_pos tB,if_pos tB]
    exact e
   ·rw [if_pos c1,if_pos c2,if_neg c3]
    refine evSucc ⟨0,1,fun k hk'=>?_⟩
    have hz:rd lows 0 = lows.getD 0 0:=rfl
    have hb:(lows.getD 0 0 != 0) = true:=by simpa using c3
    simp only [spec_TreeOk.f,spec_l1In_f,Option.bind_some,hz,hb,spec_TreeOk.j0,if_true]
    rw [if_pos (by simpa using c1),if_pos tB,if_pos tB]
  ·rw [if_pos c1,if_neg c2]
   refine evSucc ⟨0,1,fun k hk'=>?_⟩
   simp only [spec_TreeOk.f,spec_l1In_f,Option.bind_some,spec_TreeOk.j0,if_true]
   rw [if_pos (by simpa using c1),if_neg tB]
 ·rw [if_neg c1]
  refine evSucc ⟨0,1,fun k hk'=>?_⟩
  simp only [spec_TreeOk.f,spec_l1In_f,Option.bind_some,spec_TreeOk.j0,if_true]
  rw [if_neg (by simpa using c1)]
theorem spec_WhereIn_ev (l:List Int) (n:List S59) (a b:Int) (h:l.length ≤ 4194304):Ev (fun k=>spec_WhereIn.f k l n a b) (whereGo l (spotOf a b) l.length):=by
 obtain ⟨K,hk⟩:=evRange0 (σ:=Int) l.length (fun k s i=>spec_WhereIn.l0 k a b s i l n) (fun i s=>s = whereGo l (spotOf a b) i) (fun _ _=>whereGo l (spotOf a b) l.length) (-1) rfl
  (by
   rintro i s hi rfl
   refine .inl ⟨whereGo l (spotOf a b) (i + 1),rfl,rfl,0,1,fun k _=>?_⟩
   simp only [spec_WhereIn.l0,rd_nat,spec_SpotOf.f,Option.bind_some,whereGo]
   rw [if_pos tB,if_pos tB,w64s i tB]
   show (if l.getD i 0 ≤ spotOf a b then _ else _) = _
   by_cases c:l.getD i 0 ≤ spotOf a b
   ·rw [if_pos c,if_pos c]
   ·rw [if_neg c,if_neg c])
  (by
   rintro s rfl
   refine ⟨0,1,fun k _=>?_⟩
   simp only [spec_WhereIn.l0]
   rw [if_neg tB])
 exact vX
theorem spec_NodeNew_ev (l:List S38) (h:l.length ≤ 4194304):Ev (fun _=>spec_NodeNew.f l) (nodeNew l):=by
 refine evOf fun _=>?_
 simp only [spec_NodeNew.f,nodeNew,Option.bind_some,List.nil_append,List.length_nil,Nat.zero_add]
 by_cases c:l.length = 0
 ·rw [if_pos tB,if_pos c]
 ·rw [if_neg tB,if_neg c,if_pos tB]
theorem spec_SetAt_ev (l:List S38) (a b:Int) (h:l.length ≤ 4194304):Ev (fun k=>spec_SetAt.f k l a b) (at6 (setAt l a b)):=by
 obtain ⟨K,hk⟩:=evRange0 (σ:=Unit) l.length (fun k _ i=>spec_SetAt.l0 k l a b i) (fun _ _=>True) (fun i _=>at6 (setAt (l.drop i) a b)) () trivial
  (by
   intro i _ hi _
   have hd:=drop_getD l i z38 hi
   have hr:rd_T38 l (i:Int) = l.getD i z38:=by simp [rd_T38]
   generalize l.getD i z38 = y at *
   by_cases h1:y.f0 = a ∧ y.f1 = b
   ·refine .inr ⟨0,1,fun k _=>?_⟩
    simp only [spec_SetAt.l0,hr]
    rw [if_pos tB,if_pos tB,if_pos h1.1,if_pos h1.2,hd,setAt,List.find?_cons_of_pos (by simp [h1])]
    rfl
   ·refine .inl ⟨(),trivial,?_,0,1,fun k _=>?_⟩
    ·rw [hd,setAt,setAt,List.find?_cons_of_neg (by simpa using h1)]
    ·simp only [spec_SetAt.l0,hr]
     rw [if_pos tB,if_pos tB,w64s i tB]
     by_cases h2:y.f0 = a
     ·rw [if_pos h2,if_neg (fun h3=>h1 ⟨h2,h3⟩)]
     ·rw [if_neg h2])
  (by
   intro _ _
   refine ⟨0,1,fun k _=>?_⟩
   simp only [spec_SetAt.l0]
   rw [if_neg tB]
   simp [setAt,at6])
 exact vX
theorem spec_NodePut_j3 (ls:List (List S38)) (l:List S38) (b:Bool) (ho:okKeySS ls) (hl:l.length ≤ 4194304):Ev (fun k=>spec_NodePut.j3 k l b ls) (if b = true then (ls,false) else (nodeNew l,true)):=by
 obtain ⟨K,e⟩:=spec_l5Copy_ev ls ho
 obtain ⟨K2,e2⟩:=spec_NodeNew_ev l hl
 refine evSucc ⟨K + K2,1,fun k hk=>?_⟩
 have e1:=e k tB
 have e3:=e2 k tB
 simp only at e1 e3
 cases b <;> simp [spec_NodePut.j3,e1,e3]
theorem spec_NodePut_j2 (ls cur:List (List S38)) (x:S38) (h:bulkKeySS ls ≤ 4194300) (hc:okKeySS cur):Ev (fun k=>spec_NodePut.j2 k ls x.f0 x.f1 x.f2 x.f3 x.f4 cur) (if nodeOkB cur = true then (cur,true) else if (keysPut ls x).length ≤ 8 ∧ nodeOkB (nodeNew (keysPut ls x)) = true then (nodeNew (keysPut ls x),true) else (ls,false)):=by
 have h1:=nodeKeys_length ls
 have h2:=countK_bulk ls
 have h3:=setPut_length (nodeKeys ls) x
 have h4:=keysPut_length ls x
 have h5:=bulk_nodeNew (keysPut ls x)
 have ho:okKeySS ls:=by unfold okKeySS;omega
 obtain ⟨K1,e1⟩:=spec_NodeOk_ev cur hc
 obtain ⟨K2,e2⟩:=spec_NodeKeys_ev ls ho
 obtain ⟨K3,e3⟩:=spec_SetPut_ev (nodeKeys ls) x tB
 obtain ⟨K4,e4⟩:=spec_Drop_ev (setPut (nodeKeys ls) x) tB
 obtain ⟨K5,e5⟩:=spec_NodeNew_ev (keysPut ls x) tB
 obtain ⟨K6,e6⟩:=spec_NodeOk_ev (nodeNew (keysPut ls x)) (by unfold okKeySS;omega)
 obtain ⟨K7,e7⟩:=spec_NodePut_j3 ls (keysPut ls x) true ho tB
 obtain ⟨K8,e8⟩:=spec_NodePut_j3 ls (keysPut ls x) (!nodeOkB (nodeNew (keysPut ls x))) ho tB
 refine evSucc ⟨K1 + K2 + K3 + K4 + K5 + K6 + K7 + K8,1,fun k hk=>?_⟩
 have a1:=e1 k tB
 have a2:=e2 k tB
 have a3:=e3 k tB
 have a4:=e4 k tB
 have a5:=e5 k tB
 have a6:=e6 k tB
 have a7:=e7 k tB
 have a8:=e8 k tB
 have hkp:dropNone (setPut (nodeKeys ls) x) = keysPut ls x:=rfl
 simp only at a1 a2 a3 a4 a5 a6 a7 a8
 simp only [spec_NodePut.j2,a1,a2,a3,a4,hkp,Option.bind_some]
 by_cases c1:nodeOkB cur = true
 ·rw [if_pos c1,if_pos c1]
 ·rw [if_neg c1,if_neg c1]
  by_cases c2:((keysPut ls x).length:Int) > 8
  ·rw [if_pos c2,if_neg tB,a7]
   rfl
  ·rw [if_neg c2]
   simp only [a5,Option.bind_some,a6,a8]
   have c3:(keysPut ls x).length ≤ 8:=by omega
   cases nodeOkB (nodeNew (keysPut ls x)) <;> simp [c3]
theorem spec_NodePut_ev (ls:List (List S38)) (x:S38) (h:bulkKeySS ls ≤ 4194300):Ev (fun k=>spec_NodePut.f k ls x.f0 x.f1 x.f2 x.f3 x.f4) (nodePut ls x):=by
 have ho:okKeySS ls:=by unfold okKeySS;omega
 have hlen:=okKeySS_len ho
 have hn:=bulk_nodeNext ls x
 have hj2:=spec_NodePut_j2 ls (nodeNext ls x) x h (by unfold okKeySS;omega)
 unfold spec_NodePut.f
 refine Ev.bind (spec_l5Copy_ev ls ho) ?_
 rw [w64 (x:=(ls.length:Int) - 1) tB tB]
 by_cases c:ls.length = 0
 ·simp only [if_neg (show ¬ ((ls.length:Int) - 1 ≥ 0) by omega)]
  have hnx:nodeNext ls x = ls ++ [[x]]:=by unfold nodeNext;rw [if_neg tB]
  rw [hnx] at hj2
  obtain ⟨K,e⟩:=hj2
  refine evSucc ⟨K,3,fun k hk=>?_⟩
  have a:=e k hk
  simp only at a
  simp only [spec_NodePut.j0,spec_NodePut.j1]
  rw [if_neg tB,if_neg te,if_pos tB]
  show spec_NodePut.j2 (k + 1) _ _ _ _ _ _ _ = _
  have a':=e (k + 1) tB
  simp only at a'
  rw [a']
  unfold nodePut
  rw [hnx]
 ·simp only [if_pos (show (ls.length:Int) - 1 ≥ 0 by omega),if_pos (show 0 ≤ (ls.length:Int) - 1 by omega),if_pos (show (ls.length:Int) - 1 < (ls.length:Int) by omega)]
  have hi:((ls.length:Int) - 1).toNat = ls.length - 1:=by omega
  have hr:rd_L2 ls ((ls.length:Int) - 1) = lastK ls:=by unfold rd_L2 lastK;rw [hi]
  have hlk:=okKeySS_at ho (ls.length - 1) tB
  have hlk':(lastK ls).length ≤ 4194304:=hlk
  rw [hr]
  refine Ev.bind (spec_SetAt_ev (lastK ls) x.f0 x.f1 hlk') ?_
  obtain ⟨K,e⟩:=hj2
  obtain ⟨K2,e2⟩:=spec_SetPut_ev (lastK ls) x hlk'
  have hb:(at6 (setAt (lastK ls) x.f0 x.f1)).2.2.2.2.2 = (setAt (lastK ls) x.f0 x.f1).isSome:=by cases setAt (lastK ls) x.f0 x.f1 <;> rfl
  rw [hb]
  refine evSucc ⟨K + K2,3,fun k hk=>?_⟩
  have a':=e (k + 1) tB
  have a2:=e2 (k + 1) tB
  simp only at a' a2
  have j1:∀ b:Bool,spec_NodePut.j1 (k + 2) ((ls.length:Int) - 1) b ls x.f0 x.f1 x.f2 x.f3 x.f4 ls = spec_NodePut.j2 (k + 1) ls x.f0 x.f1 x.f2 x.f3 x.f4 (if b = true then ls.set (ls.length - 1) (setPut (lastK ls) x) else ls ++ [[x]]):=by
   intro b
   cases b
   ·simp only [spec_NodePut.j1]
    rw [if_neg te,if_pos tB,if_neg te]
   ·simp only [spec_NodePut.j1]
    rw [if_pos trivial,if_pos tB,if_pos tB,hr,a2,hi]
    rfl
  show spec_NodePut.j0 (k + 3) _ _ _ _ _ _ _ _ _ = _
  simp only [spec_NodePut.j0]
  rw [if_pos tB,if_pos tB,if_pos tB,hr]
  have hfin:∀ b:Bool,hereK ls x = b → spec_NodePut.j2 (k + 1) ls x.f0 x.f1 x.f2 x.f3 x.f4 (if b = true then ls.set (ls.length - 1) (setPut (lastK ls) x) else ls ++ [[x]]) = some (nodePut ls x):=by
   intro b hb
   have:(if b = true then ls.set (ls.length - 1) (setPut (lastK ls) x) else ls ++ [[x]]) = nodeNext ls x:=by
    unfold nodeNext
    rw [hb]
    cases b
    ·simp
    ·simp [c]
   rw [this,a']
   rfl
  by_cases c4:((lastK ls).length:Int) < 4
  ·rw [if_pos c4,j1]
   exact hfin true (by unfold hereK;simp;right;omega)
  ·rw [if_neg c4,j1]
   exact hfin _ (by unfold hereK;have h4_:¬ (lastK ls).length < 4:=tB;simp [h4_])
def spotQ (a b:Int) (x:S38):Bool:=decide (x.f0 = a) && decide (x.f1 = b)
def Rise (l:List S38):Prop:=l.Pairwise fun x y=>less x y = true
theorem less_iff {x y:S38}:less x y = true ↔ x.f0 < y.f0 ∨ x.f0 = y.f0 ∧ x.f1 < y.f1:=by unfold less;exact decide_eq_true_iff
theorem same_iff {x y:S38}:same x y = true ↔ x.f0 = y.f0 ∧ x.f1 = y.f1:=by unfold same;exact decide_eq_true_iff
theorem putGo_mem (k:S38):∀ (l:List S38) (p:Bool) (y:S38),y ∈ putGo k l p → y = k ∨ y ∈ l
 | [],p,y,h=>by cases p <;> simp [putGo] at h;exact .inl h
 | x :: xs,p,y,h=>by
  simp only [putGo,List.mem_append] at h
  rcases h with h|h|h
  ·split at h <;> simp at h;exact .inl h
  ·split at h <;> simp at h;exact .inr (by simp [h])
  ·rcases putGo_mem k xs _ y h with h|h
   ·exact .inl h
   ·exact .inr (by simp [h])
theorem setPut_mem {l:List S38} {k y:S38} (h:y ∈ setPut l k):y = k ∨ y ∈ l:=putGo_mem k l false y h
theorem putGo_true (k:S38):∀ l:List S38,putGo k l true = l.filter fun x=>!same x k
 | []=>by simp [putGo]
 | x :: xs=>by
  simp only [putGo,Bool.true_or,if_true,List.nil_append,putGo_true k xs,List.filter_cons]
  cases same x k <;> simp
theorem rise_put (k:S38):∀ l:List S38,Rise l → Rise (setPut l k)
 | [],_=>by unfold setPut putGo Rise;simp
 | x :: xs,h=>by
  unfold Rise at h ⊢
  rw [List.pairwise_cons] at h
  have ih:=rise_put k xs h.2
  unfold setPut at ih ⊢
  unfold Rise at ih
  simp only [putGo,Bool.false_or]
  cases hl:less x k with
  | true =>
   have hs:same x k = false:=by
    cases h:same x k with
    | false=>rfl
    | true=>rw [less_iff] at hl;rw [same_iff] at h;omega
   simp only [if_true,hs,Bool.false_eq_true,if_false,List.nil_append,Bool.not_true,List.cons_append]
   rw [List.pairwise_cons]
   refine ⟨fun y hy=>?_,ih⟩
   rcases putGo_mem k xs false y hy with rfl|hy
   ·exact hl
   ·exact h.1 y hy
  | false =>
   simp only [Bool.false_eq_true,if_false,Bool.not_false,List.cons_append,List.nil_append,putGo_true]
   have e:((if same x k = true then [] else [x]) ++ xs.filter fun x=>!same x k) = (x :: xs).filter fun x=>!same x k:=by
    rw [List.filter_cons]
    cases same x k <;> simp
   rw [e,List.pairwise_cons]
   refine ⟨fun y hy=>?_,(List.pairwise_cons.2 h).filter _⟩
   rw [List.mem_filter] at hy
   have hn:¬ (x.f0 < k.f0 ∨ x.f0 = k.f0 ∧ x.f1 < k.f1):=fun h2=>by rw [less_iff.2 h2] at hl;cases hl
   have hy2:¬ (y.f0 = k.f0 ∧ y.f1 = k.f1):=fun h2=>by have:=same_iff.2 h2;simp [this] at hy
   rw [less_iff]
   rcases List.mem_cons.1 hy.1 with rfl|hm
   ·omega
   ·have:=less_iff.1 (h.1 y hm);omega
theorem rise_merge:∀ (b a:List S38),Rise a → Rise (mergeSets a b)
 | [],a,h=>h
 | x :: xs,a,h=>rise_merge xs (setPut a x) (rise_put x a h)
theorem mem_merge {y:S38}:∀ (b a:List S38),y ∈ mergeSets a b → y ∈ a ∨ y ∈ b
 | [],a,h=>.inl h
 | x :: xs,a,h=>by
  rcases mem_merge xs (setPut a x) h with h|h
  ·rcases setPut_mem h with h|h
   ·exact .inr (by simp [h])
   ·exact .inl h
  ·exact .inr (by simp [h])
theorem rise_at {l:List S38} (h:Rise l) (i:Nat) (h0:0 < i) (hi:i < l.length):less (l.getD (i - 1) z38) (l.getD i z38) = true:=by
 rw [List.getD_eq_getElem?_getD,List.getD_eq_getElem?_getD,List.getElem?_eq_getElem hi,List.getElem?_eq_getElem (show i - 1 < l.length by omega)]
 exact List.pairwise_iff_getElem.1 h (i - 1) i tB hi tB
theorem setOk_rise {l:List S38} (h:Rise l) (hk:∀ x ∈ l,keyOkB x = true) (hl:l.length ≤ 60):setOkB l = true:=by
 unfold setOkB
 simp only [Bool.and_eq_true,decide_eq_true_eq]
 refine ⟨allFrom_iff.2 fun j _ hj=>?_,hl⟩
 rw [hk _ (getD_mem l j z38 hj),Bool.true_and]
 rcases Nat.eq_zero_or_pos j with rfl|h0
 ·rfl
 ·unfold risesAt
  rw [rise_at h j h0 hj,Bool.or_true]
def nkAt (l:List S59) (i:Nat):List S38:=nodeKeys (l.getD i z59).f0
/-- The first of two nodes side by side that have few keys, n of them looked at from i on; -1: none. -/
def pairGo (l:List S59):Nat → Nat → Int
 | 0,_=>-1
 | n + 1,i=>if i + 1 < l.length then if (nkAt l i).length + (nkAt l (i + 1)).length ≤ 6 then (i:Int) else pairGo l n (i + 1) else -1
def pairAt (l:List S59):Int:=pairGo l l.length 0
def joinS (s:List Int) (i:Nat):List Int:=s.take (i + 1) ++ s.drop (i + 2)
def joinL (l:List S59) (i:Nat):List S59:=l.take i ++ [(⟨nodeNew (nkAt l i ++ nkAt l (i + 1))⟩:S59)] ++ l.drop (i + 2)
def treeJoin:Nat → List Int → List S59 → List Int × List S59
 | 0,s,l=>(s,l)
 | n + 1,s,l=>if 0 ≤ pairAt l then treeJoin n (joinS s (pairAt l).toNat) (joinL l (pairAt l).toNat) else (s,l)
def setS (s:List Int) (i c:Nat) (s2:List Int):List Int:=s.take i ++ s2 ++ s.drop (i + c)
def setL (l:List S59) (i c:Nat) (l2:List S59):List S59:=l.take i ++ l2 ++ l.drop (i + c)
/-- The lows and the nodes that take the place of node i's. -/
def putS (s:List Int) (l:List S59) (i:Nat) (x:S38):List Int :=
 if (nodePut (l.getD i z59).f0 x).2 = true then if 0 < i ∧ (nodeKeys (nodePut (l.getD i z59).f0 x).1).length = 0 then [] else [s.getD i 0]
 else [s.getD i 0,spotOf ((keysPut (l.getD i z59).f0 x).getD (((keysPut (l.getD i z59).f0 x).length + 1) / 2) z38).f0 ((keysPut (l.getD i z59).f0 x).getD (((keysPut (l.getD i z59).f0 x).length + 1) / 2) z38).f1]
def putL (l:List S59) (i:Nat) (x:S38):List S59 :=
 if (nodePut (l.getD i z59).f0 x).2 = true then if 0 < i ∧ (nodeKeys (nodePut (l.getD i z59).f0 x).1).length = 0 then [] else [(⟨(nodePut (l.getD i z59).f0 x).1⟩:S59)]
 else [(⟨nodeNew ((keysPut (l.getD i z59).f0 x).take (((keysPut (l.getD i z59).f0 x).length + 1) / 2))⟩:S59),(⟨nodeNew ((keysPut (l.getD i z59).f0 x).drop (((keysPut (l.getD i z59).f0 x).length + 1) / 2))⟩:S59)]
def whereAt (s:List Int) (x:S38):Nat:=(whereGo s (spotOf x.f0 x.f1) s.length).toNat
def putTree (s:List Int) (l:List S59) (x:S38):List Int × List S59 :=
 treeJoin (setL l (whereAt s x) 1 (putL l (whereAt s x) x)).length (setS s (whereAt s x) 1 (putS s l (whereAt s x) x)) (setL l (whereAt s x) 1 (putL l (whereAt s x) x))
def treePut (s:List Int) (l:List S59) (x:S38):List Int × List S59 × Bool :=
 if treeOkB s l = true ∧ keyOkB x = true then if treeOkB (putTree s l x).1 (putTree s l x).2 = true then ((putTree s l x).1,(putTree s l x).2,true) else (s,l,false)
 else (s,l,false)
theorem treePut_ok {s:List Int} {l:List S59} (x:S38) (h:treeOkB s l = true):treeOkB (treePut s l x).1 (treePut s l x).2.1 = true:=by
 unfold treePut
 split
 ·split
  ·assumption
  ·exact h
 ·exact h
theorem pairGo_range (l:List S59):∀ n i,pairGo l n i = -1 ∨ (0 ≤ pairGo l n i ∧ pairGo l n i + 1 < (l.length:Int))
 | 0,i=>.inl rfl
 | n + 1,i=>by
  simp only [pairGo]
  split
  ·split
   ·exact .inr ⟨wY,wY⟩
   ·exact pairGo_range l n (i + 1)
  ·exact .inl rfl
theorem pairAt_range (l:List S59):pairAt l = -1 ∨ (0 ≤ pairAt l ∧ pairAt l + 1 < (l.length:Int)):=pairGo_range l _ _
theorem bulkNodeS_app:∀ a b:List S59,bulkNodeS (a ++ b) = bulkNodeS a + bulkNodeS b
 | [],b=>by simp [bulkNodeS]
 | x :: a,b=>by have:=bulkNodeS_app a b;simp only [List.cons_append,bulkNodeS];omega
theorem bulkNodeS_cut (l:List S59) (i:Nat) (h:i < l.length):bulkNodeS (l.take i) + (1 + bulkKeySS (l.getD i z59).f0) + bulkNodeS (l.drop (i + 1)) = bulkNodeS l:=by
 have h1:bulkNodeS (l.take i ++ l.drop i) = bulkNodeS l:=by rw [List.take_append_drop]
 rw [bulkNodeS_app,drop_getD l i z59 h,bulkNodeS] at h1
 omega
theorem nkAt_len (l:List S59) (i:Nat):(nkAt l i).length ≤ bulkKeySS (l.getD i z59).f0:=by
 have h1:=nodeKeys_length (l.getD i z59).f0
 have h2:=countK_bulk (l.getD i z59).f0
 unfold nkAt
 omega
theorem bulk_joinL (l:List S59) (i:Nat) (h:i + 1 < l.length):bulkNodeS (joinL l i) ≤ bulkNodeS l:=by
 have h1:=bulkNodeS_cut l i tB
 have h3:bulkNodeS (l.drop (i + 1)) = 1 + bulkKeySS (l.getD (i + 1) z59).f0 + bulkNodeS (l.drop (i + 2)):=by rw [drop_getD l (i + 1) z59 h,bulkNodeS]
 have h4:=bulk_nodeNew (nkAt l i ++ nkAt l (i + 1))
 have h5:=nkAt_len l i
 have h6:=nkAt_len l (i + 1)
 rw [List.length_append] at h4
 unfold joinL
 rw [bulkNodeS_app,bulkNodeS_app]
 simp only [bulkNodeS]
 omega
theorem joinS_len (s:List Int) (i:Nat) (h:i + 1 < s.length):(joinS s i).length = s.length - 1:=by unfold joinS;simp;omega
theorem joinL_len (l:List S59) (i:Nat) (h:i + 1 < l.length):(joinL l i).length = l.length - 1:=by unfold joinL;simp;omega
theorem treeJoin_ok:∀ (n:Nat) (s:List Int) (l:List S59),s.length = l.length → (treeJoin n s l).1.length = (treeJoin n s l).2.length ∧ (treeJoin n s l).2.length ≤ l.length ∧ bulkNodeS (treeJoin n s l).2 ≤ bulkNodeS l
 | 0,s,l,h=>⟨h,Nat.le_refl _,Nat.le_refl _⟩
 | n + 1,s,l,h=>by
  simp only [treeJoin]
  split
  ·rename_i hp
   have hr:=pairAt_range l
   have hi:(pairAt l).toNat + 1 < l.length:=by omega
   have h1:=joinS_len s _ (by omega:(pairAt l).toNat + 1 < s.length)
   have h2:=joinL_len l _ hi
   have h3:=bulk_joinL l _ hi
   have h4:=treeJoin_ok n (joinS s (pairAt l).toNat) (joinL l (pairAt l).toNat) tB
   omega
  ·exact ⟨h,Nat.le_refl _,Nat.le_refl _⟩
theorem treeOk_facts {s:List Int} {l:List S59} (h:treeOkB s l = true):(1 ≤ l.length ∧ l.length ≤ 20) ∧ s.length = l.length ∧ s.getD 0 0 = 0 ∧ (∀ j,j < l.length → (j = 0 ∨ s.getD (j - 1) 0 < s.getD j 0) ∧ nodeFits s j (l.getD j z59) = true) ∧ sumKeysN l ≤ 60:=by
 unfold treeOkB at h
 split at h
 case isFalse=>cases h
 split at h
 case isFalse=>cases h
 split at h
 case isFalse=>cases h
 rename_i h1 h2 h3
 rw [Bool.and_eq_true,decide_eq_true_eq] at h
 refine ⟨wY,h2,h3,fun j hj=>?_,h.2⟩
 have:=allFrom_iff.1 h.1 j (Nat.zero_le _) hj
 rw [Bool.and_eq_true,Bool.or_eq_true,beq_iff_eq,decide_eq_true_eq] at this
 exact this
theorem nodeOk_bulk {ls:List (List S38)} (h:nodeOkB ls = true):bulkKeySS ls ≤ 11 ∧ countK ls ≤ 8:=by
 have hb:∀ ls:List (List S38),bulkKeySS ls = ls.length + countK ls:=by
  intro ls
  induction ls with
  | nil=>rfl
  | cons x xs ih=>simp only [bulkKeySS,countK,List.length_cons];omega
 unfold nodeOkB at h
 simp only [Bool.and_eq_true,decide_eq_true_eq] at h
 have:=hb ls
 omega
theorem fits_parts {s:List Int} {i:Nat} {x:S59} (h:nodeFits s i x = true):nodeOkB x.f0 = true ∧ (i = 0 ∨ (nodeKeys x.f0).length ≠ 0) ∧ inBoundsB s i x.f0 = true:=by
 unfold nodeFits at h
 simp only [Bool.and_eq_true,Bool.or_eq_true,beq_iff_eq,Bool.not_eq_true',decide_eq_false_iff_not] at h
 exact ⟨h.1,h.2.1,h.2.2⟩
theorem treeOk_bulk {s:List Int} {l:List S59} (h:treeOkB s l = true):bulkNodeS l ≤ 240:=by
 obtain ⟨h1,-,-,h4,-⟩:=treeOk_facts h
 have key:∀ n,n ≤ l.length → bulkNodeS (l.drop (l.length - n)) ≤ 12 * n:=by
  intro n
  induction n with
  | zero=>intro _;simp [bulkNodeS]
  | succ n ih =>
   intro hn
   have h5:=ih tB
   have h6:=(nodeOk_bulk (fits_parts (h4 (l.length - (n + 1)) tB).2).1).1
   rw [drop_getD l (l.length - (n + 1)) z59 tB,show l.length - (n + 1) + 1 = l.length - n by omega,bulkNodeS]
   omega
 have:=key l.length (Nat.le_refl _)
 rw [Nat.sub_self,List.drop_zero] at this
 omega
theorem keyOk_spot {x:S38} (h:keyOkB x = true):0 ≤ spotOf x.f0 x.f1:=by
 unfold keyOkB keyOk5 at h
 simp only [Bool.and_eq_true,decide_eq_true_eq] at h
 unfold spotOf wrap64
 omega
theorem whereGo_pos (s:List Int) (x:Int) (h:s.getD 0 0 ≤ x):∀ n,0 < n → 0 ≤ whereGo s x n
 | 0,h0=>by omega
 | n + 1,_=>by
  simp only [whereGo]
  split
  ·omega
  ·rcases Nat.eq_zero_or_pos n with rfl|hn
   ·contradiction
   ·exact whereGo_pos s x h n hn
theorem whereAt_spec {s:List Int} {l:List S59} {x:S38} (h:treeOkB s l = true) (hx:keyOkB x = true):whereGo s (spotOf x.f0 x.f1) s.length = (whereAt s x:Int) ∧ whereAt s x < l.length:=by
 obtain ⟨h1,h2,h3,-,-⟩:=treeOk_facts h
 have h4:=keyOk_spot hx
 have h5:=whereGo_pos s (spotOf x.f0 x.f1) tB s.length tB
 have h6:=whereGo_range s (spotOf x.f0 x.f1) s.length
 unfold whereAt
 omega
theorem mem_mergeAll {y:S38}:∀ (ls:List (List S38)) (s:List S38),y ∈ mergeAll s ls → y ∈ s ∨ ∃ a ∈ ls,y ∈ a
 | [],s,h=>.inl h
 | a :: ls,s,h=>by
  rcases mem_mergeAll ls (mergeSets s a) h with h|⟨b,hb,h⟩
  ·rcases mem_merge a s h with h|h
   ·exact .inl h
   ·exact .inr ⟨a,by simp,h⟩
  ·exact .inr ⟨b,by simp [hb],h⟩
theorem mem_nodeKeys {y:S38} {ls:List (List S38)} (h:y ∈ nodeKeys ls):∃ a ∈ ls,y ∈ a:=by
 unfold nodeKeys dropNone at h
 rcases mem_mergeAll ls [] (List.mem_filter.1 h).1 with h|h
 ·cases h
 ·exact h
theorem rise_mergeAll:∀ (ls:List (List S38)) (s:List S38),Rise s → Rise (mergeAll s ls)
 | [],s,h=>h
 | a :: ls,s,h=>rise_mergeAll ls (mergeSets s a) (rise_merge a s h)
theorem rise_dropNone {l:List S38} (h:Rise l):Rise (dropNone l):=List.Pairwise.filter _ h
theorem rise_nodeKeys (ls:List (List S38)):Rise (nodeKeys ls):=rise_dropNone (rise_mergeAll ls [] List.Pairwise.nil)
theorem nodeOk_keys {ls:List (List S38)} (h:nodeOkB ls = true) {a:List S38} (ha:a ∈ ls) {y:S38} (hy:y ∈ a):keyOkB y = true:=by
 unfold nodeOkB at h
 rw [Bool.and_eq_true] at h
 obtain ⟨i,hi,rfl⟩:=List.getElem_of_mem ha
 have h1:=allFrom_iff.1 h.1 i (Nat.zero_le _) hi
 rw [Bool.and_eq_true] at h1
 have h2:=h1.1
 unfold setOkB at h2
 rw [Bool.and_eq_true] at h2
 rw [List.getD_eq_getElem?_getD,List.getElem?_eq_getElem hi] at h2
 obtain ⟨j,hj,rfl⟩:=List.getElem_of_mem hy
 have h3:=allFrom_iff.1 h2.1 j (Nat.zero_le _) hj
 rw [Bool.and_eq_true] at h3
 have h4:=h3.1
 simp only [Option.getD_some] at h4
 rw [List.getD_eq_getElem?_getD,List.getElem?_eq_getElem hj] at h4
 exact h4
theorem nodeOk_new {l:List S38} (hr:Rise l) (hk:∀ y ∈ l,keyOkB y = true) (hl:l.length ≤ 8):nodeOkB (nodeNew l) = true:=by
 unfold nodeNew
 split
 ·rfl
 ·rename_i h0
  have h1:=setOk_rise hr hk tB
  unfold nodeOkB
  rw [Bool.and_eq_true,Bool.and_eq_true,decide_eq_true_eq,decide_eq_true_eq]
  refine ⟨allFrom_iff.2 fun j _ hj=>?_,by simp,by simp only [countK];omega⟩
  obtain rfl:j = 0:=by simp at hj;omega
  simp only [List.getD_cons_zero,h1,Bool.true_and,decide_eq_false h0,Bool.not_false]
theorem keysPut_many {ls:List (List S38)} {x:S38} (h:nodeOkB ls = true) (hx:keyOkB x = true) (hn:(nodePut ls x).2 = false):8 < (keysPut ls x).length:=by
 unfold nodePut at hn
 split at hn
 ·cases hn
 split at hn
 ·cases hn
 rename_i _ h2
 apply Nat.lt_of_not_le
 intro h3
 refine h2 ⟨h3,nodeOk_new (rise_dropNone (rise_put x _ (rise_nodeKeys ls))) (fun y hy=>?_) h3⟩
 unfold keysPut dropNone at hy
 rcases setPut_mem (List.mem_filter.1 hy).1 with rfl|hy
 ·exact hx
 ·obtain ⟨a,ha,hy⟩:=mem_nodeKeys hy
  exact nodeOk_keys h ha hy
theorem put_len (s:List Int) (l:List S59) (i:Nat) (x:S38):(putS s l i x).length = (putL l i x).length ∧ (putL l i x).length ≤ 2:=by
 unfold putS putL
 split
 ·split <;> simp
 ·simp
theorem bulk_putL (l:List S59) (i:Nat) (x:S38):bulkNodeS (putL l i x) ≤ 2 * bulkKeySS (l.getD i z59).f0 + 10:=by
 have h1:=bulk_nodeNext (l.getD i z59).f0 x
 have h2:=keysPut_length (l.getD i z59).f0 x
 have h3:=bulk_nodeNew (keysPut (l.getD i z59).f0 x)
 have h4:=bulk_nodeNew ((keysPut (l.getD i z59).f0 x).take (((keysPut (l.getD i z59).f0 x).length + 1) / 2))
 have h5:=bulk_nodeNew ((keysPut (l.getD i z59).f0 x).drop (((keysPut (l.getD i z59).f0 x).length + 1) / 2))
 rw [List.length_take] at h4
 rw [List.length_drop] at h5
 have h6:bulkKeySS (nodePut (l.getD i z59).f0 x).1 ≤ bulkKeySS (l.getD i z59).f0 + 2:=by
  unfold nodePut
  split
  ·show bulkKeySS (nodeNext _ x) ≤ _;omega
  ·split
   ·show bulkKeySS (nodeNew _) ≤ _;omega
   ·show bulkKeySS (l.getD i z59).f0 ≤ _;omega
 unfold putL
 split
 ·split
  ·simp only [bulkNodeS];omega
  ·simp only [bulkNodeS];omega
 ·simp only [bulkNodeS];omega
theorem setL_bulk (l:List S59) (i:Nat) (h:i < l.length) (x:S38):bulkNodeS (setL l i 1 (putL l i x)) ≤ 3 * bulkNodeS l + 10:=by
 have h1:=bulkNodeS_cut l i h
 have h2:=bulk_putL l i x
 have h3:=bulkNodeS_at l i h
 unfold setL
 rw [bulkNodeS_app,bulkNodeS_app]
 omega
theorem set_len (s:List Int) (l:List S59) (i:Nat) (x:S38) (hs:s.length = l.length) (h:i < l.length):(setS s i 1 (putS s l i x)).length = (setL l i 1 (putL l i x)).length ∧ (setL l i 1 (putL l i x)).length ≤ l.length + 1:=by
 have h1:=put_len s l i x
 unfold setS setL
 simp only [List.length_append,List.length_take,List.length_drop]
 omega
theorem spec_l6Set_f (s s2:List Int) (l l2:List S59) (i:Nat) (hi:i < s.length) (hs:s.length = l.length) (hl:l.length ≤ 4194304) (h2:s2.length ≤ 4194304) (h3:l2.length ≤ 4194304):spec_l6Set.f s l (i:Int) s2 l2 = some (setS s i 1 s2,setL l i 1 l2):=by
 simp only [spec_l6Set.f,Option.bind_some,w64s i tB,List.nil_append,Int.toNat_natCast]
 rw [if_pos tB,if_pos tB,if_pos (by simp only [List.length_nil,List.length_take];omega),if_pos (by simp only [List.length_take];omega),if_pos tB,if_pos tB]
 rw [if_pos (by simp only [List.length_append,List.length_take,List.length_drop];omega),if_pos tB,if_pos (by simp only [List.length_nil,List.length_take];omega),if_pos (by simp only [List.length_take];omega),if_pos tB,if_pos (by simp only [List.length_append,List.length_take,List.length_drop];omega)]
 rfl
theorem rdT_nat (l:List S59) (i:Nat):rd_T59 l (i:Int) = l.getD i z59:=by simp [rd_T59]
theorem nk_small {l:List S59} (ho:okNodeS l) (i:Nat) (hi:i < l.length):(nodeKeys (l.getD i z59).f0).length ≤ 4194304:=by
 have h1:=nkAt_len l i
 have h2:=okNodeS_at ho i hi
 unfold okKeySS at h2
 unfold nkAt at h1
 omega
theorem spec_l6Pair_go (s:List Int) (l:List S59) (ho:okNodeS l):∀ n i,i + n = l.length → Ev (fun k=>spec_l6Pair.l0 k (i:Int) s l) (pairGo l n i)
 | 0,i,h=>evSucc ⟨0,1,fun k _=>by
   have hl:=okNodeS_len ho
   show spec_l6Pair.l0 (k + 1) (i:Int) s l = _
   unfold spec_l6Pair.l0
   rw [w64s i tB,if_neg tB]
   rfl⟩
 | n + 1,i,h=>by
  have hl:=okNodeS_len ho
  by_cases c:i + 1 < l.length
  ·obtain ⟨K1,e1⟩:=spec_NodeKeys_ev (l.getD i z59).f0 (okNodeS_at ho i tB)
   obtain ⟨K2,e2⟩:=spec_NodeKeys_ev (l.getD (i + 1) z59).f0 (okNodeS_at ho (i + 1) c)
   obtain ⟨K3,e3⟩:=spec_l6Pair_go s l ho n (i + 1) tB
   have b1:=nk_small ho i tB
   have b2:=nk_small ho (i + 1) c
   refine evSucc ⟨K1 + K2 + K3,1,fun k hk=>?_⟩
   have a1:=e1 k tB
   have a2:=e2 k tB
   have a3:=e3 k tB
   simp only at a1 a2 a3
   have hr0:=rdT_nat l i
   have hr1:=rdT_nat l (i + 1)
   have hw:=w64s i tB
   show spec_l6Pair.l0 (k + 1) (i:Int) s l = _
   unfold spec_l6Pair.l0
   rw [hw,hr0,hr1,a1,a2]
   rw [if_pos tB,if_pos tB,if_pos tB]
   rw [Option.bind_some,if_pos tB,Option.bind_some,w64 (x:=((nodeKeys (l.getD i z59).f0).length:Int) + ((nodeKeys (l.getD (i + 1) z59).f0).length:Int)) tB tB]
   simp only [pairGo]
   rw [if_pos c]
   by_cases q:(nkAt l i).length + (nkAt l (i + 1)).length ≤ 6
   ·rw [if_pos q,if_pos (by unfold nkAt at q;omega)]
   ·rw [if_neg q,if_neg (by unfold nkAt at q;omega)]
    exact a3
  ·refine evSucc ⟨0,1,fun k _=>?_⟩
   show spec_l6Pair.l0 (k + 1) (i:Int) s l = _
   unfold spec_l6Pair.l0
   rw [w64s i tB,if_neg tB]
   simp only [pairGo]
   rw [if_neg c]
theorem spec_l6Pair_ev (s:List Int) (l:List S59) (ho:okNodeS l):Ev (fun k=>spec_l6Pair.f k s l) (pairAt l):=by
 obtain ⟨K,e⟩:=spec_l6Pair_go s l ho l.length 0 tB
 exact ⟨K,fun k hk=>e k hk⟩
theorem spec_l6Join_go:∀ (n:Nat) (s:List Int) (l:List S59),l.length ≤ n → s.length = l.length → okNodeS l → Ev (fun k=>spec_l6Join.l0 k (pairAt l) s l) (treeJoin n s l)
 | 0,s,l,hn,hs,ho=>by
  have hr:=pairAt_range l
  refine evSucc ⟨0,1,fun k _=>?_⟩
  show spec_l6Join.l0 (k + 1) (pairAt l) s l = _
  unfold spec_l6Join.l0
  rw [if_neg tB]
  rfl
 | n + 1,s,l,hn,hs,ho=>by
  have hl:=okNodeS_len ho
  rcases pairAt_range l with c|⟨c0,c1⟩
  ·refine evSucc ⟨0,1,fun k _=>?_⟩
   show spec_l6Join.l0 (k + 1) (pairAt l) s l = _
   unfold spec_l6Join.l0
   simp only [treeJoin]
   rw [if_neg tB,if_neg tB]
  ·obtain ⟨i,hi⟩:∃ i:Nat,pairAt l = (i:Int):=⟨(pairAt l).toNat,wY⟩
   have hi1:i + 1 < l.length:=by omega
   have h2:=joinS_len s i tB
   have h3:=joinL_len l i hi1
   have h4:=bulk_joinL l i hi1
   have hoj:okNodeS (joinL l i):=by unfold okNodeS at ho ⊢;omega
   have b1:=nkAt_len l i
   have b2:=nkAt_len l (i + 1)
   have b3:=bulkNodeS_cut l i tB
   have b4:bulkNodeS (l.drop (i + 1)) = 1 + bulkKeySS (l.getD (i + 1) z59).f0 + bulkNodeS (l.drop (i + 2)):=by rw [drop_getD l (i + 1) z59 hi1,bulkNodeS]
   have bo:bulkNodeS l ≤ 4194304:=ho
   obtain ⟨K1,e1⟩:=spec_NodeKeys_ev (l.getD i z59).f0 (okNodeS_at ho i tB)
   obtain ⟨K2,e2⟩:=spec_NodeKeys_ev (l.getD (i + 1) z59).f0 (okNodeS_at ho (i + 1) hi1)
   obtain ⟨_,e3⟩:=evGet (spec_NodeNew_ev (nkAt l i ++ nkAt l (i + 1)) (by rw [List.length_append];omega))
   obtain ⟨K4,e4⟩:=spec_l6Pair_ev (joinS s i) (joinL l i) hoj
   obtain ⟨K5,e5⟩:=spec_l6Join_go n (joinS s i) (joinL l i) tB tB hoj
   refine evSucc ⟨K1 + K2 + K4 + K5,1,fun k hk=>?_⟩
   have a1:=e1 k tB
   have a2:=e2 k tB
   have a4:=e4 k tB
   have a5:=e5 k tB
   simp only at a1 a2 a4 a5
   simp only [treeJoin]
   rw [if_pos c0,hi,Int.toNat_natCast]
   have hr0:=rdT_nat l i
   have hr1:=rdT_nat l (i + 1)
   unfold nkAt at b1 b2
   show spec_l6Join.l0 (k + 1) (i:Int) s l = _
   unfold spec_l6Join.l0
   rw [w64s i tB]
   rw [show wrap64 ((i:Int) + 2) = ((i + 2:Nat):Int) from by rw [w64 tB tB];omega]
   rw [hr0,hr1,a1,a2]
   clear hr0 hr1 a1 a2
   rw [if_pos tB,if_pos tB,if_pos tB,Option.bind_some,if_pos tB,if_pos tB,Option.bind_some,if_pos tB]
   rw [Option.bind_some,if_pos tB,Option.bind_some,if_pos vY,Option.bind_some,if_pos tB,if_pos tB,Option.bind_some,if_pos vY,Option.bind_some]
   rw [Option.bind_some,if_pos tB,Option.bind_some,if_pos vY,Option.bind_some]
   rw [show spec_NodeNew.f (nodeKeys (l.getD i z59).f0 ++ nodeKeys (l.getD (i + 1) z59).f0) = some (nodeNew (nkAt l i ++ nkAt l (i + 1))) from e3]
   rw [Option.bind_some,if_pos vY,Option.bind_some,if_pos tB,Option.bind_some,if_pos vY,Option.bind_some]
   simp only [Int.toNat_natCast,List.nil_append]
   show (spec_l6Pair.f k (joinS s i) (joinL l i)).bind _ = _
   rw [a4]
   exact a5
theorem spec_l6Join_ev (s:List Int) (l:List S59) (hs:s.length = l.length) (ho:okNodeS l):Ev (fun k=>spec_l6Join.f k s l) (treeJoin l.length s l):=by
 unfold spec_l6Join.f
 exact Ev.bind (spec_l6Pair_ev s l ho) (spec_l6Join_go l.length s l (Nat.le_refl _) hs ho)
theorem spec_TreePut_j1 (s s2:List Int) (l l2:List S59) (hs:s2.length = l2.length) (ho:okNodeS l2) (ho2:okIntS (treeJoin l2.length s2 l2).1):Ev (fun k=>spec_TreePut.j1 k s l s2 l2) (if treeOkB (treeJoin l2.length s2 l2).1 (treeJoin l2.length s2 l2).2 = true then ((treeJoin l2.length s2 l2).1,(treeJoin l2.length s2 l2).2,true) else (s,l,false)):=by
 have h1:=treeJoin_ok l2.length s2 l2 hs
 obtain ⟨K,e⟩:=spec_l6Join_ev s2 l2 hs ho
 obtain ⟨K2,e2⟩:=spec_TreeOk_ev (treeJoin l2.length s2 l2).1 (treeJoin l2.length s2 l2).2 ho2 (by unfold okNodeS at ho ⊢;omega)
 refine evSucc ⟨K + K2,1,fun k hk=>?_⟩
 have a:=e k tB
 have a2:=e2 k tB
 simp only at a a2
 simp only [spec_TreePut.j1,a,a2,Option.bind_some]
 split <;> rfl
theorem put_oks {s:List Int} {l:List S59} {x:S38} (c1:treeOkB s l = true) (c2:keyOkB x = true):bulkKeySS (l.getD (whereAt s x) z59).f0 ≤ 240 ∧ okNodeS (setL l (whereAt s x) 1 (putL l (whereAt s x) x)) ∧ okIntS (treeJoin (setL l (whereAt s x) 1 (putL l (whereAt s x) x)).length (setS s (whereAt s x) 1 (putS s l (whereAt s x) x)) (setL l (whereAt s x) 1 (putL l (whereAt s x) x))).1 ∧ (setS s (whereAt s x) 1 (putS s l (whereAt s x) x)).length = (setL l (whereAt s x) 1 (putL l (whereAt s x) x)).length:=by
 obtain ⟨f1,f2,-,-,-⟩:=treeOk_facts c1
 have w2:=(whereAt_spec c1 c2).2
 have hb:=treeOk_bulk c1
 have hp:=set_len s l (whereAt s x) x f2 w2
 have hq:=setL_bulk l _ w2 x
 have hbn:=bulkNodeS_at l (whereAt s x) w2
 have hj:=treeJoin_ok (setL l (whereAt s x) 1 (putL l (whereAt s x) x)).length _ _ hp.1
 unfold okNodeS okIntS
 generalize treeJoin (setL l (whereAt s x) 1 (putL l (whereAt s x) x)).length (setS s (whereAt s x) 1 (putS s l (whereAt s x) x)) (setL l (whereAt s x) 1 (putL l (whereAt s x) x)) = y at *
 generalize setL l (whereAt s x) 1 (putL l (whereAt s x) x) = z at *
 generalize setS s (whereAt s x) 1 (putS s l (whereAt s x) x) = z2 at *
 generalize bulkKeySS (l.getD (whereAt s x) z59).f0 = z3 at *
 omega
theorem spec_TreePut_ev (s:List Int) (l:List S59) (x:S38) (h:okIntS s) (ho:okNodeS l):Ev (fun k=>spec_TreePut.f k s l x.f0 x.f1 x.f2 x.f3 x.f4) (treePut s l x):=by
 obtain ⟨K1,e1⟩:=spec_l6Copy_ev s l h ho
 obtain ⟨K2,e2⟩:=spec_TreeOk_ev s l h ho
 obtain ⟨K3,e3⟩:=spec_KeyOk_ev x.f0 x.f1 x.f2 x.f3 x.f4
 by_cases c:treeOkB s l = true ∧ keyOkB x = true
 ·obtain ⟨c1,c2⟩:=c
  obtain ⟨f1,f2,f3,f4,-⟩:=treeOk_facts c1
  obtain ⟨w1,w2⟩:=whereAt_spec c1 c2
  obtain ⟨hb5,ho9,hi9,hl9⟩:=put_oks c1 c2
  obtain ⟨K4,e4⟩:=spec_WhereIn_ev s l x.f0 x.f1 h
  rw [w1] at e4
  clear w1
  have hon:=okNodeS_at ho (whereAt s x) w2
  obtain ⟨K5,e5⟩:=spec_NodePut_ev (l.getD (whereAt s x) z59).f0 x (Nat.le_trans hb5 tb)
  obtain ⟨K9,e9⟩:=spec_TreePut_j1 s (setS s (whereAt s x) 1 (putS s l (whereAt s x) x)) l (setL l (whereAt s x) 1 (putL l (whereAt s x) x)) hl9 ho9 hi9
  clear hl9 ho9 hi9
  have ha:treePut s l x = (if treeOkB (putTree s l x).1 (putTree s l x).2 = true then ((putTree s l x).1,(putTree s l x).2,true) else (s,l,false)):=by unfold treePut;rw [if_pos ⟨c1,c2⟩]
  rw [ha]
  unfold putTree
  generalize hi:whereAt s x = i at *
  have hrd:rd s (i:Int) = s.getD i 0:=by simp [rd]
  have hrt:=rdT_nat l i
  -- what the call comes to, once the parts are known
  by_cases q:(nodePut (l.getD i z59).f0 x).2 = true
  ·obtain ⟨K6,e6⟩:=spec_NodeKeys_ev (nodePut (l.getD i z59).f0 x).1 (okKeySS_nodePut _ x (Nat.le_trans hb5 tb))
   refine evSucc ⟨K1 + K2 + K3 + K4 + K5 + K6 + K9,2,fun k hk=>?_⟩
   have a1:=e1 (k + 2) tB
   have a2:=e2 (k + 2) tB
   have a3:=e3 (k + 2) tB
   have a4:=e4 (k + 1) tB
   have a5:=e5 (k + 1) tB
   have a6:=e6 (k + 1) tB
   have a9:=e9 (k + 1) tB
   simp only at a1 a2 a3 a4 a5 a6 a9
   have k3:keyOk5 x.f0 x.f1 x.f2 x.f3 x.f4 = true:=c2
   simp only [spec_TreePut.f,a1,a2,a3,k3,c1,Option.bind_some,if_true,Bool.not_true,spec_TreePut.j0,Bool.false_eq_true,if_false,a4,hrt,a5,hrd]
   rw [if_pos tB,if_pos tB,if_pos tB,spec_l6Set_f s [s.getD i 0] l _ i tB f2 tB te te]
   simp only [Option.bind_some]
   rw [if_pos q]
   by_cases q2:0 < i ∧ (nodeKeys (nodePut (l.getD i z59).f0 x).1).length = 0
   ·rw [if_pos tB,a6]
    simp only [Option.bind_some]
    rw [if_pos tB,spec_l6Set_f s [] l [] i tB f2 tB te te]
    simp only [Option.bind_some]
    have p1:putS s l i x = []:=by unfold putS;rw [if_pos q,if_pos q2]
    have p2:putL l i x = []:=by unfold putL;rw [if_pos q,if_pos q2]
    rw [p1,p2] at a9
    rw [p1,p2]
    exact a9
   ·have p1:putS s l i x = [s.getD i 0]:=by unfold putS;rw [if_pos q,if_neg q2]
    have p2:putL l i x = [(⟨(nodePut (l.getD i z59).f0 x).1⟩:S59)]:=by unfold putL;rw [if_pos q,if_neg q2]
    rw [p1,p2] at a9
    rw [p1,p2]
    by_cases q3:0 < i
    ·rw [if_pos tB,a6]
     simp only [Option.bind_some]
     rw [if_neg tB]
     exact a9
    ·rw [if_neg tB]
     exact a9
  ·have q':(nodePut (l.getD i z59).f0 x).2 = false:=by simpa using q
   have hm:=keysPut_many (fits_parts (f4 i w2).2).1 c2 q'
   have hkl:=keysPut_length (l.getD i z59).f0 x
   have hkn:=nk_small ho i w2
   have hsp:=setPut_length (nodeKeys (l.getD i z59).f0) x
   obtain ⟨K6,e6⟩:=spec_NodeKeys_ev (l.getD i z59).f0 hon
   obtain ⟨K7,e7⟩:=spec_SetPut_ev (nodeKeys (l.getD i z59).f0) x hkn
   obtain ⟨K8,e8⟩:=spec_Drop_ev (setPut (nodeKeys (l.getD i z59).f0) x) (by have:=nkAt_len l i;unfold nkAt at this;omega)
   have hkp:dropNone (setPut (nodeKeys (l.getD i z59).f0) x) = keysPut (l.getD i z59).f0 x:=rfl
   rw [hkp] at e8
   have p1:putS s l i x = [s.getD i 0,spotOf ((keysPut (l.getD i z59).f0 x).getD (((keysPut (l.getD i z59).f0 x).length + 1) / 2) z38).f0 ((keysPut (l.getD i z59).f0 x).getD (((keysPut (l.getD i z59).f0 x).length + 1) / 2) z38).f1]:=by unfold putS;rw [if_neg q]
   have p2:putL l i x = [(⟨nodeNew ((keysPut (l.getD i z59).f0 x).take (((keysPut (l.getD i z59).f0 x).length + 1) / 2))⟩:S59),(⟨nodeNew ((keysPut (l.getD i z59).f0 x).drop (((keysPut (l.getD i z59).f0 x).length + 1) / 2))⟩:S59)]:=by unfold putL;rw [if_neg q]
   rw [p1,p2] at e9
   rw [p1,p2]
   generalize keysPut (l.getD i z59).f0 x = ks at *
   obtain ⟨h',hh⟩:∃ h':Nat,(ks.length + 1) / 2 = h':=⟨_,rfl⟩
   obtain ⟨_,n1⟩:=evGet (spec_NodeNew_ev (ks.take h') (by rw [List.length_take];omega))
   obtain ⟨_,n2⟩:=evGet (spec_NodeNew_ev (ks.drop h') (by rw [List.length_drop];omega))
   have hw:=aA.mk (show wrap64 (Int.tdiv (wrap64 ((ks.length:Int) + 1)) 2) = (h':Int) from by rw [w64 (x:=(ks.length:Int) + 1) tB tB,Int.tdiv_eq_ediv_of_nonneg tB,w64 tB tB];omega)
   have hrk:rd_T38 ks (h':Int) = ks.getD h' z38:=by simp [rd_T38]
   rw [hh] at e9
   rw [hh]
   refine evSucc ⟨K1 + K2 + K3 + K4 + K5 + K6 + K7 + K8 + K9,2,fun k hk=>?_⟩
   have a1:=e1 (k + 2) tB
   have a2:=e2 (k + 2) tB
   have a3:=e3 (k + 2) tB
   have a4:=e4 (k + 1) tB
   have a5:=e5 (k + 1) tB
   have a6:=e6 (k + 1) tB
   have a7:=e7 (k + 1) tB
   have a8:=e8 (k + 1) tB
   have a9:=e9 (k + 1) tB
   simp only at a1 a2 a3 a4 a5 a6 a7 a8 a9 n1 n2
   have k3:keyOk5 x.f0 x.f1 x.f2 x.f3 x.f4 = true:=c2
   simp only [spec_TreePut.f,a1,a2,a3,k3,c1,Option.bind_some,if_true,Bool.not_true,spec_TreePut.j0,Bool.false_eq_true,if_false,a4,hrt,a5,hrd]
   rw [if_pos tB,if_pos tB,if_pos tB,spec_l6Set_f s [s.getD i 0] l _ i tB f2 tB te te]
   simp only [Option.bind_some]
   rw [if_neg q]
   rw [a6,Option.bind_some,a7,Option.bind_some,a8,Option.bind_some,hw.out,hrk,Int.toNat_natCast]
   rw [if_pos tB,if_pos tB]
   simp only [spec_l6Spot.f,spec_SpotOf.f,Option.bind_some]
   rw [if_pos tB,n1,n2]
   simp only [Option.bind_some]
   rw [spec_l6Set_f s _ l _ i tB f2 tB te te]
   exact a9
 ·have ha:treePut s l x = (s,l,false):=by unfold treePut;rw [if_neg c]
  rw [ha]
  refine evSucc ⟨K1 + K2 + K3,1,fun k hk=>?_⟩
  have a1:=e1 (k + 1) tB
  have a2:=e2 (k + 1) tB
  have a3:=e3 (k + 1) tB
  simp only at a1 a2 a3
  simp only [spec_TreePut.f,a1,a2,a3,Option.bind_some]
  by_cases c1:treeOkB s l = true
  ·have c2:keyOk5 x.f0 x.f1 x.f2 x.f3 x.f4 = false:=by
    cases h:keyOk5 x.f0 x.f1 x.f2 x.f3 x.f4 with
    | false=>rfl
    | true=>exact absurd ⟨c1,h⟩ c
   simp only [c1,if_true,c2,Bool.not_false,spec_TreePut.j0]
  ·rw [if_neg c1]
   simp only [spec_TreePut.j0,if_true]
theorem l1Byte_ex (b:List Int) (i h:Int) (hc:curOk b i):∃ x j g,spec_l1Byte.f b i h = some (x,j,g) ∧ (0 ≤ x ∧ x ≤ 255) ∧ curOk b j:=by
 obtain ⟨hb,hl,h0,h1⟩:=hc
 unfold spec_l1Byte.f
 simp only [and255]
 by_cases c:i < (b.length:Int)
 ·rw [if_pos c,if_pos h0]
  exact ⟨_,_,_,rfl,⟨wY,wY⟩,hb,hl,by rw [w64 tB tB];omega,by rw [w64 tB tB];omega⟩
 ·rw [if_neg c]
  exact ⟨_,_,_,rfl,⟨wY,wY⟩,hb,hl,h0,h1⟩
theorem l1Below_ex (b:List Int) (i h n:Int) (hc:curOk b i) (hn:n ≤ 9223372036854775807):∃ x j g,spec_l1Below.f b i h n = some (x,j,g) ∧ (0 ≤ x ∧ (0 < n → x < n) ∧ (n ≤ 0 → x = 0)) ∧ curOk b j:=by
 unfold spec_l1Below.f
 by_cases c:n ≤ 0
 ·rw [if_pos c];exact ⟨_,_,_,rfl,⟨wY,wY,fun _=>rfl⟩,hc⟩
 rw [if_neg c]
 by_cases c2:n ≤ 256
 ·rw [if_pos c2]
  obtain ⟨x,j,g,e,hx,hj⟩:=l1Byte_ex b i h hc
  simp only [e,Option.bind_some]
  rw [if_neg tB]
  have h1:=Int.tmod_nonneg (b:=n) hx.1
  have h2:=Int.tmod_lt_of_pos x (show 0 < n by omega)
  exact ⟨_,_,_,rfl,⟨h1,fun _=>h2,fun h=>by omega⟩,hj⟩
 ·rw [if_neg c2]
  obtain ⟨x,j,g,e,hx,hj⟩:=l1Byte_ex b i h hc
  obtain ⟨x2,j2,g2,e2,hx2,hj2⟩:=l1Byte_ex b j g hj
  obtain ⟨x3,j3,g3,e3,hx3,hj3⟩:=l1Byte_ex b j2 g2 hj2
  simp only [e,e2,e3,Option.bind_some]
  rw [if_neg tB,w64 (x:=x * 65536) tB tB,w64 (x:=x2 * 256) tB tB,w64 (x:=x * 65536 + x2 * 256) tB tB,w64 (x:=x * 65536 + x2 * 256 + x3) tB tB]
  have h1:=Int.tmod_nonneg (b:=n) (show 0 ≤ x * 65536 + x2 * 256 + x3 by omega)
  have h2:=Int.tmod_lt_of_pos (x * 65536 + x2 * 256 + x3) (show 0 < n by omega)
  exact ⟨_,_,_,rfl,⟨h1,fun _=>h2,fun h=>by omega⟩,hj3⟩
theorem rd_mem (l:List Int) (i:Int) (h0:0 ≤ i) (h1:i < (l.length:Int)):rd l i ∈ l:=by unfold rd;exact getD_mem l i.toNat 0 tB
theorem l1Int_ex (b:List Int) (i h:Int) (l:List Int) (hc:curOk b i) (hl:0 < l.length) (hm:l.length ≤ 1048576):∃ x j g,spec_l1Int.f b i h l = some (x,j,g) ∧ x ∈ l ∧ curOk b j:=by
 obtain ⟨x,j,g,e,hx,hj⟩:=l1Below_ex b i h (l.length:Int) hc tB
 have h1:=hx.2.1 tB
 unfold spec_l1Int.f
 simp only [e,Option.bind_some]
 rw [if_pos hx.1,if_pos h1]
 exact ⟨_,_,_,rfl,rd_mem l x hx.1 h1,hj⟩
theorem l3Draw_ex (b:List Int) (i h:Int) (hc:curOk b i):∃ x0 x1 x2 x3 x4 j g,spec_l3Draw.f b i h = some (x0,x1,x2,x3,x4,j,g) ∧ (0 ≤ x0 ∧ x0 < 4 ∧ 1 ≤ x1 ∧ x1 ≤ 5 ∧ (x2 = 0 ∧ x3 = 0 ∧ x4 = 0 ∨ x2 = 2 ∧ x3 = 0 ∧ x4 = 0 ∨ x2 = 1 ∧ 0 ≤ x3 ∧ x3 < 24 ∧ 0 ≤ x4 ∧ x4 ≤ 999)) ∧ curOk b j:=by
 obtain ⟨a,j,g,e,ha,hj⟩:=l1Below_ex b i h 4 hc tb
 obtain ⟨c,j2,g2,e2,hc2,hj2⟩:=l1Below_ex b j g 5 hj tb
 obtain ⟨d,j3,g3,e3,hd,hj3⟩:=l1Int_ex b j2 g2 [0,1,1,1,2] hj2 tb tb
 have ha1:=ha.2.1 tb
 have hc3:=hc2.2.1 tb
 unfold spec_l3Draw.f
 simp only [e,e2,e3,Option.bind_some,w64 (x:=1 + c) tB tB]
 simp only [List.mem_cons,List.not_mem_nil,or_false] at hd
 by_cases q:d = 1
 ·obtain ⟨x,j4,g4,e4,hx,hj4⟩:=l1Below_ex b j3 g3 24 hj3 tb
  obtain ⟨y,j5,g5,e5,hy,hj5⟩:=l1Int_ex b j4 g4 [0,1,256,999] hj4 tb tb
  have hx1:=hx.2.1 tb
  simp only [List.mem_cons,List.not_mem_nil,or_false] at hy
  rw [if_pos q]
  simp only [e4,e5,Option.bind_some]
  exact ⟨_,_,_,_,_,_,_,rfl,wY,hj5⟩
 ·rw [if_neg q]
  exact ⟨_,_,_,_,_,_,_,rfl,wY,hj3⟩
theorem at_ex (l:List Int) (a:Int) (hb:bytesIn l) (hl:l.length ≤ 1048576) (h0:0 ≤ a) (h1:a ≤ 1000):∃ x,laws_at.f l a = some x ∧ 0 ≤ x ∧ x ≤ 255:=by
 unfold laws_at.f
 by_cases c:a < (l.length:Int)
 ·rw [if_pos c,if_pos h0]
  have h:=bytesIn_at hb a.toNat
  have e:rd l a = l.getD a.toNat 0:=rfl
  rw [e,w64 tB tB]
  exact ⟨_,rfl,h.1,h.2⟩
 ·rw [if_neg c]
  rw [w64 (x:=a * 31) tB tB,w64 (x:=(l.length:Int) * 7) tB tB,w64 tB tB]
  have h2:=Int.tmod_nonneg (b:=256) (show 0 ≤ a * 31 + (l.length:Int) * 7 by omega)
  have h3:=Int.tmod_lt_of_pos (a * 31 + (l.length:Int) * 7) (show (0:Int) < 256 by decide)
  exact ⟨_,rfl,h2,wY⟩
theorem impl_KeyOk_ev (a b c d e:Int):Ev (fun k=>impl_KeyOk.f k a b c d e) (keyOk5 a b c d e):=by
 refine evSucc ⟨0,1,fun k _=>?_⟩
 simp only [impl_KeyOk.f,impl_within_f,Option.bind_some,impl_KeyOk.j0,keyOk5]
 cases h0:decide (0 ≤ a ∧ a ≤ 15) <;> cases h1:decide (1 ≤ b ∧ b ≤ 60) <;> cases h2:decide (0 ≤ c ∧ c ≤ 2) <;> simp only [Bool.false_and,Bool.true_and,Bool.false_eq_true,if_true,if_false,Bool.not_true,Bool.not_false]
 by_cases h3:c = 1
 ·rw [if_pos h3,if_pos h3]
  cases h4:decide (0 ≤ d ∧ d ≤ 23) <;> simp only [Bool.false_and,Bool.true_and,Bool.false_eq_true,if_true,if_false]
 ·rw [if_neg h3,if_neg h3]
  by_cases h4:d = 0
  ·rw [if_pos h4];simp [h4];rw [Bool.eq_iff_iff];simp
  ·rw [if_neg h4];simp [h4]
theorem impl_SetOk_ev (l:List S38) (h:l.length ≤ 4194304):Ev (fun k=>impl_SetOk.f k l) (setOkB l):=by
 have:=evAll l.length (fun k i=>impl_SetOk.l0 k l l (l.length:Int) i) (fun j=>keyOkB (l.getD j z38) && (j == 0 || risesAt l j)) (decide (l.length ≤ 60))
  (by
   intro i hi
   have hr:rd_T38 l (i:Int) = l.getD i z38:=by simp [rd_T38]
   obtain ⟨K,e⟩:=impl_KeyOk_ev (l.getD i z38).f0 (l.getD i z38).f1 (l.getD i z38).f2 (l.getD i z38).f3 (l.getD i z38).f4
   refine ⟨K,1,fun k hk=>?_⟩
   have e1:impl_KeyOk.f k (l.getD i z38).f0 (l.getD i z38).f1 (l.getD i z38).f2 (l.getD i z38).f3 (l.getD i z38).f4 = some (keyOkB (l.getD i z38)):=e k hk
   have hra:risesAt l i = less (l.getD (i - 1) z38) (l.getD i z38):=rfl
   simp only [impl_SetOk.l0,hr,e1,Option.bind_some]
   rw [if_pos tB,if_pos tB,if_pos tB]
   have hw:=w64s i tB
   generalize l.getD i z38 = y at *
   cases hq:keyOkB y with
   | false=>simp only [Bool.false_and,Bool.false_eq_true,if_false]
   | true =>
    simp only [Bool.true_and,if_true]
    by_cases hz:i = 0
    ·subst hz;rw [if_neg tB,hw];rfl
    ·have hw1:wrap64 ((i:Int) - 1) = ((i - 1:Nat):Int):=by rw [w64 tB tB];omega
     have hr1:rd_T38 l ((i - 1:Nat):Int) = l.getD (i - 1) z38:=by simp [rd_T38]
     rw [if_pos tB,hw1,if_pos tB,if_pos tB,hr1,impl_LessKey_f,hw,hra]
     simp only [Option.bind_some,beq_iff_eq,hz,Bool.false_or,beq_eq_false_iff_ne.mpr hz])
  (by
   refine ⟨0,1,fun k _=>?_⟩
   simp only [impl_SetOk.l0]
   rw [if_neg tB]
   congr 1;rw [Bool.eq_iff_iff];simp;omega) 0 (Nat.zero_le _)
 obtain ⟨K,hk⟩:=this
 exact vX
theorem impl_NodeOk_ev (ls:List (List S38)) (ho:okKeySS ls):Ev (fun k=>impl_NodeOk.f k ls) (nodeOkB ls):=by
 have h:=okKeySS_len ho
 have hb:=countK_bulk ls
 have hbb:bulkKeySS ls ≤ 4194304:=ho
 obtain ⟨K,hk⟩:=evRange0 (σ:=Int) ls.length (fun k s i=>impl_NodeOk.l0 k s ls (ls.length:Int) i ls) (fun i s=>s + (countK (ls.drop i):Nat) = (countK ls:Nat) ∧ 0 ≤ s)
  (fun i _=>allFrom (fun i=>setOkB (ls.getD i []) && !decide ((ls.getD i []).length = 0)) ls.length i && (decide (ls.length ≤ 3) && decide (countK ls ≤ 8))) 0 te
  (by
   rintro i s hi ⟨hs,h0⟩
   have hr:rd_L2 ls (i:Int) = ls.getD i []:=by simp [rd_L2]
   obtain ⟨K,e⟩:=impl_SetOk_ev (ls.getD i []) (okKeySS_at ho i hi)
   rw [countK_drop ls i hi] at hs
   cases hq:setOkB (ls.getD i []) && !decide ((ls.getD i []).length = 0) with
   | false =>
    refine .inr ⟨K,1,fun k hk=>?_⟩
    have e1:=e k hk
    simp only at e1
    simp only [impl_NodeOk.l0,hr,e1,Option.bind_some]
    rw [if_pos tB,if_pos tB,if_pos tB,allFrom_lt hi,hq,Bool.false_and,Bool.false_and]
    generalize ls.getD i [] = y at *
    cases hq2:setOkB y with
    | false=>simp only [Bool.false_eq_true,if_false]
    | true =>
     rw [hq2] at hq
     simp only [Bool.true_and,Bool.not_eq_false',decide_eq_true_eq] at hq
     simp only [if_true]
     rw [if_pos tB]
   | true =>
    refine .inl ⟨s + ((ls.getD i []).length:Int),⟨wY,wY⟩,by rw [allFrom_lt hi,hq,Bool.true_and],K,1,fun k hk=>?_⟩
    have e1:=e k hk
    simp only at e1
    simp only [impl_NodeOk.l0,hr,e1,Option.bind_some]
    rw [if_pos tB,if_pos tB,if_pos tB,w64s i tB]
    generalize ls.getD i [] = y at *
    simp only [Bool.and_eq_true,Bool.not_eq_true',decide_eq_false_iff_not] at hq
    rw [if_pos hq.1,if_neg tB,w64 tB tB])
  (by
   rintro s ⟨hs,h0⟩
   refine ⟨0,1,fun k _=>?_⟩
   simp only [List.drop_length,countK] at hs
   simp only [impl_NodeOk.l0,allFrom_end,Bool.true_and]
   rw [if_neg tB]
   by_cases c:ls.length ≤ 3
   ·rw [if_pos tB]
    congr 1
    rw [Bool.eq_iff_iff];simp [c];omega
   ·rw [if_neg tB];simp [c])
 exact vX
theorem impl_inBounds_l1 (lows:List Int) (n:List S59) (ls:List (List S38)) (hls:ls.length ≤ 4194304) (hlo:lows.length ≤ 4194304) (p:Nat) (hp:p < lows.length) (q:Nat) (hq:q < ls.length) (l:List S38) (hl:l.length ≤ 4194304) (b:Bool)
  (hnext:Ev (fun k=>impl_inBounds.l0 k (p:Int) ls (ls.length:Int) ((q + 1:Nat):Int) lows n) b) :
  Ev (fun k=>impl_inBounds.l1 k (p:Int) ls (ls.length:Int) (q:Int) l (l.length:Int) 0 lows n) ((l.all fun x=>decide (lows.getD p 0 ≤ spotOf x.f0 x.f1) && !(decide (p + 1 < lows.length) && decide (lows.getD (p + 1) 0 ≤ spotOf x.f0 x.f1))) && b):=by
 obtain ⟨K0,e0⟩:=hnext
 obtain ⟨K,hk⟩:=evRange0 (σ:=Unit) l.length (fun k _ i=>impl_inBounds.l1 k (p:Int) ls (ls.length:Int) (q:Int) l (l.length:Int) i lows n) (fun _ _=>True)
  (fun i _=>((l.drop i).all fun x=>decide (lows.getD p 0 ≤ spotOf x.f0 x.f1) && !(decide (p + 1 < lows.length) && decide (lows.getD (p + 1) 0 ≤ spotOf x.f0 x.f1))) && b) () trivial
  (by
   intro i _ hi _
   have hd:=drop_getD l i z38 hi
   have hr:rd_T38 l (i:Int) = l.getD i z38:=by simp [rd_T38]
   generalize l.getD i z38 = y at *
   have hsp:wrap64 (wrap64 (64 * y.f0) + y.f1) = spotOf y.f0 y.f1:=rfl
   have hp1:=w64s p tB
   by_cases c1:lows.getD p 0 ≤ spotOf y.f0 y.f1
   ·by_cases c2:p + 1 < lows.length ∧ lows.getD (p + 1) 0 ≤ spotOf y.f0 y.f1
    ·refine .inr ⟨0,1,fun k _=>?_⟩
     simp only [impl_inBounds.l1,hr,impl_SpotOf.f,Option.bind_some,hsp,rd_nat,hp1]
     rw [if_pos tB,if_pos tB,if_pos tB,if_pos tB,if_pos tB,if_neg tB,if_pos tB,if_pos tB,if_pos c2.2,hd,List.all_cons,decide_eq_true c2.1,decide_eq_true c2.2,Bool.and_true,Bool.not_true,Bool.and_false,Bool.false_and,Bool.false_and]
    ·refine .inl ⟨(),trivial,?_,0,1,fun k _=>?_⟩
     ·rw [hd,List.all_cons]
      have e:(decide (p + 1 < lows.length) && decide (lows.getD (p + 1) 0 ≤ spotOf y.f0 y.f1)) = false:=by rw [← Bool.decide_and];simpa using c2
      rw [e,decide_eq_true c1];rfl
     ·simp only [impl_inBounds.l1,hr,impl_SpotOf.f,Option.bind_some,hsp,rd_nat,hp1]
      rw [if_pos tB,if_pos tB,if_pos tB,if_pos tB,if_pos tB,if_neg tB,w64s i tB]
      by_cases c3:p + 1 < lows.length
      ·rw [if_pos tB,if_pos tB,if_neg (fun h=>c2 ⟨c3,h⟩)]
      ·rw [if_neg tB]
   ·refine .inr ⟨0,1,fun k _=>?_⟩
    simp only [impl_inBounds.l1,hr,impl_SpotOf.f,Option.bind_some,hsp,rd_nat,hp1]
    rw [if_pos tB,if_pos tB,if_pos tB,if_pos tB,if_pos tB,if_pos tB,hd,List.all_cons,decide_eq_false c1]
    rfl)
  (by
   intro _ _
   refine ⟨K0,1,fun k hk=>?_⟩
   have e1:=e0 k hk
   simp only at e1
   simp only [impl_inBounds.l1]
   rw [if_neg tB,w64s q tB,e1]
   simp)
 exact vX
theorem impl_inBounds_l0 (lows:List Int) (n:List S59) (ls:List (List S38)) (ho:okKeySS ls) (hlo:lows.length ≤ 4194304) (p:Nat) (hp:p < lows.length) :
  ∀ (d q:Nat),ls.length - q = d → q ≤ ls.length → Ev (fun k=>impl_inBounds.l0 k (p:Int) ls (ls.length:Int) (q:Int) lows n) (inBoundsB lows p (ls.drop q)):=by
 have hls:=okKeySS_len ho
 intro d
 induction d with
 | zero =>
  intro q hd hq
  obtain rfl:q = ls.length:=by omega
  refine evSucc ⟨0,1,fun k _=>?_⟩
  simp only [impl_inBounds.l0]
  rw [if_neg tB]
  simp [inBoundsB]
 | succ d ih =>
  intro q hd hq
  have hlt:q < ls.length:=by omega
  have hr:rd_L2 ls (q:Int) = ls.getD q []:=by simp [rd_L2]
  have ho1:(ls.getD q []).length ≤ 4194304:=okKeySS_at ho q hlt
  obtain ⟨K,e⟩:=impl_inBounds_l1 lows n ls hls hlo p hp q hlt (ls.getD q []) ho1 _ (ih (q + 1) tB tB)
  refine evSucc ⟨K,1,fun k hk=>?_⟩
  have e1:=e k hk
  simp only at e1
  simp only [impl_inBounds.l0,hr]
  rw [if_pos tB,if_pos tB,if_pos tB,e1,drop_getD ls q [] hlt]
  rfl
theorem impl_inBounds_ev (lows:List Int) (n:List S59) (p:Nat) (hp:p < n.length) (hl:lows.length = n.length) (ho:okNodeS n):Ev (fun k=>impl_inBounds.f k lows n (p:Int)) (inBoundsB lows p (n.getD p z59).f0):=by
 have hn:=okNodeS_len ho
 have hr:rd_T59 n (p:Int) = n.getD p z59:=by simp [rd_T59]
 obtain ⟨K,e⟩:=impl_inBounds_l0 lows n (n.getD p z59).f0 (okNodeS_at ho p hp) tB p tB _ 0 rfl (Nat.zero_le _)
 refine ⟨K,fun k hk=>?_⟩
 have e1:=e k hk
 simp only [impl_inBounds.f,hr]
 rw [if_pos tB,if_pos tB]
 exact e1
theorem impl_TreeOk_ev (lows:List Int) (n:List S59) (h1:okIntS lows) (ho:okNodeS n):Ev (fun k=>impl_TreeOk.f k lows n) (treeOkB lows n):=by
 have hn:=okNodeS_len ho
 have hl:lows.length ≤ 4194304:=h1
 have hb:=sumKeysN_bulk n
 have hbb:bulkNodeS n ≤ 4194304:=ho
 unfold treeOkB
 by_cases c1:1 ≤ (n.length:Int) ∧ (n.length:Int) ≤ 20
 ·by_cases c2:lows.length = n.length
  ·by_cases c3:lows.getD 0 0 = 0
   ·rw [if_pos c1,if_pos c2,if_pos c3]
    obtain ⟨K,hk⟩:=evRange0 (σ:=Int) n.length (fun k s i=>impl_TreeOk.l0 k s n (n.length:Int) i lows n) (fun i s=>s + (sumKeysN (n.drop i):Nat) = (sumKeysN n:Nat) ∧ 0 ≤ s)
     (fun i _=>allFrom (fun i=>(i == 0 || decide (lows.getD (i - 1) 0 < lows.getD i 0)) && nodeFits lows i (n.getD i z59)) n.length i && decide (sumKeysN n ≤ 60)) 0 te
     (by
      rintro i s hi ⟨hs,h0⟩
      have hr:rd_T59 n (i:Int) = n.getD i z59:=by simp [rd_T59]
      rw [sumKeysN_drop n i hi] at hs
      have ho1:=okNodeS_at ho i hi
      obtain ⟨K,e⟩:=impl_inBounds_ev lows n i hi c2 ho
      obtain ⟨y,hgen⟩:∃ y,n.getD i z59 = y:=⟨_,rfl⟩
      rw [hgen] at hs hr ho1 e
      obtain ⟨K2,e2⟩:=impl_NodeOk_ev y.f0 ho1
      obtain ⟨K3,e3⟩:=impl_NodeKeys_ev y.f0 ho1
      have hw1:¬ i = 0 → wrap64 ((i:Int) - 1) = ((i - 1:Nat):Int):=fun _=>by rw [w64 tB tB];omega
      have key:∀ k,K + K2 + K3 ≤ k → impl_TreeOk.l0 (k + 2) s n (n.length:Int) (i:Int) lows n = if (i == 0 || decide (lows.getD (i - 1) 0 < lows.getD i 0)) && nodeFits lows i y then impl_TreeOk.l0 k (s + ((nodeKeys y.f0).length:Int)) n (n.length:Int) ((i + 1:Nat):Int) lows n else some false:=by
       intro k hk
       have a1:=e (k + 1) tB
       have a2:=e2 (k + 1) tB
       have a3:=e3 k tB
       simp only at a1 a2 a3
       simp only [impl_TreeOk.l0,hr,a1,a2,Option.bind_some,impl_TreeOk.j2,a3,w64s i tB,rd_nat]
       rw [if_pos tB,if_pos tB,if_pos tB]
       unfold nodeFits
       by_cases hz:i = 0
       ·subst hz
        have hng:¬ (((0:Nat):Int) > 0):=by omega
        simp only [hng,if_false,beq_self_eq_true,Bool.true_or,Bool.true_and]
        rw [w64 (x:=s + ((nodeKeys y.f0).length:Int)) tB tB]
        cases nodeOkB y.f0 <;> cases inBoundsB lows 0 y.f0 <;> simp only [if_true,if_false,Bool.false_eq_true,Bool.not_true,Bool.not_false,Bool.false_and,Bool.true_and]
       ·rw [if_pos tB,hw1 hz,if_pos tB,if_pos tB,if_pos tB,rd_nat,beq_eq_false_iff_ne.mpr hz,Bool.false_or,Bool.false_or,w64 (x:=s + ((nodeKeys y.f0).length:Int)) tB tB]
        by_cases c:lows.getD (i - 1) 0 < lows.getD i 0
        ·rw [if_neg tB,decide_eq_true c,Bool.true_and]
         have hip:(i:Int) > 0:=by omega
         by_cases c4:(nodeKeys y.f0).length = 0
         ·have c5:((nodeKeys y.f0).length:Int) = 0:=by omega
          have c6:=decide_eq_true c4
          cases nodeOkB y.f0 <;> cases inBoundsB lows i y.f0 <;> simp only [hip,if_pos c5,c6,if_true,if_false,Bool.false_eq_true,Bool.not_true,Bool.not_false,Bool.false_and,Bool.true_and]
         ·have c5:¬ ((nodeKeys y.f0).length:Int) = 0:=by omega
          have c6:=decide_eq_false c4
          cases nodeOkB y.f0 <;> cases inBoundsB lows i y.f0 <;> simp only [hip,if_neg c5,c6,if_true,if_false,Bool.false_eq_true,Bool.not_true,Bool.not_false,Bool.false_and,Bool.true_and]
        ·rw [if_pos tB,decide_eq_false c,Bool.false_and]
         simp only [if_true,Bool.false_eq_true,if_false]
      cases hq:(i == 0 || decide (lows.getD (i - 1) 0 < lows.getD i 0)) && nodeFits lows i y with
      | true =>
       refine .inl ⟨s + ((nodeKeys y.f0).length:Int),⟨wY,wY⟩,?_,K + K2 + K3,2,fun k hk=>?_⟩
       ·rw [allFrom_lt hi]
        simp only [hgen,hq,Bool.true_and]
       ·rw [key k hk,hq];rfl
      | false =>
       refine .inr ⟨K + K2 + K3,2,fun k hk=>?_⟩
       rw [key k hk,hq,allFrom_lt hi]
       simp only [hgen,hq,Bool.false_and]
       rfl)
     (by
      rintro s ⟨hs,h0⟩
      simp only [List.drop_length,sumKeysN] at hs
      refine ⟨0,1,fun k hk=>?_⟩
      simp only [impl_TreeOk.l0,allFrom_end,Bool.true_and]
      rw [if_neg tB]
      congr 1;rw [Bool.eq_iff_iff];simp;omega)
    refine evSucc ⟨K,1,fun k hk'=>?_⟩
    have e:=hk k hk'
    have hz:rd lows 0 = lows.getD 0 0:=rfl
    simp only [impl_TreeOk.f,impl_within_f,Option.bind_some,hz,c3,bne_self_eq_false,impl_TreeOk.j0,Bool.false_eq_true,if_false]
    rw [if_pos (by simpa using c1),if_pos tB,if_pos tB]
    exact e
   ·rw [if_pos c1,if_pos c2,if_neg c3]
    refine evSucc ⟨0,1,fun k hk'=>?_⟩
    have hz:rd lows 0 = lows.getD 0 0:=rfl
    have hb:(lows.getD 0 0 != 0) = true:=by simpa using c3
    simp only [impl_TreeOk.f,impl_within_f,Option.bind_some,hz,hb,impl_TreeOk.j0,if_true]
    rw [if_pos (by simpa using c1),if_pos tB,if_pos tB]
  ·rw [if_pos c1,if_neg c2]
   refine evSucc ⟨0,1,fun k hk'=>?_⟩
   simp only [impl_TreeOk.f,impl_within_f,Option.bind_some,impl_TreeOk.j0,if_true]
   rw [if_pos (by simpa using c1),if_neg tB]
 ·rw [if_neg c1]
  refine evSucc ⟨0,1,fun k hk'=>?_⟩
  simp only [impl_TreeOk.f,impl_within_f,Option.bind_some,impl_TreeOk.j0,if_true]
  rw [if_neg (by simpa using c1)]
theorem sameKeys_ev (l:List S38) (h:l.length ≤ 4194304):Ev (fun k=>laws_sameKeys.f k l l) true:=by
 obtain ⟨K,hk⟩:=evRange0 (σ:=Unit) l.length (fun k _ i=>laws_sameKeys.l0 k l l i) (fun _ _=>True) (fun _ _=>true) () trivial
  (by
   intro i _ hi _
   refine .inl ⟨(),trivial,rfl,0,1,fun k _=>?_⟩
   simp only [laws_sameKeys.l0]
   rw [if_pos tB,if_pos tB,if_pos tB,if_neg te,w64s i tB])
  (by
   intro _ _
   refine ⟨0,1,fun k _=>?_⟩
   simp only [laws_sameKeys.l0]
   rw [if_neg tB])
 refine ⟨K,fun k hk'=>?_⟩
 simp only [laws_sameKeys.f,if_true]
 exact hk k hk'
theorem impl_TreeKeys_ev (l:List Int) (n:List S59) (ho:okNodeS n):Ev (fun k=>impl_TreeKeys.f k l n) (treeKeys n):=by
 have h:=okNodeS_len ho
 have hb:=sumKeysN_bulk n
 have hbb:bulkNodeS n ≤ 4194304:=ho
 obtain ⟨K,hk⟩:=evRange0 (σ:=List S38) n.length (fun k s i=>impl_TreeKeys.l0 k s n (n.length:Int) i) (fun i s=>s.length + sumKeysN (n.drop i) ≤ sumKeysN n) (fun i s=>s ++ treeKeys (n.drop i)) [] te
  (by
   intro i s hi hs
   have hr:rd_T59 n (i:Int) = n.getD i z59:=by simp [rd_T59]
   rw [sumKeysN_drop n i hi] at hs
   obtain ⟨K,e⟩:=impl_NodeKeys_ev (n.getD i z59).f0 (okNodeS_at ho i hi)
   refine .inl ⟨s ++ nodeKeys (n.getD i z59).f0,by simp only [List.length_append];omega,by rw [treeKeys_drop n i hi,List.append_assoc],K,1,fun k hk=>?_⟩
   have e1:=e k hk
   simp only at e1
   simp only [impl_TreeKeys.l0,hr,e1,Option.bind_some]
   rw [if_pos tB,if_pos tB,if_pos tB,if_pos tB,w64s i tB])
  (by
   intro s hs
   refine ⟨0,1,fun k _=>?_⟩
   simp only [impl_TreeKeys.l0]
   rw [if_neg tB]
   simp [treeKeys])
 exact vX
theorem sameInts_ev (l:List Int) (h:l.length ≤ 4194304):Ev (fun k=>laws_sameInts.f k l l) true:=by
 obtain ⟨K,hk⟩:=evRange0 (σ:=Unit) l.length (fun k _ i=>laws_sameInts.l0 k l l i) (fun _ _=>True) (fun _ _=>true) () trivial
  (by
   intro i _ hi _
   refine .inl ⟨(),trivial,rfl,0,1,fun k _=>?_⟩
   simp only [laws_sameInts.l0]
   rw [if_pos tB,if_pos tB,if_pos tB,if_pos trivial,w64s i tB])
  (by
   intro _ _
   refine ⟨0,1,fun k _=>?_⟩
   simp only [laws_sameInts.l0]
   rw [if_neg tB])
 refine ⟨K,fun k hk'=>?_⟩
 simp only [laws_sameInts.f,if_true]
 exact hk k hk'
def putW (l:List Int) (n:Int):List Int:=l ++ [n / 256 % 256,n % 256]
def putKey (l:List Int) (a b c d e:Int):List Int:=if keyOk5 a b c d e = true then putW (l ++ [a % 256,b % 256,c % 256,d % 256]) e else l
theorem l6Key_ex (b:List Int) (i h:Int) (hc:curOk b i):∃ x0 x1 x2 x3 x4 j g,spec_l6Key.f b i h = some (x0,x1,x2,x3,x4,j,g) ∧ curOk b j:=by
 obtain ⟨x0,x1,x2,x3,x4,j,g,e,-,hj⟩:=l3Draw_ex b i h hc
 obtain ⟨y,j2,g2,e2,-,hj2⟩:=l1Below_ex b j g 12 hj tb
 refine ⟨y,x1,x2,x3,x4,j2,g2,?_,hj2⟩
 simp only [spec_l6Key.f,e,e2,Option.bind_some]
theorem treeOk_oks {s:List Int} {l:List S59} (h:treeOkB s l = true):okIntS s ∧ okNodeS l:=by
 have h1:=treeOk_facts h
 have h2:=treeOk_bulk h
 unfold okIntS okNodeS
 omega
theorem l6Draw_go (b:List Int):∀ (n:Nat) (s:List Int) (l:List S59) (i h:Int),n ≤ 1000 → treeOkB s l = true → curOk b i → ∃ s' l' j g,treeOkB s' l' = true ∧ curOk b j ∧ Ev (fun k=>spec_l6Draw.l0 k (n:Int) b i h s l) (s',l',j,g)
 | 0,s,l,i,h,hn,ht,hc=>⟨s,l,i,h,ht,hc,evSucc ⟨0,1,fun k _=>by simp only [spec_l6Draw.l0];rw [if_neg tB]⟩⟩
 | n + 1,s,l,i,h,hn,ht,hc=>by
  obtain ⟨x0,x1,x2,x3,x4,j,g,e,hj⟩:=l6Key_ex b i h hc
  obtain ⟨K,e1⟩:=spec_TreePut_ev s l ⟨x0,x1,x2,x3,x4⟩ (treeOk_oks ht).1 (treeOk_oks ht).2
  obtain ⟨s',l',j',g',ht',hc',K2,e2⟩:=l6Draw_go b n (treePut s l ⟨x0,x1,x2,x3,x4⟩).1 (treePut s l ⟨x0,x1,x2,x3,x4⟩).2.1 j g tB (treePut_ok _ ht) hj
  refine ⟨s',l',j',g',ht',hc',evSucc ⟨K + K2,1,fun k hk=>?_⟩⟩
  have a1:=e1 k tB
  have a2:=e2 k tB
  simp only at a1 a2
  simp only [spec_l6Draw.l0]
  rw [if_pos tB,e]
  simp only [Option.bind_some,a1,w64 (x:=((n + 1:Nat):Int) - 1) tB tB]
  rw [show ((n + 1:Nat):Int) - 1 = (n:Int) by omega]
  exact a2
theorem treeNew_ok:treeOkB [0] [(⟨([]:List (List S38))⟩:S59)] = true:=by rfl
theorem DrawTree_ex (b:List Int) (hb:bytesIn b) (hl:b.length ≤ 1048576):∃ s l x0 x1 x2 x3 x4,treeOkB s l = true ∧ Ev (fun k=>spec_DrawTree.f k b) (s,l,x0,x1,x2,x3,x4):=by
 obtain ⟨h,K,e⟩:=l1New_ex b hb hl
 obtain ⟨m,em,hm⟩:∃ m:Int,spec_l1Size.f b 50 = some m ∧ 0 ≤ m ∧ m ≤ 50:=by
  unfold spec_l1Size.f
  rw [w64 (x:=(b.length:Int) / 12) tB tB,w64 (x:=3 + (b.length:Int) / 12) tB tB]
  split
  ·exact ⟨50,rfl,wY,wY⟩
  ·exact ⟨_,rfl,wY,wY⟩
 obtain ⟨n,j,g,e2,hn,hj⟩:=l1Below_ex b 0 h (m + 11) ⟨hb,hl,Int.le_refl _,wY⟩ tB
 have hn2:=hn.2.1 tB
 obtain ⟨n',rfl⟩:=Int.eq_ofNat_of_zero_le hn.1
 obtain ⟨s,l,j2,g2,ht,hj2,K2,e3⟩:=l6Draw_go b n' [0] [(⟨([]:List (List S38))⟩:S59)] j g tB treeNew_ok hj
 obtain ⟨x0,x1,x2,x3,x4,j3,g3,e4,hj3⟩:=l6Key_ex b j2 g2 hj2
 refine ⟨s,l,x0,x1,x2,x3,x4,ht,K + K2,fun k hk=>?_⟩
 have a1:=e k tB
 have a3:=e3 k tB
 simp only at a1 a3
 simp only [spec_DrawTree.f,a1,em,Option.bind_some,spec_l6Draw.f,spec_TreeNew.f,w64 (x:=10 + m) tB tB]
 rw [w64 (x:=10 + m + 1) tB tB,show 10 + m + 1 = m + 11 by omega]
 simp only [e2,Option.bind_some,a3,e4]
theorem setPut_end (x:S38):∀ a:List S38,(∀ y ∈ a,less y x = true) → setPut a x = a ++ [x]
 | [],_=>rfl
 | y :: a,h=>by
  have h1:=h y te
  have h2:same y x = false:=by
   cases h3:same y x with
   | false=>rfl
   | true=>rw [less_iff] at h1;rw [same_iff] at h3;omega
  have ih:=setPut_end x a (fun z hz=>h z (by simp [hz]))
  unfold setPut at ih ⊢
  simp only [putGo,h1,h2,Bool.or_true,if_true,List.nil_append,Bool.false_eq_true,if_false,Bool.not_true,Bool.or_false,ih,List.cons_append]
theorem merge_rise:∀ (b a:List S38),Rise (a ++ b) → mergeSets a b = a ++ b
 | [],a,_=>by simp [mergeSets]
 | x :: b,a,h=>by
  have h1:setPut a x = a ++ [x]:=setPut_end x a (fun y hy=>(List.pairwise_append.1 h).2.2 y hy x te)
  have ih:=merge_rise b (a ++ [x]) (by simpa using h)
  simp only [mergeSets,List.foldl_cons,h1] at ih ⊢
  rw [ih]
  simp
theorem nodeKeys_new {ls:List (List S38)}:nodeKeys (nodeNew (nodeKeys ls)) = nodeKeys ls:=by
 have hr:=rise_nodeKeys ls
 have hd:dropNone (nodeKeys ls) = nodeKeys ls:=by unfold nodeKeys dropNone;rw [List.filter_filter];simp
 generalize nodeKeys ls = ks at *
 unfold nodeNew
 split
 ·rename_i h
  obtain rfl:=List.eq_nil_of_length_eq_zero h
  rfl
 ·show dropNone (mergeSets [] ks) = ks
  rw [merge_rise ks [] (by simpa using hr),List.nil_append,hd]
theorem fits_new {s:List Int} {i:Nat} {x:S59} (h:nodeFits s i x = true):nodeFits s i (⟨nodeNew (nodeKeys x.f0)⟩:S59) = true:=by
 obtain ⟨h1,h2,h3⟩:=fits_parts h
 have hk:∀ y ∈ nodeKeys x.f0,keyOkB y = true:=fun y hy=>by
  obtain ⟨a,ha,hy⟩:=mem_nodeKeys hy
  exact nodeOk_keys h1 ha hy
 have hl:=nodeKeys_length x.f0
 have hc:=(nodeOk_bulk h1).2
 unfold nodeFits
 simp only [nodeKeys_new,nodeOk_new (rise_nodeKeys x.f0) hk tB,Bool.true_and,Bool.and_eq_true,Bool.or_eq_true,beq_iff_eq,Bool.not_eq_true',decide_eq_false_iff_not]
 refine ⟨h2,?_⟩
 unfold inBoundsB at h3 ⊢
 simp only [List.all_eq_true] at h3 ⊢
 intro a ha y hy
 unfold nodeNew at ha
 split at ha
 ·cases ha
 ·rw [List.mem_singleton] at ha
  subst ha
  obtain ⟨b,hb,hy⟩:=mem_nodeKeys hy
  exact h3 b hb y hy
theorem getD_set (l:List S59) (i j:Nat) (x:S59) (hi:i < l.length):(l.set i x).getD j z59 = if j = i then x else l.getD j z59:=by
 rw [List.getD_eq_getElem?_getD,List.getD_eq_getElem?_getD,List.getElem?_set]
 by_cases h:i = j
 ·subst h;simp [hi]
 ·rw [if_neg h,if_neg (fun e=>h e.symm)]
theorem treeKeys_set:∀ (l:List S59) (i:Nat) (x:S59),nodeKeys x.f0 = nodeKeys (l.getD i z59).f0 → treeKeys (l.set i x) = treeKeys l
 | [],_,_,_=>by simp
 | y :: l,0,x,h=>by simp only [lB,treeKeys];rw [h];rfl
 | y :: l,i + 1,x,h=>by simp only [lC,treeKeys];rw [treeKeys_set l i x (by simpa using h)]
theorem sumKeys_of (l m:List S59) (h:treeKeys l = treeKeys m):sumKeysN l = sumKeysN m:=by rw [← treeKeys_length,← treeKeys_length,h]
theorem treePack_right {s:List Int} {l:List S59} (h:treeOkB s l = true) (i:Nat) (hi:i < l.length):treeOkB s (l.set i ⟨nodeNew (nodeKeys (l.getD i z59).f0)⟩) = true ∧ treeKeys (l.set i ⟨nodeNew (nodeKeys (l.getD i z59).f0)⟩) = treeKeys l:=by
 obtain ⟨h1,h2,h3,h4,h5⟩:=treeOk_facts h
 have hk:=treeKeys_set l i (⟨nodeNew (nodeKeys (l.getD i z59).f0)⟩:S59) nodeKeys_new
 refine ⟨?_,hk⟩
 unfold treeOkB
 rw [List.length_set,if_pos tB,if_pos h2,if_pos h3,Bool.and_eq_true,decide_eq_true_eq,sumKeys_of _ _ hk]
 refine ⟨allFrom_iff.2 fun j _ hj=>?_,h5⟩
 have h6:=h4 j hj
 rw [Bool.and_eq_true,Bool.or_eq_true,beq_iff_eq,decide_eq_true_eq]
 refine ⟨h6.1,?_⟩
 rw [getD_set l i j _ hi]
 by_cases e:j = i
 ·subst e
  rw [if_pos rfl]
  exact fits_new h6.2
 ·rw [if_neg e]
  exact h6.2
theorem FnPacked (l0:List Int) (h0:l0.length ≤ 9223372036854775807 ∧ ∀ x ∈ l0,(Lit.int .u8 x).wf = true):∃ k,laws_FnPacked.f k l0 = some true:=by
 have hb:bytesIn l0:=fun x hx=>wf_u8 (h0.2 x hx)
 by_cases c:(l0.length:Int) > 1048576
 ·exact ⟨0,by simp only [laws_FnPacked.f,laws_big.f,Option.bind_some,decide_eq_true c,if_true]⟩
 have hlen:l0.length ≤ 1048576:=by omega
 obtain ⟨s,l,x0,x1,x2,x3,x4,ht,K1,e1⟩:=DrawTree_ex l0 hb hlen
 obtain ⟨a,ea,ha0,ha1⟩:=at_ex l0 2 hb hlen tb tb
 obtain ⟨f1,f2,f3,f4,f5⟩:=treeOk_facts ht
 have hok:=treeOk_oks ht
 have m0:=Int.tmod_nonneg (b:=(l.length:Int)) ha0
 have m1:=Int.tmod_lt_of_pos a (show (0:Int) < l.length by omega)
 obtain ⟨i,hi⟩:=Int.eq_ofNat_of_zero_le m0
 rw [hi] at m0 m1
 obtain ⟨K2,e2⟩:=impl_TreePack_ev s l (i:Int) hok.1 hok.2
 have hp:treePack s l (i:Int) = (s,l.set i ⟨nodeNew (nodeKeys (l.getD i z59).f0)⟩):=by unfold treePack;rw [if_pos tB];rfl
 rw [hp] at e2
 obtain ⟨p1,p2⟩:=treePack_right ht i tB
 have hok2:=treeOk_oks p1
 have hkl:(treeKeys l).length ≤ 60:=by rw [treeKeys_length];exact f5
 obtain ⟨K3,e3⟩:=impl_TreeOk_ev s _ hok2.1 hok2.2
 obtain ⟨K4,e4⟩:=impl_TreeKeys_ev s _ hok2.2
 obtain ⟨K5,e5⟩:=impl_TreeKeys_ev s l hok.2
 obtain ⟨K6,e6⟩:=sameKeys_ev (treeKeys l) tB
 obtain ⟨K7,e7⟩:=sameInts_ev s hok.1
 obtain ⟨K8,e8⟩:=impl_TreeOk_ev [0] [(⟨([]:List (List S38))⟩:S59)] (treeOk_oks treeNew_ok).1 (treeOk_oks treeNew_ok).2
 obtain ⟨K9,e9⟩:=impl_TreeKeys_ev [0] [(⟨([]:List (List S38))⟩:S59)] (treeOk_oks treeNew_ok).2
 rw [p1] at e3
 rw [p2] at e4
 rw [treeNew_ok] at e8
 generalize hk:K1 + K2 + K3 + K4 + K5 + K6 + K7 + K8 + K9 = k
 refine ⟨k,?_⟩
 have a1:=e1 k tB
 have a2:=e2 k tB
 have a3:=e3 k tB
 have a4:=e4 k tB
 have a5:=e5 k tB
 have a6:=e6 k tB
 have a7:=e7 k tB
 have a8:=e8 k tB
 have a9:=e9 k tB
 simp only at a1 a2 a3 a4 a5 a6 a7 a8 a9
 simp only [laws_FnPacked.f,laws_big.f,Option.bind_some,decide_eq_false c,Bool.false_eq_true,if_false,a1,ea]
 rw [if_neg tB,hi]
 simp only [Option.bind_some,a2,impl_TreeNew.f,a3,if_true,a4,a5,a6,a7,a8,a9]
 rfl
end Go.Proofs.Ytamjbjkbineafaa.Pure

namespace Go.Proofs.Ytamjbjkbineafaa.Op
open Go.RowKit Go.ChangeShapes Go.WideShapes Go.Proofs.YtamjbjkbineafaaW.PrintWords
def Opens {α:Type} (P:Program) (t:TypeId) (d:Kd α) (g:α → Prop):Prop :=
 ∀ {H:Type} {enc:TypeId × Value → H} {w:World} {base:Nat} {spare:Nat → Bool} {held:Bool} {fuel:Nat} {cs:List Value} {x:DataW H × List MemPlace},
  DataW.trod enc P w base spare held fuel t cs = some x → ∃ a,d.K w a cs ∧ g a
theorem opens_int {P:Program} {t:TypeId} {k:IntKind} (ht:P.underlying t = some (.int k)):Opens P t (Kd.int k) (fun n=>(Lit.int k n).wf = true):=by
 intro H enc w base spare held fuel cs x h
 obtain ⟨n,rfl,_,hw⟩:=DataW.trod_int ht h
 exact ⟨n,rfl,hw⟩
theorem opens_slice {α:Type} {P:Program} {t e:TypeId} {d:Kd α} {g:α → Prop} (q:Nat) (ht:P.underlying t = some (.slice e)) (hd:Opens P e d g) (hc:P.cellsOf e = d.sz) :
  Opens P t (Kd.slice q d) (fun xs=>xs.length ≤ 9223372036854775807 ∧ ∀ x ∈ xs,g x):=by
 intro H enc w base spare held fuel cs x h
 rcases DataW.trod_slice ht h with ⟨rfl,_⟩|⟨a,len,cap,elems,rest,n,_,rfl,_,_,hl,hm,hlen,hel,_,_⟩
 ·exact ⟨[],⟨none,0,rfl,Nat.le_refl _,rfl,Nat.zero_le _,fun h=>by cases h⟩,by simp,by simp⟩
 ·have each:∀ i:Fin len,∃ y:α,g y ∧ ∃ c:List Value,c.length = d.sz ∧ d.K w y c ∧ ∀ j u,c[j]? = some u → w.cell? (a.add (i.val * d.sz + j)) = some u:=by
   intro i
   have h1:=hel i.val i.isLt
   rw [List.getElem?_eq_getElem tB,Option.bind_eq_some_iff] at h1
   obtain ⟨c,hcs,hy⟩:=h1
   obtain ⟨_,hcl,hcell⟩:=World.cells?_some hcs
   obtain ⟨y,hK,hg⟩:=hd hy
   refine ⟨y,hg,c,by rw [hcl,hc],hK,fun j u hu=>?_⟩
   have hj:j < c.length:=(List.getElem?_eq_some_iff.1 hu).1
   have h2:=hcell j tB
   rw [hu] at h2
   rw [← h2,hc]
   congr 1
   exact (Addr.add_add a _ _).symm
  obtain ⟨f,hf⟩:=Classical.axiomOfChoice each
  refine ⟨List.ofFn f,⟨some a,cap,by rw [List.length_ofFn],by rw [List.length_ofFn];exact hl,by rw [List.length_ofFn],by rw [List.length_ofFn];unfold maxLen at hm;omega,fun _=>⟨a,rfl,fun j p hp=>?_⟩⟩,by rw [List.length_ofFn];unfold maxLen at hm;omega,fun x hx=>?_⟩
  ·rw [List.getElem?_ofFn] at hp
   split at hp
   ·rename_i hj
    obtain rfl:=Option.some.inj hp
    obtain ⟨_,c,h1,h2,h3⟩:=hf ⟨j,hj⟩
    exact ⟨c,h1,h2,h3⟩
   ·cases hp
  ·obtain ⟨i,rfl⟩:=List.mem_ofFn.1 hx
   exact (hf i).1
/-- The fields from one offset on. -/
def OpensL {α:Type} (P:Program) (fs:List Field) (off:Nat) (d:Kd α) (g:α → Prop):Prop :=
 ∀ {H:Type} {enc:TypeId × Value → H} {w:World} {base:Nat} {spare:Nat → Bool} {held:Bool} {fuel:Nat} {cs:List Value},
  (∀ f ∈ fs,∃ x,DataW.trod enc P w base spare held fuel f.type ((cs.drop f.offset).take (P.cellsOf f.type)) = some x) → ∃ a,d.K w a ((cs.drop off).take d.sz) ∧ g a
end Go.Proofs.Ytamjbjkbineafaa.Op

namespace Go.Proofs.Ytamjbjkbineafaa.rowFnPacked
open Go.ChangeShapes Go.WideShapes Go.ChangeAt Go.RowKit
open Go.ChangeMaps (open_string shut_string)
open Go.Proofs.YtamjbjkbineafaaW.PrintWords Go.Proofs.Ytamjbjkbineafaa.Op Go.Proofs.Ytamjbjkbineafaa.PFnPacked
set_option linter.unusedVariables false
set_option linter.unusedSimpArgs false
theorem own:ownKnob Try.prog.godebug = none:=by kernel_rfl
theorem laidOut:laidOutB Try.prog = true:=by kernel_rfl
set_option maxRecDepth 100000 in
theorem lifted (os:Os) (started:os.Started) (H:Type) (enc:TypeId × Value → H) :
  ReturnsInHanded {} Try.checked os 4 .any (Rows.fnPackedSpec.pre6 enc Try.prog Try.f4 Rows.fnPackedRow.domain false) (Rows.fnPackedSpec.post enc Try.prog Try.f4 false true false false):=by
 refine returnsInHanded_of_change_sized (C:=Try.checked) own started tH Try.func4
  (ChangeSpec.witness6 (enc:=enc) (C:=Try.checked) false ⟨#[],#[.slice none 0 0],[]⟩ 8 tH tH tH tH) ?_
 intro W base args ds gs before hval0 hW hcnd hsz0 _
 have hval:∀ (j:Nat) t v,Try.f4.params[j]? = some t → args[j]? = some v → Value.okWide Try.prog W .any base t v:=hval0
 have hW':=hW
 obtain ⟨p,q,hA0,hV,rfl,hfz,hnd⟩:=hW
 have hA:DataW.TrodAll enc Try.prog W 0 (fun _=>true) true Try.f4.params.toList args.toList ds p:=hA0
 rw [Try.params4] at hA hval
 obtain ⟨v0,vs0,d0,ds0,p0,q0,hargs,rfl,rfl,h0,r0⟩:=trodAll_cons hA
 obtain ⟨rfl,rfl,rfl⟩:=trodAll_nil r0
 obtain rfl:args = #[v0]:=by cases args;simp_all
 obtain ⟨rfl,rfl⟩:=trodVars_none hV
 have k0:=h0
 have lt0:∀ x ∈ p0,x.block < W.heap.size:=by obtain ⟨m,hm⟩:=k0;exact DataW.trod_lt m _ _ _ hm
 obtain ⟨fuel0,hf0⟩:=h0
 obtain ⟨b0,len0,cap0,rfl⟩:=okWide_slice Try.underlying35 (hval 0 35 v0 rfl rfl)
 obtain ⟨l0,⟨A0,c0,e0,hc0,hC0⟩,g0⟩:=(opens_slice 5 Try.underlying35 (opens_int Try.underlying5) tH) hf0
 simp only [Value.cells,List.cons.injEq,Value.slice.injEq,and_true] at e0
 obtain ⟨rfl,rfl,rfl⟩:=e0
 clear hA0 hval0 hsz0
 obtain ⟨k,hk⟩:=Pure.FnPacked l0 g0
 refine (laws_FnPacked.calls k _ _ _ true W hC0 hc0 hk).mono fun e W' ⟨he,bel0⟩=>?_
 have bel:Below W.heap.size W W':=by first|exact bel0|exact bel0.below
 subst he
 exact ⟨_,rfl,_,_,_,[],_,[],hW',trodAll_mk1 (shut_bool Try.underlying4 _),(trodAll_cons_mk (Below.trod laidOut tH (lE tH) k0 bel lt0) trodAll_mk0),rfl,bel.frame _,fun h=>by cases h⟩
theorem over:Rows.fnPackedRow.holds Try.pinned (OpenSpec.ofChange Rows.fnPackedSpec) :=
 OpenClaim.holds_of_wide 4 Try.f4 rfl rfl rfl rfl rfl rfl rfl ⟨rfl,rfl,rfl,rfl,rfl⟩ rfl rfl rfl rfl rfl tH Try.func4 tH
  (lE tH) (by unfold Func.isWrapper;first|(rw [if_pos (by decide +kernel)];kernel_rfl)|(rw [if_neg (by decide +kernel)];exact ⟨rfl,rfl⟩))
  (fun os started H enc _=>lifted os started H enc)
theorem proved:Rows.FnPackedSaid:=over
#print axioms proved
end Go.Proofs.Ytamjbjkbineafaa.rowFnPacked
namespace Go.Proofs.Ytamjbjkbineafaa
theorem fnPacked_holds:Rows.FnPackedSaid:=rowFnPacked.proved
end Go.Proofs.Ytamjbjkbineafaa
