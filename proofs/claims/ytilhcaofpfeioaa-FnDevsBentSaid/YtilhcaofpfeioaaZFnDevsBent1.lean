/- The law: the functions that it reaches, each with the proof that the machine's call comes to its answer, what they answer, and the law's row; each theorem says its conditions itself. -/
import Derived.Test.YtilhcaofpfeioaaZFnDevsBent0
namespace Go.Proofs.Ytilhcaofpfeioaa.Pure
open Go.RowKit Go.Proofs.Ytilhcaofpfeioaa.PFnDevsBent Go.Proofs.Ytilhcaofpfeioaa.Core Go.Proofs.YtilhcaofpfeioaaW.PrintWords Go.Proofs.YtilhcaofpfeioaaW.PrintLast Go.Proofs.YtilhcaofpfeioaaW.PrintMore
set_option linter.unusedSimpArgs false
set_option linter.unusedVariables false
theorem spec_l1In_f (a b c:Int):spec_l1In.f a b c = some (decide (b ≤ a ∧ a ≤ c)):=by
 unfold spec_l1In.f
 by_cases h:a ≥ b
 ·rw [if_pos h];congr 1;rw [Bool.eq_iff_iff];simp;omega
 ·rw [if_neg h];congr 1;rw [Bool.eq_iff_iff];simp;omega
def okByteS (l:List Int):Prop:=l.length ≤ 4194304
def cntByteS (l:List Int):Int:=l.length
def inByteS (l:List Int):Prop:=l.length ≤ 1048576
def sumByteS (l:List Int):Int:=l.length
def convByteSS (l:List (List Int)):List (List Int):=l.map fun x=>x
def sumByteSS:List (List Int) → Int
 | []=>0
 | x :: xs=>1 + sumByteS x + sumByteSS xs
def inByteSS (l:List (List Int)):Prop:=sumByteSS l ≤ 1048576
/-- What the impl's side holds, all in all. -/
def bulkByteSS:List (List Int) → Nat
 | []=>0
 | x :: xs=>1 + x.length + bulkByteSS xs
def okByteSS (l:List (List Int)):Prop:=bulkByteSS l ≤ 4194304
theorem bulkByteSS_len:∀ l:List (List Int),l.length ≤ bulkByteSS l
 | []=>by simp [bulkByteSS]
 | x :: xs=>by have:=bulkByteSS_len xs;simp only [bulkByteSS,List.length_cons];omega
theorem bulkByteSS_at:∀ (l:List (List Int)) (i:Nat),i < l.length → (l.getD i []).length ≤ bulkByteSS l
 | x :: xs,0,_=>by simp only [bulkByteSS,List.getD_cons_zero];omega
 | x :: xs,i + 1,h=>by
  have:=bulkByteSS_at xs i (by simpa using h)
  simp only [bulkByteSS,List.getD_cons_succ];omega
theorem okByteSS_at {l:List (List Int)} (h:okByteSS l) (i:Nat) (hi:i < l.length):okByteS (l.getD i []):=by
 have h1:=bulkByteSS_at l i hi
 unfold okByteSS at h
 show (l.getD i []).length ≤ 4194304
 omega
theorem okByteSS_len {l:List (List Int)} (h:okByteSS l):l.length ≤ 4194304:=by have:=bulkByteSS_len l;unfold okByteSS at h;omega
/-- What the impl's side holds, all in all. -/
def bulkWrS:List (S50) → Nat
 | []=>0
 | x :: xs=>1 + x.f1.length + bulkWrS xs
def okWrS (l:List (S50)):Prop:=bulkWrS l ≤ 4194304
theorem bulkWrS_len:∀ l:List (S50),l.length ≤ bulkWrS l
 | []=>by simp [bulkWrS]
 | x :: xs=>by have:=bulkWrS_len xs;simp only [bulkWrS,List.length_cons];omega
theorem bulkWrS_at:∀ (l:List (S50)) (i:Nat),i < l.length → (l.getD i z50).f1.length ≤ bulkWrS l
 | x :: xs,0,_=>by simp only [bulkWrS,List.getD_cons_zero];omega
 | x :: xs,i + 1,h=>by
  have:=bulkWrS_at xs i (by simpa using h)
  simp only [bulkWrS,List.getD_cons_succ];omega
theorem okWrS_at {l:List (S50)} (h:okWrS l) (i:Nat) (hi:i < l.length):okByteS (l.getD i z50).f1:=by
 have h1:=bulkWrS_at l i hi
 unfold okWrS at h
 show (l.getD i z50).f1.length ≤ 4194304
 omega
theorem okWrS_len {l:List (S50)} (h:okWrS l):l.length ≤ 4194304:=by have:=bulkWrS_len l;unfold okWrS at h;omega
def wrOkB (n:Nat) (x:S50):Bool:=decide (0 ≤ x.f0 ∧ x.f0 ≤ (n:Int) - 1) && decide ((x.f1.length:Int) ≤ 80)
def devOkB (s:List (List Int)) (c:List S50) (f:Int):Bool :=
 allFrom (fun i=>decide (((s.getD i []).length:Int) ≤ 80)) s.length 0 && (allFrom (fun i=>wrOkB s.length (c.getD i z50)) c.length 0 && (decide (1 ≤ (s.length:Int) ∧ (s.length:Int) ≤ 60) && (decide ((c.length:Int) ≤ 60) && decide (-1 ≤ f ∧ f ≤ 1000))))
theorem spec_l2Copy_ev (s:List (List Int)) (c:List S50) (f:Int) (d:Bool) (h1:okByteSS s) (h2:okWrS c):Ev (fun k=>spec_l2Copy.f k s c f d) (s,c,f,d):=by
 have hs:=okByteSS_len h1
 have hc:=okWrS_len h2
 obtain ⟨K1,e1⟩:=evRange0 (σ:=List S50) c.length (fun k x i=>spec_l2Copy.l1 k i s c f d s x f d) (fun i x=>x = c.take i) (fun _ _=>(s,c,f,d)) [] rfl
  (by
   intro i x hi hx
   subst hx
   have hr:rd_T50 c (i:Int) = c.getD i z50:=by simp [rd_T50]
   have hl:=okWrS_at h2 i hi
   unfold okByteS at hl
   refine .inl ⟨_,rfl,rfl,0,1,fun k _=>?_⟩
   simp only [spec_l2Copy.l1,hr,Option.bind_some]
   rw [take_getD c i z50 hi]
   generalize c.getD i z50 = y at *
   rw [if_pos tZ,if_pos tZ,if_pos (by simp only [List.length_nil];omega),if_pos (by rw [List.length_take];omega),w64s i tZ,List.nil_append])
  (by
   intro x hx
   subst hx
   refine ⟨0,1,fun k _=>?_⟩
   simp only [spec_l2Copy.l1]
   rw [if_neg tZ,List.take_length])
 obtain ⟨K0,e0⟩:=evRange0 (σ:=List (List Int)) s.length (fun k x i=>spec_l2Copy.l0 k i s c f d x f d) (fun i x=>x = s.take i) (fun _ _=>(s,c,f,d)) [] rfl
  (by
   intro i x hi hx
   subst hx
   have hr:rd_L1 s (i:Int) = s.getD i []:=by simp [rd_L1]
   have hl:=okByteSS_at h1 i hi
   unfold okByteS at hl
   refine .inl ⟨_,rfl,rfl,0,1,fun k _=>?_⟩
   simp only [spec_l2Copy.l0,hr,Option.bind_some]
   rw [take_getD s i [] hi]
   generalize s.getD i [] = y at *
   rw [if_pos tZ,if_pos tZ,if_pos (by simp only [List.length_nil];omega),if_pos (by rw [List.length_take];omega),w64s i tZ,List.nil_append])
  (by
   intro x hx
   subst hx
   refine ⟨K1,1,fun k hk=>?_⟩
   simp only [spec_l2Copy.l0]
   rw [if_neg tZ,List.take_length]
   exact e1 k hk)
 exact ⟨K0,fun k hk=>e0 k hk⟩
theorem spec_DevOk_ev (s:List (List Int)) (c:List S50) (f:Int) (d:Bool) (h1:okByteSS s) (h2:okWrS c):Ev (fun k=>spec_DevOk.f k s c f d) (devOkB s c f):=by
 have hs:=okByteSS_len h1
 have hc:=okWrS_len h2
 obtain ⟨K0,e0⟩:=evAll c.length (fun k i=>spec_DevOk.l1 k i s c f d) (fun i=>wrOkB s.length (c.getD i z50)) (decide (1 ≤ (s.length:Int) ∧ (s.length:Int) ≤ 60) && (decide ((c.length:Int) ≤ 60) && decide (-1 ≤ f ∧ f ≤ 1000)))
  (by
   intro i hi
   have hr:rd_T50 c (i:Int) = c.getD i z50:=by simp [rd_T50]
   refine ⟨0,1,fun k _=>?_⟩
   simp only [spec_DevOk.l1,hr,spec_l1In_f,Option.bind_some,wrOkB]
   rw [if_pos tZ,if_pos tZ,w64 (x:=(s.length:Int) - 1) tZ tZ,w64s i tZ]
   generalize c.getD i z50 = y at *
   by_cases q0:0 ≤ y.f0 ∧ y.f0 ≤ (s.length:Int) - 1
   ·simp only [decide_eq_true q0,Bool.true_and,if_true,decide_eq_true_eq]
    by_cases q:(y.f1.length:Int) > 80
    ·rw [if_pos q,if_neg tZ]
    ·rw [if_neg q,if_pos tZ]
   ·simp only [decide_eq_false q0,Bool.false_and,Bool.false_eq_true,if_false])
  (by
   refine ⟨0,1,fun k _=>?_⟩
   simp only [spec_DevOk.l1,spec_l1In_f,Option.bind_some]
   rw [if_neg tZ]
   cases decide (1 ≤ (s.length:Int) ∧ (s.length:Int) ≤ 60) with
   | false=>simp only [Bool.false_and,Bool.false_eq_true,if_false]
   | true =>
    simp only [Bool.true_and,if_true]
    by_cases q:(c.length:Int) ≤ 60
    ·rw [if_pos q,decide_eq_true q,Bool.true_and]
    ·rw [if_neg q,decide_eq_false q,Bool.false_and]) 0 (Nat.zero_le _)
 have:=evAll s.length (fun k i=>spec_DevOk.l0 k i s c f d) (fun i=>decide (((s.getD i []).length:Int) ≤ 80)) (allFrom (fun i=>wrOkB s.length (c.getD i z50)) c.length 0 && (decide (1 ≤ (s.length:Int) ∧ (s.length:Int) ≤ 60) && (decide ((c.length:Int) ≤ 60) && decide (-1 ≤ f ∧ f ≤ 1000))))
  (by
   intro i hi
   have hr:rd_L1 s (i:Int) = s.getD i []:=by simp [rd_L1]
   refine ⟨0,1,fun k _=>?_⟩
   simp only [spec_DevOk.l0,hr,decide_eq_true_eq]
   rw [if_pos tZ,if_pos tZ,w64s i tZ]
   generalize s.getD i [] = y at *
   by_cases q:(y.length:Int) > 80
   ·rw [if_pos q,if_neg tZ]
   ·rw [if_neg q,if_pos tZ])
  (by
   refine ⟨K0,1,fun k hk=>?_⟩
   have e1:=e0 k hk
   simp only [spec_DevOk.l0]
   rw [if_neg tZ]
   exact e1) 0 (Nat.zero_le _)
 obtain ⟨K,hk⟩:=this
 exact ⟨K,fun k hk'=>hk k hk'⟩
def burnF (a:Int) (d:Bool):Int × Bool × Bool:=if a = 0 then (-1,true,false) else if 0 < a then (wrap64 (a - 1),d,true) else (a,d,true)
def putsB (s:List (List Int)) (c:List S50) (d:Bool) (n:Int) (b:List Int):Bool:=!d && (decide (0 ≤ n ∧ n ≤ wrap64 ((s.length:Int) - 1)) && (!decide (80 < (b.length:Int)) && !decide (60 ≤ (c.length:Int))))
def wrote (s:List (List Int)) (c:List S50) (f:Int) (d:Bool) (n:Int) (b:List Int):List S50 × Int × Bool :=
 if putsB s c d n b = true then (if (burnF f false).2.2 = true then c ++ [⟨n,b⟩] else c,(burnF f false).1,(burnF f false).2.1) else (c,f,d)
def writeSec (s:List (List Int)) (c:List S50) (f:Int) (d:Bool) (n:Int) (b:List Int):List (List Int) × List S50 × Int × Bool:=if devOkB s c f = true then (s,wrote s c f d n b) else (s,c,f,d)
theorem bulkWrS_append (c:List S50) (x:S50):bulkWrS (c ++ [x]) = bulkWrS c + 1 + x.f1.length:=by
 induction c with
 | nil=>simp [bulkWrS]
 | cons y ys ih=>simp only [List.cons_append,bulkWrS,ih];omega
theorem writeSec_ok1 {s:List (List Int)} {c:List S50} (f:Int) (d:Bool) (n:Int) (b:List Int) (h:okByteSS s):okByteSS (writeSec s c f d n b).1:=by
 unfold writeSec
 split <;> exact h
theorem writeSec_ok2 {s:List (List Int)} {c:List S50} (f:Int) (d:Bool) (n:Int) (b:List Int) (h:bulkWrS c ≤ 4194000):okWrS (writeSec s c f d n b).2.1:=by
 unfold writeSec okWrS
 split
 ·unfold wrote
  split
  ·rename_i hp
   split
   ·show bulkWrS (c ++ [(⟨n,b⟩:S50)]) ≤ 4194304
    rw [bulkWrS_append]
    unfold putsB at hp
    simp only [Bool.and_eq_true,Bool.not_eq_true',decide_eq_false_iff_not] at hp
    have:=hp.2.2.1
    show bulkWrS c + 1 + b.length ≤ 4194304
    omega
   ·show bulkWrS c ≤ 4194304
    omega
  ·show bulkWrS c ≤ 4194304
   omega
 ·show bulkWrS c ≤ 4194304
  omega
theorem devOk_cache {s:List (List Int)} {c:List S50} {f:Int} (h:devOkB s c f = true):(c.length:Int) ≤ 60:=by
 unfold devOkB at h
 simp only [Bool.and_eq_true,decide_eq_true_eq] at h
 exact h.2.2.2.1
def bitB (k:Int) (i:Nat):Bool:=decide (i < 30) && decide (Go.bits .and .i64 (shr .i64 k (i:Int)) 1 = 1)
def fallSecs (s:List (List Int)) (c:List S50) (k:Int):Nat → List (List Int)
 | 0=>s
 | i + 1=>if bitB k i = true then (fallSecs s c k i).set (c.getD i z50).f0.toNat (c.getD i z50).f1 else fallSecs s c k i
theorem fallSecs_length (s:List (List Int)) (c:List S50) (k:Int):∀ i,(fallSecs s c k i).length = s.length
 | 0=>rfl
 | i + 1=>by
  unfold fallSecs
  split
  ·rw [List.length_set,fallSecs_length s c k i]
  ·exact fallSecs_length s c k i
theorem fallSecs_far (s:List (List Int)) (c:List S50) (k:Int) (i:Nat) (h:30 ≤ i):∀ n,fallSecs s c k (i + n) = fallSecs s c k i
 | 0=>rfl
 | n + 1=>by
  show (if bitB k (i + n) = true then _ else fallSecs s c k (i + n)) = _
  unfold bitB
  rw [if_neg (by rw [decide_eq_false (show ¬ i + n < 30 by omega),Bool.false_and];decide)]
  exact fallSecs_far s c k i h n
theorem devOk_wr {s:List (List Int)} {c:List S50} {f:Int} {i:Nat} (h:devOkB s c f = true) (hi:i < c.length):0 ≤ (c.getD i z50).f0 ∧ (c.getD i z50).f0 < (s.length:Int):=by
 unfold devOkB at h
 simp only [Bool.and_eq_true] at h
 have h2:=allFrom_iff.1 h.2.1 i (Nat.zero_le i) hi
 unfold wrOkB at h2
 simp only [Bool.and_eq_true,decide_eq_true_eq] at h2
 omega
def keepOf (k:Int):Int:=if 0 ≤ k ∧ k ≤ 1073741823 then k else 0
def fallDev (s:List (List Int)) (c:List S50) (f:Int) (d:Bool) (k:Int):List (List Int) × List S50 × Int × Bool:=if devOkB s c f = true then (fallSecs s c (keepOf k) c.length,[],-1,false) else (s,c,f,d)
theorem bulkByteSS_set:∀ (l:List (List Int)) (i:Nat) (x:List Int),bulkByteSS (l.set i x) ≤ bulkByteSS l + x.length
 | [],i,x=>by simp [bulkByteSS]
 | y :: ys,0,x=>by simp only [lB,bulkByteSS];omega
 | y :: ys,i + 1,x=>by
  have:=bulkByteSS_set ys i x
  simp only [lC,bulkByteSS]
  omega
theorem bulkWrS_take (c:List S50):∀ i,i < c.length → bulkWrS (c.take i) + (c.getD i z50).f1.length + 1 ≤ bulkWrS (c.take (i + 1)):=by
 induction c with
 | nil=>intro i h;simp at h
 | cons y ys ih =>
  intro i h
  cases i with
  | zero=>simp [bulkWrS];omega
  | succ i =>
   have:=ih i (by simpa using h)
   simp only [List.take_succ_cons,bulkWrS,List.getD_cons_succ]
   omega
theorem bulk_fallSecs (s:List (List Int)) (c:List S50) (k:Int):∀ i,i ≤ c.length → bulkByteSS (fallSecs s c k i) ≤ bulkByteSS s + bulkWrS (c.take i)
 | 0,_=>by simp [fallSecs]
 | i + 1,h=>by
  have h1:=bulk_fallSecs s c k i tZ
  have h2:=bulkWrS_take c i tZ
  unfold fallSecs
  split
  ·have:=bulkByteSS_set (fallSecs s c k i) (c.getD i z50).f0.toNat (c.getD i z50).f1
   omega
  ·omega
theorem fallDev_ok1 {s:List (List Int)} {c:List S50} (f:Int) (d:Bool) (k:Int) (h:bulkByteSS s + bulkWrS c ≤ 4194304):okByteSS (fallDev s c f d k).1:=by
 unfold fallDev okByteSS
 split
 ·have:=bulk_fallSecs s c (keepOf k) c.length (Nat.le_refl _)
  rw [List.take_length] at this
  simp only
  omega
 ·simp only
  omega
theorem fallDev_ok2 {s:List (List Int)} {c:List S50} (f:Int) (d:Bool) (k:Int) (h:okWrS c):okWrS (fallDev s c f d k).2.1:=by
 unfold fallDev
 split
 ·simp [okWrS,bulkWrS]
 ·exact h
def flushSecs (s:List (List Int)) (c:List S50):Nat → List (List Int)
 | 0=>s
 | i + 1=>(flushSecs s c i).set (c.getD i z50).f0.toNat (c.getD i z50).f1
theorem flushSecs_length (s:List (List Int)) (c:List S50):∀ i,(flushSecs s c i).length = s.length
 | 0=>rfl
 | i + 1=>by
  unfold flushSecs
  rw [List.length_set,flushSecs_length s c i]
theorem bulk_flushSecs (s:List (List Int)) (c:List S50):∀ i,i ≤ c.length → bulkByteSS (flushSecs s c i) ≤ bulkByteSS s + bulkWrS (c.take i)
 | 0,_=>by simp [flushSecs]
 | i + 1,h=>by
  have h1:=bulk_flushSecs s c i tZ
  have h2:=bulkWrS_take c i tZ
  have:=bulkByteSS_set (flushSecs s c i) (c.getD i z50).f0.toNat (c.getD i z50).f1
  unfold flushSecs
  omega
def flushed (s:List (List Int)) (c:List S50) (f:Int) (d:Bool):List (List Int) × List S50 × Int × Bool :=
 if d = true then (s,c,f,d) else if (burnF f false).2.2 = true then (flushSecs s c c.length,[],(burnF f false).1,(burnF f false).2.1) else (s,c,(burnF f false).1,(burnF f false).2.1)
def flushDev (s:List (List Int)) (c:List S50) (f:Int) (d:Bool):List (List Int) × List S50 × Int × Bool:=if devOkB s c f = true then flushed s c f d else (s,c,f,d)
theorem flushDev_ok1 {s:List (List Int)} {c:List S50} (f:Int) (d:Bool) (h:bulkByteSS s + bulkWrS c ≤ 4194304):okByteSS (flushDev s c f d).1:=by
 have h1:=bulk_flushSecs s c c.length (Nat.le_refl _)
 rw [List.take_length] at h1
 unfold flushDev flushed okByteSS
 split
 ·split
  ·simp only;omega
  ·split
   ·simp only;omega
   ·simp only;omega
 ·simp only;omega
theorem flushDev_ok2 {s:List (List Int)} {c:List S50} (f:Int) (d:Bool) (h:okWrS c):okWrS (flushDev s c f d).2.1:=by
 unfold flushDev flushed
 split
 ·split
  ·exact h
  ·split
   ·simp [okWrS,bulkWrS]
   ·exact h
 ·exact h
theorem impl_joined_ev (ls:List (List Int)) (h:ls.flatten.length ≤ 4194304) (h2:ls.length ≤ 4194304):Ev (fun k=>impl_joined.f k ls) ls.flatten:=by
 obtain ⟨K,hk⟩:=evRange0 (σ:=List Int) ls.length (fun k s i=>impl_joined.l0 k s ls (ls.length:Int) i) (fun i s=>s ++ (ls.drop i).flatten = ls.flatten) (fun _ _=>ls.flatten) [] vN
  (by
   intro i s hi hs
   have hd:=drop_getD ls i [] hi
   have hr:rd_L1 ls (i:Int) = ls.getD i []:=by simp [rd_L1]
   rw [hd,List.flatten_cons] at hs
   generalize ls.getD i [] = y at *
   have hl:s.length + y.length ≤ 4194304:=by
    have:=congrArg List.length hs
    simp only [List.length_append] at this
    omega
   refine .inl ⟨s ++ y,by rw [List.append_assoc];exact hs,rfl,0,1,fun k _=>?_⟩
   simp only [impl_joined.l0,hr]
   rw [if_pos tZ,if_pos tZ,if_pos tZ,if_pos tZ,w64s i tZ])
  (by
   intro s hs
   refine ⟨0,1,fun k _=>?_⟩
   simp only [impl_joined.l0]
   rw [if_neg tZ]
   simpa using hs)
 exact ⟨K,fun k hk'=>hk k hk'⟩
theorem impl_within_f (a b c:Int):impl_within.f a b c = some (decide (b ≤ a ∧ a ≤ c)):=by
 unfold impl_within.f
 by_cases h:a ≥ b
 ·rw [if_pos h];congr 1;rw [Bool.eq_iff_iff];simp;omega
 ·rw [if_neg h];congr 1;rw [Bool.eq_iff_iff];simp;omega
theorem impl_DevOk_ev (s:List (List Int)) (c:List S50) (f:Int) (d:Bool) (h1:okByteSS s) (h2:okWrS c):Ev (fun k=>impl_DevOk.f k s c f d) (devOkB s c f):=by
 have hs:=okByteSS_len h1
 have hc:=okWrS_len h2
 obtain ⟨K0,e0⟩:=evAll c.length (fun k i=>impl_DevOk.l1 k c (c.length:Int) i s c f d) (fun i=>wrOkB s.length (c.getD i z50)) true
  (by
   intro i hi
   have hr:rd_T50 c (i:Int) = c.getD i z50:=by simp [rd_T50]
   refine ⟨0,1,fun k _=>?_⟩
   simp only [impl_DevOk.l1,hr,impl_within_f,Option.bind_some,wrOkB]
   rw [if_pos tZ,if_pos tZ,if_pos tZ,w64 (x:=(s.length:Int) - 1) tZ tZ,w64s i tZ]
   generalize c.getD i z50 = y at *
   by_cases q0:0 ≤ y.f0 ∧ y.f0 ≤ (s.length:Int) - 1
   ·simp only [decide_eq_true q0,Bool.true_and,if_true,decide_eq_true_eq]
    by_cases q:(y.f1.length:Int) > 80
    ·rw [if_pos q,if_neg tZ]
    ·rw [if_neg q,if_pos tZ]
   ·simp only [decide_eq_false q0,Bool.false_and,Bool.false_eq_true,if_false])
  (by
   refine ⟨0,1,fun k _=>?_⟩
   simp only [impl_DevOk.l1]
   rw [if_neg tZ]) 0 (Nat.zero_le _)
 obtain ⟨K,e⟩:=evAll s.length (fun k i=>impl_DevOk.l0 k s (s.length:Int) i s c f d) (fun i=>decide (((s.getD i []).length:Int) ≤ 80)) (allFrom (fun i=>wrOkB s.length (c.getD i z50)) c.length 0)
  (by
   intro i hi
   have hr:rd_L1 s (i:Int) = s.getD i []:=by simp [rd_L1]
   refine ⟨0,1,fun k _=>?_⟩
   simp only [impl_DevOk.l0,hr,decide_eq_true_eq]
   rw [if_pos tZ,if_pos tZ,if_pos tZ,w64s i tZ]
   generalize s.getD i [] = y at *
   by_cases q:(y.length:Int) > 80
   ·rw [if_pos q,if_neg tZ]
   ·rw [if_neg q,if_pos tZ])
  (by
   refine ⟨K0,1,fun k hk=>?_⟩
   have e1:=e0 k hk
   simp only [Bool.and_true] at e1
   simp only [impl_DevOk.l0]
   rw [if_neg tZ]
   exact e1) 0 (Nat.zero_le _)
 refine evSucc ⟨K,1,fun k hk=>?_⟩
 have e1:impl_DevOk.l0 k s (s.length:Int) 0 s c f d = _:=e k hk
 simp only [impl_DevOk.f,impl_within_f,Option.bind_some,impl_DevOk.j0,e1,devOkB]
 cases q1:decide (1 ≤ (s.length:Int) ∧ (s.length:Int) ≤ 60) with
 | false=>simp
 | true =>
  simp only [if_true,Bool.true_and]
  by_cases q2:(c.length:Int) > 60
  ·rw [if_pos q2,decide_eq_false tZ];simp
  ·rw [if_neg q2,decide_eq_true (show (c.length:Int) ≤ 60 by omega)]
   cases decide (-1 ≤ f ∧ f ≤ 1000) <;> simp
end Go.Proofs.Ytilhcaofpfeioaa.Pure

namespace Go.Proofs.Ytilhcaofpfeioaa.Law
open Go.RowKit Go.Proofs.Ytilhcaofpfeioaa.PFnDevsBent Go.Proofs.Ytilhcaofpfeioaa.Core Go.Proofs.YtilhcaofpfeioaaW.PrintWords Go.Proofs.YtilhcaofpfeioaaW.PrintLast Go.Proofs.YtilhcaofpfeioaaW.PrintMore Go.Proofs.Ytilhcaofpfeioaa.Pure
set_option linter.unusedSimpArgs false
set_option linter.unusedVariables false
def Ex (a x y k:Nat):Prop:=a ≤ k ∧ k ≠ x ∧ k ≠ y
def Exb (a x y t k:Nat):Prop:=Ex a x y k ∧ k < t
theorem ex_of {u:Value} {x k:Nat} (h4:u.ownBlock = none → x = 0) (hC:∀ k,u.ownBlock = some k → k = x) (h:some k ≠ u.ownBlock) (hg:0 < k):k ≠ x:=by
 intro e
 subst e
 cases hu:u.ownBlock with
 | none=>have:=h4 hu;omega
 | some b=>exact h (by rw [hu,hC b hu])
theorem own_num (u:Value) (n:Nat) (hn:0 < n) (h:∀ k,u.ownBlock = some k → k < n):∃ x,x < n ∧ (∀ k,u.ownBlock = some k → k = x) ∧ (u.ownBlock = none → x = 0):=by
 cases e:u.ownBlock with
 | none=>exact ⟨0,hn,fun k hk=>(by cases hk),fun _=>rfl⟩
 | some b=>exact ⟨b,h b e,fun k hk=>(by injection hk with hk;exact hk.symm),fun h=>(by cases h)⟩
def In2 (a b c d k:Nat):Prop:=In a b k ∨ In c d k
def Up (a b c k:Nat):Prop:=In a b k ∨ c ≤ k
theorem kept_grown {W w1:World} {row:Option Nat} {S:Nat → Prop} (hg:W.grownBy w1 row) (h:∀ k,row = some k → S k):Kept W w1 S:=⟨hg.size,fun k hlt hn=>hg.block k hlt (fun he=>hn (h k he.symm))⟩
def rdR (xs:List (List Int)) (i:Int):List Int:=xs.getD i.toNat []
def rdW (xs:List (S50)) (i:Int):S50:=xs.getD i.toNat z50
theorem F_row {e n:Nat} {W:World} {ok:Nat → Prop} {A:Option Addr} {xs:List (List Int)} (h:Kd.F (Kd.slice e (Kd.int .u8)) W ok A n xs) (i:Int) (h0:0 ≤ i) (h1:i < n) :
  ∃ ad A' c',A = some ad ∧ W.cell? (ad.add i.toNat) = some (.slice A' (rdR xs i).length c') ∧ (rdR xs i).length ≤ c' ∧ Kd.F (Kd.int .u8) W ok A' (rdR xs i).length (rdR xs i):=by
 obtain ⟨ad,c,e_,_,hK,hcc,_⟩:=Kd.F_get h [] i h0 h1
 obtain ⟨A',c',rfl,hl,hf⟩:=Kd.FK_slice_open hK
 exact ⟨ad,A',c',e_,by have:=hcc 0 _ rfl;rwa [show (Kd.slice e (Kd.int .u8)).sz = 1 from rfl,Nat.mul_one,Nat.add_zero] at this,hl,hf⟩
theorem F_wr {n:Nat} {W:World} {ok:Nat → Prop} {A:Option Addr} {xs:List (S50)} (h:Kd.F k50 W ok A n xs) (i:Int) (h0:0 ≤ i) (h1:i < n) :
  ∃ ad A' c',A = some ad ∧ W.cell? (ad.add (i.toNat * 2)) = some (.int .i64 (rdW xs i).f0) ∧ W.cell? ⟨(ad.add (i.toNat * 2)).block,(ad.add (i.toNat * 2)).off + 1,none⟩ = some (.slice A' (rdW xs i).f1.length c') ∧ (rdW xs i).f1.length ≤ c' ∧ Kd.F (Kd.int .u8) W ok A' (rdW xs i).f1.length (rdW xs i).f1:=by
 obtain ⟨ad,c,e_,_,hK,hcc0,_⟩:=Kd.F_get h z50 i h0 h1
 have hcc:∀ j u,c[j]? = some u → W.cell? (ad.add (i.toNat * 2 + j)) = some u:=hcc0
 obtain ⟨A',c',rfl,hl,hf⟩:=k50_openF hK
 exact ⟨ad,A',c',e_,hcc 0 _ rfl,by rw [← add_field _ _ 1 tZ];exact hcc 1 _ rfl,hl,hf⟩
theorem joined1 (E:List Int) (h:E.length ≤ 4194304):∃ k,impl_joined.f k ([E]:List (List Int)) = some E:=evGet (by have:=impl_joined_ev [E] (by simpa using h) vN;simpa using this)
theorem getS_len {s:List (List Int)} (h:okByteSS s) (i:Nat):(s.getD i []).length ≤ 4194304:=by
 by_cases c:i < s.length
 ·exact okByteSS_at h i c
 ·rw [List.getD_eq_getElem?_getD,List.getElem?_eq_none tZ];simp
theorem getW_len {s:List (S50)} (h:okWrS s) (i:Nat):(s.getD i z50).f1.length ≤ 4194304:=by
 by_cases c:i < s.length
 ·exact okWrS_at h i c
 ·rw [List.getD_eq_getElem?_getD,List.getElem?_eq_none tZ];simp [z50]
def okDevB (l:List (List Int)) (m:List (S50)):Bool:=decide (bulkByteSS l ≤ 4194304) && decide (bulkWrS m ≤ 4194304)
theorem new_SI2 {α:Type} {d:Kd α} {e base lo hi:Nat} {w1:World} {v:Value} {xs:List α} (h:Kd.S d e w1 base (In lo hi) v xs):∃ A c,v = .slice A xs.length c ∧ xs.length ≤ c ∧ Kd.F d w1 (In lo hi) A xs.length xs ∧ Kd.S d e w1 base (In lo hi) (.slice A xs.length c) xs:=by
 obtain ⟨A,c,rfl,hl,_⟩:=Kd.S_reads h
 exact ⟨A,c,rfl,hl,Kd.S_F h,h⟩
theorem devOk_at {s:List (List Int)} {c:List S50} {f x:Int} {i:Nat} (h:devOkB s c f = true) (hx:x = (i:Int)) (hi:i < c.length):0 ≤ (rdW c x).f0 ∧ (rdW c x).f0 < (s.length:Int):=by
 subst hx
 unfold devOkB at h
 simp only [Bool.and_eq_true] at h
 have h2:=allFrom_iff.1 h.2.1 i (Nat.zero_le i) hi
 unfold wrOkB at h2
 simp only [Bool.and_eq_true,decide_eq_true_eq] at h2
 unfold rdW
 rw [Int.toNat_natCast]
 omega
theorem C_F {α:Type} {d:Kd α} (hd:Kd.Heap d) {w:World} {A:Option Addr} {n:Nat} {xs:List α} (h:d.C w A n xs):Kd.F d w (In 0 w.heap.size) A n xs:=fun _ hW=>Kd.Heap.C hd (fun k hk=>hW k ⟨Nat.zero_le k,hk⟩ hk) h
theorem N_raise {α:Type} {d:Kd α} {e base b2:Nat} {w:World} {ok:Nat → Prop} {v:Value} {xs:List α} (h:Kd.N d e w base ok v xs) (hb:∀ k,v.ownBlock = some k → b2 ≤ k):Kd.N d e w b2 ok v xs:=by
 obtain ⟨h0,rows,hl,⟨hr0,inner,⟨h1,h2⟩,hr⟩,hf⟩:=h
 refine ⟨h0,rows,hl,⟨hr0,inner,⟨h1,?_⟩,hr.imp_ (fun _ _ hp=>hp)⟩,hf⟩
 rcases h2 with h2|⟨g,cap,cur,rfl,hg,r⟩
 ·exact .inl h2
 ·exact .inr ⟨g,cap,cur,rfl,hb g (by simp [Value.ownBlock]),r⟩
theorem kept_keep {W w1:World} {g:Nat} (h:KeepBut W w1 g none):Kept W w1 (fun k=>k = g):=⟨h.1,fun i hlt hn=>h.2 i hlt hn vN⟩
theorem keep_kept {W w1:World} {g:Nat} (h:Kept W w1 (fun k=>k = g)):KeepBut W w1 g none:=⟨h.1,fun i hlt hn _=>h.2 i hlt hn⟩
theorem flush_t {s:List (List Int)} {c:List S50} {x:Int} {i:Nat} (hx:x = (i:Int)):flushSecs s c (i + 1) = (flushSecs s c i).set (rdW c x).f0.toNat (rdW c x).f1:=by
 subst hx
 unfold rdW
 rw [Int.toNat_natCast]
 rfl
theorem fall_t {s:List (List Int)} {c:List S50} {k x y j:Int} {i:Nat} (hv:y = k) (hx:x = (i:Int)) (hj:shr .i64 y x = j) (ha:x < 30) (hb:Go.bits .and .i64 j 1 = 1):fallSecs s c k (i + 1) = (fallSecs s c k i).set (rdW c x).f0.toNat (rdW c x).f1:=by
 subst hv
 subst hx
 subst hj
 unfold fallSecs bitB rdW
 rw [if_pos (by rw [decide_eq_true hb,decide_eq_true tZ];rfl),Int.toNat_natCast]
 cases i <;> rfl
theorem fall_f1 {s:List (List Int)} {c:List S50} {k x y j:Int} {i:Nat} (hv:y = k) (hx:x = (i:Int)) (hj:shr .i64 y x = j) (hb:¬ Go.bits .and .i64 j 1 = 1):fallSecs s c k (i + 1) = fallSecs s c k i:=by
 subst hv
 subst hx
 subst hj
 show (if bitB y i = true then _ else _) = _
 unfold bitB
 rw [if_neg (by rw [decide_eq_false hb,Bool.and_false];decide)]
theorem fall_f2 {s:List (List Int)} {c:List S50} {k x:Int} {i:Nat} (hx:x = (i:Int)) (ha:¬ x < 30):fallSecs s c k (i + 1) = fallSecs s c k i:=by
 subst hx
 show (if bitB k i = true then _ else _) = _
 unfold bitB
 rw [if_neg (by rw [decide_eq_false (show ¬ i < 30 by omega),Bool.false_and];decide)]
end Go.Proofs.Ytilhcaofpfeioaa.Law

namespace Go.Proofs.Ytilhcaofpfeioaa.Law
open Go.RowKit Go.Proofs.Ytilhcaofpfeioaa.PFnDevsBent Go.Proofs.Ytilhcaofpfeioaa.Core Go.Proofs.YtilhcaofpfeioaaW.PrintWords Go.Proofs.YtilhcaofpfeioaaW.PrintLast Go.Proofs.YtilhcaofpfeioaaW.PrintMore Go.Proofs.Ytilhcaofpfeioaa.Pure
set_option linter.unusedSimpArgs false
set_option linter.unusedVariables false
set_option maxHeartbeats 8000000 in
set_option maxRecDepth 100000 in
theorem walk_copyDev (A0_0:Option Addr) (c0_0:Nat) (l0_0:List (List (Int))) (A0_1:Option Addr) (c0_1:Nat) (l0_1:List (S50)) (a0_2:Int) (a0_3:Bool) (w:World) (hf0_0:Kd.F (Kd.slice 5 (Kd.int .u8)) w (In 0 w.heap.size) A0_0 l0_0.length l0_0) (hc0_0:l0_0.length ≤ c0_0) (hf0_1:Kd.F k50 w (In 0 w.heap.size) A0_1 l0_1.length l0_1) (hc0_1:l0_1.length ≤ c0_1) (hok0:okByteSS l0_0) (hok1:okWrS l0_1) :
  Calls Try.prog 58 #[.agg #[.slice A0_0 l0_0.length c0_0,.slice A0_1 l0_1.length c0_1,.int .i64 a0_2,.bool a0_3]] w fun e w'=>∃ v0_ v1_:Value,∃ m_:Nat,e = .returned (.agg #[v0_,v1_,.int .i64 a0_2,.bool a0_3]) ∧ w.heap.size ≤ m_ ∧ m_ ≤ w'.heap.size ∧ Kd.S (Kd.slice 5 (Kd.int .u8)) 37 w' w.heap.size (In w.heap.size m_) v0_ l0_0 ∧ Kd.S k50 50 w' w.heap.size (In m_ w'.heap.size) v1_ l0_1 ∧ Below w.heap.size w w':=by
 have hu25:=Try.underlying25
 have hu50:=Try.underlying50
 have HF0_0:=aA.mk hf0_0
 have HC0_0:=aA.mk hc0_0
 clear hf0_0 hc0_0
 have HF0_1:=aA.mk hf0_1
 have HC0_1:=aA.mk hc0_1
 clear hf0_1 hc0_1
 have HB:=aA.mk (Below.refl w.heap.size w)
 have HORD:=aA.mk (Nat.le_refl w.heap.size)
 have HT:=aA.mk (Nat.le_refl w.heap.size)
 go_enter Try.func58,Try.ntmps58
 go_wp2_with (first|((with_reducible refine bC (N:=1) rfl ?_);refine bD ?hg (N:=1) ?hd (cs:=#[.slice A0_0 l0_0.length c0_0,.slice A0_1 l0_1.length c0_1,.int .i64 a0_2,.bool a0_3]) (t:=25) ?hr ?_;(case hd=>rfl);(case hg=>rfl);(case hr=>exact tE);intro gb1 hg_ w1 hbox hb;have hge_:w.heap.size ≤ gb1:=tk;have hlt_:gb1 + 1 ≤ w1.heap.size:=bJ hbox;replace HF0_0:=nF HF0_0;replace HF0_1:=nF HF0_1;replace HB:=aA.mk (aT HB.out hb);replace BK1:=aA.mk (hbox);replace HORD:=aA.mk (And.intro HORD.out (And.intro hge_ (Nat.le_succ gb1)));replace HT:=aA.mk (hlt_);clear hb hbox hg_ hge_ hlt_;have:=bs4 BK1.out)|((with_reducible refine bC (N:=2) rfl ?_);refine bD ?hg (N:=2) ?hd (cs:=#[.slice none 0 0,.slice none 0 0,.int .i64 0,.bool false]) (t:=25) ?hr ?_;(case hd=>rfl);(case hg=>rfl);(case hr=>exact tE);intro gb2 hg_ w2 hbox hb;have hge_:(gb1 + 1) ≤ gb2:=tk;have hlt_:gb2 + 1 ≤ w2.heap.size:=bJ hbox;replace HF0_0:=nF HF0_0;replace HF0_1:=nF HF0_1;replace BK1:=nB BK1;replace HB:=aA.mk (aT HB.out hb);replace BK2:=aA.mk (hbox);replace HORD:=aA.mk (And.intro HORD.out (And.intro hge_ (Nat.le_succ gb2)));replace HT:=aA.mk (hlt_);clear hb hbox hg_ hge_ hlt_;have:=bs4 BK1.out;have:=bs4 BK2.out)|((with_reducible refine bC (N:=3) rfl ?_);refine bD ?hg (N:=3) ?hd (cs:=#[.slice none 0 0,.slice none 0 0,.int .i64 0,.bool false]) (t:=25) ?hr ?_;(case hd=>rfl);(case hg=>rfl);(case hr=>exact tE);intro gb3 hg_ w3 hbox hb;have hge_:(gb2 + 1) ≤ gb3:=tk;have hlt_:gb3 + 1 ≤ w3.heap.size:=bJ hbox;replace HF0_0:=nF HF0_0;replace HF0_1:=nF HF0_1;replace BK1:=nB BK1;replace BK2:=nB BK2;replace HB:=aA.mk (aT HB.out hb);replace BK3:=aA.mk (hbox);replace HORD:=aA.mk (And.intro HORD.out (And.intro hge_ (Nat.le_succ gb3)));replace HT:=aA.mk (hlt_);clear hb hbox hg_ hge_ hlt_;have:=bs4 BK1.out;have:=bs4 BK2.out;have:=bs4 BK3.out)|((with_reducible refine bN (t:=25) (p:=3) rfl ?_);refine bL (t:=25) (p:=3) (v:=?vo_w4) (w1:=((((w3.setCell ⟨gb3,0,none⟩ (.slice none 0 0)).setCell ⟨gb3,1,none⟩ (.slice none 0 0)).setCell ⟨gb3,2,none⟩ (.int .i64 a0_2)).setCell ⟨gb3,3,none⟩ (.bool a0_3))) ?hg ?ho ?hn ?hr ?_;(case ho=>rfl);(case hg=>rfl);(case hn=>rfl);(case hr=>exact tE);intro w4 hw_;have hkp:Kept w3 w4 (fun k_=>k_ = gb3):=(by rw [hw_];exact Kept.setCell (Kept.setCell (Kept.setCell (Kept.setCell (Kept.refl w3 (fun k_=>k_ = gb3)) (.inl rfl) (.slice none 0 0)) (.inl rfl) (.slice none 0 0)) (.inl rfl) (.int .i64 a0_2)) (.inl rfl) (.bool a0_3));have hge_:w.heap.size ≤ gb3:=tL;have hbn_:Below w.heap.size w w4:=tU;have hbk_:w4.heap[gb3]? = some (.cells #[.slice none 0 0,.slice none 0 0,.int .i64 a0_2,.bool a0_3] 25 (0,0)):=(by rw [hw_];exact aQ (cs:=#[.slice none 0 0,.slice none 0 0,.int .i64 a0_2,.bool false]) (cs':=#[.slice none 0 0,.slice none 0 0,.int .i64 a0_2,.bool a0_3]) (aQ (cs:=#[.slice none 0 0,.slice none 0 0,.int .i64 0,.bool false]) (cs':=#[.slice none 0 0,.slice none 0 0,.int .i64 a0_2,.bool false]) (aQ (cs:=#[.slice none 0 0,.slice none 0 0,.int .i64 0,.bool false]) (cs':=#[.slice none 0 0,.slice none 0 0,.int .i64 0,.bool false]) (aQ (cs:=#[.slice none 0 0,.slice none 0 0,.int .i64 0,.bool false]) (cs':=#[.slice none 0 0,.slice none 0 0,.int .i64 0,.bool false]) (BK3.out) 0 _ rfl) 1 _ rfl) 2 _ rfl) 3 _ rfl);have hsz_:(gb3 + 1) ≤ w4.heap.size:=Nat.le_trans HT.out hkp.1;replace HF0_0:=aA.mk (Kd.aU HF0_0.out hkp tA);replace HF0_1:=aA.mk (Kd.aU HF0_1.out hkp tA);replace BK1:=aA.mk (aY BK1.out hkp tB);replace BK2:=aA.mk (aY BK2.out hkp tB);replace HB:=aA.mk (hbn_);replace BK3:=aA.mk (hbk_);replace HT:=aA.mk (hsz_);clear hw_ hkp hge_ hbn_ hbk_ hsz_;have:=bs4 BK1.out;have:=bs4 BK2.out;have:=bs4 BK3.out))
 go_loopg [16] (l0_0.length) (fun kq  v5 w'=>∃ (i5:Nat) (x5:Int) (u5:Value),v5 = .int .i64 x5 ∧ aA (x5 = (i5:Int)) ∧ aA (i5 + kq = l0_0.length) ∧ aA ((gb3 + 1) ≤ w'.heap.size) ∧ aA (Kd.S (Kd.slice 5 (Kd.int .u8)) 37 w' w.heap.size (Up 0 0 (gb3 + 1)) u5 (l0_0.take i5)) ∧ aA (Kd.F (Kd.slice 5 (Kd.int .u8)) w' (In 0 w.heap.size) A0_0 l0_0.length l0_0) ∧ aA (Kd.F k50 w' (In 0 w.heap.size) A0_1 l0_1.length l0_1) ∧ aA (w'.heap[gb1]? = some (.cells #[.slice A0_0 l0_0.length c0_0,.slice A0_1 l0_1.length c0_1,.int .i64 a0_2,.bool a0_3] 25 (0,0))) ∧ aA (w'.heap[gb2]? = some (.cells #[.slice none 0 0,.slice none 0 0,.int .i64 0,.bool false] 25 (0,0))) ∧ aA (w'.heap[gb3]? = some (.cells #[u5,.slice none 0 0,.int .i64 a0_2,.bool a0_3] 25 (0,0))) ∧ aA (Below w.heap.size w w'))
 case atStart=>exact ⟨0,0,_,rfl,⟨rfl⟩,⟨Nat.zero_add _⟩,HT,⟨by rw [show l0_0.take 0 = [] from rfl];exact Kd.S_nil _ _ _ _ _⟩,HF0_0,HF0_1,BK1,BK2,BK3,HB⟩
 clear HF0_0 HF0_1 BK1 BK2 BK3 HB HT
 obtain ⟨i5,x5,u5,rfl,HI5,HK5,HT,HS5,HF0_0,HF0_1,BK1,BK2,BK3,HB⟩:=hrel
 obtain ⟨xs5,ex_⟩:∃ y_,y_ = l0_0.take i5:=⟨_,rfl⟩
 rw [← ex_] at HS5
 have HX5:=aA.mk ex_
 clear ex_
 obtain ⟨A5,c5,ev_⟩:=Kd.S_slice HS5.out
 subst ev_
 obtain ⟨hi5,e2_⟩:∃ n_,n_ = wr.heap.size:=⟨_,rfl⟩
 have ol_:(gb3 + 1) ≤ hi5:=(by rw [e2_];exact HT.out)
 have hs_:=Kd.bU (ok':=In2 0 0 (gb3 + 1) hi5) (Kd.S_bound HS5.out) vA
 have n0_:=aA.mk (And.intro HORD.out ol_)
 have n1_:=aA.mk (Nat.le_of_eq e2_)
 clear HS5 HORD HT
 have HORD:=n0_
 have HT:=n1_
 have HS5:=aA.mk hs_
 have HF5:=aA.mk (Kd.S_F hs_)
 have HC5:=aA.mk (Kd.S_reads' hs_).2.1
 clear n0_ n1_ hs_ ol_ e2_
 rcases gk with _|k1
 rotate_left
 ·have hp_:0 ≤ x5:=(by have:=HI5.out;omega)
  have hq_:x5 < (l0_0.length:Int):=(by have:=HI5.out;have:=HK5.out;omega)
  have hd_:decide (x5 < (l0_0.length:Int)) = true:=decide_eq_true hq_
  have:=bs4 BK1.out
  have:=bs4 BK2.out
  have:=bs4 BK3.out
  obtain ⟨ad6,Ae6,ce6,ee6,hx6_0,hl6,hf6⟩:=F_row HF0_0.out x5 hp_ hq_
  cases ee6
  have HF6:=aA.mk hf6
  have HC6:=aA.mk hl6
  clear hf6 hl6
  try go_wp2
  replace HF0_0:=aA.mk (Kd.F_drew HF0_0.out)
  replace HF0_1:=aA.mk (Kd.F_drew HF0_1.out)
  replace HF5:=aA.mk (Kd.F_drew HF5.out)
  replace HS5:=aA.mk (Kd.S_drew HS5.out)
  replace HF6:=aA.mk (Kd.F_drew HF6.out)
  replace BK1:=aA.mk (aN BK1.out)
  replace BK2:=aA.mk (aN BK2.out)
  replace BK3:=aA.mk (aN BK3.out)
  replace HB:=aA.mk (aH HB.out)
  replace HT:=aA.mk (show _ ≤ wr.drew.heap.size from HT.out)
  refine start_ (n:=9) (S:=fun w'=>w'.cell? ⟨gb3,0,none⟩ = some (.slice A5 xs5.length c5) ∧ w'.cell? ⟨gb3,1,none⟩ = some (.slice none 0 0) ∧ w'.cell? ⟨gb3,2,none⟩ = some (.int .i64 a0_2) ∧ w'.cell? ⟨gb3,3,none⟩ = some (.bool a0_3)) (ds:=[8]) #[F0,F0,F0,F0,F0,F0,F0,F0,F0] tG rfl rfl ⟨(aD BK3.out 0).trans rfl,(aD BK3.out 1).trans rfl,(aD BK3.out 2).trans rfl,(aD BK3.out 3).trans rfl⟩ (fun hHeld=>?_)
  generalize wr.drew = w7 at HF0_0 HF0_1 HF5 HS5 HF6 BK1 BK2 BK3 HB HT hHeld ⊢
  refine bT (i:=0) (N:=some 20) (v:=?_) (a':=?_) #[T1,F0,F0,F0,F0,F0,F0,F0,F0] rfl rfl tG (fun _ _ _ h=>h) (Or.inl ⟨vr,?_⟩) ?_ ?_
  rotate_left
  ·intro w'
   go_simp
   with_reducible rfl
  rotate_left
  ·simp only [Act.put,lA,lB,lC,bE,bG]
   rfl
  refine take_ (i:=1) (N:=some 21) (v:=?_) (a':=?_) #[T1,T1,F0,F0,F0,F0,F0,F0,F0] rfl rfl tG (fun _ _ _ h=>h) (Or.inl ⟨vr,?_⟩) hHeld ?_ ?_
  rotate_left
  ·rintro w' ⟨s0,s1,s2,s3⟩
   go_simp
   with_reducible rfl
  rotate_left
  ·simp only [Act.put,lA,lB,lC,bE,bG]
   rfl
  refine bT (i:=2) (N:=some 22) (v:=?_) (a':=?_) #[T1,T1,T1,F0,F0,F0,F0,F0,F0] rfl rfl tG (fun _ _ _ h=>h) (Or.inl ⟨vr,?_⟩) ?_ ?_
  rotate_left
  ·intro w'
   go_simp
   with_reducible rfl
  rotate_left
  ·simp only [Act.put,lA,lB,lC,bE,bG]
   rfl
  refine one_ (i:=3) (N:=some 23) #[T1,T1,T1,T1,F0,F0,F0,F0,F0] rfl rfl tG tf (fun K hK=>?_)
  refine Kd.N_lit_step (Kd.slice 5 (Kd.int .u8)) _ 37 ?hg (N':=23) ?hd (xs:=([(rdR l0_0 x5)]:List (List (Int)))) (inner:=[.slice Ae6 ((rdR l0_0 x5)).length ce6]) (ok:=(fun k_=>(In 0 w.heap.size) k_ ∨ hi5 ≤ k_)) (okp:=(In 0 w.heap.size)) ?hr ?hp (fun _ hk=>.inl hk) (.inr HT.out) (Below.refl _ _) (Nat.le_refl _) vN ?_
  (case hd=>rfl)
  (case hg=>rfl)
  (case hr=>exact tE)
  (case hp=>exact (Reps.one (Kd.FK_slice_mk HC6.out HF6.out) (Reps.none _ _)))
  intro vl8 w8 ho_ hb hg_ hat_
  obtain ⟨A8,c8,ev_⟩:=Kd.cB ho_
  subst ev_
  replace HF0_0:=nF HF0_0
  replace HF0_1:=nF HF0_1
  replace HF5:=nF HF5
  replace HS5:=nS HS5
  replace HF6:=nF HF6
  replace BK1:=nB BK1
  replace BK2:=nB BK2
  replace BK3:=nB BK3
  replace HB:=aA.mk (aT HB.out hb)
  replace HT:=aA.mk (Nat.le_trans HT.out hb.size)
  replace HF8:=aA.mk (Kd.N_F ho_)
  replace HC8:=aA.mk ((Kd.N_reads' ho_).2.1)
  clear hb ho_ hg_ hat_
  refine hK.out _ _ ⟨(aD BK3.out 0).trans rfl,(aD BK3.out 1).trans rfl,(aD BK3.out 2).trans rfl,(aD BK3.out 3).trans rfl⟩ (fun hHeld=>?_)
  clear hK K
  refine norm_ (a':=?_) ?_ ?_
  rotate_left
  ·show Act.put _ (some 23) _ = _
   simp only [Act.put,lA,lB,lC,bE,bG]
   rfl
  refine one_ (i:=4) (N:=some 24) #[T1,T1,T1,T1,T1,F0,F0,F0,F0] rfl rfl tG tf (fun K hK=>?_)
  obtain ⟨kj10,hj_⟩:=joined1 ((rdR l0_0 x5)) (by first|exact getS_len hok0 _|exact getW_len hok1 _)
  have J10:=aA.mk hj_
  clear hj_
  refine goes_ Try.func55 tG rfl #[.slice A8 (([(rdR l0_0 x5)]:List (List (Int)))).length c8] wN rfl rfl tC ?_
  (with_reducible refine (impl_joined.calls kj10 _ _ (([(rdR l0_0 x5)]:List (List (Int)))) ((rdR l0_0 x5)) _ ?s1 ?s2 J10.out).mono ?_)
  (case s1=>exact (Kd.bR HF8.out))
  (case s2=>exact HC8.out)
  rintro e_ w9 ⟨v0_,rfl,ho0,hb⟩
  refine ⟨_,rfl,?_⟩
  obtain ⟨lo9,hi9,el_,eh_,ol_,oh_⟩:=Mem.times HT.out hb
  (try rw [← el_] at ho0)
  obtain ⟨A9_0,c9_0,ev_,hc0_,hf0_,hs0_⟩:=Mem.new_R ho0 eh_
  subst ev_
  replace HF0_0:=nF HF0_0
  replace HF0_1:=nF HF0_1
  replace HF5:=nF HF5
  replace HS5:=nS HS5
  replace HF6:=nF HF6
  replace HF8:=nF HF8
  replace BK1:=nB BK1
  replace BK2:=nB BK2
  replace BK3:=nB BK3
  replace HB:=aA.mk (aT HB.out hb)
  replace HF9_0:=aA.mk (hf0_)
  replace HC9_0:=aA.mk (hc0_)
  replace HS9_0:=aA.mk (hs0_)
  replace HORD:=aA.mk (And.intro HORD.out (And.intro ol_ oh_))
  replace HT:=aA.mk (Nat.le_of_eq eh_)
  clear ol_ oh_ el_ eh_ ho0 hf0_ hc0_ hs0_
  (try clear hb)
  refine hK.out _ _ ⟨(aD BK3.out 0).trans rfl,(aD BK3.out 1).trans rfl,(aD BK3.out 2).trans rfl,(aD BK3.out 3).trans rfl⟩ (fun hHeld=>?_)
  clear hK K
  refine norm_ (a':=?_) ?_ ?_
  rotate_left
  ·show Act.put _ (some 24) _ = _
   simp only [Act.put,lA,lB,lC,bE,bG]
   rfl
  refine one_ (i:=5) (N:=some 25) #[T1,T1,T1,T1,T1,T1,F0,F0,F0] rfl rfl tG tf (fun K hK=>?_)
  refine value_ (w1:=?_) (v:=?_) wN rfl ?_ ?_
  rotate_left 2
  ·go_simp
   constructor
   ·rfl
   ·rfl
  refine hK.out _ _ ⟨(aD (aG BK3.out _) 0).trans rfl,(aD (aG BK3.out _) 1).trans rfl,(aD (aG BK3.out _) 2).trans rfl,(aD (aG BK3.out _) 3).trans rfl⟩ (fun hHeld=>?_)
  clear hK K
  refine norm_ (a':=?_) ?_ ?_
  rotate_left
  ·show Act.put _ (some 25) _ = _
   simp only [Act.put,lA,lB,lC,bE,bG]
   rfl
  refine one_ (i:=6) (N:=some 26) #[T1,T1,T1,T1,T1,T1,T1,F0,F0] rfl rfl tG tf (fun K hK=>?_)
  refine Kd.S_append_step (Kd.slice 5 (Kd.int .u8)) (w0:=w) w.heap.size wN (.tmp 21) (.tmp 25) 22 37 (.slice none 0 0) 24 rfl Try.underlying22 info37 rfl tf tZ (.slice A5 xs5.length c5) xs5 ((rdR l0_0 x5)) [.slice A9_0 ((rdR l0_0 x5)).length c9_0] (Up 0 0 (gb3 + 1)) (In lo9 hi9) rfl rfl ?aP ?aK ?aF ?aO ?aB ?aS ?aL ?_
  (case aB=>exact HB.out)
  (case aS=>exact aX HB.out)
  (case aP=>exact Kd.M_row (Kd.R_lower HS9_0.out Am))
  (case aK=>exact (fun k_ hk_=>⟨vK,(fun he_=>by have hz_:=(Kd.S_R HS5.out).1 k_ he_.symm;have o_:=HORD.out;have t_:=HT.out;(try simp only [In2,Up,In,Ex,Exb] at hk_ hz_);omega)⟩))
  (case aF=>exact tR)
  (case aO=>exact Kd.bU (Kd.bZ HS5.out tq) (fun k_ hk_=>⟨vK,AL⟩))
  (case aL=>(have hl1_:=okByteSS_len hok0;have h3_:=congrArg List.length HX5.out;rw [List.length_take] at h3_;omega))
  intro v11 w11 ho_ hbn_ hg_ hat_
  obtain ⟨ys11,ey_⟩:∃ y_,y_ = xs5 ++ [(rdR l0_0 x5)]:=⟨_,rfl⟩
  rw [← ey_] at ho_
  have HY11:=aA.mk ey_
  clear ey_
  have hkp:=kept_grown (S:=(In2 0 0 (gb3 + 1) hi5)) hg_ (fun k_ he_=>(Kd.S_R HS5.out).1 k_ he_)
  obtain ⟨A11,c11,ev_⟩:=Kd.S_slice ho_
  subst ev_
  obtain ⟨hi11,e2_⟩:∃ n_,n_ = w11.heap.size:=⟨_,rfl⟩
  have ol_:hi9 ≤ hi11:=wT
  have hs_:=Kd.bU (ok':=In2 0 0 (gb3 + 1) hi11) (Kd.S_bound ho_) vA
  replace HF0_0:=aA.mk (Kd.aU HF0_0.out hkp tA)
  replace HF0_1:=aA.mk (Kd.aU HF0_1.out hkp tA)
  replace HF6:=aA.mk (Kd.aU HF6.out hkp tA)
  replace BK1:=aA.mk (aY BK1.out hkp tB)
  replace BK2:=aA.mk (aY BK2.out hkp tB)
  replace BK3:=aA.mk (aY BK3.out hkp tB)
  replace HB:=aA.mk (hbn_)
  replace HORD:=aA.mk (And.intro HORD.out ol_)
  replace HT:=aA.mk (Nat.le_of_eq e2_)
  replace HS11:=aA.mk (hs_)
  replace HF11:=aA.mk (Kd.S_F hs_)
  replace HC11:=aA.mk ((Kd.S_reads' hs_).2.1)
  clear hs_ ho_ hbn_ hg_ hat_ hkp ol_ e2_
  refine hK.out _ _ ⟨(aD BK3.out 0).trans rfl,(aD BK3.out 1).trans rfl,(aD BK3.out 2).trans rfl,(aD BK3.out 3).trans rfl⟩ (fun hHeld=>?_)
  clear hK K
  refine norm_ (a':=?_) ?_ ?_
  rotate_left
  ·show Act.put _ (some 26) _ = _
   simp only [Act.put,lA,lB,lC,bE,bG]
   rfl
  refine bT (i:=7) (N:=some 27) (v:=?_) (a':=?_) #[T1,T1,T1,T1,T1,T1,T1,T1,F0] rfl rfl tG (fun _ _ _ h=>h) (Or.inl ⟨vr,?_⟩) ?_ ?_
  rotate_left
  ·intro w'
   go_simp
   with_reducible rfl
  rotate_left
  ·simp only [Act.put,lA,lB,lC,bE,bG]
   rfl
  refine last_ (i:=8) (N:=none) #[T1,T1,T1,T1,T1,T1,T1,T1,T1] rfl rfl tG tf (fun K hK=>?_)
  have:=bs4 BK1.out
  have:=bs4 BK2.out
  have:=bs4 BK3.out
  have hge_:w.heap.size ≤ gb3:=tq
  refine skip_ (w1:=?_) wN rfl ?_ ?_
  rotate_left
  ·go_simp
   rfl
  refine hK.out _ _ ?_
  clear hK K
  refine done_ tG ?_
  obtain ⟨w12,hw_⟩:∃ z_,z_ = (w11.setCell ⟨gb3,0,none⟩ (.slice A11 ys11.length c11)):=⟨_,rfl⟩
  (try rw [← hw_])
  have hkp:Kept w11 w12 (fun k_=>k_ = gb3):=(by rw [hw_];exact Kept.setCell (Kept.refl w11 (fun k_=>k_ = gb3)) (.inl rfl) (.slice A11 ys11.length c11))
  have hbn_:Below w.heap.size w w12:=vu
  have hbk_:w12.heap[gb3]? = some (.cells #[.slice A11 ys11.length c11,.slice none 0 0,.int .i64 a0_2,.bool a0_3] 25 (0,0)):=(by rw [hw_];exact aQ (cs:=#[.slice A5 xs5.length c5,.slice none 0 0,.int .i64 a0_2,.bool a0_3]) (cs':=#[.slice A11 ys11.length c11,.slice none 0 0,.int .i64 a0_2,.bool a0_3]) (BK3.out) 0 _ rfl)
  have hsz_:hi11 ≤ w12.heap.size:=Nat.le_trans HT.out hkp.1
  replace HF0_0:=aA.mk (Kd.aU HF0_0.out hkp tA)
  replace HF0_1:=aA.mk (Kd.aU HF0_1.out hkp tA)
  replace HF6:=aA.mk (Kd.aU HF6.out hkp tA)
  replace HF11:=aA.mk (Kd.aU HF11.out hkp tA)
  replace HS11:=aA.mk (Kd.bP HS11.out hkp tA)
  replace BK1:=aA.mk (aY BK1.out hkp tB)
  replace BK2:=aA.mk (aY BK2.out hkp tB)
  replace HB:=aA.mk (hbn_)
  replace BK3:=aA.mk (hbk_)
  replace HT:=aA.mk (hsz_)
  clear hw_ hkp hge_ hbn_ hbk_ hsz_
  have:=bs4 BK1.out
  have:=bs4 BK2.out
  have:=bs4 BK3.out
  try go_wp2
  go_roundg k1
  case measure=>omega
  case rel=>exact ⟨i5 + 1,_,_,rfl,⟨show _ = ((i5 + 1:Nat):Int) by have:=HI5.out;have hm_:=Kd.F_max HF0_0.out;have:=HK5.out;first|(rw [w64 tZ tZ];omega)|omega⟩,⟨by have:=HK5.out;omega⟩,⟨Nat.le_trans tq HT.out⟩,⟨by rw [show l0_0.take (i5 + 1) = ys11 from (by rw [HY11.out,HX5.out];unfold rdR;rw [show x5.toNat = i5 from by have:=HI5.out;omega];exact take_getD _ _ [] (by have:=HK5.out;omega))];exact Kd.bU (Kd.bZ HS11.out tq) tR⟩,HF0_0,HF0_1,BK1,BK2,BK3,HB⟩
 have hi0_:i5 = l0_0.length:=(by have:=HK5.out;omega)
 have hd_:decide (x5 < (l0_0.length:Int)) = false:=decide_eq_false (by have:=HI5.out;omega)
 have eall_:xs5 = l0_0:=(by rw [HX5.out,hi0_,List.take_length])
 rw [eall_] at HS5 HF5 HC5 BK3
 have:=bs4 BK1.out
 have:=bs4 BK2.out
 have:=bs4 BK3.out
 try go_wp2
 go_loopg [32] (l0_1.length) (fun kq  v13 w'=>∃ (i13:Nat) (x13:Int) (u13:Value),v13 = .int .i64 x13 ∧ aA (x13 = (i13:Int)) ∧ aA (i13 + kq = l0_1.length) ∧ aA (hi5 ≤ w'.heap.size) ∧ aA (Kd.S k50 50 w' w.heap.size (Up 0 0 hi5) u13 (l0_1.take i13)) ∧ aA (Kd.F (Kd.slice 5 (Kd.int .u8)) w' (In 0 w.heap.size) A0_0 l0_0.length l0_0) ∧ aA (Kd.F k50 w' (In 0 w.heap.size) A0_1 l0_1.length l0_1) ∧ aA (Kd.F (Kd.slice 5 (Kd.int .u8)) w' (In2 0 0 (gb3 + 1) hi5) A5 l0_0.length l0_0) ∧ aA (Kd.S (Kd.slice 5 (Kd.int .u8)) 37 w' w.heap.size (In2 0 0 (gb3 + 1) hi5) (.slice A5 l0_0.length c5) l0_0) ∧ aA (w'.heap[gb1]? = some (.cells #[.slice A0_0 l0_0.length c0_0,.slice A0_1 l0_1.length c0_1,.int .i64 a0_2,.bool a0_3] 25 (0,0))) ∧ aA (w'.heap[gb2]? = some (.cells #[.slice none 0 0,.slice none 0 0,.int .i64 0,.bool false] 25 (0,0))) ∧ aA (w'.heap[gb3]? = some (.cells #[.slice A5 l0_0.length c5,u13,.int .i64 a0_2,.bool a0_3] 25 (0,0))) ∧ aA (Below w.heap.size w w'))
 case atStart=>exact ⟨0,0,_,rfl,⟨rfl⟩,⟨Nat.zero_add _⟩,HT,⟨by rw [show l0_1.take 0 = [] from rfl];exact Kd.S_nil _ _ _ _ _⟩,HF0_0,HF0_1,HF5,HS5,BK1,BK2,BK3,HB⟩
 clear HF0_0 HF0_1 HF5 HS5 BK1 BK2 BK3 HB HT
 obtain ⟨i13,x13,u13,rfl,HI13,HK13,HT,HS13,HF0_0,HF0_1,HF5,HS5,BK1,BK2,BK3,HB⟩:=hrel
 obtain ⟨xs13,ex_⟩:∃ y_,y_ = l0_1.take i13:=⟨_,rfl⟩
 rw [← ex_] at HS13
 have HX13:=aA.mk ex_
 clear ex_
 obtain ⟨A13,c13,ev_⟩:=Kd.S_slice HS13.out
 subst ev_
 obtain ⟨hi13,e2_⟩:∃ n_,n_ = wr.heap.size:=⟨_,rfl⟩
 have ol_:hi5 ≤ hi13:=(by rw [e2_];exact HT.out)
 have hs_:=Kd.bU (ok':=In2 0 0 hi5 hi13) (Kd.S_bound HS13.out) vA
 have n0_:=aA.mk (And.intro HORD.out ol_)
 have n1_:=aA.mk (Nat.le_of_eq e2_)
 clear HS13 HORD HT
 have HORD:=n0_
 have HT:=n1_
 have HS13:=aA.mk hs_
 have HF13:=aA.mk (Kd.S_F hs_)
 have HC13:=aA.mk (Kd.S_reads' hs_).2.1
 clear n0_ n1_ hs_ ol_ e2_
 rcases gk with _|k1
 rotate_left
 ·have hp_:0 ≤ x13:=(by have:=HI13.out;omega)
  have hq_:x13 < (l0_1.length:Int):=(by have:=HI13.out;have:=HK13.out;omega)
  have hd_:decide (x13 < (l0_1.length:Int)) = true:=decide_eq_true hq_
  have:=bs4 BK1.out
  have:=bs4 BK2.out
  have:=bs4 BK3.out
  obtain ⟨ad14,Ae14,ce14,ee14,hx14_0,hx14_1,hl14,hf14⟩:=F_wr HF0_1.out x13 hp_ hq_
  cases ee14
  have HF14:=aA.mk hf14
  have HC14:=aA.mk hl14
  clear hf14 hl14
  go_wp2_with (first|((with_reducible refine bC (N:=7) rfl ?_);refine bD ?hg (N:=7) ?hd (cs:=#[.int .i64 0,.slice none 0 0]) (t:=50) ?hr ?_;(case hd=>rfl);(case hg=>rfl);(case hr=>exact tE);intro gb15 hg_ w15 hbox hb;have hge_:hi13 ≤ gb15:=tk;have hlt_:gb15 + 1 ≤ w15.heap.size:=bJ hbox;replace HF0_0:=nF HF0_0;replace HF0_1:=nF HF0_1;replace HF5:=nF HF5;replace HS5:=nS HS5;replace HF13:=nF HF13;replace HS13:=nS HS13;replace HF14:=nF HF14;replace BK1:=nB BK1;replace BK2:=nB BK2;replace BK3:=nB BK3;replace HB:=aA.mk (aT HB.out hb);replace BK15:=aA.mk (hbox);replace HORD:=aA.mk (And.intro HORD.out (And.intro hge_ (Nat.le_succ gb15)));replace HT:=aA.mk (hlt_);clear hb hbox hg_ hge_ hlt_;have:=bs4 BK1.out;have:=bs4 BK2.out;have:=bs4 BK3.out;have:=bs2 BK15.out)|((with_reducible refine bN (t:=50) (p:=7) rfl ?_);refine bL (t:=50) (p:=7) (v:=?vo_w16) (w1:=((w15.setCell ⟨gb15,0,none⟩ (.int .i64 ((rdW l0_1 x13).f0))).setCell ⟨gb15,1,none⟩ (.slice Ae14 ((rdW l0_1 x13).f1).length ce14))) ?hg ?ho ?hn ?hr ?_;(case ho=>rfl);(case hg=>rfl);(case hn=>rfl);(case hr=>exact tE);intro w16 hw_;have hkp:Kept w15 w16 (fun k_=>k_ = gb15):=(by rw [hw_];exact Kept.setCell (Kept.setCell (Kept.refl w15 (fun k_=>k_ = gb15)) (.inl rfl) (.int .i64 ((rdW l0_1 x13).f0))) (.inl rfl) (.slice Ae14 ((rdW l0_1 x13).f1).length ce14));have hge_:w.heap.size ≤ gb15:=tL;have hbn_:Below w.heap.size w w16:=AC;have hbk_:w16.heap[gb15]? = some (.cells #[.int .i64 ((rdW l0_1 x13).f0),.slice Ae14 ((rdW l0_1 x13).f1).length ce14] 50 (0,0)):=(by rw [hw_];exact aQ (cs:=#[.int .i64 ((rdW l0_1 x13).f0),.slice none 0 0]) (cs':=#[.int .i64 ((rdW l0_1 x13).f0),.slice Ae14 ((rdW l0_1 x13).f1).length ce14]) (aQ (cs:=#[.int .i64 0,.slice none 0 0]) (cs':=#[.int .i64 ((rdW l0_1 x13).f0),.slice none 0 0]) (BK15.out) 0 _ rfl) 1 _ rfl);have hsz_:(gb15 + 1) ≤ w16.heap.size:=Nat.le_trans HT.out hkp.1;replace HF0_0:=aA.mk (Kd.aU HF0_0.out hkp tA);replace HF0_1:=aA.mk (Kd.aU HF0_1.out hkp tA);replace HF5:=aA.mk (Kd.aU HF5.out hkp tA);replace HS5:=aA.mk (Kd.bP HS5.out hkp tA);replace HF13:=aA.mk (Kd.aU HF13.out hkp tA);replace HS13:=aA.mk (Kd.bP HS13.out hkp tA);replace HF14:=aA.mk (Kd.aU HF14.out hkp tA);replace BK1:=aA.mk (aY BK1.out hkp tB);replace BK2:=aA.mk (aY BK2.out hkp tB);replace BK3:=aA.mk (aY BK3.out hkp tB);replace HB:=aA.mk (hbn_);replace BK15:=aA.mk (hbk_);replace HT:=aA.mk (hsz_);clear hw_ hkp hge_ hbn_ hbk_ hsz_;have:=bs4 BK1.out;have:=bs4 BK2.out;have:=bs4 BK3.out;have:=bs2 BK15.out))
  replace HF0_0:=aA.mk (Kd.F_drew HF0_0.out)
  replace HF0_1:=aA.mk (Kd.F_drew HF0_1.out)
  replace HF5:=aA.mk (Kd.F_drew HF5.out)
  replace HS5:=aA.mk (Kd.S_drew HS5.out)
  replace HF13:=aA.mk (Kd.F_drew HF13.out)
  replace HS13:=aA.mk (Kd.S_drew HS13.out)
  replace HF14:=aA.mk (Kd.F_drew HF14.out)
  replace BK1:=aA.mk (aN BK1.out)
  replace BK2:=aA.mk (aN BK2.out)
  replace BK3:=aA.mk (aN BK3.out)
  replace BK15:=aA.mk (aN BK15.out)
  replace HB:=aA.mk (aH HB.out)
  replace HT:=aA.mk (show _ ≤ w16.drew.heap.size from HT.out)
  refine start_ (n:=13) (S:=fun w'=>w'.cell? ⟨gb3,0,none⟩ = some (.slice A5 l0_0.length c5) ∧ w'.cell? ⟨gb3,1,none⟩ = some (.slice A13 xs13.length c13) ∧ w'.cell? ⟨gb3,2,none⟩ = some (.int .i64 a0_2) ∧ w'.cell? ⟨gb3,3,none⟩ = some (.bool a0_3) ∧ w'.cell? ⟨gb15,0,none⟩ = some (.int .i64 ((rdW l0_1 x13).f0)) ∧ w'.cell? ⟨gb15,1,none⟩ = some (.slice Ae14 ((rdW l0_1 x13).f1).length ce14)) (ds:=[12]) #[F0,F0,F0,F0,F0,F0,F0,F0,F0,F0,F0,F0,F0] tG rfl rfl ⟨(aD BK3.out 0).trans rfl,(aD BK3.out 1).trans rfl,(aD BK3.out 2).trans rfl,(aD BK3.out 3).trans rfl,(aD BK15.out 0).trans rfl,(aD BK15.out 1).trans rfl⟩ (fun hHeld=>?_)
  generalize w16.drew = w17 at HF0_0 HF0_1 HF5 HS5 HF13 HS13 HF14 BK1 BK2 BK3 BK15 HB HT hHeld ⊢
  refine bT (i:=0) (N:=some 36) (v:=?_) (a':=?_) #[T1,F0,F0,F0,F0,F0,F0,F0,F0,F0,F0,F0,F0] rfl rfl tG (fun _ _ _ h=>h) (Or.inl ⟨vr,?_⟩) ?_ ?_
  rotate_left
  ·intro w'
   go_simp
   with_reducible rfl
  rotate_left
  ·simp only [Act.put,lA,lB,lC,bE,bG]
   rfl
  refine take_ (i:=1) (N:=some 37) (v:=?_) (a':=?_) #[T1,T1,F0,F0,F0,F0,F0,F0,F0,F0,F0,F0,F0] rfl rfl tG (fun _ _ _ h=>h) (Or.inl ⟨vr,?_⟩) hHeld ?_ ?_
  rotate_left
  ·rintro w' ⟨s0,s1,s2,s3,s4,s5⟩
   go_simp
   with_reducible rfl
  rotate_left
  ·simp only [Act.put,lA,lB,lC,bE,bG]
   rfl
  refine bT (i:=2) (N:=some 38) (v:=?_) (a':=?_) #[T1,T1,T1,F0,F0,F0,F0,F0,F0,F0,F0,F0,F0] rfl rfl tG (fun _ _ _ h=>h) (Or.inl ⟨vr,?_⟩) ?_ ?_
  rotate_left
  ·intro w'
   go_simp
   with_reducible rfl
  rotate_left
  ·simp only [Act.put,lA,lB,lC,bE,bG]
   rfl
  refine take_ (i:=3) (N:=some 39) (v:=?_) (a':=?_) #[T1,T1,T1,T1,F0,F0,F0,F0,F0,F0,F0,F0,F0] rfl rfl tG (fun _ _ _ h=>h) (Or.inl ⟨vr,?_⟩) hHeld ?_ ?_
  rotate_left
  ·rintro w' ⟨s0,s1,s2,s3,s4,s5⟩
   go_simp
   with_reducible rfl
  rotate_left
  ·simp only [Act.put,lA,lB,lC,bE,bG]
   rfl
  refine bT (i:=4) (N:=some 40) (v:=?_) (a':=?_) #[T1,T1,T1,T1,T1,F0,F0,F0,F0,F0,F0,F0,F0] rfl rfl tG (fun _ _ _ h=>h) (Or.inl ⟨vr,?_⟩) ?_ ?_
  rotate_left
  ·intro w'
   go_simp
   with_reducible rfl
  rotate_left
  ·simp only [Act.put,lA,lB,lC,bE,bG]
   rfl
  refine take_ (i:=5) (N:=some 41) (v:=?_) (a':=?_) #[T1,T1,T1,T1,T1,T1,F0,F0,F0,F0,F0,F0,F0] rfl rfl tG (fun _ _ _ h=>h) (Or.inl ⟨vr,?_⟩) hHeld ?_ ?_
  rotate_left
  ·rintro w' ⟨s0,s1,s2,s3,s4,s5⟩
   go_simp
   with_reducible rfl
  rotate_left
  ·simp only [Act.put,lA,lB,lC,bE,bG]
   rfl
  refine one_ (i:=6) (N:=some 42) #[T1,T1,T1,T1,T1,T1,T1,F0,F0,F0,F0,F0,F0] rfl rfl tG tf (fun K hK=>?_)
  refine Kd.N_lit_step (Kd.slice 5 (Kd.int .u8)) _ 37 ?hg (N':=42) ?hd (xs:=([(rdW l0_1 x13).f1]:List (List (Int)))) (inner:=[.slice Ae14 ((rdW l0_1 x13).f1).length ce14]) (ok:=(fun k_=>(In 0 w.heap.size) k_ ∨ (gb15 + 1) ≤ k_)) (okp:=(In 0 w.heap.size)) ?hr ?hp (fun _ hk=>.inl hk) (.inr HT.out) (Below.refl _ _) (Nat.le_refl _) vN ?_
  (case hd=>rfl)
  (case hg=>rfl)
  (case hr=>exact tE)
  (case hp=>exact (Reps.one (Kd.FK_slice_mk HC14.out HF14.out) (Reps.none _ _)))
  intro vl18 w18 ho_ hb hg_ hat_
  obtain ⟨A18,c18,ev_⟩:=Kd.cB ho_
  subst ev_
  replace HF0_0:=nF HF0_0
  replace HF0_1:=nF HF0_1
  replace HF5:=nF HF5
  replace HS5:=nS HS5
  replace HF13:=nF HF13
  replace HS13:=nS HS13
  replace HF14:=nF HF14
  replace BK1:=nB BK1
  replace BK2:=nB BK2
  replace BK3:=nB BK3
  replace BK15:=nB BK15
  replace HB:=aA.mk (aT HB.out hb)
  replace HT:=aA.mk (Nat.le_trans HT.out hb.size)
  replace HF18:=aA.mk (Kd.N_F ho_)
  replace HC18:=aA.mk ((Kd.N_reads' ho_).2.1)
  clear hb ho_ hg_ hat_
  refine hK.out _ _ ⟨(aD BK3.out 0).trans rfl,(aD BK3.out 1).trans rfl,(aD BK3.out 2).trans rfl,(aD BK3.out 3).trans rfl,(aD BK15.out 0).trans rfl,(aD BK15.out 1).trans rfl⟩ (fun hHeld=>?_)
  clear hK K
  refine norm_ (a':=?_) ?_ ?_
  rotate_left
  ·show Act.put _ (some 42) _ = _
   simp only [Act.put,lA,lB,lC,bE,bG]
   rfl
  refine one_ (i:=7) (N:=some 43) #[T1,T1,T1,T1,T1,T1,T1,T1,F0,F0,F0,F0,F0] rfl rfl tG tf (fun K hK=>?_)
  obtain ⟨kj20,hj_⟩:=joined1 ((rdW l0_1 x13).f1) (by first|exact getS_len hok0 _|exact getW_len hok1 _)
  have J20:=aA.mk hj_
  clear hj_
  refine goes_ Try.func55 tG rfl #[.slice A18 (([(rdW l0_1 x13).f1]:List (List (Int)))).length c18] wN rfl rfl tC ?_
  (with_reducible refine (impl_joined.calls kj20 _ _ (([(rdW l0_1 x13).f1]:List (List (Int)))) ((rdW l0_1 x13).f1) _ ?s1 ?s2 J20.out).mono ?_)
  (case s1=>exact (Kd.bR HF18.out))
  (case s2=>exact HC18.out)
  rintro e_ w19 ⟨v0_,rfl,ho0,hb⟩
  refine ⟨_,rfl,?_⟩
  obtain ⟨lo19,hi19,el_,eh_,ol_,oh_⟩:=Mem.times HT.out hb
  (try rw [← el_] at ho0)
  obtain ⟨A19_0,c19_0,ev_,hc0_,hf0_,hs0_⟩:=Mem.new_R ho0 eh_
  subst ev_
  replace HF0_0:=nF HF0_0
  replace HF0_1:=nF HF0_1
  replace HF5:=nF HF5
  replace HS5:=nS HS5
  replace HF13:=nF HF13
  replace HS13:=nS HS13
  replace HF14:=nF HF14
  replace HF18:=nF HF18
  replace BK1:=nB BK1
  replace BK2:=nB BK2
  replace BK3:=nB BK3
  replace BK15:=nB BK15
  replace HB:=aA.mk (aT HB.out hb)
  replace HF19_0:=aA.mk (hf0_)
  replace HC19_0:=aA.mk (hc0_)
  replace HS19_0:=aA.mk (hs0_)
  replace HORD:=aA.mk (And.intro HORD.out (And.intro ol_ oh_))
  replace HT:=aA.mk (Nat.le_of_eq eh_)
  clear ol_ oh_ el_ eh_ ho0 hf0_ hc0_ hs0_
  (try clear hb)
  refine hK.out _ _ ⟨(aD BK3.out 0).trans rfl,(aD BK3.out 1).trans rfl,(aD BK3.out 2).trans rfl,(aD BK3.out 3).trans rfl,(aD BK15.out 0).trans rfl,(aD BK15.out 1).trans rfl⟩ (fun hHeld=>?_)
  clear hK K
  refine norm_ (a':=?_) ?_ ?_
  rotate_left
  ·show Act.put _ (some 43) _ = _
   simp only [Act.put,lA,lB,lC,bE,bG]
   rfl
  refine bT (i:=8) (N:=some 44) (v:=?_) (a':=?_) #[T1,T1,T1,T1,T1,T1,T1,T1,T1,F0,F0,F0,F0] rfl rfl tG (fun _ _ _ h=>h) (Or.inl ⟨vr,?_⟩) ?_ ?_
  rotate_left
  ·intro w'
   go_simp
   with_reducible rfl
  rotate_left
  ·simp only [Act.put,lA,lB,lC,bE,bG]
   rfl
  refine one_ (i:=9) (N:=some 45) #[T1,T1,T1,T1,T1,T1,T1,T1,T1,T1,F0,F0,F0] rfl rfl tG tf (fun K hK=>?_)
  refine value_ (w1:=?_) (v:=?_) wN rfl ?_ ?_
  rotate_left 2
  ·go_simp
   constructor
   ·rfl
   ·rfl
  refine hK.out _ _ ⟨(aD (aG BK3.out _) 0).trans rfl,(aD (aG BK3.out _) 1).trans rfl,(aD (aG BK3.out _) 2).trans rfl,(aD (aG BK3.out _) 3).trans rfl,(aD (aG BK15.out _) 0).trans rfl,(aD (aG BK15.out _) 1).trans rfl⟩ (fun hHeld=>?_)
  clear hK K
  refine norm_ (a':=?_) ?_ ?_
  rotate_left
  ·show Act.put _ (some 45) _ = _
   simp only [Act.put,lA,lB,lC,bE,bG]
   rfl
  refine one_ (i:=10) (N:=some 46) #[T1,T1,T1,T1,T1,T1,T1,T1,T1,T1,T1,F0,F0] rfl rfl tG tf (fun K hK=>?_)
  refine Kd.S_append_step k50 (w0:=w) w.heap.size wN (.tmp 37) (.tmp 45) 23 50 (.agg #[.int .i64 0,.slice none 0 0]) 32 rfl Try.underlying23 info50 rfl tf tZ (.slice A13 xs13.length c13) xs13 ((⟨(rdW l0_1 x13).f0,(rdW l0_1 x13).f1⟩:S50)) [.int .i64 ((rdW l0_1 x13).f0),.slice A19_0 ((rdW l0_1 x13).f1).length c19_0] (Up 0 0 hi5) (In lo19 hi19) rfl rfl ?aP ?aK ?aF ?aO ?aB ?aS ?aL ?_
  (case aB=>exact HB.out)
  (case aS=>exact aX HB.out)
  (case aP=>exact k50_mkM _ _ _ _ (Kd.R_lower HS19_0.out Am))
  (case aK=>exact (fun k_ hk_=>⟨vK,(fun he_=>by have hz_:=(Kd.S_R HS13.out).1 k_ he_.symm;have o_:=HORD.out;have t_:=HT.out;(try simp only [In2,Up,In,Ex,Exb] at hk_ hz_);omega)⟩))
  (case aF=>exact tR)
  (case aO=>exact Kd.bU (Kd.bZ HS13.out tq) (fun k_ hk_=>⟨vK,AL⟩))
  (case aL=>(have hl1_:=okWrS_len hok1;have h3_:=congrArg List.length HX13.out;rw [List.length_take] at h3_;omega))
  intro v21 w21 ho_ hbn_ hg_ hat_
  obtain ⟨ys21,ey_⟩:∃ y_,y_ = xs13 ++ [(⟨(rdW l0_1 x13).f0,(rdW l0_1 x13).f1⟩:S50)]:=⟨_,rfl⟩
  rw [← ey_] at ho_
  have HY21:=aA.mk ey_
  clear ey_
  have hkp:=kept_grown (S:=(In2 0 0 hi5 hi13)) hg_ (fun k_ he_=>(Kd.S_R HS13.out).1 k_ he_)
  obtain ⟨A21,c21,ev_⟩:=Kd.S_slice ho_
  subst ev_
  obtain ⟨hi21,e2_⟩:∃ n_,n_ = w21.heap.size:=⟨_,rfl⟩
  have ol_:hi19 ≤ hi21:=wT
  have hs_:=Kd.bU (ok':=In2 0 0 hi5 hi21) (Kd.S_bound ho_) vA
  replace HF0_0:=aA.mk (Kd.aU HF0_0.out hkp tA)
  replace HF0_1:=aA.mk (Kd.aU HF0_1.out hkp tA)
  replace HF5:=aA.mk (Kd.aU HF5.out hkp tA)
  replace HS5:=aA.mk (Kd.bP HS5.out hkp tA)
  replace HF14:=aA.mk (Kd.aU HF14.out hkp tA)
  replace BK1:=aA.mk (aY BK1.out hkp tB)
  replace BK2:=aA.mk (aY BK2.out hkp tB)
  replace BK3:=aA.mk (aY BK3.out hkp tB)
  replace BK15:=aA.mk (aY BK15.out hkp tB)
  replace HB:=aA.mk (hbn_)
  replace HORD:=aA.mk (And.intro HORD.out ol_)
  replace HT:=aA.mk (Nat.le_of_eq e2_)
  replace HS21:=aA.mk (hs_)
  replace HF21:=aA.mk (Kd.S_F hs_)
  replace HC21:=aA.mk ((Kd.S_reads' hs_).2.1)
  clear hs_ ho_ hbn_ hg_ hat_ hkp ol_ e2_
  refine hK.out _ _ ⟨(aD BK3.out 0).trans rfl,(aD BK3.out 1).trans rfl,(aD BK3.out 2).trans rfl,(aD BK3.out 3).trans rfl,(aD BK15.out 0).trans rfl,(aD BK15.out 1).trans rfl⟩ (fun hHeld=>?_)
  clear hK K
  refine norm_ (a':=?_) ?_ ?_
  rotate_left
  ·show Act.put _ (some 46) _ = _
   simp only [Act.put,lA,lB,lC,bE,bG]
   rfl
  refine bT (i:=11) (N:=some 47) (v:=?_) (a':=?_) #[T1,T1,T1,T1,T1,T1,T1,T1,T1,T1,T1,T1,F0] rfl rfl tG (fun _ _ _ h=>h) (Or.inl ⟨vr,?_⟩) ?_ ?_
  rotate_left
  ·intro w'
   go_simp
   with_reducible rfl
  rotate_left
  ·simp only [Act.put,lA,lB,lC,bE,bG]
   rfl
  refine last_ (i:=12) (N:=none) #[T1,T1,T1,T1,T1,T1,T1,T1,T1,T1,T1,T1,T1] rfl rfl tG tf (fun K hK=>?_)
  have:=bs4 BK1.out
  have:=bs4 BK2.out
  have:=bs4 BK3.out
  have:=bs2 BK15.out
  have hge_:w.heap.size ≤ gb3:=tq
  refine skip_ (w1:=?_) wN rfl ?_ ?_
  rotate_left
  ·go_simp
   rfl
  refine hK.out _ _ ?_
  clear hK K
  refine done_ tG ?_
  obtain ⟨w22,hw_⟩:∃ z_,z_ = (w21.setCell ⟨gb3,1,none⟩ (.slice A21 ys21.length c21)):=⟨_,rfl⟩
  (try rw [← hw_])
  have hkp:Kept w21 w22 (fun k_=>k_ = gb3):=(by rw [hw_];exact Kept.setCell (Kept.refl w21 (fun k_=>k_ = gb3)) (.inl rfl) (.slice A21 ys21.length c21))
  have hbn_:Below w.heap.size w w22:=vu
  have hbk_:w22.heap[gb3]? = some (.cells #[.slice A5 l0_0.length c5,.slice A21 ys21.length c21,.int .i64 a0_2,.bool a0_3] 25 (0,0)):=(by rw [hw_];exact aQ (cs:=#[.slice A5 l0_0.length c5,.slice A13 xs13.length c13,.int .i64 a0_2,.bool a0_3]) (cs':=#[.slice A5 l0_0.length c5,.slice A21 ys21.length c21,.int .i64 a0_2,.bool a0_3]) (BK3.out) 1 _ rfl)
  have hsz_:hi21 ≤ w22.heap.size:=Nat.le_trans HT.out hkp.1
  replace HF0_0:=aA.mk (Kd.aU HF0_0.out hkp tA)
  replace HF0_1:=aA.mk (Kd.aU HF0_1.out hkp tA)
  replace HF5:=aA.mk (Kd.aU HF5.out hkp tA)
  replace HS5:=aA.mk (Kd.bP HS5.out hkp tA)
  replace HF14:=aA.mk (Kd.aU HF14.out hkp tA)
  replace HF21:=aA.mk (Kd.aU HF21.out hkp tA)
  replace HS21:=aA.mk (Kd.bP HS21.out hkp tA)
  replace BK1:=aA.mk (aY BK1.out hkp tB)
  replace BK2:=aA.mk (aY BK2.out hkp tB)
  replace BK15:=aA.mk (aY BK15.out hkp tB)
  replace HB:=aA.mk (hbn_)
  replace BK3:=aA.mk (hbk_)
  replace HT:=aA.mk (hsz_)
  clear hw_ hkp hge_ hbn_ hbk_ hsz_
  have:=bs4 BK1.out
  have:=bs4 BK2.out
  have:=bs4 BK3.out
  have:=bs2 BK15.out
  try go_wp2
  go_roundg k1
  case measure=>omega
  case rel=>exact ⟨i13 + 1,_,_,rfl,⟨show _ = ((i13 + 1:Nat):Int) by have:=HI13.out;have hm_:=Kd.F_max HF0_1.out;have:=HK13.out;first|(rw [w64 tZ tZ];omega)|omega⟩,⟨by have:=HK13.out;omega⟩,⟨Nat.le_trans tq HT.out⟩,⟨by rw [show l0_1.take (i13 + 1) = ys21 from (by rw [HY21.out,HX13.out];unfold rdW;rw [show x13.toNat = i13 from by have:=HI13.out;omega];exact take_getD _ _ z50 (by have:=HK13.out;omega))];exact Kd.bU (Kd.bZ HS21.out tq) tR⟩,HF0_0,HF0_1,HF5,HS5,BK1,BK2,BK3,HB⟩
 have hi0_:i13 = l0_1.length:=(by have:=HK13.out;omega)
 have hd_:decide (x13 < (l0_1.length:Int)) = false:=decide_eq_false (by have:=HI13.out;omega)
 have eall_:xs13 = l0_1:=(by rw [HX13.out,hi0_,List.take_length])
 rw [eall_] at HS13 HF13 HC13 BK3
 have:=bs4 BK1.out
 have:=bs4 BK2.out
 have:=bs4 BK3.out
 go_wp2_with (first|((with_reducible refine bN (t:=25) (p:=2) rfl ?_);refine bL (t:=25) (p:=2) (v:=?vo_w23) (w1:=((((wr.setCell ⟨gb2,0,none⟩ (.slice A5 l0_0.length c5)).setCell ⟨gb2,1,none⟩ (.slice A13 l0_1.length c13)).setCell ⟨gb2,2,none⟩ (.int .i64 a0_2)).setCell ⟨gb2,3,none⟩ (.bool a0_3))) ?hg ?ho ?hn ?hr ?_;(case ho=>rfl);(case hg=>rfl);(case hn=>rfl);(case hr=>exact tE);intro w23 hw_;have hkp:Kept wr w23 (fun k_=>k_ = gb2):=(by rw [hw_];exact Kept.setCell (Kept.setCell (Kept.setCell (Kept.setCell (Kept.refl wr (fun k_=>k_ = gb2)) (.inl rfl) (.slice A5 l0_0.length c5)) (.inl rfl) (.slice A13 l0_1.length c13)) (.inl rfl) (.int .i64 a0_2)) (.inl rfl) (.bool a0_3));have hge_:w.heap.size ≤ gb2:=tL;have hbn_:Below w.heap.size w w23:=tU;have hbk_:w23.heap[gb2]? = some (.cells #[.slice A5 l0_0.length c5,.slice A13 l0_1.length c13,.int .i64 a0_2,.bool a0_3] 25 (0,0)):=(by rw [hw_];exact aQ (cs:=#[.slice A5 l0_0.length c5,.slice A13 l0_1.length c13,.int .i64 a0_2,.bool false]) (cs':=#[.slice A5 l0_0.length c5,.slice A13 l0_1.length c13,.int .i64 a0_2,.bool a0_3]) (aQ (cs:=#[.slice A5 l0_0.length c5,.slice A13 l0_1.length c13,.int .i64 0,.bool false]) (cs':=#[.slice A5 l0_0.length c5,.slice A13 l0_1.length c13,.int .i64 a0_2,.bool false]) (aQ (cs:=#[.slice A5 l0_0.length c5,.slice none 0 0,.int .i64 0,.bool false]) (cs':=#[.slice A5 l0_0.length c5,.slice A13 l0_1.length c13,.int .i64 0,.bool false]) (aQ (cs:=#[.slice none 0 0,.slice none 0 0,.int .i64 0,.bool false]) (cs':=#[.slice A5 l0_0.length c5,.slice none 0 0,.int .i64 0,.bool false]) (BK2.out) 0 _ rfl) 1 _ rfl) 2 _ rfl) 3 _ rfl);have hsz_:hi13 ≤ w23.heap.size:=Nat.le_trans HT.out hkp.1;replace HF0_0:=aA.mk (Kd.aU HF0_0.out hkp tA);replace HF0_1:=aA.mk (Kd.aU HF0_1.out hkp tA);replace HF5:=aA.mk (Kd.aU HF5.out hkp tA);replace HS5:=aA.mk (Kd.bP HS5.out hkp tA);replace HF13:=aA.mk (Kd.aU HF13.out hkp tA);replace HS13:=aA.mk (Kd.bP HS13.out hkp tA);replace BK1:=aA.mk (aY BK1.out hkp tB);replace BK3:=aA.mk (aY BK3.out hkp tB);replace HB:=aA.mk (hbn_);replace BK2:=aA.mk (hbk_);replace HT:=aA.mk (hsz_);clear hw_ hkp hge_ hbn_ hbk_ hsz_;have:=bs4 BK1.out;have:=bs4 BK2.out;have:=bs4 BK3.out))
 refine bodyPost_ret (fn:=Try.f58) (P:=Try.prog) (results_cell_row rfl _ _ gb2 25 #[.slice A5 l0_0.length c5,.slice A13 l0_1.length c13,.int .i64 a0_2,.bool a0_3] (0,0) _ rfl BK2.out Try.underlying25 rfl tG) rfl ?_
 first|exact ⟨_,_,hi5,rfl,tq,tH,Kd.bU (Kd.bZ HS5.out tq) tJ,Kd.bU (Kd.bZ HS13.out tq) tJ,HB.out⟩|exact ⟨_,_,rfl,hi5,tq,tH,Kd.bU (Kd.bZ HS5.out tq) tJ,Kd.bU (Kd.bZ HS13.out tq) tJ,HB.out⟩
def impl_copyDevS.f (l0_0:List (List Int)) (l0_1:List (S50)) (a0_2:Int) (a0_3:Bool):Option (List (List Int) × List (S50) × Int × Bool):=if okDevB l0_0 l0_1 = true then some (l0_0,l0_1,a0_2,a0_3) else none
theorem impl_copyDevS.calls (P0_0_:Nat → Prop) (A0_0:Option Addr) (c0_0:Nat) (l0_0:List (List Int)) (P0_1_:Nat → Prop) (A0_1:Option Addr) (c0_1:Nat) (l0_1:List (S50)) (a0_2:Int) (a0_3:Bool) (r1:List (List Int)) (r2:List (S50)) (r3:Int) (r4:Bool) (w:World) (hs0_0:Kd.V (Kd.slice 5 (Kd.int .u8)) 37 w w.heap.size (fun k_=>P0_0_ k_) (.slice A0_0 l0_0.length c0_0) l0_0) (hs0_1:Kd.V k50 50 w w.heap.size (fun k_=>P0_1_ k_) (.slice A0_1 l0_1.length c0_1) l0_1) (h:impl_copyDevS.f l0_0 l0_1 a0_2 a0_3 = some (r1,r2,r3,r4)) :
  Calls Try.prog 58 #[.agg #[.slice A0_0 l0_0.length c0_0,.slice A0_1 l0_1.length c0_1,.int .i64 a0_2,.bool a0_3]] w fun e w'=>∃ v0_ v1_:Value,∃ m_:Nat,e = .returned (.agg #[v0_,v1_,.int .i64 r3,.bool r4]) ∧ w.heap.size ≤ m_ ∧ m_ ≤ w'.heap.size ∧ Kd.S (Kd.slice 5 (Kd.int .u8)) 37 w' w.heap.size (In w.heap.size m_) v0_ r1 ∧ Kd.S k50 50 w' w.heap.size (In m_ w'.heap.size) v1_ r2 ∧ Below w.heap.size w w':=by
 obtain ⟨_,hc0_,hf0_⟩:=Kd.V_at hs0_0
 obtain ⟨_,hc1_,hf1_⟩:=Kd.V_at hs0_1
 replace hf0_:=Kd.F_mono (ok':=In 0 w.heap.size) (Kd.F_bound hf0_) (fun k hk=>⟨Nat.zero_le k,hk.2⟩)
 replace hf1_:=Kd.F_mono (ok':=In 0 w.heap.size) (Kd.F_bound hf1_) (fun k hk=>⟨Nat.zero_le k,hk.2⟩)
 unfold impl_copyDevS.f at h
 split at h
 ·rename_i hok
  unfold okDevB at hok
  simp only [Bool.and_eq_true,decide_eq_true_eq] at hok
  obtain ⟨hok0,hok1⟩:=hok
  injection h with h
  simp only [Prod.mk.injEq] at h
  obtain ⟨rfl,rfl,rfl,rfl⟩:=h
  exact walk_copyDev _ _ _ _ _ _ _ _ w hf0_ hc0_ hf1_ hc1_ hok0 hok1
 ·cases h
theorem copyDevS_f {l:List (List Int)} {m:List (S50)} (h:okByteSS l) (h2:okWrS m) (a:Int) (b:Bool):impl_copyDevS.f l m a b = some (l,m,a,b):=by
 unfold impl_copyDevS.f okDevB
 unfold okByteSS at h
 unfold okWrS at h2
 rw [if_pos (by simp [h,h2])]
set_option maxHeartbeats 8000000 in
set_option maxRecDepth 100000 in
theorem walk_burn0 (A0_0:Option Addr) (c0_0:Nat) (l0_0:List (List (Int))) (A0_1:Option Addr) (c0_1:Nat) (l0_1:List (S50)) (a0_3:Bool) (w:World) :
  Calls Try.prog 59 #[.agg #[.slice A0_0 l0_0.length c0_0,.slice A0_1 l0_1.length c0_1,.int .i64 0,.bool a0_3]] w fun e w'=>e = .returned (.tuple #[.agg #[.slice A0_0 l0_0.length c0_0,.slice A0_1 l0_1.length c0_1,.int .i64 (-1),.bool true],.bool false]) ∧ Below w.heap.size w w':=by
 have hu25:=Try.underlying25
 have HB:=aA.mk (Below.refl w.heap.size w)
 have HORD:=aA.mk (Nat.le_refl w.heap.size)
 have HT:=aA.mk (Nat.le_refl w.heap.size)
 go_enter Try.func59,Try.ntmps59
 go_wp2_with (first|((with_reducible refine bC (N:=1) rfl ?_);refine bD ?hg (N:=1) ?hd (cs:=#[.slice A0_0 l0_0.length c0_0,.slice A0_1 l0_1.length c0_1,.int .i64 0,.bool a0_3]) (t:=25) ?hr ?_;(case hd=>rfl);(case hg=>rfl);(case hr=>exact tE);intro gb1 hg_ w1 hbox hb;have hge_:w.heap.size ≤ gb1:=tk;have hlt_:gb1 + 1 ≤ w1.heap.size:=bJ hbox;replace HB:=aA.mk (aT HB.out hb);replace BK1:=aA.mk (hbox);replace HORD:=aA.mk (And.intro HORD.out (And.intro hge_ (Nat.le_succ gb1)));replace HT:=aA.mk (hlt_);clear hb hbox hg_ hge_ hlt_;have:=bs4 BK1.out)|((with_reducible refine bC (N:=2) rfl ?_);refine bD ?hg (N:=2) ?hd (cs:=#[.slice none 0 0,.slice none 0 0,.int .i64 0,.bool false]) (t:=25) ?hr ?_;(case hd=>rfl);(case hg=>rfl);(case hr=>exact tE);intro gb2 hg_ w2 hbox hb;have hge_:(gb1 + 1) ≤ gb2:=tk;have hlt_:gb2 + 1 ≤ w2.heap.size:=bJ hbox;replace BK1:=nB BK1;replace HB:=aA.mk (aT HB.out hb);replace BK2:=aA.mk (hbox);replace HORD:=aA.mk (And.intro HORD.out (And.intro hge_ (Nat.le_succ gb2)));replace HT:=aA.mk (hlt_);clear hb hbox hg_ hge_ hlt_;have:=bs4 BK1.out;have:=bs4 BK2.out)|((with_reducible refine bN (t:=4) (p:=7) rfl ?_);refine bL (t:=4) (p:=7) (v:=?vo_w3) (w1:=(w2.setCell ⟨gb1,3,none⟩ (.bool true))) ?hg ?ho ?hn ?hr ?_;(case ho=>rfl);(case hg=>rfl);(case hn=>rfl);(case hr=>exact tE);intro w3 hw_;have hkp:Kept w2 w3 (fun k_=>k_ = gb1):=(by rw [hw_];exact Kept.setCell (Kept.refl w2 (fun k_=>k_ = gb1)) (.inl rfl) (.bool true));have hge_:w.heap.size ≤ gb1:=tL;have hbn_:Below w.heap.size w w3:=vu;have hbk_:w3.heap[gb1]? = some (.cells #[.slice A0_0 l0_0.length c0_0,.slice A0_1 l0_1.length c0_1,.int .i64 0,.bool true] 25 (0,0)):=(by rw [hw_];exact aQ (cs:=#[.slice A0_0 l0_0.length c0_0,.slice A0_1 l0_1.length c0_1,.int .i64 0,.bool a0_3]) (cs':=#[.slice A0_0 l0_0.length c0_0,.slice A0_1 l0_1.length c0_1,.int .i64 0,.bool true]) (BK1.out) 3 _ rfl);have hsz_:(gb2 + 1) ≤ w3.heap.size:=Nat.le_trans HT.out hkp.1;replace BK2:=aA.mk (aY BK2.out hkp tB);replace HB:=aA.mk (hbn_);replace BK1:=aA.mk (hbk_);replace HT:=aA.mk (hsz_);clear hw_ hkp hge_ hbn_ hbk_ hsz_;have:=bs4 BK1.out;have:=bs4 BK2.out)|((with_reducible refine bN (t:=3) (p:=8) rfl ?_);refine bL (t:=3) (p:=8) (v:=?vo_w4) (w1:=(w3.setCell ⟨gb1,2,none⟩ (.int .i64 ((-1))))) ?hg ?ho ?hn ?hr ?_;(case ho=>rfl);(case hg=>rfl);(case hn=>rfl);(case hr=>exact tE);intro w4 hw_;have hkp:Kept w3 w4 (fun k_=>k_ = gb1):=(by rw [hw_];exact Kept.setCell (Kept.refl w3 (fun k_=>k_ = gb1)) (.inl rfl) (.int .i64 ((-1))));have hge_:w.heap.size ≤ gb1:=tL;have hbn_:Below w.heap.size w w4:=vu;have hbk_:w4.heap[gb1]? = some (.cells #[.slice A0_0 l0_0.length c0_0,.slice A0_1 l0_1.length c0_1,.int .i64 ((-1)),.bool true] 25 (0,0)):=(by rw [hw_];exact aQ (cs:=#[.slice A0_0 l0_0.length c0_0,.slice A0_1 l0_1.length c0_1,.int .i64 0,.bool true]) (cs':=#[.slice A0_0 l0_0.length c0_0,.slice A0_1 l0_1.length c0_1,.int .i64 ((-1)),.bool true]) (BK1.out) 2 _ rfl);have hsz_:(gb2 + 1) ≤ w4.heap.size:=Nat.le_trans HT.out hkp.1;replace BK2:=aA.mk (aY BK2.out hkp tB);replace HB:=aA.mk (hbn_);replace BK1:=aA.mk (hbk_);replace HT:=aA.mk (hsz_);clear hw_ hkp hge_ hbn_ hbk_ hsz_;have:=bs4 BK1.out;have:=bs4 BK2.out)|((with_reducible refine bN (t:=25) (p:=2) rfl ?_);refine bL (t:=25) (p:=2) (v:=?vo_w5) (w1:=((((w4.setCell ⟨gb2,0,none⟩ (.slice A0_0 l0_0.length c0_0)).setCell ⟨gb2,1,none⟩ (.slice A0_1 l0_1.length c0_1)).setCell ⟨gb2,2,none⟩ (.int .i64 ((-1)))).setCell ⟨gb2,3,none⟩ (.bool true))) ?hg ?ho ?hn ?hr ?_;(case ho=>rfl);(case hg=>rfl);(case hn=>rfl);(case hr=>exact tE);intro w5 hw_;have hkp:Kept w4 w5 (fun k_=>k_ = gb2):=(by rw [hw_];exact Kept.setCell (Kept.setCell (Kept.setCell (Kept.setCell (Kept.refl w4 (fun k_=>k_ = gb2)) (.inl rfl) (.slice A0_0 l0_0.length c0_0)) (.inl rfl) (.slice A0_1 l0_1.length c0_1)) (.inl rfl) (.int .i64 ((-1)))) (.inl rfl) (.bool true));have hge_:w.heap.size ≤ gb2:=tL;have hbn_:Below w.heap.size w w5:=tU;have hbk_:w5.heap[gb2]? = some (.cells #[.slice A0_0 l0_0.length c0_0,.slice A0_1 l0_1.length c0_1,.int .i64 ((-1)),.bool true] 25 (0,0)):=(by rw [hw_];exact aQ (cs:=#[.slice A0_0 l0_0.length c0_0,.slice A0_1 l0_1.length c0_1,.int .i64 ((-1)),.bool false]) (cs':=#[.slice A0_0 l0_0.length c0_0,.slice A0_1 l0_1.length c0_1,.int .i64 ((-1)),.bool true]) (aQ (cs:=#[.slice A0_0 l0_0.length c0_0,.slice A0_1 l0_1.length c0_1,.int .i64 0,.bool false]) (cs':=#[.slice A0_0 l0_0.length c0_0,.slice A0_1 l0_1.length c0_1,.int .i64 ((-1)),.bool false]) (aQ (cs:=#[.slice A0_0 l0_0.length c0_0,.slice none 0 0,.int .i64 0,.bool false]) (cs':=#[.slice A0_0 l0_0.length c0_0,.slice A0_1 l0_1.length c0_1,.int .i64 0,.bool false]) (aQ (cs:=#[.slice none 0 0,.slice none 0 0,.int .i64 0,.bool false]) (cs':=#[.slice A0_0 l0_0.length c0_0,.slice none 0 0,.int .i64 0,.bool false]) (BK2.out) 0 _ rfl) 1 _ rfl) 2 _ rfl) 3 _ rfl);have hsz_:(gb2 + 1) ≤ w5.heap.size:=Nat.le_trans HT.out hkp.1;replace BK1:=aA.mk (aY BK1.out hkp tB);replace HB:=aA.mk (hbn_);replace BK2:=aA.mk (hbk_);replace HT:=aA.mk (hsz_);clear hw_ hkp hge_ hbn_ hbk_ hsz_;have:=bs4 BK1.out;have:=bs4 BK2.out))
 refine bodyPost_ret (results_ct rfl _ _ gb2 25 #[.slice A0_0 l0_0.length c0_0,.slice A0_1 l0_1.length c0_1,.int .i64 ((-1)),.bool true] (0,0) _ rfl BK2.out Try.underlying25 rfl tG) rfl ?_
 exact ⟨rfl,HB.out⟩
set_option maxHeartbeats 8000000 in
set_option maxRecDepth 100000 in
theorem walk_burn1 (A0_0:Option Addr) (c0_0:Nat) (l0_0:List (List (Int))) (A0_1:Option Addr) (c0_1:Nat) (l0_1:List (S50)) (a0_2:Int) (a0_3:Bool) (w:World) (hp0:0 < a0_2) :
  Calls Try.prog 59 #[.agg #[.slice A0_0 l0_0.length c0_0,.slice A0_1 l0_1.length c0_1,.int .i64 a0_2,.bool a0_3]] w fun e w'=>e = .returned (.tuple #[.agg #[.slice A0_0 l0_0.length c0_0,.slice A0_1 l0_1.length c0_1,.int .i64 (wrap64 (a0_2 - 1)),.bool a0_3],.bool true]) ∧ Below w.heap.size w w':=by
 have hu25:=Try.underlying25
 have HB:=aA.mk (Below.refl w.heap.size w)
 have HORD:=aA.mk (Nat.le_refl w.heap.size)
 have HT:=aA.mk (Nat.le_refl w.heap.size)
 have d1_:(a0_2 == 0) = false:=beq_eq_false_iff_ne.mpr tZ
 have d2_:decide (0 < a0_2) = true:=decide_eq_true hp0
 go_enter Try.func59,Try.ntmps59
 go_wp2_with (first|((with_reducible refine bC (N:=1) rfl ?_);refine bD ?hg (N:=1) ?hd (cs:=#[.slice A0_0 l0_0.length c0_0,.slice A0_1 l0_1.length c0_1,.int .i64 a0_2,.bool a0_3]) (t:=25) ?hr ?_;(case hd=>rfl);(case hg=>rfl);(case hr=>exact tE);intro gb1 hg_ w1 hbox hb;have hge_:w.heap.size ≤ gb1:=tk;have hlt_:gb1 + 1 ≤ w1.heap.size:=bJ hbox;replace HB:=aA.mk (aT HB.out hb);replace BK1:=aA.mk (hbox);replace HORD:=aA.mk (And.intro HORD.out (And.intro hge_ (Nat.le_succ gb1)));replace HT:=aA.mk (hlt_);clear hb hbox hg_ hge_ hlt_;have:=bs4 BK1.out)|((with_reducible refine bC (N:=2) rfl ?_);refine bD ?hg (N:=2) ?hd (cs:=#[.slice none 0 0,.slice none 0 0,.int .i64 0,.bool false]) (t:=25) ?hr ?_;(case hd=>rfl);(case hg=>rfl);(case hr=>exact tE);intro gb2 hg_ w2 hbox hb;have hge_:(gb1 + 1) ≤ gb2:=tk;have hlt_:gb2 + 1 ≤ w2.heap.size:=bJ hbox;replace BK1:=nB BK1;replace HB:=aA.mk (aT HB.out hb);replace BK2:=aA.mk (hbox);replace HORD:=aA.mk (And.intro HORD.out (And.intro hge_ (Nat.le_succ gb2)));replace HT:=aA.mk (hlt_);clear hb hbox hg_ hge_ hlt_;have:=bs4 BK1.out;have:=bs4 BK2.out)|((with_reducible refine bN (t:=3) (p:=16) rfl ?_);refine bL (t:=3) (p:=16) (v:=?vo_w3) (w1:=(w2.setCell ⟨gb1,2,none⟩ (.int .i64 ((wrap64 (a0_2 - 1)))))) ?hg ?ho ?hn ?hr ?_;(case ho=>rfl);(case hg=>rfl);(case hn=>rfl);(case hr=>exact tE);intro w3 hw_;have hkp:Kept w2 w3 (fun k_=>k_ = gb1):=(by rw [hw_];exact Kept.setCell (Kept.refl w2 (fun k_=>k_ = gb1)) (.inl rfl) (.int .i64 ((wrap64 (a0_2 - 1)))));have hge_:w.heap.size ≤ gb1:=tL;have hbn_:Below w.heap.size w w3:=vu;have hbk_:w3.heap[gb1]? = some (.cells #[.slice A0_0 l0_0.length c0_0,.slice A0_1 l0_1.length c0_1,.int .i64 ((wrap64 (a0_2 - 1))),.bool a0_3] 25 (0,0)):=(by rw [hw_];exact aQ (cs:=#[.slice A0_0 l0_0.length c0_0,.slice A0_1 l0_1.length c0_1,.int .i64 a0_2,.bool a0_3]) (cs':=#[.slice A0_0 l0_0.length c0_0,.slice A0_1 l0_1.length c0_1,.int .i64 ((wrap64 (a0_2 - 1))),.bool a0_3]) (BK1.out) 2 _ rfl);have hsz_:(gb2 + 1) ≤ w3.heap.size:=Nat.le_trans HT.out hkp.1;replace BK2:=aA.mk (aY BK2.out hkp tB);replace HB:=aA.mk (hbn_);replace BK1:=aA.mk (hbk_);replace HT:=aA.mk (hsz_);clear hw_ hkp hge_ hbn_ hbk_ hsz_;have:=bs4 BK1.out;have:=bs4 BK2.out)|((with_reducible refine bN (t:=25) (p:=2) rfl ?_);refine bL (t:=25) (p:=2) (v:=?vo_w4) (w1:=((((w3.setCell ⟨gb2,0,none⟩ (.slice A0_0 l0_0.length c0_0)).setCell ⟨gb2,1,none⟩ (.slice A0_1 l0_1.length c0_1)).setCell ⟨gb2,2,none⟩ (.int .i64 ((wrap64 (a0_2 - 1))))).setCell ⟨gb2,3,none⟩ (.bool a0_3))) ?hg ?ho ?hn ?hr ?_;(case ho=>rfl);(case hg=>rfl);(case hn=>rfl);(case hr=>exact tE);intro w4 hw_;have hkp:Kept w3 w4 (fun k_=>k_ = gb2):=(by rw [hw_];exact Kept.setCell (Kept.setCell (Kept.setCell (Kept.setCell (Kept.refl w3 (fun k_=>k_ = gb2)) (.inl rfl) (.slice A0_0 l0_0.length c0_0)) (.inl rfl) (.slice A0_1 l0_1.length c0_1)) (.inl rfl) (.int .i64 ((wrap64 (a0_2 - 1))))) (.inl rfl) (.bool a0_3));have hge_:w.heap.size ≤ gb2:=tL;have hbn_:Below w.heap.size w w4:=tU;have hbk_:w4.heap[gb2]? = some (.cells #[.slice A0_0 l0_0.length c0_0,.slice A0_1 l0_1.length c0_1,.int .i64 ((wrap64 (a0_2 - 1))),.bool a0_3] 25 (0,0)):=(by rw [hw_];exact aQ (cs:=#[.slice A0_0 l0_0.length c0_0,.slice A0_1 l0_1.length c0_1,.int .i64 ((wrap64 (a0_2 - 1))),.bool false]) (cs':=#[.slice A0_0 l0_0.length c0_0,.slice A0_1 l0_1.length c0_1,.int .i64 ((wrap64 (a0_2 - 1))),.bool a0_3]) (aQ (cs:=#[.slice A0_0 l0_0.length c0_0,.slice A0_1 l0_1.length c0_1,.int .i64 0,.bool false]) (cs':=#[.slice A0_0 l0_0.length c0_0,.slice A0_1 l0_1.length c0_1,.int .i64 ((wrap64 (a0_2 - 1))),.bool false]) (aQ (cs:=#[.slice A0_0 l0_0.length c0_0,.slice none 0 0,.int .i64 0,.bool false]) (cs':=#[.slice A0_0 l0_0.length c0_0,.slice A0_1 l0_1.length c0_1,.int .i64 0,.bool false]) (aQ (cs:=#[.slice none 0 0,.slice none 0 0,.int .i64 0,.bool false]) (cs':=#[.slice A0_0 l0_0.length c0_0,.slice none 0 0,.int .i64 0,.bool false]) (BK2.out) 0 _ rfl) 1 _ rfl) 2 _ rfl) 3 _ rfl);have hsz_:(gb2 + 1) ≤ w4.heap.size:=Nat.le_trans HT.out hkp.1;replace BK1:=aA.mk (aY BK1.out hkp tB);replace HB:=aA.mk (hbn_);replace BK2:=aA.mk (hbk_);replace HT:=aA.mk (hsz_);clear hw_ hkp hge_ hbn_ hbk_ hsz_;have:=bs4 BK1.out;have:=bs4 BK2.out))
 refine bodyPost_ret (results_ct rfl _ _ gb2 25 #[.slice A0_0 l0_0.length c0_0,.slice A0_1 l0_1.length c0_1,.int .i64 ((wrap64 (a0_2 - 1))),.bool a0_3] (0,0) _ rfl BK2.out Try.underlying25 rfl tG) rfl ?_
 exact ⟨rfl,HB.out⟩
set_option maxHeartbeats 8000000 in
set_option maxRecDepth 100000 in
theorem walk_burn2 (A0_0:Option Addr) (c0_0:Nat) (l0_0:List (List (Int))) (A0_1:Option Addr) (c0_1:Nat) (l0_1:List (S50)) (a0_2:Int) (a0_3:Bool) (w:World) (hp0:a0_2 < 0) :
  Calls Try.prog 59 #[.agg #[.slice A0_0 l0_0.length c0_0,.slice A0_1 l0_1.length c0_1,.int .i64 a0_2,.bool a0_3]] w fun e w'=>e = .returned (.tuple #[.agg #[.slice A0_0 l0_0.length c0_0,.slice A0_1 l0_1.length c0_1,.int .i64 a0_2,.bool a0_3],.bool true]) ∧ Below w.heap.size w w':=by
 have hu25:=Try.underlying25
 have HB:=aA.mk (Below.refl w.heap.size w)
 have HORD:=aA.mk (Nat.le_refl w.heap.size)
 have HT:=aA.mk (Nat.le_refl w.heap.size)
 have d1_:(a0_2 == 0) = false:=beq_eq_false_iff_ne.mpr tZ
 have d2_:decide (0 < a0_2) = false:=decide_eq_false tZ
 go_enter Try.func59,Try.ntmps59
 go_wp2_with (first|((with_reducible refine bC (N:=1) rfl ?_);refine bD ?hg (N:=1) ?hd (cs:=#[.slice A0_0 l0_0.length c0_0,.slice A0_1 l0_1.length c0_1,.int .i64 a0_2,.bool a0_3]) (t:=25) ?hr ?_;(case hd=>rfl);(case hg=>rfl);(case hr=>exact tE);intro gb1 hg_ w1 hbox hb;have hge_:w.heap.size ≤ gb1:=tk;have hlt_:gb1 + 1 ≤ w1.heap.size:=bJ hbox;replace HB:=aA.mk (aT HB.out hb);replace BK1:=aA.mk (hbox);replace HORD:=aA.mk (And.intro HORD.out (And.intro hge_ (Nat.le_succ gb1)));replace HT:=aA.mk (hlt_);clear hb hbox hg_ hge_ hlt_;have:=bs4 BK1.out)|((with_reducible refine bC (N:=2) rfl ?_);refine bD ?hg (N:=2) ?hd (cs:=#[.slice none 0 0,.slice none 0 0,.int .i64 0,.bool false]) (t:=25) ?hr ?_;(case hd=>rfl);(case hg=>rfl);(case hr=>exact tE);intro gb2 hg_ w2 hbox hb;have hge_:(gb1 + 1) ≤ gb2:=tk;have hlt_:gb2 + 1 ≤ w2.heap.size:=bJ hbox;replace BK1:=nB BK1;replace HB:=aA.mk (aT HB.out hb);replace BK2:=aA.mk (hbox);replace HORD:=aA.mk (And.intro HORD.out (And.intro hge_ (Nat.le_succ gb2)));replace HT:=aA.mk (hlt_);clear hb hbox hg_ hge_ hlt_;have:=bs4 BK1.out;have:=bs4 BK2.out)|((with_reducible refine bN (t:=25) (p:=2) rfl ?_);refine bL (t:=25) (p:=2) (v:=?vo_w3) (w1:=((((w2.setCell ⟨gb2,0,none⟩ (.slice A0_0 l0_0.length c0_0)).setCell ⟨gb2,1,none⟩ (.slice A0_1 l0_1.length c0_1)).setCell ⟨gb2,2,none⟩ (.int .i64 a0_2)).setCell ⟨gb2,3,none⟩ (.bool a0_3))) ?hg ?ho ?hn ?hr ?_;(case ho=>rfl);(case hg=>rfl);(case hn=>rfl);(case hr=>exact tE);intro w3 hw_;have hkp:Kept w2 w3 (fun k_=>k_ = gb2):=(by rw [hw_];exact Kept.setCell (Kept.setCell (Kept.setCell (Kept.setCell (Kept.refl w2 (fun k_=>k_ = gb2)) (.inl rfl) (.slice A0_0 l0_0.length c0_0)) (.inl rfl) (.slice A0_1 l0_1.length c0_1)) (.inl rfl) (.int .i64 a0_2)) (.inl rfl) (.bool a0_3));have hge_:w.heap.size ≤ gb2:=tL;have hbn_:Below w.heap.size w w3:=tU;have hbk_:w3.heap[gb2]? = some (.cells #[.slice A0_0 l0_0.length c0_0,.slice A0_1 l0_1.length c0_1,.int .i64 a0_2,.bool a0_3] 25 (0,0)):=(by rw [hw_];exact aQ (cs:=#[.slice A0_0 l0_0.length c0_0,.slice A0_1 l0_1.length c0_1,.int .i64 a0_2,.bool false]) (cs':=#[.slice A0_0 l0_0.length c0_0,.slice A0_1 l0_1.length c0_1,.int .i64 a0_2,.bool a0_3]) (aQ (cs:=#[.slice A0_0 l0_0.length c0_0,.slice A0_1 l0_1.length c0_1,.int .i64 0,.bool false]) (cs':=#[.slice A0_0 l0_0.length c0_0,.slice A0_1 l0_1.length c0_1,.int .i64 a0_2,.bool false]) (aQ (cs:=#[.slice A0_0 l0_0.length c0_0,.slice none 0 0,.int .i64 0,.bool false]) (cs':=#[.slice A0_0 l0_0.length c0_0,.slice A0_1 l0_1.length c0_1,.int .i64 0,.bool false]) (aQ (cs:=#[.slice none 0 0,.slice none 0 0,.int .i64 0,.bool false]) (cs':=#[.slice A0_0 l0_0.length c0_0,.slice none 0 0,.int .i64 0,.bool false]) (BK2.out) 0 _ rfl) 1 _ rfl) 2 _ rfl) 3 _ rfl);have hsz_:(gb2 + 1) ≤ w3.heap.size:=Nat.le_trans HT.out hkp.1;replace BK1:=aA.mk (aY BK1.out hkp tB);replace HB:=aA.mk (hbn_);replace BK2:=aA.mk (hbk_);replace HT:=aA.mk (hsz_);clear hw_ hkp hge_ hbn_ hbk_ hsz_;have:=bs4 BK1.out;have:=bs4 BK2.out))
 refine bodyPost_ret (results_ct rfl _ _ gb2 25 #[.slice A0_0 l0_0.length c0_0,.slice A0_1 l0_1.length c0_1,.int .i64 a0_2,.bool a0_3] (0,0) _ rfl BK2.out Try.underlying25 rfl tG) rfl ?_
 exact ⟨rfl,HB.out⟩
def impl_burnS.f (a0_2:Int) (a0_3:Bool):Option (Int × Bool × Bool):=some (burnF a0_2 a0_3)
theorem impl_burnS.calls (A0_0:Option Addr) (c0_0:Nat) (l0_0:List (List Int)) (A0_1:Option Addr) (c0_1:Nat) (l0_1:List (S50)) (a0_2:Int) (a0_3:Bool) (r1:Int) (r2:Bool) (r3:Bool) (w:World) (h:impl_burnS.f a0_2 a0_3 = some (r1,r2,r3)) :
  Calls Try.prog 59 #[.agg #[.slice A0_0 l0_0.length c0_0,.slice A0_1 l0_1.length c0_1,.int .i64 a0_2,.bool a0_3]] w fun e w'=>e = .returned (.tuple #[.agg #[.slice A0_0 l0_0.length c0_0,.slice A0_1 l0_1.length c0_1,.int .i64 r1,.bool r2],.bool r3]) ∧ Below w.heap.size w w':=by
 unfold impl_burnS.f burnF at h
 replace h:=Option.some.inj h
 by_cases h0:a0_2 = 0
 ·rw [if_pos h0] at h
  subst h0
  simp only [Prod.mk.injEq] at h
  obtain ⟨rfl,rfl,rfl⟩:=h
  exact walk_burn0 _ _ _ _ _ _ _ w
 ·rw [if_neg h0] at h
  by_cases h1:0 < a0_2
  ·rw [if_pos h1] at h
   simp only [Prod.mk.injEq] at h
   obtain ⟨rfl,rfl,rfl⟩:=h
   exact walk_burn1 _ _ _ _ _ _ _ _ w h1
  ·rw [if_neg h1] at h
   simp only [Prod.mk.injEq] at h
   obtain ⟨rfl,rfl,rfl⟩:=h
   exact walk_burn2 _ _ _ _ _ _ _ _ w tZ
end Go.Proofs.Ytilhcaofpfeioaa.Law

namespace Go.Proofs.Ytilhcaofpfeioaa.Law
open Go.RowKit Go.Proofs.Ytilhcaofpfeioaa.PFnDevsBent Go.Proofs.Ytilhcaofpfeioaa.Core Go.Proofs.YtilhcaofpfeioaaW.PrintWords Go.Proofs.YtilhcaofpfeioaaW.PrintLast Go.Proofs.YtilhcaofpfeioaaW.PrintMore Go.Proofs.Ytilhcaofpfeioaa.Pure
set_option linter.unusedSimpArgs false
set_option linter.unusedVariables false
set_option maxHeartbeats 8000000 in
set_option maxRecDepth 100000 in
theorem walk_WriteSec1 (A0_0:Option Addr) (c0_0:Nat) (l0_0:List (List (Int))) (A0_1:Option Addr) (c0_1:Nat) (l0_1:List (S50)) (a0_2:Int) (a0_3:Bool) (a1:Int) (A2:Option Addr) (c2:Nat) (l2:List (Int)) (w:World) (hf0_0:Kd.F (Kd.slice 5 (Kd.int .u8)) w (In 0 w.heap.size) A0_0 l0_0.length l0_0) (hc0_0:l0_0.length ≤ c0_0) (hf0_1:Kd.F k50 w (In 0 w.heap.size) A0_1 l0_1.length l0_1) (hc0_1:l0_1.length ≤ c0_1) (hf2:Kd.F (Kd.int .u8) w (In 0 w.heap.size) A2 l2.length l2) (hc2:l2.length ≤ c2) (hok0:okByteSS l0_0) (hok1:okWrS l0_1) (hdo:devOkB l0_0 l0_1 a0_2 = false) :
  Calls Try.prog 28 #[.agg #[.slice A0_0 l0_0.length c0_0,.slice A0_1 l0_1.length c0_1,.int .i64 a0_2,.bool a0_3],.int .i64 a1,.slice A2 l2.length c2] w fun e w'=>∃ v0_ v1_:Value,∃ m_:Nat,e = .returned (.agg #[v0_,v1_,.int .i64 a0_2,.bool a0_3]) ∧ w.heap.size ≤ m_ ∧ m_ ≤ w'.heap.size ∧ Kd.S (Kd.slice 5 (Kd.int .u8)) 37 w' w.heap.size (In w.heap.size m_) v0_ l0_0 ∧ Kd.S k50 50 w' w.heap.size (In m_ w'.heap.size) v1_ l0_1 ∧ Below w.heap.size w w':=by
 have hu25:=Try.underlying25
 have hu50:=Try.underlying50
 have HF0_0:=aA.mk hf0_0
 have HC0_0:=aA.mk hc0_0
 clear hf0_0 hc0_0
 have HF0_1:=aA.mk hf0_1
 have HC0_1:=aA.mk hc0_1
 clear hf0_1 hc0_1
 have HF2:=aA.mk hf2
 have HC2:=aA.mk hc2
 clear hf2 hc2
 have HB:=aA.mk (Below.refl w.heap.size w)
 have HORD:=aA.mk (Nat.le_refl w.heap.size)
 have HT:=aA.mk (Nat.le_refl w.heap.size)
 have JC:=aA.mk (copyDevS_f hok0 hok1 a0_2 a0_3)
 obtain ⟨kd,hd0_⟩:=evGet (impl_DevOk_ev l0_0 l0_1 a0_2 a0_3 hok0 hok1)
 rw [hdo] at hd0_
 have JD:=aA.mk hd0_
 clear hd0_
 go_enter Try.func28,Try.ntmps28
 go_wp2_with (first|((with_reducible refine bC (N:=3) rfl ?_);refine bD ?hg (N:=3) ?hd (cs:=#[.slice A0_0 l0_0.length c0_0,.slice A0_1 l0_1.length c0_1,.int .i64 a0_2,.bool a0_3]) (t:=25) ?hr ?_;(case hd=>rfl);(case hg=>rfl);(case hr=>exact tE);intro gb1 hg_ w1 hbox hb;have hge_:w.heap.size ≤ gb1:=tk;have hlt_:gb1 + 1 ≤ w1.heap.size:=bJ hbox;replace HF0_0:=nF HF0_0;replace HF0_1:=nF HF0_1;replace HF2:=nF HF2;replace HB:=aA.mk (aT HB.out hb);replace BK1:=aA.mk (hbox);replace HORD:=aA.mk (And.intro HORD.out (And.intro hge_ (Nat.le_succ gb1)));replace HT:=aA.mk (hlt_);clear hb hbox hg_ hge_ hlt_;have:=bs4 BK1.out)|((with_reducible refine bC (N:=6) rfl ?_);refine bD ?hg (N:=6) ?hd (cs:=#[.slice none 0 0,.slice none 0 0,.int .i64 0,.bool false]) (t:=25) ?hr ?_;(case hd=>rfl);(case hg=>rfl);(case hr=>exact tE);intro gb2 hg_ w2 hbox hb;have hge_:(gb1 + 1) ≤ gb2:=tk;have hlt_:gb2 + 1 ≤ w2.heap.size:=bJ hbox;replace HF0_0:=nF HF0_0;replace HF0_1:=nF HF0_1;replace HF2:=nF HF2;replace BK1:=nB BK1;replace HB:=aA.mk (aT HB.out hb);replace BK2:=aA.mk (hbox);replace HORD:=aA.mk (And.intro HORD.out (And.intro hge_ (Nat.le_succ gb2)));replace HT:=aA.mk (hlt_);clear hb hbox hg_ hge_ hlt_;have:=bs4 BK1.out;have:=bs4 BK2.out)|((with_reducible refine aW (f:=58) rfl ?_);refine bK (some 10) rfl rfl Try.func58 tG rfl #[.agg #[.slice A0_0 l0_0.length c0_0,.slice A0_1 l0_1.length c0_1,.int .i64 a0_2,.bool a0_3]] rfl tC ?_;(with_reducible refine (impl_copyDevS.calls (In 0 w.heap.size) _ _ l0_0 (In 0 w.heap.size) _ _ l0_1 a0_2 a0_3 l0_0 l0_1 a0_2 a0_3 _ ?s1 ?s2 JC.out).mono ?_);(case s1=>exact wQ);(case s2=>exact wP);rintro e_ w3 ⟨v0_,v1_,mm3,rfl,hm1_,hm2_,ho0,ho1,hb⟩;refine ⟨_,rfl,?_⟩;obtain ⟨lo3,hi3,el_,eh_,ol_,oh_⟩:=Mem.times HT.out hb;rw [← el_] at hm1_;rw [← eh_] at hm2_;rw [← el_] at ho0;obtain ⟨A3_0,c3_0,ev_,hc0_,hf0_,hs0_⟩:=new_SI2 ho0;subst ev_;rw [← eh_] at ho1;(try rw [← el_] at ho1);obtain ⟨A3_1,c3_1,ev_,hc1_,hf1_,hs1_⟩:=new_SI2 ho1;subst ev_;replace HF0_0:=nF HF0_0;replace HF0_1:=nF HF0_1;replace HF2:=nF HF2;replace BK1:=nB BK1;replace BK2:=nB BK2;replace HB:=aA.mk (aT HB.out hb);replace HF3_0:=aA.mk (hf0_);replace HC3_0:=aA.mk (hc0_);replace HS3_0:=aA.mk (hs0_);replace HF3_1:=aA.mk (hf1_);replace HC3_1:=aA.mk (hc1_);replace HS3_1:=aA.mk (hs1_);replace HORD:=aA.mk (And.intro HORD.out (And.intro ol_ (And.intro hm1_ hm2_)));replace HT:=aA.mk (Nat.le_of_eq eh_);clear hm1_ hm2_;clear ol_ oh_ el_ eh_ ho0 hf0_ hc0_ hs0_ ho1 hf1_ hc1_ hs1_;(try clear hb);have:=bs4 BK1.out;have:=bs4 BK2.out)|((with_reducible refine bC (N:=7) rfl ?_);refine bD ?hg (N:=7) ?hd (cs:=#[.slice none 0 0,.slice none 0 0,.int .i64 0,.bool false]) (t:=25) ?hr ?_;(case hd=>rfl);(case hg=>rfl);(case hr=>exact tE);intro gb4 hg_ w4 hbox hb;have hge_:hi3 ≤ gb4:=tk;have hlt_:gb4 + 1 ≤ w4.heap.size:=bJ hbox;replace HF0_0:=nF HF0_0;replace HF0_1:=nF HF0_1;replace HF2:=nF HF2;replace HF3_0:=nF HF3_0;replace HS3_0:=nS HS3_0;replace HF3_1:=nF HF3_1;replace HS3_1:=nS HS3_1;replace BK1:=nB BK1;replace BK2:=nB BK2;replace HB:=aA.mk (aT HB.out hb);replace BK4:=aA.mk (hbox);replace HORD:=aA.mk (And.intro HORD.out (And.intro hge_ (Nat.le_succ gb4)));replace HT:=aA.mk (hlt_);clear hb hbox hg_ hge_ hlt_;have:=bs4 BK1.out;have:=bs4 BK2.out;have:=bs4 BK4.out)|((with_reducible refine bN (t:=25) (p:=7) rfl ?_);refine bL (t:=25) (p:=7) (v:=?vo_w5) (w1:=((((w4.setCell ⟨gb4,0,none⟩ (.slice A3_0 l0_0.length c3_0)).setCell ⟨gb4,1,none⟩ (.slice A3_1 l0_1.length c3_1)).setCell ⟨gb4,2,none⟩ (.int .i64 a0_2)).setCell ⟨gb4,3,none⟩ (.bool a0_3))) ?hg ?ho ?hn ?hr ?_;(case ho=>rfl);(case hg=>rfl);(case hn=>rfl);(case hr=>exact tE);intro w5 hw_;have hkp:Kept w4 w5 (fun k_=>k_ = gb4):=tj;have hge_:w.heap.size ≤ gb4:=tL;have hbn_:Below w.heap.size w w5:=tU;have hbk_:w5.heap[gb4]? = some (.cells #[.slice A3_0 l0_0.length c3_0,.slice A3_1 l0_1.length c3_1,.int .i64 a0_2,.bool a0_3] 25 (0,0)):=tF;have hsz_:(gb4 + 1) ≤ w5.heap.size:=Nat.le_trans HT.out hkp.1;replace HF0_0:=aA.mk (Kd.aU HF0_0.out hkp tA);replace HF0_1:=aA.mk (Kd.aU HF0_1.out hkp tA);replace HF2:=aA.mk (Kd.aU HF2.out hkp tA);replace HF3_0:=aA.mk (Kd.aU HF3_0.out hkp tA);replace HS3_0:=aA.mk (Kd.bP HS3_0.out hkp tA);replace HF3_1:=aA.mk (Kd.aU HF3_1.out hkp tA);replace HS3_1:=aA.mk (Kd.bP HS3_1.out hkp tA);replace BK1:=aA.mk (aY BK1.out hkp tB);replace BK2:=aA.mk (aY BK2.out hkp tB);replace HB:=aA.mk (hbn_);replace BK4:=aA.mk (hbk_);replace HT:=aA.mk (hsz_);clear hw_ hkp hge_ hbn_ hbk_ hsz_;have:=bs4 BK1.out;have:=bs4 BK2.out;have:=bs4 BK4.out)|((with_reducible refine aW (f:=20) rfl ?_);refine bK (some 12) rfl rfl Try.func20 tG rfl #[.agg #[.slice A0_0 l0_0.length c0_0,.slice A0_1 l0_1.length c0_1,.int .i64 a0_2,.bool a0_3]] rfl tC ?_;(with_reducible refine (impl_DevOk.calls kd _ _ l0_0 _ _ l0_1 a0_2 a0_3 false _ ?s1 ?s2 ?s3 ?s4 JD.out).mono ?_);(case s1=>exact wn);(case s2=>exact Ay);(case s3=>exact wm);(case s4=>exact Ax);rintro e_ w6 ⟨rfl,hb⟩;refine ⟨_,rfl,?_⟩;replace HF0_0:=nF HF0_0;replace HF0_1:=nF HF0_1;replace HF2:=nF HF2;replace HF3_0:=nF HF3_0;replace HS3_0:=nS HS3_0;replace HF3_1:=nF HF3_1;replace HS3_1:=nS HS3_1;replace BK1:=nB BK1;replace BK2:=nB BK2;replace BK4:=nB BK4;replace HB:=aA.mk (aT HB.out hb);replace HT:=aA.mk (Nat.le_trans HT.out hb.size);(try clear hb);have:=bs4 BK1.out;have:=bs4 BK2.out;have:=bs4 BK4.out)|((with_reducible refine bN (t:=25) (p:=6) rfl ?_);refine bL (t:=25) (p:=6) (v:=?vo_w7) (w1:=((((w6.setCell ⟨gb2,0,none⟩ (.slice A3_0 l0_0.length c3_0)).setCell ⟨gb2,1,none⟩ (.slice A3_1 l0_1.length c3_1)).setCell ⟨gb2,2,none⟩ (.int .i64 a0_2)).setCell ⟨gb2,3,none⟩ (.bool a0_3))) ?hg ?ho ?hn ?hr ?_;(case ho=>rfl);(case hg=>rfl);(case hn=>rfl);(case hr=>exact tE);intro w7 hw_;have hkp:Kept w6 w7 (fun k_=>k_ = gb2):=vJ;have hge_:w.heap.size ≤ gb2:=tL;have hbn_:Below w.heap.size w w7:=tU;have hbk_:w7.heap[gb2]? = some (.cells #[.slice A3_0 l0_0.length c3_0,.slice A3_1 l0_1.length c3_1,.int .i64 a0_2,.bool a0_3] 25 (0,0)):=tW;have hsz_:(gb4 + 1) ≤ w7.heap.size:=Nat.le_trans HT.out hkp.1;replace HF0_0:=aA.mk (Kd.aU HF0_0.out hkp tA);replace HF0_1:=aA.mk (Kd.aU HF0_1.out hkp tA);replace HF2:=aA.mk (Kd.aU HF2.out hkp tA);replace HF3_0:=aA.mk (Kd.aU HF3_0.out hkp tA);replace HS3_0:=aA.mk (Kd.bP HS3_0.out hkp tA);replace HF3_1:=aA.mk (Kd.aU HF3_1.out hkp tA);replace HS3_1:=aA.mk (Kd.bP HS3_1.out hkp tA);replace BK1:=aA.mk (aY BK1.out hkp tB);replace BK4:=aA.mk (aY BK4.out hkp tB);replace HB:=aA.mk (hbn_);replace BK2:=aA.mk (hbk_);replace HT:=aA.mk (hsz_);clear hw_ hkp hge_ hbn_ hbk_ hsz_;have:=bs4 BK1.out;have:=bs4 BK2.out;have:=bs4 BK4.out))
 refine bodyPost_ret (fn:=Try.f28) (P:=Try.prog) (results_cell_row rfl _ _ gb2 25 #[.slice A3_0 l0_0.length c3_0,.slice A3_1 l0_1.length c3_1,.int .i64 a0_2,.bool a0_3] (0,0) _ rfl BK2.out Try.underlying25 rfl tG) rfl ?_
 first|exact ⟨_,_,mm3,rfl,tH,tH,Kd.bU (Kd.bZ HS3_0.out tH) tJ,Kd.bU (Kd.bZ HS3_1.out tH) tJ,HB.out⟩|exact ⟨_,_,rfl,mm3,tH,tH,Kd.bU (Kd.bZ HS3_0.out tH) tJ,Kd.bU (Kd.bZ HS3_1.out tH) tJ,HB.out⟩
set_option maxHeartbeats 8000000 in
set_option maxRecDepth 100000 in
theorem walk_WriteSec2 (A0_0:Option Addr) (c0_0:Nat) (l0_0:List (List (Int))) (A0_1:Option Addr) (c0_1:Nat) (l0_1:List (S50)) (a0_2:Int) (a1:Int) (A2:Option Addr) (c2:Nat) (l2:List (Int)) (w:World) (hf0_0:Kd.F (Kd.slice 5 (Kd.int .u8)) w (In 0 w.heap.size) A0_0 l0_0.length l0_0) (hc0_0:l0_0.length ≤ c0_0) (hf0_1:Kd.F k50 w (In 0 w.heap.size) A0_1 l0_1.length l0_1) (hc0_1:l0_1.length ≤ c0_1) (hf2:Kd.F (Kd.int .u8) w (In 0 w.heap.size) A2 l2.length l2) (hc2:l2.length ≤ c2) (hok0:okByteSS l0_0) (hok1:okWrS l0_1) (hdo:devOkB l0_0 l0_1 a0_2 = true) :
  Calls Try.prog 28 #[.agg #[.slice A0_0 l0_0.length c0_0,.slice A0_1 l0_1.length c0_1,.int .i64 a0_2,.bool true],.int .i64 a1,.slice A2 l2.length c2] w fun e w'=>∃ v0_ v1_:Value,∃ m_:Nat,e = .returned (.agg #[v0_,v1_,.int .i64 a0_2,.bool true]) ∧ w.heap.size ≤ m_ ∧ m_ ≤ w'.heap.size ∧ Kd.S (Kd.slice 5 (Kd.int .u8)) 37 w' w.heap.size (In w.heap.size m_) v0_ l0_0 ∧ Kd.S k50 50 w' w.heap.size (In m_ w'.heap.size) v1_ l0_1 ∧ Below w.heap.size w w':=by
 have hu25:=Try.underlying25
 have hu50:=Try.underlying50
 have HF0_0:=aA.mk hf0_0
 have HC0_0:=aA.mk hc0_0
 clear hf0_0 hc0_0
 have HF0_1:=aA.mk hf0_1
 have HC0_1:=aA.mk hc0_1
 clear hf0_1 hc0_1
 have HF2:=aA.mk hf2
 have HC2:=aA.mk hc2
 clear hf2 hc2
 have HB:=aA.mk (Below.refl w.heap.size w)
 have HORD:=aA.mk (Nat.le_refl w.heap.size)
 have HT:=aA.mk (Nat.le_refl w.heap.size)
 have JC:=aA.mk (copyDevS_f hok0 hok1 a0_2 true)
 obtain ⟨kd,hd0_⟩:=evGet (impl_DevOk_ev l0_0 l0_1 a0_2 true hok0 hok1)
 rw [hdo] at hd0_
 have JD:=aA.mk hd0_
 clear hd0_
 go_enter Try.func28,Try.ntmps28
 go_wp2_with (first|((with_reducible refine bC (N:=3) rfl ?_);refine bD ?hg (N:=3) ?hd (cs:=#[.slice A0_0 l0_0.length c0_0,.slice A0_1 l0_1.length c0_1,.int .i64 a0_2,.bool true]) (t:=25) ?hr ?_;(case hd=>rfl);(case hg=>rfl);(case hr=>exact tE);intro gb1 hg_ w1 hbox hb;have hge_:w.heap.size ≤ gb1:=tk;have hlt_:gb1 + 1 ≤ w1.heap.size:=bJ hbox;replace HF0_0:=nF HF0_0;replace HF0_1:=nF HF0_1;replace HF2:=nF HF2;replace HB:=aA.mk (aT HB.out hb);replace BK1:=aA.mk (hbox);replace HORD:=aA.mk (And.intro HORD.out (And.intro hge_ (Nat.le_succ gb1)));replace HT:=aA.mk (hlt_);clear hb hbox hg_ hge_ hlt_;have:=bs4 BK1.out)|((with_reducible refine bC (N:=6) rfl ?_);refine bD ?hg (N:=6) ?hd (cs:=#[.slice none 0 0,.slice none 0 0,.int .i64 0,.bool false]) (t:=25) ?hr ?_;(case hd=>rfl);(case hg=>rfl);(case hr=>exact tE);intro gb2 hg_ w2 hbox hb;have hge_:(gb1 + 1) ≤ gb2:=tk;have hlt_:gb2 + 1 ≤ w2.heap.size:=bJ hbox;replace HF0_0:=nF HF0_0;replace HF0_1:=nF HF0_1;replace HF2:=nF HF2;replace BK1:=nB BK1;replace HB:=aA.mk (aT HB.out hb);replace BK2:=aA.mk (hbox);replace HORD:=aA.mk (And.intro HORD.out (And.intro hge_ (Nat.le_succ gb2)));replace HT:=aA.mk (hlt_);clear hb hbox hg_ hge_ hlt_;have:=bs4 BK1.out;have:=bs4 BK2.out)|((with_reducible refine aW (f:=58) rfl ?_);refine bK (some 10) rfl rfl Try.func58 tG rfl #[.agg #[.slice A0_0 l0_0.length c0_0,.slice A0_1 l0_1.length c0_1,.int .i64 a0_2,.bool true]] rfl tC ?_;(with_reducible refine (impl_copyDevS.calls (In 0 w.heap.size) _ _ l0_0 (In 0 w.heap.size) _ _ l0_1 a0_2 true l0_0 l0_1 a0_2 true _ ?s1 ?s2 JC.out).mono ?_);(case s1=>exact wQ);(case s2=>exact wP);rintro e_ w3 ⟨v0_,v1_,mm3,rfl,hm1_,hm2_,ho0,ho1,hb⟩;refine ⟨_,rfl,?_⟩;obtain ⟨lo3,hi3,el_,eh_,ol_,oh_⟩:=Mem.times HT.out hb;rw [← el_] at hm1_;rw [← eh_] at hm2_;rw [← el_] at ho0;obtain ⟨A3_0,c3_0,ev_,hc0_,hf0_,hs0_⟩:=new_SI2 ho0;subst ev_;rw [← eh_] at ho1;(try rw [← el_] at ho1);obtain ⟨A3_1,c3_1,ev_,hc1_,hf1_,hs1_⟩:=new_SI2 ho1;subst ev_;replace HF0_0:=nF HF0_0;replace HF0_1:=nF HF0_1;replace HF2:=nF HF2;replace BK1:=nB BK1;replace BK2:=nB BK2;replace HB:=aA.mk (aT HB.out hb);replace HF3_0:=aA.mk (hf0_);replace HC3_0:=aA.mk (hc0_);replace HS3_0:=aA.mk (hs0_);replace HF3_1:=aA.mk (hf1_);replace HC3_1:=aA.mk (hc1_);replace HS3_1:=aA.mk (hs1_);replace HORD:=aA.mk (And.intro HORD.out (And.intro ol_ (And.intro hm1_ hm2_)));replace HT:=aA.mk (Nat.le_of_eq eh_);clear hm1_ hm2_;clear ol_ oh_ el_ eh_ ho0 hf0_ hc0_ hs0_ ho1 hf1_ hc1_ hs1_;(try clear hb);have:=bs4 BK1.out;have:=bs4 BK2.out)|((with_reducible refine bC (N:=7) rfl ?_);refine bD ?hg (N:=7) ?hd (cs:=#[.slice none 0 0,.slice none 0 0,.int .i64 0,.bool false]) (t:=25) ?hr ?_;(case hd=>rfl);(case hg=>rfl);(case hr=>exact tE);intro gb4 hg_ w4 hbox hb;have hge_:hi3 ≤ gb4:=tk;have hlt_:gb4 + 1 ≤ w4.heap.size:=bJ hbox;replace HF0_0:=nF HF0_0;replace HF0_1:=nF HF0_1;replace HF2:=nF HF2;replace HF3_0:=nF HF3_0;replace HS3_0:=nS HS3_0;replace HF3_1:=nF HF3_1;replace HS3_1:=nS HS3_1;replace BK1:=nB BK1;replace BK2:=nB BK2;replace HB:=aA.mk (aT HB.out hb);replace BK4:=aA.mk (hbox);replace HORD:=aA.mk (And.intro HORD.out (And.intro hge_ (Nat.le_succ gb4)));replace HT:=aA.mk (hlt_);clear hb hbox hg_ hge_ hlt_;have:=bs4 BK1.out;have:=bs4 BK2.out;have:=bs4 BK4.out)|((with_reducible refine bN (t:=25) (p:=7) rfl ?_);refine bL (t:=25) (p:=7) (v:=?vo_w5) (w1:=((((w4.setCell ⟨gb4,0,none⟩ (.slice A3_0 l0_0.length c3_0)).setCell ⟨gb4,1,none⟩ (.slice A3_1 l0_1.length c3_1)).setCell ⟨gb4,2,none⟩ (.int .i64 a0_2)).setCell ⟨gb4,3,none⟩ (.bool true))) ?hg ?ho ?hn ?hr ?_;(case ho=>rfl);(case hg=>rfl);(case hn=>rfl);(case hr=>exact tE);intro w5 hw_;have hkp:Kept w4 w5 (fun k_=>k_ = gb4):=AF;have hge_:w.heap.size ≤ gb4:=tL;have hbn_:Below w.heap.size w w5:=tU;have hbk_:w5.heap[gb4]? = some (.cells #[.slice A3_0 l0_0.length c3_0,.slice A3_1 l0_1.length c3_1,.int .i64 a0_2,.bool true] 25 (0,0)):=vT;have hsz_:(gb4 + 1) ≤ w5.heap.size:=Nat.le_trans HT.out hkp.1;replace HF0_0:=aA.mk (Kd.aU HF0_0.out hkp tA);replace HF0_1:=aA.mk (Kd.aU HF0_1.out hkp tA);replace HF2:=aA.mk (Kd.aU HF2.out hkp tA);replace HF3_0:=aA.mk (Kd.aU HF3_0.out hkp tA);replace HS3_0:=aA.mk (Kd.bP HS3_0.out hkp tA);replace HF3_1:=aA.mk (Kd.aU HF3_1.out hkp tA);replace HS3_1:=aA.mk (Kd.bP HS3_1.out hkp tA);replace BK1:=aA.mk (aY BK1.out hkp tB);replace BK2:=aA.mk (aY BK2.out hkp tB);replace HB:=aA.mk (hbn_);replace BK4:=aA.mk (hbk_);replace HT:=aA.mk (hsz_);clear hw_ hkp hge_ hbn_ hbk_ hsz_;have:=bs4 BK1.out;have:=bs4 BK2.out;have:=bs4 BK4.out)|((with_reducible refine aW (f:=20) rfl ?_);refine bK (some 12) rfl rfl Try.func20 tG rfl #[.agg #[.slice A0_0 l0_0.length c0_0,.slice A0_1 l0_1.length c0_1,.int .i64 a0_2,.bool true]] rfl tC ?_;(with_reducible refine (impl_DevOk.calls kd _ _ l0_0 _ _ l0_1 a0_2 true true _ ?s1 ?s2 ?s3 ?s4 JD.out).mono ?_);(case s1=>exact wn);(case s2=>exact Ay);(case s3=>exact wm);(case s4=>exact Ax);rintro e_ w6 ⟨rfl,hb⟩;refine ⟨_,rfl,?_⟩;replace HF0_0:=nF HF0_0;replace HF0_1:=nF HF0_1;replace HF2:=nF HF2;replace HF3_0:=nF HF3_0;replace HS3_0:=nS HS3_0;replace HF3_1:=nF HF3_1;replace HS3_1:=nS HS3_1;replace BK1:=nB BK1;replace BK2:=nB BK2;replace BK4:=nB BK4;replace HB:=aA.mk (aT HB.out hb);replace HT:=aA.mk (Nat.le_trans HT.out hb.size);(try clear hb);have:=bs4 BK1.out;have:=bs4 BK2.out;have:=bs4 BK4.out)|((with_reducible refine bN (t:=25) (p:=6) rfl ?_);refine bL (t:=25) (p:=6) (v:=?vo_w7) (w1:=((((w6.setCell ⟨gb2,0,none⟩ (.slice A3_0 l0_0.length c3_0)).setCell ⟨gb2,1,none⟩ (.slice A3_1 l0_1.length c3_1)).setCell ⟨gb2,2,none⟩ (.int .i64 a0_2)).setCell ⟨gb2,3,none⟩ (.bool true))) ?hg ?ho ?hn ?hr ?_;(case ho=>rfl);(case hg=>rfl);(case hn=>rfl);(case hr=>exact tE);intro w7 hw_;have hkp:Kept w6 w7 (fun k_=>k_ = gb2):=AE;have hge_:w.heap.size ≤ gb2:=tL;have hbn_:Below w.heap.size w w7:=tU;have hbk_:w7.heap[gb2]? = some (.cells #[.slice A3_0 l0_0.length c3_0,.slice A3_1 l0_1.length c3_1,.int .i64 a0_2,.bool true] 25 (0,0)):=vU;have hsz_:(gb4 + 1) ≤ w7.heap.size:=Nat.le_trans HT.out hkp.1;replace HF0_0:=aA.mk (Kd.aU HF0_0.out hkp tA);replace HF0_1:=aA.mk (Kd.aU HF0_1.out hkp tA);replace HF2:=aA.mk (Kd.aU HF2.out hkp tA);replace HF3_0:=aA.mk (Kd.aU HF3_0.out hkp tA);replace HS3_0:=aA.mk (Kd.bP HS3_0.out hkp tA);replace HF3_1:=aA.mk (Kd.aU HF3_1.out hkp tA);replace HS3_1:=aA.mk (Kd.bP HS3_1.out hkp tA);replace BK1:=aA.mk (aY BK1.out hkp tB);replace BK4:=aA.mk (aY BK4.out hkp tB);replace HB:=aA.mk (hbn_);replace BK2:=aA.mk (hbk_);replace HT:=aA.mk (hsz_);clear hw_ hkp hge_ hbn_ hbk_ hsz_;have:=bs4 BK1.out;have:=bs4 BK2.out;have:=bs4 BK4.out))
 refine bodyPost_ret (fn:=Try.f28) (P:=Try.prog) (results_cell_row rfl _ _ gb2 25 #[.slice A3_0 l0_0.length c3_0,.slice A3_1 l0_1.length c3_1,.int .i64 a0_2,.bool true] (0,0) _ rfl BK2.out Try.underlying25 rfl tG) rfl ?_
 first|exact ⟨_,_,mm3,rfl,tH,tH,Kd.bU (Kd.bZ HS3_0.out tH) tJ,Kd.bU (Kd.bZ HS3_1.out tH) tJ,HB.out⟩|exact ⟨_,_,rfl,mm3,tH,tH,Kd.bU (Kd.bZ HS3_0.out tH) tJ,Kd.bU (Kd.bZ HS3_1.out tH) tJ,HB.out⟩
set_option maxHeartbeats 8000000 in
set_option maxRecDepth 100000 in
theorem walk_WriteSec3 (A0_0:Option Addr) (c0_0:Nat) (l0_0:List (List (Int))) (A0_1:Option Addr) (c0_1:Nat) (l0_1:List (S50)) (a0_2:Int) (a1:Int) (A2:Option Addr) (c2:Nat) (l2:List (Int)) (w:World) (hf0_0:Kd.F (Kd.slice 5 (Kd.int .u8)) w (In 0 w.heap.size) A0_0 l0_0.length l0_0) (hc0_0:l0_0.length ≤ c0_0) (hf0_1:Kd.F k50 w (In 0 w.heap.size) A0_1 l0_1.length l0_1) (hc0_1:l0_1.length ≤ c0_1) (hf2:Kd.F (Kd.int .u8) w (In 0 w.heap.size) A2 l2.length l2) (hc2:l2.length ≤ c2) (hok0:okByteSS l0_0) (hok1:okWrS l0_1) (hdo:devOkB l0_0 l0_1 a0_2 = true) (hwi:decide (0 ≤ a1 ∧ a1 ≤ wrap64 ((l0_0.length:Int) - 1)) = false) :
  Calls Try.prog 28 #[.agg #[.slice A0_0 l0_0.length c0_0,.slice A0_1 l0_1.length c0_1,.int .i64 a0_2,.bool false],.int .i64 a1,.slice A2 l2.length c2] w fun e w'=>∃ v0_ v1_:Value,∃ m_:Nat,e = .returned (.agg #[v0_,v1_,.int .i64 a0_2,.bool false]) ∧ w.heap.size ≤ m_ ∧ m_ ≤ w'.heap.size ∧ Kd.S (Kd.slice 5 (Kd.int .u8)) 37 w' w.heap.size (In w.heap.size m_) v0_ l0_0 ∧ Kd.S k50 50 w' w.heap.size (In m_ w'.heap.size) v1_ l0_1 ∧ Below w.heap.size w w':=by
 have hu25:=Try.underlying25
 have hu50:=Try.underlying50
 have HF0_0:=aA.mk hf0_0
 have HC0_0:=aA.mk hc0_0
 clear hf0_0 hc0_0
 have HF0_1:=aA.mk hf0_1
 have HC0_1:=aA.mk hc0_1
 clear hf0_1 hc0_1
 have HF2:=aA.mk hf2
 have HC2:=aA.mk hc2
 clear hf2 hc2
 have HB:=aA.mk (Below.refl w.heap.size w)
 have HORD:=aA.mk (Nat.le_refl w.heap.size)
 have HT:=aA.mk (Nat.le_refl w.heap.size)
 have JC:=aA.mk (copyDevS_f hok0 hok1 a0_2 false)
 obtain ⟨kd,hd0_⟩:=evGet (impl_DevOk_ev l0_0 l0_1 a0_2 false hok0 hok1)
 rw [hdo] at hd0_
 have JD:=aA.mk hd0_
 clear hd0_
 have JW:=aA.mk (show impl_within.f a1 0 (wrap64 ((l0_0.length:Int) - 1)) = some false from by rw [impl_within_f,hwi])
 go_enter Try.func28,Try.ntmps28
 go_wp2_with (first|((with_reducible refine bC (N:=3) rfl ?_);refine bD ?hg (N:=3) ?hd (cs:=#[.slice A0_0 l0_0.length c0_0,.slice A0_1 l0_1.length c0_1,.int .i64 a0_2,.bool false]) (t:=25) ?hr ?_;(case hd=>rfl);(case hg=>rfl);(case hr=>exact tE);intro gb1 hg_ w1 hbox hb;have hge_:w.heap.size ≤ gb1:=tk;have hlt_:gb1 + 1 ≤ w1.heap.size:=bJ hbox;replace HF0_0:=nF HF0_0;replace HF0_1:=nF HF0_1;replace HF2:=nF HF2;replace HB:=aA.mk (aT HB.out hb);replace BK1:=aA.mk (hbox);replace HORD:=aA.mk (And.intro HORD.out (And.intro hge_ (Nat.le_succ gb1)));replace HT:=aA.mk (hlt_);clear hb hbox hg_ hge_ hlt_;have:=bs4 BK1.out)|((with_reducible refine bC (N:=6) rfl ?_);refine bD ?hg (N:=6) ?hd (cs:=#[.slice none 0 0,.slice none 0 0,.int .i64 0,.bool false]) (t:=25) ?hr ?_;(case hd=>rfl);(case hg=>rfl);(case hr=>exact tE);intro gb2 hg_ w2 hbox hb;have hge_:(gb1 + 1) ≤ gb2:=tk;have hlt_:gb2 + 1 ≤ w2.heap.size:=bJ hbox;replace HF0_0:=nF HF0_0;replace HF0_1:=nF HF0_1;replace HF2:=nF HF2;replace BK1:=nB BK1;replace HB:=aA.mk (aT HB.out hb);replace BK2:=aA.mk (hbox);replace HORD:=aA.mk (And.intro HORD.out (And.intro hge_ (Nat.le_succ gb2)));replace HT:=aA.mk (hlt_);clear hb hbox hg_ hge_ hlt_;have:=bs4 BK1.out;have:=bs4 BK2.out)|((with_reducible refine aW (f:=58) rfl ?_);refine bK (some 10) rfl rfl Try.func58 tG rfl #[.agg #[.slice A0_0 l0_0.length c0_0,.slice A0_1 l0_1.length c0_1,.int .i64 a0_2,.bool false]] rfl tC ?_;(with_reducible refine (impl_copyDevS.calls (In 0 w.heap.size) _ _ l0_0 (In 0 w.heap.size) _ _ l0_1 a0_2 false l0_0 l0_1 a0_2 false _ ?s1 ?s2 JC.out).mono ?_);(case s1=>exact wQ);(case s2=>exact wP);rintro e_ w3 ⟨v0_,v1_,mm3,rfl,hm1_,hm2_,ho0,ho1,hb⟩;refine ⟨_,rfl,?_⟩;obtain ⟨lo3,hi3,el_,eh_,ol_,oh_⟩:=Mem.times HT.out hb;rw [← el_] at hm1_;rw [← eh_] at hm2_;rw [← el_] at ho0;obtain ⟨A3_0,c3_0,ev_,hc0_,hf0_,hs0_⟩:=new_SI2 ho0;subst ev_;rw [← eh_] at ho1;(try rw [← el_] at ho1);obtain ⟨A3_1,c3_1,ev_,hc1_,hf1_,hs1_⟩:=new_SI2 ho1;subst ev_;replace HF0_0:=nF HF0_0;replace HF0_1:=nF HF0_1;replace HF2:=nF HF2;replace BK1:=nB BK1;replace BK2:=nB BK2;replace HB:=aA.mk (aT HB.out hb);replace HF3_0:=aA.mk (hf0_);replace HC3_0:=aA.mk (hc0_);replace HS3_0:=aA.mk (hs0_);replace HF3_1:=aA.mk (hf1_);replace HC3_1:=aA.mk (hc1_);replace HS3_1:=aA.mk (hs1_);replace HORD:=aA.mk (And.intro HORD.out (And.intro ol_ (And.intro hm1_ hm2_)));replace HT:=aA.mk (Nat.le_of_eq eh_);clear hm1_ hm2_;clear ol_ oh_ el_ eh_ ho0 hf0_ hc0_ hs0_ ho1 hf1_ hc1_ hs1_;(try clear hb);have:=bs4 BK1.out;have:=bs4 BK2.out)|((with_reducible refine bC (N:=7) rfl ?_);refine bD ?hg (N:=7) ?hd (cs:=#[.slice none 0 0,.slice none 0 0,.int .i64 0,.bool false]) (t:=25) ?hr ?_;(case hd=>rfl);(case hg=>rfl);(case hr=>exact tE);intro gb4 hg_ w4 hbox hb;have hge_:hi3 ≤ gb4:=tk;have hlt_:gb4 + 1 ≤ w4.heap.size:=bJ hbox;replace HF0_0:=nF HF0_0;replace HF0_1:=nF HF0_1;replace HF2:=nF HF2;replace HF3_0:=nF HF3_0;replace HS3_0:=nS HS3_0;replace HF3_1:=nF HF3_1;replace HS3_1:=nS HS3_1;replace BK1:=nB BK1;replace BK2:=nB BK2;replace HB:=aA.mk (aT HB.out hb);replace BK4:=aA.mk (hbox);replace HORD:=aA.mk (And.intro HORD.out (And.intro hge_ (Nat.le_succ gb4)));replace HT:=aA.mk (hlt_);clear hb hbox hg_ hge_ hlt_;have:=bs4 BK1.out;have:=bs4 BK2.out;have:=bs4 BK4.out)|((with_reducible refine bN (t:=25) (p:=7) rfl ?_);refine bL (t:=25) (p:=7) (v:=?vo_w5) (w1:=((((w4.setCell ⟨gb4,0,none⟩ (.slice A3_0 l0_0.length c3_0)).setCell ⟨gb4,1,none⟩ (.slice A3_1 l0_1.length c3_1)).setCell ⟨gb4,2,none⟩ (.int .i64 a0_2)).setCell ⟨gb4,3,none⟩ (.bool false))) ?hg ?ho ?hn ?hr ?_;(case ho=>rfl);(case hg=>rfl);(case hn=>rfl);(case hr=>exact tE);intro w5 hw_;have hkp:Kept w4 w5 (fun k_=>k_ = gb4):=t3;have hge_:w.heap.size ≤ gb4:=tL;have hbn_:Below w.heap.size w w5:=tU;have hbk_:w5.heap[gb4]? = some (.cells #[.slice A3_0 l0_0.length c3_0,.slice A3_1 l0_1.length c3_1,.int .i64 a0_2,.bool false] 25 (0,0)):=tM;have hsz_:(gb4 + 1) ≤ w5.heap.size:=Nat.le_trans HT.out hkp.1;replace HF0_0:=aA.mk (Kd.aU HF0_0.out hkp tA);replace HF0_1:=aA.mk (Kd.aU HF0_1.out hkp tA);replace HF2:=aA.mk (Kd.aU HF2.out hkp tA);replace HF3_0:=aA.mk (Kd.aU HF3_0.out hkp tA);replace HS3_0:=aA.mk (Kd.bP HS3_0.out hkp tA);replace HF3_1:=aA.mk (Kd.aU HF3_1.out hkp tA);replace HS3_1:=aA.mk (Kd.bP HS3_1.out hkp tA);replace BK1:=aA.mk (aY BK1.out hkp tB);replace BK2:=aA.mk (aY BK2.out hkp tB);replace HB:=aA.mk (hbn_);replace BK4:=aA.mk (hbk_);replace HT:=aA.mk (hsz_);clear hw_ hkp hge_ hbn_ hbk_ hsz_;have:=bs4 BK1.out;have:=bs4 BK2.out;have:=bs4 BK4.out)|((with_reducible refine aW (f:=20) rfl ?_);refine bK (some 12) rfl rfl Try.func20 tG rfl #[.agg #[.slice A0_0 l0_0.length c0_0,.slice A0_1 l0_1.length c0_1,.int .i64 a0_2,.bool false]] rfl tC ?_;(with_reducible refine (impl_DevOk.calls kd _ _ l0_0 _ _ l0_1 a0_2 false true _ ?s1 ?s2 ?s3 ?s4 JD.out).mono ?_);(case s1=>exact wn);(case s2=>exact Ay);(case s3=>exact wm);(case s4=>exact Ax);rintro e_ w6 ⟨rfl,hb⟩;refine ⟨_,rfl,?_⟩;replace HF0_0:=nF HF0_0;replace HF0_1:=nF HF0_1;replace HF2:=nF HF2;replace HF3_0:=nF HF3_0;replace HS3_0:=nS HS3_0;replace HF3_1:=nF HF3_1;replace HS3_1:=nS HS3_1;replace BK1:=nB BK1;replace BK2:=nB BK2;replace BK4:=nB BK4;replace HB:=aA.mk (aT HB.out hb);replace HT:=aA.mk (Nat.le_trans HT.out hb.size);(try clear hb);have:=bs4 BK1.out;have:=bs4 BK2.out;have:=bs4 BK4.out)|((with_reducible refine aW (f:=44) rfl ?_);refine cC we ?_;refine bK (some 24) rfl rfl Try.func44 tG rfl #[.int .i64 a1,.int .i64 0,.int .i64 ((wrap64 ((l0_0.length:Int) - 1)))] rfl tC ?_;(with_reducible refine (impl_within.calls a1 0 ((wrap64 ((l0_0.length:Int) - 1))) false _ JW.out).mono ?_);rintro e_ w7 ⟨rfl,hd⟩;refine ⟨_,rfl,?_⟩;have hb:=hd.below;clear hd;replace HF0_0:=nF HF0_0;replace HF0_1:=nF HF0_1;replace HF2:=nF HF2;replace HF3_0:=nF HF3_0;replace HS3_0:=nS HS3_0;replace HF3_1:=nF HF3_1;replace HS3_1:=nS HS3_1;replace BK1:=nB BK1;replace BK2:=nB BK2;replace BK4:=nB BK4;replace HB:=aA.mk (aT HB.out hb);replace HT:=aA.mk (Nat.le_trans HT.out hb.size);(try clear hb);have:=bs4 BK1.out;have:=bs4 BK2.out;have:=bs4 BK4.out)|((with_reducible refine bN (t:=25) (p:=6) rfl ?_);refine bL (t:=25) (p:=6) (v:=?vo_w8) (w1:=((((w7.setCell ⟨gb2,0,none⟩ (.slice A3_0 l0_0.length c3_0)).setCell ⟨gb2,1,none⟩ (.slice A3_1 l0_1.length c3_1)).setCell ⟨gb2,2,none⟩ (.int .i64 a0_2)).setCell ⟨gb2,3,none⟩ (.bool false))) ?hg ?ho ?hn ?hr ?_;(case ho=>rfl);(case hg=>rfl);(case hn=>rfl);(case hr=>exact tE);intro w8 hw_;have hkp:Kept w7 w8 (fun k_=>k_ = gb2):=wA;have hge_:w.heap.size ≤ gb2:=tL;have hbn_:Below w.heap.size w w8:=tU;have hbk_:w8.heap[gb2]? = some (.cells #[.slice A3_0 l0_0.length c3_0,.slice A3_1 l0_1.length c3_1,.int .i64 a0_2,.bool false] 25 (0,0)):=tr;have hsz_:(gb4 + 1) ≤ w8.heap.size:=Nat.le_trans HT.out hkp.1;replace HF0_0:=aA.mk (Kd.aU HF0_0.out hkp tA);replace HF0_1:=aA.mk (Kd.aU HF0_1.out hkp tA);replace HF2:=aA.mk (Kd.aU HF2.out hkp tA);replace HF3_0:=aA.mk (Kd.aU HF3_0.out hkp tA);replace HS3_0:=aA.mk (Kd.bP HS3_0.out hkp tA);replace HF3_1:=aA.mk (Kd.aU HF3_1.out hkp tA);replace HS3_1:=aA.mk (Kd.bP HS3_1.out hkp tA);replace BK1:=aA.mk (aY BK1.out hkp tB);replace BK4:=aA.mk (aY BK4.out hkp tB);replace HB:=aA.mk (hbn_);replace BK2:=aA.mk (hbk_);replace HT:=aA.mk (hsz_);clear hw_ hkp hge_ hbn_ hbk_ hsz_;have:=bs4 BK1.out;have:=bs4 BK2.out;have:=bs4 BK4.out))
 refine bodyPost_ret (fn:=Try.f28) (P:=Try.prog) (results_cell_row rfl _ _ gb2 25 #[.slice A3_0 l0_0.length c3_0,.slice A3_1 l0_1.length c3_1,.int .i64 a0_2,.bool false] (0,0) _ rfl BK2.out Try.underlying25 rfl tG) rfl ?_
 first|exact ⟨_,_,mm3,rfl,tH,tH,Kd.bU (Kd.bZ HS3_0.out tH) tJ,Kd.bU (Kd.bZ HS3_1.out tH) tJ,HB.out⟩|exact ⟨_,_,rfl,mm3,tH,tH,Kd.bU (Kd.bZ HS3_0.out tH) tJ,Kd.bU (Kd.bZ HS3_1.out tH) tJ,HB.out⟩
set_option maxHeartbeats 8000000 in
set_option maxRecDepth 100000 in
theorem walk_WriteSec4 (A0_0:Option Addr) (c0_0:Nat) (l0_0:List (List (Int))) (A0_1:Option Addr) (c0_1:Nat) (l0_1:List (S50)) (a0_2:Int) (a1:Int) (A2:Option Addr) (c2:Nat) (l2:List (Int)) (w:World) (hf0_0:Kd.F (Kd.slice 5 (Kd.int .u8)) w (In 0 w.heap.size) A0_0 l0_0.length l0_0) (hc0_0:l0_0.length ≤ c0_0) (hf0_1:Kd.F k50 w (In 0 w.heap.size) A0_1 l0_1.length l0_1) (hc0_1:l0_1.length ≤ c0_1) (hf2:Kd.F (Kd.int .u8) w (In 0 w.heap.size) A2 l2.length l2) (hc2:l2.length ≤ c2) (hok0:okByteSS l0_0) (hok1:okWrS l0_1) (hdo:devOkB l0_0 l0_1 a0_2 = true) (hwi:decide (0 ≤ a1 ∧ a1 ≤ wrap64 ((l0_0.length:Int) - 1)) = true) (h80:80 < (l2.length:Int)) :
  Calls Try.prog 28 #[.agg #[.slice A0_0 l0_0.length c0_0,.slice A0_1 l0_1.length c0_1,.int .i64 a0_2,.bool false],.int .i64 a1,.slice A2 l2.length c2] w fun e w'=>∃ v0_ v1_:Value,∃ m_:Nat,e = .returned (.agg #[v0_,v1_,.int .i64 a0_2,.bool false]) ∧ w.heap.size ≤ m_ ∧ m_ ≤ w'.heap.size ∧ Kd.S (Kd.slice 5 (Kd.int .u8)) 37 w' w.heap.size (In w.heap.size m_) v0_ l0_0 ∧ Kd.S k50 50 w' w.heap.size (In m_ w'.heap.size) v1_ l0_1 ∧ Below w.heap.size w w':=by
 have hu25:=Try.underlying25
 have hu50:=Try.underlying50
 have HF0_0:=aA.mk hf0_0
 have HC0_0:=aA.mk hc0_0
 clear hf0_0 hc0_0
 have HF0_1:=aA.mk hf0_1
 have HC0_1:=aA.mk hc0_1
 clear hf0_1 hc0_1
 have HF2:=aA.mk hf2
 have HC2:=aA.mk hc2
 clear hf2 hc2
 have HB:=aA.mk (Below.refl w.heap.size w)
 have HORD:=aA.mk (Nat.le_refl w.heap.size)
 have HT:=aA.mk (Nat.le_refl w.heap.size)
 have JC:=aA.mk (copyDevS_f hok0 hok1 a0_2 false)
 obtain ⟨kd,hd0_⟩:=evGet (impl_DevOk_ev l0_0 l0_1 a0_2 false hok0 hok1)
 rw [hdo] at hd0_
 have JD:=aA.mk hd0_
 clear hd0_
 have JW:=aA.mk (show impl_within.f a1 0 (wrap64 ((l0_0.length:Int) - 1)) = some true from by rw [impl_within_f,hwi])
 have d1_:decide (80 < (l2.length:Int)) = true:=decide_eq_true h80
 go_enter Try.func28,Try.ntmps28
 go_wp2_with (first|((with_reducible refine bC (N:=3) rfl ?_);refine bD ?hg (N:=3) ?hd (cs:=#[.slice A0_0 l0_0.length c0_0,.slice A0_1 l0_1.length c0_1,.int .i64 a0_2,.bool false]) (t:=25) ?hr ?_;(case hd=>rfl);(case hg=>rfl);(case hr=>exact tE);intro gb1 hg_ w1 hbox hb;have hge_:w.heap.size ≤ gb1:=tk;have hlt_:gb1 + 1 ≤ w1.heap.size:=bJ hbox;replace HF0_0:=nF HF0_0;replace HF0_1:=nF HF0_1;replace HF2:=nF HF2;replace HB:=aA.mk (aT HB.out hb);replace BK1:=aA.mk (hbox);replace HORD:=aA.mk (And.intro HORD.out (And.intro hge_ (Nat.le_succ gb1)));replace HT:=aA.mk (hlt_);clear hb hbox hg_ hge_ hlt_;have:=bs4 BK1.out)|((with_reducible refine bC (N:=6) rfl ?_);refine bD ?hg (N:=6) ?hd (cs:=#[.slice none 0 0,.slice none 0 0,.int .i64 0,.bool false]) (t:=25) ?hr ?_;(case hd=>rfl);(case hg=>rfl);(case hr=>exact tE);intro gb2 hg_ w2 hbox hb;have hge_:(gb1 + 1) ≤ gb2:=tk;have hlt_:gb2 + 1 ≤ w2.heap.size:=bJ hbox;replace HF0_0:=nF HF0_0;replace HF0_1:=nF HF0_1;replace HF2:=nF HF2;replace BK1:=nB BK1;replace HB:=aA.mk (aT HB.out hb);replace BK2:=aA.mk (hbox);replace HORD:=aA.mk (And.intro HORD.out (And.intro hge_ (Nat.le_succ gb2)));replace HT:=aA.mk (hlt_);clear hb hbox hg_ hge_ hlt_;have:=bs4 BK1.out;have:=bs4 BK2.out)|((with_reducible refine aW (f:=58) rfl ?_);refine bK (some 10) rfl rfl Try.func58 tG rfl #[.agg #[.slice A0_0 l0_0.length c0_0,.slice A0_1 l0_1.length c0_1,.int .i64 a0_2,.bool false]] rfl tC ?_;(with_reducible refine (impl_copyDevS.calls (In 0 w.heap.size) _ _ l0_0 (In 0 w.heap.size) _ _ l0_1 a0_2 false l0_0 l0_1 a0_2 false _ ?s1 ?s2 JC.out).mono ?_);(case s1=>exact wQ);(case s2=>exact wP);rintro e_ w3 ⟨v0_,v1_,mm3,rfl,hm1_,hm2_,ho0,ho1,hb⟩;refine ⟨_,rfl,?_⟩;obtain ⟨lo3,hi3,el_,eh_,ol_,oh_⟩:=Mem.times HT.out hb;rw [← el_] at hm1_;rw [← eh_] at hm2_;rw [← el_] at ho0;obtain ⟨A3_0,c3_0,ev_,hc0_,hf0_,hs0_⟩:=new_SI2 ho0;subst ev_;rw [← eh_] at ho1;(try rw [← el_] at ho1);obtain ⟨A3_1,c3_1,ev_,hc1_,hf1_,hs1_⟩:=new_SI2 ho1;subst ev_;replace HF0_0:=nF HF0_0;replace HF0_1:=nF HF0_1;replace HF2:=nF HF2;replace BK1:=nB BK1;replace BK2:=nB BK2;replace HB:=aA.mk (aT HB.out hb);replace HF3_0:=aA.mk (hf0_);replace HC3_0:=aA.mk (hc0_);replace HS3_0:=aA.mk (hs0_);replace HF3_1:=aA.mk (hf1_);replace HC3_1:=aA.mk (hc1_);replace HS3_1:=aA.mk (hs1_);replace HORD:=aA.mk (And.intro HORD.out (And.intro ol_ (And.intro hm1_ hm2_)));replace HT:=aA.mk (Nat.le_of_eq eh_);clear hm1_ hm2_;clear ol_ oh_ el_ eh_ ho0 hf0_ hc0_ hs0_ ho1 hf1_ hc1_ hs1_;(try clear hb);have:=bs4 BK1.out;have:=bs4 BK2.out)|((with_reducible refine bC (N:=7) rfl ?_);refine bD ?hg (N:=7) ?hd (cs:=#[.slice none 0 0,.slice none 0 0,.int .i64 0,.bool false]) (t:=25) ?hr ?_;(case hd=>rfl);(case hg=>rfl);(case hr=>exact tE);intro gb4 hg_ w4 hbox hb;have hge_:hi3 ≤ gb4:=tk;have hlt_:gb4 + 1 ≤ w4.heap.size:=bJ hbox;replace HF0_0:=nF HF0_0;replace HF0_1:=nF HF0_1;replace HF2:=nF HF2;replace HF3_0:=nF HF3_0;replace HS3_0:=nS HS3_0;replace HF3_1:=nF HF3_1;replace HS3_1:=nS HS3_1;replace BK1:=nB BK1;replace BK2:=nB BK2;replace HB:=aA.mk (aT HB.out hb);replace BK4:=aA.mk (hbox);replace HORD:=aA.mk (And.intro HORD.out (And.intro hge_ (Nat.le_succ gb4)));replace HT:=aA.mk (hlt_);clear hb hbox hg_ hge_ hlt_;have:=bs4 BK1.out;have:=bs4 BK2.out;have:=bs4 BK4.out)|((with_reducible refine bN (t:=25) (p:=7) rfl ?_);refine bL (t:=25) (p:=7) (v:=?vo_w5) (w1:=((((w4.setCell ⟨gb4,0,none⟩ (.slice A3_0 l0_0.length c3_0)).setCell ⟨gb4,1,none⟩ (.slice A3_1 l0_1.length c3_1)).setCell ⟨gb4,2,none⟩ (.int .i64 a0_2)).setCell ⟨gb4,3,none⟩ (.bool false))) ?hg ?ho ?hn ?hr ?_;(case ho=>rfl);(case hg=>rfl);(case hn=>rfl);(case hr=>exact tE);intro w5 hw_;have hkp:Kept w4 w5 (fun k_=>k_ = gb4):=t3;have hge_:w.heap.size ≤ gb4:=tL;have hbn_:Below w.heap.size w w5:=tU;have hbk_:w5.heap[gb4]? = some (.cells #[.slice A3_0 l0_0.length c3_0,.slice A3_1 l0_1.length c3_1,.int .i64 a0_2,.bool false] 25 (0,0)):=tM;have hsz_:(gb4 + 1) ≤ w5.heap.size:=Nat.le_trans HT.out hkp.1;replace HF0_0:=aA.mk (Kd.aU HF0_0.out hkp tA);replace HF0_1:=aA.mk (Kd.aU HF0_1.out hkp tA);replace HF2:=aA.mk (Kd.aU HF2.out hkp tA);replace HF3_0:=aA.mk (Kd.aU HF3_0.out hkp tA);replace HS3_0:=aA.mk (Kd.bP HS3_0.out hkp tA);replace HF3_1:=aA.mk (Kd.aU HF3_1.out hkp tA);replace HS3_1:=aA.mk (Kd.bP HS3_1.out hkp tA);replace BK1:=aA.mk (aY BK1.out hkp tB);replace BK2:=aA.mk (aY BK2.out hkp tB);replace HB:=aA.mk (hbn_);replace BK4:=aA.mk (hbk_);replace HT:=aA.mk (hsz_);clear hw_ hkp hge_ hbn_ hbk_ hsz_;have:=bs4 BK1.out;have:=bs4 BK2.out;have:=bs4 BK4.out)|((with_reducible refine aW (f:=20) rfl ?_);refine bK (some 12) rfl rfl Try.func20 tG rfl #[.agg #[.slice A0_0 l0_0.length c0_0,.slice A0_1 l0_1.length c0_1,.int .i64 a0_2,.bool false]] rfl tC ?_;(with_reducible refine (impl_DevOk.calls kd _ _ l0_0 _ _ l0_1 a0_2 false true _ ?s1 ?s2 ?s3 ?s4 JD.out).mono ?_);(case s1=>exact wn);(case s2=>exact Ay);(case s3=>exact wm);(case s4=>exact Ax);rintro e_ w6 ⟨rfl,hb⟩;refine ⟨_,rfl,?_⟩;replace HF0_0:=nF HF0_0;replace HF0_1:=nF HF0_1;replace HF2:=nF HF2;replace HF3_0:=nF HF3_0;replace HS3_0:=nS HS3_0;replace HF3_1:=nF HF3_1;replace HS3_1:=nS HS3_1;replace BK1:=nB BK1;replace BK2:=nB BK2;replace BK4:=nB BK4;replace HB:=aA.mk (aT HB.out hb);replace HT:=aA.mk (Nat.le_trans HT.out hb.size);(try clear hb);have:=bs4 BK1.out;have:=bs4 BK2.out;have:=bs4 BK4.out)|((with_reducible refine aW (f:=44) rfl ?_);refine cC we ?_;refine bK (some 24) rfl rfl Try.func44 tG rfl #[.int .i64 a1,.int .i64 0,.int .i64 ((wrap64 ((l0_0.length:Int) - 1)))] rfl tC ?_;(with_reducible refine (impl_within.calls a1 0 ((wrap64 ((l0_0.length:Int) - 1))) true _ JW.out).mono ?_);rintro e_ w7 ⟨rfl,hd⟩;refine ⟨_,rfl,?_⟩;have hb:=hd.below;clear hd;replace HF0_0:=nF HF0_0;replace HF0_1:=nF HF0_1;replace HF2:=nF HF2;replace HF3_0:=nF HF3_0;replace HS3_0:=nS HS3_0;replace HF3_1:=nF HF3_1;replace HS3_1:=nS HS3_1;replace BK1:=nB BK1;replace BK2:=nB BK2;replace BK4:=nB BK4;replace HB:=aA.mk (aT HB.out hb);replace HT:=aA.mk (Nat.le_trans HT.out hb.size);(try clear hb);have:=bs4 BK1.out;have:=bs4 BK2.out;have:=bs4 BK4.out)|((with_reducible refine bN (t:=25) (p:=6) rfl ?_);refine bL (t:=25) (p:=6) (v:=?vo_w8) (w1:=((((w7.setCell ⟨gb2,0,none⟩ (.slice A3_0 l0_0.length c3_0)).setCell ⟨gb2,1,none⟩ (.slice A3_1 l0_1.length c3_1)).setCell ⟨gb2,2,none⟩ (.int .i64 a0_2)).setCell ⟨gb2,3,none⟩ (.bool false))) ?hg ?ho ?hn ?hr ?_;(case ho=>rfl);(case hg=>rfl);(case hn=>rfl);(case hr=>exact tE);intro w8 hw_;have hkp:Kept w7 w8 (fun k_=>k_ = gb2):=wA;have hge_:w.heap.size ≤ gb2:=tL;have hbn_:Below w.heap.size w w8:=tU;have hbk_:w8.heap[gb2]? = some (.cells #[.slice A3_0 l0_0.length c3_0,.slice A3_1 l0_1.length c3_1,.int .i64 a0_2,.bool false] 25 (0,0)):=tr;have hsz_:(gb4 + 1) ≤ w8.heap.size:=Nat.le_trans HT.out hkp.1;replace HF0_0:=aA.mk (Kd.aU HF0_0.out hkp tA);replace HF0_1:=aA.mk (Kd.aU HF0_1.out hkp tA);replace HF2:=aA.mk (Kd.aU HF2.out hkp tA);replace HF3_0:=aA.mk (Kd.aU HF3_0.out hkp tA);replace HS3_0:=aA.mk (Kd.bP HS3_0.out hkp tA);replace HF3_1:=aA.mk (Kd.aU HF3_1.out hkp tA);replace HS3_1:=aA.mk (Kd.bP HS3_1.out hkp tA);replace BK1:=aA.mk (aY BK1.out hkp tB);replace BK4:=aA.mk (aY BK4.out hkp tB);replace HB:=aA.mk (hbn_);replace BK2:=aA.mk (hbk_);replace HT:=aA.mk (hsz_);clear hw_ hkp hge_ hbn_ hbk_ hsz_;have:=bs4 BK1.out;have:=bs4 BK2.out;have:=bs4 BK4.out))
 refine bodyPost_ret (fn:=Try.f28) (P:=Try.prog) (results_cell_row rfl _ _ gb2 25 #[.slice A3_0 l0_0.length c3_0,.slice A3_1 l0_1.length c3_1,.int .i64 a0_2,.bool false] (0,0) _ rfl BK2.out Try.underlying25 rfl tG) rfl ?_
 first|exact ⟨_,_,mm3,rfl,tH,tH,Kd.bU (Kd.bZ HS3_0.out tH) tJ,Kd.bU (Kd.bZ HS3_1.out tH) tJ,HB.out⟩|exact ⟨_,_,rfl,mm3,tH,tH,Kd.bU (Kd.bZ HS3_0.out tH) tJ,Kd.bU (Kd.bZ HS3_1.out tH) tJ,HB.out⟩
set_option maxHeartbeats 8000000 in
set_option maxRecDepth 100000 in
theorem walk_WriteSec5 (A0_0:Option Addr) (c0_0:Nat) (l0_0:List (List (Int))) (A0_1:Option Addr) (c0_1:Nat) (l0_1:List (S50)) (a0_2:Int) (a1:Int) (A2:Option Addr) (c2:Nat) (l2:List (Int)) (w:World) (hf0_0:Kd.F (Kd.slice 5 (Kd.int .u8)) w (In 0 w.heap.size) A0_0 l0_0.length l0_0) (hc0_0:l0_0.length ≤ c0_0) (hf0_1:Kd.F k50 w (In 0 w.heap.size) A0_1 l0_1.length l0_1) (hc0_1:l0_1.length ≤ c0_1) (hf2:Kd.F (Kd.int .u8) w (In 0 w.heap.size) A2 l2.length l2) (hc2:l2.length ≤ c2) (hok0:okByteSS l0_0) (hok1:okWrS l0_1) (hdo:devOkB l0_0 l0_1 a0_2 = true) (hwi:decide (0 ≤ a1 ∧ a1 ≤ wrap64 ((l0_0.length:Int) - 1)) = true) (h80:¬ 80 < (l2.length:Int)) (h60:(l0_1.length:Int) = 60) :
  Calls Try.prog 28 #[.agg #[.slice A0_0 l0_0.length c0_0,.slice A0_1 l0_1.length c0_1,.int .i64 a0_2,.bool false],.int .i64 a1,.slice A2 l2.length c2] w fun e w'=>∃ v0_ v1_:Value,∃ m_:Nat,e = .returned (.agg #[v0_,v1_,.int .i64 a0_2,.bool false]) ∧ w.heap.size ≤ m_ ∧ m_ ≤ w'.heap.size ∧ Kd.S (Kd.slice 5 (Kd.int .u8)) 37 w' w.heap.size (In w.heap.size m_) v0_ l0_0 ∧ Kd.S k50 50 w' w.heap.size (In m_ w'.heap.size) v1_ l0_1 ∧ Below w.heap.size w w':=by
 have hu25:=Try.underlying25
 have hu50:=Try.underlying50
 have HF0_0:=aA.mk hf0_0
 have HC0_0:=aA.mk hc0_0
 clear hf0_0 hc0_0
 have HF0_1:=aA.mk hf0_1
 have HC0_1:=aA.mk hc0_1
 clear hf0_1 hc0_1
 have HF2:=aA.mk hf2
 have HC2:=aA.mk hc2
 clear hf2 hc2
 have HB:=aA.mk (Below.refl w.heap.size w)
 have HORD:=aA.mk (Nat.le_refl w.heap.size)
 have HT:=aA.mk (Nat.le_refl w.heap.size)
 have JC:=aA.mk (copyDevS_f hok0 hok1 a0_2 false)
 obtain ⟨kd,hd0_⟩:=evGet (impl_DevOk_ev l0_0 l0_1 a0_2 false hok0 hok1)
 rw [hdo] at hd0_
 have JD:=aA.mk hd0_
 clear hd0_
 have JW:=aA.mk (show impl_within.f a1 0 (wrap64 ((l0_0.length:Int) - 1)) = some true from by rw [impl_within_f,hwi])
 have d1_:decide (80 < (l2.length:Int)) = false:=decide_eq_false h80
 have d2_:((l0_1.length:Int) == 60) = true:=beq_iff_eq.mpr h60
 go_enter Try.func28,Try.ntmps28
 go_wp2_with (first|((with_reducible refine bC (N:=3) rfl ?_);refine bD ?hg (N:=3) ?hd (cs:=#[.slice A0_0 l0_0.length c0_0,.slice A0_1 l0_1.length c0_1,.int .i64 a0_2,.bool false]) (t:=25) ?hr ?_;(case hd=>rfl);(case hg=>rfl);(case hr=>exact tE);intro gb1 hg_ w1 hbox hb;have hge_:w.heap.size ≤ gb1:=tk;have hlt_:gb1 + 1 ≤ w1.heap.size:=bJ hbox;replace HF0_0:=nF HF0_0;replace HF0_1:=nF HF0_1;replace HF2:=nF HF2;replace HB:=aA.mk (aT HB.out hb);replace BK1:=aA.mk (hbox);replace HORD:=aA.mk (And.intro HORD.out (And.intro hge_ (Nat.le_succ gb1)));replace HT:=aA.mk (hlt_);clear hb hbox hg_ hge_ hlt_;have:=bs4 BK1.out)|((with_reducible refine bC (N:=6) rfl ?_);refine bD ?hg (N:=6) ?hd (cs:=#[.slice none 0 0,.slice none 0 0,.int .i64 0,.bool false]) (t:=25) ?hr ?_;(case hd=>rfl);(case hg=>rfl);(case hr=>exact tE);intro gb2 hg_ w2 hbox hb;have hge_:(gb1 + 1) ≤ gb2:=tk;have hlt_:gb2 + 1 ≤ w2.heap.size:=bJ hbox;replace HF0_0:=nF HF0_0;replace HF0_1:=nF HF0_1;replace HF2:=nF HF2;replace BK1:=nB BK1;replace HB:=aA.mk (aT HB.out hb);replace BK2:=aA.mk (hbox);replace HORD:=aA.mk (And.intro HORD.out (And.intro hge_ (Nat.le_succ gb2)));replace HT:=aA.mk (hlt_);clear hb hbox hg_ hge_ hlt_;have:=bs4 BK1.out;have:=bs4 BK2.out)|((with_reducible refine aW (f:=58) rfl ?_);refine bK (some 10) rfl rfl Try.func58 tG rfl #[.agg #[.slice A0_0 l0_0.length c0_0,.slice A0_1 l0_1.length c0_1,.int .i64 a0_2,.bool false]] rfl tC ?_;(with_reducible refine (impl_copyDevS.calls (In 0 w.heap.size) _ _ l0_0 (In 0 w.heap.size) _ _ l0_1 a0_2 false l0_0 l0_1 a0_2 false _ ?s1 ?s2 JC.out).mono ?_);(case s1=>exact wQ);(case s2=>exact wP);rintro e_ w3 ⟨v0_,v1_,mm3,rfl,hm1_,hm2_,ho0,ho1,hb⟩;refine ⟨_,rfl,?_⟩;obtain ⟨lo3,hi3,el_,eh_,ol_,oh_⟩:=Mem.times HT.out hb;rw [← el_] at hm1_;rw [← eh_] at hm2_;rw [← el_] at ho0;obtain ⟨A3_0,c3_0,ev_,hc0_,hf0_,hs0_⟩:=new_SI2 ho0;subst ev_;rw [← eh_] at ho1;(try rw [← el_] at ho1);obtain ⟨A3_1,c3_1,ev_,hc1_,hf1_,hs1_⟩:=new_SI2 ho1;subst ev_;replace HF0_0:=nF HF0_0;replace HF0_1:=nF HF0_1;replace HF2:=nF HF2;replace BK1:=nB BK1;replace BK2:=nB BK2;replace HB:=aA.mk (aT HB.out hb);replace HF3_0:=aA.mk (hf0_);replace HC3_0:=aA.mk (hc0_);replace HS3_0:=aA.mk (hs0_);replace HF3_1:=aA.mk (hf1_);replace HC3_1:=aA.mk (hc1_);replace HS3_1:=aA.mk (hs1_);replace HORD:=aA.mk (And.intro HORD.out (And.intro ol_ (And.intro hm1_ hm2_)));replace HT:=aA.mk (Nat.le_of_eq eh_);clear hm1_ hm2_;clear ol_ oh_ el_ eh_ ho0 hf0_ hc0_ hs0_ ho1 hf1_ hc1_ hs1_;(try clear hb);have:=bs4 BK1.out;have:=bs4 BK2.out)|((with_reducible refine bC (N:=7) rfl ?_);refine bD ?hg (N:=7) ?hd (cs:=#[.slice none 0 0,.slice none 0 0,.int .i64 0,.bool false]) (t:=25) ?hr ?_;(case hd=>rfl);(case hg=>rfl);(case hr=>exact tE);intro gb4 hg_ w4 hbox hb;have hge_:hi3 ≤ gb4:=tk;have hlt_:gb4 + 1 ≤ w4.heap.size:=bJ hbox;replace HF0_0:=nF HF0_0;replace HF0_1:=nF HF0_1;replace HF2:=nF HF2;replace HF3_0:=nF HF3_0;replace HS3_0:=nS HS3_0;replace HF3_1:=nF HF3_1;replace HS3_1:=nS HS3_1;replace BK1:=nB BK1;replace BK2:=nB BK2;replace HB:=aA.mk (aT HB.out hb);replace BK4:=aA.mk (hbox);replace HORD:=aA.mk (And.intro HORD.out (And.intro hge_ (Nat.le_succ gb4)));replace HT:=aA.mk (hlt_);clear hb hbox hg_ hge_ hlt_;have:=bs4 BK1.out;have:=bs4 BK2.out;have:=bs4 BK4.out)|((with_reducible refine bN (t:=25) (p:=7) rfl ?_);refine bL (t:=25) (p:=7) (v:=?vo_w5) (w1:=((((w4.setCell ⟨gb4,0,none⟩ (.slice A3_0 l0_0.length c3_0)).setCell ⟨gb4,1,none⟩ (.slice A3_1 l0_1.length c3_1)).setCell ⟨gb4,2,none⟩ (.int .i64 a0_2)).setCell ⟨gb4,3,none⟩ (.bool false))) ?hg ?ho ?hn ?hr ?_;(case ho=>rfl);(case hg=>rfl);(case hn=>rfl);(case hr=>exact tE);intro w5 hw_;have hkp:Kept w4 w5 (fun k_=>k_ = gb4):=t3;have hge_:w.heap.size ≤ gb4:=tL;have hbn_:Below w.heap.size w w5:=tU;have hbk_:w5.heap[gb4]? = some (.cells #[.slice A3_0 l0_0.length c3_0,.slice A3_1 l0_1.length c3_1,.int .i64 a0_2,.bool false] 25 (0,0)):=tM;have hsz_:(gb4 + 1) ≤ w5.heap.size:=Nat.le_trans HT.out hkp.1;replace HF0_0:=aA.mk (Kd.aU HF0_0.out hkp tA);replace HF0_1:=aA.mk (Kd.aU HF0_1.out hkp tA);replace HF2:=aA.mk (Kd.aU HF2.out hkp tA);replace HF3_0:=aA.mk (Kd.aU HF3_0.out hkp tA);replace HS3_0:=aA.mk (Kd.bP HS3_0.out hkp tA);replace HF3_1:=aA.mk (Kd.aU HF3_1.out hkp tA);replace HS3_1:=aA.mk (Kd.bP HS3_1.out hkp tA);replace BK1:=aA.mk (aY BK1.out hkp tB);replace BK2:=aA.mk (aY BK2.out hkp tB);replace HB:=aA.mk (hbn_);replace BK4:=aA.mk (hbk_);replace HT:=aA.mk (hsz_);clear hw_ hkp hge_ hbn_ hbk_ hsz_;have:=bs4 BK1.out;have:=bs4 BK2.out;have:=bs4 BK4.out)|((with_reducible refine aW (f:=20) rfl ?_);refine bK (some 12) rfl rfl Try.func20 tG rfl #[.agg #[.slice A0_0 l0_0.length c0_0,.slice A0_1 l0_1.length c0_1,.int .i64 a0_2,.bool false]] rfl tC ?_;(with_reducible refine (impl_DevOk.calls kd _ _ l0_0 _ _ l0_1 a0_2 false true _ ?s1 ?s2 ?s3 ?s4 JD.out).mono ?_);(case s1=>exact wn);(case s2=>exact Ay);(case s3=>exact wm);(case s4=>exact Ax);rintro e_ w6 ⟨rfl,hb⟩;refine ⟨_,rfl,?_⟩;replace HF0_0:=nF HF0_0;replace HF0_1:=nF HF0_1;replace HF2:=nF HF2;replace HF3_0:=nF HF3_0;replace HS3_0:=nS HS3_0;replace HF3_1:=nF HF3_1;replace HS3_1:=nS HS3_1;replace BK1:=nB BK1;replace BK2:=nB BK2;replace BK4:=nB BK4;replace HB:=aA.mk (aT HB.out hb);replace HT:=aA.mk (Nat.le_trans HT.out hb.size);(try clear hb);have:=bs4 BK1.out;have:=bs4 BK2.out;have:=bs4 BK4.out)|((with_reducible refine aW (f:=44) rfl ?_);refine cC we ?_;refine bK (some 24) rfl rfl Try.func44 tG rfl #[.int .i64 a1,.int .i64 0,.int .i64 ((wrap64 ((l0_0.length:Int) - 1)))] rfl tC ?_;(with_reducible refine (impl_within.calls a1 0 ((wrap64 ((l0_0.length:Int) - 1))) true _ JW.out).mono ?_);rintro e_ w7 ⟨rfl,hd⟩;refine ⟨_,rfl,?_⟩;have hb:=hd.below;clear hd;replace HF0_0:=nF HF0_0;replace HF0_1:=nF HF0_1;replace HF2:=nF HF2;replace HF3_0:=nF HF3_0;replace HS3_0:=nS HS3_0;replace HF3_1:=nF HF3_1;replace HS3_1:=nS HS3_1;replace BK1:=nB BK1;replace BK2:=nB BK2;replace BK4:=nB BK4;replace HB:=aA.mk (aT HB.out hb);replace HT:=aA.mk (Nat.le_trans HT.out hb.size);(try clear hb);have:=bs4 BK1.out;have:=bs4 BK2.out;have:=bs4 BK4.out)|((with_reducible refine bN (t:=25) (p:=6) rfl ?_);refine bL (t:=25) (p:=6) (v:=?vo_w8) (w1:=((((w7.setCell ⟨gb2,0,none⟩ (.slice A3_0 l0_0.length c3_0)).setCell ⟨gb2,1,none⟩ (.slice A3_1 l0_1.length c3_1)).setCell ⟨gb2,2,none⟩ (.int .i64 a0_2)).setCell ⟨gb2,3,none⟩ (.bool false))) ?hg ?ho ?hn ?hr ?_;(case ho=>rfl);(case hg=>rfl);(case hn=>rfl);(case hr=>exact tE);intro w8 hw_;have hkp:Kept w7 w8 (fun k_=>k_ = gb2):=wA;have hge_:w.heap.size ≤ gb2:=tL;have hbn_:Below w.heap.size w w8:=tU;have hbk_:w8.heap[gb2]? = some (.cells #[.slice A3_0 l0_0.length c3_0,.slice A3_1 l0_1.length c3_1,.int .i64 a0_2,.bool false] 25 (0,0)):=tr;have hsz_:(gb4 + 1) ≤ w8.heap.size:=Nat.le_trans HT.out hkp.1;replace HF0_0:=aA.mk (Kd.aU HF0_0.out hkp tA);replace HF0_1:=aA.mk (Kd.aU HF0_1.out hkp tA);replace HF2:=aA.mk (Kd.aU HF2.out hkp tA);replace HF3_0:=aA.mk (Kd.aU HF3_0.out hkp tA);replace HS3_0:=aA.mk (Kd.bP HS3_0.out hkp tA);replace HF3_1:=aA.mk (Kd.aU HF3_1.out hkp tA);replace HS3_1:=aA.mk (Kd.bP HS3_1.out hkp tA);replace BK1:=aA.mk (aY BK1.out hkp tB);replace BK4:=aA.mk (aY BK4.out hkp tB);replace HB:=aA.mk (hbn_);replace BK2:=aA.mk (hbk_);replace HT:=aA.mk (hsz_);clear hw_ hkp hge_ hbn_ hbk_ hsz_;have:=bs4 BK1.out;have:=bs4 BK2.out;have:=bs4 BK4.out))
 refine bodyPost_ret (fn:=Try.f28) (P:=Try.prog) (results_cell_row rfl _ _ gb2 25 #[.slice A3_0 l0_0.length c3_0,.slice A3_1 l0_1.length c3_1,.int .i64 a0_2,.bool false] (0,0) _ rfl BK2.out Try.underlying25 rfl tG) rfl ?_
 first|exact ⟨_,_,mm3,rfl,tH,tH,Kd.bU (Kd.bZ HS3_0.out tH) tJ,Kd.bU (Kd.bZ HS3_1.out tH) tJ,HB.out⟩|exact ⟨_,_,rfl,mm3,tH,tH,Kd.bU (Kd.bZ HS3_0.out tH) tJ,Kd.bU (Kd.bZ HS3_1.out tH) tJ,HB.out⟩
set_option maxHeartbeats 8000000 in
set_option maxRecDepth 100000 in
theorem walk_WriteSec6 (A0_0:Option Addr) (c0_0:Nat) (l0_0:List (List (Int))) (A0_1:Option Addr) (c0_1:Nat) (l0_1:List (S50)) (a0_2:Int) (a1:Int) (A2:Option Addr) (c2:Nat) (l2:List (Int)) (w:World) (hf0_0:Kd.F (Kd.slice 5 (Kd.int .u8)) w (In 0 w.heap.size) A0_0 l0_0.length l0_0) (hc0_0:l0_0.length ≤ c0_0) (hf0_1:Kd.F k50 w (In 0 w.heap.size) A0_1 l0_1.length l0_1) (hc0_1:l0_1.length ≤ c0_1) (hf2:Kd.F (Kd.int .u8) w (In 0 w.heap.size) A2 l2.length l2) (hc2:l2.length ≤ c2) (hok0:okByteSS l0_0) (hok1:okWrS l0_1) (hdo:devOkB l0_0 l0_1 a0_2 = true) (hwi:decide (0 ≤ a1 ∧ a1 ≤ wrap64 ((l0_0.length:Int) - 1)) = true) (h80:¬ 80 < (l2.length:Int)) (h60:¬ (l0_1.length:Int) = 60) (f1:Int) (b1:Bool) (hbu:burnF a0_2 false = (f1,b1,false)) :
  Calls Try.prog 28 #[.agg #[.slice A0_0 l0_0.length c0_0,.slice A0_1 l0_1.length c0_1,.int .i64 a0_2,.bool false],.int .i64 a1,.slice A2 l2.length c2] w fun e w'=>∃ v0_ v1_:Value,∃ m_:Nat,e = .returned (.agg #[v0_,v1_,.int .i64 f1,.bool b1]) ∧ w.heap.size ≤ m_ ∧ m_ ≤ w'.heap.size ∧ Kd.S (Kd.slice 5 (Kd.int .u8)) 37 w' w.heap.size (In w.heap.size m_) v0_ l0_0 ∧ Kd.S k50 50 w' w.heap.size (In m_ w'.heap.size) v1_ l0_1 ∧ Below w.heap.size w w':=by
 have hu25:=Try.underlying25
 have hu50:=Try.underlying50
 have HF0_0:=aA.mk hf0_0
 have HC0_0:=aA.mk hc0_0
 clear hf0_0 hc0_0
 have HF0_1:=aA.mk hf0_1
 have HC0_1:=aA.mk hc0_1
 clear hf0_1 hc0_1
 have HF2:=aA.mk hf2
 have HC2:=aA.mk hc2
 clear hf2 hc2
 have HB:=aA.mk (Below.refl w.heap.size w)
 have HORD:=aA.mk (Nat.le_refl w.heap.size)
 have HT:=aA.mk (Nat.le_refl w.heap.size)
 have JC:=aA.mk (copyDevS_f hok0 hok1 a0_2 false)
 obtain ⟨kd,hd0_⟩:=evGet (impl_DevOk_ev l0_0 l0_1 a0_2 false hok0 hok1)
 rw [hdo] at hd0_
 have JD:=aA.mk hd0_
 clear hd0_
 have JW:=aA.mk (show impl_within.f a1 0 (wrap64 ((l0_0.length:Int) - 1)) = some true from by rw [impl_within_f,hwi])
 have d1_:decide (80 < (l2.length:Int)) = false:=decide_eq_false h80
 have d2_:((l0_1.length:Int) == 60) = false:=beq_eq_false_iff_ne.mpr h60
 have JB:=aA.mk (show impl_burnS.f a0_2 false = some (f1,b1,false) from by unfold impl_burnS.f;rw [hbu])
 go_enter Try.func28,Try.ntmps28
 go_wp2_with (first|((with_reducible refine bC (N:=3) rfl ?_);refine bD ?hg (N:=3) ?hd (cs:=#[.slice A0_0 l0_0.length c0_0,.slice A0_1 l0_1.length c0_1,.int .i64 a0_2,.bool false]) (t:=25) ?hr ?_;(case hd=>rfl);(case hg=>rfl);(case hr=>exact tE);intro gb1 hg_ w1 hbox hb;have hge_:w.heap.size ≤ gb1:=tk;have hlt_:gb1 + 1 ≤ w1.heap.size:=bJ hbox;replace HF0_0:=nF HF0_0;replace HF0_1:=nF HF0_1;replace HF2:=nF HF2;replace HB:=aA.mk (aT HB.out hb);replace BK1:=aA.mk (hbox);replace HORD:=aA.mk (And.intro HORD.out (And.intro hge_ (Nat.le_succ gb1)));replace HT:=aA.mk (hlt_);clear hb hbox hg_ hge_ hlt_;have:=bs4 BK1.out)|((with_reducible refine bC (N:=6) rfl ?_);refine bD ?hg (N:=6) ?hd (cs:=#[.slice none 0 0,.slice none 0 0,.int .i64 0,.bool false]) (t:=25) ?hr ?_;(case hd=>rfl);(case hg=>rfl);(case hr=>exact tE);intro gb2 hg_ w2 hbox hb;have hge_:(gb1 + 1) ≤ gb2:=tk;have hlt_:gb2 + 1 ≤ w2.heap.size:=bJ hbox;replace HF0_0:=nF HF0_0;replace HF0_1:=nF HF0_1;replace HF2:=nF HF2;replace BK1:=nB BK1;replace HB:=aA.mk (aT HB.out hb);replace BK2:=aA.mk (hbox);replace HORD:=aA.mk (And.intro HORD.out (And.intro hge_ (Nat.le_succ gb2)));replace HT:=aA.mk (hlt_);clear hb hbox hg_ hge_ hlt_;have:=bs4 BK1.out;have:=bs4 BK2.out)|((with_reducible refine aW (f:=58) rfl ?_);refine bK (some 10) rfl rfl Try.func58 tG rfl #[.agg #[.slice A0_0 l0_0.length c0_0,.slice A0_1 l0_1.length c0_1,.int .i64 a0_2,.bool false]] rfl tC ?_;(with_reducible refine (impl_copyDevS.calls (In 0 w.heap.size) _ _ l0_0 (In 0 w.heap.size) _ _ l0_1 a0_2 false l0_0 l0_1 a0_2 false _ ?s1 ?s2 JC.out).mono ?_);(case s1=>exact wQ);(case s2=>exact wP);rintro e_ w3 ⟨v0_,v1_,mm3,rfl,hm1_,hm2_,ho0,ho1,hb⟩;refine ⟨_,rfl,?_⟩;obtain ⟨lo3,hi3,el_,eh_,ol_,oh_⟩:=Mem.times HT.out hb;rw [← el_] at hm1_;rw [← eh_] at hm2_;rw [← el_] at ho0;obtain ⟨A3_0,c3_0,ev_,hc0_,hf0_,hs0_⟩:=new_SI2 ho0;subst ev_;rw [← eh_] at ho1;(try rw [← el_] at ho1);obtain ⟨A3_1,c3_1,ev_,hc1_,hf1_,hs1_⟩:=new_SI2 ho1;subst ev_;replace HF0_0:=nF HF0_0;replace HF0_1:=nF HF0_1;replace HF2:=nF HF2;replace BK1:=nB BK1;replace BK2:=nB BK2;replace HB:=aA.mk (aT HB.out hb);replace HF3_0:=aA.mk (hf0_);replace HC3_0:=aA.mk (hc0_);replace HS3_0:=aA.mk (hs0_);replace HF3_1:=aA.mk (hf1_);replace HC3_1:=aA.mk (hc1_);replace HS3_1:=aA.mk (hs1_);replace HORD:=aA.mk (And.intro HORD.out (And.intro ol_ (And.intro hm1_ hm2_)));replace HT:=aA.mk (Nat.le_of_eq eh_);clear hm1_ hm2_;clear ol_ oh_ el_ eh_ ho0 hf0_ hc0_ hs0_ ho1 hf1_ hc1_ hs1_;(try clear hb);have:=bs4 BK1.out;have:=bs4 BK2.out)|((with_reducible refine bC (N:=7) rfl ?_);refine bD ?hg (N:=7) ?hd (cs:=#[.slice none 0 0,.slice none 0 0,.int .i64 0,.bool false]) (t:=25) ?hr ?_;(case hd=>rfl);(case hg=>rfl);(case hr=>exact tE);intro gb4 hg_ w4 hbox hb;have hge_:hi3 ≤ gb4:=tk;have hlt_:gb4 + 1 ≤ w4.heap.size:=bJ hbox;replace HF0_0:=nF HF0_0;replace HF0_1:=nF HF0_1;replace HF2:=nF HF2;replace HF3_0:=nF HF3_0;replace HS3_0:=nS HS3_0;replace HF3_1:=nF HF3_1;replace HS3_1:=nS HS3_1;replace BK1:=nB BK1;replace BK2:=nB BK2;replace HB:=aA.mk (aT HB.out hb);replace BK4:=aA.mk (hbox);replace HORD:=aA.mk (And.intro HORD.out (And.intro hge_ (Nat.le_succ gb4)));replace HT:=aA.mk (hlt_);clear hb hbox hg_ hge_ hlt_;have:=bs4 BK1.out;have:=bs4 BK2.out;have:=bs4 BK4.out)|((with_reducible refine bN (t:=25) (p:=7) rfl ?_);refine bL (t:=25) (p:=7) (v:=?vo_w5) (w1:=((((w4.setCell ⟨gb4,0,none⟩ (.slice A3_0 l0_0.length c3_0)).setCell ⟨gb4,1,none⟩ (.slice A3_1 l0_1.length c3_1)).setCell ⟨gb4,2,none⟩ (.int .i64 a0_2)).setCell ⟨gb4,3,none⟩ (.bool false))) ?hg ?ho ?hn ?hr ?_;(case ho=>rfl);(case hg=>rfl);(case hn=>rfl);(case hr=>exact tE);intro w5 hw_;have hkp:Kept w4 w5 (fun k_=>k_ = gb4):=t3;have hge_:w.heap.size ≤ gb4:=tL;have hbn_:Below w.heap.size w w5:=tU;have hbk_:w5.heap[gb4]? = some (.cells #[.slice A3_0 l0_0.length c3_0,.slice A3_1 l0_1.length c3_1,.int .i64 a0_2,.bool false] 25 (0,0)):=tM;have hsz_:(gb4 + 1) ≤ w5.heap.size:=Nat.le_trans HT.out hkp.1;replace HF0_0:=aA.mk (Kd.aU HF0_0.out hkp tA);replace HF0_1:=aA.mk (Kd.aU HF0_1.out hkp tA);replace HF2:=aA.mk (Kd.aU HF2.out hkp tA);replace HF3_0:=aA.mk (Kd.aU HF3_0.out hkp tA);replace HS3_0:=aA.mk (Kd.bP HS3_0.out hkp tA);replace HF3_1:=aA.mk (Kd.aU HF3_1.out hkp tA);replace HS3_1:=aA.mk (Kd.bP HS3_1.out hkp tA);replace BK1:=aA.mk (aY BK1.out hkp tB);replace BK2:=aA.mk (aY BK2.out hkp tB);replace HB:=aA.mk (hbn_);replace BK4:=aA.mk (hbk_);replace HT:=aA.mk (hsz_);clear hw_ hkp hge_ hbn_ hbk_ hsz_;have:=bs4 BK1.out;have:=bs4 BK2.out;have:=bs4 BK4.out)|((with_reducible refine aW (f:=20) rfl ?_);refine bK (some 12) rfl rfl Try.func20 tG rfl #[.agg #[.slice A0_0 l0_0.length c0_0,.slice A0_1 l0_1.length c0_1,.int .i64 a0_2,.bool false]] rfl tC ?_;(with_reducible refine (impl_DevOk.calls kd _ _ l0_0 _ _ l0_1 a0_2 false true _ ?s1 ?s2 ?s3 ?s4 JD.out).mono ?_);(case s1=>exact wn);(case s2=>exact Ay);(case s3=>exact wm);(case s4=>exact Ax);rintro e_ w6 ⟨rfl,hb⟩;refine ⟨_,rfl,?_⟩;replace HF0_0:=nF HF0_0;replace HF0_1:=nF HF0_1;replace HF2:=nF HF2;replace HF3_0:=nF HF3_0;replace HS3_0:=nS HS3_0;replace HF3_1:=nF HF3_1;replace HS3_1:=nS HS3_1;replace BK1:=nB BK1;replace BK2:=nB BK2;replace BK4:=nB BK4;replace HB:=aA.mk (aT HB.out hb);replace HT:=aA.mk (Nat.le_trans HT.out hb.size);(try clear hb);have:=bs4 BK1.out;have:=bs4 BK2.out;have:=bs4 BK4.out)|((with_reducible refine aW (f:=44) rfl ?_);refine cC we ?_;refine bK (some 24) rfl rfl Try.func44 tG rfl #[.int .i64 a1,.int .i64 0,.int .i64 ((wrap64 ((l0_0.length:Int) - 1)))] rfl tC ?_;(with_reducible refine (impl_within.calls a1 0 ((wrap64 ((l0_0.length:Int) - 1))) true _ JW.out).mono ?_);rintro e_ w7 ⟨rfl,hd⟩;refine ⟨_,rfl,?_⟩;have hb:=hd.below;clear hd;replace HF0_0:=nF HF0_0;replace HF0_1:=nF HF0_1;replace HF2:=nF HF2;replace HF3_0:=nF HF3_0;replace HS3_0:=nS HS3_0;replace HF3_1:=nF HF3_1;replace HS3_1:=nS HS3_1;replace BK1:=nB BK1;replace BK2:=nB BK2;replace BK4:=nB BK4;replace HB:=aA.mk (aT HB.out hb);replace HT:=aA.mk (Nat.le_trans HT.out hb.size);(try clear hb);have:=bs4 BK1.out;have:=bs4 BK2.out;have:=bs4 BK4.out)|((with_reducible refine aW (f:=59) rfl ?_);refine bK (some 41) rfl rfl Try.func59 tG rfl #[.agg #[.slice A3_0 l0_0.length c3_0,.slice A3_1 l0_1.length c3_1,.int .i64 a0_2,.bool false]] rfl tC ?_;(with_reducible refine (impl_burnS.calls _ _ l0_0 _ _ l0_1 a0_2 false f1 b1 false _ JB.out).mono ?_);rintro e_ w8 ⟨rfl,hb⟩;refine ⟨_,rfl,?_⟩;replace HF0_0:=nF HF0_0;replace HF0_1:=nF HF0_1;replace HF2:=nF HF2;replace HF3_0:=nF HF3_0;replace HS3_0:=nS HS3_0;replace HF3_1:=nF HF3_1;replace HS3_1:=nS HS3_1;replace BK1:=nB BK1;replace BK2:=nB BK2;replace BK4:=nB BK4;replace HB:=aA.mk (aT HB.out hb);replace HT:=aA.mk (Nat.le_trans HT.out hb.size);(try clear hb);have:=bs4 BK1.out;have:=bs4 BK2.out;have:=bs4 BK4.out)|((with_reducible refine bN (t:=25) (p:=7) rfl ?_);refine bL (t:=25) (p:=7) (v:=?vo_w9) (w1:=((((w8.setCell ⟨gb4,0,none⟩ (.slice A3_0 l0_0.length c3_0)).setCell ⟨gb4,1,none⟩ (.slice A3_1 l0_1.length c3_1)).setCell ⟨gb4,2,none⟩ (.int .i64 f1)).setCell ⟨gb4,3,none⟩ (.bool b1))) ?hg ?ho ?hn ?hr ?_;(case ho=>rfl);(case hg=>rfl);(case hn=>rfl);(case hr=>exact tE);intro w9 hw_;have hkp:Kept w8 w9 (fun k_=>k_ = gb4):=AH;have hge_:w.heap.size ≤ gb4:=tL;have hbn_:Below w.heap.size w w9:=tU;have hbk_:w9.heap[gb4]? = some (.cells #[.slice A3_0 l0_0.length c3_0,.slice A3_1 l0_1.length c3_1,.int .i64 f1,.bool b1] 25 (0,0)):=tY;have hsz_:(gb4 + 1) ≤ w9.heap.size:=Nat.le_trans HT.out hkp.1;replace HF0_0:=aA.mk (Kd.aU HF0_0.out hkp tA);replace HF0_1:=aA.mk (Kd.aU HF0_1.out hkp tA);replace HF2:=aA.mk (Kd.aU HF2.out hkp tA);replace HF3_0:=aA.mk (Kd.aU HF3_0.out hkp tA);replace HS3_0:=aA.mk (Kd.bP HS3_0.out hkp tA);replace HF3_1:=aA.mk (Kd.aU HF3_1.out hkp tA);replace HS3_1:=aA.mk (Kd.bP HS3_1.out hkp tA);replace BK1:=aA.mk (aY BK1.out hkp tB);replace BK2:=aA.mk (aY BK2.out hkp tB);replace HB:=aA.mk (hbn_);replace BK4:=aA.mk (hbk_);replace HT:=aA.mk (hsz_);clear hw_ hkp hge_ hbn_ hbk_ hsz_;have:=bs4 BK1.out;have:=bs4 BK2.out;have:=bs4 BK4.out)|((with_reducible refine bN (t:=25) (p:=6) rfl ?_);refine bL (t:=25) (p:=6) (v:=?vo_w10) (w1:=((((w9.setCell ⟨gb2,0,none⟩ (.slice A3_0 l0_0.length c3_0)).setCell ⟨gb2,1,none⟩ (.slice A3_1 l0_1.length c3_1)).setCell ⟨gb2,2,none⟩ (.int .i64 f1)).setCell ⟨gb2,3,none⟩ (.bool b1))) ?hg ?ho ?hn ?hr ?_;(case ho=>rfl);(case hg=>rfl);(case hn=>rfl);(case hr=>exact tE);intro w10 hw_;have hkp:Kept w9 w10 (fun k_=>k_ = gb2):=(by rw [hw_];exact Kept.setCell (Kept.setCell (Kept.setCell (Kept.setCell (Kept.refl w9 (fun k_=>k_ = gb2)) (.inl rfl) (.slice A3_0 l0_0.length c3_0)) (.inl rfl) (.slice A3_1 l0_1.length c3_1)) (.inl rfl) (.int .i64 f1)) (.inl rfl) (.bool b1));have hge_:w.heap.size ≤ gb2:=tL;have hbn_:Below w.heap.size w w10:=tU;have hbk_:w10.heap[gb2]? = some (.cells #[.slice A3_0 l0_0.length c3_0,.slice A3_1 l0_1.length c3_1,.int .i64 f1,.bool b1] 25 (0,0)):=vV;have hsz_:(gb4 + 1) ≤ w10.heap.size:=Nat.le_trans HT.out hkp.1;replace HF0_0:=aA.mk (Kd.aU HF0_0.out hkp tA);replace HF0_1:=aA.mk (Kd.aU HF0_1.out hkp tA);replace HF2:=aA.mk (Kd.aU HF2.out hkp tA);replace HF3_0:=aA.mk (Kd.aU HF3_0.out hkp tA);replace HS3_0:=aA.mk (Kd.bP HS3_0.out hkp tA);replace HF3_1:=aA.mk (Kd.aU HF3_1.out hkp tA);replace HS3_1:=aA.mk (Kd.bP HS3_1.out hkp tA);replace BK1:=aA.mk (aY BK1.out hkp tB);replace BK4:=aA.mk (aY BK4.out hkp tB);replace HB:=aA.mk (hbn_);replace BK2:=aA.mk (hbk_);replace HT:=aA.mk (hsz_);clear hw_ hkp hge_ hbn_ hbk_ hsz_;have:=bs4 BK1.out;have:=bs4 BK2.out;have:=bs4 BK4.out))
 refine bodyPost_ret (fn:=Try.f28) (P:=Try.prog) (results_cell_row rfl _ _ gb2 25 #[.slice A3_0 l0_0.length c3_0,.slice A3_1 l0_1.length c3_1,.int .i64 f1,.bool b1] (0,0) _ rfl BK2.out Try.underlying25 rfl tG) rfl ?_
 first|exact ⟨_,_,mm3,rfl,tH,tH,Kd.bU (Kd.bZ HS3_0.out tH) tJ,Kd.bU (Kd.bZ HS3_1.out tH) tJ,HB.out⟩|exact ⟨_,_,rfl,mm3,tH,tH,Kd.bU (Kd.bZ HS3_0.out tH) tJ,Kd.bU (Kd.bZ HS3_1.out tH) tJ,HB.out⟩
set_option maxHeartbeats 8000000 in
set_option maxRecDepth 100000 in
theorem walk_WriteSec7 (A0_0:Option Addr) (c0_0:Nat) (l0_0:List (List (Int))) (A0_1:Option Addr) (c0_1:Nat) (l0_1:List (S50)) (a0_2:Int) (a1:Int) (A2:Option Addr) (c2:Nat) (l2:List (Int)) (w:World) (hf0_0:Kd.F (Kd.slice 5 (Kd.int .u8)) w (In 0 w.heap.size) A0_0 l0_0.length l0_0) (hc0_0:l0_0.length ≤ c0_0) (hf0_1:Kd.F k50 w (In 0 w.heap.size) A0_1 l0_1.length l0_1) (hc0_1:l0_1.length ≤ c0_1) (hf2:Kd.F (Kd.int .u8) w (In 0 w.heap.size) A2 l2.length l2) (hc2:l2.length ≤ c2) (hok0:okByteSS l0_0) (hok1:okWrS l0_1) (hdo:devOkB l0_0 l0_1 a0_2 = true) (hwi:decide (0 ≤ a1 ∧ a1 ≤ wrap64 ((l0_0.length:Int) - 1)) = true) (h80:¬ 80 < (l2.length:Int)) (h60:¬ (l0_1.length:Int) = 60) (f1:Int) (b1:Bool) (hbu:burnF a0_2 false = (f1,b1,true)) (h2l:l2.length ≤ 4194304) :
  Calls Try.prog 28 #[.agg #[.slice A0_0 l0_0.length c0_0,.slice A0_1 l0_1.length c0_1,.int .i64 a0_2,.bool false],.int .i64 a1,.slice A2 l2.length c2] w fun e w'=>∃ v0_ v1_:Value,∃ m_:Nat,e = .returned (.agg #[v0_,v1_,.int .i64 f1,.bool b1]) ∧ w.heap.size ≤ m_ ∧ m_ ≤ w'.heap.size ∧ Kd.S (Kd.slice 5 (Kd.int .u8)) 37 w' w.heap.size (In w.heap.size m_) v0_ l0_0 ∧ Kd.S k50 50 w' w.heap.size (In m_ w'.heap.size) v1_ (l0_1 ++ [(⟨a1,l2⟩:S50)]) ∧ Below w.heap.size w w':=by
 have hu25:=Try.underlying25
 have hu50:=Try.underlying50
 have HF0_0:=aA.mk hf0_0
 have HC0_0:=aA.mk hc0_0
 clear hf0_0 hc0_0
 have HF0_1:=aA.mk hf0_1
 have HC0_1:=aA.mk hc0_1
 clear hf0_1 hc0_1
 have HF2:=aA.mk hf2
 have HC2:=aA.mk hc2
 clear hf2 hc2
 have HB:=aA.mk (Below.refl w.heap.size w)
 have HORD:=aA.mk (Nat.le_refl w.heap.size)
 have HT:=aA.mk (Nat.le_refl w.heap.size)
 have JC:=aA.mk (copyDevS_f hok0 hok1 a0_2 false)
 obtain ⟨kd,hd0_⟩:=evGet (impl_DevOk_ev l0_0 l0_1 a0_2 false hok0 hok1)
 rw [hdo] at hd0_
 have JD:=aA.mk hd0_
 clear hd0_
 have JW:=aA.mk (show impl_within.f a1 0 (wrap64 ((l0_0.length:Int) - 1)) = some true from by rw [impl_within_f,hwi])
 have d1_:decide (80 < (l2.length:Int)) = false:=decide_eq_false h80
 have d2_:((l0_1.length:Int) == 60) = false:=beq_eq_false_iff_ne.mpr h60
 have JB:=aA.mk (show impl_burnS.f a0_2 false = some (f1,b1,true) from by unfold impl_burnS.f;rw [hbu])
 go_enter Try.func28,Try.ntmps28
 go_wp2_with (first|((with_reducible refine bC (N:=3) rfl ?_);refine bD ?hg (N:=3) ?hd (cs:=#[.slice A0_0 l0_0.length c0_0,.slice A0_1 l0_1.length c0_1,.int .i64 a0_2,.bool false]) (t:=25) ?hr ?_;(case hd=>rfl);(case hg=>rfl);(case hr=>exact tE);intro gb1 hg_ w1 hbox hb;have hge_:w.heap.size ≤ gb1:=tk;have hlt_:gb1 + 1 ≤ w1.heap.size:=bJ hbox;replace HF0_0:=nF HF0_0;replace HF0_1:=nF HF0_1;replace HF2:=nF HF2;replace HB:=aA.mk (aT HB.out hb);replace BK1:=aA.mk (hbox);replace HORD:=aA.mk (And.intro HORD.out (And.intro hge_ (Nat.le_succ gb1)));replace HT:=aA.mk (hlt_);clear hb hbox hg_ hge_ hlt_;have:=bs4 BK1.out)|((with_reducible refine bC (N:=6) rfl ?_);refine bD ?hg (N:=6) ?hd (cs:=#[.slice none 0 0,.slice none 0 0,.int .i64 0,.bool false]) (t:=25) ?hr ?_;(case hd=>rfl);(case hg=>rfl);(case hr=>exact tE);intro gb2 hg_ w2 hbox hb;have hge_:(gb1 + 1) ≤ gb2:=tk;have hlt_:gb2 + 1 ≤ w2.heap.size:=bJ hbox;replace HF0_0:=nF HF0_0;replace HF0_1:=nF HF0_1;replace HF2:=nF HF2;replace BK1:=nB BK1;replace HB:=aA.mk (aT HB.out hb);replace BK2:=aA.mk (hbox);replace HORD:=aA.mk (And.intro HORD.out (And.intro hge_ (Nat.le_succ gb2)));replace HT:=aA.mk (hlt_);clear hb hbox hg_ hge_ hlt_;have:=bs4 BK1.out;have:=bs4 BK2.out)|((with_reducible refine aW (f:=58) rfl ?_);refine bK (some 10) rfl rfl Try.func58 tG rfl #[.agg #[.slice A0_0 l0_0.length c0_0,.slice A0_1 l0_1.length c0_1,.int .i64 a0_2,.bool false]] rfl tC ?_;(with_reducible refine (impl_copyDevS.calls (In 0 w.heap.size) _ _ l0_0 (In 0 w.heap.size) _ _ l0_1 a0_2 false l0_0 l0_1 a0_2 false _ ?s1 ?s2 JC.out).mono ?_);(case s1=>exact wQ);(case s2=>exact wP);rintro e_ w3 ⟨v0_,v1_,mm3,rfl,hm1_,hm2_,ho0,ho1,hb⟩;refine ⟨_,rfl,?_⟩;obtain ⟨lo3,hi3,el_,eh_,ol_,oh_⟩:=Mem.times HT.out hb;rw [← el_] at hm1_;rw [← eh_] at hm2_;rw [← el_] at ho0;obtain ⟨A3_0,c3_0,ev_,hc0_,hf0_,hs0_⟩:=new_SI2 ho0;subst ev_;rw [← eh_] at ho1;(try rw [← el_] at ho1);obtain ⟨A3_1,c3_1,ev_,hc1_,hf1_,hs1_⟩:=new_SI2 ho1;subst ev_;replace HF0_0:=nF HF0_0;replace HF0_1:=nF HF0_1;replace HF2:=nF HF2;replace BK1:=nB BK1;replace BK2:=nB BK2;replace HB:=aA.mk (aT HB.out hb);replace HF3_0:=aA.mk (hf0_);replace HC3_0:=aA.mk (hc0_);replace HS3_0:=aA.mk (hs0_);replace HF3_1:=aA.mk (hf1_);replace HC3_1:=aA.mk (hc1_);replace HS3_1:=aA.mk (hs1_);replace HORD:=aA.mk (And.intro HORD.out (And.intro ol_ (And.intro hm1_ hm2_)));replace HT:=aA.mk (Nat.le_of_eq eh_);clear hm1_ hm2_;clear ol_ oh_ el_ eh_ ho0 hf0_ hc0_ hs0_ ho1 hf1_ hc1_ hs1_;(try clear hb);have:=bs4 BK1.out;have:=bs4 BK2.out)|((with_reducible refine bC (N:=7) rfl ?_);refine bD ?hg (N:=7) ?hd (cs:=#[.slice none 0 0,.slice none 0 0,.int .i64 0,.bool false]) (t:=25) ?hr ?_;(case hd=>rfl);(case hg=>rfl);(case hr=>exact tE);intro gb4 hg_ w4 hbox hb;have hge_:hi3 ≤ gb4:=tk;have hlt_:gb4 + 1 ≤ w4.heap.size:=bJ hbox;replace HF0_0:=nF HF0_0;replace HF0_1:=nF HF0_1;replace HF2:=nF HF2;replace HF3_0:=nF HF3_0;replace HS3_0:=nS HS3_0;replace HF3_1:=nF HF3_1;replace HS3_1:=nS HS3_1;replace BK1:=nB BK1;replace BK2:=nB BK2;replace HB:=aA.mk (aT HB.out hb);replace BK4:=aA.mk (hbox);replace HORD:=aA.mk (And.intro HORD.out (And.intro hge_ (Nat.le_succ gb4)));replace HT:=aA.mk (hlt_);clear hb hbox hg_ hge_ hlt_;have:=bs4 BK1.out;have:=bs4 BK2.out;have:=bs4 BK4.out)|((with_reducible refine bN (t:=25) (p:=7) rfl ?_);refine bL (t:=25) (p:=7) (v:=?vo_w5) (w1:=((((w4.setCell ⟨gb4,0,none⟩ (.slice A3_0 l0_0.length c3_0)).setCell ⟨gb4,1,none⟩ (.slice A3_1 l0_1.length c3_1)).setCell ⟨gb4,2,none⟩ (.int .i64 a0_2)).setCell ⟨gb4,3,none⟩ (.bool false))) ?hg ?ho ?hn ?hr ?_;(case ho=>rfl);(case hg=>rfl);(case hn=>rfl);(case hr=>exact tE);intro w5 hw_;have hkp:Kept w4 w5 (fun k_=>k_ = gb4):=t3;have hge_:w.heap.size ≤ gb4:=tL;have hbn_:Below w.heap.size w w5:=tU;have hbk_:w5.heap[gb4]? = some (.cells #[.slice A3_0 l0_0.length c3_0,.slice A3_1 l0_1.length c3_1,.int .i64 a0_2,.bool false] 25 (0,0)):=tM;have hsz_:(gb4 + 1) ≤ w5.heap.size:=Nat.le_trans HT.out hkp.1;replace HF0_0:=aA.mk (Kd.aU HF0_0.out hkp tA);replace HF0_1:=aA.mk (Kd.aU HF0_1.out hkp tA);replace HF2:=aA.mk (Kd.aU HF2.out hkp tA);replace HF3_0:=aA.mk (Kd.aU HF3_0.out hkp tA);replace HS3_0:=aA.mk (Kd.bP HS3_0.out hkp tA);replace HF3_1:=aA.mk (Kd.aU HF3_1.out hkp tA);replace HS3_1:=aA.mk (Kd.bP HS3_1.out hkp tA);replace BK1:=aA.mk (aY BK1.out hkp tB);replace BK2:=aA.mk (aY BK2.out hkp tB);replace HB:=aA.mk (hbn_);replace BK4:=aA.mk (hbk_);replace HT:=aA.mk (hsz_);clear hw_ hkp hge_ hbn_ hbk_ hsz_;have:=bs4 BK1.out;have:=bs4 BK2.out;have:=bs4 BK4.out)|((with_reducible refine aW (f:=20) rfl ?_);refine bK (some 12) rfl rfl Try.func20 tG rfl #[.agg #[.slice A0_0 l0_0.length c0_0,.slice A0_1 l0_1.length c0_1,.int .i64 a0_2,.bool false]] rfl tC ?_;(with_reducible refine (impl_DevOk.calls kd _ _ l0_0 _ _ l0_1 a0_2 false true _ ?s1 ?s2 ?s3 ?s4 JD.out).mono ?_);(case s1=>exact wn);(case s2=>exact Ay);(case s3=>exact wm);(case s4=>exact Ax);rintro e_ w6 ⟨rfl,hb⟩;refine ⟨_,rfl,?_⟩;replace HF0_0:=nF HF0_0;replace HF0_1:=nF HF0_1;replace HF2:=nF HF2;replace HF3_0:=nF HF3_0;replace HS3_0:=nS HS3_0;replace HF3_1:=nF HF3_1;replace HS3_1:=nS HS3_1;replace BK1:=nB BK1;replace BK2:=nB BK2;replace BK4:=nB BK4;replace HB:=aA.mk (aT HB.out hb);replace HT:=aA.mk (Nat.le_trans HT.out hb.size);(try clear hb);have:=bs4 BK1.out;have:=bs4 BK2.out;have:=bs4 BK4.out)|((with_reducible refine aW (f:=44) rfl ?_);refine cC we ?_;refine bK (some 24) rfl rfl Try.func44 tG rfl #[.int .i64 a1,.int .i64 0,.int .i64 ((wrap64 ((l0_0.length:Int) - 1)))] rfl tC ?_;(with_reducible refine (impl_within.calls a1 0 ((wrap64 ((l0_0.length:Int) - 1))) true _ JW.out).mono ?_);rintro e_ w7 ⟨rfl,hd⟩;refine ⟨_,rfl,?_⟩;have hb:=hd.below;clear hd;replace HF0_0:=nF HF0_0;replace HF0_1:=nF HF0_1;replace HF2:=nF HF2;replace HF3_0:=nF HF3_0;replace HS3_0:=nS HS3_0;replace HF3_1:=nF HF3_1;replace HS3_1:=nS HS3_1;replace BK1:=nB BK1;replace BK2:=nB BK2;replace BK4:=nB BK4;replace HB:=aA.mk (aT HB.out hb);replace HT:=aA.mk (Nat.le_trans HT.out hb.size);(try clear hb);have:=bs4 BK1.out;have:=bs4 BK2.out;have:=bs4 BK4.out)|((with_reducible refine aW (f:=59) rfl ?_);refine bK (some 41) rfl rfl Try.func59 tG rfl #[.agg #[.slice A3_0 l0_0.length c3_0,.slice A3_1 l0_1.length c3_1,.int .i64 a0_2,.bool false]] rfl tC ?_;(with_reducible refine (impl_burnS.calls _ _ l0_0 _ _ l0_1 a0_2 false f1 b1 true _ JB.out).mono ?_);rintro e_ w8 ⟨rfl,hb⟩;refine ⟨_,rfl,?_⟩;replace HF0_0:=nF HF0_0;replace HF0_1:=nF HF0_1;replace HF2:=nF HF2;replace HF3_0:=nF HF3_0;replace HS3_0:=nS HS3_0;replace HF3_1:=nF HF3_1;replace HS3_1:=nS HS3_1;replace BK1:=nB BK1;replace BK2:=nB BK2;replace BK4:=nB BK4;replace HB:=aA.mk (aT HB.out hb);replace HT:=aA.mk (Nat.le_trans HT.out hb.size);(try clear hb);have:=bs4 BK1.out;have:=bs4 BK2.out;have:=bs4 BK4.out)|((with_reducible refine bN (t:=25) (p:=7) rfl ?_);refine bL (t:=25) (p:=7) (v:=?vo_w9) (w1:=((((w8.setCell ⟨gb4,0,none⟩ (.slice A3_0 l0_0.length c3_0)).setCell ⟨gb4,1,none⟩ (.slice A3_1 l0_1.length c3_1)).setCell ⟨gb4,2,none⟩ (.int .i64 f1)).setCell ⟨gb4,3,none⟩ (.bool b1))) ?hg ?ho ?hn ?hr ?_;(case ho=>rfl);(case hg=>rfl);(case hn=>rfl);(case hr=>exact tE);intro w9 hw_;have hkp:Kept w8 w9 (fun k_=>k_ = gb4):=AH;have hge_:w.heap.size ≤ gb4:=tL;have hbn_:Below w.heap.size w w9:=tU;have hbk_:w9.heap[gb4]? = some (.cells #[.slice A3_0 l0_0.length c3_0,.slice A3_1 l0_1.length c3_1,.int .i64 f1,.bool b1] 25 (0,0)):=tY;have hsz_:(gb4 + 1) ≤ w9.heap.size:=Nat.le_trans HT.out hkp.1;replace HF0_0:=aA.mk (Kd.aU HF0_0.out hkp tA);replace HF0_1:=aA.mk (Kd.aU HF0_1.out hkp tA);replace HF2:=aA.mk (Kd.aU HF2.out hkp tA);replace HF3_0:=aA.mk (Kd.aU HF3_0.out hkp tA);replace HS3_0:=aA.mk (Kd.bP HS3_0.out hkp tA);replace HF3_1:=aA.mk (Kd.aU HF3_1.out hkp tA);replace HS3_1:=aA.mk (Kd.bP HS3_1.out hkp tA);replace BK1:=aA.mk (aY BK1.out hkp tB);replace BK2:=aA.mk (aY BK2.out hkp tB);replace HB:=aA.mk (hbn_);replace BK4:=aA.mk (hbk_);replace HT:=aA.mk (hsz_);clear hw_ hkp hge_ hbn_ hbk_ hsz_;have:=bs4 BK1.out;have:=bs4 BK2.out;have:=bs4 BK4.out))
 replace HF0_0:=aA.mk (Kd.F_drew HF0_0.out)
 replace HF0_1:=aA.mk (Kd.F_drew HF0_1.out)
 replace HF2:=aA.mk (Kd.F_drew HF2.out)
 replace HF3_0:=aA.mk (Kd.F_drew HF3_0.out)
 replace HS3_0:=aA.mk (Kd.S_drew HS3_0.out)
 replace HF3_1:=aA.mk (Kd.F_drew HF3_1.out)
 replace HS3_1:=aA.mk (Kd.S_drew HS3_1.out)
 replace BK1:=aA.mk (aN BK1.out)
 replace BK2:=aA.mk (aN BK2.out)
 replace BK4:=aA.mk (aN BK4.out)
 replace HB:=aA.mk (aH HB.out)
 replace HT:=aA.mk (show _ ≤ w9.drew.heap.size from HT.out)
 refine start_ (n:=11) (S:=fun w'=>w'.cell? ⟨gb4,0,none⟩ = some (.slice A3_0 l0_0.length c3_0) ∧ w'.cell? ⟨gb4,1,none⟩ = some (.slice A3_1 l0_1.length c3_1) ∧ w'.cell? ⟨gb4,2,none⟩ = some (.int .i64 f1) ∧ w'.cell? ⟨gb4,3,none⟩ = some (.bool b1)) (ds:=[10]) #[F0,F0,F0,F0,F0,F0,F0,F0,F0,F0,F0] tG rfl rfl ⟨(aD BK4.out 0).trans rfl,(aD BK4.out 1).trans rfl,(aD BK4.out 2).trans rfl,(aD BK4.out 3).trans rfl⟩ (fun hHeld=>?_)
 generalize w9.drew = w10 at HF0_0 HF0_1 HF2 HF3_0 HS3_0 HF3_1 HS3_1 BK1 BK2 BK4 HB HT hHeld ⊢
 refine bT (i:=0) (N:=some 45) (v:=?_) (a':=?_) #[T1,F0,F0,F0,F0,F0,F0,F0,F0,F0,F0] rfl rfl tG (fun _ _ _ h=>h) (Or.inl ⟨vr,?_⟩) ?_ ?_
 rotate_left
 ·intro w'
  go_simp
  with_reducible rfl
 rotate_left
 ·simp only [Act.put,lA,lB,lC,bE,bG]
  rfl
 refine take_ (i:=1) (N:=some 46) (v:=?_) (a':=?_) #[T1,T1,F0,F0,F0,F0,F0,F0,F0,F0,F0] rfl rfl tG (fun _ _ _ h=>h) (Or.inl ⟨vr,?_⟩) hHeld ?_ ?_
 rotate_left
 ·rintro w' ⟨s0,s1,s2,s3⟩
  go_simp
  with_reducible rfl
 rotate_left
 ·simp only [Act.put,lA,lB,lC,bE,bG]
  rfl
 refine bT (i:=2) (N:=some 47) (v:=?_) (a':=?_) #[T1,T1,T1,F0,F0,F0,F0,F0,F0,F0,F0] rfl rfl tG (fun _ _ _ h=>h) (Or.inl ⟨vr,?_⟩) ?_ ?_
 rotate_left
 ·intro w'
  go_simp
  with_reducible rfl
 rotate_left
 ·simp only [Act.put,lA,lB,lC,bE,bG]
  rfl
 refine bT (i:=3) (N:=some 48) (v:=?_) (a':=?_) #[T1,T1,T1,T1,F0,F0,F0,F0,F0,F0,F0] rfl rfl tG (fun _ _ _ h=>h) (Or.inl ⟨vr,?_⟩) ?_ ?_
 rotate_left
 ·intro w'
  go_simp
  with_reducible rfl
 rotate_left
 ·simp only [Act.put,lA,lB,lC,bE,bG]
  rfl
 refine one_ (i:=4) (N:=some 49) #[T1,T1,T1,T1,T1,F0,F0,F0,F0,F0,F0] rfl rfl tG tf (fun K hK=>?_)
 refine Kd.N_lit_step (Kd.slice 5 (Kd.int .u8)) _ 37 ?hg (N':=49) ?hd (xs:=([l2]:List (List (Int)))) (inner:=[.slice A2 l2.length c2]) (ok:=(fun k_=>(In 0 w.heap.size) k_ ∨ (gb4 + 1) ≤ k_)) (okp:=(In 0 w.heap.size)) ?hr ?hp (fun _ hk=>.inl hk) (.inr HT.out) (Below.refl _ _) (Nat.le_refl _) vN ?_
 (case hd=>rfl)
 (case hg=>rfl)
 (case hr=>exact tE)
 (case hp=>exact (Reps.one (Kd.FK_slice_mk HC2.out HF2.out) (Reps.none _ _)))
 intro vl11 w11 ho_ hb hg_ hat_
 obtain ⟨A11,c11,ev_⟩:=Kd.cB ho_
 subst ev_
 replace HF0_0:=nF HF0_0
 replace HF0_1:=nF HF0_1
 replace HF2:=nF HF2
 replace HF3_0:=nF HF3_0
 replace HS3_0:=nS HS3_0
 replace HF3_1:=nF HF3_1
 replace HS3_1:=nS HS3_1
 replace BK1:=nB BK1
 replace BK2:=nB BK2
 replace BK4:=nB BK4
 replace HB:=aA.mk (aT HB.out hb)
 replace HT:=aA.mk (Nat.le_trans HT.out hb.size)
 replace HF11:=aA.mk (Kd.N_F ho_)
 replace HC11:=aA.mk ((Kd.N_reads' ho_).2.1)
 clear hb ho_ hg_ hat_
 refine hK.out _ _ ⟨(aD BK4.out 0).trans rfl,(aD BK4.out 1).trans rfl,(aD BK4.out 2).trans rfl,(aD BK4.out 3).trans rfl⟩ (fun hHeld=>?_)
 clear hK K
 refine norm_ (a':=?_) ?_ ?_
 rotate_left
 ·show Act.put _ (some 49) _ = _
  simp only [Act.put,lA,lB,lC,bE,bG]
  rfl
 refine one_ (i:=5) (N:=some 50) #[T1,T1,T1,T1,T1,T1,F0,F0,F0,F0,F0] rfl rfl tG tf (fun K hK=>?_)
 obtain ⟨kj13,hj_⟩:=joined1 l2 (h2l)
 have J13:=aA.mk hj_
 clear hj_
 refine goes_ Try.func55 tG rfl #[.slice A11 (([l2]:List (List (Int)))).length c11] wN rfl rfl tC ?_
 (with_reducible refine (impl_joined.calls kj13 _ _ (([l2]:List (List (Int)))) l2 _ ?s1 ?s2 J13.out).mono ?_)
 (case s1=>exact (Kd.bR HF11.out))
 (case s2=>exact HC11.out)
 rintro e_ w12 ⟨v0_,rfl,ho0,hb⟩
 refine ⟨_,rfl,?_⟩
 obtain ⟨lo12,hi12,el_,eh_,ol_,oh_⟩:=Mem.times HT.out hb
 (try rw [← el_] at ho0)
 obtain ⟨A12_0,c12_0,ev_,hc0_,hf0_,hs0_⟩:=Mem.new_R ho0 eh_
 subst ev_
 replace HF0_0:=nF HF0_0
 replace HF0_1:=nF HF0_1
 replace HF2:=nF HF2
 replace HF3_0:=nF HF3_0
 replace HS3_0:=nS HS3_0
 replace HF3_1:=nF HF3_1
 replace HS3_1:=nS HS3_1
 replace HF11:=nF HF11
 replace BK1:=nB BK1
 replace BK2:=nB BK2
 replace BK4:=nB BK4
 replace HB:=aA.mk (aT HB.out hb)
 replace HF12_0:=aA.mk (hf0_)
 replace HC12_0:=aA.mk (hc0_)
 replace HS12_0:=aA.mk (hs0_)
 replace HORD:=aA.mk (And.intro HORD.out (And.intro ol_ oh_))
 replace HT:=aA.mk (Nat.le_of_eq eh_)
 clear ol_ oh_ el_ eh_ ho0 hf0_ hc0_ hs0_
 (try clear hb)
 refine hK.out _ _ ⟨(aD BK4.out 0).trans rfl,(aD BK4.out 1).trans rfl,(aD BK4.out 2).trans rfl,(aD BK4.out 3).trans rfl⟩ (fun hHeld=>?_)
 clear hK K
 refine norm_ (a':=?_) ?_ ?_
 rotate_left
 ·show Act.put _ (some 50) _ = _
  simp only [Act.put,lA,lB,lC,bE,bG]
  rfl
 refine bT (i:=6) (N:=some 51) (v:=?_) (a':=?_) #[T1,T1,T1,T1,T1,T1,T1,F0,F0,F0,F0] rfl rfl tG (fun _ _ _ h=>h) (Or.inl ⟨vr,?_⟩) ?_ ?_
 rotate_left
 ·intro w'
  go_simp
  with_reducible rfl
 rotate_left
 ·simp only [Act.put,lA,lB,lC,bE,bG]
  rfl
 refine one_ (i:=7) (N:=some 52) #[T1,T1,T1,T1,T1,T1,T1,T1,F0,F0,F0] rfl rfl tG tf (fun K hK=>?_)
 refine value_ (w1:=?_) (v:=?_) wN rfl ?_ ?_
 rotate_left 2
 ·go_simp
  constructor
  ·rfl
  ·rfl
 refine hK.out _ _ ⟨(aD (aG BK4.out _) 0).trans rfl,(aD (aG BK4.out _) 1).trans rfl,(aD (aG BK4.out _) 2).trans rfl,(aD (aG BK4.out _) 3).trans rfl⟩ (fun hHeld=>?_)
 clear hK K
 refine norm_ (a':=?_) ?_ ?_
 rotate_left
 ·show Act.put _ (some 52) _ = _
  simp only [Act.put,lA,lB,lC,bE,bG]
  rfl
 refine one_ (i:=8) (N:=some 53) #[T1,T1,T1,T1,T1,T1,T1,T1,T1,F0,F0] rfl rfl tG tf (fun K hK=>?_)
 refine Kd.S_append_step k50 (w0:=w) w.heap.size wN (.tmp 46) (.tmp 52) 23 50 (.agg #[.int .i64 0,.slice none 0 0]) 32 rfl Try.underlying23 info50 rfl tf tZ (.slice A3_1 l0_1.length c3_1) l0_1 ((⟨a1,l2⟩:S50)) [.int .i64 a1,.slice A12_0 l2.length c12_0] (Up mm3 hi3 lo12) (In lo12 hi12) rfl rfl ?aP ?aK ?aF ?aO ?aB ?aS ?aL ?_
 (case aB=>exact HB.out)
 (case aS=>exact aX HB.out)
 (case aP=>exact k50_mkM _ _ _ _ (Kd.R_lower HS12_0.out Am))
 (case aK=>exact (fun k_ hk_=>⟨vK,(fun he_=>by have hz_:=(Kd.S_R HS3_1.out).1 k_ he_.symm;have o_:=HORD.out;have t_:=HT.out;(try simp only [In2,Up,In,Ex,Exb] at hk_ hz_);omega)⟩))
 (case aF=>exact tR)
 (case aO=>exact Kd.bU (Kd.bZ HS3_1.out tq) (fun k_ hk_=>⟨vK,AL⟩))
 (case aL=>(have hl1_:=okWrS_len hok1;omega))
 intro v14 w14 ho_ hbn_ hg_ hat_
 obtain ⟨ys14,ey_⟩:∃ y_,y_ = l0_1 ++ [(⟨a1,l2⟩:S50)]:=⟨_,rfl⟩
 rw [← ey_] at ho_
 have HY14:=aA.mk ey_
 clear ey_
 have hkp:=kept_grown (S:=(In mm3 hi3)) hg_ (fun k_ he_=>(Kd.S_R HS3_1.out).1 k_ he_)
 obtain ⟨A14,c14,ev_⟩:=Kd.S_slice ho_
 subst ev_
 obtain ⟨hi14,e2_⟩:∃ n_,n_ = w14.heap.size:=⟨_,rfl⟩
 have ol_:hi12 ≤ hi14:=wT
 have hs_:=Kd.bU (ok':=In2 mm3 hi3 lo12 hi14) (Kd.S_bound ho_) vA
 replace HF0_0:=aA.mk (Kd.aU HF0_0.out hkp tA)
 replace HF0_1:=aA.mk (Kd.aU HF0_1.out hkp tA)
 replace HF2:=aA.mk (Kd.aU HF2.out hkp tA)
 replace HF3_0:=aA.mk (Kd.aU HF3_0.out hkp tA)
 replace HS3_0:=aA.mk (Kd.bP HS3_0.out hkp tA)
 replace BK1:=aA.mk (aY BK1.out hkp tB)
 replace BK2:=aA.mk (aY BK2.out hkp tB)
 replace BK4:=aA.mk (aY BK4.out hkp tB)
 replace HB:=aA.mk (hbn_)
 replace HORD:=aA.mk (And.intro HORD.out ol_)
 replace HT:=aA.mk (Nat.le_of_eq e2_)
 replace HS14:=aA.mk (hs_)
 replace HF14:=aA.mk (Kd.S_F hs_)
 replace HC14:=aA.mk ((Kd.S_reads' hs_).2.1)
 clear hs_ ho_ hbn_ hg_ hat_ hkp ol_ e2_
 refine hK.out _ _ ⟨(aD BK4.out 0).trans rfl,(aD BK4.out 1).trans rfl,(aD BK4.out 2).trans rfl,(aD BK4.out 3).trans rfl⟩ (fun hHeld=>?_)
 clear hK K
 refine norm_ (a':=?_) ?_ ?_
 rotate_left
 ·show Act.put _ (some 53) _ = _
  simp only [Act.put,lA,lB,lC,bE,bG]
  rfl
 refine bT (i:=9) (N:=some 54) (v:=?_) (a':=?_) #[T1,T1,T1,T1,T1,T1,T1,T1,T1,T1,F0] rfl rfl tG (fun _ _ _ h=>h) (Or.inl ⟨vr,?_⟩) ?_ ?_
 rotate_left
 ·intro w'
  go_simp
  with_reducible rfl
 rotate_left
 ·simp only [Act.put,lA,lB,lC,bE,bG]
  rfl
 refine last_ (i:=10) (N:=none) #[T1,T1,T1,T1,T1,T1,T1,T1,T1,T1,T1] rfl rfl tG tf (fun K hK=>?_)
 have:=bs4 BK1.out
 have:=bs4 BK2.out
 have:=bs4 BK4.out
 have hge_:w.heap.size ≤ gb4:=tq
 refine skip_ (w1:=?_) wN rfl ?_ ?_
 rotate_left
 ·go_simp
  rfl
 refine hK.out _ _ ?_
 clear hK K
 refine done_ tG ?_
 obtain ⟨w15,hw_⟩:∃ z_,z_ = (w14.setCell ⟨gb4,1,none⟩ (.slice A14 ys14.length c14)):=⟨_,rfl⟩
 (try rw [← hw_])
 have hkp:Kept w14 w15 (fun k_=>k_ = gb4):=(by rw [hw_];exact Kept.setCell (Kept.refl w14 (fun k_=>k_ = gb4)) (.inl rfl) (.slice A14 ys14.length c14))
 have hbn_:Below w.heap.size w w15:=vu
 have hbk_:w15.heap[gb4]? = some (.cells #[.slice A3_0 l0_0.length c3_0,.slice A14 ys14.length c14,.int .i64 f1,.bool b1] 25 (0,0)):=(by rw [hw_];exact aQ (cs:=#[.slice A3_0 l0_0.length c3_0,.slice A3_1 l0_1.length c3_1,.int .i64 f1,.bool b1]) (cs':=#[.slice A3_0 l0_0.length c3_0,.slice A14 ys14.length c14,.int .i64 f1,.bool b1]) (BK4.out) 1 _ rfl)
 have hsz_:hi14 ≤ w15.heap.size:=Nat.le_trans HT.out hkp.1
 replace HF0_0:=aA.mk (Kd.aU HF0_0.out hkp tA)
 replace HF0_1:=aA.mk (Kd.aU HF0_1.out hkp tA)
 replace HF2:=aA.mk (Kd.aU HF2.out hkp tA)
 replace HF3_0:=aA.mk (Kd.aU HF3_0.out hkp tA)
 replace HS3_0:=aA.mk (Kd.bP HS3_0.out hkp tA)
 replace HF14:=aA.mk (Kd.aU HF14.out hkp tA)
 replace HS14:=aA.mk (Kd.bP HS14.out hkp tA)
 replace BK1:=aA.mk (aY BK1.out hkp tB)
 replace BK2:=aA.mk (aY BK2.out hkp tB)
 replace HB:=aA.mk (hbn_)
 replace BK4:=aA.mk (hbk_)
 replace HT:=aA.mk (hsz_)
 clear hw_ hkp hge_ hbn_ hbk_ hsz_
 have:=bs4 BK1.out
 have:=bs4 BK2.out
 have:=bs4 BK4.out
 go_wp2_with (first|((with_reducible refine bN (t:=25) (p:=6) rfl ?_);refine bL (t:=25) (p:=6) (v:=?vo_w16) (w1:=((((w15.setCell ⟨gb2,0,none⟩ (.slice A3_0 l0_0.length c3_0)).setCell ⟨gb2,1,none⟩ (.slice A14 ys14.length c14)).setCell ⟨gb2,2,none⟩ (.int .i64 f1)).setCell ⟨gb2,3,none⟩ (.bool b1))) ?hg ?ho ?hn ?hr ?_;(case ho=>rfl);(case hg=>rfl);(case hn=>rfl);(case hr=>exact tE);intro w16 hw_;have hkp:Kept w15 w16 (fun k_=>k_ = gb2):=(by rw [hw_];exact Kept.setCell (Kept.setCell (Kept.setCell (Kept.setCell (Kept.refl w15 (fun k_=>k_ = gb2)) (.inl rfl) (.slice A3_0 l0_0.length c3_0)) (.inl rfl) (.slice A14 ys14.length c14)) (.inl rfl) (.int .i64 f1)) (.inl rfl) (.bool b1));have hge_:w.heap.size ≤ gb2:=tL;have hbn_:Below w.heap.size w w16:=tU;have hbk_:w16.heap[gb2]? = some (.cells #[.slice A3_0 l0_0.length c3_0,.slice A14 ys14.length c14,.int .i64 f1,.bool b1] 25 (0,0)):=(by rw [hw_];exact aQ (cs:=#[.slice A3_0 l0_0.length c3_0,.slice A14 ys14.length c14,.int .i64 f1,.bool false]) (cs':=#[.slice A3_0 l0_0.length c3_0,.slice A14 ys14.length c14,.int .i64 f1,.bool b1]) (aQ (cs:=#[.slice A3_0 l0_0.length c3_0,.slice A14 ys14.length c14,.int .i64 0,.bool false]) (cs':=#[.slice A3_0 l0_0.length c3_0,.slice A14 ys14.length c14,.int .i64 f1,.bool false]) (aQ (cs:=#[.slice A3_0 l0_0.length c3_0,.slice none 0 0,.int .i64 0,.bool false]) (cs':=#[.slice A3_0 l0_0.length c3_0,.slice A14 ys14.length c14,.int .i64 0,.bool false]) (aQ (cs:=#[.slice none 0 0,.slice none 0 0,.int .i64 0,.bool false]) (cs':=#[.slice A3_0 l0_0.length c3_0,.slice none 0 0,.int .i64 0,.bool false]) (BK2.out) 0 _ rfl) 1 _ rfl) 2 _ rfl) 3 _ rfl);have hsz_:hi14 ≤ w16.heap.size:=Nat.le_trans HT.out hkp.1;replace HF0_0:=aA.mk (Kd.aU HF0_0.out hkp tA);replace HF0_1:=aA.mk (Kd.aU HF0_1.out hkp tA);replace HF2:=aA.mk (Kd.aU HF2.out hkp tA);replace HF3_0:=aA.mk (Kd.aU HF3_0.out hkp tA);replace HS3_0:=aA.mk (Kd.bP HS3_0.out hkp tA);replace HF14:=aA.mk (Kd.aU HF14.out hkp tA);replace HS14:=aA.mk (Kd.bP HS14.out hkp tA);replace BK1:=aA.mk (aY BK1.out hkp tB);replace BK4:=aA.mk (aY BK4.out hkp tB);replace HB:=aA.mk (hbn_);replace BK2:=aA.mk (hbk_);replace HT:=aA.mk (hsz_);clear hw_ hkp hge_ hbn_ hbk_ hsz_;have:=bs4 BK1.out;have:=bs4 BK2.out;have:=bs4 BK4.out))
 refine bodyPost_ret (fn:=Try.f28) (P:=Try.prog) (results_cell_row rfl _ _ gb2 25 #[.slice A3_0 l0_0.length c3_0,.slice A14 ys14.length c14,.int .i64 f1,.bool b1] (0,0) _ rfl BK2.out Try.underlying25 rfl tG) rfl ?_
 first|exact ⟨_,_,mm3,rfl,tH,tH,Kd.bU (Kd.bZ HS3_0.out tH) tJ,(by rw [show _ = ys14 from (HY14.out).symm];exact Kd.bU (Kd.bZ HS14.out tH) tJ),HB.out⟩|exact ⟨_,_,rfl,mm3,tH,tH,Kd.bU (Kd.bZ HS3_0.out tH) tJ,(by rw [show _ = ys14 from (HY14.out).symm];exact Kd.bU (Kd.bZ HS14.out tH) tJ),HB.out⟩
def impl_WriteSecS.f (l0_0:List (List Int)) (l0_1:List (S50)) (a0_2:Int) (a0_3:Bool) (a1:Int) (l2:List Int):Option (List (List Int) × List (S50) × Int × Bool):=if okDevB l0_0 l0_1 = true then some (writeSec l0_0 l0_1 a0_2 a0_3 a1 l2) else none
theorem impl_WriteSecS.calls (P0_0_:Nat → Prop) (A0_0:Option Addr) (c0_0:Nat) (l0_0:List (List Int)) (P0_1_:Nat → Prop) (A0_1:Option Addr) (c0_1:Nat) (l0_1:List (S50)) (a0_2:Int) (a0_3:Bool) (a1:Int) (P2_:Nat → Prop) (A2:Option Addr) (c2:Nat) (l2:List Int) (r1:List (List Int)) (r2:List (S50)) (r3:Int) (r4:Bool) (w:World) (hs0_0:Kd.V (Kd.slice 5 (Kd.int .u8)) 37 w w.heap.size (fun k_=>P0_0_ k_) (.slice A0_0 l0_0.length c0_0) l0_0) (hs0_1:Kd.V k50 50 w w.heap.size (fun k_=>P0_1_ k_) (.slice A0_1 l0_1.length c0_1) l0_1) (hs2:Kd.V (Kd.int .u8) 5 w w.heap.size (fun k_=>P2_ k_) (.slice A2 l2.length c2) l2) (h:impl_WriteSecS.f l0_0 l0_1 a0_2 a0_3 a1 l2 = some (r1,r2,r3,r4)) :
  Calls Try.prog 28 #[.agg #[.slice A0_0 l0_0.length c0_0,.slice A0_1 l0_1.length c0_1,.int .i64 a0_2,.bool a0_3],.int .i64 a1,.slice A2 l2.length c2] w fun e w'=>∃ v0_ v1_:Value,∃ m_:Nat,e = .returned (.agg #[v0_,v1_,.int .i64 r3,.bool r4]) ∧ w.heap.size ≤ m_ ∧ m_ ≤ w'.heap.size ∧ Kd.S (Kd.slice 5 (Kd.int .u8)) 37 w' w.heap.size (In w.heap.size m_) v0_ r1 ∧ Kd.S k50 50 w' w.heap.size (In m_ w'.heap.size) v1_ r2 ∧ Below w.heap.size w w':=by
 obtain ⟨_,hc0_,hf0_⟩:=Kd.V_at hs0_0
 obtain ⟨_,hc1_,hf1_⟩:=Kd.V_at hs0_1
 replace hf0_:=Kd.F_mono (ok':=In 0 w.heap.size) (Kd.F_bound hf0_) (fun k hk=>⟨Nat.zero_le k,hk.2⟩)
 replace hf1_:=Kd.F_mono (ok':=In 0 w.heap.size) (Kd.F_bound hf1_) (fun k hk=>⟨Nat.zero_le k,hk.2⟩)
 obtain ⟨_,hc2_,hf2_⟩:=Kd.V_at hs2
 replace hf2_:=Kd.F_mono (ok':=In 0 w.heap.size) (Kd.F_bound hf2_) (fun k hk=>⟨Nat.zero_le k,hk.2⟩)
 unfold impl_WriteSecS.f at h
 split at h
 ·rename_i hok
  unfold okDevB at hok
  simp only [Bool.and_eq_true,decide_eq_true_eq] at hok
  obtain ⟨hok0,hok1⟩:=hok
  injection h with h
  unfold writeSec at h
  by_cases hdo:devOkB l0_0 l0_1 a0_2 = true
  ·rw [if_pos hdo] at h
   have hcl:=devOk_cache hdo
   unfold wrote at h
   by_cases hp:putsB l0_0 l0_1 a0_3 a1 l2 = true
   ·rw [if_pos hp] at h
    unfold putsB at hp
    simp only [Bool.and_eq_true,Bool.not_eq_true',decide_eq_false_iff_not] at hp
    obtain ⟨hd,hwi,h80,h60⟩:=hp
    subst hd
    obtain ⟨⟨f1,b1,o1⟩,hbu⟩:∃ z,burnF a0_2 false = z:=⟨_,rfl⟩
    rw [hbu] at h
    cases o1 with
    | true =>
     simp only [if_true,Prod.mk.injEq] at h
     obtain ⟨rfl,rfl,rfl,rfl⟩:=h
     exact walk_WriteSec7 _ _ _ _ _ _ _ _ _ _ _ w hf0_ hc0_ hf1_ hc1_ hf2_ hc2_ hok0 hok1 hdo hwi h80 tZ _ _ hbu tZ
    | false =>
     simp only [Bool.false_eq_true,if_false,Prod.mk.injEq] at h
     obtain ⟨rfl,rfl,rfl,rfl⟩:=h
     exact walk_WriteSec6 _ _ _ _ _ _ _ _ _ _ _ w hf0_ hc0_ hf1_ hc1_ hf2_ hc2_ hok0 hok1 hdo hwi h80 tZ _ _ hbu
   ·rw [if_neg hp] at h
    simp only [Prod.mk.injEq] at h
    obtain ⟨rfl,rfl,rfl,rfl⟩:=h
    cases a0_3 with
    | true=>exact walk_WriteSec2 _ _ _ _ _ _ _ _ _ _ _ w hf0_ hc0_ hf1_ hc1_ hf2_ hc2_ hok0 hok1 hdo
    | false =>
     by_cases hwi:decide (0 ≤ a1 ∧ a1 ≤ wrap64 ((l0_0.length:Int) - 1)) = true
     ·by_cases h80:80 < (l2.length:Int)
      ·exact walk_WriteSec4 _ _ _ _ _ _ _ _ _ _ _ w hf0_ hc0_ hf1_ hc1_ hf2_ hc2_ hok0 hok1 hdo hwi h80
      ·have h60:(l0_1.length:Int) = 60:=by
        by_cases h6:60 ≤ (l0_1.length:Int)
        ·omega
        ·exact absurd (by unfold putsB;rw [hwi,decide_eq_false h80,decide_eq_false h6];rfl) hp
       exact walk_WriteSec5 _ _ _ _ _ _ _ _ _ _ _ w hf0_ hc0_ hf1_ hc1_ hf2_ hc2_ hok0 hok1 hdo hwi h80 h60
     ·exact walk_WriteSec3 _ _ _ _ _ _ _ _ _ _ _ w hf0_ hc0_ hf1_ hc1_ hf2_ hc2_ hok0 hok1 hdo (by simpa using hwi)
  ·rw [if_neg hdo] at h
   simp only [Prod.mk.injEq] at h
   obtain ⟨rfl,rfl,rfl,rfl⟩:=h
   exact walk_WriteSec1 _ _ _ _ _ _ _ _ _ _ _ _ w hf0_ hc0_ hf1_ hc1_ hf2_ hc2_ hok0 hok1 (by simpa using hdo)
 ·cases h
end Go.Proofs.Ytilhcaofpfeioaa.Law

namespace Go.Proofs.Ytilhcaofpfeioaa.Law
open Go.RowKit Go.Proofs.Ytilhcaofpfeioaa.PFnDevsBent Go.Proofs.Ytilhcaofpfeioaa.Core Go.Proofs.YtilhcaofpfeioaaW.PrintWords Go.Proofs.YtilhcaofpfeioaaW.PrintLast Go.Proofs.YtilhcaofpfeioaaW.PrintMore Go.Proofs.Ytilhcaofpfeioaa.Pure
set_option linter.unusedSimpArgs false
set_option linter.unusedVariables false
set_option maxHeartbeats 8000000 in
set_option maxRecDepth 100000 in
theorem walk_FlushDev1 (A0_0:Option Addr) (c0_0:Nat) (l0_0:List (List (Int))) (A0_1:Option Addr) (c0_1:Nat) (l0_1:List (S50)) (a0_2:Int) (a0_3:Bool) (w:World) (hf0_0:Kd.F (Kd.slice 5 (Kd.int .u8)) w (In 0 w.heap.size) A0_0 l0_0.length l0_0) (hc0_0:l0_0.length ≤ c0_0) (hf0_1:Kd.F k50 w (In 0 w.heap.size) A0_1 l0_1.length l0_1) (hc0_1:l0_1.length ≤ c0_1) (hok0:okByteSS l0_0) (hok1:okWrS l0_1) (hdo:devOkB l0_0 l0_1 a0_2 = false) :
  Calls Try.prog 30 #[.agg #[.slice A0_0 l0_0.length c0_0,.slice A0_1 l0_1.length c0_1,.int .i64 a0_2,.bool a0_3]] w fun e w'=>∃ v0_ v1_:Value,∃ m_:Nat,e = .returned (.agg #[v0_,v1_,.int .i64 a0_2,.bool a0_3]) ∧ w.heap.size ≤ m_ ∧ m_ ≤ w'.heap.size ∧ Kd.S (Kd.slice 5 (Kd.int .u8)) 37 w' w.heap.size (In w.heap.size m_) v0_ l0_0 ∧ Kd.S k50 50 w' w.heap.size (In m_ w'.heap.size) v1_ l0_1 ∧ Below w.heap.size w w':=by
 have hu25:=Try.underlying25
 have hu50:=Try.underlying50
 have HF0_0:=aA.mk hf0_0
 have HC0_0:=aA.mk hc0_0
 clear hf0_0 hc0_0
 have HF0_1:=aA.mk hf0_1
 have HC0_1:=aA.mk hc0_1
 clear hf0_1 hc0_1
 have HB:=aA.mk (Below.refl w.heap.size w)
 have HORD:=aA.mk (Nat.le_refl w.heap.size)
 have HT:=aA.mk (Nat.le_refl w.heap.size)
 have JC:=aA.mk (copyDevS_f hok0 hok1 a0_2 a0_3)
 obtain ⟨kd,hd0_⟩:=evGet (impl_DevOk_ev l0_0 l0_1 a0_2 a0_3 hok0 hok1)
 rw [hdo] at hd0_
 have JD:=aA.mk hd0_
 clear hd0_
 go_enter Try.func30,Try.ntmps30
 go_wp2_with (first|((with_reducible refine bC (N:=1) rfl ?_);refine bD ?hg (N:=1) ?hd (cs:=#[.slice A0_0 l0_0.length c0_0,.slice A0_1 l0_1.length c0_1,.int .i64 a0_2,.bool a0_3]) (t:=25) ?hr ?_;(case hd=>rfl);(case hg=>rfl);(case hr=>exact tE);intro gb1 hg_ w1 hbox hb;have hge_:w.heap.size ≤ gb1:=tk;have hlt_:gb1 + 1 ≤ w1.heap.size:=bJ hbox;replace HF0_0:=nF HF0_0;replace HF0_1:=nF HF0_1;replace HB:=aA.mk (aT HB.out hb);replace BK1:=aA.mk (hbox);replace HORD:=aA.mk (And.intro HORD.out (And.intro hge_ (Nat.le_succ gb1)));replace HT:=aA.mk (hlt_);clear hb hbox hg_ hge_ hlt_;have:=bs4 BK1.out)|((with_reducible refine bC (N:=2) rfl ?_);refine bD ?hg (N:=2) ?hd (cs:=#[.slice none 0 0,.slice none 0 0,.int .i64 0,.bool false]) (t:=25) ?hr ?_;(case hd=>rfl);(case hg=>rfl);(case hr=>exact tE);intro gb2 hg_ w2 hbox hb;have hge_:(gb1 + 1) ≤ gb2:=tk;have hlt_:gb2 + 1 ≤ w2.heap.size:=bJ hbox;replace HF0_0:=nF HF0_0;replace HF0_1:=nF HF0_1;replace BK1:=nB BK1;replace HB:=aA.mk (aT HB.out hb);replace BK2:=aA.mk (hbox);replace HORD:=aA.mk (And.intro HORD.out (And.intro hge_ (Nat.le_succ gb2)));replace HT:=aA.mk (hlt_);clear hb hbox hg_ hge_ hlt_;have:=bs4 BK1.out;have:=bs4 BK2.out)|((with_reducible refine aW (f:=58) rfl ?_);refine bK (some 8) rfl rfl Try.func58 tG rfl #[.agg #[.slice A0_0 l0_0.length c0_0,.slice A0_1 l0_1.length c0_1,.int .i64 a0_2,.bool a0_3]] rfl tC ?_;(with_reducible refine (impl_copyDevS.calls (In 0 w.heap.size) _ _ l0_0 (In 0 w.heap.size) _ _ l0_1 a0_2 a0_3 l0_0 l0_1 a0_2 a0_3 _ ?s1 ?s2 JC.out).mono ?_);(case s1=>exact wQ);(case s2=>exact wP);rintro e_ w3 ⟨v0_,v1_,mm3,rfl,hm1_,hm2_,ho0,ho1,hb⟩;refine ⟨_,rfl,?_⟩;obtain ⟨lo3,hi3,el_,eh_,ol_,oh_⟩:=Mem.times HT.out hb;rw [← el_] at hm1_;rw [← eh_] at hm2_;rw [← el_] at ho0;obtain ⟨A3_0,c3_0,ev_,hc0_,hf0_,hs0_⟩:=new_SI2 ho0;subst ev_;rw [← eh_] at ho1;(try rw [← el_] at ho1);obtain ⟨A3_1,c3_1,ev_,hc1_,hf1_,hs1_⟩:=new_SI2 ho1;subst ev_;replace HF0_0:=nF HF0_0;replace HF0_1:=nF HF0_1;replace BK1:=nB BK1;replace BK2:=nB BK2;replace HB:=aA.mk (aT HB.out hb);replace HF3_0:=aA.mk (hf0_);replace HC3_0:=aA.mk (hc0_);replace HS3_0:=aA.mk (hs0_);replace HF3_1:=aA.mk (hf1_);replace HC3_1:=aA.mk (hc1_);replace HS3_1:=aA.mk (hs1_);replace HORD:=aA.mk (And.intro HORD.out (And.intro ol_ (And.intro hm1_ hm2_)));replace HT:=aA.mk (Nat.le_of_eq eh_);clear hm1_ hm2_;clear ol_ oh_ el_ eh_ ho0 hf0_ hc0_ hs0_ ho1 hf1_ hc1_ hs1_;(try clear hb);have:=bs4 BK1.out;have:=bs4 BK2.out)|((with_reducible refine bC (N:=3) rfl ?_);refine bD ?hg (N:=3) ?hd (cs:=#[.slice none 0 0,.slice none 0 0,.int .i64 0,.bool false]) (t:=25) ?hr ?_;(case hd=>rfl);(case hg=>rfl);(case hr=>exact tE);intro gb4 hg_ w4 hbox hb;have hge_:hi3 ≤ gb4:=tk;have hlt_:gb4 + 1 ≤ w4.heap.size:=bJ hbox;replace HF0_0:=nF HF0_0;replace HF0_1:=nF HF0_1;replace HF3_0:=nF HF3_0;replace HS3_0:=nS HS3_0;replace HF3_1:=nF HF3_1;replace HS3_1:=nS HS3_1;replace BK1:=nB BK1;replace BK2:=nB BK2;replace HB:=aA.mk (aT HB.out hb);replace BK4:=aA.mk (hbox);replace HORD:=aA.mk (And.intro HORD.out (And.intro hge_ (Nat.le_succ gb4)));replace HT:=aA.mk (hlt_);clear hb hbox hg_ hge_ hlt_;have:=bs4 BK1.out;have:=bs4 BK2.out;have:=bs4 BK4.out)|((with_reducible refine bN (t:=25) (p:=3) rfl ?_);refine bL (t:=25) (p:=3) (v:=?vo_w5) (w1:=((((w4.setCell ⟨gb4,0,none⟩ (.slice A3_0 l0_0.length c3_0)).setCell ⟨gb4,1,none⟩ (.slice A3_1 l0_1.length c3_1)).setCell ⟨gb4,2,none⟩ (.int .i64 a0_2)).setCell ⟨gb4,3,none⟩ (.bool a0_3))) ?hg ?ho ?hn ?hr ?_;(case ho=>rfl);(case hg=>rfl);(case hn=>rfl);(case hr=>exact tE);intro w5 hw_;have hkp:Kept w4 w5 (fun k_=>k_ = gb4):=tj;have hge_:w.heap.size ≤ gb4:=tL;have hbn_:Below w.heap.size w w5:=tU;have hbk_:w5.heap[gb4]? = some (.cells #[.slice A3_0 l0_0.length c3_0,.slice A3_1 l0_1.length c3_1,.int .i64 a0_2,.bool a0_3] 25 (0,0)):=tF;have hsz_:(gb4 + 1) ≤ w5.heap.size:=Nat.le_trans HT.out hkp.1;replace HF0_0:=aA.mk (Kd.aU HF0_0.out hkp tA);replace HF0_1:=aA.mk (Kd.aU HF0_1.out hkp tA);replace HF3_0:=aA.mk (Kd.aU HF3_0.out hkp tA);replace HS3_0:=aA.mk (Kd.bP HS3_0.out hkp tA);replace HF3_1:=aA.mk (Kd.aU HF3_1.out hkp tA);replace HS3_1:=aA.mk (Kd.bP HS3_1.out hkp tA);replace BK1:=aA.mk (aY BK1.out hkp tB);replace BK2:=aA.mk (aY BK2.out hkp tB);replace HB:=aA.mk (hbn_);replace BK4:=aA.mk (hbk_);replace HT:=aA.mk (hsz_);clear hw_ hkp hge_ hbn_ hbk_ hsz_;have:=bs4 BK1.out;have:=bs4 BK2.out;have:=bs4 BK4.out)|((with_reducible refine aW (f:=20) rfl ?_);refine bK (some 10) rfl rfl Try.func20 tG rfl #[.agg #[.slice A0_0 l0_0.length c0_0,.slice A0_1 l0_1.length c0_1,.int .i64 a0_2,.bool a0_3]] rfl tC ?_;(with_reducible refine (impl_DevOk.calls kd _ _ l0_0 _ _ l0_1 a0_2 a0_3 false _ ?s1 ?s2 ?s3 ?s4 JD.out).mono ?_);(case s1=>exact wn);(case s2=>exact Ay);(case s3=>exact wm);(case s4=>exact Ax);rintro e_ w6 ⟨rfl,hb⟩;refine ⟨_,rfl,?_⟩;replace HF0_0:=nF HF0_0;replace HF0_1:=nF HF0_1;replace HF3_0:=nF HF3_0;replace HS3_0:=nS HS3_0;replace HF3_1:=nF HF3_1;replace HS3_1:=nS HS3_1;replace BK1:=nB BK1;replace BK2:=nB BK2;replace BK4:=nB BK4;replace HB:=aA.mk (aT HB.out hb);replace HT:=aA.mk (Nat.le_trans HT.out hb.size);(try clear hb);have:=bs4 BK1.out;have:=bs4 BK2.out;have:=bs4 BK4.out)|((with_reducible refine bN (t:=25) (p:=2) rfl ?_);refine bL (t:=25) (p:=2) (v:=?vo_w7) (w1:=((((w6.setCell ⟨gb2,0,none⟩ (.slice A3_0 l0_0.length c3_0)).setCell ⟨gb2,1,none⟩ (.slice A3_1 l0_1.length c3_1)).setCell ⟨gb2,2,none⟩ (.int .i64 a0_2)).setCell ⟨gb2,3,none⟩ (.bool a0_3))) ?hg ?ho ?hn ?hr ?_;(case ho=>rfl);(case hg=>rfl);(case hn=>rfl);(case hr=>exact tE);intro w7 hw_;have hkp:Kept w6 w7 (fun k_=>k_ = gb2):=vJ;have hge_:w.heap.size ≤ gb2:=tL;have hbn_:Below w.heap.size w w7:=tU;have hbk_:w7.heap[gb2]? = some (.cells #[.slice A3_0 l0_0.length c3_0,.slice A3_1 l0_1.length c3_1,.int .i64 a0_2,.bool a0_3] 25 (0,0)):=tW;have hsz_:(gb4 + 1) ≤ w7.heap.size:=Nat.le_trans HT.out hkp.1;replace HF0_0:=aA.mk (Kd.aU HF0_0.out hkp tA);replace HF0_1:=aA.mk (Kd.aU HF0_1.out hkp tA);replace HF3_0:=aA.mk (Kd.aU HF3_0.out hkp tA);replace HS3_0:=aA.mk (Kd.bP HS3_0.out hkp tA);replace HF3_1:=aA.mk (Kd.aU HF3_1.out hkp tA);replace HS3_1:=aA.mk (Kd.bP HS3_1.out hkp tA);replace BK1:=aA.mk (aY BK1.out hkp tB);replace BK4:=aA.mk (aY BK4.out hkp tB);replace HB:=aA.mk (hbn_);replace BK2:=aA.mk (hbk_);replace HT:=aA.mk (hsz_);clear hw_ hkp hge_ hbn_ hbk_ hsz_;have:=bs4 BK1.out;have:=bs4 BK2.out;have:=bs4 BK4.out))
 refine bodyPost_ret (fn:=Try.f30) (P:=Try.prog) (results_cell_row rfl _ _ gb2 25 #[.slice A3_0 l0_0.length c3_0,.slice A3_1 l0_1.length c3_1,.int .i64 a0_2,.bool a0_3] (0,0) _ rfl BK2.out Try.underlying25 rfl tG) rfl ?_
 first|exact ⟨_,_,mm3,rfl,tH,tH,Kd.bU (Kd.bZ HS3_0.out tH) tJ,Kd.bU (Kd.bZ HS3_1.out tH) tJ,HB.out⟩|exact ⟨_,_,rfl,mm3,tH,tH,Kd.bU (Kd.bZ HS3_0.out tH) tJ,Kd.bU (Kd.bZ HS3_1.out tH) tJ,HB.out⟩
set_option maxHeartbeats 8000000 in
set_option maxRecDepth 100000 in
theorem walk_FlushDev2 (A0_0:Option Addr) (c0_0:Nat) (l0_0:List (List (Int))) (A0_1:Option Addr) (c0_1:Nat) (l0_1:List (S50)) (a0_2:Int) (w:World) (hf0_0:Kd.F (Kd.slice 5 (Kd.int .u8)) w (In 0 w.heap.size) A0_0 l0_0.length l0_0) (hc0_0:l0_0.length ≤ c0_0) (hf0_1:Kd.F k50 w (In 0 w.heap.size) A0_1 l0_1.length l0_1) (hc0_1:l0_1.length ≤ c0_1) (hok0:okByteSS l0_0) (hok1:okWrS l0_1) (hdo:devOkB l0_0 l0_1 a0_2 = true) :
  Calls Try.prog 30 #[.agg #[.slice A0_0 l0_0.length c0_0,.slice A0_1 l0_1.length c0_1,.int .i64 a0_2,.bool true]] w fun e w'=>∃ v0_ v1_:Value,∃ m_:Nat,e = .returned (.agg #[v0_,v1_,.int .i64 a0_2,.bool true]) ∧ w.heap.size ≤ m_ ∧ m_ ≤ w'.heap.size ∧ Kd.S (Kd.slice 5 (Kd.int .u8)) 37 w' w.heap.size (In w.heap.size m_) v0_ l0_0 ∧ Kd.S k50 50 w' w.heap.size (In m_ w'.heap.size) v1_ l0_1 ∧ Below w.heap.size w w':=by
 have hu25:=Try.underlying25
 have hu50:=Try.underlying50
 have HF0_0:=aA.mk hf0_0
 have HC0_0:=aA.mk hc0_0
 clear hf0_0 hc0_0
 have HF0_1:=aA.mk hf0_1
 have HC0_1:=aA.mk hc0_1
 clear hf0_1 hc0_1
 have HB:=aA.mk (Below.refl w.heap.size w)
 have HORD:=aA.mk (Nat.le_refl w.heap.size)
 have HT:=aA.mk (Nat.le_refl w.heap.size)
 have JC:=aA.mk (copyDevS_f hok0 hok1 a0_2 true)
 obtain ⟨kd,hd0_⟩:=evGet (impl_DevOk_ev l0_0 l0_1 a0_2 true hok0 hok1)
 rw [hdo] at hd0_
 have JD:=aA.mk hd0_
 clear hd0_
 go_enter Try.func30,Try.ntmps30
 go_wp2_with (first|((with_reducible refine bC (N:=1) rfl ?_);refine bD ?hg (N:=1) ?hd (cs:=#[.slice A0_0 l0_0.length c0_0,.slice A0_1 l0_1.length c0_1,.int .i64 a0_2,.bool true]) (t:=25) ?hr ?_;(case hd=>rfl);(case hg=>rfl);(case hr=>exact tE);intro gb1 hg_ w1 hbox hb;have hge_:w.heap.size ≤ gb1:=tk;have hlt_:gb1 + 1 ≤ w1.heap.size:=bJ hbox;replace HF0_0:=nF HF0_0;replace HF0_1:=nF HF0_1;replace HB:=aA.mk (aT HB.out hb);replace BK1:=aA.mk (hbox);replace HORD:=aA.mk (And.intro HORD.out (And.intro hge_ (Nat.le_succ gb1)));replace HT:=aA.mk (hlt_);clear hb hbox hg_ hge_ hlt_;have:=bs4 BK1.out)|((with_reducible refine bC (N:=2) rfl ?_);refine bD ?hg (N:=2) ?hd (cs:=#[.slice none 0 0,.slice none 0 0,.int .i64 0,.bool false]) (t:=25) ?hr ?_;(case hd=>rfl);(case hg=>rfl);(case hr=>exact tE);intro gb2 hg_ w2 hbox hb;have hge_:(gb1 + 1) ≤ gb2:=tk;have hlt_:gb2 + 1 ≤ w2.heap.size:=bJ hbox;replace HF0_0:=nF HF0_0;replace HF0_1:=nF HF0_1;replace BK1:=nB BK1;replace HB:=aA.mk (aT HB.out hb);replace BK2:=aA.mk (hbox);replace HORD:=aA.mk (And.intro HORD.out (And.intro hge_ (Nat.le_succ gb2)));replace HT:=aA.mk (hlt_);clear hb hbox hg_ hge_ hlt_;have:=bs4 BK1.out;have:=bs4 BK2.out)|((with_reducible refine aW (f:=58) rfl ?_);refine bK (some 8) rfl rfl Try.func58 tG rfl #[.agg #[.slice A0_0 l0_0.length c0_0,.slice A0_1 l0_1.length c0_1,.int .i64 a0_2,.bool true]] rfl tC ?_;(with_reducible refine (impl_copyDevS.calls (In 0 w.heap.size) _ _ l0_0 (In 0 w.heap.size) _ _ l0_1 a0_2 true l0_0 l0_1 a0_2 true _ ?s1 ?s2 JC.out).mono ?_);(case s1=>exact wQ);(case s2=>exact wP);rintro e_ w3 ⟨v0_,v1_,mm3,rfl,hm1_,hm2_,ho0,ho1,hb⟩;refine ⟨_,rfl,?_⟩;obtain ⟨lo3,hi3,el_,eh_,ol_,oh_⟩:=Mem.times HT.out hb;rw [← el_] at hm1_;rw [← eh_] at hm2_;rw [← el_] at ho0;obtain ⟨A3_0,c3_0,ev_,hc0_,hf0_,hs0_⟩:=new_SI2 ho0;subst ev_;rw [← eh_] at ho1;(try rw [← el_] at ho1);obtain ⟨A3_1,c3_1,ev_,hc1_,hf1_,hs1_⟩:=new_SI2 ho1;subst ev_;replace HF0_0:=nF HF0_0;replace HF0_1:=nF HF0_1;replace BK1:=nB BK1;replace BK2:=nB BK2;replace HB:=aA.mk (aT HB.out hb);replace HF3_0:=aA.mk (hf0_);replace HC3_0:=aA.mk (hc0_);replace HS3_0:=aA.mk (hs0_);replace HF3_1:=aA.mk (hf1_);replace HC3_1:=aA.mk (hc1_);replace HS3_1:=aA.mk (hs1_);replace HORD:=aA.mk (And.intro HORD.out (And.intro ol_ (And.intro hm1_ hm2_)));replace HT:=aA.mk (Nat.le_of_eq eh_);clear hm1_ hm2_;clear ol_ oh_ el_ eh_ ho0 hf0_ hc0_ hs0_ ho1 hf1_ hc1_ hs1_;(try clear hb);have:=bs4 BK1.out;have:=bs4 BK2.out)|((with_reducible refine bC (N:=3) rfl ?_);refine bD ?hg (N:=3) ?hd (cs:=#[.slice none 0 0,.slice none 0 0,.int .i64 0,.bool false]) (t:=25) ?hr ?_;(case hd=>rfl);(case hg=>rfl);(case hr=>exact tE);intro gb4 hg_ w4 hbox hb;have hge_:hi3 ≤ gb4:=tk;have hlt_:gb4 + 1 ≤ w4.heap.size:=bJ hbox;replace HF0_0:=nF HF0_0;replace HF0_1:=nF HF0_1;replace HF3_0:=nF HF3_0;replace HS3_0:=nS HS3_0;replace HF3_1:=nF HF3_1;replace HS3_1:=nS HS3_1;replace BK1:=nB BK1;replace BK2:=nB BK2;replace HB:=aA.mk (aT HB.out hb);replace BK4:=aA.mk (hbox);replace HORD:=aA.mk (And.intro HORD.out (And.intro hge_ (Nat.le_succ gb4)));replace HT:=aA.mk (hlt_);clear hb hbox hg_ hge_ hlt_;have:=bs4 BK1.out;have:=bs4 BK2.out;have:=bs4 BK4.out)|((with_reducible refine bN (t:=25) (p:=3) rfl ?_);refine bL (t:=25) (p:=3) (v:=?vo_w5) (w1:=((((w4.setCell ⟨gb4,0,none⟩ (.slice A3_0 l0_0.length c3_0)).setCell ⟨gb4,1,none⟩ (.slice A3_1 l0_1.length c3_1)).setCell ⟨gb4,2,none⟩ (.int .i64 a0_2)).setCell ⟨gb4,3,none⟩ (.bool true))) ?hg ?ho ?hn ?hr ?_;(case ho=>rfl);(case hg=>rfl);(case hn=>rfl);(case hr=>exact tE);intro w5 hw_;have hkp:Kept w4 w5 (fun k_=>k_ = gb4):=AF;have hge_:w.heap.size ≤ gb4:=tL;have hbn_:Below w.heap.size w w5:=tU;have hbk_:w5.heap[gb4]? = some (.cells #[.slice A3_0 l0_0.length c3_0,.slice A3_1 l0_1.length c3_1,.int .i64 a0_2,.bool true] 25 (0,0)):=vT;have hsz_:(gb4 + 1) ≤ w5.heap.size:=Nat.le_trans HT.out hkp.1;replace HF0_0:=aA.mk (Kd.aU HF0_0.out hkp tA);replace HF0_1:=aA.mk (Kd.aU HF0_1.out hkp tA);replace HF3_0:=aA.mk (Kd.aU HF3_0.out hkp tA);replace HS3_0:=aA.mk (Kd.bP HS3_0.out hkp tA);replace HF3_1:=aA.mk (Kd.aU HF3_1.out hkp tA);replace HS3_1:=aA.mk (Kd.bP HS3_1.out hkp tA);replace BK1:=aA.mk (aY BK1.out hkp tB);replace BK2:=aA.mk (aY BK2.out hkp tB);replace HB:=aA.mk (hbn_);replace BK4:=aA.mk (hbk_);replace HT:=aA.mk (hsz_);clear hw_ hkp hge_ hbn_ hbk_ hsz_;have:=bs4 BK1.out;have:=bs4 BK2.out;have:=bs4 BK4.out)|((with_reducible refine aW (f:=20) rfl ?_);refine bK (some 10) rfl rfl Try.func20 tG rfl #[.agg #[.slice A0_0 l0_0.length c0_0,.slice A0_1 l0_1.length c0_1,.int .i64 a0_2,.bool true]] rfl tC ?_;(with_reducible refine (impl_DevOk.calls kd _ _ l0_0 _ _ l0_1 a0_2 true true _ ?s1 ?s2 ?s3 ?s4 JD.out).mono ?_);(case s1=>exact wn);(case s2=>exact Ay);(case s3=>exact wm);(case s4=>exact Ax);rintro e_ w6 ⟨rfl,hb⟩;refine ⟨_,rfl,?_⟩;replace HF0_0:=nF HF0_0;replace HF0_1:=nF HF0_1;replace HF3_0:=nF HF3_0;replace HS3_0:=nS HS3_0;replace HF3_1:=nF HF3_1;replace HS3_1:=nS HS3_1;replace BK1:=nB BK1;replace BK2:=nB BK2;replace BK4:=nB BK4;replace HB:=aA.mk (aT HB.out hb);replace HT:=aA.mk (Nat.le_trans HT.out hb.size);(try clear hb);have:=bs4 BK1.out;have:=bs4 BK2.out;have:=bs4 BK4.out)|((with_reducible refine bN (t:=25) (p:=2) rfl ?_);refine bL (t:=25) (p:=2) (v:=?vo_w7) (w1:=((((w6.setCell ⟨gb2,0,none⟩ (.slice A3_0 l0_0.length c3_0)).setCell ⟨gb2,1,none⟩ (.slice A3_1 l0_1.length c3_1)).setCell ⟨gb2,2,none⟩ (.int .i64 a0_2)).setCell ⟨gb2,3,none⟩ (.bool true))) ?hg ?ho ?hn ?hr ?_;(case ho=>rfl);(case hg=>rfl);(case hn=>rfl);(case hr=>exact tE);intro w7 hw_;have hkp:Kept w6 w7 (fun k_=>k_ = gb2):=AE;have hge_:w.heap.size ≤ gb2:=tL;have hbn_:Below w.heap.size w w7:=tU;have hbk_:w7.heap[gb2]? = some (.cells #[.slice A3_0 l0_0.length c3_0,.slice A3_1 l0_1.length c3_1,.int .i64 a0_2,.bool true] 25 (0,0)):=vU;have hsz_:(gb4 + 1) ≤ w7.heap.size:=Nat.le_trans HT.out hkp.1;replace HF0_0:=aA.mk (Kd.aU HF0_0.out hkp tA);replace HF0_1:=aA.mk (Kd.aU HF0_1.out hkp tA);replace HF3_0:=aA.mk (Kd.aU HF3_0.out hkp tA);replace HS3_0:=aA.mk (Kd.bP HS3_0.out hkp tA);replace HF3_1:=aA.mk (Kd.aU HF3_1.out hkp tA);replace HS3_1:=aA.mk (Kd.bP HS3_1.out hkp tA);replace BK1:=aA.mk (aY BK1.out hkp tB);replace BK4:=aA.mk (aY BK4.out hkp tB);replace HB:=aA.mk (hbn_);replace BK2:=aA.mk (hbk_);replace HT:=aA.mk (hsz_);clear hw_ hkp hge_ hbn_ hbk_ hsz_;have:=bs4 BK1.out;have:=bs4 BK2.out;have:=bs4 BK4.out))
 refine bodyPost_ret (fn:=Try.f30) (P:=Try.prog) (results_cell_row rfl _ _ gb2 25 #[.slice A3_0 l0_0.length c3_0,.slice A3_1 l0_1.length c3_1,.int .i64 a0_2,.bool true] (0,0) _ rfl BK2.out Try.underlying25 rfl tG) rfl ?_
 first|exact ⟨_,_,mm3,rfl,tH,tH,Kd.bU (Kd.bZ HS3_0.out tH) tJ,Kd.bU (Kd.bZ HS3_1.out tH) tJ,HB.out⟩|exact ⟨_,_,rfl,mm3,tH,tH,Kd.bU (Kd.bZ HS3_0.out tH) tJ,Kd.bU (Kd.bZ HS3_1.out tH) tJ,HB.out⟩
set_option maxHeartbeats 8000000 in
set_option maxRecDepth 100000 in
theorem walk_FlushDev3 (A0_0:Option Addr) (c0_0:Nat) (l0_0:List (List (Int))) (A0_1:Option Addr) (c0_1:Nat) (l0_1:List (S50)) (a0_2:Int) (w:World) (hf0_0:Kd.F (Kd.slice 5 (Kd.int .u8)) w (In 0 w.heap.size) A0_0 l0_0.length l0_0) (hc0_0:l0_0.length ≤ c0_0) (hf0_1:Kd.F k50 w (In 0 w.heap.size) A0_1 l0_1.length l0_1) (hc0_1:l0_1.length ≤ c0_1) (hok0:okByteSS l0_0) (hok1:okWrS l0_1) (hdo:devOkB l0_0 l0_1 a0_2 = true) (f1:Int) (b1:Bool) (hbu:burnF a0_2 false = (f1,b1,false)) :
  Calls Try.prog 30 #[.agg #[.slice A0_0 l0_0.length c0_0,.slice A0_1 l0_1.length c0_1,.int .i64 a0_2,.bool false]] w fun e w'=>∃ v0_ v1_:Value,∃ m_:Nat,e = .returned (.agg #[v0_,v1_,.int .i64 f1,.bool b1]) ∧ w.heap.size ≤ m_ ∧ m_ ≤ w'.heap.size ∧ Kd.S (Kd.slice 5 (Kd.int .u8)) 37 w' w.heap.size (In w.heap.size m_) v0_ l0_0 ∧ Kd.S k50 50 w' w.heap.size (In m_ w'.heap.size) v1_ l0_1 ∧ Below w.heap.size w w':=by
 have hu25:=Try.underlying25
 have hu50:=Try.underlying50
 have HF0_0:=aA.mk hf0_0
 have HC0_0:=aA.mk hc0_0
 clear hf0_0 hc0_0
 have HF0_1:=aA.mk hf0_1
 have HC0_1:=aA.mk hc0_1
 clear hf0_1 hc0_1
 have HB:=aA.mk (Below.refl w.heap.size w)
 have HORD:=aA.mk (Nat.le_refl w.heap.size)
 have HT:=aA.mk (Nat.le_refl w.heap.size)
 have JC:=aA.mk (copyDevS_f hok0 hok1 a0_2 false)
 obtain ⟨kd,hd0_⟩:=evGet (impl_DevOk_ev l0_0 l0_1 a0_2 false hok0 hok1)
 rw [hdo] at hd0_
 have JD:=aA.mk hd0_
 clear hd0_
 have JB:=aA.mk (show impl_burnS.f a0_2 false = some (f1,b1,false) from by unfold impl_burnS.f;rw [hbu])
 go_enter Try.func30,Try.ntmps30
 go_wp2_with (first|((with_reducible refine bC (N:=1) rfl ?_);refine bD ?hg (N:=1) ?hd (cs:=#[.slice A0_0 l0_0.length c0_0,.slice A0_1 l0_1.length c0_1,.int .i64 a0_2,.bool false]) (t:=25) ?hr ?_;(case hd=>rfl);(case hg=>rfl);(case hr=>exact tE);intro gb1 hg_ w1 hbox hb;have hge_:w.heap.size ≤ gb1:=tk;have hlt_:gb1 + 1 ≤ w1.heap.size:=bJ hbox;replace HF0_0:=nF HF0_0;replace HF0_1:=nF HF0_1;replace HB:=aA.mk (aT HB.out hb);replace BK1:=aA.mk (hbox);replace HORD:=aA.mk (And.intro HORD.out (And.intro hge_ (Nat.le_succ gb1)));replace HT:=aA.mk (hlt_);clear hb hbox hg_ hge_ hlt_;have:=bs4 BK1.out)|((with_reducible refine bC (N:=2) rfl ?_);refine bD ?hg (N:=2) ?hd (cs:=#[.slice none 0 0,.slice none 0 0,.int .i64 0,.bool false]) (t:=25) ?hr ?_;(case hd=>rfl);(case hg=>rfl);(case hr=>exact tE);intro gb2 hg_ w2 hbox hb;have hge_:(gb1 + 1) ≤ gb2:=tk;have hlt_:gb2 + 1 ≤ w2.heap.size:=bJ hbox;replace HF0_0:=nF HF0_0;replace HF0_1:=nF HF0_1;replace BK1:=nB BK1;replace HB:=aA.mk (aT HB.out hb);replace BK2:=aA.mk (hbox);replace HORD:=aA.mk (And.intro HORD.out (And.intro hge_ (Nat.le_succ gb2)));replace HT:=aA.mk (hlt_);clear hb hbox hg_ hge_ hlt_;have:=bs4 BK1.out;have:=bs4 BK2.out)|((with_reducible refine aW (f:=58) rfl ?_);refine bK (some 8) rfl rfl Try.func58 tG rfl #[.agg #[.slice A0_0 l0_0.length c0_0,.slice A0_1 l0_1.length c0_1,.int .i64 a0_2,.bool false]] rfl tC ?_;(with_reducible refine (impl_copyDevS.calls (In 0 w.heap.size) _ _ l0_0 (In 0 w.heap.size) _ _ l0_1 a0_2 false l0_0 l0_1 a0_2 false _ ?s1 ?s2 JC.out).mono ?_);(case s1=>exact wQ);(case s2=>exact wP);rintro e_ w3 ⟨v0_,v1_,mm3,rfl,hm1_,hm2_,ho0,ho1,hb⟩;refine ⟨_,rfl,?_⟩;obtain ⟨lo3,hi3,el_,eh_,ol_,oh_⟩:=Mem.times HT.out hb;rw [← el_] at hm1_;rw [← eh_] at hm2_;rw [← el_] at ho0;obtain ⟨A3_0,c3_0,ev_,hc0_,hf0_,hs0_⟩:=new_SI2 ho0;subst ev_;rw [← eh_] at ho1;(try rw [← el_] at ho1);obtain ⟨A3_1,c3_1,ev_,hc1_,hf1_,hs1_⟩:=new_SI2 ho1;subst ev_;replace HF0_0:=nF HF0_0;replace HF0_1:=nF HF0_1;replace BK1:=nB BK1;replace BK2:=nB BK2;replace HB:=aA.mk (aT HB.out hb);replace HF3_0:=aA.mk (hf0_);replace HC3_0:=aA.mk (hc0_);replace HS3_0:=aA.mk (hs0_);replace HF3_1:=aA.mk (hf1_);replace HC3_1:=aA.mk (hc1_);replace HS3_1:=aA.mk (hs1_);replace HORD:=aA.mk (And.intro HORD.out (And.intro ol_ (And.intro hm1_ hm2_)));replace HT:=aA.mk (Nat.le_of_eq eh_);clear hm1_ hm2_;clear ol_ oh_ el_ eh_ ho0 hf0_ hc0_ hs0_ ho1 hf1_ hc1_ hs1_;(try clear hb);have:=bs4 BK1.out;have:=bs4 BK2.out)|((with_reducible refine bC (N:=3) rfl ?_);refine bD ?hg (N:=3) ?hd (cs:=#[.slice none 0 0,.slice none 0 0,.int .i64 0,.bool false]) (t:=25) ?hr ?_;(case hd=>rfl);(case hg=>rfl);(case hr=>exact tE);intro gb4 hg_ w4 hbox hb;have hge_:hi3 ≤ gb4:=tk;have hlt_:gb4 + 1 ≤ w4.heap.size:=bJ hbox;replace HF0_0:=nF HF0_0;replace HF0_1:=nF HF0_1;replace HF3_0:=nF HF3_0;replace HS3_0:=nS HS3_0;replace HF3_1:=nF HF3_1;replace HS3_1:=nS HS3_1;replace BK1:=nB BK1;replace BK2:=nB BK2;replace HB:=aA.mk (aT HB.out hb);replace BK4:=aA.mk (hbox);replace HORD:=aA.mk (And.intro HORD.out (And.intro hge_ (Nat.le_succ gb4)));replace HT:=aA.mk (hlt_);clear hb hbox hg_ hge_ hlt_;have:=bs4 BK1.out;have:=bs4 BK2.out;have:=bs4 BK4.out)|((with_reducible refine bN (t:=25) (p:=3) rfl ?_);refine bL (t:=25) (p:=3) (v:=?vo_w5) (w1:=((((w4.setCell ⟨gb4,0,none⟩ (.slice A3_0 l0_0.length c3_0)).setCell ⟨gb4,1,none⟩ (.slice A3_1 l0_1.length c3_1)).setCell ⟨gb4,2,none⟩ (.int .i64 a0_2)).setCell ⟨gb4,3,none⟩ (.bool false))) ?hg ?ho ?hn ?hr ?_;(case ho=>rfl);(case hg=>rfl);(case hn=>rfl);(case hr=>exact tE);intro w5 hw_;have hkp:Kept w4 w5 (fun k_=>k_ = gb4):=t3;have hge_:w.heap.size ≤ gb4:=tL;have hbn_:Below w.heap.size w w5:=tU;have hbk_:w5.heap[gb4]? = some (.cells #[.slice A3_0 l0_0.length c3_0,.slice A3_1 l0_1.length c3_1,.int .i64 a0_2,.bool false] 25 (0,0)):=tM;have hsz_:(gb4 + 1) ≤ w5.heap.size:=Nat.le_trans HT.out hkp.1;replace HF0_0:=aA.mk (Kd.aU HF0_0.out hkp tA);replace HF0_1:=aA.mk (Kd.aU HF0_1.out hkp tA);replace HF3_0:=aA.mk (Kd.aU HF3_0.out hkp tA);replace HS3_0:=aA.mk (Kd.bP HS3_0.out hkp tA);replace HF3_1:=aA.mk (Kd.aU HF3_1.out hkp tA);replace HS3_1:=aA.mk (Kd.bP HS3_1.out hkp tA);replace BK1:=aA.mk (aY BK1.out hkp tB);replace BK2:=aA.mk (aY BK2.out hkp tB);replace HB:=aA.mk (hbn_);replace BK4:=aA.mk (hbk_);replace HT:=aA.mk (hsz_);clear hw_ hkp hge_ hbn_ hbk_ hsz_;have:=bs4 BK1.out;have:=bs4 BK2.out;have:=bs4 BK4.out)|((with_reducible refine aW (f:=20) rfl ?_);refine bK (some 10) rfl rfl Try.func20 tG rfl #[.agg #[.slice A0_0 l0_0.length c0_0,.slice A0_1 l0_1.length c0_1,.int .i64 a0_2,.bool false]] rfl tC ?_;(with_reducible refine (impl_DevOk.calls kd _ _ l0_0 _ _ l0_1 a0_2 false true _ ?s1 ?s2 ?s3 ?s4 JD.out).mono ?_);(case s1=>exact wn);(case s2=>exact Ay);(case s3=>exact wm);(case s4=>exact Ax);rintro e_ w6 ⟨rfl,hb⟩;refine ⟨_,rfl,?_⟩;replace HF0_0:=nF HF0_0;replace HF0_1:=nF HF0_1;replace HF3_0:=nF HF3_0;replace HS3_0:=nS HS3_0;replace HF3_1:=nF HF3_1;replace HS3_1:=nS HS3_1;replace BK1:=nB BK1;replace BK2:=nB BK2;replace BK4:=nB BK4;replace HB:=aA.mk (aT HB.out hb);replace HT:=aA.mk (Nat.le_trans HT.out hb.size);(try clear hb);have:=bs4 BK1.out;have:=bs4 BK2.out;have:=bs4 BK4.out)|((with_reducible refine aW (f:=59) rfl ?_);refine bK (some 19) rfl rfl Try.func59 tG rfl #[.agg #[.slice A3_0 l0_0.length c3_0,.slice A3_1 l0_1.length c3_1,.int .i64 a0_2,.bool false]] rfl tC ?_;(with_reducible refine (impl_burnS.calls _ _ l0_0 _ _ l0_1 a0_2 false f1 b1 false _ JB.out).mono ?_);rintro e_ w7 ⟨rfl,hb⟩;refine ⟨_,rfl,?_⟩;replace HF0_0:=nF HF0_0;replace HF0_1:=nF HF0_1;replace HF3_0:=nF HF3_0;replace HS3_0:=nS HS3_0;replace HF3_1:=nF HF3_1;replace HS3_1:=nS HS3_1;replace BK1:=nB BK1;replace BK2:=nB BK2;replace BK4:=nB BK4;replace HB:=aA.mk (aT HB.out hb);replace HT:=aA.mk (Nat.le_trans HT.out hb.size);(try clear hb);have:=bs4 BK1.out;have:=bs4 BK2.out;have:=bs4 BK4.out)|((with_reducible refine bN (t:=25) (p:=3) rfl ?_);refine bL (t:=25) (p:=3) (v:=?vo_w8) (w1:=((((w7.setCell ⟨gb4,0,none⟩ (.slice A3_0 l0_0.length c3_0)).setCell ⟨gb4,1,none⟩ (.slice A3_1 l0_1.length c3_1)).setCell ⟨gb4,2,none⟩ (.int .i64 f1)).setCell ⟨gb4,3,none⟩ (.bool b1))) ?hg ?ho ?hn ?hr ?_;(case ho=>rfl);(case hg=>rfl);(case hn=>rfl);(case hr=>exact tE);intro w8 hw_;have hkp:Kept w7 w8 (fun k_=>k_ = gb4):=AJ;have hge_:w.heap.size ≤ gb4:=tL;have hbn_:Below w.heap.size w w8:=tU;have hbk_:w8.heap[gb4]? = some (.cells #[.slice A3_0 l0_0.length c3_0,.slice A3_1 l0_1.length c3_1,.int .i64 f1,.bool b1] 25 (0,0)):=tY;have hsz_:(gb4 + 1) ≤ w8.heap.size:=Nat.le_trans HT.out hkp.1;replace HF0_0:=aA.mk (Kd.aU HF0_0.out hkp tA);replace HF0_1:=aA.mk (Kd.aU HF0_1.out hkp tA);replace HF3_0:=aA.mk (Kd.aU HF3_0.out hkp tA);replace HS3_0:=aA.mk (Kd.bP HS3_0.out hkp tA);replace HF3_1:=aA.mk (Kd.aU HF3_1.out hkp tA);replace HS3_1:=aA.mk (Kd.bP HS3_1.out hkp tA);replace BK1:=aA.mk (aY BK1.out hkp tB);replace BK2:=aA.mk (aY BK2.out hkp tB);replace HB:=aA.mk (hbn_);replace BK4:=aA.mk (hbk_);replace HT:=aA.mk (hsz_);clear hw_ hkp hge_ hbn_ hbk_ hsz_;have:=bs4 BK1.out;have:=bs4 BK2.out;have:=bs4 BK4.out)|((with_reducible refine bN (t:=25) (p:=2) rfl ?_);refine bL (t:=25) (p:=2) (v:=?vo_w9) (w1:=((((w8.setCell ⟨gb2,0,none⟩ (.slice A3_0 l0_0.length c3_0)).setCell ⟨gb2,1,none⟩ (.slice A3_1 l0_1.length c3_1)).setCell ⟨gb2,2,none⟩ (.int .i64 f1)).setCell ⟨gb2,3,none⟩ (.bool b1))) ?hg ?ho ?hn ?hr ?_;(case ho=>rfl);(case hg=>rfl);(case hn=>rfl);(case hr=>exact tE);intro w9 hw_;have hkp:Kept w8 w9 (fun k_=>k_ = gb2):=(by rw [hw_];exact Kept.setCell (Kept.setCell (Kept.setCell (Kept.setCell (Kept.refl w8 (fun k_=>k_ = gb2)) (.inl rfl) (.slice A3_0 l0_0.length c3_0)) (.inl rfl) (.slice A3_1 l0_1.length c3_1)) (.inl rfl) (.int .i64 f1)) (.inl rfl) (.bool b1));have hge_:w.heap.size ≤ gb2:=tL;have hbn_:Below w.heap.size w w9:=tU;have hbk_:w9.heap[gb2]? = some (.cells #[.slice A3_0 l0_0.length c3_0,.slice A3_1 l0_1.length c3_1,.int .i64 f1,.bool b1] 25 (0,0)):=vV;have hsz_:(gb4 + 1) ≤ w9.heap.size:=Nat.le_trans HT.out hkp.1;replace HF0_0:=aA.mk (Kd.aU HF0_0.out hkp tA);replace HF0_1:=aA.mk (Kd.aU HF0_1.out hkp tA);replace HF3_0:=aA.mk (Kd.aU HF3_0.out hkp tA);replace HS3_0:=aA.mk (Kd.bP HS3_0.out hkp tA);replace HF3_1:=aA.mk (Kd.aU HF3_1.out hkp tA);replace HS3_1:=aA.mk (Kd.bP HS3_1.out hkp tA);replace BK1:=aA.mk (aY BK1.out hkp tB);replace BK4:=aA.mk (aY BK4.out hkp tB);replace HB:=aA.mk (hbn_);replace BK2:=aA.mk (hbk_);replace HT:=aA.mk (hsz_);clear hw_ hkp hge_ hbn_ hbk_ hsz_;have:=bs4 BK1.out;have:=bs4 BK2.out;have:=bs4 BK4.out))
 refine bodyPost_ret (fn:=Try.f30) (P:=Try.prog) (results_cell_row rfl _ _ gb2 25 #[.slice A3_0 l0_0.length c3_0,.slice A3_1 l0_1.length c3_1,.int .i64 f1,.bool b1] (0,0) _ rfl BK2.out Try.underlying25 rfl tG) rfl ?_
 first|exact ⟨_,_,mm3,rfl,tH,tH,Kd.bU (Kd.bZ HS3_0.out tH) tJ,Kd.bU (Kd.bZ HS3_1.out tH) tJ,HB.out⟩|exact ⟨_,_,rfl,mm3,tH,tH,Kd.bU (Kd.bZ HS3_0.out tH) tJ,Kd.bU (Kd.bZ HS3_1.out tH) tJ,HB.out⟩
set_option maxHeartbeats 8000000 in
set_option maxRecDepth 100000 in
theorem walk_FlushDev4 (A0_0:Option Addr) (c0_0:Nat) (l0_0:List (List (Int))) (A0_1:Option Addr) (c0_1:Nat) (l0_1:List (S50)) (a0_2:Int) (w:World) (hf0_0:Kd.F (Kd.slice 5 (Kd.int .u8)) w (In 0 w.heap.size) A0_0 l0_0.length l0_0) (hc0_0:l0_0.length ≤ c0_0) (hf0_1:Kd.F k50 w (In 0 w.heap.size) A0_1 l0_1.length l0_1) (hc0_1:l0_1.length ≤ c0_1) (hok0:okByteSS l0_0) (hok1:okWrS l0_1) (hdo:devOkB l0_0 l0_1 a0_2 = true) (f1:Int) (b1:Bool) (hbu:burnF a0_2 false = (f1,b1,true)) :
  Calls Try.prog 30 #[.agg #[.slice A0_0 l0_0.length c0_0,.slice A0_1 l0_1.length c0_1,.int .i64 a0_2,.bool false]] w fun e w'=>∃ v0_ v1_:Value,∃ m_:Nat,e = .returned (.agg #[v0_,v1_,.int .i64 f1,.bool b1]) ∧ w.heap.size ≤ m_ ∧ m_ ≤ w'.heap.size ∧ Kd.S (Kd.slice 5 (Kd.int .u8)) 37 w' w.heap.size (In w.heap.size m_) v0_ (flushSecs l0_0 l0_1 l0_1.length) ∧ Kd.S k50 50 w' w.heap.size (In m_ w'.heap.size) v1_ ([]:List (S50)) ∧ Below w.heap.size w w':=by
 have hu25:=Try.underlying25
 have hu50:=Try.underlying50
 have HF0_0:=aA.mk hf0_0
 have HC0_0:=aA.mk hc0_0
 clear hf0_0 hc0_0
 have HF0_1:=aA.mk hf0_1
 have HC0_1:=aA.mk hc0_1
 clear hf0_1 hc0_1
 have HB:=aA.mk (Below.refl w.heap.size w)
 have HORD:=aA.mk (Nat.le_refl w.heap.size)
 have HT:=aA.mk (Nat.le_refl w.heap.size)
 have JC:=aA.mk (copyDevS_f hok0 hok1 a0_2 false)
 obtain ⟨kd,hd0_⟩:=evGet (impl_DevOk_ev l0_0 l0_1 a0_2 false hok0 hok1)
 rw [hdo] at hd0_
 have JD:=aA.mk hd0_
 clear hd0_
 have JB:=aA.mk (show impl_burnS.f a0_2 false = some (f1,b1,true) from by unfold impl_burnS.f;rw [hbu])
 go_enter Try.func30,Try.ntmps30
 go_wp2_with (first|((with_reducible refine bC (N:=1) rfl ?_);refine bD ?hg (N:=1) ?hd (cs:=#[.slice A0_0 l0_0.length c0_0,.slice A0_1 l0_1.length c0_1,.int .i64 a0_2,.bool false]) (t:=25) ?hr ?_;(case hd=>rfl);(case hg=>rfl);(case hr=>exact tE);intro gb1 hg_ w1 hbox hb;have hge_:w.heap.size ≤ gb1:=tk;have hlt_:gb1 + 1 ≤ w1.heap.size:=bJ hbox;replace HF0_0:=nF HF0_0;replace HF0_1:=nF HF0_1;replace HB:=aA.mk (aT HB.out hb);replace BK1:=aA.mk (hbox);replace HORD:=aA.mk (And.intro HORD.out (And.intro hge_ (Nat.le_succ gb1)));replace HT:=aA.mk (hlt_);clear hb hbox hg_ hge_ hlt_;have:=bs4 BK1.out)|((with_reducible refine bC (N:=2) rfl ?_);refine bD ?hg (N:=2) ?hd (cs:=#[.slice none 0 0,.slice none 0 0,.int .i64 0,.bool false]) (t:=25) ?hr ?_;(case hd=>rfl);(case hg=>rfl);(case hr=>exact tE);intro gb2 hg_ w2 hbox hb;have hge_:(gb1 + 1) ≤ gb2:=tk;have hlt_:gb2 + 1 ≤ w2.heap.size:=bJ hbox;replace HF0_0:=nF HF0_0;replace HF0_1:=nF HF0_1;replace BK1:=nB BK1;replace HB:=aA.mk (aT HB.out hb);replace BK2:=aA.mk (hbox);replace HORD:=aA.mk (And.intro HORD.out (And.intro hge_ (Nat.le_succ gb2)));replace HT:=aA.mk (hlt_);clear hb hbox hg_ hge_ hlt_;have:=bs4 BK1.out;have:=bs4 BK2.out)|((with_reducible refine aW (f:=58) rfl ?_);refine bK (some 8) rfl rfl Try.func58 tG rfl #[.agg #[.slice A0_0 l0_0.length c0_0,.slice A0_1 l0_1.length c0_1,.int .i64 a0_2,.bool false]] rfl tC ?_;(with_reducible refine (impl_copyDevS.calls (In 0 w.heap.size) _ _ l0_0 (In 0 w.heap.size) _ _ l0_1 a0_2 false l0_0 l0_1 a0_2 false _ ?s1 ?s2 JC.out).mono ?_);(case s1=>exact wQ);(case s2=>exact wP);rintro e_ w3 ⟨v0_,v1_,mm3,rfl,hm1_,hm2_,ho0,ho1,hb⟩;refine ⟨_,rfl,?_⟩;obtain ⟨lo3,hi3,el_,eh_,ol_,oh_⟩:=Mem.times HT.out hb;rw [← el_] at hm1_;rw [← eh_] at hm2_;rw [← el_] at ho0;obtain ⟨A3_0,c3_0,ev_,hc0_,hf0_,hs0_⟩:=new_SI2 ho0;subst ev_;rw [← eh_] at ho1;(try rw [← el_] at ho1);obtain ⟨A3_1,c3_1,ev_,hc1_,hf1_,hs1_⟩:=new_SI2 ho1;subst ev_;replace HF0_0:=nF HF0_0;replace HF0_1:=nF HF0_1;replace BK1:=nB BK1;replace BK2:=nB BK2;replace HB:=aA.mk (aT HB.out hb);replace HF3_0:=aA.mk (hf0_);replace HC3_0:=aA.mk (hc0_);replace HS3_0:=aA.mk (hs0_);replace HF3_1:=aA.mk (hf1_);replace HC3_1:=aA.mk (hc1_);replace HS3_1:=aA.mk (hs1_);replace HORD:=aA.mk (And.intro HORD.out (And.intro ol_ (And.intro hm1_ hm2_)));replace HT:=aA.mk (Nat.le_of_eq eh_);clear hm1_ hm2_;clear ol_ oh_ el_ eh_ ho0 hf0_ hc0_ hs0_ ho1 hf1_ hc1_ hs1_;(try clear hb);have:=bs4 BK1.out;have:=bs4 BK2.out)|((with_reducible refine bC (N:=3) rfl ?_);refine bD ?hg (N:=3) ?hd (cs:=#[.slice none 0 0,.slice none 0 0,.int .i64 0,.bool false]) (t:=25) ?hr ?_;(case hd=>rfl);(case hg=>rfl);(case hr=>exact tE);intro gb4 hg_ w4 hbox hb;have hge_:hi3 ≤ gb4:=tk;have hlt_:gb4 + 1 ≤ w4.heap.size:=bJ hbox;replace HF0_0:=nF HF0_0;replace HF0_1:=nF HF0_1;replace HF3_0:=nF HF3_0;replace HS3_0:=nS HS3_0;replace HF3_1:=nF HF3_1;replace HS3_1:=nS HS3_1;replace BK1:=nB BK1;replace BK2:=nB BK2;replace HB:=aA.mk (aT HB.out hb);replace BK4:=aA.mk (hbox);replace HORD:=aA.mk (And.intro HORD.out (And.intro hge_ (Nat.le_succ gb4)));replace HT:=aA.mk (hlt_);clear hb hbox hg_ hge_ hlt_;have:=bs4 BK1.out;have:=bs4 BK2.out;have:=bs4 BK4.out)|((with_reducible refine bN (t:=25) (p:=3) rfl ?_);refine bL (t:=25) (p:=3) (v:=?vo_w5) (w1:=((((w4.setCell ⟨gb4,0,none⟩ (.slice A3_0 l0_0.length c3_0)).setCell ⟨gb4,1,none⟩ (.slice A3_1 l0_1.length c3_1)).setCell ⟨gb4,2,none⟩ (.int .i64 a0_2)).setCell ⟨gb4,3,none⟩ (.bool false))) ?hg ?ho ?hn ?hr ?_;(case ho=>rfl);(case hg=>rfl);(case hn=>rfl);(case hr=>exact tE);intro w5 hw_;have hkp:Kept w4 w5 (fun k_=>k_ = gb4):=t3;have hge_:w.heap.size ≤ gb4:=tL;have hbn_:Below w.heap.size w w5:=tU;have hbk_:w5.heap[gb4]? = some (.cells #[.slice A3_0 l0_0.length c3_0,.slice A3_1 l0_1.length c3_1,.int .i64 a0_2,.bool false] 25 (0,0)):=tM;have hsz_:(gb4 + 1) ≤ w5.heap.size:=Nat.le_trans HT.out hkp.1;replace HF0_0:=aA.mk (Kd.aU HF0_0.out hkp tA);replace HF0_1:=aA.mk (Kd.aU HF0_1.out hkp tA);replace HF3_0:=aA.mk (Kd.aU HF3_0.out hkp tA);replace HS3_0:=aA.mk (Kd.bP HS3_0.out hkp tA);replace HF3_1:=aA.mk (Kd.aU HF3_1.out hkp tA);replace HS3_1:=aA.mk (Kd.bP HS3_1.out hkp tA);replace BK1:=aA.mk (aY BK1.out hkp tB);replace BK2:=aA.mk (aY BK2.out hkp tB);replace HB:=aA.mk (hbn_);replace BK4:=aA.mk (hbk_);replace HT:=aA.mk (hsz_);clear hw_ hkp hge_ hbn_ hbk_ hsz_;have:=bs4 BK1.out;have:=bs4 BK2.out;have:=bs4 BK4.out)|((with_reducible refine aW (f:=20) rfl ?_);refine bK (some 10) rfl rfl Try.func20 tG rfl #[.agg #[.slice A0_0 l0_0.length c0_0,.slice A0_1 l0_1.length c0_1,.int .i64 a0_2,.bool false]] rfl tC ?_;(with_reducible refine (impl_DevOk.calls kd _ _ l0_0 _ _ l0_1 a0_2 false true _ ?s1 ?s2 ?s3 ?s4 JD.out).mono ?_);(case s1=>exact wn);(case s2=>exact Ay);(case s3=>exact wm);(case s4=>exact Ax);rintro e_ w6 ⟨rfl,hb⟩;refine ⟨_,rfl,?_⟩;replace HF0_0:=nF HF0_0;replace HF0_1:=nF HF0_1;replace HF3_0:=nF HF3_0;replace HS3_0:=nS HS3_0;replace HF3_1:=nF HF3_1;replace HS3_1:=nS HS3_1;replace BK1:=nB BK1;replace BK2:=nB BK2;replace BK4:=nB BK4;replace HB:=aA.mk (aT HB.out hb);replace HT:=aA.mk (Nat.le_trans HT.out hb.size);(try clear hb);have:=bs4 BK1.out;have:=bs4 BK2.out;have:=bs4 BK4.out)|((with_reducible refine aW (f:=59) rfl ?_);refine bK (some 19) rfl rfl Try.func59 tG rfl #[.agg #[.slice A3_0 l0_0.length c3_0,.slice A3_1 l0_1.length c3_1,.int .i64 a0_2,.bool false]] rfl tC ?_;(with_reducible refine (impl_burnS.calls _ _ l0_0 _ _ l0_1 a0_2 false f1 b1 true _ JB.out).mono ?_);rintro e_ w7 ⟨rfl,hb⟩;refine ⟨_,rfl,?_⟩;replace HF0_0:=nF HF0_0;replace HF0_1:=nF HF0_1;replace HF3_0:=nF HF3_0;replace HS3_0:=nS HS3_0;replace HF3_1:=nF HF3_1;replace HS3_1:=nS HS3_1;replace BK1:=nB BK1;replace BK2:=nB BK2;replace BK4:=nB BK4;replace HB:=aA.mk (aT HB.out hb);replace HT:=aA.mk (Nat.le_trans HT.out hb.size);(try clear hb);have:=bs4 BK1.out;have:=bs4 BK2.out;have:=bs4 BK4.out)|((with_reducible refine bN (t:=25) (p:=3) rfl ?_);refine bL (t:=25) (p:=3) (v:=?vo_w8) (w1:=((((w7.setCell ⟨gb4,0,none⟩ (.slice A3_0 l0_0.length c3_0)).setCell ⟨gb4,1,none⟩ (.slice A3_1 l0_1.length c3_1)).setCell ⟨gb4,2,none⟩ (.int .i64 f1)).setCell ⟨gb4,3,none⟩ (.bool b1))) ?hg ?ho ?hn ?hr ?_;(case ho=>rfl);(case hg=>rfl);(case hn=>rfl);(case hr=>exact tE);intro w8 hw_;have hkp:Kept w7 w8 (fun k_=>k_ = gb4):=AJ;have hge_:w.heap.size ≤ gb4:=tL;have hbn_:Below w.heap.size w w8:=tU;have hbk_:w8.heap[gb4]? = some (.cells #[.slice A3_0 l0_0.length c3_0,.slice A3_1 l0_1.length c3_1,.int .i64 f1,.bool b1] 25 (0,0)):=tY;have hsz_:(gb4 + 1) ≤ w8.heap.size:=Nat.le_trans HT.out hkp.1;replace HF0_0:=aA.mk (Kd.aU HF0_0.out hkp tA);replace HF0_1:=aA.mk (Kd.aU HF0_1.out hkp tA);replace HF3_0:=aA.mk (Kd.aU HF3_0.out hkp tA);replace HS3_0:=aA.mk (Kd.bP HS3_0.out hkp tA);replace HF3_1:=aA.mk (Kd.aU HF3_1.out hkp tA);replace HS3_1:=aA.mk (Kd.bP HS3_1.out hkp tA);replace BK1:=aA.mk (aY BK1.out hkp tB);replace BK2:=aA.mk (aY BK2.out hkp tB);replace HB:=aA.mk (hbn_);replace BK4:=aA.mk (hbk_);replace HT:=aA.mk (hsz_);clear hw_ hkp hge_ hbn_ hbk_ hsz_;have:=bs4 BK1.out;have:=bs4 BK2.out;have:=bs4 BK4.out))
 go_loopg [28] (l0_1.length) (fun kq  v9 w'=>∃ (i9:Nat) (x9:Int) (u9:Value),v9 = .int .i64 x9 ∧ aA (x9 = (i9:Int)) ∧ aA (i9 + kq = l0_1.length) ∧ aA ((gb4 + 1) ≤ w'.heap.size) ∧ aA (Kd.S (Kd.slice 5 (Kd.int .u8)) 37 w' w.heap.size (Up lo3 mm3 (gb4 + 1)) u9 (flushSecs l0_0 l0_1 i9)) ∧ aA (Kd.F (Kd.slice 5 (Kd.int .u8)) w' (In 0 w.heap.size) A0_0 l0_0.length l0_0) ∧ aA (Kd.F k50 w' (In 0 w.heap.size) A0_1 l0_1.length l0_1) ∧ aA (Kd.F k50 w' (In mm3 hi3) A3_1 l0_1.length l0_1) ∧ aA (Kd.S k50 50 w' lo3 (In mm3 hi3) (.slice A3_1 l0_1.length c3_1) l0_1) ∧ aA (w'.heap[gb1]? = some (.cells #[.slice A0_0 l0_0.length c0_0,.slice A0_1 l0_1.length c0_1,.int .i64 a0_2,.bool false] 25 (0,0))) ∧ aA (w'.heap[gb2]? = some (.cells #[.slice none 0 0,.slice none 0 0,.int .i64 0,.bool false] 25 (0,0))) ∧ aA (w'.heap[gb4]? = some (.cells #[u9,.slice A3_1 l0_1.length c3_1,.int .i64 f1,.bool b1] 25 (0,0))) ∧ aA (Below w.heap.size w w'))
 case atStart=>exact ⟨0,0,_,rfl,⟨rfl⟩,⟨Nat.zero_add _⟩,HT,⟨by rw [show flushSecs l0_0 l0_1 0 = l0_0 from rfl];exact Kd.bU (Kd.bZ HS3_0.out tq) tR⟩,HF0_0,HF0_1,HF3_1,HS3_1,BK1,BK2,BK4,HB⟩
 clear HF0_0 HF0_1 HF3_1 HS3_1 BK1 BK2 BK4 HB HT HS3_0 HF3_0
 obtain ⟨i9,x9,u9,rfl,HI9,HK9,HT,HS9,HF0_0,HF0_1,HF3_1,HS3_1,BK1,BK2,BK4,HB⟩:=hrel
 obtain ⟨xs9,ex_⟩:∃ y_,y_ = flushSecs l0_0 l0_1 i9:=⟨_,rfl⟩
 rw [← ex_] at HS9
 have HX9:=aA.mk ex_
 clear ex_
 obtain ⟨A9,c9,ev_⟩:=Kd.S_slice HS9.out
 subst ev_
 obtain ⟨hi9,e2_⟩:∃ n_,n_ = wr.heap.size:=⟨_,rfl⟩
 have ol_:(gb4 + 1) ≤ hi9:=(by rw [e2_];exact HT.out)
 have hs_:=Kd.bU (ok':=In2 lo3 mm3 (gb4 + 1) hi9) (Kd.S_bound HS9.out) vA
 have n0_:=aA.mk (And.intro HORD.out ol_)
 have n1_:=aA.mk (Nat.le_of_eq e2_)
 clear HS9 HORD HT
 have HORD:=n0_
 have HT:=n1_
 have HS9:=aA.mk hs_
 have HF9:=aA.mk (Kd.S_F hs_)
 have HC9:=aA.mk (Kd.S_reads' hs_).2.1
 clear n0_ n1_ hs_ ol_ e2_
 rcases gk with _|k1
 rotate_left
 ·have hp_:0 ≤ x9:=(by have:=HI9.out;omega)
  have hq_:x9 < (l0_1.length:Int):=(by have:=HI9.out;have:=HK9.out;omega)
  have hd_:decide (x9 < (l0_1.length:Int)) = true:=decide_eq_true hq_
  have:=bs4 BK1.out
  have:=bs4 BK2.out
  have:=bs4 BK4.out
  ·have WA_:=aA.mk hp_
   obtain ⟨ad10,Ae10,ce10,ee10,hx10_0,hx10_1,hl10,hf10⟩:=F_wr HF3_1.out x9 hp_ hq_
   cases ee10
   have HF10:=aA.mk hf10
   have HC10:=aA.mk hl10
   clear hf10 hl10
   go_wp2_with (first|((with_reducible refine bC (N:=6) rfl ?_);refine bD ?hg (N:=6) ?hd (cs:=#[.int .i64 0,.slice none 0 0]) (t:=50) ?hr ?_;(case hd=>rfl);(case hg=>rfl);(case hr=>exact tE);intro gb11 hg_ w11 hbox hb;have hge_:hi9 ≤ gb11:=tk;have hlt_:gb11 + 1 ≤ w11.heap.size:=bJ hbox;replace HF0_0:=nF HF0_0;replace HF0_1:=nF HF0_1;replace HF3_1:=nF HF3_1;replace HS3_1:=nS HS3_1;replace HF9:=nF HF9;replace HS9:=nS HS9;replace HF10:=nF HF10;replace BK1:=nB BK1;replace BK2:=nB BK2;replace BK4:=nB BK4;replace HB:=aA.mk (aT HB.out hb);replace BK11:=aA.mk (hbox);replace HORD:=aA.mk (And.intro HORD.out (And.intro hge_ (Nat.le_succ gb11)));replace HT:=aA.mk (hlt_);clear hb hbox hg_ hge_ hlt_;have:=bs4 BK1.out;have:=bs4 BK2.out;have:=bs4 BK4.out;have:=bs2 BK11.out)|((with_reducible refine bN (t:=50) (p:=6) rfl ?_);refine bL (t:=50) (p:=6) (v:=?vo_w12) (w1:=((w11.setCell ⟨gb11,0,none⟩ (.int .i64 ((rdW l0_1 x9).f0))).setCell ⟨gb11,1,none⟩ (.slice Ae10 ((rdW l0_1 x9).f1).length ce10))) ?hg ?ho ?hn ?hr ?_;(case ho=>rfl);(case hg=>rfl);(case hn=>rfl);(case hr=>exact tE);intro w12 hw_;have hkp:Kept w11 w12 (fun k_=>k_ = gb11):=(by rw [hw_];exact Kept.setCell (Kept.setCell (Kept.refl w11 (fun k_=>k_ = gb11)) (.inl rfl) (.int .i64 ((rdW l0_1 x9).f0))) (.inl rfl) (.slice Ae10 ((rdW l0_1 x9).f1).length ce10));have hge_:w.heap.size ≤ gb11:=tL;have hbn_:Below w.heap.size w w12:=AC;have hbk_:w12.heap[gb11]? = some (.cells #[.int .i64 ((rdW l0_1 x9).f0),.slice Ae10 ((rdW l0_1 x9).f1).length ce10] 50 (0,0)):=(by rw [hw_];exact aQ (cs:=#[.int .i64 ((rdW l0_1 x9).f0),.slice none 0 0]) (cs':=#[.int .i64 ((rdW l0_1 x9).f0),.slice Ae10 ((rdW l0_1 x9).f1).length ce10]) (aQ (cs:=#[.int .i64 0,.slice none 0 0]) (cs':=#[.int .i64 ((rdW l0_1 x9).f0),.slice none 0 0]) (BK11.out) 0 _ rfl) 1 _ rfl);have hsz_:(gb11 + 1) ≤ w12.heap.size:=Nat.le_trans HT.out hkp.1;replace HF0_0:=aA.mk (Kd.aU HF0_0.out hkp tA);replace HF0_1:=aA.mk (Kd.aU HF0_1.out hkp tA);replace HF3_1:=aA.mk (Kd.aU HF3_1.out hkp tA);replace HS3_1:=aA.mk (Kd.bP HS3_1.out hkp tA);replace HF9:=aA.mk (Kd.aU HF9.out hkp tA);replace HS9:=aA.mk (Kd.bP HS9.out hkp tA);replace HF10:=aA.mk (Kd.aU HF10.out hkp tA);replace BK1:=aA.mk (aY BK1.out hkp tB);replace BK2:=aA.mk (aY BK2.out hkp tB);replace BK4:=aA.mk (aY BK4.out hkp tB);replace HB:=aA.mk (hbn_);replace BK11:=aA.mk (hbk_);replace HT:=aA.mk (hsz_);clear hw_ hkp hge_ hbn_ hbk_ hsz_;have:=bs4 BK1.out;have:=bs4 BK2.out;have:=bs4 BK4.out;have:=bs2 BK11.out))
   replace HF0_0:=aA.mk (Kd.F_drew HF0_0.out)
   replace HF0_1:=aA.mk (Kd.F_drew HF0_1.out)
   replace HF3_1:=aA.mk (Kd.F_drew HF3_1.out)
   replace HS3_1:=aA.mk (Kd.S_drew HS3_1.out)
   replace HF9:=aA.mk (Kd.F_drew HF9.out)
   replace HS9:=aA.mk (Kd.S_drew HS9.out)
   replace HF10:=aA.mk (Kd.F_drew HF10.out)
   replace BK1:=aA.mk (aN BK1.out)
   replace BK2:=aA.mk (aN BK2.out)
   replace BK4:=aA.mk (aN BK4.out)
   replace BK11:=aA.mk (aN BK11.out)
   replace HB:=aA.mk (aH HB.out)
   replace HT:=aA.mk (show _ ≤ w12.drew.heap.size from HT.out)
   refine start_ (n:=10) (S:=fun w'=>w'.cell? ⟨gb4,0,none⟩ = some (.slice A9 xs9.length c9) ∧ w'.cell? ⟨gb4,1,none⟩ = some (.slice (some ad10) l0_1.length c3_1) ∧ w'.cell? ⟨gb4,2,none⟩ = some (.int .i64 f1) ∧ w'.cell? ⟨gb4,3,none⟩ = some (.bool b1) ∧ w'.cell? ⟨gb11,0,none⟩ = some (.int .i64 ((rdW l0_1 x9).f0)) ∧ w'.cell? ⟨gb11,1,none⟩ = some (.slice Ae10 ((rdW l0_1 x9).f1).length ce10)) (ds:=[9]) #[F0,F0,F0,F0,F0,F0,F0,F0,F0,F0] tG rfl rfl ⟨(aD BK4.out 0).trans rfl,(aD BK4.out 1).trans rfl,(aD BK4.out 2).trans rfl,(aD BK4.out 3).trans rfl,(aD BK11.out 0).trans rfl,(aD BK11.out 1).trans rfl⟩ (fun hHeld=>?_)
   generalize w12.drew = w13 at HF0_0 HF0_1 HF3_1 HS3_1 HF9 HS9 HF10 BK1 BK2 BK4 BK11 HB HT hHeld ⊢
   refine bT (i:=0) (N:=some 32) (v:=?_) (a':=?_) #[T1,F0,F0,F0,F0,F0,F0,F0,F0,F0] rfl rfl tG (fun _ _ _ h=>h) (Or.inl ⟨vr,?_⟩) ?_ ?_
   rotate_left
   ·intro w'
    go_simp
    with_reducible rfl
   rotate_left
   ·simp only [Act.put,lA,lB,lC,bE,bG]
    rfl
   refine take_ (i:=1) (N:=some 33) (v:=?_) (a':=?_) #[T1,T1,F0,F0,F0,F0,F0,F0,F0,F0] rfl rfl tG (fun _ _ _ h=>h) (Or.inl ⟨vr,?_⟩) hHeld ?_ ?_
   rotate_left
   ·rintro w' ⟨s0,s1,s2,s3,s4,s5⟩
    go_simp
    with_reducible rfl
   rotate_left
   ·simp only [Act.put,lA,lB,lC,bE,bG]
    rfl
   refine bT (i:=2) (N:=some 34) (v:=?_) (a':=?_) #[T1,T1,T1,F0,F0,F0,F0,F0,F0,F0] rfl rfl tG (fun _ _ _ h=>h) (Or.inl ⟨vr,?_⟩) ?_ ?_
   rotate_left
   ·intro w'
    go_simp
    with_reducible rfl
   rotate_left
   ·simp only [Act.put,lA,lB,lC,bE,bG]
    rfl
   refine take_ (i:=3) (N:=some 35) (v:=?_) (a':=?_) #[T1,T1,T1,T1,F0,F0,F0,F0,F0,F0] rfl rfl tG (fun _ _ _ h=>h) (Or.inl ⟨vr,?_⟩) hHeld ?_ ?_
   rotate_left
   ·rintro w' ⟨s0,s1,s2,s3,s4,s5⟩
    go_simp
    with_reducible rfl
   rotate_left
   ·simp only [Act.put,lA,lB,lC,bE,bG]
    rfl
   refine bT (i:=4) (N:=some 36) (v:=?_) (a':=?_) #[T1,T1,T1,T1,T1,F0,F0,F0,F0,F0] rfl rfl tG (fun _ _ _ h=>h) (Or.inl ⟨vr,?_⟩) ?_ ?_
   rotate_left
   ·intro w'
    go_simp
    with_reducible rfl
   rotate_left
   ·simp only [Act.put,lA,lB,lC,bE,bG]
    rfl
   refine take_ (i:=5) (N:=some 37) (v:=?_) (a':=?_) #[T1,T1,T1,T1,T1,T1,F0,F0,F0,F0] rfl rfl tG (fun _ _ _ h=>h) (Or.inl ⟨vr,?_⟩) hHeld ?_ ?_
   rotate_left
   ·rintro w' ⟨s0,s1,s2,s3,s4,s5⟩
    go_simp
    with_reducible rfl
   rotate_left
   ·simp only [Act.put,lA,lB,lC,bE,bG]
    rfl
   refine one_ (i:=6) (N:=some 38) #[T1,T1,T1,T1,T1,T1,T1,F0,F0,F0] rfl rfl tG tf (fun K hK=>?_)
   refine Kd.N_lit_step (Kd.slice 5 (Kd.int .u8)) _ 37 ?hg (N':=38) ?hd (xs:=([(rdW l0_1 x9).f1]:List (List (Int)))) (inner:=[.slice Ae10 ((rdW l0_1 x9).f1).length ce10]) (ok:=(fun k_=>(In mm3 hi3) k_ ∨ (gb11 + 1) ≤ k_)) (okp:=(In mm3 hi3)) ?hr ?hp (fun _ hk=>.inl hk) (.inr HT.out) (Below.refl _ _) (Nat.le_refl _) vN ?_
   (case hd=>rfl)
   (case hg=>rfl)
   (case hr=>exact tE)
   (case hp=>exact (Reps.one (Kd.FK_slice_mk HC10.out HF10.out) (Reps.none _ _)))
   intro vl14 w14 ho_ hb hg_ hat_
   obtain ⟨A14,c14,ev_⟩:=Kd.cB ho_
   subst ev_
   replace HF0_0:=nF HF0_0
   replace HF0_1:=nF HF0_1
   replace HF3_1:=nF HF3_1
   replace HS3_1:=nS HS3_1
   replace HF9:=nF HF9
   replace HS9:=nS HS9
   replace HF10:=nF HF10
   replace BK1:=nB BK1
   replace BK2:=nB BK2
   replace BK4:=nB BK4
   replace BK11:=nB BK11
   replace HB:=aA.mk (aT HB.out hb)
   replace HT:=aA.mk (Nat.le_trans HT.out hb.size)
   replace HF14:=aA.mk (Kd.N_F ho_)
   replace HC14:=aA.mk ((Kd.N_reads' ho_).2.1)
   clear hb ho_ hg_ hat_
   refine hK.out _ _ ⟨(aD BK4.out 0).trans rfl,(aD BK4.out 1).trans rfl,(aD BK4.out 2).trans rfl,(aD BK4.out 3).trans rfl,(aD BK11.out 0).trans rfl,(aD BK11.out 1).trans rfl⟩ (fun hHeld=>?_)
   clear hK K
   refine norm_ (a':=?_) ?_ ?_
   rotate_left
   ·show Act.put _ (some 38) _ = _
    simp only [Act.put,lA,lB,lC,bE,bG]
    rfl
   refine one_ (i:=7) (N:=some 39) #[T1,T1,T1,T1,T1,T1,T1,T1,F0,F0] rfl rfl tG tf (fun K hK=>?_)
   obtain ⟨kj16,hj_⟩:=joined1 ((rdW l0_1 x9).f1) (by exact getW_len hok1 _)
   have J16:=aA.mk hj_
   clear hj_
   refine goes_ Try.func55 tG rfl #[.slice A14 (([(rdW l0_1 x9).f1]:List (List (Int)))).length c14] wN rfl rfl tC ?_
   (with_reducible refine (impl_joined.calls kj16 _ _ (([(rdW l0_1 x9).f1]:List (List (Int)))) ((rdW l0_1 x9).f1) _ ?s1 ?s2 J16.out).mono ?_)
   (case s1=>exact (Kd.bR HF14.out))
   (case s2=>exact HC14.out)
   rintro e_ w15 ⟨v0_,rfl,ho0,hb⟩
   refine ⟨_,rfl,?_⟩
   obtain ⟨lo15,hi15,el_,eh_,ol_,oh_⟩:=Mem.times HT.out hb
   (try rw [← el_] at ho0)
   obtain ⟨A15_0,c15_0,ev_,hc0_,hf0_,hs0_⟩:=Mem.new_R ho0 eh_
   subst ev_
   replace HF0_0:=nF HF0_0
   replace HF0_1:=nF HF0_1
   replace HF3_1:=nF HF3_1
   replace HS3_1:=nS HS3_1
   replace HF9:=nF HF9
   replace HS9:=nS HS9
   replace HF10:=nF HF10
   replace HF14:=nF HF14
   replace BK1:=nB BK1
   replace BK2:=nB BK2
   replace BK4:=nB BK4
   replace BK11:=nB BK11
   replace HB:=aA.mk (aT HB.out hb)
   replace HF15_0:=aA.mk (hf0_)
   replace HC15_0:=aA.mk (hc0_)
   replace HS15_0:=aA.mk (hs0_)
   replace HORD:=aA.mk (And.intro HORD.out (And.intro ol_ oh_))
   replace HT:=aA.mk (Nat.le_of_eq eh_)
   clear ol_ oh_ el_ eh_ ho0 hf0_ hc0_ hs0_
   (try clear hb)
   refine hK.out _ _ ⟨(aD BK4.out 0).trans rfl,(aD BK4.out 1).trans rfl,(aD BK4.out 2).trans rfl,(aD BK4.out 3).trans rfl,(aD BK11.out 0).trans rfl,(aD BK11.out 1).trans rfl⟩ (fun hHeld=>?_)
   clear hK K
   refine norm_ (a':=?_) ?_ ?_
   rotate_left
   ·show Act.put _ (some 39) _ = _
    simp only [Act.put,lA,lB,lC,bE,bG]
    rfl
   have pI17:0 ≤ ((rdW l0_1 x9).f0):=(devOk_at hdo HI9.out (by have:=HK9.out;omega)).1
   have qI17:((rdW l0_1 x9).f0) < ((xs9).length:Int):=(by have h_:=(devOk_at hdo HI9.out (by have:=HK9.out;omega)).2;rw [HX9.out,flushSecs_length];exact h_)
   obtain ⟨go17,co17,eo_,gb_,gl_,GG_⟩:=Kd.S_form HS9.out tZ
   injection eo_ with ea_ en_ ec_
   subst ea_
   subst ec_
   clear en_ GG_ gl_
   have GO17:=aA.mk ((Kd.S_R HS9.out).1 go17 rfl)
   have GB17:=aA.mk gb_
   clear gb_
   obtain ⟨ok_,ce_,hcl_,hM_,hcc_,hfr_,_,_⟩:=Kd.S_elem HS9.out [] ((rdW l0_1 x9).f0) pI17 qI17
   obtain ⟨ua_,rfl,_⟩:=hM_
   have hx17:=hcc_ 0 _ rfl
   have hf17:=hfr_ 0
   (try simp only [show (Kd.slice 5 (Kd.int .u8)).sz = 1 from rfl,Nat.mul_one,Nat.add_zero] at hx17)
   (try simp only [show (Kd.slice 5 (Kd.int .u8)).sz = 1 from rfl,Nat.mul_one,Nat.add_zero] at hf17)
   clear hcl_ hcc_ hfr_
   have PI17:=aA.mk pI17
   have QI17:=aA.mk qI17
   replace pI17:=eq_true pI17
   replace qI17:=eq_true qI17
   refine bT (i:=8) (N:=some 40) (v:=?_) (a':=?_) #[T1,T1,T1,T1,T1,T1,T1,T1,T1,F0] rfl rfl tG (fun _ _ _ h=>h) (Or.inl ⟨vr,?_⟩) ?_ ?_
   rotate_left
   ·intro w'
    go_simp
    with_reducible rfl
   rotate_left
   ·simp only [Act.put,lA,lB,lC,bE,bG]
    rfl
   refine last_ (i:=9) (N:=none) #[T1,T1,T1,T1,T1,T1,T1,T1,T1,T1] rfl rfl tG tf (fun K hK=>?_)
   obtain ⟨ok_,ce_,hcl_,hM_,hcc_,hfr_,hoki_,hH_⟩:=Kd.S_elem (Kd.bU (ok':=fun k_=>(Up lo3 mm3 (gb4 + 1)) k_ ∧ ¬ (In lo15 hi15) k_) (Kd.bZ HS9.out tq) (fun k_ hk_=>⟨vK,fun h2_=>by have o_:=HORD.out;have t_:=HT.out;(try simp only [In2,Up,In,Ex,Exb] at hk_ h2_);omega⟩):Kd.S (Kd.slice 5 (Kd.int .u8)) 37 w15 w.heap.size _ (.slice (some ⟨go17,0,none⟩) xs9.length c9) xs9) [] ((rdW l0_1 x9).f0) PI17.out QI17.out
   obtain ⟨ua_,rfl,_⟩:=hM_
   have hp_:=(Kd.S_seg hH_ PI17.out QI17.out (seg:=[.slice A15_0 ((rdW l0_1 x9).f1).length c15_0]) (j:=0) (okp:=(In lo15 hi15)) (show 0 + 1 ≤ 1 by decide) (x':=((rdW l0_1 x9).f1)) (Kd.M_row (Kd.R_lower HS15_0.out tq)) (fun k_ hk_=>.inr hk_) (fun k_ hk_=>⟨vK,by have g_:=GO17.out;have o_:=HORD.out;have t_:=HT.out;(try simp only [In2,Up,In,Ex,Exb] at hk_ g_);omega⟩)).1
   (try simp only [show (Kd.slice 5 (Kd.int .u8)).sz = 1 from rfl,Nat.mul_one,Nat.add_zero] at hp_)
   have HP_:=aA.mk (show Kd.S (Kd.slice 5 (Kd.int .u8)) 37 (w15.setCell ⟨go17,((rdW l0_1 x9).f0).toNat,none⟩ (.slice A15_0 ((rdW l0_1 x9).f1).length c15_0)) w.heap.size (Up lo3 mm3 (gb4 + 1)) (.slice (some ⟨go17,0,none⟩) xs9.length c9) (xs9.set ((rdW l0_1 x9).f0).toNat ((rdW l0_1 x9).f1)) from hp_)
   clear hp_ hH_ hoki_ hfr_ hcc_ hcl_
   refine skip_ (w1:=?_) wN rfl ?_ ?_
   rotate_left
   ·go_simp
    rfl
   refine hK.out _ _ ?_
   clear hK K
   refine done_ tG ?_
   obtain ⟨w18,hw_⟩:∃ z_,z_ = (w15.setCell ⟨go17,((rdW l0_1 x9).f0).toNat,none⟩ (.slice A15_0 ((rdW l0_1 x9).f1).length c15_0)):=⟨_,rfl⟩
   (try rw [← hw_])
   have hs0_:=HP_.out
   clear HP_
   rw [← hw_] at hs0_
   obtain ⟨ys18,ey_⟩:∃ y_,y_ = xs9.set ((rdW l0_1 x9).f0).toNat ((rdW l0_1 x9).f1):=⟨_,rfl⟩
   rw [← ey_] at hs0_
   have hle_:ys18.length = (xs9).length:=by rw [ey_,List.length_set]
   have HY18:=aA.mk ey_
   clear ey_
   rw [← hle_] at hs0_
   have hkp:Kept w15 w18 (In2 lo3 mm3 (gb4 + 1) hi9):=(by rw [hw_];exact Kept.setCell (Kept.refl w15 (In2 lo3 mm3 (gb4 + 1) hi9)) (.inl GO17.out) (.slice A15_0 ((rdW l0_1 x9).f1).length c15_0))
   have hbn_:Below w.heap.size w w18:=(by rw [hw_];exact aC HB.out (Nat.le_trans tq GB17.out))
   obtain ⟨hi18,e2_⟩:∃ n_,n_ = w18.heap.size:=⟨_,rfl⟩
   have ol_:hi15 ≤ hi18:=wT
   have hs_:=Kd.bU (ok':=In2 lo3 mm3 (gb4 + 1) hi18) (Kd.S_bound hs0_) vA
   have HL18:=aA.mk hle_
   replace HF0_0:=aA.mk (Kd.aU HF0_0.out hkp tA)
   replace HF0_1:=aA.mk (Kd.aU HF0_1.out hkp tA)
   replace HF3_1:=aA.mk (Kd.aU HF3_1.out hkp tA)
   replace HS3_1:=aA.mk (Kd.bP HS3_1.out hkp tA)
   replace HF10:=aA.mk (Kd.aU HF10.out hkp tA)
   replace BK1:=aA.mk (aY BK1.out hkp tB)
   replace BK2:=aA.mk (aY BK2.out hkp tB)
   replace BK4:=aA.mk (aY BK4.out hkp tB)
   replace BK11:=aA.mk (aY BK11.out hkp tB)
   replace HB:=aA.mk (hbn_)
   replace HORD:=aA.mk (And.intro HORD.out ol_)
   replace HT:=aA.mk (Nat.le_of_eq e2_)
   replace HS18:=aA.mk (hs_)
   replace HF18:=aA.mk (Kd.S_F hs_)
   replace HC18:=aA.mk ((Kd.S_reads' hs_).2.1)
   rw [← hle_] at BK4
   clear hle_ hs_ hs0_ hbn_ hkp ol_ e2_ hw_
   have:=bs4 BK1.out
   have:=bs4 BK2.out
   have:=bs4 BK4.out
   have:=bs2 BK11.out
   try go_wp2
   go_roundg k1
   case measure=>omega
   case rel=>exact ⟨i9 + 1,_,_,rfl,⟨show _ = ((i9 + 1:Nat):Int) by have:=HI9.out;have hm_:=(okWrS_len hok1);have:=HK9.out;first|(rw [w64 tZ tZ];omega)|omega⟩,⟨by have:=HK9.out;omega⟩,⟨Nat.le_trans tq HT.out⟩,⟨by rw [show flushSecs l0_0 l0_1 (i9 + 1) = ys18 from (by rw [HY18.out,HX9.out];exact flush_t HI9.out)];exact Kd.bU (Kd.bZ HS18.out tq) tR⟩,HF0_0,HF0_1,HF3_1,HS3_1,BK1,BK2,BK4,HB⟩
 have hi0_:i9 = l0_1.length:=(by have:=HK9.out;omega)
 have hd_:decide (x9 < (l0_1.length:Int)) = false:=decide_eq_false (by have:=HI9.out;omega)
 have eall_:xs9 = (flushSecs l0_0 l0_1 l0_1.length):=(by rw [HX9.out,hi0_])
 rw [eall_] at HS9 HF9 HC9 BK4
 have:=bs4 BK1.out
 have:=bs4 BK2.out
 have:=bs4 BK4.out
 go_wp2_with (first|((with_reducible refine bN (t:=23) (p:=42) rfl ?_);refine bL (t:=23) (p:=42) (v:=?vo_w19) (w1:=(wr.setCell ⟨gb4,1,none⟩ (.slice none 0 0))) ?hg ?ho ?hn ?hr ?_;(case ho=>rfl);(case hg=>rfl);(case hn=>rfl);(case hr=>exact tE);intro w19 hw_;have hkp:Kept wr w19 (fun k_=>k_ = gb4):=Ak;have hge_:w.heap.size ≤ gb4:=tL;have hbn_:Below w.heap.size w w19:=vu;have hbk_:w19.heap[gb4]? = some (.cells #[.slice A9 ((flushSecs l0_0 l0_1 l0_1.length)).length c9,.slice none 0 0,.int .i64 f1,.bool b1] 25 (0,0)):=(by rw [hw_];exact aQ (cs:=#[.slice A9 ((flushSecs l0_0 l0_1 l0_1.length)).length c9,.slice A3_1 l0_1.length c3_1,.int .i64 f1,.bool b1]) (cs':=#[.slice A9 ((flushSecs l0_0 l0_1 l0_1.length)).length c9,.slice none 0 0,.int .i64 f1,.bool b1]) (BK4.out) 1 _ rfl);have hsz_:hi9 ≤ w19.heap.size:=Nat.le_trans HT.out hkp.1;replace HF0_0:=aA.mk (Kd.aU HF0_0.out hkp tA);replace HF0_1:=aA.mk (Kd.aU HF0_1.out hkp tA);replace HF3_1:=aA.mk (Kd.aU HF3_1.out hkp tA);replace HS3_1:=aA.mk (Kd.bP HS3_1.out hkp tA);replace HF9:=aA.mk (Kd.aU HF9.out hkp tA);replace HS9:=aA.mk (Kd.bP HS9.out hkp tA);replace BK1:=aA.mk (aY BK1.out hkp tB);replace BK2:=aA.mk (aY BK2.out hkp tB);replace HB:=aA.mk (hbn_);replace BK4:=aA.mk (hbk_);replace HT:=aA.mk (hsz_);clear hw_ hkp hge_ hbn_ hbk_ hsz_;have:=bs4 BK1.out;have:=bs4 BK2.out;have:=bs4 BK4.out)|((with_reducible refine bN (t:=25) (p:=2) rfl ?_);refine bL (t:=25) (p:=2) (v:=?vo_w20) (w1:=((((w19.setCell ⟨gb2,0,none⟩ (.slice A9 ((flushSecs l0_0 l0_1 l0_1.length)).length c9)).setCell ⟨gb2,1,none⟩ (.slice none 0 0)).setCell ⟨gb2,2,none⟩ (.int .i64 f1)).setCell ⟨gb2,3,none⟩ (.bool b1))) ?hg ?ho ?hn ?hr ?_;(case ho=>rfl);(case hg=>rfl);(case hn=>rfl);(case hr=>exact tE);intro w20 hw_;have hkp:Kept w19 w20 (fun k_=>k_ = gb2):=(by rw [hw_];exact Kept.setCell (Kept.setCell (Kept.setCell (Kept.setCell (Kept.refl w19 (fun k_=>k_ = gb2)) (.inl rfl) (.slice A9 ((flushSecs l0_0 l0_1 l0_1.length)).length c9)) (.inl rfl) (.slice none 0 0)) (.inl rfl) (.int .i64 f1)) (.inl rfl) (.bool b1));have hge_:w.heap.size ≤ gb2:=tL;have hbn_:Below w.heap.size w w20:=tU;have hbk_:w20.heap[gb2]? = some (.cells #[.slice A9 ((flushSecs l0_0 l0_1 l0_1.length)).length c9,.slice none 0 0,.int .i64 f1,.bool b1] 25 (0,0)):=(by rw [hw_];exact aQ (cs:=#[.slice A9 ((flushSecs l0_0 l0_1 l0_1.length)).length c9,.slice none 0 0,.int .i64 f1,.bool false]) (cs':=#[.slice A9 ((flushSecs l0_0 l0_1 l0_1.length)).length c9,.slice none 0 0,.int .i64 f1,.bool b1]) (aQ (cs:=#[.slice A9 ((flushSecs l0_0 l0_1 l0_1.length)).length c9,.slice none 0 0,.int .i64 0,.bool false]) (cs':=#[.slice A9 ((flushSecs l0_0 l0_1 l0_1.length)).length c9,.slice none 0 0,.int .i64 f1,.bool false]) (aQ (cs:=#[.slice A9 ((flushSecs l0_0 l0_1 l0_1.length)).length c9,.slice none 0 0,.int .i64 0,.bool false]) (cs':=#[.slice A9 ((flushSecs l0_0 l0_1 l0_1.length)).length c9,.slice none 0 0,.int .i64 0,.bool false]) (aQ (cs:=#[.slice none 0 0,.slice none 0 0,.int .i64 0,.bool false]) (cs':=#[.slice A9 ((flushSecs l0_0 l0_1 l0_1.length)).length c9,.slice none 0 0,.int .i64 0,.bool false]) (BK2.out) 0 _ rfl) 1 _ rfl) 2 _ rfl) 3 _ rfl);have hsz_:hi9 ≤ w20.heap.size:=Nat.le_trans HT.out hkp.1;replace HF0_0:=aA.mk (Kd.aU HF0_0.out hkp tA);replace HF0_1:=aA.mk (Kd.aU HF0_1.out hkp tA);replace HF3_1:=aA.mk (Kd.aU HF3_1.out hkp tA);replace HS3_1:=aA.mk (Kd.bP HS3_1.out hkp tA);replace HF9:=aA.mk (Kd.aU HF9.out hkp tA);replace HS9:=aA.mk (Kd.bP HS9.out hkp tA);replace BK1:=aA.mk (aY BK1.out hkp tB);replace BK4:=aA.mk (aY BK4.out hkp tB);replace HB:=aA.mk (hbn_);replace BK2:=aA.mk (hbk_);replace HT:=aA.mk (hsz_);clear hw_ hkp hge_ hbn_ hbk_ hsz_;have:=bs4 BK1.out;have:=bs4 BK2.out;have:=bs4 BK4.out))
 refine bodyPost_ret (fn:=Try.f30) (P:=Try.prog) (results_cell_row rfl _ _ gb2 25 #[.slice A9 ((flushSecs l0_0 l0_1 l0_1.length)).length c9,.slice none 0 0,.int .i64 f1,.bool b1] (0,0) _ rfl BK2.out Try.underlying25 rfl tG) rfl ?_
 first|exact ⟨_,_,w20.heap.size,rfl,HB.out.size,Nat.le_refl _,Kd.bU (Kd.bZ HS9.out tH) tJ,Kd.S_nil _ _ _ _ _,HB.out⟩|exact ⟨_,_,rfl,w20.heap.size,HB.out.size,Nat.le_refl _,Kd.bU (Kd.bZ HS9.out tH) tJ,Kd.S_nil _ _ _ _ _,HB.out⟩
def impl_FlushDevS.f (l0_0:List (List Int)) (l0_1:List (S50)) (a0_2:Int) (a0_3:Bool):Option (List (List Int) × List (S50) × Int × Bool):=if okDevB l0_0 l0_1 = true then some (flushDev l0_0 l0_1 a0_2 a0_3) else none
theorem impl_FlushDevS.calls (P0_0_:Nat → Prop) (A0_0:Option Addr) (c0_0:Nat) (l0_0:List (List Int)) (P0_1_:Nat → Prop) (A0_1:Option Addr) (c0_1:Nat) (l0_1:List (S50)) (a0_2:Int) (a0_3:Bool) (r1:List (List Int)) (r2:List (S50)) (r3:Int) (r4:Bool) (w:World) (hs0_0:Kd.V (Kd.slice 5 (Kd.int .u8)) 37 w w.heap.size (fun k_=>P0_0_ k_) (.slice A0_0 l0_0.length c0_0) l0_0) (hs0_1:Kd.V k50 50 w w.heap.size (fun k_=>P0_1_ k_) (.slice A0_1 l0_1.length c0_1) l0_1) (h:impl_FlushDevS.f l0_0 l0_1 a0_2 a0_3 = some (r1,r2,r3,r4)) :
  Calls Try.prog 30 #[.agg #[.slice A0_0 l0_0.length c0_0,.slice A0_1 l0_1.length c0_1,.int .i64 a0_2,.bool a0_3]] w fun e w'=>∃ v0_ v1_:Value,∃ m_:Nat,e = .returned (.agg #[v0_,v1_,.int .i64 r3,.bool r4]) ∧ w.heap.size ≤ m_ ∧ m_ ≤ w'.heap.size ∧ Kd.S (Kd.slice 5 (Kd.int .u8)) 37 w' w.heap.size (In w.heap.size m_) v0_ r1 ∧ Kd.S k50 50 w' w.heap.size (In m_ w'.heap.size) v1_ r2 ∧ Below w.heap.size w w':=by
 obtain ⟨_,hc0_,hf0_⟩:=Kd.V_at hs0_0
 obtain ⟨_,hc1_,hf1_⟩:=Kd.V_at hs0_1
 replace hf0_:=Kd.F_mono (ok':=In 0 w.heap.size) (Kd.F_bound hf0_) (fun k hk=>⟨Nat.zero_le k,hk.2⟩)
 replace hf1_:=Kd.F_mono (ok':=In 0 w.heap.size) (Kd.F_bound hf1_) (fun k hk=>⟨Nat.zero_le k,hk.2⟩)
 unfold impl_FlushDevS.f at h
 split at h
 ·rename_i hok
  unfold okDevB at hok
  simp only [Bool.and_eq_true,decide_eq_true_eq] at hok
  obtain ⟨hok0,hok1⟩:=hok
  injection h with h
  unfold flushDev at h
  by_cases hdo:devOkB l0_0 l0_1 a0_2 = true
  ·rw [if_pos hdo] at h
   unfold flushed at h
   cases a0_3 with
   | true =>
    simp only [if_true,Prod.mk.injEq] at h
    obtain ⟨rfl,rfl,rfl,rfl⟩:=h
    exact walk_FlushDev2 _ _ _ _ _ _ _ w hf0_ hc0_ hf1_ hc1_ hok0 hok1 hdo
   | false =>
    rw [if_neg tf] at h
    obtain ⟨⟨f1,b1,o1⟩,hbu⟩:∃ z,burnF a0_2 false = z:=⟨_,rfl⟩
    rw [hbu] at h
    cases o1 with
    | true =>
     simp only [if_true,Prod.mk.injEq] at h
     obtain ⟨rfl,rfl,rfl,rfl⟩:=h
     exact walk_FlushDev4 _ _ _ _ _ _ _ w hf0_ hc0_ hf1_ hc1_ hok0 hok1 hdo _ _ hbu
    | false =>
     simp only [Bool.false_eq_true,if_false,Prod.mk.injEq] at h
     obtain ⟨rfl,rfl,rfl,rfl⟩:=h
     exact walk_FlushDev3 _ _ _ _ _ _ _ w hf0_ hc0_ hf1_ hc1_ hok0 hok1 hdo _ _ hbu
  ·rw [if_neg hdo] at h
   simp only [Prod.mk.injEq] at h
   obtain ⟨rfl,rfl,rfl,rfl⟩:=h
   exact walk_FlushDev1 _ _ _ _ _ _ _ _ w hf0_ hc0_ hf1_ hc1_ hok0 hok1 (by simpa using hdo)
 ·cases h
end Go.Proofs.Ytilhcaofpfeioaa.Law
