/- The law: the functions that it reaches, each with the proof that the machine's call comes to its answer, what they answer, and the law's row; each theorem says its conditions itself. -/
import Derived.Test.YtamjbjkbineafaaZFnExactTreePut1
namespace Go.Proofs.Ytamjbjkbineafaa.Ev
open Go Go.RowKit
set_option linter.unusedVariables false
set_option linter.unusedSimpArgs false
inductive Tag where
 | ro|no
 | box (d:Nat)
 | row (p:Nat)
structure Gh where
 own:Nat → Nat
 tag:Nat → Tag
 bx:Nat → Nat
 hd:Nat → Value
def rog (g:Gh) (w:World) (b:Nat):Prop:=g.tag b = .ro ∧ b < w.heap.size
def RepC (g:Gh) (rows:Nat → Option Row) (w:World) (c:CV) (v:Value):Prop :=
 match c with
 | .fv x=>Rep g.own (rog g w) w x v
 | .own p n=>∃ r,rows p = some r ∧ n ≤ r.es.length ∧ (r.es.length = n → v = g.hd p) ∧ v.oneCell' = true
def RepA (g:Gh) (mem:Nat → Option Box) (rows:Nat → Option Row) (w:World) (x:AV) (v:Value):Prop :=
 match x with
 | .any=>True
 | .v sh cs=>∃ vs,v = asm sh vs ∧ All2 (RepC g rows w) cs vs ∧ (sh = .one → cs.length = 1) ∧ (sh = .pr → cs = [] → v = undef)
 | .addr d off=>mem d ≠ none ∧ v = .pointer (some ⟨g.bx d,off,none⟩)
 | .elt e off=>∃ ad,v = .pointer (some ad) ∧ ∀ j y,e[off + j]? = some y → rog g w ad.block ∧ ∃ u,w.cell? (ad.add j) = some u ∧ Rep g.own (rog g w) w y u
 | .eltO p n i off=>∃ r,rows p = some r ∧ n ≤ r.es.length ∧ (r.es.length = n → ∃ b cap,g.hd p = .slice (some ⟨b,0,none⟩) n cap ∧ v = .pointer (some ⟨b,i * tsz r.t + off,none⟩))
def BoxOk (n0:Nat) (g:Gh) (rows:Nat → Option Row) (w:World) (d:Nat) (b:Box):Prop :=
 ∃ cs,w.heap[g.bx d]? = some (.cells cs b.t (0,0)) ∧ n0 ≤ g.bx d ∧ g.tag (g.bx d) = .box d ∧ All2 (RepC g rows w) b.cs cs.toList
def RowOk (n0:Nat) (g:Gh) (w:World) (p:Nat) (r:Row):Prop :=
 ∃ xs,w.ownsRow n0 r.t (tsz r.t) (g.hd p) r.es.length xs ∧ Flat (Rep g.own (rog g w) w) r.t r.es xs ∧
  ∀ b,(g.hd p).ownBlock = some b → g.own b = r.l ∧ g.tag b = if r.fz then .ro else .row p
/-- What stands about a call: the world at its begin, its labels, what it may read. -/
structure Base where
 w0:World
 own0:Nat → Nat
 ro0:Nat → Prop
 N:Nat
structure Inv (B:Base) (U:Nat → Prop) (s:AS) (g:Gh) (a:Act) (w:World):Prop where
 below:Below B.w0.heap.size B.w0 w
 defers:a.defers = []
 size:a.tmps.size = B.N
 tms:∀ i,RepA g s.mem s.rows w (s.tm i) (a.tmps.getD i undef)
 boxes:∀ d b,s.mem d = some b → BoxOk B.w0.heap.size g s.rows w d b
 rows:∀ p r,s.rows p = some r → RowOk B.w0.heap.size g w p r
 old:∀ b,b < B.w0.heap.size → g.own b = B.own0 b ∧ (g.tag b = .ro → B.ro0 b) ∧ ∀ p,g.tag b ≠ .row p
 new:∀ b,B.w0.heap.size ≤ b → b < w.heap.size → g.own b = 0 ∨ U (g.own b)
 labs:∀ p r,s.rows p = some r → r.l = 0 ∨ U r.l
/-- What may turn between two states of which one leads to the other. -/
structure Grow (g:Gh) (mem:Nat → Option Box) (rows:Nat → Option Row) (w:World) (g':Gh) (mem':Nat → Option Box) (rows':Nat → Option Row) (w':World):Prop where
 ro:∀ b,rog g w b → rog g' w' b ∧ g'.own b = g.own b ∧ w'.heap[b]? = w.heap[b]?
 mem:∀ d,mem d ≠ none → mem' d ≠ none ∧ g'.bx d = g.bx d
 rows:∀ p r,rows p = some r → ∃ r',rows' p = some r' ∧ r'.t = r.t ∧ r.es.length ≤ r'.es.length ∧ (r'.es.length = r.es.length → g'.hd p = g.hd p)
section
variable {g g':Gh} {mem mem':Nat → Option Box} {rows rows':Nat → Option Row} {w w':World}
theorem Grow.rep (h:Grow g mem rows w g' mem' rows' w') {x:FV} {v:Value} (hr:Rep g.own (rog g w) w x v):Rep g'.own (rog g' w') w' x v:=hr.move h.ro
theorem Grow.c (h:Grow g mem rows w g' mem' rows' w') {c:CV} {v:Value} (hr:RepC g rows w c v):RepC g' rows' w' c v:=by
 cases c with
 | fv x=>exact h.rep hr
 | own p n =>
  obtain ⟨r,h1,h2,h3,h4⟩:=hr
  obtain ⟨r',k1,k2,k3,k4⟩:=h.rows p r h1
  refine ⟨r',k1,vG,fun e=>?_,h4⟩
  have e2:r.es.length = n:=by omega
  rw [k4 tD]
  exact h3 e2
theorem Grow.a (h:Grow g mem rows w g' mem' rows' w') {x:AV} {v:Value} (hr:RepA g mem rows w x v):RepA g' mem' rows' w' x v:=by
 cases x with
 | any=>trivial
 | v sh cs =>
  obtain ⟨vs,h1,h2,h3⟩:=hr
  exact ⟨vs,h1,h2.imp (fun _ _ _ hc=>h.c hc),h3⟩
 | addr d off =>
  obtain ⟨h1,h2⟩:=hr
  exact ⟨(h.mem d h1).1,by rw [(h.mem d h1).2];exact h2⟩
 | elt e off =>
  obtain ⟨ad,h1,h2⟩:=hr
  refine ⟨ad,h1,fun j y hy=>?_⟩
  obtain ⟨k1,u,k2,k3⟩:=h2 j y hy
  have hb:(ad.add j).block = ad.block:=by unfold Addr.add;split <;> rfl
  exact ⟨(h.ro _ k1).1,u,by rw [World.cell?_of_block (w:=w) (by rw [hb];exact (h.ro _ k1).2.2)];exact k2,h.rep k3⟩
 | eltO p n i off =>
  obtain ⟨r,h1,h2,h3⟩:=hr
  obtain ⟨r',k1,k2,k3,k4⟩:=h.rows p r h1
  refine ⟨r',k1,vG,fun e=>?_⟩
  rw [k4 tD,k2]
  exact h3 tD
theorem Grow.box (h:Grow g mem rows w g' mem' rows' w') {n0 d:Nat} {b:Box} (hb:BoxOk n0 g rows w d b) (h1:g'.bx d = g.bx d) (h2:g'.tag (g.bx d) = g.tag (g.bx d)) (h3:w'.heap[g.bx d]? = w.heap[g.bx d]?):BoxOk n0 g' rows' w' d b:=by
 obtain ⟨cs,k1,k2,k3,k4⟩:=hb
 exact ⟨cs,by rw [h1,h3];exact k1,by rw [h1];exact k2,by rw [h1,h2];exact k3,k4.imp (fun _ _ _ hc=>h.c hc)⟩
theorem own_keep {base:Nat} {e:TypeId} {size n:Nat} {v:Value} {xs:List Value} (h:w.ownsRow base e size v n xs) (hm:∀ k,v.ownBlock = some k → w'.heap[k]? = w.heap[k]?):w'.ownsRow base e size v n xs:=by
 obtain ⟨h1,h2⟩:=h
 refine ⟨h1,?_⟩
 rcases h2 with h2|⟨g,cap,cur,rfl,hg,hh,r⟩
 ·exact .inl h2
 ·exact .inr ⟨g,cap,cur,rfl,hg,(hm g (by simp [Value.ownBlock])).trans hh,r⟩
theorem Grow.row (h:Grow g mem rows w g' mem' rows' w') {n0 p:Nat} {r:Row} (hb:RowOk n0 g w p r) (h1:g'.hd p = g.hd p) (h2:∀ b,(g.hd p).ownBlock = some b → g'.own b = g.own b ∧ g'.tag b = g.tag b ∧ w'.heap[b]? = w.heap[b]?):RowOk n0 g' w' p r:=by
 obtain ⟨xs,k1,k2,k3⟩:=hb
 refine ⟨xs,?_,k2.imp (fun _ _ hc=>h.rep hc),fun b hb=>?_⟩
 ·rw [h1]
  exact own_keep k1 (fun k hk=>(h2 k hk).2.2)
 ·rw [h1] at hb
  obtain ⟨e1,e2,_⟩:=h2 b hb
  rw [e1,e2]
  exact k3 b hb
end
theorem Grow.refl {g:Gh} {mem:Nat → Option Box} {rows:Nat → Option Row} {w:World}:Grow g mem rows w g mem rows w :=
 ⟨fun _ h=>⟨h,rfl,rfl⟩,fun _ h=>⟨h,rfl⟩,fun _ r h=>⟨r,h,rfl,Nat.le_refl _,fun _=>rfl⟩⟩
section
variable {B:Base} {U:Nat → Prop} {s:AS} {g:Gh} {a:Act} {w:World}
theorem Inv.weakU {V:Nat → Prop} (h:Inv B U s g a w) (hv:∀ l,U l → V l):Inv B V s g a w :=
 ⟨h.below,h.defers,h.size,h.tms,h.boxes,h.rows,h.old,fun b h1 h2=>(h.new b h1 h2).imp id (hv _),fun p r hp=>(h.labs p r hp).imp id (hv _)⟩
theorem getD_put (a:Act) (d:Nat) (v:Value) (hd:d < a.tmps.size) (i:Nat):(a.put (some d) v).tmps.getD i undef = if i = d then v else a.tmps.getD i undef:=by
 simp only [Act.put,Array.getD_eq_getD_getElem?,Array.getElem?_setIfInBounds]
 by_cases h:d = i
 ·subst h
  simp [hd]
 ·simp [h,Ne.symm h]
theorem Inv.tmp (h:Inv B U s g a w) {d:Nat} {x:AV} {v:Value} (hd:d < B.N) (hr:RepA g s.mem s.rows w x v):Inv B U (s.put (.tm d x)) g (a.put (some d) v) w:=by
 refine ⟨h.below,h.defers,by simp [Act.put,h.size],fun i=>?_,h.boxes,h.rows,h.old,h.new,h.labs⟩
 rw [getD_put a d v (by rw [h.size];exact hd)]
 simp only [AS.put,upd]
 by_cases hi:i = d
 ·rw [if_pos hi,if_pos hi];exact hr
 ·rw [if_neg hi,if_neg hi];exact h.tms i
theorem Inv.lead (h:Inv B U s g a w) {V:Nat → Prop} {s':AS} {g':Gh} {w':World} (hg:Grow g s.mem s.rows w g' s'.mem s'.rows w') (htm:s'.tm = s.tm) (hb:Below B.w0.heap.size w w')
  (hbx:∀ d b,s'.mem d = some b → BoxOk B.w0.heap.size g' s'.rows w' d b) (hrw:∀ p r,s'.rows p = some r → RowOk B.w0.heap.size g' w' p r)
  (hold:∀ b,b < B.w0.heap.size → g'.own b = g.own b ∧ g'.tag b = g.tag b) (hnew:∀ b,B.w0.heap.size ≤ b → b < w'.heap.size → g'.own b = 0 ∨ V (g'.own b)) (hlabs:∀ p r,s'.rows p = some r → r.l = 0 ∨ V r.l):Inv B V s' g' a w' :=
 ⟨h.below.trans hb,h.defers,h.size,fun i=>by rw [htm];exact hg.a (h.tms i),hbx,hrw,fun b hb=>⟨by rw [(hold b hb).1];exact (h.old b hb).1,by rw [(hold b hb).2];exact (h.old b hb).2⟩,hnew,hlabs⟩
end
def AS.ev (s:AS):Operand → AV
 | .tmp t=>s.tm t
 | .const v=>constA v
 | _=>.any
theorem evO_run {α:Type} (x:Operand) (k:AV → M α) (s:AS):(evO x k).run s = (k (s.ev x)).run s:=by cases x <;> rfl
theorem constA_rep (g:Gh) (mem:Nat → Option Box) (rows:Nat → Option Row) (w:World) (v:Value):RepA g mem rows w (constA v) v:=by
 unfold constA
 split
 ·rename_i h
  exact ⟨[v],rfl,.cons (.lit v h) .nil,fun _=>rfl,fun h=>by cases h⟩
 ·trivial
theorem lit_rep (g:Gh) (mem:Nat → Option Box) (rows:Nat → Option Row) (w:World) (v:Value) (h:litOk v = true):RepA g mem rows w (litA v) v :=
 ⟨[v],rfl,.cons (.lit v h) .nil,fun _=>rfl,fun h=>by cases h⟩
theorem Inv.ev {B:Base} {U:Nat → Prop} {s:AS} {g:Gh} {a:Act} {w:World} (h:Inv B U s g a w) (x:Operand):RepA g s.mem s.rows w (s.ev x) (a.eval x):=by
 cases x with
 | tmp t=>exact h.tms t
 | const v=>exact constA_rep _ _ _ _ _
 | global=>trivial
 | func=>trivial
section
variable {g:Gh} {mem:Nat → Option Box} {rows:Nat → Option Row} {w:World}
theorem rep_lit {own:Nat → Nat} {ro:Nat → Prop} {w:World} {v u:Value} (h:Rep own ro w (.lit v) u):u = v ∧ litOk v = true:=by cases h with|lit _ h=>exact ⟨rfl,h⟩
theorem repA_one {c:CV} {v:Value} (h:RepA g mem rows w (.v .one [c]) v):RepC g rows w c v:=by
 obtain ⟨vs,rfl,h2,_⟩:=h
 cases h2 with
 | cons h t=>cases t;exact h
theorem repA_lit {u v:Value} (h:RepA g mem rows w (.v .one [.fv (.lit u)]) v):v = u:=(rep_lit (repA_one h)).1
theorem one_repA {c:CV} {v:Value} (h:RepC g rows w c v):RepA g mem rows w (.v .one [c]) v:=⟨[v],rfl,.cons h .nil,fun _=>rfl,fun h=>by cases h⟩
theorem RepC.one {c:CV} {v:Value} (h:RepC g rows w c v):v.oneCell' = true:=by
 cases c with
 | fv x=>exact Rep.one h
 | own p n=>obtain ⟨_,_,_,_,h⟩:=h;exact h
theorem one_cells {v:Value} (h:v.oneCell' = true):v.cells = #[v]:=by cases v <;> first|rfl|cases h
theorem repA_cells {sh:Sh} {cs:List CV} {v:Value} (h:RepA g mem rows w (.v sh cs) v) (hs:sh = .one ∨ sh = .agg):All2 (RepC g rows w) cs v.cells.toList:=by
 obtain ⟨vs,rfl,h2,h3,_⟩:=h
 rcases hs with rfl|rfl
 ·have:=h3 rfl
  cases h2 with
  | nil=>simp at this
  | cons h t =>
   cases t with
   | nil=>simp only [asm,List.headD_cons];rw [one_cells h.one];exact .cons h .nil
   | cons _ _=>simp at this
 ·exact h2
end
end Go.Proofs.Ytamjbjkbineafaa.Ev

namespace Go.Proofs.Ytamjbjkbineafaa.Ev
open Go Go.RowKit
set_option linter.unusedVariables false
set_option linter.unusedSimpArgs false
def Un (U:Nat → Prop) (k k':Nat) (l:Nat):Prop:=U l ∨ (k ≤ l ∧ l < k')
section
variable {B:Base} {U:Nat → Prop} {s:AS} {g:Gh} {a:Act} {w:World} {o:Oper} {d k k':Nat} {ws:List W} {K:Act → World → Prop} {Q:Exit → Act → World → Prop}
theorem wp_val {x:AV} {v:Value} (hi:Inv B U s g a w) (hdst:o.dst = some d) (hdN:d < B.N) (hK:∀ g' a' w',Inv B (Un U k k') (s.app [.tm d x]) g' a' w' → K a' w')
  (hrun:(execOp a.eval o).run Try.prog w = .ok (.value v) w) (hrep:RepA g s.mem s.rows w x v):o.wp Try.prog a w K Q:=by
 unfold Oper.wp
 rw [hrun]
 show K (a.put o.dst v) w
 rw [hdst]
 exact hK g _ _ ((hi.tmp hdN hrep).weakU (fun _ h=>.inl h))
theorem boolA_run {α:Type} {x:AV} {f:Bool → M α} {r:α} (h:(boolA x f).run s = some r):∃ b,x = litA (.bool b) ∧ (f b).run s = some r:=by
 unfold boolA at h
 split at h
 ·exact ⟨_,rfl,h⟩
 ·cases h
theorem intA_run {α:Type} {x:AV} {f:Int → M α} {r:α} (h:(intA x f).run s = some r):∃ n,x = litA (.int .i64 n) ∧ (f n).run s = some r:=by
 unfold intA at h
 split at h
 ·exact ⟨_,rfl,h⟩
 ·cases h
theorem rowO_run {α:Type} {p n:Nat} {f:Row → M α} {x:α} (h:(rowO p n f).run s = some x):∃ r,s.rows p = some r ∧ n = r.es.length ∧ (f r).run s = some x:=by
 simp only [rowO,M.run] at h
 split at h
 ·rename_i r hr
  split at h
  ·exact ⟨r,hr,by assumption,h⟩
  ·cases h
 ·cases h
theorem cellsA_run {α:Type} {y:AV} {f:List CV → M α} {x:α} (h:(cellsA y f).run s = some x):∃ sh cs,y = .v sh cs ∧ (sh = .one ∨ sh = .agg) ∧ (f cs).run s = some x:=by
 unfold cellsA at h
 split at h
 ·exact ⟨_,_,rfl,.inl rfl,h⟩
 ·exact ⟨_,_,rfl,.inr rfl,h⟩
 ·cases h
theorem ite_run {α:Type} {c:Prop} [Decidable c] {x y:M α} {r:α} (h:(if c then x else y).run s = some r):(c ∧ x.run s = some r) ∨ (¬ c ∧ y.run s = some r):=by
 split at h
 ·exact .inl ⟨by assumption,h⟩
 ·exact .inr ⟨by assumption,h⟩
theorem if_run {α:Type} {c:Prop} [Decidable c] {x:M α} {r:α} (h:(if c then x else .fail).run s = some r):c ∧ x.run s = some r:=by
 rcases ite_run h with h|⟨_,h⟩
 ·exact h
 ·cases h
theorem done_inj {ws ws':List W} {k k':Nat} (h:(M.ret (Out.done ws k)).run s = some (.done ws' k')):ws' = ws ∧ k' = k:=by
 simp only [M.run,Option.some.injEq,Out.done.injEq] at h
 exact ⟨h.1.symm,h.2.symm⟩
theorem s_move (x:Operand) (hop:o.op = .move x ∨ o.op = .assign x) (h:(evO x fun a=>M.ret (Out.done [.tm d a] k)).run s = some (.done ws k')) (hi:Inv B U s g a w) (hdst:o.dst = some d) (hdN:d < B.N)
  (hK:∀ g' a' w',Inv B (Un U k k') (s.app ws) g' a' w' → K a' w'):o.wp Try.prog a w K Q:=by
 rw [evO_run] at h
 obtain ⟨rfl,rfl⟩:=done_inj h
 refine wp_val hi hdst hdN hK (v:=a.eval x) ?_ (hi.ev x)
 rcases hop with hop|hop <;> simp [execOp,hop,pure]
theorem s_pick (c x y:Operand) (hop:o.op = .pick c x y) (h:(semD o.op d k).run s = some (.done ws k')) (hi:Inv B U s g a w) (hdst:o.dst = some d) (hdN:d < B.N)
  (hK:∀ g' a' w',Inv B (Un U k k') (s.app ws) g' a' w' → K a' w'):o.wp Try.prog a w K Q:=by
 rw [hop] at h
 simp only [semD] at h
 rw [evO_run] at h
 obtain ⟨b,hb,h⟩:=boolA_run h
 rw [evO_run,evO_run] at h
 obtain ⟨rfl,rfl⟩:=done_inj h
 have hc:=hi.ev c
 rw [hb] at hc
 have hcv:=repA_lit hc
 refine wp_val hi hdst hdN hK (v:=if b then a.eval x else a.eval y) ?_ ?_
 ·simp [execOp,hop,hcv,asBool,pure,Sem.run]
 ·cases b
  ·exact hi.ev y
  ·exact hi.ev x
theorem s_not (t:TypeId) (x:Operand) (hop:o.op = .unOp .not t x) (h:(semD o.op d k).run s = some (.done ws k')) (hi:Inv B U s g a w) (hdst:o.dst = some d) (hdN:d < B.N)
  (hK:∀ g' a' w',Inv B (Un U k k') (s.app ws) g' a' w' → K a' w'):o.wp Try.prog a w K Q:=by
 rw [hop] at h
 simp only [semD] at h
 rw [evO_run] at h
 obtain ⟨b,hb,h⟩:=boolA_run h
 obtain ⟨rfl,rfl⟩:=done_inj h
 have hc:=hi.ev x
 rw [hb] at hc
 have hcv:=repA_lit hc
 refine wp_val hi hdst hdN hK (v:=.bool !b) ?_ (lit_rep _ _ _ _ _ rfl)
 simp [execOp,hop,hcv,Op.unary,pure,Sem.run]
theorem s_bin (op:BinOp) (t t':TypeId) (x y:Operand) (hop:o.op = .binOp op t x y t') (h:(semD o.op d k).run s = some (.done ws k')) (hi:Inv B U s g a w) (hdst:o.dst = some d) (hdN:d < B.N)
  (hK:∀ g' a' w',Inv B (Un U k k') (s.app ws) g' a' w' → K a' w'):o.wp Try.prog a w K Q:=by
 rw [hop] at h
 simp only [semD] at h
 rw [evO_run] at h
 obtain ⟨m,hm,h⟩:=intA_run h
 rw [evO_run] at h
 obtain ⟨n,hn,h⟩:=intA_run h
 have hx:=hi.ev x
 rw [hm] at hx
 have hxv:=repA_lit hx
 have hy:=hi.ev y
 rw [hn] at hy
 have hyv:=repA_lit hy
 split at h
 ·rename_i v hv
  obtain ⟨rfl,rfl⟩:=done_inj h
  have hl:litOk v = true:=by
   unfold binV at hv
   split at hv <;> (try split at hv) <;> first|(obtain rfl:=Option.some.inj hv;rfl)|cases hv
  refine wp_val hi hdst hdN hK (v:=v) ?_ (lit_rep _ _ _ _ _ hl)
  unfold binV at hv
  split at hv <;> (try split at hv) <;> first|(cases hv;done)|(obtain rfl:=Option.some.inj hv;simp [execOp,hop,hxv,hyv,eqGuard,binOp,Op.intArith,Op.intCmp,pure,Sem.run];done)|(obtain rfl:=Option.some.inj hv;simp [execOp,hop,hxv,hyv,eqGuard,binOp,Op.intDiv,(by assumption:¬ n = 0),pure,Sem.run])
 ·cases h
theorem dropLast_All2 {α β:Type} {R:α → β → Prop} {xs:List α} {ys:List β} (h:All2 R xs ys):All2 R xs.dropLast ys.dropLast:=by
 rw [List.dropLast_eq_take,List.dropLast_eq_take,h.length]
 exact h.take _
theorem last_All2 {α β:Type} {R:α → β → Prop} {xs:List α} {ys:List β} (h:All2 R xs ys) {c:α} (hc:xs.getLast? = some c) (z:β):R c (ys.getLastD z):=by
 rw [List.getLast?_eq_getElem?] at hc
 obtain ⟨b,hb,hr⟩:=h.get _ _ hc
 rw [List.getLastD_eq_getLast?,List.getLast?_eq_getElem?,← h.length,hb]
 exact hr
theorem s_extract (x:Operand) (i:Nat) (hop:o.op = .extract x i) (h:(semD o.op d k).run s = some (.done ws k')) (hi:Inv B U s g a w) (hdst:o.dst = some d) (hdN:d < B.N)
  (hK:∀ g' a' w',Inv B (Un U k k') (s.app ws) g' a' w' → K a' w'):o.wp Try.prog a w K Q:=by
 rw [hop] at h
 simp only [semD] at h
 rw [evO_run] at h
 have hx:=hi.ev x
 split at h
 ·rename_i c0 cs hcs
  rw [hcs] at hx
  obtain ⟨vs,hv,h2,_,_⟩:=hx
  obtain ⟨v0,vs,rfl⟩:∃ v0 vs',vs = v0 :: vs':=by cases h2 with|cons _ _=>exact ⟨_,_,rfl⟩
  split at h
  ·obtain ⟨rfl,rfl⟩:=done_inj h
   refine wp_val hi hdst hdN hK (v:=.agg (v0 :: vs).dropLast.toArray) ?_ ⟨(v0 :: vs).dropLast,rfl,dropLast_All2 h2,nofun,nofun⟩
   simp [execOp,hop,hv,asm,Instr.extract,pure,Sem.run]
  ·split at h
   ·rename_i c hc
    obtain ⟨rfl,rfl⟩:=done_inj h
    refine wp_val hi hdst hdN hK (v:=(v0 :: vs).getLastD undef) ?_ (one_repA (last_All2 h2 hc undef))
    simp [execOp,hop,hv,asm,Instr.extract,pure,Sem.run]
   ·cases h
  ·cases h
 ·cases h
theorem add_add_ (ad:Addr) (i j:Nat):(ad.add i).add j = ad.add (i + j):=by
 unfold Addr.add
 by_cases hi:i = 0 <;> by_cases hj:j = 0 <;> simp [hi,hj,Nat.add_assoc]
theorem s_fieldAddr (t:TypeId) (x:Operand) (f:Nat) (hop:o.op = .fieldAddr t x f) (h:(semD o.op d k).run s = some (.done ws k')) (hi:Inv B U s g a w) (hdst:o.dst = some d) (hdN:d < B.N)
  (hK:∀ g' a' w',Inv B (Un U k k') (s.app ws) g' a' w' → K a' w'):o.wp Try.prog a w K Q:=by
 rw [hop] at h
 simp only [semD] at h
 obtain ⟨hc,h⟩:=if_run h
 simp only [Bool.and_eq_true,decide_eq_true_eq] at hc
 have hu:=ty_agg (tagg_known hc.1)
 rw [if_pos hc.1] at hu
 obtain ⟨fs,hu,hfs⟩:=hu
 obtain ⟨fd,h1,h2,h3⟩:=hfs f hc.2
 obtain ⟨inf,hinf,hsz⟩:=ty_size h3
 have run:∀ ad:Addr,a.eval x = .pointer (some ad) → (execOp a.eval o).run Try.prog w = .ok (.value (.pointer (some (ad.add f)))) w:=by
  intro ad ha
  have hne:tsz fd.type ≠ 0:=Nat.ne_of_gt (tsz_pos _)
  simp [execOp,hop,ha,Instr.fieldAt,run_underlying hu,h1,Instr.sureAddr,fieldPlace,sizeOf,typeInfo,hinf,hsz,hne,h2,pure,Sem.run]
 rw [evO_run] at h
 have hx:=hi.ev x
 split at h
 ·rename_i b off hb
  obtain ⟨rfl,rfl⟩:=done_inj h
  rw [hb] at hx
  obtain ⟨k1,k2⟩:=hx
  refine wp_val hi hdst hdN hK (run _ k2) ⟨k1,?_⟩
  rw [Addr.add_mid]
 ·rename_i e off hb
  obtain ⟨rfl,rfl⟩:=done_inj h
  rw [hb] at hx
  obtain ⟨ad,k1,k2⟩:=hx
  refine wp_val hi hdst hdN hK (run _ k1) ⟨_,rfl,fun j y hy=>?_⟩
  obtain ⟨q1,u,q2,q3⟩:=k2 (f + j) y (by rw [← hy,Nat.add_assoc])
  have hbk:(ad.add f).block = ad.block:=by unfold Addr.add;split <;> rfl
  exact ⟨by rw [hbk];exact q1,u,by rw [add_add_];exact q2,q3⟩
 ·rename_i p n i off hb
  obtain ⟨r',hr',e,h⟩:=rowO_run h
  obtain ⟨rfl,rfl⟩:=done_inj h
  rw [hb] at hx
  obtain ⟨r,k1,k2,k3⟩:=hx
  rw [hr'] at k1
  obtain rfl:=Option.some.inj k1
  obtain ⟨b,cap,q1,q2⟩:=k3 e.symm
  refine wp_val hi hdst hdN hK (run _ q2) ⟨_,hr',k2,fun _=>⟨b,cap,q1,?_⟩⟩
  rw [Addr.add_mid,Nat.add_assoc]
 ·cases h
end
end Go.Proofs.Ytamjbjkbineafaa.Ev

namespace Go.Proofs.Ytamjbjkbineafaa.Ev
open Go Go.RowKit
set_option linter.unusedVariables false
set_option linter.unusedSimpArgs false
theorem collect {α:Type} {R:α → Value → Prop} {P:Nat → Value → Prop}:∀ {xs:List α},(∀ (j:Nat) y,xs[j]? = some y → ∃ u,P j u ∧ R y u) → ∃ us:List Value,All2 R xs us ∧ ∀ (j:Nat) u,us[j]? = some u → P j u:=by
 intro xs
 induction xs generalizing P with
 | nil=>intro _;exact ⟨[],.nil,fun j u h=>by simp at h⟩
 | cons x xs ih =>
  intro h
  obtain ⟨u,h1,h2⟩:=h 0 x rfl
  obtain ⟨us,k1,k2⟩:=ih (P:=fun j=>P (j + 1)) (fun j y hy=>h (j + 1) y (by simpa using hy))
  refine ⟨u :: us,.cons h2 k1,fun j v hv=>?_⟩
  cases j with
  | zero=>simp at hv;subst hv;exact h1
  | succ j=>exact k2 j v (by simpa using hv)
theorem Addr.add_block_ (ad:Addr) (j:Nat):(ad.add j).block = ad.block:=by unfold Addr.add;split <;> rfl
theorem load_run {t:Nat} (ht:known t = true) (w:World) (ad:Addr) (vs:List Value) (hl:vs.length = tsz t) (hc:∀ (j:Nat) v,vs[j]? = some v → w.cell? (ad.add j) = some v) :
  (Instr.loadAt t (.pointer (some ad))).run Try.prog w = .ok (asm (if tagg t then .agg else .one) vs) w:=by
 have hu:=ty_agg ht
 obtain ⟨inf,hinf,hsz⟩:=ty_size ht
 simp only [Instr.loadAt,Instr.sureAddr,Sem.run_bind,Sem.run_pure,Result.andThen_ok]
 by_cases ha:tagg t = true
 ·rw [if_pos ha] at hu
  obtain ⟨fs,hu,_⟩:=hu
  have hlc:=run_loadCells_list (P:=Try.prog) w ad vs hc
  rw [hl] at hlc
  simp [loadVar,Sem.run_bind,isAgg,run_underlying hu,sizeOf,typeInfo,hinf,hsz,hlc,asm,ha]
 ·rw [if_neg ha] at hu
  obtain ⟨dd,hu,hd⟩:=hu
  have hn:tsz t = 1:=by
   unfold known at ht
   unfold tagg at ha
   split at ht <;> first|rfl|(exfalso;exact ha rfl)|cases ht
  rw [hn] at hl
  obtain ⟨v,rfl⟩:∃ v,vs = [v]:=by
   match vs,hl with
   | [v],_=>exact ⟨v,rfl⟩
  have h0:=hc 0 v rfl
  have e0:ad.add 0 = ad:=by simp [Addr.add]
  rw [e0] at h0
  have hagg:(isAgg t).run Try.prog w = .ok false w:=by
   unfold isAgg
   rw [Sem.run_bind,run_underlying hu w]
   cases dd <;> simp_all
  simp [loadVar,Sem.run_bind,hagg,load,Sem.run,h0,asm,ha]
theorem Rep.row_open {own:Nat → Nat} {ro:Nat → Prop} {w:World} {l t:Nat} {es:List (List FV)} {v:Value} (h:Rep own ro w (.row l t es) v) :
  ∃ A cap,v = .slice A es.length cap ∧ es.length ≤ cap ∧ es.length ≤ 9223372036854775807 ∧ (∀ (i:Nat) e,es[i]? = some e → e.length = tsz t) ∧
   ∀ (i:Nat) e,es[i]? = some e → ∃ ad,A = some ad ∧ ro ad.block ∧ ∀ (j:Nat) x,e[j]? = some x → ∃ u,w.cell? (ad.add (i * tsz t + j)) = some u ∧ Rep own ro w x u:=by
 cases h with
 | row _ _ _ A cap cv hcap hmax hlen hcell hrep hown =>
  refine ⟨A,cap,rfl,hcap,hmax,hlen,fun i e he=>?_⟩
  obtain ⟨ad,h1,h2,h3⟩:=hcell i e he
  exact ⟨ad,h1,h2,fun j x hx=>⟨_,h3 j x hx,hrep i e he j x hx⟩⟩
theorem owns_max {w:World} {base:Nat} {e:TypeId} {size n:Nat} {v:Value} {xs:List Value} (h:w.ownsRow base e size v n xs):n ≤ 9223372036854775807:=by
 rcases h.2 with ⟨_,rfl⟩|⟨_,cap,_,_,_,_,h1,h2,_⟩
 ·omega
 ·simp only [maxLen] at h2;omega
theorem owns_slice {w:World} {base:Nat} {e:TypeId} {size n:Nat} {v:Value} {xs:List Value} (h:w.ownsRow base e size v n xs):∃ A cap,v = .slice A n cap ∧ n ≤ cap:=by
 rcases h.2 with ⟨rfl,rfl⟩|⟨g,cap,_,rfl,_,_,h1,_⟩
 ·exact ⟨none,0,rfl,Nat.le_refl _⟩
 ·exact ⟨_,cap,rfl,h1⟩
theorem row_rep {n0:Nat} {g:Gh} {w:World} {p:Nat} {r:Row} (h:RowOk n0 g w p r) (hro:∀ b,(g.hd p).ownBlock = some b → g.tag b = .ro):Rep g.own (rog g w) w (.row r.l r.t r.es) (g.hd p):=by
 obtain ⟨xs,h1,h2,h3⟩:=h
 obtain ⟨A,cap,hv,hle⟩:=owns_slice h1
 have hrb:∀ ad,A = some ad → rog g w ad.block:=fun ad ha=>by
  subst ha
  have hb:(g.hd p).ownBlock = some ad.block:=by rw [hv];rfl
  exact ⟨hro _ hb,(h1.lt _ hb).2⟩
 rw [hv]
 refine .row r.l r.t r.es A cap (fun i j=>(xs[i * tsz r.t + j]?).getD undef) hle (owns_max h1) h2.1 (fun i e he=>?_) (fun i e he j x hx=>?_) (fun _=>⟨xs,?_,fun ad ha=>⟨?_,hrb ad ha⟩⟩)
 ·have hpos:0 < r.es.length:=by have:=(List.getElem?_eq_some_iff.1 he).1;omega
  obtain ⟨b,cap',hv',_,_⟩:=h1.form hpos
  rw [hv] at hv'
  injection hv' with ha _ _
  refine ⟨_,ha,hrb _ ha,fun j x hx=>?_⟩
  obtain ⟨u,hu,_⟩:=h2.2 i e he j x hx
  rw [hu]
  exact h1.cells (g:=b) (by rw [hv,ha];rfl) _ u hu
 ·obtain ⟨u,hu,hr⟩:=h2.2 i e he j x hx
  simp only [hu,Option.getD_some]
  exact hr
 ·rw [hv] at h1
  exact ⟨h1.1,by
   rcases h1.2 with h|⟨g',c',cur,e1,_,r⟩
   ·exact .inl h
   ·exact .inr ⟨g',c',cur,e1,Nat.zero_le _,r⟩⟩
 ·subst ha
  exact (h3 ad.block (by rw [hv];rfl)).1
section
variable {B:Base} {U:Nat → Prop} {s:AS} {g:Gh} {a:Act} {w:World} {o:Oper} {d k k':Nat} {ws:List W} {K:Act → World → Prop} {Q:Exit → Act → World → Prop}
theorem loadV_run {t:Nat} {cs:List CV} {f:AV → M Out} {r:Out} (h:(loadV t cs f).run s = some r):cs.length = tsz t ∧ (f (.v (if tagg t then .agg else .one) cs)).run s = some r:=if_run h
theorem sh_ok {t:Nat} {cs:List CV} (ht:known t = true) (hl:cs.length = tsz t):((if tagg t then Sh.agg else .one) = .one → cs.length = 1) ∧ ((if tagg t then Sh.agg else .one) = .pr → cs ≠ []):=by
 constructor
 ·intro h
  split at h
  ·cases h
  ·rename_i ha
   unfold known at ht
   unfold tagg at ha
   rw [hl]
   split at ht <;> first|rfl|(exfalso;exact ha rfl)|cases ht
 ·intro h
  split at h <;> cases h
theorem s_load (t:TypeId) (x:Operand) (hop:o.op = .load t x) (h:(semD o.op d k).run s = some (.done ws k')) (hi:Inv B U s g a w) (hdst:o.dst = some d) (hdN:d < B.N)
  (hK:∀ g' a' w',Inv B (Un U k k') (s.app ws) g' a' w' → K a' w'):o.wp Try.prog a w K Q:=by
 rw [hop] at h
 simp only [semD] at h
 obtain ⟨ht,h⟩:=if_run h
 rw [evO_run] at h
 have hx:=hi.ev x
 have fin:∀ (ad:Addr) (cs:List CV) (vs:List Value),a.eval x = .pointer (some ad) → cs.length = tsz t → All2 (RepC g s.rows w) cs vs → (∀ (j:Nat) v,vs[j]? = some v → w.cell? (ad.add j) = some v) →
   (M.ret (Out.done [.tm d (.v (if tagg t then .agg else .one) cs)] k)).run s = some (.done ws k') → o.wp Try.prog a w K Q:=by
  intro ad cs vs ha hl h2 hc h
  obtain ⟨rfl,rfl⟩:=done_inj h
  refine wp_val hi hdst hdN hK (v:=asm (if tagg t then .agg else .one) vs) ?_ ⟨vs,rfl,h2,(sh_ok ht hl).1,fun e q=>absurd q ((sh_ok ht hl).2 e)⟩
  have:=load_run ht w ad vs (by rw [← h2.length];exact hl) hc
  simp [execOp,hop,ha,this]
 split at h
 ·rename_i b off hb
  rw [hb] at hx
  obtain ⟨k1,k2⟩:=hx
  simp only [M.run] at h
  split at h
  ·rename_i bx hbx
   obtain ⟨hl,h⟩:=loadV_run h
   obtain ⟨cs,q1,q2,q3,q4⟩:=hi.boxes _ _ hbx
   refine fin _ _ ((cs.toList.drop off).take (tsz t)) k2 hl ((q4.drop off).take _) (fun j v hv=>?_) h
   rw [Addr.add_mid,cell_of_row w _ _ cs _ _ q1]
   rw [List.getElem?_take] at hv
   split at hv
   ·rw [List.getElem?_drop] at hv
    rw [← Array.getElem?_toList]
    exact hv
   ·cases hv
  ·cases h
 ·rename_i e off hb
  rw [hb] at hx
  obtain ⟨ad,k1,k2⟩:=hx
  obtain ⟨hl,h⟩:=loadV_run h
  obtain ⟨us,c1,c2⟩:=collect (R:=fun (y:FV) u=>Rep g.own (rog g w) w y u) (P:=fun j u=>w.cell? (ad.add j) = some u) (xs:=(e.drop off).take (tsz t)) (fun j y hy=>by
   rw [List.getElem?_take] at hy
   split at hy
   ·rw [List.getElem?_drop] at hy
    obtain ⟨_,u,q1,q2⟩:=k2 j y hy
    exact ⟨u,q1,q2⟩
   ·cases hy)
  refine fin ad _ us k1 hl ?_ c2 h
  exact All2.of_get (by rw [List.length_map];exact c1.length) (fun i a b ha hb=>by
   rw [List.getElem?_map] at ha
   cases hq:((e.drop off).take (tsz t))[i]? with
   | none=>rw [hq] at ha;cases ha
   | some y =>
    rw [hq] at ha
    obtain rfl:=Option.some.inj ha
    obtain ⟨b',hb',hr⟩:=c1.get i y hq
    rw [hb] at hb'
    obtain rfl:=Option.some.inj hb'
    exact hr)
 ·rename_i p n i off hb
  rw [hb] at hx
  obtain ⟨r,hr,e,h⟩:=rowO_run h
  obtain ⟨r',k1,k2,k3⟩:=hx
  rw [hr] at k1
  obtain rfl:=Option.some.inj k1
  obtain ⟨b,cap,q1,q2⟩:=k3 e.symm
  split at h
  ·rename_i el hel
   obtain ⟨hl,h⟩:=loadV_run h
   obtain ⟨xs,z1,z2,z3⟩:=hi.rows _ _ hr
   obtain ⟨us,c1,c2⟩:=collect (R:=fun (y:FV) u=>Rep g.own (rog g w) w y u) (P:=fun j u=>w.cell? ((⟨b,i * tsz r.t + off,none⟩:Addr).add j) = some u) (xs:=(el.drop off).take (tsz t)) (fun j y hy=>by
    rw [List.getElem?_take] at hy
    split at hy
    ·rw [List.getElem?_drop] at hy
     obtain ⟨u,q3,q4⟩:=z2.2 i el hel (off + j) y hy
     refine ⟨u,?_,q4⟩
     have:=z1.cells (g:=b) (by rw [q1];rfl) _ u q3
     rw [Addr.add_mid] at this ⊢
     rw [Nat.add_assoc]
     simpa using this
    ·cases hy)
   refine fin _ _ us q2 hl ?_ c2 h
   exact All2.of_get (by rw [List.length_map];exact c1.length) (fun i a b ha hb=>by
    rw [List.getElem?_map] at ha
    cases hq:((el.drop off).take (tsz t))[i]? with
    | none=>rw [hq] at ha;cases ha
    | some y =>
     rw [hq] at ha
     obtain rfl:=Option.some.inj ha
     obtain ⟨b',hb',hr⟩:=c1.get i y hq
     rw [hb] at hb'
     obtain rfl:=Option.some.inj hb'
     exact hr)
  ·cases h
 ·cases h
theorem s_indexAddr (t:TypeId) (x i:Operand) (hop:o.op = .indexAddr t x i) (h:(semD o.op d k).run s = some (.done ws k')) (hi:Inv B U s g a w) (hdst:o.dst = some d) (hdN:d < B.N)
  (hK:∀ g' a' w',Inv B (Un U k k') (s.app ws) g' a' w' → K a' w'):o.wp Try.prog a w K Q:=by
 rw [hop] at h
 simp only [semD] at h
 split at h
 ·rename_i e he
  obtain ⟨hu,hke,inf,z,hinf,_,hsz,_⟩:=ty_elem he
  rw [evO_run,evO_run] at h
  obtain ⟨n,hn,h⟩:=intA_run h
  have hiv:=hi.ev i
  rw [hn] at hiv
  have hiv:=repA_lit hiv
  have hx:=hi.ev x
  have run:∀ (ad:Addr) (len cap:Nat),a.eval x = .slice (some ad) len cap → 0 ≤ n → n < len → (execOp a.eval o).run Try.prog w = .ok (.value (.pointer (some (ad.add (n.toNat * tsz e))))) w:=by
   intro ad len cap ha h0 h1
   simp [execOp,hop,ha,hiv,Instr.indexAt,asIntOf,run_underlying hu,h0,h1,sizeOf,typeInfo,hinf,hsz]
  split at h
  ·rename_i l t' es hb
   obtain ⟨ht',hp⟩:=if_run h
   obtain ⟨h0,hq⟩:=if_run hp
   subst ht'
   cases hel:es[n.toNat]? with
   | none=>rw [hel] at hq;cases hq
   | some el =>
    rw [hel] at hq
    obtain ⟨rfl,rfl⟩:=done_inj hq
    rw [hb] at hx
    obtain ⟨A,cap,hv,_,_,_,hcell⟩:=(repA_one hx).row_open
    obtain ⟨ad,rfl,hro,hc⟩:=hcell _ _ hel
    have hlt:=(List.getElem?_eq_some_iff.1 hel).1
    refine wp_val hi hdst hdN hK (run ad _ cap hv h0 tD) ⟨_,rfl,fun j y hy=>?_⟩
    obtain ⟨u,q1,q2⟩:=hc j y (by simpa using hy)
    exact ⟨by rw [Addr.add_block_];exact hro,u,by rw [add_add_];exact q1,q2⟩
  ·rename_i p m hb
   obtain ⟨r,hr,e2,h⟩:=rowO_run h
   obtain ⟨ht',hp⟩:=if_run h
   obtain ⟨⟨h0,h1⟩,hq⟩:=if_run hp
   subst ht'
   obtain ⟨rfl,rfl⟩:=done_inj hq
   rw [hb] at hx
   obtain ⟨r',k1,k2,k3,_⟩:=repA_one hx
   rw [hr] at k1
   obtain rfl:=Option.some.inj k1
   have hv:=k3 e2.symm
   obtain ⟨xs,z1,z2,z3⟩:=hi.rows _ _ hr
   obtain ⟨b,cap,hform,_,_⟩:=z1.form tD
   rw [← e2] at hform
   refine wp_val hi hdst hdN hK (run ⟨b,0,none⟩ m cap (hv.trans hform) h0 h1) ⟨r,hr,k2,fun _=>⟨b,cap,hform,?_⟩⟩
   rw [Addr.add_mid,Nat.zero_add,Nat.add_zero]
  ·cases h
 ·cases h
theorem s_len (c:Call) (hop:o.op = .call c) (hc:c.callee = .builtin .len) (h:(semD o.op d k).run s = some (.done ws k')) (hi:Inv B U s g a w) (hdst:o.dst = some d) (hdN:d < B.N)
  (hK:∀ g' a' w',Inv B (Un U k k') (s.app ws) g' a' w' → K a' w'):o.wp Try.prog a w K Q:=by
 rw [hop] at h
 simp only [semD,hc] at h
 split at h
 ·rename_i x t hx ht
  rcases ite_run h with ⟨_,h⟩|⟨he,h⟩
  ·cases h
  have he:∃ e,elem? t = some e:=by
   cases hq:elem? t with
   | none=>rw [hq] at he;exact absurd rfl he
   | some e=>exact ⟨e,rfl⟩
  obtain ⟨e,he⟩:=he
  obtain ⟨hu,_⟩:=ty_elem he
  have hargs:c.args = #[x]:=by rw [← hx]
  have htys:c.argTypes = #[t]:=by rw [← ht]
  rw [evO_run] at h
  have hxr:=hi.ev x
  have run:∀ A (n cap:Nat),a.eval x = .slice A n cap → (execOp a.eval o).run Try.prog w = .ok (.value (.int .i64 n)) w:=by
   intro A n cap hv
   simp [execOp,hop,resolve,hc,hargs,htys,invoke,builtin,Builtin.len_,hv,run_underlying hu,goInt]
  split at h
  ·rename_i l t' es hb
   obtain ⟨rfl,rfl⟩:=done_inj h
   rw [hb] at hxr
   obtain ⟨A,cap,hv,_⟩:=(repA_one hxr).row_open
   exact wp_val hi hdst hdN hK (run A _ cap hv) (lit_rep _ _ _ _ _ rfl)
  ·rename_i p n hb
   obtain ⟨r,hr,e2,h⟩:=rowO_run h
   obtain ⟨rfl,rfl⟩:=done_inj h
   rw [hb] at hxr
   obtain ⟨r',k1,k2,k3,_⟩:=repA_one hxr
   rw [hr] at k1
   obtain rfl:=Option.some.inj k1
   obtain ⟨xs,z1,_⟩:=hi.rows _ _ hr
   obtain ⟨A,cap,hv,_⟩:=owns_slice z1
   exact wp_val hi hdst hdN hK (run A _ cap ((k3 e2.symm).trans hv)) (lit_rep _ _ _ _ _ rfl)
  ·rename_i hb
   obtain ⟨rfl,rfl⟩:=done_inj h
   rw [hb] at hxr
   exact wp_val hi hdst hdN hK (run none 0 0 (repA_lit hxr)) (lit_rep _ _ _ _ _ rfl)
  ·cases h
 ·cases h
end
end Go.Proofs.Ytamjbjkbineafaa.Ev

namespace Go.Proofs.Ytamjbjkbineafaa.Ev
open Go Go.RowKit
set_option linter.unusedVariables false
set_option linter.unusedSimpArgs false
/-- s1 is s with some rows frozen. -/
def FzRel (s s1:AS):Prop:=s1.tm = s.tm ∧ s1.mem = s.mem ∧ ∀ p,s1.rows p = s.rows p ∨ ∃ r,s.rows p = some r ∧ s1.rows p = some { r with fz:=true }
theorem FzRel.refl (s:AS):FzRel s s:=⟨rfl,rfl,fun _=>.inl rfl⟩
section
variable {B:Base} {U:Nat → Prop} {s s1:AS} {g:Gh} {a:Act} {w:World}
theorem freeze1 (hi:Inv B U s1 g a w) {p:Nat} {r:Row} (h:s1.rows p = some r ∨ s1.rows p = some { r with fz:=true }) :
  ∃ g',Inv B U (s1.app (fzW p r)) g' a w ∧ Grow g s1.mem s1.rows w g' (s1.app (fzW p r)).mem (s1.app (fzW p r)).rows w ∧ Rep g'.own (rog g' w) w (.row r.l r.t r.es) (g.hd p) ∧ g'.own = g.own:=by
 by_cases hf:s1.rows p = some { r with fz:=true }
 ·have happ:s1.app (fzW p r) = s1:=by
   unfold fzW
   split
   ·rfl
   ·show ({ s1 with rows:=upd s1.rows p _ }:AS) = s1
    have:upd s1.rows p (some { r with fz:=true }) = s1.rows:=by
     funext q
     simp only [upd]
     split
     ·rename_i e;rw [e,hf]
     ·rfl
    rw [this]
  rw [happ]
  refine ⟨g,hi,Grow.refl,?_,rfl⟩
  have hrow:=hi.rows _ _ hf
  exact row_rep (r:={ r with fz:=true }) hrow (fun b hb=>by
   obtain ⟨_,_,_,h3⟩:=hrow
   have:=(h3 b hb).2
   simpa using this)
 ·have hr:s1.rows p = some r:=by rcases h with h|h;exact h;exact absurd h hf
  have hfz:r.fz = false:=by
   cases hz:r.fz with
   | false=>rfl
   | true=>exact absurd (by rw [hr];congr 1;cases r;simp at hz;simp [hz]) hf
  have happ:s1.app (fzW p r) = { s1 with rows:=upd s1.rows p (some { r with fz:=true }) }:=by unfold fzW;rw [hfz];rfl
  rw [happ]
  let g':Gh:={ g with tag:=fun b=>open Classical in if (g.hd p).ownBlock = some b then .ro else g.tag b }
  have hrow:=hi.rows _ _ hr
  obtain ⟨xs,z1,z2,z3⟩:=id hrow
  have hG:Grow g s1.mem s1.rows w g' s1.mem (upd s1.rows p (some { r with fz:=true })) w:=by
   refine ⟨fun b hb=>⟨⟨?_,hb.2⟩,rfl,rfl⟩,fun _ h=>⟨h,rfl⟩,fun q r' hq=>?_⟩
   ·show (if (g.hd p).ownBlock = some b then Tag.ro else g.tag b) = .ro
    split
    ·rfl
    ·exact hb.1
   ·simp only [upd]
    split
    ·rename_i e
     subst e
     rw [hr] at hq
     obtain rfl:=Option.some.inj hq
     exact ⟨_,rfl,rfl,Nat.le_refl _,fun _=>rfl⟩
    ·exact ⟨r',hq,rfl,Nat.le_refl _,fun _=>rfl⟩
  have htag:∀ b,(g.hd p).ownBlock ≠ some b → g'.tag b = g.tag b:=fun b hb=>if_neg hb
  have hnew:RowOk B.w0.heap.size g' w p { r with fz:=true } :=
   ⟨xs,z1,z2.imp (fun _ _ h=>hG.rep h),fun b hb=>⟨(z3 b hb).1,if_pos hb⟩⟩
  refine ⟨g',?_,hG,?_,rfl⟩
  ·refine hi.lead hG rfl (Below.refl _ _) (fun d b hb=>?_) (fun q r' hq=>?_) (fun b hb=>⟨rfl,htag b (fun e2=>?_)⟩) hi.new (fun q r' hq=>?_)
   ·have hbx:=hi.boxes d b hb
    refine hG.box hbx rfl (htag _ (fun e=>?_)) rfl
    obtain ⟨_,_,_,q3,_⟩:=hbx
    have:=(z3 _ e).2
    rw [q3,hfz] at this
    cases this
   ·simp only [upd] at hq
    split at hq
    ·rename_i e
     subst e
     obtain rfl:=Option.some.inj hq
     exact hnew
    ·rename_i e
     have hrq:=hi.rows q r' hq
     refine hG.row hrq rfl (fun b hb=>⟨rfl,htag b (fun e2=>?_),rfl⟩)
     obtain ⟨_,_,_,q3⟩:=hrq
     have h1:=(z3 b e2).2
     have h2:=(q3 b hb).2
     rw [h1,hfz] at h2
     cases hz:r'.fz <;> simp only [hz] at h2
     ·injection h2 with h2;exact e h2.symm
     ·cases h2
   ·have:=(z1.lt b e2).1
    omega
   ·simp only [upd] at hq
    split at hq
    ·obtain rfl:=Option.some.inj hq
     exact (hi.labs p r hr:r.l = 0 ∨ U r.l)
    ·exact hi.labs q r' hq
  ·exact row_rep (g:=g') (r:={ r with fz:=true }) hnew (fun b hb=>if_pos hb)
theorem fzC_sound (hr:FzRel s s1) (hi:Inv B U s1 g a w) {c:CV} {α:Type} {f:FV → List W → M α} {out:α} (h:(fzC c f).run s = some out) :
  ∃ x ws g',(f x ws).run s = some out ∧ FzRel s (s1.app ws) ∧ Inv B U (s1.app ws) g' a w ∧ Grow g s1.mem s1.rows w g' (s1.app ws).mem (s1.app ws).rows w ∧ (∀ v,RepC g s1.rows w c v → Rep g'.own (rog g' w) w x v) ∧ g'.own = g.own ∧ ∀ p,ownsP p c = false → (s1.app ws).rows p = s1.rows p:=by
 cases c with
 | fv x=>exact ⟨x,[],g,h,hr,hi,Grow.refl,fun v hv=>hv,rfl,fun _ _=>rfl⟩
 | own p n =>
  obtain ⟨r,h1,h2,h3⟩:=rowO_run h
  have hs:s1.rows p = some r ∨ s1.rows p = some { r with fz:=true }:=by
   rcases hr.2.2 p with e|⟨r',e1,e2⟩
   ·exact .inl (e.trans h1)
   ·rw [h1] at e1
    obtain rfl:=Option.some.inj e1
    exact .inr e2
  obtain ⟨g',k1,k2,k3,k4⟩:=freeze1 hi hs
  refine ⟨_,_,g',h3,?_,k1,k2,fun v hv=>?_,k4,fun q hq=>?_⟩
  ·unfold fzW
   split
   ·exact hr
   ·refine ⟨hr.1,hr.2.1,fun q=>?_⟩
    simp only [AS.app,AS.put,upd]
    split
    ·rename_i e;subst e;exact .inr ⟨r,h1,rfl⟩
    ·exact hr.2.2 q
  ·obtain ⟨r',q1,q2,q3,q4⟩:=hv
   have e:r'.es.length = n:=by
    rcases hs with hs|hs
    ·rw [hs] at q1;obtain rfl:=Option.some.inj q1;exact h2.symm
    ·rw [hs] at q1;obtain rfl:=Option.some.inj q1;exact h2.symm
   rw [q3 e]
   exact k3
  ·unfold fzW
   split
   ·rfl
   ·simp only [AS.app,AS.put,upd]
    rw [if_neg (fun e=>by subst e;simp [ownsP] at hq)]
theorem Grow.trans {g1 g2 g3:Gh} {m1 m2 m3:Nat → Option Box} {r1 r2 r3:Nat → Option Row} {w1 w2 w3:World} (h:Grow g1 m1 r1 w1 g2 m2 r2 w2) (h':Grow g2 m2 r2 w2 g3 m3 r3 w3):Grow g1 m1 r1 w1 g3 m3 r3 w3:=by
 refine ⟨fun b hb=>?_,fun d hd=>?_,fun p r hp=>?_⟩
 ·obtain ⟨a1,a2,a3⟩:=h.ro b hb
  obtain ⟨b1,b2,b3⟩:=h'.ro b a1
  exact ⟨b1,b2.trans a2,b3.trans a3⟩
 ·obtain ⟨a1,a2⟩:=h.mem d hd
  obtain ⟨b1,b2⟩:=h'.mem d a1
  exact ⟨b1,b2.trans a2⟩
 ·obtain ⟨r',a1,a2,a3,a4⟩:=h.rows p r hp
  obtain ⟨r'',b1,b2,b3,b4⟩:=h'.rows p r' a1
  exact ⟨r'',b1,b2.trans a2,vG,fun e=>(b4 tD).trans (a4 tD)⟩
theorem app_append (s:AS) (xs ys:List W):s.app (xs ++ ys) = (s.app xs).app ys:=by
 induction xs generalizing s with
 | nil=>rfl
 | cons x xs ih=>exact ih _
theorem fzL_sound {cs:List CV}:∀ {s1:AS} {g:Gh} (_:FzRel s s1) (_:Inv B U s1 g a w) {α:Type} {f:List FV → List W → M α} {out:α} (_:(fzL cs f).run s = some out),
  ∃ xs ws g',(f xs ws).run s = some out ∧ FzRel s (s1.app ws) ∧ Inv B U (s1.app ws) g' a w ∧ Grow g s1.mem s1.rows w g' (s1.app ws).mem (s1.app ws).rows w ∧ (∀ vs,All2 (RepC g s1.rows w) cs vs → All2 (Rep g'.own (rog g' w) w) xs vs) ∧ xs.length = cs.length ∧ g'.own = g.own ∧ ∀ p,cs.any (ownsP p) = false → (s1.app ws).rows p = s1.rows p:=by
 induction cs with
 | nil =>
  intro s1 g hr hi α f out h
  exact ⟨[],[],g,h,hr,hi,Grow.refl,fun vs hv=>by cases hv;exact .nil,rfl,rfl,fun _ _=>rfl⟩
 | cons c cs ih =>
  intro s1 g hr hi α f out h
  obtain ⟨x,ws,g1,h1,h2,h3,h4,h5,h6,h7⟩:=fzC_sound hr hi h
  obtain ⟨xs,ws',g2,k1,k2,k3,k4,k5,k6,k7,k8⟩:=ih h2 h3 h1
  refine ⟨x :: xs,ws ++ ws',g2,k1,by rw [app_append];exact k2,by rw [app_append];exact k3,by rw [app_append];exact h4.trans k4,fun vs hv=>?_,by simp [k6],k7.trans h6,fun p hp=>by
   simp only [List.any_cons,Bool.or_eq_false_iff] at hp
   rw [app_append,k8 p hp.2,h7 p hp.1]⟩
  cases hv with
  | cons hc ht=>exact .cons (k4.rep (h5 _ hc)) (k5 _ (ht.imp (fun _ _ _ hq=>h4.c hq)))
end
section
variable {B:Base} {U:Nat → Prop} {s:AS} {g:Gh} {a:Act} {w:World} {o:Oper} {d k k':Nat} {ws:List W} {K:Act → World → Prop} {Q:Exit → Act → World → Prop}
theorem take_rep {own:Nat → Nat} {ro:Nat → Prop} {w:World} {l t:Nat} {es:List (List FV)} {A:Option Addr} {cap:Nat} (h:Rep own ro w (.row l t es) (.slice A es.length cap)) {n:Nat} (hn:n ≤ es.length) (cap':Nat) (hc:n ≤ cap'):Rep own ro w (.row 0 t (es.take n)) (.slice A n cap'):=by
 obtain ⟨A',cap2,hv,h1,h2,h3,h4⟩:=h.row_open
 injection hv with hA _ _
 subst hA
 have hlen:(es.take n).length = n:=by simp [hn]
 have key:∀ (i:Nat) e,(es.take n)[i]? = some e → es[i]? = some e:=fun i e he=>by
  rw [List.getElem?_take] at he
  split at he
  ·exact he
  ·cases he
 have main:∃ cv:Nat → Nat → Value,∀ (i:Nat) e,(es.take n)[i]? = some e → ∃ ad,A = some ad ∧ ro ad.block ∧ ∀ (j:Nat) x,e[j]? = some x → w.cell? (ad.add (i * tsz t + j)) = some (cv i j) ∧ Rep own ro w x (cv i j):=by
  refine ⟨fun i j=>((A.bind fun ad=>w.cell? (ad.add (i * tsz t + j)))).getD undef,fun i e he=>?_⟩
  obtain ⟨ad,q1,q2,q3⟩:=h4 i e (key i e he)
  refine ⟨ad,q1,q2,fun j x hx=>?_⟩
  obtain ⟨u,q4,q5⟩:=q3 j x hx
  subst q1
  simp only [Option.bind_some,q4,Option.getD_some]
  exact ⟨trivial,q5⟩
 obtain ⟨cv,hcv⟩:=main
 have:=Rep.row (own:=own) (ro:=ro) (w:=w) 0 t (es.take n) A cap' cv (by rw [hlen];exact hc) tD (fun i e he=>h3 i e (key i e he))
  (fun i e he=>by obtain ⟨ad,q1,q2,q3⟩:=hcv i e he;exact ⟨ad,q1,q2,fun j x hx=>(q3 j x hx).1⟩) (fun i e he j x hx=>by obtain ⟨ad,q1,q2,q3⟩:=hcv i e he;exact (q3 j x hx).2) (fun h=>absurd rfl h)
 rw [hlen] at this
 exact this
theorem drop_rep {own:Nat → Nat} {ro:Nat → Prop} {w:World} {l t:Nat} {es:List (List FV)} {A:Option Addr} {cap:Nat} (h:Rep own ro w (.row l t es) (.slice A es.length cap)) {n:Nat} (hn:n ≤ es.length) (A2:Option Addr)
  (hA2:n < es.length → A2 = A.map (·.add (n * tsz t))) (cap':Nat) (hc:es.length - n ≤ cap'):Rep own ro w (.row 0 t (es.drop n)) (.slice A2 (es.length - n) cap'):=by
 obtain ⟨A',cap2,hv,h1,h2,h3,h4⟩:=h.row_open
 injection hv with hA _ _
 subst hA
 have hlen:(es.drop n).length = es.length - n:=by simp
 have key:∀ (i:Nat) e,(es.drop n)[i]? = some e → es[n + i]? = some e:=fun i e he=>by rw [List.getElem?_drop] at he;exact he
 have main:∃ cv:Nat → Nat → Value,∀ (i:Nat) e,(es.drop n)[i]? = some e → ∃ ad,A2 = some ad ∧ ro ad.block ∧ ∀ (j:Nat) x,e[j]? = some x → w.cell? (ad.add (i * tsz t + j)) = some (cv i j) ∧ Rep own ro w x (cv i j):=by
  refine ⟨fun i j=>((A2.bind fun ad=>w.cell? (ad.add (i * tsz t + j)))).getD undef,fun i e he=>?_⟩
  have he':=key i e he
  obtain ⟨ad,q1,q2,q3⟩:=h4 (n + i) e he'
  have hlt:=(List.getElem?_eq_some_iff.1 he').1
  have e2:=hA2 tD
  subst q1
  rw [Option.map_some] at e2
  refine ⟨_,e2,by rw [Addr.add_block_];exact q2,fun j x hx=>?_⟩
  obtain ⟨u,q4,q5⟩:=q3 j x hx
  have e3:w.cell? ((ad.add (n * tsz t)).add (i * tsz t + j)) = some u:=by rw [add_add_,← Nat.add_assoc,← Nat.add_mul];exact q4
  simp only [e2,Option.bind_some,e3,Option.getD_some]
  exact ⟨trivial,q5⟩
 obtain ⟨cv,hcv⟩:=main
 have:=Rep.row (own:=own) (ro:=ro) (w:=w) 0 t (es.drop n) A2 cap' cv (by rw [hlen];exact hc) tD (fun i e he=>h3 _ e (key i e he))
  (fun i e he=>by obtain ⟨ad,q1,q2,q3⟩:=hcv i e he;exact ⟨ad,q1,q2,fun j x hx=>(q3 j x hx).1⟩) (fun i e he j x hx=>by obtain ⟨ad,q1,q2,q3⟩:=hcv i e he;exact (q3 j x hx).2) (fun h=>absurd rfl h)
 rw [hlen] at this
 exact this
theorem wp_val2 {x:AV} {v:Value} {g':Gh} (hi:Inv B U (s.app ws) g' a w) (hdst:o.dst = some d) (hdN:d < B.N) (hK:∀ g' a' w',Inv B (Un U k k') (s.app (ws ++ [.tm d x])) g' a' w' → K a' w')
  (hrun:(execOp a.eval o).run Try.prog w = .ok (.value v) w) (hrep:RepA g' (s.app ws).mem (s.app ws).rows w x v):o.wp Try.prog a w K Q:=by
 rw [app_append] at hK
 exact wp_val hi hdst hdN hK hrun hrep
theorem s_slice (t:TypeId) (x:Operand) (lo hi_ mx:Option Operand) (hop:o.op = .slice t x lo hi_ mx) (h:(semD o.op d k).run s = some (.done ws k')) (hi:Inv B U s g a w) (hdst:o.dst = some d) (hdN:d < B.N)
  (hK:∀ g' a' w',Inv B (Un U k k') (s.app ws) g' a' w' → K a' w'):o.wp Try.prog a w K Q:=by
 rw [hop] at h
 simp only [semD] at h
 split at h
 ·rename_i e he
  obtain ⟨hu,hke,inf,z,hinf,_,hsz,_⟩:=ty_elem he
  have hel:Try.prog.elem t = e:=by simp [Program.elem,hu]
  have hu':Try.prog.underlying t = some (.slice (Try.prog.elem t)):=by rw [hel];exact hu
  have hso:(sizeOf (Try.prog.elem t)).run Try.prog w = .ok (tsz e) w:=by rw [hel];simp [sizeOf,typeInfo,hinf,hsz]
  rw [evO_run] at h
  split at h
  ·rename_i c hb
   have hx:=hi.ev x
   rw [hb] at hx
   obtain ⟨cx,fw,g',h1,h2,h3,h4,h5,_⟩:=fzC_sound (FzRel.refl s) hi h
   have hx:=h5 _ (repA_one hx)
   split at h1
   ·rename_i l' t' es
    obtain ⟨ht',h1⟩:=if_run h1
    subst ht'
    obtain ⟨A,cap,hv,hcap,hmax,_,_⟩:=hx.row_open
    rw [hv] at hx
    cases lo with
    | none =>
     cases hi_ with
     | none=>cases h1
     | some hh =>
      rw [evO_run] at h1
      obtain ⟨n,hn,h1⟩:=intA_run h1
      obtain ⟨⟨q0,q1⟩,h1⟩:=if_run h1
      obtain ⟨rfl,rfl⟩:=done_inj h1
      have hnv:=hi.ev hh
      rw [hn] at hnv
      have hnv:=repA_lit hnv
      refine wp_val2 h3 hdst hdN hK (v:=.slice A n.toNat cap) ?_ (one_repA (take_rep hx tD cap tD))
      have:=run_slice_h (P:=Try.prog) w t A es.length cap hu' .i64 n q0 tD
      simp [execOp,hop,hv,hnv,run_sliceAt_slice w t _ _ _ _ hu',this,hso,sliced]
      cases A <;> simp [Addr.add]
    | some ll =>
     cases hi_ with
     | some _=>cases h1
     | none =>
      rw [evO_run] at h1
      obtain ⟨n,hn,h1⟩:=intA_run h1
      obtain ⟨⟨q0,q1⟩,h1⟩:=if_run h1
      obtain ⟨rfl,rfl⟩:=done_inj h1
      have hnv:=hi.ev ll
      rw [hn] at hnv
      have hnv:=repA_lit hnv
      refine wp_val2 h3 hdst hdN hK (v:=.slice (if cap = n.toNat then A else A.map (·.add (n.toNat * tsz t'))) (es.length - n.toNat) (cap - n.toNat)) ?_ (one_repA (drop_rep hx tD _ (fun hlt=>by rw [if_neg tD]) _ tD))
      have:=run_slice_l (P:=Try.prog) w t A es.length cap hu' .i64 n q0 tD
      simp [execOp,hop,hv,hnv,run_sliceAt_slice w t _ _ _ _ hu',this,hso,sliced]
   ·cases h1
  ·cases h
 ·cases h
end
end Go.Proofs.Ytamjbjkbineafaa.Ev

namespace Go.Proofs.Ytamjbjkbineafaa.Ev
open Go Go.RowKit
set_option linter.unusedVariables false
set_option linter.unusedSimpArgs false
section
variable {B:Base} {U V:Nat → Prop} {s:AS} {g:Gh} {a:Act} {w w':World}
theorem inv_box (hi:Inv B U s g a w) {d:Nat} (hd:s.mem d = none) {t:Nat} {cs:List CV} {vs:Array Value} (h2:All2 (RepC g s.rows w) cs vs.toList) :
  ∃ g',Inv B U (s.put (.mem d (some ⟨t,cs⟩))) g' a (w.alloc (.cells vs t)) ∧ g'.bx d = w.heap.size:=by
 let g':Gh:={ own:=upd g.own w.heap.size 0,tag:=upd g.tag w.heap.size (.box d),bx:=upd g.bx d w.heap.size,hd:=g.hd }
 have hsz:(w.alloc (.cells vs t)).heap.size = w.heap.size + 1:=by simp
 have hold:∀ b,b < w.heap.size → g'.own b = g.own b ∧ g'.tag b = g.tag b ∧ (w.alloc (.cells vs t)).heap[b]? = w.heap[b]?:=fun b hb =>
  ⟨upd_ne tD,upd_ne tD,Below.heap_alloc _ _ _ hb⟩
 have hG:Grow g s.mem s.rows w g' (upd s.mem d (some ⟨t,cs⟩)) s.rows (w.alloc (.cells vs t)):=by
  refine ⟨fun b hb=>?_,fun d' h=>⟨?_,?_⟩,fun p r h=>⟨r,h,rfl,Nat.le_refl _,fun _=>rfl⟩⟩
  ·obtain ⟨e1,e2,e3⟩:=hold b hb.2
   exact ⟨⟨by rw [e2];exact hb.1,by have:=hb.2;omega⟩,e1,e3⟩
  ·simp only [upd];split
   ·simp
   ·exact h
  ·show upd g.bx d w.heap.size d' = _
   exact upd_ne (fun e=>h (e ▸ hd))
 refine ⟨g',hi.lead hG rfl ⟨rfl,rfl,rfl,by simp,fun k hk=>Below.heap_alloc _ _ _ (by have:=hi.below.size;omega)⟩ (fun d' b hb=>?_) (fun p r hp=>?_) (fun b hb=>?_) (fun b h1 h3=>?_) hi.labs,upd_same _ _ _⟩
 ·simp only [AS.put,upd] at hb
  split at hb
  ·rename_i e
   subst e
   obtain rfl:=Option.some.inj hb
   refine ⟨vs,?_,?_,?_,h2.imp (fun _ _ _ h=>hG.c h)⟩
   ·show (w.alloc (.cells vs t)).heap[upd g.bx d' w.heap.size d']? = _
    rw [upd_same];exact heap_alloc_new w _
   ·show _ ≤ upd g.bx d' w.heap.size d'
    rw [upd_same];exact hi.below.size
   ·show upd g.tag w.heap.size (.box d') (upd g.bx d' w.heap.size d') = _
    rw [upd_same,upd_same]
  ·rename_i e
   have hb':=hi.boxes d' b hb
   have hlt:g.bx d' < w.heap.size:=by obtain ⟨_,q,_⟩:=hb';exact (Array.getElem?_eq_some_iff.1 q).1
   obtain ⟨_,e2,e3⟩:=hold _ hlt
   exact hG.box hb' (upd_ne e) e2 e3
 ·have hr:=hi.rows p r hp
  refine hG.row hr rfl (fun b hb=>?_)
  obtain ⟨_,q,_⟩:=hr
  exact hold b (q.lt b hb).2
 ·obtain ⟨e1,e2,_⟩:=hold b (by have:=hi.below.size;omega)
  exact ⟨e1,e2⟩
 ·by_cases e:b = w.heap.size
  ·subst e;exact .inl (upd_same _ _ _)
  ·show upd g.own w.heap.size 0 b = 0 ∨ U (upd g.own w.heap.size 0 b)
   rw [upd_ne e]
   exact hi.new b h1 tD
theorem inv_row (hi:Inv B U s g a w) {p l t:Nat} {es:List (List FV)} {v:Value} {xs:List Value} {old:Option Nat}
  (hold:∀ b,old = some b → b < w.heap.size ∧ B.w0.heap.size ≤ b ∧ g.tag b = .row p ∧ g.own b = l) (hg:w.grownBy w' old)
  (hown:w'.ownsRow B.w0.heap.size t (tsz t) v es.length xs) (hat:∀ b,v.ownBlock = some b → old = some b ∨ w.heap.size ≤ b) (hfl:Flat (Rep g.own (rog g w) w) t es xs)
  (hrow:∀ r,s.rows p = some r → r.t = t ∧ r.es.length ≤ es.length ∧ (es.length = r.es.length → v = g.hd p)) (hU:∀ l,U l → V l) (hV:l = 0 ∨ V l) :
  ∃ g',Inv B V (s.put (.row p (some ⟨l,t,es,false⟩))) g' a w' ∧ g'.hd p = v:=by
 let g':Gh:={ own:=fun b=>if b < w.heap.size then g.own b else l,tag:=fun b=>if b < w.heap.size then g.tag b else .row p,bx:=g.bx,hd:=upd g.hd p v }
 have hlt:∀ b,b < w.heap.size → g'.own b = g.own b ∧ g'.tag b = g.tag b:=fun b hb=>⟨if_pos hb,if_pos hb⟩
 have hG:Grow g s.mem s.rows w g' s.mem (upd s.rows p (some ⟨l,t,es,false⟩)) w':=by
  refine ⟨fun b hb=>?_,fun d' h=>⟨h,rfl⟩,fun q r h=>?_⟩
  ·obtain ⟨e1,e2⟩:=hlt b hb.2
   refine ⟨⟨by rw [e2];exact hb.1,Nat.lt_of_lt_of_le hb.2 hg.size⟩,e1,hg.block b hb.2 (fun e=>?_)⟩
   have:=(hold b e.symm).2.2.1
   rw [hb.1] at this
   cases this
  ·simp only [upd]
   split
   ·rename_i e
    subst e
    obtain ⟨k1,k2,k3⟩:=hrow r h
    exact ⟨_,rfl,k1.symm,k2,fun e=>by show upd g.hd q v q = _;rw [upd_same];exact k3 e⟩
   ·rename_i e
    exact ⟨r,h,rfl,Nat.le_refl _,fun _=>by show upd g.hd p v q = _;exact upd_ne e⟩
 have hb0:Below B.w0.heap.size w w':=⟨hg.os,hg.tape,hg.output,hg.size,fun k hk=>hg.block k (by have:=hi.below.size;omega) (fun e=>by have:=(hold k e.symm).2.1;omega)⟩
 refine ⟨g',hi.lead (V:=V) hG rfl hb0 (fun d' b hb=>?_) (fun q r hq=>?_) (fun b hb=>?_) (fun b h1 h3=>?_) (fun q r hq=>?_),upd_same _ _ _⟩
 ·have hb':=hi.boxes d' b hb
  obtain ⟨_,q,_,q2,_⟩:=id hb'
  have hl':=(Array.getElem?_eq_some_iff.1 q).1
  refine hG.box hb' rfl (hlt _ hl').2 (hg.block _ hl' (fun e=>?_))
  have:=(hold _ e.symm).2.2.1
  rw [q2] at this
  cases this
 ·simp only [AS.put,upd] at hq
  split at hq
  ·rename_i e
   subst e
   obtain rfl:=Option.some.inj hq
   have hv:g'.hd q = v:=upd_same _ _ _
   refine ⟨xs,by rw [hv];exact hown,hfl.imp (fun _ _ h=>hG.rep h),fun b hb=>?_⟩
   rw [hv] at hb
   rcases hat b hb with e|e
   ·obtain ⟨k1,_,k2,k3⟩:=hold b e
    obtain ⟨e1,e2⟩:=hlt b k1
    rw [e1,e2]
    exact ⟨k3,k2⟩
   ·exact ⟨if_neg tD,if_neg tD⟩
  ·rename_i e
   have hr:=hi.rows q r hq
   refine hG.row hr (upd_ne e) (fun b hb=>?_)
   obtain ⟨_,z1,_,z3⟩:=hr
   have hl':=(z1.lt b hb).2
   refine ⟨(hlt b hl').1,(hlt b hl').2,hg.block b hl' (fun e2=>?_)⟩
   have h4:=(hold b e2.symm).2.2.1
   have h5:=(z3 b hb).2
   rw [h4] at h5
   cases hz:r.fz <;> simp only [hz] at h5
   ·injection h5 with h5;exact e h5.symm
   ·cases h5
 ·obtain ⟨e1,e2⟩:=hlt b (by have:=hi.below.size;omega)
  exact ⟨e1,e2⟩
 ·by_cases e:b < w.heap.size
  ·rw [(hlt b e).1]
   exact (hi.new b h1 e).imp id (hU _)
  ·show (if b < w.heap.size then g.own b else l) = 0 ∨ V (if b < w.heap.size then g.own b else l)
   rw [if_neg e]
   exact hV
 ·simp only [AS.put,upd] at hq
  split at hq
  ·obtain rfl:=Option.some.inj hq
   exact hV
  ·exact (hi.labs q r hq).imp id (hU _)
theorem inv_store (hi:Inv B U s g a w) {d:Nat} {b:Box} (hd:s.mem d = some b) {cs:List CV} {old vs:Array Value} (ho:w.heap[g.bx d]? = some (.cells old b.t (0,0))) (h2:All2 (RepC g s.rows w) cs vs.toList) :
  Inv B U (s.put (.mem d (some ⟨b.t,cs⟩))) g a (w.setRow (g.bx d) vs):=by
 obtain ⟨cs0,q1,q2,q3,q4⟩:=hi.boxes d b hd
 have hother:∀ k,k ≠ g.bx d → (w.setRow (g.bx d) vs).heap[k]? = w.heap[k]?:=fun k hk=>setRow_other w _ k _ hk
 have hG:Grow g s.mem s.rows w g (upd s.mem d (some ⟨b.t,cs⟩)) s.rows (w.setRow (g.bx d) vs):=by
  refine ⟨fun k hk=>⟨⟨hk.1,by have:=hk.2;simpa using this⟩,rfl,hother k (fun e=>?_)⟩,fun d' h=>⟨?_,rfl⟩,fun p r h=>⟨r,h,rfl,Nat.le_refl _,fun _=>rfl⟩⟩
  ·rw [e] at hk;have:=hk.1;rw [q3] at this;cases this
  ·simp only [upd];split
   ·simp
   ·exact h
 refine hi.lead hG rfl ⟨rfl,rfl,rfl,by simp,fun k hk=>hother k tD⟩ (fun d' b' hb=>?_) (fun p r hp=>?_) (fun b hb=>⟨rfl,rfl⟩) (fun b h1 h3=>hi.new b h1 (by simpa using h3)) hi.labs
 ·simp only [AS.put,upd] at hb
  split at hb
  ·rename_i e
   subst e
   obtain rfl:=Option.some.inj hb
   exact ⟨vs,setRow_heap w _ old _ _ _ ho,q2,q3,h2.imp (fun _ _ _ h=>hG.c h)⟩
  ·rename_i e
   have hb':=hi.boxes d' b' hb
   refine hG.box hb' rfl rfl (hother _ (fun e2=>?_))
   obtain ⟨_,_,_,z,_⟩:=hb'
   rw [e2,q3] at z
   injection z with z
   exact e z.symm
 ·have hr:=hi.rows p r hp
  refine hG.row hr rfl (fun k hk=>⟨rfl,rfl,hother k (fun e=>?_)⟩)
  obtain ⟨_,_,_,z⟩:=hr
  have:=(z k hk).2
  rw [e,q3] at this
  split at this <;> cases this
end
end Go.Proofs.Ytamjbjkbineafaa.Ev

namespace Go.Proofs.Ytamjbjkbineafaa.Ev
open Go Go.RowKit
set_option linter.unusedVariables false
set_option linter.unusedSimpArgs false
section
variable {B:Base} {U:Nat → Prop} {s:AS} {g:Gh} {a:Act} {w:World} {o:Oper} {d k k':Nat} {ws:List W} {K:Act → World → Prop} {Q:Exit → Act → World → Prop}
theorem wp_val3 {x:AV} {v:Value} {g':Gh} {w':World} (hi:Inv B (Un U k k') (s.app ws) g' a w') (hdst:o.dst = some d) (hdN:d < B.N) (hK:∀ g' a' w',Inv B (Un U k k') (s.app (ws ++ [.tm d x])) g' a' w' → K a' w')
  (hrun:(execOp a.eval o).run Try.prog w = .ok (.value v) w') (hrep:RepA g' (s.app ws).mem (s.app ws).rows w' x v):o.wp Try.prog a w K Q:=by
 unfold Oper.wp
 rw [hrun]
 show K (a.put o.dst v) w'
 rw [hdst]
 rw [app_append] at hK
 exact hK g' _ _ (hi.tmp hdN hrep)
theorem isNone_eq {α:Type} {x:Option α} (h:isNone x = true):x = none:=by cases x with|none=>rfl|some _=>cases h
theorem zeroC_ok {t:Nat}:∀ v ∈ zeroC t,litOk v = true:=by
 intro v hv
 unfold zeroC at hv
 split at hv <;> simp at hv <;> (try rcases hv with rfl|rfl) <;> (try subst hv) <;> rfl
theorem zero_rep (g:Gh) (rows:Nat → Option Row) (w:World) (t:Nat):All2 (RepC g rows w) ((zeroC t).map fun v=>.fv (.lit v)) (zeroC t) :=
 All2.of_get te (fun i c v hc hv=>by
  rw [List.getElem?_map,hv] at hc
  obtain rfl:=Option.some.inj hc
  exact Rep.lit v (zeroC_ok v (List.mem_of_getElem? hv)))
theorem s_alloc (t:TypeId) (hop:o.op = .alloc t) (h:(semD o.op d k).run s = some (.done ws k')) (hi:Inv B U s g a w) (hdst:o.dst = some d) (hdN:d < B.N)
  (hK:∀ g' a' w',Inv B (Un U k k') (s.app ws) g' a' w' → K a' w'):o.wp Try.prog a w K Q:=by
 rw [hop] at h
 simp only [semD] at h
 obtain ⟨ht,h⟩:=if_run h
 simp only [M.run] at h
 obtain ⟨hn,h⟩:=if_run h
 obtain ⟨rfl,rfl⟩:=done_inj h
 obtain ⟨inf,z,hinf,hz,hzc,hsz,_⟩:=ty_info ht
 obtain ⟨g',h1,h2⟩:=inv_box (t:=t) (vs:=z.cells) hi (isNone_eq hn) (by rw [hzc];exact zero_rep g s.rows w t)
 refine wp_val3 (ws:=[_]) (h1.weakU (fun _ h=>.inl h)) hdst hdN hK (v:=.pointer (some ⟨w.heap.size,0,none⟩)) ?_ ⟨?_,by rw [h2]⟩
 ·simp [execOp,hop,Instr.alloc,zeroValue,typeInfo,hinf,hz,newVar,newRow,newObj,Sem.run]
 ·simp [AS.app,AS.put,upd]
theorem s_box (t:TypeId) (x:Operand) (hop:o.op = .box t x) (h:(semD o.op d k).run s = some (.done ws k')) (hi:Inv B U s g a w) (hdst:o.dst = some d) (hdN:d < B.N)
  (hK:∀ g' a' w',Inv B (Un U k k') (s.app ws) g' a' w' → K a' w'):o.wp Try.prog a w K Q:=by
 rw [hop] at h
 simp only [semD] at h
 rw [evO_run] at h
 obtain ⟨sh,cs,hx,hsh,h⟩:=cellsA_run h
 obtain ⟨hl,h⟩:=if_run h
 simp only [M.run] at h
 obtain ⟨hn,h⟩:=if_run h
 obtain ⟨rfl,rfl⟩:=done_inj h
 have hr:=hi.ev x
 rw [hx] at hr
 obtain ⟨g',h1,h2⟩:=inv_box (t:=t) (vs:=(a.eval x).cells) hi (isNone_eq hn) (repA_cells hr hsh)
 refine wp_val3 (ws:=[_]) (h1.weakU (fun _ h=>.inl h)) hdst hdN hK (v:=.pointer (some ⟨w.heap.size,0,none⟩)) ?_ ⟨?_,by rw [h2]⟩
 ·simp [execOp,hop,Instr.box,newVar,newRow,newObj,Sem.run]
 ·simp [AS.app,AS.put,upd]
theorem fillL_run {ps:List (Nat × Operand)}:∀ {cs:List CV} {vs:List Value} {α:Type} {f:List CV → M α} {out:α},(fillL ps cs f).run s = some out → Inv B U s g a w → All2 (RepC g s.rows w) cs vs → ∀ place:Nat → Option (Nat × Nat),(∀ i,i < cs.length → place i = some (i,1)) →
  ∃ cs' vs',(f cs').run s = some out ∧ All2 (RepC g s.rows w) cs' vs' ∧ Instr.fill place vs.toArray (ps.map fun (i,x)=>(i,a.eval x)) = some vs'.toArray:=by
 induction ps with
 | nil=>intro cs vs α f out h _ h2 place _;exact ⟨cs,vs,h,h2,rfl⟩
 | cons p ps ih =>
  obtain ⟨i,x⟩:=p
  intro cs vs α f out h hi h2 place hp
  simp only [fillL] at h
  rw [evO_run] at h
  have hx:=hi.ev x
  split at h
  ·rename_i c hc
   obtain ⟨hlt,h⟩:=if_run h
   rw [hc] at hx
   have hx:=repA_one hx
   obtain ⟨cs',vs',k1,k2,k3⟩:=ih (vs:=vs.set i (a.eval x)) h hi (h2.set i hx) place (fun j hj=>hp j (by simpa using hj))
   refine ⟨cs',vs',k1,k2,?_⟩
   have hlv:i < vs.length:=by rw [← h2.length];exact hlt
   simp only [List.map_cons,Instr.fill,hp i hlt]
   rw [one_cells hx.one]
   have:¬ (i + 1 > vs.length):=by omega
   simp [this]
   simpa using k3
  ·cases h
theorem s_build (t:TypeId) (ps:Array (Nat × Operand)) (hop:o.op = .build t ps) (h:(semD o.op d k).run s = some (.done ws k')) (hi:Inv B U s g a w) (hdst:o.dst = some d) (hdN:d < B.N)
  (hK:∀ g' a' w',Inv B (Un U k k') (s.app ws) g' a' w' → K a' w'):o.wp Try.prog a w K Q:=by
 rw [hop] at h
 simp only [semD] at h
 obtain ⟨ht,h⟩:=if_run h
 obtain ⟨cs',vs',k1,k2,k3⟩:∃ cs' vs',(M.ret (Out.done [.tm d (.v .agg cs')] k)).run s = some (.done ws k') ∧ All2 (RepC g s.rows w) cs' vs' ∧ Instr.fill (fun i=>if i < tsz t then some (i,1) else none) (zeroC t).toArray (ps.toList.map fun (i,x)=>(i,a.eval x)) = some vs'.toArray :=
  fillL_run h hi (zero_rep g s.rows w t) _ (fun i hi=>if_pos (by simp at hi;unfold tagg at ht;split at ht <;> first|exact hi|cases ht))
 obtain ⟨rfl,rfl⟩:=done_inj k1
 refine wp_val hi hdst hdN hK (v:=.agg vs'.toArray) ?_ ⟨vs',rfl,k2,nofun,nofun⟩
 have hmap:(ps.map fun (i,x)=>(i,a.eval x)).toList = ps.toList.map fun (i,x)=>(i,a.eval x):=Array.toList_map
 unfold tagg at ht
 split at ht
 ·obtain ⟨i1,a1,a2,a3,_⟩:=info_of t29
  obtain ⟨i2,b1,b2,b3,_⟩:=info_of t22
  obtain ⟨i3,c1,c2,c3,_⟩:=info_of t27
  have hp:(fun x=>([(0,1),(1,1)]:List (Nat × Nat))[x]?) = fun i=>if i < tsz 29 then some (i,1) else none:=by
   funext i
   match i with
   | 0=>rfl
   | 1=>rfl
   | n + 2=>simp [tsz]
  have k3':Instr.fill (fun x=>([(0,1),(1,1)]:List (Nat × Nat))[x]?) #[nilV,nilV] (List.map (fun x=>(x.fst,a.eval x.snd)) ps.toList) = some vs'.toArray:=by rw [hp];exact k3
  simp [execOp,hop,Instr.build,zeroValue,typeInfo,a1,a2,run_underlying Try.underlying29,sizeOf,b1,b3,c1,c3,Value.cells]
  simp [k3']
 ·obtain ⟨i1,a1,a2,a3,_⟩:=info_of t38
  obtain ⟨i2,b1,b2,b3,_⟩:=info_of t3
  have hp:(fun x=>([(0,1),(1,1),(2,1),(3,1),(4,1)]:List (Nat × Nat))[x]?) = fun i=>if i < tsz 38 then some (i,1) else none:=by
   funext i
   match i with
   | 0=>rfl
   | 1=>rfl
   | 2=>rfl
   | 3=>rfl
   | 4=>rfl
   | n + 5=>simp [tsz]
  have k3':Instr.fill (fun x=>([(0,1),(1,1),(2,1),(3,1),(4,1)]:List (Nat × Nat))[x]?) #[.int .i64 0,.int .i64 0,.int .i64 0,.int .i64 0,.int .i64 0] (List.map (fun x=>(x.fst,a.eval x.snd)) ps.toList) = some vs'.toArray:=by rw [hp];exact k3
  simp [execOp,hop,Instr.build,zeroValue,typeInfo,a1,a2,run_underlying Try.underlying38,sizeOf,b1,b3,Value.cells]
  simp [k3']
 ·obtain ⟨i1,a1,a2,a3,_⟩:=info_of t59
  obtain ⟨i2,b1,b2,b3,_⟩:=info_of t57
  have hp:(fun x=>([(0,1)]:List (Nat × Nat))[x]?) = fun i=>if i < tsz 59 then some (i,1) else none:=by
   funext i
   match i with
   | 0=>rfl
   | n + 1=>simp [tsz]
  have k3':Instr.fill (fun x=>([(0,1)]:List (Nat × Nat))[x]?) #[nilV] (List.map (fun x=>(x.fst,a.eval x.snd)) ps.toList) = some vs'.toArray:=by rw [hp];exact k3
  simp [execOp,hop,Instr.build,zeroValue,typeInfo,a1,a2,run_underlying Try.underlying59,sizeOf,b1,b3,Value.cells]
  simp [k3']
 ·cases ht
end
end Go.Proofs.Ytamjbjkbineafaa.Ev

namespace Go.Proofs.Ytamjbjkbineafaa.Ev
open Go Go.RowKit
set_option linter.unusedVariables false
set_option linter.unusedSimpArgs false
theorem fold_set (off:Nat):∀ (vs:List Value) (i:Nat) (cs:Array Value),off + i + vs.length ≤ cs.size →
  ((vs.zipIdx i).foldl (fun (cs:Array Value) (p:Value × Nat)=>cs.setIfInBounds (off + p.2) p.1) cs).toList = cs.toList.take (off + i) ++ vs ++ cs.toList.drop (off + i + vs.length):=by
 intro vs
 induction vs with
 | nil=>intro i cs _;simp
 | cons v vs ih =>
  intro i cs h
  simp only [List.length_cons] at h
  simp only [List.zipIdx_cons,List.foldl_cons]
  rw [ih (i + 1) _ (by simp;omega)]
  simp only [Array.toList_setIfInBounds,List.length_cons]
  have h1:off + i < cs.toList.length:=by simp;omega
  apply List.ext_getElem?
  intro j
  simp only [List.getElem?_append,List.length_take,List.length_append,List.length_set,List.length_cons,List.getElem?_take,List.getElem?_drop,List.getElem?_set,List.getElem?_cons,Array.length_toList]
  rcases Nat.lt_trichotomy j (off + i) with hj|hj|hj
  ·rw [Nat.min_eq_left tD,Nat.min_eq_left tD,if_pos tD,if_pos tD,if_pos tD,if_neg tD,if_pos tD,if_pos tD,if_pos tD]
  ·subst hj
   rw [Nat.min_eq_left tD,Nat.min_eq_left tD,if_pos tD,if_pos tD,if_pos tD,if_pos rfl,if_pos tD,if_pos tD,if_neg tD,if_pos tD]
  ·rw [Nat.min_eq_left tD,Nat.min_eq_left tD]
   by_cases h2:j < off + i + 1 + vs.length
   ·rw [if_pos tD,if_neg tD,if_pos tD,if_neg tD,if_neg tD]
    congr 1
   ·rw [if_neg tD,if_neg tD,if_neg tD]
    congr 1
    omega
theorem fill_seq (sz:Nat) (place:Nat → Option (Nat × Nat)) (hp:∀ i,place i = some (i * sz,sz)):∀ (vals:List Value) (i0:Nat) (pre rest:List Value),pre.length = i0 * sz → rest.length = vals.length * sz → (∀ v ∈ vals,v.cells.size = sz) →
  Instr.fill place (pre ++ rest).toArray ((List.range' i0 vals.length).zip vals) = some (pre ++ (vals.map fun v=>v.cells.toList).flatten).toArray:=by
 intro vals
 induction vals with
 | nil=>intro i0 pre rest _ h _;simp at h;subst h;simp [Instr.fill]
 | cons v vals ih =>
  intro i0 pre rest h1 h2 h3
  simp only [List.length_cons,List.range'_succ,List.zip_cons_cons,Instr.fill,hp]
  have hv:=h3 v te
  have h2':rest.length = vals.length * sz + sz:=by rw [h2,List.length_cons,Nat.add_mul,Nat.one_mul]
  rw [if_neg (by simp [hv,h1,h2'])]
  have hf:=fold_set (i0 * sz) v.cells.toList 0 (pre ++ rest).toArray (by simp [hv,h1,h2'])
  have e:(v.cells.zipIdx.foldl (fun cs x=>match x with|(c,j)=>cs.setIfInBounds (i0 * sz + j) c) (pre ++ rest).toArray) = (pre ++ v.cells.toList ++ rest.drop sz).toArray:=by
   apply Array.toList_inj.1
   rw [← Array.foldl_toList,Array.toList_zipIdx]
   refine hf.trans ?_
   simp only [Nat.add_zero,List.toList_toArray,Array.length_toList,hv]
   rw [← h1,List.take_left,List.drop_append,List.drop_of_length_le tD,Nat.add_sub_cancel_left]
   simp
  rw [e]
  have:=ih (i0 + 1) (pre ++ v.cells.toList) (rest.drop sz) (by simp [h1,hv,Nat.add_mul]) (by simp [h2']) (fun u hu=>h3 u (by simp [hu]))
  rw [this]
  simp
section
variable {B:Base} {U:Nat → Prop} {s s1:AS} {g:Gh} {a:Act} {w:World} {o:Oper} {d k k':Nat} {ws:List W} {K:Act → World → Prop} {Q:Exit → Act → World → Prop}
theorem partsL_run {n:Nat} {ps:List (Nat × Operand)}:∀ {s1:AS} {g:Gh} (_:FzRel s s1) (_:Inv B U s g a w) (g0:Gh) (_:Inv B U s1 g0 a w) (_:Grow g s.mem s.rows w g0 s1.mem s1.rows w) {α:Type} {f:List (List FV) → List W → M α} {out:α} (_:(partsL n ps f).run s = some out),
  ∃ es ws g',(f es ws).run s = some out ∧ FzRel s (s1.app ws) ∧ Inv B U (s1.app ws) g' a w ∧ Grow g0 s1.mem s1.rows w g' (s1.app ws).mem (s1.app ws).rows w ∧ es.length = ps.length ∧
   All2 (fun e (p:Nat × Operand)=>e.length = n ∧ All2 (Rep g'.own (rog g' w) w) e (a.eval p.2).cells.toList) es ps:=by
 induction ps with
 | nil=>intro s1 g hr _ g0 hi hg α f out h;exact ⟨[],[],g0,h,hr,hi,Grow.refl,rfl,.nil⟩
 | cons p ps ih =>
  obtain ⟨i,x⟩:=p
  intro s1 g hr hi0 g0 hi hg α f out h
  simp only [partsL] at h
  rw [evO_run] at h
  obtain ⟨sh,cs,hx,hsh,h⟩:=cellsA_run h
  obtain ⟨hl,h⟩:=if_run h
  have hxr:=hi0.ev x
  rw [hx] at hxr
  have hcells:=(repA_cells hxr hsh).imp (fun _ _ _ hq=>hg.c hq)
  obtain ⟨xs,ws,g1,h1,h2,h3,h4,h5,h6,_⟩:=fzL_sound hr hi h
  obtain ⟨es,ws',g2,k1,k2,k3,k4,k5,k6⟩:=ih h2 hi0 g1 h3 (hg.trans h4) h1
  exact ⟨xs :: es,ws ++ ws',g2,k1,by rw [app_append];exact k2,by rw [app_append];exact k3,by rw [app_append];exact h4.trans k4,by simp [k5],
   .cons ⟨by rw [h6,hl],(h5 _ hcells).imp (fun _ _ _ hq=>k4.rep hq)⟩ k6⟩
theorem flat_of {R:FV → Value → Prop} {t:Nat}:∀ {es:List (List FV)} {vs:List Value},All2 (fun e (v:Value)=>e.length = tsz t ∧ All2 R e v.cells.toList) es vs → Flat R t es (vs.map fun (v:Value)=>v.cells.toList).flatten:=by
 intro es vs h
 induction h with
 | nil=>exact ⟨fun i e he=>by simp at he,fun i e he=>by simp at he⟩
 | cons h _ ih =>
  rename_i e v es vs _
  have hl:v.cells.toList.length = tsz t:=by rw [← h.2.length,h.1]
  refine ⟨fun i e' he=>?_,fun i e' he j x hx=>?_⟩
  ·cases i with
   | zero=>simp at he;subst he;exact h.1
   | succ i=>exact ih.1 i e' (by simpa using he)
  ·simp only [List.map_cons,List.flatten_cons]
   cases i with
   | zero =>
    simp at he
    subst he
    obtain ⟨u,hu,hr⟩:=h.2.get j x hx
    refine ⟨u,?_,hr⟩
    rw [Nat.zero_mul,Nat.zero_add,List.getElem?_append_left (List.getElem?_eq_some_iff.1 hu).1]
    exact hu
   | succ i =>
    obtain ⟨u,hu,hr⟩:=ih.2 i e' (by simpa using he) j x hx
    refine ⟨u,?_,hr⟩
    rw [List.getElem?_append_right (by rw [hl,Nat.add_mul,Nat.one_mul];omega),hl,Nat.add_mul,Nat.one_mul]
    rw [show i * tsz t + tsz t + j - tsz t = i * tsz t + j from by omega]
    exact hu
theorem nx_in (U:Nat → Prop) (k:Nat):k = 0 ∨ Un U k (nx k) k:=by
 by_cases h:k = 0
 ·exact .inl h
 ·exact .inr (.inr ⟨Nat.le_refl _,by unfold nx;rw [if_neg h];omega⟩)
theorem All2.map_right {α β γ:Type} {R:α → γ → Prop} {f:β → γ} {xs:List α} {ys:List β} (h:All2 (fun a b=>R a (f b)) xs ys):All2 R xs (ys.map f):=by
 induction h with
 | nil=>exact .nil
 | cons h _ ih=>exact .cons h ih
theorem s_buildSlice (t:TypeId) (n:Nat) (ps:Array (Nat × Operand)) (hop:o.op = .buildSlice t n ps) (h:(semD o.op d k).run s = some (.done ws k')) (hi:Inv B U s g a w) (hdst:o.dst = some d) (hdN:d < B.N)
  (hK:∀ g' a' w',Inv B (Un U k k') (s.app ws) g' a' w' → K a' w'):o.wp Try.prog a w K Q:=by
 rw [hop] at h
 simp only [semD] at h
 split at h
 ·rename_i e he
  obtain ⟨hu,hke,inf,z,hinf,hz,hsz,_,hzs,_⟩:=ty_elem he
  obtain ⟨⟨hr1,hr2⟩,h⟩:=if_run h
  obtain ⟨es,ws',g',h1,h2,h3,h4,h5,h6⟩:=partsL_run (FzRel.refl s) hi g hi Grow.refl h
  simp only [M.run] at h1
  obtain ⟨hn,h1⟩:=if_run h1
  have hn:=isNone_eq hn
  obtain ⟨rfl,rfl⟩:=done_inj h1
  have hpl:ps.toList.length = n:=by have:=congrArg List.length hr1;simpa using this
  have hall:All2 (fun e' (v:Value)=>e'.length = tsz e ∧ All2 (Rep g'.own (rog g' w) w) e' v.cells.toList) es (ps.toList.map fun p=>a.eval p.2):=h6.map_right
  have hfl:=flat_of hall
  have hesn:es.length = n:=by rw [h5,hpl]
  have hcells:∀ v ∈ ps.toList.map (fun p=>a.eval p.2),v.cells.size = tsz e:=by
   intro v hv
   obtain ⟨i,hi⟩:=List.mem_iff_getElem?.1 hv
   have hlt:i < es.length:=by rw [hall.length];exact (List.getElem?_eq_some_iff.1 hi).1
   obtain ⟨v',hv',hq⟩:=hall.get i _ (List.getElem?_eq_getElem hlt)
   rw [hi] at hv'
   obtain rfl:=Option.some.inj hv'
   have:=hq.2.length
   simp at this
   omega
  let cells:List Value:=((ps.toList.map fun p=>a.eval p.2).map fun v=>v.cells.toList).flatten
  have hcl:cells.length = n * tsz e:=by
   have:∀ (l:List Value),(∀ v ∈ l,v.cells.size = tsz e) → ((l.map fun v=>v.cells.toList).flatten).length = l.length * tsz e:=by
    intro l
    induction l with
    | nil=>intro _;simp
    | cons v l ih=>intro hl;simp only [List.map_cons,List.flatten_cons,List.length_append,List.length_cons,ih (fun u hu=>hl u (by simp [hu])),Array.length_toList,hl v te,Nat.add_mul,Nat.one_mul];omega
   rw [this _ hcells,List.length_map,hpl]
  have hrd:(s.app ws').rows d = none:=by
   rcases h2.2.2 d with e1|⟨r,e1,_⟩
   ·rw [e1];exact hn
   ·rw [hn] at e1;cases e1
  have hown:=World.ownsRow_lit (base:=B.w0.heap.size) (e:=e) (size:=tsz e) w cells.toArray n hi.below.size (by simp only [maxLen];omega) (by simpa using hcl)
  obtain ⟨g2,q1,q2⟩:=inv_row (V:=Un U k (nx k)) (w':=w.alloc (.cells cells.toArray e)) (old:=none) (l:=k) h3 (p:=d) (fun b hb=>by cases hb) (World.grownBy_alloc _ _ _) (by rw [hesn];exact hown)
   (fun b hb=>by simp [Value.ownBlock] at hb;exact .inr tD) hfl (fun r hr=>by rw [hrd] at hr;cases hr) (fun _ h=>.inl h) (nx_in U k)
  have hzip:∀ l:List (Nat × Operand),(l.map fun (i,x)=>(i,a.eval x)) = (l.map (·.1)).zip (l.map fun p=>a.eval p.2):=by
   intro l
   induction l with
   | nil=>rfl
   | cons p l ih=>simp only [List.map_cons,List.zip_cons_cons,ih]
  have hfill:∀ init:Array Value,init.size = n * tsz e → Instr.fill (fun i=>some (i * tsz e,tsz e)) init (ps.toList.map fun (i,x)=>(i,a.eval x)) = some cells.toArray:=by
   intro init hinit
   have:=fill_seq (tsz e) (fun i=>some (i * tsz e,tsz e)) (fun _=>rfl) (ps.toList.map fun p=>a.eval p.2) 0 [] init.toList te (by simp [hinit,hpl]) hcells
   rw [hzip,hr1,List.range_eq_range']
   simpa [hpl,cells] using this
  have hK':=hK
  rw [show ws' ++ [W.row d (some ⟨k,e,es,false⟩),W.tm d (.v .one [.own d es.length])] = (ws' ++ [W.row d (some ⟨k,e,es,false⟩)]) ++ [W.tm d (.v .one [.own d es.length])] from by simp] at hK'
  refine wp_val3 (ws:=ws' ++ [W.row d (some ⟨k,e,es,false⟩)]) (g':=g2) (w':=w.alloc (.cells cells.toArray e)) (v:=.slice (some ⟨w.heap.size,0,none⟩) n n) (by rw [app_append];exact q1) hdst hdN hK' ?_ ?_
  ·have hsmall:¬ (n * tsz e > 2 ^ 24):=by
    have:tsz e ≤ 5:=by unfold tsz;split <;> decide
    have:=Nat.mul_le_mul hr2 this
    omega
   simp only [execOp,hop,Instr.buildSlice,Sem.run_bind,run_underlying hu,Result.andThen_ok,sizeOf,typeInfo,program,Sem.run,hinf,hsz,Sem.run_pure]
   rw [if_neg hsmall]
   have hm:(ps.map fun (x:Nat × Operand)=>(x.1,a.eval x.2)).toList = ps.toList.map fun (i,x)=>(i,a.eval x):=Array.toList_map
   have hfill':∀ q:Nat → Value,Instr.fill (fun i=>some (i * tsz e,tsz e)) (Array.map q (Array.range (n * tsz e))) (ps.toList.map fun (i,x)=>(i,a.eval x)) = some cells.toArray:=fun q=>hfill _ te
   split <;> simp [hm,hfill',newRow,newObj,zeroValue,typeInfo,hinf,hz,Sem.run]
  ·refine one_repA ⟨⟨k,e,es,false⟩,?_,Nat.le_refl _,fun _=>q2.symm,rfl⟩
   rw [app_append]
   simp [AS.app,AS.put,upd]
 ·cases h
end
end Go.Proofs.Ytamjbjkbineafaa.Ev

namespace Go.Proofs.Ytamjbjkbineafaa.Ev
open Go Go.RowKit
set_option linter.unusedVariables false
set_option linter.unusedSimpArgs false
section
variable {B:Base} {U:Nat → Prop} {s:AS} {g:Gh} {a:Act} {w:World} {o:Oper} {d k k':Nat} {ws:List W} {K:Act → World → Prop} {Q:Exit → Act → World → Prop}
theorem store_run {t:Nat} (ht:known t = true) (w:World) (b off:Nat) (v:Value) (old:Array Value) (et:TypeId) (hb:w.heap[b]? = some (.cells old et (0,0))) (hl:v.cells.size = tsz t) (hfit:off + tsz t ≤ old.size) (h1:∀ u ∈ v.cells.toList,u.oneCell' = true) :
  (Instr.storeAt t (.pointer (some ⟨b,off,none⟩)) v).run Try.prog w = .ok () (w.setRow b (old.toList.take off ++ v.cells.toList ++ old.toList.drop (off + tsz t)).toArray):=by
 obtain ⟨inf,hinf,hsz⟩:=ty_size ht
 have:=run_storeCells_at Try.prog b off et v.cells.toList 0 old w hb (by simp [hl];omega) h1
 simp only [Nat.add_zero,Array.length_toList,hl] at this
 simp [Instr.storeAt,Instr.sureAddr,storeVar,sizeOf,typeInfo,hinf,hsz,hl,this]
theorem take_mid (xs vs:List Value) (o n:Nat) (h:o + vs.length ≤ n) (hn:n ≤ xs.length):(xs.take o ++ vs ++ xs.drop (o + vs.length)).take n = (xs.take n).take o ++ vs ++ (xs.take n).drop (o + vs.length):=by
 have h1:(xs.take o).length = o:=List.length_take_of_le tD
 have h2:((xs.take n).take o).length = o:=List.length_take_of_le (by rw [List.length_take_of_le hn];omega)
 apply List.ext_getElem?
 intro j
 simp only [List.getElem?_append,List.length_append,h1,h2,List.getElem?_take,List.getElem?_drop]
 by_cases hj:j < n
 ·rw [if_pos hj]
  by_cases h3:j < o + vs.length
  ·rw [if_pos h3,if_pos h3]
   by_cases h4:j < o
   ·simp [h4,hj]
   ·simp [h4]
  ·rw [if_neg h3,if_neg h3,if_pos tD]
 ·rw [if_neg hj,if_neg tD,if_neg tD]
theorem wp_skip_ {w':World} {x:Next} (hdst:o.dst = none) (hrun:(execOp a.eval o).run Try.prog w = .ok .skip w') (hK:K a w'):o.wp Try.prog a w K Q:=by
 unfold Oper.wp
 rw [hrun]
 show K (a.put o.dst undef) w'
 rw [hdst]
 exact hK
theorem s_store (t:TypeId) (x y:Operand) (hop:o.op = .store t x y) (h:(semS o.op k).run s = some (.done ws k')) (hi:Inv B U s g a w) (hdst:o.dst = none)
  (hK:∀ g' a' w',Inv B (Un U k k') (s.app ws) g' a' w' → K a' w'):o.wp Try.prog a w K Q:=by
 rw [hop] at h
 simp only [semS] at h
 obtain ⟨ht,h⟩:=if_run h
 rw [evO_run,evO_run] at h
 obtain ⟨sh,cs,hy,hsh,h⟩:=cellsA_run h
 obtain ⟨hl,h⟩:=if_run h
 have hyr:=hi.ev y
 rw [hy] at hyr
 have hc:=repA_cells hyr hsh
 have hone:∀ u ∈ (a.eval y).cells.toList,u.oneCell' = true:=by
  intro u hu
  obtain ⟨i,hi'⟩:=List.mem_iff_getElem?.1 hu
  have hlt:i < cs.length:=by rw [hc.length];exact (List.getElem?_eq_some_iff.1 hi').1
  obtain ⟨u',hu',hr⟩:=hc.get i _ (List.getElem?_eq_getElem hlt)
  rw [hi'] at hu'
  obtain rfl:=Option.some.inj hu'
  exact hr.one
 have hsz:(a.eval y).cells.size = tsz t:=by have:=hc.length;simp at this;omega
 have hxr:=hi.ev x
 split at h
 ·rename_i b off hx
  rw [hx] at hxr
  obtain ⟨_,hv⟩:=hxr
  simp only [M.run] at h
  split at h
  ·rename_i bx hbx
   obtain ⟨hfit,h⟩:=if_run h
   obtain ⟨rfl,rfl⟩:=done_inj h
   obtain ⟨old,q1,q2,q3,q4⟩:=hi.boxes _ _ hbx
   have hol:old.size = bx.cs.length:=by have:=q4.length;simp at this;omega
   have hrun:=store_run ht w (g.bx b) off (a.eval y) old bx.t q1 hsz tD hone
   refine wp_skip_ (x:=.skip) hdst (w':=w.setRow (g.bx b) (old.toList.take off ++ (a.eval y).cells.toList ++ old.toList.drop (off + tsz t)).toArray) ?_ ?_
   ·simp [execOp,hop,hv,hrun]
   ·refine hK g a _ ((inv_store (cs:=bx.cs.take off ++ cs ++ bx.cs.drop (off + cs.length)) hi hbx q1 ?_).weakU (fun _ h=>.inl h))
    rw [hl]
    exact ((q4.take off).append hc).append (q4.drop (off + tsz t))
  ·cases h
 ·rename_i p n i hx
  rw [hx] at hxr
  rcases ite_run h with ⟨_,h⟩|⟨hnp,h⟩
  ·cases h
  obtain ⟨fs,fw,g',h1,h2,h3,h4,h5,h6,h7,h8⟩:=fzL_sound (FzRel.refl s) hi h
  obtain ⟨r,hr,e,h1⟩:=rowO_run h1
  rcases ite_run h1 with ⟨_,h1⟩|⟨hfz,h1⟩
  ·cases h1
  obtain ⟨ht',h1⟩:=if_run h1
  obtain ⟨hilt,h1⟩:=if_run h1
  obtain ⟨rfl,rfl⟩:=done_inj h1
  obtain ⟨r',k1,k2,k3⟩:=hxr
  rw [hr] at k1
  obtain rfl:=Option.some.inj k1
  obtain ⟨b,cap,q1,q2⟩:=k3 e.symm
  have hrp:(s.app fw).rows p = some r:=(h8 p (by simpa using hnp)).trans hr
  have hhd:g'.hd p = g.hd p:=by
   obtain ⟨r',a1,_,_,a4⟩:=h4.rows p r hr
   rw [hrp] at a1
   obtain rfl:=Option.some.inj a1
   exact a4 rfl
  obtain ⟨xs,z1,z2,z3⟩:=h3.rows p r hrp
  rw [hhd,q1] at z1 z3
  obtain ⟨c1,c2⟩:=z1
  rcases c2 with ⟨c2,_⟩|⟨gb,cap',cur,c3,c4,c5,c6,c7,c8,c9⟩
  ·cases c2
  simp only [Value.slice.injEq,Option.some.injEq,Addr.mk.injEq,and_true,true_and] at c3
  obtain ⟨rfl,hne,rfl⟩:=c3
  have hoff:i * tsz r.t + tsz r.t ≤ r.es.length * tsz r.t:=by
   have:=Nat.mul_le_mul_right (tsz r.t) (show i + 1 ≤ r.es.length from hilt)
   rw [Nat.add_mul,Nat.one_mul] at this
   exact this
  have hcurle:r.es.length * tsz r.t ≤ cur.size:=by rw [c8];exact Nat.mul_le_mul_right _ c6
  subst ht'
  have hrun:=store_run ht w b (i * tsz r.t) (a.eval y) cur r.t c5 hsz tD hone
  have hfit:fs.length = tsz r.t:=by rw [h6,hl]
  have hcv:=h5 _ hc
  let xs':=xs.take (i * tsz r.t) ++ (a.eval y).cells.toList ++ xs.drop (i * tsz r.t + tsz r.t)
  let cur':=(cur.toList.take (i * tsz r.t) ++ (a.eval y).cells.toList ++ cur.toList.drop (i * tsz r.t + tsz r.t)).toArray
  have hB:(a.eval y).cells.toList.length = tsz r.t:=by rw [Array.length_toList];exact hsz
  have hA:(xs.take (i * tsz r.t)).length = i * tsz r.t:=List.length_take_of_le tD
  have hxl:xs'.length = r.es.length * tsz r.t:=by simp only [xs',List.length_append,hA,hB,List.length_drop,c1];omega
  have hown:(w.setRow b cur').ownsRow B.w0.heap.size r.t (tsz r.t) (.slice (some ⟨b,0,none⟩) n cap) (r.es.set i fs).length xs':=by
   rw [List.length_set]
   refine ⟨hxl,.inr ⟨b,cap,cur',by rw [e],c4,setRow_heap w _ cur _ _ _ c5,c6,c7,?_,?_⟩⟩
   ·have hA':(cur.toList.take (i * tsz r.t)).length = i * tsz r.t:=List.length_take_of_le (by rw [Array.length_toList];omega)
    simp only [cur',List.size_toArray,List.length_append,hA',hB,List.length_drop,Array.length_toList]
    omega
   ·simp only [cur',xs']
    rw [← c9,← hB]
    exact take_mid _ _ _ _ (by rw [hB];exact hoff) (by rw [hB,Array.length_toList];exact hcurle)
  have hflat:Flat (Rep g'.own (rog g' w) w) r.t (r.es.set i fs) xs':=by
   refine ⟨fun q el hq=>?_,fun q el hq j u hu=>?_⟩
   ·rw [List.getElem?_set] at hq
    split at hq
    ·obtain rfl:=Option.some.inj hq;exact hfit
    ·exact z2.1 q el hq
   ·have hju:j < el.length:=(List.getElem?_eq_some_iff.1 hu).1
    rw [List.getElem?_set] at hq
    split at hq
    ·rename_i eq
     subst eq
     obtain rfl:=Option.some.inj hq
     obtain ⟨v,hv,hr2⟩:=hcv.get j u hu
     refine ⟨v,?_,hr2⟩
     simp only [xs']
     rw [List.getElem?_append_left (by rw [List.length_append,hA,hB];omega),List.getElem?_append_right (by rw [hA];omega),hA,show i * tsz r.t + j - i * tsz r.t = j from by omega]
     exact hv
    ·rename_i hqi
     obtain ⟨v,hv,hr2⟩:=z2.2 q el hq j u hu
     refine ⟨v,?_,hr2⟩
     have hel:=z2.1 q el hq
     simp only [xs']
     rcases Nat.lt_or_ge q i with hlt|hge
     ·have:=Nat.mul_le_mul_right (tsz r.t) (show q + 1 ≤ i from hlt)
      rw [Nat.add_mul,Nat.one_mul] at this
      rw [List.getElem?_append_left (by rw [List.length_append,hA,hB];omega),List.getElem?_append_left (by rw [hA];omega),List.getElem?_take,if_pos tD]
      exact hv
     ·have:=Nat.mul_le_mul_right (tsz r.t) (show i + 1 ≤ q from by omega)
      rw [Nat.add_mul,Nat.one_mul] at this
      rw [List.getElem?_append_right (by rw [List.length_append,hA,hB];omega),List.length_append,hA,hB,List.getElem?_drop,show i * tsz r.t + tsz r.t + (q * tsz r.t + j - (i * tsz r.t + tsz r.t)) = q * tsz r.t + j from by omega]
      exact hv
  have hz3:=z3 b rfl
  rw [if_neg hfz] at hz3
  obtain ⟨g2,y1,_⟩:=inv_row (V:=Un U k' k') (w':=w.setRow b cur') (old:=some b) (l:=r.l) h3 (p:=p) (fun b' hb'=>by
    obtain rfl:=Option.some.inj hb'
    exact ⟨(Array.getElem?_eq_some_iff.1 c5).1,c4,hz3.2,hz3.1⟩) ⟨rfl,rfl,rfl,by simp,fun k' hk' hne'=>setRow_other w _ _ _ (fun e=>hne' (by rw [e]))⟩ hown (fun b' hb'=>.inl (by simpa [Value.ownBlock] using hb')) hflat
   (fun r' hr'=>by
    rw [hrp] at hr'
    obtain rfl:=Option.some.inj hr'
    exact ⟨rfl,by simp,fun _=>by rw [hhd,q1]⟩) (fun _ h=>.inl h) ((h3.labs p r hrp).imp id .inl)
  refine wp_skip_ (x:=.skip) hdst (w':=w.setRow b cur') ?_ (hK g2 a _ (by rw [app_append];exact y1))
  have q2':a.eval x = .pointer (some ⟨b,i * tsz r.t,none⟩):=by rw [q2,Nat.add_zero]
  simp [execOp,hop,q2',hrun,cur']
 ·cases h
theorem news_of {own:Nat → Nat} {ro:Nat → Prop} {w:World} {l t:Nat} {es:List (List FV)} {A:Option Addr} {cap:Nat} (h:Rep own ro w (.row l t es) (.slice A es.length cap)) (hne:es ≠ []) :
  ∃ ad news,A = some ad ∧ news.length = es.length * tsz t ∧ (∀ (j:Nat) u,news[j]? = some u → w.cell? (ad.add j) = some u) ∧ (∀ u ∈ news,u.oneCell' = true) ∧ Flat (Rep own ro w) t es news:=by
 obtain ⟨A',cap2,hv,h1,h2,h3,h4⟩:=h.row_open
 injection hv with hA _ _
 subst hA
 obtain ⟨ad,rfl,_,_⟩:=h4 0 _ (List.getElem?_eq_getElem (List.length_pos_iff.2 hne))
 have hpos:=tsz_pos t
 have cell:∀ q,q < es.length * tsz t → ∃ u,w.cell? (ad.add q) = some u ∧ ∃ e x,es[q / tsz t]? = some e ∧ e[q % tsz t]? = some x ∧ Rep own ro w x u:=by
  intro q hq
  have hi:q / tsz t < es.length:=(Nat.div_lt_iff_lt_mul hpos).2 hq
  have he:=List.getElem?_eq_getElem hi
  have hl:=h3 _ _ he
  have hj:q % tsz t < (es[q / tsz t]).length:=by rw [hl];exact Nat.mod_lt _ hpos
  obtain ⟨ad',e1,_,hc⟩:=h4 _ _ he
  obtain rfl:=Option.some.inj e1
  obtain ⟨u,k1,k2⟩:=hc _ _ (List.getElem?_eq_getElem hj)
  rw [Nat.mul_comm,Nat.div_add_mod] at k1
  exact ⟨u,k1,_,_,he,List.getElem?_eq_getElem hj,k2⟩
 refine ⟨ad,(List.range (es.length * tsz t)).map fun q=>(w.cell? (ad.add q)).getD undef,rfl,by simp,fun j u hu=>?_,fun u hu=>?_,h3,fun i e he j x hx=>?_⟩
 ·rw [List.getElem?_map] at hu
  cases hq:(List.range (es.length * tsz t))[j]? with
  | none=>rw [hq] at hu;cases hu
  | some q =>
   rw [hq] at hu
   have hlt:=(List.getElem?_eq_some_iff.1 hq).1
   have hqj:q = j:=by have:=(List.getElem?_eq_some_iff.1 hq).2;simpa using this.symm
   subst hqj
   obtain ⟨v,k1,_⟩:=cell q (by simpa using hlt)
   simp only [Option.map_some,k1,Option.getD_some,Option.some.injEq] at hu
   rw [k1,hu]
 ·obtain ⟨q,hq,rfl⟩:=List.mem_map.1 hu
  obtain ⟨v,k1,_,_,_,_,k2⟩:=cell q (by simpa using hq)
  simp only [k1,Option.getD_some]
  exact k2.one
 ·have hi:=(List.getElem?_eq_some_iff.1 he).1
  have hj:=(List.getElem?_eq_some_iff.1 hx).1
  have hl:=h3 _ _ he
  obtain ⟨ad',e1,_,hc⟩:=h4 _ _ he
  obtain rfl:=Option.some.inj e1
  obtain ⟨u,k1,k2⟩:=hc _ _ hx
  refine ⟨u,?_,k2⟩
  have hlt:i * tsz t + j < es.length * tsz t:=by
   have:=Nat.mul_le_mul_right (tsz t) (show i + 1 ≤ es.length from hi)
   rw [Nat.add_mul,Nat.one_mul] at this
   omega
  rw [List.getElem?_map,List.getElem?_range hlt]
  simp [k1]
theorem flat_append {R:FV → Value → Prop} {t:Nat} {es es':List (List FV)} {xs ys:List Value} (h:Flat R t es xs) (h':Flat R t es' ys) (hl:xs.length = es.length * tsz t):Flat R t (es ++ es') (xs ++ ys):=by
 refine ⟨fun i e he=>?_,fun i e he j x hx=>?_⟩
 ·rw [List.getElem?_append] at he
  split at he
  ·exact h.1 i e he
  ·exact h'.1 _ e he
 ·rw [List.getElem?_append] at he
  split at he
  ·obtain ⟨u,hu,hr⟩:=h.2 i e he j x hx
   exact ⟨u,by rw [List.getElem?_append_left (List.getElem?_eq_some_iff.1 hu).1];exact hu,hr⟩
  ·rename_i hge
   obtain ⟨u,hu,hr⟩:=h'.2 _ e he j x hx
   refine ⟨u,?_,hr⟩
   have hm:=Nat.mul_le_mul_right (tsz t) (show es.length ≤ i from by omega)
   rw [List.getElem?_append_right tD,hl,← hu]
   congr 1
   rw [Nat.sub_mul]
   omega
end
end Go.Proofs.Ytamjbjkbineafaa.Ev

namespace Go.Proofs.Ytamjbjkbineafaa.Ev
open Go Go.RowKit
set_option linter.unusedVariables false
set_option linter.unusedSimpArgs false
theorem run_append_zero {t e:Nat} (ty:TypeId) (h:elem? t = some e) (w:World) {base n:Nat} {v:Value} {xs:List Value} (hown:w.ownsRow base e (tsz e) v n xs) (A:Option Addr) (c:Nat) :
  (Builtin.append_ #[t,t] ty #[v,.slice A 0 c]).run Try.prog w = .ok v w:=by
 obtain ⟨hu,hke,inf,z,hinf,hz,hsz,hby,hzs,_⟩:=ty_elem h
 rcases hown.2 with ⟨rfl,rfl⟩|⟨g,cap,cur,rfl,_,hg,hnc,_⟩
 ·cases A <;> simp [Builtin.append_,run_underlying hu,sizeOf,typeInfo,hinf,Builtin.lenOf,Builtin.firstCells,loadCells,loadCellsFrom]
 ·cases A <;> simp [Builtin.append_,run_underlying hu,sizeOf,typeInfo,hinf,Builtin.lenOf,Builtin.firstCells,hnc,storeCells,loadCells,loadCellsFrom]
section
variable {B:Base} {U:Nat → Prop} {s s1:AS} {g:Gh} {a:Act} {w:World} {o:Oper} {d k k':Nat} {ws:List W} {K:Act → World → Prop} {Q:Exit → Act → World → Prop}
theorem readA_run {x:Operand} {α:Type} {f:Nat → List (List FV) → M α} {out:α} (hi:Inv B U s g a w) (h:(readA (s.ev x) f).run s = some out) :
  ∃ t es,(f t es).run s = some out ∧ ∃ A cap,a.eval x = .slice A es.length cap ∧ (es ≠ [] → ∃ ad news,A = some ad ∧ news.length = es.length * tsz t ∧ (∀ (j:Nat) u,news[j]? = some u → w.cell? (ad.add j) = some u) ∧ (∀ u ∈ news,u.oneCell' = true) ∧ Flat (Rep g.own (rog g w) w) t es news):=by
 have hx:=hi.ev x
 unfold readA at h
 split at h
 ·rename_i l t es hb
  rw [hb] at hx
  have hr:=repA_one hx
  obtain ⟨A,cap,hv,_⟩:=hr.row_open
  refine ⟨t,es,h,A,cap,hv,fun hne=>?_⟩
  rw [hv] at hr
  exact news_of hr hne
 ·rename_i p n hb
  obtain ⟨r,hr,e,h⟩:=rowO_run h
  rw [hb] at hx
  obtain ⟨r',k1,k2,k3,_⟩:=repA_one hx
  rw [hr] at k1
  obtain rfl:=Option.some.inj k1
  obtain ⟨xs,z1,z2,z3⟩:=hi.rows _ _ hr
  obtain ⟨A,cap,hv,_⟩:=owns_slice z1
  refine ⟨r.t,r.es,h,A,cap,(k3 e.symm).trans hv,fun hne=>?_⟩
  obtain ⟨b,cap',hv',_,_⟩:=z1.form (List.length_pos_iff.2 hne)
  rw [hv] at hv'
  injection hv' with ha _ _
  refine ⟨_,xs,ha,z1.1,fun j u hu=>z1.cells (g:=b) (by rw [hv,ha];rfl) j u hu,fun u hu=>?_,z2⟩
  obtain ⟨q,hq⟩:=List.mem_iff_getElem?.1 hu
  have hpos:=tsz_pos r.t
  have hlt:q < r.es.length * tsz r.t:=by rw [← z1.1];exact (List.getElem?_eq_some_iff.1 hq).1
  have hi':q / tsz r.t < r.es.length:=(Nat.div_lt_iff_lt_mul hpos).2 hlt
  have he:=List.getElem?_eq_getElem hi'
  have hj:q % tsz r.t < (r.es[q / tsz r.t]).length:=by rw [z2.1 _ _ he];exact Nat.mod_lt _ hpos
  obtain ⟨u',hu',hr'⟩:=z2.2 _ _ he _ _ (List.getElem?_eq_getElem hj)
  rw [Nat.mul_comm,Nat.div_add_mod,hq] at hu'
  obtain rfl:=Option.some.inj hu'
  exact hr'.one
 ·cases h
theorem s_append (c:Call) (hop:o.op = .call c) (hc:c.callee = .builtin .append) (h:(semD o.op d k).run s = some (.done ws k')) (hi:Inv B U s g a w) (hdst:o.dst = some d) (hdN:d < B.N)
  (hK:∀ g' a' w',Inv B (Un U k k') (s.app ws) g' a' w' → K a' w'):o.wp Try.prog a w K Q:=by
 rw [hop] at h
 simp only [semD,hc] at h
 split at h
 ·rename_i sl x t t' hargs htys
  split at h
  ·rename_i e he
   obtain ⟨ht',h0⟩:=if_run h
   clear h
   subst ht'
   obtain ⟨hu,hke,inf,z,hinf,hz,hsz,hby,hzs,_⟩:=ty_elem he
   have hargs:c.args = #[sl,x]:=by rw [← hargs]
   have htys:c.argTypes = #[t,t]:=by rw [← htys]
   rw [evO_run,evO_run] at h0
   obtain ⟨xt,xs,h1,A,cap,hxv,hnews⟩:=readA_run hi h0
   clear h0
   obtain ⟨hxt,h⟩:=if_run h1
   clear h1
   subst hxt
   have hby0:8 ≤ tby xt:=by unfold tby;split <;> decide
   have run:∀ v' w',(Builtin.append_ #[t,t] o.type #[a.eval sl,.slice A xs.length cap]).run Try.prog w = .ok v' w' → (execOp a.eval o).run Try.prog w = .ok (.value v') w':=by
    intro v' w' hr
    simp [execOp,hop,resolve,hc,hargs,htys,invoke,builtin,hxv,hr]
   -- what an append onto a row of one's own leaves
   have main:∀ (n:Nat) (olds:List Value),w.ownsRow B.w0.heap.size xt (tsz xt) (a.eval sl) n olds → (n + xs.length) * tby xt ≤ 140737488355328 →
     ∃ v' w' news,(Builtin.append_ #[t,t] o.type #[a.eval sl,.slice A xs.length cap]).run Try.prog w = .ok v' w' ∧ w'.ownsRow B.w0.heap.size xt (tsz xt) v' (n + xs.length) (olds ++ news) ∧ w.grownBy w' (a.eval sl).ownBlock ∧
      (∀ b,v'.ownBlock = some b → (a.eval sl).ownBlock = some b ∨ w.heap.size ≤ b) ∧ Flat (Rep g.own (rog g w) w) xt xs news ∧ (xs = [] → v' = a.eval sl):=by
    intro n olds hown hb
    by_cases hne:xs = []
    ·subst hne
     refine ⟨a.eval sl,w,[],run_append_zero o.type he w hown A cap,by simpa using hown,World.grownBy.refl _ _,fun b hb=>.inl hb,⟨fun i e h=>by simp at h,fun i e h=>by simp at h⟩,fun _=>rfl⟩
    ·obtain ⟨ad,news,rfl,hl,hcells,hone,hfl⟩:=hnews hne
     have hsm:n + xs.length ≤ 140737488355328:=Nat.le_trans (Nat.le_mul_of_pos_right _ tD) hb
     obtain ⟨v',w',q1,q2,q3,q4,q5⟩:=run_append_own_at (P:=Try.prog) w B.w0.heap.size t o.type xt inf z (tsz xt) (tby xt) hu hinf hz hsz hby hzs (tsz_pos _) (a.eval sl) n olds hown ad xs.length cap news hl hcells hone (by simp only [maxLen];omega) hb hi.below.size
     refine ⟨v',w',news,q1,q2,q3,fun b hb=>?_,hfl,fun h=>absurd h hne⟩
     rcases q5 with q5|q5
     ·exact .inl (by rw [← q5];exact hb)
     ·rw [q5] at hb;obtain rfl:=Option.some.inj hb;exact .inr (Nat.le_refl _)
   have hsr:=hi.ev sl
   split at h
   ·rename_i hsl
    obtain ⟨hb,h⟩:=if_run h
    simp only [M.run] at h
    obtain ⟨hn,h⟩:=if_run h
    have hn:=isNone_eq hn
    obtain ⟨rfl,rfl⟩:=done_inj h
    rw [hsl] at hsr
    have hsv:a.eval sl = .slice none 0 0:=repA_lit hsr
    obtain ⟨v',w',news,q1,q2,q3,q4,q5,q6⟩:=main 0 [] (by rw [hsv];exact World.ownsRow_nil _ _ _ _) (by simpa using hb)
    rw [hsv] at q3 q4
    obtain ⟨g',y1,y2⟩:=inv_row (V:=Un U k (nx k)) (w':=w') (old:=none) (l:=k) hi (p:=d) (fun b hb=>by cases hb) q3 (by simpa using q2) (fun b hb=>by
      rcases q4 b hb with e|e
      ·cases e
      ·exact .inr e) q5 (fun r hr=>by rw [hn] at hr;cases hr) (fun _ h=>.inl h) (nx_in U k)
    refine wp_val3 (ws:=[_]) y1 hdst hdN hK (run _ _ q1) (one_repA ⟨_,upd_same _ _ _,Nat.le_refl _,fun _=>y2.symm,?_⟩)
    obtain ⟨A',c',hv,_⟩:=owns_slice q2
    rw [hv];rfl
   ·rename_i p n hsl
    obtain ⟨r,hr,e,h⟩:=rowO_run h
    rcases ite_run h with ⟨_,h⟩|⟨hfz,h⟩
    ·cases h
    obtain ⟨ht',h⟩:=if_run h
    obtain ⟨hb,h⟩:=if_run h
    obtain ⟨rfl,rfl⟩:=done_inj h
    rw [hsl] at hsr
    obtain ⟨r',k1,k2,k3,_⟩:=repA_one hsr
    rw [hr] at k1
    obtain rfl:=Option.some.inj k1
    have hsv:=k3 e.symm
    obtain ⟨olds,z1,z2,z3⟩:=hi.rows _ _ hr
    rw [ht'] at z1 z2
    obtain ⟨v',w',news,q1,q2,q3,q4,q5,q6⟩:=main r.es.length olds (by rw [hsv];exact z1) hb
    rw [hsv] at q3 q4 q6
    obtain ⟨g',y1,y2⟩:=inv_row (V:=Un U k' k') (w':=w') (old:=(g.hd p).ownBlock) (l:=r.l) (es:=r.es ++ xs) hi (p:=p) (fun b hb=>⟨(z1.lt b hb).2,(z1.lt b hb).1,by have:=(z3 b hb).2;rw [if_neg hfz] at this;exact this,(z3 b hb).1⟩) q3 (by rw [List.length_append];exact q2) q4
     (flat_append z2 q5 z1.1) (fun r' hr'=>by
      rw [hr] at hr'
      obtain rfl:=Option.some.inj hr'
      refine ⟨ht',by simp,fun hl=>q6 ?_⟩
      rw [List.length_append] at hl
      exact List.eq_nil_of_length_eq_zero tD) (fun _ h=>.inl h) ((hi.labs p r hr).imp id .inl)
    refine wp_val3 (ws:=[_]) y1 hdst hdN hK (run _ _ q1) (one_repA ⟨_,upd_same _ _ _,Nat.le_refl _,fun _=>y2.symm,?_⟩)
    obtain ⟨A',c',hv,_⟩:=owns_slice q2
    rw [hv];rfl
   ·cases h
  ·cases h
 ·cases h
end
end Go.Proofs.Ytamjbjkbineafaa.Ev

namespace Go.Proofs.Ytamjbjkbineafaa.Ev
open Go Go.RowKit
set_option linter.unusedVariables false
set_option linter.unusedSimpArgs false
section
variable {B:Base} {U V:Nat → Prop} {s s1:AS} {g:Gh} {a:Act} {w w':World} {o:Oper} {d k k':Nat} {ws:List W} {K:Act → World → Prop} {Q:Exit → Act → World → Prop}
theorem argsL_run {xs:List Operand}:∀ {s1:AS} (_:FzRel s s1) (_:Inv B U s g a w) (g0:Gh) (_:Inv B U s1 g0 a w) (_:Grow g s.mem s.rows w g0 s1.mem s1.rows w) {α:Type} {f:List PV → List W → M α} {out:α} (_:(argsL xs f).run s = some out),
  ∃ ps ws g',(f ps ws).run s = some out ∧ FzRel s (s1.app ws) ∧ Inv B U (s1.app ws) g' a w ∧ Grow g0 s1.mem s1.rows w g' (s1.app ws).mem (s1.app ws).rows w ∧ All2 (RepPV g'.own (rog g' w) w) ps (xs.map a.eval) ∧ g'.own = g0.own:=by
 induction xs with
 | nil=>intro s1 hr _ g0 hi hg α f out h;exact ⟨[],[],g0,h,hr,hi,Grow.refl,.nil,rfl⟩
 | cons x xs ih =>
  intro s1 hr hi0 g0 hi hg α f out h
  simp only [argsL] at h
  rw [evO_run] at h
  have hxr:=hi0.ev x
  have step:∀ (sh:Sh) (cs:List CV),RepA g s.mem s.rows w (.v sh cs) (a.eval x) → (fzL cs fun fs ws=>argsL xs fun ps ws'=>f (⟨sh,fs⟩ :: ps) (ws ++ ws')).run s = some out →
    ∃ ps ws g',(f ps ws).run s = some out ∧ FzRel s (s1.app ws) ∧ Inv B U (s1.app ws) g' a w ∧ Grow g0 s1.mem s1.rows w g' (s1.app ws).mem (s1.app ws).rows w ∧ All2 (RepPV g'.own (rog g' w) w) ps ((x :: xs).map a.eval) ∧ g'.own = g0.own:=by
   intro sh cs hxr h
   obtain ⟨fs,ws,g1,h1,h2,h3,h4,h5,_,h7,_⟩:=fzL_sound hr hi h
   obtain ⟨ps,ws',g2,k1,k2,k3,k4,k5,k6⟩:=ih h2 hi0 g1 h3 (hg.trans h4) h1
   obtain ⟨vs,hv,hvs,_⟩:=hxr
   refine ⟨_,_,g2,k1,by rw [app_append];exact k2,by rw [app_append];exact k3,by rw [app_append];exact h4.trans k4,.cons ⟨vs,hv,?_⟩ k5,k6.trans h7⟩
   exact (h5 vs (hvs.imp (fun _ _ _ hq=>hg.c hq))).imp (fun _ _ _ hq=>k4.rep hq)
  split at h
  ·rename_i cs hx
   rw [hx] at hxr
   exact step _ cs hxr h
  ·rename_i cs hx
   rw [hx] at hxr
   exact step _ cs hxr h
  ·cases h
theorem inv_addrow (hi:Inv B U s g a w) {p:Nat} {r:Row} {v:Value} (hn:s.rows p = none) (hr:RowOk B.w0.heap.size { g with hd:=upd g.hd p v } w p r) (hU:r.l = 0 ∨ U r.l) :
  Inv B U (s.put (.row p (some r))) { g with hd:=upd g.hd p v } a w:=by
 have hG:Grow g s.mem s.rows w { g with hd:=upd g.hd p v } s.mem (upd s.rows p (some r)) w:=by
  refine ⟨fun b hb=>⟨hb,rfl,rfl⟩,fun _ h=>⟨h,rfl⟩,fun q r' hq=>?_⟩
  have hne:q ≠ p:=fun e=>by rw [e,hn] at hq;cases hq
  exact ⟨r',by simp only [upd];rw [if_neg hne];exact hq,rfl,Nat.le_refl _,fun _=>upd_ne hne⟩
 refine hi.lead hG rfl (Below.refl _ _) (fun d' b hb=>hG.box (hi.boxes d' b hb) rfl rfl rfl) (fun q r' hq=>?_) (fun b hb=>⟨rfl,rfl⟩) hi.new (fun q r' hq=>?_)
 ·simp only [AS.put,upd] at hq
  split at hq
  ·rename_i e
   subst e
   obtain rfl:=Option.some.inj hq
   exact hr
  ·rename_i e
   exact hG.row (hi.rows q r' hq) (upd_ne e) (fun b hb=>⟨rfl,rfl,rfl⟩)
 ·simp only [AS.put,upd] at hq
  split at hq
  ·obtain rfl:=Option.some.inj hq
   exact hU
  ·exact hi.labs q r' hq
theorem inv_called (hi:Inv B U s g a w) (hU:∀ l,U l → V l) {own' tg:Nat → Nat} (p1 p2:Nat) (ho:∀ b,b < w.heap.size → own' b = g.own b) (hn:∀ b,w.heap.size ≤ b → b < w'.heap.size → own' b = 0 ∨ V (own' b)) (hb:Below w.heap.size w w') :
  let g1:Gh:={ own:=own',tag:=fun b=>if b < w.heap.size then g.tag b else if tg b = 1 then .row p1 else if tg b = 2 then .row p2 else .ro,bx:=g.bx,hd:=g.hd }
  Inv B V s g1 a w' ∧ Grow g s.mem s.rows w g1 s.mem s.rows w':=by
 intro g1
 have hlt:∀ b,b < w.heap.size → g1.tag b = g.tag b:=fun b hb=>if_pos hb
 have hG:Grow g s.mem s.rows w g1 s.mem s.rows w' :=
  ⟨fun b hr=>⟨⟨by rw [hlt b hr.2];exact hr.1,Nat.lt_of_lt_of_le hr.2 hb.size⟩,ho b hr.2,hb.block b hr.2⟩,fun _ h=>⟨h,rfl⟩,fun p r h=>⟨r,h,rfl,Nat.le_refl _,fun _=>rfl⟩⟩
 refine ⟨hi.lead hG rfl (hb.mono hi.below.size) (fun d' b hbx=>?_) (fun p r hp=>?_) (fun b hb'=>?_) (fun b h1 h2=>?_) (fun p r hp=>(hi.labs p r hp).imp id (hU _)),hG⟩
 ·have hb':=hi.boxes d' b hbx
  obtain ⟨_,q,_⟩:=id hb'
  have hl:=(Array.getElem?_eq_some_iff.1 q).1
  exact hG.box hb' rfl (hlt _ hl) (hb.block _ hl)
 ·have hr:=hi.rows p r hp
  refine hG.row hr rfl (fun b hb'=>?_)
  obtain ⟨_,z,_⟩:=hr
  have hl:=(z.lt b hb').2
  exact ⟨ho b hl,hlt b hl,hb.block b hl⟩
 ·have hl:b < w.heap.size:=by have:=hi.below.size;omega
  exact ⟨ho b hl,hlt b hl⟩
 ·rcases Nat.lt_or_ge b w.heap.size with h|h
  ·show own' b = 0 ∨ V (own' b)
   rw [ho b h];exact (hi.new b h1 h).imp id (hU _)
  ·exact hn b h h2
theorem import_one (hi:Inv B U s g a w') {base:Nat} {own' tg:Nat → Nat} {p i l t:Nat} {es:List (List FV)} {v:Value} (hown:g.own = own') (hb0:B.w0.heap.size ≤ base) (hp:s.rows p = none)
  (htag:∀ b,tg b = i + 1 → base ≤ b → b < w'.heap.size → g.tag b = .row p) {ro:Nat → Prop} (hro:∀ b,(ro b ∨ (base ≤ b ∧ b < w'.heap.size)) → tg b = 0 → rog g w' b) (hr:RepRC own' ro w' base tg i (.own l t es) v) (hU:l = 0 ∨ U l) :
  Inv B U (s.put (.row p (some ⟨l,t,es,false⟩))) { g with hd:=upd g.hd p v } a w':=by
 obtain ⟨xs,h1,h2,h3⟩:=hr
 refine inv_addrow hi hp ⟨xs,?_,h2.imp (fun x u hx=>?_),fun b hb=>?_⟩ hU
 ·show w'.ownsRow _ t _ (upd g.hd p v p) _ _
  rw [upd_same]
  refine ⟨h1.1,?_⟩
  rcases h1.2 with h|⟨gg,cap,cur,e1,e2,r⟩
  ·exact .inl h
  ·exact .inr ⟨gg,cap,cur,e1,vG,r⟩
 ·rw [← hown] at hx
  exact hx.move (fun b hb=>⟨hro b hb.1 hb.2,rfl,rfl⟩)
 ·have hb':v.ownBlock = some b:=by rw [← hb];show _ = Value.ownBlock (upd g.hd p v p);rw [upd_same]
  obtain ⟨e1,e2⟩:=h3 b hb'
  refine ⟨by rw [← e1,← hown],?_⟩
  exact htag b e2 (h1.lt b hb').1 (h1.lt b hb').2
def importC1 (d j:Nat):RC → CV
 | .fv x=>.fv x
 | .own l t es=>if j < 2 then .own (1000 * (j + 1) + d) es.length else .fv (.row l t es)
theorem importC_get (d:Nat):∀ (cs:List RC) (j i:Nat),(importC d j cs)[i]? = (cs[i]?).map (importC1 d (j + i)):=by
 intro cs
 induction cs with
 | nil=>intro j i;simp [importC]
 | cons c cs ih =>
  intro j i
  cases c <;> cases i <;> simp [importC,importC1,ih,Nat.add_assoc,Nat.add_comm 1]
theorem importC_length (d:Nat):∀ (cs:List RC) (j:Nat),(importC d j cs).length = cs.length:=by
 intro cs
 induction cs with
 | nil=>intro j;rfl
 | cons c cs ih=>intro j;cases c <;> simp [importC,ih]
theorem import_rows {own' tg:Nat → Nat} {base:Nat} {ro:Nat → Prop} (hb0:B.w0.heap.size ≤ base) {vs:List Value}:∀ (cs:List RC) (j:Nat) (s:AS) (g:Gh),Inv B V s g a w' → g.own = own' →
  (∀ i,i < 2 → i < j + cs.length → j ≤ i → s.rows (1000 * (i + 1) + d) = none) → (∀ i b,tg b = i + 1 → base ≤ b → b < w'.heap.size → g.tag b = if i < 2 then .row (1000 * (i + 1) + d) else .ro) →
  (∀ b,(ro b ∨ (base ≤ b ∧ b < w'.heap.size)) → tg b = 0 → rog g w' b) → (∀ (i:Nat) c u,cs[i]? = some c → vs[j + i]? = some u → RepRC own' ro w' base tg (j + i) c u) → (∀ l t es,RC.own l t es ∈ cs → l = 0 ∨ V l) → vs.length = j + cs.length →
  ∃ g',Inv B V (s.app (importW d j cs)) g' a w' ∧ g'.own = own' ∧ g'.tag = g.tag ∧ (∀ p,s.rows p ≠ none → (s.app (importW d j cs)).rows p = s.rows p ∧ g'.hd p = g.hd p) ∧
   ∀ (i:Nat) c u,cs[i]? = some c → vs[j + i]? = some u → RepC g' (s.app (importW d j cs)).rows w' (importC1 d (j + i) c) u:=by
 intro cs
 induction cs with
 | nil=>intro j s g hi ho _ _ _ _ _ _;exact ⟨g,hi,ho,rfl,fun p hp=>⟨rfl,rfl⟩,fun i c u h=>by simp at h⟩
 | cons c cs ih =>
  intro j s g hi ho hn htag hro hrep hl hlen
  simp only [List.length_cons] at hlen
  have hv:∃ v,vs[j]? = some v:=⟨_,List.getElem?_eq_getElem tD⟩
  obtain ⟨v,hv⟩:=hv
  have hrep':∀ (i:Nat) c' u,cs[i]? = some c' → vs[j + 1 + i]? = some u → RepRC own' ro w' base tg (j + 1 + i) c' u:=fun i c' u h1 h2=>by
   rw [show j + 1 + i = j + (i + 1) from by omega] at h2 ⊢
   exact hrep (i + 1) c' u (by simpa using h1) h2
  have h0:=hrep 0 c v rfl (by simpa using hv)
  -- what the first cell does; then the others
  have rest:∀ (s1:AS) (g1:Gh),Inv B V s1 g1 a w' → g1.own = own' → g1.tag = g.tag → importW d j (c :: cs) = importW d j [c] ++ importW d (j + 1) cs → s1 = s.app (importW d j [c]) → (∀ p,s.rows p ≠ none → s1.rows p = s.rows p ∧ g1.hd p = g.hd p) → (∀ i,i < 2 → j + 1 ≤ i → s1.rows (1000 * (i + 1) + d) = s.rows (1000 * (i + 1) + d)) →
    RepC g1 s1.rows w' (importC1 d j c) v → (∀ g2 rows2,g2.own = own' → g2.tag = g.tag → (∀ p,s1.rows p ≠ none → rows2 p = s1.rows p ∧ g2.hd p = g1.hd p) → RepC g2 rows2 w' (importC1 d j c) v) →
    ∃ g',Inv B V (s.app (importW d j (c :: cs))) g' a w' ∧ g'.own = own' ∧ g'.tag = g.tag ∧ (∀ p,s.rows p ≠ none → (s.app (importW d j (c :: cs))).rows p = s.rows p ∧ g'.hd p = g.hd p) ∧
     ∀ (i:Nat) c' u,(c :: cs)[i]? = some c' → vs[j + i]? = some u → RepC g' (s.app (importW d j (c :: cs))).rows w' (importC1 d (j + i) c') u:=by
   intro s1 g1 i1 i2 i3 i4 i5 i6 i7 i8 i9
   obtain ⟨g',q1,q2,q3,q4,q5⟩:=ih (j + 1) s1 g1 i1 i2 (fun i h1 h2 h3=>by rw [i7 i h1 h3];exact hn i h1 (by simp only [List.length_cons];omega) tD) (by rw [i3];exact htag) (fun b h1 h2=>by have:=hro b h1 h2;exact ⟨by rw [i3];exact this.1,this.2⟩) hrep' (fun l t es h=>hl l t es (by simp [h])) tD
   refine ⟨g',by rw [i4,app_append,← i5];exact q1,q2,by rw [q3,i3],fun p hp=>?_,fun i c' u h1 h2=>?_⟩
   ·have:=i6 p hp
    have h:=q4 p (by rw [this.1];exact hp)
    exact ⟨by rw [i4,app_append,← i5,h.1,this.1],by rw [h.2,this.2]⟩
   ·rw [i4,app_append,← i5]
    cases i with
    | zero =>
     simp at h1
     subst h1
     rw [Nat.add_zero] at h2 ⊢
     rw [hv] at h2
     obtain rfl:=Option.some.inj h2
     exact i9 g' _ q2 (by rw [q3,i3]) q4
    | succ i =>
     rw [show j + (i + 1) = j + 1 + i from by omega] at h2 ⊢
     exact q5 i c' u (by simpa using h1) h2
  cases c with
  | fv x =>
   have key:∀ g2:Gh,g2.own = own' → g2.tag = g.tag → Rep g2.own (rog g2 w') w' x v:=fun g2 e1 e2=>by
    rw [e1]
    exact Rep.move h0 (fun b hb=>⟨by have:=hro b hb.1 hb.2;exact ⟨by rw [e2];exact this.1,this.2⟩,rfl,rfl⟩)
   exact rest s g hi ho rfl rfl rfl (fun p hp=>⟨rfl,rfl⟩) (fun i _ _=>rfl) (key g ho rfl) (fun g2 _ e1 e2 _=>key g2 e1 e2)
  | own l t es =>
   have hlV:=hl l t es te
   by_cases hj:j < 2
   ·have hn0:=hn j hj (by simp only [List.length_cons];omega) (Nat.le_refl _)
    have h1:=import_one (i:=j) hi ho hb0 hn0 (fun b e1 e2 e3=>by rw [htag j b e1 e2 e3,if_pos hj]) hro h0 hlV
    have eW:importW d j [RC.own l t es] = [.row (1000 * (j + 1) + d) (some ⟨l,t,es,false⟩)]:=by simp [importW,hj]
    have hone:v.oneCell' = true:=by
     obtain ⟨xs,h2,_⟩:=h0
     obtain ⟨A,cap,e,_⟩:=owns_slice h2
     rw [e];rfl
    have hne:∀ p,s.rows p ≠ none → p ≠ 1000 * (j + 1) + d:=fun p hp e=>hp (e ▸ hn0)
    refine rest _ _ h1 ho rfl (by simp [importW,hj]) (by rw [eW];rfl) (fun p hp=>⟨upd_ne (hne p hp),upd_ne (hne p hp)⟩) (fun i h2 h3=>upd_ne tD) ?_ (fun g2 rows2 e1 e2 e3=>?_)
    ·simp only [importC1,if_pos hj]
     exact ⟨_,upd_same _ _ _,Nat.le_refl _,fun _=>(upd_same _ _ _).symm,hone⟩
    ·simp only [importC1,if_pos hj]
     have:=e3 (1000 * (j + 1) + d) (by simp [AS.put,upd])
     refine ⟨_,this.1.trans (upd_same _ _ _),Nat.le_refl _,fun _=>?_,hone⟩
     rw [this.2]
     exact (upd_same _ _ _).symm
   ·have key:∀ g2:Gh,g2.own = own' → g2.tag = g.tag → Rep g2.own (rog g2 w') w' (.row l t es) v:=fun g2 e1 e2=>by
     obtain ⟨xs,h2,h3,h4⟩:=h0
     have:=row_rep (n0:=base) (g:={ g2 with hd:=upd g2.hd 0 v }) (w:=w') (p:=0) (r:=⟨l,t,es,true⟩) ⟨xs,by show w'.ownsRow base t _ (upd g2.hd 0 v 0) _ _;rw [upd_same];exact h2,h3.imp (fun x u hx=>by
       rw [show ({ g2 with hd:=upd g2.hd 0 v }:Gh).own = own' from e1]
       exact hx.move (fun b hb=>⟨by have:=hro b hb.1 hb.2;exact ⟨by show g2.tag b = _;rw [e2];exact this.1,this.2⟩,rfl,rfl⟩)),fun b hb=>?_⟩ (fun b hb=>?_)
     ·simp only [upd_same] at this
      exact this
     ·have hb':v.ownBlock = some b:=by simpa [upd_same] using hb
      obtain ⟨q1,q2⟩:=h4 b hb'
      exact ⟨by show g2.own b = l;rw [e1];exact q1,by show g2.tag b = .ro;rw [e2,htag j b q2 (h2.lt b hb').1 (h2.lt b hb').2,if_neg hj]⟩
     ·have hb':v.ownBlock = some b:=by simpa [upd_same] using hb
      obtain ⟨q1,q2⟩:=h4 b hb'
      show g2.tag b = .ro
      rw [e2,htag j b q2 (h2.lt b hb').1 (h2.lt b hb').2,if_neg hj]
    refine rest s g hi ho rfl (by simp [importW,hj]) (by simp [importW,hj,AS.app]) (fun p hp=>⟨rfl,rfl⟩) (fun i _ _=>rfl) ?_ (fun g2 rows2 e1 e2 _=>?_)
    ·simp only [importC1,if_neg hj];exact key g ho rfl
    ·simp only [importC1,if_neg hj];exact key g2 e1 e2
theorem s_call {f:Nat} {ps:List PV} {gf:RV → List W} {r:RV} (c:Call) (hop:o.op = .call c) (h:(semD o.op d k).run s = some (.call f ps gf)) (hs:SemCall f ps k r k') (hi:Inv B U s g a w) (hdst:o.dst = some d) (hdN:d < B.N)
  (hfree:∀ b,b < w.heap.size → ¬ (k ≤ g.own b ∧ g.own b < k'))
  (hK:∀ g' a' w',Inv B (Un U k k') (s.app (gf r)) g' a' w' → K a' w'):o.wp Try.prog a w K Q:=by
 rw [hop] at h
 simp only [semD] at h
 split at h
 ·split at h
  ·rcases ite_run h with ⟨_,h⟩|⟨_,h⟩
   ·cases h
   ·rw [evO_run] at h
    split at h
    ·cases h
    ·obtain ⟨_,_,_,h⟩:=rowO_run h;cases h
    ·cases h
    ·cases h
  ·cases h
 ·split at h
  ·split at h
   ·obtain ⟨_,h⟩:=if_run h
    rw [evO_run,evO_run] at h
    obtain ⟨_,_,h,_⟩:=readA_run hi h
    obtain ⟨_,h⟩:=if_run h
    split at h
    ·obtain ⟨_,h⟩:=if_run h
     simp only [M.run] at h
     obtain ⟨_,h⟩:=if_run h
     cases h
    ·obtain ⟨_,_,_,h⟩:=rowO_run h
     rcases ite_run h with ⟨_,h⟩|⟨_,h⟩
     ·cases h
     obtain ⟨_,h⟩:=if_run h
     obtain ⟨_,h⟩:=if_run h
     cases h
    ·cases h
   ·cases h
  ·cases h
 ·rename_i f' hcallee
  simp only [M.run] at h
  obtain ⟨hnn,h⟩:=if_run h
  simp only [Bool.and_eq_true] at hnn
  obtain ⟨ps',ws',g2,h1,h2,h3,h4,h5,h6⟩:=argsL_run (FzRel.refl s) hi g hi Grow.refl h
  simp only [M.run,Option.some.injEq,Out.call.injEq] at h1
  obtain ⟨rfl,rfl,rfl⟩:=h1
  obtain ⟨hkk,⟨fn,hf,hname,hbody⟩,hsh1,hsh2,hlab,hsem⟩:=hs
  have hfr:∀ q,s.rows q = none → (s.app ws').rows q = none:=fun q hq=>by
   rcases h2.2.2 q with e|⟨r',e,_⟩
   ·rw [e];exact hq
   ·rw [hq] at e;cases e
  have hname' : ¬ fn.name = "runtime.NumGoroutine" := by simpa using hname
  have hbody':¬ fn.body = none:=by cases hq:fn.body <;> simp_all
  unfold Oper.wp
  have hrun:(execOp a.eval o).run Try.prog w = .ok (.enter f' (c.args.map a.eval)) w:=by
   simp [execOp,hop,resolve,hcallee,Act.eval,Deferred.ofValue,invoke,callFunc,program,Sem.run,hf,hname',hbody']
  rw [hrun]
  show Calls Try.prog f' (c.args.map a.eval) w _
  have hargs:(c.args.toList.map a.eval).toArray = c.args.map a.eval:=by rw [← Array.toList_map,Array.toArray_toList]
  rw [← hargs]
  refine Calls.mono (hsem g2.own (rog g2 w) w (c.args.toList.map a.eval) ?_ (fun b hb=>hb.2) h5) ?_
  ·rw [h6];exact hfree
  ·rintro e w' ⟨v,own',tg,rfl,e1,e2,e3,⟨vs,hv,hvl,hvr⟩,hb⟩
   obtain ⟨i1,i2⟩:=inv_called (V:=Un U k k') (tg:=tg) h3 (fun _ h=>.inl h) (1000 * (0 + 1) + d) (1000 * (1 + 1) + d) e1 (fun b q1 q2=>(e2 b q1 q2).imp id .inr) hb
   have hA:∀ i,i < 2 → i < 0 + r.cs.length → 0 ≤ i → (s.app ws').rows (1000 * (i + 1) + d) = none:=fun i q1 _ _=>by
    match i,q1 with
    | 0,_=>exact hfr _ (isNone_eq hnn.1)
    | 1,_=>exact hfr _ (isNone_eq hnn.2)
   have hB:∀ i b,tg b = i + 1 → w.heap.size ≤ b → b < w'.heap.size → (if b < w.heap.size then g2.tag b else if tg b = 1 then Tag.row (1000 * (0 + 1) + d) else if tg b = 2 then .row (1000 * (1 + 1) + d) else .ro) = if i < 2 then Tag.row (1000 * (i + 1) + d) else .ro:=fun i b q1 q2 q3=>by
    rw [if_neg tD]
    match i with
    | 0=>rw [if_pos tD];rfl
    | 1=>rw [if_neg tD,if_pos tD];rfl
    | n + 2=>rw [if_neg tD,if_neg tD,if_neg tD]
   have hC:∀ b,(rog g2 w b ∨ (w.heap.size ≤ b ∧ b < w'.heap.size)) → tg b = 0 → (if b < w.heap.size then g2.tag b else if tg b = 1 then Tag.row (1000 * (0 + 1) + d) else if tg b = 2 then .row (1000 * (1 + 1) + d) else .ro) = .ro ∧ b < w'.heap.size:=fun b q1 q2=>by
    rcases q1 with q1|q1
    ·exact ⟨by rw [if_pos q1.2];exact q1.1,Nat.lt_of_lt_of_le q1.2 hb.size⟩
    ·exact ⟨by rw [if_neg tD,if_neg tD,if_neg tD],q1.2⟩
   obtain ⟨g',j1,j2,j3,j4,j5⟩:=import_rows (d:=d) (own':=own') (tg:=tg) (base:=w.heap.size) (ro:=rog g2 w) h3.below.size (vs:=vs) r.cs 0 _ _ i1 rfl hA hB hC (fun i c u q1 q2=>by
     rw [Nat.zero_add] at q2 ⊢;exact hvr i c u q1 q2) (fun l t es q=>(hlab l t es q).imp id .inr) (by rw [Nat.zero_add];exact hvl)
   show K (a.put o.dst v) w'
   rw [hdst]
   have hK':=hK
   simp only [importR] at hK'
   rw [← List.append_assoc,app_append,app_append] at hK'
   refine hK' g' _ _ (j1.tmp hdN ⟨vs,hv,All2.of_get (by rw [importC_length];exact hvl.symm) (fun i c u q1 q2=>?_),fun h=>by rw [importC_length];exact hsh1 h,fun h q=>absurd ?_ (hsh2 h)⟩)
   ·rw [importC_get] at q1
    cases hq:r.cs[i]? with
    | none=>rw [hq] at q1;cases q1
    | some c' =>
     rw [hq] at q1
     obtain rfl:=Option.some.inj q1
     exact j5 i c' u hq (by rw [Nat.zero_add];exact q2)
   ·have:=congrArg List.length q
    rw [importC_length] at this
    exact List.eq_nil_of_length_eq_zero this
 ·cases h
end
end Go.Proofs.Ytamjbjkbineafaa.Ev

namespace Go.Proofs.Ytamjbjkbineafaa.Ev
open Go Go.RowKit
set_option linter.unusedVariables false
set_option linter.unusedSimpArgs false
section
variable {B:Base} {U V:Nat → Prop} {s s1:AS} {g:Gh} {a:Act} {w w':World} {o:Oper} {d k k':Nat} {ws:List W} {K:Act → World → Prop} {Q:Exit → Act → World → Prop}
theorem callR {f:Nat} {ps:List PV} {gf:RV → List W} {xs:List Operand} {h0:List PV → List W → M Out} (hh:∀ p q,∃ x y z,h0 p q = .ret (.call x y z)):∀ {s:AS},(argsL xs h0).run s ≠ some (.done ws k'):=by
 induction xs generalizing h0 with
 | nil=>intro s h;obtain ⟨x,y,z,e⟩:=hh [] [];simp only [argsL] at h;rw [e] at h;cases h
 | cons x xs ih =>
  intro s h
  simp only [argsL] at h
  rw [evO_run] at h
  have key:∀ (sh:Sh) (cs:List CV) (ws0:List W) (fs0:List FV),(fzL cs fun fs ws=>argsL xs fun ps ws'=>h0 (⟨sh,fs0 ++ fs⟩ :: ps) (ws0 ++ ws ++ ws')).run s ≠ some (.done ws k'):=by
   intro sh cs
   induction cs with
   | nil=>intro ws0 fs0;simp only [fzL];exact ih (fun p q=>hh _ _)
   | cons c cs ihc =>
    intro ws0 fs0 h
    simp only [fzL] at h
    cases c with
    | fv x =>
     simp only [fzC] at h
     refine ihc ws0 (fs0 ++ [x]) ?_
     simpa using h
    | own p n =>
     simp only [fzC] at h
     obtain ⟨r,_,_,h⟩:=rowO_run h
     refine ihc (ws0 ++ fzW p r) (fs0 ++ [.row r.l r.t r.es]) ?_
     simpa using h
  split at h
  ·exact key .one _ [] [] (by simpa using h)
  ·exact key .agg _ [] [] (by simpa using h)
  ·cases h
theorem semD_done (h:(semD o.op d k).run s = some (.done ws k')) (hi:Inv B U s g a w) (hdst:o.dst = some d) (hdN:d < B.N)
  (hK:∀ g' a' w',Inv B (Un U k k') (s.app ws) g' a' w' → K a' w'):o.wp Try.prog a w K Q:=by
 cases hop:o.op with
 | move x=>exact s_move x (.inl hop) (by rw [hop] at h;exact h) hi hdst hdN hK
 | assign x=>exact s_move x (.inr hop) (by rw [hop] at h;exact h) hi hdst hdN hK
 | pick c x y=>exact s_pick c x y hop h hi hdst hdN hK
 | unOp u t x =>
  cases u with
  | not=>exact s_not t x hop h hi hdst hdN hK
  | _=>rw [hop] at h;cases h
 | binOp op t x y t'=>exact s_bin op t t' x y hop h hi hdst hdN hK
 | extract x i=>exact s_extract x i hop h hi hdst hdN hK
 | alloc t=>exact s_alloc t hop h hi hdst hdN hK
 | box t x=>exact s_box t x hop h hi hdst hdN hK
 | build t ps=>exact s_build t ps hop h hi hdst hdN hK
 | buildSlice t n ps=>exact s_buildSlice t n ps hop h hi hdst hdN hK
 | load t x=>exact s_load t x hop h hi hdst hdN hK
 | fieldAddr t x f=>exact s_fieldAddr t x f hop h hi hdst hdN hK
 | indexAddr t x i=>exact s_indexAddr t x i hop h hi hdst hdN hK
 | slice t x lo hi_ mx=>exact s_slice t x lo hi_ mx hop h hi hdst hdN hK
 | call c =>
  cases hc:c.callee with
  | builtin b =>
   cases b with
   | len=>exact s_len c hop hc h hi hdst hdN hK
   | append=>exact s_append c hop hc h hi hdst hdN hK
   | _=>rw [hop] at h;simp only [semD,hc] at h;cases h
  | value f =>
   cases f with
   | func f =>
    rw [hop] at h
    simp only [semD,hc,M.run] at h
    obtain ⟨_,h⟩:=if_run h
    exact absurd h (callR (f:=f) (ps:=[]) (gf:=fun _=>[]) (fun p q=>⟨_,_,_,rfl⟩))
   | _=>rw [hop] at h;simp only [semD,hc] at h;cases h
  | invoke r m=>rw [hop] at h;simp only [semD,hc] at h;cases h
 | _=>rw [hop] at h;cases h
theorem boolA_val {t:Nat} {b:Bool} (hi:Inv B U s g a w) (h:s.tm t = litA (.bool b)):a.tmps[t]? = some (.bool b):=by
 have h1:=hi.tms t
 rw [h] at h1
 have h2:=repA_lit h1
 rw [Array.getD_eq_getD_getElem?] at h2
 cases hq:a.tmps[t]? with
 | none=>rw [hq] at h2;cases h2
 | some v=>rw [hq] at h2;simp at h2;rw [h2]
theorem guardA_run {α:Type} {x:AV} {f:Option Bool → M α} {r:α} (h:(guardA x f).run s = some r):∃ b,((∃ c,x = litA (.bool c) ∧ b = some c) ∨ (x = .v .pr [] ∧ b = none)) ∧ (f b).run s = some r:=by
 unfold guardA at h
 split at h
 ·exact ⟨_,.inl ⟨_,rfl,rfl⟩,h⟩
 ·exact ⟨_,.inr ⟨rfl,rfl⟩,h⟩
 ·cases h
theorem step_sound {ops:Array Oper} {i:Nat} {s':AS} {rd wr:List Loc} (ho:ops[i]? = some o) (h:Step1 ops o k s k' s' rd wr) (hi:Inv B U s g a w) (hN:∀ d,o.dst = some d → d < B.N)
  (hfree:∀ b,b < w.heap.size → ¬ (k ≤ g.own b ∧ g.own b < k')) (hK:∀ g' a' w',Inv B (Un U k k') s' g' a' w' → K a' w'):wpOp Try.prog ops Q i K a w:=by
 unfold wpOp
 simp only [ho]
 -- the operation is carried out
 have go:∀ {out:Out},(sem0 o k).run s = some out → (∀ ws,out = .done ws k' → s' = s.app ws) → (∀ f ps gf,out = .call f ps gf → ∃ r,SemCall f ps k r k' ∧ s' = s.app (gf r) ∧ isCall o = true) → (∃ ws,out = .done ws k') ∨ (∃ f ps gf,out = .call f ps gf) → o.wp Try.prog a w K Q:=by
  intro out h1 h2 h3 h4
  rcases h4 with ⟨ws,rfl⟩|⟨f,ps,gf,rfl⟩
  ·obtain rfl:=h2 ws rfl
   unfold sem0 at h1
   split at h1
   ·rename_i d hd
    exact semD_done h1 hi hd (hN d hd) hK
   ·rename_i hd
    cases hop:o.op with
    | store t x y=>exact s_store t x y hop h1 hi hd hK
    | _=>rw [hop] at h1;cases h1
  ·obtain ⟨r,hs,rfl,hic⟩:=h3 f ps gf rfl
   unfold isCall at hic
   split at hic
   ·rename_i c d hop hd
    unfold sem0 at h1
    rw [hd] at h1
    exact s_call c hop h1 hs hi hd (hN d hd) hfree hK
   ·cases hic
 -- or left out
 have out_:∀ {ws:List W},ws = dropW o → k' = k → s' = s.app ws → K (a.put o.dst undef) w:=by
  rintro ws rfl rfl rfl
  unfold dropW at hK
  cases hd:o.dst with
  | none =>
   rw [hd] at hK
   exact hK g a w (hi.weakU (fun _ h=>.inl h))
  | some d =>
   rw [hd] at hK
   exact hK g _ w ((hi.tmp (hN d hd) (x:=.v .pr []) (v:=undef) ⟨[],rfl,.nil,fun e=>(by cases e),fun _ _=>rfl⟩).weakU (fun _ h=>.inl h))
 have main:∀ {out:Out},(sem ops o k).run s = some out → (∀ ws,out = .done ws k' → s' = s.app ws) → (∀ f ps gf,out = .call f ps gf → ∃ r,SemCall f ps k r k' ∧ s' = s.app (gf r) ∧ isCall o = true) → (∃ ws,out = .done ws k') ∨ (∃ f ps gf,out = .call f ps gf) →
   if Region.wanted o (yielded ops a.tmps) = true then o.wp Try.prog a w K Q ∨ (o.asks Try.prog a w ∧ LetsOut Q) else K (a.put o.dst undef) w:=by
  intro out h1 h2 h3 h4
  unfold sem at h1
  split at h1
  ·rename_i hg
   rw [if_pos (by simp [Region.wanted,hg])]
   exact .inl (go h1 h2 h3 h4)
  ·rename_i j want hg
   split at h1
   ·cases h1
   ·rename_i t ht
    simp only [M.run] at h1
    obtain ⟨b,hb,h1⟩:=guardA_run h1
    have hy:yielded ops a.tmps j = b:=by
     rcases hb with ⟨c,hb,rfl⟩|⟨hb,rfl⟩
     ·have hv:=boolA_val hi hb
      simp only [yielded,ht,Option.bind_some,hv]
     ·have h1:=hi.tms t
      rw [hb] at h1
      obtain ⟨vs,h1,_,_,h2⟩:=h1
      have h3:=h2 rfl rfl
      rw [Array.getD_eq_getD_getElem?] at h3
      simp only [yielded,ht,Option.bind_some]
      cases hq:a.tmps[t]? with
      | none=>rfl
      | some v=>rw [hq] at h3;simp at h3;rw [h3];rfl
    rcases ite_run h1 with ⟨e,h1⟩|⟨e,h1⟩
    ·rw [if_pos (by simp [Region.wanted,hg,hy,e])]
     exact .inl (go h1 h2 h3 h4)
    ·rw [if_neg (by simp [Region.wanted,hg,hy,e])]
     simp only [M.run,Option.some.injEq] at h1
     subst h1
     rcases h4 with ⟨ws,e4⟩|⟨_,_,_,e4⟩
     ·injection e4 with e5 e6
      exact out_ e5.symm e6.symm (h2 ws (by rw [e5,e6]))
     ·cases e4
 cases h with
 | done hk h=>exact main h (fun ws e=>by injection e with e1 e2;rw [e1]) (fun _ _ _ e=>by cases e) (.inl ⟨_,rfl⟩)
 | call hop h hc=>exact main h (fun _ e=>by cases e) (fun f ps gf e=>by injection e with e1 e2 e3;subst e1 e2 e3;exact ⟨_,hc,rfl,hop⟩) (.inr ⟨_,_,_,rfl⟩)
end
end Go.Proofs.Ytamjbjkbineafaa.Ev

namespace Go.Proofs.Ytamjbjkbineafaa.Ev
open Go Go.RowKit
set_option linter.unusedVariables false
set_option linter.unusedSimpArgs false
/-- The labels of one after the other. -/
inductive Chain:Nat → List It → Nat → Prop
 | nil (k:Nat):Chain k [] k
 | cons {it:It} {L:List It} {k:Nat} (h:Kok it.k it.k') (t:Chain it.k' L k):Chain it.k (it :: L) k
def InR (it:It) (l:Nat):Prop:=it.k ≤ l ∧ l < it.k'
theorem Chain.le {k k':Nat} {L:List It} (h:Chain k L k'):k ≤ k':=by
 induction h with
 | nil=>exact Nat.le_refl _
 | cons h _ ih=>have:=h.1;omega
theorem Chain.kok {k k':Nat} {L:List It} (h:Chain k L k'):(k = 0 → k' = 0) ∧ ∀ it ∈ L,Kok it.k it.k':=by
 induction h with
 | nil=>exact ⟨id,fun it h=>by cases h⟩
 | cons h _ ih=>exact ⟨fun e=>ih.1 (h.2 e),fun x hx=>by
   rcases List.mem_cons.1 hx with rfl|hx
   ·exact h
   ·exact ih.2 x hx⟩
theorem Chain.within {k k':Nat} {L:List It} (h:Chain k L k'):∀ it ∈ L,k ≤ it.k ∧ it.k ≤ it.k' ∧ it.k' ≤ k':=by
 induction h with
 | nil=>intro it h;cases h
 | cons h t ih =>
  intro x hx
  have:=t.le
  have:=h.1
  rcases List.mem_cons.1 hx with rfl|hx
  ·exact ⟨Nat.le_refl _,vG,vG⟩
  ·have:=ih x hx;omega
theorem Chain.apart {k k':Nat} {L:List It} (h:Chain k L k'):L.Pairwise fun x y=>∀ l,InR x l → ¬ InR y l:=by
 induction h with
 | nil=>exact .nil
 | cons h t ih =>
  refine .cons (fun y hy l h1 h2=>?_) ih
  have:=t.within y hy
  have:=h.1
  unfold InR at h1 h2
  omega
section
variable {B:Base} {Q:Exit → Act → World → Prop} {ops:Array Oper} {k0 k1:Nat}
/-- Labels from k0 to k1 are nobody's when the call begins. -/
def Hold (B:Base) (k0 k1:Nat):Prop:=∀ b,b < B.w0.heap.size → ¬ (k0 ≤ B.own0 b ∧ B.own0 b < k1)
theorem free_of {U:Nat → Prop} {s:AS} {g:Gh} {a:Act} {w:World} (hi:Inv B U s g a w) (hh:Hold B k0 k1) {it:It} (hko:Kok it.k it.k') (h1:k0 ≤ it.k) (h2:it.k' ≤ k1) (hu:∀ l,U l → ¬ InR it l):∀ b,b < w.heap.size → ¬ (it.k ≤ g.own b ∧ g.own b < it.k'):=by
 intro b hb hc
 rcases Nat.lt_or_ge b B.w0.heap.size with h|h
 ·rw [(hi.old b h).1] at hc
  exact hh b h ⟨vG,vG⟩
 ·rcases hi.new b h hb with e|e
  ·have:=hko.2;omega
  ·exact hu _ e hc
theorem seq_sound (hh:Hold B k0 k1) (hN:∀ (i:Nat) o d,ops[i]? = some o → o.dst = some d → d < B.N) {V:Nat → Prop}:∀ {L:List It} {s sf:AS} {U:Nat → Prop} {g:Gh} {a:Act} {w:World},RunL ops L s sf → Inv B U s g a w →
  (∀ it ∈ L,Kok it.k it.k' ∧ k0 ≤ it.k ∧ it.k' ≤ k1) → (∀ it ∈ L,∀ l,U l → ¬ InR it l) → (L.Pairwise fun x y=>∀ l,InR x l → ¬ InR y l) → (∀ l,U l → V l) → (∀ it ∈ L,∀ l,InR it l → V l) →
  (∀ g a w,Inv B V sf g a w → Q .normal a w) → wpOps Try.prog ops Q (L.map (·.i)) a w:=by
 intro L
 induction L with
 | nil =>
  intro s sf U g a w hr hi _ _ _ hv _ hQ
  cases hr
  exact hQ g a w (hi.weakU hv)
 | cons it L ih =>
  intro s sf U g a w hr hi h1 h2 h3 hv hv2 hQ
  cases hr with
  | cons ho hs ht =>
   rw [List.map_cons,wpOps_cons]
   have hk:=h1 it te
   refine step_sound ho hs hi (fun d hd=>hN _ _ d ho hd) (free_of hi hh hk.1 hk.2.1 hk.2.2 (h2 it te)) (fun g' a' w' hi'=>?_)
   refine ih ht hi' (fun x hx=>h1 x (by simp [hx])) (fun x hx l hl=>?_) (List.pairwise_cons.1 h3).2 (fun l hl=>?_) (fun x hx=>hv2 x (by simp [hx])) hQ
   ·rcases hl with hl|hl
    ·exact h2 x (by simp [hx]) l hl
    ·exact (List.pairwise_cons.1 h3).1 x hx l hl
   ·rcases hl with hl|hl
    ·exact hv l hl
    ·exact hv2 it te l hl
def freeB (x y:It):Bool:=(x.wr.all fun l=>!(y.rd.contains l) && !(y.wr.contains l)) && y.wr.all fun l=>!(x.rd.contains l)
def indep (BL:List Nat):List It → Bool
 | []=>true
 | x :: L=>(L.all fun y=>(BL.getD y.i 0).testBit x.i || freeB x y) && indep BL L
def okB (ops:Array Oper) (BL:List Nat):Bool :=
 (List.range ops.size).all fun i=>match ops[i]? with
  | none=>true
  | some o=>(o.after.all fun e=>!Region.binds .any e || decide (e.on < i)) &&
   (List.range ops.size).all fun j=>!((BL.getD i 0).testBit j) || o.after.any fun e=>Region.binds .any e && (e.on == j || (BL.getD e.on 0).testBit j)
theorem freeB_spec {x y:It} (h:freeB x y = true):Free x.rd x.wr y.rd y.wr:=by
 simp only [freeB,Bool.and_eq_true,List.all_eq_true,Bool.not_eq_true'] at h
 exact ⟨fun l hl=>⟨by have:=(h.1 l hl).1;simpa using this,by have:=(h.1 l hl).2;simpa using this⟩,fun l hl=>by have:=h.2 l hl;simpa using this⟩
theorem indep_spec {BL:List Nat}:∀ {L:List It},indep BL L = true → L.Pairwise fun x y=>(BL.getD y.i 0).testBit x.i = false → Free x.rd x.wr y.rd y.wr:=by
 intro L
 induction L with
 | nil=>intro _;exact .nil
 | cons x L ih =>
  intro h
  simp only [indep,Bool.and_eq_true,List.all_eq_true,Bool.or_eq_true] at h
  refine .cons (fun y hy hb=>?_) (ih h.2)
  rcases h.1 y hy with h1|h1
  ·rw [hb] at h1;cases h1
  ·exact freeB_spec h1
theorem okB_spec {BL:List Nat} (h:okB ops BL = true) {i:Nat} {o:Oper} (ho:ops[i]? = some o) :
  (∀ e ∈ o.after,Region.binds .any e = true → e.on < i) ∧ ∀ j,j < ops.size → (BL.getD i 0).testBit j = true → ∃ e ∈ o.after,Region.binds .any e = true ∧ (e.on = j ∨ (BL.getD e.on 0).testBit j = true):=by
 have hlt:=(Array.getElem?_eq_some_iff.1 ho).1
 simp only [okB,List.all_eq_true,List.mem_range] at h
 have h1:=h i hlt
 simp only [ho,Bool.and_eq_true,List.all_eq_true,List.mem_range,Bool.or_eq_true,Bool.not_eq_true'] at h1
 refine ⟨fun e he hb=>?_,fun j hj hb=>?_⟩
 ·have:=(Array.all_eq_true_iff_forall_mem.1 h1.1) e he
  simp only [Bool.or_eq_true,Bool.not_eq_true',decide_eq_true_eq] at this
  rcases this with this|this
  ·rw [hb] at this;cases this
  ·exact this
 ·rcases h1.2 j hj with h2|h2
  ·rw [hb] at h2;cases h2
  ·obtain ⟨e,he,h3⟩:=Array.any_eq_true'.1 h2
   simp only [Bool.and_eq_true,Bool.or_eq_true,beq_iff_eq] at h3
   exact ⟨e,he,h3.1,h3.2⟩
def Closed (ops:Array Oper) (listed:Array Bool):Prop:=∀ (j:Nat) o,ops[j]? = some o → listed.getD j false = true → ∀ e ∈ o.after,Region.binds .any e = true → listed.getD e.on false = true
theorem waits_listed {BL:List Nat} (hB:okB ops BL = true) {listed:Array Bool} (hs:listed.size = ops.size) (hc:Closed ops listed):∀ (i:Nat) o,ops[i]? = some o → (∀ e ∈ o.after,Region.binds .any e = true → listed.getD e.on false = true) →
  ∀ j,j < ops.size → (BL.getD i 0).testBit j = true → listed.getD j false = true:=by
 intro i
 induction i using Nat.strongRecOn with
 | _ i ih =>
  intro o ho hl j hj hb
  obtain ⟨h1,h2⟩:=okB_spec hB ho
  obtain ⟨e,he,hbi,h3⟩:=h2 j hj hb
  have hle:=hl e he hbi
  rcases h3 with rfl|h3
  ·exact hle
  ·have hlt:=h1 e he hbi
   have hsz:e.on < ops.size:=by have:=(Array.getElem?_eq_some_iff.1 ho).1;omega
   exact ih e.on hlt _ (Array.getElem?_eq_getElem hsz) (hc e.on _ (Array.getElem?_eq_getElem hsz) hle) j hj h3
theorem getD_true_false {listed:Array Bool} {j:Nat} (hj:j < listed.size):listed.getD j true = false ↔ listed.getD j false = false:=by
 simp [hj]
theorem pairwise_mid {α:Type} {R:α → α → Prop} {L1 L2:List α} {y:α} (h:(L1 ++ y :: L2).Pairwise R):(L1 ++ L2).Pairwise R ∧ ∀ x ∈ L1,R x y:=by
 rw [List.pairwise_append] at h ⊢
 obtain ⟨h1,h2,h3⟩:=h
 exact ⟨⟨h1,(List.pairwise_cons.1 h2).2,fun x hx z hz=>h3 x hx z (by simp [hz])⟩,fun x hx=>h3 x hx y te⟩
theorem any_sound {BL:List Nat} (hB:okB ops BL = true) (hh:Hold B k0 k1) (hN:∀ (i:Nat) o d,ops[i]? = some o → o.dst = some d → d < B.N) {V:Nat → Prop}:∀ (n:Nat) {L:List It} {s sf:AS} {U:Nat → Prop} {g:Gh} {a:Act} {w:World} {listed:Array Bool},L.length = n → RunL ops L s sf → Inv B U s g a w →
  (∀ it ∈ L,Kok it.k it.k' ∧ k0 ≤ it.k ∧ it.k' ≤ k1) → (∀ it ∈ L,∀ l,U l → ¬ InR it l) → (L.Pairwise fun x y=>∀ l,(InR x l → ¬ InR y l) ∧ (InR y l → ¬ InR x l)) → (∀ l,U l → V l) → (∀ it ∈ L,∀ l,InR it l → V l) →
  (L.Pairwise fun x y=>(BL.getD y.i 0).testBit x.i = false → Free x.rd x.wr y.rd y.wr) → listed.size = ops.size → Closed ops listed → (∀ i,i < ops.size → (listed.getD i false = false ↔ ∃ it ∈ L,it.i = i)) → (L.Pairwise fun x y=>x.i ≠ y.i) → (∀ it ∈ L,it.i < ops.size) →
  (∀ g a w,Inv B V sf g a w → Q .normal a w) → wpAny Try.prog .any ops Q n listed a w:=by
 intro n
 induction n with
 | zero =>
  intro L s sf U g a w listed hn hr hi _ _ _ hv _ _ hls hc hiff _ _ hQ
  have hL:L = []:=List.eq_nil_of_length_eq_zero hn
  subst hL
  cases hr
  refine ⟨List.eq_nil_iff_forall_not_mem.2 (fun i hm=>?_),hQ g a w (hi.weakU hv)⟩
  obtain ⟨h1,o,ho,_⟩:=mem_ready.1 hm
  have hlt:=(Array.getElem?_eq_some_iff.1 ho).1
  obtain ⟨it,hit,_⟩:=(hiff i hlt).1 ((getD_true_false tD).1 h1)
  cases hit
 | succ n ih =>
  intro L s sf U g a w listed hn hr hi hk hu hap hv hv2 hind hls hc hiff hne hsz hQ
  refine ⟨fun hr0=>?_,fun i hm=>?_⟩
  ·-- the first that is not listed may come up
   exfalso
   have hmin:∀ m,(∃ it ∈ L,it.i ≤ m) → ∃ it ∈ L,∀ x ∈ L,it.i ≤ x.i:=by
    intro m
    induction m with
    | zero =>
     rintro ⟨it,h1,h2⟩
     exact ⟨it,h1,fun x _=>by omega⟩
    | succ m ihm =>
     rintro ⟨it,h1,h2⟩
     by_cases h:∃ x ∈ L,x.i ≤ m
     ·exact ihm h
     ·refine ⟨it,h1,fun x hx=>?_⟩
      have:¬ x.i ≤ m:=fun hle=>h ⟨x,hx,hle⟩
      omega
   have hL:∃ it,it ∈ L:=by
    cases L with
    | nil=>simp at hn
    | cons x _=>exact ⟨x,by simp⟩
   obtain ⟨it0,h0⟩:=hL
   obtain ⟨it,hit,hle⟩:=hmin it0.i ⟨it0,h0,Nat.le_refl _⟩
   have hlt:=hsz it hit
   have ho:=Array.getElem?_eq_getElem hlt
   have hun:=(hiff it.i hlt).2 ⟨it,hit,rfl⟩
   have:it.i ∈ Region.ready .any ops listed:=mem_ready.2 ⟨(getD_true_false tD).2 hun,_,ho,fun e he hb=>by
    have hlt2:=(okB_spec hB ho).1 e he hb
    cases hq:listed.getD e.on false with
    | true=>rfl
    | false =>
     obtain ⟨x,hx,hxi⟩:=(hiff e.on tD).1 hq
     have:=hle x hx
     omega⟩
   rw [hr0] at this
   cases this
  ·obtain ⟨h1,o,ho,hl⟩:=mem_ready.1 hm
   have hlt:=(Array.getElem?_eq_some_iff.1 ho).1
   obtain ⟨y,hy,rfl⟩:=(hiff i hlt).1 ((getD_true_false tD).1 h1)
   obtain ⟨L1,L2,rfl⟩:=List.append_of_mem hy
   have hfree:∀ x ∈ L1,Free x.rd x.wr y.rd y.wr:=fun x hx=>by
    refine (pairwise_mid hind).2 x hx ?_
    cases hq:(BL.getD y.i 0).testBit x.i with
    | false=>rfl
    | true =>
     have h2:=waits_listed hB hls hc y.i o ho hl x.i (hsz x (by simp [hx])) hq
     have h3:=(hiff x.i (hsz x (by simp [hx]))).2 ⟨x,by simp [hx],rfl⟩
     rw [h2] at h3
     cases h3
   have hb:=bubble hfree hr
   have hmem:∀ x ∈ L1 ++ L2,x ∈ L1 ++ y :: L2:=fun x hx=>by
    rcases List.mem_append.1 hx with h|h
    ·simp [h]
    ·simp [h]
   have hapy:∀ x ∈ L1 ++ L2,∀ l,InR y l → ¬ InR x l:=by
    intro x hx l
    rcases List.mem_append.1 hx with h|h
    ·exact ((pairwise_mid hap).2 x h l).2
    ·have:=(List.pairwise_append.1 hap).2.1
     exact ((List.pairwise_cons.1 this).1 x h l).1
   have hney:∀ x ∈ L1 ++ L2,x.i ≠ y.i:=by
    intro x hx
    rcases List.mem_append.1 hx with h|h
    ·exact (pairwise_mid hne).2 x h
    ·have:=(List.pairwise_append.1 hne).2.1
     exact fun e=>(List.pairwise_cons.1 this).1 x h e.symm
   cases hb with
   | cons ho' hs ht =>
    have hky:=hk y te
    refine step_sound ho' hs hi (fun d hd=>hN _ _ d ho' hd) (free_of hi hh hky.1 hky.2.1 hky.2.2 (hu y te)) (fun g' a' w' hi'=>?_)
    refine ih (L:=L1 ++ L2) (by simp at hn ⊢;omega) ht hi' (fun x hx=>hk x (hmem x hx)) (fun x hx l hl2=>?_) (pairwise_mid hap).1 (fun l hl2=>?_) (fun x hx=>hv2 x (hmem x hx)) (pairwise_mid hind).1 (by simpa using hls) (fun j oj hoj hlj e he hb=>?_) (fun j hj=>?_) (pairwise_mid hne).1 (fun x hx=>hsz x (hmem x hx)) hQ
    ·rcases hl2 with hl2|hl2
     ·exact hu x (hmem x hx) l hl2
     ·exact hapy x hx l hl2
    ·rcases hl2 with hl2|hl2
     ·exact hv l hl2
     ·exact hv2 y te l hl2
    ·by_cases hji:y.i = j
     ·subst hji
      rw [ho] at hoj
      obtain rfl:=Option.some.inj hoj
      exact getD_set_true (hl e he hb)
     ·rw [getD_set_ne false hji] at hlj
      exact getD_set_true (hc j oj hoj hlj e he hb)
    ·by_cases hji:y.i = j
     ·subst hji
      constructor
      ·intro h
       have:(listed.setIfInBounds y.i true).getD y.i false = true:=by simp [hls,hlt]
       rw [this] at h;cases h
      ·rintro ⟨x,hx,e⟩
       exact absurd e (hney x hx)
     ·rw [getD_set_ne false hji,hiff j hj]
      constructor
      ·rintro ⟨x,hx,e⟩
       rcases List.mem_append.1 hx with h|h
       ·exact ⟨x,by simp [h],e⟩
       ·rcases List.mem_cons.1 h with rfl|h
        ·exact absurd e hji
        ·exact ⟨x,by simp [h],e⟩
      ·rintro ⟨x,hx,e⟩
       exact ⟨x,hmem x hx,e⟩
end
end Go.Proofs.Ytamjbjkbineafaa.Ev

namespace Go.Proofs.Ytamjbjkbineafaa.Ev
open Go Go.RowKit
set_option linter.unusedVariables false
set_option linter.unusedSimpArgs false
inductive AExit where
 | norm|ret
 | ex (id:Nat)
 deriving DecidableEq
def AExit.to:AExit → Exit
 | .norm=>.normal
 | .ret=>.ret
 | .ex id=>.exit id
def AExit.un (e:AExit) (id:Nat):AExit:=if e = .ex id then .norm else e
def okDst (N:Nat) (ops:Array Oper):Bool:=ops.all fun o=>match o.dst with
 | some d=>decide (d < N)
 | none=>true
/-- The state s may be seen as s1. -/
def Weak (k:Nat) (s:AS) (k1:Nat) (s1:AS):Prop:=Kok k k1 ∧ (∀ (B:Base) (U:Nat → Prop) (g:Gh) (a:Act) (w:World),Inv B U s g a w → ∃ g',Inv B (Un U k k1) s1 g' a w)
inductive Ex (N:Nat):Code → Nat → AS → AExit → Nat → AS → Prop
 | skip (k:Nat) (s:AS):Ex N .skip k s .norm k s
 | ret (k:Nat) (s:AS):Ex N .ret k s .ret k s
 | exit (id k:Nat) (s:AS):Ex N (.exit id) k s (.ex id) k s
 | seqN {x y:Code} {k k1 k2:Nat} {s s1 s2:AS} {e:AExit} (h1:Ex N x k s .norm k1 s1) (h2:Ex N y k1 s1 e k2 s2):Ex N (.seq x y) k s e k2 s2
 | seqE {x y:Code} {k k1:Nat} {s s1:AS} {e:AExit} (h1:Ex N x k s e k1 s1) (he:e ≠ .norm):Ex N (.seq x y) k s e k1 s1
 | cond {c:Operand} {b:Bool} {x y:Code} {k k1:Nat} {s s1:AS} {e:AExit} (hc:s.ev c = litA (.bool b)) (h:Ex N (if b then x else y) k s e k1 s1):Ex N (.cond c x y) k s e k1 s1
 | block {id:Nat} {c:Code} {k k1:Nat} {s s1:AS} {e:AExit} (h:Ex N c k s e k1 s1):Ex N (.block id c) k s (e.un id) k1 s1
 | loopN {c:Code} {k k1 k2:Nat} {s s1 s2:AS} {e:AExit} (h1:Ex N c k s .norm k1 s1) (h2:Ex N (.loop c) k1 s1 e k2 s2):Ex N (.loop c) k s e k2 s2
 | loopE {c:Code} {k k1:Nat} {s s1:AS} {e:AExit} (h1:Ex N c k s e k1 s1) (he:e ≠ .norm):Ex N (.loop c) k s e k1 s1
 | region {id:Nat} {ops:Array Oper} {draw:Bool} {L:List It} {BL:List Nat} {k k1:Nat} {s s1:AS} (hr:RunL ops L s s1) (hc:Chain k L k1) (hi:L.map (·.i) = List.range ops.size) (hd:okDst N ops = true) (hdr:draw = true → okB ops BL = true ∧ indep BL L = true) :
   Ex N (.region id ops draw) k s .norm k1 s1
 | weak {c:Code} {k k1 k2:Nat} {s s1 s2:AS} {e:AExit} (hw:Weak k s k1 s1) (h:Ex N c k1 s1 e k2 s2):Ex N c k s e k2 s2
theorem Ex.le {N:Nat} {c:Code} {k k1:Nat} {s s1:AS} {e:AExit} (h:Ex N c k s e k1 s1):k ≤ k1:=by
 induction h with
 | region _ hc=>exact hc.le
 | weak hw _ ih=>have:=hw.1.1;omega
 | _=>omega
theorem Ex.kok {N:Nat} {c:Code} {k k1:Nat} {s s1:AS} {e:AExit} (h:Ex N c k s e k1 s1):Kok k k1:=by
 refine ⟨h.le,?_⟩
 induction h with
 | region _ hc=>exact hc.kok.1
 | weak hw _ ih=>exact fun e=>ih (hw.1.2 e)
 | seqN _ _ i1 i2=>exact fun e=>i2 (i1 e)
 | loopN _ _ i1 i2=>exact fun e=>i2 (i1 e)
 | skip|ret|exit=>exact id
 | _=>assumption
/-- Within a loop, at its body's begin. -/
def LoopIn (c:Code) (Q:Exit → Act → World → Prop) (a:Act) (w:World):Prop:=∀ (b:Frame) (k:List Item) (cs:List Frame),
 ∃ e a' w',Q e a' w' ∧ Arrives Try.prog (lone (b.at a (.code c :: .inLoop c :: k)) cs w) b k cs e a' w'
theorem LoopIn.wp {c:Code} {Q:Exit → Act → World → Prop} {a:Act} {w:World} (h:LoopIn c Q a w):(Code.loop c).wp Try.prog Q a w:=fun b k cs=>by
 obtain ⟨e,a',w',hq,harr⟩:=h b k cs
 exact ⟨e,a',w',hq,.of_steps (.one step_loop) harr⟩
theorem LoopIn.step {c:Code} {Q:Exit → Act → World → Prop} {a:Act} {w:World} (h:c.wp Try.prog (Exit.then (LoopIn c Q) Q) a w):LoopIn c Q a w:=fun b k cs=>by
 obtain ⟨e,a₁,w₁,hq,harr⟩:=h b (.inLoop c :: k) cs
 cases e with
 | normal =>
  obtain ⟨e₂,a₂,w₂,hq₂,harr₂⟩:=hq b k cs
  exact ⟨e₂,a₂,w₂,hq₂,.of_steps (Steps.trans harr (.one step_inLoop)) harr₂⟩
 | exit id=>exact ⟨_,a₁,w₁,hq,.pass (x:=.inLoop c) rfl (fun _ _=>.inl te) harr⟩
 | goto l=>exact ⟨_,a₁,w₁,hq,.pass (x:=.inLoop c) rfl (fun _ _=>.inl te) harr⟩
 | ret=>exact ⟨_,a₁,w₁,hq,.pass (x:=.inLoop c) rfl (fun _ _=>.inl te) harr⟩
 | panic ch=>exact ⟨_,a₁,w₁,hq,.pass (x:=.inLoop c) rfl (fun _ _=>.inl te) harr⟩
 | outgrown=>exact ⟨_,a₁,w₁,hq,.pass (x:=.inLoop c) rfl (fun _ _=>.inl te) harr⟩
theorem Inv.drew {B:Base} {U:Nat → Prop} {s:AS} {g:Gh} {a:Act} {w:World} (h:Inv B U s g a w):Inv B U s g a { w with drawn:=w.drawn + 1 }:=by
 have hG:Grow g s.mem s.rows w g s.mem s.rows { w with drawn:=w.drawn + 1 }:=⟨fun b hb=>⟨hb,rfl,rfl⟩,fun _ h=>⟨h,rfl⟩,fun p r h=>⟨r,h,rfl,Nat.le_refl _,fun _=>rfl⟩⟩
 exact h.lead hG rfl ⟨rfl,rfl,rfl,Nat.le_refl _,fun _ _=>rfl⟩ (fun d b hb=>hG.box (h.boxes d b hb) rfl rfl rfl) (fun p r hp=>hG.row (h.rows p r hp) rfl (fun b hb=>⟨rfl,rfl,rfl⟩)) (fun b hb=>⟨rfl,rfl⟩) h.new h.labs
theorem mixed:Try.prog.follows .mixedOrders = true:=by kernel_rfl
theorem okDst_spec {N:Nat} {ops:Array Oper} (h:okDst N ops = true) (i:Nat) (o:Oper) (d:Nat) (ho:ops[i]? = some o) (hd:o.dst = some d):d < N:=by
 have:=(Array.all_eq_true_iff_forall_mem.1 h) o (Array.mem_of_getElem? ho)
 simpa [hd] using this
theorem map_range_nodup {L:List It} {n:Nat} (h:L.map (·.i) = List.range n):(L.Pairwise fun x y=>x.i ≠ y.i) ∧ (∀ it ∈ L,it.i < n) ∧ ∀ i,i < n → ∃ it ∈ L,it.i = i:=by
 refine ⟨?_,fun it hit=>?_,fun i hi=>?_⟩
 ·have:(L.map (·.i)).Pairwise (· ≠ ·):=by rw [h];exact List.nodup_range
  exact List.pairwise_map.1 this
 ·have:it.i ∈ L.map (·.i):=List.mem_map_of_mem hit
  rw [h] at this
  exact List.mem_range.1 this
 ·have:i ∈ L.map (·.i):=by rw [h];exact List.mem_range.2 hi
  exact List.mem_map.1 this
theorem un_un {U:Nat → Prop} {k k1 k2 l:Nat} (h1:k ≤ k1) (h2:k1 ≤ k2) (h:Un (Un U k k1) k1 k2 l):Un U k k2 l:=by
 rcases h with (h|h)|h
 ·exact .inl h
 ·exact .inr ⟨h.1,vG⟩
 ·exact .inr ⟨vG,h.2⟩
theorem ex_sound {N:Nat} {c:Code} {k k':Nat} {s s':AS} {e:AExit} (h:Ex N c k s e k' s'):∀ (B:Base) (k0 k1:Nat) (U:Nat → Prop) (g:Gh) (a:Act) (w:World) (Q:Exit → Act → World → Prop),B.N = N → Inv B U s g a w → Hold B k0 k1 → k0 ≤ k → k' ≤ k1 → (∀ l,U l → l < k) →
  (∀ g' a' w',Inv B (Un U k k') s' g' a' w' → Q e.to a' w') → c.wp Try.prog Q a w ∧ ∀ body,c = .loop body → LoopIn body Q a w:=by
 induction h with
 | skip k s=>intro B k0 k1 U g a w Q _ hi _ _ _ _ hQ;exact ⟨wp_skip (hQ g a w (hi.weakU fun _ h=>.inl h)),fun _ e=>by cases e⟩
 | ret k s=>intro B k0 k1 U g a w Q _ hi _ _ _ _ hQ;exact ⟨wp_ret (hQ g a w (hi.weakU fun _ h=>.inl h)),fun _ e=>by cases e⟩
 | exit id k s=>intro B k0 k1 U g a w Q _ hi _ _ _ _ hQ;exact ⟨wp_exit (hQ g a w (hi.weakU fun _ h=>.inl h)),fun _ e=>by cases e⟩
 | @seqN x y k k1 k2 s s1 s2 e h1 h2 ih1 ih2 =>
  intro B q0 q1 U g a w Q hN hi hh hk hk' hU hQ
  have l1:=h1.le
  have l2:=h2.le
  refine ⟨wp_seq ((ih1 B q0 q1 U g a w _ hN hi hh hk tD hU fun g' a' w' hi'=>?_).1),fun _ e=>by cases e⟩
  refine (ih2 B q0 q1 (Un U k k1) g' a' w' Q hN hi' hh tD hk' (fun l hl=>?_) fun g2 a2 w2 hi2=>?_).1
  ·rcases hl with hl|hl
   ·have:=hU l hl;omega
   ·omega
  ·exact hQ g2 a2 w2 (hi2.weakU fun l hl=>un_un l1 l2 hl)
 | @seqE x y k k1 s s1 e h1 he ih1 =>
  intro B q0 q1 U g a w Q hN hi hh hk hk' hU hQ
  refine ⟨wp_seq ((ih1 B q0 q1 U g a w _ hN hi hh hk hk' hU fun g' a' w' hi'=>?_).1),fun _ e=>by cases e⟩
  cases e with
  | norm=>exact absurd rfl he
  | ret=>exact hQ g' a' w' hi'
  | ex id=>exact hQ g' a' w' hi'
 | @cond c b x y k k1 s s1 e hc h ih =>
  intro B q0 q1 U g a w Q hN hi hh hk hk' hU hQ
  have hcv:=hi.ev c
  rw [hc] at hcv
  exact ⟨wp_cond (repA_lit hcv) (ih B q0 q1 U g a w Q hN hi hh hk hk' hU hQ).1,fun _ e=>by cases e⟩
 | @block id c k k1 s s1 e h ih =>
  intro B q0 q1 U g a w Q hN hi hh hk hk' hU hQ
  refine ⟨wp_block (ih B q0 q1 U g a w _ hN hi hh hk hk' hU fun g' a' w' hi'=>?_).1,fun _ e=>by cases e⟩
  have:=hQ g' a' w' hi'
  cases e with
  | norm=>simpa [AExit.un,AExit.to,Exit.inBlock] using this
  | ret=>simpa [AExit.un,AExit.to,Exit.inBlock] using this
  | ex id' =>
   by_cases hid:id' = id
   ·subst hid;simpa [AExit.un,AExit.to,Exit.inBlock] using this
   ·simpa [AExit.un,AExit.to,Exit.inBlock,hid] using this
 | @loopN c k k1 k2 s s1 s2 e h1 h2 ih1 ih2 =>
  intro B q0 q1 U g a w Q hN hi hh hk hk' hU hQ
  have l1:=h1.le
  have l2:=h2.le
  have key:LoopIn c Q a w:=by
   refine LoopIn.step (ih1 B q0 q1 U g a w _ hN hi hh hk tD hU fun g' a' w' hi'=>?_).1
   refine (ih2 B q0 q1 (Un U k k1) g' a' w' Q hN hi' hh tD hk' (fun l hl=>?_) fun g2 a2 w2 hi2=>?_).2 c rfl
   ·rcases hl with hl|hl
    ·have:=hU l hl;omega
    ·omega
   ·exact hQ g2 a2 w2 (hi2.weakU fun l hl=>un_un l1 l2 hl)
  exact ⟨key.wp,fun body e=>by injection e with e;subst e;exact key⟩
 | @loopE c k k1 s s1 e h1 he ih1 =>
  intro B q0 q1 U g a w Q hN hi hh hk hk' hU hQ
  have key:LoopIn c Q a w:=by
   refine LoopIn.step (ih1 B q0 q1 U g a w _ hN hi hh hk hk' hU fun g' a' w' hi'=>?_).1
   cases e with
   | norm=>exact absurd rfl he
   | ret=>exact hQ g' a' w' hi'
   | ex id=>exact hQ g' a' w' hi'
  exact ⟨key.wp,fun body e=>by injection e with e;subst e;exact key⟩
 | @region id ops draw L BL k k1 s s1 hr hc hix hd hdr =>
  intro B q0 q1 U g a w Q hN hi hh hk hk' hU hQ
  refine ⟨?_,fun _ e=>by cases e⟩
  have hw:=hc.within
  have hap:=hc.apart
  have hN':∀ (i:Nat) o d,ops[i]? = some o → o.dst = some d → d < B.N:=fun i o d ho hdd=>by rw [hN];exact okDst_spec hd i o d ho hdd
  have hu:∀ it ∈ L,∀ l,U l → ¬ InR it l:=fun it hit l hl hin=>by
   have:=hU l hl
   have:=(hw it hit).1
   unfold InR at hin
   omega
  have hv2:∀ it ∈ L,∀ l,InR it l → Un U k k1 l:=fun it hit l hin=>by
   have:=hw it hit
   unfold InR at hin
   exact .inr ⟨vG,vG⟩
  have hrange:∀ it ∈ L,Kok it.k it.k' ∧ q0 ≤ it.k ∧ it.k' ≤ q1:=fun it hit=>by have:=hw it hit;exact ⟨hc.kok.2 it hit,vG,vG⟩
  cases draw with
  | false =>
   apply wp_region
   rw [← hix]
   exact seq_sound hh hN' hr hi hrange hu hap (fun _ h=>.inl h) hv2 hQ
  | true =>
   obtain ⟨hB,hind⟩:=hdr rfl
   obtain ⟨n1,n2,n3⟩:=map_range_nodup hix
   refine wp_region_any mixed ?_
   have hlen:L.length = ops.size:=by have:=congrArg List.length hix;simpa using this
   refine any_sound hB hh hN' ops.size hlen hr hi.drew hrange hu ?_ (fun _ h=>.inl h) hv2 (indep_spec hind) te (fun j o ho hl=>?_) (fun i hlt=>?_) n1 n2 hQ
   ·exact hap.imp (fun {x y} h l=>⟨h l,fun h1 h2=>h l h2 h1⟩)
   ·rw [Array.getD_eq_getD_getElem?,Array.getElem?_replicate] at hl
    split at hl <;> cases hl
   ·simp only [Array.getD_eq_getD_getElem?,hlt,Array.getElem?_replicate,if_true,Option.getD_some,true_iff]
    exact n3 i hlt
 | @weak c k k1 k2 s s1 s2 e hw h ih =>
  intro B q0 q1 U g a w Q hN hi hh hk hk' hU hQ
  have l2:=h.le
  obtain ⟨g',hi'⟩:=hw.2 B U g a w hi
  have l1:=hw.1.1
  refine ih B q0 q1 (Un U k k1) g' a w Q hN hi' hh tD hk' (fun l hl=>?_) fun g2 a2 w2 hi2=>?_
  ·rcases hl with hl|hl
   ·have:=hU l hl;omega
   ·omega
  ·exact hQ g2 a2 w2 (hi2.weakU fun l hl=>un_un l1 l2 hl)
def start (args:List PV):AS:=⟨fun i=>match args[i]? with
 | some p=>.v p.sh (p.cs.map .fv)
 | none=>.any,fun _=>none,fun _=>none⟩
def outC (s:AS):CV → Option RC
 | .fv x=>some (.fv x)
 | .own p n=>match s.rows p with
  | some r=>if n = r.es.length then some (if r.fz then .fv (.row r.l r.t r.es) else .own r.l r.t r.es) else none
  | none=>none
def outL (s:AS):List CV → Option (List RC)
 | []=>some []
 | c :: cs=>match outC s c with
  | some x=>match outL s cs with
   | some xs=>some (x :: xs)
   | none=>none
  | none=>none
def ownIds:List CV → List Nat
 | []=>[]
 | .own p _ :: cs=>p :: ownIds cs
 | .fv _ :: cs=>ownIds cs
def nodupB:List Nat → Bool
 | []=>true
 | x :: xs=>!(xs.contains x) && nodupB xs
/-- A result's cells, as the state has them. -/
def resC (rs:List ResultVar) (s:AS):Option (Sh × List CV) :=
 match rs with
 | [.tmp t]=>match s.tm t with
  | .v .one [c]=>some (.one,[c])
  | _=>none
 | [.cell p t]=>if tagg t then match s.tm p with
  | .addr d 0=>match s.mem d with
   | some b=>if b.cs.length = tsz t then some (.agg,b.cs) else none
   | none=>none
  | _=>none else none
 | [.cell p t,.tmp u]=>if tagg t then match s.tm p with
  | .addr d 0=>match s.mem d with
   | some b=>if b.cs.length = tsz t then match s.tm u with
    | .v .one [c]=>some (.pr,b.cs ++ [c])
    | _=>none else none
   | none=>none
  | _=>none else none
 | _=>none
def resOf (rs:List ResultVar) (s:AS):Option RV :=
 match resC rs s with
 | some (sh,cs)=>if nodupB (ownIds cs) then match outL s cs with
  | some xs=>some ⟨sh,xs⟩
  | none=>none else none
 | none=>none
theorem outL_get {s:AS}:∀ {cs:List CV} {xs:List RC},outL s cs = some xs → xs.length = cs.length ∧ ∀ (i:Nat) c,cs[i]? = some c → ∃ x,xs[i]? = some x ∧ outC s c = some x:=by
 intro cs
 induction cs with
 | nil=>intro xs h;obtain rfl:=Option.some.inj h;exact ⟨rfl,fun i c h=>by simp at h⟩
 | cons c cs ih =>
  intro xs h
  simp only [outL] at h
  split at h
  ·rename_i x hx
   split at h
   ·rename_i ys hy
    obtain rfl:=Option.some.inj h
    obtain ⟨h1,h2⟩:=ih hy
    refine ⟨by simp [h1],fun i c' hc'=>?_⟩
    cases i with
    | zero=>simp at hc';subst hc';exact ⟨x,rfl,hx⟩
    | succ i=>simpa using h2 i c' (by simpa using hc')
   ·cases h
  ·cases h
theorem nodup_ids:∀ {cs:List CV},nodupB (ownIds cs) = true → ∀ (i j:Nat) p n m,cs[i]? = some (.own p n) → cs[j]? = some (.own p m) → i = j:=by
 intro cs
 induction cs with
 | nil=>intro _ i j p n m h;simp at h
 | cons c cs ih =>
  intro h i j p n m hi hj
  have hmem:∀ (cs:List CV) (i:Nat) p n,cs[i]? = some (CV.own p n) → p ∈ ownIds cs:=by
   intro cs
   induction cs with
   | nil=>intro i p n h;simp at h
   | cons c cs ih =>
    intro i p n h
    cases i with
    | zero=>simp at h;subst h;simp [ownIds]
    | succ i =>
     have:=ih i p n (by simpa using h)
     cases c <;> simp [ownIds,this]
  cases c with
  | fv x =>
   cases i with
   | zero=>simp at hi
   | succ i=>cases j with
    | zero=>simp at hj
    | succ j=>exact congrArg (· + 1) (ih h i j p n m wD (by simpa using hj))
  | own q r =>
   simp only [ownIds,nodupB,Bool.and_eq_true,Bool.not_eq_true'] at h
   cases i with
   | zero =>
    cases j with
    | zero=>rfl
    | succ j =>
     simp at hi
     obtain ⟨rfl,_⟩:=hi
     have:=hmem cs j q m (by simpa using hj)
     have h1:=h.1
     simp [this] at h1
   | succ i=>cases j with
    | zero =>
     simp at hj
     obtain ⟨rfl,_⟩:=hj
     have:=hmem cs i q n wD
     have h1:=h.1
     simp [this] at h1
    | succ j=>exact congrArg (· + 1) (ih h.2 i j p n m wD (by simpa using hj))
end Go.Proofs.Ytamjbjkbineafaa.Ev

namespace Go.Proofs.Ytamjbjkbineafaa.Ev
open Go Go.RowKit
set_option linter.unusedVariables false
set_option linter.unusedSimpArgs false
theorem loadVar_run {t:Nat} (ht:known t = true) (w:World) (ad:Addr) (vs:List Value) (hl:vs.length = tsz t) (hc:∀ (j:Nat) v,vs[j]? = some v → w.cell? (ad.add j) = some v) :
  (loadVar t ad).run Try.prog w = .ok (asm (if tagg t then .agg else .one) vs) w:=by
 have:=load_run ht w ad vs hl hc
 simpa [Instr.loadAt,Instr.sureAddr] using this
section
variable {B:Base} {U:Nat → Prop} {s:AS} {g:Gh} {a:Act} {w:World}
theorem box_run (hi:Inv B U s g a w) {p d t:Nat} {b:Box} (ht:tagg t = true) (hp:s.tm p = .addr d 0) (hd:s.mem d = some b) (hl:b.cs.length = tsz t) :
  ∃ (ad:Addr) (vs:List Value),a.tmps.getD p undef = .pointer (some ad) ∧ (loadVar t ad).run Try.prog w = .ok (.agg vs.toArray) w ∧ All2 (RepC g s.rows w) b.cs vs:=by
 obtain ⟨old,q1,q2,q3,q4⟩:=hi.boxes _ _ hd
 have hx:=hi.tms p
 rw [hp] at hx
 obtain ⟨_,hv⟩:=hx
 refine ⟨_,old.toList,hv,?_,q4⟩
 have:=loadVar_run (tagg_known ht) w ⟨g.bx d,0,none⟩ old.toList (by rw [← q4.length];exact hl) (fun j v hv=>by
  rw [Addr.add_mid,Nat.zero_add,cell_of_row w _ _ old _ _ q1,← Array.getElem?_toList];exact hv)
 simpa [ht,asm] using this
theorem asm_pr (vs:List Value) (u:Value):asm .pr (vs ++ [u]) = .tuple #[.agg vs.toArray,u]:=by
 cases vs with
 | nil=>rfl
 | cons v vs =>
  have h1:(v :: (vs ++ [u])).dropLast = v :: vs:=by rw [← List.cons_append,List.dropLast_concat]
  have h2:(v :: (vs ++ [u])).getLastD undef = u:=by rw [← List.cons_append,List.getLastD_eq_getLast?,List.getLast?_concat];rfl
  show Value.tuple #[.agg (v :: (vs ++ [u])).dropLast.toArray,(v :: (vs ++ [u])).getLastD undef] = _
  rw [h1,h2]
theorem results_run (hi:Inv B U s g a w) {fn:Func} {sh:Sh} {cs:List CV} (h:resC fn.results.toList s = some (sh,cs)) :
  ∃ vs,(results fn a.tmps).run Try.prog w = .ok (asm sh vs) w ∧ All2 (RepC g s.rows w) cs vs ∧ (sh = .one → cs.length = 1) ∧ (sh = .pr → cs ≠ []):=by
 unfold resC at h
 split at h
 ·rename_i t hr
  have hr':fn.results = #[.tmp t]:=by rw [← hr]
  split at h
  ·rename_i c ht
   simp only [Option.some.injEq,Prod.mk.injEq] at h
   obtain ⟨rfl,rfl⟩:=h
   have hx:=hi.tms t
   rw [ht] at hx
   obtain ⟨vs,hv,h2,h3,h4⟩:=hx
   exact ⟨vs,by rw [results_tmp hr',hv],h2,h3,nofun⟩
  ·cases h
 ·rename_i p t hr
  have hr':fn.results = #[.cell p t]:=by rw [← hr]
  split at h
  ·rename_i htg
   split at h
   ·rename_i d hp
    split at h
    ·rename_i b hd
     split at h
     ·rename_i hl
      simp only [Option.some.injEq,Prod.mk.injEq] at h
      obtain ⟨rfl,rfl⟩:=h
      obtain ⟨ad,vs,h0,h1,h2⟩:=box_run hi htg hp hd hl
      refine ⟨vs,?_,h2,nofun,nofun⟩
      have h0':a.tmps[p]?.getD undef = .pointer (some ad):=by simpa using h0
      simp [results,hr',h0',asAddr,h1,asm]
     ·cases h
    ·cases h
   ·cases h
  ·cases h
 ·rename_i p t u hr
  have hr':fn.results = #[.cell p t,.tmp u]:=by rw [← hr]
  split at h
  ·rename_i htg
   split at h
   ·rename_i d hp
    split at h
    ·rename_i b hd
     split at h
     ·rename_i hl
      split at h
      ·rename_i c hu
       simp only [Option.some.injEq,Prod.mk.injEq] at h
       obtain ⟨rfl,rfl⟩:=h
       obtain ⟨ad,vs,h0,h1,h2⟩:=box_run hi htg hp hd hl
       have hx:=hi.tms u
       rw [hu] at hx
       have hx:=repA_one hx
       refine ⟨vs ++ [a.tmps.getD u undef],?_,h2.append (.cons hx .nil),nofun,fun _ h=>by simp at h⟩
       have h0':a.tmps[p]?.getD undef = .pointer (some ad):=by simpa using h0
       simp [results,hr',h0',asAddr,h1,asm_pr]
      ·cases h
     ·cases h
    ·cases h
   ·cases h
  ·cases h
 ·cases h
end
open Classical in
noncomputable def tgOf (cs:List CV) (rows:Nat → Option Row) (g:Gh) (b:Nat):Nat :=
 if h:∃ i:Nat,∃ p n r,cs[i]? = some (.own p n) ∧ rows p = some r ∧ r.fz = false ∧ g.tag b = .row p then h.choose + 1 else 0
theorem tgOf_ro {cs:List CV} {rows:Nat → Option Row} {g:Gh} {b:Nat} (hb:∀ p,g.tag b ≠ .row p):tgOf cs rows g b = 0:=by
 unfold tgOf
 rw [dif_neg]
 rintro ⟨i,p,n,r,_,_,_,h⟩
 exact hb p h
theorem tgOf_row {cs:List CV} {rows:Nat → Option Row} {g:Gh} (hnd:nodupB (ownIds cs) = true) {i p n b:Nat} {r:Row} (h1:cs[i]? = some (.own p n)) (h2:rows p = some r) (h3:r.fz = false) (h4:g.tag b = .row p):tgOf cs rows g b = i + 1:=by
 have hex:∃ i:Nat,∃ p n r,cs[i]? = some (.own p n) ∧ rows p = some r ∧ r.fz = false ∧ g.tag b = .row p:=⟨i,p,n,r,h1,h2,h3,h4⟩
 unfold tgOf
 rw [dif_pos hex]
 obtain ⟨p',n',r',q1,q2,q3,q4⟩:=hex.choose_spec
 rw [h4] at q4
 injection q4 with q4
 subst q4
 exact congrArg (· + 1) (nodup_ids hnd _ _ _ _ _ q1 h1)
theorem semcall_of {f N k k' : Nat} {fn : Func} {c : Code} {args : List PV} {r : RV} {e : AExit} {s' : AS} (hf : Try.prog.funcs[f]? = some fn) (hname : (fn.name == "runtime.NumGoroutine") = false) (hb : fn.body = some c) (hN : fn.ntmps = N) (hlen : args.length ≤ N)
  (hsh:∀ p ∈ args,(p.sh = .one → p.cs.length = 1) ∧ p.sh ≠ .pr) (hex:Ex N c k (start args) e k' s') (he:e = .ret ∨ e = .norm) (hres:resOf fn.results.toList s' = some r) (hlab:∀ l t es,RC.own l t es ∈ r.cs → l = 0 ∨ (k ≤ l ∧ l < k')):SemCall f args k r k':=by
 unfold resOf at hres
 split at hres
 rotate_left
 ·cases hres
 rename_i sh cs hrc
 split at hres
 rotate_left
 ·cases hres
 rename_i hnd
 split at hres
 rotate_left
 ·cases hres
 rename_i xs hxs
 obtain rfl:=Option.some.inj hres
 obtain ⟨hxl,hxg⟩:=outL_get hxs
 have hshape:(sh = .one → xs.length = 1) ∧ (sh = .pr → xs ≠ []):=by
  unfold resC at hrc
  split at hrc
  ·split at hrc
   ·simp only [Option.some.injEq,Prod.mk.injEq] at hrc
    obtain ⟨rfl,rfl⟩:=hrc
    exact ⟨fun _=>by rw [hxl];rfl,nofun⟩
   ·cases hrc
  ·repeat' split at hrc
   all_goals first|(cases hrc;done)|(simp only [Option.some.injEq,Prod.mk.injEq] at hrc;obtain ⟨rfl,rfl⟩:=hrc;exact ⟨nofun,nofun⟩)
  ·repeat' split at hrc
   all_goals first|(cases hrc;done)|(simp only [Option.some.injEq,Prod.mk.injEq] at hrc;obtain ⟨rfl,rfl⟩:=hrc;exact ⟨nofun,fun _ e=>by rw [e] at hxl;simp at hxl⟩)
  ·cases hrc
 refine ⟨hex.kok,⟨fn,hf,hname,by rw [hb];rfl⟩,hshape.1,hshape.2,hlab,?_⟩
 intro own ro w vs hfree hro hargs
 let B:Base:={ w0:=w,own0:=own,ro0:=ro,N:=N }
 let g0:Gh:={ own:=own,tag:=fun b=>open Classical in if ro b then .ro else .no,bx:=fun _=>0,hd:=fun _=>undef }
 have hrog:∀ b,ro b → rog g0 w b:=fun b hb=>⟨if_pos hb,hro b hb⟩
 refine calls_of_wp hf hb ?_
 have hi0:Inv B (fun _=>False) (start args) g0 { tmps:=vs.toArray ++ Array.replicate (fn.ntmps - vs.toArray.size) undef,defers:=[] } w:=by
  refine ⟨Below.refl _ _,rfl,?_,fun i=>?_,nofun,nofun,fun b _=>⟨rfl,fun e=>?_,fun p e=>?_⟩,fun b h1 h2=>absurd h2 (by show ¬ b < w.heap.size;have:w.heap.size ≤ b:=h1;omega),nofun⟩
  ·have:=hargs.length
   simp only [Array.size_append,List.size_toArray,Array.size_replicate]
   show _ = N
   omega
  ·show RepA g0 _ _ w (match args[i]? with|some p=>.v p.sh (p.cs.map .fv)|none=>.any) _
   cases hq:args[i]? with
   | none=>trivial
   | some p =>
    obtain ⟨v,hv,us,hu,h2⟩:=hargs.get i p hq
    have hlt:=(List.getElem?_eq_some_iff.1 hv).1
    have hget:(vs.toArray ++ Array.replicate (fn.ntmps - vs.toArray.size) undef).getD i undef = v:=by
     rw [Array.getD_eq_getD_getElem?,Array.getElem?_append_left (by simpa using hlt)]
     simp [hv]
    have hp:=hsh p (List.mem_of_getElem? hq)
    show RepA g0 _ _ w (.v p.sh (p.cs.map .fv)) ((vs.toArray ++ Array.replicate (fn.ntmps - vs.toArray.size) undef).getD i undef)
    rw [hget]
    refine ⟨us,hu,All2.of_get (by rw [List.length_map];exact h2.length) (fun j c u hc hu=>?_),fun h=>by rw [List.length_map];exact hp.1 h,fun h=>absurd h hp.2⟩
    rw [List.getElem?_map] at hc
    cases hj:p.cs[j]? with
    | none=>rw [hj] at hc;cases hc
    | some x =>
     rw [hj] at hc
     obtain rfl:=Option.some.inj hc
     obtain ⟨u',hu',hr'⟩:=h2.get j x hj
     rw [hu] at hu'
     obtain rfl:=Option.some.inj hu'
     exact Rep.move hr' (fun b hb=>⟨hrog b hb,rfl,rfl⟩)
  ·have e':(open Classical in if ro b then Tag.ro else .no) = .ro:=e
   by_cases h:ro b
   ·exact h
   ·rw [if_neg h] at e';cases e'
  ·have e':(open Classical in if ro b then Tag.ro else .no) = .row p:=e
   split at e' <;> cases e'
 refine (ex_sound hex B k k' (fun _=>False) g0 _ w _ rfl hi0 hfree (Nat.le_refl _) (Nat.le_refl _) (fun _ h=>h.elim) fun g a w' hi=>?_).1
 have hpost:bodyPost Try.prog fn (fun e w'=>∃ v own' tg,e = .returned v ∧ (∀ b,b < w.heap.size → own' b = own b) ∧
   (∀ b,w.heap.size ≤ b → b < w'.heap.size → own' b = 0 ∨ (k ≤ own' b ∧ own' b < k')) ∧ (∀ b,b < w.heap.size → tg b = 0) ∧ RepRV own' ro w' w.heap.size tg ⟨sh,xs⟩ v ∧ Below w.heap.size w w') .ret a w':=by
  obtain ⟨us,hrun,h2,_⟩:=results_run hi hrc
  -- the blocks of the rows that are handed over
  let tg:Nat → Nat:=tgOf cs s'.rows g
  have hroF:∀ b,rog g w' b → ((ro b ∨ (w.heap.size ≤ b ∧ b < w'.heap.size)) ∧ tg b = 0):=fun b hb=>by
   refine ⟨?_,tgOf_ro (fun p e=>by rw [hb.1] at e;cases e)⟩
   rcases Nat.lt_or_ge b w.heap.size with h|h
   ·exact .inl ((hi.old b h).2.1 hb.1)
   ·exact .inr ⟨h,hb.2⟩
  refine ⟨hi.defers,_,hrun,_,g.own,tg,rfl,fun b hb=>(hi.old b hb).1,fun b h1 h3=>?_,fun b hb=>?_,⟨us,rfl,by rw [← h2.length];exact hxl.symm,fun i c u hc hu=>?_⟩,hi.below⟩
  ·rcases hi.new b h1 h3 with e|e
   ·exact .inl e
   ·rcases e with e|e
    ·exact e.elim
    ·exact .inr e
  ·exact tgOf_ro (hi.old b hb).2.2
  ·have hlt:i < cs.length:=by rw [← hxl];exact (List.getElem?_eq_some_iff.1 hc).1
   have hcs:=List.getElem?_eq_getElem hlt
   obtain ⟨x,hx1,hx2⟩:=hxg i _ hcs
   rw [hc] at hx1
   obtain rfl:=Option.some.inj hx1
   obtain ⟨u',hu',hrep⟩:=h2.get i _ hcs
   rw [hu] at hu'
   obtain rfl:=Option.some.inj hu'
   revert hx2 hrep hcs
   generalize cs[i] = cc
   intro hcs hx2 hrep
   cases cc with
   | fv y =>
    obtain rfl:=Option.some.inj hx2
    exact Rep.move hrep (fun b hb=>⟨hroF b hb,rfl,rfl⟩)
   | own p n =>
    simp only [outC] at hx2
    obtain ⟨r,k1,k2,k3,k4⟩:=hrep
    rw [k1] at hx2
    simp only at hx2
    split at hx2
    ·rename_i en
     have hv:=k3 en.symm
     have hrow:=hi.rows p r k1
     split at hx2
     ·rename_i hz
      obtain rfl:=Option.some.inj hx2
      have:=row_rep hrow (fun b hb=>by obtain ⟨_,_,_,z3⟩:=hrow;have:=(z3 b hb).2;rw [if_pos hz] at this;exact this)
      rw [hv]
      exact this.move (fun b hb=>⟨hroF b hb,rfl,rfl⟩)
     ·rename_i hz
      obtain rfl:=Option.some.inj hx2
      obtain ⟨ys,z1,z2,z3⟩:=hrow
      rw [hv]
      refine ⟨ys,z1,z2.imp (fun x u hx=>hx.move (fun b hb=>⟨hroF b hb,rfl,rfl⟩)),fun b hb=>⟨(z3 b hb).1,?_⟩⟩
      have:=(z3 b hb).2
      rw [if_neg hz] at this
      exact tgOf_row hnd hcs k1 (by simpa using hz) this
    ·cases hx2
 rcases he with rfl|rfl
 ·exact hpost
 ·exact hpost
end Go.Proofs.Ytamjbjkbineafaa.Ev

namespace Go.Proofs.Ytamjbjkbineafaa.Ev
open Go Go.RowKit
set_option linter.unusedVariables false
set_option linter.unusedSimpArgs false
def AWp (N:Nat) (c:Code) (k:Nat) (s:AS) (Q:AExit → Nat → AS → Prop):Prop:=∃ e k' s',Ex N c k s e k' s' ∧ Q e k' s'
/-- Behind the first of two. -/
def thenQ (Y:Nat → AS → Prop) (Q:AExit → Nat → AS → Prop):AExit → Nat → AS → Prop
 | .norm,k,s=>Y k s
 | .ret,k,s=>Q .ret k s
 | .ex id,k,s=>Q (.ex id) k s
def blockQ (id:Nat) (Q:AExit → Nat → AS → Prop):AExit → Nat → AS → Prop
 | .norm,k,s=>Q .norm k s
 | .ret,k,s=>Q .ret k s
 | .ex i,k,s=>if i = id then Q .norm k s else Q (.ex i) k s
section
variable {N k:Nat} {s:AS} {Q:AExit → Nat → AS → Prop}
theorem AWp.mono {c:Code} {Q':AExit → Nat → AS → Prop} (h:AWp N c k s Q) (hq:∀ e k s,Q e k s → Q' e k s):AWp N c k s Q':=by
 obtain ⟨e,k',s',h1,h2⟩:=h
 exact ⟨e,k',s',h1,hq _ _ _ h2⟩
theorem awp_skip (h:Q .norm k s):AWp N .skip k s Q:=⟨_,_,_,.skip _ _,h⟩
theorem awp_ret (h:Q .ret k s):AWp N .ret k s Q:=⟨_,_,_,.ret _ _,h⟩
theorem awp_exit {id:Nat} (h:Q (.ex id) k s):AWp N (.exit id) k s Q:=⟨_,_,_,.exit _ _ _,h⟩
theorem awp_seq {x y:Code} (h:AWp N x k s (thenQ (fun k s=>AWp N y k s Q) Q)):AWp N (.seq x y) k s Q:=by
 obtain ⟨e,k',s',h1,h2⟩:=h
 cases e with
 | norm =>
  obtain ⟨e2,k2,s2,h3,h4⟩:=h2
  exact ⟨e2,k2,s2,.seqN h1 h3,h4⟩
 | ret=>exact ⟨_,_,_,.seqE h1 te,h2⟩
 | ex id=>exact ⟨_,_,_,.seqE h1 te,h2⟩
theorem awp_cond {c:Operand} {b:Bool} {x y:Code} (hc:s.ev c = litA (.bool b)) (ht:b = true → AWp N x k s Q) (hf:b = false → AWp N y k s Q):AWp N (.cond c x y) k s Q:=by
 cases b with
 | true =>
  obtain ⟨e,k',s',h1,h2⟩:=ht rfl
  exact ⟨e,k',s',.cond hc h1,h2⟩
 | false =>
  obtain ⟨e,k',s',h1,h2⟩:=hf rfl
  exact ⟨e,k',s',.cond hc h1,h2⟩
theorem awp_block {id:Nat} {c:Code} (h:AWp N c k s (blockQ id Q)):AWp N (.block id c) k s Q:=by
 obtain ⟨e,k',s',h1,h2⟩:=h
 refine ⟨_,_,_,.block h1,?_⟩
 cases e with
 | norm=>exact h2
 | ret=>exact h2
 | ex i =>
  simp only [blockQ] at h2
  by_cases hi:i = id
  ·subst hi;simpa [AExit.un] using h2
  ·simpa [AExit.un,hi] using h2
theorem awp_weak {c:Code} {k1:Nat} {s1:AS} (hw:Weak k s k1 s1) (h:AWp N c k1 s1 Q):AWp N c k s Q:=by
 obtain ⟨e,k',s',h1,h2⟩:=h
 exact ⟨e,k',s',.weak hw h1,h2⟩
theorem awp_loop {c:Code} (I:Nat → Nat → AS → Prop) (n:Nat) (h0:I n k s) (hr:∀ m k s,I m k s → AWp N c k s (thenQ (fun k' s'=>∃ m' k1 s1,m' < m ∧ Weak k' s' k1 s1 ∧ I m' k1 s1) Q)):AWp N (.loop c) k s Q:=by
 induction n using Nat.strongRecOn generalizing k s with
 | _ n ih =>
  obtain ⟨e,k',s',h1,h2⟩:=hr n k s h0
  cases e with
  | norm =>
   obtain ⟨m',k1,s1,hm,hw,hi⟩:=h2
   obtain ⟨e2,k2,s2,h3,h4⟩:=ih m' hm hi
   exact ⟨e2,k2,s2,.loopN h1 (.weak hw h3),h4⟩
  | ret=>exact ⟨_,_,_,.loopE h1 te,h2⟩
  | ex id=>exact ⟨_,_,_,.loopE h1 te,h2⟩
end
def semG (ds:List (Option Nat)) (o:Oper) (k:Nat):M Out :=
 match o.guard with
 | none=>sem0 o k
 | some (j,want)=>match ds[j]? with
  | some (some t)=>.tm t fun v=>guardA v fun b=>if b = some want then sem0 o k else .ret (.done (dropW o) k)
  | _=>.fail
theorem semG_eq (l:List Oper) (o:Oper) (k:Nat):semG (l.map (·.dst)) o k = sem l.toArray o k:=by
 unfold semG sem
 cases hg:o.guard with
 | none=>rfl
 | some gw =>
  obtain ⟨j,want⟩:=gw
  simp only [List.getElem?_map,List.getElem?_toArray]
  cases h:l[j]? with
  | none=>rfl
  | some o'=>cases h2:o'.dst <;> simp [h2]
def outP (x:Option Out) (P:List W → Nat → Prop) (R:Nat → List PV → (RV → List W) → Prop):Prop :=
 match x with
 | some (.done ws k)=>P ws k
 | some (.call f a g)=>R f a g
 | none=>False
/-- In the text's order. -/
def AOps (ds:List (Option Nat)):List Oper → Nat → AS → (Nat → AS → Prop) → Prop
 | [],k,s,Q=>Q k s
 | o :: rest,k,s,Q=>outP ((semG ds o k).run s) (fun ws k'=>Kok k k' ∧ AOps ds rest k' (s.app ws) Q) (fun f args g=>isCall o = true ∧ ∃ r k',SemCall f args k r k' ∧ AOps ds rest k' (s.app (g r)) Q)
/-- With what each has read and written. -/
def AOpsD (ds:List (Option Nat)):Nat → List Oper → Nat → AS → (List It → Nat → AS → Prop) → Prop
 | _,[],k,s,Q=>Q [] k s
 | n,o :: rest,k,s,Q=>outP ((semG ds o k).run s) (fun ws k'=>Kok k k' ∧ AOpsD ds (n + 1) rest k' (s.app ws) fun L=>Q (⟨n,k,k',(semG ds o k).rds s,ws.map W.loc⟩ :: L)) (fun f args g=>isCall o = true ∧ ∃ r k',SemCall f args k r k' ∧ AOpsD ds (n + 1) rest k' (s.app (g r)) fun L=>Q (⟨n,k,k',(semG ds o k).rds s,(g r).map W.loc⟩ :: L))
theorem aopsD_run (all:List Oper):∀ (l:List Oper) (n k:Nat) (s:AS) (Q:List It → Nat → AS → Prop),(∀ j,l[j]? = all[n + j]?) → AOpsD (all.map (·.dst)) n l k s Q → ∃ L k' s',RunL all.toArray L s s' ∧ Chain k L k' ∧ L.map (·.i) = List.range' n l.length ∧ Q L k' s':=by
 intro l
 induction l with
 | nil=>intro n k s Q _ h;exact ⟨[],k,s,.nil s,.nil k,rfl,h⟩
 | cons o rest ih =>
  intro n k s Q hl h
  have ho:all.toArray[n]? = some o:=by have:=hl 0;simpa using this.symm
  have hl':∀ j,rest[j]? = all[n + 1 + j]?:=fun j=>by have:=hl (j + 1);rw [show n + 1 + j = n + (j + 1) from by omega];simpa using this
  simp only [AOpsD,semG_eq] at h
  cases hx:(sem all.toArray o k).run s with
  | none=>rw [hx] at h;exact h.elim
  | some out =>
   rw [hx] at h
   cases out with
   | done ws k1 =>
    obtain ⟨hk,h⟩:=h
    obtain ⟨L,k',s',h1,h2,h3,h4⟩:=ih (n + 1) k1 _ _ hl' h
    exact ⟨_,k',s',.cons (it:=⟨n,k,k1,_,_⟩) ho (.done hk hx) h1,.cons (it:=⟨n,k,k1,_,_⟩) hk h2,by simp [h3,List.range'_succ],h4⟩
   | call f args g =>
    obtain ⟨hic,r,k1,hs,h⟩:=h
    obtain ⟨L,k',s',h1,h2,h3,h4⟩:=ih (n + 1) k1 _ _ hl' h
    exact ⟨_,k',s',.cons (it:=⟨n,k,k1,_,_⟩) ho (.call hic hx hs) h1,.cons (it:=⟨n,k,k1,_,_⟩) hs.1 h2,by simp [h3,List.range'_succ],h4⟩
theorem aops_D (ds:List (Option Nat)):∀ (l:List Oper) (n k:Nat) (s:AS) (Q:Nat → AS → Prop),AOps ds l k s Q → AOpsD ds n l k s fun _=>Q:=by
 intro l
 induction l with
 | nil=>intro n k s Q h;exact h
 | cons o rest ih =>
  intro n k s Q h
  simp only [AOps] at h
  simp only [AOpsD]
  cases hx:(semG ds o k).run s with
  | none=>rw [hx] at h;exact h.elim
  | some out =>
   rw [hx] at h
   cases out with
   | done ws k1=>exact ⟨h.1,ih _ _ _ _ h.2⟩
   | call f args g =>
    obtain ⟨hic,r,k1,hs,h⟩:=h
    exact ⟨hic,r,k1,hs,ih _ _ _ _ h⟩
def okD (N:Nat) (l:List Oper):Bool:=l.all fun o=>match o.dst with
 | some d=>decide (d < N)
 | none=>true
theorem okD_dst {N:Nat} {l:List Oper} (h:okD N l = true):okDst N l.toArray = true:=by
 unfold okDst
 rw [List.all_toArray]
 exact h
theorem awp_reg {N k id:Nat} {s:AS} {Q:AExit → Nat → AS → Prop} {l:List Oper} (hd:okD N l = true) (h:AOps (l.map (·.dst)) l k s (Q .norm)):AWp N (.region id l.toArray false) k s Q:=by
 obtain ⟨L,k',s',h1,h2,h3,h4⟩:=aopsD_run l l 0 k s _ te (aops_D _ l 0 k s _ h)
 exact ⟨.norm,k',s',.region (BL:=[]) h1 h2 (by rw [h3,List.range_eq_range'];simp) (okD_dst hd) te,h4⟩
theorem awp_regD {N k id:Nat} {s:AS} {Q:AExit → Nat → AS → Prop} {l:List Oper} (BL:List Nat) (hd:okD N l = true) (hB:okB l.toArray BL = true) (h:AOpsD (l.map (·.dst)) 0 l k s fun L k s=>indep BL L = true ∧ Q .norm k s):AWp N (.region id l.toArray true) k s Q:=by
 obtain ⟨L,k',s',h1,h2,h3,h4,h5⟩:=aopsD_run l l 0 k s _ te h
 exact ⟨.norm,k',s',.region (BL:=BL) h1 h2 (by rw [h3,List.range_eq_range'];simp) (okD_dst hd) (fun _=>⟨hB,h4⟩),h5⟩
theorem Weak.refl (k:Nat) (s:AS):Weak k s k s:=⟨⟨Nat.le_refl _,id⟩,fun B U g a w h=>⟨g,h.weakU fun _ h=>.inl h⟩⟩
theorem Weak.trans {k k1 k2:Nat} {s s1 s2:AS} (h:Weak k s k1 s1) (h':Weak k1 s1 k2 s2):Weak k s k2 s2:=by
 have l1:=h.1.1
 have l2:=h'.1.1
 refine ⟨⟨vG,fun e=>h'.1.2 (h.1.2 e)⟩,fun B U g a w hi=>?_⟩
 obtain ⟨g1,h1⟩:=h.2 B U g a w hi
 obtain ⟨g2,h2⟩:=h'.2 B _ g1 a w h1
 exact ⟨g2,h2.weakU fun l hl=>un_un l1 l2 hl⟩
def okCV (rows:Nat → Option Row):CV → Prop
 | .fv _=>True
 | .own p _=>rows p ≠ none
def okAV (mem:Nat → Option Box) (rows:Nat → Option Row):AV → Prop
 | .any=>True
 | .v _ cs=>∀ c ∈ cs,okCV rows c
 | .addr d _=>mem d ≠ none
 | .elt _ _=>True
 | .eltO p _ _ _=>rows p ≠ none
end Go.Proofs.Ytamjbjkbineafaa.Ev

namespace Go.Proofs.Ytamjbjkbineafaa.Ev
open Go Go.RowKit
set_option linter.unusedVariables false
set_option linter.unusedSimpArgs false
/-- x may be seen as y: labels forgotten, nil as a row without elements. -/
inductive LeF:FV → FV → Prop
 | refl (x:FV):LeF x x
 | nil (t:Nat):LeF (.lit nilV) (.row 0 t [])
 | row {l l' t:Nat} {es es':List (List FV)} (hl:l' = l ∨ l' = 0) (hn:es'.length = es.length) (he:∀ (i:Nat) e e',es[i]? = some e → es'[i]? = some e' → e'.length = e.length)
   (h:∀ (i:Nat) e e',es[i]? = some e → es'[i]? = some e' → ∀ (j:Nat) x y,e[j]? = some x → e'[j]? = some y → LeF x y):LeF (.row l t es) (.row l' t es')
theorem LeF.lab (l t:Nat) (es:List (List FV)):LeF (.row l t es) (.row 0 t es) :=
 .row (.inr rfl) rfl (fun i e e' h h'=>by rw [h] at h';obtain rfl:=Option.some.inj h';rfl) (fun i e e' h h' j x y hx hy=>by
  rw [h] at h';obtain rfl:=Option.some.inj h';rw [hx] at hy;obtain rfl:=Option.some.inj hy;exact .refl _)
theorem LeF.rep {own:Nat → Nat} {ro:Nat → Prop} {w:World} {x y:FV} {v:Value} (h:LeF x y) (hr:Rep own ro w x v):Rep own ro w y v:=by
 induction h generalizing v with
 | refl x=>exact hr
 | nil t =>
  obtain ⟨rfl,_⟩:=rep_lit hr
  exact .row 0 t [] none 0 (fun _ _=>undef) (Nat.le_refl _) te (fun i e h=>by simp at h) (fun i e h=>by simp at h) (fun i e h=>by simp at h) (fun h=>absurd rfl h)
 | @row l l' t es es' hl hn he _ ih =>
  cases hr with
  | row _ _ _ A cap cv hcap hmax hlen hcell hrep hown =>
   have old:∀ (i:Nat) e',es'[i]? = some e' → ∃ e,es[i]? = some e:=fun i e' h=>⟨_,List.getElem?_eq_getElem (by have:=(List.getElem?_eq_some_iff.1 h).1;omega)⟩
   rw [← hn] at hcap hmax hown ⊢
   refine .row l' t es' A cap cv hcap hmax (fun i e' h'=>?_) (fun i e' h'=>?_) (fun i e' h' j y hy=>?_) (fun h0=>?_)
   ·obtain ⟨e,h⟩:=old i e' h'
    rw [he i e e' h h']
    exact hlen i e h
   ·obtain ⟨e,h⟩:=old i e' h'
    obtain ⟨ad,a1,a2,a3⟩:=hcell i e h
    refine ⟨ad,a1,a2,fun j y hy=>?_⟩
    have hj:j < e.length:=by rw [← he i e e' h h'];exact wA
    exact a3 j _ (List.getElem?_eq_getElem hj)
   ·obtain ⟨e,h⟩:=old i e' h'
    have hj:j < e.length:=by rw [← he i e e' h h'];exact wA
    exact ih i e e' h h' j _ y (List.getElem?_eq_getElem hj) hy (hrep i e h j _ (List.getElem?_eq_getElem hj))
   ·rcases hl with rfl|rfl
    ·exact hown h0
    ·exact absurd rfl h0
def LeP (a b:PV):Prop:=a.sh = b.sh ∧ All2 LeF a.cs b.cs
theorem LeP.rep {own:Nat → Nat} {ro:Nat → Prop} {w:World} {a b:PV} {v:Value} (h:LeP a b) (hr:RepPV own ro w a v):RepPV own ro w b v:=by
 obtain ⟨h1,h2⟩:=h
 obtain ⟨vs,rfl,h3⟩:=hr
 refine ⟨vs,by rw [h1],?_⟩
 clear h1
 revert h2 h3
 generalize a.cs = xs
 generalize b.cs = ys
 intro h2 h3
 exact All2.of_get (by rw [← h2.length,h3.length]) (fun i y v hy hv=>by
  have hlt:i < xs.length:=by rw [h2.length];exact wA
  have hx:=List.getElem?_eq_getElem hlt
  obtain ⟨y',hy',hle⟩:=h2.get i _ hx
  obtain ⟨v',hv',hr⟩:=h3.get i _ hx
  rw [hy] at hy';rw [hv] at hv'
  obtain rfl:=Option.some.inj hy'
  obtain rfl:=Option.some.inj hv'
  exact hle.rep hr)
theorem SemCall.args {f k k':Nat} {as_ bs:List PV} {r:RV} (h:SemCall f bs k r k') (hle:All2 LeP as_ bs):SemCall f as_ k r k':=by
 obtain ⟨h1,h2,h3,h4,h5,h6⟩:=h
 refine ⟨h1,h2,h3,h4,h5,fun own ro w vs hf hro ha=>h6 own ro w vs hf hro ?_⟩
 exact All2.of_get (by rw [← hle.length,ha.length]) (fun i b v hb hv=>by
  have hlt:i < as_.length:=by rw [hle.length];exact (List.getElem?_eq_some_iff.1 hb).1
  have hx:=List.getElem?_eq_getElem hlt
  obtain ⟨b',hb',hl⟩:=hle.get i _ hx
  obtain ⟨v',hv',hr⟩:=ha.get i _ hx
  rw [hb] at hb';rw [hv] at hv'
  obtain rfl:=Option.some.inj hb'
  obtain rfl:=Option.some.inj hv'
  exact hl.rep hr)
inductive LeC:RC → RC → Prop
 | refl (c:RC):LeC c c
 | fv {x y:FV} (h:LeF x y):LeC (.fv x) (.fv y)
 | nil (t:Nat):LeC (.fv (.lit nilV)) (.own 0 t [])
 | fz {l t:Nat} {es:List (List FV)} {y:FV} (h:LeF (.row l t es) y):LeC (.own l t es) (.fv y)
def LeV (a b:RV):Prop:=a.sh = b.sh ∧ All2 LeC a.cs b.cs
theorem own_rep {own:Nat → Nat} {ro:Nat → Prop} {w:World} {base l t:Nat} {es:List (List FV)} {v:Value} {xs:List Value} (h1:w.ownsRow base t (tsz t) v es.length xs) (h2:Flat (Rep own ro w) t es xs) (h3:∀ b,v.ownBlock = some b → own b = l ∧ ro b):Rep own ro w (.row l t es) v:=by
 obtain ⟨A,cap,rfl,hle⟩:=owns_slice h1
 refine .row l t es A cap (fun i j=>(xs[i * tsz t + j]?).getD undef) hle (owns_max h1) h2.1 (fun i e he=>?_) (fun i e he j x hx=>?_) (fun _=>⟨xs,⟨h1.1,?_⟩,fun ad ha=>?_⟩)
 ·have hpos:0 < es.length:=by have:=(List.getElem?_eq_some_iff.1 he).1;omega
  obtain ⟨b,cap',hv',_,_⟩:=h1.form hpos
  injection hv' with ha _ _
  refine ⟨_,ha,(h3 b (by rw [ha];rfl)).2,fun j x hx=>?_⟩
  obtain ⟨u,hu,_⟩:=h2.2 i e he j x hx
  rw [hu]
  exact h1.cells (g:=b) (by rw [ha];rfl) _ u hu
 ·obtain ⟨u,hu,hr⟩:=h2.2 i e he j x hx
  simp only [hu,Option.getD_some]
  exact hr
 ·rcases h1.2 with h|⟨g',c',cur,e1,_,r⟩
  ·exact .inl h
  ·exact .inr ⟨g',c',cur,e1,Nat.zero_le _,r⟩
 ·subst ha
  exact h3 ad.block rfl
open Classical in
noncomputable def tgBut (cs:List RC) (tg:Nat → Nat) (b:Nat):Nat:=if ∃ i l t es,cs[i]? = some (.own l t es) ∧ tg b = i + 1 then tg b else 0
theorem SemCall.res {f k k':Nat} {as_:List PV} {r r':RV} (h:SemCall f as_ k r k') (hle:LeV r r'):SemCall f as_ k r' k':=by
 obtain ⟨h1,h2,h3,h4,h5,h6⟩:=h
 obtain ⟨e1,e2⟩:=hle
 have old:∀ (i:Nat) c',r'.cs[i]? = some c' → ∃ c,r.cs[i]? = some c ∧ LeC c c':=fun i c' h=>by
  have hlt:i < r.cs.length:=by rw [e2.length];exact (List.getElem?_eq_some_iff.1 h).1
  obtain ⟨b,hb,hl⟩:=e2.get i _ (List.getElem?_eq_getElem hlt)
  rw [h] at hb
  obtain rfl:=Option.some.inj hb
  exact ⟨_,List.getElem?_eq_getElem hlt,hl⟩
 refine ⟨h1,h2,fun h=>by rw [← e2.length];exact h3 (e1.trans h),fun h hn=>h4 (e1.trans h) (List.eq_nil_of_length_eq_zero (by rw [e2.length,hn];rfl)),fun l t es hm=>?_,fun own ro w vs hf hro ha=>(h6 own ro w vs hf hro ha).mono ?_⟩
 ·obtain ⟨i,hi⟩:=List.mem_iff_getElem?.1 hm
  obtain ⟨c,hc,hl⟩:=old i _ hi
  cases hl with
  | refl=>exact h5 l t es (List.mem_of_getElem? hc)
  | nil=>exact .inl rfl
 ·rintro e w' ⟨v,own',tg,q1,q2,q3,q4,⟨us,u1,u2,u3⟩,q6⟩
  -- what is no longer handed over is no one's row
  let tg':Nat → Nat:=tgBut r'.cs tg
  have tgl:∀ b,tg b = 0 → tg' b = 0:=fun b hb=>by
   simp only [tg',tgBut]
   split
   ·exact hb
   ·rfl
  have tgr:∀ (i:Nat) l t es b,r'.cs[i]? = some (.own l t es) → tg b = i + 1 → tg' b = i + 1:=fun i l t es b h1 h2=>by
   simp only [tg',tgBut]
   rw [if_pos ⟨i,l,t,es,h1,h2⟩,h2]
  have tgn:∀ (i:Nat) c b,r'.cs[i]? = some (.fv c) → tg b = i + 1 → tg' b = 0:=fun i c b h1 h2=>by
   simp only [tg',tgBut]
   rw [if_neg]
   rintro ⟨i',l,t,es,h3,h4⟩
   have:i = i':=by omega
   subst this
   rw [h1] at h3
   cases h3
  refine ⟨v,own',tg',q1,q2,q3,fun b hb=>tgl b (q4 b hb),⟨us,by rw [← e1];exact u1,by rw [u2,e2.length],fun i c' u hc' hu=>?_⟩,q6⟩
  obtain ⟨c,hc,hl⟩:=old i c' hc'
  have hr:=u3 i c u hc hu
  have mv:∀ {x:FV} {v:Value},Rep own' (fun b=>(ro b ∨ (w.heap.size ≤ b ∧ b < w'.heap.size)) ∧ tg b = 0) w' x v → Rep own' (fun b=>(ro b ∨ (w.heap.size ≤ b ∧ b < w'.heap.size)) ∧ tg' b = 0) w' x v:=fun h=>h.move (fun b hb=>⟨⟨hb.1,tgl b hb.2⟩,rfl,rfl⟩)
  cases hl with
  | refl =>
   cases c' with
   | fv x=>exact mv hr
   | own l t es =>
    obtain ⟨xs,o1,o2,o3⟩:=hr
    exact ⟨xs,o1,o2.imp (fun _ _ h=>mv h),fun b hb=>⟨(o3 b hb).1,tgr i l t es b hc' (o3 b hb).2⟩⟩
  | fv h=>exact h.rep (mv hr)
  | nil t =>
   obtain ⟨rfl,_⟩:=rep_lit hr
   exact ⟨[],World.ownsRow_nil _ _ _ _,⟨fun i e h=>by simp at h,fun i e h=>by simp at h⟩,fun b hb=>by cases hb⟩
  | @fz l t es y h =>
   obtain ⟨xs,o1,o2,o3⟩:=hr
   exact h.rep (own_rep o1 (o2.imp (fun _ _ h=>mv h)) (fun b hb=>⟨(o3 b hb).1,.inr (o1.lt b hb),tgn i y b hc' (o3 b hb).2⟩))
theorem SemCall.at_ {f:Nat} {as_:List PV} {r:RV} (h:SemCall f as_ 0 r 0) (k:Nat):SemCall f as_ k r k:=by
 obtain ⟨h1,h2,h3,h4,h5,h6⟩:=h
 refine ⟨⟨Nat.le_refl _,id⟩,h2,h3,h4,fun l t es hm=>.inl ?_,fun own ro w vs hf hro ha=>(h6 own ro w vs (fun b _=>by omega) hro ha).mono ?_⟩
 ·rcases h5 l t es hm with h|h
  ·exact h
  ·omega
 ·rintro e w' ⟨v,own',tg,q1,q2,q3,q4⟩
  exact ⟨v,own',tg,q1,q2,fun b h1 h2=>.inl (by rcases q3 b h1 h2 with h|h;exact h;omega),q4⟩
end Go.Proofs.Ytamjbjkbineafaa.Ev

namespace Go.Proofs.Ytamjbjkbineafaa.Ev
open Go Go.RowKit
set_option linter.unusedVariables false
set_option linter.unusedSimpArgs false
def mk:List (Nat × AV) → Nat → AV
 | [],_=>.any
 | (j,x) :: r,i=>if i = j then x else mk r i
def mo {α:Type}:List (Nat × α) → Nat → Option α
 | [],_=>none
 | (j,x) :: r,i=>if i = j then some x else mo r i
theorem mk_nil (i:Nat):mk [] i = .any:=rfl
theorem mk_at (j:Nat) (x:AV) (r:List (Nat × AV)) (i:Nat):mk ((j,x) :: r) i = if i = j then x else mk r i:=rfl
theorem mo_nil {α:Type} (i:Nat):mo ([]:List (Nat × α)) i = none:=rfl
theorem mo_at {α:Type} (j:Nat) (x:α) (r:List (Nat × α)) (i:Nat):mo ((j,x) :: r) i = if i = j then some x else mo r i:=rfl
theorem beq_dec (a b:Int):(a == b) = decide (a = b):=by by_cases h:a = b <;> simp [h]
theorem bne_dec (a b:Int):(a != b) = !decide (a = b):=by by_cases h:a = b <;> simp [h]
/-- A variable's cell seen as another: in rows that are there. -/
inductive LeK (src rows:Nat → Option Row):CV → CV → Prop
 | fv {x y:FV} (h:LeF x y):LeK src rows (.fv x) (.fv y)
 | own {p n:Nat} (h:rows p ≠ none):LeK src rows (.own p n) (.own p n)
 | fz {p:Nat} {r:Row} {y:FV} (h:src p = some r) (hf:r.fz = true) (hl:LeF (.row r.l r.t r.es) y):LeK src rows (.own p r.es.length) (.fv y)
inductive LeA (mem:Nat → Option Box) (src rows:Nat → Option Row):AV → AV → Prop
 | any (x:AV):LeA mem src rows x .any
 | v {sh:Sh} {cs ds:List CV} (h:All2 (LeK src rows) cs ds):LeA mem src rows (.v sh cs) (.v sh ds)
 | addr {d off:Nat} (h:mem d ≠ none):LeA mem src rows (.addr d off) (.addr d off)
def LeR (a b:Row):Prop:=a.l = b.l ∧ a.t = b.t ∧ a.fz = b.fz ∧ All2 (All2 LeF) a.es b.es
theorem LeR.refl (a:Row):LeR a a:=by
 refine ⟨rfl,rfl,rfl,?_⟩
 have hx:∀ xs:List FV,All2 LeF xs xs:=fun xs=>All2.of_get rfl (fun i a b h h'=>by rw [h] at h';obtain rfl:=Option.some.inj h';exact .refl _)
 exact All2.of_get rfl (fun i a b h h'=>by rw [h] at h';obtain rfl:=Option.some.inj h';exact hx _)
theorem weak_to {k:Nat} {s s1:AS} (ht:∀ i,LeA s1.mem s.rows s1.rows (s.tm i) (s1.tm i)) (hm:∀ d b,s1.mem d = some b → ∃ b0,s.mem d = some b0 ∧ b.t = b0.t ∧ All2 (LeK s.rows s1.rows) b0.cs b.cs) (hr:∀ p r,s1.rows p = some r → ∃ r0,s.rows p = some r0 ∧ LeR r0 r):Weak k s k s1:=by
 refine ⟨⟨Nat.le_refl _,id⟩,fun B U g a w hi=>⟨g,?_⟩⟩
 have hC:∀ c c' v,LeK s.rows s1.rows c c' → RepC g s.rows w c v → RepC g s1.rows w c' v:=fun c c' v hc h=>by
  cases hc with
  | fv hl=>exact hl.rep h
  | @fz p r y hs hf hl =>
   obtain ⟨r',h1,h2,h3,h4⟩:=h
   rw [hs] at h1
   obtain rfl:=Option.some.inj h1
   rw [h3 rfl]
   have hrow:=hi.rows _ _ hs
   exact hl.rep (row_rep hrow (fun b hb=>by
    obtain ⟨_,_,_,z3⟩:=hrow
    have:=(z3 b hb).2
    rwa [hf] at this))
  | @own p n hp =>
   obtain ⟨r,h1,h2,h3,h4⟩:=h
   cases hq:s1.rows p with
   | none=>exact absurd hq hp
   | some r1 =>
    obtain ⟨r0,e1,e2⟩:=hr p r1 hq
    rw [h1] at e1
    obtain rfl:=Option.some.inj e1
    have hl:=e2.2.2.2.length
    exact ⟨r1,hq,vG,fun e=>h3 tD,h4⟩
 refine ⟨hi.below,hi.defers,hi.size,fun i=>?_,fun d b hb=>?_,fun p r hp=>?_,hi.old,fun b h1 h2=>(hi.new b h1 h2).imp id .inl,fun p r hp=>?_⟩
 ·have h:=hi.tms i
  have hl:=ht i
  revert h hl
  generalize s.tm i = x
  generalize s1.tm i = y
  intro h hl
  cases hl with
  | any=>trivial
  | @v sh cs ds hcd =>
   obtain ⟨vs,h1,h2,h3,h4⟩:=h
   refine ⟨vs,h1,All2.of_get (by rw [← hcd.length,h2.length]) (fun i c v hc hv=>?_),fun e=>by rw [← hcd.length];exact h3 e,fun e q=>h4 e (List.eq_nil_of_length_eq_zero (by rw [hcd.length,q];rfl))⟩
   have hlt:i < cs.length:=by rw [hcd.length];exact (List.getElem?_eq_some_iff.1 hc).1
   obtain ⟨c',hc',hl'⟩:=hcd.get i _ (List.getElem?_eq_getElem hlt)
   obtain ⟨v',hv',hr'⟩:=h2.get i _ (List.getElem?_eq_getElem hlt)
   rw [hc] at hc';rw [hv] at hv'
   obtain rfl:=Option.some.inj hc'
   obtain rfl:=Option.some.inj hv'
   exact hC _ _ _ hl' hr'
  | addr hd=>exact ⟨hd,h.2⟩
 ·obtain ⟨b0,e1,e2,e3⟩:=hm d b hb
  obtain ⟨cs,q1,q2,q3,q4⟩:=hi.boxes d b0 e1
  refine ⟨cs,by rw [e2];exact q1,q2,q3,All2.of_get (by rw [← e3.length,q4.length]) (fun i c v hc hv=>?_)⟩
  have hlt:i < b0.cs.length:=by rw [e3.length];exact (List.getElem?_eq_some_iff.1 hc).1
  obtain ⟨c',hc',hl'⟩:=e3.get i _ (List.getElem?_eq_getElem hlt)
  obtain ⟨v',hv',hr'⟩:=q4.get i _ (List.getElem?_eq_getElem hlt)
  rw [hc] at hc';rw [hv] at hv'
  obtain rfl:=Option.some.inj hc'
  obtain rfl:=Option.some.inj hv'
  exact hC _ _ _ hl' hr'
 ·obtain ⟨r0,e1,e2,e3,e4,e5⟩:=hr p r hp
  obtain ⟨xs,q1,q2,q3⟩:=hi.rows p r0 e1
  refine ⟨xs,by rw [← e3,← e5.length];exact q1,⟨fun i e he=>?_,fun i e he j y hy=>?_⟩,fun b hb=>by rw [← e2,← e4];exact q3 b hb⟩
  ·have hlt:i < r0.es.length:=by rw [e5.length];exact (List.getElem?_eq_some_iff.1 he).1
   obtain ⟨e',he',hl⟩:=e5.get i _ (List.getElem?_eq_getElem hlt)
   rw [he] at he'
   obtain rfl:=Option.some.inj he'
   rw [← hl.length,← e3]
   exact q2.1 i _ (List.getElem?_eq_getElem hlt)
  ·have hlt:i < r0.es.length:=by rw [e5.length];exact (List.getElem?_eq_some_iff.1 he).1
   obtain ⟨e',he',hl⟩:=e5.get i _ (List.getElem?_eq_getElem hlt)
   rw [he] at he'
   obtain rfl:=Option.some.inj he'
   have hj:j < (r0.es[i]).length:=by rw [hl.length];exact wA
   obtain ⟨y',hy',hle⟩:=hl.get j _ (List.getElem?_eq_getElem hj)
   rw [hy] at hy'
   obtain rfl:=Option.some.inj hy'
   obtain ⟨u,hu,hru⟩:=q2.2 i _ (List.getElem?_eq_getElem hlt) j _ (List.getElem?_eq_getElem hj)
   exact ⟨u,by rw [← e3];exact hu,hle.rep hru⟩
 ·obtain ⟨r0,e1,e2,_⟩:=hr p r hp
  rw [← e2]
  exact (hi.labs p r0 e1).imp id .inl
theorem weak_mk {k:Nat} {s:AS} {l:List (Nat × AV)} {m:List (Nat × Box)} {r:List (Nat × Row)} (ht:∀ p ∈ l,LeA (mo m) s.rows (mo r) (s.tm p.1) p.2) (hm:∀ p ∈ m,∃ b0,s.mem p.1 = some b0 ∧ p.2.t = b0.t ∧ All2 (LeK s.rows (mo r)) b0.cs p.2.cs) (hr:∀ p ∈ r,∃ r0,s.rows p.1 = some r0 ∧ LeR r0 p.2):Weak k s k ⟨mk l,mo m,mo r⟩:=by
 have mo_mem:∀ {α:Type} (l:List (Nat × α)) i x,mo l i = some x → (i,x) ∈ l:=by
  intro α l
  induction l with
  | nil=>intro i x h;cases h
  | cons p l ih =>
   intro i x h
   obtain ⟨j,y⟩:=p
   simp only [mo] at h
   split at h
   ·rename_i e;subst e;obtain rfl:=Option.some.inj h;simp
   ·exact List.mem_cons_of_mem _ (ih i x h)
 refine weak_to (fun i=>?_) (fun d b hb=>hm _ (mo_mem m d b hb)) (fun p x hx=>hr _ (mo_mem r p x hx))
 show LeA (mo m) s.rows (mo r) (s.tm i) (mk l i)
 clear hm hr
 revert ht
 generalize mo m = m'
 generalize mo r = r'
 intro ht
 induction l with
 | nil=>exact .any _
 | cons p l ih =>
  obtain ⟨j,y⟩:=p
  simp only [mk]
  split
  ·rename_i e;subst e;exact ht (i,y) te
  ·exact ih (fun q hq=>ht q (by simp [hq]))
theorem weak_adopt {k d j p t:Nat} {s:AS} {b:Box} (hd:s.mem d = some b) (hj:b.cs[j]? = some (.fv (.lit nilV))) (hp:s.rows p = none) :
  Weak k s (nx k) { s with mem:=upd s.mem d (some ⟨b.t,b.cs.set j (.own p 0)⟩),rows:=upd s.rows p (some ⟨k,t,[],false⟩) }:=by
 refine ⟨⟨by unfold nx;split <;> omega,fun h=>by unfold nx;rw [if_pos h]⟩,fun B U g a w hi=>?_⟩
 have hi2:=inv_addrow (p:=p) (r:=⟨k,t,[],false⟩) (v:=nilV) (hi.weakU (V:=Un U k (nx k)) fun _ h=>.inl h) hp ⟨[],by
  show w.ownsRow _ _ _ (upd g.hd p nilV p) _ _
  rw [upd_same]
  exact World.ownsRow_nil _ _ _ _,⟨fun i e h=>by simp at h,fun i e h=>by simp at h⟩,fun b hb=>by
   have:(nilV:Value).ownBlock = some b:=by rw [← hb];show _ = Value.ownBlock (upd g.hd p nilV p);rw [upd_same]
   cases this⟩ (nx_in U k)
 refine ⟨{ g with hd:=upd g.hd p nilV },?_⟩
 obtain ⟨cs,q1,q2,q3,q4⟩:=hi2.boxes d b hd
 have hjr:RepC { g with hd:=upd g.hd p nilV } (upd s.rows p (some ⟨k,t,[],false⟩)) w (.own p 0) nilV:=⟨_,upd_same _ _ _,Nat.le_refl _,fun _=>(upd_same g.hd p nilV).symm,rfl⟩
 have hG:∀ c v,RepC { g with hd:=upd g.hd p nilV } (upd s.rows p (some ⟨k,t,[],false⟩)) w c v → RepC { g with hd:=upd g.hd p nilV } (upd s.rows p (some ⟨k,t,[],false⟩)) w c v:=fun _ _ h=>h
 refine ⟨hi2.below,hi2.defers,hi2.size,fun i=>?_,fun d' b' hb=>?_,hi2.rows,hi2.old,hi2.new,hi2.labs⟩
 ·have h:=hi2.tms i
  revert h
  show RepA _ s.mem _ w (s.tm i) _ → RepA _ (upd s.mem d _) _ w (s.tm i) _
  generalize s.tm i = x
  intro h
  cases x with
  | addr d' off =>
   refine ⟨?_,h.2⟩
   simp only [upd]
   split
   ·simp
   ·exact h.1
  | _=>exact h
 ·simp only [upd] at hb
  split at hb
  ·rename_i e
   subst e
   obtain rfl:=Option.some.inj hb
   refine ⟨cs,q1,q2,q3,All2.of_get (by rw [List.length_set];exact q4.length) (fun i c v hc hv=>?_)⟩
   rw [List.getElem?_set] at hc
   split at hc
   ·rename_i e
    subst e
    split at hc
    ·obtain rfl:=Option.some.inj hc
     obtain ⟨v',hv',hr⟩:=q4.get j _ hj
     rw [hv] at hv'
     obtain rfl:=Option.some.inj hv'
     obtain ⟨rfl,_⟩:=rep_lit hr
     exact hjr
    ·cases hc
   ·obtain ⟨v',hv',hr⟩:=q4.get i c hc
    rw [hv] at hv'
    obtain rfl:=Option.some.inj hv'
    exact hr
  ·exact hi2.boxes d' b' hb
theorem weak_fz {k p:Nat} {s:AS} {r:Row} (hp:s.rows p = some r):Weak k s k { s with rows:=upd s.rows p (some { r with fz:=true }) }:=by
 refine ⟨⟨Nat.le_refl _,id⟩,fun B U g a w hi=>?_⟩
 by_cases hz:r.fz = true
 ·have e:upd s.rows p (some { r with fz:=true }) = s.rows:=by
   funext q
   simp only [upd]
   split
   ·rename_i e;subst e;rw [hp];cases r;simp at hz;simp [hz]
   ·rfl
  rw [e]
  exact ⟨g,hi.weakU fun _ h=>.inl h⟩
 ·obtain ⟨g',h1,_⟩:=freeze1 hi (r:=r) (.inl hp)
  have e:fzW p r = [.row p (some { r with fz:=true })]:=by unfold fzW;rw [if_neg hz]
  rw [e] at h1
  exact ⟨g',h1.weakU fun _ h=>.inl h⟩
theorem call_of {f N k : Nat} {fn : Func} {c : Code} {args : List PV} {P : RV → Nat → Prop} (hf : Try.prog.funcs[f]? = some fn) (hname : (fn.name == "runtime.NumGoroutine") = false) (hb : fn.body = some c) (hN : fn.ntmps = N) (hlen : args.length ≤ N)
  (hsh:∀ p ∈ args,(p.sh = .one → p.cs.length = 1) ∧ p.sh ≠ .pr)
  (h:AWp N c k (start args) fun e k' s=>(e = .ret ∨ e = .norm) ∧ ∃ r,resOf fn.results.toList s = some r ∧ (∀ l t es,RC.own l t es ∈ r.cs → l = 0 ∨ (k ≤ l ∧ l < k')) ∧ P r k'):∃ r k',SemCall f args k r k' ∧ P r k':=by
 obtain ⟨e,k',s',h1,h2,r,h3,h4,h5⟩:=h
 exact ⟨r,k',semcall_of hf hname hb hN hlen hsh h1 h2 h3 h4,h5⟩
theorem call0_of {f N : Nat} {fn : Func} {c : Code} {args : List PV} {r : RV} (hf : Try.prog.funcs[f]? = some fn) (hname : (fn.name == "runtime.NumGoroutine") = false) (hb : fn.body = some c) (hN : fn.ntmps = N) (hlen : args.length ≤ N)
  (hsh:∀ p ∈ args,(p.sh = .one → p.cs.length = 1) ∧ p.sh ≠ .pr)
  (h:AWp N c 0 (start args) fun e k' s=>(e = .ret ∨ e = .norm) ∧ k' = 0 ∧ ∃ r0,resOf fn.results.toList s = some r0 ∧ (∀ l t es,RC.own l t es ∈ r0.cs → l = 0) ∧ LeV r0 r):SemCall f args 0 r 0:=by
 obtain ⟨e,k',s',h1,h2,rfl,r0,h3,h4,h5⟩:=h
 exact (semcall_of hf hname hb hN hlen hsh h1 h2 h3 (fun l t es hm=>.inl (h4 l t es hm))).res h5
theorem kok_same (k:Nat):Kok k k = True:=eq_true ⟨Nat.le_refl _,id⟩
theorem kok_nx (k:Nat):Kok k (nx k) = True:=eq_true ⟨by unfold nx;split <;> omega,fun h=>by unfold nx;rw [if_pos h]⟩
theorem nx_zero:nx 0 = 0:=rfl
section
variable {N k:Nat} {s:AS} {Q:AExit → Nat → AS → Prop} {id:Nat} {l:List Oper} {x y:Code} {c:Operand}
theorem condT (hc:s.ev c = litA (.bool true)) (h:AWp N x k s Q):AWp N (.cond c x y) k s Q:=awp_cond hc (fun _=>h) (fun e=>by cases e)
theorem condF (hc:s.ev c = litA (.bool false)) (h:AWp N y k s Q):AWp N (.cond c x y) k s Q:=awp_cond hc (fun e=>by cases e) (fun _=>h)
theorem loopW {c:Code} (I:Nat → Nat → AS → Prop) (n:Nat) (h0:∃ k1 s1,Weak k s k1 s1 ∧ I n k1 s1) (hr:∀ m k s,I m k s → AWp N c k s (thenQ (fun k' s'=>∃ m' k1 s1,m' < m ∧ Weak k' s' k1 s1 ∧ I m' k1 s1) Q)):AWp N (.loop c) k s Q:=by
 obtain ⟨k1,s1,h1,h2⟩:=h0
 exact awp_weak h1 (awp_loop I n h2 hr)
end
def fzR (ids:List Nat) (rows:Nat → Option Row) (q:Nat):Option Row:=if ids.contains q = true then (rows q).map fun r=>{ r with fz:=true } else rows q
theorem weak_fzs {k:Nat}:∀ (ids:List Nat) (s:AS),Weak k s k { s with rows:=fzR ids s.rows }
 | [],s=>⟨⟨Nat.le_refl _,id⟩,fun B U g a w hi=>⟨g,hi.weakU fun _ h=>.inl h⟩⟩
 | p :: ids,s=>by
  cases hp:s.rows p with
  | none =>
   have e:fzR (p :: ids) s.rows = fzR ids s.rows:=by
    funext q
    simp only [fzR,List.contains_cons,Bool.or_eq_true,beq_iff_eq]
    by_cases h:q = p
    ·subst h;simp [hp]
    ·simp [h]
   rw [e]
   exact weak_fzs ids s
  | some r =>
   have e:fzR (p :: ids) s.rows = fzR ids (upd s.rows p (some { r with fz:=true })):=by
    funext q
    simp only [fzR,List.contains_cons,Bool.or_eq_true,beq_iff_eq,upd]
    by_cases h:q = p
    ·subst h;simp [hp]
    ·simp [h]
   rw [e]
   obtain ⟨h1,h2⟩:=weak_fz (k:=k) hp
   obtain ⟨h3,h4⟩:=weak_fzs (k:=k) ids { s with rows:=upd s.rows p (some { r with fz:=true }) }
   refine ⟨h3,fun B U g a w hi=>?_⟩
   obtain ⟨g',hi⟩:=h2 B U g a w hi
   obtain ⟨g'',hi⟩:=h4 B _ g' a w hi
   exact ⟨g'',hi.weakU fun _ h=>by rcases h with (h|h)|h;exact .inl h;exact .inr h;exact .inr h⟩
def leK (src rows:Nat → Option Row):CV → CV → Prop
 | .fv x,.fv y=>LeF x y
 | .own p n,.own q m=>p = q ∧ n = m ∧ (rows p).isSome = true
 | .own p n,.fv y=>match src p with
  | some r=>r.fz = true ∧ n = r.es.length ∧ LeF (.row r.l r.t r.es) y
  | none=>False
 | _,_=>False
def leL (src rows:Nat → Option Row):List CV → List CV → Prop
 | [],[]=>True
 | x :: xs,y :: ys=>leK src rows x y ∧ leL src rows xs ys
 | _,_=>False
def leA (mem:Nat → Option Box) (src rows:Nat → Option Row):AV → AV → Prop
 | _,.any=>True
 | .v sh cs,.v sh' ds=>sh = sh' ∧ leL src rows cs ds
 | .addr d off,.addr d' off'=>d = d' ∧ off = off' ∧ (mem d).isSome = true
 | _,_=>False
def tmOk (mem:Nat → Option Box) (src rows:Nat → Option Row) (tm:Nat → AV):List (Nat × AV) → Prop
 | []=>True
 | p :: r=>leA mem src rows (tm p.1) p.2 ∧ tmOk mem src rows tm r
def boxOk (src rows:Nat → Option Row):Option Box → Box → Prop
 | some b0,b=>b0.t = b.t ∧ leL src rows b0.cs b.cs
 | none,_=>False
def memOk (src rows:Nat → Option Row) (mem:Nat → Option Box):List (Nat × Box) → Prop
 | []=>True
 | p :: r=>boxOk src rows (mem p.1) p.2 ∧ memOk src rows mem r
def leE (a b:List (List FV)):Prop:=All2 (All2 LeF) a b
def rowOk:Option Row → Row → Prop
 | some a,b=>a.l = b.l ∧ a.t = b.t ∧ a.fz = b.fz ∧ leE a.es b.es
 | none,_=>False
def rowsOk (rows:Nat → Option Row):List (Nat × Row) → Prop
 | []=>True
 | p :: r=>rowOk (rows p.1) p.2 ∧ rowsOk rows r
theorem leF_same (x:FV):LeF x x = True:=eq_true (.refl x)
theorem leE_same (a:List (List FV)):leE a a = True:=eq_true (LeR.refl ⟨0,0,a,false⟩).2.2.2
theorem leK_spec {src rows:Nat → Option Row} {a b:CV} (h:leK src rows a b):LeK src rows a b:=by
 cases a <;> cases b <;> simp only [leK] at h
 ·exact .fv h
 ·revert h
  split
  ·rename_i hs
   rintro ⟨h1,rfl,h3⟩
   exact .fz hs h1 h3
  ·exact False.elim
 ·obtain ⟨rfl,rfl,h⟩:=h
  exact .own (fun e=>by rw [e] at h;cases h)
theorem leL_spec {src rows:Nat → Option Row}:∀ {a b:List CV},leL src rows a b → All2 (LeK src rows) a b
 | [],[],_=>.nil
 | _ :: _,_ :: _,h=>.cons (leK_spec h.1) (leL_spec h.2)
theorem leA_spec {mem:Nat → Option Box} {src rows:Nat → Option Row} {a b:AV} (h:leA mem src rows a b):LeA mem src rows a b:=by
 cases b with
 | any=>exact .any _
 | _=>cases a <;> simp only [leA] at h <;> first
  | (obtain ⟨rfl,h⟩:=h;exact .v (leL_spec h))
  | (obtain ⟨rfl,rfl,h⟩:=h;exact .addr (fun e=>by rw [e] at h;cases h))
theorem weakL (ids:List Nat) {k:Nat} {s:AS} {l:List (Nat × AV)} {m:List (Nat × Box)} {r:List (Nat × Row)} (h:tmOk (mo m) (fzR ids s.rows) (mo r) s.tm l ∧ memOk (fzR ids s.rows) (mo r) s.mem m ∧ rowsOk (fzR ids s.rows) r):Weak k s k ⟨mk l,mo m,mo r⟩:=by
 suffices hs:Weak k { s with rows:=fzR ids s.rows } k ⟨mk l,mo m,mo r⟩ by
  obtain ⟨h1,h2⟩:=weak_fzs (k:=k) ids s
  obtain ⟨h3,h4⟩:=hs
  refine ⟨h3,fun B U g a w hi=>?_⟩
  obtain ⟨g',hi⟩:=h2 B U g a w hi
  obtain ⟨g'',hi⟩:=h4 B _ g' a w hi
  exact ⟨g'',hi.weakU fun _ h=>by rcases h with (h|h)|h;exact .inl h;exact .inr h;exact .inr h⟩
 obtain ⟨h1,h2,h3⟩:=h
 revert h1 h2 h3
 generalize hs:fzR ids s.rows = src
 intro h1 h2 h3
 refine weak_mk ?_ ?_ ?_
 ·revert h1
  generalize mo m = m'
  generalize mo r = r'
  intro h1
  induction l with
  | nil=>intro p hp;cases hp
  | cons q l ih =>
   intro p hp
   rcases List.mem_cons.1 hp with rfl|hp
   ·exact leA_spec h1.1
   ·exact ih h1.2 p hp
 ·clear h1 h3
  generalize mo r = r' at *
  induction m with
  | nil=>intro p hp;cases hp
  | cons q m ih =>
   intro p hp
   rcases List.mem_cons.1 hp with rfl|hp
   ·have h:=h2.1
    revert h
    cases s.mem p.1 with
    | none=>intro h;exact h.elim
    | some b0=>intro h;exact ⟨b0,rfl,h.1.symm,leL_spec h.2⟩
   ·exact ih h2.2 p hp
 ·clear h1 h2
  induction r with
  | nil=>intro p hp;cases hp
  | cons q r ih =>
   intro p hp
   rcases List.mem_cons.1 hp with rfl|hp
   ·show ∃ r0,src p.1 = some r0 ∧ LeR r0 p.2
    have h:=h3.1
    revert h
    cases src p.1 with
    | none=>intro h;exact h.elim
    | some r0=>intro h;exact ⟨r0,rfl,h⟩
   ·exact ih h3.2 p hp
def startL:Nat → List PV → List (Nat × AV)
 | _,[]=>[]
 | i,p :: ps=>(i,.v p.sh (p.cs.map .fv)) :: startL (i + 1) ps
theorem start_eq (args:List PV):start args = ⟨mk (startL 0 args),fun _=>none,fun _=>none⟩:=by
 have h:∀ (ps:List PV) (j i:Nat),mk (startL j ps) i = if j ≤ i then (match ps[i - j]? with|some p=>.v p.sh (p.cs.map .fv)|none=>.any) else .any:=by
  intro ps
  induction ps with
  | nil=>intro j i;simp [startL,mk]
  | cons p ps ih =>
   intro j i
   simp only [startL,mk,ih]
   by_cases e:i = j
   ·subst e;simp
   ·rw [if_neg e]
    by_cases hlt:j ≤ i
    ·rw [if_pos hlt,if_pos tD,show i - j = (i - (j + 1)) + 1 from by omega]
     simp
    ·rw [if_neg hlt,if_neg tD]
 unfold start
 congr 1
 funext i
 rw [h,if_pos (Nat.zero_le _)]
 rfl
def okP:List PV → Bool
 | []=>true
 | p :: ps=>(match p.sh,p.cs with
  | .one,[_]=>true
  | .agg,_=>true
  | _,_=>false) && okP ps
theorem okP_spec:∀ {ps:List PV},okP ps = true → ∀ p ∈ ps,(p.sh = .one → p.cs.length = 1) ∧ p.sh ≠ .pr:=by
 intro ps
 induction ps with
 | nil=>intro _ p hp;cases hp
 | cons q ps ih =>
  intro h p hp
  simp only [okP,Bool.and_eq_true] at h
  rcases List.mem_cons.1 hp with rfl|hp
  ·have h1:=h.1
   split at h1
   ·rename_i e1 e2;rw [e1,e2];exact ⟨fun _=>rfl,by simp⟩
   ·rename_i e1;rw [e1];exact ⟨by simp,by simp⟩
   ·cases h1
  ·exact ih h.2 p hp
def own0:List RC → Bool
 | []=>true
 | .own l _ _ :: cs=>l == 0 && own0 cs
 | .fv _ :: cs=>own0 cs
theorem own0_spec:∀ {cs:List RC},own0 cs = true → ∀ l t es,RC.own l t es ∈ cs → l = 0:=by
 intro cs
 induction cs with
 | nil=>intro _ l t es h;cases h
 | cons c cs ih =>
  intro h l t es hm
  cases c with
  | fv x =>
   rcases List.mem_cons.1 hm with e|hm
   ·cases e
   ·exact ih h l t es hm
  | own l' t' es' =>
   simp only [own0,Bool.and_eq_true,beq_iff_eq] at h
   rcases List.mem_cons.1 hm with e|hm
   ·injection e with e1 e2 e3;rw [e1];exact h.1
   ·exact ih h.2 l t es hm
/-- A result's cells, seen as others. -/
def leC:RC → RC → Prop
 | .fv x,.fv y=>LeF x y
 | .own l t es,.own l' t' es'=>l = l' ∧ t = t' ∧ es = es'
 | .fv x,.own l t es=>x = .lit nilV ∧ l = 0 ∧ es = []
 | .own l t es,.fv y=>LeF (.row l t es) y
def leCs:List RC → List RC → Prop
 | [],[]=>True
 | x :: xs,y :: ys=>leC x y ∧ leCs xs ys
 | _,_=>False
theorem leC_spec {a b:RC} (h:leC a b):LeC a b:=by
 cases a <;> cases b <;> simp only [leC] at h
 ·exact .fv h
 ·obtain ⟨rfl,rfl,rfl⟩:=h;exact .nil _
 ·exact .fz h
 ·obtain ⟨rfl,rfl,rfl⟩:=h;exact .refl _
theorem leCs_spec:∀ {a b:List RC},leCs a b → All2 LeC a b
 | [],[],_=>.nil
 | _ :: _,_ :: _,h=>.cons (leC_spec h.1) (leCs_spec h.2)
/-- What a run without labels must end in. -/
def endQ (rs:List ResultVar) (r:RV) (e:AExit) (k:Nat) (s:AS):Prop :=
 (e = .ret ∨ e = .norm) ∧ k = 0 ∧ match resOf rs s with
  | some r0=>own0 r0.cs = true ∧ r0.sh = r.sh ∧ leCs r0.cs r.cs
  | none=>False
theorem call0 {f N : Nat} {fn : Func} {c : Code} {args : List PV} {r : RV} {rs : List ResultVar} (hf : Try.prog.funcs[f]? = some fn) (hrs : fn.results.toList = rs) (hname : (fn.name == "runtime.NumGoroutine") = false) (hb : fn.body = some c) (hN : fn.ntmps = N) (hlen : args.length ≤ N) (hsh : okP args = true)
  (h:AWp N c 0 ⟨mk (startL 0 args),fun _=>none,fun _=>none⟩ (endQ rs r)):SemCall f args 0 r 0:=by
 subst hrs
 refine call0_of hf hname hb hN hlen (okP_spec hsh) ?_
 rw [start_eq]
 refine h.mono fun e k s he=>?_
 obtain ⟨h1,h2,h3⟩:=he
 refine ⟨h1,h2,?_⟩
 split at h3
 ·rename_i r0 hr0
  exact ⟨r0,hr0,own0_spec h3.1,h3.2.1,leCs_spec h3.2.2⟩
 ·exact h3.elim
end Go.Proofs.Ytamjbjkbineafaa.Ev

namespace Go.Proofs.Ytamjbjkbineafaa.Ev
open Go Go.RowKit
set_option linter.unusedVariables false
set_option linter.unusedSimpArgs false

class Rest where
 ds:List (Option Nat)
 o:Oper
 l:List Oper
 k:Nat
 s:AS
 Q:Nat → AS → Prop
class RestD where
 ds:List (Option Nat)
 n:Nat
 o:Oper
 l:List Oper
 k:Nat
 s:AS
 Q:List It → Nat → AS → Prop
def callI (f:Nat) (args:List PV) (g:RV → List W) [x:Rest]:Prop:=∃ r k',SemCall f args x.k r k' ∧ AOps x.ds x.l k' (x.s.app (g r)) x.Q
def callJ (f:Nat) (args:List PV) (g:RV → List W) [x:RestD]:Prop:=∃ r k',SemCall f args x.k r k' ∧ AOpsD x.ds (x.n + 1) x.l k' (x.s.app (g r)) fun L=>x.Q (⟨x.n,x.k,k',(semG x.ds x.o x.k).rds x.s,(g r).map W.loc⟩ :: L)
def outI (y:Option Out) [x:Rest]:Prop :=
 match y with
 | some (.done ws k')=>Kok x.k k' ∧ AOps x.ds x.l k' (x.s.app ws) x.Q
 | some (.call f args g)=>isCall x.o = true ∧ callI f args g
 | none=>False
def outJ (y:Option Out) [x:RestD]:Prop :=
 match y with
 | some (.done ws k')=>Kok x.k k' ∧ AOpsD x.ds (x.n + 1) x.l k' (x.s.app ws) fun L=>x.Q (⟨x.n,x.k,k',(semG x.ds x.o x.k).rds x.s,ws.map W.loc⟩ :: L)
 | some (.call f args g)=>isCall x.o = true ∧ callJ f args g
 | none=>False
section
variable {ds:List (Option Nat)} {o:Oper} {l:List Oper} {n k k':Nat} {s:AS} {Q:Nat → AS → Prop} {R:List It → Nat → AS → Prop} {f:Nat} {args:List PV} {g:RV → List W} {ws:List W} {r:RV}
theorem aops_nil:AOps ds [] k s Q = Q k s:=rfl
theorem aops_cons:AOps ds (o :: l) k s Q = @outI ((semG ds o k).run s) ⟨ds,o,l,k,s,Q⟩:=by
 unfold AOps outI
 cases (semG ds o k).run s with
 | none=>rfl
 | some x=>cases x <;> rfl
theorem outI_done:@outI (some (.done ws k')) ⟨ds,o,l,k,s,Q⟩ = (Kok k k' ∧ AOps ds l k' (s.app ws) Q):=rfl
theorem outI_call:@outI (some (.call f args g)) ⟨ds,o,l,k,s,Q⟩ = (isCall o = true ∧ @callI f args g ⟨ds,o,l,k,s,Q⟩):=rfl
theorem callI_of (h:SemCall f args k r k') (h2:AOps ds l k' (s.app (g r)) Q):@callI f args g ⟨ds,o,l,k,s,Q⟩:=⟨_,_,h,h2⟩
theorem callI_eq {args':List PV} (h:SemCall f args' k r k') (e:args' = args) (h2:AOps ds l k' (s.app (g r)) Q):@callI f args g ⟨ds,o,l,k,s,Q⟩:=callI_of (e ▸ h) h2
theorem aopsD_nil:AOpsD ds n [] k s R = R [] k s:=rfl
theorem aopsD_cons:AOpsD ds n (o :: l) k s R = @outJ ((semG ds o k).run s) ⟨ds,n,o,l,k,s,R⟩:=by
 unfold AOpsD outJ
 cases (semG ds o k).run s with
 | none=>rfl
 | some x=>cases x <;> rfl
theorem outJ_done:@outJ (some (.done ws k')) ⟨ds,n,o,l,k,s,R⟩ = (Kok k k' ∧ AOpsD ds (n + 1) l k' (s.app ws) fun L=>R (⟨n,k,k',(semG ds o k).rds s,ws.map W.loc⟩ :: L)):=rfl
theorem outJ_call:@outJ (some (.call f args g)) ⟨ds,n,o,l,k,s,R⟩ = (isCall o = true ∧ @callJ f args g ⟨ds,n,o,l,k,s,R⟩):=rfl
theorem callJ_of (h:SemCall f args k r k') (h2:AOpsD ds (n + 1) l k' (s.app (g r)) fun L=>R (⟨n,k,k',(semG ds o k).rds s,(g r).map W.loc⟩ :: L)):@callJ f args g ⟨ds,n,o,l,k,s,R⟩:=⟨_,_,h,h2⟩
theorem callJ_eq {args':List PV} (h:SemCall f args' k r k') (e:args' = args) (h2:AOpsD ds (n + 1) l k' (s.app (g r)) fun L=>R (⟨n,k,k',(semG ds o k).rds s,(g r).map W.loc⟩ :: L)):@callJ f args g ⟨ds,n,o,l,k,s,R⟩:=callJ_of (e ▸ h) h2
end
theorem loopX {N k:Nat} {s:AS} {Q:AExit → Nat → AS → Prop} {c:Code} (I:Nat → Nat → AS → Prop) (h0:∃ n k1 s1,Weak k s k1 s1 ∧ I n k1 s1) (hr:∀ m k s,I m k s → AWp N c k s (thenQ (fun k' s'=>∃ m' k1 s1,m' < m ∧ Weak k' s' k1 s1 ∧ I m' k1 s1) Q)):AWp N (.loop c) k s Q:=by
 obtain ⟨n,h⟩:=h0
 exact loopW I n h hr
theorem awp_regF (ids:List Nat) {N k id:Nat} {s:AS} {Q:AExit → Nat → AS → Prop} {l:List Oper} (BL:List Nat) (hd:okD N l = true) (hB:okB l.toArray BL = true) (h:AOpsD (l.map (·.dst)) 0 l k { s with rows:=fzR ids s.rows } fun L k s=>indep BL L = true ∧ Q .norm k s):AWp N (.region id l.toArray true) k s Q :=
 awp_weak (weak_fzs ids s) (awp_regD BL hd hB h)
theorem weakLA (d j p t:Nat) {s:AS} {b:Box} (hd:s.mem d = some b) (hj:b.cs[j]? = some (.fv (.lit nilV))) (hp:s.rows p = none) (ids:List Nat) {l:List (Nat × AV)} {m:List (Nat × Box)} {r:List (Nat × Row)}
  (h:tmOk (mo m) (fzR ids (upd s.rows p (some ⟨0,t,[],false⟩))) (mo r) s.tm l ∧ memOk (fzR ids (upd s.rows p (some ⟨0,t,[],false⟩))) (mo r) (upd s.mem d (some ⟨b.t,b.cs.set j (.own p 0)⟩)) m ∧ rowsOk (fzR ids (upd s.rows p (some ⟨0,t,[],false⟩))) r):Weak 0 s 0 ⟨mk l,mo m,mo r⟩ :=
 Weak.trans (weak_adopt (k:=0) (p:=p) (t:=t) hd hj hp) (weakL ids h)
end Go.Proofs.Ytamjbjkbineafaa.Ev

namespace Go.Proofs.Ytamjbjkbineafaa.EvFnExactTreePut
open Go Go.RowKit Go.Proofs.Ytamjbjkbineafaa.Ev Go.Proofs.Ytamjbjkbineafaa.PFnExactTreePut Go.Proofs.YtamjbjkbineafaaW.PrintWords Go.Proofs.YtamjbjkbineafaaW.PrintLast
set_option linter.unusedVariables false
set_option linter.unusedSimpArgs false
def litF (n:Int):FV:=.lit (.int .i64 n)
def litB (b:Bool):FV:=.lit (.bool b)
def keyC (x:S38):List FV:=[litF x.f0,litF x.f1,litF x.f2,litF x.f3,litF x.f4]
def keysE (l:List S38):List (List FV):=l.map keyC
def keysF (l:List S38):FV:=.row 0 38 (keysE l)
theorem keysE_len (l:List S38):(keysE l).length = l.length:=List.length_map _
theorem keysE_get (l:List S38) (i:Int) (h0:0 ≤ i) (h1:i < l.length):(keysE l)[i.toNat]? = some (keyC (rd_T38 l i)):=by
 have hlt:i.toNat < l.length:=by omega
 simp [keysE,rd_T38,hlt]
theorem keysE_app (a b:List S38):keysE (a ++ b) = keysE a ++ keysE b:=by simp [keysE]
theorem keysE_one (x:S38):keysE [x] = [keyC x]:=rfl
theorem keysE_nil:keysE [] = []:=rfl
theorem keysE_take (l:List S38) (n:Nat):(keysE l).take n = keysE (l.take n):=by simp [keysE]
theorem keysE_drop (l:List S38) (n:Nat):(keysE l).drop n = keysE (l.drop n):=by simp [keysE]
def setC (l:List S38):List FV:=[keysF l]
def setsE (l:List (List S38)):List (List FV):=l.map setC
def setsF (l:List (List S38)):FV:=.row 0 45 (setsE l)
theorem setsE_len (l:List (List S38)):(setsE l).length = l.length:=List.length_map _
theorem setsE_get (l:List (List S38)) (i:Int) (h0:0 ≤ i) (h1:i < l.length):(setsE l)[i.toNat]? = some (setC (rd_L6 l i)):=by
 have hlt:i.toNat < l.length:=by omega
 simp [setsE,rd_L6,hlt]
theorem setsE_app (a b:List (List S38)):setsE (a ++ b) = setsE a ++ setsE b:=by simp [setsE]
theorem setsE_one (x:(List S38)):setsE [x] = [setC x]:=rfl
theorem setsE_nil:setsE [] = []:=rfl
def nodeC (x:S59):List FV:=[setsF x.f0]
def nodesE (l:List S59):List (List FV):=l.map nodeC
def nodesF (l:List S59):FV:=.row 0 59 (nodesE l)
theorem nodesE_len (l:List S59):(nodesE l).length = l.length:=List.length_map _
theorem nodesE_get (l:List S59) (i:Int) (h0:0 ≤ i) (h1:i < l.length):(nodesE l)[i.toNat]? = some (nodeC (rd_T59 l i)):=by
 have hlt:i.toNat < l.length:=by omega
 simp [nodesE,rd_T59,hlt]
theorem nodesE_app (a b:List S59):nodesE (a ++ b) = nodesE a ++ nodesE b:=by simp [nodesE]
theorem nodesE_one (x:S59):nodesE [x] = [nodeC x]:=rfl
theorem nodesE_nil:nodesE [] = []:=rfl
theorem nodesE_cons (x:S59) (l:List S59):nodesE (x :: l) = nodeC x :: nodesE l:=rfl
theorem nodesE_take (l:List S59) (n:Nat):(nodesE l).take n = nodesE (l.take n):=by simp [nodesE]
theorem nodesE_drop (l:List S59) (n:Nat):(nodesE l).drop n = nodesE (l.drop n):=by simp [nodesE]
def intC (n:Int):List FV:=[litF n]
def intsE (l:List Int):List (List FV):=l.map intC
def intsF (l:List Int):FV:=.row 0 3 (intsE l)
theorem intsE_len (l:List Int):(intsE l).length = l.length:=List.length_map _
theorem intsE_get (l:List Int) (i:Int) (h0:0 ≤ i) (h1:i < l.length):(intsE l)[i.toNat]? = some (intC (rd l i)):=by
 have hlt:i.toNat < l.length:=by omega
 simp [intsE,rd,hlt]
theorem intsE_app (a b:List Int):intsE (a ++ b) = intsE a ++ intsE b:=by simp [intsE]
theorem intsE_one (x:Int):intsE [x] = [intC x]:=rfl
theorem intsE_nil:intsE [] = []:=rfl
theorem intsE_cons (x:Int) (l:List Int):intsE (x :: l) = intC x :: intsE l:=rfl
theorem intsE_take (l:List Int) (n:Nat):(intsE l).take n = intsE (l.take n):=by simp [intsE]
theorem intsE_drop (l:List Int) (n:Nat):(intsE l).drop n = intsE (l.drop n):=by simp [intsE]
theorem setsE_set (l:List (List S38)) (i:Nat) (x:List S38):(setsE l).set i [.row 0 38 (keysE x)] = setsE (l.set i x):=by simp [setsE,setC,keysF]
theorem nodesE_set (l:List S59) (i:Nat) (x:S59):(nodesE l).set i [.row 0 45 (setsE x.f0)] = nodesE (l.set i x):=by simp [nodesE,nodeC,setsF]
theorem ite_or {c:Prop} [Decidable c] {α:Type} {x y r:α}:((if c then x else y) = r) = ((c ∧ x = r) ∨ (¬ c ∧ y = r)):=by
 by_cases h:c <;> simp [h]
theorem leF_nil (t:Nat):LeF (.lit (.slice none 0 0)) (.row 0 t []) = True:=eq_true (.nil t)
theorem range0:List.range 0 = []:=rfl
theorem range1:List.range 1 = [0]:=rfl
theorem range2:List.range 2 = [0,1]:=rfl
theorem w64_ (x:Int):IntKind.i64.wrap x = wrap64 x:=aQ x
section
variable {α:Type}
end
end Go.Proofs.Ytamjbjkbineafaa.EvFnExactTreePut

namespace Go.Proofs.Ytamjbjkbineafaa.Ev
open Go Go.RowKit Go.Proofs.YtamjbjkbineafaaW.PrintWords
set_option linter.unusedVariables false
set_option linter.unusedSimpArgs false
section
variable {α:Type} {d:Kd α} {enc:α → List FV} {own:Nat → Nat} {ro:Nat → Prop} {w:World} {A:Option Addr} {n c t:Nat} {xs:List α} {v:Value}
theorem rep_row (hsz:d.sz = tsz t) (hpos:0 < tsz t) (henc:∀ x,(enc x).length = tsz t) (hel:∀ x cs,d.K w x cs → ∀ (j:Nat) y u,(enc x)[j]? = some y → cs[j]? = some u → Rep own ro w y u)
  (hro:∀ ad u,w.cell? ad = some u → ro ad.block) (h:d.C w A n xs) (hc:n ≤ c):Rep own ro w (.row 0 t (xs.map enc)) (.slice A n c):=by
 obtain ⟨hn,hm,hr⟩:=h
 subst hn
 have hg:∀ (i:Nat) e,(xs.map enc)[i]? = some e → ∃ x,xs[i]? = some x ∧ e = enc x:=fun i e he=>by
  rw [List.getElem?_map] at he
  cases hx:xs[i]? with
  | none=>rw [hx] at he;cases he
  | some x=>rw [hx] at he;exact ⟨x,rfl,(Option.some.inj he).symm⟩
 have hp:∀ (i:Nat) x,xs[i]? = some x → 0 < xs.length:=fun i x hx=>by have:=(List.getElem?_eq_some_iff.1 hx).1;omega
 have hb:∀ (ad:Addr) (j:Nat),(ad.add j).block = ad.block:=fun ad j=>by unfold Addr.add;split <;> rfl
 have key:∀ (i:Nat) e,(xs.map enc)[i]? = some e → ∃ ad,A = some ad ∧ ro ad.block ∧ ∀ (j:Nat) y,e[j]? = some y → w.cell? (ad.add (i * tsz t + j)) = some (((A.bind fun ad=>w.cell? (ad.add (i * tsz t + j)))).getD undef) ∧ Rep own ro w y (((A.bind fun ad=>w.cell? (ad.add (i * tsz t + j)))).getD undef):=fun i e he=>by
  obtain ⟨x,hx,rfl⟩:=hg i e he
  obtain ⟨ad,rfl,hc⟩:=hr (hp i x hx)
  obtain ⟨cs,h1,h2,h3⟩:=hc i x hx
  have h3':∀ j u,cs[j]? = some u → w.cell? (ad.add (i * tsz t + j)) = some u:=fun j u hu=>by rw [← hsz];exact h3 j u hu
  have hlen:cs.length = tsz t:=by rw [h1,hsz]
  refine ⟨ad,rfl,?_,fun j y hy=>?_⟩
  ·have h0:0 < cs.length:=by omega
   have:=hro _ _ (h3' 0 _ (List.getElem?_eq_getElem h0))
   rwa [hb] at this
  ·have hj:j < cs.length:=by rw [hlen,← henc x];exact wA
   have h4:=h3' j _ (List.getElem?_eq_getElem hj)
   simp only [Option.bind_some,h4,Option.getD_some,true_and]
   exact hel x cs h2 j y _ hy (List.getElem?_eq_getElem hj)
 have hL:(xs.map enc).length = xs.length:=List.length_map _
 rw [← hL] at hm hc ⊢
 refine .row 0 t _ A c (fun i j=>((A.bind fun ad=>w.cell? (ad.add (i * tsz t + j)))).getD undef) hc hm (fun i e he=>?_) (fun i e he=>?_) (fun i e he j y hy=>?_) (fun h=>absurd rfl h)
 ·obtain ⟨x,_,rfl⟩:=hg i e he;exact henc x
 ·obtain ⟨ad,h1,h2,h3⟩:=key i e he;exact ⟨ad,h1,h2,fun j y hy=>(h3 j y hy).1⟩
 ·obtain ⟨ad,h1,h2,h3⟩:=key i e he;exact (h3 j y hy).2
theorem row_of (hsz:d.sz = tsz t) (henc:∀ x,(enc x).length = tsz t) (hel:∀ x cs,cs.length = tsz t → (∀ (j:Nat) y u,(enc x)[j]? = some y → cs[j]? = some u → Rep own ro w y u) → d.K w x cs)
  (h:Rep own ro w (.row 0 t (xs.map enc)) v):∃ A c,v = .slice A xs.length c ∧ xs.length ≤ c ∧ d.C w A xs.length xs:=by
 have hL:(xs.map enc).length = xs.length:=List.length_map _
 cases h with
 | row l t es A c cv hc hm hl hcell hrep hown =>
  rw [hL] at hc hm
  refine ⟨A,c,by rw [hL],hc,rfl,hm,fun hp=>?_⟩
  have h0:(xs.map enc)[0]? = some (enc xs[0]):=by simp [hp]
  obtain ⟨ad,rfl,_,_⟩:=hcell 0 _ h0
  refine ⟨ad,rfl,fun j x hx=>?_⟩
  have hj:(xs.map enc)[j]? = some (enc x):=by simp [hx]
  obtain ⟨ad',e,_,h3⟩:=hcell j _ hj
  obtain rfl:=Option.some.inj e
  refine ⟨(List.range (tsz t)).map (cv j),by simp [hsz],hel x _ te (fun i y u hy hu=>?_),fun i u hu=>?_⟩
  ·have hi:i < tsz t:=by rw [← henc x];exact wA
   simp [hi] at hu
   subst hu
   exact hrep j _ hj i y hy
  ·have hi:i < tsz t:=by have:=(List.getElem?_eq_some_iff.1 hu).1;simpa using this
   simp [hi] at hu
   subst hu
   rw [hsz]
   exact h3 i _ (List.getElem?_eq_getElem (by rw [henc];exact hi))
end
end Go.Proofs.Ytamjbjkbineafaa.Ev

namespace Go.Proofs.Ytamjbjkbineafaa.EvFnExactTreePut
open Go Go.RowKit Go.Proofs.Ytamjbjkbineafaa.Ev Go.Proofs.Ytamjbjkbineafaa.PFnExactTreePut Go.Proofs.YtamjbjkbineafaaW.PrintWords Go.Proofs.YtamjbjkbineafaaW.PrintLast
set_option linter.unusedVariables false
set_option linter.unusedSimpArgs false
attribute [local go_sem] aops_nil outI_done outI_call aopsD_nil outJ_done outJ_call semG sem0 semD semS M.run evO constA litOk litA AS.app AS.put List.map startL litF litB upd_at List.length_set Int.toNat_lt guardA boolA intA rowO cellsA readA argsL partsL fillL fzC fzL fzW loadV importR importC importW ownsP tsz tagg known elem? tby zeroC isNone binV dropW isCall resOf resC outL outC ownIds nodupB AS.ev mk_nil mk_at mo_nil mo_at beq_dec bne_dec thenQ blockQ kok_same kok_nx nx_zero if_true if_false Nat.add_zero Nat.zero_add Nat.le_refl true_and and_true List.getElem?_cons_zero List.getElem?_cons_succ List.getElem?_nil List.drop_succ_cons List.drop_zero List.take_succ_cons List.take_zero List.length_cons List.length_nil List.append_nil List.nil_append List.cons_append List.length_append List.any_cons List.any_nil keyC keysF setsF nodesF intsF nodeC keysE_len keysE_app keysE_one keysE_nil setsE_len setsE_app setsE_one setsE_nil nodesE_len nodesE_app nodesE_one nodesE_nil intsE_len intsE_app intsE_one intsE_nil keysE_get setsE_get nodesE_get intsE_get keysE_take keysE_drop nodesE_take nodesE_drop intsE_take intsE_drop setsE_set nodesE_set leK leL leA tmOk boxOk memOk rowOk rowsOk fzR List.contains_cons List.contains_nil Option.map_some Option.map_none ge_iff_le gt_iff_lt leF_same leE_same Option.isSome_some decide_true decide_false endQ own0 leC leCs or_true true_or range0 range1 range2 w64_ Bool.not_true Bool.not_false bne_self_eq_false beq_self_eq_true Bool.and_true Bool.false_or Bool.or_false List.getLast?_cons_cons List.getLast?_singleton List.dropLast_cons_cons List.dropLast_singleton Option.some.injEq M.rds W.loc nilV setC intC intsE_cons nodesE_cons leF_nil lB lC List.drop_nil
set_option maxHeartbeats 8000000 in
set_option maxRecDepth 100000 in
theorem spec_l5Copy_s (k:Nat) (a0:List (List S38)) (r:List (List S38)) (H:spec_l5Copy.f k a0 = some r):SemCall 67 [⟨.agg,[setsF a0]⟩] 0 ⟨.agg,[.own 0 45 (setsE r)]⟩ 0:=by
 simp only [spec_l5Copy.f] at H
 refine call0 (rs:=[.cell 2 59]) Try.func67 rfl tF rfl Try.ntmps67 (Nat.le_of_ble_eq_true rfl) rfl ?_
 repeat' (first|contradiction|(rw [Option.ite_none_right_eq_some] at H;obtain ⟨_,H⟩:=H)|(rw [ite_or] at H;rcases H with ⟨_,H⟩|⟨_,H⟩)|(split at H)|(simp only [Option.bind_some] at H)|(rw [Option.bind_eq_some_iff] at H;obtain ⟨_,A,H⟩:=H)|cases H)
 all_goals repeat' (first
  | apply awp_seq
  | (apply awp_reg;rfl;simp (decide:=true) only [↓aops_cons,↓aopsD_cons,go_sem, *])
  | (apply awp_block;(try simp only [blockQ]))
  | (apply condT;(· simp (decide:=true) only [↓aops_cons,↓aopsD_cons,go_sem, *]))
  | (apply condF;(· simp (decide:=true) only [↓aops_cons,↓aopsD_cons,go_sem, *]))
  | (apply awp_skip;simp (decide:=true) only [↓aops_cons,↓aopsD_cons,go_sem, *])
  | (apply awp_exit;simp (decide:=true) only [↓aops_cons,↓aopsD_cons,go_sem, *])
  | (apply awp_ret;simp (decide:=true) only [↓aops_cons,↓aopsD_cons,go_sem, *])
  | (apply awp_regD (id:=5) [0,1,0,0,8,0,56,120,252,508,1023,2047,4095];rfl;kernel_rfl;simp (decide:=true) only [↓aops_cons,↓aopsD_cons,go_sem, *])
  | (refine And.intro (a:=indep _ _ = true) ta ?_)
  | (rw [if_pos (show _ * _ ≤ 140737488355328 by (try simp only [List.length_append,List.length_cons,List.length_nil] at *);omega)];simp (decide:=true) only [↓aops_cons,↓aopsD_cons,go_sem, *])
  | (refine ⟨_,0,_,?_,weakL [] ?_,_,_,rfl,rfl,H⟩;(· omega);(· simp (decide:=true) only [↓aops_cons,↓aopsD_cons,go_sem, *])))
 all_goals
  refine loopX (fun m k s=>∃ (x4:Int) (x2:List (List S38)),k = 0 ∧ s = ⟨mk [(1,.addr 1 0),(2,.addr 2 0),(3,.addr 3 0),(4,.v .one [.fv (litF x4)])],mo [(1,⟨59,[.fv (setsF a0)]⟩),(2,⟨59,[.fv (.lit nilV)]⟩),(3,⟨59,[.own 999 x2.length]⟩)],mo [(999,⟨0,45,setsE x2,false⟩)]⟩ ∧ spec_l5Copy.l0 m x4 a0 x2 = some r) ?h0 ?hr
  case h0=>exact ⟨_,0,_,weakLA 3 0 999 45 ta ta ta [] tM,0,[],rfl,rfl,H⟩
  case hr =>
   rintro m k s ⟨x4,x2,rfl,rfl,H⟩
   cases m with
   | zero=>cases H
   | succ m =>
    simp only [spec_l5Copy.l0] at H
    repeat' (first|contradiction|(rw [Option.ite_none_right_eq_some] at H;obtain ⟨_,H⟩:=H)|(rw [ite_or] at H;rcases H with ⟨_,H⟩|⟨_,H⟩)|(split at H)|(simp only [Option.bind_some] at H)|(rw [Option.bind_eq_some_iff] at H;obtain ⟨_,A,H⟩:=H)|cases H)
    all_goals repeat' (first
      | apply awp_seq
      | (apply awp_reg;rfl;simp (decide:=true) only [↓aops_cons,↓aopsD_cons,go_sem, *])
      | (apply awp_block;(try simp only [blockQ]))
      | (apply condT;(· simp (decide:=true) only [↓aops_cons,↓aopsD_cons,go_sem, *]))
      | (apply condF;(· simp (decide:=true) only [↓aops_cons,↓aopsD_cons,go_sem, *]))
      | (apply awp_skip;simp (decide:=true) only [↓aops_cons,↓aopsD_cons,go_sem, *])
      | (apply awp_exit;simp (decide:=true) only [↓aops_cons,↓aopsD_cons,go_sem, *])
      | (apply awp_ret;simp (decide:=true) only [↓aops_cons,↓aopsD_cons,go_sem, *])
      | (apply awp_regD (id:=5) [0,1,0,0,8,0,56,120,252,508,1023,2047,4095];rfl;kernel_rfl;simp (decide:=true) only [↓aops_cons,↓aopsD_cons,go_sem, *])
      | (refine And.intro (a:=indep _ _ = true) ta ?_)
      | (rw [if_pos (show _ * _ ≤ 140737488355328 by (try simp only [List.length_append,List.length_cons,List.length_nil] at *);omega)];simp (decide:=true) only [↓aops_cons,↓aopsD_cons,go_sem, *])
      | (refine ⟨_,0,_,?_,weakL [] ?_,_,_,rfl,rfl,H⟩;(· omega);(· simp (decide:=true) only [↓aops_cons,↓aopsD_cons,go_sem, *])))
set_option maxHeartbeats 8000000 in
set_option maxRecDepth 100000 in
theorem spec_l6Copy_s (k:Nat) (a00:List Int) (a01:List S59) (r0:List Int) (r1:List S59) (H:spec_l6Copy.f k a00 a01 = some (r0,r1)):SemCall 26 [⟨.agg,[intsF a00,nodesF a01]⟩] 0 ⟨.agg,[.fv (intsF r0),.fv (nodesF r1)]⟩ 0:=by
 simp only [spec_l6Copy.f] at H
 refine call0 (rs:=[.cell 2 29]) Try.func26 rfl tF rfl Try.ntmps26 (Nat.le_of_ble_eq_true rfl) rfl ?_
 repeat' (first|contradiction|(rw [Option.ite_none_right_eq_some] at H;obtain ⟨_,H⟩:=H)|(rw [ite_or] at H;rcases H with ⟨_,H⟩|⟨_,H⟩)|(split at H)|(simp only [Option.bind_some] at H)|(rw [Option.bind_eq_some_iff] at H;obtain ⟨_,A,H⟩:=H)|cases H)
 all_goals repeat' (first
  | apply awp_seq
  | (apply awp_reg;rfl;simp (decide:=true) only [↓aops_cons,↓aopsD_cons,go_sem, *])
  | (apply awp_block;(try simp only [blockQ]))
  | (apply condT;(· simp (decide:=true) only [↓aops_cons,↓aopsD_cons,go_sem, *]))
  | (apply condF;(· simp (decide:=true) only [↓aops_cons,↓aopsD_cons,go_sem, *]))
  | (apply awp_skip;simp (decide:=true) only [↓aops_cons,↓aopsD_cons,go_sem, *])
  | (apply awp_exit;simp (decide:=true) only [↓aops_cons,↓aopsD_cons,go_sem, *])
  | (apply awp_ret;simp (decide:=true) only [↓aops_cons,↓aopsD_cons,go_sem, *])
  | (apply awp_regD (id:=5) [0,1,0,4,0,28,60,124,252,511,1023,2047];rfl;kernel_rfl;simp (decide:=true) only [↓aops_cons,↓aopsD_cons,go_sem, *])
  | (refine And.intro (a:=indep _ _ = true) ta ?_)
  | (rw [if_pos (show _ * _ ≤ 140737488355328 by (try simp only [List.length_append,List.length_cons,List.length_nil] at *);omega)];simp (decide:=true) only [↓aops_cons,↓aopsD_cons,go_sem, *])
  | (refine callI_of (spec_l5Copy_s _ _ _ tH) ?_;simp (decide:=true) only [↓aops_cons,↓aopsD_cons,go_sem, *])
  | (refine callJ_of (spec_l5Copy_s _ _ _ tH) ?_;simp (decide:=true) only [↓aops_cons,↓aopsD_cons,go_sem, *])
  | (refine ⟨_,0,_,?_,weakL [] ?_,_,_,_,rfl,rfl,H⟩;(· omega);(· simp (decide:=true) only [↓aops_cons,↓aopsD_cons,go_sem, *])))
 all_goals
  refine loopX (fun m k s=>∃ (x4:Int) (x5:List Int) (x6:List S59),k = 0 ∧ s = ⟨mk [(1,.addr 1 0),(2,.addr 2 0),(3,.addr 3 0),(4,.v .one [.fv (litF x4)])],mo [(1,⟨29,[.fv (intsF a00),.fv (nodesF a01)]⟩),(2,⟨29,[.fv (.lit nilV),.fv (.lit nilV)]⟩),(3,⟨29,[.own 5 x5.length,.own 999 x6.length]⟩)],mo [(5,⟨0,3,intsE x5,false⟩),(999,⟨0,59,nodesE x6,false⟩)]⟩ ∧ spec_l6Copy.l0 m x4 a00 a01 x5 x6 = some (r0,r1)) ?h0 ?hr
  case h0=>exact ⟨_,0,_,weakLA 3 1 999 59 ta ta ta [] tM,0,_,[],rfl,rfl,H⟩
  case hr =>
   rintro m k s ⟨x4,x5,x6,rfl,rfl,H⟩
   cases m with
   | zero=>cases H
   | succ m =>
    simp only [spec_l6Copy.l0] at H
    repeat' (first|contradiction|(rw [Option.ite_none_right_eq_some] at H;obtain ⟨_,H⟩:=H)|(rw [ite_or] at H;rcases H with ⟨_,H⟩|⟨_,H⟩)|(split at H)|(simp only [Option.bind_some] at H)|(rw [Option.bind_eq_some_iff] at H;obtain ⟨_,A,H⟩:=H)|cases H)
    all_goals repeat' (first
      | apply awp_seq
      | (apply awp_reg;rfl;simp (decide:=true) only [↓aops_cons,↓aopsD_cons,go_sem, *])
      | (apply awp_block;(try simp only [blockQ]))
      | (apply condT;(· simp (decide:=true) only [↓aops_cons,↓aopsD_cons,go_sem, *]))
      | (apply condF;(· simp (decide:=true) only [↓aops_cons,↓aopsD_cons,go_sem, *]))
      | (apply awp_skip;simp (decide:=true) only [↓aops_cons,↓aopsD_cons,go_sem, *])
      | (apply awp_exit;simp (decide:=true) only [↓aops_cons,↓aopsD_cons,go_sem, *])
      | (apply awp_ret;simp (decide:=true) only [↓aops_cons,↓aopsD_cons,go_sem, *])
      | (apply awp_regD (id:=5) [0,1,0,4,0,28,60,124,252,511,1023,2047];rfl;kernel_rfl;simp (decide:=true) only [↓aops_cons,↓aopsD_cons,go_sem, *])
      | (refine And.intro (a:=indep _ _ = true) ta ?_)
      | (rw [if_pos (show _ * _ ≤ 140737488355328 by (try simp only [List.length_append,List.length_cons,List.length_nil] at *);omega)];simp (decide:=true) only [↓aops_cons,↓aopsD_cons,go_sem, *])
      | (refine callI_of (spec_l5Copy_s _ _ _ tH) ?_;simp (decide:=true) only [↓aops_cons,↓aopsD_cons,go_sem, *])
      | (refine callJ_of (spec_l5Copy_s _ _ _ tH) ?_;simp (decide:=true) only [↓aops_cons,↓aopsD_cons,go_sem, *])
      | (refine ⟨_,0,_,?_,weakL [] ?_,_,_,_,rfl,rfl,H⟩;(· omega);(· simp (decide:=true) only [↓aops_cons,↓aopsD_cons,go_sem, *])))
set_option maxHeartbeats 8000000 in
set_option maxRecDepth 100000 in
theorem spec_l1In_s (a0:Int) (a1:Int) (a2:Int) (r:Bool) (H:spec_l1In.f a0 a1 a2 = some r):SemCall 27 [⟨.one,[litF a0]⟩,⟨.one,[litF a1]⟩,⟨.one,[litF a2]⟩] 0 ⟨.one,[.fv (litB r)]⟩ 0:=by
 simp only [spec_l1In.f] at H
 refine call0 (rs:=[.tmp 6]) Try.func27 rfl tF rfl Try.ntmps27 (Nat.le_of_ble_eq_true rfl) rfl ?_
 repeat' (first|contradiction|(rw [Option.ite_none_right_eq_some] at H;obtain ⟨_,H⟩:=H)|(rw [ite_or] at H;rcases H with ⟨_,H⟩|⟨_,H⟩)|(split at H)|(simp only [Option.bind_some] at H)|(rw [Option.bind_eq_some_iff] at H;obtain ⟨_,A,H⟩:=H)|cases H)
 all_goals repeat' (first
  | apply awp_seq
  | (apply awp_reg;rfl;simp (decide:=true) only [↓aops_cons,↓aopsD_cons,go_sem, *])
  | (apply awp_block;(try simp only [blockQ]))
  | (apply condT;(· simp (decide:=true) only [↓aops_cons,↓aopsD_cons,go_sem, *]))
  | (apply condF;(· simp (decide:=true) only [↓aops_cons,↓aopsD_cons,go_sem, *]))
  | (apply awp_skip;simp (decide:=true) only [↓aops_cons,↓aopsD_cons,go_sem, *])
  | (apply awp_exit;simp (decide:=true) only [↓aops_cons,↓aopsD_cons,go_sem, *])
  | (apply awp_ret;simp (decide:=true) only [↓aops_cons,↓aopsD_cons,go_sem, *])
  | (refine And.intro (a:=indep _ _ = true) ta ?_)
  | (rw [if_pos (show _ * _ ≤ 140737488355328 by (try simp only [List.length_append,List.length_cons,List.length_nil] at *);omega)];simp (decide:=true) only [↓aops_cons,↓aopsD_cons,go_sem, *]))
theorem spec_KeyOk.j0_s {y0 y1 y2 y3 y4 y5 r} {k:Nat} (H:spec_KeyOk.j0 k y0 y1 y2 y3 y4 y5 = some r):∃ q,k = q + 1:=by cases k with
 | zero=>cases H
 | succ q=>exact ⟨q,rfl⟩
set_option maxHeartbeats 8000000 in
set_option maxRecDepth 100000 in
theorem spec_KeyOk_s (k:Nat) (a00 a01 a02 a03 a04:Int) (r:Bool) (H:spec_KeyOk.f k a00 a01 a02 a03 a04 = some r):SemCall 48 [⟨.agg,[litF a00,litF a01,litF a02,litF a03,litF a04]⟩] 0 ⟨.one,[.fv (litB r)]⟩ 0:=by
 simp only [spec_KeyOk.f] at H
 refine call0 (rs:=[.tmp 2]) Try.func48 rfl tF rfl Try.ntmps48 (Nat.le_of_ble_eq_true rfl) rfl ?_
 repeat' (first|contradiction|(rw [Option.ite_none_right_eq_some] at H;obtain ⟨_,H⟩:=H)|(rw [ite_or] at H;rcases H with ⟨_,H⟩|⟨_,H⟩)|(split at H)|(simp only [Option.bind_some] at H)|(rw [Option.bind_eq_some_iff] at H;obtain ⟨_,A,H⟩:=H)|(obtain ⟨_,rfl⟩:=spec_KeyOk.j0_s H;simp only [spec_KeyOk.j0,beq_iff_eq,bne_iff_ne,ne_eq,ite_not] at H)|cases H)
 all_goals try subst_vars
 all_goals repeat' (first
  | apply awp_seq
  | (apply awp_reg;rfl;simp (decide:=true) only [↓aops_cons,↓aopsD_cons,go_sem, *])
  | (apply awp_block;(try simp only [blockQ]))
  | (apply condT;(· simp (decide:=true) only [↓aops_cons,↓aopsD_cons,go_sem, *]))
  | (apply condF;(· simp (decide:=true) only [↓aops_cons,↓aopsD_cons,go_sem, *]))
  | (apply awp_skip;simp (decide:=true) only [↓aops_cons,↓aopsD_cons,go_sem, *])
  | (apply awp_exit;simp (decide:=true) only [↓aops_cons,↓aopsD_cons,go_sem, *])
  | (apply awp_ret;simp (decide:=true) only [↓aops_cons,↓aopsD_cons,go_sem, *])
  | (refine And.intro (a:=indep _ _ = true) ta ?_)
  | (rw [if_pos (show _ * _ ≤ 140737488355328 by (try simp only [List.length_append,List.length_cons,List.length_nil] at *);omega)];simp (decide:=true) only [↓aops_cons,↓aopsD_cons,go_sem, *])
  | (refine callI_of (spec_l1In_s _ _ _ _ tH) ?_;simp (decide:=true) only [↓aops_cons,↓aopsD_cons,go_sem, *])
  | (refine callJ_of (spec_l1In_s _ _ _ _ tH) ?_;simp (decide:=true) only [↓aops_cons,↓aopsD_cons,go_sem, *]))
set_option maxHeartbeats 8000000 in
set_option maxRecDepth 100000 in
theorem spec_LessKey_s (a00 a01 a02 a03 a04:Int) (a10 a11 a12 a13 a14:Int) (r:Bool) (H:spec_LessKey.f a00 a01 a02 a03 a04 a10 a11 a12 a13 a14 = some r):SemCall 85 [⟨.agg,[litF a00,litF a01,litF a02,litF a03,litF a04]⟩,⟨.agg,[litF a10,litF a11,litF a12,litF a13,litF a14]⟩] 0 ⟨.one,[.fv (litB r)]⟩ 0:=by
 simp only [spec_LessKey.f] at H
 refine call0 (rs:=[.tmp 4]) Try.func85 rfl tF rfl Try.ntmps85 (Nat.le_of_ble_eq_true rfl) rfl ?_
 repeat' (first|contradiction|(rw [Option.ite_none_right_eq_some] at H;obtain ⟨_,H⟩:=H)|(rw [ite_or] at H;rcases H with ⟨_,H⟩|⟨_,H⟩)|(split at H)|(simp only [Option.bind_some] at H)|(rw [Option.bind_eq_some_iff] at H;obtain ⟨_,A,H⟩:=H)|cases H)
 all_goals repeat' (first
  | apply awp_seq
  | (apply awp_reg;rfl;simp (decide:=true) only [↓aops_cons,↓aopsD_cons,go_sem, *])
  | (apply awp_block;(try simp only [blockQ]))
  | (apply condT;(· simp (decide:=true) only [↓aops_cons,↓aopsD_cons,go_sem, *]))
  | (apply condF;(· simp (decide:=true) only [↓aops_cons,↓aopsD_cons,go_sem, *]))
  | (apply awp_skip;simp (decide:=true) only [↓aops_cons,↓aopsD_cons,go_sem, *])
  | (apply awp_exit;simp (decide:=true) only [↓aops_cons,↓aopsD_cons,go_sem, *])
  | (apply awp_ret;simp (decide:=true) only [↓aops_cons,↓aopsD_cons,go_sem, *])
  | (refine And.intro (a:=indep _ _ = true) ta ?_)
  | (rw [if_pos (show _ * _ ≤ 140737488355328 by (try simp only [List.length_append,List.length_cons,List.length_nil] at *);omega)];simp (decide:=true) only [↓aops_cons,↓aopsD_cons,go_sem, *]))
set_option maxHeartbeats 8000000 in
set_option maxRecDepth 100000 in
theorem spec_l4Rises_s (k:Nat) (a0:List S38) (r:Bool) (H:spec_l4Rises.f k a0 = some r):SemCall 106 [⟨.one,[keysF a0]⟩] 0 ⟨.one,[.fv (litB r)]⟩ 0:=by
 simp only [spec_l4Rises.f] at H
 refine call0 (rs:=[.tmp 2]) Try.func106 rfl tF rfl Try.ntmps106 (Nat.le_of_ble_eq_true rfl) rfl ?_
 repeat' (first|contradiction|(rw [Option.ite_none_right_eq_some] at H;obtain ⟨_,H⟩:=H)|(rw [ite_or] at H;rcases H with ⟨_,H⟩|⟨_,H⟩)|(split at H)|(simp only [Option.bind_some] at H)|(rw [Option.bind_eq_some_iff] at H;obtain ⟨_,A,H⟩:=H)|cases H)
 all_goals repeat' (first
  | apply awp_seq
  | (apply awp_reg;rfl;simp (decide:=true) only [↓aops_cons,↓aopsD_cons,go_sem, *])
  | (apply awp_block;(try simp only [blockQ]))
  | (apply condT;(· simp (decide:=true) only [↓aops_cons,↓aopsD_cons,go_sem, *]))
  | (apply condF;(· simp (decide:=true) only [↓aops_cons,↓aopsD_cons,go_sem, *]))
  | (apply awp_skip;simp (decide:=true) only [↓aops_cons,↓aopsD_cons,go_sem, *])
  | (apply awp_exit;simp (decide:=true) only [↓aops_cons,↓aopsD_cons,go_sem, *])
  | (apply awp_ret;simp (decide:=true) only [↓aops_cons,↓aopsD_cons,go_sem, *])
  | (apply awp_regD (id:=4) [0,0,2,7,15,0,0,96,224,511,1023];rfl;kernel_rfl;simp (decide:=true) only [↓aops_cons,↓aopsD_cons,go_sem, *])
  | (refine And.intro (a:=indep _ _ = true) ta ?_)
  | (rw [if_pos (show _ * _ ≤ 140737488355328 by (try simp only [List.length_append,List.length_cons,List.length_nil] at *);omega)];simp (decide:=true) only [↓aops_cons,↓aopsD_cons,go_sem, *])
  | (refine callI_of (spec_LessKey_s _ _ _ _ _ _ _ _ _ _ _ tH) ?_;simp (decide:=true) only [↓aops_cons,↓aopsD_cons,go_sem, *])
  | (refine callJ_of (spec_LessKey_s _ _ _ _ _ _ _ _ _ _ _ tH) ?_;simp (decide:=true) only [↓aops_cons,↓aopsD_cons,go_sem, *])
  | (refine ⟨_,0,_,?_,weakL [] ?_,_,rfl,rfl,H⟩;(· omega);(· simp (decide:=true) only [↓aops_cons,↓aopsD_cons,go_sem, *])))
 all_goals
  refine loopX (fun m k s=>∃ (x3:Int),k = 0 ∧ s = ⟨mk [(0,.v .one [.fv (keysF a0)]),(3,.v .one [.fv (litF x3)])],mo [],mo []⟩ ∧ spec_l4Rises.l0 m a0 x3 = some r) ?h0 ?hr
  case h0=>exact ⟨_,0,_,weakL [] tM,1,rfl,rfl,H⟩
  case hr =>
   rintro m k s ⟨x3,rfl,rfl,H⟩
   cases m with
   | zero=>cases H
   | succ m =>
    simp only [spec_l4Rises.l0] at H
    repeat' (first|contradiction|(rw [Option.ite_none_right_eq_some] at H;obtain ⟨_,H⟩:=H)|(rw [ite_or] at H;rcases H with ⟨_,H⟩|⟨_,H⟩)|(split at H)|(simp only [Option.bind_some] at H)|(rw [Option.bind_eq_some_iff] at H;obtain ⟨_,A,H⟩:=H)|cases H)
    all_goals repeat' (first
      | apply awp_seq
      | (apply awp_reg;rfl;simp (decide:=true) only [↓aops_cons,↓aopsD_cons,go_sem, *])
      | (apply awp_block;(try simp only [blockQ]))
      | (apply condT;(· simp (decide:=true) only [↓aops_cons,↓aopsD_cons,go_sem, *]))
      | (apply condF;(· simp (decide:=true) only [↓aops_cons,↓aopsD_cons,go_sem, *]))
      | (apply awp_skip;simp (decide:=true) only [↓aops_cons,↓aopsD_cons,go_sem, *])
      | (apply awp_exit;simp (decide:=true) only [↓aops_cons,↓aopsD_cons,go_sem, *])
      | (apply awp_ret;simp (decide:=true) only [↓aops_cons,↓aopsD_cons,go_sem, *])
      | (apply awp_regD (id:=4) [0,0,2,7,15,0,0,96,224,511,1023];rfl;kernel_rfl;simp (decide:=true) only [↓aops_cons,↓aopsD_cons,go_sem, *])
      | (refine And.intro (a:=indep _ _ = true) ta ?_)
      | (rw [if_pos (show _ * _ ≤ 140737488355328 by (try simp only [List.length_append,List.length_cons,List.length_nil] at *);omega)];simp (decide:=true) only [↓aops_cons,↓aopsD_cons,go_sem, *])
      | (refine callI_of (spec_LessKey_s _ _ _ _ _ _ _ _ _ _ _ tH) ?_;simp (decide:=true) only [↓aops_cons,↓aopsD_cons,go_sem, *])
      | (refine callJ_of (spec_LessKey_s _ _ _ _ _ _ _ _ _ _ _ tH) ?_;simp (decide:=true) only [↓aops_cons,↓aopsD_cons,go_sem, *])
      | (refine ⟨_,0,_,?_,weakL [] ?_,_,rfl,rfl,H⟩;(· omega);(· simp (decide:=true) only [↓aops_cons,↓aopsD_cons,go_sem, *])))
set_option maxHeartbeats 8000000 in
set_option maxRecDepth 100000 in
theorem spec_SetOk_s (k:Nat) (a0:List S38) (r:Bool) (H:spec_SetOk.f k a0 = some r):SemCall 100 [⟨.one,[keysF a0]⟩] 0 ⟨.one,[.fv (litB r)]⟩ 0:=by
 simp only [spec_SetOk.f] at H
 refine call0 (rs:=[.tmp 2]) Try.func100 rfl tF rfl Try.ntmps100 (Nat.le_of_ble_eq_true rfl) rfl ?_
 repeat' (first|contradiction|(rw [Option.ite_none_right_eq_some] at H;obtain ⟨_,H⟩:=H)|(rw [ite_or] at H;rcases H with ⟨_,H⟩|⟨_,H⟩)|(split at H)|(simp only [Option.bind_some] at H)|(rw [Option.bind_eq_some_iff] at H;obtain ⟨_,A,H⟩:=H)|cases H)
 all_goals repeat' (first
  | apply awp_seq
  | (apply awp_reg;rfl;simp (decide:=true) only [↓aops_cons,↓aopsD_cons,go_sem, *])
  | (apply awp_block;(try simp only [blockQ]))
  | (apply condT;(· simp (decide:=true) only [↓aops_cons,↓aopsD_cons,go_sem, *]))
  | (apply condF;(· simp (decide:=true) only [↓aops_cons,↓aopsD_cons,go_sem, *]))
  | (apply awp_skip;simp (decide:=true) only [↓aops_cons,↓aopsD_cons,go_sem, *])
  | (apply awp_exit;simp (decide:=true) only [↓aops_cons,↓aopsD_cons,go_sem, *])
  | (apply awp_ret;simp (decide:=true) only [↓aops_cons,↓aopsD_cons,go_sem, *])
  | (refine And.intro (a:=indep _ _ = true) ta ?_)
  | (rw [if_pos (show _ * _ ≤ 140737488355328 by (try simp only [List.length_append,List.length_cons,List.length_nil] at *);omega)];simp (decide:=true) only [↓aops_cons,↓aopsD_cons,go_sem, *])
  | (refine callI_of (spec_KeyOk_s _ _ _ _ _ _ _ tH) ?_;simp (decide:=true) only [↓aops_cons,↓aopsD_cons,go_sem, *])
  | (refine callJ_of (spec_KeyOk_s _ _ _ _ _ _ _ tH) ?_;simp (decide:=true) only [↓aops_cons,↓aopsD_cons,go_sem, *])
  | (refine callI_of (spec_l4Rises_s _ _ _ tH) ?_;simp (decide:=true) only [↓aops_cons,↓aopsD_cons,go_sem, *])
  | (refine callJ_of (spec_l4Rises_s _ _ _ tH) ?_;simp (decide:=true) only [↓aops_cons,↓aopsD_cons,go_sem, *])
  | (refine ⟨_,0,_,?_,weakL [] ?_,_,rfl,rfl,H⟩;(· omega);(· simp (decide:=true) only [↓aops_cons,↓aopsD_cons,go_sem, *])))
 all_goals
  refine loopX (fun m k s=>∃ (x3:Int),k = 0 ∧ s = ⟨mk [(0,.v .one [.fv (keysF a0)]),(3,.v .one [.fv (litF x3)])],mo [],mo []⟩ ∧ spec_SetOk.l0 m a0 x3 = some r) ?h0 ?hr
  case h0=>exact ⟨_,0,_,weakL [] tM,0,rfl,rfl,H⟩
  case hr =>
   rintro m k s ⟨x3,rfl,rfl,H⟩
   cases m with
   | zero=>cases H
   | succ m =>
    simp only [spec_SetOk.l0] at H
    repeat' (first|contradiction|(rw [Option.ite_none_right_eq_some] at H;obtain ⟨_,H⟩:=H)|(rw [ite_or] at H;rcases H with ⟨_,H⟩|⟨_,H⟩)|(split at H)|(simp only [Option.bind_some] at H)|(rw [Option.bind_eq_some_iff] at H;obtain ⟨_,A,H⟩:=H)|cases H)
    all_goals repeat' (first
      | apply awp_seq
      | (apply awp_reg;rfl;simp (decide:=true) only [↓aops_cons,↓aopsD_cons,go_sem, *])
      | (apply awp_block;(try simp only [blockQ]))
      | (apply condT;(· simp (decide:=true) only [↓aops_cons,↓aopsD_cons,go_sem, *]))
      | (apply condF;(· simp (decide:=true) only [↓aops_cons,↓aopsD_cons,go_sem, *]))
      | (apply awp_skip;simp (decide:=true) only [↓aops_cons,↓aopsD_cons,go_sem, *])
      | (apply awp_exit;simp (decide:=true) only [↓aops_cons,↓aopsD_cons,go_sem, *])
      | (apply awp_ret;simp (decide:=true) only [↓aops_cons,↓aopsD_cons,go_sem, *])
      | (refine And.intro (a:=indep _ _ = true) ta ?_)
      | (rw [if_pos (show _ * _ ≤ 140737488355328 by (try simp only [List.length_append,List.length_cons,List.length_nil] at *);omega)];simp (decide:=true) only [↓aops_cons,↓aopsD_cons,go_sem, *])
      | (refine callI_of (spec_KeyOk_s _ _ _ _ _ _ _ tH) ?_;simp (decide:=true) only [↓aops_cons,↓aopsD_cons,go_sem, *])
      | (refine callJ_of (spec_KeyOk_s _ _ _ _ _ _ _ tH) ?_;simp (decide:=true) only [↓aops_cons,↓aopsD_cons,go_sem, *])
      | (refine callI_of (spec_l4Rises_s _ _ _ tH) ?_;simp (decide:=true) only [↓aops_cons,↓aopsD_cons,go_sem, *])
      | (refine callJ_of (spec_l4Rises_s _ _ _ tH) ?_;simp (decide:=true) only [↓aops_cons,↓aopsD_cons,go_sem, *])
      | (refine ⟨_,0,_,?_,weakL [] ?_,_,rfl,rfl,H⟩;(· omega);(· simp (decide:=true) only [↓aops_cons,↓aopsD_cons,go_sem, *])))
set_option maxHeartbeats 8000000 in
set_option maxRecDepth 100000 in
theorem spec_l5Count_s (k:Nat) (a0:List (List S38)) (r:Int) (H:spec_l5Count.f k a0 = some r):SemCall 101 [⟨.agg,[setsF a0]⟩] 0 ⟨.one,[.fv (litF r)]⟩ 0:=by
 simp only [spec_l5Count.f] at H
 refine call0 (rs:=[.tmp 2]) Try.func101 rfl tF rfl Try.ntmps101 (Nat.le_of_ble_eq_true rfl) rfl ?_
 repeat' (first|contradiction|(rw [Option.ite_none_right_eq_some] at H;obtain ⟨_,H⟩:=H)|(rw [ite_or] at H;rcases H with ⟨_,H⟩|⟨_,H⟩)|(split at H)|(simp only [Option.bind_some] at H)|(rw [Option.bind_eq_some_iff] at H;obtain ⟨_,A,H⟩:=H)|cases H)
 all_goals repeat' (first
  | apply awp_seq
  | (apply awp_reg;rfl;simp (decide:=true) only [↓aops_cons,↓aopsD_cons,go_sem, *])
  | (apply awp_block;(try simp only [blockQ]))
  | (apply condT;(· simp (decide:=true) only [↓aops_cons,↓aopsD_cons,go_sem, *]))
  | (apply condF;(· simp (decide:=true) only [↓aops_cons,↓aopsD_cons,go_sem, *]))
  | (apply awp_skip;simp (decide:=true) only [↓aops_cons,↓aopsD_cons,go_sem, *])
  | (apply awp_exit;simp (decide:=true) only [↓aops_cons,↓aopsD_cons,go_sem, *])
  | (apply awp_ret;simp (decide:=true) only [↓aops_cons,↓aopsD_cons,go_sem, *])
  | (refine And.intro (a:=indep _ _ = true) ta ?_)
  | (rw [if_pos (show _ * _ ≤ 140737488355328 by (try simp only [List.length_append,List.length_cons,List.length_nil] at *);omega)];simp (decide:=true) only [↓aops_cons,↓aopsD_cons,go_sem, *])
  | (refine ⟨_,0,_,?_,weakL [] ?_,_,_,rfl,rfl,H⟩;(· omega);(· simp (decide:=true) only [↓aops_cons,↓aopsD_cons,go_sem, *])))
 all_goals
  refine loopX (fun m k s=>∃ (x3 x4:Int),k = 0 ∧ s = ⟨mk [(1,.addr 1 0),(3,.v .one [.fv (litF x3)]),(4,.v .one [.fv (litF x4)])],mo [(1,⟨59,[.fv (setsF a0)]⟩)],mo []⟩ ∧ spec_l5Count.l0 m x3 x4 a0 = some r) ?h0 ?hr
  case h0=>exact ⟨_,0,_,weakL [] tM,0,0,rfl,rfl,H⟩
  case hr =>
   rintro m k s ⟨x3,x4,rfl,rfl,H⟩
   cases m with
   | zero=>cases H
   | succ m =>
    simp only [spec_l5Count.l0] at H
    repeat' (first|contradiction|(rw [Option.ite_none_right_eq_some] at H;obtain ⟨_,H⟩:=H)|(rw [ite_or] at H;rcases H with ⟨_,H⟩|⟨_,H⟩)|(split at H)|(simp only [Option.bind_some] at H)|(rw [Option.bind_eq_some_iff] at H;obtain ⟨_,A,H⟩:=H)|cases H)
    all_goals repeat' (first
      | apply awp_seq
      | (apply awp_reg;rfl;simp (decide:=true) only [↓aops_cons,↓aopsD_cons,go_sem, *])
      | (apply awp_block;(try simp only [blockQ]))
      | (apply condT;(· simp (decide:=true) only [↓aops_cons,↓aopsD_cons,go_sem, *]))
      | (apply condF;(· simp (decide:=true) only [↓aops_cons,↓aopsD_cons,go_sem, *]))
      | (apply awp_skip;simp (decide:=true) only [↓aops_cons,↓aopsD_cons,go_sem, *])
      | (apply awp_exit;simp (decide:=true) only [↓aops_cons,↓aopsD_cons,go_sem, *])
      | (apply awp_ret;simp (decide:=true) only [↓aops_cons,↓aopsD_cons,go_sem, *])
      | (refine And.intro (a:=indep _ _ = true) ta ?_)
      | (rw [if_pos (show _ * _ ≤ 140737488355328 by (try simp only [List.length_append,List.length_cons,List.length_nil] at *);omega)];simp (decide:=true) only [↓aops_cons,↓aopsD_cons,go_sem, *])
      | (refine ⟨_,0,_,?_,weakL [] ?_,_,_,rfl,rfl,H⟩;(· omega);(· simp (decide:=true) only [↓aops_cons,↓aopsD_cons,go_sem, *])))
set_option maxHeartbeats 8000000 in
set_option maxRecDepth 100000 in
theorem spec_NodeOk_s (k:Nat) (a0:List (List S38)) (r:Bool) (H:spec_NodeOk.f k a0 = some r):SemCall 84 [⟨.agg,[setsF a0]⟩] 0 ⟨.one,[.fv (litB r)]⟩ 0:=by
 simp only [spec_NodeOk.f] at H
 refine call0 (rs:=[.tmp 2]) Try.func84 rfl tF rfl Try.ntmps84 (Nat.le_of_ble_eq_true rfl) rfl ?_
 repeat' (first|contradiction|(rw [Option.ite_none_right_eq_some] at H;obtain ⟨_,H⟩:=H)|(rw [ite_or] at H;rcases H with ⟨_,H⟩|⟨_,H⟩)|(split at H)|(simp only [Option.bind_some] at H)|(rw [Option.bind_eq_some_iff] at H;obtain ⟨_,A,H⟩:=H)|cases H)
 all_goals repeat' (first
  | apply awp_seq
  | (apply awp_reg;rfl;simp (decide:=true) only [↓aops_cons,↓aopsD_cons,go_sem, *])
  | (apply awp_block;(try simp only [blockQ]))
  | (apply condT;(· simp (decide:=true) only [↓aops_cons,↓aopsD_cons,go_sem, *]))
  | (apply condF;(· simp (decide:=true) only [↓aops_cons,↓aopsD_cons,go_sem, *]))
  | (apply awp_skip;simp (decide:=true) only [↓aops_cons,↓aopsD_cons,go_sem, *])
  | (apply awp_exit;simp (decide:=true) only [↓aops_cons,↓aopsD_cons,go_sem, *])
  | (apply awp_ret;simp (decide:=true) only [↓aops_cons,↓aopsD_cons,go_sem, *])
  | (refine And.intro (a:=indep _ _ = true) ta ?_)
  | (rw [if_pos (show _ * _ ≤ 140737488355328 by (try simp only [List.length_append,List.length_cons,List.length_nil] at *);omega)];simp (decide:=true) only [↓aops_cons,↓aopsD_cons,go_sem, *])
  | (refine callI_of (spec_SetOk_s _ _ _ tH) ?_;simp (decide:=true) only [↓aops_cons,↓aopsD_cons,go_sem, *])
  | (refine callJ_of (spec_SetOk_s _ _ _ tH) ?_;simp (decide:=true) only [↓aops_cons,↓aopsD_cons,go_sem, *])
  | (refine callI_of (spec_l5Count_s _ _ _ tH) ?_;simp (decide:=true) only [↓aops_cons,↓aopsD_cons,go_sem, *])
  | (refine callJ_of (spec_l5Count_s _ _ _ tH) ?_;simp (decide:=true) only [↓aops_cons,↓aopsD_cons,go_sem, *])
  | (refine ⟨_,0,_,?_,weakL [] ?_,_,rfl,rfl,H⟩;(· omega);(· simp (decide:=true) only [↓aops_cons,↓aopsD_cons,go_sem, *])))
 all_goals
  refine loopX (fun m k s=>∃ (x3:Int),k = 0 ∧ s = ⟨mk [(1,.addr 1 0),(3,.v .one [.fv (litF x3)])],mo [(1,⟨59,[.fv (setsF a0)]⟩)],mo []⟩ ∧ spec_NodeOk.l0 m x3 a0 = some r) ?h0 ?hr
  case h0=>exact ⟨_,0,_,weakL [] tM,0,rfl,rfl,H⟩
  case hr =>
   rintro m k s ⟨x3,rfl,rfl,H⟩
   cases m with
   | zero=>cases H
   | succ m =>
    simp only [spec_NodeOk.l0] at H
    repeat' (first|contradiction|(rw [Option.ite_none_right_eq_some] at H;obtain ⟨_,H⟩:=H)|(rw [ite_or] at H;rcases H with ⟨_,H⟩|⟨_,H⟩)|(split at H)|(simp only [Option.bind_some] at H)|(rw [Option.bind_eq_some_iff] at H;obtain ⟨_,A,H⟩:=H)|cases H)
    all_goals repeat' (first
      | apply awp_seq
      | (apply awp_reg;rfl;simp (decide:=true) only [↓aops_cons,↓aopsD_cons,go_sem, *])
      | (apply awp_block;(try simp only [blockQ]))
      | (apply condT;(· simp (decide:=true) only [↓aops_cons,↓aopsD_cons,go_sem, *]))
      | (apply condF;(· simp (decide:=true) only [↓aops_cons,↓aopsD_cons,go_sem, *]))
      | (apply awp_skip;simp (decide:=true) only [↓aops_cons,↓aopsD_cons,go_sem, *])
      | (apply awp_exit;simp (decide:=true) only [↓aops_cons,↓aopsD_cons,go_sem, *])
      | (apply awp_ret;simp (decide:=true) only [↓aops_cons,↓aopsD_cons,go_sem, *])
      | (refine And.intro (a:=indep _ _ = true) ta ?_)
      | (rw [if_pos (show _ * _ ≤ 140737488355328 by (try simp only [List.length_append,List.length_cons,List.length_nil] at *);omega)];simp (decide:=true) only [↓aops_cons,↓aopsD_cons,go_sem, *])
      | (refine callI_of (spec_SetOk_s _ _ _ tH) ?_;simp (decide:=true) only [↓aops_cons,↓aopsD_cons,go_sem, *])
      | (refine callJ_of (spec_SetOk_s _ _ _ tH) ?_;simp (decide:=true) only [↓aops_cons,↓aopsD_cons,go_sem, *])
      | (refine callI_of (spec_l5Count_s _ _ _ tH) ?_;simp (decide:=true) only [↓aops_cons,↓aopsD_cons,go_sem, *])
      | (refine callJ_of (spec_l5Count_s _ _ _ tH) ?_;simp (decide:=true) only [↓aops_cons,↓aopsD_cons,go_sem, *])
      | (refine ⟨_,0,_,?_,weakL [] ?_,_,rfl,rfl,H⟩;(· omega);(· simp (decide:=true) only [↓aops_cons,↓aopsD_cons,go_sem, *])))
set_option maxHeartbeats 8000000 in
set_option maxRecDepth 100000 in
theorem spec_SameSpot_s (a00 a01 a02 a03 a04:Int) (a10 a11 a12 a13 a14:Int) (r:Bool) (H:spec_SameSpot.f a00 a01 a02 a03 a04 a10 a11 a12 a13 a14 = some r):SemCall 86 [⟨.agg,[litF a00,litF a01,litF a02,litF a03,litF a04]⟩,⟨.agg,[litF a10,litF a11,litF a12,litF a13,litF a14]⟩] 0 ⟨.one,[.fv (litB r)]⟩ 0:=by
 simp only [spec_SameSpot.f] at H
 refine call0 (rs:=[.tmp 4]) Try.func86 rfl tF rfl Try.ntmps86 (Nat.le_of_ble_eq_true rfl) rfl ?_
 repeat' (first|contradiction|(rw [Option.ite_none_right_eq_some] at H;obtain ⟨_,H⟩:=H)|(rw [ite_or] at H;rcases H with ⟨_,H⟩|⟨_,H⟩)|(split at H)|(simp only [Option.bind_some] at H)|(rw [Option.bind_eq_some_iff] at H;obtain ⟨_,A,H⟩:=H)|cases H)
 all_goals repeat' (first
  | apply awp_seq
  | (apply awp_reg;rfl;simp (decide:=true) only [↓aops_cons,↓aopsD_cons,go_sem, *])
  | (apply awp_block;(try simp only [blockQ]))
  | (apply condT;(· simp (decide:=true) only [↓aops_cons,↓aopsD_cons,go_sem, *]))
  | (apply condF;(· simp (decide:=true) only [↓aops_cons,↓aopsD_cons,go_sem, *]))
  | (apply awp_skip;simp (decide:=true) only [↓aops_cons,↓aopsD_cons,go_sem, *])
  | (apply awp_exit;simp (decide:=true) only [↓aops_cons,↓aopsD_cons,go_sem, *])
  | (apply awp_ret;simp (decide:=true) only [↓aops_cons,↓aopsD_cons,go_sem, *])
  | (refine And.intro (a:=indep _ _ = true) ta ?_)
  | (rw [if_pos (show _ * _ ≤ 140737488355328 by (try simp only [List.length_append,List.length_cons,List.length_nil] at *);omega)];simp (decide:=true) only [↓aops_cons,↓aopsD_cons,go_sem, *]))
theorem spec_SetPut.j1_s {y0 y1 y2 y3 y4 y5 y6 y7 y8 y9 r} {k:Nat} (H:spec_SetPut.j1 k y0 y1 y2 y3 y4 y5 y6 y7 y8 y9 = some r):∃ q,k = q + 1:=by cases k with
 | zero=>cases H
 | succ q=>exact ⟨q,rfl⟩
set_option maxHeartbeats 8000000 in
set_option maxRecDepth 100000 in
theorem spec_SetPut_s (k:Nat) (a0:List S38) (a10 a11 a12 a13 a14:Int) (r:List S38) (H:spec_SetPut.f k a0 a10 a11 a12 a13 a14 = some r):SemCall 53 [⟨.one,[keysF a0]⟩,⟨.agg,[litF a10,litF a11,litF a12,litF a13,litF a14]⟩] 0 ⟨.one,[.own 0 38 (keysE r)]⟩ 0:=by
 simp only [spec_SetPut.f] at H
 refine call0 (rs:=[.tmp 4]) Try.func53 rfl tF rfl Try.ntmps53 (Nat.le_of_ble_eq_true rfl) rfl ?_
 repeat' (first|contradiction|(rw [Option.ite_none_right_eq_some] at H;obtain ⟨_,H⟩:=H)|(rw [ite_or] at H;rcases H with ⟨_,H⟩|⟨_,H⟩)|(split at H)|(simp only [Option.bind_some] at H)|(rw [Option.bind_eq_some_iff] at H;obtain ⟨_,A,H⟩:=H)|(obtain ⟨_,rfl⟩:=spec_SetPut.j1_s H;simp only [spec_SetPut.j1,beq_iff_eq,bne_iff_ne,ne_eq,ite_not] at H)|cases H)
 all_goals repeat' (first
  | apply awp_seq
  | (apply awp_reg;rfl;simp (decide:=true) only [↓aops_cons,↓aopsD_cons,go_sem, *])
  | (apply awp_block;(try simp only [blockQ]))
  | (apply condT;(· simp (decide:=true) only [↓aops_cons,↓aopsD_cons,go_sem, *]))
  | (apply condF;(· simp (decide:=true) only [↓aops_cons,↓aopsD_cons,go_sem, *]))
  | (apply awp_skip;simp (decide:=true) only [↓aops_cons,↓aopsD_cons,go_sem, *])
  | (apply awp_exit;simp (decide:=true) only [↓aops_cons,↓aopsD_cons,go_sem, *])
  | (apply awp_ret;simp (decide:=true) only [↓aops_cons,↓aopsD_cons,go_sem, *])
  | (apply awp_regD (id:=6) [0,1,3,7,7,31,63,7,255,511,1023];rfl;kernel_rfl;simp (decide:=true) only [↓aops_cons,↓aopsD_cons,go_sem, *])
  | (apply awp_regD (id:=9) [0,0,3,7,0,31,63];rfl;kernel_rfl;simp (decide:=true) only [↓aops_cons,↓aopsD_cons,go_sem, *])
  | (refine And.intro (a:=indep _ _ = true) ta ?_)
  | (rw [if_pos (show _ * _ ≤ 140737488355328 by (try simp only [List.length_append,List.length_cons,List.length_nil] at *);omega)];simp (decide:=true) only [↓aops_cons,↓aopsD_cons,go_sem, *])
  | (refine callI_of (spec_LessKey_s _ _ _ _ _ _ _ _ _ _ _ tH) ?_;simp (decide:=true) only [↓aops_cons,↓aopsD_cons,go_sem, *])
  | (refine callJ_of (spec_LessKey_s _ _ _ _ _ _ _ _ _ _ _ tH) ?_;simp (decide:=true) only [↓aops_cons,↓aopsD_cons,go_sem, *])
  | (refine callI_of (spec_SameSpot_s _ _ _ _ _ _ _ _ _ _ _ tH) ?_;simp (decide:=true) only [↓aops_cons,↓aopsD_cons,go_sem, *])
  | (refine callJ_of (spec_SameSpot_s _ _ _ _ _ _ _ _ _ _ _ tH) ?_;simp (decide:=true) only [↓aops_cons,↓aopsD_cons,go_sem, *])
  | (refine ⟨_,0,_,?_,weakL [] ?_,_,_,_,rfl,rfl,H⟩;(· omega);(· simp (decide:=true) only [↓aops_cons,↓aopsD_cons,go_sem, *])))
 all_goals
  refine loopX (fun m k s=>∃ (x5:List S38) (x6:Bool) (x7:Int),k = 0 ∧ s = ⟨mk [(0,.v .one [.fv (keysF a0)]),(3,.addr 3 0),(5,.v .one [.own 8 x5.length]),(6,.v .one [.fv (litB x6)]),(7,.v .one [.fv (litF x7)])],mo [(3,⟨38,[.fv (litF a10),.fv (litF a11),.fv (litF a12),.fv (litF a13),.fv (litF a14)]⟩)],mo [(8,⟨0,38,keysE x5,false⟩)]⟩ ∧ spec_SetPut.l0 m a0 x5 x6 x7 a10 a11 a12 a13 a14 = some r) ?h0 ?hr
  case h0=>exact ⟨_,0,_,weakL [] tM,[],false,0,rfl,rfl,H⟩
  case hr =>
   rintro m k s ⟨x5,x6,x7,rfl,rfl,H⟩
   cases m with
   | zero=>cases H
   | succ m =>
    simp only [spec_SetPut.l0] at H
    repeat' (first|contradiction|(rw [Option.ite_none_right_eq_some] at H;obtain ⟨_,H⟩:=H)|(rw [ite_or] at H;rcases H with ⟨_,H⟩|⟨_,H⟩)|(split at H)|(simp only [Option.bind_some] at H)|(rw [Option.bind_eq_some_iff] at H;obtain ⟨_,A,H⟩:=H)|(obtain ⟨_,rfl⟩:=spec_SetPut.j1_s H;simp only [spec_SetPut.j1,beq_iff_eq,bne_iff_ne,ne_eq,ite_not] at H)|cases H)
    all_goals repeat' (first
      | apply awp_seq
      | (apply awp_reg;rfl;simp (decide:=true) only [↓aops_cons,↓aopsD_cons,go_sem, *])
      | (apply awp_block;(try simp only [blockQ]))
      | (apply condT;(· simp (decide:=true) only [↓aops_cons,↓aopsD_cons,go_sem, *]))
      | (apply condF;(· simp (decide:=true) only [↓aops_cons,↓aopsD_cons,go_sem, *]))
      | (apply awp_skip;simp (decide:=true) only [↓aops_cons,↓aopsD_cons,go_sem, *])
      | (apply awp_exit;simp (decide:=true) only [↓aops_cons,↓aopsD_cons,go_sem, *])
      | (apply awp_ret;simp (decide:=true) only [↓aops_cons,↓aopsD_cons,go_sem, *])
      | (apply awp_regD (id:=6) [0,1,3,7,7,31,63,7,255,511,1023];rfl;kernel_rfl;simp (decide:=true) only [↓aops_cons,↓aopsD_cons,go_sem, *])
      | (apply awp_regD (id:=9) [0,0,3,7,0,31,63];rfl;kernel_rfl;simp (decide:=true) only [↓aops_cons,↓aopsD_cons,go_sem, *])
      | (refine And.intro (a:=indep _ _ = true) ta ?_)
      | (rw [if_pos (show _ * _ ≤ 140737488355328 by (try simp only [List.length_append,List.length_cons,List.length_nil] at *);omega)];simp (decide:=true) only [↓aops_cons,↓aopsD_cons,go_sem, *])
      | (refine callI_of (spec_LessKey_s _ _ _ _ _ _ _ _ _ _ _ tH) ?_;simp (decide:=true) only [↓aops_cons,↓aopsD_cons,go_sem, *])
      | (refine callJ_of (spec_LessKey_s _ _ _ _ _ _ _ _ _ _ _ tH) ?_;simp (decide:=true) only [↓aops_cons,↓aopsD_cons,go_sem, *])
      | (refine callI_of (spec_SameSpot_s _ _ _ _ _ _ _ _ _ _ _ tH) ?_;simp (decide:=true) only [↓aops_cons,↓aopsD_cons,go_sem, *])
      | (refine callJ_of (spec_SameSpot_s _ _ _ _ _ _ _ _ _ _ _ tH) ?_;simp (decide:=true) only [↓aops_cons,↓aopsD_cons,go_sem, *])
      | (refine ⟨_,0,_,?_,weakL [] ?_,_,_,_,rfl,rfl,H⟩;(· omega);(· simp (decide:=true) only [↓aops_cons,↓aopsD_cons,go_sem, *])))
set_option maxHeartbeats 8000000 in
set_option maxRecDepth 100000 in
theorem spec_MergeSets_s (k:Nat) (a0:List S38) (a1:List S38) (r:List S38) (H:spec_MergeSets.f k a0 a1 = some r):SemCall 87 [⟨.one,[keysF a0]⟩,⟨.one,[keysF a1]⟩] 0 ⟨.one,[.fv (keysF r)]⟩ 0:=by
 simp only [spec_MergeSets.f] at H
 refine call0 (rs:=[.tmp 4]) Try.func87 rfl tF rfl Try.ntmps87 (Nat.le_of_ble_eq_true rfl) rfl ?_
 repeat' (first|contradiction|(rw [Option.ite_none_right_eq_some] at H;obtain ⟨_,H⟩:=H)|(rw [ite_or] at H;rcases H with ⟨_,H⟩|⟨_,H⟩)|(split at H)|(simp only [Option.bind_some] at H)|(rw [Option.bind_eq_some_iff] at H;obtain ⟨_,A,H⟩:=H)|cases H)
 all_goals repeat' (first
  | apply awp_seq
  | (apply awp_reg;rfl;simp (decide:=true) only [↓aops_cons,↓aopsD_cons,go_sem, *])
  | (apply awp_block;(try simp only [blockQ]))
  | (apply condT;(· simp (decide:=true) only [↓aops_cons,↓aopsD_cons,go_sem, *]))
  | (apply condF;(· simp (decide:=true) only [↓aops_cons,↓aopsD_cons,go_sem, *]))
  | (apply awp_skip;simp (decide:=true) only [↓aops_cons,↓aopsD_cons,go_sem, *])
  | (apply awp_exit;simp (decide:=true) only [↓aops_cons,↓aopsD_cons,go_sem, *])
  | (apply awp_ret;simp (decide:=true) only [↓aops_cons,↓aopsD_cons,go_sem, *])
  | (refine And.intro (a:=indep _ _ = true) ta ?_)
  | (rw [if_pos (show _ * _ ≤ 140737488355328 by (try simp only [List.length_append,List.length_cons,List.length_nil] at *);omega)];simp (decide:=true) only [↓aops_cons,↓aopsD_cons,go_sem, *])
  | (refine callI_of (spec_SetPut_s _ _ _ _ _ _ _ _ tH) ?_;simp (decide:=true) only [↓aops_cons,↓aopsD_cons,go_sem, *])
  | (refine callJ_of (spec_SetPut_s _ _ _ _ _ _ _ _ tH) ?_;simp (decide:=true) only [↓aops_cons,↓aopsD_cons,go_sem, *])
  | (refine ⟨_,0,_,?_,weakL [7,1021] ?_,_,_,rfl,rfl,H⟩;(· omega);(· simp (decide:=true) only [↓aops_cons,↓aopsD_cons,go_sem, *])))
 all_goals
  refine loopX (fun m k s=>∃ (x5:List S38) (x6:Int),k = 0 ∧ s = ⟨mk [(1,.v .one [.fv (keysF a1)]),(5,.v .one [.fv (keysF x5)]),(6,.v .one [.fv (litF x6)])],mo [],mo []⟩ ∧ spec_MergeSets.l0 m a1 x5 x6 = some r) ?h0 ?hr
  case h0=>exact ⟨_,0,_,weakL [7,1021] tM,_,0,rfl,rfl,H⟩
  case hr =>
   rintro m k s ⟨x5,x6,rfl,rfl,H⟩
   cases m with
   | zero=>cases H
   | succ m =>
    simp only [spec_MergeSets.l0] at H
    repeat' (first|contradiction|(rw [Option.ite_none_right_eq_some] at H;obtain ⟨_,H⟩:=H)|(rw [ite_or] at H;rcases H with ⟨_,H⟩|⟨_,H⟩)|(split at H)|(simp only [Option.bind_some] at H)|(rw [Option.bind_eq_some_iff] at H;obtain ⟨_,A,H⟩:=H)|cases H)
    all_goals repeat' (first
      | apply awp_seq
      | (apply awp_reg;rfl;simp (decide:=true) only [↓aops_cons,↓aopsD_cons,go_sem, *])
      | (apply awp_block;(try simp only [blockQ]))
      | (apply condT;(· simp (decide:=true) only [↓aops_cons,↓aopsD_cons,go_sem, *]))
      | (apply condF;(· simp (decide:=true) only [↓aops_cons,↓aopsD_cons,go_sem, *]))
      | (apply awp_skip;simp (decide:=true) only [↓aops_cons,↓aopsD_cons,go_sem, *])
      | (apply awp_exit;simp (decide:=true) only [↓aops_cons,↓aopsD_cons,go_sem, *])
      | (apply awp_ret;simp (decide:=true) only [↓aops_cons,↓aopsD_cons,go_sem, *])
      | (refine And.intro (a:=indep _ _ = true) ta ?_)
      | (rw [if_pos (show _ * _ ≤ 140737488355328 by (try simp only [List.length_append,List.length_cons,List.length_nil] at *);omega)];simp (decide:=true) only [↓aops_cons,↓aopsD_cons,go_sem, *])
      | (refine callI_of (spec_SetPut_s _ _ _ _ _ _ _ _ tH) ?_;simp (decide:=true) only [↓aops_cons,↓aopsD_cons,go_sem, *])
      | (refine callJ_of (spec_SetPut_s _ _ _ _ _ _ _ _ tH) ?_;simp (decide:=true) only [↓aops_cons,↓aopsD_cons,go_sem, *])
      | (refine ⟨_,0,_,?_,weakL [7,1021] ?_,_,_,rfl,rfl,H⟩;(· omega);(· simp (decide:=true) only [↓aops_cons,↓aopsD_cons,go_sem, *])))
set_option maxHeartbeats 8000000 in
set_option maxRecDepth 100000 in
theorem spec_Drop_s (k:Nat) (a0:List S38) (r:List S38) (H:spec_Drop.f k a0 = some r):SemCall 52 [⟨.one,[keysF a0]⟩] 0 ⟨.one,[.own 0 38 (keysE r)]⟩ 0:=by
 simp only [spec_Drop.f] at H
 refine call0 (rs:=[.tmp 2]) Try.func52 rfl tF rfl Try.ntmps52 (Nat.le_of_ble_eq_true rfl) rfl ?_
 repeat' (first|contradiction|(rw [Option.ite_none_right_eq_some] at H;obtain ⟨_,H⟩:=H)|(rw [ite_or] at H;rcases H with ⟨_,H⟩|⟨_,H⟩)|(split at H)|(simp only [Option.bind_some] at H)|(rw [Option.bind_eq_some_iff] at H;obtain ⟨_,A,H⟩:=H)|cases H)
 all_goals repeat' (first
  | apply awp_seq
  | (apply awp_reg;rfl;simp (decide:=true) only [↓aops_cons,↓aopsD_cons,go_sem, *])
  | (apply awp_block;(try simp only [blockQ]))
  | (apply condT;(· simp (decide:=true) only [↓aops_cons,↓aopsD_cons,go_sem, *]))
  | (apply condF;(· simp (decide:=true) only [↓aops_cons,↓aopsD_cons,go_sem, *]))
  | (apply awp_skip;simp (decide:=true) only [↓aops_cons,↓aopsD_cons,go_sem, *])
  | (apply awp_exit;simp (decide:=true) only [↓aops_cons,↓aopsD_cons,go_sem, *])
  | (apply awp_ret;simp (decide:=true) only [↓aops_cons,↓aopsD_cons,go_sem, *])
  | (refine And.intro (a:=indep _ _ = true) ta ?_)
  | (rw [if_pos (show _ * _ ≤ 140737488355328 by (try simp only [List.length_append,List.length_cons,List.length_nil] at *);omega)];simp (decide:=true) only [↓aops_cons,↓aopsD_cons,go_sem, *])
  | (refine ⟨_,0,_,?_,weakL [] ?_,_,_,rfl,rfl,H⟩;(· omega);(· simp (decide:=true) only [↓aops_cons,↓aopsD_cons,go_sem, *])))
 all_goals
  refine loopX (fun m k s=>∃ (x3:List S38) (x4:Int),k = 0 ∧ s = ⟨mk [(0,.v .one [.fv (keysF a0)]),(3,.v .one [.own 5 x3.length]),(4,.v .one [.fv (litF x4)])],mo [],mo [(5,⟨0,38,keysE x3,false⟩)]⟩ ∧ spec_Drop.l0 m a0 x3 x4 = some r) ?h0 ?hr
  case h0=>exact ⟨_,0,_,weakL [] tM,[],0,rfl,rfl,H⟩
  case hr =>
   rintro m k s ⟨x3,x4,rfl,rfl,H⟩
   cases m with
   | zero=>cases H
   | succ m =>
    simp only [spec_Drop.l0] at H
    repeat' (first|contradiction|(rw [Option.ite_none_right_eq_some] at H;obtain ⟨_,H⟩:=H)|(rw [ite_or] at H;rcases H with ⟨_,H⟩|⟨_,H⟩)|(split at H)|(simp only [Option.bind_some] at H)|(rw [Option.bind_eq_some_iff] at H;obtain ⟨_,A,H⟩:=H)|cases H)
    all_goals repeat' (first
      | apply awp_seq
      | (apply awp_reg;rfl;simp (decide:=true) only [↓aops_cons,↓aopsD_cons,go_sem, *])
      | (apply awp_block;(try simp only [blockQ]))
      | (apply condT;(· simp (decide:=true) only [↓aops_cons,↓aopsD_cons,go_sem, *]))
      | (apply condF;(· simp (decide:=true) only [↓aops_cons,↓aopsD_cons,go_sem, *]))
      | (apply awp_skip;simp (decide:=true) only [↓aops_cons,↓aopsD_cons,go_sem, *])
      | (apply awp_exit;simp (decide:=true) only [↓aops_cons,↓aopsD_cons,go_sem, *])
      | (apply awp_ret;simp (decide:=true) only [↓aops_cons,↓aopsD_cons,go_sem, *])
      | (refine And.intro (a:=indep _ _ = true) ta ?_)
      | (rw [if_pos (show _ * _ ≤ 140737488355328 by (try simp only [List.length_append,List.length_cons,List.length_nil] at *);omega)];simp (decide:=true) only [↓aops_cons,↓aopsD_cons,go_sem, *])
      | (refine ⟨_,0,_,?_,weakL [] ?_,_,_,rfl,rfl,H⟩;(· omega);(· simp (decide:=true) only [↓aops_cons,↓aopsD_cons,go_sem, *])))
set_option maxHeartbeats 8000000 in
set_option maxRecDepth 100000 in
theorem spec_NodeKeys_s (k:Nat) (a0:List (List S38)) (r:List S38) (H:spec_NodeKeys.f k a0 = some r):SemCall 54 [⟨.agg,[setsF a0]⟩] 0 ⟨.one,[.own 0 38 (keysE r)]⟩ 0:=by
 simp only [spec_NodeKeys.f] at H
 refine call0 (rs:=[.tmp 2]) Try.func54 rfl tF rfl Try.ntmps54 (Nat.le_of_ble_eq_true rfl) rfl ?_
 repeat' (first|contradiction|(rw [Option.ite_none_right_eq_some] at H;obtain ⟨_,H⟩:=H)|(rw [ite_or] at H;rcases H with ⟨_,H⟩|⟨_,H⟩)|(split at H)|(simp only [Option.bind_some] at H)|(rw [Option.bind_eq_some_iff] at H;obtain ⟨_,A,H⟩:=H)|cases H)
 all_goals repeat' (first
  | apply awp_seq
  | (apply awp_reg;rfl;simp (decide:=true) only [↓aops_cons,↓aopsD_cons,go_sem, *])
  | (apply awp_block;(try simp only [blockQ]))
  | (apply condT;(· simp (decide:=true) only [↓aops_cons,↓aopsD_cons,go_sem, *]))
  | (apply condF;(· simp (decide:=true) only [↓aops_cons,↓aopsD_cons,go_sem, *]))
  | (apply awp_skip;simp (decide:=true) only [↓aops_cons,↓aopsD_cons,go_sem, *])
  | (apply awp_exit;simp (decide:=true) only [↓aops_cons,↓aopsD_cons,go_sem, *])
  | (apply awp_ret;simp (decide:=true) only [↓aops_cons,↓aopsD_cons,go_sem, *])
  | (refine And.intro (a:=indep _ _ = true) ta ?_)
  | (rw [if_pos (show _ * _ ≤ 140737488355328 by (try simp only [List.length_append,List.length_cons,List.length_nil] at *);omega)];simp (decide:=true) only [↓aops_cons,↓aopsD_cons,go_sem, *])
  | (refine callI_of (spec_MergeSets_s _ _ _ _ tH) ?_;simp (decide:=true) only [↓aops_cons,↓aopsD_cons,go_sem, *])
  | (refine callJ_of (spec_MergeSets_s _ _ _ _ tH) ?_;simp (decide:=true) only [↓aops_cons,↓aopsD_cons,go_sem, *])
  | (refine callI_of (spec_Drop_s _ _ _ tH) ?_;simp (decide:=true) only [↓aops_cons,↓aopsD_cons,go_sem, *])
  | (refine callJ_of (spec_Drop_s _ _ _ tH) ?_;simp (decide:=true) only [↓aops_cons,↓aopsD_cons,go_sem, *])
  | (refine ⟨_,0,_,?_,weakL [5] ?_,_,_,rfl,rfl,H⟩;(· omega);(· simp (decide:=true) only [↓aops_cons,↓aopsD_cons,go_sem, *])))
 all_goals
  refine loopX (fun m k s=>∃ (x3:List S38) (x4:Int),k = 0 ∧ s = ⟨mk [(1,.addr 1 0),(3,.v .one [.fv (keysF x3)]),(4,.v .one [.fv (litF x4)])],mo [(1,⟨59,[.fv (setsF a0)]⟩)],mo []⟩ ∧ spec_NodeKeys.l0 m x3 x4 a0 = some r) ?h0 ?hr
  case h0=>exact ⟨_,0,_,weakL [5] tM,[],0,rfl,rfl,H⟩
  case hr =>
   rintro m k s ⟨x3,x4,rfl,rfl,H⟩
   cases m with
   | zero=>cases H
   | succ m =>
    simp only [spec_NodeKeys.l0] at H
    repeat' (first|contradiction|(rw [Option.ite_none_right_eq_some] at H;obtain ⟨_,H⟩:=H)|(rw [ite_or] at H;rcases H with ⟨_,H⟩|⟨_,H⟩)|(split at H)|(simp only [Option.bind_some] at H)|(rw [Option.bind_eq_some_iff] at H;obtain ⟨_,A,H⟩:=H)|cases H)
    all_goals repeat' (first
      | apply awp_seq
      | (apply awp_reg;rfl;simp (decide:=true) only [↓aops_cons,↓aopsD_cons,go_sem, *])
      | (apply awp_block;(try simp only [blockQ]))
      | (apply condT;(· simp (decide:=true) only [↓aops_cons,↓aopsD_cons,go_sem, *]))
      | (apply condF;(· simp (decide:=true) only [↓aops_cons,↓aopsD_cons,go_sem, *]))
      | (apply awp_skip;simp (decide:=true) only [↓aops_cons,↓aopsD_cons,go_sem, *])
      | (apply awp_exit;simp (decide:=true) only [↓aops_cons,↓aopsD_cons,go_sem, *])
      | (apply awp_ret;simp (decide:=true) only [↓aops_cons,↓aopsD_cons,go_sem, *])
      | (refine And.intro (a:=indep _ _ = true) ta ?_)
      | (rw [if_pos (show _ * _ ≤ 140737488355328 by (try simp only [List.length_append,List.length_cons,List.length_nil] at *);omega)];simp (decide:=true) only [↓aops_cons,↓aopsD_cons,go_sem, *])
      | (refine callI_of (spec_MergeSets_s _ _ _ _ tH) ?_;simp (decide:=true) only [↓aops_cons,↓aopsD_cons,go_sem, *])
      | (refine callJ_of (spec_MergeSets_s _ _ _ _ tH) ?_;simp (decide:=true) only [↓aops_cons,↓aopsD_cons,go_sem, *])
      | (refine callI_of (spec_Drop_s _ _ _ tH) ?_;simp (decide:=true) only [↓aops_cons,↓aopsD_cons,go_sem, *])
      | (refine callJ_of (spec_Drop_s _ _ _ tH) ?_;simp (decide:=true) only [↓aops_cons,↓aopsD_cons,go_sem, *])
      | (refine ⟨_,0,_,?_,weakL [5] ?_,_,_,rfl,rfl,H⟩;(· omega);(· simp (decide:=true) only [↓aops_cons,↓aopsD_cons,go_sem, *])))
set_option maxHeartbeats 8000000 in
set_option maxRecDepth 100000 in
theorem spec_SpotOf_s (a0:Int) (a1:Int) (r:Int) (H:spec_SpotOf.f a0 a1 = some r):SemCall 82 [⟨.one,[litF a0]⟩,⟨.one,[litF a1]⟩] 0 ⟨.one,[.fv (litF r)]⟩ 0:=by
 simp only [spec_SpotOf.f] at H
 refine call0 (rs:=[.tmp 4]) Try.func82 rfl tF rfl Try.ntmps82 (Nat.le_of_ble_eq_true rfl) rfl ?_
 repeat' (first|contradiction|(rw [Option.ite_none_right_eq_some] at H;obtain ⟨_,H⟩:=H)|(rw [ite_or] at H;rcases H with ⟨_,H⟩|⟨_,H⟩)|(split at H)|(simp only [Option.bind_some] at H)|(rw [Option.bind_eq_some_iff] at H;obtain ⟨_,A,H⟩:=H)|cases H)
 all_goals repeat' (first
  | apply awp_seq
  | (apply awp_reg;rfl;simp (decide:=true) only [↓aops_cons,↓aopsD_cons,go_sem, *])
  | (apply awp_block;(try simp only [blockQ]))
  | (apply condT;(· simp (decide:=true) only [↓aops_cons,↓aopsD_cons,go_sem, *]))
  | (apply condF;(· simp (decide:=true) only [↓aops_cons,↓aopsD_cons,go_sem, *]))
  | (apply awp_skip;simp (decide:=true) only [↓aops_cons,↓aopsD_cons,go_sem, *])
  | (apply awp_exit;simp (decide:=true) only [↓aops_cons,↓aopsD_cons,go_sem, *])
  | (apply awp_ret;simp (decide:=true) only [↓aops_cons,↓aopsD_cons,go_sem, *])
  | (refine And.intro (a:=indep _ _ = true) ta ?_)
  | (rw [if_pos (show _ * _ ≤ 140737488355328 by (try simp only [List.length_append,List.length_cons,List.length_nil] at *);omega)];simp (decide:=true) only [↓aops_cons,↓aopsD_cons,go_sem, *]))
set_option maxHeartbeats 8000000 in
set_option maxRecDepth 100000 in
theorem spec_l6Spot_s (a00 a01 a02 a03 a04:Int) (r:Int) (H:spec_l6Spot.f a00 a01 a02 a03 a04 = some r):SemCall 55 [⟨.agg,[litF a00,litF a01,litF a02,litF a03,litF a04]⟩] 0 ⟨.one,[.fv (litF r)]⟩ 0:=by
 simp only [spec_l6Spot.f] at H
 refine call0 (rs:=[.tmp 2]) Try.func55 rfl tF rfl Try.ntmps55 (Nat.le_of_ble_eq_true rfl) rfl ?_
 repeat' (first|contradiction|(rw [Option.ite_none_right_eq_some] at H;obtain ⟨_,H⟩:=H)|(rw [ite_or] at H;rcases H with ⟨_,H⟩|⟨_,H⟩)|(split at H)|(simp only [Option.bind_some] at H)|(rw [Option.bind_eq_some_iff] at H;obtain ⟨_,A,H⟩:=H)|cases H)
 all_goals repeat' (first
  | apply awp_seq
  | (apply awp_reg;rfl;simp (decide:=true) only [↓aops_cons,↓aopsD_cons,go_sem, *])
  | (apply awp_block;(try simp only [blockQ]))
  | (apply condT;(· simp (decide:=true) only [↓aops_cons,↓aopsD_cons,go_sem, *]))
  | (apply condF;(· simp (decide:=true) only [↓aops_cons,↓aopsD_cons,go_sem, *]))
  | (apply awp_skip;simp (decide:=true) only [↓aops_cons,↓aopsD_cons,go_sem, *])
  | (apply awp_exit;simp (decide:=true) only [↓aops_cons,↓aopsD_cons,go_sem, *])
  | (apply awp_ret;simp (decide:=true) only [↓aops_cons,↓aopsD_cons,go_sem, *])
  | (refine And.intro (a:=indep _ _ = true) ta ?_)
  | (rw [if_pos (show _ * _ ≤ 140737488355328 by (try simp only [List.length_append,List.length_cons,List.length_nil] at *);omega)];simp (decide:=true) only [↓aops_cons,↓aopsD_cons,go_sem, *])
  | (refine callI_of (spec_SpotOf_s _ _ _ tH) ?_;simp (decide:=true) only [↓aops_cons,↓aopsD_cons,go_sem, *])
  | (refine callJ_of (spec_SpotOf_s _ _ _ tH) ?_;simp (decide:=true) only [↓aops_cons,↓aopsD_cons,go_sem, *]))
theorem spec_l6Node.j0_s {y0 y1 y2 y3 y4 r} {k:Nat} (H:spec_l6Node.j0 k y0 y1 y2 y3 y4 = some r):∃ q,k = q + 1:=by cases k with
 | zero=>cases H
 | succ q=>exact ⟨q,rfl⟩
set_option maxHeartbeats 8000000 in
set_option maxRecDepth 100000 in
theorem spec_l6Node_s (k:Nat) (a00:List Int) (a01:List S59) (a1:Int) (r:Bool) (H:spec_l6Node.f k a00 a01 a1 = some r):SemCall 80 [⟨.agg,[intsF a00,nodesF a01]⟩,⟨.one,[litF a1]⟩] 0 ⟨.one,[.fv (litB r)]⟩ 0:=by
 simp only [spec_l6Node.f] at H
 refine call0 (rs:=[.tmp 4]) Try.func80 rfl tF rfl Try.ntmps80 (Nat.le_of_ble_eq_true rfl) rfl ?_
 repeat' (first|contradiction|(rw [Option.ite_none_right_eq_some] at H;obtain ⟨_,H⟩:=H)|(rw [ite_or] at H;rcases H with ⟨_,H⟩|⟨_,H⟩)|(split at H)|(simp only [Option.bind_some] at H)|(rw [Option.bind_eq_some_iff] at H;obtain ⟨_,A,H⟩:=H)|(obtain ⟨_,rfl⟩:=spec_l6Node.j0_s H;simp only [spec_l6Node.j0,beq_iff_eq,bne_iff_ne,ne_eq,ite_not] at H)|cases H)
 all_goals repeat' (first
  | apply awp_seq
  | (apply awp_reg;rfl;simp (decide:=true) only [↓aops_cons,↓aopsD_cons,go_sem, *])
  | (apply awp_block;(try simp only [blockQ]))
  | (apply condT;(· simp (decide:=true) only [↓aops_cons,↓aopsD_cons,go_sem, *]))
  | (apply condF;(· simp (decide:=true) only [↓aops_cons,↓aopsD_cons,go_sem, *]))
  | (apply awp_skip;simp (decide:=true) only [↓aops_cons,↓aopsD_cons,go_sem, *])
  | (apply awp_exit;simp (decide:=true) only [↓aops_cons,↓aopsD_cons,go_sem, *])
  | (apply awp_ret;simp (decide:=true) only [↓aops_cons,↓aopsD_cons,go_sem, *])
  | (refine And.intro (a:=indep _ _ = true) ta ?_)
  | (rw [if_pos (show _ * _ ≤ 140737488355328 by (try simp only [List.length_append,List.length_cons,List.length_nil] at *);omega)];simp (decide:=true) only [↓aops_cons,↓aopsD_cons,go_sem, *])
  | (refine callI_of (spec_NodeOk_s _ _ _ tH) ?_;simp (decide:=true) only [↓aops_cons,↓aopsD_cons,go_sem, *])
  | (refine callJ_of (spec_NodeOk_s _ _ _ tH) ?_;simp (decide:=true) only [↓aops_cons,↓aopsD_cons,go_sem, *])
  | (refine callI_of (spec_NodeKeys_s _ _ _ tH) ?_;simp (decide:=true) only [↓aops_cons,↓aopsD_cons,go_sem, *])
  | (refine callJ_of (spec_NodeKeys_s _ _ _ tH) ?_;simp (decide:=true) only [↓aops_cons,↓aopsD_cons,go_sem, *])
  | (refine callI_of (spec_l6Spot_s _ _ _ _ _ _ tH) ?_;simp (decide:=true) only [↓aops_cons,↓aopsD_cons,go_sem, *])
  | (refine callJ_of (spec_l6Spot_s _ _ _ _ _ _ tH) ?_;simp (decide:=true) only [↓aops_cons,↓aopsD_cons,go_sem, *])
  | (refine ⟨_,0,_,?_,weakL [] ?_,_,rfl,rfl,H⟩;(· omega);(· simp (decide:=true) only [↓aops_cons,↓aopsD_cons,go_sem, *]))
  | (refine ⟨_,0,_,?_,weakL [] ?_,tD,_,rfl,rfl,H⟩;(· omega);(· simp (decide:=true) only [↓aops_cons,↓aopsD_cons,go_sem, *])))
 all_goals
  refine loopX (fun m k s=>∃ (x6:Int),k = 0 ∧ s = ⟨mk [(2,.addr 2 0),(5,.addr 5 0),(1,.v .one [.fv (litF a1)]),(6,.v .one [.fv (litF x6)])],mo [(2,⟨29,[.fv (intsF a00),.fv (nodesF a01)]⟩),(5,⟨59,[.fv (setsF (rd_T59 a01 a1).f0)]⟩)],mo []⟩ ∧ spec_l6Node.l0 m a1 x6 a00 a01 (rd_T59 a01 a1).f0 = some r) ?h0 ?hr
  case h0=>exact ⟨_,0,_,weakL [] tM,0,rfl,rfl,H⟩
  case hr =>
   rintro m k s ⟨x6,rfl,rfl,H⟩
   cases m with
   | zero=>cases H
   | succ m =>
    simp only [spec_l6Node.l0] at H
    repeat' (first|contradiction|(rw [Option.ite_none_right_eq_some] at H;obtain ⟨_,H⟩:=H)|(rw [ite_or] at H;rcases H with ⟨_,H⟩|⟨_,H⟩)|(split at H)|(simp only [Option.bind_some] at H)|(rw [Option.bind_eq_some_iff] at H;obtain ⟨_,A,H⟩:=H)|(obtain ⟨_,rfl⟩:=spec_l6Node.j0_s H;simp only [spec_l6Node.j0,beq_iff_eq,bne_iff_ne,ne_eq,ite_not] at H)|cases H)
    all_goals repeat' (first
      | apply awp_seq
      | (apply awp_reg;rfl;simp (decide:=true) only [↓aops_cons,↓aopsD_cons,go_sem, *])
      | (apply awp_block;(try simp only [blockQ]))
      | (apply condT;(· simp (decide:=true) only [↓aops_cons,↓aopsD_cons,go_sem, *]))
      | (apply condF;(· simp (decide:=true) only [↓aops_cons,↓aopsD_cons,go_sem, *]))
      | (apply awp_skip;simp (decide:=true) only [↓aops_cons,↓aopsD_cons,go_sem, *])
      | (apply awp_exit;simp (decide:=true) only [↓aops_cons,↓aopsD_cons,go_sem, *])
      | (apply awp_ret;simp (decide:=true) only [↓aops_cons,↓aopsD_cons,go_sem, *])
      | (refine And.intro (a:=indep _ _ = true) ta ?_)
      | (rw [if_pos (show _ * _ ≤ 140737488355328 by (try simp only [List.length_append,List.length_cons,List.length_nil] at *);omega)];simp (decide:=true) only [↓aops_cons,↓aopsD_cons,go_sem, *])
      | (refine callI_of (spec_NodeOk_s _ _ _ tH) ?_;simp (decide:=true) only [↓aops_cons,↓aopsD_cons,go_sem, *])
      | (refine callJ_of (spec_NodeOk_s _ _ _ tH) ?_;simp (decide:=true) only [↓aops_cons,↓aopsD_cons,go_sem, *])
      | (refine callI_of (spec_NodeKeys_s _ _ _ tH) ?_;simp (decide:=true) only [↓aops_cons,↓aopsD_cons,go_sem, *])
      | (refine callJ_of (spec_NodeKeys_s _ _ _ tH) ?_;simp (decide:=true) only [↓aops_cons,↓aopsD_cons,go_sem, *])
      | (refine callI_of (spec_l6Spot_s _ _ _ _ _ _ tH) ?_;simp (decide:=true) only [↓aops_cons,↓aopsD_cons,go_sem, *])
      | (refine callJ_of (spec_l6Spot_s _ _ _ _ _ _ tH) ?_;simp (decide:=true) only [↓aops_cons,↓aopsD_cons,go_sem, *])
      | (refine ⟨_,0,_,?_,weakL [] ?_,_,rfl,rfl,H⟩;(· omega);(· simp (decide:=true) only [↓aops_cons,↓aopsD_cons,go_sem, *]))
      | (refine ⟨_,0,_,?_,weakL [] ?_,tD,_,rfl,rfl,H⟩;(· omega);(· simp (decide:=true) only [↓aops_cons,↓aopsD_cons,go_sem, *])))
    all_goals
     refine loopX (fun n k s=>n ≤ m ∧ ∃ (x7:Int),k = 0 ∧ s = ⟨mk [(2,.addr 2 0),(5,.addr 5 0),(1,.v .one [.fv (litF a1)]),(6,.v .one [.fv (litF x6)]),(7,.v .one [.fv (litF x7)])],mo [(2,⟨29,[.fv (intsF a00),.fv (nodesF a01)]⟩),(5,⟨59,[.fv (setsF (rd_T59 a01 a1).f0)]⟩)],mo []⟩ ∧ spec_l6Node.l1 n a1 x6 x7 a00 a01 (rd_T59 a01 a1).f0 = some r) ?h0 ?hr
     case h0=>exact ⟨_,0,_,weakL [] tM,Nat.le_refl _,0,rfl,rfl,H⟩
     case hr =>
      rintro n k s ⟨hn,x7,rfl,rfl,H⟩
      cases n with
      | zero=>cases H
      | succ n =>
       simp only [spec_l6Node.l1] at H
       repeat' (first|contradiction|(rw [Option.ite_none_right_eq_some] at H;obtain ⟨_,H⟩:=H)|(rw [ite_or] at H;rcases H with ⟨_,H⟩|⟨_,H⟩)|(split at H)|(simp only [Option.bind_some] at H)|(rw [Option.bind_eq_some_iff] at H;obtain ⟨_,A,H⟩:=H)|(obtain ⟨_,rfl⟩:=spec_l6Node.j0_s H;simp only [spec_l6Node.j0,beq_iff_eq,bne_iff_ne,ne_eq,ite_not] at H)|cases H)
       all_goals repeat' (first
         | apply awp_seq
         | (apply awp_reg;rfl;simp (decide:=true) only [↓aops_cons,↓aopsD_cons,go_sem, *])
         | (apply awp_block;(try simp only [blockQ]))
         | (apply condT;(· simp (decide:=true) only [↓aops_cons,↓aopsD_cons,go_sem, *]))
         | (apply condF;(· simp (decide:=true) only [↓aops_cons,↓aopsD_cons,go_sem, *]))
         | (apply awp_skip;simp (decide:=true) only [↓aops_cons,↓aopsD_cons,go_sem, *])
         | (apply awp_exit;simp (decide:=true) only [↓aops_cons,↓aopsD_cons,go_sem, *])
         | (apply awp_ret;simp (decide:=true) only [↓aops_cons,↓aopsD_cons,go_sem, *])
         | (refine And.intro (a:=indep _ _ = true) ta ?_)
         | (rw [if_pos (show _ * _ ≤ 140737488355328 by (try simp only [List.length_append,List.length_cons,List.length_nil] at *);omega)];simp (decide:=true) only [↓aops_cons,↓aopsD_cons,go_sem, *])
         | (refine callI_of (spec_NodeOk_s _ _ _ tH) ?_;simp (decide:=true) only [↓aops_cons,↓aopsD_cons,go_sem, *])
         | (refine callJ_of (spec_NodeOk_s _ _ _ tH) ?_;simp (decide:=true) only [↓aops_cons,↓aopsD_cons,go_sem, *])
         | (refine callI_of (spec_NodeKeys_s _ _ _ tH) ?_;simp (decide:=true) only [↓aops_cons,↓aopsD_cons,go_sem, *])
         | (refine callJ_of (spec_NodeKeys_s _ _ _ tH) ?_;simp (decide:=true) only [↓aops_cons,↓aopsD_cons,go_sem, *])
         | (refine callI_of (spec_l6Spot_s _ _ _ _ _ _ tH) ?_;simp (decide:=true) only [↓aops_cons,↓aopsD_cons,go_sem, *])
         | (refine callJ_of (spec_l6Spot_s _ _ _ _ _ _ tH) ?_;simp (decide:=true) only [↓aops_cons,↓aopsD_cons,go_sem, *])
         | (refine ⟨_,0,_,?_,weakL [] ?_,_,rfl,rfl,H⟩;(· omega);(· simp (decide:=true) only [↓aops_cons,↓aopsD_cons,go_sem, *]))
         | (refine ⟨_,0,_,?_,weakL [] ?_,tD,_,rfl,rfl,H⟩;(· omega);(· simp (decide:=true) only [↓aops_cons,↓aopsD_cons,go_sem, *])))
end Go.Proofs.Ytamjbjkbineafaa.EvFnExactTreePut
