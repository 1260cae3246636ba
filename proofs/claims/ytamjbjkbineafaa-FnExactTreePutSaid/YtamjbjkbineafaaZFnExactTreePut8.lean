/- The law: the functions that it reaches, each with the proof that the machine's call comes to its answer, what they answer, and the law's row; each theorem says its conditions itself. -/
import Derived.Test.YtamjbjkbineafaaZFnExactTreePut7
import Derived.ChangeArms
import Derived.ChangeShapes
import Derived.WideShapes
import Derived.Test.YtamjbjkbineafaaRows
import Derived.WalkKit
import Derived.ProofKit
import Derived.OpenShut
import Derived.ShutString
import Derived.ChangeOld
import Derived.Below
import Derived.SizedLaws
namespace Go.Proofs.Ytamjbjkbineafaa.Op
open Go.RowKit Go.ChangeShapes Go.WideShapes Go.Proofs.YtamjbjkbineafaaW.PrintWords
def Opens {α:Type} (P:Program) (t:TypeId) (d:Kd α) (g:α → Prop):Prop :=
 ∀ {H:Type} {enc:TypeId × Value → H} {w:World} {base:Nat} {spare:Nat → Bool} {held:Bool} {fuel:Nat} {cs:List Value} {x:DataW H × List MemPlace},
  DataW.trod enc P w base spare held fuel t cs = some x → ∃ a,d.K w a cs ∧ g a
theorem opens_int {P:Program} {t:TypeId} {k:IntKind} (ht:P.underlying t = some (.int k)):Opens P t (Kd.int k) (fun n=>(Lit.int k n).wf = true):=by
 intro H enc w base spare held fuel cs x h
 obtain ⟨n,rfl,_,hw⟩:=DataW.trod_int ht h
 exact ⟨n,rfl,hw⟩
theorem opens_slice {α:Type} {P:Program} {t e:TypeId} {d:Kd α} {g:α → Prop} (q:Nat) (ht:P.underlying t = some (.slice e)) (hd:Opens P e d g) (hc:P.cellsOf e = d.sz) :
  Opens P t (Kd.slice q d) (fun xs=>xs.length ≤ 9223372036854775807 ∧ ∀ x ∈ xs,g x):=by
 intro H enc w base spare held fuel cs x h
 rcases DataW.trod_slice ht h with ⟨rfl,_⟩|⟨a,len,cap,elems,rest,n,_,rfl,_,_,hl,hm,hlen,hel,_,_⟩
 ·exact ⟨[],⟨none,0,rfl,Nat.le_refl _,rfl,Nat.zero_le _,fun h=>by cases h⟩,by simp,by simp⟩
 ·have each:∀ i:Fin len,∃ y:α,g y ∧ ∃ c:List Value,c.length = d.sz ∧ d.K w y c ∧ ∀ j u,c[j]? = some u → w.cell? (a.add (i.val * d.sz + j)) = some u:=by
   intro i
   have h1:=hel i.val i.isLt
   rw [List.getElem?_eq_getElem tD,Option.bind_eq_some_iff] at h1
   obtain ⟨c,hcs,hy⟩:=h1
   obtain ⟨_,hcl,hcell⟩:=World.cells?_some hcs
   obtain ⟨y,hK,hg⟩:=hd hy
   refine ⟨y,hg,c,by rw [hcl,hc],hK,fun j u hu=>?_⟩
   have hj:j < c.length:=(List.getElem?_eq_some_iff.1 hu).1
   have h2:=hcell j tD
   rw [hu] at h2
   rw [← h2,hc]
   congr 1
   exact (Addr.add_add a _ _).symm
  obtain ⟨f,hf⟩:=Classical.axiomOfChoice each
  refine ⟨List.ofFn f,⟨some a,cap,by rw [List.length_ofFn],by rw [List.length_ofFn];exact hl,by rw [List.length_ofFn],by rw [List.length_ofFn];unfold maxLen at hm;omega,fun _=>⟨a,rfl,fun j p hp=>?_⟩⟩,by rw [List.length_ofFn];unfold maxLen at hm;omega,fun x hx=>?_⟩
  ·rw [List.getElem?_ofFn] at hp
   split at hp
   ·rename_i hj
    obtain rfl:=Option.some.inj hp
    obtain ⟨_,c,h1,h2,h3⟩:=hf ⟨j,hj⟩
    exact ⟨c,h1,h2,h3⟩
   ·cases hp
  ·obtain ⟨i,rfl⟩:=List.mem_ofFn.1 hx
   exact (hf i).1
/-- The fields from one offset on. -/
def OpensL {α:Type} (P:Program) (fs:List Field) (off:Nat) (d:Kd α) (g:α → Prop):Prop :=
 ∀ {H:Type} {enc:TypeId × Value → H} {w:World} {base:Nat} {spare:Nat → Bool} {held:Bool} {fuel:Nat} {cs:List Value},
  (∀ f ∈ fs,∃ x,DataW.trod enc P w base spare held fuel f.type ((cs.drop f.offset).take (P.cellsOf f.type)) = some x) → ∃ a,d.K w a ((cs.drop off).take d.sz) ∧ g a
theorem opensL_one {α:Type} {P:Program} {f:Field} {d:Kd α} {g:α → Prop} {off:Nat} (ho:f.offset = off) (hd:Opens P f.type d g) (hc:P.cellsOf f.type = d.sz):OpensL P [f] off d g:=by
 intro H enc w base spare held fuel cs h
 obtain ⟨x,hx⟩:=h f te
 rw [hc,ho] at hx
 exact hd hx
theorem opensL_cons {α β:Type} {P:Program} {f:Field} {fs:List Field} {d:Kd α} {g:α → Prop} {d':Kd β} {g':β → Prop} {off:Nat} (ho:f.offset = off) (hd:Opens P f.type d g) (hc:P.cellsOf f.type = d.sz)
  (hr:OpensL P fs (off + d.sz) d' g'):OpensL P (f :: fs) off (Kd.pair d d') (fun x=>g x.1 ∧ g' x.2):=by
 intro H enc w base spare held fuel cs h
 obtain ⟨a,ha,hg⟩:=opensL_one ho hd hc (fun f' hf'=>h f' (by simp at hf';simp [hf']))
 obtain ⟨b,hb,hg'⟩:=hr (fun f' hf'=>h f' (List.mem_cons_of_mem _ hf'))
 refine ⟨(a,b),⟨(cs.drop off).take d.sz,(cs.drop (off + d.sz)).take d'.sz,?_,ha,hb⟩,hg,hg'⟩
 show (cs.drop off).take (d.sz + d'.sz) = _
 rw [List.take_add,List.drop_drop]
theorem opens_struct {α:Type} {P:Program} {t:TypeId} {fs:Array Field} {d:Kd α} {g:α → Prop} (ht:P.underlying t = some (.struct fs)) (hc:P.cellsOf t = d.sz) (hL:OpensL P fs.toList 0 d g):Opens P t d g:=by
 intro H enc w base spare held fuel cs x h
 obtain ⟨xs,n,_,_,hl,hxl,hf⟩:=DataW.trod_struct ht h
 have:=hL (enc:=enc) (w:=w) (base:=base) (spare:=spare) (held:=held) (fuel:=n) (cs:=cs) (fun f hmem=>by
  obtain ⟨i,hi⟩:=List.getElem?_of_mem hmem
  have hi':fs[i]? = some f:=by simpa using hi
  have hlt:i < fs.size:=(Array.getElem?_eq_some_iff.1 hi').1
  exact ⟨xs[i]'tD,by rw [hf i f hi',List.getElem?_eq_getElem]⟩)
 rw [List.drop_zero,← hc,← hl,List.take_length] at this
 exact this
theorem opens_iso {α β:Type} {P:Program} {t:TypeId} {d:Kd α} {g:α → Prop} (f:β → α) (e:α → β) (he:∀ a,f (e a) = a) (h:Opens P t d g):Opens P t (Kd.iso d f) (fun b=>g (f b)):=by
 intro H enc w base spare held fuel cs x hx
 obtain ⟨a,ha,hg⟩:=h hx
 exact ⟨e a,by show d.K w (f (e a)) cs;rw [he];exact ha,by show g (f (e a));rw [he];exact hg⟩
theorem opens_mono {α:Type} {P:Program} {t:TypeId} {d:Kd α} {g g':α → Prop} (h:Opens P t d g) (hg:∀ a,g a → g' a):Opens P t d g':=by
 intro H enc w base spare held fuel cs x hx
 obtain ⟨a,ha,hga⟩:=h hx
 exact ⟨a,ha,hg a hga⟩
end Go.Proofs.Ytamjbjkbineafaa.Op

namespace Go.Proofs.Ytamjbjkbineafaa.rowFnExactTreePut
open Go.ChangeShapes Go.WideShapes Go.ChangeAt Go.RowKit
open Go.ChangeMaps (open_string shut_string)
open Go.Proofs.YtamjbjkbineafaaW.PrintWords Go.Proofs.Ytamjbjkbineafaa.Op Go.Proofs.Ytamjbjkbineafaa.PFnExactTreePut Go.Proofs.Ytamjbjkbineafaa.Law
set_option linter.unusedVariables false
set_option linter.unusedSimpArgs false
theorem own:ownKnob Try.prog.godebug = none:=by kernel_rfl
theorem laidOut:laidOutB Try.prog = true:=by kernel_rfl
theorem opensElKey:Opens Try.prog 48 k48 (fun x=>((Lit.int .i64 x.f0).wf = true ∧ (Lit.int .i64 x.f1).wf = true ∧ (Lit.int .i64 x.f2).wf = true ∧ (Lit.int .i64 x.f3).wf = true ∧ (Lit.int .i64 x.f4).wf = true)):=opens_mono (opens_iso (fun x:S48=>(x.f0,x.f1,x.f2,x.f3,x.f4)) (fun y=>⟨y.1,y.2.1,y.2.2.1,y.2.2.2.1,y.2.2.2.2⟩) (fun _=>rfl) (opens_struct Try.underlying48 tF (opensL_cons rfl (opens_int Try.underlying3) tF (opensL_cons rfl (opens_int Try.underlying3) tF (opensL_cons rfl (opens_int Try.underlying3) tF (opensL_cons rfl (opens_int Try.underlying3) tF (opensL_one rfl (opens_int Try.underlying3) tF))))))) (fun _ h=>h)
theorem opensElNode:Opens Try.prog 87 k87 (fun x=>((x.f0.length ≤ 9223372036854775807 ∧ ∀ y0 ∈ x.f0,(y0.length ≤ 9223372036854775807 ∧ ∀ y1 ∈ y0,((Lit.int .i64 y1.f0).wf = true ∧ (Lit.int .i64 y1.f1).wf = true ∧ (Lit.int .i64 y1.f2).wf = true ∧ (Lit.int .i64 y1.f3).wf = true ∧ (Lit.int .i64 y1.f4).wf = true))))):=opens_mono (opens_iso (fun x:S87=>x.f0) (fun y=>⟨y⟩) (fun _=>rfl) (opens_struct Try.underlying87 tF (opensL_one rfl ((opens_slice 108 Try.underlying85 ((opens_slice 48 Try.underlying108 (opensElKey) tF)) tF)) tF))) (fun _ h=>h)
theorem opensTree:Opens Try.prog 25 (Kd.pair (Kd.slice 3 (Kd.int .i64)) (Kd.slice 87 (k87))) (fun x=>(x.1.length ≤ 9223372036854775807 ∧ ∀ y0 ∈ x.1,(Lit.int .i64 y0).wf = true) ∧ (x.2.length ≤ 9223372036854775807 ∧ ∀ y0 ∈ x.2,((y0.f0.length ≤ 9223372036854775807 ∧ ∀ y1 ∈ y0.f0,(y1.length ≤ 9223372036854775807 ∧ ∀ y2 ∈ y1,((Lit.int .i64 y2.f0).wf = true ∧ (Lit.int .i64 y2.f1).wf = true ∧ (Lit.int .i64 y2.f2).wf = true ∧ (Lit.int .i64 y2.f3).wf = true ∧ (Lit.int .i64 y2.f4).wf = true)))))):=opens_struct Try.underlying25 tF (opensL_cons rfl ((opens_slice 3 Try.underlying22 (opens_int Try.underlying3) tF)) tF (opensL_one rfl ((opens_slice 87 Try.underlying23 (opensElNode) tF)) tF))
theorem opensKey:Opens Try.prog 48 (Kd.pair (Kd.int .i64) (Kd.pair (Kd.int .i64) (Kd.pair (Kd.int .i64) (Kd.pair (Kd.int .i64) (Kd.int .i64))))) (fun x=>(Lit.int .i64 x.1).wf = true ∧ (Lit.int .i64 x.2.1).wf = true ∧ (Lit.int .i64 x.2.2.1).wf = true ∧ (Lit.int .i64 x.2.2.2.1).wf = true ∧ (Lit.int .i64 x.2.2.2.2).wf = true):=opens_struct Try.underlying48 tF (opensL_cons rfl (opens_int Try.underlying3) tF (opensL_cons rfl (opens_int Try.underlying3) tF (opensL_cons rfl (opens_int Try.underlying3) tF (opensL_cons rfl (opens_int Try.underlying3) tF (opensL_one rfl (opens_int Try.underlying3) tF)))))
set_option maxRecDepth 100000 in
theorem lifted (os:Os) (started:os.Started) (H:Type) (enc:TypeId × Value → H) :
  ReturnsInHanded {} Try.checked os 5 .any (Rows.fnExactTreePutSpec.pre6 enc Try.prog Try.f5 Rows.fnExactTreePutRow.domain false) (Rows.fnExactTreePutSpec.post enc Try.prog Try.f5 false true false false):=by
 refine returnsInHanded_of_change_sized (C:=Try.checked) own started tF Try.func5
  (ChangeSpec.witness6 (enc:=enc) (C:=Try.checked) false ⟨#[],#[.agg #[.slice none 0 0,.slice none 0 0],.agg #[.int .i64 0,.int .i64 0,.int .i64 0,.int .i64 0,.int .i64 0]],[]⟩ 8 tF tF tF tF) ?_
 intro W base args ds gs before hval0 hW hcnd hsz0 _
 have hval:∀ (j:Nat) t v,Try.f5.params[j]? = some t → args[j]? = some v → Value.okWide Try.prog W .any base t v:=hval0
 have hW':=hW
 obtain ⟨p,q,hA0,hV,rfl,hfz,hnd⟩:=hW
 have hA:DataW.TrodAll enc Try.prog W 0 (fun _=>true) true Try.f5.params.toList args.toList ds p:=hA0
 rw [Try.params5] at hA hval
 obtain ⟨v0,vs0,d0,ds0,p0,q0,hargs,rfl,rfl,h0,r0⟩:=trodAll_cons hA
 obtain ⟨v1,vs1,d1,ds1,p1,q1,rfl,rfl,rfl,h1,r1⟩:=trodAll_cons r0
 obtain ⟨rfl,rfl,rfl⟩:=trodAll_nil r1
 obtain rfl:args = #[v0,v1]:=by cases args;simp_all
 obtain ⟨rfl,rfl⟩:=trodVars_none hV
 have k0:=h0
 have lt0:∀ x ∈ p0,x.block < W.heap.size:=by obtain ⟨m,hm⟩:=k0;exact DataW.trod_lt m _ _ _ hm
 obtain ⟨fuel0,hf0⟩:=h0
 obtain ⟨cs0,rfl,_⟩:=okWide_struct Try.underlying25 (hval 0 25 v0 rfl rfl)
 obtain ⟨x0,hK0,g0⟩:=opensTree hf0
 obtain ⟨l0_0,l0_1⟩:=x0
 obtain ⟨_,_,e0,⟨A0_0,c0_0,rfl,hc0_0,hC0_0⟩,⟨A0_1,c0_1,rfl,hc0_1,hC0_1⟩⟩:=hK0
 obtain rfl:cs0 = #[.slice A0_0 l0_0.length c0_0,.slice A0_1 l0_1.length c0_1]:=by apply Array.toList_inj.1;exact e0
 have k1:=h1
 have lt1:∀ x ∈ p1,x.block < W.heap.size:=by obtain ⟨m,hm⟩:=k1;exact DataW.trod_lt m _ _ _ hm
 obtain ⟨fuel1,hf1⟩:=h1
 obtain ⟨cs1,rfl,_⟩:=okWide_struct Try.underlying48 (hval 1 48 v1 rfl rfl)
 obtain ⟨x1,hK1,g1⟩:=opensKey hf1
 obtain ⟨a1_0,a1_1,a1_2,a1_3,a1_4⟩:=x1
 obtain ⟨_,_,e1,rfl,⟨_,_,rfl,rfl,⟨_,_,rfl,rfl,⟨_,_,rfl,rfl,rfl⟩⟩⟩⟩:=hK1
 obtain rfl:cs1 = #[.int .i64 a1_0,.int .i64 a1_1,.int .i64 a1_2,.int .i64 a1_3,.int .i64 a1_4]:=by apply Array.toList_inj.1;exact e1
 clear hA0 hval0 hsz0
 refine (laws_FnExactTreePut.calls _ _ _ _ _ _ _ _ _ _ _ W hC0_0 hc0_0 hC0_1 hc0_1 g0 g1).mono fun e W' ⟨he,bel0⟩=>?_
 have bel:Below W.heap.size W W':=by first|exact bel0|exact bel0.below
 subst he
 exact ⟨_,rfl,_,_,_,[],_,[],hW',trodAll_mk1 (shut_bool Try.underlying4 _),(trodAll_cons_mk (Below.trod laidOut tF (lE tF) k0 bel lt0) (trodAll_cons_mk (Below.trod laidOut tF (lE tF) k1 bel lt1) trodAll_mk0)),rfl,bel.frame _,fun h=>by cases h⟩
theorem over:Rows.fnExactTreePutRow.holds Try.pinned (OpenSpec.ofChange Rows.fnExactTreePutSpec) :=
 OpenClaim.holds_of_wide 5 Try.f5 rfl rfl rfl rfl rfl rfl rfl ⟨rfl,rfl,rfl,rfl,rfl⟩ rfl rfl rfl rfl rfl tF Try.func5 tF
  (lE tF) (by unfold Func.isWrapper;first|(rw [if_pos (by decide +kernel)];kernel_rfl)|(rw [if_neg (by decide +kernel)];exact ⟨rfl,rfl⟩))
  (fun os started H enc _=>lifted os started H enc)
theorem proved:Rows.FnExactTreePutSaid:=over
#print axioms proved
end Go.Proofs.Ytamjbjkbineafaa.rowFnExactTreePut
namespace Go.Proofs.Ytamjbjkbineafaa
theorem fnExactTreePut_holds:Rows.FnExactTreePutSaid:=rowFnExactTreePut.proved
end Go.Proofs.Ytamjbjkbineafaa
