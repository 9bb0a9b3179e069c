/-
  Arguments that are trees: as TrodTree, with the trees' sizes bounded by the bulk of what is read.
-/
import Derived.Test.YtmlafcimjhnhhaaGreatDoorJeJpBk
import Derived.Test.YtmlafcimjhnhhaaGreatDoorJeJpBs
import Derived.Test.YtmlafcimjhnhhaaGreatDoorRows
set_option linter.unusedSectionVars false
set_option linter.unusedSimpArgs false
set_option linter.unnecessarySimpa false
set_option linter.unusedVariables false
namespace Go.Proofs.YtmlafcimjhnhhaaGreatDoor
open Lx Go.RowKit
section
variable {H:Type} {enc:TypeId×Value→H} {w:World} {spare:Nat→Bool} {held:Bool}
theorem sum_bulk {α:Type}{sz:α→Nat}:∀ (l:List α) (es:List (DataW H×List MemPlace)),l.length=es.length→(∀ i (h:i<l.length) (h2:i<es.length),sz l[i]≤Rows.uptoBulk (es[i]).1)→(l.map sz).sum≤Rows.uptoBulkAll (es.map (·.1))
 | [],_,_,_=>by simp
 | a::l,[],h,_=>by simp at h
 | a::l,e::es,h,hi=>by
   have h1:=hi 0 (by simp) (by simp);have h2:=sum_bulk l es (by simpa using h) fun i a b=>by have:=hi (i+1) (by simpa using a) (by simpa using b);simpa using this
   simp only [List.getElem_cons_zero] at h1;simp only [List.map_cons,List.sum_cons,Rows.uptoBulkAll];omega
theorem trodB_list {α:Type}{t e k:Nat}{Pd:α→List Value→Prop}{sz:α→Nat}(ht:Tryz.prog.underlying t=some (.slice e))(hk:Tryz.prog.cellsOf e=k)(hk0:0<k){fuel:Nat}{cs:List Value}{x:DataW H×List MemPlace}(h:DataW.trod enc Tryz.prog w 0 spare held fuel t cs=some x)
  (hel:∀ n,n<fuel→∀ cs' y,DataW.trod enc Tryz.prog w 0 spare held n e cs'=some y→∃ a,Pd a cs'∧sz a≤Rows.uptoBulk y.1):∃ v,cs=[v]∧∃ l,IsList Any w k Pd l v∧(l.map sz).sum+1≤Rows.uptoBulk x.1:=by
 rcases DataW.trod_slice ht h with⟨rfl,rfl⟩ | ⟨a,len,cap,elems,rest,n,hn,rfl,rfl,_,hl,hm,hlen,hall,_⟩
 ·exact⟨_,rfl,[],⟨by simp,.inl ⟨rfl,_,_,rfl⟩⟩,by simp [Rows.uptoBulk]⟩
 ·refine⟨_,rfl,?_⟩;obtain⟨g,off,spot⟩:=a;obtain⟨l,h1,h2⟩:=list_of (α:=α) (len:=len) (Q:=fun i b=>∃ cs',cs'.length=k∧(∀ j,j<k→w.cell? ((⟨g,off,spot⟩:Addr).add (i*k+j))=cs'[j]?)∧Pd b cs'∧∀ hi:i<elems.length,sz b≤Rows.uptoBulk (elems[i]).1) (fun i hi=>by
   have h3:=hall i hi;rw [List.getElem?_eq_getElem (by omega)] at h3;obtain⟨cs',h4,h5⟩:=Option.bind_eq_some_iff.1 h3;rw [hk] at h4;obtain⟨_,h6,h7⟩:=World.cells?_some h4;obtain⟨b,hb,hs⟩:=hel n (by omega) cs' _ h5;exact⟨b,cs',h6,fun j hj=>by rw [← Deep.add_add];exact h7 j hj,hb,fun _=>hs⟩)
  subst h1;refine⟨l,⟨by omega,?_⟩,?_⟩
  ·by_cases h0:l.length=0
   ·exact .inl ⟨List.length_eq_zero_iff.1 h0,_,_,by rw [h0]⟩
   ·obtain⟨cs0,h3,h4,_⟩:=h2 0 (by omega);have h5:=h4 0 hk0;rw [List.getElem?_eq_getElem (by omega)] at h5;have hs:spot=none:=by simpa [Addr.add] using World.cell?_spot h5
    subst hs;refine .inr ⟨g,off,cap,rfl,⟨trivial,hl⟩,fun i hi=>?_⟩;obtain⟨cs',h6,h7,h8,_⟩:=h2 i hi;refine⟨cs',h6,fun j hj=>?_,h8⟩;rw [← h7 j hj,addr_off]
  ·have:=sum_bulk (sz:=sz) l elems hlen.symm fun i a b=>by obtain⟨_,_,_,_,h9⟩:=h2 i a;exact h9 b
   simp only [Rows.uptoBulk];omega
theorem trodB_at {t:Nat}{L:List (Nat×Nat×Nat)}(hL:fldsOf t=L)(hne:L≠[]){fuel:Nat}{cs:List Value}{x:DataW H×List MemPlace}(h:DataW.trod enc Tryz.prog w 0 spare held fuel t cs=some x) :
  ∃ (n:Nat) (xs:List (DataW H×List MemPlace)),fuel=n+1∧cs.length=Tryz.prog.cellsOf t∧xs.length=L.length∧x.1=.agg (xs.map (·.1))∧∀ (i ft off k:Nat),L[i]?=some (ft,off,k)→DataW.trod enc Tryz.prog w 0 spare held n ft ((cs.drop off).take k)=xs[i]?:=by
 unfold fldsOf at hL;cases hu:Tryz.prog.underlying t with
 | none=>rw [hu] at hL;exact absurd hL.symm hne
 | some u =>
   rw [hu] at hL;cases u with
   | struct fs =>
     simp only at hL;obtain⟨xs,n,h1,h0,h2,h3,h4⟩:=DataW.trod_struct hu h;refine⟨n,xs,h1,h2,by rw [← hL,h3];simp,by rw [h0],fun i ft off k hi=>?_⟩;rw [← hL,List.getElem?_map] at hi;cases hf:fs.toList[i]? with
     | none=>rw [hf] at hi;cases hi
     | some f =>
       rw [hf] at hi;simp only [Option.map_some,Option.some.injEq,Prod.mk.injEq] at hi;obtain⟨rfl,rfl,rfl⟩:=hi;have hf':fs[i]?=some f:=by rw [← hf,Array.getElem?_toList]
       exact h4 i f hf'
   | _=>exact absurd hL.symm hne
theorem ls5 {α:Type}{cs:List α}(h:cs.length=5):∃ c0 c1 c2 c3 c4,cs=[c0,c1,c2,c3,c4]:=by match cs,h with | [c0,c1,c2,c3,c4],_=>exact⟨c0,c1,c2,c3,c4,rfl⟩
theorem exsSz_sum:∀ l:List Ex,exsSz l=(l.map exSz).sum
 | []=>rfl
 | e::l=>by rw [exsSz,exsSz_sum l];simp
theorem trodB_ex:∀ fuel cs x,DataW.trod enc Tryz.prog w 0 spare held fuel 24 cs=some x→∃ e,(IsEx Any w fuel e cs∧ExB fuel e)∧exSz e≤Rows.uptoBulk x.1:=by
 intro fuel
 induction fuel using Nat.strongRecOn with
 | ind fuel ih =>
   intro cs x h;obtain⟨n,xs,rfl,hl,hxl,hx,hf⟩:=trodB_at flds_ex (by simp) h;rw [cells_ex] at hl;obtain⟨c0,c1,c2,c3,c4,rfl⟩:=len5 hl;obtain⟨y0,y1,y2,y3,y4,rfl⟩:=ls5 hxl;have f0:=hf 0 _ _ _ rfl;have f1:=hf 1 _ _ _ rfl;have f2:=hf 2 _ _ _ rfl;have f3:=hf 3 _ _ _ rfl;have f4:=hf 4 _ _ _ rfl;simp only [List.drop_zero,List.take_succ_cons,List.take_zero,List.drop_succ_cons,List.getElem?_cons_zero,List.getElem?_cons_succ] at f0 f1 f2 f3 f4;obtain⟨k,e0,b0⟩:=trod_num Tryz.underlying3 f0;obtain⟨m,e1,b1⟩:=trod_num Tryz.underlying2 f1;obtain⟨o,e2,b2⟩:=trod_str f2;obtain⟨nm,e3,b3⟩:=trod_str f3;obtain⟨v,e4,l,hlst,hs4⟩:=trodB_list (sz:=exSz) (Pd:=fun e cs=>IsEx Any w n e cs∧ExB n e) Tryz.underlying22 cells_ex (by omega) f4 fun n' hn' cs' y hy=>by
    obtain⟨e,⟨he,hb⟩,hs⟩:=ih n' (by omega) cs' y hy;exact⟨e,⟨he.le (by omega),ExB.le (by omega) hb⟩,hs⟩
   cases e0;cases e1;cases e2;cases e3;cases e4;refine⟨.mk k m o nm l,⟨⟨_,rfl,hlst.mono fun _ _ _ h=>h.1⟩,b0,b1,b2,b3,fun x hx=>(hlst.each x hx).choose_spec.2⟩,?_⟩;rw [hx,exSz,exsSz_sum];simp only [Rows.uptoBulk,List.map_cons,List.map_nil,Rows.uptoBulkAll];omega
end
section
variable {H:Type} {enc:TypeId×Value→H} {W:World}
theorem struct_ex:∃ fs,Tryz.prog.underlying 24=some (.struct fs):=⟨_,Tryz.underlying24⟩
set_option maxRecDepth 100000 in
theorem openB_ex {r:Reach}{b0:Nat}{v:Value}{d:DataW H}{ps:List MemPlace}(hval:Value.okWide Tryz.prog W r b0 24 v)(h:DataW.Trod enc Tryz.prog W 0 (fun _=>true) true 24 v d ps) :
  ∃ (k n:Int) (o m:ByteArray) (a:Option Addr) (l c:Nat) (e:Ex) (f:Nat),v=.agg #[.int .i64 k,.int .i64 n,.string o,.string m,.slice a l c]∧IsEx Any W f e [.int .i64 k,.int .i64 n,.string o,.string m,.slice a l c]∧ExB f e∧exSz e≤Rows.uptoBulk d:=by
 obtain⟨fs,hfs⟩:=struct_ex;obtain⟨cs,rfl⟩:=agg_of_struct hfs hval;obtain⟨k,h⟩:=h;obtain⟨e,⟨h1,h2⟩,h3⟩:=trodB_ex _ _ _ h;cases k with
 | zero=>exact h2.elim
 | succ k =>
   obtain⟨kk,n,o,m,ks⟩:=e;obtain⟨v1,he,hl1⟩:=id h1;obtain⟨a1,n1,c1,rfl⟩:=hl1.isSlice;have he:cs.toList=_:=he;refine⟨kk,n,_,_,a1,n1,c1,_,_,?_,he▸h1,h2,h3⟩;rw [← Array.toArray_toList (xs:=cs),he]
end
end Go.Proofs.YtmlafcimjhnhhaaGreatDoor
