/-
  Arguments that are trees: as TrodTree, with the trees' sizes bounded by the bulk of what is read.
-/
import Derived.Test.YtmlafcimjhnhhaaDoorJmJpBb
import Derived.Test.YtmlafcimjhnhhaaDoorJmJpBl
import Derived.Test.YtmlafcimjhnhhaaDoorRows
set_option linter.unusedSectionVars false
set_option linter.unusedSimpArgs false
set_option linter.unnecessarySimpa false
set_option linter.unusedVariables false
namespace Go.Proofs.YtmlafcimjhnhhaaDoor
open Lx Go.RowKit
section
variable {H:Type} {enc:TypeId×Value→H} {w:World} {spare:Nat→Bool} {held:Bool}
theorem bulk_pos (d:DataW H):1≤Rows.uptoBulk d:=by
 cases d with
 | lit l=>cases l <;> simp [Rows.uptoBulk]
 | nil=>simp [Rows.uptoBulk]
 | ptr d=>simp [Rows.uptoBulk]
 | slice elems spare=>simp [Rows.uptoBulk]
 | agg parts=>simp [Rows.uptoBulk]
 | iface t d=>simp [Rows.uptoBulk]
 | map entries=>simp [Rows.uptoBulk]
 | held h=>simp [Rows.uptoBulk]
theorem sum_bulk {α:Type}{sz:α→Nat}:∀ (l:List α) (es:List (DataW H×List MemPlace)),l.length=es.length→(∀ i (h:i<l.length) (h2:i<es.length),sz l[i]≤Rows.uptoBulk (es[i]).1)→(l.map sz).sum≤Rows.uptoBulkAll (es.map (·.1))
 | [],_,_,_=>by simp
 | a::l,[],h,_=>by simp at h
 | a::l,e::es,h,hi=>by
   have h1:=hi 0 (by simp) (by simp);have h2:=sum_bulk l es (by simpa using h) fun i a b=>by have:=hi (i+1) (by simpa using a) (by simpa using b);simpa using this
   simp only [List.getElem_cons_zero] at h1;simp only [List.map_cons,List.sum_cons,Rows.uptoBulkAll];omega
theorem trodB_list {α:Type}{t e k:Nat}{Pd:α→List Value→Prop}{sz:α→Nat}(ht:Tryd.prog.underlying t=some (.slice e))(hk:Tryd.prog.cellsOf e=k)(hk0:0<k){fuel:Nat}{cs:List Value}{x:DataW H×List MemPlace}(h:DataW.trod enc Tryd.prog w 0 spare held fuel t cs=some x)
  (hel:∀ n,n<fuel→∀ cs' y,DataW.trod enc Tryd.prog w 0 spare held n e cs'=some y→∃ a,Pd a cs'∧sz a≤Rows.uptoBulk y.1):∃ v,cs=[v]∧∃ l,IsList Any w k Pd l v∧(l.map sz).sum+1≤Rows.uptoBulk x.1:=by
 rcases DataW.trod_slice ht h with⟨rfl,rfl⟩ | ⟨a,len,cap,elems,rest,n,hn,rfl,rfl,_,hl,hm,hlen,hall,_⟩
 ·exact⟨_,rfl,[],⟨by simp,.inl ⟨rfl,_,_,rfl⟩⟩,by simp [Rows.uptoBulk]⟩
 ·refine⟨_,rfl,?_⟩;obtain⟨g,off,spot⟩:=a;obtain⟨l,h1,h2⟩:=list_of (α:=α) (len:=len) (Q:=fun i b=>∃ cs',cs'.length=k∧(∀ j,j<k→w.cell? ((⟨g,off,spot⟩:Addr).add (i*k+j))=cs'[j]?)∧Pd b cs'∧∀ hi:i<elems.length,sz b≤Rows.uptoBulk (elems[i]).1) (fun i hi=>by
   have h3:=hall i hi;rw [List.getElem?_eq_getElem (by omega)] at h3;obtain⟨cs',h4,h5⟩:=Option.bind_eq_some_iff.1 h3;rw [hk] at h4;obtain⟨_,h6,h7⟩:=World.cells?_some h4;obtain⟨b,hb,hs⟩:=hel n (by omega) cs' _ h5;exact⟨b,cs',h6,fun j hj=>by rw [← Deep.add_add];exact h7 j hj,hb,fun _=>hs⟩)
  subst h1;refine⟨l,⟨by omega,?_⟩,?_⟩
  ·by_cases h0:l.length=0
   ·exact .inl ⟨List.length_eq_zero_iff.1 h0,_,_,by rw [h0]⟩
   ·obtain⟨cs0,h3,h4,_⟩:=h2 0 (by omega);have h5:=h4 0 hk0;rw [List.getElem?_eq_getElem (by omega)] at h5;have hs:spot=none:=by simpa [Addr.add] using World.cell?_spot h5
    subst hs;refine .inr ⟨g,off,cap,rfl,⟨trivial,hl⟩,fun i hi=>?_⟩;obtain⟨cs',h6,h7,h8,_⟩:=h2 i hi;refine⟨cs',h6,fun j hj=>?_,h8⟩;rw [← h7 j hj,addr_off]
  ·have:=sum_bulk (sz:=sz) l elems hlen.symm fun i a b=>by obtain⟨_,_,_,_,h9⟩:=h2 i a;exact h9 b
   simp only [Rows.uptoBulk];omega
theorem trodB_at {t:Nat}{L:List (Nat×Nat×Nat)}(hL:fldsOf t=L)(hne:L≠[]){fuel:Nat}{cs:List Value}{x:DataW H×List MemPlace}(h:DataW.trod enc Tryd.prog w 0 spare held fuel t cs=some x) :
  ∃ (n:Nat) (xs:List (DataW H×List MemPlace)),fuel=n+1∧cs.length=Tryd.prog.cellsOf t∧xs.length=L.length∧x.1=.agg (xs.map (·.1))∧∀ (i ft off k:Nat),L[i]?=some (ft,off,k)→DataW.trod enc Tryd.prog w 0 spare held n ft ((cs.drop off).take k)=xs[i]?:=by
 unfold fldsOf at hL;cases hu:Tryd.prog.underlying t with
 | none=>rw [hu] at hL;exact absurd hL.symm hne
 | some u =>
   rw [hu] at hL;cases u with
   | struct fs =>
     simp only at hL;obtain⟨xs,n,h1,h0,h2,h3,h4⟩:=DataW.trod_struct hu h;refine⟨n,xs,h1,h2,by rw [← hL,h3];simp,by rw [h0],fun i ft off k hi=>?_⟩;rw [← hL,List.getElem?_map] at hi;cases hf:fs.toList[i]? with
     | none=>rw [hf] at hi;cases hi
     | some f =>
       rw [hf] at hi;simp only [Option.map_some,Option.some.injEq,Prod.mk.injEq] at hi;obtain⟨rfl,rfl,rfl⟩:=hi;have hf':fs[i]?=some f:=by rw [← hf,Array.getElem?_toList]
       exact h4 i f hf'
   | _=>exact absurd hL.symm hne
theorem ls5 {α:Type}{cs:List α}(h:cs.length=5):∃ c0 c1 c2 c3 c4,cs=[c0,c1,c2,c3,c4]:=by match cs,h with | [c0,c1,c2,c3,c4],_=>exact⟨c0,c1,c2,c3,c4,rfl⟩
theorem ls6 {α:Type}{cs:List α}(h:cs.length=6):∃ c0 c1 c2 c3 c4 c5,cs=[c0,c1,c2,c3,c4,c5]:=by match cs,h with | [c0,c1,c2,c3,c4,c5],_=>exact⟨c0,c1,c2,c3,c4,c5,rfl⟩
theorem exsSz_sum:∀ l:List Ex,exsSz l=(l.map exSz).sum
 | []=>rfl
 | e::l=>by rw [exsSz,exsSz_sum l];simp
theorem stsSz_sum:∀ l:List St,stsSz l=(l.map stSz).sum
 | []=>rfl
 | e::l=>by rw [stsSz,stsSz_sum l];simp
theorem len_sum {α:Type}:∀ l:List α,l.length=(l.map fun _=>1).sum
 | []=>rfl
 | e::l=>by have:=len_sum l;simp [List.sum_cons] at this ⊢;try omega
theorem trodB_ex:∀ fuel cs x,DataW.trod enc Tryd.prog w 0 spare held fuel 60 cs=some x→∃ e,(IsEx Any w fuel e cs∧ExB fuel e)∧exSz e≤Rows.uptoBulk x.1:=by
 intro fuel
 induction fuel using Nat.strongRecOn with
 | ind fuel ih =>
   intro cs x h;obtain⟨n,xs,rfl,hl,hxl,hx,hf⟩:=trodB_at flds_ex (by simp) h;rw [cells_ex] at hl;obtain⟨c0,c1,c2,c3,c4,rfl⟩:=len5 hl;obtain⟨y0,y1,y2,y3,y4,rfl⟩:=ls5 hxl;have f0:=hf 0 _ _ _ rfl;have f1:=hf 1 _ _ _ rfl;have f2:=hf 2 _ _ _ rfl;have f3:=hf 3 _ _ _ rfl;have f4:=hf 4 _ _ _ rfl;simp only [List.drop_zero,List.take_succ_cons,List.take_zero,List.drop_succ_cons,List.getElem?_cons_zero,List.getElem?_cons_succ] at f0 f1 f2 f3 f4;obtain⟨k,e0,b0⟩:=trod_num Tryd.underlying3 f0;obtain⟨m,e1,b1⟩:=trod_num Tryd.underlying2 f1;obtain⟨o,e2,b2⟩:=trod_str f2;obtain⟨nm,e3,b3⟩:=trod_str f3;obtain⟨v,e4,l,hlst,hs4⟩:=trodB_list (sz:=exSz) (Pd:=fun e cs=>IsEx Any w n e cs∧ExB n e) Tryd.underlying58 cells_ex (by omega) f4 fun n' hn' cs' y hy=>by
    obtain⟨e,⟨he,hb⟩,hs⟩:=ih n' (by omega) cs' y hy;exact⟨e,⟨he.le (by omega),ExB.le (by omega) hb⟩,hs⟩
   cases e0;cases e1;cases e2;cases e3;cases e4;refine⟨.mk k m o nm l,⟨⟨_,rfl,hlst.mono fun _ _ _ h=>h.1⟩,b0,b1,b2,b3,fun x hx=>(hlst.each x hx).choose_spec.2⟩,?_⟩;rw [hx,exSz,exsSz_sum];simp only [Rows.uptoBulk,List.map_cons,List.map_nil,Rows.uptoBulkAll];omega
theorem trodB_st:∀ fuel cs x,DataW.trod enc Tryd.prog w 0 spare held fuel 81 cs=some x→∃ e,(IsSt Any w fuel e cs∧StB fuel e)∧stSz e≤Rows.uptoBulk x.1:=by
 intro fuel
 induction fuel using Nat.strongRecOn with
 | ind fuel ih =>
   intro cs x h;obtain⟨n,xs,rfl,hl,hxl,hx,hf⟩:=trodB_at flds_st (by simp) h;rw [cells_st] at hl;obtain⟨c0,c1,c2,c3,c4,c5,rfl⟩:=len6 hl;obtain⟨y0,y1,y2,y3,y4,y5,rfl⟩:=ls6 hxl;have f0:=hf 0 _ _ _ rfl;have f1:=hf 1 _ _ _ rfl;have f2:=hf 2 _ _ _ rfl;have f3:=hf 3 _ _ _ rfl;have f4:=hf 4 _ _ _ rfl;have f5:=hf 5 _ _ _ rfl;simp only [List.drop_zero,List.take_succ_cons,List.take_zero,List.drop_succ_cons,List.getElem?_cons_zero,List.getElem?_cons_succ] at f0 f1 f2 f3 f4 f5;obtain⟨k,e0,b0⟩:=trod_num Tryd.underlying3 f0;obtain⟨nm,e1,b1⟩:=trod_str f1;obtain⟨ty,e2,b2⟩:=trod_str f2;obtain⟨v,e3,l,hl1,hs1⟩:=trodB_list (sz:=exSz) (Pd:=fun e cs=>IsEx Any w n e cs∧ExB n e) Tryd.underlying58 cells_ex (by omega) f3 fun n' hn' cs' y hy=>by
    obtain⟨e,⟨he,hb⟩,hs⟩:=trodB_ex n' cs' y hy;exact⟨e,⟨he.le (by omega),ExB.le (by omega) hb⟩,hs⟩
   obtain⟨v2,e4,l2,hl2,hs2⟩:=trodB_list (sz:=stSz) (Pd:=fun e cs=>IsSt Any w n e cs∧StB n e) Tryd.underlying39 cells_st (by omega) f4 fun n' hn' cs' y hy=>by
    obtain⟨e,⟨he,hb⟩,hs⟩:=ih n' (by omega) cs' y hy;exact⟨e,⟨he.le (by omega),StB.le (by omega) hb⟩,hs⟩
   obtain⟨v3,e5,l3,hl3,hs3⟩:=trodB_list (sz:=stSz) (Pd:=fun e cs=>IsSt Any w n e cs∧StB n e) Tryd.underlying39 cells_st (by omega) f5 fun n' hn' cs' y hy=>by
    obtain⟨e,⟨he,hb⟩,hs⟩:=ih n' (by omega) cs' y hy;exact⟨e,⟨he.le (by omega),StB.le (by omega) hb⟩,hs⟩
   cases e0;cases e1;cases e2;cases e3;cases e4;cases e5;refine⟨.mk k nm ty l l2 l3,⟨⟨_,_,_,rfl,hl1.mono fun _ _ _ h=>h.1,hl2.mono fun _ _ _ h=>h.1,hl3.mono fun _ _ _ h=>h.1⟩,b0,b1,b2,fun x hx=>(hl1.each x hx).choose_spec.2,fun x hx=>(hl2.each x hx).choose_spec.2,fun x hx=>(hl3.each x hx).choose_spec.2⟩,?_⟩;rw [hx,stSz,exsSz_sum,stsSz_sum,stsSz_sum];simp only [Rows.uptoBulk,List.map_cons,List.map_nil,Rows.uptoBulkAll];omega
theorem trodB_fld {fuel:Nat}{cs:List Value}{x:DataW H×List MemPlace}(h:DataW.trod enc Tryd.prog w 0 spare held fuel 72 cs=some x):∃ e,(IsFld e cs∧FldB e)∧1≤Rows.uptoBulk x.1:=by
 obtain⟨e,he⟩:=trod_fld h;exact⟨e,he,bulk_pos _⟩
theorem trodB_me {fuel:Nat}{cs:List Value}{x:DataW H×List MemPlace}(h:DataW.trod enc Tryd.prog w 0 spare held fuel 41 cs=some x):∃ e,(IsMe Any w fuel e cs∧MethB fuel e)∧meSz e≤Rows.uptoBulk x.1:=by
 obtain⟨n,xs,rfl,hl,hxl,hx,hf⟩:=trodB_at flds_me (by simp) h;rw [cells_me] at hl;obtain⟨c0,c1,c2,c3,c4,rfl⟩:=len5 hl;obtain⟨y0,y1,y2,y3,y4,rfl⟩:=ls5 hxl;have f0:=hf 0 _ _ _ rfl;have f1:=hf 1 _ _ _ rfl;have f2:=hf 2 _ _ _ rfl;have f3:=hf 3 _ _ _ rfl;have f4:=hf 4 _ _ _ rfl;simp only [List.drop_zero,List.take_succ_cons,List.take_zero,List.drop_succ_cons,List.getElem?_cons_zero,List.getElem?_cons_succ] at f0 f1 f2 f3 f4;obtain⟨nm,e0,b0⟩:=trod_str f0;obtain⟨sb,e1,_⟩:=DataW.trod_bool Tryd.underlying4 f1;obtain⟨v,e2,l,hl1,hs1⟩:=trodB_list (sz:=fun _=>1) (Pd:=fun e cs=>IsFld e cs∧FldB e) Tryd.underlying38 cells_fld (by omega) f2 fun n' hn' cs' y hy=>trodB_fld hy
 obtain⟨rs,e3,b3⟩:=trod_str f3;obtain⟨v2,e4,l2,hl2,hs2⟩:=trodB_list (sz:=stSz) (Pd:=fun e cs=>IsSt Any w (n+1) e cs∧StB (n+1) e) Tryd.underlying39 cells_st (by omega) f4 fun n' hn' cs' y hy=>by
  obtain⟨e,⟨he,hb⟩,hs⟩:=trodB_st n' cs' y hy;exact⟨e,⟨he.le (by omega),StB.le (by omega) hb⟩,hs⟩
 cases e0;cases e1;cases e2;cases e3;cases e4;refine⟨⟨nm,sb,l,rs,l2⟩,⟨⟨_,_,rfl,hl1.mono fun _ _ _ h=>h.1,hl2.mono fun _ _ _ h=>h.1⟩,b0,b3,fun x hx=>(hl1.each x hx).choose_spec.2,fun x hx=>(hl2.each x hx).choose_spec.2⟩,?_⟩;rw [hx,meSz];rw [stsSz_sum,len_sum l];simp only [Rows.uptoBulk,List.map_cons,List.map_nil,Rows.uptoBulkAll];omega
end
section
variable {H:Type} {enc:TypeId×Value→H} {W:World}
theorem struct_me:∃ fs,Tryd.prog.underlying 41=some (.struct fs):=⟨_,Tryd.underlying41⟩
set_option maxRecDepth 100000 in
theorem openB_me {r:Reach}{b0:Nat}{v:Value}{d:DataW H}{ps:List MemPlace}(hval:Value.okWide Tryd.prog W r b0 41 v)(h:DataW.Trod enc Tryd.prog W 0 (fun _=>true) true 41 v d ps) :
  ∃ (nm:ByteArray) (sb:Bool) (a1:Option Addr) (n1 c1:Nat) (rs:ByteArray) (a2:Option Addr) (n2 c2:Nat) (m:Me) (k:Nat),v=.agg #[.string nm,.bool sb,.slice a1 n1 c1,.string rs,.slice a2 n2 c2]∧IsMe Any W k m [.string nm,.bool sb,.slice a1 n1 c1,.string rs,.slice a2 n2 c2]∧MethB k m∧meSz m≤Rows.uptoBulk d:=by
 obtain⟨fs,hfs⟩:=struct_me;obtain⟨cs,rfl⟩:=agg_of_struct hfs hval;obtain⟨k,h⟩:=h;obtain⟨m,⟨h1,h2⟩,h3⟩:=trodB_me h;obtain⟨v1,v2,he,hl1,hl2⟩:=id h1;obtain⟨a1,n1,c1,rfl⟩:=hl1.isSlice;obtain⟨a2,n2,c2,rfl⟩:=hl2.isSlice;have he:cs.toList=_:=he;refine⟨_,_,a1,n1,c1,_,a2,n2,c2,m,k,?_,he▸h1,h2,h3⟩;rw [← Array.toArray_toList (xs:=cs),he]
end
end Go.Proofs.YtmlafcimjhnhhaaDoor
