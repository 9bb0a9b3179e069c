/-
  Arguments that are trees: what is read as data lies in memory as a tree.
-/
import Derived.Test.YtoookjadbhdfhaaGreatDoorUJpAo
import Derived.Deep.Slices
import Derived.ChangeStays
import Derived.ReadAgain
import Derived.Test.YtoookjadbhdfhaaGreatDoorUJpAx
import Derived.Test.YtoookjadbhdfhaaGreatDoorRows
set_option linter.unusedSectionVars false
set_option linter.unusedSimpArgs false
set_option linter.unnecessarySimpa false
set_option linter.unusedVariables false
namespace Go.Proofs.YtoookjadbhdfhaaGreatDoor
section
open Lx Go.RowKit
/-- A number within int64. -/
def In64 (n:Int):Prop:=-9223372036854775808≤n∧n≤9223372036854775807
/-- Bounds of what is read: numbers within int64, lengths that a machine has. -/
def ExB:Nat→Ex→Prop
 | 0,_=>False
 | d+1,.mk k n o m ks=>In64 k∧In64 n∧o.length≤maxLen∧m.length≤maxLen∧∀ x∈ks,ExB d x
def StB:Nat→St→Prop
 | 0,_=>False
 | d+1,.mk k nm ty es b el=>In64 k∧nm.length≤maxLen∧ty.length≤maxLen∧(∀ x∈es,ExB d x)∧(∀ x∈b,StB d x)∧∀ x∈el,StB d x
theorem ExB.succ:∀ (d:Nat) (e:Ex),ExB d e→ExB (d+1) e:=by
 intro d
 induction d with
 | zero=>intro e h;exact absurd h (by simp [ExB])
 | succ d ih =>
   intro e h;obtain⟨k,n,o,m,ks⟩:=e;exact⟨h.1,h.2.1,h.2.2.1,h.2.2.2.1,fun x hx=>ih x (h.2.2.2.2 x hx)⟩
theorem ExB.le {d d':Nat}(h:d≤d'){e:Ex}(he:ExB d e):ExB d' e:=by
 obtain⟨k,rfl⟩:=Nat.exists_eq_add_of_le h
 induction k with
 | zero=>exact he
 | succ k ih=>exact ExB.succ _ _ (ih (by omega))
theorem StB.succ:∀ (d:Nat) (e:St),StB d e→StB (d+1) e:=by
 intro d
 induction d with
 | zero=>intro e h;exact absurd h (by simp [StB])
 | succ d ih =>
   intro e h;obtain⟨k,nm,ty,es,b,el⟩:=e;exact⟨h.1,h.2.1,h.2.2.1,fun x hx=>ExB.succ _ _ (h.2.2.2.1 x hx),fun x hx=>ih x (h.2.2.2.2.1 x hx),fun x hx=>ih x (h.2.2.2.2.2 x hx)⟩
theorem StB.le {d d':Nat}(h:d≤d'){e:St}(he:StB d e):StB d' e:=by
 obtain⟨k,rfl⟩:=Nat.exists_eq_add_of_le h
 induction k with
 | zero=>exact he
 | succ k ih=>exact StB.succ _ _ (ih (by omega))
def FldB (f:Fld):Prop:=f.name.length≤maxLen∧f.typ.length≤maxLen
def MethB (d:Nat)(m:Me):Prop:=m.name.length≤maxLen∧m.result.length≤maxLen∧(∀ x∈m.params,FldB x)∧∀ x∈m.body,StB d x
def ClB (d:Nat)(c:Cl):Prop:=c.name.length≤maxLen∧c.super.length≤maxLen∧(∀ x∈c.fields,FldB x)∧∀ x∈c.methods,MethB d x
theorem len1 {cs:List Value}(h:cs.length=1):∃ c0,cs=[c0]:=by
 match cs,h with
 | [c0],_=>exact⟨c0,rfl⟩
theorem len2 {cs:List Value}(h:cs.length=2):∃ c0 c1,cs=[c0,c1]:=by
 match cs,h with
 | [c0,c1],_=>exact⟨c0,c1,rfl⟩
theorem len4 {cs:List Value}(h:cs.length=4):∃ c0 c1 c2 c3,cs=[c0,c1,c2,c3]:=by
 match cs,h with
 | [c0,c1,c2,c3],_=>exact⟨c0,c1,c2,c3,rfl⟩
theorem len5 {cs:List Value}(h:cs.length=5):∃ c0 c1 c2 c3 c4,cs=[c0,c1,c2,c3,c4]:=by
 match cs,h with
 | [c0,c1,c2,c3,c4],_=>exact⟨c0,c1,c2,c3,c4,rfl⟩
theorem len6 {cs:List Value}(h:cs.length=6):∃ c0 c1 c2 c3 c4 c5,cs=[c0,c1,c2,c3,c4,c5]:=by
 match cs,h with
 | [c0,c1,c2,c3,c4,c5],_=>exact⟨c0,c1,c2,c3,c4,c5,rfl⟩
theorem list_of {α:Type}{len:Nat}{Q:Nat→α→Prop}(h:∀ i,i<len→∃ a,Q i a):∃ l:List α,l.length=len∧∀ i (hi:i<l.length),Q i l[i]:=by
 induction len with
 | zero=>exact⟨[],rfl,fun i hi=>by simp at hi⟩
 | succ n ih =>
   obtain⟨l,h1,h2⟩:=ih fun i hi=>h i (by omega)
   obtain⟨a,ha⟩:=h n (by omega);refine⟨l++[a],by simp [h1],fun i hi=>?_⟩
   by_cases hlt:i<l.length
   ·rw [List.getElem_append_left hlt];exact h2 i hlt
   ·have e:i=l.length:=by simp at hi;omega
    subst e;rw [List.getElem_append_right (Nat.le_refl _)];simp only [Nat.sub_self,List.getElem_cons_zero];rw [h1];exact ha
theorem addr_off (g off k:Nat):(⟨g,off,none⟩:Addr).add k=⟨g,off+k,none⟩:=by
 unfold Addr.add;split
 ·rename_i h;rw [h];rfl
 ·rfl
theorem IsList.each {α:Type}{A:Nat→Prop}{w:World}{k:Nat}{P:α→List Value→Prop}{l:List α}{v:Value}(h:IsList A w k P l v):∀ x∈l,∃ cs,P x cs:=by
 obtain⟨_,⟨rfl,_⟩ | ⟨g,off,cap,_,_,hc⟩⟩:=h
 ·intro x hx;cases hx
 ·intro x hx;obtain⟨i,hi,rfl⟩:=List.getElem_of_mem hx;obtain⟨cs,_,_,h⟩:=hc i hi;exact⟨cs,h⟩
section
variable {H:Type} {enc:TypeId×Value→H} {w:World} {spare:Nat→Bool} {held:Bool}
/-- The fields of a struct type: their types, offsets, sizes. -/
noncomputable def fldsOf (t:Nat):List (Nat×Nat×Nat):=match Tryz.prog.underlying t with
 | some (.struct fs)=>fs.toList.map fun f=>(f.type,f.offset,Tryz.prog.cellsOf f.type)
 | _=>[]
theorem trod_at {t:Nat}{L:List (Nat×Nat×Nat)}(hL:fldsOf t=L)(hne:L≠[]){fuel:Nat}{cs:List Value}{x:DataW H×List MemPlace}(h:DataW.trod enc Tryz.prog w 0 spare held fuel t cs=some x) :
  ∃ n,fuel=n+1∧cs.length=Tryz.prog.cellsOf t∧∀ (i ft off k:Nat),L[i]?=some (ft,off,k)→∃ y,DataW.trod enc Tryz.prog w 0 spare held n ft ((cs.drop off).take k)=some y:=by
 unfold fldsOf at hL;cases hu:Tryz.prog.underlying t with
 | none=>rw [hu] at hL;exact absurd hL.symm hne
 | some u =>
   rw [hu] at hL;cases u with
   | struct fs =>
     simp only at hL;obtain⟨xs,n,h1,_,h2,h3,h4⟩:=DataW.trod_struct hu h;refine⟨n,h1,h2,fun i ft off k hi=>?_⟩;rw [← hL,List.getElem?_map] at hi;cases hf:fs.toList[i]? with
     | none=>rw [hf] at hi;cases hi
     | some f =>
       rw [hf] at hi;simp only [Option.map_some,Option.some.injEq,Prod.mk.injEq] at hi;obtain⟨rfl,rfl,rfl⟩:=hi;have hf':fs[i]?=some f:=by rw [← hf,Array.getElem?_toList]
       have hil:i<xs.length:=by rw [h3];exact (Array.getElem?_eq_some_iff.1 hf').1
       exact⟨_,(h4 i f hf').trans (List.getElem?_eq_getElem hil)⟩
   | _=>exact absurd hL.symm hne
theorem trod_str {n:Nat}{cs:List Value}{x:DataW H×List MemPlace}(h:DataW.trod enc Tryz.prog w 0 spare held n 9 cs=some x):∃ s:Bytes,cs=[.string (strOf s)]∧s.length≤maxLen:=by
 obtain⟨s,h1,_,h2⟩:=DataW.trod_string Tryz.underlying9 h;exact⟨s.data.toList,by rw [← strOf_of];exact h1,by rw [len_list];exact h2⟩
theorem wf64 {n:Int}(h:(Lit.int .i64 n).wf=true):In64 n:=by
 have h':(decide (IntKind.i64.min≤n) && decide (n≤IntKind.i64.max))=true:=h;rw [Bool.and_eq_true,decide_eq_true_eq,decide_eq_true_eq] at h';exact h'
theorem trod_num {t n:Nat}(ht:Tryz.prog.underlying t=some (.int .i64)){cs:List Value}{x:DataW H×List MemPlace}(h:DataW.trod enc Tryz.prog w 0 spare held n t cs=some x):∃ k:Int,cs=[.int .i64 k]∧In64 k:=by
 obtain⟨k,h1,_,h2⟩:=DataW.trod_int ht h;exact⟨k,h1,wf64 h2⟩
theorem cells_ex:Tryz.prog.cellsOf 63=5:=by kernel_rfl
theorem cells_st:Tryz.prog.cellsOf 65=6:=by kernel_rfl
theorem cells_fld:Tryz.prog.cellsOf 67=2:=by kernel_rfl
theorem cells_me:Tryz.prog.cellsOf 41=5:=by kernel_rfl
theorem cells_cl:Tryz.prog.cellsOf 38=4:=by kernel_rfl
theorem cells_so:Tryz.prog.cellsOf 24=1:=by kernel_rfl
theorem flds_ex:fldsOf 63=[(3,0,1),(2,1,1),(9,2,1),(9,3,1),(61,4,1)]:=by kernel_rfl
theorem flds_st:fldsOf 65=[(3,0,1),(9,1,1),(9,2,1),(61,3,1),(39,4,1),(39,5,1)]:=by kernel_rfl
theorem flds_fld:fldsOf 67=[(9,0,1),(9,1,1)]:=by kernel_rfl
theorem flds_me:fldsOf 41=[(9,0,1),(4,1,1),(35,2,1),(9,3,1),(39,4,1)]:=by kernel_rfl
theorem flds_cl:fldsOf 38=[(9,0,1),(9,1,1),(35,2,1),(36,3,1)]:=by kernel_rfl
theorem flds_so:fldsOf 24=[(22,0,1)]:=by kernel_rfl
theorem trod_fld {fuel:Nat}{cs:List Value}{x:DataW H×List MemPlace}(h:DataW.trod enc Tryz.prog w 0 spare held fuel 67 cs=some x):∃ e,IsFld e cs∧FldB e:=by
 obtain⟨n,rfl,hl,hf⟩:=trod_at flds_fld (by simp) h;rw [cells_fld] at hl;obtain⟨c0,c1,rfl⟩:=len2 hl;obtain⟨_,f0⟩:=hf 0 _ _ _ rfl;obtain⟨_,f1⟩:=hf 1 _ _ _ rfl;simp only [List.drop_zero,List.take_succ_cons,List.take_zero,List.drop_succ_cons] at f0 f1;obtain⟨nm,e0,b0⟩:=trod_str f0;obtain⟨ty,e1,b1⟩:=trod_str f1;cases e0;cases e1;exact⟨⟨nm,ty⟩,rfl,b0,b1⟩
theorem MethB.le {d d':Nat}(h:d≤d'){m:Me}(hm:MethB d m):MethB d' m:=⟨hm.1,hm.2.1,hm.2.2.1,fun x hx=>StB.le h (hm.2.2.2 x hx)⟩
theorem ClB.le {d d':Nat}(h:d≤d'){m:Cl}(hm:ClB d m):ClB d' m:=⟨hm.1,hm.2.1,hm.2.2.1,fun x hx=>MethB.le h (hm.2.2.2 x hx)⟩
end
end
section
open Lx Go.RowKit
theorem kids_all:Kids Tryz.prog (·<Tryz.prog.types.size):=kids_rows (by kernel_rfl) (by kernel_rfl)
theorem slices_all:∀ t e,t<Tryz.prog.types.size→Tryz.prog.underlying t=some (.slice e)→0<Tryz.prog.cellsOf e:=slices_full_of _ (by kernel_rfl)
section
variable {H:Type} {enc:TypeId×Value→H} {W W':World}
theorem stays_one (hb:Below W.heap.size W W'){t:Nat}(hT:t<Tryz.prog.types.size){v:Value}{d:DataW H}{ps:List MemPlace}(h:DataW.Trod enc Tryz.prog W 0 (fun _=>true) true t v d ps):DataW.Trod enc Tryz.prog W' 0 (fun b=>decide (b<W.heap.size)) true t v d ps:=by
 obtain⟨n,h⟩:=h;have hg:=DataW.trod_good kids_all (fun h=>by cases h) n t _ _ hT h;have hlt:∀ p∈ps,p.block<W.heap.size:=by
  intro p hp;have h1:=hg p hp;cases p with
  | cell b off=>obtain⟨v,h2,_⟩:=h1;exact World.block_lt_of_cell? W _ h2
  | map b=>obtain⟨es,c,h2⟩:=h1;exact lt_of_heap h2
 refine⟨n,DataW.trod_stays kids_all (fun h1 h2=>slices_all _ _ h1 h2) (fun h=>by cases h) hT h (fun p hp=>?_) (fun p hp=>by simpa using hlt p hp)⟩;have h1:=hlt p hp;cases p with
 | cell b off=>exact hb.cell (p:=⟨b,off,none⟩) h1
 | map b=>exact hb.block b h1
theorem stays_all (hb:Below W.heap.size W W'):∀ {ts:List TypeId} {vs:List Value} {ds:List (DataW H)} {ps:List MemPlace},(∀ t∈ts,t<Tryz.prog.types.size)→DataW.TrodAll enc Tryz.prog W 0 (fun _=>true) true ts vs ds ps→DataW.TrodAll enc Tryz.prog W' 0 (fun b=>decide (b<W.heap.size)) true ts vs ds ps
 | [],[],[],_,_,h=>h
 | _::_,_::_,_::_,_,hT,⟨p,q,h1,h2,e⟩=>⟨p,q,stays_one hb (hT _ (List.mem_cons.2 (Or.inl rfl))) h1,stays_all hb (fun t ht=>hT t (List.mem_cons.2 (Or.inr ht))) h2,e⟩
theorem IsList.isSlice {α:Type}{A:Nat→Prop}{w:World}{k:Nat}{P:α→List Value→Prop}{l:List α}{v:Value}(h:IsList A w k P l v):∃ a n c,v=.slice a n c:=by
 obtain⟨_,⟨_,a,c,rfl⟩ | ⟨g,off,cap,rfl,_⟩⟩:=h
 ·exact⟨_,_,_,rfl⟩
 ·exact⟨_,_,_,rfl⟩
theorem agg_of_struct {P:Program}{w:World}{r:Reach}{b:Nat}{t:TypeId}{v:Value}{fs:Array Field}(ht:P.underlying t=some (.struct fs))(hval:Value.okWide P w r b t v):∃ cs,v=.agg cs:=by
 unfold Value.okWide at hval;rw [ht] at hval;obtain⟨cs,h,_⟩:=hval;exact⟨cs,h⟩
/-- A source that came in. -/
theorem struct_so:∃ fs,Tryz.prog.underlying 24=some (.struct fs):=⟨_,Tryz.underlying24⟩
end
end
section
open Lx Go.RowKit
section
variable {H:Type} {enc:TypeId×Value→H} {w:World} {spare:Nat→Bool} {held:Bool}
theorem bulk_pos (d:DataW H):1≤Rows.uptoBulk d:=by
 cases d with
 | lit l=>cases l <;> simp [Rows.uptoBulk]
 | nil=>simp [Rows.uptoBulk]
 | ptr d=>simp [Rows.uptoBulk]
 | slice elems spare=>simp [Rows.uptoBulk]
 | agg parts=>simp [Rows.uptoBulk]
 | iface t d=>simp [Rows.uptoBulk]
 | map entries=>simp [Rows.uptoBulk]
 | held h=>simp [Rows.uptoBulk]
theorem sum_bulk {α:Type}{sz:α→Nat}:∀ (l:List α) (es:List (DataW H×List MemPlace)),l.length=es.length→(∀ i (h:i<l.length) (h2:i<es.length),sz l[i]≤Rows.uptoBulk (es[i]).1)→(l.map sz).sum≤Rows.uptoBulkAll (es.map (·.1))
 | [],_,_,_=>by simp
 | a::l,[],h,_=>by simp at h
 | a::l,e::es,h,hi=>by
   have h1:=hi 0 (by simp) (by simp);have h2:=sum_bulk l es (by simpa using h) fun i a b=>by have:=hi (i+1) (by simpa using a) (by simpa using b);simpa using this
   simp only [List.getElem_cons_zero] at h1;simp only [List.map_cons,List.sum_cons,Rows.uptoBulkAll];omega
theorem trodB_list {α:Type}{t e k:Nat}{Pd:α→List Value→Prop}{sz:α→Nat}(ht:Tryz.prog.underlying t=some (.slice e))(hk:Tryz.prog.cellsOf e=k)(hk0:0<k){fuel:Nat}{cs:List Value}{x:DataW H×List MemPlace}(h:DataW.trod enc Tryz.prog w 0 spare held fuel t cs=some x)
  (hel:∀ n,n<fuel→∀ cs' y,DataW.trod enc Tryz.prog w 0 spare held n e cs'=some y→∃ a,Pd a cs'∧sz a≤Rows.uptoBulk y.1):∃ v,cs=[v]∧∃ l,IsList Any w k Pd l v∧(l.map sz).sum+1≤Rows.uptoBulk x.1:=by
 rcases DataW.trod_slice ht h with⟨rfl,rfl⟩ | ⟨a,len,cap,elems,rest,n,hn,rfl,rfl,_,hl,hm,hlen,hall,_⟩
 ·exact⟨_,rfl,[],⟨by simp,.inl ⟨rfl,_,_,rfl⟩⟩,by simp [Rows.uptoBulk]⟩
 ·refine⟨_,rfl,?_⟩;obtain⟨g,off,spot⟩:=a;obtain⟨l,h1,h2⟩:=list_of (α:=α) (len:=len) (Q:=fun i b=>∃ cs',cs'.length=k∧(∀ j,j<k→w.cell? ((⟨g,off,spot⟩:Addr).add (i*k+j))=cs'[j]?)∧Pd b cs'∧∀ hi:i<elems.length,sz b≤Rows.uptoBulk (elems[i]).1) (fun i hi=>by
   have h3:=hall i hi;rw [List.getElem?_eq_getElem (by omega)] at h3;obtain⟨cs',h4,h5⟩:=Option.bind_eq_some_iff.1 h3;rw [hk] at h4;obtain⟨_,h6,h7⟩:=World.cells?_some h4;obtain⟨b,hb,hs⟩:=hel n (by omega) cs' _ h5;exact⟨b,cs',h6,fun j hj=>by rw [← Deep.add_add];exact h7 j hj,hb,fun _=>hs⟩)
  subst h1;refine⟨l,⟨by omega,?_⟩,?_⟩
  ·by_cases h0:l.length=0
   ·exact .inl ⟨List.length_eq_zero_iff.1 h0,_,_,by rw [h0]⟩
   ·obtain⟨cs0,h3,h4,_⟩:=h2 0 (by omega);have h5:=h4 0 hk0;rw [List.getElem?_eq_getElem (by omega)] at h5;have hs:spot=none:=by simpa [Addr.add] using World.cell?_spot h5
    subst hs;refine .inr ⟨g,off,cap,rfl,⟨trivial,hl⟩,fun i hi=>?_⟩;obtain⟨cs',h6,h7,h8,_⟩:=h2 i hi;refine⟨cs',h6,fun j hj=>?_,h8⟩;rw [← h7 j hj,addr_off]
  ·have:=sum_bulk (sz:=sz) l elems hlen.symm fun i a b=>by obtain⟨_,_,_,_,h9⟩:=h2 i a;exact h9 b
   simp only [Rows.uptoBulk];omega
theorem trodB_at {t:Nat}{L:List (Nat×Nat×Nat)}(hL:fldsOf t=L)(hne:L≠[]){fuel:Nat}{cs:List Value}{x:DataW H×List MemPlace}(h:DataW.trod enc Tryz.prog w 0 spare held fuel t cs=some x) :
  ∃ (n:Nat) (xs:List (DataW H×List MemPlace)),fuel=n+1∧cs.length=Tryz.prog.cellsOf t∧xs.length=L.length∧x.1=.agg (xs.map (·.1))∧∀ (i ft off k:Nat),L[i]?=some (ft,off,k)→DataW.trod enc Tryz.prog w 0 spare held n ft ((cs.drop off).take k)=xs[i]?:=by
 unfold fldsOf at hL;cases hu:Tryz.prog.underlying t with
 | none=>rw [hu] at hL;exact absurd hL.symm hne
 | some u =>
   rw [hu] at hL;cases u with
   | struct fs =>
     simp only at hL;obtain⟨xs,n,h1,h0,h2,h3,h4⟩:=DataW.trod_struct hu h;refine⟨n,xs,h1,h2,by rw [← hL,h3];simp,by rw [h0],fun i ft off k hi=>?_⟩;rw [← hL,List.getElem?_map] at hi;cases hf:fs.toList[i]? with
     | none=>rw [hf] at hi;cases hi
     | some f =>
       rw [hf] at hi;simp only [Option.map_some,Option.some.injEq,Prod.mk.injEq] at hi;obtain⟨rfl,rfl,rfl⟩:=hi;have hf':fs[i]?=some f:=by rw [← hf,Array.getElem?_toList]
       exact h4 i f hf'
   | _=>exact absurd hL.symm hne
theorem ls1 {α:Type}{cs:List α}(h:cs.length=1):∃ c0,cs=[c0]:=by match cs,h with | [c0],_=>exact⟨c0,rfl⟩
theorem ls4 {α:Type}{cs:List α}(h:cs.length=4):∃ c0 c1 c2 c3,cs=[c0,c1,c2,c3]:=by match cs,h with | [c0,c1,c2,c3],_=>exact⟨c0,c1,c2,c3,rfl⟩
theorem ls5 {α:Type}{cs:List α}(h:cs.length=5):∃ c0 c1 c2 c3 c4,cs=[c0,c1,c2,c3,c4]:=by match cs,h with | [c0,c1,c2,c3,c4],_=>exact⟨c0,c1,c2,c3,c4,rfl⟩
theorem ls6 {α:Type}{cs:List α}(h:cs.length=6):∃ c0 c1 c2 c3 c4 c5,cs=[c0,c1,c2,c3,c4,c5]:=by match cs,h with | [c0,c1,c2,c3,c4,c5],_=>exact⟨c0,c1,c2,c3,c4,c5,rfl⟩
theorem exsSz_sum:∀ l:List Ex,exsSz l=(l.map exSz).sum
 | []=>rfl
 | e::l=>by rw [exsSz,exsSz_sum l];simp
theorem stsSz_sum:∀ l:List St,stsSz l=(l.map stSz).sum
 | []=>rfl
 | e::l=>by rw [stsSz,stsSz_sum l];simp
theorem mesSz_sum:∀ l:List Me,mesSz l=(l.map meSz).sum
 | []=>rfl
 | e::l=>by rw [mesSz,mesSz_sum l];simp
theorem clsSz_sum:∀ l:List Cl,clsSz l=(l.map clSz).sum
 | []=>rfl
 | e::l=>by rw [clsSz,clsSz_sum l];simp
theorem len_sum {α:Type}:∀ l:List α,l.length=(l.map fun _=>1).sum
 | []=>rfl
 | e::l=>by have:=len_sum l;simp [List.sum_cons] at this ⊢;try omega
theorem trodB_ex:∀ fuel cs x,DataW.trod enc Tryz.prog w 0 spare held fuel 63 cs=some x→∃ e,(IsEx Any w fuel e cs∧ExB fuel e)∧exSz e≤Rows.uptoBulk x.1:=by
 intro fuel
 induction fuel using Nat.strongRecOn with
 | ind fuel ih =>
   intro cs x h;obtain⟨n,xs,rfl,hl,hxl,hx,hf⟩:=trodB_at flds_ex (by simp) h;rw [cells_ex] at hl;obtain⟨c0,c1,c2,c3,c4,rfl⟩:=len5 hl;obtain⟨y0,y1,y2,y3,y4,rfl⟩:=ls5 hxl;have f0:=hf 0 _ _ _ rfl;have f1:=hf 1 _ _ _ rfl;have f2:=hf 2 _ _ _ rfl;have f3:=hf 3 _ _ _ rfl;have f4:=hf 4 _ _ _ rfl;simp only [List.drop_zero,List.take_succ_cons,List.take_zero,List.drop_succ_cons,List.getElem?_cons_zero,List.getElem?_cons_succ] at f0 f1 f2 f3 f4;obtain⟨k,e0,b0⟩:=trod_num Tryz.underlying3 f0;obtain⟨m,e1,b1⟩:=trod_num Tryz.underlying2 f1;obtain⟨o,e2,b2⟩:=trod_str f2;obtain⟨nm,e3,b3⟩:=trod_str f3;obtain⟨v,e4,l,hlst,hs4⟩:=trodB_list (sz:=exSz) (Pd:=fun e cs=>IsEx Any w n e cs∧ExB n e) Tryz.underlying61 cells_ex (by omega) f4 fun n' hn' cs' y hy=>by
    obtain⟨e,⟨he,hb⟩,hs⟩:=ih n' (by omega) cs' y hy;exact⟨e,⟨he.le (by omega),ExB.le (by omega) hb⟩,hs⟩
   cases e0;cases e1;cases e2;cases e3;cases e4;refine⟨.mk k m o nm l,⟨⟨_,rfl,hlst.mono fun _ _ _ h=>h.1⟩,b0,b1,b2,b3,fun x hx=>(hlst.each x hx).choose_spec.2⟩,?_⟩;rw [hx,exSz,exsSz_sum];simp only [Rows.uptoBulk,List.map_cons,List.map_nil,Rows.uptoBulkAll];omega
theorem trodB_st:∀ fuel cs x,DataW.trod enc Tryz.prog w 0 spare held fuel 65 cs=some x→∃ e,(IsSt Any w fuel e cs∧StB fuel e)∧stSz e≤Rows.uptoBulk x.1:=by
 intro fuel
 induction fuel using Nat.strongRecOn with
 | ind fuel ih =>
   intro cs x h;obtain⟨n,xs,rfl,hl,hxl,hx,hf⟩:=trodB_at flds_st (by simp) h;rw [cells_st] at hl;obtain⟨c0,c1,c2,c3,c4,c5,rfl⟩:=len6 hl;obtain⟨y0,y1,y2,y3,y4,y5,rfl⟩:=ls6 hxl;have f0:=hf 0 _ _ _ rfl;have f1:=hf 1 _ _ _ rfl;have f2:=hf 2 _ _ _ rfl;have f3:=hf 3 _ _ _ rfl;have f4:=hf 4 _ _ _ rfl;have f5:=hf 5 _ _ _ rfl;simp only [List.drop_zero,List.take_succ_cons,List.take_zero,List.drop_succ_cons,List.getElem?_cons_zero,List.getElem?_cons_succ] at f0 f1 f2 f3 f4 f5;obtain⟨k,e0,b0⟩:=trod_num Tryz.underlying3 f0;obtain⟨nm,e1,b1⟩:=trod_str f1;obtain⟨ty,e2,b2⟩:=trod_str f2;obtain⟨v,e3,l,hl1,hs1⟩:=trodB_list (sz:=exSz) (Pd:=fun e cs=>IsEx Any w n e cs∧ExB n e) Tryz.underlying61 cells_ex (by omega) f3 fun n' hn' cs' y hy=>by
    obtain⟨e,⟨he,hb⟩,hs⟩:=trodB_ex n' cs' y hy;exact⟨e,⟨he.le (by omega),ExB.le (by omega) hb⟩,hs⟩
   obtain⟨v2,e4,l2,hl2,hs2⟩:=trodB_list (sz:=stSz) (Pd:=fun e cs=>IsSt Any w n e cs∧StB n e) Tryz.underlying39 cells_st (by omega) f4 fun n' hn' cs' y hy=>by
    obtain⟨e,⟨he,hb⟩,hs⟩:=ih n' (by omega) cs' y hy;exact⟨e,⟨he.le (by omega),StB.le (by omega) hb⟩,hs⟩
   obtain⟨v3,e5,l3,hl3,hs3⟩:=trodB_list (sz:=stSz) (Pd:=fun e cs=>IsSt Any w n e cs∧StB n e) Tryz.underlying39 cells_st (by omega) f5 fun n' hn' cs' y hy=>by
    obtain⟨e,⟨he,hb⟩,hs⟩:=ih n' (by omega) cs' y hy;exact⟨e,⟨he.le (by omega),StB.le (by omega) hb⟩,hs⟩
   cases e0;cases e1;cases e2;cases e3;cases e4;cases e5;refine⟨.mk k nm ty l l2 l3,⟨⟨_,_,_,rfl,hl1.mono fun _ _ _ h=>h.1,hl2.mono fun _ _ _ h=>h.1,hl3.mono fun _ _ _ h=>h.1⟩,b0,b1,b2,fun x hx=>(hl1.each x hx).choose_spec.2,fun x hx=>(hl2.each x hx).choose_spec.2,fun x hx=>(hl3.each x hx).choose_spec.2⟩,?_⟩;rw [hx,stSz,exsSz_sum,stsSz_sum,stsSz_sum];simp only [Rows.uptoBulk,List.map_cons,List.map_nil,Rows.uptoBulkAll];omega
theorem trodB_fld {fuel:Nat}{cs:List Value}{x:DataW H×List MemPlace}(h:DataW.trod enc Tryz.prog w 0 spare held fuel 67 cs=some x):∃ e,(IsFld e cs∧FldB e)∧1≤Rows.uptoBulk x.1:=by
 obtain⟨e,he⟩:=trod_fld h;exact⟨e,he,bulk_pos _⟩
theorem trodB_me {fuel:Nat}{cs:List Value}{x:DataW H×List MemPlace}(h:DataW.trod enc Tryz.prog w 0 spare held fuel 41 cs=some x):∃ e,(IsMe Any w fuel e cs∧MethB fuel e)∧meSz e≤Rows.uptoBulk x.1:=by
 obtain⟨n,xs,rfl,hl,hxl,hx,hf⟩:=trodB_at flds_me (by simp) h;rw [cells_me] at hl;obtain⟨c0,c1,c2,c3,c4,rfl⟩:=len5 hl;obtain⟨y0,y1,y2,y3,y4,rfl⟩:=ls5 hxl;have f0:=hf 0 _ _ _ rfl;have f1:=hf 1 _ _ _ rfl;have f2:=hf 2 _ _ _ rfl;have f3:=hf 3 _ _ _ rfl;have f4:=hf 4 _ _ _ rfl;simp only [List.drop_zero,List.take_succ_cons,List.take_zero,List.drop_succ_cons,List.getElem?_cons_zero,List.getElem?_cons_succ] at f0 f1 f2 f3 f4;obtain⟨nm,e0,b0⟩:=trod_str f0;obtain⟨sb,e1,_⟩:=DataW.trod_bool Tryz.underlying4 f1;obtain⟨v,e2,l,hl1,hs1⟩:=trodB_list (sz:=fun _=>1) (Pd:=fun e cs=>IsFld e cs∧FldB e) Tryz.underlying35 cells_fld (by omega) f2 fun n' hn' cs' y hy=>trodB_fld hy
 obtain⟨rs,e3,b3⟩:=trod_str f3;obtain⟨v2,e4,l2,hl2,hs2⟩:=trodB_list (sz:=stSz) (Pd:=fun e cs=>IsSt Any w (n+1) e cs∧StB (n+1) e) Tryz.underlying39 cells_st (by omega) f4 fun n' hn' cs' y hy=>by
  obtain⟨e,⟨he,hb⟩,hs⟩:=trodB_st n' cs' y hy;exact⟨e,⟨he.le (by omega),StB.le (by omega) hb⟩,hs⟩
 cases e0;cases e1;cases e2;cases e3;cases e4;refine⟨⟨nm,sb,l,rs,l2⟩,⟨⟨_,_,rfl,hl1.mono fun _ _ _ h=>h.1,hl2.mono fun _ _ _ h=>h.1⟩,b0,b3,fun x hx=>(hl1.each x hx).choose_spec.2,fun x hx=>(hl2.each x hx).choose_spec.2⟩,?_⟩;rw [hx,meSz];rw [stsSz_sum,len_sum l];simp only [Rows.uptoBulk,List.map_cons,List.map_nil,Rows.uptoBulkAll];omega
theorem trodB_cl {fuel:Nat}{cs:List Value}{x:DataW H×List MemPlace}(h:DataW.trod enc Tryz.prog w 0 spare held fuel 38 cs=some x):∃ e,(IsCl Any w fuel e cs∧ClB fuel e)∧clSz e≤Rows.uptoBulk x.1:=by
 obtain⟨n,xs,rfl,hl,hxl,hx,hf⟩:=trodB_at flds_cl (by simp) h;rw [cells_cl] at hl;obtain⟨c0,c1,c2,c3,rfl⟩:=len4 hl;obtain⟨y0,y1,y2,y3,rfl⟩:=ls4 hxl;have f0:=hf 0 _ _ _ rfl;have f1:=hf 1 _ _ _ rfl;have f2:=hf 2 _ _ _ rfl;have f3:=hf 3 _ _ _ rfl;simp only [List.drop_zero,List.take_succ_cons,List.take_zero,List.drop_succ_cons,List.getElem?_cons_zero,List.getElem?_cons_succ] at f0 f1 f2 f3;obtain⟨nm,e0,b0⟩:=trod_str f0;obtain⟨sp,e1,b1⟩:=trod_str f1;obtain⟨v,e2,l,hl1,hs1⟩:=trodB_list (sz:=fun _=>1) (Pd:=fun e cs=>IsFld e cs∧FldB e) Tryz.underlying35 cells_fld (by omega) f2 fun n' hn' cs' y hy=>trodB_fld hy
 obtain⟨v2,e3,l2,hl2,hs2⟩:=trodB_list (sz:=meSz) (Pd:=fun e cs=>IsMe Any w (n+1) e cs∧MethB (n+1) e) Tryz.underlying36 cells_me (by omega) f3 fun n' hn' cs' y hy=>by
  obtain⟨e,⟨he,hb⟩,hs⟩:=trodB_me hy;exact⟨e,⟨he.le (by omega),hb.le (by omega)⟩,hs⟩
 cases e0;cases e1;cases e2;cases e3;refine⟨⟨nm,sp,l,l2⟩,⟨⟨_,_,rfl,hl1.mono fun _ _ _ h=>h.1,hl2.mono fun _ _ _ h=>h.1⟩,b0,b1,fun x hx=>(hl1.each x hx).choose_spec.2,fun x hx=>(hl2.each x hx).choose_spec.2⟩,?_⟩;rw [hx,clSz];rw [mesSz_sum,len_sum l];simp only [Rows.uptoBulk,List.map_cons,List.map_nil,Rows.uptoBulkAll];omega
theorem trodB_so {fuel:Nat}{cs:List Value}{x:DataW H×List MemPlace}(h:DataW.trod enc Tryz.prog w 0 spare held fuel 24 cs=some x):∃ v,cs=[v]∧∃ l,IsList Any w 4 (IsCl Any w fuel) l v∧(∀ x∈l,ClB fuel x)∧clsSz l≤Rows.uptoBulk x.1:=by
 obtain⟨n,xs,rfl,hl,hxl,hx,hf⟩:=trodB_at flds_so (by simp) h;rw [cells_so] at hl;obtain⟨c0,rfl⟩:=len1 hl;obtain⟨y0,rfl⟩:=ls1 hxl;have f0:=hf 0 _ _ _ rfl;simp only [List.drop_zero,List.take_succ_cons,List.take_zero,List.getElem?_cons_zero] at f0;obtain⟨v,e0,l,hl1,hs1⟩:=trodB_list (sz:=clSz) (Pd:=fun e cs=>IsCl Any w (n+1) e cs∧ClB (n+1) e) Tryz.underlying22 cells_cl (by omega) f0 fun n' hn' cs' y hy=>by
  obtain⟨e,⟨he,hb⟩,hs⟩:=trodB_cl hy;exact⟨e,⟨he.le (by omega),hb.le (by omega)⟩,hs⟩
 refine⟨v,e0,l,hl1.mono fun _ _ _ h=>h.1,fun x hx=>(hl1.each x hx).choose_spec.2,?_⟩;rw [hx,clsSz_sum];simp only [Rows.uptoBulk,List.map_cons,List.map_nil,Rows.uptoBulkAll];omega
end
section
variable {H:Type} {enc:TypeId×Value→H} {W:World}
set_option maxRecDepth 100000 in
theorem openB_so {r:Reach}{b0:Nat}{v:Value}{d:DataW H}{ps:List MemPlace}(hval:Value.okWide Tryz.prog W r b0 24 v)(h:DataW.Trod enc Tryz.prog W 0 (fun _=>true) true 24 v d ps) :
  ∃ (a:Option Addr) (n c:Nat) (l:List Cl) (k:Nat),v=.agg #[.slice a n c]∧IsList Any W 4 (IsCl Any W k) l (.slice a n c)∧(∀ x∈l,ClB k x)∧clsSz l≤Rows.uptoBulk d:=by
 obtain⟨fs,hfs⟩:=struct_so;obtain⟨cs,rfl⟩:=agg_of_struct hfs hval;obtain⟨k,h⟩:=h;obtain⟨x,h1,l,h2,h3,h4⟩:=trodB_so h;obtain⟨a,n,c,rfl⟩:=h2.isSlice;have h1:cs.toList=[.slice a n c]:=h1;refine⟨a,n,c,l,k,?_,h2,h3,h4⟩;rw [← Array.toArray_toList (xs:=cs),h1]
end
end
end Go.Proofs.YtoookjadbhdfhaaGreatDoor
