/-
  strconv.FormatInt as a contract of abstract values.
-/
import Derived.Test.YtmlafcimjhnhhaaDoorJmJpAx
import Derived.Test.YtmlafcimjhnhhaaDoorJmJpAs
import Derived.Test.YtmlafcimjhnhhaaDoorJmOldAx
import Derived.Lib.ItoaNum
import Derived.Lib.ItoaLen
import Derived.Test.YtmlafcimjhnhhaaDoorJmJpAu
import Derived.Test.YtmlafcimjhnhhaaDoorShelf
import Derived.Test.YtmlafcimjhnhhaaDoorJmJpAr
import Derived.Deep.Slices
set_option linter.unusedSectionVars false
set_option linter.unusedSimpArgs false
set_option linter.unnecessarySimpa false
set_option linter.unusedVariables false
set_option linter.unusedVariables false
set_option linter.unusedSimpArgs false
namespace Go.Proofs.YtmlafcimjhnhhaaDoor
section
open Lx Ax Go.RowKit
namespace Lx
theorem dec_digits:∀ (f n:Nat),n<10 ^ f→0<f→digitsOf f n=Lib.decDigits n
 | f+1,n,h,_=>by
   rw [digitsOf,Lib.decDigits];split
   ·rfl
   ·rename_i h0;have hf:0<f:=by
     rcases Nat.eq_zero_or_pos f with e | e
     ·subst e;simp at h;omega
     ·exact e
    rw [dec_digits f (n / 10) (by rw [Nat.pow_succ] at h;omega) hf];rfl
theorem itoa_num {n:Int}(h:-9223372036854775808≤n∧n≤9223372036854775807):Lib.itoa n=numText n:=by
 obtain⟨h0,h1⟩:=h;unfold Lib.itoa numText;split
 ·rw [dec_digits 20 _ (by omega) (by omega)]
 ·rw [dec_digits 20 _ (by omega) (by omega)];congr 1;omega
theorem numText_len {n:Int}(h:-9223372036854775808≤n∧n≤9223372036854775807):(numText n).length≤21:=by
 rw [← itoa_num h];exact Lib.itoa_length_le n h.1 h.2
end Lx
theorem below_grow {B:Nat}(w:World)(k:Nat)(os:Array Obj)(hB:B≤w.heap.size):Below B w (Go.Sort.grow (w.drewN k) os) :=
 ⟨rfl,rfl,rfl,by show w.heap.size≤(w.heap++os).size;simp,fun i hi=>by show (w.heap++os)[i]?=w.heap[i]?;rw [Array.getElem?_append_left (by omega)]⟩
theorem tab_of {M:Mp}{w:World}(hg:RG fmG M)(hz:∀ g o,M.fz g=some o→w.heap[g]?=some o):Lib.TabIs Tryd.prog w "internal/strconv.uint64pow10" .u64 Lib.pow10Tab:=by
 obtain⟨h1,arr,T,fr,h2,h3⟩:=hg 2;have hh:=hz _ _ h2;unfold Lib.TabIs World.var?;rw [show Tryd.prog.globalNamed "internal/strconv.uint64pow10"=some 2 by kernel_rfl];simp only [Option.bind_some,hh];refine congrArg some (Array.ext (by simpa using h3) fun i a b=>?_);change RV M (.rop (Lib.pow10Tab.map (.int .u64))) _ at h1;cases h1 with
 | rop cs g o arr' T' fr' h' hl hr =>
   rw [h2] at h';cases h';have:=hr i (by simpa using b) (by simpa using a);simp only [List.getElem_map,Nat.zero_add] at this;generalize hv:arr[i]=v at this;cases this;simp [hv]
theorem fm_num {n:Int}(h:-9223372036854775808≤n∧n≤9223372036854775807):FCall1 Tryd.prog fmG 64 [.int .i64 n,.int .i64 10] (.str (numText n)):=by
 refine FCall.one fmG_pu rfl rfl (FCall.ofOld fun M w vs hg hz hv=>?_);obtain⟨v0,vs,rfl,hv0,hv⟩:=hv.cons_inv;obtain⟨v1,vs,rfl,hv1,hv⟩:=hv.cons_inv;cases hv.nil_inv;cases hv0;cases hv1;refine (Tryd.strconv_FormatInt_10 n h.1 h.2 w (tab_of hg hz)).mono ?_;rintro e w' ⟨rfl,k,os,rfl⟩;exact⟨below_grow _ _ _ (Nat.le_refl _),_,rfl,.str _ _ (by rw [← itoa_num h])⟩
end
section
open Lx Ax Go.RowKit
theorem cells_of {M:Mp}{w:World}{g:Nat}{ss:List Bytes}(hg:RG fmG M)(hz:∀ g o,M.fz g=some o→w.heap[g]?=some o)(h:fmG g=.rop (ss.map .str)):∃ t fr,w.heap[g]?=some (.cells (ss.map fun l=>Value.string ⟨l.toArray⟩).toArray t fr):=by
 obtain⟨h1,h3⟩:=hg g;rw [h] at h1 h3;obtain⟨arr,T,fr,h2,h3⟩:=h3;refine⟨T,fr,?_⟩;rw [hz _ _ h2];refine congrArg (fun a=>some (Obj.cells a T fr)) (Array.ext (by simpa using h3) fun i a b=>?_);cases h1 with
 | rop cs g o arr' T' fr' h' hl hr =>
   rw [h2] at h';cases h';have:=hr i (by simpa using b) (by simpa using a);simp only [List.getElem_map,Nat.zero_add] at this;generalize hv:arr[i]=v at this;cases this with
   | str l s hs =>
     simp [hv,← hs]
theorem kw_is {M:Mp}{w:World}(hg:RG fmG M)(hz:∀ g o,M.fz g=some o→w.heap[g]?=some o):KwIs w:=cells_of (ss:=kwList) hg hz rfl
end
section
open Lx Go.RowKit
/-- A number within int64. -/
def In64 (n:Int):Prop:=-9223372036854775808≤n∧n≤9223372036854775807
/-- Bounds of what is read: numbers within int64, lengths that a machine has. -/
def ExB:Nat→Ex→Prop
 | 0,_=>False
 | d+1,.mk k n o m ks=>In64 k∧In64 n∧o.length≤maxLen∧m.length≤maxLen∧∀ x∈ks,ExB d x
def StB:Nat→St→Prop
 | 0,_=>False
 | d+1,.mk k nm ty es b el=>In64 k∧nm.length≤maxLen∧ty.length≤maxLen∧(∀ x∈es,ExB d x)∧(∀ x∈b,StB d x)∧∀ x∈el,StB d x
theorem ExB.succ:∀ (d:Nat) (e:Ex),ExB d e→ExB (d+1) e:=by
 intro d
 induction d with
 | zero=>intro e h;exact absurd h (by simp [ExB])
 | succ d ih =>
   intro e h;obtain⟨k,n,o,m,ks⟩:=e;exact⟨h.1,h.2.1,h.2.2.1,h.2.2.2.1,fun x hx=>ih x (h.2.2.2.2 x hx)⟩
theorem ExB.le {d d':Nat}(h:d≤d'){e:Ex}(he:ExB d e):ExB d' e:=by
 obtain⟨k,rfl⟩:=Nat.exists_eq_add_of_le h
 induction k with
 | zero=>exact he
 | succ k ih=>exact ExB.succ _ _ (ih (by omega))
theorem StB.succ:∀ (d:Nat) (e:St),StB d e→StB (d+1) e:=by
 intro d
 induction d with
 | zero=>intro e h;exact absurd h (by simp [StB])
 | succ d ih =>
   intro e h;obtain⟨k,nm,ty,es,b,el⟩:=e;exact⟨h.1,h.2.1,h.2.2.1,fun x hx=>ExB.succ _ _ (h.2.2.2.1 x hx),fun x hx=>ih x (h.2.2.2.2.1 x hx),fun x hx=>ih x (h.2.2.2.2.2 x hx)⟩
theorem StB.le {d d':Nat}(h:d≤d'){e:St}(he:StB d e):StB d' e:=by
 obtain⟨k,rfl⟩:=Nat.exists_eq_add_of_le h
 induction k with
 | zero=>exact he
 | succ k ih=>exact StB.succ _ _ (ih (by omega))
def FldB (f:Fld):Prop:=f.name.length≤maxLen∧f.typ.length≤maxLen
def MethB (d:Nat)(m:Me):Prop:=m.name.length≤maxLen∧m.result.length≤maxLen∧(∀ x∈m.params,FldB x)∧∀ x∈m.body,StB d x
def ClB (d:Nat)(c:Cl):Prop:=c.name.length≤maxLen∧c.super.length≤maxLen∧(∀ x∈c.fields,FldB x)∧∀ x∈c.methods,MethB d x
theorem len2 {cs:List Value}(h:cs.length=2):∃ c0 c1,cs=[c0,c1]:=by
 match cs,h with
 | [c0,c1],_=>exact⟨c0,c1,rfl⟩
theorem len5 {cs:List Value}(h:cs.length=5):∃ c0 c1 c2 c3 c4,cs=[c0,c1,c2,c3,c4]:=by
 match cs,h with
 | [c0,c1,c2,c3,c4],_=>exact⟨c0,c1,c2,c3,c4,rfl⟩
theorem len6 {cs:List Value}(h:cs.length=6):∃ c0 c1 c2 c3 c4 c5,cs=[c0,c1,c2,c3,c4,c5]:=by
 match cs,h with
 | [c0,c1,c2,c3,c4,c5],_=>exact⟨c0,c1,c2,c3,c4,c5,rfl⟩
theorem list_of {α:Type}{len:Nat}{Q:Nat→α→Prop}(h:∀ i,i<len→∃ a,Q i a):∃ l:List α,l.length=len∧∀ i (hi:i<l.length),Q i l[i]:=by
 induction len with
 | zero=>exact⟨[],rfl,fun i hi=>by simp at hi⟩
 | succ n ih =>
   obtain⟨l,h1,h2⟩:=ih fun i hi=>h i (by omega)
   obtain⟨a,ha⟩:=h n (by omega);refine⟨l++[a],by simp [h1],fun i hi=>?_⟩
   by_cases hlt:i<l.length
   ·rw [List.getElem_append_left hlt];exact h2 i hlt
   ·have e:i=l.length:=by simp at hi;omega
    subst e;rw [List.getElem_append_right (Nat.le_refl _)];simp only [Nat.sub_self,List.getElem_cons_zero];rw [h1];exact ha
theorem addr_off (g off k:Nat):(⟨g,off,none⟩:Addr).add k=⟨g,off+k,none⟩:=by
 unfold Addr.add;split
 ·rename_i h;rw [h];rfl
 ·rfl
theorem IsList.each {α:Type}{A:Nat→Prop}{w:World}{k:Nat}{P:α→List Value→Prop}{l:List α}{v:Value}(h:IsList A w k P l v):∀ x∈l,∃ cs,P x cs:=by
 obtain⟨_,⟨rfl,_⟩ | ⟨g,off,cap,_,_,hc⟩⟩:=h
 ·intro x hx;cases hx
 ·intro x hx;obtain⟨i,hi,rfl⟩:=List.getElem_of_mem hx;obtain⟨cs,_,_,h⟩:=hc i hi;exact⟨cs,h⟩
section
variable {H:Type} {enc:TypeId×Value→H} {w:World} {spare:Nat→Bool} {held:Bool}
/-- The fields of a struct type: their types, offsets, sizes. -/
noncomputable def fldsOf (t:Nat):List (Nat×Nat×Nat):=match Tryd.prog.underlying t with
 | some (.struct fs)=>fs.toList.map fun f=>(f.type,f.offset,Tryd.prog.cellsOf f.type)
 | _=>[]
theorem trod_at {t:Nat}{L:List (Nat×Nat×Nat)}(hL:fldsOf t=L)(hne:L≠[]){fuel:Nat}{cs:List Value}{x:DataW H×List MemPlace}(h:DataW.trod enc Tryd.prog w 0 spare held fuel t cs=some x) :
  ∃ n,fuel=n+1∧cs.length=Tryd.prog.cellsOf t∧∀ (i ft off k:Nat),L[i]?=some (ft,off,k)→∃ y,DataW.trod enc Tryd.prog w 0 spare held n ft ((cs.drop off).take k)=some y:=by
 unfold fldsOf at hL;cases hu:Tryd.prog.underlying t with
 | none=>rw [hu] at hL;exact absurd hL.symm hne
 | some u =>
   rw [hu] at hL;cases u with
   | struct fs =>
     simp only at hL;obtain⟨xs,n,h1,_,h2,h3,h4⟩:=DataW.trod_struct hu h;refine⟨n,h1,h2,fun i ft off k hi=>?_⟩;rw [← hL,List.getElem?_map] at hi;cases hf:fs.toList[i]? with
     | none=>rw [hf] at hi;cases hi
     | some f =>
       rw [hf] at hi;simp only [Option.map_some,Option.some.injEq,Prod.mk.injEq] at hi;obtain⟨rfl,rfl,rfl⟩:=hi;have hf':fs[i]?=some f:=by rw [← hf,Array.getElem?_toList]
       have hil:i<xs.length:=by rw [h3];exact (Array.getElem?_eq_some_iff.1 hf').1
       exact⟨_,(h4 i f hf').trans (List.getElem?_eq_getElem hil)⟩
   | _=>exact absurd hL.symm hne
theorem trod_str {n:Nat}{cs:List Value}{x:DataW H×List MemPlace}(h:DataW.trod enc Tryd.prog w 0 spare held n 9 cs=some x):∃ s:Bytes,cs=[.string (strOf s)]∧s.length≤maxLen:=by
 obtain⟨s,h1,_,h2⟩:=DataW.trod_string Tryd.underlying9 h;exact⟨s.data.toList,by rw [← strOf_of];exact h1,by rw [len_list];exact h2⟩
theorem wf64 {n:Int}(h:(Lit.int .i64 n).wf=true):In64 n:=by
 have h':(decide (IntKind.i64.min≤n) && decide (n≤IntKind.i64.max))=true:=h;rw [Bool.and_eq_true,decide_eq_true_eq,decide_eq_true_eq] at h';exact h'
theorem trod_num {t n:Nat}(ht:Tryd.prog.underlying t=some (.int .i64)){cs:List Value}{x:DataW H×List MemPlace}(h:DataW.trod enc Tryd.prog w 0 spare held n t cs=some x):∃ k:Int,cs=[.int .i64 k]∧In64 k:=by
 obtain⟨k,h1,_,h2⟩:=DataW.trod_int ht h;exact⟨k,h1,wf64 h2⟩
theorem cells_ex:Tryd.prog.cellsOf 60=5:=by kernel_rfl
theorem cells_st:Tryd.prog.cellsOf 81=6:=by kernel_rfl
theorem cells_fld:Tryd.prog.cellsOf 72=2:=by kernel_rfl
theorem cells_me:Tryd.prog.cellsOf 41=5:=by kernel_rfl
theorem flds_ex:fldsOf 60=[(3,0,1),(2,1,1),(9,2,1),(9,3,1),(58,4,1)]:=by kernel_rfl
theorem flds_st:fldsOf 81=[(3,0,1),(9,1,1),(9,2,1),(58,3,1),(39,4,1),(39,5,1)]:=by kernel_rfl
theorem flds_fld:fldsOf 72=[(9,0,1),(9,1,1)]:=by kernel_rfl
theorem flds_me:fldsOf 41=[(9,0,1),(4,1,1),(38,2,1),(9,3,1),(39,4,1)]:=by kernel_rfl
theorem trod_fld {fuel:Nat}{cs:List Value}{x:DataW H×List MemPlace}(h:DataW.trod enc Tryd.prog w 0 spare held fuel 72 cs=some x):∃ e,IsFld e cs∧FldB e:=by
 obtain⟨n,rfl,hl,hf⟩:=trod_at flds_fld (by simp) h;rw [cells_fld] at hl;obtain⟨c0,c1,rfl⟩:=len2 hl;obtain⟨_,f0⟩:=hf 0 _ _ _ rfl;obtain⟨_,f1⟩:=hf 1 _ _ _ rfl;simp only [List.drop_zero,List.take_succ_cons,List.take_zero,List.drop_succ_cons] at f0 f1;obtain⟨nm,e0,b0⟩:=trod_str f0;obtain⟨ty,e1,b1⟩:=trod_str f1;cases e0;cases e1;exact⟨⟨nm,ty⟩,rfl,b0,b1⟩
theorem MethB.le {d d':Nat}(h:d≤d'){m:Me}(hm:MethB d m):MethB d' m:=⟨hm.1,hm.2.1,hm.2.2.1,fun x hx=>StB.le h (hm.2.2.2 x hx)⟩
theorem ClB.le {d d':Nat}(h:d≤d'){m:Cl}(hm:ClB d m):ClB d' m:=⟨hm.1,hm.2.1,hm.2.2.1,fun x hx=>MethB.le h (hm.2.2.2 x hx)⟩
end
end
end Go.Proofs.YtmlafcimjhnhhaaDoor
