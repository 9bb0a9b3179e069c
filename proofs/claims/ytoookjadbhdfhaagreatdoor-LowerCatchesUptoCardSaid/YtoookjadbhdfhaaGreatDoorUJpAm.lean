/-
  Plain Lean: trees, and the parser as a function on tokens (no program in sight). A rule gives the tree and the index behind it, or the index of the first token that does not fit.
-/
import Derived.Test.YtoookjadbhdfhaaGreatDoorUJpAl
set_option linter.unusedSectionVars false
set_option linter.unusedSimpArgs false
set_option linter.unnecessarySimpa false
set_option linter.unusedVariables false
namespace Go.Proofs.YtoookjadbhdfhaaGreatDoor
section
namespace Lx
inductive Ex where
 | mk (kind n:Int) (of name:Bytes) (kids:List Ex)
inductive St where
 | mk (kind:Int) (name typ:Bytes) (exprs:List Ex) (body els:List St)
structure Fld where
 name:Bytes
 typ:Bytes
structure Me where
 name:Bytes
 static:Bool
 params:List Fld
 result:Bytes
 body:List St
structure Cl where
 name:Bytes
 super:Bytes
 fields:List Fld
 methods:List Me
def Ex.kind:Ex→Int | .mk k _ _ _ _=>k
def Ex.n:Ex→Int | .mk _ n _ _ _=>n
def Ex.of:Ex→Bytes | .mk _ _ o _ _=>o
def Ex.name:Ex→Bytes | .mk _ _ _ m _=>m
def Ex.kids:Ex→List Ex | .mk _ _ _ _ ks=>ks
abbrev PR (α:Type):=Except Nat (α×Nat)
section
variable (ts:List Tok)
def tk (i:Nat):Tok:=ts.getD i ⟨5,0,[],0⟩
section
variable (E:Nat→PR Ex)
end
section
variable (S:Nat→PR St)
end
section
variable (B:Nat→PR (List St))
end
end
end Lx
end
section
namespace Lx
section
variable {ts:List Tok} {i j:Nat}
/-- E reads on wherever it succeeds. -/
def Adv {α:Type}(E:Nat→PR α):Prop:=∀ i a j,E i=.ok (a,j)→i<j
section
variable {E:Nat→PR Ex} (hE:Adv E)
include hE
end
section
variable {B:Nat→PR (List St)} (hB:Adv B)
include hB
end
end
end Lx
end
section
open Lx Go.RowKit
/-- A slice value v that reads as the list l: k cells an item; A: the blocks that may be read. -/
def IsList {α:Type}(A:Nat→Prop)(w:World)(k:Nat)(P:α→List Value→Prop)(l:List α)(v:Value):Prop :=
 l.length≤maxLen∧((l=[]∧∃ a cap,v=.slice a 0 cap)∨∃ g off cap,v=.slice (some ⟨g,off,none⟩) l.length cap∧(A g∧l.length≤cap) ∧
  ∀ i (h:i<l.length),∃ cs:List Value,cs.length=k∧(∀ j,j<k→w.cell? ⟨g,off+(i*k+j),none⟩=cs[j]?)∧P l[i] cs)
def IsEx (A:Nat→Prop)(w:World):Nat→Ex→List Value→Prop
 | 0,_,_=>False
 | d+1,.mk k n o m ks,cs=>∃ v,cs=[.int .i64 k,.int .i64 n,.string (strOf o),.string (strOf m),v]∧IsList A w 5 (IsEx A w d) ks v
def IsSt (A:Nat→Prop)(w:World):Nat→St→List Value→Prop
 | 0,_,_=>False
 | d+1,.mk k nm ty es b el,cs=>∃ v1 v2 v3,cs=[.int .i64 k,.string (strOf nm),.string (strOf ty),v1,v2,v3]∧IsList A w 5 (IsEx A w d) es v1∧IsList A w 6 (IsSt A w d) b v2∧IsList A w 6 (IsSt A w d) el v3
def IsFld (f:Fld)(cs:List Value):Prop:=cs=[.string (strOf f.name),.string (strOf f.typ)]
def IsMe (A:Nat→Prop)(w:World)(d:Nat)(m:Me)(cs:List Value):Prop :=
 ∃ v1 v2,cs=[.string (strOf m.name),.bool m.static,v1,.string (strOf m.result),v2]∧IsList A w 2 IsFld m.params v1∧IsList A w 6 (IsSt A w d) m.body v2
def IsCl (A:Nat→Prop)(w:World)(d:Nat)(c:Cl)(cs:List Value):Prop :=
 ∃ v1 v2,cs=[.string (strOf c.name),.string (strOf c.super),v1,v2]∧IsList A w 2 IsFld c.fields v1∧IsList A w 5 (IsMe A w d) c.methods v2
theorem IsList.mono {α:Type}{A:Nat→Prop}{w:World}{k:Nat}{P Q:α→List Value→Prop}{l:List α}{v:Value}(h:IsList A w k P l v)(hPQ:∀ x∈l,∀ cs,P x cs→Q x cs):IsList A w k Q l v:=by
 obtain⟨hl,h | ⟨g,off,cap,hv,hA,hc⟩⟩:=h
 ·exact⟨hl,.inl h⟩
 ·refine⟨hl,.inr ⟨g,off,cap,hv,hA,fun i hi=>?_⟩⟩;obtain⟨cs,h1,h2,h3⟩:=hc i hi;exact⟨cs,h1,h2,hPQ _ (List.getElem_mem hi) _ h3⟩
/-- The blocks that A lets by are as they were. -/
def KeptA (A:Nat→Prop)(w w':World):Prop:=∀ g,A g→g<w.heap.size→w'.heap[g]?=w.heap[g]?
theorem IsList.kept {α:Type}{A:Nat→Prop}{w w':World}{k:Nat}{P Q:α→List Value→Prop}{l:List α}{v:Value}(hk:KeptA A w w')(hk0:0<k)(h:IsList A w k P l v)(hPQ:∀ x∈l,∀ cs,P x cs→Q x cs):IsList A w' k Q l v:=by
 obtain⟨hl,h | ⟨g,off,cap,hv,hA,hc⟩⟩:=h
 ·exact⟨hl,.inl h⟩
 ·refine⟨hl,.inr ⟨g,off,cap,hv,hA,fun i hi=>?_⟩⟩;obtain⟨cs,h1,h2,h3⟩:=hc i hi;have hlt:g<w.heap.size:=by
   have h4:=h2 0 hk0;have h5:cs[0]?=some cs[0]:=List.getElem?_eq_getElem (by omega);exact World.block_lt_of_cell? w ⟨g,off+(i*k+0),none⟩ (h4.trans h5)
  refine⟨cs,h1,fun j hj=>?_,hPQ _ (List.getElem_mem hi) _ h3⟩;rw [World.cell?_of_block (w:=w) (a:=⟨g,off+(i*k+j),none⟩) (hk g hA.1 hlt)];exact h2 j hj
theorem IsEx.kept {A:Nat→Prop}{w w':World}(hk:KeptA A w w'):∀ (d:Nat) (e:Ex) (cs:List Value),IsEx A w d e cs→IsEx A w' d e cs:=by
 intro d
 induction d with
 | zero=>intro e cs h;exact h
 | succ d ih =>
   intro e cs h;obtain⟨k,n,o,m,ks⟩:=e;obtain⟨v,hv,hl⟩:=h;exact⟨v,hv,hl.kept hk (by omega) fun x _ cs=>ih x cs⟩
theorem IsEx.succ {A:Nat→Prop}{w:World}:∀ (d:Nat) (e:Ex) (cs:List Value),IsEx A w d e cs→IsEx A w (d+1) e cs:=by
 intro d
 induction d with
 | zero=>intro e cs h;exact absurd h (by simp [IsEx])
 | succ d ih =>
   intro e cs h;obtain⟨k,n,o,m,ks⟩:=e;obtain⟨v,hv,hl⟩:=h;exact⟨v,hv,hl.mono fun x _ cs=>ih x cs⟩
theorem IsEx.le {A:Nat→Prop}{w:World}{d d':Nat}(h:d≤d'){e:Ex}{cs:List Value}(he:IsEx A w d e cs):IsEx A w d' e cs:=by
 obtain⟨k,rfl⟩:=Nat.exists_eq_add_of_le h
 induction k with
 | zero=>exact he
 | succ k ih=>exact IsEx.succ _ _ _ (ih (by omega))
theorem IsSt.kept {A:Nat→Prop}{w w':World}(hk:KeptA A w w'):∀ (d:Nat) (e:St) (cs:List Value),IsSt A w d e cs→IsSt A w' d e cs:=by
 intro d
 induction d with
 | zero=>intro e cs h;exact h
 | succ d ih =>
   intro e cs h;obtain⟨k,nm,ty,es,b,el⟩:=e;obtain⟨v1,v2,v3,hv,h1,h2,h3⟩:=h;exact⟨v1,v2,v3,hv,h1.kept hk (by omega) fun x _ cs=>IsEx.kept hk d x cs,h2.kept hk (by omega) fun x _ cs=>ih x cs,h3.kept hk (by omega) fun x _ cs=>ih x cs⟩
theorem IsSt.succ {A:Nat→Prop}{w:World}:∀ (d:Nat) (e:St) (cs:List Value),IsSt A w d e cs→IsSt A w (d+1) e cs:=by
 intro d
 induction d with
 | zero=>intro e cs h;exact absurd h (by simp [IsSt])
 | succ d ih =>
   intro e cs h;obtain⟨k,nm,ty,es,b,el⟩:=e;obtain⟨v1,v2,v3,hv,h1,h2,h3⟩:=h;exact⟨v1,v2,v3,hv,h1.mono fun x _ cs=>IsEx.succ d x cs,h2.mono fun x _ cs=>ih x cs,h3.mono fun x _ cs=>ih x cs⟩
theorem IsSt.le {A:Nat→Prop}{w:World}{d d':Nat}(h:d≤d'){e:St}{cs:List Value}(he:IsSt A w d e cs):IsSt A w d' e cs:=by
 obtain⟨k,rfl⟩:=Nat.exists_eq_add_of_le h
 induction k with
 | zero=>exact he
 | succ k ih=>exact IsSt.succ _ _ _ (ih (by omega))
theorem IsMe.kept {A:Nat→Prop}{w w':World}(hk:KeptA A w w'){d:Nat}{m:Me}{cs:List Value}(h:IsMe A w d m cs):IsMe A w' d m cs:=by
 obtain⟨v1,v2,hv,h1,h2⟩:=h;exact⟨v1,v2,hv,h1.kept hk (by omega) fun _ _ _=>id,h2.kept hk (by omega) fun x _ cs=>IsSt.kept hk d x cs⟩
theorem IsMe.le {A:Nat→Prop}{w:World}{d d':Nat}(hd:d≤d'){m:Me}{cs:List Value}(h:IsMe A w d m cs):IsMe A w d' m cs:=by
 obtain⟨v1,v2,hv,h1,h2⟩:=h;exact⟨v1,v2,hv,h1,h2.mono fun x _ cs=>IsSt.le hd⟩
theorem IsCl.kept {A:Nat→Prop}{w w':World}(hk:KeptA A w w'){d:Nat}{c:Cl}{cs:List Value}(h:IsCl A w d c cs):IsCl A w' d c cs:=by
 obtain⟨v1,v2,hv,h1,h2⟩:=h;exact⟨v1,v2,hv,h1.kept hk (by omega) fun _ _ _=>id,h2.kept hk (by omega) fun x _ cs=>IsMe.kept hk⟩
theorem IsCl.le {A:Nat→Prop}{w:World}{d d':Nat}(hd:d≤d'){c:Cl}{cs:List Value}(h:IsCl A w d c cs):IsCl A w d' c cs:=by
 obtain⟨v1,v2,hv,h1,h2⟩:=h;exact⟨v1,v2,hv,h1,h2.mono fun x _ cs=>IsMe.le hd⟩
theorem IsList.sub {α:Type}{A A':Nat→Prop}{w:World}{k:Nat}{P Q:α→List Value→Prop}{l:List α}{v:Value}(hA:∀ g,A g→g<w.heap.size→A' g)(hk0:0<k)(h:IsList A w k P l v)(hPQ:∀ x∈l,∀ cs,P x cs→Q x cs):IsList A' w k Q l v:=by
 obtain⟨hl,h | ⟨g,off,cap,hv,hAg,hc⟩⟩:=h
 ·exact⟨hl,.inl h⟩
 ·by_cases h0:l=[]
  ·exact⟨hl,.inl ⟨h0,_,cap,by rw [hv,h0];rfl⟩⟩
  ·refine⟨hl,.inr ⟨g,off,cap,hv,?_,fun i hi=>?_⟩⟩
   ·have hpos:0<l.length:=List.length_pos_iff.2 h0;obtain⟨cs,h1,h2,_⟩:=hc 0 hpos;have h5:cs[0]?=some cs[0]:=List.getElem?_eq_getElem (by omega);exact⟨hA g hAg.1 (World.block_lt_of_cell? w ⟨g,off+(0*k+0),none⟩ ((h2 0 hk0).trans h5)),hAg.2⟩
   ·obtain⟨cs,h1,h2,h3⟩:=hc i hi;exact⟨cs,h1,h2,hPQ _ (List.getElem_mem hi) _ h3⟩
theorem IsEx.sub {A A':Nat→Prop}{w:World}(hA:∀ g,A g→g<w.heap.size→A' g):∀ (d:Nat) (e:Ex) (cs:List Value),IsEx A w d e cs→IsEx A' w d e cs:=by
 intro d
 induction d with
 | zero=>intro e cs h;exact h
 | succ d ih =>
   intro e cs h;obtain⟨k,n,o,m,ks⟩:=e;obtain⟨v,hv,hl⟩:=h;exact⟨v,hv,hl.sub hA (by omega) fun x _ cs=>ih x cs⟩
theorem IsSt.sub {A A':Nat→Prop}{w:World}(hA:∀ g,A g→g<w.heap.size→A' g):∀ (d:Nat) (e:St) (cs:List Value),IsSt A w d e cs→IsSt A' w d e cs:=by
 intro d
 induction d with
 | zero=>intro e cs h;exact h
 | succ d ih =>
   intro e cs h;obtain⟨k,nm,ty,es,b,el⟩:=e;obtain⟨v1,v2,v3,hv,h1,h2,h3⟩:=h;exact⟨v1,v2,v3,hv,h1.sub hA (by omega) fun x _ cs=>IsEx.sub hA d x cs,h2.sub hA (by omega) fun x _ cs=>ih x cs,h3.sub hA (by omega) fun x _ cs=>ih x cs⟩
theorem IsMe.sub {A A':Nat→Prop}{w:World}(hA:∀ g,A g→g<w.heap.size→A' g){d:Nat}{m:Me}{cs:List Value}(h:IsMe A w d m cs):IsMe A' w d m cs:=by
 obtain⟨v1,v2,hv,h1,h2⟩:=h;exact⟨v1,v2,hv,h1.sub hA (by omega) fun _ _ _=>id,h2.sub hA (by omega) fun x _ cs=>IsSt.sub hA d x cs⟩
theorem IsCl.sub {A A':Nat→Prop}{w:World}(hA:∀ g,A g→g<w.heap.size→A' g){d:Nat}{c:Cl}{cs:List Value}(h:IsCl A w d c cs):IsCl A' w d c cs:=by
 obtain⟨v1,v2,hv,h1,h2⟩:=h;exact⟨v1,v2,hv,h1.sub hA (by omega) fun _ _ _=>id,h2.sub hA (by omega) fun x _ cs=>IsMe.sub hA⟩
theorem mul_step {i n:Nat}(k:Nat)(h:i<n):i*k+k≤n*k:=by
 have h2:(i+1)*k≤n*k:=Nat.mul_le_mul_right k h;rw [Nat.add_mul,Nat.one_mul] at h2;exact h2
/-- Cells laid one item behind the other. -/
def Flat {α:Type}(k:Nat)(P:α→List Value→Prop)(l:List α)(xs:List Value):Prop:=xs.length=l.length*k∧∀ i (h:i<l.length),P l[i] ((xs.drop (i*k)).take k)
theorem Flat.nil {α:Type}{k:Nat}{P:α→List Value→Prop}:Flat k P [] []:=⟨by simp,fun i h=>by simp at h⟩
theorem Flat.snoc {α:Type}{k:Nat}{P:α→List Value→Prop}{l:List α}{xs:List Value}{x:α}{cs:List Value}(h:Flat k P l xs)(hc:cs.length=k)(hx:P x cs):Flat k P (l++[x]) (xs++cs):=by
 obtain⟨h1,h2⟩:=h;refine⟨by rw [List.length_append,List.length_append,h1,hc];simp [Nat.add_mul],fun i hi=>?_⟩;simp only [List.length_append,List.length_cons,List.length_nil] at hi
 by_cases hlt:i<l.length
 ·rw [List.getElem_append_left hlt];have hle:i*k+k≤l.length*k:=mul_step k hlt;rw [List.drop_append_of_le_length (by omega),List.take_append_of_le_length (by rw [List.length_drop];omega)];exact h2 i hlt
 ·obtain rfl:i=l.length:=by omega
  rw [List.getElem_append_right (by omega),← h1,List.drop_left,← hc,List.take_length];simpa using hx
theorem Flat.mono {α:Type}{k:Nat}{P Q:α→List Value→Prop}{l:List α}{xs:List Value}(h:Flat k P l xs)(hPQ:∀ x cs,P x cs→Q x cs):Flat k Q l xs:=⟨h.1,fun i hi=>hPQ _ _ (h.2 i hi)⟩
end
end Go.Proofs.YtoookjadbhdfhaaGreatDoor
