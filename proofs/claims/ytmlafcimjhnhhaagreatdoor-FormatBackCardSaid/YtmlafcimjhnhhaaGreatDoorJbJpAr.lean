/-
  Trees that are only read: depths, counts, items of lists laid open.
-/
import Derived.Test.YtmlafcimjhnhhaaGreatDoorJbJpAp
import Derived.Test.YtmlafcimjhnhhaaGreatDoorJbOldAx
import Derived.Test.YtmlafcimjhnhhaaGreatDoorJbJpAn
set_option linter.unusedSectionVars false
set_option linter.unusedSimpArgs false
set_option linter.unnecessarySimpa false
set_option linter.unusedVariables false
namespace Go.Proofs.YtmlafcimjhnhhaaGreatDoor
section
open Lx Go.RowKit
namespace Lx
mutual
def exDepth:Ex→Nat
 | .mk _ _ _ _ ks=>exsDepth ks+1
def exsDepth:List Ex→Nat
 | []=>0
 | e::es=>max (exDepth e) (exsDepth es)
end
theorem exsDepth_snoc (l:List Ex)(e:Ex):exsDepth (l++[e])=max (exsDepth l) (exDepth e):=by
 induction l with
 | nil=>simp [exsDepth]
 | cons x l ih=>simp only [List.cons_append,exsDepth,ih];omega
theorem exsDepth_take (l:List Ex)(n:Nat):exsDepth (l.take n)≤exsDepth l:=by
 induction l generalizing n with
 | nil=>simp [exsDepth]
 | cons x l ih =>
   cases n with
   | zero=>simp [exsDepth]
   | succ n=>simp only [List.take_succ_cons,exsDepth];have:=ih n;omega
theorem exsDepth_get (l:List Ex)(n:Nat)(h:n<l.length):exDepth l[n]≤exsDepth l:=by
 induction l generalizing n with
 | nil=>simp at h
 | cons x l ih =>
   cases n with
   | zero=>simp only [List.getElem_cons_zero,exsDepth];omega
   | succ n=>simp only [List.getElem_cons_succ,exsDepth];have:=ih n (by simpa using h);omega
end Lx
theorem below_drew (w:World):Below w.heap.size w w.drew:=(Below.refl _ _).drew
theorem KeptA.of_below {A:Nat→Prop}{w w':World}(h:Below w.heap.size w w'):KeptA A w w':=fun g _ hg=>h.block g hg
theorem kept_alloc {A:Nat→Prop}(w:World)(o:Obj):KeptA A w (w.alloc o):=.of_below ((Below.refl _ _).alloc (Nat.le_refl _) o)
abbrev Any:Nat→Prop:=fun _=>True
theorem kept_any {w w':World}(h:Below w.heap.size w w'):KeptA Any w w':=.of_below h
/-- An item of a list of expressions, laid open. -/
theorem IsList.exAt {A:Nat→Prop}{w:World}{d:Nat}{l:List Ex}{a:Option Addr}{n c:Nat}(h:IsList A w 5 (IsEx A w d) l (.slice a n c)):n=l.length∧l.length≤maxLen∧∀ i (hi:i<l.length),∃ (g off:Nat) (k m:Int) (o nm:ByteArray) (a1:Option Addr) (n1 c1:Nat),a=some ⟨g,off,none⟩∧g<w.heap.size ∧
  w.cell? ⟨g,off+i*5,none⟩=some (.int .i64 k)∧w.cell? ⟨g,off+i*5+1,none⟩=some (.int .i64 m)∧w.cell? ⟨g,off+i*5+2,none⟩=some (.string o)∧w.cell? ⟨g,off+i*5+3,none⟩=some (.string nm)∧w.cell? ⟨g,off+i*5+4,none⟩=some (.slice a1 n1 c1) ∧
  IsEx A w d l[i] [.int .i64 k,.int .i64 m,.string o,.string nm,.slice a1 n1 c1]:=by
 obtain⟨hl,⟨rfl,a',c',hv⟩ | ⟨g,off,cp,hv,hA,hc⟩⟩:=h
 ·cases hv;exact⟨rfl,hl,fun i hi=>by simp at hi⟩
 ·cases hv;refine⟨rfl,hl,fun i hi=>?_⟩;obtain⟨cs,h1,h2,h3⟩:=hc i hi;have h3':=h3;generalize l[i]=e at h3 h3';cases d with
  | zero=>exact absurd h3 (by simp [IsEx])
  | succ d =>
    obtain⟨k,m,o,nm,ks⟩:=e;obtain⟨v,rfl,hl2⟩:=h3;obtain⟨a1,l1,c1,rfl⟩:∃ a1 l1 c1,v=.slice a1 l1 c1:=by
     obtain⟨_,⟨_,a,c,rfl⟩ | ⟨g,off,c,rfl,_⟩⟩:=hl2
     ·exact⟨_,_,_,rfl⟩
     ·exact⟨_,_,_,rfl⟩
    have g0:=h2 0 (by omega);have g1:=h2 1 (by omega);have g2:=h2 2 (by omega);have g3:=h2 3 (by omega);have g4:=h2 4 (by omega);simp only [Nat.add_zero,← Nat.add_assoc] at g0 g1 g2 g3 g4;exact⟨g,off,k,m,_,_,a1,l1,c1,rfl,World.block_lt_of_cell? w _ g0,g0,g1,g2,g3,g4,h3'⟩
namespace Lx
mutual
def stDepth:St→Nat
 | .mk _ _ _ es b el=>max (max (exsDepth es) (stsDepth b)) (stsDepth el)+1
def stsDepth:List St→Nat
 | []=>0
 | s::l=>max (stDepth s) (stsDepth l)
end
mutual
def stCount:St→Nat
 | .mk _ _ _ _ b el=>stsCount b+stsCount el
def stsCount:List St→Nat
 | []=>0
 | s::l=>1+stCount s+stsCount l
end
/-- The count beyond the length. -/
def inCount:List St→Nat
 | []=>0
 | s::l=>stCount s+inCount l
theorem inCount_snoc (l:List St)(e:St):inCount (l++[e])=inCount l+stCount e:=by
 induction l with
 | nil=>simp [inCount]
 | cons x l ih=>simp only [List.cons_append,inCount,ih];omega
theorem inCount_take (l:List St)(n:Nat):inCount (l.take n)≤inCount l:=by
 induction l generalizing n with
 | nil=>simp [inCount]
 | cons x l ih =>
   cases n with
   | zero=>simp [inCount]
   | succ n=>simp only [List.take_succ_cons,inCount];have:=ih n;omega
theorem inCount_get (l:List St)(n:Nat)(h:n<l.length):stCount l[n]≤inCount l:=by
 induction l generalizing n with
 | nil=>simp at h
 | cons x l ih =>
   cases n with
   | zero=>simp only [List.getElem_cons_zero,inCount];omega
   | succ n=>simp only [List.getElem_cons_succ,inCount];have:=ih n (by simpa using h);omega
theorem stsCount_eq (l:List St):stsCount l=l.length+inCount l:=by
 induction l with
 | nil=>simp [stsCount,inCount]
 | cons x l ih=>simp only [stsCount,inCount,List.length_cons,ih];omega
theorem stsDepth_snoc (l:List St)(e:St):stsDepth (l++[e])=max (stsDepth l) (stDepth e):=by
 induction l with
 | nil=>simp [stsDepth]
 | cons x l ih=>simp only [List.cons_append,stsDepth,ih];omega
theorem stsDepth_take (l:List St)(n:Nat):stsDepth (l.take n)≤stsDepth l:=by
 induction l generalizing n with
 | nil=>simp [stsDepth]
 | cons x l ih =>
   cases n with
   | zero=>simp [stsDepth]
   | succ n=>simp only [List.take_succ_cons,stsDepth];have:=ih n;omega
theorem stsDepth_get (l:List St)(n:Nat)(h:n<l.length):stDepth l[n]≤stsDepth l:=by
 induction l generalizing n with
 | nil=>simp at h
 | cons x l ih =>
   cases n with
   | zero=>simp only [List.getElem_cons_zero,stsDepth];omega
   | succ n=>simp only [List.getElem_cons_succ,stsDepth];have:=ih n (by simpa using h);omega
def methodLim (m:Me):Nat:=if 6<m.params.length∨200<stsCount m.body then 3 else if 32<stsDepth m.body then 15 else 0
/-- The first limit that is hit. -/
def firstLim {α:Type}(f:α→Nat):List α→Nat
 | []=>0
 | x::l=>if f x≠0 then f x else firstLim f l
def classLim (c:Cl):Nat:=if 16<c.fields.length∨16<c.methods.length then 3 else firstLim methodLim c.methods
def sourceLim (l:List Cl):Nat:=if 64<l.length then 3 else firstLim classLim l
theorem firstLim_take {α:Type}(f:α→Nat)(l:List α)(n:Nat)(h:n<l.length)(h0:∀ i (hi:i<n),f (l[i]'(by omega))=0):firstLim f l=if f l[n]≠0 then f l[n] else firstLim f (l.drop (n+1)):=by
 induction l generalizing n with
 | nil=>simp at h
 | cons x l ih =>
   cases n with
   | zero=>simp [firstLim]
   | succ n =>
     have hx:=h0 0 (by omega);simp only [List.getElem_cons_zero] at hx;simp only [firstLim,hx,ne_eq,not_true_eq_false,if_false,List.getElem_cons_succ,List.drop_succ_cons];exact ih n (by simpa using h) (fun i hi=>by have:=h0 (i+1) (by omega);simpa using this)
theorem firstLim_zero {α:Type}(f:α→Nat)(l:List α)(h0:∀ i (hi:i<l.length),f l[i]=0):firstLim f l=0:=by
 induction l with
 | nil=>rfl
 | cons x l ih =>
   have hx:=h0 0 (by simp);simp only [List.getElem_cons_zero] at hx;simp only [firstLim,hx,ne_eq,not_true_eq_false,if_false];exact ih fun i hi=>by have:=h0 (i+1) (by simpa using hi);simpa using this
theorem deep_iff (l:List St):32<stsDepth l↔∃ i,∃ h:i<l.length,32<stDepth l[i]:=by
 induction l with
 | nil=>simp [stsDepth]
 | cons x l ih =>
   simp only [stsDepth];constructor
   ·intro h
    by_cases hx:32<stDepth x
    ·exact⟨0,by simp,hx⟩
    ·obtain⟨i,hi,h2⟩:=ih.1 (by omega);exact⟨i+1,by simpa using hi,by simpa using h2⟩
   ·rintro⟨i,hi,h2⟩;cases i with
    | zero=>simp only [List.getElem_cons_zero] at h2;omega
    | succ i =>
      have:=ih.2 ⟨i,by simpa using hi,by simpa using h2⟩;omega
end Lx
theorem IsList.stAt {A:Nat→Prop}{w:World}{d:Nat}{l:List St}{a:Option Addr}{n c:Nat}(h:IsList A w 6 (IsSt A w d) l (.slice a n c)):n=l.length∧l.length≤maxLen∧∀ i (hi:i<l.length),∃ (g off:Nat) (k1:Int) (nm1 ty1:ByteArray) (a1:Option Addr) (n1 c1:Nat) (a2:Option Addr) (n2 c2:Nat) (a3:Option Addr) (n3 c3:Nat),a=some ⟨g,off,none⟩∧g<w.heap.size∧(w.cell? ⟨g,off+i*6,none⟩=some (.int .i64 k1)∧w.cell? ⟨g,off+i*6+1,none⟩=some (.string nm1)∧w.cell? ⟨g,off+i*6+2,none⟩=some (.string ty1)∧w.cell? ⟨g,off+i*6+3,none⟩=some (.slice a1 n1 c1)∧w.cell? ⟨g,off+i*6+4,none⟩=some (.slice a2 n2 c2)∧w.cell? ⟨g,off+i*6+5,none⟩=some (.slice a3 n3 c3))∧IsSt A w d l[i] [.int .i64 k1,.string nm1,.string ty1,.slice a1 n1 c1,.slice a2 n2 c2,.slice a3 n3 c3]:=by
 obtain⟨hl,⟨rfl,a',c',hv⟩ | ⟨g,off,cp,hv,hA,hc⟩⟩:=h
 ·cases hv;exact⟨rfl,hl,fun i hi=>by simp at hi⟩
 ·cases hv;refine⟨rfl,hl,fun i hi=>?_⟩;obtain⟨cs,h1,h2,h3⟩:=hc i hi;have h3':=h3;generalize l[i]=e at h3 h3';cases d with
  | zero=>exact absurd h3 (by simp [IsSt])
  | succ d =>
    obtain⟨k,nm,ty,es,b,el⟩:=e;obtain⟨v1,v2,v3,rfl,hl1,hl2,hl3⟩:=h3;obtain⟨a1,n1,c1,rfl⟩:∃ a1 l1 c1,v1=.slice a1 l1 c1:=by
     obtain⟨_,⟨_,a,c,rfl⟩ | ⟨g,off,c,rfl,_⟩⟩:=hl1
     ·exact⟨_,_,_,rfl⟩
     ·exact⟨_,_,_,rfl⟩
    obtain⟨a2,n2,c2,rfl⟩:∃ a1 l1 c1,v2=.slice a1 l1 c1:=by
     obtain⟨_,⟨_,a,c,rfl⟩ | ⟨g,off,c,rfl,_⟩⟩:=hl2
     ·exact⟨_,_,_,rfl⟩
     ·exact⟨_,_,_,rfl⟩
    obtain⟨a3,n3,c3,rfl⟩:∃ a1 l1 c1,v3=.slice a1 l1 c1:=by
     obtain⟨_,⟨_,a,c,rfl⟩ | ⟨g,off,c,rfl,_⟩⟩:=hl3
     ·exact⟨_,_,_,rfl⟩
     ·exact⟨_,_,_,rfl⟩
    have g0:=h2 0 (by omega);have g1:=h2 1 (by omega);have g2:=h2 2 (by omega);have g3:=h2 3 (by omega);have g4:=h2 4 (by omega);have g5:=h2 5 (by omega);simp only [Nat.add_zero,← Nat.add_assoc] at g0 g1 g2 g3 g4 g5;exact⟨g,off,k,_,_,a1,n1,c1,a2,n2,c2,a3,n3,c3,rfl,World.block_lt_of_cell? w _ g0,⟨g0,g1,g2,g3,g4,g5⟩,h3'⟩
theorem IsList.meAt {A:Nat→Prop}{w:World}{d:Nat}{l:List Me}{a:Option Addr}{n c:Nat}(h:IsList A w 5 (IsMe A w d) l (.slice a n c)):n=l.length∧l.length≤maxLen∧∀ i (hi:i<l.length),∃ (g off:Nat) (nm1:ByteArray) (sb1:Bool) (a1:Option Addr) (n1 c1:Nat) (rs1:ByteArray) (a2:Option Addr) (n2 c2:Nat),a=some ⟨g,off,none⟩∧g<w.heap.size∧(w.cell? ⟨g,off+i*5,none⟩=some (.string nm1)∧w.cell? ⟨g,off+i*5+1,none⟩=some (.bool sb1)∧w.cell? ⟨g,off+i*5+2,none⟩=some (.slice a1 n1 c1)∧w.cell? ⟨g,off+i*5+3,none⟩=some (.string rs1)∧w.cell? ⟨g,off+i*5+4,none⟩=some (.slice a2 n2 c2))∧IsMe A w d l[i] [.string nm1,.bool sb1,.slice a1 n1 c1,.string rs1,.slice a2 n2 c2]:=by
 obtain⟨hl,⟨rfl,a',c',hv⟩ | ⟨g,off,cp,hv,hA,hc⟩⟩:=h
 ·cases hv;exact⟨rfl,hl,fun i hi=>by simp at hi⟩
 ·cases hv;refine⟨rfl,hl,fun i hi=>?_⟩;obtain⟨cs,h1,h2,h3⟩:=hc i hi;have h3':=h3;generalize l[i]=e at h3 h3'
  ·obtain⟨v1,v2,rfl,hl1,hl2⟩:=h3;obtain⟨a1,n1,c1,rfl⟩:∃ a1 l1 c1,v1=.slice a1 l1 c1:=by
    obtain⟨_,⟨_,a,c,rfl⟩ | ⟨g,off,c,rfl,_⟩⟩:=hl1
    ·exact⟨_,_,_,rfl⟩
    ·exact⟨_,_,_,rfl⟩
   obtain⟨a2,n2,c2,rfl⟩:∃ a1 l1 c1,v2=.slice a1 l1 c1:=by
    obtain⟨_,⟨_,a,c,rfl⟩ | ⟨g,off,c,rfl,_⟩⟩:=hl2
    ·exact⟨_,_,_,rfl⟩
    ·exact⟨_,_,_,rfl⟩
   have g0:=h2 0 (by omega);have g1:=h2 1 (by omega);have g2:=h2 2 (by omega);have g3:=h2 3 (by omega);have g4:=h2 4 (by omega);simp only [Nat.add_zero,← Nat.add_assoc] at g0 g1 g2 g3 g4;exact⟨g,off,_,_,a1,n1,c1,_,a2,n2,c2,rfl,World.block_lt_of_cell? w _ g0,⟨g0,g1,g2,g3,g4⟩,h3'⟩
theorem IsList.clAt {A:Nat→Prop}{w:World}{d:Nat}{l:List Cl}{a:Option Addr}{n c:Nat}(h:IsList A w 4 (IsCl A w d) l (.slice a n c)):n=l.length∧l.length≤maxLen∧∀ i (hi:i<l.length),∃ (g off:Nat) (nm1 sp1:ByteArray) (a1:Option Addr) (n1 c1:Nat) (a2:Option Addr) (n2 c2:Nat),a=some ⟨g,off,none⟩∧g<w.heap.size∧(w.cell? ⟨g,off+i*4,none⟩=some (.string nm1)∧w.cell? ⟨g,off+i*4+1,none⟩=some (.string sp1)∧w.cell? ⟨g,off+i*4+2,none⟩=some (.slice a1 n1 c1)∧w.cell? ⟨g,off+i*4+3,none⟩=some (.slice a2 n2 c2))∧IsCl A w d l[i] [.string nm1,.string sp1,.slice a1 n1 c1,.slice a2 n2 c2]:=by
 obtain⟨hl,⟨rfl,a',c',hv⟩ | ⟨g,off,cp,hv,hA,hc⟩⟩:=h
 ·cases hv;exact⟨rfl,hl,fun i hi=>by simp at hi⟩
 ·cases hv;refine⟨rfl,hl,fun i hi=>?_⟩;obtain⟨cs,h1,h2,h3⟩:=hc i hi;have h3':=h3;generalize l[i]=e at h3 h3'
  ·obtain⟨v1,v2,rfl,hl1,hl2⟩:=h3;obtain⟨a1,n1,c1,rfl⟩:∃ a1 l1 c1,v1=.slice a1 l1 c1:=by
    obtain⟨_,⟨_,a,c,rfl⟩ | ⟨g,off,c,rfl,_⟩⟩:=hl1
    ·exact⟨_,_,_,rfl⟩
    ·exact⟨_,_,_,rfl⟩
   obtain⟨a2,n2,c2,rfl⟩:∃ a1 l1 c1,v2=.slice a1 l1 c1:=by
    obtain⟨_,⟨_,a,c,rfl⟩ | ⟨g,off,c,rfl,_⟩⟩:=hl2
    ·exact⟨_,_,_,rfl⟩
    ·exact⟨_,_,_,rfl⟩
   have g0:=h2 0 (by omega);have g1:=h2 1 (by omega);have g2:=h2 2 (by omega);have g3:=h2 3 (by omega);simp only [Nat.add_zero,← Nat.add_assoc] at g0 g1 g2 g3;exact⟨g,off,_,_,a1,n1,c1,a2,n2,c2,rfl,World.block_lt_of_cell? w _ g0,⟨g0,g1,g2,g3⟩,h3'⟩
theorem IsSt.lists {A:Nat→Prop}{w:World}{d:Nat}{e:St}{k:Int}{nm ty:ByteArray}{v1 v2 v3:Value}(h:IsSt A w (d+1) e [.int .i64 k,.string nm,.string ty,v1,v2,v3]):∃ es b el nm' ty',e=.mk k nm' ty' es b el∧nm=strOf nm'∧ty=strOf ty'∧IsList A w 5 (IsEx A w d) es v1∧IsList A w 6 (IsSt A w d) b v2∧IsList A w 6 (IsSt A w d) el v3:=by
 obtain⟨k',nm',ty',es,b,el⟩:=e;obtain⟨u1,u2,u3,hv,h1,h2,h3⟩:=h;simp only [List.cons.injEq,Value.int.injEq,Value.string.injEq,true_and,and_true] at hv;obtain⟨rfl,rfl,rfl,rfl,rfl,rfl⟩:=hv;exact⟨es,b,el,nm',ty',rfl,rfl,rfl,h1,h2,h3⟩
theorem IsMe.parts {A:Nat→Prop}{w:World}{d:Nat}{m:Me}{nm rs:ByteArray}{sb:Bool}{v1 v2:Value}(h:IsMe A w d m [.string nm,.bool sb,v1,.string rs,v2]):nm=strOf m.name∧sb=m.static∧rs=strOf m.result∧IsList A w 2 IsFld m.params v1∧IsList A w 6 (IsSt A w d) m.body v2:=by
 obtain⟨u1,u2,hv,h1,h2⟩:=h;simp only [List.cons.injEq,Value.bool.injEq,Value.string.injEq,and_true] at hv;obtain⟨rfl,rfl,rfl,rfl,rfl⟩:=hv;exact⟨rfl,rfl,rfl,h1,h2⟩
theorem IsCl.parts {A:Nat→Prop}{w:World}{d:Nat}{m:Cl}{nm sp:ByteArray}{v1 v2:Value}(h:IsCl A w d m [.string nm,.string sp,v1,v2]):nm=strOf m.name∧sp=strOf m.super∧IsList A w 2 IsFld m.fields v1∧IsList A w 5 (IsMe A w d) m.methods v2:=by
 obtain⟨u1,u2,hv,h1,h2⟩:=h;simp only [List.cons.injEq,Value.string.injEq,and_true] at hv;obtain⟨rfl,rfl,rfl,rfl⟩:=hv;exact⟨rfl,rfl,h1,h2⟩
theorem IsList.len {α:Type}{A:Nat→Prop}{w:World}{k:Nat}{P:α→List Value→Prop}{l:List α}{a:Option Addr}{n c:Nat}(h:IsList A w k P l (.slice a n c)):n=l.length∧l.length≤maxLen:=by
 obtain⟨hl,⟨rfl,a',c',hv⟩ | ⟨g,off,cp,hv,hA,hc⟩⟩:=h
 ·cases hv;exact⟨rfl,hl⟩
 ·cases hv;exact⟨rfl,hl⟩
/-- A call that compares: true exactly if P. -/
def SameOut (w:World)(P:Prop)(e:Ending)(w':World):Prop:=Below w.heap.size w w'∧∃ b:Bool,e=.returned (.bool b)∧(b=true↔P)
def SameRel {α:Type}(l1 l2:List α)(w:World)(i:Value)(wr:World):Prop:=∃ n:Nat,n≤l1.length∧i=.int .i64 (n:Int)∧l1.take n=l2.take n∧Below w.heap.size w wr
theorem IsEx.flds {A:Nat→Prop}{w:World}{d:Nat}{e:Ex}{k n:Int}{o m:ByteArray}{v:Value}(h:IsEx A w (d+1) e [.int .i64 k,.int .i64 n,.string o,.string m,v]):∃ oo mm ks,e=.mk k n oo mm ks∧o=strOf oo∧m=strOf mm∧IsList A w 5 (IsEx A w d) ks v:=by
 obtain⟨k',n',o',m',ks⟩:=e;obtain⟨v',hv,hl⟩:=h;simp only [List.cons.injEq,Value.int.injEq,Value.string.injEq,true_and,and_true] at hv;obtain⟨rfl,rfl,rfl,rfl,rfl⟩:=hv;exact⟨o',m',ks,rfl,rfl,rfl,hl⟩
theorem differ {α:Type}{l1 l2:List α}{j:Nat}(h1:j<l1.length)(h2:j<l2.length)(h:l1[j]≠l2[j]):¬ l1=l2:=fun e=>by subst e;exact h rfl
theorem IsList.fldAt {A:Nat→Prop}{w:World}{l:List Fld}{a:Option Addr}{n c:Nat}(h:IsList A w 2 IsFld l (.slice a n c)):n=l.length∧l.length≤maxLen∧∀ i (hi:i<l.length),∃ (g off:Nat),a=some ⟨g,off,none⟩∧g<w.heap.size∧w.cell? ⟨g,off+i*2,none⟩=some (.string (strOf l[i].name))∧w.cell? ⟨g,off+i*2+1,none⟩=some (.string (strOf l[i].typ)):=by
 obtain⟨hl,⟨rfl,a',c',hv⟩ | ⟨g,off,cp,hv,hA,hc⟩⟩:=h
 ·cases hv;exact⟨rfl,hl,fun i hi=>by simp at hi⟩
 ·cases hv;refine⟨rfl,hl,fun i hi=>?_⟩;obtain⟨cs,h1,h2,h3⟩:=hc i hi;unfold IsFld at h3;subst h3;have g0:=h2 0 (by omega);have g1:=h2 1 (by omega);simp only [Nat.add_zero,← Nat.add_assoc] at g0 g1;exact⟨g,off,rfl,World.block_lt_of_cell? w _ g0,g0,g1⟩
theorem Fld.ext' {a b:Fld}(h1:a.name=b.name)(h2:a.typ=b.typ):a=b:=by cases a;cases b;cases h1;cases h2;rfl
theorem IsSt.flds {A:Nat→Prop}{w:World}{d:Nat}{e:St}{k:Int}{nm ty:ByteArray}{v1 v2 v3:Value}(h:IsSt A w (d+1) e [.int .i64 k,.string nm,.string ty,v1,v2,v3]):∃ nn tt es b el,e=.mk k nn tt es b el∧nm=strOf nn∧ty=strOf tt∧IsList A w 5 (IsEx A w d) es v1∧IsList A w 6 (IsSt A w d) b v2∧IsList A w 6 (IsSt A w d) el v3:=by
 obtain⟨es,b,el,nn,tt,h1,h2,h3,h4,h5,h6⟩:=h.lists;exact⟨nn,tt,es,b,el,h1,h2,h3,h4,h5,h6⟩
theorem IsMe.flds {A:Nat→Prop}{w:World}{d:Nat}{e:Me}{nm rs:ByteArray}{sb:Bool}{v1 v2:Value}(h:IsMe A w d e [.string nm,.bool sb,v1,.string rs,v2]):∃ nn rr ps b,e=⟨nn,sb,ps,rr,b⟩∧nm=strOf nn∧rs=strOf rr∧IsList A w 2 IsFld ps v1∧IsList A w 6 (IsSt A w d) b v2:=by
 obtain⟨h1,h2,h3,h4,h5⟩:=h.parts;obtain⟨nn,ss,ps,rr,b⟩:=e;subst h2;exact⟨nn,rr,ps,b,rfl,h1,h3,h4,h5⟩
theorem IsCl.flds {A:Nat→Prop}{w:World}{d:Nat}{e:Cl}{nm sp:ByteArray}{v1 v2:Value}(h:IsCl A w d e [.string nm,.string sp,v1,v2]):∃ nn ss fs ms,e=⟨nn,ss,fs,ms⟩∧nm=strOf nn∧sp=strOf ss∧IsList A w 2 IsFld fs v1∧IsList A w 5 (IsMe A w d) ms v2:=by
 obtain⟨h1,h2,h3,h4⟩:=h.parts;obtain⟨nn,ss,fs,ms⟩:=e;exact⟨nn,ss,fs,ms,rfl,h1,h2,h3,h4⟩
end
section
namespace Lx
/-- The reference's parser: the index of the next token; whether one did not fit. -/
structure RS where
 i:Nat
 bad:Bool
/-- A rule takes the state σ to σ' with the value x (any value, if a token does not fit). -/
def Stp {α:Type}(spec:Nat→PR α)(σ:RS)(x:α)(σ':RS):Prop :=
 (σ.bad=true∧σ'=σ)∨(σ.bad=false∧match spec σ.i with
  | .ok (a,j)=>x=a∧σ'=⟨j,false⟩
  | .error q=>σ'=⟨q,true⟩)
section
variable {α β γ:Type} {σ σ1 σ2:RS} {ts:List Tok}
theorem Stp.pure (a:α)(σ:RS):Stp (fun i=>.ok (a,i)) σ a σ:=by
 obtain⟨i,b⟩:=σ;cases b
 ·exact .inr ⟨rfl,rfl,rfl⟩
 ·exact .inl ⟨rfl,rfl⟩
theorem Stp.bind {s:Nat→PR α}{k:α→Nat→PR β}{x:α}{y:β}(h1:Stp s σ x σ1)(h2:Stp (k x) σ1 y σ2):Stp (fun i=>bindP (s i) k) σ y σ2:=by
 rcases h1 with⟨hb,rfl⟩ | ⟨hb,h1⟩
 ·rcases h2 with⟨_,rfl⟩ | ⟨hb',_⟩
  ·exact .inl ⟨hb,rfl⟩
  ·rw [hb] at hb';cases hb'
 ·refine .inr ⟨hb,?_⟩
  show match bindP (s σ.i) k with
   | .ok (a,j)=>y=a∧σ2=⟨j,false⟩
   | .error q=>σ2=⟨q,true⟩
  cases hs:s σ.i with
  | error q =>
    rw [hs] at h1;subst h1;rcases h2 with⟨_,rfl⟩ | ⟨hb',_⟩
    ·rfl
    ·cases hb'
  | ok p =>
    obtain⟨a,j⟩:=p;rw [hs] at h1;obtain⟨rfl,rfl⟩:=h1;rcases h2 with⟨hb',_⟩ | ⟨_,h2⟩
    ·cases hb'
    ·exact h2
theorem Stp.map {s:Nat→PR α}{f:α→β}{x:α}(h:Stp s σ x σ1):Stp (fun i=>bindP (s i) fun a j=>.ok (f a,j)) σ (f x) σ1:=h.bind (Stp.pure _ _)
theorem Stp.cond {s t:Nat→PR α}{x:α}(h:Stp s σ x σ1)(he:σ.bad=false→t σ.i=s σ.i):Stp t σ x σ1:=by
 rcases h with h | ⟨hb,h⟩
 ·exact .inl h
 ·exact .inr ⟨hb,by rw [he hb];exact h⟩
theorem Stp.failed {s:Nat→PR α}{x:α}(h:Stp s σ x σ1)(h0:σ.bad=false)(hb:σ1.bad=true):s σ.i=.error σ1.i:=by
 rcases h with⟨h1,_⟩ | ⟨_,h⟩
 ·rw [h0] at h1;cases h1
 ·cases hs:s σ.i with
  | error q=>rw [hs] at h;subst h;rfl
  | ok p=>obtain⟨a,j⟩:=p;rw [hs] at h;obtain⟨rfl,rfl⟩:=h;cases hb
end
/-! parentheses that close -/
def opB (ts:List Tok)(i:Nat):Bool:=isT ts i [40]
def clB (ts:List Tok)(i:Nat):Bool:=isT ts i [41]
/-- Whether, n parentheses being open, the last of them closes at the last of m tokens from i on. -/
def closeF (ts:List Tok):Nat→Nat→Nat→Bool
 | 0,_,_=>false
 | m+1,n,i=>if opB ts i then closeF ts m (n+1) (i+1) else if clB ts i then (if n≤1 then m == 0 else closeF ts m (n-1) (i+1)) else closeF ts m n (i+1)
def BalI (ts:List Tok)(i j:Nat):Prop:=i≤j∧∀ n m,0<n→closeF ts (j-i+m) n i=closeF ts m n j
section
variable {ts:List Tok}
theorem BalI.refl (i:Nat):BalI ts i i:=⟨Nat.le_refl _,fun n m _=>by rw [Nat.sub_self,Nat.zero_add]⟩
theorem BalI.trans {i j k:Nat}(h:BalI ts i j)(h':BalI ts j k):BalI ts i k:=⟨Nat.le_trans h.1 h'.1,fun n m hn=>by
 have h1:=h.1;have h2:=h'.1;rw [show k-i+m=j-i+(k-j+m) by omega,h.2 _ _ hn,h'.2 _ _ hn]⟩
theorem BalI.one {i:Nat}(h1:opB ts i=false)(h2:clB ts i=false):BalI ts i (i+1):=⟨by omega,fun n m hn=>by
 rw [show i+1-i+m=m+1 by omega,closeF,h1,h2];rfl⟩
theorem BalI.step {i j:Nat}(h1:opB ts i=false)(h2:clB ts i=false)(h:BalI ts (i+1) j):BalI ts i j:=(BalI.one h1 h2).trans h
theorem cl_op {i:Nat}(h:clB ts i=true):opB ts i=false:=by
 unfold clB isT at h;unfold opB isT;rw [eq_of_beq h];rfl
theorem BalI.paren {i j:Nat}(h1:opB ts i=true)(h:BalI ts (i+1) j)(h2:clB ts j=true):BalI ts i (j+1):=⟨by have:=h.1;omega,fun n m hn=>by
 have h0:=h.1;rw [show j+1-i+m=(j-(i+1)+(m+1))+1 by omega,closeF,h1,if_pos rfl,h.2 _ _ (by omega),closeF,cl_op h2,h2,if_neg (by simp),if_pos rfl,if_neg (by omega)];rfl⟩
/-- The first parenthesis closes at the last token. -/
theorem close_whole {i j:Nat}(h1:opB ts i=true)(h:BalI ts (i+1) j)(h2:clB ts j=true)(k:Nat)(hk:j+1≤k):closeF ts (k-i) 0 i=(k == j+1):=by
 have h0:=h.1;rw [show k-i=(j-(i+1)+(k-(j+1)+1))+1 by omega,closeF,h1,if_pos rfl,h.2 _ _ (by omega),closeF,cl_op h2,h2,if_neg (by simp),if_pos rfl,if_pos (by omega)]
 by_cases e:k=j+1
 ·subst e;simp
 ·rw [beq_eq_false_iff_ne.2 e,beq_eq_false_iff_ne.2 (by omega)]
theorem tok_none {i:Nat}{x:Bytes}(h:isT ts i x=true)(h1:x≠[40])(h2:x≠[41]):opB ts i=false∧clB ts i=false:=by
 unfold isT at h;unfold opB clB isT;rw [eq_of_beq h];exact⟨beq_eq_false_iff_ne.2 h1,beq_eq_false_iff_ne.2 h2⟩
/-- Words and numbers are no marks; keywords and marks have their kinds. -/
structure KT (ts:List Tok):Prop where
 word:∀ i,(tk ts i).kind=1∨(tk ts i).kind=3→opB ts i=false∧clB ts i=false
variable {E:Nat→PR Ex} (hK:KT ts) (hE:∀ i r j,E i=.ok (r,j)→BalI ts i j)
include hE
theorem argsLoop_bal:∀ n acc i r j,argsLoop ts E n acc i=.ok (r,j)→∃ k,BalI ts i k∧clB ts k=true∧j=k+1:=by
 intro n
 induction n with
 | zero=>intro acc i r j h;cases h
 | succ n ih =>
   intro acc i r j h;simp only [argsLoop] at h;split at h
   ·rename_i hc;obtain⟨e,k,h1,h2⟩:=bindP_inv h;obtain⟨k2,h3,h4,h5⟩:=ih _ _ _ _ h2;obtain⟨a,b⟩:=tok_none hc (by decide) (by decide);exact⟨k2,(BalI.step a b (hE _ _ _ h1)).trans h3,h4,h5⟩
   ·obtain⟨_,k,h1,h2⟩:=bindP_inv h;simp only [expectP] at h1;split at h1
    ·rename_i hc;cases h1;cases h2;exact⟨i,BalI.refl _,hc,rfl⟩
    ·cases h1
theorem argsP_bal {i j:Nat}{r:List Ex}(h:argsP ts E i=.ok (r,j)):BalI ts i j:=by
 unfold argsP at h;obtain⟨_,k,h1,h2⟩:=bindP_inv h;simp only [expectP] at h1;split at h1
 ·rename_i ho;cases h1;split at h2
  ·rename_i hc;cases h2;exact BalI.paren ho (BalI.refl _) hc
  ·obtain⟨e,k,h3,h4⟩:=bindP_inv h2;obtain⟨k2,h5,h6,rfl⟩:=argsLoop_bal hE _ _ _ _ _ h4;exact BalI.paren ho ((hE _ _ _ h3).trans h5) h6
 ·cases h1
omit hE in
theorem unitP_bal {i j:Nat}{e:Ex}{r:Ex×Nat}(h:unitP ts i e=.ok (r,j)):BalI ts i j:=by
 unfold unitP at h;obtain⟨_,k,h1,h2⟩:=bindP_inv h;obtain⟨_,k2,h3,h4⟩:=bindP_inv h2;simp only [expectP] at h1 h3;split at h1
 ·rename_i ho;cases h1;split at h3
  ·rename_i hc;cases h3;cases h4;exact BalI.paren ho (BalI.refl _) hc
  ·cases h3
 ·cases h1
omit hE in
include hK in
theorem nameP_bal {i j:Nat}{r:Bytes}(h:nameP ts i=.ok (r,j)):BalI ts i j:=by
 unfold nameP at h;split at h
 ·rename_i hk;cases h;obtain⟨a,b⟩:=hK.word i (.inl hk);exact BalI.one a b
 ·cases h
include hK
/-- How an atom begins and ends. -/
theorem atomP_bal {i j:Nat}{e:Ex}{sh:Nat}(h:atomP ts E i=.ok ((e,sh),j)):BalI ts i j ∧
  ((opB ts i=true∧sh=0∧∃ k,BalI ts (i+1) k∧clB ts k=true∧j=k+1) ∨
   (opB ts i=false∧((sh=0∧e.kind≠3∧e.kind≠8∧e.kind≠9∧e.kind≠10)∨(sh=1∧e.kind=3)∨(sh=3∧e.kind=10)))):=by
 unfold atomP at h;split at h
 ·rename_i hk;obtain⟨a,b⟩:=hK.word i (.inl hk);unfold namedP at h;obtain⟨n,k,h1,h2⟩:=bindP_inv h;split at h2
  ·rename_i hc;obtain⟨m,k2,h3,h4⟩:=bindP_inv h2;obtain⟨ks,k3,h5,h6⟩:=bindP_inv h4;cases h6;obtain⟨a2,b2⟩:=tok_none hc (by decide) (by decide);exact⟨(nameP_bal hK h1).trans ((BalI.step a2 b2 (nameP_bal hK h3)).trans (argsP_bal hE h5)),.inr ⟨a,.inr (.inr ⟨rfl,rfl⟩)⟩⟩
  ·cases h2;exact⟨nameP_bal hK h1,.inr ⟨a,.inr (.inl ⟨rfl,rfl⟩)⟩⟩
 ·rename_i hk1;split at h
  ·rename_i hk;obtain⟨a,b⟩:=hK.word i (.inr hk);cases h;exact⟨BalI.one a b,.inr ⟨a,.inl ⟨rfl,by simp [Ex.kind],by simp [Ex.kind],by simp [Ex.kind],by simp [Ex.kind]⟩⟩⟩
  ·split at h
   ·rename_i hc;obtain⟨a,b⟩:=tok_none hc (by decide) (by decide);unfold minusP at h;split at h
    ·rename_i hm;cases h;obtain⟨a2,b2⟩:=hK.word (i+1) (.inr hm.1);exact⟨BalI.step a b (BalI.one a2 b2),.inr ⟨a,.inl ⟨rfl,by simp [Ex.kind],by simp [Ex.kind],by simp [Ex.kind],by simp [Ex.kind]⟩⟩⟩
    ·cases h
   ·split at h
    ·rename_i hc;obtain⟨a,b⟩:=tok_none hc (by decide) (by decide);cases h;exact⟨BalI.one a b,.inr ⟨a,.inl ⟨rfl,by simp [Ex.kind],by simp [Ex.kind],by simp [Ex.kind],by simp [Ex.kind]⟩⟩⟩
    ·split at h
     ·rename_i hc;obtain⟨a,b⟩:=tok_none hc (by decide) (by decide);cases h;exact⟨BalI.one a b,.inr ⟨a,.inl ⟨rfl,by simp [Ex.kind],by simp [Ex.kind],by simp [Ex.kind],by simp [Ex.kind]⟩⟩⟩
     ·split at h
      ·rename_i hc;obtain⟨a,b⟩:=tok_none hc (by decide) (by decide);have hb:=unitP_bal h;unfold unitP at h;obtain⟨_,k,_,h2⟩:=bindP_inv h;obtain⟨_,k2,_,h4⟩:=bindP_inv h2;cases h4;exact⟨BalI.step a b hb,.inr ⟨a,.inl ⟨rfl,by simp [Ex.kind],by simp [Ex.kind],by simp [Ex.kind],by simp [Ex.kind]⟩⟩⟩
      ·split at h
       ·rename_i hc;obtain⟨a,b⟩:=tok_none hc (by decide) (by decide);obtain⟨n,k0,h0,h⟩:=bindP_inv h;have hb:=unitP_bal h;unfold unitP at h;obtain⟨_,k,_,h2⟩:=bindP_inv h;obtain⟨_,k2,_,h4⟩:=bindP_inv h2;cases h4;exact⟨BalI.step a b ((nameP_bal hK h0).trans hb),.inr ⟨a,.inl ⟨rfl,by simp [Ex.kind],by simp [Ex.kind],by simp [Ex.kind],by simp [Ex.kind]⟩⟩⟩
       ·unfold parenP at h;obtain⟨_,k,h1,h2⟩:=bindP_inv h;obtain⟨e1,k2,h3,h4⟩:=bindP_inv h2;obtain⟨_,k3,h5,h6⟩:=bindP_inv h4;cases h6;simp only [expectP] at h1 h5;split at h1
        ·rename_i ho;cases h1;split at h5
         ·rename_i hc;cases h5;exact⟨BalI.paren ho (hE _ _ _ h3) hc,.inl ⟨ho,rfl,k2,hE _ _ _ h3,hc,rfl⟩⟩
         ·cases h5
        ·cases h1
theorem postLoop_bal:∀ n e sh i e' sh' j,postLoop ts E n e sh i=.ok ((e',sh'),j)→BalI ts i j∧((j=i∧e'=e∧sh'=sh)∨(i<j∧((sh'=2∧e'.kind=8)∨(sh'=3∧e'.kind=9)))):=by
 intro n
 induction n with
 | zero=>intro e sh i e' sh' j h;cases h
 | succ n ih =>
   intro e sh i e' sh' j h;simp only [postLoop] at h;split at h
   ·rename_i hc;obtain⟨a,b⟩:=tok_none hc (by decide) (by decide);obtain⟨m,k,h1,h2⟩:=bindP_inv h;have b1:=BalI.step a b (nameP_bal hK h1);have l1:=nameP_adv h1;split at h2
    ·obtain⟨ks,k2,h3,h4⟩:=bindP_inv h2;have b2:=argsP_bal hE h3;obtain⟨b3,h5⟩:=ih _ _ _ _ _ _ h4;have:=b2.1;refine⟨b1.trans (b2.trans b3),.inr ?_⟩;rcases h5 with⟨rfl,rfl,rfl⟩ | ⟨hl,h5⟩
     ·exact⟨by omega,.inr ⟨rfl,rfl⟩⟩
     ·exact⟨by omega,h5⟩
    ·obtain⟨b3,h5⟩:=ih _ _ _ _ _ _ h2;refine⟨b1.trans b3,.inr ?_⟩;rcases h5 with⟨rfl,rfl,rfl⟩ | ⟨hl,h5⟩
     ·exact⟨by omega,.inl ⟨rfl,rfl⟩⟩
     ·exact⟨by omega,h5⟩
   ·cases h;exact⟨BalI.refl _,.inl ⟨rfl,rfl,rfl⟩⟩
/-- What the reference asks of the shape of what stands ahead of a statement's mark. -/
theorem postP_shape {i j:Nat}{e:Ex}{sh:Nat}(h:postP ts E i=.ok ((e,sh),j)) :
  (sh=1↔e.kind=3∧opB ts i=false)∧(sh=2↔e.kind=8∧(opB ts i && closeF ts (j-i) 0 i)=false)∧(sh=3↔(e.kind=9∨e.kind=10)∧(opB ts i && closeF ts (j-i) 0 i)=false):=by
 unfold postP at h;obtain⟨⟨e0,s0⟩,k,h1,h2⟩:=bindP_inv h;obtain⟨_,ha⟩:=atomP_bal hK hE h1;obtain⟨_,hp⟩:=postLoop_bal hK hE _ _ _ _ _ _ _ h2;rcases ha with⟨ho,hs,k0,hb,hc,rfl⟩ | ⟨ho,ha⟩
 ·rw [close_whole ho hb hc j (by rcases hp with⟨rfl,_⟩ | ⟨hl,_⟩ <;> omega),ho];simp only at hs hp;rcases hp with⟨rfl,rfl,rfl⟩ | ⟨hl,hp⟩
  ·simp [hs]
  ·have:(j == k0+1)=false:=beq_eq_false_iff_ne.2 (by omega);rw [this];rcases hp with⟨rfl,hk⟩ | ⟨rfl,hk⟩ <;> simp [hk]
 ·rw [ho];simp only at hp;rcases hp with⟨rfl,rfl,rfl⟩ | ⟨hl,hp⟩
  ·rcases ha with⟨rfl,h3,h8,h9,h10⟩ | ⟨rfl,h3⟩ | ⟨rfl,h3⟩
   ·simp [h3,h8,h9,h10]
   ·simp [h3]
   ·simp [h3]
  ·rcases hp with⟨rfl,hk⟩ | ⟨rfl,hk⟩ <;> simp [hk]
end
end Lx
end
section
open Lx Ax Go.RowKit
mutual
theorem puE:∀ e:Ex,puL (cvE e)=true
 | .mk k n o m ks=>by rw [cvE_mk];simp [puL,puV,puEs ks]
theorem puEs:∀ l:List Ex,puR (l.map cvE)=true
 | []=>rfl
 | e::l=>by simp [puR,puE e,puEs l]
end
mutual
theorem puS:∀ s:St,puL (cvS s)=true
 | .mk k nm ty es b el=>by rw [cvS_mk];simp [puL,puV,puEs es,puSs b,puSs el]
theorem puSs:∀ l:List St,puR (l.map cvS)=true
 | []=>rfl
 | e::l=>by simp [puR,puS e,puSs l]
end
theorem puRm {α:Type}{cv:α→List CV}(h:∀ a,puL (cv a)=true)(l:List α):puR (l.map cv)=true:=by
 induction l with
 | nil=>rfl
 | cons a l ih=>simp [puR,h a,ih]
theorem puF (f:Fld):puL (cvF f)=true:=rfl
theorem puM (m:Me):puL (cvM m)=true:=by simp [cvM,puL,puV,puRm puF,puSs]
theorem puC (c:Cl):puL (cvC c)=true:=by simp [cvC,puL,puV,puRm puF,puRm puM]
theorem cvE_eq (e:Ex):cvE e=[.int .i64 e.kind,.int .i64 e.n,.str e.of,.str e.name,.lst (e.kids.map cvE)]:=by cases e;rw [cvE_mk];rfl
theorem exk (k n:Int)(o m:Bytes)(ks:List Ex):Ex.kind (.mk k n o m ks)=k:=rfl
theorem exn (k n:Int)(o m:Bytes)(ks:List Ex):Ex.n (.mk k n o m ks)=n:=rfl
theorem exo (k n:Int)(o m:Bytes)(ks:List Ex):Ex.of (.mk k n o m ks)=o:=rfl
theorem exm (k n:Int)(o m:Bytes)(ks:List Ex):Ex.name (.mk k n o m ks)=m:=rfl
theorem exks (k n:Int)(o m:Bytes)(ks:List Ex):Ex.kids (.mk k n o m ks)=ks:=rfl
theorem drR {α:Type}(f:Nat→α)(k:Nat):List.drop k (List.map f (List.range k))=[]:=by simp
def Lx.St.p0:St→Int | .mk k _ _ _ _ _=>k
def Lx.St.p1:St→Bytes | .mk _ n _ _ _ _=>n
def Lx.St.p2:St→Bytes | .mk _ _ t _ _ _=>t
def Lx.St.p3:St→List Ex | .mk _ _ _ e _ _=>e
def Lx.St.p4:St→List St | .mk _ _ _ _ b _=>b
def Lx.St.p5:St→List St | .mk _ _ _ _ _ l=>l
theorem cvS_eq (s:St):cvS s=[.int .i64 s.p0,.str s.p1,.str s.p2,.lst (s.p3.map cvE),.lst (s.p4.map cvS),.lst (s.p5.map cvS)]:=by cases s;rw [cvS_mk];rfl
def maxI (x y:Int):Int:=if y > x then y else x
theorem bl_len {H:Heap}{t:TypeId}{x:CV}:bltA Tryz.prog H .len [t] [x]=lenA Tryz.prog H t x:=rfl
theorem bl_max {H:Heap}{t:List TypeId}{k k':IntKind}{x y:Int}:bltA Tryz.prog H .max t [.int k x,.int k' y]=some (.int k (maxI x y)):=rfl
theorem up1 {i n:Nat}(h:i<n)(hn:n≤9223372036854775807):IntKind.i64.wrap ((i:Int)+1)=(i:Int)+1:=by rw [IntKind.wrap_i64];omega
theorem cvC_eq (c:Cl):cvC c=[.str c.name,.str c.super,.lst (c.fields.map cvF),.lst (c.methods.map cvM)]:=rfl
theorem cvM_eq (m:Me):cvM m=[.str m.name,.bool m.static,.lst (m.params.map cvF),.str m.result,.lst (m.body.map cvS)]:=rfl
theorem cvF_eq (f:Fld):cvF f=[.str f.name,.str f.typ]:=rfl
section
variable {P:Program} {G:Nat→CV} {n:Nat} {e:Env} {H:Heap} {nx nx0 kp ne:Nat} {Q:AExit→Env→Heap→Nat→Prop} {ops:Array Oper} {os:List Oper} {d:Option Nat} {ty t u:TypeId} {pos:String} {af:Array Edge} {K:Env→Heap→Nat→Prop} {x y:Operand} {a b:Bytes}
theorem cat_q (hx:rd G e x=.str a)(hy:rd G e y=.str b)(hl:a.length+b.length≤9223372036854775807):qstep P H (rd G e) (.binOp .add t x y u)=some (.str (a++b)):=by
 have h:Nat.ble (a.length+b.length) 9223372036854775807=true:=Nat.ble_eq.mpr hl;simp only [qstep,hx,hy,binA,strA,h]
/-- Two strings put together. -/
theorem AOpl.cat (hx:rd G e x=.str a)(hy:rd G e y=.str b)(hl:a.length+b.length≤9223372036854775807)(h:AOpl P G n ops os (putE e d (.str (a++b))) H nx Q)(hd:okD n d=true:=by exact rfl):AOpl P G n ops (⟨d,.binOp .add t x y u,ty,pos,af,none⟩::os) e H nx Q :=
 AOpl.step hd (c:=.str (a++b)) (H':=H) (nx':=nx) (by unfold stepS;rw [cat_q hx hy hl]) h
theorem ASl.cat (hx:rd G e x=.str a)(hy:rd G e y=.str b)(hl:a.length+b.length≤9223372036854775807)(h:ASl P G nx0 (kp+1) ops os (putE e d (.str (a++b))) H ne K):ASl P G nx0 kp ops (⟨d,.binOp .add t x y u,ty,pos,af,none⟩::os) e H ne K :=
 ASl.step (c:=.str (a++b)) (H':=H) (ne':=ne) (by unfold Ax.stepT;rw [cat_q hx hy hl]) h
end
/-- All steps, strings put together among them. -/
theorem gV {X X':Prop}(k:X')(f:Hd X'→X:=by
 intro h
 repeat (first | refine AOpl.cat (by simp [*];rfl) (by simp [*];rfl) (by (try simp only [List.length_append,List.length_cons,List.length_nil]);omega) ?_ | refine ASl.cat (by simp [*];rfl) (by simp [*];rfl) (by (try simp only [List.length_append,List.length_cons,List.length_nil]);omega) ?_ | (first | (apply AOpl.step;rfl) | apply ASl.step);focus simp [*,-Option.some.injEq];rfl | (first | (apply AOpl.stepG;rfl) | apply ASl.stepG);(focus simp [*];done);focus simp [*,-Option.some.injEq];rfl | (first | (apply AOpl.pass;rfl) | apply ASl.pass);(focus simp [*];done) | (first | refine AOpl.nil ?_ | refine AWp.skip ?_ | refine AWp.exit ?_ | refine AWp.ret ?_ | refine ASl.nil ?_);try simp only [Then,InBlock,reduceIte,Nat.reduceEqDiff] | refine AWp.seq ?_ | refine AWp.reg rfl ?_ | refine AWp.block ?_ | apply AWp.condT;focus simp [*];done | apply AWp.condF;focus simp [*];done | refine AWp.regT (by kernel_rfl) (by kernel_rfl) rfl rfl ?_)
 exact h.out):X:=f ⟨k⟩
end
end Go.Proofs.YtmlafcimjhnhhaaGreatDoor
