/-
  Trees that are only read: depths, counts, items of lists laid open.
-/
import Derived.Test.YtmlafcimjhnhhaaDoorJlParTree
import Derived.Test.YtmlafcimjhnhhaaDoorJlJpAo
set_option linter.unusedSectionVars false
set_option linter.unusedSimpArgs false
set_option linter.unnecessarySimpa false
set_option linter.unusedVariables false
namespace Go.Proofs.YtmlafcimjhnhhaaDoor
section
open Lx Go.RowKit
namespace Lx
mutual
def exDepth:Ex→Nat
 | .mk _ _ _ _ ks=>exsDepth ks+1
def exsDepth:List Ex→Nat
 | []=>0
 | e::es=>max (exDepth e) (exsDepth es)
end
end Lx
theorem below_drew (w:World):Below w.heap.size w w.drew:=(Below.refl _ _).drew
theorem KeptA.of_below {A:Nat→Prop}{w w':World}(h:Below w.heap.size w w'):KeptA A w w':=fun g _ hg=>h.block g hg
theorem kept_alloc {A:Nat→Prop}(w:World)(o:Obj):KeptA A w (w.alloc o):=.of_below ((Below.refl _ _).alloc (Nat.le_refl _) o)
abbrev Any:Nat→Prop:=fun _=>True
theorem kept_any {w w':World}(h:Below w.heap.size w w'):KeptA Any w w':=.of_below h
/-- An item of a list of expressions, laid open. -/
theorem IsList.exAt {A:Nat→Prop}{w:World}{d:Nat}{l:List Ex}{a:Option Addr}{n c:Nat}(h:IsList A w 5 (IsEx A w d) l (.slice a n c)):n=l.length∧l.length≤maxLen∧∀ i (hi:i<l.length),∃ (g off:Nat) (k m:Int) (o nm:ByteArray) (a1:Option Addr) (n1 c1:Nat),a=some ⟨g,off,none⟩∧g<w.heap.size ∧
  w.cell? ⟨g,off+i*5,none⟩=some (.int .i64 k)∧w.cell? ⟨g,off+i*5+1,none⟩=some (.int .i64 m)∧w.cell? ⟨g,off+i*5+2,none⟩=some (.string o)∧w.cell? ⟨g,off+i*5+3,none⟩=some (.string nm)∧w.cell? ⟨g,off+i*5+4,none⟩=some (.slice a1 n1 c1) ∧
  IsEx A w d l[i] [.int .i64 k,.int .i64 m,.string o,.string nm,.slice a1 n1 c1]:=by
 obtain⟨hl,⟨rfl,a',c',hv⟩ | ⟨g,off,cp,hv,hA,hc⟩⟩:=h
 ·cases hv;exact⟨rfl,hl,fun i hi=>by simp at hi⟩
 ·cases hv;refine⟨rfl,hl,fun i hi=>?_⟩;obtain⟨cs,h1,h2,h3⟩:=hc i hi;have h3':=h3;generalize l[i]=e at h3 h3';cases d with
  | zero=>exact absurd h3 (by simp [IsEx])
  | succ d =>
    obtain⟨k,m,o,nm,ks⟩:=e;obtain⟨v,rfl,hl2⟩:=h3;obtain⟨a1,l1,c1,rfl⟩:∃ a1 l1 c1,v=.slice a1 l1 c1:=by
     obtain⟨_,⟨_,a,c,rfl⟩ | ⟨g,off,c,rfl,_⟩⟩:=hl2
     ·exact⟨_,_,_,rfl⟩
     ·exact⟨_,_,_,rfl⟩
    have g0:=h2 0 (by omega);have g1:=h2 1 (by omega);have g2:=h2 2 (by omega);have g3:=h2 3 (by omega);have g4:=h2 4 (by omega);simp only [Nat.add_zero,← Nat.add_assoc] at g0 g1 g2 g3 g4;exact⟨g,off,k,m,_,_,a1,l1,c1,rfl,World.block_lt_of_cell? w _ g0,g0,g1,g2,g3,g4,h3'⟩
namespace Lx
mutual
def stDepth:St→Nat
 | .mk _ _ _ es b el=>max (max (exsDepth es) (stsDepth b)) (stsDepth el)+1
def stsDepth:List St→Nat
 | []=>0
 | s::l=>max (stDepth s) (stsDepth l)
end
mutual
def stCount:St→Nat
 | .mk _ _ _ _ b el=>stsCount b+stsCount el
def stsCount:List St→Nat
 | []=>0
 | s::l=>1+stCount s+stsCount l
end
/-- The count beyond the length. -/
def inCount:List St→Nat
 | []=>0
 | s::l=>stCount s+inCount l
theorem inCount_snoc (l:List St)(e:St):inCount (l++[e])=inCount l+stCount e:=by
 induction l with
 | nil=>simp [inCount]
 | cons x l ih=>simp only [List.cons_append,inCount,ih];omega
theorem stsCount_eq (l:List St):stsCount l=l.length+inCount l:=by
 induction l with
 | nil=>simp [stsCount,inCount]
 | cons x l ih=>simp only [stsCount,inCount,List.length_cons,ih];omega
def methodLim (m:Me):Nat:=if 6<m.params.length∨200<stsCount m.body then 3 else if 32<stsDepth m.body then 15 else 0
/-- The first limit that is hit. -/
def firstLim {α:Type}(f:α→Nat):List α→Nat
 | []=>0
 | x::l=>if f x≠0 then f x else firstLim f l
def classLim (c:Cl):Nat:=if 16<c.fields.length∨16<c.methods.length then 3 else firstLim methodLim c.methods
def sourceLim (l:List Cl):Nat:=if 64<l.length then 3 else firstLim classLim l
theorem firstLim_take {α:Type}(f:α→Nat)(l:List α)(n:Nat)(h:n<l.length)(h0:∀ i (hi:i<n),f (l[i]'(by omega))=0):firstLim f l=if f l[n]≠0 then f l[n] else firstLim f (l.drop (n+1)):=by
 induction l generalizing n with
 | nil=>simp at h
 | cons x l ih =>
   cases n with
   | zero=>simp [firstLim]
   | succ n =>
     have hx:=h0 0 (by omega);simp only [List.getElem_cons_zero] at hx;simp only [firstLim,hx,ne_eq,not_true_eq_false,if_false,List.getElem_cons_succ,List.drop_succ_cons];exact ih n (by simpa using h) (fun i hi=>by have:=h0 (i+1) (by omega);simpa using this)
theorem firstLim_zero {α:Type}(f:α→Nat)(l:List α)(h0:∀ i (hi:i<l.length),f l[i]=0):firstLim f l=0:=by
 induction l with
 | nil=>rfl
 | cons x l ih =>
   have hx:=h0 0 (by simp);simp only [List.getElem_cons_zero] at hx;simp only [firstLim,hx,ne_eq,not_true_eq_false,if_false];exact ih fun i hi=>by have:=h0 (i+1) (by simpa using hi);simpa using this
end Lx
theorem IsList.stAt {A:Nat→Prop}{w:World}{d:Nat}{l:List St}{a:Option Addr}{n c:Nat}(h:IsList A w 6 (IsSt A w d) l (.slice a n c)):n=l.length∧l.length≤maxLen∧∀ i (hi:i<l.length),∃ (g off:Nat) (k1:Int) (nm1 ty1:ByteArray) (a1:Option Addr) (n1 c1:Nat) (a2:Option Addr) (n2 c2:Nat) (a3:Option Addr) (n3 c3:Nat),a=some ⟨g,off,none⟩∧g<w.heap.size∧(w.cell? ⟨g,off+i*6,none⟩=some (.int .i64 k1)∧w.cell? ⟨g,off+i*6+1,none⟩=some (.string nm1)∧w.cell? ⟨g,off+i*6+2,none⟩=some (.string ty1)∧w.cell? ⟨g,off+i*6+3,none⟩=some (.slice a1 n1 c1)∧w.cell? ⟨g,off+i*6+4,none⟩=some (.slice a2 n2 c2)∧w.cell? ⟨g,off+i*6+5,none⟩=some (.slice a3 n3 c3))∧IsSt A w d l[i] [.int .i64 k1,.string nm1,.string ty1,.slice a1 n1 c1,.slice a2 n2 c2,.slice a3 n3 c3]:=by
 obtain⟨hl,⟨rfl,a',c',hv⟩ | ⟨g,off,cp,hv,hA,hc⟩⟩:=h
 ·cases hv;exact⟨rfl,hl,fun i hi=>by simp at hi⟩
 ·cases hv;refine⟨rfl,hl,fun i hi=>?_⟩;obtain⟨cs,h1,h2,h3⟩:=hc i hi;have h3':=h3;generalize l[i]=e at h3 h3';cases d with
  | zero=>exact absurd h3 (by simp [IsSt])
  | succ d =>
    obtain⟨k,nm,ty,es,b,el⟩:=e;obtain⟨v1,v2,v3,rfl,hl1,hl2,hl3⟩:=h3;obtain⟨a1,n1,c1,rfl⟩:∃ a1 l1 c1,v1=.slice a1 l1 c1:=by
     obtain⟨_,⟨_,a,c,rfl⟩ | ⟨g,off,c,rfl,_⟩⟩:=hl1
     ·exact⟨_,_,_,rfl⟩
     ·exact⟨_,_,_,rfl⟩
    obtain⟨a2,n2,c2,rfl⟩:∃ a1 l1 c1,v2=.slice a1 l1 c1:=by
     obtain⟨_,⟨_,a,c,rfl⟩ | ⟨g,off,c,rfl,_⟩⟩:=hl2
     ·exact⟨_,_,_,rfl⟩
     ·exact⟨_,_,_,rfl⟩
    obtain⟨a3,n3,c3,rfl⟩:∃ a1 l1 c1,v3=.slice a1 l1 c1:=by
     obtain⟨_,⟨_,a,c,rfl⟩ | ⟨g,off,c,rfl,_⟩⟩:=hl3
     ·exact⟨_,_,_,rfl⟩
     ·exact⟨_,_,_,rfl⟩
    have g0:=h2 0 (by omega);have g1:=h2 1 (by omega);have g2:=h2 2 (by omega);have g3:=h2 3 (by omega);have g4:=h2 4 (by omega);have g5:=h2 5 (by omega);simp only [Nat.add_zero,← Nat.add_assoc] at g0 g1 g2 g3 g4 g5;exact⟨g,off,k,_,_,a1,n1,c1,a2,n2,c2,a3,n3,c3,rfl,World.block_lt_of_cell? w _ g0,⟨g0,g1,g2,g3,g4,g5⟩,h3'⟩
theorem IsList.meAt {A:Nat→Prop}{w:World}{d:Nat}{l:List Me}{a:Option Addr}{n c:Nat}(h:IsList A w 5 (IsMe A w d) l (.slice a n c)):n=l.length∧l.length≤maxLen∧∀ i (hi:i<l.length),∃ (g off:Nat) (nm1:ByteArray) (sb1:Bool) (a1:Option Addr) (n1 c1:Nat) (rs1:ByteArray) (a2:Option Addr) (n2 c2:Nat),a=some ⟨g,off,none⟩∧g<w.heap.size∧(w.cell? ⟨g,off+i*5,none⟩=some (.string nm1)∧w.cell? ⟨g,off+i*5+1,none⟩=some (.bool sb1)∧w.cell? ⟨g,off+i*5+2,none⟩=some (.slice a1 n1 c1)∧w.cell? ⟨g,off+i*5+3,none⟩=some (.string rs1)∧w.cell? ⟨g,off+i*5+4,none⟩=some (.slice a2 n2 c2))∧IsMe A w d l[i] [.string nm1,.bool sb1,.slice a1 n1 c1,.string rs1,.slice a2 n2 c2]:=by
 obtain⟨hl,⟨rfl,a',c',hv⟩ | ⟨g,off,cp,hv,hA,hc⟩⟩:=h
 ·cases hv;exact⟨rfl,hl,fun i hi=>by simp at hi⟩
 ·cases hv;refine⟨rfl,hl,fun i hi=>?_⟩;obtain⟨cs,h1,h2,h3⟩:=hc i hi;have h3':=h3;generalize l[i]=e at h3 h3'
  ·obtain⟨v1,v2,rfl,hl1,hl2⟩:=h3;obtain⟨a1,n1,c1,rfl⟩:∃ a1 l1 c1,v1=.slice a1 l1 c1:=by
    obtain⟨_,⟨_,a,c,rfl⟩ | ⟨g,off,c,rfl,_⟩⟩:=hl1
    ·exact⟨_,_,_,rfl⟩
    ·exact⟨_,_,_,rfl⟩
   obtain⟨a2,n2,c2,rfl⟩:∃ a1 l1 c1,v2=.slice a1 l1 c1:=by
    obtain⟨_,⟨_,a,c,rfl⟩ | ⟨g,off,c,rfl,_⟩⟩:=hl2
    ·exact⟨_,_,_,rfl⟩
    ·exact⟨_,_,_,rfl⟩
   have g0:=h2 0 (by omega);have g1:=h2 1 (by omega);have g2:=h2 2 (by omega);have g3:=h2 3 (by omega);have g4:=h2 4 (by omega);simp only [Nat.add_zero,← Nat.add_assoc] at g0 g1 g2 g3 g4;exact⟨g,off,_,_,a1,n1,c1,_,a2,n2,c2,rfl,World.block_lt_of_cell? w _ g0,⟨g0,g1,g2,g3,g4⟩,h3'⟩
theorem IsList.clAt {A:Nat→Prop}{w:World}{d:Nat}{l:List Cl}{a:Option Addr}{n c:Nat}(h:IsList A w 4 (IsCl A w d) l (.slice a n c)):n=l.length∧l.length≤maxLen∧∀ i (hi:i<l.length),∃ (g off:Nat) (nm1 sp1:ByteArray) (a1:Option Addr) (n1 c1:Nat) (a2:Option Addr) (n2 c2:Nat),a=some ⟨g,off,none⟩∧g<w.heap.size∧(w.cell? ⟨g,off+i*4,none⟩=some (.string nm1)∧w.cell? ⟨g,off+i*4+1,none⟩=some (.string sp1)∧w.cell? ⟨g,off+i*4+2,none⟩=some (.slice a1 n1 c1)∧w.cell? ⟨g,off+i*4+3,none⟩=some (.slice a2 n2 c2))∧IsCl A w d l[i] [.string nm1,.string sp1,.slice a1 n1 c1,.slice a2 n2 c2]:=by
 obtain⟨hl,⟨rfl,a',c',hv⟩ | ⟨g,off,cp,hv,hA,hc⟩⟩:=h
 ·cases hv;exact⟨rfl,hl,fun i hi=>by simp at hi⟩
 ·cases hv;refine⟨rfl,hl,fun i hi=>?_⟩;obtain⟨cs,h1,h2,h3⟩:=hc i hi;have h3':=h3;generalize l[i]=e at h3 h3'
  ·obtain⟨v1,v2,rfl,hl1,hl2⟩:=h3;obtain⟨a1,n1,c1,rfl⟩:∃ a1 l1 c1,v1=.slice a1 l1 c1:=by
    obtain⟨_,⟨_,a,c,rfl⟩ | ⟨g,off,c,rfl,_⟩⟩:=hl1
    ·exact⟨_,_,_,rfl⟩
    ·exact⟨_,_,_,rfl⟩
   obtain⟨a2,n2,c2,rfl⟩:∃ a1 l1 c1,v2=.slice a1 l1 c1:=by
    obtain⟨_,⟨_,a,c,rfl⟩ | ⟨g,off,c,rfl,_⟩⟩:=hl2
    ·exact⟨_,_,_,rfl⟩
    ·exact⟨_,_,_,rfl⟩
   have g0:=h2 0 (by omega);have g1:=h2 1 (by omega);have g2:=h2 2 (by omega);have g3:=h2 3 (by omega);simp only [Nat.add_zero,← Nat.add_assoc] at g0 g1 g2 g3;exact⟨g,off,_,_,a1,n1,c1,a2,n2,c2,rfl,World.block_lt_of_cell? w _ g0,⟨g0,g1,g2,g3⟩,h3'⟩
theorem IsSt.lists {A:Nat→Prop}{w:World}{d:Nat}{e:St}{k:Int}{nm ty:ByteArray}{v1 v2 v3:Value}(h:IsSt A w (d+1) e [.int .i64 k,.string nm,.string ty,v1,v2,v3]):∃ es b el nm' ty',e=.mk k nm' ty' es b el∧nm=strOf nm'∧ty=strOf ty'∧IsList A w 5 (IsEx A w d) es v1∧IsList A w 6 (IsSt A w d) b v2∧IsList A w 6 (IsSt A w d) el v3:=by
 obtain⟨k',nm',ty',es,b,el⟩:=e;obtain⟨u1,u2,u3,hv,h1,h2,h3⟩:=h;simp only [List.cons.injEq,Value.int.injEq,Value.string.injEq,true_and,and_true] at hv;obtain⟨rfl,rfl,rfl,rfl,rfl,rfl⟩:=hv;exact⟨es,b,el,nm',ty',rfl,rfl,rfl,h1,h2,h3⟩
theorem IsMe.parts {A:Nat→Prop}{w:World}{d:Nat}{m:Me}{nm rs:ByteArray}{sb:Bool}{v1 v2:Value}(h:IsMe A w d m [.string nm,.bool sb,v1,.string rs,v2]):nm=strOf m.name∧sb=m.static∧rs=strOf m.result∧IsList A w 2 IsFld m.params v1∧IsList A w 6 (IsSt A w d) m.body v2:=by
 obtain⟨u1,u2,hv,h1,h2⟩:=h;simp only [List.cons.injEq,Value.bool.injEq,Value.string.injEq,and_true] at hv;obtain⟨rfl,rfl,rfl,rfl,rfl⟩:=hv;exact⟨rfl,rfl,rfl,h1,h2⟩
theorem IsCl.parts {A:Nat→Prop}{w:World}{d:Nat}{m:Cl}{nm sp:ByteArray}{v1 v2:Value}(h:IsCl A w d m [.string nm,.string sp,v1,v2]):nm=strOf m.name∧sp=strOf m.super∧IsList A w 2 IsFld m.fields v1∧IsList A w 5 (IsMe A w d) m.methods v2:=by
 obtain⟨u1,u2,hv,h1,h2⟩:=h;simp only [List.cons.injEq,Value.string.injEq,and_true] at hv;obtain⟨rfl,rfl,rfl,rfl⟩:=hv;exact⟨rfl,rfl,h1,h2⟩
theorem IsList.len {α:Type}{A:Nat→Prop}{w:World}{k:Nat}{P:α→List Value→Prop}{l:List α}{a:Option Addr}{n c:Nat}(h:IsList A w k P l (.slice a n c)):n=l.length∧l.length≤maxLen:=by
 obtain⟨hl,⟨rfl,a',c',hv⟩ | ⟨g,off,cp,hv,hA,hc⟩⟩:=h
 ·cases hv;exact⟨rfl,hl⟩
 ·cases hv;exact⟨rfl,hl⟩
theorem IsEx.flds {A:Nat→Prop}{w:World}{d:Nat}{e:Ex}{k n:Int}{o m:ByteArray}{v:Value}(h:IsEx A w (d+1) e [.int .i64 k,.int .i64 n,.string o,.string m,v]):∃ oo mm ks,e=.mk k n oo mm ks∧o=strOf oo∧m=strOf mm∧IsList A w 5 (IsEx A w d) ks v:=by
 obtain⟨k',n',o',m',ks⟩:=e;obtain⟨v',hv,hl⟩:=h;simp only [List.cons.injEq,Value.int.injEq,Value.string.injEq,true_and,and_true] at hv;obtain⟨rfl,rfl,rfl,rfl,rfl⟩:=hv;exact⟨o',m',ks,rfl,rfl,rfl,hl⟩
theorem differ {α:Type}{l1 l2:List α}{j:Nat}(h1:j<l1.length)(h2:j<l2.length)(h:l1[j]≠l2[j]):¬ l1=l2:=fun e=>by subst e;exact h rfl
theorem IsList.fldAt {A:Nat→Prop}{w:World}{l:List Fld}{a:Option Addr}{n c:Nat}(h:IsList A w 2 IsFld l (.slice a n c)):n=l.length∧l.length≤maxLen∧∀ i (hi:i<l.length),∃ (g off:Nat),a=some ⟨g,off,none⟩∧g<w.heap.size∧w.cell? ⟨g,off+i*2,none⟩=some (.string (strOf l[i].name))∧w.cell? ⟨g,off+i*2+1,none⟩=some (.string (strOf l[i].typ)):=by
 obtain⟨hl,⟨rfl,a',c',hv⟩ | ⟨g,off,cp,hv,hA,hc⟩⟩:=h
 ·cases hv;exact⟨rfl,hl,fun i hi=>by simp at hi⟩
 ·cases hv;refine⟨rfl,hl,fun i hi=>?_⟩;obtain⟨cs,h1,h2,h3⟩:=hc i hi;unfold IsFld at h3;subst h3;have g0:=h2 0 (by omega);have g1:=h2 1 (by omega);simp only [Nat.add_zero,← Nat.add_assoc] at g0 g1;exact⟨g,off,rfl,World.block_lt_of_cell? w _ g0,g0,g1⟩
theorem Fld.ext' {a b:Fld}(h1:a.name=b.name)(h2:a.typ=b.typ):a=b:=by cases a;cases b;cases h1;cases h2;rfl
theorem IsSt.flds {A:Nat→Prop}{w:World}{d:Nat}{e:St}{k:Int}{nm ty:ByteArray}{v1 v2 v3:Value}(h:IsSt A w (d+1) e [.int .i64 k,.string nm,.string ty,v1,v2,v3]):∃ nn tt es b el,e=.mk k nn tt es b el∧nm=strOf nn∧ty=strOf tt∧IsList A w 5 (IsEx A w d) es v1∧IsList A w 6 (IsSt A w d) b v2∧IsList A w 6 (IsSt A w d) el v3:=by
 obtain⟨es,b,el,nn,tt,h1,h2,h3,h4,h5,h6⟩:=h.lists;exact⟨nn,tt,es,b,el,h1,h2,h3,h4,h5,h6⟩
theorem IsMe.flds {A:Nat→Prop}{w:World}{d:Nat}{e:Me}{nm rs:ByteArray}{sb:Bool}{v1 v2:Value}(h:IsMe A w d e [.string nm,.bool sb,v1,.string rs,v2]):∃ nn rr ps b,e=⟨nn,sb,ps,rr,b⟩∧nm=strOf nn∧rs=strOf rr∧IsList A w 2 IsFld ps v1∧IsList A w 6 (IsSt A w d) b v2:=by
 obtain⟨h1,h2,h3,h4,h5⟩:=h.parts;obtain⟨nn,ss,ps,rr,b⟩:=e;subst h2;exact⟨nn,rr,ps,b,rfl,h1,h3,h4,h5⟩
theorem IsCl.flds {A:Nat→Prop}{w:World}{d:Nat}{e:Cl}{nm sp:ByteArray}{v1 v2:Value}(h:IsCl A w d e [.string nm,.string sp,v1,v2]):∃ nn ss fs ms,e=⟨nn,ss,fs,ms⟩∧nm=strOf nn∧sp=strOf ss∧IsList A w 2 IsFld fs v1∧IsList A w 5 (IsMe A w d) ms v2:=by
 obtain⟨h1,h2,h3,h4⟩:=h.parts;obtain⟨nn,ss,fs,ms⟩:=e;exact⟨nn,ss,fs,ms,rfl,h1,h2,h3,h4⟩
end
section
open Lx Go.RowKit
set_option maxHeartbeats 1000000 in
theorem ref_end_word (s:ByteArray)(p:Nat)(w:World)(hs:s.size≤65536)(hp:p<s.size)(hl:isLetter s[p]=true):Calls Tryd.prog 42 #[.string s,.int .i64 (p:Int)] w fun e w'=>e=.returned (.int .i64 ((p+spanOf isPart (s.data.toList.drop p):Nat):Int))∧w=w':=by
 have HLT:=Lib.hid hl;clear hl;go_enter Tryd.func42,Tryd.ntmps42;go_wp2_with fail;refine (ref_letter _ _).mono ?_;rintro e w' ⟨rfl,rfl⟩;rw [HLT.out];go_wp2_with fail
 go_loop [1] (fun a=>∃ k:Nat,p≤k∧k≤s.size∧a=.int .i64 k∧p+spanOf isPart (s.data.toList.drop p)=k+spanOf isPart (s.data.toList.drop k)) (fun a=>s.size-(intOf a).toNat)
 case atStart=>exact⟨p,Nat.le_refl _,by omega,rfl,rfl⟩
 case round =>
  obtain⟨k,hpk,hk,rfl,hr⟩:=hrel;have HR:=Lib.hid hr;clear hr
  by_cases hlt:k<s.size
  ·cases hq:isPart s[k]
   ·have HQ:=Lib.hid hq
    go_wp2_with (go_at_call 62;refine (ref_part _ _).mono ?_;rintro e w' ⟨rfl,rfl⟩)
    go_ret;exact⟨ret_int (by rw [HR.out,spanOf_stop _ _ _ hlt HQ.out];simp),rfl⟩
   ·have HQ:=Lib.hid hq
    go_wp2_with (go_at_call 62;refine (ref_part _ _).mono ?_;rintro e w' ⟨rfl,rfl⟩)
    go_round
    case rel=>exact⟨k+1,by omega,by omega,by go_num,by rw [HR.out,spanOf_go _ _ _ hlt HQ.out];omega⟩
    case measure=>simp [intOf];omega
  ·go_wp2_with fail;go_ret;exact⟨ret_int (by have h:=HR.out;have h2:=spanOf_end isPart s k (by omega);omega),rfl⟩
set_option maxHeartbeats 1000000 in
theorem ref_end_num (s:ByteArray)(p:Nat)(w:World)(hs:s.size≤65536)(hp:p<s.size)(hl:isLetter s[p]=false):Calls Tryd.prog 42 #[.string s,.int .i64 (p:Int)] w fun e w'=>e=.returned (.int .i64 ((p+spanOf isDigit (s.data.toList.drop p):Nat):Int))∧w=w':=by
 have HLT:=Lib.hid hl;clear hl;go_enter Tryd.func42,Tryd.ntmps42;go_wp2_with fail;refine (ref_letter _ _).mono ?_;rintro e w' ⟨rfl,rfl⟩;rw [HLT.out];go_wp2_with fail
 go_loop [1] (fun a=>∃ k:Nat,p≤k∧k≤s.size∧a=.int .i64 k∧p+spanOf isDigit (s.data.toList.drop p)=k+spanOf isDigit (s.data.toList.drop k)) (fun a=>s.size-(intOf a).toNat)
 case atStart=>exact⟨p,Nat.le_refl _,by omega,rfl,rfl⟩
 case round =>
  obtain⟨k,hpk,hk,rfl,hr⟩:=hrel;have HR:=Lib.hid hr;clear hr
  by_cases hlt:k<s.size
  ·cases hq:isDigit s[k]
   ·have HQ:=Lib.hid hq
    go_wp2_with (go_at_call 44;refine (ref_digit _ _).mono ?_;rintro e w' ⟨rfl,rfl⟩)
    go_ret;exact⟨ret_int (by rw [HR.out,spanOf_stop _ _ _ hlt HQ.out];simp),rfl⟩
   ·have HQ:=Lib.hid hq
    go_wp2_with (go_at_call 44;refine (ref_digit _ _).mono ?_;rintro e w' ⟨rfl,rfl⟩)
    go_round
    case rel=>exact⟨k+1,by omega,by omega,by go_num,by rw [HR.out,spanOf_go _ _ _ hlt HQ.out];omega⟩
    case measure=>simp [intOf];omega
  ·go_wp2_with fail;go_ret;exact⟨ret_int (by have h:=HR.out;have h2:=spanOf_end isDigit s k (by omega);omega),rfl⟩
namespace Lx
theorem span_digit_at (s:ByteArray)(p j:Nat)(hj:j<spanOf isDigit (s.data.toList.drop p)):∃ h:p+j<s.size,48≤s[p+j].toNat∧s[p+j].toNat≤57:=by
 have hle:=spanOf_le isDigit (s.data.toList.drop p);rw [List.length_drop,len_list] at hle;have h:p+j<s.size:=by omega
 refine⟨h,?_⟩;have ha:=List.all_eq_true.1 (take_span_all isDigit (s.data.toList.drop p)) s[p+j] (by
  rw [List.mem_iff_getElem?];refine⟨j,?_⟩;rw [List.getElem?_take_of_lt hj,List.getElem?_drop,List.getElem?_eq_getElem (by simpa using h)];rfl)
 simpa [isDigit] using ha
theorem numFrom_snoc (acc:Nat)(l:Bytes)(c:UInt8):numFrom acc (l++[c])=numFrom acc l*10+(c.toNat-48):=by
 unfold numFrom;rw [List.foldl_append];rfl
theorem take_snoc_drop (s:ByteArray)(p j:Nat)(h:p+j<s.size):(s.data.toList.drop p).take (j+1)=(s.data.toList.drop p).take j++[s[p+j]]:=by
 rw [List.take_succ_eq_append_getElem (by rw [List.length_drop,len_list];omega)]
 congr 2
 rw [List.getElem_drop];rfl
theorem numVal_ge (l:Bytes)(j:Nat):numFrom 0 (l.take j)≤numVal l:=by
 have e:numVal l=numFrom (numFrom 0 (l.take j)) (l.drop j):=by
  show numFrom 0 l=_
  conv=>lhs;rw [← List.take_append_drop j l]
  unfold numFrom;rw [List.foldl_append]
 rw [e];exact numFrom_ge _ _
theorem numBad_at (s:ByteArray)(p:Nat)(h:p<s.size):numBad (s.data.toList.drop p)=((decide (s[p].toNat=48) && decide (1<spanOf isDigit (s.data.toList.drop p))) || nextPart (s.data.toList.drop (p+spanOf isDigit (s.data.toList.drop p)))):=by
 unfold numBad;rw [List.drop_drop]
 congr 2
 rw [Bool.eq_iff_iff];simp only [decide_eq_true_eq];rw [drop_cons s p h];simp only [List.head?_cons,Option.some.injEq];constructor
 ·intro h;rw [h];rfl
 ·intro h;exact UInt8.toNat_inj.1 h
end Lx
theorem num_step (s:ByteArray)(p k:Nat)(a:Int)(hpk:p≤k)(hks:k<s.size)(hdg:48≤s[k].toNat∧s[k].toNat≤57)(hr:a=(numFrom 0 ((s.data.toList.drop p).take (k-p)):Nat)) :
  a*10+((s[k].toNat:Int)-48)=(numFrom 0 ((s.data.toList.drop p).take (k+1-p)):Nat):=by
 have e:k+1-p=(k-p)+1:=by omega
 have h:p+(k-p)<s.size:=by omega
 rw [e,take_snoc_drop s p (k-p) h,numFrom_snoc];have e2:p+(k-p)=k:=by omega
 simp only [e2];omega
theorem num_over (s:ByteArray)(p t k m:Nat)(a:Int)(hpk:p≤k)(hlt:k<t)(htl:t≤s.size)(htm:t=p+m)(hdg:48≤(s[k]'(by omega)).toNat∧(s[k]'(by omega)).toNat≤57)(hr:a=(numFrom 0 ((s.data.toList.drop p).take (k-p)):Nat))
  (hov:(9223372036854775807-(((s[k]'(by omega)).toNat:Int)-48)) / 10<a):9223372036854775808≤numVal ((s.data.toList.drop p).take m):=by
 have h1:=num_step s p k a hpk (by omega) hdg hr;have h2:=numVal_ge ((s.data.toList.drop p).take m) (k+1-p);rw [List.take_take,Nat.min_eq_left (by omega)] at h2;omega
def NumRel (s:ByteArray)(p t:Nat)(n i:Value):Prop :=
 ∃ (k:Nat) (a:Int),p≤k∧k≤t∧i=.int .i64 k∧n=.int .i64 a∧0≤a∧a≤9223372036854775807∧a=(numFrom 0 ((s.data.toList.drop p).take (k-p)):Nat)
set_option maxHeartbeats 1000000 in
theorem ref_number (s:ByteArray)(p:Nat)(q:Int)(w:World)(hs:s.size≤65536)(hp:p<s.size)(hd:isDigit s[p]=true)(hq:q=((p+spanOf isDigit (s.data.toList.drop p):Nat):Int)) :
  Calls Tryd.prog 45 #[.string s,.int .i64 (p:Int),.int .i64 q] w (OneP (numTok (s.data.toList.drop p)) (s.data.toList.drop p) p w):=by
 have hle:=spanOf_le isDigit (s.data.toList.drop p);rw [List.length_drop,len_list] at hle;have hpos:0<spanOf isDigit (s.data.toList.drop p):=by
  rw [drop_cons s p hp];exact spanOf_pos _ _ _ hd
 have HN:=Lib.hid (numTok_eq (s.data.toList.drop p));have HB:=Lib.hid (numBad_at s p hp);have HDG:=Lib.hid (span_digit_at s p);clear hd;generalize hm:spanOf isDigit (s.data.toList.drop p)=m at hle hpos HN HB HDG hq;clear hm;obtain⟨t,ht⟩:∃ t:Nat,t=p+m:=⟨_,rfl⟩;have hq':q=(t:Int):=by omega
 subst hq';have htl:t≤s.size:=by omega
 have htm:p<t:=by omega
 rw [← ht] at HB;have HTM:=Lib.hid ht;clear hq ht;cases hbad:numBad (s.data.toList.drop p)
 ·have HBAD:=Lib.hid hbad;rw [HB.out,Bool.or_eq_false_iff] at hbad;have key:(((s[p].toNat:Int) == 48)=false∨t≤p+1)∧(s.size≤t∨∃ h:t<s.size,isPart s[t]=false):=by
   refine⟨?_,?_⟩
   ·by_cases hz:s[p].toNat=48
    ·right;have:=hbad.1;have h2:=HTM.out;simp [hz] at this;omega
    ·left;rw [beq_eq_false_iff_ne];omega
   ·by_cases h2:t<s.size
    ·right;exact⟨h2,by rw [← nextPart_lt s t h2];exact hbad.2⟩
    ·left;omega
  clear hbad HB;have key1:(((s[p].toNat:Int) == 48)=false∨(((s[p].toNat:Int) == 48)=true∧decide ((p:Int)+1<(t:Int))=false)):=by
   cases hz:((s[p].toNat:Int) == 48)
   ·exact .inl rfl
   ·rcases key.1 with h | h
    ·rw [hz] at h;cases h
    ·exact .inr ⟨rfl,by rw [decide_eq_false_iff_not];omega⟩
  have key2:=key.2;clear key;rcases key1 with hz | ⟨hz,h1⟩ <;> rcases key2 with h2 | ⟨h2,h3⟩
  all_goals
   go_enter Tryd.func45,Tryd.ntmps45
   go_wp2_with (go_at_call 62;refine (ref_part _ _).mono ?_;rintro e w' ⟨rfl,rfl⟩)
   go_loop [8,9] (fun n i=>NumRel s p t n i) (fun _ i=>t-(intOf i).toNat)
   case atStart=>exact⟨p,0,Nat.le_refl _,by omega,rfl,rfl,by omega,by omega,by simp [numFrom]⟩
   case round =>
    obtain⟨k,a,hpk,hkt,rfl,rfl,ha0,ha1,hr⟩:=hrel;have HR:=Lib.hid hr;clear hr
    by_cases hlt:k<t
    ·have hks:k<s.size:=by omega
     have hdg:48≤s[k].toNat∧s[k].toNat≤57:=by
      obtain⟨h1,h2⟩:=HDG.out (k-p) (by have:=HTM.out;omega);have e:p+(k-p)=k:=by omega
      simp only [e] at h2;exact h2
     have hg1:(48:Int)≤(s[k].toNat:Int):=by omega
     have hg2:(s[k].toNat:Int)≤57:=by omega
     by_cases hov:(9223372036854775807-((s[k].toNat:Int)-48)) / 10<a
     ·go_wp2_with fail;refine bodyPost_ret (v:=oneV (.bad 4) (s.data.toList.drop p) p) ?_ rfl ⟨?_,?_⟩
      ·simp [results,Tryd.results45,go_sem,oneV,tokAgg];rfl
      ·rw [HN.out,HBAD.out,if_neg (by simp),if_pos (num_over s p t k m a hpk hlt htl HTM.out hdg HR.out hov)]
      ·exact (Below.refl _ _).alloc (Nat.le_refl _) _
     ·go_wp2_with fail
      go_round
      case rel=>exact⟨k+1,_,by omega,by omega,by go_num,rfl,by omega,by omega,num_step s p k a hpk hks hdg HR.out⟩
      case measure=>simp [intOf];omega
    ·obtain rfl:k=t:=by omega
     go_wp2_with fail;have hm2:k-p=m:=by have:=HTM.out;omega
     have hr:=HR.out;rw [hm2] at hr;have hle9:¬ 9223372036854775808≤numVal ((s.data.toList.drop p).take m):=by
      have e:numVal ((s.data.toList.drop p).take m)=numFrom 0 ((s.data.toList.drop p).take m):=rfl;rw [e];omega
     refine bodyPost_ret (v:=oneV (.ok 3 m (numVal ((s.data.toList.drop p).take m))) (s.data.toList.drop p) p) ?_ rfl ⟨?_,?_⟩
     ·simp [results,Tryd.results45,go_sem,oneV,tokAgg,extract_strOf,hm2];exact hr
     ·rw [HN.out,HBAD.out,if_neg (by simp),if_neg hle9]
     ·exact (Below.refl _ _).alloc (Nat.le_refl _) _
 ·have HBAD:=Lib.hid hbad;rw [HB.out,Bool.or_eq_true] at hbad;have key:(((s[p].toNat:Int) == 48)=true∧p+1<t)∨((((s[p].toNat:Int) == 48)=false∨(((s[p].toNat:Int) == 48)=true∧t≤p+1))∧∃ h:t<s.size,isPart s[t]=true):=by
   have htm2:=HTM.out
   by_cases hz:s[p].toNat=48∧1<m
   ·exact .inl ⟨by rw [beq_iff_eq];omega,by omega⟩
   ·right;refine⟨?_,?_⟩
    ·by_cases hz0:s[p].toNat=48
     ·right;exact⟨by rw [beq_iff_eq];omega,by omega⟩
     ·left;rw [beq_eq_false_iff_ne];omega
    ·rcases hbad with h | h
     ·simp only [Bool.and_eq_true,decide_eq_true_eq] at h;exact absurd h hz
     ·by_cases h2:t<s.size
      ·exact⟨h2,by rw [← nextPart_lt s t h2];exact h⟩
      ·rw [nextPart_ge s t (by omega)] at h;cases h
  clear hbad HB;rcases key with⟨hz,h1⟩ | ⟨hz | ⟨hz,h1⟩,h2,h3⟩
  all_goals
   go_enter Tryd.func45,Tryd.ntmps45
   go_wp2_with (go_at_call 62;refine (ref_part _ _).mono ?_;rintro e w' ⟨rfl,rfl⟩)
   refine bodyPost_ret (v:=oneV (.bad 2) (s.data.toList.drop p) p) ?_ rfl ⟨by rw [HN.out,HBAD.out,if_pos rfl],?_⟩
   ·simp [results,Tryd.results45,go_sem,oneV,tokAgg];rfl
   ·exact (Below.refl _ _).alloc (Nat.le_refl _) _
end
end Go.Proofs.YtmlafcimjhnhhaaDoor
