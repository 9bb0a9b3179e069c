/-
  A printer as an abstract block: a block of one cell, the text so far, as an own list of bytes; what its calls leave alone.
-/
import Derived.Test.YtmlafcimjhnhhaaDoorJlJpAt
import Derived.Test.YtmlafcimjhnhhaaDoorJlParTree
import Derived.Test.YtmlafcimjhnhhaaDoorJlJpAr
set_option linter.unusedSectionVars false
set_option linter.unusedSimpArgs false
set_option linter.unnecessarySimpa false
set_option linter.unusedVariables false
set_option linter.unusedVariables false
set_option linter.unusedSimpArgs false
namespace Go.Proofs.YtmlafcimjhnhhaaDoor
section
open Lx Ax Go.RowKit
namespace Lx
/-- A text grows by a string unless it is too long already. -/
def put1 (T s:Bytes):Bytes:=if 65536<T.length then T else T++s
def put (T:Bytes)(l:List Bytes):Bytes:=l.foldl put1 T
theorem put_app (T:Bytes)(a b:List Bytes):put T (a++b)=put (put T a) b:=by unfold put;rw [List.foldl_append]
theorem put_cons (T s:Bytes)(l:List Bytes):put T (s::l)=put (put1 T s) l:=rfl
/-- A text that is too long stays; one that is not is the whole. -/
theorem put_over:∀ (l:List Bytes) (T:Bytes),65536<T.length→put T l=T
 | [],_,_=>rfl
 | s::l,T,h=>by rw [put_cons,put1,if_pos h];exact put_over l T h
theorem put_all:∀ (l:List Bytes) (T:Bytes),(65536<(T++l.flatten).length∧65536<(put T l).length)∨((T++l.flatten).length≤65536∧put T l=T++l.flatten)
 | [],T=>by
   by_cases h:65536<T.length
   ·exact .inl ⟨by simpa using h,h⟩
   ·exact .inr ⟨by simpa using h,by simp [put]⟩
 | s::l,T=>by
   by_cases h:65536<T.length
   ·rw [put_over _ _ h];exact .inl ⟨by simp;omega,h⟩
   ·rw [put_cons,put1,if_neg h];have:=put_all l (T++s);simpa using this
end Lx
namespace Ax
def cvY (y:UInt8):List CV:=[.int .u8 y.toNat]
/-- Block y is not the one that c lies in. -/
def offB (y:Nat)(c:CV):Prop:=∀ o n k,c≠.sl y o n k
/-- Block b is a printer with the text T. -/
structure PrAt (b:Nat) (c:CV) (H:Heap) (nx:Nat) (T:Bytes):Prop where
 cell:H b=some (.cells [c])
 own:(T=[]∧c=.nils)∨(T≠[]∧∃ x,c=.sl x 0 T.length 1∧H x=some (.cells (T.flatMap cvY))∧x<nx)
 lt:b<nx
 off:offB b c
 len:T.length≤70000
/-- What a call on the printer leaves alone. -/
structure Pf (b:Nat) (c:CV) (H:Heap) (nx:Nat) (c':CV) (H':Heap) (nx':Nat):Prop where
 le:nx≤nx'
 byt:c'=c∨∀ y,y<nx→offB y c'
 keep:∀ y,y<nx→y≠b→offB y c→H' y=H y
/-- A block of the caller's own. -/
structure OwnB (b y:Nat) (c:CV) (H:Heap) (nx:Nat) (k:CB):Prop where
 at':H y=some k
 lt:y<nx
 ne:y≠b
 off:offB y c
section
variable {b y n nx nx' nx'':Nat} {c c' c'':CV} {H H' H'':Heap} {T T':Bytes} {k k':CB}
theorem Pf.refl (b:Nat)(c:CV)(H:Heap)(nx:Nat):Pf b c H nx c H nx:=⟨Nat.le_refl _,.inl rfl,fun _ _ _ _=>rfl⟩
theorem Pf.offs (h:Pf b c H nx c' H' nx')(hy:y<nx)(ho:offB y c):offB y c':=by
 rcases h.byt with e | e
 ·rw [e];exact ho
 ·exact e y hy
theorem Pf.trans (h:Pf b c H nx c' H' nx')(h2:Pf b c' H' nx' c'' H'' nx''):Pf b c H nx c'' H'' nx'' :=
 ⟨Nat.le_trans h.le h2.le,by
  rcases h2.byt with e | e
  ·rw [e];exact h.byt
  ·exact .inr fun y hy=>e y (Nat.lt_of_lt_of_le hy h.le),fun y hy hb ho=>(h2.keep y (Nat.lt_of_lt_of_le hy h.le) hb (h.offs hy ho)).trans (h.keep y hy hb ho)⟩
theorem Pf.alloc (h:Pf b c H nx c' H' nx')(k:CB):Pf b c H nx c' (upd H' nx' k) (nx'+1) :=
 ⟨by have:=h.le;omega,h.byt,fun y hy hb ho=>by rw [upd_miss _ _ _ _ (by have:=h.le;omega)];exact h.keep y hy hb ho⟩
theorem PrAt.sl_lt (h:PrAt b c H nx T){x o m j:Nat}(e:c=.sl x o m j):x<nx:=by
 rcases h.own with⟨_,h0⟩ | ⟨_,x',h1,_,h3⟩
 ·rw [h0] at e;cases e
 ·rw [h1] at e;cases e;exact h3
theorem PrAt.fresh (h:PrAt b c H nx T):offB nx c:=fun o m j e=>Nat.lt_irrefl _ (h.sl_lt e)
theorem PrAt.alloc (h:PrAt b c H nx T)(k:CB):PrAt b c (upd H nx k) (nx+1) T :=
 ⟨by rw [upd_miss _ _ _ _ (by have:=h.lt;omega)];exact h.cell,by
  rcases h.own with h0 | ⟨hn,x,h1,h2,h3⟩
  ·exact .inl h0
  ·exact .inr ⟨hn,x,h1,by rw [upd_miss _ _ _ _ (by omega)];exact h2,by omega⟩,by have:=h.lt;omega,h.off,h.len⟩
theorem OwnB.new (h:PrAt b c H nx T)(k:CB):OwnB b nx c (upd H nx k) (nx+1) k:=⟨by simp [upd],by omega,by have:=h.lt;omega,h.fresh⟩
theorem OwnB.alloc (h:OwnB b y c H nx k)(k':CB):OwnB b y c (upd H nx k') (nx+1) k:=⟨by rw [upd_miss _ _ _ _ (by have:=h.lt;omega)];exact h.at',by have:=h.lt;omega,h.ne,h.off⟩
theorem OwnB.call (h:OwnB b y c H nx k)(hf:Pf b c H nx c' H' nx'):OwnB b y c' H' nx' k:=⟨(hf.keep y h.lt h.ne h.off).trans h.at',Nat.lt_of_lt_of_le h.lt hf.le,h.ne,hf.offs h.lt h.off⟩
end
/-- How a call on the printer ends. -/
def PPost (b:Nat)(c:CV)(H:Heap)(nx:Nat)(T':Bytes)(r:Res)(H':Heap)(nx':Nat):Prop:=r=.ret (.tup [])∧∃ c',PrAt b c' H' nx' T'∧Pf b c H nx c' H' nx'
section
variable {P:Program} {G:Nat→CV} {n:Nat} {e:Env} {H:Heap} {nx:Nat} {Q:AExit→Env→Heap→Nat→Prop} {ops:Array Oper} {os:List Oper} {d:Option Nat} {op:Op} {ty:TypeId} {pos:String} {af:Array Edge} {g:Option (Nat×Bool)} {f:FuncId} {args:List CV} {b:Nat} {c:CV} {T':Bytes}
/-- A call on the printer, as a step. -/
theorem AOpl.callP (hc:ACall P G f args H nx (PPost b c H nx T'))(h:∀ c' H' nx',PrAt b c' H' nx' T'→Pf b c H nx c' H' nx'→AOpl P G n ops os (putE e d (.tup [])) H' nx' Q)(hd:okD n d=true:=by exact rfl)(hg:gd ops e ⟨d,op,ty,pos,af,g⟩=some true:=by first | rfl | (simp [*];done))(hq:callA (rd G e) op=some (f,args):=by simp [*])(he:enters P f=true:=by kernel_rfl):AOpl P G n ops (⟨d,op,ty,pos,af,g⟩::os) e H nx Q :=
 AOpl.callG hd hg hq he (hc.mono fun r H' nx' ⟨h1,c',h2,h3⟩=>by subst h1;exact h c' H' nx' h2 h3)
end
/-! a known result: numbers above nx are forgotten but one -/
def cOf (nx:Nat)(T:Bytes):CV:=if T=[] then .nils else .sl nx 0 T.length 1
def prH (b:Nat)(c:CV)(H:Heap)(nx:Nat)(T:Bytes):Heap:=fun y=>if y=nx then (if T=[] then none else some (.cells (T.flatMap cvY))) else if y=b then some (.cells [cOf nx T]) else drpC H c y
theorem puY (T:Bytes):puL (T.flatMap cvY)=true:=by
 induction T with
 | nil=>rfl
 | cons y T ih =>
   rw [List.flatMap_cons]
   show puL (CV.int .u8 y.toNat::T.flatMap cvY)=true
   simp [puL,puV,ih]
theorem drpC_off {H:Heap}{c:CV}{y:Nat}(h:offB y c):drpC H c y=H y:=by
 cases c <;> first | rfl | skip
 rename_i x o n k;exact drp_miss _ _ _ (fun e=>h o n k (by rw [e]))
theorem drpC_some {H:Heap}{c:CV}{y:Nat}{k:CB}(h:drpC H c y=some k):H y=some k∧offB y c:=by
 cases c <;> first | exact⟨h,fun o n k e=>by cases e⟩ | skip
 rename_i x o n j;have h:drp H x y=some k:=h
 by_cases e:y=x
 ·rw [e,drp_hit] at h;cases h
 ·rw [drp_miss _ _ _ e] at h;exact⟨h,fun o' n' k' e'=>e (by cases e';rfl)⟩
theorem RB.cswap {M M':Mp}{w:World}{g m:Nat}{cs:List CV}(hz:∀ g x,M.fz g=some x→M'.fz g=some x)(h:RB M w g m (.cells cs))(hp:puL cs=true):RB M' w g m (.cells cs):=by
 obtain⟨arr,T,a,b,c⟩:=h;exact⟨arr,T,a,b,c.swap hz hp⟩
/-- Where an own slice lies. -/
def byB (M:Mp):CV→Option (Nat×Nat)
 | .sl x _ _ _=>M.bk x
 | _=>none
theorem ACall.det {P:Program}{G:Nat→CV}{f:FuncId}{args:List CV}{H:Heap}{nx b:Nat}{c:CV}{T T':Bytes}(E:Nat→Bool)(hp:PrAt b c H nx T)(hE:∀ y,E y=true→y<nx∧y≠b∧offB y c∧∃ cs,H y=some (.cells cs)∧puL cs=true)
  (h:∀ H1,PrAt b c H1 nx T→(∀ y,E y=true→H1 y=H y)→ACall P G f args H1 nx (PPost b c H1 nx T')):ACall P G f args H nx fun r H' nx'=>r=.ret (.tup [])∧H'=prH b c H nx T'∧nx'=nx+1:=by
 intro M w vs hg r v
 -- the small heap
 obtain⟨S,hS⟩:∃ S:Nat→Prop,S=fun y=>y=b∨¬ offB y c∨E y=true:=⟨_,rfl⟩
 obtain⟨H1,hH1⟩:∃ H1:Heap,H1=fun y=>open Classical in if S y then H y else none:=⟨_,rfl⟩
 have in1:∀ y,S y→H1 y=H y:=fun y hy=>by rw [hH1];simp [hy]
 have out1:∀ y,¬ S y→H1 y=none:=fun y hy=>by rw [hH1];simp [hy]
 have s1:Sub H1 H:=fun y k hk=>by
  by_cases hy:S y
  ·rw [in1 y hy] at hk;exact hk
  ·rw [out1 y hy] at hk;cases hk
 have Sb:S b:=by rw [hS];exact .inl rfl
 have p1:PrAt b c H1 nx T:=⟨by rw [in1 b Sb];exact hp.cell,by
  rcases hp.own with h0 | ⟨hn,x,h1,h2,h3⟩
  ·exact .inl h0
  ·refine .inr ⟨hn,x,h1,?_,h3⟩;rw [in1 x (by rw [hS];exact .inr (.inl fun ho=>ho _ _ _ h1))];exact h2,hp.lt,hp.off,hp.len⟩
 have e1:∀ y,E y=true→H1 y=H y:=fun y hy=>in1 y (by rw [hS];exact .inr (.inr hy))
 have r1:=r.weak s1;refine (h H1 p1 e1 M w vs hg r1 v).mono ?_;rintro e w' ⟨M1,x0,H2,nx2,a1,a2,a3,rfl,c',pr,pf⟩;have b1:∀ y,y<nx→M1.bk y=M.bk y:=a3.low
 -- the block of the bytes
 obtain⟨gx,hgx⟩:∃ gx:Option (Nat×Nat),gx=byB M1 c':=⟨_,rfl⟩;obtain⟨M2,hM2⟩:∃ M2:Mp,M2=⟨M1.fz,fun y=>if y<nx then M1.bk y else if y=nx then gx else none⟩:=⟨_,rfl⟩;have z2:∀ g x,M1.fz g=some x→M2.fz g=some x:=fun g x hz=>by rw [hM2];exact hz
 have zf:M2.fz=M1.fz:=by rw [hM2]
 have k2:∀ y,y<nx→M2.bk y=M1.bk y:=fun y hy=>by rw [hM2];simp [hy]
 have n2:M2.bk nx=gx:=by rw [hM2];simp
 have f2:∀ y,nx+1≤y→M2.bk y=none:=fun y hy=>by rw [hM2];simp [show ¬ y<nx by omega,show ¬ y=nx by omega]
 clear hM2;obtain⟨H3,hH3⟩:∃ H3:Heap,H3=fun y=>if y=nx then (if T'=[] then none else some (.cells (T'.flatMap cvY))) else if y=b then some (.cells [cOf nx T']) else if E y=true then H y else none:=⟨_,rfl⟩
 have lt_b:b<nx:=hp.lt;have at3:∀ y k,H3 y=some k→(y=nx∧T'≠[]∧k=.cells (T'.flatMap cvY)∧∃ x,c'=.sl x 0 T'.length 1∧H2 x=some (.cells (T'.flatMap cvY))∧M2.bk nx=M1.bk x)∨(y=b∧k=.cells [cOf nx T'])∨(y<nx∧y≠b∧E y=true∧H y=some k∧H2 y=some k∧∃ cs,k=.cells cs∧puL cs=true):=by
  intro y k hk;rw [hH3] at hk;simp only at hk
  by_cases h0:y=nx
  ·rw [if_pos h0] at hk
   by_cases h1:T'=[]
   ·rw [if_pos h1] at hk;cases hk
   ·rw [if_neg h1] at hk;cases hk;rcases pr.own with⟨h2,_⟩ | ⟨_,x,h2,h3,_⟩
    ·exact absurd h2 h1
    ·exact .inl ⟨h0,h1,rfl,x,h2,h3,by rw [n2,hgx,h2];rfl⟩
  ·rw [if_neg h0] at hk
   by_cases h1:y=b
   ·rw [if_pos h1] at hk;cases hk;exact .inr (.inl ⟨h1,rfl⟩)
   ·rw [if_neg h1] at hk
    by_cases h2:E y=true
    ·rw [if_pos h2] at hk;obtain⟨d1,d2,d3,cs,d4,d5⟩:=hE y h2;rw [d4] at hk;cases hk;exact .inr (.inr ⟨d1,d2,h2,d4,by rw [pf.keep y d1 d2 d3,e1 y h2];exact d4,cs,rfl,d5⟩)
    ·rw [if_neg h2] at hk;cases hk
 -- what number a block has in the call's own numbering
 have num:∀ y k g m,H3 y=some k→M2.bk y=some (g,m)→∃ y' k',H2 y'=some k'∧M1.bk y'=some (g,m)∧(y≠nx→y'=y)∧(y=nx→∃ x,c'=.sl x 0 T'.length 1∧y'=x):=by
  intro y k g m hk hm;rcases at3 y k hk with⟨rfl,_,_,x,h2,h3,h4⟩ | ⟨rfl,_⟩ | ⟨hl,_,_,_,h5,_⟩
  ·exact⟨x,_,h3,by rw [← h4];exact hm,fun h=>absurd rfl h,fun _=>⟨x,h2,rfl⟩⟩
  ·exact⟨y,_,pr.cell,by rw [← k2 y lt_b];exact hm,fun _=>rfl,fun h=>by omega⟩
  ·exact⟨y,_,h5,by rw [← k2 y hl];exact hm,fun _=>rfl,fun h=>by omega⟩
 have offb:∀ x,c'=.sl x 0 T'.length 1→x≠b:=fun x hx hb=>pr.off 0 T'.length 1 (by rw [hx,hb])
 have offE:∀ x y,c'=.sl x 0 T'.length 1→E y=true→x≠y:=fun x y hx hy hxy=>by
  obtain⟨d1,d2,d3,_⟩:=hE y hy;exact pf.offs d1 d3 0 T'.length 1 (by rw [hx,hxy])
 have rep3:Rep M2 H3 (nx+1) w':=by
  refine⟨fun y k hk=>?_,fun y y' k k' g m m' hk hk' hm hm'=>?_,f2,fun g o hz=>a2.fz g o (by rw [← zf];exact hz),fun g o y k m hz hk hm=>?_⟩
  ·rcases at3 y k hk with⟨rfl,hn,rfl,x,h2,h3,h4⟩ | ⟨rfl,rfl⟩ | ⟨hl,_,_,_,h5,cs,rfl,hpu⟩
   ·obtain⟨g,m,d1,d2⟩:=a2.blk x _ h3;exact⟨g,m,by rw [h4];exact d1,d2.cswap z2 (puY _)⟩
   ·obtain⟨g,m,d1,arr,A,d2,d3,d4⟩:=a2.blk y _ pr.cell;refine⟨g,m,by rw [k2 y lt_b];exact d1,arr,A,d2,d3,?_⟩;simp only [List.length_cons,List.length_nil] at d4 ⊢;obtain⟨v0,vs',hv,q1,q2⟩:=d4.cons_inv;have:=q2.nil_inv;subst this;rw [hv];refine .one ?_;unfold cOf;rcases pr.own with⟨h0,h1⟩ | ⟨h0,x,h1,h2,_⟩
    ·rw [if_pos h0];rw [h1] at q1;cases q1;exact .nils
    ·rw [if_neg h0];rw [h1] at q1;cases q1 with
     | sl _ _ _ _ g1 m1 cp e1 e2 e3=>exact .sl _ _ _ _ _ _ _ (by rw [n2,hgx,h1];exact e1) e2 e3
   ·obtain⟨g,m,d1,d2⟩:=a2.blk y _ h5;exact⟨g,m,by rw [k2 y hl];exact d1,d2.cswap z2 hpu⟩
  ·obtain⟨z,kz,q1,q2,q3,q4⟩:=num y k g m hk hm;obtain⟨z',kz',u1,u2,u3,u4⟩:=num y' k' g m' hk' hm';have hzz:=a2.inj z z' _ _ g m m' q1 u1 q2 u2
   by_cases hy:y=nx
   ·by_cases hy':y'=nx
    ·rw [hy,hy']
    ·exfalso;obtain⟨x,hx,hz⟩:=q4 hy;have hz':=u3 hy';have hxy:x=y':=by rw [← hz,hzz,hz']
     rcases at3 y' k' hk' with⟨h0,_⟩ | ⟨h0,_⟩ | ⟨_,_,h0,_⟩
     ·exact hy' h0
     ·exact offb x hx (by rw [hxy,h0])
     ·exact offE x y' hx h0 hxy
   ·by_cases hy':y'=nx
    ·exfalso;obtain⟨x,hx,hz⟩:=u4 hy';have hz':=q3 hy;have hxy:x=y:=by rw [← hz,← hzz,hz']
     rcases at3 y k hk with⟨h0,_⟩ | ⟨h0,_⟩ | ⟨_,_,h0,_⟩
     ·exact hy h0
     ·exact offb x hx (by rw [hxy,h0])
     ·exact offE x y hx h0 hxy
    ·rw [← q3 hy,← u3 hy',hzz]
  ·obtain⟨z,kz,q1,q2,_⟩:=num y k g m hk hm;exact a2.sep g o z kz m (by rw [← zf];exact hz) q1 q2
 have fr3:Fr H1 M nx w H3 M2 (nx+1) w':=by
  refine⟨⟨fun g x hz=>z2 _ _ (a3.ext.fz g x hz),fun y x hy=>?_⟩,a3.os,a3.tape,a3.output,a3.grown,a3.kept,fun g hi=>?_,fun y hy=>by rw [k2 y hy];exact b1 y hy,by omega,fun g o hz=>a3.fzn g o (by rw [← zf];exact hz)⟩
  ·have hl:y<nx:=by
    by_cases hl:y<nx
    ·exact hl
    ·rw [r.fresh y (by omega)] at hy;cases hy
   rw [k2 y hl,b1 y hl];exact hy
  ·obtain⟨y,k,m,hk,hm⟩:=hi;obtain⟨z,kz,q1,q2,_⟩:=num y k g m hk hm;exact a3.mono g ⟨z,kz,m,q1,q2⟩
 -- the rest
 obtain⟨X,hX⟩:∃ X:Heap,X=fun y=>open Classical in if S y then none else H y:=⟨_,rfl⟩
 have sx:Sub X H:=fun y k hk=>by
  rw [hX] at hk;simp only at hk;split at hk
  ·cases hk
  ·exact hk
 obtain⟨rp,fp⟩:=Rep.frame X r s1 sx (fun y k hk=>by
  rw [hX] at hk;simp only at hk;split at hk
  ·cases hk
  ·rename_i hs;exact out1 y hs) rep3 fr3
 have eq:cup H3 X=prH b c H nx T':=by
  funext y
  unfold cup prH
  by_cases h0:y=nx
  ·have hX0:X y=none:=by
    rw [hX];simp only;split
    ·rfl
    ·cases hy:H y with
     | none=>rfl
     | some k =>
       obtain⟨g,m,d1,_⟩:=r.blk y k hy;rw [r.fresh y (by omega)] at d1;cases d1
   rw [hX0,hH3];simp only [h0,if_true]
  ·rw [if_neg h0]
   by_cases h1:y=b
   ·have hX0:X y=none:=by rw [hX];simp only;rw [if_pos (by rw [h1];exact Sb)]
    rw [hX0,hH3];simp only [if_neg h0,if_pos h1]
   ·rw [if_neg h1]
    by_cases h2:offB y c
    ·rw [drpC_off h2]
     by_cases h3:E y=true
     ·have hX0:X y=none:=by rw [hX];simp only;rw [if_pos (by rw [hS];exact .inr (.inr h3))]
      rw [hX0,hH3];simp only [if_neg h0,if_neg h1,if_pos h3]
     ·have hX0:X y=H y:=by rw [hX];simp only;rw [if_neg (by rw [hS];rintro (h | h | h);exact h1 h;exact h h2;exact h3 h)]
      rw [hX0];cases H y with
      | some k=>rfl
      | none=>simp only;rw [hH3];simp only [if_neg h0,if_neg h1,if_neg h3]
    ·have hX0:X y=none:=by rw [hX];simp only;rw [if_pos (by rw [hS];exact .inr (.inl h2))]
     have hE0:¬ E y=true:=fun h3=>h2 (hE y h3).2.2.1
     rw [hX0,hH3];simp only [if_neg h0,if_neg h1,if_neg hE0];cases hd:drpC H c y with
     | none=>rfl
     | some k=>exact absurd (drpC_some hd).2 h2
 rw [eq] at rp fp;exact⟨M2,_,_,_,EndR.swap z2 a1 rfl,rp,fp,rfl,rfl,rfl⟩
/-- What a printer is behind a call with a known result. -/
theorem PrAt.det {b nx:Nat}{c:CV}{H:Heap}{T T':Bytes}(hp:PrAt b c H nx T)(hl:T'.length≤70000):PrAt b (cOf nx T') (prH b c H nx T') (nx+1) T'∧Pf b c H nx (cOf nx T') (prH b c H nx T') (nx+1):=by
 have hb:=hp.lt;refine⟨⟨?_,?_,by omega,?_,hl⟩,by omega,.inr fun y hy o n k e=>?_,fun y hy hyb ho=>?_⟩
 ·unfold prH;rw [if_neg (by omega),if_pos rfl]
 ·by_cases h0:T'=[]
  ·exact .inl ⟨h0,by unfold cOf;rw [if_pos h0]⟩
  ·exact .inr ⟨h0,nx,by unfold cOf;rw [if_neg h0],by unfold prH;rw [if_pos rfl,if_neg h0],by omega⟩
 ·intro o n k e;unfold cOf at e;split at e
  ·cases e
  ·cases e;omega
 ·unfold cOf at e;split at e
  ·cases e
  ·cases e;omega
 ·unfold prH;rw [if_neg (by omega),if_neg hyb,drpC_off ho]
end Ax
end
section
open Lx Ax Go.RowKit
namespace Ax
def Qc.on (C:Nat→Prop):Qc:=⟨fun _=>False,[],Heap.no,C⟩
abbrev ASlX (P:Program)(G:Nat→CV)(C:Nat→Prop)(nx0 k:Nat)(ops:Array Oper)(os:List Oper)(e:Env)(H:Heap)(ne:Nat)(K:Env→Heap→Nat→Prop):Prop:=ASlK P G (Qc.on C) nx0 k ops os e H ne K
/-- Looks at the memory may not see the blocks C. -/
inductive BlindX (P:Program) (G:Nat→CV) (C:Nat→Prop) (e:Env) (H:Heap) (op:Op):Prop
 | pure (h:memO op=false)
 | eff (h:isEf op=true)
 | look (h:∀ H',(∀ x,¬ C x→H' x=H x)→qstep P H' (rd G e) op=qstep P H (rd G e) op)
/-- The blocks of a printer, and all that are new. -/
def prC (b:Nat)(c:CV)(n0:Nat)(x:Nat):Prop:=x=b∨¬ offB x c∨n0≤x
theorem OwnB.blind {b y nx:Nat}{c:CV}{H:Heap}{k:CB}(h:OwnB b y c H nx k)(m:Nat):¬ prC b c (nx+m) y:=by
 rintro (h1 | h1 | h1)
 ·exact h.ne h1
 ·exact h1 h.off
 ·have:=h.lt;omega
section
variable {P:Program} {G:Nat→CV} {n:Nat} {e:Env} {H:Heap} {nx nx0 k ne:Nat} {Q:AExit→Env→Heap→Nat→Prop} {ops:Array Oper} {os:List Oper} {d:Option Nat} {op:Op} {ty:TypeId} {pos:String} {af:Array Edge} {g:Option (Nat×Bool)} {K:Env→Heap→Nat→Prop} {C:Nat→Prop}
theorem ASlX.nil (h:K e H ne):ASlX P G C nx0 k ops [] e H ne K:=ASlK.nil h
theorem ASlX.stepG (hg:gd ops e ⟨d,op,ty,pos,af,g⟩=some true){c:CV}{H':Heap}{ne':Nat}(hs:stepT P G e H (nx0+k) ne op=some (c,H',ne'))(hC:BlindX P G C e H op)
  (h:ASlX P G C nx0 (k+1) ops os (putE e d c) H' ne' K):ASlX P G C nx0 k ops (⟨d,op,ty,pos,af,g⟩::os) e H ne K:=fun hne j=>by
 unfold stepT at hs;split at hs
 ·rename_i c' hq;cases hs;obtain⟨l,E,e',H',ne',h1,h2⟩:=h hne j;refine⟨_,E,e',H',ne',.look (o:=⟨d,op,ty,pos,af,g⟩) _ hg hq (fun H' hl=>?_) (fun h=>by cases h) h1,h2⟩;cases hC with
  | pure h=>rw [qstep_mem (H':=H) h];exact hq
  | eff h=>rw [qstep_isEf h] at hq;cases hq
  | look h=>rw [h H' hl];exact hq
 ·split at hs
  ·rename_i c' kk hq;cases hs;obtain⟨l,E,e',H',ne',h1,h2⟩:=h hne j;exact⟨_,E,e',H',ne',.alloc (o:=⟨d,op,ty,pos,af,g⟩) _ kk hg hq h1,h2⟩
  ·split at hs
   ·rename_i c' dl hq;split at hs
    ·rename_i hon;cases hs;have hle:=Dl.nx_le ne dl;obtain⟨l,E,e',H',ne',h1,h2⟩:=h (by omega) (j+1);exact⟨_,_,e',H',ne',.eff (o:=⟨d,op,ty,pos,af,g⟩) _ hg (estep_isEf hq) hle (fun b _ hb hn=>Dl.keeps hon (by omega) hn) (fun hs=>by rw [show isSt op=true from estep_isSt hq] at hs;cases hs) (fun _ h=>h.elim) (EffOk.estepH (o:=⟨d,op,ty,pos,af,g⟩) hq) h1,h2⟩
    ·cases hs
   ·cases hs
theorem ASlX.step {c:CV}{H':Heap}{ne':Nat}(hs:stepT P G e H (nx0+k) ne op=some (c,H',ne'))(hC:BlindX P G C e H op)(h:ASlX P G C nx0 (k+1) ops os (putE e d c) H' ne' K):ASlX P G C nx0 k ops (⟨d,op,ty,pos,af,none⟩::os) e H ne K:=ASlX.stepG rfl hs hC h
/-- A call with a known result that turns blocks of C. -/
theorem ASlX.callX (hg:gd ops e ⟨d,op,ty,pos,af,g⟩=some true){f:FuncId}{args:List CV}(hq:callA (rd G e) op=some (f,args))(he:enters P f=true){v:CV}{H1:Heap}{n1:Nat}(hf:ACall P G f args H ne fun r H' nx'=>r=.ret v∧H'=H1∧nx'=n1)(hn:ne≤n1)
  (hfr:nx0+ops.size≤ne→∀ x,nx0≤x→x<nx0+ops.size→H x=none→H1 x=none) (hC:∀ x,¬ C x→H1 x=H x) (h:ASlX P G C nx0 (k+1) ops os (putE e d v) H1 n1 K):ASlX P G C nx0 k ops (⟨d,op,ty,pos,af,g⟩::os) e H ne K:=fun hne j=>by
 obtain⟨l,E,e',H',ne',h1,h2⟩:=h (by omega) (j+1);exact⟨_,_,e',H',ne',.eff (o:=⟨d,op,ty,pos,af,g⟩) v hg (callA_isEf hq) hn (fun x hx hx2 hn=>hfr hne x hx hx2 hn) (fun _ x hx=>hC x hx) (fun _ h=>h.elim) (EffOk.call (o:=⟨d,op,ty,pos,af,g⟩) hq he hf) h1,h2⟩
theorem ASlX.call1 (hg:gd ops e ⟨d,op,ty,pos,af,g⟩=some true){f:FuncId}{args:List CV}(hq:callA (rd G e) op=some (f,args))(he:enters P f=true){v:CV}(hf:FCall1 P G f args v)
  (h:ASlX P G C nx0 (k+1) ops os (putE e d v) H ne K):ASlX P G C nx0 k ops (⟨d,op,ty,pos,af,g⟩::os) e H ne K:=ASlK.callg hg hq he hf h
theorem AWp.regTX {id m:Nat}(C:Nat→Prop)(hm:P.follows .mixedOrders=true)(hst:statS n ops=true)(hl:ops.toList=os)(hz:ops.size=m)(h:ASlX P G C nx 0 ops os e H (nx+m) fun e' H' ne'=>Q .normal e' H' ne'):AWp P G n (.region id ops true) e H nx Q:=by
 subst hz;obtain⟨l,E,e',H',ne',h1,h2⟩:=h (Nat.le_refl _) 0;subst hl;exact AWp.regS (κ:=Qc.on C) hm hst (fun _ h=>h.elim) (fun _ h=>h.elim) h1 h2
/-- A call on the printer in a drawn region. -/
theorem ASlX.callP {b n0:Nat}{c:CV}{T T':Bytes}(E:Nat→Bool){f:FuncId}{args:List CV}(hp:PrAt b c H ne T)(hl:T'.length≤70000)(hE:∀ y,E y=true→y<ne∧y≠b∧offB y c∧∃ cs,H y=some (.cells cs)∧puL cs=true)
  (hc:∀ H1,PrAt b c H1 ne T→(∀ y,E y=true→H1 y=H y)→ACall P G f args H1 ne (PPost b c H1 ne T')) (h0:n0≤ne) (h:∀ c' H' n1,PrAt b c' H' n1 T'→Pf b c H ne c' H' n1→ASlX P G (prC b c n0) nx0 (k+1) ops os (putE e d (.tup [])) H' n1 K)
  (hg:gd ops e ⟨d,op,ty,pos,af,g⟩=some true:=by first | rfl | (simp [*];done)) (hq:callA (rd G e) op=some (f,args):=by simp [*]) (he:enters P f=true:=by kernel_rfl):ASlX P G (prC b c n0) nx0 k ops (⟨d,op,ty,pos,af,g⟩::os) e H ne K:=by
 obtain⟨p1,f1⟩:=hp.det (T':=T') hl;refine ASlX.callX hg hq he (ACall.det E hp hE hc) (Nat.le_succ _) (fun hne x hx hx2 hn=>?_) (fun x hx=>?_) (h _ _ _ p1 f1)
 ·unfold prH;rw [if_neg (by omega),if_neg (fun e=>by rw [e,hp.cell] at hn;cases hn)];cases hd:drpC H c x with
  | none=>rfl
  | some k=>rw [(drpC_some hd).1] at hn;cases hn
 ·unfold prH;rw [if_neg (fun e=>hx (.inr (.inr (by omega)))),if_neg (fun e=>hx (.inl e)),drpC_off (Classical.byContradiction fun ho=>hx (.inr (.inl ho)))]
end
/-- The steps of a drawn region ahead of a call on the printer. -/
theorem gX {X X':Prop}(k:X')(f:Hd X'→X:=by
 intro h
 repeat (first | apply ASlX.step;(focus simp [*,-Option.some.injEq];rfl);(focus first | exact BlindX.pure rfl | exact BlindX.eff rfl | (refine BlindX.look fun H1 hl1=>?_;simp [*];done) | (refine BlindX.look fun H1 hl1=>?_;have hk1:=hl1 _ (by assumption);simp [hk1, *];done)) | refine ASlX.nil ?_;try simp only [Then,InBlock,reduceIte,Nat.reduceEqDiff])
 exact h.out):X:=f ⟨k⟩
end Ax
end
section
open Lx
namespace Lx
/-- Tokens as lex.Tokens gives them, as far as the parser leans on it. -/
structure TWF (ts:List Tok):Prop where
 pos:0<ts.length
 kind:(tk ts (ts.length-1)).kind=5
 text:(tk ts (ts.length-1)).text=[]
 n:∀ t∈ts,t.n<9223372036854775808
 len:ts.length≤100000
end Lx
end
section
open Lx
namespace Lx
/-- The texts that the reference asks for. -/
def kmList:List Bytes:=kwList++markList
/-- Tokens, as far as the reference's parser leans on them. -/
structure TWR (ts:List Tok):Prop where
 wf:TWF ts
 km:∀ i x,x∈kmList→isT ts i x=true→(tk ts i).kind=2∨(tk ts i).kind=4
 mks:∀ i x,x∈markList→isT ts i x=true→(tk ts i).kind=4
theorem TWR.kt {ts:List Tok}(h:TWR ts):KT ts:=⟨fun i hk=>by
 constructor
 ·cases ho:opB ts i with
  | false=>rfl
  | true=>have:=h.km i [40] (by decide) ho;omega
 ·cases ho:clB ts i with
  | false=>rfl
  | true=>have:=h.km i [41] (by decide) ho;omega⟩
end Lx
end
end Go.Proofs.YtmlafcimjhnhhaaDoor
