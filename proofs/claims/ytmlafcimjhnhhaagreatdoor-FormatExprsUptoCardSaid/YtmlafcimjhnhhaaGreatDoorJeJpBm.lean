/-
  ref09's faults of statements, walked (printed by genrfault2.py).
-/
import Derived.Test.YtmlafcimjhnhhaaGreatDoorJeRefFaultE
import Derived.Test.YtmlafcimjhnhhaaGreatDoorJeJpBe
import Derived.Test.YtmlafcimjhnhhaaGreatDoorJeJpAn
import Derived.Test.YtmlafcimjhnhhaaGreatDoorJeJpAs
import Derived.Test.YtmlafcimjhnhhaaGreatDoorJeJpBh
set_option linter.unusedSectionVars false
set_option linter.unusedSimpArgs false
set_option linter.unnecessarySimpa false
set_option linter.unusedVariables false
namespace Go.Proofs.YtmlafcimjhnhhaaGreatDoor
section
open Lx Go.RowKit
set_option linter.unusedSimpArgs false
set_option maxHeartbeats 2000000 in
theorem ref_Faults (d:Nat):∀ (l:List Ex) (a:Option Addr) (n c:Nat) (w:World),IsList Any w 5 (IsEx Any w d) l (.slice a n c)→(∀ x∈l,ExB d x) →
  Calls Tryz.prog 19 #[.slice a n c] w fun r w'=>r=.returned (.int .i64 (exsFault l:Int))∧Below w.heap.size w w':=by
 induction d with
 | zero =>
   intro l a n c w h hB;obtain⟨rfl,hm,hat⟩:=h.exAt;cases l with
   | cons x l=>exact absurd (hB x (by simp)) (by simp [ExB])
   | nil =>
     clear h hat hB;go_enter Tryz.func19,Tryz.ntmps19;go_wp2_with fail
     go_loopw [3] (fun i wr=>LimRelF exFault [] w i wr) (fun i _=>0-(intOf i).toNat)
     case atStart=>exact⟨0,Nat.zero_le _,rfl,fun k hk=>by omega,.refl _ _⟩
     case round =>
      obtain⟨j,hj,rfl,h0,hb⟩:=hrel;obtain rfl:j=0:=by simpa using hj
      have HB:=Lib.hid hb;clear hb h0;go_wp2_with fail;go_ret;exact⟨rfl,HB.out⟩
 | succ d ih =>
   intro l a n c w h hB;obtain⟨rfl,hm,hat⟩:=h.exAt;unfold maxLen at hm;have HAT:=Lib.hid hat;have HBX:=Lib.hid hB;have IH:=Lib.hid ih;have HR:=Lib.hid (exsFault_first l);clear h hat hB ih;go_enter Tryz.func19,Tryz.ntmps19;go_wp2_with fail
   go_loopw [3] (fun i wr=>LimRelF exFault l w i wr) (fun i _=>l.length-(intOf i).toNat)
   case atStart=>exact⟨0,Nat.zero_le _,rfl,fun k hk=>by omega,.refl _ _⟩
   case round =>
    obtain⟨j,hj,rfl,h0,hb⟩:=hrel;have H0:=Lib.hid h0;clear h0
    by_cases hlt:j<l.length
    ·obtain⟨g,off,k1,m1,o1,nm1,a1,n1,c1,rfl,hgl,x0,x1,x2,x3,x4,hx⟩:=HAT.out j hlt;rw [← hb.cell (p:=⟨g,_,none⟩) hgl] at x0 x1 x2 x3 x4;have hgw:g<wr.heap.size:=Nat.lt_of_lt_of_le hgl hb.size;obtain⟨oo,mm,ks,he,rfl,rfl,hl⟩:=(IsEx.kept (kept_any hb) _ _ _ hx).flds;have hbx:=HBX.out _ (List.getElem_mem hlt);rw [he] at hbx;obtain⟨_,_,hoo,hmm,hks⟩:=hbx;obtain rfl:=hl.len.1;have HKL:=Lib.hid hl.len.2;have H1:Hid (∀ x,Below wr.heap.size wr x→IsList Any x 5 (IsEx Any x d) ks (.slice a1 ks.length c1)):=fun x hx=>hl.kept (kept_any hx) (by omega) fun _ _ _=>IsEx.kept (kept_any hx) _ _ _
     have HE:=Lib.hid he;have Boo:=Lib.hid hoo;have Bmm:=Lib.hid hmm;have BK:=Lib.hid hks;have HB:=Lib.hid hb;have X4:=Lib.hid x4;have hj1:(j:Int)<(l.length:Int):=by omega
     have hj0:(0:Int)≤(j:Int):=by omega
     clear hb hx hl hoo hmm hks he;go_wp2_with fail;refine (ref_own _ _ _ _ _ _ _ _ HKL.out Boo.out Bmm.out).mono ?_;rintro e w2 ⟨rfl,hb2⟩;have HB2:=Lib.hid hb2;have z4:w2.cell? ⟨g,off+j*5+4,none⟩=some (.slice a1 ks.length c1):=(hb2.cell (p:=⟨g,off+j*5+4,none⟩) hgw).trans X4.out;have hgw2:g<w2.heap.size:=Nat.lt_of_lt_of_le hgw hb2.size;clear hb2 x0 x1 x2 x3 x4
     by_cases hz:ownFault k1 m1 oo mm ks.length=0
     rotate_left
     ·have hz0:(((ownFault k1 m1 oo mm ks.length:Nat):Int) == 0)=false:=by rw [beq_eq_false_iff_ne];omega
      have hz1:(((ownFault k1 m1 oo mm ks.length:Nat):Int) != 0)=true:=by rw [bne,hz0];rfl
      have HZ:Hid (exFault l[j]=ownFault k1 m1 oo mm ks.length):=by show _=_;rw [HE.out,exFault,if_pos hz]
      have HN:=Lib.hid hz;clear hz;go_wp2_with fail;go_ret;refine⟨?_,HB.out.trans (HB2.out.mono HB.out.size)⟩;rw [HR.out,firstLim_take _ _ j hlt H0.out,HZ.out,if_pos HN.out];rfl
     have HZ:Hid (exFault l[j]=exsFault ks):=by show _=_;rw [HE.out,exFault,if_neg (by rw [hz];simp)]
     have hz0:(((ownFault k1 m1 oo mm ks.length:Nat):Int) == 0)=true:=by rw [hz];rfl
     clear hz;go_wp2_with fail;refine (IH.out _ _ _ _ _ (H1.out _ HB2.out) BK.out).mono ?_;rintro e w3 ⟨rfl,hb3⟩;have HB3:=Lib.hid (HB.out.trans ((HB2.out.trans (hb3.mono HB2.out.size)).mono HB.out.size));clear hb3 z4
     by_cases hy:exsFault ks=0
     ·have HY:=Lib.hid hy;have hy1:(((exsFault ks:Nat):Int) != 0)=false:=by rw [hy];rfl
      clear hy;go_wp2_with fail
      go_roundw
      case rel =>
       refine⟨j+1,by omega,by go_num,fun k hk=>?_,HB3.out⟩
       by_cases hkj:k<j
       ·exact H0.out k hkj
       ·obtain rfl:k=j:=by omega
        rw [HZ.out];exact HY.out
      case measure=>simp [intOf];omega
     ·have hy1:(((exsFault ks:Nat):Int) != 0)=true:=by rw [bne,beq_eq_false_iff_ne.2 (by omega)];rfl
      have HY:=Lib.hid hy;clear hy;go_wp2_with fail;go_ret;refine⟨?_,HB3.out⟩;rw [HR.out,firstLim_take _ _ j hlt H0.out,HZ.out,if_pos HY.out];rfl
    ·have HB:=Lib.hid hb;clear hb;go_wp2_with fail;go_ret;refine⟨?_,HB.out⟩;rw [HR.out,firstLim_zero _ _ fun i hi=>H0.out i (by omega)];rfl
end
set_option linter.unusedVariables false
section
open Lx
namespace Lx
def WfT (t:Bytes):Prop:=t=[105,110,116]∨isIdent t=true
inductive WfE:Ex→Prop
 | int (n:Int) (h1:-9223372036854775808<n) (h2:n<9223372036854775808):WfE (.mk 1 n [] [] [])
 | null:WfE (.mk 2 0 [] [] [])
 | var (x:Bytes) (hx:isIdent x=true):WfE (.mk 3 0 [] x [])
 | this:WfE (.mk 4 0 [] [] [])
 | input:WfE (.mk 5 0 [] [] [])
 | bin (op:Int) (h:1≤op∧op≤5) {a b:Ex} (ha:WfE a) (hb:WfE b):WfE (.mk 6 op [] [] [a,b])
 | new (x:Bytes) (hx:isIdent x=true):WfE (.mk 7 0 [] x [])
 | field (m:Bytes) (hm:isIdent m=true) {k:Ex} (hk:WfE k):WfE (.mk 8 0 [] m [k])
 | call (m:Bytes) (hm:isIdent m=true) {k:Ex} {es:List Ex} (hk:WfE k) (he:∀ e∈es,WfE e):WfE (.mk 9 0 [] m (k::es))
 | static (o m:Bytes) (ho:isIdent o=true) (hm:isIdent m=true) {es:List Ex} (he:∀ e∈es,WfE e):WfE (.mk 10 0 o m es)
inductive WfS:St→Prop
 | var0 (x t:Bytes) (hx:isIdent x=true) (ht:WfT t):WfS (.mk 1 x t [] [] [])
 | var1 (x t:Bytes) (hx:isIdent x=true) (ht:WfT t) {e:Ex} (he:WfE e):WfS (.mk 1 x t [e] [] [])
 | assign (x:Bytes) (hx:isIdent x=true) {e:Ex} (he:WfE e):WfS (.mk 2 x [] [e] [] [])
 | store (m:Bytes) (hm:isIdent m=true) {k e:Ex} (hk:WfE k) (he:WfE e):WfS (.mk 3 m [] [k,e] [] [])
 | if {e:Ex} (he:WfE e) {b c:List St} (hb:∀ s∈b,WfS s) (hc:∀ s∈c,WfS s):WfS (.mk 4 [] [] [e] b c)
 | while {e:Ex} (he:WfE e) {b:List St} (hb:∀ s∈b,WfS s):WfS (.mk 5 [] [] [e] b [])
 | try (x t:Bytes) (hx:isIdent x=true) (ht:WfT t) {b c:List St} (hb:∀ s∈b,WfS s) (hc:∀ s∈c,WfS s):WfS (.mk 6 x t [] b c)
 | throw {e:Ex} (he:WfE e):WfS (.mk 7 [] [] [e] [] [])
 | return0:WfS (.mk 8 [] [] [] [] [])
 | return1 {e:Ex} (he:WfE e):WfS (.mk 8 [] [] [e] [] [])
 | call {e:Ex} (he:WfE e) (hk:e.kind=9∨e.kind=10):WfS (.mk 9 [] [] [e] [] [])
def WfF (f:Fld):Prop:=isIdent f.name=true∧WfT f.typ
structure WfM (m:Me):Prop where
 name:isIdent m.name=true
 params:∀ f∈m.params,WfF f
 result:m.result=[]∨WfT m.result
 body:∀ s∈m.body,WfS s
structure WfC (c:Cl):Prop where
 name:isIdent c.name=true
 super:c.super=[]∨isIdent c.super=true
 fields:∀ f∈c.fields,WfF f
 methods:∀ m∈c.methods,WfM m
/-- Tokens as the lexer gives them: identifiers, numbers. -/
def TId (ts:List Tok):Prop:=∀ i,((tk ts i).kind=1→isIdent (tk ts i).text=true)∧((tk ts i).kind=3→(tk ts i).n<9223372036854775808)
section
variable {ts:List Tok} (hI:TId ts)
include hI
def Wfd (E:Nat→PR Ex):Prop:=∀ i e j,E i=.ok (e,j)→WfE e
/-- What is known of a post by its shape. -/
def WfO (x:Ex×Nat):Prop:=WfE x.1∧(x.2=1→isIdent x.1.name=true)∧(x.2=2→∃ m k,x.1=.mk 8 0 [] m [k]∧isIdent m=true∧WfE k)∧(x.2=3→x.1.kind=9∨x.1.kind=10)
omit hI in
theorem WfO.of0 {e:Ex}(h:WfE e):WfO (e,0):=⟨h,fun h=>(by cases h),fun h=>(by cases h),fun h=>(by cases h)⟩
section
variable {E:Nat→PR Ex} (hE:Wfd E)
include hE
end
end
end Lx
end
section
open Lx
namespace Lx
/-- The numbers of an expression are 64 bits wide. -/
inductive NumB:Ex→Prop
 | mk (k n:Int) (o m:Bytes) (ks:List Ex) (h1:-9223372036854775808≤n) (h2:n<9223372036854775808) (h:∀ x∈ks,NumB x):NumB (.mk k n o m ks)
inductive NumS:St→Prop
 | mk (k:Int) (nm ty:Bytes) (es:List Ex) (b c:List St) (h:∀ x∈es,NumB x) (hb:∀ x∈b,NumS x) (hc:∀ x∈c,NumS x):NumS (.mk k nm ty es b c)
theorem first0 {α:Type}{f:α→Nat}{l:List α}(h:firstLim f l=0):∀ x∈l,f x=0:=by
 induction l with
 | nil=>intro x hx;cases hx
 | cons y l ih =>
   rw [firstLim] at h;split at h
   ·rename_i h1;exact absurd h h1
   ·rename_i h1;intro x hx;rcases List.mem_cons.1 hx with rfl | hx
    ·simpa using h1
    ·exact ih h x hx
theorem ownFault0 {k n:Int}{o m:Bytes}{len:Nat}(h:ownFault k n o m len=0):(1≤k∧k≤10)∧(k=6→1≤n∧n≤5)∧(k=1∨k=6∨n=0)∧(k=10∨o=[])∧(namedK k=true∨m=[])∧kidsOk k len=true∧(k=1→n≠-9223372036854775808)∧(k=10→isIdent o=true)∧(namedK k=true→isIdent m=true):=by
 unfold ownFault at h;split at h;· cases h
 rename_i h1;split at h;· cases h
 rename_i h2;split at h;· cases h
 rename_i h3;split at h;· cases h
 rename_i h4;refine⟨by omega,fun hk=>by omega,?_,?_,?_,?_,fun hk hn=>h3 ⟨hk,hn⟩,fun hk=>?_,fun hk=>?_⟩
 ·by_cases a:k=1;exact .inl a
  by_cases b:k=6;exact .inr (.inl b)
  by_cases c:n=0;exact .inr (.inr c)
  exact (h2 (.inl ⟨a,b,c⟩)).elim
 ·by_cases a:k=10;exact .inl a
  by_cases b:o=[];exact .inr b
  exact (h2 (.inr (.inl ⟨a,b⟩))).elim
 ·cases a:namedK k with
  | true=>exact .inl rfl
  | false =>
    by_cases b:m=[];exact .inr b
    exact (h2 (.inr (.inr (.inl ⟨a,b⟩)))).elim
 ·cases a:kidsOk k len with
  | true=>rfl
  | false=>exact (h2 (.inr (.inr (.inr a)))).elim
 ·cases a:isIdent o with
  | true=>rfl
  | false=>exact (h4 (.inl ⟨hk,a⟩)).elim
 ·cases a:isIdent m with
  | true=>rfl
  | false=>exact (h4 (.inr ⟨hk,a⟩)).elim
theorem len_one {α:Type}{l:List α}(h:l.length=1):∃ a,l=[a]:=by
 match l,h with
 | [a],_=>exact⟨a,rfl⟩
theorem len_two {α:Type}{l:List α}(h:l.length=2):∃ a b,l=[a,b]:=by
 match l,h with
 | [a,b],_=>exact⟨a,b,rfl⟩
theorem wfE_of:∀ {e:Ex},NumB e→exFault e=0→WfE e:=by
 intro e h
 induction h with
 | mk k n o m ks h1 h2 _ ih =>
   intro hf;rw [exFault] at hf;split at hf
   ·rename_i h0;exact absurd hf h0
   ·rename_i h0;rw [exsFault_first] at hf;have hk:=fun x hx=>ih x hx (first0 hf x hx)
    obtain⟨a1,a2,a3,a4,a5,a6,a7,a8,a9⟩:=ownFault0 (by simpa using h0);clear h0 hf ih;have:k=1∨k=2∨k=3∨k=4∨k=5∨k=6∨k=7∨k=8∨k=9∨k=10:=by omega
    rcases this with rfl | rfl | rfl | rfl | rfl | rfl | rfl | rfl | rfl | rfl <;> simp [namedK,kidsOk] at a3 a4 a5 a6 a7 a8 a9
    ·subst a4;subst a5;subst a6;exact .int n (by omega) h2
    ·subst a3;subst a4;subst a5;subst a6;exact .null
    ·subst a3;subst a4;subst a6;exact .var m a9
    ·subst a3;subst a4;subst a5;subst a6;exact .this
    ·subst a3;subst a4;subst a5;subst a6;exact .input
    ·obtain⟨x,y,rfl⟩:=len_two a6;subst a4;subst a5;exact .bin n (a2 rfl) (hk x (by simp)) (hk y (by simp))
    ·subst a3;subst a4;subst a6;exact .new m a9
    ·obtain⟨x,rfl⟩:=len_one a6;subst a3;subst a4;exact .field m a9 (hk x (by simp))
    ·cases ks with
     | nil=>simp at a6
     | cons x ks =>
       subst a3;subst a4;exact .call m a9 (hk x (by simp)) fun e he=>hk e (by simp [he])
    ·subst a3;exact .static o m a8 a9 hk
end Lx
end
section
open Lx
open Go.RowKit (wrap64)
namespace Lx
/-! depths and numbers that an int holds -/
theorem w64_id {n:Int}(h:-9223372036854775808≤n∧n≤9223372036854775807):wrap64 n=n:=by unfold wrap64;omega
mutual
theorem deep_eq:∀ e:Ex,exDepth e≤9223372036854775807→exDeep e=exDepth e
 | .mk k n o m ks,h=>by
   rw [exDepth] at h;rw [exDeep,exDepth,deeps_eq ks (by omega),w64_id (by omega)];omega
theorem deeps_eq:∀ l:List Ex,exsDepth l≤9223372036854775807→exsDeep l=exsDepth l
 | [],_=>by rw [exsDeep,exsDepth];rfl
 | e::l,h=>by
   rw [exsDepth] at h;rw [exsDeep,exsDepth,deep_eq e (by omega),deeps_eq l (by omega)];omega
end
end Lx
/-! bounds of what is read -/
theorem numB_of:∀ {d:Nat} {e:Ex},ExB d e→NumB e
 | 0,_,h=>h.elim
 | d+1,.mk k n o m ks,h=>.mk k n o m ks h.2.1.1 (Int.lt_of_le_of_lt h.2.1.2 (by decide)) fun x hx=>numB_of (h.2.2.2.2 x hx)
end
end Go.Proofs.YtmlafcimjhnhhaaGreatDoor
