/-
  ref09's faults of fields, methods and classes, walked (printed by genrfault3.py).
-/
import Derived.Test.YtmlafcimjhnhhaaDoorJmRefFaultS
import Derived.Test.YtmlafcimjhnhhaaDoorJmJpAu
import Derived.Test.YtmlafcimjhnhhaaDoorJmJpAn
set_option linter.unusedSectionVars false
set_option linter.unusedSimpArgs false
set_option linter.unnecessarySimpa false
set_option linter.unusedVariables false
namespace Go.Proofs.YtmlafcimjhnhhaaDoor
section
open Lx Go.RowKit
set_option maxHeartbeats 2000000 in
theorem ref_fields (l:List Fld)(a:Option Addr)(n c:Nat)(w:World)(h:IsList Any w 2 IsFld l (.slice a n c))(hB:∀ x∈l,FldB x) :
  Calls Tryd.prog 37 #[.slice a n c] w fun r w'=>r=.returned (.int .i64 (fldsFault l:Int))∧Below w.heap.size w w':=by
 obtain⟨rfl,hm,hat⟩:=h.fldAt;unfold maxLen at hm;have HAT:=Lib.hid hat;have HBX:=Lib.hid hB;clear h hat hB;go_enter Tryd.func37,Tryd.ntmps37;go_wp2_with fail
 go_loopw [3] (fun i wr=>LimRelF fldFault l w i wr) (fun i _=>l.length-(intOf i).toNat)
 case atStart=>exact⟨0,Nat.zero_le _,rfl,fun k hk=>by omega,.refl _ _⟩
 case round =>
  obtain⟨j,hj,rfl,h0,hb⟩:=hrel;have H0:=Lib.hid h0;clear h0
  by_cases hlt:j<l.length
  ·obtain⟨g,off,rfl,hgl,x0,x1⟩:=HAT.out j hlt;rw [← hb.cell (p:=⟨g,_,none⟩) hgl] at x0 x1;have hgw:g<wr.heap.size:=Nat.lt_of_lt_of_le hgl hb.size;obtain⟨f,hf⟩:∃ f,l[j]=f:=⟨_,rfl⟩;have hfb:=HBX.out _ (List.getElem_mem hlt);rw [hf] at x0 x1 hfb;have HF:=Lib.hid hf;have HFB:=Lib.hid hfb;have HB:=Lib.hid hb;have X1:=Lib.hid x1;have hj1:(j:Int)<(l.length:Int):=by omega
   have hj0:(0:Int)≤(j:Int):=by omega
   clear hb hf hfb x1;cases hI:isIdent f.name
   ·have HZ:Hid (fldFault l[j]=5):=by show _=_;rw [HF.out];unfold fldFault;rw [if_pos hI]
    rw [← strOf_data f.name] at hI;go_wp2_with fail;refine (ref_Ident _ _ (by rw [strOf_size];exact HFB.out.1)).mono ?_;rintro e w2 ⟨rfl,hb2⟩;have HB2:=Lib.hid (HB.out.trans (hb2.mono HB.out.size));clear hb2;go_wp2_with fail;go_ret;refine⟨?_,HB2.out⟩
    show _=Ending.returned (.int .i64 ((firstLim fldFault l:Nat):Int))
    rw [firstLim_take _ _ j hlt H0.out,HZ.out];rfl
   have HI:=Lib.hid hI;rw [← strOf_data f.name] at hI;go_wp2_with fail;refine (ref_Ident _ _ (by rw [strOf_size];exact HFB.out.1)).mono ?_;rintro e w2 ⟨rfl,hb2⟩;have HB2:=Lib.hid (HB.out.trans (hb2.mono HB.out.size));have z1:w2.cell? ⟨g,off+j*2+1,none⟩=some (.string (strOf f.typ)):=(hb2.cell (p:=⟨g,off+j*2+1,none⟩) hgw).trans X1.out;have hgw2:g<w2.heap.size:=Nat.lt_of_lt_of_le hgw hb2.size;clear hb2 x0;cases hT:isType f.typ
   ·have HZ:Hid (fldFault l[j]=8):=by show _=_;rw [HF.out];unfold fldFault;rw [if_neg (by rw [HI.out];simp),if_pos hT]
    go_wp2_with fail;refine (ref_typ _ _ HFB.out.2).mono ?_;rintro e w3 ⟨rfl,hb3⟩;have HB3:=Lib.hid (HB2.out.trans (hb3.mono HB2.out.size));clear hb3;go_wp2_with fail;go_ret;refine⟨?_,HB3.out⟩
    show _=Ending.returned (.int .i64 ((firstLim fldFault l:Nat):Int))
    rw [firstLim_take _ _ j hlt H0.out,HZ.out];rfl
   have HZ:Hid (fldFault l[j]=0):=by show _=_;rw [HF.out];unfold fldFault;rw [if_neg (by rw [HI.out];simp),if_neg (by rw [hT];simp)]
   go_wp2_with fail;refine (ref_typ _ _ HFB.out.2).mono ?_;rintro e w3 ⟨rfl,hb3⟩;have HB3:=Lib.hid (HB2.out.trans (hb3.mono HB2.out.size));clear hb3 z1;go_wp2_with fail
   go_roundw
   case rel =>
    refine⟨j+1,by omega,by go_num,fun k hk=>?_,HB3.out⟩
    by_cases hkj:k<j
    ·exact H0.out k hkj
    ·obtain rfl:k=j:=by omega
     exact HZ.out
   case measure=>simp [intOf];omega
  ·have HB:=Lib.hid hb;clear hb;go_wp2_with fail;go_ret;refine⟨?_,HB.out⟩
   show _=Ending.returned (.int .i64 ((firstLim fldFault l:Nat):Int))
   rw [firstLim_zero _ _ fun i hi=>H0.out i (by omega)];rfl
set_option maxHeartbeats 2000000 in
theorem ref_method (d:Nat)(e:Me)(nm:ByteArray)(sb:Bool)(a1:Option Addr)(n1 c1:Nat)(rs:ByteArray)(a2:Option Addr)(n2 c2:Nat)(w:World)(h:IsMe Any w d e [.string nm,.bool sb,.slice a1 n1 c1,.string rs,.slice a2 n2 c2])(hB:MethB d e) :
  Calls Tryd.prog 29 #[.agg #[.string nm,.bool sb,.slice a1 n1 c1,.string rs,.slice a2 n2 c2]] w fun r w'=>r=.returned (.int .i64 (meFault e:Int))∧Below w.heap.size w w':=by
 obtain⟨nn,rr,ps,bd,rfl,rfl,rfl,hl1,hl2⟩:=h.flds;obtain rfl:=hl1.len.1;obtain rfl:=hl2.len.1;obtain⟨hnn,hrr,hps,hbd⟩:=hB;have H1:Hid (∀ x,Below w.heap.size w x→IsList Any x 2 IsFld ps (.slice a1 ps.length c1)):=fun x hx=>hl1.kept (kept_any hx) (by omega) fun _ _ _ h=>h
 have H2:Hid (∀ x,Below w.heap.size w x→IsList Any x 6 (IsSt Any x d) bd (.slice a2 bd.length c2)):=fun x hx=>hl2.kept (kept_any hx) (by omega) fun _ _ _=>IsSt.kept (kept_any hx) _ _ _
 have Bnn:Hid (nn.length≤maxLen):=hnn;have Brr:Hid (rr.length≤maxLen):=hrr;have BP:Hid (∀ x∈ps,FldB x):=hps;have BB:Hid (∀ x∈bd,StB d x):=hbd;clear h hl1 hl2 hnn hrr hps hbd;cases hI:isIdent nn
 ·have HR:Hid (meFault ⟨nn,sb,ps,rr,bd⟩=5):=by show _=_;unfold meFault;rw [if_pos hI]
  rw [← strOf_data nn] at hI;go_enter Tryd.func29,Tryd.ntmps29;go_wp2_with fail;refine (ref_Ident _ _ (by rw [strOf_size];exact Bnn.out)).mono ?_;rintro e w2 ⟨rfl,hb2⟩;have HB2:=Lib.hid (((Below.refl _ _).alloc (Nat.le_refl _) _).trans (hb2.mono (by simp)));have hs2:w.heap.size<w2.heap.size:=by have:=hb2.size;simp at this;omega
  clear hb2;go_wp2_with fail;go_ret;exact⟨by rw [HR.out];rfl,HB2.out⟩
 have HI:Hid (¬ (isIdent nn=false)):=by show ¬ _;rw [hI];simp
 rw [← strOf_data nn] at hI;go_enter Tryd.func29,Tryd.ntmps29;go_wp2_with fail;refine (ref_Ident _ _ (by rw [strOf_size];exact Bnn.out)).mono ?_;rintro e w2 ⟨rfl,hb2⟩;have HB2:=Lib.hid (((Below.refl _ _).alloc (Nat.le_refl _) _).trans (hb2.mono (by simp)));have hs2:w.heap.size<w2.heap.size:=by have:=hb2.size;simp at this;omega
 have u22:w2.cell? ⟨w.heap.size,2,none⟩=some (.slice a1 ps.length c1):=(hb2.cell (p:=⟨w.heap.size,2,none⟩) (by simp)).trans (by simp [go_sem]);have u23:w2.cell? ⟨w.heap.size,3,none⟩=some (.string (strOf rr)):=(hb2.cell (p:=⟨w.heap.size,3,none⟩) (by simp)).trans (by simp [go_sem]);have u24:w2.cell? ⟨w.heap.size,4,none⟩=some (.slice a2 bd.length c2):=(hb2.cell (p:=⟨w.heap.size,4,none⟩) (by simp)).trans (by simp [go_sem]);clear hb2;go_wp2_with fail;refine (ref_fields _ _ _ _ _ (H1.out _ HB2.out) BP.out).mono ?_;rintro e w3 ⟨rfl,hb2⟩;have HB3:=Lib.hid (HB2.out.trans (hb2.mono HB2.out.size));have hs3:w.heap.size<w3.heap.size:=Nat.lt_of_lt_of_le hs2 hb2.size;have u33:w3.cell? ⟨w.heap.size,3,none⟩=some (.string (strOf rr)):=(hb2.cell (p:=⟨w.heap.size,3,none⟩) hs2).trans u23;have u34:w3.cell? ⟨w.heap.size,4,none⟩=some (.slice a2 bd.length c2):=(hb2.cell (p:=⟨w.heap.size,4,none⟩) hs2).trans u24;clear hb2 u22 u23 u24
 by_cases hz:fldsFault ps=0
 rotate_left
 ·have hz1:(((fldsFault ps:Nat):Int) != 0)=true:=by rw [bne,beq_eq_false_iff_ne.2 (by omega)];rfl
  have HR:Hid (meFault ⟨nn,sb,ps,rr,bd⟩=fldsFault ps):=by show _=_;unfold meFault;rw [if_neg HI.out,if_pos hz]
  clear hz;go_wp2_with fail;go_ret;exact⟨by rw [HR.out];rfl,HB3.out⟩
 have hz1:(((fldsFault ps:Nat):Int) != 0)=false:=by rw [hz];rfl
 have HZ:Hid (¬ (fldsFault ps≠0)):=by show ¬ _;omega
 clear hz
 by_cases hr:rr=[]
 ·have er:=isEmpty_zero (strOf rr) (by rw [strOf_size,hr];rfl);have HR:Hid (meFault ⟨nn,sb,ps,rr,bd⟩=stsFault bd):=by show _=_;unfold meFault;rw [if_neg HI.out,if_neg HZ.out,if_neg (fun h=>h.1 hr)]
  clear hr;go_wp2_with fail;refine (ref_stmts d (Lib.hid (ref_stmt d)) _ _ _ _ _ (H2.out _ HB3.out) BB.out).mono ?_;rintro e w4 ⟨rfl,hb2⟩;have HB4:=Lib.hid (HB3.out.trans (hb2.mono HB3.out.size));have hs4:w.heap.size<w4.heap.size:=Nat.lt_of_lt_of_le hs3 hb2.size;clear hb2;go_wp2_with fail;go_ret;exact⟨by rw [HR.out];rfl,HB4.out⟩
 have er:=isEmpty_pos (strOf rr) (by rw [strOf_size];exact List.length_pos_iff.2 hr);cases hT:isType rr
 ·have HR:Hid (meFault ⟨nn,sb,ps,rr,bd⟩=8):=by show _=_;unfold meFault;rw [if_neg HI.out,if_neg HZ.out,if_pos ⟨hr,hT⟩]
  clear hr;go_wp2_with fail;refine (ref_typ _ _ Brr.out).mono ?_;rintro e w4 ⟨rfl,hb2⟩;have HB4:=Lib.hid (HB3.out.trans (hb2.mono HB3.out.size));have hs4:w.heap.size<w4.heap.size:=Nat.lt_of_lt_of_le hs3 hb2.size;clear hb2;go_wp2_with fail;go_ret;exact⟨by rw [HR.out];rfl,HB4.out⟩
 have HR:Hid (meFault ⟨nn,sb,ps,rr,bd⟩=stsFault bd):=by show _=_;unfold meFault;rw [if_neg HI.out,if_neg HZ.out,if_neg (fun h=>by rw [hT] at h;exact absurd h.2 (by simp))]
 clear hr;go_wp2_with fail;refine (ref_typ _ _ Brr.out).mono ?_;rintro e w4 ⟨rfl,hb2⟩;have HB4:=Lib.hid (HB3.out.trans (hb2.mono HB3.out.size));have hs4:w.heap.size<w4.heap.size:=Nat.lt_of_lt_of_le hs3 hb2.size;have u44:w4.cell? ⟨w.heap.size,4,none⟩=some (.slice a2 bd.length c2):=(hb2.cell (p:=⟨w.heap.size,4,none⟩) hs3).trans u34;clear hb2 u33 u34;go_wp2_with fail;refine (ref_stmts d (Lib.hid (ref_stmt d)) _ _ _ _ _ (H2.out _ HB4.out) BB.out).mono ?_;rintro e w5 ⟨rfl,hb2⟩;have HB5:=Lib.hid (HB4.out.trans (hb2.mono HB4.out.size));have hs5:w.heap.size<w5.heap.size:=Nat.lt_of_lt_of_le hs4 hb2.size;clear hb2;go_wp2_with fail;go_ret;exact⟨by rw [HR.out];rfl,HB5.out⟩
end
set_option linter.unusedSimpArgs false
set_option linter.unusedVariables false
section
open Lx
namespace Lx
def WfT (t:Bytes):Prop:=t=[105,110,116]∨isIdent t=true
inductive WfE:Ex→Prop
 | int (n:Int) (h1:-9223372036854775808<n) (h2:n<9223372036854775808):WfE (.mk 1 n [] [] [])
 | null:WfE (.mk 2 0 [] [] [])
 | var (x:Bytes) (hx:isIdent x=true):WfE (.mk 3 0 [] x [])
 | this:WfE (.mk 4 0 [] [] [])
 | input:WfE (.mk 5 0 [] [] [])
 | bin (op:Int) (h:1≤op∧op≤5) {a b:Ex} (ha:WfE a) (hb:WfE b):WfE (.mk 6 op [] [] [a,b])
 | new (x:Bytes) (hx:isIdent x=true):WfE (.mk 7 0 [] x [])
 | field (m:Bytes) (hm:isIdent m=true) {k:Ex} (hk:WfE k):WfE (.mk 8 0 [] m [k])
 | call (m:Bytes) (hm:isIdent m=true) {k:Ex} {es:List Ex} (hk:WfE k) (he:∀ e∈es,WfE e):WfE (.mk 9 0 [] m (k::es))
 | static (o m:Bytes) (ho:isIdent o=true) (hm:isIdent m=true) {es:List Ex} (he:∀ e∈es,WfE e):WfE (.mk 10 0 o m es)
inductive WfS:St→Prop
 | var0 (x t:Bytes) (hx:isIdent x=true) (ht:WfT t):WfS (.mk 1 x t [] [] [])
 | var1 (x t:Bytes) (hx:isIdent x=true) (ht:WfT t) {e:Ex} (he:WfE e):WfS (.mk 1 x t [e] [] [])
 | assign (x:Bytes) (hx:isIdent x=true) {e:Ex} (he:WfE e):WfS (.mk 2 x [] [e] [] [])
 | store (m:Bytes) (hm:isIdent m=true) {k e:Ex} (hk:WfE k) (he:WfE e):WfS (.mk 3 m [] [k,e] [] [])
 | if {e:Ex} (he:WfE e) {b c:List St} (hb:∀ s∈b,WfS s) (hc:∀ s∈c,WfS s):WfS (.mk 4 [] [] [e] b c)
 | while {e:Ex} (he:WfE e) {b:List St} (hb:∀ s∈b,WfS s):WfS (.mk 5 [] [] [e] b [])
 | try (x t:Bytes) (hx:isIdent x=true) (ht:WfT t) {b c:List St} (hb:∀ s∈b,WfS s) (hc:∀ s∈c,WfS s):WfS (.mk 6 x t [] b c)
 | throw {e:Ex} (he:WfE e):WfS (.mk 7 [] [] [e] [] [])
 | return0:WfS (.mk 8 [] [] [] [] [])
 | return1 {e:Ex} (he:WfE e):WfS (.mk 8 [] [] [e] [] [])
 | call {e:Ex} (he:WfE e) (hk:e.kind=9∨e.kind=10):WfS (.mk 9 [] [] [e] [] [])
def WfF (f:Fld):Prop:=isIdent f.name=true∧WfT f.typ
structure WfM (m:Me):Prop where
 name:isIdent m.name=true
 params:∀ f∈m.params,WfF f
 result:m.result=[]∨WfT m.result
 body:∀ s∈m.body,WfS s
structure WfC (c:Cl):Prop where
 name:isIdent c.name=true
 super:c.super=[]∨isIdent c.super=true
 fields:∀ f∈c.fields,WfF f
 methods:∀ m∈c.methods,WfM m
/-- Tokens as the lexer gives them: identifiers, numbers. -/
def TId (ts:List Tok):Prop:=∀ i,((tk ts i).kind=1→isIdent (tk ts i).text=true)∧((tk ts i).kind=3→(tk ts i).n<9223372036854775808)
section
variable {ts:List Tok} (hI:TId ts)
include hI
def Wfd (E:Nat→PR Ex):Prop:=∀ i e j,E i=.ok (e,j)→WfE e
/-- What is known of a post by its shape. -/
def WfO (x:Ex×Nat):Prop:=WfE x.1∧(x.2=1→isIdent x.1.name=true)∧(x.2=2→∃ m k,x.1=.mk 8 0 [] m [k]∧isIdent m=true∧WfE k)∧(x.2=3→x.1.kind=9∨x.1.kind=10)
omit hI in
theorem WfO.of0 {e:Ex}(h:WfE e):WfO (e,0):=⟨h,fun h=>(by cases h),fun h=>(by cases h),fun h=>(by cases h)⟩
section
variable {E:Nat→PR Ex} (hE:Wfd E)
include hE
end
end
end Lx
end
end Go.Proofs.YtmlafcimjhnhhaaDoor
