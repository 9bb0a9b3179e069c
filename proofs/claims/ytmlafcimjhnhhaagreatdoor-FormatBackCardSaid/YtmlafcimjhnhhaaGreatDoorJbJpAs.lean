/-
  The package-level variables of format.
-/
import Derived.Test.YtmlafcimjhnhhaaGreatDoorJbJpAr
import Derived.Lib.ItoaNum
import Derived.Test.YtmlafcimjhnhhaaGreatDoorJbJpAn
import Derived.Test.YtmlafcimjhnhhaaGreatDoorJbJpAj
import Derived.Deep.QuietTactic
import Derived.BigQuiet
import Derived.Deep.RegionHeld3
import Derived.Deep.RegionWith
import Derived.Deep.DrawnRows
set_option linter.unusedSectionVars false
set_option linter.unusedSimpArgs false
set_option linter.unnecessarySimpa false
set_option linter.unusedVariables false
namespace Go.Proofs.YtmlafcimjhnhhaaGreatDoor
section
open Lx Ax Go.RowKit
/-- The package-level variables. -/
def fmG:Nat→CV:=fun g=>match Nat.beq g 1 with
 | true=>.rop (kwList.map .str)
 | false=>match Nat.beq g 0 with
   | true=>.rop ([[43],[45],[42],[60],[61,61]].map .str)
   | false=>match Nat.beq g 2 with
     | true=>.rop (Lib.pow10Tab.map (.int .u64))
     | false=>.any
theorem fmG_pu (g:Nat):puV (fmG g)=true:=by
 unfold fmG;cases Nat.beq g 1 with
 | true=>rfl
 | false =>
   cases Nat.beq g 0 with
   | true=>rfl
   | false =>
     cases Nat.beq g 2 with
     | true =>
       show puL _=true
       generalize Lib.pow10Tab=l
       induction l with
       | nil=>rfl
       | cons a l ih=>simp [puL,puV,ih]
     | false=>rfl
end
set_option linter.unusedVariables false
section
open Ax Go.RowKit
def fmSp (_:Call1):Call1:=fun _ _ _ _=>none
theorem fmSp_ok {call:Call1}:CallOk Tryz.prog fmG (fmSp call):=by
 intro f args h nx r h' nx' hr;cases hr
set_option maxRecDepth 1000000 in
theorem fm_awake:FCall1 Tryz.prog fmG 8 [] (.bool true) :=
 FCall1.run (runFS_sound (P:=Tryz.prog) (G:=fmG) (sp:=fmSp) (lf:=1000) (fun c hc=>fmSp_ok) 60) fmG_pu rfl (by kernel_rfl) rfl
end
section
namespace Lx
def isType (t:Bytes):Bool:=t == [105,110,116] || isIdent t
def namedK (k:Int):Bool:=k == 3 || decide (7≤k)
def kidsOk (k:Int)(n:Nat):Bool:=if k=6 then n == 2 else if k=8 then n == 1 else if k=9 then decide (1≤n) else if k=10 then true else n == 0
/-- The first fault of an expression without its kids. -/
def ownFault (k n:Int)(o m:Bytes)(len:Nat):Nat :=
 if k<1∨10<k∨(k=6∧(n<1∨5<n)) then 12
 else if (k≠1∧k≠6∧n≠0)∨(k≠10∧o≠[])∨(namedK k=false∧m≠[])∨kidsOk k len=false then 1
 else if k=1∧n=-9223372036854775808 then 4
 else if (k=10∧isIdent o=false)∨(namedK k=true∧isIdent m=false) then 5
 else 0
mutual
def exFault:Ex→Nat
 | .mk k n o m ks=>if ownFault k n o m ks.length≠0 then ownFault k n o m ks.length else exsFault ks
def exsFault:List Ex→Nat
 | []=>0
 | e::es=>if exFault e≠0 then exFault e else exsFault es
end
theorem exsFault_first (l:List Ex):exsFault l=firstLim exFault l:=by
 induction l with
 | nil=>rfl
 | cons e l ih=>simp only [exsFault,firstLim,ih]
def namedS (k:Int):Bool:=k == 1 || k == 2 || k == 3 || k == 6
def typedS (k:Int):Bool:=k == 1 || k == 6
def bodiedS (k:Int):Bool:=k == 4 || k == 5 || k == 6
def exprsOk (k:Int)(n:Nat):Bool:=if k=1∨k=8 then decide (n≤1) else if k=3 then n == 2 else if k=6 then n == 0 else n == 1
/-- The first fault of a statement ahead of its expressions. -/
def stOwn (k:Int)(nm ty:Bytes)(ne nb nl:Nat):Nat :=
 if k<1∨9<k then 12
 else if (namedS k=false∧nm≠[])∨(typedS k=false∧ty≠[])∨(bodiedS k=false∧0<nb)∨((bodiedS k=false∨k=5)∧0<nl)∨exprsOk k ne=false then 1
 else if namedS k=true∧isIdent nm=false then 5
 else if typedS k=true∧isType ty=false then 8
 else 0
def headKind (l:List Ex):Int:=match l with
 | []=>0
 | e::_=>e.kind
mutual
def stFault:St→Nat
 | .mk k nm ty es b el=>if stOwn k nm ty es.length b.length el.length≠0 then stOwn k nm ty es.length b.length el.length
   else if exsFault es≠0 then exsFault es
   else if k=9∧headKind es≠9∧headKind es≠10 then 12
   else if stsFault b≠0 then stsFault b else stsFault el
def stsFault:List St→Nat
 | []=>0
 | s::l=>if stFault s≠0 then stFault s else stsFault l
end
theorem stsFault_first (l:List St):stsFault l=firstLim stFault l:=by
 induction l with
 | nil=>rfl
 | cons e l ih=>simp only [stsFault,firstLim,ih]
def fldFault (f:Fld):Nat:=if isIdent f.name=false then 5 else if isType f.typ=false then 8 else 0
def fldsFault (l:List Fld):Nat:=firstLim fldFault l
def meFault (m:Me):Nat:=if isIdent m.name=false then 5 else if fldsFault m.params≠0 then fldsFault m.params else if m.result≠[]∧isType m.result=false then 8 else stsFault m.body
def clFault (c:Cl):Nat:=if isIdent c.name=false∨(c.super≠[]∧isIdent c.super=false) then 5 else if fldsFault c.fields≠0 then fldsFault c.fields else firstLim meFault c.methods
open Go.RowKit (wrap64)
mutual
def exDeep:Ex→Int
 | .mk _ _ _ _ ks=>wrap64 (exsDeep ks+1)
def exsDeep:List Ex→Int
 | []=>0
 | e::es=>max (exDeep e) (exsDeep es)
end
mutual
def stDeep:St→Int
 | .mk _ _ _ es b el=>wrap64 (max (max (exsDeep es) (stsDeep b)) (stsDeep el)+1)
def stsDeep:List St→Int
 | []=>0
 | s::l=>max (stDeep s) (stsDeep l)
end
def meLim (m:Me):Nat:=if 6<m.params.length∨200<wrap64 (stsCount m.body:Int) then 3 else if 32<stsDeep m.body then 15 else 0
def clLim (c:Cl):Nat:=if 16<c.fields.length∨16<c.methods.length then 3 else firstLim meLim c.methods
def soLim (l:List Cl):Nat:=if 64<l.length then 3 else firstLim clLim l
/-! texts -/
def dig (n:Nat):UInt8:=UInt8.ofNat (48+n)
def digitsOf:Nat→Nat→Bytes
 | 0,_=>[]
 | f+1,n=>if n<10 then [dig n] else digitsOf f (n / 10)++[dig (n % 10)]
def numText (n:Int):Bytes:=if n<0 then 45::digitsOf 20 n.natAbs else digitsOf 20 n.natAbs
def levelOf (k n:Int):Int:=if k≠6 then 4 else if n=3 then 3 else if n=1∨n=2 then 2 else 1
def opText (n:Int):Bytes:=if n=1 then [43] else if n=2 then [45] else if n=3 then [42] else if n=4 then [60] else [61,61]
mutual
/-- The text of a well-formed expression. -/
def exText:Ex→Bytes
 | .mk k n o m ks =>
   if k=1 then numText n else if k=2 then [110,117,108,108] else if k=3 then m else if k=4 then [116,104,105,115] else if k=5 then [105,110,112,117,116,40,41]
   else if k=7 then [110,101,119,32]++m++[40,41]
   else if k=8 then withinAt ks 0 4++[46]++m
   else if k=9 then withinAt ks 0 4++[46]++m++argsFrom ks 1
   else if k=10 then o++[58,58]++m++argsFrom ks 0
   else withinAt ks 0 (max (levelOf k n) 2)++[32]++opText n++[32]++withinAt ks 1 (levelOf k n+1)
/-- The text of kid i at a place that requires a level. -/
def withinAt:List Ex→Nat→Int→Bytes
 | [],_,_=>[]
 | e::_,0,r=>if levelOf e.kind e.n<r then [40]++exText e++[41] else exText e
 | _::l,i+1,r=>withinAt l i r
/-- The texts of the kids from i on, in parentheses. -/
def argsFrom:List Ex→Nat→Bytes
 | l,0=>[40]++sepText l++[41]
 | [],_=>[40,41]
 | _::l,i+1=>argsFrom l i
def sepText:List Ex→Bytes
 | []=>[]
 | [e]=>exText e
 | e::l=>exText e++[44,32]++sepText l
end
end Lx
end
section
namespace Lx
def tabsOf (n:Nat):Bytes:=List.replicate n 9
/-- The text of expression i. -/
def exT (es:List Ex)(i:Nat):Bytes:=match es[i]? with
 | some e=>exText e
 | none=>[]
mutual
/-- The text of a well-formed statement, indented by n tabs. -/
def stText:Nat→St→Bytes
 | n,.mk k nm ty es b el =>
   if k=1 then tabsOf n++[118,97,114,32]++nm++[58,32]++ty++(if es=[] then [] else [32,61,32]++exT es 0)++[59,10]
   else if k=2 then tabsOf n++nm++[32,61,32]++exT es 0++[59,10]
   else if k=3 then tabsOf n++withinAt es 0 4++[46]++nm++[32,61,32]++exT es 1++[59,10]
   else if k=4 then tabsOf n++[105,102,32,40]++exT es 0++[41,32,123,10]++stsText (n+1) b++(if el=[] then [] else tabsOf n++[125,32,101,108,115,101,32,123,10]++stsText (n+1) el)++tabsOf n++[125,10]
   else if k=5 then tabsOf n++[119,104,105,108,101,32,40]++exT es 0++[41,32,123,10]++stsText (n+1) b++tabsOf n++[125,10]
   else if k=6 then tabsOf n++[116,114,121,32,123,10]++stsText (n+1) b++tabsOf n++[125,32,99,97,116,99,104,32,40]++nm++[58,32]++ty++[41,32,123,10]++stsText (n+1) el++tabsOf n++[125,10]
   else if k=7 then tabsOf n++[116,104,114,111,119,32]++exT es 0++[59,10]
   else if k=8 then tabsOf n++[114,101,116,117,114,110]++(if es=[] then [] else [32]++exT es 0)++[59,10]
   else tabsOf n++exT es 0++[59,10]
def stsText:Nat→List St→Bytes
 | _,[]=>[]
 | n,s::l=>stText n s++stsText n l
end
def fldText (f:Fld):Bytes:=f.name++[58,32]++f.typ
def parText:List Fld→Bytes
 | []=>[]
 | [f]=>fldText f
 | f::l=>fldText f++[44,32]++parText l
def meText (n:Nat)(m:Me):Bytes:=tabsOf n++(if m.static then [115,116,97,116,105,99,32] else [])++[100,101,102,32]++m.name++[40]++parText m.params++[41]++(if m.result=[] then [] else [58,32]++m.result)++[32,123,10]++stsText (n+1) m.body++tabsOf n++[125,10]
def clText (c:Cl):Bytes:=[99,108,97,115,115,32]++c.name++(if c.super=[] then [] else [32,101,120,116,101,110,100,115,32]++c.super)++[32,123,10]++(c.fields.flatMap fun f=>[9,118,97,114,32]++fldText f++[59,10])++(c.methods.flatMap (meText 1))++[125,10]
def soText (l:List Cl):Bytes:=l.flatMap clText
end Lx
end
set_option linter.unusedSimpArgs false
section
open Lx Go.RowKit
def KwIs (w:World):Prop:=∃ t fr,w.heap[1]?=some (.cells kwCells t fr)
theorem KwIs.below {w w':World}{B:Nat}(h:KwIs w)(hb:Below B w w')(hB:w.heap.size≤B):KwIs w':=by
 obtain⟨t1,f1,h1⟩:=h;exact⟨t1,f1,by rw [hb.block _ (Nat.lt_of_lt_of_le (lt_of_heap h1) hB)];exact h1⟩
theorem KwIs.alloc {w:World}(h:KwIs w)(o:Obj):KwIs (w.alloc o):=h.below ((Below.refl _ _).alloc (Nat.le_refl _) o) (Nat.le_refl _)
set_option maxHeartbeats 400000 in
theorem fm_keyword (s:ByteArray)(w:World)(hL:KwIs w):Calls Tryz.prog 66 #[.string s] w fun e w'=>e=.returned (.bool (isKeyword s.data.toList))∧w=w':=by
 obtain⟨t,fr,hg⟩:=hL;have HG:=Lib.hid hg;clear hg;go_enter Tryz.func66,Tryz.ntmps66
 go_wp2_with (refine wpList_load_row rfl 118 _ rfl 1 rfl t _ fr _ HG.out Tryz.underlying118 rfl (by kernel_rfl) ?_)
 go_loop [6] (fun i=>∃ k:Nat,k≤17∧i=.int .i64 k∧isKeyword s.data.toList=(kwList.drop k).contains s.data.toList) (fun i=>17-(intOf i).toNat)
 case atStart=>exact⟨0,by omega,rfl,rfl⟩
 case round =>
  obtain⟨k,hk,rfl,hr⟩:=hrel;have HR:=Lib.hid hr;clear hr
  by_cases hlt:k<17
  ·obtain⟨m,hm,hidx⟩:=kw_index k hlt;have HM:=Lib.hid hm;clear hm;cases he:s.toList == m
   ·have HE:=Lib.hid he;go_wp2_with fail
    go_round
    case rel=>exact⟨k+1,by omega,by go_num,by rw [HR.out,← ByteArray.toList_eq];exact contains_miss HE.out HM.out⟩
    case measure=>simp [intOf];omega
   ·have HE:=Lib.hid he;go_wp2_with fail;go_ret;exact⟨ret_bool (by rw [HR.out,← ByteArray.toList_eq];exact (contains_hit HE.out HM.out).symm),rfl⟩
  ·go_wp2_with fail;go_ret;exact⟨ret_bool (by rw [HR.out,List.drop_eq_nil_of_le (by simp [kwList];omega)];rfl),rfl⟩
set_option maxHeartbeats 400000 in
theorem fm_ident0 (s:ByteArray)(w:World)(hs:s.size≤maxLen)(hL:KwIs w):Calls Tryz.prog 35 #[.string s] w fun e w'=>e=.returned (.bool (isIdent s.data.toList))∧w=w':=by
 have HL:=Lib.hid hL;have HS:=Lib.hid hs;clear hL;unfold maxLen at hs
 by_cases h0:s.size=0
 ·have h1:=isEmpty_zero s h0;have H0:=Lib.hid h0;clear h0;go_enter Tryz.func35,Tryz.ntmps35;go_wp2_with fail;go_ret;exact⟨ret_bool (isIdent_zero s H0.out).symm,rfl⟩
 have h0:0<s.size:=by omega
 have h1:=isEmpty_pos s h0;have HI:=Lib.hid (isIdent_pos s h0)
 by_cases h2:s.size≤32
 ·go_enter Tryz.func35,Tryz.ntmps35;go_wp2_with fail;refine (lex_letter _ _).mono ?_;rintro e w' ⟨rfl,rfl⟩;cases h3:isLetter s[0]
  ·have H3:=Lib.hid h3;go_wp2_with fail;go_ret;exact⟨ret_bool (by rw [HI.out,H3.out];simp),rfl⟩
  ·have H3:=Lib.hid h3;go_wp2_with fail;refine (lex_span_part s _ HS.out).mono ?_;rintro e w' ⟨rfl,rfl⟩;have HA:=Lib.hid (spanOf_all isPart s.data.toList);have HSS:=Lib.hid (len_list s);generalize hn:spanOf isPart s.data.toList=n at HA ⊢;clear hn
   by_cases h4:n=s.size
   ·have h5:(n == s.size)=true:=beq_iff_eq.2 h4;have h6:((n:Int) == (s.size:Int))=true:=beq_iff_eq.2 (by omega);have H4:=Lib.hid h4;clear h4;go_wp2_with fail;refine (fm_keyword s _ HL.out).mono ?_;rintro e w' ⟨rfl,rfl⟩;have HB:Hid (s.data.toList.all isPart=true):=HA.out.1 (by rw [HSS.out];exact H4.out);cases h7:isKeyword s.data.toList
    ·have H7:=Lib.hid h7;go_wp2_with fail;go_ret;exact⟨ret_bool (by rw [HI.out,H3.out,HB.out,H7.out];simp [h2]),rfl⟩
    ·have H7:=Lib.hid h7;go_wp2_with fail;go_ret;exact⟨ret_bool (by rw [HI.out,H7.out];simp),rfl⟩
   ·have h5:(n == s.size)=false:=beq_eq_false_iff_ne.2 h4;have h6:((n:Int) == (s.size:Int))=false:=beq_eq_false_iff_ne.2 (by omega);have H4:=Lib.hid h4;clear h4;have HB:Hid (s.data.toList.all isPart=false):=by
     cases hb:s.data.toList.all isPart
     ·rfl
     ·exact absurd (HA.out.2 hb) (by rw [HSS.out];exact H4.out)
    go_wp2_with fail;go_ret;exact⟨ret_bool (by rw [HI.out,HB.out];simp),rfl⟩
 ·go_enter Tryz.func35,Tryz.ntmps35;go_wp2_with fail;go_ret;exact⟨ret_bool (by rw [HI.out];simp [h2]),rfl⟩
end
section
open Lx Go.RowKit
namespace Lx
theorem exsDeep_snoc (l:List Ex)(e:Ex):exsDeep (l++[e])=max (exsDeep l) (exDeep e):=by
 induction l with
 | nil=>simp [exsDeep];omega
 | cons x l ih=>simp only [List.cons_append,exsDeep,ih];omega
theorem stsDeep_snoc (l:List St)(e:St):stsDeep (l++[e])=max (stsDeep l) (stDeep e):=by
 induction l with
 | nil=>simp [stsDeep];omega
 | cons x l ih=>simp only [List.cons_append,stsDeep,ih];omega
theorem w64_cong (a b:Int)(h:a % 18446744073709551616=b % 18446744073709551616):wrap64 a=wrap64 b:=by unfold wrap64;omega
theorem w64_mod (a:Int):wrap64 a % 18446744073709551616=a % 18446744073709551616:=by unfold wrap64;omega
theorem w64_add (a b:Int):wrap64 (wrap64 a+wrap64 b)=wrap64 (a+b):=w64_cong _ _ (by have:=w64_mod a;have:=w64_mod b;omega)
end Lx
theorem exsDeep_nonneg (l:List Ex):0≤exsDeep l:=by
 cases l with
 | nil=>simp [exsDeep]
 | cons x l=>have:=exsDeep_nonneg l;simp only [exsDeep];omega
end
section
open Lx Go.RowKit
attribute [local go_sem ↓] Go.wp_at_zero Go.wp_at_succ
theorem Lx.w64_add3 (a b c:Int):wrap64 (wrap64 a+wrap64 (wrap64 b+wrap64 c))=wrap64 (a+(b+c)):=by rw [w64_add b c,w64_add]
/-- Where the loop of exprDepth stands. -/
def DeepRelF (ks:List Ex)(w:World)(v i:Value)(wr:World):Prop:=∃ n:Nat,n≤ks.length∧i=.int .i64 (n:Int)∧v=.int .i64 (exsDeep (ks.take n))∧Below w.heap.size w wr
set_option maxHeartbeats 1000000 in
theorem fmt_exprDepth (d:Nat):∀ (e:Ex) (k n:Int) (o m:ByteArray) (a:Option Addr) (l c:Nat) (w:World),IsEx Any w d e [.int .i64 k,.int .i64 n,.string o,.string m,.slice a l c] →
  Calls Tryz.prog 14 #[.agg #[.int .i64 k,.int .i64 n,.string o,.string m,.slice a l c]] w fun r w'=>r=.returned (.int .i64 (exDeep e))∧Below w.heap.size w w':=by
 induction d with
 | zero=>intro e k n o m a l c w h;exact absurd h (by simp [IsEx])
 | succ d ih =>
   intro e k n o m a l c w h;obtain⟨ek,en,eo,em,ks⟩:=e;obtain⟨v,hv,hl⟩:=h;obtain rfl:v=.slice a l c:=by simp only [List.cons.injEq,and_true] at hv;exact hv.2.2.2.2.symm
   clear hv;obtain⟨rfl,hm,hat⟩:=hl.exAt;unfold maxLen at hm;rw [exDeep];have HAT:=Lib.hid hat;have IH:=Lib.hid ih;clear hl hat ih;go_enter Tryz.func14,Tryz.ntmps14;go_wp2_with fail
   go_loopw [3,9] (fun v i wr=>DeepRelF ks (w.alloc (.cells #[.int .i64 k,.int .i64 n,.string o,.string m,.slice a ks.length c] 24)) v i wr) (fun _ i _=>ks.length-(intOf i).toNat)
   case atStart=>exact⟨0,Nat.zero_le _,rfl,rfl,.refl _ _⟩
   case round =>
    obtain⟨j,hj,rfl,rfl,hb⟩:=hrel
    by_cases hlt:j<ks.length
    ·obtain⟨g,off,k1,m1,o1,nm1,a1,n1,c1,rfl,hgl,c0,c1',c2,c3,c4,hx⟩:=HAT.out j hlt;have hsz:=hb.size;simp only [World.size_alloc] at hsz;have hbl:∀ o,wr.cell? ⟨g,o,none⟩=w.cell? ⟨g,o,none⟩:=fun o=>(hb.cell (p:=⟨g,o,none⟩) (by simp;omega)).trans (((Below.refl w.heap.size w).alloc (Nat.le_refl _) _).cell (p:=⟨g,o,none⟩) hgl)
     rw [← hbl] at c0 c1' c2 c3 c4;have hg1:g<wr.heap.size:=by omega
     have hx':IsEx Any wr d ks[j] [.int .i64 k1,.int .i64 m1,.string o1,.string nm1,.slice a1 n1 c1]:=IsEx.kept (kept_any (((Below.refl w.heap.size w).alloc (Nat.le_refl _) _).trans (hb.mono (by simp)))) _ _ _ hx;have hx2:=Lib.hid (IsEx.kept (kept_alloc wr (.cells #[.int .i64 k1,.int .i64 m1,.string o1,.string nm1,.slice a1 n1 c1] 24)) _ _ _ hx');have HS:Hid (exsDeep (ks.take (j+1))=max (exsDeep (ks.take j)) (exDeep ks[j])):=by
      show _=_;rw [List.take_succ_eq_append_getElem hlt,exsDeep_snoc]
     have HB:=Lib.hid hb;clear hb hbl hx hx';go_wp2_with fail;refine (IH.out _ _ _ _ _ _ _ _ _ hx2.out).mono ?_;rintro e w2 ⟨rfl,hb2⟩;have HB2:=Lib.hid hb2;clear hb2 c0 c1' c2 c3 c4 hx2;go_wp2_with fail
     go_roundw
     case rel =>
      refine⟨j+1,by omega,by go_num,?_,HB.out.trans (((Below.refl _ _).alloc (Nat.le_refl _) _).trans (HB2.out.mono (by simp)) |>.mono HB.out.size)⟩
      first | (rw [HS.out];done) | (rw [HS.out];congr 1;omega)
     case measure=>simp [intOf];omega
    ·have hjl:j=ks.length:=by omega
     subst hjl;have HB:=Lib.hid hb;clear hb;go_wp2_with fail;go_ret;refine⟨?_,((Below.refl w.heap.size w).alloc (Nat.le_refl _) _).trans (HB.out.mono (by simp))⟩;rw [List.take_length];rfl
def MaxRelF {α:Type}(f:List α→Int)(base:Int)(ks:List α)(w:World)(v i:Value)(wr:World):Prop:=∃ n:Nat,n≤ks.length∧i=.int .i64 (n:Int)∧v=.int .i64 (max base (f (ks.take n)))∧Below w.heap.size w wr
set_option maxHeartbeats 4000000 in
theorem fmt_stmtDepth (d:Nat):∀ (e:St) (k:Int) (nm ty:ByteArray) (a1:Option Addr) (n1 c1:Nat) (a2:Option Addr) (n2 c2:Nat) (a3:Option Addr) (n3 c3:Nat) (w:World),IsSt Any w d e [.int .i64 k,.string nm,.string ty,.slice a1 n1 c1,.slice a2 n2 c2,.slice a3 n3 c3] →
  Calls Tryz.prog 74 #[.agg #[.int .i64 k,.string nm,.string ty,.slice a1 n1 c1,.slice a2 n2 c2,.slice a3 n3 c3]] w fun r w'=>r=.returned (.int .i64 (stDeep e))∧Below w.heap.size w w':=by
 induction d with
 | zero=>intro e k nm ty a1 n1 c1 a2 n2 c2 a3 n3 c3 w h;exact absurd h (by simp [IsSt])
 | succ d ih =>
   intro e k nm ty a1 n1 c1 a2 n2 c2 a3 n3 c3 w h;obtain⟨ek,en,et,es,b,el⟩:=e;obtain⟨v1,v2,v3,hv,hl1,hl2,hl3⟩:=h;obtain⟨rfl,rfl,rfl⟩:v1=.slice a1 n1 c1∧v2=.slice a2 n2 c2∧v3=.slice a3 n3 c3:=by simp only [List.cons.injEq,and_true] at hv;exact⟨hv.2.2.2.1.symm,hv.2.2.2.2.1.symm,hv.2.2.2.2.2.symm⟩
   clear hv;obtain⟨rfl,hm1,hat1⟩:=hl1.exAt;obtain⟨rfl,hm2,hat2⟩:=hl2.stAt;obtain⟨rfl,hm3,hat3⟩:=hl3.stAt;unfold maxLen at hm1 hm2 hm3;rw [stDeep];have HAT1:=Lib.hid hat1;have HAT2:=Lib.hid hat2;have HAT3:=Lib.hid hat3;have IH:=Lib.hid ih;clear hl1 hl2 hl3 hat1 hat2 hat3 ih;go_enter Tryz.func74,Tryz.ntmps74;go_wp2_with fail
   go_loopw [3,13] (fun v i wr=>MaxRelF exsDeep (0) es (w.alloc (.cells #[.int .i64 k,.string nm,.string ty,.slice a1 es.length c1,.slice a2 b.length c2,.slice a3 el.length c3] 109)) v i wr) (fun _ i _=>es.length-(intOf i).toNat)
   case atStart=>exact⟨0,Nat.zero_le _,rfl,by simp [exsDeep],.refl _ _⟩
   case round =>
    obtain⟨j,hj,rfl,rfl,hb⟩:=hrel
    by_cases hlt:j<es.length
    ·obtain⟨g,off,ik,im,io,inm,ia,il,ic,rfl,hgl,e0,e1,e2,e3,e4,hx⟩:=HAT1.out j hlt;have hsz:=hb.size;simp only [World.size_alloc] at hsz;have hbl:∀ o,wr.cell? ⟨g,o,none⟩=w.cell? ⟨g,o,none⟩:=fun o=>(hb.cell (p:=⟨g,o,none⟩) (by simp;omega)).trans (((Below.refl w.heap.size w).alloc (Nat.le_refl _) _).cell (p:=⟨g,o,none⟩) hgl)
     rw [← hbl] at e0 e1 e2 e3 e4;have hg1:g<wr.heap.size:=by omega
     have hx':=IsEx.kept (kept_any (((Below.refl w.heap.size w).alloc (Nat.le_refl _) _).trans (hb.mono (by simp)))) _ _ _ hx;have hx2:=Lib.hid (IsEx.kept (kept_alloc wr (.cells #[.int .i64 ik,.int .i64 im,.string io,.string inm,.slice ia il ic] 24)) _ _ _ hx');have HB:=Lib.hid hb;clear hb hbl hx hx';have HS:Hid (exsDeep (es.take (j+1))=max (exsDeep (es.take j)) (exDeep es[j])):=by
      show _=_;rw [List.take_succ_eq_append_getElem hlt,exsDeep_snoc]
     go_wp2_with fail;refine (fmt_exprDepth d _ _ _ _ _ _ _ _ _ hx2.out).mono ?_;rintro e w2 ⟨rfl,hb2⟩;have HB2:=Lib.hid hb2;clear hb2 e0 e1 e2 e3 e4 hx2;go_wp2_with fail
     go_roundw
     case rel =>
      refine⟨j+1,by omega,by go_num,?_,HB.out.trans (((Below.refl _ _).alloc (Nat.le_refl _) _).trans (HB2.out.mono (by simp)) |>.mono HB.out.size)⟩
      first | (rw [HS.out];done) | (rw [HS.out];congr 1;omega)
     case measure=>simp [intOf];omega
    ·obtain⟨wo1,rfl⟩:∃ wo1:World,wo1=wr:=⟨_,rfl⟩;obtain⟨j1,rfl⟩:∃ j1:Nat,j1=j:=⟨_,rfl⟩;have hj1:j1=es.length:=by omega
     have hc1:wo1.cell? ⟨w.heap.size,4,none⟩=some (.slice a2 b.length c2):=(hb.cell (p:=⟨w.heap.size,4,none⟩) (by simp)).trans (by simp [go_sem]);have HB1:=Lib.hid hb;have HJ1:=Lib.hid hj1;clear hb hj1;go_wp2_with fail;clear hc1
     go_loopw [3,25] (fun v i wr=>MaxRelF stsDeep (max 0 (exsDeep (es.take j1))) b (w.alloc (.cells #[.int .i64 k,.string nm,.string ty,.slice a1 es.length c1,.slice a2 b.length c2,.slice a3 el.length c3] 109)) v i wr) (fun _ i _=>b.length-(intOf i).toNat)
     case atStart=>exact⟨0,Nat.zero_le _,rfl,by congr 1;simp only [List.take_zero,stsDeep];omega,HB1.out⟩
     case round =>
      obtain⟨j,hj,rfl,rfl,hb⟩:=hrel
      by_cases hlt:j<b.length
      ·obtain⟨g,off,ik,inm,ity,ia,ib,ic,ja,jb,jc,ka,kb,kc,rfl,hgl,⟨e0,e1,e2,e3,e4,e5⟩,hx⟩:=HAT2.out j hlt;have hsz:=hb.size;simp only [World.size_alloc] at hsz;have hbl:∀ o,wr.cell? ⟨g,o,none⟩=w.cell? ⟨g,o,none⟩:=fun o=>(hb.cell (p:=⟨g,o,none⟩) (by simp;omega)).trans (((Below.refl w.heap.size w).alloc (Nat.le_refl _) _).cell (p:=⟨g,o,none⟩) hgl)
       rw [← hbl] at e0 e1 e2 e3 e4 e5;have hg1:g<wr.heap.size:=by omega
       have hx':=IsSt.kept (kept_any (((Below.refl w.heap.size w).alloc (Nat.le_refl _) _).trans (hb.mono (by simp)))) _ _ _ hx;have hx2:=Lib.hid (IsSt.kept (kept_alloc wr (.cells #[.int .i64 ik,.string inm,.string ity,.slice ia ib ic,.slice ja jb jc,.slice ka kb kc] 109)) _ _ _ hx');have HB:=Lib.hid hb;clear hb hbl hx hx';have HS:Hid (stsDeep (b.take (j+1))=max (stsDeep (b.take j)) (stDeep b[j])):=by
        show _=_;rw [List.take_succ_eq_append_getElem hlt,stsDeep_snoc]
       go_wp2_with fail;refine (IH.out _ _ _ _ _ _ _ _ _ _ _ _ _ _ hx2.out).mono ?_;rintro e w2 ⟨rfl,hb2⟩;have HB2:=Lib.hid hb2;clear hb2 e0 e1 e2 e3 e4 e5 hx2;go_wp2_with fail
       go_roundw
       case rel =>
        refine⟨j+1,by omega,by go_num,?_,HB.out.trans (((Below.refl _ _).alloc (Nat.le_refl _) _).trans (HB2.out.mono (by simp)) |>.mono HB.out.size)⟩
        first | (rw [HS.out];done) | (rw [HS.out];congr 1;omega)
       case measure=>simp [intOf];omega
      ·obtain⟨wo2,rfl⟩:∃ wo2:World,wo2=wr:=⟨_,rfl⟩;obtain⟨j2,rfl⟩:∃ j2:Nat,j2=j:=⟨_,rfl⟩;have hj2:j2=b.length:=by omega
       have hc2:wo2.cell? ⟨w.heap.size,5,none⟩=some (.slice a3 el.length c3):=(hb.cell (p:=⟨w.heap.size,5,none⟩) (by simp)).trans (by simp [go_sem]);have HB2:=Lib.hid hb;have HJ2:=Lib.hid hj2;clear hb hj2;go_wp2_with fail;clear hc2
       go_loopw [3,37] (fun v i wr=>MaxRelF stsDeep (max (max 0 (exsDeep (es.take j1))) (stsDeep (b.take j2))) el (w.alloc (.cells #[.int .i64 k,.string nm,.string ty,.slice a1 es.length c1,.slice a2 b.length c2,.slice a3 el.length c3] 109)) v i wr) (fun _ i _=>el.length-(intOf i).toNat)
       case atStart=>exact⟨0,Nat.zero_le _,rfl,by congr 1;simp only [List.take_zero,stsDeep];omega,HB2.out⟩
       case round =>
        obtain⟨j,hj,rfl,rfl,hb⟩:=hrel
        by_cases hlt:j<el.length
        ·obtain⟨g,off,ik,inm,ity,ia,ib,ic,ja,jb,jc,ka,kb,kc,rfl,hgl,⟨e0,e1,e2,e3,e4,e5⟩,hx⟩:=HAT3.out j hlt;have hsz:=hb.size;simp only [World.size_alloc] at hsz;have hbl:∀ o,wr.cell? ⟨g,o,none⟩=w.cell? ⟨g,o,none⟩:=fun o=>(hb.cell (p:=⟨g,o,none⟩) (by simp;omega)).trans (((Below.refl w.heap.size w).alloc (Nat.le_refl _) _).cell (p:=⟨g,o,none⟩) hgl)
         rw [← hbl] at e0 e1 e2 e3 e4 e5;have hg1:g<wr.heap.size:=by omega
         have hx':=IsSt.kept (kept_any (((Below.refl w.heap.size w).alloc (Nat.le_refl _) _).trans (hb.mono (by simp)))) _ _ _ hx;have hx2:=Lib.hid (IsSt.kept (kept_alloc wr (.cells #[.int .i64 ik,.string inm,.string ity,.slice ia ib ic,.slice ja jb jc,.slice ka kb kc] 109)) _ _ _ hx');have HB:=Lib.hid hb;clear hb hbl hx hx';have HS:Hid (stsDeep (el.take (j+1))=max (stsDeep (el.take j)) (stDeep el[j])):=by
          show _=_;rw [List.take_succ_eq_append_getElem hlt,stsDeep_snoc]
         go_wp2_with fail;refine (IH.out _ _ _ _ _ _ _ _ _ _ _ _ _ _ hx2.out).mono ?_;rintro e w2 ⟨rfl,hb2⟩;have HB2:=Lib.hid hb2;clear hb2 e0 e1 e2 e3 e4 e5 hx2;go_wp2_with fail
         go_roundw
         case rel =>
          refine⟨j+1,by omega,by go_num,?_,HB.out.trans (((Below.refl _ _).alloc (Nat.le_refl _) _).trans (HB2.out.mono (by simp)) |>.mono HB.out.size)⟩
          first | (rw [HS.out];done) | (rw [HS.out];congr 1;omega)
         case measure=>simp [intOf];omega
        ·have hj3:j=el.length:=by omega
         have HB3:=Lib.hid hb;clear hb;go_wp2_with fail;go_ret;refine⟨?_,((Below.refl w.heap.size w).alloc (Nat.le_refl _) _).trans (HB3.out.mono (by simp))⟩;rw [HJ1.out,HJ2.out,hj3,List.take_length,List.take_length,List.take_length]
         show Ending.returned (.int .i64 (wrap64 (max 0 (max (exsDeep es) (max (stsDeep b) (stsDeep el)))+1)))=_
         have hz:max 0 (max (exsDeep es) (max (stsDeep b) (stsDeep el)))=max (max (exsDeep es) (stsDeep b)) (stsDeep el):=by have:=exsDeep_nonneg es;omega
         rw [hz]
/-- Where the loop of count stands. -/
def CountRelF (l:List St)(w:World)(v i:Value)(wr:World):Prop:=∃ n:Nat,n≤l.length∧i=.int .i64 (n:Int)∧v=.int .i64 (wrap64 ((l.length+inCount (l.take n):Nat):Int))∧Below w.heap.size w wr
set_option maxHeartbeats 2000000 in
theorem fmt_count (d:Nat):∀ (l:List St) (a:Option Addr) (n c:Nat) (w:World),IsList Any w 6 (IsSt Any w d) l (.slice a n c) →
  Calls Tryz.prog 73 #[.slice a n c] w fun r w'=>r=.returned (.int .i64 (wrap64 (stsCount l:Int)))∧Below w.heap.size w w':=by
 induction d with
 | zero =>
   intro l a n c w h;obtain⟨rfl,hm,hat⟩:=h.stAt;cases l with
   | cons x l=>obtain⟨_,_,_,_,_,_,_,_,_,_,_,_,_,_,_,_,_,hx⟩:=hat 0 (by simp);exact absurd hx (by simp [IsSt])
   | nil =>
     clear h hat;go_enter Tryz.func73,Tryz.ntmps73;go_wp2_with fail
     go_loopw [3,10] (fun v i wr=>CountRelF [] w v i wr) (fun _ i _=>0-(intOf i).toNat)
     case atStart=>exact⟨0,Nat.zero_le _,rfl,by simp [inCount,wrap64],.refl _ _⟩
     case round =>
      obtain⟨j,hj,rfl,rfl,hb⟩:=hrel;obtain rfl:j=0:=by simpa using hj
      have HB:=Lib.hid hb;clear hb;go_wp2_with fail;go_ret;exact⟨rfl,HB.out⟩
 | succ d ih =>
   intro l a n c w h;obtain⟨rfl,hm,hat⟩:=h.stAt;unfold maxLen at hm;have hce:=stsCount_eq l;have HAT:=Lib.hid hat;have IH:=Lib.hid ih;have HCE:=Lib.hid hce;clear h hat ih hce;go_enter Tryz.func73,Tryz.ntmps73;go_wp2_with fail
   go_loopw [3,10] (fun v i wr=>CountRelF l w v i wr) (fun _ i _=>l.length-(intOf i).toNat)
   case atStart=>exact⟨0,Nat.zero_le _,rfl,by congr 1;simp only [List.take_zero,inCount,Nat.add_zero];unfold wrap64;omega,.refl _ _⟩
   case round =>
    obtain⟨j,hj,rfl,rfl,hb⟩:=hrel
    by_cases hlt:j<l.length
    ·obtain⟨g,off,ik,inm,ity,ia,ib,ic,ja,jb,jc,ka,kb,kc,rfl,hgl,⟨e0,e1,e2,e3,e4,e5⟩,hx⟩:=HAT.out j hlt;have hsz:=hb.size;have hbl:∀ o,wr.cell? ⟨g,o,none⟩=w.cell? ⟨g,o,none⟩:=fun o=>(hb.cell (p:=⟨g,o,none⟩) (by omega)).trans rfl
     rw [← hbl] at e0 e1 e2 e3 e4 e5;have hg1:g<wr.heap.size:=by omega
     have hx':=IsSt.kept (kept_any hb) _ _ _ hx;have hx2:=Lib.hid (IsSt.kept (kept_alloc wr (.cells #[.int .i64 ik,.string inm,.string ity,.slice ia ib ic,.slice ja jb jc,.slice ka kb kc] 109)) _ _ _ hx');have HB:=Lib.hid hb;clear hb hbl hx hx';have HS:Hid (inCount (l.take (j+1))=inCount (l.take j)+stCount l[j]):=by
      show _=_;rw [List.take_succ_eq_append_getElem hlt,inCount_snoc]
     obtain⟨xe,xb,xel,xn,xt,hxe,hn1,hn2,hn3,hxb,hxl⟩:=hx2.out.lists;have hsc:stCount l[j]=stsCount xb+stsCount xel:=by rw [hxe,stCount]
     have H1:Hid (∀ x,Below (wr.alloc (.cells #[.int .i64 ik,.string inm,.string ity,.slice ia ib ic,.slice ja jb jc,.slice ka kb kc] 109)).heap.size (wr.alloc (.cells #[.int .i64 ik,.string inm,.string ity,.slice ia ib ic,.slice ja jb jc,.slice ka kb kc] 109)) x→IsList Any x 6 (IsSt Any x d) xb (.slice ja jb jc)):=fun x hx=>hxb.kept (kept_any hx) (by omega) fun _ _ _=>IsSt.kept (kept_any hx) _ _ _
     have H2:Hid (∀ x,Below (wr.alloc (.cells #[.int .i64 ik,.string inm,.string ity,.slice ia ib ic,.slice ja jb jc,.slice ka kb kc] 109)).heap.size (wr.alloc (.cells #[.int .i64 ik,.string inm,.string ity,.slice ia ib ic,.slice ja jb jc,.slice ka kb kc] 109)) x→IsList Any x 6 (IsSt Any x d) xel (.slice ka kb kc)):=fun x hx=>hxl.kept (kept_any hx) (by omega) fun _ _ _=>IsSt.kept (kept_any hx) _ _ _
     have HSC:=Lib.hid hsc;clear hxb hxl hxe hsc hx2 hn1 hn2 hn3;go_wp2_with fail
     go_region_with (first
      | (go_at_call 73
         with_reducible refine (IH.out _ _ _ _ _ (H1.out _ (below_drew _))).mono ?_
         rintro e w5 ⟨rfl,hb5⟩;have HB5:=Lib.hid ((below_drew (wr.alloc (.cells #[.int .i64 ik,.string inm,.string ity,.slice ia ib ic,.slice ja jb jc,.slice ka kb kc] 109))).trans hb5);have hs5:wr.heap.size+1≤w5.heap.size:=by have:=hb5.size;simp at this;omega
         have q5:w5.cell? ⟨wr.heap.size,5,none⟩=some (.slice ka kb kc):=(hb5.cell (p:=⟨wr.heap.size,5,none⟩) (by simp)).trans (by simp [go_sem]);clear hb5)
      | (have tok:=HB5
         clear tok
         go_at_call 73
         with_reducible refine (IH.out _ _ _ _ _ (H2.out _ HB5.out)).mono ?_
         rintro e w6 ⟨rfl,hb6⟩;have HB6:=Lib.hid (HB5.out.trans (hb6.mono HB5.out.size));clear hb6 HB5))
     all_goals
      go_wp2_with fail
      go_roundw
      case rel =>
       refine⟨j+1,by omega,by go_num,?_,HB.out.trans ((((Below.refl _ _).alloc (Nat.le_refl _) _).trans (HB6.out.mono (by simp))).mono HB.out.size)⟩;rw [HS.out,HSC.out];congr 1;exact (w64_add3 _ _ _).trans (congrArg wrap64 (by omega))
      case measure=>simp [intOf];omega
    ·have hjl:j=l.length:=by omega
     have HB:=Lib.hid hb;have HJ:=Lib.hid hjl;clear hb hjl;go_wp2_with fail;go_ret;refine⟨?_,HB.out⟩;rw [HJ.out,List.take_length,← HCE.out];rfl
end
end Go.Proofs.YtmlafcimjhnhhaaGreatDoor
