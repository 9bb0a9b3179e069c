/-
  The package-level variables of format.
-/
import Derived.Test.YtmlafcimjhnhhaaGreatDoorJeJpAr
import Derived.Lib.ItoaNum
import Derived.Test.YtmlafcimjhnhhaaGreatDoorJeJpAn
import Derived.Test.YtmlafcimjhnhhaaGreatDoorJeJpAj
import Derived.Deep.QuietTactic
import Derived.BigQuiet
import Derived.Deep.RegionHeld3
import Derived.Deep.RegionWith
import Derived.Deep.DrawnRows
set_option linter.unusedSectionVars false
set_option linter.unusedSimpArgs false
set_option linter.unnecessarySimpa false
set_option linter.unusedVariables false
namespace Go.Proofs.YtmlafcimjhnhhaaGreatDoor
section
open Lx Ax Go.RowKit
/-- The package-level variables. -/
def fmG:Nat→CV:=fun g=>match Nat.beq g 1 with
 | true=>.rop (kwList.map .str)
 | false=>match Nat.beq g 0 with
   | true=>.rop ([[43],[45],[42],[60],[61,61]].map .str)
   | false=>match Nat.beq g 2 with
     | true=>.rop (Lib.pow10Tab.map (.int .u64))
     | false=>.any
theorem fmG_pu (g:Nat):puV (fmG g)=true:=by
 unfold fmG;cases Nat.beq g 1 with
 | true=>rfl
 | false =>
   cases Nat.beq g 0 with
   | true=>rfl
   | false =>
     cases Nat.beq g 2 with
     | true =>
       show puL _=true
       generalize Lib.pow10Tab=l
       induction l with
       | nil=>rfl
       | cons a l ih=>simp [puL,puV,ih]
     | false=>rfl
end
set_option linter.unusedVariables false
section
open Ax Go.RowKit
def fmSp (_:Call1):Call1:=fun _ _ _ _=>none
theorem fmSp_ok {call:Call1}:CallOk Tryz.prog fmG (fmSp call):=by
 intro f args h nx r h' nx' hr;cases hr
set_option maxRecDepth 1000000 in
theorem fm_awake:FCall1 Tryz.prog fmG 8 [] (.bool true) :=
 FCall1.run (runFS_sound (P:=Tryz.prog) (G:=fmG) (sp:=fmSp) (lf:=1000) (fun c hc=>fmSp_ok) 60) fmG_pu rfl (by kernel_rfl) rfl
end
section
namespace Lx
def namedK (k:Int):Bool:=k == 3 || decide (7≤k)
def kidsOk (k:Int)(n:Nat):Bool:=if k=6 then n == 2 else if k=8 then n == 1 else if k=9 then decide (1≤n) else if k=10 then true else n == 0
/-- The first fault of an expression without its kids. -/
def ownFault (k n:Int)(o m:Bytes)(len:Nat):Nat :=
 if k<1∨10<k∨(k=6∧(n<1∨5<n)) then 12
 else if (k≠1∧k≠6∧n≠0)∨(k≠10∧o≠[])∨(namedK k=false∧m≠[])∨kidsOk k len=false then 1
 else if k=1∧n=-9223372036854775808 then 4
 else if (k=10∧isIdent o=false)∨(namedK k=true∧isIdent m=false) then 5
 else 0
mutual
def exFault:Ex→Nat
 | .mk k n o m ks=>if ownFault k n o m ks.length≠0 then ownFault k n o m ks.length else exsFault ks
def exsFault:List Ex→Nat
 | []=>0
 | e::es=>if exFault e≠0 then exFault e else exsFault es
end
theorem exsFault_first (l:List Ex):exsFault l=firstLim exFault l:=by
 induction l with
 | nil=>rfl
 | cons e l ih=>simp only [exsFault,firstLim,ih]
open Go.RowKit (wrap64)
mutual
def exDeep:Ex→Int
 | .mk _ _ _ _ ks=>wrap64 (exsDeep ks+1)
def exsDeep:List Ex→Int
 | []=>0
 | e::es=>max (exDeep e) (exsDeep es)
end
/-! texts -/
def dig (n:Nat):UInt8:=UInt8.ofNat (48+n)
def digitsOf:Nat→Nat→Bytes
 | 0,_=>[]
 | f+1,n=>if n<10 then [dig n] else digitsOf f (n / 10)++[dig (n % 10)]
def numText (n:Int):Bytes:=if n<0 then 45::digitsOf 20 n.natAbs else digitsOf 20 n.natAbs
def levelOf (k n:Int):Int:=if k≠6 then 4 else if n=3 then 3 else if n=1∨n=2 then 2 else 1
def opText (n:Int):Bytes:=if n=1 then [43] else if n=2 then [45] else if n=3 then [42] else if n=4 then [60] else [61,61]
mutual
/-- The text of a well-formed expression. -/
def exText:Ex→Bytes
 | .mk k n o m ks =>
   if k=1 then numText n else if k=2 then [110,117,108,108] else if k=3 then m else if k=4 then [116,104,105,115] else if k=5 then [105,110,112,117,116,40,41]
   else if k=7 then [110,101,119,32]++m++[40,41]
   else if k=8 then withinAt ks 0 4++[46]++m
   else if k=9 then withinAt ks 0 4++[46]++m++argsFrom ks 1
   else if k=10 then o++[58,58]++m++argsFrom ks 0
   else withinAt ks 0 (max (levelOf k n) 2)++[32]++opText n++[32]++withinAt ks 1 (levelOf k n+1)
/-- The text of kid i at a place that requires a level. -/
def withinAt:List Ex→Nat→Int→Bytes
 | [],_,_=>[]
 | e::_,0,r=>if levelOf e.kind e.n<r then [40]++exText e++[41] else exText e
 | _::l,i+1,r=>withinAt l i r
/-- The texts of the kids from i on, in parentheses. -/
def argsFrom:List Ex→Nat→Bytes
 | l,0=>[40]++sepText l++[41]
 | [],_=>[40,41]
 | _::l,i+1=>argsFrom l i
def sepText:List Ex→Bytes
 | []=>[]
 | [e]=>exText e
 | e::l=>exText e++[44,32]++sepText l
end
end Lx
end
section
namespace Lx
end Lx
end
set_option linter.unusedSimpArgs false
section
open Lx Go.RowKit
def KwIs (w:World):Prop:=∃ t fr,w.heap[1]?=some (.cells kwCells t fr)
theorem KwIs.below {w w':World}{B:Nat}(h:KwIs w)(hb:Below B w w')(hB:w.heap.size≤B):KwIs w':=by
 obtain⟨t1,f1,h1⟩:=h;exact⟨t1,f1,by rw [hb.block _ (Nat.lt_of_lt_of_le (lt_of_heap h1) hB)];exact h1⟩
theorem KwIs.alloc {w:World}(h:KwIs w)(o:Obj):KwIs (w.alloc o):=h.below ((Below.refl _ _).alloc (Nat.le_refl _) o) (Nat.le_refl _)
set_option maxHeartbeats 400000 in
theorem fm_keyword (s:ByteArray)(w:World)(hL:KwIs w):Calls Tryz.prog 66 #[.string s] w fun e w'=>e=.returned (.bool (isKeyword s.data.toList))∧w=w':=by
 obtain⟨t,fr,hg⟩:=hL;have HG:=Lib.hid hg;clear hg;go_enter Tryz.func66,Tryz.ntmps66
 go_wp2_with (refine wpList_load_row rfl 118 _ rfl 1 rfl t _ fr _ HG.out Tryz.underlying118 rfl (by kernel_rfl) ?_)
 go_loop [6] (fun i=>∃ k:Nat,k≤17∧i=.int .i64 k∧isKeyword s.data.toList=(kwList.drop k).contains s.data.toList) (fun i=>17-(intOf i).toNat)
 case atStart=>exact⟨0,by omega,rfl,rfl⟩
 case round =>
  obtain⟨k,hk,rfl,hr⟩:=hrel;have HR:=Lib.hid hr;clear hr
  by_cases hlt:k<17
  ·obtain⟨m,hm,hidx⟩:=kw_index k hlt;have HM:=Lib.hid hm;clear hm;cases he:s.toList == m
   ·have HE:=Lib.hid he;go_wp2_with fail
    go_round
    case rel=>exact⟨k+1,by omega,by go_num,by rw [HR.out,← ByteArray.toList_eq];exact contains_miss HE.out HM.out⟩
    case measure=>simp [intOf];omega
   ·have HE:=Lib.hid he;go_wp2_with fail;go_ret;exact⟨ret_bool (by rw [HR.out,← ByteArray.toList_eq];exact (contains_hit HE.out HM.out).symm),rfl⟩
  ·go_wp2_with fail;go_ret;exact⟨ret_bool (by rw [HR.out,List.drop_eq_nil_of_le (by simp [kwList];omega)];rfl),rfl⟩
set_option maxHeartbeats 400000 in
theorem fm_ident0 (s:ByteArray)(w:World)(hs:s.size≤maxLen)(hL:KwIs w):Calls Tryz.prog 35 #[.string s] w fun e w'=>e=.returned (.bool (isIdent s.data.toList))∧w=w':=by
 have HL:=Lib.hid hL;have HS:=Lib.hid hs;clear hL;unfold maxLen at hs
 by_cases h0:s.size=0
 ·have h1:=isEmpty_zero s h0;have H0:=Lib.hid h0;clear h0;go_enter Tryz.func35,Tryz.ntmps35;go_wp2_with fail;go_ret;exact⟨ret_bool (isIdent_zero s H0.out).symm,rfl⟩
 have h0:0<s.size:=by omega
 have h1:=isEmpty_pos s h0;have HI:=Lib.hid (isIdent_pos s h0)
 by_cases h2:s.size≤32
 ·go_enter Tryz.func35,Tryz.ntmps35;go_wp2_with fail;refine (lex_letter _ _).mono ?_;rintro e w' ⟨rfl,rfl⟩;cases h3:isLetter s[0]
  ·have H3:=Lib.hid h3;go_wp2_with fail;go_ret;exact⟨ret_bool (by rw [HI.out,H3.out];simp),rfl⟩
  ·have H3:=Lib.hid h3;go_wp2_with fail;refine (lex_span_part s _ HS.out).mono ?_;rintro e w' ⟨rfl,rfl⟩;have HA:=Lib.hid (spanOf_all isPart s.data.toList);have HSS:=Lib.hid (len_list s);generalize hn:spanOf isPart s.data.toList=n at HA ⊢;clear hn
   by_cases h4:n=s.size
   ·have h5:(n == s.size)=true:=beq_iff_eq.2 h4;have h6:((n:Int) == (s.size:Int))=true:=beq_iff_eq.2 (by omega);have H4:=Lib.hid h4;clear h4;go_wp2_with fail;refine (fm_keyword s _ HL.out).mono ?_;rintro e w' ⟨rfl,rfl⟩;have HB:Hid (s.data.toList.all isPart=true):=HA.out.1 (by rw [HSS.out];exact H4.out);cases h7:isKeyword s.data.toList
    ·have H7:=Lib.hid h7;go_wp2_with fail;go_ret;exact⟨ret_bool (by rw [HI.out,H3.out,HB.out,H7.out];simp [h2]),rfl⟩
    ·have H7:=Lib.hid h7;go_wp2_with fail;go_ret;exact⟨ret_bool (by rw [HI.out,H7.out];simp),rfl⟩
   ·have h5:(n == s.size)=false:=beq_eq_false_iff_ne.2 h4;have h6:((n:Int) == (s.size:Int))=false:=beq_eq_false_iff_ne.2 (by omega);have H4:=Lib.hid h4;clear h4;have HB:Hid (s.data.toList.all isPart=false):=by
     cases hb:s.data.toList.all isPart
     ·rfl
     ·exact absurd (HA.out.2 hb) (by rw [HSS.out];exact H4.out)
    go_wp2_with fail;go_ret;exact⟨ret_bool (by rw [HI.out,HB.out];simp),rfl⟩
 ·go_enter Tryz.func35,Tryz.ntmps35;go_wp2_with fail;go_ret;exact⟨ret_bool (by rw [HI.out];simp [h2]),rfl⟩
end
section
open Lx Go.RowKit
set_option maxHeartbeats 400000 in
theorem ref_Ident (s:ByteArray)(w:World)(hs:s.size≤maxLen):Calls Tryz.prog 69 #[.string s] w fun e w'=>e=.returned (.bool (isIdent s.data.toList))∧Below w.heap.size w w':=by
 unfold maxLen at hs
 by_cases h0:s.size=0
 ·have h1:=isEmpty_zero s h0;have H0:=Lib.hid h0;clear h0;go_enter Tryz.func69,Tryz.ntmps69;go_wp2_with fail;go_ret;exact⟨ret_bool (isIdent_zero s H0.out).symm,Below.refl _ _⟩
 have h0:0<s.size:=by omega
 have h1:=isEmpty_pos s h0;have HI:=Lib.hid (isIdent_pos s h0)
 by_cases h2:s.size≤32
 ·go_enter Tryz.func69,Tryz.ntmps69;go_wp2_with fail;refine (ref_letter _ _).mono ?_;rintro e w' ⟨rfl,rfl⟩;cases h3:isLetter s[0]
  ·have H3:=Lib.hid h3;go_wp2_with fail;go_ret;exact⟨ret_bool (by rw [HI.out,H3.out];simp),Below.refl _ _⟩
  ·have H3:=Lib.hid h3;go_wp2_with fail;refine (ref_Keyword s _).mono ?_;rintro e w1 ⟨rfl,hb1⟩;cases h7:isKeyword s.data.toList
   ·have H7:=Lib.hid h7;go_wp2_with fail
    go_loop [3] (fun i=>∃ k:Nat,k≤s.size∧i=.int .i64 k∧s.data.toList.all isPart=(s.data.toList.drop k).all isPart) (fun i=>s.size-(intOf i).toNat)
    case atStart=>exact⟨0,by omega,rfl,rfl⟩
    case round =>
     obtain⟨k,hk,rfl,hr⟩:=hrel;have HR:=Lib.hid hr;clear hr
     by_cases hlt:k<s.size
     ·have HD:=Lib.hid (drop_cons s k hlt);go_wp2_with fail;refine (ref_part _ _).mono ?_;rintro e w' ⟨rfl,rfl⟩;cases h8:isPart s[k]
      ·have H8:=Lib.hid h8;go_wp2_with fail;go_ret;exact⟨ret_bool (by rw [HI.out,HR.out,HD.out,List.all_cons,H8.out];simp),hb1⟩
      ·have H8:=Lib.hid h8;go_wp2_with fail
       go_round
       case rel=>exact⟨k+1,by omega,by go_num,by rw [HR.out,HD.out,List.all_cons,H8.out,Bool.true_and]⟩
       case measure=>simp [intOf];omega
     ·go_wp2_with fail;go_ret;exact⟨ret_bool (by rw [HI.out,HR.out,H7.out,H3.out,List.drop_eq_nil_of_le (by rw [len_list];omega)];simp [h2]),hb1⟩
   ·have H7:=Lib.hid h7;go_wp2_with fail;go_ret;exact⟨ret_bool (by rw [HI.out,H7.out];simp),hb1⟩
 ·go_enter Tryz.func69,Tryz.ntmps69;go_wp2_with fail;go_ret;exact⟨ret_bool (by rw [HI.out];simp [h2]),Below.refl _ _⟩
end
section
open Lx Go.RowKit
namespace Lx
theorem exsDeep_snoc (l:List Ex)(e:Ex):exsDeep (l++[e])=max (exsDeep l) (exDeep e):=by
 induction l with
 | nil=>simp [exsDeep];omega
 | cons x l ih=>simp only [List.cons_append,exsDeep,ih];omega
end Lx
end
section
open Lx Go.RowKit
attribute [local go_sem ↓] Go.wp_at_zero Go.wp_at_succ
/-- Where the loop of exprDepth stands. -/
def DeepRelF (ks:List Ex)(w:World)(v i:Value)(wr:World):Prop:=∃ n:Nat,n≤ks.length∧i=.int .i64 (n:Int)∧v=.int .i64 (exsDeep (ks.take n))∧Below w.heap.size w wr
set_option maxHeartbeats 1000000 in
theorem fmt_exprDepth (d:Nat):∀ (e:Ex) (k n:Int) (o m:ByteArray) (a:Option Addr) (l c:Nat) (w:World),IsEx Any w d e [.int .i64 k,.int .i64 n,.string o,.string m,.slice a l c] →
  Calls Tryz.prog 14 #[.agg #[.int .i64 k,.int .i64 n,.string o,.string m,.slice a l c]] w fun r w'=>r=.returned (.int .i64 (exDeep e))∧Below w.heap.size w w':=by
 induction d with
 | zero=>intro e k n o m a l c w h;exact absurd h (by simp [IsEx])
 | succ d ih =>
   intro e k n o m a l c w h;obtain⟨ek,en,eo,em,ks⟩:=e;obtain⟨v,hv,hl⟩:=h;obtain rfl:v=.slice a l c:=by simp only [List.cons.injEq,and_true] at hv;exact hv.2.2.2.2.symm
   clear hv;obtain⟨rfl,hm,hat⟩:=hl.exAt;unfold maxLen at hm;rw [exDeep];have HAT:=Lib.hid hat;have IH:=Lib.hid ih;clear hl hat ih;go_enter Tryz.func14,Tryz.ntmps14;go_wp2_with fail
   go_loopw [3,9] (fun v i wr=>DeepRelF ks (w.alloc (.cells #[.int .i64 k,.int .i64 n,.string o,.string m,.slice a ks.length c] 24)) v i wr) (fun _ i _=>ks.length-(intOf i).toNat)
   case atStart=>exact⟨0,Nat.zero_le _,rfl,rfl,.refl _ _⟩
   case round =>
    obtain⟨j,hj,rfl,rfl,hb⟩:=hrel
    by_cases hlt:j<ks.length
    ·obtain⟨g,off,k1,m1,o1,nm1,a1,n1,c1,rfl,hgl,c0,c1',c2,c3,c4,hx⟩:=HAT.out j hlt;have hsz:=hb.size;simp only [World.size_alloc] at hsz;have hbl:∀ o,wr.cell? ⟨g,o,none⟩=w.cell? ⟨g,o,none⟩:=fun o=>(hb.cell (p:=⟨g,o,none⟩) (by simp;omega)).trans (((Below.refl w.heap.size w).alloc (Nat.le_refl _) _).cell (p:=⟨g,o,none⟩) hgl)
     rw [← hbl] at c0 c1' c2 c3 c4;have hg1:g<wr.heap.size:=by omega
     have hx':IsEx Any wr d ks[j] [.int .i64 k1,.int .i64 m1,.string o1,.string nm1,.slice a1 n1 c1]:=IsEx.kept (kept_any (((Below.refl w.heap.size w).alloc (Nat.le_refl _) _).trans (hb.mono (by simp)))) _ _ _ hx;have hx2:=Lib.hid (IsEx.kept (kept_alloc wr (.cells #[.int .i64 k1,.int .i64 m1,.string o1,.string nm1,.slice a1 n1 c1] 24)) _ _ _ hx');have HS:Hid (exsDeep (ks.take (j+1))=max (exsDeep (ks.take j)) (exDeep ks[j])):=by
      show _=_;rw [List.take_succ_eq_append_getElem hlt,exsDeep_snoc]
     have HB:=Lib.hid hb;clear hb hbl hx hx';go_wp2_with fail;refine (IH.out _ _ _ _ _ _ _ _ _ hx2.out).mono ?_;rintro e w2 ⟨rfl,hb2⟩;have HB2:=Lib.hid hb2;clear hb2 c0 c1' c2 c3 c4 hx2;go_wp2_with fail
     go_roundw
     case rel =>
      refine⟨j+1,by omega,by go_num,?_,HB.out.trans (((Below.refl _ _).alloc (Nat.le_refl _) _).trans (HB2.out.mono (by simp)) |>.mono HB.out.size)⟩
      first | (rw [HS.out];done) | (rw [HS.out];congr 1;omega)
     case measure=>simp [intOf];omega
    ·have hjl:j=ks.length:=by omega
     subst hjl;have HB:=Lib.hid hb;clear hb;go_wp2_with fail;go_ret;refine⟨?_,((Below.refl w.heap.size w).alloc (Nat.le_refl _) _).trans (HB.out.mono (by simp))⟩;rw [List.take_length];rfl
end
end Go.Proofs.YtmlafcimjhnhhaaGreatDoor
