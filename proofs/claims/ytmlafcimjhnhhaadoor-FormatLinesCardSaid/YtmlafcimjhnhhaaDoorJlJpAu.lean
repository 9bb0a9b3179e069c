/-
  Plain Lean: lines and columns.
-/
import Derived.Test.YtmlafcimjhnhhaaDoorJlJpAn
import Derived.Lib.LastIndexLaws
import Derived.Outline
import Derived.Test.YtmlafcimjhnhhaaDoorJlJpAt
import Derived.Deep.QuietTactic
import Derived.BigQuiet
import Derived.Deep.RegionHeld3
import Derived.Deep.RegionWith
import Derived.Deep.DrawnRows
set_option linter.unusedSectionVars false
set_option linter.unusedSimpArgs false
set_option linter.unnecessarySimpa false
set_option linter.unusedVariables false
namespace Go.Proofs.YtmlafcimjhnhhaaDoor
section
open Lx Go.RowKit
namespace Lx
def stepLC (x:Nat×Nat)(c:UInt8):Nat×Nat:=if c=10 then (x.1+1,1) else (x.1,x.2+1)
def place (l:Bytes):Nat×Nat:=l.foldl stepLC (1,1)
theorem place_snoc (l:Bytes)(c:UInt8):place (l++[c])=stepLC (place l) c:=by unfold place;rw [List.foldl_append];rfl
theorem snoc_ind {P:Bytes→Prop}(h0:P [])(h1:∀ l c,P l→P (l++[c]))(l:Bytes):P l:=by
 have:∀ n (l:Bytes),l.length=n→P l:=by
  intro n
  induction n with
  | zero=>intro l hl;rw [List.length_eq_zero_iff.1 hl];exact h0
  | succ n ih =>
    intro l hl;have hne:l≠[]:=by intro e;rw [e] at hl;cases hl
    rw [← List.dropLast_concat_getLast hne];exact h1 _ _ (ih _ (by rw [List.length_dropLast];omega))
 exact this l.length l rfl
theorem place_le (l:Bytes):1≤(place l).1∧(place l).1≤l.length+1∧1≤(place l).2∧(place l).2≤l.length+1:=by
 induction l using snoc_ind with
 | h0=>simp [place]
 | h1 l c ih =>
   rw [place_snoc,stepLC,List.length_append];simp only [List.length_cons,List.length_nil];split <;> simp <;> omega
theorem take_snoc (s:ByteArray)(k:Nat)(h:k<s.size):s.data.toList.take (k+1)=s.data.toList.take k++[s[k]]:=by
 rw [List.take_succ_eq_append_getElem (by simpa using h)];rfl
/-- Line, column and error of an offset. -/
def placeOf (l:Bytes)(at':Int):Nat×Nat×Nat:=if 65536<l.length then (0,0,3) else if at'<0∨(l.length:Int)<at' then (0,0,4) else ((place (l.take at'.toNat)).1,(place (l.take at'.toNat)).2,0)
end Lx
def placeV (x:Nat×Nat×Nat):Value:=.tuple #[.int .i64 (x.1:Int),.int .i64 (x.2.1:Int),.int .i64 (x.2.2:Int)]
end
section
open Lx Go.RowKit
namespace Lx
theorem exsDeep_snoc (l:List Ex)(e:Ex):exsDeep (l++[e])=max (exsDeep l) (exDeep e):=by
 induction l with
 | nil=>simp [exsDeep];omega
 | cons x l ih=>simp only [List.cons_append,exsDeep,ih];omega
theorem stsDeep_snoc (l:List St)(e:St):stsDeep (l++[e])=max (stsDeep l) (stDeep e):=by
 induction l with
 | nil=>simp [stsDeep];omega
 | cons x l ih=>simp only [List.cons_append,stsDeep,ih];omega
theorem w64_cong (a b:Int)(h:a % 18446744073709551616=b % 18446744073709551616):wrap64 a=wrap64 b:=by unfold wrap64;omega
theorem w64_mod (a:Int):wrap64 a % 18446744073709551616=a % 18446744073709551616:=by unfold wrap64;omega
theorem w64_add (a b:Int):wrap64 (wrap64 a+wrap64 b)=wrap64 (a+b):=w64_cong _ _ (by have:=w64_mod a;have:=w64_mod b;omega)
end Lx
theorem exsDeep_nonneg (l:List Ex):0≤exsDeep l:=by
 cases l with
 | nil=>simp [exsDeep]
 | cons x l=>have:=exsDeep_nonneg l;simp only [exsDeep];omega
end
section
open Lx Go.RowKit
attribute [local go_sem ↓] Go.wp_at_zero Go.wp_at_succ
theorem Lx.w64_add3 (a b c:Int):wrap64 (wrap64 a+wrap64 (wrap64 b+wrap64 c))=wrap64 (a+(b+c)):=by rw [w64_add b c,w64_add]
/-- Where the loop of exprDepth stands. -/
def DeepRelF (ks:List Ex)(w:World)(v i:Value)(wr:World):Prop:=∃ n:Nat,n≤ks.length∧i=.int .i64 (n:Int)∧v=.int .i64 (exsDeep (ks.take n))∧Below w.heap.size w wr
set_option maxHeartbeats 1000000 in
theorem fmt_exprDepth (d:Nat):∀ (e:Ex) (k n:Int) (o m:ByteArray) (a:Option Addr) (l c:Nat) (w:World),IsEx Any w d e [.int .i64 k,.int .i64 n,.string o,.string m,.slice a l c] →
  Calls Tryd.prog 38 #[.agg #[.int .i64 k,.int .i64 n,.string o,.string m,.slice a l c]] w fun r w'=>r=.returned (.int .i64 (exDeep e))∧Below w.heap.size w w':=by
 induction d with
 | zero=>intro e k n o m a l c w h;exact absurd h (by simp [IsEx])
 | succ d ih =>
   intro e k n o m a l c w h;obtain⟨ek,en,eo,em,ks⟩:=e;obtain⟨v,hv,hl⟩:=h;obtain rfl:v=.slice a l c:=by simp only [List.cons.injEq,and_true] at hv;exact hv.2.2.2.2.symm
   clear hv;obtain⟨rfl,hm,hat⟩:=hl.exAt;unfold maxLen at hm;rw [exDeep];have HAT:=Lib.hid hat;have IH:=Lib.hid ih;clear hl hat ih;go_enter Tryd.func38,Tryd.ntmps38;go_wp2_with fail
   go_loopw [3,9] (fun v i wr=>DeepRelF ks (w.alloc (.cells #[.int .i64 k,.int .i64 n,.string o,.string m,.slice a ks.length c] 60)) v i wr) (fun _ i _=>ks.length-(intOf i).toNat)
   case atStart=>exact⟨0,Nat.zero_le _,rfl,rfl,.refl _ _⟩
   case round =>
    obtain⟨j,hj,rfl,rfl,hb⟩:=hrel
    by_cases hlt:j<ks.length
    ·obtain⟨g,off,k1,m1,o1,nm1,a1,n1,c1,rfl,hgl,c0,c1',c2,c3,c4,hx⟩:=HAT.out j hlt;have hsz:=hb.size;simp only [World.size_alloc] at hsz;have hbl:∀ o,wr.cell? ⟨g,o,none⟩=w.cell? ⟨g,o,none⟩:=fun o=>(hb.cell (p:=⟨g,o,none⟩) (by simp;omega)).trans (((Below.refl w.heap.size w).alloc (Nat.le_refl _) _).cell (p:=⟨g,o,none⟩) hgl)
     rw [← hbl] at c0 c1' c2 c3 c4;have hg1:g<wr.heap.size:=by omega
     have hx':IsEx Any wr d ks[j] [.int .i64 k1,.int .i64 m1,.string o1,.string nm1,.slice a1 n1 c1]:=IsEx.kept (kept_any (((Below.refl w.heap.size w).alloc (Nat.le_refl _) _).trans (hb.mono (by simp)))) _ _ _ hx;have hx2:=Lib.hid (IsEx.kept (kept_alloc wr (.cells #[.int .i64 k1,.int .i64 m1,.string o1,.string nm1,.slice a1 n1 c1] 60)) _ _ _ hx');have HS:Hid (exsDeep (ks.take (j+1))=max (exsDeep (ks.take j)) (exDeep ks[j])):=by
      show _=_;rw [List.take_succ_eq_append_getElem hlt,exsDeep_snoc]
     have HB:=Lib.hid hb;clear hb hbl hx hx';go_wp2_with fail;refine (IH.out _ _ _ _ _ _ _ _ _ hx2.out).mono ?_;rintro e w2 ⟨rfl,hb2⟩;have HB2:=Lib.hid hb2;clear hb2 c0 c1' c2 c3 c4 hx2;go_wp2_with fail
     go_roundw
     case rel =>
      refine⟨j+1,by omega,by go_num,?_,HB.out.trans (((Below.refl _ _).alloc (Nat.le_refl _) _).trans (HB2.out.mono (by simp)) |>.mono HB.out.size)⟩
      first | (rw [HS.out];done) | (rw [HS.out];congr 1;omega)
     case measure=>simp [intOf];omega
    ·have hjl:j=ks.length:=by omega
     subst hjl;have HB:=Lib.hid hb;clear hb;go_wp2_with fail;go_ret;refine⟨?_,((Below.refl w.heap.size w).alloc (Nat.le_refl _) _).trans (HB.out.mono (by simp))⟩;rw [List.take_length];rfl
def MaxRelF {α:Type}(f:List α→Int)(base:Int)(ks:List α)(w:World)(v i:Value)(wr:World):Prop:=∃ n:Nat,n≤ks.length∧i=.int .i64 (n:Int)∧v=.int .i64 (max base (f (ks.take n)))∧Below w.heap.size w wr
set_option maxHeartbeats 4000000 in
theorem fmt_stmtDepth (d:Nat):∀ (e:St) (k:Int) (nm ty:ByteArray) (a1:Option Addr) (n1 c1:Nat) (a2:Option Addr) (n2 c2:Nat) (a3:Option Addr) (n3 c3:Nat) (w:World),IsSt Any w d e [.int .i64 k,.string nm,.string ty,.slice a1 n1 c1,.slice a2 n2 c2,.slice a3 n3 c3] →
  Calls Tryd.prog 47 #[.agg #[.int .i64 k,.string nm,.string ty,.slice a1 n1 c1,.slice a2 n2 c2,.slice a3 n3 c3]] w fun r w'=>r=.returned (.int .i64 (stDeep e))∧Below w.heap.size w w':=by
 induction d with
 | zero=>intro e k nm ty a1 n1 c1 a2 n2 c2 a3 n3 c3 w h;exact absurd h (by simp [IsSt])
 | succ d ih =>
   intro e k nm ty a1 n1 c1 a2 n2 c2 a3 n3 c3 w h;obtain⟨ek,en,et,es,b,el⟩:=e;obtain⟨v1,v2,v3,hv,hl1,hl2,hl3⟩:=h;obtain⟨rfl,rfl,rfl⟩:v1=.slice a1 n1 c1∧v2=.slice a2 n2 c2∧v3=.slice a3 n3 c3:=by simp only [List.cons.injEq,and_true] at hv;exact⟨hv.2.2.2.1.symm,hv.2.2.2.2.1.symm,hv.2.2.2.2.2.symm⟩
   clear hv;obtain⟨rfl,hm1,hat1⟩:=hl1.exAt;obtain⟨rfl,hm2,hat2⟩:=hl2.stAt;obtain⟨rfl,hm3,hat3⟩:=hl3.stAt;unfold maxLen at hm1 hm2 hm3;rw [stDeep];have HAT1:=Lib.hid hat1;have HAT2:=Lib.hid hat2;have HAT3:=Lib.hid hat3;have IH:=Lib.hid ih;clear hl1 hl2 hl3 hat1 hat2 hat3 ih;go_enter Tryd.func47,Tryd.ntmps47;go_wp2_with fail
   go_loopw [3,13] (fun v i wr=>MaxRelF exsDeep (0) es (w.alloc (.cells #[.int .i64 k,.string nm,.string ty,.slice a1 es.length c1,.slice a2 b.length c2,.slice a3 el.length c3] 81)) v i wr) (fun _ i _=>es.length-(intOf i).toNat)
   case atStart=>exact⟨0,Nat.zero_le _,rfl,by simp [exsDeep],.refl _ _⟩
   case round =>
    obtain⟨j,hj,rfl,rfl,hb⟩:=hrel
    by_cases hlt:j<es.length
    ·obtain⟨g,off,ik,im,io,inm,ia,il,ic,rfl,hgl,e0,e1,e2,e3,e4,hx⟩:=HAT1.out j hlt;have hsz:=hb.size;simp only [World.size_alloc] at hsz;have hbl:∀ o,wr.cell? ⟨g,o,none⟩=w.cell? ⟨g,o,none⟩:=fun o=>(hb.cell (p:=⟨g,o,none⟩) (by simp;omega)).trans (((Below.refl w.heap.size w).alloc (Nat.le_refl _) _).cell (p:=⟨g,o,none⟩) hgl)
     rw [← hbl] at e0 e1 e2 e3 e4;have hg1:g<wr.heap.size:=by omega
     have hx':=IsEx.kept (kept_any (((Below.refl w.heap.size w).alloc (Nat.le_refl _) _).trans (hb.mono (by simp)))) _ _ _ hx;have hx2:=Lib.hid (IsEx.kept (kept_alloc wr (.cells #[.int .i64 ik,.int .i64 im,.string io,.string inm,.slice ia il ic] 60)) _ _ _ hx');have HB:=Lib.hid hb;clear hb hbl hx hx';have HS:Hid (exsDeep (es.take (j+1))=max (exsDeep (es.take j)) (exDeep es[j])):=by
      show _=_;rw [List.take_succ_eq_append_getElem hlt,exsDeep_snoc]
     go_wp2_with fail;refine (fmt_exprDepth d _ _ _ _ _ _ _ _ _ hx2.out).mono ?_;rintro e w2 ⟨rfl,hb2⟩;have HB2:=Lib.hid hb2;clear hb2 e0 e1 e2 e3 e4 hx2;go_wp2_with fail
     go_roundw
     case rel =>
      refine⟨j+1,by omega,by go_num,?_,HB.out.trans (((Below.refl _ _).alloc (Nat.le_refl _) _).trans (HB2.out.mono (by simp)) |>.mono HB.out.size)⟩
      first | (rw [HS.out];done) | (rw [HS.out];congr 1;omega)
     case measure=>simp [intOf];omega
    ·obtain⟨wo1,rfl⟩:∃ wo1:World,wo1=wr:=⟨_,rfl⟩;obtain⟨j1,rfl⟩:∃ j1:Nat,j1=j:=⟨_,rfl⟩;have hj1:j1=es.length:=by omega
     have hc1:wo1.cell? ⟨w.heap.size,4,none⟩=some (.slice a2 b.length c2):=(hb.cell (p:=⟨w.heap.size,4,none⟩) (by simp)).trans (by simp [go_sem]);have HB1:=Lib.hid hb;have HJ1:=Lib.hid hj1;clear hb hj1;go_wp2_with fail;clear hc1
     go_loopw [3,25] (fun v i wr=>MaxRelF stsDeep (max 0 (exsDeep (es.take j1))) b (w.alloc (.cells #[.int .i64 k,.string nm,.string ty,.slice a1 es.length c1,.slice a2 b.length c2,.slice a3 el.length c3] 81)) v i wr) (fun _ i _=>b.length-(intOf i).toNat)
     case atStart=>exact⟨0,Nat.zero_le _,rfl,by congr 1;simp only [List.take_zero,stsDeep];omega,HB1.out⟩
     case round =>
      obtain⟨j,hj,rfl,rfl,hb⟩:=hrel
      by_cases hlt:j<b.length
      ·obtain⟨g,off,ik,inm,ity,ia,ib,ic,ja,jb,jc,ka,kb,kc,rfl,hgl,⟨e0,e1,e2,e3,e4,e5⟩,hx⟩:=HAT2.out j hlt;have hsz:=hb.size;simp only [World.size_alloc] at hsz;have hbl:∀ o,wr.cell? ⟨g,o,none⟩=w.cell? ⟨g,o,none⟩:=fun o=>(hb.cell (p:=⟨g,o,none⟩) (by simp;omega)).trans (((Below.refl w.heap.size w).alloc (Nat.le_refl _) _).cell (p:=⟨g,o,none⟩) hgl)
       rw [← hbl] at e0 e1 e2 e3 e4 e5;have hg1:g<wr.heap.size:=by omega
       have hx':=IsSt.kept (kept_any (((Below.refl w.heap.size w).alloc (Nat.le_refl _) _).trans (hb.mono (by simp)))) _ _ _ hx;have hx2:=Lib.hid (IsSt.kept (kept_alloc wr (.cells #[.int .i64 ik,.string inm,.string ity,.slice ia ib ic,.slice ja jb jc,.slice ka kb kc] 81)) _ _ _ hx');have HB:=Lib.hid hb;clear hb hbl hx hx';have HS:Hid (stsDeep (b.take (j+1))=max (stsDeep (b.take j)) (stDeep b[j])):=by
        show _=_;rw [List.take_succ_eq_append_getElem hlt,stsDeep_snoc]
       go_wp2_with fail;refine (IH.out _ _ _ _ _ _ _ _ _ _ _ _ _ _ hx2.out).mono ?_;rintro e w2 ⟨rfl,hb2⟩;have HB2:=Lib.hid hb2;clear hb2 e0 e1 e2 e3 e4 e5 hx2;go_wp2_with fail
       go_roundw
       case rel =>
        refine⟨j+1,by omega,by go_num,?_,HB.out.trans (((Below.refl _ _).alloc (Nat.le_refl _) _).trans (HB2.out.mono (by simp)) |>.mono HB.out.size)⟩
        first | (rw [HS.out];done) | (rw [HS.out];congr 1;omega)
       case measure=>simp [intOf];omega
      ·obtain⟨wo2,rfl⟩:∃ wo2:World,wo2=wr:=⟨_,rfl⟩;obtain⟨j2,rfl⟩:∃ j2:Nat,j2=j:=⟨_,rfl⟩;have hj2:j2=b.length:=by omega
       have hc2:wo2.cell? ⟨w.heap.size,5,none⟩=some (.slice a3 el.length c3):=(hb.cell (p:=⟨w.heap.size,5,none⟩) (by simp)).trans (by simp [go_sem]);have HB2:=Lib.hid hb;have HJ2:=Lib.hid hj2;clear hb hj2;go_wp2_with fail;clear hc2
       go_loopw [3,37] (fun v i wr=>MaxRelF stsDeep (max (max 0 (exsDeep (es.take j1))) (stsDeep (b.take j2))) el (w.alloc (.cells #[.int .i64 k,.string nm,.string ty,.slice a1 es.length c1,.slice a2 b.length c2,.slice a3 el.length c3] 81)) v i wr) (fun _ i _=>el.length-(intOf i).toNat)
       case atStart=>exact⟨0,Nat.zero_le _,rfl,by congr 1;simp only [List.take_zero,stsDeep];omega,HB2.out⟩
       case round =>
        obtain⟨j,hj,rfl,rfl,hb⟩:=hrel
        by_cases hlt:j<el.length
        ·obtain⟨g,off,ik,inm,ity,ia,ib,ic,ja,jb,jc,ka,kb,kc,rfl,hgl,⟨e0,e1,e2,e3,e4,e5⟩,hx⟩:=HAT3.out j hlt;have hsz:=hb.size;simp only [World.size_alloc] at hsz;have hbl:∀ o,wr.cell? ⟨g,o,none⟩=w.cell? ⟨g,o,none⟩:=fun o=>(hb.cell (p:=⟨g,o,none⟩) (by simp;omega)).trans (((Below.refl w.heap.size w).alloc (Nat.le_refl _) _).cell (p:=⟨g,o,none⟩) hgl)
         rw [← hbl] at e0 e1 e2 e3 e4 e5;have hg1:g<wr.heap.size:=by omega
         have hx':=IsSt.kept (kept_any (((Below.refl w.heap.size w).alloc (Nat.le_refl _) _).trans (hb.mono (by simp)))) _ _ _ hx;have hx2:=Lib.hid (IsSt.kept (kept_alloc wr (.cells #[.int .i64 ik,.string inm,.string ity,.slice ia ib ic,.slice ja jb jc,.slice ka kb kc] 81)) _ _ _ hx');have HB:=Lib.hid hb;clear hb hbl hx hx';have HS:Hid (stsDeep (el.take (j+1))=max (stsDeep (el.take j)) (stDeep el[j])):=by
          show _=_;rw [List.take_succ_eq_append_getElem hlt,stsDeep_snoc]
         go_wp2_with fail;refine (IH.out _ _ _ _ _ _ _ _ _ _ _ _ _ _ hx2.out).mono ?_;rintro e w2 ⟨rfl,hb2⟩;have HB2:=Lib.hid hb2;clear hb2 e0 e1 e2 e3 e4 e5 hx2;go_wp2_with fail
         go_roundw
         case rel =>
          refine⟨j+1,by omega,by go_num,?_,HB.out.trans (((Below.refl _ _).alloc (Nat.le_refl _) _).trans (HB2.out.mono (by simp)) |>.mono HB.out.size)⟩
          first | (rw [HS.out];done) | (rw [HS.out];congr 1;omega)
         case measure=>simp [intOf];omega
        ·have hj3:j=el.length:=by omega
         have HB3:=Lib.hid hb;clear hb;go_wp2_with fail;go_ret;refine⟨?_,((Below.refl w.heap.size w).alloc (Nat.le_refl _) _).trans (HB3.out.mono (by simp))⟩;rw [HJ1.out,HJ2.out,hj3,List.take_length,List.take_length,List.take_length]
         show Ending.returned (.int .i64 (wrap64 (max 0 (max (exsDeep es) (max (stsDeep b) (stsDeep el)))+1)))=_
         have hz:max 0 (max (exsDeep es) (max (stsDeep b) (stsDeep el)))=max (max (exsDeep es) (stsDeep b)) (stsDeep el):=by have:=exsDeep_nonneg es;omega
         rw [hz]
/-- Where the loop of count stands. -/
def CountRelF (l:List St)(w:World)(v i:Value)(wr:World):Prop:=∃ n:Nat,n≤l.length∧i=.int .i64 (n:Int)∧v=.int .i64 (wrap64 ((l.length+inCount (l.take n):Nat):Int))∧Below w.heap.size w wr
set_option maxHeartbeats 2000000 in
theorem fmt_count (d:Nat):∀ (l:List St) (a:Option Addr) (n c:Nat) (w:World),IsList Any w 6 (IsSt Any w d) l (.slice a n c) →
  Calls Tryd.prog 46 #[.slice a n c] w fun r w'=>r=.returned (.int .i64 (wrap64 (stsCount l:Int)))∧Below w.heap.size w w':=by
 induction d with
 | zero =>
   intro l a n c w h;obtain⟨rfl,hm,hat⟩:=h.stAt;cases l with
   | cons x l=>obtain⟨_,_,_,_,_,_,_,_,_,_,_,_,_,_,_,_,_,hx⟩:=hat 0 (by simp);exact absurd hx (by simp [IsSt])
   | nil =>
     clear h hat;go_enter Tryd.func46,Tryd.ntmps46;go_wp2_with fail
     go_loopw [3,10] (fun v i wr=>CountRelF [] w v i wr) (fun _ i _=>0-(intOf i).toNat)
     case atStart=>exact⟨0,Nat.zero_le _,rfl,by simp [inCount,wrap64],.refl _ _⟩
     case round =>
      obtain⟨j,hj,rfl,rfl,hb⟩:=hrel;obtain rfl:j=0:=by simpa using hj
      have HB:=Lib.hid hb;clear hb;go_wp2_with fail;go_ret;exact⟨rfl,HB.out⟩
 | succ d ih =>
   intro l a n c w h;obtain⟨rfl,hm,hat⟩:=h.stAt;unfold maxLen at hm;have hce:=stsCount_eq l;have HAT:=Lib.hid hat;have IH:=Lib.hid ih;have HCE:=Lib.hid hce;clear h hat ih hce;go_enter Tryd.func46,Tryd.ntmps46;go_wp2_with fail
   go_loopw [3,10] (fun v i wr=>CountRelF l w v i wr) (fun _ i _=>l.length-(intOf i).toNat)
   case atStart=>exact⟨0,Nat.zero_le _,rfl,by congr 1;simp only [List.take_zero,inCount,Nat.add_zero];unfold wrap64;omega,.refl _ _⟩
   case round =>
    obtain⟨j,hj,rfl,rfl,hb⟩:=hrel
    by_cases hlt:j<l.length
    ·obtain⟨g,off,ik,inm,ity,ia,ib,ic,ja,jb,jc,ka,kb,kc,rfl,hgl,⟨e0,e1,e2,e3,e4,e5⟩,hx⟩:=HAT.out j hlt;have hsz:=hb.size;have hbl:∀ o,wr.cell? ⟨g,o,none⟩=w.cell? ⟨g,o,none⟩:=fun o=>(hb.cell (p:=⟨g,o,none⟩) (by omega)).trans rfl
     rw [← hbl] at e0 e1 e2 e3 e4 e5;have hg1:g<wr.heap.size:=by omega
     have hx':=IsSt.kept (kept_any hb) _ _ _ hx;have hx2:=Lib.hid (IsSt.kept (kept_alloc wr (.cells #[.int .i64 ik,.string inm,.string ity,.slice ia ib ic,.slice ja jb jc,.slice ka kb kc] 81)) _ _ _ hx');have HB:=Lib.hid hb;clear hb hbl hx hx';have HS:Hid (inCount (l.take (j+1))=inCount (l.take j)+stCount l[j]):=by
      show _=_;rw [List.take_succ_eq_append_getElem hlt,inCount_snoc]
     obtain⟨xe,xb,xel,xn,xt,hxe,hn1,hn2,hn3,hxb,hxl⟩:=hx2.out.lists;have hsc:stCount l[j]=stsCount xb+stsCount xel:=by rw [hxe,stCount]
     have H1:Hid (∀ x,Below (wr.alloc (.cells #[.int .i64 ik,.string inm,.string ity,.slice ia ib ic,.slice ja jb jc,.slice ka kb kc] 81)).heap.size (wr.alloc (.cells #[.int .i64 ik,.string inm,.string ity,.slice ia ib ic,.slice ja jb jc,.slice ka kb kc] 81)) x→IsList Any x 6 (IsSt Any x d) xb (.slice ja jb jc)):=fun x hx=>hxb.kept (kept_any hx) (by omega) fun _ _ _=>IsSt.kept (kept_any hx) _ _ _
     have H2:Hid (∀ x,Below (wr.alloc (.cells #[.int .i64 ik,.string inm,.string ity,.slice ia ib ic,.slice ja jb jc,.slice ka kb kc] 81)).heap.size (wr.alloc (.cells #[.int .i64 ik,.string inm,.string ity,.slice ia ib ic,.slice ja jb jc,.slice ka kb kc] 81)) x→IsList Any x 6 (IsSt Any x d) xel (.slice ka kb kc)):=fun x hx=>hxl.kept (kept_any hx) (by omega) fun _ _ _=>IsSt.kept (kept_any hx) _ _ _
     have HSC:=Lib.hid hsc;clear hxb hxl hxe hsc hx2 hn1 hn2 hn3;go_wp2_with fail
     go_region_with (first
      | (go_at_call 46
         with_reducible refine (IH.out _ _ _ _ _ (H1.out _ (below_drew _))).mono ?_
         rintro e w5 ⟨rfl,hb5⟩;have HB5:=Lib.hid ((below_drew (wr.alloc (.cells #[.int .i64 ik,.string inm,.string ity,.slice ia ib ic,.slice ja jb jc,.slice ka kb kc] 81))).trans hb5);have hs5:wr.heap.size+1≤w5.heap.size:=by have:=hb5.size;simp at this;omega
         have q5:w5.cell? ⟨wr.heap.size,5,none⟩=some (.slice ka kb kc):=(hb5.cell (p:=⟨wr.heap.size,5,none⟩) (by simp)).trans (by simp [go_sem]);clear hb5)
      | (have tok:=HB5
         clear tok
         go_at_call 46
         with_reducible refine (IH.out _ _ _ _ _ (H2.out _ HB5.out)).mono ?_
         rintro e w6 ⟨rfl,hb6⟩;have HB6:=Lib.hid (HB5.out.trans (hb6.mono HB5.out.size));clear hb6 HB5))
     all_goals
      go_wp2_with fail
      go_roundw
      case rel =>
       refine⟨j+1,by omega,by go_num,?_,HB.out.trans ((((Below.refl _ _).alloc (Nat.le_refl _) _).trans (HB6.out.mono (by simp))).mono HB.out.size)⟩;rw [HS.out,HSC.out];congr 1;exact (w64_add3 _ _ _).trans (congrArg wrap64 (by omega))
      case measure=>simp [intOf];omega
    ·have hjl:j=l.length:=by omega
     have HB:=Lib.hid hb;have HJ:=Lib.hid hjl;clear hb hjl;go_wp2_with fail;go_ret;refine⟨?_,HB.out⟩;rw [HJ.out,List.take_length,← HCE.out];rfl
end
section
open Lx Go.RowKit
/-- Where a loop stands that looks for the first item that fails. -/
def LimRelF {α:Type}(f:α→Nat)(l:List α)(w:World)(i:Value)(wr:World):Prop:=∃ n:Nat,∃ hn:n≤l.length,i=.int .i64 (n:Int)∧(∀ k (hk:k<n),f (l[k]'(by omega))=0)∧Below w.heap.size w wr
def stLimF (s:St):Nat:=if 32<stDeep s then 15 else 0
theorem meLim_eq (m:Me)(h:¬ (6<m.params.length∨200<wrap64 (stsCount m.body:Int))):meLim m=firstLim stLimF m.body:=by
 unfold meLim;rw [if_neg h];generalize m.body=l;clear h
 induction l with
 | nil=>simp [stsDeep,firstLim]
 | cons x l ih =>
   have hs:stsDeep (x::l)=max (stDeep x) (stsDeep l):=by simp only [stsDeep]
   have hf:firstLim stLimF (x::l)=if 32<stDeep x then 15 else firstLim stLimF l:=by
    by_cases hx:32<stDeep x
    ·simp [firstLim,stLimF,hx]
    ·simp [firstLim,stLimF,hx]
   rw [hf,← ih]
   by_cases hx:32<stDeep x
   ·rw [if_pos (by omega),if_pos hx]
   ·rw [if_neg hx]
    by_cases hl:32<stsDeep l
    ·rw [if_pos (by omega),if_pos hl]
    ·rw [if_neg (by omega),if_neg hl]
set_option maxHeartbeats 2000000 in
theorem fmt_methodLimits (d:Nat)(m:Me)(nm:ByteArray)(sb:Bool)(a1:Option Addr)(n1 c1:Nat)(rs:ByteArray)(a2:Option Addr)(n2 c2:Nat)(w:World)(h:IsMe Any w d m [.string nm,.bool sb,.slice a1 n1 c1,.string rs,.slice a2 n2 c2]) :
  Calls Tryd.prog 25 #[.agg #[.string nm,.bool sb,.slice a1 n1 c1,.string rs,.slice a2 n2 c2]] w fun r w'=>r=.returned (.int .i64 (meLim m:Int))∧Below w.heap.size w w':=by
 obtain⟨_,_,_,hl1,hl2⟩:=h.parts;obtain⟨rfl,hm1⟩:=hl1.len;obtain⟨rfl,hm2,hat⟩:=hl2.stAt;unfold maxLen at hm1 hm2;have HAT:=Lib.hid hat;have HL2:=Lib.hid (hl2.kept (kept_alloc w (.cells #[.string nm,.bool sb,.slice a1 m.params.length c1,.string rs,.slice a2 m.body.length c2] 41)) (by omega) fun _ _ _=>IsSt.kept (kept_alloc w (.cells #[.string nm,.bool sb,.slice a1 m.params.length c1,.string rs,.slice a2 m.body.length c2] 41)) _ _ _);clear h hl1 hl2 hat;rename_i hn1 hn2 hn3;clear hn1 hn2 hn3
 by_cases h6:6<m.params.length
 ·have HR:Hid (meLim m=3):=by show _=_;unfold meLim;rw [if_pos (.inl h6)]
  go_enter Tryd.func25,Tryd.ntmps25;go_wp2_with fail;go_ret;refine⟨?_,(Below.refl w.heap.size w).alloc (Nat.le_refl _) _⟩;rw [HR.out];rfl
 ·have h6':decide (6<m.params.length)=false:=by simpa using h6
  go_enter Tryd.func25,Tryd.ntmps25;go_wp2_with fail;refine (fmt_count d m.body _ _ _ _ HL2.out).mono ?_;rintro e w2 ⟨rfl,hb⟩;have HBB:=Lib.hid hb;have hc4:w2.cell? ⟨w.heap.size,4,none⟩=some (.slice a2 m.body.length c2):=(hb.cell (p:=⟨w.heap.size,4,none⟩) (by simp)).trans (by simp [go_sem]);clear hb
  by_cases h200:200<wrap64 (stsCount m.body:Int)
  ·have HR:Hid (meLim m=3):=by show _=_;unfold meLim;rw [if_pos (.inr h200)]
   go_wp2_with fail;go_ret;refine⟨?_,((Below.refl w.heap.size w).alloc (Nat.le_refl _) _).trans (HBB.out.mono (by simp))⟩;rw [HR.out];rfl
  ·have HR:=Lib.hid (meLim_eq m (fun h=>h.elim h6 h200));have h200f:decide (200<wrap64 (stsCount m.body:Int))=false:=decide_eq_false h200;go_wp2_with fail
   go_loopw [18] (fun i wr=>LimRelF stLimF m.body (w.alloc (.cells #[.string nm,.bool sb,.slice a1 m.params.length c1,.string rs,.slice a2 m.body.length c2] 41)) i wr) (fun i _=>m.body.length-(intOf i).toNat)
   case atStart=>exact⟨0,Nat.zero_le _,rfl,fun k hk=>by omega,HBB.out⟩
   case round =>
    obtain⟨j,hj,rfl,h0,hb⟩:=hrel;have H0:=Lib.hid h0;clear h0
    by_cases hlt:j<m.body.length
    ·obtain⟨g,off,ik,inm,ity,ia,ib,ic,ja,jb,jc,ka,kb,kc,rfl,hgl,⟨e0,e1,e2,e3,e4,e5⟩,hx⟩:=HAT.out j hlt;have hsz:=hb.size;simp only [World.size_alloc] at hsz;have hbl:∀ o,wr.cell? ⟨g,o,none⟩=w.cell? ⟨g,o,none⟩:=fun o=>(hb.cell (p:=⟨g,o,none⟩) (by simp;omega)).trans (((Below.refl w.heap.size w).alloc (Nat.le_refl _) _).cell (p:=⟨g,o,none⟩) hgl)
     rw [← hbl] at e0 e1 e2 e3 e4 e5;have hg1:g<wr.heap.size:=by omega
     have hx':=IsSt.kept (kept_any (((Below.refl w.heap.size w).alloc (Nat.le_refl _) _).trans (hb.mono (by simp)))) _ _ _ hx;have hx2:=Lib.hid (IsSt.kept (kept_alloc wr (.cells #[.int .i64 ik,.string inm,.string ity,.slice ia ib ic,.slice ja jb jc,.slice ka kb kc] 81)) _ _ _ hx');have HB:=Lib.hid hb;clear hb hbl hx hx';go_wp2_with fail;refine (fmt_stmtDepth d _ _ _ _ _ _ _ _ _ _ _ _ _ _ hx2.out).mono ?_;rintro e w3 ⟨rfl,hb3⟩;have HB3:=Lib.hid (HB.out.trans (((Below.refl _ _).alloc (Nat.le_refl _) _).trans (hb3.mono (by simp)) |>.mono HB.out.size));clear hb3 e0 e1 e2 e3 e4 e5 hx2
     by_cases h32:32<stDeep m.body[j]
     ·go_wp2_with fail;go_ret;refine⟨?_,((Below.refl w.heap.size w).alloc (Nat.le_refl _) _).trans (HB3.out.mono (by simp))⟩;have hz:stLimF m.body[j]=15:=by unfold stLimF;rw [if_pos h32]
      rw [HR.out,firstLim_take _ _ j hlt H0.out,hz];rfl
     ·have h32f:decide (32<stDeep m.body[j])=false:=decide_eq_false h32;go_wp2_with fail
      go_roundw
      case rel =>
       refine⟨j+1,by omega,by go_num,fun k hk=>?_,HB3.out⟩
       by_cases hkj:k<j
       ·exact H0.out k hkj
       ·obtain rfl:k=j:=by omega
        unfold stLimF;rw [if_neg (by omega)]
      case measure=>simp [intOf];omega
    ·have HB:=Lib.hid hb;clear hb;go_wp2_with fail;go_ret;refine⟨?_,((Below.refl w.heap.size w).alloc (Nat.le_refl _) _).trans (HB.out.mono (by simp))⟩;rw [HR.out,firstLim_zero _ _ fun i hi=>H0.out i (by omega)];rfl
set_option maxHeartbeats 4000000 in
theorem fmt_sourceLimits (d:Nat)(l:List Cl)(a:Option Addr)(n c:Nat)(w:World)(h:IsList Any w 4 (IsCl Any w d) l (.slice a n c)) :
  Calls Tryd.prog 14 #[.agg #[.slice a n c]] w fun r w'=>r=.returned (.int .i64 (soLim l:Int))∧Below w.heap.size w w':=by
 obtain⟨rfl,hm,hat⟩:=h.clAt;unfold maxLen at hm;have HAT:=Lib.hid hat;clear h hat
 by_cases hp:64<l.length
 ·have HR:Hid (soLim l=3):=by show _=_;unfold soLim;rw [if_pos hp]
  go_enter Tryd.func14,Tryd.ntmps14;go_wp2_with fail;go_ret;exact⟨by rw [HR.out];rfl,(Below.refl _ _).alloc (Nat.le_refl _) _⟩
 have HR:Hid (soLim l=firstLim clLim l):=by show _=_;unfold soLim;rw [if_neg hp]
 go_enter Tryd.func14,Tryd.ntmps14;go_wp2_with fail
 go_loopw [15] (fun i wr=>LimRelF clLim l w i wr) (fun i _=>l.length-(intOf i).toNat)
 case atStart=>exact⟨0,Nat.zero_le _,rfl,fun k hk=>by omega,(Below.refl _ _).alloc (Nat.le_refl _) _⟩
 case round =>
  obtain⟨j,hj,rfl,h0,hb⟩:=hrel;have H0:=Lib.hid h0;clear h0
  by_cases hlt:j<l.length
  ·obtain⟨g,off,nm1,sp1,a3,n3,c3,a4,n4,c4,rfl,hgl,⟨x0,x1,x2,x3⟩,hx⟩:=HAT.out j hlt;rw [← hb.cell (p:=⟨g,_,none⟩) hgl] at x0 x1 x2 x3;have hgw:g<wr.heap.size:=Nat.lt_of_lt_of_le hgl hb.size;obtain⟨nn,ss,fs,ms,he,rfl,rfl,hl1,hl2⟩:=(IsCl.kept (kept_any hb) hx).flds;obtain rfl:=hl1.len.1;have hfl:=hl1.len.2;obtain⟨rfl,hml,hatm⟩:=hl2.meAt;unfold maxLen at hfl hml;have HATM:=Lib.hid hatm;have HB:=Lib.hid hb;have HE:=Lib.hid he;have hj1:(j:Int)<(l.length:Int):=by omega
   have hj0:(0:Int)≤(j:Int):=by omega
   clear hb hx hl1 hl2 hatm he
   by_cases hf16:16<fs.length
   ·have HZ:Hid (clLim l[j]=3):=by show _=_;rw [HE.out];unfold clLim;rw [if_pos (.inl hf16)]
    go_wp2_with fail;go_ret;refine⟨?_,HB.out.trans (((Below.refl _ _).alloc (Nat.le_refl _) _).mono HB.out.size)⟩;rw [HR.out,firstLim_take _ _ j hlt H0.out,HZ.out];rfl
   by_cases hm16:16<ms.length
   ·have HZ:Hid (clLim l[j]=3):=by show _=_;rw [HE.out];unfold clLim;rw [if_pos (.inr hm16)]
    go_wp2_with fail;go_ret;refine⟨?_,HB.out.trans (((Below.refl _ _).alloc (Nat.le_refl _) _).mono HB.out.size)⟩;rw [HR.out,firstLim_take _ _ j hlt H0.out,HZ.out];rfl
   have HZ:Hid (clLim l[j]=firstLim meLim ms):=by show _=_;rw [HE.out];unfold clLim;rw [if_neg (by rintro (h | h);exact hf16 h;exact hm16 h)]
   go_wp2_with fail;clear x0 x1 x2 x3
   go_loopw [32] (fun i wx=>LimRelF meLim ms wr i wx) (fun i _=>ms.length-(intOf i).toNat)
   case atStart=>exact⟨0,Nat.zero_le _,rfl,fun k hk=>by omega,(Below.refl _ _).alloc (Nat.le_refl _) _⟩
   case round =>
    obtain⟨q,hq,rfl,i0,hb2⟩:=hrel;have I0:=Lib.hid i0;clear i0
    by_cases hlt2:q<ms.length
    ·obtain⟨g2,off2,nm2,sb2,a5,n5,c5,rs2,a6,n6,c6,rfl,hgl2,⟨y0,y1,y2,y3,y4⟩,hy⟩:=HATM.out q hlt2;rw [← hb2.cell (p:=⟨g2,_,none⟩) hgl2] at y0 y1 y2 y3 y4;have hgw2:g2<wr.heap.size:=Nat.lt_of_lt_of_le hgl2 hb2.size;have hy2:=IsMe.kept (kept_any hb2) hy;have HY:=Lib.hid (IsMe.kept (kept_alloc wr (.cells #[.string nm2,.bool sb2,.slice a5 n5 c5,.string rs2,.slice a6 n6 c6] 41)) hy2);have HB2:=Lib.hid hb2;have hq1:(q:Int)<(ms.length:Int):=by omega
     have hq0:(0:Int)≤(q:Int):=by omega
     clear hb2 hy hy2;go_wp2_with fail;refine (fmt_methodLimits d _ _ _ _ _ _ _ _ _ _ _ HY.out).mono ?_;rintro e w3 ⟨rfl,hb3⟩;have HB3:=Lib.hid (((Below.refl _ _).alloc (Nat.le_refl _) _).trans (hb3.mono (by simp)));clear hb3 y0 y1 y2 y3 y4
     by_cases hz:meLim ms[q]=0
     ·have IZ:=Lib.hid hz;have hz1:(((meLim ms[q]:Nat):Int) != 0)=false:=by rw [hz];rfl
      clear hz;go_wp2_with fail
      go_roundw
      case rel =>
       refine⟨q+1,by omega,by go_num,fun k hk=>?_,HB2.out.trans (HB3.out.mono HB2.out.size)⟩
       by_cases hkj:k<q
       ·exact I0.out k hkj
       ·obtain rfl:k=q:=by omega
        exact IZ.out
      case measure=>simp [intOf];omega
     ·have hz1:(((meLim ms[q]:Nat):Int) != 0)=true:=by rw [bne,beq_eq_false_iff_ne.2 (by omega)];rfl
      have IZ:=Lib.hid hz;clear hz;go_wp2_with fail;go_ret;refine⟨?_,HB.out.trans ((HB2.out.trans (HB3.out.mono HB2.out.size)).mono HB.out.size)⟩;have e1:clLim l[j]=meLim ms[q]:=by rw [HZ.out,firstLim_take _ _ q hlt2 I0.out,if_pos IZ.out]
      rw [HR.out,firstLim_take _ _ j hlt H0.out,e1,if_pos IZ.out];rfl
    ·have HB2:=Lib.hid hb2;clear hb2;have e1:Hid (clLim l[j]=0):=by show _=_;rw [HZ.out,firstLim_zero _ _ fun i hi=>I0.out i (by omega)]
     go_wp2_with fail
     go_roundw
     case rel =>
      refine⟨j+1,by omega,by go_num,fun k hk=>?_,HB.out.trans (HB2.out.mono HB.out.size)⟩
      by_cases hkj:k<j
      ·exact H0.out k hkj
      ·obtain rfl:k=j:=by omega
       exact e1.out
     case measure=>simp [intOf];omega
  ·have HB:=Lib.hid hb;clear hb;go_wp2_with fail;go_ret;refine⟨?_,HB.out⟩;rw [HR.out,firstLim_zero _ _ fun i hi=>H0.out i (by omega)];rfl
end
section
namespace Lx
end Lx
end
end Go.Proofs.YtmlafcimjhnhhaaDoor
