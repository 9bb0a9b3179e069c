/-
  (What stood here stands in XItems.)
-/
import Derived.Test.YtmlafcimjhnhhaaGreatDoorJbJpAr
import Derived.Test.YtmlafcimjhnhhaaGreatDoorJbJpBc
import Derived.Test.YtmlafcimjhnhhaaGreatDoorJbParDecl
import Derived.Deep.RegionHeld3
import Derived.Deep.DrawnRows
set_option linter.unusedSectionVars false
set_option linter.unusedSimpArgs false
set_option linter.unnecessarySimpa false
set_option linter.unusedVariables false
namespace Go.Proofs.YtmlafcimjhnhhaaGreatDoor
section
open Lx Go.RowKit
attribute [local go_sem ↓] Go.wp_at_zero Go.wp_at_succ
end
section
open Lx Go.RowKit
attribute [local go_sem ↓] Go.wp_at_zero Go.wp_at_succ
/-- Where a loop stands that takes the greatest of a list. -/
def MaxRel {α:Type}(f:List α→Nat)(base:Nat)(ks:List α)(w:World)(v i:Value)(wr:World):Prop:=∃ n:Nat,n≤ks.length∧i=.int .i64 (n:Int)∧v=.int .i64 ((max base (f (ks.take n)):Nat):Int)∧Below w.heap.size w wr
set_option maxHeartbeats 4000000 in
theorem par_stmtDepth (d:Nat):∀ (e:St) (k:Int) (nm ty:ByteArray) (a1:Option Addr) (n1 c1:Nat) (a2:Option Addr) (n2 c2:Nat) (a3:Option Addr) (n3 c3:Nat) (w:World),IsSt Any w d e [.int .i64 k,.string nm,.string ty,.slice a1 n1 c1,.slice a2 n2 c2,.slice a3 n3 c3]→stDepth e≤1000000 →
  Calls Tryz.prog 103 #[.agg #[.int .i64 k,.string nm,.string ty,.slice a1 n1 c1,.slice a2 n2 c2,.slice a3 n3 c3]] w fun r w'=>r=.returned (.int .i64 (stDepth e:Int))∧Below w.heap.size w w':=by
 induction d with
 | zero=>intro e k nm ty a1 n1 c1 a2 n2 c2 a3 n3 c3 w h;exact absurd h (by simp [IsSt])
 | succ d ih =>
   intro e k nm ty a1 n1 c1 a2 n2 c2 a3 n3 c3 w h hd;obtain⟨ek,en,et,es,b,el⟩:=e;obtain⟨v1,v2,v3,hv,hl1,hl2,hl3⟩:=h;obtain⟨rfl,rfl,rfl⟩:v1=.slice a1 n1 c1∧v2=.slice a2 n2 c2∧v3=.slice a3 n3 c3:=by simp only [List.cons.injEq,and_true] at hv;exact⟨hv.2.2.2.1.symm,hv.2.2.2.2.1.symm,hv.2.2.2.2.2.symm⟩
   clear hv;obtain⟨rfl,hm1,hat1⟩:=hl1.exAt;obtain⟨rfl,hm2,hat2⟩:=hl2.stAt;obtain⟨rfl,hm3,hat3⟩:=hl3.stAt;unfold maxLen at hm1 hm2 hm3;rw [stDepth] at hd ⊢;have HAT1:=Lib.hid hat1;have HAT2:=Lib.hid hat2;have HAT3:=Lib.hid hat3;have IH:=Lib.hid ih;clear hl1 hl2 hl3 hat1 hat2 hat3 ih;go_enter Tryz.func103,Tryz.ntmps103;go_wp2_with fail
   go_loopw [3,13] (fun v i wr=>MaxRel exsDepth (0) es (w.alloc (.cells #[.int .i64 k,.string nm,.string ty,.slice a1 es.length c1,.slice a2 b.length c2,.slice a3 el.length c3] 109)) v i wr) (fun _ i _=>es.length-(intOf i).toNat)
   case atStart=>exact⟨0,Nat.zero_le _,rfl,by rfl,.refl _ _⟩
   case round =>
    obtain⟨j,hj,rfl,rfl,hb⟩:=hrel;have hdt:=exsDepth_take es j
    by_cases hlt:j<es.length
    ·obtain⟨g,off,ik,im,io,inm,ia,il,ic,rfl,hgl,e0,e1,e2,e3,e4,hx⟩:=HAT1.out j hlt;have hsz:=hb.size;simp only [World.size_alloc] at hsz;have hbl:∀ o,wr.cell? ⟨g,o,none⟩=w.cell? ⟨g,o,none⟩:=fun o=>(hb.cell (p:=⟨g,o,none⟩) (by simp;omega)).trans (((Below.refl w.heap.size w).alloc (Nat.le_refl _) _).cell (p:=⟨g,o,none⟩) hgl)
     rw [← hbl] at e0 e1 e2 e3 e4;have hg1:g<wr.heap.size:=by omega
     have hx':=IsEx.kept (kept_any (((Below.refl w.heap.size w).alloc (Nat.le_refl _) _).trans (hb.mono (by simp)))) _ _ _ hx;have hx2:=Lib.hid (IsEx.kept (kept_alloc wr (.cells #[.int .i64 ik,.int .i64 im,.string io,.string inm,.slice ia il ic] 24)) _ _ _ hx');have HB:=Lib.hid hb;clear hb hbl hx hx';have hdj:=exsDepth_get es j hlt;have HS:Hid (exsDepth (es.take (j+1))=max (exsDepth (es.take j)) (exDepth es[j])):=by
      show _=_;rw [List.take_succ_eq_append_getElem hlt,exsDepth_snoc]
     go_wp2_with fail;refine (par_exprDepth d _ _ _ _ _ _ _ _ _ hx2.out (by omega)).mono ?_;rintro e w2 ⟨rfl,hb2⟩;have HB2:=Lib.hid hb2;clear hb2 e0 e1 e2 e3 e4 hx2;go_wp2_with fail
     go_roundw
     case rel =>
      refine⟨j+1,by omega,by go_num,?_,HB.out.trans (((Below.refl _ _).alloc (Nat.le_refl _) _).trans (HB2.out.mono (by simp)) |>.mono HB.out.size)⟩;rw [HS.out];congr 1;omega
     case measure=>simp [intOf];omega
    ·obtain⟨wo1,rfl⟩:∃ wo1:World,wo1=wr:=⟨_,rfl⟩;obtain⟨j1,rfl⟩:∃ j1:Nat,j1=j:=⟨_,rfl⟩;have hj1:j1=es.length:=by omega
     have hc1:wo1.cell? ⟨w.heap.size,4,none⟩=some (.slice a2 b.length c2):=(hb.cell (p:=⟨w.heap.size,4,none⟩) (by simp)).trans (by simp [go_sem]);have HB1:=Lib.hid hb;have HJ1:=Lib.hid hj1;clear hb hj1;go_wp2_with fail;clear hc1
     go_loopw [3,25] (fun v i wr=>MaxRel stsDepth (max 0 (exsDepth (es.take j1))) b (w.alloc (.cells #[.int .i64 k,.string nm,.string ty,.slice a1 es.length c1,.slice a2 b.length c2,.slice a3 el.length c3] 109)) v i wr) (fun _ i _=>b.length-(intOf i).toNat)
     case atStart=>exact⟨0,Nat.zero_le _,rfl,by simp [stsDepth],HB1.out⟩
     case round =>
      obtain⟨j,hj,rfl,rfl,hb⟩:=hrel;have hdt:=stsDepth_take b j
      by_cases hlt:j<b.length
      ·obtain⟨g,off,ik,inm,ity,ia,ib,ic,ja,jb,jc,ka,kb,kc,rfl,hgl,⟨e0,e1,e2,e3,e4,e5⟩,hx⟩:=HAT2.out j hlt;have hsz:=hb.size;simp only [World.size_alloc] at hsz;have hbl:∀ o,wr.cell? ⟨g,o,none⟩=w.cell? ⟨g,o,none⟩:=fun o=>(hb.cell (p:=⟨g,o,none⟩) (by simp;omega)).trans (((Below.refl w.heap.size w).alloc (Nat.le_refl _) _).cell (p:=⟨g,o,none⟩) hgl)
       rw [← hbl] at e0 e1 e2 e3 e4 e5;have hg1:g<wr.heap.size:=by omega
       have hx':=IsSt.kept (kept_any (((Below.refl w.heap.size w).alloc (Nat.le_refl _) _).trans (hb.mono (by simp)))) _ _ _ hx;have hx2:=Lib.hid (IsSt.kept (kept_alloc wr (.cells #[.int .i64 ik,.string inm,.string ity,.slice ia ib ic,.slice ja jb jc,.slice ka kb kc] 109)) _ _ _ hx');have HB:=Lib.hid hb;clear hb hbl hx hx';have hdj:=stsDepth_get b j hlt;have HS:Hid (stsDepth (b.take (j+1))=max (stsDepth (b.take j)) (stDepth b[j])):=by
        show _=_;rw [List.take_succ_eq_append_getElem hlt,stsDepth_snoc]
       go_wp2_with fail;refine (IH.out _ _ _ _ _ _ _ _ _ _ _ _ _ _ hx2.out (by omega)).mono ?_;rintro e w2 ⟨rfl,hb2⟩;have HB2:=Lib.hid hb2;clear hb2 e0 e1 e2 e3 e4 e5 hx2;go_wp2_with fail
       go_roundw
       case rel =>
        refine⟨j+1,by omega,by go_num,?_,HB.out.trans (((Below.refl _ _).alloc (Nat.le_refl _) _).trans (HB2.out.mono (by simp)) |>.mono HB.out.size)⟩;rw [HS.out];congr 1;omega
       case measure=>simp [intOf];omega
      ·obtain⟨wo2,rfl⟩:∃ wo2:World,wo2=wr:=⟨_,rfl⟩;obtain⟨j2,rfl⟩:∃ j2:Nat,j2=j:=⟨_,rfl⟩;have hj2:j2=b.length:=by omega
       have hc2:wo2.cell? ⟨w.heap.size,5,none⟩=some (.slice a3 el.length c3):=(hb.cell (p:=⟨w.heap.size,5,none⟩) (by simp)).trans (by simp [go_sem]);have HB2:=Lib.hid hb;have HJ2:=Lib.hid hj2;clear hb hj2;go_wp2_with fail;clear hc2
       go_loopw [3,37] (fun v i wr=>MaxRel stsDepth (max (max 0 (exsDepth (es.take j1))) (stsDepth (b.take j2))) el (w.alloc (.cells #[.int .i64 k,.string nm,.string ty,.slice a1 es.length c1,.slice a2 b.length c2,.slice a3 el.length c3] 109)) v i wr) (fun _ i _=>el.length-(intOf i).toNat)
       case atStart=>exact⟨0,Nat.zero_le _,rfl,by simp [stsDepth],HB2.out⟩
       case round =>
        obtain⟨j,hj,rfl,rfl,hb⟩:=hrel;have hdt:=stsDepth_take el j
        by_cases hlt:j<el.length
        ·obtain⟨g,off,ik,inm,ity,ia,ib,ic,ja,jb,jc,ka,kb,kc,rfl,hgl,⟨e0,e1,e2,e3,e4,e5⟩,hx⟩:=HAT3.out j hlt;have hsz:=hb.size;simp only [World.size_alloc] at hsz;have hbl:∀ o,wr.cell? ⟨g,o,none⟩=w.cell? ⟨g,o,none⟩:=fun o=>(hb.cell (p:=⟨g,o,none⟩) (by simp;omega)).trans (((Below.refl w.heap.size w).alloc (Nat.le_refl _) _).cell (p:=⟨g,o,none⟩) hgl)
         rw [← hbl] at e0 e1 e2 e3 e4 e5;have hg1:g<wr.heap.size:=by omega
         have hx':=IsSt.kept (kept_any (((Below.refl w.heap.size w).alloc (Nat.le_refl _) _).trans (hb.mono (by simp)))) _ _ _ hx;have hx2:=Lib.hid (IsSt.kept (kept_alloc wr (.cells #[.int .i64 ik,.string inm,.string ity,.slice ia ib ic,.slice ja jb jc,.slice ka kb kc] 109)) _ _ _ hx');have HB:=Lib.hid hb;clear hb hbl hx hx';have hdj:=stsDepth_get el j hlt;have HS:Hid (stsDepth (el.take (j+1))=max (stsDepth (el.take j)) (stDepth el[j])):=by
          show _=_;rw [List.take_succ_eq_append_getElem hlt,stsDepth_snoc]
         go_wp2_with fail;refine (IH.out _ _ _ _ _ _ _ _ _ _ _ _ _ _ hx2.out (by omega)).mono ?_;rintro e w2 ⟨rfl,hb2⟩;have HB2:=Lib.hid hb2;clear hb2 e0 e1 e2 e3 e4 e5 hx2;go_wp2_with fail
         go_roundw
         case rel =>
          refine⟨j+1,by omega,by go_num,?_,HB.out.trans (((Below.refl _ _).alloc (Nat.le_refl _) _).trans (HB2.out.mono (by simp)) |>.mono HB.out.size)⟩;rw [HS.out];congr 1;omega
         case measure=>simp [intOf];omega
        ·have hj3:j=el.length:=by omega
         have HB3:=Lib.hid hb;clear hb;go_wp2_with fail;go_ret;refine⟨?_,((Below.refl w.heap.size w).alloc (Nat.le_refl _) _).trans (HB3.out.mono (by simp))⟩;rw [HJ1.out,HJ2.out,hj3,List.take_length,List.take_length,List.take_length]
         show Ending.returned (.int .i64 (((max (exsDepth es) (max (stsDepth b) (stsDepth el)):Nat):Int)+1))=_
         have hz:((max (exsDepth es) (max (stsDepth b) (stsDepth el)):Nat):Int)+1=((max (max (exsDepth es) (stsDepth b)) (stsDepth el)+1:Nat):Int):=by omega
         rw [hz]
/-- Where the loop of count stands. -/
def CountRel (l:List St)(w:World)(v i:Value)(wr:World):Prop:=∃ n:Nat,n≤l.length∧i=.int .i64 (n:Int)∧v=.int .i64 ((l.length+inCount (l.take n):Nat):Int)∧Below w.heap.size w wr
set_option maxHeartbeats 2000000 in
theorem par_count (d:Nat):∀ (l:List St) (a:Option Addr) (n c:Nat) (w:World),IsList Any w 6 (IsSt Any w d) l (.slice a n c)→stsCount l≤1000000 →
  Calls Tryz.prog 102 #[.slice a n c] w fun r w'=>r=.returned (.int .i64 (stsCount l:Int))∧Below w.heap.size w w':=by
 induction d with
 | zero =>
   intro l a n c w h hc;obtain⟨rfl,hm,hat⟩:=h.stAt;cases l with
   | cons x l=>obtain⟨_,_,_,_,_,_,_,_,_,_,_,_,_,_,_,_,_,hx⟩:=hat 0 (by simp);exact absurd hx (by simp [IsSt])
   | nil =>
     clear h hat;go_enter Tryz.func102,Tryz.ntmps102;go_wp2_with fail
     go_loopw [3,10] (fun v i wr=>CountRel [] w v i wr) (fun _ i _=>0-(intOf i).toNat)
     case atStart=>exact⟨0,Nat.zero_le _,rfl,rfl,.refl _ _⟩
     case round =>
      obtain⟨j,hj,rfl,rfl,hb⟩:=hrel;obtain rfl:j=0:=by simpa using hj
      have HB:=Lib.hid hb;clear hb;go_wp2_with fail;go_ret;exact⟨rfl,HB.out⟩
 | succ d ih =>
   intro l a n c w h hc;obtain⟨rfl,hm,hat⟩:=h.stAt;unfold maxLen at hm;have hce:=stsCount_eq l;have HAT:=Lib.hid hat;have IH:=Lib.hid ih;have HCE:=Lib.hid hce;have hic:l.length+inCount l≤1000000:=by omega
   clear h hat ih hce hc;go_enter Tryz.func102,Tryz.ntmps102;go_wp2_with fail
   go_loopw [3,10] (fun v i wr=>CountRel l w v i wr) (fun _ i _=>l.length-(intOf i).toNat)
   case atStart=>exact⟨0,Nat.zero_le _,rfl,by simp [inCount],.refl _ _⟩
   case round =>
    obtain⟨j,hj,rfl,rfl,hb⟩:=hrel;have hdt:=inCount_take l j
    by_cases hlt:j<l.length
    ·obtain⟨g,off,ik,inm,ity,ia,ib,ic,ja,jb,jc,ka,kb,kc,rfl,hgl,⟨e0,e1,e2,e3,e4,e5⟩,hx⟩:=HAT.out j hlt;have hsz:=hb.size;have hbl:∀ o,wr.cell? ⟨g,o,none⟩=w.cell? ⟨g,o,none⟩:=fun o=>(hb.cell (p:=⟨g,o,none⟩) (by omega)).trans rfl
     rw [← hbl] at e0 e1 e2 e3 e4 e5;have hg1:g<wr.heap.size:=by omega
     have hx':=IsSt.kept (kept_any hb) _ _ _ hx;have hx2:=Lib.hid (IsSt.kept (kept_alloc wr (.cells #[.int .i64 ik,.string inm,.string ity,.slice ia ib ic,.slice ja jb jc,.slice ka kb kc] 109)) _ _ _ hx');have HB:=Lib.hid hb;clear hb hbl hx hx';have hdj:=inCount_get l j hlt;have HS:Hid (inCount (l.take (j+1))=inCount (l.take j)+stCount l[j]):=by
      show _=_;rw [List.take_succ_eq_append_getElem hlt,inCount_snoc]
     have hds:=inCount_take l (j+1);rw [HS.out] at hds;obtain⟨xe,xb,xel,xn,xt,hxe,hn1,hn2,hn3,hxb,hxl⟩:=hx2.out.lists;have hsc:stCount l[j]=stsCount xb+stsCount xel:=by rw [hxe,stCount]
     rw [hsc] at hdj hds;have hu1:stsCount xb≤1000000:=by omega
     have hu2:stsCount xel≤1000000:=by omega
     have H1:Hid (∀ x,Below (wr.alloc (.cells #[.int .i64 ik,.string inm,.string ity,.slice ia ib ic,.slice ja jb jc,.slice ka kb kc] 109)).heap.size (wr.alloc (.cells #[.int .i64 ik,.string inm,.string ity,.slice ia ib ic,.slice ja jb jc,.slice ka kb kc] 109)) x→IsList Any x 6 (IsSt Any x d) xb (.slice ja jb jc)):=fun x hx=>hxb.kept (kept_any hx) (by omega) fun _ _ _=>IsSt.kept (kept_any hx) _ _ _
     have H2:Hid (∀ x,Below (wr.alloc (.cells #[.int .i64 ik,.string inm,.string ity,.slice ia ib ic,.slice ja jb jc,.slice ka kb kc] 109)).heap.size (wr.alloc (.cells #[.int .i64 ik,.string inm,.string ity,.slice ia ib ic,.slice ja jb jc,.slice ka kb kc] 109)) x→IsList Any x 6 (IsSt Any x d) xel (.slice ka kb kc)):=fun x hx=>hxl.kept (kept_any hx) (by omega) fun _ _ _=>IsSt.kept (kept_any hx) _ _ _
     have HSC:=Lib.hid hsc;have w1:IntKind.i64.wrap (((stsCount xb:Nat):Int)+((stsCount xel:Nat):Int))=((stsCount xb:Nat):Int)+((stsCount xel:Nat):Int):=IntWalk.i64_in _ (by omega);have w2:IntKind.i64.wrap ((l.length:Int)+(inCount (l.take j):Int)+(((stsCount xb:Nat):Int)+((stsCount xel:Nat):Int)))=(l.length:Int)+(inCount (l.take j):Int)+(((stsCount xb:Nat):Int)+((stsCount xel:Nat):Int)):=IntWalk.i64_in _ (by omega);clear hxb hxl hxe hsc hx2 hn1 hn2 hn3;go_wp2_with fail
     go_region_with (first
      | (go_at_call 102
         with_reducible refine (IH.out _ _ _ _ _ (H1.out _ (below_drew _)) hu1).mono ?_
         rintro e w5 ⟨rfl,hb5⟩;have HB5:=Lib.hid ((below_drew (wr.alloc (.cells #[.int .i64 ik,.string inm,.string ity,.slice ia ib ic,.slice ja jb jc,.slice ka kb kc] 109))).trans hb5);have hs5:wr.heap.size+1≤w5.heap.size:=by have:=hb5.size;simp at this;omega
         have q5:w5.cell? ⟨wr.heap.size,5,none⟩=some (.slice ka kb kc):=(hb5.cell (p:=⟨wr.heap.size,5,none⟩) (by simp)).trans (by simp [go_sem]);clear hb5)
      | (have tok:=HB5
         clear tok
         go_at_call 102
         with_reducible refine (IH.out _ _ _ _ _ (H2.out _ HB5.out) hu2).mono ?_
         rintro e w6 ⟨rfl,hb6⟩;have HB6:=Lib.hid (HB5.out.trans (hb6.mono HB5.out.size));clear hb6 HB5))
     all_goals
      go_wp2_with fail
      go_roundw
      case rel =>
       refine⟨j+1,by omega,by go_num,?_,HB.out.trans ((((Below.refl _ _).alloc (Nat.le_refl _) _).trans (HB6.out.mono (by simp))).mono HB.out.size)⟩;rw [HS.out,HSC.out];congr 1;omega
      case measure=>simp [intOf];omega
    ·have hjl:j=l.length:=by omega
     have HB:=Lib.hid hb;have HJ:=Lib.hid hjl;clear hb hjl;go_wp2_with fail;go_ret;refine⟨?_,HB.out⟩;rw [HJ.out,List.take_length,← HCE.out];rfl
end
section
open Lx Go.RowKit
/-- Where a loop stands that looks for the first item that fails. -/
def LimRel {α:Type}(f:α→Nat)(l:List α)(w:World)(i:Value)(wr:World):Prop:=∃ n:Nat,∃ hn:n≤l.length,i=.int .i64 (n:Int)∧(∀ k (hk:k<n),f (l[k]'(by omega))=0)∧Below w.heap.size w wr
def stLim (s:St):Nat:=if 32<stDepth s then 15 else 0
/-- The bounds within which the counts do not wrap. -/
def MeB (m:Me):Prop:=stsCount m.body≤1000000∧stsDepth m.body≤1000000
theorem methodLim_eq (m:Me)(h:¬ (6<m.params.length∨200<stsCount m.body)):methodLim m=firstLim stLim m.body:=by
 unfold methodLim;rw [if_neg h]
 by_cases hd:32<stsDepth m.body
 ·rw [if_pos hd];generalize m.body=l at hd;clear h
  induction l with
  | nil=>simp [stsDepth] at hd
  | cons x l ih =>
    simp only [firstLim,stLim]
    by_cases hx:32<stDepth x
    ·simp [hx]
    ·simp only [hx,if_false];simp only [stsDepth] at hd;exact ih (by omega)
 ·rw [if_neg hd]
  symm
  refine firstLim_zero _ _ fun i hi=>?_
  unfold stLim;rw [if_neg];intro h2;exact hd ((deep_iff _).2 ⟨i,hi,h2⟩)
set_option maxHeartbeats 2000000 in
theorem par_methodLimits (d:Nat)(m:Me)(nm:ByteArray)(sb:Bool)(a1:Option Addr)(n1 c1:Nat)(rs:ByteArray)(a2:Option Addr)(n2 c2:Nat)(w:World)(h:IsMe Any w d m [.string nm,.bool sb,.slice a1 n1 c1,.string rs,.slice a2 n2 c2])(hB:MeB m) :
  Calls Tryz.prog 83 #[.agg #[.string nm,.bool sb,.slice a1 n1 c1,.string rs,.slice a2 n2 c2]] w fun r w'=>r=.returned (.int .i64 (methodLim m:Int))∧Below w.heap.size w w':=by
 obtain⟨_,_,_,hl1,hl2⟩:=h.parts;obtain⟨rfl,hm1⟩:=hl1.len;obtain⟨rfl,hm2,hat⟩:=hl2.stAt;unfold maxLen at hm1 hm2;obtain⟨hb1,hb2⟩:=hB;have HAT:=Lib.hid hat;have HL2:=Lib.hid (hl2.kept (kept_alloc w (.cells #[.string nm,.bool sb,.slice a1 m.params.length c1,.string rs,.slice a2 m.body.length c2] 94)) (by omega) fun _ _ _=>IsSt.kept (kept_alloc w (.cells #[.string nm,.bool sb,.slice a1 m.params.length c1,.string rs,.slice a2 m.body.length c2] 94)) _ _ _);clear h hl1 hl2 hat;rename_i hn1 hn2 hn3;clear hn1 hn2 hn3
 by_cases h6:6<m.params.length
 ·have HR:Hid (methodLim m=3):=by show _=_;unfold methodLim;rw [if_pos (.inl h6)]
  go_enter Tryz.func83,Tryz.ntmps83;go_wp2_with fail;go_ret;refine⟨?_,(Below.refl w.heap.size w).alloc (Nat.le_refl _) _⟩;rw [HR.out];rfl
 ·have h6':decide (6<m.params.length)=false:=by simpa using h6
  go_enter Tryz.func83,Tryz.ntmps83;go_wp2_with fail;refine (par_count d m.body _ _ _ _ HL2.out hb1).mono ?_;rintro e w2 ⟨rfl,hb⟩;have HBB:=Lib.hid hb;have hc4:w2.cell? ⟨w.heap.size,4,none⟩=some (.slice a2 m.body.length c2):=(hb.cell (p:=⟨w.heap.size,4,none⟩) (by simp)).trans (by simp [go_sem]);clear hb
  by_cases h200:200<stsCount m.body
  ·have HR:Hid (methodLim m=3):=by show _=_;unfold methodLim;rw [if_pos (.inr h200)]
   go_wp2_with fail;go_ret;refine⟨?_,((Below.refl w.heap.size w).alloc (Nat.le_refl _) _).trans (HBB.out.mono (by simp))⟩;rw [HR.out];rfl
  ·have HR:=Lib.hid (methodLim_eq m (fun h=>h.elim h6 h200));go_wp2_with fail
   go_loopw [18] (fun i wr=>LimRel stLim m.body (w.alloc (.cells #[.string nm,.bool sb,.slice a1 m.params.length c1,.string rs,.slice a2 m.body.length c2] 94)) i wr) (fun i _=>m.body.length-(intOf i).toNat)
   case atStart=>exact⟨0,Nat.zero_le _,rfl,fun k hk=>by omega,HBB.out⟩
   case round =>
    obtain⟨j,hj,rfl,h0,hb⟩:=hrel;have H0:=Lib.hid h0;clear h0
    by_cases hlt:j<m.body.length
    ·obtain⟨g,off,ik,inm,ity,ia,ib,ic,ja,jb,jc,ka,kb,kc,rfl,hgl,⟨e0,e1,e2,e3,e4,e5⟩,hx⟩:=HAT.out j hlt;have hsz:=hb.size;simp only [World.size_alloc] at hsz;have hbl:∀ o,wr.cell? ⟨g,o,none⟩=w.cell? ⟨g,o,none⟩:=fun o=>(hb.cell (p:=⟨g,o,none⟩) (by simp;omega)).trans (((Below.refl w.heap.size w).alloc (Nat.le_refl _) _).cell (p:=⟨g,o,none⟩) hgl)
     rw [← hbl] at e0 e1 e2 e3 e4 e5;have hg1:g<wr.heap.size:=by omega
     have hx':=IsSt.kept (kept_any (((Below.refl w.heap.size w).alloc (Nat.le_refl _) _).trans (hb.mono (by simp)))) _ _ _ hx;have hx2:=Lib.hid (IsSt.kept (kept_alloc wr (.cells #[.int .i64 ik,.string inm,.string ity,.slice ia ib ic,.slice ja jb jc,.slice ka kb kc] 109)) _ _ _ hx');have HB:=Lib.hid hb;clear hb hbl hx hx';have hdj:=stsDepth_get m.body j hlt;go_wp2_with fail;refine (par_stmtDepth d _ _ _ _ _ _ _ _ _ _ _ _ _ _ hx2.out (by omega)).mono ?_;rintro e w3 ⟨rfl,hb3⟩;have HB3:=Lib.hid (HB.out.trans (((Below.refl _ _).alloc (Nat.le_refl _) _).trans (hb3.mono (by simp)) |>.mono HB.out.size));clear hb3 e0 e1 e2 e3 e4 e5 hx2
     by_cases h32:32<stDepth m.body[j]
     ·go_wp2_with fail;go_ret;refine⟨?_,((Below.refl w.heap.size w).alloc (Nat.le_refl _) _).trans (HB3.out.mono (by simp))⟩;have hz:stLim m.body[j]=15:=by unfold stLim;rw [if_pos h32]
      rw [HR.out,firstLim_take _ _ j hlt H0.out,hz];rfl
     ·go_wp2_with fail
      go_roundw
      case rel =>
       refine⟨j+1,by omega,by go_num,fun k hk=>?_,HB3.out⟩
       by_cases hkj:k<j
       ·exact H0.out k hkj
       ·obtain rfl:k=j:=by omega
        unfold stLim;rw [if_neg h32]
      case measure=>simp [intOf];omega
    ·have HB:=Lib.hid hb;clear hb;go_wp2_with fail;go_ret;refine⟨?_,((Below.refl w.heap.size w).alloc (Nat.le_refl _) _).trans (HB.out.mono (by simp))⟩;rw [HR.out,firstLim_zero _ _ fun i hi=>H0.out i (by omega)];rfl
set_option maxHeartbeats 2000000 in
theorem par_classLimits (d:Nat)(m:Cl)(nm sp:ByteArray)(a1:Option Addr)(n1 c1:Nat)(a2:Option Addr)(n2 c2:Nat)(w:World)(h:IsCl Any w d m [.string nm,.string sp,.slice a1 n1 c1,.slice a2 n2 c2])(hB:∀ x∈m.methods,MeB x) :
  Calls Tryz.prog 61 #[.agg #[.string nm,.string sp,.slice a1 n1 c1,.slice a2 n2 c2]] w fun r w'=>r=.returned (.int .i64 (classLim m:Int))∧Below w.heap.size w w':=by
 obtain⟨_,_,hl1,hl2⟩:=h.parts;obtain⟨rfl,hm1⟩:=hl1.len;obtain⟨rfl,hm2,hat⟩:=hl2.meAt;unfold maxLen at hm1 hm2;have HAT:=Lib.hid hat;have HBM:=Lib.hid hB;clear h hl1 hl2 hat hB;rename_i hn1 hn2;clear hn1 hn2
 by_cases h16:16<m.fields.length
 ·have HR:Hid (classLim m=3):=by show _=_;unfold classLim;rw [if_pos (.inl h16)]
  go_enter Tryz.func61,Tryz.ntmps61;go_wp2_with fail;go_ret;refine⟨?_,(Below.refl w.heap.size w).alloc (Nat.le_refl _) _⟩;rw [HR.out];rfl
 have h16':decide (16<m.fields.length)=false:=by simpa using h16
 by_cases h17:16<m.methods.length
 ·have HR:Hid (classLim m=3):=by show _=_;unfold classLim;rw [if_pos (.inr h17)]
  go_enter Tryz.func61,Tryz.ntmps61;go_wp2_with fail;go_ret;refine⟨?_,(Below.refl w.heap.size w).alloc (Nat.le_refl _) _⟩;rw [HR.out];rfl
 ·have HR:Hid (classLim m=firstLim methodLim m.methods):=by show _=_;unfold classLim;rw [if_neg (fun h=>h.elim h16 h17)]
  go_enter Tryz.func61,Tryz.ntmps61;go_wp2_with fail
  go_loopw [19] (fun i wr=>LimRel methodLim m.methods (w.alloc (.cells #[.string nm,.string sp,.slice a1 m.fields.length c1,.slice a2 m.methods.length c2] 58)) i wr) (fun i _=>m.methods.length-(intOf i).toNat)
  case atStart=>exact⟨0,Nat.zero_le _,rfl,fun k hk=>by omega,.refl _ _⟩
  case round =>
   obtain⟨j,hj,rfl,h0,hb⟩:=hrel;have H0:=Lib.hid h0;clear h0
   by_cases hlt:j<m.methods.length
   ·obtain⟨g,off,inm,isb,ia,ib,ic,irs,ja,jb,jc,rfl,hgl,⟨e0,e1,e2,e3,e4⟩,hx⟩:=HAT.out j hlt;have hsz:=hb.size;simp only [World.size_alloc] at hsz;have hbl:∀ o,wr.cell? ⟨g,o,none⟩=w.cell? ⟨g,o,none⟩:=fun o=>(hb.cell (p:=⟨g,o,none⟩) (by simp;omega)).trans (((Below.refl w.heap.size w).alloc (Nat.le_refl _) _).cell (p:=⟨g,o,none⟩) hgl)
    rw [← hbl] at e0 e1 e2 e3 e4;have hg1:g<wr.heap.size:=by omega
    have hx':=IsMe.kept (kept_any (((Below.refl w.heap.size w).alloc (Nat.le_refl _) _).trans (hb.mono (by simp)))) hx;have hx2:=Lib.hid (IsMe.kept (kept_alloc wr (.cells #[.string inm,.bool isb,.slice ia ib ic,.string irs,.slice ja jb jc] 94)) hx');have HB:=Lib.hid hb;clear hb hbl hx hx';go_wp2_with fail;refine (par_methodLimits d _ _ _ _ _ _ _ _ _ _ _ hx2.out (HBM.out _ (List.getElem_mem hlt))).mono ?_;rintro e w3 ⟨rfl,hb3⟩;have HB3:=Lib.hid (HB.out.trans (((Below.refl _ _).alloc (Nat.le_refl _) _).trans (hb3.mono (by simp)) |>.mono HB.out.size));clear hb3 e0 e1 e2 e3 e4 hx2
    by_cases hz:methodLim m.methods[j]=0
    ·have HZ:=Lib.hid hz;have hz1:(((methodLim m.methods[j]:Nat):Int) != 0)=false:=by rw [hz];rfl
     clear hz;go_wp2_with fail
     go_roundw
     case rel =>
      refine⟨j+1,by omega,by go_num,fun k hk=>?_,HB3.out⟩
      by_cases hkj:k<j
      ·exact H0.out k hkj
      ·obtain rfl:k=j:=by omega
       exact HZ.out
     case measure=>simp [intOf];omega
    ·have hz1:(((methodLim m.methods[j]:Nat):Int) != 0)=true:=by rw [bne,beq_eq_false_iff_ne.2 (by omega)];rfl
     have HZ:=Lib.hid hz;clear hz;go_wp2_with fail;go_ret;refine⟨?_,((Below.refl w.heap.size w).alloc (Nat.le_refl _) _).trans (HB3.out.mono (by simp))⟩;rw [HR.out,firstLim_take _ _ j hlt H0.out,if_pos HZ.out];rfl
   ·have HB:=Lib.hid hb;clear hb;go_wp2_with fail;go_ret;refine⟨?_,((Below.refl w.heap.size w).alloc (Nat.le_refl _) _).trans (HB.out.mono (by simp))⟩;rw [HR.out,firstLim_zero _ _ fun i hi=>H0.out i (by omega)];rfl
set_option maxHeartbeats 2000000 in
theorem par_sourceLimits (d:Nat)(l:List Cl)(a:Option Addr)(n c:Nat)(w:World)(h:IsList Any w 4 (IsCl Any w d) l (.slice a n c))(hB:∀ x∈l,∀ y∈x.methods,MeB y) :
  Calls Tryz.prog 32 #[.agg #[.slice a n c]] w fun r w'=>r=.returned (.int .i64 (sourceLim l:Int))∧Below w.heap.size w w':=by
 obtain⟨rfl,hm2,hat⟩:=h.clAt;unfold maxLen at hm2;have HAT:=Lib.hid hat;have HBM:=Lib.hid hB;clear h hat hB
 by_cases h64:64<l.length
 ·have HR:Hid (sourceLim l=3):=by show _=_;unfold sourceLim;rw [if_pos h64]
  go_enter Tryz.func32,Tryz.ntmps32;go_wp2_with fail;go_ret;refine⟨?_,(Below.refl w.heap.size w).alloc (Nat.le_refl _) _⟩;rw [HR.out];rfl
 ·have HR:Hid (sourceLim l=firstLim classLim l):=by show _=_;unfold sourceLim;rw [if_neg h64]
  go_enter Tryz.func32,Tryz.ntmps32;go_wp2_with fail
  go_loopw [13] (fun i wr=>LimRel classLim l (w.alloc (.cells #[.slice a l.length c] 35)) i wr) (fun i _=>l.length-(intOf i).toNat)
  case atStart=>exact⟨0,Nat.zero_le _,rfl,fun k hk=>by omega,.refl _ _⟩
  case round =>
   obtain⟨j,hj,rfl,h0,hb⟩:=hrel;have H0:=Lib.hid h0;clear h0
   by_cases hlt:j<l.length
   ·obtain⟨g,off,inm,isp,ia,ib,ic,ja,jb,jc,rfl,hgl,⟨e0,e1,e2,e3⟩,hx⟩:=HAT.out j hlt;have hsz:=hb.size;simp only [World.size_alloc] at hsz;have hbl:∀ o,wr.cell? ⟨g,o,none⟩=w.cell? ⟨g,o,none⟩:=fun o=>(hb.cell (p:=⟨g,o,none⟩) (by simp;omega)).trans (((Below.refl w.heap.size w).alloc (Nat.le_refl _) _).cell (p:=⟨g,o,none⟩) hgl)
    rw [← hbl] at e0 e1 e2 e3;have hg1:g<wr.heap.size:=by omega
    have hx':=IsCl.kept (kept_any (((Below.refl w.heap.size w).alloc (Nat.le_refl _) _).trans (hb.mono (by simp)))) hx;have hx2:=Lib.hid (IsCl.kept (kept_alloc wr (.cells #[.string inm,.string isp,.slice ia ib ic,.slice ja jb jc] 58)) hx');have HB:=Lib.hid hb;clear hb hbl hx hx';go_wp2_with fail;refine (par_classLimits d _ _ _ _ _ _ _ _ _ _ hx2.out (HBM.out _ (List.getElem_mem hlt))).mono ?_;rintro e w3 ⟨rfl,hb3⟩;have HB3:=Lib.hid (HB.out.trans (((Below.refl _ _).alloc (Nat.le_refl _) _).trans (hb3.mono (by simp)) |>.mono HB.out.size));clear hb3 e0 e1 e2 e3 hx2
    by_cases hz:classLim l[j]=0
    ·have HZ:=Lib.hid hz;have hz1:(((classLim l[j]:Nat):Int) != 0)=false:=by rw [hz];rfl
     clear hz;go_wp2_with fail
     go_roundw
     case rel =>
      refine⟨j+1,by omega,by go_num,fun k hk=>?_,HB3.out⟩
      by_cases hkj:k<j
      ·exact H0.out k hkj
      ·obtain rfl:k=j:=by omega
       exact HZ.out
     case measure=>simp [intOf];omega
    ·have hz1:(((classLim l[j]:Nat):Int) != 0)=true:=by rw [bne,beq_eq_false_iff_ne.2 (by omega)];rfl
     have HZ:=Lib.hid hz;clear hz;go_wp2_with fail;go_ret;refine⟨?_,((Below.refl w.heap.size w).alloc (Nat.le_refl _) _).trans (HB3.out.mono (by simp))⟩;rw [HR.out,firstLim_take _ _ j hlt H0.out,if_pos HZ.out];rfl
   ·have HB:=Lib.hid hb;clear hb;go_wp2_with fail;go_ret;refine⟨?_,((Below.refl w.heap.size w).alloc (Nat.le_refl _) _).trans (HB.out.mono (by simp))⟩;rw [HR.out,firstLim_zero _ _ fun i hi=>H0.out i (by omega)];rfl
end
section
namespace Lx
section
variable {ts:List Tok}
def DepS (S:Nat→PR St):Prop:=∀ i s j,S i=.ok (s,j)→stCount s+1+i≤j∧stDepth s+i≤j
def DepB (B:Nat→PR (List St)):Prop:=∀ i b j,B i=.ok (b,j)→stsCount b+i≤j∧stsDepth b+i≤j
theorem stsCount_snoc (l:List St)(e:St):stsCount (l++[e])=stsCount l+1+stCount e:=by
 rw [stsCount_eq,stsCount_eq,inCount_snoc];simp;omega
theorem headD_dep (x:Ex):exDepth (x.kids.headD (.mk 0 0 [] [] []))≤exDepth x:=by
 obtain⟨k,n,o,m,ks⟩:=x;cases ks with
 | nil=>simp [Ex.kids,exDepth,exsDepth]
 | cons y l=>simp only [Ex.kids,List.headD_cons,exDepth,exsDepth];omega
theorem condP_dep {i j:Nat}{c:List Ex}(h:condP ts i=.ok (c,j)):exsDepth c+i+2≤j:=by
 unfold condP at h;obtain⟨_,k,h1,h⟩:=bindP_inv h;obtain⟨_,k,h2,h⟩:=bindP_inv h;obtain⟨_,k,h3,h⟩:=bindP_inv h;have:=expectP_adv h1;have:=exprT_dep _ _ _ h2;have:=expectP_adv h3;cases h;simp only [exsDepth];omega
theorem simpleP_dep:DepS (simpleP ts):=by
 intro i r j h;unfold simpleP at h;obtain⟨x,k,h1,h⟩:=bindP_inv h;have:=postP_dep exprT_dep _ _ _ h1;have hh:=headD_dep x.1;split at h
 ·obtain⟨_,k,h2,h⟩:=bindP_inv h;obtain⟨_,k,h3,h⟩:=bindP_inv h;have:=exprT_dep _ _ _ h2;have:=expectP_adv h3;cases h;simp only [stCount,stDepth,stsCount,stsDepth,exsDepth];omega
 split at h
 ·obtain⟨_,k,h2,h⟩:=bindP_inv h;obtain⟨_,k,h3,h⟩:=bindP_inv h;have:=exprT_dep _ _ _ h2;have:=expectP_adv h3;cases h;simp only [stCount,stDepth,stsCount,stsDepth,exsDepth];omega
 split at h
 ·obtain⟨_,k,h3,h⟩:=bindP_inv h;have:=expectP_adv h3;cases h;simp only [stCount,stDepth,stsCount,stsDepth,exsDepth];omega
 ·cases h
theorem blockLoop_dep {S:Nat→PR St}(hS:DepS S)(i0:Nat):∀ n acc i r j,blockLoop ts S n acc i=.ok (r,j)→stsCount acc+i0≤i→stsDepth acc+i0≤i→stsCount r+i0≤j∧stsDepth r+i0≤j:=by
 intro n
 induction n with
 | zero=>intro acc i r j h;cases h
 | succ n ih =>
   intro acc i r j h h1 h2;unfold blockLoop at h;split at h
   ·cases h;omega
   ·obtain⟨m,k,h3,h⟩:=bindP_inv h;have:=hS _ _ _ h3;exact ih _ _ _ _ h (by rw [stsCount_snoc];omega) (by rw [stsDepth_snoc];omega)
theorem blockW_dep {S:Nat→PR St}(hS:DepS S):DepB (blockW ts S):=by
 intro i r j h;unfold blockW at h;obtain⟨_,k,h1,h⟩:=bindP_inv h;have:=expectP_adv h1;have:=blockLoop_dep hS (i+1) _ _ _ _ _ h (by simp [stsCount];omega) (by simp [stsDepth];omega);omega
theorem stmtW_dep {B:Nat→PR (List St)}(hB:DepB B):DepS (stmtW ts B):=by
 intro i r j h;unfold stmtW at h;split at h
 ·unfold varP at h;obtain⟨_,k,h1,h⟩:=bindP_inv h;have:=typedP_adv h1;split at h
  ·obtain⟨_,k,h2,h⟩:=bindP_inv h;obtain⟨_,k,h3,h⟩:=bindP_inv h;have:=exprT_dep _ _ _ h2;have:=expectP_adv h3;cases h;simp only [stCount,stDepth,stsCount,stsDepth,exsDepth];omega
  ·obtain⟨_,k,h3,h⟩:=bindP_inv h;have:=expectP_adv h3;cases h;simp only [stCount,stDepth,stsCount,stsDepth,exsDepth];omega
 split at h
 ·unfold ifP at h;obtain⟨_,k,h1,h⟩:=bindP_inv h;obtain⟨_,k,h2,h⟩:=bindP_inv h;have:=condP_dep h1;have:=hB _ _ _ h2;split at h
  ·obtain⟨_,k,h3,h⟩:=bindP_inv h;have:=hB _ _ _ h3;cases h;simp only [stCount,stDepth];omega
  ·cases h;simp only [stCount,stDepth,stsCount,stsDepth];omega
 split at h
 ·unfold whileP at h;obtain⟨_,k,h1,h⟩:=bindP_inv h;obtain⟨_,k,h2,h⟩:=bindP_inv h;have:=condP_dep h1;have:=hB _ _ _ h2;cases h;simp only [stCount,stDepth,stsCount,stsDepth];omega
 split at h
 ·unfold tryP at h;obtain⟨_,k,h1,h⟩:=bindP_inv h;obtain⟨_,k,h2,h⟩:=bindP_inv h;obtain⟨_,k,h3,h⟩:=bindP_inv h;obtain⟨_,k,h4,h⟩:=bindP_inv h;obtain⟨_,k,h5,h⟩:=bindP_inv h;obtain⟨_,k,h6,h⟩:=bindP_inv h;have:=hB _ _ _ h1;have:=expectP_adv h2;have:=expectP_adv h3;have:=typedP_adv h4;have:=expectP_adv h5;have:=hB _ _ _ h6;cases h;simp only [stCount,stDepth,exsDepth];omega
 split at h
 ·unfold throwP at h;obtain⟨_,k,h2,h⟩:=bindP_inv h;obtain⟨_,k,h3,h⟩:=bindP_inv h;have:=exprT_dep _ _ _ h2;have:=expectP_adv h3;cases h;simp only [stCount,stDepth,stsCount,stsDepth,exsDepth];omega
 split at h
 ·unfold returnP at h;split at h
  ·cases h;simp only [stCount,stDepth,stsCount,stsDepth,exsDepth];omega
  ·obtain⟨_,k,h2,h⟩:=bindP_inv h;obtain⟨_,k,h3,h⟩:=bindP_inv h;have:=exprT_dep _ _ _ h2;have:=expectP_adv h3;cases h;simp only [stCount,stDepth,stsCount,stsDepth,exsDepth];omega
 exact simpleP_dep _ _ _ h
theorem blockP_dep:∀ f,DepB (blockP ts f):=by
 intro f
 induction f with
 | zero=>intro i r j h;cases h
 | succ f ih=>exact blockW_dep (stmtW_dep ih)
def MeJ (j:Nat)(m:Me):Prop:=stsCount m.body≤j∧stsDepth m.body≤j
theorem methodP_dep {i j:Nat}{m:Me}(h:methodP ts i=.ok (m,j)):MeJ j m:=by
 unfold methodP at h;obtain⟨_,k,h1,h⟩:=bindP_inv h;obtain⟨_,k,h2,h⟩:=bindP_inv h;obtain⟨_,k,h3,h⟩:=bindP_inv h;obtain⟨_,k,h4,h⟩:=bindP_inv h;obtain⟨_,k,h5,h⟩:=bindP_inv h;obtain⟨_,k,h6,h⟩:=bindP_inv h;have:=blockP_dep _ _ _ _ h6;cases h;exact⟨by simp only;omega,by simp only;omega⟩
theorem MeJ.mono {j j':Nat}{m:Me}(h:MeJ j m)(hj:j≤j'):MeJ j' m:=⟨Nat.le_trans h.1 hj,Nat.le_trans h.2 hj⟩
theorem methodsLoop_dep:∀ n acc i r j,methodsLoop ts n acc i=.ok (r,j)→(∀ m∈acc,MeJ i m)→∀ m∈r,MeJ j m:=by
 intro n
 induction n with
 | zero=>intro acc i r j h;cases h
 | succ n ih =>
   intro acc i r j h ha;unfold methodsLoop at h;split at h
   ·obtain⟨e,k,h1,h⟩:=bindP_inv h;have h2:=methodP_dep h1;have h3:=methodP_adv _ _ _ h1;refine ih _ _ _ _ h fun m hm=>?_
    rcases List.mem_append.1 hm with hm | hm
    ·exact (ha m hm).mono (by omega)
    ·simp at hm;subst hm;exact h2
   ·cases h;exact ha
theorem classP_dep {i j:Nat}{c:Cl}(h:classP ts i=.ok (c,j)):∀ m∈c.methods,MeJ j m:=by
 unfold classP at h;obtain⟨_,k,h1,h⟩:=bindP_inv h;obtain⟨_,k,h2,h⟩:=bindP_inv h;obtain⟨_,k,h3,h⟩:=bindP_inv h;obtain⟨_,k,h4,h⟩:=bindP_inv h;obtain⟨_,k,h5,h⟩:=bindP_inv h;obtain⟨_,k6,h6,h⟩:=bindP_inv h;obtain⟨_,k,h7,h⟩:=bindP_inv h;have h8:=methodsLoop_dep _ _ _ _ _ h6 (fun m hm=>by cases hm);have:=expectP_adv h7;cases h;exact fun m hm=>(h8 m hm).mono (by omega)
theorem classesLoop_dep:∀ n acc i r j,classesLoop ts n acc i=.ok (r,j)→(∀ c∈acc,∀ m∈c.methods,MeJ i m)→∀ c∈r,∀ m∈c.methods,MeJ j m:=by
 intro n
 induction n with
 | zero=>intro acc i r j h;cases h
 | succ n ih =>
   intro acc i r j h ha;unfold classesLoop at h;split at h
   ·obtain⟨e,k,h1,h⟩:=bindP_inv h;have h2:=classP_dep h1;have h3:=classP_adv _ _ _ h1;refine ih _ _ _ _ h fun c hc=>?_
    rcases List.mem_append.1 hc with hc | hc
    ·exact fun m hm=>(ha c hc m hm).mono (by omega)
    ·simp at hc;subst hc;exact h2
   ·cases h;exact ha
theorem programP_dep {j:Nat}{l:List Cl}(h:programP ts 0=.ok (l,j)):∀ c∈l,∀ m∈c.methods,MeJ j m:=classesLoop_dep _ _ _ _ _ h (fun c hc=>by cases hc)
end
end Lx
end
end Go.Proofs.YtmlafcimjhnhhaaGreatDoor
