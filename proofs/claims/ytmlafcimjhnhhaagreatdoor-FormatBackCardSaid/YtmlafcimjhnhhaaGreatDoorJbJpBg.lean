/-
  ref08's SameMethods, walked (printed by gensame.py).
-/
import Derived.Test.YtmlafcimjhnhhaaGreatDoorJbJpBf
import Derived.Test.YtmlafcimjhnhhaaGreatDoorJbJpBe
set_option linter.unusedSectionVars false
set_option linter.unusedSimpArgs false
set_option linter.unnecessarySimpa false
set_option linter.unusedVariables false
namespace Go.Proofs.YtmlafcimjhnhhaaGreatDoor
section
open Lx Go.RowKit
set_option maxHeartbeats 4000000 in
theorem ref_SameMethods (d:Nat)(l1 l2:List Me)(a1:Option Addr)(n1 c1:Nat)(a2:Option Addr)(n2 c2:Nat)(w:World)(h1:IsList Any w 5 (IsMe Any w d) l1 (.slice a1 n1 c1))(h2:IsList Any w 5 (IsMe Any w d) l2 (.slice a2 n2 c2)) :
  Calls Tryz.prog 34 #[.slice a1 n1 c1,.slice a2 n2 c2] w (SameOut w (l1=l2)):=by
 obtain⟨rfl,hm1,hat1⟩:=h1.meAt;obtain⟨rfl,hm2,hat2⟩:=h2.meAt;unfold maxLen at hm1 hm2;have HAT1:=Lib.hid hat1;have HAT2:=Lib.hid hat2;clear h1 h2 hat1 hat2
 by_cases hlen:l1.length=l2.length
 ·have hle:((l1.length:Int) != (l2.length:Int))=false:=by rw [bne_eq_false_iff_eq];omega
  have hle1:l1.length≤l2.length:=by omega
  have hle2:l2.length≤l1.length:=by omega
  clear hlen;go_enter Tryz.func34,Tryz.ntmps34;go_wp2_with fail
  go_loopw [5] (fun i wr=>SameRel l1 l2 w i wr) (fun i _=>l1.length-(intOf i).toNat)
  case atStart=>exact⟨0,Nat.zero_le _,rfl,rfl,.refl _ _⟩
  case round =>
   obtain⟨j,hj,rfl,hpre,hb⟩:=hrel;have HPRE:=Lib.hid hpre;clear hpre
   by_cases hlt:j<l1.length
   ·have hlt2:j<l2.length:=by omega
    obtain⟨g1,o1,s1,sb1,e1,r1,q1,t1,a2,n2,c2,rfl,hg1,⟨x0,x1,x2,x3,x4⟩,hx⟩:=HAT1.out j hlt;obtain⟨g2,o2,s2,sb2,e2,r2,q2,t2,a2',n2',c2',rfl,hg2,⟨y0,y1,y2,y3,y4⟩,hy⟩:=HAT2.out j hlt2;rw [← hb.cell (p:=⟨g1,_,none⟩) hg1] at x0 x1 x2 x3 x4;rw [← hb.cell (p:=⟨g2,_,none⟩) hg2] at y0 y1 y2 y3 y4;have hs:=hb.size;have hw1:g1<wr.heap.size:=by omega
    have hw2:g2<wr.heap.size:=by omega
    obtain⟨nn1,tt1,ps1,bd1,he1,rfl,rfl,hl1,hb1⟩:=(IsMe.kept (kept_any hb) hx).flds;obtain⟨nn2,tt2,ps2,bd2,he2,rfl,rfl,hl2,hb2'⟩:=(IsMe.kept (kept_any hb) hy).flds;have H1:Hid (∀ x,Below wr.heap.size wr x→IsList Any x 2 IsFld ps1 (.slice e1 r1 q1)):=fun x hx=>hl1.kept (kept_any hx) (by omega) fun _ _ _ h=>h
    have H2:Hid (∀ x,Below wr.heap.size wr x→IsList Any x 2 IsFld ps2 (.slice e2 r2 q2)):=fun x hx=>hl2.kept (kept_any hx) (by omega) fun _ _ _ h=>h
    have H3:Hid (∀ x,Below wr.heap.size wr x→IsList Any x 6 (IsSt Any x d) bd1 (.slice a2 n2 c2)):=fun x hx=>hb1.kept (kept_any hx) (by omega) fun _ _ _=>IsSt.kept (kept_any hx) _ _ _
    have H4:Hid (∀ x,Below wr.heap.size wr x→IsList Any x 6 (IsSt Any x d) bd2 (.slice a2' n2' c2')):=fun x hx=>hb2'.kept (kept_any hx) (by omega) fun _ _ _=>IsSt.kept (kept_any hx) _ _ _
    have HE1:=Lib.hid he1;have HE2:=Lib.hid he2;have HB:=Lib.hid hb;clear hb hx hy hl1 hl2 hb1 hb2' he1 he2;have hj1:(j:Int)<(l1.length:Int):=by omega
    have hj2:(j:Int)<(l2.length:Int):=by omega
    have hj0:(0:Int)≤(j:Int):=by omega
    by_cases hq:nn1=nn2
    rotate_left
    ·have HNE:Hid (l1[j]≠l2[j]):=by show _≠_;rw [HE1.out,HE2.out];intro e;injection e;exact hq ‹_›
     obtain⟨q,q'⟩:=str_ne hq;clear hq;go_wp2_with fail
     go_region
     all_goals
      go_wp2_with fail;go_ret;exact⟨HB.out.trans ((((((Below.refl _ _).alloc (Nat.le_refl _) _).alloc (by simp) _).drew)).mono HB.out.size),false,rfl,by simp;exact differ hlt hlt2 (HNE.out)⟩
    subst hq
    by_cases hq:sb1=sb2
    rotate_left
    ·have HNE:Hid (l1[j]≠l2[j]):=by show _≠_;rw [HE1.out,HE2.out];intro e;injection e;exact hq ‹_›
     have q:(sb1 != sb2)=true:=by rw [bne_iff_ne];exact hq
     have q2:(sb1 == sb2)=false:=by rw [beq_eq_false_iff_ne];exact hq
     have q3:(sb1 ^^ sb2)=true:=by revert hq;cases sb1 <;> cases sb2 <;> simp
     clear hq;go_wp2_with fail
     go_region
     all_goals
      go_wp2_with fail;go_ret;exact⟨HB.out.trans ((((((Below.refl _ _).alloc (Nat.le_refl _) _).alloc (by simp) _).drew)).mono HB.out.size),false,rfl,by simp;exact differ hlt hlt2 (HNE.out)⟩
    subst hq
    by_cases hq:tt1=tt2
    rotate_left
    ·have HNE:Hid (l1[j]≠l2[j]):=by show _≠_;rw [HE1.out,HE2.out];intro e;injection e;exact hq ‹_›
     obtain⟨q,q'⟩:=str_ne hq;clear hq;go_wp2_with fail
     go_region
     all_goals
      go_wp2_with fail;go_ret;exact⟨HB.out.trans ((((((Below.refl _ _).alloc (Nat.le_refl _) _).alloc (by simp) _).drew)).mono HB.out.size),false,rfl,by simp;exact differ hlt hlt2 (HNE.out)⟩
    subst hq;go_wp2_with fail
    go_region
    ·go_wp2_with fail;refine (ref_SameFields _ _ _ _ _ _ _ _ _ (H1.out _ (((((Below.refl _ _).alloc (Nat.le_refl _) _).alloc (by simp) _).drew))) (H2.out _ (((((Below.refl _ _).alloc (Nat.le_refl _) _).alloc (by simp) _).drew)))).mono ?_;rintro e w2 ⟨hb2,b,rfl,hbi⟩;have hs2:wr.heap.size+1+1≤w2.heap.size:=by have:=hb2.size;simp at this;omega
     have HW2:=Lib.hid ((((((Below.refl _ _).alloc (Nat.le_refl _) _).alloc (by simp) _).drew)).trans (hb2.mono (by simp;omega)));have HBI:=Lib.hid hbi;have uw24:w2.cell? ⟨wr.heap.size,4,none⟩=some (.slice a2 n2 c2):=(hb2.cell (p:=⟨wr.heap.size,4,none⟩) (by simp <;> omega)).trans (by simp [go_sem]);have vw24:w2.cell? ⟨wr.heap.size+1,4,none⟩=some (.slice a2' n2' c2'):=(hb2.cell (p:=⟨wr.heap.size+1,4,none⟩) (by simp <;> omega)).trans (by simp [go_sem]);clear hb2 hbi;cases b
     ·go_wp2_with fail;go_ret;refine⟨HB.out.trans (HW2.out.mono HB.out.size),false,rfl,?_⟩;simp;refine differ hlt hlt2 ?_;rw [HE1.out,HE2.out];intro e;injection e;exact absurd (HBI.out.2 ‹_›) (by decide)
     go_wp2_with fail;refine (ref_SameStmts d _ _ _ _ _ _ _ _ _ (H3.out _ HW2.out) (H4.out _ HW2.out)).mono ?_;rintro e w3 ⟨hb3,b,rfl,hbj⟩;have HW3:=Lib.hid (HW2.out.trans (hb3.mono (by omega)));have HBJ:=Lib.hid hbj;clear hb3 hbj uw24 vw24;cases b
     ·go_wp2_with fail;go_ret;refine⟨HB.out.trans (HW3.out.mono HB.out.size),false,rfl,?_⟩;simp;refine differ hlt hlt2 ?_;rw [HE1.out,HE2.out];intro e;injection e;exact absurd (HBJ.out.2 ‹_›) (by decide)
     go_wp2_with fail
     go_roundw
     case rel =>
      refine⟨j+1,by omega,by go_num,?_,HB.out.trans (HW3.out.mono HB.out.size)⟩;rw [List.take_succ_eq_append_getElem hlt,List.take_succ_eq_append_getElem hlt2,HPRE.out,HE1.out,HE2.out,HBI.out.1 (by simp),HBJ.out.1 (by simp)]
     case measure=>simp [intOf];omega
    ·go_wp2_with fail;refine (ref_SameFields _ _ _ _ _ _ _ _ _ (H1.out _ (((((Below.refl _ _).alloc (Nat.le_refl _) _).alloc (by simp) _).drew))) (H2.out _ (((((Below.refl _ _).alloc (Nat.le_refl _) _).alloc (by simp) _).drew)))).mono ?_;rintro e w2 ⟨hb2,b,rfl,hbi⟩;have hs2:wr.heap.size+1+1≤w2.heap.size:=by have:=hb2.size;simp at this;omega
     have HW2:=Lib.hid ((((((Below.refl _ _).alloc (Nat.le_refl _) _).alloc (by simp) _).drew)).trans (hb2.mono (by simp;omega)));have HBI:=Lib.hid hbi;have uw24:w2.cell? ⟨wr.heap.size,4,none⟩=some (.slice a2' n2' c2'):=(hb2.cell (p:=⟨wr.heap.size,4,none⟩) (by simp <;> omega)).trans (by simp [go_sem]);have vw24:w2.cell? ⟨wr.heap.size+1,4,none⟩=some (.slice a2 n2 c2):=(hb2.cell (p:=⟨wr.heap.size+1,4,none⟩) (by simp <;> omega)).trans (by simp [go_sem]);clear hb2 hbi;cases b
     ·go_wp2_with fail;go_ret;refine⟨HB.out.trans (HW2.out.mono HB.out.size),false,rfl,?_⟩;simp;refine differ hlt hlt2 ?_;rw [HE1.out,HE2.out];intro e;injection e;exact absurd (HBI.out.2 ‹_›) (by decide)
     go_wp2_with fail;refine (ref_SameStmts d _ _ _ _ _ _ _ _ _ (H3.out _ HW2.out) (H4.out _ HW2.out)).mono ?_;rintro e w3 ⟨hb3,b,rfl,hbj⟩;have HW3:=Lib.hid (HW2.out.trans (hb3.mono (by omega)));have HBJ:=Lib.hid hbj;clear hb3 hbj uw24 vw24;cases b
     ·go_wp2_with fail;go_ret;refine⟨HB.out.trans (HW3.out.mono HB.out.size),false,rfl,?_⟩;simp;refine differ hlt hlt2 ?_;rw [HE1.out,HE2.out];intro e;injection e;exact absurd (HBJ.out.2 ‹_›) (by decide)
     go_wp2_with fail
     go_roundw
     case rel =>
      refine⟨j+1,by omega,by go_num,?_,HB.out.trans (HW3.out.mono HB.out.size)⟩;rw [List.take_succ_eq_append_getElem hlt,List.take_succ_eq_append_getElem hlt2,HPRE.out,HE1.out,HE2.out,HBI.out.1 (by simp),HBJ.out.1 (by simp)]
     case measure=>simp [intOf];omega
   ·have HB:=Lib.hid hb;clear hb;go_wp2_with fail;go_ret;refine⟨HB.out,true,rfl,?_⟩;simp only [true_iff];have hp:=HPRE.out;rw [List.take_of_length_le (by omega),List.take_of_length_le (by omega)] at hp;exact hp
 ·have hle:((l1.length:Int) != (l2.length:Int))=true:=by rw [bne_iff_ne];omega
  have HL:=Lib.hid hlen;clear hlen;go_enter Tryz.func34,Tryz.ntmps34;go_wp2_with fail;go_ret;exact⟨.refl _ _,false,rfl,by simp;intro h;exact HL.out (by rw [h])⟩
end
section
open Lx Go.RowKit
def SameRelB {α:Type}(l1 l2:List α)(v1 v2:Value)(w:World)(i:Value)(wr:World):Prop:=∃ n:Nat,n≤l1.length∧i=.int .i64 (n:Int)∧l1.take n=l2.take n∧Below w.heap.size w wr∧w.heap.size+2≤wr.heap.size∧wr.cell? ⟨w.heap.size,0,none⟩=some v1∧wr.cell? ⟨w.heap.size+1,0,none⟩=some v2
set_option maxHeartbeats 4000000 in
theorem ref_Same (d:Nat)(l1 l2:List Cl)(a1:Option Addr)(n1 c1:Nat)(a2:Option Addr)(n2 c2:Nat)(w:World)(h1:IsList Any w 4 (IsCl Any w d) l1 (.slice a1 n1 c1))(h2:IsList Any w 4 (IsCl Any w d) l2 (.slice a2 n2 c2)) :
  Calls Tryz.prog 13 #[.agg #[.slice a1 n1 c1],.agg #[.slice a2 n2 c2]] w (SameOut w (l1=l2)):=by
 obtain⟨rfl,hm1,hat1⟩:=h1.clAt;obtain⟨rfl,hm2,hat2⟩:=h2.clAt;unfold maxLen at hm1 hm2;have HAT1:=Lib.hid hat1;have HAT2:=Lib.hid hat2;clear h1 h2 hat1 hat2
 by_cases hlen:l1.length=l2.length
 ·have hle:((l1.length:Int) != (l2.length:Int))=false:=by rw [bne_eq_false_iff_eq];omega
  have hle1:l1.length≤l2.length:=by omega
  have hle2:l2.length≤l1.length:=by omega
  clear hlen;go_enter Tryz.func13,Tryz.ntmps13;go_wp2_with fail
  go_loopw [5] (fun i wr=>SameRelB l1 l2 (.slice a1 l1.length c1) (.slice a2 l2.length c2) w i wr) (fun i _=>l1.length-(intOf i).toNat)
  case atStart=>exact⟨0,Nat.zero_le _,rfl,rfl,((Below.refl _ _).alloc (Nat.le_refl _) _).alloc (by simp) _,by simp,by simp [go_sem],by simp [go_sem]⟩
  case round =>
   obtain⟨j,hj,rfl,hpre,hb,hsz,bx1,bx2⟩:=hrel;have HPRE:=Lib.hid hpre;clear hpre
   by_cases hlt:j<l1.length
   ·have hlt2:j<l2.length:=by omega
    obtain⟨g1,o1,s1,t1,e1,r1,q1,a2,n2,c2',rfl,hg1,⟨x0,x1,x2,x3⟩,hx⟩:=HAT1.out j hlt;obtain⟨g2,o2,s2,t2,e2,r2,q2,a2',n2',c2'',rfl,hg2,⟨y0,y1,y2,y3⟩,hy⟩:=HAT2.out j hlt2;rw [← hb.cell (p:=⟨g1,_,none⟩) hg1] at x0 x1 x2 x3;rw [← hb.cell (p:=⟨g2,_,none⟩) hg2] at y0 y1 y2 y3;have hs:=hb.size;have hw1:g1<wr.heap.size:=by omega
    have hw2:g2<wr.heap.size:=by omega
    obtain⟨nn1,tt1,ps1,bd1,he1,rfl,rfl,hl1,hb1⟩:=(IsCl.kept (kept_any hb) hx).flds;obtain⟨nn2,tt2,ps2,bd2,he2,rfl,rfl,hl2,hb2'⟩:=(IsCl.kept (kept_any hb) hy).flds;have H1:Hid (∀ x,Below wr.heap.size wr x→IsList Any x 2 IsFld ps1 (.slice e1 r1 q1)):=fun x hx=>hl1.kept (kept_any hx) (by omega) fun _ _ _ h=>h
    have H2:Hid (∀ x,Below wr.heap.size wr x→IsList Any x 2 IsFld ps2 (.slice e2 r2 q2)):=fun x hx=>hl2.kept (kept_any hx) (by omega) fun _ _ _ h=>h
    have H3:Hid (∀ x,Below wr.heap.size wr x→IsList Any x 5 (IsMe Any x d) bd1 (.slice a2 n2 c2')):=fun x hx=>hb1.kept (kept_any hx) (by omega) fun _ _ _=>IsMe.kept (kept_any hx)
    have H4:Hid (∀ x,Below wr.heap.size wr x→IsList Any x 5 (IsMe Any x d) bd2 (.slice a2' n2' c2'')):=fun x hx=>hb2'.kept (kept_any hx) (by omega) fun _ _ _=>IsMe.kept (kept_any hx)
    have HE1:=Lib.hid he1;have HE2:=Lib.hid he2;have HB:=Lib.hid hb;have BX1:=Lib.hid bx1;have BX2:=Lib.hid bx2;clear hb hx hy hl1 hl2 hb1 hb2' he1 he2;have hj1:(j:Int)<(l1.length:Int):=by omega
    have hj2:(j:Int)<(l2.length:Int):=by omega
    have hj0:(0:Int)≤(j:Int):=by omega
    have hz1:w.heap.size<wr.heap.size:=by omega
    have hz2:w.heap.size+1<wr.heap.size:=by omega
    by_cases hq:nn1=nn2
    rotate_left
    ·have HNE:Hid (l1[j]≠l2[j]):=by show _≠_;rw [HE1.out,HE2.out];intro e;injection e;exact hq ‹_›
     obtain⟨q,q'⟩:=str_ne hq;clear hq;go_wp2_with fail
     go_region
     all_goals
      go_wp2_with fail;go_ret;exact⟨HB.out.trans ((((((Below.refl _ _).alloc (Nat.le_refl _) _).alloc (by simp) _).drew)).mono hs),false,rfl,by simp;exact differ hlt hlt2 (HNE.out)⟩
    subst hq
    by_cases hq:tt1=tt2
    rotate_left
    ·have HNE:Hid (l1[j]≠l2[j]):=by show _≠_;rw [HE1.out,HE2.out];intro e;injection e;exact hq ‹_›
     obtain⟨q,q'⟩:=str_ne hq;clear hq;go_wp2_with fail
     go_region
     all_goals
      go_wp2_with fail;go_ret;exact⟨HB.out.trans ((((((Below.refl _ _).alloc (Nat.le_refl _) _).alloc (by simp) _).drew)).mono hs),false,rfl,by simp;exact differ hlt hlt2 (HNE.out)⟩
    subst hq;go_wp2_with fail
    go_region
    ·go_wp2_with fail;refine (ref_SameFields _ _ _ _ _ _ _ _ _ (H1.out _ (((((Below.refl _ _).alloc (Nat.le_refl _) _).alloc (by simp) _).drew))) (H2.out _ (((((Below.refl _ _).alloc (Nat.le_refl _) _).alloc (by simp) _).drew)))).mono ?_;rintro e w2 ⟨hb2,b,rfl,hbi⟩;have hs2:wr.heap.size+1+1≤w2.heap.size:=by have:=hb2.size;simp at this;omega
     have HW2:=Lib.hid ((((((Below.refl _ _).alloc (Nat.le_refl _) _).alloc (by simp) _).drew)).trans (hb2.mono (by simp;omega)));have HBI:=Lib.hid hbi;have uw23:w2.cell? ⟨wr.heap.size,3,none⟩=some (.slice a2 n2 c2'):=(hb2.cell (p:=⟨wr.heap.size,3,none⟩) (by simp <;> omega)).trans (by simp [go_sem]);have vw23:w2.cell? ⟨wr.heap.size+1,3,none⟩=some (.slice a2' n2' c2''):=(hb2.cell (p:=⟨wr.heap.size+1,3,none⟩) (by simp <;> omega)).trans (by simp [go_sem]);clear hb2 hbi;cases b
     ·go_wp2_with fail;go_ret;refine⟨HB.out.trans (HW2.out.mono hs),false,rfl,?_⟩;simp;refine differ hlt hlt2 ?_;rw [HE1.out,HE2.out];intro e;injection e;exact absurd (HBI.out.2 ‹_›) (by decide)
     go_wp2_with fail;refine (ref_SameMethods d _ _ _ _ _ _ _ _ _ (H3.out _ HW2.out) (H4.out _ HW2.out)).mono ?_;rintro e w3 ⟨hb3,b,rfl,hbj⟩;have HW3:=Lib.hid (HW2.out.trans (hb3.mono (by omega)));have HBJ:=Lib.hid hbj;have bz1:w3.cell? ⟨w.heap.size,0,none⟩=some (.slice (some ⟨g1,o1,none⟩) l1.length c1):=(HW3.out.cell (p:=⟨w.heap.size,0,none⟩) (by show w.heap.size<_;omega)).trans BX1.out;have bz2:w3.cell? ⟨w.heap.size+1,0,none⟩=some (.slice (some ⟨g2,o2,none⟩) l2.length c2):=(HW3.out.cell (p:=⟨w.heap.size+1,0,none⟩) (by show w.heap.size+1<_;omega)).trans BX2.out;have hs3:=HW3.out.size;clear hb3 hbj uw23 vw23;cases b
     ·go_wp2_with fail;go_ret;refine⟨HB.out.trans (HW3.out.mono hs),false,rfl,?_⟩;simp;refine differ hlt hlt2 ?_;rw [HE1.out,HE2.out];intro e;injection e;exact absurd (HBJ.out.2 ‹_›) (by decide)
     have BZ1:=Lib.hid bz1;have BZ2:=Lib.hid bz2;clear bz1 bz2;go_wp2_with fail
     go_roundw
     case rel =>
      refine⟨j+1,by omega,by go_num,?_,HB.out.trans (HW3.out.mono hs),by omega,BZ1.out,BZ2.out⟩;rw [List.take_succ_eq_append_getElem hlt,List.take_succ_eq_append_getElem hlt2,HPRE.out,HE1.out,HE2.out,HBI.out.1 (by simp),HBJ.out.1 (by simp)]
     case measure=>simp [intOf];omega
    ·go_wp2_with fail;refine (ref_SameFields _ _ _ _ _ _ _ _ _ (H1.out _ (((((Below.refl _ _).alloc (Nat.le_refl _) _).alloc (by simp) _).drew))) (H2.out _ (((((Below.refl _ _).alloc (Nat.le_refl _) _).alloc (by simp) _).drew)))).mono ?_;rintro e w2 ⟨hb2,b,rfl,hbi⟩;have hs2:wr.heap.size+1+1≤w2.heap.size:=by have:=hb2.size;simp at this;omega
     have HW2:=Lib.hid ((((((Below.refl _ _).alloc (Nat.le_refl _) _).alloc (by simp) _).drew)).trans (hb2.mono (by simp;omega)));have HBI:=Lib.hid hbi;have uw23:w2.cell? ⟨wr.heap.size,3,none⟩=some (.slice a2' n2' c2''):=(hb2.cell (p:=⟨wr.heap.size,3,none⟩) (by simp <;> omega)).trans (by simp [go_sem]);have vw23:w2.cell? ⟨wr.heap.size+1,3,none⟩=some (.slice a2 n2 c2'):=(hb2.cell (p:=⟨wr.heap.size+1,3,none⟩) (by simp <;> omega)).trans (by simp [go_sem]);clear hb2 hbi;cases b
     ·go_wp2_with fail;go_ret;refine⟨HB.out.trans (HW2.out.mono hs),false,rfl,?_⟩;simp;refine differ hlt hlt2 ?_;rw [HE1.out,HE2.out];intro e;injection e;exact absurd (HBI.out.2 ‹_›) (by decide)
     go_wp2_with fail;refine (ref_SameMethods d _ _ _ _ _ _ _ _ _ (H3.out _ HW2.out) (H4.out _ HW2.out)).mono ?_;rintro e w3 ⟨hb3,b,rfl,hbj⟩;have HW3:=Lib.hid (HW2.out.trans (hb3.mono (by omega)));have HBJ:=Lib.hid hbj;have bz1:w3.cell? ⟨w.heap.size,0,none⟩=some (.slice (some ⟨g1,o1,none⟩) l1.length c1):=(HW3.out.cell (p:=⟨w.heap.size,0,none⟩) (by show w.heap.size<_;omega)).trans BX1.out;have bz2:w3.cell? ⟨w.heap.size+1,0,none⟩=some (.slice (some ⟨g2,o2,none⟩) l2.length c2):=(HW3.out.cell (p:=⟨w.heap.size+1,0,none⟩) (by show w.heap.size+1<_;omega)).trans BX2.out;have hs3:=HW3.out.size;clear hb3 hbj uw23 vw23;cases b
     ·go_wp2_with fail;go_ret;refine⟨HB.out.trans (HW3.out.mono hs),false,rfl,?_⟩;simp;refine differ hlt hlt2 ?_;rw [HE1.out,HE2.out];intro e;injection e;exact absurd (HBJ.out.2 ‹_›) (by decide)
     have BZ1:=Lib.hid bz1;have BZ2:=Lib.hid bz2;clear bz1 bz2;go_wp2_with fail
     go_roundw
     case rel =>
      refine⟨j+1,by omega,by go_num,?_,HB.out.trans (HW3.out.mono hs),by omega,BZ1.out,BZ2.out⟩;rw [List.take_succ_eq_append_getElem hlt,List.take_succ_eq_append_getElem hlt2,HPRE.out,HE1.out,HE2.out,HBI.out.1 (by simp),HBJ.out.1 (by simp)]
     case measure=>simp [intOf];omega
   ·have HB:=Lib.hid hb;clear hb;go_wp2_with fail;go_ret;refine⟨HB.out,true,rfl,?_⟩;simp only [true_iff];have hp:=HPRE.out;rw [List.take_of_length_le (by omega),List.take_of_length_le (by omega)] at hp;exact hp
 ·have hle:((l1.length:Int) != (l2.length:Int))=true:=by rw [bne_iff_ne];omega
  have HL:=Lib.hid hlen;clear hlen;go_enter Tryz.func13,Tryz.ntmps13;go_wp2_with fail;go_ret;exact⟨((Below.refl _ _).alloc (Nat.le_refl _) _).alloc (by simp) _,false,rfl,by simp;intro h;exact HL.out (by rw [h])⟩
end
set_option linter.unusedSimpArgs false
set_option linter.unusedVariables false
section
open Lx
namespace Lx
/-- A token without its place: an identifier, a keyword, a number, a mark. -/
inductive TT where
 | wd (x:Bytes)
 | kw (x:Bytes)
 | nu (x:Bytes) (n:Nat)
 | mk (x:Bytes)
def TT.kind:TT→Nat
 | .wd _=>1
 | .kw _=>2
 | .nu _ _=>3
 | .mk _=>4
def TT.text:TT→Bytes
 | .wd x=>x
 | .kw x=>x
 | .nu x _=>x
 | .mk x=>x
def TT.n:TT→Nat
 | .nu _ n=>n
 | _=>0
/-- From index i on these tokens stand. -/
def AtT (ts:List Tok):Nat→List TT→Prop
 | _,[]=>True
 | i,.wd x::us=>(i<ts.length∧(tk ts i).kind=1∧(tk ts i).text=x∧(tk ts i).n=0)∧AtT ts (i+1) us
 | i,.kw x::us=>(i<ts.length∧(tk ts i).kind=2∧(tk ts i).text=x∧(tk ts i).n=0)∧AtT ts (i+1) us
 | i,.nu x n::us=>(i<ts.length∧(tk ts i).kind=3∧(tk ts i).text=x∧(tk ts i).n=n)∧AtT ts (i+1) us
 | i,.mk x::us=>(i<ts.length∧(tk ts i).kind=4∧(tk ts i).text=x∧(tk ts i).n=0)∧AtT ts (i+1) us
theorem AtT.cons {ts:List Tok}{i:Nat}{u:TT}{us:List TT}:AtT ts i (u::us)↔(i<ts.length∧(tk ts i).kind=u.kind∧(tk ts i).text=u.text∧(tk ts i).n=u.n)∧AtT ts (i+1) us:=by cases u <;> exact Iff.rfl
theorem AtT.append {ts:List Tok}:∀ {us vs:List TT} {i:Nat},AtT ts i (us++vs)→AtT ts i us∧AtT ts (i+us.length) vs
 | [],_,_,h=>⟨trivial,h⟩
 | _::us,vs,i,h=>by
   obtain⟨h0,h⟩:=AtT.cons.1 h;obtain⟨h1,h2⟩:=AtT.append h;exact⟨AtT.cons.2 ⟨h0,h1⟩,by rw [List.length_cons,show i+(us.length+1)=i+1+us.length by omega];exact h2⟩
theorem AtT.le {ts:List Tok}:∀ {us:List TT} {i:Nat},AtT ts i us→us≠[]→i+us.length≤ts.length
 | [],_,_,h=>absurd rfl h
 | [u],i,h,_=>by have:=(AtT.cons.1 h).1.1;simp;omega
 | u::v::us,i,h,_=>by have:=AtT.le (AtT.cons.1 h).2 (by simp);simp only [List.length_cons] at this ⊢;omega
theorem AtT.len {ts:List Tok}{us:List TT}{i:Nat}(h:AtT ts i us):us.length≤ts.length:=by
 cases us with
 | nil=>simp
 | cons u us=>have:=h.le (by simp);omega
/-- The next token has none of these texts. -/
def Nxt (ts:List Tok)(i:Nat)(L:List Bytes):Prop:=∀ x∈L,isT ts i x=false
section
variable {ts:List Tok} {i:Nat}
theorem isT_of {x:Bytes}(h:(tk ts i).text=x)(y:Bytes):isT ts i y=(x == y):=by unfold isT;rw [h]
theorem Nxt.of {x:Bytes}{L:List Bytes}(h:(tk ts i).text=x)(hd:L.all (fun y=>!(x == y))=true):Nxt ts i L:=fun y hy=>by
 have:=List.all_eq_true.1 hd y hy;rw [isT_of h];simpa using this
theorem Nxt.sub {L M:List Bytes}(h:Nxt ts i L)(hs:M.all (fun x=>L.contains x)=true):Nxt ts i M:=fun x hx=>h x (by have:=List.all_eq_true.1 hs x hx;simpa using this)
theorem Nxt.word {L:List Bytes}(hT:TWR ts)(h:(tk ts i).kind=1∨(tk ts i).kind=3)(hL:L.all (fun x=>kmList.contains x)=true):Nxt ts i L:=fun x hx=>by
 cases hc:isT ts i x with
 | false=>rfl
 | true =>
   have:=hT.km i x (by have:=List.all_eq_true.1 hL x hx;simpa using this) hc;omega
theorem Nxt.get {L:List Bytes}(h:Nxt ts i L)(x:Bytes)(hx:L.contains x=true):isT ts i x=false:=h x (by simpa using hx)
theorem expectP_at {x:Bytes}(h:(tk ts i).text=x):expectP ts x i=.ok ((),i+1):=by unfold expectP;rw [isT_of h];simp
theorem nameP_at {x:Bytes}(hk:(tk ts i).kind=1)(h:(tk ts i).text=x):nameP ts i=.ok (x,i+1):=by unfold nameP;rw [if_pos hk,h]
end
mutual
/-- What a post is written as; its shape. -/
inductive GrP:Ex→List TT→Nat→Prop
 | int (x:Bytes) (n:Nat):GrP (.mk 1 (n:Int) [] [] []) [TT.nu x n] 0
 | neg (x:Bytes) (n:Nat) (h:n≠0):GrP (.mk 1 (-(n:Int)) [] [] []) [TT.mk [45],TT.nu x n] 0
 | null:GrP (.mk 2 0 [] [] []) [TT.kw [110,117,108,108]] 0
 | var (x:Bytes):GrP (.mk 3 0 [] x []) [TT.wd x] 1
 | this:GrP (.mk 4 0 [] [] []) [TT.kw [116,104,105,115]] 0
 | input:GrP (.mk 5 0 [] [] []) [TT.kw [105,110,112,117,116],TT.mk [40],TT.mk [41]] 0
 | new (x:Bytes):GrP (.mk 7 0 [] x []) [TT.kw [110,101,119],TT.wd x,TT.mk [40],TT.mk [41]] 0
 | paren {e:Ex} {us:List TT} (h:GrE e us):GrP e (TT.mk [40]::(us++[TT.mk [41]])) 0
 | static (o m:Bytes) {es:List Ex} {us:List TT} (h:GrA es us):GrP (.mk 10 0 o m es) (TT.wd o::TT.mk [58,58]::TT.wd m::us) 3
 | field {k:Ex} {us:List TT} {s:Nat} (h:GrP k us s) (m:Bytes):GrP (.mk 8 0 [] m [k]) (us++[TT.mk [46],TT.wd m]) 2
 | call {k:Ex} {us vs:List TT} {s:Nat} {es:List Ex} (h:GrP k us s) (m:Bytes) (ha:GrA es vs):GrP (.mk 9 0 [] m (k::es)) (us++(TT.mk [46]::TT.wd m::vs)) 3
inductive GrX:Ex→List TT→Prop
 | post {e:Ex} {us:List TT} {s:Nat} (h:GrP e us s):GrX e us
 | mul {a b:Ex} {us vs:List TT} {s:Nat} (h:GrX a us) (h2:GrP b vs s):GrX (binE 3 a b) (us++(TT.mk [42]::vs))
inductive GrS:Ex→List TT→Prop
 | prod {e:Ex} {us:List TT} (h:GrX e us):GrS e us
 | add {a b:Ex} {us vs:List TT} (h:GrS a us) (h2:GrX b vs):GrS (binE 1 a b) (us++(TT.mk [43]::vs))
 | sub {a b:Ex} {us vs:List TT} (h:GrS a us) (h2:GrX b vs):GrS (binE 2 a b) (us++(TT.mk [45]::vs))
inductive GrE:Ex→List TT→Prop
 | sum {e:Ex} {us:List TT} (h:GrS e us):GrE e us
 | less {a b:Ex} {us vs:List TT} (h:GrS a us) (h2:GrS b vs):GrE (binE 4 a b) (us++(TT.mk [60]::vs))
 | equal {a b:Ex} {us vs:List TT} (h:GrS a us) (h2:GrS b vs):GrE (binE 5 a b) (us++(TT.mk [61,61]::vs))
/-- Expressions with commas between them; at least one. -/
inductive GrL:List Ex→List TT→Prop
 | one {e:Ex} {us:List TT} (h:GrE e us):GrL [e] us
 | cons {e:Ex} {us vs:List TT} {es:List Ex} (h:GrE e us) (h2:GrL es vs):GrL (e::es) (us++(TT.mk [44]::vs))
inductive GrA:List Ex→List TT→Prop
 | nil:GrA [] [TT.mk [40],TT.mk [41]]
 | some {es:List Ex} {us:List TT} (h:GrL es us):GrA es (TT.mk [40]::(us++[TT.mk [41]]))
end
/-- With what an expression may begin. -/
def Fst (u:TT):Prop:=u.kind=1∨u.kind=3∨(u.text∈[[45],[110,117,108,108],[116,104,105,115],[105,110,112,117,116],[110,101,119],[40]])
def FstL (us:List TT):Prop:=∃ u vs,us=u::vs∧Fst u
theorem FstL.app {us:List TT}(h:FstL us)(vs:List TT):FstL (us++vs):=by
 obtain⟨u,ws,rfl,h⟩:=h;exact⟨u,ws++vs,rfl,h⟩
theorem GrP.fst:∀ (n:Nat) {e:Ex} {us:List TT} {s:Nat},us.length≤n→GrP e us s→FstL us:=by
 intro n
 induction n with
 | zero =>
   intro e us s hn h;cases h <;> first | (simp at hn;done) | skip
 | succ n ih =>
   intro e us s hn h;cases h with
   | int x n=>exact⟨_,_,rfl,.inr (.inl rfl)⟩
   | neg x n h=>exact⟨_,_,rfl,.inr (.inr (by simp [TT.text]))⟩
   | null=>exact⟨_,_,rfl,.inr (.inr (by simp [TT.text]))⟩
   | var x=>exact⟨_,_,rfl,.inl rfl⟩
   | this=>exact⟨_,_,rfl,.inr (.inr (by simp [TT.text]))⟩
   | input=>exact⟨_,_,rfl,.inr (.inr (by simp [TT.text]))⟩
   | new x=>exact⟨_,_,rfl,.inr (.inr (by simp [TT.text]))⟩
   | paren h=>exact⟨_,_,rfl,.inr (.inr (by simp [TT.text]))⟩
   | static o m h=>exact⟨_,_,rfl,.inl rfl⟩
   | field h m=>exact (ih (by simp at hn;omega) h).app _
   | call h m ha=>exact (ih (by simp at hn;omega) h).app _
theorem GrX.fst:∀ (n:Nat) {e:Ex} {us:List TT},us.length≤n→GrX e us→FstL us:=by
 intro n
 induction n with
 | zero=>intro e us hn h;cases h with
   | post h=>exact h.fst _ hn
   | mul h h2=>simp at hn
 | succ n ih=>intro e us hn h;cases h with
   | post h=>exact h.fst _ hn
   | mul h h2=>exact (ih (by simp at hn;omega) h).app _
theorem GrS.fst:∀ (n:Nat) {e:Ex} {us:List TT},us.length≤n→GrS e us→FstL us:=by
 intro n
 induction n with
 | zero=>intro e us hn h;cases h with
   | prod h=>exact h.fst _ hn
   | add h h2=>simp at hn
   | sub h h2=>simp at hn
 | succ n ih=>intro e us hn h;cases h with
   | prod h=>exact h.fst _ hn
   | add h h2=>exact (ih (by simp at hn;omega) h).app _
   | sub h h2=>exact (ih (by simp at hn;omega) h).app _
theorem GrE.fst {e:Ex}{us:List TT}(h:GrE e us):FstL us:=by
 cases h with
 | sum h=>exact h.fst _ (Nat.le_refl _)
 | less h h2=>exact (h.fst _ (Nat.le_refl _)).app _
 | equal h h2=>exact (h.fst _ (Nat.le_refl _)).app _
theorem GrL.fst {es:List Ex}{us:List TT}(h:GrL es us):FstL us:=by
 cases h with
 | one h=>exact h.fst
 | cons h h2=>exact h.fst.app _
/-- Texts with which no expression begins. -/
def notFst:List Bytes:=[[41],[59],[118,97,114],[105,102],[119,104,105,108,101],[116,114,121],[116,104,114,111,119],[114,101,116,117,114,110],[125]]
section
variable {ts:List Tok} (hT:TWR ts)
include hT
theorem FstL.nxt {us:List TT}{i:Nat}(h:FstL us)(ha:AtT ts i us):Nxt ts i notFst:=by
 obtain⟨u,vs,rfl,h⟩:=h;obtain⟨⟨_,h1,h2,_⟩,_⟩:=AtT.cons.1 ha;rcases h with h | h | h
 ·exact .word hT (.inl (h1.trans h)) (by decide)
 ·exact .word hT (.inr (h1.trans h)) (by decide)
 ·refine fun x hx=>?_
  rw [isT_of h2];have key:∀ t∈[[45],[110,117,108,108],[116,104,105,115],[105,110,112,117,116],[110,101,119],[40]],∀ y∈notFst,((t:Bytes) == y)=false:=by decide
  exact key _ h x hx
end
def stop4:List Bytes:=[[40],[58,58]]
def stop3:List Bytes:=[[46],[40],[58,58]]
def stop2:List Bytes:=[[42],[46],[40],[58,58]]
def stop1:List Bytes:=[[43],[45],[42],[46],[40],[58,58]]
def stop0:List Bytes:=[[60],[61,61],[43],[45],[42],[46],[40],[58,58]]
/-- E reads what is written with fewer than N tokens. -/
def Good (ts:List Tok)(N:Nat)(E:Nat→PR Ex):Prop:=∀ e us i,us.length<N→GrE e us→AtT ts i us→Nxt ts (i+us.length) stop0→E i=.ok (e,i+us.length)
section
variable {ts:List Tok} (hT:TWR ts) {N:Nat} {E:Nat→PR Ex} (hE:Good ts N E)
include hT hE
omit hT in
theorem list_good:∀ {es:List Ex} {vs:List TT} (acc:List Ex) (n i:Nat),vs.length<N→vs.length<n→GrL es vs→AtT ts i (vs++[TT.mk [41]])→bindP (E i) (fun e j=>argsLoop ts E n (acc++[e]) j)=.ok (acc++es,i+vs.length+1):=by
 intro es
 induction es with
 | nil=>intro vs acc n i _ _ h;cases h
 | cons e es ih =>
   intro vs acc n i hN hn h ha;obtain⟨n,rfl⟩:∃ m,n=m+1:=⟨n-1,by omega⟩;cases h with
   | one h =>
     obtain⟨h1,h2⟩:=ha.append;obtain⟨⟨_,_,hx,_⟩,_⟩:=h2;rw [hE _ _ _ hN h h1 (.of hx (by decide)),bindP_ok,argsLoop,isT_of hx,if_neg (by decide),expectP_at hx,bindP_ok]
   | @cons _ us ws _ h h2 =>
     rw [List.append_assoc] at ha;obtain⟨h1,ha⟩:=ha.append;obtain⟨⟨_,_,hx,_⟩,ha⟩:=ha;simp only [List.length_append,List.length_cons] at hN hn;rw [hE _ _ _ (by omega) h h1 (.of hx (by decide)),bindP_ok,argsLoop,isT_of hx,if_pos (by decide)];have:=ih (acc++[e]) n _ (by omega) (by omega) h2 ha;rw [this,List.append_assoc,List.length_append,List.length_cons];simp only [List.cons_append,List.nil_append]
     congr 2;omega
theorem args_good {es:List Ex}{us:List TT}{i:Nat}(hN:us.length≤N)(h:GrA es us)(ha:AtT ts i us):argsP ts E i=.ok (es,i+us.length):=by
 cases h with
 | nil =>
   obtain⟨⟨_,_,hx,_⟩,⟨_,_,hy,_⟩,_⟩:=ha;unfold argsP;rw [expectP_at hx,bindP_ok,isT_of hy,if_pos (by decide)];rfl
 | @some _ us h =>
   have hle:=ha.len;obtain⟨⟨_,_,hx,_⟩,ha⟩:=ha;simp only [List.length_cons,List.length_append,List.length_nil] at hN hle;unfold argsP;rw [expectP_at hx,bindP_ok,(FstL.nxt hT (h.fst.app _) ha).get _ (by decide)];rw [if_neg (by decide)];have:=list_good hE [] (ts.length+1) (i+1) (by omega) (by omega) h ha;simp only [List.nil_append] at this;rw [this];simp only [List.length_cons,List.length_append,List.length_nil]
   congr 2;omega
/-- A post is read up to the loop of its suffixes. -/
theorem post_good:∀ (n:Nat) {e:Ex} {us:List TT} {s i:Nat},us.length≤n→us.length≤N→GrP e us s→AtT ts i us→Nxt ts (i+us.length) stop4 →
  ∃ m,postP ts E i=postLoop ts E m e s (i+us.length)∧ts.length+1≤m+us.length:=by
 intro n
 induction n with
 | zero=>intro e us s i hn _ h;obtain⟨u,vs,rfl,_⟩:=h.fst _ hn;simp at hn
 | succ n ih =>
   intro e us s i hn hN h ha hx;have atom:∀ {e':Ex} {s' j:Nat},atomP ts E i=.ok ((e',s'),j)→e'=e→s'=s→j=i+us.length→∃ m,postP ts E i=postLoop ts E m e s (i+us.length)∧ts.length+1≤m+us.length:=by
    rintro e' s' j h0 rfl rfl rfl;exact⟨ts.length+1,by unfold postP;rw [h0,bindP_ok],by omega⟩
   cases h with
   | int x n =>
     obtain⟨⟨_,k1,t1,n1⟩,_⟩:=ha;refine atom ?_ rfl rfl rfl;unfold atomP;rw [if_neg (by rw [k1];decide),if_pos k1,n1];rfl
   | neg x n h =>
     obtain⟨⟨_,k1,t1,_⟩,⟨_,k2,_,n2⟩,_⟩:=ha;refine atom ?_ rfl rfl rfl;unfold atomP;rw [if_neg (by rw [k1];decide),if_neg (by rw [k1];decide),isT_of t1,if_pos (by decide)];unfold minusP;rw [if_pos ⟨k2,by rw [n2];exact h⟩,n2];rfl
   | null =>
     obtain⟨⟨_,k1,t1,_⟩,_⟩:=ha;refine atom ?_ rfl rfl rfl;unfold atomP;simp only [isT_of t1];rw [if_neg (by rw [k1];decide),if_neg (by rw [k1];decide),if_neg (by decide),if_pos (by decide)];rfl
   | var x =>
     obtain⟨⟨_,k1,t1,_⟩,_⟩:=ha;refine atom ?_ rfl rfl rfl;unfold atomP;rw [if_pos k1];unfold namedP;rw [nameP_at k1 t1,bindP_ok,show isT ts (i+1) [58,58]=false from hx.get _ (by decide),if_neg (by decide)];rfl
   | this =>
     obtain⟨⟨_,k1,t1,_⟩,_⟩:=ha;refine atom ?_ rfl rfl rfl;unfold atomP;simp only [isT_of t1];rw [if_neg (by rw [k1];decide),if_neg (by rw [k1];decide),if_neg (by decide),if_neg (by decide),if_pos (by decide)];rfl
   | input =>
     obtain⟨⟨_,k1,t1,_⟩,⟨_,_,t2,_⟩,⟨_,_,t3,_⟩,_⟩:=ha;refine atom ?_ rfl rfl rfl;unfold atomP;simp only [isT_of t1];rw [if_neg (by rw [k1];decide),if_neg (by rw [k1];decide),if_neg (by decide),if_neg (by decide),if_neg (by decide),if_pos (by decide)];unfold unitP;rw [expectP_at t2,bindP_ok,expectP_at t3,bindP_ok];rfl
   | new x =>
     obtain⟨⟨_,k1,t1,_⟩,⟨_,k2,t2,_⟩,⟨_,_,t3,_⟩,⟨_,_,t4,_⟩,_⟩:=ha;refine atom ?_ rfl rfl rfl;unfold atomP;simp only [isT_of t1];rw [if_neg (by rw [k1];decide),if_neg (by rw [k1];decide),if_neg (by decide),if_neg (by decide),if_neg (by decide),if_neg (by decide),if_pos (by decide),nameP_at k2 t2,bindP_ok];unfold unitP;rw [expectP_at t3,bindP_ok,expectP_at t4,bindP_ok];rfl
   | @paren _ us h =>
     obtain⟨⟨_,k1,t1,_⟩,ha⟩:=ha;obtain⟨h1,⟨_,_,t2,_⟩,_⟩:=ha.append;simp only [List.length_cons,List.length_append,List.length_nil] at hN;refine atom (e':=e) (s':=0) (j:=i+1+us.length+1) ?_ rfl rfl (by simp only [List.length_cons,List.length_append,List.length_nil];omega);unfold atomP;simp only [isT_of t1];rw [if_neg (by rw [k1];decide),if_neg (by rw [k1];decide),if_neg (by decide),if_neg (by decide),if_neg (by decide),if_neg (by decide),if_neg (by decide)];unfold parenP;rw [expectP_at t1,bindP_ok,hE _ _ _ (by omega) h h1 (.of t2 (by decide)),bindP_ok,expectP_at t2,bindP_ok]
   | @static o m es us h =>
     obtain⟨⟨_,k1,t1,_⟩,⟨_,_,t2,_⟩,⟨_,k3,t3,_⟩,ha⟩:=ha;simp only [List.length_cons] at hN;refine atom (j:=i+1+1+1+us.length) ?_ rfl rfl (by simp only [List.length_cons];omega);unfold atomP;rw [if_pos k1];unfold namedP;rw [nameP_at k1 t1,bindP_ok,isT_of t2,if_pos (by decide),nameP_at k3 t3,bindP_ok,args_good hT hE (by omega) h ha,bindP_ok]
   | @field k us s h m =>
     obtain⟨h1,⟨_,_,t1,_⟩,⟨_,k2,t2,_⟩,_⟩:=ha.append;have hl:=h1.len;simp only [List.length_append,List.length_cons,List.length_nil] at hn hN hx ⊢;obtain⟨p,e1,e2⟩:=ih (by omega) (by omega) h h1 (.of t1 (by decide));obtain⟨p,rfl⟩:∃ q,p=q+1:=⟨p-1,by omega⟩;refine⟨p,?_,by omega⟩;rw [e1,postLoop,isT_of t1,if_pos (by decide),nameP_at k2 t2,bindP_ok,show isT ts (i+us.length+1+1) [40]=false from hx.get _ (by decide),if_neg (by decide)];rfl
   | @call k us vs s es h m hp =>
     obtain⟨h1,⟨_,_,t1,_⟩,⟨_,k2,t2,_⟩,ha⟩:=ha.append;have hl:=h1.len;simp only [List.length_append,List.length_cons,List.length_nil] at hn hN hx ⊢;obtain⟨p,e1,e2⟩:=ih (by omega) (by omega) h h1 (.of t1 (by decide));obtain⟨p,rfl⟩:∃ q,p=q+1:=⟨p-1,by omega⟩;have t3:(tk ts (i+us.length+1+1)).text=[40]:=by
      cases hp with
      | nil=>exact ha.1.2.2.1
      | some h=>exact ha.1.2.2.1
     refine⟨p,?_,by omega⟩;rw [e1,postLoop,isT_of t1,if_pos (by decide),nameP_at k2 t2,bindP_ok,isT_of t3,if_pos (by decide),args_good hT hE (by omega) hp ha,bindP_ok]
     congr 1;omega
theorem postP_good {e:Ex}{us:List TT}{s i:Nat}(hN:us.length≤N)(h:GrP e us s)(ha:AtT ts i us)(hx:Nxt ts (i+us.length) stop3):postP ts E i=.ok ((e,s),i+us.length):=by
 obtain⟨m,h1,h2⟩:=post_good hT hE _ (Nat.le_refl _) hN h ha (hx.sub (by decide));have hl:=ha.len;obtain⟨m,rfl⟩:∃ q,m=q+1:=⟨m-1,by omega⟩;rw [h1,postLoop,hx.get _ (by decide),if_neg (by decide)]
theorem prod_good:∀ (n:Nat) {e:Ex} {us:List TT} {i:Nat},us.length≤n→us.length≤N→GrX e us→AtT ts i us→Nxt ts (i+us.length) stop3 →
  ∃ m,prodP ts E i=prodLoop ts E m e (i+us.length)∧ts.length+1≤m+us.length:=by
 intro n
 induction n with
 | zero=>intro e us i hn _ h;obtain⟨u,vs,rfl,_⟩:=h.fst _ hn;simp at hn
 | succ n ih =>
   intro e us i hn hN h ha hx;cases h with
   | post h=>exact⟨ts.length+1,by unfold prodP;rw [postP_good hT hE hN h ha hx,bindP_ok],by omega⟩
   | @mul a b us vs s h h2 =>
     obtain⟨h1,⟨_,_,t1,_⟩,ha⟩:=ha.append;have hl:=h1.len;simp only [List.length_append,List.length_cons] at hn hN hx ⊢;obtain⟨p,e1,e2⟩:=ih (by omega) (by omega) h h1 (.of t1 (by decide));obtain⟨p,rfl⟩:∃ q,p=q+1:=⟨p-1,by omega⟩;have e:i+us.length+1+vs.length=i+(us.length+(vs.length+1)):=by omega
     refine⟨p,?_,by omega⟩;rw [e1,prodLoop,isT_of t1,if_pos (by decide),postP_good hT hE (by omega) h2 ha (by rw [e];exact hx),bindP_ok,e]
theorem prodP_good {e:Ex}{us:List TT}{i:Nat}(hN:us.length≤N)(h:GrX e us)(ha:AtT ts i us)(hx:Nxt ts (i+us.length) stop2):prodP ts E i=.ok (e,i+us.length):=by
 obtain⟨m,h1,h2⟩:=prod_good hT hE _ (Nat.le_refl _) hN h ha (hx.sub (by decide));have hl:=ha.len;obtain⟨m,rfl⟩:∃ q,m=q+1:=⟨m-1,by omega⟩;rw [h1,prodLoop,hx.get _ (by decide),if_neg (by decide)]
theorem sum_good:∀ (n:Nat) {e:Ex} {us:List TT} {i:Nat},us.length≤n→us.length≤N→GrS e us→AtT ts i us→Nxt ts (i+us.length) stop2 →
  ∃ m,sumP ts E i=sumLoop ts E m e (i+us.length)∧ts.length+1≤m+us.length:=by
 intro n
 induction n with
 | zero=>intro e us i hn _ h;obtain⟨u,vs,rfl,_⟩:=h.fst _ hn;simp at hn
 | succ n ih =>
   intro e us i hn hN h ha hx;cases h with
   | prod h=>exact⟨ts.length+1,by unfold sumP;rw [prodP_good hT hE hN h ha hx,bindP_ok],by omega⟩
   | @add a b us vs h h2 =>
     obtain⟨h1,⟨_,_,t1,_⟩,ha⟩:=ha.append;have hl:=h1.len;simp only [List.length_append,List.length_cons] at hn hN hx ⊢;obtain⟨p,e1,e2⟩:=ih (by omega) (by omega) h h1 (.of t1 (by decide));obtain⟨p,rfl⟩:∃ q,p=q+1:=⟨p-1,by omega⟩;have e:i+us.length+1+vs.length=i+(us.length+(vs.length+1)):=by omega
     refine⟨p,?_,by omega⟩;rw [e1,sumLoop,isT_of t1,if_pos (by decide),prodP_good hT hE (by omega) h2 ha (by rw [e];exact hx),bindP_ok,e]
   | @sub a b us vs h h2 =>
     obtain⟨h1,⟨_,_,t1,_⟩,ha⟩:=ha.append;have hl:=h1.len;simp only [List.length_append,List.length_cons] at hn hN hx ⊢;obtain⟨p,e1,e2⟩:=ih (by omega) (by omega) h h1 (.of t1 (by decide));obtain⟨p,rfl⟩:∃ q,p=q+1:=⟨p-1,by omega⟩;have e:i+us.length+1+vs.length=i+(us.length+(vs.length+1)):=by omega
     refine⟨p,?_,by omega⟩;rw [e1,sumLoop,isT_of t1,if_neg (by decide),isT_of t1,if_pos (by decide),prodP_good hT hE (by omega) h2 ha (by rw [e];exact hx),bindP_ok,e]
theorem sumP_good {e:Ex}{us:List TT}{i:Nat}(hN:us.length≤N)(h:GrS e us)(ha:AtT ts i us)(hx:Nxt ts (i+us.length) stop1):sumP ts E i=.ok (e,i+us.length):=by
 obtain⟨m,h1,h2⟩:=sum_good hT hE _ (Nat.le_refl _) hN h ha (hx.sub (by decide));have hl:=ha.len;obtain⟨m,rfl⟩:∃ q,m=q+1:=⟨m-1,by omega⟩;rw [h1,sumLoop,hx.get _ (by decide),if_neg (by decide),hx.get _ (by decide),if_neg (by decide)]
theorem exprW_good:Good ts (N+1) (exprW ts E):=by
 intro e us i hN h ha hx;unfold exprW;cases h with
 | sum h=>rw [sumP_good hT hE (by omega) h ha (hx.sub (by decide)),bindP_ok,hx.get _ (by decide),if_neg (by decide),hx.get _ (by decide),if_neg (by decide)]
 | @less a b us vs h h2 =>
   obtain⟨h1,⟨_,_,t1,_⟩,ha⟩:=ha.append;simp only [List.length_append,List.length_cons] at hN hx ⊢;have e:i+us.length+1+vs.length=i+(us.length+(vs.length+1)):=by omega
   rw [sumP_good hT hE (by omega) h h1 (.of t1 (by decide)),bindP_ok,isT_of t1,if_pos (by decide),sumP_good hT hE (by omega) h2 ha (by rw [e];exact hx.sub (by decide)),bindP_ok,e]
 | @equal a b us vs h h2 =>
   obtain⟨h1,⟨_,_,t1,_⟩,ha⟩:=ha.append;simp only [List.length_append,List.length_cons] at hN hx ⊢;have e:i+us.length+1+vs.length=i+(us.length+(vs.length+1)):=by omega
   rw [sumP_good hT hE (by omega) h h1 (.of t1 (by decide)),bindP_ok,isT_of t1,if_neg (by decide),isT_of t1,if_pos (by decide),sumP_good hT hE (by omega) h2 ha (by rw [e];exact hx.sub (by decide)),bindP_ok,e]
end
section
variable {ts:List Tok} (hT:TWR ts)
include hT
theorem exprP_good:∀ f,Good ts f (exprP ts f):=by
 intro f
 induction f with
 | zero=>intro e us i h;omega
 | succ f ih=>exact exprW_good hT ih
theorem exprT_good:Good ts (ts.length+1) (exprT ts):=exprP_good hT _
theorem expr_at {e:Ex}{us:List TT}{i:Nat}(h:GrE e us)(ha:AtT ts i us)(hx:Nxt ts (i+us.length) stop0):exprT ts i=.ok (e,i+us.length):=exprT_good hT _ _ _ (by have:=ha.len;omega) h ha hx
theorem post_at {e:Ex}{us:List TT}{s i:Nat}(h:GrP e us s)(ha:AtT ts i us)(hx:Nxt ts (i+us.length) stop3):postP ts (exprT ts) i=.ok ((e,s),i+us.length):=postP_good hT (exprT_good hT) (by have:=ha.len;omega) h ha hx
end
end Lx
end
end Go.Proofs.YtmlafcimjhnhhaaGreatDoor
