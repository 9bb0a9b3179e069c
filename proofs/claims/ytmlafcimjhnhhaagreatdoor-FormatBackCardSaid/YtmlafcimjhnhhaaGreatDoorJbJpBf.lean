/-
  append of a whole slice onto a row of the call's own, as a step of a region that draws; and how parse.Program ends, in one form.
-/
import Derived.Test.YtmlafcimjhnhhaaGreatDoorJbJpBe
import Derived.Test.YtmlafcimjhnhhaaGreatDoorJbParPost
import Derived.Deep.RegionLaw
import Derived.Deep.AppendLies
import Derived.Laws.OwnMore
import Derived.Test.YtmlafcimjhnhhaaGreatDoorJbParItems
import Derived.RegionTactic
import Derived.BigRegion
import Derived.Deep.QuietTactic
import Derived.BigQuiet
set_option linter.unusedSectionVars false
set_option linter.unusedSimpArgs false
set_option linter.unnecessarySimpa false
set_option linter.unusedVariables false
namespace Go.Proofs.YtmlafcimjhnhhaaGreatDoor
section
open Lx Go.RowKit
/-- What an append reads: nothing, or the cells of a row. -/
def SrcAt (w:World)(src:Value)(m size:Nat)(news:List Value):Prop:=news.length=m*size∧(∀ u∈news,u.oneCell'=true)∧((∃ c,src=.slice none 0 c∧m=0)∨∃ ad c,src=.slice (some ad) m c∧∀ j u,news[j]?=some u→w.cell? (ad.add j)=some u)
theorem SrcAt.below {w w':World}{src:Value}{m size:Nat}{news:List Value}(h:SrcAt w src m size news)(hb:Below w.heap.size w w'):SrcAt w' src m size news:=by
 obtain⟨h1,h2,h3 | ⟨ad,c,h3,h4⟩⟩:=h
 ·exact⟨h1,h2,.inl h3⟩
 ·refine⟨h1,h2,.inr ⟨ad,c,h3,fun j u hu=>?_⟩⟩;have h5:=h4 j u hu;rw [hb.cell (World.block_lt_of_cell? w _ h5)];exact h5
theorem flat_from {α:Type}{w:World}{k g off:Nat}{P:α→List Value→Prop}{l:List α}(hc:∀ i (h:i<l.length),∃ cs:List Value,cs.length=k∧(∀ j,j<k→w.cell? ⟨g,off+(i*k+j),none⟩=cs[j]?)∧P l[i] cs) :
  ∀ m,m≤l.length→∃ xs,Flat k P (l.take m) xs∧∀ j,j<m*k→w.cell? ⟨g,off+j,none⟩=xs[j]?:=by
 intro m
 induction m with
 | zero=>intro _;exact⟨[],Flat.nil,fun j hj=>by simp at hj⟩
 | succ m ih =>
   intro hm;obtain⟨xs,hf,hx⟩:=ih (by omega);obtain⟨cs,h1,h2,h3⟩:=hc m (by omega);have hl:xs.length=m*k:=by rw [hf.1,List.length_take];congr 1;omega
   refine⟨xs++cs,?_,fun j hj=>?_⟩
   ·rw [List.take_succ_eq_append_getElem (by omega)];exact hf.snoc h1 h3
   ·by_cases hlt:j<m*k
    ·rw [List.getElem?_append_left (by omega)];exact hx j hlt
    ·rw [List.getElem?_append_right (by omega),hl];have hjk:j-m*k<k:=by rw [Nat.succ_mul] at hj;omega
     have:=h2 (j-m*k) hjk;rw [← this,show off+(m*k+(j-m*k))=off+j from by omega]
theorem IsCl.one {A:Nat→Prop}{w:World}{d:Nat}{e:Cl}{cs:List Value}(h:IsCl A w d e cs):∀ u∈cs,u.oneCell'=true:=by
 obtain⟨v1,v2,rfl,h1,h2⟩:=h;have hv:v1.oneCell'=true:=by obtain⟨_,⟨_,a,c,rfl⟩ | ⟨g,off,c,rfl,_⟩⟩:=h1 <;> rfl
 have hv2:v2.oneCell'=true:=by obtain⟨_,⟨_,a,c,rfl⟩ | ⟨g,off,c,rfl,_⟩⟩:=h2 <;> rfl
 intro u hu;simp at hu;rcases hu with rfl | rfl | rfl | rfl <;> first | rfl | exact hv | exact hv2
theorem add_off (g off k:Nat):(⟨g,off,none⟩:Addr).add k=⟨g,off+k,none⟩:=by
 unfold Addr.add;split
 ·rename_i h;rw [h];rfl
 ·rfl
theorem IsList.src {α:Type}{w:World}{k:Nat}{P:α→List Value→Prop}{l:List α}{v:Value}(hk:0<k)(h:IsList Any w k P l v)(hP:∀ x cs,P x cs→∀ u∈cs,u.oneCell'=true):∃ xs,Flat k P l xs∧SrcAt w v l.length k xs:=by
 obtain⟨hl,⟨rfl,a,c,rfl⟩ | ⟨g,off,cap,rfl,hA,hc⟩⟩:=h
 ·refine⟨[],Flat.nil,by simp,by simp,?_⟩;cases a with
  | none=>exact .inl ⟨c,rfl,rfl⟩
  | some ad=>exact .inr ⟨ad,c,rfl,by simp⟩
 ·obtain⟨xs,hf,hx⟩:=flat_from hc l.length (Nat.le_refl _);rw [List.take_length] at hf;refine⟨xs,hf,hf.1,hf.ones hk hP,.inr ⟨_,cap,rfl,fun j u hu=>?_⟩⟩;have hj:j<xs.length:=(List.getElem?_eq_some_iff.1 hu).1;rw [add_off,hx j (by rw [← hf.1];exact hj),hu]
theorem programR_err {l:Bytes}{p er:Nat}(h:programR l=.error (p,er)):er≠0:=by
 unfold programR at h;cases hr:readR (fun ts=>programP ts 0) l with
 | error x =>
   rw [hr] at h;obtain⟨q,f⟩:=x;have:=readR_err hr;cases h;omega
 | ok c =>
   rw [hr] at h;simp only at h;split at h
   ·rename_i h0;cases h;exact h0
   ·cases h
/-- How parse.Program ends, in one form. -/
theorem ProgOut.form {w:World}{l:Bytes}{e:Ending}{w':World}(h:ProgOut w (programR l) e w'):Below w.heap.size w w'∧∃ (a:Option Addr) (n c:Nat) (p er:Int),e=.returned (.tuple #[.agg #[.slice a n c],.int .i64 p,.int .i64 er])∧∃ (x:List Cl) (d:Nat),IsList Any w' 4 (IsCl Any w' d) x (.slice a n c) ∧
  ((er=0∧p=0∧programR l=.ok x)∨((er != 0)=true∧∃ (q f:Nat),p=(q:Int)∧er=(f:Int)∧x=[]∧programR l=.error (q,f))):=by
 obtain⟨hb,h⟩:=h;refine⟨hb,?_⟩;cases hr:programR l with
 | error x =>
   obtain⟨p,er⟩:=x;rw [hr] at h;have h0:=programR_err hr;exact⟨none,0,0,p,er,h,[],0,⟨by simp,.inl ⟨rfl,_,_,rfl⟩⟩,.inr ⟨by rw [bne_iff_ne];omega,p,er,rfl,rfl,rfl,rfl⟩⟩
 | ok x =>
   rw [hr] at h;obtain⟨a,n,c,h1,d,h2⟩:=h;exact⟨a,n,c,0,0,h1,x,d,h2.sub (fun _ _ _=>trivial) (by omega) fun _ _ _=>IsCl.sub fun _ _ _=>trivial,.inl ⟨rfl,rfl,rfl⟩⟩
end
section
open Lx Go.RowKit
set_option maxHeartbeats 2000000 in
theorem ref_SameExprs (d:Nat):∀ (l1 l2:List Ex) (a1:Option Addr) (n1 c1:Nat) (a2:Option Addr) (n2 c2:Nat) (w:World),IsList Any w 5 (IsEx Any w d) l1 (.slice a1 n1 c1)→IsList Any w 5 (IsEx Any w d) l2 (.slice a2 n2 c2) →
  Calls Tryz.prog 10 #[.slice a1 n1 c1,.slice a2 n2 c2] w (SameOut w (l1=l2)):=by
 induction d with
 | zero =>
   intro l1 l2 a1 n1 c1 a2 n2 c2 w h1 h2;obtain⟨rfl,hm1,hat1⟩:=h1.exAt;obtain⟨rfl,hm2,hat2⟩:=h2.exAt;cases l1 with
   | cons x l=>obtain⟨_,_,_,_,_,_,_,_,_,_,_,_,_,_,_,_,hx⟩:=hat1 0 (by simp);exact absurd hx (by simp [IsEx])
   | nil =>
     cases l2 with
     | cons x l=>obtain⟨_,_,_,_,_,_,_,_,_,_,_,_,_,_,_,_,hx⟩:=hat2 0 (by simp);exact absurd hx (by simp [IsEx])
     | nil =>
       clear h1 h2 hat1 hat2;go_enter Tryz.func10,Tryz.ntmps10;go_wp2_with fail
       go_loopw [5] (fun i wr=>SameRel ([]:List Ex) [] w i wr) (fun i _=>0-(intOf i).toNat)
       case atStart=>exact⟨0,Nat.zero_le _,rfl,rfl,.refl _ _⟩
       case round =>
        obtain⟨j,hj,rfl,_,hb⟩:=hrel;obtain rfl:j=0:=by simpa using hj
        have HB:=Lib.hid hb;clear hb;go_wp2_with fail;go_ret;exact⟨HB.out,true,rfl,by simp⟩
 | succ d ih =>
   intro l1 l2 a1 n1 c1 a2 n2 c2 w h1 h2;obtain⟨rfl,hm1,hat1⟩:=h1.exAt;obtain⟨rfl,hm2,hat2⟩:=h2.exAt;unfold maxLen at hm1 hm2;have HAT1:=Lib.hid hat1;have HAT2:=Lib.hid hat2;have IH:=Lib.hid ih;clear h1 h2 hat1 hat2 ih
   by_cases hlen:l1.length=l2.length
   ·have hle:((l1.length:Int) != (l2.length:Int))=false:=by rw [bne_eq_false_iff_eq];omega
    have hle1:l1.length≤l2.length:=by omega
    have hle2:l2.length≤l1.length:=by omega
    clear hlen;go_enter Tryz.func10,Tryz.ntmps10;go_wp2_with fail
    go_loopw [5] (fun i wr=>SameRel l1 l2 w i wr) (fun i _=>l1.length-(intOf i).toNat)
    case atStart=>exact⟨0,Nat.zero_le _,rfl,rfl,.refl _ _⟩
    case round =>
     obtain⟨j,hj,rfl,hpre,hb⟩:=hrel;have HPRE:=Lib.hid hpre;clear hpre
     by_cases hlt:j<l1.length
     ·have hlt2:j<l2.length:=by omega
      obtain⟨g1,o1,k1,m1,s1,t1,b1,r1,q1,rfl,hg1,x0,x1,x2,x3,x4,hx⟩:=HAT1.out j hlt;obtain⟨g2,o2,k2,m2,s2,t2,b2,r2,q2,rfl,hg2,y0,y1,y2,y3,y4,hy⟩:=HAT2.out j hlt2;rw [← hb.cell (p:=⟨g1,_,none⟩) hg1] at x0 x1 x2 x3 x4;rw [← hb.cell (p:=⟨g2,_,none⟩) hg2] at y0 y1 y2 y3 y4;have hs:=hb.size;have hw1:g1<wr.heap.size:=by omega
      have hw2:g2<wr.heap.size:=by omega
      obtain⟨oo1,mm1,ks1,he1,rfl,rfl,hl1⟩:=(IsEx.kept (kept_any hb) _ _ _ hx).flds;obtain⟨oo2,mm2,ks2,he2,rfl,rfl,hl2⟩:=(IsEx.kept (kept_any hb) _ _ _ hy).flds;have H1:Hid (∀ x,Below wr.heap.size wr x→IsList Any x 5 (IsEx Any x d) ks1 (.slice b1 r1 q1)):=fun x hx=>hl1.kept (kept_any hx) (by omega) fun _ _ _=>IsEx.kept (kept_any hx) _ _ _
      have H2:Hid (∀ x,Below wr.heap.size wr x→IsList Any x 5 (IsEx Any x d) ks2 (.slice b2 r2 q2)):=fun x hx=>hl2.kept (kept_any hx) (by omega) fun _ _ _=>IsEx.kept (kept_any hx) _ _ _
      have HE1:=Lib.hid he1;have HE2:=Lib.hid he2;have HB:=Lib.hid hb;clear hb hx hy hl1 hl2 he1 he2;have hj1:(j:Int)<(l1.length:Int):=by omega
      have hj2:(j:Int)<(l2.length:Int):=by omega
      have hj0:(0:Int)≤(j:Int):=by omega
      by_cases hk:k1=k2
      rotate_left
      ·have HNE:Hid (l1[j]≠l2[j]):=by show _≠_;rw [HE1.out,HE2.out];intro e;injection e;exact hk ‹_›
       have q:(k1 != k2)=true:=by rw [bne_iff_ne];exact hk
       clear hk;go_wp2_with fail
       go_region
       all_goals
        go_wp2_with fail;go_ret;exact⟨HB.out.trans (((((Below.refl _ _).alloc (Nat.le_refl _) _).alloc (by simp) _).drew).mono HB.out.size),false,rfl,by simp;exact differ hlt hlt2 (HNE.out)⟩
      subst hk
      by_cases hm:m1=m2
      rotate_left
      ·have HNE:Hid (l1[j]≠l2[j]):=by show _≠_;rw [HE1.out,HE2.out];intro e;injection e;exact hm ‹_›
       have q:(m1 != m2)=true:=by rw [bne_iff_ne];exact hm
       clear hm;go_wp2_with fail
       go_region
       all_goals
        go_wp2_with fail;go_ret;exact⟨HB.out.trans (((((Below.refl _ _).alloc (Nat.le_refl _) _).alloc (by simp) _).drew).mono HB.out.size),false,rfl,by simp;exact differ hlt hlt2 (HNE.out)⟩
      subst hm
      by_cases ho:oo1=oo2
      rotate_left
      ·have HNE:Hid (l1[j]≠l2[j]):=by show _≠_;rw [HE1.out,HE2.out];intro e;injection e;exact ho ‹_›
       obtain⟨q,q'⟩:=str_ne ho;clear ho;go_wp2_with fail
       go_region
       all_goals
        go_wp2_with fail;go_ret;exact⟨HB.out.trans (((((Below.refl _ _).alloc (Nat.le_refl _) _).alloc (by simp) _).drew).mono HB.out.size),false,rfl,by simp;exact differ hlt hlt2 (HNE.out)⟩
      subst ho
      by_cases hn:mm1=mm2
      rotate_left
      ·have HNE:Hid (l1[j]≠l2[j]):=by show _≠_;rw [HE1.out,HE2.out];intro e;injection e;exact hn ‹_›
       obtain⟨q,q'⟩:=str_ne hn;clear hn;go_wp2_with fail
       go_region
       all_goals
        go_wp2_with fail;go_ret;exact⟨HB.out.trans (((((Below.refl _ _).alloc (Nat.le_refl _) _).alloc (by simp) _).drew).mono HB.out.size),false,rfl,by simp;exact differ hlt hlt2 (HNE.out)⟩
      subst hn;go_wp2_with fail
      go_region
      all_goals
       go_wp2_with fail;refine (IH.out _ _ _ _ _ _ _ _ _ (H1.out _ (((((Below.refl _ _).alloc (Nat.le_refl _) _).alloc (by simp) _).drew))) (H2.out _ (((((Below.refl _ _).alloc (Nat.le_refl _) _).alloc (by simp) _).drew)))).mono ?_;rintro e w2 ⟨hb2,b,rfl,hbi⟩;have HB2:=Lib.hid (HB.out.trans ((((((Below.refl _ _).alloc (Nat.le_refl _) _).alloc (by simp) _).drew).trans (hb2.mono (by simp;omega))).mono HB.out.size));have HBI:=Lib.hid hbi;clear hb2 hbi;cases b
       ·go_wp2_with fail;go_ret;refine⟨HB2.out,false,rfl,?_⟩;simp;refine differ hlt hlt2 ?_;rw [HE1.out,HE2.out];intro e;injection e;exact absurd (HBI.out.2 ‹_›) (by decide)
       ·go_wp2_with fail
        go_roundw
        case rel =>
         refine⟨j+1,by omega,by go_num,?_,HB2.out⟩;rw [List.take_succ_eq_append_getElem hlt,List.take_succ_eq_append_getElem hlt2,HPRE.out,HE1.out,HE2.out,HBI.out.1 (by simp)]
        case measure=>simp [intOf];omega
     ·have HB:=Lib.hid hb;clear hb;go_wp2_with fail;go_ret;refine⟨HB.out,true,rfl,?_⟩;simp only [true_iff];have hp:=HPRE.out;rw [List.take_of_length_le (by omega),List.take_of_length_le (by omega)] at hp;exact hp
   ·have hle:((l1.length:Int) != (l2.length:Int))=true:=by rw [bne_iff_ne];omega
    have HL:=Lib.hid hlen;clear hlen;go_enter Tryz.func10,Tryz.ntmps10;go_wp2_with fail;go_ret;exact⟨.refl _ _,false,rfl,by simp;intro h;exact HL.out (by rw [h])⟩
end
section
open Lx Go.RowKit
set_option maxHeartbeats 2000000 in
theorem ref_SameFields (l1 l2:List Fld)(a1:Option Addr)(n1 c1:Nat)(a2:Option Addr)(n2 c2:Nat)(w:World)(h1:IsList Any w 2 IsFld l1 (.slice a1 n1 c1))(h2:IsList Any w 2 IsFld l2 (.slice a2 n2 c2)) :
  Calls Tryz.prog 33 #[.slice a1 n1 c1,.slice a2 n2 c2] w (SameOut w (l1=l2)):=by
 obtain⟨rfl,hm1,hat1⟩:=h1.fldAt;obtain⟨rfl,hm2,hat2⟩:=h2.fldAt;unfold maxLen at hm1 hm2;have HAT1:=Lib.hid hat1;have HAT2:=Lib.hid hat2;clear h1 h2 hat1 hat2
 by_cases hlen:l1.length=l2.length
 ·have hle:((l1.length:Int) != (l2.length:Int))=false:=by rw [bne_eq_false_iff_eq];omega
  have hle1:l1.length≤l2.length:=by omega
  have hle2:l2.length≤l1.length:=by omega
  clear hlen;go_enter Tryz.func33,Tryz.ntmps33;go_wp2_with fail
  go_loopw [5] (fun i wr=>SameRel l1 l2 w i wr) (fun i _=>l1.length-(intOf i).toNat)
  case atStart=>exact⟨0,Nat.zero_le _,rfl,rfl,.refl _ _⟩
  case round =>
   obtain⟨j,hj,rfl,hpre,hb⟩:=hrel;have HPRE:=Lib.hid hpre;clear hpre
   by_cases hlt:j<l1.length
   ·have hlt2:j<l2.length:=by omega
    obtain⟨g1,o1,rfl,hg1,x0,x1⟩:=HAT1.out j hlt;obtain⟨g2,o2,rfl,hg2,y0,y1⟩:=HAT2.out j hlt2;rw [← hb.cell (p:=⟨g1,_,none⟩) hg1] at x0 x1;rw [← hb.cell (p:=⟨g2,_,none⟩) hg2] at y0 y1;have hs:=hb.size;have hw1:g1<wr.heap.size:=by omega
    have hw2:g2<wr.heap.size:=by omega
    obtain⟨f1,hf1⟩:∃ f,l1[j]=f:=⟨_,rfl⟩;obtain⟨f2,hf2⟩:∃ f,l2[j]=f:=⟨_,rfl⟩;rw [hf1] at x0 x1;rw [hf2] at y0 y1;have HF1:=Lib.hid hf1;have HF2:=Lib.hid hf2;have HB:=Lib.hid hb;clear hb hf1 hf2;have hj1:(j:Int)<(l1.length:Int):=by omega
    have hj2:(j:Int)<(l2.length:Int):=by omega
    have hj0:(0:Int)≤(j:Int):=by omega
    obtain⟨fn1,ft1⟩:=f1;obtain⟨fn2,ft2⟩:=f2;simp only at x0 x1 y0 y1
    by_cases hn:fn1=fn2
    rotate_left
    ·have HNE:Hid (l1[j]≠l2[j]):=by show _≠_;rw [HF1.out,HF2.out];intro e;injection e;exact hn ‹_›
     obtain⟨q,q'⟩:=str_ne hn;clear hn
     by_cases ht:ft1=ft2
     ·subst ht;go_wp2_with fail
      go_quiet (fail)
      go_wp2_with fail;go_ret;exact⟨HB.out.trans ((below_drewN (Below.refl _ _) _).mono HB.out.size),false,rfl,by simp;exact differ hlt hlt2 HNE.out⟩
     ·obtain⟨r,r'⟩:=str_ne ht;clear ht;go_wp2_with fail
      go_quiet (fail)
      go_wp2_with fail;go_ret;exact⟨HB.out.trans ((below_drewN (Below.refl _ _) _).mono HB.out.size),false,rfl,by simp;exact differ hlt hlt2 HNE.out⟩
    subst hn
    by_cases ht:ft1=ft2
    rotate_left
    ·have HNE:Hid (l1[j]≠l2[j]):=by show _≠_;rw [HF1.out,HF2.out];intro e;injection e;exact ht ‹_›
     obtain⟨q,q'⟩:=str_ne ht;clear ht;go_wp2_with fail
     go_quiet (fail)
     go_wp2_with fail;go_ret;exact⟨HB.out.trans ((below_drewN (Below.refl _ _) _).mono HB.out.size),false,rfl,by simp;exact differ hlt hlt2 HNE.out⟩
    subst ht;go_wp2_with fail
    go_quiet (fail)
    go_wp2_with fail
    go_roundw
    case rel =>
     refine⟨j+1,by omega,by go_num,?_,HB.out.trans ((below_drewN (Below.refl _ _) _).mono HB.out.size)⟩;rw [List.take_succ_eq_append_getElem hlt,List.take_succ_eq_append_getElem hlt2,HPRE.out,HF1.out,HF2.out]
    case measure=>simp [intOf];omega
   ·have HB:=Lib.hid hb;clear hb;go_wp2_with fail;go_ret;refine⟨HB.out,true,rfl,?_⟩;simp only [true_iff];have hp:=HPRE.out;rw [List.take_of_length_le (by omega),List.take_of_length_le (by omega)] at hp;exact hp
 ·have hle:((l1.length:Int) != (l2.length:Int))=true:=by rw [bne_iff_ne];omega
  have HL:=Lib.hid hlen;clear hlen;go_enter Tryz.func33,Tryz.ntmps33;go_wp2_with fail;go_ret;exact⟨.refl _ _,false,rfl,by simp;intro h;exact HL.out (by rw [h])⟩
end
section
open Lx Go.RowKit
set_option maxHeartbeats 4000000 in
theorem ref_SameStmts (d:Nat):∀ (l1 l2:List St) (a1:Option Addr) (n1 c1:Nat) (a2:Option Addr) (n2 c2:Nat) (w:World),IsList Any w 6 (IsSt Any w d) l1 (.slice a1 n1 c1)→IsList Any w 6 (IsSt Any w d) l2 (.slice a2 n2 c2) →
  Calls Tryz.prog 62 #[.slice a1 n1 c1,.slice a2 n2 c2] w (SameOut w (l1=l2)):=by
 induction d with
 | zero =>
   intro l1 l2 a1 n1 c1 a2 n2 c2 w h1 h2;obtain⟨rfl,hm1,hat1⟩:=h1.stAt;obtain⟨rfl,hm2,hat2⟩:=h2.stAt;cases l1 with
   | cons x l=>obtain⟨_,_,_,_,_,_,_,_,_,_,_,_,_,_,_,_,_,hx⟩:=hat1 0 (by simp);exact absurd hx (by simp [IsSt])
   | nil =>
     cases l2 with
     | cons x l=>obtain⟨_,_,_,_,_,_,_,_,_,_,_,_,_,_,_,_,_,hx⟩:=hat2 0 (by simp);exact absurd hx (by simp [IsSt])
     | nil =>
       clear h1 h2 hat1 hat2;go_enter Tryz.func62,Tryz.ntmps62;go_wp2_with fail
       go_loopw [5] (fun i wr=>SameRel ([]:List St) [] w i wr) (fun i _=>0-(intOf i).toNat)
       case atStart=>exact⟨0,Nat.zero_le _,rfl,rfl,.refl _ _⟩
       case round =>
        obtain⟨j,hj,rfl,_,hb⟩:=hrel;obtain rfl:j=0:=by simpa using hj
        have HB:=Lib.hid hb;clear hb;go_wp2_with fail;go_ret;exact⟨HB.out,true,rfl,by simp⟩
 | succ d ih =>
   intro l1 l2 a1 n1 c1 a2 n2 c2 w h1 h2;obtain⟨rfl,hm1,hat1⟩:=h1.stAt;obtain⟨rfl,hm2,hat2⟩:=h2.stAt;unfold maxLen at hm1 hm2;have HAT1:=Lib.hid hat1;have HAT2:=Lib.hid hat2;have IH:=Lib.hid ih;clear h1 h2 hat1 hat2 ih
   by_cases hlen:l1.length=l2.length
   ·have hle:((l1.length:Int) != (l2.length:Int))=false:=by rw [bne_eq_false_iff_eq];omega
    have hle1:l1.length≤l2.length:=by omega
    have hle2:l2.length≤l1.length:=by omega
    clear hlen;go_enter Tryz.func62,Tryz.ntmps62;go_wp2_with fail
    go_loopw [5] (fun i wr=>SameRel l1 l2 w i wr) (fun i _=>l1.length-(intOf i).toNat)
    case atStart=>exact⟨0,Nat.zero_le _,rfl,rfl,.refl _ _⟩
    case round =>
     obtain⟨j,hj,rfl,hpre,hb⟩:=hrel;have HPRE:=Lib.hid hpre;clear hpre
     by_cases hlt:j<l1.length
     ·have hlt2:j<l2.length:=by omega
      obtain⟨g1,o1,k1,s1,t1,e1,r1,q1,a2,n2,c2,a3,n3,c3,rfl,hg1,⟨x0,x1,x2,x3,x4,x5⟩,hx⟩:=HAT1.out j hlt;obtain⟨g2,o2,k2,s2,t2,e2,r2,q2,a2',n2',c2',a3',n3',c3',rfl,hg2,⟨y0,y1,y2,y3,y4,y5⟩,hy⟩:=HAT2.out j hlt2;rw [← hb.cell (p:=⟨g1,_,none⟩) hg1] at x0 x1 x2 x3 x4 x5;rw [← hb.cell (p:=⟨g2,_,none⟩) hg2] at y0 y1 y2 y3 y4 y5;have hs:=hb.size;have hw1:g1<wr.heap.size:=by omega
      have hw2:g2<wr.heap.size:=by omega
      obtain⟨nn1,tt1,es1,bd1,el1,he1,rfl,rfl,hl1,hb1,hr1⟩:=(IsSt.kept (kept_any hb) _ _ _ hx).flds;obtain⟨nn2,tt2,es2,bd2,el2,he2,rfl,rfl,hl2,hb2',hr2⟩:=(IsSt.kept (kept_any hb) _ _ _ hy).flds;have H1:Hid (∀ x,Below wr.heap.size wr x→IsList Any x 5 (IsEx Any x d) es1 (.slice e1 r1 q1)):=fun x hx=>hl1.kept (kept_any hx) (by omega) fun _ _ _=>IsEx.kept (kept_any hx) _ _ _
      have H2:Hid (∀ x,Below wr.heap.size wr x→IsList Any x 5 (IsEx Any x d) es2 (.slice e2 r2 q2)):=fun x hx=>hl2.kept (kept_any hx) (by omega) fun _ _ _=>IsEx.kept (kept_any hx) _ _ _
      have H3:Hid (∀ x,Below wr.heap.size wr x→IsList Any x 6 (IsSt Any x d) bd1 (.slice a2 n2 c2)):=fun x hx=>hb1.kept (kept_any hx) (by omega) fun _ _ _=>IsSt.kept (kept_any hx) _ _ _
      have H4:Hid (∀ x,Below wr.heap.size wr x→IsList Any x 6 (IsSt Any x d) bd2 (.slice a2' n2' c2')):=fun x hx=>hb2'.kept (kept_any hx) (by omega) fun _ _ _=>IsSt.kept (kept_any hx) _ _ _
      have H5:Hid (∀ x,Below wr.heap.size wr x→IsList Any x 6 (IsSt Any x d) el1 (.slice a3 n3 c3)):=fun x hx=>hr1.kept (kept_any hx) (by omega) fun _ _ _=>IsSt.kept (kept_any hx) _ _ _
      have H6:Hid (∀ x,Below wr.heap.size wr x→IsList Any x 6 (IsSt Any x d) el2 (.slice a3' n3' c3')):=fun x hx=>hr2.kept (kept_any hx) (by omega) fun _ _ _=>IsSt.kept (kept_any hx) _ _ _
      have HE1:=Lib.hid he1;have HE2:=Lib.hid he2;have HB:=Lib.hid hb;clear hb hx hy hl1 hl2 hb1 hb2' hr1 hr2 he1 he2;have hj1:(j:Int)<(l1.length:Int):=by omega
      have hj2:(j:Int)<(l2.length:Int):=by omega
      have hj0:(0:Int)≤(j:Int):=by omega
      by_cases hq:k1=k2
      rotate_left
      ·have HNE:Hid (l1[j]≠l2[j]):=by show _≠_;rw [HE1.out,HE2.out];intro e;injection e;exact hq ‹_›
       have q:(k1 != k2)=true:=by rw [bne_iff_ne];exact hq
       clear hq;go_wp2_with fail
       go_region
       all_goals
        go_wp2_with fail;go_ret;exact⟨HB.out.trans ((((((Below.refl _ _).alloc (Nat.le_refl _) _).alloc (by simp) _).drew)).mono HB.out.size),false,rfl,by simp;exact differ hlt hlt2 (HNE.out)⟩
      subst hq
      by_cases hq:nn1=nn2
      rotate_left
      ·have HNE:Hid (l1[j]≠l2[j]):=by show _≠_;rw [HE1.out,HE2.out];intro e;injection e;exact hq ‹_›
       obtain⟨q,q'⟩:=str_ne hq;clear hq;go_wp2_with fail
       go_region
       all_goals
        go_wp2_with fail;go_ret;exact⟨HB.out.trans ((((((Below.refl _ _).alloc (Nat.le_refl _) _).alloc (by simp) _).drew)).mono HB.out.size),false,rfl,by simp;exact differ hlt hlt2 (HNE.out)⟩
      subst hq
      by_cases hq:tt1=tt2
      rotate_left
      ·have HNE:Hid (l1[j]≠l2[j]):=by show _≠_;rw [HE1.out,HE2.out];intro e;injection e;exact hq ‹_›
       obtain⟨q,q'⟩:=str_ne hq;clear hq;go_wp2_with fail
       go_region
       all_goals
        go_wp2_with fail;go_ret;exact⟨HB.out.trans ((((((Below.refl _ _).alloc (Nat.le_refl _) _).alloc (by simp) _).drew)).mono HB.out.size),false,rfl,by simp;exact differ hlt hlt2 (HNE.out)⟩
      subst hq;go_wp2_with fail
      go_region
      ·go_wp2_with fail;refine (ref_SameExprs d _ _ _ _ _ _ _ _ _ (H1.out _ (((((Below.refl _ _).alloc (Nat.le_refl _) _).alloc (by simp) _).drew))) (H2.out _ (((((Below.refl _ _).alloc (Nat.le_refl _) _).alloc (by simp) _).drew)))).mono ?_;rintro e w2 ⟨hb2,b,rfl,hbi⟩;have hs2:wr.heap.size+1+1≤w2.heap.size:=by have:=hb2.size;simp at this;omega
       have HW2:=Lib.hid ((((((Below.refl _ _).alloc (Nat.le_refl _) _).alloc (by simp) _).drew)).trans (hb2.mono (by simp;omega)));have HBI:=Lib.hid hbi;have uw24:w2.cell? ⟨wr.heap.size,4,none⟩=some (.slice a2 n2 c2):=(hb2.cell (p:=⟨wr.heap.size,4,none⟩) (by simp <;> omega)).trans (by simp [go_sem]);have vw24:w2.cell? ⟨wr.heap.size+1,4,none⟩=some (.slice a2' n2' c2'):=(hb2.cell (p:=⟨wr.heap.size+1,4,none⟩) (by simp <;> omega)).trans (by simp [go_sem]);have uw25:w2.cell? ⟨wr.heap.size,5,none⟩=some (.slice a3 n3 c3):=(hb2.cell (p:=⟨wr.heap.size,5,none⟩) (by simp <;> omega)).trans (by simp [go_sem]);have vw25:w2.cell? ⟨wr.heap.size+1,5,none⟩=some (.slice a3' n3' c3'):=(hb2.cell (p:=⟨wr.heap.size+1,5,none⟩) (by simp <;> omega)).trans (by simp [go_sem]);clear hb2 hbi;cases b
       ·go_wp2_with fail;go_ret;refine⟨HB.out.trans (HW2.out.mono HB.out.size),false,rfl,?_⟩;simp;refine differ hlt hlt2 ?_;rw [HE1.out,HE2.out];intro e;injection e;exact absurd (HBI.out.2 ‹_›) (by decide)
       go_wp2_with fail;refine (IH.out _ _ _ _ _ _ _ _ _ (H3.out _ HW2.out) (H4.out _ HW2.out)).mono ?_;rintro e w3 ⟨hb3,b,rfl,hbj⟩;have HW3:=Lib.hid (HW2.out.trans (hb3.mono (by omega)));have HBJ:=Lib.hid hbj;have hs3:=hb3.size;have uw35:w3.cell? ⟨wr.heap.size,5,none⟩=some (.slice a3 n3 c3):=(hb3.cell (p:=⟨wr.heap.size,5,none⟩) (by show wr.heap.size<w2.heap.size;omega)).trans uw25;have vw35:w3.cell? ⟨wr.heap.size+1,5,none⟩=some (.slice a3' n3' c3'):=(hb3.cell (p:=⟨wr.heap.size+1,5,none⟩) (by show wr.heap.size+1<w2.heap.size;omega)).trans vw25;clear hb3 hbj uw24 uw25 vw24 vw25;cases b
       ·go_wp2_with fail;go_ret;refine⟨HB.out.trans (HW3.out.mono HB.out.size),false,rfl,?_⟩;simp;refine differ hlt hlt2 ?_;rw [HE1.out,HE2.out];intro e;injection e;exact absurd (HBJ.out.2 ‹_›) (by decide)
       go_wp2_with fail;refine (IH.out _ _ _ _ _ _ _ _ _ (H5.out _ HW3.out) (H6.out _ HW3.out)).mono ?_;rintro e w4 ⟨hb4,b,rfl,hbk⟩;have HW4:=Lib.hid (HW3.out.trans (hb4.mono (by omega)));have HBK:=Lib.hid hbk;clear hb4 hbk uw35 vw35;cases b
       ·go_wp2_with fail;go_ret;refine⟨HB.out.trans (HW4.out.mono HB.out.size),false,rfl,?_⟩;simp;refine differ hlt hlt2 ?_;rw [HE1.out,HE2.out];intro e;injection e;exact absurd (HBK.out.2 ‹_›) (by decide)
       go_wp2_with fail
       go_roundw
       case rel =>
        refine⟨j+1,by omega,by go_num,?_,HB.out.trans (HW4.out.mono HB.out.size)⟩;rw [List.take_succ_eq_append_getElem hlt,List.take_succ_eq_append_getElem hlt2,HPRE.out,HE1.out,HE2.out,HBI.out.1 (by simp),HBJ.out.1 (by simp),HBK.out.1 (by simp)]
       case measure=>simp [intOf];omega
      ·go_wp2_with fail;refine (ref_SameExprs d _ _ _ _ _ _ _ _ _ (H1.out _ (((((Below.refl _ _).alloc (Nat.le_refl _) _).alloc (by simp) _).drew))) (H2.out _ (((((Below.refl _ _).alloc (Nat.le_refl _) _).alloc (by simp) _).drew)))).mono ?_;rintro e w2 ⟨hb2,b,rfl,hbi⟩;have hs2:wr.heap.size+1+1≤w2.heap.size:=by have:=hb2.size;simp at this;omega
       have HW2:=Lib.hid ((((((Below.refl _ _).alloc (Nat.le_refl _) _).alloc (by simp) _).drew)).trans (hb2.mono (by simp;omega)));have HBI:=Lib.hid hbi;have uw24:w2.cell? ⟨wr.heap.size,4,none⟩=some (.slice a2' n2' c2'):=(hb2.cell (p:=⟨wr.heap.size,4,none⟩) (by simp <;> omega)).trans (by simp [go_sem]);have vw24:w2.cell? ⟨wr.heap.size+1,4,none⟩=some (.slice a2 n2 c2):=(hb2.cell (p:=⟨wr.heap.size+1,4,none⟩) (by simp <;> omega)).trans (by simp [go_sem]);have uw25:w2.cell? ⟨wr.heap.size,5,none⟩=some (.slice a3' n3' c3'):=(hb2.cell (p:=⟨wr.heap.size,5,none⟩) (by simp <;> omega)).trans (by simp [go_sem]);have vw25:w2.cell? ⟨wr.heap.size+1,5,none⟩=some (.slice a3 n3 c3):=(hb2.cell (p:=⟨wr.heap.size+1,5,none⟩) (by simp <;> omega)).trans (by simp [go_sem]);clear hb2 hbi;cases b
       ·go_wp2_with fail;go_ret;refine⟨HB.out.trans (HW2.out.mono HB.out.size),false,rfl,?_⟩;simp;refine differ hlt hlt2 ?_;rw [HE1.out,HE2.out];intro e;injection e;exact absurd (HBI.out.2 ‹_›) (by decide)
       go_wp2_with fail;refine (IH.out _ _ _ _ _ _ _ _ _ (H3.out _ HW2.out) (H4.out _ HW2.out)).mono ?_;rintro e w3 ⟨hb3,b,rfl,hbj⟩;have HW3:=Lib.hid (HW2.out.trans (hb3.mono (by omega)));have HBJ:=Lib.hid hbj;have hs3:=hb3.size;have uw35:w3.cell? ⟨wr.heap.size,5,none⟩=some (.slice a3' n3' c3'):=(hb3.cell (p:=⟨wr.heap.size,5,none⟩) (by show wr.heap.size<w2.heap.size;omega)).trans uw25;have vw35:w3.cell? ⟨wr.heap.size+1,5,none⟩=some (.slice a3 n3 c3):=(hb3.cell (p:=⟨wr.heap.size+1,5,none⟩) (by show wr.heap.size+1<w2.heap.size;omega)).trans vw25;clear hb3 hbj uw24 uw25 vw24 vw25;cases b
       ·go_wp2_with fail;go_ret;refine⟨HB.out.trans (HW3.out.mono HB.out.size),false,rfl,?_⟩;simp;refine differ hlt hlt2 ?_;rw [HE1.out,HE2.out];intro e;injection e;exact absurd (HBJ.out.2 ‹_›) (by decide)
       go_wp2_with fail;refine (IH.out _ _ _ _ _ _ _ _ _ (H5.out _ HW3.out) (H6.out _ HW3.out)).mono ?_;rintro e w4 ⟨hb4,b,rfl,hbk⟩;have HW4:=Lib.hid (HW3.out.trans (hb4.mono (by omega)));have HBK:=Lib.hid hbk;clear hb4 hbk uw35 vw35;cases b
       ·go_wp2_with fail;go_ret;refine⟨HB.out.trans (HW4.out.mono HB.out.size),false,rfl,?_⟩;simp;refine differ hlt hlt2 ?_;rw [HE1.out,HE2.out];intro e;injection e;exact absurd (HBK.out.2 ‹_›) (by decide)
       go_wp2_with fail
       go_roundw
       case rel =>
        refine⟨j+1,by omega,by go_num,?_,HB.out.trans (HW4.out.mono HB.out.size)⟩;rw [List.take_succ_eq_append_getElem hlt,List.take_succ_eq_append_getElem hlt2,HPRE.out,HE1.out,HE2.out,HBI.out.1 (by simp),HBJ.out.1 (by simp),HBK.out.1 (by simp)]
       case measure=>simp [intOf];omega
     ·have HB:=Lib.hid hb;clear hb;go_wp2_with fail;go_ret;refine⟨HB.out,true,rfl,?_⟩;simp only [true_iff];have hp:=HPRE.out;rw [List.take_of_length_le (by omega),List.take_of_length_le (by omega)] at hp;exact hp
   ·have hle:((l1.length:Int) != (l2.length:Int))=true:=by rw [bne_iff_ne];omega
    have HL:=Lib.hid hlen;clear hlen;go_enter Tryz.func62,Tryz.ntmps62;go_wp2_with fail;go_ret;exact⟨.refl _ _,false,rfl,by simp;intro h;exact HL.out (by rw [h])⟩
end
end Go.Proofs.YtmlafcimjhnhhaaGreatDoor
