/-
  ref09's faults of statements, walked (printed by genrfault2.py).
-/
import Derived.Test.YtmlafcimjhnhhaaDoorJmRefFaultE
set_option linter.unusedSectionVars false
set_option linter.unusedSimpArgs false
set_option linter.unnecessarySimpa false
set_option linter.unusedVariables false
namespace Go.Proofs.YtmlafcimjhnhhaaDoor
open Lx Go.RowKit
set_option linter.unusedSimpArgs false
theorem IsEx.kindEqR {A:Nat→Prop}{w:World}{d:Nat}{e:Ex}{k n:Int}{o m:ByteArray}{v:Value}(h:IsEx A w d e [.int .i64 k,.int .i64 n,.string o,.string m,v]):e.kind=k:=by
 cases d with
 | zero=>exact absurd h (by simp [IsEx])
 | succ d=>obtain⟨oo,mm,ks,rfl,_⟩:=h.flds;rfl
set_option maxHeartbeats 2000000 in
theorem ref_Faults (d:Nat):∀ (l:List Ex) (a:Option Addr) (n c:Nat) (w:World),IsList Any w 5 (IsEx Any w d) l (.slice a n c)→(∀ x∈l,ExB d x) →
  Calls Tryd.prog 77 #[.slice a n c] w fun r w'=>r=.returned (.int .i64 (exsFault l:Int))∧Below w.heap.size w w':=by
 induction d with
 | zero =>
   intro l a n c w h hB;obtain⟨rfl,hm,hat⟩:=h.exAt;cases l with
   | cons x l=>exact absurd (hB x (by simp)) (by simp [ExB])
   | nil =>
     clear h hat hB;go_enter Tryd.func77,Tryd.ntmps77;go_wp2_with fail
     go_loopw [3] (fun i wr=>LimRelF exFault [] w i wr) (fun i _=>0-(intOf i).toNat)
     case atStart=>exact⟨0,Nat.zero_le _,rfl,fun k hk=>by omega,.refl _ _⟩
     case round =>
      obtain⟨j,hj,rfl,h0,hb⟩:=hrel;obtain rfl:j=0:=by simpa using hj
      have HB:=Lib.hid hb;clear hb h0;go_wp2_with fail;go_ret;exact⟨rfl,HB.out⟩
 | succ d ih =>
   intro l a n c w h hB;obtain⟨rfl,hm,hat⟩:=h.exAt;unfold maxLen at hm;have HAT:=Lib.hid hat;have HBX:=Lib.hid hB;have IH:=Lib.hid ih;have HR:=Lib.hid (exsFault_first l);clear h hat hB ih;go_enter Tryd.func77,Tryd.ntmps77;go_wp2_with fail
   go_loopw [3] (fun i wr=>LimRelF exFault l w i wr) (fun i _=>l.length-(intOf i).toNat)
   case atStart=>exact⟨0,Nat.zero_le _,rfl,fun k hk=>by omega,.refl _ _⟩
   case round =>
    obtain⟨j,hj,rfl,h0,hb⟩:=hrel;have H0:=Lib.hid h0;clear h0
    by_cases hlt:j<l.length
    ·obtain⟨g,off,k1,m1,o1,nm1,a1,n1,c1,rfl,hgl,x0,x1,x2,x3,x4,hx⟩:=HAT.out j hlt;rw [← hb.cell (p:=⟨g,_,none⟩) hgl] at x0 x1 x2 x3 x4;have hgw:g<wr.heap.size:=Nat.lt_of_lt_of_le hgl hb.size;obtain⟨oo,mm,ks,he,rfl,rfl,hl⟩:=(IsEx.kept (kept_any hb) _ _ _ hx).flds;have hbx:=HBX.out _ (List.getElem_mem hlt);rw [he] at hbx;obtain⟨_,_,hoo,hmm,hks⟩:=hbx;obtain rfl:=hl.len.1;have HKL:=Lib.hid hl.len.2;have H1:Hid (∀ x,Below wr.heap.size wr x→IsList Any x 5 (IsEx Any x d) ks (.slice a1 ks.length c1)):=fun x hx=>hl.kept (kept_any hx) (by omega) fun _ _ _=>IsEx.kept (kept_any hx) _ _ _
     have HE:=Lib.hid he;have Boo:=Lib.hid hoo;have Bmm:=Lib.hid hmm;have BK:=Lib.hid hks;have HB:=Lib.hid hb;have X4:=Lib.hid x4;have hj1:(j:Int)<(l.length:Int):=by omega
     have hj0:(0:Int)≤(j:Int):=by omega
     clear hb hx hl hoo hmm hks he;go_wp2_with fail;refine (ref_own _ _ _ _ _ _ _ _ HKL.out Boo.out Bmm.out).mono ?_;rintro e w2 ⟨rfl,hb2⟩;have HB2:=Lib.hid hb2;have z4:w2.cell? ⟨g,off+j*5+4,none⟩=some (.slice a1 ks.length c1):=(hb2.cell (p:=⟨g,off+j*5+4,none⟩) hgw).trans X4.out;have hgw2:g<w2.heap.size:=Nat.lt_of_lt_of_le hgw hb2.size;clear hb2 x0 x1 x2 x3 x4
     by_cases hz:ownFault k1 m1 oo mm ks.length=0
     rotate_left
     ·have hz0:(((ownFault k1 m1 oo mm ks.length:Nat):Int) == 0)=false:=by rw [beq_eq_false_iff_ne];omega
      have hz1:(((ownFault k1 m1 oo mm ks.length:Nat):Int) != 0)=true:=by rw [bne,hz0];rfl
      have HZ:Hid (exFault l[j]=ownFault k1 m1 oo mm ks.length):=by show _=_;rw [HE.out,exFault,if_pos hz]
      have HN:=Lib.hid hz;clear hz;go_wp2_with fail;go_ret;refine⟨?_,HB.out.trans (HB2.out.mono HB.out.size)⟩;rw [HR.out,firstLim_take _ _ j hlt H0.out,HZ.out,if_pos HN.out];rfl
     have HZ:Hid (exFault l[j]=exsFault ks):=by show _=_;rw [HE.out,exFault,if_neg (by rw [hz];simp)]
     have hz0:(((ownFault k1 m1 oo mm ks.length:Nat):Int) == 0)=true:=by rw [hz];rfl
     clear hz;go_wp2_with fail;refine (IH.out _ _ _ _ _ (H1.out _ HB2.out) BK.out).mono ?_;rintro e w3 ⟨rfl,hb3⟩;have HB3:=Lib.hid (HB.out.trans ((HB2.out.trans (hb3.mono HB2.out.size)).mono HB.out.size));clear hb3 z4
     by_cases hy:exsFault ks=0
     ·have HY:=Lib.hid hy;have hy1:(((exsFault ks:Nat):Int) != 0)=false:=by rw [hy];rfl
      clear hy;go_wp2_with fail
      go_roundw
      case rel =>
       refine⟨j+1,by omega,by go_num,fun k hk=>?_,HB3.out⟩
       by_cases hkj:k<j
       ·exact H0.out k hkj
       ·obtain rfl:k=j:=by omega
        rw [HZ.out];exact HY.out
      case measure=>simp [intOf];omega
     ·have hy1:(((exsFault ks:Nat):Int) != 0)=true:=by rw [bne,beq_eq_false_iff_ne.2 (by omega)];rfl
      have HY:=Lib.hid hy;clear hy;go_wp2_with fail;go_ret;refine⟨?_,HB3.out⟩;rw [HR.out,firstLim_take _ _ j hlt H0.out,HZ.out,if_pos HY.out];rfl
    ·have HB:=Lib.hid hb;clear hb;go_wp2_with fail;go_ret;refine⟨?_,HB.out⟩;rw [HR.out,firstLim_zero _ _ fun i hi=>H0.out i (by omega)];rfl
set_option maxHeartbeats 1000000 in
theorem ref_exprs (k:Int)(o m:ByteArray)(a:Option Addr)(l c:Nat)(aa:Option Addr)(ll cc:Nat)(ab:Option Addr)(lb cb:Nat)(w:World) :
  Calls Tryd.prog 76 #[.agg #[.int .i64 k,.string o,.string m,.slice a l c,.slice aa ll cc,.slice ab lb cb]] w fun r w'=>r=.returned (.bool (exprsOk k l))∧Below w.heap.size w w':=by
 by_cases hk1:k=1
 ·subst hk1
  by_cases h:l≤1
  ·have q:(l:Int)≤1:=by omega
   have HR:Hid (exprsOk 1 l=true):=by show _=_;simp [exprsOk,h]
   clear h;go_enter Tryd.func76,Tryd.ntmps76;go_wp2_with fail;go_ret;exact⟨by rw [HR.out];rfl,((Below.refl _ _).alloc (Nat.le_refl _) _)⟩
  ·have q:decide ((l:Int)≤1)=false:=by rw [decide_eq_false_iff_not];omega
   have HR:Hid (exprsOk 1 l=false):=by show _=_;simp [exprsOk,h]
   clear h;go_enter Tryd.func76,Tryd.ntmps76;go_wp2_with fail;go_ret;exact⟨by rw [HR.out];rfl,((Below.refl _ _).alloc (Nat.le_refl _) _)⟩
 by_cases hk8:k=8
 ·subst hk8
  by_cases h:l≤1
  ·have q:(l:Int)≤1:=by omega
   have HR:Hid (exprsOk 8 l=true):=by show _=_;simp [exprsOk,h]
   clear h;go_enter Tryd.func76,Tryd.ntmps76;go_wp2_with fail;go_ret;exact⟨by rw [HR.out];rfl,((Below.refl _ _).alloc (Nat.le_refl _) _)⟩
  ·have q:decide ((l:Int)≤1)=false:=by rw [decide_eq_false_iff_not];omega
   have HR:Hid (exprsOk 8 l=false):=by show _=_;simp [exprsOk,h]
   clear h;go_enter Tryd.func76,Tryd.ntmps76;go_wp2_with fail;go_ret;exact⟨by rw [HR.out];rfl,((Below.refl _ _).alloc (Nat.le_refl _) _)⟩
 by_cases hk3:k=3
 ·subst hk3
  by_cases h:l=2
  ·have q:((l:Int) == 2)=true:=by rw [beq_iff_eq];omega
   have HR:Hid (exprsOk 3 l=true):=by show _=_;simp [exprsOk,h]
   clear h;go_enter Tryd.func76,Tryd.ntmps76;go_wp2_with fail;go_ret;exact⟨by rw [HR.out];rfl,((Below.refl _ _).alloc (Nat.le_refl _) _)⟩
  ·have q:((l:Int) == 2)=false:=by rw [beq_eq_false_iff_ne];omega
   have HR:Hid (exprsOk 3 l=false):=by show _=_;simp [exprsOk,h]
   clear h;go_enter Tryd.func76,Tryd.ntmps76;go_wp2_with fail;go_ret;exact⟨by rw [HR.out];rfl,((Below.refl _ _).alloc (Nat.le_refl _) _)⟩
 by_cases hk6:k=6
 ·subst hk6
  by_cases h:l=0
  ·have q:((l:Int) == 0)=true:=by rw [beq_iff_eq];omega
   have HR:Hid (exprsOk 6 l=true):=by show _=_;simp [exprsOk,h]
   clear h;go_enter Tryd.func76,Tryd.ntmps76;go_wp2_with fail;go_ret;exact⟨by rw [HR.out];rfl,((Below.refl _ _).alloc (Nat.le_refl _) _)⟩
  ·have q:((l:Int) == 0)=false:=by rw [beq_eq_false_iff_ne];omega
   have HR:Hid (exprsOk 6 l=false):=by show _=_;simp [exprsOk,h]
   clear h;go_enter Tryd.func76,Tryd.ntmps76;go_wp2_with fail;go_ret;exact⟨by rw [HR.out];rfl,((Below.refl _ _).alloc (Nat.le_refl _) _)⟩
 have q1:(k == 1)=false:=by rw [beq_eq_false_iff_ne];exact hk1
 have q8:(k == 8)=false:=by rw [beq_eq_false_iff_ne];exact hk8
 have q3:(k == 3)=false:=by rw [beq_eq_false_iff_ne];exact hk3
 have q6:(k == 6)=false:=by rw [beq_eq_false_iff_ne];exact hk6
 by_cases h:l=1
 ·have q:((l:Int) == 1)=true:=by rw [beq_iff_eq];omega
  have HR:Hid (exprsOk k l=true):=by show _=_;simp [exprsOk,h,hk1,hk8,hk3,hk6]
  clear h;go_enter Tryd.func76,Tryd.ntmps76;go_wp2_with fail;go_ret;exact⟨by rw [HR.out];rfl,((Below.refl _ _).alloc (Nat.le_refl _) _)⟩
 ·have q:((l:Int) == 1)=false:=by rw [beq_eq_false_iff_ne];omega
  have HR:Hid (exprsOk k l=false):=by show _=_;simp [exprsOk,h,hk1,hk8,hk3,hk6]
  clear h;go_enter Tryd.func76,Tryd.ntmps76;go_wp2_with fail;go_ret;exact⟨by rw [HR.out];rfl,((Below.refl _ _).alloc (Nat.le_refl _) _)⟩
set_option maxHeartbeats 2000000 in
theorem ref_stmts (d:Nat)(hK:Hid (∀ (e:St) (k:Int) (o m:ByteArray) (a:Option Addr) (l c:Nat) (aa:Option Addr) (ll cc:Nat) (ab:Option Addr) (lb cb:Nat) (w:World),IsSt Any w d e [.int .i64 k,.string o,.string m,.slice a l c,.slice aa ll cc,.slice ab lb cb]→StB d e→Calls Tryd.prog 71 #[.agg #[.int .i64 k,.string o,.string m,.slice a l c,.slice aa ll cc,.slice ab lb cb]] w fun r w'=>r=.returned (.int .i64 (stFault e:Int))∧Below w.heap.size w w'))(l:List St)(a:Option Addr)(n c:Nat)(w:World)(h:IsList Any w 6 (IsSt Any w d) l (.slice a n c))(hB:∀ x∈l,StB d x) :
  Calls Tryd.prog 55 #[.slice a n c] w fun r w'=>r=.returned (.int .i64 (stsFault l:Int))∧Below w.heap.size w w':=by
 obtain⟨rfl,hm,hat⟩:=h.stAt;unfold maxLen at hm;have HAT:=Lib.hid hat;have HBX:=Lib.hid hB;have HR:=Lib.hid (stsFault_first l);clear h hat hB;go_enter Tryd.func55,Tryd.ntmps55;go_wp2_with fail
 go_loopw [3] (fun i wr=>LimRelF stFault l w i wr) (fun i _=>l.length-(intOf i).toNat)
 case atStart=>exact⟨0,Nat.zero_le _,rfl,fun k hk=>by omega,.refl _ _⟩
 case round =>
  obtain⟨j,hj,rfl,h0,hb⟩:=hrel;have H0:=Lib.hid h0;clear h0
  by_cases hlt:j<l.length
  ·obtain⟨g,off,k1,s1,t1,e1,r1,q1,a2,n2,c2,a3,n3,c3,rfl,hgl,⟨x0,x1,x2,x3,x4,x5⟩,hx⟩:=HAT.out j hlt;rw [← hb.cell (p:=⟨g,_,none⟩) hgl] at x0 x1 x2 x3 x4 x5;have hgw:g<wr.heap.size:=Nat.lt_of_lt_of_le hgl hb.size;have hx2:=IsSt.kept (kept_any hb) _ _ _ hx;have HX:=Lib.hid hx2;have HB:=Lib.hid hb;have hj1:(j:Int)<(l.length:Int):=by omega
   have hj0:(0:Int)≤(j:Int):=by omega
   clear hb hx hx2;go_wp2_with fail;refine (hK.out _ _ _ _ _ _ _ _ _ _ _ _ _ _ HX.out (HBX.out _ (List.getElem_mem hlt))).mono ?_;rintro e w3 ⟨rfl,hb3⟩;have HB3:=Lib.hid (HB.out.trans (hb3.mono HB.out.size));clear hb3 x0 x1 x2 x3 x4 x5
   by_cases hz:stFault l[j]=0
   ·have HZ:=Lib.hid hz;have hz1:(((stFault l[j]:Nat):Int) != 0)=false:=by rw [hz];rfl
    clear hz;go_wp2_with fail
    go_roundw
    case rel =>
     refine⟨j+1,by omega,by go_num,fun k hk=>?_,HB3.out⟩
     by_cases hkj:k<j
     ·exact H0.out k hkj
     ·obtain rfl:k=j:=by omega
      exact HZ.out
    case measure=>simp [intOf];omega
   ·have hz1:(((stFault l[j]:Nat):Int) != 0)=true:=by rw [bne,beq_eq_false_iff_ne.2 (by omega)];rfl
    have HZ:=Lib.hid hz;clear hz;go_wp2_with fail;go_ret;refine⟨?_,HB3.out⟩;rw [HR.out,firstLim_take _ _ j hlt H0.out,if_pos HZ.out];rfl
  ·have HB:=Lib.hid hb;clear hb;go_wp2_with fail;go_ret;refine⟨?_,HB.out⟩;rw [HR.out,firstLim_zero _ _ fun i hi=>H0.out i (by omega)];rfl
set_option maxHeartbeats 8000000 in
theorem ref_stmt (d:Nat):∀ (e:St) (k:Int) (o m:ByteArray) (a:Option Addr) (l c:Nat) (aa:Option Addr) (ll cc:Nat) (ab:Option Addr) (lb cb:Nat) (w:World),IsSt Any w d e [.int .i64 k,.string o,.string m,.slice a l c,.slice aa ll cc,.slice ab lb cb]→StB d e→Calls Tryd.prog 71 #[.agg #[.int .i64 k,.string o,.string m,.slice a l c,.slice aa ll cc,.slice ab lb cb]] w fun r w'=>r=.returned (.int .i64 (stFault e:Int))∧Below w.heap.size w w':=by
 induction d with
 | zero=>intro e k o m a l c aa ll cc ab lb cb w h;exact absurd h (by simp [IsSt])
 | succ d ih =>
   intro e k o m a l c aa ll cc ab lb cb w h hB;obtain⟨nn,tt,es,bd,el,rfl,rfl,rfl,hl1,hl2,hl3⟩:=h.flds;obtain⟨rfl,hkl,hat⟩:=hl1.exAt;obtain rfl:=hl2.len.1;obtain rfl:=hl3.len.1;have hbl:=hl2.len.2;have hel:=hl3.len.2;unfold maxLen at hkl hbl hel;obtain⟨_,hnn,htt,hes,hbd,hll⟩:=hB;have HAT:=Lib.hid hat;have H1:Hid (∀ x,Below w.heap.size w x→IsList Any x 5 (IsEx Any x d) es (.slice a es.length c)):=fun x hx=>hl1.kept (kept_any hx) (by omega) fun _ _ _=>IsEx.kept (kept_any hx) _ _ _
   have H2:Hid (∀ x,Below w.heap.size w x→IsList Any x 6 (IsSt Any x d) bd (.slice aa bd.length cc)):=fun x hx=>hl2.kept (kept_any hx) (by omega) fun _ _ _=>IsSt.kept (kept_any hx) _ _ _
   have H3:Hid (∀ x,Below w.heap.size w x→IsList Any x 6 (IsSt Any x d) el (.slice ab el.length cb)):=fun x hx=>hl3.kept (kept_any hx) (by omega) fun _ _ _=>IsSt.kept (kept_any hx) _ _ _
   have Bnn:=Lib.hid hnn;have Btt:=Lib.hid htt;have BE:=Lib.hid hes;have BB:=Lib.hid hbd;have BL:=Lib.hid hll;have IH:=Lib.hid ih;clear h hl1 hl2 hl3 hnn htt hes hbd hll ih hat
   by_cases hk1:k=1
   ·subst hk1
    by_cases hb:0<bd.length
    ·skip
     have HO:Hid (stOwn 1 nn tt es.length bd.length el.length=1):=by show _=_;simp [stOwn,namedS,typedS,bodiedS,hb]
     have HR:Hid (stFault (.mk 1 nn tt es bd el)=1):=by show _=_;rw [stFault,HO.out];rfl
     go_enter Tryd.func71,Tryd.ntmps71;go_wp2_with fail;go_ret;exact⟨by rw [HR.out];rfl,((Below.refl _ _).alloc (Nat.le_refl _) _)⟩
    have hbz:bd.length=0:=by omega
    have LZbd:=Lib.hid hbz;clear hbz
    by_cases hl:0<el.length
    ·skip
     have HO:Hid (stOwn 1 nn tt es.length bd.length el.length=1):=by show _=_;simp [stOwn,namedS,typedS,bodiedS,LZbd.out,hl]
     have HR:Hid (stFault (.mk 1 nn tt es bd el)=1):=by show _=_;rw [stFault,HO.out];rfl
     go_enter Tryd.func71,Tryd.ntmps71;go_wp2_with fail;go_ret;exact⟨by rw [HR.out];rfl,((Below.refl _ _).alloc (Nat.le_refl _) _)⟩
    have hlz:el.length=0:=by omega
    have LZel:=Lib.hid hlz;clear hlz;cases hx:exprsOk 1 es.length
    ·have HO:Hid (stOwn 1 nn tt es.length bd.length el.length=1):=by show _=_;simp [stOwn,namedS,typedS,bodiedS,LZbd.out,LZel.out,hx]
     have HR:Hid (stFault (.mk 1 nn tt es bd el)=1):=by show _=_;rw [stFault,HO.out];rfl
     go_enter Tryd.func71,Tryd.ntmps71;go_wp2_with fail;refine (ref_exprs _ _ _ _ _ _ _ _ _ _ _ _ _).mono ?_;rintro e w2 ⟨rfl,hb9⟩;have HB2:=Lib.hid (((Below.refl _ _).alloc (Nat.le_refl _) _).trans (hb9.mono (by simp)));have hs2:w.heap.size<w2.heap.size:=by have:=hb9.size;simp at this;omega
     clear hb9;go_wp2_with fail;go_ret;exact⟨by rw [HR.out];rfl,HB2.out⟩
    have HX:=Lib.hid hx;go_enter Tryd.func71,Tryd.ntmps71;go_wp2_with fail;refine (ref_exprs _ _ _ _ _ _ _ _ _ _ _ _ _).mono ?_;rintro e w2 ⟨rfl,hb9⟩;have HB2:=Lib.hid (((Below.refl _ _).alloc (Nat.le_refl _) _).trans (hb9.mono (by simp)));have hs2:w.heap.size<w2.heap.size:=by have:=hb9.size;simp at this;omega
    have u21:w2.cell? ⟨w.heap.size,1,none⟩=some (.string (strOf nn)):=(hb9.cell (p:=⟨w.heap.size,1,none⟩) (by simp)).trans (by simp [go_sem]);have u22:w2.cell? ⟨w.heap.size,2,none⟩=some (.string (strOf tt)):=(hb9.cell (p:=⟨w.heap.size,2,none⟩) (by simp)).trans (by simp [go_sem]);have u23:w2.cell? ⟨w.heap.size,3,none⟩=some (.slice a es.length c):=(hb9.cell (p:=⟨w.heap.size,3,none⟩) (by simp)).trans (by simp [go_sem]);have u24:w2.cell? ⟨w.heap.size,4,none⟩=some (.slice aa bd.length cc):=(hb9.cell (p:=⟨w.heap.size,4,none⟩) (by simp)).trans (by simp [go_sem]);have u25:w2.cell? ⟨w.heap.size,5,none⟩=some (.slice ab el.length cb):=(hb9.cell (p:=⟨w.heap.size,5,none⟩) (by simp)).trans (by simp [go_sem]);clear hb9;cases hInn:isIdent nn
    ·have HO:Hid (stOwn 1 nn tt es.length bd.length el.length=5):=by show _=_;simp [stOwn,namedS,typedS,bodiedS,LZbd.out,LZel.out,HX.out,hInn]
     have HR:Hid (stFault (.mk 1 nn tt es bd el)=5):=by show _=_;rw [stFault,HO.out];rfl
     rw [← strOf_data nn] at hInn;go_wp2_with fail;refine (ref_Ident _ _ (by rw [strOf_size];exact Bnn.out)).mono ?_;rintro e w3 ⟨rfl,hb9⟩;have HB3:=Lib.hid (HB2.out.trans (hb9.mono HB2.out.size));have hs3:w.heap.size<w3.heap.size:=Nat.lt_of_lt_of_le hs2 hb9.size;clear hb9 u21 u22 u23 u24 u25;go_wp2_with fail;go_ret;exact⟨by rw [HR.out];rfl,HB3.out⟩
    have HInn:=Lib.hid hInn;rw [← strOf_data nn] at hInn;go_wp2_with fail;refine (ref_Ident _ _ (by rw [strOf_size];exact Bnn.out)).mono ?_;rintro e w3 ⟨rfl,hb9⟩;have HB3:=Lib.hid (HB2.out.trans (hb9.mono HB2.out.size));have hs3:w.heap.size<w3.heap.size:=Nat.lt_of_lt_of_le hs2 hb9.size;have u31:w3.cell? ⟨w.heap.size,1,none⟩=some (.string (strOf nn)):=(hb9.cell (p:=⟨w.heap.size,1,none⟩) hs2).trans u21;have u32:w3.cell? ⟨w.heap.size,2,none⟩=some (.string (strOf tt)):=(hb9.cell (p:=⟨w.heap.size,2,none⟩) hs2).trans u22;have u33:w3.cell? ⟨w.heap.size,3,none⟩=some (.slice a es.length c):=(hb9.cell (p:=⟨w.heap.size,3,none⟩) hs2).trans u23;have u34:w3.cell? ⟨w.heap.size,4,none⟩=some (.slice aa bd.length cc):=(hb9.cell (p:=⟨w.heap.size,4,none⟩) hs2).trans u24;have u35:w3.cell? ⟨w.heap.size,5,none⟩=some (.slice ab el.length cb):=(hb9.cell (p:=⟨w.heap.size,5,none⟩) hs2).trans u25;clear hb9 u21 u22 u23 u24 u25;cases hItt:isType tt
    ·have HO:Hid (stOwn 1 nn tt es.length bd.length el.length=8):=by show _=_;simp [stOwn,namedS,typedS,bodiedS,LZbd.out,LZel.out,HX.out,HInn.out,hItt]
     have HR:Hid (stFault (.mk 1 nn tt es bd el)=8):=by show _=_;rw [stFault,HO.out];rfl
     go_wp2_with fail;refine (ref_typ _ _ Btt.out).mono ?_;rintro e w4 ⟨rfl,hb9⟩;have HB4:=Lib.hid (HB3.out.trans (hb9.mono HB3.out.size));have hs4:w.heap.size<w4.heap.size:=Nat.lt_of_lt_of_le hs3 hb9.size;clear hb9 u31 u32 u33 u34 u35;go_wp2_with fail;go_ret;exact⟨by rw [HR.out];rfl,HB4.out⟩
    have HItt:=Lib.hid hItt;go_wp2_with fail;refine (ref_typ _ _ Btt.out).mono ?_;rintro e w4 ⟨rfl,hb9⟩;have HB4:=Lib.hid (HB3.out.trans (hb9.mono HB3.out.size));have hs4:w.heap.size<w4.heap.size:=Nat.lt_of_lt_of_le hs3 hb9.size;have u41:w4.cell? ⟨w.heap.size,1,none⟩=some (.string (strOf nn)):=(hb9.cell (p:=⟨w.heap.size,1,none⟩) hs3).trans u31;have u42:w4.cell? ⟨w.heap.size,2,none⟩=some (.string (strOf tt)):=(hb9.cell (p:=⟨w.heap.size,2,none⟩) hs3).trans u32;have u43:w4.cell? ⟨w.heap.size,3,none⟩=some (.slice a es.length c):=(hb9.cell (p:=⟨w.heap.size,3,none⟩) hs3).trans u33;have u44:w4.cell? ⟨w.heap.size,4,none⟩=some (.slice aa bd.length cc):=(hb9.cell (p:=⟨w.heap.size,4,none⟩) hs3).trans u34;have u45:w4.cell? ⟨w.heap.size,5,none⟩=some (.slice ab el.length cb):=(hb9.cell (p:=⟨w.heap.size,5,none⟩) hs3).trans u35;clear hb9 u31 u32 u33 u34 u35;have HO:Hid (stOwn 1 nn tt es.length bd.length el.length=0):=by show _=_;simp [stOwn,namedS,typedS,bodiedS,LZbd.out,LZel.out,HX.out,HInn.out,HItt.out]
    go_wp2_with fail;refine (ref_Faults d _ _ _ _ _ (H1.out _ HB4.out) BE.out).mono ?_;rintro e w5 ⟨rfl,hb9⟩;have HB5:=Lib.hid (HB4.out.trans (hb9.mono HB4.out.size));have hs5:w.heap.size<w5.heap.size:=Nat.lt_of_lt_of_le hs4 hb9.size;have u53:w5.cell? ⟨w.heap.size,3,none⟩=some (.slice a es.length c):=(hb9.cell (p:=⟨w.heap.size,3,none⟩) hs4).trans u43;have u54:w5.cell? ⟨w.heap.size,4,none⟩=some (.slice aa bd.length cc):=(hb9.cell (p:=⟨w.heap.size,4,none⟩) hs4).trans u44;have u55:w5.cell? ⟨w.heap.size,5,none⟩=some (.slice ab el.length cb):=(hb9.cell (p:=⟨w.heap.size,5,none⟩) hs4).trans u45;clear hb9 u41 u42 u43 u44 u45
    by_cases hz:exsFault es=0
    rotate_left
    ·have hz1:(((exsFault es:Nat):Int) != 0)=true:=by rw [bne,beq_eq_false_iff_ne.2 (by omega)];rfl
     have HR:Hid (stFault (.mk 1 nn tt es bd el)=exsFault es):=by show _=_;rw [stFault,HO.out,if_neg (by simp),if_pos hz]
     clear hz;go_wp2_with fail;go_ret;exact⟨by rw [HR.out];rfl,HB5.out⟩
    have hz1:(((exsFault es:Nat):Int) != 0)=false:=by rw [hz];rfl
    have HZ:=Lib.hid hz;clear hz;have HC:Hid (¬ ((1:Int)=9∧headKind es≠9∧headKind es≠10)):=by show ¬ _;omega
    go_wp2_with fail;refine (ref_stmts d (Lib.hid IH.out) _ _ _ _ _ (H2.out _ HB5.out) BB.out).mono ?_;rintro e w6 ⟨rfl,hb9⟩;have HB6:=Lib.hid (HB5.out.trans (hb9.mono HB5.out.size));have hs6:w.heap.size<w6.heap.size:=Nat.lt_of_lt_of_le hs5 hb9.size;have u65:w6.cell? ⟨w.heap.size,5,none⟩=some (.slice ab el.length cb):=(hb9.cell (p:=⟨w.heap.size,5,none⟩) hs5).trans u55;clear hb9 u53 u54 u55
    by_cases hy:stsFault bd=0
    rotate_left
    ·have hy1:(((stsFault bd:Nat):Int) != 0)=true:=by rw [bne,beq_eq_false_iff_ne.2 (by omega)];rfl
     have HR:Hid (stFault (.mk 1 nn tt es bd el)=stsFault bd):=by show _=_;rw [stFault,HO.out,if_neg (by simp),if_neg (by rw [HZ.out];simp),if_neg HC.out,if_pos hy]
     clear hy;go_wp2_with fail;go_ret;exact⟨by rw [HR.out];rfl,HB6.out⟩
    have hy1:(((stsFault bd:Nat):Int) != 0)=false:=by rw [hy];rfl
    have HR:Hid (stFault (.mk 1 nn tt es bd el)=stsFault el):=by show _=_;rw [stFault,HO.out,if_neg (by simp),if_neg (by rw [HZ.out];simp),if_neg HC.out,if_neg (by rw [hy];simp)]
    clear hy;go_wp2_with fail;refine (ref_stmts d (Lib.hid IH.out) _ _ _ _ _ (H3.out _ HB6.out) BL.out).mono ?_;rintro e w7 ⟨rfl,hb9⟩;have HB7:=Lib.hid (HB6.out.trans (hb9.mono HB6.out.size));have hs7:w.heap.size<w7.heap.size:=Nat.lt_of_lt_of_le hs6 hb9.size;clear hb9 u65;go_wp2_with fail;go_ret;exact⟨by rw [HR.out];rfl,HB7.out⟩
   by_cases hk2:k=2
   ·subst hk2
    by_cases htt:tt=[]
    rotate_left
    ·have ett:=isEmpty_pos (strOf tt) (by rw [strOf_size];exact List.length_pos_iff.2 htt);have HO:Hid (stOwn 2 nn tt es.length bd.length el.length=1):=by show _=_;simp [stOwn,namedS,typedS,bodiedS,htt]
     have HR:Hid (stFault (.mk 2 nn tt es bd el)=1):=by show _=_;rw [stFault,HO.out];rfl
     go_enter Tryd.func71,Tryd.ntmps71;go_wp2_with fail;go_ret;exact⟨by rw [HR.out];rfl,((Below.refl _ _).alloc (Nat.le_refl _) _)⟩
    have ett:=isEmpty_zero (strOf tt) (by rw [strOf_size,htt];rfl);have Htt:=Lib.hid htt;clear htt
    by_cases hb:0<bd.length
    ·skip
     have HO:Hid (stOwn 2 nn tt es.length bd.length el.length=1):=by show _=_;simp [stOwn,namedS,typedS,bodiedS,Htt.out,hb]
     have HR:Hid (stFault (.mk 2 nn tt es bd el)=1):=by show _=_;rw [stFault,HO.out];rfl
     go_enter Tryd.func71,Tryd.ntmps71;go_wp2_with fail;go_ret;exact⟨by rw [HR.out];rfl,((Below.refl _ _).alloc (Nat.le_refl _) _)⟩
    have hbz:bd.length=0:=by omega
    have LZbd:=Lib.hid hbz;clear hbz
    by_cases hl:0<el.length
    ·skip
     have HO:Hid (stOwn 2 nn tt es.length bd.length el.length=1):=by show _=_;simp [stOwn,namedS,typedS,bodiedS,Htt.out,LZbd.out,hl]
     have HR:Hid (stFault (.mk 2 nn tt es bd el)=1):=by show _=_;rw [stFault,HO.out];rfl
     go_enter Tryd.func71,Tryd.ntmps71;go_wp2_with fail;go_ret;exact⟨by rw [HR.out];rfl,((Below.refl _ _).alloc (Nat.le_refl _) _)⟩
    have hlz:el.length=0:=by omega
    have LZel:=Lib.hid hlz;clear hlz;cases hx:exprsOk 2 es.length
    ·have HO:Hid (stOwn 2 nn tt es.length bd.length el.length=1):=by show _=_;simp [stOwn,namedS,typedS,bodiedS,Htt.out,LZbd.out,LZel.out,hx]
     have HR:Hid (stFault (.mk 2 nn tt es bd el)=1):=by show _=_;rw [stFault,HO.out];rfl
     go_enter Tryd.func71,Tryd.ntmps71;go_wp2_with fail;refine (ref_exprs _ _ _ _ _ _ _ _ _ _ _ _ _).mono ?_;rintro e w2 ⟨rfl,hb9⟩;have HB2:=Lib.hid (((Below.refl _ _).alloc (Nat.le_refl _) _).trans (hb9.mono (by simp)));have hs2:w.heap.size<w2.heap.size:=by have:=hb9.size;simp at this;omega
     clear hb9;go_wp2_with fail;go_ret;exact⟨by rw [HR.out];rfl,HB2.out⟩
    have HX:=Lib.hid hx;go_enter Tryd.func71,Tryd.ntmps71;go_wp2_with fail;refine (ref_exprs _ _ _ _ _ _ _ _ _ _ _ _ _).mono ?_;rintro e w2 ⟨rfl,hb9⟩;have HB2:=Lib.hid (((Below.refl _ _).alloc (Nat.le_refl _) _).trans (hb9.mono (by simp)));have hs2:w.heap.size<w2.heap.size:=by have:=hb9.size;simp at this;omega
    have u21:w2.cell? ⟨w.heap.size,1,none⟩=some (.string (strOf nn)):=(hb9.cell (p:=⟨w.heap.size,1,none⟩) (by simp)).trans (by simp [go_sem]);have u22:w2.cell? ⟨w.heap.size,2,none⟩=some (.string (strOf tt)):=(hb9.cell (p:=⟨w.heap.size,2,none⟩) (by simp)).trans (by simp [go_sem]);have u23:w2.cell? ⟨w.heap.size,3,none⟩=some (.slice a es.length c):=(hb9.cell (p:=⟨w.heap.size,3,none⟩) (by simp)).trans (by simp [go_sem]);have u24:w2.cell? ⟨w.heap.size,4,none⟩=some (.slice aa bd.length cc):=(hb9.cell (p:=⟨w.heap.size,4,none⟩) (by simp)).trans (by simp [go_sem]);have u25:w2.cell? ⟨w.heap.size,5,none⟩=some (.slice ab el.length cb):=(hb9.cell (p:=⟨w.heap.size,5,none⟩) (by simp)).trans (by simp [go_sem]);clear hb9;cases hInn:isIdent nn
    ·have HO:Hid (stOwn 2 nn tt es.length bd.length el.length=5):=by show _=_;simp [stOwn,namedS,typedS,bodiedS,Htt.out,LZbd.out,LZel.out,HX.out,hInn]
     have HR:Hid (stFault (.mk 2 nn tt es bd el)=5):=by show _=_;rw [stFault,HO.out];rfl
     rw [← strOf_data nn] at hInn;go_wp2_with fail;refine (ref_Ident _ _ (by rw [strOf_size];exact Bnn.out)).mono ?_;rintro e w3 ⟨rfl,hb9⟩;have HB3:=Lib.hid (HB2.out.trans (hb9.mono HB2.out.size));have hs3:w.heap.size<w3.heap.size:=Nat.lt_of_lt_of_le hs2 hb9.size;clear hb9 u21 u22 u23 u24 u25;go_wp2_with fail;go_ret;exact⟨by rw [HR.out];rfl,HB3.out⟩
    have HInn:=Lib.hid hInn;rw [← strOf_data nn] at hInn;go_wp2_with fail;refine (ref_Ident _ _ (by rw [strOf_size];exact Bnn.out)).mono ?_;rintro e w3 ⟨rfl,hb9⟩;have HB3:=Lib.hid (HB2.out.trans (hb9.mono HB2.out.size));have hs3:w.heap.size<w3.heap.size:=Nat.lt_of_lt_of_le hs2 hb9.size;have u31:w3.cell? ⟨w.heap.size,1,none⟩=some (.string (strOf nn)):=(hb9.cell (p:=⟨w.heap.size,1,none⟩) hs2).trans u21;have u32:w3.cell? ⟨w.heap.size,2,none⟩=some (.string (strOf tt)):=(hb9.cell (p:=⟨w.heap.size,2,none⟩) hs2).trans u22;have u33:w3.cell? ⟨w.heap.size,3,none⟩=some (.slice a es.length c):=(hb9.cell (p:=⟨w.heap.size,3,none⟩) hs2).trans u23;have u34:w3.cell? ⟨w.heap.size,4,none⟩=some (.slice aa bd.length cc):=(hb9.cell (p:=⟨w.heap.size,4,none⟩) hs2).trans u24;have u35:w3.cell? ⟨w.heap.size,5,none⟩=some (.slice ab el.length cb):=(hb9.cell (p:=⟨w.heap.size,5,none⟩) hs2).trans u25;clear hb9 u21 u22 u23 u24 u25;have HO:Hid (stOwn 2 nn tt es.length bd.length el.length=0):=by show _=_;simp [stOwn,namedS,typedS,bodiedS,Htt.out,LZbd.out,LZel.out,HX.out,HInn.out]
    go_wp2_with fail;refine (ref_Faults d _ _ _ _ _ (H1.out _ HB3.out) BE.out).mono ?_;rintro e w4 ⟨rfl,hb9⟩;have HB4:=Lib.hid (HB3.out.trans (hb9.mono HB3.out.size));have hs4:w.heap.size<w4.heap.size:=Nat.lt_of_lt_of_le hs3 hb9.size;have u43:w4.cell? ⟨w.heap.size,3,none⟩=some (.slice a es.length c):=(hb9.cell (p:=⟨w.heap.size,3,none⟩) hs3).trans u33;have u44:w4.cell? ⟨w.heap.size,4,none⟩=some (.slice aa bd.length cc):=(hb9.cell (p:=⟨w.heap.size,4,none⟩) hs3).trans u34;have u45:w4.cell? ⟨w.heap.size,5,none⟩=some (.slice ab el.length cb):=(hb9.cell (p:=⟨w.heap.size,5,none⟩) hs3).trans u35;clear hb9 u31 u32 u33 u34 u35
    by_cases hz:exsFault es=0
    rotate_left
    ·have hz1:(((exsFault es:Nat):Int) != 0)=true:=by rw [bne,beq_eq_false_iff_ne.2 (by omega)];rfl
     have HR:Hid (stFault (.mk 2 nn tt es bd el)=exsFault es):=by show _=_;rw [stFault,HO.out,if_neg (by simp),if_pos hz]
     clear hz;go_wp2_with fail;go_ret;exact⟨by rw [HR.out];rfl,HB4.out⟩
    have hz1:(((exsFault es:Nat):Int) != 0)=false:=by rw [hz];rfl
    have HZ:=Lib.hid hz;clear hz;have HC:Hid (¬ ((2:Int)=9∧headKind es≠9∧headKind es≠10)):=by show ¬ _;omega
    go_wp2_with fail;refine (ref_stmts d (Lib.hid IH.out) _ _ _ _ _ (H2.out _ HB4.out) BB.out).mono ?_;rintro e w5 ⟨rfl,hb9⟩;have HB5:=Lib.hid (HB4.out.trans (hb9.mono HB4.out.size));have hs5:w.heap.size<w5.heap.size:=Nat.lt_of_lt_of_le hs4 hb9.size;have u55:w5.cell? ⟨w.heap.size,5,none⟩=some (.slice ab el.length cb):=(hb9.cell (p:=⟨w.heap.size,5,none⟩) hs4).trans u45;clear hb9 u43 u44 u45
    by_cases hy:stsFault bd=0
    rotate_left
    ·have hy1:(((stsFault bd:Nat):Int) != 0)=true:=by rw [bne,beq_eq_false_iff_ne.2 (by omega)];rfl
     have HR:Hid (stFault (.mk 2 nn tt es bd el)=stsFault bd):=by show _=_;rw [stFault,HO.out,if_neg (by simp),if_neg (by rw [HZ.out];simp),if_neg HC.out,if_pos hy]
     clear hy;go_wp2_with fail;go_ret;exact⟨by rw [HR.out];rfl,HB5.out⟩
    have hy1:(((stsFault bd:Nat):Int) != 0)=false:=by rw [hy];rfl
    have HR:Hid (stFault (.mk 2 nn tt es bd el)=stsFault el):=by show _=_;rw [stFault,HO.out,if_neg (by simp),if_neg (by rw [HZ.out];simp),if_neg HC.out,if_neg (by rw [hy];simp)]
    clear hy;go_wp2_with fail;refine (ref_stmts d (Lib.hid IH.out) _ _ _ _ _ (H3.out _ HB5.out) BL.out).mono ?_;rintro e w6 ⟨rfl,hb9⟩;have HB6:=Lib.hid (HB5.out.trans (hb9.mono HB5.out.size));have hs6:w.heap.size<w6.heap.size:=Nat.lt_of_lt_of_le hs5 hb9.size;clear hb9 u55;go_wp2_with fail;go_ret;exact⟨by rw [HR.out];rfl,HB6.out⟩
   by_cases hk3:k=3
   ·subst hk3
    by_cases htt:tt=[]
    rotate_left
    ·have ett:=isEmpty_pos (strOf tt) (by rw [strOf_size];exact List.length_pos_iff.2 htt);have HO:Hid (stOwn 3 nn tt es.length bd.length el.length=1):=by show _=_;simp [stOwn,namedS,typedS,bodiedS,htt]
     have HR:Hid (stFault (.mk 3 nn tt es bd el)=1):=by show _=_;rw [stFault,HO.out];rfl
     go_enter Tryd.func71,Tryd.ntmps71;go_wp2_with fail;go_ret;exact⟨by rw [HR.out];rfl,((Below.refl _ _).alloc (Nat.le_refl _) _)⟩
    have ett:=isEmpty_zero (strOf tt) (by rw [strOf_size,htt];rfl);have Htt:=Lib.hid htt;clear htt
    by_cases hb:0<bd.length
    ·skip
     have HO:Hid (stOwn 3 nn tt es.length bd.length el.length=1):=by show _=_;simp [stOwn,namedS,typedS,bodiedS,Htt.out,hb]
     have HR:Hid (stFault (.mk 3 nn tt es bd el)=1):=by show _=_;rw [stFault,HO.out];rfl
     go_enter Tryd.func71,Tryd.ntmps71;go_wp2_with fail;go_ret;exact⟨by rw [HR.out];rfl,((Below.refl _ _).alloc (Nat.le_refl _) _)⟩
    have hbz:bd.length=0:=by omega
    have LZbd:=Lib.hid hbz;clear hbz
    by_cases hl:0<el.length
    ·skip
     have HO:Hid (stOwn 3 nn tt es.length bd.length el.length=1):=by show _=_;simp [stOwn,namedS,typedS,bodiedS,Htt.out,LZbd.out,hl]
     have HR:Hid (stFault (.mk 3 nn tt es bd el)=1):=by show _=_;rw [stFault,HO.out];rfl
     go_enter Tryd.func71,Tryd.ntmps71;go_wp2_with fail;go_ret;exact⟨by rw [HR.out];rfl,((Below.refl _ _).alloc (Nat.le_refl _) _)⟩
    have hlz:el.length=0:=by omega
    have LZel:=Lib.hid hlz;clear hlz;cases hx:exprsOk 3 es.length
    ·have HO:Hid (stOwn 3 nn tt es.length bd.length el.length=1):=by show _=_;simp [stOwn,namedS,typedS,bodiedS,Htt.out,LZbd.out,LZel.out,hx]
     have HR:Hid (stFault (.mk 3 nn tt es bd el)=1):=by show _=_;rw [stFault,HO.out];rfl
     go_enter Tryd.func71,Tryd.ntmps71;go_wp2_with fail;refine (ref_exprs _ _ _ _ _ _ _ _ _ _ _ _ _).mono ?_;rintro e w2 ⟨rfl,hb9⟩;have HB2:=Lib.hid (((Below.refl _ _).alloc (Nat.le_refl _) _).trans (hb9.mono (by simp)));have hs2:w.heap.size<w2.heap.size:=by have:=hb9.size;simp at this;omega
     clear hb9;go_wp2_with fail;go_ret;exact⟨by rw [HR.out];rfl,HB2.out⟩
    have HX:=Lib.hid hx;go_enter Tryd.func71,Tryd.ntmps71;go_wp2_with fail;refine (ref_exprs _ _ _ _ _ _ _ _ _ _ _ _ _).mono ?_;rintro e w2 ⟨rfl,hb9⟩;have HB2:=Lib.hid (((Below.refl _ _).alloc (Nat.le_refl _) _).trans (hb9.mono (by simp)));have hs2:w.heap.size<w2.heap.size:=by have:=hb9.size;simp at this;omega
    have u21:w2.cell? ⟨w.heap.size,1,none⟩=some (.string (strOf nn)):=(hb9.cell (p:=⟨w.heap.size,1,none⟩) (by simp)).trans (by simp [go_sem]);have u22:w2.cell? ⟨w.heap.size,2,none⟩=some (.string (strOf tt)):=(hb9.cell (p:=⟨w.heap.size,2,none⟩) (by simp)).trans (by simp [go_sem]);have u23:w2.cell? ⟨w.heap.size,3,none⟩=some (.slice a es.length c):=(hb9.cell (p:=⟨w.heap.size,3,none⟩) (by simp)).trans (by simp [go_sem]);have u24:w2.cell? ⟨w.heap.size,4,none⟩=some (.slice aa bd.length cc):=(hb9.cell (p:=⟨w.heap.size,4,none⟩) (by simp)).trans (by simp [go_sem]);have u25:w2.cell? ⟨w.heap.size,5,none⟩=some (.slice ab el.length cb):=(hb9.cell (p:=⟨w.heap.size,5,none⟩) (by simp)).trans (by simp [go_sem]);clear hb9;cases hInn:isIdent nn
    ·have HO:Hid (stOwn 3 nn tt es.length bd.length el.length=5):=by show _=_;simp [stOwn,namedS,typedS,bodiedS,Htt.out,LZbd.out,LZel.out,HX.out,hInn]
     have HR:Hid (stFault (.mk 3 nn tt es bd el)=5):=by show _=_;rw [stFault,HO.out];rfl
     rw [← strOf_data nn] at hInn;go_wp2_with fail;refine (ref_Ident _ _ (by rw [strOf_size];exact Bnn.out)).mono ?_;rintro e w3 ⟨rfl,hb9⟩;have HB3:=Lib.hid (HB2.out.trans (hb9.mono HB2.out.size));have hs3:w.heap.size<w3.heap.size:=Nat.lt_of_lt_of_le hs2 hb9.size;clear hb9 u21 u22 u23 u24 u25;go_wp2_with fail;go_ret;exact⟨by rw [HR.out];rfl,HB3.out⟩
    have HInn:=Lib.hid hInn;rw [← strOf_data nn] at hInn;go_wp2_with fail;refine (ref_Ident _ _ (by rw [strOf_size];exact Bnn.out)).mono ?_;rintro e w3 ⟨rfl,hb9⟩;have HB3:=Lib.hid (HB2.out.trans (hb9.mono HB2.out.size));have hs3:w.heap.size<w3.heap.size:=Nat.lt_of_lt_of_le hs2 hb9.size;have u31:w3.cell? ⟨w.heap.size,1,none⟩=some (.string (strOf nn)):=(hb9.cell (p:=⟨w.heap.size,1,none⟩) hs2).trans u21;have u32:w3.cell? ⟨w.heap.size,2,none⟩=some (.string (strOf tt)):=(hb9.cell (p:=⟨w.heap.size,2,none⟩) hs2).trans u22;have u33:w3.cell? ⟨w.heap.size,3,none⟩=some (.slice a es.length c):=(hb9.cell (p:=⟨w.heap.size,3,none⟩) hs2).trans u23;have u34:w3.cell? ⟨w.heap.size,4,none⟩=some (.slice aa bd.length cc):=(hb9.cell (p:=⟨w.heap.size,4,none⟩) hs2).trans u24;have u35:w3.cell? ⟨w.heap.size,5,none⟩=some (.slice ab el.length cb):=(hb9.cell (p:=⟨w.heap.size,5,none⟩) hs2).trans u25;clear hb9 u21 u22 u23 u24 u25;have HO:Hid (stOwn 3 nn tt es.length bd.length el.length=0):=by show _=_;simp [stOwn,namedS,typedS,bodiedS,Htt.out,LZbd.out,LZel.out,HX.out,HInn.out]
    go_wp2_with fail;refine (ref_Faults d _ _ _ _ _ (H1.out _ HB3.out) BE.out).mono ?_;rintro e w4 ⟨rfl,hb9⟩;have HB4:=Lib.hid (HB3.out.trans (hb9.mono HB3.out.size));have hs4:w.heap.size<w4.heap.size:=Nat.lt_of_lt_of_le hs3 hb9.size;have u43:w4.cell? ⟨w.heap.size,3,none⟩=some (.slice a es.length c):=(hb9.cell (p:=⟨w.heap.size,3,none⟩) hs3).trans u33;have u44:w4.cell? ⟨w.heap.size,4,none⟩=some (.slice aa bd.length cc):=(hb9.cell (p:=⟨w.heap.size,4,none⟩) hs3).trans u34;have u45:w4.cell? ⟨w.heap.size,5,none⟩=some (.slice ab el.length cb):=(hb9.cell (p:=⟨w.heap.size,5,none⟩) hs3).trans u35;clear hb9 u31 u32 u33 u34 u35
    by_cases hz:exsFault es=0
    rotate_left
    ·have hz1:(((exsFault es:Nat):Int) != 0)=true:=by rw [bne,beq_eq_false_iff_ne.2 (by omega)];rfl
     have HR:Hid (stFault (.mk 3 nn tt es bd el)=exsFault es):=by show _=_;rw [stFault,HO.out,if_neg (by simp),if_pos hz]
     clear hz;go_wp2_with fail;go_ret;exact⟨by rw [HR.out];rfl,HB4.out⟩
    have hz1:(((exsFault es:Nat):Int) != 0)=false:=by rw [hz];rfl
    have HZ:=Lib.hid hz;clear hz;have HC:Hid (¬ ((3:Int)=9∧headKind es≠9∧headKind es≠10)):=by show ¬ _;omega
    go_wp2_with fail;refine (ref_stmts d (Lib.hid IH.out) _ _ _ _ _ (H2.out _ HB4.out) BB.out).mono ?_;rintro e w5 ⟨rfl,hb9⟩;have HB5:=Lib.hid (HB4.out.trans (hb9.mono HB4.out.size));have hs5:w.heap.size<w5.heap.size:=Nat.lt_of_lt_of_le hs4 hb9.size;have u55:w5.cell? ⟨w.heap.size,5,none⟩=some (.slice ab el.length cb):=(hb9.cell (p:=⟨w.heap.size,5,none⟩) hs4).trans u45;clear hb9 u43 u44 u45
    by_cases hy:stsFault bd=0
    rotate_left
    ·have hy1:(((stsFault bd:Nat):Int) != 0)=true:=by rw [bne,beq_eq_false_iff_ne.2 (by omega)];rfl
     have HR:Hid (stFault (.mk 3 nn tt es bd el)=stsFault bd):=by show _=_;rw [stFault,HO.out,if_neg (by simp),if_neg (by rw [HZ.out];simp),if_neg HC.out,if_pos hy]
     clear hy;go_wp2_with fail;go_ret;exact⟨by rw [HR.out];rfl,HB5.out⟩
    have hy1:(((stsFault bd:Nat):Int) != 0)=false:=by rw [hy];rfl
    have HR:Hid (stFault (.mk 3 nn tt es bd el)=stsFault el):=by show _=_;rw [stFault,HO.out,if_neg (by simp),if_neg (by rw [HZ.out];simp),if_neg HC.out,if_neg (by rw [hy];simp)]
    clear hy;go_wp2_with fail;refine (ref_stmts d (Lib.hid IH.out) _ _ _ _ _ (H3.out _ HB5.out) BL.out).mono ?_;rintro e w6 ⟨rfl,hb9⟩;have HB6:=Lib.hid (HB5.out.trans (hb9.mono HB5.out.size));have hs6:w.heap.size<w6.heap.size:=Nat.lt_of_lt_of_le hs5 hb9.size;clear hb9 u55;go_wp2_with fail;go_ret;exact⟨by rw [HR.out];rfl,HB6.out⟩
   by_cases hk4:k=4
   ·subst hk4
    by_cases hnn:nn=[]
    rotate_left
    ·have enn:=isEmpty_pos (strOf nn) (by rw [strOf_size];exact List.length_pos_iff.2 hnn);have HO:Hid (stOwn 4 nn tt es.length bd.length el.length=1):=by show _=_;simp [stOwn,namedS,typedS,bodiedS,hnn]
     have HR:Hid (stFault (.mk 4 nn tt es bd el)=1):=by show _=_;rw [stFault,HO.out];rfl
     go_enter Tryd.func71,Tryd.ntmps71;go_wp2_with fail;go_ret;exact⟨by rw [HR.out];rfl,((Below.refl _ _).alloc (Nat.le_refl _) _)⟩
    have enn:=isEmpty_zero (strOf nn) (by rw [strOf_size,hnn];rfl);have Hnn:=Lib.hid hnn;clear hnn
    by_cases htt:tt=[]
    rotate_left
    ·have ett:=isEmpty_pos (strOf tt) (by rw [strOf_size];exact List.length_pos_iff.2 htt);have HO:Hid (stOwn 4 nn tt es.length bd.length el.length=1):=by show _=_;simp [stOwn,namedS,typedS,bodiedS,Hnn.out,htt]
     have HR:Hid (stFault (.mk 4 nn tt es bd el)=1):=by show _=_;rw [stFault,HO.out];rfl
     go_enter Tryd.func71,Tryd.ntmps71;go_wp2_with fail;go_ret;exact⟨by rw [HR.out];rfl,((Below.refl _ _).alloc (Nat.le_refl _) _)⟩
    have ett:=isEmpty_zero (strOf tt) (by rw [strOf_size,htt];rfl);have Htt:=Lib.hid htt;clear htt;cases hx:exprsOk 4 es.length
    ·have HO:Hid (stOwn 4 nn tt es.length bd.length el.length=1):=by show _=_;simp [stOwn,namedS,typedS,bodiedS,Hnn.out,Htt.out,hx]
     have HR:Hid (stFault (.mk 4 nn tt es bd el)=1):=by show _=_;rw [stFault,HO.out];rfl
     go_enter Tryd.func71,Tryd.ntmps71;go_wp2_with fail;refine (ref_exprs _ _ _ _ _ _ _ _ _ _ _ _ _).mono ?_;rintro e w2 ⟨rfl,hb9⟩;have HB2:=Lib.hid (((Below.refl _ _).alloc (Nat.le_refl _) _).trans (hb9.mono (by simp)));have hs2:w.heap.size<w2.heap.size:=by have:=hb9.size;simp at this;omega
     clear hb9;go_wp2_with fail;go_ret;exact⟨by rw [HR.out];rfl,HB2.out⟩
    have HX:=Lib.hid hx;go_enter Tryd.func71,Tryd.ntmps71;go_wp2_with fail;refine (ref_exprs _ _ _ _ _ _ _ _ _ _ _ _ _).mono ?_;rintro e w2 ⟨rfl,hb9⟩;have HB2:=Lib.hid (((Below.refl _ _).alloc (Nat.le_refl _) _).trans (hb9.mono (by simp)));have hs2:w.heap.size<w2.heap.size:=by have:=hb9.size;simp at this;omega
    have u21:w2.cell? ⟨w.heap.size,1,none⟩=some (.string (strOf nn)):=(hb9.cell (p:=⟨w.heap.size,1,none⟩) (by simp)).trans (by simp [go_sem]);have u22:w2.cell? ⟨w.heap.size,2,none⟩=some (.string (strOf tt)):=(hb9.cell (p:=⟨w.heap.size,2,none⟩) (by simp)).trans (by simp [go_sem]);have u23:w2.cell? ⟨w.heap.size,3,none⟩=some (.slice a es.length c):=(hb9.cell (p:=⟨w.heap.size,3,none⟩) (by simp)).trans (by simp [go_sem]);have u24:w2.cell? ⟨w.heap.size,4,none⟩=some (.slice aa bd.length cc):=(hb9.cell (p:=⟨w.heap.size,4,none⟩) (by simp)).trans (by simp [go_sem]);have u25:w2.cell? ⟨w.heap.size,5,none⟩=some (.slice ab el.length cb):=(hb9.cell (p:=⟨w.heap.size,5,none⟩) (by simp)).trans (by simp [go_sem]);clear hb9;have HO:Hid (stOwn 4 nn tt es.length bd.length el.length=0):=by show _=_;simp [stOwn,namedS,typedS,bodiedS,Hnn.out,Htt.out,HX.out]
    go_wp2_with fail;refine (ref_Faults d _ _ _ _ _ (H1.out _ HB2.out) BE.out).mono ?_;rintro e w3 ⟨rfl,hb9⟩;have HB3:=Lib.hid (HB2.out.trans (hb9.mono HB2.out.size));have hs3:w.heap.size<w3.heap.size:=Nat.lt_of_lt_of_le hs2 hb9.size;have u33:w3.cell? ⟨w.heap.size,3,none⟩=some (.slice a es.length c):=(hb9.cell (p:=⟨w.heap.size,3,none⟩) hs2).trans u23;have u34:w3.cell? ⟨w.heap.size,4,none⟩=some (.slice aa bd.length cc):=(hb9.cell (p:=⟨w.heap.size,4,none⟩) hs2).trans u24;have u35:w3.cell? ⟨w.heap.size,5,none⟩=some (.slice ab el.length cb):=(hb9.cell (p:=⟨w.heap.size,5,none⟩) hs2).trans u25;clear hb9 u21 u22 u23 u24 u25
    by_cases hz:exsFault es=0
    rotate_left
    ·have hz1:(((exsFault es:Nat):Int) != 0)=true:=by rw [bne,beq_eq_false_iff_ne.2 (by omega)];rfl
     have HR:Hid (stFault (.mk 4 nn tt es bd el)=exsFault es):=by show _=_;rw [stFault,HO.out,if_neg (by simp),if_pos hz]
     clear hz;go_wp2_with fail;go_ret;exact⟨by rw [HR.out];rfl,HB3.out⟩
    have hz1:(((exsFault es:Nat):Int) != 0)=false:=by rw [hz];rfl
    have HZ:=Lib.hid hz;clear hz;have HC:Hid (¬ ((4:Int)=9∧headKind es≠9∧headKind es≠10)):=by show ¬ _;omega
    go_wp2_with fail;refine (ref_stmts d (Lib.hid IH.out) _ _ _ _ _ (H2.out _ HB3.out) BB.out).mono ?_;rintro e w4 ⟨rfl,hb9⟩;have HB4:=Lib.hid (HB3.out.trans (hb9.mono HB3.out.size));have hs4:w.heap.size<w4.heap.size:=Nat.lt_of_lt_of_le hs3 hb9.size;have u45:w4.cell? ⟨w.heap.size,5,none⟩=some (.slice ab el.length cb):=(hb9.cell (p:=⟨w.heap.size,5,none⟩) hs3).trans u35;clear hb9 u33 u34 u35
    by_cases hy:stsFault bd=0
    rotate_left
    ·have hy1:(((stsFault bd:Nat):Int) != 0)=true:=by rw [bne,beq_eq_false_iff_ne.2 (by omega)];rfl
     have HR:Hid (stFault (.mk 4 nn tt es bd el)=stsFault bd):=by show _=_;rw [stFault,HO.out,if_neg (by simp),if_neg (by rw [HZ.out];simp),if_neg HC.out,if_pos hy]
     clear hy;go_wp2_with fail;go_ret;exact⟨by rw [HR.out];rfl,HB4.out⟩
    have hy1:(((stsFault bd:Nat):Int) != 0)=false:=by rw [hy];rfl
    have HR:Hid (stFault (.mk 4 nn tt es bd el)=stsFault el):=by show _=_;rw [stFault,HO.out,if_neg (by simp),if_neg (by rw [HZ.out];simp),if_neg HC.out,if_neg (by rw [hy];simp)]
    clear hy;go_wp2_with fail;refine (ref_stmts d (Lib.hid IH.out) _ _ _ _ _ (H3.out _ HB4.out) BL.out).mono ?_;rintro e w5 ⟨rfl,hb9⟩;have HB5:=Lib.hid (HB4.out.trans (hb9.mono HB4.out.size));have hs5:w.heap.size<w5.heap.size:=Nat.lt_of_lt_of_le hs4 hb9.size;clear hb9 u45;go_wp2_with fail;go_ret;exact⟨by rw [HR.out];rfl,HB5.out⟩
   by_cases hk5:k=5
   ·subst hk5
    by_cases hnn:nn=[]
    rotate_left
    ·have enn:=isEmpty_pos (strOf nn) (by rw [strOf_size];exact List.length_pos_iff.2 hnn);have HO:Hid (stOwn 5 nn tt es.length bd.length el.length=1):=by show _=_;simp [stOwn,namedS,typedS,bodiedS,hnn]
     have HR:Hid (stFault (.mk 5 nn tt es bd el)=1):=by show _=_;rw [stFault,HO.out];rfl
     go_enter Tryd.func71,Tryd.ntmps71;go_wp2_with fail;go_ret;exact⟨by rw [HR.out];rfl,((Below.refl _ _).alloc (Nat.le_refl _) _)⟩
    have enn:=isEmpty_zero (strOf nn) (by rw [strOf_size,hnn];rfl);have Hnn:=Lib.hid hnn;clear hnn
    by_cases htt:tt=[]
    rotate_left
    ·have ett:=isEmpty_pos (strOf tt) (by rw [strOf_size];exact List.length_pos_iff.2 htt);have HO:Hid (stOwn 5 nn tt es.length bd.length el.length=1):=by show _=_;simp [stOwn,namedS,typedS,bodiedS,Hnn.out,htt]
     have HR:Hid (stFault (.mk 5 nn tt es bd el)=1):=by show _=_;rw [stFault,HO.out];rfl
     go_enter Tryd.func71,Tryd.ntmps71;go_wp2_with fail;go_ret;exact⟨by rw [HR.out];rfl,((Below.refl _ _).alloc (Nat.le_refl _) _)⟩
    have ett:=isEmpty_zero (strOf tt) (by rw [strOf_size,htt];rfl);have Htt:=Lib.hid htt;clear htt
    by_cases hl:0<el.length
    ·skip
     have HO:Hid (stOwn 5 nn tt es.length bd.length el.length=1):=by show _=_;simp [stOwn,namedS,typedS,bodiedS,Hnn.out,Htt.out,hl]
     have HR:Hid (stFault (.mk 5 nn tt es bd el)=1):=by show _=_;rw [stFault,HO.out];rfl
     go_enter Tryd.func71,Tryd.ntmps71;go_wp2_with fail;go_ret;exact⟨by rw [HR.out];rfl,((Below.refl _ _).alloc (Nat.le_refl _) _)⟩
    have hlz:el.length=0:=by omega
    have LZel:=Lib.hid hlz;clear hlz;cases hx:exprsOk 5 es.length
    ·have HO:Hid (stOwn 5 nn tt es.length bd.length el.length=1):=by show _=_;simp [stOwn,namedS,typedS,bodiedS,Hnn.out,Htt.out,LZel.out,hx]
     have HR:Hid (stFault (.mk 5 nn tt es bd el)=1):=by show _=_;rw [stFault,HO.out];rfl
     go_enter Tryd.func71,Tryd.ntmps71;go_wp2_with fail;refine (ref_exprs _ _ _ _ _ _ _ _ _ _ _ _ _).mono ?_;rintro e w2 ⟨rfl,hb9⟩;have HB2:=Lib.hid (((Below.refl _ _).alloc (Nat.le_refl _) _).trans (hb9.mono (by simp)));have hs2:w.heap.size<w2.heap.size:=by have:=hb9.size;simp at this;omega
     clear hb9;go_wp2_with fail;go_ret;exact⟨by rw [HR.out];rfl,HB2.out⟩
    have HX:=Lib.hid hx;go_enter Tryd.func71,Tryd.ntmps71;go_wp2_with fail;refine (ref_exprs _ _ _ _ _ _ _ _ _ _ _ _ _).mono ?_;rintro e w2 ⟨rfl,hb9⟩;have HB2:=Lib.hid (((Below.refl _ _).alloc (Nat.le_refl _) _).trans (hb9.mono (by simp)));have hs2:w.heap.size<w2.heap.size:=by have:=hb9.size;simp at this;omega
    have u21:w2.cell? ⟨w.heap.size,1,none⟩=some (.string (strOf nn)):=(hb9.cell (p:=⟨w.heap.size,1,none⟩) (by simp)).trans (by simp [go_sem]);have u22:w2.cell? ⟨w.heap.size,2,none⟩=some (.string (strOf tt)):=(hb9.cell (p:=⟨w.heap.size,2,none⟩) (by simp)).trans (by simp [go_sem]);have u23:w2.cell? ⟨w.heap.size,3,none⟩=some (.slice a es.length c):=(hb9.cell (p:=⟨w.heap.size,3,none⟩) (by simp)).trans (by simp [go_sem]);have u24:w2.cell? ⟨w.heap.size,4,none⟩=some (.slice aa bd.length cc):=(hb9.cell (p:=⟨w.heap.size,4,none⟩) (by simp)).trans (by simp [go_sem]);have u25:w2.cell? ⟨w.heap.size,5,none⟩=some (.slice ab el.length cb):=(hb9.cell (p:=⟨w.heap.size,5,none⟩) (by simp)).trans (by simp [go_sem]);clear hb9;have HO:Hid (stOwn 5 nn tt es.length bd.length el.length=0):=by show _=_;simp [stOwn,namedS,typedS,bodiedS,Hnn.out,Htt.out,LZel.out,HX.out]
    go_wp2_with fail;refine (ref_Faults d _ _ _ _ _ (H1.out _ HB2.out) BE.out).mono ?_;rintro e w3 ⟨rfl,hb9⟩;have HB3:=Lib.hid (HB2.out.trans (hb9.mono HB2.out.size));have hs3:w.heap.size<w3.heap.size:=Nat.lt_of_lt_of_le hs2 hb9.size;have u33:w3.cell? ⟨w.heap.size,3,none⟩=some (.slice a es.length c):=(hb9.cell (p:=⟨w.heap.size,3,none⟩) hs2).trans u23;have u34:w3.cell? ⟨w.heap.size,4,none⟩=some (.slice aa bd.length cc):=(hb9.cell (p:=⟨w.heap.size,4,none⟩) hs2).trans u24;have u35:w3.cell? ⟨w.heap.size,5,none⟩=some (.slice ab el.length cb):=(hb9.cell (p:=⟨w.heap.size,5,none⟩) hs2).trans u25;clear hb9 u21 u22 u23 u24 u25
    by_cases hz:exsFault es=0
    rotate_left
    ·have hz1:(((exsFault es:Nat):Int) != 0)=true:=by rw [bne,beq_eq_false_iff_ne.2 (by omega)];rfl
     have HR:Hid (stFault (.mk 5 nn tt es bd el)=exsFault es):=by show _=_;rw [stFault,HO.out,if_neg (by simp),if_pos hz]
     clear hz;go_wp2_with fail;go_ret;exact⟨by rw [HR.out];rfl,HB3.out⟩
    have hz1:(((exsFault es:Nat):Int) != 0)=false:=by rw [hz];rfl
    have HZ:=Lib.hid hz;clear hz;have HC:Hid (¬ ((5:Int)=9∧headKind es≠9∧headKind es≠10)):=by show ¬ _;omega
    go_wp2_with fail;refine (ref_stmts d (Lib.hid IH.out) _ _ _ _ _ (H2.out _ HB3.out) BB.out).mono ?_;rintro e w4 ⟨rfl,hb9⟩;have HB4:=Lib.hid (HB3.out.trans (hb9.mono HB3.out.size));have hs4:w.heap.size<w4.heap.size:=Nat.lt_of_lt_of_le hs3 hb9.size;have u45:w4.cell? ⟨w.heap.size,5,none⟩=some (.slice ab el.length cb):=(hb9.cell (p:=⟨w.heap.size,5,none⟩) hs3).trans u35;clear hb9 u33 u34 u35
    by_cases hy:stsFault bd=0
    rotate_left
    ·have hy1:(((stsFault bd:Nat):Int) != 0)=true:=by rw [bne,beq_eq_false_iff_ne.2 (by omega)];rfl
     have HR:Hid (stFault (.mk 5 nn tt es bd el)=stsFault bd):=by show _=_;rw [stFault,HO.out,if_neg (by simp),if_neg (by rw [HZ.out];simp),if_neg HC.out,if_pos hy]
     clear hy;go_wp2_with fail;go_ret;exact⟨by rw [HR.out];rfl,HB4.out⟩
    have hy1:(((stsFault bd:Nat):Int) != 0)=false:=by rw [hy];rfl
    have HR:Hid (stFault (.mk 5 nn tt es bd el)=stsFault el):=by show _=_;rw [stFault,HO.out,if_neg (by simp),if_neg (by rw [HZ.out];simp),if_neg HC.out,if_neg (by rw [hy];simp)]
    clear hy;go_wp2_with fail;refine (ref_stmts d (Lib.hid IH.out) _ _ _ _ _ (H3.out _ HB4.out) BL.out).mono ?_;rintro e w5 ⟨rfl,hb9⟩;have HB5:=Lib.hid (HB4.out.trans (hb9.mono HB4.out.size));have hs5:w.heap.size<w5.heap.size:=Nat.lt_of_lt_of_le hs4 hb9.size;clear hb9 u45;go_wp2_with fail;go_ret;exact⟨by rw [HR.out];rfl,HB5.out⟩
   by_cases hk6:k=6
   ·subst hk6;cases hx:exprsOk 6 es.length
    ·have HO:Hid (stOwn 6 nn tt es.length bd.length el.length=1):=by show _=_;simp [stOwn,namedS,typedS,bodiedS,hx]
     have HR:Hid (stFault (.mk 6 nn tt es bd el)=1):=by show _=_;rw [stFault,HO.out];rfl
     go_enter Tryd.func71,Tryd.ntmps71;go_wp2_with fail;refine (ref_exprs _ _ _ _ _ _ _ _ _ _ _ _ _).mono ?_;rintro e w2 ⟨rfl,hb9⟩;have HB2:=Lib.hid (((Below.refl _ _).alloc (Nat.le_refl _) _).trans (hb9.mono (by simp)));have hs2:w.heap.size<w2.heap.size:=by have:=hb9.size;simp at this;omega
     clear hb9;go_wp2_with fail;go_ret;exact⟨by rw [HR.out];rfl,HB2.out⟩
    have HX:=Lib.hid hx;go_enter Tryd.func71,Tryd.ntmps71;go_wp2_with fail;refine (ref_exprs _ _ _ _ _ _ _ _ _ _ _ _ _).mono ?_;rintro e w2 ⟨rfl,hb9⟩;have HB2:=Lib.hid (((Below.refl _ _).alloc (Nat.le_refl _) _).trans (hb9.mono (by simp)));have hs2:w.heap.size<w2.heap.size:=by have:=hb9.size;simp at this;omega
    have u21:w2.cell? ⟨w.heap.size,1,none⟩=some (.string (strOf nn)):=(hb9.cell (p:=⟨w.heap.size,1,none⟩) (by simp)).trans (by simp [go_sem]);have u22:w2.cell? ⟨w.heap.size,2,none⟩=some (.string (strOf tt)):=(hb9.cell (p:=⟨w.heap.size,2,none⟩) (by simp)).trans (by simp [go_sem]);have u23:w2.cell? ⟨w.heap.size,3,none⟩=some (.slice a es.length c):=(hb9.cell (p:=⟨w.heap.size,3,none⟩) (by simp)).trans (by simp [go_sem]);have u24:w2.cell? ⟨w.heap.size,4,none⟩=some (.slice aa bd.length cc):=(hb9.cell (p:=⟨w.heap.size,4,none⟩) (by simp)).trans (by simp [go_sem]);have u25:w2.cell? ⟨w.heap.size,5,none⟩=some (.slice ab el.length cb):=(hb9.cell (p:=⟨w.heap.size,5,none⟩) (by simp)).trans (by simp [go_sem]);clear hb9;cases hInn:isIdent nn
    ·have HO:Hid (stOwn 6 nn tt es.length bd.length el.length=5):=by show _=_;simp [stOwn,namedS,typedS,bodiedS,HX.out,hInn]
     have HR:Hid (stFault (.mk 6 nn tt es bd el)=5):=by show _=_;rw [stFault,HO.out];rfl
     rw [← strOf_data nn] at hInn;go_wp2_with fail;refine (ref_Ident _ _ (by rw [strOf_size];exact Bnn.out)).mono ?_;rintro e w3 ⟨rfl,hb9⟩;have HB3:=Lib.hid (HB2.out.trans (hb9.mono HB2.out.size));have hs3:w.heap.size<w3.heap.size:=Nat.lt_of_lt_of_le hs2 hb9.size;clear hb9 u21 u22 u23 u24 u25;go_wp2_with fail;go_ret;exact⟨by rw [HR.out];rfl,HB3.out⟩
    have HInn:=Lib.hid hInn;rw [← strOf_data nn] at hInn;go_wp2_with fail;refine (ref_Ident _ _ (by rw [strOf_size];exact Bnn.out)).mono ?_;rintro e w3 ⟨rfl,hb9⟩;have HB3:=Lib.hid (HB2.out.trans (hb9.mono HB2.out.size));have hs3:w.heap.size<w3.heap.size:=Nat.lt_of_lt_of_le hs2 hb9.size;have u31:w3.cell? ⟨w.heap.size,1,none⟩=some (.string (strOf nn)):=(hb9.cell (p:=⟨w.heap.size,1,none⟩) hs2).trans u21;have u32:w3.cell? ⟨w.heap.size,2,none⟩=some (.string (strOf tt)):=(hb9.cell (p:=⟨w.heap.size,2,none⟩) hs2).trans u22;have u33:w3.cell? ⟨w.heap.size,3,none⟩=some (.slice a es.length c):=(hb9.cell (p:=⟨w.heap.size,3,none⟩) hs2).trans u23;have u34:w3.cell? ⟨w.heap.size,4,none⟩=some (.slice aa bd.length cc):=(hb9.cell (p:=⟨w.heap.size,4,none⟩) hs2).trans u24;have u35:w3.cell? ⟨w.heap.size,5,none⟩=some (.slice ab el.length cb):=(hb9.cell (p:=⟨w.heap.size,5,none⟩) hs2).trans u25;clear hb9 u21 u22 u23 u24 u25;cases hItt:isType tt
    ·have HO:Hid (stOwn 6 nn tt es.length bd.length el.length=8):=by show _=_;simp [stOwn,namedS,typedS,bodiedS,HX.out,HInn.out,hItt]
     have HR:Hid (stFault (.mk 6 nn tt es bd el)=8):=by show _=_;rw [stFault,HO.out];rfl
     go_wp2_with fail;refine (ref_typ _ _ Btt.out).mono ?_;rintro e w4 ⟨rfl,hb9⟩;have HB4:=Lib.hid (HB3.out.trans (hb9.mono HB3.out.size));have hs4:w.heap.size<w4.heap.size:=Nat.lt_of_lt_of_le hs3 hb9.size;clear hb9 u31 u32 u33 u34 u35;go_wp2_with fail;go_ret;exact⟨by rw [HR.out];rfl,HB4.out⟩
    have HItt:=Lib.hid hItt;go_wp2_with fail;refine (ref_typ _ _ Btt.out).mono ?_;rintro e w4 ⟨rfl,hb9⟩;have HB4:=Lib.hid (HB3.out.trans (hb9.mono HB3.out.size));have hs4:w.heap.size<w4.heap.size:=Nat.lt_of_lt_of_le hs3 hb9.size;have u41:w4.cell? ⟨w.heap.size,1,none⟩=some (.string (strOf nn)):=(hb9.cell (p:=⟨w.heap.size,1,none⟩) hs3).trans u31;have u42:w4.cell? ⟨w.heap.size,2,none⟩=some (.string (strOf tt)):=(hb9.cell (p:=⟨w.heap.size,2,none⟩) hs3).trans u32;have u43:w4.cell? ⟨w.heap.size,3,none⟩=some (.slice a es.length c):=(hb9.cell (p:=⟨w.heap.size,3,none⟩) hs3).trans u33;have u44:w4.cell? ⟨w.heap.size,4,none⟩=some (.slice aa bd.length cc):=(hb9.cell (p:=⟨w.heap.size,4,none⟩) hs3).trans u34;have u45:w4.cell? ⟨w.heap.size,5,none⟩=some (.slice ab el.length cb):=(hb9.cell (p:=⟨w.heap.size,5,none⟩) hs3).trans u35;clear hb9 u31 u32 u33 u34 u35;have HO:Hid (stOwn 6 nn tt es.length bd.length el.length=0):=by show _=_;simp [stOwn,namedS,typedS,bodiedS,HX.out,HInn.out,HItt.out]
    go_wp2_with fail;refine (ref_Faults d _ _ _ _ _ (H1.out _ HB4.out) BE.out).mono ?_;rintro e w5 ⟨rfl,hb9⟩;have HB5:=Lib.hid (HB4.out.trans (hb9.mono HB4.out.size));have hs5:w.heap.size<w5.heap.size:=Nat.lt_of_lt_of_le hs4 hb9.size;have u53:w5.cell? ⟨w.heap.size,3,none⟩=some (.slice a es.length c):=(hb9.cell (p:=⟨w.heap.size,3,none⟩) hs4).trans u43;have u54:w5.cell? ⟨w.heap.size,4,none⟩=some (.slice aa bd.length cc):=(hb9.cell (p:=⟨w.heap.size,4,none⟩) hs4).trans u44;have u55:w5.cell? ⟨w.heap.size,5,none⟩=some (.slice ab el.length cb):=(hb9.cell (p:=⟨w.heap.size,5,none⟩) hs4).trans u45;clear hb9 u41 u42 u43 u44 u45
    by_cases hz:exsFault es=0
    rotate_left
    ·have hz1:(((exsFault es:Nat):Int) != 0)=true:=by rw [bne,beq_eq_false_iff_ne.2 (by omega)];rfl
     have HR:Hid (stFault (.mk 6 nn tt es bd el)=exsFault es):=by show _=_;rw [stFault,HO.out,if_neg (by simp),if_pos hz]
     clear hz;go_wp2_with fail;go_ret;exact⟨by rw [HR.out];rfl,HB5.out⟩
    have hz1:(((exsFault es:Nat):Int) != 0)=false:=by rw [hz];rfl
    have HZ:=Lib.hid hz;clear hz;have HC:Hid (¬ ((6:Int)=9∧headKind es≠9∧headKind es≠10)):=by show ¬ _;omega
    go_wp2_with fail;refine (ref_stmts d (Lib.hid IH.out) _ _ _ _ _ (H2.out _ HB5.out) BB.out).mono ?_;rintro e w6 ⟨rfl,hb9⟩;have HB6:=Lib.hid (HB5.out.trans (hb9.mono HB5.out.size));have hs6:w.heap.size<w6.heap.size:=Nat.lt_of_lt_of_le hs5 hb9.size;have u65:w6.cell? ⟨w.heap.size,5,none⟩=some (.slice ab el.length cb):=(hb9.cell (p:=⟨w.heap.size,5,none⟩) hs5).trans u55;clear hb9 u53 u54 u55
    by_cases hy:stsFault bd=0
    rotate_left
    ·have hy1:(((stsFault bd:Nat):Int) != 0)=true:=by rw [bne,beq_eq_false_iff_ne.2 (by omega)];rfl
     have HR:Hid (stFault (.mk 6 nn tt es bd el)=stsFault bd):=by show _=_;rw [stFault,HO.out,if_neg (by simp),if_neg (by rw [HZ.out];simp),if_neg HC.out,if_pos hy]
     clear hy;go_wp2_with fail;go_ret;exact⟨by rw [HR.out];rfl,HB6.out⟩
    have hy1:(((stsFault bd:Nat):Int) != 0)=false:=by rw [hy];rfl
    have HR:Hid (stFault (.mk 6 nn tt es bd el)=stsFault el):=by show _=_;rw [stFault,HO.out,if_neg (by simp),if_neg (by rw [HZ.out];simp),if_neg HC.out,if_neg (by rw [hy];simp)]
    clear hy;go_wp2_with fail;refine (ref_stmts d (Lib.hid IH.out) _ _ _ _ _ (H3.out _ HB6.out) BL.out).mono ?_;rintro e w7 ⟨rfl,hb9⟩;have HB7:=Lib.hid (HB6.out.trans (hb9.mono HB6.out.size));have hs7:w.heap.size<w7.heap.size:=Nat.lt_of_lt_of_le hs6 hb9.size;clear hb9 u65;go_wp2_with fail;go_ret;exact⟨by rw [HR.out];rfl,HB7.out⟩
   by_cases hk7:k=7
   ·subst hk7
    by_cases hnn:nn=[]
    rotate_left
    ·have enn:=isEmpty_pos (strOf nn) (by rw [strOf_size];exact List.length_pos_iff.2 hnn);have HO:Hid (stOwn 7 nn tt es.length bd.length el.length=1):=by show _=_;simp [stOwn,namedS,typedS,bodiedS,hnn]
     have HR:Hid (stFault (.mk 7 nn tt es bd el)=1):=by show _=_;rw [stFault,HO.out];rfl
     go_enter Tryd.func71,Tryd.ntmps71;go_wp2_with fail;go_ret;exact⟨by rw [HR.out];rfl,((Below.refl _ _).alloc (Nat.le_refl _) _)⟩
    have enn:=isEmpty_zero (strOf nn) (by rw [strOf_size,hnn];rfl);have Hnn:=Lib.hid hnn;clear hnn
    by_cases htt:tt=[]
    rotate_left
    ·have ett:=isEmpty_pos (strOf tt) (by rw [strOf_size];exact List.length_pos_iff.2 htt);have HO:Hid (stOwn 7 nn tt es.length bd.length el.length=1):=by show _=_;simp [stOwn,namedS,typedS,bodiedS,Hnn.out,htt]
     have HR:Hid (stFault (.mk 7 nn tt es bd el)=1):=by show _=_;rw [stFault,HO.out];rfl
     go_enter Tryd.func71,Tryd.ntmps71;go_wp2_with fail;go_ret;exact⟨by rw [HR.out];rfl,((Below.refl _ _).alloc (Nat.le_refl _) _)⟩
    have ett:=isEmpty_zero (strOf tt) (by rw [strOf_size,htt];rfl);have Htt:=Lib.hid htt;clear htt
    by_cases hb:0<bd.length
    ·skip
     have HO:Hid (stOwn 7 nn tt es.length bd.length el.length=1):=by show _=_;simp [stOwn,namedS,typedS,bodiedS,Hnn.out,Htt.out,hb]
     have HR:Hid (stFault (.mk 7 nn tt es bd el)=1):=by show _=_;rw [stFault,HO.out];rfl
     go_enter Tryd.func71,Tryd.ntmps71;go_wp2_with fail;go_ret;exact⟨by rw [HR.out];rfl,((Below.refl _ _).alloc (Nat.le_refl _) _)⟩
    have hbz:bd.length=0:=by omega
    have LZbd:=Lib.hid hbz;clear hbz
    by_cases hl:0<el.length
    ·skip
     have HO:Hid (stOwn 7 nn tt es.length bd.length el.length=1):=by show _=_;simp [stOwn,namedS,typedS,bodiedS,Hnn.out,Htt.out,LZbd.out,hl]
     have HR:Hid (stFault (.mk 7 nn tt es bd el)=1):=by show _=_;rw [stFault,HO.out];rfl
     go_enter Tryd.func71,Tryd.ntmps71;go_wp2_with fail;go_ret;exact⟨by rw [HR.out];rfl,((Below.refl _ _).alloc (Nat.le_refl _) _)⟩
    have hlz:el.length=0:=by omega
    have LZel:=Lib.hid hlz;clear hlz;cases hx:exprsOk 7 es.length
    ·have HO:Hid (stOwn 7 nn tt es.length bd.length el.length=1):=by show _=_;simp [stOwn,namedS,typedS,bodiedS,Hnn.out,Htt.out,LZbd.out,LZel.out,hx]
     have HR:Hid (stFault (.mk 7 nn tt es bd el)=1):=by show _=_;rw [stFault,HO.out];rfl
     go_enter Tryd.func71,Tryd.ntmps71;go_wp2_with fail;refine (ref_exprs _ _ _ _ _ _ _ _ _ _ _ _ _).mono ?_;rintro e w2 ⟨rfl,hb9⟩;have HB2:=Lib.hid (((Below.refl _ _).alloc (Nat.le_refl _) _).trans (hb9.mono (by simp)));have hs2:w.heap.size<w2.heap.size:=by have:=hb9.size;simp at this;omega
     clear hb9;go_wp2_with fail;go_ret;exact⟨by rw [HR.out];rfl,HB2.out⟩
    have HX:=Lib.hid hx;go_enter Tryd.func71,Tryd.ntmps71;go_wp2_with fail;refine (ref_exprs _ _ _ _ _ _ _ _ _ _ _ _ _).mono ?_;rintro e w2 ⟨rfl,hb9⟩;have HB2:=Lib.hid (((Below.refl _ _).alloc (Nat.le_refl _) _).trans (hb9.mono (by simp)));have hs2:w.heap.size<w2.heap.size:=by have:=hb9.size;simp at this;omega
    have u21:w2.cell? ⟨w.heap.size,1,none⟩=some (.string (strOf nn)):=(hb9.cell (p:=⟨w.heap.size,1,none⟩) (by simp)).trans (by simp [go_sem]);have u22:w2.cell? ⟨w.heap.size,2,none⟩=some (.string (strOf tt)):=(hb9.cell (p:=⟨w.heap.size,2,none⟩) (by simp)).trans (by simp [go_sem]);have u23:w2.cell? ⟨w.heap.size,3,none⟩=some (.slice a es.length c):=(hb9.cell (p:=⟨w.heap.size,3,none⟩) (by simp)).trans (by simp [go_sem]);have u24:w2.cell? ⟨w.heap.size,4,none⟩=some (.slice aa bd.length cc):=(hb9.cell (p:=⟨w.heap.size,4,none⟩) (by simp)).trans (by simp [go_sem]);have u25:w2.cell? ⟨w.heap.size,5,none⟩=some (.slice ab el.length cb):=(hb9.cell (p:=⟨w.heap.size,5,none⟩) (by simp)).trans (by simp [go_sem]);clear hb9;have HO:Hid (stOwn 7 nn tt es.length bd.length el.length=0):=by show _=_;simp [stOwn,namedS,typedS,bodiedS,Hnn.out,Htt.out,LZbd.out,LZel.out,HX.out]
    go_wp2_with fail;refine (ref_Faults d _ _ _ _ _ (H1.out _ HB2.out) BE.out).mono ?_;rintro e w3 ⟨rfl,hb9⟩;have HB3:=Lib.hid (HB2.out.trans (hb9.mono HB2.out.size));have hs3:w.heap.size<w3.heap.size:=Nat.lt_of_lt_of_le hs2 hb9.size;have u33:w3.cell? ⟨w.heap.size,3,none⟩=some (.slice a es.length c):=(hb9.cell (p:=⟨w.heap.size,3,none⟩) hs2).trans u23;have u34:w3.cell? ⟨w.heap.size,4,none⟩=some (.slice aa bd.length cc):=(hb9.cell (p:=⟨w.heap.size,4,none⟩) hs2).trans u24;have u35:w3.cell? ⟨w.heap.size,5,none⟩=some (.slice ab el.length cb):=(hb9.cell (p:=⟨w.heap.size,5,none⟩) hs2).trans u25;clear hb9 u21 u22 u23 u24 u25
    by_cases hz:exsFault es=0
    rotate_left
    ·have hz1:(((exsFault es:Nat):Int) != 0)=true:=by rw [bne,beq_eq_false_iff_ne.2 (by omega)];rfl
     have HR:Hid (stFault (.mk 7 nn tt es bd el)=exsFault es):=by show _=_;rw [stFault,HO.out,if_neg (by simp),if_pos hz]
     clear hz;go_wp2_with fail;go_ret;exact⟨by rw [HR.out];rfl,HB3.out⟩
    have hz1:(((exsFault es:Nat):Int) != 0)=false:=by rw [hz];rfl
    have HZ:=Lib.hid hz;clear hz;have HC:Hid (¬ ((7:Int)=9∧headKind es≠9∧headKind es≠10)):=by show ¬ _;omega
    go_wp2_with fail;refine (ref_stmts d (Lib.hid IH.out) _ _ _ _ _ (H2.out _ HB3.out) BB.out).mono ?_;rintro e w4 ⟨rfl,hb9⟩;have HB4:=Lib.hid (HB3.out.trans (hb9.mono HB3.out.size));have hs4:w.heap.size<w4.heap.size:=Nat.lt_of_lt_of_le hs3 hb9.size;have u45:w4.cell? ⟨w.heap.size,5,none⟩=some (.slice ab el.length cb):=(hb9.cell (p:=⟨w.heap.size,5,none⟩) hs3).trans u35;clear hb9 u33 u34 u35
    by_cases hy:stsFault bd=0
    rotate_left
    ·have hy1:(((stsFault bd:Nat):Int) != 0)=true:=by rw [bne,beq_eq_false_iff_ne.2 (by omega)];rfl
     have HR:Hid (stFault (.mk 7 nn tt es bd el)=stsFault bd):=by show _=_;rw [stFault,HO.out,if_neg (by simp),if_neg (by rw [HZ.out];simp),if_neg HC.out,if_pos hy]
     clear hy;go_wp2_with fail;go_ret;exact⟨by rw [HR.out];rfl,HB4.out⟩
    have hy1:(((stsFault bd:Nat):Int) != 0)=false:=by rw [hy];rfl
    have HR:Hid (stFault (.mk 7 nn tt es bd el)=stsFault el):=by show _=_;rw [stFault,HO.out,if_neg (by simp),if_neg (by rw [HZ.out];simp),if_neg HC.out,if_neg (by rw [hy];simp)]
    clear hy;go_wp2_with fail;refine (ref_stmts d (Lib.hid IH.out) _ _ _ _ _ (H3.out _ HB4.out) BL.out).mono ?_;rintro e w5 ⟨rfl,hb9⟩;have HB5:=Lib.hid (HB4.out.trans (hb9.mono HB4.out.size));have hs5:w.heap.size<w5.heap.size:=Nat.lt_of_lt_of_le hs4 hb9.size;clear hb9 u45;go_wp2_with fail;go_ret;exact⟨by rw [HR.out];rfl,HB5.out⟩
   by_cases hk8:k=8
   ·subst hk8
    by_cases hnn:nn=[]
    rotate_left
    ·have enn:=isEmpty_pos (strOf nn) (by rw [strOf_size];exact List.length_pos_iff.2 hnn);have HO:Hid (stOwn 8 nn tt es.length bd.length el.length=1):=by show _=_;simp [stOwn,namedS,typedS,bodiedS,hnn]
     have HR:Hid (stFault (.mk 8 nn tt es bd el)=1):=by show _=_;rw [stFault,HO.out];rfl
     go_enter Tryd.func71,Tryd.ntmps71;go_wp2_with fail;go_ret;exact⟨by rw [HR.out];rfl,((Below.refl _ _).alloc (Nat.le_refl _) _)⟩
    have enn:=isEmpty_zero (strOf nn) (by rw [strOf_size,hnn];rfl);have Hnn:=Lib.hid hnn;clear hnn
    by_cases htt:tt=[]
    rotate_left
    ·have ett:=isEmpty_pos (strOf tt) (by rw [strOf_size];exact List.length_pos_iff.2 htt);have HO:Hid (stOwn 8 nn tt es.length bd.length el.length=1):=by show _=_;simp [stOwn,namedS,typedS,bodiedS,Hnn.out,htt]
     have HR:Hid (stFault (.mk 8 nn tt es bd el)=1):=by show _=_;rw [stFault,HO.out];rfl
     go_enter Tryd.func71,Tryd.ntmps71;go_wp2_with fail;go_ret;exact⟨by rw [HR.out];rfl,((Below.refl _ _).alloc (Nat.le_refl _) _)⟩
    have ett:=isEmpty_zero (strOf tt) (by rw [strOf_size,htt];rfl);have Htt:=Lib.hid htt;clear htt
    by_cases hb:0<bd.length
    ·skip
     have HO:Hid (stOwn 8 nn tt es.length bd.length el.length=1):=by show _=_;simp [stOwn,namedS,typedS,bodiedS,Hnn.out,Htt.out,hb]
     have HR:Hid (stFault (.mk 8 nn tt es bd el)=1):=by show _=_;rw [stFault,HO.out];rfl
     go_enter Tryd.func71,Tryd.ntmps71;go_wp2_with fail;go_ret;exact⟨by rw [HR.out];rfl,((Below.refl _ _).alloc (Nat.le_refl _) _)⟩
    have hbz:bd.length=0:=by omega
    have LZbd:=Lib.hid hbz;clear hbz
    by_cases hl:0<el.length
    ·skip
     have HO:Hid (stOwn 8 nn tt es.length bd.length el.length=1):=by show _=_;simp [stOwn,namedS,typedS,bodiedS,Hnn.out,Htt.out,LZbd.out,hl]
     have HR:Hid (stFault (.mk 8 nn tt es bd el)=1):=by show _=_;rw [stFault,HO.out];rfl
     go_enter Tryd.func71,Tryd.ntmps71;go_wp2_with fail;go_ret;exact⟨by rw [HR.out];rfl,((Below.refl _ _).alloc (Nat.le_refl _) _)⟩
    have hlz:el.length=0:=by omega
    have LZel:=Lib.hid hlz;clear hlz;cases hx:exprsOk 8 es.length
    ·have HO:Hid (stOwn 8 nn tt es.length bd.length el.length=1):=by show _=_;simp [stOwn,namedS,typedS,bodiedS,Hnn.out,Htt.out,LZbd.out,LZel.out,hx]
     have HR:Hid (stFault (.mk 8 nn tt es bd el)=1):=by show _=_;rw [stFault,HO.out];rfl
     go_enter Tryd.func71,Tryd.ntmps71;go_wp2_with fail;refine (ref_exprs _ _ _ _ _ _ _ _ _ _ _ _ _).mono ?_;rintro e w2 ⟨rfl,hb9⟩;have HB2:=Lib.hid (((Below.refl _ _).alloc (Nat.le_refl _) _).trans (hb9.mono (by simp)));have hs2:w.heap.size<w2.heap.size:=by have:=hb9.size;simp at this;omega
     clear hb9;go_wp2_with fail;go_ret;exact⟨by rw [HR.out];rfl,HB2.out⟩
    have HX:=Lib.hid hx;go_enter Tryd.func71,Tryd.ntmps71;go_wp2_with fail;refine (ref_exprs _ _ _ _ _ _ _ _ _ _ _ _ _).mono ?_;rintro e w2 ⟨rfl,hb9⟩;have HB2:=Lib.hid (((Below.refl _ _).alloc (Nat.le_refl _) _).trans (hb9.mono (by simp)));have hs2:w.heap.size<w2.heap.size:=by have:=hb9.size;simp at this;omega
    have u21:w2.cell? ⟨w.heap.size,1,none⟩=some (.string (strOf nn)):=(hb9.cell (p:=⟨w.heap.size,1,none⟩) (by simp)).trans (by simp [go_sem]);have u22:w2.cell? ⟨w.heap.size,2,none⟩=some (.string (strOf tt)):=(hb9.cell (p:=⟨w.heap.size,2,none⟩) (by simp)).trans (by simp [go_sem]);have u23:w2.cell? ⟨w.heap.size,3,none⟩=some (.slice a es.length c):=(hb9.cell (p:=⟨w.heap.size,3,none⟩) (by simp)).trans (by simp [go_sem]);have u24:w2.cell? ⟨w.heap.size,4,none⟩=some (.slice aa bd.length cc):=(hb9.cell (p:=⟨w.heap.size,4,none⟩) (by simp)).trans (by simp [go_sem]);have u25:w2.cell? ⟨w.heap.size,5,none⟩=some (.slice ab el.length cb):=(hb9.cell (p:=⟨w.heap.size,5,none⟩) (by simp)).trans (by simp [go_sem]);clear hb9;have HO:Hid (stOwn 8 nn tt es.length bd.length el.length=0):=by show _=_;simp [stOwn,namedS,typedS,bodiedS,Hnn.out,Htt.out,LZbd.out,LZel.out,HX.out]
    go_wp2_with fail;refine (ref_Faults d _ _ _ _ _ (H1.out _ HB2.out) BE.out).mono ?_;rintro e w3 ⟨rfl,hb9⟩;have HB3:=Lib.hid (HB2.out.trans (hb9.mono HB2.out.size));have hs3:w.heap.size<w3.heap.size:=Nat.lt_of_lt_of_le hs2 hb9.size;have u33:w3.cell? ⟨w.heap.size,3,none⟩=some (.slice a es.length c):=(hb9.cell (p:=⟨w.heap.size,3,none⟩) hs2).trans u23;have u34:w3.cell? ⟨w.heap.size,4,none⟩=some (.slice aa bd.length cc):=(hb9.cell (p:=⟨w.heap.size,4,none⟩) hs2).trans u24;have u35:w3.cell? ⟨w.heap.size,5,none⟩=some (.slice ab el.length cb):=(hb9.cell (p:=⟨w.heap.size,5,none⟩) hs2).trans u25;clear hb9 u21 u22 u23 u24 u25
    by_cases hz:exsFault es=0
    rotate_left
    ·have hz1:(((exsFault es:Nat):Int) != 0)=true:=by rw [bne,beq_eq_false_iff_ne.2 (by omega)];rfl
     have HR:Hid (stFault (.mk 8 nn tt es bd el)=exsFault es):=by show _=_;rw [stFault,HO.out,if_neg (by simp),if_pos hz]
     clear hz;go_wp2_with fail;go_ret;exact⟨by rw [HR.out];rfl,HB3.out⟩
    have hz1:(((exsFault es:Nat):Int) != 0)=false:=by rw [hz];rfl
    have HZ:=Lib.hid hz;clear hz;have HC:Hid (¬ ((8:Int)=9∧headKind es≠9∧headKind es≠10)):=by show ¬ _;omega
    go_wp2_with fail;refine (ref_stmts d (Lib.hid IH.out) _ _ _ _ _ (H2.out _ HB3.out) BB.out).mono ?_;rintro e w4 ⟨rfl,hb9⟩;have HB4:=Lib.hid (HB3.out.trans (hb9.mono HB3.out.size));have hs4:w.heap.size<w4.heap.size:=Nat.lt_of_lt_of_le hs3 hb9.size;have u45:w4.cell? ⟨w.heap.size,5,none⟩=some (.slice ab el.length cb):=(hb9.cell (p:=⟨w.heap.size,5,none⟩) hs3).trans u35;clear hb9 u33 u34 u35
    by_cases hy:stsFault bd=0
    rotate_left
    ·have hy1:(((stsFault bd:Nat):Int) != 0)=true:=by rw [bne,beq_eq_false_iff_ne.2 (by omega)];rfl
     have HR:Hid (stFault (.mk 8 nn tt es bd el)=stsFault bd):=by show _=_;rw [stFault,HO.out,if_neg (by simp),if_neg (by rw [HZ.out];simp),if_neg HC.out,if_pos hy]
     clear hy;go_wp2_with fail;go_ret;exact⟨by rw [HR.out];rfl,HB4.out⟩
    have hy1:(((stsFault bd:Nat):Int) != 0)=false:=by rw [hy];rfl
    have HR:Hid (stFault (.mk 8 nn tt es bd el)=stsFault el):=by show _=_;rw [stFault,HO.out,if_neg (by simp),if_neg (by rw [HZ.out];simp),if_neg HC.out,if_neg (by rw [hy];simp)]
    clear hy;go_wp2_with fail;refine (ref_stmts d (Lib.hid IH.out) _ _ _ _ _ (H3.out _ HB4.out) BL.out).mono ?_;rintro e w5 ⟨rfl,hb9⟩;have HB5:=Lib.hid (HB4.out.trans (hb9.mono HB4.out.size));have hs5:w.heap.size<w5.heap.size:=Nat.lt_of_lt_of_le hs4 hb9.size;clear hb9 u45;go_wp2_with fail;go_ret;exact⟨by rw [HR.out];rfl,HB5.out⟩
   by_cases hk9:k=9
   ·subst hk9
    by_cases hnn:nn=[]
    rotate_left
    ·have enn:=isEmpty_pos (strOf nn) (by rw [strOf_size];exact List.length_pos_iff.2 hnn);have HO:Hid (stOwn 9 nn tt es.length bd.length el.length=1):=by show _=_;simp [stOwn,namedS,typedS,bodiedS,hnn]
     have HR:Hid (stFault (.mk 9 nn tt es bd el)=1):=by show _=_;rw [stFault,HO.out];rfl
     go_enter Tryd.func71,Tryd.ntmps71;go_wp2_with fail;go_ret;exact⟨by rw [HR.out];rfl,((Below.refl _ _).alloc (Nat.le_refl _) _)⟩
    have enn:=isEmpty_zero (strOf nn) (by rw [strOf_size,hnn];rfl);have Hnn:=Lib.hid hnn;clear hnn
    by_cases htt:tt=[]
    rotate_left
    ·have ett:=isEmpty_pos (strOf tt) (by rw [strOf_size];exact List.length_pos_iff.2 htt);have HO:Hid (stOwn 9 nn tt es.length bd.length el.length=1):=by show _=_;simp [stOwn,namedS,typedS,bodiedS,Hnn.out,htt]
     have HR:Hid (stFault (.mk 9 nn tt es bd el)=1):=by show _=_;rw [stFault,HO.out];rfl
     go_enter Tryd.func71,Tryd.ntmps71;go_wp2_with fail;go_ret;exact⟨by rw [HR.out];rfl,((Below.refl _ _).alloc (Nat.le_refl _) _)⟩
    have ett:=isEmpty_zero (strOf tt) (by rw [strOf_size,htt];rfl);have Htt:=Lib.hid htt;clear htt
    by_cases hb:0<bd.length
    ·skip
     have HO:Hid (stOwn 9 nn tt es.length bd.length el.length=1):=by show _=_;simp [stOwn,namedS,typedS,bodiedS,Hnn.out,Htt.out,hb]
     have HR:Hid (stFault (.mk 9 nn tt es bd el)=1):=by show _=_;rw [stFault,HO.out];rfl
     go_enter Tryd.func71,Tryd.ntmps71;go_wp2_with fail;go_ret;exact⟨by rw [HR.out];rfl,((Below.refl _ _).alloc (Nat.le_refl _) _)⟩
    have hbz:bd.length=0:=by omega
    have LZbd:=Lib.hid hbz;clear hbz
    by_cases hl:0<el.length
    ·skip
     have HO:Hid (stOwn 9 nn tt es.length bd.length el.length=1):=by show _=_;simp [stOwn,namedS,typedS,bodiedS,Hnn.out,Htt.out,LZbd.out,hl]
     have HR:Hid (stFault (.mk 9 nn tt es bd el)=1):=by show _=_;rw [stFault,HO.out];rfl
     go_enter Tryd.func71,Tryd.ntmps71;go_wp2_with fail;go_ret;exact⟨by rw [HR.out];rfl,((Below.refl _ _).alloc (Nat.le_refl _) _)⟩
    have hlz:el.length=0:=by omega
    have LZel:=Lib.hid hlz;clear hlz;cases hx:exprsOk 9 es.length
    ·have HO:Hid (stOwn 9 nn tt es.length bd.length el.length=1):=by show _=_;simp [stOwn,namedS,typedS,bodiedS,Hnn.out,Htt.out,LZbd.out,LZel.out,hx]
     have HR:Hid (stFault (.mk 9 nn tt es bd el)=1):=by show _=_;rw [stFault,HO.out];rfl
     go_enter Tryd.func71,Tryd.ntmps71;go_wp2_with fail;refine (ref_exprs _ _ _ _ _ _ _ _ _ _ _ _ _).mono ?_;rintro e w2 ⟨rfl,hb9⟩;have HB2:=Lib.hid (((Below.refl _ _).alloc (Nat.le_refl _) _).trans (hb9.mono (by simp)));have hs2:w.heap.size<w2.heap.size:=by have:=hb9.size;simp at this;omega
     clear hb9;go_wp2_with fail;go_ret;exact⟨by rw [HR.out];rfl,HB2.out⟩
    have HX:=Lib.hid hx;have HLEN:Hid (es.length=1):=by show _=_;have h:=HX.out;simpa [exprsOk] using h
    go_enter Tryd.func71,Tryd.ntmps71;go_wp2_with fail;refine (ref_exprs _ _ _ _ _ _ _ _ _ _ _ _ _).mono ?_;rintro e w2 ⟨rfl,hb9⟩;have HB2:=Lib.hid (((Below.refl _ _).alloc (Nat.le_refl _) _).trans (hb9.mono (by simp)));have hs2:w.heap.size<w2.heap.size:=by have:=hb9.size;simp at this;omega
    have u21:w2.cell? ⟨w.heap.size,1,none⟩=some (.string (strOf nn)):=(hb9.cell (p:=⟨w.heap.size,1,none⟩) (by simp)).trans (by simp [go_sem]);have u22:w2.cell? ⟨w.heap.size,2,none⟩=some (.string (strOf tt)):=(hb9.cell (p:=⟨w.heap.size,2,none⟩) (by simp)).trans (by simp [go_sem]);have u23:w2.cell? ⟨w.heap.size,3,none⟩=some (.slice a es.length c):=(hb9.cell (p:=⟨w.heap.size,3,none⟩) (by simp)).trans (by simp [go_sem]);have u24:w2.cell? ⟨w.heap.size,4,none⟩=some (.slice aa bd.length cc):=(hb9.cell (p:=⟨w.heap.size,4,none⟩) (by simp)).trans (by simp [go_sem]);have u25:w2.cell? ⟨w.heap.size,5,none⟩=some (.slice ab el.length cb):=(hb9.cell (p:=⟨w.heap.size,5,none⟩) (by simp)).trans (by simp [go_sem]);clear hb9;have HO:Hid (stOwn 9 nn tt es.length bd.length el.length=0):=by show _=_;simp [stOwn,namedS,typedS,bodiedS,Hnn.out,Htt.out,LZbd.out,LZel.out,HX.out]
    go_wp2_with fail;refine (ref_Faults d _ _ _ _ _ (H1.out _ HB2.out) BE.out).mono ?_;rintro e w3 ⟨rfl,hb9⟩;have HB3:=Lib.hid (HB2.out.trans (hb9.mono HB2.out.size));have hs3:w.heap.size<w3.heap.size:=Nat.lt_of_lt_of_le hs2 hb9.size;have u33:w3.cell? ⟨w.heap.size,3,none⟩=some (.slice a es.length c):=(hb9.cell (p:=⟨w.heap.size,3,none⟩) hs2).trans u23;have u34:w3.cell? ⟨w.heap.size,4,none⟩=some (.slice aa bd.length cc):=(hb9.cell (p:=⟨w.heap.size,4,none⟩) hs2).trans u24;have u35:w3.cell? ⟨w.heap.size,5,none⟩=some (.slice ab el.length cb):=(hb9.cell (p:=⟨w.heap.size,5,none⟩) hs2).trans u25;clear hb9 u21 u22 u23 u24 u25
    by_cases hz:exsFault es=0
    rotate_left
    ·have hz1:(((exsFault es:Nat):Int) != 0)=true:=by rw [bne,beq_eq_false_iff_ne.2 (by omega)];rfl
     have HR:Hid (stFault (.mk 9 nn tt es bd el)=exsFault es):=by show _=_;rw [stFault,HO.out,if_neg (by simp),if_pos hz]
     clear hz;go_wp2_with fail;go_ret;exact⟨by rw [HR.out];rfl,HB3.out⟩
    have hz1:(((exsFault es:Nat):Int) != 0)=false:=by rw [hz];rfl
    have HZ:=Lib.hid hz;clear hz;obtain⟨g,off,k1,m1,o1,nm1,a1,n1,c1,rfl,hgl,x0,_,_,_,_,hx⟩:=HAT.out 0 (by rw [HLEN.out];omega);have y0:w3.cell? ⟨g,off,none⟩=some (.int .i64 k1):=(HB3.out.cell (p:=⟨g,off,none⟩) hgl).trans (by simpa using x0);have hgw:g<w3.heap.size:=Nat.lt_of_lt_of_le hgl HB3.out.size;have hpos:(0:Int)<(es.length:Int):=by rw [HLEN.out];omega
    have HH:Hid (headKind es=k1):=by
     show _=_
     have h1:=hx.kindEqR
     match es,HLEN.out,h1 with
     | [x],_,h1=>exact h1
    clear hx x0
    by_cases hc:k1≠9∧k1≠10
    ·have q9:(k1 != 9)=true:=by rw [bne_iff_ne];exact hc.1
     have q10:(k1 != 10)=true:=by rw [bne_iff_ne];exact hc.2
     have HR:Hid (stFault (.mk 9 nn tt es bd el)=12):=by show _=_;rw [stFault,HO.out,if_neg (by simp),if_neg (by rw [HZ.out];simp),if_pos ⟨rfl,by rw [HH.out];exact hc.1,by rw [HH.out];exact hc.2⟩]
     clear hc;go_wp2_with fail;go_ret;exact⟨by rw [HR.out];rfl,HB3.out⟩
    have HC:Hid (headKind es=9∨headKind es=10):=by show _∨_;rw [HH.out];omega
    obtain⟨b9,hb9,b10,hb10⟩:∃ b9,(k1 != 9)=b9∧∃ b10,(k1 != 10)=b10:=⟨_,rfl,_,rfl⟩;have hbb:b9=false∨b10=false:=by
     rw [← hb9,← hb10,bne_eq_false_iff_eq,bne_eq_false_iff_eq];omega
    clear hc;rcases hbb with hbb | hbb
    ·subst hbb;go_wp2_with fail;refine (ref_stmts d (Lib.hid IH.out) _ _ _ _ _ (H2.out _ HB3.out) BB.out).mono ?_;rintro e w4 ⟨rfl,hb9⟩;have HB4:=Lib.hid (HB3.out.trans (hb9.mono HB3.out.size));have hs4:w.heap.size<w4.heap.size:=Nat.lt_of_lt_of_le hs3 hb9.size;have u45:w4.cell? ⟨w.heap.size,5,none⟩=some (.slice ab el.length cb):=(hb9.cell (p:=⟨w.heap.size,5,none⟩) hs3).trans u35;clear hb9 u33 u34 u35 y0
     by_cases hy:stsFault bd=0
     rotate_left
     ·have hy1:(((stsFault bd:Nat):Int) != 0)=true:=by rw [bne,beq_eq_false_iff_ne.2 (by omega)];rfl
      have HR:Hid (stFault (.mk 9 nn tt es bd el)=stsFault bd):=by show _=_;rw [stFault,HO.out,if_neg (by simp),if_neg (by rw [HZ.out];simp),if_neg (fun h=>HC.out.elim h.2.1 h.2.2),if_pos hy]
      clear hy;go_wp2_with fail;go_ret;exact⟨by rw [HR.out];rfl,HB4.out⟩
     have hy1:(((stsFault bd:Nat):Int) != 0)=false:=by rw [hy];rfl
     have HR:Hid (stFault (.mk 9 nn tt es bd el)=stsFault el):=by show _=_;rw [stFault,HO.out,if_neg (by simp),if_neg (by rw [HZ.out];simp),if_neg (fun h=>HC.out.elim h.2.1 h.2.2),if_neg (by rw [hy];simp)]
     clear hy;go_wp2_with fail;refine (ref_stmts d (Lib.hid IH.out) _ _ _ _ _ (H3.out _ HB4.out) BL.out).mono ?_;rintro e w5 ⟨rfl,hb9⟩;have HB5:=Lib.hid (HB4.out.trans (hb9.mono HB4.out.size));have hs5:w.heap.size<w5.heap.size:=Nat.lt_of_lt_of_le hs4 hb9.size;clear hb9 u45;go_wp2_with fail;go_ret;exact⟨by rw [HR.out];rfl,HB5.out⟩
    ·cases b9
     ·subst hbb;go_wp2_with fail;refine (ref_stmts d (Lib.hid IH.out) _ _ _ _ _ (H2.out _ HB3.out) BB.out).mono ?_;rintro e w4 ⟨rfl,hb9⟩;have HB4:=Lib.hid (HB3.out.trans (hb9.mono HB3.out.size));have hs4:w.heap.size<w4.heap.size:=Nat.lt_of_lt_of_le hs3 hb9.size;have u45:w4.cell? ⟨w.heap.size,5,none⟩=some (.slice ab el.length cb):=(hb9.cell (p:=⟨w.heap.size,5,none⟩) hs3).trans u35;clear hb9 u33 u34 u35 y0
      by_cases hy:stsFault bd=0
      rotate_left
      ·have hy1:(((stsFault bd:Nat):Int) != 0)=true:=by rw [bne,beq_eq_false_iff_ne.2 (by omega)];rfl
       have HR:Hid (stFault (.mk 9 nn tt es bd el)=stsFault bd):=by show _=_;rw [stFault,HO.out,if_neg (by simp),if_neg (by rw [HZ.out];simp),if_neg (fun h=>HC.out.elim h.2.1 h.2.2),if_pos hy]
       clear hy;go_wp2_with fail;go_ret;exact⟨by rw [HR.out];rfl,HB4.out⟩
      have hy1:(((stsFault bd:Nat):Int) != 0)=false:=by rw [hy];rfl
      have HR:Hid (stFault (.mk 9 nn tt es bd el)=stsFault el):=by show _=_;rw [stFault,HO.out,if_neg (by simp),if_neg (by rw [HZ.out];simp),if_neg (fun h=>HC.out.elim h.2.1 h.2.2),if_neg (by rw [hy];simp)]
      clear hy;go_wp2_with fail;refine (ref_stmts d (Lib.hid IH.out) _ _ _ _ _ (H3.out _ HB4.out) BL.out).mono ?_;rintro e w5 ⟨rfl,hb9⟩;have HB5:=Lib.hid (HB4.out.trans (hb9.mono HB4.out.size));have hs5:w.heap.size<w5.heap.size:=Nat.lt_of_lt_of_le hs4 hb9.size;clear hb9 u45;go_wp2_with fail;go_ret;exact⟨by rw [HR.out];rfl,HB5.out⟩
     ·subst hbb;go_wp2_with fail;refine (ref_stmts d (Lib.hid IH.out) _ _ _ _ _ (H2.out _ HB3.out) BB.out).mono ?_;rintro e w4 ⟨rfl,hb9⟩;have HB4:=Lib.hid (HB3.out.trans (hb9.mono HB3.out.size));have hs4:w.heap.size<w4.heap.size:=Nat.lt_of_lt_of_le hs3 hb9.size;have u45:w4.cell? ⟨w.heap.size,5,none⟩=some (.slice ab el.length cb):=(hb9.cell (p:=⟨w.heap.size,5,none⟩) hs3).trans u35;clear hb9 u33 u34 u35 y0
      by_cases hy:stsFault bd=0
      rotate_left
      ·have hy1:(((stsFault bd:Nat):Int) != 0)=true:=by rw [bne,beq_eq_false_iff_ne.2 (by omega)];rfl
       have HR:Hid (stFault (.mk 9 nn tt es bd el)=stsFault bd):=by show _=_;rw [stFault,HO.out,if_neg (by simp),if_neg (by rw [HZ.out];simp),if_neg (fun h=>HC.out.elim h.2.1 h.2.2),if_pos hy]
       clear hy;go_wp2_with fail;go_ret;exact⟨by rw [HR.out];rfl,HB4.out⟩
      have hy1:(((stsFault bd:Nat):Int) != 0)=false:=by rw [hy];rfl
      have HR:Hid (stFault (.mk 9 nn tt es bd el)=stsFault el):=by show _=_;rw [stFault,HO.out,if_neg (by simp),if_neg (by rw [HZ.out];simp),if_neg (fun h=>HC.out.elim h.2.1 h.2.2),if_neg (by rw [hy];simp)]
      clear hy;go_wp2_with fail;refine (ref_stmts d (Lib.hid IH.out) _ _ _ _ _ (H3.out _ HB4.out) BL.out).mono ?_;rintro e w5 ⟨rfl,hb9⟩;have HB5:=Lib.hid (HB4.out.trans (hb9.mono HB4.out.size));have hs5:w.heap.size<w5.heap.size:=Nat.lt_of_lt_of_le hs4 hb9.size;clear hb9 u45;go_wp2_with fail;go_ret;exact⟨by rw [HR.out];rfl,HB5.out⟩
   have hr:k<1∨9<k:=by omega
   have HO:Hid (stOwn k nn tt es.length bd.length el.length=12):=by show _=_;unfold stOwn;rw [if_pos hr]
   have HR:Hid (stFault (.mk k nn tt es bd el)=12):=by show _=_;rw [stFault,HO.out];rfl
   rcases hr with hr | hr
   ·go_enter Tryd.func71,Tryd.ntmps71;go_wp2_with fail;go_ret;exact⟨by rw [HR.out];rfl,((Below.refl _ _).alloc (Nat.le_refl _) _)⟩
   ·have hr2:decide (k<1)=false:=by rw [decide_eq_false_iff_not];omega
    go_enter Tryd.func71,Tryd.ntmps71;go_wp2_with fail;go_ret;exact⟨by rw [HR.out];rfl,((Below.refl _ _).alloc (Nat.le_refl _) _)⟩
end Go.Proofs.YtmlafcimjhnhhaaDoor
