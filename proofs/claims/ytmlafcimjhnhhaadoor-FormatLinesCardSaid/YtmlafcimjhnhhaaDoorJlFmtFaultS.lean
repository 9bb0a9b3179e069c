/-
  format's faults of statements, walked (printed by genfault2.py).
-/
import Derived.Test.YtmlafcimjhnhhaaDoorJlFmtFaultE
set_option linter.unusedSectionVars false
set_option linter.unusedSimpArgs false
set_option linter.unnecessarySimpa false
set_option linter.unusedVariables false
namespace Go.Proofs.YtmlafcimjhnhhaaDoor
open Lx Go.RowKit
set_option linter.unusedSimpArgs false
theorem IsEx.kindEq {A:Nat→Prop}{w:World}{d:Nat}{e:Ex}{k n:Int}{o m:ByteArray}{v:Value}(h:IsEx A w d e [.int .i64 k,.int .i64 n,.string o,.string m,v]):e.kind=k:=by
 cases d with
 | zero=>exact absurd h (by simp [IsEx])
 | succ d=>obtain⟨oo,mm,ks,rfl,_⟩:=h.flds;rfl
theorem fmt_isType (t:Bytes)(w:World)(ht:t.length≤maxLen)(hL:KwIs w):Calls Tryd.prog 48 #[.string (strOf t)] w fun e w'=>e=.returned (.bool (isType t))∧w=w':=by
 have HL:=Lib.hid hL;have HT:=Lib.hid ht;clear hL ht
 by_cases h:t=[105,110,116]
 ·have q:((strOf t).toList == [105,110,116])=true:=by rw [ByteArray.toList_eq,strOf_data,h];rfl
  have HR:Hid (isType t=true):=by show _=_;rw [h];rfl
  clear h;go_enter Tryd.func48,Tryd.ntmps48;go_wp2_with fail;go_ret;exact⟨by rw [HR.out];rfl,rfl⟩
 ·have q:((strOf t).toList == [105,110,116])=false:=by rw [ByteArray.toList_eq,strOf_data,beq_eq_false_iff_ne];exact h
  have HR:Hid (isType t=isIdent t):=by show _=_;unfold isType;rw [beq_eq_false_iff_ne.2 h];rfl
  clear h;go_enter Tryd.func48,Tryd.ntmps48;go_wp2_with fail;refine (fm_ident0 _ _ (by rw [strOf_size];exact HT.out) HL.out).mono ?_;rintro e w' ⟨rfl,rfl⟩;rw [strOf_data];go_wp2_with fail;go_ret;exact⟨by rw [HR.out];rfl,rfl⟩
set_option maxHeartbeats 2000000 in
theorem fmt_stmtFaults (d:Nat)(hK:Hid (∀ (e:St) (k:Int) (o m:ByteArray) (a:Option Addr) (l c:Nat) (aa:Option Addr) (ll cc:Nat) (ab:Option Addr) (lb cb:Nat) (w:World),IsSt Any w d e [.int .i64 k,.string o,.string m,.slice a l c,.slice aa ll cc,.slice ab lb cb]→StB d e→KwIs w→Calls Tryd.prog 68 #[.agg #[.int .i64 k,.string o,.string m,.slice a l c,.slice aa ll cc,.slice ab lb cb]] w fun r w'=>r=.returned (.int .i64 (stFault e:Int))∧Below w.heap.size w w'))(l:List St)(a:Option Addr)(n c:Nat)(w:World)(h:IsList Any w 6 (IsSt Any w d) l (.slice a n c))(hB:∀ x∈l,StB d x)(hL:KwIs w) :
  Calls Tryd.prog 49 #[.slice a n c] w fun r w'=>r=.returned (.int .i64 (stsFault l:Int))∧Below w.heap.size w w':=by
 obtain⟨rfl,hm,hat⟩:=h.stAt;unfold maxLen at hm;have HAT:=Lib.hid hat;have HBX:=Lib.hid hB;have HL:=Lib.hid hL;have HR:=Lib.hid (stsFault_first l);clear h hat hB hL;go_enter Tryd.func49,Tryd.ntmps49;go_wp2_with fail
 go_loopw [8] (fun i wr=>LimRelF stFault l w i wr) (fun i _=>l.length-(intOf i).toNat)
 case atStart=>exact⟨0,Nat.zero_le _,rfl,fun k hk=>by omega,.refl _ _⟩
 case round =>
  obtain⟨j,hj,rfl,h0,hb⟩:=hrel;have H0:=Lib.hid h0;clear h0
  by_cases hlt:j<l.length
  ·obtain⟨g,off,k1,s1,t1,e1,r1,q1,a2,n2,c2,a3,n3,c3,rfl,hgl,⟨x0,x1,x2,x3,x4,x5⟩,hx⟩:=HAT.out j hlt;rw [← hb.cell (p:=⟨g,_,none⟩) hgl] at x0 x1 x2 x3 x4 x5;have hgw:g<wr.heap.size:=Nat.lt_of_lt_of_le hgl hb.size;have hx2:=IsSt.kept (kept_any hb) _ _ _ hx;have HX:=Lib.hid (IsSt.kept (kept_alloc wr (.cells #[.int .i64 k1,.string s1,.string t1,.slice e1 r1 q1,.slice a2 n2 c2,.slice a3 n3 c3] 81)) _ _ _ hx2);have HB:=Lib.hid hb;have hj1:(j:Int)<(l.length:Int):=by omega
   have hj0:(0:Int)≤(j:Int):=by omega
   clear hb hx hx2;go_wp2_with fail;refine (hK.out _ _ _ _ _ _ _ _ _ _ _ _ _ _ HX.out (HBX.out _ (List.getElem_mem hlt)) ((HL.out.below HB.out (Nat.le_refl _)).alloc _)).mono ?_;rintro e w3 ⟨rfl,hb3⟩;have HB3:=Lib.hid (HB.out.trans ((((Below.refl _ _).alloc (Nat.le_refl _) _).trans (hb3.mono (by simp))).mono HB.out.size));clear hb3 x0 x1 x2 x3 x4 x5
   by_cases hz:stFault l[j]=0
   ·have HZ:=Lib.hid hz;have hz1:(((stFault l[j]:Nat):Int) != 0)=false:=by rw [hz];rfl
    clear hz;go_wp2_with fail
    go_roundw
    case rel =>
     refine⟨j+1,by omega,by go_num,fun k hk=>?_,HB3.out⟩
     by_cases hkj:k<j
     ·exact H0.out k hkj
     ·obtain rfl:k=j:=by omega
      exact HZ.out
    case measure=>simp [intOf];omega
   ·have hz1:(((stFault l[j]:Nat):Int) != 0)=true:=by rw [bne,beq_eq_false_iff_ne.2 (by omega)];rfl
    have HZ:=Lib.hid hz;clear hz;go_wp2_with fail;go_ret;refine⟨?_,HB3.out⟩;rw [HR.out,firstLim_take _ _ j hlt H0.out,if_pos HZ.out];rfl
  ·have HB:=Lib.hid hb;clear hb;go_wp2_with fail;go_ret;refine⟨?_,HB.out⟩;rw [HR.out,firstLim_zero _ _ fun i hi=>H0.out i (by omega)];rfl
set_option maxHeartbeats 8000000 in
theorem fmt_stmtFault (d:Nat):∀ (e:St) (k:Int) (o m:ByteArray) (a:Option Addr) (l c:Nat) (aa:Option Addr) (ll cc:Nat) (ab:Option Addr) (lb cb:Nat) (w:World),IsSt Any w d e [.int .i64 k,.string o,.string m,.slice a l c,.slice aa ll cc,.slice ab lb cb]→StB d e→KwIs w→Calls Tryd.prog 68 #[.agg #[.int .i64 k,.string o,.string m,.slice a l c,.slice aa ll cc,.slice ab lb cb]] w fun r w'=>r=.returned (.int .i64 (stFault e:Int))∧Below w.heap.size w w':=by
 induction d with
 | zero=>intro e k o m a l c aa ll cc ab lb cb w h;exact absurd h (by simp [IsSt])
 | succ d ih =>
   intro e k o m a l c aa ll cc ab lb cb w h hB hL;obtain⟨nn,tt,es,bd,el,rfl,rfl,rfl,hl1,hl2,hl3⟩:=h.flds;obtain⟨rfl,hkl,hat⟩:=hl1.exAt;obtain rfl:=hl2.len.1;obtain rfl:=hl3.len.1;have hbl:=hl2.len.2;have hel:=hl3.len.2;unfold maxLen at hkl hbl hel;obtain⟨_,hnn,htt,hes,hbd,hll⟩:=hB;have HAT:=Lib.hid hat;have H1:Hid (∀ x,Below w.heap.size w x→IsList Any x 5 (IsEx Any x d) es (.slice a es.length c)):=fun x hx=>hl1.kept (kept_any hx) (by omega) fun _ _ _=>IsEx.kept (kept_any hx) _ _ _
   have H2:Hid (∀ x,Below w.heap.size w x→IsList Any x 6 (IsSt Any x d) bd (.slice aa bd.length cc)):=fun x hx=>hl2.kept (kept_any hx) (by omega) fun _ _ _=>IsSt.kept (kept_any hx) _ _ _
   have H3:Hid (∀ x,Below w.heap.size w x→IsList Any x 6 (IsSt Any x d) el (.slice ab el.length cb)):=fun x hx=>hl3.kept (kept_any hx) (by omega) fun _ _ _=>IsSt.kept (kept_any hx) _ _ _
   have Bnn:=Lib.hid hnn;have Btt:=Lib.hid htt;have BE:=Lib.hid hes;have BB:=Lib.hid hbd;have BL:=Lib.hid hll;have HL:=Lib.hid hL;have IH:=Lib.hid ih;clear h hl1 hl2 hl3 hnn htt hes hbd hll hL ih hat
   by_cases hk1:k=1
   ·subst hk1
    by_cases hb:0<bd.length
    ·skip
     have HO:Hid (stOwn 1 nn tt es.length bd.length el.length=1):=by show _=_;simp [stOwn,namedS,typedS,bodiedS,exprsOk,hb]
     have HR:Hid (stFault (.mk 1 nn tt es bd el)=1):=by show _=_;rw [stFault,HO.out];rfl
     go_enter Tryd.func68,Tryd.ntmps68;go_wp2_with fail;go_ret;exact⟨by rw [HR.out];rfl,((Below.refl _ _).alloc (Nat.le_refl _) _)⟩
    have hbz:bd.length=0:=by omega
    have HB2:=Lib.hid hbz;clear hbz
    by_cases hl:0<el.length
    ·skip
     have HO:Hid (stOwn 1 nn tt es.length bd.length el.length=1):=by show _=_;simp [stOwn,namedS,typedS,bodiedS,exprsOk,HB2.out,hl]
     have HR:Hid (stFault (.mk 1 nn tt es bd el)=1):=by show _=_;rw [stFault,HO.out];rfl
     go_enter Tryd.func68,Tryd.ntmps68;go_wp2_with fail;go_ret;exact⟨by rw [HR.out];rfl,((Below.refl _ _).alloc (Nat.le_refl _) _)⟩
    have hlz:el.length=0:=by omega
    have HL2:=Lib.hid hlz;clear hlz
    by_cases h8:1<es.length
    ·have h8n:¬ es.length≤1:=by omega
     have HO:Hid (stOwn 1 nn tt es.length bd.length el.length=1):=by show _=_;simp [stOwn,namedS,typedS,bodiedS,exprsOk,HB2.out,HL2.out,h8n]
     have HR:Hid (stFault (.mk 1 nn tt es bd el)=1):=by show _=_;rw [stFault,HO.out];rfl
     go_enter Tryd.func68,Tryd.ntmps68;go_wp2_with fail;go_ret;exact⟨by rw [HR.out];rfl,((Below.refl _ _).alloc (Nat.le_refl _) _)⟩
    have hlen:es.length≤1:=by omega
    have HLEN:=Lib.hid hlen;clear hlen;cases hInn:isIdent nn
    ·have HO:Hid (stOwn 1 nn tt es.length bd.length el.length=5):=by show _=_;simp [stOwn,namedS,typedS,bodiedS,exprsOk,HB2.out,HL2.out,HLEN.out,hInn]
     have HR:Hid (stFault (.mk 1 nn tt es bd el)=5):=by show _=_;rw [stFault,HO.out];rfl
     rw [← strOf_data nn] at hInn;go_enter Tryd.func68,Tryd.ntmps68;go_wp2_with fail;refine (fm_ident0 _ _ (by rw [strOf_size];exact Bnn.out) (HL.out.alloc _)).mono ?_;rintro e w' ⟨rfl,rfl⟩;go_wp2_with fail;go_ret;exact⟨by rw [HR.out];rfl,((Below.refl _ _).alloc (Nat.le_refl _) _)⟩
    have HInn:=Lib.hid hInn;rw [← strOf_data nn] at hInn;go_enter Tryd.func68,Tryd.ntmps68;go_wp2_with fail;refine (fm_ident0 _ _ (by rw [strOf_size];exact Bnn.out) (HL.out.alloc _)).mono ?_;rintro e w' ⟨rfl,rfl⟩;cases hItt:isType tt
    ·have HO:Hid (stOwn 1 nn tt es.length bd.length el.length=8):=by show _=_;simp [stOwn,namedS,typedS,bodiedS,exprsOk,HB2.out,HL2.out,HLEN.out,HInn.out,hItt]
     have HR:Hid (stFault (.mk 1 nn tt es bd el)=8):=by show _=_;rw [stFault,HO.out];rfl
     go_wp2_with fail;refine (fmt_isType _ _ Btt.out (HL.out.alloc _)).mono ?_;rintro e w' ⟨rfl,rfl⟩;go_wp2_with fail;go_ret;exact⟨by rw [HR.out];rfl,((Below.refl _ _).alloc (Nat.le_refl _) _)⟩
    have HItt:=Lib.hid hItt;go_wp2_with fail;refine (fmt_isType _ _ Btt.out (HL.out.alloc _)).mono ?_;rintro e w' ⟨rfl,rfl⟩;have HO:Hid (stOwn 1 nn tt es.length bd.length el.length=0):=by show _=_;simp [stOwn,namedS,typedS,bodiedS,exprsOk,HB2.out,HL2.out,HLEN.out,HInn.out,HItt.out]
    go_wp2_with fail;refine (fmt_exprFaults d (Lib.hid (fmt_exprFault d)) _ _ _ _ _ (H1.out _ ((Below.refl _ _).alloc (Nat.le_refl _) _)) BE.out (HL.out.alloc _)).mono ?_;rintro e w2 ⟨rfl,hb2⟩;have HB2:=Lib.hid (((Below.refl _ _).alloc (Nat.le_refl _) _).trans (hb2.mono (by simp)));have hs2:w.heap.size<w2.heap.size:=by have:=hb2.size;simp at this;omega
    have u0:w2.cell? ⟨w.heap.size,0,none⟩=some (.int .i64 1):=(hb2.cell (p:=⟨w.heap.size,0,none⟩) (by simp)).trans (by simp [go_sem]);have u4:w2.cell? ⟨w.heap.size,4,none⟩=some (.slice aa bd.length cc):=(hb2.cell (p:=⟨w.heap.size,4,none⟩) (by simp)).trans (by simp [go_sem]);have u5:w2.cell? ⟨w.heap.size,5,none⟩=some (.slice ab el.length cb):=(hb2.cell (p:=⟨w.heap.size,5,none⟩) (by simp)).trans (by simp [go_sem]);clear hb2
    by_cases hz:exsFault es=0
    rotate_left
    ·have hz1:(((exsFault es:Nat):Int) != 0)=true:=by rw [bne,beq_eq_false_iff_ne.2 (by omega)];rfl
     have HR:Hid (stFault (.mk 1 nn tt es bd el)=exsFault es):=by show _=_;rw [stFault,HO.out,if_neg (by simp),if_pos hz]
     clear hz;go_wp2_with fail;go_ret;exact⟨by rw [HR.out];rfl,HB2.out⟩
    have hz1:(((exsFault es:Nat):Int) != 0)=false:=by rw [hz];rfl
    have HZ:=Lib.hid hz;clear hz;have HC:Hid (¬ ((1:Int)=9∧headKind es≠9∧headKind es≠10)):=by show ¬ _;omega
    go_wp2_with fail;refine (fmt_stmtFaults d (Lib.hid IH.out) _ _ _ _ _ (H2.out _ HB2.out) BB.out (HL.out.below HB2.out (Nat.le_refl _))).mono ?_;rintro e w3 ⟨rfl,hb3⟩;have HB3:=Lib.hid (HB2.out.trans (hb3.mono HB2.out.size));have v5:w3.cell? ⟨w.heap.size,5,none⟩=some (.slice ab el.length cb):=(hb3.cell (p:=⟨w.heap.size,5,none⟩) hs2).trans u5;have hs3:w.heap.size<w3.heap.size:=Nat.lt_of_lt_of_le hs2 hb3.size;clear hb3 u0 u4 u5
    by_cases hy:stsFault bd=0
    rotate_left
    ·have hy1:(((stsFault bd:Nat):Int) != 0)=true:=by rw [bne,beq_eq_false_iff_ne.2 (by omega)];rfl
     have HR:Hid (stFault (.mk 1 nn tt es bd el)=stsFault bd):=by show _=_;rw [stFault,HO.out,if_neg (by simp),if_neg (by rw [HZ.out];simp),if_neg HC.out,if_pos hy]
     clear hy;go_wp2_with fail;go_ret;exact⟨by rw [HR.out];rfl,HB3.out⟩
    have hy1:(((stsFault bd:Nat):Int) != 0)=false:=by rw [hy];rfl
    have HR:Hid (stFault (.mk 1 nn tt es bd el)=stsFault el):=by show _=_;rw [stFault,HO.out,if_neg (by simp),if_neg (by rw [HZ.out];simp),if_neg HC.out,if_neg (by rw [hy];simp)]
    clear hy;go_wp2_with fail;refine (fmt_stmtFaults d (Lib.hid IH.out) _ _ _ _ _ (H3.out _ HB3.out) BL.out (HL.out.below HB3.out (Nat.le_refl _))).mono ?_;rintro e w4 ⟨rfl,hb4⟩;have HB4:=Lib.hid (HB3.out.trans (hb4.mono HB3.out.size));clear hb4 v5;go_wp2_with fail;go_ret;exact⟨by rw [HR.out];rfl,HB4.out⟩
   by_cases hk2:k=2
   ·subst hk2
    by_cases htt:tt=[]
    rotate_left
    ·have ett:=isEmpty_pos (strOf tt) (by rw [strOf_size];exact List.length_pos_iff.2 htt);have HO:Hid (stOwn 2 nn tt es.length bd.length el.length=1):=by show _=_;simp [stOwn,namedS,typedS,bodiedS,exprsOk,htt]
     have HR:Hid (stFault (.mk 2 nn tt es bd el)=1):=by show _=_;rw [stFault,HO.out];rfl
     go_enter Tryd.func68,Tryd.ntmps68;go_wp2_with fail;go_ret;exact⟨by rw [HR.out];rfl,((Below.refl _ _).alloc (Nat.le_refl _) _)⟩
    have ett:=isEmpty_zero (strOf tt) (by rw [strOf_size,htt];rfl);have Htt:=Lib.hid htt;clear htt
    by_cases hb:0<bd.length
    ·skip
     have HO:Hid (stOwn 2 nn tt es.length bd.length el.length=1):=by show _=_;simp [stOwn,namedS,typedS,bodiedS,exprsOk,Htt.out,hb]
     have HR:Hid (stFault (.mk 2 nn tt es bd el)=1):=by show _=_;rw [stFault,HO.out];rfl
     go_enter Tryd.func68,Tryd.ntmps68;go_wp2_with fail;go_ret;exact⟨by rw [HR.out];rfl,((Below.refl _ _).alloc (Nat.le_refl _) _)⟩
    have hbz:bd.length=0:=by omega
    have HB2:=Lib.hid hbz;clear hbz
    by_cases hl:0<el.length
    ·skip
     have HO:Hid (stOwn 2 nn tt es.length bd.length el.length=1):=by show _=_;simp [stOwn,namedS,typedS,bodiedS,exprsOk,Htt.out,HB2.out,hl]
     have HR:Hid (stFault (.mk 2 nn tt es bd el)=1):=by show _=_;rw [stFault,HO.out];rfl
     go_enter Tryd.func68,Tryd.ntmps68;go_wp2_with fail;go_ret;exact⟨by rw [HR.out];rfl,((Below.refl _ _).alloc (Nat.le_refl _) _)⟩
    have hlz:el.length=0:=by omega
    have HL2:=Lib.hid hlz;clear hlz
    by_cases h7:es.length<1
    ·have h7n:es.length≠1:=by omega
     have HO:Hid (stOwn 2 nn tt es.length bd.length el.length=1):=by show _=_;simp [stOwn,namedS,typedS,bodiedS,exprsOk,Htt.out,HB2.out,HL2.out,h7n]
     have HR:Hid (stFault (.mk 2 nn tt es bd el)=1):=by show _=_;rw [stFault,HO.out];rfl
     go_enter Tryd.func68,Tryd.ntmps68;go_wp2_with fail;go_ret;exact⟨by rw [HR.out];rfl,((Below.refl _ _).alloc (Nat.le_refl _) _)⟩
    by_cases h8:1<es.length
    ·have h8n:es.length≠1:=by omega
     have HO:Hid (stOwn 2 nn tt es.length bd.length el.length=1):=by show _=_;simp [stOwn,namedS,typedS,bodiedS,exprsOk,Htt.out,HB2.out,HL2.out,h8n]
     have HR:Hid (stFault (.mk 2 nn tt es bd el)=1):=by show _=_;rw [stFault,HO.out];rfl
     go_enter Tryd.func68,Tryd.ntmps68;go_wp2_with fail;go_ret;exact⟨by rw [HR.out];rfl,((Below.refl _ _).alloc (Nat.le_refl _) _)⟩
    have hlen:es.length=1:=by omega
    have HLEN:=Lib.hid hlen;clear hlen;cases hInn:isIdent nn
    ·have HO:Hid (stOwn 2 nn tt es.length bd.length el.length=5):=by show _=_;simp [stOwn,namedS,typedS,bodiedS,exprsOk,Htt.out,HB2.out,HL2.out,HLEN.out,hInn]
     have HR:Hid (stFault (.mk 2 nn tt es bd el)=5):=by show _=_;rw [stFault,HO.out];rfl
     rw [← strOf_data nn] at hInn;go_enter Tryd.func68,Tryd.ntmps68;go_wp2_with fail;refine (fm_ident0 _ _ (by rw [strOf_size];exact Bnn.out) (HL.out.alloc _)).mono ?_;rintro e w' ⟨rfl,rfl⟩;go_wp2_with fail;go_ret;exact⟨by rw [HR.out];rfl,((Below.refl _ _).alloc (Nat.le_refl _) _)⟩
    have HInn:=Lib.hid hInn;rw [← strOf_data nn] at hInn;go_enter Tryd.func68,Tryd.ntmps68;go_wp2_with fail;refine (fm_ident0 _ _ (by rw [strOf_size];exact Bnn.out) (HL.out.alloc _)).mono ?_;rintro e w' ⟨rfl,rfl⟩;have HO:Hid (stOwn 2 nn tt es.length bd.length el.length=0):=by show _=_;simp [stOwn,namedS,typedS,bodiedS,exprsOk,Htt.out,HB2.out,HL2.out,HLEN.out,HInn.out]
    go_wp2_with fail;refine (fmt_exprFaults d (Lib.hid (fmt_exprFault d)) _ _ _ _ _ (H1.out _ ((Below.refl _ _).alloc (Nat.le_refl _) _)) BE.out (HL.out.alloc _)).mono ?_;rintro e w2 ⟨rfl,hb2⟩;have HB2:=Lib.hid (((Below.refl _ _).alloc (Nat.le_refl _) _).trans (hb2.mono (by simp)));have hs2:w.heap.size<w2.heap.size:=by have:=hb2.size;simp at this;omega
    have u0:w2.cell? ⟨w.heap.size,0,none⟩=some (.int .i64 2):=(hb2.cell (p:=⟨w.heap.size,0,none⟩) (by simp)).trans (by simp [go_sem]);have u4:w2.cell? ⟨w.heap.size,4,none⟩=some (.slice aa bd.length cc):=(hb2.cell (p:=⟨w.heap.size,4,none⟩) (by simp)).trans (by simp [go_sem]);have u5:w2.cell? ⟨w.heap.size,5,none⟩=some (.slice ab el.length cb):=(hb2.cell (p:=⟨w.heap.size,5,none⟩) (by simp)).trans (by simp [go_sem]);clear hb2
    by_cases hz:exsFault es=0
    rotate_left
    ·have hz1:(((exsFault es:Nat):Int) != 0)=true:=by rw [bne,beq_eq_false_iff_ne.2 (by omega)];rfl
     have HR:Hid (stFault (.mk 2 nn tt es bd el)=exsFault es):=by show _=_;rw [stFault,HO.out,if_neg (by simp),if_pos hz]
     clear hz;go_wp2_with fail;go_ret;exact⟨by rw [HR.out];rfl,HB2.out⟩
    have hz1:(((exsFault es:Nat):Int) != 0)=false:=by rw [hz];rfl
    have HZ:=Lib.hid hz;clear hz;have HC:Hid (¬ ((2:Int)=9∧headKind es≠9∧headKind es≠10)):=by show ¬ _;omega
    go_wp2_with fail;refine (fmt_stmtFaults d (Lib.hid IH.out) _ _ _ _ _ (H2.out _ HB2.out) BB.out (HL.out.below HB2.out (Nat.le_refl _))).mono ?_;rintro e w3 ⟨rfl,hb3⟩;have HB3:=Lib.hid (HB2.out.trans (hb3.mono HB2.out.size));have v5:w3.cell? ⟨w.heap.size,5,none⟩=some (.slice ab el.length cb):=(hb3.cell (p:=⟨w.heap.size,5,none⟩) hs2).trans u5;have hs3:w.heap.size<w3.heap.size:=Nat.lt_of_lt_of_le hs2 hb3.size;clear hb3 u0 u4 u5
    by_cases hy:stsFault bd=0
    rotate_left
    ·have hy1:(((stsFault bd:Nat):Int) != 0)=true:=by rw [bne,beq_eq_false_iff_ne.2 (by omega)];rfl
     have HR:Hid (stFault (.mk 2 nn tt es bd el)=stsFault bd):=by show _=_;rw [stFault,HO.out,if_neg (by simp),if_neg (by rw [HZ.out];simp),if_neg HC.out,if_pos hy]
     clear hy;go_wp2_with fail;go_ret;exact⟨by rw [HR.out];rfl,HB3.out⟩
    have hy1:(((stsFault bd:Nat):Int) != 0)=false:=by rw [hy];rfl
    have HR:Hid (stFault (.mk 2 nn tt es bd el)=stsFault el):=by show _=_;rw [stFault,HO.out,if_neg (by simp),if_neg (by rw [HZ.out];simp),if_neg HC.out,if_neg (by rw [hy];simp)]
    clear hy;go_wp2_with fail;refine (fmt_stmtFaults d (Lib.hid IH.out) _ _ _ _ _ (H3.out _ HB3.out) BL.out (HL.out.below HB3.out (Nat.le_refl _))).mono ?_;rintro e w4 ⟨rfl,hb4⟩;have HB4:=Lib.hid (HB3.out.trans (hb4.mono HB3.out.size));clear hb4 v5;go_wp2_with fail;go_ret;exact⟨by rw [HR.out];rfl,HB4.out⟩
   by_cases hk3:k=3
   ·subst hk3
    by_cases htt:tt=[]
    rotate_left
    ·have ett:=isEmpty_pos (strOf tt) (by rw [strOf_size];exact List.length_pos_iff.2 htt);have HO:Hid (stOwn 3 nn tt es.length bd.length el.length=1):=by show _=_;simp [stOwn,namedS,typedS,bodiedS,exprsOk,htt]
     have HR:Hid (stFault (.mk 3 nn tt es bd el)=1):=by show _=_;rw [stFault,HO.out];rfl
     go_enter Tryd.func68,Tryd.ntmps68;go_wp2_with fail;go_ret;exact⟨by rw [HR.out];rfl,((Below.refl _ _).alloc (Nat.le_refl _) _)⟩
    have ett:=isEmpty_zero (strOf tt) (by rw [strOf_size,htt];rfl);have Htt:=Lib.hid htt;clear htt
    by_cases hb:0<bd.length
    ·skip
     have HO:Hid (stOwn 3 nn tt es.length bd.length el.length=1):=by show _=_;simp [stOwn,namedS,typedS,bodiedS,exprsOk,Htt.out,hb]
     have HR:Hid (stFault (.mk 3 nn tt es bd el)=1):=by show _=_;rw [stFault,HO.out];rfl
     go_enter Tryd.func68,Tryd.ntmps68;go_wp2_with fail;go_ret;exact⟨by rw [HR.out];rfl,((Below.refl _ _).alloc (Nat.le_refl _) _)⟩
    have hbz:bd.length=0:=by omega
    have HB2:=Lib.hid hbz;clear hbz
    by_cases hl:0<el.length
    ·skip
     have HO:Hid (stOwn 3 nn tt es.length bd.length el.length=1):=by show _=_;simp [stOwn,namedS,typedS,bodiedS,exprsOk,Htt.out,HB2.out,hl]
     have HR:Hid (stFault (.mk 3 nn tt es bd el)=1):=by show _=_;rw [stFault,HO.out];rfl
     go_enter Tryd.func68,Tryd.ntmps68;go_wp2_with fail;go_ret;exact⟨by rw [HR.out];rfl,((Below.refl _ _).alloc (Nat.le_refl _) _)⟩
    have hlz:el.length=0:=by omega
    have HL2:=Lib.hid hlz;clear hlz
    by_cases h7:es.length<2
    ·have h7n:es.length≠2:=by omega
     have HO:Hid (stOwn 3 nn tt es.length bd.length el.length=1):=by show _=_;simp [stOwn,namedS,typedS,bodiedS,exprsOk,Htt.out,HB2.out,HL2.out,h7n]
     have HR:Hid (stFault (.mk 3 nn tt es bd el)=1):=by show _=_;rw [stFault,HO.out];rfl
     go_enter Tryd.func68,Tryd.ntmps68;go_wp2_with fail;go_ret;exact⟨by rw [HR.out];rfl,((Below.refl _ _).alloc (Nat.le_refl _) _)⟩
    by_cases h8:2<es.length
    ·have h8n:es.length≠2:=by omega
     have HO:Hid (stOwn 3 nn tt es.length bd.length el.length=1):=by show _=_;simp [stOwn,namedS,typedS,bodiedS,exprsOk,Htt.out,HB2.out,HL2.out,h8n]
     have HR:Hid (stFault (.mk 3 nn tt es bd el)=1):=by show _=_;rw [stFault,HO.out];rfl
     go_enter Tryd.func68,Tryd.ntmps68;go_wp2_with fail;go_ret;exact⟨by rw [HR.out];rfl,((Below.refl _ _).alloc (Nat.le_refl _) _)⟩
    have hlen:es.length=2:=by omega
    have HLEN:=Lib.hid hlen;clear hlen;cases hInn:isIdent nn
    ·have HO:Hid (stOwn 3 nn tt es.length bd.length el.length=5):=by show _=_;simp [stOwn,namedS,typedS,bodiedS,exprsOk,Htt.out,HB2.out,HL2.out,HLEN.out,hInn]
     have HR:Hid (stFault (.mk 3 nn tt es bd el)=5):=by show _=_;rw [stFault,HO.out];rfl
     rw [← strOf_data nn] at hInn;go_enter Tryd.func68,Tryd.ntmps68;go_wp2_with fail;refine (fm_ident0 _ _ (by rw [strOf_size];exact Bnn.out) (HL.out.alloc _)).mono ?_;rintro e w' ⟨rfl,rfl⟩;go_wp2_with fail;go_ret;exact⟨by rw [HR.out];rfl,((Below.refl _ _).alloc (Nat.le_refl _) _)⟩
    have HInn:=Lib.hid hInn;rw [← strOf_data nn] at hInn;go_enter Tryd.func68,Tryd.ntmps68;go_wp2_with fail;refine (fm_ident0 _ _ (by rw [strOf_size];exact Bnn.out) (HL.out.alloc _)).mono ?_;rintro e w' ⟨rfl,rfl⟩;have HO:Hid (stOwn 3 nn tt es.length bd.length el.length=0):=by show _=_;simp [stOwn,namedS,typedS,bodiedS,exprsOk,Htt.out,HB2.out,HL2.out,HLEN.out,HInn.out]
    go_wp2_with fail;refine (fmt_exprFaults d (Lib.hid (fmt_exprFault d)) _ _ _ _ _ (H1.out _ ((Below.refl _ _).alloc (Nat.le_refl _) _)) BE.out (HL.out.alloc _)).mono ?_;rintro e w2 ⟨rfl,hb2⟩;have HB2:=Lib.hid (((Below.refl _ _).alloc (Nat.le_refl _) _).trans (hb2.mono (by simp)));have hs2:w.heap.size<w2.heap.size:=by have:=hb2.size;simp at this;omega
    have u0:w2.cell? ⟨w.heap.size,0,none⟩=some (.int .i64 3):=(hb2.cell (p:=⟨w.heap.size,0,none⟩) (by simp)).trans (by simp [go_sem]);have u4:w2.cell? ⟨w.heap.size,4,none⟩=some (.slice aa bd.length cc):=(hb2.cell (p:=⟨w.heap.size,4,none⟩) (by simp)).trans (by simp [go_sem]);have u5:w2.cell? ⟨w.heap.size,5,none⟩=some (.slice ab el.length cb):=(hb2.cell (p:=⟨w.heap.size,5,none⟩) (by simp)).trans (by simp [go_sem]);clear hb2
    by_cases hz:exsFault es=0
    rotate_left
    ·have hz1:(((exsFault es:Nat):Int) != 0)=true:=by rw [bne,beq_eq_false_iff_ne.2 (by omega)];rfl
     have HR:Hid (stFault (.mk 3 nn tt es bd el)=exsFault es):=by show _=_;rw [stFault,HO.out,if_neg (by simp),if_pos hz]
     clear hz;go_wp2_with fail;go_ret;exact⟨by rw [HR.out];rfl,HB2.out⟩
    have hz1:(((exsFault es:Nat):Int) != 0)=false:=by rw [hz];rfl
    have HZ:=Lib.hid hz;clear hz;have HC:Hid (¬ ((3:Int)=9∧headKind es≠9∧headKind es≠10)):=by show ¬ _;omega
    go_wp2_with fail;refine (fmt_stmtFaults d (Lib.hid IH.out) _ _ _ _ _ (H2.out _ HB2.out) BB.out (HL.out.below HB2.out (Nat.le_refl _))).mono ?_;rintro e w3 ⟨rfl,hb3⟩;have HB3:=Lib.hid (HB2.out.trans (hb3.mono HB2.out.size));have v5:w3.cell? ⟨w.heap.size,5,none⟩=some (.slice ab el.length cb):=(hb3.cell (p:=⟨w.heap.size,5,none⟩) hs2).trans u5;have hs3:w.heap.size<w3.heap.size:=Nat.lt_of_lt_of_le hs2 hb3.size;clear hb3 u0 u4 u5
    by_cases hy:stsFault bd=0
    rotate_left
    ·have hy1:(((stsFault bd:Nat):Int) != 0)=true:=by rw [bne,beq_eq_false_iff_ne.2 (by omega)];rfl
     have HR:Hid (stFault (.mk 3 nn tt es bd el)=stsFault bd):=by show _=_;rw [stFault,HO.out,if_neg (by simp),if_neg (by rw [HZ.out];simp),if_neg HC.out,if_pos hy]
     clear hy;go_wp2_with fail;go_ret;exact⟨by rw [HR.out];rfl,HB3.out⟩
    have hy1:(((stsFault bd:Nat):Int) != 0)=false:=by rw [hy];rfl
    have HR:Hid (stFault (.mk 3 nn tt es bd el)=stsFault el):=by show _=_;rw [stFault,HO.out,if_neg (by simp),if_neg (by rw [HZ.out];simp),if_neg HC.out,if_neg (by rw [hy];simp)]
    clear hy;go_wp2_with fail;refine (fmt_stmtFaults d (Lib.hid IH.out) _ _ _ _ _ (H3.out _ HB3.out) BL.out (HL.out.below HB3.out (Nat.le_refl _))).mono ?_;rintro e w4 ⟨rfl,hb4⟩;have HB4:=Lib.hid (HB3.out.trans (hb4.mono HB3.out.size));clear hb4 v5;go_wp2_with fail;go_ret;exact⟨by rw [HR.out];rfl,HB4.out⟩
   by_cases hk4:k=4
   ·subst hk4
    by_cases hnn:nn=[]
    rotate_left
    ·have enn:=isEmpty_pos (strOf nn) (by rw [strOf_size];exact List.length_pos_iff.2 hnn);have HO:Hid (stOwn 4 nn tt es.length bd.length el.length=1):=by show _=_;simp [stOwn,namedS,typedS,bodiedS,exprsOk,hnn]
     have HR:Hid (stFault (.mk 4 nn tt es bd el)=1):=by show _=_;rw [stFault,HO.out];rfl
     go_enter Tryd.func68,Tryd.ntmps68;go_wp2_with fail;go_ret;exact⟨by rw [HR.out];rfl,((Below.refl _ _).alloc (Nat.le_refl _) _)⟩
    have enn:=isEmpty_zero (strOf nn) (by rw [strOf_size,hnn];rfl);have Hnn:=Lib.hid hnn;clear hnn
    by_cases htt:tt=[]
    rotate_left
    ·have ett:=isEmpty_pos (strOf tt) (by rw [strOf_size];exact List.length_pos_iff.2 htt);have HO:Hid (stOwn 4 nn tt es.length bd.length el.length=1):=by show _=_;simp [stOwn,namedS,typedS,bodiedS,exprsOk,Hnn.out,htt]
     have HR:Hid (stFault (.mk 4 nn tt es bd el)=1):=by show _=_;rw [stFault,HO.out];rfl
     go_enter Tryd.func68,Tryd.ntmps68;go_wp2_with fail;go_ret;exact⟨by rw [HR.out];rfl,((Below.refl _ _).alloc (Nat.le_refl _) _)⟩
    have ett:=isEmpty_zero (strOf tt) (by rw [strOf_size,htt];rfl);have Htt:=Lib.hid htt;clear htt
    by_cases h7:es.length<1
    ·have h7n:es.length≠1:=by omega
     have HO:Hid (stOwn 4 nn tt es.length bd.length el.length=1):=by show _=_;simp [stOwn,namedS,typedS,bodiedS,exprsOk,Hnn.out,Htt.out,h7n]
     have HR:Hid (stFault (.mk 4 nn tt es bd el)=1):=by show _=_;rw [stFault,HO.out];rfl
     go_enter Tryd.func68,Tryd.ntmps68;go_wp2_with fail;go_ret;exact⟨by rw [HR.out];rfl,((Below.refl _ _).alloc (Nat.le_refl _) _)⟩
    by_cases h8:1<es.length
    ·have h8n:es.length≠1:=by omega
     have HO:Hid (stOwn 4 nn tt es.length bd.length el.length=1):=by show _=_;simp [stOwn,namedS,typedS,bodiedS,exprsOk,Hnn.out,Htt.out,h8n]
     have HR:Hid (stFault (.mk 4 nn tt es bd el)=1):=by show _=_;rw [stFault,HO.out];rfl
     go_enter Tryd.func68,Tryd.ntmps68;go_wp2_with fail;go_ret;exact⟨by rw [HR.out];rfl,((Below.refl _ _).alloc (Nat.le_refl _) _)⟩
    have hlen:es.length=1:=by omega
    have HLEN:=Lib.hid hlen;clear hlen;have HO:Hid (stOwn 4 nn tt es.length bd.length el.length=0):=by show _=_;simp [stOwn,namedS,typedS,bodiedS,exprsOk,Hnn.out,Htt.out,HLEN.out]
    go_enter Tryd.func68,Tryd.ntmps68;go_wp2_with fail;refine (fmt_exprFaults d (Lib.hid (fmt_exprFault d)) _ _ _ _ _ (H1.out _ ((Below.refl _ _).alloc (Nat.le_refl _) _)) BE.out (HL.out.alloc _)).mono ?_;rintro e w2 ⟨rfl,hb2⟩;have HB2:=Lib.hid (((Below.refl _ _).alloc (Nat.le_refl _) _).trans (hb2.mono (by simp)));have hs2:w.heap.size<w2.heap.size:=by have:=hb2.size;simp at this;omega
    have u0:w2.cell? ⟨w.heap.size,0,none⟩=some (.int .i64 4):=(hb2.cell (p:=⟨w.heap.size,0,none⟩) (by simp)).trans (by simp [go_sem]);have u4:w2.cell? ⟨w.heap.size,4,none⟩=some (.slice aa bd.length cc):=(hb2.cell (p:=⟨w.heap.size,4,none⟩) (by simp)).trans (by simp [go_sem]);have u5:w2.cell? ⟨w.heap.size,5,none⟩=some (.slice ab el.length cb):=(hb2.cell (p:=⟨w.heap.size,5,none⟩) (by simp)).trans (by simp [go_sem]);clear hb2
    by_cases hz:exsFault es=0
    rotate_left
    ·have hz1:(((exsFault es:Nat):Int) != 0)=true:=by rw [bne,beq_eq_false_iff_ne.2 (by omega)];rfl
     have HR:Hid (stFault (.mk 4 nn tt es bd el)=exsFault es):=by show _=_;rw [stFault,HO.out,if_neg (by simp),if_pos hz]
     clear hz;go_wp2_with fail;go_ret;exact⟨by rw [HR.out];rfl,HB2.out⟩
    have hz1:(((exsFault es:Nat):Int) != 0)=false:=by rw [hz];rfl
    have HZ:=Lib.hid hz;clear hz;have HC:Hid (¬ ((4:Int)=9∧headKind es≠9∧headKind es≠10)):=by show ¬ _;omega
    go_wp2_with fail;refine (fmt_stmtFaults d (Lib.hid IH.out) _ _ _ _ _ (H2.out _ HB2.out) BB.out (HL.out.below HB2.out (Nat.le_refl _))).mono ?_;rintro e w3 ⟨rfl,hb3⟩;have HB3:=Lib.hid (HB2.out.trans (hb3.mono HB2.out.size));have v5:w3.cell? ⟨w.heap.size,5,none⟩=some (.slice ab el.length cb):=(hb3.cell (p:=⟨w.heap.size,5,none⟩) hs2).trans u5;have hs3:w.heap.size<w3.heap.size:=Nat.lt_of_lt_of_le hs2 hb3.size;clear hb3 u0 u4 u5
    by_cases hy:stsFault bd=0
    rotate_left
    ·have hy1:(((stsFault bd:Nat):Int) != 0)=true:=by rw [bne,beq_eq_false_iff_ne.2 (by omega)];rfl
     have HR:Hid (stFault (.mk 4 nn tt es bd el)=stsFault bd):=by show _=_;rw [stFault,HO.out,if_neg (by simp),if_neg (by rw [HZ.out];simp),if_neg HC.out,if_pos hy]
     clear hy;go_wp2_with fail;go_ret;exact⟨by rw [HR.out];rfl,HB3.out⟩
    have hy1:(((stsFault bd:Nat):Int) != 0)=false:=by rw [hy];rfl
    have HR:Hid (stFault (.mk 4 nn tt es bd el)=stsFault el):=by show _=_;rw [stFault,HO.out,if_neg (by simp),if_neg (by rw [HZ.out];simp),if_neg HC.out,if_neg (by rw [hy];simp)]
    clear hy;go_wp2_with fail;refine (fmt_stmtFaults d (Lib.hid IH.out) _ _ _ _ _ (H3.out _ HB3.out) BL.out (HL.out.below HB3.out (Nat.le_refl _))).mono ?_;rintro e w4 ⟨rfl,hb4⟩;have HB4:=Lib.hid (HB3.out.trans (hb4.mono HB3.out.size));clear hb4 v5;go_wp2_with fail;go_ret;exact⟨by rw [HR.out];rfl,HB4.out⟩
   by_cases hk5:k=5
   ·subst hk5
    by_cases hnn:nn=[]
    rotate_left
    ·have enn:=isEmpty_pos (strOf nn) (by rw [strOf_size];exact List.length_pos_iff.2 hnn);have HO:Hid (stOwn 5 nn tt es.length bd.length el.length=1):=by show _=_;simp [stOwn,namedS,typedS,bodiedS,exprsOk,hnn]
     have HR:Hid (stFault (.mk 5 nn tt es bd el)=1):=by show _=_;rw [stFault,HO.out];rfl
     go_enter Tryd.func68,Tryd.ntmps68;go_wp2_with fail;go_ret;exact⟨by rw [HR.out];rfl,((Below.refl _ _).alloc (Nat.le_refl _) _)⟩
    have enn:=isEmpty_zero (strOf nn) (by rw [strOf_size,hnn];rfl);have Hnn:=Lib.hid hnn;clear hnn
    by_cases htt:tt=[]
    rotate_left
    ·have ett:=isEmpty_pos (strOf tt) (by rw [strOf_size];exact List.length_pos_iff.2 htt);have HO:Hid (stOwn 5 nn tt es.length bd.length el.length=1):=by show _=_;simp [stOwn,namedS,typedS,bodiedS,exprsOk,Hnn.out,htt]
     have HR:Hid (stFault (.mk 5 nn tt es bd el)=1):=by show _=_;rw [stFault,HO.out];rfl
     go_enter Tryd.func68,Tryd.ntmps68;go_wp2_with fail;go_ret;exact⟨by rw [HR.out];rfl,((Below.refl _ _).alloc (Nat.le_refl _) _)⟩
    have ett:=isEmpty_zero (strOf tt) (by rw [strOf_size,htt];rfl);have Htt:=Lib.hid htt;clear htt
    by_cases hl:0<el.length
    ·skip
     have HO:Hid (stOwn 5 nn tt es.length bd.length el.length=1):=by show _=_;simp [stOwn,namedS,typedS,bodiedS,exprsOk,Hnn.out,Htt.out,hl]
     have HR:Hid (stFault (.mk 5 nn tt es bd el)=1):=by show _=_;rw [stFault,HO.out];rfl
     go_enter Tryd.func68,Tryd.ntmps68;go_wp2_with fail;go_ret;exact⟨by rw [HR.out];rfl,((Below.refl _ _).alloc (Nat.le_refl _) _)⟩
    have hlz:el.length=0:=by omega
    have HL2:=Lib.hid hlz;clear hlz
    by_cases h7:es.length<1
    ·have h7n:es.length≠1:=by omega
     have HO:Hid (stOwn 5 nn tt es.length bd.length el.length=1):=by show _=_;simp [stOwn,namedS,typedS,bodiedS,exprsOk,Hnn.out,Htt.out,HL2.out,h7n]
     have HR:Hid (stFault (.mk 5 nn tt es bd el)=1):=by show _=_;rw [stFault,HO.out];rfl
     go_enter Tryd.func68,Tryd.ntmps68;go_wp2_with fail;go_ret;exact⟨by rw [HR.out];rfl,((Below.refl _ _).alloc (Nat.le_refl _) _)⟩
    by_cases h8:1<es.length
    ·have h8n:es.length≠1:=by omega
     have HO:Hid (stOwn 5 nn tt es.length bd.length el.length=1):=by show _=_;simp [stOwn,namedS,typedS,bodiedS,exprsOk,Hnn.out,Htt.out,HL2.out,h8n]
     have HR:Hid (stFault (.mk 5 nn tt es bd el)=1):=by show _=_;rw [stFault,HO.out];rfl
     go_enter Tryd.func68,Tryd.ntmps68;go_wp2_with fail;go_ret;exact⟨by rw [HR.out];rfl,((Below.refl _ _).alloc (Nat.le_refl _) _)⟩
    have hlen:es.length=1:=by omega
    have HLEN:=Lib.hid hlen;clear hlen;have HO:Hid (stOwn 5 nn tt es.length bd.length el.length=0):=by show _=_;simp [stOwn,namedS,typedS,bodiedS,exprsOk,Hnn.out,Htt.out,HL2.out,HLEN.out]
    go_enter Tryd.func68,Tryd.ntmps68;go_wp2_with fail;refine (fmt_exprFaults d (Lib.hid (fmt_exprFault d)) _ _ _ _ _ (H1.out _ ((Below.refl _ _).alloc (Nat.le_refl _) _)) BE.out (HL.out.alloc _)).mono ?_;rintro e w2 ⟨rfl,hb2⟩;have HB2:=Lib.hid (((Below.refl _ _).alloc (Nat.le_refl _) _).trans (hb2.mono (by simp)));have hs2:w.heap.size<w2.heap.size:=by have:=hb2.size;simp at this;omega
    have u0:w2.cell? ⟨w.heap.size,0,none⟩=some (.int .i64 5):=(hb2.cell (p:=⟨w.heap.size,0,none⟩) (by simp)).trans (by simp [go_sem]);have u4:w2.cell? ⟨w.heap.size,4,none⟩=some (.slice aa bd.length cc):=(hb2.cell (p:=⟨w.heap.size,4,none⟩) (by simp)).trans (by simp [go_sem]);have u5:w2.cell? ⟨w.heap.size,5,none⟩=some (.slice ab el.length cb):=(hb2.cell (p:=⟨w.heap.size,5,none⟩) (by simp)).trans (by simp [go_sem]);clear hb2
    by_cases hz:exsFault es=0
    rotate_left
    ·have hz1:(((exsFault es:Nat):Int) != 0)=true:=by rw [bne,beq_eq_false_iff_ne.2 (by omega)];rfl
     have HR:Hid (stFault (.mk 5 nn tt es bd el)=exsFault es):=by show _=_;rw [stFault,HO.out,if_neg (by simp),if_pos hz]
     clear hz;go_wp2_with fail;go_ret;exact⟨by rw [HR.out];rfl,HB2.out⟩
    have hz1:(((exsFault es:Nat):Int) != 0)=false:=by rw [hz];rfl
    have HZ:=Lib.hid hz;clear hz;have HC:Hid (¬ ((5:Int)=9∧headKind es≠9∧headKind es≠10)):=by show ¬ _;omega
    go_wp2_with fail;refine (fmt_stmtFaults d (Lib.hid IH.out) _ _ _ _ _ (H2.out _ HB2.out) BB.out (HL.out.below HB2.out (Nat.le_refl _))).mono ?_;rintro e w3 ⟨rfl,hb3⟩;have HB3:=Lib.hid (HB2.out.trans (hb3.mono HB2.out.size));have v5:w3.cell? ⟨w.heap.size,5,none⟩=some (.slice ab el.length cb):=(hb3.cell (p:=⟨w.heap.size,5,none⟩) hs2).trans u5;have hs3:w.heap.size<w3.heap.size:=Nat.lt_of_lt_of_le hs2 hb3.size;clear hb3 u0 u4 u5
    by_cases hy:stsFault bd=0
    rotate_left
    ·have hy1:(((stsFault bd:Nat):Int) != 0)=true:=by rw [bne,beq_eq_false_iff_ne.2 (by omega)];rfl
     have HR:Hid (stFault (.mk 5 nn tt es bd el)=stsFault bd):=by show _=_;rw [stFault,HO.out,if_neg (by simp),if_neg (by rw [HZ.out];simp),if_neg HC.out,if_pos hy]
     clear hy;go_wp2_with fail;go_ret;exact⟨by rw [HR.out];rfl,HB3.out⟩
    have hy1:(((stsFault bd:Nat):Int) != 0)=false:=by rw [hy];rfl
    have HR:Hid (stFault (.mk 5 nn tt es bd el)=stsFault el):=by show _=_;rw [stFault,HO.out,if_neg (by simp),if_neg (by rw [HZ.out];simp),if_neg HC.out,if_neg (by rw [hy];simp)]
    clear hy;go_wp2_with fail;refine (fmt_stmtFaults d (Lib.hid IH.out) _ _ _ _ _ (H3.out _ HB3.out) BL.out (HL.out.below HB3.out (Nat.le_refl _))).mono ?_;rintro e w4 ⟨rfl,hb4⟩;have HB4:=Lib.hid (HB3.out.trans (hb4.mono HB3.out.size));clear hb4 v5;go_wp2_with fail;go_ret;exact⟨by rw [HR.out];rfl,HB4.out⟩
   by_cases hk6:k=6
   ·subst hk6
    by_cases h8:0<es.length
    ·have h8n:es.length≠0:=by omega
     have HO:Hid (stOwn 6 nn tt es.length bd.length el.length=1):=by show _=_;simp [stOwn,namedS,typedS,bodiedS,exprsOk,h8n]
     have HR:Hid (stFault (.mk 6 nn tt es bd el)=1):=by show _=_;rw [stFault,HO.out];rfl
     go_enter Tryd.func68,Tryd.ntmps68;go_wp2_with fail;go_ret;exact⟨by rw [HR.out];rfl,((Below.refl _ _).alloc (Nat.le_refl _) _)⟩
    have hlen:es.length=0:=by omega
    have HLEN:=Lib.hid hlen;clear hlen;cases hInn:isIdent nn
    ·have HO:Hid (stOwn 6 nn tt es.length bd.length el.length=5):=by show _=_;simp [stOwn,namedS,typedS,bodiedS,exprsOk,HLEN.out,hInn]
     have HR:Hid (stFault (.mk 6 nn tt es bd el)=5):=by show _=_;rw [stFault,HO.out];rfl
     rw [← strOf_data nn] at hInn;go_enter Tryd.func68,Tryd.ntmps68;go_wp2_with fail;refine (fm_ident0 _ _ (by rw [strOf_size];exact Bnn.out) (HL.out.alloc _)).mono ?_;rintro e w' ⟨rfl,rfl⟩;go_wp2_with fail;go_ret;exact⟨by rw [HR.out];rfl,((Below.refl _ _).alloc (Nat.le_refl _) _)⟩
    have HInn:=Lib.hid hInn;rw [← strOf_data nn] at hInn;go_enter Tryd.func68,Tryd.ntmps68;go_wp2_with fail;refine (fm_ident0 _ _ (by rw [strOf_size];exact Bnn.out) (HL.out.alloc _)).mono ?_;rintro e w' ⟨rfl,rfl⟩;cases hItt:isType tt
    ·have HO:Hid (stOwn 6 nn tt es.length bd.length el.length=8):=by show _=_;simp [stOwn,namedS,typedS,bodiedS,exprsOk,HLEN.out,HInn.out,hItt]
     have HR:Hid (stFault (.mk 6 nn tt es bd el)=8):=by show _=_;rw [stFault,HO.out];rfl
     go_wp2_with fail;refine (fmt_isType _ _ Btt.out (HL.out.alloc _)).mono ?_;rintro e w' ⟨rfl,rfl⟩;go_wp2_with fail;go_ret;exact⟨by rw [HR.out];rfl,((Below.refl _ _).alloc (Nat.le_refl _) _)⟩
    have HItt:=Lib.hid hItt;go_wp2_with fail;refine (fmt_isType _ _ Btt.out (HL.out.alloc _)).mono ?_;rintro e w' ⟨rfl,rfl⟩;have HO:Hid (stOwn 6 nn tt es.length bd.length el.length=0):=by show _=_;simp [stOwn,namedS,typedS,bodiedS,exprsOk,HLEN.out,HInn.out,HItt.out]
    go_wp2_with fail;refine (fmt_exprFaults d (Lib.hid (fmt_exprFault d)) _ _ _ _ _ (H1.out _ ((Below.refl _ _).alloc (Nat.le_refl _) _)) BE.out (HL.out.alloc _)).mono ?_;rintro e w2 ⟨rfl,hb2⟩;have HB2:=Lib.hid (((Below.refl _ _).alloc (Nat.le_refl _) _).trans (hb2.mono (by simp)));have hs2:w.heap.size<w2.heap.size:=by have:=hb2.size;simp at this;omega
    have u0:w2.cell? ⟨w.heap.size,0,none⟩=some (.int .i64 6):=(hb2.cell (p:=⟨w.heap.size,0,none⟩) (by simp)).trans (by simp [go_sem]);have u4:w2.cell? ⟨w.heap.size,4,none⟩=some (.slice aa bd.length cc):=(hb2.cell (p:=⟨w.heap.size,4,none⟩) (by simp)).trans (by simp [go_sem]);have u5:w2.cell? ⟨w.heap.size,5,none⟩=some (.slice ab el.length cb):=(hb2.cell (p:=⟨w.heap.size,5,none⟩) (by simp)).trans (by simp [go_sem]);clear hb2
    by_cases hz:exsFault es=0
    rotate_left
    ·have hz1:(((exsFault es:Nat):Int) != 0)=true:=by rw [bne,beq_eq_false_iff_ne.2 (by omega)];rfl
     have HR:Hid (stFault (.mk 6 nn tt es bd el)=exsFault es):=by show _=_;rw [stFault,HO.out,if_neg (by simp),if_pos hz]
     clear hz;go_wp2_with fail;go_ret;exact⟨by rw [HR.out];rfl,HB2.out⟩
    have hz1:(((exsFault es:Nat):Int) != 0)=false:=by rw [hz];rfl
    have HZ:=Lib.hid hz;clear hz;have HC:Hid (¬ ((6:Int)=9∧headKind es≠9∧headKind es≠10)):=by show ¬ _;omega
    go_wp2_with fail;refine (fmt_stmtFaults d (Lib.hid IH.out) _ _ _ _ _ (H2.out _ HB2.out) BB.out (HL.out.below HB2.out (Nat.le_refl _))).mono ?_;rintro e w3 ⟨rfl,hb3⟩;have HB3:=Lib.hid (HB2.out.trans (hb3.mono HB2.out.size));have v5:w3.cell? ⟨w.heap.size,5,none⟩=some (.slice ab el.length cb):=(hb3.cell (p:=⟨w.heap.size,5,none⟩) hs2).trans u5;have hs3:w.heap.size<w3.heap.size:=Nat.lt_of_lt_of_le hs2 hb3.size;clear hb3 u0 u4 u5
    by_cases hy:stsFault bd=0
    rotate_left
    ·have hy1:(((stsFault bd:Nat):Int) != 0)=true:=by rw [bne,beq_eq_false_iff_ne.2 (by omega)];rfl
     have HR:Hid (stFault (.mk 6 nn tt es bd el)=stsFault bd):=by show _=_;rw [stFault,HO.out,if_neg (by simp),if_neg (by rw [HZ.out];simp),if_neg HC.out,if_pos hy]
     clear hy;go_wp2_with fail;go_ret;exact⟨by rw [HR.out];rfl,HB3.out⟩
    have hy1:(((stsFault bd:Nat):Int) != 0)=false:=by rw [hy];rfl
    have HR:Hid (stFault (.mk 6 nn tt es bd el)=stsFault el):=by show _=_;rw [stFault,HO.out,if_neg (by simp),if_neg (by rw [HZ.out];simp),if_neg HC.out,if_neg (by rw [hy];simp)]
    clear hy;go_wp2_with fail;refine (fmt_stmtFaults d (Lib.hid IH.out) _ _ _ _ _ (H3.out _ HB3.out) BL.out (HL.out.below HB3.out (Nat.le_refl _))).mono ?_;rintro e w4 ⟨rfl,hb4⟩;have HB4:=Lib.hid (HB3.out.trans (hb4.mono HB3.out.size));clear hb4 v5;go_wp2_with fail;go_ret;exact⟨by rw [HR.out];rfl,HB4.out⟩
   by_cases hk7:k=7
   ·subst hk7
    by_cases hnn:nn=[]
    rotate_left
    ·have enn:=isEmpty_pos (strOf nn) (by rw [strOf_size];exact List.length_pos_iff.2 hnn);have HO:Hid (stOwn 7 nn tt es.length bd.length el.length=1):=by show _=_;simp [stOwn,namedS,typedS,bodiedS,exprsOk,hnn]
     have HR:Hid (stFault (.mk 7 nn tt es bd el)=1):=by show _=_;rw [stFault,HO.out];rfl
     go_enter Tryd.func68,Tryd.ntmps68;go_wp2_with fail;go_ret;exact⟨by rw [HR.out];rfl,((Below.refl _ _).alloc (Nat.le_refl _) _)⟩
    have enn:=isEmpty_zero (strOf nn) (by rw [strOf_size,hnn];rfl);have Hnn:=Lib.hid hnn;clear hnn
    by_cases htt:tt=[]
    rotate_left
    ·have ett:=isEmpty_pos (strOf tt) (by rw [strOf_size];exact List.length_pos_iff.2 htt);have HO:Hid (stOwn 7 nn tt es.length bd.length el.length=1):=by show _=_;simp [stOwn,namedS,typedS,bodiedS,exprsOk,Hnn.out,htt]
     have HR:Hid (stFault (.mk 7 nn tt es bd el)=1):=by show _=_;rw [stFault,HO.out];rfl
     go_enter Tryd.func68,Tryd.ntmps68;go_wp2_with fail;go_ret;exact⟨by rw [HR.out];rfl,((Below.refl _ _).alloc (Nat.le_refl _) _)⟩
    have ett:=isEmpty_zero (strOf tt) (by rw [strOf_size,htt];rfl);have Htt:=Lib.hid htt;clear htt
    by_cases hb:0<bd.length
    ·skip
     have HO:Hid (stOwn 7 nn tt es.length bd.length el.length=1):=by show _=_;simp [stOwn,namedS,typedS,bodiedS,exprsOk,Hnn.out,Htt.out,hb]
     have HR:Hid (stFault (.mk 7 nn tt es bd el)=1):=by show _=_;rw [stFault,HO.out];rfl
     go_enter Tryd.func68,Tryd.ntmps68;go_wp2_with fail;go_ret;exact⟨by rw [HR.out];rfl,((Below.refl _ _).alloc (Nat.le_refl _) _)⟩
    have hbz:bd.length=0:=by omega
    have HB2:=Lib.hid hbz;clear hbz
    by_cases hl:0<el.length
    ·skip
     have HO:Hid (stOwn 7 nn tt es.length bd.length el.length=1):=by show _=_;simp [stOwn,namedS,typedS,bodiedS,exprsOk,Hnn.out,Htt.out,HB2.out,hl]
     have HR:Hid (stFault (.mk 7 nn tt es bd el)=1):=by show _=_;rw [stFault,HO.out];rfl
     go_enter Tryd.func68,Tryd.ntmps68;go_wp2_with fail;go_ret;exact⟨by rw [HR.out];rfl,((Below.refl _ _).alloc (Nat.le_refl _) _)⟩
    have hlz:el.length=0:=by omega
    have HL2:=Lib.hid hlz;clear hlz
    by_cases h7:es.length<1
    ·have h7n:es.length≠1:=by omega
     have HO:Hid (stOwn 7 nn tt es.length bd.length el.length=1):=by show _=_;simp [stOwn,namedS,typedS,bodiedS,exprsOk,Hnn.out,Htt.out,HB2.out,HL2.out,h7n]
     have HR:Hid (stFault (.mk 7 nn tt es bd el)=1):=by show _=_;rw [stFault,HO.out];rfl
     go_enter Tryd.func68,Tryd.ntmps68;go_wp2_with fail;go_ret;exact⟨by rw [HR.out];rfl,((Below.refl _ _).alloc (Nat.le_refl _) _)⟩
    by_cases h8:1<es.length
    ·have h8n:es.length≠1:=by omega
     have HO:Hid (stOwn 7 nn tt es.length bd.length el.length=1):=by show _=_;simp [stOwn,namedS,typedS,bodiedS,exprsOk,Hnn.out,Htt.out,HB2.out,HL2.out,h8n]
     have HR:Hid (stFault (.mk 7 nn tt es bd el)=1):=by show _=_;rw [stFault,HO.out];rfl
     go_enter Tryd.func68,Tryd.ntmps68;go_wp2_with fail;go_ret;exact⟨by rw [HR.out];rfl,((Below.refl _ _).alloc (Nat.le_refl _) _)⟩
    have hlen:es.length=1:=by omega
    have HLEN:=Lib.hid hlen;clear hlen;have HO:Hid (stOwn 7 nn tt es.length bd.length el.length=0):=by show _=_;simp [stOwn,namedS,typedS,bodiedS,exprsOk,Hnn.out,Htt.out,HB2.out,HL2.out,HLEN.out]
    go_enter Tryd.func68,Tryd.ntmps68;go_wp2_with fail;refine (fmt_exprFaults d (Lib.hid (fmt_exprFault d)) _ _ _ _ _ (H1.out _ ((Below.refl _ _).alloc (Nat.le_refl _) _)) BE.out (HL.out.alloc _)).mono ?_;rintro e w2 ⟨rfl,hb2⟩;have HB2:=Lib.hid (((Below.refl _ _).alloc (Nat.le_refl _) _).trans (hb2.mono (by simp)));have hs2:w.heap.size<w2.heap.size:=by have:=hb2.size;simp at this;omega
    have u0:w2.cell? ⟨w.heap.size,0,none⟩=some (.int .i64 7):=(hb2.cell (p:=⟨w.heap.size,0,none⟩) (by simp)).trans (by simp [go_sem]);have u4:w2.cell? ⟨w.heap.size,4,none⟩=some (.slice aa bd.length cc):=(hb2.cell (p:=⟨w.heap.size,4,none⟩) (by simp)).trans (by simp [go_sem]);have u5:w2.cell? ⟨w.heap.size,5,none⟩=some (.slice ab el.length cb):=(hb2.cell (p:=⟨w.heap.size,5,none⟩) (by simp)).trans (by simp [go_sem]);clear hb2
    by_cases hz:exsFault es=0
    rotate_left
    ·have hz1:(((exsFault es:Nat):Int) != 0)=true:=by rw [bne,beq_eq_false_iff_ne.2 (by omega)];rfl
     have HR:Hid (stFault (.mk 7 nn tt es bd el)=exsFault es):=by show _=_;rw [stFault,HO.out,if_neg (by simp),if_pos hz]
     clear hz;go_wp2_with fail;go_ret;exact⟨by rw [HR.out];rfl,HB2.out⟩
    have hz1:(((exsFault es:Nat):Int) != 0)=false:=by rw [hz];rfl
    have HZ:=Lib.hid hz;clear hz;have HC:Hid (¬ ((7:Int)=9∧headKind es≠9∧headKind es≠10)):=by show ¬ _;omega
    go_wp2_with fail;refine (fmt_stmtFaults d (Lib.hid IH.out) _ _ _ _ _ (H2.out _ HB2.out) BB.out (HL.out.below HB2.out (Nat.le_refl _))).mono ?_;rintro e w3 ⟨rfl,hb3⟩;have HB3:=Lib.hid (HB2.out.trans (hb3.mono HB2.out.size));have v5:w3.cell? ⟨w.heap.size,5,none⟩=some (.slice ab el.length cb):=(hb3.cell (p:=⟨w.heap.size,5,none⟩) hs2).trans u5;have hs3:w.heap.size<w3.heap.size:=Nat.lt_of_lt_of_le hs2 hb3.size;clear hb3 u0 u4 u5
    by_cases hy:stsFault bd=0
    rotate_left
    ·have hy1:(((stsFault bd:Nat):Int) != 0)=true:=by rw [bne,beq_eq_false_iff_ne.2 (by omega)];rfl
     have HR:Hid (stFault (.mk 7 nn tt es bd el)=stsFault bd):=by show _=_;rw [stFault,HO.out,if_neg (by simp),if_neg (by rw [HZ.out];simp),if_neg HC.out,if_pos hy]
     clear hy;go_wp2_with fail;go_ret;exact⟨by rw [HR.out];rfl,HB3.out⟩
    have hy1:(((stsFault bd:Nat):Int) != 0)=false:=by rw [hy];rfl
    have HR:Hid (stFault (.mk 7 nn tt es bd el)=stsFault el):=by show _=_;rw [stFault,HO.out,if_neg (by simp),if_neg (by rw [HZ.out];simp),if_neg HC.out,if_neg (by rw [hy];simp)]
    clear hy;go_wp2_with fail;refine (fmt_stmtFaults d (Lib.hid IH.out) _ _ _ _ _ (H3.out _ HB3.out) BL.out (HL.out.below HB3.out (Nat.le_refl _))).mono ?_;rintro e w4 ⟨rfl,hb4⟩;have HB4:=Lib.hid (HB3.out.trans (hb4.mono HB3.out.size));clear hb4 v5;go_wp2_with fail;go_ret;exact⟨by rw [HR.out];rfl,HB4.out⟩
   by_cases hk8:k=8
   ·subst hk8
    by_cases hnn:nn=[]
    rotate_left
    ·have enn:=isEmpty_pos (strOf nn) (by rw [strOf_size];exact List.length_pos_iff.2 hnn);have HO:Hid (stOwn 8 nn tt es.length bd.length el.length=1):=by show _=_;simp [stOwn,namedS,typedS,bodiedS,exprsOk,hnn]
     have HR:Hid (stFault (.mk 8 nn tt es bd el)=1):=by show _=_;rw [stFault,HO.out];rfl
     go_enter Tryd.func68,Tryd.ntmps68;go_wp2_with fail;go_ret;exact⟨by rw [HR.out];rfl,((Below.refl _ _).alloc (Nat.le_refl _) _)⟩
    have enn:=isEmpty_zero (strOf nn) (by rw [strOf_size,hnn];rfl);have Hnn:=Lib.hid hnn;clear hnn
    by_cases htt:tt=[]
    rotate_left
    ·have ett:=isEmpty_pos (strOf tt) (by rw [strOf_size];exact List.length_pos_iff.2 htt);have HO:Hid (stOwn 8 nn tt es.length bd.length el.length=1):=by show _=_;simp [stOwn,namedS,typedS,bodiedS,exprsOk,Hnn.out,htt]
     have HR:Hid (stFault (.mk 8 nn tt es bd el)=1):=by show _=_;rw [stFault,HO.out];rfl
     go_enter Tryd.func68,Tryd.ntmps68;go_wp2_with fail;go_ret;exact⟨by rw [HR.out];rfl,((Below.refl _ _).alloc (Nat.le_refl _) _)⟩
    have ett:=isEmpty_zero (strOf tt) (by rw [strOf_size,htt];rfl);have Htt:=Lib.hid htt;clear htt
    by_cases hb:0<bd.length
    ·skip
     have HO:Hid (stOwn 8 nn tt es.length bd.length el.length=1):=by show _=_;simp [stOwn,namedS,typedS,bodiedS,exprsOk,Hnn.out,Htt.out,hb]
     have HR:Hid (stFault (.mk 8 nn tt es bd el)=1):=by show _=_;rw [stFault,HO.out];rfl
     go_enter Tryd.func68,Tryd.ntmps68;go_wp2_with fail;go_ret;exact⟨by rw [HR.out];rfl,((Below.refl _ _).alloc (Nat.le_refl _) _)⟩
    have hbz:bd.length=0:=by omega
    have HB2:=Lib.hid hbz;clear hbz
    by_cases hl:0<el.length
    ·skip
     have HO:Hid (stOwn 8 nn tt es.length bd.length el.length=1):=by show _=_;simp [stOwn,namedS,typedS,bodiedS,exprsOk,Hnn.out,Htt.out,HB2.out,hl]
     have HR:Hid (stFault (.mk 8 nn tt es bd el)=1):=by show _=_;rw [stFault,HO.out];rfl
     go_enter Tryd.func68,Tryd.ntmps68;go_wp2_with fail;go_ret;exact⟨by rw [HR.out];rfl,((Below.refl _ _).alloc (Nat.le_refl _) _)⟩
    have hlz:el.length=0:=by omega
    have HL2:=Lib.hid hlz;clear hlz
    by_cases h8:1<es.length
    ·have h8n:¬ es.length≤1:=by omega
     have HO:Hid (stOwn 8 nn tt es.length bd.length el.length=1):=by show _=_;simp [stOwn,namedS,typedS,bodiedS,exprsOk,Hnn.out,Htt.out,HB2.out,HL2.out,h8n]
     have HR:Hid (stFault (.mk 8 nn tt es bd el)=1):=by show _=_;rw [stFault,HO.out];rfl
     go_enter Tryd.func68,Tryd.ntmps68;go_wp2_with fail;go_ret;exact⟨by rw [HR.out];rfl,((Below.refl _ _).alloc (Nat.le_refl _) _)⟩
    have hlen:es.length≤1:=by omega
    have HLEN:=Lib.hid hlen;clear hlen;have HO:Hid (stOwn 8 nn tt es.length bd.length el.length=0):=by show _=_;simp [stOwn,namedS,typedS,bodiedS,exprsOk,Hnn.out,Htt.out,HB2.out,HL2.out,HLEN.out]
    go_enter Tryd.func68,Tryd.ntmps68;go_wp2_with fail;refine (fmt_exprFaults d (Lib.hid (fmt_exprFault d)) _ _ _ _ _ (H1.out _ ((Below.refl _ _).alloc (Nat.le_refl _) _)) BE.out (HL.out.alloc _)).mono ?_;rintro e w2 ⟨rfl,hb2⟩;have HB2:=Lib.hid (((Below.refl _ _).alloc (Nat.le_refl _) _).trans (hb2.mono (by simp)));have hs2:w.heap.size<w2.heap.size:=by have:=hb2.size;simp at this;omega
    have u0:w2.cell? ⟨w.heap.size,0,none⟩=some (.int .i64 8):=(hb2.cell (p:=⟨w.heap.size,0,none⟩) (by simp)).trans (by simp [go_sem]);have u4:w2.cell? ⟨w.heap.size,4,none⟩=some (.slice aa bd.length cc):=(hb2.cell (p:=⟨w.heap.size,4,none⟩) (by simp)).trans (by simp [go_sem]);have u5:w2.cell? ⟨w.heap.size,5,none⟩=some (.slice ab el.length cb):=(hb2.cell (p:=⟨w.heap.size,5,none⟩) (by simp)).trans (by simp [go_sem]);clear hb2
    by_cases hz:exsFault es=0
    rotate_left
    ·have hz1:(((exsFault es:Nat):Int) != 0)=true:=by rw [bne,beq_eq_false_iff_ne.2 (by omega)];rfl
     have HR:Hid (stFault (.mk 8 nn tt es bd el)=exsFault es):=by show _=_;rw [stFault,HO.out,if_neg (by simp),if_pos hz]
     clear hz;go_wp2_with fail;go_ret;exact⟨by rw [HR.out];rfl,HB2.out⟩
    have hz1:(((exsFault es:Nat):Int) != 0)=false:=by rw [hz];rfl
    have HZ:=Lib.hid hz;clear hz;have HC:Hid (¬ ((8:Int)=9∧headKind es≠9∧headKind es≠10)):=by show ¬ _;omega
    go_wp2_with fail;refine (fmt_stmtFaults d (Lib.hid IH.out) _ _ _ _ _ (H2.out _ HB2.out) BB.out (HL.out.below HB2.out (Nat.le_refl _))).mono ?_;rintro e w3 ⟨rfl,hb3⟩;have HB3:=Lib.hid (HB2.out.trans (hb3.mono HB2.out.size));have v5:w3.cell? ⟨w.heap.size,5,none⟩=some (.slice ab el.length cb):=(hb3.cell (p:=⟨w.heap.size,5,none⟩) hs2).trans u5;have hs3:w.heap.size<w3.heap.size:=Nat.lt_of_lt_of_le hs2 hb3.size;clear hb3 u0 u4 u5
    by_cases hy:stsFault bd=0
    rotate_left
    ·have hy1:(((stsFault bd:Nat):Int) != 0)=true:=by rw [bne,beq_eq_false_iff_ne.2 (by omega)];rfl
     have HR:Hid (stFault (.mk 8 nn tt es bd el)=stsFault bd):=by show _=_;rw [stFault,HO.out,if_neg (by simp),if_neg (by rw [HZ.out];simp),if_neg HC.out,if_pos hy]
     clear hy;go_wp2_with fail;go_ret;exact⟨by rw [HR.out];rfl,HB3.out⟩
    have hy1:(((stsFault bd:Nat):Int) != 0)=false:=by rw [hy];rfl
    have HR:Hid (stFault (.mk 8 nn tt es bd el)=stsFault el):=by show _=_;rw [stFault,HO.out,if_neg (by simp),if_neg (by rw [HZ.out];simp),if_neg HC.out,if_neg (by rw [hy];simp)]
    clear hy;go_wp2_with fail;refine (fmt_stmtFaults d (Lib.hid IH.out) _ _ _ _ _ (H3.out _ HB3.out) BL.out (HL.out.below HB3.out (Nat.le_refl _))).mono ?_;rintro e w4 ⟨rfl,hb4⟩;have HB4:=Lib.hid (HB3.out.trans (hb4.mono HB3.out.size));clear hb4 v5;go_wp2_with fail;go_ret;exact⟨by rw [HR.out];rfl,HB4.out⟩
   by_cases hk9:k=9
   ·subst hk9
    by_cases hnn:nn=[]
    rotate_left
    ·have enn:=isEmpty_pos (strOf nn) (by rw [strOf_size];exact List.length_pos_iff.2 hnn);have HO:Hid (stOwn 9 nn tt es.length bd.length el.length=1):=by show _=_;simp [stOwn,namedS,typedS,bodiedS,exprsOk,hnn]
     have HR:Hid (stFault (.mk 9 nn tt es bd el)=1):=by show _=_;rw [stFault,HO.out];rfl
     go_enter Tryd.func68,Tryd.ntmps68;go_wp2_with fail;go_ret;exact⟨by rw [HR.out];rfl,((Below.refl _ _).alloc (Nat.le_refl _) _)⟩
    have enn:=isEmpty_zero (strOf nn) (by rw [strOf_size,hnn];rfl);have Hnn:=Lib.hid hnn;clear hnn
    by_cases htt:tt=[]
    rotate_left
    ·have ett:=isEmpty_pos (strOf tt) (by rw [strOf_size];exact List.length_pos_iff.2 htt);have HO:Hid (stOwn 9 nn tt es.length bd.length el.length=1):=by show _=_;simp [stOwn,namedS,typedS,bodiedS,exprsOk,Hnn.out,htt]
     have HR:Hid (stFault (.mk 9 nn tt es bd el)=1):=by show _=_;rw [stFault,HO.out];rfl
     go_enter Tryd.func68,Tryd.ntmps68;go_wp2_with fail;go_ret;exact⟨by rw [HR.out];rfl,((Below.refl _ _).alloc (Nat.le_refl _) _)⟩
    have ett:=isEmpty_zero (strOf tt) (by rw [strOf_size,htt];rfl);have Htt:=Lib.hid htt;clear htt
    by_cases hb:0<bd.length
    ·skip
     have HO:Hid (stOwn 9 nn tt es.length bd.length el.length=1):=by show _=_;simp [stOwn,namedS,typedS,bodiedS,exprsOk,Hnn.out,Htt.out,hb]
     have HR:Hid (stFault (.mk 9 nn tt es bd el)=1):=by show _=_;rw [stFault,HO.out];rfl
     go_enter Tryd.func68,Tryd.ntmps68;go_wp2_with fail;go_ret;exact⟨by rw [HR.out];rfl,((Below.refl _ _).alloc (Nat.le_refl _) _)⟩
    have hbz:bd.length=0:=by omega
    have HB2:=Lib.hid hbz;clear hbz
    by_cases hl:0<el.length
    ·skip
     have HO:Hid (stOwn 9 nn tt es.length bd.length el.length=1):=by show _=_;simp [stOwn,namedS,typedS,bodiedS,exprsOk,Hnn.out,Htt.out,HB2.out,hl]
     have HR:Hid (stFault (.mk 9 nn tt es bd el)=1):=by show _=_;rw [stFault,HO.out];rfl
     go_enter Tryd.func68,Tryd.ntmps68;go_wp2_with fail;go_ret;exact⟨by rw [HR.out];rfl,((Below.refl _ _).alloc (Nat.le_refl _) _)⟩
    have hlz:el.length=0:=by omega
    have HL2:=Lib.hid hlz;clear hlz
    by_cases h7:es.length<1
    ·have h7n:es.length≠1:=by omega
     have HO:Hid (stOwn 9 nn tt es.length bd.length el.length=1):=by show _=_;simp [stOwn,namedS,typedS,bodiedS,exprsOk,Hnn.out,Htt.out,HB2.out,HL2.out,h7n]
     have HR:Hid (stFault (.mk 9 nn tt es bd el)=1):=by show _=_;rw [stFault,HO.out];rfl
     go_enter Tryd.func68,Tryd.ntmps68;go_wp2_with fail;go_ret;exact⟨by rw [HR.out];rfl,((Below.refl _ _).alloc (Nat.le_refl _) _)⟩
    by_cases h8:1<es.length
    ·have h8n:es.length≠1:=by omega
     have HO:Hid (stOwn 9 nn tt es.length bd.length el.length=1):=by show _=_;simp [stOwn,namedS,typedS,bodiedS,exprsOk,Hnn.out,Htt.out,HB2.out,HL2.out,h8n]
     have HR:Hid (stFault (.mk 9 nn tt es bd el)=1):=by show _=_;rw [stFault,HO.out];rfl
     go_enter Tryd.func68,Tryd.ntmps68;go_wp2_with fail;go_ret;exact⟨by rw [HR.out];rfl,((Below.refl _ _).alloc (Nat.le_refl _) _)⟩
    have hlen:es.length=1:=by omega
    have HLEN:=Lib.hid hlen;clear hlen;have HO:Hid (stOwn 9 nn tt es.length bd.length el.length=0):=by show _=_;simp [stOwn,namedS,typedS,bodiedS,exprsOk,Hnn.out,Htt.out,HB2.out,HL2.out,HLEN.out]
    go_enter Tryd.func68,Tryd.ntmps68;go_wp2_with fail;refine (fmt_exprFaults d (Lib.hid (fmt_exprFault d)) _ _ _ _ _ (H1.out _ ((Below.refl _ _).alloc (Nat.le_refl _) _)) BE.out (HL.out.alloc _)).mono ?_;rintro e w2 ⟨rfl,hb2⟩;have HB2:=Lib.hid (((Below.refl _ _).alloc (Nat.le_refl _) _).trans (hb2.mono (by simp)));have hs2:w.heap.size<w2.heap.size:=by have:=hb2.size;simp at this;omega
    have u0:w2.cell? ⟨w.heap.size,0,none⟩=some (.int .i64 9):=(hb2.cell (p:=⟨w.heap.size,0,none⟩) (by simp)).trans (by simp [go_sem]);have u4:w2.cell? ⟨w.heap.size,4,none⟩=some (.slice aa bd.length cc):=(hb2.cell (p:=⟨w.heap.size,4,none⟩) (by simp)).trans (by simp [go_sem]);have u5:w2.cell? ⟨w.heap.size,5,none⟩=some (.slice ab el.length cb):=(hb2.cell (p:=⟨w.heap.size,5,none⟩) (by simp)).trans (by simp [go_sem]);have u3:w2.cell? ⟨w.heap.size,3,none⟩=some (.slice a es.length c):=(hb2.cell (p:=⟨w.heap.size,3,none⟩) (by simp)).trans (by simp [go_sem]);clear hb2
    by_cases hz:exsFault es=0
    rotate_left
    ·have hz1:(((exsFault es:Nat):Int) != 0)=true:=by rw [bne,beq_eq_false_iff_ne.2 (by omega)];rfl
     have HR:Hid (stFault (.mk 9 nn tt es bd el)=exsFault es):=by show _=_;rw [stFault,HO.out,if_neg (by simp),if_pos hz]
     clear hz;go_wp2_with fail;go_ret;exact⟨by rw [HR.out];rfl,HB2.out⟩
    have hz1:(((exsFault es:Nat):Int) != 0)=false:=by rw [hz];rfl
    have HZ:=Lib.hid hz;clear hz;obtain⟨g,off,k1,m1,o1,nm1,a1,n1,c1,rfl,hgl,x0,_,_,_,_,hx⟩:=HAT.out 0 (by rw [HLEN.out];omega);have y0:w2.cell? ⟨g,off,none⟩=some (.int .i64 k1):=(HB2.out.cell (p:=⟨g,off,none⟩) hgl).trans (by simpa using x0);have hgw:g<w2.heap.size:=Nat.lt_of_lt_of_le hgl HB2.out.size;have hpos:(0:Int)<(es.length:Int):=by rw [HLEN.out];omega
    have HH:Hid (headKind es=k1):=by
     show _=_
     have h1:=hx.kindEq
     match es,HLEN.out,h1 with
     | [x],_,h1=>exact h1
    clear hx x0
    by_cases hc:k1≠9∧k1≠10
    ·have q9:(k1 != 9)=true:=by rw [bne_iff_ne];exact hc.1
     have q10:(k1 != 10)=true:=by rw [bne_iff_ne];exact hc.2
     have HR:Hid (stFault (.mk 9 nn tt es bd el)=12):=by show _=_;rw [stFault,HO.out,if_neg (by simp),if_neg (by rw [HZ.out];simp),if_pos ⟨rfl,by rw [HH.out];exact hc.1,by rw [HH.out];exact hc.2⟩]
     clear hc;go_wp2_with fail;go_ret;exact⟨by rw [HR.out];rfl,HB2.out⟩
    have HC:Hid (headKind es=9∨headKind es=10):=by show _∨_;rw [HH.out];omega
    obtain⟨b9,hb9,b10,hb10⟩:∃ b9,(k1 != 9)=b9∧∃ b10,(k1 != 10)=b10:=⟨_,rfl,_,rfl⟩;have hbb:b9=false∨b10=false:=by
     rw [← hb9,← hb10,bne_eq_false_iff_eq,bne_eq_false_iff_eq];omega
    clear hc;rcases hbb with hbb | hbb
    ·subst hbb;go_wp2_with fail;refine (fmt_stmtFaults d (Lib.hid IH.out) _ _ _ _ _ (H2.out _ HB2.out) BB.out (HL.out.below HB2.out (Nat.le_refl _))).mono ?_;rintro e w3 ⟨rfl,hb3⟩;have HB3:=Lib.hid (HB2.out.trans (hb3.mono HB2.out.size));have v5:w3.cell? ⟨w.heap.size,5,none⟩=some (.slice ab el.length cb):=(hb3.cell (p:=⟨w.heap.size,5,none⟩) hs2).trans u5;have hs3:w.heap.size<w3.heap.size:=Nat.lt_of_lt_of_le hs2 hb3.size;clear hb3 u0 u4 u5 u3 y0
     by_cases hy:stsFault bd=0
     rotate_left
     ·have hy1:(((stsFault bd:Nat):Int) != 0)=true:=by rw [bne,beq_eq_false_iff_ne.2 (by omega)];rfl
      have HR:Hid (stFault (.mk 9 nn tt es bd el)=stsFault bd):=by show _=_;rw [stFault,HO.out,if_neg (by simp),if_neg (by rw [HZ.out];simp),if_neg (fun h=>HC.out.elim h.2.1 h.2.2),if_pos hy]
      clear hy;go_wp2_with fail;go_ret;exact⟨by rw [HR.out];rfl,HB3.out⟩
     have hy1:(((stsFault bd:Nat):Int) != 0)=false:=by rw [hy];rfl
     have HR:Hid (stFault (.mk 9 nn tt es bd el)=stsFault el):=by show _=_;rw [stFault,HO.out,if_neg (by simp),if_neg (by rw [HZ.out];simp),if_neg (fun h=>HC.out.elim h.2.1 h.2.2),if_neg (by rw [hy];simp)]
     clear hy;go_wp2_with fail;refine (fmt_stmtFaults d (Lib.hid IH.out) _ _ _ _ _ (H3.out _ HB3.out) BL.out (HL.out.below HB3.out (Nat.le_refl _))).mono ?_;rintro e w4 ⟨rfl,hb4⟩;have HB4:=Lib.hid (HB3.out.trans (hb4.mono HB3.out.size));clear hb4 v5;go_wp2_with fail;go_ret;exact⟨by rw [HR.out];rfl,HB4.out⟩
    ·cases b9
     ·subst hbb;go_wp2_with fail;refine (fmt_stmtFaults d (Lib.hid IH.out) _ _ _ _ _ (H2.out _ HB2.out) BB.out (HL.out.below HB2.out (Nat.le_refl _))).mono ?_;rintro e w3 ⟨rfl,hb3⟩;have HB3:=Lib.hid (HB2.out.trans (hb3.mono HB2.out.size));have v5:w3.cell? ⟨w.heap.size,5,none⟩=some (.slice ab el.length cb):=(hb3.cell (p:=⟨w.heap.size,5,none⟩) hs2).trans u5;have hs3:w.heap.size<w3.heap.size:=Nat.lt_of_lt_of_le hs2 hb3.size;clear hb3 u0 u4 u5 u3 y0
      by_cases hy:stsFault bd=0
      rotate_left
      ·have hy1:(((stsFault bd:Nat):Int) != 0)=true:=by rw [bne,beq_eq_false_iff_ne.2 (by omega)];rfl
       have HR:Hid (stFault (.mk 9 nn tt es bd el)=stsFault bd):=by show _=_;rw [stFault,HO.out,if_neg (by simp),if_neg (by rw [HZ.out];simp),if_neg (fun h=>HC.out.elim h.2.1 h.2.2),if_pos hy]
       clear hy;go_wp2_with fail;go_ret;exact⟨by rw [HR.out];rfl,HB3.out⟩
      have hy1:(((stsFault bd:Nat):Int) != 0)=false:=by rw [hy];rfl
      have HR:Hid (stFault (.mk 9 nn tt es bd el)=stsFault el):=by show _=_;rw [stFault,HO.out,if_neg (by simp),if_neg (by rw [HZ.out];simp),if_neg (fun h=>HC.out.elim h.2.1 h.2.2),if_neg (by rw [hy];simp)]
      clear hy;go_wp2_with fail;refine (fmt_stmtFaults d (Lib.hid IH.out) _ _ _ _ _ (H3.out _ HB3.out) BL.out (HL.out.below HB3.out (Nat.le_refl _))).mono ?_;rintro e w4 ⟨rfl,hb4⟩;have HB4:=Lib.hid (HB3.out.trans (hb4.mono HB3.out.size));clear hb4 v5;go_wp2_with fail;go_ret;exact⟨by rw [HR.out];rfl,HB4.out⟩
     ·subst hbb;go_wp2_with fail;refine (fmt_stmtFaults d (Lib.hid IH.out) _ _ _ _ _ (H2.out _ HB2.out) BB.out (HL.out.below HB2.out (Nat.le_refl _))).mono ?_;rintro e w3 ⟨rfl,hb3⟩;have HB3:=Lib.hid (HB2.out.trans (hb3.mono HB2.out.size));have v5:w3.cell? ⟨w.heap.size,5,none⟩=some (.slice ab el.length cb):=(hb3.cell (p:=⟨w.heap.size,5,none⟩) hs2).trans u5;have hs3:w.heap.size<w3.heap.size:=Nat.lt_of_lt_of_le hs2 hb3.size;clear hb3 u0 u4 u5 u3 y0
      by_cases hy:stsFault bd=0
      rotate_left
      ·have hy1:(((stsFault bd:Nat):Int) != 0)=true:=by rw [bne,beq_eq_false_iff_ne.2 (by omega)];rfl
       have HR:Hid (stFault (.mk 9 nn tt es bd el)=stsFault bd):=by show _=_;rw [stFault,HO.out,if_neg (by simp),if_neg (by rw [HZ.out];simp),if_neg (fun h=>HC.out.elim h.2.1 h.2.2),if_pos hy]
       clear hy;go_wp2_with fail;go_ret;exact⟨by rw [HR.out];rfl,HB3.out⟩
      have hy1:(((stsFault bd:Nat):Int) != 0)=false:=by rw [hy];rfl
      have HR:Hid (stFault (.mk 9 nn tt es bd el)=stsFault el):=by show _=_;rw [stFault,HO.out,if_neg (by simp),if_neg (by rw [HZ.out];simp),if_neg (fun h=>HC.out.elim h.2.1 h.2.2),if_neg (by rw [hy];simp)]
      clear hy;go_wp2_with fail;refine (fmt_stmtFaults d (Lib.hid IH.out) _ _ _ _ _ (H3.out _ HB3.out) BL.out (HL.out.below HB3.out (Nat.le_refl _))).mono ?_;rintro e w4 ⟨rfl,hb4⟩;have HB4:=Lib.hid (HB3.out.trans (hb4.mono HB3.out.size));clear hb4 v5;go_wp2_with fail;go_ret;exact⟨by rw [HR.out];rfl,HB4.out⟩
   have q1:(k == 1)=false:=by rw [beq_eq_false_iff_ne];exact hk1
   have q2:(k == 2)=false:=by rw [beq_eq_false_iff_ne];exact hk2
   have q3:(k == 3)=false:=by rw [beq_eq_false_iff_ne];exact hk3
   have q4:(k == 4)=false:=by rw [beq_eq_false_iff_ne];exact hk4
   have q5:(k == 5)=false:=by rw [beq_eq_false_iff_ne];exact hk5
   have q6:(k == 6)=false:=by rw [beq_eq_false_iff_ne];exact hk6
   have q7:(k == 7)=false:=by rw [beq_eq_false_iff_ne];exact hk7
   have q8:(k == 8)=false:=by rw [beq_eq_false_iff_ne];exact hk8
   have q9:(k == 9)=false:=by rw [beq_eq_false_iff_ne];exact hk9
   have hr:k<1∨9<k:=by omega
   have HO:Hid (stOwn k nn tt es.length bd.length el.length=12):=by show _=_;unfold stOwn;rw [if_pos hr]
   have HR:Hid (stFault (.mk k nn tt es bd el)=12):=by show _=_;rw [stFault,HO.out];rfl
   clear hr;go_enter Tryd.func68,Tryd.ntmps68;go_wp2_with fail;go_ret;exact⟨by rw [HR.out];rfl,((Below.refl _ _).alloc (Nat.le_refl _) _)⟩
end Go.Proofs.YtmlafcimjhnhhaaDoor
