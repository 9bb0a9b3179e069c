/-
  format's faults of expressions, walked (printed by genfault.py).
-/
import Derived.Test.YtmlafcimjhnhhaaDoorJlJpAu
import Derived.Test.YtmlafcimjhnhhaaDoorJlTrodTree
import Derived.Test.YtmlafcimjhnhhaaDoorJlJpAt
set_option linter.unusedSectionVars false
set_option linter.unusedSimpArgs false
set_option linter.unnecessarySimpa false
set_option linter.unusedVariables false
namespace Go.Proofs.YtmlafcimjhnhhaaDoor
open Lx Go.RowKit
set_option linter.unusedSimpArgs false
set_option maxHeartbeats 2000000 in
theorem fmt_exprFaults (d:Nat)(hK:Hid (∀ (e:Ex) (k n:Int) (o m:ByteArray) (a:Option Addr) (l c:Nat) (w:World),IsEx Any w d e [.int .i64 k,.int .i64 n,.string o,.string m,.slice a l c]→ExB d e→KwIs w→Calls Tryd.prog 39 #[.agg #[.int .i64 k,.int .i64 n,.string o,.string m,.slice a l c]] w fun r w'=>r=.returned (.int .i64 (exFault e:Int))∧Below w.heap.size w w'))(l:List Ex)(a:Option Addr)(n c:Nat)(w:World)(h:IsList Any w 5 (IsEx Any w d) l (.slice a n c))(hB:∀ x∈l,ExB d x)(hL:KwIs w) :
  Calls Tryd.prog 63 #[.slice a n c] w fun r w'=>r=.returned (.int .i64 (exsFault l:Int))∧Below w.heap.size w w':=by
 obtain⟨rfl,hm,hat⟩:=h.exAt;unfold maxLen at hm;have HAT:=Lib.hid hat;have HBX:=Lib.hid hB;have HL:=Lib.hid hL;have HR:=Lib.hid (exsFault_first l);clear h hat hB hL;go_enter Tryd.func63,Tryd.ntmps63;go_wp2_with fail
 go_loopw [8] (fun i wr=>LimRelF exFault l w i wr) (fun i _=>l.length-(intOf i).toNat)
 case atStart=>exact⟨0,Nat.zero_le _,rfl,fun k hk=>by omega,.refl _ _⟩
 case round =>
  obtain⟨j,hj,rfl,h0,hb⟩:=hrel;have H0:=Lib.hid h0;clear h0
  by_cases hlt:j<l.length
  ·obtain⟨g,off,k1,m1,o1,nm1,a1,n1,c1,rfl,hgl,x0,x1,x2,x3,x4,hx⟩:=HAT.out j hlt;rw [← hb.cell (p:=⟨g,_,none⟩) hgl] at x0 x1 x2 x3 x4;have hgw:g<wr.heap.size:=Nat.lt_of_lt_of_le hgl hb.size;have hx2:=IsEx.kept (kept_any hb) _ _ _ hx;have HX:=Lib.hid (IsEx.kept (kept_alloc wr (.cells #[.int .i64 k1,.int .i64 m1,.string o1,.string nm1,.slice a1 n1 c1] 60)) _ _ _ hx2);have HB:=Lib.hid hb;have hj1:(j:Int)<(l.length:Int):=by omega
   have hj0:(0:Int)≤(j:Int):=by omega
   clear hb hx hx2;go_wp2_with fail;refine (hK.out _ _ _ _ _ _ _ _ _ HX.out (HBX.out _ (List.getElem_mem hlt)) ((HL.out.below HB.out (Nat.le_refl _)).alloc _)).mono ?_;rintro e w3 ⟨rfl,hb3⟩;have HB3:=Lib.hid (HB.out.trans ((((Below.refl _ _).alloc (Nat.le_refl _) _).trans (hb3.mono (by simp))).mono HB.out.size));clear hb3 x0 x1 x2 x3 x4
   by_cases hz:exFault l[j]=0
   ·have HZ:=Lib.hid hz;have hz1:(((exFault l[j]:Nat):Int) != 0)=false:=by rw [hz];rfl
    clear hz;go_wp2_with fail
    go_roundw
    case rel =>
     refine⟨j+1,by omega,by go_num,fun k hk=>?_,HB3.out⟩
     by_cases hkj:k<j
     ·exact H0.out k hkj
     ·obtain rfl:k=j:=by omega
      exact HZ.out
    case measure=>simp [intOf];omega
   ·have hz1:(((exFault l[j]:Nat):Int) != 0)=true:=by rw [bne,beq_eq_false_iff_ne.2 (by omega)];rfl
    have HZ:=Lib.hid hz;clear hz;go_wp2_with fail;go_ret;refine⟨?_,HB3.out⟩;rw [HR.out,firstLim_take _ _ j hlt H0.out,if_pos HZ.out];rfl
  ·have HB:=Lib.hid hb;clear hb;go_wp2_with fail;go_ret;refine⟨?_,HB.out⟩;rw [HR.out,firstLim_zero _ _ fun i hi=>H0.out i (by omega)];rfl
set_option maxHeartbeats 8000000 in
theorem fmt_exprFault (d:Nat):∀ (e:Ex) (k n:Int) (o m:ByteArray) (a:Option Addr) (l c:Nat) (w:World),IsEx Any w d e [.int .i64 k,.int .i64 n,.string o,.string m,.slice a l c]→ExB d e→KwIs w→Calls Tryd.prog 39 #[.agg #[.int .i64 k,.int .i64 n,.string o,.string m,.slice a l c]] w fun r w'=>r=.returned (.int .i64 (exFault e:Int))∧Below w.heap.size w w':=by
 induction d with
 | zero=>intro e k n o m a l c w h;exact absurd h (by simp [IsEx])
 | succ d ih =>
   intro e k n o m a l c w h hB hL;obtain⟨oo,mm,ks,rfl,rfl,rfl,hl⟩:=h.flds;obtain rfl:=hl.len.1;have hkl:=hl.len.2;unfold maxLen at hkl;obtain⟨hk64,hn64,hoo,hmm,hks⟩:=hB;have H1:Hid (∀ x,Below w.heap.size w x→IsList Any x 5 (IsEx Any x d) ks (.slice a ks.length c)):=fun x hx=>hl.kept (kept_any hx) (by omega) fun _ _ _=>IsEx.kept (kept_any hx) _ _ _
   have Boo:=Lib.hid hoo;have Bmm:=Lib.hid hmm;have BK:=Lib.hid hks;have HL:=Lib.hid hL;have IH:=Lib.hid ih;clear h hl hoo hmm hks hL ih hk64 hn64
   by_cases hk1:k=1
   ·subst hk1
    by_cases ho:oo=[]
    rotate_left
    ·have eo:=isEmpty_pos (strOf oo) (by rw [strOf_size];exact List.length_pos_iff.2 ho);have HR:Hid (exFault (.mk 1 n oo mm ks)=1):=by show _=_;simp [exFault,ownFault,namedK,kidsOk,ho]
     go_enter Tryd.func39,Tryd.ntmps39;go_wp2_with fail;go_ret;exact⟨by rw [HR.out];rfl,((Below.refl _ _).alloc (Nat.le_refl _) _)⟩
    have eo:=isEmpty_zero (strOf oo) (by rw [strOf_size,ho];rfl);have HO:=Lib.hid ho;clear ho
    by_cases hm:mm=[]
    rotate_left
    ·have em:=isEmpty_pos (strOf mm) (by rw [strOf_size];exact List.length_pos_iff.2 hm);have HR:Hid (exFault (.mk 1 n oo mm ks)=1):=by show _=_;simp [exFault,ownFault,namedK,kidsOk,HO.out,hm]
     go_enter Tryd.func39,Tryd.ntmps39;go_wp2_with fail;go_ret;exact⟨by rw [HR.out];rfl,((Below.refl _ _).alloc (Nat.le_refl _) _)⟩
    have em:=isEmpty_zero (strOf mm) (by rw [strOf_size,hm];rfl);have HM:=Lib.hid hm;clear hm
    by_cases h8:0<ks.length
    ·have h8n:ks.length≠0:=by omega
     have HR:Hid (exFault (.mk 1 n oo mm ks)=1):=by show _=_;simp [exFault,ownFault,namedK,kidsOk,HO.out,HM.out,h8n]
     go_enter Tryd.func39,Tryd.ntmps39;go_wp2_with fail;go_ret;exact⟨by rw [HR.out];rfl,((Below.refl _ _).alloc (Nat.le_refl _) _)⟩
    have hlen:ks.length=0:=by omega
    have HLEN:=Lib.hid hlen;clear hlen
    by_cases hx:n=-9223372036854775808
    ·subst hx;have HR:Hid (exFault (.mk 1 (-9223372036854775808) oo mm ks)=4):=by show _=_;simp [exFault,ownFault,namedK,kidsOk,HO.out,HM.out,HLEN.out]
     go_enter Tryd.func39,Tryd.ntmps39;go_wp2_with fail;go_ret;exact⟨by rw [HR.out];rfl,((Below.refl _ _).alloc (Nat.le_refl _) _)⟩
    have qx:(n == -9223372036854775808)=false:=by rw [beq_eq_false_iff_ne];exact hx
    have HR:Hid (exFault (.mk 1 n oo mm ks)=exsFault ks):=by show _=_;simp [exFault,ownFault,namedK,kidsOk,HO.out,HM.out,hx,HLEN.out]
    go_enter Tryd.func39,Tryd.ntmps39;go_wp2_with fail;refine (fmt_exprFaults d (Lib.hid IH.out) _ _ _ _ _ (H1.out _ ((Below.refl _ _).alloc (Nat.le_refl _) _)) BK.out (HL.out.alloc _)).mono ?_;rintro e w2 ⟨rfl,hb2⟩;have HB2:=Lib.hid (((Below.refl _ _).alloc (Nat.le_refl _) _).trans (hb2.mono (by simp)));clear hb2;go_wp2_with fail;go_ret;exact⟨by rw [HR.out];rfl,HB2.out⟩
   by_cases hk2:k=2
   ·subst hk2
    by_cases hn:n=0
    rotate_left
    ·have qn:(n != 0)=true:=by rw [bne_iff_ne];exact hn
     have HR:Hid (exFault (.mk 2 n oo mm ks)=1):=by show _=_;simp [exFault,ownFault,namedK,kidsOk,hn]
     go_enter Tryd.func39,Tryd.ntmps39;go_wp2_with fail;go_ret;exact⟨by rw [HR.out];rfl,((Below.refl _ _).alloc (Nat.le_refl _) _)⟩
    subst hn
    by_cases ho:oo=[]
    rotate_left
    ·have eo:=isEmpty_pos (strOf oo) (by rw [strOf_size];exact List.length_pos_iff.2 ho);have HR:Hid (exFault (.mk 2 0 oo mm ks)=1):=by show _=_;simp [exFault,ownFault,namedK,kidsOk,ho]
     go_enter Tryd.func39,Tryd.ntmps39;go_wp2_with fail;go_ret;exact⟨by rw [HR.out];rfl,((Below.refl _ _).alloc (Nat.le_refl _) _)⟩
    have eo:=isEmpty_zero (strOf oo) (by rw [strOf_size,ho];rfl);have HO:=Lib.hid ho;clear ho
    by_cases hm:mm=[]
    rotate_left
    ·have em:=isEmpty_pos (strOf mm) (by rw [strOf_size];exact List.length_pos_iff.2 hm);have HR:Hid (exFault (.mk 2 0 oo mm ks)=1):=by show _=_;simp [exFault,ownFault,namedK,kidsOk,HO.out,hm]
     go_enter Tryd.func39,Tryd.ntmps39;go_wp2_with fail;go_ret;exact⟨by rw [HR.out];rfl,((Below.refl _ _).alloc (Nat.le_refl _) _)⟩
    have em:=isEmpty_zero (strOf mm) (by rw [strOf_size,hm];rfl);have HM:=Lib.hid hm;clear hm
    by_cases h8:0<ks.length
    ·have h8n:ks.length≠0:=by omega
     have HR:Hid (exFault (.mk 2 0 oo mm ks)=1):=by show _=_;simp [exFault,ownFault,namedK,kidsOk,HO.out,HM.out,h8n]
     go_enter Tryd.func39,Tryd.ntmps39;go_wp2_with fail;go_ret;exact⟨by rw [HR.out];rfl,((Below.refl _ _).alloc (Nat.le_refl _) _)⟩
    have hlen:ks.length=0:=by omega
    have HLEN:=Lib.hid hlen;clear hlen;have HR:Hid (exFault (.mk 2 0 oo mm ks)=exsFault ks):=by show _=_;simp [exFault,ownFault,namedK,kidsOk,HO.out,HM.out,HLEN.out]
    go_enter Tryd.func39,Tryd.ntmps39;go_wp2_with fail;refine (fmt_exprFaults d (Lib.hid IH.out) _ _ _ _ _ (H1.out _ ((Below.refl _ _).alloc (Nat.le_refl _) _)) BK.out (HL.out.alloc _)).mono ?_;rintro e w2 ⟨rfl,hb2⟩;have HB2:=Lib.hid (((Below.refl _ _).alloc (Nat.le_refl _) _).trans (hb2.mono (by simp)));clear hb2;go_wp2_with fail;go_ret;exact⟨by rw [HR.out];rfl,HB2.out⟩
   by_cases hk3:k=3
   ·subst hk3
    by_cases hn:n=0
    rotate_left
    ·have qn:(n != 0)=true:=by rw [bne_iff_ne];exact hn
     have HR:Hid (exFault (.mk 3 n oo mm ks)=1):=by show _=_;simp [exFault,ownFault,namedK,kidsOk,hn]
     go_enter Tryd.func39,Tryd.ntmps39;go_wp2_with fail;go_ret;exact⟨by rw [HR.out];rfl,((Below.refl _ _).alloc (Nat.le_refl _) _)⟩
    subst hn
    by_cases ho:oo=[]
    rotate_left
    ·have eo:=isEmpty_pos (strOf oo) (by rw [strOf_size];exact List.length_pos_iff.2 ho);have HR:Hid (exFault (.mk 3 0 oo mm ks)=1):=by show _=_;simp [exFault,ownFault,namedK,kidsOk,ho]
     go_enter Tryd.func39,Tryd.ntmps39;go_wp2_with fail;go_ret;exact⟨by rw [HR.out];rfl,((Below.refl _ _).alloc (Nat.le_refl _) _)⟩
    have eo:=isEmpty_zero (strOf oo) (by rw [strOf_size,ho];rfl);have HO:=Lib.hid ho;clear ho
    by_cases h8:0<ks.length
    ·have h8n:ks.length≠0:=by omega
     have HR:Hid (exFault (.mk 3 0 oo mm ks)=1):=by show _=_;simp [exFault,ownFault,namedK,kidsOk,HO.out,h8n]
     go_enter Tryd.func39,Tryd.ntmps39;go_wp2_with fail;go_ret;exact⟨by rw [HR.out];rfl,((Below.refl _ _).alloc (Nat.le_refl _) _)⟩
    have hlen:ks.length=0:=by omega
    have HLEN:=Lib.hid hlen;clear hlen;cases hImm:isIdent mm
    ·have HImm:=Lib.hid hImm;have HR:Hid (exFault (.mk 3 0 oo mm ks)=5):=by show _=_;simp [exFault,ownFault,namedK,kidsOk,HO.out,HLEN.out,hImm]
     rw [← strOf_data mm] at hImm;go_enter Tryd.func39,Tryd.ntmps39;go_wp2_with fail;refine (fm_ident0 _ _ (by rw [strOf_size];exact Bmm.out) (HL.out.alloc _)).mono ?_;rintro e w' ⟨rfl,rfl⟩;go_wp2_with fail;go_ret;exact⟨by rw [HR.out];rfl,((Below.refl _ _).alloc (Nat.le_refl _) _)⟩
    have HImm:=Lib.hid hImm;rw [← strOf_data mm] at hImm;go_enter Tryd.func39,Tryd.ntmps39;go_wp2_with fail;refine (fm_ident0 _ _ (by rw [strOf_size];exact Bmm.out) (HL.out.alloc _)).mono ?_;rintro e w' ⟨rfl,rfl⟩;have HR:Hid (exFault (.mk 3 0 oo mm ks)=exsFault ks):=by show _=_;simp [exFault,ownFault,namedK,kidsOk,HO.out,HLEN.out,HImm.out]
    go_wp2_with fail;refine (fmt_exprFaults d (Lib.hid IH.out) _ _ _ _ _ (H1.out _ ((Below.refl _ _).alloc (Nat.le_refl _) _)) BK.out (HL.out.alloc _)).mono ?_;rintro e w2 ⟨rfl,hb2⟩;have HB2:=Lib.hid (((Below.refl _ _).alloc (Nat.le_refl _) _).trans (hb2.mono (by simp)));clear hb2;go_wp2_with fail;go_ret;exact⟨by rw [HR.out];rfl,HB2.out⟩
   by_cases hk4:k=4
   ·subst hk4
    by_cases hn:n=0
    rotate_left
    ·have qn:(n != 0)=true:=by rw [bne_iff_ne];exact hn
     have HR:Hid (exFault (.mk 4 n oo mm ks)=1):=by show _=_;simp [exFault,ownFault,namedK,kidsOk,hn]
     go_enter Tryd.func39,Tryd.ntmps39;go_wp2_with fail;go_ret;exact⟨by rw [HR.out];rfl,((Below.refl _ _).alloc (Nat.le_refl _) _)⟩
    subst hn
    by_cases ho:oo=[]
    rotate_left
    ·have eo:=isEmpty_pos (strOf oo) (by rw [strOf_size];exact List.length_pos_iff.2 ho);have HR:Hid (exFault (.mk 4 0 oo mm ks)=1):=by show _=_;simp [exFault,ownFault,namedK,kidsOk,ho]
     go_enter Tryd.func39,Tryd.ntmps39;go_wp2_with fail;go_ret;exact⟨by rw [HR.out];rfl,((Below.refl _ _).alloc (Nat.le_refl _) _)⟩
    have eo:=isEmpty_zero (strOf oo) (by rw [strOf_size,ho];rfl);have HO:=Lib.hid ho;clear ho
    by_cases hm:mm=[]
    rotate_left
    ·have em:=isEmpty_pos (strOf mm) (by rw [strOf_size];exact List.length_pos_iff.2 hm);have HR:Hid (exFault (.mk 4 0 oo mm ks)=1):=by show _=_;simp [exFault,ownFault,namedK,kidsOk,HO.out,hm]
     go_enter Tryd.func39,Tryd.ntmps39;go_wp2_with fail;go_ret;exact⟨by rw [HR.out];rfl,((Below.refl _ _).alloc (Nat.le_refl _) _)⟩
    have em:=isEmpty_zero (strOf mm) (by rw [strOf_size,hm];rfl);have HM:=Lib.hid hm;clear hm
    by_cases h8:0<ks.length
    ·have h8n:ks.length≠0:=by omega
     have HR:Hid (exFault (.mk 4 0 oo mm ks)=1):=by show _=_;simp [exFault,ownFault,namedK,kidsOk,HO.out,HM.out,h8n]
     go_enter Tryd.func39,Tryd.ntmps39;go_wp2_with fail;go_ret;exact⟨by rw [HR.out];rfl,((Below.refl _ _).alloc (Nat.le_refl _) _)⟩
    have hlen:ks.length=0:=by omega
    have HLEN:=Lib.hid hlen;clear hlen;have HR:Hid (exFault (.mk 4 0 oo mm ks)=exsFault ks):=by show _=_;simp [exFault,ownFault,namedK,kidsOk,HO.out,HM.out,HLEN.out]
    go_enter Tryd.func39,Tryd.ntmps39;go_wp2_with fail;refine (fmt_exprFaults d (Lib.hid IH.out) _ _ _ _ _ (H1.out _ ((Below.refl _ _).alloc (Nat.le_refl _) _)) BK.out (HL.out.alloc _)).mono ?_;rintro e w2 ⟨rfl,hb2⟩;have HB2:=Lib.hid (((Below.refl _ _).alloc (Nat.le_refl _) _).trans (hb2.mono (by simp)));clear hb2;go_wp2_with fail;go_ret;exact⟨by rw [HR.out];rfl,HB2.out⟩
   by_cases hk5:k=5
   ·subst hk5
    by_cases hn:n=0
    rotate_left
    ·have qn:(n != 0)=true:=by rw [bne_iff_ne];exact hn
     have HR:Hid (exFault (.mk 5 n oo mm ks)=1):=by show _=_;simp [exFault,ownFault,namedK,kidsOk,hn]
     go_enter Tryd.func39,Tryd.ntmps39;go_wp2_with fail;go_ret;exact⟨by rw [HR.out];rfl,((Below.refl _ _).alloc (Nat.le_refl _) _)⟩
    subst hn
    by_cases ho:oo=[]
    rotate_left
    ·have eo:=isEmpty_pos (strOf oo) (by rw [strOf_size];exact List.length_pos_iff.2 ho);have HR:Hid (exFault (.mk 5 0 oo mm ks)=1):=by show _=_;simp [exFault,ownFault,namedK,kidsOk,ho]
     go_enter Tryd.func39,Tryd.ntmps39;go_wp2_with fail;go_ret;exact⟨by rw [HR.out];rfl,((Below.refl _ _).alloc (Nat.le_refl _) _)⟩
    have eo:=isEmpty_zero (strOf oo) (by rw [strOf_size,ho];rfl);have HO:=Lib.hid ho;clear ho
    by_cases hm:mm=[]
    rotate_left
    ·have em:=isEmpty_pos (strOf mm) (by rw [strOf_size];exact List.length_pos_iff.2 hm);have HR:Hid (exFault (.mk 5 0 oo mm ks)=1):=by show _=_;simp [exFault,ownFault,namedK,kidsOk,HO.out,hm]
     go_enter Tryd.func39,Tryd.ntmps39;go_wp2_with fail;go_ret;exact⟨by rw [HR.out];rfl,((Below.refl _ _).alloc (Nat.le_refl _) _)⟩
    have em:=isEmpty_zero (strOf mm) (by rw [strOf_size,hm];rfl);have HM:=Lib.hid hm;clear hm
    by_cases h8:0<ks.length
    ·have h8n:ks.length≠0:=by omega
     have HR:Hid (exFault (.mk 5 0 oo mm ks)=1):=by show _=_;simp [exFault,ownFault,namedK,kidsOk,HO.out,HM.out,h8n]
     go_enter Tryd.func39,Tryd.ntmps39;go_wp2_with fail;go_ret;exact⟨by rw [HR.out];rfl,((Below.refl _ _).alloc (Nat.le_refl _) _)⟩
    have hlen:ks.length=0:=by omega
    have HLEN:=Lib.hid hlen;clear hlen;have HR:Hid (exFault (.mk 5 0 oo mm ks)=exsFault ks):=by show _=_;simp [exFault,ownFault,namedK,kidsOk,HO.out,HM.out,HLEN.out]
    go_enter Tryd.func39,Tryd.ntmps39;go_wp2_with fail;refine (fmt_exprFaults d (Lib.hid IH.out) _ _ _ _ _ (H1.out _ ((Below.refl _ _).alloc (Nat.le_refl _) _)) BK.out (HL.out.alloc _)).mono ?_;rintro e w2 ⟨rfl,hb2⟩;have HB2:=Lib.hid (((Below.refl _ _).alloc (Nat.le_refl _) _).trans (hb2.mono (by simp)));clear hb2;go_wp2_with fail;go_ret;exact⟨by rw [HR.out];rfl,HB2.out⟩
   by_cases hk6:k=6
   ·subst hk6
    by_cases h1:n<1
    ·skip
     have HR:Hid (exFault (.mk 6 n oo mm ks)=12):=by show _=_;simp [exFault,ownFault,namedK,kidsOk,h1]
     go_enter Tryd.func39,Tryd.ntmps39;go_wp2_with fail;go_ret;exact⟨by rw [HR.out];rfl,((Below.refl _ _).alloc (Nat.le_refl _) _)⟩
    by_cases h5:5<n
    ·skip
     have HR:Hid (exFault (.mk 6 n oo mm ks)=12):=by show _=_;simp [exFault,ownFault,namedK,kidsOk,h1,h5]
     go_enter Tryd.func39,Tryd.ntmps39;go_wp2_with fail;go_ret;exact⟨by rw [HR.out];rfl,((Below.refl _ _).alloc (Nat.le_refl _) _)⟩
    by_cases ho:oo=[]
    rotate_left
    ·have eo:=isEmpty_pos (strOf oo) (by rw [strOf_size];exact List.length_pos_iff.2 ho);have HR:Hid (exFault (.mk 6 n oo mm ks)=1):=by show _=_;simp [exFault,ownFault,namedK,kidsOk,h1,h5,ho]
     go_enter Tryd.func39,Tryd.ntmps39;go_wp2_with fail;go_ret;exact⟨by rw [HR.out];rfl,((Below.refl _ _).alloc (Nat.le_refl _) _)⟩
    have eo:=isEmpty_zero (strOf oo) (by rw [strOf_size,ho];rfl);have HO:=Lib.hid ho;clear ho
    by_cases hm:mm=[]
    rotate_left
    ·have em:=isEmpty_pos (strOf mm) (by rw [strOf_size];exact List.length_pos_iff.2 hm);have HR:Hid (exFault (.mk 6 n oo mm ks)=1):=by show _=_;simp [exFault,ownFault,namedK,kidsOk,h1,h5,HO.out,hm]
     go_enter Tryd.func39,Tryd.ntmps39;go_wp2_with fail;go_ret;exact⟨by rw [HR.out];rfl,((Below.refl _ _).alloc (Nat.le_refl _) _)⟩
    have em:=isEmpty_zero (strOf mm) (by rw [strOf_size,hm];rfl);have HM:=Lib.hid hm;clear hm
    by_cases h7:ks.length<2
    ·have h7n:ks.length≠2:=by omega
     have HR:Hid (exFault (.mk 6 n oo mm ks)=1):=by show _=_;simp [exFault,ownFault,namedK,kidsOk,h1,h5,HO.out,HM.out,h7n]
     go_enter Tryd.func39,Tryd.ntmps39;go_wp2_with fail;go_ret;exact⟨by rw [HR.out];rfl,((Below.refl _ _).alloc (Nat.le_refl _) _)⟩
    by_cases h8:2<ks.length
    ·have h8n:ks.length≠2:=by omega
     have HR:Hid (exFault (.mk 6 n oo mm ks)=1):=by show _=_;simp [exFault,ownFault,namedK,kidsOk,h1,h5,HO.out,HM.out,h8n]
     go_enter Tryd.func39,Tryd.ntmps39;go_wp2_with fail;go_ret;exact⟨by rw [HR.out];rfl,((Below.refl _ _).alloc (Nat.le_refl _) _)⟩
    have hlen:ks.length=2:=by omega
    have HLEN:=Lib.hid hlen;clear hlen;have HR:Hid (exFault (.mk 6 n oo mm ks)=exsFault ks):=by show _=_;simp [exFault,ownFault,namedK,kidsOk,h1,h5,HO.out,HM.out,HLEN.out]
    go_enter Tryd.func39,Tryd.ntmps39;go_wp2_with fail;refine (fmt_exprFaults d (Lib.hid IH.out) _ _ _ _ _ (H1.out _ ((Below.refl _ _).alloc (Nat.le_refl _) _)) BK.out (HL.out.alloc _)).mono ?_;rintro e w2 ⟨rfl,hb2⟩;have HB2:=Lib.hid (((Below.refl _ _).alloc (Nat.le_refl _) _).trans (hb2.mono (by simp)));clear hb2;go_wp2_with fail;go_ret;exact⟨by rw [HR.out];rfl,HB2.out⟩
   by_cases hk7:k=7
   ·subst hk7
    by_cases hn:n=0
    rotate_left
    ·have qn:(n != 0)=true:=by rw [bne_iff_ne];exact hn
     have HR:Hid (exFault (.mk 7 n oo mm ks)=1):=by show _=_;simp [exFault,ownFault,namedK,kidsOk,hn]
     go_enter Tryd.func39,Tryd.ntmps39;go_wp2_with fail;go_ret;exact⟨by rw [HR.out];rfl,((Below.refl _ _).alloc (Nat.le_refl _) _)⟩
    subst hn
    by_cases ho:oo=[]
    rotate_left
    ·have eo:=isEmpty_pos (strOf oo) (by rw [strOf_size];exact List.length_pos_iff.2 ho);have HR:Hid (exFault (.mk 7 0 oo mm ks)=1):=by show _=_;simp [exFault,ownFault,namedK,kidsOk,ho]
     go_enter Tryd.func39,Tryd.ntmps39;go_wp2_with fail;go_ret;exact⟨by rw [HR.out];rfl,((Below.refl _ _).alloc (Nat.le_refl _) _)⟩
    have eo:=isEmpty_zero (strOf oo) (by rw [strOf_size,ho];rfl);have HO:=Lib.hid ho;clear ho
    by_cases h8:0<ks.length
    ·have h8n:ks.length≠0:=by omega
     have HR:Hid (exFault (.mk 7 0 oo mm ks)=1):=by show _=_;simp [exFault,ownFault,namedK,kidsOk,HO.out,h8n]
     go_enter Tryd.func39,Tryd.ntmps39;go_wp2_with fail;go_ret;exact⟨by rw [HR.out];rfl,((Below.refl _ _).alloc (Nat.le_refl _) _)⟩
    have hlen:ks.length=0:=by omega
    have HLEN:=Lib.hid hlen;clear hlen;cases hImm:isIdent mm
    ·have HImm:=Lib.hid hImm;have HR:Hid (exFault (.mk 7 0 oo mm ks)=5):=by show _=_;simp [exFault,ownFault,namedK,kidsOk,HO.out,HLEN.out,hImm]
     rw [← strOf_data mm] at hImm;go_enter Tryd.func39,Tryd.ntmps39;go_wp2_with fail;refine (fm_ident0 _ _ (by rw [strOf_size];exact Bmm.out) (HL.out.alloc _)).mono ?_;rintro e w' ⟨rfl,rfl⟩;go_wp2_with fail;go_ret;exact⟨by rw [HR.out];rfl,((Below.refl _ _).alloc (Nat.le_refl _) _)⟩
    have HImm:=Lib.hid hImm;rw [← strOf_data mm] at hImm;go_enter Tryd.func39,Tryd.ntmps39;go_wp2_with fail;refine (fm_ident0 _ _ (by rw [strOf_size];exact Bmm.out) (HL.out.alloc _)).mono ?_;rintro e w' ⟨rfl,rfl⟩;have HR:Hid (exFault (.mk 7 0 oo mm ks)=exsFault ks):=by show _=_;simp [exFault,ownFault,namedK,kidsOk,HO.out,HLEN.out,HImm.out]
    go_wp2_with fail;refine (fmt_exprFaults d (Lib.hid IH.out) _ _ _ _ _ (H1.out _ ((Below.refl _ _).alloc (Nat.le_refl _) _)) BK.out (HL.out.alloc _)).mono ?_;rintro e w2 ⟨rfl,hb2⟩;have HB2:=Lib.hid (((Below.refl _ _).alloc (Nat.le_refl _) _).trans (hb2.mono (by simp)));clear hb2;go_wp2_with fail;go_ret;exact⟨by rw [HR.out];rfl,HB2.out⟩
   by_cases hk8:k=8
   ·subst hk8
    by_cases hn:n=0
    rotate_left
    ·have qn:(n != 0)=true:=by rw [bne_iff_ne];exact hn
     have HR:Hid (exFault (.mk 8 n oo mm ks)=1):=by show _=_;simp [exFault,ownFault,namedK,kidsOk,hn]
     go_enter Tryd.func39,Tryd.ntmps39;go_wp2_with fail;go_ret;exact⟨by rw [HR.out];rfl,((Below.refl _ _).alloc (Nat.le_refl _) _)⟩
    subst hn
    by_cases ho:oo=[]
    rotate_left
    ·have eo:=isEmpty_pos (strOf oo) (by rw [strOf_size];exact List.length_pos_iff.2 ho);have HR:Hid (exFault (.mk 8 0 oo mm ks)=1):=by show _=_;simp [exFault,ownFault,namedK,kidsOk,ho]
     go_enter Tryd.func39,Tryd.ntmps39;go_wp2_with fail;go_ret;exact⟨by rw [HR.out];rfl,((Below.refl _ _).alloc (Nat.le_refl _) _)⟩
    have eo:=isEmpty_zero (strOf oo) (by rw [strOf_size,ho];rfl);have HO:=Lib.hid ho;clear ho
    by_cases h7:ks.length<1
    ·have h7n:ks.length≠1:=by omega
     have HR:Hid (exFault (.mk 8 0 oo mm ks)=1):=by show _=_;simp [exFault,ownFault,namedK,kidsOk,HO.out,h7n]
     go_enter Tryd.func39,Tryd.ntmps39;go_wp2_with fail;go_ret;exact⟨by rw [HR.out];rfl,((Below.refl _ _).alloc (Nat.le_refl _) _)⟩
    by_cases h8:1<ks.length
    ·have h8n:ks.length≠1:=by omega
     have HR:Hid (exFault (.mk 8 0 oo mm ks)=1):=by show _=_;simp [exFault,ownFault,namedK,kidsOk,HO.out,h8n]
     go_enter Tryd.func39,Tryd.ntmps39;go_wp2_with fail;go_ret;exact⟨by rw [HR.out];rfl,((Below.refl _ _).alloc (Nat.le_refl _) _)⟩
    have hlen:ks.length=1:=by omega
    have HLEN:=Lib.hid hlen;clear hlen;cases hImm:isIdent mm
    ·have HImm:=Lib.hid hImm;have HR:Hid (exFault (.mk 8 0 oo mm ks)=5):=by show _=_;simp [exFault,ownFault,namedK,kidsOk,HO.out,HLEN.out,hImm]
     rw [← strOf_data mm] at hImm;go_enter Tryd.func39,Tryd.ntmps39;go_wp2_with fail;refine (fm_ident0 _ _ (by rw [strOf_size];exact Bmm.out) (HL.out.alloc _)).mono ?_;rintro e w' ⟨rfl,rfl⟩;go_wp2_with fail;go_ret;exact⟨by rw [HR.out];rfl,((Below.refl _ _).alloc (Nat.le_refl _) _)⟩
    have HImm:=Lib.hid hImm;rw [← strOf_data mm] at hImm;go_enter Tryd.func39,Tryd.ntmps39;go_wp2_with fail;refine (fm_ident0 _ _ (by rw [strOf_size];exact Bmm.out) (HL.out.alloc _)).mono ?_;rintro e w' ⟨rfl,rfl⟩;have HR:Hid (exFault (.mk 8 0 oo mm ks)=exsFault ks):=by show _=_;simp [exFault,ownFault,namedK,kidsOk,HO.out,HLEN.out,HImm.out]
    go_wp2_with fail;refine (fmt_exprFaults d (Lib.hid IH.out) _ _ _ _ _ (H1.out _ ((Below.refl _ _).alloc (Nat.le_refl _) _)) BK.out (HL.out.alloc _)).mono ?_;rintro e w2 ⟨rfl,hb2⟩;have HB2:=Lib.hid (((Below.refl _ _).alloc (Nat.le_refl _) _).trans (hb2.mono (by simp)));clear hb2;go_wp2_with fail;go_ret;exact⟨by rw [HR.out];rfl,HB2.out⟩
   by_cases hk9:k=9
   ·subst hk9
    by_cases hn:n=0
    rotate_left
    ·have qn:(n != 0)=true:=by rw [bne_iff_ne];exact hn
     have HR:Hid (exFault (.mk 9 n oo mm ks)=1):=by show _=_;simp [exFault,ownFault,namedK,kidsOk,hn]
     go_enter Tryd.func39,Tryd.ntmps39;go_wp2_with fail;go_ret;exact⟨by rw [HR.out];rfl,((Below.refl _ _).alloc (Nat.le_refl _) _)⟩
    subst hn
    by_cases ho:oo=[]
    rotate_left
    ·have eo:=isEmpty_pos (strOf oo) (by rw [strOf_size];exact List.length_pos_iff.2 ho);have HR:Hid (exFault (.mk 9 0 oo mm ks)=1):=by show _=_;simp [exFault,ownFault,namedK,kidsOk,ho]
     go_enter Tryd.func39,Tryd.ntmps39;go_wp2_with fail;go_ret;exact⟨by rw [HR.out];rfl,((Below.refl _ _).alloc (Nat.le_refl _) _)⟩
    have eo:=isEmpty_zero (strOf oo) (by rw [strOf_size,ho];rfl);have HO:=Lib.hid ho;clear ho
    by_cases h7:ks.length<1
    ·have h7n:¬ 1≤ks.length:=by omega
     have HR:Hid (exFault (.mk 9 0 oo mm ks)=1):=by show _=_;simp [exFault,ownFault,namedK,kidsOk,HO.out,h7n]
     go_enter Tryd.func39,Tryd.ntmps39;go_wp2_with fail;go_ret;exact⟨by rw [HR.out];rfl,((Below.refl _ _).alloc (Nat.le_refl _) _)⟩
    have hlen:1≤ks.length:=by omega
    have HLEN:=Lib.hid hlen;clear hlen;cases hImm:isIdent mm
    ·have HImm:=Lib.hid hImm;have HR:Hid (exFault (.mk 9 0 oo mm ks)=5):=by show _=_;simp [exFault,ownFault,namedK,kidsOk,HO.out,HLEN.out,hImm]
     rw [← strOf_data mm] at hImm;go_enter Tryd.func39,Tryd.ntmps39;go_wp2_with fail;refine (fm_ident0 _ _ (by rw [strOf_size];exact Bmm.out) (HL.out.alloc _)).mono ?_;rintro e w' ⟨rfl,rfl⟩;go_wp2_with fail;go_ret;exact⟨by rw [HR.out];rfl,((Below.refl _ _).alloc (Nat.le_refl _) _)⟩
    have HImm:=Lib.hid hImm;rw [← strOf_data mm] at hImm;go_enter Tryd.func39,Tryd.ntmps39;go_wp2_with fail;refine (fm_ident0 _ _ (by rw [strOf_size];exact Bmm.out) (HL.out.alloc _)).mono ?_;rintro e w' ⟨rfl,rfl⟩;have HR:Hid (exFault (.mk 9 0 oo mm ks)=exsFault ks):=by show _=_;simp [exFault,ownFault,namedK,kidsOk,HO.out,HLEN.out,HImm.out]
    go_wp2_with fail;refine (fmt_exprFaults d (Lib.hid IH.out) _ _ _ _ _ (H1.out _ ((Below.refl _ _).alloc (Nat.le_refl _) _)) BK.out (HL.out.alloc _)).mono ?_;rintro e w2 ⟨rfl,hb2⟩;have HB2:=Lib.hid (((Below.refl _ _).alloc (Nat.le_refl _) _).trans (hb2.mono (by simp)));clear hb2;go_wp2_with fail;go_ret;exact⟨by rw [HR.out];rfl,HB2.out⟩
   by_cases hk10:k=10
   ·subst hk10
    by_cases hn:n=0
    rotate_left
    ·have qn:(n != 0)=true:=by rw [bne_iff_ne];exact hn
     have HR:Hid (exFault (.mk 10 n oo mm ks)=1):=by show _=_;simp [exFault,ownFault,namedK,kidsOk,hn]
     go_enter Tryd.func39,Tryd.ntmps39;go_wp2_with fail;go_ret;exact⟨by rw [HR.out];rfl,((Below.refl _ _).alloc (Nat.le_refl _) _)⟩
    subst hn;cases hIoo:isIdent oo
    ·have HIoo:=Lib.hid hIoo;have HR:Hid (exFault (.mk 10 0 oo mm ks)=5):=by show _=_;simp [exFault,ownFault,namedK,kidsOk,hIoo]
     rw [← strOf_data oo] at hIoo;go_enter Tryd.func39,Tryd.ntmps39;go_wp2_with fail;refine (fm_ident0 _ _ (by rw [strOf_size];exact Boo.out) (HL.out.alloc _)).mono ?_;rintro e w' ⟨rfl,rfl⟩;go_wp2_with fail;go_ret;exact⟨by rw [HR.out];rfl,((Below.refl _ _).alloc (Nat.le_refl _) _)⟩
    have HIoo:=Lib.hid hIoo;rw [← strOf_data oo] at hIoo;go_enter Tryd.func39,Tryd.ntmps39;go_wp2_with fail;refine (fm_ident0 _ _ (by rw [strOf_size];exact Boo.out) (HL.out.alloc _)).mono ?_;rintro e w' ⟨rfl,rfl⟩;cases hImm:isIdent mm
    ·have HImm:=Lib.hid hImm;have HR:Hid (exFault (.mk 10 0 oo mm ks)=5):=by show _=_;simp [exFault,ownFault,namedK,kidsOk,HIoo.out,hImm]
     rw [← strOf_data mm] at hImm;go_wp2_with fail;refine (fm_ident0 _ _ (by rw [strOf_size];exact Bmm.out) (HL.out.alloc _)).mono ?_;rintro e w' ⟨rfl,rfl⟩;go_wp2_with fail;go_ret;exact⟨by rw [HR.out];rfl,((Below.refl _ _).alloc (Nat.le_refl _) _)⟩
    have HImm:=Lib.hid hImm;rw [← strOf_data mm] at hImm;go_wp2_with fail;refine (fm_ident0 _ _ (by rw [strOf_size];exact Bmm.out) (HL.out.alloc _)).mono ?_;rintro e w' ⟨rfl,rfl⟩;have HR:Hid (exFault (.mk 10 0 oo mm ks)=exsFault ks):=by show _=_;simp [exFault,ownFault,namedK,kidsOk,HIoo.out,HImm.out]
    go_wp2_with fail;refine (fmt_exprFaults d (Lib.hid IH.out) _ _ _ _ _ (H1.out _ ((Below.refl _ _).alloc (Nat.le_refl _) _)) BK.out (HL.out.alloc _)).mono ?_;rintro e w2 ⟨rfl,hb2⟩;have HB2:=Lib.hid (((Below.refl _ _).alloc (Nat.le_refl _) _).trans (hb2.mono (by simp)));clear hb2;go_wp2_with fail;go_ret;exact⟨by rw [HR.out];rfl,HB2.out⟩
   have q1:(k == 1)=false:=by rw [beq_eq_false_iff_ne];exact hk1
   have q2:(k == 2)=false:=by rw [beq_eq_false_iff_ne];exact hk2
   have q3:(k == 3)=false:=by rw [beq_eq_false_iff_ne];exact hk3
   have q4:(k == 4)=false:=by rw [beq_eq_false_iff_ne];exact hk4
   have q5:(k == 5)=false:=by rw [beq_eq_false_iff_ne];exact hk5
   have q6:(k == 6)=false:=by rw [beq_eq_false_iff_ne];exact hk6
   have q7:(k == 7)=false:=by rw [beq_eq_false_iff_ne];exact hk7
   have q8:(k == 8)=false:=by rw [beq_eq_false_iff_ne];exact hk8
   have q9:(k == 9)=false:=by rw [beq_eq_false_iff_ne];exact hk9
   have q10:(k == 10)=false:=by rw [beq_eq_false_iff_ne];exact hk10
   have hr:k<1∨10<k:=by omega
   have HR:Hid (exFault (.mk k n oo mm ks)=12):=by show _=_;rcases hr with hr | hr <;> simp [exFault,ownFault,hr]
   clear hr;go_enter Tryd.func39,Tryd.ntmps39;go_wp2_with fail;go_ret;exact⟨by rw [HR.out];rfl,((Below.refl _ _).alloc (Nat.le_refl _) _)⟩
end Go.Proofs.YtmlafcimjhnhhaaDoor
