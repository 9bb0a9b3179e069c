/-
  format's faults of fields, methods and classes, walked (printed by genfault3.py).
-/
import Derived.Test.YtmlafcimjhnhhaaDoorJlFmtFaultS
import Derived.Test.YtmlafcimjhnhhaaDoorJlTrodTree
import Derived.ChangeStays
import Derived.ReadAgain
import Derived.Test.YtmlafcimjhnhhaaDoorJlJpAw
import Derived.Test.YtmlafcimjhnhhaaDoorJlJpAn
set_option linter.unusedSectionVars false
set_option linter.unusedSimpArgs false
set_option linter.unnecessarySimpa false
set_option linter.unusedVariables false
namespace Go.Proofs.YtmlafcimjhnhhaaDoor
section
open Lx Go.RowKit
set_option maxHeartbeats 2000000 in
theorem fmt_typedFault (l:List Fld)(a:Option Addr)(n c:Nat)(w:World)(h:IsList Any w 2 IsFld l (.slice a n c))(hB:∀ x∈l,FldB x)(hL:KwIs w) :
  Calls Tryd.prog 32 #[.slice a n c] w fun r w'=>r=.returned (.int .i64 (fldsFault l:Int))∧Below w.heap.size w w':=by
 obtain⟨rfl,hm,hat⟩:=h.fldAt;unfold maxLen at hm;have HAT:=Lib.hid hat;have HBX:=Lib.hid hB;have HL:=Lib.hid hL;clear h hat hB hL;go_enter Tryd.func32,Tryd.ntmps32;go_wp2_with fail
 go_loopw [7] (fun i wr=>LimRelF fldFault l w i wr) (fun i _=>l.length-(intOf i).toNat)
 case atStart=>exact⟨0,Nat.zero_le _,rfl,fun k hk=>by omega,.refl _ _⟩
 case round =>
  obtain⟨j,hj,rfl,h0,hb⟩:=hrel;have H0:=Lib.hid h0;clear h0
  by_cases hlt:j<l.length
  ·obtain⟨g,off,rfl,hgl,x0,x1⟩:=HAT.out j hlt;rw [← hb.cell (p:=⟨g,_,none⟩) hgl] at x0 x1;have hgw:g<wr.heap.size:=Nat.lt_of_lt_of_le hgl hb.size;obtain⟨f,hf⟩:∃ f,l[j]=f:=⟨_,rfl⟩;have hfb:=HBX.out _ (List.getElem_mem hlt);rw [hf] at x0 x1 hfb;have HF:=Lib.hid hf;have HFB:=Lib.hid hfb;have HB:=Lib.hid hb;have hj1:(j:Int)<(l.length:Int):=by omega
   have hj0:(0:Int)≤(j:Int):=by omega
   clear hb hf hfb;have HBA:=Lib.hid (HB.out.trans ((((Below.refl _ _).alloc (Nat.le_refl _) (.cells #[.string (strOf f.name),.string (strOf f.typ)] 72)):Below wr.heap.size wr _).mono HB.out.size));cases hI:isIdent f.name
   ·have HZ:Hid (fldFault l[j]=5):=by show _=_;rw [HF.out];unfold fldFault;rw [if_pos hI]
    rw [← strOf_data f.name] at hI;go_wp2_with fail;refine (fm_ident0 _ _ (by rw [strOf_size];exact HFB.out.1) ((HL.out.below HB.out (Nat.le_refl _)).alloc _)).mono ?_;rintro e w' ⟨rfl,rfl⟩;go_wp2_with fail;go_ret;refine⟨?_,HBA.out⟩
    show _=Ending.returned (.int .i64 ((firstLim fldFault l:Nat):Int))
    rw [firstLim_take _ _ j hlt H0.out,HZ.out];rfl
   have HI:=Lib.hid hI;rw [← strOf_data f.name] at hI;go_wp2_with fail;refine (fm_ident0 _ _ (by rw [strOf_size];exact HFB.out.1) ((HL.out.below HB.out (Nat.le_refl _)).alloc _)).mono ?_;rintro e w' ⟨rfl,rfl⟩;cases hT:isType f.typ
   ·have HZ:Hid (fldFault l[j]=8):=by show _=_;rw [HF.out];unfold fldFault;rw [if_neg (by rw [HI.out];simp),if_pos hT]
    go_wp2_with fail;refine (fmt_isType _ _ HFB.out.2 ((HL.out.below HB.out (Nat.le_refl _)).alloc _)).mono ?_;rintro e w' ⟨rfl,rfl⟩;go_wp2_with fail;go_ret;refine⟨?_,HBA.out⟩
    show _=Ending.returned (.int .i64 ((firstLim fldFault l:Nat):Int))
    rw [firstLim_take _ _ j hlt H0.out,HZ.out];rfl
   have HZ:Hid (fldFault l[j]=0):=by show _=_;rw [HF.out];unfold fldFault;rw [if_neg (by rw [HI.out];simp),if_neg (by rw [hT];simp)]
   go_wp2_with fail;refine (fmt_isType _ _ HFB.out.2 ((HL.out.below HB.out (Nat.le_refl _)).alloc _)).mono ?_;rintro e w' ⟨rfl,rfl⟩;go_wp2_with fail
   go_roundw
   case rel =>
    refine⟨j+1,by omega,by go_num,fun k hk=>?_,HBA.out⟩
    by_cases hkj:k<j
    ·exact H0.out k hkj
    ·obtain rfl:k=j:=by omega
     exact HZ.out
   case measure=>simp [intOf];omega
  ·have HB:=Lib.hid hb;clear hb;go_wp2_with fail;go_ret;refine⟨?_,HB.out⟩
   show _=Ending.returned (.int .i64 ((firstLim fldFault l:Nat):Int))
   rw [firstLim_zero _ _ fun i hi=>H0.out i (by omega)];rfl
set_option maxHeartbeats 2000000 in
theorem fmt_methodFault (d:Nat)(e:Me)(nm:ByteArray)(sb:Bool)(a1:Option Addr)(n1 c1:Nat)(rs:ByteArray)(a2:Option Addr)(n2 c2:Nat)(w:World)(h:IsMe Any w d e [.string nm,.bool sb,.slice a1 n1 c1,.string rs,.slice a2 n2 c2])(hB:MethB d e)(hL:KwIs w) :
  Calls Tryd.prog 26 #[.agg #[.string nm,.bool sb,.slice a1 n1 c1,.string rs,.slice a2 n2 c2]] w fun r w'=>r=.returned (.int .i64 (meFault e:Int))∧Below w.heap.size w w':=by
 obtain⟨nn,rr,ps,bd,rfl,rfl,rfl,hl1,hl2⟩:=h.flds;obtain rfl:=hl1.len.1;obtain rfl:=hl2.len.1;obtain⟨hnn,hrr,hps,hbd⟩:=hB;have H1:Hid (∀ x,Below w.heap.size w x→IsList Any x 2 IsFld ps (.slice a1 ps.length c1)):=fun x hx=>hl1.kept (kept_any hx) (by omega) fun _ _ _ h=>h
 have H2:Hid (∀ x,Below w.heap.size w x→IsList Any x 6 (IsSt Any x d) bd (.slice a2 bd.length c2)):=fun x hx=>hl2.kept (kept_any hx) (by omega) fun _ _ _=>IsSt.kept (kept_any hx) _ _ _
 have Bnn:Hid (nn.length≤maxLen):=hnn;have Brr:Hid (rr.length≤maxLen):=hrr;have BP:Hid (∀ x∈ps,FldB x):=hps;have BB:Hid (∀ x∈bd,StB d x):=hbd;have HL:=Lib.hid hL;clear h hl1 hl2 hnn hrr hps hbd hL;cases hI:isIdent nn
 ·have HR:Hid (meFault ⟨nn,sb,ps,rr,bd⟩=5):=by show _=_;unfold meFault;rw [if_pos hI]
  rw [← strOf_data nn] at hI;go_enter Tryd.func26,Tryd.ntmps26;go_wp2_with fail;refine (fm_ident0 _ _ (by rw [strOf_size];exact Bnn.out) (HL.out.alloc _)).mono ?_;rintro e w' ⟨rfl,rfl⟩;go_wp2_with fail;go_ret;exact⟨by rw [HR.out];rfl,((Below.refl _ _).alloc (Nat.le_refl _) _)⟩
 have HI:Hid (¬ (isIdent nn=false)):=by show ¬ _;rw [hI];simp
 rw [← strOf_data nn] at hI;go_enter Tryd.func26,Tryd.ntmps26;go_wp2_with fail;refine (fm_ident0 _ _ (by rw [strOf_size];exact Bnn.out) (HL.out.alloc _)).mono ?_;rintro e w' ⟨rfl,rfl⟩;go_wp2_with fail;refine (fmt_typedFault _ _ _ _ _ (H1.out _ ((Below.refl _ _).alloc (Nat.le_refl _) _)) BP.out (HL.out.alloc _)).mono ?_;rintro e w2 ⟨rfl,hb2⟩;have HB2:=Lib.hid (((Below.refl _ _).alloc (Nat.le_refl _) _).trans (hb2.mono (by simp)));have hs2:w.heap.size<w2.heap.size:=by have:=hb2.size;simp at this;omega
 have u3:w2.cell? ⟨w.heap.size,3,none⟩=some (.string (strOf rr)):=(hb2.cell (p:=⟨w.heap.size,3,none⟩) (by simp)).trans (by simp [go_sem]);have u4:w2.cell? ⟨w.heap.size,4,none⟩=some (.slice a2 bd.length c2):=(hb2.cell (p:=⟨w.heap.size,4,none⟩) (by simp)).trans (by simp [go_sem]);clear hb2
 by_cases hz:fldsFault ps=0
 rotate_left
 ·have hz1:(((fldsFault ps:Nat):Int) != 0)=true:=by rw [bne,beq_eq_false_iff_ne.2 (by omega)];rfl
  have HR:Hid (meFault ⟨nn,sb,ps,rr,bd⟩=fldsFault ps):=by show _=_;unfold meFault;rw [if_neg HI.out,if_pos hz]
  clear hz;go_wp2_with fail;go_ret;exact⟨by rw [HR.out];rfl,HB2.out⟩
 have hz1:(((fldsFault ps:Nat):Int) != 0)=false:=by rw [hz];rfl
 have HZ:Hid (¬ (fldsFault ps≠0)):=by show ¬ _;omega
 clear hz;have HL2:Hid (KwIs w2):=HL.out.below HB2.out (Nat.le_refl _)
 by_cases hr:rr=[]
 ·have er:=isEmpty_zero (strOf rr) (by rw [strOf_size,hr];rfl);have HR:Hid (meFault ⟨nn,sb,ps,rr,bd⟩=stsFault bd):=by show _=_;unfold meFault;rw [if_neg HI.out,if_neg HZ.out,if_neg (fun h=>h.1 hr)]
  clear hr;go_wp2_with fail;refine (fmt_stmtFaults d (Lib.hid (fmt_stmtFault d)) _ _ _ _ _ (H2.out _ HB2.out) BB.out HL2.out).mono ?_;rintro e w3 ⟨rfl,hb3⟩;have HB3:=Lib.hid (HB2.out.trans (hb3.mono HB2.out.size));clear hb3;go_wp2_with fail;go_ret;exact⟨by rw [HR.out];rfl,HB3.out⟩
 have er:=isEmpty_pos (strOf rr) (by rw [strOf_size];exact List.length_pos_iff.2 hr);cases hT:isType rr
 ·have HR:Hid (meFault ⟨nn,sb,ps,rr,bd⟩=8):=by show _=_;unfold meFault;rw [if_neg HI.out,if_neg HZ.out,if_pos ⟨hr,hT⟩]
  clear hr;go_wp2_with fail;refine (fmt_isType _ _ Brr.out HL2.out).mono ?_;rintro e w' ⟨rfl,rfl⟩;go_wp2_with fail;go_ret;exact⟨by rw [HR.out];rfl,HB2.out⟩
 have HR:Hid (meFault ⟨nn,sb,ps,rr,bd⟩=stsFault bd):=by show _=_;unfold meFault;rw [if_neg HI.out,if_neg HZ.out,if_neg (fun h=>by rw [hT] at h;exact absurd h.2 (by simp))]
 clear hr;go_wp2_with fail;refine (fmt_isType _ _ Brr.out HL2.out).mono ?_;rintro e w' ⟨rfl,rfl⟩;go_wp2_with fail;refine (fmt_stmtFaults d (Lib.hid (fmt_stmtFault d)) _ _ _ _ _ (H2.out _ HB2.out) BB.out HL2.out).mono ?_;rintro e w3 ⟨rfl,hb3⟩;have HB3:=Lib.hid (HB2.out.trans (hb3.mono HB2.out.size));clear hb3;go_wp2_with fail;go_ret;exact⟨by rw [HR.out];rfl,HB3.out⟩
set_option maxHeartbeats 4000000 in
theorem fmt_classFault (d:Nat)(e:Cl)(nm sp:ByteArray)(a1:Option Addr)(n1 c1:Nat)(a2:Option Addr)(n2 c2:Nat)(w:World)(h:IsCl Any w d e [.string nm,.string sp,.slice a1 n1 c1,.slice a2 n2 c2])(hB:ClB d e)(hL:KwIs w) :
  Calls Tryd.prog 15 #[.agg #[.string nm,.string sp,.slice a1 n1 c1,.slice a2 n2 c2]] w fun r w'=>r=.returned (.int .i64 (clFault e:Int))∧Below w.heap.size w w':=by
 obtain⟨nn,ss,fs,ms,rfl,rfl,rfl,hl1,hl2⟩:=h.flds;obtain rfl:=hl1.len.1;obtain⟨rfl,hml,hat⟩:=hl2.meAt;unfold maxLen at hml;obtain⟨hnn,hss,hfs,hms⟩:=hB;have HAT:=Lib.hid hat;have H1:Hid (∀ x,Below w.heap.size w x→IsList Any x 2 IsFld fs (.slice a1 fs.length c1)):=fun x hx=>hl1.kept (kept_any hx) (by omega) fun _ _ _ h=>h
 have Bnn:Hid (nn.length≤maxLen):=hnn;have Bss:Hid (ss.length≤maxLen):=hss;have BP:Hid (∀ x∈fs,FldB x):=hfs;have BM:Hid (∀ x∈ms,MethB d x):=hms;have HL:=Lib.hid hL;clear h hl1 hl2 hnn hss hfs hms hL hat;cases hI:isIdent nn
 ·have HR:Hid (clFault ⟨nn,ss,fs,ms⟩=5):=by show _=_;unfold clFault;rw [if_pos (.inl hI)]
  rw [← strOf_data nn] at hI;go_enter Tryd.func15,Tryd.ntmps15;go_wp2_with fail;refine (fm_ident0 _ _ (by rw [strOf_size];exact Bnn.out) (HL.out.alloc _)).mono ?_;rintro e w' ⟨rfl,rfl⟩;go_wp2_with fail;go_ret;exact⟨by rw [HR.out];rfl,((Below.refl _ _).alloc (Nat.le_refl _) _)⟩
 have HN:Hid (¬ (isIdent nn=false)):=by show ¬ _;rw [hI];simp
 rw [← strOf_data nn] at hI
 by_cases hs:ss=[]
 ·have es:=isEmpty_zero (strOf ss) (by rw [strOf_size,hs];rfl);have HI:Hid (¬ (isIdent nn=false∨(ss≠[]∧isIdent ss=false))):=by show ¬ _;rintro (h | h);exact HN.out h;exact h.1 hs
  clear hs;go_enter Tryd.func15,Tryd.ntmps15;go_wp2_with fail;refine (fm_ident0 _ _ (by rw [strOf_size];exact Bnn.out) (HL.out.alloc _)).mono ?_;rintro e w' ⟨rfl,rfl⟩;go_wp2_with fail;refine (fmt_typedFault _ _ _ _ _ (H1.out _ ((Below.refl _ _).alloc (Nat.le_refl _) _)) BP.out (HL.out.alloc _)).mono ?_;rintro e w2 ⟨rfl,hb2⟩;have HB2:=Lib.hid (((Below.refl _ _).alloc (Nat.le_refl _) _).trans (hb2.mono (by simp)));have hs2:w.heap.size<w2.heap.size:=by have:=hb2.size;simp at this;omega
  have u3:w2.cell? ⟨w.heap.size,3,none⟩=some (.slice a2 ms.length c2):=(hb2.cell (p:=⟨w.heap.size,3,none⟩) (by simp)).trans (by simp [go_sem]);clear hb2
  by_cases hz:fldsFault fs=0
  rotate_left
  ·have hz1:(((fldsFault fs:Nat):Int) != 0)=true:=by rw [bne,beq_eq_false_iff_ne.2 (by omega)];rfl
   have HR:Hid (clFault ⟨nn,ss,fs,ms⟩=fldsFault fs):=by show _=_;unfold clFault;rw [if_neg HI.out,if_pos hz]
   clear hz;go_wp2_with fail;go_ret;exact⟨by rw [HR.out];rfl,HB2.out⟩
  have hz1:(((fldsFault fs:Nat):Int) != 0)=false:=by rw [hz];rfl
  have HR:Hid (clFault ⟨nn,ss,fs,ms⟩=firstLim meFault ms):=by show _=_;unfold clFault;rw [if_neg HI.out,if_neg (fun h=>h hz)]
  clear hz;go_wp2_with fail;clear u3
  go_loopw [31] (fun i wr=>LimRelF meFault ms w i wr) (fun i _=>ms.length-(intOf i).toNat)
  case atStart=>exact⟨0,Nat.zero_le _,rfl,fun k hk=>by omega,HB2.out⟩
  case round =>
   obtain⟨j,hj,rfl,h0,hb⟩:=hrel;have H0:=Lib.hid h0;clear h0
   by_cases hlt:j<ms.length
   ·obtain⟨g,off,nm1,sb1,a3,n3,c3,rs1,a4,n4,c4,rfl,hgl,⟨x0,x1,x2,x3,x4⟩,hx⟩:=HAT.out j hlt;rw [← hb.cell (p:=⟨g,_,none⟩) hgl] at x0 x1 x2 x3 x4;have hgw:g<wr.heap.size:=Nat.lt_of_lt_of_le hgl hb.size;have hx2:=IsMe.kept (kept_any hb) hx;have HX:=Lib.hid (IsMe.kept (kept_alloc wr (.cells #[.string nm1,.bool sb1,.slice a3 n3 c3,.string rs1,.slice a4 n4 c4] 41)) hx2);have HB:=Lib.hid hb;have hj1:(j:Int)<(ms.length:Int):=by omega
    have hj0:(0:Int)≤(j:Int):=by omega
    clear hb hx hx2;go_wp2_with fail;refine (fmt_methodFault d _ _ _ _ _ _ _ _ _ _ _ HX.out (BM.out _ (List.getElem_mem hlt)) ((HL.out.below HB.out (Nat.le_refl _)).alloc _)).mono ?_;rintro e w3 ⟨rfl,hb3⟩;have HB3:=Lib.hid (HB.out.trans ((((Below.refl _ _).alloc (Nat.le_refl _) _).trans (hb3.mono (by simp))).mono HB.out.size));clear hb3 x0 x1 x2 x3 x4
    by_cases hy:meFault ms[j]=0
    ·have HZ:=Lib.hid hy;have hy1:(((meFault ms[j]:Nat):Int) != 0)=false:=by rw [hy];rfl
     clear hy;go_wp2_with fail
     go_roundw
     case rel =>
      refine⟨j+1,by omega,by go_num,fun k hk=>?_,HB3.out⟩
      by_cases hkj:k<j
      ·exact H0.out k hkj
      ·obtain rfl:k=j:=by omega
       exact HZ.out
     case measure=>simp [intOf];omega
    ·have hy1:(((meFault ms[j]:Nat):Int) != 0)=true:=by rw [bne,beq_eq_false_iff_ne.2 (by omega)];rfl
     have HZ:=Lib.hid hy;clear hy;go_wp2_with fail;go_ret;refine⟨?_,HB3.out⟩;rw [HR.out,firstLim_take _ _ j hlt H0.out,if_pos HZ.out];rfl
   ·have HB:=Lib.hid hb;clear hb;go_wp2_with fail;go_ret;refine⟨?_,HB.out⟩;rw [HR.out,firstLim_zero _ _ fun i hi=>H0.out i (by omega)];rfl
 have es:=isEmpty_pos (strOf ss) (by rw [strOf_size];exact List.length_pos_iff.2 hs);cases hJ:isIdent ss
 ·have HR:Hid (clFault ⟨nn,ss,fs,ms⟩=5):=by show _=_;unfold clFault;rw [if_pos (.inr ⟨hs,hJ⟩)]
  rw [← strOf_data ss] at hJ;clear hs;go_enter Tryd.func15,Tryd.ntmps15;go_wp2_with fail;refine (fm_ident0 _ _ (by rw [strOf_size];exact Bnn.out) (HL.out.alloc _)).mono ?_;rintro e w' ⟨rfl,rfl⟩;go_wp2_with fail;refine (fm_ident0 _ _ (by rw [strOf_size];exact Bss.out) (HL.out.alloc _)).mono ?_;rintro e w' ⟨rfl,rfl⟩;go_wp2_with fail;go_ret;exact⟨by rw [HR.out];rfl,((Below.refl _ _).alloc (Nat.le_refl _) _)⟩
 have HI:Hid (¬ (isIdent nn=false∨(ss≠[]∧isIdent ss=false))):=by show ¬ _;rintro (h | h);exact HN.out h;rw [hJ] at h;exact absurd h.2 (by simp)
 rw [← strOf_data ss] at hJ;clear hs;go_enter Tryd.func15,Tryd.ntmps15;go_wp2_with fail;refine (fm_ident0 _ _ (by rw [strOf_size];exact Bnn.out) (HL.out.alloc _)).mono ?_;rintro e w' ⟨rfl,rfl⟩;go_wp2_with fail;refine (fm_ident0 _ _ (by rw [strOf_size];exact Bss.out) (HL.out.alloc _)).mono ?_;rintro e w' ⟨rfl,rfl⟩;go_wp2_with fail;refine (fmt_typedFault _ _ _ _ _ (H1.out _ ((Below.refl _ _).alloc (Nat.le_refl _) _)) BP.out (HL.out.alloc _)).mono ?_;rintro e w2 ⟨rfl,hb2⟩;have HB2:=Lib.hid (((Below.refl _ _).alloc (Nat.le_refl _) _).trans (hb2.mono (by simp)));have hs2:w.heap.size<w2.heap.size:=by have:=hb2.size;simp at this;omega
 have u3:w2.cell? ⟨w.heap.size,3,none⟩=some (.slice a2 ms.length c2):=(hb2.cell (p:=⟨w.heap.size,3,none⟩) (by simp)).trans (by simp [go_sem]);clear hb2
 by_cases hz:fldsFault fs=0
 rotate_left
 ·have hz1:(((fldsFault fs:Nat):Int) != 0)=true:=by rw [bne,beq_eq_false_iff_ne.2 (by omega)];rfl
  have HR:Hid (clFault ⟨nn,ss,fs,ms⟩=fldsFault fs):=by show _=_;unfold clFault;rw [if_neg HI.out,if_pos hz]
  clear hz;go_wp2_with fail;go_ret;exact⟨by rw [HR.out];rfl,HB2.out⟩
 have hz1:(((fldsFault fs:Nat):Int) != 0)=false:=by rw [hz];rfl
 have HR:Hid (clFault ⟨nn,ss,fs,ms⟩=firstLim meFault ms):=by show _=_;unfold clFault;rw [if_neg HI.out,if_neg (fun h=>h hz)]
 clear hz;go_wp2_with fail;clear u3
 go_loopw [31] (fun i wr=>LimRelF meFault ms w i wr) (fun i _=>ms.length-(intOf i).toNat)
 case atStart=>exact⟨0,Nat.zero_le _,rfl,fun k hk=>by omega,HB2.out⟩
 case round =>
  obtain⟨j,hj,rfl,h0,hb⟩:=hrel;have H0:=Lib.hid h0;clear h0
  by_cases hlt:j<ms.length
  ·obtain⟨g,off,nm1,sb1,a3,n3,c3,rs1,a4,n4,c4,rfl,hgl,⟨x0,x1,x2,x3,x4⟩,hx⟩:=HAT.out j hlt;rw [← hb.cell (p:=⟨g,_,none⟩) hgl] at x0 x1 x2 x3 x4;have hgw:g<wr.heap.size:=Nat.lt_of_lt_of_le hgl hb.size;have hx2:=IsMe.kept (kept_any hb) hx;have HX:=Lib.hid (IsMe.kept (kept_alloc wr (.cells #[.string nm1,.bool sb1,.slice a3 n3 c3,.string rs1,.slice a4 n4 c4] 41)) hx2);have HB:=Lib.hid hb;have hj1:(j:Int)<(ms.length:Int):=by omega
   have hj0:(0:Int)≤(j:Int):=by omega
   clear hb hx hx2;go_wp2_with fail;refine (fmt_methodFault d _ _ _ _ _ _ _ _ _ _ _ HX.out (BM.out _ (List.getElem_mem hlt)) ((HL.out.below HB.out (Nat.le_refl _)).alloc _)).mono ?_;rintro e w3 ⟨rfl,hb3⟩;have HB3:=Lib.hid (HB.out.trans ((((Below.refl _ _).alloc (Nat.le_refl _) _).trans (hb3.mono (by simp))).mono HB.out.size));clear hb3 x0 x1 x2 x3 x4
   by_cases hy:meFault ms[j]=0
   ·have HZ:=Lib.hid hy;have hy1:(((meFault ms[j]:Nat):Int) != 0)=false:=by rw [hy];rfl
    clear hy;go_wp2_with fail
    go_roundw
    case rel =>
     refine⟨j+1,by omega,by go_num,fun k hk=>?_,HB3.out⟩
     by_cases hkj:k<j
     ·exact H0.out k hkj
     ·obtain rfl:k=j:=by omega
      exact HZ.out
    case measure=>simp [intOf];omega
   ·have hy1:(((meFault ms[j]:Nat):Int) != 0)=true:=by rw [bne,beq_eq_false_iff_ne.2 (by omega)];rfl
    have HZ:=Lib.hid hy;clear hy;go_wp2_with fail;go_ret;refine⟨?_,HB3.out⟩;rw [HR.out,firstLim_take _ _ j hlt H0.out,if_pos HZ.out];rfl
  ·have HB:=Lib.hid hb;clear hb;go_wp2_with fail;go_ret;refine⟨?_,HB.out⟩;rw [HR.out,firstLim_zero _ _ fun i hi=>H0.out i (by omega)];rfl
end
section
open Lx Go.RowKit
theorem kids_all:Kids Tryd.prog (·<Tryd.prog.types.size):=kids_rows (by kernel_rfl) (by kernel_rfl)
theorem slices_all:∀ t e,t<Tryd.prog.types.size→Tryd.prog.underlying t=some (.slice e)→0<Tryd.prog.cellsOf e:=slices_full_of _ (by kernel_rfl)
section
variable {H:Type} {enc:TypeId×Value→H} {W W':World}
theorem stays_one (hb:Below W.heap.size W W'){t:Nat}(hT:t<Tryd.prog.types.size){v:Value}{d:DataW H}{ps:List MemPlace}(h:DataW.Trod enc Tryd.prog W 0 (fun _=>true) true t v d ps):DataW.Trod enc Tryd.prog W' 0 (fun b=>decide (b<W.heap.size)) true t v d ps:=by
 obtain⟨n,h⟩:=h;have hg:=DataW.trod_good kids_all (fun h=>by cases h) n t _ _ hT h;have hlt:∀ p∈ps,p.block<W.heap.size:=by
  intro p hp;have h1:=hg p hp;cases p with
  | cell b off=>obtain⟨v,h2,_⟩:=h1;exact World.block_lt_of_cell? W _ h2
  | map b=>obtain⟨es,c,h2⟩:=h1;exact lt_of_heap h2
 refine⟨n,DataW.trod_stays kids_all (fun h1 h2=>slices_all _ _ h1 h2) (fun h=>by cases h) hT h (fun p hp=>?_) (fun p hp=>by simpa using hlt p hp)⟩;have h1:=hlt p hp;cases p with
 | cell b off=>exact hb.cell (p:=⟨b,off,none⟩) h1
 | map b=>exact hb.block b h1
theorem stays_all (hb:Below W.heap.size W W'):∀ {ts:List TypeId} {vs:List Value} {ds:List (DataW H)} {ps:List MemPlace},(∀ t∈ts,t<Tryd.prog.types.size)→DataW.TrodAll enc Tryd.prog W 0 (fun _=>true) true ts vs ds ps→DataW.TrodAll enc Tryd.prog W' 0 (fun b=>decide (b<W.heap.size)) true ts vs ds ps
 | [],[],[],_,_,h=>h
 | _::_,_::_,_::_,_,hT,⟨p,q,h1,h2,e⟩=>⟨p,q,stays_one hb (hT _ (List.mem_cons.2 (Or.inl rfl))) h1,stays_all hb (fun t ht=>hT t (List.mem_cons.2 (Or.inr ht))) h2,e⟩
theorem IsList.isSlice {α:Type}{A:Nat→Prop}{w:World}{k:Nat}{P:α→List Value→Prop}{l:List α}{v:Value}(h:IsList A w k P l v):∃ a n c,v=.slice a n c:=by
 obtain⟨_,⟨_,a,c,rfl⟩ | ⟨g,off,cap,rfl,_⟩⟩:=h
 ·exact⟨_,_,_,rfl⟩
 ·exact⟨_,_,_,rfl⟩
theorem agg_of_struct {P:Program}{w:World}{r:Reach}{b:Nat}{t:TypeId}{v:Value}{fs:Array Field}(ht:P.underlying t=some (.struct fs))(hval:Value.okWide P w r b t v):∃ cs,v=.agg cs:=by
 unfold Value.okWide at hval;rw [ht] at hval;obtain⟨cs,h,_⟩:=hval;exact⟨cs,h⟩
/-- A source that came in. -/
theorem struct_so:∃ fs,Tryd.prog.underlying 24=some (.struct fs):=⟨_,Tryd.underlying24⟩
set_option maxRecDepth 100000 in
theorem open_so {r:Reach}{b0:Nat}{v:Value}{d:DataW H}{ps:List MemPlace}(hval:Value.okWide Tryd.prog W r b0 24 v)(h:DataW.Trod enc Tryd.prog W 0 (fun _=>true) true 24 v d ps) :
  ∃ (a:Option Addr) (n c:Nat) (l:List Cl) (k:Nat),v=.agg #[.slice a n c]∧IsList Any W 4 (IsCl Any W k) l (.slice a n c)∧∀ x∈l,ClB k x:=by
 obtain⟨fs,hfs⟩:=struct_so;obtain⟨cs,rfl⟩:=agg_of_struct hfs hval;obtain⟨k,h⟩:=h;obtain⟨x,h1,l,h2,h3⟩:=trod_so h;obtain⟨a,n,c,rfl⟩:=h2.isSlice;have h1:cs.toList=[.slice a n c]:=h1;refine⟨a,n,c,l,k,?_,h2,h3⟩;rw [← Array.toArray_toList (xs:=cs),h1]
end
end
set_option linter.unusedSimpArgs false
set_option linter.unusedVariables false
section
open Lx
namespace Lx
def WfT (t:Bytes):Prop:=t=[105,110,116]∨isIdent t=true
inductive WfE:Ex→Prop
 | int (n:Int) (h1:-9223372036854775808<n) (h2:n<9223372036854775808):WfE (.mk 1 n [] [] [])
 | null:WfE (.mk 2 0 [] [] [])
 | var (x:Bytes) (hx:isIdent x=true):WfE (.mk 3 0 [] x [])
 | this:WfE (.mk 4 0 [] [] [])
 | input:WfE (.mk 5 0 [] [] [])
 | bin (op:Int) (h:1≤op∧op≤5) {a b:Ex} (ha:WfE a) (hb:WfE b):WfE (.mk 6 op [] [] [a,b])
 | new (x:Bytes) (hx:isIdent x=true):WfE (.mk 7 0 [] x [])
 | field (m:Bytes) (hm:isIdent m=true) {k:Ex} (hk:WfE k):WfE (.mk 8 0 [] m [k])
 | call (m:Bytes) (hm:isIdent m=true) {k:Ex} {es:List Ex} (hk:WfE k) (he:∀ e∈es,WfE e):WfE (.mk 9 0 [] m (k::es))
 | static (o m:Bytes) (ho:isIdent o=true) (hm:isIdent m=true) {es:List Ex} (he:∀ e∈es,WfE e):WfE (.mk 10 0 o m es)
inductive WfS:St→Prop
 | var0 (x t:Bytes) (hx:isIdent x=true) (ht:WfT t):WfS (.mk 1 x t [] [] [])
 | var1 (x t:Bytes) (hx:isIdent x=true) (ht:WfT t) {e:Ex} (he:WfE e):WfS (.mk 1 x t [e] [] [])
 | assign (x:Bytes) (hx:isIdent x=true) {e:Ex} (he:WfE e):WfS (.mk 2 x [] [e] [] [])
 | store (m:Bytes) (hm:isIdent m=true) {k e:Ex} (hk:WfE k) (he:WfE e):WfS (.mk 3 m [] [k,e] [] [])
 | if {e:Ex} (he:WfE e) {b c:List St} (hb:∀ s∈b,WfS s) (hc:∀ s∈c,WfS s):WfS (.mk 4 [] [] [e] b c)
 | while {e:Ex} (he:WfE e) {b:List St} (hb:∀ s∈b,WfS s):WfS (.mk 5 [] [] [e] b [])
 | try (x t:Bytes) (hx:isIdent x=true) (ht:WfT t) {b c:List St} (hb:∀ s∈b,WfS s) (hc:∀ s∈c,WfS s):WfS (.mk 6 x t [] b c)
 | throw {e:Ex} (he:WfE e):WfS (.mk 7 [] [] [e] [] [])
 | return0:WfS (.mk 8 [] [] [] [] [])
 | return1 {e:Ex} (he:WfE e):WfS (.mk 8 [] [] [e] [] [])
 | call {e:Ex} (he:WfE e) (hk:e.kind=9∨e.kind=10):WfS (.mk 9 [] [] [e] [] [])
def WfF (f:Fld):Prop:=isIdent f.name=true∧WfT f.typ
structure WfM (m:Me):Prop where
 name:isIdent m.name=true
 params:∀ f∈m.params,WfF f
 result:m.result=[]∨WfT m.result
 body:∀ s∈m.body,WfS s
structure WfC (c:Cl):Prop where
 name:isIdent c.name=true
 super:c.super=[]∨isIdent c.super=true
 fields:∀ f∈c.fields,WfF f
 methods:∀ m∈c.methods,WfM m
/-- Tokens as the lexer gives them: identifiers, numbers. -/
def TId (ts:List Tok):Prop:=∀ i,((tk ts i).kind=1→isIdent (tk ts i).text=true)∧((tk ts i).kind=3→(tk ts i).n<9223372036854775808)
theorem spanOf_take (p:UInt8→Bool):∀ l:Bytes,(l.take (spanOf p l)).all p=true
 | []=>rfl
 | c::t=>by
   unfold spanOf;split
   ·rename_i h;simp [h,spanOf_take p t]
   ·simp
section
variable {ts:List Tok} (hI:TId ts)
include hI
def Wfd (E:Nat→PR Ex):Prop:=∀ i e j,E i=.ok (e,j)→WfE e
/-- What is known of a post by its shape. -/
def WfO (x:Ex×Nat):Prop:=WfE x.1∧(x.2=1→isIdent x.1.name=true)∧(x.2=2→∃ m k,x.1=.mk 8 0 [] m [k]∧isIdent m=true∧WfE k)∧(x.2=3→x.1.kind=9∨x.1.kind=10)
omit hI in
theorem WfO.of0 {e:Ex}(h:WfE e):WfO (e,0):=⟨h,fun h=>(by cases h),fun h=>(by cases h),fun h=>(by cases h)⟩
section
variable {E:Nat→PR Ex} (hE:Wfd E)
include hE
end
end
end Lx
end
end Go.Proofs.YtmlafcimjhnhhaaDoor
