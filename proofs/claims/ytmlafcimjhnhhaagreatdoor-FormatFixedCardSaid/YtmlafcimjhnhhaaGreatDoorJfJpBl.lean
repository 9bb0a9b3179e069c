/-
  format's faults of fields, methods and classes, walked (printed by genfault3.py).
-/
import Derived.Test.YtmlafcimjhnhhaaGreatDoorJfFmtFaultS
import Derived.Test.YtmlafcimjhnhhaaGreatDoorJfJpBe
import Derived.Test.YtmlafcimjhnhhaaGreatDoorJfJpAn
set_option linter.unusedSectionVars false
set_option linter.unusedSimpArgs false
set_option linter.unnecessarySimpa false
set_option linter.unusedVariables false
namespace Go.Proofs.YtmlafcimjhnhhaaGreatDoor
section
open Lx Go.RowKit
set_option maxHeartbeats 2000000 in
theorem fmt_typedFault (l:List Fld)(a:Option Addr)(n c:Nat)(w:World)(h:IsList Any w 2 IsFld l (.slice a n c))(hB:∀ x∈l,FldB x)(hL:KwIs w) :
  Calls Tryz.prog 56 #[.slice a n c] w fun r w'=>r=.returned (.int .i64 (fldsFault l:Int))∧Below w.heap.size w w':=by
 obtain⟨rfl,hm,hat⟩:=h.fldAt;unfold maxLen at hm;have HAT:=Lib.hid hat;have HBX:=Lib.hid hB;have HL:=Lib.hid hL;clear h hat hB hL;go_enter Tryz.func56,Tryz.ntmps56;go_wp2_with fail
 go_loopw [7] (fun i wr=>LimRelF fldFault l w i wr) (fun i _=>l.length-(intOf i).toNat)
 case atStart=>exact⟨0,Nat.zero_le _,rfl,fun k hk=>by omega,.refl _ _⟩
 case round =>
  obtain⟨j,hj,rfl,h0,hb⟩:=hrel;have H0:=Lib.hid h0;clear h0
  by_cases hlt:j<l.length
  ·obtain⟨g,off,rfl,hgl,x0,x1⟩:=HAT.out j hlt;rw [← hb.cell (p:=⟨g,_,none⟩) hgl] at x0 x1;have hgw:g<wr.heap.size:=Nat.lt_of_lt_of_le hgl hb.size;obtain⟨f,hf⟩:∃ f,l[j]=f:=⟨_,rfl⟩;have hfb:=HBX.out _ (List.getElem_mem hlt);rw [hf] at x0 x1 hfb;have HF:=Lib.hid hf;have HFB:=Lib.hid hfb;have HB:=Lib.hid hb;have hj1:(j:Int)<(l.length:Int):=by omega
   have hj0:(0:Int)≤(j:Int):=by omega
   clear hb hf hfb;have HBA:=Lib.hid (HB.out.trans ((((Below.refl _ _).alloc (Nat.le_refl _) (.cells #[.string (strOf f.name),.string (strOf f.typ)] 98)):Below wr.heap.size wr _).mono HB.out.size));cases hI:isIdent f.name
   ·have HZ:Hid (fldFault l[j]=5):=by show _=_;rw [HF.out];unfold fldFault;rw [if_pos hI]
    rw [← strOf_data f.name] at hI;go_wp2_with fail;refine (fm_ident0 _ _ (by rw [strOf_size];exact HFB.out.1) ((HL.out.below HB.out (Nat.le_refl _)).alloc _)).mono ?_;rintro e w' ⟨rfl,rfl⟩;go_wp2_with fail;go_ret;refine⟨?_,HBA.out⟩
    show _=Ending.returned (.int .i64 ((firstLim fldFault l:Nat):Int))
    rw [firstLim_take _ _ j hlt H0.out,HZ.out];rfl
   have HI:=Lib.hid hI;rw [← strOf_data f.name] at hI;go_wp2_with fail;refine (fm_ident0 _ _ (by rw [strOf_size];exact HFB.out.1) ((HL.out.below HB.out (Nat.le_refl _)).alloc _)).mono ?_;rintro e w' ⟨rfl,rfl⟩;cases hT:isType f.typ
   ·have HZ:Hid (fldFault l[j]=8):=by show _=_;rw [HF.out];unfold fldFault;rw [if_neg (by rw [HI.out];simp),if_pos hT]
    go_wp2_with fail;refine (fmt_isType _ _ HFB.out.2 ((HL.out.below HB.out (Nat.le_refl _)).alloc _)).mono ?_;rintro e w' ⟨rfl,rfl⟩;go_wp2_with fail;go_ret;refine⟨?_,HBA.out⟩
    show _=Ending.returned (.int .i64 ((firstLim fldFault l:Nat):Int))
    rw [firstLim_take _ _ j hlt H0.out,HZ.out];rfl
   have HZ:Hid (fldFault l[j]=0):=by show _=_;rw [HF.out];unfold fldFault;rw [if_neg (by rw [HI.out];simp),if_neg (by rw [hT];simp)]
   go_wp2_with fail;refine (fmt_isType _ _ HFB.out.2 ((HL.out.below HB.out (Nat.le_refl _)).alloc _)).mono ?_;rintro e w' ⟨rfl,rfl⟩;go_wp2_with fail
   go_roundw
   case rel =>
    refine⟨j+1,by omega,by go_num,fun k hk=>?_,HBA.out⟩
    by_cases hkj:k<j
    ·exact H0.out k hkj
    ·obtain rfl:k=j:=by omega
     exact HZ.out
   case measure=>simp [intOf];omega
  ·have HB:=Lib.hid hb;clear hb;go_wp2_with fail;go_ret;refine⟨?_,HB.out⟩
   show _=Ending.returned (.int .i64 ((firstLim fldFault l:Nat):Int))
   rw [firstLim_zero _ _ fun i hi=>H0.out i (by omega)];rfl
set_option maxHeartbeats 2000000 in
theorem fmt_methodFault (d:Nat)(e:Me)(nm:ByteArray)(sb:Bool)(a1:Option Addr)(n1 c1:Nat)(rs:ByteArray)(a2:Option Addr)(n2 c2:Nat)(w:World)(h:IsMe Any w d e [.string nm,.bool sb,.slice a1 n1 c1,.string rs,.slice a2 n2 c2])(hB:MethB d e)(hL:KwIs w) :
  Calls Tryz.prog 57 #[.agg #[.string nm,.bool sb,.slice a1 n1 c1,.string rs,.slice a2 n2 c2]] w fun r w'=>r=.returned (.int .i64 (meFault e:Int))∧Below w.heap.size w w':=by
 obtain⟨nn,rr,ps,bd,rfl,rfl,rfl,hl1,hl2⟩:=h.flds;obtain rfl:=hl1.len.1;obtain rfl:=hl2.len.1;obtain⟨hnn,hrr,hps,hbd⟩:=hB;have H1:Hid (∀ x,Below w.heap.size w x→IsList Any x 2 IsFld ps (.slice a1 ps.length c1)):=fun x hx=>hl1.kept (kept_any hx) (by omega) fun _ _ _ h=>h
 have H2:Hid (∀ x,Below w.heap.size w x→IsList Any x 6 (IsSt Any x d) bd (.slice a2 bd.length c2)):=fun x hx=>hl2.kept (kept_any hx) (by omega) fun _ _ _=>IsSt.kept (kept_any hx) _ _ _
 have Bnn:Hid (nn.length≤maxLen):=hnn;have Brr:Hid (rr.length≤maxLen):=hrr;have BP:Hid (∀ x∈ps,FldB x):=hps;have BB:Hid (∀ x∈bd,StB d x):=hbd;have HL:=Lib.hid hL;clear h hl1 hl2 hnn hrr hps hbd hL;cases hI:isIdent nn
 ·have HR:Hid (meFault ⟨nn,sb,ps,rr,bd⟩=5):=by show _=_;unfold meFault;rw [if_pos hI]
  rw [← strOf_data nn] at hI;go_enter Tryz.func57,Tryz.ntmps57;go_wp2_with fail;refine (fm_ident0 _ _ (by rw [strOf_size];exact Bnn.out) (HL.out.alloc _)).mono ?_;rintro e w' ⟨rfl,rfl⟩;go_wp2_with fail;go_ret;exact⟨by rw [HR.out];rfl,((Below.refl _ _).alloc (Nat.le_refl _) _)⟩
 have HI:Hid (¬ (isIdent nn=false)):=by show ¬ _;rw [hI];simp
 rw [← strOf_data nn] at hI;go_enter Tryz.func57,Tryz.ntmps57;go_wp2_with fail;refine (fm_ident0 _ _ (by rw [strOf_size];exact Bnn.out) (HL.out.alloc _)).mono ?_;rintro e w' ⟨rfl,rfl⟩;go_wp2_with fail;refine (fmt_typedFault _ _ _ _ _ (H1.out _ ((Below.refl _ _).alloc (Nat.le_refl _) _)) BP.out (HL.out.alloc _)).mono ?_;rintro e w2 ⟨rfl,hb2⟩;have HB2:=Lib.hid (((Below.refl _ _).alloc (Nat.le_refl _) _).trans (hb2.mono (by simp)));have hs2:w.heap.size<w2.heap.size:=by have:=hb2.size;simp at this;omega
 have u3:w2.cell? ⟨w.heap.size,3,none⟩=some (.string (strOf rr)):=(hb2.cell (p:=⟨w.heap.size,3,none⟩) (by simp)).trans (by simp [go_sem]);have u4:w2.cell? ⟨w.heap.size,4,none⟩=some (.slice a2 bd.length c2):=(hb2.cell (p:=⟨w.heap.size,4,none⟩) (by simp)).trans (by simp [go_sem]);clear hb2
 by_cases hz:fldsFault ps=0
 rotate_left
 ·have hz1:(((fldsFault ps:Nat):Int) != 0)=true:=by rw [bne,beq_eq_false_iff_ne.2 (by omega)];rfl
  have HR:Hid (meFault ⟨nn,sb,ps,rr,bd⟩=fldsFault ps):=by show _=_;unfold meFault;rw [if_neg HI.out,if_pos hz]
  clear hz;go_wp2_with fail;go_ret;exact⟨by rw [HR.out];rfl,HB2.out⟩
 have hz1:(((fldsFault ps:Nat):Int) != 0)=false:=by rw [hz];rfl
 have HZ:Hid (¬ (fldsFault ps≠0)):=by show ¬ _;omega
 clear hz;have HL2:Hid (KwIs w2):=HL.out.below HB2.out (Nat.le_refl _)
 by_cases hr:rr=[]
 ·have er:=isEmpty_zero (strOf rr) (by rw [strOf_size,hr];rfl);have HR:Hid (meFault ⟨nn,sb,ps,rr,bd⟩=stsFault bd):=by show _=_;unfold meFault;rw [if_neg HI.out,if_neg HZ.out,if_neg (fun h=>h.1 hr)]
  clear hr;go_wp2_with fail;refine (fmt_stmtFaults d (Lib.hid (fmt_stmtFault d)) _ _ _ _ _ (H2.out _ HB2.out) BB.out HL2.out).mono ?_;rintro e w3 ⟨rfl,hb3⟩;have HB3:=Lib.hid (HB2.out.trans (hb3.mono HB2.out.size));clear hb3;go_wp2_with fail;go_ret;exact⟨by rw [HR.out];rfl,HB3.out⟩
 have er:=isEmpty_pos (strOf rr) (by rw [strOf_size];exact List.length_pos_iff.2 hr);cases hT:isType rr
 ·have HR:Hid (meFault ⟨nn,sb,ps,rr,bd⟩=8):=by show _=_;unfold meFault;rw [if_neg HI.out,if_neg HZ.out,if_pos ⟨hr,hT⟩]
  clear hr;go_wp2_with fail;refine (fmt_isType _ _ Brr.out HL2.out).mono ?_;rintro e w' ⟨rfl,rfl⟩;go_wp2_with fail;go_ret;exact⟨by rw [HR.out];rfl,HB2.out⟩
 have HR:Hid (meFault ⟨nn,sb,ps,rr,bd⟩=stsFault bd):=by show _=_;unfold meFault;rw [if_neg HI.out,if_neg HZ.out,if_neg (fun h=>by rw [hT] at h;exact absurd h.2 (by simp))]
 clear hr;go_wp2_with fail;refine (fmt_isType _ _ Brr.out HL2.out).mono ?_;rintro e w' ⟨rfl,rfl⟩;go_wp2_with fail;refine (fmt_stmtFaults d (Lib.hid (fmt_stmtFault d)) _ _ _ _ _ (H2.out _ HB2.out) BB.out HL2.out).mono ?_;rintro e w3 ⟨rfl,hb3⟩;have HB3:=Lib.hid (HB2.out.trans (hb3.mono HB2.out.size));clear hb3;go_wp2_with fail;go_ret;exact⟨by rw [HR.out];rfl,HB3.out⟩
set_option maxHeartbeats 4000000 in
theorem fmt_classFault (d:Nat)(e:Cl)(nm sp:ByteArray)(a1:Option Addr)(n1 c1:Nat)(a2:Option Addr)(n2 c2:Nat)(w:World)(h:IsCl Any w d e [.string nm,.string sp,.slice a1 n1 c1,.slice a2 n2 c2])(hB:ClB d e)(hL:KwIs w) :
  Calls Tryz.prog 28 #[.agg #[.string nm,.string sp,.slice a1 n1 c1,.slice a2 n2 c2]] w fun r w'=>r=.returned (.int .i64 (clFault e:Int))∧Below w.heap.size w w':=by
 obtain⟨nn,ss,fs,ms,rfl,rfl,rfl,hl1,hl2⟩:=h.flds;obtain rfl:=hl1.len.1;obtain⟨rfl,hml,hat⟩:=hl2.meAt;unfold maxLen at hml;obtain⟨hnn,hss,hfs,hms⟩:=hB;have HAT:=Lib.hid hat;have H1:Hid (∀ x,Below w.heap.size w x→IsList Any x 2 IsFld fs (.slice a1 fs.length c1)):=fun x hx=>hl1.kept (kept_any hx) (by omega) fun _ _ _ h=>h
 have Bnn:Hid (nn.length≤maxLen):=hnn;have Bss:Hid (ss.length≤maxLen):=hss;have BP:Hid (∀ x∈fs,FldB x):=hfs;have BM:Hid (∀ x∈ms,MethB d x):=hms;have HL:=Lib.hid hL;clear h hl1 hl2 hnn hss hfs hms hL hat;cases hI:isIdent nn
 ·have HR:Hid (clFault ⟨nn,ss,fs,ms⟩=5):=by show _=_;unfold clFault;rw [if_pos (.inl hI)]
  rw [← strOf_data nn] at hI;go_enter Tryz.func28,Tryz.ntmps28;go_wp2_with fail;refine (fm_ident0 _ _ (by rw [strOf_size];exact Bnn.out) (HL.out.alloc _)).mono ?_;rintro e w' ⟨rfl,rfl⟩;go_wp2_with fail;go_ret;exact⟨by rw [HR.out];rfl,((Below.refl _ _).alloc (Nat.le_refl _) _)⟩
 have HN:Hid (¬ (isIdent nn=false)):=by show ¬ _;rw [hI];simp
 rw [← strOf_data nn] at hI
 by_cases hs:ss=[]
 ·have es:=isEmpty_zero (strOf ss) (by rw [strOf_size,hs];rfl);have HI:Hid (¬ (isIdent nn=false∨(ss≠[]∧isIdent ss=false))):=by show ¬ _;rintro (h | h);exact HN.out h;exact h.1 hs
  clear hs;go_enter Tryz.func28,Tryz.ntmps28;go_wp2_with fail;refine (fm_ident0 _ _ (by rw [strOf_size];exact Bnn.out) (HL.out.alloc _)).mono ?_;rintro e w' ⟨rfl,rfl⟩;go_wp2_with fail;refine (fmt_typedFault _ _ _ _ _ (H1.out _ ((Below.refl _ _).alloc (Nat.le_refl _) _)) BP.out (HL.out.alloc _)).mono ?_;rintro e w2 ⟨rfl,hb2⟩;have HB2:=Lib.hid (((Below.refl _ _).alloc (Nat.le_refl _) _).trans (hb2.mono (by simp)));have hs2:w.heap.size<w2.heap.size:=by have:=hb2.size;simp at this;omega
  have u3:w2.cell? ⟨w.heap.size,3,none⟩=some (.slice a2 ms.length c2):=(hb2.cell (p:=⟨w.heap.size,3,none⟩) (by simp)).trans (by simp [go_sem]);clear hb2
  by_cases hz:fldsFault fs=0
  rotate_left
  ·have hz1:(((fldsFault fs:Nat):Int) != 0)=true:=by rw [bne,beq_eq_false_iff_ne.2 (by omega)];rfl
   have HR:Hid (clFault ⟨nn,ss,fs,ms⟩=fldsFault fs):=by show _=_;unfold clFault;rw [if_neg HI.out,if_pos hz]
   clear hz;go_wp2_with fail;go_ret;exact⟨by rw [HR.out];rfl,HB2.out⟩
  have hz1:(((fldsFault fs:Nat):Int) != 0)=false:=by rw [hz];rfl
  have HR:Hid (clFault ⟨nn,ss,fs,ms⟩=firstLim meFault ms):=by show _=_;unfold clFault;rw [if_neg HI.out,if_neg (fun h=>h hz)]
  clear hz;go_wp2_with fail;clear u3
  go_loopw [31] (fun i wr=>LimRelF meFault ms w i wr) (fun i _=>ms.length-(intOf i).toNat)
  case atStart=>exact⟨0,Nat.zero_le _,rfl,fun k hk=>by omega,HB2.out⟩
  case round =>
   obtain⟨j,hj,rfl,h0,hb⟩:=hrel;have H0:=Lib.hid h0;clear h0
   by_cases hlt:j<ms.length
   ·obtain⟨g,off,nm1,sb1,a3,n3,c3,rs1,a4,n4,c4,rfl,hgl,⟨x0,x1,x2,x3,x4⟩,hx⟩:=HAT.out j hlt;rw [← hb.cell (p:=⟨g,_,none⟩) hgl] at x0 x1 x2 x3 x4;have hgw:g<wr.heap.size:=Nat.lt_of_lt_of_le hgl hb.size;have hx2:=IsMe.kept (kept_any hb) hx;have HX:=Lib.hid (IsMe.kept (kept_alloc wr (.cells #[.string nm1,.bool sb1,.slice a3 n3 c3,.string rs1,.slice a4 n4 c4] 94)) hx2);have HB:=Lib.hid hb;have hj1:(j:Int)<(ms.length:Int):=by omega
    have hj0:(0:Int)≤(j:Int):=by omega
    clear hb hx hx2;go_wp2_with fail;refine (fmt_methodFault d _ _ _ _ _ _ _ _ _ _ _ HX.out (BM.out _ (List.getElem_mem hlt)) ((HL.out.below HB.out (Nat.le_refl _)).alloc _)).mono ?_;rintro e w3 ⟨rfl,hb3⟩;have HB3:=Lib.hid (HB.out.trans ((((Below.refl _ _).alloc (Nat.le_refl _) _).trans (hb3.mono (by simp))).mono HB.out.size));clear hb3 x0 x1 x2 x3 x4
    by_cases hy:meFault ms[j]=0
    ·have HZ:=Lib.hid hy;have hy1:(((meFault ms[j]:Nat):Int) != 0)=false:=by rw [hy];rfl
     clear hy;go_wp2_with fail
     go_roundw
     case rel =>
      refine⟨j+1,by omega,by go_num,fun k hk=>?_,HB3.out⟩
      by_cases hkj:k<j
      ·exact H0.out k hkj
      ·obtain rfl:k=j:=by omega
       exact HZ.out
     case measure=>simp [intOf];omega
    ·have hy1:(((meFault ms[j]:Nat):Int) != 0)=true:=by rw [bne,beq_eq_false_iff_ne.2 (by omega)];rfl
     have HZ:=Lib.hid hy;clear hy;go_wp2_with fail;go_ret;refine⟨?_,HB3.out⟩;rw [HR.out,firstLim_take _ _ j hlt H0.out,if_pos HZ.out];rfl
   ·have HB:=Lib.hid hb;clear hb;go_wp2_with fail;go_ret;refine⟨?_,HB.out⟩;rw [HR.out,firstLim_zero _ _ fun i hi=>H0.out i (by omega)];rfl
 have es:=isEmpty_pos (strOf ss) (by rw [strOf_size];exact List.length_pos_iff.2 hs);cases hJ:isIdent ss
 ·have HR:Hid (clFault ⟨nn,ss,fs,ms⟩=5):=by show _=_;unfold clFault;rw [if_pos (.inr ⟨hs,hJ⟩)]
  rw [← strOf_data ss] at hJ;clear hs;go_enter Tryz.func28,Tryz.ntmps28;go_wp2_with fail;refine (fm_ident0 _ _ (by rw [strOf_size];exact Bnn.out) (HL.out.alloc _)).mono ?_;rintro e w' ⟨rfl,rfl⟩;go_wp2_with fail;refine (fm_ident0 _ _ (by rw [strOf_size];exact Bss.out) (HL.out.alloc _)).mono ?_;rintro e w' ⟨rfl,rfl⟩;go_wp2_with fail;go_ret;exact⟨by rw [HR.out];rfl,((Below.refl _ _).alloc (Nat.le_refl _) _)⟩
 have HI:Hid (¬ (isIdent nn=false∨(ss≠[]∧isIdent ss=false))):=by show ¬ _;rintro (h | h);exact HN.out h;rw [hJ] at h;exact absurd h.2 (by simp)
 rw [← strOf_data ss] at hJ;clear hs;go_enter Tryz.func28,Tryz.ntmps28;go_wp2_with fail;refine (fm_ident0 _ _ (by rw [strOf_size];exact Bnn.out) (HL.out.alloc _)).mono ?_;rintro e w' ⟨rfl,rfl⟩;go_wp2_with fail;refine (fm_ident0 _ _ (by rw [strOf_size];exact Bss.out) (HL.out.alloc _)).mono ?_;rintro e w' ⟨rfl,rfl⟩;go_wp2_with fail;refine (fmt_typedFault _ _ _ _ _ (H1.out _ ((Below.refl _ _).alloc (Nat.le_refl _) _)) BP.out (HL.out.alloc _)).mono ?_;rintro e w2 ⟨rfl,hb2⟩;have HB2:=Lib.hid (((Below.refl _ _).alloc (Nat.le_refl _) _).trans (hb2.mono (by simp)));have hs2:w.heap.size<w2.heap.size:=by have:=hb2.size;simp at this;omega
 have u3:w2.cell? ⟨w.heap.size,3,none⟩=some (.slice a2 ms.length c2):=(hb2.cell (p:=⟨w.heap.size,3,none⟩) (by simp)).trans (by simp [go_sem]);clear hb2
 by_cases hz:fldsFault fs=0
 rotate_left
 ·have hz1:(((fldsFault fs:Nat):Int) != 0)=true:=by rw [bne,beq_eq_false_iff_ne.2 (by omega)];rfl
  have HR:Hid (clFault ⟨nn,ss,fs,ms⟩=fldsFault fs):=by show _=_;unfold clFault;rw [if_neg HI.out,if_pos hz]
  clear hz;go_wp2_with fail;go_ret;exact⟨by rw [HR.out];rfl,HB2.out⟩
 have hz1:(((fldsFault fs:Nat):Int) != 0)=false:=by rw [hz];rfl
 have HR:Hid (clFault ⟨nn,ss,fs,ms⟩=firstLim meFault ms):=by show _=_;unfold clFault;rw [if_neg HI.out,if_neg (fun h=>h hz)]
 clear hz;go_wp2_with fail;clear u3
 go_loopw [31] (fun i wr=>LimRelF meFault ms w i wr) (fun i _=>ms.length-(intOf i).toNat)
 case atStart=>exact⟨0,Nat.zero_le _,rfl,fun k hk=>by omega,HB2.out⟩
 case round =>
  obtain⟨j,hj,rfl,h0,hb⟩:=hrel;have H0:=Lib.hid h0;clear h0
  by_cases hlt:j<ms.length
  ·obtain⟨g,off,nm1,sb1,a3,n3,c3,rs1,a4,n4,c4,rfl,hgl,⟨x0,x1,x2,x3,x4⟩,hx⟩:=HAT.out j hlt;rw [← hb.cell (p:=⟨g,_,none⟩) hgl] at x0 x1 x2 x3 x4;have hgw:g<wr.heap.size:=Nat.lt_of_lt_of_le hgl hb.size;have hx2:=IsMe.kept (kept_any hb) hx;have HX:=Lib.hid (IsMe.kept (kept_alloc wr (.cells #[.string nm1,.bool sb1,.slice a3 n3 c3,.string rs1,.slice a4 n4 c4] 94)) hx2);have HB:=Lib.hid hb;have hj1:(j:Int)<(ms.length:Int):=by omega
   have hj0:(0:Int)≤(j:Int):=by omega
   clear hb hx hx2;go_wp2_with fail;refine (fmt_methodFault d _ _ _ _ _ _ _ _ _ _ _ HX.out (BM.out _ (List.getElem_mem hlt)) ((HL.out.below HB.out (Nat.le_refl _)).alloc _)).mono ?_;rintro e w3 ⟨rfl,hb3⟩;have HB3:=Lib.hid (HB.out.trans ((((Below.refl _ _).alloc (Nat.le_refl _) _).trans (hb3.mono (by simp))).mono HB.out.size));clear hb3 x0 x1 x2 x3 x4
   by_cases hy:meFault ms[j]=0
   ·have HZ:=Lib.hid hy;have hy1:(((meFault ms[j]:Nat):Int) != 0)=false:=by rw [hy];rfl
    clear hy;go_wp2_with fail
    go_roundw
    case rel =>
     refine⟨j+1,by omega,by go_num,fun k hk=>?_,HB3.out⟩
     by_cases hkj:k<j
     ·exact H0.out k hkj
     ·obtain rfl:k=j:=by omega
      exact HZ.out
    case measure=>simp [intOf];omega
   ·have hy1:(((meFault ms[j]:Nat):Int) != 0)=true:=by rw [bne,beq_eq_false_iff_ne.2 (by omega)];rfl
    have HZ:=Lib.hid hy;clear hy;go_wp2_with fail;go_ret;refine⟨?_,HB3.out⟩;rw [HR.out,firstLim_take _ _ j hlt H0.out,if_pos HZ.out];rfl
  ·have HB:=Lib.hid hb;clear hb;go_wp2_with fail;go_ret;refine⟨?_,HB.out⟩;rw [HR.out,firstLim_zero _ _ fun i hi=>H0.out i (by omega)];rfl
end
set_option linter.unusedSimpArgs false
set_option linter.unusedVariables false
section
open Lx
namespace Lx
def WfT (t:Bytes):Prop:=t=[105,110,116]∨isIdent t=true
inductive WfE:Ex→Prop
 | int (n:Int) (h1:-9223372036854775808<n) (h2:n<9223372036854775808):WfE (.mk 1 n [] [] [])
 | null:WfE (.mk 2 0 [] [] [])
 | var (x:Bytes) (hx:isIdent x=true):WfE (.mk 3 0 [] x [])
 | this:WfE (.mk 4 0 [] [] [])
 | input:WfE (.mk 5 0 [] [] [])
 | bin (op:Int) (h:1≤op∧op≤5) {a b:Ex} (ha:WfE a) (hb:WfE b):WfE (.mk 6 op [] [] [a,b])
 | new (x:Bytes) (hx:isIdent x=true):WfE (.mk 7 0 [] x [])
 | field (m:Bytes) (hm:isIdent m=true) {k:Ex} (hk:WfE k):WfE (.mk 8 0 [] m [k])
 | call (m:Bytes) (hm:isIdent m=true) {k:Ex} {es:List Ex} (hk:WfE k) (he:∀ e∈es,WfE e):WfE (.mk 9 0 [] m (k::es))
 | static (o m:Bytes) (ho:isIdent o=true) (hm:isIdent m=true) {es:List Ex} (he:∀ e∈es,WfE e):WfE (.mk 10 0 o m es)
inductive WfS:St→Prop
 | var0 (x t:Bytes) (hx:isIdent x=true) (ht:WfT t):WfS (.mk 1 x t [] [] [])
 | var1 (x t:Bytes) (hx:isIdent x=true) (ht:WfT t) {e:Ex} (he:WfE e):WfS (.mk 1 x t [e] [] [])
 | assign (x:Bytes) (hx:isIdent x=true) {e:Ex} (he:WfE e):WfS (.mk 2 x [] [e] [] [])
 | store (m:Bytes) (hm:isIdent m=true) {k e:Ex} (hk:WfE k) (he:WfE e):WfS (.mk 3 m [] [k,e] [] [])
 | if {e:Ex} (he:WfE e) {b c:List St} (hb:∀ s∈b,WfS s) (hc:∀ s∈c,WfS s):WfS (.mk 4 [] [] [e] b c)
 | while {e:Ex} (he:WfE e) {b:List St} (hb:∀ s∈b,WfS s):WfS (.mk 5 [] [] [e] b [])
 | try (x t:Bytes) (hx:isIdent x=true) (ht:WfT t) {b c:List St} (hb:∀ s∈b,WfS s) (hc:∀ s∈c,WfS s):WfS (.mk 6 x t [] b c)
 | throw {e:Ex} (he:WfE e):WfS (.mk 7 [] [] [e] [] [])
 | return0:WfS (.mk 8 [] [] [] [] [])
 | return1 {e:Ex} (he:WfE e):WfS (.mk 8 [] [] [e] [] [])
 | call {e:Ex} (he:WfE e) (hk:e.kind=9∨e.kind=10):WfS (.mk 9 [] [] [e] [] [])
def WfF (f:Fld):Prop:=isIdent f.name=true∧WfT f.typ
structure WfM (m:Me):Prop where
 name:isIdent m.name=true
 params:∀ f∈m.params,WfF f
 result:m.result=[]∨WfT m.result
 body:∀ s∈m.body,WfS s
structure WfC (c:Cl):Prop where
 name:isIdent c.name=true
 super:c.super=[]∨isIdent c.super=true
 fields:∀ f∈c.fields,WfF f
 methods:∀ m∈c.methods,WfM m
/-- Tokens as the lexer gives them: identifiers, numbers. -/
def TId (ts:List Tok):Prop:=∀ i,((tk ts i).kind=1→isIdent (tk ts i).text=true)∧((tk ts i).kind=3→(tk ts i).n<9223372036854775808)
theorem spanOf_take (p:UInt8→Bool):∀ l:Bytes,(l.take (spanOf p l)).all p=true
 | []=>rfl
 | c::t=>by
   unfold spanOf;split
   ·rename_i h;simp [h,spanOf_take p t]
   ·simp
theorem oneTok_ident {c:UInt8}{t:Bytes}{k m n:Nat}(ho:oneTok (c::t)=.ok k m n)(hk:k=1):isIdent ((c::t).take m)=true:=by
 subst hk;simp only [oneTok] at ho;split at ho
 ·rename_i hc;simp only [wordTok] at ho;split at ho
  ·cases ho
  ·rename_i h32;simp only [OneR.ok.injEq] at ho;obtain⟨hk,hm,_⟩:=ho;have hkw:isKeyword ((c::t).take (spanOf isPart (c::t)))=false:=by
    cases hx:isKeyword ((c::t).take (spanOf isPart (c::t))) with
    | false=>rfl
    | true=>rw [hx] at hk;cases hk
   have ha:=spanOf_take isPart (c::t);have hp:=part_of_letter hc;have hpos:=spanOf_pos isPart c t hp;have hle:=spanOf_le isPart (c::t)
   show isIdent ((c::t).take m)=true
   rw [← hm];obtain⟨k,hk2⟩:∃ k,spanOf isPart (c::t)=k+1:=⟨spanOf isPart (c::t)-1,by omega⟩;rw [hk2] at ha hkw h32 hle ⊢;rw [List.take_succ_cons] at ha hkw ⊢;simp only [List.length_cons] at hle;simp only [isIdent,Bool.and_eq_true,decide_eq_true_eq,Bool.not_eq_true'];exact⟨⟨⟨by rw [List.length_take];omega,hc⟩,ha⟩,hkw⟩
 ·split at ho
  ·simp only [numTok] at ho;split at ho
   ·cases ho
   ·split at ho <;> cases ho
  ·simp only [markTok] at ho;split at ho <;> cases ho
theorem tid_of {l:Bytes}{ts:List Tok}(h:tokensOf l=.ok ts):TId ts:=by
 intro i
 by_cases hi:i<ts.length
 ·rw [tk_get _ _ hi];obtain⟨_,h⟩:=tokensOf_len h;obtain⟨us,q,rfl,h1,_⟩:=toks_all (fun t=>(t.kind=1→isIdent t.text=true)∧(t.kind=3→t.n<9223372036854775808)) (fun k m n q c t ho=>⟨fun hk=>oneTok_ident ho hk,fun _=>oneTok_n ho⟩) _ _ _ _ _ h;rcases List.mem_append.1 (List.getElem_mem hi) with hm | hm
  ·exact h1 _ hm
  ·simp only [List.mem_singleton] at hm;rw [hm];exact⟨fun h=>(by cases h),fun h=>(by cases h)⟩
 ·have:tk ts i=⟨5,0,[],0⟩:=by simp [tk,List.getElem?_eq_none (by omega:ts.length≤i)]
  rw [this];exact⟨fun h=>(by cases h),fun h=>(by cases h)⟩
section
variable {ts:List Tok} (hI:TId ts)
include hI
theorem nameP_wf {i j:Nat}{x:Bytes}(h:nameP ts i=.ok (x,j)):isIdent x=true:=by
 unfold nameP at h;split at h
 ·rename_i hk;cases h;exact (hI i).1 hk
 ·cases h
theorem typP_wf {i j:Nat}{x:Bytes}(h:typP ts i=.ok (x,j)):WfT x:=by
 unfold typP at h;split at h
 ·cases h;exact .inl rfl
 ·exact .inr (nameP_wf hI h)
theorem typedP_wf {i j:Nat}{f:Fld}(h:typedP ts i=.ok (f,j)):WfF f:=by
 unfold typedP at h;obtain⟨_,k,h1,h⟩:=bindP_inv h;obtain⟨_,k,h2,h⟩:=bindP_inv h;obtain⟨_,k,h3,h⟩:=bindP_inv h;cases h;exact⟨nameP_wf hI h1,typP_wf hI h3⟩
def Wfd (E:Nat→PR Ex):Prop:=∀ i e j,E i=.ok (e,j)→WfE e
/-- What is known of a post by its shape. -/
def WfO (x:Ex×Nat):Prop:=WfE x.1∧(x.2=1→isIdent x.1.name=true)∧(x.2=2→∃ m k,x.1=.mk 8 0 [] m [k]∧isIdent m=true∧WfE k)∧(x.2=3→x.1.kind=9∨x.1.kind=10)
omit hI in
theorem WfO.of0 {e:Ex}(h:WfE e):WfO (e,0):=⟨h,fun h=>(by cases h),fun h=>(by cases h),fun h=>(by cases h)⟩
section
variable {E:Nat→PR Ex} (hE:Wfd E)
include hE
omit hI in
theorem argsLoop_wf:∀ n acc i r j,argsLoop ts E n acc i=.ok (r,j)→(∀ e∈acc,WfE e)→∀ e∈r,WfE e:=by
 intro n
 induction n with
 | zero=>intro acc i r j h;cases h
 | succ n ih =>
   intro acc i r j h ha;unfold argsLoop at h;split at h
   ·obtain⟨e,k,h1,h⟩:=bindP_inv h;refine ih _ _ _ _ h fun x hx=>?_
    rcases List.mem_append.1 hx with hx | hx
    ·exact ha x hx
    ·simp at hx;subst hx;exact hE _ _ _ h1
   ·obtain⟨_,k,h1,h⟩:=bindP_inv h;cases h;exact ha
omit hI in
theorem argsP_wf:∀ i r j,argsP ts E i=.ok (r,j)→∀ e∈r,WfE e:=by
 intro i r j h;unfold argsP at h;obtain⟨_,k,h1,h⟩:=bindP_inv h;split at h
 ·cases h;exact fun e he=>by cases he
 ·obtain⟨e,k,h2,h⟩:=bindP_inv h;exact argsLoop_wf hE _ _ _ _ _ h fun x hx=>by simp at hx;subst hx;exact hE _ _ _ h2
theorem atomP_wf:∀ i r j,atomP ts E i=.ok (r,j)→WfO r:=by
 intro i r j h;unfold atomP at h;split at h
 ·unfold namedP at h;obtain⟨x,k,h1,h⟩:=bindP_inv h;have hx:=nameP_wf hI h1;split at h
  ·obtain⟨m,k,h2,h⟩:=bindP_inv h;obtain⟨_,k,h3,h⟩:=bindP_inv h;cases h;exact⟨.static _ _ hx (nameP_wf hI h2) (argsP_wf hE _ _ _ h3),fun h=>(by cases h),fun h=>(by cases h),fun _=>.inr rfl⟩
  ·cases h;exact⟨.var _ hx,fun _=>hx,fun h=>(by cases h),fun h=>(by cases h)⟩
 split at h
 ·rename_i hk;cases h;have:=(hI i).2 hk;exact .of0 (.int _ (by omega) (by omega))
 split at h
 ·unfold minusP at h;split at h
  ·rename_i hk;cases h;have:=(hI (i+1)).2 hk.1;exact .of0 (.int _ (by omega) (by omega))
  ·cases h
 split at h;· cases h;exact .of0 .null
 split at h;· cases h;exact .of0 .this
 split at h
 ·unfold unitP at h;obtain⟨_,k,h1,h⟩:=bindP_inv h;obtain⟨_,k,h2,h⟩:=bindP_inv h;cases h;exact .of0 .input
 split at h
 ·obtain⟨_,k,h1,h⟩:=bindP_inv h;have hx:=nameP_wf hI h1;unfold unitP at h;obtain⟨_,k,h1,h⟩:=bindP_inv h;obtain⟨_,k,h2,h⟩:=bindP_inv h;cases h;exact .of0 (.new _ hx)
 ·unfold parenP at h;obtain⟨_,k,h1,h⟩:=bindP_inv h;obtain⟨_,k,h2,h⟩:=bindP_inv h;obtain⟨_,k,h3,h⟩:=bindP_inv h;have:=hE _ _ _ h2;cases h;exact .of0 this
theorem postLoop_wf:∀ n e sh i r j,postLoop ts E n e sh i=.ok (r,j)→WfO (e,sh)→WfO r:=by
 intro n
 induction n with
 | zero=>intro e sh i r j h;cases h
 | succ n ih =>
   intro e sh i r j h ha;unfold postLoop at h;split at h
   ·obtain⟨m,k,h1,h⟩:=bindP_inv h;have hm:=nameP_wf hI h1;split at h
    ·obtain⟨ks,k,h2,h⟩:=bindP_inv h;exact ih _ _ _ _ _ h ⟨.call m hm ha.1 (argsP_wf hE _ _ _ h2),fun h=>(by cases h),fun h=>(by cases h),fun _=>.inl rfl⟩
    ·exact ih _ _ _ _ _ h ⟨.field m hm ha.1,fun h=>(by cases h),fun _=>⟨m,e,rfl,hm,ha.1⟩,fun h=>(by cases h)⟩
   ·cases h;exact ha
theorem postP_wf:∀ i r j,postP ts E i=.ok (r,j)→WfO r:=by
 intro i r j h;unfold postP at h;obtain⟨x,k,h1,h⟩:=bindP_inv h;exact postLoop_wf hI hE _ _ _ _ _ _ h (atomP_wf hI hE _ _ _ h1)
theorem prodLoop_wf:∀ n e i r j,prodLoop ts E n e i=.ok (r,j)→WfE e→WfE r:=by
 intro n
 induction n with
 | zero=>intro e i r j h;cases h
 | succ n ih =>
   intro e i r j h ha;unfold prodLoop at h;split at h
   ·obtain⟨m,k,h1,h⟩:=bindP_inv h;exact ih _ _ _ _ h (.bin 3 (by decide) ha (postP_wf hI hE _ _ _ h1).1)
   ·cases h;exact ha
theorem prodP_wf:Wfd (prodP ts E):=by
 intro i r j h;unfold prodP at h;obtain⟨x,k,h1,h⟩:=bindP_inv h;exact prodLoop_wf hI hE _ _ _ _ _ h (postP_wf hI hE _ _ _ h1).1
theorem sumLoop_wf:∀ n e i r j,sumLoop ts E n e i=.ok (r,j)→WfE e→WfE r:=by
 intro n
 induction n with
 | zero=>intro e i r j h;cases h
 | succ n ih =>
   intro e i r j h ha;unfold sumLoop at h;split at h
   ·obtain⟨m,k,h1,h⟩:=bindP_inv h;exact ih _ _ _ _ h (.bin 1 (by decide) ha (prodP_wf hI hE _ _ _ h1))
   ·split at h
    ·obtain⟨m,k,h1,h⟩:=bindP_inv h;exact ih _ _ _ _ h (.bin 2 (by decide) ha (prodP_wf hI hE _ _ _ h1))
    ·cases h;exact ha
theorem sumP_wf:Wfd (sumP ts E):=by
 intro i r j h;unfold sumP at h;obtain⟨x,k,h1,h⟩:=bindP_inv h;exact sumLoop_wf hI hE _ _ _ _ _ h (prodP_wf hI hE _ _ _ h1)
theorem exprW_wf:Wfd (exprW ts E):=by
 intro i r j h;unfold exprW at h;obtain⟨x,k,h1,h⟩:=bindP_inv h;have hx:=sumP_wf hI hE _ _ _ h1;split at h
 ·obtain⟨y,k,h2,h⟩:=bindP_inv h;have:=sumP_wf hI hE _ _ _ h2;cases h;exact .bin 4 (by decide) hx this
 ·split at h
  ·obtain⟨y,k,h2,h⟩:=bindP_inv h;have:=sumP_wf hI hE _ _ _ h2;cases h;exact .bin 5 (by decide) hx this
  ·cases h;exact hx
end
theorem exprP_wf:∀ f,Wfd (exprP ts f):=by
 intro f
 induction f with
 | zero=>intro i r j h;cases h
 | succ f ih=>exact exprW_wf hI ih
theorem exprT_wf:Wfd (exprT ts):=exprP_wf hI _
theorem condP_wf {i j:Nat}{c:List Ex}(h:condP ts i=.ok (c,j)):∃ e,c=[e]∧WfE e:=by
 unfold condP at h;obtain⟨_,k,h1,h⟩:=bindP_inv h;obtain⟨e,k,h2,h⟩:=bindP_inv h;obtain⟨_,k,h3,h⟩:=bindP_inv h;cases h;exact⟨e,rfl,exprT_wf hI _ _ _ h2⟩
def WfdS (S:Nat→PR St):Prop:=∀ i s j,S i=.ok (s,j)→WfS s
def WfdB (B:Nat→PR (List St)):Prop:=∀ i b j,B i=.ok (b,j)→∀ s∈b,WfS s
theorem simpleP_wf:WfdS (simpleP ts):=by
 intro i r j h;unfold simpleP at h;obtain⟨x,k,h1,h⟩:=bindP_inv h;obtain⟨w0,w1,w2,w3⟩:=postP_wf hI (exprT_wf hI) _ _ _ h1;split at h
 ·rename_i hc;obtain⟨y,k,h2,h⟩:=bindP_inv h;obtain⟨_,k,h3,h⟩:=bindP_inv h;cases h;exact .assign _ (w1 hc.1) (exprT_wf hI _ _ _ h2)
 split at h
 ·rename_i hc;obtain⟨y,k,h2,h⟩:=bindP_inv h;obtain⟨_,k,h3,h⟩:=bindP_inv h;cases h;obtain⟨m,k0,hx,hm,hk⟩:=w2 hc.1;rw [hx];exact .store m hm hk (exprT_wf hI _ _ _ h2)
 split at h
 ·rename_i hc;obtain⟨_,k,h3,h⟩:=bindP_inv h;cases h;exact .call w0 (w3 hc)
 ·cases h
omit hI in
theorem blockLoop_wf {S:Nat→PR St}(hS:WfdS S):∀ n acc i r j,blockLoop ts S n acc i=.ok (r,j)→(∀ s∈acc,WfS s)→∀ s∈r,WfS s:=by
 intro n
 induction n with
 | zero=>intro acc i r j h;cases h
 | succ n ih =>
   intro acc i r j h ha;unfold blockLoop at h;split at h
   ·cases h;exact ha
   ·obtain⟨m,k,h3,h⟩:=bindP_inv h;refine ih _ _ _ _ h fun x hx=>?_
    rcases List.mem_append.1 hx with hx | hx
    ·exact ha x hx
    ·simp at hx;subst hx;exact hS _ _ _ h3
omit hI in
theorem blockW_wf {S:Nat→PR St}(hS:WfdS S):WfdB (blockW ts S):=by
 intro i r j h;unfold blockW at h;obtain⟨_,k,h1,h⟩:=bindP_inv h;exact blockLoop_wf hS _ _ _ _ _ h fun s hs=>by cases hs
theorem stmtW_wf {B:Nat→PR (List St)}(hB:WfdB B):WfdS (stmtW ts B):=by
 intro i r j h;unfold stmtW at h;split at h
 ·unfold varP at h;obtain⟨f,k,h1,h⟩:=bindP_inv h;have hf:=typedP_wf hI h1;split at h
  ·obtain⟨_,k,h2,h⟩:=bindP_inv h;obtain⟨_,k,h3,h⟩:=bindP_inv h;cases h;exact .var1 _ _ hf.1 hf.2 (exprT_wf hI _ _ _ h2)
  ·obtain⟨_,k,h3,h⟩:=bindP_inv h;cases h;exact .var0 _ _ hf.1 hf.2
 split at h
 ·unfold ifP at h;obtain⟨c,k,h1,h⟩:=bindP_inv h;obtain⟨_,k,h2,h⟩:=bindP_inv h;obtain⟨e,rfl,he⟩:=condP_wf hI h1;split at h
  ·obtain⟨_,k,h3,h⟩:=bindP_inv h;cases h;exact .if he (hB _ _ _ h2) (hB _ _ _ h3)
  ·cases h;exact .if he (hB _ _ _ h2) fun s hs=>by cases hs
 split at h
 ·unfold whileP at h;obtain⟨c,k,h1,h⟩:=bindP_inv h;obtain⟨_,k,h2,h⟩:=bindP_inv h;obtain⟨e,rfl,he⟩:=condP_wf hI h1;cases h;exact .while he (hB _ _ _ h2)
 split at h
 ·unfold tryP at h;obtain⟨_,k,h1,h⟩:=bindP_inv h;obtain⟨_,k,h2,h⟩:=bindP_inv h;obtain⟨_,k,h3,h⟩:=bindP_inv h;obtain⟨f,k,h4,h⟩:=bindP_inv h;obtain⟨_,k,h5,h⟩:=bindP_inv h;obtain⟨_,k,h6,h⟩:=bindP_inv h;have hf:=typedP_wf hI h4;cases h;exact .try _ _ hf.1 hf.2 (hB _ _ _ h1) (hB _ _ _ h6)
 split at h
 ·unfold throwP at h;obtain⟨_,k,h2,h⟩:=bindP_inv h;obtain⟨_,k,h3,h⟩:=bindP_inv h;cases h;exact .throw (exprT_wf hI _ _ _ h2)
 split at h
 ·unfold returnP at h;split at h
  ·cases h;exact .return0
  ·obtain⟨_,k,h2,h⟩:=bindP_inv h;obtain⟨_,k,h3,h⟩:=bindP_inv h;cases h;exact .return1 (exprT_wf hI _ _ _ h2)
 exact simpleP_wf hI _ _ _ h
theorem blockP_wf:∀ f,WfdB (blockP ts f):=by
 intro f
 induction f with
 | zero=>intro i r j h;cases h
 | succ f ih=>exact blockW_wf (stmtW_wf hI ih)
theorem paramsLoop_wf:∀ n acc i r j,paramsLoop ts n acc i=.ok (r,j)→(∀ f∈acc,WfF f)→∀ f∈r,WfF f:=by
 intro n
 induction n with
 | zero=>intro acc i r j h;cases h
 | succ n ih =>
   intro acc i r j h ha;unfold paramsLoop at h;split at h
   ·obtain⟨e,k,h1,h⟩:=bindP_inv h;refine ih _ _ _ _ h fun x hx=>?_
    rcases List.mem_append.1 hx with hx | hx
    ·exact ha x hx
    ·simp at hx;subst hx;exact typedP_wf hI h1
   ·obtain⟨_,k,h1,h⟩:=bindP_inv h;cases h;exact ha
theorem paramsP_wf {i j:Nat}{r:List Fld}(h:paramsP ts i=.ok (r,j)):∀ f∈r,WfF f:=by
 unfold paramsP at h;split at h
 ·cases h;exact fun f hf=>by cases hf
 ·obtain⟨e,k,h1,h⟩:=bindP_inv h;exact paramsLoop_wf hI _ _ _ _ _ h fun x hx=>by simp at hx;subst hx;exact typedP_wf hI h1
theorem methodP_wf {i j:Nat}{m:Me}(h:methodP ts i=.ok (m,j)):WfM m:=by
 unfold methodP at h;obtain⟨_,k,h1,h⟩:=bindP_inv h;obtain⟨_,k,h2,h⟩:=bindP_inv h;obtain⟨_,k,h3,h⟩:=bindP_inv h;obtain⟨_,k,h4,h⟩:=bindP_inv h;obtain⟨r,k,h5,h⟩:=bindP_inv h;obtain⟨_,k,h6,h⟩:=bindP_inv h;have hr:r=[]∨WfT r:=by
  unfold resultP at h5;split at h5
  ·exact .inr (typP_wf hI h5)
  ·cases h5;exact .inl rfl
 cases h;exact⟨nameP_wf hI h2,paramsP_wf hI h4,hr,blockP_wf hI _ _ _ _ h6⟩
theorem fieldsLoop_wf:∀ n acc i r j,fieldsLoop ts n acc i=.ok (r,j)→(∀ f∈acc,WfF f)→∀ f∈r,WfF f:=by
 intro n
 induction n with
 | zero=>intro acc i r j h;cases h
 | succ n ih =>
   intro acc i r j h ha;unfold fieldsLoop at h;split at h
   ·obtain⟨e,k,h1,h⟩:=bindP_inv h;refine ih _ _ _ _ h fun x hx=>?_
    rcases List.mem_append.1 hx with hx | hx
    ·exact ha x hx
    ·simp at hx;subst hx;unfold fieldP at h1;obtain⟨_,k,h2,h1⟩:=bindP_inv h1;obtain⟨_,k,h3,h1⟩:=bindP_inv h1;obtain⟨_,k,h4,h1⟩:=bindP_inv h1;cases h1;exact typedP_wf hI h3
   ·cases h;exact ha
theorem methodsLoop_wf:∀ n acc i r j,methodsLoop ts n acc i=.ok (r,j)→(∀ f∈acc,WfM f)→∀ f∈r,WfM f:=by
 intro n
 induction n with
 | zero=>intro acc i r j h;cases h
 | succ n ih =>
   intro acc i r j h ha;unfold methodsLoop at h;split at h
   ·obtain⟨e,k,h1,h⟩:=bindP_inv h;refine ih _ _ _ _ h fun x hx=>?_
    rcases List.mem_append.1 hx with hx | hx
    ·exact ha x hx
    ·simp at hx;subst hx;exact methodP_wf hI h1
   ·cases h;exact ha
theorem classP_wf {i j:Nat}{c:Cl}(h:classP ts i=.ok (c,j)):WfC c:=by
 unfold classP at h;obtain⟨_,k,h1,h⟩:=bindP_inv h;obtain⟨_,k,h2,h⟩:=bindP_inv h;obtain⟨s,k,h3,h⟩:=bindP_inv h;obtain⟨_,k,h4,h⟩:=bindP_inv h;obtain⟨_,k,h5,h⟩:=bindP_inv h;obtain⟨_,k6,h6,h⟩:=bindP_inv h;obtain⟨_,k,h7,h⟩:=bindP_inv h;have hs:s=[]∨isIdent s=true:=by
  unfold superP at h3;split at h3
  ·exact .inr (nameP_wf hI h3)
  ·cases h3;exact .inl rfl
 cases h;exact⟨nameP_wf hI h2,hs,fieldsLoop_wf hI _ _ _ _ _ h5 fun s hs=>(by cases hs),methodsLoop_wf hI _ _ _ _ _ h6 fun s hs=>(by cases hs)⟩
theorem classesLoop_wf:∀ n acc i r j,classesLoop ts n acc i=.ok (r,j)→(∀ f∈acc,WfC f)→∀ f∈r,WfC f:=by
 intro n
 induction n with
 | zero=>intro acc i r j h;cases h
 | succ n ih =>
   intro acc i r j h ha;unfold classesLoop at h;split at h
   ·obtain⟨e,k,h1,h⟩:=bindP_inv h;refine ih _ _ _ _ h fun x hx=>?_
    rcases List.mem_append.1 hx with hx | hx
    ·exact ha x hx
    ·simp at hx;subst hx;exact classP_wf hI h1
   ·cases h;exact ha
end
/-- What parse.Program reads is without faults and within the limits. -/
theorem programR_wf {l:Bytes}{c:List Cl}(h:programR l=.ok c):(∀ x∈c,WfC x)∧sourceLim c=0:=by
 unfold programR readR at h;cases ht:tokensOf l with
 | error y=>rw [ht] at h;cases h
 | ok ts =>
   rw [ht] at h;simp only at h;cases hp:programP ts 0 with
   | error q=>rw [hp] at h;simp only at h;cases h
   | ok y =>
     obtain⟨y,j⟩:=y;rw [hp] at h;simp only at h
     by_cases hk:(tk ts j).kind=5
     ·rw [if_pos hk] at h;simp only at h;split at h
      ·cases h
      ·rename_i h0;cases h;exact⟨classesLoop_wf (tid_of ht) _ _ _ _ _ hp (fun s hs=>(by cases hs)),by simpa using h0⟩
     ·rw [if_neg hk] at h;cases h
end Lx
end
end Go.Proofs.YtmlafcimjhnhhaaGreatDoor
