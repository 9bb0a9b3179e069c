/-
  ref09's faults of fields, methods and classes, walked (printed by genrfault3.py).
-/
import Derived.Test.YtmlafcimjhnhhaaDoorJtRefFaultS
import Derived.Test.YtmlafcimjhnhhaaDoorJtJpAu
import Derived.Test.YtmlafcimjhnhhaaDoorJtJpAn
set_option linter.unusedSectionVars false
set_option linter.unusedSimpArgs false
set_option linter.unnecessarySimpa false
set_option linter.unusedVariables false
namespace Go.Proofs.YtmlafcimjhnhhaaDoor
section
open Lx Go.RowKit
set_option maxHeartbeats 2000000 in
theorem ref_fields (l:List Fld)(a:Option Addr)(n c:Nat)(w:World)(h:IsList Any w 2 IsFld l (.slice a n c))(hB:∀ x∈l,FldB x) :
  Calls Tryd.prog 37 #[.slice a n c] w fun r w'=>r=.returned (.int .i64 (fldsFault l:Int))∧Below w.heap.size w w':=by
 obtain⟨rfl,hm,hat⟩:=h.fldAt;unfold maxLen at hm;have HAT:=Lib.hid hat;have HBX:=Lib.hid hB;clear h hat hB;go_enter Tryd.func37,Tryd.ntmps37;go_wp2_with fail
 go_loopw [3] (fun i wr=>LimRelF fldFault l w i wr) (fun i _=>l.length-(intOf i).toNat)
 case atStart=>exact⟨0,Nat.zero_le _,rfl,fun k hk=>by omega,.refl _ _⟩
 case round =>
  obtain⟨j,hj,rfl,h0,hb⟩:=hrel;have H0:=Lib.hid h0;clear h0
  by_cases hlt:j<l.length
  ·obtain⟨g,off,rfl,hgl,x0,x1⟩:=HAT.out j hlt;rw [← hb.cell (p:=⟨g,_,none⟩) hgl] at x0 x1;have hgw:g<wr.heap.size:=Nat.lt_of_lt_of_le hgl hb.size;obtain⟨f,hf⟩:∃ f,l[j]=f:=⟨_,rfl⟩;have hfb:=HBX.out _ (List.getElem_mem hlt);rw [hf] at x0 x1 hfb;have HF:=Lib.hid hf;have HFB:=Lib.hid hfb;have HB:=Lib.hid hb;have X1:=Lib.hid x1;have hj1:(j:Int)<(l.length:Int):=by omega
   have hj0:(0:Int)≤(j:Int):=by omega
   clear hb hf hfb x1;cases hI:isIdent f.name
   ·have HZ:Hid (fldFault l[j]=5):=by show _=_;rw [HF.out];unfold fldFault;rw [if_pos hI]
    rw [← strOf_data f.name] at hI;go_wp2_with fail;refine (ref_Ident _ _ (by rw [strOf_size];exact HFB.out.1)).mono ?_;rintro e w2 ⟨rfl,hb2⟩;have HB2:=Lib.hid (HB.out.trans (hb2.mono HB.out.size));clear hb2;go_wp2_with fail;go_ret;refine⟨?_,HB2.out⟩
    show _=Ending.returned (.int .i64 ((firstLim fldFault l:Nat):Int))
    rw [firstLim_take _ _ j hlt H0.out,HZ.out];rfl
   have HI:=Lib.hid hI;rw [← strOf_data f.name] at hI;go_wp2_with fail;refine (ref_Ident _ _ (by rw [strOf_size];exact HFB.out.1)).mono ?_;rintro e w2 ⟨rfl,hb2⟩;have HB2:=Lib.hid (HB.out.trans (hb2.mono HB.out.size));have z1:w2.cell? ⟨g,off+j*2+1,none⟩=some (.string (strOf f.typ)):=(hb2.cell (p:=⟨g,off+j*2+1,none⟩) hgw).trans X1.out;have hgw2:g<w2.heap.size:=Nat.lt_of_lt_of_le hgw hb2.size;clear hb2 x0;cases hT:isType f.typ
   ·have HZ:Hid (fldFault l[j]=8):=by show _=_;rw [HF.out];unfold fldFault;rw [if_neg (by rw [HI.out];simp),if_pos hT]
    go_wp2_with fail;refine (ref_typ _ _ HFB.out.2).mono ?_;rintro e w3 ⟨rfl,hb3⟩;have HB3:=Lib.hid (HB2.out.trans (hb3.mono HB2.out.size));clear hb3;go_wp2_with fail;go_ret;refine⟨?_,HB3.out⟩
    show _=Ending.returned (.int .i64 ((firstLim fldFault l:Nat):Int))
    rw [firstLim_take _ _ j hlt H0.out,HZ.out];rfl
   have HZ:Hid (fldFault l[j]=0):=by show _=_;rw [HF.out];unfold fldFault;rw [if_neg (by rw [HI.out];simp),if_neg (by rw [hT];simp)]
   go_wp2_with fail;refine (ref_typ _ _ HFB.out.2).mono ?_;rintro e w3 ⟨rfl,hb3⟩;have HB3:=Lib.hid (HB2.out.trans (hb3.mono HB2.out.size));clear hb3 z1;go_wp2_with fail
   go_roundw
   case rel =>
    refine⟨j+1,by omega,by go_num,fun k hk=>?_,HB3.out⟩
    by_cases hkj:k<j
    ·exact H0.out k hkj
    ·obtain rfl:k=j:=by omega
     exact HZ.out
   case measure=>simp [intOf];omega
  ·have HB:=Lib.hid hb;clear hb;go_wp2_with fail;go_ret;refine⟨?_,HB.out⟩
   show _=Ending.returned (.int .i64 ((firstLim fldFault l:Nat):Int))
   rw [firstLim_zero _ _ fun i hi=>H0.out i (by omega)];rfl
set_option maxHeartbeats 2000000 in
theorem ref_method (d:Nat)(e:Me)(nm:ByteArray)(sb:Bool)(a1:Option Addr)(n1 c1:Nat)(rs:ByteArray)(a2:Option Addr)(n2 c2:Nat)(w:World)(h:IsMe Any w d e [.string nm,.bool sb,.slice a1 n1 c1,.string rs,.slice a2 n2 c2])(hB:MethB d e) :
  Calls Tryd.prog 29 #[.agg #[.string nm,.bool sb,.slice a1 n1 c1,.string rs,.slice a2 n2 c2]] w fun r w'=>r=.returned (.int .i64 (meFault e:Int))∧Below w.heap.size w w':=by
 obtain⟨nn,rr,ps,bd,rfl,rfl,rfl,hl1,hl2⟩:=h.flds;obtain rfl:=hl1.len.1;obtain rfl:=hl2.len.1;obtain⟨hnn,hrr,hps,hbd⟩:=hB;have H1:Hid (∀ x,Below w.heap.size w x→IsList Any x 2 IsFld ps (.slice a1 ps.length c1)):=fun x hx=>hl1.kept (kept_any hx) (by omega) fun _ _ _ h=>h
 have H2:Hid (∀ x,Below w.heap.size w x→IsList Any x 6 (IsSt Any x d) bd (.slice a2 bd.length c2)):=fun x hx=>hl2.kept (kept_any hx) (by omega) fun _ _ _=>IsSt.kept (kept_any hx) _ _ _
 have Bnn:Hid (nn.length≤maxLen):=hnn;have Brr:Hid (rr.length≤maxLen):=hrr;have BP:Hid (∀ x∈ps,FldB x):=hps;have BB:Hid (∀ x∈bd,StB d x):=hbd;clear h hl1 hl2 hnn hrr hps hbd;cases hI:isIdent nn
 ·have HR:Hid (meFault ⟨nn,sb,ps,rr,bd⟩=5):=by show _=_;unfold meFault;rw [if_pos hI]
  rw [← strOf_data nn] at hI;go_enter Tryd.func29,Tryd.ntmps29;go_wp2_with fail;refine (ref_Ident _ _ (by rw [strOf_size];exact Bnn.out)).mono ?_;rintro e w2 ⟨rfl,hb2⟩;have HB2:=Lib.hid (((Below.refl _ _).alloc (Nat.le_refl _) _).trans (hb2.mono (by simp)));have hs2:w.heap.size<w2.heap.size:=by have:=hb2.size;simp at this;omega
  clear hb2;go_wp2_with fail;go_ret;exact⟨by rw [HR.out];rfl,HB2.out⟩
 have HI:Hid (¬ (isIdent nn=false)):=by show ¬ _;rw [hI];simp
 rw [← strOf_data nn] at hI;go_enter Tryd.func29,Tryd.ntmps29;go_wp2_with fail;refine (ref_Ident _ _ (by rw [strOf_size];exact Bnn.out)).mono ?_;rintro e w2 ⟨rfl,hb2⟩;have HB2:=Lib.hid (((Below.refl _ _).alloc (Nat.le_refl _) _).trans (hb2.mono (by simp)));have hs2:w.heap.size<w2.heap.size:=by have:=hb2.size;simp at this;omega
 have u22:w2.cell? ⟨w.heap.size,2,none⟩=some (.slice a1 ps.length c1):=(hb2.cell (p:=⟨w.heap.size,2,none⟩) (by simp)).trans (by simp [go_sem]);have u23:w2.cell? ⟨w.heap.size,3,none⟩=some (.string (strOf rr)):=(hb2.cell (p:=⟨w.heap.size,3,none⟩) (by simp)).trans (by simp [go_sem]);have u24:w2.cell? ⟨w.heap.size,4,none⟩=some (.slice a2 bd.length c2):=(hb2.cell (p:=⟨w.heap.size,4,none⟩) (by simp)).trans (by simp [go_sem]);clear hb2;go_wp2_with fail;refine (ref_fields _ _ _ _ _ (H1.out _ HB2.out) BP.out).mono ?_;rintro e w3 ⟨rfl,hb2⟩;have HB3:=Lib.hid (HB2.out.trans (hb2.mono HB2.out.size));have hs3:w.heap.size<w3.heap.size:=Nat.lt_of_lt_of_le hs2 hb2.size;have u33:w3.cell? ⟨w.heap.size,3,none⟩=some (.string (strOf rr)):=(hb2.cell (p:=⟨w.heap.size,3,none⟩) hs2).trans u23;have u34:w3.cell? ⟨w.heap.size,4,none⟩=some (.slice a2 bd.length c2):=(hb2.cell (p:=⟨w.heap.size,4,none⟩) hs2).trans u24;clear hb2 u22 u23 u24
 by_cases hz:fldsFault ps=0
 rotate_left
 ·have hz1:(((fldsFault ps:Nat):Int) != 0)=true:=by rw [bne,beq_eq_false_iff_ne.2 (by omega)];rfl
  have HR:Hid (meFault ⟨nn,sb,ps,rr,bd⟩=fldsFault ps):=by show _=_;unfold meFault;rw [if_neg HI.out,if_pos hz]
  clear hz;go_wp2_with fail;go_ret;exact⟨by rw [HR.out];rfl,HB3.out⟩
 have hz1:(((fldsFault ps:Nat):Int) != 0)=false:=by rw [hz];rfl
 have HZ:Hid (¬ (fldsFault ps≠0)):=by show ¬ _;omega
 clear hz
 by_cases hr:rr=[]
 ·have er:=isEmpty_zero (strOf rr) (by rw [strOf_size,hr];rfl);have HR:Hid (meFault ⟨nn,sb,ps,rr,bd⟩=stsFault bd):=by show _=_;unfold meFault;rw [if_neg HI.out,if_neg HZ.out,if_neg (fun h=>h.1 hr)]
  clear hr;go_wp2_with fail;refine (ref_stmts d (Lib.hid (ref_stmt d)) _ _ _ _ _ (H2.out _ HB3.out) BB.out).mono ?_;rintro e w4 ⟨rfl,hb2⟩;have HB4:=Lib.hid (HB3.out.trans (hb2.mono HB3.out.size));have hs4:w.heap.size<w4.heap.size:=Nat.lt_of_lt_of_le hs3 hb2.size;clear hb2;go_wp2_with fail;go_ret;exact⟨by rw [HR.out];rfl,HB4.out⟩
 have er:=isEmpty_pos (strOf rr) (by rw [strOf_size];exact List.length_pos_iff.2 hr);cases hT:isType rr
 ·have HR:Hid (meFault ⟨nn,sb,ps,rr,bd⟩=8):=by show _=_;unfold meFault;rw [if_neg HI.out,if_neg HZ.out,if_pos ⟨hr,hT⟩]
  clear hr;go_wp2_with fail;refine (ref_typ _ _ Brr.out).mono ?_;rintro e w4 ⟨rfl,hb2⟩;have HB4:=Lib.hid (HB3.out.trans (hb2.mono HB3.out.size));have hs4:w.heap.size<w4.heap.size:=Nat.lt_of_lt_of_le hs3 hb2.size;clear hb2;go_wp2_with fail;go_ret;exact⟨by rw [HR.out];rfl,HB4.out⟩
 have HR:Hid (meFault ⟨nn,sb,ps,rr,bd⟩=stsFault bd):=by show _=_;unfold meFault;rw [if_neg HI.out,if_neg HZ.out,if_neg (fun h=>by rw [hT] at h;exact absurd h.2 (by simp))]
 clear hr;go_wp2_with fail;refine (ref_typ _ _ Brr.out).mono ?_;rintro e w4 ⟨rfl,hb2⟩;have HB4:=Lib.hid (HB3.out.trans (hb2.mono HB3.out.size));have hs4:w.heap.size<w4.heap.size:=Nat.lt_of_lt_of_le hs3 hb2.size;have u44:w4.cell? ⟨w.heap.size,4,none⟩=some (.slice a2 bd.length c2):=(hb2.cell (p:=⟨w.heap.size,4,none⟩) hs3).trans u34;clear hb2 u33 u34;go_wp2_with fail;refine (ref_stmts d (Lib.hid (ref_stmt d)) _ _ _ _ _ (H2.out _ HB4.out) BB.out).mono ?_;rintro e w5 ⟨rfl,hb2⟩;have HB5:=Lib.hid (HB4.out.trans (hb2.mono HB4.out.size));have hs5:w.heap.size<w5.heap.size:=Nat.lt_of_lt_of_le hs4 hb2.size;clear hb2;go_wp2_with fail;go_ret;exact⟨by rw [HR.out];rfl,HB5.out⟩
/-- The value that the loop over a class's methods carries. -/
def clVal (e0:Nat)(ms:List Me):Nat:=if e0≠0 then e0 else firstLim meFault ms
theorem firstLim_snoc {α:Type}(f:α→Nat)(l:List α)(x:α):firstLim f (l++[x])=if firstLim f l≠0 then firstLim f l else f x:=by
 induction l with
 | nil=>simp only [List.nil_append,firstLim];by_cases h:f x=0 <;> simp [h]
 | cons y l ih=>simp only [List.cons_append,firstLim,ih];split <;> simp_all
theorem clVal_nil (e0:Nat):clVal e0 []=e0:=by unfold clVal;by_cases h:e0=0 <;> simp [h,firstLim]
theorem clVal_snoc (e0:Nat)(ms:List Me)(m:Me):clVal e0 (ms++[m])=if clVal e0 ms≠0 then clVal e0 ms else meFault m:=by
 unfold clVal
 by_cases h:e0=0
 ·simp only [h,ne_eq,not_true_eq_false,if_false,firstLim_snoc]
 ·simp [h]
theorem firstLim_app {α:Type}(f:α→Nat)(l l2:List α)(h:firstLim f l≠0):firstLim f (l++l2)=firstLim f l:=by
 induction l with
 | nil=>exact absurd rfl h
 | cons y l ih =>
   simp only [List.cons_append,firstLim] at h ⊢
   by_cases hy:f y=0
   ·simp only [hy,ne_eq,not_true_eq_false,if_false] at h ⊢;exact ih h
   ·simp [hy]
theorem clVal_append {e0:Nat}{l l2:List Me}(h:clVal e0 l≠0):clVal e0 (l++l2)=clVal e0 l:=by
 unfold clVal at h ⊢
 by_cases h0:e0=0
 ·simp only [h0,ne_eq,not_true_eq_false,if_false] at h ⊢;exact firstLim_app _ _ _ h
 ·simp [h0]
theorem clFault_val {nn ss:Bytes}{fs:List Fld}{ms:List Me}(h:¬ (isIdent nn=false∨(ss≠[]∧isIdent ss=false))):clFault ⟨nn,ss,fs,ms⟩=clVal (fldsFault fs) ms:=by
 unfold clFault clVal;rw [if_neg h]
def ClRel (e0:Nat)(ms:List Me)(v0:Value)(w:World)(v i:Value)(wr:World):Prop:=∃ n:Nat,n≤ms.length∧i=.int .i64 (n:Int)∧v=.int .i64 (clVal e0 (ms.take n):Int)∧Below w.heap.size w wr∧w.heap.size<wr.heap.size∧wr.cell? ⟨w.heap.size,3,none⟩=some v0
set_option maxHeartbeats 4000000 in
theorem ref_class (d:Nat)(e:Cl)(nm sp:ByteArray)(a1:Option Addr)(n1 c1:Nat)(a2:Option Addr)(n2 c2:Nat)(w:World)(h:IsCl Any w d e [.string nm,.string sp,.slice a1 n1 c1,.slice a2 n2 c2])(hB:ClB d e) :
  Calls Tryd.prog 19 #[.agg #[.string nm,.string sp,.slice a1 n1 c1,.slice a2 n2 c2]] w fun r w'=>r=.returned (.int .i64 (clFault e:Int))∧Below w.heap.size w w':=by
 obtain⟨nn,ss,fs,ms,rfl,rfl,rfl,hl1,hl2⟩:=h.flds;obtain rfl:=hl1.len.1;obtain⟨rfl,hml,hat⟩:=hl2.meAt;unfold maxLen at hml;obtain⟨hnn,hss,hfs,hms⟩:=hB;have HAT:=Lib.hid hat;have H1:Hid (∀ x,Below w.heap.size w x→IsList Any x 2 IsFld fs (.slice a1 fs.length c1)):=fun x hx=>hl1.kept (kept_any hx) (by omega) fun _ _ _ h=>h
 have Bnn:Hid (nn.length≤maxLen):=hnn;have Bss:Hid (ss.length≤maxLen):=hss;have BP:Hid (∀ x∈fs,FldB x):=hfs;have BM:Hid (∀ x∈ms,MethB d x):=hms;clear h hl1 hl2 hnn hss hfs hms hat;cases hI:isIdent nn
 ·have HR:Hid (clFault ⟨nn,ss,fs,ms⟩=5):=by show _=_;unfold clFault;rw [if_pos (.inl hI)]
  rw [← strOf_data nn] at hI;go_enter Tryd.func19,Tryd.ntmps19;go_wp2_with fail;refine (ref_Ident _ _ (by rw [strOf_size];exact Bnn.out)).mono ?_;rintro e w2 ⟨rfl,hb2⟩;have HB2:=Lib.hid (((Below.refl _ _).alloc (Nat.le_refl _) _).trans (hb2.mono (by simp)));have hs2:w.heap.size<w2.heap.size:=by have:=hb2.size;simp at this;omega
  clear hb2;go_wp2_with fail;go_ret;exact⟨by rw [HR.out];rfl,HB2.out⟩
 have HN:Hid (¬ (isIdent nn=false)):=by show ¬ _;rw [hI];simp
 rw [← strOf_data nn] at hI
 by_cases hs:ss=[]
 ·have es:=isEmpty_zero (strOf ss) (by rw [strOf_size,hs];rfl);have HI:Hid (¬ (isIdent nn=false∨(ss≠[]∧isIdent ss=false))):=by show ¬ _;rintro (h | h);exact HN.out h;exact h.1 hs
  clear hs;go_enter Tryd.func19,Tryd.ntmps19;go_wp2_with fail;refine (ref_Ident _ _ (by rw [strOf_size];exact Bnn.out)).mono ?_;rintro e w2 ⟨rfl,hb2⟩;have HB2:=Lib.hid (((Below.refl _ _).alloc (Nat.le_refl _) _).trans (hb2.mono (by simp)));have hs2:w.heap.size<w2.heap.size:=by have:=hb2.size;simp at this;omega
  have u21:w2.cell? ⟨w.heap.size,1,none⟩=some (.string (strOf ss)):=(hb2.cell (p:=⟨w.heap.size,1,none⟩) (by simp)).trans (by simp [go_sem]);have u22:w2.cell? ⟨w.heap.size,2,none⟩=some (.slice a1 fs.length c1):=(hb2.cell (p:=⟨w.heap.size,2,none⟩) (by simp)).trans (by simp [go_sem]);have u23:w2.cell? ⟨w.heap.size,3,none⟩=some (.slice a2 ms.length c2):=(hb2.cell (p:=⟨w.heap.size,3,none⟩) (by simp)).trans (by simp [go_sem]);clear hb2;go_wp2_with fail;refine (ref_fields _ _ _ _ _ (H1.out _ HB2.out) BP.out).mono ?_;rintro e w3 ⟨rfl,hb2⟩;have HB3:=Lib.hid (HB2.out.trans (hb2.mono HB2.out.size));have hs3:w.heap.size<w3.heap.size:=Nat.lt_of_lt_of_le hs2 hb2.size;have u33:w3.cell? ⟨w.heap.size,3,none⟩=some (.slice a2 ms.length c2):=(hb2.cell (p:=⟨w.heap.size,3,none⟩) hs2).trans u23;clear hb2 u21 u22 u23;have B3:=Lib.hid u33;clear u33;go_wp2_with fail
  go_loopw [3,4] (fun v i wr=>ClRel (fldsFault fs) ms (.slice a2 ms.length c2) w v i wr) (fun _ i _=>ms.length-(intOf i).toNat)
  case atStart=>exact⟨0,Nat.zero_le _,rfl,by rw [List.take_zero,clVal_nil],HB3.out,hs3,B3.out⟩
  case round =>
   obtain⟨j,hj,rfl,rfl,hb,hsz,bx⟩:=hrel;have BX:=Lib.hid bx;generalize hv:clVal (fldsFault fs) (ms.take j)=v at *
   by_cases hlt:j<ms.length
   ·by_cases h0:v=0
    ·subst h0;obtain⟨g,off,nm1,sb1,a3,n3,c3,rs1,a4,n4,c4,rfl,hgl,⟨x0,x1,x2,x3,x4⟩,hx⟩:=HAT.out j hlt;rw [← hb.cell (p:=⟨g,_,none⟩) hgl] at x0 x1 x2 x3 x4;have hgw:g<wr.heap.size:=Nat.lt_of_lt_of_le hgl hb.size;have HX:=Lib.hid (IsMe.kept (kept_any hb) hx);have HB:=Lib.hid hb;have HV:=Lib.hid hv;have hj1:(j:Int)<(ms.length:Int):=by omega
     have hj0:(0:Int)≤(j:Int):=by omega
     clear hb hx hv;go_wp2_with fail;refine (ref_method d _ _ _ _ _ _ _ _ _ _ _ HX.out (BM.out _ (List.getElem_mem hlt))).mono ?_;rintro e w9 ⟨rfl,hb9⟩;have HB9:=Lib.hid hb9;clear hb9 x0 x1 x2 x3 x4 bx;go_wp2_with fail
     go_roundw
     case rel =>
      refine⟨j+1,by omega,by go_num,?_,HB.out.trans (HB9.out.mono HB.out.size),Nat.lt_of_lt_of_le hsz HB9.out.size,(HB9.out.cell (p:=⟨w.heap.size,3,none⟩) hsz).trans BX.out⟩;rw [List.take_succ_eq_append_getElem hlt,clVal_snoc,HV.out,if_neg (by simp)]
     case measure=>simp [intOf];omega
    ·have hz0:((v:Int) == 0)=false:=by rw [beq_eq_false_iff_ne];omega
     have HE:Hid (clFault ⟨nn,ss,fs,ms⟩=v):=by show _=_;rw [clFault_val HI.out,← List.take_append_drop j ms,clVal_append (by rw [hv];exact h0),hv]
     have HB:=Lib.hid hb;clear hb hv h0;go_wp2_with fail;go_ret;exact⟨by rw [HE.out];rfl,HB.out⟩
   ·have HE:Hid (clFault ⟨nn,ss,fs,ms⟩=v):=by show _=_;rw [clFault_val HI.out,← hv,List.take_of_length_le (by omega)]
    have HB:=Lib.hid hb;clear hb hv;go_wp2_with fail;go_ret;exact⟨by rw [HE.out];rfl,HB.out⟩
 have es:=isEmpty_pos (strOf ss) (by rw [strOf_size];exact List.length_pos_iff.2 hs);cases hJ:isIdent ss
 ·have HR:Hid (clFault ⟨nn,ss,fs,ms⟩=5):=by show _=_;unfold clFault;rw [if_pos (.inr ⟨hs,hJ⟩)]
  rw [← strOf_data ss] at hJ;clear hs;go_enter Tryd.func19,Tryd.ntmps19;go_wp2_with fail;refine (ref_Ident _ _ (by rw [strOf_size];exact Bnn.out)).mono ?_;rintro e w2 ⟨rfl,hb2⟩;have HB2:=Lib.hid (((Below.refl _ _).alloc (Nat.le_refl _) _).trans (hb2.mono (by simp)));have hs2:w.heap.size<w2.heap.size:=by have:=hb2.size;simp at this;omega
  have u21:w2.cell? ⟨w.heap.size,1,none⟩=some (.string (strOf ss)):=(hb2.cell (p:=⟨w.heap.size,1,none⟩) (by simp)).trans (by simp [go_sem]);have u22:w2.cell? ⟨w.heap.size,2,none⟩=some (.slice a1 fs.length c1):=(hb2.cell (p:=⟨w.heap.size,2,none⟩) (by simp)).trans (by simp [go_sem]);have u23:w2.cell? ⟨w.heap.size,3,none⟩=some (.slice a2 ms.length c2):=(hb2.cell (p:=⟨w.heap.size,3,none⟩) (by simp)).trans (by simp [go_sem]);clear hb2;go_wp2_with fail;refine (ref_Ident _ _ (by rw [strOf_size];exact Bss.out)).mono ?_;rintro e w3 ⟨rfl,hb2⟩;have HB3:=Lib.hid (HB2.out.trans (hb2.mono HB2.out.size));have hs3:w.heap.size<w3.heap.size:=Nat.lt_of_lt_of_le hs2 hb2.size;clear hb2;go_wp2_with fail;go_ret;exact⟨by rw [HR.out];rfl,HB3.out⟩
 have HI:Hid (¬ (isIdent nn=false∨(ss≠[]∧isIdent ss=false))):=by show ¬ _;rintro (h | h);exact HN.out h;rw [hJ] at h;exact absurd h.2 (by simp)
 rw [← strOf_data ss] at hJ;clear hs;go_enter Tryd.func19,Tryd.ntmps19;go_wp2_with fail;refine (ref_Ident _ _ (by rw [strOf_size];exact Bnn.out)).mono ?_;rintro e w2 ⟨rfl,hb2⟩;have HB2:=Lib.hid (((Below.refl _ _).alloc (Nat.le_refl _) _).trans (hb2.mono (by simp)));have hs2:w.heap.size<w2.heap.size:=by have:=hb2.size;simp at this;omega
 have u21:w2.cell? ⟨w.heap.size,1,none⟩=some (.string (strOf ss)):=(hb2.cell (p:=⟨w.heap.size,1,none⟩) (by simp)).trans (by simp [go_sem]);have u22:w2.cell? ⟨w.heap.size,2,none⟩=some (.slice a1 fs.length c1):=(hb2.cell (p:=⟨w.heap.size,2,none⟩) (by simp)).trans (by simp [go_sem]);have u23:w2.cell? ⟨w.heap.size,3,none⟩=some (.slice a2 ms.length c2):=(hb2.cell (p:=⟨w.heap.size,3,none⟩) (by simp)).trans (by simp [go_sem]);clear hb2;go_wp2_with fail;refine (ref_Ident _ _ (by rw [strOf_size];exact Bss.out)).mono ?_;rintro e w3 ⟨rfl,hb2⟩;have HB3:=Lib.hid (HB2.out.trans (hb2.mono HB2.out.size));have hs3:w.heap.size<w3.heap.size:=Nat.lt_of_lt_of_le hs2 hb2.size;have u32:w3.cell? ⟨w.heap.size,2,none⟩=some (.slice a1 fs.length c1):=(hb2.cell (p:=⟨w.heap.size,2,none⟩) hs2).trans u22;have u33:w3.cell? ⟨w.heap.size,3,none⟩=some (.slice a2 ms.length c2):=(hb2.cell (p:=⟨w.heap.size,3,none⟩) hs2).trans u23;clear hb2 u21 u22 u23;go_wp2_with fail;refine (ref_fields _ _ _ _ _ (H1.out _ HB3.out) BP.out).mono ?_;rintro e w4 ⟨rfl,hb2⟩;have HB4:=Lib.hid (HB3.out.trans (hb2.mono HB3.out.size));have hs4:w.heap.size<w4.heap.size:=Nat.lt_of_lt_of_le hs3 hb2.size;have u43:w4.cell? ⟨w.heap.size,3,none⟩=some (.slice a2 ms.length c2):=(hb2.cell (p:=⟨w.heap.size,3,none⟩) hs3).trans u33;clear hb2 u32 u33;have B3:=Lib.hid u43;clear u43;go_wp2_with fail
 go_loopw [3,4] (fun v i wr=>ClRel (fldsFault fs) ms (.slice a2 ms.length c2) w v i wr) (fun _ i _=>ms.length-(intOf i).toNat)
 case atStart=>exact⟨0,Nat.zero_le _,rfl,by rw [List.take_zero,clVal_nil],HB4.out,hs4,B3.out⟩
 case round =>
  obtain⟨j,hj,rfl,rfl,hb,hsz,bx⟩:=hrel;have BX:=Lib.hid bx;generalize hv:clVal (fldsFault fs) (ms.take j)=v at *
  by_cases hlt:j<ms.length
  ·by_cases h0:v=0
   ·subst h0;obtain⟨g,off,nm1,sb1,a3,n3,c3,rs1,a4,n4,c4,rfl,hgl,⟨x0,x1,x2,x3,x4⟩,hx⟩:=HAT.out j hlt;rw [← hb.cell (p:=⟨g,_,none⟩) hgl] at x0 x1 x2 x3 x4;have hgw:g<wr.heap.size:=Nat.lt_of_lt_of_le hgl hb.size;have HX:=Lib.hid (IsMe.kept (kept_any hb) hx);have HB:=Lib.hid hb;have HV:=Lib.hid hv;have hj1:(j:Int)<(ms.length:Int):=by omega
    have hj0:(0:Int)≤(j:Int):=by omega
    clear hb hx hv;go_wp2_with fail;refine (ref_method d _ _ _ _ _ _ _ _ _ _ _ HX.out (BM.out _ (List.getElem_mem hlt))).mono ?_;rintro e w9 ⟨rfl,hb9⟩;have HB9:=Lib.hid hb9;clear hb9 x0 x1 x2 x3 x4 bx;go_wp2_with fail
    go_roundw
    case rel =>
     refine⟨j+1,by omega,by go_num,?_,HB.out.trans (HB9.out.mono HB.out.size),Nat.lt_of_lt_of_le hsz HB9.out.size,(HB9.out.cell (p:=⟨w.heap.size,3,none⟩) hsz).trans BX.out⟩;rw [List.take_succ_eq_append_getElem hlt,clVal_snoc,HV.out,if_neg (by simp)]
    case measure=>simp [intOf];omega
   ·have hz0:((v:Int) == 0)=false:=by rw [beq_eq_false_iff_ne];omega
    have HE:Hid (clFault ⟨nn,ss,fs,ms⟩=v):=by show _=_;rw [clFault_val HI.out,← List.take_append_drop j ms,clVal_append (by rw [hv];exact h0),hv]
    have HB:=Lib.hid hb;clear hb hv h0;go_wp2_with fail;go_ret;exact⟨by rw [HE.out];rfl,HB.out⟩
  ·have HE:Hid (clFault ⟨nn,ss,fs,ms⟩=v):=by show _=_;rw [clFault_val HI.out,← hv,List.take_of_length_le (by omega)]
   have HB:=Lib.hid hb;clear hb hv;go_wp2_with fail;go_ret;exact⟨by rw [HE.out];rfl,HB.out⟩
end
set_option linter.unusedSimpArgs false
set_option linter.unusedVariables false
section
open Lx
namespace Lx
def WfT (t:Bytes):Prop:=t=[105,110,116]∨isIdent t=true
inductive WfE:Ex→Prop
 | int (n:Int) (h1:-9223372036854775808<n) (h2:n<9223372036854775808):WfE (.mk 1 n [] [] [])
 | null:WfE (.mk 2 0 [] [] [])
 | var (x:Bytes) (hx:isIdent x=true):WfE (.mk 3 0 [] x [])
 | this:WfE (.mk 4 0 [] [] [])
 | input:WfE (.mk 5 0 [] [] [])
 | bin (op:Int) (h:1≤op∧op≤5) {a b:Ex} (ha:WfE a) (hb:WfE b):WfE (.mk 6 op [] [] [a,b])
 | new (x:Bytes) (hx:isIdent x=true):WfE (.mk 7 0 [] x [])
 | field (m:Bytes) (hm:isIdent m=true) {k:Ex} (hk:WfE k):WfE (.mk 8 0 [] m [k])
 | call (m:Bytes) (hm:isIdent m=true) {k:Ex} {es:List Ex} (hk:WfE k) (he:∀ e∈es,WfE e):WfE (.mk 9 0 [] m (k::es))
 | static (o m:Bytes) (ho:isIdent o=true) (hm:isIdent m=true) {es:List Ex} (he:∀ e∈es,WfE e):WfE (.mk 10 0 o m es)
inductive WfS:St→Prop
 | var0 (x t:Bytes) (hx:isIdent x=true) (ht:WfT t):WfS (.mk 1 x t [] [] [])
 | var1 (x t:Bytes) (hx:isIdent x=true) (ht:WfT t) {e:Ex} (he:WfE e):WfS (.mk 1 x t [e] [] [])
 | assign (x:Bytes) (hx:isIdent x=true) {e:Ex} (he:WfE e):WfS (.mk 2 x [] [e] [] [])
 | store (m:Bytes) (hm:isIdent m=true) {k e:Ex} (hk:WfE k) (he:WfE e):WfS (.mk 3 m [] [k,e] [] [])
 | if {e:Ex} (he:WfE e) {b c:List St} (hb:∀ s∈b,WfS s) (hc:∀ s∈c,WfS s):WfS (.mk 4 [] [] [e] b c)
 | while {e:Ex} (he:WfE e) {b:List St} (hb:∀ s∈b,WfS s):WfS (.mk 5 [] [] [e] b [])
 | try (x t:Bytes) (hx:isIdent x=true) (ht:WfT t) {b c:List St} (hb:∀ s∈b,WfS s) (hc:∀ s∈c,WfS s):WfS (.mk 6 x t [] b c)
 | throw {e:Ex} (he:WfE e):WfS (.mk 7 [] [] [e] [] [])
 | return0:WfS (.mk 8 [] [] [] [] [])
 | return1 {e:Ex} (he:WfE e):WfS (.mk 8 [] [] [e] [] [])
 | call {e:Ex} (he:WfE e) (hk:e.kind=9∨e.kind=10):WfS (.mk 9 [] [] [e] [] [])
def WfF (f:Fld):Prop:=isIdent f.name=true∧WfT f.typ
structure WfM (m:Me):Prop where
 name:isIdent m.name=true
 params:∀ f∈m.params,WfF f
 result:m.result=[]∨WfT m.result
 body:∀ s∈m.body,WfS s
structure WfC (c:Cl):Prop where
 name:isIdent c.name=true
 super:c.super=[]∨isIdent c.super=true
 fields:∀ f∈c.fields,WfF f
 methods:∀ m∈c.methods,WfM m
/-- Tokens as the lexer gives them: identifiers, numbers. -/
def TId (ts:List Tok):Prop:=∀ i,((tk ts i).kind=1→isIdent (tk ts i).text=true)∧((tk ts i).kind=3→(tk ts i).n<9223372036854775808)
section
variable {ts:List Tok} (hI:TId ts)
include hI
def Wfd (E:Nat→PR Ex):Prop:=∀ i e j,E i=.ok (e,j)→WfE e
/-- What is known of a post by its shape. -/
def WfO (x:Ex×Nat):Prop:=WfE x.1∧(x.2=1→isIdent x.1.name=true)∧(x.2=2→∃ m k,x.1=.mk 8 0 [] m [k]∧isIdent m=true∧WfE k)∧(x.2=3→x.1.kind=9∨x.1.kind=10)
omit hI in
theorem WfO.of0 {e:Ex}(h:WfE e):WfO (e,0):=⟨h,fun h=>(by cases h),fun h=>(by cases h),fun h=>(by cases h)⟩
section
variable {E:Nat→PR Ex} (hE:Wfd E)
include hE
end
end
end Lx
end
end Go.Proofs.YtmlafcimjhnhhaaDoor
