/-
  FormatLines, walked.
-/
import Derived.Test.YtmlafcimjhnhhaaDoorJlJpBh
import Derived.Test.YtmlafcimjhnhhaaDoorJlFmtPos
import Derived.Test.YtmlafcimjhnhhaaDoorJlJpAs
import Derived.Test.YtmlafcimjhnhhaaDoorJlJpAo
import Derived.Test.YtmlafcimjhnhhaaDoorJlJpAx
import Derived.Deep.QuietTactic
import Derived.BigQuiet
import Derived.IntWalk
set_option linter.unusedSectionVars false
set_option linter.unusedSimpArgs false
set_option linter.unnecessarySimpa false
set_option linter.unusedVariables false
set_option linter.unusedVariables false
namespace Go.Proofs.YtmlafcimjhnhhaaDoor
open Lx Ax Go.RowKit
theorem HasToks.cellsL {w:World}{g n cap:Nat}{ts:List Tok}(h:HasToks w (.slice (some ⟨g,0,none⟩) n cap) ts)(i:Nat)(hi:i<ts.length):w.cell? ⟨g,i*4,none⟩=some (.int .i64 (ts[i].kind:Int))∧w.cell? ⟨g,i*4+1,none⟩=some (.int .i64 (ts[i].pos:Int)) ∧
  w.cell? ⟨g,i*4+2,none⟩=some (.string (strOf ts[i].text))∧w.cell? ⟨g,i*4+3,none⟩=some (.int .i64 (ts[i].n:Int)):=by
 rcases h with⟨h,_⟩ | ⟨g',cap',h,_,hc⟩
 ·cases h
 ·cases h;exact hc i hi
/-- Where the loop stands. -/
def LineRel (ts:List Tok)(TS:List Tok)(v:Value)(w:World)(dv iv:Value)(wr:World):Prop :=
 ∃ i:Nat,iv=.int .i64 i∧dv=.int .i64 (dsum (ts.take i))∧i≤ts.length∧HasToks wr v TS∧FLaid wr∧Below w.heap.size w wr
theorem dsum_step {ts:List Tok}{i:Nat}(h:i<ts.length):dsum (ts.take (i+1))=dsum (ts.take i)+dl ts[i].text:=by rw [List.take_succ_eq_append_getElem h,dsum_snoc]
theorem getD_byte (s:ByteArray)(j:Nat)(h:j<s.size):s.data.toList.getD j 0=s[j]:=by rw [List.getD_eq_getElem?_getD,List.getElem?_eq_getElem (by simpa using h)];rfl
theorem u8_10 {c:UInt8}(h:¬ c=10):¬ (c.toNat:Int)=10:=fun e=>h (UInt8.toNat_inj.1 (by show c.toNat=10;omega))
theorem u8_9 {c:UInt8}(h:¬ c=9):¬ (c.toNat:Int)=9:=fun e=>h (UInt8.toNat_inj.1 (by show c.toNat=9;omega))
theorem u8_32 {c:UInt8}(h:¬ c=32):¬ (c.toNat:Int)=32:=fun e=>h (UInt8.toNat_inj.1 (by show c.toNat=32;omega))
theorem tx_cases (tx:Bytes):(tx=[125]∧dl tx=-1)∨(tx=[123]∧dl tx=1∧tx≠[125])∨(tx≠[125]∧tx≠[123]∧dl tx=0):=by
 by_cases h1:tx=[125]
 ·exact .inl ⟨h1,by rw [h1];rfl⟩
 ·by_cases h2:tx=[123]
  ·exact .inr (.inl ⟨h2,by rw [h2];rfl,h1⟩)
  ·exact .inr (.inr ⟨h1,h2,by unfold dl;rw [if_neg h2,if_neg h1]⟩)
theorem placeOf_in {s:ByteArray}{p:Nat}(hs:s.size≤65536)(hp:p≤s.size):placeOf s.data.toList (p:Int)=((place (s.data.toList.take p)).1,(place (s.data.toList.take p)).2,0):=by
 unfold placeOf;rw [len_list,if_neg (by omega),if_neg (by omega),Int.toNat_natCast]
theorem ref_Pos_at {T:ByteArray}{p:Nat}{a:Int}{ln cl:Nat}{w:World}(hs:T.size≤65536)(hp:p≤T.size)(ha:a=(p:Int))(h:placeOf T.data.toList (p:Int)=(ln,cl,0)):Calls Tryd.prog 11 #[.string T,.int .i64 a] w fun e w'=>e=.returned (.tuple #[.int .i64 (ln:Int),.int .i64 (cl:Int),.int .i64 0])∧w'=w:=by
 subst ha;refine (ref_Position T _ w (by unfold maxLen;omega) (by omega)).mono ?_;rintro e w' ⟨rfl,rfl⟩;rw [h];exact⟨rfl,rfl⟩
theorem below_of {w:World}(o:Obj)(n:Nat):Below w.heap.size w ((w.alloc o).drewN n):=below_drewN ((Below.refl _ _).alloc (Nat.le_refl _) _) n
set_option maxHeartbeats 32000000 in
set_option maxRecDepth 100000 in
theorem law_FormatLines (d1:Nat)(x1:List Cl)(a1:Option Addr)(n1 c1:Nat)(w:World)(hl:IsList Any w 4 (IsCl Any w d1) x1 (.slice a1 n1 c1))(hB:∀ c∈x1,ClB d1 c)(hF:FLaid w):Calls Tryd.prog 4 #[.agg #[.slice a1 n1 c1]] w fun e w'=>e=.returned (.bool true)∧Below w.heap.size w w':=by
 have HF:=Lib.hid hF;have HB:=Lib.hid hB;have HC:=Lib.hid (progR_cases hB);have HX2:Hid (IsList Any (w.alloc (.cells #[.slice a1 n1 c1] 24)) 4 (IsCl Any (w.alloc (.cells #[.slice a1 n1 c1] 24)) d1) x1 (.slice a1 n1 c1)):=hl.laterC ((Below.refl _ _).alloc (Nat.le_refl _) _);clear hF hB hl;go_enter Tryd.func4,Tryd.ntmps4;go_wp2_with fail;refine (fmt_Program d1 x1 _ _ _ _ HX2.out HB.out (HF.out.alloc _)).mono ?_;rintro e w4 ⟨rfl,hb4⟩;have HW4:Hid (Below w.heap.size w w4):=((Below.refl _ _).alloc (Nat.le_refl _) _).trans (hb4.mono (by simp));have HF4:Hid (FLaid w4):=(HF.out.alloc _).below hb4 (Nat.le_refl _);clear hb4 HX2;rcases HC.out with⟨k,hk0,e1⟩ | ⟨e1,hw,h0,h65⟩
 ·rw [e1];have hk1:((k:Int) == 0)=false:=beq_eq_false_iff_ne.2 (by omega);have hk3:((k:Int) != 0)=true:=by rw [bne_iff_ne];omega
  have hk2:¬ (k:Int)=0:=by omega
  have hz:(strOf []).size=0:=rfl;have hz2:strOf []=ByteArray.empty:=rfl;clear e1;go_wp2_with fail;refine (law09_awake _ HF4.out).mono ?_;rintro e w9 ⟨rfl,hb9⟩;have HB9:=Lib.hid (HW4.out.trans (hb9.mono HW4.out.size));clear hb9;go_wp2_with fail;go_ret;exact⟨rfl,HB9.out⟩
 ·rw [e1];dsimp only;obtain⟨ts,q,ht1,ht2,ht3,ht4⟩:=lines_ok hw h65;obtain⟨T,hT⟩:∃ T,T=strOf (soText x1):=⟨_,rfl⟩;have hTl:T.data.toList=soText x1:=by rw [hT,strOf_data]
  have hts:T.size≤65536:=by rw [← len_list,hTl];exact h65
  rw [← hTl] at ht1 ht2 ht4;rw [← hT];clear hT hTl e1 h65 hw h0 HC;have HT1:=Lib.hid ht1;have HT2:=Lib.hid ht2;have HT4:=Lib.hid ht4;clear ht1 ht2 ht4
  by_cases h6:6000<T.size
  ·go_wp2_with fail;refine (law09_awake _ HF4.out).mono ?_;rintro e w9 ⟨rfl,hb9⟩;have HB9:=Lib.hid (HW4.out.trans (hb9.mono HW4.out.size));clear hb9;go_wp2_with fail;go_ret;exact⟨rfl,HB9.out⟩
  ·go_wp2_with fail;refine (ref_Tokens T _ (by unfold maxLen;omega)).mono ?_;rintro e w5 ⟨hb5,hr5⟩;rw [HT1.out] at hr5;obtain⟨v,rfl,hown⟩:=hr5;have HB5:Hid (Below w.heap.size w w5):=HW4.out.trans (hb5.mono HW4.out.size);have HF5:Hid (FLaid w5):=HF4.out.below hb5 (Nat.le_refl _);have hht:=HasToks.of_own hown;obtain⟨TS,hTS⟩:∃ TS,TS=ts++[(⟨5,q,[],0⟩:Tok)]:=⟨_,rfl⟩;rw [← hTS] at hht;have hnn:TS.length=ts.length+1:=by rw [hTS];simp
   obtain⟨g,cap,hv⟩:∃ g cap,v=.slice (some ⟨g,0,none⟩) (ts.length+1) cap:=by
    rcases hht.form with⟨rfl,_⟩ | ⟨_,g,cap,h,hm,_⟩
    ·simp at hnn
    ·exact⟨g,cap,by rw [h,hnn]⟩
   subst hv;have HHT:=Lib.hid hht;have HTS:=Lib.hid hTS;have HNN:=Lib.hid hnn;clear hb5 hown hht hTS hnn HW4 HF4;obtain⟨n,hn⟩:∃ n,n=ts.length:=⟨_,rfl⟩;have HN:=Lib.hid hn;rw [← hn] at ht3 ⊢;clear hn;go_wp2_with fail
   go_loopw [8,9] (fun dv iv wr=>LineRel ts TS (.slice (some ⟨g,0,none⟩) (n+1) cap) w dv iv wr) (fun _ iv _=>n-(intOf iv).toNat)
   case atStart=>exact⟨0,rfl,by simp [dsum],Nat.zero_le _,by rw [HN.out];exact HHT.out,HF5.out,HB5.out⟩
   case round =>
    obtain⟨i,rfl,rfl,hi,hht,hF,hbel⟩:=hrel;rw [← HN.out] at hi;have hws:w.heap.size≤wr.heap.size:=hbel.size
    by_cases hlt:i<n
    ·have hlt':i<ts.length:=by rw [← HN.out];exact hlt
     have hlT:i<TS.length:=by rw [HNN.out];omega
     obtain⟨b0,b1,b2,b3⟩:=hht.cellsL i hlT;have het:TS[i]=ts[i]:=by
      have h1:TS[i]?=ts[i]?:=by rw [HTS.out,List.getElem?_append_left hlt']
      rw [List.getElem?_eq_getElem hlT,List.getElem?_eq_getElem hlt'] at h1;exact Option.some.inj h1
     rw [het] at b0 b1 b2 b3;obtain⟨l1,l2,l3⟩:=HT2.out i hlt';have HDS:=Lib.hid (dsum_step hlt');have hd1:=dsum_le (ts.take i);have hd2:(ts.take i).length=i:=by rw [List.length_take];omega
     rw [hd2] at hd1;obtain⟨t,ht⟩:∃ t,t=ts[i]:=⟨_,rfl⟩;rw [← ht] at b0 b1 b2 b3 l1 l2 l3 HDS;obtain⟨kd,pos,tx,nv⟩:=t;obtain⟨D,hD⟩:∃ D,D=dsum (ts.take i):=⟨_,rfl⟩;rw [← hD] at hd1 l2 HDS ⊢;simp only at b0 b1 b2 b3 l1 l2 l3 HDS;rw [len_list] at l1;have HHT2:=Lib.hid hht;have HF2:=Lib.hid hF;have HB2:=Lib.hid hbel;have HPO:=Lib.hid (placeOf_in (s:=T) (p:=pos) hts (Nat.le_of_lt l1));obtain⟨cl,hcl⟩:∃ cl,cl=(place (T.data.toList.take pos)).2:=⟨_,rfl⟩;obtain⟨ln,hln⟩:∃ ln,ln=(place (T.data.toList.take pos)).1:=⟨_,rfl⟩;rw [← hcl] at l2;rw [← hcl,← hln] at HPO;clear hht hF hbel hd2 ht het hD hcl hln;obtain⟨X,hX⟩:∃ X,X=strOf tx:=⟨_,rfl⟩;rw [← hX] at b2;rcases tx_cases tx with htx | htx | htx
     ·obtain⟨hx,hdl⟩:=htx;have z1:X.toList=[125]:=by rw [hX,ByteArray.toList_eq,strOf_data];exact hx
      rw [if_pos hx] at l2;have y1:(X.toList == [125])=true:=by simp [z1]
      have y2:(X.toList == [123])=false:=by simp [z1]
      clear z1;rw [hdl] at HDS;clear hX hdl;rcases pos with _ | _ | p
      ·have hcl:(cl:Int)=D-1+1:=l2 (.inl rfl);clear l2 l3;go_wp2_with fail;refine (ref_Pos_at hts (Nat.le_of_lt l1) (by omega) HPO.out).mono ?_;rintro e w6 ⟨rfl,rfl⟩;go_wp2_with fail
       go_roundw
       case rel=>exact⟨i+1,by go_num,by first | (rw [HDS.out];done) | (rw [HDS.out];go_num),by rw [← HN.out];omega,HHT2.out.below (by first | exact (Below.refl _ _).alloc (Nat.le_refl _) _ | exact below_of _ _),HF2.out.below (by first | exact (Below.refl _ _).alloc (Nat.le_refl _) _ | exact below_of _ _) (Nat.le_refl _),HB2.out.trans (Below.mono (by first | exact (Below.refl _ _).alloc (Nat.le_refl _) _ | exact below_of _ _) hws)⟩
       case measure=>simp [intOf];omega
      ·have l4:0<T.size:=by omega
       have hgd:T.data.toList.getD (0) 0=T[0]:=getD_byte T _ l4;rw [show 0+1-1=0 from rfl,hgd] at l2;clear hgd
       by_cases c10:T[0]=10
       ·have hcl:(cl:Int)=D-1+1:=l2 (.inr (.inl c10));have k1:(T[0].toNat:Int)=10:=by rw [c10];rfl
        clear l2 l3 c10;go_wp2_with fail;refine (ref_Pos_at hts (Nat.le_of_lt l1) (by omega) HPO.out).mono ?_;rintro e w6 ⟨rfl,rfl⟩;go_wp2_with fail
        go_roundw
        case rel=>exact⟨i+1,by go_num,by first | (rw [HDS.out];done) | (rw [HDS.out];go_num),by rw [← HN.out];omega,HHT2.out.below (by first | exact (Below.refl _ _).alloc (Nat.le_refl _) _ | exact below_of _ _),HF2.out.below (by first | exact (Below.refl _ _).alloc (Nat.le_refl _) _ | exact below_of _ _) (Nat.le_refl _),HB2.out.trans (Below.mono (by first | exact (Below.refl _ _).alloc (Nat.le_refl _) _ | exact below_of _ _) hws)⟩
        case measure=>simp [intOf];omega
       by_cases c9:T[0]=9
       ·have hcl:(cl:Int)=D-1+1:=l2 (.inr (.inr c9));have k1:(T[0].toNat:Int)=9:=by rw [c9];rfl
        clear l2 l3 c9 c10;go_wp2_with fail;refine (ref_Pos_at hts (Nat.le_of_lt l1) (by omega) HPO.out).mono ?_;rintro e w6 ⟨rfl,rfl⟩;go_wp2_with fail
        go_roundw
        case rel=>exact⟨i+1,by go_num,by first | (rw [HDS.out];done) | (rw [HDS.out];go_num),by rw [← HN.out];omega,HHT2.out.below (by first | exact (Below.refl _ _).alloc (Nat.le_refl _) _ | exact below_of _ _),HF2.out.below (by first | exact (Below.refl _ _).alloc (Nat.le_refl _) _ | exact below_of _ _) (Nat.le_refl _),HB2.out.trans (Below.mono (by first | exact (Below.refl _ _).alloc (Nat.le_refl _) _ | exact below_of _ _) hws)⟩
        case measure=>simp [intOf];omega
       have k10:=u8_10 c10;have k9:=u8_9 c9;have m10:((T[0].toNat:Int) == 10)=false:=beq_eq_false_iff_ne.2 k10;have m9:((T[0].toNat:Int) == 9)=false:=beq_eq_false_iff_ne.2 k9
       by_cases c32:T[0]=32
       ·have k1:(T[0].toNat:Int)=32:=by rw [c32];rfl
        clear l2 l3 c9 c10 c32 k10 k9;go_wp2_with fail
        go_roundw
        case rel=>exact⟨i+1,by go_num,by first | (rw [HDS.out];done) | (rw [HDS.out];go_num),by rw [← HN.out];omega,HHT2.out.below (by first | exact (Below.refl _ _).alloc (Nat.le_refl _) _ | exact below_of _ _),HF2.out.below (by first | exact (Below.refl _ _).alloc (Nat.le_refl _) _ | exact below_of _ _) (Nat.le_refl _),HB2.out.trans (Below.mono (by first | exact (Below.refl _ _).alloc (Nat.le_refl _) _ | exact below_of _ _) hws)⟩
        case measure=>simp [intOf];omega
       have k32:=u8_32 c32;have m32:((T[0].toNat:Int) == 32)=false:=beq_eq_false_iff_ne.2 k32;clear l2 l3 c9 c10 c32;go_wp2_with fail
       go_roundw
       case rel=>exact⟨i+1,by go_num,by first | (rw [HDS.out];done) | (rw [HDS.out];go_num),by rw [← HN.out];omega,HHT2.out.below (by first | exact (Below.refl _ _).alloc (Nat.le_refl _) _ | exact below_of _ _),HF2.out.below (by first | exact (Below.refl _ _).alloc (Nat.le_refl _) _ | exact below_of _ _) (Nat.le_refl _),HB2.out.trans (Below.mono (by first | exact (Below.refl _ _).alloc (Nat.le_refl _) _ | exact below_of _ _) hws)⟩
       case measure=>simp [intOf];omega
      ·have l4:p+1<T.size:=by omega
       have hgd:T.data.toList.getD (p+1) 0=T[p+1]:=getD_byte T _ l4;have l5:p<T.size:=by omega
       have hge:T.data.toList.getD p 0=T[p]:=getD_byte T _ l5;rw [show p+1+1-1=p+1 from rfl,hgd] at l2;rw [show p+1+1-1=p+1 from rfl,show p+1+1-2=p from rfl,hgd,hge] at l3;clear hgd hge
       by_cases c10:T[p+1]=10
       ·have hcl:(cl:Int)=D-1+1:=l2 (.inr (.inl c10));have k1:(T[p+1].toNat:Int)=10:=by rw [c10];rfl
        clear l2 l3 c10;go_wp2_with fail;refine (ref_Pos_at hts (Nat.le_of_lt l1) (by omega) HPO.out).mono ?_;rintro e w6 ⟨rfl,rfl⟩;go_wp2_with fail
        go_roundw
        case rel=>exact⟨i+1,by go_num,by first | (rw [HDS.out];done) | (rw [HDS.out];go_num),by rw [← HN.out];omega,HHT2.out.below (by first | exact (Below.refl _ _).alloc (Nat.le_refl _) _ | exact below_of _ _),HF2.out.below (by first | exact (Below.refl _ _).alloc (Nat.le_refl _) _ | exact below_of _ _) (Nat.le_refl _),HB2.out.trans (Below.mono (by first | exact (Below.refl _ _).alloc (Nat.le_refl _) _ | exact below_of _ _) hws)⟩
        case measure=>simp [intOf];omega
       by_cases c9:T[p+1]=9
       ·have hcl:(cl:Int)=D-1+1:=l2 (.inr (.inr c9));have k1:(T[p+1].toNat:Int)=9:=by rw [c9];rfl
        clear l2 l3 c9 c10;go_wp2_with fail;refine (ref_Pos_at hts (Nat.le_of_lt l1) (by omega) HPO.out).mono ?_;rintro e w6 ⟨rfl,rfl⟩;go_wp2_with fail
        go_roundw
        case rel=>exact⟨i+1,by go_num,by first | (rw [HDS.out];done) | (rw [HDS.out];go_num),by rw [← HN.out];omega,HHT2.out.below (by first | exact (Below.refl _ _).alloc (Nat.le_refl _) _ | exact below_of _ _),HF2.out.below (by first | exact (Below.refl _ _).alloc (Nat.le_refl _) _ | exact below_of _ _) (Nat.le_refl _),HB2.out.trans (Below.mono (by first | exact (Below.refl _ _).alloc (Nat.le_refl _) _ | exact below_of _ _) hws)⟩
        case measure=>simp [intOf];omega
       have k10:=u8_10 c10;have k9:=u8_9 c9;have m10:((T[p+1].toNat:Int) == 10)=false:=beq_eq_false_iff_ne.2 k10;have m9:((T[p+1].toNat:Int) == 9)=false:=beq_eq_false_iff_ne.2 k9
       by_cases c32:T[p+1]=32
       ·have k1:(T[p+1].toNat:Int)=32:=by rw [c32];rfl
        have k2:=u8_32 (l3 (by omega) c32);clear l2 l3 c9 c10 c32 k10 k9;go_wp2_with fail
        go_roundw
        case rel=>exact⟨i+1,by go_num,by first | (rw [HDS.out];done) | (rw [HDS.out];go_num),by rw [← HN.out];omega,HHT2.out.below (by first | exact (Below.refl _ _).alloc (Nat.le_refl _) _ | exact below_of _ _),HF2.out.below (by first | exact (Below.refl _ _).alloc (Nat.le_refl _) _ | exact below_of _ _) (Nat.le_refl _),HB2.out.trans (Below.mono (by first | exact (Below.refl _ _).alloc (Nat.le_refl _) _ | exact below_of _ _) hws)⟩
        case measure=>simp [intOf];omega
       have k32:=u8_32 c32;have m32:((T[p+1].toNat:Int) == 32)=false:=beq_eq_false_iff_ne.2 k32;clear l2 l3 c9 c10 c32;go_wp2_with fail
       go_roundw
       case rel=>exact⟨i+1,by go_num,by first | (rw [HDS.out];done) | (rw [HDS.out];go_num),by rw [← HN.out];omega,HHT2.out.below (by first | exact (Below.refl _ _).alloc (Nat.le_refl _) _ | exact below_of _ _),HF2.out.below (by first | exact (Below.refl _ _).alloc (Nat.le_refl _) _ | exact below_of _ _) (Nat.le_refl _),HB2.out.trans (Below.mono (by first | exact (Below.refl _ _).alloc (Nat.le_refl _) _ | exact below_of _ _) hws)⟩
       case measure=>simp [intOf];omega
     ·obtain⟨hx,hdl,hx2⟩:=htx;have z1:X.toList=[123]:=by rw [hX,ByteArray.toList_eq,strOf_data];exact hx
      rw [if_neg hx2] at l2;have y1:(X.toList == [125])=false:=by simp [z1]
      have y2:(X.toList == [123])=true:=by simp [z1]
      clear z1;rw [hdl] at HDS;clear hX hdl;rcases pos with _ | _ | p
      ·have hcl:(cl:Int)=D-0+1:=l2 (.inl rfl);clear l2 l3;go_wp2_with fail;refine (ref_Pos_at hts (Nat.le_of_lt l1) (by omega) HPO.out).mono ?_;rintro e w6 ⟨rfl,rfl⟩;go_wp2_with fail
       go_roundw
       case rel=>exact⟨i+1,by go_num,by first | (rw [HDS.out];done) | (rw [HDS.out];go_num),by rw [← HN.out];omega,HHT2.out.below (by first | exact (Below.refl _ _).alloc (Nat.le_refl _) _ | exact below_of _ _),HF2.out.below (by first | exact (Below.refl _ _).alloc (Nat.le_refl _) _ | exact below_of _ _) (Nat.le_refl _),HB2.out.trans (Below.mono (by first | exact (Below.refl _ _).alloc (Nat.le_refl _) _ | exact below_of _ _) hws)⟩
       case measure=>simp [intOf];omega
      ·have l4:0<T.size:=by omega
       have hgd:T.data.toList.getD (0) 0=T[0]:=getD_byte T _ l4;rw [show 0+1-1=0 from rfl,hgd] at l2;clear hgd
       by_cases c10:T[0]=10
       ·have hcl:(cl:Int)=D-0+1:=l2 (.inr (.inl c10));have k1:(T[0].toNat:Int)=10:=by rw [c10];rfl
        clear l2 l3 c10;go_wp2_with fail;refine (ref_Pos_at hts (Nat.le_of_lt l1) (by omega) HPO.out).mono ?_;rintro e w6 ⟨rfl,rfl⟩;go_wp2_with fail
        go_roundw
        case rel=>exact⟨i+1,by go_num,by first | (rw [HDS.out];done) | (rw [HDS.out];go_num),by rw [← HN.out];omega,HHT2.out.below (by first | exact (Below.refl _ _).alloc (Nat.le_refl _) _ | exact below_of _ _),HF2.out.below (by first | exact (Below.refl _ _).alloc (Nat.le_refl _) _ | exact below_of _ _) (Nat.le_refl _),HB2.out.trans (Below.mono (by first | exact (Below.refl _ _).alloc (Nat.le_refl _) _ | exact below_of _ _) hws)⟩
        case measure=>simp [intOf];omega
       by_cases c9:T[0]=9
       ·have hcl:(cl:Int)=D-0+1:=l2 (.inr (.inr c9));have k1:(T[0].toNat:Int)=9:=by rw [c9];rfl
        clear l2 l3 c9 c10;go_wp2_with fail;refine (ref_Pos_at hts (Nat.le_of_lt l1) (by omega) HPO.out).mono ?_;rintro e w6 ⟨rfl,rfl⟩;go_wp2_with fail
        go_roundw
        case rel=>exact⟨i+1,by go_num,by first | (rw [HDS.out];done) | (rw [HDS.out];go_num),by rw [← HN.out];omega,HHT2.out.below (by first | exact (Below.refl _ _).alloc (Nat.le_refl _) _ | exact below_of _ _),HF2.out.below (by first | exact (Below.refl _ _).alloc (Nat.le_refl _) _ | exact below_of _ _) (Nat.le_refl _),HB2.out.trans (Below.mono (by first | exact (Below.refl _ _).alloc (Nat.le_refl _) _ | exact below_of _ _) hws)⟩
        case measure=>simp [intOf];omega
       have k10:=u8_10 c10;have k9:=u8_9 c9;have m10:((T[0].toNat:Int) == 10)=false:=beq_eq_false_iff_ne.2 k10;have m9:((T[0].toNat:Int) == 9)=false:=beq_eq_false_iff_ne.2 k9
       by_cases c32:T[0]=32
       ·have k1:(T[0].toNat:Int)=32:=by rw [c32];rfl
        clear l2 l3 c9 c10 c32 k10 k9;go_wp2_with fail
        go_roundw
        case rel=>exact⟨i+1,by go_num,by first | (rw [HDS.out];done) | (rw [HDS.out];go_num),by rw [← HN.out];omega,HHT2.out.below (by first | exact (Below.refl _ _).alloc (Nat.le_refl _) _ | exact below_of _ _),HF2.out.below (by first | exact (Below.refl _ _).alloc (Nat.le_refl _) _ | exact below_of _ _) (Nat.le_refl _),HB2.out.trans (Below.mono (by first | exact (Below.refl _ _).alloc (Nat.le_refl _) _ | exact below_of _ _) hws)⟩
        case measure=>simp [intOf];omega
       have k32:=u8_32 c32;have m32:((T[0].toNat:Int) == 32)=false:=beq_eq_false_iff_ne.2 k32;clear l2 l3 c9 c10 c32;go_wp2_with fail
       go_roundw
       case rel=>exact⟨i+1,by go_num,by first | (rw [HDS.out];done) | (rw [HDS.out];go_num),by rw [← HN.out];omega,HHT2.out.below (by first | exact (Below.refl _ _).alloc (Nat.le_refl _) _ | exact below_of _ _),HF2.out.below (by first | exact (Below.refl _ _).alloc (Nat.le_refl _) _ | exact below_of _ _) (Nat.le_refl _),HB2.out.trans (Below.mono (by first | exact (Below.refl _ _).alloc (Nat.le_refl _) _ | exact below_of _ _) hws)⟩
       case measure=>simp [intOf];omega
      ·have l4:p+1<T.size:=by omega
       have hgd:T.data.toList.getD (p+1) 0=T[p+1]:=getD_byte T _ l4;have l5:p<T.size:=by omega
       have hge:T.data.toList.getD p 0=T[p]:=getD_byte T _ l5;rw [show p+1+1-1=p+1 from rfl,hgd] at l2;rw [show p+1+1-1=p+1 from rfl,show p+1+1-2=p from rfl,hgd,hge] at l3;clear hgd hge
       by_cases c10:T[p+1]=10
       ·have hcl:(cl:Int)=D-0+1:=l2 (.inr (.inl c10));have k1:(T[p+1].toNat:Int)=10:=by rw [c10];rfl
        clear l2 l3 c10;go_wp2_with fail;refine (ref_Pos_at hts (Nat.le_of_lt l1) (by omega) HPO.out).mono ?_;rintro e w6 ⟨rfl,rfl⟩;go_wp2_with fail
        go_roundw
        case rel=>exact⟨i+1,by go_num,by first | (rw [HDS.out];done) | (rw [HDS.out];go_num),by rw [← HN.out];omega,HHT2.out.below (by first | exact (Below.refl _ _).alloc (Nat.le_refl _) _ | exact below_of _ _),HF2.out.below (by first | exact (Below.refl _ _).alloc (Nat.le_refl _) _ | exact below_of _ _) (Nat.le_refl _),HB2.out.trans (Below.mono (by first | exact (Below.refl _ _).alloc (Nat.le_refl _) _ | exact below_of _ _) hws)⟩
        case measure=>simp [intOf];omega
       by_cases c9:T[p+1]=9
       ·have hcl:(cl:Int)=D-0+1:=l2 (.inr (.inr c9));have k1:(T[p+1].toNat:Int)=9:=by rw [c9];rfl
        clear l2 l3 c9 c10;go_wp2_with fail;refine (ref_Pos_at hts (Nat.le_of_lt l1) (by omega) HPO.out).mono ?_;rintro e w6 ⟨rfl,rfl⟩;go_wp2_with fail
        go_roundw
        case rel=>exact⟨i+1,by go_num,by first | (rw [HDS.out];done) | (rw [HDS.out];go_num),by rw [← HN.out];omega,HHT2.out.below (by first | exact (Below.refl _ _).alloc (Nat.le_refl _) _ | exact below_of _ _),HF2.out.below (by first | exact (Below.refl _ _).alloc (Nat.le_refl _) _ | exact below_of _ _) (Nat.le_refl _),HB2.out.trans (Below.mono (by first | exact (Below.refl _ _).alloc (Nat.le_refl _) _ | exact below_of _ _) hws)⟩
        case measure=>simp [intOf];omega
       have k10:=u8_10 c10;have k9:=u8_9 c9;have m10:((T[p+1].toNat:Int) == 10)=false:=beq_eq_false_iff_ne.2 k10;have m9:((T[p+1].toNat:Int) == 9)=false:=beq_eq_false_iff_ne.2 k9
       by_cases c32:T[p+1]=32
       ·have k1:(T[p+1].toNat:Int)=32:=by rw [c32];rfl
        have k2:=u8_32 (l3 (by omega) c32);clear l2 l3 c9 c10 c32 k10 k9;go_wp2_with fail
        go_roundw
        case rel=>exact⟨i+1,by go_num,by first | (rw [HDS.out];done) | (rw [HDS.out];go_num),by rw [← HN.out];omega,HHT2.out.below (by first | exact (Below.refl _ _).alloc (Nat.le_refl _) _ | exact below_of _ _),HF2.out.below (by first | exact (Below.refl _ _).alloc (Nat.le_refl _) _ | exact below_of _ _) (Nat.le_refl _),HB2.out.trans (Below.mono (by first | exact (Below.refl _ _).alloc (Nat.le_refl _) _ | exact below_of _ _) hws)⟩
        case measure=>simp [intOf];omega
       have k32:=u8_32 c32;have m32:((T[p+1].toNat:Int) == 32)=false:=beq_eq_false_iff_ne.2 k32;clear l2 l3 c9 c10 c32;go_wp2_with fail
       go_roundw
       case rel=>exact⟨i+1,by go_num,by first | (rw [HDS.out];done) | (rw [HDS.out];go_num),by rw [← HN.out];omega,HHT2.out.below (by first | exact (Below.refl _ _).alloc (Nat.le_refl _) _ | exact below_of _ _),HF2.out.below (by first | exact (Below.refl _ _).alloc (Nat.le_refl _) _ | exact below_of _ _) (Nat.le_refl _),HB2.out.trans (Below.mono (by first | exact (Below.refl _ _).alloc (Nat.le_refl _) _ | exact below_of _ _) hws)⟩
       case measure=>simp [intOf];omega
     ·obtain⟨hx,hx2,hdl⟩:=htx;have z1:¬ X.toList=[125]:=by rw [hX,ByteArray.toList_eq,strOf_data];exact hx
      have z2:¬ X.toList=[123]:=by rw [hX,ByteArray.toList_eq,strOf_data];exact hx2
      rw [if_neg hx] at l2;have y1:(X.toList == [125])=false:=by simp [z1]
      have y2:(X.toList == [123])=false:=by simp [z2]
      clear z1 z2;rw [hdl] at HDS;clear hX hdl;rcases pos with _ | _ | p
      ·have hcl:(cl:Int)=D-0+1:=l2 (.inl rfl);clear l2 l3;go_wp2_with fail;refine (ref_Pos_at hts (Nat.le_of_lt l1) (by omega) HPO.out).mono ?_;rintro e w6 ⟨rfl,rfl⟩;go_wp2_with fail
       go_roundw
       case rel=>exact⟨i+1,by go_num,by first | (rw [HDS.out];done) | (rw [HDS.out];go_num),by rw [← HN.out];omega,HHT2.out.below (by first | exact (Below.refl _ _).alloc (Nat.le_refl _) _ | exact below_of _ _),HF2.out.below (by first | exact (Below.refl _ _).alloc (Nat.le_refl _) _ | exact below_of _ _) (Nat.le_refl _),HB2.out.trans (Below.mono (by first | exact (Below.refl _ _).alloc (Nat.le_refl _) _ | exact below_of _ _) hws)⟩
       case measure=>simp [intOf];omega
      ·have l4:0<T.size:=by omega
       have hgd:T.data.toList.getD (0) 0=T[0]:=getD_byte T _ l4;rw [show 0+1-1=0 from rfl,hgd] at l2;clear hgd
       by_cases c10:T[0]=10
       ·have hcl:(cl:Int)=D-0+1:=l2 (.inr (.inl c10));have k1:(T[0].toNat:Int)=10:=by rw [c10];rfl
        clear l2 l3 c10;go_wp2_with fail;refine (ref_Pos_at hts (Nat.le_of_lt l1) (by omega) HPO.out).mono ?_;rintro e w6 ⟨rfl,rfl⟩;go_wp2_with fail
        go_roundw
        case rel=>exact⟨i+1,by go_num,by first | (rw [HDS.out];done) | (rw [HDS.out];go_num),by rw [← HN.out];omega,HHT2.out.below (by first | exact (Below.refl _ _).alloc (Nat.le_refl _) _ | exact below_of _ _),HF2.out.below (by first | exact (Below.refl _ _).alloc (Nat.le_refl _) _ | exact below_of _ _) (Nat.le_refl _),HB2.out.trans (Below.mono (by first | exact (Below.refl _ _).alloc (Nat.le_refl _) _ | exact below_of _ _) hws)⟩
        case measure=>simp [intOf];omega
       by_cases c9:T[0]=9
       ·have hcl:(cl:Int)=D-0+1:=l2 (.inr (.inr c9));have k1:(T[0].toNat:Int)=9:=by rw [c9];rfl
        clear l2 l3 c9 c10;go_wp2_with fail;refine (ref_Pos_at hts (Nat.le_of_lt l1) (by omega) HPO.out).mono ?_;rintro e w6 ⟨rfl,rfl⟩;go_wp2_with fail
        go_roundw
        case rel=>exact⟨i+1,by go_num,by first | (rw [HDS.out];done) | (rw [HDS.out];go_num),by rw [← HN.out];omega,HHT2.out.below (by first | exact (Below.refl _ _).alloc (Nat.le_refl _) _ | exact below_of _ _),HF2.out.below (by first | exact (Below.refl _ _).alloc (Nat.le_refl _) _ | exact below_of _ _) (Nat.le_refl _),HB2.out.trans (Below.mono (by first | exact (Below.refl _ _).alloc (Nat.le_refl _) _ | exact below_of _ _) hws)⟩
        case measure=>simp [intOf];omega
       have k10:=u8_10 c10;have k9:=u8_9 c9;have m10:((T[0].toNat:Int) == 10)=false:=beq_eq_false_iff_ne.2 k10;have m9:((T[0].toNat:Int) == 9)=false:=beq_eq_false_iff_ne.2 k9
       by_cases c32:T[0]=32
       ·have k1:(T[0].toNat:Int)=32:=by rw [c32];rfl
        clear l2 l3 c9 c10 c32 k10 k9;go_wp2_with fail
        go_roundw
        case rel=>exact⟨i+1,by go_num,by first | (rw [HDS.out];done) | (rw [HDS.out];go_num),by rw [← HN.out];omega,HHT2.out.below (by first | exact (Below.refl _ _).alloc (Nat.le_refl _) _ | exact below_of _ _),HF2.out.below (by first | exact (Below.refl _ _).alloc (Nat.le_refl _) _ | exact below_of _ _) (Nat.le_refl _),HB2.out.trans (Below.mono (by first | exact (Below.refl _ _).alloc (Nat.le_refl _) _ | exact below_of _ _) hws)⟩
        case measure=>simp [intOf];omega
       have k32:=u8_32 c32;have m32:((T[0].toNat:Int) == 32)=false:=beq_eq_false_iff_ne.2 k32;clear l2 l3 c9 c10 c32;go_wp2_with fail
       go_roundw
       case rel=>exact⟨i+1,by go_num,by first | (rw [HDS.out];done) | (rw [HDS.out];go_num),by rw [← HN.out];omega,HHT2.out.below (by first | exact (Below.refl _ _).alloc (Nat.le_refl _) _ | exact below_of _ _),HF2.out.below (by first | exact (Below.refl _ _).alloc (Nat.le_refl _) _ | exact below_of _ _) (Nat.le_refl _),HB2.out.trans (Below.mono (by first | exact (Below.refl _ _).alloc (Nat.le_refl _) _ | exact below_of _ _) hws)⟩
       case measure=>simp [intOf];omega
      ·have l4:p+1<T.size:=by omega
       have hgd:T.data.toList.getD (p+1) 0=T[p+1]:=getD_byte T _ l4;have l5:p<T.size:=by omega
       have hge:T.data.toList.getD p 0=T[p]:=getD_byte T _ l5;rw [show p+1+1-1=p+1 from rfl,hgd] at l2;rw [show p+1+1-1=p+1 from rfl,show p+1+1-2=p from rfl,hgd,hge] at l3;clear hgd hge
       by_cases c10:T[p+1]=10
       ·have hcl:(cl:Int)=D-0+1:=l2 (.inr (.inl c10));have k1:(T[p+1].toNat:Int)=10:=by rw [c10];rfl
        clear l2 l3 c10;go_wp2_with fail;refine (ref_Pos_at hts (Nat.le_of_lt l1) (by omega) HPO.out).mono ?_;rintro e w6 ⟨rfl,rfl⟩;go_wp2_with fail
        go_roundw
        case rel=>exact⟨i+1,by go_num,by first | (rw [HDS.out];done) | (rw [HDS.out];go_num),by rw [← HN.out];omega,HHT2.out.below (by first | exact (Below.refl _ _).alloc (Nat.le_refl _) _ | exact below_of _ _),HF2.out.below (by first | exact (Below.refl _ _).alloc (Nat.le_refl _) _ | exact below_of _ _) (Nat.le_refl _),HB2.out.trans (Below.mono (by first | exact (Below.refl _ _).alloc (Nat.le_refl _) _ | exact below_of _ _) hws)⟩
        case measure=>simp [intOf];omega
       by_cases c9:T[p+1]=9
       ·have hcl:(cl:Int)=D-0+1:=l2 (.inr (.inr c9));have k1:(T[p+1].toNat:Int)=9:=by rw [c9];rfl
        clear l2 l3 c9 c10;go_wp2_with fail;refine (ref_Pos_at hts (Nat.le_of_lt l1) (by omega) HPO.out).mono ?_;rintro e w6 ⟨rfl,rfl⟩;go_wp2_with fail
        go_roundw
        case rel=>exact⟨i+1,by go_num,by first | (rw [HDS.out];done) | (rw [HDS.out];go_num),by rw [← HN.out];omega,HHT2.out.below (by first | exact (Below.refl _ _).alloc (Nat.le_refl _) _ | exact below_of _ _),HF2.out.below (by first | exact (Below.refl _ _).alloc (Nat.le_refl _) _ | exact below_of _ _) (Nat.le_refl _),HB2.out.trans (Below.mono (by first | exact (Below.refl _ _).alloc (Nat.le_refl _) _ | exact below_of _ _) hws)⟩
        case measure=>simp [intOf];omega
       have k10:=u8_10 c10;have k9:=u8_9 c9;have m10:((T[p+1].toNat:Int) == 10)=false:=beq_eq_false_iff_ne.2 k10;have m9:((T[p+1].toNat:Int) == 9)=false:=beq_eq_false_iff_ne.2 k9
       by_cases c32:T[p+1]=32
       ·have k1:(T[p+1].toNat:Int)=32:=by rw [c32];rfl
        have k2:=u8_32 (l3 (by omega) c32);clear l2 l3 c9 c10 c32 k10 k9;go_wp2_with fail
        go_roundw
        case rel=>exact⟨i+1,by go_num,by first | (rw [HDS.out];done) | (rw [HDS.out];go_num),by rw [← HN.out];omega,HHT2.out.below (by first | exact (Below.refl _ _).alloc (Nat.le_refl _) _ | exact below_of _ _),HF2.out.below (by first | exact (Below.refl _ _).alloc (Nat.le_refl _) _ | exact below_of _ _) (Nat.le_refl _),HB2.out.trans (Below.mono (by first | exact (Below.refl _ _).alloc (Nat.le_refl _) _ | exact below_of _ _) hws)⟩
        case measure=>simp [intOf];omega
       have k32:=u8_32 c32;have m32:((T[p+1].toNat:Int) == 32)=false:=beq_eq_false_iff_ne.2 k32;clear l2 l3 c9 c10 c32;go_wp2_with fail
       go_roundw
       case rel=>exact⟨i+1,by go_num,by first | (rw [HDS.out];done) | (rw [HDS.out];go_num),by rw [← HN.out];omega,HHT2.out.below (by first | exact (Below.refl _ _).alloc (Nat.le_refl _) _ | exact below_of _ _),HF2.out.below (by first | exact (Below.refl _ _).alloc (Nat.le_refl _) _ | exact below_of _ _) (Nat.le_refl _),HB2.out.trans (Below.mono (by first | exact (Below.refl _ _).alloc (Nat.le_refl _) _ | exact below_of _ _) hws)⟩
       case measure=>simp [intOf];omega
    ·obtain rfl:i=n:=by omega
     have HF2:=Lib.hid hF;have HB2:=Lib.hid hbel;clear hht hF hbel;rcases HT4.out with h4 | ⟨p,h4⟩
     ·obtain rfl:T=ByteArray.empty:=by
       have:T.data=#[]:=by rw [← Array.toArray_toList (xs:=T.data),h4]
       cases T;simp only at this;subst this;rfl
      go_wp2_with fail;refine (law09_awake _ HF2.out).mono ?_;rintro e w9 ⟨rfl,hb9⟩;have HB9:=Lib.hid (HB2.out.trans (hb9.mono hws));clear hb9;go_wp2_with fail;go_ret;exact⟨rfl,HB9.out⟩
     ·obtain⟨m,hm⟩:∃ m,m=p.length:=⟨_,rfl⟩;have hsz:T.size=m+1:=by rw [← len_list,h4,hm];simp
      have hmt:m<T.size:=by omega
      have hb:T[m]=10:=by
       rw [← getD_byte T m hmt,h4,hm,List.getD_eq_getElem?_getD,List.getElem?_append_right (Nat.le_refl _)];simp
      have e1:(T[m].toNat:Int)=10:=by rw [hb];rfl
      have hne:¬ T.toList=[]:=by rw [ByteArray.toList_eq,h4];simp
      clear h4 hb hm;go_wp2_with fail;refine (law09_awake _ HF2.out).mono ?_;rintro e w9 ⟨rfl,hb9⟩;have HB9:=Lib.hid (HB2.out.trans (hb9.mono hws));clear hb9;go_wp2_with fail;go_ret;exact⟨rfl,HB9.out⟩
end Go.Proofs.YtmlafcimjhnhhaaDoor
