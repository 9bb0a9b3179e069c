/-
  The reference's one, walked.
-/
import Derived.Test.YtmlafcimjhnhhaaDoorJlJpAr
import Derived.Test.YtmlafcimjhnhhaaDoorJlJpAo
import Derived.Outline
set_option linter.unusedSectionVars false
set_option linter.unusedSimpArgs false
set_option linter.unnecessarySimpa false
set_option linter.unusedVariables false
namespace Go.Proofs.YtmlafcimjhnhhaaDoor
section
open Lx Go.RowKit
namespace Lx
def markBytes:Bytes:=[123,125,40,41,59,44,46,60,43,45,42,58,61]
def twice (c:UInt8)(t:Bytes):Bool:=(decide (c.toNat=58) || decide (c.toNat=61)) && decide (t.head?=some c)
theorem markLen_cons (c:UInt8)(t:Bytes):markLen (c::t)=if markBytes.contains c then some (if twice c t then 2 else 1) else none:=by
 have hx:∀ x:UInt8,([x]:Bytes).isPrefixOf (c::t)=(x == c):=by intro x;simp [List.isPrefixOf]
 have h2:∀ x y:UInt8,([x,y]:Bytes).isPrefixOf (c::t)=((x == c) && decide (t.head?=some y)):=by
  intro x y;cases t with
  | nil=>simp [List.isPrefixOf]
  | cons d u=>simp only [List.isPrefixOf,List.head?_cons,Option.some.injEq,Bool.and_true];congr 1;rw [Bool.eq_iff_iff,beq_iff_eq,decide_eq_true_eq];exact⟨Eq.symm,Eq.symm⟩
 simp only [markLen,markList,List.find?_cons,hx,h2,List.find?_nil,markBytes]
 by_cases c1:c=58
 ·subst c1;cases hh:decide (t.head?=some 58) <;> simp [twice,hh]
 by_cases c2:c=61
 ·subst c2;cases hh:decide (t.head?=some 61) <;> simp [twice,hh]
 have n1:((58:UInt8) == c)=false:=by rw [beq_eq_false_iff_ne];exact fun h=>c1 h.symm
 have n2:((61:UInt8) == c)=false:=by rw [beq_eq_false_iff_ne];exact fun h=>c2 h.symm
 have tw:twice c t=false:=by
  have e1:¬ c.toNat=58:=fun h=>c1 (UInt8.toNat_inj.1 h)
  have e2:¬ c.toNat=61:=fun h=>c2 (UInt8.toNat_inj.1 h)
  simp [twice,e1,e2]
 simp only [n1,n2,tw,Bool.false_and]
 by_cases c3:c=123;· subst c3;rfl
 by_cases c4:c=125;· subst c4;rfl
 by_cases c5:c=40;· subst c5;rfl
 by_cases c6:c=41;· subst c6;rfl
 by_cases c7:c=59;· subst c7;rfl
 by_cases c8:c=44;· subst c8;rfl
 by_cases c9:c=46;· subst c9;rfl
 by_cases c10:c=60;· subst c10;rfl
 by_cases c11:c=43;· subst c11;rfl
 by_cases c12:c=45;· subst c12;rfl
 by_cases c13:c=42;· subst c13;rfl
 have nn:∀ x:UInt8,¬ c=x→(x == c)=false:=fun x h=>by rw [beq_eq_false_iff_ne];exact fun e=>h e.symm
 have hc:([123,125,40,41,59,44,46,60,43,45,42,58,61]:Bytes).contains c=false:=by
  simp [c1,c2,c3,c4,c5,c6,c7,c8,c9,c10,c11,c12,c13]
 simp only [nn _ c3,nn _ c4,nn _ c5,nn _ c6,nn _ c7,nn _ c8,nn _ c9,nn _ c10,nn _ c11,nn _ c12,nn _ c13,hc,Option.map_none,Bool.false_eq_true,if_false]
theorem twice_at (s:ByteArray)(p:Nat)(hp:p<s.size):twice s[p] (s.data.toList.drop (p+1))=true↔(s[p].toNat=58∨s[p].toNat=61)∧∃ h:p+1<s.size,s[p+1].toNat=s[p].toNat:=by
 simp only [twice,Bool.and_eq_true,Bool.or_eq_true,decide_eq_true_eq];refine and_congr Iff.rfl ?_
 by_cases h:p+1<s.size
 ·rw [drop_cons s (p+1) h];simp only [List.head?_cons,Option.some.injEq];exact⟨fun e=>⟨h,by rw [e]⟩,fun ⟨_,e⟩=>UInt8.toNat_inj.1 e⟩
 ·rw [List.drop_eq_nil_of_le (by rw [len_list];omega)];simp;omega
theorem contains_drop_hit {l:Bytes}{r:Bytes}{c m:UInt8}(h:l=m::r)(e:m=c):l.contains c=true:=by subst h;subst e;simp
theorem contains_drop_miss {l:Bytes}{r:Bytes}{c m:UInt8}(h:l=m::r)(e:m≠c):l.contains c=r.contains c:=by
 subst h;simp only [List.contains_cons];rw [beq_eq_false_iff_ne.2 (fun x=>e x.symm),Bool.false_or]
theorem oneTok_at (s:ByteArray)(p:Nat)(hp:p<s.size):oneTok (s.data.toList.drop p)=if isLetter s[p] then wordTok (s.data.toList.drop p) else if isDigit s[p] then numTok (s.data.toList.drop p) else markTok (s.data.toList.drop p):=by
 rw [drop_cons s p hp];rfl
theorem markTok_at (s:ByteArray)(p:Nat)(hp:p<s.size):markTok (s.data.toList.drop p)=if markBytes.contains s[p] then .ok 4 (if twice s[p] (s.data.toList.drop (p+1)) then 2 else 1) 0 else .bad 2:=by
 unfold markTok;rw [drop_cons s p hp,markLen_cons];split
 ·rename_i h;split at h
  ·rename_i h1;rw [if_pos h1];cases h;rfl
  ·cases h
 ·rename_i h;split at h
  ·cases h
  ·rename_i h1;rw [if_neg h1]
end Lx
theorem mb_index (k:Nat)(hk:k<13):∃ m:UInt8,markBytes.drop k=m::markBytes.drop (k+1)∧∀ w,(Instr.index 9 (.string ⟨#[123,125,40,41,59,44,46,60,43,45,42,58,61]⟩) (.int .i64 (k:Int))).run Tryd.prog w=.ok (.int .u8 (m.toNat:Int)) w:=by
 match k,hk with
 | 0,_=>exact⟨_,rfl,fun _=>by kernel_rfl⟩
 | 1,_=>exact⟨_,rfl,fun _=>by kernel_rfl⟩
 | 2,_=>exact⟨_,rfl,fun _=>by kernel_rfl⟩
 | 3,_=>exact⟨_,rfl,fun _=>by kernel_rfl⟩
 | 4,_=>exact⟨_,rfl,fun _=>by kernel_rfl⟩
 | 5,_=>exact⟨_,rfl,fun _=>by kernel_rfl⟩
 | 6,_=>exact⟨_,rfl,fun _=>by kernel_rfl⟩
 | 7,_=>exact⟨_,rfl,fun _=>by kernel_rfl⟩
 | 8,_=>exact⟨_,rfl,fun _=>by kernel_rfl⟩
 | 9,_=>exact⟨_,rfl,fun _=>by kernel_rfl⟩
 | 10,_=>exact⟨_,rfl,fun _=>by kernel_rfl⟩
 | 11,_=>exact⟨_,rfl,fun _=>by kernel_rfl⟩
 | 12,_=>exact⟨_,rfl,fun _=>by kernel_rfl⟩
 | n+13,h=>omega
theorem slice_run (s:ByteArray)(p k:Nat)(w:World)(h:p+k≤s.size):(Instr.slice 9 (.string s) (some (.int .i64 (p:Int))) (some (.int .i64 ((p:Int)+(k:Int)))) none).run Tryd.prog w=.ok (.string (s.extract p (p+k))) w:=by
 have:=run_slice_string (P:=Tryd.prog) (w:=w) 9 s .i64 .i64 (p:Int) ((p:Int)+(k:Int)) Tryd.underlying9 (by omega) (by omega) (by omega);rw [this]
 congr
set_option maxHeartbeats 1000000 in
set_option maxRecDepth 100000 in
theorem ref_one (s:ByteArray)(p:Nat)(w:World)(hs:s.size≤65536)(hp:p<s.size) :
  Calls Tryd.prog 24 #[.string s,.int .i64 (p:Int)] w (OneP (oneTok (s.data.toList.drop p)) (s.data.toList.drop p) p w):=by
 have HO:=Lib.hid (oneTok_at s p hp);go_enter Tryd.func24,Tryd.ntmps24;go_wp2_with fail;refine (ref_letter _ _).mono ?_;rintro e w' ⟨rfl,rfl⟩;cases hl:isLetter s[p]
 ·have HLt:=Lib.hid hl;go_wp2_with fail;refine (ref_digit _ _).mono ?_;rintro e w' ⟨rfl,rfl⟩;cases hd:isDigit s[p]
  ·have HD:=Lib.hid hd;have HMK:=Lib.hid (markTok_at s p hp);have HTW:=Lib.hid (twice_at s p hp);go_wp2_with fail
   go_loop [9] (fun i=>∃ k:Nat,k≤13∧i=.int .i64 k∧markBytes.contains s[p]=(markBytes.drop k).contains s[p]) (fun i=>13-(intOf i).toNat)
   case atStart=>exact⟨0,by omega,rfl,rfl⟩
   case round =>
    obtain⟨k,hk,rfl,hr⟩:=hrel;have HR:=Lib.hid hr;clear hr
    by_cases hlt:k<13
    ·obtain⟨m,hm,hidx⟩:=mb_index k hlt;have HM:=Lib.hid hm;clear hm
     by_cases he:m=s[p]
     ·have HE:=Lib.hid he;have e1:((m.toNat:Int) != (s[p].toNat:Int))=false:=by rw [bne_eq_false_iff_eq,he]
      have e2:(m.toNat != s[p].toNat)=false:=by rw [bne_eq_false_iff_eq,he]
      have HC:Hid (markBytes.contains s[p]=true):=HR.out.trans (contains_drop_hit HM.out HE.out);clear he HE HR HM;cases htw:twice s[p] (s.data.toList.drop (p+1))
      ·have HTW2:=Lib.hid htw;have key:(((s[p].toNat:Int) == 58)=false∧((s[p].toNat:Int) == 61)=false)∨((((s[p].toNat:Int) == 58)=true∨(((s[p].toNat:Int) == 58)=false∧((s[p].toNat:Int) == 61)=true))∧(s.size≤p+1∨∃ h:p+1<s.size,((s[p+1].toNat:Int) == (s[p].toNat:Int))=false∧(s[p+1].toNat == s[p].toNat)=false)):=by
        have hn:=(not_congr HTW.out).1 (by rw [htw];simp)
        by_cases h58:s[p].toNat=58∨s[p].toNat=61
        ·right;refine⟨?_,?_⟩
         ·by_cases h:s[p].toNat=58
          ·left;rw [beq_iff_eq];omega
          ·right;exact⟨by rw [beq_eq_false_iff_ne];omega,by rw [beq_iff_eq];omega⟩
         ·by_cases h:p+1<s.size
          ·right;refine⟨h,?_⟩;have:¬ s[p+1].toNat=s[p].toNat:=fun e=>hn ⟨h58,h,e⟩
           exact⟨by rw [beq_eq_false_iff_ne];omega,by rw [beq_eq_false_iff_ne];omega⟩
          ·left;omega
        ·left;exact⟨by rw [beq_eq_false_iff_ne];omega,by rw [beq_eq_false_iff_ne];omega⟩
       clear htw;have hsl:∀ w,(Instr.slice 9 (.string s) (some (.int .i64 (p:Int))) (some (.int .i64 ((p:Int)+1))) none).run Tryd.prog w=.ok (.string (s.extract p (p+1))) w:=fun w=>slice_run s p 1 w (by omega)
       rcases key with⟨k1,k2⟩ | ⟨k1 | ⟨k1,k2⟩,k3 | ⟨k3,k4,k5⟩⟩
       all_goals
        go_wp2_with fail;refine bodyPost_ret (v:=oneV (.ok 4 1 0) (s.data.toList.drop p) p) ?_ rfl ⟨by rw [HO.out,HLt.out,HD.out,HMK.out,HC.out,HTW2.out];rfl,?_⟩
        ·simp [results,Tryd.results24,go_sem,oneV,tokAgg,extract_strOf]
        ·exact (Below.refl _ _).alloc (Nat.le_refl _) _
      ·have HTW2:=Lib.hid htw;obtain⟨h58,hp1,heq⟩:=HTW.out.1 htw;have k4:((s[p+1].toNat:Int) == (s[p].toNat:Int))=true:=by rw [beq_iff_eq];omega
       have k5:(s[p+1].toNat == s[p].toNat)=true:=by rw [beq_iff_eq];omega
       have key:(((s[p].toNat:Int) == 58)=true∨(((s[p].toNat:Int) == 58)=false∧((s[p].toNat:Int) == 61)=true)):=by
        by_cases h:s[p].toNat=58
        ·left;rw [beq_iff_eq];omega
        ·right;exact⟨by rw [beq_eq_false_iff_ne];omega,by rw [beq_iff_eq];omega⟩
       clear htw heq h58;have hsl:∀ w,(Instr.slice 9 (.string s) (some (.int .i64 (p:Int))) (some (.int .i64 ((p:Int)+2))) none).run Tryd.prog w=.ok (.string (s.extract p (p+2))) w:=fun w=>slice_run s p 2 w (by omega)
       rcases key with k1 | ⟨k1,k2⟩
       all_goals
        go_wp2_with fail;refine bodyPost_ret (v:=oneV (.ok 4 2 0) (s.data.toList.drop p) p) ?_ rfl ⟨by rw [HO.out,HLt.out,HD.out,HMK.out,HC.out,HTW2.out];rfl,?_⟩
        ·simp [results,Tryd.results24,go_sem,oneV,tokAgg,extract_strOf]
        ·exact (Below.refl _ _).alloc (Nat.le_refl _) _
     ·have HE:=Lib.hid he;have hne:¬ m.toNat=s[p].toNat:=fun e=>he (UInt8.toNat_inj.1 e)
      have e1:((m.toNat:Int) != (s[p].toNat:Int))=true:=by rw [bne_iff_ne];omega
      have e2:(m.toNat != s[p].toNat)=true:=by rw [bne_iff_ne];omega
      clear he hne;go_wp2_with fail
      go_round
      case rel=>exact⟨k+1,by omega,by go_num,by rw [HR.out];exact contains_drop_miss HM.out HE.out⟩
      case measure=>simp [intOf];omega
    ·have HC:Hid (markBytes.contains s[p]=false):=by
      rw [List.drop_eq_nil_of_le (by simp [markBytes];omega)] at HR;exact HR.out
     go_wp2_with fail;refine bodyPost_ret (v:=oneV (.bad 2) (s.data.toList.drop p) p) ?_ rfl ⟨by rw [HO.out,HLt.out,HD.out,HMK.out,HC.out];rfl,?_⟩
     ·simp [results,Tryd.results24,go_sem,oneV,tokAgg];rfl
     ·exact (Below.refl _ _).alloc (Nat.le_refl _) _
  ·have HD:=Lib.hid hd;go_wp2_with fail;refine (ref_end_num s p _ hs hp HLt.out).mono ?_;rintro e w' ⟨rfl,rfl⟩;obtain⟨q,hq⟩:∃ q:Nat,q=p+spanOf isDigit (s.data.toList.drop p):=⟨_,rfl⟩;rw [← hq];have HQ:=Lib.hid hq;clear hq;go_wp2_with fail;refine (ref_number s p _ _ hs hp HD.out (by rw [HQ.out])).mono ?_;rintro e w2 ⟨rfl,hb⟩;obtain⟨k,p',x,n,er,hv⟩:=oneV_form (numTok (s.data.toList.drop p)) (s.data.toList.drop p) p;rw [hv];have HV:=Lib.hid hv;clear hv;have HBE:=Lib.hid hb;obtain⟨hc,hf⟩:=bcell hb;have hz:w.heap.size<w2.heap.size:=by have:=hb.size;simp at this;omega
   clear hb;go_wp2_with fail;refine bodyPost_ret (v:=oneV (numTok (s.data.toList.drop p)) (s.data.toList.drop p) p) ?_ rfl ⟨by rw [HO.out,HLt.out,HD.out];rfl,?_⟩
   ·rw [HV.out];simp [results,Tryd.results24,go_sem,hc]
   ·exact below_set4 (((Below.refl _ _).alloc (Nat.le_refl _) _).trans (HBE.out.mono (by simp))) (Nat.le_refl _) _ _ _ _
 ·have HLt:=Lib.hid hl;have hle:=spanOf_le isPart (s.data.toList.drop p);rw [List.length_drop,len_list] at hle;have HW:=Lib.hid (wordTok_eq (s.data.toList.drop p));go_wp2_with fail;refine (ref_end_word s p _ hs hp HLt.out).mono ?_;rintro e w' ⟨rfl,rfl⟩;generalize hm:spanOf isPart (s.data.toList.drop p)=m at hle HW ⊢;clear hm;obtain⟨q,hq⟩:∃ q:Nat,q=p+m:=⟨_,rfl⟩;rw [← hq];have hpq:p≤q:=by omega
  have hqs:q≤s.size:=by omega
  have hqm:q-p=m:=by omega
  have HQ:=Lib.hid hqm;clear hq hqm;have HX:Hid (s.extract p q=strOf ((s.data.toList.drop p).take m)):=by show _=_;rw [extract_strOf,HQ.out]
  have hsz:(s.extract p q).size=q-p:=by rw [HX.out,strOf_size];simp;have:=HQ.out;omega
  by_cases h32:32<m
  ·have h32':32<q-p:=by have:=HQ.out;omega
   go_wp2_with fail;refine bodyPost_ret (v:=oneV (.bad 3) (s.data.toList.drop p) p) ?_ rfl ⟨by rw [HO.out,HLt.out,HW.out,if_pos rfl,if_pos h32],?_⟩
   ·simp [results,Tryd.results24,go_sem,oneV,tokAgg];rfl
   ·exact (Below.refl _ _).alloc (Nat.le_refl _) _
  ·have h32':¬ 32<q-p:=by have:=HQ.out;omega
   go_wp2_with fail;refine (ref_Keyword _ _).mono ?_;rintro e w2 ⟨rfl,hb⟩;rw [show (s.extract p q).data.toList=(s.data.toList.drop p).take m by rw [HX.out,strOf_data]];have HBE:=Lib.hid hb;obtain⟨hc,hf⟩:=bcell hb;have hz:w.heap.size<w2.heap.size:=by have:=hb.size;simp at this;omega
   clear hb;cases h7:isKeyword ((s.data.toList.drop p).take m)
   ·have H7:=Lib.hid h7;go_wp2_with fail;refine bodyPost_ret (v:=oneV (.ok 1 m 0) (s.data.toList.drop p) p) ?_ rfl ⟨by rw [HO.out,HLt.out,HW.out,if_pos rfl,if_neg h32,H7.out];rfl,?_⟩
    ·rw [HX.out];simp [results,Tryd.results24,go_sem,hc,oneV,tokAgg]
    ·exact below_set4 (((Below.refl _ _).alloc (Nat.le_refl _) _).trans (HBE.out.mono (by simp))) (Nat.le_refl _) _ _ _ _
   ·have H7:=Lib.hid h7;go_wp2_with fail;refine bodyPost_ret (v:=oneV (.ok 2 m 0) (s.data.toList.drop p) p) ?_ rfl ⟨by rw [HO.out,HLt.out,HW.out,if_pos rfl,if_neg h32,H7.out];rfl,?_⟩
    ·rw [HX.out];simp [results,Tryd.results24,go_sem,hc,oneV,tokAgg]
    ·exact below_set4 (((Below.refl _ _).alloc (Nat.le_refl _) _).trans (HBE.out.mono (by simp))) (Nat.le_refl _) _ _ _ _
end
section
open Lx Go.RowKit
namespace Lx
def skipPos (b:Bool)(l:Bytes)(p:Nat):Nat:=l.length-(skipB b (l.drop p)).length
theorem skipPos_of {b b':Bool}{l:Bytes}{p q:Nat}(h:skipB b (l.drop p)=skipB b' (l.drop q)):skipPos b l p=skipPos b' l q:=by unfold skipPos;rw [h]
theorem skipPos_sep {s:ByteArray}{p:Nat}(hp:p<s.size)(h:isSep s[p]=true):skipPos false s.data.toList p=skipPos false s.data.toList (p+1) :=
 skipPos_of (by rw [drop_cons s p hp];simp [skipB,h])
theorem skipPos_open {s:ByteArray}{p:Nat}(hp:p<s.size)(h:isSep s[p]=false)(h2:opens s[p] (s.data.toList.drop (p+1))=true):skipPos false s.data.toList p=skipPos true s.data.toList p :=
 skipPos_of (by rw [drop_cons s p hp];simp [opens] at h2;simp [skipB,h,opens,h2])
theorem skipPos_cont {s:ByteArray}{p:Nat}(hp:p<s.size)(h:s[p].toNat≠10):skipPos true s.data.toList p=skipPos true s.data.toList (p+1) :=
 skipPos_of (by rw [drop_cons s p hp];simp [skipB,h])
theorem skipPos_line {s:ByteArray}{p:Nat}(hp:p<s.size)(h:s[p].toNat=10):skipPos true s.data.toList p=skipPos false s.data.toList p :=
 skipPos_of (by rw [drop_cons s p hp];simp [skipB,h,isSep])
theorem skipPos_end {s:ByteArray}{p:Nat}(b:Bool)(hp:p=s.size):skipPos b s.data.toList p=p:=by
 unfold skipPos;rw [List.drop_eq_nil_of_le (by rw [len_list];omega),len_list];cases b <;> simp [skipB,hp]
theorem skipPos_stop {s:ByteArray}{p:Nat}(hp:p<s.size)(h:isSep s[p]=false)(h2:opens s[p] (s.data.toList.drop (p+1))=false):skipPos false s.data.toList p=p:=by
 unfold skipPos;have e:skipB false (s.data.toList.drop p)=s.data.toList.drop p:=by rw [drop_cons s p hp];simp [skipB,h,h2]
 rw [e,List.length_drop,len_list];omega
theorem drop_skipPos (l:Bytes)(p:Nat):l.drop (skipPos false l p)=skipB false (l.drop p):=by
 have h:=(skipB_suffix false (l.drop p)).trans (List.drop_suffix p l);unfold skipPos;exact (List.suffix_iff_eq_drop.1 h).symm
theorem skipPos_ge (l:Bytes)(p:Nat)(hp:p≤l.length):p≤skipPos false l p:=by
 have:=skipB_le false (l.drop p);unfold skipPos;rw [List.length_drop] at this;omega
theorem skipPos_le (l:Bytes)(p:Nat):skipPos false l p≤l.length:=by unfold skipPos;omega
end Lx
set_option maxHeartbeats 1000000 in
theorem ref_skip (s:ByteArray)(a:Int)(w:World)(hs:s.size≤65536)(h0:0≤a)(h1:a≤s.size):Calls Tryd.prog 23 #[.string s,.int .i64 a] w fun e w'=>e=.returned (.int .i64 (skipPos false s.data.toList a.toNat:Nat))∧w=w':=by
 obtain⟨p,rfl⟩:=Int.eq_ofNat_of_zero_le h0;clear h0;rw [Int.toNat_natCast];have hp:p≤s.size:=by omega
 clear h1;go_enter Tryd.func23,Tryd.ntmps23;go_wp2_with fail
 go_loop [1] (fun a=>∃ k:Nat,k≤s.size∧a=.int .i64 k∧skipPos false s.data.toList p=skipPos false s.data.toList k) (fun a=>s.size-(intOf a).toNat)
 case atStart=>exact⟨p,hp,rfl,rfl⟩
 case round =>
  obtain⟨k,hk,rfl,hr⟩:=hrel;have HR:=Lib.hid hr;clear hr
  by_cases hlt:k<s.size
  ·cases hsep:isSep s[k]
   ·have hne:=(not_congr (sep_of (c:=s[k]) rfl)).1 (by rw [hsep];simp);have e1:((s[k].toNat:Int) == 32)=false:=beq_eq_false_iff_ne.2 (by omega);have e2:((s[k].toNat:Int) == 9)=false:=beq_eq_false_iff_ne.2 (by omega);have e3:((s[k].toNat:Int) == 13)=false:=beq_eq_false_iff_ne.2 (by omega);have e4:((s[k].toNat:Int) == 10)=false:=beq_eq_false_iff_ne.2 (by omega);have HSEP:=Lib.hid hsep;clear hsep hne;cases hop:opens s[k] (s.data.toList.drop (k+1))
    ·have HOP:=Lib.hid hop;have key:((s[k].toNat:Int) != 47)=true∨(((s[k].toNat:Int) != 47)=false∧(s.size≤k+1∨∃ h:k+1<s.size,((s[k+1].toNat:Int) != 47)=true)):=by
      by_cases hc:s[k].toNat=47
      ·right;refine⟨by rw [bne_eq_false_iff_eq];omega,?_⟩
       by_cases h2:k+1<s.size
       ·right;refine⟨h2,?_⟩;rw [drop_cons s (k+1) h2] at hop;simp only [opens,hc,decide_true,Bool.true_and,List.head?_cons,Option.some.injEq,decide_eq_false_iff_not] at hop;rw [bne_iff_ne];intro h3;exact hop (UInt8.toNat_inj.1 (by have e47:(47:UInt8).toNat=47:=rfl;omega))
       ·left;omega
      ·left;rw [bne_iff_ne];omega
     clear hop;rcases key with hc | ⟨hc,h2 | ⟨h2,h3⟩⟩
     all_goals
      go_wp2_with fail;go_ret;exact⟨ret_int (by rw [HR.out,skipPos_stop hlt HSEP.out HOP.out]),rfl⟩
    ·have HOP:=Lib.hid hop;have hc:s[k].toNat=47:=by simp [opens] at hop;omega
     have h2:k+1<s.size:=by
      rcases Nat.lt_or_ge (k+1) s.size with h | h
      ·exact h
      ·rw [List.drop_eq_nil_of_le (by rw [len_list];omega)] at hop;simp [opens] at hop
     have h3:s[k+1].toNat=47:=by
      rw [drop_cons s (k+1) h2] at hop;simp only [opens,hc,decide_true,Bool.true_and,List.head?_cons,Option.some.injEq,decide_eq_true_eq] at hop;rw [hop];rfl
     have f1:((s[k].toNat:Int) != 47)=false:=by rw [bne_eq_false_iff_eq];omega
     have f2:((s[k+1].toNat:Int) != 47)=false:=by rw [bne_eq_false_iff_eq];omega
     have HC:=Lib.hid hc;clear hop hc h3;have HR2:Hid (skipPos false s.data.toList p=skipPos true s.data.toList k):=HR.out.trans (skipPos_open hlt HSEP.out HOP.out);go_wp2_with fail
     go_loop [1] (fun a=>∃ j:Nat,k≤j∧j≤s.size∧a=.int .i64 j∧skipPos false s.data.toList p=skipPos true s.data.toList j) (fun a=>s.size-(intOf a).toNat)
     case atStart=>exact⟨k,Nat.le_refl _,hk,rfl,HR2.out⟩
     case round =>
      obtain⟨j,hkj,hj,rfl,hr⟩:=hrel;have HJ:=Lib.hid hr;clear hr
      by_cases hlj:j<s.size
      ·by_cases hc:s[j].toNat=10
       ·have g1:((s[j].toNat:Int) != 10)=false:=by rw [bne_eq_false_iff_eq];omega
        have hkj':k<j:=by
         rcases Nat.lt_or_ge k j with h | h
         ·exact h
         ·obtain rfl:k=j:=by omega
          have:=HC.out;omega
        have HCJ:=Lib.hid hc;clear hc;go_wp2_with fail
        go_round
        case rel=>exact⟨j,hj,rfl,by rw [HJ.out,skipPos_line hlj HCJ.out]⟩
        case measure=>simp [intOf];omega
       ·have g1:((s[j].toNat:Int) != 10)=true:=by rw [bne_iff_ne];omega
        have HCJ:=Lib.hid hc;clear hc;go_wp2_with fail
        go_round
        case rel=>exact⟨j+1,by omega,by omega,by go_num,by rw [HJ.out,skipPos_cont hlj HCJ.out]⟩
        case measure=>simp [intOf];omega
      ·obtain rfl:j=s.size:=by omega
       go_wp2_with fail
       go_round
       case rel=>exact⟨s.size,hj,rfl,by rw [HJ.out,skipPos_end true rfl,skipPos_end false rfl]⟩
       case measure=>simp [intOf];omega
   ·have HSEP:=Lib.hid hsep;have hor:=(sep_of (c:=s[k]) rfl).1 hsep;clear hsep;rcases hor with hc | hc | hc | hc
    all_goals
     go_wp2_with fail
     all_goals
      go_round
      case rel=>exact⟨k+1,by omega,by go_num,by rw [HR.out,skipPos_sep hlt HSEP.out]⟩
      case measure=>simp [intOf];omega
  ·go_wp2_with fail;go_ret;exact⟨ret_int (by rw [HR.out,skipPos_end false (by omega)]),rfl⟩
end
section
open Lx Go.RowKit
namespace Lx
theorem skipB_idem (b:Bool)(l:Bytes):skipB false (skipB b l)=skipB b l:=by
 induction l generalizing b with
 | nil=>cases b <;> simp [skipB]
 | cons c t ih =>
   cases b
   ·by_cases h1:isSep c=true
    ·simp only [skipB,h1,if_true];exact ih _
    ·by_cases h2:opens c t=true
     ·simp only [skipB,h1,h2];exact ih _
     ·simp only [skipB,h1,h2];simp [skipB,h1,h2]
   ·by_cases h1:c.toNat=10
    ·simp only [skipB,h1,if_true];exact ih _
    ·simp only [skipB,h1,if_false];exact ih _
theorem lexAt_skip (p:Nat)(l:Bytes):lexAt false p l=lexAt false (p+(l.length-(skipB false l).length)) (skipB false l):=by
 rw [lexAt_eq,lexAt_eq false _ (skipB false l),skipB_idem];have hle:=skipB_le false l;generalize skipB false l=r at hle;cases r with
 | nil=>simp
 | cons c t=>simp
theorem lexAt_skipPos (l:Bytes)(p:Nat)(hp:p≤l.length):lexAt false p (l.drop p)=lexAt false (skipPos false l p) (l.drop (skipPos false l p)):=by
 have hle:=skipB_le false (l.drop p);rw [List.length_drop] at hle;rw [lexAt_skip,drop_skipPos]
 congr 1
 unfold skipPos;rw [List.length_drop];omega
/-- The state of the reference's loop: it stands at a token or at the end. -/
def Stands (l:Bytes)(p:Nat)(out:List Tok):Prop:=skipB false (l.drop p)=l.drop p∧lexAt false 0 l=after out (lexAt false p (l.drop p))
theorem stands_start (l:Bytes):Stands l (skipPos false l 0) []:=by
 refine⟨by rw [drop_skipPos,skipB_idem],?_⟩;rw [after_nil,← lexAt_skipPos l 0 (Nat.zero_le _)];rfl
theorem stands_at {s:ByteArray}{p:Nat}{out:List Tok}(h:Stands s.data.toList p out)(hp:p<s.size):isSep s[p]=false∧opens s[p] (s.data.toList.drop (p+1))=false:=by
 have h1:=h.1;rw [drop_cons s p hp] at h1
 by_cases c1:isSep s[p]=true
 ·simp only [skipB,c1,if_true] at h1;have:=skipB_le false (s.data.toList.drop (p+1));rw [h1] at this;simp at this;omega
 ·by_cases c2:opens s[p] (s.data.toList.drop (p+1))=true
  ·simp only [skipB,c1,c2] at h1;have:=skipB_le true (s.data.toList.drop (p+1));simp at h1;rw [h1] at this;simp at this;omega
  ·exact⟨by simpa using c1,by simpa using c2⟩
theorem stands_bad {s:ByteArray}{p e:Nat}{out:List Tok}(h:Stands s.data.toList p out)(hp:p<s.size)(ht:oneTok (s.data.toList.drop p)=.bad e):lexAt false 0 s.data.toList=.error (p,e):=by
 have hs:=stands_at h hp;have e0:=drop_cons s p hp;rw [e0] at ht;rw [h.2,e0,lexAt_bad hs.1 hs.2 ht];rfl
theorem stands_ok {s:ByteArray}{p k m n:Nat}{out:List Tok}(h:Stands s.data.toList p out)(hp:p<s.size)(ht:oneTok (s.data.toList.drop p)=.ok k m n) :
  Stands s.data.toList (skipPos false s.data.toList (p+m)) (out++[⟨k,p,(s.data.toList.drop p).take m,n⟩]):=by
 have hs:=stands_at h hp;have hb:=oneTok_bounds ht;rw [List.length_drop,len_list] at hb;refine⟨by rw [drop_skipPos,skipB_idem],?_⟩;rw [← lexAt_skipPos _ _ (by rw [len_list];omega)];have e:=drop_cons s p hp;rw [e] at ht;rw [h.2,e,lexAt_ok hs.1 hs.2 ht,after_after,← e,List.drop_drop]
theorem stands_end {s:ByteArray}{p:Nat}{out:List Tok}(h:Stands s.data.toList p out)(hp:p=s.size):lexAt false 0 s.data.toList=.ok (out++[⟨5,s.size,[],0⟩]):=by
 subst hp;rw [h.2,List.drop_eq_nil_of_le (by rw [len_list];exact Nat.le_refl _),lexAt_nil];rfl
end Lx
def RefRel (s:ByteArray)(w:World)(v a:Value)(wr:World):Prop :=
 ∃ (p:Nat) (out:List Tok),a=.int .i64 p∧p≤s.size∧out.length≤p∧wr.ownsRow w.heap.size 35 4 v out.length (toksCells out)∧Below w.heap.size w wr∧Stands s.data.toList p out
theorem ref_step {w W1 W2 w1:World}{n:Nat}{v:Value}{xs:List Value}(o2:Obj)(cs:Array Value)(hb:Below w.heap.size w W1)
  (ho:W1.ownsRow w.heap.size 35 4 v n xs) (hb2:Below W1.heap.size W1 W2) (hg:((W2.alloc (.cells cs 35)).alloc o2).grownBy w1 v.ownBlock) :
  Below w.heap.size w w1∧∀ j,w1.cell? ⟨W2.heap.size,j,none⟩=cs[j]?:=by
 have ho2:=own_below ho hb2;have hrow:∀ k,v.ownBlock=some k→w.heap.size≤k∧k<W2.heap.size:=ho2.lt;have hsz:=hb2.size;have hs1:(W2.alloc (.cells cs 35)).heap.size=W2.heap.size+1:=by simp
 have hs2:((W2.alloc (.cells cs 35)).alloc o2).heap.size=W2.heap.size+2:=by simp
 have hbs:=hb.size;refine⟨?_,?_⟩
 ·exact Below.grown (((hb.trans (hb2.mono hbs)).alloc (by omega) _).alloc (by omega) _) hg (by omega) (fun k e=>by have:=hrow k e;omega)
 ·intro j;rw [World.cell?_of_block (w:=(W2.alloc (.cells cs 35)).alloc o2) (hg.block _ (by simp;omega) (fun e=>by have:=hrow _ e.symm;simp at this))];rw [World.cell?_of_block (w:=W2.alloc (.cells cs 35)) (Below.heap_alloc _ _ _ (by simp))];exact World.cell?_alloc_new _ _ _ _
set_option maxHeartbeats 1000000 in
set_option maxRecDepth 100000 in
theorem ref_Tokens (s:ByteArray)(w:World)(hs:s.size≤maxLen):Calls Tryd.prog 10 #[.string s] w (LexP (tokensOf s.data.toList) w):=by
 unfold maxLen at hs
 by_cases h1:65536<s.size
 ·go_enter Tryd.func10,Tryd.ntmps10;go_wp2_with fail
  go_ret3
  refine⟨Below.refl _ _,?_⟩;rw [tokensOf,if_pos (by rw [len_list];exact h1)];rfl
 have HT:Hid (tokensOf s.data.toList=lexAt false 0 s.data.toList):=by show _=_;rw [tokensOf,if_neg (by rw [len_list];exact h1)]
 have hlen:=len_list s;have hle0:=skipPos_le s.data.toList 0;rw [hlen] at hle0;clear hlen;go_enter Tryd.func10,Tryd.ntmps10;go_wp2_with fail;refine (ref_skip s 0 _ (by omega) (by omega) (by omega)).mono ?_;rintro e w' ⟨rfl,rfl⟩;have HST:Hid (Stands s.data.toList (skipPos false s.data.toList (0:Int).toNat) []):=stands_start _;rw [show (0:Int).toNat=0 from rfl] at HST ⊢;generalize skipPos false s.data.toList 0=p0 at hle0 HST ⊢;go_wp2_with fail
 go_loopw [5,6] (fun v a wr=>RefRel s w v a wr) (fun _ a _=>s.size-(intOf a).toNat)
 case atStart=>exact⟨p0,[],rfl,hle0,Nat.zero_le _,World.ownsRow_nil _ _ _ _,Below.refl _ _,HST.out⟩
 case round =>
  obtain⟨p,out,rfl,hp,hol,hown,hbel,hst⟩:=hrel;have HO:=Lib.hid hown;have HB:=Lib.hid hbel;have HS:=Lib.hid hst;have hws:w.heap.size≤wr.heap.size:=hbel.size;clear hown hbel hst HST;obtain⟨i0,hi,hz0,hz1,hz2⟩:=info_parts Tryd.infoTok;have HI:=Lib.hid hi;have HZ0:=Lib.hid hz0;have HZ1:=Lib.hid hz1;have HZ2:=Lib.hid hz2;clear hi hz0 hz1 hz2
  by_cases hlt:p<s.size
  ·go_wp2_with fail;refine (ref_one s p _ (by omega) hlt).mono ?_;rintro e W2 ⟨rfl,hb2⟩;have HB2:=Lib.hid hb2;obtain⟨hc,hf⟩:=bcell hb2;have hz:wr.heap.size≤W2.heap.size:=hb2.size;clear hb2;cases ht:oneTok (s.data.toList.drop p) with
   | bad er =>
     have HTK:=Lib.hid ht;have her:((er:Int) == 0)=false:=by rw [beq_eq_false_iff_ne];have:=oneTok_bad_pos ht;omega
     have her':((er:Int) != 0)=true:=by rw [bne_iff_ne];have:=oneTok_bad_pos ht;omega
     simp only [oneV,tokAgg];go_wp2_with fail
     go_ret3
     refine⟨(HB.out.trans (HB2.out.mono HB.out.size)).alloc (by omega) _,?_⟩;rw [HT.out,stands_bad HS.out hlt HTK.out];rfl
   | ok k m n' =>
     have HTK:=Lib.hid ht;have hmb:=oneTok_bounds ht;have hml:m≤s.size-p:=by have:=hmb.2;simpa using this
     have hmsz:(strOf ((s.data.toList.drop p).take m)).size=m:=by rw [strOf_size];simp;omega
     clear ht;simp only [oneV,tokAgg]
     go_wp2_with (at_builtin;refine wpList_append_own _ rfl _ _ 31 rfl w.heap.size 35 i0 _ 4 40 Tryd.underlying31 HI.out HZ0.out HZ1.out HZ2.out rfl (by decide) _ _ _ rfl (((own_below HO.out HB2.out).alloc _).alloc _) ⟨W2.heap.size+1,0,none⟩ 1 1 (tokCells ⟨k,p,(s.data.toList.drop p).take m,n'⟩) rfl rfl ?c1 ?c2 ?c3 ?c4 ?c5 ?_)
     case c1=>exact fun j u h=>by have h2:=cells4_new (W2.alloc (Obj.cells #[.int .i64 k,.int .i64 p,.string (strOf ((s.data.toList.drop p).take m)),.int .i64 n'] 35)) _ _ _ _ 35 j u h;rw [World.size_alloc] at h2;exact h2
     case c2=>intro u hu;simp [tokCells] at hu;rcases hu with rfl | rfl | rfl | rfl <;> rfl
     case c3=>unfold maxLen;omega
     case c4=>omega
     case c5=>simp;omega
     intro v' w1 hown' hgrow _;obtain⟨hbw,hcs⟩:=ref_step _ _ HB.out HO.out HB2.out hgrow;have hcell:=hcs 2;simp only [List.getElem?_toArray] at hcell;have HOW:Hid (w1.ownsRow w.heap.size 35 4 v' (out++[(⟨k,p,(s.data.toList.drop p).take m,n'⟩:Tok)]).length (toksCells (out++[⟨k,p,(s.data.toList.drop p).take m,n'⟩]))):=by
      rw [toksCells_snoc,List.length_append];exact hown'
     have HBW:=Lib.hid hbw;clear hbw hcs hown' hgrow;go_wp2_with fail;refine (ref_skip s ((p:Int)+(m:Int)) _ (by omega) (by omega) (by omega)).mono ?_;rintro e w' ⟨rfl,rfl⟩;rw [show ((p:Int)+(m:Int)).toNat=p+m from by omega];have hge:=skipPos_ge s.data.toList (p+m) (by rw [len_list];omega);have hle:=skipPos_le s.data.toList (p+m);rw [len_list] at hle;have HSN:Hid (Stands s.data.toList (skipPos false s.data.toList (p+m)) (out++[⟨k,p,(s.data.toList.drop p).take m,n'⟩])):=stands_ok HS.out hlt HTK.out;generalize skipPos false s.data.toList (p+m)=q at hge hle HSN ⊢;go_wp2_with fail
     go_roundw
     case rel=>exact⟨q,_,rfl,hle,by simp;omega,HOW.out,HBW.out,HSN.out⟩
     case measure=>simp [intOf];omega
  ·go_wp2_with (at_builtin;refine wpList_append_own _ rfl _ _ 31 rfl w.heap.size 35 i0 _ 4 40 Tryd.underlying31 HI.out HZ0.out HZ1.out HZ2.out rfl (by decide) _ _ _ rfl (HO.out.alloc _) ⟨wr.heap.size,0,none⟩ 1 1 (tokCells ⟨5,s.size,[],0⟩) rfl rfl ?c1 ?c2 ?c3 ?c4 ?c5 ?_)
   case c1=>exact cells4_new _ _ _ _ _ _
   case c2=>intro u hu;simp [tokCells] at hu;rcases hu with rfl | rfl | rfl | rfl <;> rfl
   case c3=>unfold maxLen;omega
   case c4=>omega
   case c5=>simp;omega
   intro v' w1 hown' hgrow _;go_wp2_with fail
   go_ret3
   refine⟨Below.grown (HB.out.alloc (by omega) _) hgrow (by simp;omega) (fun k e=>by have:=HO.out.lt k e;omega),?_⟩;rw [HT.out,stands_end HS.out (by omega)];refine⟨v',rfl,?_⟩;rw [toksCells_snoc,List.length_append];exact hown'
end
end Go.Proofs.YtmlafcimjhnhhaaDoor
