/-
  lex.number, walked.
-/
import Derived.Test.YtmlafcimjhnhhaaGreatDoorJbJpAn
import Derived.Test.YtmlafcimjhnhhaaGreatDoorShelf
import Derived.Lib.AtoiErrMem
import Derived.Laws.Rows
import Derived.Laws.RangeAny
import Derived.Lib.OthersKept
import Derived.OwnWalk
import Derived.WalkSmall
import Derived.Lib.IndexBytes
set_option linter.unusedSectionVars false
set_option linter.unusedSimpArgs false
set_option linter.unnecessarySimpa false
set_option linter.unusedVariables false
namespace Go.Proofs.YtmlafcimjhnhhaaGreatDoor
section
open Lx Go.RowKit
theorem bcell {W w1:World}(hb:Below W.heap.size W w1):(∀ b o,b<W.heap.size→w1.cell? ⟨b,o,none⟩=W.cell? ⟨b,o,none⟩)∧(∀ b o,b<W.heap.size→w1.frozen? ⟨b,o,none⟩=W.frozen? ⟨b,o,none⟩) :=
 ⟨fun b o h=>hb.cell (p:=⟨b,o,none⟩) h,fun b o h=>hb.frozen (p:=⟨b,o,none⟩) h⟩
theorem extract_take_le (s:ByteArray)(k:Nat):(s.extract 0 k).size≤s.size:=by
 rw [extract_take,strOf_size,List.length_take,len_list];omega
theorem Laid.erCell {w:World}(h:Laid w):∃ tp p,w.cell? ⟨7,0,none⟩=some (.iface tp p):=by
 obtain⟨tp,p,t,fr,hh⟩:=h.er;exact⟨tp,p,by simp [World.cell?,hh]⟩
theorem parse_ok (s:ByteArray)(hmax:s.size≤9223372036854775806)(v:Int)(h:Lib.parseIntB 64 s.data.toList=.ok v)(w:World) :
  Calls Tryz.prog 110 #[.string s,.int .i64 10,.int .i64 64] w fun e w'=>e=.returned (.tuple #[.int .i64 v,.nilIface])∧Below w.heap.size w w':=by
 refine (Tryz.strconv_ParseInt_10_at64_ok s hmax v h w).mono ?_;rintro e w' ⟨rfl,rfl | ⟨t,rfl⟩⟩
 ·exact⟨rfl,Below.refl _ _⟩
 ·exact⟨rfl,Lib.bytesWorld_below _ _ _⟩
theorem below_set4 {w0 w:World}{B b:Nat}(h:Below B w0 w)(hb:B≤b)(v0 v1 v2 v3:Value) :
  Below B w0 ((((w.setCell ⟨b,0,none⟩ v0).setCell ⟨b,1,none⟩ v1).setCell ⟨b,2,none⟩ v2).setCell ⟨b,3,none⟩ v3) :=
 (((h.setCell hb _).setCell hb _).setCell hb _).setCell hb _
set_option maxHeartbeats 400000 in
theorem lex_number (s:ByteArray)(w:World)(hs:s.size≤65536)(hL:Laid w)(h0:0<s.size)(hd:isDigit s[0]=true):Calls Tryz.prog 94 #[.string s] w (OneP (numTok s.data.toList) s.data.toList 0 w):=by
 have HL:=Lib.hid hL;have HS:Hid (s.size≤maxLen):=by show s.size≤maxLen;unfold maxLen;omega
 clear hL;have hle:=spanOf_le isDigit s.data.toList;rw [len_list] at hle;have hpos:0<spanOf isDigit s.data.toList:=by
  have e:=list_of_pos s h0;generalize s.data.toList.drop 1=t at e;rw [e];exact spanOf_pos _ _ _ hd
 have HN:=Lib.hid (numTok_eq s.data.toList);have HB:=Lib.hid (numBad_eq s h0);have HP:=Lib.hid (parseIntB_digits (s.data.toList.take (spanOf isDigit s.data.toList)) (by intro h;have:=congrArg List.length h;rw [List.length_take,len_list,List.length_nil] at this;omega) (take_span_all _ _));clear hd;go_enter Tryz.func94,Tryz.ntmps94;go_wp2_with fail;refine (lex_span_digit s _ HS.out).mono ?_;rintro e w' ⟨rfl,rfl⟩;generalize hn:spanOf isDigit s.data.toList=n at hle hpos HN HB HP ⊢;clear hn;have hreach:s.size≤9223372036854775806:=by omega
 cases hbad:numBad s.data.toList
 ·have HBAD:=Lib.hid hbad;rw [HB.out,Bool.or_eq_false_iff] at hbad;have key:(((s[0].toNat:Int) == 48)=false∨n≤1)∧(s.size≤n∨∃ h:n<s.size,isPart s[n]=false):=by
   refine⟨?_,?_⟩
   ·by_cases hz:s[0].toNat=48
    ·right;have:=hbad.1;simp [hz] at this;omega
    ·left;rw [beq_eq_false_iff_ne];omega
   ·by_cases h2:n<s.size
    ·right;exact⟨h2,by rw [← nextPart_lt s n h2];exact hbad.2⟩
    ·left;omega
  clear hbad HB;rcases key with⟨hz | h1,h2 | ⟨h2,h3⟩⟩
  all_goals
   go_wp2_with (go_at_call 65;refine (lex_part _ _).mono ?_;rintro e w' ⟨rfl,rfl⟩)
   all_goals
    by_cases hv:9223372036854775808≤numVal (s.data.toList.take n)
    ·obtain⟨tp,p,hcell⟩:=(HL.out.alloc (Obj.cells #[Value.int IntKind.i64 0,Value.int IntKind.i64 0,Value.string ⟨#[]⟩,Value.int IntKind.i64 0] 89)).erCell;refine (Tryz.strconv_ParseInt_10_at64_range (s.extract 0 n) ?_ ?_ _ _ hcell (.inr ⟨tp,p,rfl⟩)).mono ?_
     ·have:=extract_take_le s n;omega
     ·rw [extract_take_data,HP.out,if_pos hv]
     ·rintro e w2 ⟨N,rfl,_,_,hb⟩;clear hcell;have HBE:=Lib.hid hb;obtain⟨hc,hf⟩:=bcell hb;have hz:w.heap.size<w2.heap.size:=by have:=hb.size;simp at this;omega
      clear hb;go_wp2_with fail;refine bodyPost_ret (v:=oneV (.bad 4) s.data.toList 0) ?_ rfl ⟨by rw [HN.out,HBAD.out,if_neg (by simp),if_pos hv],?_⟩
      ·clear HN HP HBAD HBE HL HS hs hv;simp [results,Tryz.results94,go_sem,hc,oneV,tokAgg];rfl
      ·exact below_set4 (((Below.refl _ _).alloc (Nat.le_refl _) _).trans (HBE.out.mono (by simp))) (Nat.le_refl _) _ _ _ _
    ·refine (parse_ok (s.extract 0 n) ?_ (numVal (s.data.toList.take n):Nat) ?_ _).mono ?_
     ·have:=extract_take_le s n;omega
     ·rw [extract_take_data,HP.out,if_neg hv]
     ·rintro e w2 ⟨rfl,hb⟩;have HBE:=Lib.hid hb;obtain⟨hc,hf⟩:=bcell hb;have hz:w.heap.size<w2.heap.size:=by have:=hb.size;simp at this;omega
      clear hb;go_wp2_with fail;refine bodyPost_ret (v:=oneV (.ok 3 n (numVal (s.data.toList.take n))) s.data.toList 0) ?_ rfl ⟨by rw [HN.out,HBAD.out,if_neg (by simp),if_neg hv],?_⟩
      ·clear HN HP HBAD HBE HL HS hs hv;simp [results,Tryz.results94,go_sem,hc,oneV,tokAgg,extract_take]
      ·exact below_set4 (((Below.refl _ _).alloc (Nat.le_refl _) _).trans (HBE.out.mono (by simp))) (Nat.le_refl _) _ _ _ _
 ·have HBAD:=Lib.hid hbad;rw [HB.out,Bool.or_eq_true] at hbad;have key:(((s[0].toNat:Int) == 48)=true∧1<n)∨((((s[0].toNat:Int) == 48)=false∨n≤1)∧∃ h:n<s.size,isPart s[n]=true):=by
   by_cases hz:s[0].toNat=48∧1<n
   ·exact .inl ⟨by rw [beq_iff_eq];omega,hz.2⟩
   ·right;refine⟨?_,?_⟩
    ·by_cases hz0:s[0].toNat=48
     ·right;omega
     ·left;rw [beq_eq_false_iff_ne];omega
    ·rcases hbad with h | h
     ·simp only [Bool.and_eq_true,decide_eq_true_eq] at h;exact absurd h hz
     ·by_cases h2:n<s.size
      ·exact⟨h2,by rw [← nextPart_lt s n h2];exact h⟩
      ·rw [nextPart_ge s n (by omega)] at h;cases h
  clear hbad HB;rcases key with⟨hz,h1⟩ | ⟨hz | h1,h2,h3⟩
  all_goals
   go_wp2_with (go_at_call 65;refine (lex_part _ _).mono ?_;rintro e w' ⟨rfl,rfl⟩)
   all_goals
    refine bodyPost_ret (v:=oneV (.bad 2) s.data.toList 0) ?_ rfl ⟨by rw [HN.out,HBAD.out,if_pos rfl],?_⟩
    ·clear HN HP HBAD HL HS hs;simp [results,Tryz.results94,go_sem,oneV,tokAgg];rfl
    ·exact (Below.refl _ _).alloc (Nat.le_refl _) _
end
section
open Lx Go.RowKit
theorem mk_index (k:Nat)(hk:k<15):∃ m:Bytes,markList.drop k=m::markList.drop (k+1)∧0<m.length∧m.length≤2∧∀ w,(Instr.index 143 (.agg markCells) (.int .i64 (k:Int))).run Tryz.prog w=.ok (.string (strOf m)) w:=by
 match k,hk with
 | 0,_=>exact⟨_,rfl,by decide,by decide,fun _=>by kernel_rfl⟩
 | 1,_=>exact⟨_,rfl,by decide,by decide,fun _=>by kernel_rfl⟩
 | 2,_=>exact⟨_,rfl,by decide,by decide,fun _=>by kernel_rfl⟩
 | 3,_=>exact⟨_,rfl,by decide,by decide,fun _=>by kernel_rfl⟩
 | 4,_=>exact⟨_,rfl,by decide,by decide,fun _=>by kernel_rfl⟩
 | 5,_=>exact⟨_,rfl,by decide,by decide,fun _=>by kernel_rfl⟩
 | 6,_=>exact⟨_,rfl,by decide,by decide,fun _=>by kernel_rfl⟩
 | 7,_=>exact⟨_,rfl,by decide,by decide,fun _=>by kernel_rfl⟩
 | 8,_=>exact⟨_,rfl,by decide,by decide,fun _=>by kernel_rfl⟩
 | 9,_=>exact⟨_,rfl,by decide,by decide,fun _=>by kernel_rfl⟩
 | 10,_=>exact⟨_,rfl,by decide,by decide,fun _=>by kernel_rfl⟩
 | 11,_=>exact⟨_,rfl,by decide,by decide,fun _=>by kernel_rfl⟩
 | 12,_=>exact⟨_,rfl,by decide,by decide,fun _=>by kernel_rfl⟩
 | 13,_=>exact⟨_,rfl,by decide,by decide,fun _=>by kernel_rfl⟩
 | 14,_=>exact⟨_,rfl,by decide,by decide,fun _=>by kernel_rfl⟩
 | n+15,h=>omega
theorem has_prefix (s p:ByteArray)(w:World):Calls Tryz.prog 70 #[.string s,.string p] w fun e w'=>e=.returned (.bool (p.data.toList.isPrefixOf s.data.toList))∧w=w' :=
 (Tryz.strings_HasPrefix s p w).mono fun _ _ ⟨he,hw⟩=>⟨he,hw.symm⟩
theorem find_hit {l m:Bytes}{r x:List Bytes}(hx:x=m::r)(h:m.isPrefixOf l=true):(x.find? (fun m=>m.isPrefixOf l)).map List.length=some m.length:=by subst hx;simp [h]
theorem find_miss {l m:Bytes}{r x:List Bytes}(hx:x=m::r)(h:m.isPrefixOf l=false):(x.find? (fun m=>m.isPrefixOf l)).map List.length=(r.find? (fun m=>m.isPrefixOf l)).map List.length:=by subst hx;simp [h]
theorem markTok_some {l:Bytes}{n:Nat}(h:markLen l=some n):markTok l=.ok 4 n 0:=by simp [markTok,h]
theorem markTok_none {l:Bytes}(h:markLen l=none):markTok l=.bad 2:=by simp [markTok,h]
set_option maxHeartbeats 400000 in
theorem lex_mark (s:ByteArray)(w:World)(_hs:s.size≤65536)(hL:Laid w):Calls Tryz.prog 95 #[.string s] w (OneP (markTok s.data.toList) s.data.toList 0 w):=by
 obtain⟨t,fr,hg⟩:=hL.ms;have hsz:=lt_of_heap hg;have HG:Hid (∀ o,(w.alloc o).heap[3]?=some (.cells markCells t fr)):=fun o=>by rw [Below.heap_alloc _ _ _ hsz];exact hg
 clear hg hL hsz;go_enter Tryz.func95,Tryz.ntmps95
 go_wp2_with (refine wpList_load_row rfl 143 _ rfl 3 rfl t _ fr _ (HG.out _) Tryz.underlying143 rfl (by kernel_rfl) ?_)
 go_loop [7] (fun i=>∃ k:Nat,k≤15∧i=.int .i64 k∧markLen s.data.toList=((markList.drop k).find? (fun m=>m.isPrefixOf s.data.toList)).map List.length) (fun i=>15-(intOf i).toNat)
 case atStart=>exact⟨0,by omega,rfl,rfl⟩
 case round =>
  obtain⟨k,hk,rfl,hr⟩:=hrel;have HR:=Lib.hid hr;clear hr
  by_cases hlt:k<15
  ·obtain⟨m,hm,hm1,hm2,hidx⟩:=mk_index k hlt;have HM:=Lib.hid hm;clear hm;go_wp2_with fail;refine (has_prefix _ _ _).mono ?_;rintro e w' ⟨rfl,rfl⟩;have HD:=Lib.hid (strOf_data m);rw [HD.out];cases he:m.isPrefixOf s.data.toList
   ·have HE:=Lib.hid he;go_wp2_with fail
    go_round
    case rel=>exact⟨k+1,by omega,by go_num,by rw [HR.out];exact find_miss HM.out HE.out⟩
    case measure=>simp [intOf];omega
   ·have HE:=Lib.hid he;have hpre:m.length≤s.size:=by have:=(List.isPrefixOf_iff_prefix.1 he).length_le;rwa [len_list] at this
    have hsz:=strOf_size m;go_wp2_with fail;refine bodyPost_ret (v:=oneV (.ok 4 m.length 0) s.data.toList 0) ?_ rfl ⟨by rw [markTok_some (HR.out.trans (find_hit HM.out HE.out))],?_⟩
    ·simp [results,Tryz.results95,go_sem,oneV,tokAgg,extract_take]
    ·exact (Below.refl _ _).alloc (Nat.le_refl _) _
  ·go_wp2_with fail;refine bodyPost_ret (v:=oneV (.bad 2) s.data.toList 0) ?_ rfl ⟨by rw [markTok_none (by rw [HR.out,List.drop_eq_nil_of_le (by simp [markList];omega)];rfl)],?_⟩
   ·simp [results,Tryz.results95,go_sem,oneV,tokAgg];rfl
   ·exact (Below.refl _ _).alloc (Nat.le_refl _) _
theorem oneTok_pos (s:ByteArray)(h:0<s.size):oneTok s.data.toList=if isLetter s[0] then wordTok s.data.toList else if isDigit s[0] then numTok s.data.toList else markTok s.data.toList:=by
 have e:=list_of_pos s h;generalize s.data.toList.drop 1=t at e;rw [e];rfl
theorem oneV_form (r:OneR)(l:Bytes)(pos:Nat):∃ k p x n e,oneV r l pos=.tuple #[.agg #[.int .i64 k,.int .i64 p,.string x,.int .i64 n],.int .i64 e]:=by
 cases r <;> exact⟨_,_,_,_,_,rfl⟩
set_option maxHeartbeats 400000 in
theorem lex_token (s:ByteArray)(w:World)(hs:s.size≤65536)(hL:Laid w)(h0:0<s.size):Calls Tryz.prog 71 #[.string s] w (OneP (oneTok s.data.toList) s.data.toList 0 w):=by
 have HL:=Lib.hid hL;have HS:=Lib.hid hs;clear hL;have HO:=Lib.hid (oneTok_pos s h0);go_enter Tryz.func71,Tryz.ntmps71;go_wp2_with fail;refine (lex_letter _ _).mono ?_;rintro e w' ⟨rfl,rfl⟩;cases hl:isLetter s[0]
 ·have HLt:=Lib.hid hl;go_wp2_with fail;refine (lex_digit _ _).mono ?_;rintro e w' ⟨rfl,rfl⟩;cases hd:isDigit s[0]
  ·have HD:=Lib.hid hd;go_wp2_with fail;refine (lex_mark s _ HS.out (HL.out.alloc _)).mono ?_;rintro e w2 ⟨rfl,hb⟩;obtain⟨k,p,x,n,er,hv⟩:=oneV_form (markTok s.data.toList) s.data.toList 0;rw [hv];have HV:=Lib.hid hv;clear hv;have HBE:=Lib.hid hb;obtain⟨hc,hf⟩:=bcell hb;have hz:w.heap.size<w2.heap.size:=by have:=hb.size;simp at this;omega
   clear hb;go_wp2_with fail;refine bodyPost_ret (v:=oneV (markTok s.data.toList) s.data.toList 0) ?_ rfl ⟨by rw [HO.out,HLt.out,HD.out];rfl,?_⟩
   ·rw [HV.out];simp [results,Tryz.results71,go_sem,hc]
   ·exact below_set4 (((Below.refl _ _).alloc (Nat.le_refl _) _).trans (HBE.out.mono (by simp))) (Nat.le_refl _) _ _ _ _
  ·have HD:=Lib.hid hd;go_wp2_with fail;refine (lex_number s _ HS.out (HL.out.alloc _) h0 HD.out).mono ?_;rintro e w2 ⟨rfl,hb⟩;obtain⟨k,p,x,n,er,hv⟩:=oneV_form (numTok s.data.toList) s.data.toList 0;rw [hv];have HV:=Lib.hid hv;clear hv;have HBE:=Lib.hid hb;obtain⟨hc,hf⟩:=bcell hb;have hz:w.heap.size<w2.heap.size:=by have:=hb.size;simp at this;omega
   clear hb;go_wp2_with fail;refine bodyPost_ret (v:=oneV (numTok s.data.toList) s.data.toList 0) ?_ rfl ⟨by rw [HO.out,HLt.out,HD.out];rfl,?_⟩
   ·rw [HV.out];simp [results,Tryz.results71,go_sem,hc]
   ·exact below_set4 (((Below.refl _ _).alloc (Nat.le_refl _) _).trans (HBE.out.mono (by simp))) (Nat.le_refl _) _ _ _ _
 ·have HLt:=Lib.hid hl;go_wp2_with fail;refine (lex_word s _ (by unfold maxLen;omega) (HL.out.alloc _)).mono ?_;rintro e w2 ⟨rfl,hb⟩;obtain⟨k,p,x,n,er,hv⟩:=oneV_form (wordTok s.data.toList) s.data.toList 0;rw [hv];have HV:=Lib.hid hv;clear hv;have HBE:=Lib.hid hb;obtain⟨hc,hf⟩:=bcell hb;have hz:w.heap.size<w2.heap.size:=by have:=hb.size;simp at this;omega
  clear hb;go_wp2_with fail;refine bodyPost_ret (v:=oneV (wordTok s.data.toList) s.data.toList 0) ?_ rfl ⟨by rw [HO.out,HLt.out];rfl,?_⟩
  ·rw [HV.out];simp [results,Tryz.results71,go_sem,hc]
  ·exact below_set4 (((Below.refl _ _).alloc (Nat.le_refl _) _).trans (HBE.out.mono (by simp))) (Nat.le_refl _) _ _ _ _
end
section
open Lx Go.RowKit
theorem get_at_plus (s:ByteArray)(i:Nat)(h:i<s.size):s.get! i=s[i]'h:=get_at s i h
theorem decode_bytes (s:ByteArray)(pos:Nat)(h:pos<s.size)(ha:128≤(s[pos]'h).toNat)(j:Nat)(hj:j<(Utf8.decode s pos).2):∃ h':pos+j<s.size,128≤(s[pos+j]'h').toNat:=by
 have hn:¬ (s[pos]'h).toNat<128:=by omega
 have hcont:∀ k,(decide (pos+k<s.size) && (s.get! (pos+k)).toNat / 64 == 2)=true→∃ h':pos+k<s.size,128≤(s[pos+k]'h').toNat:=by
  intro k hk;simp only [Bool.and_eq_true,decide_eq_true_eq,beq_iff_eq] at hk;refine⟨hk.1,?_⟩;rw [← get_at_plus s (pos+k) hk.1];omega
 simp only [Utf8.decode,get_at s pos h,hn,if_false] at hj;cases j with
 | zero=>exact⟨h,ha⟩
 | succ j =>
   split at hj
   ·rename_i hb;simp only [Bool.and_eq_true] at hb;have c1:=hcont 1 (by simpa using hb.2);split at hj
    ·obtain rfl:j=0:=by simp at hj;omega
     exact c1
    ·simp at hj
   ·split at hj
    ·rename_i hb;simp only [Bool.and_eq_true] at hb;have c1:=hcont 1 (by simpa using hb.1.2);have c2:=hcont 2 (by simpa using hb.2);split at hj
     ·have hj':j=0∨j=1:=by simp at hj;omega
      rcases hj' with rfl | rfl
      ·exact c1
      ·exact c2
     ·simp at hj
    ·split at hj
     ·rename_i hb;simp only [Bool.and_eq_true] at hb;have c1:=hcont 1 (by simpa using hb.1.1.2);have c2:=hcont 2 (by simpa using hb.1.2);have c3:=hcont 3 (by simpa using hb.2);split at hj
      ·have hj':j=0∨j=1∨j=2:=by simp at hj;omega
       rcases hj' with rfl | rfl | rfl
       ·exact c1
       ·exact c2
       ·exact c3
      ·simp at hj
     ·simp at hj
theorem next_at {P:Program}(w:World)(k:Nat)(s:ByteArray)(pos:Nat)(hk:w.heap[k]?=some (.stringIter s pos))(h:pos<s.size) :
  ∃ (r:Int) (wd:Nat),(∀ ty,(Instr.next (.pointer (some ⟨k,0,none⟩)) true ty).run P w=.ok (.tuple #[.bool true,.int .i64 pos,.int .i32 r]) (w.iterAt k s (pos+wd))) ∧
   1≤wd∧pos+wd≤s.size∧((s[pos]'h).toNat<128→r=(s[pos]'h).toNat∧wd=1)∧(128≤(s[pos]'h).toNat→128≤r∧∀ j,j<wd→∃ h':pos+j<s.size,128≤(s[pos+j]'h').toNat):=by
 by_cases ha:(s[pos]'h).toNat<128
 ·exact⟨_,1,fun ty=>Lib.run_next_ascii_at w k s pos ty hk h ha,Nat.le_refl _,by omega,fun _=>⟨rfl,rfl⟩,fun hb=>absurd ha (by omega)⟩
 ·have hb:128≤(s[pos]'h).toNat:=by omega
  have hd:=decode_high s pos h hb;refine⟨((Utf8.decode s pos).1:Nat),(Utf8.decode s pos).2,fun ty=>Lib.run_next_any_at w k s pos ty hk h,hd.2,?_,fun hc=>absurd hc ha,fun _=>⟨by omega,fun j hj=>decode_bytes s pos h hb j hj⟩⟩;obtain⟨h',_⟩:=decode_bytes s pos h hb ((Utf8.decode s pos).2-1) (by omega);omega
namespace Lx
theorem part_ascii {c:UInt8}(h:isPart c=true):c.toNat<128:=by
 simp [isPart,isLetter,isDigit] at h;omega
theorem span_ascii (p:UInt8→Bool)(hp:∀ c,p c=true→c.toNat<128)(l:Bytes)(j:Nat)(hj:j<spanOf p l):(l.getD j 0).toNat<128:=by
 induction l generalizing j with
 | nil=>simp [spanOf] at hj
 | cons c t ih =>
   simp only [spanOf] at hj;split at hj
   ·rename_i hc;cases j with
    | zero=>simpa using hp c hc
    | succ j=>simpa using ih j (by omega)
   ·omega
theorem mark_ascii {l:Bytes}{m:Nat}(h:markLen l=some m)(j:Nat)(hj:j<m):(l.getD j 0).toNat<128:=by
 simp only [markLen,Option.map_eq_some_iff] at h;obtain⟨x,hx,rfl⟩:=h;have h1:=List.find?_some hx;have h2:=List.mem_of_find?_eq_some hx;obtain⟨r,rfl⟩:=List.isPrefixOf_iff_prefix.1 h1;have hall:∀ y∈markList,∀ c∈y,c.toNat<128:=by decide
 have:=hall x h2 (x.getD j 0) (by rw [List.getD_eq_getElem?_getD,List.getElem?_eq_getElem hj];simp);simpa [List.getD_eq_getElem?_getD,List.getElem?_append_left hj] using this
theorem oneTok_ascii {l:Bytes}{k m n:Nat}(h:oneTok l=.ok k m n)(j:Nat)(hj:j<m):(l.getD j 0).toNat<128:=by
 cases l with
 | nil=>simp [oneTok] at h
 | cons c t =>
   simp only [oneTok] at h
   by_cases h1:isLetter c=true
   ·rw [if_pos h1] at h;simp only [wordTok] at h;split at h
    ·simp at h
    ·simp only [OneR.ok.injEq] at h;rw [← h.2.1] at hj;exact span_ascii _ (fun _=>part_ascii) _ _ hj
   ·rw [if_neg h1] at h
    by_cases h2:isDigit c=true
    ·rw [if_pos h2] at h;simp only [numTok] at h;split at h
     ·simp at h
     ·split at h
      ·simp at h
      ·simp only [OneR.ok.injEq] at h;rw [← h.2.1] at hj;exact span_ascii _ (fun _ hc=>part_ascii (part_of_digit hc)) _ _ hj
    ·rw [if_neg h2] at h;simp only [markTok] at h;cases hm:markLen (c::t) with
     | none=>rw [hm] at h;simp at h
     | some x =>
       rw [hm] at h;simp only [OneR.ok.injEq] at h;rw [← h.2.1] at hj;exact mark_ascii hm j hj
/-- The state of the lexer's loop: the offset, the offset behind the last token, in a comment, the tokens so far. -/
def Rest (l:Bytes)(pos nx:Nat)(cm:Bool)(out:List Tok):Prop :=
 (pos<nx∧cm=false∧(∀ j,pos≤j→j<nx→(l.getD j 0).toNat<128)∧lexAt false 0 l=after out (lexAt false nx (l.drop nx))) ∨
 (nx≤pos∧lexAt false 0 l=after out (lexAt cm pos (l.drop pos)))
theorem rest_start (l:Bytes):Rest l 0 0 false []:=.inr ⟨Nat.le_refl _,by rw [after_nil];rfl⟩
theorem getD_at (s:ByteArray)(j:Nat)(h:j<s.size):s.data.toList.getD j 0=s[j]:=by
 rw [List.getD_eq_getElem?_getD,List.getElem?_eq_getElem (by simpa using h)];rfl
theorem rest_in_ascii {s:ByteArray}{pos nx:Nat}{cm:Bool}{out:List Tok}(h:Rest s.data.toList pos nx cm out)(hp:pos<s.size)(hin:pos<nx):s[pos].toNat<128∧cm=false∧Rest s.data.toList (pos+1) nx cm out:=by
 rcases h with⟨_,rfl,ha,hl⟩ | ⟨hn,_⟩
 ·refine⟨by rw [← getD_at s pos hp];exact ha pos (Nat.le_refl _) hin,rfl,?_⟩
  by_cases h2:pos+1<nx
  ·exact .inl ⟨h2,rfl,fun j h3 h4=>ha j (by omega) h4,hl⟩
  ·obtain rfl:nx=pos+1:=by omega
   exact .inr ⟨Nat.le_refl _,hl⟩
 ·omega
theorem rest_out {l:Bytes}{pos nx:Nat}{cm:Bool}{out:List Tok}(h:Rest l pos nx cm out)(hin:¬ pos<nx):lexAt false 0 l=after out (lexAt cm pos (l.drop pos)):=by
 rcases h with⟨h1,_⟩ | ⟨_,hl⟩
 ·exact absurd h1 hin
 ·exact hl
theorem rest_line {s:ByteArray}{pos nx:Nat}{out:List Tok}(h:Rest s.data.toList pos nx true out)(hp:pos<s.size)(hin:¬ pos<nx)(hc:s[pos].toNat=10):Rest s.data.toList (pos+1) nx false out :=
 .inr ⟨by omega,by rw [rest_out h hin,drop_cons s pos hp,lexAt_line hc]⟩
theorem lexAt_comments (s:ByteArray)(pos:Nat):∀ k,pos+k≤s.size→(∀ j,j<k→∃ h:pos+j<s.size,s[pos+j].toNat≠10)→lexAt true pos (s.data.toList.drop pos)=lexAt true (pos+k) (s.data.toList.drop (pos+k)):=by
 intro k
 induction k with
 | zero=>intro _ _;rfl
 | succ k ih =>
   intro hk h;obtain⟨h1,h2⟩:=h k (by omega);rw [ih (by omega) (fun j hj=>h j (by omega)),drop_cons s (pos+k) h1,lexAt_comment h2];rfl
theorem rest_comment {s:ByteArray}{pos nx k:Nat}{out:List Tok}(h:Rest s.data.toList pos nx true out)(hin:¬ pos<nx)(hk:pos+k≤s.size)(hc:∀ j,j<k→∃ h:pos+j<s.size,s[pos+j].toNat≠10):Rest s.data.toList (pos+k) nx true out :=
 .inr ⟨by omega,by rw [rest_out h hin,lexAt_comments s pos k hk hc]⟩
theorem rest_sep {s:ByteArray}{pos nx:Nat}{out:List Tok}(h:Rest s.data.toList pos nx false out)(hp:pos<s.size)(hin:¬ pos<nx)(hc:isSep s[pos]=true):Rest s.data.toList (pos+1) nx false out :=
 .inr ⟨by omega,by rw [rest_out h hin,drop_cons s pos hp,lexAt_sep hc]⟩
theorem rest_open {s:ByteArray}{pos nx:Nat}{out:List Tok}(h:Rest s.data.toList pos nx false out)(hp:pos<s.size)(hin:¬ pos<nx)(hc:isSep s[pos]=false)(ho:opens s[pos] (s.data.toList.drop (pos+1))=true):Rest s.data.toList (pos+1) nx true out :=
 .inr ⟨by omega,by rw [rest_out h hin,drop_cons s pos hp,lexAt_open hc ho]⟩
theorem rest_bad {s:ByteArray}{pos nx e:Nat}{out:List Tok}(h:Rest s.data.toList pos nx false out)(hp:pos<s.size)(hin:¬ pos<nx)(hc:isSep s[pos]=false)(ho:opens s[pos] (s.data.toList.drop (pos+1))=false)(ht:oneTok (s.data.toList.drop pos)=.bad e) :
  lexAt false 0 s.data.toList=.error (pos,e):=by
 rw [drop_cons s pos hp] at ht;rw [rest_out h hin,drop_cons s pos hp,lexAt_bad hc ho ht];rfl
theorem rest_ok {s:ByteArray}{pos nx k m n:Nat}{out:List Tok}(h:Rest s.data.toList pos nx false out)(hp:pos<s.size)(hin:¬ pos<nx)(hc:isSep s[pos]=false)(ho:opens s[pos] (s.data.toList.drop (pos+1))=false)(ht:oneTok (s.data.toList.drop pos)=.ok k m n) :
  Rest s.data.toList (pos+1) (pos+m) false (out++[⟨k,pos,(s.data.toList.drop pos).take m,n⟩]):=by
 have hb:=oneTok_bounds ht;have ha:=fun j hj=>oneTok_ascii ht j hj
 have hl:lexAt false 0 s.data.toList=after (out++[⟨k,pos,(s.data.toList.drop pos).take m,n⟩]) (lexAt false (pos+m) (s.data.toList.drop (pos+m))):=by
  rw [rest_out h hin];have e:=drop_cons s pos hp;rw [e] at ht;rw [e,lexAt_ok hc ho ht,after_after,← e,List.drop_drop]
 by_cases h2:pos+1<pos+m
 ·refine .inl ⟨h2,rfl,fun j h3 h4=>?_,hl⟩;have:=ha (j-pos) (by omega);rw [List.getD_eq_getElem?_getD,List.getElem?_drop] at this;rw [List.getD_eq_getElem?_getD];rwa [show pos+(j-pos)=j from by omega] at this
 ·have:m=1:=by omega
  subst this;exact .inr ⟨Nat.le_refl _,hl⟩
theorem rest_end {s:ByteArray}{pos nx:Nat}{cm:Bool}{out:List Tok}(h:Rest s.data.toList pos nx cm out)(hp:pos=s.size)(hn:nx≤s.size):lexAt false 0 s.data.toList=.ok (out++[⟨5,s.size,[],0⟩]):=by
 subst hp;rw [rest_out h (by omega),List.drop_eq_nil_of_le (by rw [len_list];exact Nat.le_refl _),lexAt_nil];rfl
theorem sep_of {c:UInt8}{r:Int}(hr:r=c.toNat):isSep c=true↔(r=32∨r=9∨r=13∨r=10):=by
 simp only [isSep,decide_eq_true_eq];omega
theorem opens_eq (s:ByteArray)(pos:Nat)(hp:pos<s.size):([47,47]:Bytes).isPrefixOf (s.data.toList.drop pos)=opens s[pos] (s.data.toList.drop (pos+1)):=by
 rw [drop_cons s pos hp];generalize s.data.toList.drop (pos+1)=t;generalize s[pos]=c;rw [Bool.eq_iff_iff];simp only [opens,Bool.and_eq_true,decide_eq_true_eq];cases t with
 | nil=>simp
 | cons d u =>
   simp only [List.isPrefixOf,Bool.and_eq_true,beq_iff_eq,List.head?_cons,Option.some.injEq,and_true];refine and_congr ⟨fun h=>by rw [← h];rfl,fun h=>?_⟩ eq_comm;exact (UInt8.toNat_inj.1 (by simpa using h)).symm
end Lx
end
section
open Lx Go.RowKit
def tokCells (t:Tok):List Value:=[.int .i64 t.kind,.int .i64 t.pos,.string (strOf t.text),.int .i64 t.n]
def toksCells (ts:List Tok):List Value:=ts.flatMap tokCells
theorem toksCells_snoc (ts:List Tok)(t:Tok):toksCells (ts++[t])=toksCells ts++tokCells t:=by simp [toksCells]
/-- What a call of Tokens ends in. -/
def LexP (r:LexR)(w:World)(e:Ending)(w':World):Prop :=
 Below w.heap.size w w'∧match r with
  | .error (p,er)=>e=.returned (.tuple #[.slice none 0 0,.int .i64 p,.int .i64 er])
  | .ok ts=>∃ v,e=.returned (.tuple #[v,.int .i64 0,.int .i64 0])∧w'.ownsRow w.heap.size 89 4 v ts.length (toksCells ts)
theorem Tryz.infoTok:(Tryz.prog.info? 89).map (fun i=>(i.zero,i.size,i.bytes))=some (some (.agg #[.int .i64 0,.int .i64 0,.string ⟨#[]⟩,.int .i64 0]),4,40):=by kernel_rfl
theorem grownBy_of_below {w w':World}(h:Below w.heap.size w w'):w.grownBy w' none:=⟨h.os,h.tape,h.output,h.size,fun k hk _=>h.block k hk⟩
theorem own_below {w w':World}{base:Nat}{e:TypeId}{size n:Nat}{v:Value}{xs:List Value}(h:w.ownsRow base e size v n xs)(hb:Below w.heap.size w w'):w'.ownsRow base e size v n xs:=by
 refine h.kept (grownBy_of_below hb) ?_;cases v.ownBlock <;> simp
theorem oneTok_bad_pos {l:Bytes}{e:Nat}(h:oneTok l=.bad e):e=2∨e=3∨e=4:=by
 cases l with
 | nil=>simp [oneTok] at h;omega
 | cons c t =>
   simp only [oneTok] at h
   by_cases h1:isLetter c=true
   ·rw [if_pos h1] at h;simp only [wordTok] at h;split at h
    ·simp at h;omega
    ·cases h
   ·rw [if_neg h1] at h
    by_cases h2:isDigit c=true
    ·rw [if_pos h2] at h;simp only [numTok] at h;split at h
     ·simp at h;omega
     ·split at h
      ·simp at h;omega
      ·cases h
    ·rw [if_neg h2] at h;simp only [markTok] at h;cases hm:markLen (c::t) with
     | none=>rw [hm] at h;simp at h;omega
     | some x=>rw [hm] at h;cases h
def TokRel (s:ByteArray)(w:World)(v nx cm:Value)(wr:World):Prop :=
 ∃ (pos n:Nat) (b:Bool) (out:List Tok),nx=.int .i64 n∧cm=.bool b∧wr.heap[w.heap.size]?=some (.stringIter s pos)∧pos≤s.size∧n≤s.size∧out.length≤n ∧
  wr.ownsRow (w.heap.size+1) 89 4 v out.length (toksCells out)∧Below w.heap.size w wr∧Lx.Rest s.data.toList pos n b out
/-- Behind the append: the iterator, what was there, the token's own cell. -/
theorem tok_step {w W1 W2 w1:World}{s:ByteArray}{p n:Nat}{v:Value}{xs:List Value}(o2:Obj)(cs:Array Value)(hb:Below w.heap.size w W1)(hk:W1.heap[w.heap.size]?=some (.stringIter s p))
  (ho:W1.ownsRow (w.heap.size+1) 89 4 v n xs) (hb2:Below W1.heap.size W1 W2) (hg:((W2.alloc (.cells cs 89)).alloc o2).grownBy w1 v.ownBlock) :
  w1.heap[w.heap.size]?=some (.stringIter s p)∧Below w.heap.size w w1∧∀ j,w1.cell? ⟨W2.heap.size,j,none⟩=cs[j]?:=by
 have hlt:=lt_of_heap hk;have ho2:=own_below ho hb2;have hrow:∀ k,v.ownBlock=some k→w.heap.size+1≤k∧k<W2.heap.size:=ho2.lt;have hsz:=hb2.size;have hs1:(W2.alloc (.cells cs 89)).heap.size=W2.heap.size+1:=by simp
 have hs2:((W2.alloc (.cells cs 89)).alloc o2).heap.size=W2.heap.size+2:=by simp
 have hbs:=hb.size;refine⟨?_,?_,?_⟩
 ·rw [hg.block _ (by omega) (fun e=>by have:=hrow _ e.symm;omega),Below.heap_alloc _ _ _ (by omega),Below.heap_alloc _ _ _ (by omega),hb2.block _ hlt];exact hk
 ·exact Below.grown (((hb.trans (hb2.mono hbs)).alloc (by omega) _).alloc (by omega) _) hg (by omega) (fun k e=>by have:=hrow k e;omega)
 ·intro j;rw [World.cell?_of_block (w:=(W2.alloc (.cells cs 89)).alloc o2) (hg.block _ (by simp;omega) (fun e=>by have:=hrow _ e.symm;simp at this))];rw [World.cell?_of_block (w:=W2.alloc (.cells cs 89)) (Below.heap_alloc _ _ _ (by simp))];exact World.cell?_alloc_new _ _ _ _
theorem cells4_new (w:World)(a b c d:Value)(t:TypeId):∀ j u,[a,b,c,d][j]?=some u→(w.alloc (.cells #[a,b,c,d] t)).cell? ((⟨w.heap.size,0,none⟩:Addr).add j)=some u:=by
 intro j u hj;have e:((⟨w.heap.size,0,none⟩:Addr).add j)=⟨w.heap.size,j,none⟩:=by
  unfold Addr.add;split
  ·rename_i h;rw [h]
  ·simp
 rw [e,World.cell?_alloc_new];simpa using hj
set_option maxHeartbeats 1000000 in
set_option maxRecDepth 100000 in
theorem lex_Tokens (s:ByteArray)(w:World)(hs:s.size≤maxLen)(hL:Laid w):Calls Tryz.prog 48 #[.string s] w (LexP (tokensOf s.data.toList) w):=by
 unfold maxLen at hs;have HL:=Lib.hid hL;clear hL
 by_cases h1:65536<s.size
 ·go_enter Tryz.func48,Tryz.ntmps48;go_wp2_with fail
  go_ret3
  refine⟨Below.refl _ _,?_⟩;rw [tokensOf,if_pos (by rw [len_list];exact h1)];rfl
 have HT:Hid (tokensOf s.data.toList=lexAt false 0 s.data.toList):=by show _=_;rw [tokensOf,if_neg (by rw [len_list];exact h1)]
 have hk0:(w.iter s 0).heap[w.heap.size]?=some (.stringIter s 0):=World.iter_heap w s 0;have hb0:Below w.heap.size w (w.iter s 0):=(Below.refl _ _).alloc (Nat.le_refl _) _;go_enter Tryz.func48,Tryz.ntmps48;go_wp2_with fail
 go_loopw [5,6,7] (fun v nx cm wr=>TokRel s w v nx cm wr) (fun _ _ _ wr=>s.size-wr.iterPos w.heap.size)
 case atStart=>exact⟨0,0,false,[],rfl,rfl,hk0,Nat.zero_le _,Nat.zero_le _,Nat.le_refl _,World.ownsRow_nil _ _ _ _,hb0,rest_start _⟩
 case round =>
  obtain⟨pos,n,b,out,rfl,rfl,hk,hps,hn,hlen,hown,hbel,hrest⟩:=hrel;clear hk0 hb0
  by_cases hp:pos<s.size
  ·obtain⟨r,wd,hnext,hwd1,hwd2,hr1,hr2⟩:=next_at (P:=Tryz.prog) wr w.heap.size s pos hk hp;have hk1:=Lib.iterAt_heap wr w.heap.size s pos (pos+wd) hk;have hbel1:Below w.heap.size w (wr.iterAt w.heap.size s (pos+wd)):=Lib.below_iterAt hbel (Nat.le_refl _) s (pos+wd);have hown1:=ownsRow_iterAt hown (Nat.lt_succ_self w.heap.size) s (pos+wd);have HM:Hid (wr.iterPos w.heap.size=pos):=iterPos_of hk;generalize wr.iterAt w.heap.size s (pos+wd)=W1 at hnext hk1 hbel1 hown1;have HK:=Lib.hid hk1;have HM1:Hid (W1.iterPos w.heap.size=pos+wd):=iterPos_of hk1;have HB:=Lib.hid hbel1;have HO:=Lib.hid hown1;have HR:=Lib.hid hrest;have HR1:=Lib.hid hr1;have HR2:=Lib.hid hr2;clear hk hk1 hbel hbel1 hown hown1 hrest hr1 hr2
   by_cases hin:pos<n
   ·obtain⟨ha,hb',hre⟩:=rest_in_ascii HR.out hp hin;obtain⟨hrr,rfl⟩:=HR1.out ha;have HRE:=Lib.hid hre;clear hre hrr ha hb';go_wp2_with fail
    go_roundw
    case rel=>exact⟨pos+1,n,b,out,rfl,rfl,HK.out,by omega,hn,hlen,HO.out,HB.out,HRE.out⟩
    case measure=>rw [HM.out,HM1.out];omega
   ·cases b
    ·cases hsep:isSep s[pos]
     ·have hne:¬ r=32∧¬ r=9∧¬ r=13∧¬ r=10:=by
       by_cases ha:s[pos].toNat<128
       ·have:=(not_congr (sep_of (HR1.out ha).1)).1 (by rw [hsep];simp);omega
       ·have:=(HR2.out (by omega)).1;omega
      have e1:(r == 32)=false:=beq_eq_false_iff_ne.2 hne.1;have e2:(r == 9)=false:=beq_eq_false_iff_ne.2 hne.2.1;have e3:(r == 13)=false:=beq_eq_false_iff_ne.2 hne.2.2.1;have e4:(r == 10)=false:=beq_eq_false_iff_ne.2 hne.2.2.2;have HSEP:=Lib.hid hsep;clear hne hsep;go_wp2_with fail;refine (has_prefix _ _ _).mono ?_;rintro e w' ⟨rfl,rfl⟩;have hx:(({ data:=#[47,47] }:ByteArray).data.toList.isPrefixOf (s.extract pos s.size).data.toList)=opens s[pos] (s.data.toList.drop (pos+1)):=by
       rw [Lib.extract_to_end];exact opens_eq s pos hp
      rw [hx];clear hx;cases hop:opens s[pos] (s.data.toList.drop (pos+1))
      ·have HOP:=Lib.hid hop;have hxs:(s.extract pos s.size).size≤65536:=by rw [extract_strOf,strOf_size];simp;omega
       have hx0:0<(s.extract pos s.size).size:=by rw [extract_strOf,strOf_size];simp;omega
       have HX:=Lib.hid (Lib.extract_to_end s pos);go_wp2_with fail;refine (lex_token (s.extract pos s.size) _ hxs (HL.out.below HB.out (Nat.le_refl _)) hx0).mono ?_;rintro e W2 ⟨rfl,hb2⟩;rw [HX.out];have HB2:=Lib.hid hb2;obtain⟨hc,hf⟩:=bcell hb2;have hz:W1.heap.size≤W2.heap.size:=hb2.size;clear hb2;cases ht:oneTok (s.data.toList.drop pos) with
       | bad er =>
         have HTK:=Lib.hid ht;have her:((er:Int) == 0)=false:=by rw [beq_eq_false_iff_ne];have:=oneTok_bad_pos ht;omega
         have her':((er:Int) != 0)=true:=by rw [bne_iff_ne];have:=oneTok_bad_pos ht;omega
         simp only [oneV,tokAgg];go_wp2_with fail
         go_ret3
         refine⟨(HB.out.trans (HB2.out.mono HB.out.size)).alloc (by have:=HB.out.size;omega) _,?_⟩;rw [HT.out,rest_bad HR.out hp hin HSEP.out HOP.out HTK.out];rfl
       | ok k m n' =>
         have HTK:=Lib.hid ht;have hmb:=oneTok_bounds ht;have hml:m≤s.size-pos:=by have:=hmb.2;simpa using this
         have hmsz:(strOf ((s.data.toList.drop pos).take m)).size=m:=by rw [strOf_size];simp;omega
         have hasc:=oneTok_ascii ht 0 hmb.1;rw [List.getD_eq_getElem?_getD,List.getElem?_drop,Nat.add_zero,← List.getD_eq_getElem?_getD,getD_at s pos hp] at hasc;obtain⟨_,rfl⟩:=HR1.out hasc;clear ht hasc;simp only [oneV,tokAgg];obtain⟨i0,hi,hz0,hz1,hz2⟩:=info_parts Tryz.infoTok;have HI:=Lib.hid hi;have HZ0:=Lib.hid hz0;have HZ1:=Lib.hid hz1;have HZ2:=Lib.hid hz2;clear hi hz0 hz1 hz2
         go_wp2_with (at_builtin;refine wpList_append_own _ rfl _ _ 80 rfl (w.heap.size+1) 89 i0 _ 4 40 Tryz.underlying80 HI.out HZ0.out HZ1.out HZ2.out rfl (by decide) _ _ _ rfl (((own_below HO.out HB2.out).alloc _).alloc _) ⟨W2.heap.size+1,0,none⟩ 1 1 (tokCells ⟨k,pos,(s.data.toList.drop pos).take m,n'⟩) rfl rfl ?c1 ?c2 ?c3 ?c4 ?c5 ?_)
         case c1=>exact fun j u h=>h
         case c2=>intro u hu;simp [tokCells] at hu;rcases hu with rfl | rfl | rfl | rfl <;> rfl
         case c3=>unfold maxLen;omega
         case c4=>omega
         case c5=>have:=HB.out.size;simp;omega
         intro v' w1 hown' hgrow _;obtain⟨hit,hbw,hcs⟩:=tok_step _ _ HB.out HK.out HO.out HB2.out hgrow;have hcell:=hcs 2;simp only [List.getElem?_toArray] at hcell;have HOW:Hid (w1.ownsRow (w.heap.size+1) 89 4 v' (out++[(⟨k,pos,(s.data.toList.drop pos).take m,n'⟩:Tok)]).length (toksCells (out++[⟨k,pos,(s.data.toList.drop pos).take m,n'⟩]))):=by
          rw [toksCells_snoc,List.length_append];exact hown'
         have HIT:=Lib.hid hit;have HBW:=Lib.hid hbw;have HMM:Hid (w1.iterPos w.heap.size=pos+1):=iterPos_of hit;clear hit hbw hcs hown' hgrow;go_wp2_with fail
         go_roundw
         case rel=>exact⟨pos+1,pos+m,false,_,by go_num,rfl,HIT.out,by omega,by omega,by simp;omega,HOW.out,HBW.out,rest_ok HR.out hp hin HSEP.out HOP.out HTK.out⟩
         case measure=>rw [HM.out,HMM.out];omega
      ·have HOP:=Lib.hid hop;have hc47:s[pos].toNat<128:=by simp [opens] at hop;omega
       obtain⟨_,rfl⟩:=HR1.out hc47;clear hop;go_wp2_with fail
       go_roundw
       case rel=>exact⟨pos+1,n,true,out,rfl,rfl,HK.out,by omega,hn,hlen,HO.out,HB.out,rest_open HR.out hp hin HSEP.out HOP.out⟩
       case measure=>rw [HM.out,HM1.out];omega
     ·have hsp:=(sep_of (c:=s[pos]) rfl).1 hsep;obtain⟨hr,rfl⟩:=HR1.out (by omega);have HSEP:=Lib.hid hsep;have hor:r=32∨r=9∨r=13∨r=10:=by omega
      clear hr hsep hsp;rcases hor with rfl | rfl | rfl | rfl
      all_goals
       go_wp2_with fail
       go_roundw
       case rel=>exact⟨pos+1,n,false,out,rfl,rfl,HK.out,by omega,hn,hlen,HO.out,HB.out,rest_sep HR.out hp hin HSEP.out⟩
       case measure=>rw [HM.out,HM1.out];omega
    ·by_cases hc:s[pos].toNat=10
     ·obtain⟨hr,rfl⟩:=HR1.out (by omega);have e4:(r != 10)=false:=by rw [bne_eq_false_iff_eq];omega
      have HC:=Lib.hid hc;clear hr hc;go_wp2_with fail
      go_roundw
      case rel=>exact⟨pos+1,n,false,out,rfl,rfl,HK.out,by omega,hn,hlen,HO.out,HB.out,rest_line HR.out hp hin HC.out⟩
      case measure=>rw [HM.out,HM1.out];omega
     ·have hr:r≠10:=by
       by_cases ha:s[pos].toNat<128
       ·have:=(HR1.out ha).1;omega
       ·have:=(HR2.out (by omega)).1;omega
      have HC:Hid (∀ j,j<wd→∃ h:pos+j<s.size,s[pos+j].toNat≠10):=by
       intro j hj
       by_cases ha:s[pos].toNat<128
       ·obtain⟨_,rfl⟩:=HR1.out ha;obtain rfl:j=0:=by omega
        exact⟨hp,hc⟩
       ·obtain⟨h',h''⟩:=(HR2.out (by omega)).2 j hj;exact⟨h',by omega⟩
      have e4:(r != 10)=true:=by rw [bne_iff_ne];exact hr
      clear hr hc;go_wp2_with fail
      go_roundw
      case rel=>exact⟨pos+wd,n,true,out,rfl,rfl,HK.out,by omega,hn,hlen,HO.out,HB.out,rest_comment HR.out hin hwd2 HC.out⟩
      case measure=>rw [HM.out,HM1.out];omega
  ·have hnext:=fun ty=>Lib.run_next_end_at (P:=Tryz.prog) wr w.heap.size s pos ty hk hp
   have HE:=Lib.hid (rest_end hrest (by omega) hn);have HO:=Lib.hid hown;have HB:=Lib.hid hbel;have hsz:w.heap.size+1≤wr.heap.size:=lt_of_heap hk;clear hrest hown hbel hk;obtain⟨i0,hi,hz0,hz1,hz2⟩:=info_parts Tryz.infoTok;have HI:=Lib.hid hi;have HZ0:=Lib.hid hz0;have HZ1:=Lib.hid hz1;have HZ2:=Lib.hid hz2;clear hi hz0 hz1 hz2
   go_wp2_with (at_builtin;refine wpList_append_own _ rfl _ _ 80 rfl (w.heap.size+1) 89 i0 _ 4 40 Tryz.underlying80 HI.out HZ0.out HZ1.out HZ2.out rfl (by decide) _ _ _ rfl (HO.out.alloc _) ⟨wr.heap.size,0,none⟩ 1 1 (tokCells ⟨5,s.size,[],0⟩) rfl rfl ?c1 ?c2 ?c3 ?c4 ?c5 ?_)
   case c1=>exact cells4_new _ _ _ _ _ _
   case c2=>intro u hu;simp [tokCells] at hu;rcases hu with rfl | rfl | rfl | rfl <;> rfl
   case c3=>unfold maxLen;omega
   case c4=>omega
   case c5=>simp;omega
   intro v' w1 hown' hgrow _;go_wp2_with fail
   go_ret3
   refine⟨Below.grown (HB.out.alloc (by omega) _) hgrow (by simp;omega) (fun k e=>by have:=HO.out.lt k e;omega),?_⟩;rw [HT.out,HE.out];refine⟨v',rfl,?_⟩;rw [toksCells_snoc,List.length_append];obtain⟨h1',h2'⟩:=hown';exact⟨h1',h2'.imp id fun ⟨g,cap,cur,a,b,c⟩=>⟨g,cap,cur,a,by omega,c⟩⟩
end
end Go.Proofs.YtmlafcimjhnhhaaGreatDoor
