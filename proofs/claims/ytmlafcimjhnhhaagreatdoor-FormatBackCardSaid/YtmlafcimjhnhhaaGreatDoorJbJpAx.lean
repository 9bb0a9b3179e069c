/-
  The rule args, walked (walks printed by genpar.py).
-/
import Derived.Test.YtmlafcimjhnhhaaGreatDoorJbWk
set_option linter.unusedSectionVars false
set_option linter.unusedSimpArgs false
set_option linter.unnecessarySimpa false
set_option linter.unusedVariables false
namespace Go.Proofs.YtmlafcimjhnhhaaGreatDoor
section
open Lx Go.RowKit
theorem Tryz.infoEx:(Tryz.prog.info? 24).map (fun i=>(i.zero,i.size,i.bytes))=some (some (.agg #[.int .i64 0,.int .i64 0,.string ⟨#[]⟩,.string ⟨#[]⟩,.slice none 0 0]),5,72):=by kernel_rfl
/-- The value of a rule that gives a list of expressions. -/
def QEs (lo:Nat)(l:List Ex)(r:Value)(w':World):Prop:=∃ (a:Option Addr) (n c:Nat),r=.slice a n c∧(fExs l (.slice a n c)).holds (lo≤·) w'
def QEs2 (lo:Nat)(l:List Ex)(r:Value)(w':World):Prop:=(l=[]∧r=.slice none 0 0)∨(l≠[]∧∃ (g n c:Nat),r=.slice (some ⟨g,0,none⟩) n c∧(fExs l r).holds (lo≤·) w')
theorem QEs2.weak {lo:Nat}{l:List Ex}{r:Value}{w':World}(h:QEs2 lo l r w'):QEs lo l r w':=by
 rcases h with⟨rfl,rfl⟩ | ⟨_,g,n,c,rfl,h⟩
 ·exact⟨_,_,_,rfl,fExs.nil _ _⟩
 ·exact⟨_,_,_,rfl,h⟩
theorem POut.mono {α:Type}{pb g cap:Nat}{ts:List Tok}{w:World}{Q Q':α→Value→World→Prop}{r:PR α}{e:Ending}{w':World}(h:POut pb g cap ts w Q r e w')(hQ:∀ a v,Q a v w'→Q' a v w'):POut pb g cap ts w Q' r e w':=by
 match r,h with
 | .error q,h=>exact h
 | .ok (a,j),h=>obtain⟨hg,v,he,h1,h2⟩:=out_ok h;exact⟨hg,v,he,hQ a v h1,h2⟩
theorem QEx.of {lo:Nat}{e:Ex}{k n:Int}{o m:ByteArray}{a:Option Addr}{l c:Nat}{w:World}(h:(fEx e [.int .i64 k,.int .i64 n,.string o,.string m,.slice a l c]).holds (lo≤·) w):QEx lo e (.agg #[.int .i64 k,.int .i64 n,.string o,.string m,.slice a l c]) w:=by
 obtain⟨d,h⟩:=h;exact⟨d,k,n,o,m,a,l,c,rfl,h⟩
theorem QPo.of {lo:Nat}{e:Ex}{sh:Nat}{k n:Int}{o m:ByteArray}{a:Option Addr}{l c:Nat}{w:World}(h:(fEx e [.int .i64 k,.int .i64 n,.string o,.string m,.slice a l c]).holds (lo≤·) w):QPo lo (e,sh) (.tuple #[.agg #[.int .i64 k,.int .i64 n,.string o,.string m,.slice a l c],.int .i64 sh]) w:=by
 obtain⟨d,h⟩:=h;exact⟨d,k,n,o,m,a,l,c,rfl,h⟩
theorem QPo.of0 {lo:Nat}{e:Ex}{k n:Int}{o m:ByteArray}{a:Option Addr}{l c:Nat}{w:World}(h:(fEx e [.int .i64 k,.int .i64 n,.string o,.string m,.slice a l c]).holds (lo≤·) w):QPo lo (e,0) (.tuple #[.agg #[.int .i64 k,.int .i64 n,.string o,.string m,.slice a l c],.int .i64 0]) w:=QPo.of (sh:=0) h
theorem QPo.of3 {lo:Nat}{e:Ex}{k n:Int}{o m:ByteArray}{a:Option Addr}{l c:Nat}{w:World}(h:(fEx e [.int .i64 k,.int .i64 n,.string o,.string m,.slice a l c]).holds (lo≤·) w):QPo lo (e,3) (.tuple #[.agg #[.int .i64 k,.int .i64 n,.string o,.string m,.slice a l c],.int .i64 3]) w:=QPo.of (sh:=3) h
theorem is_true {pb g cap:Nat}{ts:List Tok}{i:Nat}{w:World}(x:ByteArray)(ht:isT ts i x.data.toList=true)(h:PEnv pb g cap ts i w):Calls Tryz.prog 59 #[.pointer (some ⟨pb,0,none⟩),.string x] w fun e w'=>e=.returned (.bool true)∧Below w.heap.size w w':=by
 have:=par_is x h;rw [ht] at this;exact this
theorem is_false {pb g cap:Nat}{ts:List Tok}{i:Nat}{w:World}(x:ByteArray)(ht:isT ts i x.data.toList=false)(h:PEnv pb g cap ts i w):Calls Tryz.prog 59 #[.pointer (some ⟨pb,0,none⟩),.string x] w fun e w'=>e=.returned (.bool false)∧Below w.heap.size w w':=by
 have:=par_is x h;rw [ht] at this;exact this
theorem one5 (k n:Int)(o m:ByteArray)(a:Option Addr)(l c:Nat):∀ u∈[Value.int .i64 k,.int .i64 n,.string o,.string m,.slice a l c],u.oneCell'=true:=by
 intro u hu;simp at hu;rcases hu with rfl | rfl | rfl | rfl | rfl <;> rfl
theorem fFlatEx.one {A:Nat→Prop}{w:World}{e:Ex}{cs:List Value}(he:(fEx e cs).holds A w)(hc:cs.length=5):(fFlatEx [e] cs).holds A w:=fFlatEx.snoc (l:=[]) (xs:=[]) ⟨0,Flat.nil⟩ he hc
/-- Where the loop of args stands. -/
def ArgsRel (pb g cap:Nat)(ts:List Tok)(E:Nat→PR Ex)(i:Nat)(w:World)(R:PR (List Ex))(v:Value)(wr:World):Prop :=
 ∃ (j q:Nat) (acc:List Ex) (xs:List Value) (gv cp:Nat),v=.slice (some ⟨gv,0,none⟩) acc.length cp∧PS pb g cap ts w j wr [] ⟨.slice (some ⟨gv,0,none⟩) acc.length cp,24,5,acc.length,xs⟩ (fFlatEx acc xs)∧ts.length-j<q∧i≤j∧acc.length≤j∧0<acc.length∧R=argsLoop ts E q acc j
section
variable {pb g cap:Nat} {ts:List Tok} {i:Nat} {w:World}
variable {E:Nat→PR Ex} {f:Nat} (hE:Adv E)
set_option maxHeartbeats 1000000 in
include hE in
theorem par_args (hT:TWF ts)(hP:∀ i w,PEnv pb g cap ts i w→ts.length-i<f→Calls Tryz.prog 25 #[.pointer (some ⟨pb,0,none⟩)] w (POut pb g cap ts w (QEx w.heap.size) (E i)))
  (h:PEnv pb g cap ts i w) (hi:ts.length-i<f+1):Calls Tryz.prog 112 #[.pointer (some ⟨pb,0,none⟩)] w (POut pb g cap ts w (QEs2 w.heap.size) (argsP ts E i)):=by
 obtain⟨R,hr⟩:∃ R,R=argsP ts E i:=⟨_,rfl⟩;rw [← hr];unfold argsP at hr;have R0:=Lib.hid hr;have hpb:=h.pb_lt;have hil:=h.lt;have S0:=Lib.hid h.ps;clear hr h;have HP:=Lib.hid hP;clear hP;go_enter Tryz.func112,Tryz.ntmps112;go_wp2_with fail;refine (par_expect hT _ (by decide) S0.out.env).mono ?_;intro e w1 ho;obtain⟨ch,rfl,hp⟩ | ⟨_,j1,v,rfl,rfl,hS,hr,hs1,hq1⟩:=S0.out.rule ho R0.out
 ·exact⟨rfl,hp⟩
 have hjl1:=hS.env.lt;have hadv1:=expectP_adv hq1;clear hq1;have S1:=Lib.hid hS;have R1:=Lib.hid hr;clear hS hr ho R0 S0;obtain⟨t,ht⟩:∃ t,isT ts (j1) [41]=t:=⟨_,rfl⟩;have hr:=R1.out;rw [ht] at hr;cases t
 ·rw [if_neg (by decide)] at hr;have R2n:=Lib.hid hr;have T2n:=Lib.hid ht;clear hr ht R1;go_wp2_with fail;refine (accept_false hT ⟨#[41]⟩ (by decide) T2n.out S1.out.env).mono ?_;rintro e w3 ⟨rfl,hg,hEv⟩;have hs3:=hg.size;have hjl3:=hEv.lt;have S3:=Lib.hid (S1.out.call hg hEv);clear hg hEv S1 T2n;go_wp2_with fail;refine (HP.out _ _ S3.out.env (by omega)).mono ?_;intro e w4 ho;obtain⟨ch,rfl,hp⟩ | ⟨x,j4,v,rfl,⟨d,k,n,o,m,a,l,c,rfl,hx⟩,hS,hr,hs4,hq4⟩:=S3.out.rule ho R2n.out
  ·exact⟨rfl,hp⟩
  have hjl4:=hS.env.lt;have hadv4:=hE _ _ _ hq4;clear hq4;have S4:=Lib.hid (hS.add S3.out (fEx x [.int .i64 k,.int .i64 n,.string o,.string m,.slice a l c]) ⟨d,hx⟩);have R4:=Lib.hid hr;clear hS hr ho R2n S3 hx;have S5:=Lib.hid (S4.out.alloc (w4.heap.size) (by simp) (.cells #[.int .i64 k,.int .i64 n,.string o,.string m,.slice a l c] 24));clear S4;go_wp2_with fail
  go_loopw [3] (fun v wr=>ArgsRel pb g cap ts E (i+1) w R v wr) (fun _ wr=>ts.length-nextOf pb wr)
  case atStart =>
   refine⟨j4,_,[x],[.int .i64 k,.int .i64 n,.string o,.string m,.slice a l c],w4.heap.size,1,rfl,(S5.out.toRow 0 rfl 5 1 rfl (by unfold maxLen;omega)).imp fun A hF=>fFlatEx.one hF.2 rfl,by omega,by omega,by simp;omega,by simp,R4.out⟩
  case round =>
   clear S5 R4;obtain⟨j,q,acc,xs,gv,cp,rfl,hS,hq,hij,hal,hpos,hr⟩:=hrel;have hnx:=Lib.hid hS.env.next_eq;have hjl:=hS.env.lt;have S:=Lib.hid hS;obtain⟨q,rfl⟩:∃ q',q=q'+1:=⟨q-1,by omega⟩;unfold argsLoop at hr;have RL:=Lib.hid hr;clear hr hS;obtain⟨t,ht⟩:∃ t,isT ts (j) [44]=t:=⟨_,rfl⟩;have hr:=RL.out;rw [ht] at hr;cases t
   ·rw [if_neg (by decide)] at hr;have R6n:=Lib.hid hr;have T6n:=Lib.hid ht;clear hr ht RL;go_wp2_with fail;refine (accept_false hT ⟨#[44]⟩ (by decide) T6n.out S.out.env).mono ?_;rintro e w7 ⟨rfl,hg,hEv⟩;have hs7:=hg.size;have hjl7:=hEv.lt;have S7:=Lib.hid (S.out.call hg hEv);clear hg hEv S T6n;go_wp2_with fail;refine (par_expect hT _ (by decide) S7.out.env).mono ?_;intro e w8 ho;obtain⟨ch,rfl,hp⟩ | ⟨_,j8,v,rfl,rfl,hS,hr,hs8,hq8⟩:=S7.out.rule ho R6n.out
    ·exact⟨rfl,hp⟩
    have hjl8:=hS.env.lt;clear hq8;have S8:=Lib.hid hS;have R8:=Lib.hid hr;clear hS hr ho R6n S7;go_wp2_with fail;refine bodyPost_ret (v:=.slice (some ⟨gv,0,none⟩) acc.length cp) ?_ rfl (S8.out.ret R8.out (.inr ⟨fun h=>by rw [h] at hpos;simp at hpos,_,_,_,rfl,(S8.out.whole (G:=fExs acc (.slice (some ⟨gv,0,none⟩) acc.length cp)) fun A hF hA=>fExs.of_row S8.out.wk.row hF hA).wk.fin⟩));simp [results,Tryz.results112,go_sem]
   ·rw [if_pos rfl] at hr;have R6y:=Lib.hid hr;have T6y:=Lib.hid ht;clear hr ht RL;go_wp2_with fail;refine (accept_true hT ⟨#[44]⟩ (by decide) T6y.out S.out.env).mono ?_;rintro e w9 ⟨rfl,hg,hEv⟩;have hs9:=hg.size;have hjl9:=hEv.lt;have S9:=Lib.hid (S.out.call hg hEv);clear hg hEv S T6y;go_wp2_with fail;refine (HP.out _ _ S9.out.env (by omega)).mono ?_;intro e w10 ho;obtain⟨ch,rfl,hp⟩ | ⟨x,j10,v,rfl,⟨d',k',n',o',m',a',l',c',rfl,hx⟩,hS,hr,hs10,hq10⟩:=S9.out.rule ho R6y.out
    ·exact⟨rfl,hp⟩
    have hjl10:=hS.env.lt;have hadv10:=hE _ _ _ hq10;clear hq10;have S10:=Lib.hid (hS.add S9.out (fEx x [.int .i64 k',.int .i64 n',.string o',.string m',.slice a' l' c']) ⟨d',hx⟩);have R10:=Lib.hid hr;clear hS hr ho R6y S9 hx;have S11:=Lib.hid (S10.out.alloc (w10.heap.size) (by simp) (.cells #[.int .i64 k',.int .i64 n',.string o',.string m',.slice a' l' c'] 24));clear S10;have hlen:=hT.len;obtain⟨i0,hi0,hz0,hz1,hz2⟩:=info_parts Tryz.infoEx;have HI:=Lib.hid hi0;have HZ0:=Lib.hid hz0;have HZ1:=Lib.hid hz1;have HZ2:=Lib.hid hz2;clear hi0 hz0 hz1 hz2
    go_wp2_with (at_builtin;refine wpList_append_lies _ rfl _ _ 22 rfl w.heap.size 24 i0 _ 5 72 Tryz.underlying22 HI.out HZ0.out HZ1.out HZ2.out rfl (by decide) _ _ _ rfl S11.out.wk.row ⟨w10.heap.size,0,none⟩ 1 1 [.int .i64 k',.int .i64 n',.string o',.string m',.slice a' l' c'] rfl rfl ?c1 (one5 _ _ _ _ _ _ _) (by decide) ?c3 ?c4 ?c5 _ rfl ?_)
    case c1=>exact World.news_of_block (alloc_last _ _ _ rfl)
    case c3=>show acc.length+1≤maxLen;unfold maxLen;omega
    case c4=>show (acc.length+1)*72≤140737488355328;omega
    case c5=>exact S11.out.lo_le
    intro g' cp' w7 hown hgrow hat hlt;have S7:=Lib.hid (((S11.out.drop 0).append hown hgrow (hat.imp id fun h=>h.trans (by simp))).imp (G:=fFlatEx (acc++[x]) (xs++[.int .i64 k',.int .i64 n',.string o',.string m',.slice a' l' c'])) fun A hF=>fFlatEx.snoc hF.1 hF.2 rfl);have H7:=Lib.hid S7.out.env.next_eq;clear hown hgrow hat hlt S11;go_wp2_with fail
    go_roundw
    case rel=>exact⟨j10,q,acc++[x],_,g',cp',by simp,by simpa using S7.out,by omega,by omega,by simp;omega,by simp,R10.out⟩
    case measure=>rw [H7.out,hnx.out];omega
 ·rw [if_pos rfl] at hr;have R2y:=Lib.hid hr;have T2y:=Lib.hid ht;clear hr ht R1;go_wp2_with fail;refine (accept_true hT ⟨#[41]⟩ (by decide) T2y.out S1.out.env).mono ?_;rintro e w12 ⟨rfl,hg,hEv⟩;have hs12:=hg.size;have hjl12:=hEv.lt;have S12:=Lib.hid (S1.out.call hg hEv);clear hg hEv S1 T2y;go_wp2_with fail;refine bodyPost_ret (v:=.slice none 0 0) ?_ rfl (S12.out.ret R2y.out (.inl ⟨rfl,rfl⟩));simp [results,Tryz.results112,go_sem]
end
end
section
open Lx Go.RowKit
section
variable {pb g cap:Nat} {ts:List Tok} {i:Nat} {w:World}
variable {E:Nat→PR Ex} {f:Nat} (hE:Adv E)
set_option maxHeartbeats 1000000 in
theorem par_named (hT:TWF ts)(hP:∀ i w,PEnv pb g cap ts i w→ts.length-i<f+1→Calls Tryz.prog 112 #[.pointer (some ⟨pb,0,none⟩)] w (POut pb g cap ts w (QEs w.heap.size) (argsP ts E i)))
  (h:PEnv pb g cap ts i w) (hi:ts.length-i<f+1):Calls Tryz.prog 119 #[.pointer (some ⟨pb,0,none⟩)] w (POut pb g cap ts w (QPo w.heap.size) (namedP ts E i)):=by
 obtain⟨R,hr⟩:∃ R,R=namedP ts E i:=⟨_,rfl⟩;rw [← hr];unfold namedP at hr;have R0:=Lib.hid hr;have hpb:=h.pb_lt;have hil:=h.lt;have S0:=Lib.hid h.ps;clear hr h;have HP:=Lib.hid hP;clear hP;have S1:=Lib.hid (S0.out.alloc (w.heap.size) (by simp) (.cells #[.int .i64 0,.int .i64 0,.string ⟨#[]⟩,.string ⟨#[]⟩,.slice none 0 0] 24));clear S0;go_enter Tryz.func119,Tryz.ntmps119;go_wp2_with fail;refine (par_name hT S1.out.env).mono ?_;intro e w2 ho;obtain⟨ch,rfl,hp⟩ | ⟨n,j2,v,rfl,rfl,hS,hr,hs2,hq2⟩:=S1.out.rule ho R0.out
 ·exact⟨rfl,hp⟩
 have hjl2:=hS.env.lt;have hadv2:=nameP_adv hq2;clear hq2;have S2:=Lib.hid hS;have R2:=Lib.hid hr;clear hS hr ho R0 S1;replace hs2:w.heap.size+1≤w2.heap.size:=by simp at hs2;omega
 obtain⟨t,ht⟩:∃ t,isT ts (j2) [58,58]=t:=⟨_,rfl⟩;have hr:=R2.out;rw [ht] at hr;cases t
 ·rw [if_neg (by decide)] at hr;have R3n:=Lib.hid hr;have T3n:=Lib.hid ht;clear hr ht R2;obtain⟨⟨c4_0,c4_1,c4_2,c4_3,c4_4⟩,z4⟩:=S2.out.cells5 0 rfl;have l4:=(S2.out.blk 0 rfl).2.1;go_wp2_with fail;refine (accept_false hT ⟨#[58,58]⟩ (by decide) T3n.out S2.out.env).mono ?_;rintro e w5 ⟨rfl,hg,hEv⟩;have hs5:=hg.size;have hjl5:=hEv.lt;have S5:=Lib.hid (S2.out.call hg hEv);clear hg hEv S2 T3n;clear c4_0 c4_1 c4_2 c4_3 c4_4 z4 l4;obtain⟨⟨c6_0,c6_1,c6_2,c6_3,c6_4⟩,z6⟩:=S5.out.cells5 0 rfl;have l6:=(S5.out.blk 0 rfl).2.1;go_wp2_with fail;have S7:=Lib.hid (S5.out.set5 0 rfl (.int .i64 3) (.int .i64 0) (.string ⟨#[]⟩) (.string (strOf n)) (.slice none 0 0) [(w.heap.size,(.cells #[.int .i64 3,.int .i64 0,.string ⟨#[]⟩,.string (strOf n),.slice none 0 0] 24))] rfl);clear S5;refine bodyPost_ret (v:=.tuple #[.agg #[.int .i64 3,.int .i64 0,.string ⟨#[]⟩,.string (strOf n),.slice none 0 0],.int .i64 1]) ?_ rfl (S7.out.ret R3n.out ⟨1,_,_,_,_,_,_,_,rfl,_,rfl,Nat.zero_le _,.inl ⟨rfl,_,_,rfl⟩⟩);simp [results,Tryz.results119,go_sem,c6_0,c6_1,c6_2,c6_3,c6_4]
 ·rw [if_pos rfl] at hr;have R3y:=Lib.hid hr;have T3y:=Lib.hid ht;clear hr ht R2;go_wp2_with fail;refine (accept_true hT ⟨#[58,58]⟩ (by decide) T3y.out S2.out.env).mono ?_;rintro e w8 ⟨rfl,hg,hEv⟩;have hs8:=hg.size;have hjl8:=hEv.lt;have S8:=Lib.hid (S2.out.call hg hEv);clear hg hEv S2 T3y;go_wp2_with fail;refine (par_name hT S8.out.env).mono ?_;intro e w9 ho;obtain⟨ch,rfl,hp⟩ | ⟨m,j9,v,rfl,rfl,hS,hr,hs9,hq9⟩:=S8.out.rule ho R3y.out
  ·exact⟨rfl,hp⟩
  have hjl9:=hS.env.lt;have hadv9:=nameP_adv hq9;clear hq9;have S9:=Lib.hid hS;have R9:=Lib.hid hr;clear hS hr ho R3y S8;have S10:=Lib.hid (S9.out.alloc (w9.heap.size) (by simp) (.cells #[.int .i64 10,.int .i64 0,.string (strOf n),.string (strOf m),.slice none 0 0] 24));clear S9;go_wp2_with fail;refine (HP.out _ _ S10.out.env (by omega)).mono ?_;intro e w11 ho;obtain⟨ch,rfl,hp⟩ | ⟨ks,j11,v,rfl,⟨ka,kn,kc,rfl,hx⟩,hS,hr,hs11,hq11⟩:=S10.out.rule ho R9.out
  ·exact⟨rfl,hp⟩
  have hjl11:=hS.env.lt;clear hq11;have S11:=Lib.hid (hS.add S10.out (fExs ks (.slice ka kn kc)) hx);have R11:=Lib.hid hr;clear hS hr ho R9 S10 hx;replace hs11:w9.heap.size+1≤w11.heap.size:=by simp at hs11;omega
  obtain⟨⟨c12_0,c12_1,c12_2,c12_3,c12_4⟩,z12⟩:=S11.out.cells5 1 rfl;have l12:=(S11.out.blk 1 rfl).2.1;obtain⟨⟨c13_0,c13_1,c13_2,c13_3,c13_4⟩,z13⟩:=S11.out.cells5 0 rfl;have l13:=(S11.out.blk 0 rfl).2.1;go_wp2_with fail;have S14:=Lib.hid (S11.out.setTo 0 rfl 4 (.slice ka kn kc) #[.int .i64 10,.int .i64 0,.string (strOf n),.string (strOf m),.slice ka kn kc] rfl [(w9.heap.size,(.cells #[.int .i64 10,.int .i64 0,.string (strOf n),.string (strOf m),.slice ka kn kc] 24)),(w.heap.size,(.cells #[.int .i64 0,.int .i64 0,.string ⟨#[]⟩,.string ⟨#[]⟩,.slice none 0 0] 24))] rfl);clear S11;have S15:=Lib.hid (S14.out.set5 1 rfl (.int .i64 10) (.int .i64 0) (.string (strOf n)) (.string (strOf m)) (.slice ka kn kc) [(w9.heap.size,(.cells #[.int .i64 10,.int .i64 0,.string (strOf n),.string (strOf m),.slice ka kn kc] 24)),(w.heap.size,(.cells #[.int .i64 10,.int .i64 0,.string (strOf n),.string (strOf m),.slice ka kn kc] 24))] rfl);clear S14;refine bodyPost_ret (v:=.tuple #[.agg #[.int .i64 10,.int .i64 0,.string (strOf n),.string (strOf m),.slice ka kn kc],.int .i64 3]) ?_ rfl (S15.out.ret R11.out (QPo.of3 (fEx.mk S15.out.wk.fin.2)));simp [results,Tryz.results119,go_sem,c12_0,c12_1,c12_2,c12_3,c12_4]
end
end
section
open Lx Go.RowKit
theorem fEx.leaf {A:Nat→Prop}{w:World}(k n:Int):(fEx (.mk k n [] [] []) [.int .i64 k,.int .i64 n,.string ⟨#[]⟩,.string ⟨#[]⟩,.slice none 0 0]).holds A w:=fEx.mk (fExs.nil _ _)
theorem fEx.leafN {A:Nat→Prop}{w:World}(k n:Int)(m:Bytes):(fEx (.mk k n [] m []) [.int .i64 k,.int .i64 n,.string ⟨#[]⟩,.string (strOf m),.slice none 0 0]).holds A w:=fEx.mk (fExs.nil _ _)
section
variable {pb g cap:Nat} {ts:List Tok} {i:Nat} {w:World}
variable {E:Nat→PR Ex} {f:Nat} (hE:Adv E)
set_option maxHeartbeats 1000000 in
theorem par_atom (hT:TWF ts)(hN:∀ i w,PEnv pb g cap ts i w→ts.length-i<f+1→Calls Tryz.prog 119 #[.pointer (some ⟨pb,0,none⟩)] w (POut pb g cap ts w (QPo w.heap.size) (namedP ts E i)))
  (hP:∀ i w,PEnv pb g cap ts i w→ts.length-i<f→Calls Tryz.prog 25 #[.pointer (some ⟨pb,0,none⟩)] w (POut pb g cap ts w (QEx w.heap.size) (E i)))
  (h:PEnv pb g cap ts i w) (hi:ts.length-i<f+1):Calls Tryz.prog 111 #[.pointer (some ⟨pb,0,none⟩)] w (POut pb g cap ts w (QPo w.heap.size) (atomP ts E i)):=by
 obtain⟨R,hr⟩:∃ R,R=atomP ts E i:=⟨_,rfl⟩;rw [← hr];unfold atomP at hr;have R0:=Lib.hid hr;have hpb:=h.pb_lt;have hil:=h.lt;have S0:=Lib.hid h.ps;clear hr h;have HP:=Lib.hid hP;clear hP;have HN:=Lib.hid hN;clear hN;have S1:=Lib.hid (S0.out.alloc (w.heap.size) (by simp) (.cells #[.int .i64 0,.int .i64 0,.string ⟨#[]⟩,.string ⟨#[]⟩,.slice none 0 0] 24));clear S0;have hnk:=hT.next_kind hil;have hm:=S1.out.env.len;unfold maxLen at hm;have hwr:IntKind.i64.wrap ((i:Int)+1)=(i:Int)+1:=IntWalk.i64_in _ (by omega);obtain⟨⟨kd,ps,tx,nv⟩,ht⟩:∃ t,tk ts i=t:=⟨_,rfl⟩;have hp:=par_peek S1.out.env;rw [ht] at hp hnk;unfold tokAgg at hp;have PK:=Lib.hid hp;have hr:=R0.out;rw [ht] at hr;clear hp ht R0
 by_cases hk1:kd=1
 ·subst hk1;rw [if_pos rfl] at hr;have RN:=Lib.hid (hr.trans (bindP_id _));clear hr hnk;go_enter Tryz.func111,Tryz.ntmps111;go_wp2_with fail;refine PK.out.mono ?_;rintro e w2 ⟨rfl,hb⟩;have hs2:=hb.size;have S2:=Lib.hid (S1.out.below hb);clear hb S1 PK;replace hs2:w.heap.size+1≤w2.heap.size:=by simp at hs2;omega
  have S3:=Lib.hid (S2.out.alloc (w2.heap.size) (by simp) (.cells #[.int .i64 1,.int .i64 (ps:Int),.string (strOf tx),.int .i64 (nv:Int)] 89));clear S2;go_wp2_with fail;refine (HN.out _ _ S3.out.env hi).mono ?_;intro e w4 ho;obtain⟨ch,rfl,hp⟩ | ⟨x,j4,v,rfl,⟨d,k,n,o,m,a,l,c,rfl,hx⟩,hS,hr,hs4,hq4⟩:=S3.out.rule ho RN.out
  ·exact⟨rfl,hp⟩
  have hjl4:=hS.env.lt;clear hq4;have S4:=Lib.hid (hS.add S3.out (fEx x.1 [.int .i64 k,.int .i64 n,.string o,.string m,.slice a l c]) ⟨d,hx⟩);have R4:=Lib.hid hr;clear hS hr ho RN S3 hx;replace hs4:w2.heap.size+1≤w4.heap.size:=by simp at hs4;omega
  obtain⟨x,sh⟩:=x;obtain⟨⟨c5_0,c5_1,c5_2,c5_3,c5_4⟩,z5⟩:=S4.out.cells5 1 rfl;have l5:=(S4.out.blk 1 rfl).2.1;go_wp2_with fail;have S6:=Lib.hid (S4.out.set5 1 rfl (.int .i64 k) (.int .i64 n) (.string o) (.string m) (.slice a l c) [(w2.heap.size,(.cells #[.int .i64 1,.int .i64 (ps:Int),.string (strOf tx),.int .i64 (nv:Int)] 89)),(w.heap.size,(.cells #[.int .i64 k,.int .i64 n,.string o,.string m,.slice a l c] 24))] rfl);clear S4;refine bodyPost_ret (v:=.tuple #[.agg #[.int .i64 k,.int .i64 n,.string o,.string m,.slice a l c],.int .i64 (sh:Int)]) ?_ rfl (S6.out.ret R4.out (QPo.of S6.out.wk.fin.2));simp [results,Tryz.results111,go_sem,c5_0,c5_1,c5_2,c5_3,c5_4]
 have hq1:((kd:Int) == 1)=false:=by rw [beq_eq_false_iff_ne];omega
 rw [if_neg hk1] at hr;clear hk1
 by_cases hk3:kd=3
 ·subst hk3;rw [if_pos rfl] at hr;have RN:=Lib.hid hr;have hn:=hnk (by show 3≠5;decide);clear hr hnk hq1;go_enter Tryz.func111,Tryz.ntmps111;go_wp2_with fail;refine PK.out.mono ?_;rintro e w7 ⟨rfl,hb⟩;have hs7:=hb.size;have S7:=Lib.hid (S1.out.below hb);clear hb S1 PK;replace hs7:w.heap.size+1≤w7.heap.size:=by simp at hs7;omega
  have S8:=Lib.hid (S7.out.alloc (w7.heap.size) (by simp) (.cells #[.int .i64 3,.int .i64 (ps:Int),.string (strOf tx),.int .i64 (nv:Int)] 89));clear S7;have c1:=S8.out.env.c1;have f1:=S8.out.env.fz 1;obtain⟨⟨c9_0,c9_1,c9_2,c9_3,c9_4⟩,z9⟩:=S8.out.cells5 1 rfl;have l9:=(S8.out.blk 1 rfl).2.1;go_wp2_with fail;have S10:=Lib.hid (S8.out.step hn);clear S8;have S11:=Lib.hid (S10.out.set5 1 rfl (.int .i64 1) (.int .i64 (nv:Int)) (.string ⟨#[]⟩) (.string ⟨#[]⟩) (.slice none 0 0) [(w7.heap.size,(.cells #[.int .i64 3,.int .i64 (ps:Int),.string (strOf tx),.int .i64 (nv:Int)] 89)),(w.heap.size,(.cells #[.int .i64 1,.int .i64 (nv:Int),.string ⟨#[]⟩,.string ⟨#[]⟩,.slice none 0 0] 24))] rfl);clear S10;refine bodyPost_ret (v:=.tuple #[.agg #[.int .i64 1,.int .i64 (nv:Int),.string ⟨#[]⟩,.string ⟨#[]⟩,.slice none 0 0],.int .i64 0]) ?_ rfl (S11.out.ret RN.out (QPo.of0 (fEx.leaf _ _)));simp [results,Tryz.results111,go_sem,c9_0,c9_1,c9_2,c9_3,c9_4]
 have hq3:((kd:Int) == 3)=false:=by rw [beq_eq_false_iff_ne];omega
 rw [if_neg hk3] at hr;clear hk3 hnk;have RC:=Lib.hid hr;clear hr;go_enter Tryz.func111,Tryz.ntmps111;go_wp2_with fail;refine PK.out.mono ?_;rintro e w12 ⟨rfl,hb⟩;have hs12:=hb.size;have S12:=Lib.hid (S1.out.below hb);clear hb S1 PK;replace hs12:w.heap.size+1≤w12.heap.size:=by simp at hs12;omega
 have S13:=Lib.hid (S12.out.alloc (w12.heap.size) (by simp) (.cells #[.int .i64 (kd:Int),.int .i64 (ps:Int),.string (strOf tx),.int .i64 (nv:Int)] 89));clear S12;have S14:=Lib.hid (S13.out.drop 0);clear S13;obtain⟨t,ht⟩:∃ t,isT ts (i) [45]=t:=⟨_,rfl⟩;have hr:=RC.out;rw [ht] at hr;cases t
 rotate_left
 ·rw [if_pos rfl] at hr;have R15y:=Lib.hid hr;have T15y:=Lib.hid ht;clear hr ht RC;go_wp2_with fail;refine (accept_true hT ⟨#[45]⟩ (by decide) T15y.out S14.out.env).mono ?_;rintro e w16 ⟨rfl,hg,hEv⟩;have hs16:=hg.size;have hjl16:=hEv.lt;have S16:=Lib.hid (S14.out.call hg hEv);clear hg hEv S14 T15y;replace hs16:w12.heap.size+1≤w16.heap.size:=by simp at hs16;omega
  have hr:=R15y.out;unfold minusP at hr;have R17:=Lib.hid hr;clear hr R15y;have hnk:=hT.next_kind S16.out.env.lt;have hnl:=hT.n_lt (i+1);obtain⟨⟨kd2,ps2,tx2,nv2⟩,ht⟩:∃ t,tk ts (i+1)=t:=⟨_,rfl⟩;have hp:=par_peek S16.out.env;have hr:=R17.out;rw [ht] at hp hnk hr hnl;unfold tokAgg at hp;have PK2:=Lib.hid hp;clear hp ht R17;have hnl:nv2<9223372036854775808:=hnl;have hwr2:IntKind.i64.wrap (((i+1:Nat):Int)+1)=((i+1:Nat):Int)+1:=IntWalk.i64_in _ (by omega)
  by_cases hk3:kd2=3
  ·subst hk3;have hn:=hnk (by show 3≠5;decide);clear hnk
   by_cases hn0:nv2=0
   ·subst hn0;rw [if_neg (fun h=>h.2 rfl)] at hr;have RN:=Lib.hid hr;clear hr;go_wp2_with fail;refine PK2.out.mono ?_;rintro e w18 ⟨rfl,hb⟩;have hs18:=hb.size;have S18:=Lib.hid (S16.out.below hb);clear hb S16 PK2;have S19:=Lib.hid (S18.out.alloc (w18.heap.size) (by simp) (.cells #[.int .i64 3,.int .i64 (ps2:Int),.string (strOf tx2),.int .i64 0] 89));clear S18;go_wp2_with fail;refine (par_fail S19.out.env).mono ?_;rintro e wf ⟨rfl,hb⟩;exact⟨rfl,S19.out.panic hb RN.out⟩
   ·rw [if_pos ⟨rfl,hn0⟩] at hr;have RN:=Lib.hid hr;have hq0:((nv2:Int) == 0)=false:=by rw [beq_eq_false_iff_ne];omega
    have hneg:IntKind.i64.wrap (-(nv2:Int))=-(nv2:Int):=IntWalk.i64_in _ (by omega);clear hr hn0;go_wp2_with fail;refine PK2.out.mono ?_;rintro e w20 ⟨rfl,hb⟩;have hs20:=hb.size;have S20:=Lib.hid (S16.out.below hb);clear hb S16 PK2;have S21:=Lib.hid (S20.out.alloc (w20.heap.size) (by simp) (.cells #[.int .i64 3,.int .i64 (ps2:Int),.string (strOf tx2),.int .i64 (nv2:Int)] 89));clear S20;have c1:=S21.out.env.c1;have f1:=S21.out.env.fz 1;obtain⟨⟨c22_0,c22_1,c22_2,c22_3,c22_4⟩,z22⟩:=S21.out.cells5 1 rfl;have l22:=(S21.out.blk 1 rfl).2.1;go_wp2_with fail;have S23:=Lib.hid (S21.out.step hn);clear S21;have S24:=Lib.hid (S23.out.set5 1 rfl (.int .i64 1) (.int .i64 (-(nv2:Int))) (.string ⟨#[]⟩) (.string ⟨#[]⟩) (.slice none 0 0) [(w20.heap.size,(.cells #[.int .i64 3,.int .i64 (ps2:Int),.string (strOf tx2),.int .i64 (nv2:Int)] 89)),(w.heap.size,(.cells #[.int .i64 1,.int .i64 (-(nv2:Int)),.string ⟨#[]⟩,.string ⟨#[]⟩,.slice none 0 0] 24))] rfl);clear S23;refine bodyPost_ret (v:=.tuple #[.agg #[.int .i64 1,.int .i64 (-(nv2:Int)),.string ⟨#[]⟩,.string ⟨#[]⟩,.slice none 0 0],.int .i64 0]) ?_ rfl (S24.out.ret RN.out (QPo.of0 (fEx.leaf _ _)));simp [results,Tryz.results111,go_sem,c22_0,c22_1,c22_2,c22_3,c22_4]
  ·rw [if_neg (fun h=>hk3 h.1)] at hr;have RN:=Lib.hid hr;have hq4:((kd2:Int) == 3)=false:=by rw [beq_eq_false_iff_ne];omega
   have hq5:((kd2:Int) != 3)=true:=by rw [bne,hq4];rfl
   clear hr hk3 hnk;go_wp2_with fail;refine PK2.out.mono ?_;rintro e w25 ⟨rfl,hb⟩;have hs25:=hb.size;have S25:=Lib.hid (S16.out.below hb);clear hb S16 PK2;have S26:=Lib.hid (S25.out.alloc (w25.heap.size) (by simp) (.cells #[.int .i64 (kd2:Int),.int .i64 (ps2:Int),.string (strOf tx2),.int .i64 (nv2:Int)] 89));clear S25;go_wp2_with fail;refine (par_fail S26.out.env).mono ?_;rintro e wf ⟨rfl,hb⟩;exact⟨rfl,S26.out.panic hb RN.out⟩
 rw [if_neg (by decide)] at hr;have R15n:=Lib.hid hr;have T15n:=Lib.hid ht;clear hr ht RC;go_wp2_with fail;refine (accept_false hT ⟨#[45]⟩ (by decide) T15n.out S14.out.env).mono ?_;rintro e w27 ⟨rfl,hg,hEv⟩;have hs27:=hg.size;have hjl27:=hEv.lt;have S27:=Lib.hid (S14.out.call hg hEv);clear hg hEv S14 T15n;replace hs27:w12.heap.size+1≤w27.heap.size:=by simp at hs27;omega
 obtain⟨t,ht⟩:∃ t,isT ts (i) [110,117,108,108]=t:=⟨_,rfl⟩;have hr:=R15n.out;rw [ht] at hr;cases t
 rotate_left
 ·rw [if_pos rfl] at hr;have R28y:=Lib.hid hr;have T28y:=Lib.hid ht;clear hr ht R15n;go_wp2_with fail;refine (accept_true hT ⟨#[110,117,108,108]⟩ (by decide) T28y.out S27.out.env).mono ?_;rintro e w29 ⟨rfl,hg,hEv⟩;have hs29:=hg.size;have hjl29:=hEv.lt;have S29:=Lib.hid (S27.out.call hg hEv);clear hg hEv S27 T28y;obtain⟨⟨c30_0,c30_1,c30_2,c30_3,c30_4⟩,z30⟩:=S29.out.cells5 0 rfl;have l30:=(S29.out.blk 0 rfl).2.1;go_wp2_with fail;have S31:=Lib.hid (S29.out.set5 0 rfl (.int .i64 2) (.int .i64 0) (.string ⟨#[]⟩) (.string ⟨#[]⟩) (.slice none 0 0) [(w.heap.size,(.cells #[.int .i64 2,.int .i64 0,.string ⟨#[]⟩,.string ⟨#[]⟩,.slice none 0 0] 24))] rfl);clear S29;refine bodyPost_ret (v:=.tuple #[.agg #[.int .i64 2,.int .i64 0,.string ⟨#[]⟩,.string ⟨#[]⟩,.slice none 0 0],.int .i64 0]) ?_ rfl (S31.out.ret R28y.out (QPo.of0 (fEx.leaf _ _)));simp [results,Tryz.results111,go_sem,c30_0,c30_1,c30_2,c30_3,c30_4]
 rw [if_neg (by decide)] at hr;have R28n:=Lib.hid hr;have T28n:=Lib.hid ht;clear hr ht R15n;go_wp2_with fail;refine (accept_false hT ⟨#[110,117,108,108]⟩ (by decide) T28n.out S27.out.env).mono ?_;rintro e w32 ⟨rfl,hg,hEv⟩;have hs32:=hg.size;have hjl32:=hEv.lt;have S32:=Lib.hid (S27.out.call hg hEv);clear hg hEv S27 T28n;obtain⟨t,ht⟩:∃ t,isT ts (i) [116,104,105,115]=t:=⟨_,rfl⟩;have hr:=R28n.out;rw [ht] at hr;cases t
 rotate_left
 ·rw [if_pos rfl] at hr;have R33y:=Lib.hid hr;have T33y:=Lib.hid ht;clear hr ht R28n;go_wp2_with fail;refine (accept_true hT ⟨#[116,104,105,115]⟩ (by decide) T33y.out S32.out.env).mono ?_;rintro e w34 ⟨rfl,hg,hEv⟩;have hs34:=hg.size;have hjl34:=hEv.lt;have S34:=Lib.hid (S32.out.call hg hEv);clear hg hEv S32 T33y;obtain⟨⟨c35_0,c35_1,c35_2,c35_3,c35_4⟩,z35⟩:=S34.out.cells5 0 rfl;have l35:=(S34.out.blk 0 rfl).2.1;go_wp2_with fail;have S36:=Lib.hid (S34.out.set5 0 rfl (.int .i64 4) (.int .i64 0) (.string ⟨#[]⟩) (.string ⟨#[]⟩) (.slice none 0 0) [(w.heap.size,(.cells #[.int .i64 4,.int .i64 0,.string ⟨#[]⟩,.string ⟨#[]⟩,.slice none 0 0] 24))] rfl);clear S34;refine bodyPost_ret (v:=.tuple #[.agg #[.int .i64 4,.int .i64 0,.string ⟨#[]⟩,.string ⟨#[]⟩,.slice none 0 0],.int .i64 0]) ?_ rfl (S36.out.ret R33y.out (QPo.of0 (fEx.leaf _ _)));simp [results,Tryz.results111,go_sem,c35_0,c35_1,c35_2,c35_3,c35_4]
 rw [if_neg (by decide)] at hr;have R33n:=Lib.hid hr;have T33n:=Lib.hid ht;clear hr ht R28n;go_wp2_with fail;refine (accept_false hT ⟨#[116,104,105,115]⟩ (by decide) T33n.out S32.out.env).mono ?_;rintro e w37 ⟨rfl,hg,hEv⟩;have hs37:=hg.size;have hjl37:=hEv.lt;have S37:=Lib.hid (S32.out.call hg hEv);clear hg hEv S32 T33n;obtain⟨t,ht⟩:∃ t,isT ts (i) [105,110,112,117,116]=t:=⟨_,rfl⟩;have hr:=R33n.out;rw [ht] at hr;cases t
 rotate_left
 ·rw [if_pos rfl] at hr;have R38y:=Lib.hid hr;have T38y:=Lib.hid ht;clear hr ht R33n;go_wp2_with fail;refine (accept_true hT ⟨#[105,110,112,117,116]⟩ (by decide) T38y.out S37.out.env).mono ?_;rintro e w39 ⟨rfl,hg,hEv⟩;have hs39:=hg.size;have hjl39:=hEv.lt;have S39:=Lib.hid (S37.out.call hg hEv);clear hg hEv S37 T38y;have hr:=R38y.out;unfold unitP at hr;have R40:=Lib.hid hr;clear hr R38y;go_wp2_with fail;refine (par_expect hT _ (by decide) S39.out.env).mono ?_;intro e w41 ho;obtain⟨ch,rfl,hp⟩ | ⟨_,j41,v,rfl,rfl,hS,hr,hs41,hq41⟩:=S39.out.rule ho R40.out
  ·exact⟨rfl,hp⟩
  have hjl41:=hS.env.lt;clear hq41;have S41:=Lib.hid hS;have R41:=Lib.hid hr;clear hS hr ho R40 S39;go_wp2_with fail;refine (par_expect hT _ (by decide) S41.out.env).mono ?_;intro e w42 ho;obtain⟨ch,rfl,hp⟩ | ⟨_,j42,v,rfl,rfl,hS,hr,hs42,hq42⟩:=S41.out.rule ho R41.out
  ·exact⟨rfl,hp⟩
  have hjl42:=hS.env.lt;clear hq42;have S42:=Lib.hid hS;have R42:=Lib.hid hr;clear hS hr ho R41 S41;obtain⟨⟨c43_0,c43_1,c43_2,c43_3,c43_4⟩,z43⟩:=S42.out.cells5 0 rfl;have l43:=(S42.out.blk 0 rfl).2.1;go_wp2_with fail;have S44:=Lib.hid (S42.out.set5 0 rfl (.int .i64 5) (.int .i64 0) (.string ⟨#[]⟩) (.string ⟨#[]⟩) (.slice none 0 0) [(w.heap.size,(.cells #[.int .i64 5,.int .i64 0,.string ⟨#[]⟩,.string ⟨#[]⟩,.slice none 0 0] 24))] rfl);clear S42;refine bodyPost_ret (v:=.tuple #[.agg #[.int .i64 5,.int .i64 0,.string ⟨#[]⟩,.string ⟨#[]⟩,.slice none 0 0],.int .i64 0]) ?_ rfl (S44.out.ret R42.out (QPo.of0 (fEx.leaf _ _)));simp [results,Tryz.results111,go_sem,c43_0,c43_1,c43_2,c43_3,c43_4]
 rw [if_neg (by decide)] at hr;have R38n:=Lib.hid hr;have T38n:=Lib.hid ht;clear hr ht R33n;go_wp2_with fail;refine (accept_false hT ⟨#[105,110,112,117,116]⟩ (by decide) T38n.out S37.out.env).mono ?_;rintro e w45 ⟨rfl,hg,hEv⟩;have hs45:=hg.size;have hjl45:=hEv.lt;have S45:=Lib.hid (S37.out.call hg hEv);clear hg hEv S37 T38n;obtain⟨t,ht⟩:∃ t,isT ts (i) [110,101,119]=t:=⟨_,rfl⟩;have hr:=R38n.out;rw [ht] at hr;cases t
 rotate_left
 ·rw [if_pos rfl] at hr;have R46y:=Lib.hid hr;have T46y:=Lib.hid ht;clear hr ht R38n;go_wp2_with fail;refine (accept_true hT ⟨#[110,101,119]⟩ (by decide) T46y.out S45.out.env).mono ?_;rintro e w47 ⟨rfl,hg,hEv⟩;have hs47:=hg.size;have hjl47:=hEv.lt;have S47:=Lib.hid (S45.out.call hg hEv);clear hg hEv S45 T46y;go_wp2_with fail;refine (par_name hT S47.out.env).mono ?_;intro e w48 ho;obtain⟨ch,rfl,hp⟩ | ⟨nm,j48,v,rfl,rfl,hS,hr,hs48,hq48⟩:=S47.out.rule ho R46y.out
  ·exact⟨rfl,hp⟩
  have hjl48:=hS.env.lt;clear hq48;have S48:=Lib.hid hS;have R48:=Lib.hid hr;clear hS hr ho R46y S47;have S49:=Lib.hid (S48.out.alloc (w48.heap.size) (by simp) (.cells #[.int .i64 7,.int .i64 0,.string ⟨#[]⟩,.string (strOf nm),.slice none 0 0] 24));clear S48;have hr:=R48.out;unfold unitP at hr;have R50:=Lib.hid hr;clear hr R48;go_wp2_with fail;refine (par_expect hT _ (by decide) S49.out.env).mono ?_;intro e w51 ho;obtain⟨ch,rfl,hp⟩ | ⟨_,j51,v,rfl,rfl,hS,hr,hs51,hq51⟩:=S49.out.rule ho R50.out
  ·exact⟨rfl,hp⟩
  have hjl51:=hS.env.lt;clear hq51;have S51:=Lib.hid hS;have R51:=Lib.hid hr;clear hS hr ho R50 S49;replace hs51:w48.heap.size+1≤w51.heap.size:=by simp at hs51;omega
  go_wp2_with fail;refine (par_expect hT _ (by decide) S51.out.env).mono ?_;intro e w52 ho;obtain⟨ch,rfl,hp⟩ | ⟨_,j52,v,rfl,rfl,hS,hr,hs52,hq52⟩:=S51.out.rule ho R51.out
  ·exact⟨rfl,hp⟩
  have hjl52:=hS.env.lt;clear hq52;have S52:=Lib.hid hS;have R52:=Lib.hid hr;clear hS hr ho R51 S51;obtain⟨⟨c53_0,c53_1,c53_2,c53_3,c53_4⟩,z53⟩:=S52.out.cells5 1 rfl;have l53:=(S52.out.blk 1 rfl).2.1;obtain⟨⟨c54_0,c54_1,c54_2,c54_3,c54_4⟩,z54⟩:=S52.out.cells5 0 rfl;have l54:=(S52.out.blk 0 rfl).2.1;go_wp2_with fail;have S55:=Lib.hid (S52.out.set5 1 rfl (.int .i64 7) (.int .i64 0) (.string ⟨#[]⟩) (.string (strOf nm)) (.slice none 0 0) [(w48.heap.size,(.cells #[.int .i64 7,.int .i64 0,.string ⟨#[]⟩,.string (strOf nm),.slice none 0 0] 24)),(w.heap.size,(.cells #[.int .i64 7,.int .i64 0,.string ⟨#[]⟩,.string (strOf nm),.slice none 0 0] 24))] rfl);clear S52;refine bodyPost_ret (v:=.tuple #[.agg #[.int .i64 7,.int .i64 0,.string ⟨#[]⟩,.string (strOf nm),.slice none 0 0],.int .i64 0]) ?_ rfl (S55.out.ret R52.out (QPo.of0 (fEx.leafN _ _ _)));simp [results,Tryz.results111,go_sem,c53_0,c53_1,c53_2,c53_3,c53_4]
 rw [if_neg (by decide)] at hr;have R46n:=Lib.hid hr;have T46n:=Lib.hid ht;clear hr ht R38n;go_wp2_with fail;refine (accept_false hT ⟨#[110,101,119]⟩ (by decide) T46n.out S45.out.env).mono ?_;rintro e w56 ⟨rfl,hg,hEv⟩;have hs56:=hg.size;have hjl56:=hEv.lt;have S56:=Lib.hid (S45.out.call hg hEv);clear hg hEv S45 T46n;have hr:=R46n.out;unfold parenP at hr;have R57:=Lib.hid hr;clear hr R46n;go_wp2_with fail;refine (par_expect hT _ (by decide) S56.out.env).mono ?_;intro e w58 ho;obtain⟨ch,rfl,hp⟩ | ⟨_,j58,v,rfl,rfl,hS,hr,hs58,hq58⟩:=S56.out.rule ho R57.out
 ·exact⟨rfl,hp⟩
 have hjl58:=hS.env.lt;have hadv58:=expectP_adv hq58;clear hq58;have S58:=Lib.hid hS;have R58:=Lib.hid hr;clear hS hr ho R57 S56;go_wp2_with fail;refine (HP.out _ _ S58.out.env (by omega)).mono ?_;intro e w59 ho;obtain⟨ch,rfl,hp⟩ | ⟨x,j59,v,rfl,⟨d,k,n,o,m,a,l,c,rfl,hx⟩,hS,hr,hs59,hq59⟩:=S58.out.rule ho R58.out
 ·exact⟨rfl,hp⟩
 have hjl59:=hS.env.lt;clear hq59;have S59:=Lib.hid (hS.add S58.out (fEx x [.int .i64 k,.int .i64 n,.string o,.string m,.slice a l c]) ⟨d,hx⟩);have R59:=Lib.hid hr;clear hS hr ho R58 S58 hx;have S60:=Lib.hid (S59.out.alloc (w59.heap.size) (by simp) (.cells #[.int .i64 k,.int .i64 n,.string o,.string m,.slice a l c] 24));clear S59;go_wp2_with fail;refine (par_expect hT _ (by decide) S60.out.env).mono ?_;intro e w61 ho;obtain⟨ch,rfl,hp⟩ | ⟨_,j61,v,rfl,rfl,hS,hr,hs61,hq61⟩:=S60.out.rule ho R59.out
 ·exact⟨rfl,hp⟩
 have hjl61:=hS.env.lt;clear hq61;have S61:=Lib.hid hS;have R61:=Lib.hid hr;clear hS hr ho R59 S60;replace hs61:w59.heap.size+1≤w61.heap.size:=by simp at hs61;omega
 obtain⟨⟨c62_0,c62_1,c62_2,c62_3,c62_4⟩,z62⟩:=S61.out.cells5 1 rfl;have l62:=(S61.out.blk 1 rfl).2.1;obtain⟨⟨c63_0,c63_1,c63_2,c63_3,c63_4⟩,z63⟩:=S61.out.cells5 0 rfl;have l63:=(S61.out.blk 0 rfl).2.1;go_wp2_with fail;have S64:=Lib.hid (S61.out.set5 1 rfl (.int .i64 k) (.int .i64 n) (.string o) (.string m) (.slice a l c) [(w59.heap.size,(.cells #[.int .i64 k,.int .i64 n,.string o,.string m,.slice a l c] 24)),(w.heap.size,(.cells #[.int .i64 k,.int .i64 n,.string o,.string m,.slice a l c] 24))] rfl);clear S61;refine bodyPost_ret (v:=.tuple #[.agg #[.int .i64 k,.int .i64 n,.string o,.string m,.slice a l c],.int .i64 0]) ?_ rfl (S64.out.ret R61.out (QPo.of0 S64.out.wk.fin.2));simp [results,Tryz.results111,go_sem,c62_0,c62_1,c62_2,c62_3,c62_4]
end
end
end Go.Proofs.YtmlafcimjhnhhaaGreatDoor
