/-
  Statements: values of rules, builds; the rule condition, walked (walks printed by genpar2.py).
-/
import Derived.Test.YtmlafcimjhnhhaaGreatDoorJbParPost
import Derived.Deep.DrawnRows
set_option linter.unusedSectionVars false
set_option linter.unusedSimpArgs false
set_option linter.unnecessarySimpa false
set_option linter.unusedVariables false
namespace Go.Proofs.YtmlafcimjhnhhaaGreatDoor
section
open Lx Go.RowKit
attribute [local go_sem ↓] Go.wp_at_zero Go.wp_at_succ
theorem Tryz.infoSt:(Tryz.prog.info? 109).map (fun i=>(i.zero,i.size,i.bytes))=some (some (.agg #[.int .i64 0,.string ⟨#[]⟩,.string ⟨#[]⟩,.slice none 0 0,.slice none 0 0,.slice none 0 0]),6,112):=by kernel_rfl
/-- The value of a rule that gives a statement; a list of statements. -/
def QSt (lo:Nat)(e:St)(r:Value)(w':World):Prop:=∃ (k:Int) (nm ty:ByteArray) (a1:Option Addr) (n1 c1:Nat) (a2:Option Addr) (n2 c2:Nat) (a3:Option Addr) (n3 c3:Nat),r=.agg #[.int .i64 k,.string nm,.string ty,.slice a1 n1 c1,.slice a2 n2 c2,.slice a3 n3 c3]∧(fSt e [.int .i64 k,.string nm,.string ty,.slice a1 n1 c1,.slice a2 n2 c2,.slice a3 n3 c3]).holds (lo≤·) w'
def QSs (lo:Nat)(l:List St)(r:Value)(w':World):Prop:=∃ (a:Option Addr) (n c:Nat),r=.slice a n c∧(fSts l (.slice a n c)).holds (lo≤·) w'
theorem QSt.of {lo:Nat}{e:St}{k:Int}{nm ty:ByteArray}{a1:Option Addr}{n1 c1:Nat}{a2:Option Addr}{n2 c2:Nat}{a3:Option Addr}{n3 c3:Nat}{w':World}(h:(fSt e [.int .i64 k,.string nm,.string ty,.slice a1 n1 c1,.slice a2 n2 c2,.slice a3 n3 c3]).holds (lo≤·) w'):QSt lo e (.agg #[.int .i64 k,.string nm,.string ty,.slice a1 n1 c1,.slice a2 n2 c2,.slice a3 n3 c3]) w':=⟨_,_,_,_,_,_,_,_,_,_,_,_,rfl,h⟩
theorem fEx.parts {A:Nat→Prop}{w:World}{e:Ex}{k n:Int}{o m:ByteArray}{v:Value}(h:(fEx e [.int .i64 k,.int .i64 n,.string o,.string m,v]).holds A w):m=strOf e.name∧(fExs e.kids v).holds A w:=by
 obtain⟨d,h⟩:=h;cases d with
 | zero=>exact absurd h (by simp [IsEx])
 | succ d =>
   obtain⟨k',n',o',m',ks⟩:=e;obtain⟨v',hv,hl⟩:=h;simp only [List.cons.injEq,Value.string.injEq,and_true] at hv;obtain⟨_,_,_,rfl,rfl⟩:=hv;exact⟨rfl,d,hl⟩
/-- Five cells at a place. -/
def fAt (b off:Nat)(a0 a1 a2 a3 a4:Value):Fact:=⟨fun A w=>A b∧w.cell? ⟨b,off,none⟩=some a0∧w.cell? ⟨b,off+1,none⟩=some a1∧w.cell? ⟨b,off+2,none⟩=some a2∧w.cell? ⟨b,off+3,none⟩=some a3∧w.cell? ⟨b,off+4,none⟩=some a4,
 fun _ w w' hk h=>by
  have hl:b<w.heap.size:=World.block_lt_of_cell? w _ h.2.1;have e:∀ o,w'.cell? ⟨b,o,none⟩=w.cell? ⟨b,o,none⟩:=fun o=>World.cell?_of_block (hk b h.1 hl)
  simp only [e];exact h,
 fun _ _ w hs h=>⟨hs b h.1 (World.block_lt_of_cell? w _ h.2.1),h.2⟩⟩
theorem fExs.head {A:Nat→Prop}{w:World}{e:Ex}{a:Option Addr}{l c:Nat}(h:(fExs [e] (.slice a l c)).holds A w):∃ (b off:Nat) (k n:Int) (o m:ByteArray) (a1:Option Addr) (l1 c1:Nat),a=some ⟨b,off,none⟩∧l=1∧(fAt b off (.int .i64 k) (.int .i64 n) (.string o) (.string m) (.slice a1 l1 c1)).holds A w∧(fEx e [.int .i64 k,.int .i64 n,.string o,.string m,.slice a1 l1 c1]).holds A w:=by
 obtain⟨d,_,⟨h0,_⟩ | ⟨b,off,cp,hv,hA,hc⟩⟩:=h
 ·cases h0
 ·simp only [Value.slice.injEq] at hv;obtain⟨rfl,rfl,rfl⟩:=hv;obtain⟨cs,h1,h2,h3⟩:=hc 0 (by simp);simp only [List.getElem_cons_zero] at h3;cases d with
  | zero=>exact absurd h3 (by simp [IsEx])
  | succ d =>
    obtain⟨k,n,o,m,ks⟩:=e;have h3':=h3;obtain⟨v,rfl,hl⟩:=h3;obtain⟨a1,l1,c1,rfl⟩:∃ a1 l1 c1,v=.slice a1 l1 c1:=by
     obtain⟨_,⟨_,a,c,rfl⟩ | ⟨g,off,c,rfl,_⟩⟩:=hl
     ·exact⟨_,_,_,rfl⟩
     ·exact⟨_,_,_,rfl⟩
    refine⟨b,off,k,n,strOf o,strOf m,a1,l1,c1,rfl,rfl,⟨hA.1,?_⟩,d+1,h3'⟩;have g0:=h2 0 (by omega);have g1:=h2 1 (by omega);have g2:=h2 2 (by omega);have g3:=h2 3 (by omega);have g4:=h2 4 (by omega);simp only [Nat.zero_mul,Nat.zero_add,Nat.add_zero] at g0 g1 g2 g3 g4;exact⟨g0,g1,g2,g3,g4⟩
theorem atomP_shape {ts:List Tok}{E:Nat→PR Ex}{i j:Nat}{x:Ex×Nat}(h:atomP ts E i=.ok (x,j)):x.2≠2:=by
 unfold atomP at h;split at h
 ·unfold namedP at h;obtain⟨_,_,_,h⟩:=bindP_inv h;split at h
  ·obtain⟨_,_,_,h⟩:=bindP_inv h;obtain⟨_,_,_,h⟩:=bindP_inv h;cases h;simp
  ·cases h;simp
 split at h;· cases h;simp
 split at h
 ·unfold minusP at h;split at h
  ·cases h;simp
  ·cases h
 split at h;· cases h;simp
 split at h;· cases h;simp
 split at h
 ·unfold unitP at h;obtain⟨_,_,_,h⟩:=bindP_inv h;obtain⟨_,_,_,h⟩:=bindP_inv h;cases h;simp
 split at h
 ·obtain⟨_,_,_,h⟩:=bindP_inv h;unfold unitP at h;obtain⟨_,_,_,h⟩:=bindP_inv h;obtain⟨_,_,_,h⟩:=bindP_inv h;cases h;simp
 ·unfold parenP at h;obtain⟨_,_,_,h⟩:=bindP_inv h;obtain⟨_,_,_,h⟩:=bindP_inv h;obtain⟨_,_,_,h⟩:=bindP_inv h;cases h;simp
theorem postLoop_shape {ts:List Tok}{E:Nat→PR Ex}:∀ q e sh i x j,(sh=2→∃ e0,e.kids=[e0])→postLoop ts E q e sh i=.ok (x,j)→x.2=2→∃ e0,x.1.kids=[e0]:=by
 intro q
 induction q with
 | zero=>intro e sh i x j _ h;cases h
 | succ q ih =>
   intro e sh i x j hs h hx;unfold postLoop at h;split at h
   ·obtain⟨m,k,_,h⟩:=bindP_inv h;split at h
    ·obtain⟨ks,k,_,h⟩:=bindP_inv h;exact ih _ _ _ _ _ (fun h=>by cases h) h hx
    ·exact ih _ _ _ _ _ (fun _=>⟨e,rfl⟩) h hx
   ·cases h;exact hs hx
theorem postP_shape {ts:List Tok}{E:Nat→PR Ex}{i j:Nat}{x:Ex×Nat}(h:postP ts E i=.ok (x,j))(hx:x.2=2):∃ e0,x.1.kids=[e0]:=by
 unfold postP at h;obtain⟨y,k,h1,h⟩:=bindP_inv h;exact postLoop_shape _ _ _ _ _ _ (fun h2=>absurd h2 (atomP_shape h1)) h hx
section
variable {pb g cap:Nat} {ts:List Tok} {i:Nat} {w:World}
set_option maxHeartbeats 1000000 in
theorem par_condition (hT:TWF ts) 
  (h:PEnv pb g cap ts i w):Calls Tryz.prog 120 #[.pointer (some ⟨pb,0,none⟩)] w (POut pb g cap ts w (QEs w.heap.size) (condP ts i)):=by
 obtain⟨R,hr⟩:∃ R,R=condP ts i:=⟨_,rfl⟩;rw [← hr];unfold condP at hr;have R0:=Lib.hid hr;have hpb:=h.pb_lt;have hil:=h.lt;have S0:=Lib.hid h.ps;clear hr h;go_enter Tryz.func120,Tryz.ntmps120;go_wp2_with fail;refine (par_expect hT _ (by decide) S0.out.env).mono ?_;intro e w1 ho;obtain⟨ch,rfl,hp⟩ | ⟨_,j1,v,rfl,rfl,hS,hr,hs1,hq1⟩:=S0.out.rule ho R0.out
 ·exact⟨rfl,hp⟩
 have hjl1:=hS.env.lt;clear hq1;have S1:=Lib.hid hS;have R1:=Lib.hid hr;clear hS hr ho R0 S0;go_wp2_with fail;refine (par_expr hT S1.out.env).mono ?_;intro e w2 ho;obtain⟨ch,rfl,hp⟩ | ⟨x,j2,v,rfl,⟨d,k,n,o,m,a,l,c,rfl,hx⟩,hS,hr,hs2,hq2⟩:=S1.out.rule ho R1.out
 ·exact⟨rfl,hp⟩
 have hjl2:=hS.env.lt;clear hq2;have S2:=Lib.hid (hS.add S1.out (fEx x [.int .i64 k,.int .i64 n,.string o,.string m,.slice a l c]) ⟨d,hx⟩);have R2:=Lib.hid hr;clear hS hr ho R1 S1 hx;have S3:=Lib.hid (S2.out.alloc (w2.heap.size) (by simp) (.cells #[.int .i64 k,.int .i64 n,.string o,.string m,.slice a l c] 24));clear S2;go_wp2_with fail;refine (par_expect hT _ (by decide) S3.out.env).mono ?_;intro e w4 ho;obtain⟨ch,rfl,hp⟩ | ⟨_,j4,v,rfl,rfl,hS,hr,hs4,hq4⟩:=S3.out.rule ho R2.out
 ·exact⟨rfl,hp⟩
 have hjl4:=hS.env.lt;clear hq4;have S4:=Lib.hid hS;have R4:=Lib.hid hr;clear hS hr ho R2 S3;replace hs4:w2.heap.size+1≤w4.heap.size:=by simp at hs4;omega
 go_wp2_with fail;have S5:=Lib.hid (S4.out.give 0 rfl);clear S4;refine bodyPost_ret (v:=.slice (some ⟨w2.heap.size,0,none⟩) 1 1) ?_ rfl (S5.out.ret R4.out ⟨_,_,_,rfl,fExs.one _ S5.out.wk.fin.2 S5.out.wk.fin.1.2⟩);simp [results,Tryz.results120,go_sem]
end
end
section
open Lx Go.RowKit
attribute [local go_sem ↓] Go.wp_at_zero Go.wp_at_succ
section
variable {pb g cap:Nat} {ts:List Tok} {i:Nat} {w:World}
set_option maxHeartbeats 1000000 in
theorem par_simple (hT:TWF ts) 
  (h:PEnv pb g cap ts i w):Calls Tryz.prog 121 #[.pointer (some ⟨pb,0,none⟩)] w (POut pb g cap ts w (QSt w.heap.size) (simpleP ts i)):=by
 obtain⟨R,hr⟩:∃ R,R=simpleP ts i:=⟨_,rfl⟩;rw [← hr];unfold simpleP at hr;have R0:=Lib.hid hr;have hpb:=h.pb_lt;have hil:=h.lt;have S0:=Lib.hid h.ps;clear hr h;have S1:=Lib.hid (S0.out.alloc (w.heap.size) (by simp) (.cells #[.int .i64 0,.string ⟨#[]⟩,.string ⟨#[]⟩,.slice none 0 0,.slice none 0 0,.slice none 0 0] 109));clear S0;have S2:=Lib.hid (S1.out.alloc (w.heap.size+1) (by simp) (.cells #[.int .i64 0,.string ⟨#[]⟩,.string ⟨#[]⟩,.slice none 0 0,.slice none 0 0,.slice none 0 0] 109));clear S1;go_enter Tryz.func121,Tryz.ntmps121;go_wp2_with fail;refine (par_post_any hT S2.out.env).mono ?_;intro e w3 ho;obtain⟨ch,rfl,hp⟩ | ⟨x,j3,v,rfl,⟨d,k,n,o,m,a,l,c,rfl,hx⟩,hS,hr,hs3,hq3⟩:=S2.out.rule ho R0.out
 ·exact⟨rfl,hp⟩
 have hjl3:=hS.env.lt;have hadv3:=postP_shape hq3;clear hq3;have S3:=Lib.hid (hS.add S2.out (fEx x.1 [.int .i64 k,.int .i64 n,.string o,.string m,.slice a l c]) ⟨d,hx⟩);have R3:=Lib.hid hr;clear hS hr ho R0 S2 hx;replace hs3:w.heap.size+1+1≤w3.heap.size:=by simp at hs3;omega
 obtain⟨x,sh⟩:=x;replace hadv3:sh=2→∃ e0,x.kids=[e0]:=hadv3;have HSH:=Lib.hid hadv3;clear hadv3;obtain⟨⟨c4_0,c4_1,c4_2,c4_3,c4_4,c4_5⟩,z4⟩:=S3.out.cells6 0 rfl;have l4:=(S3.out.blk 0 rfl).2.1;have S5:=Lib.hid (S3.out.alloc (w3.heap.size) (by simp) (.cells #[.int .i64 k,.int .i64 n,.string o,.string m,.slice a l c] 24));obtain rfl:m=strOf x.name:=(fEx.parts S5.out.wk.fact.2).1;have hr:=R3.out;replace hr:R=if sh=1∧isT ts j3 [61]=true then _ else _:=hr
 clear R3
 by_cases h1:sh=1
 ·subst h1;obtain⟨t,ht⟩:∃ t,isT ts j3 [61]=t:=⟨_,rfl⟩;have HT:=Lib.hid ht;cases t
  ·rw [if_neg (fun h=>by rw [ht] at h;exact absurd h.2 (by decide)),if_neg (fun h=>absurd h.1 (show ¬ (1:Nat)=2 by decide)),if_neg (show ¬ (1:Nat)=3 by decide)] at hr;have RN:=Lib.hid hr;clear hr ht;go_wp2_with fail;refine (accept_false hT ⟨#[61]⟩ (by decide) HT.out S5.out.env).mono ?_;rintro e w6 ⟨rfl,hg,hEv⟩;have hs6:=hg.size;have hjl6:=hEv.lt;have S6:=Lib.hid (S5.out.call hg hEv);clear hg hEv S5 HT;clear c4_0 c4_1 c4_2 c4_3 c4_4 c4_5 z4 l4;replace hs6:w3.heap.size+1≤w6.heap.size:=by simp at hs6;omega
   go_wp2_with fail;refine (par_fail S6.out.env).mono ?_;rintro e wf ⟨rfl,hb⟩;exact⟨rfl,S6.out.panic hb RN.out⟩
  ·rw [if_pos ⟨rfl,ht⟩] at hr;have RN:=Lib.hid hr;clear hr ht;go_wp2_with fail;refine (accept_true hT ⟨#[61]⟩ (by decide) HT.out S5.out.env).mono ?_;rintro e w7 ⟨rfl,hg,hEv⟩;have hs7:=hg.size;have hjl7:=hEv.lt;have S7:=Lib.hid (S5.out.call hg hEv);clear hg hEv S5 HT;clear c4_0 c4_1 c4_2 c4_3 c4_4 c4_5 z4 l4;replace hs7:w3.heap.size+1≤w7.heap.size:=by simp at hs7;omega
   obtain⟨⟨c8_0,c8_1,c8_2,c8_3,c8_4⟩,z8⟩:=S7.out.cells5 0 rfl;have l8:=(S7.out.blk 0 rfl).2.1;have S9:=Lib.hid (S7.out.drew);clear S7;go_wp2_with fail
   go_region_with (first
    | (go_at_call 25
       refine (par_expr hT S9.out.env).mono ?_;intro e w10 ho;obtain⟨ch,rfl,hp⟩ | ⟨y,j10,v,rfl,⟨d',k',n',o',m',a',l',c',rfl,hx⟩,hS,hr,hs10,hq10⟩:=S9.out.rule ho RN.out
       ·exact⟨rfl,hp⟩
       have S10:=Lib.hid (hS.add S9.out (fEx y [.int .i64 k',.int .i64 n',.string o',.string m',.slice a' l' c']) ⟨d',hx⟩);have R10:=Lib.hid hr;replace hs10:w7.heap.size≤w10.heap.size:=by simp at hs10;omega
       obtain⟨⟨g0,g1,g2,g3,g4⟩,gf⟩:=S10.out.cells5 0 rfl;obtain⟨⟨u0,u1,u2,u3,u4,u5⟩,uf⟩:=S10.out.cells6 1 rfl;have gl:=(S10.out.blk 0 rfl).2.1;have ul:=(S10.out.blk 1 rfl).2.1;clear hS hr ho hx hq10))
   all_goals
    clear g0 g1 g2 g3 g4 gf u0 u1 u2 u3 u4 u5 uf gl ul;go_wp2_with fail;have S11:=Lib.hid (S10.out.set6 1 rfl (.int .i64 2) (.string (strOf x.name)) (.string ⟨#[]⟩) (.slice (some ⟨w10.heap.size,0,none⟩) 1 1) (.slice none 0 0) (.slice none 0 0) [(w3.heap.size,(.cells #[.int .i64 k,.int .i64 n,.string o,.string (strOf x.name),.slice a l c] 24)),(w.heap.size+1,(.cells #[.int .i64 2,.string (strOf x.name),.string ⟨#[]⟩,.slice (some ⟨w10.heap.size,0,none⟩) 1 1,.slice none 0 0,.slice none 0 0] 109)),(w.heap.size,(.cells #[.int .i64 0,.string ⟨#[]⟩,.string ⟨#[]⟩,.slice none 0 0,.slice none 0 0,.slice none 0 0] 109))] rfl);clear S10;have S12:=Lib.hid (S11.out.alloc (w10.heap.size) (by simp) (.cells #[.int .i64 k',.int .i64 n',.string o',.string m',.slice a' l' c'] 24));clear S11;have S13:=Lib.hid (S12.out.give 0 rfl);clear S12;have S14:=Lib.hid (S13.out.imp (G:=fSt (.mk 2 x.name [] [y] [] []) [.int .i64 2,.string (strOf x.name),.string ⟨#[]⟩,.slice (some ⟨w10.heap.size,0,none⟩) 1 1,.slice none 0 0,.slice none 0 0]) (fun A hF=>fSt.mk (fExs.one _ hF.2 hF.1.2) (fSts.nil _ _) (fSts.nil _ _)));clear S13;refine (par_expect hT _ (by decide) S14.out.env).mono ?_;intro e w15 ho;obtain⟨ch,rfl,hp⟩ | ⟨_,j15,v,rfl,rfl,hS,hr,hs15,hq15⟩:=S14.out.rule ho R10.out
    ·exact⟨rfl,hp⟩
    have hjl15:=hS.env.lt;clear hq15;have S15:=Lib.hid hS;have R15:=Lib.hid hr;clear hS hr ho R10 S14;replace hs15:w10.heap.size+1≤w15.heap.size:=by simp at hs15;omega
    obtain⟨⟨c16_0,c16_1,c16_2,c16_3,c16_4,c16_5⟩,z16⟩:=S15.out.cells6 2 rfl;have l16:=(S15.out.blk 2 rfl).2.1;obtain⟨⟨c17_0,c17_1,c17_2,c17_3,c17_4,c17_5⟩,z17⟩:=S15.out.cells6 1 rfl;have l17:=(S15.out.blk 1 rfl).2.1;go_wp2_with fail;have S18:=Lib.hid (S15.out.set6 2 rfl (.int .i64 2) (.string (strOf x.name)) (.string ⟨#[]⟩) (.slice (some ⟨w10.heap.size,0,none⟩) 1 1) (.slice none 0 0) (.slice none 0 0) [(w3.heap.size,(.cells #[.int .i64 k,.int .i64 n,.string o,.string (strOf x.name),.slice a l c] 24)),(w.heap.size+1,(.cells #[.int .i64 2,.string (strOf x.name),.string ⟨#[]⟩,.slice (some ⟨w10.heap.size,0,none⟩) 1 1,.slice none 0 0,.slice none 0 0] 109)),(w.heap.size,(.cells #[.int .i64 2,.string (strOf x.name),.string ⟨#[]⟩,.slice (some ⟨w10.heap.size,0,none⟩) 1 1,.slice none 0 0,.slice none 0 0] 109))] rfl);clear S15;refine bodyPost_ret (v:=.agg #[.int .i64 2,.string (strOf x.name),.string ⟨#[]⟩,.slice (some ⟨w10.heap.size,0,none⟩) 1 1,.slice none 0 0,.slice none 0 0]) ?_ rfl (S18.out.ret R15.out (QSt.of S18.out.wk.fin));simp [results,Tryz.results121,go_sem,c16_0,c16_1,c16_2,c16_3,c16_4,c16_5]
 have q1:((sh:Int) == 1)=false:=by rw [beq_eq_false_iff_ne];omega
 rw [if_neg (fun h=>h1 h.1)] at hr;clear h1;replace hr:R=if sh=2∧isT ts j3 [61]=true then _ else _:=hr
 by_cases h2:sh=2
 ·subst h2;obtain⟨t,ht⟩:∃ t,isT ts j3 [61]=t:=⟨_,rfl⟩;have HT:=Lib.hid ht;cases t
  ·rw [if_neg (fun h=>by rw [ht] at h;exact absurd h.2 (by decide)),if_neg (show ¬ (2:Nat)=3 by decide)] at hr;have RN:=Lib.hid hr;clear hr ht;go_wp2_with fail;refine (accept_false hT ⟨#[61]⟩ (by decide) HT.out S5.out.env).mono ?_;rintro e w19 ⟨rfl,hg,hEv⟩;have hs19:=hg.size;have hjl19:=hEv.lt;have S19:=Lib.hid (S5.out.call hg hEv);clear hg hEv S5 HT;clear c4_0 c4_1 c4_2 c4_3 c4_4 c4_5 z4 l4;replace hs19:w3.heap.size+1≤w19.heap.size:=by simp at hs19;omega
   go_wp2_with fail;refine (par_fail S19.out.env).mono ?_;rintro e wf ⟨rfl,hb⟩;exact⟨rfl,S19.out.panic hb RN.out⟩
  ·rw [if_pos ⟨rfl,ht⟩] at hr;have RN:=Lib.hid hr;clear hr ht;obtain⟨e0,he0⟩:=HSH.out rfl;have hkids:=(fEx.parts S5.out.wk.fact.2).2;rw [he0] at hkids;obtain⟨eb0,eo,k0,n0,o0,m0,a0,l0,c0,rfl,rfl,hat,he⟩:=fExs.head hkids;clear hkids;have hr:=RN.out;rw [he0] at hr;have RM:=Lib.hid hr;have HE0:=Lib.hid he0;clear hr RN he0;have S20:=Lib.hid (S5.out.impA (G:=(fEx e0 [.int .i64 k0,.int .i64 n0,.string o0,.string m0,.slice a0 l0 c0]).and (fAt eb0 eo (.int .i64 k0) (.int .i64 n0) (.string o0) (.string m0) (.slice a0 l0 c0))) fun _=>⟨he,hat⟩);clear S5;clear he hat;go_wp2_with fail;refine (accept_true hT ⟨#[61]⟩ (by decide) HT.out S20.out.env).mono ?_;rintro e w21 ⟨rfl,hg,hEv⟩;have hs21:=hg.size;have hjl21:=hEv.lt;have S21:=Lib.hid (S20.out.call hg hEv);clear hg hEv S20 HT;clear c4_0 c4_1 c4_2 c4_3 c4_4 c4_5 z4 l4;replace hs21:w3.heap.size+1≤w21.heap.size:=by simp at hs21;omega
   obtain⟨⟨c22_0,c22_1,c22_2,c22_3,c22_4⟩,z22⟩:=S21.out.cells5 0 rfl;have l22:=(S21.out.blk 0 rfl).2.1;obtain⟨_,e1,e2,e3,e4,e5⟩:=S21.out.wk.fact.2;have hel:=World.block_lt_of_cell? _ _ e1;have S23:=Lib.hid (S21.out.drew);clear S21;go_wp2_with fail
   go_region_with (first
    | (go_at_call 25
       refine (par_expr hT S23.out.env).mono ?_;intro e w24 ho;obtain⟨ch,rfl,hp⟩ | ⟨y,j24,v,rfl,⟨d',k',n',o',m',a',l',c',rfl,hx⟩,hS,hr,hs24,hq24⟩:=S23.out.rule ho RM.out
       ·exact⟨rfl,hp⟩
       have S24:=Lib.hid (hS.add S23.out (fEx y [.int .i64 k',.int .i64 n',.string o',.string m',.slice a' l' c']) ⟨d',hx⟩);have R24:=Lib.hid hr;replace hs24:w21.heap.size≤w24.heap.size:=by simp at hs24;omega
       obtain⟨⟨g0,g1,g2,g3,g4⟩,gf⟩:=S24.out.cells5 0 rfl;obtain⟨⟨u0,u1,u2,u3,u4,u5⟩,uf⟩:=S24.out.cells6 1 rfl;have gl:=(S24.out.blk 0 rfl).2.1;have ul:=(S24.out.blk 1 rfl).2.1;obtain⟨_,y1,y2,y3,y4,y5⟩:=S24.out.wk.fact.1.2;clear hS hr ho hx hq24))
   all_goals
    clear g0 g1 g2 g3 g4 gf u0 u1 u2 u3 u4 u5 uf gl ul y1 y2 y3 y4 y5 e1 e2 e3 e4 e5 hel;go_wp2_with fail;have S25:=Lib.hid (S24.out.set6 1 rfl (.int .i64 3) (.string (strOf x.name)) (.string ⟨#[]⟩) (.slice (some ⟨w24.heap.size,0,none⟩) 2 2) (.slice none 0 0) (.slice none 0 0) [(w3.heap.size,(.cells #[.int .i64 k,.int .i64 n,.string o,.string (strOf x.name),.slice (some ⟨eb0,eo,none⟩) 1 c] 24)),(w.heap.size+1,(.cells #[.int .i64 3,.string (strOf x.name),.string ⟨#[]⟩,.slice (some ⟨w24.heap.size,0,none⟩) 2 2,.slice none 0 0,.slice none 0 0] 109)),(w.heap.size,(.cells #[.int .i64 0,.string ⟨#[]⟩,.string ⟨#[]⟩,.slice none 0 0,.slice none 0 0,.slice none 0 0] 109))] rfl);clear S24;have S26:=Lib.hid (S25.out.alloc (w24.heap.size) (by simp) (.cells #[.int .i64 k0,.int .i64 n0,.string o0,.string m0,.slice a0 l0 c0,.int .i64 k',.int .i64 n',.string o',.string m',.slice a' l' c'] 24));clear S25;have S27:=Lib.hid (S26.out.give 0 rfl);clear S26;have S28:=Lib.hid (S27.out.imp (G:=fSt (.mk 3 x.name [] [e0,y] [] []) [.int .i64 3,.string (strOf x.name),.string ⟨#[]⟩,.slice (some ⟨w24.heap.size,0,none⟩) 2 2,.slice none 0 0,.slice none 0 0]) (fun A hF=>fSt.mk (fExs.two _ hF.2 hF.1.1.1 hF.1.2) (fSts.nil _ _) (fSts.nil _ _)));clear S27;refine (par_expect hT _ (by decide) S28.out.env).mono ?_;intro e w29 ho;obtain⟨ch,rfl,hp⟩ | ⟨_,j29,v,rfl,rfl,hS,hr,hs29,hq29⟩:=S28.out.rule ho R24.out
    ·exact⟨rfl,hp⟩
    have hjl29:=hS.env.lt;clear hq29;have S29:=Lib.hid hS;have R29:=Lib.hid hr;clear hS hr ho R24 S28;replace hs29:w24.heap.size+1≤w29.heap.size:=by simp at hs29;omega
    obtain⟨⟨c30_0,c30_1,c30_2,c30_3,c30_4,c30_5⟩,z30⟩:=S29.out.cells6 2 rfl;have l30:=(S29.out.blk 2 rfl).2.1;obtain⟨⟨c31_0,c31_1,c31_2,c31_3,c31_4,c31_5⟩,z31⟩:=S29.out.cells6 1 rfl;have l31:=(S29.out.blk 1 rfl).2.1;go_wp2_with fail;have S32:=Lib.hid (S29.out.set6 2 rfl (.int .i64 3) (.string (strOf x.name)) (.string ⟨#[]⟩) (.slice (some ⟨w24.heap.size,0,none⟩) 2 2) (.slice none 0 0) (.slice none 0 0) [(w3.heap.size,(.cells #[.int .i64 k,.int .i64 n,.string o,.string (strOf x.name),.slice (some ⟨eb0,eo,none⟩) 1 c] 24)),(w.heap.size+1,(.cells #[.int .i64 3,.string (strOf x.name),.string ⟨#[]⟩,.slice (some ⟨w24.heap.size,0,none⟩) 2 2,.slice none 0 0,.slice none 0 0] 109)),(w.heap.size,(.cells #[.int .i64 3,.string (strOf x.name),.string ⟨#[]⟩,.slice (some ⟨w24.heap.size,0,none⟩) 2 2,.slice none 0 0,.slice none 0 0] 109))] rfl);clear S29;refine bodyPost_ret (v:=.agg #[.int .i64 3,.string (strOf x.name),.string ⟨#[]⟩,.slice (some ⟨w24.heap.size,0,none⟩) 2 2,.slice none 0 0,.slice none 0 0]) ?_ rfl (S32.out.ret R29.out (QSt.of S32.out.wk.fin));simp [results,Tryz.results121,go_sem,c30_0,c30_1,c30_2,c30_3,c30_4,c30_5]
 have q2:((sh:Int) == 2)=false:=by rw [beq_eq_false_iff_ne];omega
 rw [if_neg (fun h=>h2 h.1)] at hr;clear h2 HSH;replace hr:R=if sh=3 then _ else _:=hr
 by_cases h3:sh=3
 ·subst h3;rw [if_pos rfl] at hr;have RN:=Lib.hid hr;clear hr;have lx:w.heap.size<w3.heap.size:=by omega
  clear q1 q2;go_wp2_with fail;clear lx;clear c4_0 c4_1 c4_2 c4_3 c4_4 c4_5 z4 l4;clear S5;have S33:=Lib.hid (S3.out.set6 0 rfl (.int .i64 9) (.string ⟨#[]⟩) (.string ⟨#[]⟩) (.slice (some ⟨w3.heap.size+1,0,none⟩) 1 1) (.slice none 0 0) (.slice none 0 0) [(w.heap.size+1,(.cells #[.int .i64 9,.string ⟨#[]⟩,.string ⟨#[]⟩,.slice (some ⟨w3.heap.size+1,0,none⟩) 1 1,.slice none 0 0,.slice none 0 0] 109)),(w.heap.size,(.cells #[.int .i64 0,.string ⟨#[]⟩,.string ⟨#[]⟩,.slice none 0 0,.slice none 0 0,.slice none 0 0] 109))] rfl);clear S3;have S34:=Lib.hid (S33.out.alloc (w3.heap.size) (by simp) (.cells #[.int .i64 k,.int .i64 n,.string o,.string (strOf x.name),.slice a l c] 24));clear S33;have S35:=Lib.hid (S34.out.alloc (w3.heap.size+1) (by simp) (.cells #[.int .i64 k,.int .i64 n,.string o,.string (strOf x.name),.slice a l c] 24));clear S34;have S36:=Lib.hid (S35.out.give 0 rfl);clear S35;have S37:=Lib.hid (S36.out.imp (G:=fSt (.mk 9 [] [] [x] [] []) [.int .i64 9,.string ⟨#[]⟩,.string ⟨#[]⟩,.slice (some ⟨w3.heap.size+1,0,none⟩) 1 1,.slice none 0 0,.slice none 0 0]) (fun A hF=>fSt.mk (fExs.one _ hF.2 hF.1.2) (fSts.nil _ _) (fSts.nil _ _)));clear S36;refine (par_expect hT _ (by decide) S37.out.env).mono ?_;intro e w38 ho;obtain⟨ch,rfl,hp⟩ | ⟨_,j38,v,rfl,rfl,hS,hr,hs38,hq38⟩:=S37.out.rule ho RN.out
  ·exact⟨rfl,hp⟩
  have hjl38:=hS.env.lt;clear hq38;have S38:=Lib.hid hS;have R38:=Lib.hid hr;clear hS hr ho RN S37;replace hs38:w3.heap.size+1+1≤w38.heap.size:=by simp at hs38;omega
  obtain⟨⟨c39_0,c39_1,c39_2,c39_3,c39_4,c39_5⟩,z39⟩:=S38.out.cells6 2 rfl;have l39:=(S38.out.blk 2 rfl).2.1;obtain⟨⟨c40_0,c40_1,c40_2,c40_3,c40_4,c40_5⟩,z40⟩:=S38.out.cells6 1 rfl;have l40:=(S38.out.blk 1 rfl).2.1;go_wp2_with fail;have S41:=Lib.hid (S38.out.set6 2 rfl (.int .i64 9) (.string ⟨#[]⟩) (.string ⟨#[]⟩) (.slice (some ⟨w3.heap.size+1,0,none⟩) 1 1) (.slice none 0 0) (.slice none 0 0) [(w3.heap.size,(.cells #[.int .i64 k,.int .i64 n,.string o,.string (strOf x.name),.slice a l c] 24)),(w.heap.size+1,(.cells #[.int .i64 9,.string ⟨#[]⟩,.string ⟨#[]⟩,.slice (some ⟨w3.heap.size+1,0,none⟩) 1 1,.slice none 0 0,.slice none 0 0] 109)),(w.heap.size,(.cells #[.int .i64 9,.string ⟨#[]⟩,.string ⟨#[]⟩,.slice (some ⟨w3.heap.size+1,0,none⟩) 1 1,.slice none 0 0,.slice none 0 0] 109))] rfl);clear S38;refine bodyPost_ret (v:=.agg #[.int .i64 9,.string ⟨#[]⟩,.string ⟨#[]⟩,.slice (some ⟨w3.heap.size+1,0,none⟩) 1 1,.slice none 0 0,.slice none 0 0]) ?_ rfl (S41.out.ret R38.out (QSt.of S41.out.wk.fin));simp [results,Tryz.results121,go_sem,c39_0,c39_1,c39_2,c39_3,c39_4,c39_5]
 have q3:((sh:Int) == 3)=false:=by rw [beq_eq_false_iff_ne];omega
 rw [if_neg h3] at hr;have RN:=Lib.hid hr;clear hr h3;go_wp2_with fail;refine (par_fail S5.out.env).mono ?_;rintro e wf ⟨rfl,hb⟩;exact⟨rfl,S5.out.panic hb RN.out⟩
end
end
end Go.Proofs.YtmlafcimjhnhhaaGreatDoor
