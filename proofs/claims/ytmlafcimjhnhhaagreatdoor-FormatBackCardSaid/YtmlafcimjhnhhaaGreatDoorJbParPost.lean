/-
  The rule post, walked (walks printed by genpar.py).
-/
import Derived.Test.YtmlafcimjhnhhaaGreatDoorJbJpAx
import Derived.Deep.RegionLaw
import Derived.Deep.DrawnRows
import Derived.Test.YtmlafcimjhnhhaaGreatDoorJbParExpr
set_option linter.unusedSectionVars false
set_option linter.unusedSimpArgs false
set_option linter.unnecessarySimpa false
set_option linter.unusedVariables false
namespace Go.Proofs.YtmlafcimjhnhhaaGreatDoor
section
open Lx Go.RowKit
theorem flat_upto {α:Type}{w:World}{k g:Nat}{P:α→List Value→Prop}{l:List α}(hc:∀ i (h:i<l.length),∃ cs:List Value,cs.length=k∧(∀ j,j<k→w.cell? ⟨g,0+(i*k+j),none⟩=cs[j]?)∧P l[i] cs) :
  ∀ m,m≤l.length→∃ xs,Flat k P (l.take m) xs∧∀ j,j<m*k→w.cell? ⟨g,j,none⟩=xs[j]?:=by
 intro m
 induction m with
 | zero=>intro _;exact⟨[],Flat.nil,fun j hj=>by simp at hj⟩
 | succ m ih =>
   intro hm;obtain⟨xs,hf,hx⟩:=ih (by omega);obtain⟨cs,h1,h2,h3⟩:=hc m (by omega);have hl:xs.length=m*k:=by rw [hf.1,List.length_take];congr 1;omega
   refine⟨xs++cs,?_,fun j hj=>?_⟩
   ·rw [List.take_succ_eq_append_getElem (by omega)];exact hf.snoc h1 h3
   ·by_cases hlt:j<m*k
    ·rw [List.getElem?_append_left (by omega)];exact hx j hlt
    ·rw [List.getElem?_append_right (by omega),hl];have hjk:j-m*k<k:=by rw [Nat.succ_mul] at hj;omega
     have:=h2 (j-m*k) hjk;rw [← this,show 0+(m*k+(j-m*k))=j from by omega]
theorem IsEx.one {A:Nat→Prop}{w:World}{d:Nat}{e:Ex}{cs:List Value}(h:IsEx A w d e cs):∀ u∈cs,u.oneCell'=true:=by
 cases d with
 | zero=>exact absurd h (by simp [IsEx])
 | succ d =>
   obtain⟨k,n,o,m,ks⟩:=e;obtain⟨v,rfl,hl⟩:=h;have hv:v.oneCell'=true:=by
    obtain⟨_,⟨_,a,c,rfl⟩ | ⟨g,off,c,rfl,_⟩⟩:=hl <;> rfl
   intro u hu;simp at hu;rcases hu with rfl | rfl | rfl | rfl | rfl <;> first | rfl | exact hv
theorem Flat.ones {α:Type}{k:Nat}{P:α→List Value→Prop}{l:List α}{xs:List Value}(hk:0<k)(h:Flat k P l xs)(hP:∀ x cs,P x cs→∀ u∈cs,u.oneCell'=true):∀ u∈xs,u.oneCell'=true:=by
 intro u hu;obtain⟨j,hj,rfl⟩:=List.getElem_of_mem hu;have hi:j / k<l.length:=by rw [h.1] at hj;exact Nat.div_lt_of_lt_mul (by rw [Nat.mul_comm];exact hj)
 refine hP _ _ (h.2 (j / k) hi) _ ?_;rw [List.mem_iff_getElem?];refine⟨j % k,?_⟩;rw [List.getElem?_take_of_lt (Nat.mod_lt _ hk),List.getElem?_drop,Nat.mul_comm,Nat.div_add_mod,List.getElem?_eq_getElem hj]
theorem Flat.append {α:Type}{k:Nat}{P:α→List Value→Prop}{l:List α}{xs:List Value}:∀ {l2:List α} {ys:List Value},Flat k P l xs→Flat k P l2 ys→Flat k P (l++l2) (xs++ys):=by
 intro l2 ys h1 h2;refine⟨by rw [List.length_append,List.length_append,h1.1,h2.1,Nat.add_mul],fun i hi=>?_⟩
 by_cases hlt:i<l.length
 ·rw [List.getElem_append_left hlt];have hle:i*k+k≤l.length*k:=mul_step k hlt;rw [List.drop_append_of_le_length (by have:=h1.1;omega),List.take_append_of_le_length (by have:=h1.1;rw [List.length_drop];omega)];exact h1.2 i hlt
 ·have hi2:i-l.length<l2.length:=by simp at hi;omega
  rw [List.getElem_append_right (by omega)];have e:i*k=xs.length+(i-l.length)*k:=by
   rw [h1.1,← Nat.add_mul];congr 1;omega
  rw [e,← List.drop_drop,List.drop_left];exact h2.2 _ hi2
/-- A slice of expressions from its block's head on, as flat cells. -/
theorem fExs.flat {A:Nat→Prop}{w:World}{l:List Ex}{g n c:Nat}(h:(fExs l (.slice (some ⟨g,0,none⟩) n c)).holds A w)(hne:l≠[]):n=l.length∧l.length≤maxLen∧∃ xs,xs.length=l.length*5∧(fFlatEx l xs).holds A w∧(∀ j u,xs[j]?=some u→w.cell? ((⟨g,0,none⟩:Addr).add j)=some u)∧∀ u∈xs,u.oneCell'=true:=by
 obtain⟨d,hl,⟨h0,_⟩ | ⟨g',off,cp,hv,hA,hc⟩⟩:=h
 ·exact absurd h0 hne
 ·simp only [Value.slice.injEq,Option.some.injEq,Addr.mk.injEq] at hv;obtain⟨⟨rfl,rfl,_⟩,rfl,rfl⟩:=hv;obtain⟨xs,hf,hx⟩:=flat_upto hc l.length (Nat.le_refl _);rw [List.take_length] at hf;refine⟨rfl,hl,xs,hf.1,⟨d,hf⟩,fun j u hu=>?_,hf.ones (by omega) fun _ _ h=>h.one⟩;have hj:j<xs.length:=(List.getElem?_eq_some_iff.1 hu).1;rw [add_at,hx j (by rw [← hf.1];exact hj),hu]
theorem fFlatEx.cons {A:Nat→Prop}{w:World}{e:Ex}{cs:List Value}{l:List Ex}{xs:List Value}(he:(fEx e cs).holds A w)(hc:cs.length=5)(h:(fFlatEx l xs).holds A w):(fFlatEx (e::l) (cs++xs)).holds A w:=by
 obtain⟨d,h⟩:=h;obtain⟨d',he⟩:=he;exact⟨max d d',Flat.append (l:=[e]) (Flat.snoc (l:=[]) (xs:=[]) Flat.nil hc (he.le (Nat.le_max_right _ _))) (h.mono fun _ _ hx=>hx.le (Nat.le_max_left _ _))⟩
theorem fExs.of_rowN {A:Nat→Prop}{wc:World}{B:Nat}{T:TypeId}{v:Value}{l:List Ex}{xs:List Value}{n:Nat}(hn:n=l.length)(hr:wc.ownsRow B T 5 v n xs)(hf:(fFlatEx l xs).holds A wc)(hA:∀ g,v.ownBlock=some g→A g):(fExs l v).holds A wc:=by
 subst hn;exact fExs.of_row hr hf hA
theorem argsP_nil {ts:List Tok}{E:Nat→PR Ex}{j j':Nat}{ks:List Ex}(ht:isT ts (j+1) [41]=true)(h:argsP ts E j=.ok (ks,j')):ks=[]:=by
 unfold argsP at h;obtain⟨_,k,h1,h⟩:=bindP_inv h;have:=expectP_adv h1;subst this;rw [ht,if_pos rfl] at h;cases h;rfl
theorem argsLoop_pos {ts:List Tok}{E:Nat→PR Ex}:∀ q acc j j' ks,acc≠[]→argsLoop ts E q acc j=.ok (ks,j')→ks≠[]:=by
 intro q
 induction q with
 | zero=>intro acc j j' ks _ h;cases h
 | succ q ih =>
   intro acc j j' ks hacc h;unfold argsLoop at h;split at h
   ·obtain⟨e,k,_,h⟩:=bindP_inv h;exact ih _ _ _ _ (by simp) h
   ·obtain⟨_,k,_,h⟩:=bindP_inv h;cases h;exact hacc
theorem argsP_some {ts:List Tok}{E:Nat→PR Ex}{j j':Nat}{ks:List Ex}(ht:isT ts (j+1) [41]=false)(h:argsP ts E j=.ok (ks,j')):ks≠[]:=by
 unfold argsP at h;obtain⟨_,k,h1,h⟩:=bindP_inv h;have:=expectP_adv h1;subst this;rw [ht,if_neg (by decide)] at h;obtain⟨e,k,_,h⟩:=bindP_inv h;exact argsLoop_pos _ _ _ _ _ (by simp) h
theorem QEs2.nil {lo:Nat}{r:Value}{w':World}{l:List Ex}(h:QEs2 lo l r w')(hl:l=[]):r=.slice none 0 0:=by
 rcases h with⟨_,h⟩ | ⟨h,_⟩
 ·exact h
 ·exact absurd hl h
theorem QEs2.some {lo:Nat}{r:Value}{w':World}{l:List Ex}(h:QEs2 lo l r w')(hl:l≠[]):∃ g c xs,r=.slice (some ⟨g,0,none⟩) l.length c∧xs.length=l.length*5∧(fFlatEx l xs).holds (lo≤·) w'∧(∀ j u,xs[j]?=some u→w'.cell? ((⟨g,0,none⟩:Addr).add j)=some u)∧(∀ u∈xs,u.oneCell'=true)∧g<w'.heap.size:=by
 rcases h with⟨h,_⟩ | ⟨_,g,n,c,rfl,h⟩
 ·exact absurd h hl
 ·obtain⟨rfl,_,xs,h1,h2,h3,h4⟩:=fExs.flat h hl;refine⟨g,c,xs,rfl,h1,h2,h3,h4,?_⟩;have hp:0<l.length:=List.length_pos_iff.2 hl;have h5:=h3 0 _ (List.getElem?_eq_getElem (by omega));rw [add_at] at h5;exact World.block_lt_of_cell? w' _ h5
theorem cells_alloc {w:World}(o:Obj){g j:Nat}{u:Value}(hg:g<w.heap.size)(h:w.cell? ((⟨g,0,none⟩:Addr).add j)=Option.some u):(w.alloc o).cell? ((⟨g,0,none⟩:Addr).add j)=Option.some u:=by
 rw [add_at] at h ⊢;exact (((Below.refl w.heap.size w).alloc (Nat.le_refl _) o).cell (p:=⟨g,j,none⟩) hg).trans h
theorem argsLoop_len {ts:List Tok}{E:Nat→PR Ex}(hE:Adv E):∀ q acc j ks j',argsLoop ts E q acc j=.ok (ks,j')→ks.length+j≤acc.length+j':=by
 intro q
 induction q with
 | zero=>intro acc j ks j' h;cases h
 | succ q ih =>
   intro acc j ks j' h;unfold argsLoop at h;split at h
   ·obtain⟨e,k,h1,h⟩:=bindP_inv h;have:=hE _ _ _ h1;have:=ih _ _ _ _ h;simp at this;omega
   ·obtain⟨_,k,h1,h⟩:=bindP_inv h;have:=expectP_adv h1;cases h;omega
theorem argsP_len {ts:List Tok}{E:Nat→PR Ex}(hE:Adv E):∀ j ks j',argsP ts E j=.ok (ks,j')→ks.length≤j':=by
 intro j ks j' h;unfold argsP at h;obtain⟨_,k,h1,h⟩:=bindP_inv h;split at h
 ·cases h;simp
 ·obtain⟨e,k,h2,h⟩:=bindP_inv h;have:=argsLoop_len hE _ _ _ _ _ h;have:=hE _ _ _ h2;simp only [List.length_cons,List.length_nil] at *;omega
/-- Where the loop of post stands. -/
def PostRel (pb g cap:Nat)(ts:List Tok)(E:Nat→PR Ex)(i:Nat)(w:World)(R:PR (Ex×Nat))(b:Nat)(v:Value)(wr:World):Prop :=
 ∃ (j q:Nat) (e:Ex) (sh:Nat) (k n:Int) (o m:ByteArray) (a:Option Addr) (l c:Nat),v=.int .i64 (sh:Int)∧PS pb g cap ts w j wr [(b,.cells #[.int .i64 k,.int .i64 n,.string o,.string m,.slice a l c] 24),(w.heap.size,.cells #[.int .i64 0,.int .i64 0,.string ⟨#[]⟩,.string ⟨#[]⟩,.slice none 0 0] 24)] noRow (fEx e [.int .i64 k,.int .i64 n,.string o,.string m,.slice a l c])∧ts.length-j<q∧i≤j∧R=postLoop ts E q e sh j
attribute [local go_sem ↓] Go.wp_at_zero Go.wp_at_succ
section
variable {pb g cap:Nat} {ts:List Tok} {i:Nat} {w:World}
variable {E:Nat→PR Ex} {f:Nat} (hE:Adv E)
set_option maxHeartbeats 1000000 in
include hE in
theorem par_post (hT:TWF ts)(hA:∀ i w,PEnv pb g cap ts i w→ts.length-i<f+1→Calls Tryz.prog 111 #[.pointer (some ⟨pb,0,none⟩)] w (POut pb g cap ts w (QPo w.heap.size) (atomP ts E i)))
  (hP:∀ i w,PEnv pb g cap ts i w→ts.length-i<f+1→Calls Tryz.prog 112 #[.pointer (some ⟨pb,0,none⟩)] w (POut pb g cap ts w (QEs2 w.heap.size) (argsP ts E i)))
  (h:PEnv pb g cap ts i w) (hi:ts.length-i<f+1):Calls Tryz.prog 96 #[.pointer (some ⟨pb,0,none⟩)] w (POut pb g cap ts w (QPo w.heap.size) (postP ts E i)):=by
 obtain⟨R,hr⟩:∃ R,R=postP ts E i:=⟨_,rfl⟩;rw [← hr];unfold postP at hr;have R0:=Lib.hid hr;have hpb:=h.pb_lt;have hil:=h.lt;have S0:=Lib.hid h.ps;clear hr h;have HP:=Lib.hid hP;clear hP;have HA:=Lib.hid hA;clear hA;have S1:=Lib.hid (S0.out.alloc (w.heap.size) (by simp) (.cells #[.int .i64 0,.int .i64 0,.string ⟨#[]⟩,.string ⟨#[]⟩,.slice none 0 0] 24));clear S0;go_enter Tryz.func96,Tryz.ntmps96;go_wp2_with fail;refine (HA.out _ _ S1.out.env hi).mono ?_;intro e w2 ho;obtain⟨ch,rfl,hp⟩ | ⟨x,j2,v,rfl,⟨d,k,n,o,m,a,l,c,rfl,hx⟩,hS,hr,hs2,hq2⟩:=S1.out.rule ho R0.out
 ·exact⟨rfl,hp⟩
 have hjl2:=hS.env.lt;have hadv2:=atomP_adv hE _ _ _ hq2;clear hq2;have S2:=Lib.hid (hS.add S1.out (fEx x.1 [.int .i64 k,.int .i64 n,.string o,.string m,.slice a l c]) ⟨d,hx⟩);have R2:=Lib.hid hr;clear hS hr ho R0 S1 hx;replace hs2:w.heap.size+1≤w2.heap.size:=by simp at hs2;omega
 have S3:=Lib.hid (S2.out.alloc (w2.heap.size) (by simp) (.cells #[.int .i64 k,.int .i64 n,.string o,.string m,.slice a l c] 24));clear S2;obtain⟨x,sh⟩:=x;go_wp2_with fail
 go_loopw [5] (fun v wr=>PostRel pb g cap ts E i w R w2.heap.size v wr) (fun _ wr=>ts.length-nextOf pb wr)
 case atStart=>exact⟨j2,_,x,sh,k,n,o,m,a,l,c,rfl,S3.out.imp fun A hF=>hF.2,by omega,by omega,R2.out⟩
 case round =>
  clear S3 R2;obtain⟨j,q,x,sh,k,n,o,m,a,l,c,rfl,hS,hq,hij,hr⟩:=hrel;have hnx:=Lib.hid hS.env.next_eq;have hjl:=hS.env.lt;have S:=Lib.hid hS;obtain⟨q,rfl⟩:∃ q',q=q'+1:=⟨q-1,by omega⟩;unfold postLoop at hr;have RL:=Lib.hid hr;clear hr hS;obtain⟨t,ht⟩:∃ t,isT ts (j) [46]=t:=⟨_,rfl⟩;have hr:=RL.out;rw [ht] at hr;cases t
  rotate_left
  ·rw [if_pos rfl] at hr;have R4y:=Lib.hid hr;have T4y:=Lib.hid ht;clear hr ht RL;go_wp2_with fail;refine (accept_true hT ⟨#[46]⟩ (by decide) T4y.out S.out.env).mono ?_;rintro e w5 ⟨rfl,hg,hEv⟩;have hs5:=hg.size;have hjl5:=hEv.lt;have S5:=Lib.hid (S.out.call hg hEv);clear hg hEv S T4y;go_wp2_with fail;refine (par_name hT S5.out.env).mono ?_;intro e w6 ho;obtain⟨ch,rfl,hp⟩ | ⟨nm,j6,v,rfl,rfl,hS,hr,hs6,hq6⟩:=S5.out.rule ho R4y.out
   ·exact⟨rfl,hp⟩
   have hjl6:=hS.env.lt;have hadv6:=nameP_adv hq6;clear hq6;have S6:=Lib.hid hS;have R6:=Lib.hid hr;clear hS hr ho R4y S5;obtain⟨t,ht⟩:∃ t,isT ts (j6) [40]=t:=⟨_,rfl⟩;have hr:=R6.out;rw [ht] at hr;cases t
   rotate_left
   ·rw [if_pos rfl] at hr;have R7y:=Lib.hid hr;have T7y:=Lib.hid ht;clear hr ht R6;go_wp2_with fail;refine (is_true ⟨#[40]⟩ T7y.out S6.out.env).mono ?_;rintro e w8 ⟨rfl,hg⟩;have hs8:=hg.size;have S8:=Lib.hid (S6.out.below hg);clear hg S6 T7y;obtain⟨t1,ht1⟩:∃ t1,isT ts (j6+1) [41]=t1:=⟨_,rfl⟩;obtain⟨⟨c9_0,c9_1,c9_2,c9_3,c9_4⟩,z9⟩:=S8.out.cells5 0 rfl;have l9:=(S8.out.blk 0 rfl).2.1;have SB:=Lib.hid S8.out.drew;have SA:=Lib.hid (S8.out.alloc w8.heap.size rfl (.cells #[.int .i64 k,.int .i64 n,.string o,.string m,.slice a l c] 24)).drew;obtain⟨i0,hi0,hz0,hz1,hz2⟩:=info_parts Tryz.infoEx;have HI:=Lib.hid hi0;have HZ0:=Lib.hid hz0;have HZ1:=Lib.hid hz1;have HZ2:=Lib.hid hz2;clear hi0 hz0 hz1 hz2;have hlen:=hT.len;go_wp2_with fail;cases t1
    ·clear S8;have HT1:=Lib.hid ht1;clear ht1
     go_region_law (first
      | (go_simp
         go_at_call 112
         with_reducible refine (HP.out _ _ SA.out.env (by omega)).mono ?_
         intro e w4 ho;obtain⟨ch,rfl,hp⟩ | ⟨ks,j4,v,rfl,hQ,hS,hr,hs4,hq4⟩:=SA.out.rule ho R7y.out
         ·exact⟨rfl,hp⟩
         obtain⟨gk,kc,xs,rfl,hxl,hxf,hxc,hxo,hgk⟩:=hQ.some (argsP_some HT1.out hq4);have hadv4:=argsP_adv hE _ _ _ hq4;have hjl4:=hS.env.lt;have hkl:=argsP_len hE _ _ _ hq4;have hkp:0<ks.length:=List.length_pos_iff.2 (argsP_some HT1.out hq4);have XC:=Lib.hid hxc;have XO:=Lib.hid hxo;have XL:=Lib.hid hxl;have S4:=Lib.hid (hS.add SA.out (fFlatEx ks xs) hxf);have R4:=Lib.hid hr;replace hs4:w8.heap.size≤w4.heap.size:=by simp at hs4;omega
         obtain⟨⟨q0,q1,q2,q3,q4⟩,qf⟩:=S4.out.cells5 1 rfl;clear hS hr ho hQ hxf hxc hxo hxl hq4)
      | (go_simp
         go_at_call 112
         with_reducible refine (HP.out _ _ SB.out.env (by omega)).mono ?_
         intro e w4 ho;obtain⟨ch,rfl,hp⟩ | ⟨ks,j4,v,rfl,hQ,hS,hr,hs4,hq4⟩:=SB.out.rule ho R7y.out
         ·exact⟨rfl,hp⟩
         obtain⟨gk,kc,xs,rfl,hxl,hxf,hxc,hxo,hgk⟩:=hQ.some (argsP_some HT1.out hq4);have hadv4:=argsP_adv hE _ _ _ hq4;have hjl4:=hS.env.lt;have hkl:=argsP_len hE _ _ _ hq4;have hkp:0<ks.length:=List.length_pos_iff.2 (argsP_some HT1.out hq4);have XC:=Lib.hid hxc;have XO:=Lib.hid hxo;have XL:=Lib.hid hxl;have S4:=Lib.hid (hS.add SB.out (fFlatEx ks xs) hxf);have R4:=Lib.hid hr;replace hs4:w8.heap.size≤w4.heap.size:=by simp at hs4;omega
         obtain⟨⟨q0,q1,q2,q3,q4⟩,qf⟩:=S4.out.cells5 0 rfl;clear hS hr ho hQ hxf hxc hxo hxl hq4)
      | (have tok:=S4
         clear tok;refine step_append_lies _ (by rfl) (.tmp 20) (.tmp 22) 22 (by rfl) w.heap.size 24 i0 _ 5 72 Tryz.underlying22 HI.out HZ0.out HZ1.out HZ2.out rfl (by decide) _ _ _ (by rfl) ((S4.out.alloc w4.heap.size rfl (.cells #[.int .i64 k,.int .i64 n,.string o,.string m,.slice a l c] 24)).toRow 0 rfl 5 1 rfl (by unfold maxLen;omega)).wk.row ⟨gk,0,none⟩ ks.length kc xs (by rfl) XL.out (fun j u hu=>cells_alloc _ hgk (XC.out j u hu)) XO.out hkp (by show 1+ks.length≤maxLen;unfold maxLen;omega) (by show (1+ks.length)*72≤140737488355328;omega) (S4.out.alloc w4.heap.size rfl (.cells #[.int .i64 k,.int .i64 n,.string o,.string m,.slice a l c] 24)).lo_le _ rfl ?_;intro g' cp' w7 hown hgrow hat hlt;have S7:=Lib.hid ((((S4.out.alloc w4.heap.size rfl (.cells #[.int .i64 k,.int .i64 n,.string o,.string m,.slice a l c] 24)).toRow 0 rfl 5 1 rfl (by unfold maxLen;omega)).append hown hgrow (hat.imp id fun h=>h.trans (by simp))).whole (G:=fExs (x::ks) (.slice (some ⟨g',0,none⟩) (1+ks.length) cp')) fun A hF hA=>fExs.of_rowN (xs:=[.int .i64 k,.int .i64 n,.string o,.string m,.slice a l c]++xs) (Nat.add_comm 1 ks.length) hown (fFlatEx.cons hF.1 rfl hF.2) hA);obtain⟨⟨g0,g1,g2,g3,g4⟩,gf⟩:=S7.out.cells5 0 rfl;have gl:=(S7.out.blk 0 rfl).2.1;clear hown hgrow hat hlt XC XO XL S4 q0 q1 q2 q3 q4 qf)
      | (have tok:=S4
         clear tok;refine step_append_lies _ (by rfl) (.tmp 20) (.tmp 22) 22 (by rfl) w.heap.size 24 i0 _ 5 72 Tryz.underlying22 HI.out HZ0.out HZ1.out HZ2.out rfl (by decide) _ _ _ (by rfl) (S4.out.toRow 0 rfl 5 1 rfl (by unfold maxLen;omega)).wk.row ⟨gk,0,none⟩ ks.length kc xs (by rfl) XL.out XC.out XO.out hkp (by show 1+ks.length≤maxLen;unfold maxLen;omega) (by show (1+ks.length)*72≤140737488355328;omega) S4.out.lo_le _ rfl ?_;intro g' cp' w7 hown hgrow hat hlt;have S7:=Lib.hid (((S4.out.toRow 0 rfl 5 1 rfl (by unfold maxLen;omega)).append hown hgrow (hat.imp id fun h=>h.trans (by simp))).whole (G:=fExs (x::ks) (.slice (some ⟨g',0,none⟩) (1+ks.length) cp')) fun A hF hA=>fExs.of_rowN (xs:=[.int .i64 k,.int .i64 n,.string o,.string m,.slice a l c]++xs) (Nat.add_comm 1 ks.length) hown (fFlatEx.cons hF.1 rfl hF.2) hA);obtain⟨⟨g0,g1,g2,g3,g4⟩,gf⟩:=S7.out.cells5 0 rfl;have gl:=(S7.out.blk 0 rfl).2.1;clear hown hgrow hat hlt XC XO XL S4 q0 q1 q2 q3 q4 qf))
     all_goals
      have S8:=Lib.hid ((S7.out.set5 0 rfl (.int .i64 9) (.int .i64 0) (.string ⟨#[]⟩) (.string (strOf nm)) (.slice (some ⟨g',0,none⟩) (1+ks.length) cp') [(w2.heap.size,(.cells #[.int .i64 9,.int .i64 0,.string ⟨#[]⟩,.string (strOf nm),.slice (some ⟨g',0,none⟩) (1+ks.length) cp'] 24)),(w.heap.size,(.cells #[.int .i64 0,.int .i64 0,.string ⟨#[]⟩,.string ⟨#[]⟩,.slice none 0 0] 24))] rfl).imp (G:=fEx (.mk 9 0 [] nm (x::ks)) [.int .i64 9,.int .i64 0,.string ⟨#[]⟩,.string (strOf nm),.slice (some ⟨g',0,none⟩) (1+ks.length) cp']) fun A hF=>fEx.mk hF);have H8:=Lib.hid S8.out.env.next_eq;clear S7;go_wp2_with fail
      go_roundw
      case rel=>exact⟨j4,q,.mk 9 0 [] nm (x::ks),3,9,0,⟨#[]⟩,strOf nm,some ⟨g',0,none⟩,1+ks.length,cp',rfl,S8.out,by omega,by omega,R4.out⟩
      case measure=>rw [H8.out,hnx.out];omega
    ·clear S8;have HT1:=Lib.hid ht1;clear ht1
     go_region_law (first
      | (go_simp
         go_at_call 112
         with_reducible refine (HP.out _ _ SA.out.env (by omega)).mono ?_
         intro e w4 ho;obtain⟨ch,rfl,hp⟩ | ⟨ks,j4,v,rfl,hQ,hS,hr,hs4,hq4⟩:=SA.out.rule ho R7y.out
         ·exact⟨rfl,hp⟩
         obtain rfl:=argsP_nil HT1.out hq4;obtain rfl:=hQ.nil rfl;have hadv4:=argsP_adv hE _ _ _ hq4;have hjl4:=hS.env.lt;have S4a:=Lib.hid hS;have R4:=Lib.hid hr;replace hs4:w8.heap.size≤w4.heap.size:=by simp at hs4;omega
         obtain⟨⟨q0,q1,q2,q3,q4⟩,qf⟩:=S4a.out.cells5 1 rfl;have ql:=(S4a.out.blk 1 rfl).2.1;clear hS hr ho hQ hq4)
      | (go_simp
         go_at_call 112
         with_reducible refine (HP.out _ _ SB.out.env (by omega)).mono ?_
         intro e w4 ho;obtain⟨ch,rfl,hp⟩ | ⟨ks,j4,v,rfl,hQ,hS,hr,hs4,hq4⟩:=SB.out.rule ho R7y.out
         ·exact⟨rfl,hp⟩
         obtain rfl:=argsP_nil HT1.out hq4;obtain rfl:=hQ.nil rfl;have hadv4:=argsP_adv hE _ _ _ hq4;have hjl4:=hS.env.lt;have S4b:=Lib.hid hS;have R4:=Lib.hid hr;replace hs4:w8.heap.size≤w4.heap.size:=by simp at hs4;omega
         obtain⟨⟨q0,q1,q2,q3,q4⟩,qf⟩:=S4b.out.cells5 0 rfl;have ql:=(S4b.out.blk 0 rfl).2.1;clear hS hr ho hQ hq4))
     all_goals
      go_wp2_with fail
      go_roundw
      case rel =>
       first
       | exact⟨j4,q,.mk 9 0 [] nm [x],3,9,0,⟨#[]⟩,strOf nm,some ⟨w8.heap.size,0,none⟩,1,1,rfl,((S4a.out.set5 1 rfl (.int .i64 9) (.int .i64 0) (.string ⟨#[]⟩) (.string (strOf nm)) (.slice (some ⟨w8.heap.size,0,none⟩) 1 1) [(w8.heap.size,(.cells #[.int .i64 k,.int .i64 n,.string o,.string m,.slice a l c] 24)),(w2.heap.size,(.cells #[.int .i64 9,.int .i64 0,.string ⟨#[]⟩,.string (strOf nm),.slice (some ⟨w8.heap.size,0,none⟩) 1 1] 24)),(w.heap.size,(.cells #[.int .i64 0,.int .i64 0,.string ⟨#[]⟩,.string ⟨#[]⟩,.slice none 0 0] 24))] rfl).give 0 rfl).imp fun A hF=>fEx.mk (fExs.one _ hF.2 hF.1),by omega,by omega,R4.out⟩
       | exact⟨j4,q,.mk 9 0 [] nm [x],3,9,0,⟨#[]⟩,strOf nm,some ⟨w4.heap.size,0,none⟩,1,1,rfl,(((S4b.out.set5 0 rfl (.int .i64 9) (.int .i64 0) (.string ⟨#[]⟩) (.string (strOf nm)) (.slice (some ⟨w4.heap.size,0,none⟩) 1 1) [(w2.heap.size,(.cells #[.int .i64 9,.int .i64 0,.string ⟨#[]⟩,.string (strOf nm),.slice (some ⟨w4.heap.size,0,none⟩) 1 1] 24)),(w.heap.size,(.cells #[.int .i64 0,.int .i64 0,.string ⟨#[]⟩,.string ⟨#[]⟩,.slice none 0 0] 24))] rfl).alloc w4.heap.size (by simp) (.cells #[.int .i64 k,.int .i64 n,.string o,.string m,.slice a l c] 24)).give 0 rfl).imp fun A hF=>fEx.mk (fExs.one _ hF.2 hF.1),by omega,by omega,R4.out⟩
      case measure =>
       first
       | (rw [(S4a.out.set5 1 rfl (.int .i64 9) (.int .i64 0) (.string ⟨#[]⟩) (.string (strOf nm)) (.slice (some ⟨w8.heap.size,0,none⟩) 1 1) [(w8.heap.size,(.cells #[.int .i64 k,.int .i64 n,.string o,.string m,.slice a l c] 24)),(w2.heap.size,(.cells #[.int .i64 9,.int .i64 0,.string ⟨#[]⟩,.string (strOf nm),.slice (some ⟨w8.heap.size,0,none⟩) 1 1] 24)),(w.heap.size,(.cells #[.int .i64 0,.int .i64 0,.string ⟨#[]⟩,.string ⟨#[]⟩,.slice none 0 0] 24))] rfl).env.next_eq,hnx.out];omega)
       | (rw [((S4b.out.set5 0 rfl (.int .i64 9) (.int .i64 0) (.string ⟨#[]⟩) (.string (strOf nm)) (.slice (some ⟨w4.heap.size,0,none⟩) 1 1) [(w2.heap.size,(.cells #[.int .i64 9,.int .i64 0,.string ⟨#[]⟩,.string (strOf nm),.slice (some ⟨w4.heap.size,0,none⟩) 1 1] 24)),(w.heap.size,(.cells #[.int .i64 0,.int .i64 0,.string ⟨#[]⟩,.string ⟨#[]⟩,.slice none 0 0] 24))] rfl).alloc w4.heap.size (by simp) (.cells #[.int .i64 k,.int .i64 n,.string o,.string m,.slice a l c] 24)).env.next_eq,hnx.out];omega)
   rw [if_neg (by decide)] at hr;have R7n:=Lib.hid hr;have T7n:=Lib.hid ht;clear hr ht R6;go_wp2_with fail;refine (is_false ⟨#[40]⟩ T7n.out S6.out.env).mono ?_;rintro e w10 ⟨rfl,hg⟩;have hs10:=hg.size;have S10:=Lib.hid (S6.out.below hg);clear hg S6 T7n;obtain⟨⟨c11_0,c11_1,c11_2,c11_3,c11_4⟩,z11⟩:=S10.out.cells5 0 rfl;have l11:=(S10.out.blk 0 rfl).2.1;go_wp2_with fail;have S12:=Lib.hid (S10.out.set5 0 rfl (.int .i64 8) (.int .i64 0) (.string ⟨#[]⟩) (.string (strOf nm)) (.slice (some ⟨w10.heap.size,0,none⟩) 1 1) [(w2.heap.size,(.cells #[.int .i64 8,.int .i64 0,.string ⟨#[]⟩,.string (strOf nm),.slice (some ⟨w10.heap.size,0,none⟩) 1 1] 24)),(w.heap.size,(.cells #[.int .i64 0,.int .i64 0,.string ⟨#[]⟩,.string ⟨#[]⟩,.slice none 0 0] 24))] rfl);clear S10;have S13:=Lib.hid (S12.out.alloc (w10.heap.size) (by simp) (.cells #[.int .i64 k,.int .i64 n,.string o,.string m,.slice a l c] 24));clear S12;have S14:=Lib.hid (S13.out.give 0 rfl);clear S13;have S15:=Lib.hid (S14.out.imp (G:=fEx (.mk 8 0 [] nm [x]) [.int .i64 8,.int .i64 0,.string ⟨#[]⟩,.string (strOf nm),.slice (some ⟨w10.heap.size,0,none⟩) 1 1]) (fun A hF=>fEx.mk (fExs.one _ hF.2 hF.1)));clear S14;have H8:=Lib.hid S15.out.env.next_eq
   go_roundw
   case rel=>exact⟨j6,q,.mk 8 0 [] nm [x],2,8,0,⟨#[]⟩,strOf nm,some ⟨w10.heap.size,0,none⟩,1,1,rfl,S15.out,by omega,by omega,R7n.out⟩
   case measure=>rw [H8.out,hnx.out];omega
  rw [if_neg (by decide)] at hr;have R4n:=Lib.hid hr;have T4n:=Lib.hid ht;clear hr ht RL;go_wp2_with fail;refine (accept_false hT ⟨#[46]⟩ (by decide) T4n.out S.out.env).mono ?_;rintro e w16 ⟨rfl,hg,hEv⟩;have hs16:=hg.size;have hjl16:=hEv.lt;have S16:=Lib.hid (S.out.call hg hEv);clear hg hEv S T4n;obtain⟨⟨c17_0,c17_1,c17_2,c17_3,c17_4⟩,z17⟩:=S16.out.cells5 0 rfl;have l17:=(S16.out.blk 0 rfl).2.1;obtain⟨⟨c18_0,c18_1,c18_2,c18_3,c18_4⟩,z18⟩:=S16.out.cells5 1 rfl;have l18:=(S16.out.blk 1 rfl).2.1;go_wp2_with fail;have S19:=Lib.hid (S16.out.set5 1 rfl (.int .i64 k) (.int .i64 n) (.string o) (.string m) (.slice a l c) [(w2.heap.size,(.cells #[.int .i64 k,.int .i64 n,.string o,.string m,.slice a l c] 24)),(w.heap.size,(.cells #[.int .i64 k,.int .i64 n,.string o,.string m,.slice a l c] 24))] rfl);clear S16;refine bodyPost_ret (v:=.tuple #[.agg #[.int .i64 k,.int .i64 n,.string o,.string m,.slice a l c],.int .i64 (sh:Int)]) ?_ rfl (S19.out.ret R4n.out (QPo.of S19.out.wk.fin));simp [results,Tryz.results96,go_sem,c18_0,c18_1,c18_2,c18_3,c18_4]
end
end
section
open Lx Go.RowKit
section
variable {pb g cap:Nat} {ts:List Tok} (hT:TWF ts)
include hT
theorem par_args_of {f:Nat}(ih:∀ i w,PEnv pb g cap ts i w→ts.length-i<f→Calls Tryz.prog 25 #[.pointer (some ⟨pb,0,none⟩)] w (POut pb g cap ts w (QEx w.heap.size) (exprP ts f i))) :
  ∀ i w,PEnv pb g cap ts i w→ts.length-i<f+1→Calls Tryz.prog 112 #[.pointer (some ⟨pb,0,none⟩)] w (POut pb g cap ts w (QEs2 w.heap.size) (argsP ts (exprP ts f) i)) :=
 fun _ _ h hi=>par_args (exprP_adv f) hT ih h hi
theorem par_post_of {f:Nat}(ih:∀ i w,PEnv pb g cap ts i w→ts.length-i<f→Calls Tryz.prog 25 #[.pointer (some ⟨pb,0,none⟩)] w (POut pb g cap ts w (QEx w.heap.size) (exprP ts f i))) :
  ∀ i w,PEnv pb g cap ts i w→ts.length-i<f+1→Calls Tryz.prog 96 #[.pointer (some ⟨pb,0,none⟩)] w (POut pb g cap ts w (QPo w.heap.size) (postP ts (exprP ts f) i)):=by
 have ha:=par_args_of hT ih;have hn:=fun i w (h:PEnv pb g cap ts i w) hi=>par_named (f:=f) hT (fun i w h hi=>(ha i w h hi).mono fun _ _ ho=>ho.mono fun _ _ hq=>hq.weak) h hi
 have hat:=fun i w (h:PEnv pb g cap ts i w) hi=>par_atom (f:=f) hT hn ih h hi
 exact fun _ _ h hi=>par_post (exprP_adv f) hT hat ha h hi
theorem par_expr_all:∀ f i w,PEnv pb g cap ts i w→ts.length-i<f→Calls Tryz.prog 25 #[.pointer (some ⟨pb,0,none⟩)] w (POut pb g cap ts w (QEx w.heap.size) (exprP ts f i)):=by
 intro f
 induction f with
 | zero=>intro i w _ hi;omega
 | succ f ih =>
   intro i w h hi;have hp:=par_post_of hT ih;have hpr:=fun i w (h:PEnv pb g cap ts i w) hi=>par_prod (exprP_adv f) hT hp h hi
   have hs:=fun i w (h:PEnv pb g cap ts i w) hi=>par_sum (exprP_adv f) hT hpr h hi
   exact par_exprW (exprP_adv f) hT hs h hi
theorem par_expr {i:Nat}{w:World}(h:PEnv pb g cap ts i w):Calls Tryz.prog 25 #[.pointer (some ⟨pb,0,none⟩)] w (POut pb g cap ts w (QEx w.heap.size) (exprT ts i)) :=
 par_expr_all hT _ _ _ h (by omega)
theorem par_post_any {i:Nat}{w:World}(h:PEnv pb g cap ts i w):Calls Tryz.prog 96 #[.pointer (some ⟨pb,0,none⟩)] w (POut pb g cap ts w (QPo w.heap.size) (postP ts (exprT ts) i)) :=
 par_post_of hT (par_expr_all hT _) _ _ h (by omega)
end
end
end Go.Proofs.YtmlafcimjhnhhaaGreatDoor
