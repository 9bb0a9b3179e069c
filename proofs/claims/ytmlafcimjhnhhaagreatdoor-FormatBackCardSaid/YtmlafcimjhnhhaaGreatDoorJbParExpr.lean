/-
  The rules of expressions, walked.
-/
import Derived.Test.YtmlafcimjhnhhaaGreatDoorJbJpAu
import Derived.Test.YtmlafcimjhnhhaaGreatDoorJbJpAp
import Derived.Deep.RegionWith
set_option linter.unusedSectionVars false
set_option linter.unusedSimpArgs false
set_option linter.unnecessarySimpa false
set_option linter.unusedVariables false
namespace Go.Proofs.YtmlafcimjhnhhaaGreatDoor
section
open Lx Go.RowKit
/-- The value of a rule that gives an expression; what it leads to lies in blocks from lo on. -/
def QEx (lo:Nat)(e:Ex)(r:Value)(w':World):Prop:=∃ (d:Nat) (k n:Int) (o m:ByteArray) (a:Option Addr) (l c:Nat),r=.agg #[.int .i64 k,.int .i64 n,.string o,.string m,.slice a l c]∧IsEx (lo≤·) w' d e [.int .i64 k,.int .i64 n,.string o,.string m,.slice a l c]
def QPo (lo:Nat)(x:Ex×Nat)(r:Value)(w':World):Prop:=∃ (d:Nat) (k n:Int) (o m:ByteArray) (a:Option Addr) (l c:Nat),r=.tuple #[.agg #[.int .i64 k,.int .i64 n,.string o,.string m,.slice a l c],.int .i64 x.2]∧IsEx (lo≤·) w' d x.1 [.int .i64 k,.int .i64 n,.string o,.string m,.slice a l c]
/-- A block of five cells. -/
def B5 (w:World)(b:Nat)(a0 a1 a2 a3 a4:Value):Prop:=w.heap[b]?=some (.cells #[a0,a1,a2,a3,a4] 24 (0,0))
theorem B5.cells {w:World}{b:Nat}{a0 a1 a2 a3 a4:Value}(h:B5 w b a0 a1 a2 a3 a4):(w.cell? ⟨b,0,none⟩=some a0∧w.cell? ⟨b,1,none⟩=some a1∧w.cell? ⟨b,2,none⟩=some a2∧w.cell? ⟨b,3,none⟩=some a3∧w.cell? ⟨b,4,none⟩=some a4)∧∀ o,w.frozen? ⟨b,o,none⟩=false:=by
 unfold B5 at h;simp [World.cell?,World.frozen?,h]
theorem B5.lt {w:World}{b:Nat}{a0 a1 a2 a3 a4:Value}(h:B5 w b a0 a1 a2 a3 a4):b<w.heap.size:=World.block_lt_of_cell? w _ h.cells.1.1
theorem B5.grown {w w':World}{b pb:Nat}{a0 a1 a2 a3 a4:Value}(h:B5 w b a0 a1 a2 a3 a4)(hg:w.grownBy w' (some pb))(hne:b≠pb):B5 w' b a0 a1 a2 a3 a4:=(hg.block b h.lt (by simpa using hne)).trans h
theorem B5.below {w w':World}{b:Nat}{a0 a1 a2 a3 a4:Value}(h:B5 w b a0 a1 a2 a3 a4)(hg:Below w.heap.size w w'):B5 w' b a0 a1 a2 a3 a4:=(hg.block b h.lt).trans h
theorem B5.alloc {w:World}{b:Nat}{a0 a1 a2 a3 a4:Value}(h:B5 w b a0 a1 a2 a3 a4)(o:Obj):B5 (w.alloc o) b a0 a1 a2 a3 a4:=h.below ((Below.refl _ _).alloc (Nat.le_refl _) o)
theorem B5.new (w:World)(k:Nat)(hk:k=w.heap.size)(a0 a1 a2 a3 a4:Value):B5 (w.alloc (.cells #[a0,a1,a2,a3,a4] 24)) k a0 a1 a2 a3 a4:=alloc_last _ _ _ hk
theorem B5.set_ne {w:World}{b c:Nat}{a0 a1 a2 a3 a4:Value}(h:B5 w b a0 a1 a2 a3 a4)(hne:b≠c)(o:Nat)(v:Value):B5 (w.setCell ⟨c,o,none⟩ v) b a0 a1 a2 a3 a4:=(set_block_ne w c o v b hne).trans h
theorem set_block_at {w:World}{b o:Nat}{v:Value}{c:Array Value}{T:TypeId}{fr:Nat×Nat}(h:w.heap[b]?=some (.cells c T fr)):(w.setCell ⟨b,o,none⟩ v).heap[b]?=some (.cells (c.setIfInBounds o v) T fr):=by
 simp [World.setCell,Array.getElem?_modify,h]
def set5 (w:World)(b:Nat)(v0 v1 v2 v3 v4:Value):World:=((((w.setCell ⟨b,0,none⟩ v0).setCell ⟨b,1,none⟩ v1).setCell ⟨b,2,none⟩ v2).setCell ⟨b,3,none⟩ v3).setCell ⟨b,4,none⟩ v4
theorem B5.set {w:World}{b:Nat}{a0 a1 a2 a3 a4:Value}(h:B5 w b a0 a1 a2 a3 a4)(v0 v1 v2 v3 v4:Value):B5 (set5 w b v0 v1 v2 v3 v4) b v0 v1 v2 v3 v4 :=
 set_block_at (set_block_at (set_block_at (set_block_at (set_block_at h))))
theorem B5.set5_ne {w:World}{b c:Nat}{a0 a1 a2 a3 a4:Value}(h:B5 w b a0 a1 a2 a3 a4)(hne:b≠c)(v0 v1 v2 v3 v4:Value):B5 (set5 w c v0 v1 v2 v3 v4) b a0 a1 a2 a3 a4 :=
 ((((h.set_ne hne _ _).set_ne hne _ _).set_ne hne _ _).set_ne hne _ _).set_ne hne _ _
section
variable {pb g cap:Nat} {ts:List Tok} {i:Nat} {w:World}
theorem PSt.set5 {j:Nat}{wc:World}(h:PSt pb g cap ts w j wc){b:Nat}(hb:w.heap.size≤b)(v0 v1 v2 v3 v4:Value):PSt pb g cap ts w j (set5 wc b v0 v1 v2 v3 v4) :=
 ((((h.set hb _ _).set hb _ _).set hb _ _).set hb _ _).set hb _ _
def nextOf (pb:Nat)(w:World):Nat:=match w.cell? ⟨pb,1,none⟩ with | some v=>(intOf v).toNat | none=>0
theorem PEnv.next_eq (h:PEnv pb g cap ts i w):nextOf pb w=i:=by simp [nextOf,h.c1,intOf]
theorem kept_set5 {A:Nat→Prop}{w:World}{b:Nat}(hb:¬ A b)(v0 v1 v2 v3 v4:Value):KeptA A w (set5 w b v0 v1 v2 v3 v4):=by
 intro k hk _;have hne:k≠b:=fun e=>hb (e▸hk)
 unfold set5;rw [set_block_ne _ _ _ _ _ hne,set_block_ne _ _ _ _ _ hne,set_block_ne _ _ _ _ _ hne,set_block_ne _ _ _ _ _ hne,set_block_ne _ _ _ _ _ hne]
theorem kept_grown {A:Nat→Prop}{w w':World}{pb:Nat}(hg:w.grownBy w' (some pb))(hA:¬ A pb):KeptA A w w':=fun k hk hl=>hg.block k hl (by intro h;cases h;exact hA hk)
def zE (w:World)(b:Nat):Prop:=B5 w b (.int .i64 0) (.int .i64 0) (.string ⟨#[]⟩) (.string ⟨#[]⟩) (.slice none 0 0)
section
variable {E:Nat→PR Ex} {f:Nat} (hE:Adv E)
/-- Where the loop of prod stands. -/
def ProdRel (pb g cap:Nat)(ts:List Tok)(E:Nat→PR Ex)(i:Nat)(w:World)(R:PR Ex)(b:Nat)(wr:World):Prop :=
 ∃ (j q:Nat) (e:Ex) (d:Nat) (k n:Int) (o m:ByteArray) (a:Option Addr) (l c:Nat),PSt pb g cap ts w j wr∧ts.length-j<q∧i≤j∧R=prodLoop ts E q e j∧B5 wr b (.int .i64 k) (.int .i64 n) (.string o) (.string m) (.slice a l c)∧zE wr w.heap.size∧IsEx (fun k=>w.heap.size<k∧k≠b) wr d e [.int .i64 k,.int .i64 n,.string o,.string m,.slice a l c]
set_option maxHeartbeats 1000000 in
include hE in
theorem par_prod (hT:TWF ts)(hP:∀ i w,PEnv pb g cap ts i w→ts.length-i<f+1→Calls Tryz.prog 96 #[.pointer (some ⟨pb,0,none⟩)] w (POut pb g cap ts w (QPo w.heap.size) (postP ts E i)))
  (h:PEnv pb g cap ts i w) (hi:ts.length-i<f+1):Calls Tryz.prog 72 #[.pointer (some ⟨pb,0,none⟩)] w (POut pb g cap ts w (QEx w.heap.size) (prodP ts E i)):=by
 obtain⟨R,hr⟩:∃ R,R=prodP ts E i:=⟨_,rfl⟩;rw [← hr];unfold prodP at hr;have HR:=Lib.hid hr;have hpb:=h.pb_lt;have HP:=Lib.hid hP;have S:=Lib.hid (h.st.alloc (.cells #[.int .i64 0,.int .i64 0,.string ⟨#[]⟩,.string ⟨#[]⟩,.slice none 0 0] 24));clear hr h hP;go_enter Tryz.func72,Tryz.ntmps72;go_wp2_with fail;refine (HP.out _ _ S.out.env hi).mono ?_;intro e w2 ho;obtain⟨ch,rfl,hp⟩ | ⟨x,i2,v,rfl,⟨d,k,n,o,m,a,l,c,rfl,hx⟩,hS,hr,hg,hq⟩:=st_split S.out ho HR.out
 ·exact⟨rfl,hp⟩
 have Z2:Hid (zE w2 w.heap.size):=B5.grown (B5.new _ _ rfl _ _ _ _ _) hg (by omega);have S2:=Lib.hid (hS.alloc (.cells #[.int .i64 k,.int .i64 n,.string o,.string m,.slice a l c] 24));have hs2:=hg.size;simp only [World.size_alloc] at hs2;have HR2:=Lib.hid hr;have HX:=Lib.hid hx;clear hS hg ho hr HR hx;go_wp2_with fail
 go_loopw [] (fun wr=>ProdRel pb g cap ts E i w R w2.heap.size wr) (fun wr=>ts.length-nextOf pb wr)
 case atStart =>
  have:=postP_adv hE _ _ _ hq;exact⟨i2,_,_,d,k,n,o,m,a,l,c,S2.out,by omega,by omega,HR2.out,B5.new _ _ rfl _ _ _ _ _,B5.alloc Z2.out _,IsEx.kept (kept_alloc _ _) _ _ _ (IsEx.sub (fun g h1 h2=>by simp at h1;omega) _ _ _ HX.out)⟩
 case round =>
  clear HX HR2 S2 Z2 S hq;obtain⟨j,q,e,d,k,n,o,m,a,l,c,hS,hq,hij,hr,hB,hz,hx⟩:=hrel;obtain⟨⟨b0,b1,b2,b3,b4⟩,bf⟩:=hB.cells;have S:=Lib.hid hS;have B:=Lib.hid hB;have Z:=Lib.hid hz;have HX:=Lib.hid hx;have hbl:=hB.lt;have hnx:=Lib.hid hS.env.next_eq;have hjl:=hS.env.lt;obtain⟨q,rfl⟩:∃ q',q=q'+1:=⟨q-1,by omega⟩;unfold prodLoop at hr;obtain⟨t,ht⟩:∃ t,isT ts j [42]=t:=⟨_,rfl⟩;rw [ht] at hr;cases t
  ·rw [if_neg (by decide)] at hr;have HR:=Lib.hid hr;have HA:=Lib.hid (accept_false hT ⟨#[42]⟩ (by decide) ht hS.env);obtain⟨⟨z0,z1,z2,z3,z4⟩,zf⟩:=B5.cells hz;have hzl:=B5.lt hz;clear hr ht hS hB hz hx;go_wp2_with fail;refine HA.out.mono ?_;rintro e w3 ⟨rfl,hg,hE3⟩;obtain⟨g1,g2⟩:=gcell hg w2.heap.size hbl (by omega);obtain⟨g3,g4⟩:=gcell hg w.heap.size hzl (by omega);have S3:=Lib.hid (S.out.call hg hE3);have HX3:=Lib.hid (IsEx.kept (kept_grown hg (by omega)) _ _ _ HX.out);clear hg hE3 HA;go_wp2_with fail;refine bodyPost_ret (v:=.agg #[.int .i64 k,.int .i64 n,.string o,.string m,.slice a l c]) ?_ rfl (st_ret (S3.out.set5 (Nat.le_refl _) _ _ _ _ _) HR.out ⟨d,k,n,o,m,a,l,c,rfl,?_⟩)
   ·simp [results,Tryz.results72,go_sem,g3,z0,z1,z2,z3,z4]
   ·exact IsEx.sub (fun g h1 _=>by omega) _ _ _ (IsEx.kept (kept_set5 (by omega) _ _ _ _ _) _ _ _ HX3.out)
  ·rw [if_pos rfl] at hr;have HR:=Lib.hid hr;have HA:=Lib.hid (accept_true hT ⟨#[42]⟩ (by decide) ht hS.env);clear hr ht hS hB hz hx;go_wp2_with fail;refine HA.out.mono ?_;rintro e w3 ⟨rfl,hg,hE3⟩;have B3:=Lib.hid (B.out.grown hg (by omega));have Z3:Hid (zE w3 w.heap.size):=B5.grown Z.out hg (by omega);have S3:=Lib.hid (S.out.call hg hE3);have HX3:=Lib.hid (IsEx.kept (kept_grown hg (by omega)) _ _ _ HX.out);clear hg hE3 HA;go_wp2_with fail;refine (HP.out _ _ S3.out.env (by have:=S3.out.env.lt;omega)).mono ?_;intro e w4 ho;obtain⟨ch,rfl,hp⟩ | ⟨x,j4,v,rfl,⟨d',k',n',o',m',a',l',c',rfl,hx⟩,hS,hr,hg,hq4⟩:=st_split S3.out ho HR.out
   ·exact⟨rfl,hp⟩
   have hs4:=hg.size;have hbl3:=B3.out.lt;have hzl3:=B5.lt Z3.out;have B4:=Lib.hid ((B3.out.grown hg (by omega)).alloc (.cells #[.int .i64 k',.int .i64 n',.string o',.string m',.slice a' l' c'] 24));have Z4:Hid (zE (w4.alloc (.cells #[.int .i64 k',.int .i64 n',.string o',.string m',.slice a' l' c'] 24)) w.heap.size):=B5.alloc (B5.grown Z3.out hg (by omega)) _;have S4:=Lib.hid (hS.alloc (.cells #[.int .i64 k',.int .i64 n',.string o',.string m',.slice a' l' c'] 24));have HX4:=Lib.hid (IsEx.kept (kept_alloc w4 (.cells #[.int .i64 k',.int .i64 n',.string o',.string m',.slice a' l' c'] 24)) _ _ _ (IsEx.kept (kept_grown hg (by omega)) _ _ _ HX3.out));have HY4:=Lib.hid (IsEx.kept (kept_alloc w4 (.cells #[.int .i64 k',.int .i64 n',.string o',.string m',.slice a' l' c'] 24)) _ _ _ (IsEx.sub (A':=fun k=>w.heap.size<k∧k≠w2.heap.size) (fun g h1 _=>by omega) _ _ _ hx));have HR4:=Lib.hid hr;obtain⟨⟨b0,b1,b2,b3,b4⟩,bf⟩:=(B3.out.grown hg (by omega)).cells;have hbl4:w2.heap.size<w4.heap.size:=by omega
   clear hr hS hx hg ho HX HX3 S S3 B B3 Z Z3 HR;go_wp2_with fail;refine (par_binary 3 (fun k=>w.heap.size<k∧k≠w2.heap.size) (fun k hk=>by simp at hk;omega) (max d d') e x.1 _ _ _ _ _ _ _ _ _ _ (HX4.out.le (Nat.le_max_left _ _)) (HY4.out.le (Nat.le_max_right _ _))).mono ?_;rintro e5 w5 ⟨a5,rfl,hx5,hb5⟩;have B5':=Lib.hid (B4.out.below hb5);have Z5:Hid (zE w5 w.heap.size):=B5.below Z4.out hb5;have S5:=Lib.hid (S4.out.below hb5);have HX5:=Lib.hid hx5;obtain⟨⟨c0,c1,c2,c3,c4⟩,cf⟩:=B5'.out.cells;clear hb5 hx5 HX4 HY4 S4 B4 Z4;go_wp2_with fail
   go_roundw
   case rel =>
    have:=postP_adv hE _ _ _ hq4;refine⟨j4,q,_,_,6,3,⟨#[]⟩,⟨#[]⟩,a5,2,2,S5.out.set5 (by omega) _ _ _ _ _,by omega,by omega,HR4.out,B5'.out.set _ _ _ _ _,B5.set5_ne Z5.out (by omega) _ _ _ _ _,IsEx.kept (kept_set5 (by omega) _ _ _ _ _) _ _ _ HX5.out⟩
   case measure =>
    have:=postP_adv hE _ _ _ hq4;have h5:=(S5.out.set5 (b:=w2.heap.size) (by omega) (.int .i64 6) (.int .i64 3) (.string ⟨#[]⟩) (.string ⟨#[]⟩) (.slice a5 2 2)).env.next_eq;unfold set5 at h5;rw [h5,hnx.out];omega
omit hE in
/-- Where the loop of sum stands. -/
def SumRel (pb g cap:Nat)(ts:List Tok)(E:Nat→PR Ex)(i:Nat)(w:World)(R:PR Ex)(b:Nat)(wr:World):Prop :=
 ∃ (j q:Nat) (e:Ex) (d:Nat) (k n:Int) (o m:ByteArray) (a:Option Addr) (l c:Nat),PSt pb g cap ts w j wr∧ts.length-j<q∧i≤j∧R=sumLoop ts E q e j∧B5 wr b (.int .i64 k) (.int .i64 n) (.string o) (.string m) (.slice a l c)∧zE wr w.heap.size∧IsEx (fun k=>w.heap.size<k∧k≠b) wr d e [.int .i64 k,.int .i64 n,.string o,.string m,.slice a l c]
set_option maxHeartbeats 1000000 in
include hE in
theorem par_sum (hT:TWF ts)(hP:∀ i w,PEnv pb g cap ts i w→ts.length-i<f+1→Calls Tryz.prog 72 #[.pointer (some ⟨pb,0,none⟩)] w (POut pb g cap ts w (QEx w.heap.size) (prodP ts E i)))
  (h:PEnv pb g cap ts i w) (hi:ts.length-i<f+1):Calls Tryz.prog 52 #[.pointer (some ⟨pb,0,none⟩)] w (POut pb g cap ts w (QEx w.heap.size) (sumP ts E i)):=by
 obtain⟨R,hr⟩:∃ R,R=sumP ts E i:=⟨_,rfl⟩;rw [← hr];unfold sumP at hr;have HR:=Lib.hid hr;have hpb:=h.pb_lt;have HP:=Lib.hid hP;have S:=Lib.hid (h.st.alloc (.cells #[.int .i64 0,.int .i64 0,.string ⟨#[]⟩,.string ⟨#[]⟩,.slice none 0 0] 24));clear hr h hP;go_enter Tryz.func52,Tryz.ntmps52;go_wp2_with fail;refine (HP.out _ _ S.out.env hi).mono ?_;intro e w2 ho;obtain⟨ch,rfl,hp⟩ | ⟨x,i2,v,rfl,⟨d,k,n,o,m,a,l,c,rfl,hx⟩,hS,hr,hg,hq⟩:=st_split S.out ho HR.out
 ·exact⟨rfl,hp⟩
 have Z2:Hid (zE w2 w.heap.size):=B5.grown (B5.new _ _ rfl _ _ _ _ _) hg (by omega);have S2:=Lib.hid (hS.alloc (.cells #[.int .i64 k,.int .i64 n,.string o,.string m,.slice a l c] 24));have hs2:=hg.size;simp only [World.size_alloc] at hs2;have HR2:=Lib.hid hr;have HX:=Lib.hid hx;clear hS hg ho hr HR hx;go_wp2_with fail
 go_loopw [] (fun wr=>SumRel pb g cap ts E i w R w2.heap.size wr) (fun wr=>ts.length-nextOf pb wr)
 case atStart =>
  have:=prodP_adv hE _ _ _ hq;exact⟨i2,_,_,d,k,n,o,m,a,l,c,S2.out,by omega,by omega,HR2.out,B5.new _ _ rfl _ _ _ _ _,B5.alloc Z2.out _,IsEx.kept (kept_alloc _ _) _ _ _ (IsEx.sub (fun g h1 h2=>by simp at h1;omega) _ _ _ HX.out)⟩
 case round =>
  clear HX HR2 S2 Z2 S hq;obtain⟨j,q,e,d,k,n,o,m,a,l,c,hS,hq,hij,hr,hB,hz,hx⟩:=hrel;obtain⟨⟨b0,b1,b2,b3,b4⟩,bf⟩:=hB.cells;have S:=Lib.hid hS;have B:=Lib.hid hB;have Z:=Lib.hid hz;have HX:=Lib.hid hx;have hbl:=hB.lt;have hnx:=Lib.hid hS.env.next_eq;have hjl:=hS.env.lt;obtain⟨q,rfl⟩:∃ q',q=q'+1:=⟨q-1,by omega⟩;unfold sumLoop at hr;obtain⟨t,ht⟩:∃ t,isT ts j [43]=t:=⟨_,rfl⟩;rw [ht] at hr;cases t
  ·rw [if_neg (by decide)] at hr;have HA:=Lib.hid (accept_false hT ⟨#[43]⟩ (by decide) ht hS.env);obtain⟨t2,ht2⟩:∃ t2,isT ts j [45]=t2:=⟨_,rfl⟩;rw [ht2] at hr;cases t2
   ·rw [if_neg (by decide)] at hr;have HR:=Lib.hid hr;have HT2:=Lib.hid ht2;clear hr ht ht2 hS hB hz hx;go_wp2_with fail;refine HA.out.mono ?_;rintro e w2a ⟨rfl,hga,hE2a⟩;have BA:=Lib.hid (B.out.grown hga (by omega));have ZA:Hid (zE w2a w.heap.size):=B5.grown Z.out hga (by omega);have SA:=Lib.hid (S.out.call hga hE2a);have HXA:=Lib.hid (IsEx.kept (kept_grown hga (by omega)) _ _ _ HX.out);clear hga hE2a HA b0 b1 b2 b3 b4;go_wp2_with fail;refine (accept_false hT ⟨#[45]⟩ (by decide) HT2.out SA.out.env).mono ?_;rintro e w3 ⟨rfl,hg,hE3⟩;have B3:=Lib.hid (BA.out.grown hg (by omega));have Z3:Hid (zE w3 w.heap.size):=B5.grown ZA.out hg (by omega);have S3:=Lib.hid (SA.out.call hg hE3);have HX3:=Lib.hid (IsEx.kept (kept_grown hg (by omega)) _ _ _ HXA.out);obtain⟨⟨c0,c1,c2,c3,c4⟩,cf⟩:=B3.out.cells;obtain⟨⟨z0,z1,z2,z3,z4⟩,zf⟩:=B5.cells Z3.out;clear hg hE3 HXA SA BA ZA;go_wp2_with fail;refine bodyPost_ret (v:=.agg #[.int .i64 k,.int .i64 n,.string o,.string m,.slice a l c]) ?_ rfl (st_ret (S3.out.set5 (Nat.le_refl _) _ _ _ _ _) HR.out ⟨d,k,n,o,m,a,l,c,rfl,?_⟩)
    ·simp [results,Tryz.results52,go_sem,z0,z1,z2,z3,z4]
    ·exact IsEx.sub (fun g h1 _=>by omega) _ _ _ (IsEx.kept (kept_set5 (by omega) _ _ _ _ _) _ _ _ HX3.out)
   ·rw [if_pos rfl] at hr;have HR:=Lib.hid hr;have HT2:=Lib.hid ht2;clear hr ht ht2 hS hB hz hx;go_wp2_with fail;refine HA.out.mono ?_;rintro e w2a ⟨rfl,hga,hE2a⟩;have BA:=Lib.hid (B.out.grown hga (by omega));have ZA:Hid (zE w2a w.heap.size):=B5.grown Z.out hga (by omega);have SA:=Lib.hid (S.out.call hga hE2a);have HXA:=Lib.hid (IsEx.kept (kept_grown hga (by omega)) _ _ _ HX.out);clear hga hE2a;go_wp2_with fail;refine (accept_true hT ⟨#[45]⟩ (by decide) HT2.out SA.out.env).mono ?_;rintro e w3 ⟨rfl,hg,hE3⟩;have B3:=Lib.hid (BA.out.grown hg (by omega));have Z3:Hid (zE w3 w.heap.size):=B5.grown ZA.out hg (by omega);have S3:=Lib.hid (SA.out.call hg hE3);have HX3:=Lib.hid (IsEx.kept (kept_grown hg (by omega)) _ _ _ HXA.out);obtain⟨⟨c0,c1,c2,c3,c4⟩,cf⟩:=B3.out.cells;clear HXA SA BA ZA;have hbl3:=B3.out.lt;have S3d:=Lib.hid (S3.out.below (below_drew w3));clear hg hE3 HA b0 b1 b2 b3 b4;go_wp2_with fail
    go_region_with (first
     | (go_at_call 72
        refine (HP.out _ _ S3d.out.env (by have:=S3d.out.env.lt;omega)).mono ?_;intro e w4 ho;obtain⟨ch,rfl,hp⟩ | ⟨x,j4,v,rfl,⟨d',k',n',o',m',a',l',c',rfl,hx⟩,hS,hr,hg,hq4⟩:=st_split S3d.out ho HR.out
        ·exact⟨rfl,hp⟩
        have hs4:w3.heap.size≤w4.heap.size:=hg.size;have B4:=Lib.hid ((B3.out.below (below_drew w3)).grown hg (by omega));have Z4:Hid (zE w4 w.heap.size):=B5.grown (B5.below Z3.out (below_drew w3)) hg (by omega);have S4:=Lib.hid hS;have HX4:=Lib.hid (IsEx.kept (kept_grown hg (by omega)) _ _ _ (IsEx.kept (.of_below (below_drew w3)) _ _ _ HX3.out));have HY4:=Lib.hid (IsEx.sub (A':=fun k=>w.heap.size<k∧k≠w2.heap.size) (fun g h1 _=>by have h1:w3.heap.size≤g:=h1;omega) _ _ _ hx);have HR4:=Lib.hid hr;obtain⟨⟨e0,e1,e2,e3,e4⟩,ef⟩:=B4.out.cells;clear hr hS hx hg ho)
     | (go_at_call 54
        refine (par_binary 2 (fun k=>w.heap.size<k∧k≠w2.heap.size) (fun k hk=>by omega) (max d d') _ _ _ _ _ _ _ _ _ _ _ _ (HX4.out.le (Nat.le_max_left _ _)) (HY4.out.le (Nat.le_max_right _ _))).mono ?_;rintro e5 w5 ⟨a5,rfl,hx5,hb5⟩;have B5':=Lib.hid (B4.out.below hb5);have Z5:Hid (zE w5 w.heap.size):=B5.below Z4.out hb5;have S5:=Lib.hid (S4.out.below hb5);have HX5:=Lib.hid hx5;obtain⟨⟨g0,g1,g2,g3,g4⟩,gf⟩:=B5'.out.cells;clear hb5 hx5))
    all_goals
     have hadv:=prodP_adv hE _ _ _ hq4;have h5:=(S5.out.set5 (b:=w2.heap.size) (by omega) (.int .i64 6) (.int .i64 2) (.string ⟨#[]⟩) (.string ⟨#[]⟩) (.slice a5 2 2)).env.next_eq;unfold set5 at h5;have H5:=Lib.hid h5;clear h5;go_wp2_with fail
     go_roundw
     case rel =>
      refine⟨j4,q,_,_,6,2,⟨#[]⟩,⟨#[]⟩,a5,2,2,S5.out.set5 (by omega) _ _ _ _ _,by omega,by omega,HR4.out,B5'.out.set _ _ _ _ _,B5.set5_ne Z5.out (by omega) _ _ _ _ _,IsEx.kept (kept_set5 (by omega) _ _ _ _ _) _ _ _ HX5.out⟩
     case measure =>
      rw [H5.out,hnx.out];omega
  ·rw [if_pos rfl] at hr;have HR:=Lib.hid hr;have HA:=Lib.hid (accept_true hT ⟨#[43]⟩ (by decide) ht hS.env);clear hr ht hS hB hz hx;go_wp2_with fail;refine HA.out.mono ?_;rintro e w3 ⟨rfl,hg,hE3⟩;have B3:=Lib.hid (B.out.grown hg (by omega));have Z3:Hid (zE w3 w.heap.size):=B5.grown Z.out hg (by omega);have S3:=Lib.hid (S.out.call hg hE3);have HX3:=Lib.hid (IsEx.kept (kept_grown hg (by omega)) _ _ _ HX.out);obtain⟨⟨c0,c1,c2,c3,c4⟩,cf⟩:=B3.out.cells;have hbl3:=B3.out.lt;have S3d:=Lib.hid (S3.out.below (below_drew w3));clear hg hE3 HA b0 b1 b2 b3 b4;go_wp2_with fail
   go_region_with (first
    | (go_at_call 72
       refine (HP.out _ _ S3d.out.env (by have:=S3d.out.env.lt;omega)).mono ?_;intro e w4 ho;obtain⟨ch,rfl,hp⟩ | ⟨x,j4,v,rfl,⟨d',k',n',o',m',a',l',c',rfl,hx⟩,hS,hr,hg,hq4⟩:=st_split S3d.out ho HR.out
       ·exact⟨rfl,hp⟩
       have hs4:w3.heap.size≤w4.heap.size:=hg.size;have B4:=Lib.hid ((B3.out.below (below_drew w3)).grown hg (by omega));have Z4:Hid (zE w4 w.heap.size):=B5.grown (B5.below Z3.out (below_drew w3)) hg (by omega);have S4:=Lib.hid hS;have HX4:=Lib.hid (IsEx.kept (kept_grown hg (by omega)) _ _ _ (IsEx.kept (.of_below (below_drew w3)) _ _ _ HX3.out));have HY4:=Lib.hid (IsEx.sub (A':=fun k=>w.heap.size<k∧k≠w2.heap.size) (fun g h1 _=>by have h1:w3.heap.size≤g:=h1;omega) _ _ _ hx);have HR4:=Lib.hid hr;obtain⟨⟨e0,e1,e2,e3,e4⟩,ef⟩:=B4.out.cells;clear hr hS hx hg ho)
    | (go_at_call 54
       refine (par_binary 1 (fun k=>w.heap.size<k∧k≠w2.heap.size) (fun k hk=>by omega) (max d d') _ _ _ _ _ _ _ _ _ _ _ _ (HX4.out.le (Nat.le_max_left _ _)) (HY4.out.le (Nat.le_max_right _ _))).mono ?_;rintro e5 w5 ⟨a5,rfl,hx5,hb5⟩;have B5':=Lib.hid (B4.out.below hb5);have Z5:Hid (zE w5 w.heap.size):=B5.below Z4.out hb5;have S5:=Lib.hid (S4.out.below hb5);have HX5:=Lib.hid hx5;obtain⟨⟨g0,g1,g2,g3,g4⟩,gf⟩:=B5'.out.cells;clear hb5 hx5))
   all_goals
    have hadv:=prodP_adv hE _ _ _ hq4;have h5:=(S5.out.set5 (b:=w2.heap.size) (by omega) (.int .i64 6) (.int .i64 1) (.string ⟨#[]⟩) (.string ⟨#[]⟩) (.slice a5 2 2)).env.next_eq;unfold set5 at h5;have H5:=Lib.hid h5;clear h5;go_wp2_with fail
    go_roundw
    case rel =>
     refine⟨j4,q,_,_,6,1,⟨#[]⟩,⟨#[]⟩,a5,2,2,S5.out.set5 (by omega) _ _ _ _ _,by omega,by omega,HR4.out,B5'.out.set _ _ _ _ _,B5.set5_ne Z5.out (by omega) _ _ _ _ _,IsEx.kept (kept_set5 (by omega) _ _ _ _ _) _ _ _ HX5.out⟩
    case measure =>
     rw [H5.out,hnx.out];omega
end
end
end
section
open Lx Go.RowKit
section
variable {pb g cap:Nat} {ts:List Tok} {i:Nat} {w:World}
variable {E:Nat→PR Ex} {f:Nat} (hE:Adv E)
set_option maxHeartbeats 1000000 in
include hE in
theorem par_exprW (hT:TWF ts)(hP:∀ i w,PEnv pb g cap ts i w→ts.length-i<f+1→Calls Tryz.prog 52 #[.pointer (some ⟨pb,0,none⟩)] w (POut pb g cap ts w (QEx w.heap.size) (sumP ts E i)))
  (h:PEnv pb g cap ts i w) (hi:ts.length-i<f+1):Calls Tryz.prog 25 #[.pointer (some ⟨pb,0,none⟩)] w (POut pb g cap ts w (QEx w.heap.size) (exprW ts E i)):=by
 obtain⟨R,hr⟩:∃ R,R=exprW ts E i:=⟨_,rfl⟩;rw [← hr];unfold exprW at hr;have HR:=Lib.hid hr;have hpb:=h.pb_lt;have HP:=Lib.hid hP;have S:=Lib.hid (h.st.alloc (.cells #[.int .i64 0,.int .i64 0,.string ⟨#[]⟩,.string ⟨#[]⟩,.slice none 0 0] 24));clear hr h hP;go_enter Tryz.func25,Tryz.ntmps25;go_wp2_with fail;refine (HP.out _ _ S.out.env hi).mono ?_;intro e w2 ho;obtain⟨ch,rfl,hp⟩ | ⟨x,i2,v,rfl,⟨d,k,n,o,m,a,l,c,rfl,hx⟩,hS,hr,hg,hq⟩:=st_split S.out ho HR.out
 ·exact⟨rfl,hp⟩
 have hi2:i<i2:=sumP_adv hE _ _ _ hq;have Z2:Hid (zE (w2.alloc (.cells #[.int .i64 k,.int .i64 n,.string o,.string m,.slice a l c] 24)) w.heap.size):=B5.alloc (B5.grown (B5.new _ _ rfl _ _ _ _ _) hg (by omega)) _;have B2:Hid (B5 (w2.alloc (.cells #[.int .i64 k,.int .i64 n,.string o,.string m,.slice a l c] 24)) w2.heap.size (.int .i64 k) (.int .i64 n) (.string o) (.string m) (.slice a l c)):=B5.new _ _ rfl _ _ _ _ _;have S2:=Lib.hid (hS.alloc (.cells #[.int .i64 k,.int .i64 n,.string o,.string m,.slice a l c] 24));have hs2:=hg.size;simp only [World.size_alloc] at hs2;have HX:=Lib.hid (IsEx.kept (kept_alloc _ (.cells #[.int .i64 k,.int .i64 n,.string o,.string m,.slice a l c] 24)) _ _ _ (IsEx.sub (A':=fun k=>w.heap.size<k∧k≠w2.heap.size) (fun g h1 h2=>by simp at h1;omega) _ _ _ hx));clear hS hg ho HR hx hq S;obtain⟨t,ht⟩:∃ t,isT ts i2 [60]=t:=⟨_,rfl⟩;rw [ht] at hr;cases t
 ·rw [if_neg (by decide)] at hr;have HT:=Lib.hid ht;clear ht;obtain⟨t2,ht2⟩:∃ t2,isT ts i2 [61,61]=t2:=⟨_,rfl⟩;rw [ht2] at hr;cases t2
  ·rw [if_neg (by decide)] at hr;have HR:=Lib.hid hr;have HT2:=Lib.hid ht2;clear hr ht2;go_wp2_with fail;refine (accept_false hT ⟨#[60]⟩ (by decide) HT.out S2.out.env).mono ?_;rintro e w2a ⟨rfl,hga,hE2a⟩;have BA:=Lib.hid (B2.out.grown hga (by omega));have ZA:Hid (zE w2a w.heap.size):=B5.grown Z2.out hga (by omega);have SA:=Lib.hid (S2.out.call hga hE2a);have HXA:=Lib.hid (IsEx.kept (kept_grown hga (by omega)) _ _ _ HX.out);clear hga hE2a;go_wp2_with fail;refine (accept_false hT ⟨#[61,61]⟩ (by decide) HT2.out SA.out.env).mono ?_;rintro e w3 ⟨rfl,hg,hE3⟩;have B3:=Lib.hid (BA.out.grown hg (by omega));have Z3:Hid (zE w3 w.heap.size):=B5.grown ZA.out hg (by omega);have S3:=Lib.hid (SA.out.call hg hE3);have HX3:=Lib.hid (IsEx.kept (kept_grown hg (by omega)) _ _ _ HXA.out);obtain⟨⟨c0,c1,c2,c3,c4⟩,cf⟩:=B3.out.cells;obtain⟨⟨z0,z1,z2,z3,z4⟩,zf⟩:=B5.cells Z3.out;clear hg hE3 HXA SA BA ZA;go_wp2_with fail;refine bodyPost_ret (v:=.agg #[.int .i64 k,.int .i64 n,.string o,.string m,.slice a l c]) ?_ rfl (st_ret (S3.out.set5 (Nat.le_refl _) _ _ _ _ _) HR.out ⟨d,k,n,o,m,a,l,c,rfl,?_⟩)
   ·simp [results,Tryz.results25,go_sem,z0,z1,z2,z3,z4]
   ·exact IsEx.sub (fun g h1 _=>by omega) _ _ _ (IsEx.kept (kept_set5 (by omega) _ _ _ _ _) _ _ _ HX3.out)
  ·rw [if_pos rfl] at hr;have HR:=Lib.hid hr;have HT2:=Lib.hid ht2;clear hr ht2;go_wp2_with fail;refine (accept_false hT ⟨#[60]⟩ (by decide) HT.out S2.out.env).mono ?_;rintro e w2a ⟨rfl,hga,hE2a⟩;have BA:=Lib.hid (B2.out.grown hga (by omega));have ZA:Hid (zE w2a w.heap.size):=B5.grown Z2.out hga (by omega);have SA:=Lib.hid (S2.out.call hga hE2a);have HXA:=Lib.hid (IsEx.kept (kept_grown hga (by omega)) _ _ _ HX.out);clear hga hE2a;go_wp2_with fail;refine (accept_true hT ⟨#[61,61]⟩ (by decide) HT2.out SA.out.env).mono ?_;rintro e w3 ⟨rfl,hg,hE3⟩;have B3:=Lib.hid (BA.out.grown hg (by omega));have Z3:Hid (zE w3 w.heap.size):=B5.grown ZA.out hg (by omega);have S3:=Lib.hid (SA.out.call hg hE3);have HX3:=Lib.hid (IsEx.kept (kept_grown hg (by omega)) _ _ _ HXA.out);obtain⟨⟨c0,c1,c2,c3,c4⟩,cf⟩:=B3.out.cells;clear HXA SA BA ZA;have hbl3:=B3.out.lt;have hzl3:=B5.lt Z3.out;have S3d:=Lib.hid (S3.out.below (below_drew w3));clear hg hE3;go_wp2_with fail
   go_region_with (first
    | (go_at_call 52
       refine (HP.out _ _ S3d.out.env (by have:=S3d.out.env.lt;omega)).mono ?_;intro e w4 ho;obtain⟨ch,rfl,hp⟩ | ⟨x,j4,v,rfl,⟨d',k',n',o',m',a',l',c',rfl,hx⟩,hS,hr,hg,hq4⟩:=st_split S3d.out ho HR.out
       ·exact⟨rfl,hp⟩
       have hs4:w3.heap.size≤w4.heap.size:=hg.size;have B4:=Lib.hid ((B3.out.below (below_drew w3)).grown hg (by omega));have Z4:Hid (zE w4 w.heap.size):=B5.grown (B5.below Z3.out (below_drew w3)) hg (by omega);have S4:=Lib.hid hS;have HX4:=Lib.hid (IsEx.kept (kept_grown hg (by omega)) _ _ _ (IsEx.kept (.of_below (below_drew w3)) _ _ _ HX3.out));have HY4:=Lib.hid (IsEx.sub (A':=fun k=>w.heap.size<k∧k≠w2.heap.size) (fun g h1 _=>by have h1:w3.heap.size≤g:=h1;omega) _ _ _ hx);have HR4:=Lib.hid hr;obtain⟨⟨e0,e1,e2,e3,e4⟩,ef⟩:=B4.out.cells;clear hr hS hx hg ho)
    | (go_at_call 54
       refine (par_binary 5 (fun k=>w.heap.size<k∧k≠w2.heap.size) (fun k hk=>by omega) (max d d') _ _ _ _ _ _ _ _ _ _ _ _ (HX4.out.le (Nat.le_max_left _ _)) (HY4.out.le (Nat.le_max_right _ _))).mono ?_;rintro e5 w5 ⟨a5,rfl,hx5,hb5⟩;have Z5:Hid (zE w5 w.heap.size):=B5.below Z4.out hb5;have S5:=Lib.hid (S4.out.below hb5);have HX5:=Lib.hid hx5;obtain⟨⟨g0,g1,g2,g3,g4⟩,gf⟩:=B5.cells Z5.out;clear hb5 hx5))
   all_goals
    go_wp2_with fail;refine bodyPost_ret (v:=.agg #[.int .i64 6,.int .i64 5,.string ⟨#[]⟩,.string ⟨#[]⟩,.slice a5 2 2]) ?_ rfl (st_ret (S5.out.set5 (Nat.le_refl _) _ _ _ _ _) HR4.out ⟨max d d'+1,6,5,⟨#[]⟩,⟨#[]⟩,a5,2,2,rfl,?_⟩)
    ·simp [results,Tryz.results25,go_sem,g0,g1,g2,g3,g4]
    ·exact IsEx.sub (fun g h1 _=>by omega) _ _ _ (IsEx.kept (kept_set5 (by omega) _ _ _ _ _) _ _ _ HX5.out)
 ·rw [if_pos rfl] at hr;have HR:=Lib.hid hr;have HT:=Lib.hid ht;clear hr ht;go_wp2_with fail;refine (accept_true hT ⟨#[60]⟩ (by decide) HT.out S2.out.env).mono ?_;rintro e w3 ⟨rfl,hg,hE3⟩;have B3:=Lib.hid (B2.out.grown hg (by omega));have Z3:Hid (zE w3 w.heap.size):=B5.grown Z2.out hg (by omega);have S3:=Lib.hid (S2.out.call hg hE3);have HX3:=Lib.hid (IsEx.kept (kept_grown hg (by omega)) _ _ _ HX.out);obtain⟨⟨c0,c1,c2,c3,c4⟩,cf⟩:=B3.out.cells;have hbl3:=B3.out.lt;have hzl3:=B5.lt Z3.out;have S3d:=Lib.hid (S3.out.below (below_drew w3));clear hg hE3;go_wp2_with fail
  go_region_with (first
   | (go_at_call 52
      refine (HP.out _ _ S3d.out.env (by have:=S3d.out.env.lt;omega)).mono ?_;intro e w4 ho;obtain⟨ch,rfl,hp⟩ | ⟨x,j4,v,rfl,⟨d',k',n',o',m',a',l',c',rfl,hx⟩,hS,hr,hg,hq4⟩:=st_split S3d.out ho HR.out
      ·exact⟨rfl,hp⟩
      have hs4:w3.heap.size≤w4.heap.size:=hg.size;have B4:=Lib.hid ((B3.out.below (below_drew w3)).grown hg (by omega));have Z4:Hid (zE w4 w.heap.size):=B5.grown (B5.below Z3.out (below_drew w3)) hg (by omega);have S4:=Lib.hid hS;have HX4:=Lib.hid (IsEx.kept (kept_grown hg (by omega)) _ _ _ (IsEx.kept (.of_below (below_drew w3)) _ _ _ HX3.out));have HY4:=Lib.hid (IsEx.sub (A':=fun k=>w.heap.size<k∧k≠w2.heap.size) (fun g h1 _=>by have h1:w3.heap.size≤g:=h1;omega) _ _ _ hx);have HR4:=Lib.hid hr;obtain⟨⟨e0,e1,e2,e3,e4⟩,ef⟩:=B4.out.cells;clear hr hS hx hg ho)
   | (go_at_call 54
      refine (par_binary 4 (fun k=>w.heap.size<k∧k≠w2.heap.size) (fun k hk=>by omega) (max d d') _ _ _ _ _ _ _ _ _ _ _ _ (HX4.out.le (Nat.le_max_left _ _)) (HY4.out.le (Nat.le_max_right _ _))).mono ?_;rintro e5 w5 ⟨a5,rfl,hx5,hb5⟩;have Z5:Hid (zE w5 w.heap.size):=B5.below Z4.out hb5;have S5:=Lib.hid (S4.out.below hb5);have HX5:=Lib.hid hx5;obtain⟨⟨g0,g1,g2,g3,g4⟩,gf⟩:=B5.cells Z5.out;clear hb5 hx5))
  all_goals
   go_wp2_with fail;refine bodyPost_ret (v:=.agg #[.int .i64 6,.int .i64 4,.string ⟨#[]⟩,.string ⟨#[]⟩,.slice a5 2 2]) ?_ rfl (st_ret (S5.out.set5 (Nat.le_refl _) _ _ _ _ _) HR4.out ⟨max d d'+1,6,4,⟨#[]⟩,⟨#[]⟩,a5,2,2,rfl,?_⟩)
   ·simp [results,Tryz.results25,go_sem,g0,g1,g2,g3,g4]
   ·exact IsEx.sub (fun g h1 _=>by omega) _ _ _ (IsEx.kept (kept_set5 (by omega) _ _ _ _ _) _ _ _ HX5.out)
end
end
end Go.Proofs.YtmlafcimjhnhhaaGreatDoor
