/-
  The deferred closure of read, walked: it turns a misfit's panic into the error; it does nothing where nothing panics.
-/
import Derived.Test.YtmlafcimjhnhhaaGreatDoorJbParDecl
import Derived.Defers
import Derived.Recover
import Derived.RegionTactic
import Derived.Test.YtmlafcimjhnhhaaGreatDoorJbParStBase
import Derived.Test.YtmlafcimjhnhhaaGreatDoorJbJpAr
import Derived.Test.YtmlafcimjhnhhaaGreatDoorJbJpAp
set_option linter.unusedSectionVars false
set_option linter.unusedSimpArgs false
set_option linter.unnecessarySimpa false
set_option linter.unusedVariables false
namespace Go.Proofs.YtmlafcimjhnhhaaGreatDoor
section
open Lx Go.RowKit
theorem assert_misfit (p:Int)(w:World):(Instr.typeAssert (.iface 84 (.agg #[.int .i64 p])) 20 84 true).run Tryz.prog w=.ok (.tuple #[.agg #[.int .i64 p],.bool true]) w:=by kernel_rfl
theorem assert_nil (w:World):(Instr.typeAssert .nilIface 20 84 true).run Tryz.prog w=.ok (.tuple #[.agg #[.int .i64 0],.bool false]) w:=by kernel_rfl
set_option maxRecDepth 100000 in
theorem read_catch (pa pe:Nat)(p:Int)(v1 v2:Value)(w:World)(hne:pa≠pe)(h1:w.cell? ⟨pa,0,none⟩=some v1)(z1:w.frozen? ⟨pa,0,none⟩=false)(h2:w.cell? ⟨pe,0,none⟩=some v2)(z2:w.frozen? ⟨pe,0,none⟩=false) :
  CallsD Tryz.prog 49 #[.pointer (some ⟨pa,0,none⟩),.pointer (some ⟨pe,0,none⟩)] (.panicking [{ v:=.iface 84 (.agg #[.int .i64 p]),recovered:=false }]) w fun e u' w' =>
   e=.returned (.tuple #[])∧u'=.panicking [{ v:=.iface 84 (.agg #[.int .i64 p]),recovered:=true }]∧w'=((w.setCell ⟨pa,0,none⟩ (.int .i64 p)).setCell ⟨pe,0,none⟩ (.int .i64 2)).alloc (.cells #[.int .i64 p] 84):=by
 refine callsD_of_wpS Tryz.func49 rfl fun c₀ cs hu=>?_
 apply wpS_seq;apply wpS_region;simp [wpOpsS,go_sem,recoverD,hu,Tryz.ntmps49,Exit.thenS,assert_misfit];have l1:=World.block_lt_of_cell? w _ h1;have l2:=World.block_lt_of_cell? w _ h2;have e1:∀ o,(w.alloc o).cell? ⟨pa,0,none⟩=some v1:=fun o=>by rw [World.cell?_alloc_past _ _ _ l1];exact h1
 have f1:∀ o,(w.alloc o).frozen? ⟨pa,0,none⟩=false:=fun o=>(World.frozen?_of_block (((Below.refl w.heap.size w).alloc (Nat.le_refl _) o).block pa l1)).trans z1
 apply wpS_seq;apply wpS_region;simp [wpOpsS,go_sem,Exit.thenS];refine wpS_cond (t:=true) (by simp [Act.eval,Array.replicate]) ?_;simp only [if_true];apply wpS_region;simp [wpOpsS,go_sem,h2,z2,e1,f1,l1,l2,bodyPostS,results,Tryz.results49]
set_option maxRecDepth 100000 in
theorem read_idle (pa pe:Nat)(w:World) :
  CallsD Tryz.prog 49 #[.pointer (some ⟨pa,0,none⟩),.pointer (some ⟨pe,0,none⟩)] .returning w fun e u' w'=>e=.returned (.tuple #[])∧u'=.returning∧w'=w.alloc (.cells #[.int .i64 0] 84):=by
 refine callsD_of_wpS Tryz.func49 rfl fun c₀ cs hu=>?_
 apply wpS_seq;apply wpS_region;simp [wpOpsS,go_sem,recoverD,hu,Tryz.ntmps49,Exit.thenS,assert_nil];refine wpS_of_wp ?_
 go_wp2
 cases c₀
 simp_all [bodyPostS,results,Tryz.results49]
end
section
open Lx Go.RowKit
/-- All is as it was but two blocks. -/
structure Grown2 (pb cb:Nat) (w w':World):Prop where
 os:w'.os=w.os
 tape:w'.tape=w.tape
 output:w'.output=w.output
 size:w.heap.size≤w'.heap.size
 block:∀ k,k<w.heap.size→k≠pb→k≠cb→w'.heap[k]?=w.heap[k]?
def RuleOut {α:Type}(pb g cap:Nat)(ts:List Tok)(w:World)(cb:Nat)(T:TypeId)(form:Array Value→Prop)(FQ:α→Array Value→Fact)(r:PR α)(e:Ending)(w':World):Prop:=match r with
 | .ok (a,j)=>e=.returned (.tuple #[])∧PEnv pb g cap ts j w'∧(∃ cs,form cs∧w'.heap[cb]?=some (.cells cs T (0,0))∧(FQ a cs).holds (w.heap.size≤·) w')∧Grown2 pb cb w w'
 | .error q=>e=.panicked (misfit (tk ts q).pos)∧w.grownBy w' (some pb)
/-- A closure that applies a rule and lays what it gives into block cb. -/
def RuleC {α:Type}(G cb:Nat)(T:TypeId)(Z:Array Value)(form:Array Value→Prop)(FQ:α→Array Value→Fact)(spec:List Tok→PR α):Prop :=
 ∀ pb g cap ts w,TWF ts→PEnv pb g cap ts 0 w→cb≠pb→cb≠g→w.heap[cb]?=some (.cells Z T (0,0)) →
  Calls Tryz.prog G #[.pointer (some ⟨pb,0,none⟩),.pointer (some ⟨cb,0,none⟩)] w (RuleOut pb g cap ts w cb T form FQ (spec ts))
def ReadOut {α:Type}(cb:Nat)(T:TypeId)(form:Array Value→Prop)(FQ:α→Array Value→Fact)(spec:List Tok→PR α)(w:World)(r:Except (Nat×Nat) α)(e:Ending)(w':World):Prop :=
 w.grownBy w' (some cb)∧match r with
 | .error (p,er)=>e=.returned (.tuple #[.int .i64 (p:Int),.int .i64 (er:Int)])
 | .ok a=>e=.returned (.tuple #[.int .i64 0,.int .i64 0])∧(∃ ts j,TWF ts∧spec ts=.ok (a,j)∧j<ts.length)∧∃ cs,form cs∧w'.heap[cb]?=some (.cells cs T (0,0))∧(FQ a cs).holds (w.heap.size≤·) w'
section
variable {pb cb:Nat} {w wc w':World} {L:List (Nat×Obj)} {X:RowD} {F:Fact}
theorem Wk.setTo (h:Wk pb w wc L X F)(n:Nat){b:Nat}{cs:Array Value}{T:TypeId}{fr:Nat×Nat}(hL:L[n]?=some (b,.cells cs T fr))(o:Nat)(v:Value)(cs':Array Value)(hc:cs.setIfInBounds o v=cs')(L':List (Nat×Obj))(hL':L.set n (b,.cells cs' T fr)=L'):Wk pb w (wc.setCell ⟨b,o,none⟩ v) L' X F:=by
 have:=h.set n hL o v;rw [hc,hL'] at this;exact this
theorem Wk.blk (h:Wk pb w wc L X F)(n:Nat){b:Nat}{o:Obj}(hL:L[n]?=some (b,o)):w.heap.size≤b∧b<wc.heap.size∧wc.heap[b]?=some o:=by
 obtain⟨hn,hLn⟩:=List.getElem?_eq_some_iff.1 hL;have hm:(b,o)∈L:=hLn▸List.getElem_mem hn;obtain⟨h1,h2⟩:=h.own _ hm;exact⟨h1,lt_of_heap h2,h2⟩
theorem Wk.cells1 (h:Wk pb w wc L X F)(n:Nat){b:Nat}{a0:Value}{T:TypeId}(hL:L[n]?=some (b,.cells #[a0] T (0,0))):wc.cell? ⟨b,0,none⟩=some a0∧wc.frozen? ⟨b,0,none⟩=false∧b<wc.heap.size :=
 have h1:=blk_cell (h.blk n hL).2.2
 ⟨h1.1 0,h1.2 0,(h.blk n hL).2.1⟩
/-- A call that turns block cb and the youngest own block. -/
theorem Wk.call2 {o:Obj}(h:Wk cb w wc ((pb,o)::L) noRow F)(hg:Grown2 pb cb wc w'):Wk cb w w' L noRow F:=by
 have hcb:=h.pbl;have hord:=List.pairwise_cons.1 h.ord;have hpb:=h.own (pb,o) List.mem_cons_self;refine⟨⟨hg.os.trans h.grown.os,hg.tape.trans h.grown.tape,hg.output.trans h.grown.output,Nat.le_trans h.grown.size hg.size,fun k hk hn=>?_⟩,h.pbl,hord.2,fun p hp=>?_,World.ownsRow_nil _ _ _ _,fun _ _=>by simp [noRow,Value.ownBlock],?_⟩
 ·have h1:w.heap.size≤pb:=hpb.1;exact (hg.block k (Nat.lt_of_lt_of_le hk h.grown.size) (by omega) (by intro e;exact hn (by rw [e]))).trans (h.grown.block k hk hn)
 ·obtain⟨h1,h2⟩:=h.own p (List.mem_cons_of_mem _ hp);have h3:p.1<pb:=hord.1 p hp;exact⟨h1,(hg.block p.1 (lt_of_heap h2) (by omega) (by omega)).trans h2⟩
 ·have h1:F.holds (Allow w.heap.size ((pb,o)::L) noRow.v.ownBlock) w':=F.kept _ _ _ (fun k hk hl=>hg.block k hl (hk.2.1 (pb,o) List.mem_cons_self) (by have:=hk.1;omega)) h.fact;exact F.sub _ _ _ (fun k hk _=>⟨hk.1,fun p hp=>hk.2.1 p (List.mem_cons_of_mem _ hp),hk.2.2⟩) h1
end
theorem HasToks.kept {w w':World}{g:Nat}{ts:List Tok}(hc:∀ i (h:i<ts.length),w.cell? ⟨g,i*4,none⟩=some (.int .i64 (ts[i].kind:Int))∧w.cell? ⟨g,i*4+1,none⟩=some (.int .i64 (ts[i].pos:Int)) ∧
  w.cell? ⟨g,i*4+2,none⟩=some (.string (strOf ts[i].text))∧w.cell? ⟨g,i*4+3,none⟩=some (.int .i64 (ts[i].n:Int))) (hb:w'.heap[g]?=w.heap[g]?):∀ i (h:i<ts.length),w'.cell? ⟨g,i*4,none⟩=some (.int .i64 (ts[i].kind:Int))∧w'.cell? ⟨g,i*4+1,none⟩=some (.int .i64 (ts[i].pos:Int)) ∧
  w'.cell? ⟨g,i*4+2,none⟩=some (.string (strOf ts[i].text))∧w'.cell? ⟨g,i*4+3,none⟩=some (.int .i64 (ts[i].n:Int)):=by
 have e:∀ o,w'.cell? ⟨g,o,none⟩=w.cell? ⟨g,o,none⟩:=fun o=>World.cell?_of_block hb
 intro i hi;simp only [e];exact hc i hi
section
variable {α:Type} {G cb:Nat} {T:TypeId} {Z:Array Value} {form:Array Value→Prop} {FQ:α→Array Value→Fact} {spec:List Tok→PR α}
set_option maxHeartbeats 2000000 in
set_option maxRecDepth 100000 in
theorem par_read (hC:RuleC G cb T Z form FQ spec)(hG:∀ (args:Array Value) (w:World),(callFunc G args).run Tryz.prog w=.ok (.enter G args) w)(s:ByteArray)(w:World)(hs:s.size≤maxLen)(hL:Laid w)(hcb:w.heap[cb]?=some (.cells Z T (0,0))) :
  Calls Tryz.prog 23 #[.string s,.func (.func G) #[] #[.pointer (some ⟨cb,0,none⟩)]] w (ReadOut cb T form FQ spec w (readR spec s.data.toList)):=by
 have HL:=Lib.hid hL;have HS:=Lib.hid hs;have HC:=Lib.hid hC;have HB:=Lib.hid hcb;have hcl:=lt_of_heap hcb;obtain⟨R,hR⟩:∃ R,R=readR spec s.data.toList:=⟨_,rfl⟩;rw [← hR];unfold readR at hR;clear hL hs hC hcb;have hmf:∀ (fn:Fn) (first cap:Array Value) (w:World),(Instr.makeFunc fn first cap).run Tryz.prog w=.ok (.func fn first cap) w:=fun _ _ _ _=>rfl
 cases hr:tokensOf s.data.toList with
 | error x =>
   obtain⟨p,er⟩:=x;rw [hr] at hR;have her:=tokensOf_err hr;have he0:((er:Int) != 0)=true:=by rw [bne,beq_eq_false_iff_ne.2 (by omega)];rfl
   have HR:=Lib.hid hr;have HRR:=Lib.hid hR;clear hr hR
   go_enter_defers Tryz.func23,Tryz.ntmps23
   go_wp2_with fail;refine (lex_Tokens s _ HS.out ((HL.out.alloc _).alloc _)).mono ?_;rintro e w1 ⟨hb,h1⟩;rw [HR.out] at h1;subst h1;have hsz:=hb.size;simp only [World.size_alloc] at hsz;have K1:=Lib.hid (((((Wk.start hcl).alloc w.heap.size rfl (.cells #[.int .i64 0] 3)).alloc (w.heap.size+1) (by simp) (.cells #[.int .i64 0] 25))).below hb);clear hb;obtain⟨ca,cz,cl⟩:=K1.out.cells1 1 rfl;obtain⟨ce,ez,el⟩:=K1.out.cells1 0 rfl;go_wp2_with fail
   go_region
   go_wp2_with fail;have K2:=(((K1.out.setTo 1 rfl 0 (.int .i64 (p:Int)) #[.int .i64 (p:Int)] rfl _ rfl).setTo 0 rfl 0 (.int .i64 (er:Int)) #[.int .i64 (er:Int)] rfl _ rfl).setTo 1 rfl 0 (.int .i64 (p:Int)) #[.int .i64 (p:Int)] rfl _ rfl).setTo 0 rfl 0 (.int .i64 (er:Int)) #[.int .i64 (er:Int)] rfl _ rfl;have fe:=(K2.cells1 0 rfl).1;refine⟨.tuple #[.int .i64 (p:Int),.int .i64 (er:Int)],?_,K2.drew.grown,?_⟩
   ·simp [results,Tryz.results23,go_sem,ca,fe]
   ·rw [HRR.out]
 | ok ts =>
   rw [hr] at hR;have hT:=twf_of hr;have HR:=Lib.hid hr;have HRR:=Lib.hid hR;clear hr hR
   go_enter_defers Tryz.func23,Tryz.ntmps23
   go_wp2_with fail;refine (lex_Tokens s _ HS.out ((HL.out.alloc _).alloc _)).mono ?_;rintro e w1 ⟨hb,h1⟩;rw [HR.out] at h1;obtain⟨v,rfl,hown⟩:=h1;have hsz:=hb.size;simp only [World.size_alloc] at hsz;have K1:=Lib.hid (((((Wk.start hcl).alloc w.heap.size rfl (.cells #[.int .i64 0] 3)).alloc (w.heap.size+1) (by simp) (.cells #[.int .i64 0] 25))).below hb);have hBB:w1.heap[cb]?=some (.cells Z T (0,0)):=by
    rw [hb.block _ (by simp;omega),(((Below.refl w.heap.size w).alloc (Nat.le_refl _) _).alloc (by simp) _).block _ hcl];exact HB.out
   have HBB:=Lib.hid hBB;rcases (HasToks.of_own hown).form with⟨h0,_⟩ | ⟨_,g,cap,rfl,hm,hc⟩
   ·have:=hT.pos;rw [h0] at this;simp at this
   have hgl:=(hown.lt g rfl);simp only [World.size_alloc] at hgl;have HCC:=Lib.hid hc;have HM:=Lib.hid hm;clear hb hown hc hm hBB;obtain⟨ca,cz,cl⟩:=K1.out.cells1 1 rfl;obtain⟨ce,ez,el⟩:=K1.out.cells1 0 rfl;have K2:=Lib.hid (((K1.out.setTo 1 rfl 0 (.int .i64 0) #[.int .i64 0] rfl [(w.heap.size+1,.cells #[.int .i64 0] 25),(w.heap.size,.cells #[.int .i64 0] 3)] rfl).setTo 0 rfl 0 (.int .i64 0) #[.int .i64 0] rfl [(w.heap.size+1,.cells #[.int .i64 0] 25),(w.heap.size,.cells #[.int .i64 0] 3)] rfl).alloc w1.heap.size (by simp) (.cells #[.slice (some ⟨g,0,none⟩) ts.length cap,.int .i64 0] 87));have hpe:PEnv w1.heap.size g cap ts 0 (((w1.setCell ⟨w.heap.size,0,none⟩ (.int .i64 0)).setCell ⟨w.heap.size+1,0,none⟩ (.int .i64 0)).alloc (.cells #[.slice (some ⟨g,0,none⟩) ts.length cap,.int .i64 0] 87)):=by
    refine⟨alloc_last _ _ _ (by simp),by omega,HM.out,hT.pos,HasToks.kept HCC.out ?_⟩;rw [(((Below.refl _ _).alloc (Nat.le_refl _) _):Below _ ((w1.setCell ⟨w.heap.size,0,none⟩ (.int .i64 0)).setCell ⟨w.heap.size+1,0,none⟩ (.int .i64 0)) _).block g (by simp;omega),set_block_ne _ _ _ _ _ (by omega),set_block_ne _ _ _ _ _ (by omega)]
   have hcw:(((w1.setCell ⟨w.heap.size,0,none⟩ (.int .i64 0)).setCell ⟨w.heap.size+1,0,none⟩ (.int .i64 0)).alloc (.cells #[.slice (some ⟨g,0,none⟩) ts.length cap,.int .i64 0] 87)).heap[cb]?=some (.cells Z T (0,0)):=by
    rw [(((Below.refl _ _).alloc (Nat.le_refl _) _):Below _ ((w1.setCell ⟨w.heap.size,0,none⟩ (.int .i64 0)).setCell ⟨w.heap.size+1,0,none⟩ (.int .i64 0)) _).block cb (by simp;omega),set_block_ne _ _ _ _ _ (by omega),set_block_ne _ _ _ _ _ (by omega)];exact HBB.out
   have PE:=Lib.hid hpe;have CW:=Lib.hid hcw;clear hpe hcw HCC HBB;go_wp2_with fail;refine (HC.out w1.heap.size g cap ts _ hT PE.out (by omega) (by omega) CW.out).mono ?_;intro e w3 ho;clear PE CW ca cz ce ez K1;cases hsp:spec ts with
   | error q =>
     rw [hsp] at ho;have hRR:=HRR.out;rw [hsp] at hRR;obtain⟨rfl,hg⟩:=ho;have K3:=Lib.hid (K2.out.call2 ⟨hg.os,hg.tape,hg.output,hg.size,fun k hk h1 _=>hg.block k hk (by intro e;cases e;exact h1 rfl)⟩);have RR:=Lib.hid hRR;clear hg hRR HRR hsp K2;obtain⟨ca,cz,cl⟩:=K3.out.cells1 1 rfl;obtain⟨ce,ez,el⟩:=K3.out.cells1 0 rfl;refine leaves_cons (f:=49) (args:=#[.pointer (some ⟨w.heap.size,0,none⟩),.pointer (some ⟨w.heap.size+1,0,none⟩)]) (by simp) (by simp [go_sem]) ?_;refine (read_catch w.heap.size (w.heap.size+1) _ _ _ _ (by omega) ca cz ce ez).mono ?_;rintro e u' w4 ⟨rfl,rfl,rfl⟩;have K4:=((K3.out.setTo 1 rfl 0 (.int .i64 ((tk ts q).pos:Int)) #[.int .i64 ((tk ts q).pos:Int)] rfl _ rfl).setTo 0 rfl 0 (.int .i64 2) #[.int .i64 2] rfl _ rfl);have fe:=(K4.cells1 0 rfl).1;simp only [Leaves,settle,List.dropWhile_nil];refine⟨.tuple #[.int .i64 ((tk ts q).pos:Int),.int .i64 2],?_,(K4.alloc0 _).grown,?_⟩
     ·simp [results,Tryz.results23,go_sem,ca,fe,cl,el]
     ·rw [RR.out];rfl
   | ok x =>
     obtain⟨a,j⟩:=x;rw [hsp] at ho;have hRR:=HRR.out;rw [hsp] at hRR;obtain⟨rfl,hE,⟨cs,hform,hcs,hF⟩,hg⟩:=ho;have K3:=Lib.hid ((K2.out.call2 hg).add (K2.out.drop 0) (FQ a cs) hF);have hsz3:=hg.size;simp only [World.size_alloc,World.size_setCell] at hsz3;obtain⟨⟨kd,ps,tx,nv⟩,ht⟩:∃ t,tk ts j=t:=⟨_,rfl⟩;have hp:=par_peek hE;rw [ht] at hp;unfold tokAgg at hp;have PK:=Lib.hid hp;have HE:=Lib.hid hE;have HCS:=Lib.hid hcs;have HFo:=Lib.hid hform;have HTK:=Lib.hid ht;have HSP:=Lib.hid hsp;have hjlt:=hE.lt;replace hRR:R=if (tk ts j).kind=5 then Except.ok a else Except.error ((tk ts j).pos,2):=hRR
     rw [ht] at hRR;have RR:=Lib.hid hRR;clear hp hE hcs hform hF hg hRR HRR hsp K2 ht;go_wp2_with fail;refine PK.out.mono ?_;rintro e w4 ⟨rfl,hb4⟩;have K4:=Lib.hid (K3.out.below hb4);have HE4:=Lib.hid (HE.out.keep hb4);have HC4:Hid (w4.heap[cb]?=some (.cells cs T (0,0))):=(hb4.block _ (lt_of_heap HCS.out)).trans HCS.out;have hsz4:=hb4.size;clear hb4 PK K3 HE HCS
     by_cases hk5:kd=5
     ·subst hk5;have hRR:=RR.out;rw [if_pos rfl] at hRR;obtain⟨ca,cz,cl⟩:=K4.out.cells1 1 rfl;obtain⟨ce,ez,el⟩:=K4.out.cells1 0 rfl;have RR2:=Lib.hid hRR;clear hRR RR HE4;go_wp2_with fail;refine leaves_cons (f:=49) (args:=#[.pointer (some ⟨w.heap.size,0,none⟩),.pointer (some ⟨w.heap.size+1,0,none⟩)]) (by simp) (by simp [go_sem]) ?_;refine (read_idle w.heap.size (w.heap.size+1) _).mono ?_;rintro e u' w5 ⟨rfl,rfl,rfl⟩;have K5:=((K4.out.setTo 1 rfl 0 (.int .i64 0) #[.int .i64 0] rfl _ rfl).setTo 0 rfl 0 (.int .i64 0) #[.int .i64 0] rfl _ rfl);have fe:=(K5.cells1 0 rfl).1;simp only [Leaves,settle];refine⟨.tuple #[.int .i64 0,.int .i64 0],?_,(K5.alloc0 _).grown,?_⟩
      ·simp [results,Tryz.results23,go_sem,ca,fe,cl,el]
      ·rw [RR2.out];refine⟨rfl,⟨ts,j,hT,HSP.out,hjlt⟩,cs,HFo.out,?_,(K5.alloc0 _).fin.2⟩;have hcl4:=lt_of_heap HC4.out;rw [(((Below.refl _ _).alloc (Nat.le_refl _) _):Below _ ((w4.setCell ⟨w.heap.size,0,none⟩ (.int .i64 0)).setCell ⟨w.heap.size+1,0,none⟩ (.int .i64 0)) _).block cb (by simp;omega),set_block_ne _ _ _ _ _ (by omega),set_block_ne _ _ _ _ _ (by omega)];exact HC4.out
     ·have hRR:=RR.out;rw [if_neg hk5] at hRR;have hq4:((kd:Int) == 5)=false:=by rw [beq_eq_false_iff_ne];omega
      have hq5:((kd:Int) != 5)=true:=by rw [bne,hq4];rfl
      have RR2:=Lib.hid hRR;clear hRR RR hk5;go_wp2_with fail;refine (par_fail HE4.out).mono ?_;rintro e w5 ⟨rfl,hb5⟩;rw [HTK.out];have K5:=Lib.hid (K4.out.below hb5);clear hb5 K4 HE4 HC4 hq4 hq5;obtain⟨ca,cz,cl⟩:=K5.out.cells1 1 rfl;obtain⟨ce,ez,el⟩:=K5.out.cells1 0 rfl;refine leaves_cons (f:=49) (args:=#[.pointer (some ⟨w.heap.size,0,none⟩),.pointer (some ⟨w.heap.size+1,0,none⟩)]) (by simp) (by simp [go_sem]) ?_;refine (read_catch w.heap.size (w.heap.size+1) _ _ _ _ (by omega) ca cz ce ez).mono ?_;rintro e u' w6 ⟨rfl,rfl,rfl⟩;have K6:=((K5.out.setTo 1 rfl 0 (.int .i64 (ps:Int)) #[.int .i64 (ps:Int)] rfl _ rfl).setTo 0 rfl 0 (.int .i64 2) #[.int .i64 2] rfl _ rfl);have fe:=(K6.cells1 0 rfl).1;simp only [Leaves,settle,List.dropWhile_nil];refine⟨.tuple #[.int .i64 (ps:Int),.int .i64 2],?_,(K6.alloc0 _).grown,?_⟩
      ·simp [results,Tryz.results23,go_sem,ca,fe,cl,el]
      ·rw [RR2.out];rfl
end
end
section
open Lx Go.RowKit
/-- Where the loop of exprDepth stands. -/
def DepthRel (ks:List Ex)(w:World)(v i:Value)(wr:World):Prop:=∃ n:Nat,n≤ks.length∧i=.int .i64 (n:Int)∧v=.int .i64 (exsDepth (ks.take n):Int)∧Below w.heap.size w wr
set_option maxHeartbeats 1000000 in
theorem par_exprDepth (d:Nat):∀ (e:Ex) (k n:Int) (o m:ByteArray) (a:Option Addr) (l c:Nat) (w:World),IsEx Any w d e [.int .i64 k,.int .i64 n,.string o,.string m,.slice a l c]→exDepth e≤1000000 →
  Calls Tryz.prog 26 #[.agg #[.int .i64 k,.int .i64 n,.string o,.string m,.slice a l c]] w fun r w'=>r=.returned (.int .i64 (exDepth e:Int))∧Below w.heap.size w w':=by
 induction d with
 | zero=>intro e k n o m a l c w h;exact absurd h (by simp [IsEx])
 | succ d ih =>
   intro e k n o m a l c w h hd;obtain⟨ek,en,eo,em,ks⟩:=e;obtain⟨v,hv,hl⟩:=h;obtain rfl:v=.slice a l c:=by simp only [List.cons.injEq,and_true] at hv;exact hv.2.2.2.2.symm
   clear hv;obtain⟨rfl,hm,hat⟩:=hl.exAt;unfold maxLen at hm;rw [exDepth] at hd ⊢;have HAT:=Lib.hid hat;have IH:=Lib.hid ih;clear hl hat ih;go_enter Tryz.func26,Tryz.ntmps26;go_wp2_with fail
   go_loopw [3,9] (fun v i wr=>DepthRel ks (w.alloc (.cells #[.int .i64 k,.int .i64 n,.string o,.string m,.slice a ks.length c] 24)) v i wr) (fun _ i _=>ks.length-(intOf i).toNat)
   case atStart=>exact⟨0,Nat.zero_le _,rfl,rfl,.refl _ _⟩
   case round =>
    obtain⟨j,hj,rfl,rfl,hb⟩:=hrel;have hdt:=exsDepth_take ks j
    by_cases hlt:j<ks.length
    ·obtain⟨g,off,k1,m1,o1,nm1,a1,n1,c1,rfl,hgl,c0,c1',c2,c3,c4,hx⟩:=HAT.out j hlt;have hsz:=hb.size;simp only [World.size_alloc] at hsz;have hbl:∀ o,wr.cell? ⟨g,o,none⟩=w.cell? ⟨g,o,none⟩:=fun o=>(hb.cell (p:=⟨g,o,none⟩) (by simp;omega)).trans (((Below.refl w.heap.size w).alloc (Nat.le_refl _) _).cell (p:=⟨g,o,none⟩) hgl)
     rw [← hbl] at c0 c1' c2 c3 c4;have hg1:g<wr.heap.size:=by omega
     have hx':IsEx Any wr d ks[j] [.int .i64 k1,.int .i64 m1,.string o1,.string nm1,.slice a1 n1 c1]:=IsEx.kept (kept_any (((Below.refl w.heap.size w).alloc (Nat.le_refl _) _).trans (hb.mono (by simp)))) _ _ _ hx;have hx2:=Lib.hid (IsEx.kept (kept_alloc wr (.cells #[.int .i64 k1,.int .i64 m1,.string o1,.string nm1,.slice a1 n1 c1] 24)) _ _ _ hx');have hdj:=exsDepth_get ks j hlt;have HS:Hid (exsDepth (ks.take (j+1))=max (exsDepth (ks.take j)) (exDepth ks[j])):=by
      show _=_;rw [List.take_succ_eq_append_getElem hlt,exsDepth_snoc]
     have HB:=Lib.hid hb;clear hb hbl hx hx';go_wp2_with fail;refine (IH.out _ _ _ _ _ _ _ _ _ hx2.out (by omega)).mono ?_;rintro e w2 ⟨rfl,hb2⟩;have HB2:=Lib.hid hb2;clear hb2 c0 c1' c2 c3 c4 hx2;go_wp2_with fail
     go_roundw
     case rel =>
      refine⟨j+1,by omega,by go_num,?_,HB.out.trans (((Below.refl _ _).alloc (Nat.le_refl _) _).trans (HB2.out.mono (by simp)) |>.mono HB.out.size)⟩;rw [HS.out];congr 1;omega
     case measure=>simp [intOf];omega
    ·have hjl:j=ks.length:=by omega
     subst hjl;have HB:=Lib.hid hb;clear hb;go_wp2_with fail;go_ret;refine⟨?_,((Below.refl w.heap.size w).alloc (Nat.le_refl _) _).trans (HB.out.mono (by simp))⟩;rw [List.take_length];rfl
end
section
namespace Lx
section
variable {ts:List Tok}
def Dep (E:Nat→PR Ex):Prop:=∀ i e j,E i=.ok (e,j)→exDepth e+i≤j
def DepO (E:Nat→PR (Ex×Nat)):Prop:=∀ i e j,E i=.ok (e,j)→exDepth e.1+i≤j
theorem exDepth_bin (op:Int)(a b:Ex):exDepth (binE op a b)=max (exDepth a) (exDepth b)+1:=by simp [binE,exDepth,exsDepth]
variable {E:Nat→PR Ex} (hE:Dep E)
include hE
/-- The kids are no deeper than the tokens between. -/
theorem argsLoop_dep2 (i0:Nat):∀ n acc i r j,argsLoop ts E n acc i=.ok (r,j)→exsDepth acc+i0≤i→exsDepth r+i0+1≤j:=by
 intro n
 induction n with
 | zero=>intro acc i r j h;cases h
 | succ n ih =>
   intro acc i r j h ha;unfold argsLoop at h;split at h
   ·obtain⟨e,k,h1,h⟩:=bindP_inv h;have h2:=hE _ _ _ h1;exact ih _ _ _ _ h (by rw [exsDepth_snoc];omega)
   ·obtain⟨_,k,h1,h⟩:=bindP_inv h;have:=expectP_adv h1;cases h;omega
theorem argsP_dep:∀ i r j,argsP ts E i=.ok (r,j)→exsDepth r+i+2≤j:=by
 intro i r j h;unfold argsP at h;obtain⟨_,k,h1,h⟩:=bindP_inv h;have:=expectP_adv h1;split at h
 ·cases h;simp [exsDepth];omega
 ·obtain⟨e,k,h2,h⟩:=bindP_inv h;have h3:=hE _ _ _ h2;have:=argsLoop_dep2 hE (i+1) _ _ _ _ _ h (by simp [exsDepth];omega);omega
theorem atomP_dep:DepO (atomP ts E):=by
 intro i r j h;unfold atomP at h;split at h
 ·unfold namedP at h;obtain⟨_,k,h1,h⟩:=bindP_inv h;have:=nameP_adv h1;split at h
  ·obtain⟨_,k,h2,h⟩:=bindP_inv h;obtain⟨_,k,h3,h⟩:=bindP_inv h;have:=nameP_adv h2;have:=argsP_dep hE _ _ _ h3;cases h;simp only [exDepth];omega
  ·cases h;simp only [exDepth,exsDepth];omega
 split at h;· cases h;simp only [exDepth,exsDepth];omega
 split at h
 ·have:=minusP_adv h;unfold minusP at h;split at h
  ·cases h;simp only [exDepth,exsDepth];omega
  ·cases h
 split at h;· cases h;simp only [exDepth,exsDepth];omega
 split at h;· cases h;simp only [exDepth,exsDepth];omega
 split at h
 ·have:=unitP_adv h;unfold unitP at h;obtain⟨_,k,h1,h⟩:=bindP_inv h;obtain⟨_,k,h2,h⟩:=bindP_inv h;cases h;simp only [exDepth,exsDepth];omega
 split at h
 ·obtain⟨_,k,h1,h⟩:=bindP_inv h;have:=nameP_adv h1;have:=unitP_adv h;unfold unitP at h;obtain⟨_,k,h1,h⟩:=bindP_inv h;obtain⟨_,k,h2,h⟩:=bindP_inv h;cases h;simp only [exDepth,exsDepth];omega
 ·unfold parenP at h;obtain⟨_,k,h1,h⟩:=bindP_inv h;obtain⟨_,k,h2,h⟩:=bindP_inv h;obtain⟨_,k,h3,h⟩:=bindP_inv h;have:=expectP_adv h1;have:=hE _ _ _ h2;have:=expectP_adv h3;cases h;simp only;omega
theorem postLoop_dep (i0:Nat):∀ n e sh i r j,postLoop ts E n e sh i=.ok (r,j)→exDepth e+i0≤i→exDepth r.1+i0≤j:=by
 intro n
 induction n with
 | zero=>intro e sh i r j h;cases h
 | succ n ih =>
   intro e sh i r j h ha;unfold postLoop at h;split at h
   ·obtain⟨m,k,h1,h⟩:=bindP_inv h;have:=nameP_adv h1;split at h
    ·obtain⟨ks,k,h2,h⟩:=bindP_inv h;have:=argsP_dep hE _ _ _ h2;exact ih _ _ _ _ _ h (by simp only [exDepth,exsDepth];omega)
    ·exact ih _ _ _ _ _ h (by simp only [exDepth,exsDepth];omega)
   ·cases h;exact ha
theorem postP_dep:DepO (postP ts E):=by
 intro i r j h;unfold postP at h;obtain⟨x,k,h1,h⟩:=bindP_inv h;exact postLoop_dep hE i _ _ _ _ _ _ h (atomP_dep hE _ _ _ h1)
theorem prodLoop_dep (i0:Nat):∀ n e i r j,prodLoop ts E n e i=.ok (r,j)→exDepth e+i0≤i→i0≤i→exDepth r+i0≤j:=by
 intro n
 induction n with
 | zero=>intro e i r j h;cases h
 | succ n ih =>
   intro e i r j h ha hi;unfold prodLoop at h;split at h
   ·obtain⟨m,k,h1,h⟩:=bindP_inv h;have:=postP_dep hE _ _ _ h1;exact ih _ _ _ _ h (by rw [exDepth_bin];omega) (by omega)
   ·cases h;exact ha
theorem prodP_dep:Dep (prodP ts E):=by
 intro i r j h;unfold prodP at h;obtain⟨x,k,h1,h⟩:=bindP_inv h;have:=postP_dep hE _ _ _ h1;exact prodLoop_dep hE i _ _ _ _ _ h this (by omega)
theorem sumLoop_dep (i0:Nat):∀ n e i r j,sumLoop ts E n e i=.ok (r,j)→exDepth e+i0≤i→i0≤i→exDepth r+i0≤j:=by
 intro n
 induction n with
 | zero=>intro e i r j h;cases h
 | succ n ih =>
   intro e i r j h ha hi;unfold sumLoop at h;split at h
   ·obtain⟨m,k,h1,h⟩:=bindP_inv h;have:=prodP_dep hE _ _ _ h1;exact ih _ _ _ _ h (by rw [exDepth_bin];omega) (by omega)
   ·split at h
    ·obtain⟨m,k,h1,h⟩:=bindP_inv h;have:=prodP_dep hE _ _ _ h1;exact ih _ _ _ _ h (by rw [exDepth_bin];omega) (by omega)
    ·cases h;exact ha
theorem sumP_dep:Dep (sumP ts E):=by
 intro i r j h;unfold sumP at h;obtain⟨x,k,h1,h⟩:=bindP_inv h;have:=prodP_dep hE _ _ _ h1;exact sumLoop_dep hE i _ _ _ _ _ h this (by omega)
theorem exprW_dep:Dep (exprW ts E):=by
 intro i r j h;unfold exprW at h;obtain⟨x,k,h1,h⟩:=bindP_inv h;have:=sumP_dep hE _ _ _ h1;split at h
 ·obtain⟨x,k,h2,h⟩:=bindP_inv h;have:=sumP_dep hE _ _ _ h2;cases h;rw [exDepth_bin];omega
 ·split at h
  ·obtain⟨x,k,h2,h⟩:=bindP_inv h;have:=sumP_dep hE _ _ _ h2;cases h;rw [exDepth_bin];omega
  ·cases h;omega
omit hE
theorem exprP_dep:∀ f,Dep (exprP ts f):=by
 intro f
 induction f with
 | zero=>intro i r j h;cases h
 | succ f ih=>exact exprW_dep ih
theorem exprT_dep:Dep (exprT ts):=exprP_dep _
end
end Lx
end
end Go.Proofs.YtmlafcimjhnhhaaGreatDoor
