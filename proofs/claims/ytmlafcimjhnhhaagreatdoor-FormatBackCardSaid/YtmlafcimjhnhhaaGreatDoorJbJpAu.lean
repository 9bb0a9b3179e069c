/-
  Plain Lean: what reading a text gives (the rules of ParSpec on the tokens of a text).
-/
import Derived.Test.YtmlafcimjhnhhaaGreatDoorJbJpAp
import Derived.Test.YtmlafcimjhnhhaaGreatDoorJbJpAr
import Derived.Test.YtmlafcimjhnhhaaGreatDoorJbJpAn
import Derived.WalkLawsBesides
import Derived.Lib.BufferOwn
import Derived.Laws.Pointers
import Derived.RegionTactic
set_option linter.unusedSectionVars false
set_option linter.unusedSimpArgs false
set_option linter.unnecessarySimpa false
set_option linter.unusedVariables false
namespace Go.Proofs.YtmlafcimjhnhhaaGreatDoor
section
open Lx
namespace Lx
/-- Tokens as lex.Tokens gives them, as far as the parser leans on it. -/
structure TWF (ts:List Tok):Prop where
 pos:0<ts.length
 kind:(tk ts (ts.length-1)).kind=5
 text:(tk ts (ts.length-1)).text=[]
 n:∀ t∈ts,t.n<9223372036854775808
 len:ts.length≤100000
theorem tk_get (ts:List Tok)(i:Nat)(h:i<ts.length):tk ts i=ts[i]:=by simp [tk,h]
theorem TWF.next_kind {ts:List Tok}(h:TWF ts){i:Nat}(hi:i<ts.length)(hk:(tk ts i).kind≠5):i+1<ts.length:=by
 have h1:=h.kind
 by_cases he:i=ts.length-1
 ·rw [he] at hk;exact absurd h1 hk
 ·omega
theorem TWF.next_text {ts:List Tok}(h:TWF ts){i:Nat}(hi:i<ts.length){x:Bytes}(hx:x≠[])(hk:isT ts i x=true):i+1<ts.length:=by
 have h1:=h.text
 by_cases he:i=ts.length-1
 ·rw [he] at hk;simp only [isT,h1,beq_iff_eq] at hk;exact absurd hk.symm hx
 ·omega
theorem TWF.n_lt {ts:List Tok}(h:TWF ts)(i:Nat):(tk ts i).n<9223372036854775808:=by
 by_cases hi:i<ts.length
 ·rw [tk_get _ _ hi];exact h.n _ (List.getElem_mem hi)
 ·simp [tk,List.getElem?_eq_none (by omega:ts.length≤i)]
theorem toks_all (Pd:Tok→Prop)(hP:∀ k m n q c t,oneTok (c::t)=.ok k m n→Pd ⟨k,q,(c::t).take m,n⟩):∀ f b p l ts,toks f b p l=.ok ts→∃ us q,ts=us++[⟨5,q,[],0⟩]∧(∀ t∈us,Pd t)∧us.length≤l.length:=by
 intro f
 induction f with
 | zero=>intro b p l ts h;cases h
 | succ f ih =>
   intro b p l ts h;have hle:=skipB_le b l;simp only [toks] at h;generalize skipB b l=r at hle h;cases r with
   | nil=>cases h;exact⟨[],_,rfl,by simp,by simp⟩
   | cons c t =>
     simp only at h;cases ho:oneTok (c::t) with
     | bad e=>rw [ho] at h;cases h
     | ok k m n =>
       rw [ho] at h;simp only at h;have hb:=oneTok_bounds ho;generalize hq:toks f false (p+(l.length-(c::t).length)+m) ((c::t).drop m)=x at h;cases x with
       | error y=>cases h
       | ok us =>
         cases h;obtain⟨vs,q,rfl,h1,h2⟩:=ih _ _ _ _ hq;refine⟨_::vs,q,rfl,fun y hy=>?_,?_⟩
         ·rcases List.mem_cons.1 hy with rfl | hy
          ·exact hP _ _ _ _ _ _ ho
          ·exact h1 y hy
         ·rw [List.length_drop] at h2;simp only [List.length_cons] at *;omega
theorem oneTok_n {l:Bytes}{k m n:Nat}(h:oneTok l=.ok k m n):n<9223372036854775808:=by
 cases l with
 | nil=>simp [oneTok] at h
 | cons c t =>
   simp only [oneTok] at h;split at h
   ·simp only [wordTok] at h;split at h
    ·cases h
    ·cases h;decide
   ·split at h
    ·simp only [numTok] at h;split at h
     ·cases h
     ·split at h
      ·cases h
      ·rename_i hn;cases h;omega
    ·simp only [markTok] at h;split at h
     ·cases h;decide
     ·cases h
theorem tokensOf_len {l:Bytes}{ts:List Tok}(h:tokensOf l=.ok ts):l.length≤65536∧lexAt false 0 l=.ok ts:=by
 unfold tokensOf at h;split at h
 ·cases h
 ·exact⟨by omega,h⟩
theorem twf_of {l:Bytes}{ts:List Tok}(h:tokensOf l=.ok ts):TWF ts:=by
 obtain⟨hl,h⟩:=tokensOf_len h;obtain⟨us,q,rfl,h1,h2⟩:=toks_all (fun t=>t.n<9223372036854775808) (fun k m n q c t ho=>oneTok_n ho) _ _ _ _ _ h;have e:tk (us++[(⟨5,q,[],0⟩:Tok)]) ((us++[(⟨5,q,[],0⟩:Tok)]).length-1)=⟨5,q,[],0⟩:=by simp [tk]
 refine⟨by simp,by rw [e],by rw [e],fun t ht=>?_,by simp;omega⟩;rcases List.mem_append.1 ht with ht | ht
 ·exact h1 t ht
 ·simp at ht;subst ht;show 0<9223372036854775808;decide
theorem oneTok_bad {l:Bytes}{e:Nat}(h:oneTok l=.bad e):2≤e:=by
 cases l with
 | nil=>simp [oneTok] at h;omega
 | cons c t =>
   simp only [oneTok] at h;split at h
   ·simp only [wordTok] at h;split at h
    ·cases h;decide
    ·cases h
   ·split at h
    ·simp only [numTok] at h;split at h
     ·cases h;decide
     ·split at h
      ·cases h;decide
      ·cases h
    ·simp only [markTok] at h;split at h
     ·cases h
     ·cases h;decide
theorem toks_err:∀ f b p l q e,l.length<f→toks f b p l=.error (q,e)→2≤e:=by
 intro f
 induction f with
 | zero=>intro b p l q e h;omega
 | succ f ih =>
   intro b p l q e hf h;have hle:=skipB_le b l;simp only [toks] at h;generalize skipB b l=r at hle h;cases r with
   | nil=>cases h
   | cons c t =>
     simp only at h;cases ho:oneTok (c::t) with
     | bad e=>rw [ho] at h;cases h;exact oneTok_bad ho
     | ok k m n =>
       rw [ho] at h;simp only at h;have hb:=oneTok_bounds ho;generalize hq:toks f false (p+(l.length-(c::t).length)+m) ((c::t).drop m)=x at h;cases x with
       | ok us=>cases h
       | error y =>
         cases h;exact ih _ _ _ _ _ (by rw [List.length_drop];simp only [List.length_cons] at *;omega) hq
theorem tokensOf_err {l:Bytes}{q e:Nat}(h:tokensOf l=.error (q,e)):2≤e:=by
 unfold tokensOf at h;split at h
 ·cases h;decide
 ·exact toks_err _ _ _ _ _ _ (Nat.lt_succ_self _) h
/-- What a rule gives on a text. -/
def readR {α:Type}(spec:List Tok→PR α)(l:Bytes):Except (Nat×Nat) α:=match tokensOf l with
 | .error x=>.error x
 | .ok ts=>match spec ts with
   | .ok (a,j)=>if (tk ts j).kind=5 then .ok a else .error ((tk ts j).pos,2)
   | .error q=>.error ((tk ts q).pos,2)
/-- What parse.Program gives: the classes, or the offset and the error. -/
def programR (l:Bytes):Except (Nat×Nat) (List Cl):=match readR (fun ts=>programP ts 0) l with
 | .error x=>.error x
 | .ok c=>if sourceLim c≠0 then .error (0,sourceLim c) else .ok c
theorem readR_err {α:Type}{spec:List Tok→PR α}{l:Bytes}{p er:Nat}(h:readR spec l=.error (p,er)):2≤er:=by
 unfold readR at h;cases ht:tokensOf l with
 | error y=>rw [ht] at h;cases h;exact tokensOf_err ht
 | ok ts =>
   rw [ht] at h;cases he:spec ts with
   | error q=>simp only [he] at h;cases h;exact Nat.le_refl _
   | ok y=>obtain⟨y,j⟩:=y;simp only [he] at h;split at h <;> cases h;exact Nat.le_refl _
end Lx
end
section
open Lx Go.RowKit
theorem set_block_ne (w:World)(b o:Nat)(v:Value)(k:Nat)(h:k≠b):(w.setCell ⟨b,o,none⟩ v).heap[k]?=w.heap[k]?:=by
 simp [World.setCell,Array.getElem?_modify,Ne.symm h]
/-- The parser's block pb: the tokens ts in block g, the next token's index i. -/
structure PEnv (pb g cap:Nat) (ts:List Tok) (i:Nat) (w:World):Prop where
 blk:w.heap[pb]?=some (.cells #[.slice (some ⟨g,0,none⟩) ts.length cap,.int .i64 i] 87 (0,0))
 ne:g≠pb
 len:ts.length≤maxLen
 lt:i<ts.length
 cell:∀ i (h:i<ts.length),w.cell? ⟨g,i*4,none⟩=some (.int .i64 (ts[i].kind:Int))∧w.cell? ⟨g,i*4+1,none⟩=some (.int .i64 (ts[i].pos:Int)) ∧
  w.cell? ⟨g,i*4+2,none⟩=some (.string (strOf ts[i].text))∧w.cell? ⟨g,i*4+3,none⟩=some (.int .i64 (ts[i].n:Int))
section
variable {pb g cap:Nat} {ts:List Tok} {i:Nat} {w w':World}
theorem PEnv.pb_lt (h:PEnv pb g cap ts i w):pb<w.heap.size:=by
 have:=h.blk
 by_cases hh:pb<w.heap.size
 ·exact hh
 ·rw [Array.getElem?_eq_none (by omega)] at this;cases this
theorem PEnv.g_lt (h:PEnv pb g cap ts i w):g<w.heap.size:=World.block_lt_of_cell? w _ (h.cell i h.lt).1
theorem PEnv.c0 (h:PEnv pb g cap ts i w):w.cell? ⟨pb,0,none⟩=some (.slice (some ⟨g,0,none⟩) ts.length cap):=by simp [World.cell?,h.blk]
theorem PEnv.c1 (h:PEnv pb g cap ts i w):w.cell? ⟨pb,1,none⟩=some (.int .i64 i):=by simp [World.cell?,h.blk]
theorem PEnv.fz (h:PEnv pb g cap ts i w)(o:Nat):w.frozen? ⟨pb,o,none⟩=false:=by simp [World.frozen?,h.blk]
theorem PEnv.at (h:PEnv pb g cap ts i w):w.cell? ⟨g,i*4,none⟩=some (.int .i64 ((tk ts i).kind:Int))∧w.cell? ⟨g,i*4+1,none⟩=some (.int .i64 ((tk ts i).pos:Int)) ∧
  w.cell? ⟨g,i*4+2,none⟩=some (.string (strOf (tk ts i).text))∧w.cell? ⟨g,i*4+3,none⟩=some (.int .i64 ((tk ts i).n:Int)):=by
 rw [tk_get _ _ h.lt];exact h.cell i h.lt
/-- Kept where the parser's block and the tokens' block are kept. -/
theorem PEnv.keep (h:PEnv pb g cap ts i w)(hb:Below w.heap.size w w'):PEnv pb g cap ts i w' :=
 ⟨(hb.block pb h.pb_lt).trans h.blk,h.ne,h.len,h.lt,fun k hk=>by
   obtain⟨a,b,c,d⟩:=h.cell k hk;have e:∀ o,w'.cell? ⟨g,o,none⟩=w.cell? ⟨g,o,none⟩:=fun o=>World.cell?_of_block (hb.block g h.g_lt)
   simp only [e];exact⟨a,b,c,d⟩⟩
theorem PEnv.alloc (h:PEnv pb g cap ts i w)(o:Obj):PEnv pb g cap ts i (w.alloc o):=h.keep ((Below.refl _ _).alloc (Nat.le_refl _) o)
theorem PEnv.set (h:PEnv pb g cap ts i w){b:Nat}(hb:b≠pb)(hg:b≠g)(o:Nat)(v:Value):PEnv pb g cap ts i (w.setCell ⟨b,o,none⟩ v):=by
 have e:∀ k,k≠b→(w.setCell ⟨b,o,none⟩ v).heap[k]?=w.heap[k]?:=fun k hk=>set_block_ne w _ _ _ _ hk
 refine⟨(e pb (Ne.symm hb)).trans h.blk,h.ne,h.len,h.lt,fun k hk=>?_⟩;obtain⟨a,b,c,d⟩:=h.cell k hk;have e2:∀ o',(w.setCell ⟨_,o,none⟩ v).cell? ⟨g,o',none⟩=w.cell? ⟨g,o',none⟩:=fun o'=>World.cell?_of_block (e g (Ne.symm hg))
 simp only [e2];exact⟨a,b,c,d⟩
theorem PEnv.step (h:PEnv pb g cap ts i w)(hi:i+1<ts.length):PEnv pb g cap ts (i+1) (w.setCell ⟨pb,1,none⟩ (.int .i64 ((i:Int)+1))):=by
 have e:∀ k,k≠pb→(w.setCell ⟨pb,1,none⟩ (.int .i64 ((i:Int)+1))).heap[k]?=w.heap[k]?:=fun k hk=>set_block_ne w _ _ _ _ hk
 refine⟨?_,h.ne,h.len,hi,fun k hk=>?_⟩
 ·have:=h.blk;simp [World.setCell,Array.getElem?_modify,this]
 ·obtain⟨a,b,c,d⟩:=h.cell k hk;have e2:∀ o',(w.setCell ⟨pb,1,none⟩ (.int .i64 ((i:Int)+1))).cell? ⟨g,o',none⟩=w.cell? ⟨g,o',none⟩:=fun o'=>World.cell?_of_block (e g h.ne)
  simp only [e2];exact⟨a,b,c,d⟩
end
/-- How a rule ends: with its tree and the next index, or by the misfit's panic. -/
def POut {α:Type}(pb g cap:Nat)(ts:List Tok)(w:World)(Q:α→Value→World→Prop)(r:PR α)(e:Ending)(w':World):Prop :=
 w.grownBy w' (some pb)∧match r with
 | .ok (a,j)=>∃ v,e=.returned v∧Q a v w'∧PEnv pb g cap ts j w'
 | .error q=>e=.panicked [{ v:=.iface 84 (.agg #[.int .i64 ((tk ts q).pos:Int)]),recovered:=false }]
end
section
open Lx Go.RowKit
section
variable {pb g cap:Nat} {ts:List Tok} {i:Nat} {w:World}
set_option maxHeartbeats 1000000 in
theorem par_peek (h:PEnv pb g cap ts i w):Calls Tryz.prog 50 #[.pointer (some ⟨pb,0,none⟩)] w fun e w' =>
  e=.returned (tokAgg (tk ts i).kind (tk ts i).pos (tk ts i).text (tk ts i).n)∧Below w.heap.size w w':=by
 have hpb:=h.pb_lt;have hg:=h.g_lt;have hlt:=h.lt;have hlen:=h.len;unfold maxLen at hlen;obtain⟨a0,a1,a2,a3⟩:=h.at;have c0:=h.c0;have c1:=h.c1;clear h;generalize tk ts i=t at *;generalize ts.length=n at *;go_enter Tryz.func50,Tryz.ntmps50;go_wp2_with fail
 go_region
 go_wp2_with fail;refine bodyPost_ret (v:=tokAgg t.kind t.pos t.text t.n) ?_ rfl ⟨rfl,((Below.refl _ _).alloc (Nat.le_refl _) _).drew⟩;simp [results,Tryz.results50,go_sem,tokAgg]
theorem grown_below {w w':World}{pb:Nat}(h:Below w.heap.size w w'):w.grownBy w' (some pb):=⟨h.os,h.tape,h.output,h.size,fun k hk _=>h.block k hk⟩
@[go_sem] theorem fieldTok1 (a b c d:Value) (w:World):(Instr.field 89 (.agg #[a,b,c,d]) 1).run Tryz.prog w=.ok b w:=by kernel_rfl
@[go_sem] theorem fieldTok0 (a b c d:Value) (w:World):(Instr.field 89 (.agg #[a,b,c,d]) 0).run Tryz.prog w=.ok a w:=by kernel_rfl
@[go_sem] theorem fieldTok2 (a b c d:Value) (w:World):(Instr.field 89 (.agg #[a,b,c,d]) 2).run Tryz.prog w=.ok c w:=by kernel_rfl
set_option maxHeartbeats 1000000 in
theorem par_fail (h:PEnv pb g cap ts i w):Calls Tryz.prog 51 #[.pointer (some ⟨pb,0,none⟩)] w fun e w' =>
  e=.panicked [{ v:=.iface 84 (.agg #[.int .i64 ((tk ts i).pos:Int)]),recovered:=false }]∧Below w.heap.size w w':=by
 obtain⟨t,ht⟩:∃ t,tk ts i=t:=⟨_,rfl⟩;have hp:=par_peek h;rw [ht] at hp ⊢;have H:=Lib.hid hp;clear h ht hp;unfold tokAgg at H;obtain⟨kd,ps,tx,nv⟩:=t;go_enter Tryz.func51,Tryz.ntmps51;go_wp2_with fail;refine H.out.mono ?_;rintro e w' ⟨rfl,hb⟩;clear H;go_wp2_with fail;exact⟨rfl,rfl,hb⟩
set_option maxHeartbeats 1000000 in
theorem par_is (x:ByteArray)(h:PEnv pb g cap ts i w):Calls Tryz.prog 59 #[.pointer (some ⟨pb,0,none⟩),.string x] w fun e w' =>
  e=.returned (.bool (isT ts i x.data.toList))∧Below w.heap.size w w':=by
 unfold isT;obtain⟨t,ht⟩:∃ t,tk ts i=t:=⟨_,rfl⟩;have hp:=par_peek h;rw [ht] at hp ⊢;have H:=Lib.hid hp;clear h ht hp;unfold tokAgg at H;obtain⟨kd,ps,tx,nv⟩:=t;go_enter Tryz.func59,Tryz.ntmps59;go_wp2_with fail;refine H.out.mono ?_;rintro e w' ⟨rfl,hb⟩;clear H;go_wp2_with fail;go_ret;refine⟨?_,hb⟩
 show Ending.returned (.bool ((strOf tx).toList == x.toList))=_
 rw [str_beq]
set_option maxHeartbeats 1000000 in
theorem par_accept (hT:TWF ts)(x:ByteArray)(hx:x.data.toList≠[])(h:PEnv pb g cap ts i w):Calls Tryz.prog 53 #[.pointer (some ⟨pb,0,none⟩),.string x] w fun e w' =>
  e=.returned (.bool (isT ts i x.data.toList))∧w.grownBy w' (some pb)∧PEnv pb g cap ts (if isT ts i x.data.toList then i+1 else i) w':=by
 obtain⟨b,ht⟩:∃ b,isT ts i x.data.toList=b:=⟨_,rfl⟩;have hp:=par_is x h;rw [ht] at hp ⊢;have HP:=Lib.hid hp;have H:=Lib.hid h;have HT:=Lib.hid ht;clear h hp ht;go_enter Tryz.func53,Tryz.ntmps53;go_wp2_with fail;refine HP.out.mono ?_;rintro e w' ⟨rfl,hb⟩;have H2:Hid (PEnv pb g cap ts i w'):=H.out.keep hb;cases b
 ·go_wp2_with fail;go_ret;exact⟨rfl,grown_below hb,H2.out⟩
 ·have c1:=H2.out.c1;have f1:=H2.out.fz 1;have hn:=hT.next_text H.out.lt hx HT.out;have hm:=H.out.len;unfold maxLen at hm;have hwr:IntKind.i64.wrap ((i:Int)+1)=(i:Int)+1:=IntWalk.i64_in _ (by omega);go_wp2_with fail;go_ret;exact⟨rfl,Lib.grownBy_setB (grown_below hb) _ _,H2.out.step hn⟩
theorem out_ret {α:Type}{Q:α→Value→World→Prop}{a:α}{j:Nat}{v:Value}{w':World}(hg:w.grownBy w' (some pb))(hQ:Q a v w')(hE:PEnv pb g cap ts j w'):POut pb g cap ts w Q (.ok (a,j)) (.returned v) w':=⟨hg,v,rfl,hQ,hE⟩
def misfit (p:Nat):List PanicEntry:=[{ v:=.iface 84 (.agg #[.int .i64 (p:Int)]),recovered:=false }]
theorem out_panic {α:Type}{Q:α→Value→World→Prop}{q:Nat}{w':World}(hg:w.grownBy w' (some pb)):POut pb g cap ts w Q (.error q:PR α) (.panicked (misfit (tk ts q).pos)) w':=⟨hg,rfl⟩
theorem out_ok {α:Type}{Q:α→Value→World→Prop}{a:α}{j:Nat}{e:Ending}{w':World}(h:POut pb g cap ts w Q (.ok (a,j)) e w'):w.grownBy w' (some pb)∧∃ v,e=.returned v∧Q a v w'∧PEnv pb g cap ts j w':=h
theorem out_error {α:Type}{Q:α→Value→World→Prop}{q:Nat}{e:Ending}{w':World}(h:POut pb g cap ts w Q (.error q:PR α) e w'):w.grownBy w' (some pb)∧e=.panicked (misfit (tk ts q).pos):=h
theorem fin_ok {α:Type}{Q:α→Value→World→Prop}{R:PR α}{a:α}{j:Nat}{v:Value}{w':World}(hR:R=.ok (a,j))(hg:w.grownBy w' (some pb))(hQ:Q a v w')(hE:PEnv pb g cap ts j w'):POut pb g cap ts w Q R (.returned v) w':=by rw [hR];exact⟨hg,v,rfl,hQ,hE⟩
theorem fin_error {α:Type}{Q:α→Value→World→Prop}{R:PR α}{q:Nat}{w':World}(hR:R=.error q)(hg:w.grownBy w' (some pb)):POut pb g cap ts w Q R (.panicked (misfit (tk ts q).pos)) w':=by rw [hR];exact⟨hg,rfl⟩
theorem rule_split {α β:Type}{Q:α→Value→World→Prop}{r:PR α}{e:Ending}{w':World}{k:α→Nat→PR β}{R:PR β}(ho:POut pb g cap ts w Q r e w')(hR:R=bindP r k) :
  (∃ q,e=.panicked (misfit (tk ts q).pos)∧R=.error q∧w.grownBy w' (some pb))∨∃ a j v,e=.returned v∧Q a v w'∧PEnv pb g cap ts j w'∧R=k a j∧w.grownBy w' (some pb):=by
 match r,ho,hR with
 | .error q,ho,hR=>obtain⟨hg,he⟩:=out_error ho;exact .inl ⟨q,he,hR,hg⟩
 | .ok (a,j),ho,hR=>obtain⟨hg,v,he,hQ,hE⟩:=out_ok ho;exact .inr ⟨a,j,v,he,hQ,hE,hR,hg⟩
theorem bindP_id {α:Type}(r:PR α):r=bindP r (fun a j=>.ok (a,j)):=by match r with | .error _=>rfl | .ok (_,_)=>rfl
theorem gcell {w w':World}{pb:Nat}(hg:w.grownBy w' (some pb))(b:Nat)(hb:b<w.heap.size)(hne:b≠pb):(∀ o,w'.cell? ⟨b,o,none⟩=w.cell? ⟨b,o,none⟩)∧(∀ o,w'.frozen? ⟨b,o,none⟩=w.frozen? ⟨b,o,none⟩) :=
 ⟨fun _=>World.cell?_of_block (hg.block b hb (by simpa using hne)),fun _=>World.frozen?_of_block (hg.block b hb (by simpa using hne))⟩
theorem grown_alloc {w w':World}{pb:Nat}(hg:w.grownBy w' (some pb))(o:Obj):w.grownBy (w'.alloc o) (some pb):=Lib.grownBy_allocR hg o
theorem grown_set {w w':World}{pb:Nat}(hg:w.grownBy w' (some pb)){b:Nat}(hb:w.heap.size≤b)(o:Nat)(v:Value):w.grownBy (w'.setCell ⟨b,o,none⟩ v) (some pb) :=
 ⟨hg.os,hg.tape,hg.output,by rw [World.size_setCell];exact hg.size,fun k hk hne=>(set_block_ne w' b o v k (by omega)).trans (hg.block k hk hne)⟩
theorem grown_trans {a w w':World}{row:Option Nat}(h:a.grownBy w row)(k:w.grownBy w' row):a.grownBy w' row:=Lib.grownBy_trans h k
/-- Where a rule stands: it began in w, it is now in wc with the next index j. -/
structure PSt (pb g cap:Nat) (ts:List Tok) (w:World) (j:Nat) (wc:World):Prop where
 grown:w.grownBy wc (some pb)
 env:PEnv pb g cap ts j wc
 pbl:pb<w.heap.size
 gl:g<w.heap.size
theorem PEnv.st (h:PEnv pb g cap ts i w):PSt pb g cap ts w i w:=⟨.refl _ _,h,h.pb_lt,h.g_lt⟩
section
variable {j:Nat} {wc:World}
theorem PSt.alloc (h:PSt pb g cap ts w j wc)(o:Obj):PSt pb g cap ts w j (wc.alloc o):=⟨grown_alloc h.grown o,h.env.alloc o,h.pbl,h.gl⟩
theorem PSt.set (h:PSt pb g cap ts w j wc){b:Nat}(hb:w.heap.size≤b)(o:Nat)(v:Value):PSt pb g cap ts w j (wc.setCell ⟨b,o,none⟩ v) :=
 ⟨grown_set h.grown hb o v,h.env.set (by have:=h.pbl;omega) (by have:=h.gl;omega) o v,h.pbl,h.gl⟩
theorem PSt.call (h:PSt pb g cap ts w j wc){j':Nat}{w':World}(hg:wc.grownBy w' (some pb))(hE:PEnv pb g cap ts j' w'):PSt pb g cap ts w j' w':=⟨grown_trans h.grown hg,hE,h.pbl,h.gl⟩
theorem PSt.below (h:PSt pb g cap ts w j wc){w':World}(hb:Below wc.heap.size wc w'):PSt pb g cap ts w j w':=h.call (grown_below hb) (h.env.keep hb)
end
/-- Behind a call of a rule: it has failed, and so has all; or it has not, and we go on. -/
theorem st_split {α β:Type}{Q:α→Value→World→Prop}{r:PR α}{e:Ending}{wc w':World}{k:α→Nat→PR β}{R:PR β}{Q':β→Value→World→Prop}(hS:PSt pb g cap ts w i wc)(ho:POut pb g cap ts wc Q r e w')(hR:R=bindP r k) :
  (∃ ch,e=.panicked ch∧POut pb g cap ts w Q' R (.panicked ch) w')∨∃ a j v,e=.returned v∧Q a v w'∧PSt pb g cap ts w j w'∧R=k a j∧wc.grownBy w' (some pb)∧r=.ok (a,j):=by
 match r,ho,hR with
 | .error q,ho,hR=>obtain⟨hg,he⟩:=out_error ho;exact .inl ⟨_,he,fin_error hR (grown_trans hS.grown hg)⟩
 | .ok (a,j),ho,hR=>obtain⟨hg,v,he,hQ,hE⟩:=out_ok ho;exact .inr ⟨a,j,v,he,hQ,hS.call hg hE,hR,hg,rfl⟩
theorem st_ret {α:Type}{Q:α→Value→World→Prop}{R:PR α}{a:α}{j:Nat}{v:Value}{wc:World}(hS:PSt pb g cap ts w j wc)(hR:R=.ok (a,j))(hQ:Q a v wc):POut pb g cap ts w Q R (.returned v) wc:=fin_ok hR hS.grown hQ hS.env
theorem accept_true (hT:TWF ts)(x:ByteArray)(hx:x.data.toList≠[])(ht:isT ts i x.data.toList=true)(h:PEnv pb g cap ts i w):Calls Tryz.prog 53 #[.pointer (some ⟨pb,0,none⟩),.string x] w fun e w' =>
  e=.returned (.bool true)∧w.grownBy w' (some pb)∧PEnv pb g cap ts (i+1) w':=by
 have:=par_accept hT x hx h;rw [ht] at this;exact this
theorem accept_false (hT:TWF ts)(x:ByteArray)(hx:x.data.toList≠[])(ht:isT ts i x.data.toList=false)(h:PEnv pb g cap ts i w):Calls Tryz.prog 53 #[.pointer (some ⟨pb,0,none⟩),.string x] w fun e w' =>
  e=.returned (.bool false)∧w.grownBy w' (some pb)∧PEnv pb g cap ts i w':=by
 have:=par_accept hT x hx h;rw [ht] at this;exact this
set_option maxHeartbeats 1000000 in
theorem par_expect (hT:TWF ts)(x:ByteArray)(hx:x.data.toList≠[])(h:PEnv pb g cap ts i w):Calls Tryz.prog 79 #[.pointer (some ⟨pb,0,none⟩),.string x] w
  (POut pb g cap ts w (fun _ v _=>v=.tuple #[]) (expectP ts x.data.toList i)):=by
 unfold expectP;obtain⟨b,ht⟩:∃ b,isT ts i x.data.toList=b:=⟨_,rfl⟩;cases b
 ·have HP:=Lib.hid (accept_false hT x hx ht h);rw [ht,if_neg (by decide)];clear ht h;go_enter Tryz.func79,Tryz.ntmps79;go_wp2_with fail;refine HP.out.mono ?_;rintro e w' ⟨rfl,hg,hE⟩;have HE:=Lib.hid hE;have HG:=Lib.hid hg;clear hE hg HP;go_wp2_with fail;refine (par_fail HE.out).mono ?_;rintro e w2 ⟨rfl,hb⟩;exact⟨rfl,out_panic (grown_trans HG.out (grown_below hb))⟩
 ·have HP:=Lib.hid (accept_true hT x hx ht h);rw [ht,if_pos rfl];clear ht h;go_enter Tryz.func79,Tryz.ntmps79;go_wp2_with fail;refine HP.out.mono ?_;rintro e w' ⟨rfl,hg,hE⟩;have HE:=Lib.hid hE;have HG:=Lib.hid hg;clear hE hg HP;go_wp2_with fail;refine bodyPost_end (v:=.tuple #[]) ?_ rfl (out_ret HG.out rfl HE.out);simp [results,Tryz.results79,go_sem]
set_option maxHeartbeats 1000000 in
theorem par_name (hT:TWF ts)(h:PEnv pb g cap ts i w):Calls Tryz.prog 80 #[.pointer (some ⟨pb,0,none⟩)] w
  (POut pb g cap ts w (fun a v _=>v=.string (strOf a)) (nameP ts i)):=by
 unfold nameP;have hp:=par_peek h;have hk:=hT.next_kind h.lt;obtain⟨t,ht⟩:∃ t,tk ts i=t:=⟨_,rfl⟩;rw [ht] at hp hk ⊢;have HP:=Lib.hid hp;have H:=Lib.hid h;have HT:=Lib.hid ht;have hm:=h.len;unfold maxLen at hm;have hlt:=h.lt;have hwr:IntKind.i64.wrap ((i:Int)+1)=(i:Int)+1:=IntWalk.i64_in _ (by omega);clear h hp ht;unfold tokAgg at HP;obtain⟨kd,ps,tx,nv⟩:=t
 by_cases hkd:kd=1
 ·subst hkd;have hn:=hk (by show 1≠5;decide);clear hk;rw [if_pos rfl];go_enter Tryz.func80,Tryz.ntmps80;go_wp2_with fail;refine HP.out.mono ?_;rintro e w' ⟨rfl,hb⟩;have HE:Hid (PEnv pb g cap ts i w'):=H.out.keep hb;have HB:=Lib.hid hb;have c1:=HE.out.c1;have f1:=HE.out.fz 1;have hpb:=HE.out.pb_lt;clear hb HP;go_wp2_with fail;refine bodyPost_ret (v:=.string (strOf tx)) ?_ rfl (out_ret (Lib.grownBy_allocR (Lib.grownBy_setB (grown_below HB.out) _ _) _) rfl ((HE.out.step hn).alloc _));simp [results,Tryz.results80,go_sem]
 ·clear hk;have hkt:((kd:Int) == 1)=false:=by rw [beq_eq_false_iff_ne];omega
  have hkt2:((kd:Int) != 1)=true:=by rw [bne,hkt];rfl
  rw [if_neg hkd];have HK:=Lib.hid hkd;clear hkd;go_enter Tryz.func80,Tryz.ntmps80;go_wp2_with fail;refine HP.out.mono ?_;rintro e w' ⟨rfl,hb⟩;have HE:Hid (PEnv pb g cap ts i w'):=H.out.keep hb;have HB:=Lib.hid hb;clear hb HP;go_wp2_with fail;refine (par_fail (HE.out.alloc _)).mono ?_;rintro e w2 ⟨rfl,hb⟩;exact⟨rfl,out_panic (grown_trans (Lib.grownBy_allocR (grown_below HB.out) _) (grown_below hb))⟩
set_option maxHeartbeats 1000000 in
theorem par_typ (hT:TWF ts)(h:PEnv pb g cap ts i w):Calls Tryz.prog 100 #[.pointer (some ⟨pb,0,none⟩)] w
  (POut pb g cap ts w (fun a v _=>v=.string (strOf a)) (typP ts i)):=by
 unfold typP;obtain⟨b,ht⟩:∃ b,isT ts i [105,110,116]=b:=⟨_,rfl⟩;cases b
 ·have HP:=Lib.hid (accept_false hT ⟨#[105,110,116]⟩ (by decide) ht h);rw [ht,if_neg (by decide)];clear ht h;obtain⟨R,hr⟩:∃ R,R=nameP ts i:=⟨_,rfl⟩;rw [← hr];rw [bindP_id (nameP ts i)] at hr;have HR:=Lib.hid hr;clear hr;go_enter Tryz.func100,Tryz.ntmps100;go_wp2_with fail;refine HP.out.mono ?_;rintro e w' ⟨rfl,hg,hE⟩;have HE:=Lib.hid hE;have HG:=Lib.hid hg;clear hE hg HP;go_wp2_with fail;refine (par_name hT HE.out).mono ?_;intro e w2 ho;obtain⟨q,rfl,hr,hg⟩ | ⟨a,j,v,rfl,rfl,hE,hr,hg⟩:=rule_split ho HR.out
  ·exact⟨rfl,fin_error hr (grown_trans HG.out hg)⟩
  have HE2:=Lib.hid hE;have HG2:=Lib.hid hg;have HR2:=Lib.hid hr;clear hE hg ho hr;go_wp2_with fail;refine bodyPost_ret (v:=.string (strOf a)) ?_ rfl (fin_ok HR2.out (grown_trans HG.out HG2.out) rfl HE2.out);simp [results,Tryz.results100,go_sem]
 ·have HP:=Lib.hid (accept_true hT ⟨#[105,110,116]⟩ (by decide) ht h);rw [ht,if_pos rfl];clear ht h;go_enter Tryz.func100,Tryz.ntmps100;go_wp2_with fail;refine HP.out.mono ?_;rintro e w' ⟨rfl,hg,hE⟩;have HE:=Lib.hid hE;have HG:=Lib.hid hg;clear hE hg HP;go_wp2_with fail;refine bodyPost_ret (v:=.string (strOf [105,110,116])) ?_ rfl (out_ret HG.out rfl HE.out);simp [results,Tryz.results100,go_sem];rfl
set_option maxHeartbeats 1000000 in
theorem par_typed (hT:TWF ts)(h:PEnv pb g cap ts i w):Calls Tryz.prog 99 #[.pointer (some ⟨pb,0,none⟩)] w
  (POut pb g cap ts w (fun a v _=>v=.agg #[.string (strOf a.name),.string (strOf a.typ)]) (typedP ts i)):=by
 obtain⟨R,hr⟩:∃ R,R=typedP ts i:=⟨_,rfl⟩;rw [← hr];unfold typedP at hr;have HR:=Lib.hid hr;have hpb:=h.pb_lt;have S:=Lib.hid ((h.st.alloc (.cells #[.string ⟨#[]⟩,.string ⟨#[]⟩] 98)).alloc (.cells #[.string ⟨#[]⟩,.string ⟨#[]⟩] 98));clear hr h;go_enter Tryz.func99,Tryz.ntmps99;go_wp2_with fail;refine (par_name hT S.out.env).mono ?_;intro e w2 ho;obtain⟨ch,rfl,hp⟩ | ⟨n,i2,v,rfl,rfl,hS,hr,hg,_⟩:=st_split S.out ho HR.out
 ·exact⟨rfl,hp⟩
 obtain⟨b1,f1⟩:=gcell hg (w.heap.size+1) (by simp) (by omega);obtain⟨b0,f0⟩:=gcell hg w.heap.size (by simp;omega) (by omega);have S2:=Lib.hid (hS.set (b:=w.heap.size+1) (by omega) 0 (.string (strOf n)));have hs2:=hg.size;simp only [World.size_alloc] at hs2;have HR2:=Lib.hid hr;clear hS hg ho hr HR;go_wp2_with fail;refine (par_expect hT _ (by decide) S2.out.env).mono ?_;intro e w3 ho;obtain⟨ch,rfl,hp⟩ | ⟨_,i3,v,rfl,rfl,hS,hr,hg,_⟩:=st_split S2.out ho HR2.out
 ·exact⟨rfl,hp⟩
 obtain⟨b1',f1'⟩:=gcell hg (w.heap.size+1) (by simp;omega) (by omega);obtain⟨b0',f0'⟩:=gcell hg w.heap.size (by simp;omega) (by omega);have S3:=Lib.hid hS;have hs3:=hg.size;simp only [World.size_setCell] at hs3;have HR3:=Lib.hid hr;clear hS hg ho hr HR2;go_wp2_with fail;refine (par_typ hT S3.out.env).mono ?_;intro e w4 ho;obtain⟨ch,rfl,hp⟩ | ⟨t,i4,v,rfl,rfl,hS,hr,hg,_⟩:=st_split S3.out ho HR3.out
 ·exact⟨rfl,hp⟩
 obtain⟨b1'',f1''⟩:=gcell hg (w.heap.size+1) (by omega) (by omega);obtain⟨b0'',f0''⟩:=gcell hg w.heap.size (by omega) (by omega);have S4:=Lib.hid hS;have hs4:=hg.size;have HR4:=Lib.hid hr;clear hS hg ho hr HR3;go_wp2_with fail;refine bodyPost_ret (v:=.agg #[.string (strOf n),.string (strOf t)]) ?_ rfl (st_ret (((S4.out.set (by omega) _ _).set (Nat.le_refl _) _ _).set (Nat.le_refl _) _ _) HR4.out rfl);simp [results,Tryz.results99,go_sem,b0,b0',b0'']
theorem alloc_last (w:World)(o:Obj)(k:Nat)(h:k=w.heap.size):(w.alloc o).heap[k]?=some o:=by subst h;simp [World.alloc,-World.alloc_eq]
theorem isList_two {A:Nat→Prop}{w:World}{b:Nat}{P:Ex→List Value→Prop}{e1 e2:Ex}{a0 a1 a2 a3 a4 b0 b1 b2 b3 b4:Value}{T:TypeId}{fr:Nat×Nat}(hA:A b)(hb:w.heap[b]?=some (.cells #[a0,a1,a2,a3,a4,b0,b1,b2,b3,b4] T fr))(h1:P e1 [a0,a1,a2,a3,a4])(h2:P e2 [b0,b1,b2,b3,b4])(cp:Nat)(hcp:2≤cp):IsList A w 5 P [e1,e2] (.slice (some ⟨b,0,none⟩) 2 cp):=by
 refine⟨by unfold maxLen;simp,.inr ⟨b,0,cp,rfl,⟨hA,hcp⟩,fun i hi=>?_⟩⟩;have hc:∀ o,w.cell? ⟨b,o,none⟩=([a0,a1,a2,a3,a4,b0,b1,b2,b3,b4]:List Value)[o]?:=by intro o;simp [World.cell?,hb]
 match i,hi with
 | 0,_=>exact⟨_,rfl,fun j hj=>by rw [hc];match j,hj with | 0,_=>rfl | 1,_=>rfl | 2,_=>rfl | 3,_=>rfl | 4,_=>rfl,h1⟩
 | 1,_=>exact⟨_,rfl,fun j hj=>by rw [hc];match j,hj with | 0,_=>rfl | 1,_=>rfl | 2,_=>rfl | 3,_=>rfl | 4,_=>rfl,h2⟩
set_option maxHeartbeats 1000000 in
theorem par_binary (op:Int)(A:Nat→Prop)(hA:∀ k,w.heap.size≤k→A k)(d:Nat)(e1 e2:Ex)(a0 a1 a2 a3 a4 b0 b1 b2 b3 b4:Value)(h1:IsEx A w d e1 [a0,a1,a2,a3,a4])(h2:IsEx A w d e2 [b0,b1,b2,b3,b4]):Calls Tryz.prog 54 #[.int .i64 op,.agg #[a0,a1,a2,a3,a4],.agg #[b0,b1,b2,b3,b4]] w fun e w' =>
  ∃ a,e=.returned (.agg #[.int .i64 6,.int .i64 op,.string ⟨#[]⟩,.string ⟨#[]⟩,.slice a 2 2])∧IsEx A w' (d+1) (binE op e1 e2) [.int .i64 6,.int .i64 op,.string ⟨#[]⟩,.string ⟨#[]⟩,.slice a 2 2]∧Below w.heap.size w w':=by
 have H1:=Lib.hid h1;have H2:=Lib.hid h2;clear h1 h2;go_enter Tryz.func54,Tryz.ntmps54;go_wp2_with fail;have hb:∀ o1 o2 o3 o4,Below w.heap.size w ((((w.alloc o1).alloc o2).alloc o3).alloc o4):=fun o1 o2 o3 o4=>((((Below.refl _ _).alloc (Nat.le_refl _) _).alloc (by simp) _).alloc (by simp;omega) _).alloc (by simp;omega) _
 refine bodyPost_ret (v:=.agg #[.int .i64 6,.int .i64 op,.string ⟨#[]⟩,.string ⟨#[]⟩,.slice (some ⟨w.heap.size+1+1+1,0,none⟩) 2 2]) ?_ rfl ⟨_,rfl,⟨_,rfl,?_⟩,hb _ _ _ _⟩
 ·simp [results,Tryz.results54,go_sem]
 ·refine isList_two (hA _ (by omega)) (T:=24) (fr:=(0,0)) ?_ (IsEx.kept (.of_below (hb _ _ _ _)) _ _ _ H1.out) (IsEx.kept (.of_below (hb _ _ _ _)) _ _ _ H2.out) 2 (Nat.le_refl _);exact alloc_last _ _ _ (by simp)
end
end
end Go.Proofs.YtmlafcimjhnhhaaGreatDoor
