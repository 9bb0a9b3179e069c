/-
  parse.Expr, walked.
-/
import Derived.Test.YtmlafcimjhnhhaaGreatDoorJbJpBc
import Derived.Test.YtmlafcimjhnhhaaGreatDoorJbParItems
import Derived.Test.YtmlafcimjhnhhaaGreatDoorJbJpAu
import Derived.Test.YtmlafcimjhnhhaaGreatDoorJbJpAr
import Derived.Test.YtmlafcimjhnhhaaGreatDoorJbJpAp
set_option linter.unusedSectionVars false
set_option linter.unusedSimpArgs false
set_option linter.unnecessarySimpa false
set_option linter.unusedVariables false
namespace Go.Proofs.YtmlafcimjhnhhaaGreatDoor
section
open Lx Go.RowKit
theorem below_of_grown {w wc w':World}{cb:Nat}(h:Below w.heap.size w wc)(hg:wc.grownBy w' (some cb))(hcb:w.heap.size≤cb):Below w.heap.size w w' :=
 ⟨hg.os.trans h.os,hg.tape.trans h.tape,hg.output.trans h.output,Nat.le_trans h.size hg.size,fun k hk=>(hg.block k (Nat.lt_of_lt_of_le hk h.size) (by intro e;cases e;omega)).trans (h.block k hk)⟩
end
section
open Lx Go.RowKit
def formSo (cs:Array Value):Prop:=∃ (a:Option Addr) (n c:Nat),cs=#[.slice a n c]
def factSo (l:List Cl)(cs:Array Value):Fact:=fCls l (cs.getD 0 (.slice none 0 0))
set_option maxHeartbeats 1000000 in
theorem rule_Prog (cb:Nat):RuleC 30 cb 35 #[.slice none 0 0] formSo factSo (fun ts=>programP ts 0):=by
 intro pb g cap ts w hT hE h1 h2 hcb;obtain⟨R,hr⟩:∃ R,R=programP ts 0:=⟨_,rfl⟩
 show Calls _ _ _ _ (RuleOut pb g cap ts w cb _ formSo factSo (programP ts 0))
 rw [← hr];have HR:=Lib.hid hr;have HE:=Lib.hid hE;have HC:=Lib.hid hcb;have hcl:=lt_of_heap hcb;clear hr hE hcb;go_enter Tryz.func30,Tryz.ntmps30;go_wp2_with fail;refine (par_program hT HE.out).mono ?_;intro e w2 ho;rw [← HR.out] at ho;cases R with
 | error q =>
   obtain⟨hg,rfl⟩:=out_error ho;exact⟨rfl,rfl,hg⟩
 | ok x =>
   obtain⟨x,j⟩:=x;obtain⟨hg,v,rfl,⟨a,n,c,rfl,hx⟩,hE2⟩:=out_ok ho;have hc2:w2.heap[cb]?=some (.cells #[.slice none 0 0] 35 (0,0)):=(hg.block cb hcl (by intro e;cases e;exact h1 rfl)).trans HC.out;obtain⟨c0,cz⟩:=blk_cell hc2;have d0:=c0 0;simp only [List.getElem?_toArray,List.getElem?_cons_zero] at d0;have HG:=Lib.hid hg;have HX:=Lib.hid hx;have HE2:=Lib.hid hE2;have HC2:=Lib.hid hc2;have hgl:=HE2.out.g_lt;clear hg hx hE2 hc2 c0 ho HR;go_wp2_with fail;refine bodyPost_end (v:=.tuple #[]) ?_ rfl ⟨rfl,HE2.out.set h1 h2 _ _,⟨#[.slice a n c],⟨a,n,c,rfl⟩,set_block_at HC2.out,?_⟩,HG.out.os,HG.out.tape,HG.out.output,by simp;exact HG.out.size,fun k hk h3 h4=>?_⟩
   ·simp [results,Tryz.results30,go_sem]
   ·exact (fCls x (.slice a n c)).kept _ _ _ (fun k hk _=>set_block_ne _ _ _ _ _ (by intro e;subst e;have hk:w.heap.size≤k:=hk;omega)) HX.out
   ·rw [set_block_ne _ _ _ _ _ h4];exact HG.out.block k hk (by intro e;cases e;exact h3 rfl)
theorem calls_Prog (args:Array Value)(w:World):(callFunc 30 args).run Tryz.prog w=.ok (.enter 30 args) w:=by simp [go_sem]
/-- How parse.Program ends. -/
def ProgOut (w:World)(r:Except (Nat×Nat) (List Cl))(e:Ending)(w':World):Prop:=Below w.heap.size w w'∧match r with
 | .error (p,er)=>e=.returned (.tuple #[.agg #[.slice none 0 0],.int .i64 (p:Int),.int .i64 (er:Int)])
 | .ok x=>∃ (a:Option Addr) (n c:Nat),e=.returned (.tuple #[.agg #[.slice a n c],.int .i64 0,.int .i64 0])∧(fCls x (.slice a n c)).holds (w.heap.size≤·) w'
set_option maxHeartbeats 1000000 in
theorem par_Program (s:ByteArray)(w:World)(hs:s.size≤maxLen)(hL:Laid w):Calls Tryz.prog 12 #[.string s] w (ProgOut w (programR s.data.toList)):=by
 obtain⟨R,hR⟩:∃ R,R=programR s.data.toList:=⟨_,rfl⟩;rw [← hR];unfold programR at hR;have HL:=Lib.hid hL;have HS:=Lib.hid hs;have HRR:=Lib.hid hR;clear hL hs hR;have hmf:∀ (fn:Fn) (first cap:Array Value) (w:World),(Instr.makeFunc fn first cap).run Tryz.prog w=.ok (.func fn first cap) w:=fun _ _ _ _=>rfl
 go_enter Tryz.func12,Tryz.ntmps12;go_wp2_with fail;refine (par_read (rule_Prog (w.heap.size+1)) calls_Prog s _ HS.out ((HL.out.alloc _).alloc _) (alloc_last _ _ _ (by simp))).mono ?_;rintro e w2 ⟨hg,ho⟩;have hb:=below_of_grown (w:=w) (((Below.refl w.heap.size w).alloc (Nat.le_refl _) _).alloc (by simp) _) hg (by omega);have hsz:=hg.size;simp only [World.size_alloc] at hsz;have hB:w2.heap[w.heap.size]?=some (.cells #[.slice none 0 0] 35 (0,0)):=(hg.block _ (by simp;omega) (by simp)).trans ((((Below.refl _ _).alloc (Nat.le_refl _) _).block w.heap.size (by simp)).trans (alloc_last _ _ _ rfl));obtain⟨bc,bf⟩:=blk_cell hB;have b0:=bc 0;simp only [List.getElem?_toArray,List.getElem?_cons_zero] at b0;have hbl:w.heap.size<w2.heap.size:=by omega
 have HB:=Lib.hid hb;have HRB:=Lib.hid hB;clear hg hb hB bc;cases hr:readR (fun ts=>programP ts 0) s.data.toList with
 | error x =>
   obtain⟨p,er⟩:=x;rw [hr] at ho;have hRR:=HRR.out;rw [hr] at hRR;subst ho;have her:=readR_err hr;have he0:((er:Int) != 0)=true:=by rw [bne,beq_eq_false_iff_ne.2 (by omega)];rfl
   have RR:=Lib.hid hRR;clear hr hRR HRR;go_wp2_with fail;refine bodyPost_ret (v:=.tuple #[.agg #[.slice none 0 0],.int .i64 (p:Int),.int .i64 (er:Int)]) ?_ rfl ⟨HB.out.setCell (by exact Nat.le_refl _) _,by rw [RR.out]⟩;simp [results,Tryz.results12,go_sem,b0]
 | ok x =>
   rw [hr] at ho;have hRR:=HRR.out;rw [hr] at hRR;obtain⟨rfl,⟨ts,j,hT,hsp,hj⟩,cs,⟨a,n,c,rfl⟩,hcb,hx⟩:=ho;obtain⟨xc,xf⟩:=blk_cell hcb;have x0:=xc 0;simp only [List.getElem?_toArray,List.getElem?_cons_zero] at x0;have hxl:w.heap.size+1<w2.heap.size:=by omega
   have hMB:∀ x'∈x,∀ y∈x'.methods,MeB y:=fun c hc m hm=>by
    have h1:=programP_dep hsp c hc m hm;have h2:=hT.len;exact⟨by have:=h1.1;omega,by have:=h1.2;omega⟩
   replace hx:(fCls x (.slice a n c)).holds (w.heap.size<·) w2:=(fCls x _).sub _ _ _ (fun g h1 _=>by simp at h1;omega) hx;replace hRR:R=if sourceLim x≠0 then .error (0,sourceLim x) else .ok x:=hRR
   obtain⟨d,hx⟩:=hx;have HX:=Lib.hid hx;have RR:=Lib.hid hRR;have HCB:=Lib.hid hcb;have HMB:=Lib.hid hMB;clear hr hRR HRR hx hcb hsp xc hMB;go_wp2_with fail;refine (par_sourceLimits d x _ _ _ _ (HX.out.sub (fun _ _ _=>trivial) (by omega) fun _ _ _=>IsCl.sub fun _ _ _=>trivial) HMB.out).mono ?_;rintro e w3 ⟨rfl,hb3⟩;have y0:=(blk_cell ((hb3.block _ hxl).trans HCB.out)).1 0;have z0:=(blk_cell ((hb3.block _ hbl).trans HRB.out)).1 0;have yf:=(blk_cell ((hb3.block _ hxl).trans HCB.out)).2;have zf:=(blk_cell ((hb3.block _ hbl).trans HRB.out)).2;simp only [List.getElem?_toArray,List.getElem?_cons_zero] at y0 z0;have hsz3:=hb3.size;have HB3:=Lib.hid (HB.out.trans (hb3.mono (by omega)));have HX3:Hid ((fCls x (.slice a n c)).holds (w.heap.size<·) w3):=(fCls x _).kept _ _ _ (.of_below hb3) ⟨d,HX.out⟩;have hl1:w.heap.size+1<w3.heap.size:=by omega
   have hl2:w.heap.size<w3.heap.size:=by omega
   clear hb3 HX HCB HRB HB b0 bf x0 xf
   by_cases h0:sourceLim x=0
   ·have hRR:=RR.out;rw [if_neg (fun h=>h h0)] at hRR;have RR2:=Lib.hid hRR;have hz1:(((sourceLim x:Nat):Int) != 0)=false:=by rw [h0];rfl
    clear hRR RR h0;go_wp2_with fail;refine bodyPost_ret (v:=.tuple #[.agg #[.slice a n c],.int .i64 0,.int .i64 0]) ?_ rfl ⟨HB3.out.setCell (by exact Nat.le_refl _) _,?_⟩
    ·simp [results,Tryz.results12,go_sem,z0]
    ·rw [RR2.out];refine⟨a,n,c,rfl,?_⟩;exact (fCls x _).sub _ _ _ (fun g h1 _=>by omega) ((fCls x _).kept _ _ _ (fun k hk _=>set_block_ne _ _ _ _ _ (by omega)) HX3.out)
   ·have hRR:=RR.out;rw [if_pos h0] at hRR;have RR2:=Lib.hid hRR;have hz1:(((sourceLim x:Nat):Int) != 0)=true:=by rw [bne,beq_eq_false_iff_ne.2 (by omega)];rfl
    clear hRR RR h0;go_wp2_with fail;refine bodyPost_ret (v:=.tuple #[.agg #[.slice none 0 0],.int .i64 0,.int .i64 (sourceLim x:Int)]) ?_ rfl ⟨HB3.out.setCell (by exact Nat.le_refl _) _,by rw [RR2.out];rfl⟩;simp [results,Tryz.results12,go_sem,z0]
end
section
open Lx
namespace Lx
/-- The texts that the reference asks for. -/
def kmList:List Bytes:=kwList++markList
/-- Tokens, as far as the reference's parser leans on them. -/
structure TWR (ts:List Tok):Prop where
 wf:TWF ts
 km:∀ i x,x∈kmList→isT ts i x=true→(tk ts i).kind=2∨(tk ts i).kind=4
 mks:∀ i x,x∈markList→isT ts i x=true→(tk ts i).kind=4
def TokG (t:Tok):Prop:=(t.kind=1∧isKeyword t.text=false∧∃ c r,t.text=c::r∧isLetter c=true)∨(t.kind=2∧isKeyword t.text=true)∨(t.kind=3∧∃ c r,t.text=c::r∧isDigit c=true)∨t.kind=4∨(t.kind=5∧t.text=[])
theorem take_cons {c:UInt8}{t:Bytes}{m:Nat}(h:0<m):∃ r,(c::t).take m=c::r:=by
 cases m with
 | zero=>omega
 | succ m=>exact⟨_,List.take_succ_cons⟩
theorem oneTok_g {c:UInt8}{t:Bytes}{k m n q:Nat}(h:oneTok (c::t)=.ok k m n):TokG ⟨k,q,(c::t).take m,n⟩:=by
 obtain⟨h0,_⟩:=oneTok_bounds h;obtain⟨r,hr⟩:=take_cons (c:=c) (t:=t) h0;simp only [oneTok] at h;split at h
 ·rename_i hc;simp only [wordTok] at h;split at h
  ·cases h
  ·cases h;cases hk:isKeyword ((c::t).take (spanOf isPart (c::t))) with
   | true=>exact .inr (.inl ⟨rfl,hk⟩)
   | false=>exact .inl ⟨rfl,hk,c,r,hr,hc⟩
 ·split at h
  ·rename_i hc;simp only [numTok] at h;split at h
   ·cases h
   ·split at h
    ·cases h
    ·cases h;exact .inr (.inr (.inl ⟨rfl,c,r,hr,hc⟩))
  ·simp only [markTok] at h;split at h
   ·cases h;exact .inr (.inr (.inr (.inl rfl)))
   ·cases h
theorem km_ne:∀ x∈kmList,x≠[]∧(isLetter (x.headD 0)=true→isKeyword x=true)∧isDigit (x.headD 0)=false:=by decide
theorem mk_kw:∀ x∈markList,isKeyword x=false∧x∈kmList:=by decide
theorem twr_of {l:Bytes}{ts:List Tok}(h:tokensOf l=.ok ts):TWR ts:=by
 have key:∀ i,TokG (tk ts i):=by
  intro i
  by_cases hi:i<ts.length
  ·rw [tk_get _ _ hi];obtain⟨_,h⟩:=tokensOf_len h;obtain⟨us,q,rfl,h1,_⟩:=toks_all TokG (fun k m n q c t ho=>oneTok_g ho) _ _ _ _ _ h;rcases List.mem_append.1 (List.getElem_mem hi) with hm | hm
   ·exact h1 _ hm
   ·simp only [List.mem_singleton] at hm;rw [hm];exact .inr (.inr (.inr (.inr ⟨rfl,rfl⟩)))
  ·have:tk ts i=⟨5,0,[],0⟩:=by simp [tk,List.getElem?_eq_none (by omega:ts.length≤i)]
   rw [this];exact .inr (.inr (.inr (.inr ⟨rfl,rfl⟩)))
 have km:∀ i x,x∈kmList→isT ts i x=true→((tk ts i).kind=2∧isKeyword x=true)∨(tk ts i).kind=4:=by
  intro i x hx ht;obtain⟨hn,hl,hd⟩:=km_ne x hx;unfold isT at ht;have ht:=eq_of_beq ht;rcases key i with⟨_,h2,c,r,h3,h4⟩ | ⟨h,h'⟩ | ⟨_,c,r,h3,h4⟩ | h | ⟨_,h⟩
  ·rw [ht] at h2 h3;rw [h3] at hl h2;rw [hl h4] at h2;cases h2
  ·rw [ht] at h';exact .inl ⟨h,h'⟩
  ·rw [ht] at h3;rw [h3] at hd;have:isDigit c=false:=hd;rw [h4] at this;cases this
  ·exact .inr h
  ·rw [ht] at h;exact (hn h).elim
 refine⟨twf_of h,fun i x hx ht=>?_,fun i x hx ht=>?_⟩
 ·rcases km i x hx ht with h | h
  ·exact .inl h.1
  ·exact .inr h
 ·obtain⟨h1,h2⟩:=mk_kw x hx;rcases km i x h2 ht with h | h
  ·rw [h1] at h;cases h.2
  ·exact h
theorem TWR.kt {ts:List Tok}(h:TWR ts):KT ts:=⟨fun i hk=>by
 constructor
 ·cases ho:opB ts i with
  | false=>rfl
  | true=>have:=h.km i [40] (by decide) ho;omega
 ·cases ho:clB ts i with
  | false=>rfl
  | true=>have:=h.km i [41] (by decide) ho;omega⟩
end Lx
end
set_option linter.unusedSimpArgs false
section
namespace Lx
mutual
def exSz:Ex→Nat
 | .mk _ _ _ _ ks=>exsSz ks+1
def exsSz:List Ex→Nat
 | []=>0
 | e::es=>exSz e+exsSz es
end
mutual
def stSz:St→Nat
 | .mk _ _ _ es b el=>exsSz es+stsSz b+stsSz el+1
def stsSz:List St→Nat
 | []=>0
 | s::l=>stSz s+stsSz l
end
theorem exSz_pos (e:Ex):0<exSz e:=by cases e;rw [exSz];omega
theorem stSz_pos (s:St):0<stSz s:=by cases s;rw [stSz];omega
theorem exsSz_mem {l:List Ex}{e:Ex}(h:e∈l):exSz e≤exsSz l:=by
 induction l with
 | nil=>cases h
 | cons x l ih =>
   simp only [exsSz];rcases List.mem_cons.1 h with rfl | h
   ·omega
   ·have:=ih h;omega
theorem stsSz_mem {l:List St}{e:St}(h:e∈l):stSz e≤stsSz l:=by
 induction l with
 | nil=>cases h
 | cons x l ih =>
   simp only [stsSz];rcases List.mem_cons.1 h with rfl | h
   ·omega
   ·have:=ih h;omega
section
variable {ts:List Tok}
def Siz (E:Nat→PR Ex):Prop:=∀ i e j,E i=.ok (e,j)→exSz e+i≤j
variable {E:Nat→PR Ex} (hE:Siz E)
include hE
omit hE
end
section
variable {ts:List Tok}
def MeZ (j:Nat)(m:Me):Prop:=stsSz m.body≤j∧m.params.length≤j
theorem MeZ.mono {j j':Nat}{m:Me}(h:MeZ j m)(hj:j≤j'):MeZ j' m:=⟨Nat.le_trans h.1 hj,Nat.le_trans h.2 hj⟩
end
end Lx
end
end Go.Proofs.YtmlafcimjhnhhaaGreatDoor
