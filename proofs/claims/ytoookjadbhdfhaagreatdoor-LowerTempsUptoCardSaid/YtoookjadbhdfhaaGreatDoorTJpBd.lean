/-
  Plain Lean: every expression yields one temporary, which one instruction defines; slots are defined only by copies and handlers.
-/
import Derived.Test.YtoookjadbhdfhaaGreatDoorTJpAr
import Derived.Test.YtoookjadbhdfhaaGreatDoorTJpBc
set_option linter.unusedSectionVars false
set_option linter.unusedSimpArgs false
set_option linter.unnecessarySimpa false
set_option linter.unusedVariables false
set_option linter.unusedSimpArgs false
set_option linter.unusedVariables false
namespace Go.Proofs.YtoookjadbhdfhaaGreatDoor
section
open Lx
namespace Lx
mutual
def wkE:Ex→Bool
 | .mk k n _ _ ks=>decide (1≤k∧k≤10) && kidsT k ks.length && wksE ks
def wksE:List Ex→Bool
 | []=>true
 | e::l=>wkE e && wksE l
end
mutual
def wkS:St→Bool
 | .mk k _ _ es b el=>shpE k es.length b.length el.length == 0 && wksE es && (!decide (k=9) || decide (kindAt es=9∨kindAt es=10)) && wksS b && wksS el
def wksS:List St→Bool
 | []=>true
 | s::l=>wkS s && wksS l
end
theorem wksE_get:∀ {l:List Ex} {i:Nat} {e:Ex},wksE l=true→l[i]?=some e→wkE e=true
 | [],i,e,_,h=>by simp at h
 | a::l,0,e,hw,h=>by
   simp only [wksE,Bool.and_eq_true] at hw;simp at h;subst h;exact hw.1
 | a::l,i+1,e,hw,h=>by
   simp only [wksE,Bool.and_eq_true] at hw;exact wksE_get hw.2 (by simpa using h)
/-- What an instruction does and what it defines. -/
def keyI (i:In):Int×Int:=(i.op,defI i)
def keys (b:Bl):List (Int×Int):=b.code.map keyI
def cpy (op:Int):Prop:=op=3∨op=15
structure TInv (S:List Fld) (b:Bl):Prop where
 sl:b.slots=S.length
 pre:b.vars.take S.length=S
 le:S.length≤b.vars.length
 ok:∀ p∈keys b,p.2<0∨(p.2<b.vars.length∧(p.2<S.length↔cpy p.1))
 one:∀ t:Nat,S.length≤t→t<b.vars.length→(keys b).countP (fun p=>p.2 == (t:Int))=1
 sc:∀ s∈b.scope,s<S.length
theorem keys_emit (b:Bl)(i:In):keys (emitB b i)=keys b++[keyI i]:=by
 unfold keys emitB;simp only [List.map_append,List.map_cons,List.map_nil];rfl
theorem keys_here (b:Bl)(i:Nat):keys (hereB b i)=keys b:=by
 unfold keys hereB;split
 ·rename_i x hx;simp only;rw [List.map_set];have e:keyI { x with goto:=(b.code.length:Int) }=keyI x:=rfl;rw [e];obtain⟨hl,hg⟩:=List.getElem?_eq_some_iff.1 hx;have:keyI x=(b.code.map keyI)[i]'(by simpa using hl):=by simp [hg]
  rw [this,List.set_getElem_self]
 ·rfl
/-- What a builder keeps. -/
structure Kept (b b':Bl):Prop where
 next:b'.next=b.next
 scope:b'.scope=b.scope
 handler:b'.handler=b.handler
 handlers:b'.handlers=b.handlers
theorem Kept.refl (b:Bl):Kept b b:=⟨rfl,rfl,rfl,rfl⟩
theorem Kept.trans {a b c:Bl}(h:Kept a b)(g:Kept b c):Kept a c:=⟨g.next.trans h.next,g.scope.trans h.scope,g.handler.trans h.handler,g.handlers.trans h.handlers⟩
theorem here_vars (b:Bl)(i:Nat):(hereB b i).vars=b.vars:=by unfold hereB;split <;> rfl
theorem here_slots (b:Bl)(i:Nat):(hereB b i).slots=b.slots:=by unfold hereB;split <;> rfl
theorem here_kept (b:Bl)(i:Nat):Kept b (hereB b i):=by unfold hereB;split <;> exact⟨rfl,rfl,rfl,rfl⟩
theorem here_len (b:Bl)(i:Nat):(hereB b i).code.length=b.code.length:=by unfold hereB;split <;> simp
variable {S:List Fld} {b:Bl}
theorem TInv.here (h:TInv S b)(i:Nat):TInv S (hereB b i) :=
 ⟨by rw [here_slots];exact h.sl,by rw [here_vars];exact h.pre,by rw [here_vars];exact h.le,by rw [keys_here,here_vars];exact h.ok,by rw [keys_here,here_vars];exact h.one,by rw [(here_kept b i).scope];exact h.sc⟩
theorem TInv.emit (h:TInv S b)(i:In)(hi:defI i<0∨(cpy i.op∧defI i<S.length)):TInv S (emitB b i):=by
 refine⟨h.sl,h.pre,h.le,?_,?_,h.sc⟩
 ·rw [keys_emit];intro p hp;rcases List.mem_append.1 hp with hp | hp
  ·exact h.ok p hp
  ·simp only [List.mem_singleton] at hp;subst hp;rcases hi with hi | ⟨h1,h2⟩
   ·exact .inl hi
   ·have:=h.le;exact .inr ⟨by show defI i<((emitB b i).vars.length:Int);simp only [emitB];omega,by simp only [keyI];exact⟨fun _=>h1,fun _=>h2⟩⟩
 ·intro t h1 h2;rw [keys_emit,List.countP_append,h.one t h1 h2,List.countP_singleton];have:((keyI i).2 == (t:Int))=false:=by
   simp only [keyI];have:defI i≠(t:Int):=by rcases hi with hi | ⟨_,hi⟩ <;> omega
   simpa using this
  simp [this]
theorem TInv.fresh (h:TInv S b):(keys b).countP (fun p=>p.2 == (b.vars.length:Int))=0:=by
 rw [List.countP_eq_zero];intro p hp he;have he':p.2=(b.vars.length:Int):=by simpa using he
 rcases h.ok p hp with h1 | ⟨h1,_⟩ <;> omega
theorem TInv.fin (h:TInv S b)(p:In×Bytes)(h1:hasD p.1.op=true)(h2:¬ cpy p.1.op):TInv S (finB b p).1:=by
 have hd:defI (setD p (b.vars.length:Int))=b.vars.length:=by simp only [defI,setD,h1,if_true]
 have hk:keys (finB b p).1=keys b++[(p.1.op,(b.vars.length:Int))]:=by
  show keys (emitB (tempB b p.2) _)=_
  rw [keys_emit]
  show keys b++[keyI (setD p (b.vars.length:Int))]=_
  unfold keyI;rw [hd];rfl
 have hv:(finB b p).1.vars=b.vars++[⟨tempN (b.vars.length-b.slots),p.2⟩]:=rfl;have hle:=h.le;refine⟨h.sl,?_,?_,?_,?_,h.sc⟩
 ·rw [hv,List.take_append_of_le_length hle];exact h.pre
 ·rw [hv,List.length_append];omega
 ·rw [hk,hv];intro q hq;simp only [List.length_append,List.length_cons,List.length_nil];rcases List.mem_append.1 hq with hq | hq
  ·rcases h.ok q hq with x | ⟨x,y⟩
   ·exact .inl x
   ·exact .inr ⟨by omega,y⟩
  ·simp only [List.mem_singleton] at hq;subst hq;exact .inr ⟨by simp only;omega,by simp only;exact⟨fun x=>by omega,fun x=>absurd x h2⟩⟩
 ·rw [hk,hv];intro t t1 t2;simp only [List.length_append,List.length_cons,List.length_nil] at t2;rw [List.countP_append,List.countP_singleton]
  by_cases he:t=b.vars.length
  ·subst he;rw [h.fresh];simp
  ·have:((b.vars.length:Int) == (t:Int))=false:=by
    have:¬ (b.vars.length:Int)=t:=by omega
    simpa using this
   rw [h.one t t1 (by omega)];simp [this]
theorem fin_kept (b:Bl)(p:In×Bytes):Kept b (finB b p).1:=⟨rfl,rfl,rfl,rfl⟩
theorem fin_len (b:Bl)(p:In×Bytes):(finB b p).1.vars.length=b.vars.length+1:=by simp [finB,emitB,tempB]
theorem ins_op (h:List Cd)(b:Bl)(k n:Int)(o m:Bytes)(ks:List Ex)(r:List Int):hasD (insB h b k n o m ks r).1.op=true∧¬ cpy (insB h b k n o m ks r).1.op:=by
 unfold insB cpy
 repeat' split
 all_goals exact⟨rfl,by simp⟩
theorem cnt_yld {k n:Int}{o m:Bytes}{ks:List Ex}(hk:kidsT k ks.length=true)(h34:¬ (k=3∨k=4)):yldE (.mk k n o m ks)=1+yldsE (cntB k n ks) ks:=by
 rw [yldE,if_neg h34]
 congr 1
 unfold cntB
 by_cases h:k=6∧(n=1∨n=2)∧ks[1]?.map (·.kind)=some 1
 ·rw [if_pos h,if_pos h]
 ·rw [if_neg h,if_neg h]
  by_cases h2:k=6∨k=8∨k=9∨k=10
  ·rw [if_pos h2]
  ·rw [if_neg h2];unfold kidsT at hk;rw [if_neg (by omega),if_neg (by omega),if_neg (by omega),if_neg (by omega)] at hk;have:ks=[]:=by simpa using hk
   subst this;rfl
mutual
theorem opB_T (h:List Cd):∀ (e:Ex) (b:Bl),wkE e=true→TInv S b→TInv S (opB h b e).1∧(opB h b e).1.vars.length=b.vars.length+yldE e∧Kept b (opB h b e).1
 | .mk k n o m ks,b,hw,hi=>by
   simp only [wkE,Bool.and_eq_true] at hw
   by_cases h3:k=3
   ·rw [opB,if_pos h3,yldE,if_pos (.inl h3)];exact⟨hi,rfl,.refl b⟩
   by_cases h4:k=4
   ·rw [opB,if_neg h3,if_pos h4,yldE,if_pos (.inr h4)];exact⟨hi,rfl,.refl b⟩
   obtain⟨a1,a2,a3⟩:=opsB_T h (cntB k n ks) ks b hw.2 hi;rw [opB,if_neg h3,if_neg h4,cnt_yld hw.1.2 (by omega)];obtain⟨o1,o2⟩:=ins_op h (opsB h (cntB k n ks) b ks).1 k n o m ks (opsB h (cntB k n ks) b ks).2;exact⟨a1.fin _ o1 o2,by rw [fin_len,a2];omega,a3.trans (fin_kept _ _)⟩
theorem opsB_T (h:List Cd):∀ (c:Nat) (l:List Ex) (b:Bl),wksE l=true→TInv S b→TInv S (opsB h c b l).1∧(opsB h c b l).1.vars.length=b.vars.length+yldsE c l∧Kept b (opsB h c b l).1
 | 0,[],b,_,hi=>by rw [opsB,yldsE];exact⟨hi,rfl,.refl b⟩
 | 0,e::l,b,_,hi=>by rw [opsB,yldsE];exact⟨hi,rfl,.refl b⟩
 | c+1,[],b,_,hi=>by
   rw [opsB,yldsE]
   ·exact⟨hi,rfl,.refl b⟩
   ·intro x;omega
 | c+1,e::l,b,hw,hi=>by
   simp only [wksE,Bool.and_eq_true] at hw;obtain⟨a1,a2,a3⟩:=opB_T h e b hw.1 hi;obtain⟨c1,c2,c3⟩:=opsB_T h c l _ hw.2 a1;rw [opsB,yldsE];exact⟨c1,by rw [c2,a2];omega,a3.trans c3⟩
end
/-! statements -/
/-- Declared names are counted. -/
theorem TInv.decl (hi:TInv S b)(hn:b.next<S.length):TInv S (declB b):=⟨hi.sl,hi.pre,hi.le,hi.ok,hi.one,fun s hs=>by
 simp only [declB] at hs;rcases List.mem_append.1 hs with hs | hs
 ·exact hi.sc s hs
 ·simp only [List.mem_singleton] at hs;subst hs;exact hn⟩
theorem TInv.cut (hi:TInv S b)(n:Nat):TInv S (cutB b n):=⟨hi.sl,hi.pre,hi.le,hi.ok,hi.one,fun s hs=>hi.sc s (List.mem_of_mem_take hs)⟩
theorem TInv.nxt (hi:TInv S b)(n:Nat):TInv S (nextB b n):=⟨hi.sl,hi.pre,hi.le,hi.ok,hi.one,hi.sc⟩
theorem TInv.hand (hi:TInv S b)(n:Int):TInv S (handB b n):=⟨hi.sl,hi.pre,hi.le,hi.ok,hi.one,hi.sc⟩
theorem TInv.hnd (hi:TInv S b):TInv S (hndB b):=⟨hi.sl,hi.pre,hi.le,hi.ok,hi.one,hi.sc⟩
theorem TInv.seth (hi:TInv S b)(i v:Nat):TInv S (setH b i v):=⟨hi.sl,hi.pre,hi.le,hi.ok,hi.one,hi.sc⟩
theorem slotB_lt (hi:TInv S b)(nm:Bytes):slotB b nm<S.length:=by
 unfold slotB;have aux:∀ (p:Nat→Bool),((match b.scope.reverse.find? p with | some s=>(s:Int) | none=>(-1:Int)):Int)<(S.length:Int):=by
  intro p;cases hf:b.scope.reverse.find? p with
  | none=>simp only;omega
  | some s =>
    have:=hi.sc s (by simpa using List.mem_of_find?_eq_some hf);simp only;omega
 exact aux _
theorem op0_T (h:List Cd){es:List Ex}(hw:wksE es=true){i:Nat}(hl:i<es.length)(hi:TInv S b):TInv S (op0B h b es i).1∧(op0B h b es i).1.vars.length=b.vars.length+yldE es[i]∧Kept b (op0B h b es i).1:=by
 unfold op0B;rw [List.getElem?_eq_getElem hl];exact opB_T h es[i] b (wksE_get hw (List.getElem?_eq_getElem hl)) hi
theorem def_neg (i:In)(h:hasD i.op=false):defI i<0:=by unfold defI;rw [h];simp
theorem sum_one {es:List Ex}(h:es.length=1):(es.map yldE).sum=yldE (es[0]'(by omega)):=by
 match es,h with
 | [e],_=>simp
theorem sum_two {es:List Ex}(h:es.length=2):(es.map yldE).sum=yldE (es[0]'(by omega))+yldE (es[1]'(by omega)):=by
 match es,h with
 | [e,f],_=>simp
/-- What a statement leaves. -/
structure SOut (S:List Fld) (b b':Bl) (y n:Nat):Prop where
 inv:TInv S b'
 len:b'.vars.length=b.vars.length+y
 next:b'.next≤b.next+n
theorem insE_T (h:List Cd)(e:Ex)(hw:wkE e=true)(hk:e.kind=9∨e.kind=10)(hi:TInv S b):TInv S (insE h b e).1∧((insE h b e).1.vars.length+1=b.vars.length+yldE e∧1≤yldE e)∧Kept b (insE h b e).1:=by
 cases e with
 | mk k n o m ks =>
   simp only [wkE,Bool.and_eq_true] at hw;simp only [Ex.kind] at hk;obtain⟨a1,a2,a3⟩:=opsB_T h (cntB k n ks) ks b hw.2 hi;have hy:=cnt_yld (n:=n) (o:=o) (m:=m) hw.1.2 (show ¬ (k=3∨k=4) by omega);refine⟨a1,⟨?_,by omega⟩,a3⟩
   show (opsB h (cntB k n ks) b ks).1.vars.length+1=_
   rw [a2,hy];omega
theorem shp_of {k:Int}{nm ty:Bytes}{es:List Ex}{bd el:List St}(hw:wkS (.mk k nm ty es bd el)=true):shpE k es.length bd.length el.length=0∧wksE es=true∧(k=9→kindAt es=9∨kindAt es=10)∧wksS bd=true∧wksS el=true:=by
 simp only [wkS,Bool.and_eq_true,beq_iff_eq,Bool.or_eq_true,Bool.not_eq_true',decide_eq_false_iff_not,decide_eq_true_eq] at hw;exact⟨hw.1.1.1.1,hw.1.1.1.2,fun h=>by rcases hw.1.1.2 with x | x;exact absurd h x;exact x,hw.1.2,hw.2⟩
theorem sim_T (h:List Cd){k:Int}{nm ty:Bytes}{es:List Ex}{bd el:List St}(hw:wkS (.mk k nm ty es bd el)=true)(h456:¬ (k=4∨k=5∨k=6))(hi:TInv S b)(hn:b.next+(locS (.mk k nm ty es bd el)).length≤S.length) :
  SOut S b (simB h b k nm es) (yldS (.mk k nm ty es bd el)) (locS (.mk k nm ty es bd el)).length:=by
 obtain⟨w1,w2,w3,-,-⟩:=shp_of hw;obtain⟨s1,s2,s3,s4,s5⟩:=shp_ok w1;have eb:bd=[]:=List.length_eq_zero_iff.1 (s4 h456);have ee:el=[]:=List.length_eq_zero_iff.1 (s5 (by omega));subst eb ee;have hloc:(locS (.mk k nm ty es [] [])).length=if k=1 then 1 else 0:=by
  simp only [locS,locsS,List.append_nil];rw [if_neg (by omega:¬ k=6)];split <;> rfl
 have hy:yldS (.mk k nm ty es [] [])=(es.map yldE).sum-(if k=9 then 1 else 0):=by simp [yldS,yldsS]
 rw [hloc] at hn ⊢;rw [hy];unfold simB
 by_cases k1:k=1
 ·rw [if_pos k1] at hn ⊢;rw [if_pos k1,if_neg (show ¬ k=9 by omega)]
  by_cases he:es=[]
  ·rw [if_pos he];subst he;exact⟨hi.decl (by omega),rfl,by simp [declB]⟩
  ·rw [if_neg he];have hl:es.length=1:=by
    have:=List.length_pos_iff.2 he;rw [if_neg (by omega),if_neg (by omega)] at s3;omega
   obtain⟨a1,a2,a3⟩:=op0_T h w2 (i:=0) (by omega) hi;have hnx:(op0B h b es 0).1.next<S.length:=by rw [a3.next];omega
   refine⟨(a1.decl hnx).emit _ (.inr ⟨.inl rfl,?_⟩),?_,?_⟩
   ·show ((op0B h b es 0).1.next:Int)<_
    omega
   ·show (op0B h b es 0).1.vars.length=_
    rw [a2,sum_one hl];rfl
   ·show (op0B h b es 0).1.next+1≤_
    rw [a3.next];omega
 rw [if_neg k1,if_neg k1]
 by_cases k2:k=2
 ·rw [if_pos k2,if_neg (show ¬ k=9 by omega)];have hl:es.length=1:=by
   rw [if_neg (by omega),if_neg (by omega)] at s2;rw [if_neg (by omega),if_neg (by omega)] at s3;omega
  obtain⟨a1,a2,a3⟩:=op0_T h w2 (i:=0) (by omega) hi;refine⟨a1.emit _ (.inr ⟨.inl rfl,slotB_lt a1 nm⟩),?_,?_⟩
  ·show (op0B h b es 0).1.vars.length=_
   rw [a2,sum_one hl];rfl
  ·show (op0B h b es 0).1.next≤_
   rw [a3.next];omega
 rw [if_neg k2]
 by_cases k3:k=3
 ·rw [if_pos k3,if_neg (show ¬ k=9 by omega)];have hl:es.length=2:=by
   rw [if_neg (by omega),if_pos k3] at s2;rw [if_neg (by omega),if_pos k3] at s3;omega
  obtain⟨a1,a2,a3⟩:=op0_T h w2 (i:=0) (by omega) hi;obtain⟨c1,c2,c3⟩:=op0_T h w2 (i:=1) (by omega) a1;refine⟨c1.emit _ (.inl (def_neg _ rfl)),?_,?_⟩
  ·show (op0B h (op0B h b es 0).1 es 1).1.vars.length=_
   rw [c2,a2,sum_two hl];omega
  ·show (op0B h (op0B h b es 0).1 es 1).1.next≤_
   rw [c3.next,a3.next];omega
 rw [if_neg k3]
 by_cases k7:k=7
 ·rw [if_pos k7,if_neg (show ¬ k=9 by omega)];have hl:es.length=1:=by
   rw [if_neg (by omega),if_neg (by omega)] at s2;rw [if_neg (by omega),if_neg (by omega)] at s3;omega
  obtain⟨a1,a2,a3⟩:=op0_T h w2 (i:=0) (by omega) hi;refine⟨a1.emit _ (.inl (def_neg _ rfl)),?_,?_⟩
  ·show (op0B h b es 0).1.vars.length=_
   rw [a2,sum_one hl];rfl
  ·show (op0B h b es 0).1.next≤_
   rw [a3.next];omega
 rw [if_neg k7]
 by_cases k8:k=8
 ·rw [if_pos k8,if_neg (show ¬ k=9 by omega)]
  by_cases he:es=[]
  ·rw [if_pos he];subst he;exact⟨hi.emit _ (.inl (def_neg _ rfl)),rfl,by simp [emitB]⟩
  ·rw [if_neg he];have hl:es.length=1:=by
    have:=List.length_pos_iff.2 he;rw [if_neg (by omega),if_neg (by omega)] at s3;omega
   obtain⟨a1,a2,a3⟩:=op0_T h w2 (i:=0) (by omega) hi;refine⟨a1.emit _ (.inl (def_neg _ rfl)),?_,?_⟩
   ·show (op0B h b es 0).1.vars.length=_
    rw [a2,sum_one hl];rfl
   ·show (op0B h b es 0).1.next≤_
    rw [a3.next];omega
 rw [if_neg k8];have k9:k=9:=by omega
 rw [if_pos k9];have hl:es.length=1:=by
  rw [if_neg (by omega),if_neg (by omega)] at s2;rw [if_neg (by omega),if_neg (by omega)] at s3;omega
 match es,hl with
 | [e],_ =>
   have hk:=w3 k9;simp only [kindAt,List.getElem?_cons_zero,Option.map_some,Option.getD_some] at hk;simp only [wksE,Bool.and_true] at w2;obtain⟨a1,a2,a3⟩:=insE_T h e w2 hk hi;simp only [List.getElem?_cons_zero];refine⟨a1.emit _ (.inl ?_),?_,?_⟩
   ·unfold defI setD;split <;> simp
   ·show (insE h b e).1.vars.length=_
    simp only [List.map_cons,List.map_nil,List.sum_cons,List.sum_nil];omega
   ·show (insE h b e).1.next≤_
    rw [a3.next];omega
theorem SOut.trans {c d:Bl}{y n y' n':Nat}(h:SOut S b c y n)(g:SOut S c d y' n'):SOut S b d (y+y') (n+n'):=⟨g.inv,by rw [g.len,h.len];omega,by have:=h.next;have:=g.next;omega⟩
theorem locs_len_cons (s:St)(l:List St):(locsS (s::l)).length=(locS s).length+(locsS l).length:=by simp [locsS]
theorem jmp_T (hi:TInv S b)(g:Int):TInv S (jmpB b g):=hi.emit _ (.inl (def_neg _ rfl))
theorem br_T (hi:TInv S b)(a:Int):TInv S (brB b a):=hi.emit _ (.inl (def_neg _ rfl))
theorem cat_T (hi:TInv S b)(ty:Bytes)(hn:b.next<S.length):TInv S (catB b ty):=(hi.decl hn).emit _ (.inr ⟨.inr rfl,by
 show (b.next:Int)<_
 omega⟩)
mutual
theorem stB_T (h:List Cd):∀ (s:St) (b:Bl),wkS s=true→TInv S b→b.next+(locS s).length≤S.length→SOut S b (stB h b s) (yldS s) (locS s).length
 | .mk k nm ty es bd el,b,hw,hi,hn=>by
   by_cases h456:k=4∨k=5∨k=6
   case neg =>
    rw [stB,if_neg (by omega),if_neg (by omega),if_neg (by omega)];exact sim_T h hw h456 hi hn
   obtain⟨w1,w2,w3,w4,w5⟩:=shp_of hw;obtain⟨s1,s2,s3,s4,s5⟩:=shp_ok w1
   by_cases k4:k=4
   ·have hl:es.length=1:=by
     rw [if_neg (by omega),if_neg (by omega)] at s2;rw [if_neg (by omega),if_neg (by omega)] at s3;omega
    have hloc:(locS (.mk k nm ty es bd el)).length=(locsS bd).length+(locsS el).length:=by
     rw [locS,if_neg (show ¬ k=1 by omega),if_neg (show ¬ k=6 by omega)];simp
    have hy:yldS (.mk k nm ty es bd el)=yldE (es[0]'(by omega))+yldsS bd+yldsS el:=by
     rw [yldS,if_neg (show ¬ k=9 by omega),sum_one hl];omega
    rw [hloc] at hn ⊢;rw [hy,stB,if_pos k4];obtain⟨a1,a2,a3⟩:=op0_T h w2 (i:=0) (by omega) hi;generalize hb1:(op0B h b es 0).1=b1 at a1 a2 a3;have n1:b1.next=b.next:=a3.next;have t2:=br_T a1 (op0B h b es 0).2;generalize hb2:brB b1 (op0B h b es 0).2=b2 at t2;have n2:b2.next=b1.next:=by rw [← hb2];rfl
    have v2:b2.vars=b1.vars:=by rw [← hb2];rfl
    have o3:=blB_T h el (nextB b2 (b2.next+(locsS bd).length)) w5 (t2.nxt _) (by show b2.next+(locsS bd).length+_≤_;omega);generalize hb3:blB h (nextB b2 (b2.next+(locsS bd).length)) el=b3 at o3;have n3:b3.next≤b2.next+(locsS bd).length+(locsS el).length:=o3.next;have l3:b3.vars.length=b2.vars.length+yldsS el:=o3.len;have t4:=jmp_T (o3.inv.cut b2.scope.length) 0;generalize hb4:jmpB (cutB b3 b2.scope.length) 0=b4 at t4;have v4:b4.vars=b3.vars:=by rw [← hb4];rfl
    have o5:=blB_T h bd (nextB (hereB b4 b1.code.length) b1.next) w4 ((t4.here _).nxt _) (by show b1.next+_≤_;omega);generalize hb5:blB h (nextB (hereB b4 b1.code.length) b1.next) bd=b5 at o5;have l5:b5.vars.length=b4.vars.length+yldsS bd:=by
     have:=o5.len;have e:(nextB (hereB b4 b1.code.length) b1.next).vars=b4.vars:=here_vars _ _;rw [e] at this;exact this
    simp only [hb1,hb2,hb3,hb4,hb5];refine⟨((o5.inv.cut _).nxt _).here _,?_,?_⟩
    ·rw [here_vars]
     show b5.vars.length=_
     rw [l5,v4,l3,v2,a2];omega
    ·rw [(here_kept _ _).next]
     show b3.next≤_
     omega
   by_cases k5:k=5
   ·have hl:es.length=1:=by
     rw [if_neg (by omega),if_neg (by omega)] at s2;rw [if_neg (by omega),if_neg (by omega)] at s3;omega
    have ee:el=[]:=List.length_eq_zero_iff.1 (s5 (by omega));subst ee;have hloc:(locS (.mk k nm ty es bd [])).length=(locsS bd).length:=by
     rw [locS,if_neg (show ¬ k=1 by omega),if_neg (show ¬ k=6 by omega)];simp [locsS]
    have hy:yldS (.mk k nm ty es bd [])=yldE (es[0]'(by omega))+yldsS bd:=by
     rw [yldS,if_neg (show ¬ k=9 by omega),sum_one hl];simp [yldsS]
    rw [hloc] at hn ⊢;rw [hy,stB,if_neg k4,if_pos k5];obtain⟨a1,a2,a3⟩:=op0_T h w2 (i:=0) (by omega) hi;generalize hb1:(op0B h b es 0).1=b1 at a1 a2 a3;have n1:b1.next=b.next:=a3.next;have t2:=jmp_T (br_T a1 (op0B h b es 0).2) 0;generalize hb2:jmpB (brB b1 (op0B h b es 0).2) 0=b2 at t2;have n2:b2.next=b1.next:=by rw [← hb2];rfl
    have v2:b2.vars=b1.vars:=by rw [← hb2];rfl
    have o3:=blB_T h bd (hereB b2 b1.code.length) w4 (t2.here _) (by rw [(here_kept _ _).next];omega);generalize hb3:blB h (hereB b2 b1.code.length) bd=b3 at o3;have n3:=o3.next;rw [(here_kept _ _).next] at n3;have l3:=o3.len;rw [here_vars] at l3;simp only [hb1,hb2,hb3];refine⟨(jmp_T (o3.inv.cut _) _).here _,?_,?_⟩
    ·rw [here_vars]
     show b3.vars.length=_
     rw [l3,v2,a2];omega
    ·rw [(here_kept _ _).next]
     show b3.next≤_
     omega
   ·have k6:k=6:=by omega
    have he:es=[]:=by
     rw [if_pos k6] at s3;exact List.length_eq_zero_iff.1 (by omega)
    subst he;have hloc:(locS (.mk k nm ty [] bd el)).length=(locsS bd).length+1+(locsS el).length:=by
     rw [locS,if_neg (show ¬ k=1 by omega),if_pos k6];simp;omega
    have hy:yldS (.mk k nm ty [] bd el)=yldsS bd+yldsS el:=by
     rw [yldS];simp
    rw [hloc] at hn ⊢;rw [hy,stB,if_neg k4,if_neg k5,if_pos k6];have o2:=blB_T h bd (handB (hndB b) b.handlers.length) w4 (hi.hnd.hand _) (by show b.next+_≤_;omega);generalize hb2:blB h (handB (hndB b) b.handlers.length) bd=b2 at o2;have n2:b2.next≤b.next+(locsS bd).length:=o2.next;have l2:b2.vars.length=b.vars.length+yldsS bd:=o2.len;have t3:=jmp_T ((o2.inv.cut (handB (hndB b) b.handlers.length).scope.length).hand b.handler) 0;generalize hb3:jmpB (handB (cutB b2 (handB (hndB b) b.handlers.length).scope.length) b.handler) 0=b3 at t3;have n3:b3.next=b2.next:=by rw [← hb3];rfl
    have v3:b3.vars=b2.vars:=by rw [← hb3];rfl
    have t4:=(cat_T t3 ty (by omega)).seth b.handlers.length b3.code.length;generalize hb4:setH (catB b3 ty) b.handlers.length b3.code.length=b4 at t4;have n4:b4.next=b3.next+1:=by rw [← hb4];rfl
    have v4:b4.vars=b3.vars:=by rw [← hb4];rfl
    have o5:=blB_T h el b4 w5 t4 (by omega);generalize hb5:blB h b4 el=b5 at o5;have n5:=o5.next;have l5:=o5.len;simp only [hb2,hb3,hb4,hb5];refine⟨((o5.inv.cut _).cut _).here _,?_,?_⟩
    ·rw [here_vars]
     show b5.vars.length=_
     rw [l5,v4,v3,l2];omega
    ·rw [(here_kept _ _).next]
     show b5.next≤_
     omega
theorem blB_T (h:List Cd):∀ (l:List St) (b:Bl),wksS l=true→TInv S b→b.next+(locsS l).length≤S.length→SOut S b (blB h b l) (yldsS l) (locsS l).length
 | [],b,_,hi,_=>by rw [blB,yldsS];exact⟨hi,rfl,by omega⟩
 | s::l,b,hw,hi,hn=>by
   simp only [wksS,Bool.and_eq_true] at hw;rw [locs_len_cons] at hn ⊢;have o1:=stB_T h s b hw.1 hi (by omega);have n1:=o1.next;have o2:=blB_T h l (stB h b s) hw.2 o1.inv (by omega);rw [blB,yldsS];exact o1.trans o2
end
/-! methods -/
theorem decN_T:∀ (n:Nat) (b:Bl),TInv S b→b.next+n≤S.length→TInv S (decN n b)∧(decN n b).next=b.next+n∧(decN n b).vars=b.vars
 | 0,b,hi,_=>⟨hi,rfl,rfl⟩
 | n+1,b,hi,hn=>by
   obtain⟨a,c,d⟩:=decN_T n (declB b) (hi.decl (by omega)) (by show b.next+1+n≤_;omega);rw [decN];exact⟨a,by rw [c];show b.next+1+n=_;omega,d⟩
theorem zBl_T (S:List Fld):TInv S (zBl S):=⟨rfl,List.take_length,Nat.le_refl _,by simp [keys,zBl],fun t h1 h2=>by simp only [zBl] at h2;omega,by simp [zBl]⟩
theorem end_T (hi:TInv S b)(res:Bytes):TInv S (endB b res)∧(endB b res).vars.length=b.vars.length+if res=[] then 0 else 1:=by
 unfold endB
 by_cases h1:res=[]
 ·rw [if_pos h1,if_pos h1];exact⟨hi.emit _ (.inl (def_neg _ rfl)),rfl⟩
 rw [if_neg h1,if_neg h1];have c:∀ (i:In) (t:Bytes) (a:Int),hasD i.op=true→¬ cpy i.op→TInv S (emitB (finB b (i,t)).1 { zIn with op:=13,a:=a })∧(emitB (finB b (i,t)).1 { zIn with op:=13,a:=a }).vars.length=b.vars.length+1:=fun i t a o1 o2 =>
  ⟨(hi.fin (i,t) o1 o2).emit _ (.inl (def_neg _ rfl)),fin_len b (i,t)⟩
 split
 ·exact c { zIn with op:=1 } intB _ rfl (by simp [cpy])
 ·exact c { zIn with op:=2 } nullB _ rfl (by simp [cpy])
theorem pat_key (hs:List Nat)(i:In):keyI (patB hs i)=keyI i:=by
 unfold patB;split <;> rfl
/-- The function of a method: its first variables are the slots; every further one is defined once, and by no copy. -/
theorem fun_T (h:List Cd)(cls:Bytes)(m:Me)(hw:wksS m.body=true) :
  (funB h cls m).vars.length=(slotsB cls m).length+yldsS m.body+(if m.result=[] then 0 else 1)∧(funB h cls m).vars.take (slotsB cls m).length=slotsB cls m ∧
  (∀ i∈(funB h cls m).code,defI i<0∨(defI i<(funB h cls m).vars.length∧(defI i<(slotsB cls m).length↔cpy i.op))) ∧
  ∀ t:Nat,(slotsB cls m).length≤t→t<(funB h cls m).vars.length→(funB h cls m).code.countP (fun i=>defI i == (t:Int))=1:=by
 have hlen:(slotsB cls m).length=(m.params.length+if m.static then 0 else 1)+(locsS m.body).length:=by
  unfold slotsB;cases m.static <;> simp <;> omega
 obtain⟨a1,a2,a3⟩:=decN_T (m.params.length+if m.static then 0 else 1) (zBl (slotsB cls m)) (zBl_T _) (by show 0+_≤_;omega);generalize hb0:decN (m.params.length+if m.static then 0 else 1) (zBl (slotsB cls m))=b0 at a1 a2 a3;have n0:b0.next=m.params.length+if m.static then 0 else 1:=by rw [a2];show 0+_=_;omega
 have o1:=blB_T h m.body b0 hw a1 (by omega);obtain⟨e1,e2⟩:=end_T (o1.inv.cut b0.scope.length) m.result;have hb:bodB h cls m=endB (cutB (blB h b0 m.body) b0.scope.length) m.result:=by
  unfold bodB;simp only [hb0]
 have hv:(cutB (blB h b0 m.body) b0.scope.length).vars.length=(slotsB cls m).length+yldsS m.body:=by
  have:=o1.len;rw [a3] at this;exact this
 rw [← hb] at e1 e2;have hk:(funB h cls m).code.map keyI=keys (bodB h cls m):=by
  show ((bodB h cls m).code.map (patB (bodB h cls m).handlers)).map keyI=_
  rw [List.map_map];exact List.map_congr_left fun i _=>pat_key _ i
 refine⟨by rw [← hv];exact e2,e1.pre,fun i hi=>?_,fun t h1 h2=>?_⟩
 ·exact e1.ok (keyI i) (by rw [← hk];exact List.mem_map_of_mem hi)
 ·have:=e1.one t h1 h2;rw [← hk,List.countP_map] at this;exact this
/-! well-typed trees are well-kept -/
theorem ok_of {α:Type}{t:Tk α}(h:isOk t=true):∃ x,t=.ok x:=by
 cases t with
 | error e=>cases h
 | ok x=>exact⟨x,rfl⟩
theorem sig_len {h:List Cd}{c m:Bytes}{st:Bool}{n:Nat}{g:Sg}(hs:sigT h c m st n=.ok g):n=g.params.length:=by
 unfold sigT at hs;split at hs
 ·cases hs
 ·split at hs
  ·split at hs
   ·rename_i hl;cases hs;exact hl
   ·cases hs
  ·cases hs
mutual
theorem exT9_wk (h:List Cd)(cls:Bytes)(sc:List Fld):∀ e:Ex,isOk (exT9 h cls sc e)=true→wkE e=true
 | .mk k n o m ks,hk=>by
   rw [exT9] at hk
   by_cases h1:k<1∨10<k
   ·rw [if_pos h1] at hk;cases hk
   rw [if_neg h1] at hk
   by_cases h2:k=6∧(n<1∨5<n)
   ·rw [if_pos h2] at hk;cases hk
   rw [if_neg h2] at hk
   by_cases h3:kidsT k ks.length=false
   ·rw [if_pos h3] at hk;cases hk
   rw [if_neg h3] at hk;have hkt:kidsT k ks.length=true:=by simpa using h3
   have fin:wksE ks=true→wkE (.mk k n o m ks)=true:=fun x=>by
    rw [wkE,hkt,x];have:1≤k∧k≤10:=by omega
    simp [this]
   by_cases h4:k=6∨k=8∨k=9∨k=10
   case neg =>
    unfold kidsT at hkt;rw [if_neg (by omega),if_neg (by omega),if_neg (by omega),if_neg (by omega)] at hkt;have:ks=[]:=by simpa using hkt
    subst this;exact fin rfl
   rw [if_neg (by omega),if_neg (by omega),if_neg (by omega),if_neg (by omega),if_neg (by omega)] at hk
   by_cases h6:k=6
   ·rw [if_pos h6] at hk;cases ht:tysT h cls sc ks with
    | error e=>rw [ht] at hk;simp [binOf,isOk] at hk
    | ok ts=>exact fin (tysT_wk h cls sc ks (by rw [ht];rfl))
   rw [if_neg h6] at hk
   by_cases h8:k=8
   ·rw [if_pos h8] at hk;cases ht:tysT h cls sc ks with
    | error e=>rw [ht] at hk;simp [fldOf,isOk] at hk
    | ok ts=>exact fin (tysT_wk h cls sc ks (by rw [ht];rfl))
   rw [if_neg h8] at hk
   by_cases h9:k=9
   ·rw [if_pos h9] at hk;exact fin (calT_wk h cls sc m ks hk)
   rw [if_neg h9] at hk;cases hc:needC h o 6 with
   | error e=>rw [hc] at hk;cases hk
   | ok x =>
     rw [hc] at hk;simp only at hk;cases hs:sigT h o m true ks.length with
     | error e=>rw [hs] at hk;cases hk
     | ok g =>
       rw [hs] at hk;simp only at hk;cases ha:argT h cls sc g.params ks with
       | error e=>rw [ha] at hk;cases hk
       | ok u=>exact fin (argT_wk h cls sc g.params ks (sig_len hs) (by rw [ha];rfl))
theorem tysT_wk (h:List Cd)(cls:Bytes)(sc:List Fld):∀ l:List Ex,isOk (tysT h cls sc l)=true→wksE l=true
 | [],_=>rfl
 | e::l,hk=>by
   rw [tysT] at hk;cases he:exT9 h cls sc e with
   | error x=>rw [he] at hk;cases hk
   | ok t =>
     rw [he] at hk;simp only at hk;cases hl:tysT h cls sc l with
     | error x=>rw [hl] at hk;cases hk
     | ok ts=>rw [wksE,exT9_wk h cls sc e (by rw [he];rfl),tysT_wk h cls sc l (by rw [hl];rfl)];rfl
theorem argT_wk (h:List Cd)(cls:Bytes)(sc:List Fld):∀ (ps:List Bytes) (l:List Ex),l.length=ps.length→isOk (argT h cls sc ps l)=true→wksE l=true
 | _,[],_,_=>rfl
 | [],e::l,hl,_=>by simp at hl
 | p::ps,e::l,hl,hk=>by
   rw [argT] at hk;cases ha:asgT h (exT9 h cls sc e) p with
   | error x=>rw [ha] at hk;cases hk
   | ok u =>
     rw [ha] at hk;simp only at hk;rw [wksE,exT9_wk h cls sc e (asg_ok (by rw [ha];rfl)),argT_wk h cls sc ps l (by simpa using hl) hk];rfl
theorem calT_wk (h:List Cd)(cls:Bytes)(sc:List Fld)(m:Bytes):∀ l:List Ex,isOk (calT h cls sc m l)=true→wksE l=true
 | [],hk=>rfl
 | e::l,hk=>by
   rw [calT] at hk;cases he:exT9 h cls sc e with
   | error x=>rw [he] at hk;cases hk
   | ok c =>
     rw [he] at hk;simp only at hk;split at hk
     ·cases hk
     ·cases hs:sigT h c m false l.length with
      | error x=>rw [hs] at hk;cases hk
      | ok g =>
        rw [hs] at hk;simp only at hk;cases ha:argT h cls sc g.params l with
        | error x=>rw [ha] at hk;cases hk
        | ok u=>rw [wksE,exT9_wk h cls sc e (by rw [he];rfl),argT_wk h cls sc g.params l (sig_len hs) (by rw [ha];rfl)];rfl
end
theorem wksE_of {h:List Cd}{c:Bytes}{sc:List Fld}:∀ {es:List Ex},(∀ i (hi:i<es.length),isOk (exT9 h c sc es[i])=true)→wksE es=true
 | [],_=>rfl
 | e::l,hk=>by
   rw [wksE,exT9_wk h c sc e (hk 0 (by simp)),wksE_of (es:=l) fun i hi=>hk (i+1) (by simp;omega)];rfl
mutual
theorem stT_wk (h:List Cd)(cls res:Bytes):∀ (s:St) (sc:List Fld),isOk (stT h cls res sc s)=true→wkS s=true
 | .mk k nm ty es b el,sc,hk=>by
   rw [stT] at hk
   by_cases hs:shpE k es.length b.length el.length=0
   case neg=>rw [if_pos hs] at hk;cases hk
   rw [if_neg (by simpa using hs)] at hk;obtain⟨s1,s2,s3,s4,s5⟩:=shp_ok hs;have fin:wksE es=true→(k=9→kindAt es=9∨kindAt es=10)→wksS b=true→wksS el=true→wkS (.mk k nm ty es b el)=true:=fun a c d e=>by
    rw [wkS,a,d,e,hs]
    by_cases h9:k=9
    ·have:=c h9;simp [this]
    ·simp [h9]
   by_cases h45:k=4∨k=5
   ·rw [if_pos h45] at hk;have hl:es.length=1:=by
     rw [if_neg (by omega),if_neg (by omega)] at s2;rw [if_neg (by omega),if_neg (by omega)] at s3;omega
    cases he:ex0T h cls sc es 0 with
    | error x=>rw [he] at hk;cases hk
    | ok t =>
      rw [he] at hk;simp only at hk;split at hk
      ·obtain⟨x,hx⟩:=ok_of hk;obtain⟨c1,c2⟩:=and_ok hx;obtain⟨c3,-⟩:=and_ok c2;obtain⟨h0,c4⟩:=ex0_ok (h:=h) (c:=cls) (sc:=sc) (es:=es) (i:=0) (by rw [he];rfl);exact fin (wksE_of fun i hi=>by
        obtain rfl:i=0:=by omega
        exact c4) (fun h9=>by omega) (blT_wk h cls res b sc c1) (blT_wk h cls res el sc c3)
      ·cases hk
   rw [if_neg h45] at hk
   by_cases h6:k=6
   ·rw [if_pos h6] at hk;have he:es=[]:=by
     rw [if_pos h6] at s3;exact List.length_eq_zero_iff.1 (by omega)
    subst he;obtain⟨x,hx⟩:=ok_of hk;obtain⟨-,c2⟩:=and_ok hx;obtain⟨c3,c4⟩:=and_ok c2;obtain⟨c5,-⟩:=and_ok c4;exact fin rfl (fun h9=>by omega) (blT_wk h cls res b sc c3) (blT_wk h cls res el _ c5)
   rw [if_neg h6] at hk;obtain⟨x,hx⟩:=ok_of hk;have hb:b=[]:=List.length_eq_zero_iff.1 (s4 (by omega));have he:el=[]:=List.length_eq_zero_iff.1 (s5 (by omega));subst hb he;have so:=sim_ok hx s1 h6 s2 s3 h45;refine fin (wksE_of so.1) (fun h9=>?_) rfl rfl;unfold simT at hx;rw [if_neg (by omega),if_neg (by omega),if_neg (by omega),if_neg (by omega),if_neg (by omega)] at hx;split at hx
   ·rename_i hq;exact hq
   ·cases hx
theorem blT_wk (h:List Cd)(cls res:Bytes):∀ (l:List St) (sc:List Fld),isOk (blT h cls res sc l)=true→wksS l=true
 | [],_,_=>rfl
 | s::l,sc,hk=>by
   rw [blT] at hk;cases hs:stT h cls res sc s with
   | error x=>rw [hs] at hk;cases hk
   | ok sc' =>
     rw [hs] at hk;rw [wksS,stT_wk h cls res s sc (by rw [hs];rfl),blT_wk h cls res l sc' hk];rfl
end
theorem meth_wk {h:List Cd}{c:Bytes}{m:Me}(hk:methE h c m=0):wksS m.body=true:=by
 unfold methE at hk;split at hk
 ·omega
 split at hk
 ·omega
 cases hp:parT [] m.params with
 | error e =>
   rw [hp] at hk;simp only at hk;subst hk;exact (parT_ne hp).elim
 | ok sc =>
   rw [hp] at hk;simp only at hk;cases hb:blT h (if m.static then [] else c) m.result sc m.body with
   | error e =>
     rw [hb] at hk;simp only at hk;subst hk;exact (blT_ne hb).elim
   | ok u=>exact blT_wk _ _ _ _ _ (by rw [hb];rfl)
theorem prog_meth {l:List Cl}(h0:progE l=0){c:Cl}(hc:c∈l){m:Me}(hm:m∈c.methods):methE (hiOf l) c.name m=0:=by
 unfold progE at h0
 by_cases h1:(checkF (hiOf l)).2≠0
 ·rw [if_pos h1] at h0;exact absurd h0 h1
 rw [if_neg h1] at h0;split at h0
 ·cases h0
 exact first0 (first0 h0 c hc) m hm
theorem prog_wk {l:List Cl}(h0:progE l=0){c:Cl}(hc:c∈l){m:Me}(hm:m∈c.methods):wksS m.body=true:=meth_wk (prog_meth h0 hc hm)
end Lx
end
section
open Lx
namespace Lx
/-- What is known of the code of a builder: O are the open handlers, J the jumps whose goal is not yet known. -/
structure CI (P9:Bytes→Prop) (P10:Bytes→Bytes→Prop) (O J:List Nat) (b:Bl):Prop where
 oin:∀ o∈O,o<b.handlers.length
 hd:b.handler=-1∨∃ o∈O,b.handler=(o:Int)
 han:∀ (k:Nat) (i:In),b.code[k]?=some i→i.han=-1∨(∃ o∈O,i.han=(o:Int))∨∃ (o c:Nat) (x:In),i.han=(o:Int)∧b.handlers[o]?=some c∧k<c∧b.code[c]?=some x∧x.op=15
 cat:∀ (k:Nat) (i:In),b.code[k]?=some i→i.op=15→∃ (j:Nat) (x:In),k=j+1∧b.code[j]?=some x∧x.op=12∧((k:Int)<x.goto∨j∈J)
 cal:∀ (k:Nat) (i:In),b.code[k]?=some i→(i.op=9→P9 i.cls)∧(i.op=10→P10 i.cls i.name)
section
variable {P9:Bytes→Prop} {P10:Bytes→Bytes→Prop} {O J:List Nat} {b:Bl}
theorem get_snoc {α:Type}{l:List α}{x y:α}{k:Nat}(h:(l++[x])[k]?=some y):l[k]?=some y∨(k=l.length∧y=x):=by
 by_cases hk:k<l.length
 ·rw [List.getElem?_append_left hk] at h;exact .inl h
 ·rw [List.getElem?_append_right (by omega)] at h;right
  by_cases h0:k-l.length=0
  ·rw [h0] at h;simp at h;exact⟨by omega,h.symm⟩
  ·obtain⟨q,hq⟩:∃ q,k-l.length=q+1:=⟨k-l.length-1,by omega⟩;rw [hq] at h;simp at h
theorem get_old {α:Type}{l:List α}{x y:α}{k:Nat}(h:l[k]?=some y):(l++[x])[k]?=some y:=by
 rw [List.getElem?_append_left (List.getElem?_eq_some_iff.1 h).1];exact h
theorem get_lt {α:Type}{l:List α}{y:α}{k:Nat}(h:l[k]?=some y):k<l.length:=(List.getElem?_eq_some_iff.1 h).1
theorem CI.emitX (hc:CI P9 P10 O J b)(i:In)(hq:i.op=15→∃ (j:Nat) (x:In),b.code.length=j+1∧b.code[j]?=some x∧x.op=12∧j∈J)(h9:i.op=9→P9 i.cls)(h10:i.op=10→P10 i.cls i.name):CI P9 P10 O J (emitB b i):=by
 refine⟨hc.oin,hc.hd,fun k x hx=>?_,fun k x hx ho=>?_,fun k x hx=>?_⟩
 ·rcases get_snoc hx with hx | ⟨rfl,rfl⟩
  ·rcases hc.han k x hx with a | a | ⟨o,c,y,a1,a2,a3,a4,a5⟩
   ·exact .inl a
   ·exact .inr (.inl a)
   ·exact .inr (.inr ⟨o,c,y,a1,a2,a3,get_old a4,a5⟩)
  ·rcases hc.hd with a | a
   ·exact .inl a
   ·exact .inr (.inl a)
 ·rcases get_snoc hx with hx | ⟨rfl,rfl⟩
  ·obtain⟨j,y,a1,a2,a3,a4⟩:=hc.cat k x hx ho;exact⟨j,y,a1,get_old a2,a3,a4⟩
  ·obtain⟨j,y,a1,a2,a3,a4⟩:=hq ho;exact⟨j,y,a1,get_old a2,a3,.inr a4⟩
 ·rcases get_snoc hx with hx | ⟨rfl,rfl⟩
  ·exact hc.cal k x hx
  ·exact⟨h9,h10⟩
theorem CI.emit (hc:CI P9 P10 O J b)(i:In)(hq:i.op≠15)(h9:i.op=9→P9 i.cls)(h10:i.op=10→P10 i.cls i.name):CI P9 P10 O J (emitB b i):=hc.emitX i (fun h=>absurd h hq) h9 h10
theorem CI.more (hc:CI P9 P10 O J b)(j:Nat):CI P9 P10 O (j::J) b:=⟨hc.oin,hc.hd,hc.han,fun k x hx ho=>by
 obtain⟨q,y,a1,a2,a3,a4⟩:=hc.cat k x hx ho;exact⟨q,y,a1,a2,a3,a4.imp id fun h=>List.mem_cons_of_mem _ h⟩,hc.cal⟩
theorem get_here {j k:Nat}{y:In}(h:(hereB b j).code[k]?=some y):∃ i,b.code[k]?=some i∧y.op=i.op∧y.han=i.han∧y.cls=i.cls∧y.name=i.name∧(k=j→y.goto=b.code.length)∧(k≠j→y.goto=i.goto):=by
 unfold hereB at h;cases hj:b.code[j]? with
 | none =>
   rw [hj] at h;exact⟨y,h,rfl,rfl,rfl,rfl,fun e=>(by subst e;simp only at h;rw [hj] at h;cases h),fun _=>rfl⟩
 | some x =>
   rw [hj] at h;simp only at h;rw [List.getElem?_set] at h
   by_cases e:j=k
   ·subst e;rw [if_pos rfl,if_pos (get_lt hj)] at h;cases h;exact⟨x,hj,rfl,rfl,rfl,rfl,fun _=>rfl,fun h=>absurd rfl h⟩
   ·rw [if_neg e] at h;exact⟨y,h,rfl,rfl,rfl,rfl,fun h=>absurd h.symm e,fun _=>rfl⟩
theorem here_get {j k:Nat}{i:In}(h:b.code[k]?=some i):∃ y,(hereB b j).code[k]?=some y∧y.op=i.op∧y.han=i.han∧(k=j→y.goto=b.code.length)∧(k≠j→y.goto=i.goto):=by
 have hk:=get_lt h;rw [← here_len b j] at hk;obtain⟨x,h1,h2,h3,_,_,h4,h5⟩:=get_here (b:=b) (j:=j) (List.getElem?_eq_getElem hk);rw [h] at h1;cases h1;exact⟨_,List.getElem?_eq_getElem hk,h2,h3,h4,h5⟩
theorem CI.here {j:Nat}(hc:CI P9 P10 O (j::J) b):CI P9 P10 O J (hereB b j):=by
 refine⟨by rw [(here_kept b j).handlers];exact hc.oin,by rw [(here_kept b j).handler];exact hc.hd,fun k x hx=>?_,fun k x hx ho=>?_,fun k x hx=>?_⟩
 ·obtain⟨i,a1,a2,a3,_⟩:=get_here hx;rw [a3,(here_kept b j).handlers];rcases hc.han k i a1 with a | a | ⟨o,c,y,c1,c2,c3,c4,c5⟩
  ·exact .inl a
  ·exact .inr (.inl a)
  ·obtain⟨z,d1,d2,_⟩:=here_get (j:=j) c4;exact .inr (.inr ⟨o,c,z,c1,c2,c3,d1,by rw [d2];exact c5⟩)
 ·obtain⟨i,a1,a2,_⟩:=get_here hx;obtain⟨q,y,c1,c2,c3,c4⟩:=hc.cat k i a1 (by rw [← a2];exact ho);obtain⟨z,d1,d2,d3,d4,d5⟩:=here_get (j:=j) c2;refine⟨q,z,c1,d1,by rw [d2];exact c3,?_⟩
  by_cases e:q=j
  ·have:=get_lt a1;rw [d4 e];exact .inl (by omega)
  ·rw [d5 e];rcases c4 with c4 | c4
   ·exact .inl c4
   ·rcases List.mem_cons.1 c4 with c4 | c4
    ·exact absurd c4 e
    ·exact .inr c4
 ·obtain⟨i,a1,a2,a3,a4,a5,_⟩:=get_here hx;rw [a2,a4,a5];exact hc.cal k i a1
theorem CI.here' (hc:CI P9 P10 O J b)(j:Nat):CI P9 P10 O J (hereB b j):=(hc.more j).here
theorem CI.decl (hc:CI P9 P10 O J b):CI P9 P10 O J (declB b):=⟨hc.oin,hc.hd,hc.han,hc.cat,hc.cal⟩
theorem CI.cut (hc:CI P9 P10 O J b)(n:Nat):CI P9 P10 O J (cutB b n):=⟨hc.oin,hc.hd,hc.han,hc.cat,hc.cal⟩
theorem CI.nxt (hc:CI P9 P10 O J b)(n:Nat):CI P9 P10 O J (nextB b n):=⟨hc.oin,hc.hd,hc.han,hc.cat,hc.cal⟩
theorem CI.tmp (hc:CI P9 P10 O J b)(t:Bytes):CI P9 P10 O J (tempB b t):=⟨hc.oin,hc.hd,hc.han,hc.cat,hc.cal⟩
theorem CI.hand (hc:CI P9 P10 O J b){n:Int}(h:n=-1∨∃ o∈O,n=(o:Int)):CI P9 P10 O J (handB b n):=⟨hc.oin,h,hc.han,hc.cat,hc.cal⟩
/-- A try begins. -/
theorem CI.enter (hc:CI P9 P10 O J b):CI P9 P10 (b.handlers.length::O) J (handB (hndB b) b.handlers.length):=by
 refine⟨fun o ho=>?_,.inr ⟨_,List.mem_cons_self,rfl⟩,fun k x hx=>?_,hc.cat,hc.cal⟩
 ·show o<(b.handlers++[0]).length
  rw [List.length_append];rcases List.mem_cons.1 ho with ho | ho
  ·subst ho;simp
  ·have:=hc.oin o ho;simp;omega
 ·rcases hc.han k x hx with a | ⟨o,a1,a2⟩ | ⟨o,c,y,a1,a2,a3⟩
  ·exact .inl a
  ·exact .inr (.inl ⟨o,List.mem_cons_of_mem _ a1,a2⟩)
  ·exact .inr (.inr ⟨o,c,y,a1,get_old a2,a3⟩)
/-- A handler is known: its catch is the last instruction. -/
theorem CI.close {w c:Nat}{x:In}(hc:CI P9 P10 (w::O) J b)(hw:w ∉ O)(hl:b.code.length=c+1)(hx:b.code[c]?=some x)(ho:x.op=15)(hh:x.han≠(w:Int))(hd:b.handler≠(w:Int)):CI P9 P10 O J (setH b w c):=by
 have hwl:=hc.oin w List.mem_cons_self;refine⟨fun o ho=>?_,?_,fun k y hy=>?_,hc.cat,hc.cal⟩
 ·show o<(b.handlers.set w c).length
  rw [List.length_set];exact hc.oin o (List.mem_cons_of_mem _ ho)
 ·rcases hc.hd with a | ⟨o,a1,a2⟩
  ·exact .inl a
  ·rcases List.mem_cons.1 a1 with a1 | a1
   ·subst a1;exact absurd a2 hd
   ·exact .inr ⟨o,a1,a2⟩
 ·have own:y.han=(w:Int)→k<c:=fun e=>by
   have:k<b.code.length:=get_lt hy;rcases Nat.lt_or_ge k c with h | h
   ·exact h
   ·obtain rfl:k=c:=by omega
    have hy':b.code[k]?=some y:=hy;rw [hx] at hy';cases hy';exact absurd e hh
  have mine:y.han=(w:Int)→y.han=-1∨(∃ o∈O,y.han=(o:Int))∨∃ (o c':Nat) (z:In),y.han=(o:Int)∧(setH b w c).handlers[o]?=some c'∧k<c'∧(setH b w c).code[c']?=some z∧z.op=15:=fun e =>
   .inr (.inr ⟨w,c,x,e,by show (b.handlers.set w c)[w]?=some c;rw [List.getElem?_set];simp [hwl],own e,hx,ho⟩)
  rcases hc.han k y hy with a | ⟨o,a1,a2⟩ | ⟨o,c',z,a1,a2,a3,a4,a5⟩
  ·exact .inl a
  ·rcases List.mem_cons.1 a1 with a1 | a1
   ·subst a1;exact mine a2
   ·exact .inr (.inl ⟨o,a1,a2⟩)
  ·by_cases e:o=w
   ·subst e;exact mine a1
   ·refine .inr (.inr ⟨o,c',z,a1,?_,a3,a4,a5⟩)
    show (b.handlers.set w c)[o]?=some c'
    rw [List.getElem?_set,if_neg (fun h=>e h.symm)];exact a2
end
/-! types of variables -/
def thisB:Bytes:=[116,104,105,115]
/-- Names that are declared: none twice, and none is that of the object. -/
def NS (sc:List Fld):Prop:=(sc.map (·.name)).Nodup∧∀ f∈sc,f.name≠thisB
theorem NS.same {sc:List Fld}(h:NS sc){f g:Fld}(hf:f∈sc)(hg:g∈sc)(e:f.name=g.name):f=g:=by
 obtain⟨h,-⟩:=h
 induction sc with
 | nil=>cases hf
 | cons a l ih =>
   rw [List.map_cons,List.nodup_cons] at h;rcases List.mem_cons.1 hf with e1 | f1 <;> rcases List.mem_cons.1 hg with e2 | g1
   ·rw [e1,e2]
   ·exact absurd (List.mem_map.2 ⟨g,g1,by rw [← e1];exact e.symm⟩) h.1
   ·exact absurd (List.mem_map.2 ⟨f,f1,by rw [← e2];exact e⟩) h.1
   ·exact ih f1 g1 h.2
theorem NS.snoc {sc:List Fld}(h:NS sc){f:Fld}(h1:varF sc f.name=none)(h2:f.name≠thisB):NS (sc++[f]):=by
 rw [varF_none] at h1;refine⟨?_,fun g hg=>?_⟩
 ·rw [List.map_append,List.nodup_append];refine⟨h.1,by simp,fun a ha b hb=>?_⟩;obtain⟨g,hg,rfl⟩:=List.mem_map.1 ha;simp only [List.map_cons,List.map_nil,List.mem_singleton] at hb;subst hb;exact h1 g hg
 ·rcases List.mem_append.1 hg with hg | hg
  ·exact h.2 g hg
  ·simp only [List.mem_singleton] at hg;subst hg;exact h2
/-- The slots in scope are the variables in scope. -/
structure VS (cls:Bytes) (T:List Fld) (sc:List Fld) (b:Bl):Prop where
 vs:b.scope.map (fun s=>b.vars[s]?)=(T++sc).map some
 this:∀ f∈T,f.name=thisB
 zero:cls≠[]→(b.vars[0]?).map (·.typ)=some cls
 ns:NS sc
/-- More variables. -/
def VX (b b':Bl):Prop:=Kept b b'∧∃ V,b'.vars=b.vars++V
theorem VX.refl (b:Bl):VX b b:=⟨.refl b,[],by simp⟩
theorem VX.trans {a b c:Bl}(h:VX a b)(g:VX b c):VX a c:=by
 obtain⟨h1,V,h2⟩:=h;obtain⟨g1,U,g2⟩:=g;exact⟨h1.trans g1,V++U,by rw [g2,h2,List.append_assoc]⟩
theorem VX.get {b b':Bl}(h:VX b b'){s:Nat}{f:Fld}(hs:b.vars[s]?=some f):b'.vars[s]?=some f:=by
 obtain⟨_,V,e⟩:=h;rw [e,List.getElem?_append_left (get_lt hs)];exact hs
section
variable {cls:Bytes} {T sc:List Fld} {b b':Bl}
theorem VS.mem (h:VS cls T sc b){s:Nat}(hs:s∈b.scope):∃ f∈T++sc,b.vars[s]?=some f:=by
 have:b.vars[s]?∈b.scope.map (fun s=>b.vars[s]?):=List.mem_map.2 ⟨s,hs,rfl⟩;rw [h.vs] at this;obtain⟨f,hf,e⟩:=List.mem_map.1 this;exact⟨f,hf,e.symm⟩
theorem VS.has (h:VS cls T sc b){f:Fld}(hf:f∈T++sc):∃ s∈b.scope,b.vars[s]?=some f:=by
 have:some f∈(T++sc).map some:=List.mem_map.2 ⟨f,hf,rfl⟩;rw [← h.vs] at this;obtain⟨s,hs,e⟩:=List.mem_map.1 this;exact⟨s,hs,e⟩
theorem VS.grow (h:VS cls T sc b)(g:VX b b'):VS cls T sc b':=by
 refine⟨?_,h.this,fun hc=>?_,h.ns⟩
 ·rw [g.1.scope,← h.vs];apply List.map_congr_left;intro s hs;obtain⟨f,_,hf⟩:=h.mem hs;rw [hf,g.get hf]
 ·have:=h.zero hc;cases hv:b.vars[0]? with
  | none=>rw [hv] at this;cases this
  | some f=>rw [g.get hv];rw [hv] at this;exact this
theorem VS.slot (h:VS cls T sc b){nm t:Bytes}(hv:varF sc nm=some t):∃ s:Nat,slotB b nm=s∧(b.vars[s]?).map (·.typ)=some t:=by
 unfold varF at hv;cases hf:sc.find? (fun f=>f.name == nm) with
 | none=>rw [hf] at hv;cases hv
 | some f =>
   rw [hf] at hv;simp only [Option.map_some,Option.some.injEq] at hv;have hfm:=List.mem_of_find?_eq_some hf;have hfn:f.name=nm:=by simpa using List.find?_some hf
   obtain⟨s0,hs0,he0⟩:=h.has (List.mem_append_right T hfm);unfold slotB;cases hq:b.scope.reverse.find? (fun s=>match b.vars[s]? with | some f=>f.name == nm | none=>false) with
   | none =>
     rw [List.find?_eq_none] at hq;have:=hq s0 (by simpa using hs0);rw [he0] at this;simp [hfn] at this
   | some s =>
     refine⟨s,rfl,?_⟩;have hp:=List.find?_some hq;obtain⟨g,hg,he⟩:=h.mem (by simpa using List.mem_of_find?_eq_some hq:s∈b.scope);rw [he] at hp;have hgn:g.name=nm:=by simpa using hp
     rw [he];rcases List.mem_append.1 hg with hg | hg
     ·exact absurd (by rw [hfn,← hgn];exact h.this g hg) (h.ns.2 f hfm)
     ·rw [h.ns.same hg hfm (by rw [hgn,hfn]),← hv];rfl
end
end Lx
end
end Go.Proofs.YtoookjadbhdfhaaGreatDoor
