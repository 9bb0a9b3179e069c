/-
  Plain Lean: every expression yields one temporary, which one instruction defines; slots are defined only by copies and handlers.
-/
import Derived.Test.YtoookjadbhdfhaaGreatDoorUJpAr
import Derived.Test.YtoookjadbhdfhaaGreatDoorUJpBc
set_option linter.unusedSectionVars false
set_option linter.unusedSimpArgs false
set_option linter.unnecessarySimpa false
set_option linter.unusedVariables false
set_option linter.unusedSimpArgs false
set_option linter.unusedVariables false
namespace Go.Proofs.YtoookjadbhdfhaaGreatDoor
section
open Lx
namespace Lx
/-- What an instruction does and what it defines. -/
def keyI (i:In):Int×Int:=(i.op,defI i)
def keys (b:Bl):List (Int×Int):=b.code.map keyI
def cpy (op:Int):Prop:=op=3∨op=15
structure TInv (S:List Fld) (b:Bl):Prop where
 sl:b.slots=S.length
 pre:b.vars.take S.length=S
 le:S.length≤b.vars.length
 ok:∀ p∈keys b,p.2<0∨(p.2<b.vars.length∧(p.2<S.length↔cpy p.1))
 one:∀ t:Nat,S.length≤t→t<b.vars.length→(keys b).countP (fun p=>p.2 == (t:Int))=1
 sc:∀ s∈b.scope,s<S.length
theorem keys_emit (b:Bl)(i:In):keys (emitB b i)=keys b++[keyI i]:=by
 unfold keys emitB;simp only [List.map_append,List.map_cons,List.map_nil];rfl
theorem keys_here (b:Bl)(i:Nat):keys (hereB b i)=keys b:=by
 unfold keys hereB;split
 ·rename_i x hx;simp only;rw [List.map_set];have e:keyI { x with goto:=(b.code.length:Int) }=keyI x:=rfl;rw [e];obtain⟨hl,hg⟩:=List.getElem?_eq_some_iff.1 hx;have:keyI x=(b.code.map keyI)[i]'(by simpa using hl):=by simp [hg]
  rw [this,List.set_getElem_self]
 ·rfl
/-- What a builder keeps. -/
structure Kept (b b':Bl):Prop where
 next:b'.next=b.next
 scope:b'.scope=b.scope
 handler:b'.handler=b.handler
 handlers:b'.handlers=b.handlers
theorem Kept.refl (b:Bl):Kept b b:=⟨rfl,rfl,rfl,rfl⟩
theorem Kept.trans {a b c:Bl}(h:Kept a b)(g:Kept b c):Kept a c:=⟨g.next.trans h.next,g.scope.trans h.scope,g.handler.trans h.handler,g.handlers.trans h.handlers⟩
theorem here_vars (b:Bl)(i:Nat):(hereB b i).vars=b.vars:=by unfold hereB;split <;> rfl
theorem here_slots (b:Bl)(i:Nat):(hereB b i).slots=b.slots:=by unfold hereB;split <;> rfl
theorem here_kept (b:Bl)(i:Nat):Kept b (hereB b i):=by unfold hereB;split <;> exact⟨rfl,rfl,rfl,rfl⟩
theorem here_len (b:Bl)(i:Nat):(hereB b i).code.length=b.code.length:=by unfold hereB;split <;> simp
variable {S:List Fld} {b:Bl}
theorem TInv.here (h:TInv S b)(i:Nat):TInv S (hereB b i) :=
 ⟨by rw [here_slots];exact h.sl,by rw [here_vars];exact h.pre,by rw [here_vars];exact h.le,by rw [keys_here,here_vars];exact h.ok,by rw [keys_here,here_vars];exact h.one,by rw [(here_kept b i).scope];exact h.sc⟩
theorem TInv.emit (h:TInv S b)(i:In)(hi:defI i<0∨(cpy i.op∧defI i<S.length)):TInv S (emitB b i):=by
 refine⟨h.sl,h.pre,h.le,?_,?_,h.sc⟩
 ·rw [keys_emit];intro p hp;rcases List.mem_append.1 hp with hp | hp
  ·exact h.ok p hp
  ·simp only [List.mem_singleton] at hp;subst hp;rcases hi with hi | ⟨h1,h2⟩
   ·exact .inl hi
   ·have:=h.le;exact .inr ⟨by show defI i<((emitB b i).vars.length:Int);simp only [emitB];omega,by simp only [keyI];exact⟨fun _=>h1,fun _=>h2⟩⟩
 ·intro t h1 h2;rw [keys_emit,List.countP_append,h.one t h1 h2,List.countP_singleton];have:((keyI i).2 == (t:Int))=false:=by
   simp only [keyI];have:defI i≠(t:Int):=by rcases hi with hi | ⟨_,hi⟩ <;> omega
   simpa using this
  simp [this]
theorem TInv.fresh (h:TInv S b):(keys b).countP (fun p=>p.2 == (b.vars.length:Int))=0:=by
 rw [List.countP_eq_zero];intro p hp he;have he':p.2=(b.vars.length:Int):=by simpa using he
 rcases h.ok p hp with h1 | ⟨h1,_⟩ <;> omega
theorem TInv.fin (h:TInv S b)(p:In×Bytes)(h1:hasD p.1.op=true)(h2:¬ cpy p.1.op):TInv S (finB b p).1:=by
 have hd:defI (setD p (b.vars.length:Int))=b.vars.length:=by simp only [defI,setD,h1,if_true]
 have hk:keys (finB b p).1=keys b++[(p.1.op,(b.vars.length:Int))]:=by
  show keys (emitB (tempB b p.2) _)=_
  rw [keys_emit]
  show keys b++[keyI (setD p (b.vars.length:Int))]=_
  unfold keyI;rw [hd];rfl
 have hv:(finB b p).1.vars=b.vars++[⟨tempN (b.vars.length-b.slots),p.2⟩]:=rfl;have hle:=h.le;refine⟨h.sl,?_,?_,?_,?_,h.sc⟩
 ·rw [hv,List.take_append_of_le_length hle];exact h.pre
 ·rw [hv,List.length_append];omega
 ·rw [hk,hv];intro q hq;simp only [List.length_append,List.length_cons,List.length_nil];rcases List.mem_append.1 hq with hq | hq
  ·rcases h.ok q hq with x | ⟨x,y⟩
   ·exact .inl x
   ·exact .inr ⟨by omega,y⟩
  ·simp only [List.mem_singleton] at hq;subst hq;exact .inr ⟨by simp only;omega,by simp only;exact⟨fun x=>by omega,fun x=>absurd x h2⟩⟩
 ·rw [hk,hv];intro t t1 t2;simp only [List.length_append,List.length_cons,List.length_nil] at t2;rw [List.countP_append,List.countP_singleton]
  by_cases he:t=b.vars.length
  ·subst he;rw [h.fresh];simp
  ·have:((b.vars.length:Int) == (t:Int))=false:=by
    have:¬ (b.vars.length:Int)=t:=by omega
    simpa using this
   rw [h.one t t1 (by omega)];simp [this]
/-! statements -/
/-- Declared names are counted. -/
theorem TInv.decl (hi:TInv S b)(hn:b.next<S.length):TInv S (declB b):=⟨hi.sl,hi.pre,hi.le,hi.ok,hi.one,fun s hs=>by
 simp only [declB] at hs;rcases List.mem_append.1 hs with hs | hs
 ·exact hi.sc s hs
 ·simp only [List.mem_singleton] at hs;subst hs;exact hn⟩
theorem TInv.cut (hi:TInv S b)(n:Nat):TInv S (cutB b n):=⟨hi.sl,hi.pre,hi.le,hi.ok,hi.one,fun s hs=>hi.sc s (List.mem_of_mem_take hs)⟩
theorem TInv.nxt (hi:TInv S b)(n:Nat):TInv S (nextB b n):=⟨hi.sl,hi.pre,hi.le,hi.ok,hi.one,hi.sc⟩
theorem TInv.hand (hi:TInv S b)(n:Int):TInv S (handB b n):=⟨hi.sl,hi.pre,hi.le,hi.ok,hi.one,hi.sc⟩
theorem TInv.hnd (hi:TInv S b):TInv S (hndB b):=⟨hi.sl,hi.pre,hi.le,hi.ok,hi.one,hi.sc⟩
/-- What a statement leaves. -/
structure SOut (S:List Fld) (b b':Bl) (y n:Nat):Prop where
 inv:TInv S b'
 len:b'.vars.length=b.vars.length+y
 next:b'.next≤b.next+n
theorem SOut.trans {c d:Bl}{y n y' n':Nat}(h:SOut S b c y n)(g:SOut S c d y' n'):SOut S b d (y+y') (n+n'):=⟨g.inv,by rw [g.len,h.len];omega,by have:=h.next;have:=g.next;omega⟩
/-! well-typed trees are well-kept -/
theorem ok_of {α:Type}{t:Tk α}(h:isOk t=true):∃ x,t=.ok x:=by
 cases t with
 | error e=>cases h
 | ok x=>exact⟨x,rfl⟩
theorem sig_len {h:List Cd}{c m:Bytes}{st:Bool}{n:Nat}{g:Sg}(hs:sigT h c m st n=.ok g):n=g.params.length:=by
 unfold sigT at hs;split at hs
 ·cases hs
 ·split at hs
  ·split at hs
   ·rename_i hl;cases hs;exact hl
   ·cases hs
  ·cases hs
theorem prog_meth {l:List Cl}(h0:progE l=0){c:Cl}(hc:c∈l){m:Me}(hm:m∈c.methods):methE (hiOf l) c.name m=0:=by
 unfold progE at h0
 by_cases h1:(checkF (hiOf l)).2≠0
 ·rw [if_pos h1] at h0;exact absurd h0 h1
 rw [if_neg h1] at h0;split at h0
 ·cases h0
 exact first0 (first0 h0 c hc) m hm
end Lx
end
section
open Lx
namespace Lx
/-- What is known of the code of a builder: O are the open handlers, J the jumps whose goal is not yet known. -/
structure CI (P9:Bytes→Prop) (P10:Bytes→Bytes→Prop) (O J:List Nat) (b:Bl):Prop where
 oin:∀ o∈O,o<b.handlers.length
 hd:b.handler=-1∨∃ o∈O,b.handler=(o:Int)
 han:∀ (k:Nat) (i:In),b.code[k]?=some i→i.han=-1∨(∃ o∈O,i.han=(o:Int))∨∃ (o c:Nat) (x:In),i.han=(o:Int)∧b.handlers[o]?=some c∧k<c∧b.code[c]?=some x∧x.op=15
 cat:∀ (k:Nat) (i:In),b.code[k]?=some i→i.op=15→∃ (j:Nat) (x:In),k=j+1∧b.code[j]?=some x∧x.op=12∧((k:Int)<x.goto∨j∈J)
 cal:∀ (k:Nat) (i:In),b.code[k]?=some i→(i.op=9→P9 i.cls)∧(i.op=10→P10 i.cls i.name)
section
variable {P9:Bytes→Prop} {P10:Bytes→Bytes→Prop} {O J:List Nat} {b:Bl}
theorem get_snoc {α:Type}{l:List α}{x y:α}{k:Nat}(h:(l++[x])[k]?=some y):l[k]?=some y∨(k=l.length∧y=x):=by
 by_cases hk:k<l.length
 ·rw [List.getElem?_append_left hk] at h;exact .inl h
 ·rw [List.getElem?_append_right (by omega)] at h;right
  by_cases h0:k-l.length=0
  ·rw [h0] at h;simp at h;exact⟨by omega,h.symm⟩
  ·obtain⟨q,hq⟩:∃ q,k-l.length=q+1:=⟨k-l.length-1,by omega⟩;rw [hq] at h;simp at h
theorem get_old {α:Type}{l:List α}{x y:α}{k:Nat}(h:l[k]?=some y):(l++[x])[k]?=some y:=by
 rw [List.getElem?_append_left (List.getElem?_eq_some_iff.1 h).1];exact h
theorem get_lt {α:Type}{l:List α}{y:α}{k:Nat}(h:l[k]?=some y):k<l.length:=(List.getElem?_eq_some_iff.1 h).1
theorem CI.emitX (hc:CI P9 P10 O J b)(i:In)(hq:i.op=15→∃ (j:Nat) (x:In),b.code.length=j+1∧b.code[j]?=some x∧x.op=12∧j∈J)(h9:i.op=9→P9 i.cls)(h10:i.op=10→P10 i.cls i.name):CI P9 P10 O J (emitB b i):=by
 refine⟨hc.oin,hc.hd,fun k x hx=>?_,fun k x hx ho=>?_,fun k x hx=>?_⟩
 ·rcases get_snoc hx with hx | ⟨rfl,rfl⟩
  ·rcases hc.han k x hx with a | a | ⟨o,c,y,a1,a2,a3,a4,a5⟩
   ·exact .inl a
   ·exact .inr (.inl a)
   ·exact .inr (.inr ⟨o,c,y,a1,a2,a3,get_old a4,a5⟩)
  ·rcases hc.hd with a | a
   ·exact .inl a
   ·exact .inr (.inl a)
 ·rcases get_snoc hx with hx | ⟨rfl,rfl⟩
  ·obtain⟨j,y,a1,a2,a3,a4⟩:=hc.cat k x hx ho;exact⟨j,y,a1,get_old a2,a3,a4⟩
  ·obtain⟨j,y,a1,a2,a3,a4⟩:=hq ho;exact⟨j,y,a1,get_old a2,a3,.inr a4⟩
 ·rcases get_snoc hx with hx | ⟨rfl,rfl⟩
  ·exact hc.cal k x hx
  ·exact⟨h9,h10⟩
theorem CI.emit (hc:CI P9 P10 O J b)(i:In)(hq:i.op≠15)(h9:i.op=9→P9 i.cls)(h10:i.op=10→P10 i.cls i.name):CI P9 P10 O J (emitB b i):=hc.emitX i (fun h=>absurd h hq) h9 h10
theorem CI.more (hc:CI P9 P10 O J b)(j:Nat):CI P9 P10 O (j::J) b:=⟨hc.oin,hc.hd,hc.han,fun k x hx ho=>by
 obtain⟨q,y,a1,a2,a3,a4⟩:=hc.cat k x hx ho;exact⟨q,y,a1,a2,a3,a4.imp id fun h=>List.mem_cons_of_mem _ h⟩,hc.cal⟩
theorem get_here {j k:Nat}{y:In}(h:(hereB b j).code[k]?=some y):∃ i,b.code[k]?=some i∧y.op=i.op∧y.han=i.han∧y.cls=i.cls∧y.name=i.name∧(k=j→y.goto=b.code.length)∧(k≠j→y.goto=i.goto):=by
 unfold hereB at h;cases hj:b.code[j]? with
 | none =>
   rw [hj] at h;exact⟨y,h,rfl,rfl,rfl,rfl,fun e=>(by subst e;simp only at h;rw [hj] at h;cases h),fun _=>rfl⟩
 | some x =>
   rw [hj] at h;simp only at h;rw [List.getElem?_set] at h
   by_cases e:j=k
   ·subst e;rw [if_pos rfl,if_pos (get_lt hj)] at h;cases h;exact⟨x,hj,rfl,rfl,rfl,rfl,fun _=>rfl,fun h=>absurd rfl h⟩
   ·rw [if_neg e] at h;exact⟨y,h,rfl,rfl,rfl,rfl,fun h=>absurd h.symm e,fun _=>rfl⟩
theorem here_get {j k:Nat}{i:In}(h:b.code[k]?=some i):∃ y,(hereB b j).code[k]?=some y∧y.op=i.op∧y.han=i.han∧(k=j→y.goto=b.code.length)∧(k≠j→y.goto=i.goto):=by
 have hk:=get_lt h;rw [← here_len b j] at hk;obtain⟨x,h1,h2,h3,_,_,h4,h5⟩:=get_here (b:=b) (j:=j) (List.getElem?_eq_getElem hk);rw [h] at h1;cases h1;exact⟨_,List.getElem?_eq_getElem hk,h2,h3,h4,h5⟩
theorem CI.here {j:Nat}(hc:CI P9 P10 O (j::J) b):CI P9 P10 O J (hereB b j):=by
 refine⟨by rw [(here_kept b j).handlers];exact hc.oin,by rw [(here_kept b j).handler];exact hc.hd,fun k x hx=>?_,fun k x hx ho=>?_,fun k x hx=>?_⟩
 ·obtain⟨i,a1,a2,a3,_⟩:=get_here hx;rw [a3,(here_kept b j).handlers];rcases hc.han k i a1 with a | a | ⟨o,c,y,c1,c2,c3,c4,c5⟩
  ·exact .inl a
  ·exact .inr (.inl a)
  ·obtain⟨z,d1,d2,_⟩:=here_get (j:=j) c4;exact .inr (.inr ⟨o,c,z,c1,c2,c3,d1,by rw [d2];exact c5⟩)
 ·obtain⟨i,a1,a2,_⟩:=get_here hx;obtain⟨q,y,c1,c2,c3,c4⟩:=hc.cat k i a1 (by rw [← a2];exact ho);obtain⟨z,d1,d2,d3,d4,d5⟩:=here_get (j:=j) c2;refine⟨q,z,c1,d1,by rw [d2];exact c3,?_⟩
  by_cases e:q=j
  ·have:=get_lt a1;rw [d4 e];exact .inl (by omega)
  ·rw [d5 e];rcases c4 with c4 | c4
   ·exact .inl c4
   ·rcases List.mem_cons.1 c4 with c4 | c4
    ·exact absurd c4 e
    ·exact .inr c4
 ·obtain⟨i,a1,a2,a3,a4,a5,_⟩:=get_here hx;rw [a2,a4,a5];exact hc.cal k i a1
theorem CI.here' (hc:CI P9 P10 O J b)(j:Nat):CI P9 P10 O J (hereB b j):=(hc.more j).here
theorem CI.decl (hc:CI P9 P10 O J b):CI P9 P10 O J (declB b):=⟨hc.oin,hc.hd,hc.han,hc.cat,hc.cal⟩
theorem CI.cut (hc:CI P9 P10 O J b)(n:Nat):CI P9 P10 O J (cutB b n):=⟨hc.oin,hc.hd,hc.han,hc.cat,hc.cal⟩
theorem CI.nxt (hc:CI P9 P10 O J b)(n:Nat):CI P9 P10 O J (nextB b n):=⟨hc.oin,hc.hd,hc.han,hc.cat,hc.cal⟩
theorem CI.tmp (hc:CI P9 P10 O J b)(t:Bytes):CI P9 P10 O J (tempB b t):=⟨hc.oin,hc.hd,hc.han,hc.cat,hc.cal⟩
theorem CI.hand (hc:CI P9 P10 O J b){n:Int}(h:n=-1∨∃ o∈O,n=(o:Int)):CI P9 P10 O J (handB b n):=⟨hc.oin,h,hc.han,hc.cat,hc.cal⟩
/-- A try begins. -/
theorem CI.enter (hc:CI P9 P10 O J b):CI P9 P10 (b.handlers.length::O) J (handB (hndB b) b.handlers.length):=by
 refine⟨fun o ho=>?_,.inr ⟨_,List.mem_cons_self,rfl⟩,fun k x hx=>?_,hc.cat,hc.cal⟩
 ·show o<(b.handlers++[0]).length
  rw [List.length_append];rcases List.mem_cons.1 ho with ho | ho
  ·subst ho;simp
  ·have:=hc.oin o ho;simp;omega
 ·rcases hc.han k x hx with a | ⟨o,a1,a2⟩ | ⟨o,c,y,a1,a2,a3⟩
  ·exact .inl a
  ·exact .inr (.inl ⟨o,List.mem_cons_of_mem _ a1,a2⟩)
  ·exact .inr (.inr ⟨o,c,y,a1,get_old a2,a3⟩)
/-- A handler is known: its catch is the last instruction. -/
theorem CI.close {w c:Nat}{x:In}(hc:CI P9 P10 (w::O) J b)(hw:w ∉ O)(hl:b.code.length=c+1)(hx:b.code[c]?=some x)(ho:x.op=15)(hh:x.han≠(w:Int))(hd:b.handler≠(w:Int)):CI P9 P10 O J (setH b w c):=by
 have hwl:=hc.oin w List.mem_cons_self;refine⟨fun o ho=>?_,?_,fun k y hy=>?_,hc.cat,hc.cal⟩
 ·show o<(b.handlers.set w c).length
  rw [List.length_set];exact hc.oin o (List.mem_cons_of_mem _ ho)
 ·rcases hc.hd with a | ⟨o,a1,a2⟩
  ·exact .inl a
  ·rcases List.mem_cons.1 a1 with a1 | a1
   ·subst a1;exact absurd a2 hd
   ·exact .inr ⟨o,a1,a2⟩
 ·have own:y.han=(w:Int)→k<c:=fun e=>by
   have:k<b.code.length:=get_lt hy;rcases Nat.lt_or_ge k c with h | h
   ·exact h
   ·obtain rfl:k=c:=by omega
    have hy':b.code[k]?=some y:=hy;rw [hx] at hy';cases hy';exact absurd e hh
  have mine:y.han=(w:Int)→y.han=-1∨(∃ o∈O,y.han=(o:Int))∨∃ (o c':Nat) (z:In),y.han=(o:Int)∧(setH b w c).handlers[o]?=some c'∧k<c'∧(setH b w c).code[c']?=some z∧z.op=15:=fun e =>
   .inr (.inr ⟨w,c,x,e,by show (b.handlers.set w c)[w]?=some c;rw [List.getElem?_set];simp [hwl],own e,hx,ho⟩)
  rcases hc.han k y hy with a | ⟨o,a1,a2⟩ | ⟨o,c',z,a1,a2,a3,a4,a5⟩
  ·exact .inl a
  ·rcases List.mem_cons.1 a1 with a1 | a1
   ·subst a1;exact mine a2
   ·exact .inr (.inl ⟨o,a1,a2⟩)
  ·by_cases e:o=w
   ·subst e;exact mine a1
   ·refine .inr (.inr ⟨o,c',z,a1,?_,a3,a4,a5⟩)
    show (b.handlers.set w c)[o]?=some c'
    rw [List.getElem?_set,if_neg (fun h=>e h.symm)];exact a2
end
/-! types of variables -/
def thisB:Bytes:=[116,104,105,115]
/-- Names that are declared: none twice, and none is that of the object. -/
def NS (sc:List Fld):Prop:=(sc.map (·.name)).Nodup∧∀ f∈sc,f.name≠thisB
theorem NS.same {sc:List Fld}(h:NS sc){f g:Fld}(hf:f∈sc)(hg:g∈sc)(e:f.name=g.name):f=g:=by
 obtain⟨h,-⟩:=h
 induction sc with
 | nil=>cases hf
 | cons a l ih =>
   rw [List.map_cons,List.nodup_cons] at h;rcases List.mem_cons.1 hf with e1 | f1 <;> rcases List.mem_cons.1 hg with e2 | g1
   ·rw [e1,e2]
   ·exact absurd (List.mem_map.2 ⟨g,g1,by rw [← e1];exact e.symm⟩) h.1
   ·exact absurd (List.mem_map.2 ⟨f,f1,by rw [← e2];exact e⟩) h.1
   ·exact ih f1 g1 h.2
theorem NS.snoc {sc:List Fld}(h:NS sc){f:Fld}(h1:varF sc f.name=none)(h2:f.name≠thisB):NS (sc++[f]):=by
 rw [varF_none] at h1;refine⟨?_,fun g hg=>?_⟩
 ·rw [List.map_append,List.nodup_append];refine⟨h.1,by simp,fun a ha b hb=>?_⟩;obtain⟨g,hg,rfl⟩:=List.mem_map.1 ha;simp only [List.map_cons,List.map_nil,List.mem_singleton] at hb;subst hb;exact h1 g hg
 ·rcases List.mem_append.1 hg with hg | hg
  ·exact h.2 g hg
  ·simp only [List.mem_singleton] at hg;subst hg;exact h2
/-- The slots in scope are the variables in scope. -/
structure VS (cls:Bytes) (T:List Fld) (sc:List Fld) (b:Bl):Prop where
 vs:b.scope.map (fun s=>b.vars[s]?)=(T++sc).map some
 this:∀ f∈T,f.name=thisB
 zero:cls≠[]→(b.vars[0]?).map (·.typ)=some cls
 ns:NS sc
/-- More variables. -/
def VX (b b':Bl):Prop:=Kept b b'∧∃ V,b'.vars=b.vars++V
theorem VX.refl (b:Bl):VX b b:=⟨.refl b,[],by simp⟩
theorem VX.trans {a b c:Bl}(h:VX a b)(g:VX b c):VX a c:=by
 obtain⟨h1,V,h2⟩:=h;obtain⟨g1,U,g2⟩:=g;exact⟨h1.trans g1,V++U,by rw [g2,h2,List.append_assoc]⟩
theorem VX.get {b b':Bl}(h:VX b b'){s:Nat}{f:Fld}(hs:b.vars[s]?=some f):b'.vars[s]?=some f:=by
 obtain⟨_,V,e⟩:=h;rw [e,List.getElem?_append_left (get_lt hs)];exact hs
section
variable {cls:Bytes} {T sc:List Fld} {b b':Bl}
theorem VS.mem (h:VS cls T sc b){s:Nat}(hs:s∈b.scope):∃ f∈T++sc,b.vars[s]?=some f:=by
 have:b.vars[s]?∈b.scope.map (fun s=>b.vars[s]?):=List.mem_map.2 ⟨s,hs,rfl⟩;rw [h.vs] at this;obtain⟨f,hf,e⟩:=List.mem_map.1 this;exact⟨f,hf,e.symm⟩
theorem VS.has (h:VS cls T sc b){f:Fld}(hf:f∈T++sc):∃ s∈b.scope,b.vars[s]?=some f:=by
 have:some f∈(T++sc).map some:=List.mem_map.2 ⟨f,hf,rfl⟩;rw [← h.vs] at this;obtain⟨s,hs,e⟩:=List.mem_map.1 this;exact⟨s,hs,e⟩
theorem VS.grow (h:VS cls T sc b)(g:VX b b'):VS cls T sc b':=by
 refine⟨?_,h.this,fun hc=>?_,h.ns⟩
 ·rw [g.1.scope,← h.vs];apply List.map_congr_left;intro s hs;obtain⟨f,_,hf⟩:=h.mem hs;rw [hf,g.get hf]
 ·have:=h.zero hc;cases hv:b.vars[0]? with
  | none=>rw [hv] at this;cases this
  | some f=>rw [g.get hv];rw [hv] at this;exact this
theorem VS.slot (h:VS cls T sc b){nm t:Bytes}(hv:varF sc nm=some t):∃ s:Nat,slotB b nm=s∧(b.vars[s]?).map (·.typ)=some t:=by
 unfold varF at hv;cases hf:sc.find? (fun f=>f.name == nm) with
 | none=>rw [hf] at hv;cases hv
 | some f =>
   rw [hf] at hv;simp only [Option.map_some,Option.some.injEq] at hv;have hfm:=List.mem_of_find?_eq_some hf;have hfn:f.name=nm:=by simpa using List.find?_some hf
   obtain⟨s0,hs0,he0⟩:=h.has (List.mem_append_right T hfm);unfold slotB;cases hq:b.scope.reverse.find? (fun s=>match b.vars[s]? with | some f=>f.name == nm | none=>false) with
   | none =>
     rw [List.find?_eq_none] at hq;have:=hq s0 (by simpa using hs0);rw [he0] at this;simp [hfn] at this
   | some s =>
     refine⟨s,rfl,?_⟩;have hp:=List.find?_some hq;obtain⟨g,hg,he⟩:=h.mem (by simpa using List.mem_of_find?_eq_some hq:s∈b.scope);rw [he] at hp;have hgn:g.name=nm:=by simpa using hp
     rw [he];rcases List.mem_append.1 hg with hg | hg
     ·exact absurd (by rw [hfn,← hgn];exact h.this g hg) (h.ns.2 f hfm)
     ·rw [h.ns.same hg hfm (by rw [hgn,hfn]),← hv];rfl
end
end Lx
end
end Go.Proofs.YtoookjadbhdfhaaGreatDoor
