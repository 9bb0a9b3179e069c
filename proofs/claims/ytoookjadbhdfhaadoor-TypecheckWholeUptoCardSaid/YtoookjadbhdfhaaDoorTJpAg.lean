/-
  AX: the closed executor: regions that draw their order, code, functions.
-/
import Derived.Test.YtoookjadbhdfhaaDoorTJpAf
set_option linter.unusedSectionVars false
set_option linter.unusedSimpArgs false
set_option linter.unnecessarySimpa false
set_option linter.unusedVariables false
set_option linter.unusedSimpArgs false
set_option linter.unusedVariables false
namespace Go.Proofs.YtoookjadbhdfhaaDoor
section
namespace Ax
/-- A plan that grows. -/
structure PS where
 acts:List Act1
 hs:List (Tr CB)
 nxs:List Nat
 eix:List Nat
 pan:Bool
def PS.plan (ps:PS)(N:Nat):Plan where
 act:=fun i=>(ps.acts[i]?).getD .skip
 hs:=fun j=>hv ((ps.hs[j]?).getD .lf)
 nxs:=fun j=>(ps.nxs[j]?).getD 0
 m:=match ps.pan with
  | true=>ps.eix.length-1
  | false=>ps.eix.length
 eix:=fun j=>(ps.eix[j]?).getD N
/-- The heap that an operation sees, as a trie. -/
def seeT (ops:Array Oper)(pl:Plan)(nx0 J i:Nat)(acts:List Act1)(h:Tr CB):Nat→Tr CB
 | 0=>h
 | k+1=>match (acts[k]?).getD .skip with
   | .alloc _ kk=>match anc (ancs ops) i k && !(List.range J).any (fun j=>anc (ancs ops) (pl.eix j) k) with
     | true=>Tr.put 20 (seeT ops pl nx0 J i acts h k) (nx0+k) (some kk)
     | false=>seeT ops pl nx0 J i acts h k
   | _=>seeT ops pl nx0 J i acts h k
theorem seeT_get {ops:Array Oper}{ps:PS}{N nx0 J i:Nat}{h:Tr CB}:∀ (k b:Nat) (kk:CB),(seeT ops (ps.plan N) nx0 J i ps.acts h k).get b=some kk→newL ops (ps.plan N) nx0 J (before ops i) b=some kk∨((∀ i',i'<k→b=nx0+i'→newL ops (ps.plan N) nx0 J (before ops i) b=none)∧h.get b=some kk)
 | 0,b,kk,hg=>.inr ⟨fun i' hi=>absurd hi (Nat.not_lt_zero _),hg⟩
 | k+1,b,kk,hg=>by
   have step:(seeT ops (ps.plan N) nx0 J i ps.acts h k).get b=some kk→(b=nx0+k→newL ops (ps.plan N) nx0 J (before ops i) b=none)→newL ops (ps.plan N) nx0 J (before ops i) b=some kk∨((∀ i',i'<k+1→b=nx0+i'→newL ops (ps.plan N) nx0 J (before ops i) b=none)∧h.get b=some kk):=by
    intro h1 h2;rcases seeT_get k b kk h1 with h3 | ⟨h3,h4⟩
    ·exact .inl h3
    ·refine .inr ⟨fun i' hi' hb=>?_,h4⟩
     by_cases e:i'=k
     ·subst e;exact h2 hb
     ·exact h3 i' (by omega) hb
   have nonew:(∀ c kk,(ps.plan N).act k≠.alloc c kk)∨(anc (ancs ops) i k && !(List.range J).any (fun j=>anc (ancs ops) ((ps.plan N).eix j) k))=false→b=nx0+k→newL ops (ps.plan N) nx0 J (before ops i) b=none:=by
    intro hor hb;cases hn:newL ops (ps.plan N) nx0 J (before ops i) b with
    | none=>rfl
    | some k2 =>
      obtain⟨n1,n2,⟨c,n3⟩,n4⟩:=newL_some hn;have e:b-nx0=k:=by omega
      rw [e] at n2 n3 n4;rcases hor with hor | hor
      ·exact absurd n3 (hor _ _)
      ·simp only [before] at n2;rw [n2] at hor;simp only [Bool.true_and,Bool.not_eq_false'] at hor;obtain⟨j,hj,ha⟩:=List.any_eq_true.mp hor;rw [n4 j (List.mem_range.mp hj)] at ha;cases ha
   unfold seeT at hg;split at hg
   ·rename_i c k2 hact;split at hg
    ·rename_i hc;simp only [Bool.and_eq_true,Bool.not_eq_true'] at hc;rcases Tr.get_put _ _ _ _ _ _ hg with⟨a,e⟩ | ⟨a,e⟩
     ·cases e;left;refine newL_of (c:=c) (by omega) (by subst a;simp only [before,Nat.add_sub_cancel_left];exact hc.1) (by subst a;simp only [Nat.add_sub_cancel_left];exact hact) (fun j hj=>?_);subst a;simp only [Nat.add_sub_cancel_left];have:=List.any_eq_false.mp hc.2 j (List.mem_range.mpr hj);simpa using this
     ·exact step e (fun hb=>absurd hb a)
    ·rename_i hc;exact step hg (nonew (.inr hc))
   ·rename_i hna;refine step hg (nonew (.inl fun c k2 hx=>?_));exact hna c k2 hx
/-- One operation of a drawn region. -/
def stepP (P:Program)(G:Nat→CV)(call:Call1)(ops:Array Oper)(e0:Env)(nx0:Nat)(ps:PS)(o:Oper):Option PS :=
 match ps.pan && anc (ancs ops) ps.acts.length ((ps.eix[ps.eix.length-1]?).getD ops.size) with
 | true=>some { ps with acts:=ps.acts++[.dead] }
 | false=>match gd ops (envL ops (ps.plan ops.size) e0 (before ops ps.acts.length)) o with
   | some false=>some { ps with acts:=ps.acts++[.skip] }
   | some true=>match astep P (rd G (envL ops (ps.plan ops.size) e0 (before ops ps.acts.length))) (nx0+ps.acts.length) o.op with
     | some (c,k)=>some { ps with acts:=ps.acts++[.alloc c k] }
     | none=>match qstep P (hv (seeT ops (ps.plan ops.size) nx0 (match ps.pan with | true=>ps.eix.length-1 | false=>ps.eix.length) ps.acts.length ps.acts ((ps.hs[match ps.pan with | true=>ps.eix.length-1 | false=>ps.eix.length]?).getD .lf) ps.acts.length)) (rd G (envL ops (ps.plan ops.size) e0 (before ops ps.acts.length))) o.op with
       | some c=>some { ps with acts:=ps.acts++[.quiet c] }
       | none=>match ps.pan with
         | true=>none
         | false=>match estep P (hv (seeT ops (ps.plan ops.size) nx0 ps.eix.length ps.acts.length ps.acts ((ps.hs[ps.eix.length]?).getD .lf) ps.acts.length)) ((ps.nxs[ps.eix.length]?).getD 0) (rd G (envL ops (ps.plan ops.size) e0 (before ops ps.acts.length))) o.op with
           | some (c,d)=>some { acts:=ps.acts++[.eff ps.eix.length c],hs:=ps.hs++[d.tr (seeT ops (ps.plan ops.size) nx0 ps.eix.length ps.acts.length ps.acts ((ps.hs[ps.eix.length]?).getD .lf) ps.acts.length) ((ps.nxs[ps.eix.length]?).getD 0)],nxs:=ps.nxs++[d.nx ((ps.nxs[ps.eix.length]?).getD 0)],eix:=ps.eix++[ps.acts.length],pan:=false }
           | none=>match callA (rd G (envL ops (ps.plan ops.size) e0 (before ops ps.acts.length))) o.op with
             | some (f,args)=>match enters P f with
               | true=>match call f args (seeT ops (ps.plan ops.size) nx0 ps.eix.length ps.acts.length ps.acts ((ps.hs[ps.eix.length]?).getD .lf) ps.acts.length) ((ps.nxs[ps.eix.length]?).getD 0) with
                 | some (.ret c,h',nx')=>some { acts:=ps.acts++[.eff ps.eix.length c],hs:=ps.hs++[h'],nxs:=ps.nxs++[nx'],eix:=ps.eix++[ps.acts.length],pan:=false }
                 | some (.pan v,h',nx')=>some { acts:=ps.acts++[.pan ps.eix.length v],hs:=ps.hs++[h'],nxs:=ps.nxs++[nx'],eix:=ps.eix++[ps.acts.length],pan:=true }
                 | none=>none
               | false=>none
             | none=>none
   | none=>none
def planL (P:Program)(G:Nat→CV)(call:Call1)(ops:Array Oper)(e0:Env)(nx0:Nat):List Oper→PS→Option PS
 | [],ps=>some ps
 | o::os,ps=>match stepP P G call ops e0 nx0 ps o with
   | some ps'=>planL P G call ops e0 nx0 os ps'
   | none=>none
/-- The beginning of a plan. -/
structure Pre (ps pf:PS):Prop where
 acts:∃ l,pf.acts=ps.acts++l
 hs:∃ l,pf.hs=ps.hs++l
 nxs:∃ l,pf.nxs=ps.nxs++l
 eix:∃ l,pf.eix=ps.eix++l
 pan:ps.pan=true→pf.pan=true∧pf.eix=ps.eix
theorem Pre.refl (ps:PS):Pre ps ps:=⟨⟨[],by simp⟩,⟨[],by simp⟩,⟨[],by simp⟩,⟨[],by simp⟩,fun h=>⟨h,rfl⟩⟩
theorem Pre.trans {a b c:PS}(h:Pre a b)(h':Pre b c):Pre a c:=by
 obtain⟨⟨l1,e1⟩,⟨l2,e2⟩,⟨l3,e3⟩,⟨l4,e4⟩,e5⟩:=h;obtain⟨⟨m1,f1⟩,⟨m2,f2⟩,⟨m3,f3⟩,⟨m4,f4⟩,f5⟩:=h';exact⟨⟨l1++m1,by rw [f1,e1];simp⟩,⟨l2++m2,by rw [f2,e2];simp⟩,⟨l3++m3,by rw [f3,e3];simp⟩,⟨l4++m4,by rw [f4,e4];simp⟩,fun h=>⟨(f5 (e5 h).1).1,by rw [(f5 (e5 h).1).2,(e5 h).2]⟩⟩
theorem stepP_pre {P:Program}{G:Nat→CV}{call:Call1}{ops:Array Oper}{e0:Env}{nx0:Nat}{ps ps':PS}{o:Oper}(h:stepP P G call ops e0 nx0 ps o=some ps'):Pre ps ps'∧ps'.acts.length=ps.acts.length+1 ∧
  (ps.eix.length+1=ps.hs.length→ps.eix.length+1=ps.nxs.length→ps'.eix.length+1=ps'.hs.length∧ps'.eix.length+1=ps'.nxs.length):=by
 unfold stepP at h;have simple:∀ x:Act1,Pre ps { ps with acts:=ps.acts++[x] }:=fun x=>⟨⟨[x],rfl⟩,⟨[],by simp⟩,⟨[],by simp⟩,⟨[],by simp⟩,fun hp=>⟨hp,rfl⟩⟩
 split at h
 ·cases h;exact⟨simple _,by simp,fun a b=>⟨a,b⟩⟩
 ·split at h
  ·cases h;exact⟨simple _,by simp,fun a b=>⟨a,b⟩⟩
  ·split at h
   ·cases h;exact⟨simple _,by simp,fun a b=>⟨a,b⟩⟩
   ·split at h
    ·cases h;exact⟨simple _,by simp,fun a b=>⟨a,b⟩⟩
    ·split at h
     ·cases h
     ·rename_i hp;split at h
      ·cases h;exact⟨⟨⟨_,rfl⟩,⟨_,rfl⟩,⟨_,rfl⟩,⟨_,rfl⟩,fun hh=>(by rw [hp] at hh;cases hh)⟩,by simp,fun a b=>by simp;omega⟩
      ·split at h
       ·split at h
        ·split at h
         ·cases h;exact⟨⟨⟨_,rfl⟩,⟨_,rfl⟩,⟨_,rfl⟩,⟨_,rfl⟩,fun hh=>(by rw [hp] at hh;cases hh)⟩,by simp,fun a b=>by simp;omega⟩
         ·cases h;exact⟨⟨⟨_,rfl⟩,⟨_,rfl⟩,⟨_,rfl⟩,⟨_,rfl⟩,fun hh=>(by rw [hp] at hh;cases hh)⟩,by simp,fun a b=>by simp;omega⟩
         ·cases h
        ·cases h
       ·cases h
  ·cases h
/-- Every step of the plan. -/
theorem planL_steps {P:Program}{G:Nat→CV}{call:Call1}{ops:Array Oper}{e0:Env}{nx0:Nat}:∀ {os:List Oper} {ps pf:PS},planL P G call ops e0 nx0 os ps=some pf→Pre ps pf∧pf.acts.length=ps.acts.length+os.length ∧
  (ps.eix.length+1=ps.hs.length→ps.eix.length+1=ps.nxs.length→pf.eix.length+1=pf.hs.length∧pf.eix.length+1=pf.nxs.length ∧
  ∀ (k:Nat) o,os[k]?=some o→∃ a b,stepP P G call ops e0 nx0 a o=some b∧a.acts.length=ps.acts.length+k∧Pre a pf∧Pre b pf∧a.eix.length+1=a.hs.length∧a.eix.length+1=a.nxs.length)
 | [],ps,pf,h=>by
   cases h;exact⟨.refl _,by simp,fun a b=>⟨a,b,fun k o hk=>by simp at hk⟩⟩
 | o::os,ps,pf,h=>by
   unfold planL at h;split at h
   ·rename_i ps' hs;obtain⟨p1,l1,s1⟩:=stepP_pre hs;obtain⟨p2,l2,s2⟩:=planL_steps h;refine⟨p1.trans p2,by simp;omega,fun a b=>?_⟩;obtain⟨a',b'⟩:=s1 a b;obtain⟨c1,c2,c3⟩:=s2 a' b';refine⟨c1,c2,fun k o' hk=>?_⟩;cases k with
    | zero=>cases hk;exact⟨ps,ps',hs,by simp,p1.trans p2,p2,a,b⟩
    | succ k =>
      obtain⟨x,y,h1,h2,h3,h4,h5,h6⟩:=c3 k o' (by simpa using hk);exact⟨x,y,h1,by omega,h3,h4,h5,h6⟩
   ·cases h
end Ax
end
section
namespace Ax
/-- Effects and their places. -/
structure EI (ps:PS):Prop where
 at':∀ j i,ps.eix[j]?=some i→i<ps.acts.length∧((∃ c,ps.acts[i]?=some (.eff j c))∨(∃ v,ps.acts[i]?=some (.pan j v)∧ps.pan=true∧j+1=ps.eix.length))
 last:ps.pan=true→∃ i v,ps.eix[ps.eix.length-1]?=some i∧ps.eix.length≠0∧ps.acts[i]?=some (.pan (ps.eix.length-1) v)
theorem EI.add {ps:PS}(h:EI ps)(x:Act1):EI { ps with acts:=ps.acts++[x] }:=by
 refine⟨fun j i hj=>?_,fun hp=>?_⟩
 ·obtain⟨h1,h2⟩:=h.at' j i hj;refine⟨by simp;omega,?_⟩;rw [show ({ ps with acts:=ps.acts++[x] }:PS).acts=ps.acts++[x] from rfl,List.getElem?_append_left h1];exact h2
 ·obtain⟨i,v,h1,h2,h3⟩:=h.last hp;have hl:=(List.getElem?_eq_some_iff.mp h3).1;exact⟨i,v,h1,h2,by rw [show ({ ps with acts:=ps.acts++[x] }:PS).acts=ps.acts++[x] from rfl,List.getElem?_append_left hl];exact h3⟩
theorem EI.eff {ps:PS}(h:EI ps)(hp:ps.pan=false)(x:Act1)(h':Tr CB)(n':Nat)(q:Bool)(hx:(∃ c,x=.eff ps.eix.length c∧q=false)∨(∃ v,x=.pan ps.eix.length v∧q=true)) :
  EI ⟨ps.acts++[x],ps.hs++[h'],ps.nxs++[n'],ps.eix++[ps.acts.length],q⟩:=by
 refine⟨fun j i hj=>?_,fun hq=>?_⟩
 ·simp only at hj ⊢
  by_cases hlt:j<ps.eix.length
  ·rw [List.getElem?_append_left hlt] at hj;obtain⟨h1,h2⟩:=h.at' j i hj;refine⟨by simp;omega,.inl ?_⟩;rw [List.getElem?_append_left h1];rcases h2 with h2 | ⟨v,_,h3,_⟩
   ·exact h2
   ·rw [hp] at h3;cases h3
  ·have hl:=(List.getElem?_eq_some_iff.mp hj).1;simp at hl;have e:j=ps.eix.length:=by omega
   subst e;simp at hj;subst hj;refine⟨by simp,?_⟩;rcases hx with⟨c,e1,e2⟩ | ⟨v,e1,e2⟩
   ·left;exact⟨c,by simp [e1]⟩
   ·right;exact⟨v,by simp [e1],e2,by simp⟩
 ·simp only at hq ⊢;rcases hx with⟨c,e1,e2⟩ | ⟨v,e1,e2⟩
  ·rw [e2] at hq;cases hq
  ·exact⟨ps.acts.length,v,by simp,by simp,by simp [e1]⟩
theorem stepP_EI {P:Program}{G:Nat→CV}{call:Call1}{ops:Array Oper}{e0:Env}{nx0:Nat}{ps ps':PS}{o:Oper}(h:stepP P G call ops e0 nx0 ps o=some ps')(hi:EI ps):EI ps':=by
 unfold stepP at h;split at h
 ·cases h;exact hi.add _
 ·split at h
  ·cases h;exact hi.add _
  ·split at h
   ·cases h;exact hi.add _
   ·split at h
    ·cases h;exact hi.add _
    ·split at h
     ·cases h
     ·rename_i hp;split at h
      ·cases h;exact hi.eff hp _ _ _ _ (.inl ⟨_,rfl,rfl⟩)
      ·split at h
       ·split at h
        ·split at h
         ·cases h;exact hi.eff hp _ _ _ _ (.inl ⟨_,rfl,rfl⟩)
         ·cases h;exact hi.eff hp _ _ _ _ (.inr ⟨_,rfl,rfl⟩)
         ·cases h
        ·cases h
       ·cases h
  ·cases h
theorem planL_EI {P:Program}{G:Nat→CV}{call:Call1}{ops:Array Oper}{e0:Env}{nx0:Nat}:∀ {os:List Oper} {ps pf:PS},planL P G call ops e0 nx0 os ps=some pf→EI ps→EI pf
 | [],ps,pf,h,hi=>by cases h;exact hi
 | o::os,ps,pf,h,hi=>by
   unfold planL at h;split at h
   ·rename_i ps' hs;exact planL_EI h (stepP_EI hs hi)
   ·cases h
/-! the last look -/
def isNone {α:Type}:Option α→Bool
 | none=>true
 | some _=>false
def chkQ (P:Program)(G:Nat→CV)(ops:Array Oper)(e0:Env)(nx0:Nat)(pl:Plan)(i:Nat)(o:Oper)(c:CV)(J:Nat):Bool :=
 match (List.range (pl.m+1)).all (fun j=>!anc (ancs ops) i (pl.eix j) || Nat.blt j J) && (List.range (pl.m+1)).all (fun j=>!anc (ancs ops) (pl.eix j) i || Nat.ble J j) with
 | true=>match qstep P (heapL ops pl nx0 J (before ops i)) (rd G (envL ops pl e0 (before ops i))) o.op with
   | some c'=>beqV c' c
   | none=>false
 | false=>true
def eqON:Option Nat→Nat→Bool
 | some a,b=>Nat.beq a b
 | none,_=>false
def chkO (P:Program)(G:Nat→CV)(n:Nat)(ops:Array Oper)(e0:Env)(nx0:Nat)(pl:Plan)(i:Nat)(o:Oper):Bool :=
 (match o.dst with
  | some t=>Nat.blt t n && eqON (wr ops t) i
  | none=>true) &&
 (o.looksAt ops).all (fun t=>match wr ops t with
  | some j=>anc (ancs ops) i j || anc (ancs ops) j i
  | none=>true) &&
 o.after.toList.all (fun e=>!Region.binds .any e || Nat.blt e.on i) &&
 (match pl.act i with
  | .quiet c=>(List.range (pl.m+1)).all (chkQ P G ops e0 nx0 pl i o c)
  | .eff j _=>(List.range j).all (fun j'=>anc (ancs ops) i (pl.eix j'))
  | .pan j _=>(List.range j).all (fun j'=>anc (ancs ops) i (pl.eix j'))
  | _=>true)
def chkAll (P:Program)(G:Nat→CV)(n:Nat)(ops:Array Oper)(e0:Env)(nx0:Nat)(pl:Plan):Nat→List Oper→Bool
 | _,[]=>true
 | i,o::os=>chkO P G n ops e0 nx0 pl i o && chkAll P G n ops e0 nx0 pl (i+1) os
def chkH (ops:Array Oper)(nx0:Nat)(pf:PS)(pl:Plan):Bool :=
 (List.range (pl.m+1)).all fun J=>Nat.ble (nx0+ops.size) (pl.nxs J) && (List.range ops.size).all fun i=>match pl.act i with
  | .alloc _ _=>(List.range J).any (fun j=>anc (ancs ops) (pl.eix j) i) || isNone (pl.hs J (nx0+i))
  | _=>true
theorem chkAll_spec {P:Program}{G:Nat→CV}{n:Nat}{ops:Array Oper}{e0:Env}{nx0:Nat}{pl:Plan}:∀ {os:List Oper} {k:Nat},chkAll P G n ops e0 nx0 pl k os=true→∀ (i:Nat) o,os[i]?=some o→chkO P G n ops e0 nx0 pl (k+i) o=true
 | [],k,_,i,o,h=>by simp at h
 | x::os,k,hc,i,o,h=>by
   unfold chkAll at hc;simp only [Bool.and_eq_true] at hc;cases i with
   | zero=>cases h;exact hc.1
   | succ i =>
     have:=chkAll_spec hc.2 i o (by simpa using h);rw [show k+(i+1)=k+1+i by omega];exact this
theorem anc_lt {ops:Array Oper}(he:∀ i o,ops[i]?=some o→∀ e∈o.after.toList,Region.binds .any e=true→e.on<i):∀ {i j:Nat},anc (ancs ops) i j=true→j<i:=by
 intro i
 induction i using Nat.strongRecOn with
 | _ i ih =>
   intro j ha;obtain⟨o,ho,e,hm,hb,hj⟩:=anc_spec ha;have h1:=he i o ho e hm hb;rcases hj with hj | ⟨hlt,hj⟩
   ·omega
   ·have:=ih e.on hlt hj;omega
section agree
variable {ops:Array Oper} {a pf:PS} {e0:Env} {nx0 i:Nat}
theorem getD_pre {α:Type}{x y:List α}{d:α}{k:Nat}(h:∃ l,y=x++l)(hk:k<x.length):(y[k]?).getD d=(x[k]?).getD d:=by
 obtain⟨l,rfl⟩:=h;rw [List.getElem?_append_left hk]
theorem env_pre (hl:∀ j,anc (ancs ops) i j=true→j<i)(hp:Pre a pf)(ha:a.acts.length=i):envL ops (a.plan ops.size) e0 (before ops i)=envL ops (pf.plan ops.size) e0 (before ops i):=by
 funext t
 unfold envL;cases hw:wr ops t with
 | none=>rfl
 | some j =>
   simp only;cases hb:before ops i j with
   | false=>rfl
   | true =>
     have:=hl j hb;have e:(a.plan ops.size).act j=(pf.plan ops.size).act j:=(getD_pre hp.acts (by omega)).symm;simp only [e]
theorem new_pre {J:Nat}(hl:∀ j,anc (ancs ops) i j=true→j<i)(hp:Pre a pf)(ha:a.acts.length=i)(hJ:J≤a.eix.length)(b:Nat):newL ops (a.plan ops.size) nx0 J (before ops i) b=newL ops (pf.plan ops.size) nx0 J (before ops i) b:=by
 have he:∀ j,j<J→(a.plan ops.size).eix j=(pf.plan ops.size).eix j:=fun j hj=>(getD_pre hp.eix (by omega)).symm
 have key:∀ (x y:PS),(∀ j,j<i→(x.plan ops.size).act j=(y.plan ops.size).act j)→(∀ j,j<J→(x.plan ops.size).eix j=(y.plan ops.size).eix j)→∀ k,newL ops (x.plan ops.size) nx0 J (before ops i) b=some k→newL ops (y.plan ops.size) nx0 J (before ops i) b=some k:=by
  intro x y h1 h2 k hn;obtain⟨n1,n2,⟨c,n3⟩,n4⟩:=newL_some hn;have hlt:=hl _ n2;exact newL_of n1 n2 (by rw [← h1 _ hlt];exact n3) (fun j hj=>by rw [← h2 j hj];exact n4 j hj)
 have hact:∀ j,j<i→(a.plan ops.size).act j=(pf.plan ops.size).act j:=fun j hj=>(getD_pre hp.acts (by omega)).symm
 cases h1:newL ops (a.plan ops.size) nx0 J (before ops i) b with
 | some k=>exact (key a pf hact he k h1).symm
 | none =>
   cases h2:newL ops (pf.plan ops.size) nx0 J (before ops i) b with
   | none=>rfl
   | some k=>rw [key pf a (fun j hj=>(hact j hj).symm) (fun j hj=>(he j hj).symm) k h2] at h1;cases h1
theorem see_pre {J:Nat}(hl:∀ j,anc (ancs ops) i j=true→j<i)(hp:Pre a pf)(ha:a.acts.length=i)(hJ:J≤a.eix.length)(hh:a.eix.length+1=a.hs.length) :
  Sub (hv (seeT ops (a.plan ops.size) nx0 J i a.acts ((a.hs[J]?).getD .lf) i)) (heapL ops (pf.plan ops.size) nx0 J (before ops i)):=by
 intro b k hb;unfold heapL;rcases seeT_get i b k hb with h1 | ⟨h1,h2⟩
 ·rw [new_pre hl hp ha hJ] at h1;rw [h1]
 ·cases h3:newL ops (pf.plan ops.size) nx0 J (before ops i) b with
  | some k' =>
    obtain⟨n1,n2,_,_⟩:=newL_some h3;have hlt:=hl _ n2;have:=h1 (b-nx0) hlt (by omega);rw [new_pre hl hp ha hJ,h3] at this;cases this
  | none =>
    simp only
    show hv ((pf.hs[J]?).getD .lf) b=some k
    rw [getD_pre hp.hs (by omega)];exact h2
end agree
theorem EffOk.weak {P:Program}{G:Nat→CV}{o:Oper}{ρ:Operand→CV}{H H1 H':Heap}{nx nx':Nat}{c:CV}(s:Sub H1 H)(h:EffOk P G o ρ H1 nx c H' nx'):EffOk P G o ρ H nx c H' nx' :=
 fun M a w next Q g r hx k=>h M a w next Q g (r.weak s) hx fun M' z w' h1 h2 h3=>k M' z w' h1 h2 (h3.src s)
theorem PanOk.weak {P:Program}{G:Nat→CV}{o:Oper}{ρ:Operand→CV}{H H1 H':Heap}{nx nx':Nat}{c:CV}(s:Sub H1 H)(h:PanOk P G o ρ H1 nx c H' nx'):PanOk P G o ρ H nx c H' nx' :=
 fun M a w next Q g r hx k=>h M a w next Q g (r.weak s) hx fun M' z w' h1 h2 h3=>k M' z w' h1 h2 (h3.src s)
theorem EffOk.estep {P:Program}{G:Nat→CV}{o:Oper}{ρ:Operand→CV}{h:Tr CB}{nx:Nat}{c:CV}{d:Dl}(he:estep P (hv h) nx ρ o.op=some (c,d)):EffOk P G o ρ (hv h) nx c (hv (d.tr h nx)) (d.nx nx):=by
 intro M a w next Q g r hx k
 obtain⟨M',w',h1,r',f'⟩:=estep_sound he r hx;have s:=Dl.tr_sub h nx d;unfold Oper.wp;rcases h1 with⟨z,h1,h2⟩ | ⟨h1,h2⟩
 ·rw [h1];exact k M' z w' h2 (r'.weak s) (f'.trans (.weak s))
 ·rw [h1];subst h2;exact k M' undef w' (.any _) (r'.weak s) (f'.trans (.weak s))
theorem EffOk.call {P:Program}{G:Nat→CV}{o:Oper}{ρ:Operand→CV}{H H':Heap}{nx nx':Nat}{c:CV}{f:FuncId}{args:List CV}(hq:callA ρ o.op=some (f,args))(he:enters P f=true)
  (h:ACall P G f args H nx fun r H1 n1=>r=.ret c∧H1=H'∧n1=nx'):EffOk P G o ρ H nx c H' nx':=by
 intro M a w next Q g r hx k
 obtain⟨vs,h1,h2⟩:=callA_sound (w:=w) hq he hx;unfold Oper.wp;rw [h1,Oper.upon_enter];refine (h M w vs g r h2).mono ?_;rintro en w' ⟨M',x,H1,n1,a1,a2,a3,rfl,rfl,rfl⟩;cases en <;> simp only [EndR] at a1;exact k M' _ w' a1 a2 a3
theorem PanOk.call {P:Program}{G:Nat→CV}{o:Oper}{ρ:Operand→CV}{H H':Heap}{nx nx':Nat}{c:CV}{f:FuncId}{args:List CV}(hq:callA ρ o.op=some (f,args))(he:enters P f=true)
  (h:ACall P G f args H nx fun r H1 n1=>r=.pan c∧H1=H'∧n1=nx'):PanOk P G o ρ H nx c H' nx':=by
 intro M a w next Q g r hx k
 obtain⟨vs,h1,h2⟩:=callA_sound (w:=w) hq he hx;unfold Oper.wp;rw [h1,Oper.upon_enter];refine (h M w vs g r h2).mono ?_;rintro en w' ⟨M',x,H1,n1,a1,a2,a3,rfl,rfl,rfl⟩;cases en <;> simp only [EndR] at a1;obtain⟨z,e,hz⟩:=a1;subst e;exact k M' z w' hz a2 a3
theorem plan_ok {P:Program}{G:Nat→CV}{call:Call1}(hcall:CallOk P G call){n:Nat}{ops:Array Oper}{e0:Env}{h0:Tr CB}{nx0:Nat}{pf:PS}
  (hpl:planL P G call ops e0 nx0 ops.toList ⟨[],[h0],[nx0+ops.size],[],false⟩=some pf) (hc:chkAll P G n ops e0 nx0 (pf.plan ops.size) 0 ops.toList=true) (hh:chkH ops nx0 pf (pf.plan ops.size)=true) :
  Plan.Ok P G n ops (pf.plan ops.size) e0 (hv h0) nx0:=by
 obtain⟨p0,l0,s0⟩:=planL_steps hpl;obtain⟨q1,q2,steps⟩:=s0 rfl rfl;have ei:=planL_EI hpl ⟨fun j i h=>by simp at h,fun h=>by cases h⟩;have hlen:pf.acts.length=ops.size:=by simpa using l0
 have cO:∀ i o,ops[i]?=some o→chkO P G n ops e0 nx0 (pf.plan ops.size) i o=true:=fun i o ho=>by
  have:=chkAll_spec hc i o (by simpa using ho);simpa using this
 have hedge:∀ i o,ops[i]?=some o→∀ e∈o.after.toList,Region.binds .any e=true→e.on<i:=by
  intro i o ho e he hb;have:=cO i o ho;unfold chkO at this;simp only [Bool.and_eq_true] at this;have h3:=List.all_eq_true.mp this.1.2 e he;rw [hb] at h3;exact blt_lt (by simpa using h3)
 have hl:∀ i j,anc (ancs ops) i j=true→j<i:=fun i j h=>anc_lt hedge h
 have hH:∀ J,J≤(pf.plan ops.size).m→nx0+ops.size≤(pf.plan ops.size).nxs J∧∀ i,i<ops.size→(∀ c k,(pf.plan ops.size).act i=.alloc c k→(List.range J).any (fun j=>anc (ancs ops) ((pf.plan ops.size).eix j) i)=true∨(pf.plan ops.size).hs J (nx0+i)=none):=by
  intro J hJ;have:=List.all_eq_true.mp hh J (List.mem_range.mpr (by omega));simp only [Bool.and_eq_true] at this;refine⟨Nat.le_of_ble_eq_true this.1,fun i hi c k hk=>?_⟩;have h2:=List.all_eq_true.mp this.2 i (List.mem_range.mpr hi);rw [hk] at h2;simp only [Bool.or_eq_true] at h2;rcases h2 with h2 | h2
  ·exact .inl h2
  ·right;cases hx:(pf.plan ops.size).hs J (nx0+i) with
   | none=>rfl
   | some k=>rw [hx] at h2;cases h2
 have eixm:(∃ j v,(pf.plan ops.size).act ((pf.plan ops.size).eix (pf.plan ops.size).m)=.pan j v∧(pf.plan ops.size).eix (pf.plan ops.size).m<ops.size)∨ops.size≤(pf.plan ops.size).eix (pf.plan ops.size).m:=by
  cases hp:pf.pan with
  | true =>
    obtain⟨i,v,h1,h2,h3⟩:=ei.last hp;left;have em:(pf.plan ops.size).m=pf.eix.length-1:=by simp [PS.plan,hp]
    have ee:(pf.plan ops.size).eix (pf.plan ops.size).m=i:=by rw [em];simp [PS.plan,h1]
    rw [ee];refine⟨pf.eix.length-1,v,by simp [PS.plan,h3],?_⟩;have:=(List.getElem?_eq_some_iff.mp h3).1;omega
  | false =>
    right;have em:(pf.plan ops.size).m=pf.eix.length:=by simp [PS.plan,hp]
    rw [em];simp [PS.plan]
 have eixlt:∀ j,j<(pf.plan ops.size).m→(pf.plan ops.size).eix j<ops.size∧∃ c,(pf.plan ops.size).act ((pf.plan ops.size).eix j)=.eff j c:=by
  intro j hj;have hjl:j<pf.eix.length:=by
   simp only [PS.plan] at hj;split at hj <;> omega
  have he:pf.eix[j]?=some pf.eix[j]:=by simp [hjl]
  obtain⟨h1,h2⟩:=ei.at' j _ he;have ee:(pf.plan ops.size).eix j=pf.eix[j]:=by simp [PS.plan,he]
  rw [ee];refine⟨by omega,?_⟩;rcases h2 with⟨c,h2⟩ | ⟨v,h2,h3,h4⟩
  ·exact⟨c,by simp [PS.plan,h2]⟩
  ·have em:(pf.plan ops.size).m=pf.eix.length-1:=by simp [PS.plan,h3]
   omega
 refine⟨fun i o ho=>?_,?_,?_,fun j hj=>(hH j hj).1,?_,eixlt,eixm⟩
 ·have hco:=cO i o ho;unfold chkO at hco;simp only [Bool.and_eq_true] at hco;obtain⟨⟨⟨c1,c2⟩,c3⟩,c4⟩:=hco;refine⟨fun t ht=>?_,fun t ht j hj=>?_,hedge i o ho,?_⟩
  ·rw [ht] at c1;simp only [Bool.and_eq_true] at c1;refine⟨blt_lt c1.1,?_⟩;cases hw:wr ops t with
   | none=>rw [hw] at c1;exact absurd c1.2 (by simp [eqON])
   | some j=>rw [hw] at c1;rw [beq_eq c1.2]
  ·have:=List.all_eq_true.mp c2 t ht;rw [hj] at this;simpa using this
  ·obtain⟨a,b,hstep,ha,pa,pb,sa,sb⟩:=steps i o (by simpa using ho);have ha':a.acts.length=i:=by simpa using ha
   have henv:=env_pre (e0:=e0) (hl i) pa ha';have actb:∀ x,b.acts=a.acts++[x]→(pf.plan ops.size).act i=x:=by
    intro x hx
    show (pf.acts[i]?).getD .skip=x
    rw [getD_pre pb.acts (by rw [hx];simp;omega),hx];simp [← ha']
   unfold stepP at hstep;rw [ha',henv] at hstep;split at hstep
   ·rename_i hp;simp only [Bool.and_eq_true] at hp;cases hstep;rw [actb .dead rfl];obtain⟨e1,e2⟩:=pa.pan hp.1;obtain⟨i',v,f1,f2,f3⟩:=ei.last e1;have em:(pf.plan ops.size).m=pf.eix.length-1:=by simp [PS.plan,e1]
    have ee:(pf.plan ops.size).eix (pf.plan ops.size).m=i':=by rw [em];simp [PS.plan,f1]
    refine⟨pf.eix.length-1,v,by rw [ee];simp [PS.plan,f3],?_⟩;rw [ee];have:=hp.2;rw [← e2,f1] at this;exact this
   ·split at hstep
    ·rename_i hg;cases hstep;rw [actb .skip rfl];exact hg
    ·rename_i hg;split at hstep
     ·rename_i c k has;cases hstep;rw [actb (.alloc c k) rfl];exact⟨hg,has⟩
     ·split at hstep
      ·rename_i c hq;cases hstep;rw [actb (.quiet c) rfl] at c4 ⊢;refine⟨hg,fun J hJ k1 k2=>?_⟩;have h5:=List.all_eq_true.mp c4 J (List.mem_range.mpr (by omega));unfold chkQ at h5;have b1:(List.range ((pf.plan ops.size).m+1)).all (fun j=>!anc (ancs ops) i ((pf.plan ops.size).eix j) || Nat.blt j J)=true:=by
        rw [List.all_eq_true];intro j hj;cases hx:anc (ancs ops) i ((pf.plan ops.size).eix j) with
        | false=>rfl
        | true=>rw [lt_blt (k1 j (by have:=List.mem_range.mp hj;omega) hx)];rfl
       have b2:(List.range ((pf.plan ops.size).m+1)).all (fun j=>!anc (ancs ops) ((pf.plan ops.size).eix j) i || Nat.ble J j)=true:=by
        rw [List.all_eq_true];intro j hj;cases hx:anc (ancs ops) ((pf.plan ops.size).eix j) i with
        | false=>rfl
        | true=>rw [Nat.ble_eq_true_of_le (k2 j (by have:=List.mem_range.mp hj;omega) hx)];rfl
       rw [b1,b2] at h5;simp only [Bool.and_self] at h5;split at h5
       ·rename_i c' hq';rw [hq',beqV_eq h5]
       ·cases h5
      ·split at hstep
       ·cases hstep
       ·rename_i hnp;have hJm:∀ x y z q,b=⟨x,y,z,a.eix++[i],q⟩→(pf.plan ops.size).eix a.eix.length=i:=by
         intro x y z q hb
         show (pf.eix[a.eix.length]?).getD ops.size=i
         rw [getD_pre pb.eix (by rw [hb];simp),hb];simp
        have see:=see_pre (nx0:=nx0) (hl i) pa ha' (Nat.le_refl a.eix.length) sa;have nxa:(pf.plan ops.size).nxs a.eix.length=(a.nxs[a.eix.length]?).getD 0:=getD_pre pa.nxs (by omega);split at hstep
        ·rename_i c d hes;cases hstep;have hact:=actb (.eff a.eix.length c) rfl;have hei:=hJm _ _ _ _ rfl;have hlt:a.eix.length<(pf.plan ops.size).m:=by
          have hle:a.eix.length<pf.eix.length:=by
           obtain⟨l,hl'⟩:=pb.eix;rw [hl'];simp
          simp only [PS.plan];split
          ·rename_i hpt;obtain⟨i',v,f1,f2,f3⟩:=ei.last hpt;refine Nat.lt_of_le_of_ne (by omega) fun e=>?_
           rw [← e] at f1;have:i'=i:=by
            have:(pf.plan ops.size).eix a.eix.length=i':=by simp [PS.plan,f1]
            rw [← this,hei]
           subst this;have:(pf.plan ops.size).act i'=.pan (pf.eix.length-1) v:=by simp [PS.plan,f3]
           rw [hact] at this;cases this
          ·exact hle
         rw [hact] at c4 ⊢;refine⟨hg,hei,hlt,fun j' hj'=>List.all_eq_true.mp c4 j' (List.mem_range.mpr hj'),?_⟩;have e1:(pf.plan ops.size).hs (a.eix.length+1)=hv (d.tr (seeT ops (a.plan ops.size) nx0 a.eix.length i a.acts ((a.hs[a.eix.length]?).getD .lf) i) ((a.nxs[a.eix.length]?).getD 0)):=by
          show hv ((pf.hs[a.eix.length+1]?).getD .lf)=_
          rw [getD_pre pb.hs (by simp;omega)];simp only;rw [List.getElem?_append_right (by omega)];simp [show a.eix.length+1-a.hs.length=0 by omega,ha']
         have e2:(pf.plan ops.size).nxs (a.eix.length+1)=d.nx ((a.nxs[a.eix.length]?).getD 0):=by
          show (pf.nxs[a.eix.length+1]?).getD 0=_
          rw [getD_pre pb.nxs (by simp;omega)];simp only;rw [List.getElem?_append_right (by omega)];simp [show a.eix.length+1-a.nxs.length=0 by omega]
         rw [e1,e2,nxa];exact EffOk.weak see (EffOk.estep hes)
        ·split at hstep
         case h_2=>cases hstep
         rename_i f args hca;split at hstep
         case h_2=>cases hstep
         rename_i hen;split at hstep
         ·rename_i c h' nx' hcl;cases hstep;have hact:=actb (.eff a.eix.length c) rfl;have hei:=hJm _ _ _ _ rfl;have hlt:a.eix.length<(pf.plan ops.size).m:=by
           have hle:a.eix.length<pf.eix.length:=by
            obtain⟨l,hl'⟩:=pb.eix;rw [hl'];simp
           simp only [PS.plan];split
           ·rename_i hpt;obtain⟨i',v,f1,f2,f3⟩:=ei.last hpt;refine Nat.lt_of_le_of_ne (by omega) fun e=>?_
            rw [← e] at f1;have:i'=i:=by
             have:(pf.plan ops.size).eix a.eix.length=i':=by simp [PS.plan,f1]
             rw [← this,hei]
            subst this;have:(pf.plan ops.size).act i'=.pan (pf.eix.length-1) v:=by simp [PS.plan,f3]
            rw [hact] at this;cases this
           ·exact hle
          rw [hact] at c4 ⊢;refine⟨hg,hei,hlt,fun j' hj'=>List.all_eq_true.mp c4 j' (List.mem_range.mpr hj'),?_⟩;have e1:(pf.plan ops.size).hs (a.eix.length+1)=hv h':=by
           show hv ((pf.hs[a.eix.length+1]?).getD .lf)=_
           rw [getD_pre pb.hs (by simp;omega)];simp only;rw [List.getElem?_append_right (by omega)];simp [show a.eix.length+1-a.hs.length=0 by omega]
          have e2:(pf.plan ops.size).nxs (a.eix.length+1)=nx':=by
           show (pf.nxs[a.eix.length+1]?).getD 0=_
           rw [getD_pre pb.nxs (by simp;omega)];simp only;rw [List.getElem?_append_right (by omega)];simp [show a.eix.length+1-a.nxs.length=0 by omega]
          rw [e1,e2,nxa];exact EffOk.weak see (EffOk.call hca hen (hcall _ _ _ _ _ _ _ hcl))
         ·rename_i v h' nx' hcl;cases hstep;have hact:=actb (.pan a.eix.length v) rfl;have hei:=hJm _ _ _ _ rfl;obtain⟨e3,e4⟩:=pb.pan rfl;have hm:a.eix.length=(pf.plan ops.size).m:=by
           simp only [PS.plan,e3,e4];simp
          rw [hact] at c4 ⊢;refine⟨hg,hei,hm,fun j' hj'=>List.all_eq_true.mp c4 j' (List.mem_range.mpr hj'),?_⟩;have e1:(pf.plan ops.size).hs (a.eix.length+1)=hv h':=by
           show hv ((pf.hs[a.eix.length+1]?).getD .lf)=_
           rw [getD_pre pb.hs (by simp;omega)];simp only;rw [List.getElem?_append_right (by omega)];simp [show a.eix.length+1-a.hs.length=0 by omega]
          have e2:(pf.plan ops.size).nxs (a.eix.length+1)=nx':=by
           show (pf.nxs[a.eix.length+1]?).getD 0=_
           rw [getD_pre pb.nxs (by simp;omega)];simp only;rw [List.getElem?_append_right (by omega)];simp [show a.eix.length+1-a.nxs.length=0 by omega]
          rw [e1,e2,nxa];exact PanOk.weak see (PanOk.call hca hen (hcall _ _ _ _ _ _ _ hcl))
         ·cases hstep
    ·cases hstep
 ·show Sub (hv ((pf.hs[0]?).getD .lf)) (hv h0)
  rw [getD_pre p0.hs (by simp)];exact Sub.refl _
 ·show (pf.nxs[0]?).getD 0=nx0+ops.size
  rw [getD_pre p0.nxs (by simp)];simp
 ·intro J i c k hJ hk hi hab;rcases (hH J hJ).2 i hi c k hk with h | h
  ·obtain⟨j,hj,hx⟩:=List.any_eq_true.mp h;rw [hab j (List.mem_range.mp hj)] at hx;cases hx
  ·exact h
end Ax
end
end Go.Proofs.YtoookjadbhdfhaaDoor
