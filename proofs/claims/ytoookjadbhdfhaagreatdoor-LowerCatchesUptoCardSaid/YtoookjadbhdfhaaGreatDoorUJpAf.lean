/-
  AX: the closed executor: a plan that was made is a good one.
-/
import Derived.Test.YtoookjadbhdfhaaGreatDoorUJpAe
set_option linter.unusedSectionVars false
set_option linter.unusedSimpArgs false
set_option linter.unnecessarySimpa false
set_option linter.unusedVariables false
set_option linter.unusedSimpArgs false
set_option linter.unusedVariables false
namespace Go.Proofs.YtoookjadbhdfhaaGreatDoor
section
namespace Ax
/-- Effects and their places. -/
structure EI (ps:PS):Prop where
 at':∀ j i,ps.eix[j]?=some i→i<ps.acts.length∧((∃ c,ps.acts[i]?=some (.eff j c))∨(∃ v,ps.acts[i]?=some (.pan j v)∧ps.pan=true∧j+1=ps.eix.length))
 last:ps.pan=true→∃ i v,ps.eix[ps.eix.length-1]?=some i∧ps.eix.length≠0∧ps.acts[i]?=some (.pan (ps.eix.length-1) v)
theorem EI.add {ps:PS}(h:EI ps)(x:Act1):EI { ps with acts:=ps.acts++[x] }:=by
 refine⟨fun j i hj=>?_,fun hp=>?_⟩
 ·obtain⟨h1,h2⟩:=h.at' j i hj;refine⟨by simp;omega,?_⟩;rw [show ({ ps with acts:=ps.acts++[x] }:PS).acts=ps.acts++[x] from rfl,List.getElem?_append_left h1];exact h2
 ·obtain⟨i,v,h1,h2,h3⟩:=h.last hp;have hl:=(List.getElem?_eq_some_iff.mp h3).1;exact⟨i,v,h1,h2,by rw [show ({ ps with acts:=ps.acts++[x] }:PS).acts=ps.acts++[x] from rfl,List.getElem?_append_left hl];exact h3⟩
theorem EI.eff {ps:PS}(h:EI ps)(hp:ps.pan=false)(x:Act1)(h':Tr CB)(n':Nat)(q:Bool)(hx:(∃ c,x=.eff ps.eix.length c∧q=false)∨(∃ v,x=.pan ps.eix.length v∧q=true)) :
  EI ⟨ps.acts++[x],ps.hs++[h'],ps.nxs++[n'],ps.eix++[ps.acts.length],q⟩:=by
 refine⟨fun j i hj=>?_,fun hq=>?_⟩
 ·simp only at hj ⊢
  by_cases hlt:j<ps.eix.length
  ·rw [List.getElem?_append_left hlt] at hj;obtain⟨h1,h2⟩:=h.at' j i hj;refine⟨by simp;omega,.inl ?_⟩;rw [List.getElem?_append_left h1];rcases h2 with h2 | ⟨v,_,h3,_⟩
   ·exact h2
   ·rw [hp] at h3;cases h3
  ·have hl:=(List.getElem?_eq_some_iff.mp hj).1;simp at hl;have e:j=ps.eix.length:=by omega
   subst e;simp at hj;subst hj;refine⟨by simp,?_⟩;rcases hx with⟨c,e1,e2⟩ | ⟨v,e1,e2⟩
   ·left;exact⟨c,by simp [e1]⟩
   ·right;exact⟨v,by simp [e1],e2,by simp⟩
 ·simp only at hq ⊢;rcases hx with⟨c,e1,e2⟩ | ⟨v,e1,e2⟩
  ·rw [e2] at hq;cases hq
  ·exact⟨ps.acts.length,v,by simp,by simp,by simp [e1]⟩
theorem stepP_EI {P:Program}{G:Nat→CV}{call:Call1}{ops:Array Oper}{e0:Env}{nx0:Nat}{ps ps':PS}{o:Oper}(h:stepP P G call ops e0 nx0 ps o=some ps')(hi:EI ps):EI ps':=by
 unfold stepP at h;split at h
 ·cases h;exact hi.add _
 ·split at h
  ·cases h;exact hi.add _
  ·split at h
   ·cases h;exact hi.add _
   ·split at h
    ·cases h;exact hi.add _
    ·split at h
     ·cases h
     ·rename_i hp;split at h
      ·cases h;exact hi.eff hp _ _ _ _ (.inl ⟨_,rfl,rfl⟩)
      ·split at h
       ·split at h
        ·split at h
         ·cases h;exact hi.eff hp _ _ _ _ (.inl ⟨_,rfl,rfl⟩)
         ·cases h;exact hi.eff hp _ _ _ _ (.inr ⟨_,rfl,rfl⟩)
         ·cases h
        ·cases h
       ·cases h
  ·cases h
theorem planL_EI {P:Program}{G:Nat→CV}{call:Call1}{ops:Array Oper}{e0:Env}{nx0:Nat}:∀ {os:List Oper} {ps pf:PS},planL P G call ops e0 nx0 os ps=some pf→EI ps→EI pf
 | [],ps,pf,h,hi=>by cases h;exact hi
 | o::os,ps,pf,h,hi=>by
   unfold planL at h;split at h
   ·rename_i ps' hs;exact planL_EI h (stepP_EI hs hi)
   ·cases h
/-! the last look -/
def isNone {α:Type}:Option α→Bool
 | none=>true
 | some _=>false
def chkQ (P:Program)(G:Nat→CV)(ops:Array Oper)(e0:Env)(nx0:Nat)(pl:Plan)(i:Nat)(o:Oper)(c:CV)(J:Nat):Bool :=
 match (List.range (pl.m+1)).all (fun j=>!anc (ancs ops) i (pl.eix j) || Nat.blt j J) && (List.range (pl.m+1)).all (fun j=>!anc (ancs ops) (pl.eix j) i || Nat.ble J j) with
 | true=>match qstep P (heapL ops pl nx0 J (before ops i)) (rd G (envL ops pl e0 (before ops i))) o.op with
   | some c'=>beqV c' c
   | none=>false
 | false=>true
def eqON:Option Nat→Nat→Bool
 | some a,b=>Nat.beq a b
 | none,_=>false
def chkO (P:Program)(G:Nat→CV)(n:Nat)(ops:Array Oper)(e0:Env)(nx0:Nat)(pl:Plan)(i:Nat)(o:Oper):Bool :=
 (match o.dst with
  | some t=>Nat.blt t n && eqON (wr ops t) i
  | none=>true) &&
 (o.looksAt ops).all (fun t=>match wr ops t with
  | some j=>anc (ancs ops) i j || anc (ancs ops) j i
  | none=>true) &&
 o.after.toList.all (fun e=>!Region.binds .any e || Nat.blt e.on i) &&
 (match pl.act i with
  | .quiet c=>(List.range (pl.m+1)).all (chkQ P G ops e0 nx0 pl i o c)
  | .eff j _=>(List.range j).all (fun j'=>anc (ancs ops) i (pl.eix j'))
  | .pan j _=>(List.range j).all (fun j'=>anc (ancs ops) i (pl.eix j'))
  | _=>true)
def chkAll (P:Program)(G:Nat→CV)(n:Nat)(ops:Array Oper)(e0:Env)(nx0:Nat)(pl:Plan):Nat→List Oper→Bool
 | _,[]=>true
 | i,o::os=>chkO P G n ops e0 nx0 pl i o && chkAll P G n ops e0 nx0 pl (i+1) os
def chkH (ops:Array Oper)(nx0:Nat)(pf:PS)(pl:Plan):Bool :=
 (List.range (pl.m+1)).all fun J=>Nat.ble (nx0+ops.size) (pl.nxs J) && (List.range ops.size).all fun i=>match pl.act i with
  | .alloc _ _=>(List.range J).any (fun j=>anc (ancs ops) (pl.eix j) i) || isNone (pl.hs J (nx0+i))
  | _=>true
theorem chkAll_spec {P:Program}{G:Nat→CV}{n:Nat}{ops:Array Oper}{e0:Env}{nx0:Nat}{pl:Plan}:∀ {os:List Oper} {k:Nat},chkAll P G n ops e0 nx0 pl k os=true→∀ (i:Nat) o,os[i]?=some o→chkO P G n ops e0 nx0 pl (k+i) o=true
 | [],k,_,i,o,h=>by simp at h
 | x::os,k,hc,i,o,h=>by
   unfold chkAll at hc;simp only [Bool.and_eq_true] at hc;cases i with
   | zero=>cases h;exact hc.1
   | succ i =>
     have:=chkAll_spec hc.2 i o (by simpa using h);rw [show k+(i+1)=k+1+i by omega];exact this
theorem anc_lt {ops:Array Oper}(he:∀ i o,ops[i]?=some o→∀ e∈o.after.toList,Region.binds .any e=true→e.on<i):∀ {i j:Nat},anc (ancs ops) i j=true→j<i:=by
 intro i
 induction i using Nat.strongRecOn with
 | _ i ih =>
   intro j ha;obtain⟨o,ho,e,hm,hb,hj⟩:=anc_spec ha;have h1:=he i o ho e hm hb;rcases hj with hj | ⟨hlt,hj⟩
   ·omega
   ·have:=ih e.on hlt hj;omega
section agree
variable {ops:Array Oper} {a pf:PS} {e0:Env} {nx0 i:Nat}
theorem getD_pre {α:Type}{x y:List α}{d:α}{k:Nat}(h:∃ l,y=x++l)(hk:k<x.length):(y[k]?).getD d=(x[k]?).getD d:=by
 obtain⟨l,rfl⟩:=h;rw [List.getElem?_append_left hk]
theorem env_pre (hl:∀ j,anc (ancs ops) i j=true→j<i)(hp:Pre a pf)(ha:a.acts.length=i):envL ops (a.plan ops.size) e0 (before ops i)=envL ops (pf.plan ops.size) e0 (before ops i):=by
 funext t
 unfold envL;cases hw:wr ops t with
 | none=>rfl
 | some j =>
   simp only;cases hb:before ops i j with
   | false=>rfl
   | true =>
     have:=hl j hb;have e:(a.plan ops.size).act j=(pf.plan ops.size).act j:=(getD_pre hp.acts (by omega)).symm;simp only [e]
theorem new_pre {J:Nat}(hl:∀ j,anc (ancs ops) i j=true→j<i)(hp:Pre a pf)(ha:a.acts.length=i)(hJ:J≤a.eix.length)(b:Nat):newL ops (a.plan ops.size) nx0 J (before ops i) b=newL ops (pf.plan ops.size) nx0 J (before ops i) b:=by
 have he:∀ j,j<J→(a.plan ops.size).eix j=(pf.plan ops.size).eix j:=fun j hj=>(getD_pre hp.eix (by omega)).symm
 have key:∀ (x y:PS),(∀ j,j<i→(x.plan ops.size).act j=(y.plan ops.size).act j)→(∀ j,j<J→(x.plan ops.size).eix j=(y.plan ops.size).eix j)→∀ k,newL ops (x.plan ops.size) nx0 J (before ops i) b=some k→newL ops (y.plan ops.size) nx0 J (before ops i) b=some k:=by
  intro x y h1 h2 k hn;obtain⟨n1,n2,⟨c,n3⟩,n4⟩:=newL_some hn;have hlt:=hl _ n2;exact newL_of n1 n2 (by rw [← h1 _ hlt];exact n3) (fun j hj=>by rw [← h2 j hj];exact n4 j hj)
 have hact:∀ j,j<i→(a.plan ops.size).act j=(pf.plan ops.size).act j:=fun j hj=>(getD_pre hp.acts (by omega)).symm
 cases h1:newL ops (a.plan ops.size) nx0 J (before ops i) b with
 | some k=>exact (key a pf hact he k h1).symm
 | none =>
   cases h2:newL ops (pf.plan ops.size) nx0 J (before ops i) b with
   | none=>rfl
   | some k=>rw [key pf a (fun j hj=>(hact j hj).symm) (fun j hj=>(he j hj).symm) k h2] at h1;cases h1
theorem see_pre {J:Nat}(hl:∀ j,anc (ancs ops) i j=true→j<i)(hp:Pre a pf)(ha:a.acts.length=i)(hJ:J≤a.eix.length)(hh:a.eix.length+1=a.hs.length) :
  Sub (hv (seeT ops (a.plan ops.size) nx0 J i a.acts ((a.hs[J]?).getD .lf) i)) (heapL ops (pf.plan ops.size) nx0 J (before ops i)):=by
 intro b k hb;unfold heapL;rcases seeT_get i b k hb with h1 | ⟨h1,h2⟩
 ·rw [new_pre hl hp ha hJ] at h1;rw [h1]
 ·cases h3:newL ops (pf.plan ops.size) nx0 J (before ops i) b with
  | some k' =>
    obtain⟨n1,n2,_,_⟩:=newL_some h3;have hlt:=hl _ n2;have:=h1 (b-nx0) hlt (by omega);rw [new_pre hl hp ha hJ,h3] at this;cases this
  | none =>
    simp only
    show hv ((pf.hs[J]?).getD .lf) b=some k
    rw [getD_pre hp.hs (by omega)];exact h2
end agree
theorem EffOk.weak {P:Program}{G:Nat→CV}{o:Oper}{ρ:Operand→CV}{H H1 H':Heap}{nx nx':Nat}{c:CV}(s:Sub H1 H)(h:EffOk P G o ρ H1 nx c H' nx'):EffOk P G o ρ H nx c H' nx' :=
 fun M a w next Q g r hx k=>h M a w next Q g (r.weak s) hx fun M' z w' h1 h2 h3=>k M' z w' h1 h2 (h3.src s)
theorem PanOk.weak {P:Program}{G:Nat→CV}{o:Oper}{ρ:Operand→CV}{H H1 H':Heap}{nx nx':Nat}{c:CV}(s:Sub H1 H)(h:PanOk P G o ρ H1 nx c H' nx'):PanOk P G o ρ H nx c H' nx' :=
 fun M a w next Q g r hx k=>h M a w next Q g (r.weak s) hx fun M' z w' h1 h2 h3=>k M' z w' h1 h2 (h3.src s)
theorem EffOk.estep {P:Program}{G:Nat→CV}{o:Oper}{ρ:Operand→CV}{h:Tr CB}{nx:Nat}{c:CV}{d:Dl}(he:estep P (hv h) nx ρ o.op=some (c,d)):EffOk P G o ρ (hv h) nx c (hv (d.tr h nx)) (d.nx nx):=by
 intro M a w next Q g r hx k
 obtain⟨M',w',h1,r',f'⟩:=estep_sound he r hx;have s:=Dl.tr_sub h nx d;unfold Oper.wp;rcases h1 with⟨z,h1,h2⟩ | ⟨h1,h2⟩
 ·rw [h1];exact k M' z w' h2 (r'.weak s) (f'.trans (.weak s))
 ·rw [h1];subst h2;exact k M' undef w' (.any _) (r'.weak s) (f'.trans (.weak s))
theorem EffOk.call {P:Program}{G:Nat→CV}{o:Oper}{ρ:Operand→CV}{H H':Heap}{nx nx':Nat}{c:CV}{f:FuncId}{args:List CV}(hq:callA ρ o.op=some (f,args))(he:enters P f=true)
  (h:ACall P G f args H nx fun r H1 n1=>r=.ret c∧H1=H'∧n1=nx'):EffOk P G o ρ H nx c H' nx':=by
 intro M a w next Q g r hx k
 obtain⟨vs,h1,h2⟩:=callA_sound (w:=w) hq he hx;unfold Oper.wp;rw [h1,Oper.upon_enter];refine (h M w vs g r h2).mono ?_;rintro en w' ⟨M',x,H1,n1,a1,a2,a3,rfl,rfl,rfl⟩;cases en <;> simp only [EndR] at a1;exact k M' _ w' a1 a2 a3
theorem PanOk.call {P:Program}{G:Nat→CV}{o:Oper}{ρ:Operand→CV}{H H':Heap}{nx nx':Nat}{c:CV}{f:FuncId}{args:List CV}(hq:callA ρ o.op=some (f,args))(he:enters P f=true)
  (h:ACall P G f args H nx fun r H1 n1=>r=.pan c∧H1=H'∧n1=nx'):PanOk P G o ρ H nx c H' nx':=by
 intro M a w next Q g r hx k
 obtain⟨vs,h1,h2⟩:=callA_sound (w:=w) hq he hx;unfold Oper.wp;rw [h1,Oper.upon_enter];refine (h M w vs g r h2).mono ?_;rintro en w' ⟨M',x,H1,n1,a1,a2,a3,rfl,rfl,rfl⟩;cases en <;> simp only [EndR] at a1;obtain⟨z,e,hz⟩:=a1;subst e;exact k M' z w' hz a2 a3
theorem plan_ok {P:Program}{G:Nat→CV}{call:Call1}(hcall:CallOk P G call){n:Nat}{ops:Array Oper}{e0:Env}{h0:Tr CB}{nx0:Nat}{pf:PS}
  (hpl:planL P G call ops e0 nx0 ops.toList ⟨[],[h0],[nx0+ops.size],[],false⟩=some pf) (hc:chkAll P G n ops e0 nx0 (pf.plan ops.size) 0 ops.toList=true) (hh:chkH ops nx0 pf (pf.plan ops.size)=true) :
  Plan.Ok P G n ops (pf.plan ops.size) e0 (hv h0) nx0:=by
 obtain⟨p0,l0,s0⟩:=planL_steps hpl;obtain⟨q1,q2,steps⟩:=s0 rfl rfl;have ei:=planL_EI hpl ⟨fun j i h=>by simp at h,fun h=>by cases h⟩;have hlen:pf.acts.length=ops.size:=by simpa using l0
 have cO:∀ i o,ops[i]?=some o→chkO P G n ops e0 nx0 (pf.plan ops.size) i o=true:=fun i o ho=>by
  have:=chkAll_spec hc i o (by simpa using ho);simpa using this
 have hedge:∀ i o,ops[i]?=some o→∀ e∈o.after.toList,Region.binds .any e=true→e.on<i:=by
  intro i o ho e he hb;have:=cO i o ho;unfold chkO at this;simp only [Bool.and_eq_true] at this;have h3:=List.all_eq_true.mp this.1.2 e he;rw [hb] at h3;exact blt_lt (by simpa using h3)
 have hl:∀ i j,anc (ancs ops) i j=true→j<i:=fun i j h=>anc_lt hedge h
 have hH:∀ J,J≤(pf.plan ops.size).m→nx0+ops.size≤(pf.plan ops.size).nxs J∧∀ i,i<ops.size→(∀ c k,(pf.plan ops.size).act i=.alloc c k→(List.range J).any (fun j=>anc (ancs ops) ((pf.plan ops.size).eix j) i)=true∨(pf.plan ops.size).hs J (nx0+i)=none):=by
  intro J hJ;have:=List.all_eq_true.mp hh J (List.mem_range.mpr (by omega));simp only [Bool.and_eq_true] at this;refine⟨Nat.le_of_ble_eq_true this.1,fun i hi c k hk=>?_⟩;have h2:=List.all_eq_true.mp this.2 i (List.mem_range.mpr hi);rw [hk] at h2;simp only [Bool.or_eq_true] at h2;rcases h2 with h2 | h2
  ·exact .inl h2
  ·right;cases hx:(pf.plan ops.size).hs J (nx0+i) with
   | none=>rfl
   | some k=>rw [hx] at h2;cases h2
 have eixm:(∃ j v,(pf.plan ops.size).act ((pf.plan ops.size).eix (pf.plan ops.size).m)=.pan j v∧(pf.plan ops.size).eix (pf.plan ops.size).m<ops.size)∨ops.size≤(pf.plan ops.size).eix (pf.plan ops.size).m:=by
  cases hp:pf.pan with
  | true =>
    obtain⟨i,v,h1,h2,h3⟩:=ei.last hp;left;have em:(pf.plan ops.size).m=pf.eix.length-1:=by simp [PS.plan,hp]
    have ee:(pf.plan ops.size).eix (pf.plan ops.size).m=i:=by rw [em];simp [PS.plan,h1]
    rw [ee];refine⟨pf.eix.length-1,v,by simp [PS.plan,h3],?_⟩;have:=(List.getElem?_eq_some_iff.mp h3).1;omega
  | false =>
    right;have em:(pf.plan ops.size).m=pf.eix.length:=by simp [PS.plan,hp]
    rw [em];simp [PS.plan]
 have eixlt:∀ j,j<(pf.plan ops.size).m→(pf.plan ops.size).eix j<ops.size∧∃ c,(pf.plan ops.size).act ((pf.plan ops.size).eix j)=.eff j c:=by
  intro j hj;have hjl:j<pf.eix.length:=by
   simp only [PS.plan] at hj;split at hj <;> omega
  have he:pf.eix[j]?=some pf.eix[j]:=by simp [hjl]
  obtain⟨h1,h2⟩:=ei.at' j _ he;have ee:(pf.plan ops.size).eix j=pf.eix[j]:=by simp [PS.plan,he]
  rw [ee];refine⟨by omega,?_⟩;rcases h2 with⟨c,h2⟩ | ⟨v,h2,h3,h4⟩
  ·exact⟨c,by simp [PS.plan,h2]⟩
  ·have em:(pf.plan ops.size).m=pf.eix.length-1:=by simp [PS.plan,h3]
   omega
 refine⟨fun i o ho=>?_,?_,?_,fun j hj=>(hH j hj).1,?_,eixlt,eixm⟩
 ·have hco:=cO i o ho;unfold chkO at hco;simp only [Bool.and_eq_true] at hco;obtain⟨⟨⟨c1,c2⟩,c3⟩,c4⟩:=hco;refine⟨fun t ht=>?_,fun t ht j hj=>?_,hedge i o ho,?_⟩
  ·rw [ht] at c1;simp only [Bool.and_eq_true] at c1;refine⟨blt_lt c1.1,?_⟩;cases hw:wr ops t with
   | none=>rw [hw] at c1;exact absurd c1.2 (by simp [eqON])
   | some j=>rw [hw] at c1;rw [beq_eq c1.2]
  ·have:=List.all_eq_true.mp c2 t ht;rw [hj] at this;simpa using this
  ·obtain⟨a,b,hstep,ha,pa,pb,sa,sb⟩:=steps i o (by simpa using ho);have ha':a.acts.length=i:=by simpa using ha
   have henv:=env_pre (e0:=e0) (hl i) pa ha';have actb:∀ x,b.acts=a.acts++[x]→(pf.plan ops.size).act i=x:=by
    intro x hx
    show (pf.acts[i]?).getD .skip=x
    rw [getD_pre pb.acts (by rw [hx];simp;omega),hx];simp [← ha']
   unfold stepP at hstep;rw [ha',henv] at hstep;split at hstep
   ·rename_i hp;simp only [Bool.and_eq_true] at hp;cases hstep;rw [actb .dead rfl];obtain⟨e1,e2⟩:=pa.pan hp.1;obtain⟨i',v,f1,f2,f3⟩:=ei.last e1;have em:(pf.plan ops.size).m=pf.eix.length-1:=by simp [PS.plan,e1]
    have ee:(pf.plan ops.size).eix (pf.plan ops.size).m=i':=by rw [em];simp [PS.plan,f1]
    refine⟨pf.eix.length-1,v,by rw [ee];simp [PS.plan,f3],?_⟩;rw [ee];have:=hp.2;rw [← e2,f1] at this;exact this
   ·split at hstep
    ·rename_i hg;cases hstep;rw [actb .skip rfl];exact hg
    ·rename_i hg;split at hstep
     ·rename_i c k has;cases hstep;rw [actb (.alloc c k) rfl];exact⟨hg,has⟩
     ·split at hstep
      ·rename_i c hq;cases hstep;rw [actb (.quiet c) rfl] at c4 ⊢;refine⟨hg,fun J hJ k1 k2=>?_⟩;have h5:=List.all_eq_true.mp c4 J (List.mem_range.mpr (by omega));unfold chkQ at h5;have b1:(List.range ((pf.plan ops.size).m+1)).all (fun j=>!anc (ancs ops) i ((pf.plan ops.size).eix j) || Nat.blt j J)=true:=by
        rw [List.all_eq_true];intro j hj;cases hx:anc (ancs ops) i ((pf.plan ops.size).eix j) with
        | false=>rfl
        | true=>rw [lt_blt (k1 j (by have:=List.mem_range.mp hj;omega) hx)];rfl
       have b2:(List.range ((pf.plan ops.size).m+1)).all (fun j=>!anc (ancs ops) ((pf.plan ops.size).eix j) i || Nat.ble J j)=true:=by
        rw [List.all_eq_true];intro j hj;cases hx:anc (ancs ops) ((pf.plan ops.size).eix j) i with
        | false=>rfl
        | true=>rw [Nat.ble_eq_true_of_le (k2 j (by have:=List.mem_range.mp hj;omega) hx)];rfl
       rw [b1,b2] at h5;simp only [Bool.and_self] at h5;split at h5
       ·rename_i c' hq';rw [hq',beqV_eq h5]
       ·cases h5
      ·split at hstep
       ·cases hstep
       ·rename_i hnp;have hJm:∀ x y z q,b=⟨x,y,z,a.eix++[i],q⟩→(pf.plan ops.size).eix a.eix.length=i:=by
         intro x y z q hb
         show (pf.eix[a.eix.length]?).getD ops.size=i
         rw [getD_pre pb.eix (by rw [hb];simp),hb];simp
        have see:=see_pre (nx0:=nx0) (hl i) pa ha' (Nat.le_refl a.eix.length) sa;have nxa:(pf.plan ops.size).nxs a.eix.length=(a.nxs[a.eix.length]?).getD 0:=getD_pre pa.nxs (by omega);split at hstep
        ·rename_i c d hes;cases hstep;have hact:=actb (.eff a.eix.length c) rfl;have hei:=hJm _ _ _ _ rfl;have hlt:a.eix.length<(pf.plan ops.size).m:=by
          have hle:a.eix.length<pf.eix.length:=by
           obtain⟨l,hl'⟩:=pb.eix;rw [hl'];simp
          simp only [PS.plan];split
          ·rename_i hpt;obtain⟨i',v,f1,f2,f3⟩:=ei.last hpt;refine Nat.lt_of_le_of_ne (by omega) fun e=>?_
           rw [← e] at f1;have:i'=i:=by
            have:(pf.plan ops.size).eix a.eix.length=i':=by simp [PS.plan,f1]
            rw [← this,hei]
           subst this;have:(pf.plan ops.size).act i'=.pan (pf.eix.length-1) v:=by simp [PS.plan,f3]
           rw [hact] at this;cases this
          ·exact hle
         rw [hact] at c4 ⊢;refine⟨hg,hei,hlt,fun j' hj'=>List.all_eq_true.mp c4 j' (List.mem_range.mpr hj'),?_⟩;have e1:(pf.plan ops.size).hs (a.eix.length+1)=hv (d.tr (seeT ops (a.plan ops.size) nx0 a.eix.length i a.acts ((a.hs[a.eix.length]?).getD .lf) i) ((a.nxs[a.eix.length]?).getD 0)):=by
          show hv ((pf.hs[a.eix.length+1]?).getD .lf)=_
          rw [getD_pre pb.hs (by simp;omega)];simp only;rw [List.getElem?_append_right (by omega)];simp [show a.eix.length+1-a.hs.length=0 by omega,ha']
         have e2:(pf.plan ops.size).nxs (a.eix.length+1)=d.nx ((a.nxs[a.eix.length]?).getD 0):=by
          show (pf.nxs[a.eix.length+1]?).getD 0=_
          rw [getD_pre pb.nxs (by simp;omega)];simp only;rw [List.getElem?_append_right (by omega)];simp [show a.eix.length+1-a.nxs.length=0 by omega]
         rw [e1,e2,nxa];exact EffOk.weak see (EffOk.estep hes)
        ·split at hstep
         case h_2=>cases hstep
         rename_i f args hca;split at hstep
         case h_2=>cases hstep
         rename_i hen;split at hstep
         ·rename_i c h' nx' hcl;cases hstep;have hact:=actb (.eff a.eix.length c) rfl;have hei:=hJm _ _ _ _ rfl;have hlt:a.eix.length<(pf.plan ops.size).m:=by
           have hle:a.eix.length<pf.eix.length:=by
            obtain⟨l,hl'⟩:=pb.eix;rw [hl'];simp
           simp only [PS.plan];split
           ·rename_i hpt;obtain⟨i',v,f1,f2,f3⟩:=ei.last hpt;refine Nat.lt_of_le_of_ne (by omega) fun e=>?_
            rw [← e] at f1;have:i'=i:=by
             have:(pf.plan ops.size).eix a.eix.length=i':=by simp [PS.plan,f1]
             rw [← this,hei]
            subst this;have:(pf.plan ops.size).act i'=.pan (pf.eix.length-1) v:=by simp [PS.plan,f3]
            rw [hact] at this;cases this
           ·exact hle
          rw [hact] at c4 ⊢;refine⟨hg,hei,hlt,fun j' hj'=>List.all_eq_true.mp c4 j' (List.mem_range.mpr hj'),?_⟩;have e1:(pf.plan ops.size).hs (a.eix.length+1)=hv h':=by
           show hv ((pf.hs[a.eix.length+1]?).getD .lf)=_
           rw [getD_pre pb.hs (by simp;omega)];simp only;rw [List.getElem?_append_right (by omega)];simp [show a.eix.length+1-a.hs.length=0 by omega]
          have e2:(pf.plan ops.size).nxs (a.eix.length+1)=nx':=by
           show (pf.nxs[a.eix.length+1]?).getD 0=_
           rw [getD_pre pb.nxs (by simp;omega)];simp only;rw [List.getElem?_append_right (by omega)];simp [show a.eix.length+1-a.nxs.length=0 by omega]
          rw [e1,e2,nxa];exact EffOk.weak see (EffOk.call hca hen (hcall _ _ _ _ _ _ _ hcl))
         ·rename_i v h' nx' hcl;cases hstep;have hact:=actb (.pan a.eix.length v) rfl;have hei:=hJm _ _ _ _ rfl;obtain⟨e3,e4⟩:=pb.pan rfl;have hm:a.eix.length=(pf.plan ops.size).m:=by
           simp only [PS.plan,e3,e4];simp
          rw [hact] at c4 ⊢;refine⟨hg,hei,hm,fun j' hj'=>List.all_eq_true.mp c4 j' (List.mem_range.mpr hj'),?_⟩;have e1:(pf.plan ops.size).hs (a.eix.length+1)=hv h':=by
           show hv ((pf.hs[a.eix.length+1]?).getD .lf)=_
           rw [getD_pre pb.hs (by simp;omega)];simp only;rw [List.getElem?_append_right (by omega)];simp [show a.eix.length+1-a.hs.length=0 by omega]
          have e2:(pf.plan ops.size).nxs (a.eix.length+1)=nx':=by
           show (pf.nxs[a.eix.length+1]?).getD 0=_
           rw [getD_pre pb.nxs (by simp;omega)];simp only;rw [List.getElem?_append_right (by omega)];simp [show a.eix.length+1-a.nxs.length=0 by omega]
          rw [e1,e2,nxa];exact PanOk.weak see (PanOk.call hca hen (hcall _ _ _ _ _ _ _ hcl))
         ·cases hstep
    ·cases hstep
 ·show Sub (hv ((pf.hs[0]?).getD .lf)) (hv h0)
  rw [getD_pre p0.hs (by simp)];exact Sub.refl _
 ·show (pf.nxs[0]?).getD 0=nx0+ops.size
  rw [getD_pre p0.nxs (by simp)];simp
 ·intro J i c k hJ hk hi hab;rcases (hH J hJ).2 i hi c k hk with h | h
  ·obtain⟨j,hj,hx⟩:=List.any_eq_true.mp h;rw [hab j (List.mem_range.mp hj)] at hx;cases hx
  ·exact h
end Ax
end
section
namespace Ax
abbrev Out:=AExit×Tr CV×Tr CB×Nat
/-- The environment behind a drawn region. -/
def endE (ops:List Oper)(acts:List Act1)(e:Tr CV):Tr CV:=match ops,acts with
 | o::os,a::as=>endE os as (setT e o.dst a.val)
 | _,_=>e
/-- The new blocks that no effect has had. -/
def endH (ops:Array Oper)(pl:Plan)(nx0:Nat)(acts:List Act1)(h:Tr CB):Nat→Tr CB
 | 0=>h
 | k+1=>match (acts[k]?).getD .skip with
   | .alloc _ kk=>match (List.range pl.m).any (fun j=>anc (ancs ops) (pl.eix j) k) with
     | true=>endH ops pl nx0 acts h k
     | false=>Tr.put 20 (endH ops pl nx0 acts h k) (nx0+k) (some kk)
   | _=>endH ops pl nx0 acts h k
theorem endH_get {ops:Array Oper}{ps:PS}{nx0:Nat}{h:Tr CB}:∀ (k b:Nat) (kk:CB),k≤ops.size→(endH ops (ps.plan ops.size) nx0 ps.acts h k).get b=some kk→newL ops (ps.plan ops.size) nx0 (ps.plan ops.size).m (allL ops) b=some kk∨((∀ i',i'<k→b=nx0+i'→newL ops (ps.plan ops.size) nx0 (ps.plan ops.size).m (allL ops) b=none)∧h.get b=some kk)
 | 0,b,kk,_,hg=>.inr ⟨fun i' hi=>absurd hi (Nat.not_lt_zero _),hg⟩
 | k+1,b,kk,hk,hg=>by
   have step:(endH ops (ps.plan ops.size) nx0 ps.acts h k).get b=some kk→(b=nx0+k→newL ops (ps.plan ops.size) nx0 (ps.plan ops.size).m (allL ops) b=none)→newL ops (ps.plan ops.size) nx0 (ps.plan ops.size).m (allL ops) b=some kk∨((∀ i',i'<k+1→b=nx0+i'→newL ops (ps.plan ops.size) nx0 (ps.plan ops.size).m (allL ops) b=none)∧h.get b=some kk):=by
    intro h1 h2;rcases endH_get k b kk (by omega) h1 with h3 | ⟨h3,h4⟩
    ·exact .inl h3
    ·refine .inr ⟨fun i' hi' hb=>?_,h4⟩
     by_cases e:i'=k
     ·subst e;exact h2 hb
     ·exact h3 i' (by omega) hb
   have nonew:(∀ c kk,(ps.plan ops.size).act k≠.alloc c kk)∨(List.range (ps.plan ops.size).m).any (fun j=>anc (ancs ops) ((ps.plan ops.size).eix j) k)=true→b=nx0+k→newL ops (ps.plan ops.size) nx0 (ps.plan ops.size).m (allL ops) b=none:=by
    intro hor hb;cases hn:newL ops (ps.plan ops.size) nx0 (ps.plan ops.size).m (allL ops) b with
    | none=>rfl
    | some k2 =>
      obtain⟨n1,n2,⟨c,n3⟩,n4⟩:=newL_some hn;have e:b-nx0=k:=by omega
      rw [e] at n2 n3 n4;rcases hor with hor | hor
      ·exact absurd n3 (hor _ _)
      ·obtain⟨j,hj,ha⟩:=List.any_eq_true.mp hor;rw [n4 j (List.mem_range.mp hj)] at ha;cases ha
   unfold endH at hg;split at hg
   ·rename_i c k2 hact;split at hg
    ·rename_i hc;exact step hg (nonew (.inr hc))
    ·rename_i hc;rcases Tr.get_put _ _ _ _ _ _ hg with⟨a,e⟩ | ⟨a,e⟩
     ·cases e;left;subst a;refine newL_of (c:=c) (by omega) (by simp only [Nat.add_sub_cancel_left,allL];exact lt_blt (by omega)) (by simp only [Nat.add_sub_cancel_left];exact hact) (fun j hj=>?_);simp only [Nat.add_sub_cancel_left];have:=List.any_eq_false.mp hc j (List.mem_range.mpr hj);simpa using this
     ·exact step e (fun hb=>absurd hb a)
   ·rename_i hna;exact step hg (nonew (.inl fun c k2 hx=>hna c k2 hx))
theorem endH_sub {ops:Array Oper}{ps:PS}{nx0:Nat}:Sub (hv (endH ops (ps.plan ops.size) nx0 ps.acts ((ps.hs[(ps.plan ops.size).m]?).getD .lf) ops.size)) (heapL ops (ps.plan ops.size) nx0 (ps.plan ops.size).m (allL ops)):=by
 intro b k hb;unfold heapL;rcases endH_get ops.size b k (Nat.le_refl _) hb with h1 | ⟨h1,h2⟩
 ·rw [h1]
 ·cases h3:newL ops (ps.plan ops.size) nx0 (ps.plan ops.size).m (allL ops) b with
  | some k' =>
    obtain⟨n1,n2,_,_⟩:=newL_some h3;have:=h1 (b-nx0) (blt_lt n2) (by omega);rw [h3] at this;cases this
  | none=>exact h2
theorem endE_get {ops:Array Oper}{acts:List Act1}{e0:Env}:∀ (os:List Oper) (as:List Act1) (e:Tr CV) (k:Nat),ops.toList.drop k=os→acts.drop k=as→acts.length=ops.size→(∀ i o t,ops[i]?=some o→o.dst=some t→wr ops t=some i) →
  (∀ t,vw e t=.any∨vw e t=(match wr ops t with | some i=>if i<k then ((acts[i]?).getD .skip).val else e0 t | none=>e0 t)) →
  ∀ t,vw (endE os as e) t=.any∨vw (endE os as e) t=(match wr ops t with | some i=>((acts[i]?).getD .skip).val | none=>e0 t)
 | [],as,e,k,h1,h2,h3,h4,h5,t=>by
   have hk:ops.size≤k:=by
    have:=congrArg List.length h1;simp at this;omega
   have:endE [] as e=e:=by cases as <;> rfl
   rw [this];rcases h5 t with h | h
   ·exact .inl h
   ·right;rw [h];cases hw:wr ops t with
    | none=>rfl
    | some i =>
      obtain⟨o,ho,_⟩:=wr_some hw;have:=(Array.getElem?_eq_some_iff.mp ho).1;simp only;rw [if_pos (by omega)]
 | o::os,[],e,k,h1,h2,h3,h4,h5,t=>by
   have a1:=congrArg List.length h1;have a2:=congrArg List.length h2;simp at a1 a2;omega
 | o::os,a::as,e,k,h1,h2,h3,h4,h5,t=>by
   have ho:ops[k]?=some o:=by
    have:=congrArg List.head? h1;simpa [List.head?_drop] using this
   have ha:acts[k]?=some a:=by
    have:=congrArg List.head? h2;simpa [List.head?_drop] using this
   refine endE_get os as (setT e o.dst a.val) (k+1) (by have:=congrArg List.tail h1;simpa [List.tail_drop] using this) (by have:=congrArg List.tail h2;simpa [List.tail_drop] using this) h3 h4 (fun t'=>?_) t;rcases vw_setT e o.dst a.val t' with h | h
   ·rw [h]
    by_cases hd:o.dst=some t'
    ·right;have hw:=h4 k o t' ho hd;rw [hw,hd];simp [putE,ha]
    ·have e1:putE (vw e) o.dst a.val t'=vw e t':=by
      cases hdd:o.dst with
      | none=>rfl
      | some d=>simp only [putE];rw [if_neg (fun x=>hd (by rw [hdd,x]))]
     rw [e1];rcases h5 t' with h6 | h6
     ·exact .inl h6
     ·right;rw [h6];cases hw:wr ops t' with
      | none=>rfl
      | some i =>
        have hne:i≠k:=fun x=>by
         obtain⟨o',g1,g2⟩:=wr_some hw;rw [x,ho] at g1;cases g1;exact hd g2
        simp only
        by_cases hlt:i<k
        ·rw [if_pos hlt,if_pos (by omega)]
        ·rw [if_neg hlt,if_neg (by omega)]
   ·exact .inl h
def runD (P:Program)(G:Nat→CV)(call:Call1)(n:Nat)(ops:Array Oper)(e:Tr CV)(h:Tr CB)(nx:Nat):Option Out :=
 match P.follows .mixedOrders with
 | true=>match planL P G call ops (vw e) nx ops.toList ⟨[],[h],[nx+ops.size],[],false⟩ with
   | some pf=>match chkAll P G n ops (vw e) nx (pf.plan ops.size) 0 ops.toList && chkH ops nx pf (pf.plan ops.size) with
     | true=>match pf.pan with
       | true=>match (pf.plan ops.size).act ((pf.plan ops.size).eix (pf.plan ops.size).m) with
         | .pan _ v=>some (.pan v,.lf,(pf.hs[(pf.plan ops.size).m+1]?).getD .lf,(pf.plan ops.size).nxs ((pf.plan ops.size).m+1))
         | _=>none
       | false=>some (.normal,endE ops.toList pf.acts e,endH ops (pf.plan ops.size) nx pf.acts ((pf.hs[(pf.plan ops.size).m]?).getD .lf) ops.size,(pf.plan ops.size).nxs (pf.plan ops.size).m)
     | false=>none
   | none=>none
 | false=>none
/-- A post on a heap and an environment of which less is known. -/
theorem AWp.weakPost {P:Program}{G:Nat→CV}{n:Nat}{c:Code}{e:Env}{H:Heap}{nx:Nat}{Q Q':AExit→Env→Heap→Nat→Prop}(h:AWp P G n c e H nx Q)
  (hq:∀ x e1 H1 nx1,Q x e1 H1 nx1→∃ e2 H2,(∀ t,e2 t=e1 t∨e2 t=.any)∧Sub H2 H1∧Q' x e2 H2 nx1):AWp P G n c e H nx Q':=fun M a w g r v =>
 wp_mono (h M a w g r v) fun ex a' w' ⟨M',x,e',H',nx',h1,h2,h3,h4,h5⟩=>by
  obtain⟨e2,H2,k1,k2,k3⟩:=hq _ _ _ _ h5;exact⟨M',x,e2,H2,nx',h1,h2.weak k2,h3.trans (.weak k2),h4.weak k1,k3⟩
theorem runD_sound {P:Program}{G:Nat→CV}{call:Call1}(hc:CallOk P G call){n id:Nat}{ops:Array Oper}{e:Tr CV}{h:Tr CB}{nx:Nat}{x:AExit}{e':Tr CV}{h':Tr CB}{nx':Nat}
  (hr:runD P G call n ops e h nx=some (x,e',h',nx')):AWp P G n (.region id ops true) (vw e) (hv h) nx (Is x e' h' nx'):=by
 unfold runD at hr;split at hr
 case h_2=>cases hr
 rename_i hm;split at hr
 case h_2=>cases hr
 rename_i pf hpl;split at hr
 case h_2=>cases hr
 rename_i hck;simp only [Bool.and_eq_true] at hck;have ok:=plan_ok hc hpl hck.1 hck.2;obtain⟨_,l0,_⟩:=planL_steps hpl;have hlen:pf.acts.length=ops.size:=by simpa using l0
 have hwr:∀ i o t,ops[i]?=some o→o.dst=some t→wr ops t=some i:=fun i o t ho ht=>((ok.op i o ho).dst t ht).2
 split at hr
 ·rename_i hp;split at hr
  case h_2=>cases hr
  rename_i j v hA;cases hr;have hlt:(pf.plan ops.size).eix (pf.plan ops.size).m<ops.size:=by
   rcases ok.eixm with⟨_,_,_,hx⟩ | hx
   ·exact hx
   ·have hge:pf.acts[(pf.plan ops.size).eix (pf.plan ops.size).m]?=none:=List.getElem?_eq_none (by omega);simp only [PS.plan] at hA hge;rw [hge] at hA;cases hA
  refine AWp.weakPost (AWp.drawn (Q:=fun x e1 H1 nx1=>x=.pan v∧H1=(pf.plan ops.size).hs ((pf.plan ops.size).m+1)∧nx1=(pf.plan ops.size).nxs ((pf.plan ops.size).m+1)) hm ok (fun j' v' hv' e'=>?_) (fun hge=>?_)) ?_
  ·rw [hA] at hv';cases hv';exact⟨rfl,rfl,rfl⟩
  ·omega
  ·rintro x e1 H1 nx1 ⟨rfl,rfl,rfl⟩;exact⟨vw .lf,_,fun t=>.inr rfl,Sub.refl _,rfl,rfl,rfl,rfl⟩
 ·rename_i hp;cases hr;refine AWp.weakPost (AWp.drawn (Q:=fun x e1 H1 nx1=>x=.normal∧e1=envL ops (pf.plan ops.size) (vw e) (allL ops)∧H1=heapL ops (pf.plan ops.size) nx (pf.plan ops.size).m (allL ops)∧nx1=(pf.plan ops.size).nxs (pf.plan ops.size).m) hm ok (fun j v hv' e'=>?_) (fun _=>⟨rfl,rfl,rfl,rfl⟩)) ?_
  ·have em:(pf.plan ops.size).m=pf.eix.length:=by simp [PS.plan,hp]
   rw [em] at hv';have e1:(pf.plan ops.size).eix pf.eix.length=ops.size:=by simp [PS.plan]
   rw [e1] at hv';have:(pf.plan ops.size).act ops.size=.skip:=by
    show (pf.acts[ops.size]?).getD .skip=.skip
    rw [List.getElem?_eq_none (by omega)];rfl
   rw [this] at hv';cases hv'
  ·rintro x e1 H1 nx1 ⟨rfl,rfl,rfl,rfl⟩;refine⟨_,_,fun t=>?_,endH_sub,rfl,rfl,rfl,rfl⟩;have:=endE_get (ops:=ops) (acts:=pf.acts) (e0:=vw e) ops.toList pf.acts e 0 (by simp) (by simp) hlen hwr (fun t=>by
    right;cases hw:wr ops t <;> simp) t
   rcases this with h1 | h1
   ·exact .inr h1
   ·left;rw [h1];unfold envL;cases hw:wr ops t with
    | none=>rfl
    | some i =>
      obtain⟨o,ho,_⟩:=wr_some hw;have hlt:=(Array.getElem?_eq_some_iff.mp ho).1;simp only [allL,lt_blt hlt];rfl
def loopN (body:Tr CV→Tr CB→Nat→Option Out):Nat→Tr CV→Tr CB→Nat→Option Out
 | 0,_,_,_=>none
 | k+1,e,h,nx=>match body e h nx with
   | some (.normal,e',h',nx')=>loopN body k e' h' nx'
   | r=>r
def runC (P:Program)(G:Nat→CV)(call:Call1)(lf n:Nat):Code→Tr CV→Tr CB→Nat→Option Out
 | .skip,e,h,nx=>some (.normal,e,h,nx)
 | .region _ ops false,e,h,nx=>runL P G call n ops ops.toList e h nx
 | .region _ ops true,e,h,nx=>runD P G call n ops e h nx
 | .seq a b,e,h,nx=>match runC P G call lf n a e h nx with
   | some (.normal,e',h',nx')=>runC P G call lf n b e' h' nx'
   | r=>r
 | .cond c a b,e,h,nx=>match rd G (vw e) c with
   | .bool true=>runC P G call lf n a e h nx
   | .bool false=>runC P G call lf n b e h nx
   | _=>none
 | .block id c,e,h,nx=>match runC P G call lf n c e h nx with
   | some (.exit i,e',h',nx')=>match Nat.beq i id with
     | true=>some (.normal,e',h',nx')
     | false=>some (.exit i,e',h',nx')
   | r=>r
 | .loop c,e,h,nx=>loopN (fun e h nx=>runC P G call lf n c e h nx) lf e h nx
 | .exit id,e,h,nx=>some (.exit id,e,h,nx)
 | .ret,e,h,nx=>some (.ret,e,h,nx)
 | _,_,_,_=>none
theorem runC_sound {P:Program}{G:Nat→CV}{call:Call1}(hc:CallOk P G call){lf n:Nat}:∀ (c:Code) (e:Tr CV) (h:Tr CB) (nx:Nat) (x:AExit) (e':Tr CV) (h':Tr CB) (nx':Nat),
  runC P G call lf n c e h nx=some (x,e',h',nx')→AWp P G n c (vw e) (hv h) nx (Is x e' h' nx')
 | .skip,e,h,nx,x,e',h',nx',hr=>by
   cases hr;exact Xi ⟨rfl,rfl,rfl,rfl⟩
 | .region _ ops false,e,h,nx,x,e',h',nx',hr=>by
   refine AWp.region ?_;have:=runL_sound hc ops.toList 0 e h nx x e' h' nx' (by simp) hr;rw [List.range_eq_range'];simpa using this
 | .region _ ops true,e,h,nx,x,e',h',nx',hr=>runD_sound hc hr
 | .seq a b,e,h,nx,x,e',h',nx',hr=>by
   refine Xn ?_;unfold runC at hr;split at hr
   ·rename_i e1 h1 nx1 ha;refine (runC_sound hc a e h nx _ _ _ _ ha).mono ?_;rintro x1 e2 H2 nx2 ⟨rfl,rfl,rfl,rfl⟩;exact runC_sound hc b e1 h1 _ _ _ _ _ hr
   ·rename_i hne;refine (runC_sound hc a e h nx _ _ _ _ hr).mono ?_;rintro x1 e2 H2 nx2 ⟨rfl,rfl,rfl,rfl⟩;cases x1 with
    | normal=>exact absurd hr (hne _ _ _)
    | exit id=>exact⟨rfl,rfl,rfl,rfl⟩
    | ret=>exact⟨rfl,rfl,rfl,rfl⟩
    | pan v=>exact⟨rfl,rfl,rfl,rfl⟩
 | .cond c a b,e,h,nx,x,e',h',nx',hr=>by
   unfold runC at hr;split at hr
   ·rename_i hb;exact AWp.cond hb (runC_sound hc a e h nx _ _ _ _ hr)
   ·rename_i hb;exact AWp.cond hb (runC_sound hc b e h nx _ _ _ _ hr)
   ·cases hr
 | .block id c,e,h,nx,x,e',h',nx',hr=>by
   refine Xc ?_;unfold runC at hr;split at hr
   ·rename_i i e1 h1 nx1 hcx;refine (runC_sound hc c e h nx _ _ _ _ hcx).mono ?_;rintro x1 e2 H2 nx2 ⟨rfl,rfl,rfl,rfl⟩;simp only [Xy];split at hr
    ·rename_i hb;cases hr;rw [if_pos (beq_eq hb)];exact⟨rfl,rfl,rfl,rfl⟩
    ·rename_i hb;cases hr;rw [if_neg (fun e=>by rw [e,Nat.beq_refl] at hb;cases hb)];exact⟨rfl,rfl,rfl,rfl⟩
   ·rename_i hne;refine (runC_sound hc c e h nx _ _ _ _ hr).mono ?_;rintro x1 e2 H2 nx2 ⟨rfl,rfl,rfl,rfl⟩;cases x1 with
    | exit i=>exact absurd hr (hne _ _ _ _)
    | normal=>exact⟨rfl,rfl,rfl,rfl⟩
    | ret=>exact⟨rfl,rfl,rfl,rfl⟩
    | pan v=>exact⟨rfl,rfl,rfl,rfl⟩
 | .loop c,e,h,nx,x,e',h',nx',hr=>by
   refine AWp.loop (α:=Nat) (fun k e1 H1 nx1=>∃ te th,e1=vw te∧H1=hv th∧loopN (fun e h nx=>runC P G call lf n c e h nx) k te th nx1=some (x,e',h',nx')) id lf ⟨e,h,rfl,rfl,hr⟩ ?_;rintro k e1 H1 nx1 ⟨te,th,rfl,rfl,hl⟩;cases k with
   | zero=>cases hl
   | succ k =>
     unfold loopN at hl;split at hl
     ·rename_i e2 h2 nx2 hb;refine (runC_sound hc c te th nx1 _ _ _ _ hb).mono ?_;rintro x1 e3 H3 nx3 ⟨rfl,rfl,rfl,rfl⟩;exact⟨k,Nat.lt_succ_self k,e2,h2,rfl,rfl,hl⟩
     ·rename_i hne;refine (runC_sound hc c te th nx1 _ _ _ _ hl).mono ?_;rintro x1 e3 H3 nx3 ⟨rfl,rfl,rfl,rfl⟩;cases x1 with
      | normal=>exact absurd hl (hne _ _ _)
      | exit id=>exact⟨rfl,rfl,rfl,rfl⟩
      | ret=>exact⟨rfl,rfl,rfl,rfl⟩
      | pan v=>exact⟨rfl,rfl,rfl,rfl⟩
 | .exit id,e,h,nx,x,e',h',nx',hr=>by cases hr;exact Xh ⟨rfl,rfl,rfl,rfl⟩
 | .ret,e,h,nx,x,e',h',nx',hr=>by cases hr;exact Xo ⟨rfl,rfl,rfl,rfl⟩
 | .rangeFunc _ _ _ _,e,h,nx,x,e',h',nx',hr=>by cases hr
 | .scope _,e,h,nx,x,e',h',nx',hr=>by cases hr
 | .label _,e,h,nx,x,e',h',nx',hr=>by cases hr
 | .goto _,e,h,nx,x,e',h',nx',hr=>by cases hr
 | .refuse _,e,h,nx,x,e',h',nx',hr=>by cases hr
def argT:List CV→Nat→Tr CV→Tr CV
 | [],_,t=>t
 | c::cs,k,t=>argT cs (k+1) (Tr.put 20 t k (some c))
theorem argT_get:∀ (cs:List CV) (k:Nat) (t:Tr CV) (m:Nat) (y:CV),(argT cs k t).get m=some y→(k≤m∧cs[m-k]?=some y)∨t.get m=some y
 | [],k,t,m,y,h=>.inr h
 | c::cs,k,t,m,y,h=>by
   rcases argT_get cs (k+1) _ m y h with⟨h1,h2⟩ | h1
   ·refine .inl ⟨by omega,?_⟩;rw [show m-k=(m-(k+1))+1 by omega];simpa using h2
   ·rcases Tr.get_put _ _ _ _ _ _ h1 with⟨a,b⟩ | ⟨a,b⟩
    ·cases b;subst a;exact .inl ⟨Nat.le_refl _,by simp⟩
    ·exact .inr b
theorem argT_vw (cs:List CV)(t:Nat):vw (argT cs 0 .lf) t=argE cs t∨vw (argT cs 0 .lf) t=.any:=by
 unfold vw;cases hg:(argT cs 0 .lf).get t with
 | none=>exact .inr rfl
 | some y =>
   left;rcases argT_get cs 0 .lf t y hg with⟨_,h⟩ | h
   ·simp only [Nat.sub_zero] at h;simp [argE,h]
   ·cases h
/-- Functions; 'sp' are those with a meaning of their own. -/
def runF (P:Program)(G:Nat→CV)(sp:Call1→Call1)(lf:Nat):Nat→Call1
 | 0=>fun _ _ _ _=>none
 | fuel+1=>fun f args h nx=>match sp (runF P G sp lf fuel) f args h nx with
   | some r=>some r
   | none=>match P.funcs[f]? with
     | some fn=>match fn.body with
       | some c=>match runC P G (runF P G sp lf fuel) lf (max args.length fn.ntmps) c (argT args 0 .lf) h nx with
         | some (.pan v,_,h',nx')=>some (.pan v,h',nx')
         | some (.exit _,_,_,_)=>none
         | some (_,e',h',nx')=>match resA P (hv h') (vw e') fn.results.toList with
           | some l=>some (.ret (packA l),h',nx')
           | none=>none
         | none=>none
       | none=>none
     | none=>none
theorem runF_sound {P:Program}{G:Nat→CV}{sp:Call1→Call1}{lf:Nat}(hsp:∀ call,CallOk P G call→CallOk P G (sp call)):∀ fuel,CallOk P G (runF P G sp lf fuel)
 | 0=>fun f args h nx r h' nx' hr=>by cases hr
 | fuel+1=>fun f args h nx r h' nx' hr=>by
   have ih:=runF_sound (lf:=lf) hsp fuel;unfold runF at hr;split at hr
   ·rename_i r1 hs;cases hr;exact hsp _ ih _ _ _ _ _ _ _ hs
   ·split at hr
    ·rename_i fn hfn;split at hr
     ·rename_i c hb;have key:∀ x e1 h1 nx1,runC P G (runF P G sp lf fuel) lf (max args.length fn.ntmps) c (argT args 0 .lf) h nx=some (x,e1,h1,nx1)→AWp P G (max args.length fn.ntmps) c (argE args) (hv h) nx (Is x e1 h1 nx1) :=
       fun x e1 h1 nx1 hx=>AWp.weak (argT_vw args) (Sub.refl _) (runC_sound ih c _ _ _ _ _ _ _ hx)
      split at hr
      ·rename_i v e1 h1 nx1 hx;cases hr;refine ACall.of_body hfn hb ((key _ _ _ _ hx).mono ?_);rintro x1 e2 H2 nx2 ⟨rfl,rfl,rfl,rfl⟩;exact⟨rfl,rfl,rfl⟩
      ·cases hr
      ·rename_i x1 e1 h1 nx1 hn1 hn2 hx;split at hr
       ·rename_i l hl;cases hr;refine ACall.of_body hfn hb ((key _ _ _ _ hx).mono ?_);rintro x2 e2 H2 nx2 ⟨rfl,rfl,rfl,rfl⟩;cases x2 with
        | normal=>exact⟨l,hl,rfl,rfl,rfl⟩
        | ret=>exact⟨l,hl,rfl,rfl,rfl⟩
        | exit i=>exact absurd rfl (hn2 _ )
        | pan v=>exact absurd rfl (hn1 _)
       ·cases hr
      ·cases hr
     ·cases hr
    ·cases hr
end Ax
end
section
namespace Ax
/-- One operation that is no call. -/
def stepS (P:Program)(G:Nat→CV)(e:Env)(H:Heap)(nx:Nat)(op:Op):Option (CV×Heap×Nat):=match qstep P H (rd G e) op with
 | some c=>some (c,H,nx)
 | none=>match astep P (rd G e) nx op with
   | some (c,k)=>some (c,upd H nx k,nx+1)
   | none=>match estep P H nx (rd G e) op with
     | some (c,d)=>some (c,d.hp H nx,d.nx nx)
     | none=>none
section
variable {P:Program} {G:Nat→CV} {n:Nat} {e:Env} {H:Heap} {nx:Nat} {Q:AExit→Env→Heap→Nat→Prop} {ops:Array Oper} {i:Nat} {l:List Nat} {o:Oper}
theorem AOps.step (ho:ops[i]?=some o)(hd:okD n o.dst=true)(hg:gd ops e o=some true){c:CV}{H':Heap}{nx':Nat}(hs:stepS P G e H nx o.op=some (c,H',nx'))(h:AOps P G n ops l (putE e o.dst c) H' nx' Q):AOps P G n ops (i::l) e H nx Q:=by
 unfold stepS at hs;split at hs
 ·rename_i c' hq;cases hs;exact AOps.quiet ho hg (okD_spec hd) hq h
 ·split at hs
  ·rename_i c' k hq;cases hs;exact AOps.new ho hg (okD_spec hd) hq h
  ·split at hs
   ·rename_i c' d hq;cases hs;exact AOps.write ho hg (okD_spec hd) hq h
   ·cases hs
theorem AOps.pass (ho:ops[i]?=some o)(hd:okD n o.dst=true)(hg:gd ops e o=some false)(h:AOps P G n ops l (putE e o.dst (.tup [])) H nx Q):AOps P G n ops (i::l) e H nx Q:=AOps.unwanted ho hg (okD_spec hd) h
theorem AOps.call' (ho:ops[i]?=some o)(hd:okD n o.dst=true)(hg:gd ops e o=some true){f:FuncId}{args:List CV}(hq:callA (rd G e) o.op=some (f,args))(he:enters P f=true)
  (h:ACall P G f args H nx fun r H' nx'=>match r with
   | .ret v=>AOps P G n ops l (putE e o.dst v) H' nx' Q
   | .pan v=>Q (.pan v) e H' nx'):AOps P G n ops (i::l) e H nx Q:=AOps.call ho hg (okD_spec hd) hq he h
end
/-- The operations that are left, by themselves. -/
def AOpl (P:Program)(G:Nat→CV)(n:Nat)(ops:Array Oper)(os:List Oper)(e:Env)(H:Heap)(nx:Nat)(Q:AExit→Env→Heap→Nat→Prop):Prop:=∀ k,ops.toList.drop k=os→AOps P G n ops (List.range' k os.length) e H nx Q
section
variable {P:Program} {G:Nat→CV} {n:Nat} {e:Env} {H:Heap} {nx:Nat} {Q:AExit→Env→Heap→Nat→Prop} {ops:Array Oper} {os:List Oper}
theorem Xp {id:Nat}(hl:ops.toList=os)(h:AOpl P G n ops os e H nx Q):AWp P G n (.region id ops false) e H nx Q:=by
 refine AWp.region ?_;have:=h 0 (by simpa using hl);rw [List.range_eq_range'];have hs:os.length=ops.size:=by rw [← hl];simp
 rw [hs] at this;exact this
theorem Xl (h:Q .normal e H nx):AOpl P G n ops [] e H nx Q:=fun _ _=>AOps.nil h
theorem AOpl.lift {o:Oper}{e':Env}{H':Heap}{nx':Nat}(f:∀ k,ops[k]?=some o→AOps P G n ops (List.range' (k+1) os.length) e' H' nx' Q→AOps P G n ops (k::List.range' (k+1) os.length) e H nx Q)(h:AOpl P G n ops os e' H' nx' Q):AOpl P G n ops (o::os) e H nx Q:=by
 intro k hk;have ho:ops[k]?=some o:=by
  have:=congrArg List.head? hk;simpa [List.head?_drop] using this
 have hk':ops.toList.drop (k+1)=os:=by
  have:=congrArg List.tail hk;simpa [List.tail_drop] using this
 simp only [List.length_cons,List.range'_succ];exact f k ho (h (k+1) hk')
variable {d:Option Nat} {op:Op} {ty:TypeId} {pos:String} {af:Array Edge} {g:Option (Nat×Bool)}
theorem Xf (hd:okD n d=true){c:CV}{H':Heap}{nx':Nat}(hs:stepS P G e H nx op=some (c,H',nx'))(h:AOpl P G n ops os (putE e d c) H' nx' Q):AOpl P G n ops (⟨d,op,ty,pos,af,none⟩::os) e H nx Q :=
 AOpl.lift (fun k ho h'=>AOps.step (o:=⟨d,op,ty,pos,af,none⟩) ho hd rfl hs h') h
theorem Xa (hd:okD n d=true)(hg:gd ops e ⟨d,op,ty,pos,af,g⟩=some true){c:CV}{H':Heap}{nx':Nat}(hs:stepS P G e H nx op=some (c,H',nx'))(h:AOpl P G n ops os (putE e d c) H' nx' Q):AOpl P G n ops (⟨d,op,ty,pos,af,g⟩::os) e H nx Q :=
 AOpl.lift (fun k ho h'=>AOps.step (o:=⟨d,op,ty,pos,af,g⟩) ho hd hg hs h') h
theorem Xg (hd:okD n d=true)(hg:gd ops e ⟨d,op,ty,pos,af,g⟩=some false)(h:AOpl P G n ops os (putE e d (.tup [])) H nx Q):AOpl P G n ops (⟨d,op,ty,pos,af,g⟩::os) e H nx Q :=
 AOpl.lift (fun k ho h'=>AOps.pass (o:=⟨d,op,ty,pos,af,g⟩) ho hd hg h') h
theorem AOpl.callG (hd:okD n d=true)(hg:gd ops e ⟨d,op,ty,pos,af,g⟩=some true){f:FuncId}{args:List CV}(hq:callA (rd G e) op=some (f,args))(he:enters P f=true)
  (h:ACall P G f args H nx fun r H' nx'=>match r with
   | .ret v=>AOpl P G n ops os (putE e d v) H' nx' Q
   | .pan v=>Q (.pan v) e H' nx'):AOpl P G n ops (⟨d,op,ty,pos,af,g⟩::os) e H nx Q:=by
 intro k hk;have ho:ops[k]?=some ⟨d,op,ty,pos,af,g⟩:=by
  have:=congrArg List.head? hk;simpa [List.head?_drop] using this
 have hk':ops.toList.drop (k+1)=os:=by
  have:=congrArg List.tail hk;simpa [List.tail_drop] using this
 simp only [List.length_cons,List.range'_succ];refine AOps.call' (o:=⟨d,op,ty,pos,af,g⟩) ho hd hg hq he (h.mono fun r H' nx' hr=>?_);cases r with
 | ret v=>exact hr (k+1) hk'
 | pan v=>exact hr
theorem AOpl.call (hd:okD n d=true){f:FuncId}{args:List CV}(hq:callA (rd G e) op=some (f,args))(he:enters P f=true)
  (h:ACall P G f args H nx fun r H' nx'=>match r with
   | .ret v=>AOpl P G n ops os (putE e d v) H' nx' Q
   | .pan v=>Q (.pan v) e H' nx'):AOpl P G n ops (⟨d,op,ty,pos,af,none⟩::os) e H nx Q:=AOpl.callG hd rfl hq he h
end
theorem sliA_lo {P:Program}{H:Heap}{t e:TypeId}{s1 b1:Nat}{z1:Value}{i:TI}{rows:List (List CV)}{m:Nat}{kk:IntKind}(ht:ti P t=some ⟨.slice e,s1,z1,b1⟩)(he:ti P e=some i)(hall:∀ r∈rows,r.length=i.size)(hm:m≤rows.length) :
  sliA P H t (.lst rows) (some (.int kk (m:Int))) none=some (.lst (rows.drop m)):=by
 have h1:rows.all (fun r=>Nat.beq r.length i.size)=true:=by
  rw [List.all_eq_true];intro r hr;rw [hall r hr];exact Nat.beq_refl _
 unfold sliA;simp only [ht,he,bnd,natOf_cast];rw [Nat.ble_eq_true_of_le hm,h1,Nat.ble_eq_true_of_le (Nat.le_refl _)];simp only [Bool.and_self];rw [List.take_of_length_le (by simp)]
theorem nbeq (a b:Nat):Nat.beq a b=decide (a=b):=by
 by_cases h:a=b
 ·subst h;simp
 ·rw [beqF h];simp [h]
theorem nble (a b:Nat):Nat.ble a b=decide (a≤b):=by
 by_cases h:a≤b
 ·rw [Nat.ble_eq_true_of_le h];simp [h]
 ·cases hb:Nat.ble a b with
  | true=>exact absurd (Nat.le_of_ble_eq_true hb) h
  | false=>simp [h]
theorem nblt (a b:Nat):Nat.blt a b=decide (a<b):=nble (a+1) b
/-- A contract without memory: frozen arguments, the heap is left alone. -/
def FCall (P:Program)(G:Nat→CV)(f:FuncId)(args:List CV)(Q:Res→Prop):Prop:=∀ H nx,ACall P G f args H nx fun r H' nx'=>H'=H∧Q r
theorem FCall.of {P:Program}{G:Nat→CV}{f:FuncId}{args:List CV}{Q:Res→Prop}(h:∀ nx,ACall P G f args Heap.no nx fun r _ _=>Q r):FCall P G f args Q:=by
 intro H nx M w vs g r v;refine (h nx M w vs g (r.weak (Sub.no H)) v).mono ?_;rintro e w' ⟨M',x,H',nx',h1,h2,h3,h4⟩;have hno:Rep M' Heap.no nx' w':=h2.weak (Sub.no _);have fno:Fr Heap.no M nx w Heap.no M' nx' w':=h3.trans (.weak (Sub.no _));obtain⟨r1,f1⟩:=Rep.frame H r (Sub.no H) (Sub.refl H) (fun b k hb=>rfl) hno fno;have e1:cup Heap.no H=H:=by funext b;unfold cup;cases hb:H b <;> simp [Heap.no,hb]
 rw [e1] at r1 f1;exact⟨M',x,H,nx',h1,r1,f1,rfl,h4⟩
theorem FCall.mono {P:Program}{G:Nat→CV}{f:FuncId}{args:List CV}{Q Q':Res→Prop}(h:FCall P G f args Q)(hq:∀ r,Q r→Q' r):FCall P G f args Q':=fun H nx=>(h H nx).mono fun _ _ _ ⟨a,b⟩=>⟨a,hq _ b⟩
theorem FCall.ofBody {P:Program}{G:Nat→CV}{f:FuncId}{fn:Func}{c:Code}{args:List CV}{Q:Res→Prop}{n:Nat}(hf:P.funcs[f]?=some fn)(hb:fn.body=some c)(hn:max args.length fn.ntmps=n)
  (h:∀ nx,AWp P G n c (argE args) Heap.no nx (BodyQ P fn fun r _ _=>Q r)):FCall P G f args Q:=FCall.of fun nx=>ACall.of_body hf hb (hn▸h nx)
section
variable {P:Program} {G:Nat→CV} {n:Nat} {e:Env} {H:Heap} {nx:Nat} {Q:AExit→Env→Heap→Nat→Prop} {ops:Array Oper} {os:List Oper}
theorem Xd {c:Operand}{x y:Code}(hc:rd G e c=.bool true)(h:AWp P G n x e H nx Q):AWp P G n (.cond c x y) e H nx Q:=AWp.cond hc h
theorem Xe {c:Operand}{x y:Code}(hc:rd G e c=.bool false)(h:AWp P G n y e H nx Q):AWp P G n (.cond c x y) e H nx Q:=AWp.cond hc h
variable {d:Option Nat} {op:Op} {ty:TypeId} {pos:String} {af:Array Edge} {g:Option (Nat×Bool)}
end
end Ax
end
end Go.Proofs.YtoookjadbhdfhaaGreatDoor
