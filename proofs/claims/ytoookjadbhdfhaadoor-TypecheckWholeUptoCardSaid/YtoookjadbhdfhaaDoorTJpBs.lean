/-
  Plain Lean: in an accepted program every expression has a type in its scope, and every method with a result returns.
-/
import Derived.Test.YtoookjadbhdfhaaDoorTJpAv
import Derived.Test.YtoookjadbhdfhaaDoorTJpBr
import Derived.Test.YtoookjadbhdfhaaDoorTTkRec2
import Derived.Test.YtoookjadbhdfhaaDoorTJpAu
set_option linter.unusedSectionVars false
set_option linter.unusedSimpArgs false
set_option linter.unnecessarySimpa false
set_option linter.unusedVariables false
set_option linter.unusedSimpArgs false
set_option linter.unusedVariables false
namespace Go.Proofs.YtoookjadbhdfhaaDoor
section
open Lx
namespace Lx
def isOk {α:Type}:Tk α→Bool
 | .ok _=>true
 | .error _=>false
mutual
/-- Every expression of a statement has a type in its scope. -/
def tydT (l:List Cl)(c:Bytes):List Fld→St→Bool
 | sc,.mk k nm ty es b el=>es.all (fun e=>isOk (exprE l c sc e)) && tydsT l c sc b && tydsT l c (if k=6 then sc++[⟨nm,ty⟩] else sc) el
def tydsT (l:List Cl)(c:Bytes):List Fld→List St→Bool
 | _,[]=>true
 | sc,s::r=>tydT l c sc s && tydsT l c (match s with | .mk k nm ty _ _ _=>if k=1 then sc++[⟨nm,ty⟩] else sc) r
end
/-- A scope that Expr takes: names that are identifiers, types, no name twice. -/
def ScOk (h:List Cd):List Fld→Prop
 | []=>True
 | f::l=>isIdent f.name=true∧typB h f.typ=true∧(∀ g∈l,g.name≠f.name)∧ScOk h l
theorem varF_none {sc:List Fld}{s:Bytes}:varF sc s=none↔∀ f∈sc,f.name≠s:=by
 unfold varF;rw [Option.map_eq_none_iff,List.find?_eq_none];simp
theorem ScOk.snoc {h:List Cd}:∀ {sc:List Fld} {f:Fld},ScOk h sc→isIdent f.name=true→typB h f.typ=true→varF sc f.name=none→ScOk h (sc++[f])
 | [],f,_,h1,h2,_=>⟨h1,h2,by simp,trivial⟩
 | g::l,f,hs,h1,h2,h3=>by
   obtain⟨a,b,c,d⟩:=hs;rw [varF_none] at h3;refine⟨a,b,fun x hx=>?_,ScOk.snoc d h1 h2 (varF_none.2 fun x hx=>h3 x (List.mem_cons_of_mem _ hx))⟩;rcases List.mem_append.1 hx with hx | hx
   ·exact c x hx
   ·simp at hx;subst hx;exact fun e=>h3 g List.mem_cons_self e.symm
theorem scpT_ok {h:List Cd}:∀ (l sc:List Fld),ScOk h l→(∀ f∈l,∀ g∈sc,g.name≠f.name)→scpT h sc l=.ok (sc++l)
 | [],sc,_,_=>by simp [scpT]
 | f::l,sc,hs,hd=>by
   obtain⟨a,b,c,d⟩:=hs;have hv:varF sc f.name=none:=varF_none.2 fun g hg=>hd f List.mem_cons_self g hg
   rw [scpT,if_neg (by simp [a]),if_neg (by simp [b]),if_neg (by simp [hv]),scpT_ok l (sc++[f]) d]
   ·simp
   ·intro x hx g hg;rcases List.mem_append.1 hg with hg | hg
    ·exact hd x (List.mem_cons_of_mem _ hx) g hg
    ·simp at hg;subst hg;exact fun e=>c x hx e.symm
/-- What is known of the class and the scope. -/
structure InP (l:List Cl) (c:Bytes) (sc:List Fld):Prop where
 hi:(checkF (hiOf l)).2=0
 cls:c=[]∨0≤findI (hiOf l) c
 sc:ScOk (hiOf l) sc
theorem InP.expr {l:List Cl}{c:Bytes}{sc:List Fld}(h:InP l c sc){e:Ex}(hd:exDepth e≤32):exprE l c sc e=exT9 (hiOf l) c sc e:=by
 unfold exprE;rw [if_neg (by simp [h.hi]),if_neg (by rintro⟨a,b⟩;rcases h.cls with x | x;exact a x;omega),scpT_ok sc [] h.sc (by simp)];simp only [List.nil_append];rw [if_neg (by omega)]
theorem InP.add {l:List Cl}{c:Bytes}{sc:List Fld}(h:InP l c sc){nm ty:Bytes}(h1:isIdent nm=true)(h2:typB (hiOf l) ty=true)(h3:varF sc nm=none):InP l c (sc++[⟨nm,ty⟩]):=⟨h.hi,h.cls,h.sc.snoc h1 h2 h3⟩
theorem and_ok {α β:Type}{a:Tk α}{b:Tk β}{v:β}(h:andT a b=.ok v):isOk a=true∧b=.ok v:=by
 unfold andT at h;cases a with
 | error e=>cases h
 | ok x=>exact⟨rfl,h⟩
theorem asg_ok {h:List Cd}{t:Tk Bytes}{to:Bytes}(hk:isOk (asgT h t to)=true):isOk t=true:=by
 unfold asgT at hk;cases t with
 | error e=>cases hk
 | ok a=>rfl
theorem new_ok {h:List Cd}{sc:List Fld}{tb:Bool}{nm:Bytes}(hk:isOk (newT h sc tb nm)=true):isIdent nm=true∧tb=true∧varF sc nm=none:=by
 unfold newT at hk;split at hk
 ·cases hk
 ·rename_i h1;split at hk
  ·cases hk
  ·rename_i h2;split at hk
   ·cases hk
   ·rename_i h3;exact⟨by simpa using h1,by simpa using h2,by simpa using h3⟩
theorem cls_typ {h:List Cd}{t:Bytes}(hc:clsB h t=true):typB h t=true:=by
 unfold clsB at hc;unfold typB;simp only [Bool.and_eq_true] at hc;simp [hc.2]
theorem ex0_ok {h:List Cd}{c:Bytes}{sc:List Fld}{es:List Ex}{i:Nat}(hk:isOk (ex0T h c sc es i)=true):∃ hi:i<es.length,isOk (exT9 h c sc es[i])=true:=by
 unfold ex0T at hk;cases hx:es[i]? with
 | none=>rw [hx] at hk;cases hk
 | some e =>
   rw [hx] at hk;obtain⟨hi,he⟩:=List.getElem?_eq_some_iff.1 hx;exact⟨hi,by rw [he];exact hk⟩
/-- Every expression is one of those that were checked. -/
theorem all_of {es:List Ex}{P:Ex→Bool}(h:∀ i (hi:i<es.length),P es[i]=true):es.all P=true:=by
 rw [List.all_eq_true];intro e he;obtain⟨i,hi,rfl⟩:=List.getElem_of_mem he;exact h i hi
theorem shp_ok {k:Int}{ne nb nl:Nat}(h:shpE k ne nb nl=0):(1≤k∧k≤9)∧(if k=1∨k=8∨k=6 then 0 else if k=3 then 2 else 1)≤ne∧ne≤(if k=6 then 0 else if k=3 then 2 else 1)∧(¬ (k=4∨k=5∨k=6)→nb=0)∧(¬ (k=4∨k=6)→nl=0):=by
 unfold shpE at h
 by_cases h1:k<1∨9<k
 ·rw [if_pos h1] at h;omega
 rw [if_neg h1] at h;obtain⟨lo,hlo⟩:∃ lo,lo=(if k=1∨k=8∨k=6 then 0 else if k=3 then 2 else 1:Nat):=⟨_,rfl⟩;obtain⟨hi,hhi⟩:∃ hi,hi=(if k=6 then 0 else if k=3 then 2 else 1:Nat):=⟨_,rfl⟩;rw [← hlo,← hhi] at h ⊢
 by_cases h2:ne<lo∨hi<ne
 ·rw [if_pos h2] at h;omega
 rw [if_neg h2] at h
 by_cases h3:¬ (k=4∨k=5∨k=6)∧0<nb
 ·rw [if_pos h3] at h;omega
 rw [if_neg h3] at h
 by_cases h4:¬ (k=4∨k=6)∧0<nl
 ·rw [if_pos h4] at h;omega
 refine⟨by omega,by omega,by omega,fun a=>?_,fun a=>?_⟩
 ·exact Nat.eq_zero_of_not_pos fun b=>h3 ⟨a,b⟩
 ·exact Nat.eq_zero_of_not_pos fun b=>h4 ⟨a,b⟩
/-- What a simple statement leaves: its expressions have types, and the scope. -/
theorem sim_ok {h:List Cd}{c res:Bytes}{sc sc':List Fld}{k:Int}{nm ty:Bytes}{es:List Ex}(hk:simT h c res sc k nm ty es=.ok sc')(h1:1≤k∧k≤9)(h6:k≠6)(hge:(if k=1∨k=8∨k=6 then 0 else if k=3 then 2 else 1)≤es.length)(hle:es.length≤(if k=6 then 0 else if k=3 then 2 else 1))(h45:¬ (k=4∨k=5)) :
  (∀ i (hi:i<es.length),isOk (exT9 h c sc es[i])=true)∧sc'=(if k=1 then sc++[⟨nm,ty⟩] else sc)∧(k=1→isIdent nm=true∧typB h ty=true∧varF sc nm=none):=by
 have one:∀ {i0:Nat},es.length≤i0+1→i0=0→(∀ hi:i0<es.length,isOk (exT9 h c sc es[i0])=true)→∀ i (hi:i<es.length),isOk (exT9 h c sc es[i])=true:=by
  intro i0 hl h0 hx i hi;obtain rfl:i=i0:=by omega
  exact hx hi
 unfold simT at hk
 by_cases k1:k=1
 ·rw [if_pos k1] at hk;obtain⟨a,hk⟩:=and_ok hk;obtain⟨b,hk⟩:=and_ok hk;cases hk;refine⟨one (i0:=0) (by subst k1;simpa using hle) rfl fun hi=>?_,by rw [if_pos k1],fun _=>new_ok a⟩;rw [if_neg (by intro e;rw [e] at hi;simp at hi)] at b;exact (ex0_ok (asg_ok b)).2
 rw [if_neg k1] at hk;have hsc:∀ x:List Fld,(if k=1 then sc++[⟨nm,ty⟩] else sc)=sc:=fun _=>if_neg k1
 by_cases k2:k=2
 ·rw [if_pos k2] at hk;split at hk
  ·cases hk
  ·obtain⟨a,hk⟩:=and_ok hk;cases hk;exact⟨one (i0:=0) (by subst k2;simpa using hle) rfl fun hi=>(ex0_ok (asg_ok a)).2,by rw [if_neg k1],fun e=>absurd e k1⟩
 rw [if_neg k2] at hk
 by_cases k3:k=3
 ·rw [if_pos k3] at hk;split at hk
  ·cases hk
  ·rename_i t ht;split at hk
   ·cases hk
   ·obtain⟨a,hk⟩:=and_ok hk;cases hk;have h0:isOk (ex0T h c sc es 0)=true:=by rw [ht];rfl
    refine⟨fun i hi=>?_,by rw [if_neg k1],fun e=>absurd e k1⟩;have hl2:es.length≤2:=by subst k3;simpa using hle
    have:i=0∨i=1:=by omega
    rcases this with rfl | rfl
    ·exact (ex0_ok h0).2
    ·exact (ex0_ok (asg_ok a)).2
 rw [if_neg k3] at hk;have hl1:es.length≤1:=by rw [if_neg h6,if_neg k3] at hle;exact hle
 by_cases k7:k=7
 ·rw [if_pos k7] at hk;split at hk
  ·cases hk
  ·rename_i t ht;split at hk
   ·cases hk;have h0:isOk (ex0T h c sc es 0)=true:=by rw [ht];rfl
    exact⟨one (i0:=0) hl1 rfl fun hi=>(ex0_ok h0).2,by rw [if_neg k1],fun e=>absurd e k1⟩
   ·cases hk
 rw [if_neg k7] at hk
 by_cases k8:k=8
 ·rw [if_pos k8] at hk;split at hk
  ·obtain⟨a,hk⟩:=and_ok hk;cases hk;refine⟨one (i0:=0) hl1 rfl fun hi=>?_,by rw [if_neg k1],fun e=>absurd e k1⟩;rw [if_neg (by intro e;rw [e] at hi;simp at hi)] at a;exact (ex0_ok (asg_ok a)).2
  ·cases hk
 rw [if_neg k8] at hk;split at hk
 ·obtain⟨a,hk⟩:=and_ok hk;cases hk;exact⟨one (i0:=0) hl1 rfl fun hi=>(ex0_ok a).2,by rw [if_neg k1],fun e=>absurd e k1⟩
 ·cases hk
theorem exsDepth_mem {es:List Ex}{e:Ex}(h:e∈es):exDepth e≤exsDepth es:=by
 induction es with
 | nil=>cases h
 | cons x l ih =>
   rw [exsDepth];rcases List.mem_cons.1 h with rfl | h
   ·omega
   ·have:=ih h;omega
mutual
theorem st_tyd {l:List Cl}{c res:Bytes}:∀ (s:St) {sc sc':List Fld},InP l c sc→stDepth s≤32→stT (hiOf l) c res sc s=.ok sc'→tydT l c sc s=true∧InP l c sc'∧sc'=(match s with | .mk k nm ty _ _ _=>if k=1 then sc++[⟨nm,ty⟩] else sc)
 | .mk k nm ty es b el,sc,sc',hp,hd,hk=>by
   rw [stDepth] at hd;have hde:∀ e∈es,exDepth e≤32:=fun e he=>by have:=exsDepth_mem he;omega
   rw [stT] at hk;split at hk
   ·cases hk
   ·rename_i hs;obtain⟨k19,kge,kle,kb,kl⟩:=shp_ok (Classical.byContradiction hs);rw [tydT]
    by_cases k45:k=4∨k=5
    ·rw [if_pos k45] at hk;split at hk
     ·cases hk
     ·rename_i t ht;split at hk
      ·obtain⟨hb,hk⟩:=and_ok hk;obtain⟨hel,hk⟩:=and_ok hk;cases hk;have h0:isOk (ex0T (hiOf l) c sc es 0)=true:=by rw [ht];rfl
       have hl1:es.length≤1:=by rcases k45 with rfl | rfl <;> simpa using kle
       have k6:k≠6:=by omega
       have k1:k≠1:=by omega
       rw [if_neg k6];have e1:=bl_tyd b hp (by omega) (res:=res) hb;have e2:=bl_tyd el hp (by omega) (res:=res) hel;refine⟨?_,hp,by simp only;rw [if_neg k1]⟩;rw [e1,e2,Bool.and_true,Bool.and_true];refine all_of fun i hi=>?_
       obtain rfl:i=0:=by omega
       rw [hp.expr (hde _ (List.getElem_mem hi))];exact (ex0_ok h0).2
      ·cases hk
    ·rw [if_neg k45] at hk
     by_cases k6:k=6
     ·rw [if_pos k6] at hk;obtain⟨hn,hk⟩:=and_ok hk;obtain⟨hb,hk⟩:=and_ok hk;obtain⟨hel,hk⟩:=and_ok hk;cases hk;obtain⟨n1,n2,n3⟩:=new_ok hn;have hp2:=hp.add n1 (cls_typ n2) n3;have hl0:es=[]:=List.length_eq_zero_iff.1 (by subst k6;simpa using kle);subst hl0;rw [if_pos k6];have e1:=bl_tyd b hp (by omega) (res:=res) hb;have e2:=bl_tyd el hp2 (by omega) (res:=res) hel;exact⟨by rw [e1,e2];rfl,hp,by simp only;rw [if_neg (by omega)]⟩
     ·rw [if_neg k6] at hk;obtain⟨a1,a2,a3⟩:=sim_ok hk k19 k6 kge kle k45;have hb0:b=[]:=List.length_eq_zero_iff.1 (kb (by omega));have hl0:el=[]:=List.length_eq_zero_iff.1 (kl (by omega));subst hb0;subst hl0;refine⟨?_,?_,a2⟩
      ·simp only [tydsT,Bool.and_true];exact all_of fun i hi=>by rw [hp.expr (hde _ (List.getElem_mem hi))];exact a1 i hi
      ·rw [a2]
       by_cases k1:k=1
       ·rw [if_pos k1];obtain⟨n1,n2,n3⟩:=a3 k1;exact hp.add n1 n2 n3
       ·rw [if_neg k1];exact hp
theorem bl_tyd {l:List Cl}{c res:Bytes}:∀ (b:List St) {sc:List Fld},InP l c sc→stsDepth b≤32→isOk (blT (hiOf l) c res sc b)=true→tydsT l c sc b=true
 | [],sc,_,_,_=>rfl
 | s::r,sc,hp,hd,hk=>by
   rw [stsDepth] at hd;rw [blT] at hk;cases hs:stT (hiOf l) c res sc s with
   | error e=>rw [hs] at hk;cases hk
   | ok sc' =>
     rw [hs] at hk;obtain⟨a,b,e⟩:=st_tyd s hp (by omega) hs;have:=bl_tyd r b (by omega) (res:=res) hk;obtain⟨k,nm,ty,es,b2,el⟩:=s;simp only at e;rw [tydsT,a,← e,this];rfl
end
theorem parT_ok {h:List Cd}:∀ (l sc sc':List Fld),parT sc l=.ok sc'→(∀ f∈l,typB h f.typ=true)→sc'=sc++l∧((∀ f∈l,∀ g∈sc,g.name≠f.name)∧ScOk h l)
 | [],sc,sc',hk,_=>by rw [parT] at hk;cases hk;exact⟨by simp,by simp,trivial⟩
 | f::l,sc,sc',hk,ht=>by
   rw [parT] at hk;split at hk
   ·cases hk
   ·rename_i h1;split at hk
    ·cases hk
    ·rename_i h2;obtain⟨a,b,c⟩:=parT_ok l _ _ hk fun g hg=>ht g (List.mem_cons_of_mem _ hg)
     have hv:∀ g∈sc,g.name≠f.name:=varF_none.1 (Classical.byContradiction h2);refine⟨by rw [a];simp,fun x hx g hg=>?_,by simpa using h1,ht f List.mem_cons_self,fun g hg=>?_,c⟩
     ·rcases List.mem_cons.1 hx with rfl | hx
      ·exact hv g hg
      ·exact b x hx g (List.mem_append.2 (.inl hg))
     ·exact fun e=>b g hg f (by simp) e.symm
theorem firstAt_zero {α:Type}{f:Nat→α→Nat}:∀ {l:List α} {k:Nat},firstAt f k l=0→∀ x∈l,∃ i,f i x=0
 | [],_,_,x,hx=>by cases hx
 | y::l,k,h,x,hx=>by
   rw [firstAt] at h;split at h
   ·rename_i h1;exact absurd h h1
   ·rename_i h1;rcases List.mem_cons.1 hx with rfl | hx
    ·exact⟨k,Classical.byContradiction h1⟩
    ·exact firstAt_zero h x hx
theorem checkW_zero {h:List Cd}:∀ (l:List Cd) (i:Nat),(checkW h i l).2=0→∀ c∈l,∃ k,clsE h k c=0
 | [],_,_,c,hc=>by cases hc
 | d::l,i,hk,c,hc=>by
   rw [checkW] at hk;split at hk
   ·rename_i h1;exact absurd hk h1
   ·rename_i h1;rcases List.mem_cons.1 hc with rfl | hc
    ·exact⟨i,Classical.byContradiction h1⟩
    ·exact checkW_zero l _ hk c hc
theorem check_cls {h:List Cd}(hk:(checkF h).2=0){c:Cd}(hc:c∈h):0≤findI h c.name∧∀ g∈c.methods,∀ p∈g.params,typB h p=true:=by
 unfold checkF at hk;split at hk
 ·cases hk
 ·obtain⟨k,h0⟩:=checkW_zero h 0 hk c hc;unfold clsE at h0;split at h0
  ·cases h0
  split at h0
  ·cases h0
  rename_i hf;split at h0
  ·cases h0
  split at h0
  ·cases h0
  split at h0
  ·cases h0
  split at h0
  ·rename_i hx;exact absurd h0 hx
  refine⟨by have:=Classical.byContradiction hf;omega,fun g hg p hp=>?_⟩;obtain⟨j,hj⟩:=firstAt_zero h0 g hg;unfold metE at hj;split at hj
  ·cases hj
  split at hj
  ·cases hj
  split at hj
  ·cases hj
  split at hj
  ·cases hj
  rename_i ha;simp only [List.any_eq_true,not_exists,not_and,Bool.not_eq_true'] at ha;have:=ha p hp;simpa using this
theorem parT_ne:∀ {l sc:List Fld},parT sc l=.error 0→False
 | [],sc,h=>by rw [parT] at h;cases h
 | f::l,sc,h=>by
   rw [parT] at h;split at h
   ·cases h
   ·split at h
    ·cases h
    ·exact parT_ne h
/-- No error is zero. -/
def NZ {α:Type}(a:Tk α):Prop:=a≠.error 0
theorem nz_ok {α:Type}(v:α):NZ (.ok v:Tk α):=by intro h;cases h
theorem nz_er {α:Type}{e:Nat}(h:e≠0):NZ (.error e:Tk α):=by intro h2;cases h2;exact h rfl
theorem NZ.er {α β:Type}{a:Tk α}{e:Nat}(h:NZ a)(ha:a=.error e):NZ (.error e:Tk β):=nz_er fun e0=>h (by rw [ha,e0])
theorem NZ.and {α β:Type}{a:Tk α}{b:Tk β}(h:NZ a)(h2:NZ b):NZ (andT a b):=by
 unfold andT;cases ha:a with
 | error e=>exact h.er ha
 | ok v=>exact h2
theorem nz_asg {h:List Cd}{t:Tk Bytes}{to:Bytes}(ht:NZ t):NZ (asgT h t to):=by
 unfold asgT;cases ha:t with
 | error e=>exact ht.er ha
 | ok v=>dsimp only;split;exact nz_ok _;exact nz_er (by decide)
theorem nz_needC (h:List Cd)(c:Bytes):NZ (needC h c 6):=by unfold needC;split;exact nz_ok _;exact nz_er (by decide)
theorem nz_fld (h:List Cd)(c f:Bytes):NZ (fldT h c f):=by
 unfold fldT;split
 ·exact nz_er (by decide)
 ·split
  ·exact nz_ok _
  ·exact nz_er (by decide)
theorem nz_sig (h:List Cd)(c m:Bytes)(st:Bool)(n:Nat):NZ (sigT h c m st n):=by
 unfold sigT;split
 ·exact nz_er (by decide)
 ·split
  ·split
   ·exact nz_ok _
   ·exact nz_er (by decide)
  ·exact nz_er (by decide)
theorem nz_binOf {h:List Cd}{n:Int}{t:Tk (List Bytes)}(ht:NZ t):NZ (binOf h n t):=by
 unfold binOf;split
 ·rename_i e;exact ht.er rfl
 ·split
  ·exact nz_ok _
  ·exact nz_er (by decide)
 ·exact nz_er (by decide)
theorem nz_fldOf {h:List Cd}{m:Bytes}{t:Tk (List Bytes)}(ht:NZ t):NZ (fldOf h m t):=by
 unfold fldOf;split
 ·rename_i e;exact ht.er rfl
 ·exact nz_fld _ _ _
 ·exact nz_er (by decide)
theorem nz_ite {α:Type}{p:Prop}[Decidable p]{a b:Tk α}(ha:NZ a)(hb:NZ b):NZ (if p then a else b):=by split <;> assumption
mutual
theorem nz_ex {h:List Cd}{c:Bytes}{sc:List Fld}:∀ e:Ex,NZ (exT9 h c sc e)
 | .mk k n o m ks=>by
   have h1:=nz_tys (h:=h) (c:=c) (sc:=sc) ks;have h2:=nz_cal (h:=h) (c:=c) (sc:=sc) (m:=m) ks;have h3:=fun ps=>nz_arg (h:=h) (c:=c) (sc:=sc) ps ks
   rw [exT9];refine nz_ite (nz_er (by decide)) (nz_ite (nz_er (by decide)) (nz_ite (nz_er (by decide)) (nz_ite (nz_ok _) (nz_ite (nz_ok _) (nz_ite ?_ (nz_ite (nz_ite (nz_er (by decide)) (nz_ok _)) (nz_ite (nz_needC _ _) (nz_ite (nz_binOf h1) (nz_ite (nz_fldOf h1) (nz_ite h2 ?_))))))))))
   ·cases varF sc m with
    | none=>exact nz_er (by decide)
    | some t=>exact nz_ok _
   ·cases he:needC h o 6 with
    | error e=>exact (nz_needC h o).er he
    | ok v =>
      dsimp only;cases hg:sigT h o m true ks.length with
      | error e=>exact (nz_sig h o m true ks.length).er hg
      | ok g =>
        dsimp only;cases ha:argT h c sc g.params ks with
        | error e=>exact (h3 g.params).er ha
        | ok v=>exact nz_ok _
theorem nz_tys {h:List Cd}{c:Bytes}{sc:List Fld}:∀ l:List Ex,NZ (tysT h c sc l)
 | []=>by rw [tysT];exact nz_ok _
 | e::l=>by
   have h1:=nz_ex (h:=h) (c:=c) (sc:=sc) e;have h2:=nz_tys (h:=h) (c:=c) (sc:=sc) l;rw [tysT];split
   ·rename_i x hx;exact h1.er hx
   ·split
    ·rename_i x hx;exact h2.er hx
    ·exact nz_ok _
theorem nz_arg {h:List Cd}{c:Bytes}{sc:List Fld}:∀ (ps:List Bytes) (l:List Ex),NZ (argT h c sc ps l)
 | p::ps,e::l=>by
   have h1:=nz_ex (h:=h) (c:=c) (sc:=sc) e;have h2:=nz_arg (h:=h) (c:=c) (sc:=sc) ps l;rw [argT];split
   ·rename_i x hx;exact (nz_asg h1).er hx
   ·exact h2
 | [],l=>by rw [argT];exact nz_ok _;simp
 | p::ps,[]=>by rw [argT];exact nz_ok _;simp
theorem nz_cal {h:List Cd}{c m:Bytes}{sc:List Fld}:∀ l:List Ex,NZ (calT h c sc m l)
 | []=>by rw [calT];exact nz_er (by decide)
 | e::l=>by
   have h1:=nz_ex (h:=h) (c:=c) (sc:=sc) e;have h2:=fun ps=>nz_arg (h:=h) (c:=c) (sc:=sc) ps l
   rw [calT];split
   ·rename_i x hx;exact h1.er hx
   ·split
    ·exact nz_er (by decide)
    ·split
     ·rename_i x hx;exact (nz_sig _ _ _ _ _).er hx
     ·split
      ·rename_i x hx;exact (h2 _).er hx
      ·exact nz_ok _
end
theorem nz_ex0 {h:List Cd}{c:Bytes}{sc:List Fld}{es:List Ex}{i:Nat}:NZ (ex0T h c sc es i):=by
 unfold ex0T;split
 ·exact nz_ex _
 ·exact nz_er (by decide)
theorem nz_new {h:List Cd}{sc:List Fld}{tb:Bool}{nm:Bytes}:NZ (newT h sc tb nm):=by
 unfold newT;split
 ·exact nz_er (by decide)
 split
 ·exact nz_er (by decide)
 split
 ·exact nz_er (by decide)
 ·exact nz_ok _
theorem nz_opt {h:List Cd}{c ty:Bytes}{sc:List Fld}{es:List Ex}:NZ (if es=[] then .ok () else asgT h (ex0T h c sc es 0) ty):=by
 split
 ·exact nz_ok _
 ·exact nz_asg nz_ex0
theorem nz_sim {h:List Cd}{c res:Bytes}{sc:List Fld}{k:Int}{nm ty:Bytes}{es:List Ex}:NZ (simT h c res sc k nm ty es):=by
 unfold simT;split
 ·exact nz_new.and (nz_opt.and (nz_ok _))
 split
 ·split
  ·exact nz_er (by decide)
  ·exact (nz_asg nz_ex0).and (nz_ok _)
 split
 ·split
  ·rename_i e he;exact nz_ex0.er he
  ·split
   ·rename_i e he;exact (nz_fld _ _ _).er he
   ·exact (nz_asg nz_ex0).and (nz_ok _)
 split
 ·split
  ·rename_i e he;exact nz_ex0.er he
  ·split
   ·exact nz_ok _
   ·exact nz_er (by decide)
 split
 ·split
  ·exact nz_opt.and (nz_ok _)
  ·exact nz_er (by decide)
 split
 ·exact nz_ex0.and (nz_ok _)
 ·exact nz_er (by decide)
mutual
theorem nz_st {h:List Cd}{c res:Bytes}:∀ (s:St) (sc:List Fld),NZ (stT h c res sc s)
 | .mk k nm ty es b el,sc=>by
   have h1:=nz_bl (h:=h) (c:=c) (res:=res) b sc;have h2:=nz_bl (h:=h) (c:=c) (res:=res) el sc;have h3:=nz_bl (h:=h) (c:=c) (res:=res) el (sc++[⟨nm,ty⟩]);rw [stT];split
   ·rename_i hx;exact nz_er hx
   split
   ·split
    ·rename_i e he;exact nz_ex0.er he
    ·split
     ·exact h1.and (h2.and (nz_ok _))
     ·exact nz_er (by decide)
   split
   ·exact nz_new.and (h1.and (h3.and (nz_ok _)))
   ·exact nz_sim
theorem nz_bl {h:List Cd}{c res:Bytes}:∀ (b:List St) (sc:List Fld),NZ (blT h c res sc b)
 | [],sc=>by rw [blT];exact nz_ok _
 | s::l,sc=>by
   have h1:=nz_st (h:=h) (c:=c) (res:=res) s sc;have h2:=fun sc'=>nz_bl (h:=h) (c:=c) (res:=res) l sc'
   rw [blT];split
   ·rename_i e he;exact h1.er he
   ·exact h2 _
end
theorem blT_ne {h:List Cd}{c res:Bytes}{sc:List Fld}{b:List St}(hk:blT h c res sc b=.error 0):False:=nz_bl b sc hk
theorem prog_tyd {l:List Cl}(h0:progE l=0){c:Cl}(hc:c∈l){m:Me}(hm:m∈c.methods):tydsT l (if m.static then [] else c.name) m.params m.body=true∧(m.result≠[]→retsT m.body=true):=by
 unfold progE at h0
 by_cases h1:(checkF (hiOf l)).2≠0
 ·rw [if_pos h1] at h0;exact absurd h0 h1
 rw [if_neg h1] at h0;have h1':(checkF (hiOf l)).2=0:=Classical.byContradiction h1;split at h0
 ·cases h0
 have h2:=first0 (first0 h0 c hc) m hm;have hcd:cdOf c∈hiOf l:=List.mem_map.2 ⟨c,hc,rfl⟩;obtain⟨k1,k2⟩:=check_cls h1' hcd;have hty:∀ f∈m.params,typB (hiOf l) f.typ=true:=fun f hf=>k2 (sgOf m) (List.mem_map.2 ⟨m,hm,rfl⟩) f.typ (List.mem_map.2 ⟨f,hf,rfl⟩)
 unfold methE at h2;split at h2
 ·cases h2
 split at h2
 ·cases h2
 rename_i hd;split at h2
 ·rename_i hz;exact absurd hz (by rintro hz;subst h2;revert hz;exact fun hz=>parT_ne hz)
 rename_i sc hp;obtain⟨e1,_,e3⟩:=parT_ok (h:=hiOf l) _ _ _ hp hty;rw [List.nil_append] at e1;subst e1;split at h2
 ·rename_i e hb;exact absurd hb (by rintro hb;subst h2;exact blT_ne hb)
 rename_i hb;have hip:InP l (if m.static then [] else c.name) m.params:=⟨h1',by split;exact .inl rfl;exact .inr k1,e3⟩;refine⟨bl_tyd m.body hip (by omega) (res:=m.result) (by rw [hb];rfl),fun hr=>?_⟩;split at h2
 ·cases h2
 ·rename_i hx
  by_cases ht:retsT m.body=true
  ·exact ht
  ·exact absurd ⟨hr,by simpa using ht⟩ hx
end Lx
end
section
open Lx Ax Go.RowKit
attribute [local simp] stepS Ax.stepT Dl.on qstep astep estep rd putE over argE ofV ofS loadA pickCells isAggD faddA fieldA partA iaddA idxA sliA bnd binA intA strA unA convA bltA lenA mapOf findK keyD scalD storeA appA srcA srcD upd drp Dl.hp Dl.nx CV.cs CV.one buildA placesA fillA zrep tasA ifaceD eqA eqFs eqIs range2 copyA nbeq nble nblt decEq beqI bneI beqS bneS isED Int.ofNat_inj List.getElem?_map List.getElem?_eq_getElem Option.map_some ti_int ti_bool ti_str ti_i64 ti_Strs ti_Flds ti_Fld ti_Cds ti_Cd ti_Sgs ti_Sg ti_Hi ti_Exs ti_Ex ti_Sts ti_St ti_Chk ti_Flt ti_Errno ti_Me ti_Mes gd gdB callA resA op1
attribute [local simp] nu1 nu2 nu3 nu4 nu5 nu6 nu7 nu8 nu9 nu10 nu11 nu12 nu13 upd_upd
def mainP (g:Sg):Bool:=g.name == mainB && g.static && decide (g.params.length=0) && g.result == []
set_option maxRecDepth 10000 in
set_option maxHeartbeats 4000000 in
theorem ixc_P (g:Sg):FCall1 Tryd.prog tkG 20 [.agg (cvG g)] (.bool (mainP g)):=by
 refine FCall.one tkG_pu (by simp [puL,puV,puG]) rfl ?_;refine FCall.ofBody Tryd.func20 rfl rfl fun nx=>?_
 obtain⟨w,hw⟩:∃ w,mainP g=w:=⟨_,rfl⟩;rw [hw];unfold mainP mainB at hw
 by_cases h1:g.name=[109,97,105,110]
 case neg =>
  have hb:(g.name == [109,97,105,110])=false:=by simpa using h1
  rw [hb] at hw;simp only [Bool.false_and] at hw;rw [← hw];clear hw hb
  repeat (first | (first | (apply Xf;rfl) | apply Xj);focus simp [cvG, *,-Option.some.injEq];rfl | (first | (apply Xa;rfl) | apply Xb);(focus simp [cvG, *];done);focus simp [cvG, *,-Option.some.injEq];rfl | (first | (apply Xg;rfl) | apply Xk);(focus simp [cvG, *];done) | (first | refine Xl ?_ | refine Xi ?_ | refine Xh ?_ | refine Xo ?_ | refine Xq ?_);try simp only [Xw,Xx,reduceIte,Nat.reduceEqDiff] | refine Xn ?_ | refine Xp rfl ?_ | refine Xc ?_ | apply Xd;focus simp [cvG, *];done | apply Xe;focus simp [cvG, *];done | refine Ya rfl rfl ?_)
  (refine⟨_,(by simp [*];rfl),?_⟩;(try simp only [packA]))
 have hb:(g.name == [109,97,105,110])=true:=by simpa using h1
 rw [hb,Bool.true_and] at hw;clear hb;cases h2:g.static with
 | false =>
   rw [h2] at hw;simp only [Bool.false_and] at hw;rw [← hw];clear hw
   repeat (first | (first | (apply Xf;rfl) | apply Xj);focus simp [cvG, *,-Option.some.injEq];rfl | (first | (apply Xa;rfl) | apply Xb);(focus simp [cvG, *];done);focus simp [cvG, *,-Option.some.injEq];rfl | (first | (apply Xg;rfl) | apply Xk);(focus simp [cvG, *];done) | (first | refine Xl ?_ | refine Xi ?_ | refine Xh ?_ | refine Xo ?_ | refine Xq ?_);try simp only [Xw,Xx,reduceIte,Nat.reduceEqDiff] | refine Xn ?_ | refine Xp rfl ?_ | refine Xc ?_ | apply Xd;focus simp [cvG, *];done | apply Xe;focus simp [cvG, *];done | refine Ya rfl rfl ?_)
   (refine⟨_,(by simp [*];rfl),?_⟩;(try simp only [packA]))
 | true =>
 rw [h2,Bool.true_and] at hw
 by_cases h3:g.params=[]
 case neg =>
  have hb:decide (g.params.length=0)=false:=decide_eq_false (fun e=>h3 (List.length_eq_zero_iff.mp e));rw [hb,Bool.false_and] at hw;rw [← hw];clear hw hb
  repeat (first | (first | (apply Xf;rfl) | apply Xj);focus simp [cvG, *,-Option.some.injEq];rfl | (first | (apply Xa;rfl) | apply Xb);(focus simp [cvG, *];done);focus simp [cvG, *,-Option.some.injEq];rfl | (first | (apply Xg;rfl) | apply Xk);(focus simp [cvG, *];done) | (first | refine Xl ?_ | refine Xi ?_ | refine Xh ?_ | refine Xo ?_ | refine Xq ?_);try simp only [Xw,Xx,reduceIte,Nat.reduceEqDiff] | refine Xn ?_ | refine Xp rfl ?_ | refine Xc ?_ | apply Xd;focus simp [cvG, *];done | apply Xe;focus simp [cvG, *];done | refine Ya rfl rfl ?_)
  (refine⟨_,(by simp [*];rfl),?_⟩;(try simp only [packA]))
 have hb:decide (g.params.length=0)=true:=decide_eq_true (by rw [h3];rfl);rw [hb,Bool.true_and] at hw;clear hb
 by_cases h4:g.result=[]
 case neg =>
  have hb:(g.result == [])=false:=by simpa using h4
  rw [hb] at hw;rw [← hw];clear hw hb
  repeat (first | (first | (apply Xf;rfl) | apply Xj);focus simp [cvG, *,-Option.some.injEq];rfl | (first | (apply Xa;rfl) | apply Xb);(focus simp [cvG, *];done);focus simp [cvG, *,-Option.some.injEq];rfl | (first | (apply Xg;rfl) | apply Xk);(focus simp [cvG, *];done) | (first | refine Xl ?_ | refine Xi ?_ | refine Xh ?_ | refine Xo ?_ | refine Xq ?_);try simp only [Xw,Xx,reduceIte,Nat.reduceEqDiff] | refine Xn ?_ | refine Xp rfl ?_ | refine Xc ?_ | apply Xd;focus simp [cvG, *];done | apply Xe;focus simp [cvG, *];done | refine Ya rfl rfl ?_)
  (refine⟨_,(by simp [*];rfl),?_⟩;(try simp only [packA]))
 have hb:(g.result == [])=true:=by simpa using h4
 rw [hb] at hw;rw [← hw];clear hw hb
 repeat (first | (first | (apply Xf;rfl) | apply Xj);focus simp [cvG, *,-Option.some.injEq];rfl | (first | (apply Xa;rfl) | apply Xb);(focus simp [cvG, *];done);focus simp [cvG, *,-Option.some.injEq];rfl | (first | (apply Xg;rfl) | apply Xk);(focus simp [cvG, *];done) | (first | refine Xl ?_ | refine Xi ?_ | refine Xh ?_ | refine Xo ?_ | refine Xq ?_);try simp only [Xw,Xx,reduceIte,Nat.reduceEqDiff] | refine Xn ?_ | refine Xp rfl ?_ | refine Xc ?_ | apply Xd;focus simp [cvG, *];done | apply Xe;focus simp [cvG, *];done | refine Ya rfl rfl ?_)
 (refine⟨_,(by simp [*];rfl),?_⟩;(try simp only [packA]))
set_option maxRecDepth 10000 in
set_option maxHeartbeats 8000000 in
theorem ix_P (l:List Sg)(hl:l.length≤lim) :
  FCall1 Tryd.prog tkG 38 [.lst (l.map cvG),.fn (.func 20) [] []] (.int .i64 (ofN (l.findIdx? mainP))):=by
 refine FCall.one tkG_pu (by simp [puL,puV,puRm puG]) rfl ?_;refine FCall.ofBody Tryd.func38 rfl rfl fun nx=>?_
 repeat (first | (first | (apply Xf;rfl) | apply Xj);focus simp [*,-Option.some.injEq];rfl | (first | (apply Xa;rfl) | apply Xb);(focus simp [*];done);focus simp [*,-Option.some.injEq];rfl | (first | (apply Xg;rfl) | apply Xk);(focus simp [*];done) | (first | refine Xl ?_ | refine Xi ?_ | refine Xh ?_ | refine Xo ?_ | refine Xq ?_);try simp only [Xw,Xx,reduceIte,Nat.reduceEqDiff] | refine Xn ?_ | refine Xp rfl ?_ | refine Xc ?_ | apply Xd;focus simp [*];done | apply Xe;focus simp [*];done | refine Ya rfl rfl ?_)
 refine AWp.countO l.length [4,5,8] 9 (fun i e H1 _=>e 8=.int .i64 i∧(l.take i).any mainP=false) ⟨(by first | (simp (disch:=omega) [putE,over,ofV,ofS, *];done) | (simp (disch:=omega) [putE,over,ofV,ofS, *];rfl)),rfl⟩ ?_;rintro i v H1 nx1 hi hn1 ⟨h8,ha⟩
 repeat (first | (first | (apply Xf;rfl) | apply Xj);focus simp [*,-Option.some.injEq];rfl | (first | (apply Xa;rfl) | apply Xb);(focus simp [*];done);focus simp [*,-Option.some.injEq];rfl | (first | (apply Xg;rfl) | apply Xk);(focus simp [*];done) | (first | refine Xl ?_ | refine Xi ?_ | refine Xh ?_ | refine Xo ?_ | refine Xq ?_);try simp only [Xw,Xx,reduceIte,Nat.reduceEqDiff] | refine Xn ?_ | refine Xp rfl ?_ | refine Xc ?_ | apply Xd;focus simp [*];done | apply Xe;focus simp [*];done | refine Ya rfl rfl ?_)
 (((apply AWp.cond');(focus (simp [*,-Ax.CV.bool.injEq];rfl))) <;> (intro hb) <;> (try simp only [decide_eq_true_eq,decide_eq_false_iff_not,Bool.not_eq_true',Bool.not_eq_false',Bool.not_eq_true,Bool.not_eq_false] at hb))
 ·have hlt:i<l.length:=hb;have hwi:=lim_wrap hlt hl;clear hb;have hx:=ixc_P l[i];cases hc:mainP l[i] with
  | true =>
    have hf2:=idx_hit hlt ha hc;rw [hc] at hx;clear hc ha
    repeat (first | (first | (apply Xf;rfl) | apply Xj);focus simp [*,-Option.some.injEq];rfl | (first | (apply Xa;rfl) | apply Xb);(focus simp [*];done);focus simp [*,-Option.some.injEq];rfl | (first | (apply Xg;rfl) | apply Xk);(focus simp [*];done) | (first | refine Xl ?_ | refine Xi ?_ | refine Xh ?_ | refine Xo ?_ | refine Xq ?_);try simp only [Xw,Xx,reduceIte,Nat.reduceEqDiff] | refine Xn ?_ | refine Xp rfl ?_ | refine Xc ?_ | apply Xd;focus simp [*];done | apply Xe;focus simp [*];done | refine Ya rfl rfl ?_)
    ((apply Xr);(focus rfl);(focus (first | rfl | (simp [*];done)));(focus simp [*,-Option.some.injEq];rfl);kernel_rfl)
    ·exact hx _
    repeat (first | (first | (apply Xf;rfl) | apply Xj);focus simp [*,-Option.some.injEq];rfl | (first | (apply Xa;rfl) | apply Xb);(focus simp [*];done);focus simp [*,-Option.some.injEq];rfl | (first | (apply Xg;rfl) | apply Xk);(focus simp [*];done) | (first | refine Xl ?_ | refine Xi ?_ | refine Xh ?_ | refine Xo ?_ | refine Xq ?_);try simp only [Xw,Xx,reduceIte,Nat.reduceEqDiff] | refine Xn ?_ | refine Xp rfl ?_ | refine Xc ?_ | apply Xd;focus simp [*];done | apply Xe;focus simp [*];done | refine Ya rfl rfl ?_)
    (refine⟨_,(by simp [*];rfl),?_⟩;(try simp only [packA]))
    all_goals (first | (rw [hf2];done) | (rw [hf2];rfl))
  | false =>
    have ha2:=any_next hlt ha hc;rw [hc] at hx;clear hc ha
    repeat (first | (first | (apply Xf;rfl) | apply Xj);focus simp [*,-Option.some.injEq];rfl | (first | (apply Xa;rfl) | apply Xb);(focus simp [*];done);focus simp [*,-Option.some.injEq];rfl | (first | (apply Xg;rfl) | apply Xk);(focus simp [*];done) | (first | refine Xl ?_ | refine Xi ?_ | refine Xh ?_ | refine Xo ?_ | refine Xq ?_);try simp only [Xw,Xx,reduceIte,Nat.reduceEqDiff] | refine Xn ?_ | refine Xp rfl ?_ | refine Xc ?_ | apply Xd;focus simp [*];done | apply Xe;focus simp [*];done | refine Ya rfl rfl ?_)
    ((apply Xr);(focus rfl);(focus (first | rfl | (simp [*];done)));(focus simp [*,-Option.some.injEq];rfl);kernel_rfl)
    ·exact hx _
    repeat (first | (first | (apply Xf;rfl) | apply Xj);focus simp [*,-Option.some.injEq];rfl | (first | (apply Xa;rfl) | apply Xb);(focus simp [*];done);focus simp [*,-Option.some.injEq];rfl | (first | (apply Xg;rfl) | apply Xk);(focus simp [*];done) | (first | refine Xl ?_ | refine Xi ?_ | refine Xh ?_ | refine Xo ?_ | refine Xq ?_);try simp only [Xw,Xx,reduceIte,Nat.reduceEqDiff] | refine Xn ?_ | refine Xp rfl ?_ | refine Xc ?_ | apply Xd;focus simp [*];done | apply Xe;focus simp [*];done | refine Ya rfl rfl ?_)
    exact⟨by ((repeat (first | exact Keeps.base _ _ _ _ | (with_reducible exact Keeps.refl _ _ _) | (refine Keeps.put rfl ?_) | (refine Keeps.over' rfl rfl ?_)))),hlt,(by first | (simp (disch:=omega) [putE,over,ofV,ofS, *];done) | (simp (disch:=omega) [putE,over,ofV,ofS, *];rfl)),ha2⟩
 ·have hi':i=l.length:=by omega
  rw [hi',List.take_length] at ha;have hf2:=idx_no ha;clear ha hb
  repeat (first | (first | (apply Xf;rfl) | apply Xj);focus simp [*,-Option.some.injEq];rfl | (first | (apply Xa;rfl) | apply Xb);(focus simp [*];done);focus simp [*,-Option.some.injEq];rfl | (first | (apply Xg;rfl) | apply Xk);(focus simp [*];done) | (first | refine Xl ?_ | refine Xi ?_ | refine Xh ?_ | refine Xo ?_ | refine Xq ?_);try simp only [Xw,Xx,reduceIte,Nat.reduceEqDiff] | refine Xn ?_ | refine Xp rfl ?_ | refine Xc ?_ | apply Xd;focus simp [*];done | apply Xe;focus simp [*];done | refine Ya rfl rfl ?_)
  (refine⟨_,(by simp [*];rfl),?_⟩;(try simp only [packA]))
  all_goals (first | (rw [hf2];done) | (rw [hf2];rfl))
theorem any_ix {α:Type}(p:α→Bool)(l:List α):decide (0≤ofN (l.findIdx? p))=l.any p:=by
 cases h:l.findIdx? p with
 | none =>
   have:l.any p=false:=by
    rw [List.any_eq_false];intro x hx;rw [List.findIdx?_eq_none_iff] at h;have:=h x hx;simp [this]
   rw [this];rfl
 | some i =>
   obtain⟨h1,h2,_⟩:=List.findIdx?_eq_some_iff_getElem.mp h;have:l.any p=true:=List.any_eq_true.mpr ⟨_,List.getElem_mem h1,h2⟩;rw [this];simp [ofN]
set_option maxRecDepth 10000 in
set_option maxHeartbeats 4000000 in
theorem tk_contains (l:List Sg)(hl:l.length≤lim):FCall1 Tryd.prog tkG 19 [.lst (l.map cvG),.fn (.func 20) [] []] (.bool (l.any mainP)):=by
 refine FCall.one tkG_pu (by simp [puL,puV,puRm puG]) rfl ?_;refine FCall.ofBody Tryd.func19 rfl rfl fun nx=>?_
 have hx:=ix_P l hl;rw [← any_ix];generalize ofN (l.findIdx? mainP)=z at *
 repeat (first | (first | (apply Xf;rfl) | apply Xj);focus simp [*,-Option.some.injEq];rfl | (first | (apply Xa;rfl) | apply Xb);(focus simp [*];done);focus simp [*,-Option.some.injEq];rfl | (first | (apply Xg;rfl) | apply Xk);(focus simp [*];done) | (first | refine Xl ?_ | refine Xi ?_ | refine Xh ?_ | refine Xo ?_ | refine Xq ?_);try simp only [Xw,Xx,reduceIte,Nat.reduceEqDiff] | refine Xn ?_ | refine Xp rfl ?_ | refine Xc ?_ | apply Xd;focus simp [*];done | apply Xe;focus simp [*];done | refine Ya rfl rfl ?_)
 ((apply Xr);(focus rfl);(focus (first | rfl | (simp [*];done)));(focus simp [*,-Option.some.injEq];rfl);kernel_rfl)
 ·exact hx _
 repeat (first | (first | (apply Xf;rfl) | apply Xj);focus simp [*,-Option.some.injEq];rfl | (first | (apply Xa;rfl) | apply Xb);(focus simp [*];done);focus simp [*,-Option.some.injEq];rfl | (first | (apply Xg;rfl) | apply Xk);(focus simp [*];done) | (first | refine Xl ?_ | refine Xi ?_ | refine Xh ?_ | refine Xo ?_ | refine Xq ?_);try simp only [Xw,Xx,reduceIte,Nat.reduceEqDiff] | refine Xn ?_ | refine Xp rfl ?_ | refine Xc ?_ | apply Xd;focus simp [*];done | apply Xe;focus simp [*];done | refine Ya rfl rfl ?_)
 (refine⟨_,(by simp [*];rfl),?_⟩;(try simp only [packA]))
set_option maxRecDepth 10000 in
set_option maxHeartbeats 4000000 in
theorem tk_hasMain (h:List Cd)(hB:HB h):FCall1 Tryd.prog tkG 11 [cvH h] (.bool (hasMain h)):=by
 refine FCall.one tkG_pu (by simp [puL,puH]) rfl ?_;refine FCall.ofBody Tryd.func11 rfl rfl fun nx=>?_
 have hf:=tk_Find h hB.len MainB;obtain⟨w,hw⟩:∃ w,hasMain h=w:=⟨_,rfl⟩;rw [hw];unfold hasMain at hw;cases hi:findN h MainB with
 | none =>
   have hv:findI h MainB=-1:=by simp only [findI,hi]
   rw [hi] at hw;simp only at hw;rw [hv] at hf;rw [← hw];clear hw hi hv;simp only [MainB] at hf
   repeat (first | (first | (apply Xf;rfl) | apply Xj);focus simp [cvH, *,-Option.some.injEq];rfl | (first | (apply Xa;rfl) | apply Xb);(focus simp [cvH, *];done);focus simp [cvH, *,-Option.some.injEq];rfl | (first | (apply Xg;rfl) | apply Xk);(focus simp [cvH, *];done) | (first | refine Xl ?_ | refine Xi ?_ | refine Xh ?_ | refine Xo ?_ | refine Xq ?_);try simp only [Xw,Xx,reduceIte,Nat.reduceEqDiff] | refine Xn ?_ | refine Xp rfl ?_ | refine Xc ?_ | apply Xd;focus simp [cvH, *];done | apply Xe;focus simp [cvH, *];done | refine Ya rfl rfl ?_)
   ((apply Xr);(focus rfl);(focus (first | rfl | (simp [cvH, *];done)));(focus simp [cvH, *,-Option.some.injEq];rfl);kernel_rfl)
   ·exact hf _
   repeat (first | (first | (apply Xf;rfl) | apply Xj);focus simp [*,-Option.some.injEq];rfl | (first | (apply Xa;rfl) | apply Xb);(focus simp [*];done);focus simp [*,-Option.some.injEq];rfl | (first | (apply Xg;rfl) | apply Xk);(focus simp [*];done) | (first | refine Xl ?_ | refine Xi ?_ | refine Xh ?_ | refine Xo ?_ | refine Xq ?_);try simp only [Xw,Xx,reduceIte,Nat.reduceEqDiff] | refine Xn ?_ | refine Xp rfl ?_ | refine Xc ?_ | apply Xd;focus simp [*];done | apply Xe;focus simp [*];done | refine Ya rfl rfl ?_)
   (refine⟨_,(by simp [*];rfl),?_⟩;(try simp only [packA]))
 | some i =>
   obtain⟨hil,_⟩:=findN_lt hi;have hv:findI h MainB=(i:Int):=by simp only [findI,hi]
   have hx:=tk_contains h[i].methods (hB.ml _ (List.getElem_mem hil));rw [hi] at hw;simp only [List.getElem?_eq_getElem hil] at hw;have hw':h[i].methods.any mainP=w:=hw;rw [hw'] at hx;rw [hv] at hf;clear hw hi hv hw';simp only [MainB] at hf
   repeat (first | (first | (apply Xf;rfl) | apply Xj);focus simp [cvH, *,-Option.some.injEq];rfl | (first | (apply Xa;rfl) | apply Xb);(focus simp [cvH, *];done);focus simp [cvH, *,-Option.some.injEq];rfl | (first | (apply Xg;rfl) | apply Xk);(focus simp [cvH, *];done) | (first | refine Xl ?_ | refine Xi ?_ | refine Xh ?_ | refine Xo ?_ | refine Xq ?_);try simp only [Xw,Xx,reduceIte,Nat.reduceEqDiff] | refine Xn ?_ | refine Xp rfl ?_ | refine Xc ?_ | apply Xd;focus simp [cvH, *];done | apply Xe;focus simp [cvH, *];done | refine Ya rfl rfl ?_)
   ((apply Xr);(focus rfl);(focus (first | rfl | (simp [cvH, *];done)));(focus simp [cvH, *,-Option.some.injEq];rfl);kernel_rfl)
   ·exact hf _
   repeat (first | (first | (apply Xf;rfl) | apply Xj);focus simp [cvD, *,-Option.some.injEq];rfl | (first | (apply Xa;rfl) | apply Xb);(focus simp [cvD, *];done);focus simp [cvD, *,-Option.some.injEq];rfl | (first | (apply Xg;rfl) | apply Xk);(focus simp [cvD, *];done) | (first | refine Xl ?_ | refine Xi ?_ | refine Xh ?_ | refine Xo ?_ | refine Xq ?_);try simp only [Xw,Xx,reduceIte,Nat.reduceEqDiff] | refine Xn ?_ | refine Xp rfl ?_ | refine Xc ?_ | apply Xd;focus simp [cvD, *];done | apply Xe;focus simp [cvD, *];done | refine Ya rfl rfl ?_)
   ((apply Xr);(focus rfl);(focus (first | rfl | (simp [cvD, *];done)));(focus simp [cvD, *,-Option.some.injEq];rfl);kernel_rfl)
   ·exact hx _
   cases w
   ·repeat (first | (first | (apply Xf;rfl) | apply Xj);focus simp [*,-Option.some.injEq];rfl | (first | (apply Xa;rfl) | apply Xb);(focus simp [*];done);focus simp [*,-Option.some.injEq];rfl | (first | (apply Xg;rfl) | apply Xk);(focus simp [*];done) | (first | refine Xl ?_ | refine Xi ?_ | refine Xh ?_ | refine Xo ?_ | refine Xq ?_);try simp only [Xw,Xx,reduceIte,Nat.reduceEqDiff] | refine Xn ?_ | refine Xp rfl ?_ | refine Xc ?_ | apply Xd;focus simp [*];done | apply Xe;focus simp [*];done | refine Ya rfl rfl ?_)
    (refine⟨_,(by simp [*];rfl),?_⟩;(try simp only [packA]))
   ·repeat (first | (first | (apply Xf;rfl) | apply Xj);focus simp [*,-Option.some.injEq];rfl | (first | (apply Xa;rfl) | apply Xb);(focus simp [*];done);focus simp [*,-Option.some.injEq];rfl | (first | (apply Xg;rfl) | apply Xk);(focus simp [*];done) | (first | refine Xl ?_ | refine Xi ?_ | refine Xh ?_ | refine Xo ?_ | refine Xq ?_);try simp only [Xw,Xx,reduceIte,Nat.reduceEqDiff] | refine Xn ?_ | refine Xp rfl ?_ | refine Xc ?_ | apply Xd;focus simp [*];done | apply Xe;focus simp [*];done | refine Ya rfl rfl ?_)
    (refine⟨_,(by simp [*];rfl),?_⟩;(try simp only [packA]))
end
end Go.Proofs.YtoookjadbhdfhaaDoor
