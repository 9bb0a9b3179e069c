/-
  Plain Lean: trees without faults; what the parser reads is without faults.
-/
import Derived.Test.YtoookjadbhdfhaaGreatDoorUJpAr
import Derived.Test.YtoookjadbhdfhaaGreatDoorUJpAl
import Derived.Test.YtoookjadbhdfhaaGreatDoorUJpAq
set_option linter.unusedSectionVars false
set_option linter.unusedSimpArgs false
set_option linter.unnecessarySimpa false
set_option linter.unusedVariables false
set_option linter.unusedSimpArgs false
set_option linter.unusedVariables false
namespace Go.Proofs.YtoookjadbhdfhaaGreatDoor
section
open Lx
namespace Lx
def WfT (t:Bytes):Prop:=t=[105,110,116]∨isIdent t=true
inductive WfE:Ex→Prop
 | int (n:Int) (h1:-9223372036854775808<n) (h2:n<9223372036854775808):WfE (.mk 1 n [] [] [])
 | null:WfE (.mk 2 0 [] [] [])
 | var (x:Bytes) (hx:isIdent x=true):WfE (.mk 3 0 [] x [])
 | this:WfE (.mk 4 0 [] [] [])
 | input:WfE (.mk 5 0 [] [] [])
 | bin (op:Int) (h:1≤op∧op≤5) {a b:Ex} (ha:WfE a) (hb:WfE b):WfE (.mk 6 op [] [] [a,b])
 | new (x:Bytes) (hx:isIdent x=true):WfE (.mk 7 0 [] x [])
 | field (m:Bytes) (hm:isIdent m=true) {k:Ex} (hk:WfE k):WfE (.mk 8 0 [] m [k])
 | call (m:Bytes) (hm:isIdent m=true) {k:Ex} {es:List Ex} (hk:WfE k) (he:∀ e∈es,WfE e):WfE (.mk 9 0 [] m (k::es))
 | static (o m:Bytes) (ho:isIdent o=true) (hm:isIdent m=true) {es:List Ex} (he:∀ e∈es,WfE e):WfE (.mk 10 0 o m es)
inductive WfS:St→Prop
 | var0 (x t:Bytes) (hx:isIdent x=true) (ht:WfT t):WfS (.mk 1 x t [] [] [])
 | var1 (x t:Bytes) (hx:isIdent x=true) (ht:WfT t) {e:Ex} (he:WfE e):WfS (.mk 1 x t [e] [] [])
 | assign (x:Bytes) (hx:isIdent x=true) {e:Ex} (he:WfE e):WfS (.mk 2 x [] [e] [] [])
 | store (m:Bytes) (hm:isIdent m=true) {k e:Ex} (hk:WfE k) (he:WfE e):WfS (.mk 3 m [] [k,e] [] [])
 | if {e:Ex} (he:WfE e) {b c:List St} (hb:∀ s∈b,WfS s) (hc:∀ s∈c,WfS s):WfS (.mk 4 [] [] [e] b c)
 | while {e:Ex} (he:WfE e) {b:List St} (hb:∀ s∈b,WfS s):WfS (.mk 5 [] [] [e] b [])
 | try (x t:Bytes) (hx:isIdent x=true) (ht:WfT t) {b c:List St} (hb:∀ s∈b,WfS s) (hc:∀ s∈c,WfS s):WfS (.mk 6 x t [] b c)
 | throw {e:Ex} (he:WfE e):WfS (.mk 7 [] [] [e] [] [])
 | return0:WfS (.mk 8 [] [] [] [] [])
 | return1 {e:Ex} (he:WfE e):WfS (.mk 8 [] [] [e] [] [])
 | call {e:Ex} (he:WfE e) (hk:e.kind=9∨e.kind=10):WfS (.mk 9 [] [] [e] [] [])
def WfF (f:Fld):Prop:=isIdent f.name=true∧WfT f.typ
structure WfM (m:Me):Prop where
 name:isIdent m.name=true
 params:∀ f∈m.params,WfF f
 result:m.result=[]∨WfT m.result
 body:∀ s∈m.body,WfS s
structure WfC (c:Cl):Prop where
 name:isIdent c.name=true
 super:c.super=[]∨isIdent c.super=true
 fields:∀ f∈c.fields,WfF f
 methods:∀ m∈c.methods,WfM m
/-- Tokens as the lexer gives them: identifiers, numbers. -/
def TId (ts:List Tok):Prop:=∀ i,((tk ts i).kind=1→isIdent (tk ts i).text=true)∧((tk ts i).kind=3→(tk ts i).n<9223372036854775808)
section
variable {ts:List Tok} (hI:TId ts)
include hI
def Wfd (E:Nat→PR Ex):Prop:=∀ i e j,E i=.ok (e,j)→WfE e
/-- What is known of a post by its shape. -/
def WfO (x:Ex×Nat):Prop:=WfE x.1∧(x.2=1→isIdent x.1.name=true)∧(x.2=2→∃ m k,x.1=.mk 8 0 [] m [k]∧isIdent m=true∧WfE k)∧(x.2=3→x.1.kind=9∨x.1.kind=10)
omit hI in
theorem WfO.of0 {e:Ex}(h:WfE e):WfO (e,0):=⟨h,fun h=>(by cases h),fun h=>(by cases h),fun h=>(by cases h)⟩
section
variable {E:Nat→PR Ex} (hE:Wfd E)
include hE
end
end
end Lx
end
section
open Lx
namespace Lx
/-- The numbers of an expression are 64 bits wide. -/
inductive NumB:Ex→Prop
 | mk (k n:Int) (o m:Bytes) (ks:List Ex) (h1:-9223372036854775808≤n) (h2:n<9223372036854775808) (h:∀ x∈ks,NumB x):NumB (.mk k n o m ks)
inductive NumS:St→Prop
 | mk (k:Int) (nm ty:Bytes) (es:List Ex) (b c:List St) (h:∀ x∈es,NumB x) (hb:∀ x∈b,NumS x) (hc:∀ x∈c,NumS x):NumS (.mk k nm ty es b c)
theorem first0 {α:Type}{f:α→Nat}{l:List α}(h:firstLim f l=0):∀ x∈l,f x=0:=by
 induction l with
 | nil=>intro x hx;cases hx
 | cons y l ih =>
   rw [firstLim] at h;split at h
   ·rename_i h1;exact absurd h h1
   ·rename_i h1;intro x hx;rcases List.mem_cons.1 hx with rfl | hx
    ·simpa using h1
    ·exact ih h x hx
end Lx
end
section
open Lx
namespace Lx
def isOk {α:Type}:Tk α→Bool
 | .ok _=>true
 | .error _=>false
/-- A scope that Expr takes: names that are identifiers, types, no name twice. -/
def ScOk (h:List Cd):List Fld→Prop
 | []=>True
 | f::l=>isIdent f.name=true∧typB h f.typ=true∧(∀ g∈l,g.name≠f.name)∧ScOk h l
theorem varF_none {sc:List Fld}{s:Bytes}:varF sc s=none↔∀ f∈sc,f.name≠s:=by
 unfold varF;rw [Option.map_eq_none_iff,List.find?_eq_none];simp
theorem ScOk.snoc {h:List Cd}:∀ {sc:List Fld} {f:Fld},ScOk h sc→isIdent f.name=true→typB h f.typ=true→varF sc f.name=none→ScOk h (sc++[f])
 | [],f,_,h1,h2,_=>⟨h1,h2,by simp,trivial⟩
 | g::l,f,hs,h1,h2,h3=>by
   obtain⟨a,b,c,d⟩:=hs;rw [varF_none] at h3;refine⟨a,b,fun x hx=>?_,ScOk.snoc d h1 h2 (varF_none.2 fun x hx=>h3 x (List.mem_cons_of_mem _ hx))⟩;rcases List.mem_append.1 hx with hx | hx
   ·exact c x hx
   ·simp at hx;subst hx;exact fun e=>h3 g List.mem_cons_self e.symm
theorem scpT_ok {h:List Cd}:∀ (l sc:List Fld),ScOk h l→(∀ f∈l,∀ g∈sc,g.name≠f.name)→scpT h sc l=.ok (sc++l)
 | [],sc,_,_=>by simp [scpT]
 | f::l,sc,hs,hd=>by
   obtain⟨a,b,c,d⟩:=hs;have hv:varF sc f.name=none:=varF_none.2 fun g hg=>hd f List.mem_cons_self g hg
   rw [scpT,if_neg (by simp [a]),if_neg (by simp [b]),if_neg (by simp [hv]),scpT_ok l (sc++[f]) d]
   ·simp
   ·intro x hx g hg;rcases List.mem_append.1 hg with hg | hg
    ·exact hd x (List.mem_cons_of_mem _ hx) g hg
    ·simp at hg;subst hg;exact fun e=>c x hx e.symm
/-- What is known of the class and the scope. -/
structure InP (l:List Cl) (c:Bytes) (sc:List Fld):Prop where
 hi:(checkF (hiOf l)).2=0
 cls:c=[]∨0≤findI (hiOf l) c
 sc:ScOk (hiOf l) sc
theorem InP.expr {l:List Cl}{c:Bytes}{sc:List Fld}(h:InP l c sc){e:Ex}(hd:exDepth e≤32):exprE l c sc e=exT9 (hiOf l) c sc e:=by
 unfold exprE;rw [if_neg (by simp [h.hi]),if_neg (by rintro⟨a,b⟩;rcases h.cls with x | x;exact a x;omega),scpT_ok sc [] h.sc (by simp)];simp only [List.nil_append];rw [if_neg (by omega)]
theorem InP.add {l:List Cl}{c:Bytes}{sc:List Fld}(h:InP l c sc){nm ty:Bytes}(h1:isIdent nm=true)(h2:typB (hiOf l) ty=true)(h3:varF sc nm=none):InP l c (sc++[⟨nm,ty⟩]):=⟨h.hi,h.cls,h.sc.snoc h1 h2 h3⟩
theorem and_ok {α β:Type}{a:Tk α}{b:Tk β}{v:β}(h:andT a b=.ok v):isOk a=true∧b=.ok v:=by
 unfold andT at h;cases a with
 | error e=>cases h
 | ok x=>exact⟨rfl,h⟩
theorem asg_ok {h:List Cd}{t:Tk Bytes}{to:Bytes}(hk:isOk (asgT h t to)=true):isOk t=true:=by
 unfold asgT at hk;cases t with
 | error e=>cases hk
 | ok a=>rfl
theorem new_ok {h:List Cd}{sc:List Fld}{tb:Bool}{nm:Bytes}(hk:isOk (newT h sc tb nm)=true):isIdent nm=true∧tb=true∧varF sc nm=none:=by
 unfold newT at hk;split at hk
 ·cases hk
 ·rename_i h1;split at hk
  ·cases hk
  ·rename_i h2;split at hk
   ·cases hk
   ·rename_i h3;exact⟨by simpa using h1,by simpa using h2,by simpa using h3⟩
theorem shp_ok {k:Int}{ne nb nl:Nat}(h:shpE k ne nb nl=0):(1≤k∧k≤9)∧(if k=1∨k=8∨k=6 then 0 else if k=3 then 2 else 1)≤ne∧ne≤(if k=6 then 0 else if k=3 then 2 else 1)∧(¬ (k=4∨k=5∨k=6)→nb=0)∧(¬ (k=4∨k=6)→nl=0):=by
 unfold shpE at h
 by_cases h1:k<1∨9<k
 ·rw [if_pos h1] at h;omega
 rw [if_neg h1] at h;obtain⟨lo,hlo⟩:∃ lo,lo=(if k=1∨k=8∨k=6 then 0 else if k=3 then 2 else 1:Nat):=⟨_,rfl⟩;obtain⟨hi,hhi⟩:∃ hi,hi=(if k=6 then 0 else if k=3 then 2 else 1:Nat):=⟨_,rfl⟩;rw [← hlo,← hhi] at h ⊢
 by_cases h2:ne<lo∨hi<ne
 ·rw [if_pos h2] at h;omega
 rw [if_neg h2] at h
 by_cases h3:¬ (k=4∨k=5∨k=6)∧0<nb
 ·rw [if_pos h3] at h;omega
 rw [if_neg h3] at h
 by_cases h4:¬ (k=4∨k=6)∧0<nl
 ·rw [if_pos h4] at h;omega
 refine⟨by omega,by omega,by omega,fun a=>?_,fun a=>?_⟩
 ·exact Nat.eq_zero_of_not_pos fun b=>h3 ⟨a,b⟩
 ·exact Nat.eq_zero_of_not_pos fun b=>h4 ⟨a,b⟩
theorem parT_ne:∀ {l sc:List Fld},parT sc l=.error 0→False
 | [],sc,h=>by rw [parT] at h;cases h
 | f::l,sc,h=>by
   rw [parT] at h;split at h
   ·cases h
   ·split at h
    ·cases h
    ·exact parT_ne h
/-- No error is zero. -/
def NZ {α:Type}(a:Tk α):Prop:=a≠.error 0
theorem nz_ok {α:Type}(v:α):NZ (.ok v:Tk α):=by intro h;cases h
theorem nz_er {α:Type}{e:Nat}(h:e≠0):NZ (.error e:Tk α):=by intro h2;cases h2;exact h rfl
theorem NZ.er {α β:Type}{a:Tk α}{e:Nat}(h:NZ a)(ha:a=.error e):NZ (.error e:Tk β):=nz_er fun e0=>h (by rw [ha,e0])
theorem NZ.and {α β:Type}{a:Tk α}{b:Tk β}(h:NZ a)(h2:NZ b):NZ (andT a b):=by
 unfold andT;cases ha:a with
 | error e=>exact h.er ha
 | ok v=>exact h2
theorem nz_asg {h:List Cd}{t:Tk Bytes}{to:Bytes}(ht:NZ t):NZ (asgT h t to):=by
 unfold asgT;cases ha:t with
 | error e=>exact ht.er ha
 | ok v=>dsimp only;split;exact nz_ok _;exact nz_er (by decide)
theorem nz_needC (h:List Cd)(c:Bytes):NZ (needC h c 6):=by unfold needC;split;exact nz_ok _;exact nz_er (by decide)
theorem nz_fld (h:List Cd)(c f:Bytes):NZ (fldT h c f):=by
 unfold fldT;split
 ·exact nz_er (by decide)
 ·split
  ·exact nz_ok _
  ·exact nz_er (by decide)
theorem nz_sig (h:List Cd)(c m:Bytes)(st:Bool)(n:Nat):NZ (sigT h c m st n):=by
 unfold sigT;split
 ·exact nz_er (by decide)
 ·split
  ·split
   ·exact nz_ok _
   ·exact nz_er (by decide)
  ·exact nz_er (by decide)
theorem nz_binOf {h:List Cd}{n:Int}{t:Tk (List Bytes)}(ht:NZ t):NZ (binOf h n t):=by
 unfold binOf;split
 ·rename_i e;exact ht.er rfl
 ·split
  ·exact nz_ok _
  ·exact nz_er (by decide)
 ·exact nz_er (by decide)
theorem nz_fldOf {h:List Cd}{m:Bytes}{t:Tk (List Bytes)}(ht:NZ t):NZ (fldOf h m t):=by
 unfold fldOf;split
 ·rename_i e;exact ht.er rfl
 ·exact nz_fld _ _ _
 ·exact nz_er (by decide)
theorem nz_ite {α:Type}{p:Prop}[Decidable p]{a b:Tk α}(ha:NZ a)(hb:NZ b):NZ (if p then a else b):=by split <;> assumption
mutual
theorem nz_ex {h:List Cd}{c:Bytes}{sc:List Fld}:∀ e:Ex,NZ (exT9 h c sc e)
 | .mk k n o m ks=>by
   have h1:=nz_tys (h:=h) (c:=c) (sc:=sc) ks;have h2:=nz_cal (h:=h) (c:=c) (sc:=sc) (m:=m) ks;have h3:=fun ps=>nz_arg (h:=h) (c:=c) (sc:=sc) ps ks
   rw [exT9];refine nz_ite (nz_er (by decide)) (nz_ite (nz_er (by decide)) (nz_ite (nz_er (by decide)) (nz_ite (nz_ok _) (nz_ite (nz_ok _) (nz_ite ?_ (nz_ite (nz_ite (nz_er (by decide)) (nz_ok _)) (nz_ite (nz_needC _ _) (nz_ite (nz_binOf h1) (nz_ite (nz_fldOf h1) (nz_ite h2 ?_))))))))))
   ·cases varF sc m with
    | none=>exact nz_er (by decide)
    | some t=>exact nz_ok _
   ·cases he:needC h o 6 with
    | error e=>exact (nz_needC h o).er he
    | ok v =>
      dsimp only;cases hg:sigT h o m true ks.length with
      | error e=>exact (nz_sig h o m true ks.length).er hg
      | ok g =>
        dsimp only;cases ha:argT h c sc g.params ks with
        | error e=>exact (h3 g.params).er ha
        | ok v=>exact nz_ok _
theorem nz_tys {h:List Cd}{c:Bytes}{sc:List Fld}:∀ l:List Ex,NZ (tysT h c sc l)
 | []=>by rw [tysT];exact nz_ok _
 | e::l=>by
   have h1:=nz_ex (h:=h) (c:=c) (sc:=sc) e;have h2:=nz_tys (h:=h) (c:=c) (sc:=sc) l;rw [tysT];split
   ·rename_i x hx;exact h1.er hx
   ·split
    ·rename_i x hx;exact h2.er hx
    ·exact nz_ok _
theorem nz_arg {h:List Cd}{c:Bytes}{sc:List Fld}:∀ (ps:List Bytes) (l:List Ex),NZ (argT h c sc ps l)
 | p::ps,e::l=>by
   have h1:=nz_ex (h:=h) (c:=c) (sc:=sc) e;have h2:=nz_arg (h:=h) (c:=c) (sc:=sc) ps l;rw [argT];split
   ·rename_i x hx;exact (nz_asg h1).er hx
   ·exact h2
 | [],l=>by rw [argT];exact nz_ok _;simp
 | p::ps,[]=>by rw [argT];exact nz_ok _;simp
theorem nz_cal {h:List Cd}{c m:Bytes}{sc:List Fld}:∀ l:List Ex,NZ (calT h c sc m l)
 | []=>by rw [calT];exact nz_er (by decide)
 | e::l=>by
   have h1:=nz_ex (h:=h) (c:=c) (sc:=sc) e;have h2:=fun ps=>nz_arg (h:=h) (c:=c) (sc:=sc) ps l
   rw [calT];split
   ·rename_i x hx;exact h1.er hx
   ·split
    ·exact nz_er (by decide)
    ·split
     ·rename_i x hx;exact (nz_sig _ _ _ _ _).er hx
     ·split
      ·rename_i x hx;exact (h2 _).er hx
      ·exact nz_ok _
end
theorem nz_ex0 {h:List Cd}{c:Bytes}{sc:List Fld}{es:List Ex}{i:Nat}:NZ (ex0T h c sc es i):=by
 unfold ex0T;split
 ·exact nz_ex _
 ·exact nz_er (by decide)
theorem nz_new {h:List Cd}{sc:List Fld}{tb:Bool}{nm:Bytes}:NZ (newT h sc tb nm):=by
 unfold newT;split
 ·exact nz_er (by decide)
 split
 ·exact nz_er (by decide)
 split
 ·exact nz_er (by decide)
 ·exact nz_ok _
theorem nz_opt {h:List Cd}{c ty:Bytes}{sc:List Fld}{es:List Ex}:NZ (if es=[] then .ok () else asgT h (ex0T h c sc es 0) ty):=by
 split
 ·exact nz_ok _
 ·exact nz_asg nz_ex0
theorem nz_sim {h:List Cd}{c res:Bytes}{sc:List Fld}{k:Int}{nm ty:Bytes}{es:List Ex}:NZ (simT h c res sc k nm ty es):=by
 unfold simT;split
 ·exact nz_new.and (nz_opt.and (nz_ok _))
 split
 ·split
  ·exact nz_er (by decide)
  ·exact (nz_asg nz_ex0).and (nz_ok _)
 split
 ·split
  ·rename_i e he;exact nz_ex0.er he
  ·split
   ·rename_i e he;exact (nz_fld _ _ _).er he
   ·exact (nz_asg nz_ex0).and (nz_ok _)
 split
 ·split
  ·rename_i e he;exact nz_ex0.er he
  ·split
   ·exact nz_ok _
   ·exact nz_er (by decide)
 split
 ·split
  ·exact nz_opt.and (nz_ok _)
  ·exact nz_er (by decide)
 split
 ·exact nz_ex0.and (nz_ok _)
 ·exact nz_er (by decide)
mutual
theorem nz_st {h:List Cd}{c res:Bytes}:∀ (s:St) (sc:List Fld),NZ (stT h c res sc s)
 | .mk k nm ty es b el,sc=>by
   have h1:=nz_bl (h:=h) (c:=c) (res:=res) b sc;have h2:=nz_bl (h:=h) (c:=c) (res:=res) el sc;have h3:=nz_bl (h:=h) (c:=c) (res:=res) el (sc++[⟨nm,ty⟩]);rw [stT];split
   ·rename_i hx;exact nz_er hx
   split
   ·split
    ·rename_i e he;exact nz_ex0.er he
    ·split
     ·exact h1.and (h2.and (nz_ok _))
     ·exact nz_er (by decide)
   split
   ·exact nz_new.and (h1.and (h3.and (nz_ok _)))
   ·exact nz_sim
theorem nz_bl {h:List Cd}{c res:Bytes}:∀ (b:List St) (sc:List Fld),NZ (blT h c res sc b)
 | [],sc=>by rw [blT];exact nz_ok _
 | s::l,sc=>by
   have h1:=nz_st (h:=h) (c:=c) (res:=res) s sc;have h2:=fun sc'=>nz_bl (h:=h) (c:=c) (res:=res) l sc'
   rw [blT];split
   ·rename_i e he;exact h1.er he
   ·exact h2 _
end
theorem blT_ne {h:List Cd}{c res:Bytes}{sc:List Fld}{b:List St}(hk:blT h c res sc b=.error 0):False:=nz_bl b sc hk
end Lx
end
end Go.Proofs.YtoookjadbhdfhaaGreatDoor
