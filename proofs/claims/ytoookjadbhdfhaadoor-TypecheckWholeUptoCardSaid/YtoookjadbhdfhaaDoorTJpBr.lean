/-
  Plain Lean: trees without faults; what the parser reads is without faults.
-/
import Derived.Test.YtoookjadbhdfhaaDoorTJpAu
import Derived.Test.YtoookjadbhdfhaaDoorTJpAn
set_option linter.unusedSectionVars false
set_option linter.unusedSimpArgs false
set_option linter.unnecessarySimpa false
set_option linter.unusedVariables false
set_option linter.unusedSimpArgs false
set_option linter.unusedVariables false
namespace Go.Proofs.YtoookjadbhdfhaaDoor
section
open Lx
namespace Lx
def WfT (t:Bytes):Prop:=t=[105,110,116]∨isIdent t=true
inductive WfE:Ex→Prop
 | int (n:Int) (h1:-9223372036854775808<n) (h2:n<9223372036854775808):WfE (.mk 1 n [] [] [])
 | null:WfE (.mk 2 0 [] [] [])
 | var (x:Bytes) (hx:isIdent x=true):WfE (.mk 3 0 [] x [])
 | this:WfE (.mk 4 0 [] [] [])
 | input:WfE (.mk 5 0 [] [] [])
 | bin (op:Int) (h:1≤op∧op≤5) {a b:Ex} (ha:WfE a) (hb:WfE b):WfE (.mk 6 op [] [] [a,b])
 | new (x:Bytes) (hx:isIdent x=true):WfE (.mk 7 0 [] x [])
 | field (m:Bytes) (hm:isIdent m=true) {k:Ex} (hk:WfE k):WfE (.mk 8 0 [] m [k])
 | call (m:Bytes) (hm:isIdent m=true) {k:Ex} {es:List Ex} (hk:WfE k) (he:∀ e∈es,WfE e):WfE (.mk 9 0 [] m (k::es))
 | static (o m:Bytes) (ho:isIdent o=true) (hm:isIdent m=true) {es:List Ex} (he:∀ e∈es,WfE e):WfE (.mk 10 0 o m es)
inductive WfS:St→Prop
 | var0 (x t:Bytes) (hx:isIdent x=true) (ht:WfT t):WfS (.mk 1 x t [] [] [])
 | var1 (x t:Bytes) (hx:isIdent x=true) (ht:WfT t) {e:Ex} (he:WfE e):WfS (.mk 1 x t [e] [] [])
 | assign (x:Bytes) (hx:isIdent x=true) {e:Ex} (he:WfE e):WfS (.mk 2 x [] [e] [] [])
 | store (m:Bytes) (hm:isIdent m=true) {k e:Ex} (hk:WfE k) (he:WfE e):WfS (.mk 3 m [] [k,e] [] [])
 | if {e:Ex} (he:WfE e) {b c:List St} (hb:∀ s∈b,WfS s) (hc:∀ s∈c,WfS s):WfS (.mk 4 [] [] [e] b c)
 | while {e:Ex} (he:WfE e) {b:List St} (hb:∀ s∈b,WfS s):WfS (.mk 5 [] [] [e] b [])
 | try (x t:Bytes) (hx:isIdent x=true) (ht:WfT t) {b c:List St} (hb:∀ s∈b,WfS s) (hc:∀ s∈c,WfS s):WfS (.mk 6 x t [] b c)
 | throw {e:Ex} (he:WfE e):WfS (.mk 7 [] [] [e] [] [])
 | return0:WfS (.mk 8 [] [] [] [] [])
 | return1 {e:Ex} (he:WfE e):WfS (.mk 8 [] [] [e] [] [])
 | call {e:Ex} (he:WfE e) (hk:e.kind=9∨e.kind=10):WfS (.mk 9 [] [] [e] [] [])
def WfF (f:Fld):Prop:=isIdent f.name=true∧WfT f.typ
structure WfM (m:Me):Prop where
 name:isIdent m.name=true
 params:∀ f∈m.params,WfF f
 result:m.result=[]∨WfT m.result
 body:∀ s∈m.body,WfS s
structure WfC (c:Cl):Prop where
 name:isIdent c.name=true
 super:c.super=[]∨isIdent c.super=true
 fields:∀ f∈c.fields,WfF f
 methods:∀ m∈c.methods,WfM m
/-- Tokens as the lexer gives them: identifiers, numbers. -/
def TId (ts:List Tok):Prop:=∀ i,((tk ts i).kind=1→isIdent (tk ts i).text=true)∧((tk ts i).kind=3→(tk ts i).n<9223372036854775808)
section
variable {ts:List Tok} (hI:TId ts)
include hI
def Wfd (E:Nat→PR Ex):Prop:=∀ i e j,E i=.ok (e,j)→WfE e
/-- What is known of a post by its shape. -/
def WfO (x:Ex×Nat):Prop:=WfE x.1∧(x.2=1→isIdent x.1.name=true)∧(x.2=2→∃ m k,x.1=.mk 8 0 [] m [k]∧isIdent m=true∧WfE k)∧(x.2=3→x.1.kind=9∨x.1.kind=10)
omit hI in
theorem WfO.of0 {e:Ex}(h:WfE e):WfO (e,0):=⟨h,fun h=>(by cases h),fun h=>(by cases h),fun h=>(by cases h)⟩
section
variable {E:Nat→PR Ex} (hE:Wfd E)
include hE
end
end
end Lx
end
section
open Lx
namespace Lx
/-- The numbers of an expression are 64 bits wide. -/
inductive NumB:Ex→Prop
 | mk (k n:Int) (o m:Bytes) (ks:List Ex) (h1:-9223372036854775808≤n) (h2:n<9223372036854775808) (h:∀ x∈ks,NumB x):NumB (.mk k n o m ks)
inductive NumS:St→Prop
 | mk (k:Int) (nm ty:Bytes) (es:List Ex) (b c:List St) (h:∀ x∈es,NumB x) (hb:∀ x∈b,NumS x) (hc:∀ x∈c,NumS x):NumS (.mk k nm ty es b c)
theorem first0 {α:Type}{f:α→Nat}{l:List α}(h:firstLim f l=0):∀ x∈l,f x=0:=by
 induction l with
 | nil=>intro x hx;cases hx
 | cons y l ih =>
   rw [firstLim] at h;split at h
   ·rename_i h1;exact absurd h h1
   ·rename_i h1;intro x hx;rcases List.mem_cons.1 hx with rfl | hx
    ·simpa using h1
    ·exact ih h x hx
end Lx
end
end Go.Proofs.YtoookjadbhdfhaaDoor
