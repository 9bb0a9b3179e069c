/-
  Plain Lean: what reading a text gives (the rules of ParSpec on the tokens of a text).
-/
import Derived.Test.YtmlafcimjhnhhaaDoorJmParTree
import Derived.Test.YtmlafcimjhnhhaaDoorJmJpAr
import Derived.Test.YtmlafcimjhnhhaaDoorJmJpAo
set_option linter.unusedSectionVars false
set_option linter.unusedSimpArgs false
set_option linter.unnecessarySimpa false
set_option linter.unusedVariables false
namespace Go.Proofs.YtmlafcimjhnhhaaDoor
section
open Lx
namespace Lx
/-- Tokens as lex.Tokens gives them, as far as the parser leans on it. -/
structure TWF (ts:List Tok):Prop where
 pos:0<ts.length
 kind:(tk ts (ts.length-1)).kind=5
 text:(tk ts (ts.length-1)).text=[]
 n:∀ t∈ts,t.n<9223372036854775808
 len:ts.length≤100000
end Lx
end
section
open Lx
namespace Lx
/-- The texts that the reference asks for. -/
def kmList:List Bytes:=kwList++markList
/-- Tokens, as far as the reference's parser leans on them. -/
structure TWR (ts:List Tok):Prop where
 wf:TWF ts
 km:∀ i x,x∈kmList→isT ts i x=true→(tk ts i).kind=2∨(tk ts i).kind=4
 mks:∀ i x,x∈markList→isT ts i x=true→(tk ts i).kind=4
theorem TWR.kt {ts:List Tok}(h:TWR ts):KT ts:=⟨fun i hk=>by
 constructor
 ·cases ho:opB ts i with
  | false=>rfl
  | true=>have:=h.km i [40] (by decide) ho;omega
 ·cases ho:clB ts i with
  | false=>rfl
  | true=>have:=h.km i [41] (by decide) ho;omega⟩
end Lx
end
set_option linter.unusedSimpArgs false
section
namespace Lx
mutual
def exSz:Ex→Nat
 | .mk _ _ _ _ ks=>exsSz ks+1
def exsSz:List Ex→Nat
 | []=>0
 | e::es=>exSz e+exsSz es
end
mutual
def stSz:St→Nat
 | .mk _ _ _ es b el=>exsSz es+stsSz b+stsSz el+1
def stsSz:List St→Nat
 | []=>0
 | s::l=>stSz s+stsSz l
end
theorem exSz_pos (e:Ex):0<exSz e:=by cases e;rw [exSz];omega
theorem stSz_pos (s:St):0<stSz s:=by cases s;rw [stSz];omega
theorem exsSz_len (l:List Ex):l.length≤exsSz l:=by
 induction l with
 | nil=>simp
 | cons x l ih=>have:=exSz_pos x;simp only [List.length_cons,exsSz];omega
theorem stsSz_len (l:List St):l.length≤stsSz l:=by
 induction l with
 | nil=>simp
 | cons x l ih=>have:=stSz_pos x;simp only [List.length_cons,stsSz];omega
theorem exsSz_mem {l:List Ex}{e:Ex}(h:e∈l):exSz e≤exsSz l:=by
 induction l with
 | nil=>cases h
 | cons x l ih =>
   simp only [exsSz];rcases List.mem_cons.1 h with rfl | h
   ·omega
   ·have:=ih h;omega
theorem stsSz_mem {l:List St}{e:St}(h:e∈l):stSz e≤stsSz l:=by
 induction l with
 | nil=>cases h
 | cons x l ih =>
   simp only [stsSz];rcases List.mem_cons.1 h with rfl | h
   ·omega
   ·have:=ih h;omega
section
variable {ts:List Tok}
def Siz (E:Nat→PR Ex):Prop:=∀ i e j,E i=.ok (e,j)→exSz e+i≤j
variable {E:Nat→PR Ex} (hE:Siz E)
include hE
omit hE
end
section
variable {ts:List Tok}
def MeZ (j:Nat)(m:Me):Prop:=stsSz m.body≤j∧m.params.length≤j
theorem MeZ.mono {j j':Nat}{m:Me}(h:MeZ j m)(hj:j≤j'):MeZ j' m:=⟨Nat.le_trans h.1 hj,Nat.le_trans h.2 hj⟩
end
end Lx
end
end Go.Proofs.YtmlafcimjhnhhaaDoor
