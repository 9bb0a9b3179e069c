/-
  A range over a string, for the lexer: what the runes say of the bytes; the state of the lexer's loop as a plain relation.
-/
import Derived.Test.YtoookjadbhdfhaaDoorTJpAn
import Derived.Laws.RangeAny
import Derived.Lib.OthersKept
import Derived.OwnWalk
import Derived.WalkSmall
import Derived.Lib.IndexBytes
set_option linter.unusedSectionVars false
set_option linter.unusedSimpArgs false
set_option linter.unnecessarySimpa false
set_option linter.unusedVariables false
namespace Go.Proofs.YtoookjadbhdfhaaDoor
section
open Lx Go.RowKit
namespace Lx
end Lx
end
section
open Lx Go.RowKit
end
section
open Lx Go.RowKit
/-- A slice value that reads as a list of tokens. -/
def HasToks (w:World)(v:Value)(ts:List Tok):Prop :=
 (v=.slice none 0 0∧ts=[])∨∃ g cap,v=.slice (some ⟨g,0,none⟩) ts.length cap∧ts.length≤maxLen∧∀ i (h:i<ts.length),w.cell? ⟨g,i*4,none⟩=some (.int .i64 (ts[i].kind:Int))∧w.cell? ⟨g,i*4+1,none⟩=some (.int .i64 (ts[i].pos:Int)) ∧
  w.cell? ⟨g,i*4+2,none⟩=some (.string (strOf ts[i].text))∧w.cell? ⟨g,i*4+3,none⟩=some (.int .i64 (ts[i].n:Int))
theorem HasToks.below {w w':World}{v:Value}{ts:List Tok}(h:HasToks w v ts)(hb:Below w.heap.size w w'):HasToks w' v ts:=by
 rcases h with h | ⟨g,cap,hv,hm,hc⟩
 ·exact .inl h
 ·refine .inr ⟨g,cap,hv,hm,fun i hi=>?_⟩;obtain⟨h0,h1,h2,h3⟩:=hc i hi;have hlt:g<w.heap.size:=World.block_lt_of_cell? w _ h0;exact⟨(hb.cell (p:=⟨g,_,none⟩) hlt).trans h0,(hb.cell (p:=⟨g,_,none⟩) hlt).trans h1,(hb.cell (p:=⟨g,_,none⟩) hlt).trans h2,(hb.cell (p:=⟨g,_,none⟩) hlt).trans h3⟩
end
section
namespace Lx
inductive Ex where
 | mk (kind n:Int) (of name:Bytes) (kids:List Ex)
inductive St where
 | mk (kind:Int) (name typ:Bytes) (exprs:List Ex) (body els:List St)
structure Fld where
 name:Bytes
 typ:Bytes
structure Me where
 name:Bytes
 static:Bool
 params:List Fld
 result:Bytes
 body:List St
structure Cl where
 name:Bytes
 super:Bytes
 fields:List Fld
 methods:List Me
def Ex.kind:Ex→Int | .mk k _ _ _ _=>k
def Ex.n:Ex→Int | .mk _ n _ _ _=>n
def Ex.of:Ex→Bytes | .mk _ _ o _ _=>o
def Ex.name:Ex→Bytes | .mk _ _ _ m _=>m
def Ex.kids:Ex→List Ex | .mk _ _ _ _ ks=>ks
abbrev PR (α:Type):=Except Nat (α×Nat)
section
variable (ts:List Tok)
def tk (i:Nat):Tok:=ts.getD i ⟨5,0,[],0⟩
section
variable (E:Nat→PR Ex)
end
section
variable (S:Nat→PR St)
end
section
variable (B:Nat→PR (List St))
end
end
end Lx
end
section
namespace Lx
section
variable {ts:List Tok} {i j:Nat}
/-- E reads on wherever it succeeds. -/
def Adv {α:Type}(E:Nat→PR α):Prop:=∀ i a j,E i=.ok (a,j)→i<j
section
variable {E:Nat→PR Ex} (hE:Adv E)
include hE
end
section
variable {B:Nat→PR (List St)} (hB:Adv B)
include hB
end
end
end Lx
end
end Go.Proofs.YtoookjadbhdfhaaDoor
