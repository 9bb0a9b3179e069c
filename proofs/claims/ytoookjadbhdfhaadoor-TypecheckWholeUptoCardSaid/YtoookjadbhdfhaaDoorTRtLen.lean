/-
  Sizes of methods, classes, sources.
-/
import Derived.Test.YtoookjadbhdfhaaDoorTTkExpr
set_option linter.unusedSectionVars false
set_option linter.unusedSimpArgs false
set_option linter.unnecessarySimpa false
set_option linter.unusedVariables false
set_option linter.unusedSimpArgs false
set_option linter.unusedVariables false
namespace Go.Proofs.YtoookjadbhdfhaaDoor
open Lx
namespace Lx
def meSz (m:Me):Nat:=stsSz m.body+m.params.length+1
def mesSz:List Me→Nat
 | []=>0
 | m::l=>meSz m+mesSz l
def clSz (c:Cl):Nat:=mesSz c.methods+c.fields.length+1
def clsSz:List Cl→Nat
 | []=>0
 | c::l=>clSz c+clsSz l
theorem mesSz_mem {l:List Me}{m:Me}(h:m∈l):meSz m≤mesSz l:=by
 induction l with
 | nil=>cases h
 | cons x l ih =>
   rw [mesSz];rcases List.mem_cons.1 h with rfl | h
   ·omega
   ·have:=ih h;omega
theorem clsSz_mem {l:List Cl}{m:Cl}(h:m∈l):clSz m≤clsSz l:=by
 induction l with
 | nil=>cases h
 | cons x l ih =>
   rw [clsSz];rcases List.mem_cons.1 h with rfl | h
   ·omega
   ·have:=ih h;omega
theorem mesSz_len:∀ l:List Me,l.length≤mesSz l
 | []=>by simp [mesSz]
 | m::l=>by have:=mesSz_len l;rw [mesSz];simp [meSz];omega
theorem clsSz_len:∀ l:List Cl,l.length≤clsSz l
 | []=>by simp [clsSz]
 | m::l=>by have:=clsSz_len l;rw [clsSz];simp [clSz];omega
end Lx
end Go.Proofs.YtoookjadbhdfhaaDoor
