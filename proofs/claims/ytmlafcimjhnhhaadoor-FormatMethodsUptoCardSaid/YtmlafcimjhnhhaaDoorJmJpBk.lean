/-
  Plain Lean: a text is at least as long as its tree is deep and has statements; what fits is within the limits.
-/
import Derived.Test.YtmlafcimjhnhhaaDoorJmJpBi
import Derived.Test.YtmlafcimjhnhhaaDoorJmJpBf
import Derived.Test.YtmlafcimjhnhhaaDoorJmJpAt
import Derived.Test.YtmlafcimjhnhhaaDoorJmJpBe
import Derived.Test.YtmlafcimjhnhhaaDoorJmJpAw
set_option linter.unusedSectionVars false
set_option linter.unusedSimpArgs false
set_option linter.unnecessarySimpa false
set_option linter.unusedVariables false
set_option linter.unusedSimpArgs false
set_option linter.unusedVariables false
namespace Go.Proofs.YtmlafcimjhnhhaaDoor
section
open Lx
namespace Lx
end Lx
end
section
open Lx
namespace Lx
/-- A text that reads as these tokens, whatever follows that is no part of a word. -/
def Pr (A:Bytes)(us:List TT):Prop:=∀ rest vs,nextPart rest=false→LxT rest vs→LxT (A++rest) (us++vs)
/-- A text that reads as these tokens, whatever follows. -/
def Pa (A:Bytes)(us:List TT):Prop:=∀ rest vs,LxT rest vs→LxT (A++rest) (us++vs)
theorem Pa.pr {A:Bytes}{us:List TT}(h:Pa A us):Pr A us:=fun r v _ k=>h r v k
theorem Pr.word {x:Bytes}(h:isIdent x=true):Pr x [TT.wd x]:=fun r v hn k=>.word h hn k
theorem Pr.key {x:Bytes}(h:x∈kwList):Pr x [TT.kw x]:=fun r v hn k=>.key h hn k
theorem Pr.num {x:Bytes}{n:Nat}(h:NumText x n):Pr x [TT.nu x n]:=fun r v hn k=>.num h hn k
theorem Pa.nil:Pa [] []:=fun r v k=>k
/-- Separators. -/
theorem Pa.sep {A:Bytes}(h:A.all isSep=true):Pa A []:=by
 induction A with
 | nil=>exact .nil
 | cons c A ih =>
   simp only [List.all_cons,Bool.and_eq_true] at h;exact fun r v k=>.sep h.1 (ih h.2 r v k)
theorem Pa.app {A B:Bytes}{us vs:List TT}(h:Pa A us)(h2:Pa B vs):Pa (A++B) (us++vs):=fun r v k=>by
 rw [List.append_assoc,List.append_assoc];exact h _ _ (h2 _ _ k)
/-- A text with which no word goes on. -/
def Brk (B:Bytes):Prop:=∃ c t,B=c::t∧isPart c=false
theorem Pr.app {A B:Bytes}{us vs:List TT}(h:Pr A us)(hb:Brk B)(h2:Pa B vs):Pa (A++B) (us++vs):=fun r v k=>by
 obtain⟨c,t,rfl,hc⟩:=hb;rw [List.append_assoc,List.append_assoc];exact h _ _ hc (h2 _ _ k)
theorem Brk.app {A:Bytes}(h:Brk A)(B:Bytes):Brk (A++B):=by
 obtain⟨c,t,rfl,hc⟩:=h;exact⟨c,t++B,rfl,hc⟩
theorem Brk.of {c:UInt8}{t:Bytes}(h:isPart c=false):Brk (c::t):=⟨c,t,rfl,h⟩
theorem Pa.end {A:Bytes}{us:List TT}(h:Pa A us):LxT A us:=by simpa using h [] [] .nil
/-- An operation, in parentheses, is an atom. -/
theorem GrP.bin {op:Int}(h:1≤op∧op≤5){a b:Ex}{us vs:List TT}{s t:Nat}(ha:GrP a us s)(hb:GrP b vs t):GrP (.mk 6 op [] [] [a,b]) (TT.mk [40]::((us++(TT.mk (opText op)::vs))++[TT.mk [41]])) 0:=by
 refine .paren ?_;have:op=1∨op=2∨op=3∨op=4∨op=5:=by omega
 rcases this with rfl | rfl | rfl | rfl | rfl
 ·exact .sum (.add (.prod (.post ha)) (.post hb))
 ·exact .sum (.sub (.prod (.post ha)) (.post hb))
 ·exact .sum (.prod (.mul (.post ha) hb))
 ·exact .less (.prod (.post ha)) (.prod (.post hb))
 ·exact .equal (.prod (.post ha)) (.prod (.post hb))
theorem GrP.expr {e:Ex}{us:List TT}{s:Nat}(h:GrP e us s):GrE e us:=.sum (.prod (.post h))
end Lx
end
section
open Lx
namespace Lx
theorem sp (c:UInt8)(h:isSep c=true):Pa [c] []:=.sep (by simp [h])
theorem Pr.ne {A:Bytes}{us:List TT}(h:Pr A us)(hu:us≠[]):A≠[]:=by
 rintro rfl;have:=(h [] [] rfl .nil).len;simp at this;exact hu this
end Lx
end
end Go.Proofs.YtmlafcimjhnhhaaDoor
