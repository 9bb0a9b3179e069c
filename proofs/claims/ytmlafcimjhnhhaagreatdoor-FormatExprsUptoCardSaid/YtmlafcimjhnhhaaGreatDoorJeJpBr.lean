/-
  Plain Lean: what PlainProgram prints is written by the grammar, so that it is read back.
-/
import Derived.Test.YtmlafcimjhnhhaaGreatDoorJeJpAt
import Derived.Test.YtmlafcimjhnhhaaGreatDoorJeJpBm
import Derived.Test.YtmlafcimjhnhhaaGreatDoorJeJpBg
set_option linter.unusedSectionVars false
set_option linter.unusedSimpArgs false
set_option linter.unnecessarySimpa false
set_option linter.unusedVariables false
set_option linter.unusedSimpArgs false
set_option linter.unusedVariables false
namespace Go.Proofs.YtmlafcimjhnhhaaGreatDoor
section
open Lx
namespace Lx
/-- A text that reads as these tokens, whatever follows that is no part of a word. -/
def Pr (A:Bytes)(us:List TT):Prop:=∀ rest vs,nextPart rest=false→LxT rest vs→LxT (A++rest) (us++vs)
/-- A text that reads as these tokens, whatever follows. -/
def Pa (A:Bytes)(us:List TT):Prop:=∀ rest vs,LxT rest vs→LxT (A++rest) (us++vs)
theorem Pa.pr {A:Bytes}{us:List TT}(h:Pa A us):Pr A us:=fun r v _ k=>h r v k
theorem Pr.word {x:Bytes}(h:isIdent x=true):Pr x [TT.wd x]:=fun r v hn k=>.word h hn k
theorem Pr.key {x:Bytes}(h:x∈kwList):Pr x [TT.kw x]:=fun r v hn k=>.key h hn k
theorem Pr.num {x:Bytes}{n:Nat}(h:NumText x n):Pr x [TT.nu x n]:=fun r v hn k=>.num h hn k
theorem Pa.mark {x:Bytes}(h:x∈soloList):Pa x [TT.mk x]:=fun r v k=>.mark h k
theorem Pa.nil:Pa [] []:=fun r v k=>k
/-- Separators. -/
theorem Pa.sep {A:Bytes}(h:A.all isSep=true):Pa A []:=by
 induction A with
 | nil=>exact .nil
 | cons c A ih =>
   simp only [List.all_cons,Bool.and_eq_true] at h;exact fun r v k=>.sep h.1 (ih h.2 r v k)
theorem Pa.app {A B:Bytes}{us vs:List TT}(h:Pa A us)(h2:Pa B vs):Pa (A++B) (us++vs):=fun r v k=>by
 rw [List.append_assoc,List.append_assoc];exact h _ _ (h2 _ _ k)
theorem Pa.appR {A B:Bytes}{us vs:List TT}(h:Pa A us)(h2:Pr B vs):Pr (A++B) (us++vs):=fun r v hn k=>by
 rw [List.append_assoc,List.append_assoc];exact h _ _ (h2 _ _ hn k)
/-- A text with which no word goes on. -/
def Brk (B:Bytes):Prop:=∃ c t,B=c::t∧isPart c=false
theorem Pr.app {A B:Bytes}{us vs:List TT}(h:Pr A us)(hb:Brk B)(h2:Pa B vs):Pa (A++B) (us++vs):=fun r v k=>by
 obtain⟨c,t,rfl,hc⟩:=hb;rw [List.append_assoc,List.append_assoc];exact h _ _ hc (h2 _ _ k)
theorem Pr.appR {A B:Bytes}{us vs:List TT}(h:Pr A us)(hb:Brk B)(h2:Pr B vs):Pr (A++B) (us++vs):=fun r v hn k=>by
 obtain⟨c,t,rfl,hc⟩:=hb;rw [List.append_assoc,List.append_assoc];exact h _ _ hc (h2 _ _ hn k)
theorem Brk.app {A:Bytes}(h:Brk A)(B:Bytes):Brk (A++B):=by
 obtain⟨c,t,rfl,hc⟩:=h;exact⟨c,t++B,rfl,hc⟩
theorem Brk.of {c:UInt8}{t:Bytes}(h:isPart c=false):Brk (c::t):=⟨c,t,rfl,h⟩
theorem Pa.end {A:Bytes}{us:List TT}(h:Pa A us):LxT A us:=by simpa using h [] [] .nil
/-! numbers -/
theorem dig_digit {n:Nat}(h:n<10):isDigit (dig n)=true∧(dig n).toNat-48=n∧(dig n=48→n=0):=by
 have e:(dig n).toNat=48+n:=by simp [dig];omega
 refine⟨by simp only [isDigit,decide_eq_true_eq];omega,by omega,fun h=>?_⟩;rw [h] at e;have:(48:UInt8).toNat=48:=rfl;omega
theorem numVal_snoc (l:Bytes)(c:UInt8):numVal (l++[c])=numVal l*10+(c.toNat-48):=by simp [numVal]
theorem digits_text:∀ f n,n<10 ^ f→0<f→(digitsOf f n).all isDigit=true∧numVal (digitsOf f n)=n∧digitsOf f n≠[]∧((digitsOf f n).head?=some 48→n=0∧(digitsOf f n).length=1):=by
 intro f
 induction f with
 | zero=>intro n _ h;omega
 | succ f ih =>
   intro n hn _;unfold digitsOf
   by_cases h:n<10
   ·obtain⟨d1,d2,d3⟩:=dig_digit h;rw [if_pos h];refine⟨by simp [d1],by simp [numVal,d2],by simp,fun e=>?_⟩;simp only [List.head?_cons,Option.some.injEq] at e;exact⟨d3 e,rfl⟩
   ·rw [if_neg h];have hf:0<f:=by
     cases f with
     | zero=>simp at hn;omega
     | succ f=>omega
    have hq:n / 10<10 ^ f:=by rw [Nat.div_lt_iff_lt_mul (by decide)];rw [Nat.pow_succ] at hn;exact hn
    obtain⟨i1,i2,i3,i4⟩:=ih _ hq hf;obtain⟨d1,d2,d3⟩:=dig_digit (Nat.mod_lt n (by decide:0<10));refine⟨by simp [i1,d1],by rw [numVal_snoc,i2,d2];omega,by simp,fun e=>?_⟩;rw [List.head?_append,Option.or_of_isSome (by rw [Option.isSome_iff_exists];cases hd:digitsOf f (n / 10) with | nil=>exact absurd hd i3 | cons c t=>exact⟨c,rfl⟩)] at e;have:=(i4 e).1;omega
theorem digits_num {n:Nat}(h:n<9223372036854775808):NumText (digitsOf 20 n) n:=by
 obtain⟨h1,h2,h3,h4⟩:=digits_text 20 n (by omega) (by decide);exact⟨h3,h1,fun e=>(h4 e).2,h2,h⟩
/-! expressions -/
theorem opText_mark {op:Int}(h:1≤op∧op≤5):opText op∈soloList:=by
 have:op=1∨op=2∨op=3∨op=4∨op=5:=by omega
 rcases this with rfl | rfl | rfl | rfl | rfl <;> decide
/-- An operation, in parentheses, is an atom. -/
theorem GrP.bin {op:Int}(h:1≤op∧op≤5){a b:Ex}{us vs:List TT}{s t:Nat}(ha:GrP a us s)(hb:GrP b vs t):GrP (.mk 6 op [] [] [a,b]) (TT.mk [40]::((us++(TT.mk (opText op)::vs))++[TT.mk [41]])) 0:=by
 refine .paren ?_;have:op=1∨op=2∨op=3∨op=4∨op=5:=by omega
 rcases this with rfl | rfl | rfl | rfl | rfl
 ·exact .sum (.add (.prod (.post ha)) (.post hb))
 ·exact .sum (.sub (.prod (.post ha)) (.post hb))
 ·exact .sum (.prod (.mul (.post ha) hb))
 ·exact .less (.prod (.post ha)) (.prod (.post hb))
 ·exact .equal (.prod (.post ha)) (.prod (.post hb))
theorem GrP.expr {e:Ex}{us:List TT}{s:Nat}(h:GrP e us s):GrE e us:=.sum (.prod (.post h))
theorem exSz_kid {k n:Int}{o m:Bytes}{ks:List Ex}{e:Ex}(h:e∈ks):exSz e<exSz (.mk k n o m ks):=by
 rw [exSz];have:exSz e≤exsSz ks:=exsSz_mem h;omega
end Lx
end
section
open Lx
namespace Lx
theorem sp (c:UInt8)(h:isSep c=true):Pa [c] []:=.sep (by simp [h])
theorem Pr.ne {A:Bytes}{us:List TT}(h:Pr A us)(hu:us≠[]):A≠[]:=by
 rintro rfl;have:=(h [] [] rfl .nil).len;simp at this;exact hu this
end Lx
end
end Go.Proofs.YtmlafcimjhnhhaaGreatDoor
