/-
  From what the row lists of the lexer's variables to the fact that the walks ask.
-/
import Derived.Test.YtoookjadbhdfhaaGreatDoorRows
import Derived.Test.YtoookjadbhdfhaaGreatDoorUJpAl
import Derived.ProofKit
import Derived.LaidMore
import Derived.OpenShut
import Derived.Stop.Joined
import Derived.LaidLaws
namespace Go.Proofs.YtoookjadbhdfhaaGreatDoor
open Lx Go.RowKit
open Go.ChangeShapes Go.WideShapes Go.ChangeAt
theorem laid_entry {P:Program}{W:World}{l:List (String×DataW Unit)}:∀ {ps:List MemPlace},DataW.LaidVars P W l ps→∀ {n:String} {d:DataW Unit},(n,d)∈l →
  ∃ g t cs fuel p,P.globalNamed n=some g∧(P.globals[g]?).map (·.type)=some t∧W.var? P n=some cs∧DataW.trod (fun _=>()) P W 0 (fun _=>true) false fuel t cs.toList=some (d,p):=by
 induction l with
 | nil=>intro ps _ n d hm;cases hm
 | cons x r ih =>
   intro ps h n d hm;obtain⟨n0,d0⟩:=x;obtain⟨g,t,cs,fuel,p,q,hg,ht,hv,hd,hr,_⟩:=h;cases hm with
   | head=>exact⟨g,t,cs,fuel,p,hg,ht,hv,hd⟩
   | tail _ hm=>exact ih hr hm
theorem heap_of_var {P:Program}{W:World}{n:String}{g:Nat}{cs:Array Value}(hg:P.globalNamed n=some g)(h:W.var? P n=some cs):∃ t fr,W.heap[g]?=some (.cells cs t fr):=by
 simp only [World.var?,hg,Option.bind_some] at h;split at h
 ·rename_i c t fr hh;cases h;exact⟨t,fr,hh⟩
 ·cases h
theorem strings_of_array {P:Program}{W:World}{t e:TypeId}{n fuel:Nat}{cs:List Value}{ss:List Bytes}{p:List MemPlace}(ht:P.underlying t=some (.array n e))(he:P.underlying e=some .string)(hce:P.cellsOf e=1)(hct:P.cellsOf t=n)
  (h:DataW.trod (fun _=>()) P W 0 (fun _=>true) false fuel t cs=some (.agg (ss.map fun l=>.lit (.string l)),p)):cs=ss.map fun l=>.string (strOf l):=by
 obtain⟨xs,m,_,hx,hl,hxl,hf⟩:=DataW.trod_array ht h;simp only [Prod.mk.injEq,DataW.agg.injEq] at hx;have hss:ss.length=n:=by have:=congrArg List.length hx.1;simpa [hxl] using this
 apply List.ext_getElem?;intro i
 by_cases hi:i<n
 ·have h1:=hf i hi;have hxi:xs[i]?=some (xs[i]'(by omega)):=List.getElem?_eq_getElem (by omega);rw [hxi,hce,Nat.mul_one] at h1;obtain⟨s,hs1,hs2,_⟩:=DataW.trod_string he h1;have hc:cs[i]?=some (.string s):=by
   have:(cs.drop i)[0]?=((cs.drop i).take 1)[0]?:=by simp
   rw [hs1] at this;simpa using this
  have he2:=congrArg (fun l=>l[i]?) hx.1;simp only [List.getElem?_map,hxi,Option.map_some,hs2] at he2;rw [List.getElem?_eq_getElem (show i<ss.length by omega)] at he2;simp only [Option.map_some,Option.some.injEq,DataW.lit.injEq,Lit.string.injEq] at he2;rw [hc,List.getElem?_map,List.getElem?_eq_getElem (show i<ss.length by omega),Option.map_some,he2,← strOf_of]
 ·rw [List.getElem?_eq_none (by omega),List.getElem?_eq_none (by simp;omega)]
theorem gKw:Tryz.prog.globalNamed "dataflow/lex.keywords"=some 0:=by kernel_rfl
theorem tKw:(Tryz.prog.globals[0]?).map (·.type)=some 138:=by kernel_rfl
theorem cStr:Tryz.prog.cellsOf 9=1:=by kernel_rfl
theorem cKw:Tryz.prog.cellsOf 138=17:=by kernel_rfl
end Go.Proofs.YtoookjadbhdfhaaGreatDoor
