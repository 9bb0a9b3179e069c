/-
  From what the row lists to the fact on lowering's variables.
-/
import Derived.Test.YtoookjadbhdfhaaGreatDoorUJpBm
import Derived.Test.YtoookjadbhdfhaaGreatDoorUJpAq
set_option linter.unusedSectionVars false
set_option linter.unusedSimpArgs false
set_option linter.unnecessarySimpa false
set_option linter.unusedVariables false
namespace Go.Proofs.YtoookjadbhdfhaaGreatDoor
open Lx Go.RowKit
open Go.ChangeShapes Go.WideShapes Go.ChangeAt
theorem ll_array {P:Program}{W:World}{t e:TypeId}{k:IntKind}{n fuel:Nat}{cs:List Value}{ss:List Int}{p:List MemPlace}(ht:P.underlying t=some (.array n e))(he:P.underlying e=some (.int k))(hce:P.cellsOf e=1)(hct:P.cellsOf t=n)
  (h:DataW.trod (fun _=>()) P W 0 (fun _=>true) false fuel t cs=some (.agg (ss.map fun l=>.lit (.int k l)),p)):cs=ss.map (Value.int k):=by
 obtain⟨xs,m,_,hx,hl,hxl,hf⟩:=DataW.trod_array ht h;simp only [Prod.mk.injEq,DataW.agg.injEq] at hx;have hss:ss.length=n:=by have:=congrArg List.length hx.1;simpa [hxl] using this
 apply List.ext_getElem?;intro i
 by_cases hi:i<n
 ·have h1:=hf i hi;have hxi:xs[i]?=some (xs[i]'(by omega)):=List.getElem?_eq_getElem (by omega);rw [hxi,hce,Nat.mul_one] at h1;obtain⟨s,hs1,hs2,_⟩:=DataW.trod_int he h1;have hc:cs[i]?=some (.int k s):=by
   have:(cs.drop i)[0]?=((cs.drop i).take 1)[0]?:=by simp
   rw [hs1] at this;simpa using this
  have he2:=congrArg (fun l=>l[i]?) hx.1;have hs3:(xs[i]'(by omega)).1=.lit (.int k s):=by rw [hs2]
  simp only [List.getElem?_map,hxi,Option.map_some,hs3] at he2;rw [List.getElem?_eq_getElem (show i<ss.length by omega)] at he2;simp only [Option.map_some,Option.some.injEq,DataW.lit.injEq,Lit.int.injEq] at he2;rw [hc,List.getElem?_map,List.getElem?_eq_getElem (show i<ss.length by omega),Option.map_some,← he2.2]
 ·rw [List.getElem?_eq_none (by omega),List.getElem?_eq_none (by simp;omega)]
theorem ll_gPw:Tryz.prog.globalNamed "internal/strconv.uint64pow10"=some 1:=by kernel_rfl
theorem ll_tPw:(Tryz.prog.globals[1]?).map (·.type)=some 161:=by kernel_rfl
theorem ll_cPw:Tryz.prog.cellsOf 161=20:=by kernel_rfl
theorem ll_cU64:Tryz.prog.cellsOf 152=1:=by kernel_rfl
theorem LLaid.of_met {W:World}{l:List (String×DataW Unit)}(h:laidMet Tryz.prog l W)(hk:KwIs W)(h2:("internal/strconv.uint64pow10",Rows.laid_internal_strconv_uint64pow10)∈l):LLaid W:=by
 obtain⟨ps,hv,_,_⟩:=h;refine⟨hk,?_⟩;obtain⟨g0,t0,cs0,f0,p0,hg0,ht0,hv0,hd0⟩:=laid_entry hv h2;obtain rfl:=Option.some.inj (ll_gPw.symm.trans hg0);obtain rfl:=Option.some.inj (ll_tPw.symm.trans ht0);obtain⟨t,fr,hh⟩:=heap_of_var hg0 hv0;have hcs:=ll_array (ss:=Lib.pow10Tab) Tryz.underlying161 Tryz.underlying152 ll_cU64 ll_cPw hd0;refine⟨t,fr,?_⟩;rw [hh];obtain⟨l0⟩:=cs0;simp only at hcs;rw [hcs];rfl
end Go.Proofs.YtoookjadbhdfhaaGreatDoor
