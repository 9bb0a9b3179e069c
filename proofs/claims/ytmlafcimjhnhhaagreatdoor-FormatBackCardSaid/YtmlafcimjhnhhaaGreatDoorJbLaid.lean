/-
  From what the row lists of the lexer's variables to the fact that the walks ask.
-/
import Derived.Test.YtmlafcimjhnhhaaGreatDoorRows
import Derived.Test.YtmlafcimjhnhhaaGreatDoorJbJpAn
import Derived.ProofKit
import Derived.LaidMore
import Derived.OpenShut
import Derived.Stop.Joined
import Derived.LaidLaws
namespace Go.Proofs.YtmlafcimjhnhhaaGreatDoor
open Lx Go.RowKit
open Go.ChangeShapes Go.WideShapes Go.ChangeAt
theorem laid_entry {P:Program}{W:World}{l:List (String×DataW Unit)}:∀ {ps:List MemPlace},DataW.LaidVars P W l ps→∀ {n:String} {d:DataW Unit},(n,d)∈l →
  ∃ g t cs fuel p,P.globalNamed n=some g∧(P.globals[g]?).map (·.type)=some t∧W.var? P n=some cs∧DataW.trod (fun _=>()) P W 0 (fun _=>true) false fuel t cs.toList=some (d,p):=by
 induction l with
 | nil=>intro ps _ n d hm;cases hm
 | cons x r ih =>
   intro ps h n d hm;obtain⟨n0,d0⟩:=x;obtain⟨g,t,cs,fuel,p,q,hg,ht,hv,hd,hr,_⟩:=h;cases hm with
   | head=>exact⟨g,t,cs,fuel,p,hg,ht,hv,hd⟩
   | tail _ hm=>exact ih hr hm
theorem heap_of_var {P:Program}{W:World}{n:String}{g:Nat}{cs:Array Value}(hg:P.globalNamed n=some g)(h:W.var? P n=some cs):∃ t fr,W.heap[g]?=some (.cells cs t fr):=by
 simp only [World.var?,hg,Option.bind_some] at h;split at h
 ·rename_i c t fr hh;cases h;exact⟨t,fr,hh⟩
 ·cases h
theorem strings_of_array {P:Program}{W:World}{t e:TypeId}{n fuel:Nat}{cs:List Value}{ss:List Bytes}{p:List MemPlace}(ht:P.underlying t=some (.array n e))(he:P.underlying e=some .string)(hce:P.cellsOf e=1)(hct:P.cellsOf t=n)
  (h:DataW.trod (fun _=>()) P W 0 (fun _=>true) false fuel t cs=some (.agg (ss.map fun l=>.lit (.string l)),p)):cs=ss.map fun l=>.string (strOf l):=by
 obtain⟨xs,m,_,hx,hl,hxl,hf⟩:=DataW.trod_array ht h;simp only [Prod.mk.injEq,DataW.agg.injEq] at hx;have hss:ss.length=n:=by have:=congrArg List.length hx.1;simpa [hxl] using this
 apply List.ext_getElem?;intro i
 by_cases hi:i<n
 ·have h1:=hf i hi;have hxi:xs[i]?=some (xs[i]'(by omega)):=List.getElem?_eq_getElem (by omega);rw [hxi,hce,Nat.mul_one] at h1;obtain⟨s,hs1,hs2,_⟩:=DataW.trod_string he h1;have hc:cs[i]?=some (.string s):=by
   have:(cs.drop i)[0]?=((cs.drop i).take 1)[0]?:=by simp
   rw [hs1] at this;simpa using this
  have he2:=congrArg (fun l=>l[i]?) hx.1;simp only [List.getElem?_map,hxi,Option.map_some,hs2] at he2;rw [List.getElem?_eq_getElem (show i<ss.length by omega)] at he2;simp only [Option.map_some,Option.some.injEq,DataW.lit.injEq,Lit.string.injEq] at he2;rw [hc,List.getElem?_map,List.getElem?_eq_getElem (show i<ss.length by omega),Option.map_some,he2,← strOf_of]
 ·rw [List.getElem?_eq_none (by omega),List.getElem?_eq_none (by simp;omega)]
theorem gKw:Tryz.prog.globalNamed "dataflow/lex.keywords"=some 1:=by kernel_rfl
theorem gMk:Tryz.prog.globalNamed "dataflow/lex.marks"=some 3:=by kernel_rfl
theorem gEs:Tryz.prog.globalNamed "strconv.ErrSyntax"=some 6:=by kernel_rfl
theorem gEr:Tryz.prog.globalNamed "strconv.ErrRange"=some 7:=by kernel_rfl
theorem tKw:(Tryz.prog.globals[1]?).map (·.type)=some 118:=by kernel_rfl
theorem tMk:(Tryz.prog.globals[3]?).map (·.type)=some 143:=by kernel_rfl
theorem tEs:(Tryz.prog.globals[6]?).map (·.type)=some 140:=by kernel_rfl
theorem tEr:(Tryz.prog.globals[7]?).map (·.type)=some 140:=by kernel_rfl
theorem cStr:Tryz.prog.cellsOf 9=1:=by kernel_rfl
theorem cKw:Tryz.prog.cellsOf 118=17:=by kernel_rfl
theorem cMk:Tryz.prog.cellsOf 143=15:=by kernel_rfl
theorem iface_entry {W:World}{l:List (String×DataW Unit)}{ps:List MemPlace}(h:DataW.LaidVars Tryz.prog W l ps){n:String}{nm:String}{d:DataW Unit}{g:Nat}(hg:Tryz.prog.globalNamed n=some g)(ht:(Tryz.prog.globals[g]?).map (·.type)=some 140)(hm:(n,.iface nm d)∈l) :
  ∃ tp p t fr,W.heap[g]?=some (.cells #[.iface tp p] t fr):=by
 obtain⟨g0,t0,cs0,f0,p0,hg0,ht0,hv0,hd0⟩:=laid_entry h hm;obtain rfl:=Option.some.inj (hg.symm.trans hg0);obtain rfl:=Option.some.inj (ht.symm.trans ht0);obtain⟨t,fr,hh⟩:=heap_of_var hg0 hv0;obtain⟨f1,u,v,hcs,_,_⟩:=iface_of_trod Tryz.underlying140 hd0;refine⟨u,v,t,fr,?_⟩;rw [hh];obtain⟨l0⟩:=cs0;simp only at hcs;rw [hcs]
theorem Laid.of_met {W:World}{l:List (String×DataW Unit)}(h:laidMet Tryz.prog l W)(h1:("dataflow/lex.keywords",Rows.laid_dataflow_lex_keywords)∈l)(h2:("dataflow/lex.marks",Rows.laid_dataflow_lex_marks)∈l)
  (h3:("strconv.ErrSyntax",Rows.laid_strconv_ErrSyntax)∈l) (h4:("strconv.ErrRange",Rows.laid_strconv_ErrRange)∈l):Laid W:=by
 obtain⟨ps,hv,_,_⟩:=h;refine⟨?_,?_,iface_entry hv gEs tEs h3,iface_entry hv gEr tEr h4⟩
 ·obtain⟨g0,t0,cs0,f0,p0,hg0,ht0,hv0,hd0⟩:=laid_entry hv h1;obtain rfl:=Option.some.inj (gKw.symm.trans hg0);obtain rfl:=Option.some.inj (tKw.symm.trans ht0);obtain⟨t,fr,hh⟩:=heap_of_var hg0 hv0;have hcs:=strings_of_array (ss:=kwList) Tryz.underlying118 Tryz.underlying9 cStr cKw hd0;refine⟨t,fr,?_⟩;rw [hh];obtain⟨l0⟩:=cs0;simp only at hcs;rw [hcs];rfl
 ·obtain⟨g0,t0,cs0,f0,p0,hg0,ht0,hv0,hd0⟩:=laid_entry hv h2;obtain rfl:=Option.some.inj (gMk.symm.trans hg0);obtain rfl:=Option.some.inj (tMk.symm.trans ht0);obtain⟨t,fr,hh⟩:=heap_of_var hg0 hv0;have hcs:=strings_of_array (ss:=markList) Tryz.underlying143 Tryz.underlying9 cStr cMk hd0;refine⟨t,fr,?_⟩;rw [hh];obtain⟨l0⟩:=cs0;simp only at hcs;rw [hcs];rfl
end Go.Proofs.YtmlafcimjhnhhaaGreatDoor
