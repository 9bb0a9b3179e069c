/-
  TypecheckWhole, walked: for every source of moderate size.
-/
import Derived.Test.YtoookjadbhdfhaaDoorTTkWhole
import Derived.Test.YtoookjadbhdfhaaDoorTRtLen
import Derived.Test.YtoookjadbhdfhaaDoorTOldAx
import Derived.Test.YtoookjadbhdfhaaDoorTJpAu
import Derived.Test.YtoookjadbhdfhaaDoorTJpBq
set_option linter.unusedSectionVars false
set_option linter.unusedSimpArgs false
set_option linter.unnecessarySimpa false
set_option linter.unusedVariables false
set_option linter.unusedVariables false
namespace Go.Proofs.YtoookjadbhdfhaaDoor
open Lx Ax Go.RowKit
theorem nms_of:∀ (d:Nat) (l:List St),(∀ s∈l,StB d s)→NmSs l
 | 0,[],_=>trivial
 | 0,s::l,h=>(h s (by simp)).elim
 | d+1,[],_=>trivial
 | d+1,s::l,h=>by
   have h1:=h s (by simp);have h2:=nms_of (d+1) l fun x hx=>h x (by simp [hx])
   obtain⟨k,nm,ty,es,b,el⟩:=s;rw [NmSs,NmS];exact⟨⟨h1.2.1,nms_of d b h1.2.2.2.2.1,nms_of d el h1.2.2.2.2.2⟩,h2⟩
theorem LN.of {d:Nat}{l:List Cl}(hB:∀ c∈l,ClB d c)(hs:clsSz l≤2000000):LN l:=by
 have hc:∀ c∈l,c.fields.length≤lim∧mesSz c.methods≤lim:=fun c hc=>by
  have:=clsSz_mem hc;rw [clSz] at this;simp only [lim];omega
 have hm:∀ c∈l,∀ m∈c.methods,m.params.length+stsSz m.body≤lim:=fun c hc1 m hm=>by
  have:=mesSz_mem hm;have:=(hc c hc1).2;rw [meSz] at *;omega
 refine⟨⟨by have:=clsSz_len l;simp only [lim];omega,fun c h=>(hc c h).1,fun c h=>by have:=mesSz_len c.methods;have:=(hc c h).2;omega,fun c h m h2=>by have:=hm c h m h2;omega⟩,fun c h=>(hB c h).1,fun c h f hf=>((hB c h).2.2.1 f hf).1,fun c h m h2=>((hB c h).2.2.2 m h2).1,fun c h m h2 f hf=>(((hB c h).2.2.2 m h2).2.2.1 f hf).1,fun c h m h2=>nms_of d _ ((hB c h).2.2.2 m h2).2.2.2,hm⟩
theorem rop_cells {w:World}{g:Nat}{cs:List CV}{arr:Array Value}{t:TypeId}{fr:Nat×Nat}(h:w.heap[g]?=some (.cells arr t fr))(hr:RVs (snap w) cs arr.toList):RV (snap w) (.rop cs) (.pointer (some ⟨g,0,none⟩))∧Szd (snap w) g (.rop cs):=by
 have hl:arr.size=cs.length:=by have:=hr.1;simpa using this
 refine⟨.rop _ _ 0 arr t fr h (by omega) (fun j a b=>?_),_,_,_,h,hl⟩;have:=hr.2 j a (by simpa using (by omega:j<arr.size));simpa using this
theorem rvs_strs (M:Mp):∀ l:List Bytes,RVs M (l.map .str) (l.map fun s=>Value.string ⟨s.toArray⟩)
 | []=>.nil
 | s::l=>.cons (.str _ _ rfl) (rvs_strs M l)
theorem bool_of {M:Mp}{b:Bool}{v:Value}(h:RV M (.bool b) v):v=.bool b:=by cases h;rfl
theorem KwIs.rg {w:World}(h:KwIs w):RG tkG (snap w):=by
 obtain⟨t1,f1,h1⟩:=h;intro g;unfold tkG;split
 ·rename_i hb;have hg:=beq_eq hb;subst hg;exact rop_cells h1 (rvs_strs _ kwList)
 ·exact⟨.any _,trivial⟩
theorem law_TypecheckWhole (d:Nat)(x:List Cl)(a:Option Addr)(n c:Nat)(w:World)(h:IsList Any w 4 (IsCl Any w d) x (.slice a n c))(hB:∀ c∈x,ClB d c)(hs:clsSz x≤2000000)(hK:KwIs w) :
  Calls Tryd.prog 3 #[.agg #[.slice a n c]] w fun e w'=>e=.returned (.bool true)∧Below w.heap.size w w':=by
 have hM:∀ g o,Any g→w.heap[g]?=some o→(snap w).fz g=some o:=fun g o _ h=>h
 have hv:RV (snap w) (.lst (x.map cvC)) (.slice a n c):=rv_list (by decide) hM h cvC_len fun y _ cs hy=>rv_cl hM hy
 have hr:RV (snap w) (.agg [.lst (x.map cvC)]) (.agg #[.slice a n c]):=.agg _ [.slice a n c] rfl (RVs.one hv).2;refine ((tk_Whole x (LN.of hB hs)) Heap.no 0 (snap w) w [.agg #[.slice a n c]] hK.rg (Rep.snap w) (.one hr)).mono ?_;rintro e w' ⟨M',r,H',nx',h1,h2,h3,_,rfl⟩;refine⟨?_,h3.below⟩;cases e <;> simp only [EndR] at h1;rw [bool_of h1]
end Go.Proofs.YtoookjadbhdfhaaDoor
