/-
  format's faults of fields, methods and classes, walked (printed by genfault3.py).
-/
import Derived.Test.YtmlafcimjhnhhaaGreatDoorJeFmtFaultS
import Derived.Test.YtmlafcimjhnhhaaGreatDoorJeJpBh
import Derived.ChangeStays
import Derived.ReadAgain
set_option linter.unusedSectionVars false
set_option linter.unusedSimpArgs false
set_option linter.unnecessarySimpa false
set_option linter.unusedVariables false
namespace Go.Proofs.YtmlafcimjhnhhaaGreatDoor
section
open Lx Go.RowKit
end
section
open Lx Go.RowKit
theorem kids_all:Kids Tryz.prog (·<Tryz.prog.types.size):=kids_rows (by kernel_rfl) (by kernel_rfl)
theorem slices_all:∀ t e,t<Tryz.prog.types.size→Tryz.prog.underlying t=some (.slice e)→0<Tryz.prog.cellsOf e:=slices_full_of _ (by kernel_rfl)
section
variable {H:Type} {enc:TypeId×Value→H} {W W':World}
theorem stays_one (hb:Below W.heap.size W W'){t:Nat}(hT:t<Tryz.prog.types.size){v:Value}{d:DataW H}{ps:List MemPlace}(h:DataW.Trod enc Tryz.prog W 0 (fun _=>true) true t v d ps):DataW.Trod enc Tryz.prog W' 0 (fun b=>decide (b<W.heap.size)) true t v d ps:=by
 obtain⟨n,h⟩:=h;have hg:=DataW.trod_good kids_all (fun h=>by cases h) n t _ _ hT h;have hlt:∀ p∈ps,p.block<W.heap.size:=by
  intro p hp;have h1:=hg p hp;cases p with
  | cell b off=>obtain⟨v,h2,_⟩:=h1;exact World.block_lt_of_cell? W _ h2
  | map b=>obtain⟨es,c,h2⟩:=h1;exact lt_of_heap h2
 refine⟨n,DataW.trod_stays kids_all (fun h1 h2=>slices_all _ _ h1 h2) (fun h=>by cases h) hT h (fun p hp=>?_) (fun p hp=>by simpa using hlt p hp)⟩;have h1:=hlt p hp;cases p with
 | cell b off=>exact hb.cell (p:=⟨b,off,none⟩) h1
 | map b=>exact hb.block b h1
theorem stays_all (hb:Below W.heap.size W W'):∀ {ts:List TypeId} {vs:List Value} {ds:List (DataW H)} {ps:List MemPlace},(∀ t∈ts,t<Tryz.prog.types.size)→DataW.TrodAll enc Tryz.prog W 0 (fun _=>true) true ts vs ds ps→DataW.TrodAll enc Tryz.prog W' 0 (fun b=>decide (b<W.heap.size)) true ts vs ds ps
 | [],[],[],_,_,h=>h
 | _::_,_::_,_::_,_,hT,⟨p,q,h1,h2,e⟩=>⟨p,q,stays_one hb (hT _ (List.mem_cons.2 (Or.inl rfl))) h1,stays_all hb (fun t ht=>hT t (List.mem_cons.2 (Or.inr ht))) h2,e⟩
theorem IsList.isSlice {α:Type}{A:Nat→Prop}{w:World}{k:Nat}{P:α→List Value→Prop}{l:List α}{v:Value}(h:IsList A w k P l v):∃ a n c,v=.slice a n c:=by
 obtain⟨_,⟨_,a,c,rfl⟩ | ⟨g,off,cap,rfl,_⟩⟩:=h
 ·exact⟨_,_,_,rfl⟩
 ·exact⟨_,_,_,rfl⟩
theorem agg_of_struct {P:Program}{w:World}{r:Reach}{b:Nat}{t:TypeId}{v:Value}{fs:Array Field}(ht:P.underlying t=some (.struct fs))(hval:Value.okWide P w r b t v):∃ cs,v=.agg cs:=by
 unfold Value.okWide at hval;rw [ht] at hval;obtain⟨cs,h,_⟩:=hval;exact⟨cs,h⟩
end
end
end Go.Proofs.YtmlafcimjhnhhaaGreatDoor
