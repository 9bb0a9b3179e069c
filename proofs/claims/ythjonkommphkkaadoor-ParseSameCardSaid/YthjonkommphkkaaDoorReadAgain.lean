/-
  Arguments that are trees, read again behind a call that leaves what was there as it was; and how a source is opened.
-/
import Derived.Test.YthjonkommphkkaaDoorTrodTree
import Derived.ChangeStays
import Derived.ReadAgain
namespace Go.Proofs.YthjonkommphkkaaDoor
open Lx Go.RowKit
theorem kids_all : Kids Tryd.prog (· < Tryd.prog.types.size) := kids_rows (by kernel_rfl) (by kernel_rfl)
theorem slices_all : ∀ t e, t < Tryd.prog.types.size → Tryd.prog.underlying t = some (.slice e) → 0 < Tryd.prog.cellsOf e := slices_full_of _ (by kernel_rfl)
section
variable {H : Type} {enc : TypeId × Value → H} {W W' : World}
theorem stays_one (hb : Below W.heap.size W W') {t : Nat} (hT : t < Tryd.prog.types.size) {v : Value} {d : DataW H} {ps : List MemPlace} (h : DataW.Trod enc Tryd.prog W 0 (fun _ => true) true t v d ps) : DataW.Trod enc Tryd.prog W' 0 (fun b => decide (b < W.heap.size)) true t v d ps := by
  obtain ⟨n, h⟩ := h
  have hg := DataW.trod_good kids_all (fun h => by cases h) n t _ _ hT h
  have hlt : ∀ p ∈ ps, p.block < W.heap.size := by
    intro p hp
    have h1 := hg p hp
    cases p with
    | cell b off => obtain ⟨v, h2, _⟩ := h1; exact World.block_lt_of_cell? W _ h2
    | map b => obtain ⟨es, c, h2⟩ := h1; exact lt_of_heap h2
  refine ⟨n, DataW.trod_stays kids_all (fun h1 h2 => slices_all _ _ h1 h2) (fun h => by cases h) hT h (fun p hp => ?_) (fun p hp => by simpa using hlt p hp)⟩
  have h1 := hlt p hp
  cases p with
  | cell b off => exact hb.cell (p := ⟨b, off, none⟩) h1
  | map b => exact hb.block b h1
theorem stays_all (hb : Below W.heap.size W W') : ∀ {ts : List TypeId} {vs : List Value} {ds : List (DataW H)} {ps : List MemPlace}, (∀ t ∈ ts, t < Tryd.prog.types.size) → DataW.TrodAll enc Tryd.prog W 0 (fun _ => true) true ts vs ds ps → DataW.TrodAll enc Tryd.prog W' 0 (fun b => decide (b < W.heap.size)) true ts vs ds ps
  | [], [], [], _, _, h => h
  | _ :: _, _ :: _, _ :: _, _, hT, ⟨p, q, h1, h2, e⟩ => ⟨p, q, stays_one hb (hT _ (List.mem_cons.2 (Or.inl rfl))) h1, stays_all hb (fun t ht => hT t (List.mem_cons.2 (Or.inr ht))) h2, e⟩
theorem IsList.isSlice {α : Type} {A : Nat → Prop} {w : World} {k : Nat} {P : α → List Value → Prop} {l : List α} {v : Value} (h : IsList A w k P l v) : ∃ a n c, v = .slice a n c := by
  obtain ⟨_, ⟨_, a, c, rfl⟩ | ⟨g, off, cap, rfl, _⟩⟩ := h
  · exact ⟨_, _, _, rfl⟩
  · exact ⟨_, _, _, rfl⟩
theorem agg_of_struct {P : Program} {w : World} {r : Reach} {b : Nat} {t : TypeId} {v : Value} {fs : Array Field} (ht : P.underlying t = some (.struct fs)) (hval : Value.okWide P w r b t v) : ∃ cs, v = .agg cs := by
  unfold Value.okWide at hval
  rw [ht] at hval
  obtain ⟨cs, h, _⟩ := hval
  exact ⟨cs, h⟩
/-- A source that came in. -/
theorem struct_so : ∃ fs, Tryd.prog.underlying 24 = some (.struct fs) := ⟨_, Tryd.underlying24⟩
set_option maxRecDepth 100000 in
theorem open_so {r : Reach} {b0 : Nat} {v : Value} {d : DataW H} {ps : List MemPlace} (hval : Value.okWide Tryd.prog W r b0 24 v) (h : DataW.Trod enc Tryd.prog W 0 (fun _ => true) true 24 v d ps) :
    ∃ (a : Option Addr) (n c : Nat) (l : List Cl) (k : Nat), v = .agg #[.slice a n c] ∧ IsList Any W 4 (IsCl Any W k) l (.slice a n c) ∧ ∀ x ∈ l, ClB k x := by
  obtain ⟨fs, hfs⟩ := struct_so
  obtain ⟨cs, rfl⟩ := agg_of_struct hfs hval
  obtain ⟨k, h⟩ := h
  obtain ⟨x, h1, l, h2, h3⟩ := trod_so h
  obtain ⟨a, n, c, rfl⟩ := h2.isSlice
  have h1 : cs.toList = [.slice a n c] := h1
  refine ⟨a, n, c, l, k, ?_, h2, h3⟩
  rw [← Array.toArray_toList (xs := cs), h1]
end
end Go.Proofs.YthjonkommphkkaaDoor
