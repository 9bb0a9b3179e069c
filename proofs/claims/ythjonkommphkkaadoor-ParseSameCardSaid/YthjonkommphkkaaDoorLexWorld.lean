/-
  What the lexer's package-level variables hold, as a fact on the world; the keywords and the marks as plain data.
-/
import Derived.Test.YthjonkommphkkaaDoorProg
import Derived.Test.YthjonkommphkkaaDoorLexSpec
import Derived.WalkKit
import Derived.Lib.Hide
namespace Go.Proofs.YthjonkommphkkaaDoor
open Lx Go.RowKit
namespace Lx
def kwList : List Bytes := [[99, 108, 97, 115, 115], [101, 120, 116, 101, 110, 100, 115], [118, 97, 114], [100, 101, 102], [115, 116, 97, 116, 105, 99], [105, 102], [101, 108, 115, 101], [119, 104, 105, 108, 101], [116, 114, 121], [99, 97, 116, 99, 104], [116, 104, 114, 111, 119], [114, 101, 116, 117, 114, 110], [110, 101, 119], [110, 117, 108, 108], [116, 104, 105, 115], [105, 110, 112, 117, 116], [105, 110, 116]]
def markList : List Bytes := [[58, 58], [61, 61], [58], [123], [125], [40], [41], [59], [44], [46], [61], [60], [43], [45], [42]]
def isKeyword (l : Bytes) : Bool := kwList.contains l
def strOf (l : Bytes) : ByteArray := ⟨l.toArray⟩
end Lx
def kwCells : Array Value := #[.string ⟨#[99, 108, 97, 115, 115]⟩, .string ⟨#[101, 120, 116, 101, 110, 100, 115]⟩, .string ⟨#[118, 97, 114]⟩, .string ⟨#[100, 101, 102]⟩, .string ⟨#[115, 116, 97, 116, 105, 99]⟩, .string ⟨#[105, 102]⟩, .string ⟨#[101, 108, 115, 101]⟩, .string ⟨#[119, 104, 105, 108, 101]⟩, .string ⟨#[116, 114, 121]⟩, .string ⟨#[99, 97, 116, 99, 104]⟩, .string ⟨#[116, 104, 114, 111, 119]⟩, .string ⟨#[114, 101, 116, 117, 114, 110]⟩, .string ⟨#[110, 101, 119]⟩, .string ⟨#[110, 117, 108, 108]⟩, .string ⟨#[116, 104, 105, 115]⟩, .string ⟨#[105, 110, 112, 117, 116]⟩, .string ⟨#[105, 110, 116]⟩]
def markCells : Array Value := #[.string ⟨#[58, 58]⟩, .string ⟨#[61, 61]⟩, .string ⟨#[58]⟩, .string ⟨#[123]⟩, .string ⟨#[125]⟩, .string ⟨#[40]⟩, .string ⟨#[41]⟩, .string ⟨#[59]⟩, .string ⟨#[44]⟩, .string ⟨#[46]⟩, .string ⟨#[61]⟩, .string ⟨#[60]⟩, .string ⟨#[43]⟩, .string ⟨#[45]⟩, .string ⟨#[42]⟩]
structure Laid (w : World) : Prop where
  kw : ∃ t fr, w.heap[1]? = some (.cells kwCells t fr)
  ms : ∃ t fr, w.heap[0]? = some (.cells markCells t fr)
  es : ∃ tp p t fr, w.heap[2]? = some (.cells #[.iface tp p] t fr)
  er : ∃ tp p t fr, w.heap[3]? = some (.cells #[.iface tp p] t fr)
theorem lt_of_heap {w : World} {g : Nat} {o : Obj} (h : w.heap[g]? = some o) : g < w.heap.size := by
  obtain ⟨h, _⟩ := Array.getElem?_eq_some_iff.1 h; exact h
theorem Laid.below {w w' : World} {B : Nat} (h : Laid w) (hb : Below B w w') (hB : w.heap.size ≤ B) : Laid w' := by
  obtain ⟨⟨t1, f1, h1⟩, ⟨t2, f2, h2⟩, ⟨a3, p3, t3, f3, h3⟩, ⟨a4, p4, t4, f4, h4⟩⟩ := h
  exact ⟨⟨t1, f1, by rw [hb.block _ (Nat.lt_of_lt_of_le (lt_of_heap h1) hB)]; exact h1⟩, ⟨t2, f2, by rw [hb.block _ (Nat.lt_of_lt_of_le (lt_of_heap h2) hB)]; exact h2⟩,
    ⟨a3, p3, t3, f3, by rw [hb.block _ (Nat.lt_of_lt_of_le (lt_of_heap h3) hB)]; exact h3⟩, ⟨a4, p4, t4, f4, by rw [hb.block _ (Nat.lt_of_lt_of_le (lt_of_heap h4) hB)]; exact h4⟩⟩
theorem Laid.alloc {w : World} (h : Laid w) (o : Obj) : Laid (w.alloc o) := h.below ((Below.refl _ _).alloc (Nat.le_refl _) o) (Nat.le_refl _)
end Go.Proofs.YthjonkommphkkaaDoor
