/-
  AX: abstract values, what they stand for; the abstract heap.
-/
import Derived.Orders
import Derived.Below
import Derived.Defers
import Derived.Recover
import Derived.Laws.CopyRow
import Derived.Laws.Append
import Derived.Laws.AppendOwn
import Derived.Laws.StructEq
import Derived.Laws.BytesString
import Derived.MapKept
import Derived.ChangeKeysEq
import Derived.Lib.Strings
import Derived.Laws.Tables
namespace Go.Proofs.YtdjllogimomgmaaGreatDoor
namespace Ax
/-- Abstract values. -/
inductive CV where
  | any
  | bool (b : Bool)
  | int (k : IntKind) (n : Int)
  | str (l : List UInt8)
  | nilp
  | ptr (b o : Nat)
  | rop (cs : List CV)
  | nils
  | sl (b o n k : Nat)
  | lst (rows : List (List CV))
  | nilm
  | mp (b : Nat)
  | fmp (ks vs : List CV)
  | nilf
  | fn (f : Fn) (first captured : List CV)
  | nili
  | iface (t : TypeId) (v : CV)
  | agg (cells : List CV)
  | tup (vs : List CV)
  | opt (g : Bool) (c : CV)
  deriving Inhabited
/-- What lies frozen, and where the own blocks lie, with how many cells. -/
structure Mp where
  fz : Nat → Option Obj
  bk : Nat → Option (Nat × Nat)
/-- An abstract value stands for a value. -/
inductive RV (M : Mp) : CV → Value → Prop
  | any (v : Value) : RV M .any v
  | bool (b : Bool) : RV M (.bool b) (.bool b)
  | int (k : IntKind) (n : Int) : RV M (.int k n) (.int k n)
  | str (l : List UInt8) (s : ByteArray) (h : s.data.toList = l) : RV M (.str l) (.string s)
  | nilp : RV M .nilp (.pointer none)
  | ptr (b o g m : Nat) (h : M.bk b = some (g, m)) : RV M (.ptr b o) (.pointer (some ⟨g, o, none⟩))
  | rop (cs : List CV) (g o : Nat) (arr : Array Value) (T : TypeId) (fr : Nat × Nat) (h : M.fz g = some (.cells arr T fr)) (hl : o + cs.length ≤ arr.size)
      (hr : ∀ j (a : j < cs.length) (b : o + j < arr.size), RV M cs[j] arr[o + j]) : RV M (.rop cs) (.pointer (some ⟨g, o, none⟩))
  | nils : RV M .nils (.slice none 0 0)
  | sl (b o n k g m c : Nat) (h : M.bk b = some (g, m)) (hn : n ≤ c) (hm : o + c * k ≤ m) : RV M (.sl b o n k) (.slice (some ⟨g, o, none⟩) n c)
  | lst0 (a : Option Addr) (c : Nat) : RV M (.lst []) (.slice a 0 c)
  | lst (rows : List (List CV)) (g o n k c : Nat) (arr : Array Value) (T : TypeId) (fr : Nat × Nat) (h : M.fz g = some (.cells arr T fr)) (hn : n = rows.length) (hc : n ≤ c)
      (hk : ∀ r ∈ rows, r.length = k) (hl : o + n * k ≤ arr.size)
      (hr : ∀ i (a : i < rows.length) j (b : j < rows[i].length) (d : o + i * k + j < arr.size), RV M rows[i][j] arr[o + i * k + j]) : RV M (.lst rows) (.slice (some ⟨g, o, none⟩) n c)
  | nilm : RV M .nilm (.map none)
  | mp (b g m : Nat) (h : M.bk b = some (g, m)) : RV M (.mp b) (.map (some g))
  | fmp (ks vs : List CV) (g : Nat) (en : Array MapEntry) (clock : Nat) (h : M.fz g = some (.map en clock)) (h1 : ks.length = en.size) (h2 : vs.length = en.size)
      (hk : ∀ j (a : j < ks.length) (b : j < en.size), RV M ks[j] en[j].key) (hv : ∀ j (a : j < vs.length) (b : j < en.size), RV M vs[j] en[j].val) : RV M (.fmp ks vs) (.map (some g))
  | nilf : RV M .nilf .nilFunc
  | fn (f : Fn) (fs cs : List CV) (fs' cs' : List Value) (l1 : fs'.length = fs.length) (l2 : cs'.length = cs.length)
      (h1 : ∀ j (a : j < fs.length) (b : j < fs'.length), RV M fs[j] fs'[j]) (h2 : ∀ j (a : j < cs.length) (b : j < cs'.length), RV M cs[j] cs'[j]) : RV M (.fn f fs cs) (.func f fs'.toArray cs'.toArray)
  | nili : RV M .nili .nilIface
  | iface (t : TypeId) (x : CV) (v : Value) (h : RV M x v) : RV M (.iface t x) (.iface t v)
  | agg (cs : List CV) (vs : List Value) (hl : vs.length = cs.length) (hr : ∀ j (a : j < cs.length) (b : j < vs.length), RV M cs[j] vs[j]) : RV M (.agg cs) (.agg vs.toArray)
  | tup (cs : List CV) (vs : List Value) (hl : vs.length = cs.length) (hr : ∀ j (a : j < cs.length) (b : j < vs.length), RV M cs[j] vs[j]) : RV M (.tup cs) (.tuple vs.toArray)
  | opt (g : Bool) (c : CV) (v : Value) (h1 : g = true → RV M c v) (h0 : g = false → v = undef) : RV M (.opt g c) v
structure Ext (M M' : Mp) : Prop where
  fz : ∀ g x, M.fz g = some x → M'.fz g = some x
  bk : ∀ b x, M.bk b = some x → M'.bk b = some x
theorem Ext.refl (M : Mp) : Ext M M := ⟨fun _ _ h => h, fun _ _ h => h⟩
theorem Ext.trans {M M' M'' : Mp} (h : Ext M M') (h' : Ext M' M'') : Ext M M'' := ⟨fun b x k => h'.fz b x (h.fz b x k), fun b x k => h'.bk b x (h.bk b x k)⟩
theorem RV.ext {M M' : Mp} (he : Ext M M') {x : CV} {v : Value} (h : RV M x v) : RV M' x v := by
  induction h with
  | any v => exact .any v
  | bool b => exact .bool b
  | int k n => exact .int k n
  | str l s h => exact .str l s h
  | nilp => exact .nilp
  | ptr b o g m h => exact .ptr b o g m (he.bk _ _ h)
  | rop cs g o arr T fr h hl _ ih => exact .rop cs g o arr T fr (he.fz _ _ h) hl ih
  | nils => exact .nils
  | sl b o n k g m c h hn hm => exact .sl b o n k g m c (he.bk _ _ h) hn hm
  | lst0 a c => exact .lst0 a c
  | lst rows g o n k c arr T fr h hn hc hk hl _ ih => exact .lst rows g o n k c arr T fr (he.fz _ _ h) hn hc hk hl ih
  | nilm => exact .nilm
  | mp b g m h => exact .mp b g m (he.bk _ _ h)
  | fmp ks vs g en clock h h1 h2 _ _ i1 i2 => exact .fmp ks vs g en clock (he.fz _ _ h) h1 h2 i1 i2
  | nilf => exact .nilf
  | fn f fs cs fs' cs' l1 l2 _ _ i1 i2 => exact .fn f fs cs fs' cs' l1 l2 i1 i2
  | nili => exact .nili
  | iface t x v _ ih => exact .iface t x v ih
  | agg cs vs hl _ ih => exact .agg cs vs hl ih
  | tup cs vs hl _ ih => exact .tup cs vs hl ih
  | opt g c v _ h0 ih => exact .opt g c v ih h0
/-- Lists of values. -/
def RVs (M : Mp) (cs : List CV) (vs : List Value) : Prop := vs.length = cs.length ∧ ∀ j (_ : j < cs.length) (_ : j < vs.length), RV M cs[j] vs[j]
theorem RVs.ext {M M' : Mp} (he : Ext M M') {cs : List CV} {vs : List Value} (h : RVs M cs vs) : RVs M' cs vs := ⟨h.1, fun j a b => (h.2 j a b).ext he⟩
theorem RVs.nil {M : Mp} : RVs M [] [] := ⟨rfl, fun j a => by simp at a⟩
theorem RVs.cons {M : Mp} {c : CV} {v : Value} {cs : List CV} {vs : List Value} (h : RV M c v) (hs : RVs M cs vs) : RVs M (c :: cs) (v :: vs) := by
  refine ⟨by simp [hs.1], fun j a b => ?_⟩
  cases j with
  | zero => exact h
  | succ j => exact hs.2 j (by simpa using a) (by simpa using b)
theorem RVs.head {M : Mp} {c : CV} {v : Value} {cs : List CV} {vs : List Value} (h : RVs M (c :: cs) (v :: vs)) : RV M c v := h.2 0 (by simp) (by simp)
theorem RVs.tail {M : Mp} {c : CV} {v : Value} {cs : List CV} {vs : List Value} (h : RVs M (c :: cs) (v :: vs)) : RVs M cs vs :=
  ⟨by simpa using h.1, fun j a b => h.2 (j + 1) (by simpa using a) (by simpa using b)⟩
theorem RVs.nil_inv {M : Mp} {vs : List Value} (h : RVs M [] vs) : vs = [] := List.length_eq_zero_iff.mp h.1
theorem RVs.cons_inv {M : Mp} {c : CV} {cs : List CV} {vs : List Value} (h : RVs M (c :: cs) vs) : ∃ v vs', vs = v :: vs' ∧ RV M c v ∧ RVs M cs vs' := by
  cases vs with
  | nil => have := h.1; simp at this
  | cons v vs' => exact ⟨v, vs', rfl, h.head, h.tail⟩
theorem RVs.one {M : Mp} {c : CV} {v : Value} (h : RV M c v) : RVs M [c] [v] := .cons h .nil
theorem RVs.append {M : Mp} {cs ds : List CV} {vs us : List Value} (h : RVs M cs vs) (h' : RVs M ds us) : RVs M (cs ++ ds) (vs ++ us) := by
  refine ⟨by simp [h.1, h'.1], fun j a b => ?_⟩
  by_cases hj : j < cs.length
  · rw [List.getElem_append_left hj, List.getElem_append_left (by rw [h.1]; exact hj)]; exact h.2 j hj (by rw [h.1]; exact hj)
  · rw [List.getElem_append_right (by omega), List.getElem_append_right (by rw [h.1]; omega)]
    have e : j - vs.length = j - cs.length := by rw [h.1]
    simp only [e]
    exact h'.2 _ (by simp at a; omega) (by rw [h'.1]; simp at a; omega)
theorem RVs.take {M : Mp} {cs : List CV} {vs : List Value} (n : Nat) (h : RVs M cs vs) : RVs M (cs.take n) (vs.take n) := by
  refine ⟨by simp [h.1], fun j a b => ?_⟩
  rw [List.getElem_take, List.getElem_take]
  exact h.2 j (by simp at a; omega) (by simp at b; omega)
theorem RVs.drop {M : Mp} {cs : List CV} {vs : List Value} (n : Nat) (h : RVs M cs vs) : RVs M (cs.drop n) (vs.drop n) := by
  refine ⟨by simp [h.1], fun j a b => ?_⟩
  rw [List.getElem_drop, List.getElem_drop]
  exact h.2 _ (by simp at a; omega) (by simp at b; omega)
theorem RVs.at' {M : Mp} {cs : List CV} {vs : List Value} {j : Nat} {c : CV} (h : RVs M cs vs) (hj : cs[j]? = some c) : ∃ v, vs[j]? = some v ∧ RV M c v := by
  obtain ⟨hl, rfl⟩ := List.getElem?_eq_some_iff.mp hj
  have hv : j < vs.length := by rw [h.1]; exact hl
  exact ⟨vs[j], by simp [hv], h.2 j hl hv⟩
theorem RVs.set {M : Mp} {cs : List CV} {vs : List Value} {c : CV} {v : Value} (n : Nat) (h : RVs M cs vs) (hv : RV M c v) : RVs M (cs.set n c) (vs.set n v) := by
  refine ⟨by simp [h.1], fun j a b => ?_⟩
  rw [List.getElem_set, List.getElem_set]
  by_cases e : n = j
  · simp only [e, if_true]; exact hv
  · simp only [e, if_false]; exact h.2 j (by simpa using a) (by simpa using b)
theorem RVs.replicate {M : Mp} {c : CV} {v : Value} (n : Nat) (h : RV M c v) : RVs M (List.replicate n c) (List.replicate n v) := by
  refine ⟨by simp, fun j a b => ?_⟩
  rw [List.getElem_replicate, List.getElem_replicate]; exact h
/-- Values of one cell. -/
def CV.one : CV → Bool
  | .any | .agg _ | .tup _ | .opt _ _ => false
  | _ => true
def oneV : Value → Bool
  | .agg _ | .tuple _ => false
  | _ => true
theorem RV.oneV {M : Mp} {c : CV} {v : Value} (h : RV M c v) (ho : c.one = true) : oneV v = true := by
  cases h <;> first | rfl | (simp [CV.one] at ho)
theorem RVs.oneV {M : Mp} {cs : List CV} {vs : List Value} (h : RVs M cs vs) (ho : cs.all CV.one = true) : ∀ v ∈ vs, Ax.oneV v = true := by
  intro v hv
  obtain ⟨j, hj, rfl⟩ := List.getElem_of_mem hv
  have hc : j < cs.length := by rw [← h.1]; exact hj
  exact (h.2 j hc hj).oneV (List.all_eq_true.mp ho _ (List.getElem_mem hc))
/-- Abstract blocks. -/
inductive CB where
  | cells (cs : List CV)
  | map (ks vs : List CV)
  | iter (l : List UInt8) (p : Nat)
def RB (M : Mp) (w : World) (g m : Nat) : CB → Prop
  | .cells cs => ∃ (arr : Array Value) (T : TypeId), w.heap[g]? = some (.cells arr T (0, 0)) ∧ arr.size = m ∧ RVs M cs (arr.toList.take cs.length)
  | .map ks vs => ∃ (en : Array MapEntry) (clock : Nat), w.heap[g]? = some (.map en clock) ∧ RVs M ks (en.toList.map (·.key)) ∧ RVs M vs (en.toList.map (·.val))
  | .iter l p => ∃ s : ByteArray, w.heap[g]? = some (.stringIter s p) ∧ s.data.toList = l
theorem RB.ext {M M' : Mp} (he : Ext M M') {w w' : World} {g m : Nat} {k : CB} (hh : w'.heap[g]? = w.heap[g]?) (h : RB M w g m k) : RB M' w' g m k := by
  cases k with
  | cells cs => obtain ⟨arr, T, a, b, c⟩ := h; exact ⟨arr, T, by rw [hh, a], b, c.ext he⟩
  | map ks vs => obtain ⟨en, clock, a, b, c⟩ := h; exact ⟨en, clock, by rw [hh, a], b.ext he, c.ext he⟩
  | iter l p => obtain ⟨s, a, b⟩ := h; exact ⟨s, by rw [hh, a], b⟩
theorem RB.lt {M : Mp} {w : World} {g m : Nat} {k : CB} (h : RB M w g m k) : g < w.heap.size := by
  cases k with
  | cells cs => obtain ⟨arr, T, a, _⟩ := h; exact (Array.getElem?_eq_some_iff.mp a).1
  | map ks vs => obtain ⟨en, clock, a, _⟩ := h; exact (Array.getElem?_eq_some_iff.mp a).1
  | iter l p => obtain ⟨s, a, _⟩ := h; exact (Array.getElem?_eq_some_iff.mp a).1
abbrev Heap := Nat → Option CB
def Heap.no : Heap := fun _ => none
/-- The abstract heap stands for the world's. -/
structure Rep (M : Mp) (H : Heap) (nx : Nat) (w : World) : Prop where
  blk : ∀ b k, H b = some k → ∃ g m, M.bk b = some (g, m) ∧ RB M w g m k
  inj : ∀ b b' k k' g m m', H b = some k → H b' = some k' → M.bk b = some (g, m) → M.bk b' = some (g, m') → b = b'
  fresh : ∀ b, nx ≤ b → M.bk b = none
  fz : ∀ g o, M.fz g = some o → w.heap[g]? = some o
  sep : ∀ g o b k m, M.fz g = some o → H b = some k → M.bk b = some (g, m) → False
/-- Blocks of the heap. -/
def Im (H : Heap) (M : Mp) (g : Nat) : Prop := ∃ b k m, H b = some k ∧ M.bk b = some (g, m)
/-- From one state to a later one. -/
structure Fr (H : Heap) (M : Mp) (nx : Nat) (w : World) (H' : Heap) (M' : Mp) (nx' : Nat) (w' : World) : Prop where
  ext : Ext M M'
  os : w'.os = w.os
  tape : w'.tape = w.tape
  output : w'.output = w.output
  grown : w.heap.size ≤ w'.heap.size
  kept : ∀ g, g < w.heap.size → ¬ Im H M g → w'.heap[g]? = w.heap[g]?
  mono : ∀ g, Im H' M' g → Im H M g ∨ w.heap.size ≤ g
  low : ∀ b, b < nx → M'.bk b = M.bk b
  nxle : nx ≤ nx'
  fzn : ∀ g o, M'.fz g = some o → M.fz g = some o ∨ Im H M g ∨ w.heap.size ≤ g
theorem Fr.refl (H : Heap) (M : Mp) (nx : Nat) (w : World) : Fr H M nx w H M nx w :=
  ⟨.refl _, rfl, rfl, rfl, Nat.le_refl _, fun _ _ _ => rfl, fun _ h => .inl h, fun _ _ => rfl, Nat.le_refl _, fun _ _ h => .inl h⟩
theorem Fr.trans {H H' H'' : Heap} {M M' M'' : Mp} {nx nx' nx'' : Nat} {w w' w'' : World} (a : Fr H M nx w H' M' nx' w') (b : Fr H' M' nx' w' H'' M'' nx'' w'') : Fr H M nx w H'' M'' nx'' w'' where
  ext := a.ext.trans b.ext
  os := b.os.trans a.os
  tape := b.tape.trans a.tape
  output := b.output.trans a.output
  grown := Nat.le_trans a.grown b.grown
  kept g hg hn := by
    rw [b.kept g (Nat.lt_of_lt_of_le hg a.grown) (fun hw => by
      rcases a.mono g hw with h1 | h1
      · exact hn h1
      · omega), a.kept g hg hn]
  mono g hw := by
    rcases b.mono g hw with h1 | h1
    · exact a.mono g h1
    · have := a.grown; exact .inr (by omega)
  low x hx := by rw [b.low x (Nat.lt_of_lt_of_le hx a.nxle), a.low x hx]
  nxle := Nat.le_trans a.nxle b.nxle
  fzn g o hg := by
    rcases b.fzn g o hg with h | h | h
    · exact a.fzn g o h
    · rcases a.mono g h with h1 | h1
      · exact .inr (.inl h1)
      · exact .inr (.inr h1)
    · have := a.grown; exact .inr (.inr (by omega))
/-! the heap as a function -/
def upd (H : Heap) (b : Nat) (k : CB) : Heap := fun x => if x = b then some k else H x
def drp (H : Heap) (b : Nat) : Heap := fun x => if x = b then none else H x
def updM (M : Mp) (b : Nat) (p : Nat × Nat) : Mp := ⟨M.fz, fun x => if x = b then some p else M.bk x⟩
theorem upd_hit (H : Heap) (b : Nat) (k : CB) : upd H b k b = some k := by simp [upd]
theorem upd_miss (H : Heap) (b x : Nat) (k : CB) (hx : x ≠ b) : upd H b k x = H x := by simp [upd, hx]
theorem drp_hit (H : Heap) (b : Nat) : drp H b b = none := by simp [drp]
theorem drp_miss (H : Heap) (b x : Nat) (hx : x ≠ b) : drp H b x = H x := by simp [drp, hx]
theorem updM_hit (M : Mp) (b : Nat) (p : Nat × Nat) : (updM M b p).bk b = some p := by simp [updM]
theorem updM_miss (M : Mp) (b x : Nat) (p : Nat × Nat) (hx : x ≠ b) : (updM M b p).bk x = M.bk x := by simp [updM, hx]
theorem Ext.updM {M : Mp} {b : Nat} {p : Nat × Nat} (h : M.bk b = none) : Ext M (updM M b p) := ⟨fun _ _ h => h, fun x y hx => by
  by_cases e : x = b
  · subst e; rw [h] at hx; cases hx
  · rw [updM_miss _ _ _ _ e]; exact hx⟩
/-- A part of the heap. -/
def Sub (H' H : Heap) : Prop := ∀ b k, H' b = some k → H b = some k
theorem Sub.refl (H : Heap) : Sub H H := fun _ _ h => h
theorem Sub.no (H : Heap) : Sub Heap.no H := fun _ _ h => by cases h
theorem Sub.drp (H : Heap) (b : Nat) : Sub (drp H b) H := fun x k h => by
  by_cases e : x = b
  · subst e; rw [drp_hit] at h; cases h
  · rw [drp_miss _ _ _ e] at h; exact h
theorem Sub.im {H' H : Heap} {M : Mp} {g : Nat} (s : Sub H' H) (h : Im H' M g) : Im H M g := by
  obtain ⟨b, k, m, a, c⟩ := h; exact ⟨b, k, m, s b k a, c⟩
theorem Rep.weak {M : Mp} {H H' : Heap} {nx : Nat} {w : World} (r : Rep M H nx w) (s : Sub H' H) : Rep M H' nx w :=
  ⟨fun b k h => r.blk b k (s b k h), fun b b' k k' g m m' h h' => r.inj b b' k k' g m m' (s _ _ h) (s _ _ h'), r.fresh, r.fz, fun g o b k m h h' => r.sep g o b k m h (s _ _ h')⟩
theorem Fr.weak {M : Mp} {H H' : Heap} {nx : Nat} {w : World} (s : Sub H' H) : Fr H M nx w H' M nx w :=
  ⟨.refl _, rfl, rfl, rfl, Nat.le_refl _, fun _ _ _ => rfl, fun _ h => .inl (s.im h), fun _ _ => rfl, Nat.le_refl _, fun _ _ h => .inl h⟩
/-- A greater number is free too. -/
theorem Rep.up {M : Mp} {H : Heap} {nx nx' : Nat} {w : World} (r : Rep M H nx w) (h : nx ≤ nx') : Rep M H nx' w := ⟨r.blk, r.inj, fun b hb => r.fresh b (by omega), r.fz, r.sep⟩
theorem Fr.up {M : Mp} {H : Heap} {nx nx' : Nat} {w : World} (h : nx ≤ nx') : Fr H M nx w H M nx' w :=
  ⟨.refl _, rfl, rfl, rfl, Nat.le_refl _, fun _ _ _ => rfl, fun _ h => .inl h, fun _ _ => rfl, h, fun _ _ h => .inl h⟩
/-- A world with the same heap. -/
theorem Rep.same {M : Mp} {H : Heap} {nx : Nat} {w w' : World} (r : Rep M H nx w) (hh : w'.heap = w.heap) : Rep M H nx w' :=
  ⟨fun b k hb => by obtain ⟨g, m, a, c⟩ := r.blk b k hb; exact ⟨g, m, a, c.ext (.refl _) (by rw [hh])⟩, r.inj, r.fresh, fun g o h => by rw [hh]; exact r.fz g o h, r.sep⟩
theorem Fr.drew {M : Mp} {H : Heap} {nx : Nat} {w w' : World} (hh : w'.heap = w.heap) (ho : w'.os = w.os) (ht : w'.tape = w.tape) (hp : w'.output = w.output) : Fr H M nx w H M nx w' :=
  ⟨.refl _, ho, ht, hp, by rw [hh]; exact Nat.le_refl _, fun _ _ _ => by rw [hh], fun _ h => .inl h, fun _ _ => rfl, Nat.le_refl _, fun _ _ h => .inl h⟩
theorem Rep.lt {M : Mp} {H : Heap} {nx : Nat} {w : World} (r : Rep M H nx w) {b : Nat} {k : CB} {g m : Nat} (hb : H b = some k) (hi : M.bk b = some (g, m)) : g < w.heap.size := by
  obtain ⟨g', m', a, c⟩ := r.blk b k hb
  rw [hi] at a; cases a
  exact c.lt
theorem Rep.im_lt {M : Mp} {H : Heap} {nx : Nat} {w : World} (r : Rep M H nx w) {g : Nat} (h : Im H M g) : g < w.heap.size := by
  obtain ⟨b, k, m, a, c⟩ := h; exact r.lt a c
/-- A new object at a free number. -/
theorem Rep.new {M : Mp} {H : Heap} {nx nx' : Nat} {w w' : World} (r : Rep M H nx w) (b : Nat) (k : CB) (m : Nat) (o : Obj) (hb : M.bk b = none) (hn : nx ≤ nx') (hbn : b < nx')
    (hw : w'.heap = w.heap.push o) (hk : RB (updM M b (w.heap.size, m)) w' w.heap.size m k) :
    Rep (updM M b (w.heap.size, m)) (upd H b k) nx' w' := by
  have hold : ∀ g, g < w.heap.size → w'.heap[g]? = w.heap[g]? := fun g hg => by rw [hw, Array.getElem?_push]; simp [Nat.ne_of_lt hg]
  have he : Ext M (updM M b (w.heap.size, m)) := Ext.updM hb
  refine ⟨?_, ?_, ?_, ?_, ?_⟩
  · intro x k' hx
    by_cases e : x = b
    · subst e
      rw [upd_hit] at hx
      cases hx
      exact ⟨_, _, updM_hit _ _ _, hk⟩
    · rw [upd_miss _ _ _ _ e] at hx
      obtain ⟨g, m', a, c⟩ := r.blk x k' hx
      exact ⟨g, m', by rw [updM_miss _ _ _ _ e]; exact a, c.ext he (hold g c.lt)⟩
  · intro x x' k1 k2 g m1 m2 h1 h2 i1 i2
    by_cases e : x = b <;> by_cases e' : x' = b
    · rw [e, e']
    · subst e
      rw [updM_hit] at i1; cases i1
      rw [updM_miss _ _ _ _ e'] at i2
      rw [upd_miss _ _ _ _ e'] at h2
      have := r.lt h2 i2; omega
    · subst e'
      rw [updM_hit] at i2; cases i2
      rw [updM_miss _ _ _ _ e] at i1
      rw [upd_miss _ _ _ _ e] at h1
      have := r.lt h1 i1; omega
    · rw [updM_miss _ _ _ _ e] at i1
      rw [updM_miss _ _ _ _ e'] at i2
      rw [upd_miss _ _ _ _ e] at h1
      rw [upd_miss _ _ _ _ e'] at h2
      exact r.inj x x' k1 k2 g m1 m2 h1 h2 i1 i2
  · intro x hx
    rw [updM_miss _ _ _ _ (by omega)]
    exact r.fresh x (by omega)
  · intro g x hx
    have h1 : w.heap[g]? = some x := r.fz g x hx
    rw [hold g (Array.getElem?_eq_some_iff.mp h1).1, h1]
  · intro g o' x k' m' h1 h2 h3
    have hl : g < w.heap.size := (Array.getElem?_eq_some_iff.mp (r.fz g o' h1)).1
    by_cases e : x = b
    · subst e; rw [updM_hit] at h3; cases h3; omega
    · rw [upd_miss _ _ _ _ e] at h2
      rw [updM_miss _ _ _ _ e] at h3
      exact r.sep g o' x k' m' h1 h2 h3
/-- The same for a part of the heap. -/
theorem Fr.new {M : Mp} {H H1 : Heap} {nx nx' : Nat} {w w' : World} (b : Nat) (k : CB) (m : Nat) (o : Obj) (hb : M.bk b = none) (hbn : nx ≤ b) (hn : nx ≤ nx') (s : Sub H1 H)
    (hw : w'.heap = w.heap.push o) (ho : w'.os = w.os) (ht : w'.tape = w.tape) (hp : w'.output = w.output) :
    Fr H M nx w (upd H1 b k) (updM M b (w.heap.size, m)) nx' w' := by
  refine ⟨Ext.updM hb, ho, ht, hp, by rw [hw]; simp, fun g hg _ => by rw [hw, Array.getElem?_push]; simp [Nat.ne_of_lt hg], ?_, ?_, hn, fun _ _ h => .inl h⟩
  · intro g ⟨x, k', m', h1, h2⟩
    by_cases e : x = b
    · subst e; rw [updM_hit] at h2; cases h2; exact .inr (Nat.le_refl _)
    · rw [upd_miss _ _ _ _ e] at h1
      rw [updM_miss _ _ _ _ e] at h2
      exact .inl ⟨x, k', m', s _ _ h1, h2⟩
  · intro x hx; exact updM_miss _ _ _ _ (by omega)
/-- A block is written. -/
theorem Rep.write {M : Mp} {H : Heap} {nx : Nat} {w w' : World} (r : Rep M H nx w) (b : Nat) (k k' : CB) (g m : Nat) (hb : H b = some k) (hi : M.bk b = some (g, m))
    (hs : w'.heap.size = w.heap.size) (hh : ∀ x, x ≠ g → w'.heap[x]? = w.heap[x]?) (ho : w'.os = w.os) (ht : w'.tape = w.tape) (hp : w'.output = w.output)
    (hr : RB M w' g m k') : Rep M (upd H b k') nx w' ∧ Fr H M nx w (upd H b k') M nx w' := by
  refine ⟨⟨?_, ?_, r.fresh, ?_, ?_⟩, ⟨.refl _, ho, ht, hp, by omega, ?_, ?_, fun _ _ => rfl, Nat.le_refl _, fun _ _ h => .inl h⟩⟩
  · intro x k1 hx
    by_cases e : x = b
    · subst e; rw [upd_hit] at hx; cases hx; exact ⟨g, m, hi, hr⟩
    · rw [upd_miss _ _ _ _ e] at hx
      obtain ⟨g1, m1, a, c⟩ := r.blk x k1 hx
      refine ⟨g1, m1, a, c.ext (.refl _) (hh g1 (fun e1 => e ?_))⟩
      subst e1
      exact (r.inj b x k k1 g1 m m1 hb hx hi a).symm
  · intro x x' k1 k2 g1 m1 m2 h1 h2 i1 i2
    have l : ∀ y k3, (upd H b k') y = some k3 → ∃ k, H y = some k := by
      intro y k3 hy
      by_cases e : y = b
      · subst e; exact ⟨k, hb⟩
      · rw [upd_miss _ _ _ _ e] at hy; exact ⟨k3, hy⟩
    obtain ⟨a, ha⟩ := l x k1 h1
    obtain ⟨c, hc⟩ := l x' k2 h2
    exact r.inj x x' a c g1 m1 m2 ha hc i1 i2
  · intro g1 o h1
    rw [hh g1 (fun e => by subst e; exact r.sep g1 o b k m h1 hb hi)]
    exact r.fz g1 o h1
  · intro g1 o x k1 m1 h1 h2 h3
    by_cases e : x = b
    · subst e; exact r.sep g1 o x k m1 h1 hb h3
    · rw [upd_miss _ _ _ _ e] at h2; exact r.sep g1 o x k1 m1 h1 h2 h3
  · intro g1 _ hn
    exact hh g1 (fun e => hn ⟨b, k, m, hb, e ▸ hi⟩)
  · intro g1 ⟨x, k1, m1, h1, h3⟩
    by_cases e : x = b
    · subst e; exact .inl ⟨x, k, m1, hb, h3⟩
    · rw [upd_miss _ _ _ _ e] at h1; exact .inl ⟨x, k1, m1, h1, h3⟩
/-- A block goes over to a new number. -/
theorem Rep.move {M : Mp} {H : Heap} {nx : Nat} {w : World} (r : Rep M H nx w) (b : Nat) (k : CB) (g m : Nat) (hb : H b = some k) (hi : M.bk b = some (g, m)) :
    Rep (updM M nx (g, m)) (upd (drp H b) nx k) (nx + 1) w ∧ Fr H M nx w (upd (drp H b) nx k) (updM M nx (g, m)) (nx + 1) w := by
  have hf : M.bk nx = none := r.fresh nx (Nat.le_refl _)
  have he : Ext M (updM M nx (g, m)) := Ext.updM hf
  have hbn : b ≠ nx := fun e => by rw [e, hf] at hi; cases hi
  have key : ∀ x k1, (upd (drp H b) nx k) x = some k1 → ∀ g1 m1, (updM M nx (g, m)).bk x = some (g1, m1) → (x = nx ∧ g1 = g ∧ m1 = m ∧ k1 = k) ∨ (x ≠ nx ∧ x ≠ b ∧ H x = some k1 ∧ M.bk x = some (g1, m1)) := by
    intro x k1 hx g1 m1 hi1
    by_cases e : x = nx
    · subst e; rw [updM_hit] at hi1; rw [upd_hit] at hx; cases hi1; cases hx; exact .inl ⟨rfl, rfl, rfl, rfl⟩
    · rw [upd_miss _ _ _ _ e] at hx
      rw [updM_miss _ _ _ _ e] at hi1
      by_cases e1 : x = b
      · subst e1; rw [drp_hit] at hx; cases hx
      · rw [drp_miss _ _ _ e1] at hx; exact .inr ⟨e, e1, hx, hi1⟩
  obtain ⟨g0, m0, a0, c0⟩ := r.blk b k hb
  rw [hi] at a0; cases a0
  refine ⟨⟨?_, ?_, ?_, r.fz, ?_⟩, ⟨he, rfl, rfl, rfl, Nat.le_refl _, fun _ _ _ => rfl, ?_, fun x hx => updM_miss _ _ _ _ (by omega), by omega, fun _ _ h => .inl h⟩⟩
  · intro x k1 hx
    by_cases e : x = nx
    · subst e; rw [upd_hit] at hx; cases hx; exact ⟨g, m, updM_hit _ _ _, c0.ext he rfl⟩
    · rw [upd_miss _ _ _ _ e] at hx
      by_cases e1 : x = b
      · subst e1; rw [drp_hit] at hx; cases hx
      · rw [drp_miss _ _ _ e1] at hx
        obtain ⟨g1, m1, a, c⟩ := r.blk x k1 hx
        exact ⟨g1, m1, he.bk _ _ a, c.ext he rfl⟩
  · intro x x' k1 k2 g1 m1 m2 h1 h2 i1 i2
    rcases key x k1 h1 g1 m1 i1 with ⟨a, b1, _, _⟩ | ⟨a, b1, c1, d1⟩ <;> rcases key x' k2 h2 g1 m2 i2 with ⟨a', b2, _, _⟩ | ⟨a', b2, c2, d2⟩
    · rw [a, a']
    · subst b1; exact absurd (r.inj b x' k k2 g1 m m2 hb c2 hi d2).symm b2
    · subst b2; exact absurd (r.inj x b k1 k g1 m1 m c1 hb d1 hi) b1
    · exact r.inj x x' k1 k2 g1 m1 m2 c1 c2 d1 d2
  · intro x hx
    rw [updM_miss _ _ _ _ (by omega)]
    exact r.fresh x (by omega)
  · intro g1 o x k1 m1 h1 h2 h3
    rcases key x k1 h2 g1 m1 h3 with ⟨a, b1, _, _⟩ | ⟨a, b1, c1, d1⟩
    · subst b1; exact r.sep g1 o b k m h1 hb hi
    · exact r.sep g1 o x k1 m1 h1 c1 d1
  · intro g1 ⟨x, k1, m1, h1, h3⟩
    rcases key x k1 h1 g1 m1 h3 with ⟨a, b1, _, _⟩ | ⟨a, b1, c1, d1⟩
    · subst b1; exact .inl ⟨b, k, m, hb, hi⟩
    · exact .inl ⟨x, k1, m1, c1, d1⟩
/-- Two heaps side by side: the second first. -/
def cup (H X : Heap) : Heap := fun b => match X b with
  | some k => some k
  | none => H b
/-- What is not handed on stays. -/
theorem Rep.frame {M M' : Mp} {H H1 H' : Heap} {nx nx' : Nat} {w w' : World} (X : Heap) (r : Rep M H nx w) (s : Sub H1 H) (sx : Sub X H) (dj : ∀ b k, X b = some k → H1 b = none)
    (r' : Rep M' H' nx' w') (f : Fr H1 M nx w H' M' nx' w') : Rep M' (cup H' X) nx' w' ∧ Fr H M nx w (cup H' X) M' nx' w' := by
  have notim : ∀ b k g m, X b = some k → M.bk b = some (g, m) → ¬ Im H1 M g := by
    intro b k g m hx hi ⟨b1, k1, m1, h1, i1⟩
    have e := r.inj b b1 k k1 g m m1 (sx _ _ hx) (s _ _ h1) hi i1
    subst e
    rw [dj _ _ hx] at h1; cases h1
  have low : ∀ b k, X b = some k → ∃ g m, M.bk b = some (g, m) ∧ M'.bk b = some (g, m) ∧ g < w.heap.size ∧ RB M w g m k := by
    intro b k hx
    obtain ⟨g, m, a, c⟩ := r.blk b k (sx _ _ hx)
    exact ⟨g, m, a, f.ext.bk _ _ a, c.lt, c⟩
  have key : ∀ b k, cup H' X b = some k → X b = some k ∨ (X b = none ∧ H' b = some k) := by
    intro b k h
    unfold cup at h
    cases hx : X b with
    | some k' => rw [hx] at h; exact .inl h
    | none => rw [hx] at h; exact .inr ⟨rfl, h⟩
  refine ⟨⟨?_, ?_, r'.fresh, r'.fz, ?_⟩, ⟨f.ext, f.os, f.tape, f.output, f.grown, ?_, ?_, f.low, f.nxle, ?_⟩⟩
  · intro b k h
    rcases key b k h with h | ⟨_, h⟩
    · obtain ⟨g, m, a, a', hl, c⟩ := low b k h
      exact ⟨g, m, a', c.ext f.ext (f.kept g hl (notim b k g m h a))⟩
    · exact r'.blk b k h
  · have mix : ∀ b b' k k' g m m', X b = some k → H' b' = some k' → M'.bk b = some (g, m) → M'.bk b' = some (g, m') → False := by
      intro b b' k k' g m m' hx h' i i'
      obtain ⟨g0, m0, a, a', hl, c⟩ := low b k hx
      rw [a'] at i; cases i
      rcases f.mono g ⟨b', k', m', h', i'⟩ with h1 | h1
      · exact notim b k g m hx a h1
      · omega
    intro b b' k k' g m m' h h' i i'
    rcases key b k h with h | ⟨_, h⟩ <;> rcases key b' k' h' with h' | ⟨_, h'⟩
    · obtain ⟨g0, m0, a, a', _, _⟩ := low b k h
      obtain ⟨g1, m1, d, d', _, _⟩ := low b' k' h'
      rw [a'] at i; cases i
      rw [d'] at i'; cases i'
      exact r.inj b b' k k' g m m' (sx _ _ h) (sx _ _ h') a d
    · exact (mix b b' k k' g m m' h h' i i').elim
    · exact (mix b' b k' k g m' m h' h i' i).elim
    · exact r'.inj b b' k k' g m m' h h' i i'
  · intro g o b k m hz h i
    rcases key b k h with h | ⟨_, h⟩
    · obtain ⟨g0, m0, a, a', hl, c⟩ := low b k h
      rw [a'] at i; cases i
      rcases f.fzn g o hz with h1 | h1 | h1
      · exact r.sep g o b k m h1 (sx _ _ h) a
      · exact notim b k g m h a h1
      · omega
    · exact r'.sep g o b k m hz h i
  · intro g hg hn
    exact f.kept g hg (fun h => hn (s.im h))
  · intro g ⟨b, k, m, h, i⟩
    rcases key b k h with h | ⟨_, h⟩
    · obtain ⟨g0, m0, a, a', _, _⟩ := low b k h
      rw [a'] at i; cases i
      exact .inl ⟨b, k, m, sx _ _ h, a⟩
    · rcases f.mono g ⟨b, k, m, h, i⟩ with h1 | h1
      · exact .inl (s.im h1)
      · exact .inr h1
  · intro g o h
    rcases f.fzn g o h with h1 | h1 | h1
    · exact .inl h1
    · exact .inr (.inl (s.im h1))
    · exact .inr (.inr h1)
/-- A block is frozen. -/
theorem Rep.frz {M : Mp} {H : Heap} {nx : Nat} {w : World} (r : Rep M H nx w) (b g m : Nat) (k : CB) (o : Obj) (hb : H b = some k) (hi : M.bk b = some (g, m)) (ho : w.heap[g]? = some o) :
    Rep ⟨fun x => if x = g then some o else M.fz x, M.bk⟩ (drp H b) nx w ∧ Fr H M nx w (drp H b) ⟨fun x => if x = g then some o else M.fz x, M.bk⟩ nx w := by
  have he : Ext M ⟨fun x => if x = g then some o else M.fz x, M.bk⟩ := ⟨fun x y hx => by
    by_cases e : x = g
    · subst e; exact (r.sep x y b k m hx hb hi).elim
    · simpa [e] using hx, fun _ _ h => h⟩
  refine ⟨⟨?_, ?_, r.fresh, ?_, ?_⟩, ⟨he, rfl, rfl, rfl, Nat.le_refl _, fun _ _ _ => rfl, ?_, fun _ _ => rfl, Nat.le_refl _, ?_⟩⟩
  · intro x k1 hx
    obtain ⟨g1, m1, a, c⟩ := r.blk x k1 (Sub.drp H b _ _ hx)
    exact ⟨g1, m1, a, c.ext he rfl⟩
  · intro x x' k1 k2 g1 m1 m2 h1 h2 i1 i2
    exact r.inj x x' k1 k2 g1 m1 m2 (Sub.drp H b _ _ h1) (Sub.drp H b _ _ h2) i1 i2
  · intro x y hx
    by_cases e : x = g
    · subst e; simp at hx; rw [← hx]; exact ho
    · simp [e] at hx; exact r.fz x y hx
  · intro x y b1 k1 m1 h1 h2 h3
    by_cases e : x = g
    · subst e
      have e1 := r.inj b1 b k1 k x m1 m (Sub.drp H b _ _ h2) hb h3 hi
      subst e1; rw [drp_hit] at h2; cases h2
    · simp [e] at h1; exact r.sep x y b1 k1 m1 h1 (Sub.drp H b _ _ h2) h3
  · intro g1 ⟨x, k1, m1, h1, h3⟩; exact .inl ⟨x, k1, m1, Sub.drp H b _ _ h1, h3⟩
  · intro x y hx
    by_cases e : x = g
    · subst e; exact .inr (.inl ⟨b, k, m, hb, hi⟩)
    · simp [e] at hx; exact .inl hx
/-- The whole world frozen. -/
def snap (w : World) : Mp := ⟨fun g => w.heap[g]?, fun _ => none⟩
theorem Rep.snap (w : World) : Rep (Ax.snap w) Heap.no 0 w :=
  ⟨fun _ _ h => (by cases h), fun _ _ _ _ _ _ _ h => (by cases h), fun _ _ => rfl, fun _ _ h => h, fun _ _ _ _ _ _ h => (by cases h)⟩
theorem Fr.below {M M' : Mp} {H' : Heap} {nx nx' : Nat} {w w' : World} (f : Fr Heap.no M nx w H' M' nx' w') : Go.RowKit.Below w.heap.size w w' :=
  ⟨f.os, f.tape, f.output, f.grown, fun g hg => f.kept g hg (fun ⟨_, _, _, h, _⟩ => by cases h)⟩
end Ax
end Go.Proofs.YtdjllogimomgmaaGreatDoor
set_option linter.unusedSimpArgs false
set_option linter.unusedVariables false
namespace Go.Proofs.YtdjllogimomgmaaGreatDoor
namespace Ax
/-- What the operations ask of a type. -/
structure TI where
  und : TypeDesc
  size : Nat
  zero : Value
  bytes : Nat
def ti (P : Program) (t : TypeId) : Option TI := match P.info? t with
  | some i => match P.underlying t with
    | some d => match i.zero with
      | some z => some ⟨d, i.size, z, i.bytes⟩
      | none => none
    | none => none
  | none => none
theorem ti_spec {P : Program} {t : TypeId} {i : TI} (h : ti P t = some i) : P.underlying t = some i.und ∧ ∃ f, P.info? t = some f ∧ f.size = i.size ∧ f.zero = some i.zero ∧ f.bytes = i.bytes := by
  unfold ti at h
  split at h
  · rename_i f hf
    split at h
    · rename_i d hd
      split at h
      · rename_i z hz; cases h; exact ⟨hd, f, hf, rfl, hz, rfl⟩
      · cases h
    · cases h
  · cases h
section runs
variable {P : Program} {t : TypeId} {i : TI}
theorem ti_und (h : ti P t = some i) (w : World) : (underlying t).run P w = .ok i.und w := run_underlying (ti_spec h).1 w
theorem ti_size (h : ti P t = some i) (w : World) : (sizeOf t).run P w = .ok i.size w := by
  obtain ⟨_, f, hf, hs, _⟩ := ti_spec h
  simp [sizeOf, typeInfo, hf, hs]
theorem ti_zero (h : ti P t = some i) (w : World) : (zeroValue t).run P w = .ok i.zero w := by
  obtain ⟨_, f, hf, _, hz, _⟩ := ti_spec h
  simp [zeroValue, typeInfo, hf, hz]
def isAggD : TypeDesc → Bool
  | .struct _ | .array _ _ => true
  | _ => false
theorem ti_agg (h : ti P t = some i) (w : World) : (isAgg t).run P w = .ok (isAggD i.und) w := by
  simp only [isAgg, Sem.run_bind, ti_und h, Result.andThen_ok]
  cases i.und <;> simp [isAggD]
end runs
/-- Constants. -/
def ofS : Value → CV
  | .bool b => .bool b
  | .int k n => .int k n
  | .string s => .str s.data.toList
  | .pointer none => .nilp
  | .slice none 0 0 => .nils
  | .map none => .nilm
  | .nilFunc => .nilf
  | .nilIface => .nili
  | _ => .any
def ofV : Value → CV
  | .agg cs => .agg (cs.toList.map ofS)
  | v => ofS v
theorem RV.ofS (M : Mp) (v : Value) : RV M (ofS v) v := by
  unfold Ax.ofS
  split
  · exact .bool _
  · exact .int _ _
  · exact .str _ _ rfl
  · exact .nilp
  · exact .nils
  · exact .nilm
  · exact .nilf
  · exact .nili
  · exact .any _
theorem RVs.ofS (M : Mp) (vs : List Value) : RVs M (vs.map Ax.ofS) vs :=
  ⟨by simp, fun j _ _ => by rw [List.getElem_map]; exact RV.ofS M _⟩
theorem RV.ofV (M : Mp) (v : Value) : RV M (ofV v) v := by
  unfold Ax.ofV
  split
  · rename_i cs
    have h := RVs.ofS M cs.toList
    exact RV.agg _ cs.toList h.1 h.2
  · exact RV.ofS M v
/-- The cells of a value. -/
def CV.cs : CV → Option (List CV)
  | .agg cs => some cs
  | .any => none
  | .tup _ => none
  | .opt _ _ => none
  | c => some [c]
theorem RV.cs {M : Mp} {c : CV} {v : Value} {l : List CV} (h : RV M c v) (hc : c.cs = some l) : RVs M l v.cells.toList := by
  have h0 := h
  cases h with
  | any => cases hc
  | agg cs vs hl hr => cases hc; exact ⟨by simpa [Value.cells] using hl, by intro j a b; exact hr j a (by simpa [Value.cells] using b)⟩
  | tup => cases hc
  | opt => cases hc
  | _ => cases hc; exact RVs.one h0
/-! loads -/
theorem cell_at {w : World} {g o j : Nat} {arr : Array Value} {T : TypeId} {fr : Nat × Nat} (h : w.heap[g]? = some (.cells arr T fr)) : w.cell? ((⟨g, o, none⟩ : Addr).add j) = arr[o + j]? := by
  have hadd : (⟨g, o, none⟩ : Addr).add j = ⟨g, o + j, none⟩ := by unfold Addr.add; split <;> simp_all
  rw [hadd]; simp [World.cell?, h]
theorem run_loadAt_agg {P : Program} {t : TypeId} {i : TI} {w : World} {g o : Nat} {arr : Array Value} {T : TypeId} {fr : Nat × Nat} (ht : ti P t = some i) (ha : isAggD i.und = true)
    (h : w.heap[g]? = some (.cells arr T fr)) (hl : o + i.size ≤ arr.size) :
    (Instr.loadAt t (.pointer (some ⟨g, o, none⟩))).run P w = .ok (.agg ((arr.toList.drop o).take i.size).toArray) w := by
  have e := run_loadCells_list (P := P) w ⟨g, o, none⟩ ((arr.toList.drop o).take i.size) (fun j v hj => by
    rw [cell_at h]
    rw [List.getElem?_take] at hj
    split at hj
    · simpa using hj
    · cases hj)
  have hn : ((arr.toList.drop o).take i.size).length = i.size := by simp; omega
  rw [hn] at e
  simp [Instr.loadAt, Instr.sureAddr, loadVar, ti_agg ht, ha, ti_size ht, e]
theorem run_loadAt_one {P : Program} {t : TypeId} {i : TI} {w : World} {g o : Nat} {arr : Array Value} {T : TypeId} {fr : Nat × Nat} {v : Value} (ht : ti P t = some i) (ha : isAggD i.und = false)
    (h : w.heap[g]? = some (.cells arr T fr)) (hl : arr[o]? = some v) :
    (Instr.loadAt t (.pointer (some ⟨g, o, none⟩))).run P w = .ok v w := by
  have e := cell_at (o := o) (j := 0) h
  simp only [Addr.add, if_true, Nat.add_zero] at e
  rw [hl] at e
  simp [Instr.loadAt, Instr.sureAddr, loadVar, ti_agg ht, ha, e]
def pickCells (i : TI) (cs : List CV) (o : Nat) : Option CV := match isAggD i.und with
  | true => match Nat.ble (o + i.size) cs.length with
    | true => some (.agg ((cs.drop o).take i.size))
    | false => none
  | false => cs[o]?
theorem pick_load {P : Program} {M : Mp} {t : TypeId} {i : TI} {w : World} {g o o' : Nat} {arr : Array Value} {T : TypeId} {fr : Nat × Nat} {cs : List CV} {c : CV} (ht : ti P t = some i)
    (h : w.heap[g]? = some (.cells arr T fr)) (hl : o + cs.length ≤ arr.size) (hr : RVs M cs ((arr.toList.drop o).take cs.length)) (hp : pickCells i cs o' = some c) :
    ∃ v, (Instr.loadAt t (.pointer (some ⟨g, o + o', none⟩))).run P w = .ok v w ∧ RV M c v := by
  unfold pickCells at hp
  split at hp
  · rename_i ha
    split at hp
    · rename_i hb
      cases hp
      have hb' := Nat.le_of_ble_eq_true hb
      refine ⟨_, run_loadAt_agg ht ha h (by omega), ?_⟩
      have e : ((arr.toList.drop (o + o')).take i.size) = (((arr.toList.drop o).take cs.length).drop o').take i.size := by
        rw [List.drop_take, List.take_take, List.drop_drop, Nat.min_eq_left (by omega)]
      rw [e]
      have := (hr.drop o').take i.size
      exact .agg _ _ this.1 this.2
    · cases hp
  · rename_i ha
    obtain ⟨v, hv, hrv⟩ := hr.at' hp
    have hlt := (List.getElem?_eq_some_iff.mp hp).1
    rw [List.getElem?_take, if_pos hlt] at hv
    exact ⟨v, run_loadAt_one ht ha h (by simpa using hv), hrv⟩
def loadA (P : Program) (H : Heap) (t : TypeId) (x : CV) : Option CV := match ti P t with
  | none => none
  | some i => match x with
    | .ptr b o => match H b with
      | some (.cells cs) => pickCells i cs o
      | _ => none
    | .rop cs => pickCells i cs 0
    | _ => none
theorem loadA_sound {P : Program} {H : Heap} {t : TypeId} {x c : CV} {M : Mp} {nx : Nat} {w : World} {v : Value} (h : loadA P H t x = some c) (r : Rep M H nx w) (hx : RV M x v) :
    ∃ u, (Instr.loadAt t v).run P w = .ok u w ∧ RV M c u := by
  unfold loadA at h
  split at h
  · cases h
  · rename_i i ht
    split at h
    · rename_i b o
      split at h
      · rename_i cs hb
        cases hx with
        | ptr _ _ g m hm =>
          obtain ⟨g', m', hm', arr, T, ha, hs, hr⟩ := r.blk b _ hb
          rw [hm] at hm'; cases hm'
          have hlen : cs.length ≤ arr.size := by have := hr.1; simp at this; omega
          have := pick_load (o := 0) ht ha (by omega) (by simpa using hr) h
          simpa using this
      · cases h
    · rename_i cs
      cases hx with
      | rop _ g o arr T fr hg hl hr =>
        have hw := r.fz g _ hg
        have hrs : RVs M cs ((arr.toList.drop o).take cs.length) := ⟨by simp; omega, fun j a b => by
          have := hr j a (by omega)
          simpa using this⟩
        have := pick_load (o' := 0) ht hw hl hrs h
        simpa using this
    · cases h
/-! parts of values -/
def partA (i : TI) (cs : List CV) (off : Nat) : Option CV := match isAggD i.und with
  | true => match Nat.ble (off + i.size) cs.length with
    | true => some (.agg ((cs.drop off).take i.size))
    | false => none
  | false => cs[off]?
theorem partA_sound {P : Program} {M : Mp} {t : TypeId} {i : TI} {cs : List CV} {vs : List Value} {off : Nat} {c : CV} {w : World} (ht : ti P t = some i) (hr : RVs M cs vs) (h : partA i cs off = some c) :
    ∃ u, (part t vs.toArray off).run P w = .ok u w ∧ RV M c u := by
  unfold partA at h
  split at h
  · rename_i ha
    split at h
    · rename_i hb
      cases h
      have hb' := Nat.le_of_ble_eq_true hb
      refine ⟨.agg ((vs.drop off).take i.size).toArray, ?_, ?_⟩
      · simp [part, ti_agg ht, ha, ti_size ht]
      · have := (hr.drop off).take i.size
        exact .agg _ _ this.1 this.2
    · cases h
  · rename_i ha
    obtain ⟨v, hv, hrv⟩ := hr.at' h
    exact ⟨v, by simp [part, ti_agg ht, ha, hv], hrv⟩
def fieldA (P : Program) (t : TypeId) (x : CV) (f : Nat) : Option CV := match ti P t with
  | some ⟨.struct fs, _, _, _⟩ => match fs.toList[f]? with
    | some fd => match ti P fd.type with
      | some i => match x with
        | .agg cs => partA i cs fd.offset
        | _ => none
      | none => none
    | none => none
  | _ => none
theorem fieldA_sound {P : Program} {t : TypeId} {x c : CV} {f : Nat} {M : Mp} {w : World} {v : Value} (h : fieldA P t x f = some c) (hx : RV M x v) :
    ∃ u, (Instr.field t v f).run P w = .ok u w ∧ RV M c u := by
  unfold fieldA at h
  split at h
  · rename_i fs s z bt ht
    split at h
    · rename_i fd hf
      split at h
      · rename_i i hi
        split at h
        · rename_i cs
          cases hx with
          | agg _ vs hl hr =>
            obtain ⟨u, h1, h2⟩ := partA_sound (w := w) hi ⟨hl, hr⟩ h
            refine ⟨u, ?_, h2⟩
            have hf' : fs[f]? = some fd := by rw [← Array.getElem?_toList]; exact hf
            simp [Instr.field, ti_und ht, hf', asAgg, h1]
        · cases h
      · cases h
    · cases h
  · cases h
def faddA (P : Program) (t : TypeId) (x : CV) (f : Nat) : Option CV := match ti P t with
  | some ⟨.struct fs, _, _, _⟩ => match fs.toList[f]? with
    | some fd => match ti P fd.type with
      | some i => match Nat.beq i.size 0 with
        | true => none
        | false => match x with
          | .ptr b o => some (.ptr b (o + fd.offset))
          | .rop cs => match Nat.ble fd.offset cs.length with
            | true => some (.rop (cs.drop fd.offset))
            | false => none
          | _ => none
      | none => none
    | none => none
  | _ => none
theorem addr_add (g o j : Nat) : (⟨g, o, none⟩ : Addr).add j = ⟨g, o + j, none⟩ := by unfold Addr.add; split <;> simp_all
theorem RV.ropDrop {M : Mp} {cs : List CV} {g o : Nat} (n : Nat) (hn : n ≤ cs.length) (h : RV M (.rop cs) (.pointer (some ⟨g, o, none⟩))) : RV M (.rop (cs.drop n)) (.pointer (some ⟨g, o + n, none⟩)) := by
  cases h with
  | rop _ _ _ arr T fr hg hl hr =>
    refine .rop _ _ _ arr T fr hg (by simp; omega) (fun j a b => ?_)
    have := hr (n + j) (by simp at a; omega) (by omega)
    simpa [Nat.add_assoc] using this
theorem faddA_sound {P : Program} {t : TypeId} {x c : CV} {f : Nat} {M : Mp} {w : World} {v : Value} (h : faddA P t x f = some c) (hx : RV M x v) :
    ∃ u, (Instr.fieldAt t v f).run P w = .ok u w ∧ RV M c u := by
  unfold faddA at h
  split at h
  · rename_i fs s z bt ht
    split at h
    · rename_i fd hf
      have hf' : fs[f]? = some fd := by rw [← Array.getElem?_toList]; exact hf
      split at h
      · rename_i i hi
        split at h
        · cases h
        · rename_i hz
          have hz' : i.size ≠ 0 := fun e => by rw [e] at hz; simp at hz
          split at h
          · rename_i b o
            cases h
            cases hx with
            | ptr _ _ g m hm =>
              refine ⟨.pointer (some ⟨g, o + fd.offset, none⟩), ?_, .ptr _ _ g m hm⟩
              simp [Instr.fieldAt, ti_und ht, hf', Instr.sureAddr, fieldPlace, ti_size hi, hz', addr_add]
          · rename_i cs
            split at h
            · rename_i hb
              cases h
              have hx0 := hx
              cases hx with
              | rop _ g o arr T fr hg hl hr =>
                refine ⟨.pointer (some ⟨g, o + fd.offset, none⟩), ?_, hx0.ropDrop _ (Nat.le_of_ble_eq_true hb)⟩
                simp [Instr.fieldAt, ti_und ht, hf', Instr.sureAddr, fieldPlace, ti_size hi, hz', addr_add]
            · cases h
          · cases h
      · cases h
    · cases h
  · cases h
end Ax
end Go.Proofs.YtdjllogimomgmaaGreatDoor
namespace Go.Proofs.YtdjllogimomgmaaGreatDoor
namespace Ax
def natOf : Int → Option Nat
  | .ofNat n => some n
  | .negSucc _ => none
theorem natOf_spec {j : Int} {n : Nat} (h : natOf j = some n) : j = (n : Int) := by
  cases j with
  | ofNat m => cases h; rfl
  | negSucc m => cases h
@[simp] theorem natOf_cast (n : Nat) : natOf (n : Int) = some n := rfl
@[simp] theorem natOf_lit (n : Nat) : natOf (OfNat.ofNat n : Int) = some n := rfl
@[simp] theorem natOf_zero : natOf 0 = some 0 := rfl
@[simp] theorem natOf_one : natOf 1 = some 1 := rfl
@[simp] theorem natOf_succ (n : Nat) : natOf ((n : Int) + 1) = some (n + 1) := rfl
/-! addresses of elements -/
def iaddA (P : Program) (t : TypeId) (x ix : CV) : Option CV := match ix with
  | .int _ j => match natOf j with
    | some n => match ti P t with
      | some ⟨.slice e, _, _, _⟩ => match ti P e with
        | some i => match x with
          | .sl b o len k => match Nat.beq i.size k && Nat.blt n len with
            | true => some (.ptr b (o + n * k))
            | false => none
          | .lst rows => match rows[n]? with
            | some r => match Nat.beq r.length i.size with
              | true => some (.rop r)
              | false => none
            | none => none
          | _ => none
        | none => none
      | some ⟨.array len e, _, _, _⟩ => match ti P e with
        | some i => match Nat.blt n len with
          | true => match x with
            | .ptr b o => some (.ptr b (o + n * i.size))
            | .rop cs => match Nat.ble (n * i.size) cs.length with
              | true => some (.rop (cs.drop (n * i.size)))
              | false => none
            | _ => none
          | false => none
        | none => none
      | _ => none
    | none => none
  | _ => none
theorem blt_lt {a b : Nat} (h : Nat.blt a b = true) : a < b := Nat.le_of_ble_eq_true h
theorem lt_blt {a b : Nat} (h : a < b) : Nat.blt a b = true := Nat.ble_eq_true_of_le h
theorem data_len (s : ByteArray) : s.data.toList.length = s.size := by rw [Array.length_toList]; rfl
theorem beq_eq {a b : Nat} (h : Nat.beq a b = true) : a = b := Nat.eq_of_beq_eq_true h
theorem iaddA_sound {P : Program} {t : TypeId} {x ix c : CV} {M : Mp} {w : World} {v u : Value} (h : iaddA P t x ix = some c) (hx : RV M x v) (hi : RV M ix u) :
    ∃ z, (Instr.indexAt t v u).run P w = .ok z w ∧ RV M c z := by
  unfold iaddA at h
  split at h
  case h_2 => cases h
  rename_i kk j
  cases hi
  split at h
  case h_2 => cases h
  rename_i n hn
  have hj := natOf_spec hn
  subst hj
  split at h
  · rename_i e _ _ _ ht
    split at h
    case h_2 => cases h
    rename_i i hti
    split at h
    · rename_i b o len k
      split at h
      case h_2 => cases h
      rename_i hb
      cases h
      simp only [Bool.and_eq_true] at hb
      have h1 := beq_eq hb.1
      have h2 := blt_lt hb.2
      cases hx with
      | sl _ _ _ _ g m c' hm hn' hm' =>
        refine ⟨.pointer (some ⟨g, o + n * k, none⟩), ?_, .ptr _ _ g m hm⟩
        simp [Instr.indexAt, asIntOf, ti_und ht, h2, ti_size hti, h1, addr_add]
    · rename_i rows
      split at h
      case h_2 => cases h
      rename_i r hr
      split at h
      case h_2 => cases h
      rename_i hb
      cases h
      have hb' := beq_eq hb
      obtain ⟨hlt, hre⟩ := List.getElem?_eq_some_iff.mp hr
      cases hx with
      | lst0 a c' => simp at hlt
      | lst _ g o n' k c' arr T fr hg hn' hc hk hl hrr =>
        have hkk : i.size = k := by rw [← hb', ← hre]; exact hk _ (List.getElem_mem hlt)
        have hlt' : n < n' := by omega
        refine ⟨.pointer (some ⟨g, o + n * k, none⟩), ?_, ?_⟩
        · simp [Instr.indexAt, asIntOf, ti_und ht, hlt', ti_size hti, hkk, addr_add]
        · have hrl : r.length = k := by rw [hb', hkk]
          have hmul : n * k + k ≤ n' * k := by
            have : (n + 1) * k ≤ n' * k := Nat.mul_le_mul_right _ hlt'
            rw [Nat.add_mul] at this; omega
          refine .rop r g (o + n * k) arr T fr hg (by omega) (fun q a b => ?_)
          have := hrr n hlt q (by rw [hre]; exact a) b
          simpa [hre] using this
    · cases h
  · rename_i len e _ _ _ ht
    split at h
    case h_2 => cases h
    rename_i i hti
    split at h
    case h_2 => cases h
    rename_i hb
    have h2 := blt_lt hb
    split at h
    · rename_i b o
      cases h
      cases hx with
      | ptr _ _ g m hm =>
        refine ⟨.pointer (some ⟨g, o + n * i.size, none⟩), ?_, .ptr _ _ g m hm⟩
        simp [Instr.indexAt, asIntOf, Instr.sureAddr, ti_und ht, h2, ti_size hti, addr_add]
    · rename_i cs
      split at h
      case h_2 => cases h
      rename_i hle
      cases h
      have hx0 := hx
      cases hx with
      | rop _ g o arr T fr hg hl hr =>
        refine ⟨.pointer (some ⟨g, o + n * i.size, none⟩), ?_, hx0.ropDrop _ (Nat.le_of_ble_eq_true hle)⟩
        simp [Instr.indexAt, asIntOf, Instr.sureAddr, ti_und ht, h2, ti_size hti, addr_add]
    · cases h
  · cases h
/-! elements -/
def idxA (P : Program) (t : TypeId) (x ix : CV) : Option CV := match ix with
  | .int _ j => match natOf j with
    | some n => match ti P t with
      | some ⟨.string, _, _, _⟩ => match x with
        | .str l => match l[n]? with
          | some b => some (.int .u8 b.toNat)
          | none => none
        | _ => none
      | some ⟨.array len e, _, _, _⟩ => match ti P e with
        | some i => match Nat.blt n len with
          | true => match x with
            | .agg cs => partA i cs (n * i.size)
            | _ => none
          | false => none
        | none => none
      | _ => none
    | none => none
  | _ => none
theorem idxA_sound {P : Program} {t : TypeId} {x ix c : CV} {M : Mp} {w : World} {v u : Value} (h : idxA P t x ix = some c) (hx : RV M x v) (hi : RV M ix u) :
    ∃ z, (Instr.index t v u).run P w = .ok z w ∧ RV M c z := by
  unfold idxA at h
  split at h
  case h_2 => cases h
  rename_i kk j
  cases hi
  split at h
  case h_2 => cases h
  rename_i n hn
  have hj := natOf_spec hn
  subst hj
  split at h
  · rename_i ht
    split at h
    · rename_i l
      split at h
      · rename_i b hb
        cases h
        cases hx with
        | str _ s hs =>
          subst hs
          refine ⟨.int .u8 b.toNat, ?_, .int _ _⟩
          obtain ⟨hlt, hbe⟩ := List.getElem?_eq_some_iff.mp hb
          have hsz : n < s.size := by rw [← data_len]; exact hlt
          have e : s[n]? = some b := by
            rw [getElem?_pos s n hsz, ← hbe]; rfl
          simp [Instr.index, asIntOf, ti_und ht, e]
      · cases h
    · cases h
  · rename_i len e _ _ _ ht
    split at h
    case h_2 => cases h
    rename_i i hti
    split at h
    case h_2 => cases h
    rename_i hb
    have h2 := blt_lt hb
    split at h
    · rename_i cs
      cases hx with
      | agg _ vs hl hr =>
        obtain ⟨z, h1, h3⟩ := partA_sound (w := w) hti ⟨hl, hr⟩ h
        exact ⟨z, by simp [Instr.index, asIntOf, ti_und ht, h2, ti_size hti, h1], h3⟩
    · cases h
  · cases h
/-! slices of slices and strings -/
def bnd (x : Option CV) (d : Nat) : Option Nat := match x with
  | none => some d
  | some (.int _ j) => natOf j
  | _ => none
theorem bnd_run {P : Program} {w : World} {M : Mp} {x : Option CV} {v : Option Value} {d n y : Nat} {code : BoundsCode} (h : bnd x d = some n) (hx : ∀ c, x = some c → ∃ u, v = some u ∧ RV M c u) (hn : x = none → v = none) (hy : n ≤ y) :
    (match v with | some u => Instr.sliceBound u y code | none => pure d).run P w = .ok n w := by
  unfold bnd at h
  split at h
  · cases h; rw [hn rfl]; rfl
  · rename_i k j
    obtain ⟨u, hu, hr⟩ := hx _ rfl
    subst hu
    cases hr
    have hj := natOf_spec h
    subst hj
    simp [Instr.sliceBound, asIntOf, hy]
  · cases h
def sliA (P : Program) (H : Heap) (t : TypeId) (x : CV) (lo hi : Option CV) : Option CV := match ti P t with
  | some ⟨.string, _, _, _⟩ => match x with
    | .str l => match bnd lo 0, bnd hi l.length with
      | some a, some b => match Nat.ble a b && Nat.ble b l.length with
        | true => some (.str ((l.drop a).take (b - a)))
        | false => none
      | _, _ => none
    | _ => none
  | some ⟨.slice e, _, _, _⟩ => match ti P e with
    | some i => match x with
      | .lst rows => match bnd lo 0, bnd hi rows.length with
        | some a, some b => match Nat.ble a b && Nat.ble b rows.length with
          | true => match rows.all (fun r => Nat.beq r.length i.size) with
            | true => some (.lst ((rows.drop a).take (b - a)))
            | false => none
          | false => none
        | _, _ => none
      | .nils => match bnd lo 0, bnd hi 0 with
        | some 0, some 0 => some .nils
        | _, _ => none
      | .sl b o n k => match bnd lo 0, bnd hi n with
        | some l, some h => match Nat.ble l h && Nat.ble h n && Nat.beq i.size k with
          | true => match Nat.beq l 0 with
            | true => some (.sl b o h k)
            | false => match Nat.blt l h with
              | true => some (.sl b (o + l * k) (h - l) k)
              | false => some (.lst [])
          | false => none
        | _, _ => none
      | _ => none
    | none => none
  | some ⟨.array len e, _, _, _⟩ => match ti P e with
    | some i => match x, lo, hi with
      | .ptr b o, none, none => match H b with
        | some (.cells cs) => match Nat.ble (o + len * i.size) cs.length with
          | true => some (.sl b o len i.size)
          | false => none
        | _ => none
      | _, _, _ => none
    | none => none
  | _ => none
theorem RV.lstSub {M : Mp} {rows : List (List CV)} {g o n k c a b : Nat} {arr : Array Value} {T : TypeId} {fr : Nat × Nat} (h : M.fz g = some (.cells arr T fr)) (hn : n = rows.length)
    (hk : ∀ r ∈ rows, r.length = k) (hl : o + n * k ≤ arr.size)
    (hr : ∀ i (a : i < rows.length) j (b : j < rows[i].length) (d : o + i * k + j < arr.size), RV M rows[i][j] arr[o + i * k + j]) (hab : a ≤ b) (hb : b ≤ rows.length) (hc : b - a ≤ c) :
    RV M (.lst ((rows.drop a).take (b - a))) (.slice (some ⟨g, o + a * k, none⟩) (b - a) c) := by
  have hmul : a * k + (b - a) * k ≤ n * k := by
    rw [← Nat.add_mul]; exact Nat.mul_le_mul_right _ (by omega)
  refine .lst _ g (o + a * k) (b - a) k c arr T fr h (by simp; omega) hc (fun r hm => hk r (List.mem_of_mem_drop (List.mem_of_mem_take hm))) (by omega) (fun i ai j bj d => ?_)
  have hi : a + i < rows.length := by simp at ai; omega
  have e : ((rows.drop a).take (b - a))[i] = rows[a + i] := by simp
  have bj' : j < rows[a + i].length := by rw [← e]; exact bj
  have := hr (a + i) hi j bj' (by rw [Nat.add_mul]; omega)
  simp only [e]
  have e2 : o + a * k + i * k + j = o + (a + i) * k + j := by rw [Nat.add_mul]; omega
  simpa [e2] using this
theorem sliA_sound {P : Program} {H : Heap} {t : TypeId} {x c : CV} {lo hi : Option CV} {M : Mp} {nx : Nat} {w : World} {v : Value} {lo' hi' : Option Value} (h : sliA P H t x lo hi = some c) (r : Rep M H nx w) (hx : RV M x v)
    (hl : ∀ c, lo = some c → ∃ u, lo' = some u ∧ RV M c u) (hln : lo = none → lo' = none) (hh : ∀ c, hi = some c → ∃ u, hi' = some u ∧ RV M c u) (hhn : hi = none → hi' = none) :
    ∃ z, (Instr.sliceAt t v lo' hi' none).run P w = .ok z w ∧ RV M c z := by
  have bnds : ∀ (isS : Bool) (len cap a b : Nat), bnd lo 0 = some a → bnd hi len = some b → a ≤ b → b ≤ cap → (Instr.sliceBounds isS len cap lo' hi' none).run P w = .ok (a, b, cap) w := by
    intro isS len cap a b h1 h2 h3 h4
    have e1 := bnd_run (P := P) (w := w) (code := if isS then .sliceAcap else .sliceAlen) h2 hh hhn h4
    have e2 := bnd_run (P := P) (w := w) (code := .sliceB) h1 hl hln h3
    unfold Instr.sliceBounds
    simp only [Sem.run_bind, Sem.run_pure, Result.andThen_ok, Option.isSome_none, Bool.false_eq_true, if_false]
    cases hi' with
    | none =>
      simp only [Sem.run_pure, Result.ok.injEq, and_true] at e1
      subst e1
      cases lo' with
      | none => simp only [Sem.run_pure, Result.ok.injEq, and_true] at e2; subst e2; simp
      | some l => simp only at e2; simp [e2]
    | some u =>
      simp only at e1
      cases lo' with
      | none => simp only [Sem.run_pure, Result.ok.injEq, and_true] at e2; subst e2; simp [e1]
      | some l => simp only at e2; simp [e1, e2]
  unfold sliA at h
  split at h
  · rename_i ht
    split at h
    case h_2 => cases h
    rename_i l
    split at h
    case h_2 => cases h
    rename_i a b ha hb
    split at h
    case h_2 => cases h
    rename_i hc
    cases h
    simp only [Bool.and_eq_true] at hc
    have h1 := Nat.le_of_ble_eq_true hc.1
    have h2 := Nat.le_of_ble_eq_true hc.2
    cases hx with
    | str _ s hs =>
      subst hs
      have hsz : s.data.toList.length = s.size := data_len s
      rw [hsz] at hb h2
      refine ⟨.string (s.extract a b), ?_, .str _ _ ?_⟩
      · simp [Instr.sliceAt, Instr.slice, ti_und ht, bnds false _ _ a b ha hb h1 h2]
      · exact Lib.extract_data s a b
  · rename_i e _ _ _ ht
    split at h
    case h_2 => cases h
    rename_i i hti
    split at h
    · rename_i rows
      split at h
      case h_2 => cases h
      rename_i a b ha hb
      split at h
      case h_2 => cases h
      rename_i hc
      split at h
      case h_2 => cases h
      rename_i hall
      cases h
      simp only [Bool.and_eq_true] at hc
      have h1 := Nat.le_of_ble_eq_true hc.1
      have h2 := Nat.le_of_ble_eq_true hc.2
      cases hx with
      | lst0 ad cp =>
        simp at h2; subst h2; simp at h1; subst h1
        refine ⟨_, by simp [Instr.sliceAt, Instr.slice, ti_und ht, bnds true 0 cp 0 0 ha hb (by omega) (by omega), ti_size hti]; rfl, ?_⟩
        simpa using RV.lst0 _ _
      | lst _ g o n k cp arr T fr hg hn hcp hk hll hrr =>
        subst hn
        by_cases hz : cp = a
        · subst hz
          have hab : b = cp := by omega
          subst hab
          refine ⟨_, by simp [Instr.sliceAt, Instr.slice, ti_und ht, bnds true rows.length b b b ha hb (by omega) (by omega), ti_size hti]; rfl, ?_⟩
          simpa using RV.lst0 _ _
        · refine ⟨_, by simp [Instr.sliceAt, Instr.slice, ti_und ht, bnds true rows.length cp a b ha hb (by omega) (by omega), ti_size hti, hz, addr_add]; rfl, ?_⟩
          by_cases hemp : rows = []
          · subst hemp
            simp at h2
            subst h2
            simp at h1; subst h1
            simpa using RV.lst0 _ _
          · have hks : i.size = k := by
              obtain ⟨r0, hr0⟩ := List.exists_mem_of_ne_nil _ hemp
              rw [← beq_eq (List.all_eq_true.mp hall r0 hr0)]; exact hk r0 hr0
            rw [hks]
            exact RV.lstSub hg rfl hk hll hrr h1 h2 (by omega)
    · split at h
      · rename_i ha hb
        cases h
        cases hx with
        | nils => exact ⟨_, by simp [Instr.sliceAt, Instr.slice, ti_und ht, bnds true 0 0 0 0 ha hb (by omega) (by omega), ti_size hti], .nils⟩
      · cases h
    · rename_i b o n k
      split at h
      case h_2 => cases h
      rename_i l hh' ha hb
      split at h
      case h_2 => cases h
      rename_i hc
      simp only [Bool.and_eq_true] at hc
      have h1 := Nat.le_of_ble_eq_true hc.1.1
      have h2 := Nat.le_of_ble_eq_true hc.1.2
      have h3 := beq_eq hc.2
      cases hx with
      | sl _ _ _ _ g m cp hm hn hm' =>
        have e := bnds true n cp l hh' ha hb h1 (by omega)
        split at h
        · rename_i hz
          have hz' := beq_eq hz
          subst hz'
          cases h
          refine ⟨.slice (some ⟨g, o, none⟩) hh' cp, ?_, .sl _ _ _ _ g m cp hm (by omega) hm'⟩
          simp [Instr.sliceAt, Instr.slice, ti_und ht, e, ti_size hti, addr_add]
        · split at h
          · rename_i hlt
            have hlt' := blt_lt hlt
            cases h
            have hmul : l * k + (cp - l) * k ≤ cp * k := by rw [← Nat.add_mul]; exact Nat.mul_le_mul_right _ (by omega)
            refine ⟨.slice (some ⟨g, o + l * k, none⟩) (hh' - l) (cp - l), ?_, .sl _ _ _ _ g m (cp - l) hm (by omega) (by omega)⟩
            have hne : cp ≠ l := by omega
            simp [Instr.sliceAt, Instr.slice, ti_und ht, e, ti_size hti, hne, h3, addr_add]
          · rename_i hlt
            cases h
            have hle : hh' - l = 0 := by
              have : ¬ l < hh' := fun hx => by rw [lt_blt hx] at hlt; cases hlt
              omega
            refine ⟨_, by simp [Instr.sliceAt, Instr.slice, ti_und ht, e, ti_size hti]; rfl, ?_⟩
            rw [hle]; exact .lst0 _ _
    · cases h
  · rename_i len e _ _ _ ht
    split at h
    case h_2 => cases h
    rename_i i hti
    split at h
    case h_2 => cases h
    rename_i b o
    split at h
    case h_2 => cases h
    rename_i cs hb
    split at h
    case h_2 => cases h
    rename_i hle
    cases h
    have hle' := Nat.le_of_ble_eq_true hle
    cases hx with
    | ptr _ _ g m hm =>
      obtain ⟨g', m', hm', arr, T, ha, hs, hr⟩ := r.blk b _ hb
      rw [hm] at hm'; cases hm'
      have hlen : cs.length ≤ m := by have := hr.1; simp at this; omega
      refine ⟨.slice (some ⟨g, o, none⟩) len len, ?_, .sl _ _ _ _ g m len hm (by omega) (by omega)⟩
      have e1 := hln rfl
      have e2 := hhn rfl
      subst e1; subst e2
      simp [Instr.sliceAt, ti_und ht, Instr.sureAddr, Instr.sliceBounds, ti_size hti, Addr.add]
  · cases h
end Ax
end Go.Proofs.YtdjllogimomgmaaGreatDoor
namespace Go.Proofs.YtdjllogimomgmaaGreatDoor
namespace Ax
/-! equality -/
def scalD : TypeDesc → CV → CV → Option Bool
  | .int _, .int k a, .int k' b => match decEq k k' with
    | isTrue _ => some (a == b)
    | isFalse _ => none
  | .string, .str a, .str b => some (a == b)
  | .bool, .bool a, .bool b => some (a == b)
  | _, _, _ => none
theorem bytes_beq_data (a b : ByteArray) : (a == b) = (a.data.toList == b.data.toList) := by
  rw [beq_toListBytes, ByteArray.toList_eq, ByteArray.toList_eq]
theorem scalD_equalIn {P : Program} {M : Mp} {t : TypeId} {d : TypeDesc} {x y : CV} {v u : Value} {b : Bool} {w : World} (ht : P.underlying t = some d) (h : scalD d x y = some b) (hx : RV M x v) (hy : RV M y u) (n : Nat) :
    (Op.equalIn (n + 1) t v u).run P w = .ok b w := by
  unfold scalD at h
  split at h
  · split at h
    · rename_i e _; subst e; cases h; cases hx; cases hy; simp [Op.equalIn, run_underlying ht]
    · cases h
  · cases h
    cases hx with
    | str _ s hs => cases hy with
      | str _ s' hs' => subst hs; subst hs'; simp [Op.equalIn, run_underlying ht, bytes_beq_data]
  · cases h; cases hx; cases hy; simp [Op.equalIn, run_underlying ht]
  · cases h
theorem scalD_sameNow {M : Mp} {d : TypeDesc} {x y : CV} {v u : Value} {b : Bool} (h : scalD d x y = some b) (hx : RV M x v) (hy : RV M y u) : Instr.sameNow d v u = some b := by
  unfold scalD at h
  split at h
  · split at h
    · rename_i e _; subst e; cases h; cases hx; cases hy; simp [Instr.sameNow]
    · cases h
  · cases h
    cases hx with
    | str _ s hs => cases hy with
      | str _ s' hs' => subst hs; subst hs'; simp [Instr.sameNow, bytes_beq_data]
  · cases h; cases hx; cases hy; simp [Instr.sameNow]
  · cases h
theorem scalD_scal {d : TypeDesc} {x y : CV} {b : Bool} (h : scalD d x y = some b) : isAggD d = false := by
  unfold scalD at h
  split at h <;> first | rfl | cases h
def eqFs (P : Program) : List Field → List CV → List CV → Option Bool
  | [], _, _ => some true
  | f :: fs, xs, ys => match f.name == "_" with
    | true => none
    | false => match ti P f.type with
      | some i => match xs[f.offset]?, ys[f.offset]? with
        | some x, some y => match scalD i.und x y, eqFs P fs xs ys with
          | some a, some b => some (a && b)
          | _, _ => none
        | _, _ => none
      | none => none
theorem part_one {P : Program} {M : Mp} {t : TypeId} {i : TI} {cs : List CV} {vs : List Value} {off : Nat} {c : CV} {w : World} (ht : ti P t = some i) (ha : isAggD i.und = false) (hr : RVs M cs vs) (h : cs[off]? = some c) :
    ∃ u, (part t vs.toArray off).run P w = .ok u w ∧ RV M c u := by
  obtain ⟨v, hv, hrv⟩ := hr.at' h
  exact ⟨v, by simp [part, ti_agg ht, ha, hv], hrv⟩
theorem eqFs_sound {P : Program} {M : Mp} {w : World} {xs ys : List CV} {vs us : List Value} (hx : RVs M xs vs) (hy : RVs M ys us) (n : Nat) : ∀ (fs : List Field) (b : Bool), eqFs P fs xs ys = some b → (Op.eqFields (n + 1) vs.toArray us.toArray fs).run P w = .ok b w
  | [], b, h => by cases h; simp [Op.eqFields]
  | f :: fs, b, h => by
    unfold eqFs at h
    split at h
    · cases h
    · rename_i hn
      split at h
      · rename_i i hti
        split at h
        · rename_i x y h1 h2
          split at h
          · rename_i a b' h3 h4
            cases h
            have ha := scalD_scal h3
            obtain ⟨v1, r1, e1⟩ := part_one (w := w) hti ha hx h1
            obtain ⟨v2, r2, e2⟩ := part_one (w := w) hti ha hy h2
            have h5 := scalD_equalIn (w := w) (ti_spec hti).1 h3 e1 e2 n
            have ih := eqFs_sound (w := w) hx hy n fs b' h4
            have hn' : f.name ≠ "_" := by simpa using hn
            cases a <;> simp [Op.eqFields, hn', r1, r2, h5, ih]
          · cases h
        · cases h
      · cases h
def eqIs (i : TI) : List Nat → List CV → List CV → Option Bool
  | [], _, _ => some true
  | j :: js, xs, ys => match xs[j]?, ys[j]? with
    | some x, some y => match scalD i.und x y, eqIs i js xs ys with
      | some a, some b => some (a && b)
      | _, _ => none
    | _, _ => none
theorem eqIs_sound {P : Program} {M : Mp} {w : World} {e : TypeId} {i : TI} (hti : ti P e = some i) {xs ys : List CV} {vs us : List Value} (hx : RVs M xs vs) (hy : RVs M ys us) (n : Nat) : ∀ (js : List Nat) (b : Bool), eqIs i js xs ys = some b → (Op.eqItems (n + 1) e 1 vs.toArray us.toArray js).run P w = .ok b w
  | [], b, h => by cases h; simp [Op.eqItems]
  | j :: js, b, h => by
    unfold eqIs at h
    split at h
    · rename_i x y h1 h2
      split at h
      · rename_i a b' h3 h4
        cases h
        have ha := scalD_scal h3
        obtain ⟨v1, r1, e1⟩ := part_one (w := w) hti ha hx h1
        obtain ⟨v2, r2, e2⟩ := part_one (w := w) hti ha hy h2
        have h5 := scalD_equalIn (w := w) (ti_spec hti).1 h3 e1 e2 n
        have ih := eqIs_sound (w := w) hti hx hy n js b' h4
        cases a <;> simp [Op.eqItems, r1, r2, h5, ih]
      · cases h
    · cases h
def eqA (P : Program) (t : TypeId) (x y : CV) : Option Bool := match ti P t with
  | none => none
  | some i => match i.und with
    | .struct fs => match x, y with
      | .agg xs, .agg ys => match P.stoodInHeld t || P.eqGuardType P.depth t with
        | true => none
        | false => eqFs P fs.toList xs ys
      | _, _ => none
    | .array n e => match x, y with
      | .agg xs, .agg ys => match P.eqGuardType P.depth t with
        | true => none
        | false => match ti P e with
          | some j => match Nat.beq j.size 1 with
            | true => eqIs j (List.range n) xs ys
            | false => none
          | none => none
      | _, _ => none
    | .bool => match x, y with
      | .bool a, .bool b => some (a == b)
      | _, _ => none
    | .pointer _ => match x, y with
      | .nilp, .nilp => some true
      | .nilp, .ptr _ _ => some false
      | .nilp, .rop _ => some false
      | .ptr _ _, .nilp => some false
      | .rop _, .nilp => some false
      | _, _ => none
    | .slice _ => match x, y with
      | .nils, .nils => some true
      | .sl _ _ _ _, .nils => some false
      | .lst (_ :: _), .nils => some false
      | _, _ => none
    | _ => none
theorem eqGuard_plain {P : Program} {M : Mp} {w : World} {op : BinOp} {t : TypeId} {xo yo : Operand} {x y : CV} {v u : Value} {b : Bool} (h : eqA P t x y = some b) (hx : RV M x v) (hy : RV M y u) :
    (eqGuard op t xo yo v u).run P w = .ok () w := by
  unfold eqA at h
  split at h
  · cases h
  · rename_i i hti
    split at h
    · split at h
      · rename_i xs ys
        split at h
        · cases h
        · rename_i hb
          simp only [Bool.or_eq_false_iff] at hb
          cases hx with
          | agg => cases hy with
            | agg => exact run_eqGuard_agg w op t xo yo _ _ hb.2
      · cases h
    · split at h
      · split at h
        · cases h
        · rename_i hb
          cases hx with
          | agg => cases hy with
            | agg => exact run_eqGuard_agg w op t xo yo _ _ hb
      · cases h
    · split at h
      · cases hx; cases hy; cases op <;> simp [eqGuard]
      · cases h
    · split at h <;> first | (cases h; done) | (cases hx <;> cases hy <;> cases op <;> simp [eqGuard])
    · split at h <;> first | (cases h; done) | (cases hx <;> cases hy <;> cases op <;> simp [eqGuard])
    · cases h
section nils
variable {P : Program} {w : World} {t e : TypeId} (N : Nat)
theorem eqp1 (hu : P.underlying t = some (.pointer e)) (a : Option Addr) : (Op.equalIn (N + 1) t (.pointer none) (.pointer a)).run P w = .ok a.isNone w := by
  unfold Op.equalIn; simp only [Sem.run_bind, run_underlying hu, Result.andThen_ok, Sem.run_pure]
theorem eqp2 (hu : P.underlying t = some (.pointer e)) (a : Addr) : (Op.equalIn (N + 1) t (.pointer (some a)) (.pointer none)).run P w = .ok false w := by
  unfold Op.equalIn; simp only [Sem.run_bind, run_underlying hu, Result.andThen_ok, Sem.run_pure]
theorem eqs1 (hu : P.underlying t = some (.slice e)) (a : Option Addr) (n c n' c' : Nat) : (Op.equalIn (N + 1) t (.slice none n c) (.slice a n' c')).run P w = .ok a.isNone w := by
  unfold Op.equalIn; simp only [Sem.run_bind, run_underlying hu, Result.andThen_ok, Sem.run_pure]
theorem eqs2 (hu : P.underlying t = some (.slice e)) (a : Addr) (n c n' c' : Nat) : (Op.equalIn (N + 1) t (.slice (some a) n c) (.slice none n' c')).run P w = .ok false w := by
  unfold Op.equalIn; simp only [Sem.run_bind, run_underlying hu, Result.andThen_ok, Sem.run_pure]
end nils
theorem eqA_sound' {P : Program} {M : Mp} {w : World} {t : TypeId} {x y : CV} {v u : Value} {b : Bool} (h : eqA P t x y = some b) (hx : RV M x v) (hy : RV M y u) (N : Nat) :
    (Op.equalIn (N + 2) t v u).run P w = .ok b w := by
  unfold eqA at h
  split at h
  · cases h
  · rename_i i hti
    obtain ⟨hu, f, hf, _⟩ := ti_spec hti
    split at h
    · rename_i fs hfs
      rw [hfs] at hu
      split at h
      · rename_i xs ys
        split at h
        · cases h
        · rename_i hb
          simp only [Bool.or_eq_false_iff] at hb
          cases hx with
          | agg _ vs hl hr => cases hy with
            | agg _ us hl' hr' =>
              have e : P.fieldsOf t = fs := by simp [Program.fieldsOf, hu]
              have := run_equalIn_struct (P := P) w (N + 1) t vs.toArray us.toArray (by rw [e]; exact hu) hb.1
              rw [this, e]
              exact eqFs_sound ⟨hl, hr⟩ ⟨hl', hr'⟩ N _ _ h
      · cases h
    · rename_i n e he
      rw [he] at hu
      split at h
      · rename_i xs ys
        split at h
        · cases h
        · split at h
          · rename_i j hj
            split at h
            · rename_i hs
              obtain ⟨hu', f', hf', hs', _⟩ := ti_spec hj
              cases hx with
              | agg _ vs hl hr => cases hy with
                | agg _ us hl' hr' =>
                  have := run_equalIn_array (P := P) w (N + 1) vs.toArray us.toArray hu hf'
                  have hc : P.cellsOf e = 1 := by simp [Program.cellsOf, hf', hs', beq_eq hs]
                  rw [hc] at this
                  rw [this]
                  exact eqIs_sound hj ⟨hl, hr⟩ ⟨hl', hr'⟩ N _ _ h
            · cases h
          · cases h
      · cases h
    · rename_i hbl
      rw [hbl] at hu
      split at h
      · cases h; cases hx; cases hy; simp [Op.equalIn, run_underlying hu]
      · cases h
    · rename_i e he
      rw [he] at hu
      split at h <;> first | (cases h; done) | (cases h; cases hx; cases hy; first | exact eqp1 _ hu _ | exact eqp2 _ hu _)
    · rename_i e he
      rw [he] at hu
      split at h <;> first | (cases h; done) | (cases h; cases hx; cases hy; first | exact eqs1 _ hu _ _ _ _ _ | exact eqs2 _ hu _ _ _ _ _)
    · cases h
theorem eqA_sound {P : Program} {M : Mp} {w : World} {t : TypeId} {x y : CV} {v u : Value} {b : Bool} (h : eqA P t x y = some b) (hx : RV M x v) (hy : RV M y u) :
    (Op.equal t v u).run P w = .ok b w := eqA_sound' h hx hy 9998
/-! operators -/
def intA (op : BinOp) (k : IntKind) (a b : Int) : Option CV := match op with
  | .add => some (.int k (k.wrap (a + b)))
  | .sub => some (.int k (k.wrap (a - b)))
  | .mul => some (.int k (k.wrap (a * b)))
  | .eql => some (.bool (a == b))
  | .neq => some (.bool (a != b))
  | .lss => some (.bool (decide (a < b)))
  | .leq => some (.bool (decide (a ≤ b)))
  | .gtr => some (.bool (decide (a > b)))
  | .geq => some (.bool (decide (a ≥ b)))
  | .quo => match decEq b 0 with
    | isTrue _ => none
    | isFalse _ => some (.int k (k.wrap (a.tdiv b)))
  | .rem => match decEq b 0 with
    | isTrue _ => none
    | isFalse _ => some (.int k (a.tmod b))
  | _ => none
def strA (op : BinOp) (a b : List UInt8) : Option CV := match op with
  | .add => match Nat.ble (a.length + b.length) 9223372036854775807 with
    | true => some (.str (a ++ b))
    | false => none
  | .eql => some (.bool (a == b))
  | .neq => some (.bool (!(a == b)))
  | .lss => some (.bool (Op.bytesLess a b))
  | .leq => some (.bool (Op.bytesLess a b || a == b))
  | .gtr => some (.bool (!(Op.bytesLess a b || a == b)))
  | .geq => some (.bool (!Op.bytesLess a b))
  | _ => none
def binA (P : Program) (op : BinOp) (t : TypeId) (x y : CV) : Option CV := match x, y with
  | .int k a, .int k' b => match decEq k k' with
    | isTrue _ => intA op k a b
    | isFalse _ => none
  | .str a, .str b => strA op a b
  | _, _ => match op with
    | .eql => match eqA P t x y with
      | some b => some (.bool b)
      | none => none
    | .neq => match eqA P t x y with
      | some b => some (.bool (!b))
      | none => none
    | _ => none
theorem intA_sound {P : Program} {M : Mp} {w : World} {op : BinOp} {t : TypeId} {xo yo : Operand} {k : IntKind} {a b : Int} {c : CV} (h : intA op k a b = some c) :
    ∃ z, (do eqGuard op t xo yo (.int k a) (.int k b); binOp op t (.int k a) (.int k b) : Sem Value).run P w = .ok z w ∧ RV M c z := by
  cases op <;> simp only [intA] at h <;> first
    | (cases h; done)
    | (cases h; refine ⟨_, ?_, .int _ _⟩; simp [eqGuard, binOp, Op.intArith, Op.intCmp]; done)
    | (cases h; refine ⟨_, ?_, .bool _⟩; simp [eqGuard, binOp, Op.intArith, Op.intCmp]; done)
    | (split at h
       · cases h
       · rename_i hb _; cases h; refine ⟨_, ?_, .int _ _⟩; simp [eqGuard, binOp, Op.intDiv, hb])
theorem strA_sound {P : Program} {M : Mp} {w : World} {op : BinOp} {t : TypeId} {xo yo : Operand} {a b : ByteArray} {c : CV} (h : strA op a.data.toList b.data.toList = some c) :
    ∃ z, (do eqGuard op t xo yo (.string a) (.string b); binOp op t (.string a) (.string b) : Sem Value).run P w = .ok z w ∧ RV M c z := by
  cases op
  case add =>
    simp only [strA] at h
    split at h
    · rename_i hb
      cases h
      have hb' := Nat.le_of_ble_eq_true hb
      rw [data_len, data_len] at hb'
      refine ⟨.string (a ++ b), ?_, .str _ _ (by simp)⟩
      have e : ¬ ((9223372036854775807 : Int) < (a.size : Int) + (b.size : Int)) := by omega
      simp [eqGuard, binOp, Op.stringOp, IntKind.max, IntKind.bits, IntKind.signed, e]
    · cases h
  all_goals simp only [strA] at h
  all_goals first
    | (cases h; done)
    | (cases h; refine ⟨_, ?_, .bool _⟩; simp [eqGuard, binOp, Op.stringOp, ByteArray.toList_eq])
theorem binA_sound {P : Program} {M : Mp} {w : World} {op : BinOp} {t : TypeId} {xo yo : Operand} {x y c : CV} {v u : Value} (h : binA P op t x y = some c) (hx : RV M x v) (hy : RV M y u) :
    ∃ z, (do eqGuard op t xo yo v u; binOp op t v u : Sem Value).run P w = .ok z w ∧ RV M c z := by
  unfold binA at h
  split at h
  · split at h
    · rename_i e _; subst e; cases hx; cases hy; exact intA_sound h
    · cases h
  · cases hx with
    | str _ s hs => cases hy with
      | str _ s' hs' => subst hs; subst hs'; exact strA_sound h
  · rename_i hni hns
    have key : ∀ b, eqA P t x y = some b → (binOp .eql t v u).run P w = .ok (.bool b) w ∧ (binOp .neq t v u).run P w = .ok (.bool (!b)) w := by
      intro b hb
      have e := eqA_sound (w := w) hb hx hy
      have hxa : x = .any → False := by intro e; subst e; unfold eqA at hb; (repeat' split at hb) <;> simp_all
      have hya : y = .any → False := by intro e; subst e; unfold eqA at hb; (repeat' split at hb) <;> simp_all
      have hxo : ∀ g c, x = .opt g c → False := by intro g c e; subst e; unfold eqA at hb; (repeat' split at hb) <;> simp_all
      have hyo : ∀ g c, y = .opt g c → False := by intro g c e; subst e; unfold eqA at hb; (repeat' split at hb) <;> simp_all
      have h1 : ∀ k a k' b, ¬ (v = .int k a ∧ u = .int k' b) := by
        rintro k a k' b ⟨rfl, rfl⟩
        cases hx with
        | any => exact hxa rfl
        | opt => exact hxo _ _ rfl
        | int => cases hy with
          | any => exact hya rfl
          | opt => exact hyo _ _ rfl
          | int => exact hni _ _ _ _ rfl rfl
      have h2 : ∀ a b, ¬ (v = .string a ∧ u = .string b) := by
        rintro a b ⟨rfl, rfl⟩
        cases hx with
        | any => exact hxa rfl
        | opt => exact hxo _ _ rfl
        | str => cases hy with
          | any => exact hya rfl
          | opt => exact hyo _ _ rfl
          | str => exact hns _ _ rfl rfl
      have h3 : ∀ k a, v ≠ .float k a := by
        rintro k a rfl; cases hx with | any => exact hxa rfl | opt => exact hxo _ _ rfl
      have h4 : ∀ k a b, v ≠ .complex k a b := by
        rintro k a b rfl; cases hx with | any => exact hxa rfl | opt => exact hxo _ _ rfl
      constructor
      · cases v <;> first
          | exact absurd rfl (h3 _ _)
          | exact absurd rfl (h4 _ _ _)
          | (cases u <;> first
              | exact absurd ⟨rfl, rfl⟩ (h1 _ _ _ _)
              | exact absurd ⟨rfl, rfl⟩ (h2 _ _)
              | simp [binOp, e])
      · cases v <;> first
          | exact absurd rfl (h3 _ _)
          | exact absurd rfl (h4 _ _ _)
          | (cases u <;> first
              | exact absurd ⟨rfl, rfl⟩ (h1 _ _ _ _)
              | exact absurd ⟨rfl, rfl⟩ (h2 _ _)
              | simp [binOp, e])
    split at h
    · split at h
      · rename_i b hb
        cases h
        have g := eqGuard_plain (w := w) (op := .eql) (xo := xo) (yo := yo) hb hx hy
        exact ⟨.bool b, by simp [g, (key b hb).1], .bool _⟩
      · cases h
    · split at h
      · rename_i b hb
        cases h
        have g := eqGuard_plain (w := w) (op := .neq) (xo := xo) (yo := yo) hb hx hy
        exact ⟨.bool (!b), by simp [g, (key b hb).2], .bool _⟩
      · cases h
    · cases h
def unA (op : UnOp) (x : CV) : Option CV := match op, x with
  | .not, .bool b => some (.bool (!b))
  | .neg, .int k n => some (.int k (k.wrap (0 - n)))
  | _, _ => none
theorem unA_sound {P : Program} {M : Mp} {w : World} {op : UnOp} {x c : CV} {v : Value} (h : unA op x = some c) (hx : RV M x v) : ∃ z, (Op.unary op v).run P w = .ok z w ∧ RV M c z := by
  unfold unA at h
  split at h
  · cases h; cases hx; refine ⟨_, ?_, .bool _⟩; simp [Op.unary]
  · cases h; cases hx; refine ⟨_, ?_, .int _ _⟩; simp [Op.unary, Op.intArith]
  · cases h
/-! conversions -/
def bytesOf : List CV → Option (List UInt8)
  | [] => some []
  | .int .u8 (.ofNat n) :: cs => match bytesOf cs with
    | some l => some (UInt8.ofNat n :: l)
    | none => none
  | _ => none
theorem bytesOf_sound {M : Mp} : ∀ {cs : List CV} {vs : List Value} {l : List UInt8}, bytesOf cs = some l → RVs M cs vs → ∃ ns : List Int, vs = ns.map (Value.int .u8) ∧ ∀ s : ByteArray, (ns.foldl (fun r n => r.push (UInt8.ofNat n.toNat)) s).data.toList = s.data.toList ++ l
  | [], vs, l, h, hr => by cases h; rw [hr.nil_inv]; exact ⟨[], rfl, fun s => by simp⟩
  | c :: cs, vs, l, h, hr => by
    obtain ⟨v, vs', rfl, h1, h2⟩ := hr.cons_inv
    unfold bytesOf at h
    split at h
    · rename_i heq; cases heq
    · rename_i n cs' heq
      cases heq
      split at h
      · rename_i l' hl'
        cases h
        cases h1
        obtain ⟨ns, e, hs⟩ := bytesOf_sound hl' h2
        subst e
        refine ⟨(n : Int) :: ns, rfl, fun s => ?_⟩
        simp only [List.foldl_cons]
        rw [hs]
        simp [ByteArray.push]
      · cases h
    · cases h
def convA (P : Program) (H : Heap) (s d : TypeId) (x : CV) : Option CV := match ti P s with
  | some is => match ti P d with
    | some id => match id.und with
      | .int k => match x with
        | .int _ n => some (.int k (k.wrap n))
        | _ => none
      | .string => match x with
        | .str l => some (.str l)
        | .nils => match is.und with
          | .slice e => match ti P e with
            | some ⟨.int .u8, _, _, _⟩ => some (.str [])
            | _ => none
          | _ => none
        | .sl b o n k => match is.und with
          | .slice e => match ti P e with
            | some ⟨.int .u8, _, _, _⟩ => match H b with
              | some (.cells cs) => match Nat.ble (o + n) cs.length && Nat.beq k 1 with
                | true => (bytesOf ((cs.drop o).take n)).map .str
                | false => none
              | _ => none
            | _ => none
          | _ => none
        | _ => none
      | _ => none
    | none => none
  | none => none
theorem convA_sound {P : Program} {H : Heap} {M : Mp} {nx : Nat} {w : World} {s d : TypeId} {x c : CV} {v : Value} (h : convA P H s d x = some c) (r : Rep M H nx w) (hx : RV M x v) :
    ∃ z, (convert s d v).run P w = .ok z w ∧ RV M c z := by
  unfold convA at h
  split at h
  case h_2 => cases h
  rename_i is his
  split at h
  case h_2 => cases h
  rename_i id hid
  split at h
  · rename_i k hk
    split at h
    · cases h; cases hx
      refine ⟨_, ?_, .int _ _⟩
      simp [convert, ti_und his, ti_und hid, hk, Conv.intToInt]
    · cases h
  · rename_i hk
    split at h
    · rename_i l
      cases h
      cases hx with
      | str _ s' hs =>
        refine ⟨.string s', ?_, .str _ _ hs⟩
        simp [convert, ti_und his, ti_und hid, hk]
    · split at h
      · rename_i e he
        split at h
        · rename_i hte
          cases h; cases hx
          refine ⟨.string .empty, ?_, .str _ _ rfl⟩
          rw [run_convert_bytes_string w s d e none 0 0 (by rw [(ti_spec his).1, he]) (ti_spec hte).1 (by rw [(ti_spec hid).1, hk])]
          simp [Conv.bytesToString]
        · cases h
      · cases h
    · rename_i b o n k
      split at h
      · rename_i e he
        split at h
        · rename_i hte
          split at h
          · rename_i cs hb
            split at h
            · rename_i hle
              simp only [Bool.and_eq_true] at hle
              have h1 := Nat.le_of_ble_eq_true hle.1
              cases hbo : bytesOf ((cs.drop o).take n) with
              | none => simp [hbo] at h
              | some l =>
                simp [hbo] at h
                subst h
                cases hx with
                | sl _ _ _ _ g m cp hm hn hm' =>
                  obtain ⟨g', m', hm'', arr, T, ha, hs, hr⟩ := r.blk b _ hb
                  rw [hm] at hm''; cases hm''
                  have hlen : cs.length ≤ arr.size := by have := hr.1; simp at this; omega
                  have hrs : RVs M ((cs.drop o).take n) ((arr.toList.drop o).take n) := by
                    have := (hr.drop o).take n
                    rw [List.drop_take, List.take_take, Nat.min_eq_left (by omega)] at this
                    exact this
                  obtain ⟨ns, e1, e2⟩ := bytesOf_sound hbo hrs
                  have hld := run_loadCells_list (P := P) w ⟨g, o, none⟩ ((arr.toList.drop o).take n) (fun j v hj => by
                    rw [cell_at ha]
                    rw [List.getElem?_take] at hj
                    split at hj
                    · simpa using hj
                    · cases hj)
                  have hnl : ((arr.toList.drop o).take n).length = n := by simp; omega
                  rw [hnl, e1] at hld
                  have hb2 := run_bytesToString (P := P) w ⟨g, o, none⟩ n cp ns hld
                  refine ⟨_, ?_, .str _ _ ((e2 .empty).trans (by simp))⟩
                  rw [run_convert_bytes_string w s d e _ n cp (by rw [(ti_spec his).1, he]) (ti_spec hte).1 (by rw [(ti_spec hid).1, hk])]
                  exact hb2
            · cases h
          · cases h
        · cases h
      · cases h
    · cases h
  · cases h
/-! maps -/
def findK (d : TypeDesc) (k : CV) : List CV → Nat → Option (Option Nat)
  | [], _ => some none
  | c :: cs, j => match scalD d k c with
    | some true => some (some j)
    | some false => findK d k cs (j + 1)
    | none => none
theorem findK_sound {M : Mp} {d : TypeDesc} {k : CV} {kv : Value} (hk : RV M k kv) : ∀ {cs : List CV} {es : List MapEntry} {j : Nat} {r : Option Nat}, findK d k cs j = some r → RVs M cs (es.map (·.key)) →
    match r with
    | some q => j ≤ q ∧ ∃ e, es[q - j]? = some e ∧ Instr.findNow d kv es j = some (some (q, e.val)) ∧ Instr.sameNow d kv e.key = some true
    | none => Instr.findNow d kv es j = some none
  | [], es, j, r, h, hr => by
    cases h
    have : es = [] := by simpa using hr.nil_inv
    subst this; rfl
  | c :: cs, es, j, r, h, hr => by
    cases es with
    | nil => have := hr.1; simp at this
    | cons e es =>
      simp only [List.map_cons] at hr
      unfold findK at h
      split at h
      · rename_i hs
        cases h
        have := scalD_sameNow hs hk hr.head
        exact ⟨Nat.le_refl _, e, by simp, by simp [Instr.findNow, this], this⟩
      · rename_i hs
        have hsn := scalD_sameNow hs hk hr.head
        have ih := findK_sound hk h hr.tail
        cases r with
        | none => simpa [Instr.findNow, hsn] using ih
        | some q =>
          obtain ⟨a, e', b1, b2, b3⟩ := ih
          refine ⟨by omega, e', ?_, by simp [Instr.findNow, hsn, b2], b3⟩
          rw [show q - j = (q - (j + 1)) + 1 by omega]
          simpa using b1
      · cases h
def keyD : TypeDesc → CV → Bool
  | .int _, .int _ _ => true
  | .string, .str _ => true
  | .bool, .bool _ => true
  | _, _ => false
theorem keyD_check {P : Program} {M : Mp} {w : World} {t : TypeId} {i : TI} {k : CV} {kv : Value} (ht : ti P t = some i) (h : keyD i.und k = true) (hk : RV M k kv) (e : Bool) (n : Nat) : (Instr.checkKey e (n + 1) t kv).run P w = .ok () w := by
  unfold Instr.checkKey
  simp only [Sem.run_bind, ti_und ht, Result.andThen_ok]
  unfold keyD at h
  split at h <;> first | (rename_i e1; rw [e1]; cases hk; simp) | cases h
def mapOf (H : Heap) : CV → Option (List CV × List CV)
  | .nilm => some ([], [])
  | .fmp ks vs => some (ks, vs)
  | .mp b => match H b with
    | some (.map ks vs) => some (ks, vs)
    | _ => none
  | _ => none
def lookA (P : Program) (H : Heap) (t : TypeId) (x k : CV) (ok : Bool) : Option CV := match ti P t with
  | some ⟨.map kt et, _, _, _⟩ => match ti P kt with
    | some ik => match ti P et with
      | some ie => match mapOf H x with
        | some (ks, vs) => match keyD ik.und k with
          | true => match findK ik.und k ks 0 with
            | some (some q) => match vs[q]? with
              | some v => some (if ok then .tup [v, .bool true] else v)
              | none => none
            | some none => some (if ok then .tup [ofV ie.zero, .bool false] else ofV ie.zero)
            | none => none
          | false => none
        | none => none
      | none => none
    | none => none
  | _ => none
theorem mapOf_sound {H : Heap} {M : Mp} {nx : Nat} {w : World} {x : CV} {v : Value} {ks vs : List CV} (h : mapOf H x = some (ks, vs)) (r : Rep M H nx w) (hx : RV M x v) :
    ∃ es : Array MapEntry, RVs M ks (es.toList.map (·.key)) ∧ RVs M vs (es.toList.map (·.val)) ∧ ((v = .map none ∧ es = #[]) ∨ ∃ g clock, v = .map (some g) ∧ w.heap[g]? = some (.map es clock)) := by
  unfold mapOf at h
  split at h
  · cases h; cases hx; exact ⟨#[], .nil, .nil, .inl ⟨rfl, rfl⟩⟩
  · cases h
    cases hx with
    | fmp _ _ g en clock hg h1 h2 hk hv =>
      exact ⟨en, ⟨by simp [h1], fun j a b => by simpa using hk j a (by simpa using b)⟩, ⟨by simp [h2], fun j a b => by simpa using hv j a (by simpa using b)⟩, .inr ⟨g, clock, rfl, r.fz g _ hg⟩⟩
  · rename_i b
    split at h
    · rename_i ks' vs' hb
      cases h
      cases hx with
      | mp _ g m hm =>
        obtain ⟨g', m', hm', en, clock, ha, hk, hv⟩ := r.blk b _ hb
        rw [hm] at hm'; cases hm'
        exact ⟨en, hk, hv, .inr ⟨g, clock, rfl, ha⟩⟩
    · cases h
  · cases h
theorem lookA_sound {P : Program} {H : Heap} {M : Mp} {nx : Nat} {w : World} {t : TypeId} {x k c : CV} {ok : Bool} {v kv : Value} (h : lookA P H t x k ok = some c) (r : Rep M H nx w) (hx : RV M x v) (hk : RV M k kv) :
    ∃ z, (Instr.lookup t v kv ok).run P w = .ok z w ∧ RV M c z := by
  unfold lookA at h
  split at h
  case h_2 => cases h
  rename_i kt et _ _ _ ht
  split at h
  case h_2 => cases h
  rename_i ik hik
  split at h
  case h_2 => cases h
  rename_i ie hie
  split at h
  case h_2 => cases h
  rename_i ks vs hm
  split at h
  case h_2 => cases h
  rename_i hkd
  obtain ⟨es, hks, hvs, hrun⟩ := mapOf_sound hm r hx
  have hck := keyD_check (w := w) hik hkd hk es.isEmpty 9999
  have fin : ∀ (z : Value) (b : Bool) (cz : CV), RV M cz z → ∃ y, (pure (if ok then .tuple #[z, .bool b] else z) : Sem Value).run P w = .ok y w ∧ RV M (if ok then .tup [cz, .bool b] else cz) y := by
    intro z b cz hz
    cases ok with
    | false => exact ⟨z, rfl, by simpa using hz⟩
    | true =>
      refine ⟨.tuple #[z, .bool b], rfl, ?_⟩
      have := RVs.cons hz (RVs.one (RV.bool (M := M) b))
      exact RV.tup _ _ this.1 this.2
  split at h
  · rename_i q hq
    split at h
    · rename_i cv hcv
      cases h
      obtain ⟨_, e, he, hf, _⟩ := findK_sound hk hq hks
      obtain ⟨z, hz, hrz⟩ := hvs.at' hcv
      have hez : e.val = z := by
        simp only [Nat.sub_zero] at he
        rw [List.getElem?_map, he] at hz
        simpa using hz
      subst hez
      obtain ⟨y, hy, hry⟩ := fin e.val true cv hrz
      refine ⟨y, ?_, hry⟩
      rcases hrun with ⟨e1, e2⟩ | ⟨g, clock, e1, e2⟩
      · subst e2; simp at he
      · subst e1
        simp only [Instr.lookup, Sem.run_bind, ti_und ht, MapKept.run_getObj_map e2, Result.andThen_ok, hck, Instr.findKey, ti_und hik, hf, Sem.run_pure]
        exact hy
    · cases h
  · rename_i hq
    cases h
    have hf := findK_sound hk hq hks
    simp only at hf
    obtain ⟨y, hy, hry⟩ := fin ie.zero false (ofV ie.zero) (RV.ofV M _)
    refine ⟨y, ?_, hry⟩
    rcases hrun with ⟨e1, e2⟩ | ⟨g, clock, e1, e2⟩
    · subst e1; subst e2
      simp only [Instr.lookup, Sem.run_bind, ti_und ht, Result.andThen_ok, hck, Instr.findKey, ti_und hik, hf, Sem.run_pure, ti_zero hie]
      exact hy
    · subst e1
      simp only [Instr.lookup, Sem.run_bind, ti_und ht, MapKept.run_getObj_map e2, Result.andThen_ok, hck, Instr.findKey, ti_und hik, hf, Sem.run_pure, ti_zero hie]
      exact hy
  · cases h
end Ax
end Go.Proofs.YtdjllogimomgmaaGreatDoor
namespace Go.Proofs.YtdjllogimomgmaaGreatDoor
namespace Ax
/-! structs and arrays by their parts -/
def placesA (P : Program) : List Field → Option (List (Nat × Nat))
  | [] => some []
  | f :: fs => match ti P f.type with
    | some i => match placesA P fs with
      | some l => some ((f.offset, i.size) :: l)
      | none => none
    | none => none
theorem placesA_sound {P : Program} : ∀ {fs : List Field} {l : List (Nat × Nat)}, placesA P fs = some l → fs.mapM (fun f => (P.info? f.type).map fun i => (f.offset, i.size)) = some l
  | [], l, h => by cases h; rfl
  | f :: fs, l, h => by
    unfold placesA at h
    split at h
    · rename_i i hi
      split at h
      · rename_i l' hl'
        cases h
        obtain ⟨_, g, hg, hs, _⟩ := ti_spec hi
        simp [List.mapM_cons, hg, placesA_sound hl', hs]
      · cases h
    · cases h
def fillA (place : Nat → Option (Nat × Nat)) (cells : List CV) : List (Nat × CV) → Option (List CV)
  | [] => some cells
  | (i, c) :: rest => match place i with
    | some (off, size) => match c.cs with
      | some l => match Nat.beq l.length size && Nat.ble (off + size) cells.length with
        | true => fillA place (cells.take off ++ l ++ cells.drop (off + size)) rest
        | false => none
      | none => none
    | none => none
theorem foldl_set (off : Nat) : ∀ (vs : List Value) (k : Nat) (arr : Array Value), off + k + vs.length ≤ arr.size →
    ((vs.zipIdx k).foldl (fun cs (c, j) => cs.setIfInBounds (off + j) c) arr).toList = arr.toList.take (off + k) ++ vs ++ arr.toList.drop (off + k + vs.length)
  | [], k, arr, h => by simp
  | v :: vs, k, arr, h => by
    simp only [List.zipIdx_cons, List.foldl_cons]
    simp at h
    rw [foldl_set off vs (k + 1) (arr.setIfInBounds (off + k) v) (by simp; omega)]
    simp only [Array.toList_setIfInBounds, List.length_cons]
    have e1 : (arr.toList.set (off + k) v).take (off + (k + 1)) = arr.toList.take (off + k) ++ [v] := by
      rw [← Nat.add_assoc, List.take_succ_eq_append_getElem (by simp; omega)]
      simp [List.take_set]
      rw [List.set_eq_of_length_le (by simp; omega)]
    have e2 : (arr.toList.set (off + k) v).drop (off + (k + 1) + vs.length) = arr.toList.drop (off + k + (vs.length + 1)) := by
      rw [List.drop_set_of_lt (by omega)]
      congr 1; omega
    rw [e1, e2]; simp
def RParts (M : Mp) (cs : List (Nat × CV)) (vs : List (Nat × Value)) : Prop := cs.map Prod.fst = vs.map Prod.fst ∧ RVs M (cs.map Prod.snd) (vs.map Prod.snd)
theorem fillA_sound {M : Mp} {place : Nat → Option (Nat × Nat)} : ∀ {ps : List (Nat × CV)} {qs : List (Nat × Value)} {cells out : List CV} {arr : Array Value}, fillA place cells ps = some out → RParts M ps qs → RVs M cells arr.toList →
    ∃ arr', Instr.fill place arr qs = some arr' ∧ RVs M out arr'.toList
  | [], qs, cells, out, arr, h, hp, hr => by
    cases h
    have : qs = [] := by simpa using hp.1.symm
    subst this; exact ⟨arr, rfl, hr⟩
  | (i, c) :: ps, qs, cells, out, arr, h, hp, hr => by
    cases qs with
    | nil => have := hp.1; simp at this
    | cons q qs =>
      obtain ⟨i', v⟩ := q
      obtain ⟨h1, h2⟩ := hp
      simp only [List.map_cons, List.cons.injEq] at h1
      obtain ⟨e, h1⟩ := h1
      subst e
      unfold fillA at h
      split at h
      · rename_i off size hpl
        split at h
        · rename_i l hl
          split at h
          · rename_i hb
            simp only [Bool.and_eq_true] at hb
            have hb1 := beq_eq hb.1
            have hb2 := Nat.le_of_ble_eq_true hb.2
            have hv := RV.cs (h2.head) hl
            have hvl : v.cells.size = size := by have := hv.1; simp at this; omega
            have hal : arr.size = cells.length := by have := hr.1; simpa using this
            have hset := foldl_set off v.cells.toList 0 arr (by simp; omega)
            simp only [Nat.add_zero, Array.length_toList] at hset
            have hrs : RVs M (cells.take off ++ l ++ cells.drop (off + size)) ((v.cells.toList.zipIdx.foldl (fun cs (c, j) => cs.setIfInBounds (off + j) c) arr).toList) := by
              rw [hset, hvl]
              exact ((hr.take off).append hv).append (hr.drop (off + size))
            obtain ⟨arr', e1, e2⟩ := fillA_sound h ⟨h1, h2.tail⟩ hrs
            refine ⟨arr', ?_, e2⟩
            unfold Instr.fill
            simp only [hpl]
            have hc : ¬ ((v.cells.size ≠ size) || decide (off + v.cells.size > arr.size)) = true := by
              simp [hvl, hal]; omega
            rw [if_neg hc, ← e1]
            congr 1
            rw [← Array.foldl_toList, Array.toList_zipIdx]
          · cases h
        · cases h
      · cases h
def buildA (P : Program) (t : TypeId) (parts : List (Nat × CV)) : Option CV := match ti P t with
  | some it => match it.und with
    | .struct fs => match placesA P fs.toList with
      | some pl => match (ofV it.zero).cs with
        | some zs => match fillA (fun i => pl[i]?) zs parts with
          | some l => some (.agg l)
          | none => none
        | none => none
      | none => none
    | .array _ e => match ti P e with
      | some ie => match (ofV it.zero).cs with
        | some zs => match fillA (fun i => some (i * ie.size, ie.size)) zs parts with
          | some l => some (.agg l)
          | none => none
        | none => none
      | none => none
    | _ => none
  | none => none
theorem buildA_sound {P : Program} {M : Mp} {w : World} {t : TypeId} {ps : List (Nat × CV)} {qs : Array (Nat × Value)} {c : CV} (h : buildA P t ps = some c) (hp : RParts M ps qs.toList) :
    ∃ z, (Instr.build t qs).run P w = .ok z w ∧ RV M c z := by
  have fin : ∀ {out : List CV} {arr' : Array Value}, RVs M out arr'.toList → RV M (.agg out) (.agg arr') := by
    intro out arr' hr
    have := RV.agg out arr'.toList hr.1 hr.2
    simpa using this
  unfold buildA at h
  split at h
  case h_2 => cases h
  rename_i it hit
  obtain ⟨hu, f, hf, hs, hz, _⟩ := ti_spec hit
  split at h
  · rename_i fs hfs
    rw [hfs] at hu
    split at h
    case h_2 => cases h
    rename_i pl hpl
    split at h
    case h_2 => cases h
    rename_i zs hzs
    split at h
    case h_2 => cases h
    rename_i l hl
    cases h
    obtain ⟨arr', e1, e2⟩ := fillA_sound hl hp ((RV.ofV M it.zero).cs hzs)
    refine ⟨.agg arr', run_build w t qs arr' ?_, fin e2⟩
    unfold Program.built
    have e1' : Instr.fill (fun x => pl.toArray[x]?) it.zero.cells qs.toList = some arr' := by simpa using e1
    simp only [hf, hu, hz, placesA_sound hpl]
    exact e1'
  · rename_i n e he
    rw [he] at hu
    split at h
    case h_2 => cases h
    rename_i ie hie
    split at h
    case h_2 => cases h
    rename_i zs hzs
    split at h
    case h_2 => cases h
    rename_i l hl
    cases h
    obtain ⟨_, f', hf', hs', _⟩ := ti_spec hie
    obtain ⟨arr', e1, e2⟩ := fillA_sound hl hp ((RV.ofV M it.zero).cs hzs)
    refine ⟨.agg arr', run_build w t qs arr' ?_, fin e2⟩
    unfold Program.built
    simp only [hf, hu, hz, hf', hs']
    exact e1
  · cases h
/-! builtins that only look -/
def lenA (P : Program) (H : Heap) (t : TypeId) (x : CV) : Option CV := match ti P t with
  | some i => match i.und with
    | .string => match x with
      | .str l => some (.int .i64 l.length)
      | _ => none
    | .slice _ => match x with
      | .nils => some (.int .i64 0)
      | .sl _ _ n _ => some (.int .i64 n)
      | .lst rows => some (.int .i64 rows.length)
      | _ => none
    | .map _ _ => match mapOf H x with
      | some (ks, _) => some (.int .i64 ks.length)
      | none => none
    | .array n _ => some (.int .i64 n)
    | _ => none
  | none => none
theorem lenA_sound {P : Program} {H : Heap} {M : Mp} {nx : Nat} {w : World} {t ty : TypeId} {x c : CV} {v : Value} (h : lenA P H t x = some c) (r : Rep M H nx w) (hx : RV M x v) :
    ∃ z, (Builtin.len_ #[t] ty #[v]).run P w = .ok z w ∧ RV M c z := by
  unfold lenA at h
  split at h
  case h_2 => cases h
  rename_i i hti
  split at h
  · rename_i hu
    split at h
    · rename_i l
      cases h
      cases hx with
      | str _ s hs =>
        refine ⟨.int .i64 s.size, by simp [Builtin.len_, ti_und hti, hu, goInt], ?_⟩
        rw [← hs, data_len]; exact .int _ _
    · cases h
  · rename_i e hu
    split at h
    · cases h; cases hx; refine ⟨_, ?_, .int _ _⟩; simp [Builtin.len_, ti_und hti, hu, goInt]
    · cases h; cases hx; refine ⟨_, ?_, .int _ _⟩; simp [Builtin.len_, ti_und hti, hu, goInt]
    · rename_i rows
      cases h
      cases hx with
      | lst0 => refine ⟨_, ?_, .int _ _⟩; simp [Builtin.len_, ti_und hti, hu, goInt]
      | lst _ g o n k c arr T fr hg hn => subst hn; refine ⟨_, ?_, .int _ _⟩; simp [Builtin.len_, ti_und hti, hu, goInt]
    · cases h
  · rename_i k e hu
    split at h
    · rename_i ks vs hm
      cases h
      obtain ⟨es, hks, _, hrun⟩ := mapOf_sound hm r hx
      have hl : ks.length = es.size := by have := hks.1; simpa using this.symm
      rcases hrun with ⟨e1, e2⟩ | ⟨g, clock, e1, e2⟩
      · subst e1; subst e2; refine ⟨_, ?_, .int _ _⟩; simp [Builtin.len_, ti_und hti, hu, goInt, hl]
      · subst e1; refine ⟨_, ?_, .int _ _⟩; simp [Builtin.len_, ti_und hti, hu, goInt, hl, MapKept.run_getObj_map e2]
    · cases h
  · rename_i n e hu
    cases h; refine ⟨_, ?_, .int _ _⟩; simp [Builtin.len_, ti_und hti, hu, goInt]
  · cases h
def bltA (P : Program) (H : Heap) (b : Builtin) (ts : List TypeId) (xs : List CV) : Option CV := match b with
  | .len => match ts, xs with
    | [t], [x] => lenA P H t x
    | _, _ => none
  | .max => match xs with
    | [.int k x, .int _ y] => some (.int k (if y > x then y else x))
    | _ => none
  | .min => match xs with
    | [.int k x, .int _ y] => some (.int k (if y < x then y else x))
    | _ => none
  | _ => none
theorem bltA_sound {P : Program} {H : Heap} {M : Mp} {nx : Nat} {w : World} {b : Builtin} {ts : Array TypeId} {ty : TypeId} {cns : Array Bool} {xs : List CV} {vs : Array Value} {c : CV} (h : bltA P H b ts.toList xs = some c) (r : Rep M H nx w) (hx : RVs M xs vs.toList) :
    ∃ z, (builtin b ts ty cns vs).run P w = .ok (.value z) w ∧ RV M c z := by
  unfold bltA at h
  split at h
  · split at h
    · rename_i t x hts
      obtain ⟨v, vs', e1, h1, h2⟩ := hx.cons_inv
      have := h2.nil_inv; subst this
      have ev : vs = #[v] := by apply Array.ext'; simpa using e1
      have et : ts = #[t] := by apply Array.ext'; simpa using hts
      subst ev; subst et
      obtain ⟨z, hz, hr⟩ := lenA_sound (ty := ty) h r h1
      exact ⟨z, by simp [builtin, hz], hr⟩
    · cases h
  · split at h
    · rename_i k x k' y
      cases h
      obtain ⟨v, vs', e1, h1, h2⟩ := hx.cons_inv
      obtain ⟨v2, vs2, e2, h3, h4⟩ := h2.cons_inv
      have := h4.nil_inv; subst this; subst e2
      have ev : vs = #[v, v2] := by apply Array.ext'; simpa using e1
      subst ev
      cases h1; cases h3
      refine ⟨_, ?_, .int _ _⟩
      simp [builtin, Builtin.max_, Builtin.max2]
    · cases h
  · split at h
    · rename_i k x k' y
      cases h
      obtain ⟨v, vs', e1, h1, h2⟩ := hx.cons_inv
      obtain ⟨v2, vs2, e2, h3, h4⟩ := h2.cons_inv
      have := h4.nil_inv; subst this; subst e2
      have ev : vs = #[v, v2] := by apply Array.ext'; simpa using e1
      subst ev
      cases h1; cases h3
      refine ⟨_, ?_, .int _ _⟩
      simp [builtin, Builtin.min_, Builtin.min2]
    · cases h
  · cases h
def ifaceD : TypeDesc → Bool
  | .interface _ => true
  | _ => false
def tasA (P : Program) (x : CV) (xt at' : TypeId) (ok : Bool) : Option CV := match ti P at' with
  | some i => match ifaceD i.und with
    | true => none
    | false => match x with
      | .nili => match ok with
        | true => some (.tup [ofV i.zero, .bool false])
        | false => none
      | .iface t v => match Nat.beq t at' with
        | true => match ok with
          | true => some (.tup [v, .bool true])
          | false => some v
        | false => match ok with
          | true => some (.tup [ofV i.zero, .bool false])
          | false => none
      | _ => none
  | none => none
theorem RV.pair {M : Mp} {c : CV} {v : Value} (h : RV M c v) (b : Bool) : RV M (.tup [c, .bool b]) (.tuple #[v, .bool b]) := by
  have := RVs.cons h (RVs.one (RV.bool (M := M) b))
  exact RV.tup _ _ this.1 this.2
theorem tasA_sound {P : Program} {M : Mp} {w : World} {x c : CV} {xt at' : TypeId} {ok : Bool} {v : Value} (h : tasA P x xt at' ok = some c) (hx : RV M x v) :
    ∃ z, (Instr.typeAssert v xt at' ok).run P w = .ok z w ∧ RV M c z := by
  unfold tasA at h
  split at h
  case h_2 => cases h
  rename_i i hti
  split at h
  · cases h
  · rename_i hi
    have hd : ∀ (A : Array (String × TypeId) → Sem Value) (B : Sem Value), (match i.und with | .interface m => A m | _ => B) = B := by
      intro A B; cases hu : i.und <;> first | rfl | (rw [hu] at hi; simp [ifaceD] at hi)
    split at h
    · split at h
      · cases h; cases hx
        refine ⟨_, ?_, RV.pair (RV.ofV M i.zero) false⟩
        unfold Instr.typeAssert
        simp only [Sem.run_bind, ti_und hti, Result.andThen_ok]
        cases hu : i.und <;> first | (rw [hu] at hi; simp [ifaceD] at hi; done) | simp [ti_zero hti]
      · cases h
    · rename_i t cv
      split at h
      · rename_i hb
        have hb' := beq_eq hb
        subst hb'
        split at h
        · cases h
          cases hx with
          | iface _ _ v hv =>
            refine ⟨_, ?_, RV.pair hv true⟩
            unfold Instr.typeAssert
            simp only [Sem.run_bind, ti_und hti, Result.andThen_ok]
            cases hu : i.und <;> first | (rw [hu] at hi; simp [ifaceD] at hi; done) | simp
        · cases h
          cases hx with
          | iface _ _ v hv =>
            refine ⟨v, ?_, hv⟩
            unfold Instr.typeAssert
            simp only [Sem.run_bind, ti_und hti, Result.andThen_ok]
            cases hu : i.und <;> first | (rw [hu] at hi; simp [ifaceD] at hi; done) | simp
      · rename_i hb
        have hb' : t ≠ at' := fun e => by subst e; rw [Nat.beq_refl] at hb; cases hb
        split at h
        · cases h
          cases hx with
          | iface _ _ v hv =>
            refine ⟨_, ?_, RV.pair (RV.ofV M i.zero) false⟩
            unfold Instr.typeAssert
            simp only [Sem.run_bind, ti_und hti, Result.andThen_ok]
            cases hu : i.und <;> first | (rw [hu] at hi; simp [ifaceD] at hi; done) | simp [ti_zero hti, hb']
        · cases h
    · cases h
/-! one step that only looks -/
def qstep (P : Program) (H : Heap) (ρ : Operand → CV) (op : Op) : Option CV := match op with
  | .move x => some (ρ x)
  | .assign x => some (ρ x)
  | .pick c a b => match ρ c with
    | .bool true => some (ρ a)
    | .bool false => some (ρ b)
    | _ => none
  | .load t a => loadA P H t (ρ a)
  | .nilCheck x => match ρ x with
    | .ptr b o => some (.ptr b o)
    | .rop cs => some (.rop cs)
    | .fn (.func f) a b => some (.fn (.func f) a b)
    | _ => none
  | .binOp op t x y _ => binA P op t (ρ x) (ρ y)
  | .unOp op _ x => unA op (ρ x)
  | .convert s d x => convA P H s d (ρ x)
  | .makeInterface t x => match ti P t with
    | some i => match ifaceD i.und with
      | true => none
      | false => some (.iface t (ρ x))
    | none => none
  | .makeFunc fn first captured => some (.fn fn (first.toList.map ρ) (captured.toList.map ρ))
  | .slice t x lo hi mx => match mx with
    | none => sliA P H t (ρ x) (lo.map ρ) (hi.map ρ)
    | some _ => none
  | .fieldAddr t x f => faddA P t (ρ x) f
  | .field t x f => fieldA P t (ρ x) f
  | .indexAddr t x i => iaddA P t (ρ x) (ρ i)
  | .index t x i => idxA P t (ρ x) (ρ i)
  | .lookup t x i ok => lookA P H t (ρ x) (ρ i) ok
  | .typeAssert x xt at' ok => tasA P (ρ x) xt at' ok
  | .extract x i => match ρ x with
    | .tup vs => vs[i]?
    | _ => none
  | .build t parts => buildA P t (parts.toList.map fun p => (p.1, ρ p.2))
  | .call c => match c.callee with
    | .builtin b => bltA P H b c.argTypes.toList (c.args.toList.map ρ)
    | _ => none
  | _ => none
theorem RVs.map {M : Mp} {ρ : Operand → CV} {σ : Operand → Value} : ∀ {l : List Operand}, (∀ x ∈ l, RV M (ρ x) (σ x)) → RVs M (l.map ρ) (l.map σ)
  | [], _ => .nil
  | x :: l, h => .cons (h x (by simp)) (RVs.map fun y hy => h y (by simp [hy]))
theorem qstep_sound {P : Program} {H : Heap} {ρ : Operand → CV} {o : Oper} {c : CV} {M : Mp} {nx : Nat} {w : World} {σ : Operand → Value} (h : qstep P H ρ o.op = some c) (r : Rep M H nx w) (hρ : ∀ x ∈ o.op.operands, RV M (ρ x) (σ x)) :
    ∃ z, (execOp σ o).run P w = .ok (.value z) w ∧ RV M c z := by
  have val : ∀ {s : Sem Value}, (∃ z, s.run P w = .ok z w ∧ RV M c z) → ∃ z, (do pure (.value (← s)) : Sem Next).run P w = .ok (.value z) w ∧ RV M c z := by
    rintro s ⟨z, h1, h2⟩
    exact ⟨z, by simp [h1], h2⟩
  cases hop : o.op
  all_goals rw [hop] at h hρ
  all_goals first | (cases h; done) | skip
  case move x => cases h; exact ⟨_, by simp [execOp, hop], hρ x (by simp [Op.operands])⟩
  case assign x => cases h; exact ⟨_, by simp [execOp, hop], hρ x (by simp [Op.operands])⟩
  case pick a b d =>
    have ha := hρ a (by simp [Op.operands])
    have hb := hρ b (by simp [Op.operands])
    have hd := hρ d (by simp [Op.operands])
    simp only [qstep] at h
    split at h
    · rename_i hc; cases h; rw [hc] at ha
      generalize hv : σ a = v at ha
      cases ha; exact ⟨_, by simp [execOp, hop, hv, asBool], hb⟩
    · rename_i hc; cases h; rw [hc] at ha
      generalize hv : σ a = v at ha
      cases ha; exact ⟨_, by simp [execOp, hop, hv, asBool], hd⟩
    · cases h
  case load t a =>
    obtain ⟨z, h1, h2⟩ := loadA_sound h r (hρ a (by simp [Op.operands]))
    exact ⟨z, by simp [execOp, hop, h1], h2⟩
  case nilCheck x =>
    have hx := hρ x (by simp [Op.operands])
    simp only [qstep] at h
    split at h
    · rename_i hc; cases h; rw [hc] at hx
      generalize hv : σ x = v at hx
      cases hx with
      | ptr _ _ g m hm => exact ⟨_, by simp [execOp, hop, hv], .ptr _ _ g m hm⟩
    · rename_i hc; cases h; rw [hc] at hx
      generalize hv : σ x = v at hx
      have hx0 := hx
      cases hx with
      | rop _ g o' arr T fr hg hl hr => exact ⟨_, by simp [execOp, hop, hv], hx0⟩
    · rename_i hc; cases h; rw [hc] at hx
      generalize hv : σ x = v at hx
      have hx0 := hx
      cases hx with
      | fn _ _ _ fs' cs' l1 l2 h1 h2 => exact ⟨_, by simp [execOp, hop, hv], hx0⟩
    · cases h
  case binOp op t x y t' =>
    obtain ⟨z, h1, h2⟩ := binA_sound (w := w) (xo := x) (yo := y) h (hρ x (by simp [Op.operands])) (hρ y (by simp [Op.operands]))
    refine ⟨z, ?_, h2⟩
    unfold execOp
    rw [hop]
    simp only
    rw [Sem.run_bind, h1]
    simp
  case unOp op t x =>
    obtain ⟨z, h1, h2⟩ := unA_sound (P := P) (w := w) h (hρ x (by simp [Op.operands]))
    exact ⟨z, by simp [execOp, hop, h1], h2⟩
  case convert s d x =>
    obtain ⟨z, h1, h2⟩ := convA_sound h r (hρ x (by simp [Op.operands]))
    exact ⟨z, by simp [execOp, hop, h1], h2⟩
  case makeInterface t x =>
    simp only [qstep] at h
    split at h
    · rename_i i hti
      split at h
      · cases h
      · rename_i hi
        cases h
        refine ⟨.iface t (σ x), ?_, .iface _ _ _ (hρ x (by simp [Op.operands]))⟩
        unfold execOp
        rw [hop]
        simp only [Sem.run_bind, Instr.makeInterface, ti_und hti, Result.andThen_ok]
        cases hu : i.und <;> first | (rw [hu] at hi; simp [ifaceD] at hi; done) | simp
    · cases h
  case makeFunc fn first captured =>
    cases h
    have h1 : RVs M (first.toList.map ρ) (first.toList.map σ) := RVs.map fun x hx => hρ x (by simp [Op.operands]; exact .inl (by simpa using hx))
    have h2 : RVs M (captured.toList.map ρ) (captured.toList.map σ) := RVs.map fun x hx => hρ x (by simp [Op.operands]; exact .inr (by simpa using hx))
    refine ⟨.func fn (first.map σ) (captured.map σ), by simp [execOp, hop, Instr.makeFunc], ?_⟩
    have := RV.fn fn _ _ _ _ h1.1 h2.1 h1.2 h2.2
    have e1 : (first.toList.map σ).toArray = first.map σ := by apply Array.ext'; simp
    have e2 : (captured.toList.map σ).toArray = captured.map σ := by apply Array.ext'; simp
    rw [e1, e2] at this
    exact this
  case slice t x lo hi mx =>
    cases mx with
    | some _ => cases h
    | none =>
      obtain ⟨z, h1, h2⟩ := sliA_sound (lo' := lo.map σ) (hi' := hi.map σ) h r (hρ x (by simp [Op.operands])) (fun c hc => by
          cases lo with
          | none => cases hc
          | some l => cases hc; exact ⟨σ l, rfl, hρ l (by simp [Op.operands])⟩) (fun hc => by cases lo <;> simp_all) (fun c hc => by
          cases hi with
          | none => cases hc
          | some l => cases hc; exact ⟨σ l, rfl, hρ l (by simp [Op.operands])⟩) (fun hc => by cases hi <;> simp_all)
      exact ⟨z, by simp [execOp, hop, h1], h2⟩
  case fieldAddr t x f =>
    obtain ⟨z, h1, h2⟩ := faddA_sound (w := w) h (hρ x (by simp [Op.operands]))
    exact ⟨z, by simp [execOp, hop, h1], h2⟩
  case field t x f =>
    obtain ⟨z, h1, h2⟩ := fieldA_sound (w := w) h (hρ x (by simp [Op.operands]))
    exact ⟨z, by simp [execOp, hop, h1], h2⟩
  case indexAddr t x i =>
    obtain ⟨z, h1, h2⟩ := iaddA_sound (w := w) h (hρ x (by simp [Op.operands])) (hρ i (by simp [Op.operands]))
    exact ⟨z, by simp [execOp, hop, h1], h2⟩
  case index t x i =>
    obtain ⟨z, h1, h2⟩ := idxA_sound (w := w) h (hρ x (by simp [Op.operands])) (hρ i (by simp [Op.operands]))
    exact ⟨z, by simp [execOp, hop, h1], h2⟩
  case lookup t x i ok =>
    obtain ⟨z, h1, h2⟩ := lookA_sound h r (hρ x (by simp [Op.operands])) (hρ i (by simp [Op.operands]))
    exact ⟨z, by simp [execOp, hop, h1], h2⟩
  case typeAssert x xt at' ok =>
    obtain ⟨z, h1, h2⟩ := tasA_sound (w := w) (xt := xt) h (hρ x (by simp [Op.operands]))
    exact ⟨z, by simp [execOp, hop, h1], h2⟩
  case extract x i =>
    have hx := hρ x (by simp [Op.operands])
    simp only [qstep] at h
    split at h
    · rename_i vs hc; rw [hc] at hx
      generalize hv : σ x = v at hx
      cases hx with
      | tup _ us hl hr =>
        obtain ⟨z, hz, hrz⟩ := RVs.at' ⟨hl, hr⟩ h
        exact ⟨z, by simp [execOp, hop, hv, Instr.extract, hz], hrz⟩
    · cases h
  case build t parts =>
    have hp : RParts M (parts.toList.map fun p => (p.1, ρ p.2)) (parts.map fun p => (p.1, σ p.2)).toList := by
      refine ⟨by simp [Function.comp_def], ?_⟩
      simp only [Array.toList_map, List.map_map, Function.comp_def]
      have := RVs.map (M := M) (ρ := ρ) (σ := σ) (l := parts.toList.map (·.2)) (fun x hx => hρ x (by simpa [Op.operands] using hx))
      simpa [List.map_map, Function.comp_def] using this
    obtain ⟨z, h1, h2⟩ := buildA_sound (w := w) h hp
    exact ⟨z, by simp [execOp, hop, h1], h2⟩
  case call cl =>
    simp only [qstep] at h
    split at h
    · rename_i b hb
      have hx : RVs M (cl.args.toList.map ρ) (cl.args.map σ).toList := by
        rw [Array.toList_map]
        exact RVs.map fun x hx => hρ x (by simp [Op.operands, Call.operands, hb]; simpa using hx)
      obtain ⟨z, h1, h2⟩ := bltA_sound (ty := o.type) (cns := cl.args.map fun | .const _ => true | _ => false) h r hx
      refine ⟨z, ?_, h2⟩
      unfold execOp
      rw [hop]
      simp only [resolve, hb, Sem.run_bind, Sem.run_pure, Result.andThen_ok, invoke]
      exact h1
    · cases h
end Ax
end Go.Proofs.YtdjllogimomgmaaGreatDoor
