/-
  Trees as plain data, as abstract values, and how arguments are read as such.
-/
import Derived.Test.YtdjllogimomgmaaGreatDoorProg
import Derived.Test.YtdjllogimomgmaaGreatDoorAx15
import Derived.ProofKit
import Derived.Deep.Slices
import Derived.ChangeStays
import Derived.ReadAgain
import Derived.WalkKit
set_option linter.unusedSimpArgs false
set_option linter.unusedVariables false
namespace Go.Proofs.YtdjllogimomgmaaGreatDoor
open Go.RowKit
namespace Tx
abbrev Bs := List UInt8
inductive Ex where
  | mk (kind n : Int) (of name : Bs) (kids : List Ex)
inductive St where
  | mk (kind : Int) (name typ : Bs) (exprs : List Ex) (body els : List St)
structure Fld where
  name : Bs
  typ : Bs
structure Me where
  name : Bs
  static : Bool
  params : List Fld
  result : Bs
  body : List St
structure Cl where
  name : Bs
  super : Bs
  fields : List Fld
  methods : List Me
end Tx
open Tx Ax
def In64 (n : Int) : Prop := -9223372036854775808 ≤ n ∧ n ≤ 9223372036854775807
def cvEx : Ex → List CV
  | .mk k n o m ks => [.int .i64 k, .int .i64 n, .str o, .str m, .lst (ks.map cvEx)]
def cvSt : St → List CV
  | .mk k nm ty es b el => [.int .i64 k, .str nm, .str ty, .lst (es.map cvEx), .lst (b.map cvSt), .lst (el.map cvSt)]
def cvFld (f : Fld) : List CV := [.str f.name, .str f.typ]
def cvMe (m : Me) : List CV := [.str m.name, .bool m.static, .lst (m.params.map cvFld), .str m.result, .lst (m.body.map cvSt)]
def cvCl (c : Cl) : List CV := [.str c.name, .str c.super, .lst (c.fields.map cvFld), .lst (c.methods.map cvMe)]
/-- Bounds of what is read. -/
inductive ExB : Ex → Prop
  | mk (k n : Int) (o m : Bs) (ks : List Ex) (h1 : In64 k) (h2 : In64 n) (h3 : o.length ≤ maxLen) (h4 : m.length ≤ maxLen) (h5 : ks.length ≤ maxLen) (h6 : ∀ x ∈ ks, ExB x) : ExB (.mk k n o m ks)
inductive StB : St → Prop
  | mk (k : Int) (nm ty : Bs) (es : List Ex) (b el : List St) (h1 : In64 k) (h2 : nm.length ≤ maxLen) (h3 : ty.length ≤ maxLen) (h4 : es.length ≤ maxLen) (h5 : b.length ≤ maxLen) (h6 : el.length ≤ maxLen)
      (h7 : ∀ x ∈ es, ExB x) (h8 : ∀ x ∈ b, StB x) (h9 : ∀ x ∈ el, StB x) : StB (.mk k nm ty es b el)
def FldB (f : Fld) : Prop := f.name.length ≤ maxLen ∧ f.typ.length ≤ maxLen
def MethB (m : Me) : Prop := m.name.length ≤ maxLen ∧ m.result.length ≤ maxLen ∧ m.params.length ≤ maxLen ∧ m.body.length ≤ maxLen ∧ (∀ x ∈ m.params, FldB x) ∧ ∀ x ∈ m.body, StB x
def ClB (c : Cl) : Prop := c.name.length ≤ maxLen ∧ c.super.length ≤ maxLen ∧ c.fields.length ≤ maxLen ∧ c.methods.length ≤ maxLen ∧ (∀ x ∈ c.fields, FldB x) ∧ ∀ x ∈ c.methods, MethB x
theorem list_of {α : Type} {len : Nat} {Q : Nat → α → Prop} (h : ∀ i, i < len → ∃ a, Q i a) : ∃ l : List α, l.length = len ∧ ∀ i (hi : i < l.length), Q i l[i] := by
  induction len with
  | zero => exact ⟨[], rfl, fun i hi => by simp at hi⟩
  | succ n ih =>
    obtain ⟨l, h1, h2⟩ := ih fun i hi => h i (by omega)
    obtain ⟨a, ha⟩ := h n (by omega)
    refine ⟨l ++ [a], by simp [h1], fun i hi => ?_⟩
    by_cases hlt : i < l.length
    · rw [List.getElem_append_left hlt]; exact h2 i hlt
    · have e : i = l.length := by simp at hi; omega
      subst e
      rw [List.getElem_append_right (Nat.le_refl _)]
      simp only [Nat.sub_self, List.getElem_cons_zero]
      rw [h1]; exact ha
theorem cells_of_cell {w : World} {a : Addr} {v : Value} (h : w.cell? a = some v) : a.spot = none ∧ ∃ arr T fr, w.heap[a.block]? = some (.cells arr T fr) ∧ arr[a.off]? = some v := by
  unfold World.cell? at h
  split at h
  · rename_i c T fr hh
    split at h
    · cases h
    · rename_i hs
      refine ⟨by cases hsp : a.spot <;> simp_all, c, T, fr, hh, h⟩
  · cases h
section
variable {H : Type} {enc : TypeId × Value → H} {w : World} {spare : Nat → Bool} {held : Bool}
theorem trod_lst {α : Type} (cv : α → List CV) (B : α → Prop) {t e k : Nat} (ht : Tryz.prog.underlying t = some (.slice e)) (hk : Tryz.prog.cellsOf e = k) (hk0 : 0 < k) {fuel : Nat} {cs : List Value} {x : DataW H × List MemPlace} (h : DataW.trod enc Tryz.prog w 0 spare held fuel t cs = some x)
    (hcv : ∀ a, (cv a).length = k) (hel : ∀ n, n < fuel → ∀ cs' y, DataW.trod enc Tryz.prog w 0 spare held n e cs' = some y → ∃ a, RVs (snap w) (cv a) cs' ∧ B a) : ∃ v, cs = [v] ∧ ∃ l : List α, RV (snap w) (.lst (l.map cv)) v ∧ l.length ≤ maxLen ∧ ∀ x ∈ l, B x := by
  rcases DataW.trod_slice ht h with ⟨rfl, _⟩ | ⟨a, len, cap, elems, rest, n, hn, rfl, _, _, hl, hm, hlen, hall, _⟩
  · exact ⟨_, rfl, [], .lst0 _ _, by simp, fun x hx => by cases hx⟩
  · refine ⟨_, rfl, ?_⟩
    obtain ⟨g, off, spot⟩ := a
    obtain ⟨l, h1, h2⟩ := list_of (α := α) (len := len) (Q := fun i b => ∃ cs', cs'.length = k ∧ (∀ j, j < k → w.cell? ((⟨g, off, spot⟩ : Addr).add (i * k + j)) = cs'[j]?) ∧ RVs (snap w) (cv b) cs' ∧ B b) (fun i hi => by
      have h3 := hall i hi
      rw [List.getElem?_eq_getElem (by omega)] at h3
      obtain ⟨cs', h4, h5⟩ := Option.bind_eq_some_iff.1 h3
      rw [hk] at h4
      obtain ⟨_, h6, h7⟩ := World.cells?_some h4
      obtain ⟨b, hb⟩ := hel n (by omega) cs' _ h5
      exact ⟨b, cs', h6, fun j hj => by rw [← Deep.add_add]; exact h7 j hj, hb⟩)
    subst h1
    refine ⟨l, ?_, by omega, fun x hx => ?_⟩
    · by_cases h0 : l.length = 0
      · have : l = [] := List.length_eq_zero_iff.1 h0
        subst this; exact .lst0 _ _
      · obtain ⟨cs0, h3, h4, _⟩ := h2 0 (by omega)
        have h5 := h4 0 hk0
        rw [List.getElem?_eq_getElem (by omega)] at h5
        have hs : spot = none := by simpa [Addr.add] using World.cell?_spot h5
        subst hs
        rw [addr_add] at h5
        obtain ⟨_, arr, T, fr, hh, _⟩ := cells_of_cell h5
        have hcell : ∀ o, w.cell? ⟨g, o, none⟩ = arr[o]? := fun o => by simp [World.cell?, hh]
        have hlast : off + l.length * k ≤ arr.size := by
          obtain ⟨cs1, e1, e2, _⟩ := h2 (l.length - 1) (by omega)
          have e3 := e2 (k - 1) (by omega)
          rw [addr_add, hcell, List.getElem?_eq_getElem (by omega)] at e3
          have := (Array.getElem?_eq_some_iff.mp e3).1
          have e4 : ∀ m, m ≠ 0 → (m - 1) * k + k = m * k := by
            intro m hm
            obtain ⟨m', rfl⟩ : ∃ m', m = m' + 1 := ⟨m - 1, by omega⟩
            rw [Nat.add_sub_cancel, Nat.add_mul, Nat.one_mul]
          have e5 := e4 l.length h0
          omega
        refine .lst _ g off l.length k cap arr T fr hh (by simp) hl (fun r hr => ?_) hlast (fun i ai j bj d => ?_)
        · obtain ⟨a, _, rfl⟩ := List.mem_map.mp hr; exact hcv a
        · have hi : i < l.length := by simpa using ai
          obtain ⟨cs', e1, e2, e3, _⟩ := h2 i hi
          simp only [List.getElem_map] at bj ⊢
          have hj : j < k := by rw [← hcv l[i]]; exact bj
          have e4 := e2 j hj
          rw [addr_add, hcell, List.getElem?_eq_getElem (by omega)] at e4
          have e5 := e3.2 j bj (by omega)
          have e6 : arr[off + i * k + j] = cs'[j] := by
            have := (Array.getElem?_eq_some_iff.mp e4).2
            simpa [Nat.add_assoc] using this
          rw [e6]; exact e5
    · obtain ⟨i, hi, rfl⟩ := List.getElem_of_mem hx
      obtain ⟨_, _, _, _, hb⟩ := h2 i hi
      exact hb
/-- The fields of a struct type: their types, offsets, sizes. -/
noncomputable def fldsOf (t : Nat) : List (Nat × Nat × Nat) := match Tryz.prog.underlying t with
  | some (.struct fs) => fs.toList.map fun f => (f.type, f.offset, Tryz.prog.cellsOf f.type)
  | _ => []
theorem trod_at {t : Nat} {L : List (Nat × Nat × Nat)} (hL : fldsOf t = L) (hne : L ≠ []) {fuel : Nat} {cs : List Value} {x : DataW H × List MemPlace} (h : DataW.trod enc Tryz.prog w 0 spare held fuel t cs = some x) :
    ∃ n, fuel = n + 1 ∧ cs.length = Tryz.prog.cellsOf t ∧ ∀ (i ft off k : Nat), L[i]? = some (ft, off, k) → ∃ y, DataW.trod enc Tryz.prog w 0 spare held n ft ((cs.drop off).take k) = some y := by
  unfold fldsOf at hL
  cases hu : Tryz.prog.underlying t with
  | none => rw [hu] at hL; exact absurd hL.symm hne
  | some u =>
    rw [hu] at hL
    cases u with
    | struct fs =>
      simp only at hL
      obtain ⟨xs, n, h1, _, h2, h3, h4⟩ := DataW.trod_struct hu h
      refine ⟨n, h1, h2, fun i ft off k hi => ?_⟩
      rw [← hL, List.getElem?_map] at hi
      cases hf : fs.toList[i]? with
      | none => rw [hf] at hi; cases hi
      | some f =>
        rw [hf] at hi
        simp only [Option.map_some, Option.some.injEq, Prod.mk.injEq] at hi
        obtain ⟨rfl, rfl, rfl⟩ := hi
        have hf' : fs[i]? = some f := by rw [← hf, Array.getElem?_toList]
        have hil : i < xs.length := by rw [h3]; exact (Array.getElem?_eq_some_iff.1 hf').1
        exact ⟨_, (h4 i f hf').trans (List.getElem?_eq_getElem hil)⟩
    | _ => exact absurd hL.symm hne
theorem trod_str {n : Nat} {cs : List Value} {x : DataW H × List MemPlace} (h : DataW.trod enc Tryz.prog w 0 spare held n 9 cs = some x) : ∃ v, cs = [v] ∧ ∃ s : Bs, RV (snap w) (.str s) v ∧ s.length ≤ maxLen := by
  obtain ⟨s, h1, _, h2⟩ := DataW.trod_string Tryz.underlying9 h
  exact ⟨_, h1, s.data.toList, .str _ _ rfl, by rw [data_len]; exact h2⟩
theorem wf64 {n : Int} (h : (Lit.int .i64 n).wf = true) : In64 n := by
  have h' : (decide (IntKind.i64.min ≤ n) && decide (n ≤ IntKind.i64.max)) = true := h
  rw [Bool.and_eq_true, decide_eq_true_eq, decide_eq_true_eq] at h'
  exact h'
theorem trod_num {t n : Nat} (ht : Tryz.prog.underlying t = some (.int .i64)) {cs : List Value} {x : DataW H × List MemPlace} (h : DataW.trod enc Tryz.prog w 0 spare held n t cs = some x) : ∃ v, cs = [v] ∧ ∃ k : Int, RV (snap w) (.int .i64 k) v ∧ In64 k := by
  obtain ⟨k, h1, _, h2⟩ := DataW.trod_int ht h
  exact ⟨_, h1, k, .int _ _, wf64 h2⟩
theorem trod_boo {n : Nat} {cs : List Value} {x : DataW H × List MemPlace} (h : DataW.trod enc Tryz.prog w 0 spare held n 4 cs = some x) : ∃ v, cs = [v] ∧ ∃ b : Bool, RV (snap w) (.bool b) v := by
  obtain ⟨b, h1, _⟩ := DataW.trod_bool Tryz.underlying4 h
  exact ⟨_, h1, b, .bool _⟩
theorem len1 {α : Type} {cs : List α} (h : cs.length = 1) : ∃ c0, cs = [c0] := by
  match cs, h with
  | [c0], _ => exact ⟨c0, rfl⟩
theorem len2 {α : Type} {cs : List α} (h : cs.length = 2) : ∃ c0 c1, cs = [c0, c1] := by
  match cs, h with
  | [c0, c1], _ => exact ⟨c0, c1, rfl⟩
theorem len4 {α : Type} {cs : List α} (h : cs.length = 4) : ∃ c0 c1 c2 c3, cs = [c0, c1, c2, c3] := by
  match cs, h with
  | [c0, c1, c2, c3], _ => exact ⟨c0, c1, c2, c3, rfl⟩
theorem len5 {α : Type} {cs : List α} (h : cs.length = 5) : ∃ c0 c1 c2 c3 c4, cs = [c0, c1, c2, c3, c4] := by
  match cs, h with
  | [c0, c1, c2, c3, c4], _ => exact ⟨c0, c1, c2, c3, c4, rfl⟩
theorem len6 {α : Type} {cs : List α} (h : cs.length = 6) : ∃ c0 c1 c2 c3 c4 c5, cs = [c0, c1, c2, c3, c4, c5] := by
  match cs, h with
  | [c0, c1, c2, c3, c4, c5], _ => exact ⟨c0, c1, c2, c3, c4, c5, rfl⟩
theorem cells_ex : Tryz.prog.cellsOf 82 = 5 := by kernel_rfl
theorem cells_st : Tryz.prog.cellsOf 84 = 6 := by kernel_rfl
theorem flds_ex : fldsOf 82 = [(3, 0, 1), (2, 1, 1), (9, 2, 1), (9, 3, 1), (80, 4, 1)] := by kernel_rfl
theorem flds_st : fldsOf 84 = [(3, 0, 1), (9, 1, 1), (9, 2, 1), (80, 3, 1), (39, 4, 1), (39, 5, 1)] := by kernel_rfl
theorem cvEx_len (e : Ex) : (cvEx e).length = 5 := by cases e; simp [cvEx]
theorem cvSt_len (e : St) : (cvSt e).length = 6 := by cases e; simp [cvSt]
theorem trod_ex : ∀ fuel cs x, DataW.trod enc Tryz.prog w 0 spare held fuel 82 cs = some x → ∃ e, RVs (snap w) (cvEx e) cs ∧ ExB e := by
  intro fuel
  induction fuel using Nat.strongRecOn with
  | ind fuel ih =>
    intro cs x h
    obtain ⟨n, rfl, hl, hf⟩ := trod_at flds_ex (by simp) h
    rw [cells_ex] at hl
    obtain ⟨c0, c1, c2, c3, c4, rfl⟩ := len5 hl
    obtain ⟨_, f0⟩ := hf 0 _ _ _ rfl
    obtain ⟨_, f1⟩ := hf 1 _ _ _ rfl
    obtain ⟨_, f2⟩ := hf 2 _ _ _ rfl
    obtain ⟨_, f3⟩ := hf 3 _ _ _ rfl
    obtain ⟨_, f4⟩ := hf 4 _ _ _ rfl
    simp only [List.drop_zero, List.take_succ_cons, List.take_zero, List.drop_succ_cons] at f0 f1 f2 f3 f4
    obtain ⟨v0, e0, k, r0, b0⟩ := trod_num Tryz.underlying3 f0
    obtain ⟨v1, e1, m, r1, b1⟩ := trod_num Tryz.underlying2 f1
    obtain ⟨v2, e2, o, r2, b2⟩ := trod_str f2
    obtain ⟨v3, e3, nm, r3, b3⟩ := trod_str f3
    obtain ⟨v4, e4, l, r4, b4, b5⟩ := trod_lst cvEx ExB Tryz.underlying80 cells_ex (by omega) f4 cvEx_len fun n' hn' cs' y hy => ih n' (by omega) cs' y hy
    cases e0; cases e1; cases e2; cases e3; cases e4
    exact ⟨.mk k m o nm l, by unfold cvEx; exact .cons r0 (.cons r1 (.cons r2 (.cons r3 (.one r4)))), .mk k m o nm l b0 b1 b2 b3 b4 b5⟩
theorem trod_st : ∀ fuel cs x, DataW.trod enc Tryz.prog w 0 spare held fuel 84 cs = some x → ∃ e, RVs (snap w) (cvSt e) cs ∧ StB e := by
  intro fuel
  induction fuel using Nat.strongRecOn with
  | ind fuel ih =>
    intro cs x h
    obtain ⟨n, rfl, hl, hf⟩ := trod_at flds_st (by simp) h
    rw [cells_st] at hl
    obtain ⟨c0, c1, c2, c3, c4, c5, rfl⟩ := len6 hl
    obtain ⟨_, f0⟩ := hf 0 _ _ _ rfl
    obtain ⟨_, f1⟩ := hf 1 _ _ _ rfl
    obtain ⟨_, f2⟩ := hf 2 _ _ _ rfl
    obtain ⟨_, f3⟩ := hf 3 _ _ _ rfl
    obtain ⟨_, f4⟩ := hf 4 _ _ _ rfl
    obtain ⟨_, f5⟩ := hf 5 _ _ _ rfl
    simp only [List.drop_zero, List.take_succ_cons, List.take_zero, List.drop_succ_cons] at f0 f1 f2 f3 f4 f5
    obtain ⟨v0, e0, k, r0, b0⟩ := trod_num Tryz.underlying3 f0
    obtain ⟨v1, e1, nm, r1, b1⟩ := trod_str f1
    obtain ⟨v2, e2, ty, r2, b2⟩ := trod_str f2
    obtain ⟨v3, e3, l, r3, b3, b4⟩ := trod_lst cvEx ExB Tryz.underlying80 cells_ex (by omega) f3 cvEx_len fun n' hn' cs' y hy => trod_ex n' cs' y hy
    obtain ⟨v4, e4, l2, r4, b5, b6⟩ := trod_lst cvSt StB Tryz.underlying39 cells_st (by omega) f4 cvSt_len fun n' hn' cs' y hy => ih n' (by omega) cs' y hy
    obtain ⟨v5, e5, l3, r5, b7, b8⟩ := trod_lst cvSt StB Tryz.underlying39 cells_st (by omega) f5 cvSt_len fun n' hn' cs' y hy => ih n' (by omega) cs' y hy
    cases e0; cases e1; cases e2; cases e3; cases e4; cases e5
    exact ⟨.mk k nm ty l l2 l3, by unfold cvSt; exact .cons r0 (.cons r1 (.cons r2 (.cons r3 (.cons r4 (.one r5))))), .mk k nm ty l l2 l3 b0 b1 b2 b3 b5 b7 b4 b6 b8⟩
theorem trod_sts {fuel : Nat} {cs : List Value} {x : DataW H × List MemPlace} (h : DataW.trod enc Tryz.prog w 0 spare held fuel 39 cs = some x) : ∃ v, cs = [v] ∧ ∃ l : List St, RV (snap w) (.lst (l.map cvSt)) v ∧ l.length ≤ maxLen ∧ ∀ x ∈ l, StB x :=
  trod_lst cvSt StB Tryz.underlying39 cells_st (by omega) h cvSt_len fun n' hn' cs' y hy => trod_st n' cs' y hy
end
/-! arguments read again -/
theorem kids_all : Kids Tryz.prog (· < Tryz.prog.types.size) := kids_rows (by kernel_rfl) (by kernel_rfl)
theorem slices_all : ∀ t e, t < Tryz.prog.types.size → Tryz.prog.underlying t = some (.slice e) → 0 < Tryz.prog.cellsOf e := slices_full_of _ (by kernel_rfl)
section
variable {H : Type} {enc : TypeId × Value → H} {W W' : World}
theorem stays_one (hb : Below W.heap.size W W') {t : Nat} (hT : t < Tryz.prog.types.size) {v : Value} {d : DataW H} {ps : List MemPlace} (h : DataW.Trod enc Tryz.prog W 0 (fun _ => true) true t v d ps) : DataW.Trod enc Tryz.prog W' 0 (fun b => decide (b < W.heap.size)) true t v d ps := by
  obtain ⟨n, h⟩ := h
  have hg := DataW.trod_good kids_all (fun h => by cases h) n t _ _ hT h
  have hlt : ∀ p ∈ ps, p.block < W.heap.size := by
    intro p hp
    have h1 := hg p hp
    cases p with
    | cell b off => obtain ⟨v, h2, _⟩ := h1; exact World.block_lt_of_cell? W _ h2
    | map b => obtain ⟨es, c, h2⟩ := h1; exact (Array.getElem?_eq_some_iff.mp h2).1
  refine ⟨n, DataW.trod_stays kids_all (fun h1 h2 => slices_all _ _ h1 h2) (fun h => by cases h) hT h (fun p hp => ?_) (fun p hp => by simpa using hlt p hp)⟩
  have h1 := hlt p hp
  cases p with
  | cell b off => exact hb.cell (p := ⟨b, off, none⟩) h1
  | map b => exact hb.block b h1
theorem stays_all (hb : Below W.heap.size W W') : ∀ {ts : List TypeId} {vs : List Value} {ds : List (DataW H)} {ps : List MemPlace}, (∀ t ∈ ts, t < Tryz.prog.types.size) → DataW.TrodAll enc Tryz.prog W 0 (fun _ => true) true ts vs ds ps → DataW.TrodAll enc Tryz.prog W' 0 (fun b => decide (b < W.heap.size)) true ts vs ds ps
  | [], [], [], _, _, h => h
  | _ :: _, _ :: _, _ :: _, _, hT, ⟨p, q, h1, h2, e⟩ => ⟨p, q, stays_one hb (hT _ (List.mem_cons.2 (Or.inl rfl))) h1, stays_all hb (fun t ht => hT t (List.mem_cons.2 (Or.inr ht))) h2, e⟩
theorem slice_of {P : Program} {w : World} {r : Reach} {b : Nat} {t e : TypeId} {v : Value} (ht : P.underlying t = some (.slice e)) (hval : Value.okWide P w r b t v) : ∃ a n c, v = .slice a n c := by
  cases v <;> first
    | exact ⟨_, _, _, rfl⟩
    | (exfalso; simp [Value.okWide, Cell.okWide, Cell.ok, ht] at hval)
end
/-- From a contract at the frozen world to the call. -/
theorem calls_of_acall {P : Program} {G : Nat → CV} {f : FuncId} {args : List CV} {vs : List Value} {w : World} {Q : Res → Heap → Nat → Prop} (h : ACall P G f args Heap.no 0 Q) (hg : RG G (snap w)) (hv : RVs (snap w) args vs) :
    Calls P f vs.toArray w fun e w' => Below w.heap.size w w' ∧ ∃ M' r H' nx', EndR M' r e ∧ Q r H' nx' :=
  (h (snap w) w vs hg (Rep.snap w) hv).mono fun _ _ ⟨M', r, H', nx', h1, _, h3, h4⟩ => ⟨h3.below, M', r, H', nx', h1, h4⟩
end Go.Proofs.YtdjllogimomgmaaGreatDoor
