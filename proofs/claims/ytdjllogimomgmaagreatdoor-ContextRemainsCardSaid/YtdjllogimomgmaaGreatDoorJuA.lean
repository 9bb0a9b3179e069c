/-
  Trees as plain data, as abstract values, and how arguments are read as such.
-/
import Derived.Test.YtdjllogimomgmaaGreatDoorProg
import Derived.Test.YtdjllogimomgmaaGreatDoorJaD
import Derived.ProofKit
import Derived.Deep.Slices
import Derived.ChangeStays
import Derived.ReadAgain
import Derived.WalkKit
set_option linter.unusedSimpArgs false
set_option linter.unusedVariables false
namespace Go.Proofs.YtdjllogimomgmaaGreatDoor
open Go.RowKit
namespace Tx
abbrev Bs := List UInt8
inductive Ex where
  | mk (kind n : Int) (of name : Bs) (kids : List Ex)
inductive St where
  | mk (kind : Int) (name typ : Bs) (exprs : List Ex) (body els : List St)
structure Fld where
  name : Bs
  typ : Bs
structure Me where
  name : Bs
  static : Bool
  params : List Fld
  result : Bs
  body : List St
structure Cl where
  name : Bs
  super : Bs
  fields : List Fld
  methods : List Me
end Tx
open Tx Ax
def In64 (n : Int) : Prop := -9223372036854775808 ≤ n ∧ n ≤ 9223372036854775807
def cvFld (f : Fld) : List CV := [.str f.name, .str f.typ]
/-- Bounds of what is read. -/
inductive ExB : Ex → Prop
  | mk (k n : Int) (o m : Bs) (ks : List Ex) (h1 : In64 k) (h2 : In64 n) (h3 : o.length ≤ maxLen) (h4 : m.length ≤ maxLen) (h5 : ks.length ≤ maxLen) (h6 : ∀ x ∈ ks, ExB x) : ExB (.mk k n o m ks)
inductive StB : St → Prop
  | mk (k : Int) (nm ty : Bs) (es : List Ex) (b el : List St) (h1 : In64 k) (h2 : nm.length ≤ maxLen) (h3 : ty.length ≤ maxLen) (h4 : es.length ≤ maxLen) (h5 : b.length ≤ maxLen) (h6 : el.length ≤ maxLen)
      (h7 : ∀ x ∈ es, ExB x) (h8 : ∀ x ∈ b, StB x) (h9 : ∀ x ∈ el, StB x) : StB (.mk k nm ty es b el)
def FldB (f : Fld) : Prop := f.name.length ≤ maxLen ∧ f.typ.length ≤ maxLen
theorem list_of {α : Type} {len : Nat} {Q : Nat → α → Prop} (h : ∀ i, i < len → ∃ a, Q i a) : ∃ l : List α, l.length = len ∧ ∀ i (hi : i < l.length), Q i l[i] := by
  induction len with
  | zero => exact ⟨[], rfl, fun i hi => by simp at hi⟩
  | succ n ih =>
    obtain ⟨l, h1, h2⟩ := ih fun i hi => h i (by omega)
    obtain ⟨a, ha⟩ := h n (by omega)
    refine ⟨l ++ [a], by simp [h1], fun i hi => ?_⟩
    by_cases hlt : i < l.length
    · rw [List.getElem_append_left hlt]; exact h2 i hlt
    · have e : i = l.length := by simp at hi; omega
      subst e
      rw [List.getElem_append_right (Nat.le_refl _)]
      simp only [Nat.sub_self, List.getElem_cons_zero]
      rw [h1]; exact ha
theorem cells_of_cell {w : World} {a : Addr} {v : Value} (h : w.cell? a = some v) : a.spot = none ∧ ∃ arr T fr, w.heap[a.block]? = some (.cells arr T fr) ∧ arr[a.off]? = some v := by
  unfold World.cell? at h
  split at h
  · rename_i c T fr hh
    split at h
    · cases h
    · rename_i hs
      refine ⟨by cases hsp : a.spot <;> simp_all, c, T, fr, hh, h⟩
  · cases h
section
variable {H : Type} {enc : TypeId × Value → H} {w : World} {spare : Nat → Bool} {held : Bool}
theorem trod_lst {α : Type} (cv : α → List CV) (B : α → Prop) {t e k : Nat} (ht : Tryz.prog.underlying t = some (.slice e)) (hk : Tryz.prog.cellsOf e = k) (hk0 : 0 < k) {fuel : Nat} {cs : List Value} {x : DataW H × List MemPlace} (h : DataW.trod enc Tryz.prog w 0 spare held fuel t cs = some x)
    (hcv : ∀ a, (cv a).length = k) (hel : ∀ n, n < fuel → ∀ cs' y, DataW.trod enc Tryz.prog w 0 spare held n e cs' = some y → ∃ a, RVs (snap w) (cv a) cs' ∧ B a) : ∃ v, cs = [v] ∧ ∃ l : List α, RV (snap w) (.lst (l.map cv)) v ∧ l.length ≤ maxLen ∧ ∀ x ∈ l, B x := by
  rcases DataW.trod_slice ht h with ⟨rfl, _⟩ | ⟨a, len, cap, elems, rest, n, hn, rfl, _, _, hl, hm, hlen, hall, _⟩
  · exact ⟨_, rfl, [], .lst0 _ _, by simp, fun x hx => by cases hx⟩
  · refine ⟨_, rfl, ?_⟩
    obtain ⟨g, off, spot⟩ := a
    obtain ⟨l, h1, h2⟩ := list_of (α := α) (len := len) (Q := fun i b => ∃ cs', cs'.length = k ∧ (∀ j, j < k → w.cell? ((⟨g, off, spot⟩ : Addr).add (i * k + j)) = cs'[j]?) ∧ RVs (snap w) (cv b) cs' ∧ B b) (fun i hi => by
      have h3 := hall i hi
      rw [List.getElem?_eq_getElem (by omega)] at h3
      obtain ⟨cs', h4, h5⟩ := Option.bind_eq_some_iff.1 h3
      rw [hk] at h4
      obtain ⟨_, h6, h7⟩ := World.cells?_some h4
      obtain ⟨b, hb⟩ := hel n (by omega) cs' _ h5
      exact ⟨b, cs', h6, fun j hj => by rw [← Deep.add_add]; exact h7 j hj, hb⟩)
    subst h1
    refine ⟨l, ?_, by omega, fun x hx => ?_⟩
    · by_cases h0 : l.length = 0
      · have : l = [] := List.length_eq_zero_iff.1 h0
        subst this; exact .lst0 _ _
      · obtain ⟨cs0, h3, h4, _⟩ := h2 0 (by omega)
        have h5 := h4 0 hk0
        rw [List.getElem?_eq_getElem (by omega)] at h5
        have hs : spot = none := by simpa [Addr.add] using World.cell?_spot h5
        subst hs
        rw [addr_add] at h5
        obtain ⟨_, arr, T, fr, hh, _⟩ := cells_of_cell h5
        have hcell : ∀ o, w.cell? ⟨g, o, none⟩ = arr[o]? := fun o => by simp [World.cell?, hh]
        have hlast : off + l.length * k ≤ arr.size := by
          obtain ⟨cs1, e1, e2, _⟩ := h2 (l.length - 1) (by omega)
          have e3 := e2 (k - 1) (by omega)
          rw [addr_add, hcell, List.getElem?_eq_getElem (by omega)] at e3
          have := (Array.getElem?_eq_some_iff.mp e3).1
          have e4 : ∀ m, m ≠ 0 → (m - 1) * k + k = m * k := by
            intro m hm
            obtain ⟨m', rfl⟩ : ∃ m', m = m' + 1 := ⟨m - 1, by omega⟩
            rw [Nat.add_sub_cancel, Nat.add_mul, Nat.one_mul]
          have e5 := e4 l.length h0
          omega
        refine .lst _ g off l.length k cap arr T fr hh (by simp) hl (fun r hr => ?_) hlast (fun i ai j bj d => ?_)
        · obtain ⟨a, _, rfl⟩ := List.mem_map.mp hr; exact hcv a
        · have hi : i < l.length := by simpa using ai
          obtain ⟨cs', e1, e2, e3, _⟩ := h2 i hi
          simp only [List.getElem_map] at bj ⊢
          have hj : j < k := by rw [← hcv l[i]]; exact bj
          have e4 := e2 j hj
          rw [addr_add, hcell, List.getElem?_eq_getElem (by omega)] at e4
          have e5 := e3.2 j bj (by omega)
          have e6 : arr[off + i * k + j] = cs'[j] := by
            have := (Array.getElem?_eq_some_iff.mp e4).2
            simpa [Nat.add_assoc] using this
          rw [e6]; exact e5
    · obtain ⟨i, hi, rfl⟩ := List.getElem_of_mem hx
      obtain ⟨_, _, _, _, hb⟩ := h2 i hi
      exact hb
/-- The fields of a struct type: their types, offsets, sizes. -/
noncomputable def fldsOf (t : Nat) : List (Nat × Nat × Nat) := match Tryz.prog.underlying t with
  | some (.struct fs) => fs.toList.map fun f => (f.type, f.offset, Tryz.prog.cellsOf f.type)
  | _ => []
theorem trod_at {t : Nat} {L : List (Nat × Nat × Nat)} (hL : fldsOf t = L) (hne : L ≠ []) {fuel : Nat} {cs : List Value} {x : DataW H × List MemPlace} (h : DataW.trod enc Tryz.prog w 0 spare held fuel t cs = some x) :
    ∃ n, fuel = n + 1 ∧ cs.length = Tryz.prog.cellsOf t ∧ ∀ (i ft off k : Nat), L[i]? = some (ft, off, k) → ∃ y, DataW.trod enc Tryz.prog w 0 spare held n ft ((cs.drop off).take k) = some y := by
  unfold fldsOf at hL
  cases hu : Tryz.prog.underlying t with
  | none => rw [hu] at hL; exact absurd hL.symm hne
  | some u =>
    rw [hu] at hL
    cases u with
    | struct fs =>
      simp only at hL
      obtain ⟨xs, n, h1, _, h2, h3, h4⟩ := DataW.trod_struct hu h
      refine ⟨n, h1, h2, fun i ft off k hi => ?_⟩
      rw [← hL, List.getElem?_map] at hi
      cases hf : fs.toList[i]? with
      | none => rw [hf] at hi; cases hi
      | some f =>
        rw [hf] at hi
        simp only [Option.map_some, Option.some.injEq, Prod.mk.injEq] at hi
        obtain ⟨rfl, rfl, rfl⟩ := hi
        have hf' : fs[i]? = some f := by rw [← hf, Array.getElem?_toList]
        have hil : i < xs.length := by rw [h3]; exact (Array.getElem?_eq_some_iff.1 hf').1
        exact ⟨_, (h4 i f hf').trans (List.getElem?_eq_getElem hil)⟩
    | _ => exact absurd hL.symm hne
theorem trod_str {n : Nat} {cs : List Value} {x : DataW H × List MemPlace} (h : DataW.trod enc Tryz.prog w 0 spare held n 9 cs = some x) : ∃ v, cs = [v] ∧ ∃ s : Bs, RV (snap w) (.str s) v ∧ s.length ≤ maxLen := by
  obtain ⟨s, h1, _, h2⟩ := DataW.trod_string Tryz.underlying9 h
  exact ⟨_, h1, s.data.toList, .str _ _ rfl, by rw [data_len]; exact h2⟩
theorem wf64 {n : Int} (h : (Lit.int .i64 n).wf = true) : In64 n := by
  have h' : (decide (IntKind.i64.min ≤ n) && decide (n ≤ IntKind.i64.max)) = true := h
  rw [Bool.and_eq_true, decide_eq_true_eq, decide_eq_true_eq] at h'
  exact h'
theorem trod_num {t n : Nat} (ht : Tryz.prog.underlying t = some (.int .i64)) {cs : List Value} {x : DataW H × List MemPlace} (h : DataW.trod enc Tryz.prog w 0 spare held n t cs = some x) : ∃ v, cs = [v] ∧ ∃ k : Int, RV (snap w) (.int .i64 k) v ∧ In64 k := by
  obtain ⟨k, h1, _, h2⟩ := DataW.trod_int ht h
  exact ⟨_, h1, k, .int _ _, wf64 h2⟩
theorem trod_boo {n : Nat} {cs : List Value} {x : DataW H × List MemPlace} (h : DataW.trod enc Tryz.prog w 0 spare held n 4 cs = some x) : ∃ v, cs = [v] ∧ ∃ b : Bool, RV (snap w) (.bool b) v := by
  obtain ⟨b, h1, _⟩ := DataW.trod_bool Tryz.underlying4 h
  exact ⟨_, h1, b, .bool _⟩
theorem len1 {α : Type} {cs : List α} (h : cs.length = 1) : ∃ c0, cs = [c0] := by
  match cs, h with
  | [c0], _ => exact ⟨c0, rfl⟩
theorem len2 {α : Type} {cs : List α} (h : cs.length = 2) : ∃ c0 c1, cs = [c0, c1] := by
  match cs, h with
  | [c0, c1], _ => exact ⟨c0, c1, rfl⟩
theorem len4 {α : Type} {cs : List α} (h : cs.length = 4) : ∃ c0 c1 c2 c3, cs = [c0, c1, c2, c3] := by
  match cs, h with
  | [c0, c1, c2, c3], _ => exact ⟨c0, c1, c2, c3, rfl⟩
end
/-! arguments read again -/
theorem kids_all : Kids Tryz.prog (· < Tryz.prog.types.size) := kids_rows (by kernel_rfl) (by kernel_rfl)
theorem slices_all : ∀ t e, t < Tryz.prog.types.size → Tryz.prog.underlying t = some (.slice e) → 0 < Tryz.prog.cellsOf e := slices_full_of _ (by kernel_rfl)
section
variable {H : Type} {enc : TypeId × Value → H} {W W' : World}
theorem stays_one (hb : Below W.heap.size W W') {t : Nat} (hT : t < Tryz.prog.types.size) {v : Value} {d : DataW H} {ps : List MemPlace} (h : DataW.Trod enc Tryz.prog W 0 (fun _ => true) true t v d ps) : DataW.Trod enc Tryz.prog W' 0 (fun b => decide (b < W.heap.size)) true t v d ps := by
  obtain ⟨n, h⟩ := h
  have hg := DataW.trod_good kids_all (fun h => by cases h) n t _ _ hT h
  have hlt : ∀ p ∈ ps, p.block < W.heap.size := by
    intro p hp
    have h1 := hg p hp
    cases p with
    | cell b off => obtain ⟨v, h2, _⟩ := h1; exact World.block_lt_of_cell? W _ h2
    | map b => obtain ⟨es, c, h2⟩ := h1; exact (Array.getElem?_eq_some_iff.mp h2).1
  refine ⟨n, DataW.trod_stays kids_all (fun h1 h2 => slices_all _ _ h1 h2) (fun h => by cases h) hT h (fun p hp => ?_) (fun p hp => by simpa using hlt p hp)⟩
  have h1 := hlt p hp
  cases p with
  | cell b off => exact hb.cell (p := ⟨b, off, none⟩) h1
  | map b => exact hb.block b h1
theorem stays_all (hb : Below W.heap.size W W') : ∀ {ts : List TypeId} {vs : List Value} {ds : List (DataW H)} {ps : List MemPlace}, (∀ t ∈ ts, t < Tryz.prog.types.size) → DataW.TrodAll enc Tryz.prog W 0 (fun _ => true) true ts vs ds ps → DataW.TrodAll enc Tryz.prog W' 0 (fun b => decide (b < W.heap.size)) true ts vs ds ps
  | [], [], [], _, _, h => h
  | _ :: _, _ :: _, _ :: _, _, hT, ⟨p, q, h1, h2, e⟩ => ⟨p, q, stays_one hb (hT _ (List.mem_cons.2 (Or.inl rfl))) h1, stays_all hb (fun t ht => hT t (List.mem_cons.2 (Or.inr ht))) h2, e⟩
end
/-- From a contract at the frozen world to the call. -/
theorem calls_of_acall {P : Program} {G : Nat → CV} {f : FuncId} {args : List CV} {vs : List Value} {w : World} {Q : Res → Heap → Nat → Prop} (h : ACall P G f args Heap.no 0 Q) (hg : RG G (snap w)) (hv : RVs (snap w) args vs) :
    Calls P f vs.toArray w fun e w' => Below w.heap.size w w' ∧ ∃ M' r H' nx', EndR M' r e ∧ Q r H' nx' :=
  (h (snap w) w vs hg (Rep.snap w) hv).mono fun _ _ ⟨M', r, H', nx', h1, _, h3, h4⟩ => ⟨h3.below, M', r, H', nx', h1, h4⟩
end Go.Proofs.YtdjllogimomgmaaGreatDoor
namespace Go.Proofs.YtdjllogimomgmaaGreatDoor
open Go.RowKit
namespace Tx
structure Sg where
  name : Bs
  static : Bool
  params : List Bs
  result : Bs
structure Cd where
  name : Bs
  super : Bs
  fields : List Fld
  methods : List Sg
structure Ins where
  op : Int
  dst : Int
  a : Int
  b : Int
  n : Int
  cls : Bs
  name : Bs
  args : List Int
  goto : Int
  catch_ : Int
structure Fu where
  cls : Bs
  name : Bs
  static : Bool
  params : Int
  vars : List Fld
  result : Bs
  code : List Ins
structure Un where
  classes : List Cd
  funcs : List Fu
  main : Int
structure Se where
  kind : Int
  k : Int
structure Hs where
  site : Int
  ctx : List Int
structure Ca where
  ctx : List Int
  call : Int
  recv : Hs
end Tx
open Tx Ax
def cvI (n : Int) : List CV := [.int .i64 n]
def cvB (s : Bs) : List CV := [.str s]
def cvSg (s : Sg) : List CV := [.str s.name, .bool s.static, .lst (s.params.map cvB), .str s.result]
def cvCd (c : Cd) : List CV := [.str c.name, .str c.super, .lst (c.fields.map cvFld), .lst (c.methods.map cvSg)]
def cvIns (x : Ins) : List CV := [.int .i64 x.op, .int .i64 x.dst, .int .i64 x.a, .int .i64 x.b, .int .i64 x.n, .str x.cls, .str x.name, .lst (x.args.map cvI), .int .i64 x.goto, .int .i64 x.catch_]
def cvFu (f : Fu) : List CV := [.str f.cls, .str f.name, .bool f.static, .int .i64 f.params, .lst (f.vars.map cvFld), .str f.result, .lst (f.code.map cvIns)]
def cvUn (u : Un) : List CV := [.lst (u.classes.map cvCd), .lst (u.funcs.map cvFu), .int .i64 u.main]
def cvSe (s : Se) : List CV := [.int .i64 s.kind, .int .i64 s.k]
def cvHs (s : Hs) : List CV := [.int .i64 s.site, .lst (s.ctx.map cvI)]
def cvCa (c : Ca) : List CV := [.lst (c.ctx.map cvI), .int .i64 c.call, .int .i64 c.recv.site, .lst (c.recv.ctx.map cvI)]
/-- Bounds of what is read. -/
def IsB (l : List Int) : Prop := l.length ≤ maxLen ∧ ∀ x ∈ l, In64 x
def SgB (s : Sg) : Prop := s.name.length ≤ maxLen ∧ s.result.length ≤ maxLen ∧ s.params.length ≤ maxLen ∧ ∀ x ∈ s.params, x.length ≤ maxLen
def CdB (c : Cd) : Prop := c.name.length ≤ maxLen ∧ c.super.length ≤ maxLen ∧ c.fields.length ≤ maxLen ∧ c.methods.length ≤ maxLen ∧ (∀ x ∈ c.fields, FldB x) ∧ ∀ x ∈ c.methods, SgB x
structure InsB (x : Ins) : Prop where
  op : In64 x.op
  dst : In64 x.dst
  a : In64 x.a
  b : In64 x.b
  n : In64 x.n
  cls : x.cls.length ≤ maxLen
  name : x.name.length ≤ maxLen
  args : IsB x.args
  goto : In64 x.goto
  catch_ : In64 x.catch_
structure FuB (f : Fu) : Prop where
  cls : f.cls.length ≤ maxLen
  name : f.name.length ≤ maxLen
  params : In64 f.params
  vlen : f.vars.length ≤ maxLen
  vars : ∀ x ∈ f.vars, FldB x
  result : f.result.length ≤ maxLen
  clen : f.code.length ≤ maxLen
  code : ∀ x ∈ f.code, InsB x
structure UnB (u : Un) : Prop where
  hlen : u.classes.length ≤ maxLen
  classes : ∀ x ∈ u.classes, CdB x
  flen : u.funcs.length ≤ maxLen
  funcs : ∀ x ∈ u.funcs, FuB x
  main : In64 u.main
def SeB (s : Se) : Prop := In64 s.kind ∧ In64 s.k
def CaB (c : Ca) : Prop := IsB c.ctx ∧ In64 c.call ∧ In64 c.recv.site ∧ IsB c.recv.ctx
theorem len3 {α : Type} {cs : List α} (h : cs.length = 3) : ∃ c0 c1 c2, cs = [c0, c1, c2] := by
  match cs, h with
  | [c0, c1, c2], _ => exact ⟨c0, c1, c2, rfl⟩
theorem len7 {α : Type} {cs : List α} (h : cs.length = 7) : ∃ c0 c1 c2 c3 c4 c5 c6, cs = [c0, c1, c2, c3, c4, c5, c6] := by
  match cs, h with
  | [c0, c1, c2, c3, c4, c5, c6], _ => exact ⟨c0, c1, c2, c3, c4, c5, c6, rfl⟩
theorem len10 {α : Type} {cs : List α} (h : cs.length = 10) : ∃ c0 c1 c2 c3 c4 c5 c6 c7 c8 c9, cs = [c0, c1, c2, c3, c4, c5, c6, c7, c8, c9] := by
  match cs, h with
  | [c0, c1, c2, c3, c4, c5, c6, c7, c8, c9], _ => exact ⟨c0, c1, c2, c3, c4, c5, c6, c7, c8, c9, rfl⟩
section
variable {H : Type} {enc : TypeId × Value → H} {w : World} {spare : Nat → Bool} {held : Bool}
theorem cells_int : Tryz.prog.cellsOf 3 = 1 := by kernel_rfl
theorem cells_str : Tryz.prog.cellsOf 9 = 1 := by kernel_rfl
theorem cells_fld : Tryz.prog.cellsOf 86 = 2 := by kernel_rfl
theorem cells_sg : Tryz.prog.cellsOf 108 = 4 := by kernel_rfl
theorem cells_cd : Tryz.prog.cellsOf 92 = 4 := by kernel_rfl
theorem cells_ins : Tryz.prog.cellsOf 51 = 10 := by kernel_rfl
theorem cells_fu : Tryz.prog.cellsOf 46 = 7 := by kernel_rfl
theorem cells_un : Tryz.prog.cellsOf 30 = 3 := by kernel_rfl
theorem cells_hi : Tryz.prog.cellsOf 27 = 1 := by kernel_rfl
theorem flds_fld : fldsOf 86 = [(9, 0, 1), (9, 1, 1)] := by kernel_rfl
theorem flds_sg : fldsOf 108 = [(9, 0, 1), (4, 1, 1), (106, 2, 1), (9, 3, 1)] := by kernel_rfl
theorem flds_cd : fldsOf 92 = [(9, 0, 1), (9, 1, 1), (35, 2, 1), (90, 3, 1)] := by kernel_rfl
theorem flds_ins : fldsOf 51 = [(3, 0, 1), (3, 1, 1), (3, 2, 1), (3, 3, 1), (2, 4, 1), (9, 5, 1), (9, 6, 1), (49, 7, 1), (3, 8, 1), (3, 9, 1)] := by kernel_rfl
theorem flds_fu : fldsOf 46 = [(9, 0, 1), (9, 1, 1), (4, 2, 1), (3, 3, 1), (35, 4, 1), (9, 5, 1), (44, 6, 1)] := by kernel_rfl
theorem flds_un : fldsOf 30 = [(27, 0, 1), (28, 1, 1), (3, 2, 1)] := by kernel_rfl
theorem flds_hi : fldsOf 27 = [(25, 0, 1)] := by kernel_rfl
theorem trod_fld : ∀ fuel cs x, DataW.trod enc Tryz.prog w 0 spare held fuel 86 cs = some x → ∃ e, RVs (snap w) (cvFld e) cs ∧ FldB e := by
  intro fuel cs x h
  obtain ⟨n, rfl, hl, hf⟩ := trod_at flds_fld (by simp) h
  rw [cells_fld] at hl
  obtain ⟨c0, c1, rfl⟩ := len2 hl
  obtain ⟨_, f0⟩ := hf 0 _ _ _ rfl
  obtain ⟨_, f1⟩ := hf 1 _ _ _ rfl
  simp only [List.drop_zero, List.take_succ_cons, List.take_zero, List.drop_succ_cons] at f0 f1
  obtain ⟨v0, e0, a, r0, b0⟩ := trod_str f0
  obtain ⟨v1, e1, b, r1, b1⟩ := trod_str f1
  cases e0; cases e1
  exact ⟨⟨a, b⟩, .cons r0 (.one r1), b0, b1⟩
theorem trod_int1 : ∀ fuel cs x, DataW.trod enc Tryz.prog w 0 spare held fuel 3 cs = some x → ∃ e, RVs (snap w) (cvI e) cs ∧ In64 e := by
  intro fuel cs x h
  obtain ⟨v, rfl, k, r, b⟩ := trod_num Tryz.underlying3 h
  exact ⟨k, .one r, b⟩
theorem trod_str1 : ∀ fuel cs x, DataW.trod enc Tryz.prog w 0 spare held fuel 9 cs = some x → ∃ e, RVs (snap w) (cvB e) cs ∧ List.length e ≤ maxLen := by
  intro fuel cs x h
  obtain ⟨v, rfl, k, r, b⟩ := trod_str h
  exact ⟨k, .one r, b⟩
theorem trod_ints {fuel : Nat} {cs : List Value} {x : DataW H × List MemPlace} (h : DataW.trod enc Tryz.prog w 0 spare held fuel 49 cs = some x) : ∃ v, cs = [v] ∧ ∃ l : List Int, RV (snap w) (.lst (l.map cvI)) v ∧ IsB l := by
  obtain ⟨v, h1, l, h2, h3, h4⟩ := trod_lst cvI In64 Tryz.underlying49 cells_int (by omega) h (fun _ => rfl) fun n' hn' cs' y hy => trod_int1 n' cs' y hy
  exact ⟨v, h1, l, h2, h3, h4⟩
theorem trod_sg : ∀ fuel cs x, DataW.trod enc Tryz.prog w 0 spare held fuel 108 cs = some x → ∃ e, RVs (snap w) (cvSg e) cs ∧ SgB e := by
  intro fuel cs x h
  obtain ⟨n, rfl, hl, hf⟩ := trod_at flds_sg (by simp) h
  rw [cells_sg] at hl
  obtain ⟨c0, c1, c2, c3, rfl⟩ := len4 hl
  obtain ⟨_, f0⟩ := hf 0 _ _ _ rfl
  obtain ⟨_, f1⟩ := hf 1 _ _ _ rfl
  obtain ⟨_, f2⟩ := hf 2 _ _ _ rfl
  obtain ⟨_, f3⟩ := hf 3 _ _ _ rfl
  simp only [List.drop_zero, List.take_succ_cons, List.take_zero, List.drop_succ_cons] at f0 f1 f2 f3
  obtain ⟨v0, e0, a, r0, b0⟩ := trod_str f0
  obtain ⟨v1, e1, b, r1⟩ := trod_boo f1
  obtain ⟨v2, e2, l, r2, b2, b3⟩ := trod_lst cvB (fun s => s.length ≤ maxLen) Tryz.underlying106 cells_str (by omega) f2 (fun _ => rfl) fun n' hn' cs' y hy => trod_str1 n' cs' y hy
  obtain ⟨v3, e3, c, r3, b4⟩ := trod_str f3
  cases e0; cases e1; cases e2; cases e3
  exact ⟨⟨a, b, l, c⟩, .cons r0 (.cons r1 (.cons r2 (.one r3))), b0, b4, b2, b3⟩
theorem trod_cd : ∀ fuel cs x, DataW.trod enc Tryz.prog w 0 spare held fuel 92 cs = some x → ∃ e, RVs (snap w) (cvCd e) cs ∧ CdB e := by
  intro fuel cs x h
  obtain ⟨n, rfl, hl, hf⟩ := trod_at flds_cd (by simp) h
  rw [cells_cd] at hl
  obtain ⟨c0, c1, c2, c3, rfl⟩ := len4 hl
  obtain ⟨_, f0⟩ := hf 0 _ _ _ rfl
  obtain ⟨_, f1⟩ := hf 1 _ _ _ rfl
  obtain ⟨_, f2⟩ := hf 2 _ _ _ rfl
  obtain ⟨_, f3⟩ := hf 3 _ _ _ rfl
  simp only [List.drop_zero, List.take_succ_cons, List.take_zero, List.drop_succ_cons] at f0 f1 f2 f3
  obtain ⟨v0, e0, a, r0, b0⟩ := trod_str f0
  obtain ⟨v1, e1, b, r1, b1⟩ := trod_str f1
  obtain ⟨v2, e2, l, r2, b2, b3⟩ := trod_lst cvFld FldB Tryz.underlying35 cells_fld (by omega) f2 (fun _ => rfl) fun n' hn' cs' y hy => trod_fld n' cs' y hy
  obtain ⟨v3, e3, m, r3, b4, b5⟩ := trod_lst cvSg SgB Tryz.underlying90 cells_sg (by omega) f3 (fun _ => rfl) fun n' hn' cs' y hy => trod_sg n' cs' y hy
  cases e0; cases e1; cases e2; cases e3
  exact ⟨⟨a, b, l, m⟩, .cons r0 (.cons r1 (.cons r2 (.one r3))), b0, b1, b2, b4, b3, b5⟩
theorem trod_ins : ∀ fuel cs x, DataW.trod enc Tryz.prog w 0 spare held fuel 51 cs = some x → ∃ e, RVs (snap w) (cvIns e) cs ∧ InsB e := by
  intro fuel cs x h
  obtain ⟨n, rfl, hl, hf⟩ := trod_at flds_ins (by simp) h
  rw [cells_ins] at hl
  obtain ⟨c0, c1, c2, c3, c4, c5, c6, c7, c8, c9, rfl⟩ := len10 hl
  obtain ⟨_, f0⟩ := hf 0 _ _ _ rfl
  obtain ⟨_, f1⟩ := hf 1 _ _ _ rfl
  obtain ⟨_, f2⟩ := hf 2 _ _ _ rfl
  obtain ⟨_, f3⟩ := hf 3 _ _ _ rfl
  obtain ⟨_, f4⟩ := hf 4 _ _ _ rfl
  obtain ⟨_, f5⟩ := hf 5 _ _ _ rfl
  obtain ⟨_, f6⟩ := hf 6 _ _ _ rfl
  obtain ⟨_, f7⟩ := hf 7 _ _ _ rfl
  obtain ⟨_, f8⟩ := hf 8 _ _ _ rfl
  obtain ⟨_, f9⟩ := hf 9 _ _ _ rfl
  simp only [List.drop_zero, List.take_succ_cons, List.take_zero, List.drop_succ_cons] at f0 f1 f2 f3 f4 f5 f6 f7 f8 f9
  obtain ⟨v0, e0, x0, r0, b0⟩ := trod_num Tryz.underlying3 f0
  obtain ⟨v1, e1, x1, r1, b1⟩ := trod_num Tryz.underlying3 f1
  obtain ⟨v2, e2, x2, r2, b2⟩ := trod_num Tryz.underlying3 f2
  obtain ⟨v3, e3, x3, r3, b3⟩ := trod_num Tryz.underlying3 f3
  obtain ⟨v4, e4, x4, r4, b4⟩ := trod_num Tryz.underlying2 f4
  obtain ⟨v5, e5, x5, r5, b5⟩ := trod_str f5
  obtain ⟨v6, e6, x6, r6, b6⟩ := trod_str f6
  obtain ⟨v7, e7, x7, r7, b7⟩ := trod_ints f7
  obtain ⟨v8, e8, x8, r8, b8⟩ := trod_num Tryz.underlying3 f8
  obtain ⟨v9, e9, x9, r9, b9⟩ := trod_num Tryz.underlying3 f9
  cases e0; cases e1; cases e2; cases e3; cases e4; cases e5; cases e6; cases e7; cases e8; cases e9
  exact ⟨⟨x0, x1, x2, x3, x4, x5, x6, x7, x8, x9⟩, .cons r0 (.cons r1 (.cons r2 (.cons r3 (.cons r4 (.cons r5 (.cons r6 (.cons r7 (.cons r8 (.one r9))))))))), ⟨b0, b1, b2, b3, b4, b5, b6, b7, b8, b9⟩⟩
theorem trod_fu : ∀ fuel cs x, DataW.trod enc Tryz.prog w 0 spare held fuel 46 cs = some x → ∃ e, RVs (snap w) (cvFu e) cs ∧ FuB e := by
  intro fuel cs x h
  obtain ⟨n, rfl, hl, hf⟩ := trod_at flds_fu (by simp) h
  rw [cells_fu] at hl
  obtain ⟨c0, c1, c2, c3, c4, c5, c6, rfl⟩ := len7 hl
  obtain ⟨_, f0⟩ := hf 0 _ _ _ rfl
  obtain ⟨_, f1⟩ := hf 1 _ _ _ rfl
  obtain ⟨_, f2⟩ := hf 2 _ _ _ rfl
  obtain ⟨_, f3⟩ := hf 3 _ _ _ rfl
  obtain ⟨_, f4⟩ := hf 4 _ _ _ rfl
  obtain ⟨_, f5⟩ := hf 5 _ _ _ rfl
  obtain ⟨_, f6⟩ := hf 6 _ _ _ rfl
  simp only [List.drop_zero, List.take_succ_cons, List.take_zero, List.drop_succ_cons] at f0 f1 f2 f3 f4 f5 f6
  obtain ⟨v0, e0, x0, r0, b0⟩ := trod_str f0
  obtain ⟨v1, e1, x1, r1, b1⟩ := trod_str f1
  obtain ⟨v2, e2, x2, r2⟩ := trod_boo f2
  obtain ⟨v3, e3, x3, r3, b3⟩ := trod_num Tryz.underlying3 f3
  obtain ⟨v4, e4, x4, r4, b4, b4'⟩ := trod_lst cvFld FldB Tryz.underlying35 cells_fld (by omega) f4 (fun _ => rfl) fun n' hn' cs' y hy => trod_fld n' cs' y hy
  obtain ⟨v5, e5, x5, r5, b5⟩ := trod_str f5
  obtain ⟨v6, e6, x6, r6, b6, b6'⟩ := trod_lst cvIns InsB Tryz.underlying44 cells_ins (by omega) f6 (fun _ => rfl) fun n' hn' cs' y hy => trod_ins n' cs' y hy
  cases e0; cases e1; cases e2; cases e3; cases e4; cases e5; cases e6
  exact ⟨⟨x0, x1, x2, x3, x4, x5, x6⟩, .cons r0 (.cons r1 (.cons r2 (.cons r3 (.cons r4 (.cons r5 (.one r6)))))), ⟨b0, b1, b3, b4, b4', b5, b6, b6'⟩⟩
theorem trod_hi {fuel : Nat} {cs : List Value} {x : DataW H × List MemPlace} (h : DataW.trod enc Tryz.prog w 0 spare held fuel 27 cs = some x) : ∃ v, cs = [v] ∧ ∃ l : List Cd, RV (snap w) (.lst (l.map cvCd)) v ∧ l.length ≤ maxLen ∧ ∀ x ∈ l, CdB x := by
  obtain ⟨n, rfl, hl, hf⟩ := trod_at flds_hi (by simp) h
  rw [cells_hi] at hl
  obtain ⟨c0, rfl⟩ := len1 hl
  obtain ⟨_, f0⟩ := hf 0 _ _ _ rfl
  simp only [List.drop_zero, List.take_succ_cons, List.take_zero] at f0
  exact trod_lst cvCd CdB Tryz.underlying25 cells_cd (by omega) f0 (fun _ => rfl) fun n' hn' cs' y hy => trod_cd n' cs' y hy
theorem trod_un {fuel : Nat} {cs : List Value} {x : DataW H × List MemPlace} (h : DataW.trod enc Tryz.prog w 0 spare held fuel 30 cs = some x) : ∃ u, RVs (snap w) (cvUn u) cs ∧ UnB u := by
  obtain ⟨n, rfl, hl, hf⟩ := trod_at flds_un (by simp) h
  rw [cells_un] at hl
  obtain ⟨c0, c1, c2, rfl⟩ := len3 hl
  obtain ⟨_, f0⟩ := hf 0 _ _ _ rfl
  obtain ⟨_, f1⟩ := hf 1 _ _ _ rfl
  obtain ⟨_, f2⟩ := hf 2 _ _ _ rfl
  simp only [List.drop_zero, List.take_succ_cons, List.take_zero, List.drop_succ_cons] at f0 f1 f2
  obtain ⟨v0, e0, x0, r0, b0, b0'⟩ := trod_hi f0
  obtain ⟨v1, e1, x1, r1, b1, b1'⟩ := trod_lst cvFu FuB Tryz.underlying28 cells_fu (by omega) f1 (fun _ => rfl) fun n' hn' cs' y hy => trod_fu n' cs' y hy
  obtain ⟨v2, e2, x2, r2, b2⟩ := trod_num Tryz.underlying3 f2
  cases e0; cases e1; cases e2
  exact ⟨⟨x0, x1, x2⟩, .cons r0 (.cons r1 (.one r2)), ⟨b0, b0', b1, b1', b2⟩⟩
end
end Go.Proofs.YtdjllogimomgmaaGreatDoor
