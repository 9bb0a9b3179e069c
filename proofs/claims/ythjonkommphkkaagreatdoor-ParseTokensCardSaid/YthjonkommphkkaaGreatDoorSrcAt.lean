/-
  append of a whole slice onto a row of the call's own, as a step of a region that draws; and how parse.Program ends, in one form.
-/
import Derived.Test.YthjonkommphkkaaGreatDoorParTopProg
import Derived.Test.YthjonkommphkkaaGreatDoorParPost
import Derived.Deep.RegionLaw
import Derived.Deep.AppendLies
import Derived.Laws.OwnMore
namespace Go.Proofs.YthjonkommphkkaaGreatDoor
open Lx Go.RowKit
/-- What an append reads: nothing, or the cells of a row. -/
def SrcAt (w : World) (src : Value) (m size : Nat) (news : List Value) : Prop := news.length = m * size ∧ (∀ u ∈ news, u.oneCell' = true) ∧ ((∃ c, src = .slice none 0 c ∧ m = 0) ∨ ∃ ad c, src = .slice (some ad) m c ∧ ∀ j u, news[j]? = some u → w.cell? (ad.add j) = some u)
theorem add_block (ad : Addr) (k : Nat) : (ad.add k).block = ad.block := by unfold Addr.add; split <;> rfl
theorem SrcAt.below {w w' : World} {src : Value} {m size : Nat} {news : List Value} (h : SrcAt w src m size news) (hb : Below w.heap.size w w') : SrcAt w' src m size news := by
  obtain ⟨h1, h2, h3 | ⟨ad, c, h3, h4⟩⟩ := h
  · exact ⟨h1, h2, .inl h3⟩
  · refine ⟨h1, h2, .inr ⟨ad, c, h3, fun j u hu => ?_⟩⟩
    have h5 := h4 j u hu
    rw [hb.cell (World.block_lt_of_cell? w _ h5)]
    exact h5
theorem flat_from {α : Type} {w : World} {k g off : Nat} {P : α → List Value → Prop} {l : List α} (hc : ∀ i (h : i < l.length), ∃ cs : List Value, cs.length = k ∧ (∀ j, j < k → w.cell? ⟨g, off + (i * k + j), none⟩ = cs[j]?) ∧ P l[i] cs) :
    ∀ m, m ≤ l.length → ∃ xs, Flat k P (l.take m) xs ∧ ∀ j, j < m * k → w.cell? ⟨g, off + j, none⟩ = xs[j]? := by
  intro m
  induction m with
  | zero => intro _; exact ⟨[], Flat.nil, fun j hj => by simp at hj⟩
  | succ m ih =>
    intro hm
    obtain ⟨xs, hf, hx⟩ := ih (by omega)
    obtain ⟨cs, h1, h2, h3⟩ := hc m (by omega)
    have hl : xs.length = m * k := by rw [hf.1, List.length_take]; congr 1; omega
    refine ⟨xs ++ cs, ?_, fun j hj => ?_⟩
    · rw [List.take_succ_eq_append_getElem (by omega)]
      exact hf.snoc h1 h3
    · by_cases hlt : j < m * k
      · rw [List.getElem?_append_left (by omega)]; exact hx j hlt
      · rw [List.getElem?_append_right (by omega), hl]
        have hjk : j - m * k < k := by rw [Nat.succ_mul] at hj; omega
        have := h2 (j - m * k) hjk
        rw [← this, show off + (m * k + (j - m * k)) = off + j from by omega]
theorem IsCl.one {A : Nat → Prop} {w : World} {d : Nat} {e : Cl} {cs : List Value} (h : IsCl A w d e cs) : ∀ u ∈ cs, u.oneCell' = true := by
  obtain ⟨v1, v2, rfl, h1, h2⟩ := h
  have hv : v1.oneCell' = true := by obtain ⟨_, ⟨_, a, c, rfl⟩ | ⟨g, off, c, rfl, _⟩⟩ := h1 <;> rfl
  have hv2 : v2.oneCell' = true := by obtain ⟨_, ⟨_, a, c, rfl⟩ | ⟨g, off, c, rfl, _⟩⟩ := h2 <;> rfl
  intro u hu
  simp at hu
  rcases hu with rfl | rfl | rfl | rfl <;> first | rfl | exact hv | exact hv2
theorem add_off (g off k : Nat) : (⟨g, off, none⟩ : Addr).add k = ⟨g, off + k, none⟩ := by
  unfold Addr.add; split
  · rename_i h; rw [h]; rfl
  · rfl
theorem IsList.src {α : Type} {w : World} {k : Nat} {P : α → List Value → Prop} {l : List α} {v : Value} (hk : 0 < k) (h : IsList Any w k P l v) (hP : ∀ x cs, P x cs → ∀ u ∈ cs, u.oneCell' = true) : ∃ xs, Flat k P l xs ∧ SrcAt w v l.length k xs := by
  obtain ⟨hl, ⟨rfl, a, c, rfl⟩ | ⟨g, off, cap, rfl, hA, hc⟩⟩ := h
  · refine ⟨[], Flat.nil, by simp, by simp, ?_⟩
    cases a with
    | none => exact .inl ⟨c, rfl, rfl⟩
    | some ad => exact .inr ⟨ad, c, rfl, by simp⟩
  · obtain ⟨xs, hf, hx⟩ := flat_from hc l.length (Nat.le_refl _)
    rw [List.take_length] at hf
    refine ⟨xs, hf, hf.1, hf.ones hk hP, .inr ⟨_, cap, rfl, fun j u hu => ?_⟩⟩
    have hj : j < xs.length := (List.getElem?_eq_some_iff.1 hu).1
    rw [add_off, hx j (by rw [← hf.1]; exact hj), hu]
theorem run_append_none_any {P : Program} (w : World) (base : Nat) (t ty e : TypeId) (i : TypeInfo) (size : Nat) (ht : P.underlying t = some (.slice e)) (hi : P.info? e = some i)
    (v : Value) (n : Nat) (xs : List Value) (hown : w.ownsRow base e size v n xs) (c : Nat) :
    (Builtin.append_ #[t, t] ty #[v, .slice none 0 c]).run P w = .ok v w := by
  rcases hown.2 with ⟨rfl, rfl⟩ | ⟨g, cap, cur, rfl, _, _, hnc, _⟩
  · simp [Builtin.append_, run_underlying ht, sizeOf, typeInfo, hi, Builtin.lenOf, Builtin.firstCells]
  · simp [Builtin.append_, run_underlying ht, sizeOf, typeInfo, hi, Builtin.lenOf, Builtin.firstCells, hnc, storeCells]
/-- append of a whole slice, as one step of a region that draws. -/
theorem step_append_src {P : Program} {w : World} {ops : Array Oper} {o : Oper} {a : Act} {K : Act → World → Prop} {Q : Exit → Act → World → Prop} {E : Prop} (hgd : o.guard = none) (s x : Operand) (t : TypeId)
    (ho : o.op = .call { callee := .builtin .append, args := #[s, x], argTypes := #[t, t] })
    (base : Nat) (e : TypeId) (i : TypeInfo) (z : Value) (size bytes : Nat) (ht : P.underlying t = some (.slice e)) (hi : P.info? e = some i) (hz : i.zero = some z)
    (hsize : i.size = size) (hby : i.bytes = bytes) (hzs : z.cells.size = size) (hsz : 0 < size)
    (v : Value) (n : Nat) (xs : List Value) (hs : a.eval s = v) (hown : w.ownsRow base e size v n xs)
    (src : Value) (m : Nat) (news : List Value) (hx : a.eval x = src) (hsrc : SrcAt w src m size news)
    (h63 : n + m ≤ maxLen) (hbytes : (n + m) * bytes ≤ 140737488355328) (hbase : base ≤ w.heap.size)
    (h : ∀ v' w', w'.ownsRow base e size v' (n + m) (xs ++ news) → w.grownBy w' v.ownBlock → (v'.ownBlock = v.ownBlock ∨ v'.ownBlock = some w.heap.size) → K (a.put o.dst v') w') :
    if Region.wanted o (yielded ops a.tmps) = true then Oper.wp P o a w K Q else E := by
  have hw : Region.wanted o (yielded ops a.tmps) = true := by simp [Region.wanted, hgd]
  rw [if_pos hw]
  obtain ⟨hl, h1, ⟨c, rfl, rfl⟩ | ⟨ad, c, rfl, hc⟩⟩ := hsrc
  · have hn : news = [] := List.eq_nil_of_length_eq_zero (by simpa using hl)
    subst hn
    have hr := run_append_none_any (P := P) w base t o.type e i size ht hi v n xs hown c
    unfold Oper.wp execOp
    simp only [ho, resolve, invoke, builtin, Sem.run_bind, Sem.run_pure, Result.andThen_ok, List.map_toArray, List.map_cons, List.map_nil, hs, hx, hr]
    exact h v w (by simpa using hown) ⟨rfl, rfl, rfl, Nat.le_refl _, fun _ _ _ => rfl⟩ (.inl rfl)
  · obtain ⟨v', w', hr, h2, h3, _, h5⟩ := run_append_own_at (P := P) w base t o.type e i z size bytes ht hi hz hsize hby hzs hsz v n xs hown ad m c news hl hc h1 h63 hbytes hbase
    unfold Oper.wp execOp
    simp only [ho, resolve, invoke, builtin, Sem.run_bind, Sem.run_pure, Result.andThen_ok, List.map_toArray, List.map_cons, List.map_nil, hs, hx, hr]
    exact h v' w' h2 h3 h5
theorem ownsRow.sliceForm {w : World} {base : Nat} {e : TypeId} {size : Nat} {v : Value} {n : Nat} {xs : List Value} (h : w.ownsRow base e size v n xs) : ∃ a m c, v = .slice a m c := by
  rcases h.2 with ⟨h, _⟩ | ⟨g, cap, cur, h, _⟩ <;> exact ⟨_, _, _, h⟩
theorem programR_err {l : Bytes} {p er : Nat} (h : programR l = .error (p, er)) : er ≠ 0 := by
  unfold programR at h
  cases hr : readR (fun ts => programP ts 0) l with
  | error x =>
    rw [hr] at h
    obtain ⟨q, f⟩ := x
    have := readR_err hr
    cases h; omega
  | ok c =>
    rw [hr] at h
    simp only at h
    split at h
    · rename_i h0; cases h; exact h0
    · cases h
theorem programR_len {l : Bytes} {c : List Cl} (h : programR l = .ok c) : l.length ≤ 65536 := by
  unfold programR readR at h
  cases ht : tokensOf l with
  | error x => rw [ht] at h; cases h
  | ok ts => exact (tokensOf_len ht).1
theorem programR_few {l : Bytes} {c : List Cl} (h : programR l = .ok c) : c.length ≤ 64 := by
  unfold programR at h
  cases hr : readR (fun ts => programP ts 0) l with
  | error x => rw [hr] at h; cases h
  | ok x =>
    rw [hr] at h
    simp only at h
    split at h
    · cases h
    · rename_i h0
      cases h
      simp only [ne_eq, Decidable.not_not] at h0
      unfold sourceLim at h0
      split at h0
      · cases h0
      · omega
/-- How parse.Program ends, in one form. -/
theorem ProgOut.form {w : World} {l : Bytes} {e : Ending} {w' : World} (h : ProgOut w (programR l) e w') : Below w.heap.size w w' ∧ ∃ (a : Option Addr) (n c : Nat) (p er : Int), e = .returned (.tuple #[.agg #[.slice a n c], .int .i64 p, .int .i64 er]) ∧ ∃ (x : List Cl) (d : Nat), IsList Any w' 4 (IsCl Any w' d) x (.slice a n c) ∧
    ((er = 0 ∧ p = 0 ∧ programR l = .ok x) ∨ ((er != 0) = true ∧ ∃ (q f : Nat), p = (q : Int) ∧ er = (f : Int) ∧ x = [] ∧ programR l = .error (q, f))) := by
  obtain ⟨hb, h⟩ := h
  refine ⟨hb, ?_⟩
  cases hr : programR l with
  | error x =>
    obtain ⟨p, er⟩ := x
    rw [hr] at h
    have h0 := programR_err hr
    exact ⟨none, 0, 0, p, er, h, [], 0, ⟨by simp, .inl ⟨rfl, _, _, rfl⟩⟩, .inr ⟨by rw [bne_iff_ne]; omega, p, er, rfl, rfl, rfl, rfl⟩⟩
  | ok x =>
    rw [hr] at h
    obtain ⟨a, n, c, h1, d, h2⟩ := h
    exact ⟨a, n, c, 0, 0, h1, x, d, h2.sub (fun _ _ _ => trivial) (by omega) fun _ _ _ => IsCl.sub fun _ _ _ => trivial, .inl ⟨rfl, rfl, rfl⟩⟩
end Go.Proofs.YthjonkommphkkaaGreatDoor
