/-
  A range over a string, for the lexer: what the runes say of the bytes; the state of the lexer's loop as a plain relation.
-/
import Derived.Test.YthjonkommphkkaaDoorLexMark
import Derived.Laws.RangeAny
import Derived.Lib.OthersKept
namespace Go.Proofs.YthjonkommphkkaaDoor
open Lx Go.RowKit
theorem get_at_plus (s : ByteArray) (i : Nat) (h : i < s.size) : s.get! i = s[i]'h := get_at s i h
theorem decode_bytes (s : ByteArray) (pos : Nat) (h : pos < s.size) (ha : 128 ≤ (s[pos]'h).toNat) (j : Nat) (hj : j < (Utf8.decode s pos).2) : ∃ h' : pos + j < s.size, 128 ≤ (s[pos + j]'h').toNat := by
  have hn : ¬ (s[pos]'h).toNat < 128 := by omega
  have hcont : ∀ k, (decide (pos + k < s.size) && (s.get! (pos + k)).toNat / 64 == 2) = true → ∃ h' : pos + k < s.size, 128 ≤ (s[pos + k]'h').toNat := by
    intro k hk
    simp only [Bool.and_eq_true, decide_eq_true_eq, beq_iff_eq] at hk
    refine ⟨hk.1, ?_⟩
    rw [← get_at_plus s (pos + k) hk.1]; omega
  simp only [Utf8.decode, get_at s pos h, hn, if_false] at hj
  cases j with
  | zero => exact ⟨h, ha⟩
  | succ j =>
    split at hj
    · rename_i hb
      simp only [Bool.and_eq_true] at hb
      have c1 := hcont 1 (by simpa using hb.2)
      split at hj
      · obtain rfl : j = 0 := by simp at hj; omega
        exact c1
      · simp at hj
    · split at hj
      · rename_i hb
        simp only [Bool.and_eq_true] at hb
        have c1 := hcont 1 (by simpa using hb.1.2)
        have c2 := hcont 2 (by simpa using hb.2)
        split at hj
        · have hj' : j = 0 ∨ j = 1 := by simp at hj; omega
          rcases hj' with rfl | rfl
          · exact c1
          · exact c2
        · simp at hj
      · split at hj
        · rename_i hb
          simp only [Bool.and_eq_true] at hb
          have c1 := hcont 1 (by simpa using hb.1.1.2)
          have c2 := hcont 2 (by simpa using hb.1.2)
          have c3 := hcont 3 (by simpa using hb.2)
          split at hj
          · have hj' : j = 0 ∨ j = 1 ∨ j = 2 := by simp at hj; omega
            rcases hj' with rfl | rfl | rfl
            · exact c1
            · exact c2
            · exact c3
          · simp at hj
        · simp at hj
theorem next_at {P : Program} (w : World) (k : Nat) (s : ByteArray) (pos : Nat) (hk : w.heap[k]? = some (.stringIter s pos)) (h : pos < s.size) :
    ∃ (r : Int) (wd : Nat), (∀ ty, (Instr.next (.pointer (some ⟨k, 0, none⟩)) true ty).run P w = .ok (.tuple #[.bool true, .int .i64 pos, .int .i32 r]) (w.iterAt k s (pos + wd))) ∧
      1 ≤ wd ∧ pos + wd ≤ s.size ∧ ((s[pos]'h).toNat < 128 → r = (s[pos]'h).toNat ∧ wd = 1) ∧ (128 ≤ (s[pos]'h).toNat → 128 ≤ r ∧ ∀ j, j < wd → ∃ h' : pos + j < s.size, 128 ≤ (s[pos + j]'h').toNat) := by
  by_cases ha : (s[pos]'h).toNat < 128
  · exact ⟨_, 1, fun ty => Lib.run_next_ascii_at w k s pos ty hk h ha, Nat.le_refl _, by omega, fun _ => ⟨rfl, rfl⟩, fun hb => absurd ha (by omega)⟩
  · have hb : 128 ≤ (s[pos]'h).toNat := by omega
    have hd := decode_high s pos h hb
    refine ⟨((Utf8.decode s pos).1 : Nat), (Utf8.decode s pos).2, fun ty => Lib.run_next_any_at w k s pos ty hk h, hd.2, ?_, fun hc => absurd hc ha, fun _ => ⟨by omega, fun j hj => decode_bytes s pos h hb j hj⟩⟩
    obtain ⟨h', _⟩ := decode_bytes s pos h hb ((Utf8.decode s pos).2 - 1) (by omega)
    omega
namespace Lx
theorem part_ascii {c : UInt8} (h : isPart c = true) : c.toNat < 128 := by
  simp [isPart, isLetter, isDigit] at h; omega
theorem span_ascii (p : UInt8 → Bool) (hp : ∀ c, p c = true → c.toNat < 128) (l : Bytes) (j : Nat) (hj : j < spanOf p l) : (l.getD j 0).toNat < 128 := by
  induction l generalizing j with
  | nil => simp [spanOf] at hj
  | cons c t ih =>
    simp only [spanOf] at hj
    split at hj
    · rename_i hc
      cases j with
      | zero => simpa using hp c hc
      | succ j => simpa using ih j (by omega)
    · omega
theorem mark_ascii {l : Bytes} {m : Nat} (h : markLen l = some m) (j : Nat) (hj : j < m) : (l.getD j 0).toNat < 128 := by
  simp only [markLen, Option.map_eq_some_iff] at h
  obtain ⟨x, hx, rfl⟩ := h
  have h1 := List.find?_some hx
  have h2 := List.mem_of_find?_eq_some hx
  obtain ⟨r, rfl⟩ := List.isPrefixOf_iff_prefix.1 h1
  have hall : ∀ y ∈ markList, ∀ c ∈ y, c.toNat < 128 := by decide
  have := hall x h2 (x.getD j 0) (by rw [List.getD_eq_getElem?_getD, List.getElem?_eq_getElem hj]; simp)
  simpa [List.getD_eq_getElem?_getD, List.getElem?_append_left hj] using this
theorem oneTok_ascii {l : Bytes} {k m n : Nat} (h : oneTok l = .ok k m n) (j : Nat) (hj : j < m) : (l.getD j 0).toNat < 128 := by
  cases l with
  | nil => simp [oneTok] at h
  | cons c t =>
    simp only [oneTok] at h
    by_cases h1 : isLetter c = true
    · rw [if_pos h1] at h
      simp only [wordTok] at h
      split at h
      · simp at h
      · simp only [OneR.ok.injEq] at h
        rw [← h.2.1] at hj
        exact span_ascii _ (fun _ => part_ascii) _ _ hj
    · rw [if_neg h1] at h
      by_cases h2 : isDigit c = true
      · rw [if_pos h2] at h
        simp only [numTok] at h
        split at h
        · simp at h
        · split at h
          · simp at h
          · simp only [OneR.ok.injEq] at h
            rw [← h.2.1] at hj
            exact span_ascii _ (fun _ hc => part_ascii (part_of_digit hc)) _ _ hj
      · rw [if_neg h2] at h
        simp only [markTok] at h
        cases hm : markLen (c :: t) with
        | none => rw [hm] at h; simp at h
        | some x =>
          rw [hm] at h
          simp only [OneR.ok.injEq] at h
          rw [← h.2.1] at hj
          exact mark_ascii hm j hj
/-- The state of the lexer's loop: the offset, the offset behind the last token, in a comment, the tokens so far. -/
def Rest (l : Bytes) (pos nx : Nat) (cm : Bool) (out : List Tok) : Prop :=
  (pos < nx ∧ cm = false ∧ (∀ j, pos ≤ j → j < nx → (l.getD j 0).toNat < 128) ∧ lexAt false 0 l = after out (lexAt false nx (l.drop nx))) ∨
  (nx ≤ pos ∧ lexAt false 0 l = after out (lexAt cm pos (l.drop pos)))
theorem rest_start (l : Bytes) : Rest l 0 0 false [] := .inr ⟨Nat.le_refl _, by rw [after_nil]; rfl⟩
theorem getD_at (s : ByteArray) (j : Nat) (h : j < s.size) : s.data.toList.getD j 0 = s[j] := by
  rw [List.getD_eq_getElem?_getD, List.getElem?_eq_getElem (by simpa using h)]; rfl
theorem rest_in_ascii {s : ByteArray} {pos nx : Nat} {cm : Bool} {out : List Tok} (h : Rest s.data.toList pos nx cm out) (hp : pos < s.size) (hin : pos < nx) : s[pos].toNat < 128 ∧ cm = false ∧ Rest s.data.toList (pos + 1) nx cm out := by
  rcases h with ⟨_, rfl, ha, hl⟩ | ⟨hn, _⟩
  · refine ⟨by rw [← getD_at s pos hp]; exact ha pos (Nat.le_refl _) hin, rfl, ?_⟩
    by_cases h2 : pos + 1 < nx
    · exact .inl ⟨h2, rfl, fun j h3 h4 => ha j (by omega) h4, hl⟩
    · obtain rfl : nx = pos + 1 := by omega
      exact .inr ⟨Nat.le_refl _, hl⟩
  · omega
theorem rest_out {l : Bytes} {pos nx : Nat} {cm : Bool} {out : List Tok} (h : Rest l pos nx cm out) (hin : ¬ pos < nx) : lexAt false 0 l = after out (lexAt cm pos (l.drop pos)) := by
  rcases h with ⟨h1, _⟩ | ⟨_, hl⟩
  · exact absurd h1 hin
  · exact hl
theorem rest_line {s : ByteArray} {pos nx : Nat} {out : List Tok} (h : Rest s.data.toList pos nx true out) (hp : pos < s.size) (hin : ¬ pos < nx) (hc : s[pos].toNat = 10) : Rest s.data.toList (pos + 1) nx false out :=
  .inr ⟨by omega, by rw [rest_out h hin, drop_cons s pos hp, lexAt_line hc]⟩
theorem lexAt_comments (s : ByteArray) (pos : Nat) : ∀ k, pos + k ≤ s.size → (∀ j, j < k → ∃ h : pos + j < s.size, s[pos + j].toNat ≠ 10) → lexAt true pos (s.data.toList.drop pos) = lexAt true (pos + k) (s.data.toList.drop (pos + k)) := by
  intro k
  induction k with
  | zero => intro _ _; rfl
  | succ k ih =>
    intro hk h
    obtain ⟨h1, h2⟩ := h k (by omega)
    rw [ih (by omega) (fun j hj => h j (by omega)), drop_cons s (pos + k) h1, lexAt_comment h2]
    rfl
theorem rest_comment {s : ByteArray} {pos nx k : Nat} {out : List Tok} (h : Rest s.data.toList pos nx true out) (hin : ¬ pos < nx) (hk : pos + k ≤ s.size) (hc : ∀ j, j < k → ∃ h : pos + j < s.size, s[pos + j].toNat ≠ 10) : Rest s.data.toList (pos + k) nx true out :=
  .inr ⟨by omega, by rw [rest_out h hin, lexAt_comments s pos k hk hc]⟩
theorem rest_sep {s : ByteArray} {pos nx : Nat} {out : List Tok} (h : Rest s.data.toList pos nx false out) (hp : pos < s.size) (hin : ¬ pos < nx) (hc : isSep s[pos] = true) : Rest s.data.toList (pos + 1) nx false out :=
  .inr ⟨by omega, by rw [rest_out h hin, drop_cons s pos hp, lexAt_sep hc]⟩
theorem rest_open {s : ByteArray} {pos nx : Nat} {out : List Tok} (h : Rest s.data.toList pos nx false out) (hp : pos < s.size) (hin : ¬ pos < nx) (hc : isSep s[pos] = false) (ho : opens s[pos] (s.data.toList.drop (pos + 1)) = true) : Rest s.data.toList (pos + 1) nx true out :=
  .inr ⟨by omega, by rw [rest_out h hin, drop_cons s pos hp, lexAt_open hc ho]⟩
theorem rest_bad {s : ByteArray} {pos nx e : Nat} {out : List Tok} (h : Rest s.data.toList pos nx false out) (hp : pos < s.size) (hin : ¬ pos < nx) (hc : isSep s[pos] = false) (ho : opens s[pos] (s.data.toList.drop (pos + 1)) = false) (ht : oneTok (s.data.toList.drop pos) = .bad e) :
    lexAt false 0 s.data.toList = .error (pos, e) := by
  rw [drop_cons s pos hp] at ht
  rw [rest_out h hin, drop_cons s pos hp, lexAt_bad hc ho ht]; rfl
theorem rest_ok {s : ByteArray} {pos nx k m n : Nat} {out : List Tok} (h : Rest s.data.toList pos nx false out) (hp : pos < s.size) (hin : ¬ pos < nx) (hc : isSep s[pos] = false) (ho : opens s[pos] (s.data.toList.drop (pos + 1)) = false) (ht : oneTok (s.data.toList.drop pos) = .ok k m n) :
    Rest s.data.toList (pos + 1) (pos + m) false (out ++ [⟨k, pos, (s.data.toList.drop pos).take m, n⟩]) := by
  have hb := oneTok_bounds ht
  have ha := fun j hj => oneTok_ascii ht j hj
  have hl : lexAt false 0 s.data.toList = after (out ++ [⟨k, pos, (s.data.toList.drop pos).take m, n⟩]) (lexAt false (pos + m) (s.data.toList.drop (pos + m))) := by
    rw [rest_out h hin]
    have e := drop_cons s pos hp
    rw [e] at ht
    rw [e, lexAt_ok hc ho ht, after_after, ← e, List.drop_drop]
  by_cases h2 : pos + 1 < pos + m
  · refine .inl ⟨h2, rfl, fun j h3 h4 => ?_, hl⟩
    have := ha (j - pos) (by omega)
    rw [List.getD_eq_getElem?_getD, List.getElem?_drop] at this
    rw [List.getD_eq_getElem?_getD]
    rwa [show pos + (j - pos) = j from by omega] at this
  · have : m = 1 := by omega
    subst this
    exact .inr ⟨Nat.le_refl _, hl⟩
theorem rest_end {s : ByteArray} {pos nx : Nat} {cm : Bool} {out : List Tok} (h : Rest s.data.toList pos nx cm out) (hp : pos = s.size) (hn : nx ≤ s.size) : lexAt false 0 s.data.toList = .ok (out ++ [⟨5, s.size, [], 0⟩]) := by
  subst hp
  rw [rest_out h (by omega), List.drop_eq_nil_of_le (by rw [len_list]; exact Nat.le_refl _), lexAt_nil]; rfl
theorem oneTok_high {s : ByteArray} {pos : Nat} (hp : pos < s.size) (ha : 128 ≤ s[pos].toNat) : oneTok (s.data.toList.drop pos) = .bad 2 := by
  cases ht : oneTok (s.data.toList.drop pos) with
  | ok k m n =>
    have hb := oneTok_bounds ht
    have := oneTok_ascii ht 0 hb.1
    rw [List.getD_eq_getElem?_getD, List.getElem?_drop, Nat.add_zero, ← List.getD_eq_getElem?_getD, getD_at s pos hp] at this
    omega
  | bad e =>
    rw [drop_cons s pos hp] at ht
    have h1 : isLetter s[pos] = false := by simp [isLetter]; omega
    have h2 : isDigit s[pos] = false := by simp [isDigit]; omega
    simp only [oneTok, h1, h2, markTok, Bool.false_eq_true, if_false] at ht
    cases hm : markLen (s[pos] :: s.data.toList.drop (pos + 1)) with
    | none => rw [hm] at ht; simpa using ht.symm
    | some x => rw [hm] at ht; cases ht
theorem sep_of {c : UInt8} {r : Int} (hr : r = c.toNat) : isSep c = true ↔ (r = 32 ∨ r = 9 ∨ r = 13 ∨ r = 10) := by
  simp only [isSep, decide_eq_true_eq]; omega
theorem opens_eq (s : ByteArray) (pos : Nat) (hp : pos < s.size) : ([47, 47] : Bytes).isPrefixOf (s.data.toList.drop pos) = opens s[pos] (s.data.toList.drop (pos + 1)) := by
  rw [drop_cons s pos hp]
  generalize s.data.toList.drop (pos + 1) = t
  generalize s[pos] = c
  rw [Bool.eq_iff_iff]
  simp only [opens, Bool.and_eq_true, decide_eq_true_eq]
  cases t with
  | nil => simp
  | cons d u =>
    simp only [List.isPrefixOf, Bool.and_eq_true, beq_iff_eq, List.head?_cons, Option.some.injEq, and_true]
    refine and_congr ⟨fun h => by rw [← h]; rfl, fun h => ?_⟩ eq_comm
    exact (UInt8.toNat_inj.1 (by simpa using h)).symm
end Lx
end Go.Proofs.YthjonkommphkkaaDoor
