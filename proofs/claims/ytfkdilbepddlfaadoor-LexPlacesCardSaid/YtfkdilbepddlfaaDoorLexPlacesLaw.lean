/-
  LexPlaces: lex.Position, the reference's Position and the law, walked.
-/
import Derived.Test.YtfkdilbepddlfaaDoorLaw07Awake
import Derived.Test.YtfkdilbepddlfaaDoorShelfTwo
import Derived.Lib.LastIndexLaws
import Derived.OpenShut
namespace Go.Proofs.YtfkdilbepddlfaaDoor
open Lx Go.RowKit
namespace Lx
def stepLC (x : Nat × Nat) (c : UInt8) : Nat × Nat := if c = 10 then (x.1 + 1, 1) else (x.1, x.2 + 1)
def place (l : Bytes) : Nat × Nat := l.foldl stepLC (1, 1)
theorem place_snoc (l : Bytes) (c : UInt8) : place (l ++ [c]) = stepLC (place l) c := by unfold place; rw [List.foldl_append]; rfl
theorem snoc_ind {P : Bytes → Prop} (h0 : P []) (h1 : ∀ l c, P l → P (l ++ [c])) (l : Bytes) : P l := by
  have : ∀ n (l : Bytes), l.length = n → P l := by
    intro n
    induction n with
    | zero => intro l hl; rw [List.length_eq_zero_iff.1 hl]; exact h0
    | succ n ih =>
      intro l hl
      have hne : l ≠ [] := by intro e; rw [e] at hl; cases hl
      rw [← List.dropLast_concat_getLast hne]
      exact h1 _ _ (ih _ (by rw [List.length_dropLast]; omega))
  exact this l.length l rfl
theorem lastIndex_nil : Lib.lastIndex [] [10] = -1 := by decide
theorem lastIndex_eq (l : Bytes) : Lib.lastIndex l [10] = Lib.lastOcc l [10] l.length := by
  unfold Lib.lastIndex
  cases l with
  | nil => simp [Lib.lastOcc]
  | cons c t => rw [if_pos (by simp)]; rfl
theorem occ_app (l : Bytes) (c : UInt8) (k : Nat) (h : k < l.length) : Lib.occAt (l ++ [c]) [10] k = Lib.occAt l [10] k := by
  unfold Lib.occAt
  rw [List.drop_append_of_le_length (by omega), List.drop_eq_getElem_cons h, List.cons_append]
  simp only [List.isPrefixOf]
theorem lastOcc_app (l : Bytes) (c : UInt8) : ∀ k, k ≤ l.length → Lib.lastOcc (l ++ [c]) [10] k = Lib.lastOcc l [10] k := by
  intro k
  induction k with
  | zero => intro _; rfl
  | succ k ih =>
    intro hk
    simp only [Lib.lastOcc, occ_app l c k (by omega), ih (by omega)]
theorem lastIndex_snoc (l : Bytes) (c : UInt8) : Lib.lastIndex (l ++ [c]) [10] = if c = 10 then (l.length : Int) else Lib.lastIndex l [10] := by
  rw [lastIndex_eq, lastIndex_eq, List.length_append]
  have e : Lib.occAt (l ++ [c]) [10] l.length = decide (c = 10) := by
    unfold Lib.occAt
    rw [List.drop_left, Bool.eq_iff_iff]
    simp only [List.isPrefixOf, Bool.and_true, beq_iff_eq, decide_eq_true_eq]
    exact ⟨Eq.symm, Eq.symm⟩
  show Lib.lastOcc (l ++ [c]) [10] (l.length + 1) = _
  simp only [Lib.lastOcc, e, decide_eq_true_eq]
  split
  · rfl
  · exact lastOcc_app l c _ (Nat.le_refl _)
theorem place_line (l : Bytes) : (place l).1 = 1 + Lib.countByte l 10 := by
  induction l using snoc_ind with
  | h0 => rfl
  | h1 l c ih =>
    rw [place_snoc, stepLC]
    unfold Lib.countByte at ih ⊢
    rw [List.count_append]
    by_cases h : c = 10
    · subst h; simp [ih]; omega
    · rw [if_neg h]
      have : List.count 10 [c] = 0 := by rw [List.count_singleton]; simp [h]
      simp only [this]; omega
theorem place_col (l : Bytes) : ((place l).2 : Int) = (l.length : Int) - Lib.lastIndex l [10] := by
  induction l using snoc_ind with
  | h0 => rw [lastIndex_nil]; rfl
  | h1 l c ih =>
    rw [place_snoc, stepLC, lastIndex_snoc, List.length_append]
    by_cases h : c = 10
    · rw [if_pos h, if_pos h]; simp; omega
    · rw [if_neg h, if_neg h]; simp; omega
theorem place_le (l : Bytes) : 1 ≤ (place l).1 ∧ (place l).1 ≤ l.length + 1 ∧ 1 ≤ (place l).2 ∧ (place l).2 ≤ l.length + 1 := by
  induction l using snoc_ind with
  | h0 => simp [place]
  | h1 l c ih =>
    rw [place_snoc, stepLC, List.length_append]
    simp only [List.length_cons, List.length_nil]
    split <;> simp <;> omega
theorem take_snoc (s : ByteArray) (k : Nat) (h : k < s.size) : s.data.toList.take (k + 1) = s.data.toList.take k ++ [s[k]] := by
  rw [List.take_succ_eq_append_getElem (by simpa using h)]; rfl
/-- Line, column and error of an offset. -/
def placeOf (l : Bytes) (at' : Int) : Nat × Nat × Nat := if 65536 < l.length then (0, 0, 3) else if at' < 0 ∨ (l.length : Int) < at' then (0, 0, 4) else ((place (l.take at'.toNat)).1, (place (l.take at'.toNat)).2, 0)
end Lx
def placeV (x : Nat × Nat × Nat) : Value := .tuple #[.int .i64 (x.1 : Int), .int .i64 (x.2.1 : Int), .int .i64 (x.2.2 : Int)]
set_option maxHeartbeats 1000000 in
theorem lex_Position (s : ByteArray) (a : Int) (w : World) (hs : s.size ≤ maxLen) (ha : -9223372036854775808 ≤ a ∧ a ≤ 9223372036854775807) : Calls Tryd.prog 19 #[.string s, .int .i64 a] w fun e w' => e = .returned (placeV (placeOf s.data.toList a)) ∧ w = w' := by
  unfold maxLen at hs
  have hl := len_list s
  have HP : Hid (placeOf s.data.toList a = if 65536 < s.size then (0, 0, 3) else if a < 0 ∨ (s.size : Int) < a then (0, 0, 4) else ((place (s.data.toList.take a.toNat)).1, (place (s.data.toList.take a.toNat)).2, 0)) := by show _ = _; rw [placeOf, hl]
  clear hl
  by_cases h1 : 65536 < s.size
  · go_enter Tryd.func19, Tryd.ntmps19
    go_wp2_with fail
    go_ret3
    exact ⟨by rw [HP.out, if_pos h1]; rfl, rfl⟩
  by_cases h2 : a < 0
  · go_enter Tryd.func19, Tryd.ntmps19
    go_wp2_with fail
    go_ret3
    exact ⟨by rw [HP.out, if_neg h1, if_pos (.inl h2)]; rfl, rfl⟩
  by_cases h3 : (s.size : Int) < a
  · go_enter Tryd.func19, Tryd.ntmps19
    go_wp2_with fail
    go_ret3
    exact ⟨by rw [HP.out, if_neg h1, if_pos (.inr h3)]; rfl, rfl⟩
  obtain ⟨k, rfl⟩ := Int.eq_ofNat_of_zero_le (show 0 ≤ a by omega)
  have hk : k ≤ s.size := by omega
  rw [Int.toNat_natCast, if_neg h1, if_neg (by omega)] at HP
  have hlen : (s.data.toList.take k).length = k := by rw [List.length_take, len_list]; omega
  have hline := place_line (s.data.toList.take k)
  have hcol := place_col (s.data.toList.take k)
  have hle := place_le (s.data.toList.take k)
  rw [hlen] at hcol hle
  generalize place (s.data.toList.take k) = pl at HP hline hcol hle
  obtain ⟨ln, cl⟩ := pl
  simp only at hline hcol hle HP
  have HLN := Lib.hid hline
  have HCL := Lib.hid hcol
  have hxs : (s.extract 0 k).size < 4611686018427387904 := by have := extract_take_le s k; omega
  clear hline hcol hlen h2 h3
  go_enter Tryd.func19, Tryd.ntmps19
  go_wp2_with fail
  refine (Tryd.strings_Count_one (s.extract 0 k) 10 _).mono ?_
  rintro e w' ⟨rfl, rfl⟩
  rw [extract_take_data]
  obtain ⟨cn, hcn⟩ : ∃ cn : Nat, cn = Lib.countByte (s.data.toList.take k) 10 := ⟨_, rfl⟩
  rw [← hcn] at HLN ⊢
  have hcl2 : cn ≤ 65536 := by have := HLN.out; omega
  clear hcn
  go_wp2_with fail
  refine (Tryd.strings_LastIndex (s.extract 0 k) _ hxs _).mono ?_
  rintro e w' ⟨rfl, rfl⟩
  rw [extract_take_data]
  obtain ⟨li, hli⟩ : ∃ li : Int, li = Lib.lastIndex (s.data.toList.take k) [10] := ⟨_, rfl⟩
  rw [show Lib.lastIndex (s.data.toList.take k) ({ data := #[10] } : ByteArray).data.toList = li from hli.symm]
  rw [← hli] at HCL
  have hb1 : -1 ≤ li := by have := HCL.out; omega
  have hb2 : li ≤ k := by have := HCL.out; omega
  clear hli
  go_wp2_with fail
  go_ret3
  refine ⟨?_, rfl⟩
  rw [HP.out, placeV]
  have e1 := HLN.out
  have e2 := HCL.out
  have f1 : (1 + (cn : Int)) = (ln : Int) := by omega
  have f2 : ((k : Int) - li) = (cl : Int) := by omega
  rw [f1, f2]
  rfl
set_option maxHeartbeats 1000000 in
theorem ref_Position (s : ByteArray) (a : Int) (w : World) (hs : s.size ≤ maxLen) (ha : -9223372036854775808 ≤ a ∧ a ≤ 9223372036854775807) : Calls Tryd.prog 20 #[.string s, .int .i64 a] w fun e w' => e = .returned (placeV (placeOf s.data.toList a)) ∧ w = w' := by
  unfold maxLen at hs
  have hl := len_list s
  have HP : Hid (placeOf s.data.toList a = if 65536 < s.size then (0, 0, 3) else if a < 0 ∨ (s.size : Int) < a then (0, 0, 4) else ((place (s.data.toList.take a.toNat)).1, (place (s.data.toList.take a.toNat)).2, 0)) := by show _ = _; rw [placeOf, hl]
  clear hl
  by_cases h1 : 65536 < s.size
  · go_enter Tryd.func20, Tryd.ntmps20
    go_wp2_with fail
    go_ret3
    exact ⟨by rw [HP.out, if_pos h1]; rfl, rfl⟩
  by_cases h2 : a < 0
  · go_enter Tryd.func20, Tryd.ntmps20
    go_wp2_with fail
    go_ret3
    exact ⟨by rw [HP.out, if_neg h1, if_pos (.inl h2)]; rfl, rfl⟩
  by_cases h3 : (s.size : Int) < a
  · go_enter Tryd.func20, Tryd.ntmps20
    go_wp2_with fail
    go_ret3
    exact ⟨by rw [HP.out, if_neg h1, if_pos (.inr h3)]; rfl, rfl⟩
  obtain ⟨k, rfl⟩ := Int.eq_ofNat_of_zero_le (show 0 ≤ a by omega)
  have hk : k ≤ s.size := by omega
  rw [Int.toNat_natCast, if_neg h1, if_neg (by omega)] at HP
  clear h2 h3
  go_enter Tryd.func20, Tryd.ntmps20
  go_wp2_with fail
  go_loop [7, 8, 9] (fun ln cl i => ∃ j : Nat, j ≤ k ∧ i = .int .i64 j ∧ ln = .int .i64 ((place (s.data.toList.take j)).1 : Nat) ∧ cl = .int .i64 ((place (s.data.toList.take j)).2 : Nat)) (fun _ _ i => k - (intOf i).toNat)
  case atStart => exact ⟨0, Nat.zero_le _, rfl, rfl, rfl⟩
  case round =>
    obtain ⟨j, hj, rfl, rfl, rfl⟩ := hrel
    have hle := place_le (s.data.toList.take j)
    have hlen : (s.data.toList.take j).length = j := by rw [List.length_take, len_list]; omega
    rw [hlen] at hle
    clear hlen
    by_cases hlt : j < k
    · have hjs : j < s.size := by omega
      have HT := Lib.hid (show place (s.data.toList.take (j + 1)) = stepLC (place (s.data.toList.take j)) s[j] by rw [take_snoc s j hjs, place_snoc])
      generalize place (s.data.toList.take j) = pl at hle HT ⊢
      obtain ⟨ln, cl⟩ := pl
      simp only at hle ⊢
      by_cases hc : s[j] = 10
      · have e1 : ((s[j].toNat : Int) == 10) = true := by rw [hc]; rfl
        have HS : Hid (stepLC (ln, cl) s[j] = (ln + 1, 1)) := by show _ = _; rw [stepLC, if_pos hc]
        clear hc
        go_wp2_with fail
        go_round
        case rel => exact ⟨j + 1, by omega, by go_num, by rw [HT.out, HS.out]; go_num, by rw [HT.out, HS.out]; rfl⟩
        case measure => simp [intOf]; omega
      · have hne : ¬ s[j].toNat = 10 := fun e => hc (UInt8.toNat_inj.1 e)
        have e1 : ((s[j].toNat : Int) == 10) = false := by rw [beq_eq_false_iff_ne]; omega
        have HS : Hid (stepLC (ln, cl) s[j] = (ln, cl + 1)) := by show _ = _; rw [stepLC, if_neg hc]
        clear hc hne
        go_wp2_with fail
        go_round
        case rel => exact ⟨j + 1, by omega, by go_num, by rw [HT.out, HS.out], by rw [HT.out, HS.out]; go_num⟩
        case measure => simp [intOf]; omega
    · obtain rfl : j = k := by omega
      go_wp2_with fail
      go_ret3
      exact ⟨by rw [HP.out]; rfl, rfl⟩
set_option maxHeartbeats 1000000 in
theorem law_LexPlaces (s : ByteArray) (a : Int) (w : World) (hs : s.size ≤ maxLen) (ha : (Lit.int .i64 a).wf = true) (hL : Laid w) : Calls Tryd.prog 7 #[.string s, .int .i64 a] w fun e w' => e = .returned (.bool true) ∧ Below w.heap.size w w' := by
  have HA := Lib.hid (bounds_i64 ha)
  have ha1 := (bounds_i64 ha).1
  have ha2 := (bounds_i64 ha).2
  have HL := Lib.hid hL
  have HS := Lib.hid hs
  unfold maxLen at hs
  have hl := len_list s
  have HP : Hid (placeOf s.data.toList a = if 65536 < s.size then (0, 0, 3) else if a < 0 ∨ (s.size : Int) < a then (0, 0, 4) else ((place (s.data.toList.take a.toNat)).1, (place (s.data.toList.take a.toNat)).2, 0)) := by show _ = _; rw [placeOf, hl]
  have HP1 : Hid (placeOf s.data.toList (a + 1) = if 65536 < s.size then (0, 0, 3) else if a + 1 < 0 ∨ (s.size : Int) < a + 1 then (0, 0, 4) else ((place (s.data.toList.take (a + 1).toNat)).1, (place (s.data.toList.take (a + 1).toNat)).2, 0)) := by show _ = _; rw [placeOf, hl]
  clear hl ha hL
  by_cases hbad : 65536 < s.size ∨ a < 0 ∨ (s.size : Int) < a
  · obtain ⟨er, her, HV⟩ : ∃ er : Nat, er ≠ 0 ∧ Hid (placeOf s.data.toList a = (0, 0, er)) := by
      by_cases h1 : 65536 < s.size
      · exact ⟨3, by omega, by show _ = _; rw [HP.out, if_pos h1]⟩
      · refine ⟨4, by omega, ?_⟩
        show _ = _
        rw [HP.out, if_neg h1, if_pos (by omega)]
    have her0 : ((er : Int) == 0) = false := by rw [beq_eq_false_iff_ne]; omega
    clear hbad her HP HP1
    go_enter Tryd.func7, Tryd.ntmps7
    go_wp2_with fail
    refine (lex_Position s a _ HS.out HA.out).mono ?_
    rintro e w' ⟨rfl, rfl⟩
    rw [HV.out, placeV]
    go_wp2_with fail
    refine (ref_Position s a _ HS.out HA.out).mono ?_
    rintro e w' ⟨rfl, rfl⟩
    rw [HV.out, placeV]
    go_wp2_with fail
    refine (law07_awake _ HL.out).mono ?_
    rintro e w4 ⟨rfl, hb4⟩
    have HB4 := Lib.hid hb4
    clear hb4
    go_wp2_with fail
    go_ret
    exact ⟨rfl, HB4.out⟩
  obtain ⟨k, rfl⟩ := Int.eq_ofNat_of_zero_le (show 0 ≤ a by omega)
  have hk : k ≤ s.size := by omega
  have h65 : ¬ 65536 < s.size := by omega
  rw [Int.toNat_natCast, if_neg h65, if_neg (by omega)] at HP
  rw [if_neg h65] at HP1
  have hlen : (s.data.toList.take k).length = k := by rw [List.length_take, len_list]; omega
  have hle := place_le (s.data.toList.take k)
  rw [hlen] at hle
  have HPL : Hid (∀ h : k < s.size, place (s.data.toList.take (k + 1)) = stepLC (place (s.data.toList.take k)) s[k]) := fun h => by rw [take_snoc s k h, place_snoc]
  generalize place (s.data.toList.take k) = pl at HP hle HPL
  obtain ⟨ln, cl⟩ := pl
  simp only at HP hle
  clear hbad hlen
  go_enter Tryd.func7, Tryd.ntmps7
  go_wp2_with fail
  refine (lex_Position s k _ HS.out HA.out).mono ?_
  rintro e w' ⟨rfl, rfl⟩
  rw [HP.out, placeV]
  go_wp2_with fail
  refine (ref_Position s k _ HS.out HA.out).mono ?_
  rintro e w' ⟨rfl, rfl⟩
  rw [HP.out, placeV]
  by_cases hlt : k < s.size
  · have hpl := HPL.out hlt
    rw [if_neg (by omega), show ((k : Int) + 1).toNat = k + 1 from by omega, hpl] at HP1
    clear hpl HPL
    go_wp2_with fail
    refine (lex_Position s ((k : Int) + 1) _ HS.out (by omega)).mono ?_
    rintro e w' ⟨rfl, rfl⟩
    rw [HP1.out, placeV]
    by_cases hc : s[k] = 10
    · have e1 : ((s[k].toNat : Int) == 10) = true := by rw [hc]; rfl
      rw [stepLC, if_pos hc]
      clear hc
      have e2 : (((ln + 1 : Nat) : Int) == (ln : Int) + 1) = true := by rw [beq_iff_eq]; omega
      go_wp2_with fail
      refine (law07_awake _ HL.out).mono ?_
      rintro e w4 ⟨rfl, hb4⟩
      have HB4 := Lib.hid hb4
      clear hb4
      go_wp2_with fail
      go_ret
      exact ⟨rfl, HB4.out⟩
    · have hne : ¬ s[k].toNat = 10 := fun e => hc (UInt8.toNat_inj.1 e)
      have e1 : ((s[k].toNat : Int) == 10) = false := by rw [beq_eq_false_iff_ne]; omega
      rw [stepLC, if_neg hc]
      clear hc hne
      have e2 : (((cl + 1 : Nat) : Int) == (cl : Int) + 1) = true := by rw [beq_iff_eq]; omega
      go_wp2_with fail
      refine (law07_awake _ HL.out).mono ?_
      rintro e w4 ⟨rfl, hb4⟩
      have HB4 := Lib.hid hb4
      clear hb4
      go_wp2_with fail
      go_ret
      exact ⟨rfl, HB4.out⟩
  · go_wp2_with fail
    refine (law07_awake _ HL.out).mono ?_
    rintro e w4 ⟨rfl, hb4⟩
    have HB4 := Lib.hid hb4
    clear hb4
    go_wp2_with fail
    go_ret
    exact ⟨rfl, HB4.out⟩
end Go.Proofs.YtfkdilbepddlfaaDoor
