/-
  lex.Join, walked.
-/
import Derived.Test.YthjonkommphkkaaGreatDoorRefTokens
import Derived.Test.YthjonkommphkkaaGreatDoorHasToks
import Derived.Deep.QuietTactic
import Derived.BigQuiet
import Derived.Test.YthjonkommphkkaaGreatDoorBuilder
namespace Go.Proofs.YthjonkommphkkaaGreatDoor
open Lx Go.RowKit
namespace Lx
def joinStep (acc : Bytes) (t : Tok) : Bytes := if t.text = [] then acc else if acc = [] then t.text else acc ++ 32 :: t.text
def joinOf (ts : List Tok) : Bytes := ts.foldl joinStep []
def bulk (ts : List Tok) : Nat := (ts.map fun t => t.text.length + 1).sum
theorem joinOf_snoc (ts : List Tok) (t : Tok) : joinOf (ts ++ [t]) = joinStep (joinOf ts) t := by unfold joinOf; rw [List.foldl_append]; rfl
theorem joinStep_len (acc : Bytes) (t : Tok) : (joinStep acc t).length ≤ acc.length + (t.text.length + 1) := by
  unfold joinStep; split
  · omega
  · split
    · omega
    · simp
theorem bulk_snoc (ts : List Tok) (t : Tok) : bulk (ts ++ [t]) = bulk ts + (t.text.length + 1) := by simp [bulk]
theorem join_foldl_len (ts : List Tok) : ∀ acc : Bytes, (ts.foldl joinStep acc).length ≤ acc.length + bulk ts := by
  induction ts with
  | nil => intro acc; simp [bulk]
  | cons t r ih =>
    intro acc
    have h1 := ih (joinStep acc t)
    have h2 := joinStep_len acc t
    simp only [List.foldl_cons, bulk, List.map_cons, List.sum_cons] at h1 ⊢
    omega
theorem joinOf_len (ts : List Tok) : (joinOf ts).length ≤ bulk ts := by have := join_foldl_len ts []; simpa [joinOf] using this
theorem bulk_take (ts : List Tok) (k : Nat) (h : k < ts.length) : bulk (ts.take k) + (ts[k].text.length + 1) ≤ bulk ts := by
  have e : ts = ts.take k ++ ts[k] :: ts.drop (k + 1) := by rw [← List.drop_eq_getElem_cons h, List.take_append_drop]
  conv => rhs; rw [e]
  unfold bulk
  rw [List.map_append, List.sum_append, List.map_cons, List.sum_cons]; omega
theorem take_snoc_tok (ts : List Tok) (k : Nat) (h : k < ts.length) : ts.take (k + 1) = ts.take k ++ [ts[k]] := List.take_succ_eq_append_getElem h
end Lx
theorem HasToks.cellsAt {w : World} {g n cap : Nat} {ts : List Tok} (h : HasToks w (.slice (some ⟨g, 0, none⟩) n cap) ts) (i : Nat) (hi : i < ts.length) : w.cell? ⟨g, i * 4, none⟩ = some (.int .i64 (ts[i].kind : Int)) ∧ w.cell? ⟨g, i * 4 + 1, none⟩ = some (.int .i64 (ts[i].pos : Int)) ∧
    w.cell? ⟨g, i * 4 + 2, none⟩ = some (.string (strOf ts[i].text)) ∧ w.cell? ⟨g, i * 4 + 3, none⟩ = some (.int .i64 (ts[i].n : Int)) := by
  rcases h with ⟨h, _⟩ | ⟨g', cap', h, _, hc⟩
  · cases h
  · cases h; exact hc i hi
theorem builder_later {T e : TypeId} {B b : Nat} {bs : List Value} {w : World} (h : Lib.BuilderAtF T e B b (.pointer (some ⟨b, 0, none⟩)) bs w) : Lib.IsBuilderF T e B b bs w := .inr h
theorem cells_app (l tx : Bytes) : Lib.byteCells l ++ Lib.strCells (strOf tx) = Lib.byteCells (l ++ tx) := by
  rw [Lib.byteCells_append, Lib.strCells_eq, strOf_data]
def JoinRel (ts : List Tok) (w : World) (ix : Value) (wr : World) : Prop :=
  ∃ k : Nat, k ≤ ts.length ∧ ix = .int .i64 k ∧ Lib.IsBuilderF 84 5 w.heap.size w.heap.size (Lib.byteCells (joinOf (ts.take k))) wr ∧ Below w.heap.size w wr ∧ w.heap.size < wr.heap.size
set_option maxHeartbeats 2000000 in
theorem lex_Join (v : Value) (ts : List Tok) (w : World) (hv : HasToks w v ts) (hpos : 0 < ts.length) (hb : bulk ts ≤ 1000000) : Calls Tryz.prog 21 #[v] w fun e w' => e = .returned (.string (strOf (joinOf ts))) ∧ Below w.heap.size w w' := by
  obtain ⟨g, cap, rfl, hm⟩ : ∃ g cap, v = .slice (some ⟨g, 0, none⟩) ts.length cap ∧ ts.length ≤ maxLen := by
    rcases hv.form with ⟨rfl, _⟩ | ⟨_, g, cap, h, hm, _⟩
    · simp at hpos
    · exact ⟨g, cap, h, hm⟩
  have HV := Lib.hid hv
  clear hv
  unfold maxLen at hm
  obtain ⟨n, hn⟩ : ∃ n, n = ts.length := ⟨_, rfl⟩
  rw [← hn] at hpos hm ⊢
  have HN := Lib.hid hn
  clear hn
  have hI0 : Lib.IsBuilderF 84 5 w.heap.size w.heap.size [] (w.alloc (.cells #[.pointer none, .slice none 0 0] 84)) := .of (Lib.fresh_isBuilder _ _ w)
  have HI0 := Lib.hid hI0
  clear hI0
  go_enter Tryz.func21, Tryz.ntmps21
  go_wp2_with fail
  go_loopw [8] (fun ix wr => JoinRel ts w ix wr) (fun ix _ => n - (intOf ix).toNat)
  case atStart => exact ⟨0, Nat.zero_le _, rfl, HI0.out, (Below.refl _ _).alloc (Nat.le_refl _) _, by simp⟩
  case round =>
    obtain ⟨k, hk, rfl, hI, hbel, hsz⟩ := hrel
    have HI := Lib.hid hI
    have HB := Lib.hid hbel
    have HV2 : Hid (HasToks wr (.slice (some ⟨g, 0, none⟩) n cap) ts) := by rw [HN.out] at *; exact HV.out.below hbel
    clear hI hbel
    by_cases hlt : k < n
    · have hlt' : k < ts.length := by rw [← HN.out]; exact hlt
      obtain ⟨c0, c1, c2, c3⟩ := HV2.out.cellsAt k hlt'
      have HT := Lib.hid (take_snoc_tok ts k hlt')
      have hbk := bulk_take ts k hlt'
      have hjl := joinOf_len (ts.take k)
      generalize ts[k]'hlt' = t at c0 c1 c2 c3 HT hbk
      obtain ⟨kd, ps, tx, nv⟩ := t
      simp only at c0 c1 c2 c3 hbk
      have HJ : Hid (joinOf (ts.take (k + 1)) = joinStep (joinOf (ts.take k)) ⟨kd, ps, tx, nv⟩) := by show _ = _; rw [HT.out, joinOf_snoc]
      generalize joinOf (ts.take k) = acc at HI HJ hjl
      by_cases htx : tx = []
      · have e1 : (strOf tx).toList.isEmpty = true := by rw [ByteArray.toList_eq, strOf_data, htx]; rfl
        have HJ2 : Hid (joinOf (ts.take (k + 1)) = acc) := by show _ = _; rw [HJ.out, joinStep, if_pos htx]
        clear htx HJ
        go_wp2_with fail
        go_roundw
        case rel => exact ⟨k + 1, hlt', by go_num, by rw [HJ2.out]; exact HI.out.alloc _, HB.out.alloc (by omega) _, by simp; omega⟩
        case measure => simp [intOf]; omega
      · have e1 : (strOf tx).toList.isEmpty = false := by rw [ByteArray.toList_eq, strOf_data]; cases tx with
          | nil => exact absurd rfl htx
          | cons a b => rfl
        have hsize := strOf_size tx
        have hcl : (Lib.byteCells acc).length = acc.length := Lib.byteCells_length _
        go_wp2_with fail
        refine (Tryz.bld_Len _ _ _ _ (HI.out.alloc _)).mono ?_
        rintro e w' ⟨rfl, rfl⟩
        rw [hcl]
        by_cases hacc : acc = []
        · subst hacc
          have HJ2 : Hid (joinOf (ts.take (k + 1)) = tx) := by show _ = _; rw [HJ.out, joinStep, if_neg htx, if_pos rfl]
          clear HJ htx hcl
          go_wp2_with fail
          refine (Tryz.bld_WriteString _ _ _ _ _ (HI.out.alloc _) (by rw [hsize, Lib.byteCells_length]; simp; omega) (by simp; omega)).mono ?_
          rintro e W2 ⟨rfl, hB2, hb2, hk2⟩
          have HI2 : Hid (Lib.IsBuilderF 84 5 w.heap.size w.heap.size (Lib.byteCells tx) W2) := by
            have h3 := builder_later hB2
            rw [cells_app] at h3
            exact (by simpa using h3 : Lib.IsBuilderF _ _ _ _ _ _)
          have HB2 : Hid (Below w.heap.size w W2) := (HB.out.alloc (by omega) _).trans hb2
          have hs2 : wr.heap.size < W2.heap.size := by have := hb2.size; simp at this; omega
          clear hB2 hb2 hk2
          go_wp2_with fail
          go_roundw
          case rel => exact ⟨k + 1, hlt', by go_num, by rw [HJ2.out]; exact HI2.out, HB2.out, by omega⟩
          case measure => simp [intOf]; omega
        · have HJ2 : Hid (joinOf (ts.take (k + 1)) = acc ++ 32 :: tx) := by show _ = _; rw [HJ.out, joinStep, if_neg htx, if_neg hacc]
          have hal : 0 < acc.length := by cases acc with
            | nil => exact absurd rfl hacc
            | cons a b => simp
          clear HJ htx hacc
          go_wp2_with fail
          refine (Tryz.bld_WriteByte _ _ _ _ _ (HI.out.alloc _) (by rw [Lib.byteCells_length]; omega) (by simp; omega)).mono ?_
          rintro e W2 ⟨rfl, hB2, hb2, hk2⟩
          have HI2 : Hid (Lib.IsBuilderF 84 5 w.heap.size w.heap.size (Lib.byteCells (acc ++ [32])) W2) := by
            have h3 := builder_later hB2
            have e3 : Lib.byteCells acc ++ [.int .u8 32] = Lib.byteCells (acc ++ [32]) := by unfold Lib.byteCells; rw [List.map_append]; rfl
            rw [e3] at h3
            exact h3
          have HB2 : Hid (Below w.heap.size w W2) := (HB.out.alloc (by omega) _).trans hb2
          have hs2 : wr.heap.size < W2.heap.size := by have := hb2.size; simp at this; omega
          have hblk : W2.heap[wr.heap.size]? = some (.cells #[.int .i64 (kd : Int), .int .i64 (ps : Int), .string (strOf tx), .int .i64 (nv : Int)] 58) := hk2 _ _ (heap_alloc_new _ _) (by simp; omega) (fun c fz h => by cases h)
          have hcell : W2.cell? ⟨wr.heap.size, 2, none⟩ = some (.string (strOf tx)) := by simp [World.cell?, hblk]
          clear hB2 hb2 hk2 hblk
          go_wp2_with fail
          refine (Tryz.bld_WriteString _ _ _ _ _ HI2.out (by rw [hsize, Lib.byteCells_length]; simp; omega) (by omega)).mono ?_
          rintro e W3 ⟨rfl, hB3, hb3, _⟩
          have HI3 : Hid (Lib.IsBuilderF 84 5 w.heap.size w.heap.size (Lib.byteCells (acc ++ 32 :: tx)) W3) := by
            have h3 := builder_later hB3
            rw [cells_app] at h3
            exact (by simpa using h3 : Lib.IsBuilderF _ _ _ _ _ _)
          have HB3 : Hid (Below w.heap.size w W3) := HB2.out.trans hb3
          have hs3 : wr.heap.size < W3.heap.size := by have := hb3.size; omega
          clear hB3 hb3
          go_wp2_with fail
          go_roundw
          case rel => exact ⟨k + 1, hlt', by go_num, by rw [HJ2.out]; exact HI3.out, HB3.out, by omega⟩
          case measure => simp [intOf]; omega
    · have hall : ts.take k = ts := List.take_of_length_le (by have := HN.out; omega)
      rw [hall] at HI
      clear hall
      go_wp2_with fail
      refine (Tryz.bld_String _ _ _ _ HI.out (by omega)).mono ?_
      rintro e W2 ⟨rfl, _, hb2, _⟩
      have HB2 : Hid (Below w.heap.size w W2) := HB.out.trans hb2
      clear hb2
      go_wp2_with fail
      go_ret
      exact ⟨rfl, HB2.out⟩
end Go.Proofs.YthjonkommphkkaaGreatDoor
