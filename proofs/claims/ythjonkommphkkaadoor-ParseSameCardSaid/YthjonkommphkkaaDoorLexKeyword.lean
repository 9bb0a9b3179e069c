/-
  lex.Keyword and the reference's Keyword, walked.
-/
import Derived.Test.YthjonkommphkkaaDoorLexBytes
import Derived.Test.YthjonkommphkkaaDoorLexWorld
import Derived.Lib.Hide
import Derived.LoopTactic
import Derived.Laws.Rows
namespace Go.Proofs.YthjonkommphkkaaDoor
open Lx Go.RowKit
theorem kw_index (k : Nat) (hk : k < 17) : ∃ m : Bytes, kwList.drop k = m :: kwList.drop (k + 1) ∧ ∀ w, (Instr.index 113 (.agg kwCells) (.int .i64 (k : Int))).run Tryd.prog w = .ok (.string ⟨m.toArray⟩) w := by
  match k, hk with
  | 0, _ => exact ⟨_, rfl, fun _ => by kernel_rfl⟩
  | 1, _ => exact ⟨_, rfl, fun _ => by kernel_rfl⟩
  | 2, _ => exact ⟨_, rfl, fun _ => by kernel_rfl⟩
  | 3, _ => exact ⟨_, rfl, fun _ => by kernel_rfl⟩
  | 4, _ => exact ⟨_, rfl, fun _ => by kernel_rfl⟩
  | 5, _ => exact ⟨_, rfl, fun _ => by kernel_rfl⟩
  | 6, _ => exact ⟨_, rfl, fun _ => by kernel_rfl⟩
  | 7, _ => exact ⟨_, rfl, fun _ => by kernel_rfl⟩
  | 8, _ => exact ⟨_, rfl, fun _ => by kernel_rfl⟩
  | 9, _ => exact ⟨_, rfl, fun _ => by kernel_rfl⟩
  | 10, _ => exact ⟨_, rfl, fun _ => by kernel_rfl⟩
  | 11, _ => exact ⟨_, rfl, fun _ => by kernel_rfl⟩
  | 12, _ => exact ⟨_, rfl, fun _ => by kernel_rfl⟩
  | 13, _ => exact ⟨_, rfl, fun _ => by kernel_rfl⟩
  | 14, _ => exact ⟨_, rfl, fun _ => by kernel_rfl⟩
  | 15, _ => exact ⟨_, rfl, fun _ => by kernel_rfl⟩
  | 16, _ => exact ⟨_, rfl, fun _ => by kernel_rfl⟩
  | n + 17, h => omega
theorem kw_cell (k : Nat) (hk : k < 17) : ∃ m : Bytes, kwList.drop k = m :: kwList.drop (k + 1) ∧ kwCells[k]? = some (.string ⟨m.toArray⟩) := by
  match k, hk with
  | 0, _ => exact ⟨_, rfl, rfl⟩
  | 1, _ => exact ⟨_, rfl, rfl⟩
  | 2, _ => exact ⟨_, rfl, rfl⟩
  | 3, _ => exact ⟨_, rfl, rfl⟩
  | 4, _ => exact ⟨_, rfl, rfl⟩
  | 5, _ => exact ⟨_, rfl, rfl⟩
  | 6, _ => exact ⟨_, rfl, rfl⟩
  | 7, _ => exact ⟨_, rfl, rfl⟩
  | 8, _ => exact ⟨_, rfl, rfl⟩
  | 9, _ => exact ⟨_, rfl, rfl⟩
  | 10, _ => exact ⟨_, rfl, rfl⟩
  | 11, _ => exact ⟨_, rfl, rfl⟩
  | 12, _ => exact ⟨_, rfl, rfl⟩
  | 13, _ => exact ⟨_, rfl, rfl⟩
  | 14, _ => exact ⟨_, rfl, rfl⟩
  | 15, _ => exact ⟨_, rfl, rfl⟩
  | 16, _ => exact ⟨_, rfl, rfl⟩
  | n + 17, h => omega
theorem contains_hit {l m : Bytes} {r x : List Bytes} (h : (l == m) = true) (hx : x = m :: r) : x.contains l = true := by
  subst hx; simp only [List.contains_cons, h, Bool.true_or]
theorem contains_miss {l m : Bytes} {r x : List Bytes} (h : (l == m) = false) (hx : x = m :: r) : x.contains l = r.contains l := by
  subst hx; simp only [List.contains_cons, h, Bool.false_or]
theorem beq_flip {l m : Bytes} {b : Bool} (h : (l == m) = b) : (m == l) = b := by
  rw [← h, Bool.eq_iff_iff, beq_iff_eq, beq_iff_eq]; exact ⟨Eq.symm, Eq.symm⟩
set_option maxHeartbeats 400000 in
theorem lex_Keyword (s : ByteArray) (w : World) (hL : Laid w) : Calls Tryd.prog 79 #[.string s] w fun e w' => e = .returned (.bool (isKeyword s.data.toList)) ∧ w = w' := by
  obtain ⟨t, fr, hg⟩ := hL.kw
  clear hL
  have HG := Lib.hid hg
  clear hg
  go_enter Tryd.func79, Tryd.ntmps79
  go_wp2_with (refine wpList_load_row rfl 113 _ rfl 1 rfl t _ fr _ HG.out Tryd.underlying113 rfl (by kernel_rfl) ?_)
  go_loop [6] (fun i => ∃ k : Nat, k ≤ 17 ∧ i = .int .i64 k ∧ isKeyword s.data.toList = (kwList.drop k).contains s.data.toList) (fun i => 17 - (intOf i).toNat)
  case atStart => exact ⟨0, by omega, rfl, rfl⟩
  case round =>
    obtain ⟨k, hk, rfl, hr⟩ := hrel
    have HR := Lib.hid hr
    clear hr
    by_cases hlt : k < 17
    · obtain ⟨m, hm, hidx⟩ := kw_index k hlt
      have HM := Lib.hid hm
      clear hm
      cases he : s.toList == m
      · have HE := Lib.hid he
        go_wp2_with fail
        go_round
        case rel => exact ⟨k + 1, by omega, by go_num, by rw [HR.out, ← ByteArray.toList_eq]; exact contains_miss HE.out HM.out⟩
        case measure => simp [intOf]; omega
      · have HE := Lib.hid he
        go_wp2_with fail
        go_ret
        exact ⟨ret_bool (by rw [HR.out, ← ByteArray.toList_eq]; exact (contains_hit HE.out HM.out).symm), rfl⟩
    · go_wp2_with fail
      go_ret
      exact ⟨ret_bool (by rw [HR.out, List.drop_eq_nil_of_le (by simp [kwList]; omega)]; rfl), rfl⟩
set_option maxHeartbeats 400000 in
theorem ref_Keyword (s : ByteArray) (w : World) : Calls Tryd.prog 42 #[.string s] w fun e w' => e = .returned (.bool (isKeyword s.data.toList)) ∧ Below w.heap.size w w' := by
  go_enter Tryd.func42, Tryd.ntmps42
  go_wp2_with fail
  generalize hW : w.alloc (Obj.cells _ _) = w1
  have hb : Below w.heap.size w w1 := by rw [← hW]; exact (Below.refl _ _).alloc (Nat.le_refl _) _
  have hc : ∀ k, w1.cell? ⟨w.heap.size, k, none⟩ = kwCells[k]? := fun k => by rw [← hW]; exact World.cell?_alloc_new _ _ _ _
  have HC := Lib.hid hc
  clear hc hW
  go_loop [4] (fun i => ∃ k : Nat, k ≤ 17 ∧ i = .int .i64 k ∧ isKeyword s.data.toList = (kwList.drop k).contains s.data.toList) (fun i => 17 - (intOf i).toNat)
  case atStart => exact ⟨0, by omega, rfl, rfl⟩
  case round =>
    obtain ⟨k, hk, rfl, hr⟩ := hrel
    have HR := Lib.hid hr
    clear hr
    by_cases hlt : k < 17
    · obtain ⟨m, hm, hidx⟩ := kw_cell k hlt
      have hcell := (HC.out k).trans hidx
      have HM := Lib.hid hm
      clear hm hidx
      cases he : s.toList == m
      · have HE := Lib.hid he
        have he' := beq_flip he
        go_wp2_with fail
        go_round
        case rel => exact ⟨k + 1, by omega, by go_num, by rw [HR.out, ← ByteArray.toList_eq]; exact contains_miss HE.out HM.out⟩
        case measure => simp [intOf]; omega
      · have HE := Lib.hid he
        have he' := beq_flip he
        go_wp2_with fail
        go_ret
        exact ⟨ret_bool (by rw [HR.out, ← ByteArray.toList_eq]; exact (contains_hit HE.out HM.out).symm), hb⟩
    · go_wp2_with fail
      go_ret
      exact ⟨ret_bool (by rw [HR.out, List.drop_eq_nil_of_le (by simp [kwList]; omega)]; rfl), hb⟩
end Go.Proofs.YthjonkommphkkaaDoor
