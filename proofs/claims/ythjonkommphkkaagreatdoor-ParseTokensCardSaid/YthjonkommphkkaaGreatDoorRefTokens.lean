/-
  The reference's Tokens, walked.
-/
import Derived.Test.YthjonkommphkkaaGreatDoorRefOne
import Derived.Test.YthjonkommphkkaaGreatDoorRefSkip
import Derived.Test.YthjonkommphkkaaGreatDoorLexTokens
namespace Go.Proofs.YthjonkommphkkaaGreatDoor
open Lx Go.RowKit
namespace Lx
theorem skipB_idem (b : Bool) (l : Bytes) : skipB false (skipB b l) = skipB b l := by
  induction l generalizing b with
  | nil => cases b <;> simp [skipB]
  | cons c t ih =>
    cases b
    · by_cases h1 : isSep c = true
      · simp only [skipB, h1, if_true]; exact ih _
      · by_cases h2 : opens c t = true
        · simp only [skipB, h1, h2]; exact ih _
        · simp only [skipB, h1, h2]
          simp [skipB, h1, h2]
    · by_cases h1 : c.toNat = 10
      · simp only [skipB, h1, if_true]; exact ih _
      · simp only [skipB, h1, if_false]; exact ih _
theorem lexAt_skip (p : Nat) (l : Bytes) : lexAt false p l = lexAt false (p + (l.length - (skipB false l).length)) (skipB false l) := by
  rw [lexAt_eq, lexAt_eq false _ (skipB false l), skipB_idem]
  have hle := skipB_le false l
  generalize skipB false l = r at hle
  cases r with
  | nil => simp
  | cons c t => simp
theorem lexAt_skipPos (l : Bytes) (p : Nat) (hp : p ≤ l.length) : lexAt false p (l.drop p) = lexAt false (skipPos false l p) (l.drop (skipPos false l p)) := by
  have hle := skipB_le false (l.drop p)
  rw [List.length_drop] at hle
  rw [lexAt_skip, drop_skipPos]
  congr 1
  unfold skipPos
  rw [List.length_drop]; omega
/-- The state of the reference's loop: it stands at a token or at the end. -/
def Stands (l : Bytes) (p : Nat) (out : List Tok) : Prop := skipB false (l.drop p) = l.drop p ∧ lexAt false 0 l = after out (lexAt false p (l.drop p))
theorem stands_start (l : Bytes) : Stands l (skipPos false l 0) [] := by
  refine ⟨by rw [drop_skipPos, skipB_idem], ?_⟩
  rw [after_nil, ← lexAt_skipPos l 0 (Nat.zero_le _)]; rfl
theorem stands_at {s : ByteArray} {p : Nat} {out : List Tok} (h : Stands s.data.toList p out) (hp : p < s.size) : isSep s[p] = false ∧ opens s[p] (s.data.toList.drop (p + 1)) = false := by
  have h1 := h.1
  rw [drop_cons s p hp] at h1
  by_cases c1 : isSep s[p] = true
  · simp only [skipB, c1, if_true] at h1
    have := skipB_le false (s.data.toList.drop (p + 1))
    rw [h1] at this; simp at this; omega
  · by_cases c2 : opens s[p] (s.data.toList.drop (p + 1)) = true
    · simp only [skipB, c1, c2] at h1
      have := skipB_le true (s.data.toList.drop (p + 1))
      simp at h1
      rw [h1] at this; simp at this; omega
    · exact ⟨by simpa using c1, by simpa using c2⟩
theorem stands_bad {s : ByteArray} {p e : Nat} {out : List Tok} (h : Stands s.data.toList p out) (hp : p < s.size) (ht : oneTok (s.data.toList.drop p) = .bad e) : lexAt false 0 s.data.toList = .error (p, e) := by
  have hs := stands_at h hp
  have e0 := drop_cons s p hp
  rw [e0] at ht
  rw [h.2, e0, lexAt_bad hs.1 hs.2 ht]; rfl
theorem stands_ok {s : ByteArray} {p k m n : Nat} {out : List Tok} (h : Stands s.data.toList p out) (hp : p < s.size) (ht : oneTok (s.data.toList.drop p) = .ok k m n) :
    Stands s.data.toList (skipPos false s.data.toList (p + m)) (out ++ [⟨k, p, (s.data.toList.drop p).take m, n⟩]) := by
  have hs := stands_at h hp
  have hb := oneTok_bounds ht
  rw [List.length_drop, len_list] at hb
  refine ⟨by rw [drop_skipPos, skipB_idem], ?_⟩
  rw [← lexAt_skipPos _ _ (by rw [len_list]; omega)]
  have e := drop_cons s p hp
  rw [e] at ht
  rw [h.2, e, lexAt_ok hs.1 hs.2 ht, after_after, ← e, List.drop_drop]
theorem stands_end {s : ByteArray} {p : Nat} {out : List Tok} (h : Stands s.data.toList p out) (hp : p = s.size) : lexAt false 0 s.data.toList = .ok (out ++ [⟨5, s.size, [], 0⟩]) := by
  subst hp
  rw [h.2, List.drop_eq_nil_of_le (by rw [len_list]; exact Nat.le_refl _), lexAt_nil]; rfl
end Lx
def RefRel (s : ByteArray) (w : World) (v a : Value) (wr : World) : Prop :=
  ∃ (p : Nat) (out : List Tok), a = .int .i64 p ∧ p ≤ s.size ∧ out.length ≤ p ∧ wr.ownsRow w.heap.size 58 4 v out.length (toksCells out) ∧ Below w.heap.size w wr ∧ Stands s.data.toList p out
theorem ref_step {w W1 W2 w1 : World} {n : Nat} {v : Value} {xs : List Value} (o2 : Obj) (cs : Array Value) (hb : Below w.heap.size w W1)
    (ho : W1.ownsRow w.heap.size 58 4 v n xs) (hb2 : Below W1.heap.size W1 W2) (hg : ((W2.alloc (.cells cs 58)).alloc o2).grownBy w1 v.ownBlock) :
    Below w.heap.size w w1 ∧ ∀ j, w1.cell? ⟨W2.heap.size, j, none⟩ = cs[j]? := by
  have ho2 := own_below ho hb2
  have hrow : ∀ k, v.ownBlock = some k → w.heap.size ≤ k ∧ k < W2.heap.size := ho2.lt
  have hsz := hb2.size
  have hs1 : (W2.alloc (.cells cs 58)).heap.size = W2.heap.size + 1 := by simp
  have hs2 : ((W2.alloc (.cells cs 58)).alloc o2).heap.size = W2.heap.size + 2 := by simp
  have hbs := hb.size
  refine ⟨?_, ?_⟩
  · exact Below.grown (((hb.trans (hb2.mono hbs)).alloc (by omega) _).alloc (by omega) _) hg (by omega) (fun k e => by have := hrow k e; omega)
  · intro j
    rw [World.cell?_of_block (w := (W2.alloc (.cells cs 58)).alloc o2) (hg.block _ (by simp; omega) (fun e => by have := hrow _ e.symm; simp at this))]
    rw [World.cell?_of_block (w := W2.alloc (.cells cs 58)) (Below.heap_alloc _ _ _ (by simp))]
    exact World.cell?_alloc_new _ _ _ _
set_option maxHeartbeats 1000000 in
set_option maxRecDepth 100000 in
theorem ref_Tokens (s : ByteArray) (w : World) (hs : s.size ≤ maxLen) : Calls Tryz.prog 20 #[.string s] w (LexP (tokensOf s.data.toList) w) := by
  unfold maxLen at hs
  by_cases h1 : 65536 < s.size
  · go_enter Tryz.func20, Tryz.ntmps20
    go_wp2_with fail
    go_ret3
    refine ⟨Below.refl _ _, ?_⟩
    rw [tokensOf, if_pos (by rw [len_list]; exact h1)]
    rfl
  have HT : Hid (tokensOf s.data.toList = lexAt false 0 s.data.toList) := by show _ = _; rw [tokensOf, if_neg (by rw [len_list]; exact h1)]
  have hlen := len_list s
  have hle0 := skipPos_le s.data.toList 0
  rw [hlen] at hle0
  clear hlen
  go_enter Tryz.func20, Tryz.ntmps20
  go_wp2_with fail
  refine (ref_skip s 0 _ (by omega) (by omega) (by omega)).mono ?_
  rintro e w' ⟨rfl, rfl⟩
  have HST : Hid (Stands s.data.toList (skipPos false s.data.toList (0 : Int).toNat) []) := stands_start _
  rw [show (0 : Int).toNat = 0 from rfl] at HST ⊢
  generalize skipPos false s.data.toList 0 = p0 at hle0 HST ⊢
  go_wp2_with fail
  go_loopw [5, 6] (fun v a wr => RefRel s w v a wr) (fun _ a _ => s.size - (intOf a).toNat)
  case atStart => exact ⟨p0, [], rfl, hle0, Nat.zero_le _, World.ownsRow_nil _ _ _ _, Below.refl _ _, HST.out⟩
  case round =>
    obtain ⟨p, out, rfl, hp, hol, hown, hbel, hst⟩ := hrel
    have HO := Lib.hid hown
    have HB := Lib.hid hbel
    have HS := Lib.hid hst
    have hws : w.heap.size ≤ wr.heap.size := hbel.size
    clear hown hbel hst HST
    obtain ⟨i0, hi, hz0, hz1, hz2⟩ := info_parts Tryz.infoTok
    have HI := Lib.hid hi
    have HZ0 := Lib.hid hz0
    have HZ1 := Lib.hid hz1
    have HZ2 := Lib.hid hz2
    clear hi hz0 hz1 hz2
    by_cases hlt : p < s.size
    · go_wp2_with fail
      refine (ref_one s p _ (by omega) hlt).mono ?_
      rintro e W2 ⟨rfl, hb2⟩
      have HB2 := Lib.hid hb2
      obtain ⟨hc, hf⟩ := bcell hb2
      have hz : wr.heap.size ≤ W2.heap.size := hb2.size
      clear hb2
      cases ht : oneTok (s.data.toList.drop p) with
      | bad er =>
        have HTK := Lib.hid ht
        have her : ((er : Int) == 0) = false := by rw [beq_eq_false_iff_ne]; have := oneTok_bad_pos ht; omega
        have her' : ((er : Int) != 0) = true := by rw [bne_iff_ne]; have := oneTok_bad_pos ht; omega
        simp only [oneV, tokAgg]
        go_wp2_with fail
        go_ret3
        refine ⟨(HB.out.trans (HB2.out.mono HB.out.size)).alloc (by omega) _, ?_⟩
        rw [HT.out, stands_bad HS.out hlt HTK.out]
        rfl
      | ok k m n' =>
        have HTK := Lib.hid ht
        have hmb := oneTok_bounds ht
        have hml : m ≤ s.size - p := by have := hmb.2; simpa using this
        have hmsz : (strOf ((s.data.toList.drop p).take m)).size = m := by rw [strOf_size]; simp; omega
        clear ht
        simp only [oneV, tokAgg]
        go_wp2_with (at_builtin; refine wpList_append_own _ rfl _ _ 53 rfl w.heap.size 58 i0 _ 4 40 Tryz.underlying53 HI.out HZ0.out HZ1.out HZ2.out rfl (by decide) _ _ _ rfl (((own_below HO.out HB2.out).alloc _).alloc _) ⟨W2.heap.size + 1, 0, none⟩ 1 1 (tokCells ⟨k, p, (s.data.toList.drop p).take m, n'⟩) rfl rfl ?c1 ?c2 ?c3 ?c4 ?c5 ?_)
        case c1 => exact fun j u h => by have h2 := cells4_new (W2.alloc (Obj.cells #[.int .i64 k, .int .i64 p, .string (strOf ((s.data.toList.drop p).take m)), .int .i64 n'] 58)) _ _ _ _ 58 j u h; rw [World.size_alloc] at h2; exact h2
        case c2 => intro u hu; simp [tokCells] at hu; rcases hu with rfl | rfl | rfl | rfl <;> rfl
        case c3 => unfold maxLen; omega
        case c4 => omega
        case c5 => simp; omega
        intro v' w1 hown' hgrow _
        obtain ⟨hbw, hcs⟩ := ref_step _ _ HB.out HO.out HB2.out hgrow
        have hcell := hcs 2
        simp only [List.getElem?_toArray] at hcell
        have HOW : Hid (w1.ownsRow w.heap.size 58 4 v' (out ++ [(⟨k, p, (s.data.toList.drop p).take m, n'⟩ : Tok)]).length (toksCells (out ++ [⟨k, p, (s.data.toList.drop p).take m, n'⟩]))) := by
          rw [toksCells_snoc, List.length_append]; exact hown'
        have HBW := Lib.hid hbw
        clear hbw hcs hown' hgrow
        go_wp2_with fail
        refine (ref_skip s ((p : Int) + (m : Int)) _ (by omega) (by omega) (by omega)).mono ?_
        rintro e w' ⟨rfl, rfl⟩
        rw [show ((p : Int) + (m : Int)).toNat = p + m from by omega]
        have hge := skipPos_ge s.data.toList (p + m) (by rw [len_list]; omega)
        have hle := skipPos_le s.data.toList (p + m)
        rw [len_list] at hle
        have HSN : Hid (Stands s.data.toList (skipPos false s.data.toList (p + m)) (out ++ [⟨k, p, (s.data.toList.drop p).take m, n'⟩])) := stands_ok HS.out hlt HTK.out
        generalize skipPos false s.data.toList (p + m) = q at hge hle HSN ⊢
        go_wp2_with fail
        go_roundw
        case rel => exact ⟨q, _, rfl, hle, by simp; omega, HOW.out, HBW.out, HSN.out⟩
        case measure => simp [intOf]; omega
    · go_wp2_with (at_builtin; refine wpList_append_own _ rfl _ _ 53 rfl w.heap.size 58 i0 _ 4 40 Tryz.underlying53 HI.out HZ0.out HZ1.out HZ2.out rfl (by decide) _ _ _ rfl (HO.out.alloc _) ⟨wr.heap.size, 0, none⟩ 1 1 (tokCells ⟨5, s.size, [], 0⟩) rfl rfl ?c1 ?c2 ?c3 ?c4 ?c5 ?_)
      case c1 => exact cells4_new _ _ _ _ _ _
      case c2 => intro u hu; simp [tokCells] at hu; rcases hu with rfl | rfl | rfl | rfl <;> rfl
      case c3 => unfold maxLen; omega
      case c4 => omega
      case c5 => simp; omega
      intro v' w1 hown' hgrow _
      go_wp2_with fail
      go_ret3
      refine ⟨Below.grown (HB.out.alloc (by omega) _) hgrow (by simp; omega) (fun k e => by have := HO.out.lt k e; omega), ?_⟩
      rw [HT.out, stands_end HS.out (by omega)]
      refine ⟨v', rfl, ?_⟩
      rw [toksCells_snoc, List.length_append]
      exact hown'
end Go.Proofs.YthjonkommphkkaaGreatDoor
